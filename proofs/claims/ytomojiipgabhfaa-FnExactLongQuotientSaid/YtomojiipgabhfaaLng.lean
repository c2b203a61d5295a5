/- The walks of longDivision and of the function that it hands back. No condition but bounds. -/
import Derived.Test.YtomojiipgabhfaaIn
import Derived.RegionTactic
import Derived.ChangeAlike
import Derived.OneCell
namespace Go.Proofs.Ytomojiipgabhfaa
open Go.RowKit
set_option linter.unusedVariables false

/-- block g is one integer's box. -/
def Box (w : World) (g : Nat) (n : Int) : Prop := w.heap[g]? = some (.cells #[.int .i64 n] 3 (0, 0))
section
variable {w w' : World} {g : Nat} {n : Int}
theorem Box.lt (h : Box w g n) : g < w.heap.size := (Array.getElem?_eq_some_iff.1 h).1
theorem Box.cell (h : Box w g n) : w.cell? ⟨g, 0, none⟩ = some (.int .i64 n) := by
  have := cell_of_row w g 0 #[.int .i64 n] 3 (0, 0) h
  simpa using this
theorem Box.frozen (h : Box w g n) : w.frozen? ⟨g, 0, none⟩ = false := by
  unfold Box at h
  simp [World.frozen?, h]
theorem Box.new (w : World) (n : Int) : Box (w.alloc (.cells #[.int .i64 n] 3)) w.heap.size n := heap_alloc_new w _
theorem Box.alloc (h : Box w g n) (o : Obj) : Box (w.alloc o) g n := (Below.heap_alloc w o g h.lt).trans h
theorem Box.drewN (h : Box w g n) (k : Nat) : Box (w.drewN k) g n := h
theorem Box.below {B : Nat} (h : Box w g n) (hb : Below B w w') (hg : g < B) : Box w' g n := (hb.block g hg).trans h
theorem Box.grown {row : Option Nat} (h : Box w g n) (hb : w.grownBy w' row) (hg : some g ≠ row) : Box w' g n := (hb.block g h.lt hg).trans h
theorem Box.set (h : Box w g n) (m : Int) : Box (w.setCell ⟨g, 0, none⟩ (.int .i64 m)) g m := by
  unfold Box at h ⊢
  simp [World.setCell, Array.getElem?_modify, h]
theorem Box.far (h : Box w g n) {p : Addr} (hp : g ≠ p.block) (u : Value) : Box (w.setCell p u) g n := (Below.heap_setCell w p u g hp).trans h
end

set_option maxHeartbeats 1000000 in
theorem longStep_any (gr gd : Nat) (rest divisor digit : Int) (w : World) (hR : Box w gr rest) (hD : Box w gd divisor) (hne : gr ≠ gd)
    (r0 : 0 ≤ rest) (r1 : rest ≤ 1000000000000) (d0 : 1 ≤ divisor) (d1 : divisor ≤ 1000000000000) (g0 : 0 ≤ digit) (g1 : digit ≤ 9) :
    Calls Try.prog 48 #[.int .i64 digit, .pointer (some ⟨gr, 0, none⟩), .pointer (some ⟨gd, 0, none⟩)] w fun e w' =>
      e = .returned (.agg #[.int .i64 ((rest * 10 + digit) / divisor), .int .i64 ((rest * 10 + digit) % divisor)]) ∧ Box w' gr ((rest * 10 + digit) % divisor) ∧ w.grownBy w' (some gr) := by
  have c1 := hR.cell
  have f1 := hR.frozen
  have c2 := hD.cell
  have l1 := hR.lt
  have l2 := hD.lt
  have hq := IntWalk.i64_quo (rest * 10 + digit) divisor ⟨by omega, by omega, by omega⟩
  have hb1 : ¬ divisor = 0 := by omega
  have m1 := Int.emod_nonneg (rest * 10 + digit) (show divisor ≠ 0 by omega)
  have m2 := Int.emod_lt_of_pos (rest * 10 + digit) (show 0 < divisor by omega)
  go_enter Try.func48, Try.ntmps48
  go_wp2_with fail
  go_region
  go_wp2_with fail
  refine bodyPost_ret (v := .agg #[.int .i64 ((rest * 10 + digit) / divisor), .int .i64 ((rest * 10 + digit) % divisor)]) (by simp [results, Try.results48, go_sem]) rfl ⟨rfl, ?_, ?_⟩
  · exact (hR.set _).alloc _
  · refine ⟨rfl, rfl, rfl, by simp [World.setCell], fun k hk hkne => ?_⟩
    rw [show ∀ W : World, W.drew.heap = W.heap from fun _ => rfl, Below.heap_alloc _ _ _ (by simpa [World.setCell] using hk), Below.heap_setCell _ _ _ _ (fun e => hkne (by rw [e]))]

/-- what longDivision hands back: the function over two boxes. -/
theorem longDivision_any (divisor rest : Int) (w : World) :
    Calls Try.prog 45 #[.int .i64 divisor, .int .i64 rest] w fun e w' => e = .returned (.func (.func 48) #[] #[.pointer (some ⟨w.heap.size + 1, 0, none⟩), .pointer (some ⟨w.heap.size, 0, none⟩)]) ∧
      Box w' w.heap.size divisor ∧ Box w' (w.heap.size + 1) rest ∧ Below w.heap.size w w' ∧ w.heap.size + 2 ≤ w'.heap.size := by
  go_enter Try.func45, Try.ntmps45
  go_wp2_with fail
  go_ret
  refine ⟨rfl, (Box.new w divisor).alloc _, ?_, ((Below.refl _ _).alloc (Nat.le_refl _) _).alloc (by simp) _, by simp⟩
  have := Box.new (w.alloc (.cells #[.int .i64 divisor] 3)) rest
  simpa using this

end Go.Proofs.Ytomojiipgabhfaa
