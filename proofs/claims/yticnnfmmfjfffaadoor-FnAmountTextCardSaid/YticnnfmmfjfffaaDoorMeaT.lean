/- The walks of the reference's functions on amounts. No condition but bounds on lengths. -/
import Derived.Test.YticnnfmmfjfffaaDoorMeaS
import Derived.Deep.RegionHeld3
namespace Go.Proofs.YticnnfmmfjfffaaDoor
open Go.RowKit
set_option linter.unusedVariables false

/-- the reference's empty list. -/
theorem retIB_mt {w w1 : World} {rs : List Int} {n : Int} (hn : n < 0) (hb : Below w.heap.size w w1) : RetIB w (aoZ rs n) (aoB rs n) (.returned (.tuple #[.slice (some ⟨w1.heap.size, 0, none⟩) 0 0, .bool false])) (w1.alloc (.cells #[] 3)) := by
  rw [aoZ_no (aoB_bad (.inl hn)), aoB_bad (.inl hn)]
  exact ⟨_, _, rfl, (ir_mt w1).from_ hb, below_then hb (below_new _ _)⟩
/-- the reference's two empty lists. -/
theorem retIIB_mt {w w1 : World} {rs : List Int} {x n : Int} (hn : ¬ (0 ≤ x ∧ 1 ≤ n ∧ n ≤ 100000)) (hb : Below w.heap.size w w1) : RetIIB w (shZ rs x n (x / n)) (shZ rs x n (x % n)) (shB x n) (.returned (.tuple #[.slice (some ⟨w1.heap.size, 0, none⟩) 0 0, .slice (some ⟨w1.heap.size + 1, 0, none⟩) 0 0, .bool false])) ((w1.alloc (.cells #[] 3)).alloc (.cells #[] 3)) := by
  rw [shZ_no (shB_no hn), shZ_no (shB_no hn), shB_no hn]
  have h1 := (ir_mt w1).from_ hb
  have h2 := ir_mt (w1.alloc (.cells #[] 3))
  refine ⟨_, _, _, _, rfl, h1.alloc _, ?_, ?_, below_then (below_then hb (below_new _ _)) (below_new _ _)⟩
  · simpa using h2.from_ (below_then hb (below_new _ _))
  · intro g h h'
    simp at h h'
    omega
theorem RD.cell {k : IntKind} {w : World} {B b off i : Nat} {zs : List Int} (h : RD k w B (some ⟨b, off, none⟩) zs) (hi : i < zs.length) : w.cell? ⟨b, off + i, none⟩ = some (.int k (ix zs i)) := by
  obtain ⟨b', off', e, _, hc⟩ := h (by omega)
  injection e with e
  injection e with e1 e2
  subst e1 e2
  exact hc i hi
theorem emod_le {m v : Int} (h0 : 0 ≤ m) (hv : 1 ≤ v) : m % v ≤ m := by
  have q1 := Int.mul_ediv_add_emod m v
  have q2 := Int.mul_nonneg (show 0 ≤ v by omega) (Int.ediv_nonneg h0 (show 0 ≤ v by omega))
  omega
theorem sAmountValid_any (A C : Option Addr) (c d : Nat) (rs ns : List Int) (w : World) (hA : RD .i64 w w.heap.size A rs) (hl : rs.length ≤ 1048576) (hC : RD .i64 w w.heap.size C ns) (hl2 : ns.length ≤ 1048576) :
    Calls Tryd.prog 18 #[.agg #[.slice A rs.length c], .slice C ns.length d] w fun e w' => e = .returned (.bool (nng (lst rs ns))) ∧ Below w.heap.size w w' := by
  obtain ⟨x, hx⟩ : ∃ x, lst rs ns = x := ⟨_, rfl⟩
  rw [hx]
  have HX := Lib.hid hx
  clear hx
  go_enter Tryd.func18, Tryd.ntmps18
  go_wp2_with fail
  refine (l7Least_any A C c d rs ns _ (hA.new _) hl (hC.new _) hl2).mono ?_
  rintro e w1 ⟨rfl, hb1⟩
  rw [HX.out]
  by_cases hx : 0 ≤ x
  · go_wp2_with fail
    go_ret
    exact ⟨by rw [nng_yes hx]; first | rfl | (exact ret_bool (by simp [hx])), below_then (below_new _ _) hb1⟩
  · go_wp2_with fail
    go_ret
    exact ⟨by rw [nng_no (by omega)]; first | rfl | (exact ret_bool (by simp; omega)), below_then (below_new _ _) hb1⟩

end Go.Proofs.YticnnfmmfjfffaaDoor
