/- The walks of the reader of codes: l6Open and pick. No condition but bounds. -/
import Derived.Test.YticnnfmmfjfffaaDoorIn
import Derived.Laws.BitsAllLaws
import Derived.Laws.BitsLemmas
namespace Go.Proofs.YticnnfmmfjfffaaDoor
open Go.RowKit
set_option linter.unusedVariables false

/-- block g is a reader at place p over a code in memory below B. -/
def Rdr (w : World) (B g : Nat) (p : Int) : Prop := ∃ (A : Option Addr) (c : Nat) (zs : List Int), w.heap[g]? = some (.cells #[.slice A zs.length c, .int .i64 p] 48 (0, 0)) ∧
  zs.length ≤ 2000 ∧ RD .u8 w B A zs ∧ B ≤ g ∧ ∀ i, i < zs.length → 0 ≤ ix zs i ∧ ix zs i ≤ 255
section
variable {w w' : World} {B g : Nat} {p : Int}
theorem Rdr.lt (h : Rdr w B g p) : B ≤ g ∧ g < w.heap.size := by
  obtain ⟨A, c, zs, hh, _, _, hB, _⟩ := h
  exact ⟨hB, (Array.getElem?_eq_some_iff.1 hh).1⟩
theorem Rdr.grown {row : Option Nat} (h : Rdr w B g p) (hb : w.grownBy w' row) (hr : ∀ k, row = some k → B ≤ k ∧ k ≠ g) : Rdr w' B g p := by
  have hl := h.lt
  obtain ⟨A, c, zs, hh, h1, h2, h3, h4⟩ := h
  refine ⟨A, c, zs, (hb.block g hl.2 (fun e => (hr g e.symm).2 rfl)).trans hh, h1, h2.keep fun q hq => World.cell?_of_block (hb.block q.block (by omega) (fun e => ?_)), h3, h4⟩
  have := (hr _ e.symm).1
  omega
theorem Rdr.below (h : Rdr w B g p) (hb : Below w.heap.size w w') : Rdr w' B g p := h.grown (row := none) ⟨hb.os, hb.tape, hb.output, hb.size, fun k hk _ => hb.block k hk⟩ (fun _ e => by cases e)
theorem Rdr.alloc (h : Rdr w B g p) (o : Obj) : Rdr (w.alloc o) B g p := h.below ((Below.refl _ _).alloc (Nat.le_refl _) _)
theorem Rdr.drewN (h : Rdr w B g p) (n : Nat) : Rdr (w.drewN n) B g p := h
end

theorem u8_bounds {n : Int} (h : (Lit.int .u8 n).wf = true) : 0 ≤ n ∧ n ≤ 255 := by
  have h' : IntKind.u8.min ≤ n ∧ n ≤ IntKind.u8.max := by simpa [Lit.wf] using h
  have e1 : IntKind.u8.min = 0 := by rfl
  have e2 : IntKind.u8.max = 255 := by rfl
  omega

theorem ix_mem (zs : List Int) {i : Nat} (h : i < zs.length) : ix zs i ∈ zs := by rw [ix_eq zs h]; exact List.getElem_mem _

theorem l6Open_any (A : Option Addr) (len cap : Nat) (zs : List Int) (w : World) (hs : Sl .u8 w A len cap zs) :
    Calls Tryd.prog 14 #[.slice A len cap] w fun e w' => ∃ g, e = .returned (.pointer (some ⟨g, 0, none⟩)) ∧ Rdr w' w.heap.size g 0 ∧ Below w.heap.size w w' := by
  obtain ⟨rfl, hlc, hcm, hr, hwf⟩ := hs
  unfold maxLen at hcm
  by_cases hl : zs.length ≤ 2000
  · go_enter Tryd.func14, Tryd.ntmps14
    go_wp2_with fail
    go_ret
    refine ⟨w.heap.size, rfl, ⟨A, cap, zs, heap_alloc_new w _, hl, hr.alloc (Nat.le_refl _) _, Nat.le_refl _, fun i hi => u8_bounds (hwf _ (ix_mem zs hi))⟩, (Below.refl _ _).alloc (Nat.le_refl _) _⟩
  · have hl' : decide (2000 < zs.length) = true := by simp; omega
    have hl2 : (2000 : Int) ≤ cap := by omega
    obtain ⟨b, off, rfl, hb, hc⟩ := hr (by omega)
    go_enter Tryd.func14, Tryd.ntmps14
    go_wp2_with fail
    go_ret
    have hlen : (zs.take 2000).length = 2000 := by rw [List.length_take]; omega
    have hix : ∀ i, i < 2000 → ix (zs.take 2000) i = ix zs i := fun i hi => by simp [ix, List.getD_eq_getElem?_getD, hi]
    refine ⟨w.heap.size, rfl, ⟨some ⟨b, off, none⟩, cap, zs.take 2000, ?_, by omega, ?_, Nat.le_refl _, ?_⟩, (Below.refl _ _).alloc (Nat.le_refl _) _⟩
    · rw [hlen]; exact heap_alloc_new w _
    · intro _
      refine ⟨b, off, rfl, hb, fun i hi => ?_⟩
      rw [hix i (by omega), World.cell?_alloc_lt w _ _ hb]
      exact hc i (by omega)
    · intro i hi
      rw [hix i (by omega)]
      exact u8_bounds (hwf _ (ix_mem zs (by omega)))

theorem ofInt_i64 (a : Nat) (ha : a < 9223372036854775808) : (BitVec.ofInt 64 (a : Int)).toNat = a := by
  rw [BitVec.ofInt_natCast, BitVec.toNat_ofNat]; exact Nat.mod_eq_of_lt (by omega)
theorem i64_xor_nat (a b : Nat) (ha : a < 9223372036854775808) (hb : b < 9223372036854775808) : bits .xor .i64 (a : Int) (b : Int) = ((a ^^^ b : Nat) : Int) := by
  have hx : a ^^^ b < 2 ^ 63 := Nat.xor_lt_two_pow (by omega) (by omega)
  show IntKind.i64.wrap ((BitVec.ofInt 64 (a : Int) ^^^ BitVec.ofInt 64 (b : Int)).toNat : Int) = _
  rw [BitVec.toNat_xor, ofInt_i64 a ha, ofInt_i64 b hb, IntKind.wrap_i64]
  omega
theorem xor_some (a : Int) (h0 : 0 ≤ a) (h1 : a ≤ 1000000000000) : ∃ y : Int, bits .xor .i64 a (a / 64) = y ∧ 0 ≤ y ∧ y ≤ 9223372036854775807 := by
  obtain ⟨n, rfl⟩ := Int.eq_ofNat_of_zero_le h0
  have e : (n : Int) / 64 = ((n / 64 : Nat) : Int) := by omega
  rw [e, i64_xor_nat n (n / 64) (by omega) (by omega)]
  have hx : n ^^^ (n / 64) < 2 ^ 63 := Nat.xor_lt_two_pow (by omega) (by omega)
  exact ⟨_, rfl, by omega, by omega⟩

def PickPost (B g : Nat) (p n : Int) (w : World) (e : Ending) (w' : World) : Prop := ∃ v : Int, 0 ≤ v ∧ v < n ∧ e = .returned (.int .i64 v) ∧ Rdr w' B g (p + 1) ∧ w.grownBy w' (some g)

theorem pick_world {w : World} {B g : Nat} {p : Int} (h : Rdr w B g p) (m : Int) (n : Nat) : Rdr ((w.setCell ⟨g, 1, none⟩ (.int .i64 m)).drewN n) B g m ∧ w.grownBy ((w.setCell ⟨g, 1, none⟩ (.int .i64 m)).drewN n) (some g) := by
  have hl := h.lt
  obtain ⟨A, c, zs, hh, h1, h2, h3, h4⟩ := h
  refine ⟨⟨A, c, zs, ?_, h1, (h2.setCell (p := ⟨g, 1, none⟩) h3 _), h3, h4⟩, ⟨rfl, rfl, rfl, by simp [World.setCell], fun k hk hne => ?_⟩⟩
  · show (w.setCell ⟨g, 1, none⟩ (.int .i64 m)).heap[g]? = _
    simp [World.setCell, Array.getElem?_modify, hh]
  · exact Below.heap_setCell w _ _ _ (by rintro rfl; exact hne rfl)

set_option maxHeartbeats 1000000 in
theorem pick_any (B g : Nat) (p n : Int) (w : World) (h : Rdr w B g p) (p0 : 0 ≤ p) (p1 : p ≤ 1000000) (n0 : 1 ≤ n) (n1 : n ≤ 1000000) :
    Calls Tryd.prog 29 #[.pointer (some ⟨g, 0, none⟩), .int .i64 n] w (PickPost B g p n w) := by
  have HW := Lib.hid (pick_world h (p + 1))
  have hl := h.lt
  obtain ⟨A, c, zs, hh, h1, h2, h3, h4⟩ := h
  have c0 : w.cell? ⟨g, 0, none⟩ = some (.slice A zs.length c) := by
    have := cell_of_row w g 0 _ _ _ hh; simpa using this
  have c1 : w.cell? ⟨g, 0 + 1, none⟩ = some (.int .i64 p) := by
    have := cell_of_row w g 1 _ _ _ hh; simpa using this
  have f1 : w.frozen? ⟨g, 0 + 1, none⟩ = false := by simp [World.frozen?, hh]
  clear hh
  by_cases hz : zs.length = 0
  · have hz' : ((zs.length : Int) == 0) = true := by simp [hz]
    go_enter Tryd.func29, Tryd.ntmps29
    go_wp2_with fail
    go_ret
    exact ⟨0, by omega, by omega, rfl, (HW.out 0).1, (HW.out 0).2⟩
  · have hz' : ((zs.length : Int) == 0) = false := beq_eq_false_iff_ne.2 (by omega)
    by_cases hp : p < zs.length
    · obtain ⟨k, rfl⟩ := Int.eq_ofNat_of_zero_le p0
      obtain ⟨b, off, rfl, hb, hc⟩ := h2.at_ (i := k) (by omega)
      have hx := h4 k (by omega)
      have hcs : (w.setCell ⟨g, 1, none⟩ (.int .i64 ((k : Int) + 1))).cell? ⟨b, off + k, none⟩ = some (.int .u8 (ix zs k)) := by
        rw [World.cell?_setCell_other _ _ _ _ (fun e => by injection e with e; omega)]; exact hc
      have hk' : k < zs.length := by omega
      generalize ix zs k = x at *
      go_enter Tryd.func29, Tryd.ntmps29
      go_wp2_with fail
      go_ret
      exact ⟨x % n, Int.emod_nonneg _ (by omega), Int.emod_lt_of_pos _ (by omega), rfl, (HW.out 0).1, (HW.out 0).2⟩
    · have hL : (1 : Int) ≤ zs.length := by omega
      have m1 := Int.emod_nonneg p (show (zs.length : Int) ≠ 0 by omega)
      have m2 := Int.emod_lt_of_pos p (show 0 < (zs.length : Int) by omega)
      have m3 := Int.emod_nonneg (p * 7 + 3) (show (zs.length : Int) ≠ 0 by omega)
      have m4 := Int.emod_lt_of_pos (p * 7 + 3) (show 0 < (zs.length : Int) by omega)
      have m5 := Int.ediv_nonneg p0 (show 0 ≤ (zs.length : Int) by omega)
      have m6 : p / (zs.length : Int) ≤ p := Int.ediv_le_self _ p0
      obtain ⟨i1, e1⟩ := Int.eq_ofNat_of_zero_le m1
      obtain ⟨i2, e2⟩ := Int.eq_ofNat_of_zero_le m3
      have hi1 : i1 < zs.length := by omega
      have hi2 : i2 < zs.length := by omega
      obtain ⟨b, off, rfl, hb, hc⟩ := h2 (by omega)
      have hx1 := h4 i1 hi1
      have hx2 := h4 i2 hi2
      have hcs : ∀ i, i < zs.length → (w.setCell ⟨g, 1, none⟩ (.int .i64 (p + 1))).cell? ⟨b, off + i, none⟩ = some (.int .u8 (ix zs i)) := fun i hi => by
        rw [World.cell?_setCell_other _ _ _ _ (fun e => by injection e with e; omega)]; exact hc i hi
      have hcs1 := hcs i1 hi1
      have hcs2 := hcs i2 hi2
      clear hcs hc
      have t1 : p.tmod (zs.length : Int) = i1 := by rw [Int.tmod_eq_emod_of_nonneg p0]; exact e1
      have t2 : (p * 7 + 3).tmod (zs.length : Int) = i2 := by rw [Int.tmod_eq_emod_of_nonneg (by omega)]; exact e2
      have t3 : IntKind.i64.wrap (p.tdiv (zs.length : Int)) = p / (zs.length : Int) := IntWalk.i64_quo _ _ ⟨p0, by omega, by omega⟩
      clear e1 e2 m1 m2 m3 m4
      generalize p / (zs.length : Int) = q at *
      generalize ix zs i1 = x1 at *
      generalize ix zs i2 = x2 at *
      obtain ⟨y, hy, y0, y1⟩ := xor_some (x1 * 131 + x2 * 1117 + p * 29 + q * 53) (by omega) (by omega)
      have s1 : IntKind.i64.wrap (p * 7) = p * 7 := IntWalk.i64_in _ (by omega)
      have s2 : IntKind.i64.wrap (p * 7 + 3) = p * 7 + 3 := IntWalk.i64_in _ (by omega)
      have s3 : IntKind.i64.wrap x1 = x1 := IntWalk.i64_in _ (by omega)
      have s4 : IntKind.i64.wrap (x1 * 131) = x1 * 131 := IntWalk.i64_in _ (by omega)
      have s5 : IntKind.i64.wrap x2 = x2 := IntWalk.i64_in _ (by omega)
      have s6 : IntKind.i64.wrap (x2 * 1117) = x2 * 1117 := IntWalk.i64_in _ (by omega)
      have s7 : IntKind.i64.wrap (x1 * 131 + x2 * 1117) = x1 * 131 + x2 * 1117 := IntWalk.i64_in _ (by omega)
      have s8 : IntKind.i64.wrap (p * 29) = p * 29 := IntWalk.i64_in _ (by omega)
      have s9 : IntKind.i64.wrap (x1 * 131 + x2 * 1117 + p * 29) = x1 * 131 + x2 * 1117 + p * 29 := IntWalk.i64_in _ (by omega)
      have s10 : IntKind.i64.wrap (q * 53) = q * 53 := IntWalk.i64_in _ (by omega)
      have s11 : IntKind.i64.wrap (x1 * 131 + x2 * 1117 + p * 29 + q * 53) = x1 * 131 + x2 * 1117 + p * 29 + q * 53 := IntWalk.i64_in _ (by omega)
      have hl0 : ¬ (zs.length : Int) = 0 := by omega
      have hl0' : ¬ zs.length = 0 := by omega
      have T0 : (0 : Int) ≤ x1 * 131 + x2 * 1117 + p * 29 + q * 53 := by omega
      have T1 : x1 * 131 + x2 * 1117 + p * 29 + q * 53 ≤ 1000000000000 := by omega
      have HY := Lib.hid hy
      clear hy
      go_enter Tryd.func29, Tryd.ntmps29
      go_wp2_with fail
      go_quiet (fail)
      clear s1 s2 s3 s4 s5 s6 s7 s8 s9 s10 s11 t1 t2 t3
      generalize x1 * 131 + x2 * 1117 + p * 29 + q * 53 = T at *
      have hy := HY.out
      go_wp2_with fail
      go_ret
      exact ⟨y % n, Int.emod_nonneg _ (by omega), Int.emod_lt_of_pos _ (by omega), rfl, (HW.out _).1, (HW.out _).2⟩

end Go.Proofs.YticnnfmmfjfffaaDoor
