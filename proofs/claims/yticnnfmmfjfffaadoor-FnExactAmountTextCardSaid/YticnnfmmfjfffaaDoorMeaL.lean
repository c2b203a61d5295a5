/- The walks of the laws' helpers over measures: szMeasure, toMeasure, eqMeasure, markMeasure. No condition but bounds on lengths. -/
import Derived.Test.YticnnfmmfjfffaaDoorMeaT
import Derived.Test.YticnnfmmfjfffaaDoorOp1
namespace Go.Proofs.YticnnfmmfjfffaaDoor
open Go.RowKit
set_option linter.unusedVariables false

theorem eqIntS_b (A C : Option Addr) (c d : Nat) (zs : List Int) (w : World) (h : RD .i64 w w.heap.size A zs) (h' : RD .i64 w w.heap.size C zs) (hl : zs.length ≤ 1048576) :
    Calls Tryd.prog 12 #[.slice A zs.length c, .slice C zs.length d] w fun e w' => e = .returned (.bool true) ∧ Below w.heap.size w w' :=
  (eqIntS_yes A C c d zs w h h' hl).mono fun e w' ⟨he, n, hw⟩ => ⟨he, hw ▸ below_drewN (Below.refl _ _) n⟩
theorem shZ_len {rs : List Int} {x n k : Int} (hv : 0 ≤ x → vldR rs = true) : (shZ rs x n k).length ≤ 5 := by
  unfold shZ
  split
  · rename_i h
    have := (vldR_iff.1 (hv (shB_iff.1 h).1)).1
    rw [prp_len, wor_len]; omega
  · simp
theorem szIntS_yes (A : Option Addr) (n c : Nat) (L : Int) (w : World) (h : (n : Int) ≤ L) (hL : L ≤ 1048576) :
    Calls Tryd.prog 20 #[.slice A n c, .int .i64 L] w fun e w' => e = .returned (.int .i64 (L - n)) ∧ w = w' := by
  have h1 : (0 : Int) ≤ L - n := by omega
  go_enter Tryd.func20, Tryd.ntmps20
  go_wp2_with fail
  go_ret
  exact ⟨rfl, rfl⟩
theorem szIntS_no (A : Option Addr) (n c : Nat) (L : Int) (w : World) (h : L < (n : Int)) (h0 : 0 ≤ L) (hn : n ≤ 9223372036854775807) :
    Calls Tryd.prog 20 #[.slice A n c, .int .i64 L] w fun e w' => e = .returned (.int .i64 (-1)) ∧ w = w' := by
  have h1 : L - n < 0 := by omega
  go_enter Tryd.func20, Tryd.ntmps20
  go_wp2_with fail
  go_ret
  exact ⟨rfl, rfl⟩
theorem szMeasure_yes (A : Option Addr) (n c : Nat) (L : Int) (w : World) (h : (n : Int) ≤ L) (hL : L ≤ 1048576) :
    Calls Tryd.prog 8 #[.agg #[.slice A n c], .int .i64 L] w fun e w' => e = .returned (.int .i64 (L - n)) ∧ Below w.heap.size w w' := by
  have h1 : (0 : Int) ≤ L - n := by omega
  go_enter Tryd.func8, Tryd.ntmps8
  go_wp2_with fail
  refine (szIntS_yes A n c L _ h hL).mono ?_
  rintro e w' ⟨rfl, rfl⟩
  go_wp2_with fail
  go_ret
  exact ⟨rfl, below_new _ _⟩
theorem szMeasure_no (A : Option Addr) (n c : Nat) (L : Int) (w : World) (h : L < (n : Int)) (h0 : 0 ≤ L) (hn : n ≤ 9223372036854775807) :
    Calls Tryd.prog 8 #[.agg #[.slice A n c], .int .i64 L] w fun e w' => e = .returned (.int .i64 (-1)) ∧ Below w.heap.size w w' := by
  go_enter Tryd.func8, Tryd.ntmps8
  go_wp2_with fail
  refine (szIntS_no A n c L _ h h0 hn).mono ?_
  rintro e w' ⟨rfl, rfl⟩
  go_wp2_with fail
  go_ret
  exact ⟨rfl, below_new _ _⟩
/-- a new struct of one list. -/
def RetM (w : World) (zs : List Int) (e : Ending) (w' : World) : Prop := ∃ A c, e = .returned (.agg #[.slice A zs.length c]) ∧ IR w' w.heap.size A c zs ∧ Below w.heap.size w w'
theorem IR.setFar {w : World} {B : Nat} {A : Option Addr} {c : Nat} {zs : List Int} (h : IR w B A c zs) (p : Addr) (u : Value) (hp : p.block < B) : IR (w.setCell p u) B A c zs :=
  h.grown' (row := some p.block) ⟨rfl, rfl, rfl, by simp [World.setCell], fun k hk hne => Below.heap_setCell w p u k (by rintro rfl; exact hne rfl)⟩ (fun g e e' => by have := h.span g e; injection e' with e'; omega)
set_option maxHeartbeats 400000 in
theorem toMeasure_any (A : Option Addr) (c : Nat) (zs : List Int) (w : World) (hA : RD .i64 w w.heap.size A zs) (hl : zs.length ≤ 1048576) :
    Calls Tryd.prog 9 #[.agg #[.slice A zs.length c]] w (RetM w zs) := by
  have hb0 : Below w.heap.size w (((w.alloc (.cells #[.slice A zs.length c] 30)).alloc (.cells #[.slice none 0 0] 25)).alloc (.cells #[.slice none 0 0] 25)) := below_then (below_then (below_new _ _) (below_new _ _)) (below_new _ _)
  go_enter Tryd.func9, Tryd.ntmps9
  go_wp2_with fail
  refine (toIntS_any A c zs _ (hA.to hb0) hl).mono ?_
  rintro e w1 ⟨A1, c1, rfl, hi1, hb1⟩
  have hbb := below_then hb0 hb1
  have hs1 := hb1.size
  simp at hs1
  have k2 : w1.cell? ⟨w.heap.size + 1 + 1, 0, none⟩ = some (.slice none 0 0) := by rw [hb1.cell (p := ⟨w.heap.size + 1 + 1, 0, none⟩) (by simp <;> omega)]; go_simp
  have f2 : w1.frozen? ⟨w.heap.size + 1 + 1, 0, none⟩ = false := by rw [hb1.frozen (p := ⟨w.heap.size + 1 + 1, 0, none⟩) (by simp <;> omega)]; go_simp
  have k1 : w1.cell? ⟨w.heap.size + 1, 0, none⟩ = some (.slice none 0 0) := by rw [hb1.cell (p := ⟨w.heap.size + 1, 0, none⟩) (by simp <;> omega)]; go_simp
  have f1 : w1.frozen? ⟨w.heap.size + 1, 0, none⟩ = false := by rw [hb1.frozen (p := ⟨w.heap.size + 1, 0, none⟩) (by simp <;> omega)]; go_simp
  go_wp2_with fail
  refine bodyPost_ret (v := .agg #[.slice A1 zs.length c1]) (by simp [results, Tryd.results9, go_sem, k1]) rfl ⟨A1, c1, rfl, ?_, ?_⟩
  · exact ((hi1.setFar _ _ (by simp)).setFar _ _ (by simp)).from_ hb0
  · exact (hbb.setCell (by simp <;> omega) _).setCell (by simp <;> omega) _
theorem eqMeasure_yes (A C : Option Addr) (c d : Nat) (zs : List Int) (w : World) (hA : RD .i64 w w.heap.size A zs) (hC : RD .i64 w w.heap.size C zs) (hl : zs.length ≤ 1048576) :
    Calls Tryd.prog 11 #[.agg #[.slice A zs.length c], .agg #[.slice C zs.length d]] w fun e w' => e = .returned (.bool true) ∧ Below w.heap.size w w' := by
  have hb0 : Below w.heap.size w ((w.alloc (.cells #[.slice A zs.length c] 25)).alloc (.cells #[.slice C zs.length d] 25)) := below_then (below_new _ _) (below_new _ _)
  go_enter Tryd.func11, Tryd.ntmps11
  go_wp2_with fail
  refine (eqIntS_yes A C c d zs _ (hA.to hb0) (hC.to hb0) hl).mono ?_
  rintro e w' ⟨rfl, n, rfl⟩
  go_wp2_with fail
  go_ret
  exact ⟨rfl, below_drewN hb0 n⟩

end Go.Proofs.YticnnfmmfjfffaaDoor
