/- The walks of l92Root, DrawRootOdd, DrawRootOf and the laws over them. No condition. -/
import Derived.Test.YtomojiipgabhfaaDrw
namespace Go.Proofs.Ytomojiipgabhfaa
open Go.RowKit
set_option linter.unusedVariables false

/-- a literal list lies in a block of its own. -/
theorem ir_lit (w : World) (zs : List Int) (cs : Array Value) (n : Nat) (hn : n = zs.length) (hcs : cs.toList = zs.map (Value.int .i64)) (hl : zs.length ≤ 1000) : IR (w.alloc (.cells cs 3)) w.heap.size (some ⟨w.heap.size, 0, none⟩) n zs := by
  subst hn
  have hsz : cs.size = zs.length := by rw [← Array.length_toList, hcs, List.length_map]
  have := World.ownsRow_lit (base := w.heap.size) (e := 3) (size := 1) w cs zs.length (Nat.le_refl _) (by simp only [maxLen]; omega) (by omega)
  rw [hcs] at this
  exact this

def DrawInt (B g : Nat) (p : Int) (k : Nat) (P : Int → Prop) (w : World) (e : Ending) (w' : World) : Prop := ∃ v p' : Int, P v ∧ p ≤ p' ∧ p' ≤ p + k ∧ e = .returned (.int .i64 v) ∧ Rdr w' B g p' ∧ w.grownBy w' (some g)

def rootZs : List Int := [-1, 0, 1000000000, 1000000001]
theorem rootZs_bd {k : Nat} (h : k < 4) : -1 ≤ ix rootZs k ∧ ix rootZs k ≤ 1000000001 := by
  have : k = 0 ∨ k = 1 ∨ k = 2 ∨ k = 3 := by omega
  rcases this with h | h | h | h <;> subst h <;> decide

set_option maxHeartbeats 1000000 in
theorem l92Root_any (B g : Nat) (p : Int) (w : World) (h : Rdr w B g p) (p0 : 0 ≤ p) (p1 : p ≤ 900000) :
    Calls Try.prog 29 #[.pointer (some ⟨g, 0, none⟩)] w (DrawInt B g p 9 (fun v => -1 ≤ v ∧ v ≤ 2000000000) w) := by
  have hl := h.lt
  go_enter Try.func29, Try.ntmps29
  go_wp2_with fail
  refine (pick_any B g p 8 _ h p0 (by omega) (by omega) (by omega)).mono ?_
  rintro e w1 ⟨v, v0, v1, rfl, hr1, hg1⟩
  have hs1 := hg1.size
  by_cases c0 : v = 0
  · subst c0
    go_wp2_with fail
    have hi := ir_lit w1 rootZs #[.int .i64 (-1), .int .i64 0, .int .i64 1000000000, .int .i64 1000000001] 4 rfl rfl (by decide)
    refine (pick_any B g (p + 1) 4 _ (hr1.alloc _) (by omega) (by omega) (by omega) (by omega)).mono ?_
    rintro e w2 ⟨k, k0, k1, rfl, hr2, hg2⟩
    obtain ⟨k, rfl⟩ := Int.eq_ofNat_of_zero_le k0
    have hi2 := hi.grown' hg2 (fun g' e1 e2 => by simp at e1 e2; omega)
    obtain ⟨g3, e3, -, -, -, -, hcell, -⟩ := hi2.form (by decide)
    injection e3 with e3
    injection e3 with e3
    subst e3
    have hc := hcell k (by show k < 4; omega)
    have hbd := rootZs_bd (k := k) (by omega)
    have hk4 : k < 4 := by omega
    clear hcell
    generalize ix rootZs k = x at *
    go_wp2_with fail
    go_ret
    exact ⟨x, p + 1 + 1, by omega, by omega, by omega, rfl, hr2, ((hg1.trans (World.grownBy_alloc _ _ _)).trans hg2)⟩
  · have c0' : (v == 0) = false := beq_eq_false_iff_ne.2 c0
    by_cases c1 : v = 1
    · subst c1
      clear c0
      go_wp2_with fail
      refine (pick_any B g (p + 1) 3000 _ hr1 (by omega) (by omega) (by omega) (by omega)).mono ?_
      rintro e w2 ⟨x, x0, x1, rfl, hr2, hg2⟩
      have hx := sq_le (a := x) (b := 3000) x0 (by omega)
      have hx0 := sq_nn x
      go_wp2_with fail
      refine (pick_any B g (p + 1 + 1) 3 _ hr2 (by omega) (by omega) (by omega) (by omega)).mono ?_
      rintro e w3 ⟨y, y0, y1, rfl, hr3, hg3⟩
      go_wp2_with fail
      go_ret
      exact ⟨x * x + y - 1, p + 1 + 1 + 1, by omega, by omega, by omega, rfl, hr3, (hg1.trans hg2).trans hg3⟩
    · have c1' : (v == 1) = false := beq_eq_false_iff_ne.2 c1
      by_cases c2 : v = 2
      · subst c2
        clear c0 c1
        go_wp2_with fail
        refine (pick_any B g (p + 1) 3000 _ hr1 (by omega) (by omega) (by omega) (by omega)).mono ?_
        rintro e w2 ⟨x, x0, x1, rfl, hr2, hg2⟩
        have hx := sq_le (a := x) (b := 3000) x0 (by omega)
        have hx0 := sq_nn x
        go_wp2_with fail
        refine (pick_any B g (p + 1 + 1) 3 _ hr2 (by omega) (by omega) (by omega) (by omega)).mono ?_
        rintro e w3 ⟨y, y0, y1, rfl, hr3, hg3⟩
        go_wp2_with fail
        go_ret
        exact ⟨x * x + x + y, p + 1 + 1 + 1, by omega, by omega, by omega, rfl, hr3, (hg1.trans hg2).trans hg3⟩
      · have c2' : (v == 2) = false := beq_eq_false_iff_ne.2 c2
        clear c0 c1 c2
        go_wp2_with fail
        refine (pick_any B g (p + 1) 1000 _ hr1 (by omega) (by omega) (by omega) (by omega)).mono ?_
        rintro e w2 ⟨x, x0, x1, rfl, hr2, hg2⟩
        go_wp2_with fail
        refine (pick_any B g (p + 1 + 1) 200 _ hr2 (by omega) (by omega) (by omega) (by omega)).mono ?_
        rintro e w3 ⟨y, y0, y1, rfl, hr3, hg3⟩
        have hm := Int.mul_le_mul (show x ≤ 1000 by omega) (show 1 + y ≤ 200 by omega) (by omega) (by omega)
        have hm0 := Int.mul_nonneg x0 (show 0 ≤ 1 + y by omega)
        go_wp2_with fail
        go_ret
        exact ⟨x * (1 + y), p + 1 + 1 + 1, by omega, by omega, by omega, rfl, hr3, (hg1.trans hg2).trans hg3⟩

/-- a drawn integer, nothing old turned. -/
def DrewInt (P : Int → Prop) (w : World) (e : Ending) (w' : World) : Prop := ∃ v : Int, P v ∧ e = .returned (.int .i64 v) ∧ Below w.heap.size w w'
theorem below_of_grown {w w1 w2 : World} {B g : Nat} {p : Int} (hb : Below B w w1) (hr : Rdr w1 B g p) (hg : w1.grownBy w2 (some g)) : Below B w w2 := by
  have hl := hr.lt
  exact hb.grown hg (by omega) (fun k e => by injection e with e; omega)

end Go.Proofs.Ytomojiipgabhfaa
