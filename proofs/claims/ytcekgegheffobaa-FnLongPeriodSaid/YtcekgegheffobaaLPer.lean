/- The walk of DrawLongPeriod and of the law FnLongPeriod. No condition. -/
import Derived.Test.YtcekgegheffobaaLPerP
import Derived.Test.YtcekgegheffobaaPer
import Derived.Test.YtcekgegheffobaaDrwRt
namespace Go.Proofs.Ytcekgegheffobaa
open Go.RowKit
set_option linter.unusedVariables false

def lpZs : List Int := [0, -1, 1000, 1001, 997]
/-- the divisors that are drawn. -/
def LpD (v : Int) : Prop := v = 0 ∨ v = -1 ∨ v = 1000 ∨ v = 1001 ∨ v = 997 ∨ (1 ≤ v ∧ v ≤ 120)
theorem lpZs_D {k : Nat} (h : k < 5) : LpD (ix lpZs k) := by
  have : k = 0 ∨ k = 1 ∨ k = 2 ∨ k = 3 ∨ k = 4 := by omega
  rcases this with h | h | h | h | h <;> subst h <;> simp [LpD, ix, lpZs]
set_option maxHeartbeats 1000000 in
theorem drawLongPeriod_any (A : Option Addr) (len cap : Nat) (zs : List Int) (w : World) (hs : Sl .u8 w A len cap zs) :
    Calls Try.prog 30 #[.slice A len cap] w (DrewInt LpD w) := by
  have HS := Lib.hid hs
  clear hs
  go_enter Try.func30, Try.ntmps30
  go_wp2_with fail
  refine (l6Open_any A len cap zs _ HS.out).mono ?_
  rintro e w1 ⟨g, rfl, hr1, hb1⟩
  have hl := hr1.lt
  go_wp2_with fail
  refine (pick_any _ g 0 10 _ hr1 (by omega) (by omega) (by omega) (by omega)).mono ?_
  rintro e w2 ⟨v, v0, v1, rfl, hr2, hg2⟩
  have hs2 := hg2.size
  by_cases c0 : v = 0
  · subst c0
    go_wp2_with fail
    have hi := ir_lit w2 lpZs #[.int .i64 0, .int .i64 (-1), .int .i64 1000, .int .i64 1001, .int .i64 997] 5 rfl rfl (by decide)
    refine (pick_any _ g (0 + 1) 5 _ (hr2.alloc _) (by omega) (by omega) (by omega) (by omega)).mono ?_
    rintro e w3 ⟨k, k0, k1, rfl, hr3, hg3⟩
    obtain ⟨k, rfl⟩ := Int.eq_ofNat_of_zero_le k0
    have hi2 := hi.grown' hg3 (fun g' e1 e2 => by simp at e1 e2; omega)
    obtain ⟨g3, e3, -, -, -, -, hcell, -⟩ := hi2.form (by decide)
    injection e3 with e3
    injection e3 with e3
    subst e3
    have hk5 : k < 5 := by omega
    have hc := hcell k hk5
    have HD := Lib.hid (lpZs_D hk5)
    clear hcell
    go_wp2_with fail
    go_ret
    refine ⟨ix lpZs k, HD.out, rfl, ?_⟩
    have h2 := below_of_grown hb1 hr1 hg2
    exact (h2.alloc h2.size _).grown hg3 (by have := h2.size; simp; omega) (fun k e => by injection e with e; omega)
  · have c0' : (v == 0) = false := beq_eq_false_iff_ne.2 c0
    clear c0
    go_wp2_with fail
    refine (pick_any _ g (0 + 1) 120 _ hr2 (by omega) (by omega) (by omega) (by omega)).mono ?_
    rintro e w3 ⟨x, x0, x1, rfl, hr3, hg3⟩
    go_wp2_with fail
    go_ret
    exact ⟨1 + x, .inr (.inr (.inr (.inr (.inr (by omega))))), rfl, below_of_grown (below_of_grown hb1 hr1 hg2) hr2 hg3⟩

theorem perOk_of {v : Int} (h : LpD v) (h1 : 1 ≤ v) (h2 : v ≤ 1000) : ∃ d : Nat, v = d ∧ perOk d = true := by
  rcases h with rfl | rfl | rfl | rfl | rfl | ⟨h3, h4⟩
  · omega
  · omega
  · exact ⟨1000, rfl, perOk_1000⟩
  · omega
  · exact ⟨997, rfl, perOk_997⟩
  · obtain ⟨d, rfl⟩ := Int.eq_ofNat_of_zero_le (show 0 ≤ v by omega)
    exact ⟨d, rfl, perOk_small d (by omega) (by omega)⟩

set_option maxHeartbeats 2000000 in
theorem walkFnLongPeriod (a : Option Addr) (len cap : Nat) (zs : List Int) (w : World) (hs : Sl .u8 w a len cap zs) :
    Calls Try.prog 10 #[.slice a len cap] w fun e w' => e = .returned (.bool true) ∧ Below w.heap.size w w' := by
  have HS := Lib.hid hs
  obtain ⟨-, hlc, hcm, -, -⟩ := hs
  unfold maxLen at hcm
  by_cases hbig : len ≤ 1048576
  case neg =>
    have hbig' : decide (1048576 < len) = true := by simp; omega
    go_enter Try.func10, Try.ntmps10
    go_wp2_with fail
    go_ret
    exact ⟨rfl, Below.refl _ _⟩
  go_enter Try.func10, Try.ntmps10
  go_wp2_with fail
  refine (drawLongPeriod_any a len cap zs _ HS.out).mono ?_
  rintro e w1 ⟨v, hD, rfl, hb1⟩
  have HD := Lib.hid hD
  clear hD
  by_cases hv : 1 ≤ v ∧ v ≤ 1000
  · obtain ⟨v1, v2⟩ := hv
    obtain ⟨d, rfl, hok⟩ := perOk_of HD.out v1 v2
    have hd1 : 1 ≤ d := by omega
    have hd2 : d ≤ 1000 := by omega
    unfold perOk at hok
    simp only [Bool.and_eq_true] at hok
    obtain ⟨⟨⟨hA, hB⟩, hC⟩, ⟨⟨h3, h4⟩, h5⟩, h6⟩ := hok
    obtain ⟨o, g, hog⟩ : ∃ o g, per (d : Int) = (o, g) := ⟨_, _, rfl⟩
    rw [hog] at hA hB hC h3 h4 h5 h6
    have HOG := Lib.hid (show perV d = .tuple #[.int .i64 o, .int .i64 g, .bool true] by rw [perV, hog])
    simp only [decide_eq_true_eq] at h3 h4 h5 h6
    have HA := Lib.hid hA
    have HB := Lib.hid hB
    have HC := Lib.hid hC
    clear hA hB hC hog HD
    go_wp2_with fail
    refine (iLongPeriod_yes d _ hd1 hd2).mono ?_
    rintro e w2 ⟨rfl, hb2⟩
    rw [HOG.out]
    go_wp2_with fail
    refine (sLongPeriod_yes d _ hd1 hd2).mono ?_
    rintro e w3 ⟨rfl, hb3⟩
    rw [HOG.out]
    have T3 : Below w.heap.size w w3 := (hb1.trans (hb2.mono hb1.size)).trans (hb3.mono (Nat.le_trans hb1.size hb2.size))
    have HA2 := Lib.hid (show (o + g < (d : Int)) ∨ (o = 0 ∧ g = 0) by simpa using HA.out)
    have HB2 := Lib.hid (show (g = 0) ↔ (core d = 1) by have := HB.out; rw [beq_iff_eq, Bool.eq_iff_iff, beq_iff_eq, beq_iff_eq] at this; exact this)
    have HC2 := Lib.hid (show core d ≠ d ∨ o = 0 by have := HC.out; simpa using this)
    clear HA HB HC
    go_wp2_with fail
    go_loop [10] (fun t => ∃ x : Nat, 1 ≤ x ∧ x ≤ 1000 ∧ t = .int .i64 (x : Int) ∧ Hid (∃ f, x < 2 ^ f ∧ strip 2 f x = strip 2 12 d)) (fun t => (intOf t).toNat)
    case atStart => exact ⟨d, hd1, hd2, rfl, 12, Nat.lt_of_le_of_lt hd2 (by decide), rfl⟩
    case round =>
      obtain ⟨x, x1, x2, rfl, HX⟩ := hrel
      obtain ⟨f, hf, hs⟩ := HX.out
      rcases strip_inv (q := 2) (by omega) x1 hf hs with ⟨hm, f', hf', hs'⟩ | ⟨hm, hS⟩
      · have HN := Lib.hid (show ∃ f, x / 2 < 2 ^ f ∧ strip 2 f (x / 2) = strip 2 12 d from ⟨f', hf', hs'⟩)
        have t1 : ((x : Int) % 2 == 0) = true := beq_iff_eq.2 (by omega)
        have q1 : 1 ≤ x / 2 := by omega
        have q2 : x / 2 ≤ 1000 := by omega
        clear hf hs hf' hs' hm
        go_wp2_with fail
        go_round
        case rel => exact ⟨x / 2, q1, q2, int_eq (by omega), HN⟩
        case measure => simp [intOf] <;> omega
      · have HS2 := Lib.hid hS
        have t1 : ((x : Int) % 2 == 0) = false := beq_eq_false_iff_ne.2 (by omega)
        clear hf hs hm hS
        go_wp2_with fail
        clear t1
        go_loop [10] (fun t => ∃ y : Nat, 1 ≤ y ∧ y ≤ 1000 ∧ t = .int .i64 (y : Int) ∧ Hid (∃ f, y < 5 ^ f ∧ strip 5 f y = core d)) (fun t => (intOf t).toNat)
        case atStart => exact ⟨x, x1, x2, rfl, 12, Nat.lt_of_le_of_lt x2 (by decide), by rw [HS2.out]; rfl⟩
        case round =>
          obtain ⟨y, y1, y2, rfl, HY⟩ := hrel
          obtain ⟨f2, hf2, hs2⟩ := HY.out
          rcases strip_inv (q := 5) (by omega) y1 hf2 hs2 with ⟨hm, f', hf', hs'⟩ | ⟨hm, hS⟩
          · have HN := Lib.hid (show ∃ f, y / 5 < 5 ^ f ∧ strip 5 f (y / 5) = core d from ⟨f', hf', hs'⟩)
            have t1 : ((y : Int) % 5 == 0) = true := beq_iff_eq.2 (by omega)
            have q1 : 1 ≤ y / 5 := by omega
            have q2 : y / 5 ≤ 1000 := by omega
            clear hf2 hs2 hf' hs' hm
            go_wp2_with fail
            go_round
            case rel => exact ⟨y / 5, q1, q2, int_eq (by omega), HN⟩
            case measure => simp [intOf] <;> omega
          · have t1 : ((y : Int) % 5 == 0) = false := beq_eq_false_iff_ne.2 (by omega)
            rw [← hS] at HB2 HC2
            clear hf2 hs2 hm hS HY HX
            obtain ⟨G, hG, hG2⟩ : ∃ G : Bool, (g == 0) = G ∧ ((y : Int) == 1) = G := by
              refine ⟨_, rfl, ?_⟩
              rw [Bool.eq_iff_iff, beq_iff_eq, beq_iff_eq, HB2.out]
              omega
            have hC : (∃ C : Bool, ((y : Int) != (d : Int)) = C ∧ (C = true ∨ o = 0)) := by
              refine ⟨_, rfl, ?_⟩
              rcases HC2.out with h | h
              · left; simp; omega
              · right; exact h
            obtain ⟨C, hC1, hC2⟩ := hC
            clear HB2 HC2
            rcases HA2.out with hA | ⟨hA1, hA2⟩
            · clear HA2
              cases C with
              | true =>
                clear hC2
                cases G
                all_goals
                  go_wp2_with fail
                  go_ret
                  exact ⟨rfl, T3⟩
              | false =>
                obtain rfl : o = 0 := by simpa using hC2
                clear hC2
                cases G
                all_goals
                  go_wp2_with fail
                  go_ret
                  exact ⟨rfl, T3⟩
            · clear HA2
              subst hA1 hA2
              cases C
              all_goals
                cases G with
                | false => simp at hG
                | true =>
                  by_cases hz : (0 : Int) + 0 < (d : Int)
                  · go_wp2_with fail
                    go_ret
                    exact ⟨rfl, T3⟩
                  · exfalso; omega
  · have hv' : v < 1 ∨ 1000 < v := by omega
    have HV := Lib.hid hv'
    clear hv hv' HD
    go_wp2_with fail
    refine (iLongPeriod_no v _ HV.out).mono ?_
    rintro e w' ⟨rfl, rfl⟩
    go_wp2_with fail
    refine (sLongPeriod_no v _ HV.out).mono ?_
    rintro e w' ⟨rfl, rfl⟩
    go_wp2_with fail
    go_ret
    exact ⟨rfl, hb1⟩

end Go.Proofs.Ytcekgegheffobaa
