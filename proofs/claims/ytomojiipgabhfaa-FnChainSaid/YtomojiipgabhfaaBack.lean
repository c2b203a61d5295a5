/- The walks of ChainBack, the program's and the reference's, and of the law FnExactChainBack. No condition. -/
import Derived.Test.YtomojiipgabhfaaHasRt
import Derived.Test.YtomojiipgabhfaaInts
namespace Go.Proofs.Ytomojiipgabhfaa
open Go.RowKit
set_option linter.unusedVariables false

/-- what is left to do with i quotients, from the last one on. -/
def cbr (zs : List Int) : Nat → Int → Int → Int × Int × Bool
  | 0, a, b => (a, b, true)
  | i + 1, a, b => if 0 ≤ ix zs i ∧ ix zs i ≤ 1000000000 ∧ (0 < i → ix zs i ≠ 0) ∧ ix zs i * a + b ≤ 1000000000 then cbr zs i (ix zs i * a + b) a else (0, 0, false)
def cbR (zs : List Int) : Int × Int × Bool := if zs.length ≤ 20 then cbr zs zs.length 1 0 else (0, 0, false)
def triV (r : Int × Int × Bool) : Value := .tuple #[.int .i64 r.1, .int .i64 r.2.1, .bool r.2.2]
theorem triV_of {r : Int × Int × Bool} {a b : Int} {c : Bool} (h : r = (a, b, c)) : Ending.returned (.tuple #[.int .i64 a, .int .i64 b, .bool c]) = .returned (triV r) := by rw [h]; rfl
theorem cbr_no {zs : List Int} {i : Nat} {a b q : Int} (hq : ix zs i = q) (h : ¬ (0 ≤ q ∧ q ≤ 1000000000 ∧ (0 < i → q ≠ 0) ∧ q * a + b ≤ 1000000000)) : cbr zs (i + 1) a b = (0, 0, false) := by
  subst hq
  rw [cbr, if_neg h]
theorem cbr_yes {zs : List Int} {i : Nat} {a b q : Int} (hq : ix zs i = q) (h : 0 ≤ q ∧ q ≤ 1000000000 ∧ (0 < i → q ≠ 0) ∧ q * a + b ≤ 1000000000) : cbr zs (i + 1) a b = cbr zs i (q * a + b) a := by
  subst hq
  rw [cbr, if_pos h]
theorem mul_bd {q a : Int} (h0 : 0 ≤ q) (h1 : q ≤ 1000000000) (a0 : 0 ≤ a) (a1 : a ≤ 1000000000) : 0 ≤ q * a ∧ q * a ≤ 1000000000000000000 := by
  have h := Int.mul_le_mul h1 a1 a0 (by omega : (0 : Int) ≤ 1000000000)
  exact ⟨Int.mul_nonneg h0 a0, by omega⟩

set_option maxHeartbeats 1000000 in
theorem iChainBack_any (A : Option Addr) (c : Nat) (zs : List Int) (w : World) (h : RD .i64 w w.heap.size A zs) (hl : zs.length ≤ 1048576) :
    Calls Try.prog 26 #[.slice A zs.length c] w fun e w' => e = .returned (triV (cbR zs)) ∧ w = w' := by
  by_cases hlen : zs.length ≤ 20
  · have HR := Lib.hid (show cbR zs = cbr zs zs.length 1 0 by rw [cbR, if_pos hlen])
    go_enter Try.func26, Try.ntmps26
    go_wp2_with fail
    go_loop [5, 6, 7] (fun x y t => ∃ (i : Nat) (a b : Int), i ≤ zs.length ∧ 0 ≤ a ∧ a ≤ 1000000000 ∧ 0 ≤ b ∧ b ≤ 1000000000 ∧ x = .int .i64 a ∧ y = .int .i64 b ∧ t = .int .i64 ((i : Int) - 1) ∧ Hid (cbR zs = cbr zs i a b)) (fun _ _ t => (intOf t + 1).toNat)
    case atStart => exact ⟨zs.length, 1, 0, Nat.le_refl _, by omega, by omega, by omega, by omega, rfl, rfl, rfl, HR⟩
    case round =>
      obtain ⟨i, a, b, hi, ha0, ha1, hb0, hb1, rfl, rfl, rfl, HI⟩ := hrel
      clear HR
      rcases i with _ | j
      · rw [show (((0 : Nat) : Int) - 1) = -1 by omega]
        go_wp2_with fail
        go_ret3
        exact ⟨triV_of HI.out, rfl⟩
      · rw [show (((j + 1 : Nat) : Int) - 1) = (j : Int) by omega]
        obtain ⟨b', off, rfl, hbb, hc⟩ := h.at_ (i := j) (by omega)
        generalize hq : ix zs j = q at hc
        have HQ := Lib.hid hq
        clear hq
        by_cases h1 : q < 0
        · go_wp2_with fail
          go_ret3
          exact ⟨triV_of (HI.out.trans (cbr_no HQ.out (by omega))), rfl⟩
        · by_cases h2 : 1000000000 < q
          · go_wp2_with fail
            go_ret3
            exact ⟨triV_of (HI.out.trans (cbr_no HQ.out (by omega))), rfl⟩
          · obtain ⟨m1, m2⟩ := mul_bd (q := q) (a := a) (by omega) (by omega) ha0 ha1
            by_cases h3 : q = 0
            · subst h3
              by_cases h4 : 0 < j
              · go_wp2_with fail
                go_ret3
                exact ⟨triV_of (HI.out.trans (cbr_no HQ.out (by omega))), rfl⟩
              · obtain rfl : j = 0 := by omega
                rw [Nat.add_zero] at hc
                have h5 : 0 ≤ 0 * a + b ∧ 0 * a + b ≤ 1000000000 := by omega
                go_wp2_with (go_at_call 30; refine (hasRoot_yes _ _ (by omega) (by omega)).mono ?_; rintro e w' ⟨rfl, rfl⟩)
                go_round
                case rel => exact ⟨0, 0 * a + b, a, by omega, by omega, by omega, by omega, by omega, int_eq (by omega), rfl, rfl, HI.out.trans (cbr_yes HQ.out (by omega))⟩
                case measure => simp [intOf] <;> omega
            · have h3' : (q == 0) = false := by simp [h3]
              have H3 := Lib.hid h3
              clear h3
              by_cases h4 : q * a + b ≤ 1000000000
              · go_wp2_with (go_at_call 30; refine (hasRoot_yes _ _ (by omega) (by omega)).mono ?_; rintro e w' ⟨rfl, rfl⟩)
                go_round
                case rel => exact ⟨j, q * a + b, a, by omega, by omega, by omega, by omega, by omega, rfl, rfl, rfl, HI.out.trans (cbr_yes HQ.out ⟨by omega, by omega, fun _ => H3.out, h4⟩)⟩
                case measure => simp [intOf] <;> omega
              · go_wp2_with (go_at_call 30; refine (hasRoot_no _ _ (by omega)).mono ?_; rintro e w' ⟨rfl, rfl⟩)
                go_ret3
                exact ⟨triV_of (HI.out.trans (cbr_no HQ.out (by omega))), rfl⟩
  · have HR := Lib.hid (show cbR zs = (0, 0, false) by rw [cbR, if_neg hlen])
    have hlen' : decide (20 < zs.length) = true := by simp; omega
    go_enter Try.func26, Try.ntmps26
    go_wp2_with fail
    go_ret3
    exact ⟨triV_of HR.out, rfl⟩

set_option maxHeartbeats 1000000 in
theorem sChainBack_any (A : Option Addr) (c : Nat) (zs : List Int) (w : World) (h : RD .i64 w w.heap.size A zs) (hl : zs.length ≤ 1048576) :
    Calls Try.prog 33 #[.slice A zs.length c] w fun e w' => e = .returned (triV (cbR zs)) ∧ w = w' := by
  by_cases hlen : zs.length ≤ 20
  · have HR := Lib.hid (show cbR zs = cbr zs zs.length 1 0 by rw [cbR, if_pos hlen])
    go_enter Try.func33, Try.ntmps33
    go_wp2_with fail
    go_loop [5, 6, 7] (fun x y t => ∃ (i : Nat) (a b : Int), i ≤ zs.length ∧ 0 ≤ a ∧ a ≤ 1000000000 ∧ 0 ≤ b ∧ b ≤ 1000000000 ∧ x = .int .i64 a ∧ y = .int .i64 b ∧ t = .int .i64 ((i : Int) - 1) ∧ Hid (cbR zs = cbr zs i a b)) (fun _ _ t => (intOf t + 1).toNat)
    case atStart => exact ⟨zs.length, 1, 0, Nat.le_refl _, by omega, by omega, by omega, by omega, rfl, rfl, rfl, HR⟩
    case round =>
      obtain ⟨i, a, b, hi, ha0, ha1, hb0, hb1, rfl, rfl, rfl, HI⟩ := hrel
      clear HR
      rcases i with _ | j
      · rw [show (((0 : Nat) : Int) - 1) = -1 by omega]
        go_wp2_with fail
        go_ret3
        exact ⟨triV_of HI.out, rfl⟩
      · rw [show (((j + 1 : Nat) : Int) - 1) = (j : Int) by omega]
        obtain ⟨b', off, rfl, hbb, hc⟩ := h.at_ (i := j) (by omega)
        generalize hq : ix zs j = q at hc
        have HQ := Lib.hid hq
        clear hq
        by_cases h4 : 0 < j
        · by_cases h1 : 1 ≤ q ∧ q ≤ 1000000000
          · obtain ⟨h1, h2⟩ := h1
            obtain ⟨m1, m2⟩ := mul_bd (q := q) (a := a) (by omega) (by omega) ha0 ha1
            by_cases h5 : q * a + b ≤ 1000000000
            · go_wp2_with (go_at_call 31; refine (l6In_yes _ _ _ _ h1 h2).mono ?_; rintro e w' ⟨rfl, rfl⟩)
              go_round
              case rel => exact ⟨j, q * a + b, a, by omega, by omega, by omega, by omega, by omega, rfl, rfl, rfl, HI.out.trans (cbr_yes HQ.out ⟨by omega, by omega, fun _ => by omega, h5⟩)⟩
              case measure => simp [intOf] <;> omega
            · go_wp2_with (go_at_call 31; refine (l6In_yes _ _ _ _ h1 h2).mono ?_; rintro e w' ⟨rfl, rfl⟩)
              go_ret3
              exact ⟨triV_of (HI.out.trans (cbr_no HQ.out (by omega))), rfl⟩
          · have h1' : q < 1 ∨ 1000000000 < q := by omega
            go_wp2_with (go_at_call 31; refine (l6In_no _ _ _ _ h1').mono ?_; rintro e w' ⟨rfl, rfl⟩)
            go_ret3
            exact ⟨triV_of (HI.out.trans (cbr_no HQ.out (by omega))), rfl⟩
        · obtain rfl : j = 0 := by omega
          rw [Nat.add_zero] at hc
          by_cases h1 : 0 ≤ q ∧ q ≤ 1000000000
          · obtain ⟨h1, h2⟩ := h1
            obtain ⟨m1, m2⟩ := mul_bd (q := q) (a := a) (by omega) (by omega) ha0 ha1
            by_cases h5 : q * a + b ≤ 1000000000
            · go_wp2_with (go_at_call 31; refine (l6In_yes _ _ _ _ h1 h2).mono ?_; rintro e w' ⟨rfl, rfl⟩)
              go_round
              case rel => exact ⟨0, q * a + b, a, by omega, by omega, by omega, by omega, by omega, rfl, rfl, rfl, HI.out.trans (cbr_yes HQ.out ⟨by omega, by omega, fun _ => by omega, h5⟩)⟩
              case measure => simp [intOf] <;> omega
            · go_wp2_with (go_at_call 31; refine (l6In_yes _ _ _ _ h1 h2).mono ?_; rintro e w' ⟨rfl, rfl⟩)
              go_ret3
              exact ⟨triV_of (HI.out.trans (cbr_no HQ.out (by omega))), rfl⟩
          · have h1' : q < 0 ∨ 1000000000 < q := by omega
            go_wp2_with (go_at_call 31; refine (l6In_no _ _ _ _ h1').mono ?_; rintro e w' ⟨rfl, rfl⟩)
            go_ret3
            exact ⟨triV_of (HI.out.trans (cbr_no HQ.out (by omega))), rfl⟩
  · have HR := Lib.hid (show cbR zs = (0, 0, false) by rw [cbR, if_neg hlen])
    have hlen' : decide (20 < zs.length) = true := by simp; omega
    go_enter Try.func33, Try.ntmps33
    go_wp2_with fail
    go_ret3
    exact ⟨triV_of HR.out, rfl⟩


end Go.Proofs.Ytomojiipgabhfaa
