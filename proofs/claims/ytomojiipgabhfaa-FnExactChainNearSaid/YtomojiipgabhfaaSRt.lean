/- The walks of the reference's l8Root and RootOf. No condition. -/
import Derived.Test.YtomojiipgabhfaaOdd
namespace Go.Proofs.Ytomojiipgabhfaa
open Go.RowKit
set_option linter.unusedVariables false

theorem l8Root_any (n : Int) (w : World) (h1 : 0 ≤ n) (h2 : n ≤ 1000000000) :
    Calls Try.prog 34 #[.int .i64 n] w (SomeInt (IsRt n) w) := by
  go_enter Try.func34, Try.ntmps34
  go_wp2_with fail
  go_loop [3, 4] (fun l h => ∃ lo hi : Int, 0 ≤ lo ∧ lo ≤ hi ∧ hi ≤ 100000 ∧ lo * lo ≤ n ∧ n < (hi + 1) * (hi + 1) ∧ l = .int .i64 lo ∧ h = .int .i64 hi) (fun l h => (intOf h - intOf l).toNat)
  case atStart => exact ⟨0, 100000, by omega, by omega, by omega, by omega, by omega, rfl, rfl⟩
  case round =>
    obtain ⟨lo, hi, hl0, hlh, hh, hlo, hhi, rfl, rfl⟩ := hrel
    by_cases hc : lo < hi
    · have hb := rt_bd (r := (lo + hi + 1) / 2) (by omega) (by omega)
      obtain ⟨b1, b2⟩ := hb
      by_cases hm : ((lo + hi + 1) / 2) * ((lo + hi + 1) / 2) ≤ n
      · go_wp2
        go_round
        case rel => exact ⟨_, hi, by omega, by omega, by omega, hm, hhi, rfl, rfl⟩
        case measure => simp [intOf] <;> omega
      · go_wp2
        go_round
        case rel => exact ⟨lo, _, by omega, by omega, by omega, hlo, by rw [Int.sub_add_cancel]; omega, rfl, rfl⟩
        case measure => simp [intOf] <;> omega
    · have he : hi = lo := by omega
      subst he
      go_wp2
      go_ret
      exact ⟨hi, ⟨hl0, rt_step hl0 hlo h2, hlo, hhi⟩, rfl, rfl⟩
theorem sRootOf_no (n : Int) (w : World) (h : n < 0 ∨ 1000000000 < n) :
    Calls Try.prog 15 #[.int .i64 n] w fun e w' => e = .returned (.tuple #[.int .i64 0, .int .i64 0, .bool false]) ∧ w = w' := by
  go_enter Try.func15, Try.ntmps15
  go_wp2_with (go_at_call 31; refine (l6In_no _ _ _ _ h).mono ?_; rintro e w' ⟨rfl, rfl⟩)
  go_ret3
  exact ⟨rfl, rfl⟩
theorem sRootOf_yes (n : Int) (w : World) (h1 : 0 ≤ n) (h2 : n ≤ 1000000000) :
    Calls Try.prog 15 #[.int .i64 n] w (RetRt n w) := by
  go_enter Try.func15, Try.ntmps15
  go_wp2_with fail
  refine (l6In_yes _ _ _ _ h1 h2).mono ?_
  rintro e w' ⟨rfl, rfl⟩
  go_wp2_with fail
  refine (l8Root_any n _ h1 h2).mono ?_
  rintro e w' ⟨r, hr, rfl, rfl⟩
  have HR := Lib.hid hr
  obtain ⟨r0, r1, r2, _⟩ := hr
  have b1 := sq_nn r
  go_wp2_with fail
  go_ret3
  exact ⟨r, HR.out, rfl, rfl⟩

end Go.Proofs.Ytomojiipgabhfaa
