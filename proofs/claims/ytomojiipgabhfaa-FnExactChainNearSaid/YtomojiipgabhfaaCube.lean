/- The walks of CubeOf, the program's and the reference's, and of the law FnExactCubeOf. No condition. -/
import Derived.Test.YtomojiipgabhfaaHasRt
namespace Go.Proofs.Ytomojiipgabhfaa
open Go.RowKit
set_option linter.unusedVariables false

/-- the root of the cube: what both loops come to. -/
def IsCub (n r : Int) : Prop := 0 ≤ r ∧ r ≤ 1000 ∧ r * r * r ≤ n ∧ n < (r + 1) * (r + 1) * (r + 1)
theorem isCub_uniq {n r s : Int} (h : IsCub n r) (k : IsCub n s) : r = s := by
  obtain ⟨h0, _, h1, h2⟩ := h
  obtain ⟨k0, _, k1, k2⟩ := k
  rcases Int.lt_trichotomy r s with c | c | c
  · have := cube_le (a := r + 1) (b := s) (by omega) (by omega); omega
  · exact c
  · have := cube_le (a := s + 1) (b := r) (by omega) (by omega); omega

theorem cube_step {r n : Int} (h0 : 0 ≤ r) (h : (r + 1) * (r + 1) * (r + 1) ≤ n) (hn : n ≤ 1000000000) : r + 1 ≤ 1000 := by
  rcases Int.lt_or_le 1000 (r + 1) with c | c
  · have := cube_le (a := 1001) (b := r + 1) (by omega) (by omega); omega
  · exact c
theorem cube_bd {r : Int} (h0 : 0 ≤ r) (h : r ≤ 1000) : 0 ≤ (r + 1) * (r + 1) ∧ (r + 1) * (r + 1) ≤ 1002001 ∧ 0 ≤ (r + 1) * (r + 1) * (r + 1) ∧ (r + 1) * (r + 1) * (r + 1) ≤ 1003003001 := by
  have h1 := sq_le (a := r + 1) (b := 1001) (by omega) (by omega)
  have h2 := cube_le (a := r + 1) (b := 1001) (by omega) (by omega)
  exact ⟨Int.mul_nonneg (by omega) (by omega), by omega, Int.mul_nonneg (Int.mul_nonneg (by omega) (by omega)) (by omega), by omega⟩

theorem iCubeOf_no (n : Int) (w : World) (h : n < 0 ∨ 1000000000 < n) :
    Calls Try.prog 9 #[.int .i64 n] w fun e w' => e = .returned (.int .i64 (-1)) ∧ w = w' := by
  go_enter Try.func9, Try.ntmps9
  go_wp2_with (go_at_call 30; refine (hasRoot_no _ _ h).mono ?_; rintro e w' ⟨rfl, rfl⟩)
  go_ret
  exact ⟨rfl, rfl⟩
theorem iCubeOf_yes (n : Int) (w : World) (h1 : 0 ≤ n) (h2 : n ≤ 1000000000) :
    Calls Try.prog 9 #[.int .i64 n] w (SomeInt (IsCub n) w) := by
  go_enter Try.func9, Try.ntmps9
  go_wp2_with (go_at_call 30; refine (hasRoot_yes _ _ h1 h2).mono ?_; rintro e w' ⟨rfl, rfl⟩)
  go_loop [3] (fun t => ∃ r : Int, 0 ≤ r ∧ r ≤ 1000 ∧ r * r * r ≤ n ∧ t = .int .i64 r) (fun t => (1000 - intOf t).toNat)
  case atStart => exact ⟨0, by omega, by omega, by omega, rfl⟩
  case round =>
    obtain ⟨r, hr0, hr1, hr2, rfl⟩ := hrel
    obtain ⟨b1, b2, b3, b4⟩ := cube_bd hr0 hr1
    by_cases hc : (r + 1) * (r + 1) * (r + 1) ≤ n
    · have hs := cube_step hr0 hc h2
      go_wp2
      go_round
      case rel => exact ⟨r + 1, by omega, hs, hc, rfl⟩
      case measure => simp [intOf] <;> omega
    · go_wp2
      go_ret
      exact ⟨r, ⟨hr0, hr1, hr2, by omega⟩, rfl, rfl⟩

theorem sCubeOf_no (n : Int) (w : World) (h : n < 0 ∨ 1000000000 < n) :
    Calls Try.prog 10 #[.int .i64 n] w fun e w' => e = .returned (.int .i64 (-1)) ∧ w = w' := by
  go_enter Try.func10, Try.ntmps10
  go_wp2_with (go_at_call 31; refine (l6In_no _ _ _ _ h).mono ?_; rintro e w' ⟨rfl, rfl⟩)
  go_ret
  exact ⟨rfl, rfl⟩
theorem sCubeOf_yes (n : Int) (w : World) (h1 : 0 ≤ n) (h2 : n ≤ 1000000000) :
    Calls Try.prog 10 #[.int .i64 n] w (SomeInt (IsCub n) w) := by
  go_enter Try.func10, Try.ntmps10
  go_wp2_with (go_at_call 31; refine (l6In_yes _ _ _ _ h1 h2).mono ?_; rintro e w' ⟨rfl, rfl⟩)
  go_loop [3] (fun t => ∃ r : Int, 0 ≤ r ∧ r ≤ 1000 ∧ r * r * r ≤ n ∧ t = .int .i64 r) (fun t => (1000 - intOf t).toNat)
  case atStart => exact ⟨0, by omega, by omega, by omega, rfl⟩
  case round =>
    obtain ⟨r, hr0, hr1, hr2, rfl⟩ := hrel
    obtain ⟨b1, b2, b3, b4⟩ := cube_bd hr0 hr1
    by_cases hc : (r + 1) * (r + 1) * (r + 1) ≤ n
    · have hs := cube_step hr0 hc h2
      go_wp2
      go_round
      case rel => exact ⟨r + 1, by omega, hs, hc, rfl⟩
      case measure => simp [intOf] <;> omega
    · go_wp2
      go_ret
      exact ⟨r, ⟨hr0, hr1, hr2, by omega⟩, rfl, rfl⟩


end Go.Proofs.Ytomojiipgabhfaa
