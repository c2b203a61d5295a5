/- The walks of RootOdd, the program's and the reference's, and of the law FnExactRootOdd. No condition. -/
import Derived.Test.YtomojiipgabhfaaHasRt
namespace Go.Proofs.Ytomojiipgabhfaa
open Go.RowKit
set_option linter.unusedVariables false

/-- r is the root of n, rounded down. -/
def IsRt (n r : Int) : Prop := 0 ≤ r ∧ r ≤ 31622 ∧ r * r ≤ n ∧ n < (r + 1) * (r + 1)
theorem isRt_uniq {n r s : Int} (h : IsRt n r) (k : IsRt n s) : r = s := by
  obtain ⟨h0, _, h1, h2⟩ := h
  obtain ⟨k0, _, k1, k2⟩ := k
  rcases Int.lt_trichotomy r s with c | c | c
  · have := sq_le (a := r + 1) (b := s) (by omega) (by omega); omega
  · exact c
  · have := sq_le (a := s + 1) (b := r) (by omega) (by omega); omega
theorem rt_step {r n : Int} (h0 : 0 ≤ r) (h : r * r ≤ n) (hn : n ≤ 1000000000) : r ≤ 31622 := by
  rcases Int.lt_or_le 31622 r with c | c
  · have := sq_le (a := 31623) (b := r) (by omega) (by omega); omega
  · exact c
theorem rt_bd {r : Int} (h0 : 0 ≤ r) (h : r ≤ 100001) : 0 ≤ r * r ∧ r * r ≤ 10000200001 := by
  have h1 := sq_le (a := r) (b := 100001) (by omega) (by omega)
  exact ⟨Int.mul_nonneg (by omega) (by omega), by omega⟩

/-- the root, the remainder, true. -/
def RetRt (n : Int) (w : World) (e : Ending) (w' : World) : Prop := ∃ r : Int, IsRt n r ∧ e = .returned (.tuple #[.int .i64 r, .int .i64 (n - r * r), .bool true]) ∧ w = w'

theorem iRootOdd_no (n : Int) (w : World) (h : n < 0 ∨ 1000000000 < n) :
    Calls Try.prog 16 #[.int .i64 n] w fun e w' => e = .returned (.tuple #[.int .i64 0, .int .i64 0, .bool false]) ∧ w = w' := by
  go_enter Try.func16, Try.ntmps16
  go_wp2_with (go_at_call 30; refine (hasRoot_no _ _ h).mono ?_; rintro e w' ⟨rfl, rfl⟩)
  go_ret3
  exact ⟨rfl, rfl⟩
theorem iRootOdd_yes (n : Int) (w : World) (h1 : 0 ≤ n) (h2 : n ≤ 1000000000) :
    Calls Try.prog 16 #[.int .i64 n] w (RetRt n w) := by
  go_enter Try.func16, Try.ntmps16
  go_wp2_with (go_at_call 30; refine (hasRoot_yes _ _ h1 h2).mono ?_; rintro e w' ⟨rfl, rfl⟩)
  go_loop [0, 5, 6] (fun m c o => ∃ r : Int, 0 ≤ r ∧ r ≤ 31622 ∧ r * r ≤ n ∧ m = .int .i64 (n - r * r) ∧ c = .int .i64 r ∧ o = .int .i64 (2 * r + 1)) (fun _ c _ => (31622 - intOf c).toNat)
  case atStart => exact ⟨0, by omega, by omega, by omega, int_eq (by omega), rfl, rfl⟩
  case round =>
    obtain ⟨r, hr0, hr1, hr2, rfl, rfl, rfl⟩ := hrel
    have b1 := sq_nn r
    have HS := Lib.hid (sq_succ r)
    by_cases hc : 2 * r + 1 ≤ n - r * r
    · have hs : r + 1 ≤ 31622 := rt_step (by omega) (by rw [HS.out]; omega) h2
      go_wp2
      go_round
      case rel => exact ⟨r + 1, by omega, hs, by rw [HS.out]; omega, int_eq (by rw [HS.out]; omega), rfl, int_eq (by omega)⟩
      case measure => simp [intOf] <;> omega
    · go_wp2
      go_ret3
      exact ⟨r, ⟨hr0, hr1, hr2, by rw [HS.out]; omega⟩, rfl, rfl⟩

end Go.Proofs.Ytomojiipgabhfaa
