/- The walks of CubeOf, the program's and the reference's, and of the law FnExactCubeOf. No condition. -/
import Derived.Test.YtcekgegheffobaaBase
import Derived.WalkSpells
namespace Go.Proofs.Ytcekgegheffobaa
open Go.RowKit
set_option linter.unusedVariables false

theorem ret_bool {a b : Bool} (h : a = b) : Ending.returned (.bool a) = .returned (.bool b) := by rw [h]
theorem ret_int {a b : Int} (h : a = b) : Ending.returned (.int .i64 a) = .returned (.int .i64 b) := by rw [h]

theorem i64_bounds {n : Int} (h : (Lit.int .i64 n).wf = true) : -9223372036854775808 ≤ n ∧ n ≤ 9223372036854775807 := by
  have h' : IntKind.i64.min ≤ n ∧ n ≤ IntKind.i64.max := by simpa [Lit.wf] using h
  have e1 : IntKind.i64.min = -9223372036854775808 := by rfl
  have e2 : IntKind.i64.max = 9223372036854775807 := by rfl
  omega

theorem sq_le {a b : Int} (h0 : 0 ≤ a) (h : a ≤ b) : a * a ≤ b * b := Int.mul_le_mul h h h0 (by omega)
theorem cube_le {a b : Int} (h0 : 0 ≤ a) (h : a ≤ b) : a * a * a ≤ b * b * b :=
  Int.mul_le_mul (sq_le h0 h) h h0 (Int.mul_nonneg (by omega) (by omega))

/-- the root of the cube: what both loops come to. -/
def IsCub (n r : Int) : Prop := 0 ≤ r ∧ r ≤ 1000 ∧ r * r * r ≤ n ∧ n < (r + 1) * (r + 1) * (r + 1)
theorem isCub_uniq {n r s : Int} (h : IsCub n r) (k : IsCub n s) : r = s := by
  obtain ⟨h0, _, h1, h2⟩ := h
  obtain ⟨k0, _, k1, k2⟩ := k
  rcases Int.lt_trichotomy r s with c | c | c
  · have := cube_le (a := r + 1) (b := s) (by omega) (by omega); omega
  · exact c
  · have := cube_le (a := s + 1) (b := r) (by omega) (by omega); omega

def SomeInt (P : Int → Prop) (w : World) (e : Ending) (w' : World) : Prop := ∃ n : Int, P n ∧ e = .returned (.int .i64 n) ∧ w = w'

theorem hasRoot_yes (n : Int) (w : World) (h1 : 0 ≤ n) (h2 : n ≤ 1000000000) :
    Calls Try.prog 41 #[.int .i64 n] w fun e w' => e = .returned (.bool true) ∧ w = w' := by
  go_enter Try.func41, Try.ntmps41
  go_wp2
  go_ret
  exact ⟨rfl, rfl⟩
theorem hasRoot_no (n : Int) (w : World) (h : n < 0 ∨ 1000000000 < n) :
    Calls Try.prog 41 #[.int .i64 n] w fun e w' => e = .returned (.bool false) ∧ w = w' := by
  rcases h with h | h
  · go_enter Try.func41, Try.ntmps41
    go_wp2
    go_ret
    exact ⟨rfl, rfl⟩
  · have h0 : 0 ≤ n := by omega
    go_enter Try.func41, Try.ntmps41
    go_wp2
    go_ret
    exact ⟨ret_bool (by simp; omega), rfl⟩
theorem l6In_yes (n lo hi : Int) (w : World) (h1 : lo ≤ n) (h2 : n ≤ hi) :
    Calls Try.prog 40 #[.int .i64 n, .int .i64 lo, .int .i64 hi] w fun e w' => e = .returned (.bool true) ∧ w = w' := by
  go_enter Try.func40, Try.ntmps40
  go_wp2
  go_ret
  exact ⟨rfl, rfl⟩
theorem l6In_no (n lo hi : Int) (w : World) (h : n < lo ∨ hi < n) :
    Calls Try.prog 40 #[.int .i64 n, .int .i64 lo, .int .i64 hi] w fun e w' => e = .returned (.bool false) ∧ w = w' := by
  by_cases h0 : n < lo
  · go_enter Try.func40, Try.ntmps40
    go_wp2
    go_ret
    exact ⟨rfl, rfl⟩
  · have h1 : lo ≤ n := by omega
    have h2 : hi < n := by omega
    clear h0 h
    go_enter Try.func40, Try.ntmps40
    go_wp2
    go_ret
    exact ⟨ret_bool (by simp; omega), rfl⟩

theorem cube_step {r n : Int} (h0 : 0 ≤ r) (h : (r + 1) * (r + 1) * (r + 1) ≤ n) (hn : n ≤ 1000000000) : r + 1 ≤ 1000 := by
  rcases Int.lt_or_le 1000 (r + 1) with c | c
  · have := cube_le (a := 1001) (b := r + 1) (by omega) (by omega); omega
  · exact c
theorem cube_bd {r : Int} (h0 : 0 ≤ r) (h : r ≤ 1000) : 0 ≤ (r + 1) * (r + 1) ∧ (r + 1) * (r + 1) ≤ 1002001 ∧ 0 ≤ (r + 1) * (r + 1) * (r + 1) ∧ (r + 1) * (r + 1) * (r + 1) ≤ 1003003001 := by
  have h1 := sq_le (a := r + 1) (b := 1001) (by omega) (by omega)
  have h2 := cube_le (a := r + 1) (b := 1001) (by omega) (by omega)
  exact ⟨Int.mul_nonneg (by omega) (by omega), by omega, Int.mul_nonneg (Int.mul_nonneg (by omega) (by omega)) (by omega), by omega⟩

theorem iCubeOf_no (n : Int) (w : World) (h : n < 0 ∨ 1000000000 < n) :
    Calls Try.prog 16 #[.int .i64 n] w fun e w' => e = .returned (.int .i64 (-1)) ∧ w = w' := by
  go_enter Try.func16, Try.ntmps16
  go_wp2_with (go_at_call 41; refine (hasRoot_no _ _ h).mono ?_; rintro e w' ⟨rfl, rfl⟩)
  go_ret
  exact ⟨rfl, rfl⟩
theorem iCubeOf_yes (n : Int) (w : World) (h1 : 0 ≤ n) (h2 : n ≤ 1000000000) :
    Calls Try.prog 16 #[.int .i64 n] w (SomeInt (IsCub n) w) := by
  go_enter Try.func16, Try.ntmps16
  go_wp2_with (go_at_call 41; refine (hasRoot_yes _ _ h1 h2).mono ?_; rintro e w' ⟨rfl, rfl⟩)
  go_loop [3] (fun t => ∃ r : Int, 0 ≤ r ∧ r ≤ 1000 ∧ r * r * r ≤ n ∧ t = .int .i64 r) (fun t => (1000 - intOf t).toNat)
  case atStart => exact ⟨0, by omega, by omega, by omega, rfl⟩
  case round =>
    obtain ⟨r, hr0, hr1, hr2, rfl⟩ := hrel
    obtain ⟨b1, b2, b3, b4⟩ := cube_bd hr0 hr1
    by_cases hc : (r + 1) * (r + 1) * (r + 1) ≤ n
    · have hs := cube_step hr0 hc h2
      go_wp2
      go_round
      case rel => exact ⟨r + 1, by omega, hs, hc, rfl⟩
      case measure => simp [intOf]; omega
    · go_wp2
      go_ret
      exact ⟨r, ⟨hr0, hr1, hr2, by omega⟩, rfl, rfl⟩

theorem sCubeOf_no (n : Int) (w : World) (h : n < 0 ∨ 1000000000 < n) :
    Calls Try.prog 15 #[.int .i64 n] w fun e w' => e = .returned (.int .i64 (-1)) ∧ w = w' := by
  go_enter Try.func15, Try.ntmps15
  go_wp2_with (go_at_call 40; refine (l6In_no _ _ _ _ h).mono ?_; rintro e w' ⟨rfl, rfl⟩)
  go_ret
  exact ⟨rfl, rfl⟩
theorem sCubeOf_yes (n : Int) (w : World) (h1 : 0 ≤ n) (h2 : n ≤ 1000000000) :
    Calls Try.prog 15 #[.int .i64 n] w (SomeInt (IsCub n) w) := by
  go_enter Try.func15, Try.ntmps15
  go_wp2_with (go_at_call 40; refine (l6In_yes _ _ _ _ h1 h2).mono ?_; rintro e w' ⟨rfl, rfl⟩)
  go_loop [3] (fun t => ∃ r : Int, 0 ≤ r ∧ r ≤ 1000 ∧ r * r * r ≤ n ∧ t = .int .i64 r) (fun t => (1000 - intOf t).toNat)
  case atStart => exact ⟨0, by omega, by omega, by omega, rfl⟩
  case round =>
    obtain ⟨r, hr0, hr1, hr2, rfl⟩ := hrel
    obtain ⟨b1, b2, b3, b4⟩ := cube_bd hr0 hr1
    by_cases hc : (r + 1) * (r + 1) * (r + 1) ≤ n
    · have hs := cube_step hr0 hc h2
      go_wp2
      go_round
      case rel => exact ⟨r + 1, by omega, hs, hc, rfl⟩
      case measure => simp [intOf]; omega
    · go_wp2
      go_ret
      exact ⟨r, ⟨hr0, hr1, hr2, by omega⟩, rfl, rfl⟩

theorem walkFnExactCubeOf (a0 : Int) (w0 : (Lit.int .i64 a0).wf = true) (w : World) :
    Calls Try.prog 3 #[.int .i64 a0] w fun e w' => e = .returned (.bool true) ∧ Below w.heap.size w w' := by
  by_cases h : 0 ≤ a0 ∧ a0 ≤ 1000000000
  · obtain ⟨h1, h2⟩ := h
    go_enter Try.func3, Try.ntmps3
    go_wp2_with fail
    refine (sCubeOf_yes a0 _ h1 h2).mono ?_
    rintro e w' ⟨r, hr, rfl, rfl⟩
    go_wp2_with fail
    refine (iCubeOf_yes a0 _ h1 h2).mono ?_
    rintro e w' ⟨s, hs, rfl, rfl⟩
    obtain rfl := isCub_uniq hr hs
    go_wp2_with fail
    go_ret
    exact ⟨rfl, Below.refl _ _⟩
  · have h' : a0 < 0 ∨ 1000000000 < a0 := by omega
    go_enter Try.func3, Try.ntmps3
    go_wp2_with fail
    refine (sCubeOf_no a0 _ h').mono ?_
    rintro e w' ⟨rfl, rfl⟩
    go_wp2_with fail
    refine (iCubeOf_no a0 _ h').mono ?_
    rintro e w' ⟨rfl, rfl⟩
    go_wp2_with fail
    go_ret
    exact ⟨rfl, Below.refl _ _⟩

end Go.Proofs.Ytcekgegheffobaa
