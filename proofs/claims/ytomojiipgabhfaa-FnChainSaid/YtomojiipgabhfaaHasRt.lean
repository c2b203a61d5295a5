/- The walk of the program's hasRoot. No condition. -/
import Derived.Test.YtomojiipgabhfaaIn
namespace Go.Proofs.Ytomojiipgabhfaa
open Go.RowKit
set_option linter.unusedVariables false

theorem hasRoot_yes (n : Int) (w : World) (h1 : 0 ≤ n) (h2 : n ≤ 1000000000) :
    Calls Try.prog 30 #[.int .i64 n] w fun e w' => e = .returned (.bool true) ∧ w = w' := by
  go_enter Try.func30, Try.ntmps30
  go_wp2
  go_ret
  exact ⟨rfl, rfl⟩
theorem hasRoot_no (n : Int) (w : World) (h : n < 0 ∨ 1000000000 < n) :
    Calls Try.prog 30 #[.int .i64 n] w fun e w' => e = .returned (.bool false) ∧ w = w' := by
  rcases h with h | h
  · go_enter Try.func30, Try.ntmps30
    go_wp2
    go_ret
    exact ⟨rfl, rfl⟩
  · have h0 : 0 ≤ n := by omega
    go_enter Try.func30, Try.ntmps30
    go_wp2
    go_ret
    exact ⟨ret_bool (by simp; omega), rfl⟩

end Go.Proofs.Ytomojiipgabhfaa
