/- The walks of the small functions of notches: a letter's worth, the sum of a text's letters, powers of ten. -/
import Derived.Test.YtahlflennmdckaaRows
import Derived.Test.YtahlflennmdckaaShelf
import Derived.Test.YtahlflennmdckaaNotP
import Derived.WalkKit
import Derived.ProofKit
import Derived.PlainAid
import Derived.Below
import Derived.Lib.Hide
namespace Go.Proofs.Ytahlflennmdckaa
open Go.RowKit Go.PlainAid
set_option linter.unusedVariables false
set_option linter.unusedSimpArgs false

/-- The worth of a letter, by its number. -/
def lwz (z : Int) : Int := if z = 77 then 1000 else if z = 67 then 100 else if z = 88 then 10 else if z = 73 then 1 else 0

theorem lwz_bd (z : Int) : 0 ≤ lwz z ∧ lwz z ≤ 1000 := by
  unfold lwz; split; · omega
  split; · omega
  split; · omega
  split <;> omega

theorem l6yWorth (z : Int) (w : World) :
    Calls Try.prog 53 #[.int .u8 z] w fun e w' => e = .returned (.int .i64 (lwz z)) ∧ w = w' := by
  by_cases h1 : z = 77
  · subst h1
    go_enter Try.func53, Try.ntmps53
    go_wp2
    go_ret
    exact ⟨rfl, rfl⟩
  · by_cases h2 : z = 67
    · subst h2
      go_enter Try.func53, Try.ntmps53
      go_wp2
      go_ret
      exact ⟨rfl, rfl⟩
    · by_cases h3 : z = 88
      · subst h3
        go_enter Try.func53, Try.ntmps53
        go_wp2
        go_ret
        exact ⟨rfl, rfl⟩
      · by_cases h4 : z = 73
        · subst h4
          go_enter Try.func53, Try.ntmps53
          go_wp2
          go_ret
          exact ⟨rfl, rfl⟩
        · have e : lwz z = 0 := by unfold lwz; rw [if_neg h1, if_neg h2, if_neg h3, if_neg h4]
          rw [e]
          go_enter Try.func53, Try.ntmps53
          go_wp2
          go_ret
          exact ⟨rfl, rfl⟩

/-- The sum of the worths of a text's first k letters. -/
def lsz (s : ByteArray) : Nat → Int
  | 0 => 0
  | k + 1 => lsz s k + lwz (bt s k)

theorem lsz_bd (s : ByteArray) : ∀ k, 0 ≤ lsz s k ∧ lsz s k ≤ 1000 * (k : Int)
  | 0 => by simp [lsz]
  | k + 1 => by
    have h := lsz_bd s k
    have h2 := lwz_bd (bt s k)
    simp only [lsz]
    omega

theorem l6ySum (s : ByteArray) (w : World) (hs : s.size ≤ 4611686018427387) :
    Calls Try.prog 52 #[.string s] w fun e w' => e = .returned (.int .i64 (lsz s s.size)) ∧ w = w' := by
  have hb := get_bt s
  go_enter Try.func52, Try.ntmps52
  go_wp2
  go_loop [3, 4] (fun x i => ∃ k : Nat, k ≤ s.size ∧ i = .int .i64 k ∧ x = .int .i64 (lsz s k)) (fun _ i => s.size - (intOf i).toNat)
  case atStart => exact ⟨0, Nat.zero_le _, rfl, rfl⟩
  case round =>
    obtain ⟨k, hk, rfl, rfl⟩ := hrel
    have h1 := lsz_bd s k
    have h2 := lwz_bd (bt s k)
    by_cases hlt : k < s.size
    · go_wp2_with (go_at_call 53; refine (l6yWorth _ _).mono ?_; rintro e w' ⟨rfl, rfl⟩)
      go_round
      case rel => exact ⟨k + 1, by omega, by go_num, by simp only [lsz]⟩
      case measure => simp [intOf] <;> omega
    · have HE := Lib.hid (show k = s.size by omega)
      go_wp2
      go_ret
      exact ⟨by rw [HE.out]; rfl, rfl⟩

/-- Ten to the n, n at most 3. -/
def p10 (n : Int) : Int := if n = 3 then 1000 else if n = 2 then 100 else if n = 1 then 10 else 1

theorem powerOfTen (n : Int) (w : World) (h0 : 0 ≤ n) (h3 : n ≤ 3) :
    Calls Try.prog 82 #[.int .i64 n] w fun e w' => e = .returned (.int .i64 (p10 n)) ∧ w = w' := by
  go_enter Try.func82, Try.ntmps82
  go_wp2
  go_loop [0, 3] (fun t x => ∃ m : Int, 0 ≤ m ∧ m ≤ n ∧ t = .int .i64 m ∧ x = .int .i64 (p10 (n - m))) (fun t _ => (intOf t).toNat)
  case atStart => exact ⟨n, h0, by omega, rfl, by rw [Int.sub_self]; rfl⟩
  case round =>
    obtain ⟨m, hm0, hm1, rfl, rfl⟩ := hrel
    by_cases hlt : 0 < m
    · have e1 : p10 (n - (m - 1)) = p10 (n - m) * 10 := by
        have : n - m = 0 ∨ n - m = 1 ∨ n - m = 2 := by omega
        have e : n - (m - 1) = n - m + 1 := by omega
        rw [e]
        rcases this with c | c | c <;> rw [c] <;> rfl
      have e2 : 1 ≤ p10 (n - m) ∧ p10 (n - m) ≤ 100 := by
        have : n - m = 0 ∨ n - m = 1 ∨ n - m = 2 := by omega
        rcases this with c | c | c <;> rw [c] <;> decide
      have E1 := Lib.hid e1
      clear e1
      go_wp2
      go_round
      case rel => exact ⟨m - 1, by omega, by omega, rfl, by rw [E1.out]⟩
      case measure => simp [intOf] <;> omega
    · have HE := Lib.hid (show m = 0 by omega)
      go_wp2
      go_ret
      exact ⟨by rw [HE.out, Int.sub_zero]; rfl, rfl⟩

theorem letterWorth (i : Int) (w : World) (h0 : 0 ≤ i) (h3 : i ≤ 3) :
    Calls Try.prog 56 #[.int .i64 i] w fun e w' => e = .returned (.int .i64 (p10 (3 - i))) ∧ w = w' := by
  go_enter Try.func56, Try.ntmps56
  go_wp2_with (go_at_call 82; refine (powerOfTen _ _ (by omega) (by omega)).mono ?_; rintro e w' ⟨rfl, rfl⟩)
  go_ret
  exact ⟨rfl, rfl⟩

end Go.Proofs.Ytahlflennmdckaa
