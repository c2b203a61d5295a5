/- The periods of the divisors that are drawn, reckoned by the kernel. No program in sight. -/
import Derived.Test.YtcekgegheffobaaPerP
namespace Go.Proofs.Ytcekgegheffobaa
set_option linter.unusedVariables false

/-- the number without its twos, then without its fives. -/
def strip (q : Nat) : Nat → Nat → Nat
  | 0, d => d
  | f + 1, d => if d % q = 0 then strip q f (d / q) else d
def core (d : Nat) : Nat := strip 5 12 (strip 2 12 d)
def perOk (d : Nat) : Bool :=
  let r := per (d : Int)
  let c := core d
  (decide (r.1 + r.2 < (d : Int)) || (r.1 == 0 && r.2 == 0)) && ((r.2 == 0) == (c == 1)) && (c != d || r.1 == 0) && (decide (0 ≤ r.1) && decide (r.1 ≤ 1000) && decide (0 ≤ r.2) && decide (r.2 ≤ 1000))
theorem perOk_small : ∀ d, d < 121 → 1 ≤ d → perOk d = true := by decide +kernel
theorem perOk_1000 : perOk 1000 = true := by decide +kernel
theorem perOk_997 : perOk 997 = true := by decide +kernel

theorem strip_inv {q f x S : Nat} (hq : 2 ≤ q) (h1 : 1 ≤ x) (hf : x < q ^ f) (hs : strip q f x = S) : (x % q = 0 ∧ ∃ f', x / q < q ^ f' ∧ strip q f' (x / q) = S) ∨ (x % q ≠ 0 ∧ x = S) := by
  cases f with
  | zero => simp at hf; omega
  | succ f =>
    rw [strip] at hs
    by_cases h : x % q = 0
    · left
      rw [if_pos h] at hs
      refine ⟨h, f, ?_, hs⟩
      rw [Nat.pow_succ] at hf
      exact Nat.div_lt_of_lt_mul (by rw [Nat.mul_comm]; exact hf)
    · right
      rw [if_neg h] at hs
      exact ⟨h, hs⟩

end Go.Proofs.Ytcekgegheffobaa
