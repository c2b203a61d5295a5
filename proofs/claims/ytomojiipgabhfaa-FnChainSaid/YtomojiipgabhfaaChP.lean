/- Plain laws of chains of quotients. No program in sight. -/
import Derived.Test.YtomojiipgabhfaaBase
namespace Go.Proofs.Ytomojiipgabhfaa
set_option linter.unusedVariables false

def qsF : Nat → Int → Int → List Int
  | 0, _, _ => []
  | f + 1, a, b => if 0 < b then a / b :: qsF f b (a % b) else []
def gcF : Nat → Int → Int → Int
  | 0, a, _ => a
  | f + 1, a, b => if 0 < b then gcF f b (a % b) else a
theorem qsF_fuel (f : Nat) : ∀ (g : Nat) (a b : Int), 0 ≤ b → b < f → b < g → qsF f a b = qsF g a b := by
  induction f with
  | zero => intro g a b h0 h1; omega
  | succ f ih =>
    intro g a b h0 h1 h2
    rcases g with _ | g
    · omega
    · rw [qsF, qsF]
      by_cases h : 0 < b
      · have m1 := Int.emod_nonneg a (show b ≠ 0 by omega)
        have m2 := Int.emod_lt_of_pos a h
        rw [if_pos h, if_pos h, ih g b (a % b) m1 (by omega) (by omega)]
      · rw [if_neg h, if_neg h]
theorem gcF_fuel (f : Nat) : ∀ (g : Nat) (a b : Int), 0 ≤ b → b < f → b < g → gcF f a b = gcF g a b := by
  induction f with
  | zero => intro g a b h0 h1; omega
  | succ f ih =>
    intro g a b h0 h1 h2
    rcases g with _ | g
    · omega
    · rw [gcF, gcF]
      by_cases h : 0 < b
      · have m1 := Int.emod_nonneg a (show b ≠ 0 by omega)
        have m2 := Int.emod_lt_of_pos a h
        rw [if_pos h, if_pos h, ih g b (a % b) m1 (by omega) (by omega)]
      · rw [if_neg h, if_neg h]
/-- the quotients of the chain of a and b. -/
def qs (a b : Int) : List Int := qsF (b.toNat + 1) a b
/-- what divides both. -/
def gc (a b : Int) : Int := gcF (b.toNat + 1) a b
theorem qs_zero (a : Int) : qs a 0 = [] := rfl
theorem gc_zero (a : Int) : gc a 0 = a := rfl
theorem qs_pos (a : Int) {b : Int} (h : 0 < b) : qs a b = a / b :: qs b (a % b) := by
  have m1 := Int.emod_nonneg a (show b ≠ 0 by omega)
  have m2 := Int.emod_lt_of_pos a h
  rw [qs, qsF, if_pos h, qs, qsF_fuel _ ((a % b).toNat + 1) _ _ m1 (by omega) (by omega)]
theorem gc_pos (a : Int) {b : Int} (h : 0 < b) : gc a b = gc b (a % b) := by
  have m1 := Int.emod_nonneg a (show b ≠ 0 by omega)
  have m2 := Int.emod_lt_of_pos a h
  rw [gc, gcF, if_pos h, gc, gcF_fuel _ ((a % b).toNat + 1) _ _ m1 (by omega) (by omega)]
theorem qs_len (k : Nat) : ∀ (a b : Int), 0 ≤ b → b < 2 ^ k → (qs a b).length ≤ 2 * k := by
  induction k with
  | zero => intro a b h0 h1; obtain rfl : b = 0 := by simp at h1; omega
            rw [qs_zero]; simp
  | succ k ih =>
    intro a b h0 h1
    by_cases h : 0 < b
    · rw [qs_pos a h, List.length_cons]
      have m1 := Int.emod_nonneg a (show b ≠ 0 by omega)
      have m2 := Int.emod_lt_of_pos a h
      generalize a % b = r at *
      by_cases h2 : 0 < r
      · rw [qs_pos b h2, List.length_cons]
        have n1 := Int.emod_nonneg b (show r ≠ 0 by omega)
        have n2 := Int.emod_lt_of_pos b h2
        have n3 := Int.mul_ediv_add_emod b r
        have n4 : 1 ≤ b / r := Int.le_ediv_of_mul_le h2 (by omega)
        have n5 := Int.mul_le_mul_of_nonneg_left n4 (show 0 ≤ r by omega)
        rw [Int.pow_succ] at h1
        have := ih r (b % r) n1 (by omega)
        omega
      · obtain rfl : r = 0 := by omega
        rw [qs_zero]; simp; omega
    · obtain rfl : b = 0 := by omega
      rw [qs_zero]; simp
theorem qs_len60 (a b : Int) (h0 : 0 ≤ b) (h1 : b ≤ 2000000000) : (qs a b).length ≤ 62 := by
  have := qs_len 31 a b h0 (by have : (2 : Int) ^ 31 = 2147483648 := by decide
                               omega)
  omega
theorem gc_bd (f : Nat) : ∀ (a b m : Int), 0 ≤ a → 0 ≤ b → b < f → a ≤ m → b ≤ m → 0 ≤ gc a b ∧ gc a b ≤ m ∧ (0 < a ∨ 0 < b → 0 < gc a b) := by
  induction f with
  | zero => intro a b m h0 h1 h2; omega
  | succ f ih =>
    intro a b m h0 h1 h2 h3 h4
    by_cases h : 0 < b
    · have m1 := Int.emod_nonneg a (show b ≠ 0 by omega)
      have m2 := Int.emod_lt_of_pos a h
      rw [gc_pos a h]
      obtain ⟨i1, i2, i3⟩ := ih b (a % b) m h1 m1 (by omega) h4 (by omega)
      exact ⟨i1, i2, fun _ => i3 (Or.inl h)⟩
    · obtain rfl : b = 0 := by omega
      rw [gc_zero]; exact ⟨h0, h3, by omega⟩

end Go.Proofs.Ytomojiipgabhfaa
