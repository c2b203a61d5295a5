/- Plain laws of chains for the law FnChain: twice the numbers, the last quotient, the way back. No program in sight. -/
import Derived.Test.YtomojiipgabhfaaChP
import Derived.Test.YtomojiipgabhfaaBack
namespace Go.Proofs.Ytomojiipgabhfaa
set_option linter.unusedVariables false

theorem qs_twice (f : Nat) : ∀ (a b : Int), 0 ≤ a → 0 ≤ b → b < f → qs (2 * a) (2 * b) = qs a b := by
  induction f with
  | zero => intro a b h0 h1 h2; omega
  | succ f ih =>
    intro a b h0 h1 h2
    by_cases h : 0 < b
    · have m1 := Int.emod_nonneg a (show b ≠ 0 by omega)
      have m2 := Int.emod_lt_of_pos a h
      rw [qs_pos (2 * a) (show 0 < 2 * b by omega), qs_pos a h, Int.mul_ediv_mul_of_pos _ _ (by omega), Int.mul_emod_mul_of_pos _ _ (by omega), ih b (a % b) (by omega) m1 (by omega)]
    · obtain rfl : b = 0 := by omega
      rfl
theorem last_cons (q : Int) (l : List Int) (h : 0 < l.length) : ix (q :: l) ((q :: l).length - 1) = ix l (l.length - 1) := by
  cases l with
  | nil => simp at h
  | cons a l => simp [ix]
/-- the last quotient of a chain whose first number is the greater one is at least 2. -/
theorem qs_last (f : Nat) : ∀ (a b : Int), 0 < b → b < a → b < f → 2 ≤ ix (qs a b) ((qs a b).length - 1) := by
  induction f with
  | zero => intro a b h0 h1 h2; omega
  | succ f ih =>
    intro a b h0 h1 h2
    have m1 := Int.emod_nonneg a (show b ≠ 0 by omega)
    have m2 := Int.emod_lt_of_pos a h0
    rw [qs_pos a h0]
    by_cases h : 0 < a % b
    · rw [last_cons _ _ (by rw [qs_pos b h]; simp)]
      exact ih b (a % b) h m2 (by omega)
    · have e : a % b = 0 := by omega
      rw [e, qs_zero]
      show 2 ≤ a / b
      have := Int.mul_ediv_add_emod a b
      rw [e] at this
      rcases Int.lt_or_le (a / b) 2 with hlt | hge
      · exfalso
        have h3 : b * (a / b) ≤ b * 1 := Int.mul_le_mul_of_nonneg_left (by omega) (by omega)
        omega
      · exact hge
theorem qs_last2 (a b : Int) (h0 : 0 ≤ a) (h1 : 0 ≤ b) (hn : 1 < (qs a b).length) : 2 ≤ ix (qs a b) ((qs a b).length - 1) := by
  by_cases h : 0 < b
  · have m1 := Int.emod_nonneg a (show b ≠ 0 by omega)
    have m2 := Int.emod_lt_of_pos a h
    rw [qs_pos a h] at hn ⊢
    have hl : 0 < (qs b (a % b)).length := by simp at hn; omega
    have hr : 0 < a % b := by
      rcases Int.lt_or_le 0 (a % b) with hx | hx
      · exact hx
      · exfalso
        rw [show a % b = 0 by omega, qs_zero] at hl
        simp at hl
    rw [last_cons _ _ hl]
    exact qs_last ((a % b).toNat + 1) b (a % b) hr m2 (by omega)
  · obtain rfl : b = 0 := by omega
    rw [qs_zero] at hn; simp at hn

theorem gc_dvd (f : Nat) : ∀ (a b : Int), 0 ≤ a → 0 ≤ b → b < f → gc a b ∣ a ∧ gc a b ∣ b := by
  induction f with
  | zero => intro a b h0 h1 h2; omega
  | succ f ih =>
    intro a b h0 h1 h2
    by_cases h : 0 < b
    · have m1 := Int.emod_nonneg a (show b ≠ 0 by omega)
      have m2 := Int.emod_lt_of_pos a h
      rw [gc_pos a h]
      obtain ⟨i1, i2⟩ := ih b (a % b) (by omega) m1 (by omega)
      refine ⟨?_, i1⟩
      generalize gc b (a % b) = k at *
      have e := Int.dvd_add (Int.dvd_mul_of_dvd_left (c := a / b) i1) i2
      rw [Int.mul_ediv_add_emod a b] at e
      exact e
    · obtain rfl : b = 0 := by omega
      rw [gc_zero]
      exact ⟨Int.dvd_refl _, Int.dvd_zero _⟩
theorem step_back {a b g : Int} (hg : 0 < g) (h1 : g ∣ b) (h2 : g ∣ a % b) : a / b * (b / g) + a % b / g = a / g := by
  obtain ⟨c, hc⟩ := h1
  obtain ⟨d, hd⟩ := h2
  have e := Int.mul_ediv_add_emod a b
  rw [hd]
  rw [Int.mul_ediv_cancel_left _ (by omega)]
  have hb : b / g = c := by rw [hc, Int.mul_ediv_cancel_left _ (by omega)]
  rw [hb]
  have ha : a = g * (a / b * c + d) := by
    rw [hd] at e
    have : b * (a / b) = g * (a / b * c) := by
      conv => lhs; rw [hc, Int.mul_assoc]
      rw [← hc, Int.mul_comm c]
    rw [this] at e
    rw [Int.mul_add]; omega
  conv => rhs; rw [ha]
  rw [Int.mul_ediv_cancel_left _ (by omega)]
theorem ix_mid (pre : List Int) (q : Int) (l : List Int) : ix (pre ++ q :: l) pre.length = q := by simp [ix]
/-- the way back over a chain. -/
theorem cbr_qs (f : Nat) : ∀ (pre : List Int) (a b g : Int), 0 ≤ a → a ≤ 1000000000 → 0 ≤ b → b ≤ 1000000000 → b < f → (pre = [] ∨ b < a) → 0 < gc a b → g = gc a b →
    cbr (pre ++ qs a b) (pre.length + (qs a b).length) 1 0 = cbr (pre ++ qs a b) pre.length (a / g) (b / g) := by
  induction f with
  | zero => intro pre a b g h0 h1 h2 h3 h4; omega
  | succ f ih =>
    intro pre a b g h0 h1 h2 h3 h4 hp hg hgg
    by_cases h : 0 < b
    · have m1 := Int.emod_nonneg a (show b ≠ 0 by omega)
      have m2 := Int.emod_lt_of_pos a h
      have hd := gc_dvd ((a % b).toNat + 1) b (a % b) (by omega) m1 (by omega)
      have hgp : gc b (a % b) = g := by rw [hgg, gc_pos a h]
      rw [qs_pos a h]
      have := ih (pre ++ [a / b]) b (a % b) g (by omega) h3 m1 (by omega) (by omega) (.inr m2) (by rw [hgp, hgg]; exact hg) hgp.symm
      rw [List.append_assoc, List.singleton_append, List.length_append, List.length_singleton] at this
      rw [show pre.length + (a / b :: qs b (a % b)).length = pre.length + 1 + (qs b (a % b)).length by simp; omega, this]
      have hg0 : 0 < g := by rw [hgg]; exact hg
      rw [hgp] at hd
      have hsb := step_back hg0 hd.1 hd.2
      have q0 := Int.ediv_nonneg h0 (show 0 ≤ b by omega)
      have q1 : a / b ≤ a := Int.ediv_le_self _ h0
      have r1 : a / g ≤ a := Int.ediv_le_self _ h0
      have hnz : 0 < pre.length → a / b ≠ 0 := fun hpos hz => by
        rcases hp with rfl | hlt
        · simp at hpos
        · have e := Int.mul_ediv_add_emod a b
          rw [hz] at e
          omega
      have hcond : 0 ≤ a / b ∧ a / b ≤ 1000000000 ∧ (0 < pre.length → a / b ≠ 0) ∧ a / b * (b / g) + a % b / g ≤ 1000000000 := ⟨q0, by omega, hnz, by rw [hsb]; omega⟩
      rw [cbr, ix_mid, if_pos hcond, hsb]
    · obtain rfl : b = 0 := by omega
      rw [gc_zero] at hgg hg
      subst hgg
      rw [qs_zero]
      simp only [List.length_nil, Nat.add_zero, Int.zero_ediv]
      rw [Int.ediv_self (by omega)]
theorem cbR_qs (a b : Int) (h0 : 0 ≤ a) (h1 : a ≤ 1000000000) (h2 : 0 ≤ b) (h3 : b ≤ 1000000000) (hg : 0 < gc a b) (hl : (qs a b).length ≤ 20) : cbR (qs a b) = (a / gc a b, b / gc a b, true) := by
  rw [cbR, if_pos hl]
  have := cbr_qs (b.toNat + 1) [] a b (gc a b) h0 h1 h2 h3 (by omega) (.inl rfl) hg rfl
  simp only [List.nil_append, List.length_nil, Nat.zero_add] at this
  rw [this, cbr]

end Go.Proofs.Ytomojiipgabhfaa
