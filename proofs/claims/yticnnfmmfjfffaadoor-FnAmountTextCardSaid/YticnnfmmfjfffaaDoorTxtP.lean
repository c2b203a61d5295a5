/- Plain: numbers written with points between. -/
import Derived.Lib.ItoaNum
import Derived.Lib.Join
namespace Go.Proofs.YticnnfmmfjfffaaDoor
set_option linter.unusedVariables false
set_option linter.unusedSimpArgs false
open Go.Lib (decDigits join joinTail join_cons join_one join_nil)

theorem dec_small {u : Nat} (h : u < 10) : decDigits u = [UInt8.ofNat (48 + u)] := by rw [decDigits, dif_pos h]
theorem dec_big {u : Nat} (h : ¬ u < 10) : decDigits u = decDigits (u / 10) ++ [UInt8.ofNat (48 + u % 10)] := by rw [decDigits, dif_neg h]
theorem dg_toNat {d : Nat} (h : d < 10) : (UInt8.ofNat (48 + d)).toNat = 48 + d := by
  rw [UInt8.toNat_ofNat']; omega
/-- Digits are no points. -/
theorem dec_ne (u : Nat) : ∀ x ∈ decDigits u, x ≠ 46 := by
  induction u using Nat.strongRecOn with
  | _ u ih =>
    have key : ∀ d, d < 10 → UInt8.ofNat (48 + d) ≠ 46 := fun d hd e => by
      have := congrArg UInt8.toNat e
      rw [dg_toNat hd] at this
      simp at this
      omega
    intro x hx
    by_cases h : u < 10
    · rw [dec_small h] at hx
      rw [List.mem_singleton] at hx; subst hx
      exact key u h
    · rw [dec_big h] at hx
      rcases List.mem_append.1 hx with hx | hx
      · exact ih (u / 10) (by omega) x hx
      · rw [List.mem_singleton] at hx; subst hx
        exact key _ (by omega)
/-- A list of digits' number. -/
def dval (l : List UInt8) : Nat := l.foldl (fun a x => 10 * a + (x.toNat - 48)) 0
theorem dval_dec (u : Nat) : dval (decDigits u) = u := by
  induction u using Nat.strongRecOn with
  | _ u ih =>
    by_cases h : u < 10
    · rw [dec_small h]
      simp only [dval, List.foldl_cons, List.foldl_nil]
      rw [dg_toNat h]; omega
    · rw [dec_big h]
      have := ih (u / 10) (by omega)
      simp only [dval] at this ⊢
      rw [List.foldl_append, this]
      simp only [List.foldl_cons, List.foldl_nil]
      rw [dg_toNat (by omega)]; omega
theorem dec_inj {u v : Nat} (h : decDigits u = decDigits v) : u = v := by rw [← dval_dec u, ← dval_dec v, h]

/-- The text of numbers. -/
def dj (zs : List Nat) : List UInt8 := join (zs.map decDigits) [46]
theorem dj_nil : dj [] = [] := rfl
theorem dj_one (z : Nat) : dj [z] = decDigits z := join_one _ _
theorem dj_cons (z y : Nat) (zs : List Nat) : dj (z :: y :: zs) = decDigits z ++ 46 :: dj (y :: zs) := by
  unfold dj
  simp only [List.map_cons]
  rw [join_cons, join_cons]
  simp [joinTail]
theorem dj_snoc (zs : List Nat) (z : Nat) (h : zs ≠ []) : dj (zs ++ [z]) = dj zs ++ 46 :: decDigits z := by
  induction zs with
  | nil => exact absurd rfl h
  | cons a zs ih =>
    cases zs with
    | nil => simp only [List.cons_append, List.nil_append]; rw [dj_cons, dj_one, dj_one]
    | cons b zs =>
      have := ih (by simp)
      simp only [List.cons_append] at this ⊢
      rw [dj_cons, dj_cons, this, List.append_assoc]
      rfl
theorem count_dec (u : Nat) : (decDigits u).count 46 = 0 := List.count_eq_zero.2 fun h => dec_ne u _ h rfl
/-- So many points. -/
theorem dj_points : ∀ (z : Nat) (zs : List Nat), (dj (z :: zs)).count 46 = zs.length
  | z, [] => by rw [dj_one, count_dec]; rfl
  | z, y :: zs => by
    rw [dj_cons, List.count_append, count_dec, List.count_cons_self, dj_points y zs, List.length_cons]; omega
theorem split46 : ∀ {a b r s : List UInt8}, (∀ x ∈ a, x ≠ 46) → (∀ x ∈ b, x ≠ 46) → a ++ 46 :: r = b ++ 46 :: s → a = b ∧ r = s
  | [], [], r, s, _, _, h => by simpa using h
  | [], y :: b, r, s, _, hb, h => by
    simp only [List.nil_append, List.cons_append, List.cons.injEq] at h
    exact absurd h.1.symm (hb y (by simp))
  | x :: a, [], r, s, ha, _, h => by
    simp only [List.nil_append, List.cons_append, List.cons.injEq] at h
    exact absurd h.1 (ha x (by simp))
  | x :: a, y :: b, r, s, ha, hb, h => by
    simp only [List.cons_append, List.cons.injEq] at h
    obtain ⟨h1, h2⟩ := split46 (fun z hz => ha z (by simp [hz])) (fun z hz => hb z (by simp [hz])) h.2
    exact ⟨by rw [h.1, h1], h2⟩
/-- Numbers of one count are told by their text. -/
theorem dj_inj : ∀ {zs ys : List Nat}, zs.length = ys.length → dj zs = dj ys → zs = ys
  | [], [], _, _ => rfl
  | [], _ :: _, h, _ => by simp at h
  | _ :: _, [], h, _ => by simp at h
  | [z], [y], _, h => by rw [dj_one, dj_one] at h; rw [dec_inj h]
  | [z], y :: x :: ys, h, _ => by simp at h
  | z :: x :: zs, [y], h, _ => by simp at h
  | z :: x :: zs, y :: v :: ys, hl, h => by
    rw [dj_cons, dj_cons] at h
    obtain ⟨h1, h2⟩ := split46 (dec_ne z) (dec_ne y) h
    rw [dec_inj h1, dj_inj (zs := x :: zs) (ys := v :: ys) (by simpa using hl) h2]

end Go.Proofs.YticnnfmmfjfffaaDoor
