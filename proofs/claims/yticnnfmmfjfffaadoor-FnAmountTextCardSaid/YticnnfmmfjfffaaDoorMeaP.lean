/- Plain laws of measures and amounts: worths, what an amount is worth, proper amounts. No program in sight. -/
import Derived.Test.YticnnfmmfjfffaaDoorBase
namespace Go.Proofs.YticnnfmmfjfffaaDoor
set_option linter.unusedVariables false

/-- a ratio that a measure may have. -/
def okR (r : Int) : Bool := decide (2 ≤ r) && decide (r ≤ 100)
theorem okR_iff {r : Int} : okR r = true ↔ 2 ≤ r ∧ r ≤ 100 := by simp [okR]
/-- the ratios of a measure. -/
def vldR (rs : List Int) : Bool := decide (rs.length ≤ 4) && rs.all okR
theorem vldR_iff {rs : List Int} : vldR rs = true ↔ rs.length ≤ 4 ∧ ∀ r ∈ rs, okR r = true := by simp [vldR, List.all_eq_true]
/-- the worths of all units. -/
def wor : List Int → List Int
  | [] => [1]
  | r :: rs => r * ix (wor rs) 0 :: wor rs
theorem wor_len (rs : List Int) : (wor rs).length = rs.length + 1 := by
  induction rs with
  | nil => rfl
  | cons r rs ih => simp [wor, ih]
/-- what MeasureWorths returns. -/
def mw (rs : List Int) : List Int := if vldR rs then wor rs else []
theorem ix_zero (a : Int) (l : List Int) : ix (a :: l) 0 = a := rfl
theorem ix_succ (a : Int) (l : List Int) (i : Nat) : ix (a :: l) (i + 1) = ix l i := by simp [ix]
theorem wor_step (rs : List Int) (i : Nat) (h : i < rs.length) : ix (wor rs) i = ix rs i * ix (wor rs) (i + 1) := by
  induction rs generalizing i with
  | nil => simp at h
  | cons r rs ih =>
    cases i with
    | zero => rw [wor, ix_zero, ix_zero, ix_succ]
    | succ i => rw [wor, ix_succ, ix_succ, ix_succ]; exact ih i (by simpa using h)
theorem wor_last (rs : List Int) : ix (wor rs) rs.length = 1 := by
  induction rs with
  | nil => rfl
  | cons r rs ih => rw [wor, List.length_cons, ix_succ]; exact ih
theorem okR_tail {r : Int} {rs : List Int} (h : ∀ x ∈ r :: rs, okR x = true) : 2 ≤ r ∧ r ≤ 100 ∧ ∀ x ∈ rs, okR x = true :=
  ⟨(okR_iff.1 (h r (by simp))).1, (okR_iff.1 (h r (by simp))).2, fun x hx => h x (by simp [hx])⟩
theorem wor_head_bd (k : Nat) (rs : List Int) (hl : rs.length ≤ k) (h : ∀ x ∈ rs, okR x = true) : 1 ≤ ix (wor rs) 0 ∧ ix (wor rs) 0 ≤ 100 ^ k := by
  induction rs generalizing k with
  | nil => exact ⟨by decide, by have : (1 : Int) ≤ 100 ^ k := Int.pow_pos (by decide); exact this⟩
  | cons r rs ih =>
    obtain ⟨h1, h2, h3⟩ := okR_tail h
    rcases k with _ | k
    · simp at hl
    · obtain ⟨i1, i2⟩ := ih k (by simpa using hl) h3
      rw [wor, ix_zero, Int.pow_succ]
      have a1 := Int.mul_le_mul h2 i2 (by omega) (by omega)
      have a2 := Int.mul_le_mul h1 i1 (by omega) (by omega)
      exact ⟨by omega, by rw [Int.mul_comm (100 ^ k)]; exact a1⟩
theorem wor_bd (rs : List Int) (hl : rs.length ≤ 4) (h : ∀ x ∈ rs, okR x = true) (i : Nat) (hi : i < rs.length + 1) : 1 ≤ ix (wor rs) i ∧ ix (wor rs) i ≤ 100000000 := by
  induction rs generalizing i with
  | nil =>
    obtain rfl : i = 0 := by simp at hi; omega
    decide
  | cons r rs ih =>
    cases i with
    | zero =>
      have := wor_head_bd 4 (r :: rs) hl h
      simpa using this
    | succ i =>
      rw [wor, ix_succ]
      exact ih (by simp at hl; omega) (okR_tail h).2.2 i (by simpa using hi)

/-- an amount in the least unit, -1 for none. -/
def lstF : List Int → List Int → Int → Int
  | n :: ns, w :: ws, acc => if n < 0 ∨ 1000000000 < n then -1 else if 1000000000 < acc + n * w then -1 else lstF ns ws (acc + n * w)
  | _, _, acc => acc
def lst (rs list : List Int) : Int := if vldR rs = true ∧ list.length = rs.length + 1 then lstF list (wor rs) 0 else -1
/-- each unit's number times its worth, all together. -/
def dot : List Int → List Int → Int
  | n :: ns, w :: ws => n * w + dot ns ws
  | _, _ => 0
theorem dot_nn (ns ws : List Int) (h1 : ∀ n ∈ ns, 0 ≤ n) (h2 : ∀ w ∈ ws, 1 ≤ w) : 0 ≤ dot ns ws := by
  induction ns generalizing ws with
  | nil => simp [dot]
  | cons n ns ih =>
    cases ws with
    | nil => simp [dot]
    | cons w ws =>
      rw [dot]
      have := ih ws (fun x hx => h1 x (by simp [hx])) (fun x hx => h2 x (by simp [hx]))
      have := Int.mul_nonneg (h1 n (by simp)) (show 0 ≤ w by have := h2 w (by simp); omega)
      omega
theorem lstF_is (ns ws : List Int) (acc : Int) (h0 : 0 ≤ acc) (ha : acc ≤ 1000000000) (hl : ns.length = ws.length) (h2 : ∀ w ∈ ws, 1 ≤ w) :
    (lstF ns ws acc = acc + dot ns ws ∧ (∀ n ∈ ns, 0 ≤ n) ∧ acc + dot ns ws ≤ 1000000000) ∨ (lstF ns ws acc = -1 ∧ ((∃ n ∈ ns, n < 0) ∨ (∀ n ∈ ns, 0 ≤ n) ∧ 1000000000 < acc + dot ns ws)) := by
  induction ns generalizing ws acc with
  | nil =>
    cases ws with
    | nil => left; simp [lstF, dot, ha]
    | cons w ws => simp at hl
  | cons n ns ih =>
    cases ws with
    | nil => simp at hl
    | cons w ws =>
      have hw := h2 w (by simp)
      have h2' : ∀ x ∈ ws, 1 ≤ x := fun x hx => h2 x (by simp [hx])
      rw [lstF]
      by_cases hn : n < 0
      · right
        rw [if_pos (Or.inl hn)]
        exact ⟨rfl, .inl ⟨n, by simp, hn⟩⟩
      · have hm : n ≤ n * w := by
          have := Int.mul_le_mul_of_nonneg_left hw (show 0 ≤ n by omega)
          omega
        by_cases hbad : 1000000000 < acc + n * w
        · right
          refine ⟨by split <;> simp, ?_⟩
          by_cases hx : ∃ x ∈ ns, x < 0
          · obtain ⟨x, hx1, hx2⟩ := hx
            exact .inl ⟨x, by simp [hx1], hx2⟩
          · right
            have hall : ∀ x ∈ ns, 0 ≤ x := fun x hx' => by
              rcases Int.lt_or_le x 0 with h | h
              · exact absurd ⟨x, hx', h⟩ hx
              · exact h
            have := dot_nn ns ws hall h2'
            refine ⟨fun x hx' => ?_, by rw [dot]; omega⟩
            rcases List.mem_cons.1 hx' with rfl | h
            · omega
            · exact hall x h
        · rw [if_neg (by omega), if_neg hbad, dot]
          rcases ih ws (acc + n * w) (by omega) (by omega) (by simpa using hl) h2' with ⟨e, h3, h4⟩ | ⟨e, h3⟩
          · left
            refine ⟨by rw [e]; omega, fun x hx' => ?_, by omega⟩
            rcases List.mem_cons.1 hx' with rfl | h
            · omega
            · exact h3 x h
          · right
            refine ⟨e, ?_⟩
            rcases h3 with ⟨x, hx1, hx2⟩ | ⟨h4, h5⟩
            · exact .inl ⟨x, by simp [hx1], hx2⟩
            · right
              refine ⟨fun x hx' => ?_, by omega⟩
              rcases List.mem_cons.1 hx' with rfl | h
              · omega
              · exact h4 x h
theorem mem_ix {zs : List Int} {x : Int} (h : x ∈ zs) : ∃ i, i < zs.length ∧ ix zs i = x := by
  obtain ⟨i, hi, e⟩ := List.getElem_of_mem h
  exact ⟨i, hi, by rw [ix_eq zs hi]; exact e⟩
theorem wor_mem {rs : List Int} (h : vldR rs = true) : ∀ w ∈ wor rs, 1 ≤ w := by
  intro w hw
  obtain ⟨i, hi, rfl⟩ := mem_ix hw
  obtain ⟨h1, h2⟩ := vldR_iff.1 h
  rw [wor_len] at hi
  exact (wor_bd rs h1 h2 i hi).1
/-- what 'lst' says. -/
theorem lst_is (rs list : List Int) : (vldR rs = true ∧ list.length = rs.length + 1 ∧ lst rs list = dot list (wor rs) ∧ (∀ n ∈ list, 0 ≤ n) ∧ 0 ≤ dot list (wor rs) ∧ dot list (wor rs) ≤ 1000000000) ∨
    (lst rs list = -1 ∧ (vldR rs = true → list.length = rs.length + 1 → (∀ n ∈ list, 0 ≤ n) → 1000000000 < dot list (wor rs))) := by
  unfold lst
  by_cases h : vldR rs = true ∧ list.length = rs.length + 1
  · rw [if_pos h]
    have hw := wor_mem h.1
    rcases lstF_is list (wor rs) 0 (by omega) (by omega) (by rw [wor_len]; exact h.2) hw with ⟨e, h3, h4⟩ | ⟨e, h3⟩
    · left
      exact ⟨h.1, h.2, by rw [e]; omega, h3, dot_nn _ _ h3 hw, by omega⟩
    · right
      refine ⟨e, fun _ _ hall => ?_⟩
      rcases h3 with ⟨x, hx1, hx2⟩ | ⟨_, h5⟩
      · have := hall x hx1; omega
      · omega
  · rw [if_neg h]
    right
    exact ⟨rfl, fun h1 h2 => absurd ⟨h1, h2⟩ h⟩
theorem lst_bd (rs list : List Int) : -1 ≤ lst rs list ∧ lst rs list ≤ 1000000000 := by
  rcases lst_is rs list with ⟨_, _, e, _, h1, h2⟩ | ⟨e, _⟩ <;> omega
theorem lst_vld {rs list : List Int} (h : 0 ≤ lst rs list) : vldR rs = true ∧ list.length = rs.length + 1 := by
  rcases lst_is rs list with ⟨h1, h2, _⟩ | ⟨e, _⟩
  · exact ⟨h1, h2⟩
  · omega

/-- from unit to unit. -/
def prp : List Int → Int → List Int
  | [], _ => []
  | w :: ws, n => n / w :: prp ws (n % w)
theorem prp_len (ws : List Int) (n : Int) : (prp ws n).length = ws.length := by
  induction ws generalizing n with
  | nil => rfl
  | cons w ws ih => simp [prp, ih]
theorem prp_nn (ws : List Int) (n : Int) (h0 : 0 ≤ n) (h : ∀ w ∈ ws, 1 ≤ w) : ∀ x ∈ prp ws n, 0 ≤ x := by
  induction ws generalizing n with
  | nil => simp [prp]
  | cons w ws ih =>
    intro x hx
    have hw := h w (by simp)
    rcases List.mem_cons.1 hx with rfl | hx'
    · exact Int.ediv_nonneg h0 (by omega)
    · exact ih (n % w) (Int.emod_nonneg _ (by omega)) (fun y hy => h y (by simp [hy])) x hx'
theorem dot_prp (rs : List Int) (n : Int) : dot (prp (wor rs) n) (wor rs) = n := by
  induction rs generalizing n with
  | nil => simp [wor, prp, dot]
  | cons r rs ih =>
    rw [wor, prp, dot, ih, Int.mul_comm]
    exact Int.mul_ediv_add_emod _ _
/-- a proper amount is worth what it was made of. -/
theorem lst_prp (rs : List Int) (n : Int) (hv : vldR rs = true) (h0 : 0 ≤ n) (h1 : n ≤ 1000000000) : lst rs (prp (wor rs) n) = n := by
  have hl : (prp (wor rs) n).length = rs.length + 1 := by rw [prp_len, wor_len]
  have hd := dot_prp rs n
  rcases lst_is rs (prp (wor rs) n) with ⟨_, _, e, _⟩ | ⟨_, h⟩
  · omega
  · have := h hv hl (prp_nn _ _ h0 (wor_mem hv))
    omega
theorem prp_inj (rs : List Int) (a b : Int) (h : prp (wor rs) a = prp (wor rs) b) : a = b := by
  rw [← dot_prp rs a, h, dot_prp]
theorem emod_lt_mul (n r w : Int) (hr : 0 < r) (hw : 0 < w) : n % (r * w) / w < r :=
  Int.ediv_lt_of_lt_mul hw (Int.emod_lt_of_pos _ (Int.mul_pos hr hw))
theorem prp_small (rs : List Int) (n : Int) (h : ∀ x ∈ rs, okR x = true) (i : Nat) (hi : i < rs.length) : ix (prp (wor rs) n) (i + 1) < ix rs i := by
  induction rs generalizing n i with
  | nil => simp at hi
  | cons r rs ih =>
    obtain ⟨h1, h2, h3⟩ := okR_tail h
    rw [wor, prp, ix_succ]
    cases i with
    | zero =>
      have hb := (wor_head_bd rs.length rs (Nat.le_refl _) h3).1
      rw [ix_zero]
      generalize hw : ix (wor rs) 0 = w at *
      cases hws : wor rs with
      | nil => have := wor_len rs; rw [hws] at this; simp at this
      | cons v vs =>
        rw [hws, ix_zero] at hw
        subst hw
        rw [prp, ix_zero]
        exact emod_lt_mul n r v (by omega) (by omega)
    | succ i =>
      rw [ix_succ]
      exact ih _ h3 i (by simpa using hi)
/-- all numbers together. -/
def sm (l : List Int) : Int := l.foldr (· + ·) 0
theorem sm_nil : sm [] = 0 := rfl
theorem sm_cons (a : Int) (l : List Int) : sm (a :: l) = a + sm l := rfl
theorem sm_shift (rs : List Int) (hr : ∀ x ∈ rs, okR x = true) (m t : Int) : sm (prp (wor rs) (m + ix (wor rs) 0 * t)) = sm (prp (wor rs) m) + t := by
  cases hws : wor rs with
  | nil => have := wor_len rs; rw [hws] at this; simp at this
  | cons v vs =>
    have hb := (wor_head_bd rs.length rs (Nat.le_refl _) hr).1
    rw [hws] at hb
    rw [ix_zero] at *
    rw [prp, prp, sm_cons, sm_cons, Int.add_mul_emod_self_left, Int.add_mul_ediv_left _ _ (by omega)]
    omega
theorem wor_pos (rs : List Int) (h : ∀ x ∈ rs, okR x = true) : ∀ w ∈ wor rs, 1 ≤ w := by
  induction rs with
  | nil => simp [wor]
  | cons r rs ih =>
    intro w hw
    have hh := wor_head_bd (rs.length + 1) (r :: rs) (by simp) h
    rw [wor] at hw hh
    rw [ix_zero] at hh
    rcases List.mem_cons.1 hw with rfl | hw
    · exact hh.1
    · exact ih (okR_tail h).2.2 w hw
/-- no amount has fewer units than the proper one. -/
theorem prp_least (rs list : List Int) (hr : ∀ x ∈ rs, okR x = true) (hl : list.length = rs.length + 1) (hn : ∀ n ∈ list, 0 ≤ n) : sm (prp (wor rs) (dot list (wor rs))) ≤ sm list := by
  induction rs generalizing list with
  | nil =>
    match list, hl with
    | [a], _ => simp [wor, dot, prp, sm]
  | cons r rs ih =>
    obtain ⟨h1, h2, h3⟩ := okR_tail hr
    cases list with
    | nil => simp at hl
    | cons a l =>
      have hb := (wor_head_bd rs.length rs (Nat.le_refl _) h3).1
      have hs := sm_shift rs h3
      have hI := ih l h3 (by simpa using hl) (fun x hx => hn x (by simp [hx]))
      have hd := dot_nn l (wor rs) (fun x hx => hn x (by simp [hx])) (wor_pos rs h3)
      rw [wor, dot, prp, sm_cons, sm_cons]
      generalize ix (wor rs) 0 = w at *
      generalize dot l (wor rs) = D at *
      have hrw : 0 < r * w := Int.mul_pos (by omega) (by omega)
      have ht : 0 ≤ D / (r * w) := Int.ediv_nonneg hd (by omega)
      have e1 : (a * (r * w) + D) / (r * w) = a + D / (r * w) := by rw [Int.add_comm, Int.add_mul_ediv_right _ _ (by omega)]; omega
      have e2 : (a * (r * w) + D) % (r * w) = D % (r * w) := by rw [Int.add_comm, Int.add_mul_emod_self_right]
      rw [e1, e2]
      have e3 : D % (r * w) + w * (r * (D / (r * w))) = D := by
        rw [← Int.mul_assoc, Int.mul_comm w r]; exact Int.emod_add_mul_ediv D (r * w)
      have e4 := hs (D % (r * w)) (r * (D / (r * w)))
      rw [e3] at e4
      have e5 : D / (r * w) ≤ r * (D / (r * w)) := by
        have := Int.mul_le_mul_of_nonneg_right (show 1 ≤ r by omega) ht
        omega
      omega

end Go.Proofs.YticnnfmmfjfffaaDoor
