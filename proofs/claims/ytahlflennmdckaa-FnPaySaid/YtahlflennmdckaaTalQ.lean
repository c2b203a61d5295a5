/- Plain: what the law of merged debts says. -/
import Derived.Test.YtahlflennmdckaaTalP
namespace Go.Proofs.Ytahlflennmdckaa
open Go.RowKit Go.PlainAid
set_option linter.unusedVariables false
set_option linter.unusedSimpArgs false

theorem mkT_wt (i j x : Int) (h0 : 0 ≤ x) (h1 : x ≤ 9999) : wt (mkT i j x) = x := by
  have h := (wo_ntx (n := x.toNat) (by omega)).1
  show wo (ntx x.toNat).data.toList = x
  rw [h]; omega
theorem mkT_tok {i j x : Int} (h0 : 1 ≤ x) (h1 : x ≤ 9999) (h : twoB i j = true) : tokB (mkT i j x) = true := by
  have hw := mkT_wt i j x (by omega) h1
  have hv := (wo_ntx (n := x.toNat) (by omega)).2
  unfold tokB tmB
  rw [hw]
  show (twoB i j && (nvB (ntx x.toNat) && decide (ntx x.toNat = ntx x.toNat)) && decide (1 ≤ x)) = true
  rw [h, hv]
  simp; omega
theorem two_sym {i j : Int} (h : twoB i j = true) : twoB j i = true := by
  have := two_yes h
  unfold twoB
  simp; omega
theorem one_tok {i j x : Int} (h : inB x = true) (h2 : twoB i j = true) : ∀ t ∈ one i j x, tokB t = true := by
  unfold inB at h
  simp at h
  intro t ht
  unfold one at ht
  split at ht
  · simp at ht; subst ht; exact mkT_tok (by omega) h.2 h2
  · split at ht
    · simp at ht; subst ht; exact mkT_tok (by omega) (by omega) (two_sym h2)
    · simp at ht
theorem one_bal {i j x : Int} (h : inB x = true) (p : Int) : balP (one i j x) p = (if j = p then x else 0) - (if i = p then x else 0) := by
  unfold inB at h
  simp at h
  unfold one
  split
  · have e := mkT_wt i j x (by omega) h.2
    simp only [balP, cr, e]
    show ((if j = p then x else 0) - (if i = p then x else 0) + 0 = _)
    omega
  · split
    · have e := mkT_wt j i (0 - x) (by omega) (by omega)
      simp only [balP, cr, e]
      show ((if i = p then 0 - x else 0) - (if j = p then 0 - x else 0) + 0 = _)
      split <;> split <;> omega
    · have : x = 0 := by omega
      subst this
      simp [balP]
theorem one_owes {i j x : Int} (h : inB x = true) (a b : Int) : owes (one i j x) a b = (if i = a ∧ j = b then (if 0 < x then x else 0) else 0) + (if j = a ∧ i = b then (if x < 0 then 0 - x else 0) else 0) := by
  unfold inB at h
  simp at h
  unfold one
  split
  · have e := mkT_wt i j x (by omega) h.2
    have hx : ¬ x < 0 := by omega
    simp only [owes, ow, e, hx, if_false]
    show ((if i = a ∧ j = b then x else 0) + 0 = _)
    simp
  · split
    · have e := mkT_wt j i (0 - x) (by omega) (by omega)
      simp only [owes, ow, e]
      show ((if j = a ∧ i = b then 0 - x else 0) + 0 = _)
      simp
    · have : x = 0 := by omega
      subst this
      simp [owes]
theorem one_tot {i j x : Int} (h : inB x = true) : tot (one i j x) = if 0 < x then x else 0 - x := by
  unfold inB at h
  simp at h
  unfold one
  split
  · have e := mkT_wt i j x (by omega) h.2
    simp only [tot, e]; omega
  · split
    · have e := mkT_wt j i (0 - x) (by omega) (by omega)
      simp only [tot, e]; omega
    · have : x = 0 := by omega
      subst this
      simp [tot]

theorem owes_nn (i j : Int) : ∀ ts : List Tal, (∀ t ∈ ts, tokB t = true) → 0 ≤ owes ts i j
  | [], _ => by simp [owes]
  | t :: ts, h => by
    have := owes_nn i j ts fun u hu => h u (List.mem_cons_of_mem _ hu)
    have := tok_yes (h t (by simp))
    simp only [owes, ow]
    split <;> omega
/-- Balances and total by what each owes to each. -/
theorem bal_owes : ∀ ts : List Tal, (∀ t ∈ ts, tokB t = true) → (∀ p, 0 ≤ p → p < 5 → balP ts p = (owes ts 0 p - owes ts p 0) + (owes ts 1 p - owes ts p 1) + (owes ts 2 p - owes ts p 2) + (owes ts 3 p - owes ts p 3) + (owes ts 4 p - owes ts p 4)) ∧
    tot ts = owes ts 0 1 + owes ts 1 0 + owes ts 0 2 + owes ts 2 0 + owes ts 0 3 + owes ts 3 0 + owes ts 0 4 + owes ts 4 0 + owes ts 1 2 + owes ts 2 1 + owes ts 1 3 + owes ts 3 1 + owes ts 1 4 + owes ts 4 1 + owes ts 2 3 + owes ts 3 2 + owes ts 2 4 + owes ts 4 2 + owes ts 3 4 + owes ts 4 3
  | [], _ => by simp [balP, owes, tot]
  | t :: ts, h => by
    obtain ⟨i1, i2⟩ := bal_owes ts fun u hu => h u (List.mem_cons_of_mem _ hu)
    obtain ⟨h1, h2, h3, h4, h5⟩ := tok_yes (h t (by simp))
    obtain ⟨k1, k2, k3, k4, k5⟩ := two_yes h1
    have e1 : t.d = 0 ∨ t.d = 1 ∨ t.d = 2 ∨ t.d = 3 ∨ t.d = 4 := by omega
    have e2 : t.c = 0 ∨ t.c = 1 ∨ t.c = 2 ∨ t.c = 3 ∨ t.c = 4 := by omega
    constructor
    · intro p p0 p1
      have j1 := i1 p p0 p1
      simp only [balP, owes]
      have : cr p t = (ow 0 p t - ow p 0 t) + (ow 1 p t - ow p 1 t) + (ow 2 p t - ow p 2 t) + (ow 3 p t - ow p 3 t) + (ow 4 p t - ow p 4 t) := by
        have e3 : p = 0 ∨ p = 1 ∨ p = 2 ∨ p = 3 ∨ p = 4 := by omega
        clear j1 i1 i2 h1 h2 h3 h
        unfold cr ow
        generalize wt t = x at *
        rcases e1 with e | e | e | e | e <;> rcases e2 with e' | e' | e' | e' | e' <;> first | (exfalso; omega) | (rcases e3 with e3 | e3 | e3 | e3 | e3 <;> rw [e, e', e3] <;> simp)
      omega
    · simp only [tot, owes]
      have : wt t = ow 0 1 t + ow 1 0 t + ow 0 2 t + ow 2 0 t + ow 0 3 t + ow 3 0 t + ow 0 4 t + ow 4 0 t + ow 1 2 t + ow 2 1 t + ow 1 3 t + ow 3 1 t + ow 1 4 t + ow 4 1 t + ow 2 3 t + ow 3 2 t + ow 2 4 t + ow 4 2 t + ow 3 4 t + ow 4 3 t := by
        clear i1 i2 h1 h2 h3 h
        unfold ow
        generalize wt t = x at *
        rcases e1 with e | e | e | e | e <;> rcases e2 with e' | e' | e' | e' | e' <;> first | (exfalso; omega) | (rw [e, e']; simp)
      omega

/-- The ten differences. -/
theorem mok_all {ts : List Tal} (h : mokB ts (rows 5) = true) : inB (dif ts 0 1) = true ∧ inB (dif ts 0 2) = true ∧ inB (dif ts 0 3) = true ∧ inB (dif ts 0 4) = true ∧ inB (dif ts 1 2) = true ∧ inB (dif ts 1 3) = true ∧ inB (dif ts 1 4) = true ∧ inB (dif ts 2 3) = true ∧ inB (dif ts 2 4) = true ∧ inB (dif ts 3 4) = true := by
  rw [rows5] at h
  simpa [mokB] using h
theorem mok_mk {ts : List Tal} (h : inB (dif ts 0 1) = true ∧ inB (dif ts 0 2) = true ∧ inB (dif ts 0 3) = true ∧ inB (dif ts 0 4) = true ∧ inB (dif ts 1 2) = true ∧ inB (dif ts 1 3) = true ∧ inB (dif ts 1 4) = true ∧ inB (dif ts 2 3) = true ∧ inB (dif ts 2 4) = true ∧ inB (dif ts 3 4) = true) : mokB ts (rows 5) = true := by
  rw [rows5]
  simpa [mokB] using h
theorem mrg5 (ts : List Tal) : mrg ts (rows 5) = one 0 1 (dif ts 0 1) ++ (one 0 2 (dif ts 0 2) ++ (one 0 3 (dif ts 0 3) ++ (one 0 4 (dif ts 0 4) ++ (one 1 2 (dif ts 1 2) ++ (one 1 3 (dif ts 1 3) ++ (one 1 4 (dif ts 1 4) ++ (one 2 3 (dif ts 2 3) ++ (one 2 4 (dif ts 2 4) ++ one 3 4 (dif ts 3 4))))))))) := by
  rw [rows5]
  simp [mrg]
theorem mrg_tok {ts : List Tal} (h : mokB ts (rows 5) = true) : ∀ t ∈ mrg ts (rows 5), tokB t = true := by
  obtain ⟨d1, d2, d3, d4, d5, d6, d7, d8, d9, d10⟩ := mok_all h
  rw [mrg5]
  intro t ht
  simp only [List.mem_append] at ht
  rcases ht with ht | ht | ht | ht | ht | ht | ht | ht | ht | ht
  · exact one_tok d1 (by decide) t ht
  · exact one_tok d2 (by decide) t ht
  · exact one_tok d3 (by decide) t ht
  · exact one_tok d4 (by decide) t ht
  · exact one_tok d5 (by decide) t ht
  · exact one_tok d6 (by decide) t ht
  · exact one_tok d7 (by decide) t ht
  · exact one_tok d8 (by decide) t ht
  · exact one_tok d9 (by decide) t ht
  · exact one_tok d10 (by decide) t ht
theorem mrg_tv {ts : List Tal} (h : mokB ts (rows 5) = true) : tvB (mrg ts (rows 5)) = true :=
  tv_mk (by have := mrg_len ts (rows 5); have e : (rows 5).length = 10 := by decide
            omega) (mrg_tok h)
theorem bal_at {ts : List Tal} (h : ∀ t ∈ ts, tokB t = true) : balP ts 0 = 0 - dif ts 0 1 - dif ts 0 2 - dif ts 0 3 - dif ts 0 4 ∧ balP ts 1 = dif ts 0 1 - dif ts 1 2 - dif ts 1 3 - dif ts 1 4 ∧
    balP ts 2 = dif ts 0 2 + dif ts 1 2 - dif ts 2 3 - dif ts 2 4 ∧ balP ts 3 = dif ts 0 3 + dif ts 1 3 + dif ts 2 3 - dif ts 3 4 ∧ balP ts 4 = dif ts 0 4 + dif ts 1 4 + dif ts 2 4 + dif ts 3 4 := by
  obtain ⟨i1, i2⟩ := bal_owes ts h
  have a0 := i1 0 (by omega) (by omega)
  have a1 := i1 1 (by omega) (by omega)
  have a2 := i1 2 (by omega) (by omega)
  have a3 := i1 3 (by omega) (by omega)
  have a4 := i1 4 (by omega) (by omega)
  unfold dif
  omega
theorem mrg_dif {ts : List Tal} (h : mokB ts (rows 5) = true) : dif (mrg ts (rows 5)) 0 1 = dif ts 0 1 ∧ dif (mrg ts (rows 5)) 0 2 = dif ts 0 2 ∧ dif (mrg ts (rows 5)) 0 3 = dif ts 0 3 ∧ dif (mrg ts (rows 5)) 0 4 = dif ts 0 4 ∧ dif (mrg ts (rows 5)) 1 2 = dif ts 1 2 ∧ dif (mrg ts (rows 5)) 1 3 = dif ts 1 3 ∧ dif (mrg ts (rows 5)) 1 4 = dif ts 1 4 ∧ dif (mrg ts (rows 5)) 2 3 = dif ts 2 3 ∧ dif (mrg ts (rows 5)) 2 4 = dif ts 2 4 ∧ dif (mrg ts (rows 5)) 3 4 = dif ts 3 4 := by
  obtain ⟨d1, d2, d3, d4, d5, d6, d7, d8, d9, d10⟩ := mok_all h
  rw [mrg5]
  generalize dif ts 0 1 = x1 at *
  generalize dif ts 0 2 = x2 at *
  generalize dif ts 0 3 = x3 at *
  generalize dif ts 0 4 = x4 at *
  generalize dif ts 1 2 = x5 at *
  generalize dif ts 1 3 = x6 at *
  generalize dif ts 1 4 = x7 at *
  generalize dif ts 2 3 = x8 at *
  generalize dif ts 2 4 = x9 at *
  generalize dif ts 3 4 = x10 at *
  unfold dif
  simp only [owes_append, one_owes d1, one_owes d2, one_owes d3, one_owes d4, one_owes d5, one_owes d6, one_owes d7, one_owes d8, one_owes d9, one_owes d10]
  clear d1 d2 d3 d4 d5 d6 d7 d8 d9 d10 h
  refine ⟨?_, ?_, ?_, ?_, ?_, ?_, ?_, ?_, ?_, ?_⟩ <;> simp <;> omega
theorem mrg_tot {ts : List Tal} (ht : ∀ t ∈ ts, tokB t = true) (h : mokB ts (rows 5) = true) : tot (mrg ts (rows 5)) ≤ tot ts := by
  obtain ⟨d1, d2, d3, d4, d5, d6, d7, d8, d9, d10⟩ := mok_all h
  obtain ⟨_, i2⟩ := bal_owes ts ht
  have n := fun i j => owes_nn i j ts ht
  have n01 := n 0 1; have n10 := n 1 0; have n02 := n 0 2; have n20 := n 2 0; have n03 := n 0 3; have n30 := n 3 0; have n04 := n 0 4; have n40 := n 4 0
  have n12 := n 1 2; have n21 := n 2 1; have n13 := n 1 3; have n31 := n 3 1; have n14 := n 1 4; have n41 := n 4 1
  have n23 := n 2 3; have n32 := n 3 2; have n24 := n 2 4; have n42 := n 4 2; have n34 := n 3 4; have n43 := n 4 3
  rw [mrg5]
  simp only [tot_append, one_tot d1, one_tot d2, one_tot d3, one_tot d4, one_tot d5, one_tot d6, one_tot d7, one_tot d8, one_tot d9, one_tot d10]
  have q : ∀ a b : Int, 0 ≤ a → 0 ≤ b → (if 0 < a - b then a - b else 0 - (a - b)) ≤ a + b := fun a b ha hb => by split <;> omega
  have q1 := q _ _ n01 n10
  have q2 := q _ _ n02 n20
  have q3 := q _ _ n03 n30
  have q4 := q _ _ n04 n40
  have q5 := q _ _ n12 n21
  have q6 := q _ _ n13 n31
  have q7 := q _ _ n14 n41
  have q8 := q _ _ n23 n32
  have q9 := q _ _ n24 n42
  have q10 := q _ _ n34 n43
  unfold dif
  rw [i2]
  generalize (if 0 < owes ts 0 1 - owes ts 1 0 then owes ts 0 1 - owes ts 1 0 else 0 - (owes ts 0 1 - owes ts 1 0)) = y1 at *
  generalize (if 0 < owes ts 0 2 - owes ts 2 0 then owes ts 0 2 - owes ts 2 0 else 0 - (owes ts 0 2 - owes ts 2 0)) = y2 at *
  generalize (if 0 < owes ts 0 3 - owes ts 3 0 then owes ts 0 3 - owes ts 3 0 else 0 - (owes ts 0 3 - owes ts 3 0)) = y3 at *
  generalize (if 0 < owes ts 0 4 - owes ts 4 0 then owes ts 0 4 - owes ts 4 0 else 0 - (owes ts 0 4 - owes ts 4 0)) = y4 at *
  generalize (if 0 < owes ts 1 2 - owes ts 2 1 then owes ts 1 2 - owes ts 2 1 else 0 - (owes ts 1 2 - owes ts 2 1)) = y5 at *
  generalize (if 0 < owes ts 1 3 - owes ts 3 1 then owes ts 1 3 - owes ts 3 1 else 0 - (owes ts 1 3 - owes ts 3 1)) = y6 at *
  generalize (if 0 < owes ts 1 4 - owes ts 4 1 then owes ts 1 4 - owes ts 4 1 else 0 - (owes ts 1 4 - owes ts 4 1)) = y7 at *
  generalize (if 0 < owes ts 2 3 - owes ts 3 2 then owes ts 2 3 - owes ts 3 2 else 0 - (owes ts 2 3 - owes ts 3 2)) = y8 at *
  generalize (if 0 < owes ts 2 4 - owes ts 4 2 then owes ts 2 4 - owes ts 4 2 else 0 - (owes ts 2 4 - owes ts 4 2)) = y9 at *
  generalize (if 0 < owes ts 3 4 - owes ts 4 3 then owes ts 3 4 - owes ts 4 3 else 0 - (owes ts 3 4 - owes ts 4 3)) = y10 at *
  omega
/-- Two tallies between other people. -/
def Apart (t u : Tal) : Prop := ¬ (u.d = t.d ∧ u.c = t.c) ∧ ¬ (u.d = t.c ∧ u.c = t.d)
theorem one_apart {a b : Nat × Nat} (h1 : a.1 < a.2) (h2 : b.1 < b.2) (h : a ≠ b) (x y : Int) : ∀ t ∈ one a.1 a.2 x, ∀ u ∈ one b.1 b.2 y, Apart t u := by
  intro t ht u hu
  obtain ⟨a1, a2⟩ := a
  obtain ⟨b1, b2⟩ := b
  have hab : ¬ (a1 = b1 ∧ a2 = b2) := fun e => h (by rw [e.1, e.2])
  simp only at h1 h2 ht hu
  have mt : (t.d = a1 ∧ t.c = a2) ∨ (t.d = a2 ∧ t.c = a1) := by
    unfold one at ht
    split at ht
    · simp at ht; subst ht; exact .inl ⟨rfl, rfl⟩
    · split at ht
      · simp at ht; subst ht; exact .inr ⟨rfl, rfl⟩
      · simp at ht
  have mu : (u.d = b1 ∧ u.c = b2) ∨ (u.d = b2 ∧ u.c = b1) := by
    unfold one at hu
    split at hu
    · simp at hu; subst hu; exact .inl ⟨rfl, rfl⟩
    · split at hu
      · simp at hu; subst hu; exact .inr ⟨rfl, rfl⟩
      · simp at hu
  unfold Apart
  omega
theorem one_self (i j x : Int) : (one i j x).Pairwise Apart := by
  unfold one
  split
  · simp
  · split <;> simp
theorem mrg_apart (ts : List Tal) : (mrg ts (rows 5)).Pairwise Apart := by
  unfold mrg
  rw [List.pairwise_flatMap]
  refine ⟨fun a _ => one_self _ _ _, ?_⟩
  have : (rows 5).Pairwise fun a b => a.1 < a.2 ∧ b.1 < b.2 ∧ a ≠ b := by rw [rows5]; decide
  exact this.imp fun h => one_apart h.1 h.2.1 h.2.2 _ _
theorem apart_at {ts : List Tal} (h : ts.Pairwise Apart) {i k : Nat} (hk : k < i) (hi : i < ts.length) : Apart (tx ts k) (tx ts i) := by
  rw [tx_eq ts hi, tx_eq ts (by omega)]
  exact List.pairwise_iff_getElem.1 h k i (by omega) hi hk
/-- What the law asks of merged debts. -/
theorem me_law {ts : List Tal} (h : meB ts = true) : tvB ts = true ∧ tvB (meR ts) = true ∧ meB (meR ts) = true ∧ meR (meR ts) = meR ts ∧ bals (meR ts) = bals ts ∧ tot (meR ts) ≤ tot ts ∧ (meR ts).Pairwise Apart := by
  obtain ⟨e, hv, hm⟩ := me_yes h
  have ht := (tv_yes hv).2
  obtain ⟨m1, m2, m3, m4, m5, m6, m7, m8, m9, m10⟩ := mrg_dif hm
  have hm2 : mokB (mrg ts (rows 5)) (rows 5) = true := mok_mk (by rw [m1, m2, m3, m4, m5, m6, m7, m8, m9, m10]; exact mok_all hm)
  have hv2 := mrg_tv hm
  have hme2 : meB (mrg ts (rows 5)) = true := by unfold meB; rw [hv2, hm2]; rfl
  rw [e]
  refine ⟨hv, hv2, hme2, ?_, ?_, mrg_tot ht hm, mrg_apart ts⟩
  · rw [(me_yes hme2).1, mrg5 (mrg ts (rows 5)), m1, m2, m3, m4, m5, m6, m7, m8, m9, m10, ← mrg5]
  · obtain ⟨a0, a1, a2, a3, a4⟩ := bal_at ht
    obtain ⟨b0, b1, b2, b3, b4⟩ := bal_at (mrg_tok hm)
    rw [m1, m2, m3, m4] at b0
    rw [m1, m5, m6, m7] at b1
    rw [m2, m5, m8, m9] at b2
    rw [m3, m6, m8, m10] at b3
    rw [m4, m7, m9, m10] at b4
    unfold bals
    rw [a0, a1, a2, a3, a4, b0, b1, b2, b3, b4]

end Go.Proofs.Ytahlflennmdckaa
