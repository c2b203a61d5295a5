/- Plain: notches as four counts; a text of notches is read letter by letter. -/
import Derived.Lib.Repeat
import Derived.Lib.Bytealg
import Derived.Lib.Index
namespace Go.Proofs.Ytahlflennmdckaa
set_option linter.unusedVariables false
set_option linter.unusedSimpArgs false

/-- The counts of M, C, X, I. -/
structure NS where
  a : Nat
  b : Nat
  c : Nat
  d : Nat
deriving DecidableEq

def ns0 : NS := ⟨0, 0, 0, 0⟩

/-- One letter more. -/
def nstep (s : NS) (x : UInt8) : Option NS :=
  if x = 77 then (if s.b + s.c + s.d = 0 ∧ s.a < 9 then some { s with a := s.a + 1 } else none)
  else if x = 67 then (if s.c + s.d = 0 ∧ s.b < 9 then some { s with b := s.b + 1 } else none)
  else if x = 88 then (if s.d = 0 ∧ s.c < 9 then some { s with c := s.c + 1 } else none)
  else if x = 73 then (if s.d < 9 then some { s with d := s.d + 1 } else none)
  else none

def nrun : List UInt8 → NS → Option NS
  | [], s => some s
  | x :: l, s => match nstep s x with
    | some t => nrun l t
    | none => none

theorem nrun_append (l m : List UInt8) (s : NS) : nrun (l ++ m) s = (nrun l s).bind (nrun m) := by
  induction l generalizing s with
  | nil => rfl
  | cons x l ih =>
    simp only [List.cons_append, nrun]
    cases nstep s x with
    | none => rfl
    | some t => exact ih t

theorem nrun_snoc (l : List UInt8) (x : UInt8) (s : NS) : nrun (l ++ [x]) s = (nrun l s).bind (fun t => nstep t x) := by
  rw [nrun_append]
  congr 1
  funext t
  simp only [nrun]
  cases nstep t x <;> rfl

theorem nrun_take_none (l : List UInt8) (i : Nat) (s : NS) (h : nrun (l.take i) s = none) : nrun l s = none := by
  rw [← List.take_append_drop i l, nrun_append, h]; rfl

/-- The letters of counts. -/
def ncan (s : NS) : List UInt8 := List.replicate s.a 77 ++ List.replicate s.b 67 ++ List.replicate s.c 88 ++ List.replicate s.d 73

def nworth (s : NS) : Nat := 1000 * s.a + 100 * s.b + 10 * s.c + s.d
def nlen (s : NS) : Nat := s.a + s.b + s.c + s.d
def NS.ok (s : NS) : Prop := s.a ≤ 9 ∧ s.b ≤ 9 ∧ s.c ≤ 9 ∧ s.d ≤ 9

/-- The worth of a letter. -/
def lw (x : UInt8) : Nat := if x = 77 then 1000 else if x = 67 then 100 else if x = 88 then 10 else if x = 73 then 1 else 0

theorem nstep_ok {s t : NS} {x : UInt8} (h : nstep s x = some t) (hs : s.ok) :
    t.ok ∧ ncan t = ncan s ++ [x] ∧ nworth t = nworth s + lw x ∧ nlen t = nlen s + 1 := by
  obtain ⟨a, b, c, d⟩ := s
  unfold nstep at h
  unfold NS.ok at hs
  simp only at hs
  have rep : ∀ n (y : UInt8), List.replicate (n + 1) y = List.replicate n y ++ [y] := fun n y => List.replicate_succ'
  split at h
  · split at h
    · obtain rfl := Option.some.inj h
      rename_i hx hc
      simp only at hc
      obtain ⟨rfl, rfl, rfl⟩ : b = 0 ∧ c = 0 ∧ d = 0 := by omega
      subst hx
      refine ⟨by simp only [NS.ok]; omega, by simp [ncan, rep], by simp [nworth, lw]; omega, by simp [nlen]⟩
    · cases h
  · split at h
    · split at h
      · obtain rfl := Option.some.inj h
        rename_i hx hc
        simp only at hc
        obtain ⟨rfl, rfl⟩ : c = 0 ∧ d = 0 := by omega
        subst hx
        refine ⟨by simp only [NS.ok]; omega, by simp [ncan, rep], by simp [nworth, lw]; omega, by simp [nlen]; omega⟩
      · cases h
    · split at h
      · split at h
        · obtain rfl := Option.some.inj h
          rename_i hx hc
          simp only at hc
          obtain rfl : d = 0 := by omega
          subst hx
          refine ⟨by simp only [NS.ok]; omega, by simp [ncan, rep], by simp [nworth, lw]; omega, by simp [nlen]; omega⟩
        · cases h
      · split at h
        · split at h
          · obtain rfl := Option.some.inj h
            rename_i hx hc
            simp only at hc
            subst hx
            refine ⟨by simp only [NS.ok]; omega, by simp [ncan, rep], by simp [nworth, lw]; omega, by simp [nlen]; omega⟩
          · cases h
        · cases h

/-- The sum of the letters' worths. -/
def lsum : List UInt8 → Nat
  | [] => 0
  | x :: l => lw x + lsum l

theorem lsum_append (l m : List UInt8) : lsum (l ++ m) = lsum l + lsum m := by
  induction l with
  | nil => simp [lsum]
  | cons x l ih => simp only [List.cons_append, lsum, ih]; omega

theorem nrun_ok : ∀ (l : List UInt8) (s t : NS), nrun l s = some t → s.ok →
    t.ok ∧ ncan t = ncan s ++ l ∧ nworth t = nworth s + lsum l ∧ nlen t = nlen s + l.length
  | [], s, t, h, hs => by
    obtain rfl := Option.some.inj h
    exact ⟨hs, by simp, by simp [lsum], by simp⟩
  | x :: l, s, t, h, hs => by
    simp only [nrun] at h
    cases hx : nstep s x with
    | none => rw [hx] at h; cases h
    | some u =>
      rw [hx] at h
      obtain ⟨h1, h2, h3, h4⟩ := nstep_ok hx hs
      obtain ⟨k1, k2, k3, k4⟩ := nrun_ok l u t h h1
      refine ⟨k1, by rw [k2, h2]; simp, by rw [k3, h3]; simp only [lsum]; omega, by rw [k4, h4]; simp only [List.length_cons]; omega⟩

/-- A text of notches is the text of its counts. -/
theorem nrun0 {l : List UInt8} {t : NS} (h : nrun l ns0 = some t) :
    t.ok ∧ l = ncan t ∧ nworth t = lsum l ∧ l.length = nlen t := by
  obtain ⟨k1, k2, k3, k4⟩ := nrun_ok l ns0 t h (by simp [NS.ok, ns0])
  refine ⟨k1, by rw [k2]; simp [ncan, ns0], by rw [k3]; simp [nworth, ns0], by rw [k4]; simp [nlen, ns0]⟩

/-- The count of the i-th letter. -/
def NS.get (s : NS) (i : Nat) : Nat := if i = 0 then s.a else if i = 1 then s.b else if i = 2 then s.c else s.d
/-- One more of the i-th letter. -/
def NS.inc (s : NS) (i : Nat) : NS := if i = 0 then { s with a := s.a + 1 } else if i = 1 then { s with b := s.b + 1 } else if i = 2 then { s with c := s.c + 1 } else { s with d := s.d + 1 }
/-- The place of the last letter. -/
def NS.last (s : NS) : Nat := if 0 < s.d then 3 else if 0 < s.c then 2 else if 0 < s.b then 1 else 0
/-- The i-th letter. -/
def ltr (i : Nat) : UInt8 := if i = 0 then 77 else if i = 1 then 67 else if i = 2 then 88 else 73

theorem nstep_ltr (s : NS) {i : Nat} (hi : i < 4) : nstep s (ltr i) = if s.last ≤ i ∧ s.get i < 9 then some (s.inc i) else none := by
  obtain ⟨a, b, c, d⟩ := s
  have : i = 0 ∨ i = 1 ∨ i = 2 ∨ i = 3 := by omega
  rcases this with h | h | h | h <;> subst h
  · have e : ((⟨a, b, c, d⟩ : NS).last ≤ 0 ↔ b + c + d = 0) := by simp only [NS.last]; split <;> (try split) <;> (try split) <;> omega
    simp [nstep, ltr, NS.get, NS.inc, e, -Nat.le_zero_eq, -Nat.add_eq_zero_iff]
  · have e : ((⟨a, b, c, d⟩ : NS).last ≤ 1 ↔ c + d = 0) := by simp only [NS.last]; split <;> (try split) <;> (try split) <;> omega
    simp [nstep, ltr, NS.get, NS.inc, e, -Nat.add_eq_zero_iff]
  · have e : ((⟨a, b, c, d⟩ : NS).last ≤ 2 ↔ d = 0) := by simp only [NS.last]; split <;> (try split) <;> (try split) <;> omega
    simp [nstep, ltr, NS.get, NS.inc, e]
  · have e : (⟨a, b, c, d⟩ : NS).last ≤ 3 := by simp only [NS.last]; split <;> (try split) <;> (try split) <;> omega
    simp [nstep, ltr, NS.get, NS.inc, e]
theorem nstep_other (s : NS) {x : UInt8} (h : ∀ i, i < 4 → x ≠ ltr i) : nstep s x = none := by
  have h0 := h 0 (by omega)
  have h1 := h 1 (by omega)
  have h2 := h 2 (by omega)
  have h3 := h 3 (by omega)
  simp [ltr] at h0 h1 h2 h3
  simp [nstep, h0, h1, h2, h3]
theorem last_inc (s : NS) {i : Nat} (hi : i < 4) (h : s.last ≤ i) : (s.inc i).last = i := by
  obtain ⟨a, b, c, d⟩ := s
  have : i = 0 ∨ i = 1 ∨ i = 2 ∨ i = 3 := by omega
  rcases this with e | e | e | e <;> subst e <;> simp only [NS.last, NS.inc] at h ⊢ <;> simp at h ⊢ <;> (try split at h) <;> (try split at h) <;> (try split at h) <;> simp_all <;> omega
theorem last_lt (s : NS) : s.last < 4 := by simp only [NS.last]; split <;> (try split) <;> (try split) <;> omega
/-- A byte is a letter or none. -/
theorem ltr_or (x : UInt8) : (∃ i, i < 4 ∧ x = ltr i) ∨ ∀ i, i < 4 → x ≠ ltr i := by
  by_cases h : ∃ i, i < 4 ∧ x = ltr i
  · exact .inl h
  · exact .inr fun i hi e => h ⟨i, hi, e⟩
theorem ltr_inj {i j : Nat} (hi : i < 4) (hj : j < 4) (h : ltr i = ltr j) : i = j := by
  have : i = 0 ∨ i = 1 ∨ i = 2 ∨ i = 3 := by omega
  have : j = 0 ∨ j = 1 ∨ j = 2 ∨ j = 3 := by omega
  rcases ‹i = 0 ∨ _› with e | e | e | e <;> subst e <;> rcases ‹j = 0 ∨ _› with e | e | e | e <;> subst e <;> first | rfl | (revert h; decide)

/-! the text of counts is read back -/
theorem nrun_rep (i k : Nat) (hi : i < 4) : ∀ s : NS, s.last ≤ i → s.get i ≤ 9 → nrun (List.replicate k (ltr i)) s = if s.get i + k ≤ 9 then some (Nat.rec s (fun _ t => t.inc i) k) else none := by
  induction k with
  | zero => intro s _ h; simp only [List.replicate_zero, nrun, Nat.add_zero]; rw [if_pos h]; rfl
  | succ k ih =>
    intro s hl hg
    rw [List.replicate_succ']
    rw [nrun_snoc, ih s hl hg]
    by_cases h : s.get i + k ≤ 9
    · rw [if_pos h]
      have hg' : ∀ m : Nat, (Nat.rec s (fun _ t => t.inc i) m : NS).get i = s.get i + m ∧ (Nat.rec s (fun _ t => t.inc i) m : NS).last ≤ i := by
        intro m
        induction m with
        | zero => exact ⟨rfl, hl⟩
        | succ m ihm =>
          have e : (Nat.rec s (fun _ t => t.inc i) (m + 1) : NS) = NS.inc (Nat.rec s (fun _ t => t.inc i) m) i := rfl
          rw [e, last_inc _ hi ihm.2]
          refine ⟨?_, Nat.le_refl _⟩
          have h1 := ihm.1
          generalize (Nat.rec s (fun _ t => t.inc i) m : NS) = u at *
          obtain ⟨a, b, c, d⟩ := u
          have : i = 0 ∨ i = 1 ∨ i = 2 ∨ i = 3 := by omega
          rcases this with e | e | e | e <;> subst e <;> simp [NS.get, NS.inc] at h1 ⊢ <;> omega
      obtain ⟨h1, h2⟩ := hg' k
      show nstep (Nat.rec s (fun _ t => t.inc i) k) (ltr i) = _
      rw [nstep_ltr _ hi, h1]
      by_cases h3 : s.get i + (k + 1) ≤ 9
      · rw [if_pos h3, if_pos ⟨h2, by omega⟩]
      · rw [if_neg h3, if_neg (by omega)]
    · rw [if_neg h, if_neg (by omega)]; rfl
theorem rec0 (a k : Nat) : (Nat.rec ⟨a, 0, 0, 0⟩ (fun _ t => t.inc 0) k : NS) = ⟨a + k, 0, 0, 0⟩ := by
  induction k with
  | zero => rfl
  | succ k ih => show NS.inc (Nat.rec ⟨a, 0, 0, 0⟩ (fun _ t => t.inc 0) k) 0 = _; rw [ih]; rfl
theorem rec1 (a b k : Nat) : (Nat.rec ⟨a, b, 0, 0⟩ (fun _ t => t.inc 1) k : NS) = ⟨a, b + k, 0, 0⟩ := by
  induction k with
  | zero => rfl
  | succ k ih => show NS.inc (Nat.rec ⟨a, b, 0, 0⟩ (fun _ t => t.inc 1) k) 1 = _; rw [ih]; rfl
theorem rec2 (a b c k : Nat) : (Nat.rec ⟨a, b, c, 0⟩ (fun _ t => t.inc 2) k : NS) = ⟨a, b, c + k, 0⟩ := by
  induction k with
  | zero => rfl
  | succ k ih => show NS.inc (Nat.rec ⟨a, b, c, 0⟩ (fun _ t => t.inc 2) k) 2 = _; rw [ih]; rfl
theorem rec3 (a b c d k : Nat) : (Nat.rec ⟨a, b, c, d⟩ (fun _ t => t.inc 3) k : NS) = ⟨a, b, c, d + k⟩ := by
  induction k with
  | zero => rfl
  | succ k ih => show NS.inc (Nat.rec ⟨a, b, c, d⟩ (fun _ t => t.inc 3) k) 3 = _; rw [ih]; rfl
instance (s : NS) : Decidable s.ok := by unfold NS.ok; infer_instance
theorem nrun_ncan (s : NS) : nrun (ncan s) ns0 = if s.ok then some s else none := by
  obtain ⟨a, b, c, d⟩ := s
  unfold ncan ns0
  simp only [nrun_append]
  have l0 : (⟨0, 0, 0, 0⟩ : NS).last ≤ 0 := by simp [NS.last]
  have l1 : (⟨0 + a, 0, 0, 0⟩ : NS).last ≤ 1 := by simp [NS.last]
  have l2 : (⟨0 + a, 0 + b, 0, 0⟩ : NS).last ≤ 2 := by simp only [NS.last]; split <;> (try split) <;> (try split) <;> omega
  have l3 : (⟨0 + a, 0 + b, 0 + c, 0⟩ : NS).last ≤ 3 := by have := last_lt (⟨0 + a, 0 + b, 0 + c, 0⟩ : NS); omega
  have e0 := nrun_rep 0 a (by omega) ⟨0, 0, 0, 0⟩ l0 (by simp [NS.get])
  rw [rec0] at e0
  have e1 := nrun_rep 1 b (by omega) ⟨0 + a, 0, 0, 0⟩ l1 (by simp [NS.get])
  rw [rec1] at e1
  have e2 := nrun_rep 2 c (by omega) ⟨0 + a, 0 + b, 0, 0⟩ l2 (by simp [NS.get])
  rw [rec2] at e2
  have e3 := nrun_rep 3 d (by omega) ⟨0 + a, 0 + b, 0 + c, 0⟩ l3 (by simp [NS.get])
  rw [rec3] at e3
  rw [show (77 : UInt8) = ltr 0 from rfl, show (67 : UInt8) = ltr 1 from rfl, show (88 : UInt8) = ltr 2 from rfl, show (73 : UInt8) = ltr 3 from rfl]
  rw [e0]
  simp only [NS.get] at e0 e1 e2 e3 ⊢
  by_cases ha : a ≤ 9
  · rw [if_pos (by simpa using ha)]
    simp only [Option.bind_some]
    rw [e1]
    by_cases hb : b ≤ 9
    · rw [if_pos (by simpa using hb)]
      simp only [Option.bind_some]
      rw [e2]
      by_cases hc : c ≤ 9
      · rw [if_pos (by simpa using hc)]
        simp only [Option.bind_some]
        rw [e3]
        simp [NS.ok, ha, hb, hc]
      · rw [if_neg (by simpa using hc)]
        simp [NS.ok, hc]
    · rw [if_neg (by simpa using hb)]
      simp [NS.ok, hb]
  · rw [if_neg (by simpa using ha)]
    simp [NS.ok, ha]

/-- The counts of a worth. -/
def nsOf (n : Nat) : NS := ⟨n / 1000, n / 100 % 10, n / 10 % 10, n % 10⟩
theorem nsOf_ok {n : Nat} (h : n ≤ 9999) : (nsOf n).ok := by simp only [nsOf, NS.ok]; omega
theorem nsOf_worth (n : Nat) : nworth (nsOf n) = n := by simp only [nsOf, nworth]; omega
theorem nsOf_nworth {s : NS} (h : s.ok) : nsOf (nworth s) = s := by
  obtain ⟨a, b, c, d⟩ := s
  simp only [NS.ok] at h
  simp only [nsOf, nworth, NS.mk.injEq]
  omega
theorem nworth_le {s : NS} (h : s.ok) : nworth s ≤ 9999 := by simp only [NS.ok] at h; simp only [nworth]; omega

/-- The worth of a text, -1 if it is none. -/
def wo (l : List UInt8) : Int := match nrun l ns0 with
  | some t => (nworth t : Int)
  | none => -1

end Go.Proofs.Ytahlflennmdckaa
