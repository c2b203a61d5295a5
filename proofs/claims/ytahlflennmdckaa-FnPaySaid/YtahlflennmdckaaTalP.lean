/- Plain: tallies, their balances, what a merge makes of them. -/
import Derived.Test.YtahlflennmdckaaNotK
namespace Go.Proofs.Ytahlflennmdckaa
open Go.RowKit Go.PlainAid
set_option linter.unusedVariables false
set_option linter.unusedSimpArgs false

/-- Two different people. -/
def twoB (a b : Int) : Bool := decide (0 ≤ a ∧ a < 5 ∧ 0 ≤ b ∧ b < 5 ∧ a ≠ b)
theorem two_yes {a b : Int} (h : twoB a b = true) : 0 ≤ a ∧ a < 5 ∧ 0 ≤ b ∧ b < 5 ∧ a ≠ b := by unfold twoB at h; simpa using h
theorem two_no {a b : Int} (h : twoB a b = false) : a < 0 ∨ (0 ≤ a ∧ 5 ≤ a) ∨ (0 ≤ a ∧ a < 5 ∧ b < 0) ∨ (0 ≤ a ∧ a < 5 ∧ 0 ≤ b ∧ 5 ≤ b) ∨ (0 ≤ a ∧ a < 5 ∧ a = b) := by
  unfold twoB at h
  simp only [decide_eq_false_iff_not] at h
  omega

/-- A tally: who owes, to whom, stock and foil. -/
structure Tal where
  d : Int
  c : Int
  s : ByteArray
  f : ByteArray

def tal0 : Tal := ⟨0, 0, ⟨#[]⟩, ⟨#[]⟩⟩
/-- The i-th tally; the walk leaves this word as it stands. -/
def tx (ts : List Tal) (i : Nat) : Tal := ts.getD i tal0
theorem tx_eq (ts : List Tal) {i : Nat} (h : i < ts.length) : tx ts i = ts[i] := by simp [tx, List.getD_eq_getElem?_getD, h]
theorem tx_some (ts : List Tal) {i : Nat} (h : i < ts.length) : ts[i]? = some (tx ts i) := by simp [tx, List.getD_eq_getElem?_getD, h]
theorem tx_mem (ts : List Tal) {i : Nat} (h : i < ts.length) : tx ts i ∈ ts := by rw [tx_eq ts h]; exact List.getElem_mem _
theorem tx_take (ts : List Tal) {k : Nat} (h : k < ts.length) : ts.take (k + 1) = ts.take k ++ [tx ts k] := by
  rw [List.take_succ_eq_append_getElem h, tx_eq ts h]

/-- The worth of a tally's stock; is it a tally. -/
def wt (t : Tal) : Int := wo t.s.data.toList
def tmB (t : Tal) : Bool := twoB t.d t.c && (nvB t.s && decide (t.s = t.f))
def tokB (t : Tal) : Bool := tmB t && decide (1 ≤ wt t)
def tvB (ts : List Tal) : Bool := decide (ts.length ≤ 12) && ts.all tokB

theorem wo_bd (l : List UInt8) : -1 ≤ wo l ∧ wo l ≤ 9999 := by
  unfold wo
  split
  · rename_i t h
    have := nworth_le (nrun0 h).1
    omega
  · omega
theorem wt_bd (t : Tal) : -1 ≤ wt t ∧ wt t ≤ 9999 := wo_bd _
theorem tok_yes {t : Tal} (h : tokB t = true) : twoB t.d t.c = true ∧ nvB t.s = true ∧ t.s = t.f ∧ 1 ≤ wt t ∧ wt t ≤ 9999 := by
  unfold tokB tmB at h
  simp at h
  exact ⟨h.1.1, h.1.2.1, h.1.2.2, h.2, (wt_bd t).2⟩
theorem tv_yes {ts : List Tal} (h : tvB ts = true) : ts.length ≤ 12 ∧ ∀ t ∈ ts, tokB t = true := by
  unfold tvB at h
  simp at h
  exact h
theorem tv_mk {ts : List Tal} (h : ts.length ≤ 12) (h' : ∀ t ∈ ts, tokB t = true) : tvB ts = true := by
  unfold tvB
  simp
  exact ⟨h, h'⟩
theorem tv_no_at {ts : List Tal} {k : Nat} (hk : k < ts.length) (h : tokB (tx ts k) = false) : tvB ts = false := by
  cases hv : tvB ts with
  | false => rfl
  | true => have := (tv_yes hv).2 _ (tx_mem ts hk); rw [h] at this; cases this
theorem tv_no_len {ts : List Tal} (h : 12 < ts.length) : tvB ts = false := by
  cases hv : tvB ts with
  | false => rfl
  | true => have := (tv_yes hv).1; omega

/-- What a tally adds to the balance of p. -/
def cr (p : Int) (t : Tal) : Int := (if t.c = p then wt t else 0) - (if t.d = p then wt t else 0)
def balP : List Tal → Int → Int
  | [], _ => 0
  | t :: ts, p => cr p t + balP ts p
def tot : List Tal → Int
  | [] => 0
  | t :: ts => wt t + tot ts
def bals (ts : List Tal) : List Int := [balP ts 0, balP ts 1, balP ts 2, balP ts 3, balP ts 4]
theorem balP_append (a b : List Tal) (p : Int) : balP (a ++ b) p = balP a p + balP b p := by
  induction a with
  | nil => simp [balP]
  | cons t a ih => simp only [List.cons_append, balP, ih]; omega
theorem tot_append (a b : List Tal) : tot (a ++ b) = tot a + tot b := by
  induction a with
  | nil => simp [tot]
  | cons t a ih => simp only [List.cons_append, tot, ih]; omega
theorem cr_bd (p : Int) (t : Tal) : -10000 ≤ cr p t ∧ cr p t ≤ 10000 := by
  have := wt_bd t
  unfold cr
  split <;> split <;> omega
theorem balP_bd (p : Int) : ∀ ts : List Tal, -10000 * (ts.length : Int) ≤ balP ts p ∧ balP ts p ≤ 10000 * (ts.length : Int)
  | [] => by simp [balP]
  | t :: ts => by
    have := balP_bd p ts
    have := cr_bd p t
    simp only [balP, List.length_cons]
    omega
theorem tot_bd : ∀ ts : List Tal, -10000 * (ts.length : Int) ≤ tot ts ∧ tot ts ≤ 10000 * (ts.length : Int)
  | [] => by simp [tot]
  | t :: ts => by
    have := tot_bd ts
    have := wt_bd t
    simp only [tot, List.length_cons]
    omega
/-- All balances together are nothing, and none is greater than the total. -/
theorem bal_law : ∀ ts : List Tal, (∀ t ∈ ts, tokB t = true) → balP ts 0 + balP ts 1 + balP ts 2 + balP ts 3 + balP ts 4 = 0 ∧ 0 ≤ tot ts ∧ ∀ p, balP ts p ≤ tot ts ∧ 0 - tot ts ≤ balP ts p
  | [], _ => by simp [balP, tot]
  | t :: ts, h => by
    obtain ⟨i1, i2, i3⟩ := bal_law ts fun u hu => h u (List.mem_cons_of_mem _ hu)
    obtain ⟨h1, h2, h3, h4, h5⟩ := tok_yes (h t (by simp))
    obtain ⟨k1, k2, k3, k4, k5⟩ := two_yes h1
    refine ⟨?_, by simp only [tot]; omega, fun p => ?_⟩
    · simp only [balP]
      have : cr 0 t + cr 1 t + cr 2 t + cr 3 t + cr 4 t = 0 := by
        unfold cr
        have e1 : t.d = 0 ∨ t.d = 1 ∨ t.d = 2 ∨ t.d = 3 ∨ t.d = 4 := by omega
        have e2 : t.c = 0 ∨ t.c = 1 ∨ t.c = 2 ∨ t.c = 3 ∨ t.c = 4 := by omega
        rcases e1 with e | e | e | e | e <;> rcases e2 with e' | e' | e' | e' | e' <;> rw [e, e'] <;> simp <;> omega
      omega
    · have := i3 p
      have : cr p t ≤ wt t ∧ 0 - wt t ≤ cr p t := by
        unfold cr
        split <;> split <;> omega
      simp only [balP, tot]
      omega

/-- What one owes to another one. -/
def ow (i j : Int) (t : Tal) : Int := if t.d = i ∧ t.c = j then wt t else 0
def owes : List Tal → Int → Int → Int
  | [], _, _ => 0
  | t :: ts, i, j => ow i j t + owes ts i j
theorem owes_append (a b : List Tal) (i j : Int) : owes (a ++ b) i j = owes a i j + owes b i j := by
  induction a with
  | nil => simp [owes]
  | cons t a ih => simp only [List.cons_append, owes, ih]; omega
theorem ow_bd (i j : Int) (t : Tal) : -10000 ≤ ow i j t ∧ ow i j t ≤ 10000 := by
  have := wt_bd t
  unfold ow
  split <;> omega
theorem owes_bd (i j : Int) : ∀ ts : List Tal, -10000 * (ts.length : Int) ≤ owes ts i j ∧ owes ts i j ≤ 10000 * (ts.length : Int)
  | [] => by simp [owes]
  | t :: ts => by
    have := owes_bd i j ts
    have := ow_bd i j t
    simp only [owes, List.length_cons]
    omega
/-- One owes more, or the other one. -/
def dif (ts : List Tal) (i j : Int) : Int := owes ts i j - owes ts j i
/-- The tally of a debt. -/
def mkT (i j x : Int) : Tal := ⟨i, j, ntx x.toNat, ntx x.toNat⟩
def one (i j x : Int) : List Tal := if 0 < x then [mkT i j x] else if x < 0 then [mkT j i (0 - x)] else []
theorem one_pos {i j x : Int} (h : 0 < x) : one i j x = [mkT i j x] := by unfold one; rw [if_pos h]
theorem one_neg {i j x : Int} (h : x < 0) : one i j x = [mkT j i (0 - x)] := by unfold one; rw [if_neg (by omega), if_pos h]
theorem one_zero (i j : Int) : one i j 0 = [] := rfl
def inB (x : Int) : Bool := decide (-9999 ≤ x ∧ x ≤ 9999)

/-- The pairs ahead of (i, j). -/
def rowp (i j : Nat) : List (Nat × Nat) := (List.range' (i + 1) (j - (i + 1))).map fun q => (i, q)
def rows : Nat → List (Nat × Nat)
  | 0 => []
  | i + 1 => rows i ++ rowp i 5
theorem rowp_start (i : Nat) : rowp i (i + 1) = [] := by simp [rowp]
theorem rowp_next {i j : Nat} (h : i < j) : rowp i (j + 1) = rowp i j ++ [(i, j)] := by
  unfold rowp
  have e : j + 1 - (i + 1) = (j - (i + 1)) + 1 := by omega
  rw [e, List.range'_concat, List.map_append]
  have e2 : i + 1 + 1 * (j - (i + 1)) = j := by omega
  rw [e2]
  rfl
def mrg (ts : List Tal) (ps : List (Nat × Nat)) : List Tal := ps.flatMap fun q => one q.1 q.2 (dif ts q.1 q.2)
def mokB (ts : List Tal) (ps : List (Nat × Nat)) : Bool := ps.all fun q => inB (dif ts q.1 q.2)
theorem mrg_append (ts : List Tal) (a b : List (Nat × Nat)) : mrg ts (a ++ b) = mrg ts a ++ mrg ts b := by unfold mrg; rw [List.flatMap_append]
theorem mrg_one (ts : List Tal) (i j : Nat) : mrg ts [(i, j)] = one i j (dif ts i j) := by simp [mrg]
theorem one_len (i j x : Int) : (one i j x).length ≤ 1 := by unfold one; split <;> (try split) <;> simp
theorem mrg_len (ts : List Tal) : ∀ ps, (mrg ts ps).length ≤ ps.length
  | [] => by simp [mrg]
  | p :: ps => by
    have := mrg_len ts ps
    have := one_len p.1 p.2 (dif ts p.1 p.2)
    have e : mrg ts (p :: ps) = one p.1 p.2 (dif ts p.1 p.2) ++ mrg ts ps := rfl
    rw [e, List.length_append, List.length_cons]
    omega
theorem rows5 : rows 5 = [(0, 1), (0, 2), (0, 3), (0, 4), (1, 2), (1, 3), (1, 4), (2, 3), (2, 4), (3, 4)] := by decide
/-- Both answers of a merge. -/
def meB (ts : List Tal) : Bool := tvB ts && mokB ts (rows 5)
def meR (ts : List Tal) : List Tal := if meB ts = true then mrg ts (rows 5) else []
theorem me_yes {ts : List Tal} (h : meB ts = true) : meR ts = mrg ts (rows 5) ∧ tvB ts = true ∧ mokB ts (rows 5) = true := by
  have hh := h
  unfold meB at hh
  simp at hh
  unfold meR
  rw [if_pos h]
  exact ⟨rfl, hh.1, hh.2⟩
theorem me_no {ts : List Tal} (h : meB ts = false) : meR ts = [] := by unfold meR; rw [h]; rfl

end Go.Proofs.Ytahlflennmdckaa
