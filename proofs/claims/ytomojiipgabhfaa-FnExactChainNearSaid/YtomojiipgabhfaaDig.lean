/- Plain laws of the root by pairs of digits. No program in sight. -/
import Derived.Test.YtomojiipgabhfaaOdd
namespace Go.Proofs.Ytomojiipgabhfaa
set_option linter.unusedVariables false

/-- the pairs of digits, from the left: what both loops build. -/
def pu : Nat → Int → List Int → List Int
  | 0, _, acc => acc
  | f + 1, n, acc => if 0 < n then pu f (n / 100) (n % 100 :: acc) else acc
def pairs (n : Int) : List Int := pu 6 (n / 100) [n % 100]
theorem pu_stop (f : Nat) (n : Int) (acc : List Int) (h : n ≤ 0) : pu f n acc = acc := by
  cases f with
  | zero => rfl
  | succ f => rw [pu, if_neg (by omega)]
theorem pu_step (f : Nat) (n : Int) (acc : List Int) (h : 0 < n) : pu (f + 1) n acc = pu f (n / 100) (n % 100 :: acc) := by rw [pu, if_pos h]

def valP (xs : List Int) : Int := xs.foldl (fun v x => v * 100 + x) 0
def okP (xs : List Int) : Prop := ∀ x ∈ xs, 0 ≤ x ∧ x ≤ 99
theorem foldl100 (xs : List Int) : ∀ s : Int, xs.foldl (fun v x => v * 100 + x) s = s * 100 ^ xs.length + valP xs := by
  induction xs with
  | nil => intro s; simp [valP]
  | cons x xs ih =>
    intro s
    have h1 : valP (x :: xs) = x * 100 ^ xs.length + valP xs := by
      have := ih (0 * 100 + x)
      rw [show (0 : Int) * 100 + x = x by omega] at this
      rw [← this, valP, List.foldl_cons]
      simp
    rw [List.foldl_cons, ih, h1, List.length_cons, Int.pow_succ]
    grind
theorem valP_cons (x : Int) (xs : List Int) : valP (x :: xs) = x * 100 ^ xs.length + valP xs := by
  have := foldl100 xs (0 * 100 + x)
  rw [show (0 : Int) * 100 + x = x by omega] at this
  rw [← this, valP, List.foldl_cons]
  simp
/-- the pairs' value is n, each is a pair of digits, and there are at most f + |acc| of them. -/
theorem pu_val (f : Nat) : ∀ (n : Int) (acc : List Int), 0 ≤ n → n < 100 ^ f → okP acc → valP (pu f n acc) = n * 100 ^ acc.length + valP acc ∧ okP (pu f n acc) ∧ (pu f n acc).length ≤ f + acc.length ∧ acc.length ≤ (pu f n acc).length := by
  induction f with
  | zero => intro n acc h0 h1 ha; have : n = 0 := by simp at h1; omega
            subst this; exact ⟨by simp [pu], ha, by simp [pu], by simp [pu]⟩
  | succ f ih =>
    intro n acc h0 h1 ha
    by_cases h : 0 < n
    · rw [pu_step _ _ _ h]
      have hb : n / 100 < 100 ^ f := by rw [Int.pow_succ] at h1; omega
      obtain ⟨k1, k2, k3, k4⟩ := ih (n / 100) (n % 100 :: acc) (by omega) hb (by
        intro x hx
        rcases List.mem_cons.1 hx with e | e
        · subst e; omega
        · exact ha x e)
      refine ⟨?_, k2, by rw [List.length_cons] at k3; omega, by rw [List.length_cons] at k4; omega⟩
      rw [k1, valP_cons, List.length_cons, Int.pow_succ]
      have e1 : n / 100 * (100 ^ acc.length * 100) = n / 100 * 100 * 100 ^ acc.length := by rw [Int.mul_assoc, Int.mul_comm 100]
      rw [e1, ← Int.add_assoc, ← Int.add_mul]
      have e2 : n / 100 * 100 + n % 100 = n := by omega
      rw [e2]
    · obtain rfl : n = 0 := by omega
      rw [pu_stop _ _ _ (by omega)]
      exact ⟨by simp, ha, by omega, by omega⟩
theorem pairs_val (n : Int) (h0 : 0 ≤ n) (h1 : n ≤ 1000000000) : valP (pairs n) = n ∧ okP (pairs n) ∧ (pairs n).length ≤ 7 ∧ 1 ≤ (pairs n).length := by
  obtain ⟨k1, k2, k3, k4⟩ := pu_val 6 (n / 100) [n % 100] (by omega) (by have : (100 : Int) ^ 6 = 1000000000000 := by decide
                                                                         omega) (by intro x hx; simp at hx; subst hx; omega)
  refine ⟨?_, k2, by simpa [pairs] using k3, by simpa [pairs] using k4⟩
  rw [pairs, k1]
  simp [valP]
  omega

/-- the digit that is found by going down from d. -/
def dgF : Nat → Int → Int → Int
  | 0, _, _ => 0
  | d + 1, root, rest => if (20 * root + ((d : Int) + 1)) * ((d : Int) + 1) ≤ rest then (d : Int) + 1 else dgF d root rest
def dg (root rest : Int) : Int := dgF 9 root rest
theorem dgF_stop (d : Nat) (root rest : Int) (h0 : 0 ≤ rest) (h : (20 * root + (d : Int)) * (d : Int) ≤ rest) : dgF d root rest = d := by
  cases d with
  | zero => rfl
  | succ d => rw [dgF, if_pos (by simpa using h)]; omega
theorem dgF_down (d : Nat) (root rest : Int) (h : ¬ (20 * root + ((d : Int) + 1)) * ((d : Int) + 1) ≤ rest) : dgF (d + 1) root rest = dgF d root rest := by
  rw [dgF, if_neg h]
theorem dgF_is (root rest : Int) (h0 : 0 ≤ rest) (hr : 0 ≤ root) : ∀ d : Nat, rest < (20 * root + ((d : Int) + 1)) * ((d : Int) + 1) →
    0 ≤ dgF d root rest ∧ dgF d root rest ≤ d ∧ (20 * root + dgF d root rest) * dgF d root rest ≤ rest ∧ rest < (20 * root + (dgF d root rest + 1)) * (dgF d root rest + 1) := by
  intro d
  induction d with
  | zero => intro h; exact ⟨by simp [dgF], by simp [dgF], by simpa [dgF] using h0, by simpa [dgF] using h⟩
  | succ d ih =>
    intro h
    by_cases c : (20 * root + ((d : Int) + 1)) * ((d : Int) + 1) ≤ rest
    · rw [dgF, if_pos c]
      exact ⟨by omega, by omega, c, by simpa using h⟩
    · rw [dgF, if_neg c]
      obtain ⟨i1, i2, i3, i4⟩ := ih (by omega)
      exact ⟨i1, by omega, i3, i4⟩

/-- one pair more: the root, the rest, the digits. -/
def rdStep (s : Int × Int × List Int) (p : Int) : Int × Int × List Int :=
  let r := s.2.1 * 100 + p
  let d := dg s.1 r
  (s.1 * 10 + d, r - (20 * s.1 + d) * d, s.2.2 ++ [d])
def rdAll (xs : List Int) : Int × Int × List Int := xs.foldl rdStep (0, 0, [])
theorem rdAll_snoc (xs : List Int) (p : Int) : rdAll (xs ++ [p]) = rdStep (rdAll xs) p := by simp [rdAll, List.foldl_append]
theorem valP_snoc (xs : List Int) (p : Int) : valP (xs ++ [p]) = valP xs * 100 + p := by simp [valP, List.foldl_append]
def dval (ds : List Int) : Int := ds.foldl (fun v x => v * 10 + x) 0
theorem dval_snoc (xs : List Int) (p : Int) : dval (xs ++ [p]) = dval xs * 10 + p := by simp [dval, List.foldl_append]

/-- what holds behind each pair. -/
structure RdOk (v : Int) (s : Int × Int × List Int) (n : Nat) : Prop where
  r0 : 0 ≤ s.1
  q0 : 0 ≤ s.2.1
  v : v = s.1 * s.1 + s.2.1
  q1 : s.2.1 ≤ 2 * s.1
  len : s.2.2.length = n
  dv : dval s.2.2 = s.1
  ds : ∀ x ∈ s.2.2, 0 ≤ x ∧ x ≤ 9
theorem rdOk_nil : RdOk 0 (0, 0, []) 0 := ⟨by simp, by simp, by simp, by simp, by simp, by simp [dval], by simp⟩
theorem rd_alg (a d : Int) : (a * 10 + d) * (a * 10 + d) = a * a * 100 + (20 * a + d) * d := by grind
theorem rd_alg2 (a d : Int) : (20 * a + (d + 1)) * (d + 1) = (20 * a + d) * d + 20 * a + 2 * d + 1 := by grind
theorem rdOk_step {v : Int} {s : Int × Int × List Int} {n : Nat} (h : RdOk v s n) (p : Int) (hp0 : 0 ≤ p) (hp1 : p ≤ 99) :
    RdOk (v * 100 + p) (rdStep s p) (n + 1) ∧ 0 ≤ dg s.1 (s.2.1 * 100 + p) ∧ dg s.1 (s.2.1 * 100 + p) ≤ 9 := by
  obtain ⟨a, q, ds⟩ := s
  obtain ⟨r0, q0, hv, q1, hl, hd, hds⟩ := h
  simp only at r0 q0 hv q1 hl hd hds
  have e9 : (20 * a + ((9 : Nat) + 1 : Int)) * ((9 : Nat) + 1 : Int) = 200 * a + 100 := by
    have : ((9 : Nat) : Int) + 1 = 10 := by omega
    rw [this, Int.add_mul]; omega
  obtain ⟨d0, d1, d2, d3⟩ := dgF_is a (q * 100 + p) (by omega) r0 9 (by rw [e9]; omega)
  have hdg : dg a (q * 100 + p) = dgF 9 a (q * 100 + p) := rfl
  simp only [rdStep]
  rw [hdg]
  generalize dgF 9 a (q * 100 + p) = d at *
  have k1 := rd_alg a d
  have k2 := rd_alg2 a d
  refine ⟨⟨?_, ?_, ?_, ?_, ?_, ?_, ?_⟩, d0, by omega⟩
  · simp only; omega
  · simp only; omega
  · simp only; rw [k1]; omega
  · simp only; rw [k2] at d3; omega
  · simp [hl]
  · simp only; rw [dval_snoc, hd]
  · intro x hx
    simp only [List.mem_append, List.mem_singleton] at hx
    rcases hx with e | e
    · exact hds x e
    · subst e; omega
theorem rdOk_take (xs : List Int) (h : okP xs) : ∀ k, k ≤ xs.length → RdOk (valP (xs.take k)) (rdAll (xs.take k)) k := by
  intro k
  induction k with
  | zero => intro _; exact rdOk_nil
  | succ k ih =>
    intro hk
    have e : xs.take (k + 1) = xs.take k ++ [ix xs k] := by
      rw [List.take_succ_eq_append_getElem (by omega), ix_eq xs (by omega)]
    have hm : ix xs k ∈ xs := by rw [ix_eq xs (by omega)]; exact List.getElem_mem _
    rw [e, rdAll_snoc, valP_snoc]
    exact (rdOk_step (ih (by omega)) _ (h _ hm).1 (h _ hm).2).1
theorem take_snoc (xs : List Int) {k : Nat} (hk : k < xs.length) : xs.take (k + 1) = xs.take k ++ [ix xs k] := by
  rw [List.take_succ_eq_append_getElem (by omega), ix_eq xs (by omega)]

end Go.Proofs.Ytomojiipgabhfaa
