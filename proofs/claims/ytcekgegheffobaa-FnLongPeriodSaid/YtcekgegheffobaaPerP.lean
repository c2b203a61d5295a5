/- Plain laws of the period of one part. No program in sight. -/
import Derived.Test.YtcekgegheffobaaBase
namespace Go.Proofs.Ytcekgegheffobaa
set_option linter.unusedVariables false

/-- the rounds: c digits so far, the rest r, where each rest led. -/
def perF (d : Int) : Nat → Int → Int → List Int → Int × Int
  | 0, c, _, _ => (c, 0)
  | f + 1, c, r, led => if r ≠ 0 ∧ ix led r.toNat = 0 then perF d f (c + 1) (r * 10 % d) (led.set r.toNat (c + 1)) else if r = 0 then (c, 0) else (ix led r.toNat - 1, c - (ix led r.toNat - 1))
def per (d : Int) : Int × Int := perF d (d.toNat + 1) 0 (1 % d) (List.replicate d.toNat 0)
theorem perF_go {d : Int} {f : Nat} {c r : Int} {led : List Int} (h1 : r ≠ 0) (h2 : ix led r.toNat = 0) : perF d (f + 1) c r led = perF d f (c + 1) (r * 10 % d) (led.set r.toNat (c + 1)) := by
  rw [perF, if_pos ⟨h1, h2⟩]
theorem perF_zero {d : Int} {f : Nat} {c : Int} {led : List Int} : perF d (f + 1) c 0 led = (c, 0) := by
  rw [perF, if_neg (by simp), if_pos rfl]
theorem perF_back {d : Int} {f : Nat} {c r : Int} {led : List Int} (h1 : r ≠ 0) (h2 : ix led r.toNat ≠ 0) : perF d (f + 1) c r led = (ix led r.toNat - 1, c - (ix led r.toNat - 1)) := by
  rw [perF, if_neg (by simp [h2]), if_neg h1]

/-- what holds of the table behind c rounds. -/
structure LedOk (d : Nat) (c : Int) (led : List Int) : Prop where
  len : led.length = d
  lo : 0 ≤ c
  all : ∀ x, x < d → 0 ≤ ix led x ∧ ix led x ≤ c
  top : c = 0 ∨ ∃ x, x < d ∧ ix led x = c
  cnt : (led.count 0 : Int) + c = d
theorem ix_set (l : List Int) (i j : Nat) (v : Int) (hi : i < l.length) : ix (l.set i v) j = if i = j then v else ix l j := by
  simp only [ix, List.getD_eq_getElem?_getD, List.getElem?_set]
  by_cases h : i = j
  · subst h; simp [hi]
  · simp [h]
theorem ix_rep (n i : Nat) : ix (List.replicate n 0) i = 0 := by
  simp only [ix, List.getD_eq_getElem?_getD, List.getElem?_replicate]
  split <;> rfl
theorem ledOk_nil (d : Nat) : LedOk d 0 (List.replicate d 0) := ⟨by simp, by omega, fun x _ => by rw [ix_rep]; omega, .inl rfl, by simp⟩
theorem count_set (l : List Int) (i : Nat) (v : Int) (hi : i < l.length) (h0 : ix l i = 0) (hv : v ≠ 0) : (l.set i v).count 0 + 1 = l.count 0 := by
  induction l generalizing i with
  | nil => simp at hi
  | cons a l ih =>
    cases i with
    | zero =>
      have : a = 0 := by simpa [ix] using h0
      subst this
      simp [hv]
    | succ i =>
      have h1 : ix l i = 0 := by simpa [ix] using h0
      have := ih i (by simpa using hi) h1
      simp only [List.set_cons_succ, List.count_cons]
      omega
theorem count_pos (l : List Int) (i : Nat) (hi : i < l.length) (h0 : ix l i = 0) : 1 ≤ l.count 0 := by
  have := count_set l i 1 hi h0 (by omega)
  omega
theorem ledOk_step {d : Nat} {c : Int} {led : List Int} (h : LedOk d c led) (r : Nat) (hr : r < d) (h0 : ix led r = 0) : LedOk d (c + 1) (led.set r (c + 1)) := by
  have hl := h.len
  have hlo := h.lo
  refine ⟨by simp [hl], by omega, fun x hx => ?_, .inr ⟨r, hr, ?_⟩, ?_⟩
  · rw [ix_set _ _ _ _ (by omega)]
    have := h.all x hx
    split <;> omega
  · rw [ix_set _ _ _ _ (by omega), if_pos rfl]
  · have := count_set led r (c + 1) (by omega) h0 (by omega)
    have := h.cnt
    omega
theorem ledOk_room {d : Nat} {c : Int} {led : List Int} (h : LedOk d c led) (r : Nat) (hr : r < d) (h0 : ix led r = 0) : c + 1 ≤ d := by
  have := count_pos led r (by rw [h.len]; exact hr) h0
  have := h.cnt
  omega
theorem ledOk_le {d : Nat} {c : Int} {led : List Int} (h : LedOk d c led) : c ≤ d := by
  have := h.cnt
  omega
/-- the greatest entry of the first k. -/
def mx (led : List Int) : Nat → Int
  | 0 => 0
  | k + 1 => if mx led k < ix led k then ix led k else mx led k
theorem mx_le (led : List Int) (c : Int) (h0 : 0 ≤ c) : ∀ k, (∀ x, x < k → ix led x ≤ c) → mx led k ≤ c
  | 0, _ => h0
  | k + 1, h => by
    have h1 := mx_le led c h0 k fun x hx => h x (by omega)
    have h2 := h k (by omega)
    rw [mx]; split <;> omega
theorem mx_ge (led : List Int) : ∀ k, 0 ≤ mx led k ∧ ∀ x, x < k → ix led x ≤ mx led k
  | 0 => ⟨by simp [mx], fun x hx => by omega⟩
  | k + 1 => by
    obtain ⟨h0, h1⟩ := mx_ge led k
    refine ⟨by rw [mx]; split <;> omega, fun x hx => ?_⟩
    rw [mx]
    by_cases e : x = k
    · subst e; split <;> omega
    · have := h1 x (by omega); split <;> omega
theorem mx_is {d : Nat} {c : Int} {led : List Int} (h : LedOk d c led) : mx led d = c := by
  have h1 := mx_le led c h.lo d fun x hx => (h.all x hx).2
  have ⟨h2, h3⟩ := mx_ge led d
  rcases h.top with e | ⟨x, hx, e⟩
  · omega
  · have := h3 x hx; omega

end Go.Proofs.Ytcekgegheffobaa
