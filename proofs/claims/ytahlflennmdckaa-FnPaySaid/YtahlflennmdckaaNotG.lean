/- The walks of NotchesJoin, of the program and of the reference; the law FnExactNotchesJoin. -/
import Derived.Test.YtahlflennmdckaaNotF
import Derived.WalkSmall
namespace Go.Proofs.Ytahlflennmdckaa
open Go.RowKit Go.PlainAid
set_option linter.unusedVariables false
set_option linter.unusedSimpArgs false

/-- The text of a worth, and whether there is one. -/
def noB (n : Int) : Bool := decide (0 ≤ n ∧ n ≤ 9999)
def noR (n : Int) : ByteArray := if noB n = true then ntx n.toNat else ⟨#[]⟩
theorem noR_no {n : Int} (h : noB n = false) : noR n = ⟨#[]⟩ := by unfold noR; rw [h]; rfl
theorem noR_yes {n : Int} (h : noB n = true) : noR n = ntx n.toNat := by unfold noR; rw [h]; rfl

theorem iNotchesOf (n : Int) (w : World) : Calls Try.prog 21 #[.int .i64 n] w fun e w' => e = .returned (.tuple #[.string (noR n), .bool (noB n)]) ∧ Below w.heap.size w w' := by
  cases h : noB n with
  | false =>
    rw [noR_no h]
    unfold noB at h
    refine (iNotchesOf_no n w (by simp at h; omega)).mono ?_
    rintro e w' ⟨rfl, rfl⟩
    exact ⟨rfl, Below.refl _ _⟩
  | true =>
    rw [noR_yes h]
    unfold noB at h
    simp at h
    obtain ⟨k, rfl⟩ := Int.eq_ofNat_of_zero_le h.1
    exact iNotchesOf_yes k w (by omega)
theorem sNotchesOf (n : Int) (w : World) : Calls Try.prog 51 #[.int .i64 n] w fun e w' => e = .returned (.tuple #[.string (noR n), .bool (noB n)]) ∧ w = w' := by
  cases h : noB n with
  | false =>
    rw [noR_no h]
    unfold noB at h
    exact sNotchesOf_no n w (by simp at h; omega)
  | true =>
    rw [noR_yes h]
    unfold noB at h
    simp at h
    obtain ⟨k, rfl⟩ := Int.eq_ofNat_of_zero_le h.1
    exact sNotchesOf_yes k w (by omega)

/-- The joined text, and whether there is one. -/
def joB (a b : ByteArray) : Bool := nvB a && nvB b && noB (wo a.data.toList + wo b.data.toList)
def joR (a b : ByteArray) : ByteArray := if nvB a && nvB b then noR (wo a.data.toList + wo b.data.toList) else ⟨#[]⟩
theorem jo_no {a b : ByteArray} (h : nvB a = false ∨ nvB b = false) : joR a b = ⟨#[]⟩ ∧ joB a b = false := by
  rcases h with h | h <;> simp [joR, joB, h]
theorem jo_yes {a b : ByteArray} (h1 : nvB a = true) (h2 : nvB b = true) : joR a b = noR (wo a.data.toList + wo b.data.toList) ∧ joB a b = noB (wo a.data.toList + wo b.data.toList) := by
  simp [joR, joB, h1, h2]

theorem iNotchesJoin (a b : ByteArray) (w : World) (ha : a.size ≤ 4611686018427387) (hb : b.size ≤ 4611686018427387) :
    Calls Try.prog 15 #[.string a, .string b] w fun e w' => e = .returned (.tuple #[.string (joR a b), .bool (joB a b)]) ∧ Below w.heap.size w w' := by
  obtain ⟨x, hx⟩ : ∃ x, wo a.data.toList = x := ⟨_, rfl⟩
  obtain ⟨y, hy⟩ : ∃ y, wo b.data.toList = y := ⟨_, rfl⟩
  have ca : ∀ w, Calls Try.prog 19 #[.string a] w fun e w' => e = .returned (.int .i64 x) ∧ Below w.heap.size w w' := fun w => by have := iNotchesWorth a w ha; rwa [hx] at this
  have cb : ∀ w, Calls Try.prog 19 #[.string b] w fun e w' => e = .returned (.int .i64 y) ∧ Below w.heap.size w w' := fun w => by have := iNotchesWorth b w hb; rwa [hy] at this
  cases va : nvB a with
  | false =>
    have hj := jo_no (a := a) (b := b) (.inl va)
    have hx0 := wo_no va
    rw [hj.1, hj.2]
    have hx1 : x < 0 := by omega
    clear hx hy hj va hx0
    go_enter Try.func15, Try.ntmps15
    go_wp2_with (first | (go_at_call 19; (with_reducible refine (ca _).mono ?_); rintro e w1 ⟨rfl, hb1⟩) | (go_at_call 19; (with_reducible refine (cb _).mono ?_); rintro e w2 ⟨rfl, hb2⟩))
    go_ret2
    exact ⟨rfl, hb1.trans (hb2.mono hb1.size)⟩
  | true =>
    cases vb : nvB b with
    | false =>
      have hj := jo_no (a := a) (b := b) (.inr vb)
      have hx0 := wo_no vb
      have hx2 := (sum_wo va).2
      rw [hj.1, hj.2]
      have hy1 : y < 0 := by omega
      have hx1 : 0 ≤ x := by omega
      clear hx hy hj va hx0 vb hx2
      go_enter Try.func15, Try.ntmps15
      go_wp2_with (first | (go_at_call 19; (with_reducible refine (ca _).mono ?_); rintro e w1 ⟨rfl, hb1⟩) | (go_at_call 19; (with_reducible refine (cb _).mono ?_); rintro e w2 ⟨rfl, hb2⟩))
      go_ret2
      exact ⟨rfl, hb1.trans (hb2.mono hb1.size)⟩
    | true =>
      have hj := jo_yes va vb
      have hx2 := (sum_wo va).2
      have hy2 := (sum_wo vb).2
      rw [hj.1, hj.2, hx, hy]
      rw [hx] at hx2
      rw [hy] at hy2
      obtain ⟨hx3, hx4⟩ := hx2
      obtain ⟨hy3, hy4⟩ := hy2
      clear hx hy hj va vb
      go_enter Try.func15, Try.ntmps15
      go_wp2_with (first | (go_at_call 19; (with_reducible refine (ca _).mono ?_); rintro e w1 ⟨rfl, hb1⟩) | (go_at_call 19; (with_reducible refine (cb _).mono ?_); rintro e w2 ⟨rfl, hb2⟩) | (go_at_call 21; (with_reducible refine (iNotchesOf _ _).mono ?_); rintro e w3 ⟨rfl, hb3⟩))
      go_ret2
      have hb12 := hb1.trans (hb2.mono hb1.size)
      exact ⟨rfl, hb12.trans (hb3.mono hb12.size)⟩

theorem sv_no {s : ByteArray} (hs : s.size ≤ 4611686018427387) (h : nvB s = false) (w : World) : Calls Try.prog 50 #[.string s] w fun e w' => e = .returned (.bool false) ∧ ∃ n, w' = w.drewN n := by
  have := sNotchesValid s w hs; rwa [h] at this
theorem sv_yes {s : ByteArray} (hs : s.size ≤ 4611686018427387) (h : nvB s = true) (w : World) : Calls Try.prog 50 #[.string s] w fun e w' => e = .returned (.bool true) ∧ ∃ n, w' = w.drewN n := by
  have := sNotchesValid s w hs; rwa [h] at this

theorem sNotchesJoin (a b : ByteArray) (w : World) (ha : a.size ≤ 4611686018427387) (hb : b.size ≤ 4611686018427387) :
    Calls Try.prog 14 #[.string a, .string b] w fun e w' => e = .returned (.tuple #[.string (joR a b), .bool (joB a b)]) ∧ ∃ n, w' = w.drewN n := by
  cases va : nvB a with
  | false =>
    have hj := jo_no (a := a) (b := b) (.inl va)
    rw [hj.1, hj.2]
    have hc := sv_no ha va
    clear hj va
    go_enter Try.func14, Try.ntmps14
    go_wp2_with (go_at_call 50; (with_reducible refine (hc _).mono ?_); rintro e w' ⟨rfl, n, rfl⟩)
    go_ret2
    exact ⟨rfl, n, rfl⟩
  | true =>
    have hc := sv_yes ha va
    cases vb : nvB b with
    | false =>
      have hj := jo_no (a := a) (b := b) (.inr vb)
      rw [hj.1, hj.2]
      have hd := sv_no hb vb
      clear hj va vb
      go_enter Try.func14, Try.ntmps14
      go_wp2_with (first | (go_at_call 50; (with_reducible refine (hc _).mono ?_); rintro e w' ⟨rfl, n, rfl⟩) | (go_at_call 50; (with_reducible refine (hd _).mono ?_); rintro e w' ⟨rfl, m, rfl⟩))
      go_ret2
      exact ⟨rfl, _, rfl⟩
    | true =>
      have hj := jo_yes va vb
      have hd := sv_yes hb vb
      have hx := sum_wo va
      have hy := sum_wo vb
      rw [hj.1, hj.2]
      have ca : ∀ w, Calls Try.prog 52 #[.string a] w fun e w' => e = .returned (.int .i64 (wo a.data.toList)) ∧ w = w' := fun w => by have := l6ySum a w ha; rwa [hx.1] at this
      have cb : ∀ w, Calls Try.prog 52 #[.string b] w fun e w' => e = .returned (.int .i64 (wo b.data.toList)) ∧ w = w' := fun w => by have := l6ySum b w hb; rwa [hy.1] at this
      obtain ⟨_, hx3, hx4⟩ := hx
      obtain ⟨_, hy3, hy4⟩ := hy
      generalize wo a.data.toList = x at *
      generalize wo b.data.toList = y at *
      clear hj va vb
      go_enter Try.func14, Try.ntmps14
      go_wp2_with (first | (go_at_call 50; (with_reducible refine (hc _).mono ?_); rintro e w' ⟨rfl, n, rfl⟩) | (go_at_call 50; (with_reducible refine (hd _).mono ?_); rintro e w' ⟨rfl, m, rfl⟩) | (go_at_call 52; (with_reducible refine (ca _).mono ?_); rintro e w' ⟨rfl, rfl⟩) | (go_at_call 52; (with_reducible refine (cb _).mono ?_); rintro e w' ⟨rfl, rfl⟩) | (go_at_call 51; (with_reducible refine (sNotchesOf _ _).mono ?_); rintro e w' ⟨rfl, rfl⟩))
      go_ret2
      exact ⟨rfl, _, rfl⟩

theorem walkFnExactNotchesJoin (a : ByteArray) (ha : a.size ≤ maxLen) (b : ByteArray) (hb : b.size ≤ maxLen) (w : World) :
    Calls Try.prog 3 #[.string a, .string b] w fun e w' => e = .returned (.bool true) ∧ Below w.heap.size w w' := by
  unfold maxLen at ha hb
  by_cases h1 : a.size ≤ 1048576
  · by_cases h2 : b.size ≤ 1048576
    · go_enter Try.func3, Try.ntmps3
      go_wp2_with (first | (go_at_call 14; refine (sNotchesJoin a b _ (by omega) (by omega)).mono ?_; rintro e w1 ⟨rfl, n, rfl⟩) | (go_at_call 15; refine (iNotchesJoin a b _ (by omega) (by omega)).mono ?_; rintro e w2 ⟨rfl, hb2⟩))
      go_ret
      exact ⟨rfl, (below_drewN (Below.refl _ _) n).trans hb2⟩
    · go_enter Try.func3, Try.ntmps3
      go_wp2
      go_ret
      exact ⟨rfl, Below.refl _ _⟩
  · go_enter Try.func3, Try.ntmps3
    go_wp2
    go_ret
    exact ⟨rfl, Below.refl _ _⟩

end Go.Proofs.Ytahlflennmdckaa
