/- The walks of the reference's l6Many, NotchesOf, and of NotchesWorth, NotchesJoin. -/
import Derived.Test.YtahlflennmdckaaNotE
namespace Go.Proofs.Ytahlflennmdckaa
open Go.RowKit Go.PlainAid
set_option linter.unusedVariables false
set_option linter.unusedSimpArgs false

/-- The doubling: m letters written, p letters in the text, q times to go. -/
def Dbl (x : UInt8) (n : Nat) (a b : ByteArray) (q : Nat) : Prop := ∃ p m : Nat, Txt a (List.replicate p x) ∧ Txt b (List.replicate m x) ∧ m + p * q = n
theorem Dbl.bd {x : UInt8} {n : Nat} {a b : ByteArray} {q : Nat} (h : Dbl x n a b q) (hn : n ≤ 9) (hq : 0 < q) : a.size ≤ 9 ∧ b.size ≤ 9 ∧ a.size + b.size ≤ 9 := by
  obtain ⟨p, m, h1, h2, h3⟩ := h
  have e1 := h1.size
  have e2 := h2.size
  simp at e1 e2
  have : p * 1 ≤ p * q := Nat.mul_le_mul_left _ hq
  omega
theorem Dbl.odd {x : UInt8} {n : Nat} {a b : ByteArray} {q : Nat} (h : Dbl x n a b q) (hq : q % 2 = 1) : Dbl x n (a ++ a) (b ++ a) (q / 2) := by
  obtain ⟨p, m, h1, h2, h3⟩ := h
  refine ⟨p + p, m + p, ?_, ?_, ?_⟩
  · rw [← List.replicate_append_replicate]; exact h1.cat h1
  · rw [← List.replicate_append_replicate]; exact h2.cat h1
  · have : q = 2 * (q / 2) + 1 := by omega
    rw [this, Nat.mul_add, ← Nat.mul_assoc] at h3
    have e : p + p = p * 2 := by omega
    rw [e]; omega
theorem Dbl.even {x : UInt8} {n : Nat} {a b : ByteArray} {q : Nat} (h : Dbl x n a b q) (hq : q % 2 = 0) : Dbl x n (a ++ a) b (q / 2) := by
  obtain ⟨p, m, h1, h2, h3⟩ := h
  refine ⟨p + p, m, ?_, h2, ?_⟩
  · rw [← List.replicate_append_replicate]; exact h1.cat h1
  · have : q = 2 * (q / 2) := by omega
    rw [this, ← Nat.mul_assoc] at h3
    have e : p + p = p * 2 := by omega
    rw [e]; omega
def ManyPost (x : UInt8) (c : Int) (w : World) (e : Ending) (w' : World) : Prop := ∃ r : ByteArray, Txt r (List.replicate c.toNat x) ∧ r.size ≤ 9 ∧ e = .returned (.string r) ∧ w = w'

set_option maxHeartbeats 1000000 in
theorem l6Many (x : UInt8) (c : Int) (w : World) (h0 : 0 ≤ c) (h9 : c ≤ 9) :
    Calls Try.prog 79 #[.string ⟨#[x]⟩, .int .i64 c] w (ManyPost x c w) := by
  obtain ⟨n, rfl⟩ := Int.eq_ofNat_of_zero_le h0
  obtain ⟨a0, HA⟩ : ∃ a0 : ByteArray, (⟨#[x]⟩ : ByteArray) = a0 := ⟨_, rfl⟩
  have ht : Txt a0 (List.replicate 1 x) := by rw [← HA]; rfl
  rw [HA]
  clear HA
  go_enter Try.func79, Try.ntmps79
  go_wp2
  go_loop [0, 1, 5] (fun a q b => ∃ (av bv : ByteArray) (qn : Nat), qn ≤ 9 ∧ Dbl x n av bv qn ∧ a = .string av ∧ b = .string bv ∧ q = .int .i64 qn) (fun _ q _ => (intOf q).toNat)
  case atStart => exact ⟨a0, ⟨#[]⟩, n, by omega, ⟨1, 0, ht, rfl, by omega⟩, rfl, rfl, rfl⟩
  case round =>
    obtain ⟨av, bv, qn, hq9, hd, rfl, rfl, rfl⟩ := hrel
    by_cases hq : 0 < qn
    · obtain ⟨b1, b2, b3⟩ := hd.bd (by omega) hq
      by_cases ho : qn % 2 = 1
      · have HD := Lib.hid (hd.odd ho)
        have ho' : ((qn : Int) % 2 == 1) = true := by simp; omega
        clear hd ho
        go_wp2
        go_round
        case rel => exact ⟨av ++ av, bv ++ av, qn / 2, by omega, HD.out, rfl, rfl, by go_num⟩
        case measure => simp [intOf] <;> omega
      · have HD := Lib.hid (hd.even (by omega))
        have ho' : ((qn : Int) % 2 == 1) = false := by simp; omega
        clear hd ho
        go_wp2
        go_round
        case rel => exact ⟨av ++ av, bv, qn / 2, by omega, HD.out, rfl, rfl, by go_num⟩
        case measure => simp [intOf] <;> omega
    · have HD := Lib.hid hd
      clear hd
      go_wp2
      go_ret
      obtain ⟨p, m, h1, h2, h3⟩ := HD.out
      have hq0 : qn = 0 := by omega
      rw [hq0] at h3
      have hm : m = n := by omega
      rw [hm] at h2
      exact ⟨bv, by simpa using h2, by have := h2.size; simp at this; omega, rfl, rfl⟩

theorem sNotchesOf_no (n : Int) (w : World) (h : n < 0 ∨ 9999 < n) :
    Calls Try.prog 51 #[.int .i64 n] w fun e w' => e = .returned (.tuple #[.string ⟨#[]⟩, .bool false]) ∧ w = w' := by
  go_enter Try.func51, Try.ntmps51
  go_wp2_with (go_at_call 77; refine (l6In_no _ _ _ _ h).mono ?_; rintro e w' ⟨rfl, rfl⟩)
  go_ret2
  exact ⟨rfl, rfl⟩

set_option maxHeartbeats 1000000 in
theorem sNotchesOf_yes (n : Nat) (w : World) (h : n ≤ 9999) :
    Calls Try.prog 51 #[.int .i64 n] w fun e w' => e = .returned (.tuple #[.string (ntx n), .bool true]) ∧ w = w' := by
  have h0 : (0 : Int) ≤ n := by omega
  have h9 : (n : Int) ≤ 9999 := by omega
  go_enter Try.func51, Try.ntmps51
  go_wp2_with (first
    | (go_at_call 77; refine (l6In_yes _ _ _ _ h0 h9).mono ?_; rintro e w' ⟨rfl, rfl⟩)
    | (go_at_call 79; (with_reducible refine (l6Many 77 _ _ (by omega) (by omega)).mono ?_); rintro e w' ⟨r1, t1, s1, rfl, rfl⟩)
    | (go_at_call 79; (with_reducible refine (l6Many 67 _ _ (by omega) (by omega)).mono ?_); rintro e w' ⟨r2, t2, s2, rfl, rfl⟩)
    | (go_at_call 79; (with_reducible refine (l6Many 88 _ _ (by omega) (by omega)).mono ?_); rintro e w' ⟨r3, t3, s3, rfl, rfl⟩)
    | (go_at_call 79; (with_reducible refine (l6Many 73 _ _ (by omega) (by omega)).mono ?_); rintro e w' ⟨r4, t4, s4, rfl, rfl⟩))
  go_ret2
  have e1 : ((n : Int) / 1000).toNat = n / 1000 := by omega
  have e2 : ((n : Int) / 100 % 10).toNat = n / 100 % 10 := by omega
  have e3 : ((n : Int) / 10 % 10).toNat = n / 10 % 10 := by omega
  have e4 : ((n : Int) % 10).toNat = n % 10 := by omega
  rw [e1] at t1; rw [e2] at t2; rw [e3] at t3; rw [e4] at t4
  have : r1 ++ r2 ++ r3 ++ r4 = ntx n := (((t1.cat t2).cat t3).cat t4).eq (Txt.lit _)
  exact ⟨by rw [← this]; rfl, rfl⟩

theorem lsz_lsum (s : ByteArray) : ∀ k, k ≤ s.size → lsz s k = lsum (s.data.toList.take k)
  | 0, _ => by simp [lsz, lsum]
  | k + 1, h => by
    have hk : k < s.size := by omega
    rw [lsz, lsz_lsum s k (by omega), take_snoc s k hk, lsum_append, ← get_bt s k hk]
    have : ∀ x : UInt8, lwz (x.toNat : Int) = lw x := by
      intro x
      rcases ltr_or x with ⟨i, hi, rfl⟩ | hno
      · rw [lwz_ltr hi]
        have : i = 0 ∨ i = 1 ∨ i = 2 ∨ i = 3 := by omega
        rcases this with e | e | e | e <;> subst e <;> decide
      · rw [lwz_other hno]
        have h0 := hno 0 (by omega)
        have h1 := hno 1 (by omega)
        have h2 := hno 2 (by omega)
        have h3 := hno 3 (by omega)
        simp [ltr] at h0 h1 h2 h3
        simp [lw, h0, h1, h2, h3]
    rw [this]
    simp [lsum]
theorem sum_wo {s : ByteArray} (h : nvB s = true) : lsz s s.size = wo s.data.toList ∧ 0 ≤ wo s.data.toList ∧ wo s.data.toList ≤ 9999 := by
  unfold nvB at h
  obtain ⟨st, hst⟩ := Option.isSome_iff_exists.1 h
  have h3 := nrun0 hst
  have hw := nworth_le h3.1
  rw [lsz_lsum s _ (Nat.le_refl _), List.take_of_length_le (by simp), wo_some hst, h3.2.2.1]
  rw [h3.2.2.1] at hw
  omega
theorem wo_no {s : ByteArray} (h : nvB s = false) : wo s.data.toList = -1 := by
  unfold nvB at h
  apply wo_none
  cases hx : nrun s.data.toList ns0 with
  | none => rfl
  | some t => rw [hx] at h; cases h

theorem sNotchesWorth (s : ByteArray) (w : World) (hs : s.size ≤ 4611686018427387) :
    Calls Try.prog 20 #[.string s] w fun e w' => e = .returned (.int .i64 (wo s.data.toList)) ∧ ∃ n, w' = w.drewN n := by
  cases hv : nvB s with
  | false =>
    have HV := Lib.hid hv
    have HW := Lib.hid (wo_no hv)
    have hc : ∀ w, Calls Try.prog 50 #[.string s] w fun e w' => e = .returned (.bool false) ∧ ∃ n, w' = w.drewN n := fun w => by have := sNotchesValid s w hs; rwa [hv] at this
    clear hv
    go_enter Try.func20, Try.ntmps20
    go_wp2_with (go_at_call 50; refine (hc _).mono ?_; rintro e w' ⟨rfl, n, rfl⟩)
    go_ret
    exact ⟨ret_int HW.out.symm, n, rfl⟩
  | true =>
    have HW := Lib.hid (sum_wo hv)
    have hc : ∀ w, Calls Try.prog 50 #[.string s] w fun e w' => e = .returned (.bool true) ∧ ∃ n, w' = w.drewN n := fun w => by have := sNotchesValid s w hs; rwa [hv] at this
    clear hv
    go_enter Try.func20, Try.ntmps20
    go_wp2_with (first | (go_at_call 50; refine (hc _).mono ?_; rintro e w' ⟨rfl, n, rfl⟩) | (go_at_call 52; refine (l6ySum s _ hs).mono ?_; rintro e w' ⟨rfl, rfl⟩))
    go_ret
    exact ⟨ret_int HW.out.1, n, rfl⟩

end Go.Proofs.Ytahlflennmdckaa
