/- The walk of the law FnChainCommon. No condition. -/
import Derived.Test.YtcekgegheffobaaDrwCh
import Derived.Test.YtcekgegheffobaaChn
namespace Go.Proofs.Ytcekgegheffobaa
open Go.RowKit
set_option linter.unusedVariables false

theorem gc_nat (f : Nat) : ∀ (a b : Nat), b < f → gc (a : Int) (b : Int) = ((Nat.gcd a b : Nat) : Int) := by
  induction f with
  | zero => intro a b h; omega
  | succ f ih =>
    intro a b h
    by_cases hb : 0 < b
    · have hm := Nat.mod_lt a hb
      rw [gc_pos _ (by omega : (0 : Int) < (b : Int)), ← Int.natCast_emod, ih b (a % b) (by omega), Nat.gcd_comm b (a % b), ← Nat.gcd_rec b a, Nat.gcd_comm]
    · obtain rfl : b = 0 := by omega
      rw [show ((0 : Nat) : Int) = 0 from rfl, gc_zero, Nat.gcd_zero_right]
theorem gc_is (a b : Nat) : gc (a : Int) (b : Int) = ((Nat.gcd a b : Nat) : Int) := gc_nat (b + 1) a b (by omega)
theorem beq_zero_mod (a b : Nat) : ((a : Int) % (b : Int) == 0) = decide (b ∣ a) := by
  rw [Bool.eq_iff_iff]
  simp only [beq_iff_eq, decide_eq_true_eq]
  rw [← Int.natCast_emod, Nat.dvd_iff_mod_eq_zero]
  omega
/-- what the law asks of common divisors. -/
theorem gc_law (a b d : Int) (a0 : 0 ≤ a) (b0 : 0 ≤ b) (d0 : 0 ≤ d) : (a % gc a b == 0) = true ∧ (b % gc a b == 0) = true ∧ gc b a = gc a b ∧ gc (a + b) b = gc a b ∧ ((a % d == 0) && (b % d == 0)) = (gc a b % d == 0) := by
  obtain ⟨a, rfl⟩ := Int.eq_ofNat_of_zero_le a0
  obtain ⟨b, rfl⟩ := Int.eq_ofNat_of_zero_le b0
  obtain ⟨d, rfl⟩ := Int.eq_ofNat_of_zero_le d0
  rw [← Int.natCast_add, gc_is, gc_is, gc_is, beq_zero_mod, beq_zero_mod, beq_zero_mod, beq_zero_mod, beq_zero_mod]
  refine ⟨by simpa using Nat.gcd_dvd_left a b, by simpa using Nat.gcd_dvd_right a b, by rw [Nat.gcd_comm], by simp, ?_⟩
  rw [Bool.eq_iff_iff]
  simp [Nat.dvd_gcd_iff]

set_option maxHeartbeats 2000000 in
theorem walkFnChainCommon (a0 : Option Addr) (len cap : Nat) (zs : List Int) (b0 : Option Addr) (len2 cap2 : Nat) (ys : List Int) (w : World) (hs : Sl .u8 w a0 len cap zs) (hs2 : Sl .u8 w b0 len2 cap2 ys) :
    Calls Try.prog 14 #[.slice a0 len cap, .slice b0 len2 cap2] w fun e w' => e = .returned (.bool true) ∧ Below w.heap.size w w' := by
  have HS := Lib.hid hs
  obtain ⟨-, hlc, hcm, -, -⟩ := hs
  unfold maxLen at hcm
  obtain ⟨-, hlc2, hcm2, -, -⟩ := hs2
  unfold maxLen at hcm2
  by_cases hbig : len ≤ 1048576
  case neg =>
    have hbig' : decide (1048576 < len) = true := by simp; omega
    go_enter Try.func14, Try.ntmps14
    go_wp2_with fail
    go_ret
    exact ⟨rfl, Below.refl _ _⟩
  by_cases hbig2 : len2 ≤ 1048576
  case neg =>
    have hbig' : decide (1048576 < len2) = true := by simp; omega
    go_enter Try.func14, Try.ntmps14
    go_wp2_with fail
    go_ret
    exact ⟨rfl, Below.refl _ _⟩
  go_enter Try.func14, Try.ntmps14
  go_wp2_with fail
  refine (drawChainCommon_any a0 len cap zs _ HS.out).mono ?_
  rintro e w1 ⟨a, b, ⟨a1, a2, b1, b2⟩, rfl, hb1⟩
  by_cases h : 0 ≤ a ∧ a ≤ 1000000000 ∧ 0 ≤ b ∧ b ≤ 1000000000 ∧ (0 < a ∨ 0 < b)
  · obtain ⟨h1, h2, h3, h4, h5⟩ := h
    have H5 := Lib.hid h5
    have H5' := Lib.hid (show 0 < b ∨ 0 < a from h5.symm)
    have H5s := Lib.hid (show 0 < a + b ∨ 0 < b by omega)
    obtain ⟨q1, q2, q3⟩ := gc_bd (b.toNat + 1) a b 1000000000 h1 h3 (by omega) h2 h4
    have q4 := q3 h5
    have e1 := Int.emod_nonneg (len2 : Int) (show (60 : Int) ≠ 0 by decide)
    have e2 := Int.emod_lt_of_pos (len2 : Int) (show (0 : Int) < 60 by decide)
    obtain ⟨t1, t2, g1, g2, t3⟩ := gc_law a b (1 + (len2 : Int) % 60) h1 h3 (by omega)
    have G1 := Lib.hid g1
    have G2 := Lib.hid g2
    clear h5 g1 g2 q3
    go_wp2_with fail
    refine (iChainCommon_yes a b _ h1 h2 h3 h4 H5.out).mono ?_
    rintro e w2 ⟨rfl, hb2⟩
    have T2 := hb1.trans (hb2.mono hb1.size)
    go_wp2_with fail
    refine (sChainCommon_yes a b _ h1 h2 h3 h4 H5.out).mono ?_
    rintro e w3 ⟨rfl, hb3⟩
    have T3 := T2.trans (hb3.mono T2.size)
    obtain ⟨x, hx, w4, T4, HC⟩ : ∃ x : Int, ((x = -1 ∧ 1000000000 < a + b) ∨ (x = gc a b ∧ a + b ≤ 1000000000)) ∧ True ∧ True ∧ Hid (∀ W, Calls Try.prog 29 #[.int .i64 (a + b), .int .i64 b] W fun e w' => e = .returned (.int .i64 x) ∧ Below W.heap.size W w') := by
      by_cases hab : a + b ≤ 1000000000
      · refine ⟨gc a b, .inr ⟨rfl, hab⟩, trivial, trivial, fun W => ?_⟩
        have := iChainCommon_yes (a + b) b W (by omega) hab h3 h4 H5s.out
        rw [G2.out] at this
        exact this
      · exact ⟨-1, .inl ⟨rfl, by omega⟩, trivial, trivial, fun W => (iChainCommon_no (a + b) b W (by omega)).mono fun e w' ⟨he, hw⟩ => ⟨he, hw ▸ Below.refl _ _⟩⟩
    clear w4 T4
    have hcom := iChainCommon_yes b a
    rw [G1.out] at hcom
    have HCOM := Lib.hid hcom
    clear hcom
    generalize gc a b = k at *
    have hk0 : ¬ k = 0 := by omega
    have hd0 : ¬ (1 + (len2 : Int) % 60) = 0 := by omega
    go_wp2_with fail
    refine (HC.out _).mono ?_
    rintro e w4 ⟨rfl, hb4⟩
    have T4 := T3.trans (hb4.mono T3.size)
    obtain ⟨ta, hta⟩ : ∃ ta, (a % (1 + (len2 : Int) % 60) == 0) = ta := ⟨_, rfl⟩
    obtain ⟨tb, htb⟩ : ∃ tb, (b % (1 + (len2 : Int) % 60) == 0) = tb := ⟨_, rfl⟩
    rw [hta, htb] at t3
    have T3e := Lib.hid t3
    clear t3
    have HXX := Lib.hid hx
    clear hx
    cases ta
    all_goals
      cases tb
      all_goals
        have t3 := T3e.out.symm
        simp only [Bool.and_true, Bool.and_false] at t3
        rcases HXX.out with ⟨rfl, hgt⟩ | ⟨rfl, hle⟩
        · go_wp2_with fail
          refine (HCOM.out _ h3 h4 h1 h2 H5'.out).mono ?_
          rintro e w5 ⟨rfl, hb5⟩
          have T5 := T4.trans (hb5.mono T4.size)
          go_wp2_with fail
          go_ret
          exact ⟨rfl, T5⟩
        · have hxm : (x == -1) = false := beq_eq_false_iff_ne.2 (by omega)
          go_wp2_with fail
          refine (HCOM.out _ h3 h4 h1 h2 H5'.out).mono ?_
          rintro e w5 ⟨rfl, hb5⟩
          have T5 := T4.trans (hb5.mono T4.size)
          go_wp2_with fail
          go_ret
          exact ⟨rfl, T5⟩
  · have H := Lib.hid h
    clear h
    go_wp2_with fail
    refine (iChainCommon_no a b _ H.out).mono ?_
    rintro e w' ⟨rfl, rfl⟩
    go_wp2_with fail
    refine (sChainCommon_no a b _ H.out).mono ?_
    rintro e w2 ⟨rfl, hb2⟩
    go_wp2_with fail
    go_ret
    exact ⟨rfl, hb1.trans (hb2.mono hb1.size)⟩

end Go.Proofs.Ytcekgegheffobaa
