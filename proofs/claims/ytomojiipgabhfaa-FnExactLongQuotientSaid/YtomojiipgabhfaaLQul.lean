/- The walks of LongQuotient, the program's and the reference's, and of the law FnExactLongQuotient. No condition. -/
import Derived.Test.YtomojiipgabhfaaLQuz
namespace Go.Proofs.Ytomojiipgabhfaa
open Go.RowKit
set_option linter.unusedVariables false

theorem pw6 {k : Nat} (h : k ≤ 6) : (10 : Int) ^ k ≤ 1000000 ∧ 1 ≤ (10 : Int) ^ k := by
  have : k = 0 ∨ k = 1 ∨ k = 2 ∨ k = 3 ∨ k = 4 ∨ k = 5 ∨ k = 6 := by omega
  rcases this with h | h | h | h | h | h | h <;> subst h <;> decide
def quoV (zs : List Int) (d : Int) : Value := if okL zs d then .tuple #[.int .i64 (qv (stp d zs 0) 0), .int .i64 (rv (stp d zs 0) 0), .bool true] else .tuple #[.int .i64 0, .int .i64 0, .bool false]
theorem quoV_yes {zs : List Int} {d : Int} (h : okL zs d = true) : quoV zs d = .tuple #[.int .i64 (qv (stp d zs 0) 0), .int .i64 (rv (stp d zs 0) 0), .bool true] := if_pos h
theorem quoV_no {zs : List Int} {d : Int} (h : okL zs d = false) : quoV zs d = .tuple #[.int .i64 0, .int .i64 0, .bool false] := if_neg (by simp [h])
theorem qv_cons (p : Int × Int) (l : List (Int × Int)) (q : Int) : qv (p :: l) q = qv l (q * 10 + p.1) := rfl
theorem rv_cons (p : Int × Int) (l : List (Int × Int)) (r : Int) : rv (p :: l) r = rv l p.2 := rfl

set_option maxHeartbeats 1000000 in
theorem sLongQuotient_any (A : Option Addr) (c : Nat) (zs : List Int) (d : Int) (w : World) (hA : RD .i64 w w.heap.size A zs) (hl : zs.length ≤ 1048576) :
    Calls Try.prog 17 #[.slice A zs.length c, .int .i64 d] w fun e w' => e = .returned (quoV zs d) ∧ Below w.heap.size w w' := by
  cases hok : okL zs d with
  | false =>
    have HO := Lib.hid hok
    clear hok
    go_enter Try.func17, Try.ntmps17
    go_wp2_with fail
    refine (sLongSteps_any A c zs d _ hA hl).mono ?_
    rintro e w1 ⟨A1, c1, rfl, -, hb1⟩
    rw [HO.out]
    go_wp2_with fail
    go_ret3
    exact ⟨by rw [quoV_no HO.out]; rfl, hb1⟩
  | true =>
    have HO := Lib.hid hok
    obtain ⟨hv, d1, d2⟩ := okL_iff.1 hok
    have hz6 := (vldN_iff.1 hv).1
    obtain ⟨l, hL⟩ : ∃ l, stp d zs 0 = l := ⟨_, rfl⟩
    have HBD := Lib.hid (stp_bd d d1 zs 0 (by omega) (by omega) (vldN_iff.1 hv).2)
    have HLL := Lib.hid (stp_len d zs 0)
    rw [hL] at HBD HLL
    have HST := Lib.hid (show stL zs d = l by rw [stL_yes hok, hL])
    have HQ := Lib.hid (show quoV zs d = .tuple #[.int .i64 (qv l 0), .int .i64 (rv l 0), .bool true] by rw [quoV_yes hok, hL])
    have hll : 1 ≤ l.length ∧ l.length ≤ 6 := by rw [HLL.out]; exact hz6
    clear hok hv hL hz6
    go_enter Try.func17, Try.ntmps17
    go_wp2_with fail
    refine (sLongSteps_any A c zs d _ hA hl).mono ?_
    rintro e w1 ⟨A1, c1, rfl, hown, hb1⟩
    rw [HST.out] at hown ⊢
    rw [HO.out]
    go_wp2_with fail
    go_loop [9, 10] (fun n i => ∃ (k : Nat) (q : Int), k ≤ l.length ∧ i = .int .i64 k ∧ n = .int .i64 q ∧ 0 ≤ q ∧ q < (10 : Int) ^ k ∧ Hid (qv (l.drop k) q = qv l 0)) (fun _ i => l.length - (intOf i).toNat)
    case atStart => exact ⟨0, 0, Nat.zero_le _, rfl, rfl, by omega, by decide, rfl⟩
    case round =>
      obtain ⟨k, q, hk, rfl, rfl, q0, q1, HS⟩ := hrel
      have hp := pw6 (k := k) (by omega)
      by_cases hlt : k < l.length
      · obtain ⟨g, rfl, hg1, hg2, hc1, hc2⟩ := hown.at_ hlt
        have hbd := HBD.out (gp l k) (gp_mem hlt)
        have HT := Lib.hid HS.out
        rw [drop_gp hlt, qv_cons] at HT
        have hpw := Int.pow_succ (10 : Int) k
        have hq2 : q * 10 + (gp l k).1 < (10 : Int) ^ (k + 1) := by rw [hpw]; omega
        have HQ2 := Lib.hid hq2
        clear HS hpw hq2
        obtain ⟨b1, b2, -, -⟩ := hbd
        generalize (gp l k).1 = x at *
        generalize (10 : Int) ^ k = pk at *
        have HC := Lib.hid (show 10 * q + x = q * 10 + x by omega)
        go_wp2_with fail
        rw [HC.out]
        go_round
        case rel => exact ⟨k + 1, q * 10 + x, by omega, by go_num, rfl, by omega, HQ2.out, HT.out⟩
        case measure => simp [intOf] <;> omega
      · obtain rfl : k = l.length := by omega
        have HE := Lib.hid (show q = qv l 0 by rw [← HS.out, List.drop_length]; rfl)
        obtain ⟨g, rfl, hg1, hg2, hc1, hc2⟩ := hown.at_ (i := l.length - 1) (by omega)
        have HR := Lib.hid (rv_last l 0 (by omega))
        generalize (gp l (l.length - 1)).2 = r at *
        obtain ⟨j, hj⟩ : ∃ j, l.length - 1 = j := ⟨_, rfl⟩
        rw [hj] at hc2
        have s1 : IntKind.i64.wrap ((l.length : Int) - 1) = (j : Int) := by rw [show (l.length : Int) - 1 = j by omega]; exact IntWalk.i64_in _ (by omega)
        have hj1 : (j : Int) < l.length := by omega
        have hj2 : j < l.length := by omega
        clear hj hc1 q1 hp
        go_wp2_with fail
        go_quiet (fail)
        clear s1
        go_wp2_with fail
        go_ret3
        exact ⟨by rw [HQ.out, HR.out, ← HE.out]; rfl, below_drewN hb1 _⟩

set_option maxHeartbeats 1000000 in
theorem iLongQuotient_any (A : Option Addr) (c : Nat) (zs : List Int) (d : Int) (w : World) (hA : RD .i64 w w.heap.size A zs) (hl : zs.length ≤ 1048576) :
    Calls Try.prog 19 #[.slice A zs.length c, .int .i64 d] w fun e w' => e = .returned (quoV zs d) ∧ Below w.heap.size w w' := by
  cases hok : okL zs d with
  | false =>
    have HO := Lib.hid hok
    clear hok
    go_enter Try.func19, Try.ntmps19
    go_wp2_with fail
    refine (iLongSteps_any A c zs d _ hA hl).mono ?_
    rintro e w1 ⟨A1, c1, rfl, -, hb1⟩
    rw [HO.out]
    go_wp2_with fail
    go_ret3
    exact ⟨by rw [quoV_no HO.out]; rfl, hb1⟩
  | true =>
    have HO := Lib.hid hok
    obtain ⟨hv, d1, d2⟩ := okL_iff.1 hok
    have hz6 := (vldN_iff.1 hv).1
    obtain ⟨l, hL⟩ : ∃ l, stp d zs 0 = l := ⟨_, rfl⟩
    have HBD := Lib.hid (stp_bd d d1 zs 0 (by omega) (by omega) (vldN_iff.1 hv).2)
    have HLL := Lib.hid (stp_len d zs 0)
    rw [hL] at HBD HLL
    have HST := Lib.hid (show stL zs d = l by rw [stL_yes hok, hL])
    have HQ := Lib.hid (show quoV zs d = .tuple #[.int .i64 (qv l 0), .int .i64 (rv l 0), .bool true] by rw [quoV_yes hok, hL])
    have hll : 1 ≤ l.length ∧ l.length ≤ 6 := by rw [HLL.out]; exact hz6
    clear hok hv hL hz6
    go_enter Try.func19, Try.ntmps19
    go_wp2_with fail
    refine (iLongSteps_any A c zs d _ hA hl).mono ?_
    rintro e w1 ⟨A1, c1, rfl, hown1, hb1⟩
    rw [HST.out] at hown1 ⊢
    rw [HO.out]
    go_wp2_with fail
    go_loopw [9, 10, 23] (fun n m i wr => ∃ (k : Nat) (q r : Int), k ≤ l.length ∧ i = .int .i64 k ∧ n = .int .i64 q ∧ m = .int .i64 r ∧ 0 ≤ q ∧ q < (10 : Int) ^ k ∧ Hid (qv (l.drop k) q = qv l 0) ∧ Hid (rv (l.drop k) r = rv l 0) ∧ SR wr w.heap.size A1 c1 l ∧ Below w.heap.size w wr) (fun _ _ i _ => l.length - (intOf i).toNat)
    case atStart => exact ⟨0, 0, 0, Nat.zero_le _, rfl, rfl, rfl, by omega, by decide, rfl, rfl, hown1, hb1⟩
    case round =>
      obtain ⟨k, q, r, hk, rfl, rfl, rfl, q0, q1, HS, HRR, hown, hb⟩ := hrel
      have hp := pw6 (k := k) (by omega)
      by_cases hlt : k < l.length
      · obtain ⟨g, rfl, hg1, hg2, hc1, hc2⟩ := hown.at_ hlt
        have hbd := HBD.out (gp l k) (gp_mem hlt)
        have HT := Lib.hid HS.out
        rw [drop_gp hlt, qv_cons] at HT
        have HT2 := Lib.hid HRR.out
        rw [drop_gp hlt, rv_cons] at HT2
        have hpw := Int.pow_succ (10 : Int) k
        have hq2 : q * 10 + (gp l k).1 < (10 : Int) ^ (k + 1) := by rw [hpw]; omega
        have HQ2 := Lib.hid hq2
        clear HS HRR hpw hq2
        obtain ⟨b1, b2, -, -⟩ := hbd
        generalize (gp l k).1 = x at *
        generalize (gp l k).2 = y at *
        generalize (10 : Int) ^ k = pk at *
        go_wp2_with fail
        go_roundw
        case rel => exact ⟨k + 1, q * 10 + x, y, by omega, by go_num, rfl, rfl, by omega, HQ2.out, HT.out, HT2.out, hown.alloc _, hb.alloc hb.size _⟩
        case measure => simp [intOf] <;> omega
      · obtain rfl : k = l.length := by omega
        have HE := Lib.hid (show q = qv l 0 by rw [← HS.out, List.drop_length]; rfl)
        have HR := Lib.hid (show r = rv l 0 by rw [← HRR.out, List.drop_length]; rfl)
        clear q1 hp
        go_wp2_with fail
        go_ret3
        exact ⟨by rw [HQ.out, ← HR.out, ← HE.out]; rfl, hb⟩
theorem quoV_form (zs : List Int) (d : Int) : ∃ x y z, quoV zs d = .tuple #[.int .i64 x, .int .i64 y, .bool z] := by
  unfold quoV
  split
  · exact ⟨_, _, _, rfl⟩
  · exact ⟨_, _, _, rfl⟩
set_option maxHeartbeats 1000000 in
theorem walkFnExactLongQuotient (a : Option Addr) (len cap : Nat) (zs : List Int) (n : Int) (wf : (Lit.int .i64 n).wf = true) (w : World) (hs : Sl .i64 w a len cap zs) :
    Calls Try.prog 6 #[.slice a len cap, .int .i64 n] w fun e w' => e = .returned (.bool true) ∧ Below w.heap.size w w' := by
  obtain ⟨rfl, hlc, hcm, hR, -⟩ := hs
  unfold maxLen at hcm
  obtain ⟨x, y, z, hv⟩ := quoV_form zs n
  have HV := Lib.hid hv
  clear hv
  by_cases hbig : zs.length ≤ 1048576
  · go_enter Try.func6, Try.ntmps6
    go_wp2_with fail
    refine (toIntS_any a cap zs _ hR hbig).mono ?_
    rintro e w1 ⟨A1, c1, rfl, o1, hb1⟩
    go_wp2_with fail
    refine (sLongQuotient_any A1 c1 zs n _ o1.rd hbig).mono ?_
    rintro e w2 ⟨rfl, hb2⟩
    have T2 := bthen hb1 hb2
    rw [HV.out]
    go_wp2_with fail
    refine (toIntS_any a cap zs _ (hR.til T2) hbig).mono ?_
    rintro e w3 ⟨A3, c3, rfl, o3, hb3⟩
    have T3 := bthen T2 hb3
    go_wp2_with fail
    refine (iLongQuotient_any A3 c3 zs n _ o3.rd hbig).mono ?_
    rintro e w4 ⟨rfl, hb4⟩
    have T4 := bthen T3 hb4
    have o4 := o3.below hb4 (Nat.le_refl _)
    rw [HV.out]
    go_wp2_with fail
    refine (toIntS_any a cap zs _ (hR.til T4) hbig).mono ?_
    rintro e w5 ⟨A5, c5, rfl, o5, hb5⟩
    have T5 := bthen T4 hb5
    have o6 := o4.below hb5 (Nat.le_refl _)
    go_wp2_with fail
    refine (eqIntS_yes A3 A5 c3 c5 zs _ o6.rd o5.rd hbig).mono ?_
    rintro e w' ⟨rfl, n1, rfl⟩
    go_wp2_with fail
    go_ret
    exact ⟨rfl, below_drewN T5 _⟩
  · have hbig' : decide (1048576 < zs.length) = true := by simp; omega
    go_enter Try.func6, Try.ntmps6
    go_wp2_with fail
    go_ret
    exact ⟨rfl, Below.refl _ _⟩

end Go.Proofs.Ytomojiipgabhfaa
