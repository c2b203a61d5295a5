/- The walk of the law FnAmountTimes. No condition. -/
import Derived.Test.YtmcooaopbigebabLawK
namespace Go.Proofs.Ytmcooaopbigebab
open Go.RowKit
set_option linter.unusedVariables false

set_option maxRecDepth 100000 in
set_option maxHeartbeats 4000000 in
theorem walkFnAmountTimes (a : Option Addr) (len cap : Nat) (zs : List Int) (w : World) (hs : Sl .u8 w a len cap zs) :
    Calls Try.prog 9 #[.slice a len cap] w fun e w' => e = .returned (.bool true) ∧ Below w.heap.size w w' := by
  have HS := Lib.hid hs
  obtain ⟨-, hlc, hcm, -, -⟩ := hs
  unfold maxLen at hcm
  by_cases hbig : len ≤ 1048576
  case neg =>
    have hbig' : decide (1048576 < len) = true := by simp; omega
    go_enter Try.func9, Try.ntmps9
    go_wp2_with fail
    go_ret
    exact ⟨rfl, Below.refl _ _⟩
  go_enter Try.func9, Try.ntmps9
  go_wp2_with fail
  refine (drawAmountTimes_any a len cap zs _ HS.out).mono ?_
  rintro e w1 ⟨rs, ns, n, A0, B0, c0, d0, ⟨hrl, hrb⟩, ⟨hnl, hnb⟩, hn0, hn1, rfl, ⟨r0, -⟩, ⟨n0, -⟩, hb1⟩
  have HRB := Lib.hid hrb
  have HNB := Lib.hid hnb
  clear hrb hnb
  have hlr : rs.length ≤ 1048576 := by omega
  have hln : ns.length ≤ 1048576 := by omega
  go_wp2_with fail
  have n1 := below_new w1 (.cells #[.slice A0 rs.length c0] 28)
  have T2 := below_then hb1 n1
  have r3 := r0.to n1
  have r4 := n0.to n1
  have c5 : (w1.alloc (.cells #[.slice A0 rs.length c0] 28)).cell? ⟨w1.heap.size, 0, none⟩ = some (.slice A0 rs.length c0) := box_cell _ _ _
  have l6 : w1.heap.size < (w1.alloc (.cells #[.slice A0 rs.length c0] 28)).heap.size := by simp
  obtain ⟨N, hN⟩ : ∃ N, lst rs ns = N := ⟨_, rfl⟩
  have HN := Lib.hid hN
  have hbd := lst_bd rs ns
  rw [hN] at hbd
  clear hN
  by_cases hok : aoB rs (timesN N n) = true
  case neg =>
    have HB := Lib.hid (Bool.eq_false_iff.2 hok)
    refine (iAmountTimes_any A0 B0 c0 d0 rs ns n _ r3 hlr r4 hln).mono ?_
    rintro e w2 ⟨A2, d2, rfl, o2, hb2⟩
    have T7 := below_then T2 hb2
    have c8 : w2.cell? ⟨w1.heap.size, 0, none⟩ = some (.slice A0 rs.length c0) := (hb2.cell (p := ⟨w1.heap.size, 0, none⟩) l6).trans c5
    have l9 : w1.heap.size < w2.heap.size := Nat.lt_of_lt_of_le l6 hb2.size
    have r10 := r3.to hb2
    have r11 := r4.to hb2
    rw [HN.out]
    rw [HB.out]
    have r12 : RD .i64 w2 w2.heap.size A2 (aoZ rs (timesN N n)) := by have := o2.rd; first | exact this | ((try rw [HN.out] at this); (try rw [HB.out] at this); exact this)
    go_wp2_with fail
    refine (sAmountTimes_any A0 B0 c0 d0 rs ns n _ r10 hlr r11 hln).mono ?_
    rintro e w3 ⟨A3, d3, rfl, o3, hb3⟩
    have T13 := below_then T7 hb3
    have c14 : w3.cell? ⟨w1.heap.size, 0, none⟩ = some (.slice A0 rs.length c0) := (hb3.cell (p := ⟨w1.heap.size, 0, none⟩) l9).trans c8
    have l15 : w1.heap.size < w3.heap.size := Nat.lt_of_lt_of_le l9 hb3.size
    have r16 := r10.to hb3
    have r17 := r11.to hb3
    have r18 := r12.to hb3
    rw [HN.out]
    rw [HB.out]
    have r19 : RD .i64 w3 w3.heap.size A3 (aoZ rs (timesN N n)) := by have := o3.rd; first | exact this | ((try rw [HN.out] at this); (try rw [HB.out] at this); exact this)
    go_wp2_with fail
    refine (sameInts_yes A2 A3 d2 d3 (aoZ rs (timesN N n)) _ r18 r19 (Nat.le_trans (aoZ_len _ _) (by omega))).mono ?_
    rintro e w4 ⟨rfl, hb4⟩
    have T20 := below_then T13 hb4
    have c21 : w4.cell? ⟨w1.heap.size, 0, none⟩ = some (.slice A0 rs.length c0) := (hb4.cell (p := ⟨w1.heap.size, 0, none⟩) l15).trans c14
    have l22 : w1.heap.size < w4.heap.size := Nat.lt_of_lt_of_le l15 hb4.size
    have r23 := r16.to hb4
    have r24 := r17.to hb4
    have r25 := r18.to hb4
    have r26 := r19.to hb4
    go_wp2_with fail
    refine (sameInts_yes A2 A3 d2 d3 (aoZ rs (timesN N n)) _ r25 r26 (Nat.le_trans (aoZ_len _ _) (by omega))).mono ?_
    rintro e w5 ⟨rfl, hb5⟩
    have T27 := below_then T20 hb5
    have c28 : w5.cell? ⟨w1.heap.size, 0, none⟩ = some (.slice A0 rs.length c0) := (hb5.cell (p := ⟨w1.heap.size, 0, none⟩) l22).trans c21
    have l29 : w1.heap.size < w5.heap.size := Nat.lt_of_lt_of_le l22 hb5.size
    have r30 := r23.to hb5
    have r31 := r24.to hb5
    have r32 := r25.to hb5
    have r33 := r26.to hb5
    go_wp2_with fail
    go_ret
    exact ⟨rfl, T27⟩
  have HB := Lib.hid hok
  obtain ⟨hv, hs0, hs1⟩ := aoB_iff.1 hok
  have HV := Lib.hid hv
  clear hok hv
  obtain ⟨hp, hq, hq2, hsum⟩ := timesN_inv hs0
  have HSUM := Lib.hid hsum
  clear hsum
  obtain ⟨S, hS⟩ : ∃ S, timesN N n = S := ⟨_, rfl⟩
  have HSE := Lib.hid hS
  have HSN := Lib.hid (show S = N * n by rw [← hS]; exact HSUM.out)
  rw [hS] at hs0 hs1
  have HBS := Lib.hid (show aoB rs S = true by rw [← hS]; exact HB.out)
  clear hS
  have HL := Lib.hid (show lst rs (aoZ rs S) = S by rw [aoZ_yes HBS.out]; exact lst_prp rs S HV.out hs0 hs1)
  have HBN := Lib.hid (aoB_yes HV.out hp hbd.2)
  refine (iAmountTimes_any A0 B0 c0 d0 rs ns n _ r3 hlr r4 hln).mono ?_
  rintro e w6 ⟨A6, d6, rfl, o6, hb6⟩
  have T34 := below_then T2 hb6
  have c35 : w6.cell? ⟨w1.heap.size, 0, none⟩ = some (.slice A0 rs.length c0) := (hb6.cell (p := ⟨w1.heap.size, 0, none⟩) l6).trans c5
  have l36 : w1.heap.size < w6.heap.size := Nat.lt_of_lt_of_le l6 hb6.size
  have r37 := r3.to hb6
  have r38 := r4.to hb6
  rw [HN.out]
  rw [HSE.out]
  rw [HBS.out]
  have r39 : RD .i64 w6 w6.heap.size A6 (aoZ rs S) := by have := o6.rd; first | exact this | ((try rw [HN.out] at this); (try rw [HSE.out] at this); (try rw [HBS.out] at this); exact this)
  go_wp2_with fail
  refine (sAmountTimes_any A0 B0 c0 d0 rs ns n _ r37 hlr r38 hln).mono ?_
  rintro e w7 ⟨A7, d7, rfl, o7, hb7⟩
  have T40 := below_then T34 hb7
  have c41 : w7.cell? ⟨w1.heap.size, 0, none⟩ = some (.slice A0 rs.length c0) := (hb7.cell (p := ⟨w1.heap.size, 0, none⟩) l36).trans c35
  have l42 : w1.heap.size < w7.heap.size := Nat.lt_of_lt_of_le l36 hb7.size
  have r43 := r37.to hb7
  have r44 := r38.to hb7
  have r45 := r39.to hb7
  rw [HN.out]
  rw [HSE.out]
  rw [HBS.out]
  have r46 : RD .i64 w7 w7.heap.size A7 (aoZ rs S) := by have := o7.rd; first | exact this | ((try rw [HN.out] at this); (try rw [HSE.out] at this); (try rw [HBS.out] at this); exact this)
  go_wp2_with fail
  refine (sameInts_yes A6 A7 d6 d7 (aoZ rs S) _ r45 r46 (Nat.le_trans (aoZ_len _ _) (by omega))).mono ?_
  rintro e w8 ⟨rfl, hb8⟩
  have T47 := below_then T40 hb8
  have c48 : w8.cell? ⟨w1.heap.size, 0, none⟩ = some (.slice A0 rs.length c0) := (hb8.cell (p := ⟨w1.heap.size, 0, none⟩) l42).trans c41
  have l49 : w1.heap.size < w8.heap.size := Nat.lt_of_lt_of_le l42 hb8.size
  have r50 := r43.to hb8
  have r51 := r44.to hb8
  have r52 := r45.to hb8
  have r53 := r46.to hb8
  go_wp2_with fail
  refine (iAmountTimes_any A0 B0 c0 d0 rs ns (n + 1) _ r50 hlr r51 hln).mono ?_
  rintro e w9 ⟨A9, d9, rfl, o9, hb9⟩
  have T54 := below_then T47 hb9
  have c55 : w9.cell? ⟨w1.heap.size, 0, none⟩ = some (.slice A0 rs.length c0) := (hb9.cell (p := ⟨w1.heap.size, 0, none⟩) l49).trans c48
  have l56 : w1.heap.size < w9.heap.size := Nat.lt_of_lt_of_le l49 hb9.size
  have r57 := r50.to hb9
  have r58 := r51.to hb9
  have r59 := r52.to hb9
  have r60 := r53.to hb9
  rw [HN.out]
  have r61 : RD .i64 w9 w9.heap.size A9 (aoZ rs (timesN N (n + 1))) := by have := o9.rd; first | exact this | ((try rw [HN.out] at this); exact this)
  go_wp2_with fail
  refine (iAmountAdd_any A0 A6 B0 c0 d6 d0 rs (aoZ rs S) ns  _ r57 hlr r59 (Nat.le_trans (aoZ_len _ _) (by omega)) r58 hln).mono ?_
  rintro e w10 ⟨A10, d10, rfl, o10, hb10⟩
  have T62 := below_then T54 hb10
  have c63 : w10.cell? ⟨w1.heap.size, 0, none⟩ = some (.slice A0 rs.length c0) := (hb10.cell (p := ⟨w1.heap.size, 0, none⟩) l56).trans c55
  have l64 : w1.heap.size < w10.heap.size := Nat.lt_of_lt_of_le l56 hb10.size
  have r65 := r57.to hb10
  have r66 := r58.to hb10
  have r67 := r59.to hb10
  have r68 := r60.to hb10
  have r69 := r61.to hb10
  rw [HL.out]
  rw [HN.out]
  have r70 : RD .i64 w10 w10.heap.size A10 (aoZ rs (addN S N)) := by have := o10.rd; first | exact this | ((try rw [HL.out] at this); (try rw [HN.out] at this); exact this)
  by_cases hnl : n < 100000
  · have HEQ := Lib.hid (show timesN N (n + 1) = addN S N by rw [timesN, if_pos ⟨hp, by omega, by omega⟩, addN, if_pos ⟨hs0, hp⟩, HSN.out, Int.mul_add, Int.mul_one])
    rw [HEQ.out] at r69
    rw [HEQ.out]
    generalize addN S N = Q at *
    go_wp2_with fail
    refine (sameInts_yes A9 A10 d9 d10 (aoZ rs Q) _ r69 r70 (Nat.le_trans (aoZ_len _ _) (by omega))).mono ?_
    rintro e w11 ⟨rfl, hb11⟩
    have T71 := below_then T62 hb11
    have c72 : w11.cell? ⟨w1.heap.size, 0, none⟩ = some (.slice A0 rs.length c0) := (hb11.cell (p := ⟨w1.heap.size, 0, none⟩) l64).trans c63
    have l73 : w1.heap.size < w11.heap.size := Nat.lt_of_lt_of_le l64 hb11.size
    have r74 := r65.to hb11
    have r75 := r66.to hb11
    have r76 := r67.to hb11
    have r77 := r68.to hb11
    have r78 := r69.to hb11
    have r79 := r70.to hb11
    by_cases hn0 : n = 0
    · have hS0 : S = 0 := by rw [HSN.out, hn0, Int.mul_zero]
      have t0 : (n == 0) = true := by simp [hn0]
      have t1 : (S == 0) = true := by simp [hS0]
      clear hn0 hS0
      go_wp2_with fail
      refine (iAmountLeast_any A0 A6 c0 d6 rs (aoZ rs S)  _ r74 hlr r76 (Nat.le_trans (aoZ_len _ _) (by omega))).mono ?_
      rintro e w12 ⟨rfl, hb12⟩
      have T80 := below_then T71 hb12
      have c81 : w12.cell? ⟨w1.heap.size, 0, none⟩ = some (.slice A0 rs.length c0) := (hb12.cell (p := ⟨w1.heap.size, 0, none⟩) l73).trans c72
      have l82 : w1.heap.size < w12.heap.size := Nat.lt_of_lt_of_le l73 hb12.size
      have r83 := r74.to hb12
      have r84 := r75.to hb12
      have r85 := r76.to hb12
      have r86 := r77.to hb12
      have r87 := r78.to hb12
      have r88 := r79.to hb12
      rw [HL.out]
      go_wp2_with fail
      go_ret
      exact ⟨rfl, T80⟩
    · have hn1p : 1 ≤ n := by omega
      have t0 : (n == 0) = false := beq_eq_false_iff_ne.2 hn0
      clear hn0
      go_wp2_with fail
      have HSH := Lib.hid (shB_yes hs0 hn1p hq2)
      have hdiv : S / n = N := by rw [HSN.out]; exact Int.mul_ediv_cancel _ (by omega)
      have hmod : S % n = 0 := by rw [HSN.out]; exact Int.mul_emod_left _ _
      have HD := Lib.hid hdiv
      have HMo := Lib.hid hmod
      clear hdiv hmod
      have HZ1 := Lib.hid (show shZ rs S n N = aoZ rs N by rw [shZ_yes HSH.out, aoZ_yes HBN.out])
      have HB0 := Lib.hid (aoB_yes (rs := rs) HV.out (show (0 : Int) ≤ 0 by omega) (by omega))
      have HZ2 := Lib.hid (show shZ rs S n 0 = aoZ rs 0 by rw [shZ_yes HSH.out, aoZ_yes HB0.out])
      have HL0 := Lib.hid (show lst rs (aoZ rs 0) = 0 by rw [aoZ_yes HB0.out]; exact lst_prp rs 0 HV.out (by omega) (by omega))
      refine (iAmountShare_any A0 A6 c0 d6 rs (aoZ rs S) n _ r74 hlr r76 (Nat.le_trans (aoZ_len _ _) (by omega))).mono ?_
      rintro e w13 ⟨A13, d13, A13b, d13b, rfl, o13, o13b, -, hb13⟩
      have T89 := below_then T71 hb13
      have c90 : w13.cell? ⟨w1.heap.size, 0, none⟩ = some (.slice A0 rs.length c0) := (hb13.cell (p := ⟨w1.heap.size, 0, none⟩) l73).trans c72
      have l91 : w1.heap.size < w13.heap.size := Nat.lt_of_lt_of_le l73 hb13.size
      have r92 := r74.to hb13
      have r93 := r75.to hb13
      have r94 := r76.to hb13
      have r95 := r77.to hb13
      have r96 := r78.to hb13
      have r97 := r79.to hb13
      rw [HL.out]
      rw [HD.out]
      rw [HMo.out]
      rw [HZ1.out]
      rw [HZ2.out]
      rw [HSH.out]
      have r98 : RD .i64 w13 w13.heap.size A13 (aoZ rs N) := by have := o13.rd; first | exact this | ((try rw [HL.out] at this); (try rw [HD.out] at this); (try rw [HMo.out] at this); (try rw [HZ1.out] at this); (try rw [HZ2.out] at this); (try rw [HSH.out] at this); exact this)
      have r99 : RD .i64 w13 w13.heap.size A13b (aoZ rs 0) := by have := o13b.rd; first | exact this | ((try rw [HL.out] at this); (try rw [HD.out] at this); (try rw [HMo.out] at this); (try rw [HZ1.out] at this); (try rw [HZ2.out] at this); (try rw [HSH.out] at this); exact this)
      go_wp2_with fail
      refine (iAmountProper_any A0 B0 c0 d0 rs ns  _ r92 hlr r93 hln).mono ?_
      rintro e w14 ⟨A14, d14, rfl, o14, hb14⟩
      have T100 := below_then T89 hb14
      have c101 : w14.cell? ⟨w1.heap.size, 0, none⟩ = some (.slice A0 rs.length c0) := (hb14.cell (p := ⟨w1.heap.size, 0, none⟩) l91).trans c90
      have l102 : w1.heap.size < w14.heap.size := Nat.lt_of_lt_of_le l91 hb14.size
      have r103 := r92.to hb14
      have r104 := r93.to hb14
      have r105 := r94.to hb14
      have r106 := r95.to hb14
      have r107 := r96.to hb14
      have r108 := r97.to hb14
      have r109 := r98.to hb14
      have r110 := r99.to hb14
      rw [HN.out]
      rw [HBN.out]
      have r111 : RD .i64 w14 w14.heap.size A14 (aoZ rs N) := by have := o14.rd; first | exact this | ((try rw [HN.out] at this); (try rw [HBN.out] at this); exact this)
      go_wp2_with fail
      refine (sameInts_yes A13 A14 d13 d14 (aoZ rs N) _ r109 r111 (Nat.le_trans (aoZ_len _ _) (by omega))).mono ?_
      rintro e w15 ⟨rfl, hb15⟩
      have T112 := below_then T100 hb15
      have c113 : w15.cell? ⟨w1.heap.size, 0, none⟩ = some (.slice A0 rs.length c0) := (hb15.cell (p := ⟨w1.heap.size, 0, none⟩) l102).trans c101
      have l114 : w1.heap.size < w15.heap.size := Nat.lt_of_lt_of_le l102 hb15.size
      have r115 := r103.to hb15
      have r116 := r104.to hb15
      have r117 := r105.to hb15
      have r118 := r106.to hb15
      have r119 := r107.to hb15
      have r120 := r108.to hb15
      have r121 := r109.to hb15
      have r122 := r110.to hb15
      have r123 := r111.to hb15
      go_wp2_with fail
      refine (iAmountLeast_any A0 A13b c0 d13b rs (aoZ rs 0)  _ r115 hlr r122 (Nat.le_trans (aoZ_len _ _) (by omega))).mono ?_
      rintro e w16 ⟨rfl, hb16⟩
      have T124 := below_then T112 hb16
      have c125 : w16.cell? ⟨w1.heap.size, 0, none⟩ = some (.slice A0 rs.length c0) := (hb16.cell (p := ⟨w1.heap.size, 0, none⟩) l114).trans c113
      have l126 : w1.heap.size < w16.heap.size := Nat.lt_of_lt_of_le l114 hb16.size
      have r127 := r115.to hb16
      have r128 := r116.to hb16
      have r129 := r117.to hb16
      have r130 := r118.to hb16
      have r131 := r119.to hb16
      have r132 := r120.to hb16
      have r133 := r121.to hb16
      have r134 := r122.to hb16
      have r135 := r123.to hb16
      rw [HL0.out]
      go_wp2_with fail
      go_ret
      exact ⟨rfl, T124⟩
  · have hn1p : 1 ≤ n := by omega
    have t0 : (n == 0) = false := beq_eq_false_iff_ne.2 (by omega)
    go_wp2_with fail
    have HSH := Lib.hid (shB_yes hs0 hn1p hq2)
    have hdiv : S / n = N := by rw [HSN.out]; exact Int.mul_ediv_cancel _ (by omega)
    have hmod : S % n = 0 := by rw [HSN.out]; exact Int.mul_emod_left _ _
    have HD := Lib.hid hdiv
    have HMo := Lib.hid hmod
    clear hdiv hmod
    have HZ1 := Lib.hid (show shZ rs S n N = aoZ rs N by rw [shZ_yes HSH.out, aoZ_yes HBN.out])
    have HB0 := Lib.hid (aoB_yes (rs := rs) HV.out (show (0 : Int) ≤ 0 by omega) (by omega))
    have HZ2 := Lib.hid (show shZ rs S n 0 = aoZ rs 0 by rw [shZ_yes HSH.out, aoZ_yes HB0.out])
    have HL0 := Lib.hid (show lst rs (aoZ rs 0) = 0 by rw [aoZ_yes HB0.out]; exact lst_prp rs 0 HV.out (by omega) (by omega))
    refine (iAmountShare_any A0 A6 c0 d6 rs (aoZ rs S) n _ r65 hlr r67 (Nat.le_trans (aoZ_len _ _) (by omega))).mono ?_
    rintro e w17 ⟨A17, d17, A17b, d17b, rfl, o17, o17b, -, hb17⟩
    have T136 := below_then T62 hb17
    have c137 : w17.cell? ⟨w1.heap.size, 0, none⟩ = some (.slice A0 rs.length c0) := (hb17.cell (p := ⟨w1.heap.size, 0, none⟩) l64).trans c63
    have l138 : w1.heap.size < w17.heap.size := Nat.lt_of_lt_of_le l64 hb17.size
    have r139 := r65.to hb17
    have r140 := r66.to hb17
    have r141 := r67.to hb17
    have r142 := r68.to hb17
    have r143 := r69.to hb17
    have r144 := r70.to hb17
    rw [HL.out]
    rw [HD.out]
    rw [HMo.out]
    rw [HZ1.out]
    rw [HZ2.out]
    rw [HSH.out]
    have r145 : RD .i64 w17 w17.heap.size A17 (aoZ rs N) := by have := o17.rd; first | exact this | ((try rw [HL.out] at this); (try rw [HD.out] at this); (try rw [HMo.out] at this); (try rw [HZ1.out] at this); (try rw [HZ2.out] at this); (try rw [HSH.out] at this); exact this)
    have r146 : RD .i64 w17 w17.heap.size A17b (aoZ rs 0) := by have := o17b.rd; first | exact this | ((try rw [HL.out] at this); (try rw [HD.out] at this); (try rw [HMo.out] at this); (try rw [HZ1.out] at this); (try rw [HZ2.out] at this); (try rw [HSH.out] at this); exact this)
    go_wp2_with fail
    refine (iAmountProper_any A0 B0 c0 d0 rs ns  _ r139 hlr r140 hln).mono ?_
    rintro e w18 ⟨A18, d18, rfl, o18, hb18⟩
    have T147 := below_then T136 hb18
    have c148 : w18.cell? ⟨w1.heap.size, 0, none⟩ = some (.slice A0 rs.length c0) := (hb18.cell (p := ⟨w1.heap.size, 0, none⟩) l138).trans c137
    have l149 : w1.heap.size < w18.heap.size := Nat.lt_of_lt_of_le l138 hb18.size
    have r150 := r139.to hb18
    have r151 := r140.to hb18
    have r152 := r141.to hb18
    have r153 := r142.to hb18
    have r154 := r143.to hb18
    have r155 := r144.to hb18
    have r156 := r145.to hb18
    have r157 := r146.to hb18
    rw [HN.out]
    rw [HBN.out]
    have r158 : RD .i64 w18 w18.heap.size A18 (aoZ rs N) := by have := o18.rd; first | exact this | ((try rw [HN.out] at this); (try rw [HBN.out] at this); exact this)
    go_wp2_with fail
    refine (sameInts_yes A17 A18 d17 d18 (aoZ rs N) _ r156 r158 (Nat.le_trans (aoZ_len _ _) (by omega))).mono ?_
    rintro e w19 ⟨rfl, hb19⟩
    have T159 := below_then T147 hb19
    have c160 : w19.cell? ⟨w1.heap.size, 0, none⟩ = some (.slice A0 rs.length c0) := (hb19.cell (p := ⟨w1.heap.size, 0, none⟩) l149).trans c148
    have l161 : w1.heap.size < w19.heap.size := Nat.lt_of_lt_of_le l149 hb19.size
    have r162 := r150.to hb19
    have r163 := r151.to hb19
    have r164 := r152.to hb19
    have r165 := r153.to hb19
    have r166 := r154.to hb19
    have r167 := r155.to hb19
    have r168 := r156.to hb19
    have r169 := r157.to hb19
    have r170 := r158.to hb19
    go_wp2_with fail
    refine (iAmountLeast_any A0 A17b c0 d17b rs (aoZ rs 0)  _ r162 hlr r169 (Nat.le_trans (aoZ_len _ _) (by omega))).mono ?_
    rintro e w20 ⟨rfl, hb20⟩
    have T171 := below_then T159 hb20
    have c172 : w20.cell? ⟨w1.heap.size, 0, none⟩ = some (.slice A0 rs.length c0) := (hb20.cell (p := ⟨w1.heap.size, 0, none⟩) l161).trans c160
    have l173 : w1.heap.size < w20.heap.size := Nat.lt_of_lt_of_le l161 hb20.size
    have r174 := r162.to hb20
    have r175 := r163.to hb20
    have r176 := r164.to hb20
    have r177 := r165.to hb20
    have r178 := r166.to hb20
    have r179 := r167.to hb20
    have r180 := r168.to hb20
    have r181 := r169.to hb20
    have r182 := r170.to hb20
    rw [HL0.out]
    go_wp2_with fail
    go_ret
    exact ⟨rfl, T171⟩

end Go.Proofs.Ytmcooaopbigebab
