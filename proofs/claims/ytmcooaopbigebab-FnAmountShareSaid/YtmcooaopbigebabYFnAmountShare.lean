/- The walk of the law FnAmountShare. No condition. -/
import Derived.Test.YtmcooaopbigebabLawK
namespace Go.Proofs.Ytmcooaopbigebab
open Go.RowKit
set_option linter.unusedVariables false

set_option maxRecDepth 100000 in
set_option maxHeartbeats 4000000 in
theorem walkFnAmountShare (a : Option Addr) (len cap : Nat) (zs : List Int) (w : World) (hs : Sl .u8 w a len cap zs) :
    Calls Try.prog 11 #[.slice a len cap] w fun e w' => e = .returned (.bool true) ∧ Below w.heap.size w w' := by
  have HS := Lib.hid hs
  obtain ⟨-, hlc, hcm, -, -⟩ := hs
  unfold maxLen at hcm
  by_cases hbig : len ≤ 1048576
  case neg =>
    have hbig' : decide (1048576 < len) = true := by simp; omega
    go_enter Try.func11, Try.ntmps11
    go_wp2_with fail
    go_ret
    exact ⟨rfl, Below.refl _ _⟩
  go_enter Try.func11, Try.ntmps11
  go_wp2_with fail
  refine (drawAmountShare_any a len cap zs _ HS.out).mono ?_
  rintro e w1 ⟨rs, ns, n, A0, B0, c0, d0, ⟨hrl, hrb⟩, ⟨hnl, hnb⟩, hn0, hn1, rfl, ⟨r0, -⟩, ⟨n0, -⟩, hb1⟩
  have HRB := Lib.hid hrb
  have HNB := Lib.hid hnb
  clear hrb hnb
  have hlr : rs.length ≤ 1048576 := by omega
  have hln : ns.length ≤ 1048576 := by omega
  go_wp2_with fail
  have n1 := below_new w1 (.cells #[.slice A0 rs.length c0] 28)
  have T2 := below_then hb1 n1
  have r3 := r0.to n1
  have r4 := n0.to n1
  have c5 : (w1.alloc (.cells #[.slice A0 rs.length c0] 28)).cell? ⟨w1.heap.size, 0, none⟩ = some (.slice A0 rs.length c0) := box_cell _ _ _
  have l6 : w1.heap.size < (w1.alloc (.cells #[.slice A0 rs.length c0] 28)).heap.size := by simp
  obtain ⟨N, hN⟩ : ∃ N, lst rs ns = N := ⟨_, rfl⟩
  have HN := Lib.hid hN
  have hbd := lst_bd rs ns
  rw [hN] at hbd
  have HVL := Lib.hid (fun h => (lst_vld (rs := rs) (list := ns) h).1)
  rw [hN] at HVL
  clear hN
  by_cases hok : shB N n = true
  case neg =>
    have HB := Lib.hid (Bool.eq_false_iff.2 hok)
    refine (iAmountShare_any A0 B0 c0 d0 rs ns n _ r3 hlr r4 hln).mono ?_
    rintro e w2 ⟨A2, d2, A2b, d2b, rfl, o2, o2b, -, hb2⟩
    have T7 := below_then T2 hb2
    have c8 : w2.cell? ⟨w1.heap.size, 0, none⟩ = some (.slice A0 rs.length c0) := (hb2.cell (p := ⟨w1.heap.size, 0, none⟩) l6).trans c5
    have l9 : w1.heap.size < w2.heap.size := Nat.lt_of_lt_of_le l6 hb2.size
    have r10 := r3.to hb2
    have r11 := r4.to hb2
    rw [HN.out]
    rw [HB.out]
    have r12 : RD .i64 w2 w2.heap.size A2 (shZ rs N n (N / n)) := by have := o2.rd; first | exact this | ((try rw [HN.out] at this); (try rw [HB.out] at this); exact this)
    have r13 : RD .i64 w2 w2.heap.size A2b (shZ rs N n (N % n)) := by have := o2b.rd; first | exact this | ((try rw [HN.out] at this); (try rw [HB.out] at this); exact this)
    go_wp2_with fail
    refine (sAmountShare_any A0 B0 c0 d0 rs ns n _ r10 hlr r11 hln).mono ?_
    rintro e w3 ⟨A3, d3, A3b, d3b, rfl, o3, o3b, -, hb3⟩
    have T14 := below_then T7 hb3
    have c15 : w3.cell? ⟨w1.heap.size, 0, none⟩ = some (.slice A0 rs.length c0) := (hb3.cell (p := ⟨w1.heap.size, 0, none⟩) l9).trans c8
    have l16 : w1.heap.size < w3.heap.size := Nat.lt_of_lt_of_le l9 hb3.size
    have r17 := r10.to hb3
    have r18 := r11.to hb3
    have r19 := r12.to hb3
    have r20 := r13.to hb3
    rw [HN.out]
    rw [HB.out]
    have r21 : RD .i64 w3 w3.heap.size A3 (shZ rs N n (N / n)) := by have := o3.rd; first | exact this | ((try rw [HN.out] at this); (try rw [HB.out] at this); exact this)
    have r22 : RD .i64 w3 w3.heap.size A3b (shZ rs N n (N % n)) := by have := o3b.rd; first | exact this | ((try rw [HN.out] at this); (try rw [HB.out] at this); exact this)
    go_wp2_with fail
    refine (sameInts_yes A2 A3 d2 d3 (shZ rs N n (N / n)) _ r19 r21 (Nat.le_trans (shZ_len HVL.out) (by omega))).mono ?_
    rintro e w4 ⟨rfl, hb4⟩
    have T23 := below_then T14 hb4
    have c24 : w4.cell? ⟨w1.heap.size, 0, none⟩ = some (.slice A0 rs.length c0) := (hb4.cell (p := ⟨w1.heap.size, 0, none⟩) l16).trans c15
    have l25 : w1.heap.size < w4.heap.size := Nat.lt_of_lt_of_le l16 hb4.size
    have r26 := r17.to hb4
    have r27 := r18.to hb4
    have r28 := r19.to hb4
    have r29 := r20.to hb4
    have r30 := r21.to hb4
    have r31 := r22.to hb4
    go_wp2_with fail
    refine (sameInts_yes A2b A3b d2b d3b (shZ rs N n (N % n)) _ r29 r31 (Nat.le_trans (shZ_len HVL.out) (by omega))).mono ?_
    rintro e w5 ⟨rfl, hb5⟩
    have T32 := below_then T23 hb5
    have c33 : w5.cell? ⟨w1.heap.size, 0, none⟩ = some (.slice A0 rs.length c0) := (hb5.cell (p := ⟨w1.heap.size, 0, none⟩) l25).trans c24
    have l34 : w1.heap.size < w5.heap.size := Nat.lt_of_lt_of_le l25 hb5.size
    have r35 := r26.to hb5
    have r36 := r27.to hb5
    have r37 := r28.to hb5
    have r38 := r29.to hb5
    have r39 := r30.to hb5
    have r40 := r31.to hb5
    go_wp2_with fail
    refine (sameInts_yes A2 A3 d2 d3 (shZ rs N n (N / n)) _ r37 r39 (Nat.le_trans (shZ_len HVL.out) (by omega))).mono ?_
    rintro e w6 ⟨rfl, hb6⟩
    have T41 := below_then T32 hb6
    have c42 : w6.cell? ⟨w1.heap.size, 0, none⟩ = some (.slice A0 rs.length c0) := (hb6.cell (p := ⟨w1.heap.size, 0, none⟩) l34).trans c33
    have l43 : w1.heap.size < w6.heap.size := Nat.lt_of_lt_of_le l34 hb6.size
    have r44 := r35.to hb6
    have r45 := r36.to hb6
    have r46 := r37.to hb6
    have r47 := r38.to hb6
    have r48 := r39.to hb6
    have r49 := r40.to hb6
    go_wp2_with fail
    refine (sameInts_yes A2b A3b d2b d3b (shZ rs N n (N % n)) _ r47 r49 (Nat.le_trans (shZ_len HVL.out) (by omega))).mono ?_
    rintro e w7 ⟨rfl, hb7⟩
    have T50 := below_then T41 hb7
    have c51 : w7.cell? ⟨w1.heap.size, 0, none⟩ = some (.slice A0 rs.length c0) := (hb7.cell (p := ⟨w1.heap.size, 0, none⟩) l43).trans c42
    have l52 : w1.heap.size < w7.heap.size := Nat.lt_of_lt_of_le l43 hb7.size
    have r53 := r44.to hb7
    have r54 := r45.to hb7
    have r55 := r46.to hb7
    have r56 := r47.to hb7
    have r57 := r48.to hb7
    have r58 := r49.to hb7
    go_wp2_with fail
    go_ret
    exact ⟨rfl, T50⟩
  have HB := Lib.hid hok
  obtain ⟨hp, hn1, hn2⟩ := shB_iff.1 hok
  have HV := Lib.hid (HVL.out hp)
  clear hok
  have q1 := Int.ediv_nonneg hp (show 0 ≤ n by omega)
  have q2 : N / n ≤ N := Int.ediv_le_self _ hp
  have q3 := Int.emod_nonneg N (show n ≠ 0 by omega)
  have q4 := Int.emod_lt_of_pos N (show 0 < n by omega)
  have q5 := emod_le hp hn1
  have q6 := Int.mul_ediv_add_emod N n
  obtain ⟨q, hq⟩ : ∃ q, N / n = q := ⟨_, rfl⟩
  obtain ⟨r, hr⟩ : ∃ r, N % n = r := ⟨_, rfl⟩
  rw [hq] at q1 q2 q6
  rw [hr] at q3 q4 q5 q6
  have HQ := Lib.hid hq
  have HR := Lib.hid hr
  clear hq hr
  have HQ6 := Lib.hid q6
  have hqn := Int.mul_nonneg (show 0 ≤ n by omega) q1
  have hqn2 : n * q ≤ N := by omega
  clear q6
  have HZ1 := Lib.hid (show shZ rs N n q = aoZ rs q by rw [shZ_yes HB.out, aoZ_yes (aoB_yes HV.out q1 (by omega))])
  have HZ2 := Lib.hid (show shZ rs N n r = aoZ rs r by rw [shZ_yes HB.out, aoZ_yes (aoB_yes HV.out q3 (by omega))])
  have HLQ := Lib.hid (show lst rs (aoZ rs q) = q by rw [aoZ_yes (aoB_yes HV.out q1 (by omega))]; exact lst_prp rs q HV.out q1 (by omega))
  have HLR := Lib.hid (show lst rs (aoZ rs r) = r by rw [aoZ_yes (aoB_yes HV.out q3 (by omega))]; exact lst_prp rs r HV.out q3 (by omega))
  have HT := Lib.hid (show timesN q n = n * q by rw [timesN, if_pos ⟨q1, by omega, hn2⟩, Int.mul_comm])
  have HBT := Lib.hid (aoB_yes HV.out hqn (by omega))
  have HLT := Lib.hid (show lst rs (aoZ rs (n * q)) = n * q by rw [aoZ_yes HBT.out]; exact lst_prp rs _ HV.out hqn (by omega))
  have HAD := Lib.hid (show addN (n * q) r = N by rw [addN, if_pos ⟨hqn, q3⟩]; exact HQ6.out)
  have HBN := Lib.hid (aoB_yes HV.out hp hbd.2)
  refine (iAmountShare_any A0 B0 c0 d0 rs ns n _ r3 hlr r4 hln).mono ?_
  rintro e w8 ⟨A8, d8, A8b, d8b, rfl, o8, o8b, -, hb8⟩
  have T59 := below_then T2 hb8
  have c60 : w8.cell? ⟨w1.heap.size, 0, none⟩ = some (.slice A0 rs.length c0) := (hb8.cell (p := ⟨w1.heap.size, 0, none⟩) l6).trans c5
  have l61 : w1.heap.size < w8.heap.size := Nat.lt_of_lt_of_le l6 hb8.size
  have r62 := r3.to hb8
  have r63 := r4.to hb8
  rw [HN.out]
  rw [HB.out]
  rw [HQ.out]
  rw [HR.out]
  rw [HZ1.out]
  rw [HZ2.out]
  have r64 : RD .i64 w8 w8.heap.size A8 (aoZ rs q) := by have := o8.rd; first | exact this | ((try rw [HN.out] at this); (try rw [HB.out] at this); (try rw [HQ.out] at this); (try rw [HR.out] at this); (try rw [HZ1.out] at this); (try rw [HZ2.out] at this); exact this)
  have r65 : RD .i64 w8 w8.heap.size A8b (aoZ rs r) := by have := o8b.rd; first | exact this | ((try rw [HN.out] at this); (try rw [HB.out] at this); (try rw [HQ.out] at this); (try rw [HR.out] at this); (try rw [HZ1.out] at this); (try rw [HZ2.out] at this); exact this)
  go_wp2_with fail
  refine (sAmountShare_any A0 B0 c0 d0 rs ns n _ r62 hlr r63 hln).mono ?_
  rintro e w9 ⟨A9, d9, A9b, d9b, rfl, o9, o9b, -, hb9⟩
  have T66 := below_then T59 hb9
  have c67 : w9.cell? ⟨w1.heap.size, 0, none⟩ = some (.slice A0 rs.length c0) := (hb9.cell (p := ⟨w1.heap.size, 0, none⟩) l61).trans c60
  have l68 : w1.heap.size < w9.heap.size := Nat.lt_of_lt_of_le l61 hb9.size
  have r69 := r62.to hb9
  have r70 := r63.to hb9
  have r71 := r64.to hb9
  have r72 := r65.to hb9
  rw [HN.out]
  rw [HB.out]
  rw [HQ.out]
  rw [HR.out]
  rw [HZ1.out]
  rw [HZ2.out]
  have r73 : RD .i64 w9 w9.heap.size A9 (aoZ rs q) := by have := o9.rd; first | exact this | ((try rw [HN.out] at this); (try rw [HB.out] at this); (try rw [HQ.out] at this); (try rw [HR.out] at this); (try rw [HZ1.out] at this); (try rw [HZ2.out] at this); exact this)
  have r74 : RD .i64 w9 w9.heap.size A9b (aoZ rs r) := by have := o9b.rd; first | exact this | ((try rw [HN.out] at this); (try rw [HB.out] at this); (try rw [HQ.out] at this); (try rw [HR.out] at this); (try rw [HZ1.out] at this); (try rw [HZ2.out] at this); exact this)
  go_wp2_with fail
  refine (sameInts_yes A8 A9 d8 d9 (aoZ rs q) _ r71 r73 (Nat.le_trans (aoZ_len _ _) (by omega))).mono ?_
  rintro e w10 ⟨rfl, hb10⟩
  have T75 := below_then T66 hb10
  have c76 : w10.cell? ⟨w1.heap.size, 0, none⟩ = some (.slice A0 rs.length c0) := (hb10.cell (p := ⟨w1.heap.size, 0, none⟩) l68).trans c67
  have l77 : w1.heap.size < w10.heap.size := Nat.lt_of_lt_of_le l68 hb10.size
  have r78 := r69.to hb10
  have r79 := r70.to hb10
  have r80 := r71.to hb10
  have r81 := r72.to hb10
  have r82 := r73.to hb10
  have r83 := r74.to hb10
  go_wp2_with fail
  refine (sameInts_yes A8b A9b d8b d9b (aoZ rs r) _ r81 r83 (Nat.le_trans (aoZ_len _ _) (by omega))).mono ?_
  rintro e w11 ⟨rfl, hb11⟩
  have T84 := below_then T75 hb11
  have c85 : w11.cell? ⟨w1.heap.size, 0, none⟩ = some (.slice A0 rs.length c0) := (hb11.cell (p := ⟨w1.heap.size, 0, none⟩) l77).trans c76
  have l86 : w1.heap.size < w11.heap.size := Nat.lt_of_lt_of_le l77 hb11.size
  have r87 := r78.to hb11
  have r88 := r79.to hb11
  have r89 := r80.to hb11
  have r90 := r81.to hb11
  have r91 := r82.to hb11
  have r92 := r83.to hb11
  go_wp2_with fail
  refine (iAmountTimes_any A0 A8 c0 d8 rs (aoZ rs q) n _ r87 hlr r89 (Nat.le_trans (aoZ_len _ _) (by omega))).mono ?_
  rintro e w12 ⟨A12, d12, rfl, o12, hb12⟩
  have T93 := below_then T84 hb12
  have c94 : w12.cell? ⟨w1.heap.size, 0, none⟩ = some (.slice A0 rs.length c0) := (hb12.cell (p := ⟨w1.heap.size, 0, none⟩) l86).trans c85
  have l95 : w1.heap.size < w12.heap.size := Nat.lt_of_lt_of_le l86 hb12.size
  have r96 := r87.to hb12
  have r97 := r88.to hb12
  have r98 := r89.to hb12
  have r99 := r90.to hb12
  have r100 := r91.to hb12
  have r101 := r92.to hb12
  rw [HLQ.out]
  rw [HT.out]
  rw [HBT.out]
  have r102 : RD .i64 w12 w12.heap.size A12 (aoZ rs (n * q)) := by have := o12.rd; first | exact this | ((try rw [HLQ.out] at this); (try rw [HT.out] at this); (try rw [HBT.out] at this); exact this)
  go_wp2_with fail
  refine (iAmountAdd_any A0 A12 A8b c0 d12 d8b rs (aoZ rs (n * q)) (aoZ rs r)  _ r96 hlr r102 (Nat.le_trans (aoZ_len _ _) (by omega)) r99 (Nat.le_trans (aoZ_len _ _) (by omega))).mono ?_
  rintro e w13 ⟨A13, d13, rfl, o13, hb13⟩
  have T103 := below_then T93 hb13
  have c104 : w13.cell? ⟨w1.heap.size, 0, none⟩ = some (.slice A0 rs.length c0) := (hb13.cell (p := ⟨w1.heap.size, 0, none⟩) l95).trans c94
  have l105 : w1.heap.size < w13.heap.size := Nat.lt_of_lt_of_le l95 hb13.size
  have r106 := r96.to hb13
  have r107 := r97.to hb13
  have r108 := r98.to hb13
  have r109 := r99.to hb13
  have r110 := r100.to hb13
  have r111 := r101.to hb13
  have r112 := r102.to hb13
  rw [HLT.out]
  rw [HLR.out]
  rw [HAD.out]
  rw [HBN.out]
  have r113 : RD .i64 w13 w13.heap.size A13 (aoZ rs N) := by have := o13.rd; first | exact this | ((try rw [HLT.out] at this); (try rw [HLR.out] at this); (try rw [HAD.out] at this); (try rw [HBN.out] at this); exact this)
  go_wp2_with fail
  refine (iAmountProper_any A0 B0 c0 d0 rs ns  _ r106 hlr r107 hln).mono ?_
  rintro e w14 ⟨A14, d14, rfl, o14, hb14⟩
  have T114 := below_then T103 hb14
  have c115 : w14.cell? ⟨w1.heap.size, 0, none⟩ = some (.slice A0 rs.length c0) := (hb14.cell (p := ⟨w1.heap.size, 0, none⟩) l105).trans c104
  have l116 : w1.heap.size < w14.heap.size := Nat.lt_of_lt_of_le l105 hb14.size
  have r117 := r106.to hb14
  have r118 := r107.to hb14
  have r119 := r108.to hb14
  have r120 := r109.to hb14
  have r121 := r110.to hb14
  have r122 := r111.to hb14
  have r123 := r112.to hb14
  have r124 := r113.to hb14
  rw [HN.out]
  rw [HBN.out]
  have r125 : RD .i64 w14 w14.heap.size A14 (aoZ rs N) := by have := o14.rd; first | exact this | ((try rw [HN.out] at this); (try rw [HBN.out] at this); exact this)
  go_wp2_with fail
  refine (iAmountLeast_any A0 A8b c0 d8b rs (aoZ rs r)  _ r117 hlr r120 (Nat.le_trans (aoZ_len _ _) (by omega))).mono ?_
  rintro e w15 ⟨rfl, hb15⟩
  have T126 := below_then T114 hb15
  have c127 : w15.cell? ⟨w1.heap.size, 0, none⟩ = some (.slice A0 rs.length c0) := (hb15.cell (p := ⟨w1.heap.size, 0, none⟩) l116).trans c115
  have l128 : w1.heap.size < w15.heap.size := Nat.lt_of_lt_of_le l116 hb15.size
  have r129 := r117.to hb15
  have r130 := r118.to hb15
  have r131 := r119.to hb15
  have r132 := r120.to hb15
  have r133 := r121.to hb15
  have r134 := r122.to hb15
  have r135 := r123.to hb15
  have r136 := r124.to hb15
  have r137 := r125.to hb15
  rw [HLR.out]
  go_wp2_with fail
  refine (sameInts_yes A13 A14 d13 d14 (aoZ rs N) _ r136 r137 (Nat.le_trans (aoZ_len _ _) (by omega))).mono ?_
  rintro e w16 ⟨rfl, hb16⟩
  have T138 := below_then T126 hb16
  have c139 : w16.cell? ⟨w1.heap.size, 0, none⟩ = some (.slice A0 rs.length c0) := (hb16.cell (p := ⟨w1.heap.size, 0, none⟩) l128).trans c127
  have l140 : w1.heap.size < w16.heap.size := Nat.lt_of_lt_of_le l128 hb16.size
  have r141 := r129.to hb16
  have r142 := r130.to hb16
  have r143 := r131.to hb16
  have r144 := r132.to hb16
  have r145 := r133.to hb16
  have r146 := r134.to hb16
  have r147 := r135.to hb16
  have r148 := r136.to hb16
  have r149 := r137.to hb16
  go_wp2_with fail
  go_ret
  exact ⟨rfl, T138⟩

end Go.Proofs.Ytmcooaopbigebab
