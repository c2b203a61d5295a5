/- The walk of the law FnAmountTake. No condition. -/
import Derived.Test.YtmcooaopbigebabLawK
namespace Go.Proofs.Ytmcooaopbigebab
open Go.RowKit
set_option linter.unusedVariables false

set_option maxRecDepth 100000 in
set_option maxHeartbeats 4000000 in
theorem walkFnAmountTake (a : Option Addr) (len cap : Nat) (zs : List Int) (w : World) (hs : Sl .u8 w a len cap zs) :
    Calls Try.prog 12 #[.slice a len cap] w fun e w' => e = .returned (.bool true) ∧ Below w.heap.size w w' := by
  have HS := Lib.hid hs
  obtain ⟨-, hlc, hcm, -, -⟩ := hs
  unfold maxLen at hcm
  by_cases hbig : len ≤ 1048576
  case neg =>
    have hbig' : decide (1048576 < len) = true := by simp; omega
    go_enter Try.func12, Try.ntmps12
    go_wp2_with fail
    go_ret
    exact ⟨rfl, Below.refl _ _⟩
  go_enter Try.func12, Try.ntmps12
  go_wp2_with fail
  refine (drawAmountTake_any a len cap zs _ HS.out).mono ?_
  rintro e w1 ⟨rs, ns, ms, A0, B0, C0, c0, d0, e0, ⟨hrl, hrb⟩, ⟨hnl, hnb⟩, ⟨hml, hmb⟩, rfl, ⟨r0, -⟩, ⟨n0, -⟩, ⟨m0, -⟩, hb1⟩
  have HRB := Lib.hid hrb
  have HNB := Lib.hid hnb
  have HMB := Lib.hid hmb
  clear hrb hnb hmb
  have hlr : rs.length ≤ 1048576 := by omega
  have hln : ns.length ≤ 1048576 := by omega
  have hlm : ms.length ≤ 1048576 := by omega
  go_wp2_with fail
  have n1 := below_new w1 (.cells #[.slice A0 rs.length c0] 28)
  have T2 := below_then hb1 n1
  have r3 := r0.to n1
  have r4 := n0.to n1
  have r5 := m0.to n1
  have c6 : (w1.alloc (.cells #[.slice A0 rs.length c0] 28)).cell? ⟨w1.heap.size, 0, none⟩ = some (.slice A0 rs.length c0) := box_cell _ _ _
  have l7 : w1.heap.size < (w1.alloc (.cells #[.slice A0 rs.length c0] 28)).heap.size := by simp
  obtain ⟨N, hN⟩ : ∃ N, lst rs ns = N := ⟨_, rfl⟩
  have HN := Lib.hid hN
  have hbd := lst_bd rs ns
  rw [hN] at hbd
  clear hN
  obtain ⟨M, hM⟩ : ∃ M, lst rs ms = M := ⟨_, rfl⟩
  have HM := Lib.hid hM
  have hbdm := lst_bd rs ms
  rw [hM] at hbdm
  clear hM
  by_cases hok : aoB rs (takeN N M) = true
  case neg =>
    have HB := Lib.hid (Bool.eq_false_iff.2 hok)
    refine (iAmountTake_any A0 B0 C0 c0 d0 e0 rs ns ms  _ r3 hlr r4 hln r5 hlm).mono ?_
    rintro e w2 ⟨A2, d2, rfl, o2, hb2⟩
    have T8 := below_then T2 hb2
    have c9 : w2.cell? ⟨w1.heap.size, 0, none⟩ = some (.slice A0 rs.length c0) := (hb2.cell (p := ⟨w1.heap.size, 0, none⟩) l7).trans c6
    have l10 : w1.heap.size < w2.heap.size := Nat.lt_of_lt_of_le l7 hb2.size
    have r11 := r3.to hb2
    have r12 := r4.to hb2
    have r13 := r5.to hb2
    rw [HN.out]
    rw [HM.out]
    rw [HB.out]
    have r14 : RD .i64 w2 w2.heap.size A2 (aoZ rs (takeN N M)) := by have := o2.rd; first | exact this | ((try rw [HN.out] at this); (try rw [HM.out] at this); (try rw [HB.out] at this); exact this)
    go_wp2_with fail
    refine (sAmountTake_any A0 B0 C0 c0 d0 e0 rs ns ms  _ r11 hlr r12 hln r13 hlm).mono ?_
    rintro e w3 ⟨A3, d3, rfl, o3, hb3⟩
    have T15 := below_then T8 hb3
    have c16 : w3.cell? ⟨w1.heap.size, 0, none⟩ = some (.slice A0 rs.length c0) := (hb3.cell (p := ⟨w1.heap.size, 0, none⟩) l10).trans c9
    have l17 : w1.heap.size < w3.heap.size := Nat.lt_of_lt_of_le l10 hb3.size
    have r18 := r11.to hb3
    have r19 := r12.to hb3
    have r20 := r13.to hb3
    have r21 := r14.to hb3
    rw [HN.out]
    rw [HM.out]
    rw [HB.out]
    have r22 : RD .i64 w3 w3.heap.size A3 (aoZ rs (takeN N M)) := by have := o3.rd; first | exact this | ((try rw [HN.out] at this); (try rw [HM.out] at this); (try rw [HB.out] at this); exact this)
    go_wp2_with fail
    refine (sameInts_yes A2 A3 d2 d3 (aoZ rs (takeN N M)) _ r21 r22 (Nat.le_trans (aoZ_len _ _) (by omega))).mono ?_
    rintro e w4 ⟨rfl, hb4⟩
    have T23 := below_then T15 hb4
    have c24 : w4.cell? ⟨w1.heap.size, 0, none⟩ = some (.slice A0 rs.length c0) := (hb4.cell (p := ⟨w1.heap.size, 0, none⟩) l17).trans c16
    have l25 : w1.heap.size < w4.heap.size := Nat.lt_of_lt_of_le l17 hb4.size
    have r26 := r18.to hb4
    have r27 := r19.to hb4
    have r28 := r20.to hb4
    have r29 := r21.to hb4
    have r30 := r22.to hb4
    go_wp2_with fail
    refine (sameInts_yes A2 A3 d2 d3 (aoZ rs (takeN N M)) _ r29 r30 (Nat.le_trans (aoZ_len _ _) (by omega))).mono ?_
    rintro e w5 ⟨rfl, hb5⟩
    have T31 := below_then T23 hb5
    have c32 : w5.cell? ⟨w1.heap.size, 0, none⟩ = some (.slice A0 rs.length c0) := (hb5.cell (p := ⟨w1.heap.size, 0, none⟩) l25).trans c24
    have l33 : w1.heap.size < w5.heap.size := Nat.lt_of_lt_of_le l25 hb5.size
    have r34 := r26.to hb5
    have r35 := r27.to hb5
    have r36 := r28.to hb5
    have r37 := r29.to hb5
    have r38 := r30.to hb5
    go_wp2_with fail
    go_ret
    exact ⟨rfl, T31⟩
  have HB := Lib.hid hok
  obtain ⟨hv, hs0, hs1⟩ := aoB_iff.1 hok
  have HV := Lib.hid hv
  clear hok hv
  obtain ⟨hp, hq, hsum⟩ := takeN_inv hs0
  have HSUM := Lib.hid hsum
  clear hsum
  obtain ⟨S, hS⟩ : ∃ S, takeN N M = S := ⟨_, rfl⟩
  have HSE := Lib.hid hS
  have HSN := Lib.hid (show S = N - M by rw [← hS]; exact HSUM.out)
  rw [hS] at hs0 hs1
  have HBS := Lib.hid (show aoB rs S = true by rw [← hS]; exact HB.out)
  clear hS
  have HL := Lib.hid (show lst rs (aoZ rs S) = S by rw [aoZ_yes HBS.out]; exact lst_prp rs S HV.out hs0 hs1)
  have HA2 := Lib.hid (show addN S M = N by rw [addN, if_pos ⟨hs0, hq⟩, HSN.out]; omega)
  have HBN := Lib.hid (aoB_yes HV.out hp hbd.2)
  have hord := ordN_ge hp hq (show M ≤ N by have := HSN.out; omega)
  have HG1 := Lib.hid (nng_yes hp)
  have HG2 := Lib.hid (nng_yes hq)
  have hoz : (ordN N M == 0) = (S == 0) := ordN_zero hp hq HSN.out
  have HOZ := Lib.hid hoz
  clear hoz
  obtain ⟨O, hO⟩ : ∃ O, ordN N M = O := ⟨_, rfl⟩
  rw [hO] at HOZ hord
  have HOO := Lib.hid hO
  clear hO
  refine (iAmountTake_any A0 B0 C0 c0 d0 e0 rs ns ms  _ r3 hlr r4 hln r5 hlm).mono ?_
  rintro e w6 ⟨A6, d6, rfl, o6, hb6⟩
  have T39 := below_then T2 hb6
  have c40 : w6.cell? ⟨w1.heap.size, 0, none⟩ = some (.slice A0 rs.length c0) := (hb6.cell (p := ⟨w1.heap.size, 0, none⟩) l7).trans c6
  have l41 : w1.heap.size < w6.heap.size := Nat.lt_of_lt_of_le l7 hb6.size
  have r42 := r3.to hb6
  have r43 := r4.to hb6
  have r44 := r5.to hb6
  rw [HN.out]
  rw [HM.out]
  rw [HSE.out]
  rw [HBS.out]
  have r45 : RD .i64 w6 w6.heap.size A6 (aoZ rs S) := by have := o6.rd; first | exact this | ((try rw [HN.out] at this); (try rw [HM.out] at this); (try rw [HSE.out] at this); (try rw [HBS.out] at this); exact this)
  go_wp2_with fail
  refine (sAmountTake_any A0 B0 C0 c0 d0 e0 rs ns ms  _ r42 hlr r43 hln r44 hlm).mono ?_
  rintro e w7 ⟨A7, d7, rfl, o7, hb7⟩
  have T46 := below_then T39 hb7
  have c47 : w7.cell? ⟨w1.heap.size, 0, none⟩ = some (.slice A0 rs.length c0) := (hb7.cell (p := ⟨w1.heap.size, 0, none⟩) l41).trans c40
  have l48 : w1.heap.size < w7.heap.size := Nat.lt_of_lt_of_le l41 hb7.size
  have r49 := r42.to hb7
  have r50 := r43.to hb7
  have r51 := r44.to hb7
  have r52 := r45.to hb7
  rw [HN.out]
  rw [HM.out]
  rw [HSE.out]
  rw [HBS.out]
  have r53 : RD .i64 w7 w7.heap.size A7 (aoZ rs S) := by have := o7.rd; first | exact this | ((try rw [HN.out] at this); (try rw [HM.out] at this); (try rw [HSE.out] at this); (try rw [HBS.out] at this); exact this)
  go_wp2_with fail
  refine (sameInts_yes A6 A7 d6 d7 (aoZ rs S) _ r52 r53 (Nat.le_trans (aoZ_len _ _) (by omega))).mono ?_
  rintro e w8 ⟨rfl, hb8⟩
  have T54 := below_then T46 hb8
  have c55 : w8.cell? ⟨w1.heap.size, 0, none⟩ = some (.slice A0 rs.length c0) := (hb8.cell (p := ⟨w1.heap.size, 0, none⟩) l48).trans c47
  have l56 : w1.heap.size < w8.heap.size := Nat.lt_of_lt_of_le l48 hb8.size
  have r57 := r49.to hb8
  have r58 := r50.to hb8
  have r59 := r51.to hb8
  have r60 := r52.to hb8
  have r61 := r53.to hb8
  go_wp2_with fail
  refine (iAmountAdd_any A0 A6 C0 c0 d6 e0 rs (aoZ rs S) ms  _ r57 hlr r60 (Nat.le_trans (aoZ_len _ _) (by omega)) r59 hlm).mono ?_
  rintro e w9 ⟨A9, d9, rfl, o9, hb9⟩
  have T62 := below_then T54 hb9
  have c63 : w9.cell? ⟨w1.heap.size, 0, none⟩ = some (.slice A0 rs.length c0) := (hb9.cell (p := ⟨w1.heap.size, 0, none⟩) l56).trans c55
  have l64 : w1.heap.size < w9.heap.size := Nat.lt_of_lt_of_le l56 hb9.size
  have r65 := r57.to hb9
  have r66 := r58.to hb9
  have r67 := r59.to hb9
  have r68 := r60.to hb9
  have r69 := r61.to hb9
  rw [HL.out]
  rw [HM.out]
  rw [HA2.out]
  rw [HBN.out]
  have r70 : RD .i64 w9 w9.heap.size A9 (aoZ rs N) := by have := o9.rd; first | exact this | ((try rw [HL.out] at this); (try rw [HM.out] at this); (try rw [HA2.out] at this); (try rw [HBN.out] at this); exact this)
  go_wp2_with fail
  refine (iAmountProper_any A0 B0 c0 d0 rs ns  _ r65 hlr r66 hln).mono ?_
  rintro e w10 ⟨A10, d10, rfl, o10, hb10⟩
  have T71 := below_then T62 hb10
  have c72 : w10.cell? ⟨w1.heap.size, 0, none⟩ = some (.slice A0 rs.length c0) := (hb10.cell (p := ⟨w1.heap.size, 0, none⟩) l64).trans c63
  have l73 : w1.heap.size < w10.heap.size := Nat.lt_of_lt_of_le l64 hb10.size
  have r74 := r65.to hb10
  have r75 := r66.to hb10
  have r76 := r67.to hb10
  have r77 := r68.to hb10
  have r78 := r69.to hb10
  have r79 := r70.to hb10
  rw [HN.out]
  rw [HBN.out]
  have r80 : RD .i64 w10 w10.heap.size A10 (aoZ rs N) := by have := o10.rd; first | exact this | ((try rw [HN.out] at this); (try rw [HBN.out] at this); exact this)
  go_wp2_with fail
  refine (iAmountOrder_any A0 B0 C0 c0 d0 e0 rs ns ms  _ r74 hlr r75 hln r76 hlm).mono ?_
  rintro e w11 ⟨rfl, hb11⟩
  have T81 := below_then T71 hb11
  have c82 : w11.cell? ⟨w1.heap.size, 0, none⟩ = some (.slice A0 rs.length c0) := (hb11.cell (p := ⟨w1.heap.size, 0, none⟩) l73).trans c72
  have l83 : w1.heap.size < w11.heap.size := Nat.lt_of_lt_of_le l73 hb11.size
  have r84 := r74.to hb11
  have r85 := r75.to hb11
  have r86 := r76.to hb11
  have r87 := r77.to hb11
  have r88 := r78.to hb11
  have r89 := r79.to hb11
  have r90 := r80.to hb11
  rw [HN.out]
  rw [HM.out]
  rw [HG1.out]
  rw [HG2.out]
  rw [HOO.out]
  go_wp2_with fail
  refine (sameInts_yes A9 A10 d9 d10 (aoZ rs N) _ r89 r90 (Nat.le_trans (aoZ_len _ _) (by omega))).mono ?_
  rintro e w12 ⟨rfl, hb12⟩
  have T91 := below_then T81 hb12
  have c92 : w12.cell? ⟨w1.heap.size, 0, none⟩ = some (.slice A0 rs.length c0) := (hb12.cell (p := ⟨w1.heap.size, 0, none⟩) l83).trans c82
  have l93 : w1.heap.size < w12.heap.size := Nat.lt_of_lt_of_le l83 hb12.size
  have r94 := r84.to hb12
  have r95 := r85.to hb12
  have r96 := r86.to hb12
  have r97 := r87.to hb12
  have r98 := r88.to hb12
  have r99 := r89.to hb12
  have r100 := r90.to hb12
  go_wp2_with fail
  refine (iAmountLeast_any A0 A6 c0 d6 rs (aoZ rs S)  _ r94 hlr r97 (Nat.le_trans (aoZ_len _ _) (by omega))).mono ?_
  rintro e w13 ⟨rfl, hb13⟩
  have T101 := below_then T91 hb13
  have c102 : w13.cell? ⟨w1.heap.size, 0, none⟩ = some (.slice A0 rs.length c0) := (hb13.cell (p := ⟨w1.heap.size, 0, none⟩) l93).trans c92
  have l103 : w1.heap.size < w13.heap.size := Nat.lt_of_lt_of_le l93 hb13.size
  have r104 := r94.to hb13
  have r105 := r95.to hb13
  have r106 := r96.to hb13
  have r107 := r97.to hb13
  have r108 := r98.to hb13
  have r109 := r99.to hb13
  have r110 := r100.to hb13
  rw [HL.out]
  by_cases hS0 : S = 0
  · have t1 : (S == 0) = true := by simp [hS0]
    have t2 : (O == 0) = true := by rw [HOZ.out]; exact t1
    clear hS0
    go_wp2_with fail
    go_ret
    exact ⟨rfl, T101⟩
  · have t1 : (S == 0) = false := beq_eq_false_iff_ne.2 hS0
    have t2 : (O == 0) = false := by rw [HOZ.out]; exact t1
    clear hS0
    go_wp2_with fail
    go_ret
    exact ⟨rfl, T101⟩

end Go.Proofs.Ytmcooaopbigebab
