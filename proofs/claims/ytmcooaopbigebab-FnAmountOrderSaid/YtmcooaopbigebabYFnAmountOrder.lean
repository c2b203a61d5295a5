/- The walk of the law FnAmountOrder. No condition. -/
import Derived.Test.YtmcooaopbigebabDrwD
namespace Go.Proofs.Ytmcooaopbigebab
open Go.RowKit
set_option linter.unusedVariables false

set_option maxRecDepth 100000 in
set_option maxHeartbeats 4000000 in
theorem walkFnAmountOrder (a : Option Addr) (len cap : Nat) (zs : List Int) (w : World) (hs : Sl .u8 w a len cap zs) :
    Calls Try.prog 10 #[.slice a len cap] w fun e w' => e = .returned (.bool true) ∧ Below w.heap.size w w' := by
  have HS := Lib.hid hs
  obtain ⟨-, hlc, hcm, -, -⟩ := hs
  unfold maxLen at hcm
  by_cases hbig : len ≤ 1048576
  case neg =>
    have hbig' : decide (1048576 < len) = true := by simp; omega
    go_enter Try.func10, Try.ntmps10
    go_wp2_with fail
    go_ret
    exact ⟨rfl, Below.refl _ _⟩
  go_enter Try.func10, Try.ntmps10
  go_wp2_with fail
  refine (drawAmountOrder_any a len cap zs _ HS.out).mono ?_
  rintro e w1 ⟨rs, ns, ms, A0, B0, C0, c0, d0, e0, ⟨hrl, hrb⟩, ⟨hnl, hnb⟩, ⟨hml, hmb⟩, rfl, ⟨r0, -⟩, ⟨n0, -⟩, ⟨m0, -⟩, hb1⟩
  have hlr : rs.length ≤ 1048576 := by omega
  have hln : ns.length ≤ 1048576 := by omega
  have hlm : ms.length ≤ 1048576 := by omega
  clear hrb hnb hmb
  go_wp2_with fail
  have n1 := below_new w1 (.cells #[.slice A0 rs.length c0] 28)
  have T2 := below_then hb1 n1
  have r3 := r0.to n1
  have r4 := n0.to n1
  have r5 := m0.to n1
  have c6 : (w1.alloc (.cells #[.slice A0 rs.length c0] 28)).cell? ⟨w1.heap.size, 0, none⟩ = some (.slice A0 rs.length c0) := box_cell _ _ _
  have l7 : w1.heap.size < (w1.alloc (.cells #[.slice A0 rs.length c0] 28)).heap.size := by simp
  obtain ⟨N, hN⟩ : ∃ N, lst rs ns = N := ⟨_, rfl⟩
  have HN := Lib.hid hN
  have hbd := lst_bd rs ns
  rw [hN] at hbd
  clear hN
  obtain ⟨M, hM⟩ : ∃ M, lst rs ms = M := ⟨_, rfl⟩
  have HM := Lib.hid hM
  have hbdm := lst_bd rs ms
  rw [hM] at hbdm
  clear hM
  have HVL := Lib.hid (fun h => (lst_vld (rs := rs) (list := ns) h).1)
  rw [HN.out] at HVL
  by_cases hok : 0 ≤ N ∧ 0 ≤ M
  case neg =>
    have HNG := Lib.hid (show (nng N && nng M) = false by rw [Bool.eq_false_iff]; intro h; rw [Bool.and_eq_true] at h; exact hok ⟨nng_true h.1, nng_true h.2⟩)
    have HO := Lib.hid (ordN_no hok)
    clear hok
    refine (iAmountOrder_any A0 B0 C0 c0 d0 e0 rs ns ms  _ r3 hlr r4 hln r5 hlm).mono ?_
    rintro e w2 ⟨rfl, hb2⟩
    have T8 := below_then T2 hb2
    have c9 : w2.cell? ⟨w1.heap.size, 0, none⟩ = some (.slice A0 rs.length c0) := (hb2.cell (p := ⟨w1.heap.size, 0, none⟩) l7).trans c6
    have l10 : w1.heap.size < w2.heap.size := Nat.lt_of_lt_of_le l7 hb2.size
    have r11 := r3.to hb2
    have r12 := r4.to hb2
    have r13 := r5.to hb2
    rw [HN.out]
    rw [HM.out]
    rw [HNG.out]
    rw [HO.out]
    go_wp2_with fail
    refine (sAmountOrder_any A0 B0 C0 c0 d0 e0 rs ns ms  _ r11 hlr r12 hln r13 hlm).mono ?_
    rintro e w3 ⟨rfl, hb3⟩
    have T14 := below_then T8 hb3
    have c15 : w3.cell? ⟨w1.heap.size, 0, none⟩ = some (.slice A0 rs.length c0) := (hb3.cell (p := ⟨w1.heap.size, 0, none⟩) l10).trans c9
    have l16 : w1.heap.size < w3.heap.size := Nat.lt_of_lt_of_le l10 hb3.size
    have r17 := r11.to hb3
    have r18 := r12.to hb3
    have r19 := r13.to hb3
    rw [HN.out]
    rw [HM.out]
    rw [HNG.out]
    rw [HO.out]
    go_wp2_with fail
    go_ret
    exact ⟨rfl, T14⟩
  obtain ⟨hp, hq⟩ := hok
  have HV := Lib.hid (HVL.out hp)
  have HNG := Lib.hid (show (nng N && nng M) = true by rw [nng_yes hp, nng_yes hq]; rfl)
  have HNG2 := Lib.hid (show (nng M && nng N) = true by rw [nng_yes hp, nng_yes hq]; rfl)
  have HBN := Lib.hid (aoB_yes HV.out hp hbd.2)
  have HBM := Lib.hid (aoB_yes HV.out hq hbdm.2)
  have HTK := Lib.hid (show takeN N M = N - M from if_pos ⟨hp, hq⟩)
  rcases Int.lt_or_le N M with hlt | hge
  · skip
    have HO := Lib.hid (show ordN N M = -1 from ordN_lt hp hq hlt)
    have HO2 := Lib.hid (show ordN M N = 1 from ordN_gt hq hp hlt)
    have HT := Lib.hid (show aoB rs (N - M) = false from aoB_bad (.inl (by omega)))
    refine (iAmountOrder_any A0 B0 C0 c0 d0 e0 rs ns ms  _ r3 hlr r4 hln r5 hlm).mono ?_
    rintro e w4 ⟨rfl, hb4⟩
    have T20 := below_then T2 hb4
    have c21 : w4.cell? ⟨w1.heap.size, 0, none⟩ = some (.slice A0 rs.length c0) := (hb4.cell (p := ⟨w1.heap.size, 0, none⟩) l7).trans c6
    have l22 : w1.heap.size < w4.heap.size := Nat.lt_of_lt_of_le l7 hb4.size
    have r23 := r3.to hb4
    have r24 := r4.to hb4
    have r25 := r5.to hb4
    rw [HN.out]
    rw [HM.out]
    rw [HNG.out]
    rw [HO.out]
    go_wp2_with fail
    refine (sAmountOrder_any A0 B0 C0 c0 d0 e0 rs ns ms  _ r23 hlr r24 hln r25 hlm).mono ?_
    rintro e w5 ⟨rfl, hb5⟩
    have T26 := below_then T20 hb5
    have c27 : w5.cell? ⟨w1.heap.size, 0, none⟩ = some (.slice A0 rs.length c0) := (hb5.cell (p := ⟨w1.heap.size, 0, none⟩) l22).trans c21
    have l28 : w1.heap.size < w5.heap.size := Nat.lt_of_lt_of_le l22 hb5.size
    have r29 := r23.to hb5
    have r30 := r24.to hb5
    have r31 := r25.to hb5
    rw [HN.out]
    rw [HM.out]
    rw [HNG.out]
    rw [HO.out]
    go_wp2_with fail
    refine (iAmountOrder_any A0 C0 B0 c0 e0 d0 rs ms ns  _ r29 hlr r31 hlm r30 hln).mono ?_
    rintro e w6 ⟨rfl, hb6⟩
    have T32 := below_then T26 hb6
    have c33 : w6.cell? ⟨w1.heap.size, 0, none⟩ = some (.slice A0 rs.length c0) := (hb6.cell (p := ⟨w1.heap.size, 0, none⟩) l28).trans c27
    have l34 : w1.heap.size < w6.heap.size := Nat.lt_of_lt_of_le l28 hb6.size
    have r35 := r29.to hb6
    have r36 := r30.to hb6
    have r37 := r31.to hb6
    rw [HN.out]
    rw [HM.out]
    rw [HNG2.out]
    rw [HO2.out]
    go_wp2_with fail
    refine (iAmountProper_any A0 B0 c0 d0 rs ns  _ r35 hlr r36 hln).mono ?_
    rintro e w7 ⟨A7, d7, rfl, o7, hb7⟩
    have T38 := below_then T32 hb7
    have c39 : w7.cell? ⟨w1.heap.size, 0, none⟩ = some (.slice A0 rs.length c0) := (hb7.cell (p := ⟨w1.heap.size, 0, none⟩) l34).trans c33
    have l40 : w1.heap.size < w7.heap.size := Nat.lt_of_lt_of_le l34 hb7.size
    have r41 := r35.to hb7
    have r42 := r36.to hb7
    have r43 := r37.to hb7
    rw [HN.out]
    rw [HBN.out]
    have r44 : RD .i64 w7 w7.heap.size A7 (aoZ rs N) := by have := o7.rd; first | exact this | ((try rw [HN.out] at this); (try rw [HBN.out] at this); exact this)
    go_wp2_with fail
    refine (iAmountProper_any A0 C0 c0 e0 rs ms  _ r41 hlr r43 hlm).mono ?_
    rintro e w8 ⟨A8, d8, rfl, o8, hb8⟩
    have T45 := below_then T38 hb8
    have c46 : w8.cell? ⟨w1.heap.size, 0, none⟩ = some (.slice A0 rs.length c0) := (hb8.cell (p := ⟨w1.heap.size, 0, none⟩) l40).trans c39
    have l47 : w1.heap.size < w8.heap.size := Nat.lt_of_lt_of_le l40 hb8.size
    have r48 := r41.to hb8
    have r49 := r42.to hb8
    have r50 := r43.to hb8
    have r51 := r44.to hb8
    rw [HM.out]
    rw [HBM.out]
    have r52 : RD .i64 w8 w8.heap.size A8 (aoZ rs M) := by have := o8.rd; first | exact this | ((try rw [HM.out] at this); (try rw [HBM.out] at this); exact this)
    go_wp2_with fail
    refine (iAmountTake_any A0 B0 C0 c0 d0 e0 rs ns ms  _ r48 hlr r49 hln r50 hlm).mono ?_
    rintro e w9 ⟨A9, d9, rfl, o9, hb9⟩
    have T53 := below_then T45 hb9
    have c54 : w9.cell? ⟨w1.heap.size, 0, none⟩ = some (.slice A0 rs.length c0) := (hb9.cell (p := ⟨w1.heap.size, 0, none⟩) l47).trans c46
    have l55 : w1.heap.size < w9.heap.size := Nat.lt_of_lt_of_le l47 hb9.size
    have r56 := r48.to hb9
    have r57 := r49.to hb9
    have r58 := r50.to hb9
    have r59 := r51.to hb9
    have r60 := r52.to hb9
    rw [HN.out]
    rw [HM.out]
    rw [HTK.out]
    rw [HT.out]
    have r61 : RD .i64 w9 w9.heap.size A9 (aoZ rs (N - M)) := by have := o9.rd; first | exact this | ((try rw [HN.out] at this); (try rw [HM.out] at this); (try rw [HTK.out] at this); (try rw [HT.out] at this); exact this)
    go_wp2_with fail
    have HNE := Lib.hid (show aoZ rs N ≠ aoZ rs M from fun h => by rw [aoZ_yes HBN.out, aoZ_yes HBM.out] at h; have := prp_inj rs N M h; omega)
    refine (sameInts_no A7 A8 d7 d8 (aoZ rs N) (aoZ rs M) _ r59 r60 (Nat.le_trans (aoZ_len _ _) (by omega)) (Nat.le_trans (aoZ_len _ _) (by omega)) HNE.out).mono ?_
    rintro e w10 ⟨rfl, hb10⟩
    have T62 := below_then T53 hb10
    have c63 : w10.cell? ⟨w1.heap.size, 0, none⟩ = some (.slice A0 rs.length c0) := (hb10.cell (p := ⟨w1.heap.size, 0, none⟩) l55).trans c54
    have l64 : w1.heap.size < w10.heap.size := Nat.lt_of_lt_of_le l55 hb10.size
    have r65 := r56.to hb10
    have r66 := r57.to hb10
    have r67 := r58.to hb10
    have r68 := r59.to hb10
    have r69 := r60.to hb10
    have r70 := r61.to hb10
    go_wp2_with fail
    go_ret
    exact ⟨rfl, T62⟩
  · by_cases hEQ : M < N
    · skip
      have HO := Lib.hid (show ordN N M = 1 from ordN_gt hp hq hEQ)
      have HO2 := Lib.hid (show ordN M N = -1 from ordN_lt hq hp hEQ)
      have HT := Lib.hid (show aoB rs (N - M) = true from aoB_yes HV.out (by omega) (by omega))
      refine (iAmountOrder_any A0 B0 C0 c0 d0 e0 rs ns ms  _ r3 hlr r4 hln r5 hlm).mono ?_
      rintro e w11 ⟨rfl, hb11⟩
      have T71 := below_then T2 hb11
      have c72 : w11.cell? ⟨w1.heap.size, 0, none⟩ = some (.slice A0 rs.length c0) := (hb11.cell (p := ⟨w1.heap.size, 0, none⟩) l7).trans c6
      have l73 : w1.heap.size < w11.heap.size := Nat.lt_of_lt_of_le l7 hb11.size
      have r74 := r3.to hb11
      have r75 := r4.to hb11
      have r76 := r5.to hb11
      rw [HN.out]
      rw [HM.out]
      rw [HNG.out]
      rw [HO.out]
      go_wp2_with fail
      refine (sAmountOrder_any A0 B0 C0 c0 d0 e0 rs ns ms  _ r74 hlr r75 hln r76 hlm).mono ?_
      rintro e w12 ⟨rfl, hb12⟩
      have T77 := below_then T71 hb12
      have c78 : w12.cell? ⟨w1.heap.size, 0, none⟩ = some (.slice A0 rs.length c0) := (hb12.cell (p := ⟨w1.heap.size, 0, none⟩) l73).trans c72
      have l79 : w1.heap.size < w12.heap.size := Nat.lt_of_lt_of_le l73 hb12.size
      have r80 := r74.to hb12
      have r81 := r75.to hb12
      have r82 := r76.to hb12
      rw [HN.out]
      rw [HM.out]
      rw [HNG.out]
      rw [HO.out]
      go_wp2_with fail
      refine (iAmountOrder_any A0 C0 B0 c0 e0 d0 rs ms ns  _ r80 hlr r82 hlm r81 hln).mono ?_
      rintro e w13 ⟨rfl, hb13⟩
      have T83 := below_then T77 hb13
      have c84 : w13.cell? ⟨w1.heap.size, 0, none⟩ = some (.slice A0 rs.length c0) := (hb13.cell (p := ⟨w1.heap.size, 0, none⟩) l79).trans c78
      have l85 : w1.heap.size < w13.heap.size := Nat.lt_of_lt_of_le l79 hb13.size
      have r86 := r80.to hb13
      have r87 := r81.to hb13
      have r88 := r82.to hb13
      rw [HN.out]
      rw [HM.out]
      rw [HNG2.out]
      rw [HO2.out]
      go_wp2_with fail
      refine (iAmountProper_any A0 B0 c0 d0 rs ns  _ r86 hlr r87 hln).mono ?_
      rintro e w14 ⟨A14, d14, rfl, o14, hb14⟩
      have T89 := below_then T83 hb14
      have c90 : w14.cell? ⟨w1.heap.size, 0, none⟩ = some (.slice A0 rs.length c0) := (hb14.cell (p := ⟨w1.heap.size, 0, none⟩) l85).trans c84
      have l91 : w1.heap.size < w14.heap.size := Nat.lt_of_lt_of_le l85 hb14.size
      have r92 := r86.to hb14
      have r93 := r87.to hb14
      have r94 := r88.to hb14
      rw [HN.out]
      rw [HBN.out]
      have r95 : RD .i64 w14 w14.heap.size A14 (aoZ rs N) := by have := o14.rd; first | exact this | ((try rw [HN.out] at this); (try rw [HBN.out] at this); exact this)
      go_wp2_with fail
      refine (iAmountProper_any A0 C0 c0 e0 rs ms  _ r92 hlr r94 hlm).mono ?_
      rintro e w15 ⟨A15, d15, rfl, o15, hb15⟩
      have T96 := below_then T89 hb15
      have c97 : w15.cell? ⟨w1.heap.size, 0, none⟩ = some (.slice A0 rs.length c0) := (hb15.cell (p := ⟨w1.heap.size, 0, none⟩) l91).trans c90
      have l98 : w1.heap.size < w15.heap.size := Nat.lt_of_lt_of_le l91 hb15.size
      have r99 := r92.to hb15
      have r100 := r93.to hb15
      have r101 := r94.to hb15
      have r102 := r95.to hb15
      rw [HM.out]
      rw [HBM.out]
      have r103 : RD .i64 w15 w15.heap.size A15 (aoZ rs M) := by have := o15.rd; first | exact this | ((try rw [HM.out] at this); (try rw [HBM.out] at this); exact this)
      go_wp2_with fail
      refine (iAmountTake_any A0 B0 C0 c0 d0 e0 rs ns ms  _ r99 hlr r100 hln r101 hlm).mono ?_
      rintro e w16 ⟨A16, d16, rfl, o16, hb16⟩
      have T104 := below_then T96 hb16
      have c105 : w16.cell? ⟨w1.heap.size, 0, none⟩ = some (.slice A0 rs.length c0) := (hb16.cell (p := ⟨w1.heap.size, 0, none⟩) l98).trans c97
      have l106 : w1.heap.size < w16.heap.size := Nat.lt_of_lt_of_le l98 hb16.size
      have r107 := r99.to hb16
      have r108 := r100.to hb16
      have r109 := r101.to hb16
      have r110 := r102.to hb16
      have r111 := r103.to hb16
      rw [HN.out]
      rw [HM.out]
      rw [HTK.out]
      rw [HT.out]
      have r112 : RD .i64 w16 w16.heap.size A16 (aoZ rs (N - M)) := by have := o16.rd; first | exact this | ((try rw [HN.out] at this); (try rw [HM.out] at this); (try rw [HTK.out] at this); (try rw [HT.out] at this); exact this)
      go_wp2_with fail
      have HNE := Lib.hid (show aoZ rs N ≠ aoZ rs M from fun h => by rw [aoZ_yes HBN.out, aoZ_yes HBM.out] at h; have := prp_inj rs N M h; omega)
      refine (sameInts_no A14 A15 d14 d15 (aoZ rs N) (aoZ rs M) _ r110 r111 (Nat.le_trans (aoZ_len _ _) (by omega)) (Nat.le_trans (aoZ_len _ _) (by omega)) HNE.out).mono ?_
      rintro e w17 ⟨rfl, hb17⟩
      have T113 := below_then T104 hb17
      have c114 : w17.cell? ⟨w1.heap.size, 0, none⟩ = some (.slice A0 rs.length c0) := (hb17.cell (p := ⟨w1.heap.size, 0, none⟩) l106).trans c105
      have l115 : w1.heap.size < w17.heap.size := Nat.lt_of_lt_of_le l106 hb17.size
      have r116 := r107.to hb17
      have r117 := r108.to hb17
      have r118 := r109.to hb17
      have r119 := r110.to hb17
      have r120 := r111.to hb17
      have r121 := r112.to hb17
      go_wp2_with fail
      go_ret
      exact ⟨rfl, T113⟩
    · obtain rfl : N = M := by omega
      skip
      have HO := Lib.hid (show ordN N N = 0 from ordN_eq hp hq (by omega) (by omega))
      have HO2 := Lib.hid (show ordN N N = 0 from ordN_eq hp hq (by omega) (by omega))
      have HT := Lib.hid (show aoB rs (N - N) = true from aoB_yes HV.out (by omega) (by omega))
      refine (iAmountOrder_any A0 B0 C0 c0 d0 e0 rs ns ms  _ r3 hlr r4 hln r5 hlm).mono ?_
      rintro e w18 ⟨rfl, hb18⟩
      have T122 := below_then T2 hb18
      have c123 : w18.cell? ⟨w1.heap.size, 0, none⟩ = some (.slice A0 rs.length c0) := (hb18.cell (p := ⟨w1.heap.size, 0, none⟩) l7).trans c6
      have l124 : w1.heap.size < w18.heap.size := Nat.lt_of_lt_of_le l7 hb18.size
      have r125 := r3.to hb18
      have r126 := r4.to hb18
      have r127 := r5.to hb18
      rw [HN.out]
      rw [HM.out]
      rw [HNG.out]
      rw [HO.out]
      go_wp2_with fail
      refine (sAmountOrder_any A0 B0 C0 c0 d0 e0 rs ns ms  _ r125 hlr r126 hln r127 hlm).mono ?_
      rintro e w19 ⟨rfl, hb19⟩
      have T128 := below_then T122 hb19
      have c129 : w19.cell? ⟨w1.heap.size, 0, none⟩ = some (.slice A0 rs.length c0) := (hb19.cell (p := ⟨w1.heap.size, 0, none⟩) l124).trans c123
      have l130 : w1.heap.size < w19.heap.size := Nat.lt_of_lt_of_le l124 hb19.size
      have r131 := r125.to hb19
      have r132 := r126.to hb19
      have r133 := r127.to hb19
      rw [HN.out]
      rw [HM.out]
      rw [HNG.out]
      rw [HO.out]
      go_wp2_with fail
      refine (iAmountOrder_any A0 C0 B0 c0 e0 d0 rs ms ns  _ r131 hlr r133 hlm r132 hln).mono ?_
      rintro e w20 ⟨rfl, hb20⟩
      have T134 := below_then T128 hb20
      have c135 : w20.cell? ⟨w1.heap.size, 0, none⟩ = some (.slice A0 rs.length c0) := (hb20.cell (p := ⟨w1.heap.size, 0, none⟩) l130).trans c129
      have l136 : w1.heap.size < w20.heap.size := Nat.lt_of_lt_of_le l130 hb20.size
      have r137 := r131.to hb20
      have r138 := r132.to hb20
      have r139 := r133.to hb20
      rw [HN.out]
      rw [HM.out]
      rw [HNG2.out]
      rw [HO2.out]
      go_wp2_with fail
      refine (iAmountProper_any A0 B0 c0 d0 rs ns  _ r137 hlr r138 hln).mono ?_
      rintro e w21 ⟨A21, d21, rfl, o21, hb21⟩
      have T140 := below_then T134 hb21
      have c141 : w21.cell? ⟨w1.heap.size, 0, none⟩ = some (.slice A0 rs.length c0) := (hb21.cell (p := ⟨w1.heap.size, 0, none⟩) l136).trans c135
      have l142 : w1.heap.size < w21.heap.size := Nat.lt_of_lt_of_le l136 hb21.size
      have r143 := r137.to hb21
      have r144 := r138.to hb21
      have r145 := r139.to hb21
      rw [HN.out]
      rw [HBN.out]
      have r146 : RD .i64 w21 w21.heap.size A21 (aoZ rs N) := by have := o21.rd; first | exact this | ((try rw [HN.out] at this); (try rw [HBN.out] at this); exact this)
      go_wp2_with fail
      refine (iAmountProper_any A0 C0 c0 e0 rs ms  _ r143 hlr r145 hlm).mono ?_
      rintro e w22 ⟨A22, d22, rfl, o22, hb22⟩
      have T147 := below_then T140 hb22
      have c148 : w22.cell? ⟨w1.heap.size, 0, none⟩ = some (.slice A0 rs.length c0) := (hb22.cell (p := ⟨w1.heap.size, 0, none⟩) l142).trans c141
      have l149 : w1.heap.size < w22.heap.size := Nat.lt_of_lt_of_le l142 hb22.size
      have r150 := r143.to hb22
      have r151 := r144.to hb22
      have r152 := r145.to hb22
      have r153 := r146.to hb22
      rw [HM.out]
      rw [HBM.out]
      have r154 : RD .i64 w22 w22.heap.size A22 (aoZ rs N) := by have := o22.rd; first | exact this | ((try rw [HM.out] at this); (try rw [HBM.out] at this); exact this)
      go_wp2_with fail
      refine (iAmountTake_any A0 B0 C0 c0 d0 e0 rs ns ms  _ r150 hlr r151 hln r152 hlm).mono ?_
      rintro e w23 ⟨A23, d23, rfl, o23, hb23⟩
      have T155 := below_then T147 hb23
      have c156 : w23.cell? ⟨w1.heap.size, 0, none⟩ = some (.slice A0 rs.length c0) := (hb23.cell (p := ⟨w1.heap.size, 0, none⟩) l149).trans c148
      have l157 : w1.heap.size < w23.heap.size := Nat.lt_of_lt_of_le l149 hb23.size
      have r158 := r150.to hb23
      have r159 := r151.to hb23
      have r160 := r152.to hb23
      have r161 := r153.to hb23
      have r162 := r154.to hb23
      rw [HN.out]
      rw [HM.out]
      rw [HTK.out]
      rw [HT.out]
      have r163 : RD .i64 w23 w23.heap.size A23 (aoZ rs (N - N)) := by have := o23.rd; first | exact this | ((try rw [HN.out] at this); (try rw [HM.out] at this); (try rw [HTK.out] at this); (try rw [HT.out] at this); exact this)
      go_wp2_with fail
      refine (sameInts_yes A21 A22 d21 d22 (aoZ rs N) _ r161 r162 (Nat.le_trans (aoZ_len _ _) (by omega))).mono ?_
      rintro e w24 ⟨rfl, hb24⟩
      have T164 := below_then T155 hb24
      have c165 : w24.cell? ⟨w1.heap.size, 0, none⟩ = some (.slice A0 rs.length c0) := (hb24.cell (p := ⟨w1.heap.size, 0, none⟩) l157).trans c156
      have l166 : w1.heap.size < w24.heap.size := Nat.lt_of_lt_of_le l157 hb24.size
      have r167 := r158.to hb24
      have r168 := r159.to hb24
      have r169 := r160.to hb24
      have r170 := r161.to hb24
      have r171 := r162.to hb24
      have r172 := r163.to hb24
      go_wp2_with fail
      go_ret
      exact ⟨rfl, T164⟩

end Go.Proofs.Ytmcooaopbigebab
