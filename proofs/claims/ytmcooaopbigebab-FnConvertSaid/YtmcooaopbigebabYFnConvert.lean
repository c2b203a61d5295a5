/- The walk of the law FnConvert. No condition. -/
import Derived.Test.YtmcooaopbigebabDrwD
namespace Go.Proofs.Ytmcooaopbigebab
open Go.RowKit
set_option linter.unusedVariables false

set_option maxRecDepth 100000 in
set_option maxHeartbeats 4000000 in
theorem walkFnConvert (a : Option Addr) (len cap : Nat) (zs : List Int) (w : World) (hs : Sl .u8 w a len cap zs) :
    Calls Try.prog 6 #[.slice a len cap] w fun e w' => e = .returned (.bool true) ∧ Below w.heap.size w w' := by
  have HS := Lib.hid hs
  obtain ⟨-, hlc, hcm, -, -⟩ := hs
  unfold maxLen at hcm
  by_cases hbig : len ≤ 1048576
  case neg =>
    have hbig' : decide (1048576 < len) = true := by simp; omega
    go_enter Try.func6, Try.ntmps6
    go_wp2_with fail
    go_ret
    exact ⟨rfl, Below.refl _ _⟩
  go_enter Try.func6, Try.ntmps6
  go_wp2_with fail
  refine (drawAmountConvert_any a len cap zs _ HS.out).mono ?_
  rintro e w1 ⟨rs, ns, ts, x, y, A0, B0, C0, c0, d0, e0, ⟨hrl, hrb⟩, ⟨hnl, hnb⟩, ⟨htl, htb⟩, hx0, hx1, hy0, hy1, rfl, ⟨r0, -⟩, ⟨n0, -⟩, ⟨t0, -⟩, hb1⟩
  have hlr : rs.length ≤ 1048576 := by omega
  have hln : ns.length ≤ 1048576 := by omega
  have hlt : ts.length ≤ 1048576 := by omega
  clear hrb hnb htb
  go_wp2_with fail
  have n1 := below_new w1 (.cells #[.slice A0 rs.length c0] 28)
  have T2 := below_then hb1 n1
  have r3 := r0.to n1
  have r4 := n0.to n1
  have r5 := t0.to n1
  have c6 : (w1.alloc (.cells #[.slice A0 rs.length c0] 28)).cell? ⟨w1.heap.size, 0, none⟩ = some (.slice A0 rs.length c0) := box_cell _ _ _
  have l7 : w1.heap.size < (w1.alloc (.cells #[.slice A0 rs.length c0] 28)).heap.size := by simp
  have n8 := below_new (w1.alloc (.cells #[.slice A0 rs.length c0] 28)) (.cells #[.slice C0 ts.length e0] 28)
  have T9 := below_then T2 n8
  have c10 : ((w1.alloc (.cells #[.slice A0 rs.length c0] 28)).alloc (.cells #[.slice C0 ts.length e0] 28)).cell? ⟨w1.heap.size, 0, none⟩ = some (.slice A0 rs.length c0) := (n8.cell (p := ⟨w1.heap.size, 0, none⟩) l7).trans c6
  have l11 : w1.heap.size < ((w1.alloc (.cells #[.slice A0 rs.length c0] 28)).alloc (.cells #[.slice C0 ts.length e0] 28)).heap.size := Nat.lt_of_lt_of_le l7 n8.size
  have r12 := r3.to n8
  have r13 := r4.to n8
  have r14 := r5.to n8
  have c15 : ((w1.alloc (.cells #[.slice A0 rs.length c0] 28)).alloc (.cells #[.slice C0 ts.length e0] 28)).cell? ⟨w1.heap.size + 1, 0, none⟩ = some (.slice C0 ts.length e0) := by simp
  have l16 : w1.heap.size + 1 < ((w1.alloc (.cells #[.slice A0 rs.length c0] 28)).alloc (.cells #[.slice C0 ts.length e0] 28)).heap.size := by simp
  obtain ⟨N, hN⟩ : ∃ N, lst rs ns = N := ⟨_, rfl⟩
  have HN := Lib.hid hN
  have hbd := lst_bd rs ns
  rw [hN] at hbd
  have HVL := Lib.hid (fun h => (lst_vld (rs := rs) (list := ns) h).1)
  rw [hN] at HVL
  clear hN
  obtain ⟨C, hC⟩ : ∃ C, convN (vldR ts) N x y = C := ⟨_, rfl⟩
  have HC := Lib.hid hC
  clear hC
  by_cases hok : aoB ts C = true
  case neg =>
    have HB := Lib.hid (Bool.eq_false_iff.2 hok)
    refine (iAmountConvert_any A0 B0 C0 c0 d0 e0 rs ns ts x y _ r12 hlr r13 hln r14 hlt).mono ?_
    rintro e w2 ⟨A2, d2, rfl, o2, hb2⟩
    have T17 := below_then T9 hb2
    have c18 : w2.cell? ⟨w1.heap.size, 0, none⟩ = some (.slice A0 rs.length c0) := (hb2.cell (p := ⟨w1.heap.size, 0, none⟩) l11).trans c10
    have l19 : w1.heap.size < w2.heap.size := Nat.lt_of_lt_of_le l11 hb2.size
    have c20 : w2.cell? ⟨w1.heap.size + 1, 0, none⟩ = some (.slice C0 ts.length e0) := (hb2.cell (p := ⟨w1.heap.size + 1, 0, none⟩) l16).trans c15
    have l21 : w1.heap.size + 1 < w2.heap.size := Nat.lt_of_lt_of_le l16 hb2.size
    have r22 := r12.to hb2
    have r23 := r13.to hb2
    have r24 := r14.to hb2
    rw [HN.out]
    rw [HC.out]
    rw [HB.out]
    have r25 : RD .i64 w2 w2.heap.size A2 (aoZ ts C) := by have := o2.rd; first | exact this | ((try rw [HN.out] at this); (try rw [HC.out] at this); (try rw [HB.out] at this); exact this)
    go_wp2_with fail
    refine (sAmountConvert_any A0 B0 C0 c0 d0 e0 rs ns ts x y _ r22 hlr r23 hln r24 hlt).mono ?_
    rintro e w3 ⟨A3, d3, rfl, o3, hb3⟩
    have T26 := below_then T17 hb3
    have c27 : w3.cell? ⟨w1.heap.size, 0, none⟩ = some (.slice A0 rs.length c0) := (hb3.cell (p := ⟨w1.heap.size, 0, none⟩) l19).trans c18
    have l28 : w1.heap.size < w3.heap.size := Nat.lt_of_lt_of_le l19 hb3.size
    have c29 : w3.cell? ⟨w1.heap.size + 1, 0, none⟩ = some (.slice C0 ts.length e0) := (hb3.cell (p := ⟨w1.heap.size + 1, 0, none⟩) l21).trans c20
    have l30 : w1.heap.size + 1 < w3.heap.size := Nat.lt_of_lt_of_le l21 hb3.size
    have r31 := r22.to hb3
    have r32 := r23.to hb3
    have r33 := r24.to hb3
    have r34 := r25.to hb3
    rw [HN.out]
    rw [HC.out]
    rw [HB.out]
    have r35 : RD .i64 w3 w3.heap.size A3 (aoZ ts C) := by have := o3.rd; first | exact this | ((try rw [HN.out] at this); (try rw [HC.out] at this); (try rw [HB.out] at this); exact this)
    go_wp2_with fail
    refine (sameInts_yes A2 A3 d2 d3 (aoZ ts C) _ r34 r35 (Nat.le_trans (aoZ_len _ _) (by omega))).mono ?_
    rintro e w4 ⟨rfl, hb4⟩
    have T36 := below_then T26 hb4
    have c37 : w4.cell? ⟨w1.heap.size, 0, none⟩ = some (.slice A0 rs.length c0) := (hb4.cell (p := ⟨w1.heap.size, 0, none⟩) l28).trans c27
    have l38 : w1.heap.size < w4.heap.size := Nat.lt_of_lt_of_le l28 hb4.size
    have c39 : w4.cell? ⟨w1.heap.size + 1, 0, none⟩ = some (.slice C0 ts.length e0) := (hb4.cell (p := ⟨w1.heap.size + 1, 0, none⟩) l30).trans c29
    have l40 : w1.heap.size + 1 < w4.heap.size := Nat.lt_of_lt_of_le l30 hb4.size
    have r41 := r31.to hb4
    have r42 := r32.to hb4
    have r43 := r33.to hb4
    have r44 := r34.to hb4
    have r45 := r35.to hb4
    go_wp2_with fail
    refine (sameInts_yes A2 A3 d2 d3 (aoZ ts C) _ r44 r45 (Nat.le_trans (aoZ_len _ _) (by omega))).mono ?_
    rintro e w5 ⟨rfl, hb5⟩
    have T46 := below_then T36 hb5
    have c47 : w5.cell? ⟨w1.heap.size, 0, none⟩ = some (.slice A0 rs.length c0) := (hb5.cell (p := ⟨w1.heap.size, 0, none⟩) l38).trans c37
    have l48 : w1.heap.size < w5.heap.size := Nat.lt_of_lt_of_le l38 hb5.size
    have c49 : w5.cell? ⟨w1.heap.size + 1, 0, none⟩ = some (.slice C0 ts.length e0) := (hb5.cell (p := ⟨w1.heap.size + 1, 0, none⟩) l40).trans c39
    have l50 : w1.heap.size + 1 < w5.heap.size := Nat.lt_of_lt_of_le l40 hb5.size
    have r51 := r41.to hb5
    have r52 := r42.to hb5
    have r53 := r43.to hb5
    have r54 := r44.to hb5
    have r55 := r45.to hb5
    go_wp2_with fail
    go_ret
    exact ⟨rfl, T46⟩
  have HB := Lib.hid hok
  obtain ⟨hv, hs0, hs1⟩ := aoB_iff.1 hok
  have HVT := Lib.hid hv
  have hci := convN_inv (show 0 ≤ convN (vldR ts) N x y by rw [HC.out]; exact hs0)
  rw [HC.out] at hci
  obtain ⟨hp, x1, x2, y1, y2, hce⟩ := hci
  have HCE := Lib.hid hce
  have HV := Lib.hid (HVL.out hp)
  clear hok hv hce
  have HSELF := Lib.hid (show convN (vldR rs) N x x = N by rw [convN, if_pos ⟨hp, HV.out, x1, x2, x1, x2⟩]; exact Int.mul_ediv_cancel _ (by omega))
  have HBN := Lib.hid (aoB_yes HV.out hp hbd.2)
  have HLT := Lib.hid (show lst ts (aoZ ts C) = C by rw [aoZ_yes HB.out]; exact lst_prp ts C HVT.out hs0 hs1)
  have hdm := Int.mul_ediv_add_emod (N * y) x
  rw [← HCE.out] at hdm
  have hm1 := Int.emod_nonneg (N * y) (show x ≠ 0 by omega)
  have hm2 := Int.emod_lt_of_pos (N * y) (show 0 < x by omega)
  have hny1 := Int.mul_le_mul hbd.2 y2 (by omega) (by decide)
  have hny0 := Int.mul_nonneg hp (show 0 ≤ y by omega)
  have hny2 : N * y ≤ 1000000000000 := hny1
  have hcx0 := Int.mul_nonneg hs0 (show 0 ≤ x by omega)
  have hcx : C * x = x * C := Int.mul_comm _ _
  have hd0 : 0 ≤ N * y - C * x := by omega
  have hd1 : N * y - C * x < x := by omega
  have hcx2 : C * x ≤ 1000000000000 := by omega
  clear hdm hm1 hm2 hny1 hcx
  refine (iAmountConvert_any A0 B0 C0 c0 d0 e0 rs ns ts x y _ r12 hlr r13 hln r14 hlt).mono ?_
  rintro e w6 ⟨A6, d6, rfl, o6, hb6⟩
  have T56 := below_then T9 hb6
  have c57 : w6.cell? ⟨w1.heap.size, 0, none⟩ = some (.slice A0 rs.length c0) := (hb6.cell (p := ⟨w1.heap.size, 0, none⟩) l11).trans c10
  have l58 : w1.heap.size < w6.heap.size := Nat.lt_of_lt_of_le l11 hb6.size
  have c59 : w6.cell? ⟨w1.heap.size + 1, 0, none⟩ = some (.slice C0 ts.length e0) := (hb6.cell (p := ⟨w1.heap.size + 1, 0, none⟩) l16).trans c15
  have l60 : w1.heap.size + 1 < w6.heap.size := Nat.lt_of_lt_of_le l16 hb6.size
  have r61 := r12.to hb6
  have r62 := r13.to hb6
  have r63 := r14.to hb6
  rw [HN.out]
  rw [HC.out]
  rw [HB.out]
  have r64 : RD .i64 w6 w6.heap.size A6 (aoZ ts C) := by have := o6.rd; first | exact this | ((try rw [HN.out] at this); (try rw [HC.out] at this); (try rw [HB.out] at this); exact this)
  go_wp2_with fail
  refine (sAmountConvert_any A0 B0 C0 c0 d0 e0 rs ns ts x y _ r61 hlr r62 hln r63 hlt).mono ?_
  rintro e w7 ⟨A7, d7, rfl, o7, hb7⟩
  have T65 := below_then T56 hb7
  have c66 : w7.cell? ⟨w1.heap.size, 0, none⟩ = some (.slice A0 rs.length c0) := (hb7.cell (p := ⟨w1.heap.size, 0, none⟩) l58).trans c57
  have l67 : w1.heap.size < w7.heap.size := Nat.lt_of_lt_of_le l58 hb7.size
  have c68 : w7.cell? ⟨w1.heap.size + 1, 0, none⟩ = some (.slice C0 ts.length e0) := (hb7.cell (p := ⟨w1.heap.size + 1, 0, none⟩) l60).trans c59
  have l69 : w1.heap.size + 1 < w7.heap.size := Nat.lt_of_lt_of_le l60 hb7.size
  have r70 := r61.to hb7
  have r71 := r62.to hb7
  have r72 := r63.to hb7
  have r73 := r64.to hb7
  rw [HN.out]
  rw [HC.out]
  rw [HB.out]
  have r74 : RD .i64 w7 w7.heap.size A7 (aoZ ts C) := by have := o7.rd; first | exact this | ((try rw [HN.out] at this); (try rw [HC.out] at this); (try rw [HB.out] at this); exact this)
  go_wp2_with fail
  refine (sameInts_yes A6 A7 d6 d7 (aoZ ts C) _ r73 r74 (Nat.le_trans (aoZ_len _ _) (by omega))).mono ?_
  rintro e w8 ⟨rfl, hb8⟩
  have T75 := below_then T65 hb8
  have c76 : w8.cell? ⟨w1.heap.size, 0, none⟩ = some (.slice A0 rs.length c0) := (hb8.cell (p := ⟨w1.heap.size, 0, none⟩) l67).trans c66
  have l77 : w1.heap.size < w8.heap.size := Nat.lt_of_lt_of_le l67 hb8.size
  have c78 : w8.cell? ⟨w1.heap.size + 1, 0, none⟩ = some (.slice C0 ts.length e0) := (hb8.cell (p := ⟨w1.heap.size + 1, 0, none⟩) l69).trans c68
  have l79 : w1.heap.size + 1 < w8.heap.size := Nat.lt_of_lt_of_le l69 hb8.size
  have r80 := r70.to hb8
  have r81 := r71.to hb8
  have r82 := r72.to hb8
  have r83 := r73.to hb8
  have r84 := r74.to hb8
  go_wp2_with fail
  refine (iAmountConvert_any A0 B0 A0 c0 d0 c0 rs ns rs x x _ r80 hlr r81 hln r80 hlr).mono ?_
  rintro e w9 ⟨A9, d9, rfl, o9, hb9⟩
  have T85 := below_then T75 hb9
  have c86 : w9.cell? ⟨w1.heap.size, 0, none⟩ = some (.slice A0 rs.length c0) := (hb9.cell (p := ⟨w1.heap.size, 0, none⟩) l77).trans c76
  have l87 : w1.heap.size < w9.heap.size := Nat.lt_of_lt_of_le l77 hb9.size
  have c88 : w9.cell? ⟨w1.heap.size + 1, 0, none⟩ = some (.slice C0 ts.length e0) := (hb9.cell (p := ⟨w1.heap.size + 1, 0, none⟩) l79).trans c78
  have l89 : w1.heap.size + 1 < w9.heap.size := Nat.lt_of_lt_of_le l79 hb9.size
  have r90 := r80.to hb9
  have r91 := r81.to hb9
  have r92 := r82.to hb9
  have r93 := r83.to hb9
  have r94 := r84.to hb9
  rw [HN.out]
  rw [HSELF.out]
  rw [HBN.out]
  have r95 : RD .i64 w9 w9.heap.size A9 (aoZ rs N) := by have := o9.rd; first | exact this | ((try rw [HN.out] at this); (try rw [HSELF.out] at this); (try rw [HBN.out] at this); exact this)
  go_wp2_with fail
  refine (iAmountProper_any A0 B0 c0 d0 rs ns  _ r90 hlr r91 hln).mono ?_
  rintro e w10 ⟨A10, d10, rfl, o10, hb10⟩
  have T96 := below_then T85 hb10
  have c97 : w10.cell? ⟨w1.heap.size, 0, none⟩ = some (.slice A0 rs.length c0) := (hb10.cell (p := ⟨w1.heap.size, 0, none⟩) l87).trans c86
  have l98 : w1.heap.size < w10.heap.size := Nat.lt_of_lt_of_le l87 hb10.size
  have c99 : w10.cell? ⟨w1.heap.size + 1, 0, none⟩ = some (.slice C0 ts.length e0) := (hb10.cell (p := ⟨w1.heap.size + 1, 0, none⟩) l89).trans c88
  have l100 : w1.heap.size + 1 < w10.heap.size := Nat.lt_of_lt_of_le l89 hb10.size
  have r101 := r90.to hb10
  have r102 := r91.to hb10
  have r103 := r92.to hb10
  have r104 := r93.to hb10
  have r105 := r94.to hb10
  have r106 := r95.to hb10
  rw [HN.out]
  rw [HBN.out]
  have r107 : RD .i64 w10 w10.heap.size A10 (aoZ rs N) := by have := o10.rd; first | exact this | ((try rw [HN.out] at this); (try rw [HBN.out] at this); exact this)
  go_wp2_with fail
  refine (iAmountProper_any C0 A6 e0 d6 ts (aoZ ts C)  _ r103 hlt r104 (Nat.le_trans (aoZ_len _ _) (by omega))).mono ?_
  rintro e w11 ⟨A11, d11, rfl, o11, hb11⟩
  have T108 := below_then T96 hb11
  have c109 : w11.cell? ⟨w1.heap.size, 0, none⟩ = some (.slice A0 rs.length c0) := (hb11.cell (p := ⟨w1.heap.size, 0, none⟩) l98).trans c97
  have l110 : w1.heap.size < w11.heap.size := Nat.lt_of_lt_of_le l98 hb11.size
  have c111 : w11.cell? ⟨w1.heap.size + 1, 0, none⟩ = some (.slice C0 ts.length e0) := (hb11.cell (p := ⟨w1.heap.size + 1, 0, none⟩) l100).trans c99
  have l112 : w1.heap.size + 1 < w11.heap.size := Nat.lt_of_lt_of_le l100 hb11.size
  have r113 := r101.to hb11
  have r114 := r102.to hb11
  have r115 := r103.to hb11
  have r116 := r104.to hb11
  have r117 := r105.to hb11
  have r118 := r106.to hb11
  have r119 := r107.to hb11
  rw [HLT.out]
  rw [HB.out]
  have r120 : RD .i64 w11 w11.heap.size A11 (aoZ ts C) := by have := o11.rd; first | exact this | ((try rw [HLT.out] at this); (try rw [HB.out] at this); exact this)
  go_wp2_with fail
  have n121 := (Below.refl w11.heap.size w11).drew
  have T122 := below_then T108 n121
  have c123 : w11.drew.cell? ⟨w1.heap.size, 0, none⟩ = some (.slice A0 rs.length c0) := (n121.cell (p := ⟨w1.heap.size, 0, none⟩) l110).trans c109
  have l124 : w1.heap.size < w11.drew.heap.size := Nat.lt_of_lt_of_le l110 n121.size
  have c125 : w11.drew.cell? ⟨w1.heap.size + 1, 0, none⟩ = some (.slice C0 ts.length e0) := (n121.cell (p := ⟨w1.heap.size + 1, 0, none⟩) l112).trans c111
  have l126 : w1.heap.size + 1 < w11.drew.heap.size := Nat.lt_of_lt_of_le l112 n121.size
  have r127 := r113.to n121
  have r128 := r114.to n121
  have r129 := r115.to n121
  have r130 := r116.to n121
  have r131 := r117.to n121
  have r132 := r118.to n121
  have r133 := r119.to n121
  have r134 := r120.to n121
  have K1 := And.intro c123 c125
  go_region_held3 (fun w' => w'.cell? ⟨w1.heap.size, 0, none⟩ = some (.slice A0 rs.length c0) ∧ w'.cell? ⟨w1.heap.size + 1, 0, none⟩ = some (.slice C0 ts.length e0)) (first | exact K1 | exact K2 | exact K3 | go_keep) (first | (go_at_call_of 32 A0; refine (iAmountLeast_any A0 B0 c0 d0 rs ns _ ?_ hlr ?_ hln).mono ?_; exact r127; exact r128; rintro e w12 ⟨rfl, hb12⟩; rw [HN.out]; have T135 := below_then T122 hb12; have c136 : w12.cell? ⟨w1.heap.size, 0, none⟩ = some (.slice A0 rs.length c0) := (hb12.cell (p := ⟨w1.heap.size, 0, none⟩) l124).trans c123; have l137 : w1.heap.size < w12.heap.size := Nat.lt_of_lt_of_le l124 hb12.size; have c138 : w12.cell? ⟨w1.heap.size + 1, 0, none⟩ = some (.slice C0 ts.length e0) := (hb12.cell (p := ⟨w1.heap.size + 1, 0, none⟩) l126).trans c125; have l139 : w1.heap.size + 1 < w12.heap.size := Nat.lt_of_lt_of_le l126 hb12.size; have r140 := r127.to hb12; have r141 := r128.to hb12; have r142 := r129.to hb12; have r143 := r130.to hb12; have r144 := r131.to hb12; have r145 := r132.to hb12; have r146 := r133.to hb12; have r147 := r134.to hb12; have E1 : IntKind.i64.wrap (N * y) = N * y := IntWalk.i64_in _ (by omega); have K2 := And.intro c136 c138) | (go_at_call_of 32 C0; refine (iAmountLeast_any C0 A6 e0 d6 ts (aoZ ts C) _ ?_ hlt ?_ (Nat.le_trans (aoZ_len _ _) (by omega))).mono ?_; exact r142; exact r143; rintro e w13 ⟨rfl, hb13⟩; rw [HLT.out]; have T148 := below_then T135 hb13; have c149 : w13.cell? ⟨w1.heap.size, 0, none⟩ = some (.slice A0 rs.length c0) := (hb13.cell (p := ⟨w1.heap.size, 0, none⟩) l137).trans c136; have l150 : w1.heap.size < w13.heap.size := Nat.lt_of_lt_of_le l137 hb13.size; have c151 : w13.cell? ⟨w1.heap.size + 1, 0, none⟩ = some (.slice C0 ts.length e0) := (hb13.cell (p := ⟨w1.heap.size + 1, 0, none⟩) l139).trans c138; have l152 : w1.heap.size + 1 < w13.heap.size := Nat.lt_of_lt_of_le l139 hb13.size; have r153 := r140.to hb13; have r154 := r141.to hb13; have r155 := r142.to hb13; have r156 := r143.to hb13; have r157 := r144.to hb13; have r158 := r145.to hb13; have r159 := r146.to hb13; have r160 := r147.to hb13; have E2 : IntKind.i64.wrap (C * x) = C * x := IntWalk.i64_in _ (by omega); have E3 : IntKind.i64.wrap (N * y - C * x) = N * y - C * x := IntWalk.i64_in _ (by omega); have K3 := And.intro c149 c151))
  clear E1 E2 E3
  generalize N * y - C * x = d at *
  go_wp2_with fail
  refine (sameInts_yes A9 A10 d9 d10 (aoZ rs N) _ r158 r159 (Nat.le_trans (aoZ_len _ _) (by omega))).mono ?_
  rintro e w14 ⟨rfl, hb14⟩
  have T161 := below_then T148 hb14
  have c162 : w14.cell? ⟨w1.heap.size, 0, none⟩ = some (.slice A0 rs.length c0) := (hb14.cell (p := ⟨w1.heap.size, 0, none⟩) l150).trans c149
  have l163 : w1.heap.size < w14.heap.size := Nat.lt_of_lt_of_le l150 hb14.size
  have c164 : w14.cell? ⟨w1.heap.size + 1, 0, none⟩ = some (.slice C0 ts.length e0) := (hb14.cell (p := ⟨w1.heap.size + 1, 0, none⟩) l152).trans c151
  have l165 : w1.heap.size + 1 < w14.heap.size := Nat.lt_of_lt_of_le l152 hb14.size
  have r166 := r153.to hb14
  have r167 := r154.to hb14
  have r168 := r155.to hb14
  have r169 := r156.to hb14
  have r170 := r157.to hb14
  have r171 := r158.to hb14
  have r172 := r159.to hb14
  have r173 := r160.to hb14
  go_wp2_with fail
  refine (sameInts_yes A11 A6 d11 d6 (aoZ ts C) _ r173 r169 (Nat.le_trans (aoZ_len _ _) (by omega))).mono ?_
  rintro e w15 ⟨rfl, hb15⟩
  have T174 := below_then T161 hb15
  have c175 : w15.cell? ⟨w1.heap.size, 0, none⟩ = some (.slice A0 rs.length c0) := (hb15.cell (p := ⟨w1.heap.size, 0, none⟩) l163).trans c162
  have l176 : w1.heap.size < w15.heap.size := Nat.lt_of_lt_of_le l163 hb15.size
  have c177 : w15.cell? ⟨w1.heap.size + 1, 0, none⟩ = some (.slice C0 ts.length e0) := (hb15.cell (p := ⟨w1.heap.size + 1, 0, none⟩) l165).trans c164
  have l178 : w1.heap.size + 1 < w15.heap.size := Nat.lt_of_lt_of_le l165 hb15.size
  have r179 := r166.to hb15
  have r180 := r167.to hb15
  have r181 := r168.to hb15
  have r182 := r169.to hb15
  have r183 := r170.to hb15
  have r184 := r171.to hb15
  have r185 := r172.to hb15
  have r186 := r173.to hb15
  go_wp2_with fail
  go_ret
  exact ⟨rfl, T174⟩

end Go.Proofs.Ytmcooaopbigebab
