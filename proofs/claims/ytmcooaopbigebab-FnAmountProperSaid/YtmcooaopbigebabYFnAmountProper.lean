/- The walk of the law FnAmountProper. No condition. -/
import Derived.Test.YtmcooaopbigebabLawK
namespace Go.Proofs.Ytmcooaopbigebab
open Go.RowKit
set_option linter.unusedVariables false

set_option maxRecDepth 100000 in
set_option maxHeartbeats 4000000 in
theorem walkFnAmountProper (a : Option Addr) (len cap : Nat) (zs : List Int) (w : World) (hs : Sl .u8 w a len cap zs) :
    Calls Try.prog 7 #[.slice a len cap] w fun e w' => e = .returned (.bool true) ∧ Below w.heap.size w w' := by
  have HS := Lib.hid hs
  obtain ⟨-, hlc, hcm, -, -⟩ := hs
  unfold maxLen at hcm
  by_cases hbig : len ≤ 1048576
  case neg =>
    have hbig' : decide (1048576 < len) = true := by simp; omega
    go_enter Try.func7, Try.ntmps7
    go_wp2_with fail
    go_ret
    exact ⟨rfl, Below.refl _ _⟩
  go_enter Try.func7, Try.ntmps7
  go_wp2_with fail
  refine (drawAmountProper_any a len cap zs _ HS.out).mono ?_
  rintro e w1 ⟨rs, ns, A0, B0, c0, d0, ⟨hrl, hrb⟩, ⟨hnl, hnb⟩, rfl, ⟨r0, -⟩, ⟨n0, -⟩, hb1⟩
  have HRB := Lib.hid hrb
  have HNB := Lib.hid hnb
  clear hrb hnb
  have hlr : rs.length ≤ 1048576 := by omega
  have hln : ns.length ≤ 1048576 := by omega
  go_wp2_with fail
  have n1 := below_new w1 (.cells #[.slice A0 rs.length c0] 28)
  have T2 := below_then hb1 n1
  have r3 := r0.to n1
  have r4 := n0.to n1
  have c5 : (w1.alloc (.cells #[.slice A0 rs.length c0] 28)).cell? ⟨w1.heap.size, 0, none⟩ = some (.slice A0 rs.length c0) := box_cell _ _ _
  have l6 : w1.heap.size < (w1.alloc (.cells #[.slice A0 rs.length c0] 28)).heap.size := by simp
  obtain ⟨N, hN⟩ : ∃ N, lst rs ns = N := ⟨_, rfl⟩
  have HN := Lib.hid hN
  have hbd := lst_bd rs ns
  rw [hN] at hbd
  clear hN
  by_cases hp : 0 ≤ N
  case neg =>
    have HB := Lib.hid (aoB_bad (rs := rs) (n := N) (by omega))
    have HZ := Lib.hid (aoZ_no HB.out)
    refine (iAmountProper_any A0 B0 c0 d0 rs ns  _ r3 hlr r4 hln).mono ?_
    rintro e w2 ⟨A2, d2, rfl, o2, hb2⟩
    have T7 := below_then T2 hb2
    have c8 : w2.cell? ⟨w1.heap.size, 0, none⟩ = some (.slice A0 rs.length c0) := (hb2.cell (p := ⟨w1.heap.size, 0, none⟩) l6).trans c5
    have l9 : w1.heap.size < w2.heap.size := Nat.lt_of_lt_of_le l6 hb2.size
    have r10 := r3.to hb2
    have r11 := r4.to hb2
    rw [HN.out]
    rw [HB.out]
    have r12 : RD .i64 w2 w2.heap.size A2 (aoZ rs N) := by have := o2.rd; first | exact this | ((try rw [HN.out] at this); (try rw [HB.out] at this); exact this)
    go_wp2_with fail
    refine (sAmountProper_any A0 B0 c0 d0 rs ns  _ r10 hlr r11 hln).mono ?_
    rintro e w3 ⟨A3, d3, rfl, o3, hb3⟩
    have T13 := below_then T7 hb3
    have c14 : w3.cell? ⟨w1.heap.size, 0, none⟩ = some (.slice A0 rs.length c0) := (hb3.cell (p := ⟨w1.heap.size, 0, none⟩) l9).trans c8
    have l15 : w1.heap.size < w3.heap.size := Nat.lt_of_lt_of_le l9 hb3.size
    have r16 := r10.to hb3
    have r17 := r11.to hb3
    have r18 := r12.to hb3
    rw [HN.out]
    rw [HB.out]
    have r19 : RD .i64 w3 w3.heap.size A3 (aoZ rs N) := by have := o3.rd; first | exact this | ((try rw [HN.out] at this); (try rw [HB.out] at this); exact this)
    go_wp2_with fail
    refine (sameInts_yes A2 A3 d2 d3 (aoZ rs N) _ r18 r19 (Nat.le_trans (aoZ_len _ _) (by omega))).mono ?_
    rintro e w4 ⟨rfl, hb4⟩
    have T20 := below_then T13 hb4
    have c21 : w4.cell? ⟨w1.heap.size, 0, none⟩ = some (.slice A0 rs.length c0) := (hb4.cell (p := ⟨w1.heap.size, 0, none⟩) l15).trans c14
    have l22 : w1.heap.size < w4.heap.size := Nat.lt_of_lt_of_le l15 hb4.size
    have r23 := r16.to hb4
    have r24 := r17.to hb4
    have r25 := r18.to hb4
    have r26 := r19.to hb4
    go_wp2_with fail
    refine (sameInts_yes A2 A3 d2 d3 (aoZ rs N) _ r25 r26 (Nat.le_trans (aoZ_len _ _) (by omega))).mono ?_
    rintro e w5 ⟨rfl, hb5⟩
    have T27 := below_then T20 hb5
    have c28 : w5.cell? ⟨w1.heap.size, 0, none⟩ = some (.slice A0 rs.length c0) := (hb5.cell (p := ⟨w1.heap.size, 0, none⟩) l22).trans c21
    have l29 : w1.heap.size < w5.heap.size := Nat.lt_of_lt_of_le l22 hb5.size
    have r30 := r23.to hb5
    have r31 := r24.to hb5
    have r32 := r25.to hb5
    have r33 := r26.to hb5
    go_wp2_with fail
    go_ret
    exact ⟨rfl, T27⟩
  have HV := Lib.hid (lst_vld (rs := rs) (list := ns) (by rw [HN.out]; exact hp))
  have HB := Lib.hid (aoB_yes HV.out.1 hp hbd.2)
  have HZ := Lib.hid (aoZ_yes HB.out)
  have HL := Lib.hid (show lst rs (aoZ rs N) = N by rw [HZ.out]; exact lst_prp rs N HV.out.1 hp hbd.2)
  have HO := Lib.hid (show ordN N N = 0 from ordN_eq hp hp (by omega) (by omega))
  have HG := Lib.hid (nng_yes hp)
  have HSM := Lib.hid (show sm (aoZ rs N) ≤ sm ns by have hx := lst_nn HN.out hp; rw [HZ.out, ← hx.1]; exact prp_least rs ns (vldR_iff.1 HV.out.1).2 HV.out.2 hx.2)
  have HPB := Lib.hid (show ∀ x ∈ aoZ rs N, -1 ≤ x ∧ x ≤ 1000000001 from aoZ_bd rs N)
  have hl5 := aoZ_len rs N
  refine (iAmountProper_any A0 B0 c0 d0 rs ns  _ r3 hlr r4 hln).mono ?_
  rintro e w6 ⟨A6, d6, rfl, o6, hb6⟩
  have T34 := below_then T2 hb6
  have c35 : w6.cell? ⟨w1.heap.size, 0, none⟩ = some (.slice A0 rs.length c0) := (hb6.cell (p := ⟨w1.heap.size, 0, none⟩) l6).trans c5
  have l36 : w1.heap.size < w6.heap.size := Nat.lt_of_lt_of_le l6 hb6.size
  have r37 := r3.to hb6
  have r38 := r4.to hb6
  rw [HN.out]
  rw [HB.out]
  have r39 : RD .i64 w6 w6.heap.size A6 (aoZ rs N) := by have := o6.rd; first | exact this | ((try rw [HN.out] at this); (try rw [HB.out] at this); exact this)
  go_wp2_with fail
  refine (sAmountProper_any A0 B0 c0 d0 rs ns  _ r37 hlr r38 hln).mono ?_
  rintro e w7 ⟨A7, d7, rfl, o7, hb7⟩
  have T40 := below_then T34 hb7
  have c41 : w7.cell? ⟨w1.heap.size, 0, none⟩ = some (.slice A0 rs.length c0) := (hb7.cell (p := ⟨w1.heap.size, 0, none⟩) l36).trans c35
  have l42 : w1.heap.size < w7.heap.size := Nat.lt_of_lt_of_le l36 hb7.size
  have r43 := r37.to hb7
  have r44 := r38.to hb7
  have r45 := r39.to hb7
  rw [HN.out]
  rw [HB.out]
  have r46 : RD .i64 w7 w7.heap.size A7 (aoZ rs N) := by have := o7.rd; first | exact this | ((try rw [HN.out] at this); (try rw [HB.out] at this); exact this)
  go_wp2_with fail
  refine (sameInts_yes A6 A7 d6 d7 (aoZ rs N) _ r45 r46 (Nat.le_trans (aoZ_len _ _) (by omega))).mono ?_
  rintro e w8 ⟨rfl, hb8⟩
  have T47 := below_then T40 hb8
  have c48 : w8.cell? ⟨w1.heap.size, 0, none⟩ = some (.slice A0 rs.length c0) := (hb8.cell (p := ⟨w1.heap.size, 0, none⟩) l42).trans c41
  have l49 : w1.heap.size < w8.heap.size := Nat.lt_of_lt_of_le l42 hb8.size
  have r50 := r43.to hb8
  have r51 := r44.to hb8
  have r52 := r45.to hb8
  have r53 := r46.to hb8
  go_wp2_with fail
  refine (iAmountProper_any A0 A6 c0 d6 rs (aoZ rs N)  _ r50 hlr r52 (Nat.le_trans (aoZ_len _ _) (by omega))).mono ?_
  rintro e w9 ⟨A9, d9, rfl, o9, hb9⟩
  have T54 := below_then T47 hb9
  have c55 : w9.cell? ⟨w1.heap.size, 0, none⟩ = some (.slice A0 rs.length c0) := (hb9.cell (p := ⟨w1.heap.size, 0, none⟩) l49).trans c48
  have l56 : w1.heap.size < w9.heap.size := Nat.lt_of_lt_of_le l49 hb9.size
  have r57 := r50.to hb9
  have r58 := r51.to hb9
  have r59 := r52.to hb9
  have r60 := r53.to hb9
  rw [HL.out]
  rw [HB.out]
  have r61 : RD .i64 w9 w9.heap.size A9 (aoZ rs N) := by have := o9.rd; first | exact this | ((try rw [HL.out] at this); (try rw [HB.out] at this); exact this)
  go_wp2_with fail
  refine (iAmountOrder_any A0 B0 A6 c0 d0 d6 rs ns (aoZ rs N)  _ r57 hlr r58 hln r59 (Nat.le_trans (aoZ_len _ _) (by omega))).mono ?_
  rintro e w10 ⟨rfl, hb10⟩
  have T62 := below_then T54 hb10
  have c63 : w10.cell? ⟨w1.heap.size, 0, none⟩ = some (.slice A0 rs.length c0) := (hb10.cell (p := ⟨w1.heap.size, 0, none⟩) l56).trans c55
  have l64 : w1.heap.size < w10.heap.size := Nat.lt_of_lt_of_le l56 hb10.size
  have r65 := r57.to hb10
  have r66 := r58.to hb10
  have r67 := r59.to hb10
  have r68 := r60.to hb10
  have r69 := r61.to hb10
  rw [HN.out]
  rw [HL.out]
  rw [HO.out]
  rw [HG.out]
  go_wp2_with fail
  refine (sameInts_yes A9 A6 d9 d6 (aoZ rs N) _ r69 r67 (Nat.le_trans (aoZ_len _ _) (by omega))).mono ?_
  rintro e w11 ⟨rfl, hb11⟩
  have T70 := below_then T62 hb11
  have c71 : w11.cell? ⟨w1.heap.size, 0, none⟩ = some (.slice A0 rs.length c0) := (hb11.cell (p := ⟨w1.heap.size, 0, none⟩) l64).trans c63
  have l72 : w1.heap.size < w11.heap.size := Nat.lt_of_lt_of_le l64 hb11.size
  have r73 := r65.to hb11
  have r74 := r66.to hb11
  have r75 := r67.to hb11
  have r76 := r68.to hb11
  have r77 := r69.to hb11
  go_wp2_with fail
  refine (sumOf_any A6 d6 (aoZ rs N) _ r75 (by omega) HPB.out).mono ?_
  rintro e w' ⟨rfl, rfl⟩
  go_wp2_with fail
  refine (sumOf_any B0 d0 ns _ r74 (by omega) HNB.out).mono ?_
  rintro e w' ⟨rfl, rfl⟩
  have hle := HSM.out
  go_wp2_with fail
  go_ret
  exact ⟨rfl, T70⟩

end Go.Proofs.Ytmcooaopbigebab
