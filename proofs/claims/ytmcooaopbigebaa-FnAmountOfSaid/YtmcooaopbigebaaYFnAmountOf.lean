/- The walk of the law FnAmountOf. No condition. -/
import Derived.Test.YtmcooaopbigebaaLawK
import Derived.Test.YtmcooaopbigebaaDrwC
namespace Go.Proofs.Ytmcooaopbigebaa
open Go.RowKit
set_option linter.unusedVariables false

set_option maxRecDepth 100000 in
set_option maxHeartbeats 4000000 in
theorem walkFnAmountOf (a : Option Addr) (len cap : Nat) (zs : List Int) (w : World) (hs : Sl .u8 w a len cap zs) :
    Calls Try.prog 11 #[.slice a len cap] w fun e w' => e = .returned (.bool true) ∧ Below w.heap.size w w' := by
  have HS := Lib.hid hs
  obtain ⟨-, hlc, hcm, -, -⟩ := hs
  unfold maxLen at hcm
  by_cases hbig : len ≤ 1048576
  case neg =>
    have hbig' : decide (1048576 < len) = true := by simp; omega
    go_enter Try.func11, Try.ntmps11
    go_wp2_with fail
    go_ret
    exact ⟨rfl, Below.refl _ _⟩
  go_enter Try.func11, Try.ntmps11
  go_wp2_with fail
  refine (drawAmountOf_any a len cap zs _ HS.out).mono ?_
  rintro e w1 ⟨rs, n, A0, c0, ⟨hrl, hrb⟩, hn0, hn1, rfl, ⟨r0, -⟩, hb1⟩
  have HRB := Lib.hid hrb
  clear hrb
  have hlr : rs.length ≤ 1048576 := by omega
  go_wp2_with fail
  have n1 := below_new w1 (.cells #[.slice A0 rs.length c0] 27)
  have T2 := below_then hb1 n1
  have r3 := r0.to n1
  have c4 : (w1.alloc (.cells #[.slice A0 rs.length c0] 27)).cell? ⟨w1.heap.size, 0, none⟩ = some (.slice A0 rs.length c0) := box_cell _ _ _
  have l5 : w1.heap.size < (w1.alloc (.cells #[.slice A0 rs.length c0] 27)).heap.size := by simp
  by_cases hok : aoB rs n = true
  case neg =>
    have HB := Lib.hid (Bool.eq_false_iff.2 hok)
    refine (iAmountOf_any A0 c0 rs n _ r3 hlr).mono ?_
    rintro e w2 ⟨A2, d2, rfl, o2, hb2⟩
    have T6 := below_then T2 hb2
    have c7 : w2.cell? ⟨w1.heap.size, 0, none⟩ = some (.slice A0 rs.length c0) := (hb2.cell (p := ⟨w1.heap.size, 0, none⟩) l5).trans c4
    have l8 : w1.heap.size < w2.heap.size := Nat.lt_of_lt_of_le l5 hb2.size
    have r9 := r3.to hb2
    rw [HB.out]
    have r10 : RD .i64 w2 w2.heap.size A2 (aoZ rs n) := by have := o2.rd; first | exact this | ((try rw [HB.out] at this); exact this)
    go_wp2_with fail
    refine (sAmountOf_any A0 c0 rs n _ r9 hlr).mono ?_
    rintro e w3 ⟨A3, d3, rfl, o3, hb3⟩
    have T11 := below_then T6 hb3
    have c12 : w3.cell? ⟨w1.heap.size, 0, none⟩ = some (.slice A0 rs.length c0) := (hb3.cell (p := ⟨w1.heap.size, 0, none⟩) l8).trans c7
    have l13 : w1.heap.size < w3.heap.size := Nat.lt_of_lt_of_le l8 hb3.size
    have r14 := r9.to hb3
    have r15 := r10.to hb3
    rw [HB.out]
    have r16 : RD .i64 w3 w3.heap.size A3 (aoZ rs n) := by have := o3.rd; first | exact this | ((try rw [HB.out] at this); exact this)
    go_wp2_with fail
    refine (sameInts_yes A2 A3 d2 d3 (aoZ rs n) _ r15 r16 (Nat.le_trans (aoZ_len _ _) (by omega))).mono ?_
    rintro e w4 ⟨rfl, hb4⟩
    have T17 := below_then T11 hb4
    have c18 : w4.cell? ⟨w1.heap.size, 0, none⟩ = some (.slice A0 rs.length c0) := (hb4.cell (p := ⟨w1.heap.size, 0, none⟩) l13).trans c12
    have l19 : w1.heap.size < w4.heap.size := Nat.lt_of_lt_of_le l13 hb4.size
    have r20 := r14.to hb4
    have r21 := r15.to hb4
    have r22 := r16.to hb4
    go_wp2_with fail
    refine (sameInts_yes A2 A3 d2 d3 (aoZ rs n) _ r21 r22 (Nat.le_trans (aoZ_len _ _) (by omega))).mono ?_
    rintro e w5 ⟨rfl, hb5⟩
    have T23 := below_then T17 hb5
    have c24 : w5.cell? ⟨w1.heap.size, 0, none⟩ = some (.slice A0 rs.length c0) := (hb5.cell (p := ⟨w1.heap.size, 0, none⟩) l19).trans c18
    have l25 : w1.heap.size < w5.heap.size := Nat.lt_of_lt_of_le l19 hb5.size
    have r26 := r20.to hb5
    have r27 := r21.to hb5
    have r28 := r22.to hb5
    go_wp2_with fail
    go_ret
    exact ⟨rfl, T23⟩
  have HB := Lib.hid hok
  obtain ⟨hv, hp, hp2⟩ := aoB_iff.1 hok
  have HV := Lib.hid hv
  have HR4 := Lib.hid (vldR_iff.1 hv)
  clear hok hv
  have HL := Lib.hid (show lst rs (aoZ rs n) = n by rw [aoZ_yes HB.out]; exact lst_prp rs n HV.out hp hp2)
  have HLEN := Lib.hid (show (aoZ rs n).length = rs.length + 1 by rw [aoZ_yes HB.out, prp_len, wor_len])
  have HSM := Lib.hid (show ∀ i, i < rs.length → ix (aoZ rs n) (i + 1) < ix rs i by rw [aoZ_yes HB.out]; exact fun i hi => prp_small rs n HR4.out.2 i hi)
  have hl5 := aoZ_len rs n
  refine (iAmountOf_any A0 c0 rs n _ r3 hlr).mono ?_
  rintro e w6 ⟨A6, d6, rfl, o6, hb6⟩
  have T29 := below_then T2 hb6
  have c30 : w6.cell? ⟨w1.heap.size, 0, none⟩ = some (.slice A0 rs.length c0) := (hb6.cell (p := ⟨w1.heap.size, 0, none⟩) l5).trans c4
  have l31 : w1.heap.size < w6.heap.size := Nat.lt_of_lt_of_le l5 hb6.size
  have r32 := r3.to hb6
  rw [HB.out]
  have r33 : RD .i64 w6 w6.heap.size A6 (aoZ rs n) := by have := o6.rd; first | exact this | ((try rw [HB.out] at this); exact this)
  go_wp2_with fail
  refine (sAmountOf_any A0 c0 rs n _ r32 hlr).mono ?_
  rintro e w7 ⟨A7, d7, rfl, o7, hb7⟩
  have T34 := below_then T29 hb7
  have c35 : w7.cell? ⟨w1.heap.size, 0, none⟩ = some (.slice A0 rs.length c0) := (hb7.cell (p := ⟨w1.heap.size, 0, none⟩) l31).trans c30
  have l36 : w1.heap.size < w7.heap.size := Nat.lt_of_lt_of_le l31 hb7.size
  have r37 := r32.to hb7
  have r38 := r33.to hb7
  rw [HB.out]
  have r39 : RD .i64 w7 w7.heap.size A7 (aoZ rs n) := by have := o7.rd; first | exact this | ((try rw [HB.out] at this); exact this)
  go_wp2_with fail
  refine (sameInts_yes A6 A7 d6 d7 (aoZ rs n) _ r38 r39 (Nat.le_trans (aoZ_len _ _) (by omega))).mono ?_
  rintro e w8 ⟨rfl, hb8⟩
  have T40 := below_then T34 hb8
  have c41 : w8.cell? ⟨w1.heap.size, 0, none⟩ = some (.slice A0 rs.length c0) := (hb8.cell (p := ⟨w1.heap.size, 0, none⟩) l36).trans c35
  have l42 : w1.heap.size < w8.heap.size := Nat.lt_of_lt_of_le l36 hb8.size
  have r43 := r37.to hb8
  have r44 := r38.to hb8
  have r45 := r39.to hb8
  go_wp2_with fail
  refine (iAmountProper_any A0 A6 c0 d6 rs (aoZ rs n)  _ r43 hlr r44 (Nat.le_trans (aoZ_len _ _) (by omega))).mono ?_
  rintro e w9 ⟨A9, d9, rfl, o9, hb9⟩
  have T46 := below_then T40 hb9
  have c47 : w9.cell? ⟨w1.heap.size, 0, none⟩ = some (.slice A0 rs.length c0) := (hb9.cell (p := ⟨w1.heap.size, 0, none⟩) l42).trans c41
  have l48 : w1.heap.size < w9.heap.size := Nat.lt_of_lt_of_le l42 hb9.size
  have r49 := r43.to hb9
  have r50 := r44.to hb9
  have r51 := r45.to hb9
  rw [HL.out]
  rw [HB.out]
  have r52 : RD .i64 w9 w9.heap.size A9 (aoZ rs n) := by have := o9.rd; first | exact this | ((try rw [HL.out] at this); (try rw [HB.out] at this); exact this)
  go_wp2_with fail
  go_loopw [11] (fun i wr => ∃ j : Nat, j + 1 ≤ (aoZ rs n).length ∧ i = .int .i64 ((j : Int) + 1) ∧ ∃ nd, wr = w9.drewN nd) (fun i _ => (aoZ rs n).length - (intOf i).toNat)
  case atStart => exact ⟨0, by rw [HLEN.out]; omega, rfl, 0, rfl⟩
  case round =>
    obtain ⟨j, hj, rfl, nd, rfl⟩ := hrel
    by_cases hlt : j + 1 < (aoZ rs n).length
    · have hjr : j < rs.length := by have := HLEN.out; omega
      have hsm := HSM.out j hjr
      obtain ⟨b1, f1, e1, hbb1, hc1⟩ := r50.at_ hlt
      obtain ⟨b2, f2, e2, hbb2, hc2⟩ := r49.at_ hjr
      have hcb := c47
      rw [e1]
      rw [e2] at hcb
      have i1 : (j : Int) + 1 < (aoZ rs n).length := by omega
      have i2 : (j : Int) < rs.length := by omega
      have i3 : ((j : Int) + 1).toNat = j + 1 := by omega
      generalize ix (aoZ rs n) (j + 1) = u at *
      generalize ix rs j = r at *
      have td : decide (r ≤ u) = false := by simp; omega
      have e5 : IntKind.i64.wrap ((j : Int) + 1 - 1) = j := by rw [show (j : Int) + 1 - 1 = j by omega]; exact IntWalk.i64_in _ (by omega)
      go_wp2_with fail
      go_quiet (fail)
      clear e5
      go_wp2_with fail
      go_roundw
      case rel => exact ⟨j + 1, by omega, by go_num, _, rfl⟩
      case measure => simp [intOf] <;> omega
    · have hbL : Below w9.heap.size w9 (w9.drewN nd) := below_drewN (Below.refl _ _) nd
      have T53 := below_then T46 hbL
      have c54 : (w9.drewN nd).cell? ⟨w1.heap.size, 0, none⟩ = some (.slice A0 rs.length c0) := (hbL.cell (p := ⟨w1.heap.size, 0, none⟩) l48).trans c47
      have l55 : w1.heap.size < (w9.drewN nd).heap.size := Nat.lt_of_lt_of_le l48 hbL.size
      have r56 := r49.to hbL
      have r57 := r50.to hbL
      have r58 := r51.to hbL
      have r59 := r52.to hbL
      go_wp2_with fail
      refine (sameInts_yes A9 A6 d9 d6 (aoZ rs n) _ r59 r57 (Nat.le_trans (aoZ_len _ _) (by omega))).mono ?_
      rintro e w10 ⟨rfl, hb10⟩
      have T60 := below_then T53 hb10
      have c61 : w10.cell? ⟨w1.heap.size, 0, none⟩ = some (.slice A0 rs.length c0) := (hb10.cell (p := ⟨w1.heap.size, 0, none⟩) l55).trans c54
      have l62 : w1.heap.size < w10.heap.size := Nat.lt_of_lt_of_le l55 hb10.size
      have r63 := r56.to hb10
      have r64 := r57.to hb10
      have r65 := r58.to hb10
      have r66 := r59.to hb10
      go_wp2_with fail
      refine (iAmountLeast_any A0 A6 c0 d6 rs (aoZ rs n)  _ r63 hlr r64 (Nat.le_trans (aoZ_len _ _) (by omega))).mono ?_
      rintro e w11 ⟨rfl, hb11⟩
      have T67 := below_then T60 hb11
      have c68 : w11.cell? ⟨w1.heap.size, 0, none⟩ = some (.slice A0 rs.length c0) := (hb11.cell (p := ⟨w1.heap.size, 0, none⟩) l62).trans c61
      have l69 : w1.heap.size < w11.heap.size := Nat.lt_of_lt_of_le l62 hb11.size
      have r70 := r63.to hb11
      have r71 := r64.to hb11
      have r72 := r65.to hb11
      have r73 := r66.to hb11
      rw [HL.out]
      go_wp2_with fail
      go_ret
      exact ⟨rfl, T67⟩

end Go.Proofs.Ytmcooaopbigebaa
