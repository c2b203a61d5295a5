/- The walk of the law FnWorths. No condition. -/
import Derived.Test.YtmcooaopbigebaaLawW
namespace Go.Proofs.Ytmcooaopbigebaa
open Go.RowKit
set_option linter.unusedVariables false

set_option maxRecDepth 100000 in
set_option maxHeartbeats 4000000 in
theorem walkFnWorths (a : Option Addr) (len cap : Nat) (zs : List Int) (w : World) (hs : Sl .u8 w a len cap zs) :
    Calls Try.prog 4 #[.slice a len cap] w fun e w' => e = .returned (.bool true) ∧ Below w.heap.size w w' := by
  have HS := Lib.hid hs
  obtain ⟨-, hlc, hcm, -, -⟩ := hs
  unfold maxLen at hcm
  by_cases hbig : len ≤ 1048576
  case neg =>
    have hbig' : decide (1048576 < len) = true := by simp; omega
    go_enter Try.func4, Try.ntmps4
    go_wp2_with fail
    go_ret
    exact ⟨rfl, Below.refl _ _⟩
  go_enter Try.func4, Try.ntmps4
  go_wp2_with fail
  refine (drawMeasureWorths_any a len cap zs _ HS.out).mono ?_
  rintro e w1 ⟨rs, A0, c0, ⟨hrl, hrb⟩, hcap, rfl, ⟨r0, -⟩, hb1⟩
  clear hrb
  have hlr : rs.length ≤ 1048576 := by omega
  go_wp2_with fail
  have n1 := below_new w1 (.cells #[.slice A0 rs.length c0] 27)
  have T2 := below_then hb1 n1
  have r3 := r0.to n1
  have c4 : (w1.alloc (.cells #[.slice A0 rs.length c0] 27)).cell? ⟨w1.heap.size, 0, none⟩ = some (.slice A0 rs.length c0) := box_cell _ _ _
  have l5 : w1.heap.size < (w1.alloc (.cells #[.slice A0 rs.length c0] 27)).heap.size := by simp
  cases hv : vldR rs with
  | false =>
    have HW := Lib.hid (mw_no hv)
    clear hv
    refine (iMeasureWorths_any A0 c0 rs  _ r3 hlr).mono ?_
    rintro e w2 ⟨A2, d2, rfl, o2, hb2⟩
    have T6 := below_then T2 hb2
    have c7 : w2.cell? ⟨w1.heap.size, 0, none⟩ = some (.slice A0 rs.length c0) := (hb2.cell (p := ⟨w1.heap.size, 0, none⟩) l5).trans c4
    have l8 : w1.heap.size < w2.heap.size := Nat.lt_of_lt_of_le l5 hb2.size
    have r9 := r3.to hb2
    rw [HW.out]
    have r10 : RD .i64 w2 w2.heap.size A2 [] := by have := o2.rd; first | exact this | ((try rw [HW.out] at this); exact this)
    go_wp2_with fail
    refine (sMeasureWorths_any A0 c0 rs  _ r9 hlr).mono ?_
    rintro e w3 ⟨A3, d3, rfl, o3, hb3⟩
    have T11 := below_then T6 hb3
    have c12 : w3.cell? ⟨w1.heap.size, 0, none⟩ = some (.slice A0 rs.length c0) := (hb3.cell (p := ⟨w1.heap.size, 0, none⟩) l8).trans c7
    have l13 : w1.heap.size < w3.heap.size := Nat.lt_of_lt_of_le l8 hb3.size
    have r14 := r9.to hb3
    have r15 := r10.to hb3
    rw [HW.out]
    have r16 : RD .i64 w3 w3.heap.size A3 [] := by have := o3.rd; first | exact this | ((try rw [HW.out] at this); exact this)
    go_wp2_with fail
    have hsa := sameInts_yes A2 A3 d2 d3 [] _ r15 r16 (by simp)
    rw [List.length_nil] at hsa
    refine hsa.mono ?_
    rintro e w4 ⟨rfl, hb4⟩
    have T17 := below_then T11 hb4
    have c18 : w4.cell? ⟨w1.heap.size, 0, none⟩ = some (.slice A0 rs.length c0) := (hb4.cell (p := ⟨w1.heap.size, 0, none⟩) l13).trans c12
    have l19 : w1.heap.size < w4.heap.size := Nat.lt_of_lt_of_le l13 hb4.size
    have r20 := r14.to hb4
    have r21 := r15.to hb4
    have r22 := r16.to hb4
    clear hsa
    go_wp2_with fail
    have hsa := sameInts_yes A2 A3 d2 d3 [] _ r21 r22 (by simp)
    rw [List.length_nil] at hsa
    refine hsa.mono ?_
    rintro e w5 ⟨rfl, hb5⟩
    have T23 := below_then T17 hb5
    have c24 : w5.cell? ⟨w1.heap.size, 0, none⟩ = some (.slice A0 rs.length c0) := (hb5.cell (p := ⟨w1.heap.size, 0, none⟩) l19).trans c18
    have l25 : w1.heap.size < w5.heap.size := Nat.lt_of_lt_of_le l19 hb5.size
    have r26 := r20.to hb5
    have r27 := r21.to hb5
    have r28 := r22.to hb5
    clear hsa
    go_wp2_with fail
    go_ret
    exact ⟨rfl, T23⟩
  | true =>
    have HW := Lib.hid (mw_yes hv)
    have HV := Lib.hid hv
    have HWL := Lib.hid (wor_len rs)
    have HIX := Lib.hid (wor_ixs hv)
    have hl4 := (vldR_iff.1 hv).1
    have hwl5 : (wor rs).length ≤ 1048576 := by rw [HWL.out]; omega
    have hw0 : (((wor rs).length : Int) == 0) = false := beq_eq_false_iff_ne.2 (by rw [HWL.out]; omega)
    clear hv
    refine (iMeasureWorths_any A0 c0 rs _ r3 hlr).mono ?_
    rintro e w6 ⟨AW, dW, rfl, oW, hb6⟩
    have T29 := below_then T2 hb6
    have c30 : w6.cell? ⟨w1.heap.size, 0, none⟩ = some (.slice A0 rs.length c0) := (hb6.cell (p := ⟨w1.heap.size, 0, none⟩) l5).trans c4
    have l31 : w1.heap.size < w6.heap.size := Nat.lt_of_lt_of_le l5 hb6.size
    have r32 := r3.to hb6
    rw [HW.out] at oW ⊢
    have hcw := oW.len.1
    have rW := oW.rd
    go_wp2_with fail
    refine (sMeasureWorths_any A0 c0 rs  _ r32 hlr).mono ?_
    rintro e w7 ⟨A7, d7, rfl, o7, hb7⟩
    have T33 := below_then T29 hb7
    have c34 : w7.cell? ⟨w1.heap.size, 0, none⟩ = some (.slice A0 rs.length c0) := (hb7.cell (p := ⟨w1.heap.size, 0, none⟩) l31).trans c30
    have l35 : w1.heap.size < w7.heap.size := Nat.lt_of_lt_of_le l31 hb7.size
    have r36 := r32.to hb7
    have r37 := rW.to hb7
    rw [HW.out]
    have r38 : RD .i64 w7 w7.heap.size A7 (wor rs) := by have := o7.rd; first | exact this | ((try rw [HW.out] at this); exact this)
    go_wp2_with fail
    refine (sameInts_yes AW A7 dW d7 (wor rs) _ r37 r38 hwl5).mono ?_
    rintro e w8 ⟨rfl, hb8⟩
    have T39 := below_then T33 hb8
    have c40 : w8.cell? ⟨w1.heap.size, 0, none⟩ = some (.slice A0 rs.length c0) := (hb8.cell (p := ⟨w1.heap.size, 0, none⟩) l35).trans c34
    have l41 : w1.heap.size < w8.heap.size := Nat.lt_of_lt_of_le l35 hb8.size
    have r42 := r36.to hb8
    have r43 := r37.to hb8
    have r44 := r38.to hb8
    go_wp2_with fail
    clear hw0
    go_loopw [7] (fun i wr => ∃ k : Nat, k ≤ rs.length ∧ i = .int .i64 k ∧ ∃ nd, wr = w8.drewN nd) (fun i _ => rs.length - (intOf i).toNat)
    case atStart => exact ⟨0, Nat.zero_le _, rfl, 0, rfl⟩
    case round =>
      obtain ⟨k, hk, rfl, nd, rfl⟩ := hrel
      have hwi : ((wor rs).length : Int) = rs.length + 1 := by rw [HWL.out]; omega
      have HWI := Lib.hid hwi
      by_cases hlt : k < rs.length
      · have hk1 : k < (wor rs).length := by rw [HWL.out]; omega
        have hk2 : k + 1 < (wor rs).length := by rw [HWL.out]; omega
        have i1 : (k : Int) < (wor rs).length := by omega
        have i2 : (k : Int) + 1 < (wor rs).length := by omega
        clear hwi
        obtain ⟨b1, f1, e1, hbb1, hc1⟩ := r43.at_ hk1
        have hc1b : w8.cell? ⟨b1, f1 + (k + 1), none⟩ = some (.int .i64 (ix (wor rs) (k + 1))) := by have h := r43; rw [e1] at h; exact h.cell hk2
        obtain ⟨b2, f2, e2, hbb2, hc2⟩ := r42.at_ hlt
        have hcb := c40
        rw [e1]
        rw [e2] at hcb
        have hst := wor_step rs k hlt
        have hx1 := HIX.out (k + 1) hk2
        have hx0 := HIX.out k hk1
        generalize ix (wor rs) k = u at *
        generalize ix (wor rs) (k + 1) = v at *
        generalize ix rs k = r at *
        have hvr : v * r = u := by rw [hst, Int.mul_comm]
        have HST := Lib.hid hst
        clear hst
        have i3 : ((k : Int) + 1).toNat = k + 1 := by omega
        have i4 : (k : Int) < rs.length := by omega
        have i5 : (0 : Int) ≤ (k : Int) + 1 := by omega
        have s1 : IntKind.i64.wrap ((k : Int) + 1) = (k : Int) + 1 := IntWalk.i64_in _ (by omega)
        have s2 : IntKind.i64.wrap (v * r) = u := by rw [hvr]; exact IntWalk.i64_in _ (by omega)
        have tt : (u != u) = false := by simp
        clear hvr
        go_wp2_with fail
        go_quiet (fail)
        clear s1 s2
        go_wp2_with fail
        go_roundw
        case rel => exact ⟨k + 1, by omega, by go_num, _, rfl⟩
        case measure => simp [intOf] <;> omega
      · obtain rfl : k = rs.length := by omega
        have hbL : Below w8.heap.size w8 (w8.drewN nd) := below_drewN (Below.refl _ _) nd
        have T45 := below_then T39 hbL
        have c46 : (w8.drewN nd).cell? ⟨w1.heap.size, 0, none⟩ = some (.slice A0 rs.length c0) := (hbL.cell (p := ⟨w1.heap.size, 0, none⟩) l41).trans c40
        have l47 : w1.heap.size < (w8.drewN nd).heap.size := Nat.lt_of_lt_of_le l41 hbL.size
        have r48 := r42.to hbL
        have r49 := r43.to hbL
        have r50 := r44.to hbL
        have n51 := (Below.refl (w8.drewN nd).heap.size (w8.drewN nd)).drew
        have hk1 : rs.length < (wor rs).length := by rw [HWL.out]; omega
        obtain ⟨b1, f1, e1, hbb1, hc1⟩ := r43.at_ hk1
        rw [wor_last] at hc1
        have i1 : (rs.length : Int) < (wor rs).length := by omega
        have s1 : IntKind.i64.wrap (((wor rs).length : Int) - 1) = rs.length := by rw [hwi, show (rs.length : Int) + 1 - 1 = rs.length by omega]; exact IntWalk.i64_in _ (by omega)
        have s2 : IntKind.i64.wrap ((rs.length : Int) + 1) = rs.length + 1 := IntWalk.i64_in _ (by omega)
        have t1 : (((wor rs).length : Int) == (rs.length : Int) + 1) = true := beq_iff_eq.2 hwi
        rw [e1]
        by_cases hn : rs.length = 0
        · have t2 : (((wor rs).length : Int) == 1) = true := beq_iff_eq.2 (by omega)
          clear hwi hn hlt
          have i0 : ¬ (rs.length : Int) + 1 < (wor rs).length := by have := HWI.out; omega
          go_wp2_with fail
          go_quiet (fail)
          clear s1 s2
          go_wp2_with fail
          go_ret
          exact ⟨rfl, below_drewN T45 _⟩
        · have t2 : (((wor rs).length : Int) == 1) = false := beq_eq_false_iff_ne.2 (by omega)
          have hne : rs ≠ [] := fun h => hn (by rw [h]; rfl)
          have HTW := Lib.hid (wor_tail hne)
          have HTV := Lib.hid (mw_yes (vldR_tail HV.out))
          have HTL := Lib.hid (show (wor rs).length - 1 = (wor rs.tail).length by rw [← HTW.out, List.length_tail])
          have HRL := Lib.hid (show rs.tail.length = rs.length - 1 from List.length_tail)
          have hrp : 0 < rs.length := by omega
          have i2 : (1 : Int) ≤ rs.length := by omega
          have i3 : (1 : Int) ≤ (wor rs).length := by omega
          have i4 : (rs.length : Int) ≤ c0 := by omega
          have i5 : ((wor rs).length : Int) ≤ dW := by omega
          have i6 : ¬ (dW : Int) = 1 := by omega
          have i6' : ¬ dW = 1 := by omega
          obtain ⟨b2, f2, e2, hbb2, hc2⟩ := r48.at_ hrp
          have htl : rs.tail.length ≤ 1048576 := by rw [HRL.out]; omega
          have hwtl : (wor rs.tail).length ≤ 1048576 := by rw [← HTL.out]; omega
          have T52 := below_then T45 n51
          have c53 : (w8.drewN nd).drew.cell? ⟨w1.heap.size, 0, none⟩ = some (.slice A0 rs.length c0) := (n51.cell (p := ⟨w1.heap.size, 0, none⟩) l47).trans c46
          have l54 : w1.heap.size < (w8.drewN nd).drew.heap.size := Nat.lt_of_lt_of_le l47 n51.size
          have r55 := r48.to n51
          have r56 := r49.to n51
          have r57 := r50.to n51
          have hcO : (w8.drewN nd).drew.cell? ⟨b1, f1 + rs.length, none⟩ = some (.int .i64 1) := hc1
          have hcB := c53
          rw [e2] at hcB
          have rT := tail_rd2 (e2 ▸ r55) hrp
          have rO := tail_rd2 (e1 ▸ r56) (by omega)
          rw [HTW.out] at rO
          have rN : RD .i64 (w8.drewN nd).drew (w8.drewN nd).drew.heap.size (some ⟨b2, f2, none⟩) [] := RD.nil
          have i0 : ¬ (rs.length : Int) + 1 < (wor rs).length := by omega
          have K1 := And.intro hcO hcB
          have hlb1 : b1 < (w8.drewN nd).drew.heap.size := hbb1
          have hlbm : w1.heap.size < (w8.drewN nd).drew.heap.size := l54
          have hTT := T52
          clear hwi hlt
          by_cases hc1 : c0 = 1
          · have hr1 : rs.length = 1 := by omega
            have HTN := Lib.hid (show rs.tail = [] from List.eq_nil_of_length_eq_zero (by rw [HRL.out]; omega))
            have hcl := iMeasureWorths_any (some ⟨b2, f2, none⟩) 0 [] _ rN (by simp)
            rw [List.length_nil] at hcl
            have HCL := Lib.hid hcl
            have HTV2 := Lib.hid (show mw [] = wor rs.tail by rw [← HTN.out]; exact HTV.out)
            clear hcl hr1 HTV
            have HTV := HTV2
            clear HTV2
            subst hc1
            go_wp2_with fail
            go_region_held3 (fun w' => w'.cell? ⟨b1, f1 + rs.length, none⟩ = some (.int .i64 1) ∧ w'.cell? ⟨w1.heap.size, 0, none⟩ = some (.slice (some ⟨b2, f2, none⟩) rs.length 1)) (first | exact K1 | exact K2 | exact K3 | go_keep) (first | (go_at_call 21; refine (HCL.out).mono ?_; rintro e wa ⟨AX, dX, rfl, oX, hba⟩; rw [HTV.out] at oX ⊢; have rX := oX.rd; have rOa := rO.to hba; have Ta := below_then hTT hba; have K2 := And.intro ((hba.cell (p := ⟨b1, f1 + rs.length, none⟩) hlb1).trans hcO) ((hba.cell (p := ⟨w1.heap.size, 0, none⟩) hlbm).trans hcB)) | (go_at_call 23; rw [HTL.out]; refine (sameInts_yes AX (some ⟨b1, f1 + 1, none⟩) dX (dW - 1) (wor rs.tail) _ ?_ ?_ hwtl).mono ?_; exact rX; exact rOa; rintro e wb ⟨rfl, hbb⟩; have Tb := below_then Ta hbb; have K3 := And.intro ((hbb.cell (p := ⟨b1, f1 + rs.length, none⟩) (Nat.lt_of_lt_of_le hlb1 hba.size)).trans K2.1) ((hbb.cell (p := ⟨w1.heap.size, 0, none⟩) (Nat.lt_of_lt_of_le hlbm hba.size)).trans K2.2)))
            clear s1 s2
            go_wp2_with fail
            go_ret
            exact ⟨rfl, Tb⟩
          · have i7 : ¬ (c0 : Int) = 1 := by omega
            have hcl := iMeasureWorths_any (some ⟨b2, f2 + 1, none⟩) (c0 - 1) rs.tail _ rT htl
            rw [HRL.out] at hcl
            have HCL := Lib.hid hcl
            clear hcl
            go_wp2_with fail
            go_region_held3 (fun w' => w'.cell? ⟨b1, f1 + rs.length, none⟩ = some (.int .i64 1) ∧ w'.cell? ⟨w1.heap.size, 0, none⟩ = some (.slice (some ⟨b2, f2, none⟩) rs.length c0)) (first | exact K1 | exact K2 | exact K3 | go_keep) (first | (go_at_call 21; refine (HCL.out).mono ?_; rintro e wa ⟨AX, dX, rfl, oX, hba⟩; rw [HTV.out] at oX ⊢; have rX := oX.rd; have rOa := rO.to hba; have Ta := below_then hTT hba; have K2 := And.intro ((hba.cell (p := ⟨b1, f1 + rs.length, none⟩) hlb1).trans hcO) ((hba.cell (p := ⟨w1.heap.size, 0, none⟩) hlbm).trans hcB)) | (go_at_call 23; rw [HTL.out]; refine (sameInts_yes AX (some ⟨b1, f1 + 1, none⟩) dX (dW - 1) (wor rs.tail) _ ?_ ?_ hwtl).mono ?_; exact rX; exact rOa; rintro e wb ⟨rfl, hbb⟩; have Tb := below_then Ta hbb; have K3 := And.intro ((hbb.cell (p := ⟨b1, f1 + rs.length, none⟩) (Nat.lt_of_lt_of_le hlb1 hba.size)).trans K2.1) ((hbb.cell (p := ⟨w1.heap.size, 0, none⟩) (Nat.lt_of_lt_of_le hlbm hba.size)).trans K2.2)))
            clear s1 s2
            go_wp2_with fail
            go_ret
            exact ⟨rfl, Tb⟩

end Go.Proofs.Ytmcooaopbigebaa
