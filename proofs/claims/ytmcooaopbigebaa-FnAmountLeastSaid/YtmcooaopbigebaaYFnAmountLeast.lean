/- The walk of the law FnAmountLeast. No condition. -/
import Derived.Test.YtmcooaopbigebaaLawL
namespace Go.Proofs.Ytmcooaopbigebaa
open Go.RowKit
set_option linter.unusedVariables false

set_option maxRecDepth 100000 in
set_option maxHeartbeats 4000000 in
theorem walkFnAmountLeast (a : Option Addr) (len cap : Nat) (zs : List Int) (b : Option Addr) (len2 cap2 : Nat) (ys : List Int) (w : World) (hs : Sl .u8 w a len cap zs) (hs2 : Sl .u8 w b len2 cap2 ys) :
    Calls Try.prog 9 #[.slice a len cap, .slice b len2 cap2] w fun e w' => e = .returned (.bool true) ∧ Below w.heap.size w w' := by
  have HS := Lib.hid hs
  obtain ⟨-, hlc, hcm, -, -⟩ := hs
  unfold maxLen at hcm
  obtain ⟨-, hlc2, hcm2, -, -⟩ := hs2
  unfold maxLen at hcm2
  by_cases hbig : len ≤ 1048576
  case neg =>
    have hbig' : decide (1048576 < len) = true := by simp; omega
    go_enter Try.func9, Try.ntmps9
    go_wp2_with fail
    go_ret
    exact ⟨rfl, Below.refl _ _⟩
  by_cases hbig2 : len2 ≤ 1048576
  case neg =>
    have hbig' : decide (1048576 < len2) = true := by simp; omega
    go_enter Try.func9, Try.ntmps9
    go_wp2_with fail
    go_ret
    exact ⟨rfl, Below.refl _ _⟩
  go_enter Try.func9, Try.ntmps9
  go_wp2_with fail
  refine (drawAmountLeast_any a len cap zs _ HS.out).mono ?_
  rintro e w1 ⟨rs, ns, A0, B0, c0, d0, ⟨hrl, hrb⟩, ⟨hnl, hnb⟩, rfl, ⟨r0, -⟩, ⟨n0, -⟩, hb1⟩
  have HRB := Lib.hid hrb
  have HNB := Lib.hid hnb
  clear hrb hnb
  have hlr : rs.length ≤ 1048576 := by omega
  have hln : ns.length ≤ 1048576 := by omega
  go_wp2_with fail
  have n1 := below_new w1 (.cells #[.slice A0 rs.length c0] 27)
  have T2 := below_then hb1 n1
  have r3 := r0.to n1
  have r4 := n0.to n1
  have c5 : (w1.alloc (.cells #[.slice A0 rs.length c0] 27)).cell? ⟨w1.heap.size, 0, none⟩ = some (.slice A0 rs.length c0) := box_cell _ _ _
  have l6 : w1.heap.size < (w1.alloc (.cells #[.slice A0 rs.length c0] 27)).heap.size := by simp
  obtain ⟨N, hN⟩ : ∃ N, lst rs ns = N := ⟨_, rfl⟩
  have HN := Lib.hid hN
  have hbd := lst_bd rs ns
  rw [hN] at hbd
  clear hN
  by_cases hp : 0 ≤ N
  case neg =>
    obtain rfl : N = -1 := by omega
    refine (iAmountLeast_any A0 B0 c0 d0 rs ns  _ r3 hlr r4 hln).mono ?_
    rintro e w2 ⟨rfl, hb2⟩
    have T7 := below_then T2 hb2
    have c8 : w2.cell? ⟨w1.heap.size, 0, none⟩ = some (.slice A0 rs.length c0) := (hb2.cell (p := ⟨w1.heap.size, 0, none⟩) l6).trans c5
    have l9 : w1.heap.size < w2.heap.size := Nat.lt_of_lt_of_le l6 hb2.size
    have r10 := r3.to hb2
    have r11 := r4.to hb2
    rw [HN.out]
    go_wp2_with fail
    refine (sAmountLeast_any A0 B0 c0 d0 rs ns  _ r10 hlr r11 hln).mono ?_
    rintro e w3 ⟨rfl, hb3⟩
    have T12 := below_then T7 hb3
    have c13 : w3.cell? ⟨w1.heap.size, 0, none⟩ = some (.slice A0 rs.length c0) := (hb3.cell (p := ⟨w1.heap.size, 0, none⟩) l9).trans c8
    have l14 : w1.heap.size < w3.heap.size := Nat.lt_of_lt_of_le l9 hb3.size
    have r15 := r10.to hb3
    have r16 := r11.to hb3
    rw [HN.out]
    go_wp2_with fail
    go_ret
    exact ⟨rfl, T12⟩
  have HV := Lib.hid (lst_vld (rs := rs) (list := ns) (by rw [HN.out]; exact hp))
  have HW := Lib.hid (mw_yes HV.out.1)
  have HD := Lib.hid (lst_nn HN.out hp)
  have HWL := Lib.hid (wor_len rs)
  have HIX := Lib.hid (wor_ixs HV.out.1)
  have hl4 := (vldR_iff.1 HV.out.1).1
  have hnp : 0 < ns.length := by have := HV.out.2; omega
  have hnl5 : ns.length ≤ 5 := by have := HV.out.2; omega
  have hwl5 : (wor rs).length ≤ 1048576 := by rw [HWL.out]; omega
  refine (iAmountLeast_any A0 B0 c0 d0 rs ns  _ r3 hlr r4 hln).mono ?_
  rintro e w4 ⟨rfl, hb4⟩
  have T17 := below_then T2 hb4
  have c18 : w4.cell? ⟨w1.heap.size, 0, none⟩ = some (.slice A0 rs.length c0) := (hb4.cell (p := ⟨w1.heap.size, 0, none⟩) l6).trans c5
  have l19 : w1.heap.size < w4.heap.size := Nat.lt_of_lt_of_le l6 hb4.size
  have r20 := r3.to hb4
  have r21 := r4.to hb4
  rw [HN.out]
  go_wp2_with fail
  refine (sAmountLeast_any A0 B0 c0 d0 rs ns  _ r20 hlr r21 hln).mono ?_
  rintro e w5 ⟨rfl, hb5⟩
  have T22 := below_then T17 hb5
  have c23 : w5.cell? ⟨w1.heap.size, 0, none⟩ = some (.slice A0 rs.length c0) := (hb5.cell (p := ⟨w1.heap.size, 0, none⟩) l19).trans c18
  have l24 : w1.heap.size < w5.heap.size := Nat.lt_of_lt_of_le l19 hb5.size
  have r25 := r20.to hb5
  have r26 := r21.to hb5
  rw [HN.out]
  go_wp2_with fail
  refine (iMeasureWorths_any A0 c0 rs  _ r25 hlr).mono ?_
  rintro e w6 ⟨A6, d6, rfl, o6, hb6⟩
  have T27 := below_then T22 hb6
  have c28 : w6.cell? ⟨w1.heap.size, 0, none⟩ = some (.slice A0 rs.length c0) := (hb6.cell (p := ⟨w1.heap.size, 0, none⟩) l24).trans c23
  have l29 : w1.heap.size < w6.heap.size := Nat.lt_of_lt_of_le l24 hb6.size
  have r30 := r25.to hb6
  have r31 := r26.to hb6
  rw [HW.out]
  have r32 : RD .i64 w6 w6.heap.size A6 (wor rs) := by have := o6.rd; first | exact this | ((try rw [HW.out] at this); exact this)
  go_wp2_with fail
  go_loopw [10, 11] (fun s i wr => ∃ k : Nat, k ≤ ns.length ∧ i = .int .i64 k ∧ s = .int .i64 (dot (ns.take k) ((wor rs).take k)) ∧ ∃ nd, wr = w6.drewN nd) (fun _ i _ => ns.length - (intOf i).toNat)
  case atStart => exact ⟨0, Nat.zero_le _, rfl, by simp [dot_nil], 0, rfl⟩
  case round =>
    obtain ⟨k, hk, rfl, rfl, nd, rfl⟩ := hrel
    have hb1 := dot_take_le ns (wor rs) k HD.out.2 (wor_mem HV.out.1)
    rw [HD.out.1] at hb1
    by_cases hlt : k < ns.length
    · have hjr : k < (wor rs).length := by rw [HWL.out]; have := HV.out.2; omega
      have HS := Lib.hid (dot_take ns (wor rs) k hlt hjr)
      have hb2 := dot_take_le ns (wor rs) (k + 1) HD.out.2 (wor_mem HV.out.1)
      rw [HD.out.1, HS.out] at hb2
      obtain ⟨b1, f1, e1, hbb1, hc1⟩ := r32.at_ hjr
      obtain ⟨b2, f2, e2, hbb2, hc2⟩ := r31.at_ hlt
      rw [e1, e2]
      have hx := HIX.out k hjr
      have hy := HD.out.2 (ix ns k) (ix_mem ns hlt)
      have i1 : (k : Int) < ns.length := by omega
      have i2 : (k : Int) < (wor rs).length := by omega
      generalize ix ns k = u at *
      generalize ix (wor rs) k = v at *
      generalize dot (ns.take k) ((wor rs).take k) = d at *
      have hm := Int.mul_nonneg hy (show 0 ≤ v by omega)
      have s1 : IntKind.i64.wrap (u * v) = u * v := IntWalk.i64_in _ (by omega)
      have s2 : IntKind.i64.wrap (d + u * v) = d + u * v := IntWalk.i64_in _ (by omega)
      go_wp2_with fail
      go_quiet (fail)
      clear s1 s2
      go_wp2_with fail
      go_roundw
      case rel => exact ⟨k + 1, by omega, by go_num, by rw [HS.out], _, rfl⟩
      case measure => simp [intOf] <;> omega
    · have hbL : Below w6.heap.size w6 (w6.drewN nd) := below_drewN (Below.refl _ _) nd
      have T33 := below_then T27 hbL
      have c34 : (w6.drewN nd).cell? ⟨w1.heap.size, 0, none⟩ = some (.slice A0 rs.length c0) := (hbL.cell (p := ⟨w1.heap.size, 0, none⟩) l29).trans c28
      have l35 : w1.heap.size < (w6.drewN nd).heap.size := Nat.lt_of_lt_of_le l29 hbL.size
      have r36 := r30.to hbL
      have r37 := r31.to hbL
      have r38 := r32.to hbL
      have HSUM := Lib.hid (show dot (ns.take k) ((wor rs).take k) = N by rw [List.take_of_length_le (by omega), List.take_of_length_le (by rw [HWL.out]; have := HV.out.2; omega)]; exact HD.out.1)
      rw [HSUM.out]
      have q0 : (0 : Int) < ns.length := by omega
      have q1 := Int.emod_nonneg (len2 : Int) (show (ns.length : Int) ≠ 0 by omega)
      have q2 := Int.emod_lt_of_pos (len2 : Int) q0
      obtain ⟨j, hj⟩ := Int.eq_ofNat_of_zero_le q1
      have HJ := Lib.hid hj
      have hjn : j < ns.length := by omega
      have hjw : j < (wor rs).length := by rw [HWL.out]; have := HV.out.2; omega
      have tm : (len2 : Int).tmod (ns.length : Int) = (j : Int) := by rw [Int.tmod_eq_emod_of_nonneg (by omega)]; exact hj
      have hnz : ¬ (ns.length : Int) = 0 := by omega
      have hnz' : ¬ ns.length = 0 := by omega
      have hji : (j : Int) < ns.length := by omega
      have hltm : w1.heap.size < (w6.drewN nd).heap.size := l35
      have hrdl : RD .i64 (w6.drewN nd) (w6.drewN nd).heap.size B0 ns := r37
      clear hj q1 q2
      go_wp2_with (at_builtin; refine wpList_dup rfl _ _ rfl B0 d0 ns _ rfl rfl hrdl hnp _ rfl (by simp) (by omega) ?_; intro AX cX wX hiX hbX; obtain ⟨gX, eX, hgX1, hgX2, -, -, hcX, hfX⟩ := hiX.form hnp; have hcj := hcX j hjn; have hfj := hfX j; subst eX; have HIS := Lib.hid (IR.set hiX j (ix ns j + 1)); have hnj := HD.out.2 (ix ns j) (ix_mem ns hjn); have hnj2 := (HNB.out (ix ns j) (ix_mem ns hjn)).2; clear hcX hfX; have hcmX : wX.cell? ⟨w1.heap.size, 0, none⟩ = some (.slice A0 rs.length c0) := (hbX.cell (p := ⟨w1.heap.size, 0, none⟩) l35).trans c34; have hneX : gX ≠ w1.heap.size := (by omega); have hneY := hneX.symm)
      have hbS : Below (w6.drewN nd).heap.size (w6.drewN nd) (wX.setCell ⟨gX, j, none⟩ (.int .i64 (ix ns j + 1))) := hbX.setCell hgX1 _
      have T39 := below_then T33 hbS
      have c40 : (wX.setCell ⟨gX, j, none⟩ (.int .i64 (ix ns j + 1))).cell? ⟨w1.heap.size, 0, none⟩ = some (.slice A0 rs.length c0) := (hbS.cell (p := ⟨w1.heap.size, 0, none⟩) l35).trans c34
      have l41 : w1.heap.size < (wX.setCell ⟨gX, j, none⟩ (.int .i64 (ix ns j + 1))).heap.size := Nat.lt_of_lt_of_le l35 hbS.size
      have r42 := r36.to hbS
      have r43 := r37.to hbS
      have r44 := r38.to hbS
      have hlx : (ns.set j (ix ns j + 1)).length ≤ 1048576 := by rw [List.length_set]; omega
      have HLX := Lib.hid (show (ns.set j (ix ns j + 1)).length = ns.length from List.length_set ..)
      have hcl := iAmountLeast_any A0 (some ⟨gX, 0, none⟩) c0 cX rs (ns.set j (ix ns j + 1)) _ r42 hlr HIS.out.rd hlx
      rw [HLX.out] at hcl
      refine hcl.mono ?_
      rintro e w7 ⟨rfl, hb7⟩
      have T45 := below_then T39 hb7
      have c46 : w7.cell? ⟨w1.heap.size, 0, none⟩ = some (.slice A0 rs.length c0) := (hb7.cell (p := ⟨w1.heap.size, 0, none⟩) l41).trans c40
      have l47 : w1.heap.size < w7.heap.size := Nat.lt_of_lt_of_le l41 hb7.size
      have r48 := r42.to hb7
      have r49 := r43.to hb7
      have r50 := r44.to hb7
      obtain ⟨b3, f3, e3, hbb3, hc3⟩ := r50.at_ hjw
      rw [e3]
      have hx3 := HIX.out j hjw
      have hj3 : (j : Int) < (wor rs).length := by omega
      have HMO := Lib.hid (lst_more HN.out hp j hjn)
      generalize ix (wor rs) j = v at *
      generalize lst rs (ns.set j (ix ns j + 1)) = y at *
      clear hcl
      rcases HMO.out with ⟨h1, h2⟩ | ⟨h1, h2⟩
      · have hy1 : (y == -1) = false := beq_eq_false_iff_ne.2 (by omega)
        have hy2 : (y == N + v) = true := by simp [h2]
        clear h2
        go_wp2_with fail
        go_ret
        exact ⟨rfl, T45⟩
      · subst h2
        go_wp2_with fail
        go_ret
        exact ⟨rfl, T45⟩

end Go.Proofs.Ytmcooaopbigebaa
