/- The walk of the law FnAmountText. No condition but the library's table. -/
import Derived.Test.YticnnfmmfjfffaaDoorTxtW
namespace Go.Proofs.YticnnfmmfjfffaaDoor
open Go.RowKit Go.PlainAid
set_option linter.unusedVariables false
set_option linter.unusedSimpArgs false

set_option maxRecDepth 100000 in
set_option maxHeartbeats 4000000 in
theorem walkFnAmountText (a : Option Addr) (len cap : Nat) (zs : List Int) (b : Option Addr) (len2 cap2 : Nat) (ys : List Int) (w : World) (hs : Sl .u8 w a len cap zs) (hs2 : Sl .u8 w b len2 cap2 ys) (hT : TB w) :
    Calls Tryd.prog 3 #[.slice a len cap, .slice b len2 cap2] w fun e w' => e = .returned (.bool true) ∧ Below w.heap.size w w' := by
  have HS := Lib.hid hs
  obtain ⟨-, hlc, hcm, -, -⟩ := hs
  unfold maxLen at hcm
  obtain ⟨-, hlc2, hcm2, -, -⟩ := hs2
  unfold maxLen at hcm2
  by_cases hbig : len ≤ 1048576
  case neg =>
    have hbig' : decide (1048576 < len) = true := by simp; omega
    go_enter Tryd.func3, Tryd.ntmps3
    go_wp2_with fail
    go_ret
    exact ⟨rfl, Below.refl _ _⟩
  by_cases hbig2 : len2 ≤ 1048576
  case neg =>
    have hbig' : decide (1048576 < len2) = true := by simp; omega
    go_enter Tryd.func3, Tryd.ntmps3
    go_wp2_with fail
    go_ret
    exact ⟨rfl, Below.refl _ _⟩
  go_enter Tryd.func3, Tryd.ntmps3
  go_wp2_with fail
  refine (drawAmountText_any a len cap zs _ HS.out).mono ?_
  rintro e w1 ⟨rs, ns, A0, B0, c0, d0, ⟨hrl, hrb⟩, ⟨hnl, hnb⟩, rfl, ⟨r0, -⟩, ⟨n0, -⟩, hb1⟩
  clear hrb hnb
  have hlr : rs.length ≤ 1048576 := by omega
  have hln : ns.length ≤ 1048576 := by omega
  go_wp2_with fail
  have n1 := below_new w1 (.cells #[.slice A0 rs.length c0] 25)
  have T2 := below_then hb1 n1
  have r3 := r0.to n1
  have r4 := n0.to n1
  have c5 : (w1.alloc (.cells #[.slice A0 rs.length c0] 25)).cell? ⟨w1.heap.size, 0, none⟩ = some (.slice A0 rs.length c0) := box_cell _ _ _
  have l6 : w1.heap.size < (w1.alloc (.cells #[.slice A0 rs.length c0] 25)).heap.size := by simp
  by_cases hp : 0 ≤ lst rs ns
  case neg =>
    have HB := Lib.hid (txB_no hp)
    refine (iAmountText_any A0 B0 c0 d0 rs ns _ r3 hlr r4 hln (hT.to T2)).mono ?_
    rintro e w2 ⟨rfl, hb2⟩
    have T7 := below_then T2 hb2
    have c8 := (hb2.cell (p := ⟨w1.heap.size, 0, none⟩) l6).trans c5
    have r10 := r3.to hb2
    have r11 := r4.to hb2
    rw [HB.out]
    go_wp2_with fail
    refine (sAmountText_any A0 B0 c0 d0 rs ns _ r10 hlr r11 hln).mono ?_
    rintro e w3 ⟨rfl, hb3⟩
    have T12 := below_then T7 hb3
    rw [HB.out]
    go_wp2_with fail
    go_ret
    exact ⟨rfl, T12⟩
  obtain ⟨np, n5, hel⟩ := lst_elems hp
  have HEL := Lib.hid hel
  have HB := Lib.hid (txB_yes hp)
  have hsz := tx_size (ns := ns) (fun n hn => by have := hel n hn; omega)
  have hs1 := tx_some np
  have HPT := Lib.hid (tx_points np)
  have HNE := Lib.hid (fun j hj => tx_ne hp (j := j) hj)
  clear hel hp
  refine (iAmountText_any A0 B0 c0 d0 rs ns _ r3 hlr r4 hln (hT.to T2)).mono ?_
  rintro e w2 ⟨rfl, hb2⟩
  have T7 := below_then T2 hb2
  have c8 := (hb2.cell (p := ⟨w1.heap.size, 0, none⟩) l6).trans c5
  have l9 := Nat.lt_of_lt_of_le l6 hb2.size
  have r10 := r3.to hb2
  have r11 := r4.to hb2
  rw [HB.out]
  go_wp2_with fail
  refine (sAmountText_any A0 B0 c0 d0 rs ns _ r10 hlr r11 hln).mono ?_
  rintro e w3 ⟨rfl, hb3⟩
  have T12 := below_then T7 hb3
  have c13 := (hb3.cell (p := ⟨w1.heap.size, 0, none⟩) l9).trans c8
  have l14 := Nat.lt_of_lt_of_le l9 hb3.size
  have r15 := r10.to hb3
  have r16 := r11.to hb3
  rw [HB.out]
  generalize txS ns = S at *
  have hse := bs_some hs1
  have hb := get_bt S
  go_wp2_with fail
  go_loopw [9, 10] (fun q i wr => ∃ k : Nat, k ≤ S.size ∧ i = .int .i64 k ∧ q = .int .i64 (cpt S k) ∧ wr = w3) (fun _ i _ => S.size - (intOf i).toNat)
  case atStart => exact ⟨0, Nat.zero_le _, rfl, rfl, rfl⟩
  case round =>
    obtain ⟨k, hk, rfl, rfl, rfl⟩ := hrel
    have hq := cpt_bd S k
    by_cases hlt : k < S.size
    · by_cases h46 : bt S k = 46
      · have HC := Lib.hid (cpt_yes h46)
        generalize cpt S k = q at *
        go_wp2_with fail
        refine ⟨⟨k + 1, by omega, by go_num, by rw [HC.out], trivial⟩, by simp [intOf]; omega⟩
      · have HC := Lib.hid (cpt_no h46)
        generalize cpt S k = q at *
        go_wp2_with fail
        refine ⟨⟨k + 1, by omega, by go_num, by rw [HC.out], trivial⟩, by simp [intOf]; omega⟩
    · obtain rfl : k = S.size := by omega
      rw [HPT.out]
      have q0 : (0 : Int) < ns.length := by omega
      have q1 := Int.emod_nonneg (len2 : Int) (show (ns.length : Int) ≠ 0 by omega)
      have q2 := Int.emod_lt_of_pos (len2 : Int) q0
      obtain ⟨j, hj⟩ := Int.eq_ofNat_of_zero_le q1
      have HJ := Lib.hid hj
      have hjn : j < ns.length := by omega
      have tm : (len2 : Int).tmod (ns.length : Int) = (j : Int) := by rw [Int.tmod_eq_emod_of_nonneg (by omega)]; exact hj
      have hnz : ¬ (ns.length : Int) = 0 := by omega
      have hnz' : ¬ ns.length = 0 := by omega
      have hji : (j : Int) < ns.length := by omega
      have hnj := HEL.out (ix ns j) (ix_mem ns hjn)
      clear hj q1 q2 hq
      go_wp2_with (at_builtin; refine wpList_dup rfl _ _ rfl B0 d0 ns _ rfl rfl r16 np _ rfl (by simp) (by omega) ?_; intro AX cX wX hiX hbX; obtain ⟨gX, eX, hgX1, hgX2, -, -, hcX, hfX⟩ := hiX.form np; have hcj := hcX j hjn; have hfj := hfX j; subst eX; have HIS := Lib.hid (IR.set hiX j (ix ns j + 1)); clear hcX hfX; have hcmX : wX.cell? ⟨w1.heap.size, 0, none⟩ = some (.slice A0 rs.length c0) := (hbX.cell (p := ⟨w1.heap.size, 0, none⟩) l14).trans c13; have hneX : gX ≠ w1.heap.size := (by omega); have hneY := hneX.symm)
      go_region
      go_wp2_with fail
      have hbS : Below wr.heap.size wr (wX.setCell ⟨gX, j, none⟩ (.int .i64 (ix ns j + 1))).drew := (hbX.setCell hgX1 _).drew
      have T39 := below_then T12 hbS
      have r42 := r15.to hbS
      have hlx : (ns.set j (ix ns j + 1)).length ≤ 1048576 := by rw [List.length_set]; omega
      have HLX := Lib.hid (show (ns.set j (ix ns j + 1)).length = ns.length from List.length_set ..)
      have hcl := iAmountText_any A0 (some ⟨gX, 0, none⟩) c0 cX rs (ns.set j (ix ns j + 1)) _ r42 hlr HIS.out.drew1.rd hlx (hT.to T39)
      rw [HLX.out] at hcl
      have hne := bs_ne (HNE.out j hjn)
      generalize txB rs (ns.set j (ix ns j + 1)) = S2 at *
      refine hcl.mono ?_
      rintro e w7 ⟨rfl, hb7⟩
      have T45 := below_then T39 hb7
      clear hcl
      go_wp2_with fail
      go_ret
      exact ⟨rfl, T45⟩

end Go.Proofs.YticnnfmmfjfffaaDoor
