/- The walk of the law FnExactAmountTake. No condition. -/
import Derived.Test.YtmcooaopbigebabMeaL
namespace Go.Proofs.Ytmcooaopbigebab
open Go.RowKit
set_option linter.unusedVariables false

set_option maxRecDepth 100000 in
set_option maxHeartbeats 4000000 in
theorem walkFnExactAmountTake (a0 : Option Addr) (len0 cap0 : Nat) (z0 : List Int) (a1 : Option Addr) (len1 cap1 : Nat) (z1 : List Int) (a2 : Option Addr) (len2 cap2 : Nat) (z2 : List Int) (w : World) (hs0 : Sl .i64 w a0 len0 cap0 z0) (hs1 : Sl .i64 w a1 len1 cap1 z1) (hs2 : Sl .i64 w a2 len2 cap2 z2) :
    Calls Try.prog 5 #[.agg #[.slice a0 len0 cap0], .slice a1 len1 cap1, .slice a2 len2 cap2] w fun e w' => e = .returned (.bool true) ∧ Below w.heap.size w w' := by
  obtain ⟨rfl, hlc0, hcm0, hR0, -⟩ := hs0
  unfold maxLen at hcm0
  have hn0 : z0.length ≤ 9223372036854775807 := by omega
  obtain ⟨rfl, hlc1, hcm1, hR1, -⟩ := hs1
  unfold maxLen at hcm1
  have hn1 : z1.length ≤ 9223372036854775807 := by omega
  obtain ⟨rfl, hlc2, hcm2, hR2, -⟩ := hs2
  unfold maxLen at hcm2
  have hn2 : z2.length ≤ 9223372036854775807 := by omega
  have hb0 : Below w.heap.size w (w.alloc (.cells #[.slice a0 z0.length cap0] 24)) := (below_new w (.cells #[.slice a0 z0.length cap0] 24))
  by_cases b1 : z1.length ≤ 1048576
  case neg =>
    have bd1 : decide (1048576 < z1.length) = true := by simp; omega
    go_enter Try.func5, Try.ntmps5
    go_wp2_with fail
    go_ret
    exact ⟨rfl, hb0⟩
  by_cases b2 : z2.length ≤ 1048576
  case neg =>
    have bd2 : decide (1048576 < z2.length) = true := by simp; omega
    go_enter Try.func5, Try.ntmps5
    go_wp2_with fail
    go_ret
    exact ⟨rfl, hb0⟩
  by_cases b0 : (z0.length : Int) ≤ 1048576
  case neg =>
    have bn0 : 1048576 < (z0.length : Int) := by omega
    go_enter Try.func5, Try.ntmps5
    go_wp2_with fail
    refine (szMeasure_no a0 z0.length cap0 (1048576) _ bn0 (by omega) hn0).mono ?_
    rintro e v1 ⟨rfl, hv1⟩
    go_wp2_with fail
    go_ret
    exact ⟨rfl, (below_then hb0 hv1)⟩
  have hl0 : z0.length ≤ 1048576 := by omega
  have hl1 : z1.length ≤ 1048576 := by omega
  have hl2 : z2.length ≤ 1048576 := by omega
  go_enter Try.func5, Try.ntmps5
  go_wp2_with fail
  have c1 : (w.alloc (.cells #[.slice a0 z0.length cap0] 24)).cell? ⟨w.heap.size, 0, none⟩ = some (.slice a0 z0.length cap0) := by go_simp
  have l2 : w.heap.size < (w.alloc (.cells #[.slice a0 z0.length cap0] 24)).heap.size := by simp
  refine (szMeasure_yes a0 z0.length cap0 (1048576) _ b0 (by omega)).mono ?_
  rintro e w1 ⟨rfl, hb1⟩
  have T3 := below_then hb0 hb1
  have c4 : w1.cell? ⟨w.heap.size, 0, none⟩ = some (.slice a0 z0.length cap0) := (hb1.cell (p := ⟨w.heap.size, 0, none⟩) l2).trans c1
  have l5 : w.heap.size < w1.heap.size := Nat.lt_of_lt_of_le l2 hb1.size
  have hp1 : (0 : Int) ≤ 1048576 - (z0.length : Int) := by omega
  go_wp2_with fail
  have q2 := hR0.to T3
  refine (toMeasure_any a0 cap0 z0 _ q2 hl0).mono ?_
  rintro e w2 ⟨A2, d2, rfl, o2, hb2⟩
  have s2 := hb2.size
  have t2 := T3.size
  have T6 := below_then T3 hb2
  have c7 : w2.cell? ⟨w.heap.size, 0, none⟩ = some (.slice a0 z0.length cap0) := (hb2.cell (p := ⟨w.heap.size, 0, none⟩) l5).trans c4
  have l8 : w.heap.size < w2.heap.size := Nat.lt_of_lt_of_le l5 hb2.size
  go_wp2_with fail
  have q3 := hR1.to T6
  refine (toIntS_any a1 cap1 z1 _ q3 hl1).mono ?_
  rintro e w3 ⟨A3, d3, rfl, o3, hb3⟩
  have s3 := hb3.size
  have t3 := T6.size
  have T9 := below_then T6 hb3
  have c10 : w3.cell? ⟨w.heap.size, 0, none⟩ = some (.slice a0 z0.length cap0) := (hb3.cell (p := ⟨w.heap.size, 0, none⟩) l8).trans c7
  have l11 : w.heap.size < w3.heap.size := Nat.lt_of_lt_of_le l8 hb3.size
  have r12 := o2.to hb3
  go_wp2_with fail
  have q4 := hR2.to T9
  refine (toIntS_any a2 cap2 z2 _ q4 hl2).mono ?_
  rintro e w4 ⟨A4, d4, rfl, o4, hb4⟩
  have s4 := hb4.size
  have t4 := T9.size
  have T13 := below_then T9 hb4
  have c14 : w4.cell? ⟨w.heap.size, 0, none⟩ = some (.slice a0 z0.length cap0) := (hb4.cell (p := ⟨w.heap.size, 0, none⟩) l11).trans c10
  have l15 : w.heap.size < w4.heap.size := Nat.lt_of_lt_of_le l11 hb4.size
  have r16 := r12.to hb4
  have r17 := o3.to hb4
  go_wp2_with fail
  refine (sAmountTake_any A2 A3 A4 d2 d3 d4 z0 z1 z2  _ r16.rd hl0 r17.rd hl1 o4.rd hl2).mono ?_
  rintro e w5 ⟨A5, d5, rfl, o5, hb5⟩
  have s5 := hb5.size
  have t5 := T13.size
  have T18 := below_then T13 hb5
  have c19 : w5.cell? ⟨w.heap.size, 0, none⟩ = some (.slice a0 z0.length cap0) := (hb5.cell (p := ⟨w.heap.size, 0, none⟩) l15).trans c14
  have l20 : w.heap.size < w5.heap.size := Nat.lt_of_lt_of_le l15 hb5.size
  have r21 := r16.to hb5
  have r22 := r17.to hb5
  have r23 := o4.to hb5
  go_wp2_with fail
  have q6 := hR0.to T18
  refine (toMeasure_any a0 cap0 z0 _ q6 hl0).mono ?_
  rintro e w6 ⟨A6, d6, rfl, o6, hb6⟩
  have s6 := hb6.size
  have t6 := T18.size
  have T24 := below_then T18 hb6
  have c25 : w6.cell? ⟨w.heap.size, 0, none⟩ = some (.slice a0 z0.length cap0) := (hb6.cell (p := ⟨w.heap.size, 0, none⟩) l20).trans c19
  have l26 : w.heap.size < w6.heap.size := Nat.lt_of_lt_of_le l20 hb6.size
  have r27 := o5.to hb6
  go_wp2_with fail
  have n28 := below_new w6 (.cells #[.slice A6 z0.length d6] 28)
  have s029 := n28.size
  have T30 := below_then T24 n28
  have c31 : (w6.alloc (.cells #[.slice A6 z0.length d6] 28)).cell? ⟨w.heap.size, 0, none⟩ = some (.slice a0 z0.length cap0) := (n28.cell (p := ⟨w.heap.size, 0, none⟩) l26).trans c25
  have l32 : w.heap.size < (w6.alloc (.cells #[.slice A6 z0.length d6] 28)).heap.size := Nat.lt_of_lt_of_le l26 n28.size
  have r33 := r27.to n28
  have r34 := o6.to n28
  have c35 : (w6.alloc (.cells #[.slice A6 z0.length d6] 28)).cell? ⟨w6.heap.size, 0, none⟩ = some (.slice A6 z0.length d6) := box_cell _ _ _
  have l36 : w6.heap.size < (w6.alloc (.cells #[.slice A6 z0.length d6] 28)).heap.size := by simp
  have q7 := hR1.to T30
  refine (toIntS_any a1 cap1 z1 _ q7 hl1).mono ?_
  rintro e w7 ⟨A7, d7, rfl, o7, hb7⟩
  have s7 := hb7.size
  have t7 := T30.size
  have T37 := below_then T30 hb7
  have c38 : w7.cell? ⟨w.heap.size, 0, none⟩ = some (.slice a0 z0.length cap0) := (hb7.cell (p := ⟨w.heap.size, 0, none⟩) l32).trans c31
  have l39 : w.heap.size < w7.heap.size := Nat.lt_of_lt_of_le l32 hb7.size
  have c40 : w7.cell? ⟨w6.heap.size, 0, none⟩ = some (.slice A6 z0.length d6) := (hb7.cell (p := ⟨w6.heap.size, 0, none⟩) l36).trans c35
  have l41 : w6.heap.size < w7.heap.size := Nat.lt_of_lt_of_le l36 hb7.size
  have r42 := r33.to hb7
  have r43 := r34.to hb7
  go_wp2_with fail
  have q8 := hR2.to T37
  refine (toIntS_any a2 cap2 z2 _ q8 hl2).mono ?_
  rintro e w8 ⟨A8, d8, rfl, o8, hb8⟩
  have s8 := hb8.size
  have t8 := T37.size
  have T44 := below_then T37 hb8
  have c45 : w8.cell? ⟨w.heap.size, 0, none⟩ = some (.slice a0 z0.length cap0) := (hb8.cell (p := ⟨w.heap.size, 0, none⟩) l39).trans c38
  have l46 : w.heap.size < w8.heap.size := Nat.lt_of_lt_of_le l39 hb8.size
  have c47 : w8.cell? ⟨w6.heap.size, 0, none⟩ = some (.slice A6 z0.length d6) := (hb8.cell (p := ⟨w6.heap.size, 0, none⟩) l41).trans c40
  have l48 : w6.heap.size < w8.heap.size := Nat.lt_of_lt_of_le l41 hb8.size
  have r49 := r42.to hb8
  have r50 := r43.to hb8
  have r51 := o7.to hb8
  go_wp2_with fail
  refine (iAmountTake_any A6 A7 A8 d6 d7 d8 z0 z1 z2  _ r50.rd hl0 r51.rd hl1 o8.rd hl2).mono ?_
  rintro e w9 ⟨A9, d9, rfl, o9, hb9⟩
  have s9 := hb9.size
  have t9 := T44.size
  have T52 := below_then T44 hb9
  have c53 : w9.cell? ⟨w.heap.size, 0, none⟩ = some (.slice a0 z0.length cap0) := (hb9.cell (p := ⟨w.heap.size, 0, none⟩) l46).trans c45
  have l54 : w.heap.size < w9.heap.size := Nat.lt_of_lt_of_le l46 hb9.size
  have c55 : w9.cell? ⟨w6.heap.size, 0, none⟩ = some (.slice A6 z0.length d6) := (hb9.cell (p := ⟨w6.heap.size, 0, none⟩) l48).trans c47
  have l56 : w6.heap.size < w9.heap.size := Nat.lt_of_lt_of_le l48 hb9.size
  have r57 := r49.to hb9
  have r58 := r50.to hb9
  have r59 := r51.to hb9
  have r60 := o8.to hb9
  go_wp2_with fail
  refine (eqIntS_b A9 A5 d9 d5 (aoZ z0 (takeN (lst z0 z1) (lst z0 z2))) _ o9.rd r57.rd (Nat.le_trans (aoZ_len _ _) (by omega))).mono ?_
  rintro e w10 ⟨rfl, hb10⟩
  have s10 := hb10.size
  have T61 := below_then T52 hb10
  have c62 : w10.cell? ⟨w.heap.size, 0, none⟩ = some (.slice a0 z0.length cap0) := (hb10.cell (p := ⟨w.heap.size, 0, none⟩) l54).trans c53
  have l63 : w.heap.size < w10.heap.size := Nat.lt_of_lt_of_le l54 hb10.size
  have c64 : w10.cell? ⟨w6.heap.size, 0, none⟩ = some (.slice A6 z0.length d6) := (hb10.cell (p := ⟨w6.heap.size, 0, none⟩) l56).trans c55
  have l65 : w6.heap.size < w10.heap.size := Nat.lt_of_lt_of_le l56 hb10.size
  have r66 := r57.to hb10
  have r67 := r58.to hb10
  have r68 := r59.to hb10
  have r69 := r60.to hb10
  have r70 := o9.to hb10
  go_wp2_with fail
  have n71 := (Below.refl w10.heap.size w10).drew
  have T72 := below_then T61 n71
  have c73 : w10.drew.cell? ⟨w.heap.size, 0, none⟩ = some (.slice a0 z0.length cap0) := (n71.cell (p := ⟨w.heap.size, 0, none⟩) l63).trans c62
  have l74 : w.heap.size < w10.drew.heap.size := Nat.lt_of_lt_of_le l63 n71.size
  have c75 : w10.drew.cell? ⟨w6.heap.size, 0, none⟩ = some (.slice A6 z0.length d6) := (n71.cell (p := ⟨w6.heap.size, 0, none⟩) l65).trans c64
  have l76 : w6.heap.size < w10.drew.heap.size := Nat.lt_of_lt_of_le l65 n71.size
  have r77 := r66.to n71
  have r78 := r67.to n71
  have r79 := r68.to n71
  have r80 := r69.to n71
  have r81 := r70.to n71
  have q11 := hR0.to T72
  have k11 := And.intro c73 c75
  go_region_held3 (fun w' => w'.cell? ⟨w.heap.size, 0, none⟩ = some (.slice a0 z0.length cap0) ∧ w'.cell? ⟨w6.heap.size, 0, none⟩ = some (.slice A6 z0.length d6)) (first | exact k11 | exact k11b | exact k11c | go_keep) (first | (go_at_call 15; refine (toMeasure_any a0 cap0 z0 _ ?_ hl0).mono ?_; exact q11; rintro e w11 ⟨A11, d11, rfl, o11, hb11⟩; have T82 := below_then T72 hb11; have c83 : w11.cell? ⟨w.heap.size, 0, none⟩ = some (.slice a0 z0.length cap0) := (hb11.cell (p := ⟨w.heap.size, 0, none⟩) l74).trans c73; have l84 : w.heap.size < w11.heap.size := Nat.lt_of_lt_of_le l74 hb11.size; have c85 : w11.cell? ⟨w6.heap.size, 0, none⟩ = some (.slice A6 z0.length d6) := (hb11.cell (p := ⟨w6.heap.size, 0, none⟩) l76).trans c75; have l86 : w6.heap.size < w11.heap.size := Nat.lt_of_lt_of_le l76 hb11.size; have r87 := r77.to hb11; have r88 := r78.to hb11; have r89 := r79.to hb11; have r90 := r80.to hb11; have r91 := r81.to hb11; have k11b := And.intro c83 c85) | (go_at_call 19; refine (eqMeasure_yes A6 A11 d6 d11 z0 _ ?_ ?_ hl0).mono ?_; exact r88.rd; exact o11.rd; rintro e w12 ⟨rfl, hb12⟩; have T92 := below_then T82 hb12; have c93 : w12.cell? ⟨w.heap.size, 0, none⟩ = some (.slice a0 z0.length cap0) := (hb12.cell (p := ⟨w.heap.size, 0, none⟩) l84).trans c83; have l94 : w.heap.size < w12.heap.size := Nat.lt_of_lt_of_le l84 hb12.size; have c95 : w12.cell? ⟨w6.heap.size, 0, none⟩ = some (.slice A6 z0.length d6) := (hb12.cell (p := ⟨w6.heap.size, 0, none⟩) l86).trans c85; have l96 : w6.heap.size < w12.heap.size := Nat.lt_of_lt_of_le l86 hb12.size; have r97 := r87.to hb12; have r98 := r88.to hb12; have r99 := r89.to hb12; have r100 := r90.to hb12; have r101 := r91.to hb12; have k11c := And.intro c93 c95))
  have s11 := hb11.size
  have s12 := hb12.size
  go_wp2_with fail
  have q13 := hR1.to T92
  refine (toIntS_any a1 cap1 z1 _ q13 hl1).mono ?_
  rintro e w13 ⟨A13, d13, rfl, o13, hb13⟩
  have s13 := hb13.size
  have t13 := T92.size
  have T102 := below_then T92 hb13
  have c103 : w13.cell? ⟨w.heap.size, 0, none⟩ = some (.slice a0 z0.length cap0) := (hb13.cell (p := ⟨w.heap.size, 0, none⟩) l94).trans c93
  have l104 : w.heap.size < w13.heap.size := Nat.lt_of_lt_of_le l94 hb13.size
  have c105 : w13.cell? ⟨w6.heap.size, 0, none⟩ = some (.slice A6 z0.length d6) := (hb13.cell (p := ⟨w6.heap.size, 0, none⟩) l96).trans c95
  have l106 : w6.heap.size < w13.heap.size := Nat.lt_of_lt_of_le l96 hb13.size
  have r107 := r97.to hb13
  have r108 := r98.to hb13
  have r109 := r99.to hb13
  have r110 := r100.to hb13
  have r111 := r101.to hb13
  go_wp2_with fail
  refine (eqIntS_b A7 A13 d7 d13 z1 _ r109.rd o13.rd hl1).mono ?_
  rintro e w14 ⟨rfl, hb14⟩
  have s14 := hb14.size
  have T112 := below_then T102 hb14
  have c113 : w14.cell? ⟨w.heap.size, 0, none⟩ = some (.slice a0 z0.length cap0) := (hb14.cell (p := ⟨w.heap.size, 0, none⟩) l104).trans c103
  have l114 : w.heap.size < w14.heap.size := Nat.lt_of_lt_of_le l104 hb14.size
  have c115 : w14.cell? ⟨w6.heap.size, 0, none⟩ = some (.slice A6 z0.length d6) := (hb14.cell (p := ⟨w6.heap.size, 0, none⟩) l106).trans c105
  have l116 : w6.heap.size < w14.heap.size := Nat.lt_of_lt_of_le l106 hb14.size
  have r117 := r107.to hb14
  have r118 := r108.to hb14
  have r119 := r109.to hb14
  have r120 := r110.to hb14
  have r121 := r111.to hb14
  have r122 := o13.to hb14
  go_wp2_with fail
  have q15 := hR2.to T112
  refine (toIntS_any a2 cap2 z2 _ q15 hl2).mono ?_
  rintro e w15 ⟨A15, d15, rfl, o15, hb15⟩
  have s15 := hb15.size
  have t15 := T112.size
  have T123 := below_then T112 hb15
  have c124 : w15.cell? ⟨w.heap.size, 0, none⟩ = some (.slice a0 z0.length cap0) := (hb15.cell (p := ⟨w.heap.size, 0, none⟩) l114).trans c113
  have l125 : w.heap.size < w15.heap.size := Nat.lt_of_lt_of_le l114 hb15.size
  have c126 : w15.cell? ⟨w6.heap.size, 0, none⟩ = some (.slice A6 z0.length d6) := (hb15.cell (p := ⟨w6.heap.size, 0, none⟩) l116).trans c115
  have l127 : w6.heap.size < w15.heap.size := Nat.lt_of_lt_of_le l116 hb15.size
  have r128 := r117.to hb15
  have r129 := r118.to hb15
  have r130 := r119.to hb15
  have r131 := r120.to hb15
  have r132 := r121.to hb15
  go_wp2_with fail
  refine (eqIntS_b A8 A15 d8 d15 z2 _ r131.rd o15.rd hl2).mono ?_
  rintro e w16 ⟨rfl, hb16⟩
  have s16 := hb16.size
  have T133 := below_then T123 hb16
  have c134 : w16.cell? ⟨w.heap.size, 0, none⟩ = some (.slice a0 z0.length cap0) := (hb16.cell (p := ⟨w.heap.size, 0, none⟩) l125).trans c124
  have l135 : w.heap.size < w16.heap.size := Nat.lt_of_lt_of_le l125 hb16.size
  have c136 : w16.cell? ⟨w6.heap.size, 0, none⟩ = some (.slice A6 z0.length d6) := (hb16.cell (p := ⟨w6.heap.size, 0, none⟩) l127).trans c126
  have l137 : w6.heap.size < w16.heap.size := Nat.lt_of_lt_of_le l127 hb16.size
  have r138 := r128.to hb16
  have r139 := r129.to hb16
  have r140 := r130.to hb16
  have r141 := r131.to hb16
  have r142 := r132.to hb16
  have r143 := o15.to hb16
  go_wp2_with fail
  refine (markMeasure_any _ A6 d6 z0 (1) _ r139 hl0 (by omega) (by omega)).mono ?_
  rintro e w17 ⟨rfl, hg17⟩
  have T144 : Below w.heap.size w w17 := T133.grown hg17 T133.size (fun k e => Nat.le_trans t6 (o6.span k e).1)
  have c145 : w17.cell? ⟨w.heap.size, 0, none⟩ = some (.slice a0 z0.length cap0) := (World.cell?_of_block (a := ⟨w.heap.size, 0, none⟩) (hg17.block w.heap.size l135 (fun e => by have := o6.span _ e.symm; omega))).trans c134
  have l146 : w.heap.size < w17.heap.size := Nat.lt_of_lt_of_le l135 hg17.size
  have c147 : w17.cell? ⟨w6.heap.size, 0, none⟩ = some (.slice A6 z0.length d6) := (World.cell?_of_block (a := ⟨w6.heap.size, 0, none⟩) (hg17.block w6.heap.size l137 (fun e => by have := o6.span _ e.symm; omega))).trans c136
  have l148 : w6.heap.size < w17.heap.size := Nat.lt_of_lt_of_le l137 hg17.size
  have r149 := IR.grown' r138 hg17 (o5.apart o6 (by omega))
  have r150 := IR.grown' r140 hg17 (fun g e e2 => o6.apart o7 (by omega) g e2 e)
  have r151 := IR.grown' r141 hg17 (fun g e e2 => o6.apart o8 (by omega) g e2 e)
  have r152 := IR.grown' r142 hg17 (fun g e e2 => o6.apart o9 (by omega) g e2 e)
  have s17 := hg17.size
  go_wp2_with fail
  refine (markIntS_any _ A7 d7 z1 (1 + (z0.length : Int)) _ r150 hl1 (by omega) (by omega)).mono ?_
  rintro e w18 ⟨rfl, -, hg18⟩
  have T153 : Below w.heap.size w w18 := T144.grown hg18 T144.size (fun k e => Nat.le_trans t7 (o7.span k e).1)
  have c154 : w18.cell? ⟨w.heap.size, 0, none⟩ = some (.slice a0 z0.length cap0) := (World.cell?_of_block (a := ⟨w.heap.size, 0, none⟩) (hg18.block w.heap.size l146 (fun e => by have := o7.span _ e.symm; omega))).trans c145
  have l155 : w.heap.size < w18.heap.size := Nat.lt_of_lt_of_le l146 hg18.size
  have c156 : w18.cell? ⟨w6.heap.size, 0, none⟩ = some (.slice A6 z0.length d6) := (World.cell?_of_block (a := ⟨w6.heap.size, 0, none⟩) (hg18.block w6.heap.size l148 (fun e => by have := o7.span _ e.symm; omega))).trans c147
  have l157 : w6.heap.size < w18.heap.size := Nat.lt_of_lt_of_le l148 hg18.size
  have r158 := IR.grown' r149 hg18 (o5.apart o7 (by omega))
  have r159 := IR.grown' r151 hg18 (fun g e e2 => o7.apart o8 (by omega) g e2 e)
  have r160 := IR.grown' r152 hg18 (fun g e e2 => o7.apart o9 (by omega) g e2 e)
  have s18 := hg18.size
  go_wp2_with fail
  refine (markIntS_any _ A8 d8 z2 (1 + (z0.length : Int) + (z1.length : Int)) _ r159 hl2 (by omega) (by omega)).mono ?_
  rintro e w19 ⟨rfl, -, hg19⟩
  have T161 : Below w.heap.size w w19 := T153.grown hg19 T153.size (fun k e => Nat.le_trans t8 (o8.span k e).1)
  have c162 : w19.cell? ⟨w.heap.size, 0, none⟩ = some (.slice a0 z0.length cap0) := (World.cell?_of_block (a := ⟨w.heap.size, 0, none⟩) (hg19.block w.heap.size l155 (fun e => by have := o8.span _ e.symm; omega))).trans c154
  have l163 : w.heap.size < w19.heap.size := Nat.lt_of_lt_of_le l155 hg19.size
  have c164 : w19.cell? ⟨w6.heap.size, 0, none⟩ = some (.slice A6 z0.length d6) := (World.cell?_of_block (a := ⟨w6.heap.size, 0, none⟩) (hg19.block w6.heap.size l157 (fun e => by have := o8.span _ e.symm; omega))).trans c156
  have l165 : w6.heap.size < w19.heap.size := Nat.lt_of_lt_of_le l157 hg19.size
  have r166 := IR.grown' r158 hg19 (o5.apart o8 (by omega))
  have r167 := IR.grown' r160 hg19 (fun g e e2 => o8.apart o9 (by omega) g e2 e)
  have s19 := hg19.size
  go_wp2_with fail
  refine (eqIntS_b A9 A5 d9 d5 (aoZ z0 (takeN (lst z0 z1) (lst z0 z2))) _ r167.rd r166.rd (Nat.le_trans (aoZ_len _ _) (by omega))).mono ?_
  rintro e w20 ⟨rfl, hb20⟩
  have s20 := hb20.size
  have T168 := below_then T161 hb20
  have c169 : w20.cell? ⟨w.heap.size, 0, none⟩ = some (.slice a0 z0.length cap0) := (hb20.cell (p := ⟨w.heap.size, 0, none⟩) l163).trans c162
  have l170 : w.heap.size < w20.heap.size := Nat.lt_of_lt_of_le l163 hb20.size
  have c171 : w20.cell? ⟨w6.heap.size, 0, none⟩ = some (.slice A6 z0.length d6) := (hb20.cell (p := ⟨w6.heap.size, 0, none⟩) l165).trans c164
  have l172 : w6.heap.size < w20.heap.size := Nat.lt_of_lt_of_le l165 hb20.size
  have r173 := r166.to hb20
  have r174 := r167.to hb20
  go_wp2_with fail
  have y21 : (aoZ z0 (takeN (lst z0 z1) (lst z0 z2))).length ≤ 1048576 := (Nat.le_trans (aoZ_len _ _) (by omega))
  refine (markIntS_any _ A9 d9 (aoZ z0 (takeN (lst z0 z1) (lst z0 z2))) (1) _ r174 y21 (by omega) (by omega)).mono ?_
  rintro e w21 ⟨rfl, u21, hg21⟩
  have T175 : Below w.heap.size w w21 := T168.grown hg21 T168.size (fun k e => Nat.le_trans t9 (o9.span k e).1)
  have c176 : w21.cell? ⟨w.heap.size, 0, none⟩ = some (.slice a0 z0.length cap0) := (World.cell?_of_block (a := ⟨w.heap.size, 0, none⟩) (hg21.block w.heap.size l170 (fun e => by have := o9.span _ e.symm; omega))).trans c169
  have l177 : w.heap.size < w21.heap.size := Nat.lt_of_lt_of_le l170 hg21.size
  have c178 : w21.cell? ⟨w6.heap.size, 0, none⟩ = some (.slice A6 z0.length d6) := (World.cell?_of_block (a := ⟨w6.heap.size, 0, none⟩) (hg21.block w6.heap.size l172 (fun e => by have := o9.span _ e.symm; omega))).trans c171
  have l179 : w6.heap.size < w21.heap.size := Nat.lt_of_lt_of_le l172 hg21.size
  have r180 := IR.grown' r173 hg21 (o5.apart o9 (by omega))
  have s21 := hg21.size
  go_wp2_with fail
  refine (heldIntS_any A9 d9 (aoZ z0 (takeN (lst z0 z1) (lst z0 z2))).length (1) _ u21.rd y21 (by omega) (by omega)).mono ?_
  rintro e w' ⟨rfl, rfl⟩
  go_wp2_with fail
  have q22 := hR0.to T175
  refine (toMeasure_any a0 cap0 z0 _ q22 hl0).mono ?_
  rintro e w22 ⟨A22, d22, rfl, o22, hb22⟩
  have s22 := hb22.size
  have t22 := T175.size
  have T181 := below_then T175 hb22
  have c182 : w22.cell? ⟨w.heap.size, 0, none⟩ = some (.slice a0 z0.length cap0) := (hb22.cell (p := ⟨w.heap.size, 0, none⟩) l177).trans c176
  have l183 : w.heap.size < w22.heap.size := Nat.lt_of_lt_of_le l177 hb22.size
  have c184 : w22.cell? ⟨w6.heap.size, 0, none⟩ = some (.slice A6 z0.length d6) := (hb22.cell (p := ⟨w6.heap.size, 0, none⟩) l179).trans c178
  have l185 : w6.heap.size < w22.heap.size := Nat.lt_of_lt_of_le l179 hb22.size
  have r186 := r180.to hb22
  have r187 := u21.to hb22
  go_wp2_with fail
  have q23 := hR1.to T181
  refine (toIntS_any a1 cap1 z1 _ q23 hl1).mono ?_
  rintro e w23 ⟨A23, d23, rfl, o23, hb23⟩
  have s23 := hb23.size
  have t23 := T181.size
  have T188 := below_then T181 hb23
  have c189 : w23.cell? ⟨w.heap.size, 0, none⟩ = some (.slice a0 z0.length cap0) := (hb23.cell (p := ⟨w.heap.size, 0, none⟩) l183).trans c182
  have l190 : w.heap.size < w23.heap.size := Nat.lt_of_lt_of_le l183 hb23.size
  have c191 : w23.cell? ⟨w6.heap.size, 0, none⟩ = some (.slice A6 z0.length d6) := (hb23.cell (p := ⟨w6.heap.size, 0, none⟩) l185).trans c184
  have l192 : w6.heap.size < w23.heap.size := Nat.lt_of_lt_of_le l185 hb23.size
  have r193 := r186.to hb23
  have r194 := r187.to hb23
  have r195 := o22.to hb23
  go_wp2_with fail
  have q24 := hR2.to T188
  refine (toIntS_any a2 cap2 z2 _ q24 hl2).mono ?_
  rintro e w24 ⟨A24, d24, rfl, o24, hb24⟩
  have s24 := hb24.size
  have t24 := T188.size
  have T196 := below_then T188 hb24
  have c197 : w24.cell? ⟨w.heap.size, 0, none⟩ = some (.slice a0 z0.length cap0) := (hb24.cell (p := ⟨w.heap.size, 0, none⟩) l190).trans c189
  have l198 : w.heap.size < w24.heap.size := Nat.lt_of_lt_of_le l190 hb24.size
  have c199 : w24.cell? ⟨w6.heap.size, 0, none⟩ = some (.slice A6 z0.length d6) := (hb24.cell (p := ⟨w6.heap.size, 0, none⟩) l192).trans c191
  have l200 : w6.heap.size < w24.heap.size := Nat.lt_of_lt_of_le l192 hb24.size
  have r201 := r193.to hb24
  have r202 := r194.to hb24
  have r203 := r195.to hb24
  have r204 := o23.to hb24
  go_wp2_with fail
  refine (iAmountTake_any A22 A23 A24 d22 d23 d24 z0 z1 z2  _ r203.rd hl0 r204.rd hl1 o24.rd hl2).mono ?_
  rintro e w25 ⟨A25, d25, rfl, o25, hb25⟩
  have s25 := hb25.size
  have t25 := T196.size
  have T205 := below_then T196 hb25
  have c206 : w25.cell? ⟨w.heap.size, 0, none⟩ = some (.slice a0 z0.length cap0) := (hb25.cell (p := ⟨w.heap.size, 0, none⟩) l198).trans c197
  have l207 : w.heap.size < w25.heap.size := Nat.lt_of_lt_of_le l198 hb25.size
  have c208 : w25.cell? ⟨w6.heap.size, 0, none⟩ = some (.slice A6 z0.length d6) := (hb25.cell (p := ⟨w6.heap.size, 0, none⟩) l200).trans c199
  have l209 : w6.heap.size < w25.heap.size := Nat.lt_of_lt_of_le l200 hb25.size
  have r210 := r201.to hb25
  have r211 := r202.to hb25
  have r212 := r203.to hb25
  have r213 := r204.to hb25
  have r214 := o24.to hb25
  go_wp2_with fail
  refine (eqIntS_b A25 A5 d25 d5 (aoZ z0 (takeN (lst z0 z1) (lst z0 z2))) _ o25.rd r210.rd (Nat.le_trans (aoZ_len _ _) (by omega))).mono ?_
  rintro e w26 ⟨rfl, hb26⟩
  have s26 := hb26.size
  have T215 := below_then T205 hb26
  have c216 : w26.cell? ⟨w.heap.size, 0, none⟩ = some (.slice a0 z0.length cap0) := (hb26.cell (p := ⟨w.heap.size, 0, none⟩) l207).trans c206
  have l217 : w.heap.size < w26.heap.size := Nat.lt_of_lt_of_le l207 hb26.size
  have c218 : w26.cell? ⟨w6.heap.size, 0, none⟩ = some (.slice A6 z0.length d6) := (hb26.cell (p := ⟨w6.heap.size, 0, none⟩) l209).trans c208
  have l219 : w6.heap.size < w26.heap.size := Nat.lt_of_lt_of_le l209 hb26.size
  have r220 := r210.to hb26
  have r221 := r211.to hb26
  have r222 := o25.to hb26
  go_wp2_with fail
  refine (heldIntS_any A9 d9 (aoZ z0 (takeN (lst z0 z1) (lst z0 z2))).length (1) _ r221.rd y21 (by omega) (by omega)).mono ?_
  rintro e w' ⟨rfl, rfl⟩
  go_wp2_with fail
  go_ret
  exact ⟨rfl, T215⟩

end Go.Proofs.Ytmcooaopbigebab
