/- The walk of the law FnExactAmountShare. No condition. -/
import Derived.Test.YtmcooaopbigebabMeaL
namespace Go.Proofs.Ytmcooaopbigebab
open Go.RowKit
set_option linter.unusedVariables false

set_option maxRecDepth 100000 in
set_option maxHeartbeats 4000000 in
theorem walkFnExactAmountShare (a0 : Option Addr) (len0 cap0 : Nat) (z0 : List Int) (a1 : Option Addr) (len1 cap1 : Nat) (z1 : List Int) (n2 : Int) (wf2 : (Lit.int .i64 n2).wf = true) (w : World) (hs0 : Sl .i64 w a0 len0 cap0 z0) (hs1 : Sl .i64 w a1 len1 cap1 z1) :
    Calls Try.prog 3 #[.agg #[.slice a0 len0 cap0], .slice a1 len1 cap1, .int .i64 n2] w fun e w' => e = .returned (.bool true) ∧ Below w.heap.size w w' := by
  obtain ⟨rfl, hlc0, hcm0, hR0, -⟩ := hs0
  unfold maxLen at hcm0
  have hn0 : z0.length ≤ 9223372036854775807 := by omega
  obtain ⟨rfl, hlc1, hcm1, hR1, -⟩ := hs1
  unfold maxLen at hcm1
  have hn1 : z1.length ≤ 9223372036854775807 := by omega
  have hb0 : Below w.heap.size w (w.alloc (.cells #[.slice a0 z0.length cap0] 24)) := (below_new w (.cells #[.slice a0 z0.length cap0] 24))
  by_cases b1 : z1.length ≤ 1048576
  case neg =>
    have bd1 : decide (1048576 < z1.length) = true := by simp; omega
    go_enter Try.func3, Try.ntmps3
    go_wp2_with fail
    go_ret
    exact ⟨rfl, hb0⟩
  by_cases b0 : (z0.length : Int) ≤ 1048576
  case neg =>
    have bn0 : 1048576 < (z0.length : Int) := by omega
    go_enter Try.func3, Try.ntmps3
    go_wp2_with fail
    refine (szMeasure_no a0 z0.length cap0 (1048576) _ bn0 (by omega) hn0).mono ?_
    rintro e v1 ⟨rfl, hv1⟩
    go_wp2_with fail
    go_ret
    exact ⟨rfl, (below_then hb0 hv1)⟩
  have hl0 : z0.length ≤ 1048576 := by omega
  have hl1 : z1.length ≤ 1048576 := by omega
  go_enter Try.func3, Try.ntmps3
  go_wp2_with fail
  have c1 : (w.alloc (.cells #[.slice a0 z0.length cap0] 24)).cell? ⟨w.heap.size, 0, none⟩ = some (.slice a0 z0.length cap0) := by go_simp
  have l2 : w.heap.size < (w.alloc (.cells #[.slice a0 z0.length cap0] 24)).heap.size := by simp
  refine (szMeasure_yes a0 z0.length cap0 (1048576) _ b0 (by omega)).mono ?_
  rintro e w1 ⟨rfl, hb1⟩
  have T3 := below_then hb0 hb1
  have c4 : w1.cell? ⟨w.heap.size, 0, none⟩ = some (.slice a0 z0.length cap0) := (hb1.cell (p := ⟨w.heap.size, 0, none⟩) l2).trans c1
  have l5 : w.heap.size < w1.heap.size := Nat.lt_of_lt_of_le l2 hb1.size
  have hp1 : (0 : Int) ≤ 1048576 - (z0.length : Int) := by omega
  go_wp2_with fail
  have q2 := hR0.to T3
  refine (toMeasure_any a0 cap0 z0 _ q2 hl0).mono ?_
  rintro e w2 ⟨A2, d2, rfl, o2, hb2⟩
  have s2 := hb2.size
  have t2 := T3.size
  have T6 := below_then T3 hb2
  have c7 : w2.cell? ⟨w.heap.size, 0, none⟩ = some (.slice a0 z0.length cap0) := (hb2.cell (p := ⟨w.heap.size, 0, none⟩) l5).trans c4
  have l8 : w.heap.size < w2.heap.size := Nat.lt_of_lt_of_le l5 hb2.size
  go_wp2_with fail
  have q3 := hR1.to T6
  refine (toIntS_any a1 cap1 z1 _ q3 hl1).mono ?_
  rintro e w3 ⟨A3, d3, rfl, o3, hb3⟩
  have s3 := hb3.size
  have t3 := T6.size
  have T9 := below_then T6 hb3
  have c10 : w3.cell? ⟨w.heap.size, 0, none⟩ = some (.slice a0 z0.length cap0) := (hb3.cell (p := ⟨w.heap.size, 0, none⟩) l8).trans c7
  have l11 : w.heap.size < w3.heap.size := Nat.lt_of_lt_of_le l8 hb3.size
  have r12 := o2.to hb3
  go_wp2_with fail
  refine (sAmountShare_any A2 A3 d2 d3 z0 z1 n2 _ r12.rd hl0 o3.rd hl1).mono ?_
  rintro e w4 ⟨A4, d4, A4b, d4b, rfl, o4, o4b, ap4, hb4⟩
  have s4 := hb4.size
  have t4 := T9.size
  have T13 := below_then T9 hb4
  have c14 : w4.cell? ⟨w.heap.size, 0, none⟩ = some (.slice a0 z0.length cap0) := (hb4.cell (p := ⟨w.heap.size, 0, none⟩) l11).trans c10
  have l15 : w.heap.size < w4.heap.size := Nat.lt_of_lt_of_le l11 hb4.size
  have r16 := r12.to hb4
  have r17 := o3.to hb4
  go_wp2_with fail
  have q5 := hR0.to T13
  refine (toMeasure_any a0 cap0 z0 _ q5 hl0).mono ?_
  rintro e w5 ⟨A5, d5, rfl, o5, hb5⟩
  have s5 := hb5.size
  have t5 := T13.size
  have T18 := below_then T13 hb5
  have c19 : w5.cell? ⟨w.heap.size, 0, none⟩ = some (.slice a0 z0.length cap0) := (hb5.cell (p := ⟨w.heap.size, 0, none⟩) l15).trans c14
  have l20 : w.heap.size < w5.heap.size := Nat.lt_of_lt_of_le l15 hb5.size
  have r21 := o4.to hb5
  have r22 := o4b.to hb5
  go_wp2_with fail
  have n23 := below_new w5 (.cells #[.slice A5 z0.length d5] 28)
  have s024 := n23.size
  have T25 := below_then T18 n23
  have c26 : (w5.alloc (.cells #[.slice A5 z0.length d5] 28)).cell? ⟨w.heap.size, 0, none⟩ = some (.slice a0 z0.length cap0) := (n23.cell (p := ⟨w.heap.size, 0, none⟩) l20).trans c19
  have l27 : w.heap.size < (w5.alloc (.cells #[.slice A5 z0.length d5] 28)).heap.size := Nat.lt_of_lt_of_le l20 n23.size
  have r28 := r21.to n23
  have r29 := r22.to n23
  have r30 := o5.to n23
  have c31 : (w5.alloc (.cells #[.slice A5 z0.length d5] 28)).cell? ⟨w5.heap.size, 0, none⟩ = some (.slice A5 z0.length d5) := box_cell _ _ _
  have l32 : w5.heap.size < (w5.alloc (.cells #[.slice A5 z0.length d5] 28)).heap.size := by simp
  have q6 := hR1.to T25
  refine (toIntS_any a1 cap1 z1 _ q6 hl1).mono ?_
  rintro e w6 ⟨A6, d6, rfl, o6, hb6⟩
  have s6 := hb6.size
  have t6 := T25.size
  have T33 := below_then T25 hb6
  have c34 : w6.cell? ⟨w.heap.size, 0, none⟩ = some (.slice a0 z0.length cap0) := (hb6.cell (p := ⟨w.heap.size, 0, none⟩) l27).trans c26
  have l35 : w.heap.size < w6.heap.size := Nat.lt_of_lt_of_le l27 hb6.size
  have c36 : w6.cell? ⟨w5.heap.size, 0, none⟩ = some (.slice A5 z0.length d5) := (hb6.cell (p := ⟨w5.heap.size, 0, none⟩) l32).trans c31
  have l37 : w5.heap.size < w6.heap.size := Nat.lt_of_lt_of_le l32 hb6.size
  have r38 := r28.to hb6
  have r39 := r29.to hb6
  have r40 := r30.to hb6
  go_wp2_with fail
  refine (iAmountShare_any A5 A6 d5 d6 z0 z1 n2 _ r40.rd hl0 o6.rd hl1).mono ?_
  rintro e w7 ⟨A7, d7, A7b, d7b, rfl, o7, o7b, ap7, hb7⟩
  have s7 := hb7.size
  have t7 := T33.size
  have T41 := below_then T33 hb7
  have c42 : w7.cell? ⟨w.heap.size, 0, none⟩ = some (.slice a0 z0.length cap0) := (hb7.cell (p := ⟨w.heap.size, 0, none⟩) l35).trans c34
  have l43 : w.heap.size < w7.heap.size := Nat.lt_of_lt_of_le l35 hb7.size
  have c44 : w7.cell? ⟨w5.heap.size, 0, none⟩ = some (.slice A5 z0.length d5) := (hb7.cell (p := ⟨w5.heap.size, 0, none⟩) l37).trans c36
  have l45 : w5.heap.size < w7.heap.size := Nat.lt_of_lt_of_le l37 hb7.size
  have r46 := r38.to hb7
  have r47 := r39.to hb7
  have r48 := r40.to hb7
  have r49 := o6.to hb7
  go_wp2_with fail
  refine (eqIntS_b A7 A4 d7 d4 (shZ z0 (lst z0 z1) n2 (lst z0 z1 / n2)) _ o7.rd r46.rd (Nat.le_trans (shZ_len (fun h => (lst_vld h).1)) (by omega))).mono ?_
  rintro e w8 ⟨rfl, hb8⟩
  have s8 := hb8.size
  have T50 := below_then T41 hb8
  have c51 : w8.cell? ⟨w.heap.size, 0, none⟩ = some (.slice a0 z0.length cap0) := (hb8.cell (p := ⟨w.heap.size, 0, none⟩) l43).trans c42
  have l52 : w.heap.size < w8.heap.size := Nat.lt_of_lt_of_le l43 hb8.size
  have c53 : w8.cell? ⟨w5.heap.size, 0, none⟩ = some (.slice A5 z0.length d5) := (hb8.cell (p := ⟨w5.heap.size, 0, none⟩) l45).trans c44
  have l54 : w5.heap.size < w8.heap.size := Nat.lt_of_lt_of_le l45 hb8.size
  have r55 := r46.to hb8
  have r56 := r47.to hb8
  have r57 := r48.to hb8
  have r58 := r49.to hb8
  have r59 := o7.to hb8
  have r60 := o7b.to hb8
  go_wp2_with fail
  refine (eqIntS_b A7b A4b d7b d4b (shZ z0 (lst z0 z1) n2 (lst z0 z1 % n2)) _ r60.rd r56.rd (Nat.le_trans (shZ_len (fun h => (lst_vld h).1)) (by omega))).mono ?_
  rintro e w9 ⟨rfl, hb9⟩
  have s9 := hb9.size
  have T61 := below_then T50 hb9
  have c62 : w9.cell? ⟨w.heap.size, 0, none⟩ = some (.slice a0 z0.length cap0) := (hb9.cell (p := ⟨w.heap.size, 0, none⟩) l52).trans c51
  have l63 : w.heap.size < w9.heap.size := Nat.lt_of_lt_of_le l52 hb9.size
  have c64 : w9.cell? ⟨w5.heap.size, 0, none⟩ = some (.slice A5 z0.length d5) := (hb9.cell (p := ⟨w5.heap.size, 0, none⟩) l54).trans c53
  have l65 : w5.heap.size < w9.heap.size := Nat.lt_of_lt_of_le l54 hb9.size
  have r66 := r55.to hb9
  have r67 := r56.to hb9
  have r68 := r57.to hb9
  have r69 := r58.to hb9
  have r70 := r59.to hb9
  have r71 := r60.to hb9
  go_wp2_with fail
  have n72 := (Below.refl w9.heap.size w9).drew
  have T73 := below_then T61 n72
  have c74 : w9.drew.cell? ⟨w.heap.size, 0, none⟩ = some (.slice a0 z0.length cap0) := (n72.cell (p := ⟨w.heap.size, 0, none⟩) l63).trans c62
  have l75 : w.heap.size < w9.drew.heap.size := Nat.lt_of_lt_of_le l63 n72.size
  have c76 : w9.drew.cell? ⟨w5.heap.size, 0, none⟩ = some (.slice A5 z0.length d5) := (n72.cell (p := ⟨w5.heap.size, 0, none⟩) l65).trans c64
  have l77 : w5.heap.size < w9.drew.heap.size := Nat.lt_of_lt_of_le l65 n72.size
  have r78 := r66.to n72
  have r79 := r67.to n72
  have r80 := r68.to n72
  have r81 := r69.to n72
  have r82 := r70.to n72
  have r83 := r71.to n72
  have q10 := hR0.to T73
  have k10 := And.intro c74 c76
  go_region_held3 (fun w' => w'.cell? ⟨w.heap.size, 0, none⟩ = some (.slice a0 z0.length cap0) ∧ w'.cell? ⟨w5.heap.size, 0, none⟩ = some (.slice A5 z0.length d5)) (first | exact k10 | exact k10b | exact k10c | go_keep) (first | (go_at_call 15; refine (toMeasure_any a0 cap0 z0 _ ?_ hl0).mono ?_; exact q10; rintro e w10 ⟨A10, d10, rfl, o10, hb10⟩; have T84 := below_then T73 hb10; have c85 : w10.cell? ⟨w.heap.size, 0, none⟩ = some (.slice a0 z0.length cap0) := (hb10.cell (p := ⟨w.heap.size, 0, none⟩) l75).trans c74; have l86 : w.heap.size < w10.heap.size := Nat.lt_of_lt_of_le l75 hb10.size; have c87 : w10.cell? ⟨w5.heap.size, 0, none⟩ = some (.slice A5 z0.length d5) := (hb10.cell (p := ⟨w5.heap.size, 0, none⟩) l77).trans c76; have l88 : w5.heap.size < w10.heap.size := Nat.lt_of_lt_of_le l77 hb10.size; have r89 := r78.to hb10; have r90 := r79.to hb10; have r91 := r80.to hb10; have r92 := r81.to hb10; have r93 := r82.to hb10; have r94 := r83.to hb10; have k10b := And.intro c85 c87) | (go_at_call 19; refine (eqMeasure_yes A5 A10 d5 d10 z0 _ ?_ ?_ hl0).mono ?_; exact r91.rd; exact o10.rd; rintro e w11 ⟨rfl, hb11⟩; have T95 := below_then T84 hb11; have c96 : w11.cell? ⟨w.heap.size, 0, none⟩ = some (.slice a0 z0.length cap0) := (hb11.cell (p := ⟨w.heap.size, 0, none⟩) l86).trans c85; have l97 : w.heap.size < w11.heap.size := Nat.lt_of_lt_of_le l86 hb11.size; have c98 : w11.cell? ⟨w5.heap.size, 0, none⟩ = some (.slice A5 z0.length d5) := (hb11.cell (p := ⟨w5.heap.size, 0, none⟩) l88).trans c87; have l99 : w5.heap.size < w11.heap.size := Nat.lt_of_lt_of_le l88 hb11.size; have r100 := r89.to hb11; have r101 := r90.to hb11; have r102 := r91.to hb11; have r103 := r92.to hb11; have r104 := r93.to hb11; have r105 := r94.to hb11; have k10c := And.intro c96 c98))
  have s10 := hb10.size
  have s11 := hb11.size
  go_wp2_with fail
  have q12 := hR1.to T95
  refine (toIntS_any a1 cap1 z1 _ q12 hl1).mono ?_
  rintro e w12 ⟨A12, d12, rfl, o12, hb12⟩
  have s12 := hb12.size
  have t12 := T95.size
  have T106 := below_then T95 hb12
  have c107 : w12.cell? ⟨w.heap.size, 0, none⟩ = some (.slice a0 z0.length cap0) := (hb12.cell (p := ⟨w.heap.size, 0, none⟩) l97).trans c96
  have l108 : w.heap.size < w12.heap.size := Nat.lt_of_lt_of_le l97 hb12.size
  have c109 : w12.cell? ⟨w5.heap.size, 0, none⟩ = some (.slice A5 z0.length d5) := (hb12.cell (p := ⟨w5.heap.size, 0, none⟩) l99).trans c98
  have l110 : w5.heap.size < w12.heap.size := Nat.lt_of_lt_of_le l99 hb12.size
  have r111 := r100.to hb12
  have r112 := r101.to hb12
  have r113 := r102.to hb12
  have r114 := r103.to hb12
  have r115 := r104.to hb12
  have r116 := r105.to hb12
  go_wp2_with fail
  refine (eqIntS_b A6 A12 d6 d12 z1 _ r114.rd o12.rd hl1).mono ?_
  rintro e w13 ⟨rfl, hb13⟩
  have s13 := hb13.size
  have T117 := below_then T106 hb13
  have c118 : w13.cell? ⟨w.heap.size, 0, none⟩ = some (.slice a0 z0.length cap0) := (hb13.cell (p := ⟨w.heap.size, 0, none⟩) l108).trans c107
  have l119 : w.heap.size < w13.heap.size := Nat.lt_of_lt_of_le l108 hb13.size
  have c120 : w13.cell? ⟨w5.heap.size, 0, none⟩ = some (.slice A5 z0.length d5) := (hb13.cell (p := ⟨w5.heap.size, 0, none⟩) l110).trans c109
  have l121 : w5.heap.size < w13.heap.size := Nat.lt_of_lt_of_le l110 hb13.size
  have r122 := r111.to hb13
  have r123 := r112.to hb13
  have r124 := r113.to hb13
  have r125 := r114.to hb13
  have r126 := r115.to hb13
  have r127 := r116.to hb13
  have r128 := o12.to hb13
  go_wp2_with fail
  refine (markMeasure_any _ A5 d5 z0 (1) _ r124 hl0 (by omega) (by omega)).mono ?_
  rintro e w14 ⟨rfl, hg14⟩
  have T129 : Below w.heap.size w w14 := T117.grown hg14 T117.size (fun k e => Nat.le_trans t5 (o5.span k e).1)
  have c130 : w14.cell? ⟨w.heap.size, 0, none⟩ = some (.slice a0 z0.length cap0) := (World.cell?_of_block (a := ⟨w.heap.size, 0, none⟩) (hg14.block w.heap.size l119 (fun e => by have := o5.span _ e.symm; omega))).trans c118
  have l131 : w.heap.size < w14.heap.size := Nat.lt_of_lt_of_le l119 hg14.size
  have c132 : w14.cell? ⟨w5.heap.size, 0, none⟩ = some (.slice A5 z0.length d5) := (World.cell?_of_block (a := ⟨w5.heap.size, 0, none⟩) (hg14.block w5.heap.size l121 (fun e => by have := o5.span _ e.symm; omega))).trans c120
  have l133 : w5.heap.size < w14.heap.size := Nat.lt_of_lt_of_le l121 hg14.size
  have r134 := IR.grown' r122 hg14 (o4.apart o5 (by omega))
  have r135 := IR.grown' r123 hg14 (o4b.apart o5 (by omega))
  have r136 := IR.grown' r125 hg14 (fun g e e2 => o5.apart o6 (by omega) g e2 e)
  have r137 := IR.grown' r126 hg14 (fun g e e2 => o5.apart o7 (by omega) g e2 e)
  have r138 := IR.grown' r127 hg14 (fun g e e2 => o5.apart o7b (by omega) g e2 e)
  have s14 := hg14.size
  go_wp2_with fail
  refine (markIntS_any _ A6 d6 z1 (1 + (z0.length : Int)) _ r136 hl1 (by omega) (by omega)).mono ?_
  rintro e w15 ⟨rfl, -, hg15⟩
  have T139 : Below w.heap.size w w15 := T129.grown hg15 T129.size (fun k e => Nat.le_trans t6 (o6.span k e).1)
  have c140 : w15.cell? ⟨w.heap.size, 0, none⟩ = some (.slice a0 z0.length cap0) := (World.cell?_of_block (a := ⟨w.heap.size, 0, none⟩) (hg15.block w.heap.size l131 (fun e => by have := o6.span _ e.symm; omega))).trans c130
  have l141 : w.heap.size < w15.heap.size := Nat.lt_of_lt_of_le l131 hg15.size
  have c142 : w15.cell? ⟨w5.heap.size, 0, none⟩ = some (.slice A5 z0.length d5) := (World.cell?_of_block (a := ⟨w5.heap.size, 0, none⟩) (hg15.block w5.heap.size l133 (fun e => by have := o6.span _ e.symm; omega))).trans c132
  have l143 : w5.heap.size < w15.heap.size := Nat.lt_of_lt_of_le l133 hg15.size
  have r144 := IR.grown' r134 hg15 (o4.apart o6 (by omega))
  have r145 := IR.grown' r135 hg15 (o4b.apart o6 (by omega))
  have r146 := IR.grown' r137 hg15 (fun g e e2 => o6.apart o7 (by omega) g e2 e)
  have r147 := IR.grown' r138 hg15 (fun g e e2 => o6.apart o7b (by omega) g e2 e)
  have s15 := hg15.size
  go_wp2_with fail
  refine (eqIntS_b A7 A4 d7 d4 (shZ z0 (lst z0 z1) n2 (lst z0 z1 / n2)) _ r146.rd r144.rd (Nat.le_trans (shZ_len (fun h => (lst_vld h).1)) (by omega))).mono ?_
  rintro e w16 ⟨rfl, hb16⟩
  have s16 := hb16.size
  have T148 := below_then T139 hb16
  have c149 : w16.cell? ⟨w.heap.size, 0, none⟩ = some (.slice a0 z0.length cap0) := (hb16.cell (p := ⟨w.heap.size, 0, none⟩) l141).trans c140
  have l150 : w.heap.size < w16.heap.size := Nat.lt_of_lt_of_le l141 hb16.size
  have c151 : w16.cell? ⟨w5.heap.size, 0, none⟩ = some (.slice A5 z0.length d5) := (hb16.cell (p := ⟨w5.heap.size, 0, none⟩) l143).trans c142
  have l152 : w5.heap.size < w16.heap.size := Nat.lt_of_lt_of_le l143 hb16.size
  have r153 := r144.to hb16
  have r154 := r145.to hb16
  have r155 := r146.to hb16
  have r156 := r147.to hb16
  go_wp2_with fail
  refine (eqIntS_b A7b A4b d7b d4b (shZ z0 (lst z0 z1) n2 (lst z0 z1 % n2)) _ r156.rd r154.rd (Nat.le_trans (shZ_len (fun h => (lst_vld h).1)) (by omega))).mono ?_
  rintro e w17 ⟨rfl, hb17⟩
  have s17 := hb17.size
  have T157 := below_then T148 hb17
  have c158 : w17.cell? ⟨w.heap.size, 0, none⟩ = some (.slice a0 z0.length cap0) := (hb17.cell (p := ⟨w.heap.size, 0, none⟩) l150).trans c149
  have l159 : w.heap.size < w17.heap.size := Nat.lt_of_lt_of_le l150 hb17.size
  have c160 : w17.cell? ⟨w5.heap.size, 0, none⟩ = some (.slice A5 z0.length d5) := (hb17.cell (p := ⟨w5.heap.size, 0, none⟩) l152).trans c151
  have l161 : w5.heap.size < w17.heap.size := Nat.lt_of_lt_of_le l152 hb17.size
  have r162 := r153.to hb17
  have r163 := r154.to hb17
  have r164 := r155.to hb17
  have r165 := r156.to hb17
  go_wp2_with fail
  have y18 : (shZ z0 (lst z0 z1) n2 (lst z0 z1 / n2)).length ≤ 1048576 := (Nat.le_trans (shZ_len (fun h => (lst_vld h).1)) (by omega))
  refine (markIntS_any _ A7 d7 (shZ z0 (lst z0 z1) n2 (lst z0 z1 / n2)) (1) _ r164 y18 (by omega) (by omega)).mono ?_
  rintro e w18 ⟨rfl, u18, hg18⟩
  have T166 : Below w.heap.size w w18 := T157.grown hg18 T157.size (fun k e => Nat.le_trans t7 (o7.span k e).1)
  have c167 : w18.cell? ⟨w.heap.size, 0, none⟩ = some (.slice a0 z0.length cap0) := (World.cell?_of_block (a := ⟨w.heap.size, 0, none⟩) (hg18.block w.heap.size l159 (fun e => by have := o7.span _ e.symm; omega))).trans c158
  have l168 : w.heap.size < w18.heap.size := Nat.lt_of_lt_of_le l159 hg18.size
  have c169 : w18.cell? ⟨w5.heap.size, 0, none⟩ = some (.slice A5 z0.length d5) := (World.cell?_of_block (a := ⟨w5.heap.size, 0, none⟩) (hg18.block w5.heap.size l161 (fun e => by have := o7.span _ e.symm; omega))).trans c160
  have l170 : w5.heap.size < w18.heap.size := Nat.lt_of_lt_of_le l161 hg18.size
  have r171 := IR.grown' r162 hg18 (o4.apart o7 (by omega))
  have r172 := IR.grown' r163 hg18 (o4b.apart o7 (by omega))
  have r173 := IR.grown' r165 hg18 (fun g e e2 => ap7 g e2 e)
  have s18 := hg18.size
  go_wp2_with fail
  have y19 : (shZ z0 (lst z0 z1) n2 (lst z0 z1 % n2)).length ≤ 1048576 := (Nat.le_trans (shZ_len (fun h => (lst_vld h).1)) (by omega))
  refine (markIntS_any _ A7b d7b (shZ z0 (lst z0 z1) n2 (lst z0 z1 % n2)) (1 + ((shZ z0 (lst z0 z1) n2 (lst z0 z1 / n2)).length : Int)) _ r173 y19 (by omega) (by omega)).mono ?_
  rintro e w19 ⟨rfl, u19, hg19⟩
  have T174 : Below w.heap.size w w19 := T166.grown hg19 T166.size (fun k e => Nat.le_trans t7 (o7b.span k e).1)
  have c175 : w19.cell? ⟨w.heap.size, 0, none⟩ = some (.slice a0 z0.length cap0) := (World.cell?_of_block (a := ⟨w.heap.size, 0, none⟩) (hg19.block w.heap.size l168 (fun e => by have := o7b.span _ e.symm; omega))).trans c167
  have l176 : w.heap.size < w19.heap.size := Nat.lt_of_lt_of_le l168 hg19.size
  have c177 : w19.cell? ⟨w5.heap.size, 0, none⟩ = some (.slice A5 z0.length d5) := (World.cell?_of_block (a := ⟨w5.heap.size, 0, none⟩) (hg19.block w5.heap.size l170 (fun e => by have := o7b.span _ e.symm; omega))).trans c169
  have l178 : w5.heap.size < w19.heap.size := Nat.lt_of_lt_of_le l170 hg19.size
  have r179 := IR.grown' r171 hg19 (o4.apart o7b (by omega))
  have r180 := IR.grown' r172 hg19 (o4b.apart o7b (by omega))
  have r181 := IR.grown' u18 hg19 ap7
  have s19 := hg19.size
  go_wp2_with fail
  refine (heldIntS_any A7 d7 (shZ z0 (lst z0 z1) n2 (lst z0 z1 / n2)).length (1) _ r181.rd y18 (by omega) (by omega)).mono ?_
  rintro e w' ⟨rfl, rfl⟩
  go_wp2_with fail
  refine (heldIntS_any A7b d7b (shZ z0 (lst z0 z1) n2 (lst z0 z1 % n2)).length (1 + ((shZ z0 (lst z0 z1) n2 (lst z0 z1 / n2)).length : Int)) _ u19.rd y19 (by omega) (by omega)).mono ?_
  rintro e w' ⟨rfl, rfl⟩
  go_wp2_with fail
  have q20 := hR0.to T174
  refine (toMeasure_any a0 cap0 z0 _ q20 hl0).mono ?_
  rintro e w20 ⟨A20, d20, rfl, o20, hb20⟩
  have s20 := hb20.size
  have t20 := T174.size
  have T182 := below_then T174 hb20
  have c183 : w20.cell? ⟨w.heap.size, 0, none⟩ = some (.slice a0 z0.length cap0) := (hb20.cell (p := ⟨w.heap.size, 0, none⟩) l176).trans c175
  have l184 : w.heap.size < w20.heap.size := Nat.lt_of_lt_of_le l176 hb20.size
  have c185 : w20.cell? ⟨w5.heap.size, 0, none⟩ = some (.slice A5 z0.length d5) := (hb20.cell (p := ⟨w5.heap.size, 0, none⟩) l178).trans c177
  have l186 : w5.heap.size < w20.heap.size := Nat.lt_of_lt_of_le l178 hb20.size
  have r187 := r179.to hb20
  have r188 := r180.to hb20
  have r189 := r181.to hb20
  have r190 := u19.to hb20
  go_wp2_with fail
  have q21 := hR1.to T182
  refine (toIntS_any a1 cap1 z1 _ q21 hl1).mono ?_
  rintro e w21 ⟨A21, d21, rfl, o21, hb21⟩
  have s21 := hb21.size
  have t21 := T182.size
  have T191 := below_then T182 hb21
  have c192 : w21.cell? ⟨w.heap.size, 0, none⟩ = some (.slice a0 z0.length cap0) := (hb21.cell (p := ⟨w.heap.size, 0, none⟩) l184).trans c183
  have l193 : w.heap.size < w21.heap.size := Nat.lt_of_lt_of_le l184 hb21.size
  have c194 : w21.cell? ⟨w5.heap.size, 0, none⟩ = some (.slice A5 z0.length d5) := (hb21.cell (p := ⟨w5.heap.size, 0, none⟩) l186).trans c185
  have l195 : w5.heap.size < w21.heap.size := Nat.lt_of_lt_of_le l186 hb21.size
  have r196 := r187.to hb21
  have r197 := r188.to hb21
  have r198 := r189.to hb21
  have r199 := r190.to hb21
  have r200 := o20.to hb21
  go_wp2_with fail
  refine (iAmountShare_any A20 A21 d20 d21 z0 z1 n2 _ r200.rd hl0 o21.rd hl1).mono ?_
  rintro e w22 ⟨A22, d22, A22b, d22b, rfl, o22, o22b, ap22, hb22⟩
  have s22 := hb22.size
  have t22 := T191.size
  have T201 := below_then T191 hb22
  have c202 : w22.cell? ⟨w.heap.size, 0, none⟩ = some (.slice a0 z0.length cap0) := (hb22.cell (p := ⟨w.heap.size, 0, none⟩) l193).trans c192
  have l203 : w.heap.size < w22.heap.size := Nat.lt_of_lt_of_le l193 hb22.size
  have c204 : w22.cell? ⟨w5.heap.size, 0, none⟩ = some (.slice A5 z0.length d5) := (hb22.cell (p := ⟨w5.heap.size, 0, none⟩) l195).trans c194
  have l205 : w5.heap.size < w22.heap.size := Nat.lt_of_lt_of_le l195 hb22.size
  have r206 := r196.to hb22
  have r207 := r197.to hb22
  have r208 := r198.to hb22
  have r209 := r199.to hb22
  have r210 := r200.to hb22
  have r211 := o21.to hb22
  go_wp2_with fail
  refine (eqIntS_b A22 A4 d22 d4 (shZ z0 (lst z0 z1) n2 (lst z0 z1 / n2)) _ o22.rd r206.rd (Nat.le_trans (shZ_len (fun h => (lst_vld h).1)) (by omega))).mono ?_
  rintro e w23 ⟨rfl, hb23⟩
  have s23 := hb23.size
  have T212 := below_then T201 hb23
  have c213 : w23.cell? ⟨w.heap.size, 0, none⟩ = some (.slice a0 z0.length cap0) := (hb23.cell (p := ⟨w.heap.size, 0, none⟩) l203).trans c202
  have l214 : w.heap.size < w23.heap.size := Nat.lt_of_lt_of_le l203 hb23.size
  have c215 : w23.cell? ⟨w5.heap.size, 0, none⟩ = some (.slice A5 z0.length d5) := (hb23.cell (p := ⟨w5.heap.size, 0, none⟩) l205).trans c204
  have l216 : w5.heap.size < w23.heap.size := Nat.lt_of_lt_of_le l205 hb23.size
  have r217 := r206.to hb23
  have r218 := r207.to hb23
  have r219 := r208.to hb23
  have r220 := r209.to hb23
  have r221 := o22.to hb23
  have r222 := o22b.to hb23
  go_wp2_with fail
  refine (eqIntS_b A22b A4b d22b d4b (shZ z0 (lst z0 z1) n2 (lst z0 z1 % n2)) _ r222.rd r218.rd (Nat.le_trans (shZ_len (fun h => (lst_vld h).1)) (by omega))).mono ?_
  rintro e w24 ⟨rfl, hb24⟩
  have s24 := hb24.size
  have T223 := below_then T212 hb24
  have c224 : w24.cell? ⟨w.heap.size, 0, none⟩ = some (.slice a0 z0.length cap0) := (hb24.cell (p := ⟨w.heap.size, 0, none⟩) l214).trans c213
  have l225 : w.heap.size < w24.heap.size := Nat.lt_of_lt_of_le l214 hb24.size
  have c226 : w24.cell? ⟨w5.heap.size, 0, none⟩ = some (.slice A5 z0.length d5) := (hb24.cell (p := ⟨w5.heap.size, 0, none⟩) l216).trans c215
  have l227 : w5.heap.size < w24.heap.size := Nat.lt_of_lt_of_le l216 hb24.size
  have r228 := r217.to hb24
  have r229 := r218.to hb24
  have r230 := r219.to hb24
  have r231 := r220.to hb24
  have r232 := r221.to hb24
  have r233 := r222.to hb24
  go_wp2_with fail
  refine (heldIntS_any A7 d7 (shZ z0 (lst z0 z1) n2 (lst z0 z1 / n2)).length (1) _ r230.rd y18 (by omega) (by omega)).mono ?_
  rintro e w' ⟨rfl, rfl⟩
  go_wp2_with fail
  refine (heldIntS_any A7b d7b (shZ z0 (lst z0 z1) n2 (lst z0 z1 % n2)).length (1 + ((shZ z0 (lst z0 z1) n2 (lst z0 z1 / n2)).length : Int)) _ r231.rd y19 (by omega) (by omega)).mono ?_
  rintro e w' ⟨rfl, rfl⟩
  go_wp2_with fail
  go_ret
  exact ⟨rfl, T223⟩

end Go.Proofs.Ytmcooaopbigebab
