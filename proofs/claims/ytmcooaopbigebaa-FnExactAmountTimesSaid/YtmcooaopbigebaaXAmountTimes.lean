/- The walk of the law FnExactAmountTimes. No condition. -/
import Derived.Test.YtmcooaopbigebaaMeaL
namespace Go.Proofs.Ytmcooaopbigebaa
open Go.RowKit
set_option linter.unusedVariables false

set_option maxRecDepth 100000 in
set_option maxHeartbeats 4000000 in
theorem walkFnExactAmountTimes (a0 : Option Addr) (len0 cap0 : Nat) (z0 : List Int) (a1 : Option Addr) (len1 cap1 : Nat) (z1 : List Int) (n2 : Int) (wf2 : (Lit.int .i64 n2).wf = true) (w : World) (hs0 : Sl .i64 w a0 len0 cap0 z0) (hs1 : Sl .i64 w a1 len1 cap1 z1) :
    Calls Try.prog 13 #[.agg #[.slice a0 len0 cap0], .slice a1 len1 cap1, .int .i64 n2] w fun e w' => e = .returned (.bool true) ∧ Below w.heap.size w w' := by
  obtain ⟨rfl, hlc0, hcm0, hR0, -⟩ := hs0
  unfold maxLen at hcm0
  have hn0 : z0.length ≤ 9223372036854775807 := by omega
  obtain ⟨rfl, hlc1, hcm1, hR1, -⟩ := hs1
  unfold maxLen at hcm1
  have hn1 : z1.length ≤ 9223372036854775807 := by omega
  have hb0 : Below w.heap.size w (w.alloc (.cells #[.slice a0 z0.length cap0] 24)) := (below_new w (.cells #[.slice a0 z0.length cap0] 24))
  by_cases b1 : z1.length ≤ 1048576
  case neg =>
    have bd1 : decide (1048576 < z1.length) = true := by simp; omega
    go_enter Try.func13, Try.ntmps13
    go_wp2_with fail
    go_ret
    exact ⟨rfl, hb0⟩
  by_cases b0 : (z0.length : Int) ≤ 1048576
  case neg =>
    have bn0 : 1048576 < (z0.length : Int) := by omega
    go_enter Try.func13, Try.ntmps13
    go_wp2_with fail
    refine (szMeasure_no a0 z0.length cap0 (1048576) _ bn0 (by omega) hn0).mono ?_
    rintro e v1 ⟨rfl, hv1⟩
    go_wp2_with fail
    go_ret
    exact ⟨rfl, (below_then hb0 hv1)⟩
  have hl0 : z0.length ≤ 1048576 := by omega
  have hl1 : z1.length ≤ 1048576 := by omega
  go_enter Try.func13, Try.ntmps13
  go_wp2_with fail
  have c1 : (w.alloc (.cells #[.slice a0 z0.length cap0] 24)).cell? ⟨w.heap.size, 0, none⟩ = some (.slice a0 z0.length cap0) := by go_simp
  have l2 : w.heap.size < (w.alloc (.cells #[.slice a0 z0.length cap0] 24)).heap.size := by simp
  refine (szMeasure_yes a0 z0.length cap0 (1048576) _ b0 (by omega)).mono ?_
  rintro e w1 ⟨rfl, hb1⟩
  have T3 := below_then hb0 hb1
  have c4 : w1.cell? ⟨w.heap.size, 0, none⟩ = some (.slice a0 z0.length cap0) := (hb1.cell (p := ⟨w.heap.size, 0, none⟩) l2).trans c1
  have l5 : w.heap.size < w1.heap.size := Nat.lt_of_lt_of_le l2 hb1.size
  have hp1 : (0 : Int) ≤ 1048576 - (z0.length : Int) := by omega
  go_wp2_with fail
  have q2 := hR0.to T3
  refine (toMeasure_any a0 cap0 z0 _ q2 hl0).mono ?_
  rintro e w2 ⟨A2, d2, rfl, o2, hb2⟩
  have s2 := hb2.size
  have t2 := T3.size
  have T6 := below_then T3 hb2
  have c7 : w2.cell? ⟨w.heap.size, 0, none⟩ = some (.slice a0 z0.length cap0) := (hb2.cell (p := ⟨w.heap.size, 0, none⟩) l5).trans c4
  have l8 : w.heap.size < w2.heap.size := Nat.lt_of_lt_of_le l5 hb2.size
  go_wp2_with fail
  have q3 := hR1.to T6
  refine (toIntS_any a1 cap1 z1 _ q3 hl1).mono ?_
  rintro e w3 ⟨A3, d3, rfl, o3, hb3⟩
  have s3 := hb3.size
  have t3 := T6.size
  have T9 := below_then T6 hb3
  have c10 : w3.cell? ⟨w.heap.size, 0, none⟩ = some (.slice a0 z0.length cap0) := (hb3.cell (p := ⟨w.heap.size, 0, none⟩) l8).trans c7
  have l11 : w.heap.size < w3.heap.size := Nat.lt_of_lt_of_le l8 hb3.size
  have r12 := o2.to hb3
  go_wp2_with fail
  refine (sAmountTimes_any A2 A3 d2 d3 z0 z1 n2 _ r12.rd hl0 o3.rd hl1).mono ?_
  rintro e w4 ⟨A4, d4, rfl, o4, hb4⟩
  have s4 := hb4.size
  have t4 := T9.size
  have T13 := below_then T9 hb4
  have c14 : w4.cell? ⟨w.heap.size, 0, none⟩ = some (.slice a0 z0.length cap0) := (hb4.cell (p := ⟨w.heap.size, 0, none⟩) l11).trans c10
  have l15 : w.heap.size < w4.heap.size := Nat.lt_of_lt_of_le l11 hb4.size
  have r16 := r12.to hb4
  have r17 := o3.to hb4
  go_wp2_with fail
  have q5 := hR0.to T13
  refine (toMeasure_any a0 cap0 z0 _ q5 hl0).mono ?_
  rintro e w5 ⟨A5, d5, rfl, o5, hb5⟩
  have s5 := hb5.size
  have t5 := T13.size
  have T18 := below_then T13 hb5
  have c19 : w5.cell? ⟨w.heap.size, 0, none⟩ = some (.slice a0 z0.length cap0) := (hb5.cell (p := ⟨w.heap.size, 0, none⟩) l15).trans c14
  have l20 : w.heap.size < w5.heap.size := Nat.lt_of_lt_of_le l15 hb5.size
  have r21 := o4.to hb5
  go_wp2_with fail
  have n22 := below_new w5 (.cells #[.slice A5 z0.length d5] 27)
  have s023 := n22.size
  have T24 := below_then T18 n22
  have c25 : (w5.alloc (.cells #[.slice A5 z0.length d5] 27)).cell? ⟨w.heap.size, 0, none⟩ = some (.slice a0 z0.length cap0) := (n22.cell (p := ⟨w.heap.size, 0, none⟩) l20).trans c19
  have l26 : w.heap.size < (w5.alloc (.cells #[.slice A5 z0.length d5] 27)).heap.size := Nat.lt_of_lt_of_le l20 n22.size
  have r27 := r21.to n22
  have r28 := o5.to n22
  have c29 : (w5.alloc (.cells #[.slice A5 z0.length d5] 27)).cell? ⟨w5.heap.size, 0, none⟩ = some (.slice A5 z0.length d5) := box_cell _ _ _
  have l30 : w5.heap.size < (w5.alloc (.cells #[.slice A5 z0.length d5] 27)).heap.size := by simp
  have q6 := hR1.to T24
  refine (toIntS_any a1 cap1 z1 _ q6 hl1).mono ?_
  rintro e w6 ⟨A6, d6, rfl, o6, hb6⟩
  have s6 := hb6.size
  have t6 := T24.size
  have T31 := below_then T24 hb6
  have c32 : w6.cell? ⟨w.heap.size, 0, none⟩ = some (.slice a0 z0.length cap0) := (hb6.cell (p := ⟨w.heap.size, 0, none⟩) l26).trans c25
  have l33 : w.heap.size < w6.heap.size := Nat.lt_of_lt_of_le l26 hb6.size
  have c34 : w6.cell? ⟨w5.heap.size, 0, none⟩ = some (.slice A5 z0.length d5) := (hb6.cell (p := ⟨w5.heap.size, 0, none⟩) l30).trans c29
  have l35 : w5.heap.size < w6.heap.size := Nat.lt_of_lt_of_le l30 hb6.size
  have r36 := r27.to hb6
  have r37 := r28.to hb6
  go_wp2_with fail
  refine (iAmountTimes_any A5 A6 d5 d6 z0 z1 n2 _ r37.rd hl0 o6.rd hl1).mono ?_
  rintro e w7 ⟨A7, d7, rfl, o7, hb7⟩
  have s7 := hb7.size
  have t7 := T31.size
  have T38 := below_then T31 hb7
  have c39 : w7.cell? ⟨w.heap.size, 0, none⟩ = some (.slice a0 z0.length cap0) := (hb7.cell (p := ⟨w.heap.size, 0, none⟩) l33).trans c32
  have l40 : w.heap.size < w7.heap.size := Nat.lt_of_lt_of_le l33 hb7.size
  have c41 : w7.cell? ⟨w5.heap.size, 0, none⟩ = some (.slice A5 z0.length d5) := (hb7.cell (p := ⟨w5.heap.size, 0, none⟩) l35).trans c34
  have l42 : w5.heap.size < w7.heap.size := Nat.lt_of_lt_of_le l35 hb7.size
  have r43 := r36.to hb7
  have r44 := r37.to hb7
  have r45 := o6.to hb7
  go_wp2_with fail
  refine (eqIntS_b A7 A4 d7 d4 (aoZ z0 (timesN (lst z0 z1) n2)) _ o7.rd r43.rd (Nat.le_trans (aoZ_len _ _) (by omega))).mono ?_
  rintro e w8 ⟨rfl, hb8⟩
  have s8 := hb8.size
  have T46 := below_then T38 hb8
  have c47 : w8.cell? ⟨w.heap.size, 0, none⟩ = some (.slice a0 z0.length cap0) := (hb8.cell (p := ⟨w.heap.size, 0, none⟩) l40).trans c39
  have l48 : w.heap.size < w8.heap.size := Nat.lt_of_lt_of_le l40 hb8.size
  have c49 : w8.cell? ⟨w5.heap.size, 0, none⟩ = some (.slice A5 z0.length d5) := (hb8.cell (p := ⟨w5.heap.size, 0, none⟩) l42).trans c41
  have l50 : w5.heap.size < w8.heap.size := Nat.lt_of_lt_of_le l42 hb8.size
  have r51 := r43.to hb8
  have r52 := r44.to hb8
  have r53 := r45.to hb8
  have r54 := o7.to hb8
  go_wp2_with fail
  have n55 := (Below.refl w8.heap.size w8).drew
  have T56 := below_then T46 n55
  have c57 : w8.drew.cell? ⟨w.heap.size, 0, none⟩ = some (.slice a0 z0.length cap0) := (n55.cell (p := ⟨w.heap.size, 0, none⟩) l48).trans c47
  have l58 : w.heap.size < w8.drew.heap.size := Nat.lt_of_lt_of_le l48 n55.size
  have c59 : w8.drew.cell? ⟨w5.heap.size, 0, none⟩ = some (.slice A5 z0.length d5) := (n55.cell (p := ⟨w5.heap.size, 0, none⟩) l50).trans c49
  have l60 : w5.heap.size < w8.drew.heap.size := Nat.lt_of_lt_of_le l50 n55.size
  have r61 := r51.to n55
  have r62 := r52.to n55
  have r63 := r53.to n55
  have r64 := r54.to n55
  have q9 := hR0.to T56
  have k9 := And.intro c57 c59
  go_region_held3 (fun w' => w'.cell? ⟨w.heap.size, 0, none⟩ = some (.slice a0 z0.length cap0) ∧ w'.cell? ⟨w5.heap.size, 0, none⟩ = some (.slice A5 z0.length d5)) (first | exact k9 | exact k9b | exact k9c | go_keep) (first | (go_at_call 17; refine (toMeasure_any a0 cap0 z0 _ ?_ hl0).mono ?_; exact q9; rintro e w9 ⟨A9, d9, rfl, o9, hb9⟩; have T65 := below_then T56 hb9; have c66 : w9.cell? ⟨w.heap.size, 0, none⟩ = some (.slice a0 z0.length cap0) := (hb9.cell (p := ⟨w.heap.size, 0, none⟩) l58).trans c57; have l67 : w.heap.size < w9.heap.size := Nat.lt_of_lt_of_le l58 hb9.size; have c68 : w9.cell? ⟨w5.heap.size, 0, none⟩ = some (.slice A5 z0.length d5) := (hb9.cell (p := ⟨w5.heap.size, 0, none⟩) l60).trans c59; have l69 : w5.heap.size < w9.heap.size := Nat.lt_of_lt_of_le l60 hb9.size; have r70 := r61.to hb9; have r71 := r62.to hb9; have r72 := r63.to hb9; have r73 := r64.to hb9; have k9b := And.intro c66 c68) | (go_at_call 19; refine (eqMeasure_yes A5 A9 d5 d9 z0 _ ?_ ?_ hl0).mono ?_; exact r71.rd; exact o9.rd; rintro e w10 ⟨rfl, hb10⟩; have T74 := below_then T65 hb10; have c75 : w10.cell? ⟨w.heap.size, 0, none⟩ = some (.slice a0 z0.length cap0) := (hb10.cell (p := ⟨w.heap.size, 0, none⟩) l67).trans c66; have l76 : w.heap.size < w10.heap.size := Nat.lt_of_lt_of_le l67 hb10.size; have c77 : w10.cell? ⟨w5.heap.size, 0, none⟩ = some (.slice A5 z0.length d5) := (hb10.cell (p := ⟨w5.heap.size, 0, none⟩) l69).trans c68; have l78 : w5.heap.size < w10.heap.size := Nat.lt_of_lt_of_le l69 hb10.size; have r79 := r70.to hb10; have r80 := r71.to hb10; have r81 := r72.to hb10; have r82 := r73.to hb10; have k9c := And.intro c75 c77))
  have s9 := hb9.size
  have s10 := hb10.size
  go_wp2_with fail
  have q11 := hR1.to T74
  refine (toIntS_any a1 cap1 z1 _ q11 hl1).mono ?_
  rintro e w11 ⟨A11, d11, rfl, o11, hb11⟩
  have s11 := hb11.size
  have t11 := T74.size
  have T83 := below_then T74 hb11
  have c84 : w11.cell? ⟨w.heap.size, 0, none⟩ = some (.slice a0 z0.length cap0) := (hb11.cell (p := ⟨w.heap.size, 0, none⟩) l76).trans c75
  have l85 : w.heap.size < w11.heap.size := Nat.lt_of_lt_of_le l76 hb11.size
  have c86 : w11.cell? ⟨w5.heap.size, 0, none⟩ = some (.slice A5 z0.length d5) := (hb11.cell (p := ⟨w5.heap.size, 0, none⟩) l78).trans c77
  have l87 : w5.heap.size < w11.heap.size := Nat.lt_of_lt_of_le l78 hb11.size
  have r88 := r79.to hb11
  have r89 := r80.to hb11
  have r90 := r81.to hb11
  have r91 := r82.to hb11
  go_wp2_with fail
  refine (eqIntS_b A6 A11 d6 d11 z1 _ r90.rd o11.rd hl1).mono ?_
  rintro e w12 ⟨rfl, hb12⟩
  have s12 := hb12.size
  have T92 := below_then T83 hb12
  have c93 : w12.cell? ⟨w.heap.size, 0, none⟩ = some (.slice a0 z0.length cap0) := (hb12.cell (p := ⟨w.heap.size, 0, none⟩) l85).trans c84
  have l94 : w.heap.size < w12.heap.size := Nat.lt_of_lt_of_le l85 hb12.size
  have c95 : w12.cell? ⟨w5.heap.size, 0, none⟩ = some (.slice A5 z0.length d5) := (hb12.cell (p := ⟨w5.heap.size, 0, none⟩) l87).trans c86
  have l96 : w5.heap.size < w12.heap.size := Nat.lt_of_lt_of_le l87 hb12.size
  have r97 := r88.to hb12
  have r98 := r89.to hb12
  have r99 := r90.to hb12
  have r100 := r91.to hb12
  have r101 := o11.to hb12
  go_wp2_with fail
  refine (markMeasure_any _ A5 d5 z0 (1) _ r98 hl0 (by omega) (by omega)).mono ?_
  rintro e w13 ⟨rfl, hg13⟩
  have T102 : Below w.heap.size w w13 := T92.grown hg13 T92.size (fun k e => Nat.le_trans t5 (o5.span k e).1)
  have c103 : w13.cell? ⟨w.heap.size, 0, none⟩ = some (.slice a0 z0.length cap0) := (World.cell?_of_block (a := ⟨w.heap.size, 0, none⟩) (hg13.block w.heap.size l94 (fun e => by have := o5.span _ e.symm; omega))).trans c93
  have l104 : w.heap.size < w13.heap.size := Nat.lt_of_lt_of_le l94 hg13.size
  have c105 : w13.cell? ⟨w5.heap.size, 0, none⟩ = some (.slice A5 z0.length d5) := (World.cell?_of_block (a := ⟨w5.heap.size, 0, none⟩) (hg13.block w5.heap.size l96 (fun e => by have := o5.span _ e.symm; omega))).trans c95
  have l106 : w5.heap.size < w13.heap.size := Nat.lt_of_lt_of_le l96 hg13.size
  have r107 := IR.grown' r97 hg13 (o4.apart o5 (by omega))
  have r108 := IR.grown' r99 hg13 (fun g e e2 => o5.apart o6 (by omega) g e2 e)
  have r109 := IR.grown' r100 hg13 (fun g e e2 => o5.apart o7 (by omega) g e2 e)
  have s13 := hg13.size
  go_wp2_with fail
  refine (markIntS_any _ A6 d6 z1 (1 + (z0.length : Int)) _ r108 hl1 (by omega) (by omega)).mono ?_
  rintro e w14 ⟨rfl, -, hg14⟩
  have T110 : Below w.heap.size w w14 := T102.grown hg14 T102.size (fun k e => Nat.le_trans t6 (o6.span k e).1)
  have c111 : w14.cell? ⟨w.heap.size, 0, none⟩ = some (.slice a0 z0.length cap0) := (World.cell?_of_block (a := ⟨w.heap.size, 0, none⟩) (hg14.block w.heap.size l104 (fun e => by have := o6.span _ e.symm; omega))).trans c103
  have l112 : w.heap.size < w14.heap.size := Nat.lt_of_lt_of_le l104 hg14.size
  have c113 : w14.cell? ⟨w5.heap.size, 0, none⟩ = some (.slice A5 z0.length d5) := (World.cell?_of_block (a := ⟨w5.heap.size, 0, none⟩) (hg14.block w5.heap.size l106 (fun e => by have := o6.span _ e.symm; omega))).trans c105
  have l114 : w5.heap.size < w14.heap.size := Nat.lt_of_lt_of_le l106 hg14.size
  have r115 := IR.grown' r107 hg14 (o4.apart o6 (by omega))
  have r116 := IR.grown' r109 hg14 (fun g e e2 => o6.apart o7 (by omega) g e2 e)
  have s14 := hg14.size
  go_wp2_with fail
  refine (eqIntS_b A7 A4 d7 d4 (aoZ z0 (timesN (lst z0 z1) n2)) _ r116.rd r115.rd (Nat.le_trans (aoZ_len _ _) (by omega))).mono ?_
  rintro e w15 ⟨rfl, hb15⟩
  have s15 := hb15.size
  have T117 := below_then T110 hb15
  have c118 : w15.cell? ⟨w.heap.size, 0, none⟩ = some (.slice a0 z0.length cap0) := (hb15.cell (p := ⟨w.heap.size, 0, none⟩) l112).trans c111
  have l119 : w.heap.size < w15.heap.size := Nat.lt_of_lt_of_le l112 hb15.size
  have c120 : w15.cell? ⟨w5.heap.size, 0, none⟩ = some (.slice A5 z0.length d5) := (hb15.cell (p := ⟨w5.heap.size, 0, none⟩) l114).trans c113
  have l121 : w5.heap.size < w15.heap.size := Nat.lt_of_lt_of_le l114 hb15.size
  have r122 := r115.to hb15
  have r123 := r116.to hb15
  go_wp2_with fail
  have y16 : (aoZ z0 (timesN (lst z0 z1) n2)).length ≤ 1048576 := (Nat.le_trans (aoZ_len _ _) (by omega))
  refine (markIntS_any _ A7 d7 (aoZ z0 (timesN (lst z0 z1) n2)) (1) _ r123 y16 (by omega) (by omega)).mono ?_
  rintro e w16 ⟨rfl, u16, hg16⟩
  have T124 : Below w.heap.size w w16 := T117.grown hg16 T117.size (fun k e => Nat.le_trans t7 (o7.span k e).1)
  have c125 : w16.cell? ⟨w.heap.size, 0, none⟩ = some (.slice a0 z0.length cap0) := (World.cell?_of_block (a := ⟨w.heap.size, 0, none⟩) (hg16.block w.heap.size l119 (fun e => by have := o7.span _ e.symm; omega))).trans c118
  have l126 : w.heap.size < w16.heap.size := Nat.lt_of_lt_of_le l119 hg16.size
  have c127 : w16.cell? ⟨w5.heap.size, 0, none⟩ = some (.slice A5 z0.length d5) := (World.cell?_of_block (a := ⟨w5.heap.size, 0, none⟩) (hg16.block w5.heap.size l121 (fun e => by have := o7.span _ e.symm; omega))).trans c120
  have l128 : w5.heap.size < w16.heap.size := Nat.lt_of_lt_of_le l121 hg16.size
  have r129 := IR.grown' r122 hg16 (o4.apart o7 (by omega))
  have s16 := hg16.size
  go_wp2_with fail
  refine (heldIntS_any A7 d7 (aoZ z0 (timesN (lst z0 z1) n2)).length (1) _ u16.rd y16 (by omega) (by omega)).mono ?_
  rintro e w' ⟨rfl, rfl⟩
  go_wp2_with fail
  have q17 := hR0.to T124
  refine (toMeasure_any a0 cap0 z0 _ q17 hl0).mono ?_
  rintro e w17 ⟨A17, d17, rfl, o17, hb17⟩
  have s17 := hb17.size
  have t17 := T124.size
  have T130 := below_then T124 hb17
  have c131 : w17.cell? ⟨w.heap.size, 0, none⟩ = some (.slice a0 z0.length cap0) := (hb17.cell (p := ⟨w.heap.size, 0, none⟩) l126).trans c125
  have l132 : w.heap.size < w17.heap.size := Nat.lt_of_lt_of_le l126 hb17.size
  have c133 : w17.cell? ⟨w5.heap.size, 0, none⟩ = some (.slice A5 z0.length d5) := (hb17.cell (p := ⟨w5.heap.size, 0, none⟩) l128).trans c127
  have l134 : w5.heap.size < w17.heap.size := Nat.lt_of_lt_of_le l128 hb17.size
  have r135 := r129.to hb17
  have r136 := u16.to hb17
  go_wp2_with fail
  have q18 := hR1.to T130
  refine (toIntS_any a1 cap1 z1 _ q18 hl1).mono ?_
  rintro e w18 ⟨A18, d18, rfl, o18, hb18⟩
  have s18 := hb18.size
  have t18 := T130.size
  have T137 := below_then T130 hb18
  have c138 : w18.cell? ⟨w.heap.size, 0, none⟩ = some (.slice a0 z0.length cap0) := (hb18.cell (p := ⟨w.heap.size, 0, none⟩) l132).trans c131
  have l139 : w.heap.size < w18.heap.size := Nat.lt_of_lt_of_le l132 hb18.size
  have c140 : w18.cell? ⟨w5.heap.size, 0, none⟩ = some (.slice A5 z0.length d5) := (hb18.cell (p := ⟨w5.heap.size, 0, none⟩) l134).trans c133
  have l141 : w5.heap.size < w18.heap.size := Nat.lt_of_lt_of_le l134 hb18.size
  have r142 := r135.to hb18
  have r143 := r136.to hb18
  have r144 := o17.to hb18
  go_wp2_with fail
  refine (iAmountTimes_any A17 A18 d17 d18 z0 z1 n2 _ r144.rd hl0 o18.rd hl1).mono ?_
  rintro e w19 ⟨A19, d19, rfl, o19, hb19⟩
  have s19 := hb19.size
  have t19 := T137.size
  have T145 := below_then T137 hb19
  have c146 : w19.cell? ⟨w.heap.size, 0, none⟩ = some (.slice a0 z0.length cap0) := (hb19.cell (p := ⟨w.heap.size, 0, none⟩) l139).trans c138
  have l147 : w.heap.size < w19.heap.size := Nat.lt_of_lt_of_le l139 hb19.size
  have c148 : w19.cell? ⟨w5.heap.size, 0, none⟩ = some (.slice A5 z0.length d5) := (hb19.cell (p := ⟨w5.heap.size, 0, none⟩) l141).trans c140
  have l149 : w5.heap.size < w19.heap.size := Nat.lt_of_lt_of_le l141 hb19.size
  have r150 := r142.to hb19
  have r151 := r143.to hb19
  have r152 := r144.to hb19
  have r153 := o18.to hb19
  go_wp2_with fail
  refine (eqIntS_b A19 A4 d19 d4 (aoZ z0 (timesN (lst z0 z1) n2)) _ o19.rd r150.rd (Nat.le_trans (aoZ_len _ _) (by omega))).mono ?_
  rintro e w20 ⟨rfl, hb20⟩
  have s20 := hb20.size
  have T154 := below_then T145 hb20
  have c155 : w20.cell? ⟨w.heap.size, 0, none⟩ = some (.slice a0 z0.length cap0) := (hb20.cell (p := ⟨w.heap.size, 0, none⟩) l147).trans c146
  have l156 : w.heap.size < w20.heap.size := Nat.lt_of_lt_of_le l147 hb20.size
  have c157 : w20.cell? ⟨w5.heap.size, 0, none⟩ = some (.slice A5 z0.length d5) := (hb20.cell (p := ⟨w5.heap.size, 0, none⟩) l149).trans c148
  have l158 : w5.heap.size < w20.heap.size := Nat.lt_of_lt_of_le l149 hb20.size
  have r159 := r150.to hb20
  have r160 := r151.to hb20
  have r161 := o19.to hb20
  go_wp2_with fail
  refine (heldIntS_any A7 d7 (aoZ z0 (timesN (lst z0 z1) n2)).length (1) _ r160.rd y16 (by omega) (by omega)).mono ?_
  rintro e w' ⟨rfl, rfl⟩
  go_wp2_with fail
  go_ret
  exact ⟨rfl, T154⟩

end Go.Proofs.Ytmcooaopbigebaa
