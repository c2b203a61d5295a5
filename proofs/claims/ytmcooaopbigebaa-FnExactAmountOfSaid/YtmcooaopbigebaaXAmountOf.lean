/- The walk of the law FnExactAmountOf. No condition. -/
import Derived.Test.YtmcooaopbigebaaMeaL
namespace Go.Proofs.Ytmcooaopbigebaa
open Go.RowKit
set_option linter.unusedVariables false

set_option maxRecDepth 100000 in
set_option maxHeartbeats 4000000 in
theorem walkFnExactAmountOf (a0 : Option Addr) (len0 cap0 : Nat) (z0 : List Int) (n1 : Int) (wf1 : (Lit.int .i64 n1).wf = true) (w : World) (hs0 : Sl .i64 w a0 len0 cap0 z0) :
    Calls Try.prog 7 #[.agg #[.slice a0 len0 cap0], .int .i64 n1] w fun e w' => e = .returned (.bool true) ∧ Below w.heap.size w w' := by
  obtain ⟨rfl, hlc0, hcm0, hR0, -⟩ := hs0
  unfold maxLen at hcm0
  have hn0 : z0.length ≤ 9223372036854775807 := by omega
  have hb0 : Below w.heap.size w (w.alloc (.cells #[.slice a0 z0.length cap0] 24)) := (below_new w (.cells #[.slice a0 z0.length cap0] 24))
  by_cases b0 : (z0.length : Int) ≤ 1048576
  case neg =>
    have bn0 : 1048576 < (z0.length : Int) := by omega
    go_enter Try.func7, Try.ntmps7
    go_wp2_with fail
    refine (szMeasure_no a0 z0.length cap0 (1048576) _ bn0 (by omega) hn0).mono ?_
    rintro e v1 ⟨rfl, hv1⟩
    go_wp2_with fail
    go_ret
    exact ⟨rfl, (below_then hb0 hv1)⟩
  have hl0 : z0.length ≤ 1048576 := by omega
  go_enter Try.func7, Try.ntmps7
  go_wp2_with fail
  have c1 : (w.alloc (.cells #[.slice a0 z0.length cap0] 24)).cell? ⟨w.heap.size, 0, none⟩ = some (.slice a0 z0.length cap0) := by go_simp
  have l2 : w.heap.size < (w.alloc (.cells #[.slice a0 z0.length cap0] 24)).heap.size := by simp
  refine (szMeasure_yes a0 z0.length cap0 (1048576) _ b0 (by omega)).mono ?_
  rintro e w1 ⟨rfl, hb1⟩
  have T3 := below_then hb0 hb1
  have c4 : w1.cell? ⟨w.heap.size, 0, none⟩ = some (.slice a0 z0.length cap0) := (hb1.cell (p := ⟨w.heap.size, 0, none⟩) l2).trans c1
  have l5 : w.heap.size < w1.heap.size := Nat.lt_of_lt_of_le l2 hb1.size
  have hp1 : (0 : Int) ≤ 1048576 - (z0.length : Int) := by omega
  go_wp2_with fail
  have q2 := hR0.to T3
  refine (toMeasure_any a0 cap0 z0 _ q2 hl0).mono ?_
  rintro e w2 ⟨A2, d2, rfl, o2, hb2⟩
  have s2 := hb2.size
  have t2 := T3.size
  have T6 := below_then T3 hb2
  have c7 : w2.cell? ⟨w.heap.size, 0, none⟩ = some (.slice a0 z0.length cap0) := (hb2.cell (p := ⟨w.heap.size, 0, none⟩) l5).trans c4
  have l8 : w.heap.size < w2.heap.size := Nat.lt_of_lt_of_le l5 hb2.size
  go_wp2_with fail
  refine (sAmountOf_any A2 d2 z0 n1 _ o2.rd hl0).mono ?_
  rintro e w3 ⟨A3, d3, rfl, o3, hb3⟩
  have s3 := hb3.size
  have t3 := T6.size
  have T9 := below_then T6 hb3
  have c10 : w3.cell? ⟨w.heap.size, 0, none⟩ = some (.slice a0 z0.length cap0) := (hb3.cell (p := ⟨w.heap.size, 0, none⟩) l8).trans c7
  have l11 : w.heap.size < w3.heap.size := Nat.lt_of_lt_of_le l8 hb3.size
  have r12 := o2.to hb3
  go_wp2_with fail
  have q4 := hR0.to T9
  refine (toMeasure_any a0 cap0 z0 _ q4 hl0).mono ?_
  rintro e w4 ⟨A4, d4, rfl, o4, hb4⟩
  have s4 := hb4.size
  have t4 := T9.size
  have T13 := below_then T9 hb4
  have c14 : w4.cell? ⟨w.heap.size, 0, none⟩ = some (.slice a0 z0.length cap0) := (hb4.cell (p := ⟨w.heap.size, 0, none⟩) l11).trans c10
  have l15 : w.heap.size < w4.heap.size := Nat.lt_of_lt_of_le l11 hb4.size
  have r16 := o3.to hb4
  go_wp2_with fail
  have n17 := below_new w4 (.cells #[.slice A4 z0.length d4] 27)
  have s018 := n17.size
  have T19 := below_then T13 n17
  have c20 : (w4.alloc (.cells #[.slice A4 z0.length d4] 27)).cell? ⟨w.heap.size, 0, none⟩ = some (.slice a0 z0.length cap0) := (n17.cell (p := ⟨w.heap.size, 0, none⟩) l15).trans c14
  have l21 : w.heap.size < (w4.alloc (.cells #[.slice A4 z0.length d4] 27)).heap.size := Nat.lt_of_lt_of_le l15 n17.size
  have r22 := r16.to n17
  have r23 := o4.to n17
  have c24 : (w4.alloc (.cells #[.slice A4 z0.length d4] 27)).cell? ⟨w4.heap.size, 0, none⟩ = some (.slice A4 z0.length d4) := box_cell _ _ _
  have l25 : w4.heap.size < (w4.alloc (.cells #[.slice A4 z0.length d4] 27)).heap.size := by simp
  refine (iAmountOf_any A4 d4 z0 n1 _ r23.rd hl0).mono ?_
  rintro e w5 ⟨A5, d5, rfl, o5, hb5⟩
  have s5 := hb5.size
  have t5 := T19.size
  have T26 := below_then T19 hb5
  have c27 : w5.cell? ⟨w.heap.size, 0, none⟩ = some (.slice a0 z0.length cap0) := (hb5.cell (p := ⟨w.heap.size, 0, none⟩) l21).trans c20
  have l28 : w.heap.size < w5.heap.size := Nat.lt_of_lt_of_le l21 hb5.size
  have c29 : w5.cell? ⟨w4.heap.size, 0, none⟩ = some (.slice A4 z0.length d4) := (hb5.cell (p := ⟨w4.heap.size, 0, none⟩) l25).trans c24
  have l30 : w4.heap.size < w5.heap.size := Nat.lt_of_lt_of_le l25 hb5.size
  have r31 := r22.to hb5
  have r32 := r23.to hb5
  go_wp2_with fail
  refine (eqIntS_b A5 A3 d5 d3 (aoZ z0 n1) _ o5.rd r31.rd (Nat.le_trans (aoZ_len _ _) (by omega))).mono ?_
  rintro e w6 ⟨rfl, hb6⟩
  have s6 := hb6.size
  have T33 := below_then T26 hb6
  have c34 : w6.cell? ⟨w.heap.size, 0, none⟩ = some (.slice a0 z0.length cap0) := (hb6.cell (p := ⟨w.heap.size, 0, none⟩) l28).trans c27
  have l35 : w.heap.size < w6.heap.size := Nat.lt_of_lt_of_le l28 hb6.size
  have c36 : w6.cell? ⟨w4.heap.size, 0, none⟩ = some (.slice A4 z0.length d4) := (hb6.cell (p := ⟨w4.heap.size, 0, none⟩) l30).trans c29
  have l37 : w4.heap.size < w6.heap.size := Nat.lt_of_lt_of_le l30 hb6.size
  have r38 := r31.to hb6
  have r39 := r32.to hb6
  have r40 := o5.to hb6
  go_wp2_with fail
  have n41 := (Below.refl w6.heap.size w6).drew
  have T42 := below_then T33 n41
  have c43 : w6.drew.cell? ⟨w.heap.size, 0, none⟩ = some (.slice a0 z0.length cap0) := (n41.cell (p := ⟨w.heap.size, 0, none⟩) l35).trans c34
  have l44 : w.heap.size < w6.drew.heap.size := Nat.lt_of_lt_of_le l35 n41.size
  have c45 : w6.drew.cell? ⟨w4.heap.size, 0, none⟩ = some (.slice A4 z0.length d4) := (n41.cell (p := ⟨w4.heap.size, 0, none⟩) l37).trans c36
  have l46 : w4.heap.size < w6.drew.heap.size := Nat.lt_of_lt_of_le l37 n41.size
  have r47 := r38.to n41
  have r48 := r39.to n41
  have r49 := r40.to n41
  have q7 := hR0.to T42
  have k7 := And.intro c43 c45
  go_region_held3 (fun w' => w'.cell? ⟨w.heap.size, 0, none⟩ = some (.slice a0 z0.length cap0) ∧ w'.cell? ⟨w4.heap.size, 0, none⟩ = some (.slice A4 z0.length d4)) (first | exact k7 | exact k7b | exact k7c | go_keep) (first | (go_at_call 17; refine (toMeasure_any a0 cap0 z0 _ ?_ hl0).mono ?_; exact q7; rintro e w7 ⟨A7, d7, rfl, o7, hb7⟩; have T50 := below_then T42 hb7; have c51 : w7.cell? ⟨w.heap.size, 0, none⟩ = some (.slice a0 z0.length cap0) := (hb7.cell (p := ⟨w.heap.size, 0, none⟩) l44).trans c43; have l52 : w.heap.size < w7.heap.size := Nat.lt_of_lt_of_le l44 hb7.size; have c53 : w7.cell? ⟨w4.heap.size, 0, none⟩ = some (.slice A4 z0.length d4) := (hb7.cell (p := ⟨w4.heap.size, 0, none⟩) l46).trans c45; have l54 : w4.heap.size < w7.heap.size := Nat.lt_of_lt_of_le l46 hb7.size; have r55 := r47.to hb7; have r56 := r48.to hb7; have r57 := r49.to hb7; have k7b := And.intro c51 c53) | (go_at_call 19; refine (eqMeasure_yes A4 A7 d4 d7 z0 _ ?_ ?_ hl0).mono ?_; exact r56.rd; exact o7.rd; rintro e w8 ⟨rfl, hb8⟩; have T58 := below_then T50 hb8; have c59 : w8.cell? ⟨w.heap.size, 0, none⟩ = some (.slice a0 z0.length cap0) := (hb8.cell (p := ⟨w.heap.size, 0, none⟩) l52).trans c51; have l60 : w.heap.size < w8.heap.size := Nat.lt_of_lt_of_le l52 hb8.size; have c61 : w8.cell? ⟨w4.heap.size, 0, none⟩ = some (.slice A4 z0.length d4) := (hb8.cell (p := ⟨w4.heap.size, 0, none⟩) l54).trans c53; have l62 : w4.heap.size < w8.heap.size := Nat.lt_of_lt_of_le l54 hb8.size; have r63 := r55.to hb8; have r64 := r56.to hb8; have r65 := r57.to hb8; have k7c := And.intro c59 c61))
  have s7 := hb7.size
  have s8 := hb8.size
  go_wp2_with fail
  refine (markMeasure_any _ A4 d4 z0 (1) _ r64 hl0 (by omega) (by omega)).mono ?_
  rintro e w9 ⟨rfl, hg9⟩
  have T66 : Below w.heap.size w w9 := T58.grown hg9 T58.size (fun k e => Nat.le_trans t4 (o4.span k e).1)
  have c67 : w9.cell? ⟨w.heap.size, 0, none⟩ = some (.slice a0 z0.length cap0) := (World.cell?_of_block (a := ⟨w.heap.size, 0, none⟩) (hg9.block w.heap.size l60 (fun e => by have := o4.span _ e.symm; omega))).trans c59
  have l68 : w.heap.size < w9.heap.size := Nat.lt_of_lt_of_le l60 hg9.size
  have c69 : w9.cell? ⟨w4.heap.size, 0, none⟩ = some (.slice A4 z0.length d4) := (World.cell?_of_block (a := ⟨w4.heap.size, 0, none⟩) (hg9.block w4.heap.size l62 (fun e => by have := o4.span _ e.symm; omega))).trans c61
  have l70 : w4.heap.size < w9.heap.size := Nat.lt_of_lt_of_le l62 hg9.size
  have r71 := IR.grown' r63 hg9 (o3.apart o4 (by omega))
  have r72 := IR.grown' r65 hg9 (fun g e e2 => o4.apart o5 (by omega) g e2 e)
  have s9 := hg9.size
  go_wp2_with fail
  refine (eqIntS_b A5 A3 d5 d3 (aoZ z0 n1) _ r72.rd r71.rd (Nat.le_trans (aoZ_len _ _) (by omega))).mono ?_
  rintro e w10 ⟨rfl, hb10⟩
  have s10 := hb10.size
  have T73 := below_then T66 hb10
  have c74 : w10.cell? ⟨w.heap.size, 0, none⟩ = some (.slice a0 z0.length cap0) := (hb10.cell (p := ⟨w.heap.size, 0, none⟩) l68).trans c67
  have l75 : w.heap.size < w10.heap.size := Nat.lt_of_lt_of_le l68 hb10.size
  have c76 : w10.cell? ⟨w4.heap.size, 0, none⟩ = some (.slice A4 z0.length d4) := (hb10.cell (p := ⟨w4.heap.size, 0, none⟩) l70).trans c69
  have l77 : w4.heap.size < w10.heap.size := Nat.lt_of_lt_of_le l70 hb10.size
  have r78 := r71.to hb10
  have r79 := r72.to hb10
  go_wp2_with fail
  have y11 : (aoZ z0 n1).length ≤ 1048576 := (Nat.le_trans (aoZ_len _ _) (by omega))
  refine (markIntS_any _ A5 d5 (aoZ z0 n1) (1) _ r79 y11 (by omega) (by omega)).mono ?_
  rintro e w11 ⟨rfl, u11, hg11⟩
  have T80 : Below w.heap.size w w11 := T73.grown hg11 T73.size (fun k e => Nat.le_trans t5 (o5.span k e).1)
  have c81 : w11.cell? ⟨w.heap.size, 0, none⟩ = some (.slice a0 z0.length cap0) := (World.cell?_of_block (a := ⟨w.heap.size, 0, none⟩) (hg11.block w.heap.size l75 (fun e => by have := o5.span _ e.symm; omega))).trans c74
  have l82 : w.heap.size < w11.heap.size := Nat.lt_of_lt_of_le l75 hg11.size
  have c83 : w11.cell? ⟨w4.heap.size, 0, none⟩ = some (.slice A4 z0.length d4) := (World.cell?_of_block (a := ⟨w4.heap.size, 0, none⟩) (hg11.block w4.heap.size l77 (fun e => by have := o5.span _ e.symm; omega))).trans c76
  have l84 : w4.heap.size < w11.heap.size := Nat.lt_of_lt_of_le l77 hg11.size
  have r85 := IR.grown' r78 hg11 (o3.apart o5 (by omega))
  have s11 := hg11.size
  go_wp2_with fail
  refine (heldIntS_any A5 d5 (aoZ z0 n1).length (1) _ u11.rd y11 (by omega) (by omega)).mono ?_
  rintro e w' ⟨rfl, rfl⟩
  go_wp2_with fail
  have q12 := hR0.to T80
  refine (toMeasure_any a0 cap0 z0 _ q12 hl0).mono ?_
  rintro e w12 ⟨A12, d12, rfl, o12, hb12⟩
  have s12 := hb12.size
  have t12 := T80.size
  have T86 := below_then T80 hb12
  have c87 : w12.cell? ⟨w.heap.size, 0, none⟩ = some (.slice a0 z0.length cap0) := (hb12.cell (p := ⟨w.heap.size, 0, none⟩) l82).trans c81
  have l88 : w.heap.size < w12.heap.size := Nat.lt_of_lt_of_le l82 hb12.size
  have c89 : w12.cell? ⟨w4.heap.size, 0, none⟩ = some (.slice A4 z0.length d4) := (hb12.cell (p := ⟨w4.heap.size, 0, none⟩) l84).trans c83
  have l90 : w4.heap.size < w12.heap.size := Nat.lt_of_lt_of_le l84 hb12.size
  have r91 := r85.to hb12
  have r92 := u11.to hb12
  go_wp2_with fail
  refine (iAmountOf_any A12 d12 z0 n1 _ o12.rd hl0).mono ?_
  rintro e w13 ⟨A13, d13, rfl, o13, hb13⟩
  have s13 := hb13.size
  have t13 := T86.size
  have T93 := below_then T86 hb13
  have c94 : w13.cell? ⟨w.heap.size, 0, none⟩ = some (.slice a0 z0.length cap0) := (hb13.cell (p := ⟨w.heap.size, 0, none⟩) l88).trans c87
  have l95 : w.heap.size < w13.heap.size := Nat.lt_of_lt_of_le l88 hb13.size
  have c96 : w13.cell? ⟨w4.heap.size, 0, none⟩ = some (.slice A4 z0.length d4) := (hb13.cell (p := ⟨w4.heap.size, 0, none⟩) l90).trans c89
  have l97 : w4.heap.size < w13.heap.size := Nat.lt_of_lt_of_le l90 hb13.size
  have r98 := r91.to hb13
  have r99 := r92.to hb13
  have r100 := o12.to hb13
  go_wp2_with fail
  refine (eqIntS_b A13 A3 d13 d3 (aoZ z0 n1) _ o13.rd r98.rd (Nat.le_trans (aoZ_len _ _) (by omega))).mono ?_
  rintro e w14 ⟨rfl, hb14⟩
  have s14 := hb14.size
  have T101 := below_then T93 hb14
  have c102 : w14.cell? ⟨w.heap.size, 0, none⟩ = some (.slice a0 z0.length cap0) := (hb14.cell (p := ⟨w.heap.size, 0, none⟩) l95).trans c94
  have l103 : w.heap.size < w14.heap.size := Nat.lt_of_lt_of_le l95 hb14.size
  have c104 : w14.cell? ⟨w4.heap.size, 0, none⟩ = some (.slice A4 z0.length d4) := (hb14.cell (p := ⟨w4.heap.size, 0, none⟩) l97).trans c96
  have l105 : w4.heap.size < w14.heap.size := Nat.lt_of_lt_of_le l97 hb14.size
  have r106 := r98.to hb14
  have r107 := r99.to hb14
  have r108 := o13.to hb14
  go_wp2_with fail
  refine (heldIntS_any A5 d5 (aoZ z0 n1).length (1) _ r107.rd y11 (by omega) (by omega)).mono ?_
  rintro e w' ⟨rfl, rfl⟩
  go_wp2_with fail
  go_ret
  exact ⟨rfl, T101⟩

end Go.Proofs.Ytmcooaopbigebaa
