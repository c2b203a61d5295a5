/- The walk of the law FnExactAmountOrder. No condition. -/
import Derived.Test.YtmcooaopbigebaaMeaL
namespace Go.Proofs.Ytmcooaopbigebaa
open Go.RowKit
set_option linter.unusedVariables false

set_option maxRecDepth 100000 in
set_option maxHeartbeats 4000000 in
theorem walkFnExactAmountOrder (a0 : Option Addr) (len0 cap0 : Nat) (z0 : List Int) (a1 : Option Addr) (len1 cap1 : Nat) (z1 : List Int) (a2 : Option Addr) (len2 cap2 : Nat) (z2 : List Int) (w : World) (hs0 : Sl .i64 w a0 len0 cap0 z0) (hs1 : Sl .i64 w a1 len1 cap1 z1) (hs2 : Sl .i64 w a2 len2 cap2 z2) :
    Calls Try.prog 10 #[.agg #[.slice a0 len0 cap0], .slice a1 len1 cap1, .slice a2 len2 cap2] w fun e w' => e = .returned (.bool true) ∧ Below w.heap.size w w' := by
  obtain ⟨rfl, hlc0, hcm0, hR0, -⟩ := hs0
  unfold maxLen at hcm0
  have hn0 : z0.length ≤ 9223372036854775807 := by omega
  obtain ⟨rfl, hlc1, hcm1, hR1, -⟩ := hs1
  unfold maxLen at hcm1
  have hn1 : z1.length ≤ 9223372036854775807 := by omega
  obtain ⟨rfl, hlc2, hcm2, hR2, -⟩ := hs2
  unfold maxLen at hcm2
  have hn2 : z2.length ≤ 9223372036854775807 := by omega
  have hb0 : Below w.heap.size w (w.alloc (.cells #[.slice a0 z0.length cap0] 24)) := (below_new w (.cells #[.slice a0 z0.length cap0] 24))
  by_cases b1 : z1.length ≤ 1048576
  case neg =>
    have bd1 : decide (1048576 < z1.length) = true := by simp; omega
    go_enter Try.func10, Try.ntmps10
    go_wp2_with fail
    go_ret
    exact ⟨rfl, hb0⟩
  by_cases b2 : z2.length ≤ 1048576
  case neg =>
    have bd2 : decide (1048576 < z2.length) = true := by simp; omega
    go_enter Try.func10, Try.ntmps10
    go_wp2_with fail
    go_ret
    exact ⟨rfl, hb0⟩
  by_cases b0 : (z0.length : Int) ≤ 1048576
  case neg =>
    have bn0 : 1048576 < (z0.length : Int) := by omega
    go_enter Try.func10, Try.ntmps10
    go_wp2_with fail
    refine (szMeasure_no a0 z0.length cap0 (1048576) _ bn0 (by omega) hn0).mono ?_
    rintro e v1 ⟨rfl, hv1⟩
    go_wp2_with fail
    go_ret
    exact ⟨rfl, (below_then hb0 hv1)⟩
  have hl0 : z0.length ≤ 1048576 := by omega
  have hl1 : z1.length ≤ 1048576 := by omega
  have hl2 : z2.length ≤ 1048576 := by omega
  go_enter Try.func10, Try.ntmps10
  go_wp2_with fail
  have c1 : (w.alloc (.cells #[.slice a0 z0.length cap0] 24)).cell? ⟨w.heap.size, 0, none⟩ = some (.slice a0 z0.length cap0) := by go_simp
  have l2 : w.heap.size < (w.alloc (.cells #[.slice a0 z0.length cap0] 24)).heap.size := by simp
  refine (szMeasure_yes a0 z0.length cap0 (1048576) _ b0 (by omega)).mono ?_
  rintro e w1 ⟨rfl, hb1⟩
  have T3 := below_then hb0 hb1
  have c4 : w1.cell? ⟨w.heap.size, 0, none⟩ = some (.slice a0 z0.length cap0) := (hb1.cell (p := ⟨w.heap.size, 0, none⟩) l2).trans c1
  have l5 : w.heap.size < w1.heap.size := Nat.lt_of_lt_of_le l2 hb1.size
  have hp1 : (0 : Int) ≤ 1048576 - (z0.length : Int) := by omega
  go_wp2_with fail
  have q2 := hR0.to T3
  refine (toMeasure_any a0 cap0 z0 _ q2 hl0).mono ?_
  rintro e w2 ⟨A2, d2, rfl, o2, hb2⟩
  have s2 := hb2.size
  have t2 := T3.size
  have T6 := below_then T3 hb2
  have c7 : w2.cell? ⟨w.heap.size, 0, none⟩ = some (.slice a0 z0.length cap0) := (hb2.cell (p := ⟨w.heap.size, 0, none⟩) l5).trans c4
  have l8 : w.heap.size < w2.heap.size := Nat.lt_of_lt_of_le l5 hb2.size
  go_wp2_with fail
  have q3 := hR1.to T6
  refine (toIntS_any a1 cap1 z1 _ q3 hl1).mono ?_
  rintro e w3 ⟨A3, d3, rfl, o3, hb3⟩
  have s3 := hb3.size
  have t3 := T6.size
  have T9 := below_then T6 hb3
  have c10 : w3.cell? ⟨w.heap.size, 0, none⟩ = some (.slice a0 z0.length cap0) := (hb3.cell (p := ⟨w.heap.size, 0, none⟩) l8).trans c7
  have l11 : w.heap.size < w3.heap.size := Nat.lt_of_lt_of_le l8 hb3.size
  have r12 := o2.to hb3
  go_wp2_with fail
  have q4 := hR2.to T9
  refine (toIntS_any a2 cap2 z2 _ q4 hl2).mono ?_
  rintro e w4 ⟨A4, d4, rfl, o4, hb4⟩
  have s4 := hb4.size
  have t4 := T9.size
  have T13 := below_then T9 hb4
  have c14 : w4.cell? ⟨w.heap.size, 0, none⟩ = some (.slice a0 z0.length cap0) := (hb4.cell (p := ⟨w.heap.size, 0, none⟩) l11).trans c10
  have l15 : w.heap.size < w4.heap.size := Nat.lt_of_lt_of_le l11 hb4.size
  have r16 := r12.to hb4
  have r17 := o3.to hb4
  go_wp2_with fail
  refine (sAmountOrder_any A2 A3 A4 d2 d3 d4 z0 z1 z2  _ r16.rd hl0 r17.rd hl1 o4.rd hl2).mono ?_
  rintro e w5 ⟨rfl, hb5⟩
  have s5 := hb5.size
  have t5 := T13.size
  have T18 := below_then T13 hb5
  have c19 : w5.cell? ⟨w.heap.size, 0, none⟩ = some (.slice a0 z0.length cap0) := (hb5.cell (p := ⟨w.heap.size, 0, none⟩) l15).trans c14
  have l20 : w.heap.size < w5.heap.size := Nat.lt_of_lt_of_le l15 hb5.size
  have r21 := r16.to hb5
  have r22 := r17.to hb5
  have r23 := o4.to hb5
  go_wp2_with fail
  have q6 := hR0.to T18
  refine (toMeasure_any a0 cap0 z0 _ q6 hl0).mono ?_
  rintro e w6 ⟨A6, d6, rfl, o6, hb6⟩
  have s6 := hb6.size
  have t6 := T18.size
  have T24 := below_then T18 hb6
  have c25 : w6.cell? ⟨w.heap.size, 0, none⟩ = some (.slice a0 z0.length cap0) := (hb6.cell (p := ⟨w.heap.size, 0, none⟩) l20).trans c19
  have l26 : w.heap.size < w6.heap.size := Nat.lt_of_lt_of_le l20 hb6.size
  go_wp2_with fail
  have n27 := below_new w6 (.cells #[.slice A6 z0.length d6] 27)
  have s028 := n27.size
  have T29 := below_then T24 n27
  have c30 : (w6.alloc (.cells #[.slice A6 z0.length d6] 27)).cell? ⟨w.heap.size, 0, none⟩ = some (.slice a0 z0.length cap0) := (n27.cell (p := ⟨w.heap.size, 0, none⟩) l26).trans c25
  have l31 : w.heap.size < (w6.alloc (.cells #[.slice A6 z0.length d6] 27)).heap.size := Nat.lt_of_lt_of_le l26 n27.size
  have r32 := o6.to n27
  have c33 : (w6.alloc (.cells #[.slice A6 z0.length d6] 27)).cell? ⟨w6.heap.size, 0, none⟩ = some (.slice A6 z0.length d6) := box_cell _ _ _
  have l34 : w6.heap.size < (w6.alloc (.cells #[.slice A6 z0.length d6] 27)).heap.size := by simp
  have q7 := hR1.to T29
  refine (toIntS_any a1 cap1 z1 _ q7 hl1).mono ?_
  rintro e w7 ⟨A7, d7, rfl, o7, hb7⟩
  have s7 := hb7.size
  have t7 := T29.size
  have T35 := below_then T29 hb7
  have c36 : w7.cell? ⟨w.heap.size, 0, none⟩ = some (.slice a0 z0.length cap0) := (hb7.cell (p := ⟨w.heap.size, 0, none⟩) l31).trans c30
  have l37 : w.heap.size < w7.heap.size := Nat.lt_of_lt_of_le l31 hb7.size
  have c38 : w7.cell? ⟨w6.heap.size, 0, none⟩ = some (.slice A6 z0.length d6) := (hb7.cell (p := ⟨w6.heap.size, 0, none⟩) l34).trans c33
  have l39 : w6.heap.size < w7.heap.size := Nat.lt_of_lt_of_le l34 hb7.size
  have r40 := r32.to hb7
  go_wp2_with fail
  have q8 := hR2.to T35
  refine (toIntS_any a2 cap2 z2 _ q8 hl2).mono ?_
  rintro e w8 ⟨A8, d8, rfl, o8, hb8⟩
  have s8 := hb8.size
  have t8 := T35.size
  have T41 := below_then T35 hb8
  have c42 : w8.cell? ⟨w.heap.size, 0, none⟩ = some (.slice a0 z0.length cap0) := (hb8.cell (p := ⟨w.heap.size, 0, none⟩) l37).trans c36
  have l43 : w.heap.size < w8.heap.size := Nat.lt_of_lt_of_le l37 hb8.size
  have c44 : w8.cell? ⟨w6.heap.size, 0, none⟩ = some (.slice A6 z0.length d6) := (hb8.cell (p := ⟨w6.heap.size, 0, none⟩) l39).trans c38
  have l45 : w6.heap.size < w8.heap.size := Nat.lt_of_lt_of_le l39 hb8.size
  have r46 := r40.to hb8
  have r47 := o7.to hb8
  go_wp2_with fail
  refine (iAmountOrder_any A6 A7 A8 d6 d7 d8 z0 z1 z2  _ r46.rd hl0 r47.rd hl1 o8.rd hl2).mono ?_
  rintro e w9 ⟨rfl, hb9⟩
  have s9 := hb9.size
  have t9 := T41.size
  have T48 := below_then T41 hb9
  have c49 : w9.cell? ⟨w.heap.size, 0, none⟩ = some (.slice a0 z0.length cap0) := (hb9.cell (p := ⟨w.heap.size, 0, none⟩) l43).trans c42
  have l50 : w.heap.size < w9.heap.size := Nat.lt_of_lt_of_le l43 hb9.size
  have c51 : w9.cell? ⟨w6.heap.size, 0, none⟩ = some (.slice A6 z0.length d6) := (hb9.cell (p := ⟨w6.heap.size, 0, none⟩) l45).trans c44
  have l52 : w6.heap.size < w9.heap.size := Nat.lt_of_lt_of_le l45 hb9.size
  have r53 := r46.to hb9
  have r54 := r47.to hb9
  have r55 := o8.to hb9
  go_wp2_with fail
  have n56 := (Below.refl w9.heap.size w9).drew
  have T57 := below_then T48 n56
  have c58 : w9.drew.cell? ⟨w.heap.size, 0, none⟩ = some (.slice a0 z0.length cap0) := (n56.cell (p := ⟨w.heap.size, 0, none⟩) l50).trans c49
  have l59 : w.heap.size < w9.drew.heap.size := Nat.lt_of_lt_of_le l50 n56.size
  have c60 : w9.drew.cell? ⟨w6.heap.size, 0, none⟩ = some (.slice A6 z0.length d6) := (n56.cell (p := ⟨w6.heap.size, 0, none⟩) l52).trans c51
  have l61 : w6.heap.size < w9.drew.heap.size := Nat.lt_of_lt_of_le l52 n56.size
  have r62 := r53.to n56
  have r63 := r54.to n56
  have r64 := r55.to n56
  have q10 := hR0.to T57
  have k10 := And.intro c58 c60
  go_region_held3 (fun w' => w'.cell? ⟨w.heap.size, 0, none⟩ = some (.slice a0 z0.length cap0) ∧ w'.cell? ⟨w6.heap.size, 0, none⟩ = some (.slice A6 z0.length d6)) (first | exact k10 | exact k10b | exact k10c | go_keep) (first | (go_at_call 17; refine (toMeasure_any a0 cap0 z0 _ ?_ hl0).mono ?_; exact q10; rintro e w10 ⟨A10, d10, rfl, o10, hb10⟩; have T65 := below_then T57 hb10; have c66 : w10.cell? ⟨w.heap.size, 0, none⟩ = some (.slice a0 z0.length cap0) := (hb10.cell (p := ⟨w.heap.size, 0, none⟩) l59).trans c58; have l67 : w.heap.size < w10.heap.size := Nat.lt_of_lt_of_le l59 hb10.size; have c68 : w10.cell? ⟨w6.heap.size, 0, none⟩ = some (.slice A6 z0.length d6) := (hb10.cell (p := ⟨w6.heap.size, 0, none⟩) l61).trans c60; have l69 : w6.heap.size < w10.heap.size := Nat.lt_of_lt_of_le l61 hb10.size; have r70 := r62.to hb10; have r71 := r63.to hb10; have r72 := r64.to hb10; have k10b := And.intro c66 c68) | (go_at_call 19; refine (eqMeasure_yes A6 A10 d6 d10 z0 _ ?_ ?_ hl0).mono ?_; exact r70.rd; exact o10.rd; rintro e w11 ⟨rfl, hb11⟩; have T73 := below_then T65 hb11; have c74 : w11.cell? ⟨w.heap.size, 0, none⟩ = some (.slice a0 z0.length cap0) := (hb11.cell (p := ⟨w.heap.size, 0, none⟩) l67).trans c66; have l75 : w.heap.size < w11.heap.size := Nat.lt_of_lt_of_le l67 hb11.size; have c76 : w11.cell? ⟨w6.heap.size, 0, none⟩ = some (.slice A6 z0.length d6) := (hb11.cell (p := ⟨w6.heap.size, 0, none⟩) l69).trans c68; have l77 : w6.heap.size < w11.heap.size := Nat.lt_of_lt_of_le l69 hb11.size; have r78 := r70.to hb11; have r79 := r71.to hb11; have r80 := r72.to hb11; have k10c := And.intro c74 c76))
  have s10 := hb10.size
  have s11 := hb11.size
  go_wp2_with fail
  have q12 := hR1.to T73
  refine (toIntS_any a1 cap1 z1 _ q12 hl1).mono ?_
  rintro e w12 ⟨A12, d12, rfl, o12, hb12⟩
  have s12 := hb12.size
  have t12 := T73.size
  have T81 := below_then T73 hb12
  have c82 : w12.cell? ⟨w.heap.size, 0, none⟩ = some (.slice a0 z0.length cap0) := (hb12.cell (p := ⟨w.heap.size, 0, none⟩) l75).trans c74
  have l83 : w.heap.size < w12.heap.size := Nat.lt_of_lt_of_le l75 hb12.size
  have c84 : w12.cell? ⟨w6.heap.size, 0, none⟩ = some (.slice A6 z0.length d6) := (hb12.cell (p := ⟨w6.heap.size, 0, none⟩) l77).trans c76
  have l85 : w6.heap.size < w12.heap.size := Nat.lt_of_lt_of_le l77 hb12.size
  have r86 := r78.to hb12
  have r87 := r79.to hb12
  have r88 := r80.to hb12
  go_wp2_with fail
  refine (eqIntS_b A7 A12 d7 d12 z1 _ r87.rd o12.rd hl1).mono ?_
  rintro e w13 ⟨rfl, hb13⟩
  have s13 := hb13.size
  have T89 := below_then T81 hb13
  have c90 : w13.cell? ⟨w.heap.size, 0, none⟩ = some (.slice a0 z0.length cap0) := (hb13.cell (p := ⟨w.heap.size, 0, none⟩) l83).trans c82
  have l91 : w.heap.size < w13.heap.size := Nat.lt_of_lt_of_le l83 hb13.size
  have c92 : w13.cell? ⟨w6.heap.size, 0, none⟩ = some (.slice A6 z0.length d6) := (hb13.cell (p := ⟨w6.heap.size, 0, none⟩) l85).trans c84
  have l93 : w6.heap.size < w13.heap.size := Nat.lt_of_lt_of_le l85 hb13.size
  have r94 := r86.to hb13
  have r95 := r87.to hb13
  have r96 := r88.to hb13
  have r97 := o12.to hb13
  go_wp2_with fail
  have q14 := hR2.to T89
  refine (toIntS_any a2 cap2 z2 _ q14 hl2).mono ?_
  rintro e w14 ⟨A14, d14, rfl, o14, hb14⟩
  have s14 := hb14.size
  have t14 := T89.size
  have T98 := below_then T89 hb14
  have c99 : w14.cell? ⟨w.heap.size, 0, none⟩ = some (.slice a0 z0.length cap0) := (hb14.cell (p := ⟨w.heap.size, 0, none⟩) l91).trans c90
  have l100 : w.heap.size < w14.heap.size := Nat.lt_of_lt_of_le l91 hb14.size
  have c101 : w14.cell? ⟨w6.heap.size, 0, none⟩ = some (.slice A6 z0.length d6) := (hb14.cell (p := ⟨w6.heap.size, 0, none⟩) l93).trans c92
  have l102 : w6.heap.size < w14.heap.size := Nat.lt_of_lt_of_le l93 hb14.size
  have r103 := r94.to hb14
  have r104 := r95.to hb14
  have r105 := r96.to hb14
  go_wp2_with fail
  refine (eqIntS_b A8 A14 d8 d14 z2 _ r105.rd o14.rd hl2).mono ?_
  rintro e w15 ⟨rfl, hb15⟩
  have s15 := hb15.size
  have T106 := below_then T98 hb15
  have c107 : w15.cell? ⟨w.heap.size, 0, none⟩ = some (.slice a0 z0.length cap0) := (hb15.cell (p := ⟨w.heap.size, 0, none⟩) l100).trans c99
  have l108 : w.heap.size < w15.heap.size := Nat.lt_of_lt_of_le l100 hb15.size
  have c109 : w15.cell? ⟨w6.heap.size, 0, none⟩ = some (.slice A6 z0.length d6) := (hb15.cell (p := ⟨w6.heap.size, 0, none⟩) l102).trans c101
  have l110 : w6.heap.size < w15.heap.size := Nat.lt_of_lt_of_le l102 hb15.size
  have r111 := r103.to hb15
  have r112 := r104.to hb15
  have r113 := r105.to hb15
  have r114 := o14.to hb15
  go_wp2_with fail
  go_ret
  exact ⟨rfl, T106⟩

end Go.Proofs.Ytmcooaopbigebaa
