/- The walk of the law FnExactAmountConvert. No condition. -/
import Derived.Test.YtmcooaopbigebaaMeaL
namespace Go.Proofs.Ytmcooaopbigebaa
open Go.RowKit
set_option linter.unusedVariables false

set_option maxRecDepth 100000 in
set_option maxHeartbeats 4000000 in
theorem walkFnExactAmountConvert (a0 : Option Addr) (len0 cap0 : Nat) (z0 : List Int) (a1 : Option Addr) (len1 cap1 : Nat) (z1 : List Int) (a2 : Option Addr) (len2 cap2 : Nat) (z2 : List Int) (n3 : Int) (wf3 : (Lit.int .i64 n3).wf = true) (n4 : Int) (wf4 : (Lit.int .i64 n4).wf = true) (w : World) (hs0 : Sl .i64 w a0 len0 cap0 z0) (hs1 : Sl .i64 w a1 len1 cap1 z1) (hs2 : Sl .i64 w a2 len2 cap2 z2) :
    Calls Try.prog 14 #[.agg #[.slice a0 len0 cap0], .slice a1 len1 cap1, .agg #[.slice a2 len2 cap2], .int .i64 n3, .int .i64 n4] w fun e w' => e = .returned (.bool true) ∧ Below w.heap.size w w' := by
  obtain ⟨rfl, hlc0, hcm0, hR0, -⟩ := hs0
  unfold maxLen at hcm0
  have hn0 : z0.length ≤ 9223372036854775807 := by omega
  obtain ⟨rfl, hlc1, hcm1, hR1, -⟩ := hs1
  unfold maxLen at hcm1
  have hn1 : z1.length ≤ 9223372036854775807 := by omega
  obtain ⟨rfl, hlc2, hcm2, hR2, -⟩ := hs2
  unfold maxLen at hcm2
  have hn2 : z2.length ≤ 9223372036854775807 := by omega
  have hb0 : Below w.heap.size w ((w.alloc (.cells #[.slice a0 z0.length cap0] 24)).alloc (.cells #[.slice a2 z2.length cap2] 24)) := (below_then (below_new w (.cells #[.slice a0 z0.length cap0] 24)) (below_new (w.alloc (.cells #[.slice a0 z0.length cap0] 24)) (.cells #[.slice a2 z2.length cap2] 24)))
  by_cases b1 : z1.length ≤ 1048576
  case neg =>
    have bd1 : decide (1048576 < z1.length) = true := by simp; omega
    go_enter Try.func14, Try.ntmps14
    go_wp2_with fail
    go_ret
    exact ⟨rfl, hb0⟩
  by_cases b0 : (z0.length : Int) ≤ 1048576
  case neg =>
    have bn0 : 1048576 < (z0.length : Int) := by omega
    go_enter Try.func14, Try.ntmps14
    go_wp2_with fail
    refine (szMeasure_no a0 z0.length cap0 (1048576) _ bn0 (by omega) hn0).mono ?_
    rintro e v1 ⟨rfl, hv1⟩
    go_wp2_with fail
    go_ret
    exact ⟨rfl, (below_then hb0 hv1)⟩
  by_cases b2 : (z2.length : Int) ≤ 1048576 - (z0.length : Int)
  case neg =>
    have bn2 : 1048576 - (z0.length : Int) < (z2.length : Int) := by omega
    go_enter Try.func14, Try.ntmps14
    go_wp2_with fail
    refine (szMeasure_yes a0 z0.length cap0 (1048576) _ b0 (by omega)).mono ?_
    rintro e v1 ⟨rfl, hv1⟩
    have hc1 : v1.cell? ⟨w.heap.size + 1, 0, none⟩ = some (.slice a2 z2.length cap2) := by rw [hv1.cell (p := ⟨w.heap.size + 1, 0, none⟩) (by simp)]; go_simp
    have hp1 : (0 : Int) ≤ 1048576 - (z0.length : Int) := by omega
    go_wp2_with fail
    refine (szMeasure_no a2 z2.length cap2 (1048576 - (z0.length : Int)) _ bn2 (by omega) hn2).mono ?_
    rintro e v2 ⟨rfl, hv2⟩
    go_wp2_with fail
    go_ret
    exact ⟨rfl, (below_then (below_then hb0 hv1) hv2)⟩
  have hl0 : z0.length ≤ 1048576 := by omega
  have hl2 : z2.length ≤ 1048576 := by omega
  have hl1 : z1.length ≤ 1048576 := by omega
  go_enter Try.func14, Try.ntmps14
  go_wp2_with fail
  have c1 : ((w.alloc (.cells #[.slice a0 z0.length cap0] 24)).alloc (.cells #[.slice a2 z2.length cap2] 24)).cell? ⟨w.heap.size, 0, none⟩ = some (.slice a0 z0.length cap0) := by go_simp
  have l2 : w.heap.size < ((w.alloc (.cells #[.slice a0 z0.length cap0] 24)).alloc (.cells #[.slice a2 z2.length cap2] 24)).heap.size := by simp <;> omega
  have c3 : ((w.alloc (.cells #[.slice a0 z0.length cap0] 24)).alloc (.cells #[.slice a2 z2.length cap2] 24)).cell? ⟨w.heap.size + 1, 0, none⟩ = some (.slice a2 z2.length cap2) := by go_simp
  have l4 : w.heap.size + 1 < ((w.alloc (.cells #[.slice a0 z0.length cap0] 24)).alloc (.cells #[.slice a2 z2.length cap2] 24)).heap.size := by simp <;> omega
  refine (szMeasure_yes a0 z0.length cap0 (1048576) _ b0 (by omega)).mono ?_
  rintro e w1 ⟨rfl, hb1⟩
  have T5 := below_then hb0 hb1
  have c6 : w1.cell? ⟨w.heap.size, 0, none⟩ = some (.slice a0 z0.length cap0) := (hb1.cell (p := ⟨w.heap.size, 0, none⟩) l2).trans c1
  have l7 : w.heap.size < w1.heap.size := Nat.lt_of_lt_of_le l2 hb1.size
  have c8 : w1.cell? ⟨w.heap.size + 1, 0, none⟩ = some (.slice a2 z2.length cap2) := (hb1.cell (p := ⟨w.heap.size + 1, 0, none⟩) l4).trans c3
  have l9 : w.heap.size + 1 < w1.heap.size := Nat.lt_of_lt_of_le l4 hb1.size
  have hp1 : (0 : Int) ≤ 1048576 - (z0.length : Int) := by omega
  go_wp2_with fail
  refine (szMeasure_yes a2 z2.length cap2 (1048576 - (z0.length : Int)) _ b2 (by omega)).mono ?_
  rintro e w2 ⟨rfl, hb2⟩
  have T10 := below_then T5 hb2
  have c11 : w2.cell? ⟨w.heap.size, 0, none⟩ = some (.slice a0 z0.length cap0) := (hb2.cell (p := ⟨w.heap.size, 0, none⟩) l7).trans c6
  have l12 : w.heap.size < w2.heap.size := Nat.lt_of_lt_of_le l7 hb2.size
  have c13 : w2.cell? ⟨w.heap.size + 1, 0, none⟩ = some (.slice a2 z2.length cap2) := (hb2.cell (p := ⟨w.heap.size + 1, 0, none⟩) l9).trans c8
  have l14 : w.heap.size + 1 < w2.heap.size := Nat.lt_of_lt_of_le l9 hb2.size
  have hp2 : (0 : Int) ≤ 1048576 - (z0.length : Int) - (z2.length : Int) := by omega
  go_wp2_with fail
  have n15 := (Below.refl w2.heap.size w2).drew
  have T16 := below_then T10 n15
  have c17 : w2.drew.cell? ⟨w.heap.size, 0, none⟩ = some (.slice a0 z0.length cap0) := (n15.cell (p := ⟨w.heap.size, 0, none⟩) l12).trans c11
  have l18 : w.heap.size < w2.drew.heap.size := Nat.lt_of_lt_of_le l12 n15.size
  have c19 : w2.drew.cell? ⟨w.heap.size + 1, 0, none⟩ = some (.slice a2 z2.length cap2) := (n15.cell (p := ⟨w.heap.size + 1, 0, none⟩) l14).trans c13
  have l20 : w.heap.size + 1 < w2.drew.heap.size := Nat.lt_of_lt_of_le l14 n15.size
  have K21 := And.intro c17 c19
  go_region_held3 (fun w' => w'.cell? ⟨w.heap.size, 0, none⟩ = some (.slice a0 z0.length cap0) ∧ w'.cell? ⟨w.heap.size + 1, 0, none⟩ = some (.slice a2 z2.length cap2)) (first | exact K21 | exact K27 | exact K34 | exact K42 | exact K51 | go_keep) (first | (go_at_call_of 17 a0; have q3 := hR0.to T16; refine (toMeasure_any a0 cap0 z0 _ ?_ hl0).mono ?_; exact q3; rintro e w3 ⟨A3, d3, rfl, o3, hb3⟩; have T22 := below_then T16 hb3; have c23 : w3.cell? ⟨w.heap.size, 0, none⟩ = some (.slice a0 z0.length cap0) := (hb3.cell (p := ⟨w.heap.size, 0, none⟩) l18).trans c17; have l24 : w.heap.size < w3.heap.size := Nat.lt_of_lt_of_le l18 hb3.size; have c25 : w3.cell? ⟨w.heap.size + 1, 0, none⟩ = some (.slice a2 z2.length cap2) := (hb3.cell (p := ⟨w.heap.size + 1, 0, none⟩) l20).trans c19; have l26 : w.heap.size + 1 < w3.heap.size := Nat.lt_of_lt_of_le l20 hb3.size; have K27 := And.intro c23 c25) | (go_at_call_of 29 a1; have q4 := hR1.to T22; refine (toIntS_any a1 cap1 z1 _ ?_ hl1).mono ?_; exact q4; rintro e w4 ⟨A4, d4, rfl, o4, hb4⟩; have T28 := below_then T22 hb4; have c29 : w4.cell? ⟨w.heap.size, 0, none⟩ = some (.slice a0 z0.length cap0) := (hb4.cell (p := ⟨w.heap.size, 0, none⟩) l24).trans c23; have l30 : w.heap.size < w4.heap.size := Nat.lt_of_lt_of_le l24 hb4.size; have c31 : w4.cell? ⟨w.heap.size + 1, 0, none⟩ = some (.slice a2 z2.length cap2) := (hb4.cell (p := ⟨w.heap.size + 1, 0, none⟩) l26).trans c25; have l32 : w.heap.size + 1 < w4.heap.size := Nat.lt_of_lt_of_le l26 hb4.size; have r33 := o3.to hb4; have K34 := And.intro c29 c31) | (go_at_call_of 17 a2; have q5 := hR2.to T28; refine (toMeasure_any a2 cap2 z2 _ ?_ hl2).mono ?_; exact q5; rintro e w5 ⟨A5, d5, rfl, o5, hb5⟩; have T35 := below_then T28 hb5; have c36 : w5.cell? ⟨w.heap.size, 0, none⟩ = some (.slice a0 z0.length cap0) := (hb5.cell (p := ⟨w.heap.size, 0, none⟩) l30).trans c29; have l37 : w.heap.size < w5.heap.size := Nat.lt_of_lt_of_le l30 hb5.size; have c38 : w5.cell? ⟨w.heap.size + 1, 0, none⟩ = some (.slice a2 z2.length cap2) := (hb5.cell (p := ⟨w.heap.size + 1, 0, none⟩) l32).trans c31; have l39 : w.heap.size + 1 < w5.heap.size := Nat.lt_of_lt_of_le l32 hb5.size; have r40 := r33.to hb5; have r41 := o4.to hb5; have K42 := And.intro c36 c38) | (go_at_call 43; refine (sAmountConvert_any A3 A4 A5 d3 d4 d5 z0 z1 z2 n3 n4 _ ?_ hl0 ?_ hl1 ?_ hl2).mono ?_; exact r40.rd; exact r41.rd; exact o5.rd; rintro e w6 ⟨A6, d6, rfl, o6, hb6⟩; have T43 := below_then T35 hb6; have c44 : w6.cell? ⟨w.heap.size, 0, none⟩ = some (.slice a0 z0.length cap0) := (hb6.cell (p := ⟨w.heap.size, 0, none⟩) l37).trans c36; have l45 : w.heap.size < w6.heap.size := Nat.lt_of_lt_of_le l37 hb6.size; have c46 : w6.cell? ⟨w.heap.size + 1, 0, none⟩ = some (.slice a2 z2.length cap2) := (hb6.cell (p := ⟨w.heap.size + 1, 0, none⟩) l39).trans c38; have l47 : w.heap.size + 1 < w6.heap.size := Nat.lt_of_lt_of_le l39 hb6.size; have r48 := r40.to hb6; have r49 := r41.to hb6; have r50 := o5.to hb6; have K51 := And.intro c44 c46))
  have s3 := hb3.size
  have t3 := T16.size
  have s4 := hb4.size
  have t4 := T22.size
  have s5 := hb5.size
  have t5 := T28.size
  have s6 := hb6.size
  have t6 := T35.size
  go_wp2_with fail
  have q7 := hR0.to T43
  refine (toMeasure_any a0 cap0 z0 _ q7 hl0).mono ?_
  rintro e w7 ⟨A7, d7, rfl, o7, hb7⟩
  have s7 := hb7.size
  have t7 := T43.size
  have T52 := below_then T43 hb7
  have c53 : w7.cell? ⟨w.heap.size, 0, none⟩ = some (.slice a0 z0.length cap0) := (hb7.cell (p := ⟨w.heap.size, 0, none⟩) l45).trans c44
  have l54 : w.heap.size < w7.heap.size := Nat.lt_of_lt_of_le l45 hb7.size
  have c55 : w7.cell? ⟨w.heap.size + 1, 0, none⟩ = some (.slice a2 z2.length cap2) := (hb7.cell (p := ⟨w.heap.size + 1, 0, none⟩) l47).trans c46
  have l56 : w.heap.size + 1 < w7.heap.size := Nat.lt_of_lt_of_le l47 hb7.size
  have r57 := o6.to hb7
  go_wp2_with fail
  have n58 := below_new w7 (.cells #[.slice A7 z0.length d7] 27)
  have s059 := n58.size
  have T60 := below_then T52 n58
  have c61 : (w7.alloc (.cells #[.slice A7 z0.length d7] 27)).cell? ⟨w.heap.size, 0, none⟩ = some (.slice a0 z0.length cap0) := (n58.cell (p := ⟨w.heap.size, 0, none⟩) l54).trans c53
  have l62 : w.heap.size < (w7.alloc (.cells #[.slice A7 z0.length d7] 27)).heap.size := Nat.lt_of_lt_of_le l54 n58.size
  have c63 : (w7.alloc (.cells #[.slice A7 z0.length d7] 27)).cell? ⟨w.heap.size + 1, 0, none⟩ = some (.slice a2 z2.length cap2) := (n58.cell (p := ⟨w.heap.size + 1, 0, none⟩) l56).trans c55
  have l64 : w.heap.size + 1 < (w7.alloc (.cells #[.slice A7 z0.length d7] 27)).heap.size := Nat.lt_of_lt_of_le l56 n58.size
  have r65 := r57.to n58
  have r66 := o7.to n58
  have c67 : (w7.alloc (.cells #[.slice A7 z0.length d7] 27)).cell? ⟨w7.heap.size, 0, none⟩ = some (.slice A7 z0.length d7) := box_cell _ _ _
  have l68 : w7.heap.size < (w7.alloc (.cells #[.slice A7 z0.length d7] 27)).heap.size := by simp
  have q8 := hR1.to T60
  refine (toIntS_any a1 cap1 z1 _ q8 hl1).mono ?_
  rintro e w8 ⟨A8, d8, rfl, o8, hb8⟩
  have s8 := hb8.size
  have t8 := T60.size
  have T69 := below_then T60 hb8
  have c70 : w8.cell? ⟨w.heap.size, 0, none⟩ = some (.slice a0 z0.length cap0) := (hb8.cell (p := ⟨w.heap.size, 0, none⟩) l62).trans c61
  have l71 : w.heap.size < w8.heap.size := Nat.lt_of_lt_of_le l62 hb8.size
  have c72 : w8.cell? ⟨w.heap.size + 1, 0, none⟩ = some (.slice a2 z2.length cap2) := (hb8.cell (p := ⟨w.heap.size + 1, 0, none⟩) l64).trans c63
  have l73 : w.heap.size + 1 < w8.heap.size := Nat.lt_of_lt_of_le l64 hb8.size
  have c74 : w8.cell? ⟨w7.heap.size, 0, none⟩ = some (.slice A7 z0.length d7) := (hb8.cell (p := ⟨w7.heap.size, 0, none⟩) l68).trans c67
  have l75 : w7.heap.size < w8.heap.size := Nat.lt_of_lt_of_le l68 hb8.size
  have r76 := r65.to hb8
  have r77 := r66.to hb8
  go_wp2_with fail
  have q9 := hR2.to T69
  refine (toMeasure_any a2 cap2 z2 _ q9 hl2).mono ?_
  rintro e w9 ⟨A9, d9, rfl, o9, hb9⟩
  have s9 := hb9.size
  have t9 := T69.size
  have T78 := below_then T69 hb9
  have c79 : w9.cell? ⟨w.heap.size, 0, none⟩ = some (.slice a0 z0.length cap0) := (hb9.cell (p := ⟨w.heap.size, 0, none⟩) l71).trans c70
  have l80 : w.heap.size < w9.heap.size := Nat.lt_of_lt_of_le l71 hb9.size
  have c81 : w9.cell? ⟨w.heap.size + 1, 0, none⟩ = some (.slice a2 z2.length cap2) := (hb9.cell (p := ⟨w.heap.size + 1, 0, none⟩) l73).trans c72
  have l82 : w.heap.size + 1 < w9.heap.size := Nat.lt_of_lt_of_le l73 hb9.size
  have c83 : w9.cell? ⟨w7.heap.size, 0, none⟩ = some (.slice A7 z0.length d7) := (hb9.cell (p := ⟨w7.heap.size, 0, none⟩) l75).trans c74
  have l84 : w7.heap.size < w9.heap.size := Nat.lt_of_lt_of_le l75 hb9.size
  have r85 := r76.to hb9
  have r86 := r77.to hb9
  have r87 := o8.to hb9
  go_wp2_with fail
  have n88 := below_new w9 (.cells #[.slice A9 z2.length d9] 27)
  have s089 := n88.size
  have T90 := below_then T78 n88
  have c91 : (w9.alloc (.cells #[.slice A9 z2.length d9] 27)).cell? ⟨w.heap.size, 0, none⟩ = some (.slice a0 z0.length cap0) := (n88.cell (p := ⟨w.heap.size, 0, none⟩) l80).trans c79
  have l92 : w.heap.size < (w9.alloc (.cells #[.slice A9 z2.length d9] 27)).heap.size := Nat.lt_of_lt_of_le l80 n88.size
  have c93 : (w9.alloc (.cells #[.slice A9 z2.length d9] 27)).cell? ⟨w.heap.size + 1, 0, none⟩ = some (.slice a2 z2.length cap2) := (n88.cell (p := ⟨w.heap.size + 1, 0, none⟩) l82).trans c81
  have l94 : w.heap.size + 1 < (w9.alloc (.cells #[.slice A9 z2.length d9] 27)).heap.size := Nat.lt_of_lt_of_le l82 n88.size
  have c95 : (w9.alloc (.cells #[.slice A9 z2.length d9] 27)).cell? ⟨w7.heap.size, 0, none⟩ = some (.slice A7 z0.length d7) := (n88.cell (p := ⟨w7.heap.size, 0, none⟩) l84).trans c83
  have l96 : w7.heap.size < (w9.alloc (.cells #[.slice A9 z2.length d9] 27)).heap.size := Nat.lt_of_lt_of_le l84 n88.size
  have r97 := r85.to n88
  have r98 := r86.to n88
  have r99 := r87.to n88
  have r100 := o9.to n88
  have c101 : (w9.alloc (.cells #[.slice A9 z2.length d9] 27)).cell? ⟨w9.heap.size, 0, none⟩ = some (.slice A9 z2.length d9) := box_cell _ _ _
  have l102 : w9.heap.size < (w9.alloc (.cells #[.slice A9 z2.length d9] 27)).heap.size := by simp
  refine (iAmountConvert_any A7 A8 A9 d7 d8 d9 z0 z1 z2 n3 n4 _ r98.rd hl0 r99.rd hl1 r100.rd hl2).mono ?_
  rintro e w10 ⟨A10, d10, rfl, o10, hb10⟩
  have s10 := hb10.size
  have t10 := T90.size
  have T103 := below_then T90 hb10
  have c104 : w10.cell? ⟨w.heap.size, 0, none⟩ = some (.slice a0 z0.length cap0) := (hb10.cell (p := ⟨w.heap.size, 0, none⟩) l92).trans c91
  have l105 : w.heap.size < w10.heap.size := Nat.lt_of_lt_of_le l92 hb10.size
  have c106 : w10.cell? ⟨w.heap.size + 1, 0, none⟩ = some (.slice a2 z2.length cap2) := (hb10.cell (p := ⟨w.heap.size + 1, 0, none⟩) l94).trans c93
  have l107 : w.heap.size + 1 < w10.heap.size := Nat.lt_of_lt_of_le l94 hb10.size
  have c108 : w10.cell? ⟨w7.heap.size, 0, none⟩ = some (.slice A7 z0.length d7) := (hb10.cell (p := ⟨w7.heap.size, 0, none⟩) l96).trans c95
  have l109 : w7.heap.size < w10.heap.size := Nat.lt_of_lt_of_le l96 hb10.size
  have c110 : w10.cell? ⟨w9.heap.size, 0, none⟩ = some (.slice A9 z2.length d9) := (hb10.cell (p := ⟨w9.heap.size, 0, none⟩) l102).trans c101
  have l111 : w9.heap.size < w10.heap.size := Nat.lt_of_lt_of_le l102 hb10.size
  have r112 := r97.to hb10
  have r113 := r98.to hb10
  have r114 := r99.to hb10
  have r115 := r100.to hb10
  go_wp2_with fail
  refine (eqIntS_b A10 A6 d10 d6 (aoZ z2 (convN (vldR z2) (lst z0 z1) n3 n4)) _ o10.rd r112.rd (Nat.le_trans (aoZ_len _ _) (by omega))).mono ?_
  rintro e w11 ⟨rfl, hb11⟩
  have s11 := hb11.size
  have T116 := below_then T103 hb11
  have c117 : w11.cell? ⟨w.heap.size, 0, none⟩ = some (.slice a0 z0.length cap0) := (hb11.cell (p := ⟨w.heap.size, 0, none⟩) l105).trans c104
  have l118 : w.heap.size < w11.heap.size := Nat.lt_of_lt_of_le l105 hb11.size
  have c119 : w11.cell? ⟨w.heap.size + 1, 0, none⟩ = some (.slice a2 z2.length cap2) := (hb11.cell (p := ⟨w.heap.size + 1, 0, none⟩) l107).trans c106
  have l120 : w.heap.size + 1 < w11.heap.size := Nat.lt_of_lt_of_le l107 hb11.size
  have c121 : w11.cell? ⟨w7.heap.size, 0, none⟩ = some (.slice A7 z0.length d7) := (hb11.cell (p := ⟨w7.heap.size, 0, none⟩) l109).trans c108
  have l122 : w7.heap.size < w11.heap.size := Nat.lt_of_lt_of_le l109 hb11.size
  have c123 : w11.cell? ⟨w9.heap.size, 0, none⟩ = some (.slice A9 z2.length d9) := (hb11.cell (p := ⟨w9.heap.size, 0, none⟩) l111).trans c110
  have l124 : w9.heap.size < w11.heap.size := Nat.lt_of_lt_of_le l111 hb11.size
  have r125 := r112.to hb11
  have r126 := r113.to hb11
  have r127 := r114.to hb11
  have r128 := r115.to hb11
  have r129 := o10.to hb11
  go_wp2_with fail
  have n130 := (Below.refl w11.heap.size w11).drew
  have T131 := below_then T116 n130
  have c132 : w11.drew.cell? ⟨w.heap.size, 0, none⟩ = some (.slice a0 z0.length cap0) := (n130.cell (p := ⟨w.heap.size, 0, none⟩) l118).trans c117
  have l133 : w.heap.size < w11.drew.heap.size := Nat.lt_of_lt_of_le l118 n130.size
  have c134 : w11.drew.cell? ⟨w.heap.size + 1, 0, none⟩ = some (.slice a2 z2.length cap2) := (n130.cell (p := ⟨w.heap.size + 1, 0, none⟩) l120).trans c119
  have l135 : w.heap.size + 1 < w11.drew.heap.size := Nat.lt_of_lt_of_le l120 n130.size
  have c136 : w11.drew.cell? ⟨w7.heap.size, 0, none⟩ = some (.slice A7 z0.length d7) := (n130.cell (p := ⟨w7.heap.size, 0, none⟩) l122).trans c121
  have l137 : w7.heap.size < w11.drew.heap.size := Nat.lt_of_lt_of_le l122 n130.size
  have c138 : w11.drew.cell? ⟨w9.heap.size, 0, none⟩ = some (.slice A9 z2.length d9) := (n130.cell (p := ⟨w9.heap.size, 0, none⟩) l124).trans c123
  have l139 : w9.heap.size < w11.drew.heap.size := Nat.lt_of_lt_of_le l124 n130.size
  have r140 := r125.to n130
  have r141 := r126.to n130
  have r142 := r127.to n130
  have r143 := r128.to n130
  have r144 := r129.to n130
  have q12 := hR0.to T131
  have k12 := And.intro c132 c136
  go_region_held3 (fun w' => w'.cell? ⟨w.heap.size, 0, none⟩ = some (.slice a0 z0.length cap0) ∧ w'.cell? ⟨w7.heap.size, 0, none⟩ = some (.slice A7 z0.length d7)) (first | exact k12 | exact k12b | exact k12c | go_keep) (first | (go_at_call 17; refine (toMeasure_any a0 cap0 z0 _ ?_ hl0).mono ?_; exact q12; rintro e w12 ⟨A12, d12, rfl, o12, hb12⟩; have T145 := below_then T131 hb12; have c146 : w12.cell? ⟨w.heap.size, 0, none⟩ = some (.slice a0 z0.length cap0) := (hb12.cell (p := ⟨w.heap.size, 0, none⟩) l133).trans c132; have l147 : w.heap.size < w12.heap.size := Nat.lt_of_lt_of_le l133 hb12.size; have c148 : w12.cell? ⟨w.heap.size + 1, 0, none⟩ = some (.slice a2 z2.length cap2) := (hb12.cell (p := ⟨w.heap.size + 1, 0, none⟩) l135).trans c134; have l149 : w.heap.size + 1 < w12.heap.size := Nat.lt_of_lt_of_le l135 hb12.size; have c150 : w12.cell? ⟨w7.heap.size, 0, none⟩ = some (.slice A7 z0.length d7) := (hb12.cell (p := ⟨w7.heap.size, 0, none⟩) l137).trans c136; have l151 : w7.heap.size < w12.heap.size := Nat.lt_of_lt_of_le l137 hb12.size; have c152 : w12.cell? ⟨w9.heap.size, 0, none⟩ = some (.slice A9 z2.length d9) := (hb12.cell (p := ⟨w9.heap.size, 0, none⟩) l139).trans c138; have l153 : w9.heap.size < w12.heap.size := Nat.lt_of_lt_of_le l139 hb12.size; have r154 := r140.to hb12; have r155 := r141.to hb12; have r156 := r142.to hb12; have r157 := r143.to hb12; have r158 := r144.to hb12; have k12b := And.intro c146 c150) | (go_at_call 19; refine (eqMeasure_yes A7 A12 d7 d12 z0 _ ?_ ?_ hl0).mono ?_; exact r155.rd; exact o12.rd; rintro e w13 ⟨rfl, hb13⟩; have T159 := below_then T145 hb13; have c160 : w13.cell? ⟨w.heap.size, 0, none⟩ = some (.slice a0 z0.length cap0) := (hb13.cell (p := ⟨w.heap.size, 0, none⟩) l147).trans c146; have l161 : w.heap.size < w13.heap.size := Nat.lt_of_lt_of_le l147 hb13.size; have c162 : w13.cell? ⟨w.heap.size + 1, 0, none⟩ = some (.slice a2 z2.length cap2) := (hb13.cell (p := ⟨w.heap.size + 1, 0, none⟩) l149).trans c148; have l163 : w.heap.size + 1 < w13.heap.size := Nat.lt_of_lt_of_le l149 hb13.size; have c164 : w13.cell? ⟨w7.heap.size, 0, none⟩ = some (.slice A7 z0.length d7) := (hb13.cell (p := ⟨w7.heap.size, 0, none⟩) l151).trans c150; have l165 : w7.heap.size < w13.heap.size := Nat.lt_of_lt_of_le l151 hb13.size; have c166 : w13.cell? ⟨w9.heap.size, 0, none⟩ = some (.slice A9 z2.length d9) := (hb13.cell (p := ⟨w9.heap.size, 0, none⟩) l153).trans c152; have l167 : w9.heap.size < w13.heap.size := Nat.lt_of_lt_of_le l153 hb13.size; have r168 := r154.to hb13; have r169 := r155.to hb13; have r170 := r156.to hb13; have r171 := r157.to hb13; have r172 := r158.to hb13; have k12c := And.intro c160 c164))
  have s12 := hb12.size
  have s13 := hb13.size
  go_wp2_with fail
  have q14 := hR1.to T159
  refine (toIntS_any a1 cap1 z1 _ q14 hl1).mono ?_
  rintro e w14 ⟨A14, d14, rfl, o14, hb14⟩
  have s14 := hb14.size
  have t14 := T159.size
  have T173 := below_then T159 hb14
  have c174 : w14.cell? ⟨w.heap.size, 0, none⟩ = some (.slice a0 z0.length cap0) := (hb14.cell (p := ⟨w.heap.size, 0, none⟩) l161).trans c160
  have l175 : w.heap.size < w14.heap.size := Nat.lt_of_lt_of_le l161 hb14.size
  have c176 : w14.cell? ⟨w.heap.size + 1, 0, none⟩ = some (.slice a2 z2.length cap2) := (hb14.cell (p := ⟨w.heap.size + 1, 0, none⟩) l163).trans c162
  have l177 : w.heap.size + 1 < w14.heap.size := Nat.lt_of_lt_of_le l163 hb14.size
  have c178 : w14.cell? ⟨w7.heap.size, 0, none⟩ = some (.slice A7 z0.length d7) := (hb14.cell (p := ⟨w7.heap.size, 0, none⟩) l165).trans c164
  have l179 : w7.heap.size < w14.heap.size := Nat.lt_of_lt_of_le l165 hb14.size
  have c180 : w14.cell? ⟨w9.heap.size, 0, none⟩ = some (.slice A9 z2.length d9) := (hb14.cell (p := ⟨w9.heap.size, 0, none⟩) l167).trans c166
  have l181 : w9.heap.size < w14.heap.size := Nat.lt_of_lt_of_le l167 hb14.size
  have r182 := r168.to hb14
  have r183 := r169.to hb14
  have r184 := r170.to hb14
  have r185 := r171.to hb14
  have r186 := r172.to hb14
  go_wp2_with fail
  refine (eqIntS_b A8 A14 d8 d14 z1 _ r184.rd o14.rd hl1).mono ?_
  rintro e w15 ⟨rfl, hb15⟩
  have s15 := hb15.size
  have T187 := below_then T173 hb15
  have c188 : w15.cell? ⟨w.heap.size, 0, none⟩ = some (.slice a0 z0.length cap0) := (hb15.cell (p := ⟨w.heap.size, 0, none⟩) l175).trans c174
  have l189 : w.heap.size < w15.heap.size := Nat.lt_of_lt_of_le l175 hb15.size
  have c190 : w15.cell? ⟨w.heap.size + 1, 0, none⟩ = some (.slice a2 z2.length cap2) := (hb15.cell (p := ⟨w.heap.size + 1, 0, none⟩) l177).trans c176
  have l191 : w.heap.size + 1 < w15.heap.size := Nat.lt_of_lt_of_le l177 hb15.size
  have c192 : w15.cell? ⟨w7.heap.size, 0, none⟩ = some (.slice A7 z0.length d7) := (hb15.cell (p := ⟨w7.heap.size, 0, none⟩) l179).trans c178
  have l193 : w7.heap.size < w15.heap.size := Nat.lt_of_lt_of_le l179 hb15.size
  have c194 : w15.cell? ⟨w9.heap.size, 0, none⟩ = some (.slice A9 z2.length d9) := (hb15.cell (p := ⟨w9.heap.size, 0, none⟩) l181).trans c180
  have l195 : w9.heap.size < w15.heap.size := Nat.lt_of_lt_of_le l181 hb15.size
  have r196 := r182.to hb15
  have r197 := r183.to hb15
  have r198 := r184.to hb15
  have r199 := r185.to hb15
  have r200 := r186.to hb15
  have r201 := o14.to hb15
  go_wp2_with fail
  have n202 := (Below.refl w15.heap.size w15).drew
  have T203 := below_then T187 n202
  have c204 : w15.drew.cell? ⟨w.heap.size, 0, none⟩ = some (.slice a0 z0.length cap0) := (n202.cell (p := ⟨w.heap.size, 0, none⟩) l189).trans c188
  have l205 : w.heap.size < w15.drew.heap.size := Nat.lt_of_lt_of_le l189 n202.size
  have c206 : w15.drew.cell? ⟨w.heap.size + 1, 0, none⟩ = some (.slice a2 z2.length cap2) := (n202.cell (p := ⟨w.heap.size + 1, 0, none⟩) l191).trans c190
  have l207 : w.heap.size + 1 < w15.drew.heap.size := Nat.lt_of_lt_of_le l191 n202.size
  have c208 : w15.drew.cell? ⟨w7.heap.size, 0, none⟩ = some (.slice A7 z0.length d7) := (n202.cell (p := ⟨w7.heap.size, 0, none⟩) l193).trans c192
  have l209 : w7.heap.size < w15.drew.heap.size := Nat.lt_of_lt_of_le l193 n202.size
  have c210 : w15.drew.cell? ⟨w9.heap.size, 0, none⟩ = some (.slice A9 z2.length d9) := (n202.cell (p := ⟨w9.heap.size, 0, none⟩) l195).trans c194
  have l211 : w9.heap.size < w15.drew.heap.size := Nat.lt_of_lt_of_le l195 n202.size
  have r212 := r196.to n202
  have r213 := r197.to n202
  have r214 := r198.to n202
  have r215 := r199.to n202
  have r216 := r200.to n202
  have q16 := hR2.to T203
  have k16 := And.intro c206 c210
  go_region_held3 (fun w' => w'.cell? ⟨w.heap.size + 1, 0, none⟩ = some (.slice a2 z2.length cap2) ∧ w'.cell? ⟨w9.heap.size, 0, none⟩ = some (.slice A9 z2.length d9)) (first | exact k16 | exact k16b | exact k16c | go_keep) (first | (go_at_call 17; refine (toMeasure_any a2 cap2 z2 _ ?_ hl2).mono ?_; exact q16; rintro e w16 ⟨A16, d16, rfl, o16, hb16⟩; have T217 := below_then T203 hb16; have c218 : w16.cell? ⟨w.heap.size, 0, none⟩ = some (.slice a0 z0.length cap0) := (hb16.cell (p := ⟨w.heap.size, 0, none⟩) l205).trans c204; have l219 : w.heap.size < w16.heap.size := Nat.lt_of_lt_of_le l205 hb16.size; have c220 : w16.cell? ⟨w.heap.size + 1, 0, none⟩ = some (.slice a2 z2.length cap2) := (hb16.cell (p := ⟨w.heap.size + 1, 0, none⟩) l207).trans c206; have l221 : w.heap.size + 1 < w16.heap.size := Nat.lt_of_lt_of_le l207 hb16.size; have c222 : w16.cell? ⟨w7.heap.size, 0, none⟩ = some (.slice A7 z0.length d7) := (hb16.cell (p := ⟨w7.heap.size, 0, none⟩) l209).trans c208; have l223 : w7.heap.size < w16.heap.size := Nat.lt_of_lt_of_le l209 hb16.size; have c224 : w16.cell? ⟨w9.heap.size, 0, none⟩ = some (.slice A9 z2.length d9) := (hb16.cell (p := ⟨w9.heap.size, 0, none⟩) l211).trans c210; have l225 : w9.heap.size < w16.heap.size := Nat.lt_of_lt_of_le l211 hb16.size; have r226 := r212.to hb16; have r227 := r213.to hb16; have r228 := r214.to hb16; have r229 := r215.to hb16; have r230 := r216.to hb16; have k16b := And.intro c220 c224) | (go_at_call 19; refine (eqMeasure_yes A9 A16 d9 d16 z2 _ ?_ ?_ hl2).mono ?_; exact r229.rd; exact o16.rd; rintro e w17 ⟨rfl, hb17⟩; have T231 := below_then T217 hb17; have c232 : w17.cell? ⟨w.heap.size, 0, none⟩ = some (.slice a0 z0.length cap0) := (hb17.cell (p := ⟨w.heap.size, 0, none⟩) l219).trans c218; have l233 : w.heap.size < w17.heap.size := Nat.lt_of_lt_of_le l219 hb17.size; have c234 : w17.cell? ⟨w.heap.size + 1, 0, none⟩ = some (.slice a2 z2.length cap2) := (hb17.cell (p := ⟨w.heap.size + 1, 0, none⟩) l221).trans c220; have l235 : w.heap.size + 1 < w17.heap.size := Nat.lt_of_lt_of_le l221 hb17.size; have c236 : w17.cell? ⟨w7.heap.size, 0, none⟩ = some (.slice A7 z0.length d7) := (hb17.cell (p := ⟨w7.heap.size, 0, none⟩) l223).trans c222; have l237 : w7.heap.size < w17.heap.size := Nat.lt_of_lt_of_le l223 hb17.size; have c238 : w17.cell? ⟨w9.heap.size, 0, none⟩ = some (.slice A9 z2.length d9) := (hb17.cell (p := ⟨w9.heap.size, 0, none⟩) l225).trans c224; have l239 : w9.heap.size < w17.heap.size := Nat.lt_of_lt_of_le l225 hb17.size; have r240 := r226.to hb17; have r241 := r227.to hb17; have r242 := r228.to hb17; have r243 := r229.to hb17; have r244 := r230.to hb17; have k16c := And.intro c234 c238))
  have s16 := hb16.size
  have s17 := hb17.size
  go_wp2_with fail
  refine (markMeasure_any _ A7 d7 z0 (1) _ r241 hl0 (by omega) (by omega)).mono ?_
  rintro e w18 ⟨rfl, hg18⟩
  have T245 : Below w.heap.size w w18 := T231.grown hg18 T231.size (fun k e => Nat.le_trans t7 (o7.span k e).1)
  have c246 : w18.cell? ⟨w.heap.size, 0, none⟩ = some (.slice a0 z0.length cap0) := (World.cell?_of_block (a := ⟨w.heap.size, 0, none⟩) (hg18.block (w.heap.size) l233 (fun e => by have := o7.span _ e.symm; omega))).trans c232
  have l247 : w.heap.size < w18.heap.size := Nat.lt_of_lt_of_le l233 hg18.size
  have c248 : w18.cell? ⟨w.heap.size + 1, 0, none⟩ = some (.slice a2 z2.length cap2) := (World.cell?_of_block (a := ⟨w.heap.size + 1, 0, none⟩) (hg18.block (w.heap.size + 1) l235 (fun e => by have := o7.span _ e.symm; omega))).trans c234
  have l249 : w.heap.size + 1 < w18.heap.size := Nat.lt_of_lt_of_le l235 hg18.size
  have c250 : w18.cell? ⟨w7.heap.size, 0, none⟩ = some (.slice A7 z0.length d7) := (World.cell?_of_block (a := ⟨w7.heap.size, 0, none⟩) (hg18.block (w7.heap.size) l237 (fun e => by have := o7.span _ e.symm; omega))).trans c236
  have l251 : w7.heap.size < w18.heap.size := Nat.lt_of_lt_of_le l237 hg18.size
  have c252 : w18.cell? ⟨w9.heap.size, 0, none⟩ = some (.slice A9 z2.length d9) := (World.cell?_of_block (a := ⟨w9.heap.size, 0, none⟩) (hg18.block (w9.heap.size) l239 (fun e => by have := o7.span _ e.symm; omega))).trans c238
  have l253 : w9.heap.size < w18.heap.size := Nat.lt_of_lt_of_le l239 hg18.size
  have r254 := IR.grown' r240 hg18 (o6.apart o7 (by omega))
  have r255 := IR.grown' r242 hg18 (fun g e e2 => o7.apart o8 (by omega) g e2 e)
  have r256 := IR.grown' r243 hg18 (fun g e e2 => o7.apart o9 (by omega) g e2 e)
  have r257 := IR.grown' r244 hg18 (fun g e e2 => o7.apart o10 (by omega) g e2 e)
  have s18 := hg18.size
  go_wp2_with fail
  refine (markIntS_any _ A8 d8 z1 (1 + (z0.length : Int)) _ r255 hl1 (by omega) (by omega)).mono ?_
  rintro e w19 ⟨rfl, -, hg19⟩
  have T258 : Below w.heap.size w w19 := T245.grown hg19 T245.size (fun k e => Nat.le_trans t8 (o8.span k e).1)
  have c259 : w19.cell? ⟨w.heap.size, 0, none⟩ = some (.slice a0 z0.length cap0) := (World.cell?_of_block (a := ⟨w.heap.size, 0, none⟩) (hg19.block (w.heap.size) l247 (fun e => by have := o8.span _ e.symm; omega))).trans c246
  have l260 : w.heap.size < w19.heap.size := Nat.lt_of_lt_of_le l247 hg19.size
  have c261 : w19.cell? ⟨w.heap.size + 1, 0, none⟩ = some (.slice a2 z2.length cap2) := (World.cell?_of_block (a := ⟨w.heap.size + 1, 0, none⟩) (hg19.block (w.heap.size + 1) l249 (fun e => by have := o8.span _ e.symm; omega))).trans c248
  have l262 : w.heap.size + 1 < w19.heap.size := Nat.lt_of_lt_of_le l249 hg19.size
  have c263 : w19.cell? ⟨w7.heap.size, 0, none⟩ = some (.slice A7 z0.length d7) := (World.cell?_of_block (a := ⟨w7.heap.size, 0, none⟩) (hg19.block (w7.heap.size) l251 (fun e => by have := o8.span _ e.symm; omega))).trans c250
  have l264 : w7.heap.size < w19.heap.size := Nat.lt_of_lt_of_le l251 hg19.size
  have c265 : w19.cell? ⟨w9.heap.size, 0, none⟩ = some (.slice A9 z2.length d9) := (World.cell?_of_block (a := ⟨w9.heap.size, 0, none⟩) (hg19.block (w9.heap.size) l253 (fun e => by have := o8.span _ e.symm; omega))).trans c252
  have l266 : w9.heap.size < w19.heap.size := Nat.lt_of_lt_of_le l253 hg19.size
  have r267 := IR.grown' r254 hg19 (o6.apart o8 (by omega))
  have r268 := IR.grown' r256 hg19 (fun g e e2 => o8.apart o9 (by omega) g e2 e)
  have r269 := IR.grown' r257 hg19 (fun g e e2 => o8.apart o10 (by omega) g e2 e)
  have s19 := hg19.size
  go_wp2_with fail
  refine (markMeasure_any _ A9 d9 z2 (1 + (z0.length : Int) + (z1.length : Int)) _ r268 hl2 (by omega) (by omega)).mono ?_
  rintro e w20 ⟨rfl, hg20⟩
  have T270 : Below w.heap.size w w20 := T258.grown hg20 T258.size (fun k e => Nat.le_trans t9 (o9.span k e).1)
  have c271 : w20.cell? ⟨w.heap.size, 0, none⟩ = some (.slice a0 z0.length cap0) := (World.cell?_of_block (a := ⟨w.heap.size, 0, none⟩) (hg20.block (w.heap.size) l260 (fun e => by have := o9.span _ e.symm; omega))).trans c259
  have l272 : w.heap.size < w20.heap.size := Nat.lt_of_lt_of_le l260 hg20.size
  have c273 : w20.cell? ⟨w.heap.size + 1, 0, none⟩ = some (.slice a2 z2.length cap2) := (World.cell?_of_block (a := ⟨w.heap.size + 1, 0, none⟩) (hg20.block (w.heap.size + 1) l262 (fun e => by have := o9.span _ e.symm; omega))).trans c261
  have l274 : w.heap.size + 1 < w20.heap.size := Nat.lt_of_lt_of_le l262 hg20.size
  have c275 : w20.cell? ⟨w7.heap.size, 0, none⟩ = some (.slice A7 z0.length d7) := (World.cell?_of_block (a := ⟨w7.heap.size, 0, none⟩) (hg20.block (w7.heap.size) l264 (fun e => by have := o9.span _ e.symm; omega))).trans c263
  have l276 : w7.heap.size < w20.heap.size := Nat.lt_of_lt_of_le l264 hg20.size
  have c277 : w20.cell? ⟨w9.heap.size, 0, none⟩ = some (.slice A9 z2.length d9) := (World.cell?_of_block (a := ⟨w9.heap.size, 0, none⟩) (hg20.block (w9.heap.size) l266 (fun e => by have := o9.span _ e.symm; omega))).trans c265
  have l278 : w9.heap.size < w20.heap.size := Nat.lt_of_lt_of_le l266 hg20.size
  have r279 := IR.grown' r267 hg20 (o6.apart o9 (by omega))
  have r280 := IR.grown' r269 hg20 (fun g e e2 => o9.apart o10 (by omega) g e2 e)
  have s20 := hg20.size
  go_wp2_with fail
  refine (eqIntS_b A10 A6 d10 d6 (aoZ z2 (convN (vldR z2) (lst z0 z1) n3 n4)) _ r280.rd r279.rd (Nat.le_trans (aoZ_len _ _) (by omega))).mono ?_
  rintro e w21 ⟨rfl, hb21⟩
  have s21 := hb21.size
  have T281 := below_then T270 hb21
  have c282 : w21.cell? ⟨w.heap.size, 0, none⟩ = some (.slice a0 z0.length cap0) := (hb21.cell (p := ⟨w.heap.size, 0, none⟩) l272).trans c271
  have l283 : w.heap.size < w21.heap.size := Nat.lt_of_lt_of_le l272 hb21.size
  have c284 : w21.cell? ⟨w.heap.size + 1, 0, none⟩ = some (.slice a2 z2.length cap2) := (hb21.cell (p := ⟨w.heap.size + 1, 0, none⟩) l274).trans c273
  have l285 : w.heap.size + 1 < w21.heap.size := Nat.lt_of_lt_of_le l274 hb21.size
  have c286 : w21.cell? ⟨w7.heap.size, 0, none⟩ = some (.slice A7 z0.length d7) := (hb21.cell (p := ⟨w7.heap.size, 0, none⟩) l276).trans c275
  have l287 : w7.heap.size < w21.heap.size := Nat.lt_of_lt_of_le l276 hb21.size
  have c288 : w21.cell? ⟨w9.heap.size, 0, none⟩ = some (.slice A9 z2.length d9) := (hb21.cell (p := ⟨w9.heap.size, 0, none⟩) l278).trans c277
  have l289 : w9.heap.size < w21.heap.size := Nat.lt_of_lt_of_le l278 hb21.size
  have r290 := r279.to hb21
  have r291 := r280.to hb21
  go_wp2_with fail
  have y22 : (aoZ z2 (convN (vldR z2) (lst z0 z1) n3 n4)).length ≤ 1048576 := (Nat.le_trans (aoZ_len _ _) (by omega))
  refine (markIntS_any _ A10 d10 (aoZ z2 (convN (vldR z2) (lst z0 z1) n3 n4)) (1) _ r291 y22 (by omega) (by omega)).mono ?_
  rintro e w22 ⟨rfl, u22, hg22⟩
  have T292 : Below w.heap.size w w22 := T281.grown hg22 T281.size (fun k e => Nat.le_trans t10 (o10.span k e).1)
  have c293 : w22.cell? ⟨w.heap.size, 0, none⟩ = some (.slice a0 z0.length cap0) := (World.cell?_of_block (a := ⟨w.heap.size, 0, none⟩) (hg22.block (w.heap.size) l283 (fun e => by have := o10.span _ e.symm; omega))).trans c282
  have l294 : w.heap.size < w22.heap.size := Nat.lt_of_lt_of_le l283 hg22.size
  have c295 : w22.cell? ⟨w.heap.size + 1, 0, none⟩ = some (.slice a2 z2.length cap2) := (World.cell?_of_block (a := ⟨w.heap.size + 1, 0, none⟩) (hg22.block (w.heap.size + 1) l285 (fun e => by have := o10.span _ e.symm; omega))).trans c284
  have l296 : w.heap.size + 1 < w22.heap.size := Nat.lt_of_lt_of_le l285 hg22.size
  have c297 : w22.cell? ⟨w7.heap.size, 0, none⟩ = some (.slice A7 z0.length d7) := (World.cell?_of_block (a := ⟨w7.heap.size, 0, none⟩) (hg22.block (w7.heap.size) l287 (fun e => by have := o10.span _ e.symm; omega))).trans c286
  have l298 : w7.heap.size < w22.heap.size := Nat.lt_of_lt_of_le l287 hg22.size
  have c299 : w22.cell? ⟨w9.heap.size, 0, none⟩ = some (.slice A9 z2.length d9) := (World.cell?_of_block (a := ⟨w9.heap.size, 0, none⟩) (hg22.block (w9.heap.size) l289 (fun e => by have := o10.span _ e.symm; omega))).trans c288
  have l300 : w9.heap.size < w22.heap.size := Nat.lt_of_lt_of_le l289 hg22.size
  have r301 := IR.grown' r290 hg22 (o6.apart o10 (by omega))
  have s22 := hg22.size
  go_wp2_with fail
  refine (heldIntS_any A10 d10 (aoZ z2 (convN (vldR z2) (lst z0 z1) n3 n4)).length (1) _ u22.rd y22 (by omega) (by omega)).mono ?_
  rintro e w' ⟨rfl, rfl⟩
  go_wp2_with fail
  have n302 := (Below.refl w22.heap.size w22).drew
  have T303 := below_then T292 n302
  have c304 : w22.drew.cell? ⟨w.heap.size, 0, none⟩ = some (.slice a0 z0.length cap0) := (n302.cell (p := ⟨w.heap.size, 0, none⟩) l294).trans c293
  have l305 : w.heap.size < w22.drew.heap.size := Nat.lt_of_lt_of_le l294 n302.size
  have c306 : w22.drew.cell? ⟨w.heap.size + 1, 0, none⟩ = some (.slice a2 z2.length cap2) := (n302.cell (p := ⟨w.heap.size + 1, 0, none⟩) l296).trans c295
  have l307 : w.heap.size + 1 < w22.drew.heap.size := Nat.lt_of_lt_of_le l296 n302.size
  have c308 : w22.drew.cell? ⟨w7.heap.size, 0, none⟩ = some (.slice A7 z0.length d7) := (n302.cell (p := ⟨w7.heap.size, 0, none⟩) l298).trans c297
  have l309 : w7.heap.size < w22.drew.heap.size := Nat.lt_of_lt_of_le l298 n302.size
  have c310 : w22.drew.cell? ⟨w9.heap.size, 0, none⟩ = some (.slice A9 z2.length d9) := (n302.cell (p := ⟨w9.heap.size, 0, none⟩) l300).trans c299
  have l311 : w9.heap.size < w22.drew.heap.size := Nat.lt_of_lt_of_le l300 n302.size
  have r312 := r301.to n302
  have r313 := u22.to n302
  have K314 := And.intro c304 c306
  go_region_held3 (fun w' => w'.cell? ⟨w.heap.size, 0, none⟩ = some (.slice a0 z0.length cap0) ∧ w'.cell? ⟨w.heap.size + 1, 0, none⟩ = some (.slice a2 z2.length cap2)) (first | exact K314 | exact K326 | exact K339 | exact K353 | exact K368 | go_keep) (first | (go_at_call_of 17 a0; have q23 := hR0.to T303; refine (toMeasure_any a0 cap0 z0 _ ?_ hl0).mono ?_; exact q23; rintro e w23 ⟨A23, d23, rfl, o23, hb23⟩; have T315 := below_then T303 hb23; have c316 : w23.cell? ⟨w.heap.size, 0, none⟩ = some (.slice a0 z0.length cap0) := (hb23.cell (p := ⟨w.heap.size, 0, none⟩) l305).trans c304; have l317 : w.heap.size < w23.heap.size := Nat.lt_of_lt_of_le l305 hb23.size; have c318 : w23.cell? ⟨w.heap.size + 1, 0, none⟩ = some (.slice a2 z2.length cap2) := (hb23.cell (p := ⟨w.heap.size + 1, 0, none⟩) l307).trans c306; have l319 : w.heap.size + 1 < w23.heap.size := Nat.lt_of_lt_of_le l307 hb23.size; have c320 : w23.cell? ⟨w7.heap.size, 0, none⟩ = some (.slice A7 z0.length d7) := (hb23.cell (p := ⟨w7.heap.size, 0, none⟩) l309).trans c308; have l321 : w7.heap.size < w23.heap.size := Nat.lt_of_lt_of_le l309 hb23.size; have c322 : w23.cell? ⟨w9.heap.size, 0, none⟩ = some (.slice A9 z2.length d9) := (hb23.cell (p := ⟨w9.heap.size, 0, none⟩) l311).trans c310; have l323 : w9.heap.size < w23.heap.size := Nat.lt_of_lt_of_le l311 hb23.size; have r324 := r312.to hb23; have r325 := r313.to hb23; have K326 := And.intro c316 c318) | (go_at_call_of 29 a1; have q24 := hR1.to T315; refine (toIntS_any a1 cap1 z1 _ ?_ hl1).mono ?_; exact q24; rintro e w24 ⟨A24, d24, rfl, o24, hb24⟩; have T327 := below_then T315 hb24; have c328 : w24.cell? ⟨w.heap.size, 0, none⟩ = some (.slice a0 z0.length cap0) := (hb24.cell (p := ⟨w.heap.size, 0, none⟩) l317).trans c316; have l329 : w.heap.size < w24.heap.size := Nat.lt_of_lt_of_le l317 hb24.size; have c330 : w24.cell? ⟨w.heap.size + 1, 0, none⟩ = some (.slice a2 z2.length cap2) := (hb24.cell (p := ⟨w.heap.size + 1, 0, none⟩) l319).trans c318; have l331 : w.heap.size + 1 < w24.heap.size := Nat.lt_of_lt_of_le l319 hb24.size; have c332 : w24.cell? ⟨w7.heap.size, 0, none⟩ = some (.slice A7 z0.length d7) := (hb24.cell (p := ⟨w7.heap.size, 0, none⟩) l321).trans c320; have l333 : w7.heap.size < w24.heap.size := Nat.lt_of_lt_of_le l321 hb24.size; have c334 : w24.cell? ⟨w9.heap.size, 0, none⟩ = some (.slice A9 z2.length d9) := (hb24.cell (p := ⟨w9.heap.size, 0, none⟩) l323).trans c322; have l335 : w9.heap.size < w24.heap.size := Nat.lt_of_lt_of_le l323 hb24.size; have r336 := r324.to hb24; have r337 := r325.to hb24; have r338 := o23.to hb24; have K339 := And.intro c328 c330) | (go_at_call_of 17 a2; have q25 := hR2.to T327; refine (toMeasure_any a2 cap2 z2 _ ?_ hl2).mono ?_; exact q25; rintro e w25 ⟨A25, d25, rfl, o25, hb25⟩; have T340 := below_then T327 hb25; have c341 : w25.cell? ⟨w.heap.size, 0, none⟩ = some (.slice a0 z0.length cap0) := (hb25.cell (p := ⟨w.heap.size, 0, none⟩) l329).trans c328; have l342 : w.heap.size < w25.heap.size := Nat.lt_of_lt_of_le l329 hb25.size; have c343 : w25.cell? ⟨w.heap.size + 1, 0, none⟩ = some (.slice a2 z2.length cap2) := (hb25.cell (p := ⟨w.heap.size + 1, 0, none⟩) l331).trans c330; have l344 : w.heap.size + 1 < w25.heap.size := Nat.lt_of_lt_of_le l331 hb25.size; have c345 : w25.cell? ⟨w7.heap.size, 0, none⟩ = some (.slice A7 z0.length d7) := (hb25.cell (p := ⟨w7.heap.size, 0, none⟩) l333).trans c332; have l346 : w7.heap.size < w25.heap.size := Nat.lt_of_lt_of_le l333 hb25.size; have c347 : w25.cell? ⟨w9.heap.size, 0, none⟩ = some (.slice A9 z2.length d9) := (hb25.cell (p := ⟨w9.heap.size, 0, none⟩) l335).trans c334; have l348 : w9.heap.size < w25.heap.size := Nat.lt_of_lt_of_le l335 hb25.size; have r349 := r336.to hb25; have r350 := r337.to hb25; have r351 := r338.to hb25; have r352 := o24.to hb25; have K353 := And.intro c341 c343) | (go_at_call 44; refine (iAmountConvert_any A23 A24 A25 d23 d24 d25 z0 z1 z2 n3 n4 _ ?_ hl0 ?_ hl1 ?_ hl2).mono ?_; exact r351.rd; exact r352.rd; exact o25.rd; rintro e w26 ⟨A26, d26, rfl, o26, hb26⟩; have T354 := below_then T340 hb26; have c355 : w26.cell? ⟨w.heap.size, 0, none⟩ = some (.slice a0 z0.length cap0) := (hb26.cell (p := ⟨w.heap.size, 0, none⟩) l342).trans c341; have l356 : w.heap.size < w26.heap.size := Nat.lt_of_lt_of_le l342 hb26.size; have c357 : w26.cell? ⟨w.heap.size + 1, 0, none⟩ = some (.slice a2 z2.length cap2) := (hb26.cell (p := ⟨w.heap.size + 1, 0, none⟩) l344).trans c343; have l358 : w.heap.size + 1 < w26.heap.size := Nat.lt_of_lt_of_le l344 hb26.size; have c359 : w26.cell? ⟨w7.heap.size, 0, none⟩ = some (.slice A7 z0.length d7) := (hb26.cell (p := ⟨w7.heap.size, 0, none⟩) l346).trans c345; have l360 : w7.heap.size < w26.heap.size := Nat.lt_of_lt_of_le l346 hb26.size; have c361 : w26.cell? ⟨w9.heap.size, 0, none⟩ = some (.slice A9 z2.length d9) := (hb26.cell (p := ⟨w9.heap.size, 0, none⟩) l348).trans c347; have l362 : w9.heap.size < w26.heap.size := Nat.lt_of_lt_of_le l348 hb26.size; have r363 := r349.to hb26; have r364 := r350.to hb26; have r365 := r351.to hb26; have r366 := r352.to hb26; have r367 := o25.to hb26; have K368 := And.intro c355 c357))
  have s23 := hb23.size
  have t23 := T303.size
  have s24 := hb24.size
  have t24 := T315.size
  have s25 := hb25.size
  have t25 := T327.size
  have s26 := hb26.size
  have t26 := T340.size
  go_wp2_with fail
  refine (eqIntS_b A26 A6 d26 d6 (aoZ z2 (convN (vldR z2) (lst z0 z1) n3 n4)) _ o26.rd r363.rd (Nat.le_trans (aoZ_len _ _) (by omega))).mono ?_
  rintro e w27 ⟨rfl, hb27⟩
  have s27 := hb27.size
  have T369 := below_then T354 hb27
  have c370 : w27.cell? ⟨w.heap.size, 0, none⟩ = some (.slice a0 z0.length cap0) := (hb27.cell (p := ⟨w.heap.size, 0, none⟩) l356).trans c355
  have l371 : w.heap.size < w27.heap.size := Nat.lt_of_lt_of_le l356 hb27.size
  have c372 : w27.cell? ⟨w.heap.size + 1, 0, none⟩ = some (.slice a2 z2.length cap2) := (hb27.cell (p := ⟨w.heap.size + 1, 0, none⟩) l358).trans c357
  have l373 : w.heap.size + 1 < w27.heap.size := Nat.lt_of_lt_of_le l358 hb27.size
  have c374 : w27.cell? ⟨w7.heap.size, 0, none⟩ = some (.slice A7 z0.length d7) := (hb27.cell (p := ⟨w7.heap.size, 0, none⟩) l360).trans c359
  have l375 : w7.heap.size < w27.heap.size := Nat.lt_of_lt_of_le l360 hb27.size
  have c376 : w27.cell? ⟨w9.heap.size, 0, none⟩ = some (.slice A9 z2.length d9) := (hb27.cell (p := ⟨w9.heap.size, 0, none⟩) l362).trans c361
  have l377 : w9.heap.size < w27.heap.size := Nat.lt_of_lt_of_le l362 hb27.size
  have r378 := r363.to hb27
  have r379 := r364.to hb27
  have r380 := o26.to hb27
  go_wp2_with fail
  refine (heldIntS_any A10 d10 (aoZ z2 (convN (vldR z2) (lst z0 z1) n3 n4)).length (1) _ r379.rd y22 (by omega) (by omega)).mono ?_
  rintro e w' ⟨rfl, rfl⟩
  go_wp2_with fail
  go_ret
  exact ⟨rfl, T369⟩

end Go.Proofs.Ytmcooaopbigebaa
