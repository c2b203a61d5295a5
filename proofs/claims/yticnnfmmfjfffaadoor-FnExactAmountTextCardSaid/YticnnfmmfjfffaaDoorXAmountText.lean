/- The walk of the law FnExactAmountText. No condition. -/
import Derived.Test.YticnnfmmfjfffaaDoorMeaL
import Derived.Test.YticnnfmmfjfffaaDoorTxtI
namespace Go.Proofs.YticnnfmmfjfffaaDoor
open Go.RowKit
set_option linter.unusedVariables false

set_option maxRecDepth 100000 in
set_option maxHeartbeats 4000000 in
theorem walkFnExactAmountText (a0 : Option Addr) (len0 cap0 : Nat) (z0 : List Int) (a1 : Option Addr) (len1 cap1 : Nat) (z1 : List Int) (w : World) (hs0 : Sl .i64 w a0 len0 cap0 z0) (hs1 : Sl .i64 w a1 len1 cap1 z1) (hT0 : TB w) :
    Calls Tryd.prog 4 #[.agg #[.slice a0 len0 cap0], .slice a1 len1 cap1] w fun e w' => e = .returned (.bool true) ∧ Below w.heap.size w w' := by
  obtain ⟨rfl, hlc0, hcm0, hR0, -⟩ := hs0
  unfold maxLen at hcm0
  have hn0 : z0.length ≤ 9223372036854775807 := by omega
  obtain ⟨rfl, hlc1, hcm1, hR1, -⟩ := hs1
  unfold maxLen at hcm1
  have hn1 : z1.length ≤ 9223372036854775807 := by omega
  have hb0 : Below w.heap.size w (w.alloc (.cells #[.slice a0 z0.length cap0] 30)) := (below_new w (.cells #[.slice a0 z0.length cap0] 30))
  by_cases b1 : z1.length ≤ 1048576
  case neg =>
    have bd1 : decide (1048576 < z1.length) = true := by simp; omega
    go_enter Tryd.func4, Tryd.ntmps4
    go_wp2_with fail
    go_ret
    exact ⟨rfl, hb0⟩
  by_cases b0 : (z0.length : Int) ≤ 1048576
  case neg =>
    have bn0 : 1048576 < (z0.length : Int) := by omega
    go_enter Tryd.func4, Tryd.ntmps4
    go_wp2_with fail
    refine (szMeasure_no a0 z0.length cap0 (1048576) _ bn0 (by omega) hn0).mono ?_
    rintro e v1 ⟨rfl, hv1⟩
    go_wp2_with fail
    go_ret
    exact ⟨rfl, (below_then hb0 hv1)⟩
  have hl0 : z0.length ≤ 1048576 := by omega
  have hl1 : z1.length ≤ 1048576 := by omega
  go_enter Tryd.func4, Tryd.ntmps4
  go_wp2_with fail
  have c1 : (w.alloc (.cells #[.slice a0 z0.length cap0] 30)).cell? ⟨w.heap.size, 0, none⟩ = some (.slice a0 z0.length cap0) := by go_simp
  have l2 : w.heap.size < (w.alloc (.cells #[.slice a0 z0.length cap0] 30)).heap.size := by simp
  refine (szMeasure_yes a0 z0.length cap0 (1048576) _ b0 (by omega)).mono ?_
  rintro e w1 ⟨rfl, hb1⟩
  have T3 := below_then hb0 hb1
  have c4 : w1.cell? ⟨w.heap.size, 0, none⟩ = some (.slice a0 z0.length cap0) := (hb1.cell (p := ⟨w.heap.size, 0, none⟩) l2).trans c1
  have l5 : w.heap.size < w1.heap.size := Nat.lt_of_lt_of_le l2 hb1.size
  have hp1 : (0 : Int) ≤ 1048576 - (z0.length : Int) := by omega
  go_wp2_with fail
  have q2 := hR0.to T3
  refine (toMeasure_any a0 cap0 z0 _ q2 hl0).mono ?_
  rintro e w2 ⟨A2, d2, rfl, o2, hb2⟩
  have s2 := hb2.size
  have t2 := T3.size
  have T6 := below_then T3 hb2
  have c7 : w2.cell? ⟨w.heap.size, 0, none⟩ = some (.slice a0 z0.length cap0) := (hb2.cell (p := ⟨w.heap.size, 0, none⟩) l5).trans c4
  have l8 : w.heap.size < w2.heap.size := Nat.lt_of_lt_of_le l5 hb2.size
  go_wp2_with fail
  have q3 := hR1.to T6
  refine (toIntS_any a1 cap1 z1 _ q3 hl1).mono ?_
  rintro e w3 ⟨A3, d3, rfl, o3, hb3⟩
  have s3 := hb3.size
  have t3 := T6.size
  have T9 := below_then T6 hb3
  have c10 : w3.cell? ⟨w.heap.size, 0, none⟩ = some (.slice a0 z0.length cap0) := (hb3.cell (p := ⟨w.heap.size, 0, none⟩) l8).trans c7
  have l11 : w.heap.size < w3.heap.size := Nat.lt_of_lt_of_le l8 hb3.size
  have r12 := o2.to hb3
  go_wp2_with fail
  refine (sAmountText_any A2 A3 d2 d3 z0 z1  _ r12.rd hl0 o3.rd hl1).mono ?_
  rintro e w4 ⟨rfl, hb4⟩
  have s4 := hb4.size
  have t4 := T9.size
  have T13 := below_then T9 hb4
  have c14 : w4.cell? ⟨w.heap.size, 0, none⟩ = some (.slice a0 z0.length cap0) := (hb4.cell (p := ⟨w.heap.size, 0, none⟩) l11).trans c10
  have l15 : w.heap.size < w4.heap.size := Nat.lt_of_lt_of_le l11 hb4.size
  have r16 := r12.to hb4
  have r17 := o3.to hb4
  go_wp2_with fail
  have q5 := hR0.to T13
  refine (toMeasure_any a0 cap0 z0 _ q5 hl0).mono ?_
  rintro e w5 ⟨A5, d5, rfl, o5, hb5⟩
  have s5 := hb5.size
  have t5 := T13.size
  have T18 := below_then T13 hb5
  have c19 : w5.cell? ⟨w.heap.size, 0, none⟩ = some (.slice a0 z0.length cap0) := (hb5.cell (p := ⟨w.heap.size, 0, none⟩) l15).trans c14
  have l20 : w.heap.size < w5.heap.size := Nat.lt_of_lt_of_le l15 hb5.size
  go_wp2_with fail
  have n21 := below_new w5 (.cells #[.slice A5 z0.length d5] 25)
  have s022 := n21.size
  have T23 := below_then T18 n21
  have c24 : (w5.alloc (.cells #[.slice A5 z0.length d5] 25)).cell? ⟨w.heap.size, 0, none⟩ = some (.slice a0 z0.length cap0) := (n21.cell (p := ⟨w.heap.size, 0, none⟩) l20).trans c19
  have l25 : w.heap.size < (w5.alloc (.cells #[.slice A5 z0.length d5] 25)).heap.size := Nat.lt_of_lt_of_le l20 n21.size
  have r26 := o5.to n21
  have c27 : (w5.alloc (.cells #[.slice A5 z0.length d5] 25)).cell? ⟨w5.heap.size, 0, none⟩ = some (.slice A5 z0.length d5) := box_cell _ _ _
  have l28 : w5.heap.size < (w5.alloc (.cells #[.slice A5 z0.length d5] 25)).heap.size := by simp
  have q6 := hR1.to T23
  refine (toIntS_any a1 cap1 z1 _ q6 hl1).mono ?_
  rintro e w6 ⟨A6, d6, rfl, o6, hb6⟩
  have s6 := hb6.size
  have t6 := T23.size
  have T29 := below_then T23 hb6
  have c30 : w6.cell? ⟨w.heap.size, 0, none⟩ = some (.slice a0 z0.length cap0) := (hb6.cell (p := ⟨w.heap.size, 0, none⟩) l25).trans c24
  have l31 : w.heap.size < w6.heap.size := Nat.lt_of_lt_of_le l25 hb6.size
  have c32 : w6.cell? ⟨w5.heap.size, 0, none⟩ = some (.slice A5 z0.length d5) := (hb6.cell (p := ⟨w5.heap.size, 0, none⟩) l28).trans c27
  have l33 : w5.heap.size < w6.heap.size := Nat.lt_of_lt_of_le l28 hb6.size
  have r34 := r26.to hb6
  go_wp2_with fail
  refine (iAmountText_any A5 A6 d5 d6 z0 z1  _ r34.rd hl0 o6.rd hl1 (hT0.to T29)).mono ?_
  rintro e w7 ⟨rfl, hb7⟩
  have s7 := hb7.size
  have t7 := T29.size
  have T35 := below_then T29 hb7
  have c36 : w7.cell? ⟨w.heap.size, 0, none⟩ = some (.slice a0 z0.length cap0) := (hb7.cell (p := ⟨w.heap.size, 0, none⟩) l31).trans c30
  have l37 : w.heap.size < w7.heap.size := Nat.lt_of_lt_of_le l31 hb7.size
  have c38 : w7.cell? ⟨w5.heap.size, 0, none⟩ = some (.slice A5 z0.length d5) := (hb7.cell (p := ⟨w5.heap.size, 0, none⟩) l33).trans c32
  have l39 : w5.heap.size < w7.heap.size := Nat.lt_of_lt_of_le l33 hb7.size
  have r40 := r34.to hb7
  have r41 := o6.to hb7
  go_wp2_with fail
  have n42 := (Below.refl w7.heap.size w7).drew
  have T43 := below_then T35 n42
  have c44 : w7.drew.cell? ⟨w.heap.size, 0, none⟩ = some (.slice a0 z0.length cap0) := (n42.cell (p := ⟨w.heap.size, 0, none⟩) l37).trans c36
  have l45 : w.heap.size < w7.drew.heap.size := Nat.lt_of_lt_of_le l37 n42.size
  have c46 : w7.drew.cell? ⟨w5.heap.size, 0, none⟩ = some (.slice A5 z0.length d5) := (n42.cell (p := ⟨w5.heap.size, 0, none⟩) l39).trans c38
  have l47 : w5.heap.size < w7.drew.heap.size := Nat.lt_of_lt_of_le l39 n42.size
  have r48 := r40.to n42
  have r49 := r41.to n42
  have q8 := hR0.to T43
  have k8 := And.intro c44 c46
  go_region_held3 (fun w' => w'.cell? ⟨w.heap.size, 0, none⟩ = some (.slice a0 z0.length cap0) ∧ w'.cell? ⟨w5.heap.size, 0, none⟩ = some (.slice A5 z0.length d5)) (first | exact k8 | exact k8b | exact k8c | go_keep) (first | (go_at_call 9; refine (toMeasure_any a0 cap0 z0 _ ?_ hl0).mono ?_; exact q8; rintro e w8 ⟨A8, d8, rfl, o8, hb8⟩; have T50 := below_then T43 hb8; have c51 : w8.cell? ⟨w.heap.size, 0, none⟩ = some (.slice a0 z0.length cap0) := (hb8.cell (p := ⟨w.heap.size, 0, none⟩) l45).trans c44; have l52 : w.heap.size < w8.heap.size := Nat.lt_of_lt_of_le l45 hb8.size; have c53 : w8.cell? ⟨w5.heap.size, 0, none⟩ = some (.slice A5 z0.length d5) := (hb8.cell (p := ⟨w5.heap.size, 0, none⟩) l47).trans c46; have l54 : w5.heap.size < w8.heap.size := Nat.lt_of_lt_of_le l47 hb8.size; have r55 := r48.to hb8; have r56 := r49.to hb8; have k8b := And.intro c51 c53) | (go_at_call 11; refine (eqMeasure_yes A5 A8 d5 d8 z0 _ ?_ ?_ hl0).mono ?_; exact r55.rd; exact o8.rd; rintro e w9 ⟨rfl, hb9⟩; have T57 := below_then T50 hb9; have c58 : w9.cell? ⟨w.heap.size, 0, none⟩ = some (.slice a0 z0.length cap0) := (hb9.cell (p := ⟨w.heap.size, 0, none⟩) l52).trans c51; have l59 : w.heap.size < w9.heap.size := Nat.lt_of_lt_of_le l52 hb9.size; have c60 : w9.cell? ⟨w5.heap.size, 0, none⟩ = some (.slice A5 z0.length d5) := (hb9.cell (p := ⟨w5.heap.size, 0, none⟩) l54).trans c53; have l61 : w5.heap.size < w9.heap.size := Nat.lt_of_lt_of_le l54 hb9.size; have r62 := r55.to hb9; have r63 := r56.to hb9; have k8c := And.intro c58 c60))
  have s8 := hb8.size
  have s9 := hb9.size
  go_wp2_with fail
  have q10 := hR1.to T57
  refine (toIntS_any a1 cap1 z1 _ q10 hl1).mono ?_
  rintro e w10 ⟨A10, d10, rfl, o10, hb10⟩
  have s10 := hb10.size
  have t10 := T57.size
  have T64 := below_then T57 hb10
  have c65 : w10.cell? ⟨w.heap.size, 0, none⟩ = some (.slice a0 z0.length cap0) := (hb10.cell (p := ⟨w.heap.size, 0, none⟩) l59).trans c58
  have l66 : w.heap.size < w10.heap.size := Nat.lt_of_lt_of_le l59 hb10.size
  have c67 : w10.cell? ⟨w5.heap.size, 0, none⟩ = some (.slice A5 z0.length d5) := (hb10.cell (p := ⟨w5.heap.size, 0, none⟩) l61).trans c60
  have l68 : w5.heap.size < w10.heap.size := Nat.lt_of_lt_of_le l61 hb10.size
  have r69 := r62.to hb10
  have r70 := r63.to hb10
  go_wp2_with fail
  refine (eqIntS_b A6 A10 d6 d10 z1 _ r70.rd o10.rd hl1).mono ?_
  rintro e w11 ⟨rfl, hb11⟩
  have s11 := hb11.size
  have T71 := below_then T64 hb11
  have c72 : w11.cell? ⟨w.heap.size, 0, none⟩ = some (.slice a0 z0.length cap0) := (hb11.cell (p := ⟨w.heap.size, 0, none⟩) l66).trans c65
  have l73 : w.heap.size < w11.heap.size := Nat.lt_of_lt_of_le l66 hb11.size
  have c74 : w11.cell? ⟨w5.heap.size, 0, none⟩ = some (.slice A5 z0.length d5) := (hb11.cell (p := ⟨w5.heap.size, 0, none⟩) l68).trans c67
  have l75 : w5.heap.size < w11.heap.size := Nat.lt_of_lt_of_le l68 hb11.size
  have r76 := r69.to hb11
  have r77 := r70.to hb11
  have r78 := o10.to hb11
  go_wp2_with fail
  go_ret
  exact ⟨rfl, T71⟩

end Go.Proofs.YticnnfmmfjfffaaDoor
