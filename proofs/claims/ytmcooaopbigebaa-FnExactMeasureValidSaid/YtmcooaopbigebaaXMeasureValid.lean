/- The walk of the law FnExactMeasureValid. No condition. -/
import Derived.Test.YtmcooaopbigebaaMeaL
namespace Go.Proofs.Ytmcooaopbigebaa
open Go.RowKit
set_option linter.unusedVariables false

set_option maxRecDepth 100000 in
set_option maxHeartbeats 4000000 in
theorem walkFnExactMeasureValid (a0 : Option Addr) (len0 cap0 : Nat) (z0 : List Int) (w : World) (hs0 : Sl .i64 w a0 len0 cap0 z0) :
    Calls Try.prog 3 #[.agg #[.slice a0 len0 cap0]] w fun e w' => e = .returned (.bool true) ∧ Below w.heap.size w w' := by
  obtain ⟨rfl, hlc0, hcm0, hR0, -⟩ := hs0
  unfold maxLen at hcm0
  have hn0 : z0.length ≤ 9223372036854775807 := by omega
  have hb0 : Below w.heap.size w (w.alloc (.cells #[.slice a0 z0.length cap0] 24)) := (below_new w (.cells #[.slice a0 z0.length cap0] 24))
  by_cases b0 : (z0.length : Int) ≤ 1048576
  case neg =>
    have bn0 : 1048576 < (z0.length : Int) := by omega
    go_enter Try.func3, Try.ntmps3
    go_wp2_with fail
    refine (szMeasure_no a0 z0.length cap0 (1048576) _ bn0 (by omega) hn0).mono ?_
    rintro e v1 ⟨rfl, hv1⟩
    go_wp2_with fail
    go_ret
    exact ⟨rfl, (below_then hb0 hv1)⟩
  have hl0 : z0.length ≤ 1048576 := by omega
  go_enter Try.func3, Try.ntmps3
  go_wp2_with fail
  have c1 : (w.alloc (.cells #[.slice a0 z0.length cap0] 24)).cell? ⟨w.heap.size, 0, none⟩ = some (.slice a0 z0.length cap0) := by go_simp
  have l2 : w.heap.size < (w.alloc (.cells #[.slice a0 z0.length cap0] 24)).heap.size := by simp
  refine (szMeasure_yes a0 z0.length cap0 (1048576) _ b0 (by omega)).mono ?_
  rintro e w1 ⟨rfl, hb1⟩
  have T3 := below_then hb0 hb1
  have c4 : w1.cell? ⟨w.heap.size, 0, none⟩ = some (.slice a0 z0.length cap0) := (hb1.cell (p := ⟨w.heap.size, 0, none⟩) l2).trans c1
  have l5 : w.heap.size < w1.heap.size := Nat.lt_of_lt_of_le l2 hb1.size
  have hp1 : (0 : Int) ≤ 1048576 - (z0.length : Int) := by omega
  go_wp2_with fail
  have q2 := hR0.to T3
  refine (toMeasure_any a0 cap0 z0 _ q2 hl0).mono ?_
  rintro e w2 ⟨A2, d2, rfl, o2, hb2⟩
  have s2 := hb2.size
  have t2 := T3.size
  have T6 := below_then T3 hb2
  have c7 : w2.cell? ⟨w.heap.size, 0, none⟩ = some (.slice a0 z0.length cap0) := (hb2.cell (p := ⟨w.heap.size, 0, none⟩) l5).trans c4
  have l8 : w.heap.size < w2.heap.size := Nat.lt_of_lt_of_le l5 hb2.size
  go_wp2_with fail
  refine (sMeasureValid_any A2 d2 z0  _ o2.rd hl0).mono ?_
  rintro e w3 ⟨rfl, hb3⟩
  have s3 := hb3.size
  have t3 := T6.size
  have T9 := below_then T6 hb3
  have c10 : w3.cell? ⟨w.heap.size, 0, none⟩ = some (.slice a0 z0.length cap0) := (hb3.cell (p := ⟨w.heap.size, 0, none⟩) l8).trans c7
  have l11 : w.heap.size < w3.heap.size := Nat.lt_of_lt_of_le l8 hb3.size
  have r12 := o2.to hb3
  go_wp2_with fail
  have q4 := hR0.to T9
  refine (toMeasure_any a0 cap0 z0 _ q4 hl0).mono ?_
  rintro e w4 ⟨A4, d4, rfl, o4, hb4⟩
  have s4 := hb4.size
  have t4 := T9.size
  have T13 := below_then T9 hb4
  have c14 : w4.cell? ⟨w.heap.size, 0, none⟩ = some (.slice a0 z0.length cap0) := (hb4.cell (p := ⟨w.heap.size, 0, none⟩) l11).trans c10
  have l15 : w.heap.size < w4.heap.size := Nat.lt_of_lt_of_le l11 hb4.size
  go_wp2_with fail
  have n16 := below_new w4 (.cells #[.slice A4 z0.length d4] 27)
  have s017 := n16.size
  have T18 := below_then T13 n16
  have c19 : (w4.alloc (.cells #[.slice A4 z0.length d4] 27)).cell? ⟨w.heap.size, 0, none⟩ = some (.slice a0 z0.length cap0) := (n16.cell (p := ⟨w.heap.size, 0, none⟩) l15).trans c14
  have l20 : w.heap.size < (w4.alloc (.cells #[.slice A4 z0.length d4] 27)).heap.size := Nat.lt_of_lt_of_le l15 n16.size
  have r21 := o4.to n16
  have c22 : (w4.alloc (.cells #[.slice A4 z0.length d4] 27)).cell? ⟨w4.heap.size, 0, none⟩ = some (.slice A4 z0.length d4) := box_cell _ _ _
  have l23 : w4.heap.size < (w4.alloc (.cells #[.slice A4 z0.length d4] 27)).heap.size := by simp
  refine (iMeasureValid_any A4 d4 z0  _ r21.rd hl0).mono ?_
  rintro e w5 ⟨rfl, hb5⟩
  have s5 := hb5.size
  have t5 := T18.size
  have T24 := below_then T18 hb5
  have c25 : w5.cell? ⟨w.heap.size, 0, none⟩ = some (.slice a0 z0.length cap0) := (hb5.cell (p := ⟨w.heap.size, 0, none⟩) l20).trans c19
  have l26 : w.heap.size < w5.heap.size := Nat.lt_of_lt_of_le l20 hb5.size
  have c27 : w5.cell? ⟨w4.heap.size, 0, none⟩ = some (.slice A4 z0.length d4) := (hb5.cell (p := ⟨w4.heap.size, 0, none⟩) l23).trans c22
  have l28 : w4.heap.size < w5.heap.size := Nat.lt_of_lt_of_le l23 hb5.size
  have r29 := r21.to hb5
  go_wp2_with fail
  have n30 := (Below.refl w5.heap.size w5).drew
  have T31 := below_then T24 n30
  have c32 : w5.drew.cell? ⟨w.heap.size, 0, none⟩ = some (.slice a0 z0.length cap0) := (n30.cell (p := ⟨w.heap.size, 0, none⟩) l26).trans c25
  have l33 : w.heap.size < w5.drew.heap.size := Nat.lt_of_lt_of_le l26 n30.size
  have c34 : w5.drew.cell? ⟨w4.heap.size, 0, none⟩ = some (.slice A4 z0.length d4) := (n30.cell (p := ⟨w4.heap.size, 0, none⟩) l28).trans c27
  have l35 : w4.heap.size < w5.drew.heap.size := Nat.lt_of_lt_of_le l28 n30.size
  have r36 := r29.to n30
  have q6 := hR0.to T31
  have k6 := And.intro c32 c34
  go_region_held3 (fun w' => w'.cell? ⟨w.heap.size, 0, none⟩ = some (.slice a0 z0.length cap0) ∧ w'.cell? ⟨w4.heap.size, 0, none⟩ = some (.slice A4 z0.length d4)) (first | exact k6 | exact k6b | exact k6c | go_keep) (first | (go_at_call 17; refine (toMeasure_any a0 cap0 z0 _ ?_ hl0).mono ?_; exact q6; rintro e w6 ⟨A6, d6, rfl, o6, hb6⟩; have T37 := below_then T31 hb6; have c38 : w6.cell? ⟨w.heap.size, 0, none⟩ = some (.slice a0 z0.length cap0) := (hb6.cell (p := ⟨w.heap.size, 0, none⟩) l33).trans c32; have l39 : w.heap.size < w6.heap.size := Nat.lt_of_lt_of_le l33 hb6.size; have c40 : w6.cell? ⟨w4.heap.size, 0, none⟩ = some (.slice A4 z0.length d4) := (hb6.cell (p := ⟨w4.heap.size, 0, none⟩) l35).trans c34; have l41 : w4.heap.size < w6.heap.size := Nat.lt_of_lt_of_le l35 hb6.size; have r42 := r36.to hb6; have k6b := And.intro c38 c40) | (go_at_call 19; refine (eqMeasure_yes A4 A6 d4 d6 z0 _ ?_ ?_ hl0).mono ?_; exact r42.rd; exact o6.rd; rintro e w7 ⟨rfl, hb7⟩; have T43 := below_then T37 hb7; have c44 : w7.cell? ⟨w.heap.size, 0, none⟩ = some (.slice a0 z0.length cap0) := (hb7.cell (p := ⟨w.heap.size, 0, none⟩) l39).trans c38; have l45 : w.heap.size < w7.heap.size := Nat.lt_of_lt_of_le l39 hb7.size; have c46 : w7.cell? ⟨w4.heap.size, 0, none⟩ = some (.slice A4 z0.length d4) := (hb7.cell (p := ⟨w4.heap.size, 0, none⟩) l41).trans c40; have l47 : w4.heap.size < w7.heap.size := Nat.lt_of_lt_of_le l41 hb7.size; have r48 := r42.to hb7; have k6c := And.intro c44 c46))
  have s6 := hb6.size
  have s7 := hb7.size
  go_wp2_with fail
  go_ret
  exact ⟨rfl, T43⟩

end Go.Proofs.Ytmcooaopbigebaa
