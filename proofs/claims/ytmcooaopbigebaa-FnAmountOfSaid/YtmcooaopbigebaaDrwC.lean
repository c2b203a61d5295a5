/- The walk of DrawAmountOf. No condition. -/
import Derived.Test.YtmcooaopbigebaaDrwB
namespace Go.Proofs.Ytmcooaopbigebaa
open Go.RowKit
set_option linter.unusedVariables false

def DrewOf (w : World) (e : Ending) (w' : World) : Prop := ∃ (rs : List Int) (n : Int) (A : Option Addr) (c : Nat), RB rs ∧ -1 ≤ n ∧ n ≤ 1000000001 ∧
  e = .returned (.tuple #[.agg #[.slice A rs.length c], .int .i64 n]) ∧ RF w' w.heap.size A rs ∧ Below w.heap.size w w'
theorem of_end {w w3 : World} {g : Nat} {rs : List Int} {n : Int} {A : Option Addr} {c : Nat} (rb : RB rs) (n0 : -1 ≤ n) (n1 : n ≤ 1000000001)
    (rr : RF w3 (w.heap.size + 1) A rs) (ho : Below w.heap.size w w3) :
    DrewOf w (.returned (.tuple #[.agg #[.slice A rs.length c], .int .i64 n])) (w3.setCell ⟨w.heap.size, 0, none⟩ (.slice A rs.length c)) :=
  ⟨rs, n, A, c, rb, n0, n1, rfl, (rr.set _ _ (by omega)).mono (by omega), ho.setCell (Nat.le_refl _) _⟩
theorem DrewOf.alloc {w : World} {e : Ending} {w' : World} (h : DrewOf w e w') (o : Obj) : DrewOf w e (w'.alloc o) := by
  obtain ⟨rs, n, A, c, h1, h2, h3, h4, h5, h6⟩ := h
  exact ⟨rs, n, A, c, h1, h2, h3, h4, h5.alloc o, h6.alloc h6.size o⟩
theorem lit_getA (x : Nat) (hx : x < 3) : [Value.int .i64 (-1), .int .i64 1000000000, .int .i64 1000000001][x]'(by simpa using hx) = .int .i64 (ix litA x) := by
  have : x = 0 ∨ x = 1 ∨ x = 2 := by omega
  rcases this with h | h | h <;> subst h <;> rfl

set_option maxHeartbeats 4000000 in
theorem drawAmountOf_any (A0 : Option Addr) (len cap : Nat) (zs : List Int) (w : World) (hs : Sl .u8 w A0 len cap zs) :
    Calls Try.prog 38 #[.slice A0 len cap] w (DrewOf w) := by
  have HS := Lib.hid (hs.new (.cells #[.slice none 0 0] 27))
  clear hs
  go_enter Try.func38, Try.ntmps38
  go_wp2_with fail
  refine (l6Open_any A0 len cap zs _ HS.out).mono ?_
  rintro e w0 ⟨g, rfl, hr0, hb0⟩
  have b0 := blk_below (nil_measure_new w) hb0 (by simp)
  have hl := hr0.lt
  simp at hl
  have T0 := below_then (below_new w _) hb0
  go_wp2_with fail
  refine (l92Measure_any _ g 0 _ hr0 (by omega) (by omega)).mono ?_
  rintro e w1 ⟨rs, A, c, p', hrl, hrb, hp1, hp2, rfl, hi1, hr1, hg1⟩
  have HRB := Lib.hid (show RB rs from ⟨hrl, hrb⟩)
  clear hrb
  have b1 := blk_grown b0 hg1 (fun k e => by injection e with e; omega)
  have T1 := below_pick T0 hg1 (by omega)
  have hs1 : w.heap.size < w1.heap.size := (Array.getElem?_eq_some_iff.1 b1).1
  have hgs1 : g < w1.heap.size := Nat.lt_of_lt_of_le hl.2 hg1.size
  have rr1 : RF w1 (w.heap.size + 1) A rs := hi1.rf.mono (by omega)
  have hAg : ∀ b, A.map (·.block) = some b → g ≠ b := fun b e => by have := (hi1.span b e).1; omega
  have rrp : ∀ (W W' : World), RF W (w.heap.size + 1) A rs → W.grownBy W' (some g) → RF W' (w.heap.size + 1) A rs := fun _ _ h hg => ⟨(RD.grown h.1 (Nat.le_refl _) hg (fun b e e' => by injection e' with e'; exact hAg b e e')).mono hg.size, h.2⟩
  have RRP := Lib.hid rrp
  clear rrp hAg hg1 hi1
  have T1' := below_then T1 (below_new w1 (.cells #[.slice A rs.length c] 27))
  go_wp2_with fail
  refine (pick_any _ g p' 12 _ (hr1.alloc _) (by omega) (by omega) (by omega) (by omega)).mono ?_
  rintro e w2 ⟨y, y0, y1, rfl, hr2, hg2⟩
  have b2 := blk_grown (blk_alloc b1 _) hg2 (fun k e => by injection e with e; omega)
  have m2 := blk_grown (heap_alloc_new w1 (.cells #[.slice A rs.length c] 27)) hg2 (fun k e => by injection e with e; omega)
  have rr2 := RRP.out _ _ (rr1.alloc _) hg2
  have T2 := below_pick T1' hg2 (by omega)
  have hs2 : w1.heap.size < w2.heap.size := (Array.getElem?_eq_some_iff.1 m2).1
  have hne1 : w1.heap.size ≠ w.heap.size := by omega
  have hne2 := hne1.symm
  have s2 := (box_cell2 m2).1
  have hs20 : w.heap.size < w2.heap.size := by omega
  have hgw : g < w2.heap.size := by omega
  clear hg2
  by_cases yc : y = 0
  · subst yc
    have hrA : Rdr (w2.alloc (.cells #[.int .i64 (-1), .int .i64 1000000000, .int .i64 1000000001] 3)).drew (w.alloc (.cells #[.slice none 0 0] 27)).heap.size g (p' + 1) := hr2.alloc _
    have hrB : Rdr w2.drew (w.alloc (.cells #[.slice none 0 0] 27)).heap.size g (p' + 1) := hr2
    have bA : (w2.alloc (.cells #[.int .i64 (-1), .int .i64 1000000000, .int .i64 1000000001] 3)).drew.heap[w.heap.size]? = some (.cells #[.slice none 0 0] 27 (0, 0)) := blk_alloc b2 _
    have bB : w2.drew.heap[w.heap.size]? = some (.cells #[.slice none 0 0] 27 (0, 0)) := b2
    have mA : (w2.alloc (.cells #[.int .i64 (-1), .int .i64 1000000000, .int .i64 1000000001] 3)).drew.heap[w1.heap.size]? = some (.cells #[.slice A rs.length c] 27 (0, 0)) := blk_alloc m2 _
    have mB : w2.drew.heap[w1.heap.size]? = some (.cells #[.slice A rs.length c] 27 (0, 0)) := m2
    have rrA : RF (w2.alloc (.cells #[.int .i64 (-1), .int .i64 1000000000, .int .i64 1000000001] 3)).drew (w.heap.size + 1) A rs := rr2.alloc _
    have rrB : RF w2.drew (w.heap.size + 1) A rs := rr2
    have TA : Below w.heap.size w (w2.alloc (.cells #[.int .i64 (-1), .int .i64 1000000000, .int .i64 1000000001] 3)).drew := (T2.alloc T2.size _).drew
    have TB : Below w.heap.size w w2.drew := T2.drew
    clear hr2
    go_wp2_with fail
    go_region_law (first
      | (go_simp; go_at_call 56; refine (pick_any _ g (p' + 1) 3 _ hrA (by omega) (by omega) (by omega) (by omega)).mono ?_; rintro e w3 ⟨x, x0, x1, rfl, hr3, hg3⟩; obtain ⟨x, rfl⟩ := Int.eq_ofNat_of_zero_le x0; have hx3 : x < 3 := (by omega); have hcl := lit_far litA _ rfl hg3 hgw x hx3; have HBD := Lib.hid (litA_bd hx3); have b3 := blk_grown bA hg3 (fun k e => by injection e with e; omega); have m3 := blk_grown mA hg3 (fun k e => by injection e with e; omega); have HF := Lib.hid (And.intro (RRP.out _ _ rrA hg3) (below_pick TA hg3 (by omega))); have s3 := (box_cell2 m3).1; obtain ⟨c3', fr3⟩ := box_cell2 b3; have hs3 : w1.heap.size < w3.heap.size := (Array.getElem?_eq_some_iff.1 m3).1; have hs30 : w.heap.size < w3.heap.size := (by omega))
      | (go_simp; go_at_call 56; refine (pick_any _ g (p' + 1) 3 _ hrB (by omega) (by omega) (by omega) (by omega)).mono ?_; rintro e w3 ⟨x, x0, x1, rfl, hr3, hg3⟩; obtain ⟨x, rfl⟩ := Int.eq_ofNat_of_zero_le x0; have hx3 : x < 3 := (by omega); have hcl := lit_cell w3 litA #[.int .i64 (-1), .int .i64 1000000000, .int .i64 1000000001] rfl x hx3; have HBD := Lib.hid (litA_bd hx3); have b3 := blk_grown bB hg3 (fun k e => by injection e with e; omega); have m3 := blk_grown mB hg3 (fun k e => by injection e with e; omega); have HF := Lib.hid (And.intro (RRP.out _ _ rrB hg3) (below_pick TB hg3 (by omega))); have s3 := (box_cell2 m3).1; obtain ⟨c3', fr3⟩ := box_cell2 b3; have hs3 : w1.heap.size < w3.heap.size := (Array.getElem?_eq_some_iff.1 m3).1; have hs30 : w.heap.size < w3.heap.size := (by omega)))
    all_goals
      go_wp2_with fail
      have hfin := of_end (g := g) (c := c) HRB.out HBD.out.1 HBD.out.2 HF.out.1 HF.out.2
      have hra := after_set0 b3 (.slice A rs.length c)
      have hrb := after_set b3 (.slice A rs.length c)
      have hget := lit_getA x hx3
      first
        | exact bodyPost_ret (v := .tuple #[.agg #[.slice A rs.length c], .int .i64 (ix litA x)]) (by simp [results, Try.results38, go_sem, hra]) rfl hfin
        | exact bodyPost_ret (v := .tuple #[.agg #[.slice A rs.length c], .int .i64 (ix litA x)]) (by simp [results, Try.results38, go_sem, hrb, hget]) rfl (hfin.alloc _)
        | exact bodyPost_ret (v := .tuple #[.agg #[.slice A rs.length c], .int .i64 (ix litA x)]) (by simp [results, Try.results38, go_sem, hrb]) rfl (hfin.alloc _)
  · have yc' : (y == 0) = false := beq_eq_false_iff_ne.2 yc
    clear yc
    have hrB : Rdr w2.drew (w.alloc (.cells #[.slice none 0 0] 27)).heap.size g (p' + 1) := hr2
    have bB : w2.drew.heap[w.heap.size]? = some (.cells #[.slice none 0 0] 27 (0, 0)) := b2
    have mB : w2.drew.heap[w1.heap.size]? = some (.cells #[.slice A rs.length c] 27 (0, 0)) := m2
    have rrB : RF w2.drew (w.heap.size + 1) A rs := rr2
    have TB : Below w.heap.size w w2.drew := T2.drew
    have sB : w2.drew.cell? ⟨w1.heap.size, 0, none⟩ = some (.slice A rs.length c) := s2
    have tok1 : True := trivial
    go_wp2_with fail
    go_region_held3 (fun w' => w'.cell? ⟨w1.heap.size, 0, none⟩ = some (.slice A rs.length c)) (first | assumption | go_keep) (first | (go_at_call 56; have _t := tok1; refine (pick_any _ g (p' + 1) 1000 _ hrB (by omega) (by omega) (by omega) (by omega)).mono ?_; rintro e w3 ⟨x, x0, x1, rfl, hr3, hg3⟩; clear tok1 _t; have b3 := blk_grown bB hg3 (fun k e => by injection e with e; omega); have m3 := blk_grown mB hg3 (fun k e => by injection e with e; omega); have rr3 := RRP.out _ _ rrB hg3; have T3 := below_pick TB hg3 (by omega); have s3 := (box_cell2 m3).1) | (go_at_call 56; refine (pick_any _ g (p' + 1 + 1) 99 _ hr3 (by omega) (by omega) (by omega) (by omega)).mono ?_; rintro e w4 ⟨u, u0, u1, rfl, hr4, hg4⟩; have b4 := blk_grown b3 hg4 (fun k e => by injection e with e; omega); have m4 := blk_grown m3 hg4 (fun k e => by injection e with e; omega); have rr4 := RRP.out _ _ rr3 hg4; have T4 := below_pick T3 hg4 (by omega); have s4 := (box_cell2 m4).1; obtain ⟨c4', fr4⟩ := box_cell2 b4; have hm1 := Int.mul_le_mul (show x ≤ 1000 by omega) (show 1 + u ≤ 99 by omega) (by omega) (by omega); have hm0 := Int.mul_nonneg x0 (show 0 ≤ 1 + u by omega); have e1 : IntKind.i64.wrap (1 + u) = 1 + u := IntWalk.i64_in _ (by omega); have e2 : IntKind.i64.wrap (x * (1 + u)) = x * (1 + u) := IntWalk.i64_in _ (by omega)))
    clear e1 e2
    go_wp2_with fail
    have hfin := of_end (g := g) (c := c) HRB.out (show -1 ≤ x * (1 + u) by omega) (show x * (1 + u) ≤ 1000000001 by omega) rr4 T4
    have hra := after_set0 b4 (.slice A rs.length c)
    exact bodyPost_ret (v := .tuple #[.agg #[.slice A rs.length c], .int .i64 (x * (1 + u))]) (by simp [results, Try.results38, go_sem, hra]) rfl hfin

end Go.Proofs.Ytmcooaopbigebaa
