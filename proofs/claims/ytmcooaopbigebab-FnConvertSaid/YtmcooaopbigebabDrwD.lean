/- The walks of DrawAmountOrder and DrawAmountConvert. No condition. -/
import Derived.Test.YtmcooaopbigebabLawK
namespace Go.Proofs.Ytmcooaopbigebab
open Go.RowKit
set_option linter.unusedVariables false

theorem convN_inv {v : Bool} {x a b : Int} (h : 0 ≤ convN v x a b) : 0 ≤ x ∧ 1 ≤ a ∧ a ≤ 1000 ∧ 1 ≤ b ∧ b ≤ 1000 ∧ convN v x a b = x * b / a := by
  unfold convN at h ⊢
  by_cases hc : 0 ≤ x ∧ v = true ∧ 1 ≤ a ∧ a ≤ 1000 ∧ 1 ≤ b ∧ b ≤ 1000
  · rw [if_pos hc]; exact ⟨hc.1, hc.2.2.1, hc.2.2.2.1, hc.2.2.2.2.1, hc.2.2.2.2.2, rfl⟩
  · rw [if_neg hc] at h; omega
theorem aoZ_NB (rs : List Int) (n : Int) : NB (aoZ rs n) := ⟨Nat.le_trans (aoZ_len rs n) (by omega), aoZ_bd rs n⟩
theorem blk_to {w w' : World} {b : Nat} {t : TypeId} {v : Value} (h : w.heap[b]? = some (.cells #[v] t (0, 0))) (hb : Below w.heap.size w w') : w'.heap[b]? = some (.cells #[v] t (0, 0)) := blk_below h hb (Array.getElem?_eq_some_iff.1 h).1
set_option maxHeartbeats 2000000 in
theorem drawAmountOrder_any (A0 : Option Addr) (len cap : Nat) (zs : List Int) (w : World) (hs : Sl .u8 w A0 len cap zs) :
    Calls Try.prog 41 #[.slice A0 len cap] w (DrewBoth w) := by
  have HS := Lib.hid (hs.new (.cells #[.slice none 0 0] 28))
  clear hs
  go_enter Try.func41, Try.ntmps41
  go_wp2_with fail
  refine (l6Open_any A0 len cap zs _ HS.out).mono ?_
  rintro e w1 ⟨g, rfl, hr1, hb1⟩
  have b1 := blk_below (nil_measure_new w) hb1 (by simp)
  have hl := hr1.lt
  simp at hl
  have T1 := below_then (below_new w _) hb1
  go_wp2_with fail
  refine (l92Both_any _ g 0 _ hr1 (by omega) (by omega)).mono ?_
  rintro e w2 ⟨rs, ns, ms, A, A2, A3, c, c2, c3, p', hp1, hp2, rfl, ho⟩
  have b2 := blk_grown b1 ho.old (fun k e => by injection e with e; omega)
  have hs2 : w.heap.size < w2.heap.size := (Array.getElem?_eq_some_iff.1 b2).1
  have T2 := below_pick T1 ho.old (by omega)
  have hg2 : g < w2.heap.size := Nat.lt_of_lt_of_le hl.2 ho.old.size
  have HRB := Lib.hid ho.rb
  have HNB := Lib.hid ho.nb
  have HMB := Lib.hid ho.mb
  have hlr : rs.length ≤ 1048576 := by have := ho.rb.1; omega
  have hln : ns.length ≤ 1048576 := by have := ho.nb.1; omega
  have hn := below_new w2 (.cells #[.slice A rs.length c] 28)
  have b3 := blk_to b2 hn
  have m3 := heap_alloc_new w2 (.cells #[.slice A rs.length c] 28)
  have rr3 := ho.rr.to hn
  have nr3 := ho.nr.to hn
  have mr3 := ho.mr.to hn
  have r3 := ho.rdr.alloc (.cells #[.slice A rs.length c] 28)
  have T3 := below_then T2 hn
  clear ho
  go_wp2_with fail
  refine (sAmountProper_any A A2 c c2 rs ns _ rr3.1 hlr nr3.1 hln).mono ?_
  rintro e w4 ⟨AX, cX, rfl, iX, hb4⟩
  have b4 := blk_to b3 hb4
  have m4 := blk_to m3 hb4
  have rr4 := rr3.to hb4
  have nr4 := nr3.to hb4
  have mr4 := mr3.to hb4
  have r4 := r3.below hb4
  have T4 := below_then T3 hb4
  have fX := iX.rf
  have HXB := Lib.hid (aoZ_NB rs (lst rs ns))
  have hs4 : w2.heap.size < w4.heap.size := (Array.getElem?_eq_some_iff.1 m4).1
  have hne1 : w2.heap.size ≠ w.heap.size := by omega
  have hne2 := hne1.symm
  have HZ := Lib.hid (show (w2.alloc (.cells #[.slice A rs.length c] 28)).heap.size = w2.heap.size + 1 by simp)
  cases hok : aoB rs (lst rs ns) with
  | false =>
    clear hok
    have s4 := (box_cell2 m4).1
    obtain ⟨c4', f4'⟩ := box_cell2 b4
    go_wp2_with fail
    have hra := after_set0 b4 (.slice A rs.length c)
    refine bodyPost_ret (v := .tuple #[.agg #[.slice A rs.length c], .slice A2 ns.length c2, .slice A3 ms.length c3]) (by simp [results, Try.results41, go_sem, hra]) rfl ?_
    exact ⟨rs, ns, ms, A, A2, A3, c, c2, c3, HRB.out, HNB.out, HMB.out, rfl, (rr4.set _ _ (by omega)).mono (by omega), (nr4.set _ _ (by omega)).mono (by omega), (mr4.set _ _ (by omega)).mono (by omega), T4.setCell (Nat.le_refl _) _⟩
  | true =>
    clear hok
    go_wp2_with fail
    refine (pick_any _ g p' 3 _ r4 (by omega) (by omega) (by omega) (by omega)).mono ?_
    rintro e w5 ⟨y, y0, y1, rfl, r5, hg5⟩
    have b5 := blk_grown b4 hg5 (fun k e => by injection e with e; omega)
    have m5 := blk_grown m4 hg5 (fun k e => by injection e with e; omega)
    have rr5 := rr4.pick hg5 hl.2
    have nr5 := nr4.pick hg5 hl.2
    have mr5 := mr4.pick hg5 hl.2
    have fX5 := fX.pick hg5 (by rw [HZ.out]; omega)
    have T5 := below_pick T4 hg5 (by omega)
    have s5 := (box_cell2 m5).1
    obtain ⟨c5', f5'⟩ := box_cell2 b5
    have hra := after_set0 b5 (.slice A rs.length c)
    by_cases yc : y = 0
    · subst yc
      go_wp2_with fail
      refine bodyPost_ret (v := .tuple #[.agg #[.slice A rs.length c], .slice A2 ns.length c2, .slice AX (aoZ rs (lst rs ns)).length cX]) (by simp [results, Try.results41, go_sem, hra]) rfl ?_
      exact ⟨rs, ns, aoZ rs (lst rs ns), A, A2, AX, c, c2, cX, HRB.out, HNB.out, HXB.out, rfl, (rr5.set _ _ (by omega)).mono (by omega), (nr5.set _ _ (by omega)).mono (by omega), (fX5.set _ _ (by rw [HZ.out]; omega)).mono (by rw [HZ.out]; omega), T5.setCell (Nat.le_refl _) _⟩
    · have yc' : (y == 0) = false := beq_eq_false_iff_ne.2 yc
      clear yc
      go_wp2_with fail
      refine bodyPost_ret (v := .tuple #[.agg #[.slice A rs.length c], .slice A2 ns.length c2, .slice A3 ms.length c3]) (by simp [results, Try.results41, go_sem, hra]) rfl ?_
      exact ⟨rs, ns, ms, A, A2, A3, c, c2, c3, HRB.out, HNB.out, HMB.out, rfl, (rr5.set _ _ (by omega)).mono (by omega), (nr5.set _ _ (by omega)).mono (by omega), (mr5.set _ _ (by omega)).mono (by omega), T5.setCell (Nat.le_refl _) _⟩
def DrewConv (w : World) (e : Ending) (w' : World) : Prop := ∃ (rs ns ts : List Int) (x y : Int) (A A2 A3 : Option Addr) (c c2 c3 : Nat), RB rs ∧ NB ns ∧ RB ts ∧ -8 ≤ x ∧ x ≤ 9 ∧ 1 ≤ y ∧ y ≤ 1012 ∧
  e = .returned (.tuple #[.agg #[.slice A rs.length c], .slice A2 ns.length c2, .agg #[.slice A3 ts.length c3], .int .i64 x, .int .i64 y]) ∧ RF w' w.heap.size A rs ∧ RF w' w.heap.size A2 ns ∧ RF w' w.heap.size A3 ts ∧ Below w.heap.size w w'
theorem blk_far {w : World} {b q : Nat} {t : TypeId} {v : Value} (h : w.heap[b]? = some (.cells #[v] t (0, 0))) (hne : b ≠ q) (u : Value) : (w.setCell ⟨q, 0, none⟩ u).heap[b]? = some (.cells #[v] t (0, 0)) := (Below.heap_setCell w _ u b hne).trans h
theorem blk_set {w : World} {b : Nat} {t : TypeId} {v : Value} (h : w.heap[b]? = some (.cells #[v] t (0, 0))) (u : Value) : (w.setCell ⟨b, 0, none⟩ u).heap[b]? = some (.cells #[u] t (0, 0)) := by simp [World.setCell, Array.getElem?_modify, h]
theorem cells_of {w : World} {b : Nat} {t : TypeId} {v : Value} (h : w.heap[b]? = some (.cells #[v] t (0, 0))) : w.cell? ⟨b, 0, none⟩ = some v := (box_cell2 h).1
set_option maxHeartbeats 4000000 in
theorem drawAmountConvert_any (A0 : Option Addr) (len cap : Nat) (zs : List Int) (w : World) (hs : Sl .u8 w A0 len cap zs) :
    Calls Try.prog 27 #[.slice A0 len cap] w (DrewConv w) := by
  have HS := Lib.hid ((hs.new (.cells #[.slice none 0 0] 28)).new (.cells #[.slice none 0 0] 28))
  have z0 := blk_alloc (nil_measure_new w) (.cells #[.slice none 0 0] 28)
  have z1 : ((w.alloc (.cells #[.slice none 0 0] 28)).alloc (.cells #[.slice none 0 0] 28)).heap[w.heap.size + 1]? = some (.cells #[.slice none 0 0] 28 (0, 0)) := by
    have := nil_measure_new (w.alloc (.cells #[.slice none 0 0] 28))
    simpa using this
  have Z2 := Lib.hid (show ((w.alloc (.cells #[.slice none 0 0] 28)).alloc (.cells #[.slice none 0 0] 28)).heap.size = w.heap.size + 2 by simp)
  have T0 := below_then (below_new w (.cells #[.slice none 0 0] 28)) (below_new _ (.cells #[.slice none 0 0] 28))
  clear hs
  go_enter Try.func27, Try.ntmps27
  go_wp2_with fail
  refine (l6Open_any A0 len cap zs _ HS.out).mono ?_
  rintro e w1 ⟨g, rfl, hr1, hb1⟩
  have b1 := blk_to z0 hb1
  have d1 := blk_to z1 hb1
  have hl := hr1.lt
  rw [Z2.out] at hl
  have T1 := below_then T0 hb1
  go_wp2_with fail
  refine (l92One_any _ g 0 _ hr1 (by omega) (by omega)).mono ?_
  rintro e w2 ⟨rs, ns, A, A2, c, c2, p', hp1, hp2, rfl, ho⟩
  have b2 := blk_grown b1 ho.old (fun k e => by injection e with e; omega)
  have d2 := blk_grown d1 ho.old (fun k e => by injection e with e; omega)
  have T2 := below_pick T1 ho.old (by omega)
  have hs12 := ho.old.size
  have HRB := Lib.hid (show RB rs from ⟨ho.rl, ho.rb⟩)
  have HNB := Lib.hid (show NB ns from ⟨ho.nl, ho.nb⟩)
  have rr2 := ho.rr
  have nr2 := ho.nr
  have r2 := ho.rdr
  clear ho z0 z1 hb1 T0 T1 b1 d1
  have hn := below_new w2 (.cells #[.slice A rs.length c] 28)
  have b3 := blk_to b2 hn
  have d3 := blk_to d2 hn
  have m3 := heap_alloc_new w2 (.cells #[.slice A rs.length c] 28)
  have rr3 := rr2.to hn
  have nr3 := nr2.to hn
  have r3 := r2.alloc (.cells #[.slice A rs.length c] 28)
  have T3 := below_then T2 hn
  go_wp2_with fail
  refine (l92Measure_any _ g p' _ r3 (by omega) (by omega)).mono ?_
  rintro e w4 ⟨ts, A3, c3, p4, htl, htb, hp3, hp4, rfl, i4, r4, hg4⟩
  have HTB := Lib.hid (show RB ts from ⟨htl, htb⟩)
  clear htb
  have b4 := blk_grown b3 hg4 (fun k e => by injection e with e; omega)
  have d4 := blk_grown d3 hg4 (fun k e => by injection e with e; omega)
  have m4 := blk_grown m3 hg4 (fun k e => by injection e with e; omega)
  have rr4 := rr3.pick hg4 hl.2
  have nr4 := nr3.pick hg4 hl.2
  have T4 := below_pick T3 hg4 (by omega)
  have tr4 := i4.rf
  have hs24 : w2.heap.size < w4.heap.size := (Array.getElem?_eq_some_iff.1 m4).1
  have HZ3 := Lib.hid (show (w2.alloc (.cells #[.slice A rs.length c] 28)).heap.size = w2.heap.size + 1 by simp)
  rw [HZ3.out] at tr4
  clear b2 d2 b3 d3 m3 rr2 nr2 r2 rr3 nr3 r3 T2 T3 hn hg4 i4
  have hn := below_new w4 (.cells #[.slice A3 ts.length c3] 28)
  have b5 := blk_to b4 hn
  have d5 := blk_to d4 hn
  have m5 := blk_to m4 hn
  have t5 := heap_alloc_new w4 (.cells #[.slice A3 ts.length c3] 28)
  have rr5 := rr4.to hn
  have nr5 := nr4.to hn
  have tr5 := tr4.to hn
  have r5 := r4.alloc (.cells #[.slice A3 ts.length c3] 28)
  have T5 := below_then T4 hn
  clear b4 d4 m4 rr4 nr4 tr4 r4 T4 hn
  have hd := (Below.refl (w4.alloc (.cells #[.slice A3 ts.length c3] 28)).heap.size (w4.alloc (.cells #[.slice A3 ts.length c3] 28))).drew
  have b6 := blk_to b5 hd
  have d6 := blk_to d5 hd
  have m6 := blk_to m5 hd
  have t6 := blk_to t5 hd
  have rr6 := rr5.to hd
  have nr6 := nr5.to hd
  have tr6 := tr5.to hd
  have r6 : Rdr (w4.alloc (.cells #[.slice A3 ts.length c3] 28)).drew _ g p4 := r5
  have T6 := below_then T5 hd
  clear b5 d5 m5 t5 rr5 nr5 tr5 r5 T5 hd
  have k6 := And.intro (cells_of m6) (cells_of t6)
  have tok1 : True := trivial
  have tok2 : True := trivial
  have tok3 : True := trivial
  have n1 : w2.heap.size ≠ w.heap.size := by omega
  have n2 : w2.heap.size ≠ w.heap.size + 1 := by omega
  have n3 : w4.heap.size ≠ w.heap.size := by omega
  have n4 : w4.heap.size ≠ w.heap.size + 1 := by omega
  go_wp2_with fail
  go_region_held3 (fun w' => w'.cell? ⟨w2.heap.size, 0, none⟩ = some (.slice A rs.length c) ∧ w'.cell? ⟨w4.heap.size, 0, none⟩ = some (.slice A3 ts.length c3)) (first | exact k6 | exact k7 | exact k8 | exact k9 | exact kz | exact ks1 | exact ks2 | exact ks3 | exact ks4 | go_keep) (first
    | (go_at_call 57; have _t := tok1; refine (pick_any _ g p4 9 _ r6 (by omega) (by omega) (by omega) (by omega)).mono ?_; rintro e w7 ⟨x1, x10, x11, rfl, r7, hg7⟩; clear tok1 _t; have b7 := blk_grown b6 hg7 (fun k e => by injection e with e; omega); have d7 := blk_grown d6 hg7 (fun k e => by injection e with e; omega); have m7 := blk_grown m6 hg7 (fun k e => by injection e with e; omega); have t7 := blk_grown t6 hg7 (fun k e => by injection e with e; omega); have rr7 := rr6.pick hg7 hl.2; have nr7 := nr6.pick hg7 hl.2; have tr7 := tr6.pick hg7 (by omega); have T7 := below_pick T6 hg7 (by omega); have k7 := And.intro (cells_of m7) (cells_of t7); have e1 : IntKind.i64.wrap (1 + x1) = 1 + x1 := IntWalk.i64_in _ (by omega))
    | (go_at_call 57; have _t := tok2; refine (pick_any _ g (p4 + 1) 20 _ r7 (by omega) (by omega) (by omega) (by omega)).mono ?_; rintro e w8 ⟨x2, x20, x21, rfl, r8, hg8⟩; clear tok2 _t; have b8 := blk_grown b7 hg8 (fun k e => by injection e with e; omega); have d8 := blk_grown d7 hg8 (fun k e => by injection e with e; omega); have m8 := blk_grown m7 hg8 (fun k e => by injection e with e; omega); have t8 := blk_grown t7 hg8 (fun k e => by injection e with e; omega); have rr8 := rr7.pick hg8 hl.2; have nr8 := nr7.pick hg8 hl.2; have tr8 := tr7.pick hg8 (by omega); have T8 := below_pick T7 hg8 (by omega); have k8 := And.intro (cells_of m8) (cells_of t8); have q2 : 0 ≤ x2 / 19 ∧ x2 / 19 ≤ 1 := (by omega); have e2 : IntKind.i64.wrap (x2.tdiv 19) = x2 / 19 := IntWalk.i64_quo x2 19 ⟨x20, by omega, by omega⟩; have e3 : IntKind.i64.wrap (x2 / 19 * 9) = x2 / 19 * 9 := IntWalk.i64_in _ (by omega); have e4 : IntKind.i64.wrap (1 + x1 - x2 / 19 * 9) = 1 + x1 - x2 / 19 * 9 := IntWalk.i64_in _ (by omega))
    | (go_at_call 57; have _t := tok3; refine (pick_any _ g (p4 + 1 + 1) 12 _ r8 (by omega) (by omega) (by omega) (by omega)).mono ?_; rintro e w9 ⟨x3, x30, x31, rfl, r9, hg9⟩; clear tok3 _t; have b9 := blk_grown b8 hg9 (fun k e => by injection e with e; omega); have d9 := blk_grown d8 hg9 (fun k e => by injection e with e; omega); have m9 := blk_grown m8 hg9 (fun k e => by injection e with e; omega); have t9 := blk_grown t8 hg9 (fun k e => by injection e with e; omega); have rr9 := rr8.pick hg9 hl.2; have nr9 := nr8.pick hg9 hl.2; have tr9 := tr8.pick hg9 (by omega); have T9 := below_pick T8 hg9 (by omega); have k9 := And.intro (cells_of m9) (cells_of t9); have e5 : IntKind.i64.wrap (1 + x3) = 1 + x3 := IntWalk.i64_in _ (by omega))
    | (go_at_call 57; refine (pick_any _ g (p4 + 1 + 1 + 1) 20 _ r9 (by omega) (by omega) (by omega) (by omega)).mono ?_; rintro e wz ⟨x4, x40, x41, rfl, rz, hgz⟩; have bz := blk_grown b9 hgz (fun k e => by injection e with e; omega); have dz := blk_grown d9 hgz (fun k e => by injection e with e; omega); have mz := blk_grown m9 hgz (fun k e => by injection e with e; omega); have tz := blk_grown t9 hgz (fun k e => by injection e with e; omega); have rrz := rr9.pick hgz hl.2; have nrz := nr9.pick hgz hl.2; have trz := tr9.pick hgz (by omega); have Tz := below_pick T9 hgz (by omega); have kz := And.intro (cells_of mz) (cells_of tz); have q4 : 0 ≤ x4 / 19 ∧ x4 / 19 ≤ 1 := (by omega); have e6 : IntKind.i64.wrap (x4.tdiv 19) = x4 / 19 := IntWalk.i64_quo x4 19 ⟨x40, by omega, by omega⟩; have e7 : IntKind.i64.wrap (x4 / 19 * 1000) = x4 / 19 * 1000 := IntWalk.i64_in _ (by omega); have e8 : IntKind.i64.wrap (1 + x3 + x4 / 19 * 1000) = 1 + x3 + x4 / 19 * 1000 := IntWalk.i64_in _ (by omega); obtain ⟨cz, fz⟩ := box_cell2 bz; obtain ⟨cy, fy⟩ := box_cell2 dz; have ks1 := And.intro (cells_of (blk_far mz n1 (.slice A rs.length c))) (cells_of (blk_far tz n3 (.slice A rs.length c))); have ks2 := And.intro (cells_of (blk_far (blk_far mz n1 (.slice A rs.length c)) n2 (.slice A3 ts.length c3))) (cells_of (blk_far (blk_far tz n3 (.slice A rs.length c)) n4 (.slice A3 ts.length c3))); have ks3 := And.intro (cells_of (blk_far mz n2 (.slice A3 ts.length c3))) (cells_of (blk_far tz n4 (.slice A3 ts.length c3))); have ks4 := And.intro (cells_of (blk_far (blk_far mz n2 (.slice A3 ts.length c3)) n1 (.slice A rs.length c))) (cells_of (blk_far (blk_far tz n4 (.slice A3 ts.length c3)) n3 (.slice A rs.length c)))))
  clear e1 e2 e3 e4 e5 e6 e7 e8
  go_wp2_with fail
  have ha := cells_of (blk_far (blk_set bz (.slice A rs.length c)) (show w.heap.size ≠ w.heap.size + 1 by omega) (.slice A3 ts.length c3))
  have hb := cells_of (blk_set (blk_far dz (show w.heap.size + 1 ≠ w.heap.size by omega) (.slice A rs.length c)) (.slice A3 ts.length c3))
  refine bodyPost_ret (v := .tuple #[.agg #[.slice A rs.length c], .slice A2 ns.length c2, .agg #[.slice A3 ts.length c3], .int .i64 (1 + x1 - x2 / 19 * 9), .int .i64 (1 + x3 + x4 / 19 * 1000)]) (by simp [results, Try.results27, go_sem, ha, hb]) rfl ?_
  refine ⟨rs, ns, ts, _, _, A, A2, A3, c, c2, c3, HRB.out, HNB.out, HTB.out, by omega, by omega, by omega, by omega, rfl, ?_, ?_, ?_, ?_⟩
  · exact ((rrz.set _ _ (by omega)).set _ _ (by omega)).mono (by omega)
  · exact ((nrz.set _ _ (by omega)).set _ _ (by omega)).mono (by omega)
  · exact ((trz.set _ _ (by omega)).set _ _ (by omega)).mono (by omega)
  · exact (Tz.setCell (Nat.le_refl _) _).setCell (by simp) _

end Go.Proofs.Ytmcooaopbigebab
