/- The walks of the draws of the laws over measures. No condition. -/
import Derived.Test.YtmcooaopbigebaaDrwA
namespace Go.Proofs.Ytmcooaopbigebaa
open Go.RowKit
set_option linter.unusedVariables false

def RB (rs : List Int) : Prop := rs.length ≤ 7 ∧ ∀ x ∈ rs, 1 ≤ x ∧ x ≤ 101
def NB (ns : List Int) : Prop := ns.length ≤ 8 ∧ ∀ x ∈ ns, -1 ≤ x ∧ x ≤ 1000000001
theorem nil_measure_new (w : World) : (w.alloc (.cells #[.slice none 0 0] 27)).heap[w.heap.size]? = some (.cells #[.slice none 0 0] 27 (0, 0)) := heap_alloc_new w _
theorem blk_below {w w' : World} {b B : Nat} {t : TypeId} {v : Value} (h : w.heap[b]? = some (.cells #[v] t (0, 0))) (hb : Below B w w') (hl : b < B) : w'.heap[b]? = some (.cells #[v] t (0, 0)) := (hb.block b hl).trans h
theorem below_pick {w w1 w2 : World} {g : Nat} (hb : Below w.heap.size w w1) (hg : w1.grownBy w2 (some g)) (hl : w.heap.size ≤ g) : Below w.heap.size w w2 :=
  hb.grown hg hb.size (fun k e => by injection e with e; omega)
def DrewM (w : World) (e : Ending) (w' : World) : Prop := ∃ (rs : List Int) (A : Option Addr) (c : Nat), RB rs ∧ rs.length ≤ c ∧ e = .returned (.agg #[.slice A rs.length c]) ∧ RF w' w.heap.size A rs ∧ Below w.heap.size w w'
set_option maxHeartbeats 400000 in
theorem drawMeasureWorths_any (A : Option Addr) (len cap : Nat) (zs : List Int) (w : World) (hs : Sl .u8 w A len cap zs) :
    Calls Try.prog 20 #[.slice A len cap] w (DrewM w) := by
  have HS := Lib.hid (hs.new (.cells #[.slice none 0 0] 27))
  clear hs
  go_enter Try.func20, Try.ntmps20
  go_wp2_with fail
  refine (l6Open_any A len cap zs _ HS.out).mono ?_
  rintro e w1 ⟨g, rfl, hr1, hb1⟩
  have b1 := blk_below (nil_measure_new w) hb1 (by simp)
  have hl := hr1.lt
  simp at hl
  have T1 := below_then (below_new w _) hb1
  go_wp2_with fail
  refine (l92Measure_any _ g 0 _ hr1 (by omega) (by omega)).mono ?_
  rintro e w2 ⟨rs, A2, c2, p', hrl, hrb, -, -, rfl, hi2, hr2, hg2⟩
  have HB := Lib.hid (show RB rs from ⟨hrl, hrb⟩)
  clear hrl hrb
  have b2 := blk_grown b1 hg2 (fun k e => by injection e with e; omega)
  obtain ⟨c2', f2'⟩ := box_cell2 b2
  go_wp2_with fail
  have hra := after_set0 b2 (.slice A2 rs.length c2)
  refine bodyPost_ret (v := .agg #[.slice A2 rs.length c2]) (by simp [results, Try.results20, go_sem, hra]) rfl ?_
  exact ⟨rs, A2, c2, HB.out, hi2.len.1, rfl, (hi2.rf.set _ _ (by omega)).mono (by omega), (below_pick T1 hg2 (by omega)).setCell (Nat.le_refl _) _⟩
/-- a measure and a list, drawn. -/
def DrewOne (w : World) (e : Ending) (w' : World) : Prop := ∃ (rs ns : List Int) (A A2 : Option Addr) (c c2 : Nat), RB rs ∧ NB ns ∧
  e = .returned (.tuple #[.agg #[.slice A rs.length c], .slice A2 ns.length c2]) ∧ RF w' w.heap.size A rs ∧ RF w' w.heap.size A2 ns ∧ Below w.heap.size w w'
set_option maxHeartbeats 400000 in
theorem drawAmountLeast_any (A : Option Addr) (len cap : Nat) (zs : List Int) (w : World) (hs : Sl .u8 w A len cap zs) :
    Calls Try.prog 35 #[.slice A len cap] w (DrewOne w) := by
  have HS := Lib.hid (hs.new (.cells #[.slice none 0 0] 27))
  clear hs
  go_enter Try.func35, Try.ntmps35
  go_wp2_with fail
  refine (l6Open_any A len cap zs _ HS.out).mono ?_
  rintro e w1 ⟨g, rfl, hr1, hb1⟩
  have b1 := blk_below (nil_measure_new w) hb1 (by simp)
  have hl := hr1.lt
  simp at hl
  have T1 := below_then (below_new w _) hb1
  go_wp2_with fail
  refine (l92One_any _ g 0 _ hr1 (by omega) (by omega)).mono ?_
  rintro e w2 ⟨rs, ns, A2, A3, c2, c3, p', -, -, rfl, ho⟩
  have b2 := blk_grown b1 ho.old (fun k e => by injection e with e; omega)
  obtain ⟨c2', f2'⟩ := box_cell2 b2
  go_wp2_with fail
  have hra := after_set0 b2 (.slice A2 rs.length c2)
  refine bodyPost_ret (v := .tuple #[.agg #[.slice A2 rs.length c2], .slice A3 ns.length c3]) (by simp [results, Try.results35, go_sem, hra]) rfl ?_
  exact ⟨rs, ns, A2, A3, c2, c3, ⟨ho.rl, ho.rb⟩, ⟨ho.nl, ho.nb⟩, rfl, (ho.rr.set _ _ (by omega)).mono (by omega), (ho.nr.set _ _ (by omega)).mono (by omega), (below_pick T1 ho.old (by omega)).setCell (Nat.le_refl _) _⟩


end Go.Proofs.Ytmcooaopbigebaa
