/- The walks of the draws of the laws over measures. No condition. -/
import Derived.Test.YtmcooaopbigebabDrwA
namespace Go.Proofs.Ytmcooaopbigebab
open Go.RowKit
set_option linter.unusedVariables false

def RB (rs : List Int) : Prop := rs.length ≤ 7 ∧ ∀ x ∈ rs, 1 ≤ x ∧ x ≤ 101
def NB (ns : List Int) : Prop := ns.length ≤ 8 ∧ ∀ x ∈ ns, -1 ≤ x ∧ x ≤ 1000000001
theorem nil_measure_new (w : World) : (w.alloc (.cells #[.slice none 0 0] 28)).heap[w.heap.size]? = some (.cells #[.slice none 0 0] 28 (0, 0)) := heap_alloc_new w _
theorem blk_below {w w' : World} {b B : Nat} {t : TypeId} {v : Value} (h : w.heap[b]? = some (.cells #[v] t (0, 0))) (hb : Below B w w') (hl : b < B) : w'.heap[b]? = some (.cells #[v] t (0, 0)) := (hb.block b hl).trans h
theorem below_pick {w w1 w2 : World} {g : Nat} (hb : Below w.heap.size w w1) (hg : w1.grownBy w2 (some g)) (hl : w.heap.size ≤ g) : Below w.heap.size w w2 :=
  hb.grown hg hb.size (fun k e => by injection e with e; omega)
/-- a measure and a list, drawn. -/
def DrewOne (w : World) (e : Ending) (w' : World) : Prop := ∃ (rs ns : List Int) (A A2 : Option Addr) (c c2 : Nat), RB rs ∧ NB ns ∧
  e = .returned (.tuple #[.agg #[.slice A rs.length c], .slice A2 ns.length c2]) ∧ RF w' w.heap.size A rs ∧ RF w' w.heap.size A2 ns ∧ Below w.heap.size w w'
set_option maxHeartbeats 400000 in
theorem drawAmountProper_any (A : Option Addr) (len cap : Nat) (zs : List Int) (w : World) (hs : Sl .u8 w A len cap zs) :
    Calls Try.prog 33 #[.slice A len cap] w (DrewOne w) := by
  have HS := Lib.hid (hs.new (.cells #[.slice none 0 0] 28))
  clear hs
  go_enter Try.func33, Try.ntmps33
  go_wp2_with fail
  refine (l6Open_any A len cap zs _ HS.out).mono ?_
  rintro e w1 ⟨g, rfl, hr1, hb1⟩
  have b1 := blk_below (nil_measure_new w) hb1 (by simp)
  have hl := hr1.lt
  simp at hl
  have T1 := below_then (below_new w _) hb1
  go_wp2_with fail
  refine (l92One_any _ g 0 _ hr1 (by omega) (by omega)).mono ?_
  rintro e w2 ⟨rs, ns, A2, A3, c2, c3, p', -, -, rfl, ho⟩
  have b2 := blk_grown b1 ho.old (fun k e => by injection e with e; omega)
  obtain ⟨c2', f2'⟩ := box_cell2 b2
  go_wp2_with fail
  have hra := after_set0 b2 (.slice A2 rs.length c2)
  refine bodyPost_ret (v := .tuple #[.agg #[.slice A2 rs.length c2], .slice A3 ns.length c3]) (by simp [results, Try.results33, go_sem, hra]) rfl ?_
  exact ⟨rs, ns, A2, A3, c2, c3, ⟨ho.rl, ho.rb⟩, ⟨ho.nl, ho.nb⟩, rfl, (ho.rr.set _ _ (by omega)).mono (by omega), (ho.nr.set _ _ (by omega)).mono (by omega), (below_pick T1 ho.old (by omega)).setCell (Nat.le_refl _) _⟩

/-- a drawn measure and two drawn lists. -/
structure BothIs (w : World) (B g : Nat) (p' : Int) (rs ns ms : List Int) (A A2 A3 : Option Addr) (w' : World) : Prop where
  rb : RB rs
  nb : NB ns
  mb : NB ms
  rr : RF w' w.heap.size A rs
  nr : RF w' w.heap.size A2 ns
  mr : RF w' w.heap.size A3 ms
  rdr : Rdr w' B g p'
  old : w.grownBy w' (some g)
def DrawBoth (B g : Nat) (p : Int) (k : Nat) (w : World) (e : Ending) (w' : World) : Prop := ∃ (rs ns ms : List Int) (A A2 A3 : Option Addr) (c c2 c3 : Nat) (p' : Int), p ≤ p' ∧ p' ≤ p + k ∧
  e = .returned (.tuple #[.agg #[.slice A rs.length c], .slice A2 ns.length c2, .slice A3 ms.length c3]) ∧ BothIs w B g p' rs ns ms A A2 A3 w'
set_option maxHeartbeats 2000000 in
theorem l92Both_any (B g : Nat) (p : Int) (w : World) (h : Rdr w B g p) (p0 : 0 ≤ p) (p1 : p ≤ 700000) :
    Calls Try.prog 60 #[.pointer (some ⟨g, 0, none⟩)] w (DrawBoth B g p 33 w) := by
  have hl := h.lt
  have HR := Lib.hid h
  go_enter Try.func60, Try.ntmps60
  go_wp2_with fail
  refine (l92One_any B g p _ (HR.out.alloc _) p0 (by omega)).mono ?_
  rintro e w1 ⟨rs, ns, A, A2, c, c2, p', hp1, hp2, rfl, ho⟩
  have hr1 := ho.rdr
  have hrl := ho.rl
  have b1 := blk_pick (nil_measure_new w) ho.old hl.2
  have hs1 : w.heap.size < w1.heap.size := (Array.getElem?_eq_some_iff.1 b1).1
  have o1 : w.grownBy w1 (some g) := (World.grownBy_alloc _ _ _).trans ho.old
  go_wp2_with fail
  have hr2 : Rdr (w1.alloc (.cells #[.slice A rs.length c] 28)).drew B g p' := hr1.alloc _
  have b2 : (w1.alloc (.cells #[.slice A rs.length c] 28)).drew.heap[w.heap.size]? = some (.cells #[.slice none 0 0] 28 (0, 0)) := blk_alloc b1 _
  have m2 : (w1.alloc (.cells #[.slice A rs.length c] 28)).drew.heap[w1.heap.size]? = some (.cells #[.slice A rs.length c] 28 (0, 0)) := heap_alloc_new w1 _
  have f2 : RF (w1.alloc (.cells #[.slice A rs.length c] 28)).drew _ A rs := (ho.rr.alloc _).drew1
  have n2 : RF (w1.alloc (.cells #[.slice A rs.length c] 28)).drew _ A2 ns := (ho.nr.alloc _).drew1
  have o2 : w.grownBy (w1.alloc (.cells #[.slice A rs.length c] 28)).drew (some g) := by
    have := o1.trans (World.grownBy_alloc w1 (.cells #[.slice A rs.length c] 28) (some g))
    exact ⟨this.os, this.tape, this.output, this.size, this.block⟩
  have s2 := (box_cell2 m2).1
  have hne1 : w1.heap.size ≠ w.heap.size := by omega
  have hne2 := hne1.symm
  go_region_held3 (fun w' => w'.cell? ⟨w1.heap.size, 0, none⟩ = some (.slice A rs.length c)) (first | assumption | go_keep) (first | (go_at_call 64; refine (l92Amount_any B g p' A c rs _ hr2 hrl (by omega) (by omega)).mono ?_; rintro e w3 ⟨ms, A3, c3, p'', hnl, hnb, hp3, hp4, rfl, f3, hr3, hg3⟩; have HNB := Lib.hid (show NB ms from ⟨hnl, hnb⟩); clear hnb; have b3 := blk_pick b2 hg3 hl.2; have m3 := blk_pick m2 hg3 (Nat.lt_trans hl.2 hs1); have s3 := (box_cell2 m3).1; obtain ⟨c3', fr3⟩ := box_cell2 b3))
  go_wp2_with fail
  have hra := after_set0 b3 (.slice A rs.length c)
  refine bodyPost_ret (v := .tuple #[.agg #[.slice A rs.length c], .slice A2 ns.length c2, .slice A3 ms.length c3]) (by simp [results, Try.results60, go_sem, hra]) rfl ?_
  refine ⟨rs, ns, ms, A, A2, A3, c, c2, c3, p'', by omega, by omega, rfl, ⟨⟨ho.rl, ho.rb⟩, ⟨ho.nl, ho.nb⟩, HNB.out, ?_, ?_, ?_, ?_, ?_⟩⟩
  · exact ((f2.pick hg3 (by simp; omega)).set _ _ (by simp)).mono (by simp)
  · exact ((n2.pick hg3 (by simp; omega)).set _ _ (by simp)).mono (by simp)
  · exact (f3.set _ _ (by simp; omega)).mono (by simp; omega)
  · exact hr3.grown (grown_one w3 _ _) (fun k e => by injection e with e; omega)
  · exact grown_set (o2.trans hg3) (Nat.le_refl _) _
def DrewBoth (w : World) (e : Ending) (w' : World) : Prop := ∃ (rs ns ms : List Int) (A A2 A3 : Option Addr) (c c2 c3 : Nat), RB rs ∧ NB ns ∧ NB ms ∧
  e = .returned (.tuple #[.agg #[.slice A rs.length c], .slice A2 ns.length c2, .slice A3 ms.length c3]) ∧ RF w' w.heap.size A rs ∧ RF w' w.heap.size A2 ns ∧ RF w' w.heap.size A3 ms ∧ Below w.heap.size w w'
set_option maxHeartbeats 400000 in
theorem drawAmountAdd_any (A : Option Addr) (len cap : Nat) (zs : List Int) (w : World) (hs : Sl .u8 w A len cap zs) :
    Calls Try.prog 37 #[.slice A len cap] w (DrewBoth w) := by
  have HS := Lib.hid (hs.new (.cells #[.slice none 0 0] 28))
  clear hs
  go_enter Try.func37, Try.ntmps37
  go_wp2_with fail
  refine (l6Open_any A len cap zs _ HS.out).mono ?_
  rintro e w1 ⟨g, rfl, hr1, hb1⟩
  have b1 := blk_below (nil_measure_new w) hb1 (by simp)
  have hl := hr1.lt
  simp at hl
  have T1 := below_then (below_new w _) hb1
  go_wp2_with fail
  refine (l92Both_any _ g 0 _ hr1 (by omega) (by omega)).mono ?_
  rintro e w2 ⟨rs, ns, ms, A2, A3, A4, c2, c3, c4, p', -, -, rfl, ho⟩
  have b2 := blk_grown b1 ho.old (fun k e => by injection e with e; omega)
  obtain ⟨c2', f2'⟩ := box_cell2 b2
  go_wp2_with fail
  have hra := after_set0 b2 (.slice A2 rs.length c2)
  refine bodyPost_ret (v := .tuple #[.agg #[.slice A2 rs.length c2], .slice A3 ns.length c3, .slice A4 ms.length c4]) (by simp [results, Try.results37, go_sem, hra]) rfl ?_
  exact ⟨rs, ns, ms, A2, A3, A4, c2, c3, c4, ho.rb, ho.nb, ho.mb, rfl, (ho.rr.set _ _ (by omega)).mono (by omega), (ho.nr.set _ _ (by omega)).mono (by omega), (ho.mr.set _ _ (by omega)).mono (by omega), (below_pick T1 ho.old (by omega)).setCell (Nat.le_refl _) _⟩
set_option maxHeartbeats 400000 in
theorem drawAmountTake_any (A : Option Addr) (len cap : Nat) (zs : List Int) (w : World) (hs : Sl .u8 w A len cap zs) :
    Calls Try.prog 44 #[.slice A len cap] w (DrewBoth w) := by
  have HS := Lib.hid (hs.new (.cells #[.slice none 0 0] 28))
  clear hs
  go_enter Try.func44, Try.ntmps44
  go_wp2_with fail
  refine (l6Open_any A len cap zs _ HS.out).mono ?_
  rintro e w1 ⟨g, rfl, hr1, hb1⟩
  have b1 := blk_below (nil_measure_new w) hb1 (by simp)
  have hl := hr1.lt
  simp at hl
  have T1 := below_then (below_new w _) hb1
  go_wp2_with fail
  refine (l92Both_any _ g 0 _ hr1 (by omega) (by omega)).mono ?_
  rintro e w2 ⟨rs, ns, ms, A2, A3, A4, c2, c3, c4, p', -, -, rfl, ho⟩
  have b2 := blk_grown b1 ho.old (fun k e => by injection e with e; omega)
  obtain ⟨c2', f2'⟩ := box_cell2 b2
  go_wp2_with fail
  have hra := after_set0 b2 (.slice A2 rs.length c2)
  refine bodyPost_ret (v := .tuple #[.agg #[.slice A2 rs.length c2], .slice A3 ns.length c3, .slice A4 ms.length c4]) (by simp [results, Try.results44, go_sem, hra]) rfl ?_
  exact ⟨rs, ns, ms, A2, A3, A4, c2, c3, c4, ho.rb, ho.nb, ho.mb, rfl, (ho.rr.set _ _ (by omega)).mono (by omega), (ho.nr.set _ _ (by omega)).mono (by omega), (ho.mr.set _ _ (by omega)).mono (by omega), (below_pick T1 ho.old (by omega)).setCell (Nat.le_refl _) _⟩
structure TimesIs (w : World) (B g : Nat) (p' : Int) (rs ns : List Int) (n : Int) (A A2 : Option Addr) (w' : World) : Prop where
  rb : RB rs
  nb : NB ns
  lo : -1 ≤ n
  hi : n ≤ 100001
  rr : RF w' w.heap.size A rs
  nr : RF w' w.heap.size A2 ns
  rdr : Rdr w' B g p'
  old : w.grownBy w' (some g)
def DrawTimes (B g : Nat) (p : Int) (k : Nat) (w : World) (e : Ending) (w' : World) : Prop := ∃ (rs ns : List Int) (n : Int) (A A2 : Option Addr) (c c2 : Nat) (p' : Int), p ≤ p' ∧ p' ≤ p + k ∧
  e = .returned (.tuple #[.agg #[.slice A rs.length c], .slice A2 ns.length c2, .int .i64 n]) ∧ TimesIs w B g p' rs ns n A A2 w'
theorem lit_get (zs : List Int) (x : Nat) (hx : x < zs.length) : (zs.map (Value.int .i64))[x]'(by simpa using hx) = .int .i64 (ix zs x) := by
  rw [List.getElem_map, ix_eq zs hx]
def litT : List Int := [-1, 100000, 100001, 0]
theorem litT_bd {k : Nat} (h : k < 4) : -1 ≤ ix litT k ∧ ix litT k ≤ 100001 := by
  have : k = 0 ∨ k = 1 ∨ k = 2 ∨ k = 3 := by omega
  rcases this with h | h | h | h <;> subst h <;> decide
theorem times_end {w w3 : World} {B g : Nat} {p p' : Int} {k : Nat} {rs ns : List Int} {n : Int} {A A2 : Option Addr} {c c2 : Nat} (rb : RB rs) (nb : NB ns) (n0 : -1 ≤ n) (n1 : n ≤ 100001) (h1 : p ≤ p') (h2 : p' ≤ p + k)
    (rr : RF w3 (w.heap.size + 1) A rs) (nr : RF w3 (w.heap.size + 1) A2 ns) (hr : Rdr w3 B g p') (ho : w.grownBy w3 (some g)) (hgl : g < w.heap.size) :
    DrawTimes B g p k w (.returned (.tuple #[.agg #[.slice A rs.length c], .slice A2 ns.length c2, .int .i64 n])) (w3.setCell ⟨w.heap.size, 0, none⟩ (.slice A rs.length c)) :=
  ⟨rs, ns, n, A, A2, c, c2, p', h1, h2, rfl, ⟨rb, nb, n0, n1, (rr.set _ _ (by omega)).mono (by omega), (nr.set _ _ (by omega)).mono (by omega), hr.grown (grown_one w3 _ _) (fun k e => by injection e with e; have := hr.lt; omega), grown_set ho (Nat.le_refl _) _⟩⟩
theorem DrawTimes.alloc {B g : Nat} {p : Int} {k : Nat} {w : World} {e : Ending} {w' : World} (h : DrawTimes B g p k w e w') (o : Obj) : DrawTimes B g p k w e (w'.alloc o) := by
  obtain ⟨rs, ns, n, A, A2, c, c2, p', h1, h2, h3, h4⟩ := h
  exact ⟨rs, ns, n, A, A2, c, c2, p', h1, h2, h3, ⟨h4.rb, h4.nb, h4.lo, h4.hi, h4.rr.alloc o, h4.nr.alloc o, h4.rdr.alloc o, h4.old.trans (World.grownBy_alloc _ _ _)⟩⟩
set_option maxHeartbeats 4000000 in
theorem l92Times_any (B g : Nat) (p : Int) (w : World) (h : Rdr w B g p) (p0 : 0 ≤ p) (p1 : p ≤ 700000) :
    Calls Try.prog 61 #[.pointer (some ⟨g, 0, none⟩)] w (DrawTimes B g p 23 w) := by
  have hl := h.lt
  have HR := Lib.hid h
  go_enter Try.func61, Try.ntmps61
  go_wp2_with fail
  refine (l92One_any B g p _ (HR.out.alloc _) p0 (by omega)).mono ?_
  rintro e w1 ⟨rs, ns, A, A2, c, c2, p', hp1, hp2, rfl, ho⟩
  have hr1 := ho.rdr
  have HRB := Lib.hid (show RB rs from ⟨ho.rl, ho.rb⟩)
  have HNB := Lib.hid (show NB ns from ⟨ho.nl, ho.nb⟩)
  have b1 := blk_pick (nil_measure_new w) ho.old hl.2
  have hs1 : w.heap.size < w1.heap.size := (Array.getElem?_eq_some_iff.1 b1).1
  have o1 : w.grownBy w1 (some g) := (World.grownBy_alloc _ _ _).trans ho.old
  have rr1 : RF w1 (w.heap.size + 1) A rs := by simpa using ho.rr
  have nr1 : RF w1 (w.heap.size + 1) A2 ns := by simpa using ho.nr
  clear ho
  go_wp2_with fail
  refine (pick_any B g p' 12 _ (hr1.alloc _) (by omega) (by omega) (by omega) (by omega)).mono ?_
  rintro e w2 ⟨y, y0, y1, rfl, hr2, hg2⟩
  have b2 := blk_pick (blk_alloc b1 _) hg2 hl.2
  have m2 := blk_pick (heap_alloc_new w1 (.cells #[.slice A rs.length c] 28)) hg2 (Nat.lt_trans hl.2 hs1)
  have rr2 := (rr1.alloc _).pick hg2 (by omega)
  have nr2 := (nr1.alloc _).pick hg2 (by omega)
  have o2 := (o1.trans (World.grownBy_alloc _ _ _)).trans hg2
  have hs2 : w1.heap.size < w2.heap.size := (Array.getElem?_eq_some_iff.1 m2).1
  have hne1 : w1.heap.size ≠ w.heap.size := by omega
  have hne2 := hne1.symm
  have s2 := (box_cell2 m2).1
  have hs20 : w.heap.size < w2.heap.size := by omega
  by_cases yc : y = 0
  · subst yc
    have hgw : g < w2.heap.size := by omega
    have hrA : Rdr (w2.alloc (.cells #[.int .i64 (-1), .int .i64 100000, .int .i64 100001, .int .i64 0] 3)).drew B g (p' + 1) := hr2.alloc _
    have hrB : Rdr w2.drew B g (p' + 1) := hr2
    have bA : (w2.alloc (.cells #[.int .i64 (-1), .int .i64 100000, .int .i64 100001, .int .i64 0] 3)).drew.heap[w.heap.size]? = some (.cells #[.slice none 0 0] 28 (0, 0)) := blk_alloc b2 _
    have bB : w2.drew.heap[w.heap.size]? = some (.cells #[.slice none 0 0] 28 (0, 0)) := b2
    have mA : (w2.alloc (.cells #[.int .i64 (-1), .int .i64 100000, .int .i64 100001, .int .i64 0] 3)).drew.heap[w1.heap.size]? = some (.cells #[.slice A rs.length c] 28 (0, 0)) := blk_alloc m2 _
    have mB : w2.drew.heap[w1.heap.size]? = some (.cells #[.slice A rs.length c] 28 (0, 0)) := m2
    have rrA : RF (w2.alloc (.cells #[.int .i64 (-1), .int .i64 100000, .int .i64 100001, .int .i64 0] 3)).drew (w.heap.size + 1) A rs := rr2.alloc _
    have nrA : RF (w2.alloc (.cells #[.int .i64 (-1), .int .i64 100000, .int .i64 100001, .int .i64 0] 3)).drew (w.heap.size + 1) A2 ns := nr2.alloc _
    have rrB : RF w2.drew (w.heap.size + 1) A rs := rr2
    have nrB : RF w2.drew (w.heap.size + 1) A2 ns := nr2
    have oA : w.grownBy (w2.alloc (.cells #[.int .i64 (-1), .int .i64 100000, .int .i64 100001, .int .i64 0] 3)).drew (some g) := by
      have := o2.trans (World.grownBy_alloc w2 (.cells #[.int .i64 (-1), .int .i64 100000, .int .i64 100001, .int .i64 0] 3) (some g))
      exact ⟨this.os, this.tape, this.output, this.size, this.block⟩
    have oB : w.grownBy w2.drew (some g) := ⟨o2.os, o2.tape, o2.output, o2.size, o2.block⟩
    have HG := Lib.hid (And.intro hr2 hg2)
    clear hr2 hg2
    go_wp2_with fail
    go_region_law (first
      | (go_simp; go_at_call 57; refine (pick_any B g (p' + 1) 4 _ hrA (by omega) (by omega) (by omega) (by omega)).mono ?_; rintro e w3 ⟨x, x0, x1, rfl, hr3, hg3⟩; obtain ⟨x, rfl⟩ := Int.eq_ofNat_of_zero_le x0; have hx3 : x < 4 := (by omega); have hcl := lit_far litT _ rfl hg3 hgw x hx3; have HBD := Lib.hid (litT_bd hx3); have b3 := blk_pick bA hg3 hl.2; have m3 := blk_pick mA hg3 (Nat.lt_trans hl.2 hs1); have HF := Lib.hid (And.intro (rrA.pick hg3 (by omega)) (And.intro (nrA.pick hg3 (by omega)) (oA.trans hg3))); have s3 := (box_cell2 m3).1; obtain ⟨c3', fr3⟩ := box_cell2 b3; have hs3 : w1.heap.size < w3.heap.size := (Array.getElem?_eq_some_iff.1 m3).1; have hs30 : w.heap.size < w3.heap.size := (by omega))
      | (go_simp; go_at_call 57; refine (pick_any B g (p' + 1) 4 _ hrB (by omega) (by omega) (by omega) (by omega)).mono ?_; rintro e w3 ⟨x, x0, x1, rfl, hr3, hg3⟩; obtain ⟨x, rfl⟩ := Int.eq_ofNat_of_zero_le x0; have hx3 : x < 4 := (by omega); have hcl := lit_cell w3 litT #[.int .i64 (-1), .int .i64 100000, .int .i64 100001, .int .i64 0] rfl x hx3; have HBD := Lib.hid (litT_bd hx3); have b3 := blk_pick bB hg3 hl.2; have m3 := blk_pick mB hg3 (Nat.lt_trans hl.2 hs1); have HF := Lib.hid (And.intro (rrB.pick hg3 (by omega)) (And.intro (nrB.pick hg3 (by omega)) (oB.trans hg3))); have s3 := (box_cell2 m3).1; obtain ⟨c3', fr3⟩ := box_cell2 b3; have hs3 : w1.heap.size < w3.heap.size := (Array.getElem?_eq_some_iff.1 m3).1; have hs30 : w.heap.size < w3.heap.size := (by omega)))
    all_goals
      go_wp2_with fail
      have hfin := times_end (p := p) (k := 23) (c := c) (c2 := c2) HRB.out HNB.out HBD.out.1 HBD.out.2 (by omega) (by omega) HF.out.1 HF.out.2.1 hr3 HF.out.2.2 hl.2
      have hra := after_set0 b3 (.slice A rs.length c)
      have hrb := after_set b3 (.slice A rs.length c)
      have hget : [Value.int .i64 (-1), .int .i64 100000, .int .i64 100001, .int .i64 0][x]'(by simp; omega) = .int .i64 (ix litT x) := lit_get litT x hx3
      first
        | exact bodyPost_ret (v := .tuple #[.agg #[.slice A rs.length c], .slice A2 ns.length c2, .int .i64 (ix litT x)]) (by simp [results, Try.results61, go_sem, hra]) rfl hfin
        | exact bodyPost_ret (v := .tuple #[.agg #[.slice A rs.length c], .slice A2 ns.length c2, .int .i64 (ix litT x)]) (by simp [results, Try.results61, go_sem, hrb, hget]) rfl (hfin.alloc _)
        | exact bodyPost_ret (v := .tuple #[.agg #[.slice A rs.length c], .slice A2 ns.length c2, .int .i64 (ix litT x)]) (by simp [results, Try.results61, go_sem, hrb]) rfl (hfin.alloc _)
  · have yc' : (y == 0) = false := beq_eq_false_iff_ne.2 yc
    clear yc
    have hrB : Rdr w2.drew B g (p' + 1) := hr2
    have bB : w2.drew.heap[w.heap.size]? = some (.cells #[.slice none 0 0] 28 (0, 0)) := b2
    have mB : w2.drew.heap[w1.heap.size]? = some (.cells #[.slice A rs.length c] 28 (0, 0)) := m2
    have rrB : RF w2.drew (w.heap.size + 1) A rs := rr2
    have nrB : RF w2.drew (w.heap.size + 1) A2 ns := nr2
    have oB : w.grownBy w2.drew (some g) := ⟨o2.os, o2.tape, o2.output, o2.size, o2.block⟩
    go_wp2_with fail
    go_region_held3 (fun w' => w'.cell? ⟨w1.heap.size, 0, none⟩ = some (.slice A rs.length c)) (first | assumption | go_keep) (first | (go_at_call 57; refine (pick_any B g (p' + 1) 40 _ hrB (by omega) (by omega) (by omega) (by omega)).mono ?_; rintro e w3 ⟨x, x0, x1, rfl, hr3, hg3⟩; have b3 := blk_pick bB hg3 hl.2; have m3 := blk_pick mB hg3 (Nat.lt_trans hl.2 hs1); have s3 := (box_cell2 m3).1; obtain ⟨c3', fr3⟩ := box_cell2 b3))
    go_wp2_with fail
    have hfin := times_end (p := p) (k := 23) (c := c) (c2 := c2) HRB.out HNB.out (show -1 ≤ x by omega) (show x ≤ 100001 by omega) (by omega) (by omega) (rrB.pick hg3 (by omega)) (nrB.pick hg3 (by omega)) hr3 (oB.trans hg3) hl.2
    have hra := after_set0 b3 (.slice A rs.length c)
    exact bodyPost_ret (v := .tuple #[.agg #[.slice A rs.length c], .slice A2 ns.length c2, .int .i64 x]) (by simp [results, Try.results61, go_sem, hra]) rfl hfin
def DrewTimes (w : World) (e : Ending) (w' : World) : Prop := ∃ (rs ns : List Int) (n : Int) (A A2 : Option Addr) (c c2 : Nat), RB rs ∧ NB ns ∧ -1 ≤ n ∧ n ≤ 100001 ∧
  e = .returned (.tuple #[.agg #[.slice A rs.length c], .slice A2 ns.length c2, .int .i64 n]) ∧ RF w' w.heap.size A rs ∧ RF w' w.heap.size A2 ns ∧ Below w.heap.size w w'
set_option maxHeartbeats 400000 in
theorem drawAmountTimes_any (A : Option Addr) (len cap : Nat) (zs : List Int) (w : World) (hs : Sl .u8 w A len cap zs) :
    Calls Try.prog 38 #[.slice A len cap] w (DrewTimes w) := by
  have HS := Lib.hid (hs.new (.cells #[.slice none 0 0] 28))
  clear hs
  go_enter Try.func38, Try.ntmps38
  go_wp2_with fail
  refine (l6Open_any A len cap zs _ HS.out).mono ?_
  rintro e w1 ⟨g, rfl, hr1, hb1⟩
  have b1 := blk_below (nil_measure_new w) hb1 (by simp)
  have hl := hr1.lt
  simp at hl
  have T1 := below_then (below_new w _) hb1
  go_wp2_with fail
  refine (l92Times_any _ g 0 _ hr1 (by omega) (by omega)).mono ?_
  rintro e w2 ⟨rs, ns, n, A2, A3, c2, c3, p', -, -, rfl, ho⟩
  have b2 := blk_grown b1 ho.old (fun k e => by injection e with e; omega)
  obtain ⟨c2', f2'⟩ := box_cell2 b2
  go_wp2_with fail
  have hra := after_set0 b2 (.slice A2 rs.length c2)
  refine bodyPost_ret (v := .tuple #[.agg #[.slice A2 rs.length c2], .slice A3 ns.length c3, .int .i64 n]) (by simp [results, Try.results38, go_sem, hra]) rfl ?_
  exact ⟨rs, ns, n, A2, A3, c2, c3, ho.rb, ho.nb, ho.lo, ho.hi, rfl, (ho.rr.set _ _ (by omega)).mono (by omega), (ho.nr.set _ _ (by omega)).mono (by omega), (below_pick T1 ho.old (by omega)).setCell (Nat.le_refl _) _⟩
set_option maxHeartbeats 400000 in
theorem drawAmountShare_any (A : Option Addr) (len cap : Nat) (zs : List Int) (w : World) (hs : Sl .u8 w A len cap zs) :
    Calls Try.prog 43 #[.slice A len cap] w (DrewTimes w) := by
  have HS := Lib.hid (hs.new (.cells #[.slice none 0 0] 28))
  clear hs
  go_enter Try.func43, Try.ntmps43
  go_wp2_with fail
  refine (l6Open_any A len cap zs _ HS.out).mono ?_
  rintro e w1 ⟨g, rfl, hr1, hb1⟩
  have b1 := blk_below (nil_measure_new w) hb1 (by simp)
  have hl := hr1.lt
  simp at hl
  have T1 := below_then (below_new w _) hb1
  go_wp2_with fail
  refine (l92Times_any _ g 0 _ hr1 (by omega) (by omega)).mono ?_
  rintro e w2 ⟨rs, ns, n, A2, A3, c2, c3, p', -, -, rfl, ho⟩
  have b2 := blk_grown b1 ho.old (fun k e => by injection e with e; omega)
  obtain ⟨c2', f2'⟩ := box_cell2 b2
  go_wp2_with fail
  have hra := after_set0 b2 (.slice A2 rs.length c2)
  refine bodyPost_ret (v := .tuple #[.agg #[.slice A2 rs.length c2], .slice A3 ns.length c3, .int .i64 n]) (by simp [results, Try.results43, go_sem, hra]) rfl ?_
  exact ⟨rs, ns, n, A2, A3, c2, c3, ho.rb, ho.nb, ho.lo, ho.hi, rfl, (ho.rr.set _ _ (by omega)).mono (by omega), (ho.nr.set _ _ (by omega)).mono (by omega), (below_pick T1 ho.old (by omega)).setCell (Nat.le_refl _) _⟩

end Go.Proofs.Ytmcooaopbigebab
