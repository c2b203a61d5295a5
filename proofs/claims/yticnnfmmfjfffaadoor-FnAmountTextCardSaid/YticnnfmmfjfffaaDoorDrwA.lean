/- The walks of the draws of amounts: l92Amount, l92One. No condition but bounds. -/
import Derived.Test.YticnnfmmfjfffaaDoorDrwM
namespace Go.Proofs.YticnnfmmfjfffaaDoor
open Go.RowKit
set_option linter.unusedVariables false

/-- a slice that is read and lies in memory from base on. -/
def RF (w : World) (base : Nat) (A : Option Addr) (zs : List Int) : Prop := RD .i64 w w.heap.size A zs ∧ ∀ b, A.map (·.block) = some b → base ≤ b
section
variable {w w' : World} {base base' g : Nat} {A : Option Addr} {zs : List Int} {row : Option Nat}
theorem RF.mono (h : RF w base A zs) (hb : base' ≤ base) : RF w base' A zs := ⟨h.1, fun b e => Nat.le_trans hb (h.2 b e)⟩
theorem RF.grown (h : RF w base A zs) (hg : w.grownBy w' row) (hr : ∀ k, row = some k → k < base) : RF w' base A zs :=
  ⟨(RD.grown h.1 (Nat.le_refl _) hg (fun b e e' => by have := h.2 b e; have := hr b e'; omega)).mono hg.size, h.2⟩
theorem RF.pick (h : RF w base A zs) (hg : w.grownBy w' (some g)) (hr : g < base) : RF w' base A zs := h.grown hg (fun k e => by injection e with e; omega)
theorem RF.alloc (h : RF w base A zs) (o : Obj) : RF (w.alloc o) base A zs := h.grown (World.grownBy_alloc w o none) (fun k e => by cases e)
theorem RF.drew1 (h : RF w base A zs) : RF w.drew base A zs := h
theorem RF.set (h : RF w base A zs) (b : Nat) (u : Value) (hb : b < base) : RF (w.setCell ⟨b, 0, none⟩ u) base A zs := h.grown (grown_one w b u) (fun k e => by injection e with e; omega)
theorem RF.to (h : RF w base A zs) (hb : Below w.heap.size w w') : RF w' base A zs := ⟨h.1.to hb, h.2⟩
end
theorem IR.rf {w : World} {base : Nat} {A : Option Addr} {c : Nat} {zs : List Int} (h : IR w base A c zs) : RF w base A zs := ⟨h.rd, fun b e => (h.span b e).1⟩
/-- a drawn list. -/
def DrawL (B g : Nat) (p : Int) (k : Nat) (w : World) (e : Ending) (w' : World) : Prop := ∃ (ns : List Int) (A : Option Addr) (c : Nat) (p' : Int), ns.length ≤ 8 ∧ (∀ x ∈ ns, -1 ≤ x ∧ x ≤ 1000000001) ∧ p ≤ p' ∧ p' ≤ p + k ∧
  e = .returned (.slice A ns.length c) ∧ RF w' w.heap.size A ns ∧ Rdr w' B g p' ∧ w.grownBy w' (some g)
/-- the state of the drawing of an amount. -/
structure AS (w : World) (B g : Nat) (p : Int) (v : Value) (d : List Int) (A : Option Addr) (c : Nat) (wr : World) : Prop where
  box : wr.heap[w.heap.size]? = some (.cells #[v] 25 (0, 0))
  row : IR wr (w.heap.size + 1) A c d
  rdr : Rdr wr B g p
  old : w.grownBy wr (some g)
  glt : g < w.heap.size
section
variable {w wr w2 w3 : World} {B g : Nat} {p p' : Int} {v : Value} {d d3 : List Int} {A A3 : Option Addr} {c c3 : Nat}
theorem AS.lt (h : AS w B g p v d A c wr) : w.heap.size < wr.heap.size := (Array.getElem?_eq_some_iff.1 h.box).1
theorem AS.cell (h : AS w B g p v d A c wr) : wr.cell? ⟨w.heap.size, 0, none⟩ = some v := (box_cell2 h.box).1
theorem AS.far (h : AS w B g p v d A c wr) : ∀ b, A.map (·.block) = some b → w.heap.size + 1 ≤ b ∧ b < wr.heap.size := h.row.span
theorem AS.pick (h : AS w B g p v d A c wr) (hr : Rdr w2 B g p') (hg : wr.grownBy w2 (some g)) : AS w B g p' v d A c w2 := by
  have hl := h.lt
  have hgl := h.glt
  have hf := h.far
  exact ⟨(hg.block _ (by omega) (by simp; omega)).trans h.box, h.row.grown' hg (fun b e e' => by have := hf b e; injection e' with e'; omega), hr, h.old.trans hg, hgl⟩
theorem AS.alloc (h : AS w B g p v d A c wr) (o : Obj) : AS w B g p v d A c (wr.alloc o) :=
  ⟨(Below.heap_alloc wr o _ h.lt).trans h.box, h.row.alloc o, h.rdr.alloc o, h.old.trans (World.grownBy_alloc wr o _), h.glt⟩
theorem AS.push (h : AS w B g p v d A c wr) (hi : IR w3 (w.heap.size + 1) A3 c3 d3) (hg : wr.grownBy w3 (A.map (·.block))) : AS w B g p v d3 A3 c3 w3 := by
  have hl := h.lt
  have hgl := h.glt
  have hf := h.far
  have hB := h.rdr.lt
  exact ⟨(hg.block _ (by omega) (fun e => by have := hf _ e.symm; omega)).trans h.box, hi, h.rdr.grown hg (fun k e => by have := hf k e; omega), grown_far (base := 0) h.old hg (fun b e => by have := hf b e; omega), hgl⟩
theorem AS.set0 {ab : Nat} (h : AS w B g p v d (some ⟨ab, 0, none⟩) c wr) (z : Int) : AS w B g p v (d.set 0 z) (some ⟨ab, 0, none⟩) c (wr.setCell ⟨ab, 0, none⟩ (.int .i64 z)) := by
  have hf := h.far ab rfl
  have hB := h.rdr.lt
  have hgl := h.glt
  refine ⟨?_, IR.set h.row 0 z, h.rdr.grown (grown_one wr _ _) (fun k e => by injection e with e; omega), grown_set h.old (by omega) _, hgl⟩
  rw [Below.heap_setCell wr _ _ _ (by simp; omega)]; exact h.box
theorem AS.end_ {k : Nat} (h : AS w B g p' v d A c wr) (hl : d.length ≤ 8) (ha : ∀ x ∈ d, -1 ≤ x ∧ x ≤ 1000000001) (h1 : p ≤ p') (h2 : p' ≤ p + k) : DrawL B g p k w (.returned (.slice A d.length c)) wr :=
  ⟨d, A, c, p', hl, ha, h1, h2, rfl, h.row.rf.mono (by omega), h.rdr, h.old⟩
end
theorem lit_far0 {w w2 : World} {g : Nat} (zs : List Int) (cs : Array Value) (hcs : cs.toList = zs.map (Value.int .i64)) (hg : (w.alloc (.cells cs 3)).grownBy w2 (some g)) (hgl : g < w.heap.size) (k : Nat) (hk : k < zs.length) : w2.cell? ⟨w.heap.size, k, none⟩ = some (.int .i64 (ix zs k)) := by
  rw [← lit_cell w zs cs hcs k hk]
  exact World.cell?_of_block (hg.block _ (by simp) (by simp; omega))
def litA : List Int := [-1, 1000000000, 1000000001]
theorem litA_bd {k : Nat} (h : k < 3) : -1 ≤ ix litA k ∧ ix litA k ≤ 1000000001 := by
  have : k = 0 ∨ k = 1 ∨ k = 2 := by omega
  rcases this with h | h | h <;> subst h <;> decide
theorem set0_bd' {rs : List Int} {z : Int} (h : ∀ x ∈ rs, -1 ≤ x ∧ x ≤ 1000000001) (hz : -1 ≤ z ∧ z ≤ 1000000001) : ∀ x ∈ rs.set 0 z, -1 ≤ x ∧ x ≤ 1000000001 := by
  intro x hx
  rcases List.mem_or_eq_of_mem_set hx with h1 | h1
  · exact h x h1
  · rw [h1]; exact hz
theorem as_start {w : World} {B g : Nat} {p : Int} (h : Rdr w B g p) (v : Value) : AS w B g p v [] (some ⟨w.heap.size + 1, 0, none⟩) 0 ((w.alloc (.cells #[v] 25)).alloc (.cells #[] 3)) := by
  have hl := h.lt
  refine ⟨?_, ?_, (h.alloc _).alloc _, (World.grownBy_alloc _ _ _).trans (World.grownBy_alloc _ _ _), hl.2⟩
  · rw [Below.heap_alloc _ _ _ (by simp)]; exact heap_alloc_new w _
  · have := ir_mt (w.alloc (.cells #[v] 25))
    simpa using this
/-- the list without its first number. -/
theorem tail_rd {w : World} {B b off : Nat} {x : Int} {d : List Int} (h : RD .i64 w B (some ⟨b, off, none⟩) (x :: d)) : RD .i64 w B (some ⟨b, off + 1, none⟩) d := fun hn => by
  obtain ⟨b', off', e, hb, hc⟩ := h (by simp)
  injection e with e
  injection e with e1 e2
  subst e1 e2
  refine ⟨b, off + 1, rfl, hb, fun i hi => ?_⟩
  have := hc (i + 1) (by simp; omega)
  rw [show off + 1 + i = off + (i + 1) by omega, this]
  simp [ix]

set_option maxHeartbeats 2000000 in
theorem l92Amount_any (B g : Nat) (p : Int) (M : Option Addr) (cm : Nat) (rs : List Int) (w : World) (h : Rdr w B g p) (hl7 : rs.length ≤ 7) (p0 : 0 ≤ p) (p1 : p ≤ 900000) :
    Calls Tryd.prog 22 #[.pointer (some ⟨g, 0, none⟩), .agg #[.slice M rs.length cm]] w (DrawL B g p 12 w) := by
  have hl := h.lt
  have HS := Lib.hid (as_start h (.slice M rs.length cm))
  go_enter Tryd.func22, Tryd.ntmps22
  go_wp2_with fail
  go_loopw [5, 6] (fun s i wr => ∃ (k : Nat) (d : List Int) (A : Option Addr) (c : Nat), k ≤ rs.length + 1 ∧ i = .int .i64 k ∧ s = .slice A d.length c ∧ Hid (d.length = k) ∧ Hid (∀ x ∈ d, -1 ≤ x ∧ x ≤ 1000000001) ∧ AS w B g (p + k) (.slice M rs.length cm) d A c wr) (fun _ i _ => rs.length + 1 - (intOf i).toNat)
  case atStart => exact ⟨0, [], _, _, Nat.zero_le _, rfl, rfl, rfl, by simp [Hid], by simpa using HS.out⟩
  case round =>
    obtain ⟨k, d, A, c, hk, rfl, rfl, HL, HA, hs⟩ := hrel
    have hdl : d.length ≤ 8 := by rw [HL.out]; omega
    have hc0 := hs.cell
    have hlt0 := hs.lt
    by_cases hlt : k ≤ rs.length
    · have hle : decide (k ≤ rs.length) = true := by simp [hlt]
      go_wp2_with fail
      refine (pick_any B g (p + k) 30 _ hs.rdr (by omega) (by omega) (by omega) (by omega)).mono ?_
      rintro e w2 ⟨x, x0, x1, rfl, hr2, hg2⟩
      have hs2 := hs.pick hr2 hg2
      clear hr2 hg2
      go_wp2_with (at_builtin; refine wpList_push rfl _ _ rfl (w.heap.size + 1) A c d _ rfl rfl hs2.row _ rfl (by simp) (by omega) (by have := hs2.lt; omega) ?_; intro A' c' w3 hown3 hg3 hb3 hout3; have hs3 := hs2.push hown3 hg3)
      go_roundw
      case rel =>
        refine ⟨k + 1, d ++ [x], A', c', by omega, by go_num, by simp, by show _ = _; simp [HL.out], ?_, by rw [show p + ((k + 1 : Nat) : Int) = p + k + 1 by omega]; exact hs3⟩
        intro y hy
        rcases List.mem_append.1 hy with hy | hy
        · exact HA.out y hy
        · rw [List.mem_singleton] at hy; subst hy; omega
      case measure => simp [intOf] <;> omega
    · have hk1 : k = rs.length + 1 := by omega
      have hdp : 0 < d.length := by rw [HL.out]; omega
      obtain ⟨ab, rfl, hab1, hab2, hcc, -, hcell, hfro⟩ := hs.row.form hdp
      have hcell0 := hcell 0 hdp
      have hfro0 := hfro 0
      clear hcell hfro
      have HK := Lib.hid hk1
      clear hk1
      go_wp2_with fail
      refine (pick_any B g (p + k) 40 _ hs.rdr (by omega) (by omega) (by omega) (by omega)).mono ?_
      rintro e w2 ⟨y, y0, y1, rfl, hr2, hg2⟩
      have hs2 := hs.pick hr2 hg2
      have hs2l := hs2.lt
      clear hr2 hg2
      by_cases yc : y = 0
      · subst yc
        have hgw : g < w2.heap.size := by have := hs2.glt; omega
        go_wp2_with fail
        refine (pick_any B g (p + k + 1) 3 _ (hs2.alloc _).rdr (by omega) (by omega) (by omega) (by omega)).mono ?_
        rintro e w3 ⟨x, x0, x1, rfl, hr3, hg3⟩
        obtain ⟨x, rfl⟩ := Int.eq_ofNat_of_zero_le x0
        have hx3 : x < 3 := by omega
        have hs3 := (hs2.alloc _).pick hr3 hg3
        have hcl := lit_far0 litA _ rfl hg3 hgw x hx3
        have HBD := Lib.hid (litA_bd hx3)
        obtain ⟨hac, haf⟩ := made_cell (w := w) (hs3.row.mono (by omega)) 0 hdp
        have hal := (hs3.far ab rfl).2
        clear hr3 hg3
        go_wp2_with fail
        go_ret
        have hfin := (hs3.set0 (ix litA x)).end_ (p := p) (k := 12) (by rw [List.length_set]; omega) (set0_bd' HA.out HBD.out) (by omega) (by omega)
        rw [List.length_set] at hfin
        exact hfin
      · have yc' : (y == 0) = false := beq_eq_false_iff_ne.2 yc
        by_cases yd : y = 1
        · subst yd
          have hc1 : (1 : Int) ≤ c := by omega
          have hd1 : (1 : Int) ≤ d.length := by omega
          obtain ⟨x, d', hxd⟩ : ∃ x d', d = x :: d' := by cases d with | nil => simp at hdp | cons x d' => exact ⟨x, d', rfl⟩
          subst hxd
          by_cases hcap : c = 1
          · subst hcap
            obtain rfl : d' = [] := by cases d' with | nil => rfl | cons a l => simp at hcc
            go_wp2_with fail
            go_ret
            exact ⟨[], _, _, p + k + 1, by simp, by simp, by omega, by omega, rfl, ⟨RD.nil, fun b e => by simp at e; omega⟩, hs2.rdr, hs2.old⟩
          · have hcap' : ¬ (c : Int) = 1 := by omega
            go_wp2_with fail
            go_ret
            have hrd := tail_rd hs2.row.rd
            exact ⟨d', some ⟨ab, 1, none⟩, c - 1, p + k + 1, by simp at hdl; omega, fun z hz => HA.out z (by simp [hz]), by omega, by omega, by simp, ⟨by simpa using hrd, fun b e => by simp at e; omega⟩, hs2.rdr, hs2.old⟩
        · have yd' : (y == 1) = false := beq_eq_false_iff_ne.2 yd
          clear yc yd
          go_wp2_with fail
          go_ret
          exact hs2.end_ hdl HA.out (by omega) (by omega)

theorem Sl.new {k : IntKind} {w : World} {a : Option Addr} {len cap : Nat} {zs : List Int} (h : Sl k w a len cap zs) (o : Obj) : Sl k (w.alloc o) a len cap zs :=
  ⟨h.1, h.2.1, h.2.2.1, h.2.2.2.1.new o, h.2.2.2.2⟩
/-- a drawn measure and a drawn list. -/
structure OneIs (w : World) (B g : Nat) (p' : Int) (rs ns : List Int) (A A2 : Option Addr) (w' : World) : Prop where
  rl : rs.length ≤ 7
  rb : ∀ x ∈ rs, 1 ≤ x ∧ x ≤ 101
  nl : ns.length ≤ 8
  nb : ∀ x ∈ ns, -1 ≤ x ∧ x ≤ 1000000001
  rr : RF w' w.heap.size A rs
  nr : RF w' w.heap.size A2 ns
  rdr : Rdr w' B g p'
  old : w.grownBy w' (some g)
def DrawOne (B g : Nat) (p : Int) (k : Nat) (w : World) (e : Ending) (w' : World) : Prop := ∃ (rs ns : List Int) (A A2 : Option Addr) (c c2 : Nat) (p' : Int), p ≤ p' ∧ p' ≤ p + k ∧
  e = .returned (.tuple #[.agg #[.slice A rs.length c], .slice A2 ns.length c2]) ∧ OneIs w B g p' rs ns A A2 w'
theorem blk_grown {w w' : World} {b : Nat} {t : TypeId} {v : Value} {row : Option Nat} (h : w.heap[b]? = some (.cells #[v] t (0, 0))) (hg : w.grownBy w' row) (hne : ∀ k, row = some k → k ≠ b) : w'.heap[b]? = some (.cells #[v] t (0, 0)) :=
  (hg.block b (Array.getElem?_eq_some_iff.1 h).1 (fun e => hne b e.symm rfl)).trans h
theorem blk_pick {w w' : World} {b g : Nat} {t : TypeId} {v : Value} (h : w.heap[b]? = some (.cells #[v] t (0, 0))) (hg : w.grownBy w' (some g)) (hne : g < b) : w'.heap[b]? = some (.cells #[v] t (0, 0)) :=
  blk_grown h hg (fun k e => by injection e with e; omega)
theorem blk_alloc {w : World} {b : Nat} {t : TypeId} {v : Value} (h : w.heap[b]? = some (.cells #[v] t (0, 0))) (o : Obj) : (w.alloc o).heap[b]? = some (.cells #[v] t (0, 0)) :=
  (Below.heap_alloc w o b (Array.getElem?_eq_some_iff.1 h).1).trans h

set_option maxHeartbeats 2000000 in
theorem l92One_any (B g : Nat) (p : Int) (w : World) (h : Rdr w B g p) (p0 : 0 ≤ p) (p1 : p ≤ 800000) :
    Calls Tryd.prog 13 #[.pointer (some ⟨g, 0, none⟩)] w (DrawOne B g p 21 w) := by
  have hl := h.lt
  have HR := Lib.hid h
  go_enter Tryd.func13, Tryd.ntmps13
  go_wp2_with fail
  refine (l92Measure_any B g p _ (HR.out.alloc _) p0 (by omega)).mono ?_
  rintro e w1 ⟨rs, A, c, p', hrl, hrb, hp1, hp2, rfl, hi1, hr1, hg1⟩
  have b1 := blk_pick (heap_alloc_new w (.cells #[.slice none 0 0] 25)) hg1 hl.2
  have hs1 : w.heap.size < w1.heap.size := (Array.getElem?_eq_some_iff.1 b1).1
  have f1 := hi1.rf
  have HRB := Lib.hid hrb
  clear hrb
  have o1 : w.grownBy w1 (some g) := (World.grownBy_alloc _ _ _).trans hg1
  go_wp2_with fail
  have hr2 : Rdr (w1.alloc (.cells #[.slice A rs.length c] 25)).drew B g p' := hr1.alloc _
  have b2 : (w1.alloc (.cells #[.slice A rs.length c] 25)).drew.heap[w.heap.size]? = some (.cells #[.slice none 0 0] 25 (0, 0)) := blk_alloc b1 _
  have m2 : (w1.alloc (.cells #[.slice A rs.length c] 25)).drew.heap[w1.heap.size]? = some (.cells #[.slice A rs.length c] 25 (0, 0)) := heap_alloc_new w1 _
  have f2 : RF (w1.alloc (.cells #[.slice A rs.length c] 25)).drew _ A rs := (f1.alloc _).drew1
  have o2 : w.grownBy (w1.alloc (.cells #[.slice A rs.length c] 25)).drew (some g) := by
    have := o1.trans (World.grownBy_alloc w1 (.cells #[.slice A rs.length c] 25) (some g))
    exact ⟨this.os, this.tape, this.output, this.size, this.block⟩
  have s2 := (box_cell2 m2).1
  have hne1 : w1.heap.size ≠ w.heap.size := by omega
  have hne2 := hne1.symm
  go_region_held3 (fun w' => w'.cell? ⟨w1.heap.size, 0, none⟩ = some (.slice A rs.length c)) (first | assumption | go_keep) (first | (go_at_call 22; refine (l92Amount_any B g p' A c rs _ hr2 hrl (by omega) (by omega)).mono ?_; rintro e w3 ⟨ns, A2, c2, p'', hnl, hnb, hp3, hp4, rfl, f3, hr3, hg3⟩; have HNB := Lib.hid hnb; clear hnb; have b3 := blk_pick b2 hg3 hl.2; have m3 := blk_pick m2 hg3 (Nat.lt_trans hl.2 hs1); have s3 := (box_cell2 m3).1; obtain ⟨c3, fr3⟩ := box_cell2 b3))
  go_wp2_with fail
  have hra := after_set0 b3 (.slice A rs.length c)
  refine bodyPost_ret (v := .tuple #[.agg #[.slice A rs.length c], .slice A2 ns.length c2]) (by simp [results, Tryd.results13, go_sem, hra]) rfl ?_
  refine ⟨rs, ns, A, A2, c, c2, p'', by omega, by omega, rfl, ⟨hrl, HRB.out, hnl, HNB.out, ?_, ?_, ?_, ?_⟩⟩
  · exact ((f2.pick hg3 (by simp; omega)).set _ _ (by simp)).mono (by simp)
  · exact (f3.set _ _ (by simp; omega)).mono (by simp; omega)
  · exact hr3.grown (grown_one w3 _ _) (fun k e => by injection e with e; omega)
  · exact grown_set (o2.trans hg3) (Nat.le_refl _) _

end Go.Proofs.YticnnfmmfjfffaaDoor
