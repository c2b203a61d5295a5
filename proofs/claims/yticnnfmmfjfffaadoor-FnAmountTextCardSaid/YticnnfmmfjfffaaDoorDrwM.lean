/- The walks of the draws of measures and amounts. No condition but bounds. -/
import Derived.Test.YticnnfmmfjfffaaDoorDrw
import Derived.Test.YticnnfmmfjfffaaDoorMeaS
import Derived.Deep.RegionHeld3
namespace Go.Proofs.YticnnfmmfjfffaaDoor
open Go.RowKit
set_option linter.unusedVariables false

/-- what 'append(xs, z)' does, as a step of a region that draws its order. -/
theorem step_push {w : World} {z : Int} {ops : Array Oper} {o : Oper} {a : Act} {K : Act → World → Prop} {Q : Exit → Act → World → Prop} {E : Prop} (hgd : o.guard = none) (s x : Operand)
    (ho : o.op = .call { callee := .builtin .append, args := #[s, x], argTypes := #[23, 23] })
    (B : Nat) (A : Option Addr) (c : Nat) (zs : List Int) (n : Nat) (hn : n = zs.length) (hs : a.eval s = .slice A n c) (hown : IR w B A c zs)
    (sz : Nat) (hx : a.eval x = .slice (some ⟨sz, 0, none⟩) 1 1) (hz : w.cell? ⟨sz, 0, none⟩ = some (.int .i64 z)) (hlen : zs.length < 2000000) (hB : B ≤ w.heap.size)
    (h : ∀ A' c' w', IR w' B A' c' (zs ++ [z]) → w.grownBy w' (A.map (·.block)) → (A'.map (·.block) = A.map (·.block) ∨ A'.map (·.block) = some w.heap.size) → K (a.put o.dst (.slice A' (zs.length + 1) c')) w') :
    if Region.wanted o (yielded ops a.tmps) = true then Oper.wp Tryd.prog o a w K Q else E := by
  subst hn
  obtain ⟨i0, hi0, hz0, hz1, hz2⟩ := info_parts int_info
  refine step_append_lies w hgd s x 23 ho B 3 i0 _ 1 8 Tryd.underlying23 hi0 hz0 hz1 hz2 rfl (by omega) _ zs.length _ hs hown ⟨sz, 0, none⟩ 1 1 [.int .i64 z] hx (by simp) ?_ (by simp [Value.oneCell']) (by omega) (by simp only [maxLen]; omega) (by omega) hB _ rfl ?_
  · intro j u hu
    cases j with
    | zero => simp at hu; subst hu; simpa [Addr.add] using hz
    | succ j => simp at hu
  · intro g' cap w' hown' hg hat hlt
    rw [ownBlock_slice] at hg hat
    refine h _ _ w' ?_ hg ?_
    · unfold IR; rw [List.length_append, List.map_append]; exact hown'
    · rcases hat with e | e
      · left; rw [e]; rfl
      · right; rw [e]; rfl

/-- block mb is a struct of one list, which lies in a row of its own. -/
def MB (w : World) (base mb : Nat) (t : TypeId) (A : Option Addr) (c : Nat) (rs : List Int) : Prop :=
  w.heap[mb]? = some (.cells #[.slice A rs.length c] t (0, 0)) ∧ IR w base A c rs ∧ (∀ b, A.map (·.block) = some b → b ≠ mb)
section
variable {w w' : World} {base mb : Nat} {t : TypeId} {A : Option Addr} {c : Nat} {rs : List Int}
theorem MB.lt (h : MB w base mb t A c rs) : mb < w.heap.size := (Array.getElem?_eq_some_iff.1 h.1).1
theorem MB.cell (h : MB w base mb t A c rs) : w.cell? ⟨mb, 0, none⟩ = some (.slice A rs.length c) := by
  have := cell_of_row w mb 0 _ _ _ h.1; simpa using this
theorem MB.free (h : MB w base mb t A c rs) : w.frozen? ⟨mb, 0, none⟩ = false := by simp [World.frozen?, h.1]
theorem MB.grown {row : Option Nat} (h : MB w base mb t A c rs) (hg : w.grownBy w' row) (hm : row ≠ some mb) (hr : ∀ b, A.map (·.block) = some b → row ≠ some b) : MB w' base mb t A c rs :=
  ⟨(hg.block mb h.lt (fun e => hm e.symm)).trans h.1, h.2.1.grown' hg hr, h.2.2⟩
theorem MB.alloc (h : MB w base mb t A c rs) (o : Obj) : MB (w.alloc o) base mb t A c rs :=
  h.grown (World.grownBy_alloc w o none) (by simp) (by simp)
theorem MB.drew1 (h : MB w base mb t A c rs) : MB w.drew base mb t A c rs := h
/-- what is left of the box where its row has grown. -/
theorem MB.app (h : MB w base mb t A c rs) (hg : w.grownBy w' (A.map (·.block))) : w'.heap[mb]? = some (.cells #[.slice A rs.length c] t (0, 0)) :=
  (hg.block mb h.lt (fun e => h.2.2 mb e.symm rfl)).trans h.1
end
theorem box_cell2 {w : World} {mb : Nat} {t : TypeId} {v : Value} (h : w.heap[mb]? = some (.cells #[v] t (0, 0))) : w.cell? ⟨mb, 0, none⟩ = some v ∧ w.frozen? ⟨mb, 0, none⟩ = false := by
  have := cell_of_row w mb 0 _ _ _ h
  exact ⟨by simpa using this, by simp [World.frozen?, h]⟩
theorem MB.store {w : World} {base mb : Nat} {t : TypeId} {v : Value} {A : Option Addr} {c : Nat} {rs : List Int} (h : w.heap[mb]? = some (.cells #[v] t (0, 0))) (hi : IR w base A c rs) (hne : ∀ b, A.map (·.block) = some b → b ≠ mb) (n : Nat) (hn : n = rs.length) :
    MB (w.setCell ⟨mb, 0, none⟩ (.slice A n c)) base mb t A c rs := by
  subst hn
  refine ⟨by simp [World.setCell, Array.getElem?_modify, h], hi.grown' (row := some mb) ⟨rfl, rfl, rfl, by simp [World.setCell], fun k hk hne2 => Below.heap_setCell w _ _ k (by rintro rfl; exact hne2 rfl)⟩ (fun b e e' => ?_), hne⟩
  injection e' with e'
  exact hne b e e'.symm
theorem grown_set {w w' : World} {g mb : Nat} (h : w.grownBy w' (some g)) (hm : w.heap.size ≤ mb) (u : Value) : w.grownBy (w'.setCell ⟨mb, 0, none⟩ u) (some g) :=
  ⟨h.os, h.tape, h.output, by simpa [World.setCell] using h.size, fun k hk hne => (Below.heap_setCell w' _ u k (by simp; omega)).trans (h.block k hk hne)⟩
theorem grown_far {w w1 w2 : World} {g : Nat} {A : Option Addr} {base : Nat} (h : w.grownBy w1 (some g)) (hg : w1.grownBy w2 (A.map (·.block))) (hA : ∀ b, A.map (·.block) = some b → w.heap.size ≤ b) : w.grownBy w2 (some g) :=
  ⟨hg.os.trans h.os, hg.tape.trans h.tape, hg.output.trans h.output, Nat.le_trans h.size hg.size, fun k hk hne => (hg.block k (by have := h.size; omega) (fun e => by have := hA k e.symm; omega)).trans (h.block k hk hne)⟩

theorem grown_one (w : World) (mb : Nat) (u : Value) : w.grownBy (w.setCell ⟨mb, 0, none⟩ u) (some mb) :=
  ⟨rfl, rfl, rfl, by simp [World.setCell], fun k hk hne => Below.heap_setCell w _ u k (by rintro rfl; exact hne rfl)⟩
/-- the state of the drawing of a measure. -/
structure MS (w : World) (B g : Nat) (p : Int) (rs : List Int) (A : Option Addr) (c : Nat) (wr : World) : Prop where
  mb : MB wr (w.heap.size + 1) (w.heap.size + 1 + 1) 25 A c rs
  res : wr.heap[w.heap.size]? = some (.cells #[.slice none 0 0] 25 (0, 0))
  rdr : Rdr wr B g p
  old : w.grownBy wr (some g)
  glt : g < w.heap.size
section
variable {w wr w2 w3 : World} {B g : Nat} {p p' : Int} {rs rs3 : List Int} {A A3 : Option Addr} {c c3 : Nat}
theorem MS.lt (h : MS w B g p rs A c wr) : w.heap.size + 1 + 1 < wr.heap.size := h.mb.lt
theorem MS.far (h : MS w B g p rs A c wr) : ∀ b, A.map (·.block) = some b → w.heap.size + 1 ≤ b ∧ b < wr.heap.size := h.mb.2.1.span
theorem MS.pick (h : MS w B g p rs A c wr) (hr : Rdr w2 B g p') (hg : wr.grownBy w2 (some g)) : MS w B g p' rs A c w2 := by
  have hl := h.lt
  have hgl := h.glt
  have hf := h.far
  refine ⟨h.mb.grown hg (by simp; omega) (fun b e e' => by have := hf b e; injection e' with e'; omega), (hg.block _ (by omega) (by simp; omega)).trans h.res, hr, h.old.trans hg, hgl⟩
theorem MS.alloc (h : MS w B g p rs A c wr) (o : Obj) : MS w B g p rs A c (wr.alloc o) :=
  ⟨h.mb.alloc o, (Below.heap_alloc wr o _ (by have := h.lt; omega)).trans h.res, h.rdr.alloc o, h.old.trans (World.grownBy_alloc wr o _), h.glt⟩
theorem MS.drew1 (h : MS w B g p rs A c wr) : MS w B g p rs A c wr.drew := ⟨h.mb, h.res, h.rdr, ⟨h.old.os, h.old.tape, h.old.output, h.old.size, h.old.block⟩, h.glt⟩
theorem MS.box (h : MS w B g p rs A c wr) (hg : wr.grownBy w3 (A.map (·.block))) : w3.heap[w.heap.size + 1 + 1]? = some (.cells #[.slice A rs.length c] 25 (0, 0)) := h.mb.app hg
theorem MS.resApp (h : MS w B g p rs A c wr) (hg : wr.grownBy w3 (A.map (·.block))) : w3.heap[w.heap.size]? = some (.cells #[.slice none 0 0] 25 (0, 0)) := by
  have hl := h.lt
  have hf := h.far
  exact (hg.block _ (by omega) (fun e => by have := hf _ e.symm; omega)).trans h.res
theorem MS.push (h : MS w B g p rs A c wr) (hi : IR w3 (w.heap.size + 1) A3 c3 rs3) (hg : wr.grownBy w3 (A.map (·.block))) (hat : A3.map (·.block) = A.map (·.block) ∨ A3.map (·.block) = some wr.heap.size) (n : Nat) (hn : n = rs3.length) :
    MS w B g p rs3 A3 c3 (w3.setCell ⟨w.heap.size + 1 + 1, 0, none⟩ (.slice A3 n c3)) := by
  have hl := h.lt
  have hgl := h.glt
  have hf := h.far
  have hB := h.rdr.lt
  have hr3 : Rdr w3 B g p := h.rdr.grown hg (fun k e => by have := hf k e; omega)
  refine ⟨MB.store (h.box hg) hi ?_ n hn, ?_, ?_, ?_, hgl⟩
  · intro b e
    rcases hat with e1 | e1
    · exact h.mb.2.2 b (e1 ▸ e)
    · rw [e1] at e; injection e with e; omega
  · rw [Below.heap_setCell w3 _ _ _ (by simp; omega)]
    exact (hg.block _ (by omega) (fun e => by have := hf _ e.symm; omega)).trans h.res
  · exact hr3.grown (grown_one w3 _ _) (fun k e => by injection e with e; omega)
  · exact grown_set (grown_far (base := 0) h.old hg (fun b e => by have := hf b e; omega)) (by omega) _
end

def lit7 : List Int := [20, 12, 4, 2, 16, 60, 3]
def lit3 : List Int := [1, 101, 100]
theorem lit7_bd {k : Nat} (h : k < 7) : 1 ≤ ix lit7 k ∧ ix lit7 k ≤ 101 := by
  have : k = 0 ∨ k = 1 ∨ k = 2 ∨ k = 3 ∨ k = 4 ∨ k = 5 ∨ k = 6 := by omega
  rcases this with h | h | h | h | h | h | h <;> subst h <;> decide
theorem lit3_bd {k : Nat} (h : k < 3) : 1 ≤ ix lit3 k ∧ ix lit3 k ≤ 101 := by
  have : k = 0 ∨ k = 1 ∨ k = 2 := by omega
  rcases this with h | h | h <;> subst h <;> decide
/-- the cells of a literal list. -/
def litC (zs : List Int) : Array Value := (zs.map (Value.int .i64)).toArray
theorem lit_cell (w : World) (zs : List Int) (cs : Array Value) (hcs : cs.toList = zs.map (Value.int .i64)) (k : Nat) (hk : k < zs.length) : (w.alloc (.cells cs 3)).cell? ⟨w.heap.size, k, none⟩ = some (.int .i64 (ix zs k)) := by
  have h := cell_of_row (w.alloc (.cells cs 3)) w.heap.size k cs 3 (0, 0) (heap_alloc_new w _)
  rw [h, ← Array.getElem?_toList, hcs, List.getElem?_map, ix_some zs hk]
  rfl
theorem lit_far {w w2 : World} {g : Nat} (zs : List Int) (cs : Array Value) (hcs : cs.toList = zs.map (Value.int .i64)) (hg : (w.alloc (.cells cs 3)).drew.grownBy w2 (some g)) (hgl : g < w.heap.size) (k : Nat) (hk : k < zs.length) : w2.cell? ⟨w.heap.size, k, none⟩ = some (.int .i64 (ix zs k)) := by
  rw [← lit_cell w zs cs hcs k hk]
  exact World.cell?_of_block (hg.block _ (by simp) (by simp; omega))

/-- a drawn measure. -/
def DrawM (B g : Nat) (p : Int) (k : Nat) (w : World) (e : Ending) (w' : World) : Prop := ∃ (rs : List Int) (A : Option Addr) (c : Nat) (p' : Int), rs.length ≤ 7 ∧ (∀ x ∈ rs, 1 ≤ x ∧ x ≤ 101) ∧ p ≤ p' ∧ p' ≤ p + k ∧
  e = .returned (.agg #[.slice A rs.length c]) ∧ IR w' w.heap.size A c rs ∧ Rdr w' B g p' ∧ w.grownBy w' (some g)

theorem ms_start {w w1 : World} {B g : Nat} {p p' : Int} (h : Rdr w B g p)
    (hr : Rdr w1 B g p') (hg : (((w.alloc (.cells #[.slice none 0 0] 25)).alloc (.cells #[] 3)).alloc (.cells #[.slice (some ⟨w.heap.size + 1, 0, none⟩) 0 0] 25)).grownBy w1 (some g)) :
    MS w B g p' [] (some ⟨w.heap.size + 1, 0, none⟩) 0 w1 := by
  have hl := h.lt
  have h0 : MS w B g p [] (some ⟨w.heap.size + 1, 0, none⟩) 0 (((w.alloc (.cells #[.slice none 0 0] 25)).alloc (.cells #[] 3)).alloc (.cells #[.slice (some ⟨w.heap.size + 1, 0, none⟩) 0 0] 25)) := by
    refine ⟨⟨?_, ?_, ?_⟩, ?_, ((h.alloc _).alloc _).alloc _, ((World.grownBy_alloc _ _ _).trans (World.grownBy_alloc _ _ _)).trans (World.grownBy_alloc _ _ _), hl.2⟩
    · have := heap_alloc_new ((w.alloc (.cells #[.slice none 0 0] 25)).alloc (.cells #[] 3)) (.cells #[.slice (some ⟨w.heap.size + 1, 0, none⟩) 0 0] 25)
      simpa using this
    · have := ir_mt (w.alloc (.cells #[.slice none 0 0] 25))
      simpa using this.alloc (.cells #[.slice (some ⟨w.heap.size + 1, 0, none⟩) 0 0] 25)
    · intro b e; simp at e; omega
    · rw [Below.heap_alloc _ _ _ (by simp <;> omega), Below.heap_alloc _ _ _ (by simp)]
      exact heap_alloc_new w _
  exact h0.pick hr hg

theorem ms_end {w wr : World} {B g : Nat} {p p' : Int} {k : Nat} {rs : List Int} {A : Option Addr} {c : Nat} (h : MS w B g p' rs A c wr) (hl : rs.length ≤ 7) (ha : ∀ x ∈ rs, 1 ≤ x ∧ x ≤ 101) (h1 : p ≤ p') (h2 : p' ≤ p + k) :
    DrawM B g p k w (.returned (.agg #[.slice A rs.length c])) (wr.setCell ⟨w.heap.size, 0, none⟩ (.slice A rs.length c)) := by
  have hf := h.far
  have hB := h.rdr.lt
  have hgl := h.glt
  refine ⟨rs, A, c, p', hl, ha, h1, h2, rfl, (h.mb.2.1.grown' (grown_one wr _ _) (fun b e e' => ?_)).mono (by omega), h.rdr.grown (grown_one wr _ _) (fun k e => by injection e with e; omega), grown_set h.old (Nat.le_refl _) _⟩
  have := hf b e
  injection e' with e'
  omega
theorem after_set0 {w : World} {b : Nat} {t : TypeId} {v : Value} (h : w.heap[b]? = some (.cells #[v] t (0, 0))) (u : Value) : (w.setCell ⟨b, 0, none⟩ u).cell? ⟨b, 0, none⟩ = some u := by
  have h1 : (w.setCell ⟨b, 0, none⟩ u).heap[b]? = some (.cells #[u] t (0, 0)) := by simp [World.setCell, Array.getElem?_modify, h]
  exact (box_cell2 h1).1
theorem after_set {w : World} {b : Nat} {t : TypeId} {v : Value} (h : w.heap[b]? = some (.cells #[v] t (0, 0))) (u : Value) (o : Obj) : ((w.setCell ⟨b, 0, none⟩ u).alloc o).cell? ⟨b, 0, none⟩ = some u := by
  have h1 : (w.setCell ⟨b, 0, none⟩ u).heap[b]? = some (.cells #[u] t (0, 0)) := by simp [World.setCell, Array.getElem?_modify, h]
  exact (box_cell2 ((Below.heap_alloc _ o b (Array.getElem?_eq_some_iff.1 h1).1).trans h1)).1
theorem DrawM.alloc {B g : Nat} {p : Int} {k : Nat} {w : World} {e : Ending} {w' : World} (h : DrawM B g p k w e w') (o : Obj) : DrawM B g p k w e (w'.alloc o) := by
  obtain ⟨rs, A, c, p', h1, h2, h3, h4, h5, h6, h7, h8⟩ := h
  exact ⟨rs, A, c, p', h1, h2, h3, h4, h5, h6.alloc o, h7.alloc o, h8.trans (World.grownBy_alloc _ _ _)⟩
theorem app4_bd {rs : List Int} (h : ∀ x ∈ rs, 1 ≤ x ∧ x ≤ 101) : ∀ x ∈ rs ++ [2, 2, 2, 2], 1 ≤ x ∧ x ≤ 101 := by
  intro x hx
  rcases List.mem_append.1 hx with h1 | h1
  · exact h x h1
  · simp at h1; omega
theorem set0_bd {rs : List Int} {z : Int} (h : ∀ x ∈ rs, 1 ≤ x ∧ x ≤ 101) (hz : 1 ≤ z ∧ z ≤ 101) : ∀ x ∈ rs.set 0 z, 1 ≤ x ∧ x ≤ 101 := by
  intro x hx
  rcases List.mem_or_eq_of_mem_set hx with h1 | h1
  · exact h x h1
  · rw [h1]; exact hz
theorem MS.set0 {w wr : World} {B g : Nat} {p : Int} {rs : List Int} {ab c : Nat} (h : MS w B g p rs (some ⟨ab, 0, none⟩) c wr) (z : Int) : MS w B g p (rs.set 0 z) (some ⟨ab, 0, none⟩) c (wr.setCell ⟨ab, 0, none⟩ (.int .i64 z)) := by
  have hf := h.far ab rfl
  have hB := h.rdr.lt
  have hgl := h.glt
  have hne := h.mb.2.2 ab rfl
  refine ⟨⟨?_, IR.set h.mb.2.1 0 z, h.mb.2.2⟩, ?_, h.rdr.grown (grown_one wr _ _) (fun k e => by injection e with e; omega), grown_set h.old (by omega) _, hgl⟩
  · rw [Below.heap_setCell wr _ _ _ (by simp; omega), List.length_set]; exact h.mb.1
  · rw [Below.heap_setCell wr _ _ _ (by simp; omega)]; exact h.res
theorem ms_row {w wr : World} {B g : Nat} {p : Int} {rs : List Int} {ab c : Nat} (h : MS w B g p rs (some ⟨ab, 0, none⟩) c wr) (hl : 0 < rs.length) : wr.cell? ⟨ab, 0, none⟩ = some (.int .i64 (ix rs 0)) ∧ wr.frozen? ⟨ab, 0, none⟩ = false ∧ ab < wr.heap.size := by
  obtain ⟨hc, hf⟩ := made_cell (w := w) (by exact h.mb.2.1.mono (by omega)) 0 hl
  exact ⟨hc, hf, (h.far ab rfl).2⟩
/-- what 'append(xs, z, ..)' of a literal does. -/
theorem wpList_apps {w : World} (news : List Int) {ops : Array Oper} {rest : List Oper} {o : Oper} {a : Act} {Q : Exit → Act → World → Prop} (hgd : o.guard = none) (s x : Operand)
    (ho : o.op = .call { callee := .builtin .append, args := #[s, x], argTypes := #[23, 23] })
    (B : Nat) (A : Option Addr) (c : Nat) (zs : List Int) (n : Nat) (hn : n = zs.length) (hs : a.eval s = .slice A n c) (hown : IR w B A c zs)
    (sz m : Nat) (hx : a.eval x = .slice (some ⟨sz, 0, none⟩) m m) (hm : m = news.length) (hz : ∀ j u, (news.map (Value.int .i64))[j]? = some u → w.cell? ⟨sz, j, none⟩ = some u) (hlen : zs.length < 2000000 ∧ 0 < m ∧ m < 1000) (hB : B ≤ w.heap.size)
    (h : ∀ A' c' w', IR w' B A' c' (zs ++ news) → w.grownBy w' (A.map (·.block)) → (A'.map (·.block) = A.map (·.block) ∨ A'.map (·.block) = some w.heap.size) → wpList Tryd.prog ops Q rest (a.put o.dst (.slice A' (zs.length + m) c')) w') :
    wpList Tryd.prog ops Q (o :: rest) a w := by
  subst hn
  subst hm
  obtain ⟨i0, hi0, hz0, hz1, hz2⟩ := info_parts int_info
  refine wpList_append_lies w hgd s x 23 ho B 3 i0 _ 1 8 Tryd.underlying23 hi0 hz0 hz1 hz2 rfl (by omega) _ zs.length _ hs hown ⟨sz, 0, none⟩ news.length news.length (news.map (Value.int .i64)) hx (by simp) ?_ (ints_oneCell _ _) hlen.2.1 (by simp only [maxLen]; omega) (by omega) hB _ rfl ?_
  · intro j u hu
    have ha : (⟨sz, 0, none⟩ : Addr).add j = ⟨sz, j, none⟩ := by unfold Addr.add; split <;> simp_all
    rw [ha]
    exact hz j u hu
  · intro g' cap w' hown' hg hat hlt
    rw [ownBlock_slice] at hg hat
    refine h _ _ w' ?_ hg ?_
    · unfold IR; rw [List.length_append, List.map_append]; exact hown'
    · rcases hat with e | e
      · left; rw [e]; rfl
      · right; rw [e]; rfl
theorem lit4_cells (w : World) : ∀ j u, (([2, 2, 2, 2] : List Int).map (Value.int .i64))[j]? = some u → (w.alloc (.cells #[.int .i64 2, .int .i64 2, .int .i64 2, .int .i64 2] 3)).cell? ⟨w.heap.size, j, none⟩ = some u := by
  intro j u hu
  have h := cell_of_row (w.alloc (.cells #[.int .i64 2, .int .i64 2, .int .i64 2, .int .i64 2] 3)) w.heap.size j _ 3 (0, 0) (heap_alloc_new w _)
  rw [h, ← Array.getElem?_toList]
  exact hu

set_option maxHeartbeats 8000000 in
theorem l92Measure_any (B g : Nat) (p : Int) (w : World) (h : Rdr w B g p) (p0 : 0 ≤ p) (p1 : p ≤ 900000) :
    Calls Tryd.prog 21 #[.pointer (some ⟨g, 0, none⟩)] w (DrawM B g p 9 w) := by
  have hl := h.lt
  have HR := Lib.hid h
  go_enter Tryd.func21, Tryd.ntmps21
  go_wp2_with fail
  refine (pick_any B g p 4 _ (((HR.out.alloc _).alloc _).alloc _) p0 (by omega) (by omega) (by omega)).mono ?_
  rintro e w1 ⟨v, v0, v1, rfl, hr1, hg1⟩
  have hms := ms_start HR.out hr1 hg1
  clear hr1 hg1
  go_wp2_with fail
  go_loopw [5] (fun i wr => ∃ (k : Nat) (rs : List Int) (A : Option Addr) (c : Nat), (k : Int) ≤ v ∧ i = .int .i64 k ∧ Hid (rs.length = k) ∧ Hid (∀ x ∈ rs, 1 ≤ x ∧ x ≤ 101) ∧ MS w B g (p + 1 + k) rs A c wr) (fun i _ => (v - intOf i).toNat)
  case atStart => exact ⟨0, [], _, _, v0, rfl, rfl, by simp [Hid], by simpa using hms⟩
  case round =>
    obtain ⟨k, rs, A, c, hk, rfl, HL, HA, hm⟩ := hrel
    have hrl : rs.length ≤ 3 := by rw [HL.out]; omega
    by_cases hlt : (k : Int) < v
    · have hA := (hm.alloc (.cells #[.int .i64 20, .int .i64 12, .int .i64 4, .int .i64 2, .int .i64 16, .int .i64 60, .int .i64 3] 3)).drew1
      have hB := hm.drew1
      have hml := hm.lt
      have hc0 := hm.mb.cell
      have hB0 : w.heap.size + 1 ≤ wr.heap.size := by omega
      have hgw : g < wr.heap.size := by omega
      go_wp2_with fail
      go_region_law (first
        | (go_simp; go_at_call 29; refine (pick_any B g (p + 1 + k) 7 _ hA.rdr (by omega) (by omega) (by omega) (by omega)).mono ?_; rintro e w2 ⟨x, x0, x1, rfl, hr2, hg2⟩; obtain ⟨x, rfl⟩ := Int.eq_ofNat_of_zero_le x0; have hm2 := hA.pick hr2 hg2; have hx7 : x < 7 := (by omega); have hcl := lit_far lit7 _ rfl hg2 hgw x hx7; have hcm := hm2.mb.cell; have hml2 := hm2.lt; have hml3 : w.heap.size + 1 < w2.heap.size := (by omega); have hml4 : w.heap.size + 1 + 1 < w2.heap.size + 1 := (by omega); have HBD := Lib.hid (lit7_bd hx7))
        | (go_simp; go_at_call 29; refine (pick_any B g (p + 1 + k) 7 _ hB.rdr (by omega) (by omega) (by omega) (by omega)).mono ?_; rintro e w2 ⟨x, x0, x1, rfl, hr2, hg2⟩; obtain ⟨x, rfl⟩ := Int.eq_ofNat_of_zero_le x0; have hm2 := hB.pick hr2 hg2; have hx7 : x < 7 := (by omega); have hcl := lit_cell w2 lit7 #[.int .i64 20, .int .i64 12, .int .i64 4, .int .i64 2, .int .i64 16, .int .i64 60, .int .i64 3] rfl x hx7; have hcm := hm2.mb.cell; have hml2 := hm2.lt; have hml3 : w.heap.size + 1 < w2.heap.size := (by omega); have hml4 : w.heap.size + 1 + 1 < w2.heap.size + 1 := (by omega); have HBD := Lib.hid (lit7_bd hx7))
        | (refine step_push (z := ix lit7 x) (by rfl) _ _ (by rfl) (w.heap.size + 1) A c rs _ rfl (by rfl) (hm2.alloc _).mb.2.1 w2.heap.size (by rfl) (box_cell _ _ _) (by omega) (by simp; omega) ?_; intro A3 c3 w3 hi3 hg3 hat3; have hmW := (hm2.alloc (.cells #[.int .i64 (ix lit7 x)] 3)).push hi3 hg3 hat3 (rs.length + 1) (by simp); obtain ⟨hcx, hfx⟩ := box_cell2 ((hm2.alloc _).box hg3))
        | (refine step_push (z := ix lit7 x) (by rfl) _ _ (by rfl) (w.heap.size + 1) A c rs _ rfl (by rfl) ((hm2.alloc _).alloc _).mb.2.1 (w2.heap.size + 1) (by rfl) (by go_simp) (by omega) (by simp; omega) ?_; intro A3 c3 w3 hi3 hg3 hat3; have hmW := ((hm2.alloc (.cells #[.int .i64 20, .int .i64 12, .int .i64 4, .int .i64 2, .int .i64 16, .int .i64 60, .int .i64 3] 3)).alloc (.cells #[.int .i64 (ix lit7 x)] 3)).push hi3 hg3 hat3 (rs.length + 1) (by simp); obtain ⟨hcx, hfx⟩ := box_cell2 (((hm2.alloc _).alloc _).box hg3)))
      all_goals
        go_wp2_with fail
        go_roundw
        case rel =>
          refine ⟨k + 1, rs ++ [ix lit7 x], A3, c3, by omega, by go_num, by show _ = _; simp [HL.out], ?_, by rw [show p + 1 + ((k + 1 : Nat) : Int) = p + 1 + (k : Int) + 1 by omega]; exact hmW⟩
          intro y hy
          rcases List.mem_append.1 hy with hy | hy
          · exact HA.out y hy
          · rw [List.mem_singleton] at hy; subst hy; exact HBD.out
        case measure => simp [intOf] <;> omega
    · have HK := Lib.hid (show (k : Int) = v by omega)
      have hml := hm.lt
      by_cases hv : 0 < v
      · have hkp : 0 < rs.length := by rw [HL.out]; omega
        obtain ⟨ab, rfl, hab1, hab2, -, -, hcell, hfro⟩ := hm.mb.2.1.form hkp
        have hcell0 := hcell 0 hkp
        have hfro0 := hfro 0
        clear hcell hfro
        go_wp2_with fail
        refine (pick_any B g (p + 1 + k) 40 _ hm.rdr (by omega) (by omega) (by omega) (by omega)).mono ?_
        rintro e w2 ⟨y, y0, y1, rfl, hr2, hg2⟩
        have hm2 := hm.pick hr2 hg2
        have hml2 := hm2.lt
        have hbx2 := hm2.mb.cell
        have hbr2 := box_cell2 hm2.res
        clear hr2 hg2
        by_cases yc : y = 0
        · subst yc
          have hA := (hm2.alloc (.cells #[.int .i64 1, .int .i64 101, .int .i64 100] 3)).drew1
          have hB := hm2.drew1
          have hgw : g < w2.heap.size := by have := hm2.glt; omega
          go_wp2_with fail
          go_region_law (first
            | (go_simp; go_at_call 29; refine (pick_any B g (p + 1 + k + 1) 3 _ hA.rdr (by omega) (by omega) (by omega) (by omega)).mono ?_; rintro e w3 ⟨x, x0, x1, rfl, hr3, hg3⟩; obtain ⟨x, rfl⟩ := Int.eq_ofNat_of_zero_le x0; have hm3 := hA.pick hr3 hg3; have hx3 : x < 3 := (by omega); have hcl := lit_far lit3 _ rfl hg3 hgw x hx3; have hcm := hm3.mb.cell; have hml3 := hm3.lt; obtain ⟨hac, haf, hal⟩ := ms_row hm3 hkp; have hmW := hm3.set0 (ix lit3 x); have HBD := Lib.hid (lit3_bd hx3))
            | (go_simp; go_at_call 29; refine (pick_any B g (p + 1 + k + 1) 3 _ hB.rdr (by omega) (by omega) (by omega) (by omega)).mono ?_; rintro e w3 ⟨x, x0, x1, rfl, hr3, hg3⟩; obtain ⟨x, rfl⟩ := Int.eq_ofNat_of_zero_le x0; have hm3 := hB.pick hr3 hg3; have hx3 : x < 3 := (by omega); have hcl := lit_cell w3 lit3 #[.int .i64 1, .int .i64 101, .int .i64 100] rfl x hx3; have hcm := hm3.mb.cell; have hml3 := hm3.lt; obtain ⟨hac, haf, hal⟩ := ms_row hm3 hkp; have hmW := hm3.set0 (ix lit3 x); have HBD := Lib.hid (lit3_bd hx3)))
          all_goals
            obtain ⟨hbr3, hbf3⟩ := box_cell2 hm3.res
            have hna1 := hm3.mb.2.2 ab rfl
            have hna2 : ab ≠ w.heap.size := by have := (hm3.far ab rfl).1; omega
            have hna3 := hna1.symm
            have hna4 := hna2.symm
            have hlt0 : w.heap.size < w3.heap.size := by omega
            have hlt1 : w.heap.size + 1 + 1 < w3.heap.size := by omega
            go_wp2_with fail
            have hfin := ms_end (p := p) (k := 9) hmW (by rw [List.length_set]; omega) (set0_bd HA.out HBD.out) (by omega) (by omega)
            rw [List.length_set] at hfin
            have hra := after_set0 hmW.res (.slice (some ⟨ab, 0, none⟩) rs.length c)
            have hrb := after_set hmW.res (.slice (some ⟨ab, 0, none⟩) rs.length c)
            first
              | exact bodyPost_ret (v := .agg #[.slice (some ⟨ab, 0, none⟩) rs.length c]) (by simp [results, Tryd.results21, go_sem, hra]) rfl hfin
              | exact bodyPost_ret (v := .agg #[.slice (some ⟨ab, 0, none⟩) rs.length c]) (by simp [results, Tryd.results21, go_sem, hrb]) rfl (hfin.alloc _)
        · have yc' : (y == 0) = false := beq_eq_false_iff_ne.2 yc
          obtain ⟨hbr2, hbf2⟩ := hbr2
          by_cases yd : y = 1
          · subst yd
            go_wp2_with (at_builtin; refine wpList_apps [2, 2, 2, 2] rfl _ _ rfl (w.heap.size + 1) (some ⟨ab, 0, none⟩) c rs _ rfl rfl (hm2.alloc _).mb.2.1 w2.heap.size 4 rfl rfl (lit4_cells w2) (by omega) (by simp; omega) ?_; intro A3 c3 w3 hi3 hg3 hat3; have hmW := (hm2.alloc _).push hi3 hg3 hat3 (rs.length + 4) (by simp); obtain ⟨hcx, hfx⟩ := box_cell2 ((hm2.alloc _).box hg3); obtain ⟨hbr3, hbf3⟩ := box_cell2 ((hm2.alloc _).resApp hg3))
            have := ms_end (p := p) (k := 9) hmW (by simp; omega) (app4_bd HA.out) (by omega) (by omega)
            rw [List.length_append] at this
            refine bodyPost_ret (v := .agg #[.slice A3 (rs.length + 4) c3]) (by simp [results, Tryd.results21, go_sem, hbr3]) rfl ?_
            exact this
          · have yd' : (y == 1) = false := beq_eq_false_iff_ne.2 yd
            clear yc yd
            go_wp2_with fail
            refine bodyPost_ret (v := .agg #[.slice (some ⟨ab, 0, none⟩) rs.length c]) (by simp [results, Tryd.results21, go_sem, hbr2]) rfl ?_
            exact ms_end hm2 (by omega) HA.out (by omega) (by omega)
      · have hbx2 := hm.mb.cell
        obtain ⟨hbr2, hbf2⟩ := box_cell2 hm.res
        go_wp2_with fail
        refine bodyPost_ret (v := .agg #[.slice A rs.length c]) (by simp [results, Tryd.results21, go_sem, hbr2]) rfl ?_
        exact ms_end hm (by omega) HA.out (by omega) (by omega)

end Go.Proofs.YticnnfmmfjfffaaDoor
