/- Words for memory that the walks share: a slice of integers that came in or that a call made, as a list of numbers. No condition. -/
import Derived.Test.YticnnfmmfjfffaaDoorProg
import Derived.WalkKit
import Derived.ProofKit
import Derived.WalkSpells
import Derived.WalkLawsBesides
import Derived.Below
import Derived.ChangeSlices
import Derived.OwnWalk
import Derived.Laws.OwnMore
import Derived.Deep.Draws
import Derived.Deep.AppendLies
import Derived.Maps.AppendAt
import Derived.Lib.Hide
import Derived.Deep.QuietTactic
import Derived.BigQuiet
import Derived.Deep.LoopGhost
import Derived.IntWalk
namespace Go.Proofs.YticnnfmmfjfffaaDoor
open Go.RowKit Go.ChangeShapes Go.WideShapes
set_option linter.unusedVariables false

theorem ret_bool {a b : Bool} (h : a = b) : Ending.returned (.bool a) = .returned (.bool b) := by rw [h]
theorem ret_int {a b : Int} (h : a = b) : Ending.returned (.int .i64 a) = .returned (.int .i64 b) := by rw [h]
theorem int_eq {a b : Int} (h : a = b) : Value.int .i64 a = .int .i64 b := by rw [h]

theorem i64_bounds {n : Int} (h : (Lit.int .i64 n).wf = true) : -9223372036854775808 ≤ n ∧ n ≤ 9223372036854775807 := by
  have h' : IntKind.i64.min ≤ n ∧ n ≤ IntKind.i64.max := by simpa [Lit.wf] using h
  have e1 : IntKind.i64.min = -9223372036854775808 := by rfl
  have e2 : IntKind.i64.max = 9223372036854775807 := by rfl
  omega
theorem i64_wf {n : Int} (h1 : -9223372036854775808 ≤ n) (h2 : n ≤ 9223372036854775807) : (Lit.int .i64 n).wf = true := WalkArith.wf_i64 ⟨h1, h2⟩

/-! a slice that is read -/
/-- the element at i; the walk leaves this word as it stands. -/
def ix (zs : List Int) (i : Nat) : Int := zs.getD i 0
theorem ix_eq (zs : List Int) {i : Nat} (h : i < zs.length) : ix zs i = zs[i] := by simp [ix, List.getD_eq_getElem?_getD, h]
theorem ix_some (zs : List Int) {i : Nat} (h : i < zs.length) : zs[i]? = some (ix zs i) := by simp [ix, List.getD_eq_getElem?_getD, h]
/-- The slice '.slice A zs.length c' holds the numbers zs of kind k in a block below B. -/
def RD (k : IntKind) (w : World) (B : Nat) (A : Option Addr) (zs : List Int) : Prop :=
  0 < zs.length → ∃ b off, A = some ⟨b, off, none⟩ ∧ b < B ∧ ∀ i, i < zs.length → w.cell? ⟨b, off + i, none⟩ = some (.int k (ix zs i))

section
variable {k : IntKind} {w w' : World} {B B' : Nat} {A : Option Addr} {zs : List Int}
theorem RD.nil : RD k w B A [] := fun h => absurd h (by simp)
theorem RD.keep (h : RD k w B A zs) (hk : ∀ p : Addr, p.block < B → w'.cell? p = w.cell? p) : RD k w' B A zs := fun hn => by
  obtain ⟨b, off, e, hb, hc⟩ := h hn
  exact ⟨b, off, e, hb, fun i hi => (hk _ hb).trans (hc i hi)⟩
theorem RD.mono (h : RD k w B A zs) (hB : B ≤ B') : RD k w B' A zs := fun hn => by
  obtain ⟨b, off, e, hb, hc⟩ := h hn
  exact ⟨b, off, e, by omega, hc⟩
theorem RD.below (h : RD k w B A zs) (hb : Below B' w w') (hB : B ≤ B') : RD k w' B A zs := h.keep fun _ hp => hb.cell (by omega)
theorem RD.drewN (h : RD k w B A zs) (n : Nat) : RD k (w.drewN n) B A zs := h
theorem RD.alloc (h : RD k w B A zs) (hB : B ≤ w.heap.size) (o : Obj) : RD k (w.alloc o) B A zs := h.keep fun p hp => World.cell?_alloc_lt w o p (by omega)
theorem RD.setCell (h : RD k w B A zs) {p : Addr} (hB : B ≤ p.block) (u : Value) : RD k (w.setCell p u) B A zs :=
  h.keep fun q hq => World.cell?_setCell_other w p q u (fun e => by subst e; omega)
theorem RD.at_ (h : RD k w B A zs) {i : Nat} (hi : i < zs.length) : ∃ b off, A = some ⟨b, off, none⟩ ∧ b < B ∧ w.cell? ⟨b, off + i, none⟩ = some (.int k (ix zs i)) := by
  obtain ⟨b, off, e, hb, hc⟩ := h (by omega)
  exact ⟨b, off, e, hb, hc i hi⟩
end

/-! a row that a call made -/
/-- The slice '.slice A zs.length c' is a row of integers in a block from base on, at its head, not frozen, whose first cells are zs. -/
def IR (w : World) (base : Nat) (A : Option Addr) (c : Nat) (zs : List Int) : Prop :=
  w.ownsRow base 3 1 (.slice A zs.length c) zs.length (zs.map (Value.int .i64))

theorem int_info : (Tryd.prog.info? 3).map (fun i => (i.zero, i.size, i.bytes)) = some (some (.int .i64 0), 1, 8) := by kernel_rfl

section
variable {w w' : World} {B B' : Nat} {A : Option Addr} {c : Nat} {zs : List Int}
theorem IR.nil_ (w : World) (B : Nat) : IR w B none 0 [] := World.ownsRow_nil _ _ _ _
theorem IR.form (h : IR w B A c zs) (hn : 0 < zs.length) : ∃ g, A = some ⟨g, 0, none⟩ ∧ B ≤ g ∧ g < w.heap.size ∧ zs.length ≤ c ∧ c ≤ maxLen ∧
    (∀ i, i < zs.length → w.cell? ⟨g, i, none⟩ = some (.int .i64 (ix zs i))) ∧ ∀ i, w.frozen? ⟨g, i, none⟩ = false := by
  rcases h.2 with ⟨e, h0⟩ | ⟨g, cap, cur, e, hb, hg, hc1, hc2, _⟩
  · omega
  · injection e with e1 e2 e3
    subst e1 e3
    refine ⟨g, rfl, hb, (Array.getElem?_eq_some_iff.1 hg).1, hc1, hc2, fun i hi => ?_, fun i => World.ownsRow.frozenAt h i⟩
    have := World.ownsRow.cellAt h i (by omega)
    rw [this, List.getElem?_map, ix_some zs hi]
    rfl
theorem IR.rd (h : IR w B A c zs) : RD .i64 w w.heap.size A zs := fun hn => by
  obtain ⟨g, e, _, hlt, _, _, hc, _⟩ := h.form hn
  exact ⟨g, 0, e, hlt, fun i hi => by rw [Nat.zero_add]; exact hc i hi⟩
theorem IR.len (h : IR w B A c zs) : zs.length ≤ c ∧ c ≤ maxLen := by
  rcases h.2 with ⟨e, h0⟩ | ⟨g, cap, cur, e, hb, hg, hc1, hc2, _⟩
  · injection e with e1 e2 e3
    subst e3
    exact ⟨by omega, by simp [maxLen]⟩
  · injection e with e1 e2 e3
    subst e3
    exact ⟨hc1, hc2⟩
theorem IR.grown (h : IR w B A c zs) {row : Option Nat} (hg : w.grownBy w' row) (hne : ∀ g, A = some ⟨g, 0, none⟩ → some g ≠ row) : IR w' B A c zs := by
  refine World.ownsRow.kept h hg ?_
  rcases h.2 with ⟨e, h0⟩ | ⟨g, cap, cur, e, _⟩
  · injection e with e1; subst e1; left; rfl
  · injection e with e1; subst e1; right; exact hne g rfl
theorem IR.below (h : IR w B A c zs) (hb : Below B' w w') (hB : w.heap.size ≤ B') : IR w' B A c zs :=
  h.grown (row := none) ⟨hb.os, hb.tape, hb.output, hb.size, fun k hk _ => hb.block k (by omega)⟩ (fun _ _ => by simp)
theorem IR.drewN (h : IR w B A c zs) (n : Nat) : IR (w.drewN n) B A c zs := h
theorem IR.alloc (h : IR w B A c zs) (o : Obj) : IR (w.alloc o) B A c zs := World.ownsRow.alloc h o
theorem IR.mono (h : IR w B A c zs) (hB : B' ≤ B) : IR w B' A c zs := by
  refine ⟨h.1, ?_⟩
  rcases h.2 with hn | ⟨g, cap, cur, e, hb, rest⟩
  · exact .inl hn
  · exact .inr ⟨g, cap, cur, e, by omega, rest⟩
/-- a store into the row -/
theorem IR.set {g : Nat} (h : IR w B (some ⟨g, 0, none⟩) c zs) (i : Nat) (n : Int) : IR (w.setCell ⟨g, i, none⟩ (.int .i64 n)) B (some ⟨g, 0, none⟩) c (zs.set i n) := by
  have := World.ownsRow.stored h i (.int .i64 n)
  unfold IR
  rw [List.length_set, List.map_set]
  exact this.1
end

theorem ownBlock_slice (A : Option Addr) (n c : Nat) : (Value.slice A n c).ownBlock = A.map (·.block) := by cases A <;> rfl
theorem IR.span {w : World} {B : Nat} {A : Option Addr} {c : Nat} {zs : List Int} (h : IR w B A c zs) : ∀ g, A.map (·.block) = some g → B ≤ g ∧ g < w.heap.size := fun g hg =>
  World.ownsRow.lt h g (by rw [ownBlock_slice]; exact hg)
theorem IR.grown' {w w' : World} {B : Nat} {A : Option Addr} {c : Nat} {zs : List Int} (h : IR w B A c zs) {row : Option Nat} (hg : w.grownBy w' row) (hne : ∀ g, A.map (·.block) = some g → row ≠ some g) : IR w' B A c zs :=
  h.grown hg fun g e => by subst e; exact fun e' => hne g rfl e'.symm
/-- the slice's block lies outside lo .. hi. -/
def Outs (A : Option Addr) (lo hi : Nat) : Prop := ∀ g, A.map (·.block) = some g → g < lo ∨ hi ≤ g
theorem RD.grown {k : IntKind} {w w' : World} {B : Nat} {A : Option Addr} {zs : List Int} (h : RD k w B A zs) (hB : B ≤ w.heap.size) {row : Option Nat} (hg : w.grownBy w' row) (hne : ∀ g, A.map (·.block) = some g → row ≠ some g) : RD k w' B A zs := fun hn => by
  obtain ⟨b, off, rfl, hb, hc⟩ := h hn
  exact ⟨b, off, rfl, hb, fun i hi => (World.cell?_of_block (hg.block b (by omega) (fun e => hne b rfl e.symm))).trans (hc i hi)⟩

/-- what 'append(xs, z)' does: the one new cell lies in a block of its own. -/
theorem wpList_push {w0 : World} {z : Int} {ops : Array Oper} {rest : List Oper} {o : Oper} {a : Act} {Q : Exit → Act → World → Prop} (hgd : o.guard = none) (s x : Operand)
    (ho : o.op = .call { callee := .builtin .append, args := #[s, x], argTypes := #[23, 23] })
    (B : Nat) (A : Option Addr) (c : Nat) (zs : List Int) (n : Nat) (hn : n = zs.length) (hs : a.eval s = .slice A n c) (hown : IR w0 B A c zs)
    (sz : Nat) (hx : a.eval x = .slice (some ⟨sz, 0, none⟩) 1 1) (hsz : sz = w0.heap.size) (hlen : zs.length < 2000000) (hB : B ≤ w0.heap.size)
    (h : ∀ A' c' w', IR w' B A' c' (zs ++ [z]) → w0.grownBy w' (A.map (·.block)) → Below B w0 w' → (∀ lo hi, hi ≤ w0.heap.size → Outs A lo hi → Outs A' lo hi) → wpList Tryd.prog ops Q rest (a.put o.dst (.slice A' (zs.length + 1) c')) w') :
    wpList Tryd.prog ops Q (o :: rest) a (w0.alloc (.cells #[.int .i64 z] 3)) := by
  subst hn
  subst hsz
  obtain ⟨i0, hi0, hz0, hz1, hz2⟩ := info_parts int_info
  have hown1 := IR.alloc hown (.cells #[.int .i64 z] 3)
  refine wpList_append_own_at _ hgd s x 23 ho B 3 i0 _ 1 8 Tryd.underlying23 hi0 hz0 hz1 hz2 rfl (by omega) _ zs.length _ hs hown1 ⟨w0.heap.size, 0, none⟩ 1 1 [.int .i64 z] hx rfl ?_ ?_ (by simp only [maxLen]; omega) (by omega) (by simp; omega) ?_
  · exact cell_one_new _ _ _
  · intro u hu
    simp at hu
    subst hu
    rfl
  · intro v' w' hown' hg hnil hat
    have hl : (zs ++ [z]).length = zs.length + 1 := by simp
    have e : ∃ A' c', v' = .slice A' (zs.length + 1) c' := by
      rcases hown'.2 with ⟨_, h0⟩ | ⟨g, cap, cur, e, _⟩
      · omega
      · exact ⟨_, _, e⟩
    obtain ⟨A', c', rfl⟩ := e
    rw [ownBlock_slice] at hg
    rw [ownBlock_slice, ownBlock_slice] at hat
    have hg0 : w0.grownBy w' (A.map (·.block)) :=
      ⟨hg.os, hg.tape, hg.output, by have := hg.size; simp at this; omega, fun k hk hne => (hg.block k (by simp; omega) hne).trans (Below.heap_alloc w0 _ k hk)⟩
    refine h A' c' w' ?_ hg0 ?_ ?_
    · unfold IR; rw [hl]; simpa using hown'
    · refine ⟨hg0.os, hg0.tape, hg0.output, hg0.size, fun k hk => hg0.block k (by omega) (fun e => ?_)⟩
      have := hown.span k e.symm
      omega
    · intro lo hi hhi ho g hg'
      rcases hat with e | e
      · exact ho g (by rw [← e]; exact hg')
      · rw [e] at hg'
        simp at hg'
        right; omega

/-- what 'append([]int{z}, xs...)' does. -/
theorem wpList_cons {w0 : World} {z : Int} {ops : Array Oper} {rest : List Oper} {o : Oper} {a : Act} {Q : Exit → Act → World → Prop} (hgd : o.guard = none) (s x : Operand)
    (ho : o.op = .call { callee := .builtin .append, args := #[s, x], argTypes := #[23, 23] })
    (B : Nat) (A : Option Addr) (c : Nat) (zs : List Int) (n : Nat) (hn : n = zs.length) (hx : a.eval x = .slice A n c) (hown : IR w0 B A c zs) (hz : 0 < zs.length)
    (sz : Nat) (hs : a.eval s = .slice (some ⟨sz, 0, none⟩) 1 1) (hsz : sz = w0.heap.size) (hlen : zs.length < 2000000) (hB : B ≤ w0.heap.size)
    (h : ∀ A' c' w', IR w' B A' c' (z :: zs) → Below w0.heap.size w0 w' → wpList Tryd.prog ops Q rest (a.put o.dst (.slice A' (zs.length + 1) c')) w') :
    wpList Tryd.prog ops Q (o :: rest) a (w0.alloc (.cells #[.int .i64 z] 3)) := by
  subst hn
  subst hsz
  obtain ⟨i0, hi0, hz0, hz1, hz2⟩ := info_parts int_info
  obtain ⟨g, rfl, hg0, hgl, _, _, hcell, _⟩ := hown.form hz
  have hlit : (w0.alloc (.cells #[.int .i64 z] 3)).ownsRow B 3 1 (.slice (some ⟨w0.heap.size, 0, none⟩) 1 1) 1 [.int .i64 z] :=
    World.ownsRow_lit w0 #[.int .i64 z] 1 hB (by simp [maxLen]) rfl
  refine wpList_append_own _ hgd s x 23 ho B 3 i0 _ 1 8 Tryd.underlying23 hi0 hz0 hz1 hz2 rfl (by omega) _ 1 _ hs hlit ⟨g, 0, none⟩ zs.length c (zs.map (Value.int .i64)) hx (by simp) ?_ (ints_oneCell _ _) (by simp only [maxLen]; omega) (by omega) (by simp; omega) ?_
  · intro j u hu
    have hj : j < zs.length := by
      rcases Nat.lt_or_ge j zs.length with h | h
      · exact h
      · rw [List.getElem?_eq_none (by simpa using h)] at hu; cases hu
    rw [List.getElem?_map, ix_some zs hj] at hu
    simp only [Option.map_some, Option.some.injEq] at hu
    subst hu
    have ha : (⟨g, 0, none⟩ : Addr).add j = ⟨g, j, none⟩ := by unfold Addr.add; split <;> simp_all
    rw [ha, World.cell?_alloc_lt w0 _ _ hgl]
    exact hcell j hj
  · intro v' w' hown' hg hnil
    have e : ∃ A' c', v' = .slice A' (zs.length + 1) c' := by
      rcases hown'.2 with ⟨_, h0⟩ | ⟨g, cap, cur, e, _⟩
      · omega
      · exact ⟨_, _, by rw [Nat.add_comm]; exact e⟩
    obtain ⟨A', c', rfl⟩ := e
    refine h A' c' w' ?_ ⟨hg.os, hg.tape, hg.output, by have := hg.size; simp at this; omega, fun k hk => (hg.block k (by simp; omega) (by simp [Value.ownBlock]; omega)).trans (Below.heap_alloc w0 _ k hk)⟩
    unfold IR
    rw [List.length_cons, List.map_cons]
    rw [Nat.add_comm 1] at hown'
    exact hown'

/-- what 'make([]int, n)' does. -/
theorem wpList_mk {w : World} {ops : Array Oper} {rest : List Oper} {o : Oper} {a : Act} {Q : Exit → Act → World → Prop} (hgd : o.guard = none) (l c : Operand)
    (ho : o.op = Op.makeSlice 23 l c) (L C : Int) (n : Nat) (hl : a.eval l = .int .i64 L) (hc : a.eval c = .int .i64 C) (hL : L = (n : Int)) (hC : C = (n : Int)) (hn : n ≤ 2000000)
    (h : ∀ w', IR w' w.heap.size (some ⟨w.heap.size, 0, none⟩) n (List.replicate n 0) → Below w.heap.size w w' → wpList Tryd.prog ops Q rest (a.put o.dst (.slice (some ⟨w.heap.size, 0, none⟩) n n)) w') :
    wpList Tryd.prog ops Q (o :: rest) a w := by
  obtain ⟨i0, hi0, hz0, hz1, hz2⟩ := info_parts int_info
  refine wpList_make_full w hgd l c 23 ho w.heap.size 3 i0 _ 1 Tryd.underlying23 hi0 hz0 hz1 .i64 .i64 L C n hl hc hL hC (by rw [hz2]; omega) (by simp only [maxLen]; omega) (Nat.le_refl _) ?_
  intro w' hown hg
  refine h w' ?_ ⟨hg.os, hg.tape, hg.output, hg.size, fun k hk => hg.block k hk (by simp)⟩
  unfold IR
  rw [List.length_replicate, List.map_replicate]
  have e : (madeCells (Value.int .i64 0).cells (n * 1)).toList = List.replicate n (Value.int .i64 0) := by
    rw [Nat.mul_one]; exact toList_madeCells_one _ _
  rw [e] at hown
  exact hown

/-- A slice of integers that came in, as the row's reading gives it. -/
def Sl (k : IntKind) (w : World) (a : Option Addr) (len cap : Nat) (zs : List Int) : Prop :=
  len = zs.length ∧ len ≤ cap ∧ cap ≤ maxLen ∧ RD k w w.heap.size a zs ∧ ∀ n ∈ zs, (Lit.int k n).wf = true

theorem add_none (b off i : Nat) : (⟨b, off, none⟩ : Addr).add i = ⟨b, off + i, none⟩ := by
  unfold Addr.add
  split <;> simp_all
theorem sl_open {H : Type} {enc : TypeId × Value → H} {P : Program} {W : World} {t e : TypeId} {k : IntKind} {a : Option Addr} {len cap : Nat} {d : DataW H} {ps : List MemPlace}
    (ht : P.underlying t = some (.slice e)) (he : P.underlying e = some (.int k)) (hc : P.cellsOf e = 1)
    (h : DataW.Trod enc P W 0 (fun _ => true) true t (.slice a len cap) d ps) : ∃ zs, Sl k W a len cap zs := by
  obtain ⟨fuel, hf⟩ := h
  rcases open_ints ht he hc hf with ⟨hcs, _⟩ | ⟨x, l, c, zs, hcs, _, hl, hm, hz, _, hcell, hwz⟩
  · simp [Value.cells] at hcs
    obtain ⟨rfl, rfl, rfl⟩ := hcs
    exact ⟨[], rfl, Nat.le_refl _, by simp [maxLen], RD.nil, by simp⟩
  · simp [Value.cells] at hcs
    obtain ⟨rfl, rfl, rfl⟩ := hcs
    simp at hz
    refine ⟨zs.take len, by rw [List.length_take]; omega, hl, hm, fun hn => ?_, fun n hn => hwz n (List.mem_of_mem_take hn)⟩
    rw [List.length_take] at hn ⊢
    obtain ⟨b, off, spot⟩ := x
    have h0 := hcell 0 (by omega)
    have hs : spot = none := by simpa [Addr.add] using World.cell?_spot h0
    subst hs
    refine ⟨b, off, rfl, World.block_lt_of_cell? _ _ h0, fun i hi => ?_⟩
    have h1 := hcell i (by omega)
    rw [add_none] at h1
    rw [h1, ix, List.getD_eq_getElem?_getD, List.getD_eq_getElem?_getD, List.getElem?_take, if_pos (by omega)]

end Go.Proofs.YticnnfmmfjfffaaDoor
