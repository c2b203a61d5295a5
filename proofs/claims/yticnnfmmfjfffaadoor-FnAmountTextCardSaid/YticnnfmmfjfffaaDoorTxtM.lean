/- Words for memory: cells that are read, rows that a call made; the library's table. No condition. -/
import Derived.Test.YticnnfmmfjfffaaDoorTxtS
import Derived.Test.YticnnfmmfjfffaaDoorShelf
import Derived.Shelf.Unicode.PredsPay
namespace Go.Proofs.YticnnfmmfjfffaaDoor
open Go.RowKit
set_option linter.unusedVariables false
set_option linter.unusedSimpArgs false

/-- From A on lie the cells cs, in a block below B. -/
def RC (w : World) (B : Nat) (A : Option Addr) (cs : List Value) : Prop :=
  0 < cs.length → ∃ b off, A = some ⟨b, off, none⟩ ∧ b < B ∧ ∀ i v, cs[i]? = some v → w.cell? ⟨b, off + i, none⟩ = some v
section
variable {w w' : World} {B B' : Nat} {A : Option Addr} {cs : List Value}
theorem RC.nil : RC w B A [] := fun h => absurd h (by simp)
theorem RC.keep (h : RC w B A cs) (hk : ∀ p : Addr, p.block < B → w'.cell? p = w.cell? p) : RC w' B A cs := fun hn => by
  obtain ⟨b, off, e, hb, hc⟩ := h hn
  exact ⟨b, off, e, hb, fun i v hi => (hk _ hb).trans (hc i v hi)⟩
theorem RC.mono (h : RC w B A cs) (hB : B ≤ B') : RC w B' A cs := fun hn => by
  obtain ⟨b, off, e, hb, hc⟩ := h hn
  exact ⟨b, off, e, by omega, hc⟩
theorem RC.below (h : RC w B A cs) (hb : Below B' w w') (hB : B ≤ B') : RC w' B A cs := h.keep fun _ hp => hb.cell (by omega)
theorem RC.drewN (h : RC w B A cs) (n : Nat) : RC (w.drewN n) B A cs := h
theorem RC.alloc (h : RC w B A cs) (hB : B ≤ w.heap.size) (o : Obj) : RC (w.alloc o) B A cs := h.keep fun p hp => World.cell?_alloc_lt w o p (by omega)
theorem RC.setCell (h : RC w B A cs) {p : Addr} (hB : B ≤ p.block) (u : Value) : RC (w.setCell p u) B A cs :=
  h.keep fun q hq => World.cell?_setCell_other w p q u (fun e => by subst e; omega)
theorem RC.grown (h : RC w B A cs) (hB : B ≤ w.heap.size) {row : Option Nat} (hg : w.grownBy w' row) (hne : ∀ g, A.map (·.block) = some g → row ≠ some g) : RC w' B A cs := fun hn => by
  obtain ⟨b, off, rfl, hb, hc⟩ := h hn
  exact ⟨b, off, rfl, hb, fun i v hi => (World.cell?_of_block (hg.block b (by omega) (fun e => hne b rfl e.symm))).trans (hc i v hi)⟩
theorem RC.take (h : RC w B A cs) (k : Nat) : RC w B A (cs.take k) := fun hn => by
  obtain ⟨b, off, e, hb, hc⟩ := h (by rw [List.length_take] at hn; omega)
  refine ⟨b, off, e, hb, fun i v hi => hc i v ?_⟩
  rw [List.getElem?_take] at hi
  split at hi
  · exact hi
  · cases hi
theorem RC.drop {b off : Nat} (h : RC w B (some ⟨b, off, none⟩) cs) (k : Nat) : RC w B (some ⟨b, off + k, none⟩) (cs.drop k) := fun hn => by
  obtain ⟨b', off', e, hb, hc⟩ := h (by rw [List.length_drop] at hn; omega)
  injection e with e
  injection e with e1 e2
  subst e1 e2
  refine ⟨b, off + k, rfl, hb, fun i v hi => ?_⟩
  rw [List.getElem?_drop] at hi
  rw [Nat.add_assoc]
  exact hc _ _ hi
end

/-- A row of n elements of type e, sz cells each: the cells cs, in a block from B on, at its head, not frozen. -/
def OR (w : World) (B : Nat) (e : TypeId) (sz : Nat) (A : Option Addr) (c n : Nat) (cs : List Value) : Prop := w.ownsRow B e sz (.slice A n c) n cs
section
variable {w w' : World} {B B' : Nat} {e : TypeId} {sz : Nat} {A : Option Addr} {c n : Nat} {cs : List Value}
theorem OR.nil_ (w : World) (B : Nat) (e : TypeId) (sz : Nat) : OR w B e sz none 0 0 [] := World.ownsRow_nil _ _ _ _
theorem OR.length (h : OR w B e sz A c n cs) : cs.length = n * sz := h.1
theorem OR.form (h : OR w B e sz A c n cs) (hn : 0 < n) : ∃ g, A = some ⟨g, 0, none⟩ ∧ B ≤ g ∧ g < w.heap.size ∧ n ≤ c ∧ c ≤ maxLen ∧
    (∀ i v, cs[i]? = some v → w.cell? ⟨g, i, none⟩ = some v) ∧ ∀ i, w.frozen? ⟨g, i, none⟩ = false := by
  have hl := h.1
  rcases h.2 with ⟨e, h0⟩ | ⟨g, cap, cur, e, hb, hg, hc1, hc2, _⟩
  · omega
  · injection e with e1 e2 e3
    subst e1 e3
    refine ⟨g, rfl, hb, (Array.getElem?_eq_some_iff.1 hg).1, hc1, hc2, fun i v hi => ?_, fun i => World.ownsRow.frozenAt h i⟩
    have hlt : i < cs.length := (List.getElem?_eq_some_iff.1 hi).1
    rw [World.ownsRow.cellAt h i (by omega)]
    exact hi
theorem OR.rd (h : OR w B e sz A c n cs) : RC w w.heap.size A cs := fun hp => by
  have hl := h.1
  have hn : 0 < n := by
    rcases Nat.eq_zero_or_pos n with h0 | h0
    · rw [h0] at hl; simp at hl; rw [hl] at hp; simp at hp
    · exact h0
  obtain ⟨g, e, _, hlt, _, _, hc, _⟩ := h.form hn
  exact ⟨g, 0, e, hlt, fun i v hi => by rw [Nat.zero_add]; exact hc i v hi⟩
theorem OR.len (h : OR w B e sz A c n cs) : n ≤ c ∧ c ≤ maxLen := by
  rcases h.2 with ⟨e, h0⟩ | ⟨g, cap, cur, e, hb, hg, hc1, hc2, _⟩
  · injection e with e1 e2 e3
    subst e3
    exact ⟨by omega, by simp [maxLen]⟩
  · injection e with e1 e2 e3
    subst e3
    exact ⟨hc1, hc2⟩
theorem OR.span (h : OR w B e sz A c n cs) : ∀ g, A.map (·.block) = some g → B ≤ g ∧ g < w.heap.size := fun g hg =>
  World.ownsRow.lt h g (by rw [ownBlock_slice]; exact hg)
theorem OR.grown (h : OR w B e sz A c n cs) {row : Option Nat} (hg : w.grownBy w' row) (hne : ∀ g, A.map (·.block) = some g → row ≠ some g) : OR w' B e sz A c n cs := by
  refine World.ownsRow.kept h hg ?_
  rw [ownBlock_slice]
  cases A with
  | none => left; rfl
  | some a => right; exact fun e => hne a.block rfl e.symm
theorem OR.below (h : OR w B e sz A c n cs) (hb : Below B' w w') (hB : w.heap.size ≤ B') : OR w' B e sz A c n cs :=
  h.grown (row := none) ⟨hb.os, hb.tape, hb.output, hb.size, fun k hk _ => hb.block k (by omega)⟩ (fun _ _ => by simp)
theorem OR.drewN (h : OR w B e sz A c n cs) (k : Nat) : OR (w.drewN k) B e sz A c n cs := h
theorem OR.alloc (h : OR w B e sz A c n cs) (o : Obj) : OR (w.alloc o) B e sz A c n cs := World.ownsRow.alloc h o
theorem OR.mono (h : OR w B e sz A c n cs) (hB : B' ≤ B) : OR w B' e sz A c n cs := by
  refine ⟨h.1, ?_⟩
  rcases h.2 with hn | ⟨g, cap, cur, e, hb, rest⟩
  · exact .inl hn
  · exact .inr ⟨g, cap, cur, e, by omega, rest⟩
theorem OR.far (h : OR w B e sz A c n cs) {p : Addr} (hp : ∀ g, A.map (·.block) = some g → p.block ≠ g) (u : Value) : OR (w.setCell p u) B e sz A c n cs :=
  h.grown (row := some p.block) ⟨rfl, rfl, rfl, by simp [World.setCell], fun k _ hne => Below.heap_setCell w p u k (by rintro rfl; exact hne rfl)⟩ (fun g hg he => hp g hg (by injection he))
/-- a store into the row -/
theorem OR.set {g : Nat} (h : OR w B e sz (some ⟨g, 0, none⟩) c n cs) (i : Nat) (u : Value) : OR (w.setCell ⟨g, i, none⟩ u) B e sz (some ⟨g, 0, none⟩) c n (cs.set i u) :=
  (World.ownsRow.stored h i u).1
end
/-- what 'append(xs, x)' does: the one new element lies in a block of its own. -/
theorem wpList_pushC {w0 : World} {news : List Value} {ops : Array Oper} {rest : List Oper} {o : Oper} {a : Act} {Q : Exit → Act → World → Prop} (hgd : o.guard = none) (s x : Operand) (t e : TypeId)
    (ho : o.op = .call { callee := .builtin .append, args := #[s, x], argTypes := #[t, t] })
    (z : Value) (sz bytes : Nat) (hinfo : (Tryd.prog.info? e).map (fun i => (i.zero, i.size, i.bytes)) = some (some z, sz, bytes)) (ht : Tryd.prog.underlying t = some (.slice e)) (hzs : z.cells.size = sz) (hsz0 : 0 < sz) (hby : bytes ≤ 1000)
    (hnl : news.length = sz) (hone : ∀ u ∈ news, u.oneCell' = true)
    (B : Nat) (A : Option Addr) (c n : Nat) (cs : List Value) (hs : a.eval s = .slice A n c) (hown : OR w0 B e sz A c n cs)
    (k : Nat) (hx : a.eval x = .slice (some ⟨k, 0, none⟩) 1 1) (hk : k = w0.heap.size) (hlen : n < 2000000) (hB : B ≤ w0.heap.size)
    (h : ∀ A' c' w', OR w' B e sz A' c' (n + 1) (cs ++ news) → w0.grownBy w' (A.map (·.block)) → Below B w0 w' → (∀ lo hi, hi ≤ w0.heap.size → Outs A lo hi → Outs A' lo hi) → wpList Tryd.prog ops Q rest (a.put o.dst (.slice A' (n + 1) c')) w') :
    wpList Tryd.prog ops Q (o :: rest) a (w0.alloc (.cells news.toArray e)) := by
  subst hk
  obtain ⟨i0, hi0, hz0, hz1, hz2⟩ := info_parts hinfo
  have hown1 := OR.alloc hown (.cells news.toArray e)
  have hb1 : (n + 1) * bytes ≤ 140737488355328 := Nat.le_trans (Nat.mul_le_mul (show n + 1 ≤ 2000000 by omega) hby) (by omega)
  refine wpList_append_own_at _ hgd s x t ho B e i0 _ sz bytes ht hi0 hz0 hz1 hz2 hzs hsz0 _ n _ hs hown1 ⟨w0.heap.size, 0, none⟩ 1 1 news hx (by omega) ?_ hone (by simp only [maxLen]; omega) hb1 (by simp; omega) ?_
  · exact World.news_of_block (heap_alloc_new w0 _)
  · intro v' w' hown' hg hnil hat
    have ev : ∃ A' c', v' = .slice A' (n + 1) c' := by
      rcases hown'.2 with ⟨_, h0⟩ | ⟨g, cap, cur, e, _⟩
      · omega
      · exact ⟨_, _, e⟩
    obtain ⟨A', c', rfl⟩ := ev
    rw [ownBlock_slice] at hg
    rw [ownBlock_slice, ownBlock_slice] at hat
    have hg0 : w0.grownBy w' (A.map (·.block)) :=
      ⟨hg.os, hg.tape, hg.output, by have := hg.size; simp at this; omega, fun k hk hne => (hg.block k (by simp; omega) hne).trans (Below.heap_alloc w0 _ k hk)⟩
    refine h A' c' w' hown' hg0 ?_ ?_
    · refine ⟨hg0.os, hg0.tape, hg0.output, hg0.size, fun k hk => hg0.block k (by omega) (fun e => ?_)⟩
      have := hown.span k e.symm
      omega
    · intro lo hi hhi ho g hg'
      rcases hat with e | e
      · exact ho g (by rw [← e]; exact hg')
      · rw [e] at hg'
        simp at hg'
        right; omega

/-- what 'make([]T, 0, n)' does. -/
theorem wpList_mk0C {w : World} {ops : Array Oper} {rest : List Oper} {o : Oper} {a : Act} {Q : Exit → Act → World → Prop} (hgd : o.guard = none) (l c : Operand) (t e : TypeId)
    (ho : o.op = Op.makeSlice t l c) (z : Value) (sz bytes : Nat) (hinfo : (Tryd.prog.info? e).map (fun i => (i.zero, i.size, i.bytes)) = some (some z, sz, bytes)) (ht : Tryd.prog.underlying t = some (.slice e)) (hby : bytes ≤ 1000)
    (C : Int) (n : Nat) (hl : a.eval l = .int .i64 0) (hc : a.eval c = .int .i64 C) (hC : C = (n : Int)) (hn : n ≤ 2000000)
    (h : ∀ w', OR w' w.heap.size e sz (some ⟨w.heap.size, 0, none⟩) n 0 [] → Below w.heap.size w w' → wpList Tryd.prog ops Q rest (a.put o.dst (.slice (some ⟨w.heap.size, 0, none⟩) 0 n)) w') :
    wpList Tryd.prog ops Q (o :: rest) a w := by
  obtain ⟨i0, hi0, hz0, hz1, hz2⟩ := info_parts hinfo
  have hb1 : i0.bytes * n ≤ 281474976710656 := by rw [hz2]; exact Nat.le_trans (Nat.mul_le_mul hby hn) (by omega)
  refine wpList_make_own w hgd l c t ho w.heap.size e i0 _ sz ht hi0 hz0 hz1 .i64 .i64 C n hl hc hC hb1 (by simp only [maxLen]; omega) (Nat.le_refl _) ?_
  intro w' hown hg
  exact h w' hown ⟨hg.os, hg.tape, hg.output, hg.size, fun k hk => hg.block k hk (by simp)⟩

/-- the library's table of the powers of ten lies in memory. -/
def TB (w : World) : Prop := Lib.TabIs Tryd.prog w "internal/strconv.uint64pow10" .u64 Lib.pow10Tab
theorem TB.to {w w' : World} (h : TB w) (hb : Below w.heap.size w w') : TB w' := TabIs_below (show Tryd.prog.globalNamed "internal/strconv.uint64pow10" = some 0 by kernel_rfl) h hb
theorem itoa_any (n : Int) (w : World) (h0 : 0 ≤ n) (h1 : n ≤ 9223372036854775807) (hT : TB w) :
    Calls Tryd.prog 16 #[.int .i64 n] w fun e w' => e = .returned (.string (dtx n)) ∧ Below w.heap.size w w' := by
  refine (Go.Proofs.Tryd.strconv_Itoa n (by omega) h1 w hT).mono ?_
  rintro e w' ⟨rfl, k, os, rfl⟩
  refine ⟨?_, ?_⟩
  · unfold dtx Lib.itoa
    rw [if_neg (by omega)]
  · exact ⟨rfl, rfl, rfl, by simp [Go.Sort.grow], fun j hj => Go.Sort.heap_grow_old _ _ hj⟩

/-- the texts of numbers as cells. -/
def scl (ns : List Int) : List Value := ns.map fun n => .string (dtx n)
theorem scl_len (ns : List Int) : (scl ns).length = ns.length := List.length_map _
theorem scl_snoc (ns : List Int) (n : Int) : scl (ns ++ [n]) = scl ns ++ [.string (dtx n)] := by simp [scl]
theorem scl_at (ns : List Int) (j : Nat) (x : ByteArray) (h : (ns.map dtx)[j]? = some x) : (scl ns)[j]? = some (.string x) := by
  rw [List.getElem?_map] at h
  rw [scl, List.getElem?_map]
  cases h2 : ns[j]? with
  | none => rw [h2] at h; cases h
  | some n => rw [h2] at h; cases h; rfl
theorem str_info : (Tryd.prog.info? 9).map (fun i => (i.zero, i.size, i.bytes)) = some (some (.string ⟨#[]⟩), 1, 16) := by kernel_rfl
theorem dtx_join (ns : List Int) : Lib.join ((ns.map dtx).map (·.data.toList)) [46] = txN ns := by
  unfold txN dj
  congr 1
  rw [List.map_map, List.map_map]
  rfl
theorem join_any (A : Option Addr) (c : Nat) (B : Nat) (ns : List Int) (w : World) (h1 : 1 ≤ ns.length) (h5 : ns.length ≤ 5) (hel : ∀ n ∈ ns, n ≤ 10000000000) (hO : OR w B 9 1 A c ns.length (scl ns)) :
    Calls Tryd.prog 17 #[.slice A ns.length c, .string ⟨#[46]⟩] w fun e w' => e = .returned (.string (txS ns)) ∧ Below w.heap.size w w' := by
  obtain ⟨g, rfl, hB, hg, hc, hm, hcell, _⟩ := hO.form (by omega)
  have hs := tx_size hel
  have hs2 : (txN ns).length ≤ 60 := by
    have : (txS ns).size = (txN ns).length := by show (txN ns).toArray.size = _; simp
    omega
  have := Go.Proofs.Tryd.strings_Join g 0 c (ns.map dtx) ⟨#[46]⟩ w (fun j x hx => by rw [Nat.zero_add]; exact hcell j _ (scl_at ns j x hx)) hg (by simp; omega) (by simpa using hc) (by
    show (Lib.join _ [46]).length ≤ _
    rw [dtx_join]; omega)
  rw [List.length_map] at this
  refine this.mono ?_
  rintro e w' ⟨rfl, hb⟩
  refine ⟨?_, hb⟩
  show Ending.returned (.string ⟨(Lib.join _ [46]).toArray⟩) = _
  rw [dtx_join]
  rfl

end Go.Proofs.YticnnfmmfjfffaaDoor
