/- A list of tallies that came in, opened to its cells. No condition. -/
import Derived.Test.YtahlflennmdckaaTalU
import Derived.Deep.Slices
import Derived.ChangeSame
namespace Go.Proofs.Ytahlflennmdckaa
open Go.RowKit Go.PlainAid Go.ChangeShapes Go.WideShapes
set_option linter.unusedVariables false
set_option linter.unusedSimpArgs false

/-- The four cells of the tally t lie from p on. -/
def At4 (w : World) (p : Addr) (t : Tal) : Prop :=
  w.cell? p = some (.int .i64 t.d) ∧ w.cell? (p.add 1) = some (.int .i64 t.c) ∧ w.cell? (p.add 2) = some (.string t.s) ∧ w.cell? (p.add 3) = some (.string t.f) ∧ t.s.size ≤ maxLen ∧ t.f.size ≤ maxLen
theorem add_zero4 (p : Addr) : p.add 0 = p := by
  unfold Addr.add; split <;> simp_all
theorem tr_of {w : World} {b off : Nat} {ts : List Tal} (hb : b < w.heap.size) (h : ∀ i, i < ts.length → At4 w ⟨b, off + i * 4, none⟩ (tx ts i)) : TR w w.heap.size (some ⟨b, off, none⟩) ts := fun _ => by
  refine ⟨b, off, rfl, hb, fun i v hi => ?_⟩
  have hil : i < (tcells ts).length := (List.getElem?_eq_some_iff.1 hi).1
  rw [tcells_len] at hil
  obtain ⟨c0, c1, c2, c3⟩ := tcells_at ts (i := i / 4) (by omega)
  obtain ⟨a0, a1, a2, a3, _⟩ := h (i / 4) (by omega)
  simp only [add_none] at a1 a2 a3
  have hr : i % 4 = 0 ∨ i % 4 = 1 ∨ i % 4 = 2 ∨ i % 4 = 3 := by omega
  rcases hr with e | e | e | e
  · have e' : i / 4 * 4 = i := by omega
    rw [e'] at c0 a0
    rw [c0] at hi; rw [← hi]; exact a0
  · have e' : i / 4 * 4 + 1 = i := by omega
    rw [e'] at c1
    rw [Nat.add_assoc, e'] at a1
    rw [c1] at hi; rw [← hi]; exact a1
  · have e' : i / 4 * 4 + 2 = i := by omega
    rw [e'] at c2
    rw [Nat.add_assoc, e'] at a2
    rw [c2] at hi; rw [← hi]; exact a2
  · have e' : i / 4 * 4 + 3 = i := by omega
    rw [e'] at c3
    rw [Nat.add_assoc, e'] at a3
    rw [c3] at hi; rw [← hi]; exact a3
theorem list4 {α : Type} {l : List α} (h : l.length = 4) : ∃ a b c d, l = [a, b, c, d] := by
  match l, h with
  | [a, b, c, d], _ => exact ⟨a, b, c, d, rfl⟩
theorem ta_open {H : Type} {enc : TypeId × Value → H} {W : World} {a : Option Addr} {len cap : Nat} {d : DataW H} {ps : List MemPlace}
    (h : DataW.Trod enc Try.prog W 0 (fun _ => true) true 41 (.slice a len cap) d ps) : ∃ ts, TaSl W a len cap ts := by
  obtain ⟨fuel, hf⟩ := h
  rcases Go.Deep.open_slice Try.underlying41 hf with ⟨hcs, _⟩ | ⟨x, l, c, m, n, D, Pl, hcs, _, hl, hm, hmm, _, hi⟩
  · simp [Value.cells] at hcs
    obtain ⟨rfl, rfl, rfl⟩ := hcs
    exact ⟨[], rfl, Nat.le_refl _, by simp [maxLen], RC.nil, fun t ht => by simp at ht⟩
  · simp [Value.cells] at hcs
    obtain ⟨rfl, rfl, rfl⟩ := hcs
    simp at hmm
    subst hmm
    have hC : Try.prog.cellsOf 82 = 4 := by kernel_rfl
    have hI : Try.prog.cellsOf 3 = 1 := by kernel_rfl
    have hS : Try.prog.cellsOf 9 = 1 := by kernel_rfl
    rw [hC] at hi
    have key : ∀ i, ∃ t : Tal, i < len → At4 W (x.add (i * 4)) t := fun i => by
      by_cases hil : i < len
      · obtain ⟨cs, h1, h2⟩ := hi i (by omega)
        obtain ⟨_, hlen, hat⟩ := World.cells?_some h1
        obtain ⟨ys, n', _, _, _, hyl, hfd⟩ := DataW.trod_struct Try.underlying82 h2
        obtain ⟨v0, v1, v2, v3, rfl⟩ := list4 hlen
        obtain ⟨z0, z1, z2, z3, rfl⟩ := list4 hyl
        have g0 := hfd 0 _ rfl
        have g1 := hfd 1 _ rfl
        have g2 := hfd 2 _ rfl
        have g3 := hfd 3 _ rfl
        simp only [List.getElem_toArray, List.getElem_cons_zero, List.getElem_cons_succ, hI, hS] at g0 g1 g2 g3
        obtain ⟨d, e0, _, _⟩ := DataW.trod_int Try.underlying3 g0
        obtain ⟨c', e1, _, _⟩ := DataW.trod_int Try.underlying3 g1
        obtain ⟨s, e2, _, q2⟩ := DataW.trod_string Try.underlying9 g2
        obtain ⟨f, e3, _, q3⟩ := DataW.trod_string Try.underlying9 g3
        simp at e0 e1 e2 e3
        subst e0 e1 e2 e3
        have a0 := hat 0 (by omega)
        have a1 := hat 1 (by omega)
        have a2 := hat 2 (by omega)
        have a3 := hat 3 (by omega)
        rw [add_zero4] at a0
        exact ⟨⟨d, c', s, f⟩, fun _ => ⟨a0, a1, a2, a3, q2, q3⟩⟩
      · exact ⟨tal0, fun h => absurd h hil⟩
    obtain ⟨F, hF⟩ := Classical.axiomOfChoice key
    have hlen : ((List.range len).map F).length = len := by simp
    have htx : ∀ i, i < len → tx ((List.range len).map F) i = F i := fun i hi => by simp [tx, List.getD_eq_getElem?_getD, hi]
    refine ⟨(List.range len).map F, hlen.symm, hl, hm, ?_, ?_⟩
    · rcases Nat.eq_zero_or_pos len with h0 | h0
      · subst h0; exact RC.nil
      · obtain ⟨b, off, spot⟩ := x
        have h1 := (hF 0 h0).1
        rw [Nat.zero_mul, add_zero4] at h1
        have hs : spot = none := by simpa using World.cell?_spot h1
        subst hs
        refine tr_of (World.block_lt_of_cell? _ _ h1) fun i hi => ?_
        rw [hlen] at hi
        rw [htx i hi]
        have := hF i hi
        rw [add_none] at this
        exact this
    · intro t ht
      simp only [List.mem_map, List.mem_range] at ht
      obtain ⟨i, hi, rfl⟩ := ht
      obtain ⟨_, _, _, _, z1, z2⟩ := hF i hi
      unfold maxLen at z1 z2
      omega

end Go.Proofs.Ytahlflennmdckaa
