/- A struct of one slice of integers that came in: opened. No condition. -/
import Derived.Test.YticnnfmmfjfffaaDoorBase
import Derived.Lib.SmallJoins
namespace Go.Proofs.YticnnfmmfjfffaaDoor
open Go.Joins Go.ChangeShapes Go.WideShapes Go.RowKit Go.Deep
set_option linter.unusedVariables false

theorem sl_open1 {H : Type} {enc : TypeId × Value → H} {P : Program} {W : World} {t e : TypeId} {k : IntKind} {n : Nat} {v : Value} {y : DataW H × List MemPlace}
    (ht : P.underlying t = some (.slice e)) (he : P.underlying e = some (.int k)) (hc : P.cellsOf e = 1)
    (hf : DataW.trod enc P W 0 (fun _ => true) true n t [v] = some y) : ∃ a len cap zs, v = .slice a len cap ∧ Sl k W a len cap zs := by
  rcases open_ints ht he hc hf with ⟨hcs, _⟩ | ⟨x, l, c, zs, hcs, _, hl, hm, hz, _, hcell, hwz⟩
  · simp at hcs
    subst hcs
    exact ⟨none, 0, 0, [], rfl, rfl, Nat.le_refl _, by simp [maxLen], RD.nil, by simp⟩
  · simp at hcs
    subst hcs
    simp at hz
    refine ⟨some x, l, c, zs.take l, rfl, by rw [List.length_take]; omega, hl, hm, fun hn => ?_, fun n hn => hwz n (List.mem_of_mem_take hn)⟩
    rw [List.length_take] at hn ⊢
    obtain ⟨b, off, spot⟩ := x
    have h0 := hcell 0 (by omega)
    have hs : spot = none := by simpa [Addr.add] using World.cell?_spot h0
    subst hs
    refine ⟨b, off, rfl, World.block_lt_of_cell? _ _ h0, fun i hi => ?_⟩
    have h1 := hcell i (by omega)
    rw [add_none] at h1
    rw [h1, ix, List.getD_eq_getElem?_getD, List.getD_eq_getElem?_getD, List.getElem?_take, if_pos (by omega)]

theorem ms_open {H : Type} {enc : TypeId × Value → H} {P : Program} {W : World} {r : Reach} {b0 : Nat} {t t0 e : TypeId} {nm : Field} {k : IntKind} {v : Value} {d : DataW H} {p : List MemPlace}
    (hs : P.underlying t = some (.struct #[nm])) (hone : oneCellFields P #[nm] = true) (hC : P.cellsOf t = 1) (h0 : nm.type = t0) (ht : P.underlying t0 = some (.slice e)) (he : P.underlying e = some (.int k)) (hc : P.cellsOf e = 1)
    (hv : Value.okWide P W r b0 t v) (h : DataW.Trod enc P W 0 (fun _ => true) true t v d p) : ∃ a len cap zs, v = .agg #[.slice a len cap] ∧ Sl k W a len cap zs := by
  obtain ⟨cs, rfl, hsz⟩ := okWide_struct hs hv
  obtain ⟨l⟩ := cs
  match l, hsz.trans hC with
  | [c0], _ =>
    obtain ⟨fuel, hf⟩ := h
    obtain ⟨xs, n, _, hx, _, hlen, hg⟩ := DataW.trod_struct hs hf
    obtain ⟨o0, k0⟩ := hone_of hone 0 nm rfl
    match xs, hlen with
    | [y0], _ =>
      have h1 : DataW.trod enc P W 0 (fun _ => true) true n nm.type [c0] = some y0 := by simpa [Value.cells, o0, k0] using hg 0 nm rfl
      rw [h0] at h1
      obtain ⟨a, len, cap, zs, rfl, hsl⟩ := sl_open1 ht he hc h1
      exact ⟨a, len, cap, zs, rfl, hsl⟩

end Go.Proofs.YticnnfmmfjfffaaDoor
