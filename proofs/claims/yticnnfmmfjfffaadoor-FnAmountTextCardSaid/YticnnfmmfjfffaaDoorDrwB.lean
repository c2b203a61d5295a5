/- The walks of the draws of the laws over measures. No condition. -/
import Derived.Test.YticnnfmmfjfffaaDoorDrwA
namespace Go.Proofs.YticnnfmmfjfffaaDoor
open Go.RowKit
set_option linter.unusedVariables false

def RB (rs : List Int) : Prop := rs.length ≤ 7 ∧ ∀ x ∈ rs, 1 ≤ x ∧ x ≤ 101
def NB (ns : List Int) : Prop := ns.length ≤ 8 ∧ ∀ x ∈ ns, -1 ≤ x ∧ x ≤ 1000000001
theorem nil_measure_new (w : World) : (w.alloc (.cells #[.slice none 0 0] 25)).heap[w.heap.size]? = some (.cells #[.slice none 0 0] 25 (0, 0)) := heap_alloc_new w _
theorem blk_below {w w' : World} {b B : Nat} {t : TypeId} {v : Value} (h : w.heap[b]? = some (.cells #[v] t (0, 0))) (hb : Below B w w') (hl : b < B) : w'.heap[b]? = some (.cells #[v] t (0, 0)) := (hb.block b hl).trans h
theorem below_pick {w w1 w2 : World} {g : Nat} (hb : Below w.heap.size w w1) (hg : w1.grownBy w2 (some g)) (hl : w.heap.size ≤ g) : Below w.heap.size w w2 :=
  hb.grown hg hb.size (fun k e => by injection e with e; omega)
/-- a measure and a list, drawn. -/
def DrewOne (w : World) (e : Ending) (w' : World) : Prop := ∃ (rs ns : List Int) (A A2 : Option Addr) (c c2 : Nat), RB rs ∧ NB ns ∧
  e = .returned (.tuple #[.agg #[.slice A rs.length c], .slice A2 ns.length c2]) ∧ RF w' w.heap.size A rs ∧ RF w' w.heap.size A2 ns ∧ Below w.heap.size w w'


end Go.Proofs.YticnnfmmfjfffaaDoor
