/- Words for memory that the walks share: a slice of integers that came in, as a list; no condition. -/
import Derived.Test.YtcekgegheffobaaProg
import Derived.WalkKit
import Derived.ProofKit
import Derived.Below
import Derived.ChangeSlices
namespace Go.Proofs.Ytcekgegheffobaa
open Go.RowKit Go.ChangeShapes Go.WideShapes

/-- A slice of integers that came in, as the reading gives it: nil, or a row of 'cap' cells of which the first 'len' are its elements. -/
def Sl (k : IntKind) (w : World) (a : Option Addr) (len cap : Nat) (zs : List Int) : Prop :=
  (a = none ∧ len = 0 ∧ cap = 0 ∧ zs = []) ∨
  ∃ x, a = some x ∧ len ≤ cap ∧ cap ≤ maxLen ∧ zs.length = cap ∧ (∀ i, i < zs.length → w.cell? (x.add i) = some (.int k (zs.getD i 0))) ∧ ∀ n ∈ zs, (Lit.int k n).wf = true

end Go.Proofs.Ytcekgegheffobaa
