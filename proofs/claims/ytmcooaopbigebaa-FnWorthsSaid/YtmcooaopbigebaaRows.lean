/-
  No cell of these rows narrows 'for every input' (looked for: loops, veiled, ifaces, maps, wideKeys, modest, calm, conditions, laid).
  DERIVED. THE GIVEN ROWS OF THIS SEAT. 12 by the template 'for every input the law returns true; each argument reads behind the call as it read before'; 0 by the template 'total and deterministic' (their statements: YtmcooaopbigebaaTotals.lean).
  GIVEN WITH THE SEED: the statements are not yours to turn. If you find one false, say at which input.
  Laid BY PROGRAM, IN A SANDBOX (cutbox-rows.mjs): the forced cells as the released guide's own fill.sh prints them over the translation 3dcd59ac0175ef81… (all of the seat's roots in one cut). By AI agents, Wed Nov 11 2026. No macro, syntax, notation, axiom, sorry.
-/
import Derived.Test.YtmcooaopbigebaaChecked
import GoSem.Claim
import GoSem.ClaimJoined
import GoSem.ClaimMapViews
import Derived.JoinedTies
import Derived.KernelRfl
namespace Go.Proofs.Ytmcooaopbigebaa
/- THE CELL 'sum', in the pinned program and in every row, IS THE sha256 OF THE DUMP (.gsa) THAT YtmcooaopbigebaaProg.lean LOADS. Nothing in Lean hashes anything: it is a label: what it is worth is what the hold of that sum in a sandbox is worth. -/
noncomputable def Try.pinned : Pinned := { name := "ytmcooaopbigebaa", sum := "3dcd59ac0175ef81f7e6a904e64553ac912ad276779d63a18ed4242208bedb4e", checked := Try.checked }
namespace Rows
def none {H : Type} : Left H := { results := [], args := [] }

/-- 'laws.FnExactMeasureValid': WHATEVER THE INPUT: true; the input reads as it did. -/
def fnExactMeasureValidSpec : ChangeSpec := { name := "fnExactMeasureValid", fn := fun _ => fun
  | [d] => { results := [.lit (.bool true)], args := [d] }
  | _ => none }
def fnExactMeasureValidRow : OpenClaim := { program := "ytmcooaopbigebaa", sum := "3dcd59ac0175ef81f7e6a904e64553ac912ad276779d63a18ed4242208bedb4e", func := "loop.example/countingboards/laws.FnExactMeasureValid", spec := "fnExactMeasureValid", apart := false }
def FnExactMeasureValidSaid : Prop := fnExactMeasureValidRow.holds Try.pinned (OpenSpec.ofChange fnExactMeasureValidSpec)

/-- ITS FALSE NEIGHBOUR: 'it returns false'. Refute it at one input. -/
def fnExactMeasureValidWrong : ChangeSpec := { name := "fnExactMeasureValid", fn := fun _ => fun
  | [d] => { results := [.lit (.bool false)], args := [d] }
  | _ => none }
def FnExactMeasureValidWrongFalsely : Prop := fnExactMeasureValidRow.holds Try.pinned (OpenSpec.ofChange fnExactMeasureValidWrong)

/-- 'laws.FnWorths': WHATEVER THE INPUT: true; the input reads as it did. -/
def fnWorthsSpec : ChangeSpec := { name := "fnWorths", fn := fun _ => fun
  | [d] => { results := [.lit (.bool true)], args := [d] }
  | _ => none }
def fnWorthsRow : OpenClaim := { program := "ytmcooaopbigebaa", sum := "3dcd59ac0175ef81f7e6a904e64553ac912ad276779d63a18ed4242208bedb4e", func := "loop.example/countingboards/laws.FnWorths", spec := "fnWorths", apart := false }
def FnWorthsSaid : Prop := fnWorthsRow.holds Try.pinned (OpenSpec.ofChange fnWorthsSpec)

/-- ITS FALSE NEIGHBOUR: 'it returns false'. Refute it at one input. -/
def fnWorthsWrong : ChangeSpec := { name := "fnWorths", fn := fun _ => fun
  | [d] => { results := [.lit (.bool false)], args := [d] }
  | _ => none }
def FnWorthsWrongFalsely : Prop := fnWorthsRow.holds Try.pinned (OpenSpec.ofChange fnWorthsWrong)

/-- 'laws.FnExactMeasureWorths': WHATEVER THE INPUT: true; the input reads as it did. -/
def fnExactMeasureWorthsSpec : ChangeSpec := { name := "fnExactMeasureWorths", fn := fun _ => fun
  | [d] => { results := [.lit (.bool true)], args := [d] }
  | _ => none }
def fnExactMeasureWorthsRow : OpenClaim := { program := "ytmcooaopbigebaa", sum := "3dcd59ac0175ef81f7e6a904e64553ac912ad276779d63a18ed4242208bedb4e", func := "loop.example/countingboards/laws.FnExactMeasureWorths", spec := "fnExactMeasureWorths", apart := false }
def FnExactMeasureWorthsSaid : Prop := fnExactMeasureWorthsRow.holds Try.pinned (OpenSpec.ofChange fnExactMeasureWorthsSpec)

/-- ITS FALSE NEIGHBOUR: 'it returns false'. Refute it at one input. -/
def fnExactMeasureWorthsWrong : ChangeSpec := { name := "fnExactMeasureWorths", fn := fun _ => fun
  | [d] => { results := [.lit (.bool false)], args := [d] }
  | _ => none }
def FnExactMeasureWorthsWrongFalsely : Prop := fnExactMeasureWorthsRow.holds Try.pinned (OpenSpec.ofChange fnExactMeasureWorthsWrong)

/-- 'laws.FnExactAmountValid': WHATEVER THE INPUT: true; the input reads as it did. -/
def fnExactAmountValidSpec : ChangeSpec := { name := "fnExactAmountValid", fn := fun _ => fun
  | [d1, d2] => { results := [.lit (.bool true)], args := [d1, d2] }
  | _ => none }
def fnExactAmountValidRow : OpenClaim := { program := "ytmcooaopbigebaa", sum := "3dcd59ac0175ef81f7e6a904e64553ac912ad276779d63a18ed4242208bedb4e", func := "loop.example/countingboards/laws.FnExactAmountValid", spec := "fnExactAmountValid", apart := false }
def FnExactAmountValidSaid : Prop := fnExactAmountValidRow.holds Try.pinned (OpenSpec.ofChange fnExactAmountValidSpec)

/-- ITS FALSE NEIGHBOUR: 'it returns false'. Refute it at one input. -/
def fnExactAmountValidWrong : ChangeSpec := { name := "fnExactAmountValid", fn := fun _ => fun
  | [d1, d2] => { results := [.lit (.bool false)], args := [d1, d2] }
  | _ => none }
def FnExactAmountValidWrongFalsely : Prop := fnExactAmountValidRow.holds Try.pinned (OpenSpec.ofChange fnExactAmountValidWrong)

/-- 'laws.FnExactAmountOf': WHATEVER THE INPUT: true; the input reads as it did. -/
def fnExactAmountOfSpec : ChangeSpec := { name := "fnExactAmountOf", fn := fun _ => fun
  | [d1, d2] => { results := [.lit (.bool true)], args := [d1, d2] }
  | _ => none }
def fnExactAmountOfRow : OpenClaim := { program := "ytmcooaopbigebaa", sum := "3dcd59ac0175ef81f7e6a904e64553ac912ad276779d63a18ed4242208bedb4e", func := "loop.example/countingboards/laws.FnExactAmountOf", spec := "fnExactAmountOf", apart := false }
def FnExactAmountOfSaid : Prop := fnExactAmountOfRow.holds Try.pinned (OpenSpec.ofChange fnExactAmountOfSpec)

/-- ITS FALSE NEIGHBOUR: 'it returns false'. Refute it at one input. -/
def fnExactAmountOfWrong : ChangeSpec := { name := "fnExactAmountOf", fn := fun _ => fun
  | [d1, d2] => { results := [.lit (.bool false)], args := [d1, d2] }
  | _ => none }
def FnExactAmountOfWrongFalsely : Prop := fnExactAmountOfRow.holds Try.pinned (OpenSpec.ofChange fnExactAmountOfWrong)

/-- 'laws.FnExactAmountLeast': WHATEVER THE INPUT: true; the input reads as it did. -/
def fnExactAmountLeastSpec : ChangeSpec := { name := "fnExactAmountLeast", fn := fun _ => fun
  | [d1, d2] => { results := [.lit (.bool true)], args := [d1, d2] }
  | _ => none }
def fnExactAmountLeastRow : OpenClaim := { program := "ytmcooaopbigebaa", sum := "3dcd59ac0175ef81f7e6a904e64553ac912ad276779d63a18ed4242208bedb4e", func := "loop.example/countingboards/laws.FnExactAmountLeast", spec := "fnExactAmountLeast", apart := false }
def FnExactAmountLeastSaid : Prop := fnExactAmountLeastRow.holds Try.pinned (OpenSpec.ofChange fnExactAmountLeastSpec)

/-- ITS FALSE NEIGHBOUR: 'it returns false'. Refute it at one input. -/
def fnExactAmountLeastWrong : ChangeSpec := { name := "fnExactAmountLeast", fn := fun _ => fun
  | [d1, d2] => { results := [.lit (.bool false)], args := [d1, d2] }
  | _ => none }
def FnExactAmountLeastWrongFalsely : Prop := fnExactAmountLeastRow.holds Try.pinned (OpenSpec.ofChange fnExactAmountLeastWrong)

/-- 'laws.FnAmountLeast': WHATEVER THE INPUT: true; the input reads as it did. -/
def fnAmountLeastSpec : ChangeSpec := { name := "fnAmountLeast", fn := fun _ => fun
  | [d1, d2] => { results := [.lit (.bool true)], args := [d1, d2] }
  | _ => none }
def fnAmountLeastRow : OpenClaim := { program := "ytmcooaopbigebaa", sum := "3dcd59ac0175ef81f7e6a904e64553ac912ad276779d63a18ed4242208bedb4e", func := "loop.example/countingboards/laws.FnAmountLeast", spec := "fnAmountLeast", apart := false }
def FnAmountLeastSaid : Prop := fnAmountLeastRow.holds Try.pinned (OpenSpec.ofChange fnAmountLeastSpec)

/-- ITS FALSE NEIGHBOUR: 'it returns false'. Refute it at one input. -/
def fnAmountLeastWrong : ChangeSpec := { name := "fnAmountLeast", fn := fun _ => fun
  | [d1, d2] => { results := [.lit (.bool false)], args := [d1, d2] }
  | _ => none }
def FnAmountLeastWrongFalsely : Prop := fnAmountLeastRow.holds Try.pinned (OpenSpec.ofChange fnAmountLeastWrong)

/-- 'laws.FnExactAmountOrder': WHATEVER THE INPUT: true; the input reads as it did. -/
def fnExactAmountOrderSpec : ChangeSpec := { name := "fnExactAmountOrder", fn := fun _ => fun
  | [d1, d2, d3] => { results := [.lit (.bool true)], args := [d1, d2, d3] }
  | _ => none }
def fnExactAmountOrderRow : OpenClaim := { program := "ytmcooaopbigebaa", sum := "3dcd59ac0175ef81f7e6a904e64553ac912ad276779d63a18ed4242208bedb4e", func := "loop.example/countingboards/laws.FnExactAmountOrder", spec := "fnExactAmountOrder", apart := false }
def FnExactAmountOrderSaid : Prop := fnExactAmountOrderRow.holds Try.pinned (OpenSpec.ofChange fnExactAmountOrderSpec)

/-- ITS FALSE NEIGHBOUR: 'it returns false'. Refute it at one input. -/
def fnExactAmountOrderWrong : ChangeSpec := { name := "fnExactAmountOrder", fn := fun _ => fun
  | [d1, d2, d3] => { results := [.lit (.bool false)], args := [d1, d2, d3] }
  | _ => none }
def FnExactAmountOrderWrongFalsely : Prop := fnExactAmountOrderRow.holds Try.pinned (OpenSpec.ofChange fnExactAmountOrderWrong)

/-- 'laws.FnAmountOf': WHATEVER THE INPUT: true; the input reads as it did. -/
def fnAmountOfSpec : ChangeSpec := { name := "fnAmountOf", fn := fun _ => fun
  | [d] => { results := [.lit (.bool true)], args := [d] }
  | _ => none }
def fnAmountOfRow : OpenClaim := { program := "ytmcooaopbigebaa", sum := "3dcd59ac0175ef81f7e6a904e64553ac912ad276779d63a18ed4242208bedb4e", func := "loop.example/countingboards/laws.FnAmountOf", spec := "fnAmountOf", apart := false }
def FnAmountOfSaid : Prop := fnAmountOfRow.holds Try.pinned (OpenSpec.ofChange fnAmountOfSpec)

/-- ITS FALSE NEIGHBOUR: 'it returns false'. Refute it at one input. -/
def fnAmountOfWrong : ChangeSpec := { name := "fnAmountOf", fn := fun _ => fun
  | [d] => { results := [.lit (.bool false)], args := [d] }
  | _ => none }
def FnAmountOfWrongFalsely : Prop := fnAmountOfRow.holds Try.pinned (OpenSpec.ofChange fnAmountOfWrong)

/-- 'laws.FnExactAmountProper': WHATEVER THE INPUT: true; the input reads as it did. -/
def fnExactAmountProperSpec : ChangeSpec := { name := "fnExactAmountProper", fn := fun _ => fun
  | [d1, d2] => { results := [.lit (.bool true)], args := [d1, d2] }
  | _ => none }
def fnExactAmountProperRow : OpenClaim := { program := "ytmcooaopbigebaa", sum := "3dcd59ac0175ef81f7e6a904e64553ac912ad276779d63a18ed4242208bedb4e", func := "loop.example/countingboards/laws.FnExactAmountProper", spec := "fnExactAmountProper", apart := false }
def FnExactAmountProperSaid : Prop := fnExactAmountProperRow.holds Try.pinned (OpenSpec.ofChange fnExactAmountProperSpec)

/-- ITS FALSE NEIGHBOUR: 'it returns false'. Refute it at one input. -/
def fnExactAmountProperWrong : ChangeSpec := { name := "fnExactAmountProper", fn := fun _ => fun
  | [d1, d2] => { results := [.lit (.bool false)], args := [d1, d2] }
  | _ => none }
def FnExactAmountProperWrongFalsely : Prop := fnExactAmountProperRow.holds Try.pinned (OpenSpec.ofChange fnExactAmountProperWrong)

/-- 'laws.FnExactAmountTimes': WHATEVER THE INPUT: true; the input reads as it did. -/
def fnExactAmountTimesSpec : ChangeSpec := { name := "fnExactAmountTimes", fn := fun _ => fun
  | [d1, d2, d3] => { results := [.lit (.bool true)], args := [d1, d2, d3] }
  | _ => none }
def fnExactAmountTimesRow : OpenClaim := { program := "ytmcooaopbigebaa", sum := "3dcd59ac0175ef81f7e6a904e64553ac912ad276779d63a18ed4242208bedb4e", func := "loop.example/countingboards/laws.FnExactAmountTimes", spec := "fnExactAmountTimes", apart := false }
def FnExactAmountTimesSaid : Prop := fnExactAmountTimesRow.holds Try.pinned (OpenSpec.ofChange fnExactAmountTimesSpec)

/-- ITS FALSE NEIGHBOUR: 'it returns false'. Refute it at one input. -/
def fnExactAmountTimesWrong : ChangeSpec := { name := "fnExactAmountTimes", fn := fun _ => fun
  | [d1, d2, d3] => { results := [.lit (.bool false)], args := [d1, d2, d3] }
  | _ => none }
def FnExactAmountTimesWrongFalsely : Prop := fnExactAmountTimesRow.holds Try.pinned (OpenSpec.ofChange fnExactAmountTimesWrong)

/-- 'laws.FnExactAmountConvert': WHATEVER THE INPUT: true; the input reads as it did. -/
def fnExactAmountConvertSpec : ChangeSpec := { name := "fnExactAmountConvert", fn := fun _ => fun
  | [d1, d2, d3, d4, d5] => { results := [.lit (.bool true)], args := [d1, d2, d3, d4, d5] }
  | _ => none }
def fnExactAmountConvertRow : OpenClaim := { program := "ytmcooaopbigebaa", sum := "3dcd59ac0175ef81f7e6a904e64553ac912ad276779d63a18ed4242208bedb4e", func := "loop.example/countingboards/laws.FnExactAmountConvert", spec := "fnExactAmountConvert", apart := false }
def FnExactAmountConvertSaid : Prop := fnExactAmountConvertRow.holds Try.pinned (OpenSpec.ofChange fnExactAmountConvertSpec)

/-- ITS FALSE NEIGHBOUR: 'it returns false'. Refute it at one input. -/
def fnExactAmountConvertWrong : ChangeSpec := { name := "fnExactAmountConvert", fn := fun _ => fun
  | [d1, d2, d3, d4, d5] => { results := [.lit (.bool false)], args := [d1, d2, d3, d4, d5] }
  | _ => none }
def FnExactAmountConvertWrongFalsely : Prop := fnExactAmountConvertRow.holds Try.pinned (OpenSpec.ofChange fnExactAmountConvertWrong)

/- THE SECOND FORM. 'bulk': how many values and letters a reading holds, each counted each time it is reached (what is shared counts as often as it is met; a slice's spare places count too). A statement '..UptoSaid' is the law's where the arguments, and the package variables that the reading takes, are together of bulk at most 1048576: NARROWER than '..Said'. Prove '..Said' where nothing that the law and all that it calls make is longer than what came in: it says more and counts as full. Else prove '..UptoSaid'. A law counts once. -/
mutual
def uptoBulk {H : Type} : DataW H → Nat
  | .lit (.string bytes) => bytes.length + 1
  | .lit _ => 1
  | .nil => 1
  | .ptr d => uptoBulk d + 1
  | .slice elems spare => uptoBulkAll elems + uptoBulkAll spare + 1
  | .agg parts => uptoBulkAll parts + 1
  | .iface _ d => uptoBulk d + 1
  | .map entries => uptoBulkEntries entries + 1
  | .held _ => 1
def uptoBulkAll {H : Type} : List (DataW H) → Nat
  | [] => 0
  | d :: r => uptoBulk d + uptoBulkAll r
def uptoBulkEntries {H : Type} : List (Lit × DataW H) → Nat
  | [] => 0
  | x :: r => uptoBulkEntry x + uptoBulkEntries r
def uptoBulkEntry {H : Type} : Lit × DataW H → Nat
  | (.string bytes, d) => bytes.length + uptoBulk d + 1
  | (_, d) => uptoBulk d + 1
 end
def uptoSmall : (H : Type) → List (DataW H) → Bool := fun _ ds => decide (uptoBulkAll ds ≤ 1048576)
def OpenSpec.upto (s : _root_.Go.ChangeSpec) : _root_.Go.OpenSpec := { _root_.Go.OpenSpec.ofChange s with cond := some uptoSmall }

/-- 'laws.FnExactMeasureValid', WHERE WHAT IT READS IS OF BULK AT MOST 1048576: true; the input reads as it did. -/
def fnExactMeasureValidUptoRow : OpenClaim := { program := "ytmcooaopbigebaa", sum := "3dcd59ac0175ef81f7e6a904e64553ac912ad276779d63a18ed4242208bedb4e", func := "loop.example/countingboards/laws.FnExactMeasureValid", spec := "fnExactMeasureValid", apart := false, narrowed := true }
def FnExactMeasureValidUptoSaid : Prop := fnExactMeasureValidUptoRow.holds Try.pinned (OpenSpec.upto fnExactMeasureValidSpec)

/-- 'laws.FnWorths', WHERE WHAT IT READS IS OF BULK AT MOST 1048576: true; the input reads as it did. -/
def fnWorthsUptoRow : OpenClaim := { program := "ytmcooaopbigebaa", sum := "3dcd59ac0175ef81f7e6a904e64553ac912ad276779d63a18ed4242208bedb4e", func := "loop.example/countingboards/laws.FnWorths", spec := "fnWorths", apart := false, narrowed := true }
def FnWorthsUptoSaid : Prop := fnWorthsUptoRow.holds Try.pinned (OpenSpec.upto fnWorthsSpec)

/-- 'laws.FnExactMeasureWorths', WHERE WHAT IT READS IS OF BULK AT MOST 1048576: true; the input reads as it did. -/
def fnExactMeasureWorthsUptoRow : OpenClaim := { program := "ytmcooaopbigebaa", sum := "3dcd59ac0175ef81f7e6a904e64553ac912ad276779d63a18ed4242208bedb4e", func := "loop.example/countingboards/laws.FnExactMeasureWorths", spec := "fnExactMeasureWorths", apart := false, narrowed := true }
def FnExactMeasureWorthsUptoSaid : Prop := fnExactMeasureWorthsUptoRow.holds Try.pinned (OpenSpec.upto fnExactMeasureWorthsSpec)

/-- 'laws.FnExactAmountValid', WHERE WHAT IT READS IS OF BULK AT MOST 1048576: true; the input reads as it did. -/
def fnExactAmountValidUptoRow : OpenClaim := { program := "ytmcooaopbigebaa", sum := "3dcd59ac0175ef81f7e6a904e64553ac912ad276779d63a18ed4242208bedb4e", func := "loop.example/countingboards/laws.FnExactAmountValid", spec := "fnExactAmountValid", apart := false, narrowed := true }
def FnExactAmountValidUptoSaid : Prop := fnExactAmountValidUptoRow.holds Try.pinned (OpenSpec.upto fnExactAmountValidSpec)

/-- 'laws.FnExactAmountOf', WHERE WHAT IT READS IS OF BULK AT MOST 1048576: true; the input reads as it did. -/
def fnExactAmountOfUptoRow : OpenClaim := { program := "ytmcooaopbigebaa", sum := "3dcd59ac0175ef81f7e6a904e64553ac912ad276779d63a18ed4242208bedb4e", func := "loop.example/countingboards/laws.FnExactAmountOf", spec := "fnExactAmountOf", apart := false, narrowed := true }
def FnExactAmountOfUptoSaid : Prop := fnExactAmountOfUptoRow.holds Try.pinned (OpenSpec.upto fnExactAmountOfSpec)

/-- 'laws.FnExactAmountLeast', WHERE WHAT IT READS IS OF BULK AT MOST 1048576: true; the input reads as it did. -/
def fnExactAmountLeastUptoRow : OpenClaim := { program := "ytmcooaopbigebaa", sum := "3dcd59ac0175ef81f7e6a904e64553ac912ad276779d63a18ed4242208bedb4e", func := "loop.example/countingboards/laws.FnExactAmountLeast", spec := "fnExactAmountLeast", apart := false, narrowed := true }
def FnExactAmountLeastUptoSaid : Prop := fnExactAmountLeastUptoRow.holds Try.pinned (OpenSpec.upto fnExactAmountLeastSpec)

/-- 'laws.FnAmountLeast', WHERE WHAT IT READS IS OF BULK AT MOST 1048576: true; the input reads as it did. -/
def fnAmountLeastUptoRow : OpenClaim := { program := "ytmcooaopbigebaa", sum := "3dcd59ac0175ef81f7e6a904e64553ac912ad276779d63a18ed4242208bedb4e", func := "loop.example/countingboards/laws.FnAmountLeast", spec := "fnAmountLeast", apart := false, narrowed := true }
def FnAmountLeastUptoSaid : Prop := fnAmountLeastUptoRow.holds Try.pinned (OpenSpec.upto fnAmountLeastSpec)

/-- 'laws.FnExactAmountOrder', WHERE WHAT IT READS IS OF BULK AT MOST 1048576: true; the input reads as it did. -/
def fnExactAmountOrderUptoRow : OpenClaim := { program := "ytmcooaopbigebaa", sum := "3dcd59ac0175ef81f7e6a904e64553ac912ad276779d63a18ed4242208bedb4e", func := "loop.example/countingboards/laws.FnExactAmountOrder", spec := "fnExactAmountOrder", apart := false, narrowed := true }
def FnExactAmountOrderUptoSaid : Prop := fnExactAmountOrderUptoRow.holds Try.pinned (OpenSpec.upto fnExactAmountOrderSpec)

/-- 'laws.FnAmountOf', WHERE WHAT IT READS IS OF BULK AT MOST 1048576: true; the input reads as it did. -/
def fnAmountOfUptoRow : OpenClaim := { program := "ytmcooaopbigebaa", sum := "3dcd59ac0175ef81f7e6a904e64553ac912ad276779d63a18ed4242208bedb4e", func := "loop.example/countingboards/laws.FnAmountOf", spec := "fnAmountOf", apart := false, narrowed := true }
def FnAmountOfUptoSaid : Prop := fnAmountOfUptoRow.holds Try.pinned (OpenSpec.upto fnAmountOfSpec)

/-- 'laws.FnExactAmountProper', WHERE WHAT IT READS IS OF BULK AT MOST 1048576: true; the input reads as it did. -/
def fnExactAmountProperUptoRow : OpenClaim := { program := "ytmcooaopbigebaa", sum := "3dcd59ac0175ef81f7e6a904e64553ac912ad276779d63a18ed4242208bedb4e", func := "loop.example/countingboards/laws.FnExactAmountProper", spec := "fnExactAmountProper", apart := false, narrowed := true }
def FnExactAmountProperUptoSaid : Prop := fnExactAmountProperUptoRow.holds Try.pinned (OpenSpec.upto fnExactAmountProperSpec)

/-- 'laws.FnExactAmountTimes', WHERE WHAT IT READS IS OF BULK AT MOST 1048576: true; the input reads as it did. -/
def fnExactAmountTimesUptoRow : OpenClaim := { program := "ytmcooaopbigebaa", sum := "3dcd59ac0175ef81f7e6a904e64553ac912ad276779d63a18ed4242208bedb4e", func := "loop.example/countingboards/laws.FnExactAmountTimes", spec := "fnExactAmountTimes", apart := false, narrowed := true }
def FnExactAmountTimesUptoSaid : Prop := fnExactAmountTimesUptoRow.holds Try.pinned (OpenSpec.upto fnExactAmountTimesSpec)

/-- 'laws.FnExactAmountConvert', WHERE WHAT IT READS IS OF BULK AT MOST 1048576: true; the input reads as it did. -/
def fnExactAmountConvertUptoRow : OpenClaim := { program := "ytmcooaopbigebaa", sum := "3dcd59ac0175ef81f7e6a904e64553ac912ad276779d63a18ed4242208bedb4e", func := "loop.example/countingboards/laws.FnExactAmountConvert", spec := "fnExactAmountConvert", apart := false, narrowed := true }
def FnExactAmountConvertUptoSaid : Prop := fnExactAmountConvertUptoRow.holds Try.pinned (OpenSpec.upto fnExactAmountConvertSpec)

end Rows
end Go.Proofs.Ytmcooaopbigebaa
