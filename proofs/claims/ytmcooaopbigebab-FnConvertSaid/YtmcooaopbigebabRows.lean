/-
  No cell of these rows narrows 'for every input' (looked for: loops, veiled, ifaces, maps, wideKeys, modest, calm, conditions, laid).
  DERIVED. THE GIVEN ROWS OF THIS SEAT. 10 by the template 'for every input the law returns true; each argument reads behind the call as it read before'; 0 by the template 'total and deterministic' (their statements: YtmcooaopbigebabTotals.lean).
  GIVEN WITH THE SEED: the statements are not yours to turn. If you find one false, say at which input.
  Laid BY PROGRAM, IN A SANDBOX (cutbox-rows.mjs): the forced cells as the released guide's own fill.sh prints them over the translation eaf7363cc6401670… (all of the seat's roots in one cut). By AI agents, Wed Nov 11 2026. No macro, syntax, notation, axiom, sorry.
-/
import Derived.Test.YtmcooaopbigebabChecked
import GoSem.Claim
import GoSem.ClaimJoined
import GoSem.ClaimMapViews
import Derived.JoinedTies
import Derived.KernelRfl
namespace Go.Proofs.Ytmcooaopbigebab
/- THE CELL 'sum', in the pinned program and in every row, IS THE sha256 OF THE DUMP (.gsa) THAT YtmcooaopbigebabProg.lean LOADS. Nothing in Lean hashes anything: it is a label: what it is worth is what the hold of that sum in a sandbox is worth. -/
noncomputable def Try.pinned : Pinned := { name := "ytmcooaopbigebab", sum := "eaf7363cc640167071aea5952997f1a7ad43c6144746a0fa54aa17fd0f595788", checked := Try.checked }
namespace Rows
def none {H : Type} : Left H := { results := [], args := [] }

/-- 'laws.FnExactAmountShare': WHATEVER THE INPUT: true; the input reads as it did. -/
def fnExactAmountShareSpec : ChangeSpec := { name := "fnExactAmountShare", fn := fun _ => fun
  | [d1, d2, d3] => { results := [.lit (.bool true)], args := [d1, d2, d3] }
  | _ => none }
def fnExactAmountShareRow : OpenClaim := { program := "ytmcooaopbigebab", sum := "eaf7363cc640167071aea5952997f1a7ad43c6144746a0fa54aa17fd0f595788", func := "loop.example/countingboards/laws.FnExactAmountShare", spec := "fnExactAmountShare", apart := false }
def FnExactAmountShareSaid : Prop := fnExactAmountShareRow.holds Try.pinned (OpenSpec.ofChange fnExactAmountShareSpec)

/-- ITS FALSE NEIGHBOUR: 'it returns false'. Refute it at one input. -/
def fnExactAmountShareWrong : ChangeSpec := { name := "fnExactAmountShare", fn := fun _ => fun
  | [d1, d2, d3] => { results := [.lit (.bool false)], args := [d1, d2, d3] }
  | _ => none }
def FnExactAmountShareWrongFalsely : Prop := fnExactAmountShareRow.holds Try.pinned (OpenSpec.ofChange fnExactAmountShareWrong)

/-- 'laws.FnExactAmountAdd': WHATEVER THE INPUT: true; the input reads as it did. -/
def fnExactAmountAddSpec : ChangeSpec := { name := "fnExactAmountAdd", fn := fun _ => fun
  | [d1, d2, d3] => { results := [.lit (.bool true)], args := [d1, d2, d3] }
  | _ => none }
def fnExactAmountAddRow : OpenClaim := { program := "ytmcooaopbigebab", sum := "eaf7363cc640167071aea5952997f1a7ad43c6144746a0fa54aa17fd0f595788", func := "loop.example/countingboards/laws.FnExactAmountAdd", spec := "fnExactAmountAdd", apart := false }
def FnExactAmountAddSaid : Prop := fnExactAmountAddRow.holds Try.pinned (OpenSpec.ofChange fnExactAmountAddSpec)

/-- ITS FALSE NEIGHBOUR: 'it returns false'. Refute it at one input. -/
def fnExactAmountAddWrong : ChangeSpec := { name := "fnExactAmountAdd", fn := fun _ => fun
  | [d1, d2, d3] => { results := [.lit (.bool false)], args := [d1, d2, d3] }
  | _ => none }
def FnExactAmountAddWrongFalsely : Prop := fnExactAmountAddRow.holds Try.pinned (OpenSpec.ofChange fnExactAmountAddWrong)

/-- 'laws.FnExactAmountTake': WHATEVER THE INPUT: true; the input reads as it did. -/
def fnExactAmountTakeSpec : ChangeSpec := { name := "fnExactAmountTake", fn := fun _ => fun
  | [d1, d2, d3] => { results := [.lit (.bool true)], args := [d1, d2, d3] }
  | _ => none }
def fnExactAmountTakeRow : OpenClaim := { program := "ytmcooaopbigebab", sum := "eaf7363cc640167071aea5952997f1a7ad43c6144746a0fa54aa17fd0f595788", func := "loop.example/countingboards/laws.FnExactAmountTake", spec := "fnExactAmountTake", apart := false }
def FnExactAmountTakeSaid : Prop := fnExactAmountTakeRow.holds Try.pinned (OpenSpec.ofChange fnExactAmountTakeSpec)

/-- ITS FALSE NEIGHBOUR: 'it returns false'. Refute it at one input. -/
def fnExactAmountTakeWrong : ChangeSpec := { name := "fnExactAmountTake", fn := fun _ => fun
  | [d1, d2, d3] => { results := [.lit (.bool false)], args := [d1, d2, d3] }
  | _ => none }
def FnExactAmountTakeWrongFalsely : Prop := fnExactAmountTakeRow.holds Try.pinned (OpenSpec.ofChange fnExactAmountTakeWrong)

/-- 'laws.FnConvert': WHATEVER THE INPUT: true; the input reads as it did. -/
def fnConvertSpec : ChangeSpec := { name := "fnConvert", fn := fun _ => fun
  | [d] => { results := [.lit (.bool true)], args := [d] }
  | _ => none }
def fnConvertRow : OpenClaim := { program := "ytmcooaopbigebab", sum := "eaf7363cc640167071aea5952997f1a7ad43c6144746a0fa54aa17fd0f595788", func := "loop.example/countingboards/laws.FnConvert", spec := "fnConvert", apart := false }
def FnConvertSaid : Prop := fnConvertRow.holds Try.pinned (OpenSpec.ofChange fnConvertSpec)

/-- ITS FALSE NEIGHBOUR: 'it returns false'. Refute it at one input. -/
def fnConvertWrong : ChangeSpec := { name := "fnConvert", fn := fun _ => fun
  | [d] => { results := [.lit (.bool false)], args := [d] }
  | _ => none }
def FnConvertWrongFalsely : Prop := fnConvertRow.holds Try.pinned (OpenSpec.ofChange fnConvertWrong)

/-- 'laws.FnAmountProper': WHATEVER THE INPUT: true; the input reads as it did. -/
def fnAmountProperSpec : ChangeSpec := { name := "fnAmountProper", fn := fun _ => fun
  | [d] => { results := [.lit (.bool true)], args := [d] }
  | _ => none }
def fnAmountProperRow : OpenClaim := { program := "ytmcooaopbigebab", sum := "eaf7363cc640167071aea5952997f1a7ad43c6144746a0fa54aa17fd0f595788", func := "loop.example/countingboards/laws.FnAmountProper", spec := "fnAmountProper", apart := false }
def FnAmountProperSaid : Prop := fnAmountProperRow.holds Try.pinned (OpenSpec.ofChange fnAmountProperSpec)

/-- ITS FALSE NEIGHBOUR: 'it returns false'. Refute it at one input. -/
def fnAmountProperWrong : ChangeSpec := { name := "fnAmountProper", fn := fun _ => fun
  | [d] => { results := [.lit (.bool false)], args := [d] }
  | _ => none }
def FnAmountProperWrongFalsely : Prop := fnAmountProperRow.holds Try.pinned (OpenSpec.ofChange fnAmountProperWrong)

/-- 'laws.FnAmountAdd': WHATEVER THE INPUT: true; the input reads as it did. -/
def fnAmountAddSpec : ChangeSpec := { name := "fnAmountAdd", fn := fun _ => fun
  | [d] => { results := [.lit (.bool true)], args := [d] }
  | _ => none }
def fnAmountAddRow : OpenClaim := { program := "ytmcooaopbigebab", sum := "eaf7363cc640167071aea5952997f1a7ad43c6144746a0fa54aa17fd0f595788", func := "loop.example/countingboards/laws.FnAmountAdd", spec := "fnAmountAdd", apart := false }
def FnAmountAddSaid : Prop := fnAmountAddRow.holds Try.pinned (OpenSpec.ofChange fnAmountAddSpec)

/-- ITS FALSE NEIGHBOUR: 'it returns false'. Refute it at one input. -/
def fnAmountAddWrong : ChangeSpec := { name := "fnAmountAdd", fn := fun _ => fun
  | [d] => { results := [.lit (.bool false)], args := [d] }
  | _ => none }
def FnAmountAddWrongFalsely : Prop := fnAmountAddRow.holds Try.pinned (OpenSpec.ofChange fnAmountAddWrong)

/-- 'laws.FnAmountTimes': WHATEVER THE INPUT: true; the input reads as it did. -/
def fnAmountTimesSpec : ChangeSpec := { name := "fnAmountTimes", fn := fun _ => fun
  | [d] => { results := [.lit (.bool true)], args := [d] }
  | _ => none }
def fnAmountTimesRow : OpenClaim := { program := "ytmcooaopbigebab", sum := "eaf7363cc640167071aea5952997f1a7ad43c6144746a0fa54aa17fd0f595788", func := "loop.example/countingboards/laws.FnAmountTimes", spec := "fnAmountTimes", apart := false }
def FnAmountTimesSaid : Prop := fnAmountTimesRow.holds Try.pinned (OpenSpec.ofChange fnAmountTimesSpec)

/-- ITS FALSE NEIGHBOUR: 'it returns false'. Refute it at one input. -/
def fnAmountTimesWrong : ChangeSpec := { name := "fnAmountTimes", fn := fun _ => fun
  | [d] => { results := [.lit (.bool false)], args := [d] }
  | _ => none }
def FnAmountTimesWrongFalsely : Prop := fnAmountTimesRow.holds Try.pinned (OpenSpec.ofChange fnAmountTimesWrong)

/-- 'laws.FnAmountOrder': WHATEVER THE INPUT: true; the input reads as it did. -/
def fnAmountOrderSpec : ChangeSpec := { name := "fnAmountOrder", fn := fun _ => fun
  | [d] => { results := [.lit (.bool true)], args := [d] }
  | _ => none }
def fnAmountOrderRow : OpenClaim := { program := "ytmcooaopbigebab", sum := "eaf7363cc640167071aea5952997f1a7ad43c6144746a0fa54aa17fd0f595788", func := "loop.example/countingboards/laws.FnAmountOrder", spec := "fnAmountOrder", apart := false }
def FnAmountOrderSaid : Prop := fnAmountOrderRow.holds Try.pinned (OpenSpec.ofChange fnAmountOrderSpec)

/-- ITS FALSE NEIGHBOUR: 'it returns false'. Refute it at one input. -/
def fnAmountOrderWrong : ChangeSpec := { name := "fnAmountOrder", fn := fun _ => fun
  | [d] => { results := [.lit (.bool false)], args := [d] }
  | _ => none }
def FnAmountOrderWrongFalsely : Prop := fnAmountOrderRow.holds Try.pinned (OpenSpec.ofChange fnAmountOrderWrong)

/-- 'laws.FnAmountShare': WHATEVER THE INPUT: true; the input reads as it did. -/
def fnAmountShareSpec : ChangeSpec := { name := "fnAmountShare", fn := fun _ => fun
  | [d] => { results := [.lit (.bool true)], args := [d] }
  | _ => none }
def fnAmountShareRow : OpenClaim := { program := "ytmcooaopbigebab", sum := "eaf7363cc640167071aea5952997f1a7ad43c6144746a0fa54aa17fd0f595788", func := "loop.example/countingboards/laws.FnAmountShare", spec := "fnAmountShare", apart := false }
def FnAmountShareSaid : Prop := fnAmountShareRow.holds Try.pinned (OpenSpec.ofChange fnAmountShareSpec)

/-- ITS FALSE NEIGHBOUR: 'it returns false'. Refute it at one input. -/
def fnAmountShareWrong : ChangeSpec := { name := "fnAmountShare", fn := fun _ => fun
  | [d] => { results := [.lit (.bool false)], args := [d] }
  | _ => none }
def FnAmountShareWrongFalsely : Prop := fnAmountShareRow.holds Try.pinned (OpenSpec.ofChange fnAmountShareWrong)

/-- 'laws.FnAmountTake': WHATEVER THE INPUT: true; the input reads as it did. -/
def fnAmountTakeSpec : ChangeSpec := { name := "fnAmountTake", fn := fun _ => fun
  | [d] => { results := [.lit (.bool true)], args := [d] }
  | _ => none }
def fnAmountTakeRow : OpenClaim := { program := "ytmcooaopbigebab", sum := "eaf7363cc640167071aea5952997f1a7ad43c6144746a0fa54aa17fd0f595788", func := "loop.example/countingboards/laws.FnAmountTake", spec := "fnAmountTake", apart := false }
def FnAmountTakeSaid : Prop := fnAmountTakeRow.holds Try.pinned (OpenSpec.ofChange fnAmountTakeSpec)

/-- ITS FALSE NEIGHBOUR: 'it returns false'. Refute it at one input. -/
def fnAmountTakeWrong : ChangeSpec := { name := "fnAmountTake", fn := fun _ => fun
  | [d] => { results := [.lit (.bool false)], args := [d] }
  | _ => none }
def FnAmountTakeWrongFalsely : Prop := fnAmountTakeRow.holds Try.pinned (OpenSpec.ofChange fnAmountTakeWrong)

/- THE SECOND FORM. 'bulk': how many values and letters a reading holds, each counted each time it is reached (what is shared counts as often as it is met; a slice's spare places count too). A statement '..UptoSaid' is the law's where the arguments, and the package variables that the reading takes, are together of bulk at most 1048576: NARROWER than '..Said'. Prove '..Said' where nothing that the law and all that it calls make is longer than what came in: it says more and counts as full. Else prove '..UptoSaid'. A law counts once. -/
mutual
def uptoBulk {H : Type} : DataW H → Nat
  | .lit (.string bytes) => bytes.length + 1
  | .lit _ => 1
  | .nil => 1
  | .ptr d => uptoBulk d + 1
  | .slice elems spare => uptoBulkAll elems + uptoBulkAll spare + 1
  | .agg parts => uptoBulkAll parts + 1
  | .iface _ d => uptoBulk d + 1
  | .map entries => uptoBulkEntries entries + 1
  | .held _ => 1
def uptoBulkAll {H : Type} : List (DataW H) → Nat
  | [] => 0
  | d :: r => uptoBulk d + uptoBulkAll r
def uptoBulkEntries {H : Type} : List (Lit × DataW H) → Nat
  | [] => 0
  | x :: r => uptoBulkEntry x + uptoBulkEntries r
def uptoBulkEntry {H : Type} : Lit × DataW H → Nat
  | (.string bytes, d) => bytes.length + uptoBulk d + 1
  | (_, d) => uptoBulk d + 1
 end
def uptoSmall : (H : Type) → List (DataW H) → Bool := fun _ ds => decide (uptoBulkAll ds ≤ 1048576)
def OpenSpec.upto (s : _root_.Go.ChangeSpec) : _root_.Go.OpenSpec := { _root_.Go.OpenSpec.ofChange s with cond := some uptoSmall }

/-- 'laws.FnExactAmountShare', WHERE WHAT IT READS IS OF BULK AT MOST 1048576: true; the input reads as it did. -/
def fnExactAmountShareUptoRow : OpenClaim := { program := "ytmcooaopbigebab", sum := "eaf7363cc640167071aea5952997f1a7ad43c6144746a0fa54aa17fd0f595788", func := "loop.example/countingboards/laws.FnExactAmountShare", spec := "fnExactAmountShare", apart := false, narrowed := true }
def FnExactAmountShareUptoSaid : Prop := fnExactAmountShareUptoRow.holds Try.pinned (OpenSpec.upto fnExactAmountShareSpec)

/-- 'laws.FnExactAmountAdd', WHERE WHAT IT READS IS OF BULK AT MOST 1048576: true; the input reads as it did. -/
def fnExactAmountAddUptoRow : OpenClaim := { program := "ytmcooaopbigebab", sum := "eaf7363cc640167071aea5952997f1a7ad43c6144746a0fa54aa17fd0f595788", func := "loop.example/countingboards/laws.FnExactAmountAdd", spec := "fnExactAmountAdd", apart := false, narrowed := true }
def FnExactAmountAddUptoSaid : Prop := fnExactAmountAddUptoRow.holds Try.pinned (OpenSpec.upto fnExactAmountAddSpec)

/-- 'laws.FnExactAmountTake', WHERE WHAT IT READS IS OF BULK AT MOST 1048576: true; the input reads as it did. -/
def fnExactAmountTakeUptoRow : OpenClaim := { program := "ytmcooaopbigebab", sum := "eaf7363cc640167071aea5952997f1a7ad43c6144746a0fa54aa17fd0f595788", func := "loop.example/countingboards/laws.FnExactAmountTake", spec := "fnExactAmountTake", apart := false, narrowed := true }
def FnExactAmountTakeUptoSaid : Prop := fnExactAmountTakeUptoRow.holds Try.pinned (OpenSpec.upto fnExactAmountTakeSpec)

/-- 'laws.FnConvert', WHERE WHAT IT READS IS OF BULK AT MOST 1048576: true; the input reads as it did. -/
def fnConvertUptoRow : OpenClaim := { program := "ytmcooaopbigebab", sum := "eaf7363cc640167071aea5952997f1a7ad43c6144746a0fa54aa17fd0f595788", func := "loop.example/countingboards/laws.FnConvert", spec := "fnConvert", apart := false, narrowed := true }
def FnConvertUptoSaid : Prop := fnConvertUptoRow.holds Try.pinned (OpenSpec.upto fnConvertSpec)

/-- 'laws.FnAmountProper', WHERE WHAT IT READS IS OF BULK AT MOST 1048576: true; the input reads as it did. -/
def fnAmountProperUptoRow : OpenClaim := { program := "ytmcooaopbigebab", sum := "eaf7363cc640167071aea5952997f1a7ad43c6144746a0fa54aa17fd0f595788", func := "loop.example/countingboards/laws.FnAmountProper", spec := "fnAmountProper", apart := false, narrowed := true }
def FnAmountProperUptoSaid : Prop := fnAmountProperUptoRow.holds Try.pinned (OpenSpec.upto fnAmountProperSpec)

/-- 'laws.FnAmountAdd', WHERE WHAT IT READS IS OF BULK AT MOST 1048576: true; the input reads as it did. -/
def fnAmountAddUptoRow : OpenClaim := { program := "ytmcooaopbigebab", sum := "eaf7363cc640167071aea5952997f1a7ad43c6144746a0fa54aa17fd0f595788", func := "loop.example/countingboards/laws.FnAmountAdd", spec := "fnAmountAdd", apart := false, narrowed := true }
def FnAmountAddUptoSaid : Prop := fnAmountAddUptoRow.holds Try.pinned (OpenSpec.upto fnAmountAddSpec)

/-- 'laws.FnAmountTimes', WHERE WHAT IT READS IS OF BULK AT MOST 1048576: true; the input reads as it did. -/
def fnAmountTimesUptoRow : OpenClaim := { program := "ytmcooaopbigebab", sum := "eaf7363cc640167071aea5952997f1a7ad43c6144746a0fa54aa17fd0f595788", func := "loop.example/countingboards/laws.FnAmountTimes", spec := "fnAmountTimes", apart := false, narrowed := true }
def FnAmountTimesUptoSaid : Prop := fnAmountTimesUptoRow.holds Try.pinned (OpenSpec.upto fnAmountTimesSpec)

/-- 'laws.FnAmountOrder', WHERE WHAT IT READS IS OF BULK AT MOST 1048576: true; the input reads as it did. -/
def fnAmountOrderUptoRow : OpenClaim := { program := "ytmcooaopbigebab", sum := "eaf7363cc640167071aea5952997f1a7ad43c6144746a0fa54aa17fd0f595788", func := "loop.example/countingboards/laws.FnAmountOrder", spec := "fnAmountOrder", apart := false, narrowed := true }
def FnAmountOrderUptoSaid : Prop := fnAmountOrderUptoRow.holds Try.pinned (OpenSpec.upto fnAmountOrderSpec)

/-- 'laws.FnAmountShare', WHERE WHAT IT READS IS OF BULK AT MOST 1048576: true; the input reads as it did. -/
def fnAmountShareUptoRow : OpenClaim := { program := "ytmcooaopbigebab", sum := "eaf7363cc640167071aea5952997f1a7ad43c6144746a0fa54aa17fd0f595788", func := "loop.example/countingboards/laws.FnAmountShare", spec := "fnAmountShare", apart := false, narrowed := true }
def FnAmountShareUptoSaid : Prop := fnAmountShareUptoRow.holds Try.pinned (OpenSpec.upto fnAmountShareSpec)

/-- 'laws.FnAmountTake', WHERE WHAT IT READS IS OF BULK AT MOST 1048576: true; the input reads as it did. -/
def fnAmountTakeUptoRow : OpenClaim := { program := "ytmcooaopbigebab", sum := "eaf7363cc640167071aea5952997f1a7ad43c6144746a0fa54aa17fd0f595788", func := "loop.example/countingboards/laws.FnAmountTake", spec := "fnAmountTake", apart := false, narrowed := true }
def FnAmountTakeUptoSaid : Prop := fnAmountTakeUptoRow.holds Try.pinned (OpenSpec.upto fnAmountTakeSpec)

end Rows
end Go.Proofs.Ytmcooaopbigebab
