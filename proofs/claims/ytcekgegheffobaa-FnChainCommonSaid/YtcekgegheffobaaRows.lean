/-
  No cell of these rows narrows 'for every input' (looked for: loops, veiled, ifaces, maps, wideKeys, modest, calm, conditions, laid).
  DERIVED. THE GIVEN ROWS OF THIS SEAT. 12 by the template 'for every input the law returns true; each argument reads behind the call as it read before'; 0 by the template 'total and deterministic' (their statements: YtcekgegheffobaaTotals.lean).
  GIVEN WITH THE SEED: the statements are not yours to turn. If you find one false, say at which input.
  Laid BY PROGRAM, IN A SANDBOX (cutbox-rows.mjs): the forced cells as the released guide's own fill.sh prints them over the translation 2e307d10d4447819… (all of the seat's roots in one cut). By AI agents, Wed Nov 11 2026. No macro, syntax, notation, axiom, sorry.
-/
import Derived.Test.YtcekgegheffobaaChecked
import GoSem.Claim
import GoSem.ClaimJoined
import GoSem.ClaimMapViews
import Derived.JoinedTies
import Derived.KernelRfl
namespace Go.Proofs.Ytcekgegheffobaa
/- THE CELL 'sum', in the pinned program and in every row, IS THE sha256 OF THE DUMP (.gsa) THAT YtcekgegheffobaaProg.lean LOADS. Nothing in Lean hashes anything: it is a label: what it is worth is what the hold of that sum in a sandbox is worth. -/
noncomputable def Try.pinned : Pinned := { name := "ytcekgegheffobaa", sum := "2e307d10d4447819e32614f7da4e3dd843c32f4581efa5b35e18d5b89b689da5", checked := Try.checked }
namespace Rows
def none {H : Type} : Left H := { results := [], args := [] }

/-- 'laws.FnExactCubeOf': WHATEVER THE INPUT: true; the input reads as it did. -/
def fnExactCubeOfSpec : ChangeSpec := { name := "fnExactCubeOf", fn := fun _ => fun
  | [d] => { results := [.lit (.bool true)], args := [d] }
  | _ => none }
def fnExactCubeOfRow : OpenClaim := { program := "ytcekgegheffobaa", sum := "2e307d10d4447819e32614f7da4e3dd843c32f4581efa5b35e18d5b89b689da5", func := "loop.example/countingboards/laws.FnExactCubeOf", spec := "fnExactCubeOf", apart := false }
def FnExactCubeOfSaid : Prop := fnExactCubeOfRow.holds Try.pinned (OpenSpec.ofChange fnExactCubeOfSpec)

/-- ITS FALSE NEIGHBOUR: 'it returns false'. Refute it at one input. -/
def fnExactCubeOfWrong : ChangeSpec := { name := "fnExactCubeOf", fn := fun _ => fun
  | [d] => { results := [.lit (.bool false)], args := [d] }
  | _ => none }
def FnExactCubeOfWrongFalsely : Prop := fnExactCubeOfRow.holds Try.pinned (OpenSpec.ofChange fnExactCubeOfWrong)

/-- 'laws.FnExactRootOdd': WHATEVER THE INPUT: true; the input reads as it did. -/
def fnExactRootOddSpec : ChangeSpec := { name := "fnExactRootOdd", fn := fun _ => fun
  | [d] => { results := [.lit (.bool true)], args := [d] }
  | _ => none }
def fnExactRootOddRow : OpenClaim := { program := "ytcekgegheffobaa", sum := "2e307d10d4447819e32614f7da4e3dd843c32f4581efa5b35e18d5b89b689da5", func := "loop.example/countingboards/laws.FnExactRootOdd", spec := "fnExactRootOdd", apart := false }
def FnExactRootOddSaid : Prop := fnExactRootOddRow.holds Try.pinned (OpenSpec.ofChange fnExactRootOddSpec)

/-- ITS FALSE NEIGHBOUR: 'it returns false'. Refute it at one input. -/
def fnExactRootOddWrong : ChangeSpec := { name := "fnExactRootOdd", fn := fun _ => fun
  | [d] => { results := [.lit (.bool false)], args := [d] }
  | _ => none }
def FnExactRootOddWrongFalsely : Prop := fnExactRootOddRow.holds Try.pinned (OpenSpec.ofChange fnExactRootOddWrong)

/-- 'laws.FnExactLongPeriod': WHATEVER THE INPUT: true; the input reads as it did. -/
def fnExactLongPeriodSpec : ChangeSpec := { name := "fnExactLongPeriod", fn := fun _ => fun
  | [d] => { results := [.lit (.bool true)], args := [d] }
  | _ => none }
def fnExactLongPeriodRow : OpenClaim := { program := "ytcekgegheffobaa", sum := "2e307d10d4447819e32614f7da4e3dd843c32f4581efa5b35e18d5b89b689da5", func := "loop.example/countingboards/laws.FnExactLongPeriod", spec := "fnExactLongPeriod", unfollowed := true, recurses := true, apart := false }
def FnExactLongPeriodSaid : Prop := fnExactLongPeriodRow.holds Try.pinned (OpenSpec.ofChange fnExactLongPeriodSpec)

/-- ITS FALSE NEIGHBOUR: 'it returns false'. Refute it at one input. -/
def fnExactLongPeriodWrong : ChangeSpec := { name := "fnExactLongPeriod", fn := fun _ => fun
  | [d] => { results := [.lit (.bool false)], args := [d] }
  | _ => none }
def FnExactLongPeriodWrongFalsely : Prop := fnExactLongPeriodRow.holds Try.pinned (OpenSpec.ofChange fnExactLongPeriodWrong)

/-- 'laws.FnExactRootOf': WHATEVER THE INPUT: true; the input reads as it did. -/
def fnExactRootOfSpec : ChangeSpec := { name := "fnExactRootOf", fn := fun _ => fun
  | [d] => { results := [.lit (.bool true)], args := [d] }
  | _ => none }
def fnExactRootOfRow : OpenClaim := { program := "ytcekgegheffobaa", sum := "2e307d10d4447819e32614f7da4e3dd843c32f4581efa5b35e18d5b89b689da5", func := "loop.example/countingboards/laws.FnExactRootOf", spec := "fnExactRootOf", apart := false }
def FnExactRootOfSaid : Prop := fnExactRootOfRow.holds Try.pinned (OpenSpec.ofChange fnExactRootOfSpec)

/-- ITS FALSE NEIGHBOUR: 'it returns false'. Refute it at one input. -/
def fnExactRootOfWrong : ChangeSpec := { name := "fnExactRootOf", fn := fun _ => fun
  | [d] => { results := [.lit (.bool false)], args := [d] }
  | _ => none }
def FnExactRootOfWrongFalsely : Prop := fnExactRootOfRow.holds Try.pinned (OpenSpec.ofChange fnExactRootOfWrong)

/-- 'laws.FnExactChainBack': WHATEVER THE INPUT: true; the input reads as it did. -/
def fnExactChainBackSpec : ChangeSpec := { name := "fnExactChainBack", fn := fun _ => fun
  | [d] => { results := [.lit (.bool true)], args := [d] }
  | _ => none }
def fnExactChainBackRow : OpenClaim := { program := "ytcekgegheffobaa", sum := "2e307d10d4447819e32614f7da4e3dd843c32f4581efa5b35e18d5b89b689da5", func := "loop.example/countingboards/laws.FnExactChainBack", spec := "fnExactChainBack", apart := false }
def FnExactChainBackSaid : Prop := fnExactChainBackRow.holds Try.pinned (OpenSpec.ofChange fnExactChainBackSpec)

/-- ITS FALSE NEIGHBOUR: 'it returns false'. Refute it at one input. -/
def fnExactChainBackWrong : ChangeSpec := { name := "fnExactChainBack", fn := fun _ => fun
  | [d] => { results := [.lit (.bool false)], args := [d] }
  | _ => none }
def FnExactChainBackWrongFalsely : Prop := fnExactChainBackRow.holds Try.pinned (OpenSpec.ofChange fnExactChainBackWrong)

/-- 'laws.FnRootOdd': WHATEVER THE INPUT: true; the input reads as it did. -/
def fnRootOddSpec : ChangeSpec := { name := "fnRootOdd", fn := fun _ => fun
  | [d] => { results := [.lit (.bool true)], args := [d] }
  | _ => none }
def fnRootOddRow : OpenClaim := { program := "ytcekgegheffobaa", sum := "2e307d10d4447819e32614f7da4e3dd843c32f4581efa5b35e18d5b89b689da5", func := "loop.example/countingboards/laws.FnRootOdd", spec := "fnRootOdd", apart := false }
def FnRootOddSaid : Prop := fnRootOddRow.holds Try.pinned (OpenSpec.ofChange fnRootOddSpec)

/-- ITS FALSE NEIGHBOUR: 'it returns false'. Refute it at one input. -/
def fnRootOddWrong : ChangeSpec := { name := "fnRootOdd", fn := fun _ => fun
  | [d] => { results := [.lit (.bool false)], args := [d] }
  | _ => none }
def FnRootOddWrongFalsely : Prop := fnRootOddRow.holds Try.pinned (OpenSpec.ofChange fnRootOddWrong)

/-- 'laws.FnExactChainCommon': WHATEVER THE INPUT: true; the input reads as it did. -/
def fnExactChainCommonSpec : ChangeSpec := { name := "fnExactChainCommon", fn := fun _ => fun
  | [d1, d2] => { results := [.lit (.bool true)], args := [d1, d2] }
  | _ => none }
def fnExactChainCommonRow : OpenClaim := { program := "ytcekgegheffobaa", sum := "2e307d10d4447819e32614f7da4e3dd843c32f4581efa5b35e18d5b89b689da5", func := "loop.example/countingboards/laws.FnExactChainCommon", spec := "fnExactChainCommon", recurses := true, apart := false }
def FnExactChainCommonSaid : Prop := fnExactChainCommonRow.holds Try.pinned (OpenSpec.ofChange fnExactChainCommonSpec)

/-- ITS FALSE NEIGHBOUR: 'it returns false'. Refute it at one input. -/
def fnExactChainCommonWrong : ChangeSpec := { name := "fnExactChainCommon", fn := fun _ => fun
  | [d1, d2] => { results := [.lit (.bool false)], args := [d1, d2] }
  | _ => none }
def FnExactChainCommonWrongFalsely : Prop := fnExactChainCommonRow.holds Try.pinned (OpenSpec.ofChange fnExactChainCommonWrong)

/-- 'laws.FnLongPeriod': WHATEVER THE INPUT: true; the input reads as it did. -/
def fnLongPeriodSpec : ChangeSpec := { name := "fnLongPeriod", fn := fun _ => fun
  | [d] => { results := [.lit (.bool true)], args := [d] }
  | _ => none }
def fnLongPeriodRow : OpenClaim := { program := "ytcekgegheffobaa", sum := "2e307d10d4447819e32614f7da4e3dd843c32f4581efa5b35e18d5b89b689da5", func := "loop.example/countingboards/laws.FnLongPeriod", spec := "fnLongPeriod", unfollowed := true, recurses := true, apart := false }
def FnLongPeriodSaid : Prop := fnLongPeriodRow.holds Try.pinned (OpenSpec.ofChange fnLongPeriodSpec)

/-- ITS FALSE NEIGHBOUR: 'it returns false'. Refute it at one input. -/
def fnLongPeriodWrong : ChangeSpec := { name := "fnLongPeriod", fn := fun _ => fun
  | [d] => { results := [.lit (.bool false)], args := [d] }
  | _ => none }
def FnLongPeriodWrongFalsely : Prop := fnLongPeriodRow.holds Try.pinned (OpenSpec.ofChange fnLongPeriodWrong)

/-- 'laws.FnExactChainOf': WHATEVER THE INPUT: true; the input reads as it did. -/
def fnExactChainOfSpec : ChangeSpec := { name := "fnExactChainOf", fn := fun _ => fun
  | [d1, d2] => { results := [.lit (.bool true)], args := [d1, d2] }
  | _ => none }
def fnExactChainOfRow : OpenClaim := { program := "ytcekgegheffobaa", sum := "2e307d10d4447819e32614f7da4e3dd843c32f4581efa5b35e18d5b89b689da5", func := "loop.example/countingboards/laws.FnExactChainOf", spec := "fnExactChainOf", recurses := true, apart := false }
def FnExactChainOfSaid : Prop := fnExactChainOfRow.holds Try.pinned (OpenSpec.ofChange fnExactChainOfSpec)

/-- ITS FALSE NEIGHBOUR: 'it returns false'. Refute it at one input. -/
def fnExactChainOfWrong : ChangeSpec := { name := "fnExactChainOf", fn := fun _ => fun
  | [d1, d2] => { results := [.lit (.bool false)], args := [d1, d2] }
  | _ => none }
def FnExactChainOfWrongFalsely : Prop := fnExactChainOfRow.holds Try.pinned (OpenSpec.ofChange fnExactChainOfWrong)

/-- 'laws.FnExactRootNear': WHATEVER THE INPUT: true; the input reads as it did. -/
def fnExactRootNearSpec : ChangeSpec := { name := "fnExactRootNear", fn := fun _ => fun
  | [d] => { results := [.lit (.bool true)], args := [d] }
  | _ => none }
def fnExactRootNearRow : OpenClaim := { program := "ytcekgegheffobaa", sum := "2e307d10d4447819e32614f7da4e3dd843c32f4581efa5b35e18d5b89b689da5", func := "loop.example/countingboards/laws.FnExactRootNear", spec := "fnExactRootNear", apart := false }
def FnExactRootNearSaid : Prop := fnExactRootNearRow.holds Try.pinned (OpenSpec.ofChange fnExactRootNearSpec)

/-- ITS FALSE NEIGHBOUR: 'it returns false'. Refute it at one input. -/
def fnExactRootNearWrong : ChangeSpec := { name := "fnExactRootNear", fn := fun _ => fun
  | [d] => { results := [.lit (.bool false)], args := [d] }
  | _ => none }
def FnExactRootNearWrongFalsely : Prop := fnExactRootNearRow.holds Try.pinned (OpenSpec.ofChange fnExactRootNearWrong)

/-- 'laws.FnExactRootPairs': WHATEVER THE INPUT: true; the input reads as it did. -/
def fnExactRootPairsSpec : ChangeSpec := { name := "fnExactRootPairs", fn := fun _ => fun
  | [d] => { results := [.lit (.bool true)], args := [d] }
  | _ => none }
def fnExactRootPairsRow : OpenClaim := { program := "ytcekgegheffobaa", sum := "2e307d10d4447819e32614f7da4e3dd843c32f4581efa5b35e18d5b89b689da5", func := "loop.example/countingboards/laws.FnExactRootPairs", spec := "fnExactRootPairs", apart := false }
def FnExactRootPairsSaid : Prop := fnExactRootPairsRow.holds Try.pinned (OpenSpec.ofChange fnExactRootPairsSpec)

/-- ITS FALSE NEIGHBOUR: 'it returns false'. Refute it at one input. -/
def fnExactRootPairsWrong : ChangeSpec := { name := "fnExactRootPairs", fn := fun _ => fun
  | [d] => { results := [.lit (.bool false)], args := [d] }
  | _ => none }
def FnExactRootPairsWrongFalsely : Prop := fnExactRootPairsRow.holds Try.pinned (OpenSpec.ofChange fnExactRootPairsWrong)

/-- 'laws.FnChainCommon': WHATEVER THE INPUT: true; the input reads as it did. -/
def fnChainCommonSpec : ChangeSpec := { name := "fnChainCommon", fn := fun _ => fun
  | [d1, d2] => { results := [.lit (.bool true)], args := [d1, d2] }
  | _ => none }
def fnChainCommonRow : OpenClaim := { program := "ytcekgegheffobaa", sum := "2e307d10d4447819e32614f7da4e3dd843c32f4581efa5b35e18d5b89b689da5", func := "loop.example/countingboards/laws.FnChainCommon", spec := "fnChainCommon", recurses := true, apart := false }
def FnChainCommonSaid : Prop := fnChainCommonRow.holds Try.pinned (OpenSpec.ofChange fnChainCommonSpec)

/-- ITS FALSE NEIGHBOUR: 'it returns false'. Refute it at one input. -/
def fnChainCommonWrong : ChangeSpec := { name := "fnChainCommon", fn := fun _ => fun
  | [d1, d2] => { results := [.lit (.bool false)], args := [d1, d2] }
  | _ => none }
def FnChainCommonWrongFalsely : Prop := fnChainCommonRow.holds Try.pinned (OpenSpec.ofChange fnChainCommonWrong)

/- THE SECOND FORM. 'bulk': how many values and letters a reading holds, each counted each time it is reached (what is shared counts as often as it is met; a slice's spare places count too). A statement '..UptoSaid' is the law's where the arguments, and the package variables that the reading takes, are together of bulk at most 1048576: NARROWER than '..Said'. Prove '..Said' where nothing that the law and all that it calls make is longer than what came in: it says more and counts as full. Else prove '..UptoSaid'. A law counts once. -/
mutual
def uptoBulk {H : Type} : DataW H → Nat
  | .lit (.string bytes) => bytes.length + 1
  | .lit _ => 1
  | .nil => 1
  | .ptr d => uptoBulk d + 1
  | .slice elems spare => uptoBulkAll elems + uptoBulkAll spare + 1
  | .agg parts => uptoBulkAll parts + 1
  | .iface _ d => uptoBulk d + 1
  | .map entries => uptoBulkEntries entries + 1
  | .held _ => 1
def uptoBulkAll {H : Type} : List (DataW H) → Nat
  | [] => 0
  | d :: r => uptoBulk d + uptoBulkAll r
def uptoBulkEntries {H : Type} : List (Lit × DataW H) → Nat
  | [] => 0
  | x :: r => uptoBulkEntry x + uptoBulkEntries r
def uptoBulkEntry {H : Type} : Lit × DataW H → Nat
  | (.string bytes, d) => bytes.length + uptoBulk d + 1
  | (_, d) => uptoBulk d + 1
 end
def uptoSmall : (H : Type) → List (DataW H) → Bool := fun _ ds => decide (uptoBulkAll ds ≤ 1048576)
def OpenSpec.upto (s : _root_.Go.ChangeSpec) : _root_.Go.OpenSpec := { _root_.Go.OpenSpec.ofChange s with cond := some uptoSmall }

/-- 'laws.FnExactCubeOf', WHERE WHAT IT READS IS OF BULK AT MOST 1048576: true; the input reads as it did. -/
def fnExactCubeOfUptoRow : OpenClaim := { program := "ytcekgegheffobaa", sum := "2e307d10d4447819e32614f7da4e3dd843c32f4581efa5b35e18d5b89b689da5", func := "loop.example/countingboards/laws.FnExactCubeOf", spec := "fnExactCubeOf", apart := false, narrowed := true }
def FnExactCubeOfUptoSaid : Prop := fnExactCubeOfUptoRow.holds Try.pinned (OpenSpec.upto fnExactCubeOfSpec)

/-- 'laws.FnExactRootOdd', WHERE WHAT IT READS IS OF BULK AT MOST 1048576: true; the input reads as it did. -/
def fnExactRootOddUptoRow : OpenClaim := { program := "ytcekgegheffobaa", sum := "2e307d10d4447819e32614f7da4e3dd843c32f4581efa5b35e18d5b89b689da5", func := "loop.example/countingboards/laws.FnExactRootOdd", spec := "fnExactRootOdd", apart := false, narrowed := true }
def FnExactRootOddUptoSaid : Prop := fnExactRootOddUptoRow.holds Try.pinned (OpenSpec.upto fnExactRootOddSpec)

/-- 'laws.FnExactLongPeriod', WHERE WHAT IT READS IS OF BULK AT MOST 1048576: true; the input reads as it did. -/
def fnExactLongPeriodUptoRow : OpenClaim := { program := "ytcekgegheffobaa", sum := "2e307d10d4447819e32614f7da4e3dd843c32f4581efa5b35e18d5b89b689da5", func := "loop.example/countingboards/laws.FnExactLongPeriod", spec := "fnExactLongPeriod", unfollowed := true, recurses := true, apart := false, narrowed := true }
def FnExactLongPeriodUptoSaid : Prop := fnExactLongPeriodUptoRow.holds Try.pinned (OpenSpec.upto fnExactLongPeriodSpec)

/-- 'laws.FnExactRootOf', WHERE WHAT IT READS IS OF BULK AT MOST 1048576: true; the input reads as it did. -/
def fnExactRootOfUptoRow : OpenClaim := { program := "ytcekgegheffobaa", sum := "2e307d10d4447819e32614f7da4e3dd843c32f4581efa5b35e18d5b89b689da5", func := "loop.example/countingboards/laws.FnExactRootOf", spec := "fnExactRootOf", apart := false, narrowed := true }
def FnExactRootOfUptoSaid : Prop := fnExactRootOfUptoRow.holds Try.pinned (OpenSpec.upto fnExactRootOfSpec)

/-- 'laws.FnExactChainBack', WHERE WHAT IT READS IS OF BULK AT MOST 1048576: true; the input reads as it did. -/
def fnExactChainBackUptoRow : OpenClaim := { program := "ytcekgegheffobaa", sum := "2e307d10d4447819e32614f7da4e3dd843c32f4581efa5b35e18d5b89b689da5", func := "loop.example/countingboards/laws.FnExactChainBack", spec := "fnExactChainBack", apart := false, narrowed := true }
def FnExactChainBackUptoSaid : Prop := fnExactChainBackUptoRow.holds Try.pinned (OpenSpec.upto fnExactChainBackSpec)

/-- 'laws.FnRootOdd', WHERE WHAT IT READS IS OF BULK AT MOST 1048576: true; the input reads as it did. -/
def fnRootOddUptoRow : OpenClaim := { program := "ytcekgegheffobaa", sum := "2e307d10d4447819e32614f7da4e3dd843c32f4581efa5b35e18d5b89b689da5", func := "loop.example/countingboards/laws.FnRootOdd", spec := "fnRootOdd", apart := false, narrowed := true }
def FnRootOddUptoSaid : Prop := fnRootOddUptoRow.holds Try.pinned (OpenSpec.upto fnRootOddSpec)

/-- 'laws.FnExactChainCommon', WHERE WHAT IT READS IS OF BULK AT MOST 1048576: true; the input reads as it did. -/
def fnExactChainCommonUptoRow : OpenClaim := { program := "ytcekgegheffobaa", sum := "2e307d10d4447819e32614f7da4e3dd843c32f4581efa5b35e18d5b89b689da5", func := "loop.example/countingboards/laws.FnExactChainCommon", spec := "fnExactChainCommon", recurses := true, apart := false, narrowed := true }
def FnExactChainCommonUptoSaid : Prop := fnExactChainCommonUptoRow.holds Try.pinned (OpenSpec.upto fnExactChainCommonSpec)

/-- 'laws.FnLongPeriod', WHERE WHAT IT READS IS OF BULK AT MOST 1048576: true; the input reads as it did. -/
def fnLongPeriodUptoRow : OpenClaim := { program := "ytcekgegheffobaa", sum := "2e307d10d4447819e32614f7da4e3dd843c32f4581efa5b35e18d5b89b689da5", func := "loop.example/countingboards/laws.FnLongPeriod", spec := "fnLongPeriod", unfollowed := true, recurses := true, apart := false, narrowed := true }
def FnLongPeriodUptoSaid : Prop := fnLongPeriodUptoRow.holds Try.pinned (OpenSpec.upto fnLongPeriodSpec)

/-- 'laws.FnExactChainOf', WHERE WHAT IT READS IS OF BULK AT MOST 1048576: true; the input reads as it did. -/
def fnExactChainOfUptoRow : OpenClaim := { program := "ytcekgegheffobaa", sum := "2e307d10d4447819e32614f7da4e3dd843c32f4581efa5b35e18d5b89b689da5", func := "loop.example/countingboards/laws.FnExactChainOf", spec := "fnExactChainOf", recurses := true, apart := false, narrowed := true }
def FnExactChainOfUptoSaid : Prop := fnExactChainOfUptoRow.holds Try.pinned (OpenSpec.upto fnExactChainOfSpec)

/-- 'laws.FnExactRootNear', WHERE WHAT IT READS IS OF BULK AT MOST 1048576: true; the input reads as it did. -/
def fnExactRootNearUptoRow : OpenClaim := { program := "ytcekgegheffobaa", sum := "2e307d10d4447819e32614f7da4e3dd843c32f4581efa5b35e18d5b89b689da5", func := "loop.example/countingboards/laws.FnExactRootNear", spec := "fnExactRootNear", apart := false, narrowed := true }
def FnExactRootNearUptoSaid : Prop := fnExactRootNearUptoRow.holds Try.pinned (OpenSpec.upto fnExactRootNearSpec)

/-- 'laws.FnExactRootPairs', WHERE WHAT IT READS IS OF BULK AT MOST 1048576: true; the input reads as it did. -/
def fnExactRootPairsUptoRow : OpenClaim := { program := "ytcekgegheffobaa", sum := "2e307d10d4447819e32614f7da4e3dd843c32f4581efa5b35e18d5b89b689da5", func := "loop.example/countingboards/laws.FnExactRootPairs", spec := "fnExactRootPairs", apart := false, narrowed := true }
def FnExactRootPairsUptoSaid : Prop := fnExactRootPairsUptoRow.holds Try.pinned (OpenSpec.upto fnExactRootPairsSpec)

/-- 'laws.FnChainCommon', WHERE WHAT IT READS IS OF BULK AT MOST 1048576: true; the input reads as it did. -/
def fnChainCommonUptoRow : OpenClaim := { program := "ytcekgegheffobaa", sum := "2e307d10d4447819e32614f7da4e3dd843c32f4581efa5b35e18d5b89b689da5", func := "loop.example/countingboards/laws.FnChainCommon", spec := "fnChainCommon", recurses := true, apart := false, narrowed := true }
def FnChainCommonUptoSaid : Prop := fnChainCommonUptoRow.holds Try.pinned (OpenSpec.upto fnChainCommonSpec)

end Rows
end Go.Proofs.Ytcekgegheffobaa
