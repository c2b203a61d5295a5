/-
  No cell of these rows narrows 'for every input' (looked for: loops, veiled, ifaces, maps, wideKeys, modest, calm, conditions, laid).
  DERIVED. THE GIVEN ROWS OF THIS SEAT. 11 by the template 'for every input the law returns true; each argument reads behind the call as it read before'; 0 by the template 'total and deterministic' (their statements: YtahlflennmdckaaTotals.lean).
  GIVEN WITH THE SEED: the statements are not yours to turn. If you find one false, say at which input.
  Laid BY PROGRAM, IN A SANDBOX (cutbox-rows.mjs): the forced cells as the released guide's own fill.sh prints them over the translation 112b7efcd04639b8… (all of the seat's roots in one cut). By AI agents, Wed Nov 11 2026. No macro, syntax, notation, axiom, sorry.
-/
import Derived.Test.YtahlflennmdckaaChecked
import GoSem.Claim
import GoSem.ClaimJoined
import GoSem.ClaimMapViews
import Derived.JoinedTies
import Derived.KernelRfl
namespace Go.Proofs.Ytahlflennmdckaa
/- THE CELL 'sum', in the pinned program and in every row, IS THE sha256 OF THE DUMP (.gsa) THAT YtahlflennmdckaaProg.lean LOADS. Nothing in Lean hashes anything: it is a label: what it is worth is what the hold of that sum in a sandbox is worth. -/
noncomputable def Try.pinned : Pinned := { name := "ytahlflennmdckaa", sum := "112b7efcd04639b8386c8f0860b125b056b990a7e1db4f978015cdf20c8d8468", checked := Try.checked }
namespace Rows
def none {H : Type} : Left H := { results := [], args := [] }

/-- 'laws.FnExactNotchesJoin': WHATEVER THE INPUT: true; the input reads as it did. -/
def fnExactNotchesJoinSpec : ChangeSpec := { name := "fnExactNotchesJoin", fn := fun _ => fun
  | [d1, d2] => { results := [.lit (.bool true)], args := [d1, d2] }
  | _ => none }
def fnExactNotchesJoinRow : OpenClaim := { program := "ytahlflennmdckaa", sum := "112b7efcd04639b8386c8f0860b125b056b990a7e1db4f978015cdf20c8d8468", func := "loop.example/countingboards/laws.FnExactNotchesJoin", spec := "fnExactNotchesJoin", inPlace := ["internal/bytealg.IndexByteString", "internal/abi.NoEscape", "internal/bytealg.MakeNoZero"], apart := false }
def FnExactNotchesJoinSaid : Prop := fnExactNotchesJoinRow.holds Try.pinned (OpenSpec.ofChange fnExactNotchesJoinSpec)

/-- ITS FALSE NEIGHBOUR: 'it returns false'. Refute it at one input. -/
def fnExactNotchesJoinWrong : ChangeSpec := { name := "fnExactNotchesJoin", fn := fun _ => fun
  | [d1, d2] => { results := [.lit (.bool false)], args := [d1, d2] }
  | _ => none }
def FnExactNotchesJoinWrongFalsely : Prop := fnExactNotchesJoinRow.holds Try.pinned (OpenSpec.ofChange fnExactNotchesJoinWrong)

/-- 'laws.FnExactNotchesCut': WHATEVER THE INPUT: true; the input reads as it did. -/
def fnExactNotchesCutSpec : ChangeSpec := { name := "fnExactNotchesCut", fn := fun _ => fun
  | [d1, d2] => { results := [.lit (.bool true)], args := [d1, d2] }
  | _ => none }
def fnExactNotchesCutRow : OpenClaim := { program := "ytahlflennmdckaa", sum := "112b7efcd04639b8386c8f0860b125b056b990a7e1db4f978015cdf20c8d8468", func := "loop.example/countingboards/laws.FnExactNotchesCut", spec := "fnExactNotchesCut", inPlace := ["internal/bytealg.IndexByteString", "internal/bytealg.IndexString", "internal/abi.NoEscape", "internal/bytealg.MakeNoZero"], named := ["internal/bytealg.MaxLen"], apart := false }
def FnExactNotchesCutSaid : Prop := fnExactNotchesCutRow.holds Try.pinned (OpenSpec.ofChange fnExactNotchesCutSpec)

/-- ITS FALSE NEIGHBOUR: 'it returns false'. Refute it at one input. -/
def fnExactNotchesCutWrong : ChangeSpec := { name := "fnExactNotchesCut", fn := fun _ => fun
  | [d1, d2] => { results := [.lit (.bool false)], args := [d1, d2] }
  | _ => none }
def FnExactNotchesCutWrongFalsely : Prop := fnExactNotchesCutRow.holds Try.pinned (OpenSpec.ofChange fnExactNotchesCutWrong)

/-- 'laws.FnNotchesWorth': WHATEVER THE INPUT: true; the input reads as it did. -/
def fnNotchesWorthSpec : ChangeSpec := { name := "fnNotchesWorth", fn := fun _ => fun
  | [d1, d2] => { results := [.lit (.bool true)], args := [d1, d2] }
  | _ => none }
def fnNotchesWorthRow : OpenClaim := { program := "ytahlflennmdckaa", sum := "112b7efcd04639b8386c8f0860b125b056b990a7e1db4f978015cdf20c8d8468", func := "loop.example/countingboards/laws.FnNotchesWorth", spec := "fnNotchesWorth", inPlace := ["internal/bytealg.IndexByteString", "internal/abi.NoEscape", "internal/bytealg.MakeNoZero"], apart := false }
def FnNotchesWorthSaid : Prop := fnNotchesWorthRow.holds Try.pinned (OpenSpec.ofChange fnNotchesWorthSpec)

/-- ITS FALSE NEIGHBOUR: 'it returns false'. Refute it at one input. -/
def fnNotchesWorthWrong : ChangeSpec := { name := "fnNotchesWorth", fn := fun _ => fun
  | [d1, d2] => { results := [.lit (.bool false)], args := [d1, d2] }
  | _ => none }
def FnNotchesWorthWrongFalsely : Prop := fnNotchesWorthRow.holds Try.pinned (OpenSpec.ofChange fnNotchesWorthWrong)

/-- 'laws.FnNotchesJoin': WHATEVER THE INPUT: true; the input reads as it did. -/
def fnNotchesJoinSpec : ChangeSpec := { name := "fnNotchesJoin", fn := fun _ => fun
  | [d] => { results := [.lit (.bool true)], args := [d] }
  | _ => none }
def fnNotchesJoinRow : OpenClaim := { program := "ytahlflennmdckaa", sum := "112b7efcd04639b8386c8f0860b125b056b990a7e1db4f978015cdf20c8d8468", func := "loop.example/countingboards/laws.FnNotchesJoin", spec := "fnNotchesJoin", inPlace := ["internal/bytealg.IndexByteString", "internal/abi.NoEscape", "internal/bytealg.MakeNoZero"], apart := false }
def FnNotchesJoinSaid : Prop := fnNotchesJoinRow.holds Try.pinned (OpenSpec.ofChange fnNotchesJoinSpec)

/-- ITS FALSE NEIGHBOUR: 'it returns false'. Refute it at one input. -/
def fnNotchesJoinWrong : ChangeSpec := { name := "fnNotchesJoin", fn := fun _ => fun
  | [d] => { results := [.lit (.bool false)], args := [d] }
  | _ => none }
def FnNotchesJoinWrongFalsely : Prop := fnNotchesJoinRow.holds Try.pinned (OpenSpec.ofChange fnNotchesJoinWrong)

/-- 'laws.FnNotchesCut': WHATEVER THE INPUT: true; the input reads as it did. -/
def fnNotchesCutSpec : ChangeSpec := { name := "fnNotchesCut", fn := fun _ => fun
  | [d] => { results := [.lit (.bool true)], args := [d] }
  | _ => none }
def fnNotchesCutRow : OpenClaim := { program := "ytahlflennmdckaa", sum := "112b7efcd04639b8386c8f0860b125b056b990a7e1db4f978015cdf20c8d8468", func := "loop.example/countingboards/laws.FnNotchesCut", spec := "fnNotchesCut", inPlace := ["internal/bytealg.IndexByteString", "internal/bytealg.IndexString", "internal/abi.NoEscape", "internal/bytealg.MakeNoZero"], named := ["internal/bytealg.MaxLen"], apart := false }
def FnNotchesCutSaid : Prop := fnNotchesCutRow.holds Try.pinned (OpenSpec.ofChange fnNotchesCutSpec)

/-- ITS FALSE NEIGHBOUR: 'it returns false'. Refute it at one input. -/
def fnNotchesCutWrong : ChangeSpec := { name := "fnNotchesCut", fn := fun _ => fun
  | [d] => { results := [.lit (.bool false)], args := [d] }
  | _ => none }
def FnNotchesCutWrongFalsely : Prop := fnNotchesCutRow.holds Try.pinned (OpenSpec.ofChange fnNotchesCutWrong)

/-- 'laws.FnTallyNew': WHATEVER THE INPUT: true; the input reads as it did. -/
def fnTallyNewSpec : ChangeSpec := { name := "fnTallyNew", fn := fun _ => fun
  | [d] => { results := [.lit (.bool true)], args := [d] }
  | _ => none }
def fnTallyNewRow : OpenClaim := { program := "ytahlflennmdckaa", sum := "112b7efcd04639b8386c8f0860b125b056b990a7e1db4f978015cdf20c8d8468", func := "loop.example/countingboards/laws.FnTallyNew", spec := "fnTallyNew", inPlace := ["internal/abi.NoEscape", "internal/bytealg.MakeNoZero", "internal/bytealg.IndexByteString", "internal/bytealg.IndexString"], named := ["internal/bytealg.MaxLen"], apart := false }
def FnTallyNewSaid : Prop := fnTallyNewRow.holds Try.pinned (OpenSpec.ofChange fnTallyNewSpec)

/-- ITS FALSE NEIGHBOUR: 'it returns false'. Refute it at one input. -/
def fnTallyNewWrong : ChangeSpec := { name := "fnTallyNew", fn := fun _ => fun
  | [d] => { results := [.lit (.bool false)], args := [d] }
  | _ => none }
def FnTallyNewWrongFalsely : Prop := fnTallyNewRow.holds Try.pinned (OpenSpec.ofChange fnTallyNewWrong)

/-- 'laws.FnExactTalliesBalance': WHATEVER THE INPUT: true; the input reads as it did. -/
def fnExactTalliesBalanceSpec : ChangeSpec := { name := "fnExactTalliesBalance", fn := fun _ => fun
  | [d] => { results := [.lit (.bool true)], args := [d] }
  | _ => none }
def fnExactTalliesBalanceRow : OpenClaim := { program := "ytahlflennmdckaa", sum := "112b7efcd04639b8386c8f0860b125b056b990a7e1db4f978015cdf20c8d8468", func := "loop.example/countingboards/laws.FnExactTalliesBalance", spec := "fnExactTalliesBalance", inPlace := ["internal/bytealg.IndexByteString"], apart := false }
def FnExactTalliesBalanceSaid : Prop := fnExactTalliesBalanceRow.holds Try.pinned (OpenSpec.ofChange fnExactTalliesBalanceSpec)

/-- ITS FALSE NEIGHBOUR: 'it returns false'. Refute it at one input. -/
def fnExactTalliesBalanceWrong : ChangeSpec := { name := "fnExactTalliesBalance", fn := fun _ => fun
  | [d] => { results := [.lit (.bool false)], args := [d] }
  | _ => none }
def FnExactTalliesBalanceWrongFalsely : Prop := fnExactTalliesBalanceRow.holds Try.pinned (OpenSpec.ofChange fnExactTalliesBalanceWrong)

/-- 'laws.FnBalance': WHATEVER THE INPUT: true; the input reads as it did. -/
def fnBalanceSpec : ChangeSpec := { name := "fnBalance", fn := fun _ => fun
  | [d1, d2] => { results := [.lit (.bool true)], args := [d1, d2] }
  | _ => none }
def fnBalanceRow : OpenClaim := { program := "ytahlflennmdckaa", sum := "112b7efcd04639b8386c8f0860b125b056b990a7e1db4f978015cdf20c8d8468", func := "loop.example/countingboards/laws.FnBalance", spec := "fnBalance", inPlace := ["internal/bytealg.IndexByteString"], apart := false }
def FnBalanceSaid : Prop := fnBalanceRow.holds Try.pinned (OpenSpec.ofChange fnBalanceSpec)

/-- ITS FALSE NEIGHBOUR: 'it returns false'. Refute it at one input. -/
def fnBalanceWrong : ChangeSpec := { name := "fnBalance", fn := fun _ => fun
  | [d1, d2] => { results := [.lit (.bool false)], args := [d1, d2] }
  | _ => none }
def FnBalanceWrongFalsely : Prop := fnBalanceRow.holds Try.pinned (OpenSpec.ofChange fnBalanceWrong)

/-- 'laws.FnPay': WHATEVER THE INPUT: true; the input reads as it did. -/
def fnPaySpec : ChangeSpec := { name := "fnPay", fn := fun _ => fun
  | [d] => { results := [.lit (.bool true)], args := [d] }
  | _ => none }
def fnPayRow : OpenClaim := { program := "ytahlflennmdckaa", sum := "112b7efcd04639b8386c8f0860b125b056b990a7e1db4f978015cdf20c8d8468", func := "loop.example/countingboards/laws.FnPay", spec := "fnPay", inPlace := ["internal/bytealg.IndexByteString"], apart := false }
def FnPaySaid : Prop := fnPayRow.holds Try.pinned (OpenSpec.ofChange fnPaySpec)

/-- ITS FALSE NEIGHBOUR: 'it returns false'. Refute it at one input. -/
def fnPayWrong : ChangeSpec := { name := "fnPay", fn := fun _ => fun
  | [d] => { results := [.lit (.bool false)], args := [d] }
  | _ => none }
def FnPayWrongFalsely : Prop := fnPayRow.holds Try.pinned (OpenSpec.ofChange fnPayWrong)

/-- 'laws.FnExactTalliesMerge': WHATEVER THE INPUT: true; the input reads as it did. -/
def fnExactTalliesMergeSpec : ChangeSpec := { name := "fnExactTalliesMerge", fn := fun _ => fun
  | [d] => { results := [.lit (.bool true)], args := [d] }
  | _ => none }
def fnExactTalliesMergeRow : OpenClaim := { program := "ytahlflennmdckaa", sum := "112b7efcd04639b8386c8f0860b125b056b990a7e1db4f978015cdf20c8d8468", func := "loop.example/countingboards/laws.FnExactTalliesMerge", spec := "fnExactTalliesMerge", inPlace := ["internal/bytealg.IndexByteString", "internal/abi.NoEscape", "internal/bytealg.MakeNoZero"], apart := false }
def FnExactTalliesMergeSaid : Prop := fnExactTalliesMergeRow.holds Try.pinned (OpenSpec.ofChange fnExactTalliesMergeSpec)

/-- ITS FALSE NEIGHBOUR: 'it returns false'. Refute it at one input. -/
def fnExactTalliesMergeWrong : ChangeSpec := { name := "fnExactTalliesMerge", fn := fun _ => fun
  | [d] => { results := [.lit (.bool false)], args := [d] }
  | _ => none }
def FnExactTalliesMergeWrongFalsely : Prop := fnExactTalliesMergeRow.holds Try.pinned (OpenSpec.ofChange fnExactTalliesMergeWrong)

/-- 'laws.FnMerge': WHATEVER THE INPUT: true; the input reads as it did. -/
def fnMergeSpec : ChangeSpec := { name := "fnMerge", fn := fun _ => fun
  | [d] => { results := [.lit (.bool true)], args := [d] }
  | _ => none }
def fnMergeRow : OpenClaim := { program := "ytahlflennmdckaa", sum := "112b7efcd04639b8386c8f0860b125b056b990a7e1db4f978015cdf20c8d8468", func := "loop.example/countingboards/laws.FnMerge", spec := "fnMerge", inPlace := ["internal/bytealg.IndexByteString", "internal/abi.NoEscape", "internal/bytealg.MakeNoZero"], apart := false }
def FnMergeSaid : Prop := fnMergeRow.holds Try.pinned (OpenSpec.ofChange fnMergeSpec)

/-- ITS FALSE NEIGHBOUR: 'it returns false'. Refute it at one input. -/
def fnMergeWrong : ChangeSpec := { name := "fnMerge", fn := fun _ => fun
  | [d] => { results := [.lit (.bool false)], args := [d] }
  | _ => none }
def FnMergeWrongFalsely : Prop := fnMergeRow.holds Try.pinned (OpenSpec.ofChange fnMergeWrong)

/- THE SECOND FORM. 'bulk': how many values and letters a reading holds, each counted each time it is reached (what is shared counts as often as it is met; a slice's spare places count too). A statement '..UptoSaid' is the law's where the arguments, and the package variables that the reading takes, are together of bulk at most 1048576: NARROWER than '..Said'. Prove '..Said' where nothing that the law and all that it calls make is longer than what came in: it says more and counts as full. Else prove '..UptoSaid'. A law counts once. -/
mutual
def uptoBulk {H : Type} : DataW H → Nat
  | .lit (.string bytes) => bytes.length + 1
  | .lit _ => 1
  | .nil => 1
  | .ptr d => uptoBulk d + 1
  | .slice elems spare => uptoBulkAll elems + uptoBulkAll spare + 1
  | .agg parts => uptoBulkAll parts + 1
  | .iface _ d => uptoBulk d + 1
  | .map entries => uptoBulkEntries entries + 1
  | .held _ => 1
def uptoBulkAll {H : Type} : List (DataW H) → Nat
  | [] => 0
  | d :: r => uptoBulk d + uptoBulkAll r
def uptoBulkEntries {H : Type} : List (Lit × DataW H) → Nat
  | [] => 0
  | x :: r => uptoBulkEntry x + uptoBulkEntries r
def uptoBulkEntry {H : Type} : Lit × DataW H → Nat
  | (.string bytes, d) => bytes.length + uptoBulk d + 1
  | (_, d) => uptoBulk d + 1
 end
def uptoSmall : (H : Type) → List (DataW H) → Bool := fun _ ds => decide (uptoBulkAll ds ≤ 1048576)
def OpenSpec.upto (s : _root_.Go.ChangeSpec) : _root_.Go.OpenSpec := { _root_.Go.OpenSpec.ofChange s with cond := some uptoSmall }

/-- 'laws.FnExactNotchesJoin', WHERE WHAT IT READS IS OF BULK AT MOST 1048576: true; the input reads as it did. -/
def fnExactNotchesJoinUptoRow : OpenClaim := { program := "ytahlflennmdckaa", sum := "112b7efcd04639b8386c8f0860b125b056b990a7e1db4f978015cdf20c8d8468", func := "loop.example/countingboards/laws.FnExactNotchesJoin", spec := "fnExactNotchesJoin", inPlace := ["internal/bytealg.IndexByteString", "internal/abi.NoEscape", "internal/bytealg.MakeNoZero"], apart := false, narrowed := true }
def FnExactNotchesJoinUptoSaid : Prop := fnExactNotchesJoinUptoRow.holds Try.pinned (OpenSpec.upto fnExactNotchesJoinSpec)

/-- 'laws.FnExactNotchesCut', WHERE WHAT IT READS IS OF BULK AT MOST 1048576: true; the input reads as it did. -/
def fnExactNotchesCutUptoRow : OpenClaim := { program := "ytahlflennmdckaa", sum := "112b7efcd04639b8386c8f0860b125b056b990a7e1db4f978015cdf20c8d8468", func := "loop.example/countingboards/laws.FnExactNotchesCut", spec := "fnExactNotchesCut", inPlace := ["internal/bytealg.IndexByteString", "internal/bytealg.IndexString", "internal/abi.NoEscape", "internal/bytealg.MakeNoZero"], named := ["internal/bytealg.MaxLen"], apart := false, narrowed := true }
def FnExactNotchesCutUptoSaid : Prop := fnExactNotchesCutUptoRow.holds Try.pinned (OpenSpec.upto fnExactNotchesCutSpec)

/-- 'laws.FnNotchesWorth', WHERE WHAT IT READS IS OF BULK AT MOST 1048576: true; the input reads as it did. -/
def fnNotchesWorthUptoRow : OpenClaim := { program := "ytahlflennmdckaa", sum := "112b7efcd04639b8386c8f0860b125b056b990a7e1db4f978015cdf20c8d8468", func := "loop.example/countingboards/laws.FnNotchesWorth", spec := "fnNotchesWorth", inPlace := ["internal/bytealg.IndexByteString", "internal/abi.NoEscape", "internal/bytealg.MakeNoZero"], apart := false, narrowed := true }
def FnNotchesWorthUptoSaid : Prop := fnNotchesWorthUptoRow.holds Try.pinned (OpenSpec.upto fnNotchesWorthSpec)

/-- 'laws.FnNotchesJoin', WHERE WHAT IT READS IS OF BULK AT MOST 1048576: true; the input reads as it did. -/
def fnNotchesJoinUptoRow : OpenClaim := { program := "ytahlflennmdckaa", sum := "112b7efcd04639b8386c8f0860b125b056b990a7e1db4f978015cdf20c8d8468", func := "loop.example/countingboards/laws.FnNotchesJoin", spec := "fnNotchesJoin", inPlace := ["internal/bytealg.IndexByteString", "internal/abi.NoEscape", "internal/bytealg.MakeNoZero"], apart := false, narrowed := true }
def FnNotchesJoinUptoSaid : Prop := fnNotchesJoinUptoRow.holds Try.pinned (OpenSpec.upto fnNotchesJoinSpec)

/-- 'laws.FnNotchesCut', WHERE WHAT IT READS IS OF BULK AT MOST 1048576: true; the input reads as it did. -/
def fnNotchesCutUptoRow : OpenClaim := { program := "ytahlflennmdckaa", sum := "112b7efcd04639b8386c8f0860b125b056b990a7e1db4f978015cdf20c8d8468", func := "loop.example/countingboards/laws.FnNotchesCut", spec := "fnNotchesCut", inPlace := ["internal/bytealg.IndexByteString", "internal/bytealg.IndexString", "internal/abi.NoEscape", "internal/bytealg.MakeNoZero"], named := ["internal/bytealg.MaxLen"], apart := false, narrowed := true }
def FnNotchesCutUptoSaid : Prop := fnNotchesCutUptoRow.holds Try.pinned (OpenSpec.upto fnNotchesCutSpec)

/-- 'laws.FnTallyNew', WHERE WHAT IT READS IS OF BULK AT MOST 1048576: true; the input reads as it did. -/
def fnTallyNewUptoRow : OpenClaim := { program := "ytahlflennmdckaa", sum := "112b7efcd04639b8386c8f0860b125b056b990a7e1db4f978015cdf20c8d8468", func := "loop.example/countingboards/laws.FnTallyNew", spec := "fnTallyNew", inPlace := ["internal/abi.NoEscape", "internal/bytealg.MakeNoZero", "internal/bytealg.IndexByteString", "internal/bytealg.IndexString"], named := ["internal/bytealg.MaxLen"], apart := false, narrowed := true }
def FnTallyNewUptoSaid : Prop := fnTallyNewUptoRow.holds Try.pinned (OpenSpec.upto fnTallyNewSpec)

/-- 'laws.FnExactTalliesBalance', WHERE WHAT IT READS IS OF BULK AT MOST 1048576: true; the input reads as it did. -/
def fnExactTalliesBalanceUptoRow : OpenClaim := { program := "ytahlflennmdckaa", sum := "112b7efcd04639b8386c8f0860b125b056b990a7e1db4f978015cdf20c8d8468", func := "loop.example/countingboards/laws.FnExactTalliesBalance", spec := "fnExactTalliesBalance", inPlace := ["internal/bytealg.IndexByteString"], apart := false, narrowed := true }
def FnExactTalliesBalanceUptoSaid : Prop := fnExactTalliesBalanceUptoRow.holds Try.pinned (OpenSpec.upto fnExactTalliesBalanceSpec)

/-- 'laws.FnBalance', WHERE WHAT IT READS IS OF BULK AT MOST 1048576: true; the input reads as it did. -/
def fnBalanceUptoRow : OpenClaim := { program := "ytahlflennmdckaa", sum := "112b7efcd04639b8386c8f0860b125b056b990a7e1db4f978015cdf20c8d8468", func := "loop.example/countingboards/laws.FnBalance", spec := "fnBalance", inPlace := ["internal/bytealg.IndexByteString"], apart := false, narrowed := true }
def FnBalanceUptoSaid : Prop := fnBalanceUptoRow.holds Try.pinned (OpenSpec.upto fnBalanceSpec)

/-- 'laws.FnPay', WHERE WHAT IT READS IS OF BULK AT MOST 1048576: true; the input reads as it did. -/
def fnPayUptoRow : OpenClaim := { program := "ytahlflennmdckaa", sum := "112b7efcd04639b8386c8f0860b125b056b990a7e1db4f978015cdf20c8d8468", func := "loop.example/countingboards/laws.FnPay", spec := "fnPay", inPlace := ["internal/bytealg.IndexByteString"], apart := false, narrowed := true }
def FnPayUptoSaid : Prop := fnPayUptoRow.holds Try.pinned (OpenSpec.upto fnPaySpec)

/-- 'laws.FnExactTalliesMerge', WHERE WHAT IT READS IS OF BULK AT MOST 1048576: true; the input reads as it did. -/
def fnExactTalliesMergeUptoRow : OpenClaim := { program := "ytahlflennmdckaa", sum := "112b7efcd04639b8386c8f0860b125b056b990a7e1db4f978015cdf20c8d8468", func := "loop.example/countingboards/laws.FnExactTalliesMerge", spec := "fnExactTalliesMerge", inPlace := ["internal/bytealg.IndexByteString", "internal/abi.NoEscape", "internal/bytealg.MakeNoZero"], apart := false, narrowed := true }
def FnExactTalliesMergeUptoSaid : Prop := fnExactTalliesMergeUptoRow.holds Try.pinned (OpenSpec.upto fnExactTalliesMergeSpec)

/-- 'laws.FnMerge', WHERE WHAT IT READS IS OF BULK AT MOST 1048576: true; the input reads as it did. -/
def fnMergeUptoRow : OpenClaim := { program := "ytahlflennmdckaa", sum := "112b7efcd04639b8386c8f0860b125b056b990a7e1db4f978015cdf20c8d8468", func := "loop.example/countingboards/laws.FnMerge", spec := "fnMerge", inPlace := ["internal/bytealg.IndexByteString", "internal/abi.NoEscape", "internal/bytealg.MakeNoZero"], apart := false, narrowed := true }
def FnMergeUptoSaid : Prop := fnMergeUptoRow.holds Try.pinned (OpenSpec.upto fnMergeSpec)

end Rows
end Go.Proofs.Ytahlflennmdckaa
