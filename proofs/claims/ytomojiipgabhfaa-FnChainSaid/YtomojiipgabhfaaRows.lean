/-
  No cell of these rows narrows 'for every input' (looked for: loops, veiled, ifaces, maps, wideKeys, modest, calm, conditions, laid).
  DERIVED. THE GIVEN ROWS OF THIS SEAT. 5 by the template 'for every input the law returns true; each argument reads behind the call as it read before'; 0 by the template 'total and deterministic' (their statements: YtomojiipgabhfaaTotals.lean).
  GIVEN WITH THE SEED: the statements are not yours to turn. If you find one false, say at which input.
  Laid BY PROGRAM, IN A SANDBOX (cutbox-rows.mjs): the forced cells as the released guide's own fill.sh prints them over the translation 767b78c82cb10191… (all of the seat's roots in one cut). By AI agents, Wed Nov 11 2026. No macro, syntax, notation, axiom, sorry.
-/
import Derived.Test.YtomojiipgabhfaaChecked
import GoSem.Claim
import GoSem.ClaimJoined
import GoSem.ClaimMapViews
import Derived.JoinedTies
import Derived.KernelRfl
namespace Go.Proofs.Ytomojiipgabhfaa
/- THE CELL 'sum', in the pinned program and in every row, IS THE sha256 OF THE DUMP (.gsa) THAT YtomojiipgabhfaaProg.lean LOADS. Nothing in Lean hashes anything: it is a label: what it is worth is what the hold of that sum in a sandbox is worth. -/
noncomputable def Try.pinned : Pinned := { name := "ytomojiipgabhfaa", sum := "767b78c82cb101910c58cfa4688e03eb9c5980df0da7e2016e656fc4d971fb50", checked := Try.checked }
namespace Rows
def none {H : Type} : Left H := { results := [], args := [] }

/-- 'laws.FnCube': WHATEVER THE INPUT: true; the input reads as it did. -/
def fnCubeSpec : ChangeSpec := { name := "fnCube", fn := fun _ => fun
  | [d] => { results := [.lit (.bool true)], args := [d] }
  | _ => none }
def fnCubeRow : OpenClaim := { program := "ytomojiipgabhfaa", sum := "767b78c82cb101910c58cfa4688e03eb9c5980df0da7e2016e656fc4d971fb50", func := "loop.example/countingboards/laws.FnCube", spec := "fnCube", apart := false }
def FnCubeSaid : Prop := fnCubeRow.holds Try.pinned (OpenSpec.ofChange fnCubeSpec)

/-- ITS FALSE NEIGHBOUR: 'it returns false'. Refute it at one input. -/
def fnCubeWrong : ChangeSpec := { name := "fnCube", fn := fun _ => fun
  | [d] => { results := [.lit (.bool false)], args := [d] }
  | _ => none }
def FnCubeWrongFalsely : Prop := fnCubeRow.holds Try.pinned (OpenSpec.ofChange fnCubeWrong)

/-- 'laws.FnExactChainNear': WHATEVER THE INPUT: true; the input reads as it did. -/
def fnExactChainNearSpec : ChangeSpec := { name := "fnExactChainNear", fn := fun _ => fun
  | [d1, d2, d3] => { results := [.lit (.bool true)], args := [d1, d2, d3] }
  | _ => none }
def fnExactChainNearRow : OpenClaim := { program := "ytomojiipgabhfaa", sum := "767b78c82cb101910c58cfa4688e03eb9c5980df0da7e2016e656fc4d971fb50", func := "loop.example/countingboards/laws.FnExactChainNear", spec := "fnExactChainNear", recurses := true, apart := false }
def FnExactChainNearSaid : Prop := fnExactChainNearRow.holds Try.pinned (OpenSpec.ofChange fnExactChainNearSpec)

/-- ITS FALSE NEIGHBOUR: 'it returns false'. Refute it at one input. -/
def fnExactChainNearWrong : ChangeSpec := { name := "fnExactChainNear", fn := fun _ => fun
  | [d1, d2, d3] => { results := [.lit (.bool false)], args := [d1, d2, d3] }
  | _ => none }
def FnExactChainNearWrongFalsely : Prop := fnExactChainNearRow.holds Try.pinned (OpenSpec.ofChange fnExactChainNearWrong)

/-- 'laws.FnRoot': WHATEVER THE INPUT: true; the input reads as it did. -/
def fnRootSpec : ChangeSpec := { name := "fnRoot", fn := fun _ => fun
  | [d] => { results := [.lit (.bool true)], args := [d] }
  | _ => none }
def fnRootRow : OpenClaim := { program := "ytomojiipgabhfaa", sum := "767b78c82cb101910c58cfa4688e03eb9c5980df0da7e2016e656fc4d971fb50", func := "loop.example/countingboards/laws.FnRoot", spec := "fnRoot", apart := false }
def FnRootSaid : Prop := fnRootRow.holds Try.pinned (OpenSpec.ofChange fnRootSpec)

/-- ITS FALSE NEIGHBOUR: 'it returns false'. Refute it at one input. -/
def fnRootWrong : ChangeSpec := { name := "fnRoot", fn := fun _ => fun
  | [d] => { results := [.lit (.bool false)], args := [d] }
  | _ => none }
def FnRootWrongFalsely : Prop := fnRootRow.holds Try.pinned (OpenSpec.ofChange fnRootWrong)

/-- 'laws.FnExactLongQuotient': WHATEVER THE INPUT: true; the input reads as it did. -/
def fnExactLongQuotientSpec : ChangeSpec := { name := "fnExactLongQuotient", fn := fun _ => fun
  | [d1, d2] => { results := [.lit (.bool true)], args := [d1, d2] }
  | _ => none }
def fnExactLongQuotientRow : OpenClaim := { program := "ytomojiipgabhfaa", sum := "767b78c82cb101910c58cfa4688e03eb9c5980df0da7e2016e656fc4d971fb50", func := "loop.example/countingboards/laws.FnExactLongQuotient", spec := "fnExactLongQuotient", unfollowed := true, recurses := true, apart := false }
def FnExactLongQuotientSaid : Prop := fnExactLongQuotientRow.holds Try.pinned (OpenSpec.ofChange fnExactLongQuotientSpec)

/-- ITS FALSE NEIGHBOUR: 'it returns false'. Refute it at one input. -/
def fnExactLongQuotientWrong : ChangeSpec := { name := "fnExactLongQuotient", fn := fun _ => fun
  | [d1, d2] => { results := [.lit (.bool false)], args := [d1, d2] }
  | _ => none }
def FnExactLongQuotientWrongFalsely : Prop := fnExactLongQuotientRow.holds Try.pinned (OpenSpec.ofChange fnExactLongQuotientWrong)

/-- 'laws.FnChain': WHATEVER THE INPUT: true; the input reads as it did. -/
def fnChainSpec : ChangeSpec := { name := "fnChain", fn := fun _ => fun
  | [d] => { results := [.lit (.bool true)], args := [d] }
  | _ => none }
def fnChainRow : OpenClaim := { program := "ytomojiipgabhfaa", sum := "767b78c82cb101910c58cfa4688e03eb9c5980df0da7e2016e656fc4d971fb50", func := "loop.example/countingboards/laws.FnChain", spec := "fnChain", recurses := true, apart := false }
def FnChainSaid : Prop := fnChainRow.holds Try.pinned (OpenSpec.ofChange fnChainSpec)

/-- ITS FALSE NEIGHBOUR: 'it returns false'. Refute it at one input. -/
def fnChainWrong : ChangeSpec := { name := "fnChain", fn := fun _ => fun
  | [d] => { results := [.lit (.bool false)], args := [d] }
  | _ => none }
def FnChainWrongFalsely : Prop := fnChainRow.holds Try.pinned (OpenSpec.ofChange fnChainWrong)

/- THE SECOND FORM. 'bulk': how many values and letters a reading holds, each counted each time it is reached (what is shared counts as often as it is met; a slice's spare places count too). A statement '..UptoSaid' is the law's where the arguments, and the package variables that the reading takes, are together of bulk at most 1048576: NARROWER than '..Said'. Prove '..Said' where nothing that the law and all that it calls make is longer than what came in: it says more and counts as full. Else prove '..UptoSaid'. A law counts once. -/
mutual
def uptoBulk {H : Type} : DataW H → Nat
  | .lit (.string bytes) => bytes.length + 1
  | .lit _ => 1
  | .nil => 1
  | .ptr d => uptoBulk d + 1
  | .slice elems spare => uptoBulkAll elems + uptoBulkAll spare + 1
  | .agg parts => uptoBulkAll parts + 1
  | .iface _ d => uptoBulk d + 1
  | .map entries => uptoBulkEntries entries + 1
  | .held _ => 1
def uptoBulkAll {H : Type} : List (DataW H) → Nat
  | [] => 0
  | d :: r => uptoBulk d + uptoBulkAll r
def uptoBulkEntries {H : Type} : List (Lit × DataW H) → Nat
  | [] => 0
  | x :: r => uptoBulkEntry x + uptoBulkEntries r
def uptoBulkEntry {H : Type} : Lit × DataW H → Nat
  | (.string bytes, d) => bytes.length + uptoBulk d + 1
  | (_, d) => uptoBulk d + 1
 end
def uptoSmall : (H : Type) → List (DataW H) → Bool := fun _ ds => decide (uptoBulkAll ds ≤ 1048576)
def OpenSpec.upto (s : _root_.Go.ChangeSpec) : _root_.Go.OpenSpec := { _root_.Go.OpenSpec.ofChange s with cond := some uptoSmall }

/-- 'laws.FnCube', WHERE WHAT IT READS IS OF BULK AT MOST 1048576: true; the input reads as it did. -/
def fnCubeUptoRow : OpenClaim := { program := "ytomojiipgabhfaa", sum := "767b78c82cb101910c58cfa4688e03eb9c5980df0da7e2016e656fc4d971fb50", func := "loop.example/countingboards/laws.FnCube", spec := "fnCube", apart := false, narrowed := true }
def FnCubeUptoSaid : Prop := fnCubeUptoRow.holds Try.pinned (OpenSpec.upto fnCubeSpec)

/-- 'laws.FnExactChainNear', WHERE WHAT IT READS IS OF BULK AT MOST 1048576: true; the input reads as it did. -/
def fnExactChainNearUptoRow : OpenClaim := { program := "ytomojiipgabhfaa", sum := "767b78c82cb101910c58cfa4688e03eb9c5980df0da7e2016e656fc4d971fb50", func := "loop.example/countingboards/laws.FnExactChainNear", spec := "fnExactChainNear", recurses := true, apart := false, narrowed := true }
def FnExactChainNearUptoSaid : Prop := fnExactChainNearUptoRow.holds Try.pinned (OpenSpec.upto fnExactChainNearSpec)

/-- 'laws.FnRoot', WHERE WHAT IT READS IS OF BULK AT MOST 1048576: true; the input reads as it did. -/
def fnRootUptoRow : OpenClaim := { program := "ytomojiipgabhfaa", sum := "767b78c82cb101910c58cfa4688e03eb9c5980df0da7e2016e656fc4d971fb50", func := "loop.example/countingboards/laws.FnRoot", spec := "fnRoot", apart := false, narrowed := true }
def FnRootUptoSaid : Prop := fnRootUptoRow.holds Try.pinned (OpenSpec.upto fnRootSpec)

/-- 'laws.FnExactLongQuotient', WHERE WHAT IT READS IS OF BULK AT MOST 1048576: true; the input reads as it did. -/
def fnExactLongQuotientUptoRow : OpenClaim := { program := "ytomojiipgabhfaa", sum := "767b78c82cb101910c58cfa4688e03eb9c5980df0da7e2016e656fc4d971fb50", func := "loop.example/countingboards/laws.FnExactLongQuotient", spec := "fnExactLongQuotient", unfollowed := true, recurses := true, apart := false, narrowed := true }
def FnExactLongQuotientUptoSaid : Prop := fnExactLongQuotientUptoRow.holds Try.pinned (OpenSpec.upto fnExactLongQuotientSpec)

/-- 'laws.FnChain', WHERE WHAT IT READS IS OF BULK AT MOST 1048576: true; the input reads as it did. -/
def fnChainUptoRow : OpenClaim := { program := "ytomojiipgabhfaa", sum := "767b78c82cb101910c58cfa4688e03eb9c5980df0da7e2016e656fc4d971fb50", func := "loop.example/countingboards/laws.FnChain", spec := "fnChain", recurses := true, apart := false, narrowed := true }
def FnChainUptoSaid : Prop := fnChainUptoRow.holds Try.pinned (OpenSpec.upto fnChainSpec)

end Rows
end Go.Proofs.Ytomojiipgabhfaa
