/-
  DERIVED. GIVEN WITH THE SEED: THE CARDS: each row of YticnnfmmfjfffaaDoorRows.lean that lists a variable, with what it lists TIED to the program's text (the seventh form; the later family's looks); each row that meets fmt, with fmt's text TOLD by the authors' own Lean function (tested against real Go, not proved from fmt's source: count such statements apart). THE CARD IS WHAT COUNTS. Prove the row's statement (the work); the ties are given (YticnnfmmfjfffaaDoorTie.lean); close each card by the builder's one call (the guide's Derived/Test/ToyasCard.lean, 'card_holds'). Laid BY PROGRAM, IN A SANDBOX (cutbox-door.mjs). By AI agents, Wed Nov 11 2026. No macro, syntax, notation, axiom, sorry.
-/
import Derived.Test.YticnnfmmfjfffaaDoorRows
import GoSem.ClaimSeven
namespace Go.Proofs.YticnnfmmfjfffaaDoor
namespace Rows

/-- THE TIED CARD OF 'laws.FnAmountText'. -/
def fnAmountTextCard : Claim7 := { stood := { row := fnAmountTextRow, standIns := [], harness := (true, "76e1b83b831c79147e962deab1cd4c55018c2c3c9250f538a79633082cca768e"), looks := false }, kinds := [], alts := [], laidByText := true, laidKinds := [.data, .data, .data], laidTests := true, laidLooks := .later }
def FnAmountTextCardSaid : Prop := Claim7.holds Tryd.pinned (.plain (OpenSpec.ofChange fnAmountTextSpec)) fnAmountTextCard

/-- THE TIED CARD OF 'laws.FnExactAmountText'. -/
def fnExactAmountTextCard : Claim7 := { stood := { row := fnExactAmountTextRow, standIns := [], harness := (true, "76e1b83b831c79147e962deab1cd4c55018c2c3c9250f538a79633082cca768e"), looks := false }, kinds := [], alts := [], laidByText := true, laidKinds := [.data, .data, .data], laidTests := true, laidLooks := .later }
def FnExactAmountTextCardSaid : Prop := Claim7.holds Tryd.pinned (.plain (OpenSpec.ofChange fnExactAmountTextSpec)) fnExactAmountTextCard

/-- THE SECOND FORM's CARD OF 'laws.FnAmountText'. -/
def fnAmountTextUptoCard : Claim7 := { stood := { row := fnAmountTextUptoRow, standIns := [], harness := (true, "76e1b83b831c79147e962deab1cd4c55018c2c3c9250f538a79633082cca768e"), looks := false }, kinds := [], alts := [], laidByText := true, laidKinds := [.data, .data, .data], laidTests := true, laidLooks := .later }
def FnAmountTextUptoCardSaid : Prop := Claim7.holds Tryd.pinned (.plain (OpenSpec.upto fnAmountTextSpec)) fnAmountTextUptoCard

/-- THE SECOND FORM's CARD OF 'laws.FnExactAmountText'. -/
def fnExactAmountTextUptoCard : Claim7 := { stood := { row := fnExactAmountTextUptoRow, standIns := [], harness := (true, "76e1b83b831c79147e962deab1cd4c55018c2c3c9250f538a79633082cca768e"), looks := false }, kinds := [], alts := [], laidByText := true, laidKinds := [.data, .data, .data], laidTests := true, laidLooks := .later }
def FnExactAmountTextUptoCardSaid : Prop := Claim7.holds Tryd.pinned (.plain (OpenSpec.upto fnExactAmountTextSpec)) fnExactAmountTextUptoCard
end Rows
end Go.Proofs.YticnnfmmfjfffaaDoor
