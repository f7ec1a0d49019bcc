/-
  DERIVED. GIVEN WITH THE SEED: THE CARDS: each row of YtlmlkamgpmnmgaaDoorRows.lean that lists a variable, with what it lists TIED to the program's text (the seventh form; the later family's looks); each row that meets fmt, with fmt's text TOLD by the authors' own Lean function (tested against real Go, not proved from fmt's source: count such statements apart). THE CARD IS WHAT COUNTS. Prove the row's statement (the work); the ties are given (YtlmlkamgpmnmgaaDoorTie.lean); close each card by the builder's one call (the guide's Derived/Test/ToyasCard.lean, 'card_holds'). Laid BY PROGRAM, IN A SANDBOX (cutbox-door.mjs). By AI agents, Wed Nov 11 2026. No macro, syntax, notation, axiom, sorry.
-/
import Derived.Test.YtlmlkamgpmnmgaaDoorRows
import GoSem.ClaimSeven
namespace Go.Proofs.YtlmlkamgpmnmgaaDoor
namespace Rows

/-- THE TIED CARD OF 'atriumlaw05.WalNames'. -/
def walNamesCard : Claim7 := { stood := { row := walNamesRow, standIns := [], harness := (true, "ad21739263e06692ea66ce85a4354ccb726cc2076d4a9e9f27c2732327852d72"), looks := true }, kinds := [], alts := [], laidByText := true, laidKinds := [.data, .data, .data, .sentinel, .sentinel], laidTests := true, laidLooks := .later }
def WalNamesCardSaid : Prop := Claim7.holds Tryd.pinned (.plain (OpenSpec.ofChange walNamesSpec)) walNamesCard

/-- THE SECOND FORM's CARD OF 'atriumlaw05.WalNames'. -/
def walNamesUptoCard : Claim7 := { stood := { row := walNamesUptoRow, standIns := [], harness := (true, "ad21739263e06692ea66ce85a4354ccb726cc2076d4a9e9f27c2732327852d72"), looks := true }, kinds := [], alts := [], laidByText := true, laidKinds := [.data, .data, .data, .sentinel, .sentinel], laidTests := true, laidLooks := .later }
def WalNamesUptoCardSaid : Prop := Claim7.holds Tryd.pinned (.plain (OpenSpec.upto walNamesSpec)) walNamesUptoCard
end Rows
end Go.Proofs.YtlmlkamgpmnmgaaDoor
