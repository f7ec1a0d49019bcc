/-
  DERIVED. GIVEN WITH THE SEED: THE CARDS: each row of YtigcgpbdifihoaaDoorRows.lean that lists a variable, with what it lists TIED to the program's text (the seventh form; the later family's looks); each row that meets fmt, with fmt's text TOLD by the authors' own Lean function (tested against real Go, not proved from fmt's source: count such statements apart). THE CARD IS WHAT COUNTS. Prove the row's statement (the work); the ties are given (YtigcgpbdifihoaaDoorTie.lean); close each card by the builder's one call (the guide's Derived/Test/ToyasCard.lean, 'card_holds'). Laid BY PROGRAM, IN A SANDBOX (cutbox-door.mjs). By AI agents, Wed Nov 11 2026. No macro, syntax, notation, axiom, sorry.
-/
import Derived.Test.YtigcgpbdifihoaaDoorRows
import GoSem.ClaimSeven
namespace Go.Proofs.YtigcgpbdifihoaaDoor
namespace Rows

/-- THE TIED CARD OF 'atriumlaw28.ScriptNames'. -/
def scriptNamesCard : Claim7 := { stood := { row := scriptNamesRow, standIns := [], harness := (true, "9d4a9e0ab5028b7e411f096c5c78acdc46ff9072faee1cca022fc29c7591b3f3"), looks := true }, kinds := [], alts := [], laidByText := true, laidKinds := [.data, .data, .data], laidTests := true, laidLooks := .later }
def ScriptNamesCardSaid : Prop := Claim7.holds Tryd.pinned (.plain (OpenSpec.ofChange scriptNamesSpec)) scriptNamesCard

/-- THE TIED CARD OF 'atriumlaw28.ScriptGrows'. -/
def scriptGrowsCard : Claim7 := { stood := { row := scriptGrowsRow, standIns := [], harness := (true, "9d4a9e0ab5028b7e411f096c5c78acdc46ff9072faee1cca022fc29c7591b3f3"), looks := true }, kinds := [], alts := [], laidByText := true, laidKinds := [.data, .data, .data], laidTests := true, laidLooks := .later }
def ScriptGrowsCardSaid : Prop := Claim7.holds Tryd.pinned (.plain (OpenSpec.ofChange scriptGrowsSpec)) scriptGrowsCard

/-- THE TIED CARD OF 'atriumlaw28.ScriptRequests'. -/
def scriptRequestsCard : Claim7 := { stood := { row := scriptRequestsRow, standIns := [], harness := (true, "9d4a9e0ab5028b7e411f096c5c78acdc46ff9072faee1cca022fc29c7591b3f3"), looks := true }, kinds := [], alts := [], laidByText := true, laidKinds := [.data, .data, .data], laidTests := true, laidLooks := .later }
def ScriptRequestsCardSaid : Prop := Claim7.holds Tryd.pinned (.plain (OpenSpec.ofChange scriptRequestsSpec)) scriptRequestsCard

/-- THE TIED CARD OF 'atriumlaw28.ScriptQuotes'. -/
def scriptQuotesCard : Claim7 := { stood := { row := scriptQuotesRow, standIns := [], harness := (true, "9d4a9e0ab5028b7e411f096c5c78acdc46ff9072faee1cca022fc29c7591b3f3"), looks := true }, kinds := [], alts := [], laidByText := true, laidKinds := [.data, .data, .data], laidTests := true, laidLooks := .later }
def ScriptQuotesCardSaid : Prop := Claim7.holds Tryd.pinned (.plain (OpenSpec.ofChange scriptQuotesSpec)) scriptQuotesCard

/-- THE TIED CARD OF 'atriumlaw28.ScriptPrints'. -/
def scriptPrintsCard : Claim7 := { stood := { row := scriptPrintsRow, standIns := [], harness := (true, "9d4a9e0ab5028b7e411f096c5c78acdc46ff9072faee1cca022fc29c7591b3f3"), looks := true }, kinds := [], alts := [], laidByText := true, laidKinds := [.data, .data, .data, .sentinel, .sentinel], laidTests := true, laidLooks := .later }
def ScriptPrintsCardSaid : Prop := Claim7.holds Tryd.pinned (.plain (OpenSpec.ofChange scriptPrintsSpec)) scriptPrintsCard

/-- THE SECOND FORM's CARD OF 'atriumlaw28.ScriptNames'. -/
def scriptNamesUptoCard : Claim7 := { stood := { row := scriptNamesUptoRow, standIns := [], harness := (true, "9d4a9e0ab5028b7e411f096c5c78acdc46ff9072faee1cca022fc29c7591b3f3"), looks := true }, kinds := [], alts := [], laidByText := true, laidKinds := [.data, .data, .data], laidTests := true, laidLooks := .later }
def ScriptNamesUptoCardSaid : Prop := Claim7.holds Tryd.pinned (.plain (OpenSpec.upto scriptNamesSpec)) scriptNamesUptoCard

/-- THE SECOND FORM's CARD OF 'atriumlaw28.ScriptGrows'. -/
def scriptGrowsUptoCard : Claim7 := { stood := { row := scriptGrowsUptoRow, standIns := [], harness := (true, "9d4a9e0ab5028b7e411f096c5c78acdc46ff9072faee1cca022fc29c7591b3f3"), looks := true }, kinds := [], alts := [], laidByText := true, laidKinds := [.data, .data, .data], laidTests := true, laidLooks := .later }
def ScriptGrowsUptoCardSaid : Prop := Claim7.holds Tryd.pinned (.plain (OpenSpec.upto scriptGrowsSpec)) scriptGrowsUptoCard

/-- THE SECOND FORM's CARD OF 'atriumlaw28.ScriptRequests'. -/
def scriptRequestsUptoCard : Claim7 := { stood := { row := scriptRequestsUptoRow, standIns := [], harness := (true, "9d4a9e0ab5028b7e411f096c5c78acdc46ff9072faee1cca022fc29c7591b3f3"), looks := true }, kinds := [], alts := [], laidByText := true, laidKinds := [.data, .data, .data], laidTests := true, laidLooks := .later }
def ScriptRequestsUptoCardSaid : Prop := Claim7.holds Tryd.pinned (.plain (OpenSpec.upto scriptRequestsSpec)) scriptRequestsUptoCard

/-- THE SECOND FORM's CARD OF 'atriumlaw28.ScriptQuotes'. -/
def scriptQuotesUptoCard : Claim7 := { stood := { row := scriptQuotesUptoRow, standIns := [], harness := (true, "9d4a9e0ab5028b7e411f096c5c78acdc46ff9072faee1cca022fc29c7591b3f3"), looks := true }, kinds := [], alts := [], laidByText := true, laidKinds := [.data, .data, .data], laidTests := true, laidLooks := .later }
def ScriptQuotesUptoCardSaid : Prop := Claim7.holds Tryd.pinned (.plain (OpenSpec.upto scriptQuotesSpec)) scriptQuotesUptoCard

/-- THE SECOND FORM's CARD OF 'atriumlaw28.ScriptPrints'. -/
def scriptPrintsUptoCard : Claim7 := { stood := { row := scriptPrintsUptoRow, standIns := [], harness := (true, "9d4a9e0ab5028b7e411f096c5c78acdc46ff9072faee1cca022fc29c7591b3f3"), looks := true }, kinds := [], alts := [], laidByText := true, laidKinds := [.data, .data, .data, .sentinel, .sentinel], laidTests := true, laidLooks := .later }
def ScriptPrintsUptoCardSaid : Prop := Claim7.holds Tryd.pinned (.plain (OpenSpec.upto scriptPrintsSpec)) scriptPrintsUptoCard
end Rows
end Go.Proofs.YtigcgpbdifihoaaDoor
