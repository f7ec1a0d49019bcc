/-
  DERIVED. GIVEN WITH THE SEED: THE CARDS: each row of YtmchephokleffaaDoorRows.lean that lists a variable, with what it lists TIED to the program's text (the seventh form; the later family's looks); each row that meets fmt, with fmt's text TOLD by the authors' own Lean function (tested against real Go, not proved from fmt's source: count such statements apart). THE CARD IS WHAT COUNTS. Prove the row's statement (the work); the ties are given (YtmchephokleffaaDoorTie.lean); close each card by the builder's one call (the guide's Derived/Test/ToyasCard.lean, 'card_holds'). Laid BY PROGRAM, IN A SANDBOX (cutbox-door.mjs). By AI agents, Wed Nov 11 2026. No macro, syntax, notation, axiom, sorry.
-/
import Derived.Test.YtmchephokleffaaDoorRows
import GoSem.ClaimSeven
namespace Go.Proofs.YtmchephokleffaaDoor
namespace Rows

/-- THE TIED CARD OF 'atriumlaw22.RecordNames'. -/
def recordNamesCard : Claim7 := { stood := { row := recordNamesRow, standIns := [], harness := (true, "45bdbffafd3b2c9c96a684c541b80d993b7030c4f152347f53d4dec0b042e472"), looks := false }, kinds := [], alts := [], laidByText := true, laidKinds := [.data, .pinned], laidTests := true, laidLooks := .later }
def RecordNamesCardSaid : Prop := Claim7.holds Tryd.pinned (.plain (OpenSpec.ofChange recordNamesSpec)) recordNamesCard

/-- THE TIED CARD OF 'atriumlaw22.RecordLedgers'. -/
def recordLedgersCard : Claim7 := { stood := { row := recordLedgersRow, standIns := [], harness := (true, "45bdbffafd3b2c9c96a684c541b80d993b7030c4f152347f53d4dec0b042e472"), looks := false }, kinds := [], alts := [], laidByText := true, laidKinds := [.data, .pinned], laidTests := true, laidLooks := .later }
def RecordLedgersCardSaid : Prop := Claim7.holds Tryd.pinned (.plain (OpenSpec.ofChange recordLedgersSpec)) recordLedgersCard

/-- THE TIED CARD OF 'atriumlaw22.RecordEntries'. -/
def recordEntriesCard : Claim7 := { stood := { row := recordEntriesRow, standIns := [], harness := (true, "45bdbffafd3b2c9c96a684c541b80d993b7030c4f152347f53d4dec0b042e472"), looks := false }, kinds := [], alts := [], laidByText := true, laidKinds := [.data, .pinned], laidTests := true, laidLooks := .later }
def RecordEntriesCardSaid : Prop := Claim7.holds Tryd.pinned (.plain (OpenSpec.ofChange recordEntriesSpec)) recordEntriesCard

/-- THE SECOND FORM's CARD OF 'atriumlaw22.RecordNames'. -/
def recordNamesUptoCard : Claim7 := { stood := { row := recordNamesUptoRow, standIns := [], harness := (true, "45bdbffafd3b2c9c96a684c541b80d993b7030c4f152347f53d4dec0b042e472"), looks := false }, kinds := [], alts := [], laidByText := true, laidKinds := [.data, .pinned], laidTests := true, laidLooks := .later }
def RecordNamesUptoCardSaid : Prop := Claim7.holds Tryd.pinned (.plain (OpenSpec.upto recordNamesSpec)) recordNamesUptoCard

/-- THE SECOND FORM's CARD OF 'atriumlaw22.RecordLedgers'. -/
def recordLedgersUptoCard : Claim7 := { stood := { row := recordLedgersUptoRow, standIns := [], harness := (true, "45bdbffafd3b2c9c96a684c541b80d993b7030c4f152347f53d4dec0b042e472"), looks := false }, kinds := [], alts := [], laidByText := true, laidKinds := [.data, .pinned], laidTests := true, laidLooks := .later }
def RecordLedgersUptoCardSaid : Prop := Claim7.holds Tryd.pinned (.plain (OpenSpec.upto recordLedgersSpec)) recordLedgersUptoCard

/-- THE SECOND FORM's CARD OF 'atriumlaw22.RecordEntries'. -/
def recordEntriesUptoCard : Claim7 := { stood := { row := recordEntriesUptoRow, standIns := [], harness := (true, "45bdbffafd3b2c9c96a684c541b80d993b7030c4f152347f53d4dec0b042e472"), looks := false }, kinds := [], alts := [], laidByText := true, laidKinds := [.data, .pinned], laidTests := true, laidLooks := .later }
def RecordEntriesUptoCardSaid : Prop := Claim7.holds Tryd.pinned (.plain (OpenSpec.upto recordEntriesSpec)) recordEntriesUptoCard
end Rows
end Go.Proofs.YtmchephokleffaaDoor
