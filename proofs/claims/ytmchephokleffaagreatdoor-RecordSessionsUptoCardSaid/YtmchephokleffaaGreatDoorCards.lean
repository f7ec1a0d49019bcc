/-
  DERIVED. GIVEN WITH THE SEED: THE CARDS: each row of YtmchephokleffaaGreatDoorRows.lean that lists a variable, with what it lists TIED to the program's text (the seventh form; the later family's looks); each row that meets fmt, with fmt's text TOLD by the authors' own Lean function (tested against real Go, not proved from fmt's source: count such statements apart). THE CARD IS WHAT COUNTS. Prove the row's statement (the work); the ties are given (YtmchephokleffaaGreatDoorTie.lean); close each card by the builder's one call (the guide's Derived/Test/ToyasCard.lean, 'card_holds'). Laid BY PROGRAM, IN A SANDBOX (cutbox-door.mjs). By AI agents, Wed Nov 11 2026. No macro, syntax, notation, axiom, sorry.
-/
import Derived.Test.YtmchephokleffaaGreatDoorRows
import GoSem.ClaimSeven
namespace Go.Proofs.YtmchephokleffaaGreatDoor
namespace Rows

/-- THE TIED CARD OF 'atriumlaw22.RecordKeys'. -/
def recordKeysCard : Claim7 := { stood := { row := recordKeysRow, standIns := [], harness := (true, "5eebaefa90d196414df38b54db8ae4f4d33520461de8b84a3d81fa1145bfc509"), looks := false }, kinds := [], alts := [], laidByText := true, laidKinds := [.data, .pinned], laidTests := true, laidLooks := .later }
def RecordKeysCardSaid : Prop := Claim7.holds Tryz.pinned (.plain (OpenSpec.ofChange recordKeysSpec)) recordKeysCard

/-- THE TIED CARD OF 'atriumlaw22.RecordWhere'. -/
def recordWhereCard : Claim7 := { stood := { row := recordWhereRow, standIns := [], harness := (true, "5eebaefa90d196414df38b54db8ae4f4d33520461de8b84a3d81fa1145bfc509"), looks := false }, kinds := [], alts := [], laidByText := true, laidKinds := [.data, .pinned], laidTests := true, laidLooks := .later }
def RecordWhereCardSaid : Prop := Claim7.holds Tryz.pinned (.plain (OpenSpec.ofChange recordWhereSpec)) recordWhereCard

/-- THE TIED CARD OF 'atriumlaw22.RecordRanges'. -/
def recordRangesCard : Claim7 := { stood := { row := recordRangesRow, standIns := [], harness := (true, "5eebaefa90d196414df38b54db8ae4f4d33520461de8b84a3d81fa1145bfc509"), looks := false }, kinds := [], alts := [], laidByText := true, laidKinds := [.data, .pinned], laidTests := true, laidLooks := .later }
def RecordRangesCardSaid : Prop := Claim7.holds Tryz.pinned (.plain (OpenSpec.ofChange recordRangesSpec)) recordRangesCard

/-- THE TIED CARD OF 'atriumlaw22.RecordSessions'. -/
def recordSessionsCard : Claim7 := { stood := { row := recordSessionsRow, standIns := [], harness := (true, "5eebaefa90d196414df38b54db8ae4f4d33520461de8b84a3d81fa1145bfc509"), looks := false }, kinds := [], alts := [], laidByText := true, laidKinds := [.data, .pinned], laidTests := true, laidLooks := .later }
def RecordSessionsCardSaid : Prop := Claim7.holds Tryz.pinned (.plain (OpenSpec.ofChange recordSessionsSpec)) recordSessionsCard

/-- THE TIED CARD OF 'atriumlaw22.RecordAgree'. -/
def recordAgreeCard : Claim7 := { stood := { row := recordAgreeRow, standIns := [], harness := (true, "5eebaefa90d196414df38b54db8ae4f4d33520461de8b84a3d81fa1145bfc509"), looks := false }, kinds := [], alts := [], laidByText := true, laidKinds := [.data, .pinned], laidTests := true, laidLooks := .later }
def RecordAgreeCardSaid : Prop := Claim7.holds Tryz.pinned (.plain (OpenSpec.ofChange recordAgreeSpec)) recordAgreeCard

/-- THE TIED CARD OF 'atriumlaw22.RecordShows'. -/
def recordShowsCard : Claim7 := { stood := { row := recordShowsRow, standIns := [], harness := (true, "5eebaefa90d196414df38b54db8ae4f4d33520461de8b84a3d81fa1145bfc509"), looks := false }, kinds := [], alts := [], laidByText := true, laidKinds := [.data, .data, .data, .data, .pinned], laidTests := true, laidLooks := .later }
def RecordShowsCardSaid : Prop := Claim7.holds Tryz.pinned (.plain (OpenSpec.ofChange recordShowsSpec)) recordShowsCard

/-- THE TIED CARD OF 'atriumlaw22.RecordSplits'. -/
def recordSplitsCard : Claim7 := { stood := { row := recordSplitsRow, standIns := [], harness := (true, "5eebaefa90d196414df38b54db8ae4f4d33520461de8b84a3d81fa1145bfc509"), looks := false }, kinds := [], alts := [], laidByText := true, laidKinds := [.data, .pinned], laidTests := true, laidLooks := .later }
def RecordSplitsCardSaid : Prop := Claim7.holds Tryz.pinned (.plain (OpenSpec.ofChange recordSplitsSpec)) recordSplitsCard

/-- THE SECOND FORM's CARD OF 'atriumlaw22.RecordKeys'. -/
def recordKeysUptoCard : Claim7 := { stood := { row := recordKeysUptoRow, standIns := [], harness := (true, "5eebaefa90d196414df38b54db8ae4f4d33520461de8b84a3d81fa1145bfc509"), looks := false }, kinds := [], alts := [], laidByText := true, laidKinds := [.data, .pinned], laidTests := true, laidLooks := .later }
def RecordKeysUptoCardSaid : Prop := Claim7.holds Tryz.pinned (.plain (OpenSpec.upto recordKeysSpec)) recordKeysUptoCard

/-- THE SECOND FORM's CARD OF 'atriumlaw22.RecordWhere'. -/
def recordWhereUptoCard : Claim7 := { stood := { row := recordWhereUptoRow, standIns := [], harness := (true, "5eebaefa90d196414df38b54db8ae4f4d33520461de8b84a3d81fa1145bfc509"), looks := false }, kinds := [], alts := [], laidByText := true, laidKinds := [.data, .pinned], laidTests := true, laidLooks := .later }
def RecordWhereUptoCardSaid : Prop := Claim7.holds Tryz.pinned (.plain (OpenSpec.upto recordWhereSpec)) recordWhereUptoCard

/-- THE SECOND FORM's CARD OF 'atriumlaw22.RecordRanges'. -/
def recordRangesUptoCard : Claim7 := { stood := { row := recordRangesUptoRow, standIns := [], harness := (true, "5eebaefa90d196414df38b54db8ae4f4d33520461de8b84a3d81fa1145bfc509"), looks := false }, kinds := [], alts := [], laidByText := true, laidKinds := [.data, .pinned], laidTests := true, laidLooks := .later }
def RecordRangesUptoCardSaid : Prop := Claim7.holds Tryz.pinned (.plain (OpenSpec.upto recordRangesSpec)) recordRangesUptoCard

/-- THE SECOND FORM's CARD OF 'atriumlaw22.RecordSessions'. -/
def recordSessionsUptoCard : Claim7 := { stood := { row := recordSessionsUptoRow, standIns := [], harness := (true, "5eebaefa90d196414df38b54db8ae4f4d33520461de8b84a3d81fa1145bfc509"), looks := false }, kinds := [], alts := [], laidByText := true, laidKinds := [.data, .pinned], laidTests := true, laidLooks := .later }
def RecordSessionsUptoCardSaid : Prop := Claim7.holds Tryz.pinned (.plain (OpenSpec.upto recordSessionsSpec)) recordSessionsUptoCard

/-- THE SECOND FORM's CARD OF 'atriumlaw22.RecordAgree'. -/
def recordAgreeUptoCard : Claim7 := { stood := { row := recordAgreeUptoRow, standIns := [], harness := (true, "5eebaefa90d196414df38b54db8ae4f4d33520461de8b84a3d81fa1145bfc509"), looks := false }, kinds := [], alts := [], laidByText := true, laidKinds := [.data, .pinned], laidTests := true, laidLooks := .later }
def RecordAgreeUptoCardSaid : Prop := Claim7.holds Tryz.pinned (.plain (OpenSpec.upto recordAgreeSpec)) recordAgreeUptoCard

/-- THE SECOND FORM's CARD OF 'atriumlaw22.RecordShows'. -/
def recordShowsUptoCard : Claim7 := { stood := { row := recordShowsUptoRow, standIns := [], harness := (true, "5eebaefa90d196414df38b54db8ae4f4d33520461de8b84a3d81fa1145bfc509"), looks := false }, kinds := [], alts := [], laidByText := true, laidKinds := [.data, .data, .data, .data, .pinned], laidTests := true, laidLooks := .later }
def RecordShowsUptoCardSaid : Prop := Claim7.holds Tryz.pinned (.plain (OpenSpec.upto recordShowsSpec)) recordShowsUptoCard

/-- THE SECOND FORM's CARD OF 'atriumlaw22.RecordSplits'. -/
def recordSplitsUptoCard : Claim7 := { stood := { row := recordSplitsUptoRow, standIns := [], harness := (true, "5eebaefa90d196414df38b54db8ae4f4d33520461de8b84a3d81fa1145bfc509"), looks := false }, kinds := [], alts := [], laidByText := true, laidKinds := [.data, .pinned], laidTests := true, laidLooks := .later }
def RecordSplitsUptoCardSaid : Prop := Claim7.holds Tryz.pinned (.plain (OpenSpec.upto recordSplitsSpec)) recordSplitsUptoCard
end Rows
end Go.Proofs.YtmchephokleffaaGreatDoor
