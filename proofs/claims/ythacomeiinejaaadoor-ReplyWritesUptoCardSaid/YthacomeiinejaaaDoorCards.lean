/-
  DERIVED. GIVEN WITH THE SEED: THE CARDS: each row of YthacomeiinejaaaDoorRows.lean that lists a variable, with what it lists TIED to the program's text (the seventh form; the later family's looks); each row that meets fmt, with fmt's text TOLD by the authors' own Lean function (tested against real Go, not proved from fmt's source: count such statements apart). THE CARD IS WHAT COUNTS. Prove the row's statement (the work); the ties are given (YthacomeiinejaaaDoorTie.lean); close each card by the builder's one call (the guide's Derived/Test/ToyasCard.lean, 'card_holds'). Laid BY PROGRAM, IN A SANDBOX (cutbox-door.mjs). By AI agents, Wed Nov 11 2026. No macro, syntax, notation, axiom, sorry.
-/
import Derived.Test.YthacomeiinejaaaDoorRows
import GoSem.ClaimSeven
namespace Go.Proofs.YthacomeiinejaaaDoor
namespace Rows

/-- THE TIED CARD OF 'atriumlaw18.ReplyWrites'. -/
def replyWritesCard : Claim7 := { stood := { row := replyWritesRow, standIns := [], harness := (true, "29fac874d2c4280fcb4c2fdee94dd2e7f8b9951eb3b2586ed5dabb7f2ca8672d"), looks := false }, kinds := [], alts := [], laidByText := true, laidKinds := [.data, .data, .data], laidTests := true, laidLooks := .later }
def ReplyWritesCardSaid : Prop := Claim7.holds Tryd.pinned (.plain (OpenSpec.ofChange replyWritesSpec)) replyWritesCard

/-- THE TIED CARD OF 'atriumlaw18.ReplyParses'. -/
def replyParsesCard : Claim7 := { stood := { row := replyParsesRow, standIns := [], harness := (true, "29fac874d2c4280fcb4c2fdee94dd2e7f8b9951eb3b2586ed5dabb7f2ca8672d"), looks := false }, kinds := [], alts := [], laidByText := true, laidKinds := [.data, .data, .data], laidTests := true, laidLooks := .later }
def ReplyParsesCardSaid : Prop := Claim7.holds Tryd.pinned (.plain (OpenSpec.ofChange replyParsesSpec)) replyParsesCard

/-- THE TIED CARD OF 'atriumlaw18.ReplyGoesOn'. -/
def replyGoesOnCard : Claim7 := { stood := { row := replyGoesOnRow, standIns := [], harness := (true, "29fac874d2c4280fcb4c2fdee94dd2e7f8b9951eb3b2586ed5dabb7f2ca8672d"), looks := false }, kinds := [], alts := [], laidByText := true, laidKinds := [.data, .data, .data], laidTests := true, laidLooks := .later }
def ReplyGoesOnCardSaid : Prop := Claim7.holds Tryd.pinned (.plain (OpenSpec.ofChange replyGoesOnSpec)) replyGoesOnCard

/-- THE TIED CARD OF 'atriumlaw18.ReplyErrors'. -/
def replyErrorsCard : Claim7 := { stood := { row := replyErrorsRow, standIns := [], harness := (true, "29fac874d2c4280fcb4c2fdee94dd2e7f8b9951eb3b2586ed5dabb7f2ca8672d"), looks := false }, kinds := [], alts := [], laidByText := true, laidKinds := [.data, .data, .data], laidTests := true, laidLooks := .later }
def ReplyErrorsCardSaid : Prop := Claim7.holds Tryd.pinned (.plain (OpenSpec.ofChange replyErrorsSpec)) replyErrorsCard

/-- THE TIED CARD OF 'atriumlaw18.ReplyApart'. -/
def replyApartCard : Claim7 := { stood := { row := replyApartRow, standIns := [], harness := (true, "29fac874d2c4280fcb4c2fdee94dd2e7f8b9951eb3b2586ed5dabb7f2ca8672d"), looks := false }, kinds := [], alts := [], laidByText := true, laidKinds := [.data, .data, .data], laidTests := true, laidLooks := .later }
def ReplyApartCardSaid : Prop := Claim7.holds Tryd.pinned (.plain (OpenSpec.ofChange replyApartSpec)) replyApartCard

/-- THE TIED CARD OF 'atriumlaw18.ReplyAll'. -/
def replyAllCard : Claim7 := { stood := { row := replyAllRow, standIns := [], harness := (true, "29fac874d2c4280fcb4c2fdee94dd2e7f8b9951eb3b2586ed5dabb7f2ca8672d"), looks := false }, kinds := [], alts := [], laidByText := true, laidKinds := [.data, .data, .data], laidTests := true, laidLooks := .later }
def ReplyAllCardSaid : Prop := Claim7.holds Tryd.pinned (.plain (OpenSpec.ofChange replyAllSpec)) replyAllCard

/-- THE SECOND FORM's CARD OF 'atriumlaw18.ReplyWrites'. -/
def replyWritesUptoCard : Claim7 := { stood := { row := replyWritesUptoRow, standIns := [], harness := (true, "29fac874d2c4280fcb4c2fdee94dd2e7f8b9951eb3b2586ed5dabb7f2ca8672d"), looks := false }, kinds := [], alts := [], laidByText := true, laidKinds := [.data, .data, .data], laidTests := true, laidLooks := .later }
def ReplyWritesUptoCardSaid : Prop := Claim7.holds Tryd.pinned (.plain (OpenSpec.upto replyWritesSpec)) replyWritesUptoCard

/-- THE SECOND FORM's CARD OF 'atriumlaw18.ReplyParses'. -/
def replyParsesUptoCard : Claim7 := { stood := { row := replyParsesUptoRow, standIns := [], harness := (true, "29fac874d2c4280fcb4c2fdee94dd2e7f8b9951eb3b2586ed5dabb7f2ca8672d"), looks := false }, kinds := [], alts := [], laidByText := true, laidKinds := [.data, .data, .data], laidTests := true, laidLooks := .later }
def ReplyParsesUptoCardSaid : Prop := Claim7.holds Tryd.pinned (.plain (OpenSpec.upto replyParsesSpec)) replyParsesUptoCard

/-- THE SECOND FORM's CARD OF 'atriumlaw18.ReplyGoesOn'. -/
def replyGoesOnUptoCard : Claim7 := { stood := { row := replyGoesOnUptoRow, standIns := [], harness := (true, "29fac874d2c4280fcb4c2fdee94dd2e7f8b9951eb3b2586ed5dabb7f2ca8672d"), looks := false }, kinds := [], alts := [], laidByText := true, laidKinds := [.data, .data, .data], laidTests := true, laidLooks := .later }
def ReplyGoesOnUptoCardSaid : Prop := Claim7.holds Tryd.pinned (.plain (OpenSpec.upto replyGoesOnSpec)) replyGoesOnUptoCard

/-- THE SECOND FORM's CARD OF 'atriumlaw18.ReplyErrors'. -/
def replyErrorsUptoCard : Claim7 := { stood := { row := replyErrorsUptoRow, standIns := [], harness := (true, "29fac874d2c4280fcb4c2fdee94dd2e7f8b9951eb3b2586ed5dabb7f2ca8672d"), looks := false }, kinds := [], alts := [], laidByText := true, laidKinds := [.data, .data, .data], laidTests := true, laidLooks := .later }
def ReplyErrorsUptoCardSaid : Prop := Claim7.holds Tryd.pinned (.plain (OpenSpec.upto replyErrorsSpec)) replyErrorsUptoCard

/-- THE SECOND FORM's CARD OF 'atriumlaw18.ReplyApart'. -/
def replyApartUptoCard : Claim7 := { stood := { row := replyApartUptoRow, standIns := [], harness := (true, "29fac874d2c4280fcb4c2fdee94dd2e7f8b9951eb3b2586ed5dabb7f2ca8672d"), looks := false }, kinds := [], alts := [], laidByText := true, laidKinds := [.data, .data, .data], laidTests := true, laidLooks := .later }
def ReplyApartUptoCardSaid : Prop := Claim7.holds Tryd.pinned (.plain (OpenSpec.upto replyApartSpec)) replyApartUptoCard

/-- THE SECOND FORM's CARD OF 'atriumlaw18.ReplyAll'. -/
def replyAllUptoCard : Claim7 := { stood := { row := replyAllUptoRow, standIns := [], harness := (true, "29fac874d2c4280fcb4c2fdee94dd2e7f8b9951eb3b2586ed5dabb7f2ca8672d"), looks := false }, kinds := [], alts := [], laidByText := true, laidKinds := [.data, .data, .data], laidTests := true, laidLooks := .later }
def ReplyAllUptoCardSaid : Prop := Claim7.holds Tryd.pinned (.plain (OpenSpec.upto replyAllSpec)) replyAllUptoCard
end Rows
end Go.Proofs.YthacomeiinejaaaDoor
