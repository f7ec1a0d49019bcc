/-
  DERIVED. GIVEN WITH THE SEED: THE CARDS: each row of YtgnibfideghklaaDoorRows.lean that lists a variable, with what it lists TIED to the program's text (the seventh form; the later family's looks); each row that meets fmt, with fmt's text TOLD by the authors' own Lean function (tested against real Go, not proved from fmt's source: count such statements apart). THE CARD IS WHAT COUNTS. Prove the row's statement (the work); the ties are given (YtgnibfideghklaaDoorTie.lean); close each card by the builder's one call (the guide's Derived/Test/ToyasCard.lean, 'card_holds'). Laid BY PROGRAM, IN A SANDBOX (cutbox-door.mjs). By AI agents, Wed Nov 11 2026. No macro, syntax, notation, axiom, sorry.
-/
import Derived.Test.YtgnibfideghklaaDoorRows
import GoSem.ClaimSeven
namespace Go.Proofs.YtgnibfideghklaaDoor
namespace Rows

/-- THE TIED CARD OF 'atriumlaw19.CookieFinds'. -/
def cookieFindsCard : Claim7 := { stood := { row := cookieFindsRow, standIns := [], harness := (true, "1014c08ec72bc0fd9766d4b323ca11b307491177d6aef4c1331e42fafbdbba57"), looks := false }, kinds := [], alts := [], laidByText := true, laidKinds := [.data, .data, .data, .data, .pinned], laidTests := true, laidLooks := .later }
def CookieFindsCardSaid : Prop := Claim7.holds Tryd.pinned (.plain (OpenSpec.ofChange cookieFindsSpec)) cookieFindsCard

/-- THE TIED CARD OF 'atriumlaw19.CookieParses'. -/
def cookieParsesCard : Claim7 := { stood := { row := cookieParsesRow, standIns := [], harness := (true, "1014c08ec72bc0fd9766d4b323ca11b307491177d6aef4c1331e42fafbdbba57"), looks := false }, kinds := [], alts := [], laidByText := true, laidKinds := [.data, .data, .data, .data, .pinned], laidTests := true, laidLooks := .later }
def CookieParsesCardSaid : Prop := Claim7.holds Tryd.pinned (.plain (OpenSpec.ofChange cookieParsesSpec)) cookieParsesCard

/-- THE TIED CARD OF 'atriumlaw19.CookiePrints'. -/
def cookiePrintsCard : Claim7 := { stood := { row := cookiePrintsRow, standIns := [], harness := (true, "1014c08ec72bc0fd9766d4b323ca11b307491177d6aef4c1331e42fafbdbba57"), looks := false }, kinds := [], alts := [], laidByText := true, laidKinds := [.data, .data, .data, .data, .pinned], laidTests := true, laidLooks := .later }
def CookiePrintsCardSaid : Prop := Claim7.holds Tryd.pinned (.plain (OpenSpec.ofChange cookiePrintsSpec)) cookiePrintsCard

/-- THE TIED CARD OF 'atriumlaw19.CookieSets'. -/
def cookieSetsCard : Claim7 := { stood := { row := cookieSetsRow, standIns := [], harness := (true, "1014c08ec72bc0fd9766d4b323ca11b307491177d6aef4c1331e42fafbdbba57"), looks := false }, kinds := [], alts := [], laidByText := true, laidKinds := [.data, .data, .data, .data, .pinned], laidTests := true, laidLooks := .later }
def CookieSetsCardSaid : Prop := Claim7.holds Tryd.pinned (.plain (OpenSpec.ofChange cookieSetsSpec)) cookieSetsCard

/-- THE TIED CARD OF 'atriumlaw19.CookieReads'. -/
def cookieReadsCard : Claim7 := { stood := { row := cookieReadsRow, standIns := [], harness := (true, "1014c08ec72bc0fd9766d4b323ca11b307491177d6aef4c1331e42fafbdbba57"), looks := false }, kinds := [], alts := [], laidByText := true, laidKinds := [.data, .data, .data, .data, .pinned], laidTests := true, laidLooks := .later }
def CookieReadsCardSaid : Prop := Claim7.holds Tryd.pinned (.plain (OpenSpec.ofChange cookieReadsSpec)) cookieReadsCard

/-- THE SECOND FORM's CARD OF 'atriumlaw19.CookieFinds'. -/
def cookieFindsUptoCard : Claim7 := { stood := { row := cookieFindsUptoRow, standIns := [], harness := (true, "1014c08ec72bc0fd9766d4b323ca11b307491177d6aef4c1331e42fafbdbba57"), looks := false }, kinds := [], alts := [], laidByText := true, laidKinds := [.data, .data, .data, .data, .pinned], laidTests := true, laidLooks := .later }
def CookieFindsUptoCardSaid : Prop := Claim7.holds Tryd.pinned (.plain (OpenSpec.upto cookieFindsSpec)) cookieFindsUptoCard

/-- THE SECOND FORM's CARD OF 'atriumlaw19.CookieParses'. -/
def cookieParsesUptoCard : Claim7 := { stood := { row := cookieParsesUptoRow, standIns := [], harness := (true, "1014c08ec72bc0fd9766d4b323ca11b307491177d6aef4c1331e42fafbdbba57"), looks := false }, kinds := [], alts := [], laidByText := true, laidKinds := [.data, .data, .data, .data, .pinned], laidTests := true, laidLooks := .later }
def CookieParsesUptoCardSaid : Prop := Claim7.holds Tryd.pinned (.plain (OpenSpec.upto cookieParsesSpec)) cookieParsesUptoCard

/-- THE SECOND FORM's CARD OF 'atriumlaw19.CookiePrints'. -/
def cookiePrintsUptoCard : Claim7 := { stood := { row := cookiePrintsUptoRow, standIns := [], harness := (true, "1014c08ec72bc0fd9766d4b323ca11b307491177d6aef4c1331e42fafbdbba57"), looks := false }, kinds := [], alts := [], laidByText := true, laidKinds := [.data, .data, .data, .data, .pinned], laidTests := true, laidLooks := .later }
def CookiePrintsUptoCardSaid : Prop := Claim7.holds Tryd.pinned (.plain (OpenSpec.upto cookiePrintsSpec)) cookiePrintsUptoCard

/-- THE SECOND FORM's CARD OF 'atriumlaw19.CookieSets'. -/
def cookieSetsUptoCard : Claim7 := { stood := { row := cookieSetsUptoRow, standIns := [], harness := (true, "1014c08ec72bc0fd9766d4b323ca11b307491177d6aef4c1331e42fafbdbba57"), looks := false }, kinds := [], alts := [], laidByText := true, laidKinds := [.data, .data, .data, .data, .pinned], laidTests := true, laidLooks := .later }
def CookieSetsUptoCardSaid : Prop := Claim7.holds Tryd.pinned (.plain (OpenSpec.upto cookieSetsSpec)) cookieSetsUptoCard

/-- THE SECOND FORM's CARD OF 'atriumlaw19.CookieReads'. -/
def cookieReadsUptoCard : Claim7 := { stood := { row := cookieReadsUptoRow, standIns := [], harness := (true, "1014c08ec72bc0fd9766d4b323ca11b307491177d6aef4c1331e42fafbdbba57"), looks := false }, kinds := [], alts := [], laidByText := true, laidKinds := [.data, .data, .data, .data, .pinned], laidTests := true, laidLooks := .later }
def CookieReadsUptoCardSaid : Prop := Claim7.holds Tryd.pinned (.plain (OpenSpec.upto cookieReadsSpec)) cookieReadsUptoCard
end Rows
end Go.Proofs.YtgnibfideghklaaDoor
