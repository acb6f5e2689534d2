/-
  DERIVED. GIVEN WITH THE SEED: THE CARDS: each row of YtgilikgghknbhaaDoorRows.lean that lists a variable, with what it lists TIED to the program's text (the seventh form; the later family's looks); each row that meets fmt, with fmt's text TOLD by the authors' own Lean function (tested against real Go, not proved from fmt's source: count such statements apart). THE CARD IS WHAT COUNTS. Prove the row's statement (the work); the ties are given (YtgilikgghknbhaaDoorTie.lean); close each card by the builder's one call (the guide's Derived/Test/ToyasCard.lean, 'card_holds'). Laid BY PROGRAM, IN A SANDBOX (cutbox-door.mjs). By AI agents, Wed Nov 11 2026. No macro, syntax, notation, axiom, sorry.
-/
import Derived.Test.YtgilikgghknbhaaDoorRows
import GoSem.ClaimSeven
namespace Go.Proofs.YtgilikgghknbhaaDoor
namespace Rows

/-- THE TIED CARD OF 'scantlinglaw25.ViewsPlays'. -/
def viewsPlaysCard : Claim7 := { stood := { row := viewsPlaysRow, standIns := [], harness := (true, "7a5f10c51f7e738ea578cf82824ecafc307e4e96002dced6f3b42f2294615900"), looks := false }, kinds := [], alts := [], laidByText := true, laidKinds := [.data], laidTests := true, laidLooks := .later }
def ViewsPlaysCardSaid : Prop := Claim7.holds Tryd.pinned (.plain (OpenSpec.ofChange viewsPlaysSpec)) viewsPlaysCard

/-- THE TIED CARD OF 'scantlinglaw25.ViewsLess'. -/
def viewsLessCard : Claim7 := { stood := { row := viewsLessRow, standIns := [], harness := (true, "7a5f10c51f7e738ea578cf82824ecafc307e4e96002dced6f3b42f2294615900"), looks := false }, kinds := [], alts := [], laidByText := true, laidKinds := [.data], laidTests := true, laidLooks := .later }
def ViewsLessCardSaid : Prop := Claim7.holds Tryd.pinned (.plain (OpenSpec.ofChange viewsLessSpec)) viewsLessCard

/-- THE TIED CARD OF 'scantlinglaw15.LedgerQuiet'. -/
def ledgerQuietCard : Claim7 := { stood := { row := ledgerQuietRow, standIns := [], harness := (true, "7a5f10c51f7e738ea578cf82824ecafc307e4e96002dced6f3b42f2294615900"), looks := false }, kinds := [], alts := [], laidByText := true, laidKinds := [.data], laidTests := true, laidLooks := .later }
def LedgerQuietCardSaid : Prop := Claim7.holds Tryd.pinned (.plain (OpenSpec.ofChange ledgerQuietSpec)) ledgerQuietCard

/-- THE SECOND FORM's CARD OF 'scantlinglaw25.ViewsPlays'. -/
def viewsPlaysUptoCard : Claim7 := { stood := { row := viewsPlaysUptoRow, standIns := [], harness := (true, "7a5f10c51f7e738ea578cf82824ecafc307e4e96002dced6f3b42f2294615900"), looks := false }, kinds := [], alts := [], laidByText := true, laidKinds := [.data], laidTests := true, laidLooks := .later }
def ViewsPlaysUptoCardSaid : Prop := Claim7.holds Tryd.pinned (.plain (OpenSpec.upto viewsPlaysSpec)) viewsPlaysUptoCard

/-- THE SECOND FORM's CARD OF 'scantlinglaw25.ViewsLess'. -/
def viewsLessUptoCard : Claim7 := { stood := { row := viewsLessUptoRow, standIns := [], harness := (true, "7a5f10c51f7e738ea578cf82824ecafc307e4e96002dced6f3b42f2294615900"), looks := false }, kinds := [], alts := [], laidByText := true, laidKinds := [.data], laidTests := true, laidLooks := .later }
def ViewsLessUptoCardSaid : Prop := Claim7.holds Tryd.pinned (.plain (OpenSpec.upto viewsLessSpec)) viewsLessUptoCard

/-- THE SECOND FORM's CARD OF 'scantlinglaw15.LedgerQuiet'. -/
def ledgerQuietUptoCard : Claim7 := { stood := { row := ledgerQuietUptoRow, standIns := [], harness := (true, "7a5f10c51f7e738ea578cf82824ecafc307e4e96002dced6f3b42f2294615900"), looks := false }, kinds := [], alts := [], laidByText := true, laidKinds := [.data], laidTests := true, laidLooks := .later }
def LedgerQuietUptoCardSaid : Prop := Claim7.holds Tryd.pinned (.plain (OpenSpec.upto ledgerQuietSpec)) ledgerQuietUptoCard
end Rows
end Go.Proofs.YtgilikgghknbhaaDoor
