/-
  DERIVED. GIVEN WITH THE SEED: THE CARDS: each row of YtgilikgghknbhaaGreatDoorRows.lean that lists a variable, with what it lists TIED to the program's text (the seventh form; the later family's looks); each row that meets fmt, with fmt's text TOLD by the authors' own Lean function (tested against real Go, not proved from fmt's source: count such statements apart). THE CARD IS WHAT COUNTS. Prove the row's statement (the work); the ties are given (YtgilikgghknbhaaGreatDoorTie.lean); close each card by the builder's one call (the guide's Derived/Test/ToyasCard.lean, 'card_holds'). Laid BY PROGRAM, IN A SANDBOX (cutbox-door.mjs). By AI agents, Wed Nov 11 2026. No macro, syntax, notation, axiom, sorry.
-/
import Derived.Test.YtgilikgghknbhaaGreatDoorRows
import GoSem.ClaimSeven
namespace Go.Proofs.YtgilikgghknbhaaGreatDoor
namespace Rows

/-- THE TIED CARD OF 'scantlinglaw21.ProofPlays'. -/
def proofPlaysCard : Claim7 := { stood := { row := proofPlaysRow, standIns := [], harness := (true, "2ad3563bb516d20fea52eba2f029ea14506b1f117960dbfcdf91cd69c2178616"), looks := false }, kinds := [], alts := [], laidByText := true, laidKinds := [.data], laidTests := true, laidLooks := .later }
def ProofPlaysCardSaid : Prop := Claim7.holds Tryz.pinned (.plain (OpenSpec.ofChange proofPlaysSpec)) proofPlaysCard

/-- THE TIED CARD OF 'scantlinglaw15.LedgerPlays'. -/
def ledgerPlaysCard : Claim7 := { stood := { row := ledgerPlaysRow, standIns := [], harness := (true, "2ad3563bb516d20fea52eba2f029ea14506b1f117960dbfcdf91cd69c2178616"), looks := false }, kinds := [], alts := [], laidByText := true, laidKinds := [.data], laidTests := true, laidLooks := .later }
def LedgerPlaysCardSaid : Prop := Claim7.holds Tryz.pinned (.plain (OpenSpec.ofChange ledgerPlaysSpec)) ledgerPlaysCard

/-- THE TIED CARD OF 'scantlinglaw16.IndexPlays'. -/
def indexPlaysCard : Claim7 := { stood := { row := indexPlaysRow, standIns := [], harness := (true, "2ad3563bb516d20fea52eba2f029ea14506b1f117960dbfcdf91cd69c2178616"), looks := false }, kinds := [], alts := [], laidByText := true, laidKinds := [.data], laidTests := true, laidLooks := .later }
def IndexPlaysCardSaid : Prop := Claim7.holds Tryz.pinned (.plain (OpenSpec.ofChange indexPlaysSpec)) indexPlaysCard

/-- THE TIED CARD OF 'scantlinglaw16.IndexNil'. -/
def indexNilCard : Claim7 := { stood := { row := indexNilRow, standIns := [], harness := (true, "2ad3563bb516d20fea52eba2f029ea14506b1f117960dbfcdf91cd69c2178616"), looks := false }, kinds := [], alts := [], laidByText := true, laidKinds := [.data], laidTests := true, laidLooks := .later }
def IndexNilCardSaid : Prop := Claim7.holds Tryz.pinned (.plain (OpenSpec.ofChange indexNilSpec)) indexNilCard

/-- THE SECOND FORM's CARD OF 'scantlinglaw21.ProofPlays'. -/
def proofPlaysUptoCard : Claim7 := { stood := { row := proofPlaysUptoRow, standIns := [], harness := (true, "2ad3563bb516d20fea52eba2f029ea14506b1f117960dbfcdf91cd69c2178616"), looks := false }, kinds := [], alts := [], laidByText := true, laidKinds := [.data], laidTests := true, laidLooks := .later }
def ProofPlaysUptoCardSaid : Prop := Claim7.holds Tryz.pinned (.plain (OpenSpec.upto proofPlaysSpec)) proofPlaysUptoCard

/-- THE SECOND FORM's CARD OF 'scantlinglaw15.LedgerPlays'. -/
def ledgerPlaysUptoCard : Claim7 := { stood := { row := ledgerPlaysUptoRow, standIns := [], harness := (true, "2ad3563bb516d20fea52eba2f029ea14506b1f117960dbfcdf91cd69c2178616"), looks := false }, kinds := [], alts := [], laidByText := true, laidKinds := [.data], laidTests := true, laidLooks := .later }
def LedgerPlaysUptoCardSaid : Prop := Claim7.holds Tryz.pinned (.plain (OpenSpec.upto ledgerPlaysSpec)) ledgerPlaysUptoCard

/-- THE SECOND FORM's CARD OF 'scantlinglaw16.IndexPlays'. -/
def indexPlaysUptoCard : Claim7 := { stood := { row := indexPlaysUptoRow, standIns := [], harness := (true, "2ad3563bb516d20fea52eba2f029ea14506b1f117960dbfcdf91cd69c2178616"), looks := false }, kinds := [], alts := [], laidByText := true, laidKinds := [.data], laidTests := true, laidLooks := .later }
def IndexPlaysUptoCardSaid : Prop := Claim7.holds Tryz.pinned (.plain (OpenSpec.upto indexPlaysSpec)) indexPlaysUptoCard

/-- THE SECOND FORM's CARD OF 'scantlinglaw16.IndexNil'. -/
def indexNilUptoCard : Claim7 := { stood := { row := indexNilUptoRow, standIns := [], harness := (true, "2ad3563bb516d20fea52eba2f029ea14506b1f117960dbfcdf91cd69c2178616"), looks := false }, kinds := [], alts := [], laidByText := true, laidKinds := [.data], laidTests := true, laidLooks := .later }
def IndexNilUptoCardSaid : Prop := Claim7.holds Tryz.pinned (.plain (OpenSpec.upto indexNilSpec)) indexNilUptoCard
end Rows
end Go.Proofs.YtgilikgghknbhaaGreatDoor
