/-
  DERIVED. GIVEN WITH THE SEED: THE CARDS: each row of YtelknpmdhpamnaaDoorRows.lean that lists a variable, with what it lists TIED to the program's text (the seventh form; the later family's looks); each row that meets fmt, with fmt's text TOLD by the authors' own Lean function (tested against real Go, not proved from fmt's source: count such statements apart). THE CARD IS WHAT COUNTS. Prove the row's statement (the work); the ties are given (YtelknpmdhpamnaaDoorTie.lean); close each card by the builder's one call (the guide's Derived/Test/ToyasCard.lean, 'card_holds'). Laid BY PROGRAM, IN A SANDBOX (cutbox-door.mjs). By AI agents, Wed Nov 11 2026. No macro, syntax, notation, axiom, sorry.
-/
import Derived.Test.YtelknpmdhpamnaaDoorRows
import GoSem.ClaimSeven
namespace Go.Proofs.YtelknpmdhpamnaaDoor
namespace Rows

/-- THE TIED CARD OF 'scantlinglaw01.ShaSums'. -/
def shaSumsCard : Claim7 := { stood := { row := shaSumsRow, standIns := [], harness := (true, "81d8c0a17cd4bd41e20ca0104e15d88058278d5f1512d0da77893fd696cc3d29"), looks := false }, kinds := [], alts := [], laidByText := true, laidKinds := [.data], laidTests := true, laidLooks := .later }
def ShaSumsCardSaid : Prop := Claim7.holds Tryd.pinned (.plain (OpenSpec.ofChange shaSumsSpec)) shaSumsCard

/-- THE TIED CARD OF 'scantlinglaw01.ShaLengths'. -/
def shaLengthsCard : Claim7 := { stood := { row := shaLengthsRow, standIns := [], harness := (true, "81d8c0a17cd4bd41e20ca0104e15d88058278d5f1512d0da77893fd696cc3d29"), looks := false }, kinds := [], alts := [], laidByText := true, laidKinds := [.data], laidTests := true, laidLooks := .later }
def ShaLengthsCardSaid : Prop := Claim7.holds Tryd.pinned (.plain (OpenSpec.ofChange shaLengthsSpec)) shaLengthsCard

/-- THE TIED CARD OF 'scantlinglaw01.ShaParts'. -/
def shaPartsCard : Claim7 := { stood := { row := shaPartsRow, standIns := [], harness := (true, "81d8c0a17cd4bd41e20ca0104e15d88058278d5f1512d0da77893fd696cc3d29"), looks := false }, kinds := [], alts := [], laidByText := true, laidKinds := [.data], laidTests := true, laidLooks := .later }
def ShaPartsCardSaid : Prop := Claim7.holds Tryd.pinned (.plain (OpenSpec.ofChange shaPartsSpec)) shaPartsCard

/-- THE TIED CARD OF 'scantlinglaw01.ShaWays'. -/
def shaWaysCard : Claim7 := { stood := { row := shaWaysRow, standIns := [], harness := (true, "81d8c0a17cd4bd41e20ca0104e15d88058278d5f1512d0da77893fd696cc3d29"), looks := false }, kinds := [], alts := [], laidByText := true, laidKinds := [.data], laidTests := true, laidLooks := .later }
def ShaWaysCardSaid : Prop := Claim7.holds Tryd.pinned (.plain (OpenSpec.ofChange shaWaysSpec)) shaWaysCard

/-- THE TIED CARD OF 'scantlinglaw01.ShaBytes'. -/
def shaBytesCard : Claim7 := { stood := { row := shaBytesRow, standIns := [], harness := (true, "81d8c0a17cd4bd41e20ca0104e15d88058278d5f1512d0da77893fd696cc3d29"), looks := false }, kinds := [], alts := [], laidByText := true, laidKinds := [.data], laidTests := true, laidLooks := .later }
def ShaBytesCardSaid : Prop := Claim7.holds Tryd.pinned (.plain (OpenSpec.ofChange shaBytesSpec)) shaBytesCard

/-- THE SECOND FORM's CARD OF 'scantlinglaw01.ShaSums'. -/
def shaSumsUptoCard : Claim7 := { stood := { row := shaSumsUptoRow, standIns := [], harness := (true, "81d8c0a17cd4bd41e20ca0104e15d88058278d5f1512d0da77893fd696cc3d29"), looks := false }, kinds := [], alts := [], laidByText := true, laidKinds := [.data], laidTests := true, laidLooks := .later }
def ShaSumsUptoCardSaid : Prop := Claim7.holds Tryd.pinned (.plain (OpenSpec.upto shaSumsSpec)) shaSumsUptoCard

/-- THE SECOND FORM's CARD OF 'scantlinglaw01.ShaLengths'. -/
def shaLengthsUptoCard : Claim7 := { stood := { row := shaLengthsUptoRow, standIns := [], harness := (true, "81d8c0a17cd4bd41e20ca0104e15d88058278d5f1512d0da77893fd696cc3d29"), looks := false }, kinds := [], alts := [], laidByText := true, laidKinds := [.data], laidTests := true, laidLooks := .later }
def ShaLengthsUptoCardSaid : Prop := Claim7.holds Tryd.pinned (.plain (OpenSpec.upto shaLengthsSpec)) shaLengthsUptoCard

/-- THE SECOND FORM's CARD OF 'scantlinglaw01.ShaParts'. -/
def shaPartsUptoCard : Claim7 := { stood := { row := shaPartsUptoRow, standIns := [], harness := (true, "81d8c0a17cd4bd41e20ca0104e15d88058278d5f1512d0da77893fd696cc3d29"), looks := false }, kinds := [], alts := [], laidByText := true, laidKinds := [.data], laidTests := true, laidLooks := .later }
def ShaPartsUptoCardSaid : Prop := Claim7.holds Tryd.pinned (.plain (OpenSpec.upto shaPartsSpec)) shaPartsUptoCard

/-- THE SECOND FORM's CARD OF 'scantlinglaw01.ShaWays'. -/
def shaWaysUptoCard : Claim7 := { stood := { row := shaWaysUptoRow, standIns := [], harness := (true, "81d8c0a17cd4bd41e20ca0104e15d88058278d5f1512d0da77893fd696cc3d29"), looks := false }, kinds := [], alts := [], laidByText := true, laidKinds := [.data], laidTests := true, laidLooks := .later }
def ShaWaysUptoCardSaid : Prop := Claim7.holds Tryd.pinned (.plain (OpenSpec.upto shaWaysSpec)) shaWaysUptoCard

/-- THE SECOND FORM's CARD OF 'scantlinglaw01.ShaBytes'. -/
def shaBytesUptoCard : Claim7 := { stood := { row := shaBytesUptoRow, standIns := [], harness := (true, "81d8c0a17cd4bd41e20ca0104e15d88058278d5f1512d0da77893fd696cc3d29"), looks := false }, kinds := [], alts := [], laidByText := true, laidKinds := [.data], laidTests := true, laidLooks := .later }
def ShaBytesUptoCardSaid : Prop := Claim7.holds Tryd.pinned (.plain (OpenSpec.upto shaBytesSpec)) shaBytesUptoCard
end Rows
end Go.Proofs.YtelknpmdhpamnaaDoor
