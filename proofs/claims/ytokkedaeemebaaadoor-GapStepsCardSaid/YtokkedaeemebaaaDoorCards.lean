/-
  DERIVED. GIVEN WITH THE SEED: THE CARDS: each row of YtokkedaeemebaaaDoorRows.lean that lists a variable, with what it lists TIED to the program's text (the seventh form; the later family's looks); each row that meets fmt, with fmt's text TOLD by the authors' own Lean function (tested against real Go, not proved from fmt's source: count such statements apart). THE CARD IS WHAT COUNTS. Prove the row's statement (the work); the ties are given (YtokkedaeemebaaaDoorTie.lean); close each card by the builder's one call (the guide's Derived/Test/ToyasCard.lean, 'card_holds'). Laid BY PROGRAM, IN A SANDBOX (cutbox-door.mjs). By AI agents, Wed Nov 11 2026. No macro, syntax, notation, axiom, sorry.
-/
import Derived.Test.YtokkedaeemebaaaDoorRows
import GoSem.ClaimSeven
namespace Go.Proofs.YtokkedaeemebaaaDoor
namespace Rows

/-- THE TIED CARD OF 'scantlinglaw22.GapPlays'. -/
def gapPlaysCard : Claim7 := { stood := { row := gapPlaysRow, standIns := [], harness := (true, "4b11ea8775d5966001552a497aff3c2c9a1ebb73c41bbb2f381340ebbaac2821"), looks := false }, kinds := [], alts := [], laidByText := true, laidKinds := [.data], laidTests := true, laidLooks := .later }
def GapPlaysCardSaid : Prop := Claim7.holds Tryd.pinned (.plain (OpenSpec.ofChange gapPlaysSpec)) gapPlaysCard

/-- THE TIED CARD OF 'scantlinglaw22.GapLast'. -/
def gapLastCard : Claim7 := { stood := { row := gapLastRow, standIns := [], harness := (true, "4b11ea8775d5966001552a497aff3c2c9a1ebb73c41bbb2f381340ebbaac2821"), looks := false }, kinds := [], alts := [], laidByText := true, laidKinds := [.data], laidTests := true, laidLooks := .later }
def GapLastCardSaid : Prop := Claim7.holds Tryd.pinned (.plain (OpenSpec.ofChange gapLastSpec)) gapLastCard

/-- THE TIED CARD OF 'scantlinglaw22.GapMore'. -/
def gapMoreCard : Claim7 := { stood := { row := gapMoreRow, standIns := [], harness := (true, "4b11ea8775d5966001552a497aff3c2c9a1ebb73c41bbb2f381340ebbaac2821"), looks := false }, kinds := [], alts := [], laidByText := true, laidKinds := [.data], laidTests := true, laidLooks := .later }
def GapMoreCardSaid : Prop := Claim7.holds Tryd.pinned (.plain (OpenSpec.ofChange gapMoreSpec)) gapMoreCard

/-- THE TIED CARD OF 'scantlinglaw22.GapSteps'. -/
def gapStepsCard : Claim7 := { stood := { row := gapStepsRow, standIns := [], harness := (true, "4b11ea8775d5966001552a497aff3c2c9a1ebb73c41bbb2f381340ebbaac2821"), looks := false }, kinds := [], alts := [], laidByText := true, laidKinds := [.data], laidTests := true, laidLooks := .later }
def GapStepsCardSaid : Prop := Claim7.holds Tryd.pinned (.plain (OpenSpec.ofChange gapStepsSpec)) gapStepsCard

/-- THE SECOND FORM's CARD OF 'scantlinglaw22.GapPlays'. -/
def gapPlaysUptoCard : Claim7 := { stood := { row := gapPlaysUptoRow, standIns := [], harness := (true, "4b11ea8775d5966001552a497aff3c2c9a1ebb73c41bbb2f381340ebbaac2821"), looks := false }, kinds := [], alts := [], laidByText := true, laidKinds := [.data], laidTests := true, laidLooks := .later }
def GapPlaysUptoCardSaid : Prop := Claim7.holds Tryd.pinned (.plain (OpenSpec.upto gapPlaysSpec)) gapPlaysUptoCard

/-- THE SECOND FORM's CARD OF 'scantlinglaw22.GapLast'. -/
def gapLastUptoCard : Claim7 := { stood := { row := gapLastUptoRow, standIns := [], harness := (true, "4b11ea8775d5966001552a497aff3c2c9a1ebb73c41bbb2f381340ebbaac2821"), looks := false }, kinds := [], alts := [], laidByText := true, laidKinds := [.data], laidTests := true, laidLooks := .later }
def GapLastUptoCardSaid : Prop := Claim7.holds Tryd.pinned (.plain (OpenSpec.upto gapLastSpec)) gapLastUptoCard

/-- THE SECOND FORM's CARD OF 'scantlinglaw22.GapMore'. -/
def gapMoreUptoCard : Claim7 := { stood := { row := gapMoreUptoRow, standIns := [], harness := (true, "4b11ea8775d5966001552a497aff3c2c9a1ebb73c41bbb2f381340ebbaac2821"), looks := false }, kinds := [], alts := [], laidByText := true, laidKinds := [.data], laidTests := true, laidLooks := .later }
def GapMoreUptoCardSaid : Prop := Claim7.holds Tryd.pinned (.plain (OpenSpec.upto gapMoreSpec)) gapMoreUptoCard

/-- THE SECOND FORM's CARD OF 'scantlinglaw22.GapSteps'. -/
def gapStepsUptoCard : Claim7 := { stood := { row := gapStepsUptoRow, standIns := [], harness := (true, "4b11ea8775d5966001552a497aff3c2c9a1ebb73c41bbb2f381340ebbaac2821"), looks := false }, kinds := [], alts := [], laidByText := true, laidKinds := [.data], laidTests := true, laidLooks := .later }
def GapStepsUptoCardSaid : Prop := Claim7.holds Tryd.pinned (.plain (OpenSpec.upto gapStepsSpec)) gapStepsUptoCard
end Rows
end Go.Proofs.YtokkedaeemebaaaDoor
