/-
  DERIVED. GIVEN WITH THE SEED: THE CARDS: each row of YthhliikibffhjaaDoorRows.lean that lists a variable, with what it lists TIED to the program's text (the seventh form; the later family's looks); each row that meets fmt, with fmt's text TOLD by the authors' own Lean function (tested against real Go, not proved from fmt's source: count such statements apart). THE CARD IS WHAT COUNTS. Prove the row's statement (the work); the ties are given (YthhliikibffhjaaDoorTie.lean); close each card by the builder's one call (the guide's Derived/Test/ToyasCard.lean, 'card_holds'). Laid BY PROGRAM, IN A SANDBOX (cutbox-door.mjs). By AI agents, Wed Nov 11 2026. No macro, syntax, notation, axiom, sorry.
-/
import Derived.Test.YthhliikibffhjaaDoorRows
import GoSem.ClaimSeven
namespace Go.Proofs.YthhliikibffhjaaDoor
namespace Rows

/-- THE TIED CARD OF 'scantlinglaw30.PartPlays'. -/
def partPlaysCard : Claim7 := { stood := { row := partPlaysRow, standIns := [], harness := (true, "b81ad678e7df6a8818ccf98e68a5552f5ff3e0e0e8fd2392bbb0d33246a7b1c9"), looks := false }, kinds := [], alts := [], laidByText := true, laidKinds := [.data], laidTests := true, laidLooks := .later }
def PartPlaysCardSaid : Prop := Claim7.holds Tryd.pinned (.plain (OpenSpec.ofChange partPlaysSpec)) partPlaysCard

/-- THE TIED CARD OF 'scantlinglaw30.PartMore'. -/
def partMoreCard : Claim7 := { stood := { row := partMoreRow, standIns := [], harness := (true, "b81ad678e7df6a8818ccf98e68a5552f5ff3e0e0e8fd2392bbb0d33246a7b1c9"), looks := false }, kinds := [], alts := [], laidByText := true, laidKinds := [.data], laidTests := true, laidLooks := .later }
def PartMoreCardSaid : Prop := Claim7.holds Tryd.pinned (.plain (OpenSpec.ofChange partMoreSpec)) partMoreCard

/-- THE TIED CARD OF 'scantlinglaw30.PartShows'. -/
def partShowsCard : Claim7 := { stood := { row := partShowsRow, standIns := [], harness := (true, "b81ad678e7df6a8818ccf98e68a5552f5ff3e0e0e8fd2392bbb0d33246a7b1c9"), looks := false }, kinds := [], alts := [], laidByText := true, laidKinds := [.data], laidTests := true, laidLooks := .later }
def PartShowsCardSaid : Prop := Claim7.holds Tryd.pinned (.plain (OpenSpec.ofChange partShowsSpec)) partShowsCard

/-- THE TIED CARD OF 'scantlinglaw30.PartBranch'. -/
def partBranchCard : Claim7 := { stood := { row := partBranchRow, standIns := [], harness := (true, "b81ad678e7df6a8818ccf98e68a5552f5ff3e0e0e8fd2392bbb0d33246a7b1c9"), looks := false }, kinds := [], alts := [], laidByText := true, laidKinds := [.data], laidTests := true, laidLooks := .later }
def PartBranchCardSaid : Prop := Claim7.holds Tryd.pinned (.plain (OpenSpec.ofChange partBranchSpec)) partBranchCard

/-- THE SECOND FORM's CARD OF 'scantlinglaw30.PartPlays'. -/
def partPlaysUptoCard : Claim7 := { stood := { row := partPlaysUptoRow, standIns := [], harness := (true, "b81ad678e7df6a8818ccf98e68a5552f5ff3e0e0e8fd2392bbb0d33246a7b1c9"), looks := false }, kinds := [], alts := [], laidByText := true, laidKinds := [.data], laidTests := true, laidLooks := .later }
def PartPlaysUptoCardSaid : Prop := Claim7.holds Tryd.pinned (.plain (OpenSpec.upto partPlaysSpec)) partPlaysUptoCard

/-- THE SECOND FORM's CARD OF 'scantlinglaw30.PartMore'. -/
def partMoreUptoCard : Claim7 := { stood := { row := partMoreUptoRow, standIns := [], harness := (true, "b81ad678e7df6a8818ccf98e68a5552f5ff3e0e0e8fd2392bbb0d33246a7b1c9"), looks := false }, kinds := [], alts := [], laidByText := true, laidKinds := [.data], laidTests := true, laidLooks := .later }
def PartMoreUptoCardSaid : Prop := Claim7.holds Tryd.pinned (.plain (OpenSpec.upto partMoreSpec)) partMoreUptoCard

/-- THE SECOND FORM's CARD OF 'scantlinglaw30.PartShows'. -/
def partShowsUptoCard : Claim7 := { stood := { row := partShowsUptoRow, standIns := [], harness := (true, "b81ad678e7df6a8818ccf98e68a5552f5ff3e0e0e8fd2392bbb0d33246a7b1c9"), looks := false }, kinds := [], alts := [], laidByText := true, laidKinds := [.data], laidTests := true, laidLooks := .later }
def PartShowsUptoCardSaid : Prop := Claim7.holds Tryd.pinned (.plain (OpenSpec.upto partShowsSpec)) partShowsUptoCard

/-- THE SECOND FORM's CARD OF 'scantlinglaw30.PartBranch'. -/
def partBranchUptoCard : Claim7 := { stood := { row := partBranchUptoRow, standIns := [], harness := (true, "b81ad678e7df6a8818ccf98e68a5552f5ff3e0e0e8fd2392bbb0d33246a7b1c9"), looks := false }, kinds := [], alts := [], laidByText := true, laidKinds := [.data], laidTests := true, laidLooks := .later }
def PartBranchUptoCardSaid : Prop := Claim7.holds Tryd.pinned (.plain (OpenSpec.upto partBranchSpec)) partBranchUptoCard
end Rows
end Go.Proofs.YthhliikibffhjaaDoor
