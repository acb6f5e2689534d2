/-
  DERIVED. GIVEN WITH THE SEED: THE CARDS: each row of YtlpacmknoknpoaaDoorRows.lean that lists a variable, with what it lists TIED to the program's text (the seventh form; the later family's looks); each row that meets fmt, with fmt's text TOLD by the authors' own Lean function (tested against real Go, not proved from fmt's source: count such statements apart). THE CARD IS WHAT COUNTS. Prove the row's statement (the work); the ties are given (YtlpacmknoknpoaaDoorTie.lean); close each card by the builder's one call (the guide's Derived/Test/ToyasCard.lean, 'card_holds'). Laid BY PROGRAM, IN A SANDBOX (cutbox-door.mjs). By AI agents, Wed Nov 11 2026. No macro, syntax, notation, axiom, sorry.
-/
import Derived.Test.YtlpacmknoknpoaaDoorRows
import GoSem.ClaimSeven
namespace Go.Proofs.YtlpacmknoknpoaaDoor
namespace Rows

/-- THE TIED CARD OF 'scantlinglaw10.MerkleFolds'. -/
def merkleFoldsCard : Claim7 := { stood := { row := merkleFoldsRow, standIns := [], harness := (true, "f582ba4acb101d716fe81d2d16f877df3e2f27f956eea17022a353440d3ae989"), looks := false }, kinds := [], alts := [], laidByText := true, laidKinds := [.data], laidTests := true, laidLooks := .later }
def MerkleFoldsCardSaid : Prop := Claim7.holds Tryd.pinned (.plain (OpenSpec.ofChange merkleFoldsSpec)) merkleFoldsCard

/-- THE TIED CARD OF 'scantlinglaw10.MerkleLeads'. -/
def merkleLeadsCard : Claim7 := { stood := { row := merkleLeadsRow, standIns := [], harness := (true, "f582ba4acb101d716fe81d2d16f877df3e2f27f956eea17022a353440d3ae989"), looks := false }, kinds := [], alts := [], laidByText := true, laidKinds := [.data], laidTests := true, laidLooks := .later }
def MerkleLeadsCardSaid : Prop := Claim7.holds Tryd.pinned (.plain (OpenSpec.ofChange merkleLeadsSpec)) merkleLeadsCard

/-- THE TIED CARD OF 'scantlinglaw10.MerkleFar'. -/
def merkleFarCard : Claim7 := { stood := { row := merkleFarRow, standIns := [], harness := (true, "f582ba4acb101d716fe81d2d16f877df3e2f27f956eea17022a353440d3ae989"), looks := false }, kinds := [], alts := [], laidByText := true, laidKinds := [.data], laidTests := true, laidLooks := .later }
def MerkleFarCardSaid : Prop := Claim7.holds Tryd.pinned (.plain (OpenSpec.ofChange merkleFarSpec)) merkleFarCard

/-- THE SECOND FORM's CARD OF 'scantlinglaw10.MerkleFolds'. -/
def merkleFoldsUptoCard : Claim7 := { stood := { row := merkleFoldsUptoRow, standIns := [], harness := (true, "f582ba4acb101d716fe81d2d16f877df3e2f27f956eea17022a353440d3ae989"), looks := false }, kinds := [], alts := [], laidByText := true, laidKinds := [.data], laidTests := true, laidLooks := .later }
def MerkleFoldsUptoCardSaid : Prop := Claim7.holds Tryd.pinned (.plain (OpenSpec.upto merkleFoldsSpec)) merkleFoldsUptoCard

/-- THE SECOND FORM's CARD OF 'scantlinglaw10.MerkleLeads'. -/
def merkleLeadsUptoCard : Claim7 := { stood := { row := merkleLeadsUptoRow, standIns := [], harness := (true, "f582ba4acb101d716fe81d2d16f877df3e2f27f956eea17022a353440d3ae989"), looks := false }, kinds := [], alts := [], laidByText := true, laidKinds := [.data], laidTests := true, laidLooks := .later }
def MerkleLeadsUptoCardSaid : Prop := Claim7.holds Tryd.pinned (.plain (OpenSpec.upto merkleLeadsSpec)) merkleLeadsUptoCard

/-- THE SECOND FORM's CARD OF 'scantlinglaw10.MerkleFar'. -/
def merkleFarUptoCard : Claim7 := { stood := { row := merkleFarUptoRow, standIns := [], harness := (true, "f582ba4acb101d716fe81d2d16f877df3e2f27f956eea17022a353440d3ae989"), looks := false }, kinds := [], alts := [], laidByText := true, laidKinds := [.data], laidTests := true, laidLooks := .later }
def MerkleFarUptoCardSaid : Prop := Claim7.holds Tryd.pinned (.plain (OpenSpec.upto merkleFarSpec)) merkleFarUptoCard
end Rows
end Go.Proofs.YtlpacmknoknpoaaDoor
