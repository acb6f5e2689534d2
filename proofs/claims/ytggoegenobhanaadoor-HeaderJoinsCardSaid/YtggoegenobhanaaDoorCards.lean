/-
  DERIVED. GIVEN WITH THE SEED: THE CARDS: each row of YtggoegenobhanaaDoorRows.lean that lists a variable, with what it lists TIED to the program's text (the seventh form; the later family's looks); each row that meets fmt, with fmt's text TOLD by the authors' own Lean function (tested against real Go, not proved from fmt's source: count such statements apart). THE CARD IS WHAT COUNTS. Prove the row's statement (the work); the ties are given (YtggoegenobhanaaDoorTie.lean); close each card by the builder's one call (the guide's Derived/Test/ToyasCard.lean, 'card_holds'). Laid BY PROGRAM, IN A SANDBOX (cutbox-door.mjs). By AI agents, Wed Nov 11 2026. No macro, syntax, notation, axiom, sorry.
-/
import Derived.Test.YtggoegenobhanaaDoorRows
import GoSem.ClaimSeven
namespace Go.Proofs.YtggoegenobhanaaDoor
namespace Rows

/-- THE TIED CARD OF 'scantlinglaw08.HeaderPuts'. -/
def headerPutsCard : Claim7 := { stood := { row := headerPutsRow, standIns := [], harness := (true, "7e8967339f7c83c4ce8e4f95330e16802d857391b994e1741e4ea77ed7fac8f0"), looks := false }, kinds := [], alts := [], laidByText := true, laidKinds := [.data], laidTests := true, laidLooks := .later }
def HeaderPutsCardSaid : Prop := Claim7.holds Tryd.pinned (.plain (OpenSpec.ofChange headerPutsSpec)) headerPutsCard

/-- THE TIED CARD OF 'scantlinglaw08.HeaderByte'. -/
def headerByteCard : Claim7 := { stood := { row := headerByteRow, standIns := [], harness := (true, "7e8967339f7c83c4ce8e4f95330e16802d857391b994e1741e4ea77ed7fac8f0"), looks := false }, kinds := [], alts := [], laidByText := true, laidKinds := [.data], laidTests := true, laidLooks := .later }
def HeaderByteCardSaid : Prop := Claim7.holds Tryd.pinned (.plain (OpenSpec.ofChange headerByteSpec)) headerByteCard

/-- THE TIED CARD OF 'scantlinglaw08.HeaderChain'. -/
def headerChainCard : Claim7 := { stood := { row := headerChainRow, standIns := [], harness := (true, "7e8967339f7c83c4ce8e4f95330e16802d857391b994e1741e4ea77ed7fac8f0"), looks := false }, kinds := [], alts := [], laidByText := true, laidKinds := [.data], laidTests := true, laidLooks := .later }
def HeaderChainCardSaid : Prop := Claim7.holds Tryd.pinned (.plain (OpenSpec.ofChange headerChainSpec)) headerChainCard

/-- THE TIED CARD OF 'scantlinglaw08.HeaderMany'. -/
def headerManyCard : Claim7 := { stood := { row := headerManyRow, standIns := [], harness := (true, "7e8967339f7c83c4ce8e4f95330e16802d857391b994e1741e4ea77ed7fac8f0"), looks := false }, kinds := [], alts := [], laidByText := true, laidKinds := [.data], laidTests := true, laidLooks := .later }
def HeaderManyCardSaid : Prop := Claim7.holds Tryd.pinned (.plain (OpenSpec.ofChange headerManySpec)) headerManyCard

/-- THE TIED CARD OF 'scantlinglaw08.HeaderRows'. -/
def headerRowsCard : Claim7 := { stood := { row := headerRowsRow, standIns := [], harness := (true, "7e8967339f7c83c4ce8e4f95330e16802d857391b994e1741e4ea77ed7fac8f0"), looks := false }, kinds := [], alts := [], laidByText := true, laidKinds := [.data], laidTests := true, laidLooks := .later }
def HeaderRowsCardSaid : Prop := Claim7.holds Tryd.pinned (.plain (OpenSpec.ofChange headerRowsSpec)) headerRowsCard

/-- THE TIED CARD OF 'scantlinglaw08.HeaderBack'. -/
def headerBackCard : Claim7 := { stood := { row := headerBackRow, standIns := [], harness := (true, "7e8967339f7c83c4ce8e4f95330e16802d857391b994e1741e4ea77ed7fac8f0"), looks := false }, kinds := [], alts := [], laidByText := true, laidKinds := [.data], laidTests := true, laidLooks := .later }
def HeaderBackCardSaid : Prop := Claim7.holds Tryd.pinned (.plain (OpenSpec.ofChange headerBackSpec)) headerBackCard

/-- THE TIED CARD OF 'scantlinglaw08.HeaderJoins'. -/
def headerJoinsCard : Claim7 := { stood := { row := headerJoinsRow, standIns := [], harness := (true, "7e8967339f7c83c4ce8e4f95330e16802d857391b994e1741e4ea77ed7fac8f0"), looks := false }, kinds := [], alts := [], laidByText := true, laidKinds := [.data], laidTests := true, laidLooks := .later }
def HeaderJoinsCardSaid : Prop := Claim7.holds Tryd.pinned (.plain (OpenSpec.ofChange headerJoinsSpec)) headerJoinsCard

/-- THE SECOND FORM's CARD OF 'scantlinglaw08.HeaderPuts'. -/
def headerPutsUptoCard : Claim7 := { stood := { row := headerPutsUptoRow, standIns := [], harness := (true, "7e8967339f7c83c4ce8e4f95330e16802d857391b994e1741e4ea77ed7fac8f0"), looks := false }, kinds := [], alts := [], laidByText := true, laidKinds := [.data], laidTests := true, laidLooks := .later }
def HeaderPutsUptoCardSaid : Prop := Claim7.holds Tryd.pinned (.plain (OpenSpec.upto headerPutsSpec)) headerPutsUptoCard

/-- THE SECOND FORM's CARD OF 'scantlinglaw08.HeaderByte'. -/
def headerByteUptoCard : Claim7 := { stood := { row := headerByteUptoRow, standIns := [], harness := (true, "7e8967339f7c83c4ce8e4f95330e16802d857391b994e1741e4ea77ed7fac8f0"), looks := false }, kinds := [], alts := [], laidByText := true, laidKinds := [.data], laidTests := true, laidLooks := .later }
def HeaderByteUptoCardSaid : Prop := Claim7.holds Tryd.pinned (.plain (OpenSpec.upto headerByteSpec)) headerByteUptoCard

/-- THE SECOND FORM's CARD OF 'scantlinglaw08.HeaderChain'. -/
def headerChainUptoCard : Claim7 := { stood := { row := headerChainUptoRow, standIns := [], harness := (true, "7e8967339f7c83c4ce8e4f95330e16802d857391b994e1741e4ea77ed7fac8f0"), looks := false }, kinds := [], alts := [], laidByText := true, laidKinds := [.data], laidTests := true, laidLooks := .later }
def HeaderChainUptoCardSaid : Prop := Claim7.holds Tryd.pinned (.plain (OpenSpec.upto headerChainSpec)) headerChainUptoCard

/-- THE SECOND FORM's CARD OF 'scantlinglaw08.HeaderMany'. -/
def headerManyUptoCard : Claim7 := { stood := { row := headerManyUptoRow, standIns := [], harness := (true, "7e8967339f7c83c4ce8e4f95330e16802d857391b994e1741e4ea77ed7fac8f0"), looks := false }, kinds := [], alts := [], laidByText := true, laidKinds := [.data], laidTests := true, laidLooks := .later }
def HeaderManyUptoCardSaid : Prop := Claim7.holds Tryd.pinned (.plain (OpenSpec.upto headerManySpec)) headerManyUptoCard

/-- THE SECOND FORM's CARD OF 'scantlinglaw08.HeaderRows'. -/
def headerRowsUptoCard : Claim7 := { stood := { row := headerRowsUptoRow, standIns := [], harness := (true, "7e8967339f7c83c4ce8e4f95330e16802d857391b994e1741e4ea77ed7fac8f0"), looks := false }, kinds := [], alts := [], laidByText := true, laidKinds := [.data], laidTests := true, laidLooks := .later }
def HeaderRowsUptoCardSaid : Prop := Claim7.holds Tryd.pinned (.plain (OpenSpec.upto headerRowsSpec)) headerRowsUptoCard

/-- THE SECOND FORM's CARD OF 'scantlinglaw08.HeaderBack'. -/
def headerBackUptoCard : Claim7 := { stood := { row := headerBackUptoRow, standIns := [], harness := (true, "7e8967339f7c83c4ce8e4f95330e16802d857391b994e1741e4ea77ed7fac8f0"), looks := false }, kinds := [], alts := [], laidByText := true, laidKinds := [.data], laidTests := true, laidLooks := .later }
def HeaderBackUptoCardSaid : Prop := Claim7.holds Tryd.pinned (.plain (OpenSpec.upto headerBackSpec)) headerBackUptoCard

/-- THE SECOND FORM's CARD OF 'scantlinglaw08.HeaderJoins'. -/
def headerJoinsUptoCard : Claim7 := { stood := { row := headerJoinsUptoRow, standIns := [], harness := (true, "7e8967339f7c83c4ce8e4f95330e16802d857391b994e1741e4ea77ed7fac8f0"), looks := false }, kinds := [], alts := [], laidByText := true, laidKinds := [.data], laidTests := true, laidLooks := .later }
def HeaderJoinsUptoCardSaid : Prop := Claim7.holds Tryd.pinned (.plain (OpenSpec.upto headerJoinsSpec)) headerJoinsUptoCard
end Rows
end Go.Proofs.YtggoegenobhanaaDoor
