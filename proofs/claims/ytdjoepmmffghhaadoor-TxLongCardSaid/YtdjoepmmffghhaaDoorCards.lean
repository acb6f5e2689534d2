/-
  DERIVED. GIVEN WITH THE SEED: THE CARDS: each row of YtdjoepmmffghhaaDoorRows.lean that lists a variable, with what it lists TIED to the program's text (the seventh form; the later family's looks); each row that meets fmt, with fmt's text TOLD by the authors' own Lean function (tested against real Go, not proved from fmt's source: count such statements apart). THE CARD IS WHAT COUNTS. Prove the row's statement (the work); the ties are given (YtdjoepmmffghhaaDoorTie.lean); close each card by the builder's one call (the guide's Derived/Test/ToyasCard.lean, 'card_holds'). Laid BY PROGRAM, IN A SANDBOX (cutbox-door.mjs). By AI agents, Wed Nov 11 2026. No macro, syntax, notation, axiom, sorry.
-/
import Derived.Test.YtdjoepmmffghhaaDoorRows
import GoSem.ClaimSeven
namespace Go.Proofs.YtdjoepmmffghhaaDoor
namespace Rows

/-- THE TIED CARD OF 'scantlinglaw09.TxPuts'. -/
def txPutsCard : Claim7 := { stood := { row := txPutsRow, standIns := [], harness := (true, "1541d76b2f04500e125627db85aa47ed78fd76f8f65def87564b55f6445242bc"), looks := false }, kinds := [], alts := [], laidByText := true, laidKinds := [.data], laidTests := true, laidLooks := .later }
def TxPutsCardSaid : Prop := Claim7.holds Tryd.pinned (.plain (OpenSpec.ofChange txPutsSpec)) txPutsCard

/-- THE TIED CARD OF 'scantlinglaw09.TxGets'. -/
def txGetsCard : Claim7 := { stood := { row := txGetsRow, standIns := [], harness := (true, "1541d76b2f04500e125627db85aa47ed78fd76f8f65def87564b55f6445242bc"), looks := false }, kinds := [], alts := [], laidByText := true, laidKinds := [.data], laidTests := true, laidLooks := .later }
def TxGetsCardSaid : Prop := Claim7.holds Tryd.pinned (.plain (OpenSpec.ofChange txGetsSpec)) txGetsCard

/-- THE TIED CARD OF 'scantlinglaw09.TxSame'. -/
def txSameCard : Claim7 := { stood := { row := txSameRow, standIns := [], harness := (true, "1541d76b2f04500e125627db85aa47ed78fd76f8f65def87564b55f6445242bc"), looks := false }, kinds := [], alts := [], laidByText := true, laidKinds := [.data], laidTests := true, laidLooks := .later }
def TxSameCardSaid : Prop := Claim7.holds Tryd.pinned (.plain (OpenSpec.ofChange txSameSpec)) txSameCard

/-- THE TIED CARD OF 'scantlinglaw09.TxBack'. -/
def txBackCard : Claim7 := { stood := { row := txBackRow, standIns := [], harness := (true, "1541d76b2f04500e125627db85aa47ed78fd76f8f65def87564b55f6445242bc"), looks := false }, kinds := [], alts := [], laidByText := true, laidKinds := [.data], laidTests := true, laidLooks := .later }
def TxBackCardSaid : Prop := Claim7.holds Tryd.pinned (.plain (OpenSpec.ofChange txBackSpec)) txBackCard

/-- THE TIED CARD OF 'scantlinglaw09.TxCounts'. -/
def txCountsCard : Claim7 := { stood := { row := txCountsRow, standIns := [], harness := (true, "1541d76b2f04500e125627db85aa47ed78fd76f8f65def87564b55f6445242bc"), looks := false }, kinds := [], alts := [], laidByText := true, laidKinds := [.data], laidTests := true, laidLooks := .later }
def TxCountsCardSaid : Prop := Claim7.holds Tryd.pinned (.plain (OpenSpec.ofChange txCountsSpec)) txCountsCard

/-- THE TIED CARD OF 'scantlinglaw09.TxLong'. -/
def txLongCard : Claim7 := { stood := { row := txLongRow, standIns := [], harness := (true, "1541d76b2f04500e125627db85aa47ed78fd76f8f65def87564b55f6445242bc"), looks := false }, kinds := [], alts := [], laidByText := true, laidKinds := [.data], laidTests := true, laidLooks := .later }
def TxLongCardSaid : Prop := Claim7.holds Tryd.pinned (.plain (OpenSpec.ofChange txLongSpec)) txLongCard

/-- THE TIED CARD OF 'scantlinglaw09.TxMoney'. -/
def txMoneyCard : Claim7 := { stood := { row := txMoneyRow, standIns := [], harness := (true, "1541d76b2f04500e125627db85aa47ed78fd76f8f65def87564b55f6445242bc"), looks := false }, kinds := [], alts := [], laidByText := true, laidKinds := [.data], laidTests := true, laidLooks := .later }
def TxMoneyCardSaid : Prop := Claim7.holds Tryd.pinned (.plain (OpenSpec.ofChange txMoneySpec)) txMoneyCard

/-- THE TIED CARD OF 'scantlinglaw09.TxHollow'. -/
def txHollowCard : Claim7 := { stood := { row := txHollowRow, standIns := [], harness := (true, "1541d76b2f04500e125627db85aa47ed78fd76f8f65def87564b55f6445242bc"), looks := false }, kinds := [], alts := [], laidByText := true, laidKinds := [.data], laidTests := true, laidLooks := .later }
def TxHollowCardSaid : Prop := Claim7.holds Tryd.pinned (.plain (OpenSpec.ofChange txHollowSpec)) txHollowCard

/-- THE SECOND FORM's CARD OF 'scantlinglaw09.TxPuts'. -/
def txPutsUptoCard : Claim7 := { stood := { row := txPutsUptoRow, standIns := [], harness := (true, "1541d76b2f04500e125627db85aa47ed78fd76f8f65def87564b55f6445242bc"), looks := false }, kinds := [], alts := [], laidByText := true, laidKinds := [.data], laidTests := true, laidLooks := .later }
def TxPutsUptoCardSaid : Prop := Claim7.holds Tryd.pinned (.plain (OpenSpec.upto txPutsSpec)) txPutsUptoCard

/-- THE SECOND FORM's CARD OF 'scantlinglaw09.TxGets'. -/
def txGetsUptoCard : Claim7 := { stood := { row := txGetsUptoRow, standIns := [], harness := (true, "1541d76b2f04500e125627db85aa47ed78fd76f8f65def87564b55f6445242bc"), looks := false }, kinds := [], alts := [], laidByText := true, laidKinds := [.data], laidTests := true, laidLooks := .later }
def TxGetsUptoCardSaid : Prop := Claim7.holds Tryd.pinned (.plain (OpenSpec.upto txGetsSpec)) txGetsUptoCard

/-- THE SECOND FORM's CARD OF 'scantlinglaw09.TxSame'. -/
def txSameUptoCard : Claim7 := { stood := { row := txSameUptoRow, standIns := [], harness := (true, "1541d76b2f04500e125627db85aa47ed78fd76f8f65def87564b55f6445242bc"), looks := false }, kinds := [], alts := [], laidByText := true, laidKinds := [.data], laidTests := true, laidLooks := .later }
def TxSameUptoCardSaid : Prop := Claim7.holds Tryd.pinned (.plain (OpenSpec.upto txSameSpec)) txSameUptoCard

/-- THE SECOND FORM's CARD OF 'scantlinglaw09.TxBack'. -/
def txBackUptoCard : Claim7 := { stood := { row := txBackUptoRow, standIns := [], harness := (true, "1541d76b2f04500e125627db85aa47ed78fd76f8f65def87564b55f6445242bc"), looks := false }, kinds := [], alts := [], laidByText := true, laidKinds := [.data], laidTests := true, laidLooks := .later }
def TxBackUptoCardSaid : Prop := Claim7.holds Tryd.pinned (.plain (OpenSpec.upto txBackSpec)) txBackUptoCard

/-- THE SECOND FORM's CARD OF 'scantlinglaw09.TxCounts'. -/
def txCountsUptoCard : Claim7 := { stood := { row := txCountsUptoRow, standIns := [], harness := (true, "1541d76b2f04500e125627db85aa47ed78fd76f8f65def87564b55f6445242bc"), looks := false }, kinds := [], alts := [], laidByText := true, laidKinds := [.data], laidTests := true, laidLooks := .later }
def TxCountsUptoCardSaid : Prop := Claim7.holds Tryd.pinned (.plain (OpenSpec.upto txCountsSpec)) txCountsUptoCard

/-- THE SECOND FORM's CARD OF 'scantlinglaw09.TxLong'. -/
def txLongUptoCard : Claim7 := { stood := { row := txLongUptoRow, standIns := [], harness := (true, "1541d76b2f04500e125627db85aa47ed78fd76f8f65def87564b55f6445242bc"), looks := false }, kinds := [], alts := [], laidByText := true, laidKinds := [.data], laidTests := true, laidLooks := .later }
def TxLongUptoCardSaid : Prop := Claim7.holds Tryd.pinned (.plain (OpenSpec.upto txLongSpec)) txLongUptoCard

/-- THE SECOND FORM's CARD OF 'scantlinglaw09.TxMoney'. -/
def txMoneyUptoCard : Claim7 := { stood := { row := txMoneyUptoRow, standIns := [], harness := (true, "1541d76b2f04500e125627db85aa47ed78fd76f8f65def87564b55f6445242bc"), looks := false }, kinds := [], alts := [], laidByText := true, laidKinds := [.data], laidTests := true, laidLooks := .later }
def TxMoneyUptoCardSaid : Prop := Claim7.holds Tryd.pinned (.plain (OpenSpec.upto txMoneySpec)) txMoneyUptoCard

/-- THE SECOND FORM's CARD OF 'scantlinglaw09.TxHollow'. -/
def txHollowUptoCard : Claim7 := { stood := { row := txHollowUptoRow, standIns := [], harness := (true, "1541d76b2f04500e125627db85aa47ed78fd76f8f65def87564b55f6445242bc"), looks := false }, kinds := [], alts := [], laidByText := true, laidKinds := [.data], laidTests := true, laidLooks := .later }
def TxHollowUptoCardSaid : Prop := Claim7.holds Tryd.pinned (.plain (OpenSpec.upto txHollowSpec)) txHollowUptoCard
end Rows
end Go.Proofs.YtdjoepmmffghhaaDoor
