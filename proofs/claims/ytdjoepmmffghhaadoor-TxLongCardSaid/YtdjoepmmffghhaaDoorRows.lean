/-
  NARROWER THAN 'FOR EVERY INPUT', by the rows' own cells (each row's printed sentence says how): TxPuts: laid · TxGets: laid · TxSame: laid · TxBack: laid · TxCounts: laid · TxLong: laid · TxMoney: laid · TxHollow: laid.
  DERIVED. THE GIVEN ROWS OF THIS SEAT. 8 by the template 'for every input the law returns true; each argument reads behind the call as it read before'; 0 by the template 'total and deterministic' (their statements: YtdjoepmmffghhaaDoorTotals.lean).
  GIVEN WITH THE SEED: the statements are not yours to turn. If you find one false, say at which input.
  Laid BY PROGRAM, IN A SANDBOX (cutbox-rows.mjs): the forced cells as the released guide's own fill.sh prints them over the translation 5ea7eade00ef3c1b… (all of the seat's roots in one cut). By AI agents, Wed Nov 11 2026. No macro, syntax, notation, axiom, sorry.
-/
import Derived.Test.YtdjoepmmffghhaaDoorChecked
import GoSem.Claim
import GoSem.ClaimJoined
import GoSem.ClaimMapViews
import Derived.JoinedTies
import Derived.KernelRfl
namespace Go.Proofs.YtdjoepmmffghhaaDoor
/- THE CELL 'sum', in the pinned program and in every row, IS THE sha256 OF THE DUMP (.gsa) THAT YtdjoepmmffghhaaDoorProg.lean LOADS. Nothing in Lean hashes anything: it is a label: what it is worth is what the hold of that sum in a sandbox is worth. -/
noncomputable def Tryd.pinned : Pinned := { name := "ytdjoepmmffghhaadoor", sum := "5ea7eade00ef3c1b7163580facf64bfe3d60522bfd636505bd780e8f47bf84b6", checked := Tryd.checked }
namespace Rows
def none {H : Type} : Left H := { results := [], args := [] }

/- WHAT THE LISTED PACKAGE-LEVEL VARIABLES READ AS WHEN THE CALL BEGINS. Each datum BY PROGRAM (the guide's laid-datum.mjs) off the statement by which the dump's own 'gosem.cut.vars' lays the variable. In a bare row this is a premise. The card (YtdjoepmmffghhaaDoorCards.lean) ties it to the program's text. -/
def laid_scantling_sha_table {H : Type} : DataW H := .agg [.lit (.int .u32 1116352408), .lit (.int .u32 1899447441), .lit (.int .u32 3049323471), .lit (.int .u32 3921009573), .lit (.int .u32 961987163), .lit (.int .u32 1508970993), .lit (.int .u32 2453635748), .lit (.int .u32 2870763221), .lit (.int .u32 3624381080), .lit (.int .u32 310598401), .lit (.int .u32 607225278), .lit (.int .u32 1426881987), .lit (.int .u32 1925078388), .lit (.int .u32 2162078206), .lit (.int .u32 2614888103), .lit (.int .u32 3248222580), .lit (.int .u32 3835390401), .lit (.int .u32 4022224774), .lit (.int .u32 264347078), .lit (.int .u32 604807628), .lit (.int .u32 770255983), .lit (.int .u32 1249150122), .lit (.int .u32 1555081692), .lit (.int .u32 1996064986), .lit (.int .u32 2554220882), .lit (.int .u32 2821834349), .lit (.int .u32 2952996808), .lit (.int .u32 3210313671), .lit (.int .u32 3336571891), .lit (.int .u32 3584528711), .lit (.int .u32 113926993), .lit (.int .u32 338241895), .lit (.int .u32 666307205), .lit (.int .u32 773529912), .lit (.int .u32 1294757372), .lit (.int .u32 1396182291), .lit (.int .u32 1695183700), .lit (.int .u32 1986661051), .lit (.int .u32 2177026350), .lit (.int .u32 2456956037), .lit (.int .u32 2730485921), .lit (.int .u32 2820302411), .lit (.int .u32 3259730800), .lit (.int .u32 3345764771), .lit (.int .u32 3516065817), .lit (.int .u32 3600352804), .lit (.int .u32 4094571909), .lit (.int .u32 275423344), .lit (.int .u32 430227734), .lit (.int .u32 506948616), .lit (.int .u32 659060556), .lit (.int .u32 883997877), .lit (.int .u32 958139571), .lit (.int .u32 1322822218), .lit (.int .u32 1537002063), .lit (.int .u32 1747873779), .lit (.int .u32 1955562222), .lit (.int .u32 2024104815), .lit (.int .u32 2227730452), .lit (.int .u32 2361852424), .lit (.int .u32 2428436474), .lit (.int .u32 2756734187), .lit (.int .u32 3204031479), .lit (.int .u32 3329325298)]

/-- 'scantlinglaw09.TxPuts': WHATEVER THE INPUT: true; the input reads as it did. -/
def txPutsSpec : ChangeSpec := { name := "txPuts", fn := fun _ => fun
  | [d] => { results := [.lit (.bool true)], args := [d] }
  | _ => none }
def txPutsRow : OpenClaim := { program := "ytdjoepmmffghhaadoor", sum := "5ea7eade00ef3c1b7163580facf64bfe3d60522bfd636505bd780e8f47bf84b6", func := "scantling/scantlinglaw09.TxPuts", spec := "txPuts", unfollowed := true, recurses := true, named := ["scantling/sha.table"], plainKeys := false, apart := false, laid := [("scantling/sha.table", laid_scantling_sha_table)] }
def TxPutsSaid : Prop := txPutsRow.holds Tryd.pinned (OpenSpec.ofChange txPutsSpec)

/-- ITS FALSE NEIGHBOUR: 'it returns false'. Refute it at one input. -/
def txPutsWrong : ChangeSpec := { name := "txPuts", fn := fun _ => fun
  | [d] => { results := [.lit (.bool false)], args := [d] }
  | _ => none }
def TxPutsWrongFalsely : Prop := txPutsRow.holds Tryd.pinned (OpenSpec.ofChange txPutsWrong)

/-- 'scantlinglaw09.TxGets': WHATEVER THE INPUT: true; the input reads as it did. -/
def txGetsSpec : ChangeSpec := { name := "txGets", fn := fun _ => fun
  | [d] => { results := [.lit (.bool true)], args := [d] }
  | _ => none }
def txGetsRow : OpenClaim := { program := "ytdjoepmmffghhaadoor", sum := "5ea7eade00ef3c1b7163580facf64bfe3d60522bfd636505bd780e8f47bf84b6", func := "scantling/scantlinglaw09.TxGets", spec := "txGets", unfollowed := true, recurses := true, named := ["scantling/sha.table"], plainKeys := false, apart := false, laid := [("scantling/sha.table", laid_scantling_sha_table)] }
def TxGetsSaid : Prop := txGetsRow.holds Tryd.pinned (OpenSpec.ofChange txGetsSpec)

/-- ITS FALSE NEIGHBOUR: 'it returns false'. Refute it at one input. -/
def txGetsWrong : ChangeSpec := { name := "txGets", fn := fun _ => fun
  | [d] => { results := [.lit (.bool false)], args := [d] }
  | _ => none }
def TxGetsWrongFalsely : Prop := txGetsRow.holds Tryd.pinned (OpenSpec.ofChange txGetsWrong)

/-- 'scantlinglaw09.TxSame': WHATEVER THE INPUT: true; the input reads as it did. -/
def txSameSpec : ChangeSpec := { name := "txSame", fn := fun _ => fun
  | [d1, d2] => { results := [.lit (.bool true)], args := [d1, d2] }
  | _ => none }
def txSameRow : OpenClaim := { program := "ytdjoepmmffghhaadoor", sum := "5ea7eade00ef3c1b7163580facf64bfe3d60522bfd636505bd780e8f47bf84b6", func := "scantling/scantlinglaw09.TxSame", spec := "txSame", unfollowed := true, recurses := true, named := ["scantling/sha.table"], plainKeys := false, apart := false, laid := [("scantling/sha.table", laid_scantling_sha_table)] }
def TxSameSaid : Prop := txSameRow.holds Tryd.pinned (OpenSpec.ofChange txSameSpec)

/-- ITS FALSE NEIGHBOUR: 'it returns false'. Refute it at one input. -/
def txSameWrong : ChangeSpec := { name := "txSame", fn := fun _ => fun
  | [d1, d2] => { results := [.lit (.bool false)], args := [d1, d2] }
  | _ => none }
def TxSameWrongFalsely : Prop := txSameRow.holds Tryd.pinned (OpenSpec.ofChange txSameWrong)

/-- 'scantlinglaw09.TxBack': WHATEVER THE INPUT: true; the input reads as it did. -/
def txBackSpec : ChangeSpec := { name := "txBack", fn := fun _ => fun
  | [d1, d2, d3] => { results := [.lit (.bool true)], args := [d1, d2, d3] }
  | _ => none }
def txBackRow : OpenClaim := { program := "ytdjoepmmffghhaadoor", sum := "5ea7eade00ef3c1b7163580facf64bfe3d60522bfd636505bd780e8f47bf84b6", func := "scantling/scantlinglaw09.TxBack", spec := "txBack", unfollowed := true, recurses := true, named := ["scantling/sha.table"], plainKeys := false, apart := false, laid := [("scantling/sha.table", laid_scantling_sha_table)] }
def TxBackSaid : Prop := txBackRow.holds Tryd.pinned (OpenSpec.ofChange txBackSpec)

/-- ITS FALSE NEIGHBOUR: 'it returns false'. Refute it at one input. -/
def txBackWrong : ChangeSpec := { name := "txBack", fn := fun _ => fun
  | [d1, d2, d3] => { results := [.lit (.bool false)], args := [d1, d2, d3] }
  | _ => none }
def TxBackWrongFalsely : Prop := txBackRow.holds Tryd.pinned (OpenSpec.ofChange txBackWrong)

/-- 'scantlinglaw09.TxCounts': WHATEVER THE INPUT: true; the input reads as it did. -/
def txCountsSpec : ChangeSpec := { name := "txCounts", fn := fun _ => fun
  | [d] => { results := [.lit (.bool true)], args := [d] }
  | _ => none }
def txCountsRow : OpenClaim := { program := "ytdjoepmmffghhaadoor", sum := "5ea7eade00ef3c1b7163580facf64bfe3d60522bfd636505bd780e8f47bf84b6", func := "scantling/scantlinglaw09.TxCounts", spec := "txCounts", unfollowed := true, recurses := true, named := ["scantling/sha.table"], plainKeys := false, apart := false, laid := [("scantling/sha.table", laid_scantling_sha_table)] }
def TxCountsSaid : Prop := txCountsRow.holds Tryd.pinned (OpenSpec.ofChange txCountsSpec)

/-- ITS FALSE NEIGHBOUR: 'it returns false'. Refute it at one input. -/
def txCountsWrong : ChangeSpec := { name := "txCounts", fn := fun _ => fun
  | [d] => { results := [.lit (.bool false)], args := [d] }
  | _ => none }
def TxCountsWrongFalsely : Prop := txCountsRow.holds Tryd.pinned (OpenSpec.ofChange txCountsWrong)

/-- 'scantlinglaw09.TxLong': WHATEVER THE INPUT: true; the input reads as it did. -/
def txLongSpec : ChangeSpec := { name := "txLong", fn := fun _ => fun
  | [d] => { results := [.lit (.bool true)], args := [d] }
  | _ => none }
def txLongRow : OpenClaim := { program := "ytdjoepmmffghhaadoor", sum := "5ea7eade00ef3c1b7163580facf64bfe3d60522bfd636505bd780e8f47bf84b6", func := "scantling/scantlinglaw09.TxLong", spec := "txLong", unfollowed := true, recurses := true, named := ["scantling/sha.table"], plainKeys := false, apart := false, laid := [("scantling/sha.table", laid_scantling_sha_table)] }
def TxLongSaid : Prop := txLongRow.holds Tryd.pinned (OpenSpec.ofChange txLongSpec)

/-- ITS FALSE NEIGHBOUR: 'it returns false'. Refute it at one input. -/
def txLongWrong : ChangeSpec := { name := "txLong", fn := fun _ => fun
  | [d] => { results := [.lit (.bool false)], args := [d] }
  | _ => none }
def TxLongWrongFalsely : Prop := txLongRow.holds Tryd.pinned (OpenSpec.ofChange txLongWrong)

/-- 'scantlinglaw09.TxMoney': WHATEVER THE INPUT: true; the input reads as it did. -/
def txMoneySpec : ChangeSpec := { name := "txMoney", fn := fun _ => fun
  | [d1, d2, d3] => { results := [.lit (.bool true)], args := [d1, d2, d3] }
  | _ => none }
def txMoneyRow : OpenClaim := { program := "ytdjoepmmffghhaadoor", sum := "5ea7eade00ef3c1b7163580facf64bfe3d60522bfd636505bd780e8f47bf84b6", func := "scantling/scantlinglaw09.TxMoney", spec := "txMoney", unfollowed := true, recurses := true, named := ["scantling/sha.table"], plainKeys := false, apart := false, laid := [("scantling/sha.table", laid_scantling_sha_table)] }
def TxMoneySaid : Prop := txMoneyRow.holds Tryd.pinned (OpenSpec.ofChange txMoneySpec)

/-- ITS FALSE NEIGHBOUR: 'it returns false'. Refute it at one input. -/
def txMoneyWrong : ChangeSpec := { name := "txMoney", fn := fun _ => fun
  | [d1, d2, d3] => { results := [.lit (.bool false)], args := [d1, d2, d3] }
  | _ => none }
def TxMoneyWrongFalsely : Prop := txMoneyRow.holds Tryd.pinned (OpenSpec.ofChange txMoneyWrong)

/-- 'scantlinglaw09.TxHollow': WHATEVER THE INPUT: true; the input reads as it did. -/
def txHollowSpec : ChangeSpec := { name := "txHollow", fn := fun _ => fun
  | [d] => { results := [.lit (.bool true)], args := [d] }
  | _ => none }
def txHollowRow : OpenClaim := { program := "ytdjoepmmffghhaadoor", sum := "5ea7eade00ef3c1b7163580facf64bfe3d60522bfd636505bd780e8f47bf84b6", func := "scantling/scantlinglaw09.TxHollow", spec := "txHollow", unfollowed := true, recurses := true, named := ["scantling/sha.table"], plainKeys := false, apart := false, laid := [("scantling/sha.table", laid_scantling_sha_table)] }
def TxHollowSaid : Prop := txHollowRow.holds Tryd.pinned (OpenSpec.ofChange txHollowSpec)

/-- ITS FALSE NEIGHBOUR: 'it returns false'. Refute it at one input. -/
def txHollowWrong : ChangeSpec := { name := "txHollow", fn := fun _ => fun
  | [d] => { results := [.lit (.bool false)], args := [d] }
  | _ => none }
def TxHollowWrongFalsely : Prop := txHollowRow.holds Tryd.pinned (OpenSpec.ofChange txHollowWrong)

/- THE SECOND FORM. 'bulk': how many values and letters a reading holds, each counted each time it is reached (what is shared counts as often as it is met; a slice's spare places count too). A statement '..UptoSaid' is the law's where the arguments, and the package variables that the reading takes, are together of bulk at most 1048576: NARROWER than '..Said'. Prove '..Said' where nothing that the law and all that it calls make is longer than what came in: it says more and counts as full. Else prove '..UptoSaid'. A law counts once. -/
mutual
def uptoBulk {H : Type} : DataW H → Nat
  | .lit (.string bytes) => bytes.length + 1
  | .lit _ => 1
  | .nil => 1
  | .ptr d => uptoBulk d + 1
  | .slice elems spare => uptoBulkAll elems + uptoBulkAll spare + 1
  | .agg parts => uptoBulkAll parts + 1
  | .iface _ d => uptoBulk d + 1
  | .map entries => uptoBulkEntries entries + 1
  | .held _ => 1
def uptoBulkAll {H : Type} : List (DataW H) → Nat
  | [] => 0
  | d :: r => uptoBulk d + uptoBulkAll r
def uptoBulkEntries {H : Type} : List (Lit × DataW H) → Nat
  | [] => 0
  | x :: r => uptoBulkEntry x + uptoBulkEntries r
def uptoBulkEntry {H : Type} : Lit × DataW H → Nat
  | (.string bytes, d) => bytes.length + uptoBulk d + 1
  | (_, d) => uptoBulk d + 1
 end
def uptoSmall : (H : Type) → List (DataW H) → Bool := fun _ ds => decide (uptoBulkAll ds ≤ 1048576)
def OpenSpec.upto (s : _root_.Go.ChangeSpec) : _root_.Go.OpenSpec := { _root_.Go.OpenSpec.ofChange s with cond := some uptoSmall }

/-- 'scantlinglaw09.TxPuts', WHERE WHAT IT READS IS OF BULK AT MOST 1048576: true; the input reads as it did. -/
def txPutsUptoRow : OpenClaim := { program := "ytdjoepmmffghhaadoor", sum := "5ea7eade00ef3c1b7163580facf64bfe3d60522bfd636505bd780e8f47bf84b6", func := "scantling/scantlinglaw09.TxPuts", spec := "txPuts", unfollowed := true, recurses := true, named := ["scantling/sha.table"], plainKeys := false, apart := false, laid := [("scantling/sha.table", laid_scantling_sha_table)], narrowed := true }
def TxPutsUptoSaid : Prop := txPutsUptoRow.holds Tryd.pinned (OpenSpec.upto txPutsSpec)

/-- 'scantlinglaw09.TxGets', WHERE WHAT IT READS IS OF BULK AT MOST 1048576: true; the input reads as it did. -/
def txGetsUptoRow : OpenClaim := { program := "ytdjoepmmffghhaadoor", sum := "5ea7eade00ef3c1b7163580facf64bfe3d60522bfd636505bd780e8f47bf84b6", func := "scantling/scantlinglaw09.TxGets", spec := "txGets", unfollowed := true, recurses := true, named := ["scantling/sha.table"], plainKeys := false, apart := false, laid := [("scantling/sha.table", laid_scantling_sha_table)], narrowed := true }
def TxGetsUptoSaid : Prop := txGetsUptoRow.holds Tryd.pinned (OpenSpec.upto txGetsSpec)

/-- 'scantlinglaw09.TxSame', WHERE WHAT IT READS IS OF BULK AT MOST 1048576: true; the input reads as it did. -/
def txSameUptoRow : OpenClaim := { program := "ytdjoepmmffghhaadoor", sum := "5ea7eade00ef3c1b7163580facf64bfe3d60522bfd636505bd780e8f47bf84b6", func := "scantling/scantlinglaw09.TxSame", spec := "txSame", unfollowed := true, recurses := true, named := ["scantling/sha.table"], plainKeys := false, apart := false, laid := [("scantling/sha.table", laid_scantling_sha_table)], narrowed := true }
def TxSameUptoSaid : Prop := txSameUptoRow.holds Tryd.pinned (OpenSpec.upto txSameSpec)

/-- 'scantlinglaw09.TxBack', WHERE WHAT IT READS IS OF BULK AT MOST 1048576: true; the input reads as it did. -/
def txBackUptoRow : OpenClaim := { program := "ytdjoepmmffghhaadoor", sum := "5ea7eade00ef3c1b7163580facf64bfe3d60522bfd636505bd780e8f47bf84b6", func := "scantling/scantlinglaw09.TxBack", spec := "txBack", unfollowed := true, recurses := true, named := ["scantling/sha.table"], plainKeys := false, apart := false, laid := [("scantling/sha.table", laid_scantling_sha_table)], narrowed := true }
def TxBackUptoSaid : Prop := txBackUptoRow.holds Tryd.pinned (OpenSpec.upto txBackSpec)

/-- 'scantlinglaw09.TxCounts', WHERE WHAT IT READS IS OF BULK AT MOST 1048576: true; the input reads as it did. -/
def txCountsUptoRow : OpenClaim := { program := "ytdjoepmmffghhaadoor", sum := "5ea7eade00ef3c1b7163580facf64bfe3d60522bfd636505bd780e8f47bf84b6", func := "scantling/scantlinglaw09.TxCounts", spec := "txCounts", unfollowed := true, recurses := true, named := ["scantling/sha.table"], plainKeys := false, apart := false, laid := [("scantling/sha.table", laid_scantling_sha_table)], narrowed := true }
def TxCountsUptoSaid : Prop := txCountsUptoRow.holds Tryd.pinned (OpenSpec.upto txCountsSpec)

/-- 'scantlinglaw09.TxLong', WHERE WHAT IT READS IS OF BULK AT MOST 1048576: true; the input reads as it did. -/
def txLongUptoRow : OpenClaim := { program := "ytdjoepmmffghhaadoor", sum := "5ea7eade00ef3c1b7163580facf64bfe3d60522bfd636505bd780e8f47bf84b6", func := "scantling/scantlinglaw09.TxLong", spec := "txLong", unfollowed := true, recurses := true, named := ["scantling/sha.table"], plainKeys := false, apart := false, laid := [("scantling/sha.table", laid_scantling_sha_table)], narrowed := true }
def TxLongUptoSaid : Prop := txLongUptoRow.holds Tryd.pinned (OpenSpec.upto txLongSpec)

/-- 'scantlinglaw09.TxMoney', WHERE WHAT IT READS IS OF BULK AT MOST 1048576: true; the input reads as it did. -/
def txMoneyUptoRow : OpenClaim := { program := "ytdjoepmmffghhaadoor", sum := "5ea7eade00ef3c1b7163580facf64bfe3d60522bfd636505bd780e8f47bf84b6", func := "scantling/scantlinglaw09.TxMoney", spec := "txMoney", unfollowed := true, recurses := true, named := ["scantling/sha.table"], plainKeys := false, apart := false, laid := [("scantling/sha.table", laid_scantling_sha_table)], narrowed := true }
def TxMoneyUptoSaid : Prop := txMoneyUptoRow.holds Tryd.pinned (OpenSpec.upto txMoneySpec)

/-- 'scantlinglaw09.TxHollow', WHERE WHAT IT READS IS OF BULK AT MOST 1048576: true; the input reads as it did. -/
def txHollowUptoRow : OpenClaim := { program := "ytdjoepmmffghhaadoor", sum := "5ea7eade00ef3c1b7163580facf64bfe3d60522bfd636505bd780e8f47bf84b6", func := "scantling/scantlinglaw09.TxHollow", spec := "txHollow", unfollowed := true, recurses := true, named := ["scantling/sha.table"], plainKeys := false, apart := false, laid := [("scantling/sha.table", laid_scantling_sha_table)], narrowed := true }
def TxHollowUptoSaid : Prop := txHollowUptoRow.holds Tryd.pinned (OpenSpec.upto txHollowSpec)

end Rows
end Go.Proofs.YtdjoepmmffghhaaDoor
