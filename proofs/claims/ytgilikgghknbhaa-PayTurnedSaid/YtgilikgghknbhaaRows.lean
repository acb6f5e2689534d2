/-
  No cell of these rows narrows 'for every input' (looked for: loops, veiled, ifaces, maps, wideKeys, modest, calm, conditions, laid).
  DERIVED. THE GIVEN ROWS OF THIS SEAT. 3 by the template 'for every input the law returns true; each argument reads behind the call as it read before'; 0 by the template 'total and deterministic' (their statements: YtgilikgghknbhaaTotals.lean).
  GIVEN WITH THE SEED: the statements are not yours to turn. If you find one false, say at which input.
  Laid BY PROGRAM, IN A SANDBOX (cutbox-rows.mjs): the forced cells as the released guide's own fill.sh prints them over the translation 20a02fbb21057cdc… (all of the seat's roots in one cut). By AI agents, Wed Nov 11 2026. No macro, syntax, notation, axiom, sorry.
-/
import Derived.Test.YtgilikgghknbhaaChecked
import GoSem.Claim
import GoSem.ClaimJoined
import GoSem.ClaimMapViews
import Derived.JoinedTies
import Derived.KernelRfl
namespace Go.Proofs.Ytgilikgghknbhaa
/- THE CELL 'sum', in the pinned program and in every row, IS THE sha256 OF THE DUMP (.gsa) THAT YtgilikgghknbhaaProg.lean LOADS. Nothing in Lean hashes anything: it is a label: what it is worth is what the hold of that sum in a sandbox is worth. -/
noncomputable def Try.pinned : Pinned := { name := "ytgilikgghknbhaa", sum := "20a02fbb21057cdc4f156fa4094993de09f0c635a8d6e0aacc8ff6477de5dd9e", checked := Try.checked }
namespace Rows
def none {H : Type} : Left H := { results := [], args := [] }

/-- 'scantlinglaw31.PayPlays': WHATEVER THE INPUT: true; the input reads as it did. -/
def payPlaysSpec : ChangeSpec := { name := "payPlays", fn := fun _ => fun
  | [d1, d2, d3, d4, d5, d6, d7] => { results := [.lit (.bool true)], args := [d1, d2, d3, d4, d5, d6, d7] }
  | _ => none }
def payPlaysRow : OpenClaim := { program := "ytgilikgghknbhaa", sum := "20a02fbb21057cdc4f156fa4094993de09f0c635a8d6e0aacc8ff6477de5dd9e", func := "scantling/scantlinglaw31.PayPlays", spec := "payPlays", inPlace := ["internal/bytealg.Compare"], unfollowed := true, recurses := true, plainKeys := false, apart := false }
def PayPlaysSaid : Prop := payPlaysRow.holds Try.pinned (OpenSpec.ofChange payPlaysSpec)

/-- ITS FALSE NEIGHBOUR: 'it returns false'. Refute it at one input. -/
def payPlaysWrong : ChangeSpec := { name := "payPlays", fn := fun _ => fun
  | [d1, d2, d3, d4, d5, d6, d7] => { results := [.lit (.bool false)], args := [d1, d2, d3, d4, d5, d6, d7] }
  | _ => none }
def PayPlaysWrongFalsely : Prop := payPlaysRow.holds Try.pinned (OpenSpec.ofChange payPlaysWrong)

/-- 'scantlinglaw31.PayLeast': WHATEVER THE INPUT: true; the input reads as it did. -/
def payLeastSpec : ChangeSpec := { name := "payLeast", fn := fun _ => fun
  | [d1, d2, d3, d4] => { results := [.lit (.bool true)], args := [d1, d2, d3, d4] }
  | _ => none }
def payLeastRow : OpenClaim := { program := "ytgilikgghknbhaa", sum := "20a02fbb21057cdc4f156fa4094993de09f0c635a8d6e0aacc8ff6477de5dd9e", func := "scantling/scantlinglaw31.PayLeast", spec := "payLeast", inPlace := ["internal/bytealg.Compare"], unfollowed := true, recurses := true, plainKeys := false, apart := false }
def PayLeastSaid : Prop := payLeastRow.holds Try.pinned (OpenSpec.ofChange payLeastSpec)

/-- ITS FALSE NEIGHBOUR: 'it returns false'. Refute it at one input. -/
def payLeastWrong : ChangeSpec := { name := "payLeast", fn := fun _ => fun
  | [d1, d2, d3, d4] => { results := [.lit (.bool false)], args := [d1, d2, d3, d4] }
  | _ => none }
def PayLeastWrongFalsely : Prop := payLeastRow.holds Try.pinned (OpenSpec.ofChange payLeastWrong)

/-- 'scantlinglaw31.PayTurned': WHATEVER THE INPUT: true; the input reads as it did. -/
def payTurnedSpec : ChangeSpec := { name := "payTurned", fn := fun _ => fun
  | [d1, d2, d3, d4, d5] => { results := [.lit (.bool true)], args := [d1, d2, d3, d4, d5] }
  | _ => none }
def payTurnedRow : OpenClaim := { program := "ytgilikgghknbhaa", sum := "20a02fbb21057cdc4f156fa4094993de09f0c635a8d6e0aacc8ff6477de5dd9e", func := "scantling/scantlinglaw31.PayTurned", spec := "payTurned", inPlace := ["internal/bytealg.Compare"], unfollowed := true, recurses := true, plainKeys := false, apart := false }
def PayTurnedSaid : Prop := payTurnedRow.holds Try.pinned (OpenSpec.ofChange payTurnedSpec)

/-- ITS FALSE NEIGHBOUR: 'it returns false'. Refute it at one input. -/
def payTurnedWrong : ChangeSpec := { name := "payTurned", fn := fun _ => fun
  | [d1, d2, d3, d4, d5] => { results := [.lit (.bool false)], args := [d1, d2, d3, d4, d5] }
  | _ => none }
def PayTurnedWrongFalsely : Prop := payTurnedRow.holds Try.pinned (OpenSpec.ofChange payTurnedWrong)

/- THE SECOND FORM. 'bulk': how many values and letters a reading holds, each counted each time it is reached (what is shared counts as often as it is met; a slice's spare places count too). A statement '..UptoSaid' is the law's where the arguments, and the package variables that the reading takes, are together of bulk at most 1048576: NARROWER than '..Said'. Prove '..Said' where nothing that the law and all that it calls make is longer than what came in: it says more and counts as full. Else prove '..UptoSaid'. A law counts once. -/
mutual
def uptoBulk {H : Type} : DataW H → Nat
  | .lit (.string bytes) => bytes.length + 1
  | .lit _ => 1
  | .nil => 1
  | .ptr d => uptoBulk d + 1
  | .slice elems spare => uptoBulkAll elems + uptoBulkAll spare + 1
  | .agg parts => uptoBulkAll parts + 1
  | .iface _ d => uptoBulk d + 1
  | .map entries => uptoBulkEntries entries + 1
  | .held _ => 1
def uptoBulkAll {H : Type} : List (DataW H) → Nat
  | [] => 0
  | d :: r => uptoBulk d + uptoBulkAll r
def uptoBulkEntries {H : Type} : List (Lit × DataW H) → Nat
  | [] => 0
  | x :: r => uptoBulkEntry x + uptoBulkEntries r
def uptoBulkEntry {H : Type} : Lit × DataW H → Nat
  | (.string bytes, d) => bytes.length + uptoBulk d + 1
  | (_, d) => uptoBulk d + 1
 end
def uptoSmall : (H : Type) → List (DataW H) → Bool := fun _ ds => decide (uptoBulkAll ds ≤ 1048576)
def OpenSpec.upto (s : _root_.Go.ChangeSpec) : _root_.Go.OpenSpec := { _root_.Go.OpenSpec.ofChange s with cond := some uptoSmall }

/-- 'scantlinglaw31.PayPlays', WHERE WHAT IT READS IS OF BULK AT MOST 1048576: true; the input reads as it did. -/
def payPlaysUptoRow : OpenClaim := { program := "ytgilikgghknbhaa", sum := "20a02fbb21057cdc4f156fa4094993de09f0c635a8d6e0aacc8ff6477de5dd9e", func := "scantling/scantlinglaw31.PayPlays", spec := "payPlays", inPlace := ["internal/bytealg.Compare"], unfollowed := true, recurses := true, plainKeys := false, apart := false, narrowed := true }
def PayPlaysUptoSaid : Prop := payPlaysUptoRow.holds Try.pinned (OpenSpec.upto payPlaysSpec)

/-- 'scantlinglaw31.PayLeast', WHERE WHAT IT READS IS OF BULK AT MOST 1048576: true; the input reads as it did. -/
def payLeastUptoRow : OpenClaim := { program := "ytgilikgghknbhaa", sum := "20a02fbb21057cdc4f156fa4094993de09f0c635a8d6e0aacc8ff6477de5dd9e", func := "scantling/scantlinglaw31.PayLeast", spec := "payLeast", inPlace := ["internal/bytealg.Compare"], unfollowed := true, recurses := true, plainKeys := false, apart := false, narrowed := true }
def PayLeastUptoSaid : Prop := payLeastUptoRow.holds Try.pinned (OpenSpec.upto payLeastSpec)

/-- 'scantlinglaw31.PayTurned', WHERE WHAT IT READS IS OF BULK AT MOST 1048576: true; the input reads as it did. -/
def payTurnedUptoRow : OpenClaim := { program := "ytgilikgghknbhaa", sum := "20a02fbb21057cdc4f156fa4094993de09f0c635a8d6e0aacc8ff6477de5dd9e", func := "scantling/scantlinglaw31.PayTurned", spec := "payTurned", inPlace := ["internal/bytealg.Compare"], unfollowed := true, recurses := true, plainKeys := false, apart := false, narrowed := true }
def PayTurnedUptoSaid : Prop := payTurnedUptoRow.holds Try.pinned (OpenSpec.upto payTurnedSpec)

end Rows
end Go.Proofs.Ytgilikgghknbhaa
