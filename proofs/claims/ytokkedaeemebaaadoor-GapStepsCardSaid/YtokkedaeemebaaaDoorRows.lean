/-
  NARROWER THAN 'FOR EVERY INPUT', by the rows' own cells (each row's printed sentence says how): GapPlays: laid · GapLast: laid · GapMore: laid · GapSteps: laid.
  DERIVED. THE GIVEN ROWS OF THIS SEAT. 4 by the template 'for every input the law returns true; each argument reads behind the call as it read before'; 0 by the template 'total and deterministic' (their statements: YtokkedaeemebaaaDoorTotals.lean).
  GIVEN WITH THE SEED: the statements are not yours to turn. If you find one false, say at which input.
  Laid BY PROGRAM, IN A SANDBOX (cutbox-rows.mjs): the forced cells as the released guide's own fill.sh prints them over the translation eb47363afdd4d116… (all of the seat's roots in one cut). By AI agents, Wed Nov 11 2026. No macro, syntax, notation, axiom, sorry.
-/
import Derived.Test.YtokkedaeemebaaaDoorChecked
import GoSem.Claim
import GoSem.ClaimJoined
import GoSem.ClaimMapViews
import Derived.JoinedTies
import Derived.KernelRfl
namespace Go.Proofs.YtokkedaeemebaaaDoor
/- THE CELL 'sum', in the pinned program and in every row, IS THE sha256 OF THE DUMP (.gsa) THAT YtokkedaeemebaaaDoorProg.lean LOADS. Nothing in Lean hashes anything: it is a label: what it is worth is what the hold of that sum in a sandbox is worth. -/
noncomputable def Tryd.pinned : Pinned := { name := "ytokkedaeemebaaadoor", sum := "eb47363afdd4d1167f4874aa9968e6b303e3914713946d21fd6986bf2cff5dea", checked := Tryd.checked }
namespace Rows
def none {H : Type} : Left H := { results := [], args := [] }

/- WHAT THE LISTED PACKAGE-LEVEL VARIABLES READ AS WHEN THE CALL BEGINS. Each datum BY PROGRAM (the guide's laid-datum.mjs) off the statement by which the dump's own 'gosem.cut.vars' lays the variable. In a bare row this is a premise. The card (YtokkedaeemebaaaDoorCards.lean) ties it to the program's text. -/
def laid_scantling_sha_table {H : Type} : DataW H := .agg [.lit (.int .u32 1116352408), .lit (.int .u32 1899447441), .lit (.int .u32 3049323471), .lit (.int .u32 3921009573), .lit (.int .u32 961987163), .lit (.int .u32 1508970993), .lit (.int .u32 2453635748), .lit (.int .u32 2870763221), .lit (.int .u32 3624381080), .lit (.int .u32 310598401), .lit (.int .u32 607225278), .lit (.int .u32 1426881987), .lit (.int .u32 1925078388), .lit (.int .u32 2162078206), .lit (.int .u32 2614888103), .lit (.int .u32 3248222580), .lit (.int .u32 3835390401), .lit (.int .u32 4022224774), .lit (.int .u32 264347078), .lit (.int .u32 604807628), .lit (.int .u32 770255983), .lit (.int .u32 1249150122), .lit (.int .u32 1555081692), .lit (.int .u32 1996064986), .lit (.int .u32 2554220882), .lit (.int .u32 2821834349), .lit (.int .u32 2952996808), .lit (.int .u32 3210313671), .lit (.int .u32 3336571891), .lit (.int .u32 3584528711), .lit (.int .u32 113926993), .lit (.int .u32 338241895), .lit (.int .u32 666307205), .lit (.int .u32 773529912), .lit (.int .u32 1294757372), .lit (.int .u32 1396182291), .lit (.int .u32 1695183700), .lit (.int .u32 1986661051), .lit (.int .u32 2177026350), .lit (.int .u32 2456956037), .lit (.int .u32 2730485921), .lit (.int .u32 2820302411), .lit (.int .u32 3259730800), .lit (.int .u32 3345764771), .lit (.int .u32 3516065817), .lit (.int .u32 3600352804), .lit (.int .u32 4094571909), .lit (.int .u32 275423344), .lit (.int .u32 430227734), .lit (.int .u32 506948616), .lit (.int .u32 659060556), .lit (.int .u32 883997877), .lit (.int .u32 958139571), .lit (.int .u32 1322822218), .lit (.int .u32 1537002063), .lit (.int .u32 1747873779), .lit (.int .u32 1955562222), .lit (.int .u32 2024104815), .lit (.int .u32 2227730452), .lit (.int .u32 2361852424), .lit (.int .u32 2428436474), .lit (.int .u32 2756734187), .lit (.int .u32 3204031479), .lit (.int .u32 3329325298)]

/-- 'scantlinglaw22.GapPlays': WHATEVER THE INPUT: true; the input reads as it did. -/
def gapPlaysSpec : ChangeSpec := { name := "gapPlays", fn := fun _ => fun
  | [d1, d2, d3, d4] => { results := [.lit (.bool true)], args := [d1, d2, d3, d4] }
  | _ => none }
def gapPlaysRow : OpenClaim := { program := "ytokkedaeemebaaadoor", sum := "eb47363afdd4d1167f4874aa9968e6b303e3914713946d21fd6986bf2cff5dea", func := "scantling/scantlinglaw22.GapPlays", spec := "gapPlays", named := ["scantling/sha.table"], apart := false, laid := [("scantling/sha.table", laid_scantling_sha_table)] }
def GapPlaysSaid : Prop := gapPlaysRow.holds Tryd.pinned (OpenSpec.ofChange gapPlaysSpec)

/-- ITS FALSE NEIGHBOUR: 'it returns false'. Refute it at one input. -/
def gapPlaysWrong : ChangeSpec := { name := "gapPlays", fn := fun _ => fun
  | [d1, d2, d3, d4] => { results := [.lit (.bool false)], args := [d1, d2, d3, d4] }
  | _ => none }
def GapPlaysWrongFalsely : Prop := gapPlaysRow.holds Tryd.pinned (OpenSpec.ofChange gapPlaysWrong)

/-- 'scantlinglaw22.GapLast': WHATEVER THE INPUT: true; the input reads as it did. -/
def gapLastSpec : ChangeSpec := { name := "gapLast", fn := fun _ => fun
  | [d1, d2] => { results := [.lit (.bool true)], args := [d1, d2] }
  | _ => none }
def gapLastRow : OpenClaim := { program := "ytokkedaeemebaaadoor", sum := "eb47363afdd4d1167f4874aa9968e6b303e3914713946d21fd6986bf2cff5dea", func := "scantling/scantlinglaw22.GapLast", spec := "gapLast", named := ["scantling/sha.table"], apart := false, laid := [("scantling/sha.table", laid_scantling_sha_table)] }
def GapLastSaid : Prop := gapLastRow.holds Tryd.pinned (OpenSpec.ofChange gapLastSpec)

/-- ITS FALSE NEIGHBOUR: 'it returns false'. Refute it at one input. -/
def gapLastWrong : ChangeSpec := { name := "gapLast", fn := fun _ => fun
  | [d1, d2] => { results := [.lit (.bool false)], args := [d1, d2] }
  | _ => none }
def GapLastWrongFalsely : Prop := gapLastRow.holds Tryd.pinned (OpenSpec.ofChange gapLastWrong)

/-- 'scantlinglaw22.GapMore': WHATEVER THE INPUT: true; the input reads as it did. -/
def gapMoreSpec : ChangeSpec := { name := "gapMore", fn := fun _ => fun
  | [d1, d2, d3] => { results := [.lit (.bool true)], args := [d1, d2, d3] }
  | _ => none }
def gapMoreRow : OpenClaim := { program := "ytokkedaeemebaaadoor", sum := "eb47363afdd4d1167f4874aa9968e6b303e3914713946d21fd6986bf2cff5dea", func := "scantling/scantlinglaw22.GapMore", spec := "gapMore", named := ["scantling/sha.table"], apart := false, laid := [("scantling/sha.table", laid_scantling_sha_table)] }
def GapMoreSaid : Prop := gapMoreRow.holds Tryd.pinned (OpenSpec.ofChange gapMoreSpec)

/-- ITS FALSE NEIGHBOUR: 'it returns false'. Refute it at one input. -/
def gapMoreWrong : ChangeSpec := { name := "gapMore", fn := fun _ => fun
  | [d1, d2, d3] => { results := [.lit (.bool false)], args := [d1, d2, d3] }
  | _ => none }
def GapMoreWrongFalsely : Prop := gapMoreRow.holds Tryd.pinned (OpenSpec.ofChange gapMoreWrong)

/-- 'scantlinglaw22.GapSteps': WHATEVER THE INPUT: true; the input reads as it did. -/
def gapStepsSpec : ChangeSpec := { name := "gapSteps", fn := fun _ => fun
  | [d1, d2, d3, d4] => { results := [.lit (.bool true)], args := [d1, d2, d3, d4] }
  | _ => none }
def gapStepsRow : OpenClaim := { program := "ytokkedaeemebaaadoor", sum := "eb47363afdd4d1167f4874aa9968e6b303e3914713946d21fd6986bf2cff5dea", func := "scantling/scantlinglaw22.GapSteps", spec := "gapSteps", named := ["scantling/sha.table"], apart := false, laid := [("scantling/sha.table", laid_scantling_sha_table)] }
def GapStepsSaid : Prop := gapStepsRow.holds Tryd.pinned (OpenSpec.ofChange gapStepsSpec)

/-- ITS FALSE NEIGHBOUR: 'it returns false'. Refute it at one input. -/
def gapStepsWrong : ChangeSpec := { name := "gapSteps", fn := fun _ => fun
  | [d1, d2, d3, d4] => { results := [.lit (.bool false)], args := [d1, d2, d3, d4] }
  | _ => none }
def GapStepsWrongFalsely : Prop := gapStepsRow.holds Tryd.pinned (OpenSpec.ofChange gapStepsWrong)

/- THE SECOND FORM. 'bulk': how many values and letters a reading holds, each counted each time it is reached (what is shared counts as often as it is met; a slice's spare places count too). A statement '..UptoSaid' is the law's where the arguments, and the package variables that the reading takes, are together of bulk at most 1048576: NARROWER than '..Said'. Prove '..Said' where nothing that the law and all that it calls make is longer than what came in: it says more and counts as full. Else prove '..UptoSaid'. A law counts once. -/
mutual
def uptoBulk {H : Type} : DataW H → Nat
  | .lit (.string bytes) => bytes.length + 1
  | .lit _ => 1
  | .nil => 1
  | .ptr d => uptoBulk d + 1
  | .slice elems spare => uptoBulkAll elems + uptoBulkAll spare + 1
  | .agg parts => uptoBulkAll parts + 1
  | .iface _ d => uptoBulk d + 1
  | .map entries => uptoBulkEntries entries + 1
  | .held _ => 1
def uptoBulkAll {H : Type} : List (DataW H) → Nat
  | [] => 0
  | d :: r => uptoBulk d + uptoBulkAll r
def uptoBulkEntries {H : Type} : List (Lit × DataW H) → Nat
  | [] => 0
  | x :: r => uptoBulkEntry x + uptoBulkEntries r
def uptoBulkEntry {H : Type} : Lit × DataW H → Nat
  | (.string bytes, d) => bytes.length + uptoBulk d + 1
  | (_, d) => uptoBulk d + 1
 end
def uptoSmall : (H : Type) → List (DataW H) → Bool := fun _ ds => decide (uptoBulkAll ds ≤ 1048576)
def OpenSpec.upto (s : _root_.Go.ChangeSpec) : _root_.Go.OpenSpec := { _root_.Go.OpenSpec.ofChange s with cond := some uptoSmall }

/-- 'scantlinglaw22.GapPlays', WHERE WHAT IT READS IS OF BULK AT MOST 1048576: true; the input reads as it did. -/
def gapPlaysUptoRow : OpenClaim := { program := "ytokkedaeemebaaadoor", sum := "eb47363afdd4d1167f4874aa9968e6b303e3914713946d21fd6986bf2cff5dea", func := "scantling/scantlinglaw22.GapPlays", spec := "gapPlays", named := ["scantling/sha.table"], apart := false, laid := [("scantling/sha.table", laid_scantling_sha_table)], narrowed := true }
def GapPlaysUptoSaid : Prop := gapPlaysUptoRow.holds Tryd.pinned (OpenSpec.upto gapPlaysSpec)

/-- 'scantlinglaw22.GapLast', WHERE WHAT IT READS IS OF BULK AT MOST 1048576: true; the input reads as it did. -/
def gapLastUptoRow : OpenClaim := { program := "ytokkedaeemebaaadoor", sum := "eb47363afdd4d1167f4874aa9968e6b303e3914713946d21fd6986bf2cff5dea", func := "scantling/scantlinglaw22.GapLast", spec := "gapLast", named := ["scantling/sha.table"], apart := false, laid := [("scantling/sha.table", laid_scantling_sha_table)], narrowed := true }
def GapLastUptoSaid : Prop := gapLastUptoRow.holds Tryd.pinned (OpenSpec.upto gapLastSpec)

/-- 'scantlinglaw22.GapMore', WHERE WHAT IT READS IS OF BULK AT MOST 1048576: true; the input reads as it did. -/
def gapMoreUptoRow : OpenClaim := { program := "ytokkedaeemebaaadoor", sum := "eb47363afdd4d1167f4874aa9968e6b303e3914713946d21fd6986bf2cff5dea", func := "scantling/scantlinglaw22.GapMore", spec := "gapMore", named := ["scantling/sha.table"], apart := false, laid := [("scantling/sha.table", laid_scantling_sha_table)], narrowed := true }
def GapMoreUptoSaid : Prop := gapMoreUptoRow.holds Tryd.pinned (OpenSpec.upto gapMoreSpec)

/-- 'scantlinglaw22.GapSteps', WHERE WHAT IT READS IS OF BULK AT MOST 1048576: true; the input reads as it did. -/
def gapStepsUptoRow : OpenClaim := { program := "ytokkedaeemebaaadoor", sum := "eb47363afdd4d1167f4874aa9968e6b303e3914713946d21fd6986bf2cff5dea", func := "scantling/scantlinglaw22.GapSteps", spec := "gapSteps", named := ["scantling/sha.table"], apart := false, laid := [("scantling/sha.table", laid_scantling_sha_table)], narrowed := true }
def GapStepsUptoSaid : Prop := gapStepsUptoRow.holds Tryd.pinned (OpenSpec.upto gapStepsSpec)

end Rows
end Go.Proofs.YtokkedaeemebaaaDoor
