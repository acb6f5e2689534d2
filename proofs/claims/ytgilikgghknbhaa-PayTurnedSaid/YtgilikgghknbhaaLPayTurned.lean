/- Proved: the given statement of PayTurned: the law returns true for every input, and its arguments read afterwards as before. Conditions: none but those of the given row. -/
import Derived.Test.YtgilikgghknbhaaRows
import Derived.Test.YtgilikgghknbhaaMPy26
set_option linter.unusedVariables false
set_option linter.unusedSimpArgs false
set_option linter.unnecessarySimpa false

namespace Go.Proofs.Ytgilikgghknbhaa.payTurned
open Go.ChangeShapes Go.WideShapes Go.ChangeAt Go.RowKit Go.Sx
theorem own : ownKnob Try.prog.godebug = Option.none:=by kernel_rfl
theorem laidOut : laidOutB Try.prog = true:=by kernel_rfl
set_option maxRecDepth 100000 in
theorem contract (H : Type) (enc : TypeId × Value -> H) (W : World) (base : Nat) (args : Array Value) (ds gs : List (DataW H)) (before : List MemPlace)
 (hval : ∀ (j : Nat) t v,Try.f5.params[j]? = some t -> args[j]? = some v -> Value.okWide Try.prog W .any base t v)
 (hW : DataW.Whole enc Try.prog Try.f5.params.toList Rows.payTurnedSpec.vars false W args.toList ds gs before)
 (hwt : (DataW.weightsEach Try.prog (Try.f5.params.toList ++ []) (ds ++ gs)).all (· <= reachBytes) = true) :
 Calls Try.prog 5 args W fun e W'=>∃ v,e = .returned v /\ Rows.payTurnedSpec.post enc Try.prog Try.f5 false true false false W args v W':=by
 have hW':=hW
 obtain ⟨p,q,hA0,hV,rfl,hfz,hnd⟩:=hW
 have hA : DataW.TrodAll enc Try.prog W 0 (fun _=>true) true Try.f5.params.toList args.toList ds p:=hA0
 rw [Try.params5] at hA hval
 obtain ⟨v0,vs0,d0,ds0,p0,q0,hargs,rfl,rfl,h0,r0⟩:=trodAll_cons hA
 obtain ⟨v1,vs1,d1,ds1,p1,q1,rfl,rfl,rfl,h1,r1⟩:=trodAll_cons r0
 obtain ⟨v2,vs2,d2,ds2,p2,q2,rfl,rfl,rfl,h2,r2⟩:=trodAll_cons r1
 obtain ⟨v3,vs3,d3,ds3,p3,q3,rfl,rfl,rfl,h3,r3⟩:=trodAll_cons r2
 obtain ⟨v4,vs4,d4,ds4,p4,q4,rfl,rfl,rfl,h4,r4⟩:=trodAll_cons r3
 obtain ⟨rfl,rfl,rfl⟩:=trodAll_nil r4
 obtain rfl : args = #[v0,v1,v2,v3,v4]:=by cases args; simp_all
 obtain ⟨rfl,rfl⟩:=trodVars_none hV
 obtain ⟨a0,b0,c0⟩:=Rd.arg (Rd.sl Try.underlying64 (by kernel_rfl) (by decide) (of_decide_eq_true (by kernel_rfl)) (Rd.u32 Try.underlying26 (by kernel_rfl))) rfl (fun _ _=>rfl) (hval 0 64 v0 rfl rfl) h0 (weightsEach_get hwt 0 64 d0 rfl rfl)
 obtain ⟨a1,b1,c1⟩:=Rd.arg (Rd.sl Try.underlying64 (by kernel_rfl) (by decide) (of_decide_eq_true (by kernel_rfl)) (Rd.u32 Try.underlying26 (by kernel_rfl))) rfl (fun _ _=>rfl) (hval 1 64 v1 rfl rfl) h1 (weightsEach_get hwt 1 64 d1 rfl rfl)
 obtain ⟨a2,b2,c2⟩:=Rd.arg (Rd.u16 Try.underlying65 (by kernel_rfl)) rfl (fun _ _=>rfl) (hval 2 65 v2 rfl rfl) h2 (weightsEach_get hwt 2 65 d2 rfl rfl)
 obtain ⟨a3,b3,c3⟩:=Rd.arg (Rd.u8 Try.underlying5 (by kernel_rfl)) rfl (fun _ _=>rfl) (hval 3 5 v3 rfl rfl) h3 (weightsEach_get hwt 3 5 d3 rfl rfl)
 obtain ⟨a4,b4,c4⟩:=Rd.arg (Rd.sl Try.underlying64 (by kernel_rfl) (by decide) (of_decide_eq_true (by kernel_rfl)) (Rd.u32 Try.underlying26 (by kernel_rfl))) rfl (fun _ _=>rfl) (hval 4 64 v4 rfl rfl) h4 (weightsEach_get hwt 4 64 d4 rfl rfl)
 refine contract_of (Ds:=[_,_,_,_,_]) laidOut (by kernel_rfl) rfl Try.underlying4 rfl rfl hW' (gl:=gl) (fun _ _ h=>by cases h) rfl (fun k hk=>?_) (turned_ok a0 a1 a2 a3 a4 b0.1 b1.1 b4.1)
 cases k with
 | zero=>exact c0
 | succ k=>
 cases k with
 | zero=>exact c1
 | succ k=>
 cases k with
 | zero=>exact c2
 | succ k=>
 cases k with
 | zero=>exact c3
 | succ k=>
 cases k with
 | zero=>exact c4
 | succ k=>
 exact absurd hk (by simp)
noncomputable def laidWorld (os : Os) : World:=World.holding Try.prog os ⟨#[],#[],[]⟩
theorem reads (os : Os) {H : Type} (enc : TypeId × Value -> H) : ∃ places,DataW.whole enc Try.prog ((laidWorld os).forCall (fun _ _=>0) ⟨#[],#[(.slice none 0 0 : Value),(.slice none 0 0 : Value),(.int .u16 0 : Value),(.int .u8 0 : Value),(.slice none 0 0 : Value)],[]⟩).memory Try.f5.params.toList Rows.payTurnedSpec.vars false #[(.slice none 0 0 : Value),(.slice none 0 0 : Value),(.int .u16 0 : Value),(.int .u8 0 : Value),(.slice none 0 0 : Value)].toList 8 = some ([.nil,.nil,.lit (.int .u16 0),.lit (.int .u8 0),.nil],[],places):=
 ⟨[],by kernel_rfl⟩
set_option maxRecDepth 100000 in
theorem lifted (os : Os) (started : os.Started) (H : Type) (enc : TypeId × Value -> H) (F : Stop.Interp) :
 ReturnsInHanded {} Try.checked os 5 .any ((OpenSpec.ofChange Rows.payTurnedSpec).preRow enc Try.prog Try.f5 Rows.payTurnedRow.domain false Rows.payTurnedRow.laid) (((OpenSpec.ofChange Rows.payTurnedSpec).at F).post enc Try.prog Try.f5 false true false false):=by
 obtain ⟨places,hx⟩:=reads os enc
 refine returnsInHanded_of_row (C:=Try.checked) (s:=OpenSpec.ofChange Rows.payTurnedSpec) own started (by kernel_rfl) Try.func5
  (witness_row_at (enc:=enc) (C:=Try.checked) false (laidWorld os) #[(.slice none 0 0 : Value),(.slice none 0 0 : Value),(.int .u16 0 : Value),(.int .u8 0 : Value),(.slice none 0 0 : Value)] rfl (by kernel_rfl) (by kernel_rfl) (by kernel_rfl)
   (OpenSpec.preRow_of_cond 8 hx (by kernel_rfl) (fun k hk=>by cases hk) (by kernel_rfl) (show laidMet Try.prog [] _ from laidMet_of_run' 8 (by kernel_rfl) (by kernel_rfl)))) ?_
 intro W base args ds gs before hval hW _ _ hwt _ _ _
 exact contract H enc W base args ds gs before hval hW hwt
set_option maxRecDepth 100000 in
theorem said : Rows.PayTurnedSaid:=
 OpenClaim.holds_of_cond 5 Try.f5 rfl rfl rfl rfl rfl rfl rfl ⟨rfl,rfl,rfl,rfl,rfl⟩ rfl rfl rfl rfl rfl (by kernel_rfl) Try.func5 (by kernel_rfl)
  (of_decide_eq_true (by kernel_rfl)) (by unfold Func.isWrapper; first | (rw [if_pos (by decide +kernel)]; kernel_rfl) | (rw [if_neg (by decide +kernel)]; exact ⟨rfl,rfl⟩))
  (fun os started H enc _ F=>by rw [OpenClaim.pre_eq_preRow]; exact lifted os started H enc F)
end Go.Proofs.Ytgilikgghknbhaa.payTurned
#print axioms Go.Proofs.Ytgilikgghknbhaa.payTurned.said
