/- Proved: the given statement of ProofPlays: the law returns true for every input, and its arguments read afterwards as before. Conditions: those of the given card (what the listed variables hold when the call begins). -/
import Derived.Test.YtgilikgghknbhaaGreatDoorCards
import Derived.Test.YtgilikgghknbhaaGreatDoorTie
import Derived.Test.YtgilikgghknbhaaGreatDoorMLzPr3
set_option linter.unusedVariables false
set_option linter.unusedSimpArgs false
set_option linter.unnecessarySimpa false

namespace Go.Proofs.YtgilikgghknbhaaGreatDoor.proofPlays
open Go.ChangeShapes Go.WideShapes Go.ChangeAt Go.RowKit Go.Sx
theorem own:ownKnob Tryz.prog.godebug=Option.none:=by kernel_rfl
theorem w32:Tryz.prog.globalNamed "scantling/sha.table" = some 0:=by kernel_rfl
theorem z96:(Tryz.prog.globals[0]?).map (·.type)=some 258:=by kernel_rfl
theorem x68:Tryz.prog.cellsOf 258=64:=by kernel_rfl
theorem x69:Tryz.prog.cellsOf 27=1:=by kernel_rfl
theorem x43:(Rows.laid_scantling_sha_table:DataW Unit)=Lib.tabData .u32 (kTab.map fun x=>((x.toNat:Nat):Int)):=by kernel_rfl
theorem j05:laidOutB Tryz.prog=true:=by kernel_rfl
theorem x42{W:World}(h:laidMetH Tryz.prog Rows.proofPlaysRow.laid W):∀ g d,(g,d)∈gl->g<W.heap.size/\∃ cs e fz,W.heap[g]? = some (.cells cs e fz)/\Rc W (fun x=>x) (fun _=>False) (fun _=>False) false d cs.toList []:=by
 have h1:laidMet Tryz.prog [("scantling/sha.table",Rows.laid_scantling_sha_table)] W:=h;rw[x43] at h1;have h2:=Lib.tabIs_of_head (rest:=[]) w32 z96 Tryz.underlying258 Tryz.underlying27 x69 x68 h1;intro g d hg;simp only[gl,List.mem_cons,List.not_mem_nil,or_false,Prod.mk.injEq] at hg;obtain⟨rfl,rfl⟩:=hg;exact z94 kTab w32 (by decide) h2
set_option maxRecDepth 100000 in
theorem contract(H:Type)(enc:TypeId×Value->H)(W:World)(base:Nat)(args:Array Value)(ds gs:List (DataW H))(before:List MemPlace)
 (hval:∀ (j:Nat) t v,Tryz.f3.params[j]? = some t->args[j]? = some v->Value.okWide Tryz.prog W .any base t v)
 (hW:DataW.Whole enc Tryz.prog Tryz.f3.params.toList Rows.proofPlaysSpec.vars false W args.toList ds gs before)
 (hwt:(DataW.weightsEach Tryz.prog (Tryz.f3.params.toList++[]) (ds++gs)).all (·<=reachBytes)=true) (hL:laidMetH Tryz.prog Rows.proofPlaysRow.laid W) :
 Calls Tryz.prog 3 args W fun e W'=>∃ v,e=.returned v/\Rows.proofPlaysSpec.post enc Tryz.prog Tryz.f3 false true false false W args v W':=by
 have hW':=hW;obtain⟨p,q,hA0,hV,rfl,hfz,hnd⟩:=hW;have hA:DataW.TrodAll enc Tryz.prog W 0 (fun _=>true) true Tryz.f3.params.toList args.toList ds p:=hA0;rw[Tryz.params3] at hA hval;obtain⟨v0,vs0,d0,ds0,p0,q0,hargs,rfl,rfl,h0,r0⟩:=trodAll_cons hA;obtain⟨v1,vs1,d1,ds1,p1,q1,rfl,rfl,rfl,h1,r1⟩:=trodAll_cons r0;obtain⟨v2,vs2,d2,ds2,p2,q2,rfl,rfl,rfl,h2,r2⟩:=trodAll_cons r1;obtain⟨v3,vs3,d3,ds3,p3,q3,rfl,rfl,rfl,h3,r3⟩:=trodAll_cons r2;obtain⟨rfl,rfl,rfl⟩:=trodAll_nil r3
 obtain rfl:args=#[v0,v1,v2,v3]:=by cases args;simp_all
 obtain⟨rfl,rfl⟩:=trodVars_none hV;obtain⟨a0,b0,c0⟩:=OJ (Rd.arr Tryz.underlying23 (by kernel_rfl) rfl (Rd.u8 Tryz.underlying5 (by kernel_rfl))) rfl (fun _ _=>rfl) (hval 0 23 v0 rfl rfl) h0 (C2 hwt 0 23 d0 rfl rfl);obtain⟨a1,b1,c1⟩:=OJ (Rd.sl Tryz.underlying24 (by kernel_rfl) (by decide) (of_decide_eq_true (by kernel_rfl)) (Rd.u8 Tryz.underlying5 (by kernel_rfl))) rfl (fun _ _=>rfl) (hval 1 24 v1 rfl rfl) h1 (C2 hwt 1 24 d1 rfl rfl);obtain⟨a2,b2,c2⟩:=OJ (Rd.sl Tryz.underlying25 (by kernel_rfl) (by decide) (of_decide_eq_true (by kernel_rfl)) (Rd.arr Tryz.underlying23 (by kernel_rfl) rfl (Rd.u8 Tryz.underlying5 (by kernel_rfl)))) rfl (fun _ _=>rfl) (hval 2 25 v2 rfl rfl) h2 (C2 hwt 2 25 d2 rfl rfl);obtain⟨a3,b3,c3⟩:=OJ (Rd.int Tryz.underlying3 (by kernel_rfl)) rfl (fun _ _=>rfl) (hval 3 3 v3 rfl rfl) h3 (C2 hwt 3 3 d3 rfl rfl);refine EW (Ds:=[_,_,_,_]) j05 (by kernel_rfl) rfl Tryz.underlying4 rfl rfl hW' (x42 hL) rfl (fun k hk=>?_) (CR a0 a1 a2 a3 b0.1 b1.1 (fun h hh=>(b2.2 h hh).1) b2.1 b3)
 cases k with
 | zero=>exact c0
 | succ k=>
 cases k with
 | zero=>exact c1
 | succ k=>
 cases k with
 | zero=>exact c2
 | succ k=>
 cases k with
 | zero=>exact c3
 | succ k=>
 exact absurd hk (by simp)
noncomputable def UC (os:Os):World:=
 { World.holding Tryz.prog os ⟨#[],#[],[]⟩ with heap:=(World.holding Tryz.prog os ⟨#[],#[],[]⟩).heap.modify 0 fun
  | .cells _ t frozen=>.cells (kTab.map fun x=>Value.int .u32 x.toNat).toArray t frozen
  | o=>o }
theorem z62(os:Os):laidMet Tryz.prog Rows.proofPlaysRow.laid ((UC os).forCall (fun _ _=>0) ⟨#[],#[(.agg #[.int .u8 0,.int .u8 0,.int .u8 0,.int .u8 0,.int .u8 0,.int .u8 0,.int .u8 0,.int .u8 0,.int .u8 0,.int .u8 0,.int .u8 0,.int .u8 0,.int .u8 0,.int .u8 0,.int .u8 0,.int .u8 0,.int .u8 0,.int .u8 0,.int .u8 0,.int .u8 0,.int .u8 0,.int .u8 0,.int .u8 0,.int .u8 0,.int .u8 0,.int .u8 0,.int .u8 0,.int .u8 0,.int .u8 0,.int .u8 0,.int .u8 0,.int .u8 0]:Value),(.slice none 0 0:Value),(.slice none 0 0:Value),(.int .i64 0:Value)],[]⟩).memory:=
 laidMet_of_run' 8 (by kernel_rfl) (by kernel_rfl)
theorem reads(os:Os){H:Type}(enc:TypeId×Value->H):∃ places,DataW.whole enc Tryz.prog ((UC os).forCall (fun _ _=>0) ⟨#[],#[(.agg #[.int .u8 0,.int .u8 0,.int .u8 0,.int .u8 0,.int .u8 0,.int .u8 0,.int .u8 0,.int .u8 0,.int .u8 0,.int .u8 0,.int .u8 0,.int .u8 0,.int .u8 0,.int .u8 0,.int .u8 0,.int .u8 0,.int .u8 0,.int .u8 0,.int .u8 0,.int .u8 0,.int .u8 0,.int .u8 0,.int .u8 0,.int .u8 0,.int .u8 0,.int .u8 0,.int .u8 0,.int .u8 0,.int .u8 0,.int .u8 0,.int .u8 0,.int .u8 0]:Value),(.slice none 0 0:Value),(.slice none 0 0:Value),(.int .i64 0:Value)],[]⟩).memory Tryz.f3.params.toList Rows.proofPlaysSpec.vars false #[(.agg #[.int .u8 0,.int .u8 0,.int .u8 0,.int .u8 0,.int .u8 0,.int .u8 0,.int .u8 0,.int .u8 0,.int .u8 0,.int .u8 0,.int .u8 0,.int .u8 0,.int .u8 0,.int .u8 0,.int .u8 0,.int .u8 0,.int .u8 0,.int .u8 0,.int .u8 0,.int .u8 0,.int .u8 0,.int .u8 0,.int .u8 0,.int .u8 0,.int .u8 0,.int .u8 0,.int .u8 0,.int .u8 0,.int .u8 0,.int .u8 0,.int .u8 0,.int .u8 0]:Value),(.slice none 0 0:Value),(.slice none 0 0:Value),(.int .i64 0:Value)].toList 8=some ([.agg [.lit (.int .u8 0),.lit (.int .u8 0),.lit (.int .u8 0),.lit (.int .u8 0),.lit (.int .u8 0),.lit (.int .u8 0),.lit (.int .u8 0),.lit (.int .u8 0),.lit (.int .u8 0),.lit (.int .u8 0),.lit (.int .u8 0),.lit (.int .u8 0),.lit (.int .u8 0),.lit (.int .u8 0),.lit (.int .u8 0),.lit (.int .u8 0),.lit (.int .u8 0),.lit (.int .u8 0),.lit (.int .u8 0),.lit (.int .u8 0),.lit (.int .u8 0),.lit (.int .u8 0),.lit (.int .u8 0),.lit (.int .u8 0),.lit (.int .u8 0),.lit (.int .u8 0),.lit (.int .u8 0),.lit (.int .u8 0),.lit (.int .u8 0),.lit (.int .u8 0),.lit (.int .u8 0),.lit (.int .u8 0)],.nil,.nil,.lit (.int .i64 0)],[],places):=
 ⟨[],by kernel_rfl⟩
set_option maxRecDepth 100000 in
theorem lifted(os:Os)(started:os.Started)(H:Type)(enc:TypeId×Value->H)(F:Stop.Interp) :
 ReturnsInHanded {} Tryz.checked os 3 .any ((OpenSpec.ofChange Rows.proofPlaysSpec).preRow enc Tryz.prog Tryz.f3 Rows.proofPlaysRow.domain false Rows.proofPlaysRow.laid) (((OpenSpec.ofChange Rows.proofPlaysSpec).at F).post enc Tryz.prog Tryz.f3 false true false false):=by
 obtain⟨places,hx⟩:=reads os enc;refine returnsInHanded_of_row (C:=Tryz.checked) (s:=OpenSpec.ofChange Rows.proofPlaysSpec) own started (by kernel_rfl) Tryz.func3
  (witness_row_at (enc:=enc) (C:=Tryz.checked) false (UC os) #[(.agg #[.int .u8 0,.int .u8 0,.int .u8 0,.int .u8 0,.int .u8 0,.int .u8 0,.int .u8 0,.int .u8 0,.int .u8 0,.int .u8 0,.int .u8 0,.int .u8 0,.int .u8 0,.int .u8 0,.int .u8 0,.int .u8 0,.int .u8 0,.int .u8 0,.int .u8 0,.int .u8 0,.int .u8 0,.int .u8 0,.int .u8 0,.int .u8 0,.int .u8 0,.int .u8 0,.int .u8 0,.int .u8 0,.int .u8 0,.int .u8 0,.int .u8 0,.int .u8 0]:Value),(.slice none 0 0:Value),(.slice none 0 0:Value),(.int .i64 0:Value)] rfl (by kernel_rfl) (by kernel_rfl) (by kernel_rfl)
   (OpenSpec.preRow_of_cond 8 hx (by kernel_rfl) (fun k hk=>by cases hk) (by kernel_rfl) (z62 os))) ?_
 intro W base args ds gs before hval hW _ _ hwt hL _ _;exact contract H enc W base args ds gs before hval hW hwt hL
set_option maxRecDepth 100000 in
theorem said:Rows.ProofPlaysSaid:=
 OpenClaim.holds_of_cond 3 Tryz.f3 rfl rfl rfl rfl rfl rfl rfl ⟨rfl,rfl,rfl,rfl,rfl⟩ rfl rfl rfl rfl rfl (by kernel_rfl) Tryz.func3 (by kernel_rfl)
  (of_decide_eq_true (by kernel_rfl)) (by unfold Func.isWrapper;first|(rw[if_pos (by decide +kernel)];kernel_rfl)|(rw[if_neg (by decide +kernel)];exact⟨rfl,rfl⟩))
  (fun os started H enc _ F=>by rw[OpenClaim.pre_eq_preRow];exact lifted os started H enc F)
theorem plain(f:FuncId)(fn:Func)(hf:Tryz.pinned.checked.prog.funcNamed "scantling/scantlinglaw21.ProofPlays" = some f)(hfn:Tryz.pinned.checked.prog.funcs[f]? = some fn) :
 false=Tryz.pinned.checked.prog.looks []/\∀ (j:Nat) t,fn.params[j]? = some t->Tryz.pinned.checked.prog.wantsStandIn t=false:=by
 obtain rfl:f=3:=Option.some.inj ((show Tryz.prog.funcNamed "scantling/scantlinglaw21.ProofPlays" = some 3 by kernel_rfl).symm.trans hf) |>.symm
 obtain rfl:fn=Tryz.f3:=(Option.some.inj (Tryz.func3.symm.trans hfn)).symm;refine⟨by kernel_rfl,fun j t ht=>?_⟩;rw[Tryz.params3] at ht
 have hall:∀ u∈[23,24,25,3],Tryz.prog.wantsStandIn u=false:=by
  intro u hu;simp only[List.mem_cons,List.not_mem_nil,or_false] at hu
  rcases hu with rfl|rfl|rfl|rfl
  ·exact(show Tryz.prog.wantsStandIn 23=false by kernel_rfl)
  ·exact(show Tryz.prog.wantsStandIn 24=false by kernel_rfl)
  ·exact(show Tryz.prog.wantsStandIn 25=false by kernel_rfl)
  ·exact(show Tryz.prog.wantsStandIn 3=false by kernel_rfl)
 refine hall t ?_;have:=List.mem_of_getElem? (l:=[23,24,25,3]) (i:=j) (a:=t) (by simpa using ht);exact this
theorem card:Rows.ProofPlaysCardSaid:=
 Claim7.holds_tied_plain_at .later [] _ _ _ _ said (fun _ h=>by cases h) (by kernel_rfl) (fun _ h=>by cases h) proofPlays_row_tie rfl ⟨rfl,rfl⟩ (by kernel_rfl) rfl plain (by kernel_rfl)
end Go.Proofs.YtgilikgghknbhaaGreatDoor.proofPlays
#print axioms Go.Proofs.YtgilikgghknbhaaGreatDoor.proofPlays.card
