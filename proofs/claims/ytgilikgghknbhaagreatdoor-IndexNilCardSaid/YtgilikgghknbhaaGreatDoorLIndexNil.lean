/- Proved: the given statement of IndexNil: the law returns true for every input, and its arguments read afterwards as before. Conditions: those of the given card (what the listed variables hold when the call begins). -/
import Derived.Test.YtgilikgghknbhaaGreatDoorCards
import Derived.Test.YtgilikgghknbhaaGreatDoorTie
import Derived.Test.YtgilikgghknbhaaGreatDoorMLzLq
set_option linter.unusedVariables false
set_option linter.unusedSimpArgs false
set_option linter.unnecessarySimpa false

namespace Go.Proofs.YtgilikgghknbhaaGreatDoor.indexNil
open Go.ChangeShapes Go.WideShapes Go.ChangeAt Go.RowKit Go.Sx
theorem own:ownKnob Tryz.prog.godebug=Option.none:=by kernel_rfl
theorem u80:Tryz.prog.globalNamed "scantling/sha.table" = some 0:=by kernel_rfl
theorem j18:(Tryz.prog.globals[0]?).map (·.type)=some 258:=by kernel_rfl
theorem u09:Tryz.prog.cellsOf 258=64:=by kernel_rfl
theorem u10:Tryz.prog.cellsOf 27=1:=by kernel_rfl
theorem w89:(Rows.laid_scantling_sha_table:DataW Unit)=Lib.tabData .u32 (kTab.map fun x=>((x.toNat:Nat):Int)):=by kernel_rfl
theorem x53:laidOutB Tryz.prog=true:=by kernel_rfl
theorem w88{W:World}(h:laidMetH Tryz.prog Rows.indexNilRow.laid W):∀ g d,(g,d)∈gl->g<W.heap.size/\∃ cs e fz,W.heap[g]? = some (.cells cs e fz)/\Rc W (fun x=>x) (fun _=>False) (fun _=>False) false d cs.toList []:=by
 have h1:laidMet Tryz.prog [("scantling/sha.table",Rows.laid_scantling_sha_table)] W:=h;rw[w89] at h1;have h2:=Lib.tabIs_of_head (rest:=[]) u80 j18 Tryz.underlying258 Tryz.underlying27 u10 u09 h1;intro g d hg;simp only[gl,List.mem_cons,List.not_mem_nil,or_false,Prod.mk.injEq] at hg;obtain⟨rfl,rfl⟩:=hg;exact j08 kTab u80 (by decide) h2
set_option maxRecDepth 100000 in
theorem contract(H:Type)(enc:TypeId×Value->H)(W:World)(base:Nat)(args:Array Value)(ds gs:List (DataW H))(before:List MemPlace)
 (hval:∀ (j:Nat) t v,Tryz.f6.params[j]? = some t->args[j]? = some v->Value.okWide Tryz.prog W .any base t v)
 (hW:DataW.Whole enc Tryz.prog Tryz.f6.params.toList Rows.indexNilSpec.vars false W args.toList ds gs before)
 (hwt:(DataW.weightsEach Tryz.prog (Tryz.f6.params.toList++[]) (ds++gs)).all (·<=reachBytes)=true) (hL:laidMetH Tryz.prog Rows.indexNilRow.laid W) :
 Calls Tryz.prog 6 args W fun e W'=>∃ v,e=.returned v/\Rows.indexNilSpec.post enc Tryz.prog Tryz.f6 false true false false W args v W':=by
 have hW':=hW;obtain⟨p,q,hA0,hV,rfl,hfz,hnd⟩:=hW;have hA:DataW.TrodAll enc Tryz.prog W 0 (fun _=>true) true Tryz.f6.params.toList args.toList ds p:=hA0;rw[Tryz.params6] at hA hval;obtain⟨v0,vs0,d0,ds0,p0,q0,hargs,rfl,rfl,h0,r0⟩:=trodAll_cons hA;obtain⟨v1,vs1,d1,ds1,p1,q1,rfl,rfl,rfl,h1,r1⟩:=trodAll_cons r0;obtain⟨v2,vs2,d2,ds2,p2,q2,rfl,rfl,rfl,h2,r2⟩:=trodAll_cons r1;obtain⟨rfl,rfl,rfl⟩:=trodAll_nil r2
 obtain rfl:args=#[v0,v1,v2]:=by cases args;simp_all
 obtain⟨rfl,rfl⟩:=trodVars_none hV;obtain⟨a0,b0,c0⟩:=q40 x32 rfl (fun _ _=>rfl) (hval 0 78 v0 rfl rfl) h0 (QZ hwt 0 78 d0 rfl rfl);obtain⟨a1,b1,c1⟩:=q40 (Rd.arr Tryz.underlying23 (by kernel_rfl) rfl (Rd.u8 Tryz.underlying5 (by kernel_rfl))) rfl (fun _ _=>rfl) (hval 1 23 v1 rfl rfl) h1 (QZ hwt 1 23 d1 rfl rfl);obtain⟨a2,b2,c2⟩:=q40 (Rd.int Tryz.underlying3 (by kernel_rfl)) rfl (fun _ _=>rfl) (hval 2 3 v2 rfl rfl) h2 (QZ hwt 2 3 d2 rfl rfl);refine VD (Ds:=[_,_,_]) x53 (by kernel_rfl) rfl Tryz.underlying4 rfl rfl hW' (w88 hL) rfl (fun k hk=>?_) (TM a0 a1 a2)
 cases k with
 | zero=>exact c0
 | succ k=>
 cases k with
 | zero=>exact c1
 | succ k=>
 cases k with
 | zero=>exact c2
 | succ k=>
 exact absurd hk (by simp)
noncomputable def BX (os:Os):World:=
 { World.holding Tryz.prog os ⟨#[],#[],[]⟩ with heap:=(World.holding Tryz.prog os ⟨#[],#[],[]⟩).heap.modify 0 fun
  | .cells _ t frozen=>.cells (kTab.map fun x=>Value.int .u32 x.toNat).toArray t frozen
  | o=>o }
theorem k91(os:Os):laidMet Tryz.prog Rows.indexNilRow.laid ((BX os).forCall (fun _ _=>0) ⟨#[],#[(.agg (List.replicate 1 (.int .u32 0:Value)++List.replicate 64 (.int .u8 0:Value)++List.replicate 3 (.int .u32 0:Value)++List.replicate 1 (.slice none 0 0:Value)).toArray:Value),(.agg #[.int .u8 0,.int .u8 0,.int .u8 0,.int .u8 0,.int .u8 0,.int .u8 0,.int .u8 0,.int .u8 0,.int .u8 0,.int .u8 0,.int .u8 0,.int .u8 0,.int .u8 0,.int .u8 0,.int .u8 0,.int .u8 0,.int .u8 0,.int .u8 0,.int .u8 0,.int .u8 0,.int .u8 0,.int .u8 0,.int .u8 0,.int .u8 0,.int .u8 0,.int .u8 0,.int .u8 0,.int .u8 0,.int .u8 0,.int .u8 0,.int .u8 0,.int .u8 0]:Value),(.int .i64 0:Value)],[]⟩).memory:=
 laidMet_of_run' 8 (by kernel_rfl) (by kernel_rfl)
theorem reads(os:Os){H:Type}(enc:TypeId×Value->H):∃ places,DataW.whole enc Tryz.prog ((BX os).forCall (fun _ _=>0) ⟨#[],#[(.agg (List.replicate 1 (.int .u32 0:Value)++List.replicate 64 (.int .u8 0:Value)++List.replicate 3 (.int .u32 0:Value)++List.replicate 1 (.slice none 0 0:Value)).toArray:Value),(.agg #[.int .u8 0,.int .u8 0,.int .u8 0,.int .u8 0,.int .u8 0,.int .u8 0,.int .u8 0,.int .u8 0,.int .u8 0,.int .u8 0,.int .u8 0,.int .u8 0,.int .u8 0,.int .u8 0,.int .u8 0,.int .u8 0,.int .u8 0,.int .u8 0,.int .u8 0,.int .u8 0,.int .u8 0,.int .u8 0,.int .u8 0,.int .u8 0,.int .u8 0,.int .u8 0,.int .u8 0,.int .u8 0,.int .u8 0,.int .u8 0,.int .u8 0,.int .u8 0]:Value),(.int .i64 0:Value)],[]⟩).memory Tryz.f6.params.toList Rows.indexNilSpec.vars false #[(.agg (List.replicate 1 (.int .u32 0:Value)++List.replicate 64 (.int .u8 0:Value)++List.replicate 3 (.int .u32 0:Value)++List.replicate 1 (.slice none 0 0:Value)).toArray:Value),(.agg #[.int .u8 0,.int .u8 0,.int .u8 0,.int .u8 0,.int .u8 0,.int .u8 0,.int .u8 0,.int .u8 0,.int .u8 0,.int .u8 0,.int .u8 0,.int .u8 0,.int .u8 0,.int .u8 0,.int .u8 0,.int .u8 0,.int .u8 0,.int .u8 0,.int .u8 0,.int .u8 0,.int .u8 0,.int .u8 0,.int .u8 0,.int .u8 0,.int .u8 0,.int .u8 0,.int .u8 0,.int .u8 0,.int .u8 0,.int .u8 0,.int .u8 0,.int .u8 0]:Value),(.int .i64 0:Value)].toList 8=some ([.agg [.agg [.lit (.int .u32 0),.agg [.lit (.int .u8 0),.lit (.int .u8 0),.lit (.int .u8 0),.lit (.int .u8 0),.lit (.int .u8 0),.lit (.int .u8 0),.lit (.int .u8 0),.lit (.int .u8 0),.lit (.int .u8 0),.lit (.int .u8 0),.lit (.int .u8 0),.lit (.int .u8 0),.lit (.int .u8 0),.lit (.int .u8 0),.lit (.int .u8 0),.lit (.int .u8 0),.lit (.int .u8 0),.lit (.int .u8 0),.lit (.int .u8 0),.lit (.int .u8 0),.lit (.int .u8 0),.lit (.int .u8 0),.lit (.int .u8 0),.lit (.int .u8 0),.lit (.int .u8 0),.lit (.int .u8 0),.lit (.int .u8 0),.lit (.int .u8 0),.lit (.int .u8 0),.lit (.int .u8 0),.lit (.int .u8 0),.lit (.int .u8 0)],.agg [.lit (.int .u8 0),.lit (.int .u8 0),.lit (.int .u8 0),.lit (.int .u8 0),.lit (.int .u8 0),.lit (.int .u8 0),.lit (.int .u8 0),.lit (.int .u8 0),.lit (.int .u8 0),.lit (.int .u8 0),.lit (.int .u8 0),.lit (.int .u8 0),.lit (.int .u8 0),.lit (.int .u8 0),.lit (.int .u8 0),.lit (.int .u8 0),.lit (.int .u8 0),.lit (.int .u8 0),.lit (.int .u8 0),.lit (.int .u8 0),.lit (.int .u8 0),.lit (.int .u8 0),.lit (.int .u8 0),.lit (.int .u8 0),.lit (.int .u8 0),.lit (.int .u8 0),.lit (.int .u8 0),.lit (.int .u8 0),.lit (.int .u8 0),.lit (.int .u8 0),.lit (.int .u8 0),.lit (.int .u8 0)],.lit (.int .u32 0),.lit (.int .u32 0),.lit (.int .u32 0)],.nil],.agg [.lit (.int .u8 0),.lit (.int .u8 0),.lit (.int .u8 0),.lit (.int .u8 0),.lit (.int .u8 0),.lit (.int .u8 0),.lit (.int .u8 0),.lit (.int .u8 0),.lit (.int .u8 0),.lit (.int .u8 0),.lit (.int .u8 0),.lit (.int .u8 0),.lit (.int .u8 0),.lit (.int .u8 0),.lit (.int .u8 0),.lit (.int .u8 0),.lit (.int .u8 0),.lit (.int .u8 0),.lit (.int .u8 0),.lit (.int .u8 0),.lit (.int .u8 0),.lit (.int .u8 0),.lit (.int .u8 0),.lit (.int .u8 0),.lit (.int .u8 0),.lit (.int .u8 0),.lit (.int .u8 0),.lit (.int .u8 0),.lit (.int .u8 0),.lit (.int .u8 0),.lit (.int .u8 0),.lit (.int .u8 0)],.lit (.int .i64 0)],[],places):=
 ⟨[],by kernel_rfl⟩
set_option maxRecDepth 100000 in
theorem lifted(os:Os)(started:os.Started)(H:Type)(enc:TypeId×Value->H)(F:Stop.Interp) :
 ReturnsInHanded {} Tryz.checked os 6 .any ((OpenSpec.ofChange Rows.indexNilSpec).preRow enc Tryz.prog Tryz.f6 Rows.indexNilRow.domain false Rows.indexNilRow.laid) (((OpenSpec.ofChange Rows.indexNilSpec).at F).post enc Tryz.prog Tryz.f6 false true false false):=by
 obtain⟨places,hx⟩:=reads os enc;refine returnsInHanded_of_row (C:=Tryz.checked) (s:=OpenSpec.ofChange Rows.indexNilSpec) own started (by kernel_rfl) Tryz.func6
  (witness_row_at (enc:=enc) (C:=Tryz.checked) false (BX os) #[(.agg (List.replicate 1 (.int .u32 0:Value)++List.replicate 64 (.int .u8 0:Value)++List.replicate 3 (.int .u32 0:Value)++List.replicate 1 (.slice none 0 0:Value)).toArray:Value),(.agg #[.int .u8 0,.int .u8 0,.int .u8 0,.int .u8 0,.int .u8 0,.int .u8 0,.int .u8 0,.int .u8 0,.int .u8 0,.int .u8 0,.int .u8 0,.int .u8 0,.int .u8 0,.int .u8 0,.int .u8 0,.int .u8 0,.int .u8 0,.int .u8 0,.int .u8 0,.int .u8 0,.int .u8 0,.int .u8 0,.int .u8 0,.int .u8 0,.int .u8 0,.int .u8 0,.int .u8 0,.int .u8 0,.int .u8 0,.int .u8 0,.int .u8 0,.int .u8 0]:Value),(.int .i64 0:Value)] rfl (by kernel_rfl) (by kernel_rfl) (by kernel_rfl)
   (OpenSpec.preRow_of_cond 8 hx (by kernel_rfl) (fun k hk=>by cases hk) (by kernel_rfl) (k91 os))) ?_
 intro W base args ds gs before hval hW _ _ hwt hL _ _;exact contract H enc W base args ds gs before hval hW hwt hL
set_option maxRecDepth 100000 in
theorem said:Rows.IndexNilSaid:=
 OpenClaim.holds_of_cond 6 Tryz.f6 rfl rfl rfl rfl rfl rfl rfl ⟨rfl,rfl,rfl,rfl,rfl⟩ rfl rfl rfl rfl rfl (by kernel_rfl) Tryz.func6 (by kernel_rfl)
  (of_decide_eq_true (by kernel_rfl)) (by unfold Func.isWrapper;first|(rw[if_pos (by decide +kernel)];kernel_rfl)|(rw[if_neg (by decide +kernel)];exact⟨rfl,rfl⟩))
  (fun os started H enc _ F=>by rw[OpenClaim.pre_eq_preRow];exact lifted os started H enc F)
theorem plain(f:FuncId)(fn:Func)(hf:Tryz.pinned.checked.prog.funcNamed "scantling/scantlinglaw16.IndexNil" = some f)(hfn:Tryz.pinned.checked.prog.funcs[f]? = some fn) :
 false=Tryz.pinned.checked.prog.looks []/\∀ (j:Nat) t,fn.params[j]? = some t->Tryz.pinned.checked.prog.wantsStandIn t=false:=by
 obtain rfl:f=6:=Option.some.inj ((show Tryz.prog.funcNamed "scantling/scantlinglaw16.IndexNil" = some 6 by kernel_rfl).symm.trans hf) |>.symm
 obtain rfl:fn=Tryz.f6:=(Option.some.inj (Tryz.func6.symm.trans hfn)).symm;refine⟨by kernel_rfl,fun j t ht=>?_⟩;rw[Tryz.params6] at ht
 have hall:∀ u∈[78,23,3],Tryz.prog.wantsStandIn u=false:=by
  intro u hu;simp only[List.mem_cons,List.not_mem_nil,or_false] at hu
  rcases hu with rfl|rfl|rfl
  ·exact(show Tryz.prog.wantsStandIn 78=false by kernel_rfl)
  ·exact(show Tryz.prog.wantsStandIn 23=false by kernel_rfl)
  ·exact(show Tryz.prog.wantsStandIn 3=false by kernel_rfl)
 refine hall t ?_;have:=List.mem_of_getElem? (l:=[78,23,3]) (i:=j) (a:=t) (by simpa using ht);exact this
theorem card:Rows.IndexNilCardSaid:=
 Claim7.holds_tied_plain_at .later [] _ _ _ _ said (fun _ h=>by cases h) (by kernel_rfl) (fun _ h=>by cases h) indexNil_row_tie rfl ⟨rfl,rfl⟩ (by kernel_rfl) rfl plain (by kernel_rfl)
end Go.Proofs.YtgilikgghknbhaaGreatDoor.indexNil
#print axioms Go.Proofs.YtgilikgghknbhaaGreatDoor.indexNil.card
