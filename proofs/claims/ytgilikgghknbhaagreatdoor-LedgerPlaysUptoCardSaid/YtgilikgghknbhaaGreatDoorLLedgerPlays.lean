/- Proved: the given statement of LedgerPlays: the law returns true for every input, and its arguments read afterwards as before. Conditions: those of the given card (what the listed variables hold when the call begins). -/
import Derived.Test.YtgilikgghknbhaaGreatDoorCards
import Derived.Test.YtgilikgghknbhaaGreatDoorTie
import Derived.Test.YtgilikgghknbhaaGreatDoorMLzTu2
set_option linter.unusedVariables false
set_option linter.unusedSimpArgs false
set_option linter.unnecessarySimpa false

namespace Go.Proofs.YtgilikgghknbhaaGreatDoor.ledgerPlays
open Go.ChangeShapes Go.WideShapes Go.ChangeAt Go.RowKit Go.Sx
theorem bone{H:Type}(d:DataW H):1<=Rows.uptoBulk d:=by
 cases d with
 | lit l=>cases l<;>simp[Rows.uptoBulk]
 | _=>simp[Rows.uptoBulk]
theorem ball{H:Type}(l:List (DataW H)):(l.map fun d=>Rows.uptoBulk d).sum=Rows.uptoBulkAll l:=by
 induction l with
 | nil=>simp[Rows.uptoBulkAll]
 | cons d r ih=>simp[Rows.uptoBulkAll,ih]
def bulk:Bulk where
 bk:=fun d=>Rows.uptoBulk d
 one:=bone
 sl:=fun es sp=>by simp only[Rows.uptoBulk,ball];omega
 ag:=fun ps=>by simp only[Rows.uptoBulk,ball];omega
theorem own:ownKnob Tryz.prog.godebug=Option.none:=by kernel_rfl
theorem g61:Tryz.prog.globalNamed "scantling/sha.table" = some 0:=by kernel_rfl
theorem w59:(Tryz.prog.globals[0]?).map (·.type)=some 258:=by kernel_rfl
theorem y89:Tryz.prog.cellsOf 258=64:=by kernel_rfl
theorem y90:Tryz.prog.cellsOf 27=1:=by kernel_rfl
theorem y70:(Rows.laid_scantling_sha_table:DataW Unit)=Lib.tabData .u32 (kTab.map fun x=>((x.toNat:Nat):Int)):=by kernel_rfl
theorem v10:laidOutB Tryz.prog=true:=by kernel_rfl
theorem y69{W:World}(h:laidMetH Tryz.prog Rows.ledgerPlaysRow.laid W):∀ g d,(g,d)∈gl->g<W.heap.size/\∃ cs e fz,W.heap[g]? = some (.cells cs e fz)/\Rc W (fun x=>x) (fun _=>False) (fun _=>False) false d cs.toList []:=by
 have h1:laidMet Tryz.prog [("scantling/sha.table",Rows.laid_scantling_sha_table)] W:=h;rw[y70] at h1;have h2:=Lib.tabIs_of_head (rest:=[]) g61 w59 Tryz.underlying258 Tryz.underlying27 y90 y89 h1;intro g d hg;simp only[gl,List.mem_cons,List.not_mem_nil,or_false,Prod.mk.injEq] at hg;obtain⟨rfl,rfl⟩:=hg;exact w47 kTab g61 (by decide) h2
set_option maxRecDepth 100000 in
theorem contract(H:Type)(enc:TypeId×Value->H)(W:World)(base:Nat)(args:Array Value)(ds gs:List (DataW H))(before:List MemPlace)
 (hval:∀ (j:Nat) t v,Tryz.f4.params[j]? = some t->args[j]? = some v->Value.okWide Tryz.prog W .any base t v)
 (hW:DataW.Whole enc Tryz.prog Tryz.f4.params.toList Rows.ledgerPlaysSpec.vars false W args.toList ds gs before)
 (hwt:(DataW.weightsEach Tryz.prog (Tryz.f4.params.toList++[]) (ds++gs)).all (·<=reachBytes)=true) (hL:laidMetH Tryz.prog Rows.ledgerPlaysRow.laid W) (hk:Rows.uptoBulkAll (ds++gs)<=1048576) :
 Calls Tryz.prog 4 args W fun e W'=>∃ v,e=.returned v/\Rows.ledgerPlaysSpec.post enc Tryz.prog Tryz.f4 false true false false W args v W':=by
 have hW':=hW;obtain⟨p,q,hA0,hV,rfl,hfz,hnd⟩:=hW;have hA:DataW.TrodAll enc Tryz.prog W 0 (fun _=>true) true Tryz.f4.params.toList args.toList ds p:=hA0;rw[Tryz.params4] at hA hval;obtain⟨v0,vs0,d0,ds0,p0,q0,hargs,rfl,rfl,h0,r0⟩:=trodAll_cons hA;obtain⟨v1,vs1,d1,ds1,p1,q1,rfl,rfl,rfl,h1,r1⟩:=trodAll_cons r0;obtain⟨v2,vs2,d2,ds2,p2,q2,rfl,rfl,rfl,h2,r2⟩:=trodAll_cons r1;obtain⟨v3,vs3,d3,ds3,p3,q3,rfl,rfl,rfl,h3,r3⟩:=trodAll_cons r2;obtain⟨v4,vs4,d4,ds4,p4,q4,rfl,rfl,rfl,h4,r4⟩:=trodAll_cons r3;obtain⟨rfl,rfl,rfl⟩:=trodAll_nil r4
 obtain rfl:args=#[v0,v1,v2,v3,v4]:=by cases args;simp_all
 obtain⟨rfl,rfl⟩:=trodVars_none hV;obtain⟨a0,b0,c0⟩:=v66 (u90 bulk) rfl (fun _ _=>rfl) (hval 0 37 v0 rfl rfl) h0 (L9 hwt 0 37 d0 rfl rfl);obtain⟨a1,b1,c1⟩:=q39 (Rd.sl Tryz.underlying38 (by kernel_rfl) (by decide) (of_decide_eq_true (by kernel_rfl)) u89) rfl (fun _ _=>rfl) (hval 1 38 v1 rfl rfl) h1 (L9 hwt 1 38 d1 rfl rfl);obtain⟨a2,b2,c2⟩:=q39 u88 rfl (fun _ _=>rfl) (hval 2 40 v2 rfl rfl) h2 (L9 hwt 2 40 d2 rfl rfl);obtain⟨a3,b3,c3⟩:=q39 (Rd.u8 Tryz.underlying5 (by kernel_rfl)) rfl (fun _ _=>rfl) (hval 3 5 v3 rfl rfl) h3 (L9 hwt 3 5 d3 rfl rfl);obtain⟨a4,b4,c4⟩:=q39 (Rd.arr Tryz.underlying23 (by kernel_rfl) rfl (Rd.u8 Tryz.underlying5 (by kernel_rfl))) rfl (fun _ _=>rfl) (hval 4 23 v4 rfl rfl) h4 (L9 hwt 4 23 d4 rfl rfl)
 have hb0:=Nat.le_trans b0.2 (show Rows.uptoBulk d0<=1048576 by
  simp only[List.cons_append,List.nil_append,Rows.uptoBulkAll] at hk
  omega)
 refine z30 (Ds:=[_,_,_,_,_]) v10 (by kernel_rfl) rfl Tryz.underlying4 rfl rfl hW' (y69 hL) rfl (fun k hk=>?_) (j31 a0 (k80 b0.1 hb0).1 (k80 b0.1 hb0).2 a1 b1.2 a2 a3 a4)
 cases k with
 | zero=>exact c0
 | succ k=>
 cases k with
 | zero=>exact c1
 | succ k=>
 cases k with
 | zero=>exact c2
 | succ k=>
 cases k with
 | zero=>exact c3
 | succ k=>
 cases k with
 | zero=>exact c4
 | succ k=>
 exact absurd hk (by simp)
noncomputable def NT (os:Os):World:=
 { World.holding Tryz.prog os ⟨#[],#[],[]⟩ with heap:=(World.holding Tryz.prog os ⟨#[],#[],[]⟩).heap.modify 0 fun
  | .cells _ t frozen=>.cells (kTab.map fun x=>Value.int .u32 x.toNat).toArray t frozen
  | o=>o }
theorem w20(os:Os):laidMet Tryz.prog Rows.ledgerPlaysRow.laid ((NT os).forCall (fun _ _=>0) ⟨#[],#[(.slice none 0 0:Value),(.slice none 0 0:Value),(.agg #[.int .u8 0,.int .u8 0,.int .u8 0,.int .u8 0,.bool false]:Value),(.int .u8 0:Value),(.agg #[.int .u8 0,.int .u8 0,.int .u8 0,.int .u8 0,.int .u8 0,.int .u8 0,.int .u8 0,.int .u8 0,.int .u8 0,.int .u8 0,.int .u8 0,.int .u8 0,.int .u8 0,.int .u8 0,.int .u8 0,.int .u8 0,.int .u8 0,.int .u8 0,.int .u8 0,.int .u8 0,.int .u8 0,.int .u8 0,.int .u8 0,.int .u8 0,.int .u8 0,.int .u8 0,.int .u8 0,.int .u8 0,.int .u8 0,.int .u8 0,.int .u8 0,.int .u8 0]:Value)],[]⟩).memory:=
 laidMet_of_run' 8 (by kernel_rfl) (by kernel_rfl)
theorem reads(os:Os){H:Type}(enc:TypeId×Value->H):∃ places,DataW.whole enc Tryz.prog ((NT os).forCall (fun _ _=>0) ⟨#[],#[(.slice none 0 0:Value),(.slice none 0 0:Value),(.agg #[.int .u8 0,.int .u8 0,.int .u8 0,.int .u8 0,.bool false]:Value),(.int .u8 0:Value),(.agg #[.int .u8 0,.int .u8 0,.int .u8 0,.int .u8 0,.int .u8 0,.int .u8 0,.int .u8 0,.int .u8 0,.int .u8 0,.int .u8 0,.int .u8 0,.int .u8 0,.int .u8 0,.int .u8 0,.int .u8 0,.int .u8 0,.int .u8 0,.int .u8 0,.int .u8 0,.int .u8 0,.int .u8 0,.int .u8 0,.int .u8 0,.int .u8 0,.int .u8 0,.int .u8 0,.int .u8 0,.int .u8 0,.int .u8 0,.int .u8 0,.int .u8 0,.int .u8 0]:Value)],[]⟩).memory Tryz.f4.params.toList Rows.ledgerPlaysSpec.vars false #[(.slice none 0 0:Value),(.slice none 0 0:Value),(.agg #[.int .u8 0,.int .u8 0,.int .u8 0,.int .u8 0,.bool false]:Value),(.int .u8 0:Value),(.agg #[.int .u8 0,.int .u8 0,.int .u8 0,.int .u8 0,.int .u8 0,.int .u8 0,.int .u8 0,.int .u8 0,.int .u8 0,.int .u8 0,.int .u8 0,.int .u8 0,.int .u8 0,.int .u8 0,.int .u8 0,.int .u8 0,.int .u8 0,.int .u8 0,.int .u8 0,.int .u8 0,.int .u8 0,.int .u8 0,.int .u8 0,.int .u8 0,.int .u8 0,.int .u8 0,.int .u8 0,.int .u8 0,.int .u8 0,.int .u8 0,.int .u8 0,.int .u8 0]:Value)].toList 8=some ([.nil,.nil,.agg [.lit (.int .u8 0),.lit (.int .u8 0),.lit (.int .u8 0),.lit (.int .u8 0),.lit (.bool false)],.lit (.int .u8 0),.agg [.lit (.int .u8 0),.lit (.int .u8 0),.lit (.int .u8 0),.lit (.int .u8 0),.lit (.int .u8 0),.lit (.int .u8 0),.lit (.int .u8 0),.lit (.int .u8 0),.lit (.int .u8 0),.lit (.int .u8 0),.lit (.int .u8 0),.lit (.int .u8 0),.lit (.int .u8 0),.lit (.int .u8 0),.lit (.int .u8 0),.lit (.int .u8 0),.lit (.int .u8 0),.lit (.int .u8 0),.lit (.int .u8 0),.lit (.int .u8 0),.lit (.int .u8 0),.lit (.int .u8 0),.lit (.int .u8 0),.lit (.int .u8 0),.lit (.int .u8 0),.lit (.int .u8 0),.lit (.int .u8 0),.lit (.int .u8 0),.lit (.int .u8 0),.lit (.int .u8 0),.lit (.int .u8 0),.lit (.int .u8 0)]],[],places):=
 ⟨[],by kernel_rfl⟩
set_option maxRecDepth 100000 in
theorem lifted(os:Os)(started:os.Started)(H:Type)(enc:TypeId×Value->H)(F:Stop.Interp) :
 ReturnsInHanded {} Tryz.checked os 4 .any ((Rows.OpenSpec.upto Rows.ledgerPlaysSpec).preRow enc Tryz.prog Tryz.f4 Rows.ledgerPlaysUptoRow.domain false Rows.ledgerPlaysUptoRow.laid) (((Rows.OpenSpec.upto Rows.ledgerPlaysSpec).at F).post enc Tryz.prog Tryz.f4 false true false false):=by
 obtain⟨places,hx⟩:=reads os enc;refine returnsInHanded_of_row (C:=Tryz.checked) (s:=Rows.OpenSpec.upto Rows.ledgerPlaysSpec) own started (by kernel_rfl) Tryz.func4
  (witness_row_at (enc:=enc) (C:=Tryz.checked) false (NT os) #[(.slice none 0 0:Value),(.slice none 0 0:Value),(.agg #[.int .u8 0,.int .u8 0,.int .u8 0,.int .u8 0,.bool false]:Value),(.int .u8 0:Value),(.agg #[.int .u8 0,.int .u8 0,.int .u8 0,.int .u8 0,.int .u8 0,.int .u8 0,.int .u8 0,.int .u8 0,.int .u8 0,.int .u8 0,.int .u8 0,.int .u8 0,.int .u8 0,.int .u8 0,.int .u8 0,.int .u8 0,.int .u8 0,.int .u8 0,.int .u8 0,.int .u8 0,.int .u8 0,.int .u8 0,.int .u8 0,.int .u8 0,.int .u8 0,.int .u8 0,.int .u8 0,.int .u8 0,.int .u8 0,.int .u8 0,.int .u8 0,.int .u8 0]:Value)] rfl (by kernel_rfl) (by kernel_rfl) (by kernel_rfl)
   (OpenSpec.preRow_of_cond 8 hx (by kernel_rfl) (fun k hk=>by cases hk;kernel_rfl) (by kernel_rfl) (w20 os))) ?_
 intro W base args ds gs before hval hW _ hcond hwt hL _ _;exact contract H enc W base args ds gs before hval hW hwt hL (of_decide_eq_true (hcond _ rfl))
set_option maxRecDepth 100000 in
theorem said:Rows.LedgerPlaysUptoSaid:=
 OpenClaim.holds_of_cond 4 Tryz.f4 rfl rfl rfl rfl rfl rfl rfl ⟨rfl,rfl,rfl,rfl,rfl⟩ rfl rfl rfl rfl rfl (by kernel_rfl) Tryz.func4 (by kernel_rfl)
  (of_decide_eq_true (by kernel_rfl)) (by unfold Func.isWrapper;first|(rw[if_pos (by decide +kernel)];kernel_rfl)|(rw[if_neg (by decide +kernel)];exact⟨rfl,rfl⟩))
  (fun os started H enc _ F=>by rw[OpenClaim.pre_eq_preRow];exact lifted os started H enc F)
theorem plain(f:FuncId)(fn:Func)(hf:Tryz.pinned.checked.prog.funcNamed "scantling/scantlinglaw15.LedgerPlays" = some f)(hfn:Tryz.pinned.checked.prog.funcs[f]? = some fn) :
 false=Tryz.pinned.checked.prog.looks []/\∀ (j:Nat) t,fn.params[j]? = some t->Tryz.pinned.checked.prog.wantsStandIn t=false:=by
 obtain rfl:f=4:=Option.some.inj ((show Tryz.prog.funcNamed "scantling/scantlinglaw15.LedgerPlays" = some 4 by kernel_rfl).symm.trans hf) |>.symm
 obtain rfl:fn=Tryz.f4:=(Option.some.inj (Tryz.func4.symm.trans hfn)).symm;refine⟨by kernel_rfl,fun j t ht=>?_⟩;rw[Tryz.params4] at ht
 have hall:∀ u∈[37,38,40,5,23],Tryz.prog.wantsStandIn u=false:=by
  intro u hu;simp only[List.mem_cons,List.not_mem_nil,or_false] at hu
  rcases hu with rfl|rfl|rfl|rfl|rfl
  ·exact(show Tryz.prog.wantsStandIn 37=false by kernel_rfl)
  ·exact(show Tryz.prog.wantsStandIn 38=false by kernel_rfl)
  ·exact(show Tryz.prog.wantsStandIn 40=false by kernel_rfl)
  ·exact(show Tryz.prog.wantsStandIn 5=false by kernel_rfl)
  ·exact(show Tryz.prog.wantsStandIn 23=false by kernel_rfl)
 refine hall t ?_;have:=List.mem_of_getElem? (l:=[37,38,40,5,23]) (i:=j) (a:=t) (by simpa using ht);exact this
theorem card:Rows.LedgerPlaysUptoCardSaid:=
 Claim7.holds_tied_plain_at .later [] _ _ _ _ said (fun _ h=>by cases h) (by kernel_rfl) (fun _ h=>by cases h) ledgerPlaysUpto_row_tie rfl ⟨rfl,rfl⟩ (by kernel_rfl) rfl plain (by kernel_rfl)
end Go.Proofs.YtgilikgghknbhaaGreatDoor.ledgerPlays
#print axioms Go.Proofs.YtgilikgghknbhaaGreatDoor.ledgerPlays.card
