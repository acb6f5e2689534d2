/- Proved: the given statement of LedgerQuiet: the law returns true for every input, and its arguments read afterwards as before. Conditions: those of the given card (what the listed variables hold when the call begins). -/
import Derived.Test.YtgilikgghknbhaaDoorCards
import Derived.Test.YtgilikgghknbhaaDoorTie
import Derived.Test.YtgilikgghknbhaaDoorMLd55
set_option linter.unusedVariables false
set_option linter.unusedSimpArgs false
set_option linter.unnecessarySimpa false

namespace Go.Proofs.YtgilikgghknbhaaDoor.ledgerQuiet
open Go.ChangeShapes Go.WideShapes Go.ChangeAt Go.RowKit Go.Sx
theorem own:ownKnob Tryd.prog.godebug=Option.none:=by kernel_rfl
theorem gTab:Tryd.prog.globalNamed "scantling/sha.table" = some 0:=by kernel_rfl
theorem gTabType:(Tryd.prog.globals[0]?).map (·.type)=some 207:=by kernel_rfl
theorem cellsT:Tryd.prog.cellsOf 207=64:=by kernel_rfl
theorem cellsE:Tryd.prog.cellsOf 32=1:=by kernel_rfl
theorem laidEq:(Rows.laid_scantling_sha_table:DataW Unit)=Lib.tabData .u32 (kTab.map fun x=>((x.toNat:Nat):Int)):=by kernel_rfl
theorem laidOut:laidOutB Tryd.prog=true:=by kernel_rfl
theorem laidGl{W:World}(h:laidMetH Tryd.prog Rows.ledgerQuietRow.laid W):∀ g d,(g,d)∈gl->g<W.heap.size/\∃ cs e fz,W.heap[g]? = some (.cells cs e fz)/\Rc W (fun x=>x) (fun _=>False) (fun _=>False) false d cs.toList []:=by
 have h1:laidMet Tryd.prog [("scantling/sha.table",Rows.laid_scantling_sha_table)] W:=h;rw[laidEq] at h1;have h2:=Lib.tabIs_of_head (rest:=[]) gTab gTabType Tryd.underlying207 Tryd.underlying32 cellsE cellsT h1;intro g d hg;simp only[gl,List.mem_cons,List.not_mem_nil,or_false,Prod.mk.injEq] at hg;obtain⟨rfl,rfl⟩:=hg;exact gl_tab32 kTab gTab (by decide) h2
set_option maxRecDepth 100000 in
theorem contract(H:Type)(enc:TypeId×Value->H)(W:World)(base:Nat)(args:Array Value)(ds gs:List (DataW H))(before:List MemPlace)
 (hval:∀ (j:Nat) t v,Tryd.f5.params[j]? = some t->args[j]? = some v->Value.okWide Tryd.prog W .any base t v)
 (hW:DataW.Whole enc Tryd.prog Tryd.f5.params.toList Rows.ledgerQuietSpec.vars false W args.toList ds gs before)
 (hwt:(DataW.weightsEach Tryd.prog (Tryd.f5.params.toList++[]) (ds++gs)).all (·<=reachBytes)=true) (hL:laidMetH Tryd.prog Rows.ledgerQuietRow.laid W) :
 Calls Tryd.prog 5 args W fun e W'=>∃ v,e=.returned v/\Rows.ledgerQuietSpec.post enc Tryd.prog Tryd.f5 false true false false W args v W':=by
 have hW':=hW;obtain⟨p,q,hA0,hV,rfl,hfz,hnd⟩:=hW;have hA:DataW.TrodAll enc Tryd.prog W 0 (fun _=>true) true Tryd.f5.params.toList args.toList ds p:=hA0;rw[Tryd.params5] at hA hval;obtain⟨v0,vs0,d0,ds0,p0,q0,hargs,rfl,rfl,h0,r0⟩:=trodAll_cons hA;obtain⟨v1,vs1,d1,ds1,p1,q1,rfl,rfl,rfl,h1,r1⟩:=trodAll_cons r0;obtain⟨v2,vs2,d2,ds2,p2,q2,rfl,rfl,rfl,h2,r2⟩:=trodAll_cons r1;obtain⟨rfl,rfl,rfl⟩:=trodAll_nil r2
 obtain rfl:args=#[v0,v1,v2]:=by cases args;simp_all
 obtain⟨rfl,rfl⟩:=trodVars_none hV;obtain⟨a0,b0,c0⟩:=Rd.arg (Rd.sl Tryd.underlying23 (by kernel_rfl) (by decide) (of_decide_eq_true (by kernel_rfl)) rd_plan) rfl (fun _ _=>rfl) (hval 0 23 v0 rfl rfl) h0 (Y5 hwt 0 23 d0 rfl rfl);obtain⟨a1,b1,c1⟩:=Rd.arg (Rd.u8 Tryd.underlying5 (by kernel_rfl)) rfl (fun _ _=>rfl) (hval 1 5 v1 rfl rfl) h1 (Y5 hwt 1 5 d1 rfl rfl);obtain⟨a2,b2,c2⟩:=Rd.arg (Rd.u32 Tryd.underlying32 (by kernel_rfl)) rfl (fun _ _=>rfl) (hval 2 32 v2 rfl rfl) h2 (Y5 hwt 2 32 d2 rfl rfl);refine AK (Ds:=[_,_,_]) laidOut (by kernel_rfl) rfl Tryd.underlying4 rfl rfl hW' (laidGl hL) rfl (fun k hk=>?_) (TW a0 b0.2 a1 a2)
 cases k with
 | zero=>exact c0
 | succ k=>
 cases k with
 | zero=>exact c1
 | succ k=>
 cases k with
 | zero=>exact c2
 | succ k=>
 exact absurd hk (by simp)
noncomputable def KO (os:Os):World:=
 { World.holding Tryd.prog os ⟨#[],#[],[]⟩ with heap:=(World.holding Tryd.prog os ⟨#[],#[],[]⟩).heap.modify 0 fun
  | .cells _ t frozen=>.cells (kTab.map fun x=>Value.int .u32 x.toNat).toArray t frozen
  | o=>o }
theorem laid_met(os:Os):laidMet Tryd.prog Rows.ledgerQuietRow.laid ((KO os).forCall (fun _ _=>0) ⟨#[],#[(.slice none 0 0:Value),(.int .u8 0:Value),(.int .u32 0:Value)],[]⟩).memory:=
 laidMet_of_run' 8 (by kernel_rfl) (by kernel_rfl)
theorem reads(os:Os){H:Type}(enc:TypeId×Value->H):∃ places,DataW.whole enc Tryd.prog ((KO os).forCall (fun _ _=>0) ⟨#[],#[(.slice none 0 0:Value),(.int .u8 0:Value),(.int .u32 0:Value)],[]⟩).memory Tryd.f5.params.toList Rows.ledgerQuietSpec.vars false #[(.slice none 0 0:Value),(.int .u8 0:Value),(.int .u32 0:Value)].toList 8=some ([.nil,.lit (.int .u8 0),.lit (.int .u32 0)],[],places):=
 ⟨[],by kernel_rfl⟩
set_option maxRecDepth 100000 in
theorem lifted(os:Os)(started:os.Started)(H:Type)(enc:TypeId×Value->H)(F:Stop.Interp) :
 ReturnsInHanded {} Tryd.checked os 5 .any ((OpenSpec.ofChange Rows.ledgerQuietSpec).preRow enc Tryd.prog Tryd.f5 Rows.ledgerQuietRow.domain false Rows.ledgerQuietRow.laid) (((OpenSpec.ofChange Rows.ledgerQuietSpec).at F).post enc Tryd.prog Tryd.f5 false true false false):=by
 obtain⟨places,hx⟩:=reads os enc;refine returnsInHanded_of_row (C:=Tryd.checked) (s:=OpenSpec.ofChange Rows.ledgerQuietSpec) own started (by kernel_rfl) Tryd.func5
  (witness_row_at (enc:=enc) (C:=Tryd.checked) false (KO os) #[(.slice none 0 0:Value),(.int .u8 0:Value),(.int .u32 0:Value)] rfl (by kernel_rfl) (by kernel_rfl) (by kernel_rfl)
   (OpenSpec.preRow_of_cond 8 hx (by kernel_rfl) (fun k hk=>by cases hk) (by kernel_rfl) (laid_met os))) ?_
 intro W base args ds gs before hval hW _ _ hwt hL _ _;exact contract H enc W base args ds gs before hval hW hwt hL
set_option maxRecDepth 100000 in
theorem said:Rows.LedgerQuietSaid:=
 OpenClaim.holds_of_cond 5 Tryd.f5 rfl rfl rfl rfl rfl rfl rfl ⟨rfl,rfl,rfl,rfl,rfl⟩ rfl rfl rfl rfl rfl (by kernel_rfl) Tryd.func5 (by kernel_rfl)
  (of_decide_eq_true (by kernel_rfl)) (by unfold Func.isWrapper;first|(rw[if_pos (by decide +kernel)];kernel_rfl)|(rw[if_neg (by decide +kernel)];exact⟨rfl,rfl⟩))
  (fun os started H enc _ F=>by rw[OpenClaim.pre_eq_preRow];exact lifted os started H enc F)
theorem plain(f:FuncId)(fn:Func)(hf:Tryd.pinned.checked.prog.funcNamed "scantling/scantlinglaw15.LedgerQuiet" = some f)(hfn:Tryd.pinned.checked.prog.funcs[f]? = some fn) :
 false=Tryd.pinned.checked.prog.looks []/\∀ (j:Nat) t,fn.params[j]? = some t->Tryd.pinned.checked.prog.wantsStandIn t=false:=by
 obtain rfl:f=5:=Option.some.inj ((show Tryd.prog.funcNamed "scantling/scantlinglaw15.LedgerQuiet" = some 5 by kernel_rfl).symm.trans hf) |>.symm
 obtain rfl:fn=Tryd.f5:=(Option.some.inj (Tryd.func5.symm.trans hfn)).symm;refine⟨by kernel_rfl,fun j t ht=>?_⟩;rw[Tryd.params5] at ht
 have hall:∀ u∈[23,5,32],Tryd.prog.wantsStandIn u=false:=by
  intro u hu;simp only[List.mem_cons,List.not_mem_nil,or_false] at hu
  rcases hu with rfl|rfl|rfl
  ·exact(show Tryd.prog.wantsStandIn 23=false by kernel_rfl)
  ·exact(show Tryd.prog.wantsStandIn 5=false by kernel_rfl)
  ·exact(show Tryd.prog.wantsStandIn 32=false by kernel_rfl)
 refine hall t ?_;have:=List.mem_of_getElem? (l:=[23,5,32]) (i:=j) (a:=t) (by simpa using ht);exact this
theorem card:Rows.LedgerQuietCardSaid:=
 Claim7.holds_tied_plain_at .later [] _ _ _ _ said (fun _ h=>by cases h) (by kernel_rfl) (fun _ h=>by cases h) ledgerQuiet_row_tie rfl ⟨rfl,rfl⟩ (by kernel_rfl) rfl plain (by kernel_rfl)
end Go.Proofs.YtgilikgghknbhaaDoor.ledgerQuiet
#print axioms Go.Proofs.YtgilikgghknbhaaDoor.ledgerQuiet.card
