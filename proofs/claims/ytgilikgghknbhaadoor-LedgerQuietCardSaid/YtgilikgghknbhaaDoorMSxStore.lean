/- Proved: what functions of the given program compute (used by the theorem of this claim). Conditions: none but those that each theorem states. -/
import Derived.Test.YtgilikgghknbhaaDoorMSxCore
import Derived.Orders
import Derived.Laws.AppendOwn
import Derived.Laws.OwnMore
import Derived.Laws.MakeOwn
set_option linter.unusedVariables false
set_option linter.unusedSimpArgs false
set_option linter.unnecessarySimpa false

namespace Go.Sx
variable{pos:String}{aft:Array Edge}{g:Option (Nat×Bool)}
variable{P:Program}{C:Ctx}{σ σ' σ1:Sg}{a:Act}{w w':World}{ρ:Nat->Nat}{Fe Fe' Fb:Nat->List Nat}
theorem SR_box{G G' L L':Nat->Prop}{u id:Nat}{d:D}{F:List Nat}(h:SR w ρ G L a u d F)
 (hh:∀ b,(G b∨b∈F)->b<w.heap.size->w'.heap[b]? = w.heap[b]?) (hg:∀ b,G b->b<w.heap.size->G' b) (hL:∀ i,L i->L' i)
 (hc:∀ i off v,i≠id->L i->w.cell? ⟨ρ i,off,none⟩=some v->w'.cell? ⟨ρ i,off,none⟩=some v) :
 SR w' ρ G' L' a u (H3 id d) F:=by
 have hL2:∀ i,L i->L' i/\ρ i=ρ i:=fun i hi=>⟨hL i hi,rfl⟩
 cases d with
 | al s=>exact h
 | alb i off path=>
  obtain⟨hF,hid,x,hx,hs⟩:=h;simp only[H3];by_cases hi:i=id
  ·subst hi;simp only[Nat.beq_refl,cond_true];exact⟨hF,x,hx⟩
  ·simp only[nbeq hi,cond_false];exact⟨hF,hL i hid,x,hx,hc i off x hi hid hs⟩
 | vw s z lo n=>exact h
 | va i off z n path lo=>exact⟨h.1,hL i h.2.1,h.2.2⟩
 | ep s z i off path=>exact h
 | tup ds=>
  obtain⟨vs,Fs,h1,h2,h3,h4⟩:=h;refine⟨vs,Fs,h1,h2,h3,fun k hk=>(h4 k hk).imp (fun hx=>hx) fun hx=>⟨hx.1,hx.2.mono (fun b hb=>hh b (hb.imp (fun hx=>hx) fun hm=>?_)) hg hL2⟩⟩;rw[h3];exact List.mem_flatMap.2 ⟨k,List.mem_range.2 hk,hm⟩
 | dead=>exact h
 | _=>obtain⟨x,hx,hr⟩:=h;exact⟨x,hx,hr.mono hh hg hL2⟩
theorem StW.putB{id:Nat}{x:Bx}{y:Bx}{F':List Nat}(h:StW C σ a w ρ Fe Fb)(hbox:σ.box id=some y)
 (hn:σ1.n=σ.n) (hbx:σ1.bx=σ.bx)
 (hgets:∀ u d,σ1.get u=some d->(σ.get u=some d/\Fe' u=Fe u)∨(d=.dead/\Fe' u=[]/\∃ v,a.tmps[u]? = some v))
 (hnone:∀ u,σ1.get u=none->Fe' u=[]) (hFe:∀ u,Fe' u=Fe u∨Fe' u=[])
 (hos:w'.os=w.os) (htape:TpR w' w) (hout:w'.output=w.output) (hsize:w'.heap.size=w.heap.size)
 (hblk:∀ b,b≠ρ id->w'.heap[b]? = w.heap[b]?)
 (hF':F'.Nodup) (hin:ρ id∈F') (hsub:∀ b∈F',b∈Fb id∨∃ s,b∈Fe s/\Fe' s=[])
 (hx:BR w' ρ (gd C Fe' (upd Fb id F')) (fun i=>(σ.box i).isSome) (ρ id) x F') :
 StW C (σ1.putB id x) a w' ρ Fe' (upd Fb id F'):=by
 have hmem:ρ id∈Fb id:=(h.bx id y hbox).mem
 have ho:∀ b,own Fe' (upd Fb id F') b->own Fe Fb b:=by
  rintro b (⟨u,hu⟩|⟨i,hi⟩)
  ·rcases hFe u with h1|h1
   ·rw[h1] at hu;exact .inl ⟨u,hu⟩
   ·rw[h1] at hu;cases hu
  ·by_cases hid:i=id
   ·subst hid;rw[j3] at hi
    rcases hsub b hi with h1|⟨s,h1,_⟩
    ·exact .inr ⟨i,h1⟩
    ·exact .inl ⟨s,h1⟩
   ·rw[q8 hid] at hi;exact .inr ⟨i,hi⟩
 have hg:∀ b,gd C Fe Fb b->b<w.heap.size->gd C Fe' (upd Fb id F') b:=fun b hb _=>⟨hb.1,fun hc=>hb.2 (ho b hc)⟩
 have hh:∀ b,gd C Fe Fb b->w'.heap[b]? = w.heap[b]?:=fun b hb=>hblk b (fun e=>hb.2 (.inr ⟨id,e▸hmem⟩))
 have hb1:∀ i,(σ1.putB id x).box i=if i=id then some x else σ.box i:=fun i=>by
  rw[F9]
  have:σ1.box i=σ.box i:=by simp[Sg.box,hbx]
  rw[this];by_cases hi:i=id
  ·subst hi;simp[hbox]
  ·simp[hi]
 have hL:∀ i,(σ.box i).isSome=true->((σ1.putB id x).box i).isSome=true:=fun i hi=>by
  rw[hb1];by_cases hid:i=id
  ·simp[hid]
  ·simpa [hid] using hi
 have hL':∀ i,((σ1.putB id x).box i).isSome=true->(σ.box i).isSome=true:=fun i hi=>by
  rw[hb1] at hi;by_cases hid:i=id
  ·subst hid;simp[hbox]
  ·simpa [hid] using hi
 have hc:∀ i off v,i≠id->(σ.box i).isSome=true->w.cell? ⟨ρ i,off,none⟩=some v->w'.cell? ⟨ρ i,off,none⟩=some v:=by
  intro i off v hi hs hv;rw[<- hv];refine World.cell?_of_block (hblk _ ?_);intro e
  cases hb:σ.box i with
  | none=>simp[hb] at hs
  | some z=>exact h.dBB i id hi _ (h.bx i z hb).mem (by show ρ i∈Fb id;rw[show ρ i=ρ id from e];exact hmem)
 refine⟨h.size.trans (by simp[hn]),h.defs,fun i b hp=>⟨(h.pin i b hp).1,hL i (h.pin i b hp).2⟩, ?_, ?_, ?_, ?_, ?_, ?_, ?_, ?_, ?_, ?_, ?_,hos.trans h.os,htape.trans h.tape,hout.trans h.output,by rw[hsize];exact h.grown,h.gl,fun b hb=>h.okN b (by rw[hsize] at hb;exact hb),fun b hb=>h.okO b (ho b hb)⟩
 ·intro u d hd;rw[Y2] at hd;obtain⟨d0,hd0,rfl⟩:=Option.map_eq_some_iff.1 hd
  rcases hgets u d0 hd0 with ⟨h1,h2⟩|⟨rfl,h2,h3⟩
  ·rw[h2]
   exact SR_box (h.env u d0 h1) (fun b hb hl=>by
    rcases hb with hb|hb
    ·exact hh b hb
    ·exact hblk b (fun e=>h.dEB u id b hb (e▸hmem))) hg hL hc
  ·exact⟨h2,h3⟩
 ·intro u hu;rw[Y2,Option.map_eq_none_iff] at hu;exact hnone u hu
 ·intro i z hz;rw[hb1] at hz;by_cases hid:i=id
  ·subst hid;simp at hz;subst hz;rw[j3];refine hx.mono (fun _ _ _=>rfl) (fun b hb _=>hb) (fun j hj=>⟨hL j hj,rfl⟩)
  ·simp only[hid,if_false] at hz;rw[q8 hid];refine(h.bx i z hz).mono (fun b hb _=>?_) hg (fun j hj=>⟨hL j hj,rfl⟩)
   rcases hb with hb|hb
   ·exact hh b hb
   ·exact hblk b (fun e=>h.dBB i id hid b hb (e▸hmem))
 ·intro i hi;rw[hb1] at hi;by_cases hid:i=id
  ·simp[hid] at hi
  ·simp only[hid,if_false] at hi;rw[q8 hid];exact h.bxN i hi
 ·intro u
  rcases hFe u with h1|h1
  ·rw[h1];exact h.nodE u
  ·rw[h1];exact List.nodup_nil
 ·intro i;by_cases hid:i=id
  ·subst hid;simpa using hF'
  ·rw[q8 hid];exact h.nodB i
 ·intro u u' huu b hb hb'
  rcases hFe u with h1|h1
  ·rcases hFe u' with h2|h2
   ·rw[h1] at hb;rw[h2] at hb';exact h.dEE u u' huu b hb hb'
   ·rw[h2] at hb';cases hb'
  ·rw[h1] at hb;cases hb
 ·intro u i b hb hb'
  have hbu:b∈Fe u:=by
   rcases hFe u with h1|h1
   ·rwa [h1] at hb
   ·rw[h1] at hb;cases hb
  by_cases hid:i=id
  ·subst hid;rw[j3] at hb'
   rcases hsub b hb' with h1|⟨s,h1,h2⟩
   ·exact h.dEB u i b hbu h1
   ·by_cases hus:u=s
    ·subst hus;rw[h2] at hb;cases hb
    ·exact h.dEE u s hus b hbu h1
  ·rw[q8 hid] at hb';exact h.dEB u i b hbu hb'
 ·have key:∀ i,i≠id->∀ b,b∈F'->b∉Fb i:=fun i hi b hb hb'=>by
   rcases hsub b hb with h1|⟨s,h1,_⟩
   ·exact h.dBB i id hi b hb' h1
   ·exact h.dEB s i b h1 hb'
  intro i i' hii b hb hb';by_cases hid:i=id
  ·subst hid;rw[j3] at hb;rw[q8 (fun e=>hii e.symm)] at hb';exact key i' (fun e=>hii e.symm) b hb hb'
  ·by_cases hid':i'=id
   ·subst hid';rw[j3] at hb';rw[q8 hid] at hb;exact key i hid b hb' hb
   ·rw[q8 hid] at hb;rw[q8 hid'] at hb';exact h.dBB i i' hii b hb hb'
 ·intro b hb;exact h.new b (ho b hb)
 ·intro b hk;have:=h.kept b hk;exact⟨(hblk b (fun e=>h.new b (.inr ⟨id,e▸hmem⟩) hk)).trans this.1,this.2⟩
theorem OpS.skip{o:Oper}(hd:o.dst=none)(h:∀ a w,St C σ a w->∃ w',(execOp a.eval o).run P w=.ok .skip w'/\St C σ' a w'):OpS P C o σ σ':=by
 intro a w hs K Q hK;obtain⟨w',hr,hs'⟩:=h a w hs;refine Z7 hr (by simp) ?_;simp only[Oper.uponIn,hd,Act.put];exact hK _ _ hs'
theorem M3{ty n:Nat}{g:Bool}[LdT P ty n g]{v:Value}{b off e:Nat}{cs:Array Value}(hb:w.heap[b]? = some (.cells cs e (0,0)))(hn:v.cells.size=n)
 (hs:off+n<=cs.size) (h1:∀ u∈v.cells.toList,u.oneCell'=true) :
 (storeVar ty ⟨b,off,none⟩ v).run P w=.ok () (w.setRow b (cs.toList.take off++v.cells.toList++cs.toList.drop (off+v.cells.toList.length)).toArray):=by
 have:=run_storeCells_at P b off e v.cells.toList 0 cs w hb (by simp;omega) h1;simp only[Nat.add_zero] at this;simp[storeVar,LdT.size (P:=P) (t:=ty),hn,this]
theorem R.st{p id off:Nat}{path:List Nat}{x:Operand}{d0 d1 d' dx:D}{ty n rt:TypeId}{gg:Bool}[LdT P ty n gg]
 (h:σ.get p=some (.ptr id off path)) (hb:σ.box id=some (.var d0)) (hl:d0.loc path=some (off,d1)) (hx:ev C.gl σ x=some dx) (hp:dx.pur=true) (hnp:dx.np=true)
 (hn:dx.sz=n) (hz:dx.sz=d1.sz) (hu:d0.upd path dx=some d') :
 OpS P C ⟨none,.store ty (.tmp p) x,rt,pos,aft,g⟩ σ (σ.putB id (.var d')):=by
 refine OpS.skip rfl fun a w ⟨ρ,Fe,Fb,st⟩=>?_;obtain⟨v,hv,hr⟩:=(j2 rfl).1 (st.env _ _ h);simp only[VR,D.isAgg,Bool.false_eq_true,if_false] at hr;generalize Fe p=F at hr;cases hr;obtain⟨cs,e,F',hb',hr,hFb⟩:=st.bx _ _ hb;obtain⟨Fx,hvx,_⟩:=c3 st hx (c6 hp);have hFx:=hvx.pur hp;subst hFx
 have hdead:dx≠.dead:=by rintro rfl;simp[D.pur] at hp
 have hxc:=hvx.cells hdead;obtain⟨_,_,_,h3⟩:=hr.loc hl
 have hnd:F'.Nodup:=by have:=st.nodB id;rw[hFb] at this;exact(List.nodup_cons.1 this).2
 obtain⟨F2,g1,g2,g3,g4,g5⟩:=hr.upd hl hu hz (hxc.unflag hnp) hnd List.nodup_nil (by simp) (.inl rfl);have hlen:=hxc.len
 have hvs:(a.eval x).cells.size=n:=by simp at hlen;omega
 have hbnd:off+n<=cs.size:=by simp at h3;omega
 refine⟨w.setRow (ρ id) (cs.toList.take off++(a.eval x).cells.toList++cs.toList.drop (off+(a.eval x).cells.toList.length)).toArray, ?_,ρ,Fe,_,st.putB (Fe':=Fe) (σ1:=σ) (F':=ρ id::F2) hb rfl rfl (fun u d hd=>.inl ⟨hd,rfl⟩) st.envN (fun u=>.inl rfl) rfl ⟨rfl,Nat.le_refl _⟩ rfl (by simp)
  (fun b hbne=>setRow_other w (ρ id) b _ hbne) ?_ (by simp) ?_ ?_⟩
 ·unfold execOp;simp only[Instr.storeAt,Instr.sureAddr,w3 hv,Sem.run_bind,Sem.run_pure,Result.andThen_ok,M3 (P:=P) (ty:=ty) hb' hvs hbnd hxc.one]
 ·refine List.nodup_cons.2 ⟨fun hm=>?_,g3⟩;have:=st.nodB id;rw[hFb] at this
  rcases g2 _ hm with h4|h4
  ·exact(List.nodup_cons.1 this).1 h4
  ·cases h4
 ·intro b hbm
  rcases List.mem_cons.1 hbm with rfl|hm
  ·exact .inl (by rw[hFb];simp)
  ·rcases g2 b hm with h4|h4
   ·exact .inl (by rw[hFb];exact List.mem_cons_of_mem _ h4)
   ·cases h4
 ·refine⟨_,e,F2,setRow_heap w (ρ id) cs _ e (0,0) hb', ?_,rfl⟩;simp only;refine g1.mono (fun b hbb _=>setRow_other w (ρ id) b _ ?_) (fun b hbb _=>⟨hbb.1,fun ho=>hbb.2 ?_⟩) (fun i hi=>⟨hi,rfl⟩)
  ·rintro rfl
   rcases hbb with hbb|hbb
   ·exact hbb.2 (.inr ⟨id,by rw[hFb];simp⟩)
   ·have:=st.nodB id;rw[hFb] at this
    rcases g2 _ hbb with h4|h4
    ·exact(List.nodup_cons.1 this).1 h4
    ·cases h4
  ·rcases ho with ⟨u,hu⟩|⟨i,hi⟩
   ·exact .inl ⟨u,hu⟩
   ·by_cases hid:i=id
    ·subst hid;rw[j3] at hi;refine .inr ⟨i, ?_⟩;rw[hFb]
     rcases List.mem_cons.1 hi with rfl|hm
     ·simp
     ·rcases g2 b hm with h4|h4
      ·exact List.mem_cons_of_mem _ h4
      ·cases h4
    ·rw[q8 hid] at hi;exact .inr ⟨i,hi⟩
theorem R.stO{p s id off:Nat}{path:List Nat}{d0 d1 d' dx:D}{ty n rt:TypeId}{gg:Bool}[LdT P ty n gg]
 (h:σ.get p=some (.ptr id off path)) (hb:σ.box id=some (.var d0)) (hl:d0.loc path=some (off,d1)) (hx:σ.get s=some dx) (hrf:dx.isRef=false) (hnp:dx.np=true)
 (hn:dx.sz=n) (hz:dx.sz=d1.sz) (hu:d0.upd path dx=some d') (hna:d0.noArr path=true) :
 OpS P C ⟨none,.store ty (.tmp p) (.tmp s),rt,pos,aft,g⟩ σ ((σ.kill s).putB id (.var d')):=by
 refine OpS.skip rfl fun a w ⟨ρ,Fe,Fb,st⟩=>?_;obtain⟨v,hv,hr⟩:=(j2 rfl).1 (st.env _ _ h);simp only[VR,D.isAgg,Bool.false_eq_true,if_false] at hr;generalize Fe p=F at hr;cases hr;obtain⟨cs,e,F',hb',hr,hFb⟩:=st.bx _ _ hb;obtain⟨vx,hvx0,hvx⟩:=(j2 hrf).1 (st.env _ _ hx)
 have hdead:dx≠.dead:=by rintro rfl;simp[D.isRef] at hrf
 have hxc:=hvx.cells hdead;obtain⟨_,_,_,h3⟩:=hr.loc hl
 have hnd:F'.Nodup:=by have:=st.nodB id;rw[hFb] at this;exact(List.nodup_cons.1 this).2
 have hdis:∀ b∈Fe s,b∉ρ id::F':=fun b hb' hb2=>by rw[<- hFb] at hb2;exact st.dEB s id b hb' hb2
 obtain⟨F2,g1,g2,g3,g4,g5⟩:=hr.upd hl hu hz (hxc.unflag hnp) hnd (st.nodE s) (fun b hb' hb2=>hdis b hb' (List.mem_cons_of_mem _ hb2)) (.inr hna);have hlen:=hxc.len
 have hvs:vx.cells.size=n:=by simp at hlen;omega
 have hbnd:off+n<=cs.size:=by simp at h3;omega
 have hnotin:ρ id∉F2:=fun hm=>by
  have:=st.nodB id;rw[hFb] at this
  rcases g2 _ hm with h4|h4
  ·exact(List.nodup_cons.1 this).1 h4
  ·exact hdis _ h4 (by simp)
 refine⟨w.setRow (ρ id) (cs.toList.take off++vx.cells.toList++cs.toList.drop (off+vx.cells.toList.length)).toArray, ?_,ρ,upd Fe s [],_,st.putB (Fe':=upd Fe s []) (σ1:=σ.kill s) (F':=ρ id::F2) hb rfl rfl ?_ ?_ ?_ rfl ⟨rfl,Nat.le_refl _⟩ rfl (by simp)
  (fun b hbne=>setRow_other w (ρ id) b _ hbne) ?_ (by simp) ?_ ?_⟩
 ·unfold execOp;simp only[Instr.storeAt,Instr.sureAddr,w3 hv,w3 hvx0,Sem.run_bind,Sem.run_pure,Result.andThen_ok,M3 (P:=P) (ty:=ty) hb' hvs hbnd hxc.one]
 ·intro u d hd;rw[O0] at hd;by_cases hus:u=s
  ·subst hus;simp at hd;exact .inr ⟨hd.symm,by simp,vx,hvx0⟩
  ·simp only[hus,if_false] at hd;exact .inl ⟨hd,q8 hus⟩
 ·intro u hu;rw[O0] at hu;by_cases hus:u=s
  ·simp[hus] at hu
  ·simp only[hus,if_false] at hu;rw[q8 hus];exact st.envN u hu
 ·intro u;by_cases hus:u=s
  ·subst hus;exact .inr (by simp)
  ·exact .inl (q8 hus)
 ·exact List.nodup_cons.2 ⟨hnotin,g3⟩
 ·intro b hbm
  rcases List.mem_cons.1 hbm with rfl|hm
  ·exact .inl (by rw[hFb];simp)
  ·rcases g2 b hm with h4|h4
   ·exact .inl (by rw[hFb];exact List.mem_cons_of_mem _ h4)
   ·exact .inr ⟨s,h4,by simp⟩
 ·refine⟨_,e,F2,setRow_heap w (ρ id) cs _ e (0,0) hb', ?_,rfl⟩;simp only;refine g1.mono (fun b hbb _=>setRow_other w (ρ id) b _ ?_) (fun b hbb _=>⟨hbb.1,fun ho=>hbb.2 ?_⟩) (fun i hi=>⟨hi,rfl⟩)
  ·rintro rfl
   rcases hbb with hbb|hbb
   ·exact hbb.2 (.inr ⟨id,by rw[hFb];simp⟩)
   ·exact hnotin hbb
  ·rcases ho with ⟨u,hu⟩|⟨i,hi⟩
   ·by_cases hus:u=s
    ·subst hus;simp at hu
    ·rw[q8 hus] at hu;exact .inl ⟨u,hu⟩
   ·by_cases hid:i=id
    ·subst hid;rw[j3] at hi
     rcases List.mem_cons.1 hi with rfl|hm
     ·exact .inr ⟨i,by rw[hFb];simp⟩
     ·rcases g2 b hm with h4|h4
      ·exact .inr ⟨i,by rw[hFb];exact List.mem_cons_of_mem _ h4⟩
      ·exact .inl ⟨s,h4⟩
    ·rw[q8 hid] at hi;exact .inr ⟨i,hi⟩
end Go.Sx

namespace Go.Sx
variable{pos:String}{aft:Array Edge}{g:Option (Nat×Bool)}
variable{P:Program}{C:Ctx}{σ σ' σ1:Sg}{a:Act}{w w':World}{ρ:Nat->Nat}{Fe Fe' Fb:Nat->List Nat}
def CR(ρ:Nat->Nat)(id b:Nat):Nat->Nat:=fun i=>if i=id then b else ρ i
@[simp] theorem TK (ρ:Nat->Nat) (id b:Nat):CR ρ id b id=b:=by simp[CR]
theorem l5{ρ:Nat->Nat}{id b i:Nat}(h:i≠id):CR ρ id b i=ρ i:=by simp[CR,h]
theorem StW.newB{id:Nat}{x:Bx}{o:Obj}(h:StW C σ a w ρ Fe Fb)(hid:σ.box id=none)
 (hx:BR (w.alloc o) (CR ρ id w.heap.size) (gd C Fe (upd Fb id [w.heap.size])) (fun i=>((σ.newB id x).box i).isSome) w.heap.size x [w.heap.size]) :
 StW C (σ.newB id x) a (w.alloc o) (CR ρ id w.heap.size) Fe (upd Fb id [w.heap.size]):=by
 have hlt:=h.lt;have hext:=Ext.alloc w o
 have hg:∀ b,gd C Fe Fb b->b<w.heap.size->gd C Fe (upd Fb id [w.heap.size]) b:=by
  rintro b ⟨hok,hb⟩ hl;refine⟨hok, ?_⟩;rintro (⟨u,hu⟩|⟨i,hi⟩)
  ·exact hb (.inl ⟨u,hu⟩)
  ·by_cases hii:i=id
   ·subst hii;simp at hi;omega
   ·rw[q8 hii] at hi;exact hb (.inr ⟨i,hi⟩)
 have hL:∀ i,(σ.box i).isSome=true->((σ.newB id x).box i).isSome=true/\CR ρ id w.heap.size i=ρ i:=by
  intro i hi
  have hii:i≠id:=by rintro rfl;simp[hid] at hi
  exact⟨by rw[O3];simp[show ¬ id=i from fun e=>hii e.symm,hi],l5 hii⟩
 have hh:∀ b,b<w.heap.size->(w.alloc o).heap[b]? = w.heap[b]?:=hext.block;have hFid:=h.bxN id hid;refine⟨h.size,h.defs,fun i b hp=>⟨(hL i (h.pin i b hp).2).2.trans (h.pin i b hp).1,(hL i (h.pin i b hp).2).1⟩, ?_,h.envN, ?_, ?_,h.nodE, ?_,h.dEE, ?_, ?_, ?_, ?_,h.os,⟨h.tape.tp,h.tape.dr⟩,h.output,Nat.le_trans h.grown hext.size,h.gl,fun b hb=>h.okN b (Nat.le_trans hext.size hb), ?_⟩
 ·intro u d hd;have hs:=h.env u d hd
  cases d with
  | al s=>exact hs
  | alb i off path=>exact⟨hs.1,(hL i hs.2.1).1,by obtain⟨v,h1,h2⟩:=hs.2.2;exact⟨v,h1,by rw[(hL i hs.2.1).2];exact hext.cell h2⟩⟩
  | vw s z lo n=>exact hs
  | va i off z n path lo=>exact⟨hs.1,(hL i hs.2.1).1,by rw[(hL i hs.2.1).2];exact hs.2.2⟩
  | ep s z i off path=>exact hs
  | tup ds=>
   obtain⟨vs,Fs,h1,h2,h3,h4⟩:=hs;exact⟨vs,Fs,h1,h2,h3,fun k hk=>(h4 k hk).imp (fun hx=>hx) fun hx=>⟨hx.1,hx.2.mono (fun b _ hl=>hh b hl) hg hL⟩⟩
  | dead=>exact hs
  | _=>obtain⟨v,hv,hr⟩:=hs;exact⟨v,hv,hr.mono (fun b _ hl=>hh b hl) hg hL⟩
 ·intro i z hz;rw[O3] at hz;by_cases hii:id=i
  ·subst hii;simp at hz;subst hz;rw[j3,TK];exact hx
  ·simp only[hii,if_false] at hz;rw[q8 (fun e=>hii e.symm),l5 (fun e=>hii e.symm)];exact(h.bx i z hz).mono (fun b _ hl=>hh b hl) hg hL
 ·intro i hi;rw[O3] at hi;by_cases hii:id=i
  ·simp[hii] at hi
  ·simp only[hii,if_false] at hi;rw[q8 (fun e=>hii e.symm)];exact h.bxN i hi
 ·intro i;by_cases hii:i=id
  ·subst hii;simp
  ·rw[q8 hii];exact h.nodB i
 ·intro u i b hb hb';by_cases hii:i=id
  ·subst hii;simp at hb';have:=hlt b (.inl ⟨u,hb⟩);omega
  ·rw[q8 hii] at hb';exact h.dEB u i b hb hb'
 ·intro i i' hne b hb hb';by_cases hii:i=id
  ·subst hii;simp at hb;rw[q8 (fun e=>hne e.symm)] at hb';have:=hlt b (.inr ⟨i',hb'⟩);omega
  ·rw[q8 hii] at hb;by_cases hii':i'=id
   ·subst hii';simp at hb';have:=hlt b (.inr ⟨i,hb⟩);omega
   ·rw[q8 hii'] at hb';exact h.dBB i i' hne b hb hb'
 ·rintro b (⟨u,hu⟩|⟨i,hi⟩) hk
  ·exact h.new b (.inl ⟨u,hu⟩) hk
  ·by_cases hii:i=id
   ·subst hii;simp at hi;have:=(h.kept b hk).2;have:=h.grown;omega
   ·rw[q8 hii] at hi;exact h.new b (.inr ⟨i,hi⟩) hk
 ·intro b hk;have:=h.kept b hk;exact⟨(hh b (Nat.lt_of_lt_of_le this.2 h.grown)).trans this.1,this.2⟩
 ·rintro b (⟨u,hu⟩|⟨i,hi⟩)
  ·exact h.okO b (.inl ⟨u,hu⟩)
  ·by_cases hii:i=id
   ·subst hii;simp at hi;subst hi;exact h.okN _ (Nat.le_refl _)
   ·rw[q8 hii] at hi;exact h.okO b (.inr ⟨i,hi⟩)
theorem St.newVar{id t e:Nat}{d:D}{cs:Array Value}(st:StW C σ a w ρ Fe Fb)(hid:σ.box id=none)(ht:t<σ.n)
 (hr:Rc w ρ (gd C Fe Fb) (fun i=>(σ.box i).isSome) true d cs.toList []) :
 St C ((σ.newB id (.var d)).set t (.ptr id 0 [])) (a.put (some t) (.pointer (some ⟨w.heap.size,0,none⟩))) (w.alloc (.cells cs e)):=by
 have hlt:=st.lt
 have hg:∀ b,gd C Fe Fb b->b<w.heap.size->gd C Fe (upd Fb id [w.heap.size]) b:=by
  rintro b ⟨hok,hb⟩ hl;refine⟨hok, ?_⟩;rintro (⟨u,hu⟩|⟨i,hi⟩)
  ·exact hb (.inl ⟨u,hu⟩)
  ·by_cases hii:i=id
   ·subst hii;simp at hi;omega
   ·rw[q8 hii] at hi;exact hb (.inr ⟨i,hi⟩)
 have h1:=st.newB (id:=id) (x:=.var d) (o:=.cells cs e) hid ⟨cs,e,[],heap_alloc_new w _,hr.mono (fun b _ hl=>(Ext.alloc w _).block b hl) hg (fun i hi=>by
  have hii:i≠id:=by rintro rfl;simp[hid] at hi
  exact⟨by rw[O3];simp[show ¬ id=i from fun e=>hii e.symm,hi],l5 hii⟩),rfl⟩
 have h2:=h1.put (t:=t) (d:=.ptr id 0 []) (v:=.pointer (some ⟨w.heap.size,0,none⟩)) (by simpa using ht) rfl (by
  simp only[VR,D.isAgg,Bool.false_eq_true,if_false];have:=Rc.ptr (w:=w.alloc (.cells cs e)) (ρ:=CR ρ id w.heap.size) (G:=gd C Fe (upd Fb id [w.heap.size])) (L:=fun i=>((σ.newB id (.var d)).box i).isSome) id 0 [] (by simp[O3])
  simpa using this)
 exact h2
def chkL(d:D)(v:Value):Bool:=
 match d,v with
 | .bool b,.bool c=>b==c
 | .int n,.int .i64 m=>decide (n=m)
 | .u8 x,.int .u8 m=>decide ((x.toNat:Int)=m)
 | .u16 x,.int .u16 m=>decide ((x.toNat:Int)=m)
 | .u32 x,.int .u32 m=>decide ((x.toNat:Int)=m)
 | .u64 x,.int .u64 m=>decide ((x.toNat:Int)=m)
 | .ik k n,.int k' m=>decide (k=k')&&decide (n=m)
 | .str s,.string t=>t.data.toList==s
 | .nils,.slice none 0 0=>true
 | .nilp,.pointer none=>true
 | .nilmap,.map none=>true
 | .nilf,.nilFunc=>true
 | .nili,.nilIface=>true
 | _,_=>false
theorem chkL_ok(w:World)(ρ:Nat->Nat)(G L:Nat->Prop)(d:D)(v:Value)(h:chkL d v=true):Rc w ρ G L false d [v] []:=by
 unfold chkL at h;split at h
 ·rw[beq_iff_eq] at h;subst h;exact .bool _
 ·rw[decide_eq_true_eq] at h;subst h;exact .int _
 ·rw[decide_eq_true_eq] at h;subst h;exact .u8 _
 ·rw[decide_eq_true_eq] at h;subst h;exact .u16 _
 ·rw[decide_eq_true_eq] at h;subst h;exact .u32 _
 ·rw[decide_eq_true_eq] at h;subst h;exact .u64 _
 ·rw[Bool.and_eq_true,decide_eq_true_eq,decide_eq_true_eq] at h;obtain⟨rfl,rfl⟩:=h;exact .ik _ _
 ·rename_i s t;rw[beq_iff_eq] at h;subst h;have:=Rc.str (w:=w) (ρ:=ρ) (G:=G) (L:=L) (p:=false) t.data.toList;simpa using this
 ·exact .nils
 ·exact .nilp
 ·exact .nilmap
 ·exact .nilf
 ·exact .nili
 ·cases h
mutual
def chk:D->List Value->Bool
 | .agg l,cs=>chks l cs
 | .arr n z l,cs=>decide (l.length=n)&&chkr z l cs
 | d,cs=>match cs with
  | [v]=>chkL d v
  | _=>false
def chks:List D->List Value->Bool
 | [],cs=>cs.isEmpty
 | d::r,cs=>decide (d.sz<=cs.length)&&chk d (cs.take d.sz)&&chks r (cs.drop d.sz)
def chkr(z:Nat):List D->List Value->Bool
 | [],cs=>cs.isEmpty
 | d::r,cs=>decide (z<=cs.length)&&chk d (cs.take z)&&chkr z r (cs.drop z)
end
theorem F5(d:D)(r:List D)(k:Nat):offk (d::r) (k+1)=d.sz+offk r k:=by simp[offk]
theorem s4(l:List D):offk l 0=0:=by simp[offk]
mutual
theorem E4(w:World)(ρ:Nat->Nat)(G L:Nat->Prop):∀ (d:D) (cs:List Value),chk d cs=true->Rc w ρ G L false d cs []:=by
 intro d cs h
 cases d with
 | agg l=>
  rw[chk] at h;obtain⟨h1,h2⟩:=SK w ρ G L l cs h;have:=Rc.agg (w:=w) (ρ:=ρ) (G:=G) (L:=L) (p:=false) l cs (fun _=>[]) h1 h2
  have e:(List.range l.length).flatMap (fun _=>([]:List Nat))=[]:=by simp
  rw[e] at this;exact this
 | arr n z l=>
  rw[chk,Bool.and_eq_true,decide_eq_true_eq] at h;obtain⟨h1,h2⟩:=SJ w ρ G L z l cs h.2;exact .arr n z l cs h.1 (by rw[h1,h.1]) h2
 | _=>
  simp only[chk] at h;split at h
  ·exact chkL_ok w ρ G L _ _ h
  ·cases h
theorem SK(w:World)(ρ:Nat->Nat)(G L:Nat->Prop):∀ (l:List D) (cs:List Value),chks l cs=true ->
 cs.length=D.szs l/\∀ k (h:k<l.length),Rc w ρ G L false l[k] ((cs.drop (offk l k)).take l[k].sz) []:=by
 intro l cs h
 cases l with
 | nil=>
  simp only[chks,List.isEmpty_iff] at h;subst h;exact⟨by simp,fun k hk=>by simp at hk⟩
 | cons d r=>
  simp only[chks,Bool.and_eq_true,decide_eq_true_eq] at h;obtain⟨⟨h0,h1⟩,h2⟩:=h;have i1:=E4 w ρ G L d _ h1;obtain⟨i2,i3⟩:=SK w ρ G L r _ h2;refine⟨by simp at i2 ⊢;omega,fun k hk=>?_⟩
  cases k with
  | zero=>rw[s4];exact i1
  | succ k=>
   have:=i3 k (by simpa using hk);rw[List.drop_drop] at this;rw[F5];exact this
theorem SJ(w:World)(ρ:Nat->Nat)(G L:Nat->Prop)(z:Nat):∀ (l:List D) (cs:List Value),chkr z l cs=true ->
 cs.length=l.length*z/\∀ k (h:k<l.length),Rc w ρ G L false l[k] ((cs.drop (k*z)).take z) []:=by
 intro l cs h
 cases l with
 | nil=>
  simp only[chkr,List.isEmpty_iff] at h;subst h;exact⟨by simp,fun k hk=>by simp at hk⟩
 | cons d r=>
  simp only[chkr,Bool.and_eq_true,decide_eq_true_eq] at h;obtain⟨⟨h0,h1⟩,h2⟩:=h;have i1:=E4 w ρ G L d _ h1;obtain⟨i2,i3⟩:=SJ w ρ G L z r _ h2;refine⟨by simp only[List.length_drop,List.length_cons,Nat.add_mul] at i2 ⊢;omega,fun k hk=>?_⟩
  cases k with
  | zero=>rw[Nat.zero_mul];exact i1
  | succ k=>
   have:=i3 k (by simpa using hk);rw[List.drop_drop] at this
   have e:(k+1)*z=z+k*z:=by rw[Nat.add_mul,Nat.one_mul,Nat.add_comm]
   simp only[e];exact this
end
def Value.isAgg':Value->Bool
 | .agg _=>true
 | _=>false
class ZrT(P:Program)(t:TypeId)(d:outParam D):Prop where
 i:∃ i v,P.info? t=some i/\i.zero=some v/\chk d v.cells.toList=true/\Value.isAgg' v=d.isAgg
theorem chk_VR{G L:Nat->Prop}{d:D}{v:Value}(h:chk d v.cells.toList=true)(hg:Value.isAgg' v=d.isAgg):VR w ρ G L d v []:=by
 have:=(E4 w ρ G L d _ h).flag;unfold VR;cases hd:d.isAgg
 ·rw[hd] at hg;simp only[Bool.false_eq_true,if_false]
  cases v<;>first|exact this|simp[Value.isAgg'] at hg
 ·rw[hd] at hg;simp only[if_true]
  cases v<;>first|exact⟨_,rfl,this⟩|simp[Value.isAgg'] at hg
theorem R.alloc{t ty rt:TypeId}{d:D}[hZ:ZrT P ty d](hid:σ.box t=none)(ht:t<σ.n) :
 OpS P C ⟨some t,.alloc ty,rt,pos,aft,g⟩ σ ((σ.newB t (.var d)).set t (.ptr t 0 [])):=by
 refine OpS.value fun a w ⟨ρ,Fe,Fb,st⟩=>?_;obtain⟨i,v,h1,h2,h3,h4⟩:=hZ.i;refine⟨_,_, ?_,St.newVar (e:=ty) (cs:=v.cells) st hid ht ((E4 _ _ _ _ d _ h3).flag)⟩;unfold execOp;simp[Instr.alloc,zeroValue,typeInfo,h1,h2,newVar,newRow,newObj,Sem.run]
theorem R.box{t ty rt:TypeId}{x:Operand}{d:D}(hx:ev C.gl σ x=some d)(hp:d.pur=true)(hid:σ.box t=none)(ht:t<σ.n) :
 OpS P C ⟨some t,.box ty x,rt,pos,aft,g⟩ σ ((σ.newB t (.var d)).set t (.ptr t 0 [])):=by
 refine OpS.value fun a w ⟨ρ,Fe,Fb,st⟩=>?_;obtain⟨F,hv,_⟩:=c3 st hx (c6 hp);have hF:=hv.pur hp;subst hF
 have hdead:d≠.dead:=by rintro rfl;simp[D.pur] at hp
 refine⟨_,_, ?_,St.newVar (e:=ty) (cs:=(a.eval x).cells) st hid ht (hv.cells hdead)⟩;unfold execOp;simp[Instr.box,newVar,newRow,newObj,Sem.run]
end Go.Sx

namespace Go.Sx
variable{P:Program}{C:Ctx}{σ σ' σ1:Sg}{a:Act}{w w':World}{ρ:Nat->Nat}{Fe Fe' Fb:Nat->List Nat}
theorem Rc.noL{G L L':Nat->Prop}{ρ':Nat->Nat}{d:D}{cs:List Value}{F:List Nat}(h:Rc w ρ G L false d cs F):Rc w ρ' G L' false d cs F:=by
 generalize hp:false=p at h
 induction h with
 | bool b=>exact .bool b
 | int n=>exact .int n
 | u8 x=>exact .u8 x
 | u16 x=>exact .u16 x
 | u32 x=>exact .u32 x
 | u64 x=>exact .u64 x
 | ik k n=>exact .ik k n
 | str s=>exact .str s
 | nils=>exact .nils
 | slN o z=>exact .slN o z
 | slE o z a=>exact .slE o z a
 | slI b off cs e fz cap z l hb hG hc hs hr ih=>exact .slI b off cs e fz cap z l hb hG hc hs (fun i hi=>ih i hi rfl)
 | slO b cs e cap z l Fs hb hc hm hs ho1 hr ih=>exact .slO b cs e cap z l Fs hb hc hm hs ho1 (fun i hi=>ih i hi rfl)
 | agg l cs Fs hs hr ih=>exact .agg l cs Fs hs (fun k hk=>ih k hk hp)
 | arr n z l cs hl hs hr ih=>exact .arr n z l cs hl hs (fun i hi=>ih i hi rfl)
 | ptr id off path hid=>cases hp
 | bs id z n cap hid hcap=>cases hp
 | nilp=>exact .nilp
 | rp d b off cs e fz hb hG hs hr ih=>exact .rp d b off cs e fz hb hG hs (ih rfl)
 | map id hid=>cases hp
 | nilmap=>exact .nilmap
 | fn f caps vs hl ha hr ih=>exact .fn f caps vs hl ha (fun k hk=>ih k hk hp)
 | nilf=>exact .nilf
 | yld l=>exact .yld l
 | ifc t d v ha hr ih=>exact .ifc t d v ha (ih hp)
 | nili=>exact .nili
 | dead v h=>exact .dead v h
theorem VR.noL{G L L':Nat->Prop}{ρ':Nat->Nat}{d:D}{v:Value}{F:List Nat}(h:VR w ρ G L d v F)(hn:d.np=true):VR w ρ' G L' d v F:=by
 unfold VR at *
 cases hd:d.isAgg<;>simp only[hd,if_true,if_false,Bool.false_eq_true] at h ⊢
 ·exact(h.unflag hn).noL.flag
 ·obtain⟨cs,rfl,h⟩:=h;exact⟨cs,rfl,(h.unflag hn).noL.flag⟩
inductive Frs:D->Prop
 | bool (b:Bool):Frs (.bool b)
 | int (n:Int):Frs (.int n)
 | u8 (x:UInt8):Frs (.u8 x)
 | u16 (x:UInt16):Frs (.u16 x)
 | u32 (x:UInt32):Frs (.u32 x)
 | u64 (x:UInt64):Frs (.u64 x)
 | ik (k:IntKind) (n:Int):Frs (.ik k n)
 | str (s:List UInt8):Frs (.str s)
 | nils:Frs .nils
 | nilp:Frs .nilp
 | nilmap:Frs .nilmap
 | nilf:Frs .nilf
 | nili:Frs .nili
 | sl (e z:Nat) (l:List D) (h:∀ x∈l,Frs x):Frs (.sl (some e) z l)
 | agg (l:List D) (h:∀ x∈l,Frs x):Frs (.agg l)
 | arr (n z:Nat) (l:List D) (h:∀ x∈l,Frs x):Frs (.arr n z l)
 | ifc (t:Nat) (d:D) (h:Frs d):Frs (.ifc t d)
theorem Rc.frs{G G' L:Nat->Prop}{p:Bool}{d:D}{cs:List Value}{F:List Nat}(h:Rc w ρ G L p d cs F)(hf:Frs d):Rc w ρ G' L p d cs F:=by
 induction h with
 | bool b=>exact .bool b
 | int n=>exact .int n
 | u8 x=>exact .u8 x
 | u16 x=>exact .u16 x
 | u32 x=>exact .u32 x
 | u64 x=>exact .u64 x
 | ik k n=>exact .ik k n
 | str s=>exact .str s
 | nils=>exact .nils
 | slN o z=>exact .slN o z
 | slE o z a=>exact .slE o z a
 | slI b off cs e fz cap z l hb hG hc hs hr ih=>cases hf
 | slO b cs e cap z l Fs hb hc hm hs ho1 hr ih=>
  cases hf with
  | sl _ _ _ hf=>exact .slO b cs e cap z l Fs hb hc hm hs ho1 (fun i hi=>ih i hi (hf _ (List.getElem_mem hi)))
 | agg l cs Fs hs hr ih=>
  cases hf with
  | agg _ hf=>exact .agg l cs Fs hs (fun k hk=>ih k hk (hf _ (List.getElem_mem hk)))
 | arr n z l cs hl hs hr ih=>
  cases hf with
  | arr _ _ _ hf=>exact .arr n z l cs hl hs (fun i hi=>ih i hi (hf _ (List.getElem_mem hi)))
 | ptr id off path hid=>cases hf
 | bs id z n cap hid hcap=>cases hf
 | nilp=>exact .nilp
 | rp d b off cs e fz hb hG hs hr ih=>cases hf
 | map id hid=>cases hf
 | nilmap=>exact .nilmap
 | fn f caps vs hl ha hr ih=>cases hf
 | nilf=>exact .nilf
 | yld l=>cases hf
 | ifc t d v ha hr ih=>
  cases hf with
  | ifc _ _ hf=>exact .ifc t d v ha (ih hf)
 | nili=>exact .nili
 | dead v h=>cases hf
theorem VR.frs{G G' L:Nat->Prop}{d:D}{v:Value}{F:List Nat}(h:VR w ρ G L d v F)(hf:Frs d):VR w ρ G' L d v F:=by
 unfold VR at *
 cases hd:d.isAgg<;>simp only[hd,if_true,if_false,Bool.false_eq_true] at h ⊢
 ·exact h.frs hf
 ·obtain⟨cs,rfl,h⟩:=h;exact⟨cs,rfl,h.frs hf⟩
def RV(w:World)(ρ:Nat->Nat)(G L:Nat->Prop)(r:D)(v:Value)(F:List Nat):Prop:=
 match r with
 | .tup ds=>∃ (vs:List Value) (Fs:Nat->List Nat),v=.tuple vs.toArray/\vs.length=ds.length/\F=(List.range ds.length).flatMap Fs /\
  ∀ k (h:k<ds.length),ds[k].isRef=false/\VR w ρ G L ds[k] (vs.getD k undef) (Fs k)
 | r=>r.isRef=false/\VR w ρ G L r v F
theorem ZT{G L:Nat->Prop}{r:D}{v:Value}{F:List Nat}(hr:r.isRef=false):RV w ρ G L r v F↔VR w ρ G L r v F:=by
 cases r<;>first|(simp[D.isRef] at hr;done)|exact⟨fun h=>h.2,fun h=>⟨hr,h⟩⟩
theorem RV.map{G L G' L':Nat->Prop}{ρ':Nat->Nat}{r:D}{v:Value}{F:List Nat}(h:RV w ρ G L r v F)(q:D->Prop)(hq:(∃ ds,r=.tup ds/\∀ d∈ds,q d)∨(∀ ds,r≠.tup ds)/\q r)
 (hv:∀ d v F',(∀ b∈F',b∈F)->q d->VR w ρ G L d v F'->VR w' ρ' G' L' d v F'):RV w' ρ' G' L' r v F:=by
 rcases hq with ⟨ds,rfl,hq⟩|⟨hr,hq⟩
 ·obtain⟨vs,Fs,rfl,h1,rfl,h2⟩:=h;exact⟨vs,Fs,rfl,h1,rfl,fun k hk=>⟨(h2 k hk).1,hv _ _ _ (fun b hb=>List.mem_flatMap.2 ⟨k,List.mem_range.2 hk,hb⟩) (hq _ (List.getElem_mem hk)) (h2 k hk).2⟩⟩
 ·cases r<;>first|exact absurd rfl (hr _)|exact⟨h.1,hv _ _ _ (fun _ h=>h) hq h.2⟩
theorem RV.mono{G L G' L':Nat->Prop}{ρ':Nat->Nat}{r:D}{v:Value}{F:List Nat}(h:RV w ρ G L r v F)
 (hh:∀ b,(G b∨b∈F)->b<w.heap.size->w'.heap[b]? = w.heap[b]?) (hg:∀ b,G b->b<w.heap.size->G' b) (hL:∀ id,L id->L' id/\ρ' id=ρ id):RV w' ρ' G' L' r v F:=by
 refine h.map (fun _=>True) ?_ (fun d v F' hF _ hv=>hv.mono (fun b hb=>hh b (hb.imp id (hF b))) hg hL)
 cases r<;>first|exact .inl ⟨_,rfl,fun _ _=>trivial⟩|exact .inr ⟨by simp,trivial⟩
def FrsR(r:D):Prop:=(∃ ds,r=.tup ds/\∀ d∈ds,Frs d)∨(∀ ds,r≠.tup ds)/\Frs r
theorem RV.slot{G L:Nat->Prop}{r:D}{v:Value}{F:List Nat}{t:Nat}(h:RV w ρ G L r v F)(ht:a.tmps[t]? = some v):SR w ρ G L a t r F:=by
 cases r with
 | tup ds=>
  obtain⟨vs,Fs,rfl,h1,h2,h3⟩:=h;exact⟨vs,Fs,ht,h1,h2,fun k hk=>.inr (h3 k hk)⟩
 | _=>first|(exact⟨v,ht,h.2⟩)|(have:=h.1;simp[D.isRef] at this)
def Fn(P:Program)(gl:List (Nat×D))(f:FuncId)(ds:List D)(r:D):Prop:=
 ∀ (w:World) (G:Nat->Prop) (vs:List Value),
  (∀ g d,(g,d)∈gl->G g/\∃ cs e fz,w.heap[g]? = some (.cells cs e fz)/\Rc w (fun x=>x) (fun _=>False) (fun _=>False) false d cs.toList []) ->
  vs.length=ds.length->(∀ k (h:k<ds.length),VR w (fun x=>x) G (fun _=>False) ds[k] (vs.getD k undef) []) ->
  Calls P f vs.toArray w (fun e w'=>∃ v F,e=.returned v/\Ext w w'/\F.Nodup/\(∀ b∈F,w.heap.size<=b) /\
   RV w' (fun x=>x) (fun b=>(G b∨w.heap.size<=b)/\b∉F) (fun _=>False) r v F)
def ini:Nat->List D->List (Nat×D)
 | _,[]=>[]
 | k,d::r=>(k,d)::ini (k+1) r
theorem YE(ds:List D)(k t:Nat):lk (ini k ds) t=if k<=t then ds[t-k]? else none:=by
 induction ds generalizing k with
 | nil=>simp[ini,lk]
 | cons d r ih=>
  simp only[ini,v4,ih];by_cases h:k=t
  ·subst h;simp
  ·simp only[h,if_false];by_cases h1:k<=t
   ·simp only[h1,show k+1<=t by omega,if_true]
    have:t-k=(t-(k+1))+1:=by omega
    rw[this,List.getElem?_cons_succ]
   ·simp[h1,show ¬ k+1<=t by omega]
def i7(σ:Sg):ResultVar->Option D
 | .tmp t=>σ.get t
 | .cell t _=>match σ.get t with
  | some (.ptr id 0 [])=>match σ.box id with
   | some (.var d)=>some d
   | _=>none
  | _=>none
def Z2(σ:Sg):ResultVar->Nat×Bool
 | .tmp t=>(t,true)
 | .cell t _=>match σ.get t with
  | some (.ptr id _ _)=>(id,false)
  | _=>(0,false)
def SW(P:Program)(d:D):ResultVar->Prop
 | .tmp _=>True
 | .cell _ ty=>LdT P ty d.sz d.isAgg
def NU(tmps:Array Value):ResultVar->Sem Value
 | .tmp t=>pure (tmps.getD t undef)
 | .cell a t=>do loadVar t (<- asAddr (tmps.getD a undef))
theorem mapM_run{α β:Type}(f:α->Sem β)(vf:Nat->β)(w:World):∀ (l:List α) (n:Nat),(∀ k (h:k<l.length),(f l[k]).run P w=.ok (vf (n+k)) w) ->
 (l.mapM f).run P w=.ok ((List.range' n l.length).map vf) w:=by
 intro l
 induction l with
 | nil=>intro n h;simp
 | cons x l ih=>
  intro n h;have h0:=h 0 (by simp);have:=ih (n+1) (fun k hk=>by have:=h (k+1) (by simpa using hk);simpa [Nat.add_assoc,Nat.add_comm 1 k] using this);simp only[List.getElem_cons_zero,Nat.add_zero] at h0;simp[List.mapM_cons,h0,this,List.range'_succ]
theorem G5{fn:Func}{tmps:Array Value}{rs:List ResultVar}(hrs:fn.results.toList=rs)(vf:Nat->Value)(w:World)
 (h:∀ k (h:k<rs.length),(NU tmps rs[k]).run P w=.ok (vf k) w) :
 (results fn tmps).run P w=.ok (if rs.length=1 then vf 0 else .tuple ((List.range rs.length).map vf).toArray) w:=by
 have h1:=mapM_run (P:=P) (NU tmps) vf w rs 0 (fun k hk=>by simpa using h k hk)
 have e:results fn tmps=(do let vs <- fn.results.mapM (NU tmps);pure (if h:vs.size=1 then vs[0] else .tuple vs)):=by
  unfold results
  congr 1
 rw[e,Array.mapM_eq_mapM_toList,hrs];simp only[map_eq_pure_bind,Sem.run_bind,h1,Result.andThen_ok,Sem.run_pure,List.range_eq_range'];by_cases hl:rs.length=1
 ·simp[hl]
 ·simp[hl]
theorem XD(st:StW C σ a w ρ Fe Fb){rv:ResultVar}{d:D}(h:i7 σ rv=some d)(hr:d.isRef=false)(hT:SW P d rv) :
 ∃ v F,(NU a.tmps rv).run P w=.ok v w /\
  VR w ρ (gd C Fe Fb) (fun id=>(σ.box id).isSome) d v F/\F.Nodup/\(∀ b∈F,b∈(if(Z2 σ rv).2 then Fe (Z2 σ rv).1 else Fb (Z2 σ rv).1)):=by
 cases rv with
 | tmp t=>
  simp only[i7] at h;obtain⟨v,hv,hvr⟩:=(j2 hr).1 (st.env t d h);refine⟨v,Fe t, ?_,hvr,st.nodE t,fun b hb=>by simpa [Z2] using hb⟩;simp[NU,Array.getD_eq_getD_getElem?,hv]
 | cell t ty=>
  simp only[i7] at h;split at h
  ·rename_i id hg;split at h
   ·rename_i d' hb;cases h;obtain⟨v,hv,hvr⟩:=(j2 rfl).1 (st.env t _ hg);simp only[VR,D.isAgg,Bool.false_eq_true,if_false] at hvr;generalize Fe t=F at hvr;cases hvr;obtain⟨cs,e,F',hb',hrc,hFb⟩:=st.bx _ _ hb;have:=hT;simp only[SW] at this;have hlen:=hrc.len
    have hcs:(cs.toList.drop 0).take d.sz=cs.toList:=by rw[<- hlen,List.drop_zero];exact List.take_length
    obtain⟨v,hv1,hv2⟩:=U1 (P:=P) (ty:=ty) (off:=0) hb' (by rw[hcs];exact hrc) (by simp at hlen;omega) rfl rfl;refine⟨v,F', ?_,hv2, ?_,fun b hb=>by simp[Z2,hg,hFb,hb]⟩
    ·simp[NU,Array.getD_eq_getD_getElem?,hv,asAddr,hv1]
    ·have:=st.nodB id;rw[hFb] at this;exact(List.nodup_cons.1 this).2
   ·cases h
  ·cases h
def o3(ids:List Nat)(i:Nat):Bool:=ids.any (Nat.beq i)
def Ends(rs:List ResultVar)(P:Program)(r:D)(e:Exit)(σ:Sg):Prop:=
 (e=.normal∨e=.ret) /\
 match rs with
 | [rv]=>i7 σ rv=some r/\r.isRef=false/\r.np=true/\SW P r rv
 | rs=>∃ ds,r=.tup ds/\ds.length=rs.length/\(rs.map (Z2 σ)).Nodup/\∀ k (h:k<rs.length) (h':k<ds.length),i7 σ rs[k]=some ds[k]/\ds[k].isRef=false/\ds[k].np=true/\SW P ds[k] rs[k]
theorem Ends.out{fn:Func}{r:D}{e:Exit}(st:StW C σ a w ρ Fe Fb)(hends:Ends fn.results.toList P r e σ) :
 ∃ v,(results fn a.tmps).run P w=.ok v w/\∃ F,F.Nodup/\(∀ b∈F,own Fe Fb b)/\RV w (fun x=>x) (fun b=>C.ok b/\b∉F) (fun _=>False) r v F:=by
 obtain⟨he,hend⟩:=hends
 have one:∀ rv,fn.results.toList=[rv]->i7 σ rv=some r/\r.isRef=false/\r.np=true/\SW P r rv ->
  ∃ v,(results fn a.tmps).run P w=.ok v w/\∃ F,F.Nodup/\(∀ b∈F,own Fe Fb b)/\RV w (fun x=>x) (fun b=>C.ok b/\b∉F) (fun _=>False) r v F:=by
  rintro rv hrs ⟨h1,h2,h3,h4⟩;obtain⟨v,F,hv1,hv2,hv3,hv4⟩:=XD (P:=P) st h1 h2 h4
  have hFo:∀ b∈F,own Fe Fb b:=by
   intro b hb;have:=hv4 b hb;split at this
   ·exact .inl ⟨_,this⟩
   ·exact .inr ⟨_,this⟩
  refine⟨v, ?_,F,hv3,fun b hb=>hFo b hb,(ZT h2).2 ?_⟩
  ·rw[G5 hrs (fun _=>v) w (fun k hk=>by
    have:k=0:=by simp at hk;omega
    subst this;exact hv1)]
   rfl
  ·exact(hv2.noL (ρ':=fun x=>x) (L':=fun _=>False) h3).mono (fun _ _ _=>rfl) (fun b hb _=>⟨hb.1,fun hm=>hb.2 (hFo b hm)⟩) (fun id hid=>hid.elim)
 have many:∀ rs,fn.results.toList=rs->rs.length≠1->(∃ ds,r=.tup ds/\ds.length=rs.length/\(rs.map (Z2 σ)).Nodup/\∀ k (h:k<rs.length) (h':k<ds.length),i7 σ rs[k]=some ds[k]/\ds[k].isRef=false/\ds[k].np=true/\SW P ds[k] rs[k]) ->
  ∃ v,(results fn a.tmps).run P w=.ok v w/\∃ F,F.Nodup/\(∀ b∈F,own Fe Fb b)/\RV w (fun x=>x) (fun b=>C.ok b/\b∉F) (fun _=>False) r v F:=by
  rintro rs hrs hne ⟨ds',rfl,hl',hnd,hall⟩
  have hk:∀ k,∃ vF:Value×List Nat,k<rs.length->∃ (h:k<rs.length) (h':k<ds'.length),
   (NU a.tmps rs[k]).run P w=.ok vF.1 w /\
   VR w ρ (gd C Fe Fb) (fun id=>(σ.box id).isSome) ds'[k] vF.1 vF.2/\vF.2.Nodup/\(∀ b∈vF.2,b∈(if(Z2 σ rs[k]).2 then Fe (Z2 σ rs[k]).1 else Fb (Z2 σ rs[k]).1)):=by
   intro k;by_cases hk:k<rs.length
   ·have hk':k<ds'.length:=by omega
    obtain⟨h1,h2,h3,h4⟩:=hall k hk hk';obtain⟨v,F,q⟩:=XD (P:=P) st h1 h2 h4;exact⟨(v,F),fun _=>⟨hk,hk',q⟩⟩
   ·exact⟨(undef,[]),fun h=>absurd h hk⟩
  obtain⟨vF,hk⟩:=Classical.skolem.1 hk
  have hFo:∀ k,k<rs.length->∀ b∈(vF k).2,own Fe Fb b:=by
   intro k hlt b hb;obtain⟨h,h',q1,q2,q3,q4⟩:=hk k hlt;have:=q4 b hb;split at this
   ·exact .inl ⟨_,this⟩
   ·exact .inr ⟨_,this⟩
  have hdis:∀ j k,j<rs.length->k<rs.length->j≠k->∀ b,b∈(vF j).2->b∉(vF k).2:=by
   intro j k hj hkk hjk b hb hb';obtain⟨h,h',q1,q2,q3,q4⟩:=hk j hj;obtain⟨g,g',p1,p2,p3,p4⟩:=hk k hkk;have e1:=q4 b hb;have e2:=p4 b hb'
   have hne:Z2 σ rs[j]≠Z2 σ rs[k]:=by
    intro he;have:=(List.getElem_inj (h₀:=by simpa using hj) (h₁:=by simpa using hkk) hnd).1 (by simpa using he);exact hjk this
   generalize Z2 σ rs[j]=x at e1 hne;generalize Z2 σ rs[k]=y at e2 hne;obtain⟨x1,x2⟩:=x;obtain⟨y1,y2⟩:=y
   cases x2<;>cases y2<;>simp at e1 e2 hne
   ·exact st.dBB x1 y1 hne b e1 e2
   ·exact st.dEB y1 x1 b e2 e1
   ·exact st.dEB x1 y1 b e1 e2
   ·exact st.dEE x1 y1 hne b e1 e2
  refine⟨.tuple ((List.range rs.length).map (fun k=>(vF k).1)).toArray, ?_,(List.range ds'.length).flatMap (fun k=>(vF k).2), ?_, ?_,_,(fun k=>(vF k).2),rfl,by simp[hl'],rfl, ?_⟩
  ·rw[G5 hrs (fun k=>(vF k).1) w (fun k hk'=>by obtain⟨_,_,q,_⟩:=hk k hk';exact q),if_neg hne]
  ·refine o9 (fun k hkk=>?_) (fun j k hj hkk=>hdis j k (by omega) (by omega));obtain⟨h,h',q1,q2,q3,q4⟩:=hk k (by omega);exact q3
  ·intro b hb;obtain⟨k,hk1,hk2⟩:=List.mem_flatMap.1 hb;exact hFo k (by have:=List.mem_range.1 hk1;omega) b hk2
  ·intro k hkk;obtain⟨h,h',q1,q2,q3,q4⟩:=hk k (by omega);obtain⟨h1,h2,h3,h4⟩:=hall k (by omega) hkk;refine⟨h2, ?_⟩
   have e:((List.range rs.length).map (fun k=>(vF k).1)).getD k undef=(vF k).1:=by
    have:k<rs.length:=by omega
    simp[List.getD_eq_getElem?_getD,List.getElem?_map,List.getElem?_range this]
   rw[e]
   exact(q2.noL (ρ':=fun x=>x) (L':=fun _=>False) h3).mono (fun _ _ _=>rfl) (fun b hb _=>⟨hb.1,fun hm=>hb.2 (by
    obtain⟨j,hj1,hj2⟩:=List.mem_flatMap.1 hm
    exact hFo j (by have:=List.mem_range.1 hj1;omega) b hj2)⟩) (fun id hid=>hid.elim)
 cases hrs:fn.results.toList with
 | nil=>rw[hrs] at hend;exact many [] hrs (by simp) hend
 | cons rv rest=>
  cases rest with
  | nil=>rw[hrs] at hend;exact one rv hrs hend
  | cons rv2 rest=>rw[hrs] at hend;exact many _ hrs (by simp) hend
theorem Fn.of{gl:List (Nat×D)}{f:FuncId}{fn:Func}{c:Code}{ds:List D}{r:D}{n:Nat}(hf:P.funcs[f]? = some fn)(hb:fn.body=some c)(hnn:fn.ntmps=n)
 (hd:ds.all (fun d=>!d.isRef)=true) (hn:ds.length<=n)
 (h:∀ C:Ctx,C.gl=gl->(∀ id b,C.pin id=some b->o3 [] id=true)->W P C c (Ends fn.results.toList P r) ⟨n,ini 0 ds,[]⟩):Fn P gl f ds r:=by
 subst hnn;intro w G vs hgl hl hv;refine calls_of_wp hf hb ?_
 let C:Ctx:=⟨w,fun b=>b<w.heap.size,fun b=>G b∨w.heap.size<=b,gl,none,fun _=>none,[]⟩
 have hget:∀ t d,(⟨fn.ntmps,ini 0 ds,[]⟩:Sg).get t=some d->∃ h:t<ds.length,ds[t]=d:=by
  intro t d hd;simp only[Sg.get,YE,Nat.zero_le,if_true,Nat.sub_zero] at hd;obtain⟨h,e⟩:=List.getElem?_eq_some_iff.1 hd;exact⟨h,e⟩
 have hown:∀ b,¬ own (fun _=>[]) (fun _=>[]) b:=by rintro b (⟨_,h⟩|⟨_,h⟩)<;>cases h
 have hbox:∀ id,(⟨fn.ntmps,ini 0 ds,[]⟩:Sg).box id=none:=fun id=>rfl
 have st:StW C ⟨fn.ntmps,ini 0 ds,[]⟩ { tmps:=vs.toArray++Array.replicate (fn.ntmps-vs.toArray.size) undef,defers:=[] } w (fun x=>x) (fun _=>[]) (fun _=>[]):=by
  refine⟨?_,rfl,(fun _ _ hp=>by cases hp), ?_,fun _ _=>rfl, ?_,fun _ _=>rfl,fun _=>List.nodup_nil,fun _=>List.nodup_nil,(fun _ _ _ _ h=>by cases h),(fun _ _ _ h=>by cases h),(fun _ _ _ _ h=>by cases h),fun b hb=>absurd hb (hown b), ?_,rfl,⟨rfl,Nat.le_refl _⟩,rfl,Nat.le_refl _, ?_,fun b hb=>.inr hb,fun b hb=>absurd hb (hown b)⟩
  ·simp[hl];omega
  ·intro t d hd';obtain⟨ht,rfl⟩:=hget t d hd'
   have hr:ds[t].isRef=false:=by
    have:=List.all_eq_true.1 hd ds[t] (List.getElem_mem ht);simpa using this
   refine(j2 hr).2 ⟨vs.getD t undef, ?_,(hv t ht).mono (fun _ _ _=>rfl) (fun b hb _=>⟨.inl hb,hown b⟩) (fun id hid=>hid.elim)⟩
   have htv:t<vs.length:=by omega
   rw[Array.getElem?_append_left (by simpa using htv)];simp[htv]
  ·intro id d hd';rw[hbox] at hd';cases hd'
  ·intro b hb;exact⟨rfl,hb⟩
  ·intro g d hg;obtain⟨h1,cs,e,fz,h2,h3⟩:=hgl g d hg;exact⟨(Array.getElem?_eq_some_iff.1 h2).1,.inl h1,cs,e,fz,h2,h3⟩
 refine Go.Code.wp_mono ?_ (wpIn_wide.1 (h C rfl (fun _ _ hp=>by cases hp) _ w ⟨_,_,_,st⟩));rintro e a' w' ⟨σ',⟨ρ,Fe,Fb,st'⟩,he,hend⟩
 have hext:Ext w w':=⟨st'.os,⟨st'.tape.tp,st'.tape.dr⟩,st'.output,st'.grown,fun b hb=>(st'.kept b hb).1⟩
 have hnew:∀ b,own Fe Fb b->w.heap.size<=b:=fun b hb=>Nat.le_of_not_lt (st'.new b hb)
 have key:∃ v,(results fn a'.tmps).run P w'=.ok v w'/\∃ F,F.Nodup/\(∀ b∈F,w.heap.size<=b)/\RV w' (fun x=>x) (fun b=>(G b∨w.heap.size<=b)/\b∉F) (fun _=>False) r v F:=by
  obtain⟨v,h1,F,h2,h3,h4⟩:=Ends.out st' ⟨he,hend⟩;have hco:∀ b,C.ok b->G b∨w.heap.size<=b:=fun b hb=>hb;exact⟨v,h1,F,h2,fun b hb=>hnew b (h3 b hb),h4.mono (fun _ _ _=>rfl) (fun b hb _=>⟨hco b hb.1,hb.2⟩) (fun id hid=>hid.elim)⟩
 obtain⟨v,h1,F,h2,h3,h4⟩:=key
 rcases he with rfl|rfl
 ·exact⟨st'.defs,v,h1,v,F,rfl,hext,h2,h3,h4⟩
 ·exact⟨st'.defs,v,h1,v,F,rfl,hext,h2,h3,h4⟩
end Go.Sx

namespace Go.Sx
variable{pos:String}{aft:Array Edge}{g:Option (Nat×Bool)}
variable{P:Program}{C:Ctx}{σ σ' σ1:Sg}{a:Act}{w w':World}{ρ:Nat->Nat}{Fe Fe' Fb:Nat->List Nat}
mutual
def D.brw:D->D
 | .sl _ z l=>.sl none z (D.brws l)
 | .agg l=>.agg (D.brws l)
 | .arr n z l=>.arr n z (D.brws l)
 | d=>d
def D.brws:List D->List D
 | []=>[]
 | d::r=>D.brw d::D.brws r
end
theorem d5(l:List D):D.brws l=l.map D.brw:=by
 induction l with
 | nil=>simp[D.brws]
 | cons d r ih=>simp[D.brws,ih]
mutual
theorem KX(d:D):d.brw.sz=d.sz:=by
 cases d with
 | sl o z l=>simp[D.brw,D.sz]
 | agg l=>simp only[D.brw,E0];exact XK l
 | arr n z l=>simp[D.brw]
 | _=>simp[D.brw]
theorem XK(l:List D):D.szs (D.brws l)=D.szs l:=by
 cases l with
 | nil=>simp[D.brws]
 | cons d r=>simp only[D.brws,K5,KX d,XK r]
end
theorem offk_brw(l:List D)(k:Nat):offk (l.map D.brw) k=offk l k:=by
 unfold offk;rw[<- List.map_take,<- d5,XK]
theorem VK(d:D):d.brw.isAgg=d.isAgg:=by cases d<;>simp[D.brw,D.isAgg]
theorem KE(d:D):d.brw.isRef=d.isRef:=by cases d<;>simp[D.brw,D.isRef]
theorem Rc.brw{G G' L:Nat->Prop}{p:Bool}{d:D}{cs:List Value}{F:List Nat}(h:Rc w ρ G L p d cs F)(hF:∀ b∈F,G' b)(hG:∀ b,G b->b<w.heap.size->G' b):Rc w ρ G' L p d.brw cs []:=by
 induction h with
 | bool b=>simp only[D.brw];exact .bool b
 | int n=>simp only[D.brw];exact .int n
 | u8 x=>simp only[D.brw];exact .u8 x
 | u16 x=>simp only[D.brw];exact .u16 x
 | u32 x=>simp only[D.brw];exact .u32 x
 | u64 x=>simp only[D.brw];exact .u64 x
 | ik k n=>simp only[D.brw];exact .ik k n
 | str s=>simp only[D.brw];exact .str s
 | nils=>simp only[D.brw];exact .nils
 | slN o z=>simp only[D.brw,D.brws];exact .slN none z
 | slE o z a=>simp only[D.brw,D.brws];exact .slE none z a
 | slI b off cs e fz cap z l hb hGb hc hs hr ih=>
  simp only[D.brw,d5];have hlt:b<w.heap.size:=(Array.getElem?_eq_some_iff.1 hb).1
  have:=Rc.slI (ρ:=ρ) (G:=G') (L:=L) (p:=‹Bool›) b off cs e fz cap z (l.map D.brw) hb (hG b hGb hlt) (by simpa using hc) (by simpa using hs) (fun i hi=>by
   have:=ih i (by simpa using hi) (by simp)
   simpa using this)
  simpa using this
 | slO b cs e cap z l Fs hb hc hm hs ho1 hr ih=>
  simp only[D.brw,d5]
  have:=Rc.slI (ρ:=ρ) (G:=G') (L:=L) (p:=‹Bool›) b 0 cs e (0,0) cap z (l.map D.brw) hb (hF b (by simp)) (by simpa using hc) (by
   have:=Nat.mul_le_mul_right z hc
   simp;omega) (fun i hi=>by
   have:=ih i (by simpa using hi) (fun b' hb'=>hF b' (List.mem_cons_of_mem _ (List.mem_flatMap.2 ⟨i,List.mem_range.2 (by simpa using hi),hb'⟩)))
   simpa using this)
  simpa using this
 | agg l cs Fs hs hr ih=>
  simp only[D.brw,d5]
  have:=Rc.agg (w:=w) (ρ:=ρ) (G:=G') (L:=L) (p:=‹Bool›) (l.map D.brw) cs (fun _=>[]) (by rw[<- d5,XK];exact hs) (fun k hk=>by
   have hk':k<l.length:=by simpa using hk
   have:=ih k hk' (fun b' hb'=>hF b' (List.mem_flatMap.2 ⟨k,List.mem_range.2 hk',hb'⟩));simp only[List.getElem_map,offk_brw,KX]
   exact this)
  have e:(List.range (l.map D.brw).length).flatMap (fun _=>([]:List Nat))=[]:=by rw[List.flatMap_eq_nil_iff];intros;rfl
  rw[e] at this;exact this
 | arr n z l cs hl hs hr ih=>
  simp only[D.brw,d5]
  exact .arr n z (l.map D.brw) cs (by simpa using hl) hs (fun i hi=>by
   have:=ih i (by simpa using hi) (by simp)
   simpa using this)
 | ptr id off path hid=>simp only[D.brw];exact .ptr id off path hid
 | bs id z n cap hid hcap=>simp only[D.brw];exact .bs id z n cap hid hcap
 | nilp=>simp only[D.brw];exact .nilp
 | rp d b off cs e fz hb hGb hs hr ih=>
  have hlt:b<w.heap.size:=(Array.getElem?_eq_some_iff.1 hb).1;simp only[D.brw];exact .rp d b off cs e fz hb (hG b hGb hlt) hs (hr.mono (fun _ _ _=>rfl) (fun b hb hlt=>hG b hb hlt) (fun id hid=>⟨hid,rfl⟩))
 | map id hid=>simp only[D.brw];exact .map id hid
 | nilmap=>simp only[D.brw];exact .nilmap
 | fn f caps vs hl ha hr ih=>
  simp only[D.brw];exact .fn f caps vs hl ha (fun k hk=>(hr k hk).mono (fun _ _ _=>rfl) (fun b hb hlt=>hG b hb hlt) (fun id hid=>⟨hid,rfl⟩))
 | nilf=>simp only[D.brw];exact .nilf
 | yld l=>simp only[D.brw];exact .yld l
 | ifc t d v ha hr ih=>
  simp only[D.brw];exact .ifc t d v ha (hr.mono (fun _ _ _=>rfl) (fun b hb hlt=>hG b hb hlt) (fun id hid=>⟨hid,rfl⟩))
 | nili=>simp only[D.brw];exact .nili
 | dead v h=>simp only[D.brw];exact .dead v h
theorem VR.brw{G G' L:Nat->Prop}{d:D}{v:Value}{F:List Nat}(h:VR w ρ G L d v F)(hF:∀ b∈F,G' b)(hG:∀ b,G b->b<w.heap.size->G' b):VR w ρ G' L d.brw v []:=by
 unfold VR at *;rw[VK]
 cases hd:d.isAgg<;>simp only[hd,if_true,if_false,Bool.false_eq_true] at h ⊢
 ·exact h.brw hF hG
 ·obtain⟨cs,rfl,h⟩:=h;exact⟨cs,rfl,h.brw hF hG⟩
inductive Bor(gl:List (Nat×D))(σ:Sg):Operand->D->Prop
 | pur {x:Operand} {d:D} (h:ev gl σ x=some d) (hp:d.pur=true) (hn:d.np=true):Bor gl σ x d
 | nils {x:Operand} {z:Nat} (h:ev gl σ x=some .nils):Bor gl σ x (.sl none z [])
 | own {x:Operand} {d d':D} (h:ev gl σ x=some d) (hr:d.isRef=false) (he:d.brw=d') (hn:d'.np=true):Bor gl σ x d'
 | al {t s:Nat} {d d':D} (h:σ.get t=some (.al s)) (h':σ.get s=some d) (hr:d.isRef=false) (he:d.brw=d') (hn:d'.np=true):Bor gl σ (.tmp t) d'
 | sc {t z:Nat} {l l':List D} (h:SC σ t z l) (he:l.map D.brw=l'):Bor gl σ (.tmp t) (.sl none z l')
 | ptr {t id off:Nat} {path:List Nat} {d0 d d':D} (h:σ.get t=some (.ptr id off path)) (hb:σ.box id=some (.var d0)) (hl:d0.loc path=some (off,d)) (he:d.brw=d') (hn:d'.np=true):Bor gl σ (.tmp t) (.rp d')
theorem Bor.ok(st:StW C σ a w ρ Fe Fb){x:Operand}{d:D}(h:Bor C.gl σ x d):VR w (fun x=>x) (fun b=>b<w.heap.size) (fun _=>False) d (a.eval x) []:=by
 have hlt:=st.lt
 cases h with
 | pur h hp hn=>
  obtain⟨F,hv,hF⟩:=c3 st h (c6 hp);have:=hv.pur hp;subst this;exact(hv.noL (ρ':=fun x=>x) (L':=fun _=>False) hn).mono (fun _ _ _=>rfl) (fun b _ hl=>hl) (fun id hid=>hid.elim)
 | nils h=>
  obtain⟨F,hv,_⟩:=c3 st h rfl;simp only[VR,D.isAgg,Bool.false_eq_true,if_false] at hv ⊢;rw[hv.nil_val];exact .slN none _
 | own h hr he hn=>
  obtain⟨F,hv,hF⟩:=c3 st h hr;subst he;exact(hv.brw (G':=fun b=>b<w.heap.size) (fun b hb=>hlt b (hF b hb)) (fun b _ hl=>hl)).noL hn
 | @al t s d d' h h' hr he hn=>
  obtain⟨_,v,h1,h2⟩:=st.env _ _ h;obtain⟨v',hv',hvr⟩:=(j2 hr).1 (st.env _ _ h');rw[h2] at hv';cases hv';subst he;rw[w3 h1];exact(hvr.brw (G':=fun b=>b<w.heap.size) (fun b hb=>hlt b (.inl ⟨s,hb⟩)) (fun b _ hl=>hl)).noL hn
 | @sc t z l l' h he=>
  obtain⟨base,len,cap,hv,rfl,hd⟩:=JO st h;subst he;rw[w3 hv];simp only[VR,D.isAgg,Bool.false_eq_true,if_false]
  rcases hd with ⟨h1,rfl⟩|⟨b,o,cs,e,fz,rfl,hb,hc,hs,hr⟩
  ·have:l=[]:=List.length_eq_zero_iff.1 h1;subst this
   cases base with
   | none=>exact .slN none z
   | some a=>exact .slE none z a
  ·have hltb:b<w.heap.size:=(Array.getElem?_eq_some_iff.1 hb).1
   have:=Rc.slI (w:=w) (ρ:=fun x=>x) (G:=fun b=>b<w.heap.size) (L:=fun _=>False) (p:=true) b o cs e fz cap z (l.map D.brw) hb hltb (by simpa using hc) (by simpa using hs) (fun i hi=>by
    obtain⟨F,hF⟩:=hr i (by simpa using hi);have:=(hF.brw (G':=fun b=>b<w.heap.size) hF.lt (fun b _ hl=>hl)).noL (ρ':=fun x=>x) (L':=fun _=>False)
    simpa using this)
   simpa using this
 | @ptr t id off path d0 d d' h hb hl he hn=>
  obtain⟨v,hv,hr⟩:=(j2 rfl).1 (st.env _ _ h);simp only[VR,D.isAgg,Bool.false_eq_true,if_false] at hr;generalize Fe t=F at hr;cases hr;obtain⟨cs,e,F',hb',hrc,_⟩:=st.bx _ _ hb;obtain⟨F2,h1,h2,h3⟩:=hrc.loc hl;subst he;rw[w3 hv];simp only[VR,D.isAgg,Bool.false_eq_true,if_false];have hltb:ρ id<w.heap.size:=(Array.getElem?_eq_some_iff.1 hb').1;have h4:=h1.brw (G':=fun b=>b<w.heap.size) h1.lt (fun b _ hl=>hl);refine .rp _ (ρ id) off cs e _ hb' hltb (by rw[KX];simpa using h3) ?_;rw[KX];exact(h4.unflag hn).noL
inductive Bors(gl:List (Nat×D))(σ:Sg):List Operand->List D->Prop
 | nil:Bors gl σ [] []
 | cons {x:Operand} {d:D} {xs:List Operand} {ds:List D} (h:Bor gl σ x d) (t:Bors gl σ xs ds):Bors gl σ (x::xs) (d::ds)
theorem Bors.len{gl:List (Nat×D)}{xs:List Operand}{ds:List D}(h:Bors gl σ xs ds):xs.length=ds.length:=by
 induction h with
 | nil=>rfl
 | cons h t ih=>simp[ih]
theorem Bors.ok(st:StW C σ a w ρ Fe Fb){xs:List Operand}{ds:List D}(h:Bors C.gl σ xs ds) :
 ∀ k (hk:k<ds.length),VR w (fun x=>x) (fun b=>b<w.heap.size) (fun _=>False) ds[k] ((xs.map a.eval).getD k undef) []:=by
 induction h with
 | nil=>intro k hk;simp at hk
 | cons h t ih=>
  intro k hk
  cases k with
  | zero=>simpa using h.ok st
  | succ k=>simpa using ih k (by simpa using hk)
theorem L6{f:FuncId}{fn:Func}(hf:P.funcs[f]? = some fn)(hb:fn.body.isSome=true)(hn:(fn.name == "runtime.NumGoroutine")=false)(vs:Array Value)(w:World) :
 (callFunc f vs).run P w=.ok (.enter f vs) w:=by
 unfold callFunc
 have h1:fn.body≠none:=by intro h;simp[h] at hb
 have h2:¬ fn.name = "runtime.NumGoroutine":=by simpa using hn
 simp[program,hf,h1,h2,Sem.run]
class CaT(P:Program)(f:FuncId):Prop where
 i:∃ fn,P.funcs[f]? = some fn/\fn.body.isSome=true/\(fn.name == "runtime.NumGoroutine")=false
theorem QP{f:FuncId}[h:CaT P f]{t:Option Nat}{args:Array Operand}{tys:Array TypeId}{rt:TypeId}(a:Act)(w:World) :
 (execOp a.eval ⟨t,.call { callee:=.value (.func f),args:=args,argTypes:=tys },rt,pos,aft,g⟩).run P w=.ok (.enter f (args.map a.eval)) w:=by
 obtain⟨fn,h1,h2,h3⟩:=h.i;unfold execOp;simp[resolve,Act.eval,Deferred.ofValue,invoke,L6 h1 h2 h3]
theorem R2{C:Ctx}{n:Nat}{f:FuncId}{args:Array Value}{w:World}{R:Ending->World->Prop}(h:Calls P f args w R):CallsIn (Fx C) n P f args w R:=(callsIn_wide (n:=n)).2 h
theorem GU(st:StW C σ a w ρ Fe Fb)(g:Nat)(d:D)(h:(g,d)∈C.gl) :
 gd C Fe Fb g/\∃ cs e fz,w.heap[g]? = some (.cells cs e fz)/\Rc w (fun x=>x) (fun _=>False) (fun _=>False) false d cs.toList []:=by
 obtain⟨h1,h2,cs,e,fz,h3,h4⟩:=st.gl g d h;refine⟨⟨h2,fun ho=>st.new g ho h1⟩,cs,e,fz,(st.kept g h1).1.trans h3,h4.mono (fun b hb _=>?_) (fun _ h _=>h.elim) (fun _ h=>h.elim)⟩
 rcases hb with hb|hb
 ·exact hb.elim
 ·cases hb
theorem R.call{f:FuncId}[CaT P f]{t:Nat}{args:List Operand}{tys:Array TypeId}{rt:TypeId}{ds:List D}{r:D}
 (hF:Fn P C.gl f ds r) (hb:Bors C.gl σ args ds) (hr:FrsR r) (ht:t<σ.n) :
 OpS P C ⟨some t,.call { callee:=.value (.func f),args:=args.toArray,argTypes:=tys },rt,pos,aft,g⟩ σ (σ.set t r):=by
 intro a w ⟨ρ,Fe,Fb,st⟩ K Q hK;refine Z7 (QP a w) (by simp) ?_;rw[Oper.uponIn_enter]
 have hc:=hF w (fun b=>b<w.heap.size) (args.map a.eval) (fun g d hg=>by
  obtain⟨_,cs,e,fz,h1,h2⟩:=GU st g d hg
  exact⟨(Array.getElem?_eq_some_iff.1 h1).1,cs,e,fz,h1,h2⟩) (by simp[hb.len]) (hb.ok st)
 simp only[List.map_toArray];refine⟨(fun h=>by cases h),(R2 (Calls.mono hc ?_))⟩;rintro e w' ⟨v,F,rfl,hext,hnd,hnew,hv⟩;refine hK _ _ ⟨ρ,upd Fe t F,Fb,st.ext ht hext hnd hnew ?_⟩
 have hput:(a.put (some t) v).tmps[t]? = some v:=by rw[v7 a t v t (by rw[st.size];exact ht)];simp
 refine RV.slot ?_ hput;refine hv.map Frs hr (fun d v F' hF' hd hx=>?_);have h1:=hx.frs (G':=fun _=>False) hd;exact h1.mono (fun _ _ _=>rfl) (fun b hb _=>hb.elim) (fun id hid=>hid.elim)
theorem R.callP{f:FuncId}[CaT P f]{t:Nat}{args:List Operand}{tys:Array TypeId}{rt:TypeId}{ds:List D}{r:D}
 (hF:Fn P C.gl f ds r) (hl:args.length=ds.length) (hb:∀ k (h:k<args.length) (h':k<ds.length),ev C.gl σ args[k]=some ds[k]/\ds[k].pur=true/\ds[k].np=true) (ht:t<σ.n) :
 OpS P C ⟨some t,.call { callee:=.value (.func f),args:=args.toArray,argTypes:=tys },rt,pos,aft,g⟩ σ (σ.set t r):=by
 intro a w ⟨ρ,Fe,Fb,st⟩ K Q hK;refine Z7 (QP a w) (by simp) ?_;rw[Oper.uponIn_enter]
 have hc:=hF w (gd C Fe Fb) (args.map a.eval) (GU st) (by simp[hl]) (fun k hk=>by
  have hk':k<args.length:=by omega
  obtain⟨h1,h2,h3⟩:=hb k hk' hk;obtain⟨F,hv,_⟩:=c3 st h1 (c6 h2);have:=hv.pur h2;subst this
  have e:(args.map a.eval).getD k undef=a.eval args[k]:=by simp[List.getD_eq_getElem?_getD,hk']
  rw[e]
  exact hv.noL h3)
 simp only[List.map_toArray];refine⟨(fun h=>by cases h),(R2 (Calls.mono hc ?_))⟩;rintro e w' ⟨v,F,rfl,hext,hnd,hnew,hv⟩;refine hK _ _ ⟨ρ,upd Fe t F,Fb,st.ext ht hext hnd hnew ?_⟩
 have hput:(a.put (some t) v).tmps[t]? = some v:=by rw[v7 a t v t (by rw[st.size];exact ht)];simp
 refine RV.slot ?_ hput;refine hv.mono (fun _ _ _=>rfl) (fun b hb hl=>?_) (fun id hid=>hid.elim);have hlt:=st.lt
 have hno:∀ b,own Fe Fb b->¬ ((gd C Fe Fb b∨w.heap.size<=b)):=fun b ho hb=>by
  rcases hb with hb|hb
  ·exact hb.2 ho
  ·have:=hlt b ho;omega
 refine⟨hb.1.elim (fun h=>h.1) (fun h=>st.okN b h), ?_⟩;rintro (⟨u,hu⟩|ho)
 ·by_cases hut:u=t
  ·subst hut;simp at hu;exact hb.2 hu
  ·rw[q8 hut] at hu;exact hno b (.inl ⟨u,hu⟩) hb.1
 ·exact hno b (.inr ho) hb.1
end Go.Sx

namespace Go.Sx
variable{P:Program}{C:Ctx}{σ σ' σ1:Sg}{a:Act}{w w':World}{ρ:Nat->Nat}{Fe Fe' Fb:Nat->List Nat}
theorem SR_same{G G' L L':Nat->Prop}{u:Nat}{d:D}{F:List Nat}(h:SR w ρ G L a u d F)
 (hh:∀ b,b<w.heap.size->w'.heap[b]? = w.heap[b]?) (hg:∀ b,G b->b<w.heap.size->G' b) (hL:∀ i,L i->L' i):SR w' ρ G' L' a u d F:=by
 have hL2:∀ i,L i->L' i/\ρ i=ρ i:=fun i hi=>⟨hL i hi,rfl⟩
 cases d with
 | al s=>exact h
 | alb i off path=>
  obtain⟨hF,hid,x,hx,hs⟩:=h;exact⟨hF,hL i hid,x,hx,by rw[<- hs];exact World.cell?_of_block (hh _ (block_lt_of_cell hs))⟩
 | vw s z lo n=>exact h
 | va i off z n path lo=>exact⟨h.1,hL i h.2.1,h.2.2⟩
 | ep s z i off path=>exact h
 | tup ds=>
  obtain⟨vs,Fs,h1,h2,h3,h4⟩:=h;exact⟨vs,Fs,h1,h2,h3,fun k hk=>(h4 k hk).imp (fun hx=>hx) fun hx=>⟨hx.1,hx.2.mono (fun b _=>hh b) hg hL2⟩⟩
 | dead=>exact h
 | _=>obtain⟨x,hx,hr⟩:=h;exact⟨x,hx,hr.mono (fun b _=>hh b) hg hL2⟩
theorem St.ext(h:St C σ a w)(hw:Ext w w'):St C σ a w':=by
 obtain⟨ρ,Fe,Fb,h⟩:=h
 exact⟨ρ,Fe,Fb,h.size,h.defs,h.pin,fun t d hd=>SR_same (h.env t d hd) hw.block (fun _ hb _=>hb) (fun _ hi=>hi),h.envN,
  fun id d hd=>(h.bx id d hd).mono (fun b _=>hw.block b) (fun _ hb _=>hb) (fun _ hi=>⟨hi,rfl⟩),h.bxN,h.nodE,h.nodB,h.dEE,h.dEB,h.dBB,h.new,
  fun b hb=>⟨(hw.block b (Nat.lt_of_lt_of_le (h.kept b hb).2 h.grown)).trans (h.kept b hb).1,(h.kept b hb).2⟩,hw.os.trans h.os,hw.tape.trans h.tape,hw.output.trans h.output,Nat.le_trans h.grown hw.size,h.gl,fun b hb=>h.okN b (Nat.le_trans hw.size hb),h.okO⟩
theorem St.unwanted{t:Nat}(h:St C σ a w)(ht:t<σ.n):St C (σ.set t (.tup [])) (a.put (some t) undef) w:=by
 obtain⟨ρ,Fe,Fb,h⟩:=h;refine h.putRef ht ⟨[],fun _=>[], ?_,rfl,rfl,fun k hk=>absurd hk (Nat.not_lt_zero _)⟩;rw[v7 a t _ t (by rw[h.size];exact ht)];simp[undef]
theorem St.bool{t:Nat}{b:Bool}(h:St C σ a w)(hg:σ.get t=some (.bool b)):a.tmps[t]? = some (.bool b):=by
 obtain⟨ρ,Fe,Fb,h⟩:=h;obtain⟨v,hv,hr⟩:=(j2 rfl).1 (h.env t _ hg);simp only[VR,D.isAgg,Bool.false_eq_true,if_false] at hr;generalize Fe t=F at hr;cases hr;exact hv
theorem St.tup0{t:Nat}(h:St C σ a w)(hg:σ.get t=some (.tup [])):a.tmps[t]? = some (.tuple #[]):=by
 obtain⟨ρ,Fe,Fb,h⟩:=h;obtain⟨vs,Fs,h1,h2,_⟩:=h.env t _ hg;have:vs=[]:=List.length_eq_zero_iff.1 h2;subst this;exact h1
def Wt(ops:List Oper)(look:Nat->Option D)(o:Oper)(wt:Bool):Prop:=
 match o.guard with
 | none=>wt=true
 | some (g,want)=>∃ og tg,ops[g]? = some og/\og.dst=some tg/\((∃ b,look tg=some (.bool b)/\wt=(b==want))∨(look tg=some (.tup [])/\wt=false))
theorem Wt.ok{ops:List Oper}{look:Nat->Option D}{o:Oper}{wt:Bool}(h:Wt ops look o wt)(hs:St C σ a w)(hl:∀ u x,look u=some x->σ.get u=some x) :
 Region.wanted o (yielded ops.toArray a.tmps)=wt:=by
 unfold Wt at h;unfold Region.wanted
 cases hg:o.guard with
 | none=>rw[hg] at h;exact h.symm
 | some gw=>
  obtain⟨g,want⟩:=gw;rw[hg] at h;obtain⟨og,tg,h1,h2,h3⟩:=h;simp only[yielded,List.getElem?_toArray,h1,Option.bind_some,h2]
  rcases h3 with ⟨b,h4,rfl⟩|⟨h4,rfl⟩
  ·rw[hs.bool (hl _ _ h4)]
   cases b<;>cases want<;>rfl
  ·rw[hs.tup0 (hl _ _ h4)]
   cases want<;>rfl
def tb(m n:Nat):Bool:=Nat.beq (Nat.mod (Nat.div m (Nat.pow 2 n)) 2) 1
def nth(an:List Nat)(i:Nat):Nat:=
 match an,i with
 | [],_=>0
 | x::_,0=>x
 | _::r,i+1=>nth r i
structure It where
 t:Nat
 d:D
 w:Bool
def looks(f:Nat->Nat)(env:List (Nat×D)):List It->Nat->Nat->Option D
 | [],_,u=>lk env u
 | ⟨t,d,w⟩::r,j,u=>bif Nat.beq t u then
  (match f j with
  | 0=>none
  | 1=>lk env u
  | _=>bif w then some d else some (.tup []))
  else looks f env r (j+1) u
def bads(f:Nat->Bool):List (Nat×Nat)->Nat->Bool
 | [],_=>false
 | (k,s)::r,u=>bif Nat.beq s u then(bif f k then true else bads f r u) else bads f r u
def FC:List It->Nat->Nat->Option Nat
 | [],_,_=>none
 | ⟨t,_,_⟩::r,j,u=>bif Nat.beq t u then some j else FC r (j+1) u
def cov(an:List Nat)(g:Nat->Bool)(its:List It)(u k:Nat):Bool:=
 match FC its 0 u with
 | some j=>g j&&tb (nth an j) k
 | none=>false
def facts(an:List Nat)(ks:List (Nat×Nat))(env:List (Nat×D))(its:List It)(i u:Nat):Option D:=
 bif bads (fun k=>!(Nat.beq k i)&&!(tb (nth an k) i)&&!(cov an (fun j=>tb (nth an i) j) its u k)) ks u then none
 else looks (fun j=>bif tb (nth an i) j then 2 else bif tb (nth an j) i then 1 else 0) env its 0 u
def afts(an:List Nat)(dn:Nat->Bool)(ks:List (Nat×Nat))(env:List (Nat×D))(its:List It)(u:Nat):Option D:=
 bif bads (fun k=>dn k&&!(cov an dn its u k)) ks u then none else looks (fun j=>bif dn j then 2 else 1) env its 0 u
def P0(σ:Sg):List (Nat×Nat)->Nat->Sg
 | [],_=>σ
 | (k,s)::r,i=>bif Nat.beq k i then P0 (σ.kill s) r i else P0 σ r i
def AllOps(P:Program)(C:Ctx)(σ:Sg)(ops:List Oper)(an:List Nat)(ks kk:List (Nat×Nat))(its:List It):List Oper->List It->Nat->Prop
 | o::os,⟨t,d,wt⟩::r,i=>(o.dst=some t/\Wt ops (facts an ks σ.env its i) o wt /\
  (wt=true->∀ τ:Sg,(∀ id x,lk σ.bx id=some x->τ.box id=some x)->t<τ.n->(∀ u x,facts an ks σ.env its i u=some x->τ.get u=some x)->OpS P C o τ ((P0 τ kk i).set t d)))/\AllOps P C σ ops an ks kk its os r (i+1)
 | [],_::_,_=>False
 | _,[],_=>True
def picks(f:Nat->Option D):List Nat->List (Nat×D)
 | []=>[]
 | u::r=>match f u with
  | some d=>(u,d)::picks f r
  | none=>picks f r
theorem H6{f:Nat->Option D}{l:List Nat}{u:Nat}{x:D}(h:lk (picks f l) u=some x):f u=some x:=by
 induction l with
 | nil=>cases h
 | cons v r ih=>
  simp only[picks] at h
  cases hf:f v with
  | none=>rw[hf] at h;exact ih h
  | some d=>
   rw[hf] at h;rw[v4] at h;split at h
   ·rename_i hv;subst hv;rw[hf];exact h
   ·exact ih h
theorem St.picks{live:List Nat}{env':List (Nat×D)}{bx':List (Nat×Bx)}{n':Nat}(hs:St C σ a w)(hE:picks σ.get live=env')(hb:σ.bx=bx')(hn:σ.n=n'):St C ⟨n',env',bx'⟩ a w:=
 hs.weaken hn.symm hb.symm fun t d hd=>H6 (f:=σ.get) (l:=live) (by rw[hE];exact hd)
def TL(P:Program)(C:Ctx)(Q:Exit->Sg->Prop):List Oper->Sg->Prop
 | [],σ=>∃ (live:List Nat) (env':List (Nat×D)) (bx':List (Nat×Bx)) (n':Nat),picks σ.get live=env'/\σ.bx=bx'/\σ.n=n'/\Q .normal ⟨n',env',bx'⟩
 | o::r,σ=>o.guard=none/\∃ σ',OpS P C o σ σ'/\TL P C Q r σ'
def YX(ops:List Oper)(an:List Nat)(m:Nat):Bool:=
 (List.range ops.length).all fun i=>match ops[i]? with
  | none=>true
  | some o=>(o.after.toList.all fun e=>!Region.binds .any e||Nat.blt e.on i) &&
   (List.range ops.length).all fun j=>(!tb (nth an i) j||o.after.toList.any fun e=>Region.binds .any e&&(Nat.beq e.on j||tb (nth an e.on) j))&&(Nat.blt i m||!Nat.blt j i||tb (nth an i) j)
def EL(n:Nat):List Nat->Bool
 | []=>true
 | t::r=>Nat.blt t n&&!(r.contains t)&&EL n r
def slots:List It->List Nat
 | []=>[]
 | ⟨t,_,_⟩::r=>t::slots r
def D.rf:D->Option Nat
 | .al s=>some s
 | .vw s _ _ _=>some s
 | .ep s _ _ _ _=>some s
 | _=>none
def has:List (Nat×Nat)->Nat->Nat->Bool
 | [],_,_=>false
 | (a,b)::r,x,y=>bif Nat.beq a x then(bif Nat.beq b y then true else has r x y) else has r x y
def subs:List (Nat×Nat)->List (Nat×Nat)->Bool
 | [],_=>true
 | (a,b)::r,l=>has l a b&&subs r l
theorem KF{l:List (Nat×Nat)}{x y:Nat}(h:has l x y=true):(x,y)∈l:=by
 induction l with
 | nil=>cases h
 | cons p r ih=>
  obtain⟨a,b⟩:=p;simp only[has] at h;by_cases h1:a=x
  ·subst h1;simp only[Nat.beq_refl,cond_true] at h;by_cases h2:b=y
   ·subst h2;simp
   ·rw[nbeq h2] at h;exact List.mem_cons_of_mem _ (ih h)
  ·rw[nbeq h1] at h;exact List.mem_cons_of_mem _ (ih h)
theorem LG{l m:List (Nat×Nat)}(h:subs l m=true):∀ k s,(k,s)∈l->(k,s)∈m:=by
 induction l with
 | nil=>intro k s hm;cases hm
 | cons p r ih=>
  obtain⟨a,b⟩:=p;simp only[subs,Bool.and_eq_true] at h;intro k s hm
  rcases List.mem_cons.1 hm with he|hm
  ·cases he;exact KF h.1
  ·exact ih h.2 k s hm
def LI(an:List Nat)(ks:List (Nat×Nat))(j tj s:Nat):List Nat->Nat->Bool
 | [],_=>true
 | t::r,i=>(bif Nat.beq t s then(bif tb (nth an j) i then true else has ks i tj) else true)&&LI an ks j tj s r (i+1)
def YK(an:List Nat)(ks:List (Nat×Nat))(ts:List Nat):List It->Nat->Bool
 | [],_=>true
 | ⟨t,d,_⟩::r,j=>(match d.rf with
  | none=>true
  | some s=>LI an ks j t s ts 0)&&YK an ks ts r (j+1)
def LW(s:Nat):List Nat->Bool
 | []=>true
 | t::r=>!(Nat.beq t s)&&LW s r
def YJ(ts:List Nat):List (Nat×D)->Bool
 | []=>true
 | (_,d)::r=>(match d.rf with
  | none=>true
  | some s=>LW s ts)&&YJ ts r
theorem MF{t:Nat}{d:D}(h:d.rf≠some t):scrub t d=d:=by
 cases d with
 | al s=>simp only[scrub];rw[nbeq (fun e=>h (by simp[D.rf,e]))];rfl
 | vw s _ _ _=>simp only[scrub];rw[nbeq (fun e=>h (by simp[D.rf,e]))];rfl
 | ep s _ _ _ _=>simp only[scrub];rw[nbeq (fun e=>h (by simp[D.rf,e]))];rfl
 | _=>rfl
theorem notIn_ok{s:Nat}{ts:List Nat}(h:LW s ts=true):s∉ts:=by
 induction ts with
 | nil=>simp
 | cons t r ih=>
  simp only[LW,Bool.and_eq_true,Bool.not_eq_true'] at h;intro hm
  rcases List.mem_cons.1 hm with rfl|hm
  ·simp at h
  ·exact ih h.2 hm
theorem QE{ts:List Nat}{env:List (Nat×D)}(h:YJ ts env=true){u:Nat}{x:D}(hx:lk env u=some x){t:Nat}(ht:t∈ts):x.rf≠some t:=by
 induction env with
 | nil=>cases hx
 | cons y r ih=>
  obtain⟨k,d⟩:=y;simp only[YJ,Bool.and_eq_true] at h;rw[v4] at hx;split at hx
  ·cases hx;intro he;rw[he] at h;exact notIn_ok h.1 ht
  ·exact ih h.2 hx
theorem refOk_ok{an:List Nat}{ks:List (Nat×Nat)}{j tj s:Nat}{ts:List Nat}{i0:Nat}(h:LI an ks j tj s ts i0=true){i:Nat}(hi:ts[i]? = some s):tb (nth an j) (i0+i)=true∨(i0+i,tj)∈ks:=by
 induction ts generalizing i0 i with
 | nil=>simp at hi
 | cons t r ih=>
  simp only[LI,Bool.and_eq_true] at h
  cases i with
  | zero=>
   simp at hi;subst hi;have h1:=h.1;simp only[Nat.beq_refl,cond_true] at h1
   cases ht:tb (nth an j) i0 with
   | true=>exact .inl (by simp)
   | false=>rw[ht] at h1;exact .inr (by simpa using KF h1)
  | succ i=>have:=ih h.2 (i:=i) (by simpa using hi);rw[show i0+(i+1)=i0+1+i by omega];exact this
theorem NF{an:List Nat}{ks:List (Nat×Nat)}{ts:List Nat}{its:List It}{j0:Nat}(h:YK an ks ts its j0=true){k t i s:Nat}{d:D}{wt:Bool}(hk:its[k]? = some ⟨t,d,wt⟩)(hs:d.rf=some s)(hi:ts[i]? = some s) :
 tb (nth an (j0+k)) i=true∨(i,t)∈ks:=by
 induction its generalizing j0 k with
 | nil=>simp at hk
 | cons y r ih=>
  obtain⟨t',d',w'⟩:=y;simp only[YK,Bool.and_eq_true] at h
  cases k with
  | zero=>
   simp at hk;obtain⟨rfl,rfl,rfl⟩:=hk;rw[hs] at h;have:=refOk_ok h.1 hi;simpa using this
  | succ k=>have:=ih h.2 (k:=k) (by simpa using hk);rw[show j0+(k+1)=j0+1+k by omega];exact this
theorem Z4(its:List It)(k:Nat):(slots its)[k]? = (its[k]?).map (·.t):=by
 induction its generalizing k with
 | nil=>simp[slots]
 | cons y r ih=>
  obtain⟨t,d,wt⟩:=y
  cases k with
  | zero=>simp[slots]
  | succ k=>simp[slots,ih]
theorem Y6{n:Nat}{ts:List Nat}(h:EL n ts=true):ts.Nodup/\∀ t∈ts,t<n:=by
 induction ts with
 | nil=>simp
 | cons t r ih=>
  simp only[EL,Bool.and_eq_true,Bool.not_eq_true'] at h;have h1:=ih h.2
  have h2:t<n:=by simpa [Nat.blt_eq] using h.1.1
  refine⟨List.nodup_cons.2 ⟨by simpa using h.1.2,h1.1⟩,fun x hx=>?_⟩
  rcases List.mem_cons.1 hx with rfl|hx
  ·exact h2
  ·exact h1.2 x hx
theorem n5{f:Nat->Nat}{env:List (Nat×D)}{its:List It}{j u:Nat}(h:u∉slots its):looks f env its j u=lk env u:=by
 induction its generalizing j with
 | nil=>rfl
 | cons y r ih=>
  obtain⟨t,d,wt⟩:=y;simp only[slots,List.mem_cons,not_or] at h;simp only[looks];rw[nbeq (fun e=>h.1 e.symm)];exact ih h.2
theorem Q4{f:Nat->Nat}{env:List (Nat×D)}{its:List It}{j u k:Nat}{d:D}{wt:Bool}(hn:(slots its).Nodup)(hk:its[k]? = some ⟨u,d,wt⟩) :
 looks f env its j u=(match f (j+k) with
  | 0=>none
  | 1=>lk env u
  | _=>bif wt then some d else some (.tup [])):=by
 induction its generalizing j k with
 | nil=>simp at hk
 | cons y r ih=>
  obtain⟨t,d',wt'⟩:=y;simp only[slots,List.nodup_cons] at hn
  cases k with
  | zero=>
   simp at hk;obtain⟨rfl,rfl,rfl⟩:=hk;simp[looks]
  | succ k=>
   have hk':r[k]? = some ⟨u,d,wt⟩:=by simpa using hk
   have hm:u∈slots r:=by
    have:=Z4 r k;rw[hk'] at this;exact List.mem_of_getElem? this
   simp only[looks];rw[nbeq (show ¬ t=u from fun e=>hn.1 (by rw[e];exact hm))];simp only[cond_false];rw[ih hn.2 hk',show j+(k+1)=j+1+k by omega]
theorem n4(its:List It)(u:Nat):u∉slots its∨∃ (k:Nat) (d:D) (wt:Bool),its[k]? = some (⟨u,d,wt⟩:It):=by
 by_cases h:u∈slots its
 ·obtain⟨k,hk⟩:=List.getElem?_of_mem h;rw[Z4] at hk
  cases hi:its[k]? with
  | none=>rw[hi] at hk;simp at hk
  | some it=>
   rw[hi] at hk;obtain⟨t,d,wt⟩:=it;simp at hk;subst hk;exact .inr ⟨k,d,wt,hi⟩
 ·exact .inl h
theorem K4{f:Nat->Bool}{ks:List (Nat×Nat)}{u:Nat}:bads f ks u=false↔∀ k s,(k,s)∈ks->s=u->f k=false:=by
 induction ks with
 | nil=>simp[bads]
 | cons y r ih=>
  obtain⟨k,s⟩:=y;simp only[bads];by_cases hs:s=u
  ·subst hs;simp only[Nat.beq_refl,cond_true]
   cases hf:f k with
   | true=>
    simp only[cond_true];constructor
    ·intro h;cases h
    ·intro h;have:=h k s (by simp) rfl;rw[hf] at this;exact this
   | false=>
    simp only[cond_false,ih];constructor
    ·intro h k' s' hm hs'
     rcases List.mem_cons.1 hm with he|hm
     ·cases he;exact hf
     ·exact h k' s' hm hs'
    ·intro h k' s' hm hs';exact h k' s' (List.mem_cons_of_mem _ hm) hs'
  ·simp only[nbeq hs,cond_false,ih];constructor
   ·intro h k' s' hm hs'
    rcases List.mem_cons.1 hm with he|hm
    ·cases he;exact absurd hs' hs
    ·exact h k' s' hm hs'
   ·intro h k' s' hm hs';exact h k' s' (List.mem_cons_of_mem _ hm) hs'
theorem DI{σ:Sg}{ks:List (Nat×Nat)}{i u:Nat}(h:∀ k s,(k,s)∈ks->s=u->k≠i):(P0 σ ks i).get u=σ.get u:=by
 induction ks generalizing σ with
 | nil=>rfl
 | cons y r ih=>
  obtain⟨k,s⟩:=y;simp only[P0];by_cases hk:k=i
  ·subst hk;simp only[Nat.beq_refl,cond_true];rw[ih (fun k' s' hm hs'=>h k' s' (List.mem_cons_of_mem _ hm) hs'),O0];have:¬ u=s:=fun e=>h k s (by simp) e.symm rfl;simp[this]
  ·simp only[nbeq hk,cond_false];exact ih (fun k' s' hm hs'=>h k' s' (List.mem_cons_of_mem _ hm) hs')
theorem RU(σ:Sg)(ks:List (Nat×Nat))(i:Nat):(P0 σ ks i).n=σ.n/\(P0 σ ks i).bx=σ.bx:=by
 induction ks generalizing σ with
 | nil=>exact⟨rfl,rfl⟩
 | cons y r ih=>
  obtain⟨k,s⟩:=y;simp only[P0];by_cases hk:k=i
  ·subst hk;simp only[Nat.beq_refl,cond_true];exact ih _
  ·simp only[nbeq hk,cond_false];exact ih _
theorem AllOps.at{ops:List Oper}{an:List Nat}{ks kk:List (Nat×Nat)}{its:List It}:∀ {os:List Oper} {r:List It} {i0:Nat},AllOps P C σ ops an ks kk its os r i0->∀ {k:Nat} {t:Nat} {d:D} {wt:Bool},r[k]? = some ⟨t,d,wt⟩ ->
 ∃ o,os[k]? = some o/\o.dst=some t/\Wt ops (facts an ks σ.env its (i0+k)) o wt /\
  (wt=true->∀ τ:Sg,(∀ id x,lk σ.bx id=some x->τ.box id=some x)->t<τ.n->(∀ u x,facts an ks σ.env its (i0+k) u=some x->τ.get u=some x)->OpS P C o τ ((P0 τ kk (i0+k)).set t d)):=by
 intro os r
 induction r generalizing os with
 | nil=>intro i0 _ k t d wt hk;simp at hk
 | cons y r ih=>
  intro i0 h k t d wt hk;obtain⟨t',d',w'⟩:=y
  cases os with
  | nil=>exact h.elim
  | cons o os=>
   cases k with
   | zero=>
    simp at hk;obtain⟨rfl,rfl,rfl⟩:=hk;exact⟨o,rfl,h.1⟩
   | succ k=>
    obtain⟨o',h1,h2⟩:=ih h.2 (k:=k) (by simpa using hk);rw[show i0+(k+1)=i0+1+k by omega];exact⟨o',by simpa using h1,h2⟩
structure ItOk(P:Program)(C:Ctx)(σ:Sg)(ops:List Oper)(an:List Nat)(ks kk:List (Nat×Nat))(its:List It):Prop where
 len:its.length<=ops.length
 ts:EL σ.n (slots its)=true
 all:AllOps P C σ ops an ks kk its ops its 0
 ref:YK an ks (slots its) its 0=true
 sub:subs kk ks=true
 env:YJ (slots its) σ.env=true
section
variable{listed:Array Bool}{ops:List Oper}{an:List Nat}{ks kk:List (Nat×Nat)}{its:List It}{Q:Exit->Sg->Prop}
theorem U2{m:Nat}(h:YX ops an m=true){i:Nat}{o:Oper}(ho:ops[i]? = some o) :
 (∀ e∈o.after,Region.binds .any e=true->e.on<i) /\
 ∀ j,j<ops.length->(tb (nth an i) j=true->∃ e∈o.after,Region.binds .any e=true/\(e.on=j∨tb (nth an e.on) j=true))/\(m<=i->j<i->tb (nth an i) j=true):=by
 have hi:i<ops.length:=(List.getElem?_eq_some_iff.1 ho).1;have:=List.all_eq_true.1 h i (List.mem_range.2 hi);rw[ho] at this;simp only[Bool.and_eq_true,List.all_eq_true,List.mem_range] at this;obtain⟨h1,h2⟩:=this;refine⟨fun e he hb=>?_,fun j hj=>?_⟩
 ·have:=h1 e (by simpa using he);simpa [hb,Nat.blt_eq] using this
 ·obtain⟨h3,h4⟩:=h2 j hj;refine⟨fun ht=>?_,fun hm hj'=>?_⟩
  ·rw[ht] at h3;simp only[Bool.not_true,Bool.false_or,List.any_eq_true,Bool.and_eq_true,Bool.or_eq_true] at h3;obtain⟨e,he,hb,h5⟩:=h3;exact⟨e,by simpa using he,hb,h5.imp (fun h=>Nat.eq_of_beq_eq_true h) id⟩
  ·have e1:Nat.blt i m=false:=by
    cases hb:Nat.blt i m with
    | false=>rfl
    | true=>rw[Nat.blt_eq] at hb;omega
   have e2:Nat.blt j i=true:=by rw[Nat.blt_eq];exact hj'
   simpa [e1,e2] using h4
structure Cl(ops:List Oper)(listed:Array Bool):Prop where
 size:listed.size=ops.length
 cl:∀ i o,ops[i]? = some o->listed.getD i false=true->∀ e∈o.after,Region.binds .any e=true->listed.getD e.on false=true
theorem Cl.anc{m:Nat}(hc:Cl ops listed)(h:YX ops an m=true):∀ i,i<ops.length->listed.getD i false=true->∀ j,j<ops.length->tb (nth an i) j=true->listed.getD j false=true:=by
 intro i
 induction i using Nat.strongRecOn with
 | _ i ih=>
  intro hi hd j hj ht;have ho:ops[i]? = some ops[i]:=List.getElem?_eq_getElem hi;obtain⟨h1,h2⟩:=U2 h ho;obtain⟨e,he,hb,h3⟩:=(h2 j hj).1 ht;have hd':=hc.cl i _ ho hd e he hb
  rcases h3 with rfl|h3
  ·exact hd'
  ·have:=h1 e he hb;exact ih e.on this (by omega) hd' j hj h3
theorem Q2{listed:Array Bool}{i:Nat}(h:listed.getD i false=true):i<listed.size:=by
 rcases Nat.lt_or_ge i listed.size with h'|h'
 ·exact h'
 ·simp[Array.getElem?_eq_none h'] at h
theorem undone{listed:Array Bool}{i:Nat}(h:listed.getD i true=false):i<listed.size/\listed.getD i false=false:=by
 rcases Nat.lt_or_ge i listed.size with h'|h'
 ·simp[h'] at h ⊢;exact h
 ·simp[Array.getElem?_eq_none h'] at h
theorem Cl.set(hc:Cl ops listed){i:Nat}{o:Oper}(ho:ops[i]? = some o)(hr:∀ e∈o.after,Region.binds .any e=true->listed.getD e.on false=true):Cl ops (listed.setIfInBounds i true):=by
 refine⟨by simp[hc.size],fun j oj hj hd e he hb=>?_⟩;by_cases hji:i=j
 ·subst hji;rw[ho] at hj;cases hj;exact getD_set_true (hr e he hb)
 ·rw[getD_set_ne false hji] at hd;exact getD_set_true (hc.cl j oj hj hd e he hb)
theorem count_set{listed:Array Bool}{i:Nat}(h:listed.getD i true=false):(listed.setIfInBounds i true).toList.count false+1=listed.toList.count false:=by
 obtain⟨h1,h2⟩:=undone h;simp only[Array.toList_setIfInBounds];rw[List.count_set (by simpa using h1)]
 have h3:listed.toList[i]'(by simpa using h1)=false:=by simp[h1] at h2;simpa using h2
 have h4:0<listed.toList.count false:=List.count_pos_iff.2 (by rw[<- h3];exact List.getElem_mem _);have e1:(false==false)=true:=rfl;have e2:(true==false)=false:=rfl;simp only[h3,e1,e2,if_true,Bool.false_eq_true,if_false];omega
theorem e9{listed:Array Bool}(h:listed.toList.count false=0)(i:Nat):listed.getD i true=true:=by
 rcases Nat.lt_or_ge i listed.size with h'|h'
 ·cases hb:listed[i] with
  | true=>simp[h',hb]
  | false=>
   have:=List.count_eq_zero.1 h;exact absurd (by rw[<- hb];simp) this
 ·simp[Array.getElem?_eq_none h']
theorem s9{m:Nat}(hok:YX ops an m=true):∀ (l:List Oper) (k:Nat) (fuel:Nat) (listed:Array Bool) (a:Act) (w:World) (σ:Sg),ops.drop k=l->m<=k->k<=ops.length->Cl ops listed->listed.toList.count false<=fuel ->
 (∀ j,j<k->listed.getD j false=true)->(∀ j,k<=j->j<ops.length->listed.getD j true=false)->St C σ a w->TL P C Q l σ ->
 wpAnyIn (Fx C) 3 P .any ops.toArray (fun e a' w'=>∃ σ',St C σ' a' w'/\Q e σ') fuel listed a w:=by
 intro l
 induction l with
 | nil=>
  intro k fuel listed a w σ hl hmk hkl hc hf h1 h2 hs ht
  have hk:k=ops.length:=by
   have:=congrArg List.length hl;simp at this;omega
  have hr:Region.ready .any ops.toArray listed=[]:=by
   rw[List.eq_nil_iff_forall_not_mem];intro i hi;obtain⟨h3,o,h4,h5⟩:=mem_ready.1 hi;obtain⟨h6,h7⟩:=undone h3;rw[hc.size] at h6;rw[h1 i (by omega)] at h7;cases h7
  obtain⟨live,env',bx',n',p1,p2,p4,p3⟩:=ht;exact wpAnyIn_done hr ⟨_,hs.picks p1 p2 p4,p3⟩ fuel
 | cons o l ih=>
  intro k fuel listed a w σ hl hmk hkl hc hf h1 h2 hs ⟨hg,σ',hop,ht⟩
  have hk:k<ops.length:=by
   rcases Nat.lt_or_ge k ops.length with h|h
   ·exact h
   ·rw[List.drop_eq_nil_of_le h] at hl;cases hl
  have ho:ops[k]? = some o:=by
   have:=List.drop_eq_getElem_cons hk;rw[this] at hl;rw[List.getElem?_eq_getElem hk];exact congrArg some (List.cons.inj hl).1
  have hl':ops.drop (k+1)=l:=by
   have:=List.drop_eq_getElem_cons hk;rw[this] at hl;exact(List.cons.inj hl).2
  have hun:=h2 k (Nat.le_refl _) hk
  have hpos:0<listed.toList.count false:=by have:=count_set hun;omega
  obtain⟨fuel,rfl⟩:∃ n,fuel=n+1:=⟨fuel-1,by omega⟩
  refine⟨fun hr=>?_,fun i hi=>?_⟩
  ·exfalso;have:k∈Region.ready .any ops.toArray listed:=mem_ready.2 ⟨hun,o,by simpa using ho,fun e he hb=>h1 e.on ((U2 hok ho).1 e he hb)⟩;rw[hr] at this;cases this
  ·obtain⟨h3,oi,h4,h5⟩:=mem_ready.1 hi
   have hi4:ops[i]? = some oi:=by simpa using h4
   obtain⟨h6,h7⟩:=undone h3;rw[hc.size] at h6
   have hik:i=k:=by
    rcases Nat.lt_trichotomy i k with h|h|h
    ·rw[h1 i h] at h7;cases h7
    ·exact h
    ·exfalso;obtain⟨_,h9⟩:=U2 hok hi4;obtain⟨h10,h11⟩:=h9 k hk;obtain⟨e,he,hb,h12⟩:=h10 (h11 (by omega) h);have hd:=h5 e he hb
     have hkd:listed.getD k false=true:=by
      rcases h12 with rfl|h12
      ·exact hd
      ·exact hc.anc hok e.on (by rw[<- hc.size];exact Q2 hd) hd k hk h12
     rw[(undone hun).2] at hkd;cases hkd
   subst hik;rw[ho] at hi4;cases hi4;unfold Go.wpOpIn;simp only[h4,Region.wanted,hg,if_true];refine(hop a w hs _ _ fun a' w' hs'=>?_);refine ih (i+1) fuel _ a' w' σ' hl' (by omega) (by omega) (hc.set ho h5) (by have:=count_set h3;omega) ?_ ?_ hs' ht
   ·intro j hj;by_cases hji:i=j
    ·subst hji;simp[hc.size,hk]
    ·rw[getD_set_ne false hji];exact h1 j (by omega)
   ·intro j hj hj2;rw[getD_set_ne true (by omega)];exact h2 j (by omega) hj2
theorem VX{its:List It}{j0 u j:Nat}(h:FC its j0 u=some j):∃ (k:Nat) (d:D) (wt:Bool),j=j0+k/\its[k]? = some (⟨u,d,wt⟩:It):=by
 induction its generalizing j0 with
 | nil=>cases h
 | cons y r ih=>
  obtain⟨t,d,wt⟩:=y;simp only[FC] at h;by_cases ht:t=u
  ·subst ht;simp only[Nat.beq_refl,cond_true,Option.some.injEq] at h;exact⟨0,d,wt,by omega,rfl⟩
  ·rw[nbeq ht] at h;obtain⟨k,d',w',h1,h2⟩:=ih h;exact⟨k+1,d',w',by omega,by simpa using h2⟩
theorem O1{an:List Nat}{g:Nat->Bool}{its:List It}{u k:Nat}(h:cov an g its u k=true):∃ (j:Nat) (d:D) (wt:Bool),FC its 0 u=some j/\its[j]? = some (⟨u,d,wt⟩:It)/\g j=true/\tb (nth an j) k=true:=by
 unfold cov at h
 cases hi:FC its 0 u with
 | none=>rw[hi] at h;cases h
 | some j=>
  rw[hi] at h;simp only[Bool.and_eq_true] at h;obtain⟨k',d,wt,h1,h2⟩:=VX hi
  have:j=k':=by omega
  subst this;exact⟨j,d,wt,rfl,h2,h.1,h.2⟩
theorem JK{an:List Nat}{g:Nat->Bool}{its:List It}{u k j:Nat}(hi:FC its 0 u=some j)(h1:g j=true)(h2:tb (nth an j) k=true):cov an g its u k=true:=by
 unfold cov;rw[hi];simp[h1,h2]
def AI(σ:Sg)(an:List Nat)(ks:List (Nat×Nat))(its:List It)(listed:Array Bool)(τ:Sg):Prop:=
 τ.n=σ.n/\τ.bx=σ.bx/\∀ u x,afts an (fun j=>listed.getD j false) ks σ.env its u=some x->τ.get u=some x
theorem CJ(H:ItOk P C σ ops an ks kk its)(hsize:listed.size=ops.length){i:Nat}{oi:Oper}(hi:i<its.length)(ho:ops[i]? = some oi)(hun:listed.getD i true=false)
 (hanc:∀ j,j<ops.length->tb (nth an i) j=true->listed.getD j false=true) (hnot:∀ j,j<ops.length->tb (nth an j) i=true->listed.getD j false=false)
 {τ:Sg} (hs:St C τ a w) (hinv:AI σ an ks its listed τ) {K:Act->World->Prop} {Q':Exit->Act->World->Prop}
 (hK:∀ a' w' τ',St C τ' a' w'->AI σ an ks its (listed.setIfInBounds i true) τ'->K a' w') :
 Region.wanted oi (yielded ops.toArray a.tmps)=true/\oi.wpIn (Fx C) 3 P a w K Q'∨Region.wanted oi (yielded ops.toArray a.tmps)=false/\K (a.put oi.dst undef) w:=by
 obtain⟨hnd,hlt⟩:=Y6 H.ts
 obtain⟨⟨t,d,wt⟩,hit⟩:∃ it,its[i]? = some it:=⟨its[i],List.getElem?_eq_getElem hi⟩
 obtain⟨o,ho',hdst,hwt,hop⟩:=H.all.at hit;rw[ho] at ho';cases ho';simp only[Nat.zero_add] at hwt hop;obtain⟨hin,hif⟩:=undone hun
 have hil:i<ops.length:=by rw[<- hsize];exact hin
 have hfact:∀ u x,facts an ks σ.env its i u=some x->τ.get u=some x:=by
  intro u x hx;refine hinv.2.2 u x ?_;unfold facts at hx;unfold afts
  cases hb:bads (fun k=>!(Nat.beq k i)&&!(tb (nth an k) i)&&!(cov an (fun j=>tb (nth an i) j) its u k)) ks u with
  | true=>rw[hb] at hx;cases hx
  | false=>
   rw[hb] at hx;simp only[cond_false] at hx
   have hb2:bads (fun j=>listed.getD j false&&!(cov an (fun j=>listed.getD j false) its u j)) ks u=false:=by
    rw[K4] at hb ⊢;intro k s hm hsu;have:=hb k s hm hsu
    cases hd:listed.getD k false with
    | false=>rfl
    | true=>
     have hk:k<ops.length:=by rw[<- hsize];exact Q2 hd
     have hki:k≠i:=by rintro rfl;rw[hif] at hd;cases hd
     rw[nbeq hki] at this
     cases ht:tb (nth an k) i with
     | true=>rw[hnot k hk ht] at hd;cases hd
     | false=>
      rw[ht] at this;simp only[Bool.not_false,Bool.true_and,Bool.not_eq_false'] at this;obtain⟨j,dj,wj,h1,h2,h3,h4⟩:=O1 this;have hjl:j<ops.length:=Nat.lt_of_lt_of_le (List.getElem?_eq_some_iff.1 h2).1 H.len;rw[JK (g:=fun j=>listed.getD j false) h1 (hanc j hjl h3) h4];rfl
   rw[hb2];simp only[cond_false]
   rcases n4 its u with hu|⟨k,dk,wk,hk⟩
   ·rw[n5 hu] at hx ⊢;exact hx
   ·rw[Q4 hnd hk] at hx ⊢;simp only[Nat.zero_add] at hx ⊢;have hkl:k<ops.length:=Nat.lt_of_lt_of_le (List.getElem?_eq_some_iff.1 hk).1 H.len
    cases h1:tb (nth an i) k with
    | true=>rw[h1] at hx;rw[hanc k hkl h1];exact hx
    | false=>
     rw[h1] at hx
     cases h2:tb (nth an k) i with
     | true=>rw[h2] at hx;rw[hnot k hkl h2];exact hx
     | false=>rw[h2] at hx;cases hx
 have htn:t<τ.n:=by
  rw[hinv.1];exact hlt t (List.mem_of_getElem? (i:=i) (by rw[Z4,hit];rfl))
 -- what holds afterwards
 have hafter:∀ (x:D),x=(bif wt then d else .tup [])->∀ τ2:Sg,τ2.n=τ.n->τ2.bx=τ.bx->(∀ u,(∀ k s,(k,s)∈ks->s=u->k≠i)->τ2.get u=τ.get u)->AI σ an ks its (listed.setIfInBounds i true) (τ2.set t x):=by
  intro x hx τ2 hn2 hb2 hg2;refine⟨hn2.trans hinv.1,hb2.trans hinv.2.1,fun u y hy=>?_⟩;unfold afts at hy
  cases hbd:bads (fun j=>(listed.setIfInBounds i true).getD j false&&!(cov an (fun j=>(listed.setIfInBounds i true).getD j false) its u j)) ks u with
  | true=>rw[hbd] at hy;cases hy
  | false=>
   rw[hbd] at hy;simp only[cond_false] at hy;rw[K4] at hbd;rw[m7]
   have hcov:u≠t->∀ k,cov an (fun j=>(listed.setIfInBounds i true).getD j false) its u k=true->cov an (fun j=>listed.getD j false) its u k=true/\k≠i:=by
    intro hut k hc;obtain⟨j,dj,wj,h1,h2,h3,h4⟩:=O1 hc
    have hji:i≠j:=by
     rintro rfl;rw[hit] at h2;cases h2;exact hut rfl
    rw[getD_set_ne false hji] at h3;refine⟨JK h1 h3 h4, ?_⟩;rintro rfl;have hjl:j<ops.length:=Nat.lt_of_lt_of_le (List.getElem?_eq_some_iff.1 h2).1 H.len;rw[hnot j hjl h4] at h3;cases h3
   have hki:u≠t->∀ k s,(k,s)∈ks->s=u->k≠i:=by
    rintro hut k s hm hsu rfl;have h1:=hbd k s hm hsu
    have h2:(listed.setIfInBounds k true).getD k false=true:=by simp[hin]
    rw[h2] at h1;simp only[Bool.true_and,Bool.not_eq_false'] at h1;exact(hcov hut k h1).2 rfl
   have hbd2:u≠t->bads (fun j=>listed.getD j false&&!(cov an (fun j=>listed.getD j false) its u j)) ks u=false:=by
    intro hut;rw[K4];intro k s hm hsu;have h1:=hbd k s hm hsu;have h2:=hki hut k s hm hsu;rw[getD_set_ne false (fun e=>h2 e.symm)] at h1
    cases hd:listed.getD k false with
    | false=>rfl
    | true=>
     rw[hd] at h1;simp only[Bool.true_and,Bool.not_eq_false'] at h1 ⊢;exact(hcov hut k h1).1
   by_cases hut:u=t
   ·subst hut;rw[Q4 hnd hit] at hy
    have e:(listed.setIfInBounds i true).getD (0+i) false=true:=by simp[hin]
    rw[e] at hy;simp only[cond_true] at hy;simp only[if_true,hx]
    cases wt<;>exact hy
   ·have hki:=hki hut;have hbd2:=hbd2 hut;simp only[hut,if_false,hg2 u hki]
    have hold:afts an (fun j=>listed.getD j false) ks σ.env its u=some y/\y.rf≠some t:=by
     unfold afts;rw[hbd2];simp only[cond_false]
     rcases n4 its u with hu|⟨k,dk,wk,hk⟩
     ·rw[n5 hu] at hy ⊢;exact⟨hy,QE H.env hy (List.mem_of_getElem? (i:=i) (by rw[Z4,hit];rfl))⟩
     ·rw[Q4 hnd hk] at hy ⊢;simp only[Nat.zero_add] at hy ⊢
      have hne:i≠k:=by
       rintro rfl;rw[hit] at hk;cases hk;exact hut rfl
      rw[getD_set_ne false hne] at hy;refine⟨hy, ?_⟩
      cases hd:listed.getD k false with
      | false=>
       rw[hd] at hy;exact QE H.env hy (List.mem_of_getElem? (i:=i) (by rw[Z4,hit];rfl))
      | true=>
       rw[hd] at hy;simp only[cond_true] at hy
       cases wk with
       | false=>simp at hy;subst hy;simp[D.rf]
       | true=>
        simp at hy;subst hy;intro hrf;have:=NF H.ref hk hrf (i:=i) (by rw[Z4,hit];rfl);simp only[Nat.zero_add] at this
        rcases this with this|this
        ·rw[hnot k (by rw[<- hsize];exact Q2 hd) this] at hd;cases hd
        ·exact hki i u this rfl rfl
    rw[hinv.2.2 u y hold.1];simp only[Option.map_some,MF hold.2]
 rw[hwt.ok hs hfact]
 cases hwt2:wt with
 | false=>
  refine .inr ⟨rfl, ?_⟩;rw[hdst];exact hK _ _ _ (hs.unwanted htn) (hafter (.tup []) (by rw[hwt2];rfl) τ rfl rfl (fun _ _=>rfl))
 | true=>
  refine .inl ⟨rfl,hop hwt2 τ (fun id x hx=>by simp only[Sg.box,hinv.2.1];exact hx) htn hfact a w hs _ _ fun a' w' hs'=>?_⟩;have hkn:=RU τ kk i;exact hK _ _ _ hs' (hafter d (by rw[hwt2];rfl) _ hkn.1 hkn.2 (fun u hu=>DI (fun k s hm=>hu k s (LG H.sub k s hm))))
theorem ZF{t:Nat}(hall:∀ j d wt,its[j]? = some (⟨t,d,wt⟩:It)->listed.getD j false=true)(hb:bads (fun k=>true&&!(cov an (fun _=>true) its t k)) ks t=false) :
 bads (fun j=>listed.getD j false&&!(cov an (fun j=>listed.getD j false) its t j)) ks t=false:=by
 rw[K4] at hb ⊢;intro k s hm hsu;have:=hb k s hm hsu;simp only[Bool.true_and,Bool.not_eq_false'] at this;obtain⟨j,dj,wj,h1,h2,_,h4⟩:=O1 this;rw[JK (g:=fun j=>listed.getD j false) h1 (hall j dj wj h2) h4];simp
theorem CX(hA:YX ops an its.length=true)(H:ItOk P C σ ops an ks kk its){live:List Nat}{env':List (Nat×D)}(hE:picks (afts an (fun _=>true) ks σ.env its) live=env')
 (hT:TL P C Q (ops.drop its.length) ⟨σ.n,env',σ.bx⟩):∀ (fuel:Nat) (listed:Array Bool) (a:Act) (w:World) (τ:Sg),Cl ops listed->listed.toList.count false<=fuel ->
 (∀ j,its.length<=j->j<ops.length->listed.getD j true=false)->St C τ a w->AI σ an ks its listed τ ->
 wpAnyIn (Fx C) 3 P .any ops.toArray (fun e a' w'=>∃ σ',St C σ' a' w'/\Q e σ') fuel listed a w:=by
 intro fuel
 induction fuel with
 | zero=>
  intro listed a w τ hc hf h2 hs hinv;by_cases hall:∀ j,j<its.length->listed.getD j false=true
  ·refine s9 hA _ its.length 0 listed a w ⟨σ.n,env',σ.bx⟩ rfl (Nat.le_refl _) H.len hc hf hall h2 (hs.weaken hinv.1.symm hinv.2.1.symm fun t d hd=>hinv.2.2 t d ?_) hT;have:=H6 (f:=afts an (fun _=>true) ks σ.env its) (l:=live) (by rw[hE];exact hd);have hz:∀ j,listed.getD j true=true:=e9 (by omega);unfold afts at this ⊢
   cases hb:bads (fun k=>true&&!(cov an (fun _=>true) its t k)) ks t with
   | true=>rw[hb] at this;cases this
   | false=>
    rw[hb] at this;rw[ZF (fun j dj wj hj=>hall j (List.getElem?_eq_some_iff.1 hj).1) hb];simp only[cond_false] at this ⊢
    rcases n4 its t with hu|⟨k,dk,wk,hk⟩
    ·rw[n5 hu] at this ⊢;exact this
    ·rw[Q4 (Y6 H.ts).1 hk] at this ⊢;simp only[Nat.zero_add] at this ⊢;rw[hall k (List.getElem?_eq_some_iff.1 hk).1];exact this
  ·exfalso;apply hall;intro j hj;have:=e9 (listed:=listed) (by omega) j
   have hjl:j<listed.size:=by rw[hc.size];have:=H.len;omega
   simp[hjl] at this ⊢;exact this
 | succ fuel ih=>
  intro listed a w τ hc hf h2 hs hinv;by_cases hall:∀ j,j<its.length->listed.getD j false=true
  ·refine s9 hA _ its.length (fuel+1) listed a w ⟨σ.n,env',σ.bx⟩ rfl (Nat.le_refl _) H.len hc hf hall h2 (hs.weaken hinv.1.symm hinv.2.1.symm fun t d hd=>hinv.2.2 t d ?_) hT;have:=H6 (f:=afts an (fun _=>true) ks σ.env its) (l:=live) (by rw[hE];exact hd);unfold afts at this ⊢
   cases hb:bads (fun k=>true&&!(cov an (fun _=>true) its t k)) ks t with
   | true=>rw[hb] at this;cases this
   | false=>
    rw[hb] at this;rw[ZF (fun j dj wj hj=>hall j (List.getElem?_eq_some_iff.1 hj).1) hb];simp only[cond_false] at this ⊢
    rcases n4 its t with hu|⟨k,dk,wk,hk⟩
    ·rw[n5 hu] at this ⊢;exact this
    ·rw[Q4 (Y6 H.ts).1 hk] at this ⊢;simp only[Nat.zero_add] at this ⊢;rw[hall k (List.getElem?_eq_some_iff.1 hk).1];exact this
  ·-- some one is not yet done
   have hsome:∃ j,j<its.length/\listed.getD j true=false:=by
    rcases Classical.not_forall.1 hall with ⟨j,hj⟩
    rcases Classical.not_imp.1 hj with ⟨hj1,hj2⟩
    refine⟨j,hj1, ?_⟩
    have hjl:j<listed.size:=by rw[hc.size];have:=H.len;omega
    simp[hjl] at hj2 ⊢;exact hj2
   have key:∀ n j,j=n->j<its.length->listed.getD j true=false->∃ k,k∈Region.ready .any ops.toArray listed:=by
    intro n
    induction n using Nat.strongRecOn with
    | _ n ihn=>
     intro j hjn hj hu;have hjl:j<ops.length:=Nat.lt_of_lt_of_le hj H.len;have ho:ops[j]? = some ops[j]:=List.getElem?_eq_getElem hjl;by_cases hr:∀ e∈ops[j].after,Region.binds .any e=true->listed.getD e.on false=true
     ·exact⟨j,mem_ready.2 ⟨hu,_,by simp,hr⟩⟩
     ·rcases Classical.not_forall.1 hr with ⟨e,he⟩
      rcases Classical.not_imp.1 he with ⟨he1,he2⟩
      rcases Classical.not_imp.1 he2 with ⟨he3,he4⟩
      have hlt:=(U2 hA ho).1 e he1 he3;refine ihn e.on (by omega) e.on rfl (by omega) ?_
      have hel:e.on<listed.size:=by rw[hc.size];omega
      simp[hel] at he4 ⊢;exact he4
   obtain⟨j0,hj0,hu0⟩:=hsome;refine⟨fun hr=>?_,fun i hi=>?_⟩
   ·obtain⟨k,hk⟩:=key j0 j0 rfl hj0 hu0;rw[hr] at hk;cases hk
   ·obtain⟨h3,oi,h4,h5⟩:=mem_ready.1 hi
    have ho:ops[i]? = some oi:=by simpa using h4
    have hil:i<ops.length:=(List.getElem?_eq_some_iff.1 ho).1
    have him:i<its.length:=by
     rcases Nat.lt_or_ge i its.length with h|h
     ·exact h
     ·exfalso;obtain⟨_,h9⟩:=U2 hA ho;have hj0l:j0<ops.length:=Nat.lt_of_lt_of_le hj0 H.len;obtain⟨h10,h11⟩:=h9 j0 hj0l;obtain⟨e,he,hb,h12⟩:=h10 (h11 h (by omega));have hd:=h5 e he hb
      have hkd:listed.getD j0 false=true:=by
       rcases h12 with rfl|h12
       ·exact hd
       ·exact hc.anc hA e.on (by rw[<- hc.size];exact Q2 hd) hd j0 hj0l h12
      rw[(undone hu0).2] at hkd;cases hkd
    have hsp:=(U2 hA ho).2;have hif:=(undone h3).2
    have hanc:∀ j,j<ops.length->tb (nth an i) j=true->listed.getD j false=true:=by
     intro j hj ht;obtain⟨e,he,hb,h1⟩:=(hsp j hj).1 ht;have hd:=h5 e he hb
     rcases h1 with rfl|h1
     ·exact hd
     ·exact hc.anc hA e.on (by rw[<- hc.size];exact Q2 hd) hd j hj h1
    have hnot:∀ j,j<ops.length->tb (nth an j) i=true->listed.getD j false=false:=by
     intro j hj ht
     cases hd:listed.getD j false with
     | false=>rfl
     | true=>have:=hc.anc hA j hj hd i hil ht;rw[hif] at this;cases this
    suffices hK:∀ a' w' τ',St C τ' a' w'->AI σ an ks its (listed.setIfInBounds i true) τ'->wpAnyIn (Fx C) 3 P .any ops.toArray (fun e a' w'=>∃ σ',St C σ' a' w'/\Q e σ') fuel (listed.setIfInBounds i true) a' w' by
     unfold Go.wpOpIn;simp only[h4]
     rcases CJ H hc.size him ho h3 hanc hnot hs hinv hK with ⟨e1,e2⟩|⟨e1,e2⟩
     ·simp only[e1,if_true];exact e2
     ·simp only[e1,Bool.false_eq_true,if_false];exact⟨fun _ _=>trivial,e2⟩
    intro a' w' τ' hs' hinv';refine ih _ a' w' τ' (hc.set ho h5) (by have:=count_set h3;omega) (fun j hj hjl=>?_) hs' hinv';rw[getD_set_ne true (by omega)];exact h2 j hj hjl
theorem w7{id m n':Nat}{bx':List (Nat×Bx)}(hm:P.follows .mixedOrders=true)(hA0:YX ops an m=true)(hlen:its.length=m)(H:ItOk P C σ ops an ks kk its){live:List Nat}{env':List (Nat×D)}(hE:picks (afts an (fun _=>true) ks σ.env its) live=env')
 (hb:σ.bx=bx') (hn:σ.n=n') (hT:TL P C Q (ops.drop its.length) ⟨n',env',bx'⟩):W P C (.region id ops.toArray true) Q σ:=by
 intro a w hs;refine wpIn_region_any hm ?_
 have hc:Cl ops (Array.replicate ops.toArray.size false):=⟨by simp,fun i o _ hd=>by
  have:=Q2 hd;simp at this
  simp[this] at hd⟩
 have hA:YX ops an its.length=true:=by rw[hlen];exact hA0
 subst hb;subst hn;refine CX hA H hE hT _ _ a _ σ hc ?_ ?_ (hs.ext (Ext.drew w)) ⟨rfl,rfl,fun u x hx=>?_⟩
 ·simp
 ·intro j _ hj;simp[hj]
 ·unfold afts at hx;generalize hb:bads _ ks u=bb at hx
  cases bb with
  | true=>cases hx
  | false=>
   simp only[cond_false] at hx
   rcases n4 its u with hu|⟨k,dk,wk,hk⟩
   ·rw[n5 hu] at hx;exact hx
   ·rw[Q4 (Y6 H.ts).1 hk] at hx
    have e:(Array.replicate ops.toArray.size false).getD (0+k) false=false:=by
     simp only[Array.getD_eq_getD_getElem?,Array.getElem?_replicate]
     split<;>rfl
    rw[e] at hx;exact hx
def B7:Nat->Nat->List Nat
 | 0,_=>[]
 | n+1,m=>m::B7 n (2*m+1)
theorem nth_upTo(n m i:Nat)(h:i<n):nth (B7 n (2^m-1)) i=2^(m+i)-1:=by
 induction n generalizing m i with
 | zero=>omega
 | succ n ih=>
  simp only[B7]
  have e:2*(2^m-1)+1=2^(m+1)-1:=by
   have:=Nat.two_pow_pos m;rw[Nat.pow_succ];omega
  cases i with
  | zero=>rfl
  | succ i=>
   simp only[nth];rw[e,ih (m+1) i (by omega),show m+1+i=m+(i+1) by omega]
theorem BG(n m i:Nat)(h:n<=i):nth (B7 n m) i=0:=by
 induction n generalizing m i with
 | zero=>cases i<;>rfl
 | succ n ih=>
  cases i with
  | zero=>omega
  | succ i=>simp only[B7,nth];exact ih _ _ (by omega)
theorem tb_full(i j:Nat):tb (2^i-1) j=true↔j<i:=by
 unfold tb;have e:Nat.mod (Nat.div (2^i-1) (Nat.pow 2 j)) 2=(2^i-1)/2^j%2:=rfl;rw[e,Nat.beq_eq];constructor
 ·intro h
  rcases Nat.lt_or_ge j i with h1|h1
  ·exact h1
  ·exfalso
   have h2:(2^i-1)/2^j=0:=Nat.div_eq_of_lt (by
    have:=Nat.pow_le_pow_right (show 0<2 by omega) h1;have:=Nat.two_pow_pos i
    omega)
   rw[h2] at h;omega
 ·intro h
  obtain⟨k,rfl⟩:∃ k,i=j+(k+1):=⟨i-j-1,by omega⟩
  have h2:(2^(j+(k+1))-1)/2^j=2^(k+1)-1:=by
   rw[Nat.pow_add];have hp:=Nat.two_pow_pos j;have hq:=Nat.two_pow_pos (k+1)
   obtain⟨q,hq'⟩:∃ q,2^(k+1)=q+1:=⟨2^(k+1)-1,by omega⟩
   rw[hq']
   have:2^j*(q+1)-1=(2^j-1)+2^j*q:=by rw[Nat.mul_add];omega
   rw[this,Nat.add_mul_div_left _ _ hp,Nat.div_eq_of_lt (by omega)];omega
  rw[h2,Nat.pow_succ];have hq:=Nat.two_pow_pos k;omega
theorem JH{n i j:Nat}:tb (nth (B7 n 0) i) j=true↔j<i/\i<n:=by
 by_cases h:i<n
 ·have:=nth_upTo n 0 i h;simp only[Nat.pow_zero,Nat.sub_self,Nat.zero_add] at this;rw[this,tb_full];exact⟨fun h1=>⟨h1,h⟩,fun h1=>h1.1⟩
 ·rw[BG n 0 i (by omega)];constructor
  ·intro h1;exfalso;unfold tb at h1;have e:Nat.mod (Nat.div 0 (Nat.pow 2 j)) 2=0/2^j%2:=rfl;rw[e] at h1;simp at h1
  ·intro h1;omega
theorem TL.wpList{l:List Oper}(h:TL P C Q l σ):WL P C ops.toArray l Q σ:=by
 induction l generalizing σ with
 | nil=>
  obtain⟨live,env',bx',n',p1,p2,p4,p3⟩:=h
  exact fun a w hs=>⟨_,hs.picks p1 p2 p4,p3⟩
 | cons o l ih=>
  obtain⟨h1,σ',h2,h3⟩:=h;exact WL.cons h1 h2 (ih h3)
theorem VZ{n:Nat}(hn:ops.length<=n)(H:ItOk P C σ ops (B7 n 0) ks kk its){live:List Nat}{env':List (Nat×D)}(hE:picks (afts (B7 n 0) (fun _=>true) ks σ.env its) live=env')
 (hT:TL P C Q (ops.drop its.length) ⟨σ.n,env',σ.bx⟩):∀ (l:List Oper) (k:Nat) (listed:Array Bool) (a:Act) (w:World) (τ:Sg),ops.drop k=l->k<=its.length->listed.size=ops.length ->
 (∀ j,j<k->listed.getD j false=true)->(∀ j,k<=j->j<ops.length->listed.getD j true=false)->St C τ a w->AI σ (B7 n 0) ks its listed τ ->
 wpListIn (Fx C) 3 P ops.toArray (fun e a' w'=>∃ σ',St C σ' a' w'/\Q e σ') l a w:=by
 intro l
 have fin:∀ (listed:Array Bool) (τ:Sg) (a:Act) (w:World),(∀ j,j<its.length->listed.getD j false=true)->St C τ a w->AI σ (B7 n 0) ks its listed τ->St C ⟨σ.n,env',σ.bx⟩ a w:=by
  intro listed τ a w hall hs hinv;refine hs.weaken hinv.1.symm hinv.2.1.symm fun t d hd=>hinv.2.2 t d ?_;have:=H6 (f:=afts (B7 n 0) (fun _=>true) ks σ.env its) (l:=live) (by rw[hE];exact hd);unfold afts at this ⊢
  cases hb:bads (fun k=>true&&!(cov (B7 n 0) (fun _=>true) its t k)) ks t with
  | true=>rw[hb] at this;cases this
  | false=>
   rw[hb] at this;rw[ZF (fun j dj wj hj=>hall j (List.getElem?_eq_some_iff.1 hj).1) hb];simp only[cond_false] at this ⊢
   rcases n4 its t with hu|⟨k,dk,wk,hk⟩
   ·rw[n5 hu] at this ⊢;exact this
   ·rw[Q4 (Y6 H.ts).1 hk] at this ⊢;simp only[Nat.zero_add] at this ⊢;rw[hall k (List.getElem?_eq_some_iff.1 hk).1];exact this
 induction l with
 | nil=>
  intro k listed a w τ hl hk hsz h1 h2 hs hinv
  have hkl:ops.length<=k:=by
   have:=congrArg List.length hl;simp at this;omega
  have hke:k=its.length:=by have:=H.len;omega
  subst hke;rw[hl] at hT;obtain⟨live,env',bx',n',p1,p2,p4,p3⟩:=hT;exact⟨_,(fin listed τ a w h1 hs hinv).picks p1 p2 p4,p3⟩
 | cons o l ih=>
  intro k listed a w τ hl hk hsz h1 h2 hs hinv;by_cases hke:k=its.length
  ·subst hke;rw[<- hl];exact hT.wpList (ops:=ops) a w (fin listed τ a w h1 hs hinv)
  ·have hki:k<its.length:=by omega
   have hkl:k<ops.length:=Nat.lt_of_lt_of_le hki H.len;have hd:=List.drop_eq_getElem_cons hkl;rw[hd] at hl;obtain⟨ho,hl'⟩:=List.cons.inj hl
   have ho':ops[k]? = some o:=by rw[List.getElem?_eq_getElem hkl,ho]
   have hun:=h2 k (Nat.le_refl _) hkl
   have hK:∀ a' w' τ',St C τ' a' w'->AI σ (B7 n 0) ks its (listed.setIfInBounds k true) τ'->wpListIn (Fx C) 3 P ops.toArray (fun e a' w'=>∃ σ',St C σ' a' w'/\Q e σ') l a' w':=by
    intro a' w' τ' hs' hinv';refine ih (k+1) _ a' w' τ' hl' (by omega) (by simp[hsz]) (fun j hj=>?_) (fun j hj hjl=>?_) hs' hinv'
    ·by_cases hjk:k=j
     ·subst hjk;simp[hsz,hkl]
     ·rw[getD_set_ne false hjk];exact h1 j (by omega)
    ·rw[getD_set_ne true (by omega)];exact h2 j (by omega) hjl
   have hst:=CJ H hsz hki ho' hun (fun j hj ht=>h1 j (JH.1 ht).1) (fun j hj ht=>by
    have:=(JH.1 ht).1
    exact(undone (h2 j (by omega) hj)).2) hs hinv hK (Q':=fun e a' w'=>∃ σ',St C σ' a' w'/\Q e σ')
   simp only[wpListIn]
   rcases hst with ⟨e1,e2⟩|⟨e1,e2⟩
   ·simp only[e1,if_true];exact e2
   ·simp only[e1,Bool.false_eq_true,if_false];exact⟨fun _ _=>trivial,e2⟩
theorem JX{id n n':Nat}{bx':List (Nat×Bx)}(hn:ops.length<=n)(H:ItOk P C σ ops (B7 n 0) ks kk its){live:List Nat}{env':List (Nat×D)}(hE:picks (afts (B7 n 0) (fun _=>true) ks σ.env its) live=env')
 (hb:σ.bx=bx') (hn':σ.n=n') (hT:TL P C Q (ops.drop its.length) ⟨n',env',bx'⟩):W P C (.region id ops.toArray false) Q σ:=by
 subst hb;subst hn';intro a w hs;refine wpIn_region_lit ?_;refine VZ hn H hE hT ops 0 (Array.replicate ops.length false) a w σ rfl (Nat.zero_le _) (by simp) (fun j hj=>absurd hj (Nat.not_lt_zero _)) (fun j _ hj=>by simp[hj]) hs ⟨rfl,rfl,fun u x hx=>?_⟩;unfold afts at hx;generalize hb:bads _ ks u=bb at hx
 cases bb with
 | true=>cases hx
 | false=>
  simp only[cond_false] at hx
  rcases n4 its u with hu|⟨k,dk,wk,hk⟩
  ·rw[n5 hu] at hx;exact hx
  ·rw[Q4 (Y6 H.ts).1 hk] at hx
   have e:(Array.replicate ops.length false).getD (0+k) false=false:=by
    simp only[Array.getD_eq_getD_getElem?,Array.getElem?_replicate]
    split<;>rfl
   rw[e] at hx;exact hx
theorem W.drop{c:Code}{live:List Nat}{env':List (Nat×D)}{bx':List (Nat×Bx)}{n':Nat}(hE:picks σ.get live=env')(hb:σ.bx=bx')(hn:σ.n=n')(h:W P C c Q ⟨n',env',bx'⟩):W P C c Q σ:=by
 intro a w hs;refine h a w (hs.weaken hn.symm hb.symm fun t d hd=>?_);exact H6 (f:=σ.get) (l:=live) (by rw[hE];exact hd)
end
end Go.Sx

namespace Go.Sx
variable{P:Program}{C:Ctx}{σ σ' σ1:Sg}{a:Act}{w w':World}{ρ:Nat->Nat}{Fe Fe' Fb:Nat->List Nat}
def seta{α:Type}(id:Nat)(b:α):List (Nat×α)->List (Nat×α)
 | []=>[]
 | (k,x)::r=>bif Nat.beq k id then(k,b)::r else(k,x)::seta id b r
theorem lk_seta{α:Type}(id:Nat)(b:α)(l:List (Nat×α))(u:Nat):lk (seta id b l) u=if u=id then(lk l u).map (fun _=>b) else lk l u:=by
 induction l with
 | nil=>simp[seta,lk]
 | cons x r ih=>
  obtain⟨k,d⟩:=x;simp only[seta];by_cases hk:k=id
  ·subst hk;simp only[Nat.beq_refl,cond_true,v4];by_cases hu:k=u
   ·subst hu;simp
   ·simp[hu,show ¬ u=k from fun e=>hu e.symm]
  ·simp only[nbeq hk,cond_false,v4,ih];by_cases hku:k=u
   ·subst hku;simp[hk]
   ·simp[hku]
def Sg.upd(σ:Sg)(s:Nat)(d:D):Sg:={ σ with env:=seta s d σ.env }
theorem M5(σ:Sg)(s:Nat)(d:D)(u:Nat):(σ.upd s d).get u=if u=s then(σ.get u).map (fun _=>d) else σ.get u:=by simp[Sg.get,Sg.upd,lk_seta]
@[simp] theorem SG (σ:Sg) (s:Nat) (d:D) (id:Nat):(σ.upd s d).box id=σ.box id:=rfl
@[simp] theorem n_upd (σ:Sg) (s:Nat) (d:D):(σ.upd s d).n=σ.n:=rfl
theorem PR{G G' L L':Nat->Prop}{u:Nat}{d:D}{F:List Nat}(h:SR w ρ G L a u d F)
 (hh:∀ b,(G b∨b∈F)->b<w.heap.size->w'.heap[b]? = w.heap[b]?) (hg:∀ b,G b->b<w.heap.size->G' b) (hL:∀ i,L i->L' i)
 (hc:∀ i off v,L i->w.cell? ⟨ρ i,off,none⟩=some v->w'.cell? ⟨ρ i,off,none⟩=some v):SR w' ρ G' L' a u d F:=by
 have hL2:∀ i,L i->L' i/\ρ i=ρ i:=fun i hi=>⟨hL i hi,rfl⟩
 cases d with
 | al s=>exact h
 | alb i off path=>
  obtain⟨hF,hid,x,hx,hs⟩:=h;exact⟨hF,hL i hid,x,hx,hc i off x hid hs⟩
 | vw s z lo n=>exact h
 | va i off z n path lo=>exact⟨h.1,hL i h.2.1,h.2.2⟩
 | ep s z i off path=>exact h
 | tup ds=>
  obtain⟨vs,Fs,h1,h2,h3,h4⟩:=h;refine⟨vs,Fs,h1,h2,h3,fun k hk=>(h4 k hk).imp (fun hx=>hx) fun hx=>⟨hx.1,hx.2.mono (fun b hb=>hh b (hb.imp (fun hx=>hx) fun hm=>?_)) hg hL2⟩⟩;rw[h3];exact List.mem_flatMap.2 ⟨k,List.mem_range.2 hk,hm⟩
 | dead=>exact h
 | _=>obtain⟨x,hx,hr⟩:=h;exact⟨x,hx,hr.mono hh hg hL2⟩
theorem StW.turn{s:Nat}{d d':D}{F:List Nat}(h:StW C σ a w ρ Fe Fb)(hg0:σ.get s=some d)
 (hos:w'.os=w.os) (htape:TpR w' w) (hout:w'.output=w.output) (hsize:w.heap.size<=w'.heap.size)
 (hblk:∀ b,b<w.heap.size->b∉Fe s->w'.heap[b]? = w.heap[b]?)
 (hF:F.Nodup) (hFs:∀ b∈F,b∈Fe s∨w.heap.size<=b)
 (hv:SR w' ρ (gd C (Go.Sx.upd Fe s F) Fb) (fun id=>(σ.box id).isSome) a s d' F) :
 StW C (σ.upd s d') a w' ρ (Go.Sx.upd Fe s F) Fb:=by
 have hlt:=h.lt;have hso:∀ b,b∈Fe s->own Fe Fb b:=fun b hb=>.inl ⟨s,hb⟩
 have ho:∀ b,own (Go.Sx.upd Fe s F) Fb b->own Fe Fb b∨w.heap.size<=b:=by
  rintro b (⟨u,hu⟩|hid)
  ·by_cases hus:u=s
   ·subst hus;simp at hu;exact(hFs b hu).imp (hso b) id
   ·rw[q8 hus] at hu;exact .inl (.inl ⟨u,hu⟩)
  ·exact .inl (.inr hid)
 have hg:∀ b,gd C Fe Fb b->b<w.heap.size->gd C (Go.Sx.upd Fe s F) Fb b:=fun b hb hl=>⟨hb.1,fun hc=>by
  rcases ho b hc with h1|h1
  ·exact hb.2 h1
  ·omega⟩
 have hh:∀ b,gd C Fe Fb b->b<w.heap.size->w'.heap[b]? = w.heap[b]?:=fun b hb hl=>hblk b hl (fun hm=>hb.2 (hso b hm))
 have hc:∀ id off v,(σ.box id).isSome=true->w.cell? ⟨ρ id,off,none⟩=some v->w'.cell? ⟨ρ id,off,none⟩=some v:=by
  intro id off v hid hc;have hl:=block_lt_of_cell hc;rw[<- hc];refine World.cell?_of_block (hblk _ hl ?_);intro hm
  cases hb:σ.box id with
  | none=>simp[hb] at hid
  | some x=>exact h.dEB s id _ hm (h.bx id x hb).mem
 refine⟨h.size,h.defs,h.pin, ?_, ?_, ?_,h.bxN, ?_,h.nodB, ?_, ?_,h.dBB, ?_, ?_,hos.trans h.os,htape.trans h.tape,hout.trans h.output,Nat.le_trans h.grown hsize,h.gl,fun b hb=>h.okN b (Nat.le_trans hsize hb),fun b hb=>(ho b hb).elim (h.okO b) (fun h1=>h.okN b h1)⟩
 ·intro u x hx;rw[M5] at hx;by_cases hus:u=s
  ·subst hus;simp[hg0] at hx;subst hx;rw[j3];exact hv
  ·simp only[hus,if_false] at hx;rw[q8 hus]
   exact PR (h.env u x hx) (fun b hb hl=>by
    rcases hb with hb|hb
    ·exact hh b hb hl
    ·exact hblk b hl (fun hm=>h.dEE u s hus b hb hm)) hg (fun _ hi=>hi) hc
 ·intro u hu;rw[M5] at hu;by_cases hus:u=s
  ·subst hus;simp[hg0] at hu
  ·simp only[hus,if_false] at hu;rw[q8 hus];exact h.envN u hu
 ·intro id x hx;refine(h.bx id x hx).mono (fun b hb hl=>?_) hg (fun _ hi=>⟨hi,rfl⟩)
  rcases hb with hb|hb
  ·exact hh b hb hl
  ·exact hblk b hl (fun hm=>h.dEB s id b hm hb)
 ·intro u;by_cases hus:u=s
  ·subst hus;simpa using hF
  ·rw[q8 hus];exact h.nodE u
 ·intro u u' huu b hb hb'
  have key:∀ u,u≠s->b∈Fe u->b∈F->False:=by
   intro u hus hb hbF
   rcases hFs b hbF with h1|h1
   ·exact h.dEE u s hus b hb h1
   ·have:=hlt b (.inl ⟨u,hb⟩);omega
  by_cases hus:u=s
  ·subst hus;simp at hb;rw[q8 (fun e=>huu e.symm)] at hb';exact key u' (fun e=>huu e.symm) hb' hb
  ·rw[q8 hus] at hb;by_cases hus':u'=s
   ·subst hus';simp at hb';exact key u hus hb hb'
   ·rw[q8 hus'] at hb';exact h.dEE u u' huu b hb hb'
 ·intro u id b hb hb';by_cases hus:u=s
  ·subst hus;simp at hb
   rcases hFs b hb with h1|h1
   ·exact h.dEB u id b h1 hb'
   ·have:=hlt b (.inr ⟨id,hb'⟩);omega
  ·rw[q8 hus] at hb;exact h.dEB u id b hb hb'
 ·intro b hb hk
  rcases ho b hb with h1|h1
  ·exact h.new b h1 hk
  ·have:=(h.kept b hk).2;have:=h.grown;omega
 ·intro b hk;have hkb:=h.kept b hk;exact⟨(hblk b (Nat.lt_of_lt_of_le hkb.2 h.grown) (fun hm=>h.new b (hso b hm) hk)).trans hkb.1,hkb.2⟩
def ownr(σ:Sg)(s s0:Nat):Prop:=s=s0∨σ.get s=some (.al s0)
theorem T5(st:StW C σ a w ρ Fe Fb){s s0 e z:Nat}{l:List D}(h:ownr σ s s0)(hs:σ.get s0=some (.sl (some e) z l)) :
 ∃ v,a.tmps[s]? = some v/\a.tmps[s0]? = some v/\Rc w ρ (gd C Fe Fb) (fun id=>(σ.box id).isSome) true (.sl (some e) z l) [v] (Fe s0):=by
 obtain⟨v,hv,hr⟩:=(j2 rfl).1 (st.env _ _ hs);simp only[VR,D.isAgg,Bool.false_eq_true,if_false] at hr
 rcases h with rfl|h
 ·exact⟨v,hv,hv,hr⟩
 ·obtain⟨_,x,h1,h2⟩:=st.env _ _ h;rw[hv] at h2;cases h2;exact⟨v,h1,hv,hr⟩
theorem Rc.updE{G L:Nat->Prop}{z i off:Nat}{path:List Nat}{l:List D}{d1 d' x:D}{cs xs:List Value}{Fs:Nat->List Nat}{Fx:List Nat}
 (hr:∀ j (h:j<l.length),Rc w ρ G L false l[j] ((cs.drop (j*z)).take z) (Fs j)) (hF:((List.range l.length).flatMap Fs).Nodup) (hlen:l.length*z<=cs.length) (hi:i<l.length)
 (hl:l[i].loc path=some (off,d1)) (hu:l[i].upd path x=some d') (hz:x.sz=d1.sz) (hx:Rc w ρ G L false x xs Fx) (hFx:Fx.Nodup) (hdis:∀ b∈Fx,b∉(List.range l.length).flatMap Fs)
 (harr:Fx=[]∨l[i].noArr path=true) :
 i*z+off+xs.length<=cs.length/\∃ Fs':Nat->List Nat,(∀ j (h:j<(l.set i d').length),Rc w ρ G L false (l.set i d')[j] (((cs.take (i*z+off)++xs++cs.drop (i*z+off+xs.length)).drop (j*z)).take z) (Fs' j)) /\
  (∀ b∈(List.range l.length).flatMap Fs',b∈(List.range l.length).flatMap Fs∨b∈Fx)/\((List.range l.length).flatMap Fs').Nodup:=by
 obtain⟨hn1,hn2⟩:=Y9 hF;have him:∀ b∈Fs i,b∈(List.range l.length).flatMap Fs:=fun b hb=>List.mem_flatMap.2 ⟨i,List.mem_range.2 hi,hb⟩;obtain⟨F',h1,h2,h3,h4,h5⟩:=(hr i hi).upd hl hu hz hx (hn1 i hi) hFx (fun b hb hb'=>hdis b hb (him b hb')) harr;obtain⟨_,_,_,hl3⟩:=(hr i hi).loc hl;have hxl:=hx.len
 have hkz:i*z+z<=l.length*z:=by
  have:=Nat.mul_le_mul_right z (show i+1<=l.length by omega);rw[Nat.add_mul] at this;omega
 have hel:((cs.drop (i*z)).take z).length=z:=by simp;omega
 have hxo:off+xs.length<=z:=by omega
 refine⟨by omega,fun j=>if j=i then F' else Fs j,fun j hj=>?_,fun b hb=>?_, ?_⟩
 ·have hj':j<l.length:=by simpa using hj
  by_cases hji:j=i
  ·subst hji;simp only[List.getElem_set_self,if_true];rw[r9 _ _ _ _ _ (by omega) (by omega)];exact h1
  ·simp only[List.getElem_set_ne (fun e=>hji e.symm),hji,if_false];rw[X4 _ _ _ _ _ (by omega) ?_]
   ·exact hr j hj'
   ·rcases Nat.lt_or_gt_of_ne hji with hlt|hlt
    ·left;have:(j+1)*z<=i*z:=Nat.mul_le_mul_right z hlt;rw[Nat.add_mul] at this;omega
    ·right;have:(i+1)*z<=j*z:=Nat.mul_le_mul_right z hlt;rw[Nat.add_mul] at this;omega
 ·obtain⟨j,hj,hm⟩:=List.mem_flatMap.1 hb;by_cases hji:j=i
  ·subst hji;simp at hm;exact(h2 b hm).imp (him b) id
  ·simp only[hji,if_false] at hm;exact .inl (List.mem_flatMap.2 ⟨j,hj,hm⟩)
 ·refine o9 (fun j hj=>?_) (fun j k hj hk hjk b hb hb'=>?_)
  ·by_cases hji:j=i
   ·simp[hji,h3]
   ·simp only[hji,if_false];exact hn1 j hj
  ·have key:∀ m,m<l.length->m≠i->b∈Fs m->b∈F'->False:=fun m hm hmi h6 h7=>by
    rcases h2 b h7 with h8|h8
    ·exact hn2 m i hm hi hmi b h6 h8
    ·exact hdis b h8 (List.mem_flatMap.2 ⟨m,List.mem_range.2 hm,h6⟩)
   by_cases hji:j=i
   ·subst hji;simp only[if_true] at hb;simp only[show ¬ k=j from fun e=>hjk e.symm,if_false] at hb';exact key k hk (fun e=>hjk e.symm) hb' hb
   ·simp only[hji,if_false] at hb;by_cases hki:k=i
    ·simp only[hki,if_true] at hb';exact key j hj hji hb hb'
    ·simp only[hki,if_false] at hb';exact hn2 j k hj hk hjk b hb hb'
theorem R.stE{p s s0 e z i off:Nat}{path:List Nat}{x:Operand}{l:List D}{d0 d1 d' dx:D}{ty n rt:TypeId}{gg:Bool}{pos:String}{aft:Array Edge}{g:Option (Nat×Bool)}[LdT P ty n gg]
 (h:σ.get p=some (.ep s z i off path)) (ho:ownr σ s s0) (hs:σ.get s0=some (.sl (some e) z l)) (hi:l[i]? = some d0) (hl:d0.loc path=some (off,d1))
 (hx:ev C.gl σ x=some dx) (hxp:dx.pur=true) (hxn:dx.np=true) (hz:dx.sz=n) (hz1:dx.sz=d1.sz) (hu:d0.upd path dx=some d') :
 OpS P C ⟨none,.store ty (.tmp p) x,rt,pos,aft,g⟩ σ (σ.upd s0 (.sl (some e) z (l.set i d'))):=by
 refine OpS.skip rfl fun a w ⟨ρ,Fe,Fb,st⟩=>?_;obtain⟨v,hv,hv0,hr⟩:=T5 st ho hs;obtain⟨_,b,o,len,cap,h1,h2,h3⟩:=st.env _ _ h;rw[hv] at h1;cases h1;obtain⟨hilt,rfl⟩:=List.getElem?_eq_some_iff.1 hi;generalize hFe:Fe s0=F0 at hr;have hnd:=st.nodE s0;rw[hFe] at hnd
 cases hr with
 | slE=>exact absurd hilt (Nat.not_lt_zero _)
 | slO b cs e cap z l Fs hb hc hm hsz ho1 hr=>
 obtain⟨hn1,hn2⟩:=List.nodup_cons.1 hnd;obtain⟨Fx,hvx,_⟩:=c3 st hx (c6 hxp);have hFx:=hvx.pur hxp;subst hFx
 have hdead:dx≠.dead:=by rintro rfl;simp[D.pur] at hxp
 have hxc:=hvx.cells hdead
 have hcl:l.length*z<=cs.toList.length:=by
  have:=Nat.mul_le_mul_right z hc;simp;omega
 obtain⟨hb1,Fs',g1,g2,g3⟩:=Rc.updE hr hn2 hcl hilt hl hu hz1 (hxc.unflag hxn) List.nodup_nil (by simp) (.inl rfl);have hlen:=hxc.len
 have hvs:(a.eval x).cells.size=n:=by simp at hlen;omega
 have hbl:b<w.heap.size:=(Array.getElem?_eq_some_iff.1 hb).1;simp only[Nat.zero_add] at h2;have hin:∀ y∈(List.range l.length).flatMap Fs',y∈(List.range l.length).flatMap Fs:=fun y hy=>(g2 y hy).resolve_right (by simp)
 refine⟨w.setRow b (cs.toList.take (i*z+off)++(a.eval x).cells.toList++cs.toList.drop (i*z+off+(a.eval x).cells.toList.length)).toArray, ?_,ρ,_,Fb,
  st.turn (F:=b::(List.range l.length).flatMap Fs') hs rfl ⟨rfl,Nat.le_refl _⟩ rfl (by simp) (fun b' _ hb'=>setRow_other w b b' _ (fun e=>hb' (by rw[hFe,e];simp))) ?_ ?_ ?_⟩
 ·unfold execOp
  have hbnd:i*z+off+n<=cs.size:=by simp at hb1;omega
  simp only[Instr.storeAt,Instr.sureAddr,w3 h2,Sem.run_bind,Sem.run_pure,Result.andThen_ok,M3 (P:=P) (ty:=ty) hb hvs hbnd hxc.one]
 ·exact List.nodup_cons.2 ⟨fun hm'=>hn1 (hin b hm'),g3⟩
 ·intro y hy;left;rw[hFe]
  rcases List.mem_cons.1 hy with rfl|hy
  ·simp
  ·exact List.mem_cons_of_mem _ (hin y hy)
 ·refine(j2 rfl).2 ⟨_,hv0, ?_⟩;simp only[VR,D.isAgg,Bool.false_eq_true,if_false];have:=Rc.slO (w:=w.setRow b (cs.toList.take (i*z+off)++(a.eval x).cells.toList++cs.toList.drop (i*z+off+(a.eval x).cells.toList.length)).toArray) (ρ:=ρ)
   (G:=gd C (Go.Sx.upd Fe s0 (b::(List.range l.length).flatMap Fs')) Fb) (L:=fun id=>(σ.box id).isSome) (p:=true) b _ e cap z (l.set i d') Fs' (setRow_heap w b cs _ e (0,0) hb) (by simpa using hc) hm
   (by
    simp only[List.size_toArray]
    rw[K1 _ _ _ (by omega)];simp[hsz]) (fun u hu=>by
    simp only[List.mem_append] at hu
    rcases hu with (hu|hu)|hu
    ·exact ho1 u (List.mem_of_mem_take hu)
    ·exact hxc.one u hu
    ·exact ho1 u (List.mem_of_mem_drop hu)) (fun j hj=>by
    have hj':j<l.length:=by simpa using hj
    refine(g1 j hj).mono (fun y hy hyl=>setRow_other w b y _ ?_) (fun y hy _=>⟨hy.1,fun ho'=>hy.2 ?_⟩) (fun id hid=>⟨hid,rfl⟩)
    ·rintro rfl
     rcases hy with hy|hy
     ·exact hy.2 (.inl ⟨s0,by rw[hFe];simp⟩)
     ·exact hn1 (hin _ (List.mem_flatMap.2 ⟨j,List.mem_range.2 hj',hy⟩))
    ·rcases ho' with ⟨u,hu'⟩|hid
     ·by_cases hus:u=s0
      ·subst hus;rw[j3] at hu';refine .inl ⟨u, ?_⟩;rw[hFe]
       rcases List.mem_cons.1 hu' with rfl|hu'
       ·simp
       ·exact List.mem_cons_of_mem _ (hin y hu')
      ·rw[q8 hus] at hu';exact .inl ⟨u,hu'⟩
     ·exact .inr hid)
  simpa using this
end Go.Sx

namespace Go.Sx
variable{P:Program}{C:Ctx}{σ σ' σ1:Sg}{a:Act}{w w':World}{ρ:Nat->Nat}{Fe Fe' Fb:Nat->List Nat}
theorem F4(xs r:List Value)(i n z:Nat)(hx:xs.length=n*z)(hi:i<n):((xs++r).drop (i*z)).take z=(xs.drop (i*z)).take z:=by
 have:(i+1)*z<=n*z:=Nat.mul_le_mul_right z hi;rw[Nat.add_mul] at this;rw[List.drop_append_of_le_length (by omega),List.take_append_of_le_length (by simp;omega)]
theorem l9(xs news r:List Value)(j n m z:Nat)(hx:xs.length=n*z)(hn:news.length=m*z)(hj:j<m) :
 ((xs++(news++r)).drop ((n+j)*z)).take z=(news.drop (j*z)).take z:=by
 rw[show(n+j)*z=n*z+j*z from Nat.add_mul _ _ _,<- List.drop_drop,List.drop_left' hx];exact F4 news r j m z hn hj
def fjoin(n:Nat)(Fs Fs2:Nat->List Nat)(i:Nat):List Nat:=if i<n then Fs i else Fs2 (i-n)
theorem s8{n m:Nat}{Fs Fs2:Nat->List Nat}{b:Nat}(h:b∈(List.range (n+m)).flatMap (fjoin n Fs Fs2)):b∈(List.range n).flatMap Fs∨b∈(List.range m).flatMap Fs2:=by
 obtain⟨i,hi,hm⟩:=List.mem_flatMap.1 h;have hi':=List.mem_range.1 hi;unfold fjoin at hm;split at hm
 ·rename_i h1;exact .inl (List.mem_flatMap.2 ⟨i,List.mem_range.2 h1,hm⟩)
 ·exact .inr (List.mem_flatMap.2 ⟨i-n,List.mem_range.2 (by omega),hm⟩)
theorem JB{n m:Nat}{Fs Fs2:Nat->List Nat}(h1:((List.range n).flatMap Fs).Nodup)(h2:((List.range m).flatMap Fs2).Nodup)(hd:∀ b∈(List.range m).flatMap Fs2,b∉(List.range n).flatMap Fs) :
 ((List.range (n+m)).flatMap (fjoin n Fs Fs2)).Nodup:=by
 obtain⟨a1,a2⟩:=Y9 h1;obtain⟨b1,b2⟩:=Y9 h2;refine o9 (fun i hi=>?_) (fun i j hi hj hij b hb hb'=>?_)
 ·unfold fjoin;split
  ·rename_i h;exact a1 i h
  ·exact b1 (i-n) (by omega)
 ·unfold fjoin at hb hb'
  split at hb<;>split at hb'
  ·rename_i h h';exact a2 i j h h' hij b hb hb'
  ·rename_i h h';exact hd b (List.mem_flatMap.2 ⟨_,List.mem_range.2 (by omega),hb'⟩) (List.mem_flatMap.2 ⟨_,List.mem_range.2 h,hb⟩)
  ·rename_i h h';exact hd b (List.mem_flatMap.2 ⟨_,List.mem_range.2 (by omega),hb⟩) (List.mem_flatMap.2 ⟨_,List.mem_range.2 h',hb'⟩)
  ·rename_i h h';exact b2 (i-n) (j-n) (by omega) (by omega) (by omega) b hb hb'
theorem LC{G L:Nat->Prop}{p:Bool}{b e z cap:Nat}{cur:Array Value}{xs news rest:List Value}{l l':List D}{Fs Fs2:Nat->List Nat}(hb:w.heap[b]? = some (.cells cur e (0,0)))
 (hcur:cur.toList=xs++(news++rest)) (hx:xs.length=l.length*z) (hn:news.length=l'.length*z) (hsz:cur.size=cap*z) (hc:l.length+l'.length<=cap) (hm:cap<=maxLen) (ho:∀ u∈cur.toList,u.oneCell'=true)
 (hr1:∀ i (h:i<l.length),Rc w ρ G L false l[i] ((xs.drop (i*z)).take z) (Fs i)) (hr2:∀ j (h:j<l'.length),Rc w ρ G L false l'[j] ((news.drop (j*z)).take z) (Fs2 j)) :
 Rc w ρ G L p (.sl (some e) z (l++l')) [.slice (some ⟨b,0,none⟩) (l.length+l'.length:Nat) cap] (b::(List.range (l.length+l'.length)).flatMap (fjoin l.length Fs Fs2)):=by
 have:=Rc.slO (w:=w) (ρ:=ρ) (G:=G) (L:=L) (p:=p) b cur e cap z (l++l') (fjoin l.length Fs Fs2) hb (by simpa using hc) hm hsz ho (fun i hi=>by
  rw[hcur];by_cases hil:i<l.length
  ·simp only[List.getElem_append_left hil,fjoin,hil,if_true];rw[F4 _ _ _ _ _ hx hil];exact hr1 i hil
  ·have hi':i<l.length+l'.length:=by simpa using hi
   simp only[List.getElem_append_right (Nat.le_of_not_lt hil),fjoin,hil,if_false];have e1:=l9 xs news rest (i-l.length) l.length l'.length z hx hn (by omega);rw[show l.length+(i-l.length)=i by omega] at e1;rw[e1]
   exact hr2 (i-l.length) (by omega))
 simpa using this
structure Turn(F:List Nat)(w w':World):Prop where
 os:w'.os=w.os
 tape:TpR w' w
 output:w'.output=w.output
 size:w.heap.size<=w'.heap.size
 blk:∀ b,b<w.heap.size->b∉F->w'.heap[b]? = w.heap[b]?
theorem Turn.refl(F:List Nat)(w:World):Turn F w w:=⟨rfl,⟨rfl,Nat.le_refl _⟩,rfl,Nat.le_refl _,fun _ _ _=>rfl⟩
theorem Turn.ofExt{F:List Nat}(h:Ext w w'):Turn F w w':=⟨h.os,⟨h.tape.tp,h.tape.dr⟩,h.output,h.size,fun b hb _=>h.block b hb⟩
theorem HK{zv:Array Value}{n:Nat}(h:zv.toList.all Value.oneCell'=true):∀ u∈(Builtin.zeroCells zv n).toList,u.oneCell'=true:=by
 intro u hu;simp only[Builtin.zeroCells,Array.toList_map,List.mem_map,Array.mem_toList_iff,Array.mem_range] at hu;obtain⟨i,hi,rfl⟩:=hu
 have hpos:0<zv.size:=by
  rcases Nat.eq_zero_or_pos zv.size with h0|h0
  ·rw[h0] at hi;omega
  ·exact h0
 have hlt:=Nat.mod_lt i hpos;rw[getElem!_pos zv (i%zv.size) hlt];exact List.all_eq_true.1 h _ (by simp)
theorem SA{G L:Nat->Prop}{t e z bytes ty:Nat}[hT:SlT P t e][hE:ElT P e z bytes]{d:D}{l l':List D}{v:Value}{F:List Nat}{base:Option Addr}{cap2:Nat}{news:List Value}{Fs2:Nat->List Nat}
 (hd:Rc w ρ G L true d [v] F) (hdd:(d=.nils/\l=[])∨d=.sl (some e) z l) (hFn:F.Nodup)
 (hs:(base=none/\l'=[]/\cap2=0)∨∃ a,base=some a/\∀ j u,news[j]? = some u->w.cell? (a.add j)=some u) (hnl:news.length=l'.length*z) (h1:∀ u∈news,u.oneCell'=true)
 (hr2:∀ j (h:j<l'.length),Rc w ρ G L false l'[j] ((news.drop (j*z)).take z) (Fs2 j)) (hF2:((List.range l'.length).flatMap Fs2).Nodup) (hdis:∀ b∈(List.range l'.length).flatMap Fs2,b∉F) (hGF:∀ b,G b->b∉F)
 (hbytes:(l.length+l'.length)*bytes<=140737488355328) (hmax:l.length+l'.length<=maxLen) :
 ∃ v' w' F',(Builtin.append_ #[t,t] ty #[v,.slice base l'.length cap2]).run P w=.ok v' w'/\Turn F w w'/\F'.Nodup/\(∀ b∈F',b∈F∨b∈(List.range l'.length).flatMap Fs2∨w.heap.size<=b) /\
  ∀ G',(∀ b,G b->b<w.heap.size->G' b)->Rc w' ρ G' L true (.sl (some e) z (l++l')) [v'] F':=by
 obtain⟨i,zv,hi,hsz,hby,hz,hzs,hpos,hone⟩:=hE.i
 have h63:l.length+l'.length<=9223372036854775807:=by simp only[maxLen] at hmax;omega
 -- the new block,when one is made
 have grow:∀ (old:Nat) (xs:List Value) (Fs:Nat->List Nat),(∀ u∈xs,u.oneCell'=true)->xs.length=l.length*z->(∀ j (h:j<l.length),Rc w ρ G L false l[j] ((xs.drop (j*z)).take z) (Fs j)) ->
  ((List.range l.length).flatMap Fs).Nodup->(∀ b∈(List.range l.length).flatMap Fs,b∈F) ->
  ∃ F',Turn F w (w.drew.alloc (.cells (xs.toArray++news.toArray++Builtin.zeroCells zv.cells (grownCap w (l.length+l'.length) old e-(l.length+l'.length))) e))/\F'.Nodup /\
   (∀ b∈F',b∈F∨b∈(List.range l'.length).flatMap Fs2∨w.heap.size<=b) /\
   ∀ G',(∀ b,G b->b<w.heap.size->G' b)->Rc (w.drew.alloc (.cells (xs.toArray++news.toArray++Builtin.zeroCells zv.cells (grownCap w (l.length+l'.length) old e-(l.length+l'.length))) e)) ρ G' L true
    (.sl (some e) z (l++l')) [.slice (some ⟨w.heap.size,0,none⟩) (l.length+l'.length:Nat) (grownCap w (l.length+l'.length) old e)] F':=by
  intro old xs Fs hxo hx hr hnd hsub;have hge:=grownCap_ge w (l.length+l'.length) old e;have hcm:grownCap w (l.length+l'.length) old e<=maxLen:=grownCap_le_maxLen w (l.length+l'.length) old e hmax;have hext:Ext w (w.drew.alloc (.cells (xs.toArray++news.toArray++Builtin.zeroCells zv.cells (grownCap w (l.length+l'.length) old e-(l.length+l'.length))) e)):=(Ext.drew w).trans (Ext.alloc _ _)
  have hnew:∀ b∈(List.range (l.length+l'.length)).flatMap (fjoin l.length Fs Fs2),b<w.heap.size:=by
   intro b hb
   rcases s8 hb with h2|h2
   ·obtain⟨j,hj,hm⟩:=List.mem_flatMap.1 h2;exact(hr j (List.mem_range.1 hj)).lt b hm
   ·obtain⟨j,hj,hm⟩:=List.mem_flatMap.1 h2;exact(hr2 j (List.mem_range.1 hj)).lt b hm
  refine⟨w.heap.size::(List.range (l.length+l'.length)).flatMap (fjoin l.length Fs Fs2),Turn.ofExt hext, ?_, ?_,fun G' hG'=>?_⟩
  ·refine List.nodup_cons.2 ⟨fun hm=>?_,JB hnd hF2 (fun b hb hb'=>hdis b hb (hsub b hb'))⟩;have:=hnew _ hm;omega
  ·intro b hb
   rcases List.mem_cons.1 hb with rfl|hb
   ·exact .inr (.inr (Nat.le_refl _))
   ·rcases s8 hb with h2|h2
    ·exact .inl (hsub b h2)
    ·exact .inr (.inl h2)
  ·refine LC (xs:=xs) (news:=news) (rest:=(Builtin.zeroCells zv.cells (grownCap w (l.length+l'.length) old e-(l.length+l'.length))).toList) (heap_alloc_new w.drew _) ?_ hx hnl ?_ hge hcm ?_ ?_ ?_
   ·simp
   ·simp only[Array.size_append,List.size_toArray,size_zeroCells,hzs,hx,hnl,<- Nat.add_mul]
    congr 1
    omega
   ·intro u hu;simp only[Array.toList_append,List.mem_append] at hu
    rcases hu with (hu|hu)|hu
    ·exact hxo u hu
    ·exact h1 u hu
    ·exact HK hone u hu
   ·exact fun j hj=>(hr j hj).mono (fun b _ hl=>hext.block b hl) hG' (fun id hid=>⟨hid,rfl⟩)
   ·exact fun j hj=>(hr2 j hj).mono (fun b _ hl=>hext.block b hl) hG' (fun id hid=>⟨hid,rfl⟩)
 -- nothing is added
 have stay:∀ (b cap:Nat) (cs:Array Value) (Fs:Nat->List Nat),l'=[]->True:=fun _ _ _ _ _=>trivial
 have nilcase:v=.slice none 0 0->l=[]->F=[] ->
  ∃ v' w' F',(Builtin.append_ #[t,t] ty #[v,.slice base l'.length cap2]).run P w=.ok v' w'/\Turn F w w'/\F'.Nodup/\(∀ b∈F',b∈F∨b∈(List.range l'.length).flatMap Fs2∨w.heap.size<=b) /\
  ∀ G',(∀ b,G b->b<w.heap.size->G' b)->Rc w' ρ G' L true (.sl (some e) z (l++l')) [v'] F':=by
  rintro rfl rfl rfl;by_cases hm:l'.length=0
  ·have hl0:l'=[]:=List.length_eq_zero_iff.1 hm;subst hl0;have hn0:news=[]:=List.length_eq_zero_iff.1 (by simpa using hnl);subst hn0;refine⟨.slice none 0 0,w,[], ?_,Turn.refl _ _,List.nodup_nil,by simp,fun G' _=>?_⟩
   ·rcases hs with ⟨rfl,_,rfl⟩|⟨a,rfl,_⟩ <;>
     simp[Builtin.append_,run_underlying hT.u,sizeOf,typeInfo,hi,Builtin.lenOf,Builtin.firstCells,loadCells,loadCellsFrom]
   ·exact .slN (some e) z
  ·rcases hs with ⟨_,rfl,_⟩|⟨a,rfl,hnews⟩
   ·simp at hm
   ·have hr:=run_append_nil (P:=P) w t ty e i zv hT.u hi hz a l'.length cap2 news (by rw[hsz];exact hnl) hnews (by omega) (by simp at h63;omega) (by rw[hby];simp at hbytes;omega);obtain⟨F',q1,q2,q3,q4⟩:=grow 0 [] (fun _=>[]) (by simp) (by simp) (fun j hj=>by simp at hj) (by simp) (by simp);simp only[List.length_nil,Nat.zero_add,List.nil_append] at q1 q2 q3 q4 ⊢
    have e0:(#[]:Array Value)++news.toArray=news.toArray:=by simp
    simp only[e0] at q1 q4;exact⟨_,_,F',hr,q1,q2,q3,q4⟩
 have empcase:∀ a0:Addr,v=.slice (some a0) 0 0->l=[]->F=[] ->
  ∃ v' w' F',(Builtin.append_ #[t,t] ty #[v,.slice base l'.length cap2]).run P w=.ok v' w'/\Turn F w w'/\F'.Nodup/\(∀ b∈F',b∈F∨b∈(List.range l'.length).flatMap Fs2∨w.heap.size<=b) /\
  ∀ G',(∀ b,G b->b<w.heap.size->G' b)->Rc w' ρ G' L true (.sl (some e) z (l++l')) [v'] F':=by
  rintro a0 rfl rfl rfl;by_cases hm:l'.length=0
  ·have hl0:l'=[]:=List.length_eq_zero_iff.1 hm;subst hl0;have hn0:news=[]:=List.length_eq_zero_iff.1 (by simpa using hnl);subst hn0;refine⟨.slice (some a0) 0 0,w,[], ?_,Turn.refl _ _,List.nodup_nil,by simp,fun G' _=>?_⟩
   ·rcases hs with ⟨rfl,_,rfl⟩|⟨a,rfl,_⟩ <;>
     simp[Builtin.append_,run_underlying hT.u,sizeOf,typeInfo,hi,Builtin.lenOf,Builtin.firstCells,loadCells,loadCellsFrom,storeCells]
   ·exact .slE (some e) z a0
  ·rcases hs with ⟨_,rfl,_⟩|⟨a,rfl,hnews⟩
   ·simp at hm
   ·have hgz:Builtin.nextslicecap (0+l'.length) 0*i.bytes<=281474976710656:=by
     rw[Nat.zero_add,nextslicecap_zero (by omega)];rw[hby];simp at hbytes;omega
    have hr:=run_append_grow (P:=P) (w:=w) t ty e i zv hT.u hi hz a0 0 0 [] (by simp) (by simp) a l'.length cap2 news (by rw[hsz];exact hnl) hnews (by omega) (by simp at h63;omega) hgz;obtain⟨F',q1,q2,q3,q4⟩:=grow 0 [] (fun _=>[]) (by simp) (by simp) (fun j hj=>by simp at hj) (by simp) (by simp);simp only[List.length_nil,Nat.zero_add,List.nil_append] at hr q1 q2 q3 q4 ⊢;exact⟨_,_,F',hr,q1,q2,q3,q4⟩
 rcases hdd with ⟨rfl,rfl⟩|rfl
 ·have hv:=hd.nil_val;subst hv;have hF:=hd.pur rfl;exact nilcase rfl rfl hF
 ·generalize hvv:[v]=cv at hd
  cases hd with
  | slN o z=>
   cases hvv;exact nilcase rfl rfl rfl
  | slE o z a0=>
   cases hvv;exact empcase a0 rfl rfl rfl
  | slO b cs e cap z l Fs hb hc hcm hcs ho1 hr=>
   cases hvv;obtain⟨hn1,hn2⟩:=List.nodup_cons.1 hFn;have hbl:b<w.heap.size:=(Array.getElem?_eq_some_iff.1 hb).1
   have hxl:(cs.toList.take (l.length*z)).length=l.length*z:=by
    have:=Nat.mul_le_mul_right z hc;simp;omega
   have hrx:∀ j (h:j<l.length),Rc w ρ G L false l[j] (((cs.toList.take (l.length*z)).drop (j*z)).take z) (Fs j):=fun j hj=>by
    have e1:=F4 (cs.toList.take (l.length*z)) (cs.toList.drop (l.length*z)) j l.length z hxl hj;rw[List.take_append_drop] at e1;rw[<- e1];exact hr j hj
   rcases hs with ⟨rfl,rfl,rfl⟩|⟨a,rfl,hnews⟩
   ·refine⟨_,w,b::(List.range l.length).flatMap Fs,run_append_owned_none (P:=P) (w:=w) 0 t ty e i z hT.u hi _ l.length (cs.toList.take (l.length*z)) ⟨hxl,.inr ⟨b,cap,cs,rfl,Nat.zero_le _,hb,hc,hcm,hcs,rfl⟩⟩,
     Turn.refl _ _,hFn,fun b hb=>.inl hb,fun G' hG'=>?_⟩
    rw[List.append_nil];exact(Rc.slO (w:=w) (ρ:=ρ) (G:=G) (L:=L) (p:=true) b cs e cap z l Fs hb hc hcm hcs ho1 hr).mono (fun _ _ _=>rfl) hG' (fun id hid=>⟨hid,rfl⟩)
   ·by_cases hroom:l.length+l'.length<=cap
    ·have hfit:l.length*i.size+news.length<=cs.size:=by rw[hnl,hcs,hsz,<- Nat.add_mul];exact Nat.mul_le_mul_right _ hroom
     have hrun:=run_append_room (P:=P) w t ty e i hT.u hi b l.length cap cs hb a l'.length cap2 news (by rw[hsz];exact hnl) hnews h1 hroom hfit;rw[hsz] at hrun hfit;have hdb:∀ b',b'∈(List.range l'.length).flatMap Fs2->b'≠b:=fun b' hb' he=>hdis b' hb' (by simp[he]);refine⟨_,_,b::(List.range (l.length+l'.length)).flatMap (fjoin l.length Fs Fs2),hrun,⟨rfl,⟨rfl,Nat.le_refl _⟩,rfl,by simp,fun b' _ hb'=>setRow_other w b b' _ (fun e=>hb' (by simp[e]))⟩, ?_, ?_,fun G' hG'=>?_⟩
     ·refine List.nodup_cons.2 ⟨fun hm=>?_,JB hn2 hF2 (fun b hb hb'=>hdis b hb (List.mem_cons_of_mem _ hb'))⟩
      rcases s8 hm with h2|h2
      ·exact hn1 h2
      ·exact hdb _ h2 rfl
     ·intro b' hb'
      rcases List.mem_cons.1 hb' with rfl|hb'
      ·exact .inl (by simp)
      ·rcases s8 hb' with h2|h2
       ·exact .inl (List.mem_cons_of_mem _ h2)
       ·exact .inr (.inl h2)
     ·refine LC (xs:=cs.toList.take (l.length*z)) (news:=news) (rest:=cs.toList.drop (l.length*z+news.length)) (setRow_heap w b cs _ e (0,0) hb) (by simp) hxl hnl ?_ hroom hcm ?_ ?_ ?_
      ·simp only[List.size_toArray,List.length_append,List.length_take,List.length_drop,Array.length_toList];omega
      ·intro u hu;simp only[List.mem_append] at hu
       rcases hu with (hu|hu)|hu
       ·exact ho1 u (List.mem_of_mem_take hu)
       ·exact h1 u hu
       ·exact ho1 u (List.mem_of_mem_drop hu)
      ·exact fun j hj=>(hrx j hj).mono (fun b' hb' _=>setRow_other w b b' _ (by
        rintro rfl
        rcases hb' with hb'|hb'
        ·exact hGF _ hb' (by simp)
        ·exact hn1 (List.mem_flatMap.2 ⟨j,List.mem_range.2 hj,hb'⟩))) hG' (fun id hid=>⟨hid,rfl⟩)
      ·exact fun j hj=>(hr2 j hj).mono (fun b' hb' _=>setRow_other w b b' _ (by
        rintro rfl
        rcases hb' with hb'|hb'
        ·exact hGF _ hb' (by simp)
        ·exact hdb _ (List.mem_flatMap.2 ⟨j,List.mem_range.2 hj,hb'⟩) rfl)) hG' (fun id hid=>⟨hid,rfl⟩)
    ·have holds:∀ j u,(cs.toList.take (l.length*z))[j]? = some u->w.cell? ((⟨b,0,none⟩:Addr).add j)=some u:=by
      intro j u hu;rw[J6,cell_of_row w b _ cs e (0,0) hb];rw[List.getElem?_take] at hu;split at hu
      ·simpa using hu
      ·cases hu
     have hrun:=run_append_grow (P:=P) w t ty e i zv hT.u hi hz ⟨b,0,none⟩ l.length cap (cs.toList.take (l.length*z)) (by rw[hsz];exact hxl) holds a l'.length cap2 news (by rw[hsz];exact hnl) hnews (by omega) (by omega)
      (growslice_fits (by omega) (by rw[hby];exact hbytes))
     obtain⟨F',q1,q2,q3,q4⟩:=grow cap (cs.toList.take (l.length*z)) Fs (fun u hu=>ho1 u (List.mem_of_mem_take hu)) hxl hrx hn2 (fun b' hb'=>List.mem_cons_of_mem _ hb');exact⟨_,_,F',hrun,q1,q2,q3,q4⟩
end Go.Sx
