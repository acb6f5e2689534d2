/- Own texts. -/
import Derived.Test.YtgilikgghknbhaaGreatDoorMSxVal2
import Derived.Recover
import Derived.Test.YtgilikgghknbhaaGreatDoorMSxCore
import Derived.Lib.AppendZerosOnto
import Derived.Test.YtgilikgghknbhaaGreatDoorProg
import Derived.Test.YtgilikgghknbhaaGreatDoorChecked
set_option linter.unusedVariables false
set_option linter.unusedSimpArgs false
set_option linter.unnecessarySimpa false

namespace Go.Sx
variable{pos:String}{aft:Array Edge}{g:Option (Nat×Bool)}
variable{P:Program}{C:Ctx}{σ σ' σ1:Sg}{a:Act}{w w':World}{ρ:Nat->Nat}{Fe Fe' Fb:Nat->List Nat}
def X8(σ:Sg):List Nat->Sg
 | []=>σ
 | s::r=>X8 (σ.kill s) r
theorem GM:∀ (S:List Nat) (σ:Sg),(X8 σ S).n=σ.n/\(X8 σ S).bx=σ.bx:=by
 intro S
 induction S with
 | nil=>intro σ;exact⟨rfl,rfl⟩
 | cons s r ih=>intro σ;exact ih (σ.kill s)
theorem N2:∀ (S:List Nat) (σ:Sg) (u:Nat),(X8 σ S).get u=if u∈S then some .dead else σ.get u:=by
 intro S
 induction S with
 | nil=>intro σ u;simp[X8]
 | cons s r ih=>
  intro σ u;simp only[X8];rw[ih,L7];by_cases h1:u∈r
  ·simp[h1]
  ·by_cases h2:u=s
   ·simp[h2]
   ·simp[h1,h2]
theorem StW.takeL{S:List Nat}{t:Nat}{d:D}{v:Value}{F:List Nat}(h:StW C σ a w ρ Fe Fb)(ht:t<σ.n)(hst:t∉S)(hS:∀ s∈S,∃ d0,σ.get s=some d0)
 (hF:F.Nodup) (hFs:∀ b∈F,∃ s∈S,b∈Fe s)
 (hv:SR w ρ (gd C (upd (fun u=>if u∈S then[] else Fe u) t F) Fb) (fun id=>(σ.box id).isSome) (a.put (some t) v) t d F) :
 StW C ((X8 σ S).set t d) (a.put (some t) v) w ρ (upd (fun u=>if u∈S then[] else Fe u) t F) Fb:=by
 have hsz:t<a.tmps.size:=by rw[h.size];exact ht
 let Fx:Nat->List Nat:=upd (fun u=>if u∈S then[] else Fe u) t F
 have hFx:∀ u,u≠t->∀ b∈Fx u,b∈Fe u/\u∉S:=fun u hut b hb=>by
  simp only[Fx,q7 hut] at hb;by_cases hus:u∈S
  ·simp[hus] at hb
  ·simp only[hus,if_false] at hb;exact⟨hb,hus⟩
 have hFt:Fx t=F:=by simp[Fx]
 have ho:∀ b,own Fx Fb b->own Fe Fb b:=by
  rintro b (⟨u,hu⟩|hid)
  ·by_cases hut:u=t
   ·subst hut;rw[hFt] at hu;obtain⟨s,_,hs⟩:=hFs b hu;exact .inl ⟨s,hs⟩
   ·exact .inl ⟨u,(hFx u hut b hu).1⟩
  ·exact .inr hid
 have hg:∀ b,gd C Fe Fb b->gd C Fx Fb b:=fun b hb=>⟨hb.1,fun hc=>hb.2 (ho b hc)⟩
 obtain⟨hn,hbx⟩:=GM S σ
 have hbox:∀ id,((X8 σ S).set t d).box id=σ.box id:=fun id=>by
  show lk (X8 σ S).bx id=_;rw[hbx];rfl
 have hLf:(fun id=>(((X8 σ S).set t d).box id).isSome=true)=fun id=>(σ.box id).isSome=true:=by funext id;rw[hbox]
 have hnotF:∀ u,u≠t->∀ b∈Fx u,b∉F:=fun u hut b hb hbF=>by
  obtain⟨h1,h2⟩:=hFx u hut b hb;obtain⟨s,hs,h3⟩:=hFs b hbF;exact h.dEE u s (fun e=>h2 (e▸hs)) b h1 h3
 refine {
  size:=?_
  defs:=h.defs
  pin:=fun id b hp=>by rw[hbox];exact h.pin id b hp
  env:=fun u x hx=>?_
  envN:=fun u hu=>?_
  bx:=fun id x hx=>by rw[hLf];exact(h.bx id x (by rw[<- hbox];exact hx)).mono (fun _ _ _=>rfl) (fun b hb _=>hg b hb) (fun i hi=>⟨hi,rfl⟩)
  bxN:=fun id hx=>h.bxN id (by rw[<- hbox];exact hx)
  nodE:=fun u=>?_
  nodB:=h.nodB
  dEE:=fun u u' huu b hb hb'=>?_
  dEB:=fun u id b hb hb'=>?_
  dBB:=h.dBB
  new:=fun b hb=>h.new b (ho b hb)
  kept:=h.kept
  os:=h.os
  tape:=⟨h.tape.tp,h.tape.dr⟩
  output:=h.output
  grown:=h.grown
  gl:=h.gl
  okN:=h.okN
  okO:=fun b hb=>h.okO b (ho b hb) }
 ·simp[Act.put,h.size,hn]
 ·rw[hLf];rw[m9] at hx;by_cases hut:u=t
  ·subst hut;simp at hx;subst hx;simp only[j1];exact hv
  ·simp only[hut,if_false] at hx;obtain⟨d1,hd1,rfl⟩:=Option.map_eq_some_iff.1 hx;rw[N2] at hd1;by_cases hus:u∈S
   ·simp only[hus,if_true,Option.some.injEq] at hd1;subst hd1;obtain⟨d0,hd0⟩:=hS u hus;obtain⟨v0,hv0⟩:=(h.env u d0 hd0).there;refine⟨by simp[q7 hut,hus],v0,by rw[v5 a t v u hsz];simp[hut,hv0]⟩
   ·simp only[hus,if_false] at hd1
    have hFu:upd (fun u=>if u∈S then[] else Fe u) t F u=Fe u:=by simp[q7 hut,hus]
    rw[hFu];exact R4 hut hsz (h.env u d1 hd1) (fun _ _ _=>rfl) (fun b hb _=>hg b hb) (fun id hid=>⟨hid,rfl⟩) (fun _ _ _ _ h=>h)
 ·rw[m9] at hu;by_cases hut:u=t
  ·simp[hut] at hu
  ·simp only[hut,if_false,Option.map_eq_none_iff] at hu;rw[N2] at hu;by_cases hus:u∈S
   ·simp[hus] at hu
   ·simp only[hus,if_false] at hu;simp[q7 hut,hus,h.envN u hu]
 ·by_cases hut:u=t
  ·subst hut;simpa using hF
  ·simp only[q7 hut];split
   ·exact List.nodup_nil
   ·exact h.nodE u
 ·by_cases hut:u=t
  ·subst hut
   have hb1:b∈F:=by rw[<- hFt];exact hb
   exact hnotF u' (fun e=>huu e.symm) b hb' hb1
  ·by_cases hut':u'=t
   ·subst hut'
    have hb1:b∈F:=by rw[<- hFt];exact hb'
    exact hnotF u hut b hb hb1
   ·exact h.dEE u u' huu b (hFx u hut b hb).1 (hFx u' hut' b hb').1
 ·by_cases hut:u=t
  ·subst hut
   have hb1:b∈F:=by rw[<- hFt];exact hb
   obtain⟨s,_,hs⟩:=hFs b hb1;exact h.dEB s id b hs hb'
  ·exact h.dEB u id b (hFx u hut b hb).1 hb'
inductive EvO(gl:List (Nat×D))(σ:Sg)(l0:List D):List (Nat×Operand)->List D->List D->List Nat->Prop
 | nil {l l':List D} (h:l=l'):EvO gl σ l0 [] l l' []
 | pur {i:Nat} {x:Operand} {d:D} {ps:List (Nat×Operand)} {l l':List D} {S:List Nat} (h:ev gl σ x=some d) (hp:d.pur=true) (hn:d.np=true) (hz:(l0[i]?).map D.sz=some d.sz) (t:EvO gl σ l0 ps (l.set i d) l' S):EvO gl σ l0 ((i,x)::ps) l l' S
 | own {i s:Nat} {d:D} {ps:List (Nat×Operand)} {l l':List D} {S:List Nat} (h:σ.get s=some d) (hr:d.isRef=false) (hn:d.np=true) (hz:(l0[i]?).map D.sz=some d.sz) (hs:S.contains s=false) (t:EvO gl σ l0 ps (l.set i d) l' S):EvO gl σ l0 ((i,.tmp s)::ps) l l' (s::S)
theorem q83{l l0:List D}{i:Nat}{d:D}(hz:l.map D.sz=l0.map D.sz)(h:(l0[i]?).map D.sz=some d.sz):(l.set i d).map D.sz=l0.map D.sz:=by
 rw[List.map_set,<- hz]
 have h2:(l.map D.sz)[i]? = some d.sz:=by rw[hz,List.getElem?_map];exact h
 apply List.ext_getElem?;intro j;rw[List.getElem?_set];split
 ·rename_i hij;subst hij;rw[h2];have:=(List.getElem?_eq_some_iff.1 h2).1;simp only[this,if_true]
 ·rfl
theorem EL{G L:Nat->Prop}{l l0:List D}{i:Nat}{d:D}{xc:List Value}{Fx F:List Nat}{cs:Array Value}{v:Value}(hxc:v.cells.toList=xc)(hrc:Rc w ρ G L false d xc Fx)(hz:l.map D.sz=l0.map D.sz)(p3:(l0[i]?).map D.sz=some d.sz)
 (hr:Rc w ρ G L false (.agg l) cs.toList F) (hF:F.Nodup) (hFx:Fx.Nodup) (hdis:∀ b∈Fx,b∉F) :
 ∃ out F',(offl l0 0).toArray[i]? = some (offk l i,d.sz)/\v.cells.size=d.sz/\¬ (cs.size<offk l i+d.sz)/\v.cells.zipIdx.foldl (fun(c:Array Value) (p:Value×Nat)=>c.setIfInBounds (offk l i+p.2) p.1) cs=out /\
  Rc w ρ G L false (.agg (l.set i d)) out.toList F'/\F'.Nodup/\∀ b∈F',b∈F∨b∈Fx:=by
 have hlen:=hrc.len
 cases hl0:l0[i]? with
 | none=>rw[hl0] at p3;cases p3
 | some d0=>
  obtain⟨hi,rfl⟩:=List.getElem?_eq_some_iff.1 hl0;rw[hl0] at p3;simp only[Option.map_some,Option.some.injEq] at p3
  have hll:l.length=l0.length:=by have:=congrArg List.length hz;simpa using this
  have hi2:i<l.length:=by omega
  have hsi:l[i].sz=d.sz:=by
   have:(l.map D.sz)[i]'(by simpa using hi2)=(l0.map D.sz)[i]'(by simpa using hi):=by simp only[hz]
   simp at this;omega
  have hoff:offk l i=offk l0 i:=by
   have hs:∀ (u v:List D),u.map D.sz=v.map D.sz->Z5 u=Z5 v:=by
    intro u
    induction u with
    | nil=>intro v hv;cases v<;>simp_all
    | cons a u ihu=>intro v hv;cases v with
     | nil=>simp at hv
     | cons b v=>simp at hv;simp[hv.1,ihu v hv.2]
   unfold offk;exact hs _ _ (by rw[List.map_take,List.map_take,hz])
  have hlo:=H9 l i hi2;have hcl:=hr.len;simp only[S9,Array.length_toList] at hcl
  have hloc:(D.agg l).loc [i]=some (offk l i,l[i]):=by simp[D.loc,List.getElem?_eq_getElem hi2]
  have hupd:(D.agg l).upd [i] d=some (.agg (l.set i d)):=by simp[D.upd,List.getElem?_eq_getElem hi2]
  have hnoa:(D.agg l).noArr [i]=true:=by simp[D.noArr,List.getElem?_eq_getElem hi2]
  obtain⟨F2,g1,g2,g3,_⟩:=hr.upd hloc hupd hsi.symm hrc hF hFx hdis (.inr hnoa);have hfold:=F9 cs xc (offk l i) 0 (by omega);simp only[Nat.add_zero] at hfold
  have hcs2:(v.cells.zipIdx.foldl (fun(c:Array Value) (p:Value×Nat)=>c.setIfInBounds (offk l i+p.2) p.1) cs).toList=cs.toList.take (offk l i)++xc++cs.toList.drop (offk l i+xc.length):=by
   rw[<- hfold,<- hxc,<- Array.foldl_toList];simp
  rw[<- hcs2] at g1;refine⟨_,F2, ?_, ?_,by omega,rfl,g1,g3,g2⟩
  ·rw[List.getElem?_toArray,AR l0 0 i hi,hoff,Nat.zero_add,<- p3]
  ·rw[<- Array.length_toList,hxc,hlen]
theorem NM(st:StW C σ a w ρ Fe Fb){G:Nat->Prop}{l0:List D}(hG:∀ b,gd C Fe Fb b->G b){ps:List (Nat×Operand)}{l l':List D}{S:List Nat}(h:EvO C.gl σ l0 ps l l' S) :
 ∀ (cs:Array Value) (F:List Nat),l.map D.sz=l0.map D.sz->Rc w ρ G (fun id=>(σ.box id).isSome=true) false (.agg l) cs.toList F->F.Nodup->(∀ s∈S,∀ b∈Fe s,b∉F) ->
  ∃ (out:Array Value) (F':List Nat),Instr.fill ((offl l0 0).toArray[·]?) cs (ps.map (fun p=>(p.1,a.eval p.2)))=some out/\Rc w ρ G (fun id=>(σ.box id).isSome=true) false (.agg l') out.toList F'/\F'.Nodup/\∀ b∈F',b∈F∨∃ s∈S,b∈Fe s:=by
 induction h with
 | nil h=>subst h;intro cs F _ hr hF _;exact⟨cs,F,rfl,hr,hF,fun b hb=>.inl hb⟩
 | @pur i x d ps l l' S h hp hn hz t ih=>
  intro cs F hzz hr hF hS;obtain⟨xc,hxc,hrc⟩:=L9 st h hp;have hrc2:=(hrc.unflag hn).mono (G':=G) (L':=fun id=>(σ.box id).isSome=true) (ρ':=ρ) (fun _ _ _=>rfl) (fun b hb _=>hG b hb) (fun i hi=>⟨hi,rfl⟩);obtain⟨out,F',e1,e2,e3,e4,e5,e6,e7⟩:=EL hxc hrc2 hzz hz hr hF List.nodup_nil (by simp);have e7':∀ b∈F',b∈F:=fun b hb=>(e7 b hb).resolve_right (by simp);obtain⟨out2,F2,f1,f2,f3,f4⟩:=ih out F' (q83 hzz hz) e5 e6 (fun s hs b hb hb'=>hS s hs b hb (e7' b hb'));refine⟨out2,F2, ?_,f2,f3,fun b hb=>(f4 b hb).imp (e7' b) id⟩;simp only[List.map_cons,Instr.fill,e1,e2];rw[if_neg (by simp;omega),e4];exact f1
 | @own i s d ps l l' S h hr0 hn hz hs t ih=>
  intro cs F hzz hr hF hS;obtain⟨v,hv,hvr⟩:=(z9 hr0).1 (st.env _ _ h)
  have hdead:d≠.dead:=by rintro rfl;simp[D.isRef] at hr0
  have hrc:=hvr.cells hdead;have hrc2:=(hrc.unflag hn).mono (G':=G) (L':=fun id=>(σ.box id).isSome=true) (ρ':=ρ) (fun _ _ _=>rfl) (fun b hb _=>hG b hb) (fun i hi=>⟨hi,rfl⟩);obtain⟨out,F',e1,e2,e3,e4,e5,e6,e7⟩:=EL (v:=v) rfl hrc2 hzz hz hr hF (st.nodE s) (fun b hb=>hS s (by simp) b hb)
  have hs':s∉S:=by intro hm;rw[List.contains_iff_mem.2 hm] at hs;cases hs
  obtain⟨out2,F2,f1,f2,f3,f4⟩:=ih out F' (q83 hzz hz) e5 e6 (fun s' hs1 b hb hb'=>by
   rcases e7 b hb' with h1|h1
   ·exact hS s' (List.mem_cons_of_mem _ hs1) b hb h1
   ·exact st.dEE s' s (fun e=>hs' (e▸hs1)) b hb h1)
  refine⟨out2,F2, ?_,f2,f3,fun b hb=>?_⟩
  ·simp only[List.map_cons,Instr.fill,j8 hv,e1,e2];rw[if_neg (by simp;omega),e4];exact f1
  ·rcases f4 b hb with h1|⟨s',hs1,h1⟩
   ·rcases e7 b h1 with h2|h2
    ·exact .inl h2
    ·exact .inr ⟨s,by simp,h2⟩
   ·exact .inr ⟨s',List.mem_cons_of_mem _ hs1,h1⟩
theorem EvO.there{gl:List (Nat×D)}{l0:List D}{ps:List (Nat×Operand)}{l l':List D}{S:List Nat}(h:EvO gl σ l0 ps l l' S):∀ s∈S,∃ d0,σ.get s=some d0:=by
 induction h with
 | nil=>intro s hs;cases hs
 | pur _ _ _ _ _ ih=>exact ih
 | own h _ _ _ _ _ ih=>
  intro s hs
  rcases List.mem_cons.1 hs with rfl|hs
  ·exact⟨_,h⟩
  ·exact ih s hs
theorem R.bldO{t:Nat}{ps:List (Nat×Operand)}{l l':List D}{S:List Nat}{ty rt:TypeId}[hT:BsT P ty l]
 (hps:EvO C.gl σ l ps l l' S) (hS:S.contains t=false) (ht:t<σ.n) :
 OpS P C ⟨some t,.build ty ps.toArray,rt,pos,aft,g⟩ σ ((X8 σ S).set t (.agg l')):=by
 refine OpS.value fun a w ⟨ρ,Fe,Fb,st⟩=>?_;obtain⟨fs,it,zv,h1,h2,h3,h4,h5⟩:=hT.i
 have htS:t∉S:=by intro hm;rw[List.contains_iff_mem.2 hm] at hS;cases hS
 obtain⟨out,F,q1,q2,q3,q4⟩:=NM st (G:=gd C Fe Fb) (fun _ h=>h) hps zv.cells [] rfl (f9 _ _ _ _ _ _ h5) List.nodup_nil (by simp);have q4':∀ b∈F,∃ s∈S,b∈Fe s:=fun b hb=>(q4 b hb).resolve_left (by simp)
 have hps2:(ps.toArray.map fun x=>(x.1,a.eval x.2)).toList=ps.map (fun p=>(p.1,a.eval p.2)):=by simp
 refine⟨.agg out,w, ?_,ρ,_,Fb,st.takeL ht htS hps.there q3 q4' ((z9 rfl).2 ⟨.agg out,by rw[v5 a t _ t (by rw[st.size];exact ht)];simp, ?_⟩)⟩
 ·have:=run_build (P:=P) w ty (ps.toArray.map fun x=>(x.1,a.eval x.2)) out (by
   rw[hps2];simp only[Program.built,h1,h2,h3,h4]
   exact q1)
  unfold execOp;simp only[Sem.run_bind,this,Result.andThen_ok,Sem.run_pure]
 ·simp only[VR,D.isAgg,if_true];refine⟨out,rfl,(q2.flag).mono (fun _ _ _=>rfl) (fun b hb _=>⟨hb.1,fun hc=>hb.2 ?_⟩) (fun i hi=>⟨hi,rfl⟩)⟩
  rcases hc with ⟨u,hu⟩|hid
  ·by_cases hut:u=t
   ·subst hut;rw[j1] at hu;obtain⟨s,_,hs⟩:=q4' b hu;exact .inl ⟨s,hs⟩
   ·rw[q7 hut] at hu;by_cases hus:u∈S
    ·simp[hus] at hu
    ·simp only[hus,if_false] at hu;exact .inl ⟨u,hu⟩
  ·exact .inr hid
theorem R.ldTake{p t id:Nat}{d:D}{ty n rt:TypeId}{gg:Bool}[LdT P ty n gg]
 (h:σ.get p=some (.ptr id 0 [])) (hb:σ.box id=some (.var d)) (hr:d.isRef=false) (hn:d.sz=n) (hg:d.isAgg=gg) (ht:t<σ.n) :
 OpS P C ⟨some t,.load ty (.tmp p),rt,pos,aft,g⟩ σ ((σ.putB id (.var (D.dds n))).set t d):=by
 refine OpS.value fun a w ⟨ρ,Fe,Fb,st⟩=>?_;obtain⟨v,hv,hrp⟩:=(z9 rfl).1 (st.env _ _ h);simp only[VR,D.isAgg,Bool.false_eq_true,if_false] at hrp;generalize Fe p=F at hrp;cases hrp;obtain⟨cs,e,F',q1,q2,q3⟩:=st.bx _ _ hb
 have hnd:(ρ id::F').Nodup:=by have:=st.nodB id;rw[q3] at this;exact this
 obtain⟨hn1,hn2⟩:=List.nodup_cons.1 hnd;have hlen:=q2.len
 have htk:(cs.toList.drop 0).take d.sz=cs.toList:=by rw[<- hlen,List.drop_zero];exact List.take_length
 obtain⟨vv,hrun,hvr⟩:=J2 (P:=P) (ty:=ty) (G:=gd C Fe Fb) (L:=fun i=>(σ.box i).isSome=true) (ρ:=ρ) (p:=true) (off:=0) q1 (by rw[htk];exact q2) (by simp at hlen;omega) hn hg
 have hsz:t<a.tmps.size:=by rw[st.size];exact ht
 have hFb:∀ i,∀ b∈upd Fb id [ρ id] i,b∈Fb i:=fun i b hb=>by
  by_cases hii:i=id
  ·subst hii;rw[j1] at hb;simp at hb;subst hb;rw[q3];simp
  ·rw[q7 hii] at hb;exact hb
 have hFin:∀ b∈F',b∈Fb id:=fun b hb=>by rw[q3];exact List.mem_cons_of_mem _ hb
 have ho:∀ b,own (upd Fe t F') (upd Fb id [ρ id]) b->own Fe Fb b:=by
  rintro b (⟨u,hu⟩|⟨i,hi⟩)
  ·by_cases hut:u=t
   ·subst hut;rw[j1] at hu;exact .inr ⟨id,hFin b hu⟩
   ·rw[q7 hut] at hu;exact .inl ⟨u,hu⟩
  ·exact .inr ⟨i,hFb i b hi⟩
 have hgd:∀ b,gd C Fe Fb b->gd C (upd Fe t F') (upd Fb id [ρ id]) b:=fun b hb=>⟨hb.1,fun hc=>hb.2 (ho b hc)⟩
 have hbox:∀ i,((σ.putB id (.var (D.dds n))).set t d).box i=if i=id then some (.var (D.dds n)) else σ.box i:=fun i=>by
  rw[KZ,ZU];by_cases hi:i=id
  ·subst hi;simp[hb]
  ·simp[hi]
 have hLf:(fun i=>((((σ.putB id (.var (D.dds n))).set t d).box i)).isSome=true)=fun i=>(σ.box i).isSome=true:=by
  funext i;rw[hbox]
  by_cases hi:i=id
  ·subst hi;simp[hb]
  ·simp[hi]
 have hFnot:∀ u,∀ b∈Fe u,b∉F':=fun u b hb hb'=>st.dEB u id b hb (hFin b hb')
 refine⟨vv,w, ?_,ρ,upd Fe t F',upd Fb id [ρ id],{
  size:=by simp[Act.put,st.size]
  defs:=st.defs
  pin:=fun i b hp=>⟨(st.pin i b hp).1,by
   have:=(st.pin i b hp).2;rw[hbox];by_cases hi:i=id
   ·simp[hi]
   ·simpa [hi] using this⟩
  env:=fun u x hx=>?_
  envN:=fun u hu=>?_
  bx:=fun i x hx=>?_
  bxN:=fun i hx=>?_
  nodE:=fun u=>?_
  nodB:=fun i=>?_
  dEE:=fun u u' huu b hb hb'=>?_
  dEB:=fun u i b hb hb'=>?_
  dBB:=fun i i' hne b h1 h2=>st.dBB i i' hne b (hFb i b h1) (hFb i' b h2)
  new:=fun b hb=>st.new b (ho b hb)
  kept:=st.kept
  os:=st.os
  tape:=⟨st.tape.tp,st.tape.dr⟩
  output:=st.output
  grown:=st.grown
  gl:=st.gl
  okN:=st.okN
  okO:=fun b hb=>st.okO b (ho b hb) }⟩
 ·unfold execOp;simp[j8 hv,Instr.loadAt,Instr.sureAddr,hrun]
 ·rw[hLf];rw[m9] at hx;by_cases hut:u=t
  ·subst hut;simp at hx;subst hx;rw[j1];exact(z9 hr).2 ⟨vv,by rw[v5 a u _ u hsz];simp,hvr.mono (fun _ _ _=>rfl) (fun b hb _=>hgd b hb) (fun i hi=>⟨hi,rfl⟩)⟩
  ·simp only[hut,if_false] at hx;obtain⟨d1,hd1,rfl⟩:=Option.map_eq_some_iff.1 hx;rw[A2] at hd1;obtain⟨d2,hd2,rfl⟩:=Option.map_eq_some_iff.1 hd1;rw[q7 hut];have h1:=k38 (id:=id) (st.env u d2 hd2) (w':=w) (fun _ _ _=>rfl) (fun b hb _=>hgd b hb) (fun i hi=>hi) (fun _ _ _ _ _ h=>h);exact R4 hut hsz h1 (fun _ _ _=>rfl) (fun b hb _=>hb) (fun id hid=>⟨hid,rfl⟩) (fun _ _ _ _ h=>h)
 ·rw[m9] at hu;by_cases hut:u=t
  ·simp[hut] at hu
  ·simp only[hut,if_false,Option.map_eq_none_iff] at hu;rw[A2,Option.map_eq_none_iff] at hu;rw[q7 hut];exact st.envN u hu
 ·rw[hLf];rw[hbox] at hx;by_cases hi:i=id
  ·subst hi;simp only[if_true,Option.some.injEq] at hx;subst hx;rw[j1,<- hn];exact⟨cs,e,[],q1,q2.dds,rfl⟩
  ·simp only[hi,if_false] at hx;rw[q7 hi];exact(st.bx i x hx).mono (fun _ _ _=>rfl) (fun b hb _=>hgd b hb) (fun j hj=>⟨hj,rfl⟩)
 ·rw[hbox] at hx;by_cases hi:i=id
  ·simp[hi] at hx
  ·simp only[hi,if_false] at hx;rw[q7 hi];exact st.bxN i hx
 ·by_cases hut:u=t
  ·subst hut;rw[j1];exact hn2
  ·rw[q7 hut];exact st.nodE u
 ·by_cases hi:i=id
  ·subst hi;rw[j1];simp
  ·rw[q7 hi];exact st.nodB i
 ·by_cases hut:u=t
  ·subst hut;rw[j1] at hb;rw[q7 (fun e=>huu e.symm)] at hb';exact hFnot u' b hb' hb
  ·rw[q7 hut] at hb;by_cases hut':u'=t
   ·subst hut';rw[j1] at hb';exact hFnot u b hb hb'
   ·rw[q7 hut'] at hb';exact st.dEE u u' huu b hb hb'
 ·by_cases hut:u=t
  ·subst hut;rw[j1] at hb;by_cases hi:i=id
   ·subst hi;rw[j1] at hb';simp at hb';subst hb';exact hn1 hb
   ·rw[q7 hi] at hb';exact st.dBB id i (fun e=>hi e.symm) b (hFin b hb) hb'
  ·rw[q7 hut] at hb;exact st.dEB u i b hb (hFb i b hb')
end Go.Sx

namespace Go.Sx
variable{P:Program}{C:Ctx}{σ σ' σ1:Sg}{a:Act}{w w':World}{ρ:Nat->Nat}{Fe Fe' Fb:Nat->List Nat}
inductive Wk:D->D->Prop
 | refl (d:D):Wk d d
 | nils (o:Option Nat) (z:Nat):Wk .nils (.sl o z [])
 | agg {l l':List D} (hn:l.length=l'.length) (h:∀ k (h:k<l.length) (h':k<l'.length),Wk l[k] l'[k]):Wk (.agg l) (.agg l')
 | sl {o:Option Nat} {z:Nat} {l l':List D} (hn:l.length=l'.length) (h:∀ k (h:k<l.length) (h':k<l'.length),Wk l[k] l'[k]):Wk (.sl o z l) (.sl o z l')
inductive WkL:List D->List D->Prop
 | nil:WkL [] []
 | cons {d d':D} {l l':List D} (h:Wk d d') (t:WkL l l'):WkL (d::l) (d'::l')
theorem WkL.len{l l':List D}(h:WkL l l'):l.length=l'.length:=by
 induction h with
 | nil=>rfl
 | cons _ _ ih=>simp[ih]
theorem WkL.get{l l':List D}(h:WkL l l'):∀ k (h:k<l.length) (h':k<l'.length),Wk l[k] l'[k]:=by
 induction h with
 | nil=>intro k h;simp at h
 | cons h _ ih=>
  intro k hk hk'
  cases k with
  | zero=>exact h
  | succ k=>exact ih k (by simpa using hk) (by simpa using hk')
theorem Wk.aggL{l l':List D}(h:WkL l l'):Wk (.agg l) (.agg l'):=.agg h.len h.get
theorem Wk.slL{o:Option Nat}{z:Nat}{l l':List D}(h:WkL l l'):Wk (.sl o z l) (.sl o z l'):=.sl h.len h.get
theorem Wk.slM{α:Type}{o:Option Nat}{z:Nat}{l:List α}{f g:α->D}(h:∀ x∈l,Wk (f x) (g x)):Wk (.sl o z (l.map f)) (.sl o z (l.map g)):=
 .sl (by simp) (fun k h1 h2=>by simp only[List.getElem_map];exact h _ (List.getElem_mem _))
theorem FV{l l':List D}(hn:l.length=l'.length)(h:∀ k (h:k<l.length) (h':k<l'.length),l'[k].sz=l[k].sz):Z5 l'=Z5 l:=by
 induction l generalizing l' with
 | nil=>cases l' with
  | nil=>rfl
  | cons _ _=>simp at hn
 | cons x r ih=>cases l' with
  | nil=>simp at hn
  | cons x' r'=>
   have h0:=h 0 (by simp) (by simp);simp only[List.getElem_cons_zero] at h0;simp only[H0,h0];rw[ih (by simpa using hn) (fun k h1 h2=>h (k+1) (by simpa using h1) (by simpa using h2))]
theorem k91{l l':List D}(hn:l.length=l'.length)(h:∀ k (h:k<l.length) (h':k<l'.length),l'[k].sz=l[k].sz)(k:Nat):offk l' k=offk l k:=by
 unfold offk;exact FV (by simp[hn]) (fun j h1 h2=>by simp only[List.getElem_take];exact h j (by simp at h1;omega) (by simp at h2;omega))
theorem Wk.sz{d d':D}(h:Wk d d'):d'.sz=d.sz:=by
 induction h with
 | refl=>rfl
 | nils=>rfl
 | agg hn h ih=>simp only[S9];exact FV hn ih
 | sl=>rfl
theorem Rc.wk{G L:Nat->Prop}{d d':D}(hw:Wk d d'):∀ {p:Bool} {cs:List Value} {F:List Nat},Rc w ρ G L p d cs F->Rc w ρ G L p d' cs F:=by
 induction hw with
 | refl=>intro p cs F h;exact h
 | nils o z=>intro p cs F h;cases h;exact .slN o z
 | @agg l l' hn h ih=>
  intro p cs F hr
  cases hr with
  | agg _ _ Fs hs hr=>
   have hz:∀ k (h:k<l.length) (h':k<l'.length),l'[k].sz=l[k].sz:=fun k h1 h2=>(h k h1 h2).sz;rw[hn];refine .agg l' cs Fs (by rw[hs,FV hn hz]) (fun k hk=>?_);rw[k91 hn hz,hz k (by omega) hk];exact ih k (by omega) hk (hr k (by omega))
 | @sl o z l l' hn h ih=>
  intro p cs F hr
  cases hr with
  | slN=>rw[List.length_eq_zero_iff.1 hn.symm];exact .slN o z
  | slE _ _ a=>rw[List.length_eq_zero_iff.1 hn.symm];exact .slE o z a
  | slI b off cs e fz cap _ _ hb hG hc hs hr=>
   rw[hn];exact .slI b off cs e fz cap z l' hb hG (by omega) (by rw[<- hn];exact hs) (fun i hi=>ih i (by omega) hi (hr i (by omega)))
  | slO b cs e cap _ _ Fs hb hc hm hs ho1 hr=>
   rw[hn];exact .slO b cs e cap z l' Fs hb (by omega) hm hs ho1 (fun i hi=>ih i (by omega) hi (hr i (by omega)))
theorem U3{c:Code}{Q:Exit->Sg->Prop}(id:Nat){d d':D}{bx':List (Nat×Bx)}(hb:σ.box id=some (.var d))(hw:Wk d d')(hbx:setb id (.var d') σ.bx=bx')(k:W P C c Q ⟨σ.n,σ.env,bx'⟩):W P C c Q σ:=by
 subst hbx;exact fun a w hs=>k a w (FN hb (fun w ρ G L cs F h=>h.wk hw) hs)
theorem Wk.isAgg{d d':D}(h:Wk d d'):d'.isAgg=d.isAgg:=by cases h<;>rfl
end Go.Sx

namespace Go.Sx
variable{P:Program}{C:Ctx}{σ σ' σ1:Sg}{a:Act}{w w':World}{ρ:Nat->Nat}{Fe Fe' Fb:Nat->List Nat}
theorem R.callXk{f:FuncId}[CaT P f]{t:Option Nat}{args:List Operand}{tys:Array TypeId}{rt:TypeId}{pos:String}{aft:Array Edge}{g:Option (Nat×Bool)}{gl:List (Nat×D)}{ds:List D}{bx cx:List (Nat×Bx)}{E:Exit->Sg->Prop}
 (ml:List (Nat×Nat)) (hC:C.gl=gl) (hF:FnX P gl f ds bx) (ha:EvB C.gl σ (mlk ml) (bx.map Prod.fst) args ds)
 (hcx:v6 (mlk ml) bx=cx) (hlk:KB σ.bx cx) (hob:L3 (bx.map Prod.fst) bx) (hinj:ED (mlk ml) (bx.map Prod.fst)=true)
 (hE:∀ e,q43 e->E e ⟨σ.n,A9 (cx.map Prod.fst) σ.env,H1 (U0 cx) σ.bx⟩) :
 x85 P C ⟨t,.call { callee:=.value (.func f),args:=args.toArray,argTypes:=tys },rt,pos,aft,g⟩ σ E:=by
 subst hC;subst hcx;intro a w ⟨ρ,Fe,Fb,st⟩ K Q hK;refine J1 (V0 a w) (by simp) ?_;rw[Oper.uponIn_enter];obtain⟨hhand,hback⟩:=st.callB (m:=mlk ml) (bx':=U0 bx) (nw:=[]) hlk hob (S3 bx) rfl (by simpa [S3] using hinj)
 have hmem:∀ i,d8 (bx.map Prod.fst) i=true->(lk bx i).isSome=true:=fun i hi=>by
  rw[X7];simp only[d8,List.any_eq_true] at hi;obtain⟨j,hj,he⟩:=hi;rw[Nat.eq_of_beq_eq_true he];exact hj
 have hc:=hF w (fun b=>gd C Fe Fb b/\b<w.heap.size) (fun i=>ρ (mlk ml i)) (fun i=>if(lk bx i).isSome then Fb (mlk ml i) else[]) (args.map a.eval)
  (fun g d hg=>by obtain⟨h1,h2⟩:=YD st g d hg;obtain⟨cs,e,fz,h3,h4⟩:=h2;exact⟨⟨h1,(Array.getElem?_eq_some_iff.1 h3).1⟩,cs,e,fz,h3,h4⟩) (fun b hb=>hb.2) (by simp[ha.len])
  (fun k hk=>(ha.ok st k hk).mono (fun _ _ _=>rfl) (fun b hb hl=>⟨hb,hl⟩) (fun i hi=>⟨hmem i hi.1,rfl⟩))
  ⟨fun id x hx=>(hhand.box id x hx).mono (fun _ _ _=>rfl) (fun b hb hl=>⟨hb,hl⟩) (fun i hi=>⟨hi,rfl⟩),hhand.boxN,hhand.nodB,hhand.dBB,fun id b hb hc=>hhand.out id b hb hc.1⟩
 simp only[List.map_toArray];refine⟨(fun h=>by cases h),(C5 (Calls.mono hc ?_))⟩;rintro e w' ⟨ch,ρ',Fb',rfl,hch,hext,hρ',hsrc,hand⟩
 have hGG:∀ b,(((gd C Fe Fb b/\b<w.heap.size)∨w.heap.size<=b∨∃ id,b∈(if(lk bx id).isSome then Fb (mlk ml id) else[]))/\¬ ∃ id,b∈Fb' id) ->
  ((gd C Fe Fb b∨w.heap.size<=b∨∃ id,b∈(if(lk bx id).isSome then Fb (mlk ml id) else[]))/\b∉([]:List Nat)/\¬ ∃ id,b∈Fb' id):=fun b hb=>⟨hb.1.imp (fun h=>h.1) (fun h=>h),by simp,hb.2⟩
 obtain⟨ρ2,Fb2,st2,_⟩:=hback w' [] ρ' Fb' hext hρ' List.nodup_nil (fun b hb=>hsrc b (hb.resolve_left (by simp))) (fun _ _ h=>by cases h) (fun _ h=>by cases h)
  ⟨fun id x hx=>(hand.box id x hx).mono (fun _ _ _=>rfl) (fun b hb _=>hGG b hb) (fun i hi=>⟨hi,rfl⟩),hand.boxN,hand.nodB,hand.dBB,fun id b hb hc=>hc.2.2 ⟨id,hb⟩⟩
 have hless:C.less []=C:=by
  unfold Ctx.less;cases C;simp
 rw[hless] at st2;refine hK _ _ _ ⟨σ.n,A9 ((v6 (mlk ml) bx).map Prod.fst) σ.env,H1 (U0 (v6 (mlk ml) bx)) σ.bx⟩ (St.weaken ⟨ρ2,Fe,Fb2,st2⟩ rfl ?_ (fun t d h=>h)) (hE _ ⟨_,rfl,hch⟩);simp[JT,v6]
def RC(C:Ctx)(r:D)(e:Ending)(w':World):Prop:=
 ∃ v F,e=.returned v/\Ext C.w0 w'/\F.Nodup/\(∀ b∈F,C.w0.heap.size<=b)/\RV w' (fun x=>x) (fun b=>C.ok b/\b∉F) (fun _=>False) r v F
def WD(P:Program)(C:Ctx)(c:Code)(Q:Exit->Act->World->Prop)(σ:Sg):Prop:=∀ a w,St C σ a w->c.wpIn (Fx C) 3 P Q a w
theorem WD.of{c:Code}{Q:Exit->Act->World->Prop}(h:W P C c (fun e s=>∀ a w,St C s a w->Q e a w) σ):WD P C c Q σ:=
 fun a w hs=>Go.Code.wpIn_mono (fun _ _ _ ⟨_,hs',h'⟩=>h' _ _ hs') (h a w hs)
theorem WD.seq{x y:Code}{Q:Exit->Act->World->Prop}(h:W P C x (fun e s=>match e with | .normal=>WD P C y Q s|e=>∀ a w,St C s a w->Q e a w) σ):WD P C (.seq x y) Q σ:=by
 intro a w hs;refine wpIn_seq ?_;refine Go.Code.wpIn_mono ?_ (h a w hs);intro e a' w' ⟨s,hs',hq⟩
 cases e<;>exact hq a' w' hs'
def dfr(g b2 b3:Nat):Deferred:=⟨.fn (.func g) #[.pointer (some ⟨b2,0,none⟩),.pointer (some ⟨b3,0,none⟩)],#[]⟩
def Ctx.put(C:Ctx)(d:Deferred)(id2 id3 b2 b3:Nat):Ctx:={ C with df:=d::C.df,pin:=fun i=>if i=id2 then some b2 else if i=id3 then some b3 else C.pin i }
theorem k83{d:Deferred}{id2 id3 b2 b3:Nat}(h:∀ id b,C.pin id=some b->T2 [] id=true):∀ id b,(C.put d id2 id3 b2 b3).pin id=some b->T2 [id2,id3] id=true:=by
 intro id b hp;simp only[Ctx.put] at hp;split at hp
 ·rename_i e;subst e;simp[T2]
 ·split at hp
  ·rename_i e;subst e;simp[T2]
  ·have:=h _ _ hp;simp[T2] at this
theorem WD.defer{id g t1 s2 s3 id2 id3:Nat}{y:Code}{Q:Exit->Act->World->Prop}{d2 d3:Bx}{rt rt2:TypeId}{pos pos2:String}{aft aft2:Array Edge}{tys:Array TypeId}(hrd:C.rd=none)
 (h2:σ.get s2=some (.ptr id2 0 [])) (h3:σ.get s3=some (.ptr id3 0 [])) (hb2:σ.box id2=some d2) (hb3:σ.box id3=some d3) (ht:t1<σ.n)
 (k:∀ b2 b3,(id2≠id3->b2≠b3)->WD P (C.put (dfr g b2 b3) id2 id3 b2 b3) y Q (σ.set t1 (.fn g [.ptr id2 0 [],.ptr id3 0 []]))) :
 WD P C (.seq (.region id #[⟨some t1,.makeFunc (.func g) #[] #[.tmp s2,.tmp s3],rt,pos,aft,none⟩,⟨none,.defer { callee:=.value (.tmp t1),args:=#[],argTypes:=tys },rt2,pos2,aft2,none⟩] false) y) Q σ:=by
 intro a w hs;refine wpIn_seq (wpIn_region_lit (l:=[_,_]) (wpListIn_plain rfl fun K hK=>?_))
 have hmk:=R.mkfn (P:=P) (C:=C) (σ:=σ) (t:=t1) (f:=g) (xs:=[.tmp s2,.tmp s3]) (ds:=[.ptr id2 0 [],.ptr id3 0 []]) (rt:=rt) (pos:=pos) (aft:=aft) (g:=none) rfl (fun k h1 h2'=>by
  match k,h1 with
  | 0,_=>exact⟨h2,rfl,rfl⟩
  | 1,_=>exact⟨h3,rfl,rfl⟩) ht
 refine hmk a w hs K _ fun a1 w1 hs1=>hK a1 w1 ?_;obtain⟨ρ,Fe,Fb,st⟩:=hs1;obtain⟨v,hv,hr⟩:=(z9 rfl).1 (st.env t1 (.fn g [.ptr id2 0 [],.ptr id3 0 []]) (by rw[m9];simp));simp only[VR,D.isAgg,Bool.false_eq_true,if_false] at hr
 have hvv:v=.func (.func g) #[] #[.pointer (some ⟨ρ id2,0,none⟩),.pointer (some ⟨ρ id3,0,none⟩)]:=by
  generalize Fe t1=F at hr
  cases hr with
  | fn _ _ vs hl ha hrr=>
   match vs,hl with
   | [v0,v1],_=>
    have r0:=hrr 0 (by simp);have r1:=hrr 1 (by simp);simp only[List.getElem_cons_zero,List.getElem_cons_succ,List.getD_cons_zero,List.getD_cons_succ] at r0 r1;cases r0;cases r1;rfl
 subst hvv
 have hpins:∀ i b,(C.put (dfr g (ρ id2) (ρ id3)) id2 id3 (ρ id2) (ρ id3)).pin i=some b->ρ i=b/\((σ.set t1 (.fn g [.ptr id2 0 [],.ptr id3 0 []])).box i).isSome=true:=by
  intro i b hp;simp only[Ctx.put] at hp;split at hp
  ·rename_i hi;subst hi;cases hp;exact⟨rfl,by rw[KZ,hb2];rfl⟩
  ·split at hp
   ·rename_i hi;subst hi;cases hp;exact⟨rfl,by rw[KZ,hb3];rfl⟩
   ·exact st.pin i b hp
 have hne:id2≠id3->ρ id2≠ρ id3:=fun hne he=>by
  have m2:=(st.bx id2 d2 (by rw[KZ];exact hb2)).mem;have m3:=(st.bx id3 d3 (by rw[KZ];exact hb3)).mem;rw[<- he] at m3;exact st.dBB id2 id3 hne _ m2 m3
 have hk:=k (ρ id2) (ρ id3) hne
 have hst2:St (C.put (dfr g (ρ id2) (ρ id3)) id2 id3 (ρ id2) (ρ id3)) (σ.set t1 (.fn g [.ptr id2 0 [],.ptr id3 0 []])) { a1 with defers:=dfr g (ρ id2) (ρ id3)::a1.defers } w1:=
  ⟨ρ,Fe,Fb,{
   size:=st.size
   defs:=by show _::a1.defers=_::C.df;rw[st.defs]
   pin:=hpins
   env:=fun t d hd=>st.env t d hd
   envN:=st.envN
   bx:=fun i d hd=>st.bx i d hd
   bxN:=st.bxN
   nodE:=st.nodE
   nodB:=st.nodB
   dEE:=st.dEE
   dEB:=st.dEB
   dBB:=st.dBB
   new:=st.new
   kept:=st.kept
   os:=st.os
   tape:=⟨st.tape.tp,st.tape.dr⟩
   output:=st.output
   grown:=st.grown
   gl:=st.gl
   okN:=st.okN
   okO:=st.okO }⟩
 have hfin:=hk _ w1 hst2;refine wpListIn_plain rfl fun K2 hK2=>?_;refine⟨fun _ _=>trivial, ?_⟩
 have hsem:(Oper.semAt (Fx C).round a1.eval ⟨none,.defer { callee:=.value (.tmp t1),args:=#[],argTypes:=tys },rt2,pos2,aft2,none⟩).run P w1=.ok (.defer (dfr g (ρ id2) (ρ id3))) w1:=by
  show(Oper.semAt C.rd a1.eval _).run P w1=_;rw[hrd];simp only[Oper.semAt];unfold execOp;simp[resolve,j8 hv,dfr,Deferred.ofValue]
 rw[hsem,Oper.uponIn_defer];refine hK2 _ _ ?_;exact hfin
theorem x82{gl:List (Nat×D)}{f:FuncId}{fn:Func}{c:Code}{ds:List D}{r:D}{n:Nat}(hf:P.funcs[f]? = some fn)(hb:fn.body=some c)(hnn:fn.ntmps=n)
 (hd:ds.all (fun d=>!d.isRef)=true) (hn:ds.length<=n)
 (h:∀ C:Ctx,C.gl=gl->(∀ id b,C.pin id=some b->T2 [] id=true)->C.df=[]->C.rd=none->(∀ b,b<C.w0.heap.size->C.keep b)->WD P C c (bodyPostD P fn (RC C r)) ⟨n,ini 0 ds,[]⟩):Fn P gl f ds r:=by
 subst hnn;intro w G vs hgl hl hv;refine Calls.mono (R:=RC ⟨w,fun b=>b<w.heap.size,fun b=>G b∨w.heap.size<=b,gl,none,fun _=>none,[]⟩ r) (calls_of_wp_defers hf hb ?_) (fun e w' h=>h)
 let C:Ctx:=⟨w,fun b=>b<w.heap.size,fun b=>G b∨w.heap.size<=b,gl,none,fun _=>none,[]⟩
 have hget:∀ t d,(⟨fn.ntmps,ini 0 ds,[]⟩:Sg).get t=some d->∃ h:t<ds.length,ds[t]=d:=by
  intro t d hd;simp only[Sg.get,DG,Nat.zero_le,if_true,Nat.sub_zero] at hd;obtain⟨h,e⟩:=List.getElem?_eq_some_iff.1 hd;exact⟨h,e⟩
 have hown:∀ b,¬ own (fun _=>[]) (fun _=>[]) b:=by rintro b (⟨_,h⟩|⟨_,h⟩)<;>cases h
 have hbox:∀ id,(⟨fn.ntmps,ini 0 ds,[]⟩:Sg).box id=none:=fun id=>rfl
 have st:StW C ⟨fn.ntmps,ini 0 ds,[]⟩ { tmps:=vs.toArray++Array.replicate (fn.ntmps-vs.toArray.size) undef,defers:=[] } w (fun x=>x) (fun _=>[]) (fun _=>[]):=by
  refine⟨?_,rfl,(fun _ _ hp=>by cases hp), ?_,fun _ _=>rfl, ?_,fun _ _=>rfl,fun _=>List.nodup_nil,fun _=>List.nodup_nil,(fun _ _ _ _ h=>by cases h),(fun _ _ _ h=>by cases h),(fun _ _ _ _ h=>by cases h),fun b hb=>absurd hb (hown b), ?_,rfl,⟨rfl,Nat.le_refl _⟩,rfl,Nat.le_refl _, ?_,fun b hb=>.inr hb,fun b hb=>absurd hb (hown b)⟩
  ·simp[hl];omega
  ·intro t d hd';obtain⟨ht,rfl⟩:=hget t d hd'
   have hr:ds[t].isRef=false:=by
    have:=List.all_eq_true.1 hd ds[t] (List.getElem_mem ht);simpa using this
   refine(z9 hr).2 ⟨vs.getD t undef, ?_,(hv t ht).mono (fun _ _ _=>rfl) (fun b hb _=>⟨.inl hb,hown b⟩) (fun id hid=>hid.elim)⟩
   have htv:t<vs.length:=by omega
   rw[Array.getElem?_append_left (by simpa using htv)];simp[htv]
  ·intro id d hd';rw[hbox] at hd';cases hd'
  ·intro b hb;exact⟨rfl,hb⟩
  ·intro g d hg;obtain⟨h1,cs,e,fz,h2,h3⟩:=hgl g d hg;exact⟨(Array.getElem?_eq_some_iff.1 h2).1,.inl h1,cs,e,fz,h2,h3⟩
 exact wpIn_wide.1 (h C rfl (fun _ _ hp=>by cases hp) rfl rfl (fun b hb=>hb) _ w ⟨_,_,_,st⟩)
theorem VR.wk{G L:Nat->Prop}{d d':D}{v:Value}{F:List Nat}(h:VR w ρ G L d v F)(hw:Wk d d'):VR w ρ G L d' v F:=by
 unfold VR at h ⊢;rw[hw.isAgg]
 cases hag:d.isAgg with
 | true=>simp only[hag,if_true] at h ⊢;obtain⟨cs,e,h⟩:=h;exact⟨cs,e,h.wk hw⟩
 | false=>simp only[hag,if_false,Bool.false_eq_true] at h ⊢;exact h.wk hw
theorem StW.ext0(st:StW C σ a w ρ Fe Fb)(hk:∀ b,b<C.w0.heap.size->C.keep b):Ext C.w0 w:=⟨st.os,⟨st.tape.tp,st.tape.dr⟩,st.output,st.grown,fun b hb=>(st.kept b (hk b hb)).1⟩
theorem w86{fn:Func}{r:D}{e:Exit}(hdf:C.df=[])(hk:∀ b,b<C.w0.heap.size->C.keep b)(hs:St C σ a w)(hends:Ends fn.results.toList P r e σ):bodyPostD P fn (RC C r) e a w:=by
 obtain⟨ρ,Fe,Fb,st⟩:=hs;have hnew:∀ b,own Fe Fb b->C.w0.heap.size<=b:=fun b hb=>Nat.le_of_not_lt (fun h=>st.new b hb (hk b h));have he:=hends.1;obtain⟨v,h1,F,h2,h3,h4⟩:=Ends.out st hends;have hd:a.defers=[]:=st.defs.trans hdf
 have hrc:RC C r (.returned v) w:=⟨v,F,rfl,st.ext0 hk,h2,fun b hb=>hnew b (h3 b hb),h4⟩
 rcases he with rfl|rfl
 ·show Leaves P fn a.tmps (RC C r) a.defers .returning w;rw[hd];exact⟨v,h1,hrc⟩
 ·show Leaves P fn a.tmps (RC C r) a.defers .returning w;rw[hd];exact⟨v,h1,hrc⟩
theorem AC{fn:Func}{s2 s3 ty2 ty3:Nat}(hfr:fn.results.toList=[.cell s2 ty2,.cell s3 ty3]){tmps:Array Value}{b2 b3:Nat}(h2:tmps[s2]? = some (.pointer (some ⟨b2,0,none⟩)))(h3:tmps[s3]? = some (.pointer (some ⟨b3,0,none⟩))){v2 v3:Value}
 (l2:(loadVar ty2 ⟨b2,0,none⟩).run P w=.ok v2 w) (l3:(loadVar ty3 ⟨b3,0,none⟩).run P w=.ok v3 w):(results fn tmps).run P w=.ok (.tuple #[v2,v3]) w:=by
 have:=B1 (P:=P) (fn:=fn) (tmps:=tmps) hfr (fun k=>if k=0 then v2 else v3) w (fun k hk=>by
  match k,hk with
  | 0,_=>simp[CF,Array.getD_eq_getD_getElem?,h2,l2,asAddr]
  | 1,_=>simp[CF,Array.getD_eq_getD_getElem?,h3,l3,asAddr])
 rw[this];rfl
theorem x61{fn:Func}{r2 r3:D}{e:Exit}{g b2 b3 s2 s3 id2 id3 ty2 ty3 n2 n3:Nat}{g2 g3:Bool}{C0:Ctx}[LdT P ty2 n2 g2][LdT P ty3 n3 g3](hC:C=C0.put (dfr g b2 b3) id2 id3 b2 b3)(hdf:C0.df=[])(hk:∀ b,b<C0.w0.heap.size->C0.keep b)(hne:id2≠id3)
 (hfr:fn.results.toList=[.cell s2 ty2,.cell s3 ty3]) (hg:CaT P g)
 (hD:∀ w,CallsD P g #[.pointer (some ⟨b2,0,none⟩),.pointer (some ⟨b3,0,none⟩)] .returning w (fun e u' w'=>(∃ v,e=.returned v)/\u'=.returning/\w'=w))
 (he:e=.normal∨e=.ret) (h2:σ.get s2=some (.ptr id2 0 [])) (h3:σ.get s3=some (.ptr id3 0 [])) (hb2:σ.box id2=some (.var r2)) (hb3:σ.box id3=some (.var r3))
 (hp2:r2.pur=true) (hp3:r3.pur=true) (hn2:r2.np=true) (hn3:r3.np=true) (hz2:r2.sz=n2) (hz3:r3.sz=n3) (ha2:r2.isAgg=g2) (ha3:r3.isAgg=g3) (hs:St C σ a w) :
 bodyPostD P fn (RC C0 (.tup [r2,r3])) e a w:=by
 subst hC;obtain⟨ρ,Fe,Fb,st⟩:=hs;have hρ2:ρ id2=b2:=(st.pin id2 b2 (by simp[Ctx.put])).1;have hρ3:ρ id3=b3:=(st.pin id3 b3 (by simp[Ctx.put,show ¬ id3=id2 from fun e=>hne e.symm])).1
 have htm:∀ s id,σ.get s=some (.ptr id 0 [])->a.tmps[s]? = some (.pointer (some ⟨ρ id,0,none⟩)):=fun s id h=>by
  obtain⟨v,hv,hr⟩:=(z9 rfl).1 (st.env _ _ h);simp only[VR,D.isAgg,Bool.false_eq_true,if_false] at hr;generalize Fe s=F at hr;cases hr;exact hv
 have hld:∀ id d ty n gg,[LdT P ty n gg]->σ.box id=some (.var d)->d.pur=true->d.np=true->d.sz=n->d.isAgg=gg->∃ v,(loadVar ty ⟨ρ id,0,none⟩).run P w=.ok v w/\VR w (fun x=>x) (fun b=>C0.ok b/\b∉([]:List Nat)) (fun _=>False) d v []:=by
  intro id d ty n gg _ hb hp hn hz hag;obtain⟨cs,e,F',q1,q2,q3⟩:=st.bx _ _ hb;have hlen:=q2.len;have hF':=q2.pur hp;subst hF'
  have htk:(cs.toList.drop 0).take d.sz=cs.toList:=by rw[<- hlen,List.drop_zero];exact List.take_length
  obtain⟨vv,hrun,hvr⟩:=J2 (P:=P) (ty:=ty) (G:=fun b=>C0.ok b/\b∉([]:List Nat)) (L:=fun i=>(σ.box i).isSome=true) (ρ:=ρ) (p:=true) (off:=0) q1 (by rw[htk];exact q2.mono (fun _ _ _=>rfl) (fun b hb _=>⟨hb.1,by simp⟩) (fun i hi=>⟨hi,rfl⟩)) (by simp at hlen;omega) hz hag;exact⟨vv,hrun,hvr.noL hn⟩
 obtain⟨v2,l2,r2v⟩:=hld id2 r2 ty2 n2 g2 hb2 hp2 hn2 hz2 ha2;obtain⟨v3,l3,r3v⟩:=hld id3 r3 ty3 n3 g3 hb3 hp3 hn3 hz3 ha3;have hres:=AC (P:=P) (w:=w) hfr (htm _ _ h2) (htm _ _ h3) l2 l3
 have hrc:RC C0 (.tup [r2,r3]) (.returned (.tuple #[v2,v3])) w:=by
  refine⟨_,[],rfl,⟨st.os,⟨st.tape.tp,st.tape.dr⟩,st.output,st.grown,fun b hb=>(st.kept b (hk b hb)).1⟩,List.nodup_nil,by simp,[v2,v3],fun _=>[],rfl,rfl,by simp,fun k hk=>?_⟩
  match k,hk with
  | 0,_=>exact⟨m8 hp2,r2v⟩
  | 1,_=>exact⟨m8 hp3,r3v⟩
 have hd:a.defers=[dfr g b2 b3]:=by rw[st.defs];simp[Ctx.put,hdf]
 have hlv:Leaves P fn a.tmps (RC C0 (.tup [r2,r3])) a.defers .returning w:=by
  rw[hd];obtain⟨fg,hf1,hf2,hf3⟩:=hg.i;refine leaves_cons (by simp) (f:=g) (args:=#[.pointer (some ⟨b2,0,none⟩),.pointer (some ⟨b3,0,none⟩)]) ?_ ((hD w).mono ?_)
  ·simp[invoke,E8 hf1 hf2 hf3]
  ·rintro e u' w' ⟨⟨v,rfl⟩,rfl,rfl⟩;exact⟨_,hres,hrc⟩
 rcases he with rfl|rfl<;>exact hlv
theorem M5{fn:Func}{r2 r3:D}{e:Exit}{g b2 b3 s2 s3 id2 id3 ty2 ty3 n2 n3:Nat}{g2 g3:Bool}{z2 z3:Array Value}{C0:Ctx}[LdT P ty2 n2 g2][LdT P ty3 n3 g3](hC:C=C0.put (dfr g b2 b3) id2 id3 b2 b3)(hdf:C0.df=[])(hk:∀ b,b<C0.w0.heap.size->C0.keep b)(hne:id2≠id3)(hb23:b2≠b3)
 (hfr:fn.results.toList=[.cell s2 ty2,.cell s3 ty3]) (hg:CaT P g)
 (hD:∀ w ch,k90 ch->∀ (cs2 cs3:Array Value) (e2 e3:TypeId),w.heap[b2]? = some (.cells cs2 e2 (0,0))->cs2.size=n2->w.heap[b3]? = some (.cells cs3 e3 (0,0))->cs3.size=n3 ->
  CallsD P g #[.pointer (some ⟨b2,0,none⟩),.pointer (some ⟨b3,0,none⟩)] (.panicking ch) w (fun e u' w'=>(∃ v,e=.returned v)/\settle u'=.returning/\w'=(w.setRow b2 z2).setRow b3 z3))
 (he:q43 e) (h2:σ.get s2=some (.ptr id2 0 [])) (h3:σ.get s3=some (.ptr id3 0 [])) {d2 d3:D} (hb2:σ.box id2=some (.var d2)) (hb3:σ.box id3=some (.var d3)) (hz2:d2.sz=n2) (hz3:d3.sz=n3)
 (hc2:chk r2 z2.toList=true) (hc3:chk r3 z3.toList=true) (hr2:r2.sz=n2) (hr3:r3.sz=n3) (ha2:r2.isAgg=g2) (ha3:r3.isAgg=g3) (hf2:r2.isRef=false) (hf3:r3.isRef=false) {r2':D} (hwk:Wk r2 r2') (hf2':r2'.isRef=false) (hs:St C σ a w) :
 bodyPostD P fn (RC C0 (.tup [r2',r3])) e a w:=by
 subst hC;obtain⟨ch,rfl,hch⟩:=he;obtain⟨ρ,Fe,Fb,st⟩:=hs;have hρ2:ρ id2=b2:=(st.pin id2 b2 (by simp[Ctx.put])).1;have hρ3:ρ id3=b3:=(st.pin id3 b3 (by simp[Ctx.put,show ¬ id3=id2 from fun e=>hne e.symm])).1
 have htm:∀ s id,σ.get s=some (.ptr id 0 [])->a.tmps[s]? = some (.pointer (some ⟨ρ id,0,none⟩)):=fun s id h=>by
  obtain⟨v,hv,hr⟩:=(z9 rfl).1 (st.env _ _ h);simp only[VR,D.isAgg,Bool.false_eq_true,if_false] at hr;generalize Fe s=F at hr;cases hr;exact hv
 have hm2:=htm _ _ h2;have hm3:=htm _ _ h3;obtain⟨cs2,e2,F2,q1,q2,q3⟩:=st.bx _ _ hb2;obtain⟨cs3,e3,F3,p1,p2,p3⟩:=st.bx _ _ hb3;rw[hρ2] at q1 q3 hm2;rw[hρ3] at p1 p3 hm3
 have hl2:cs2.size=n2:=by rw[<- hz2,<- q2.len];simp
 have hl3:cs3.size=n3:=by rw[<- hz3,<- p2.len];simp
 have hnew2:C0.w0.heap.size<=b2:=Nat.le_of_not_lt (fun h=>st.new b2 (.inr ⟨id2,by rw[q3];simp⟩) (hk b2 h));have hnew3:C0.w0.heap.size<=b3:=Nat.le_of_not_lt (fun h=>st.new b3 (.inr ⟨id3,by rw[p3];simp⟩) (hk b3 h))
 let w2:=(w.setRow b2 z2).setRow b3 z3
 have hw2:w2.heap[b2]? = some (.cells z2 e2 (0,0)):=(setRow_other _ b3 b2 _ hb23).trans (setRow_heap w b2 cs2 _ e2 (0,0) q1);have hw3:w2.heap[b3]? = some (.cells z3 e3 (0,0)):=setRow_heap _ b3 cs3 _ e3 (0,0) ((setRow_other w b2 b3 _ (fun e=>hb23 e.symm)).trans p1)
 have hld:∀ (b:Nat) (d:D) ty n gg (z:Array Value) e',[LdT P ty n gg]->w2.heap[b]? = some (.cells z e' (0,0))->chk d z.toList=true->d.sz=n->d.isAgg=gg->∃ v,(loadVar ty ⟨b,0,none⟩).run P w2=.ok v w2/\VR w2 (fun x=>x) (fun b=>C0.ok b/\b∉([]:List Nat)) (fun _=>False) d v []:=by
  intro b d ty n gg z e' _ hb hc hz hag;have hrc:=f9 w2 (fun x=>x) (fun b=>C0.ok b/\b∉([]:List Nat)) (fun _=>False) d z.toList hc;have hlen:=hrc.len
  have htk:(z.toList.drop 0).take d.sz=z.toList:=by rw[<- hlen,List.drop_zero];exact List.take_length
  obtain⟨vv,hrun,hvr⟩:=J2 (P:=P) (ty:=ty) (p:=true) (off:=0) hb (by rw[htk];exact hrc.flag) (by simp at hlen;omega) hz hag;exact⟨vv,hrun,hvr⟩
 obtain⟨v2,l2,r2v⟩:=hld b2 r2 ty2 n2 g2 z2 e2 hw2 hc2 hr2 ha2;obtain⟨v3,l3,r3v⟩:=hld b3 r3 ty3 n3 g3 z3 e3 hw3 hc3 hr3 ha3;have hres:=AC (P:=P) (w:=w2) hfr hm2 hm3 l2 l3
 have hext:Ext C0.w0 w2:=⟨st.os,⟨st.tape.tp,st.tape.dr⟩,st.output,by show _<=((w.setRow b2 z2).setRow b3 z3).heap.size;simp;exact st.grown,fun b hb=>by
  have n2:b≠b2:=by omega
  have n3:b≠b3:=by omega
  exact(setRow_other _ b3 b _ n3).trans ((setRow_other w b2 b _ n2).trans (st.kept b (hk b hb)).1)⟩
 have hrc:RC C0 (.tup [r2',r3]) (.returned (.tuple #[v2,v3])) w2:=by
  refine⟨_,[],rfl,hext,List.nodup_nil,by simp,[v2,v3],fun _=>[],rfl,rfl,by simp,fun k hk=>?_⟩
  match k,hk with
  | 0,_=>exact⟨hf2',r2v.wk hwk⟩
  | 1,_=>exact⟨hf3,r3v⟩
 have hd:a.defers=[dfr g b2 b3]:=by rw[st.defs];simp[Ctx.put,hdf]
 show Leaves P fn a.tmps (RC C0 (.tup [r2',r3])) a.defers (.panicking ch) w;rw[hd];obtain⟨fg,hf1,hf2,hf3⟩:=hg.i;refine leaves_cons (by simp) (f:=g) (args:=#[.pointer (some ⟨b2,0,none⟩),.pointer (some ⟨b3,0,none⟩)]) ?_ ((hD w ch hch cs2 cs3 e2 e3 q1 hl2 p1 hl3).mono ?_)
 ·simp[invoke,E8 hf1 hf2 hf3]
 ·rintro e u' w' ⟨⟨v,rfl⟩,hu,rfl⟩;show Leaves P fn a.tmps (RC C0 (.tup [r2',r3])) [] (settle u') _;rw[hu];exact⟨_,hres,hrc⟩
end Go.Sx

namespace Go.Sx
variable{pos:String}{aft:Array Edge}{g:Option (Nat×Bool)}
theorem O{α:Sort _}{a:α}:a=a:=rfl
theorem Zt:True:=trivial
theorem dU{p:Prop}(h:p:=by decide):p:=h
theorem dT{p:Prop}[Decidable p](h:p):decide p=true:=decide_eq_true h
theorem dF{p:Prop}[Decidable p](h:¬ p):decide p=false:=decide_eq_false h
abbrev Bc:=@Bors.cons
abbrev Bn:=@Bors.nil
abbrev Bp:=@Bor.pur
theorem lN{α β:Type}{l:List α}(f:α->β):(l.map f).length=l.length:=List.length_map f
theorem nU{m n:Nat}(h:Nat.ble m n=true):m<=n:=Nat.le_of_ble_eq_true h
theorem bU{p:Prop}(h:p:=by first|omega|(simp only[List.length_map,List.length_append,List.length_cons,List.length_nil,List.length_take,List.length_drop,List.length_replicate];omega)|(simp;omega)):p:=h
theorem bV{x:Int}(h:0<=x:=by first|omega|(simp only[List.length_map,List.length_append,List.length_cons,List.length_nil,List.length_take,List.length_drop,List.length_replicate];omega)|(simp;omega)):0<=x:=h
theorem gU{σ:Sg}(n:Nat){d:D}(h:σ.get n=some d):σ.get n=some d:=h
theorem xU{σ:Sg}(n:Nat){d:Bx}(h:σ.box n=some d):σ.box n=some d:=h
theorem gV{gl:List (Nat×D)}{σ:Sg}(n:Nat){d:D}(h:σ.get n=some d):ev gl σ (.tmp n)=some d:=h
theorem eU{gl:List (Nat×D)}{τ:Sg}{f:Nat->Option D}(K:∀ u x,f u=some x->τ.get u=some x)(n:Nat){d:D}(h:f n=some d):ev gl τ (.tmp n)=some d:=K n d h
theorem kI{gl:List (Nat×D)}{σ:Sg}(n:Nat){i:Int}(h:ev gl σ (.const (.int .i64 i))=some (.int ((n:Nat):Int))):ev gl σ (.const (.int .i64 i))=some (.int ((n:Nat):Int)):=h
theorem kB{gl:List (Nat×D)}{σ:Sg}(b:Bool)(h:ev gl σ (.const (.bool b))=some (.bool b)):ev gl σ (.const (.bool b))=some (.bool b):=h
theorem kN{gl:List (Nat×D)}{σ:Sg}(h:ev gl σ (.const (.slice none 0 0))=some .nils):ev gl σ (.const (.slice none 0 0))=some .nils:=h
@[reducible] def It.y (n:Nat) (d:D):It:=⟨n,d,true⟩
@[reducible] def It.x (n:Nat):It:=⟨n,.dead,false⟩
section
variable{P:Program}{C:Ctx}{σ:Sg}{ops:List Oper}{an:List Nat}{ks kk:List (Nat×Nat)}{its:List It}
abbrev k42(P:Program)(C:Ctx)(σ:Sg)(an:List Nat)(ks kk:List (Nat×Nat))(its:List It)(i:Nat)(o:Oper)(t:Nat)(d:D):Prop:=
 ∀ τ:Sg,(∀ id x,lk σ.bx id=some x->τ.box id=some x)->t<τ.n->(∀ u x,facts an ks σ.env its i u=some x->τ.get u=some x)->OpS P C o τ ((P3 τ kk i).set t d)
abbrev Ent(P:Program)(C:Ctx)(σ:Sg)(ops:List Oper)(an:List Nat)(ks kk:List (Nat×Nat))(its:List It)(i:Nat)(o:Oper)(t:Nat)(d:D)(wt:Bool):Prop:=
 o.dst=some t/\Wt ops (facts an ks σ.env its i) o wt/\(wt=true->∀ τ:Sg,(∀ id x,lk σ.bx id=some x->τ.box id=some x)->t<τ.n->(∀ u x,facts an ks σ.env its i u=some x->τ.get u=some x)->OpS P C o τ ((P3 τ kk i).set t d))
def R8(kk:List (Nat×Nat))(i:Nat):Bool:=kk.all fun x=>!Nat.beq x.1 i
theorem w3{τ:Sg}{i:Nat}:∀ {kk:List (Nat×Nat)},R8 kk i=true->P3 τ kk i=τ:=by
 intro kk
 induction kk with
 | nil=>intro _;rfl
 | cons y r ih=>
  obtain⟨k,s⟩:=y;intro h;simp only[R8,List.all_cons,Bool.and_eq_true,Bool.not_eq_true'] at h;rw[P3,h.1];exact ih h.2
theorem aU{i t:Nat}{d:D}{op:Op}{ty:TypeId}{pos:String}{aft:Array Edge}(f:k42 P C σ an ks kk its i ⟨some t,op,ty,pos,aft,none⟩ t d) :
 Ent P C σ ops an ks kk its i ⟨some t,op,ty,pos,aft,none⟩ t d true:=⟨rfl,rfl,fun _=>f⟩
theorem aW{i t g:Nat}{d:D}{op:Op}{ty:TypeId}{pos:String}{aft:Array Edge}{want b:Bool}{tg:Nat}(h1:(ops[g]?).bind (·.dst)=some tg)
 (h3:facts an ks σ.env its i tg=some (.bool b)) (h4:true=(b==want)) (f:k42 P C σ an ks kk its i ⟨some t,op,ty,pos,aft,some (g,want)⟩ t d) :
 Ent P C σ ops an ks kk its i ⟨some t,op,ty,pos,aft,some (g,want)⟩ t d true:=by
 obtain⟨og,h1,h2⟩:=Option.bind_eq_some_iff.1 h1;exact⟨rfl,⟨og,tg,h1,h2,.inl ⟨b,h3,h4⟩⟩,fun _=>f⟩
theorem aF{i t g:Nat}{op:Op}{ty:TypeId}{pos:String}{aft:Array Edge}{want b:Bool}{tg:Nat}(h1:(ops[g]?).bind (·.dst)=some tg)
 (h3:facts an ks σ.env its i tg=some (.bool b)) (h4:false=(b==want)) :
 Ent P C σ ops an ks kk its i ⟨some t,op,ty,pos,aft,some (g,want)⟩ t .dead false:=by
 obtain⟨og,h1,h2⟩:=Option.bind_eq_some_iff.1 h1;exact⟨rfl,⟨og,tg,h1,h2,.inl ⟨b,h3,h4⟩⟩,fun h=>absurd h (by decide)⟩
theorem gT{b wt want:Bool}(h:b=true)(hw:wt=(true==want)):wt=(b==want):=gw h hw
theorem gF{b wt want:Bool}(h:b=false)(hw:wt=(false==want)):wt=(b==want):=gw h hw
theorem mU{i t:Nat}{d:D}{ty:TypeId}{pos:String}{aft:Array Edge}(s:Nat)(h:facts an ks σ.env its i s=some d)(hp:(d.pur&&R8 kk i)=true) :
 Ent P C σ ops an ks kk its i ⟨some t,.move (.tmp s),ty,pos,aft,none⟩ t d true:=by
 rw[Bool.and_eq_true] at hp;exact⟨rfl,rfl,fun _ τ _ H K=>by rw[w3 hp.2];exact R.mov (K s d h) hp.1 H⟩
theorem fU{i t id off off':Nat}{path:List Nat}{s f:Nat}{rt:TypeId}[FdT P s f off'](x:Nat)
 (h:facts an ks σ.env its i x=some (.ptr id off path)) (hk:R8 kk i=true):k42 P C σ an ks kk its i ⟨some t,.fieldAddr s (.tmp x) f,rt,pos,aft,g⟩ t (.ptr id (off+off') (path++[f])):=
 fun τ _ H K=>by rw[w3 hk];exact R.fdP (K _ _ h) H
theorem lU{i t id off:Nat}{path:List Nat}{d0 d:D}{ty n rt:TypeId}{gg:Bool}[LdT P ty n gg](p:Nat)
 (h:facts an ks σ.env its i p=some (.ptr id off path)) (hb:lk σ.bx id=some (.var d0)) (hl:d0.loc path=some (off,d)) (hp:d.pur=true) (hn:d.sz=n) (hg:d.isAgg=gg) (hk:R8 kk i=true) :
 k42 P C σ an ks kk its i ⟨some t,.load ty (.tmp p),rt,pos,aft,g⟩ t d:=
 fun τ B H K=>by rw[w3 hk];exact R.ldP (K _ _ h) (B _ _ hb) hl hp hn hg H
theorem tU{Q:Exit->Sg->Prop}(h:picks σ.get (σ.env.map (·.1))=σ.env)(q:Q .normal σ):TL P C Q [] σ:=⟨_,_,_,_,h,rfl,rfl,q⟩
theorem tV{Q:Exit->Sg->Prop}(e:List (Nat×D))(b:List (Nat×Bx))(n:Nat)(h:picks σ.get (e.map (·.1))=e)(h1:σ.bx=b)(h2:σ.n=n)(q:Q .normal ⟨n,e,b⟩):TL P C Q [] σ:=⟨_,_,_,_,h,h1,h2,q⟩
end
section
variable{P:Program}{C:Ctx}{σ:Sg}{ops:List Oper}{Q:Exit->Sg->Prop}
def x84(n:Nat)(m:Nat)(ks kk:List (Nat×Nat))(its:List It)(env:List (Nat×D))(l:Nat):Bool:=
 Nat.ble l m&&Nat.ble its.length l&&IA n (slots its)&&HS (G8 m 0) ks (slots its) its 0&&subs kk ks&&HT (slots its) env
theorem KG{id:Nat}(m:Nat)(its:List It)(ks kk:List (Nat×Nat))(env':List (Nat×D))(bx':List (Nat×Bx))(n':Nat)
 (H:AllOps P C σ ops (G8 m 0) ks kk its ops its 0) (h:x84 σ.n m ks kk its σ.env ops.length=true) (hE:picks (afts (G8 m 0) (fun _=>true) ks σ.env its) (env'.map (·.1))=env')
 (hb:σ.bx=bx') (hn':σ.n=n') (hT:TL P C Q (ops.drop its.length) ⟨n',env',bx'⟩):W P C (.region id ops.toArray false) Q σ:=by
 unfold x84 at h;simp only[Bool.and_eq_true] at h;exact D4 (Nat.le_of_ble_eq_true h.1.1.1.1.1) ⟨Nat.le_of_ble_eq_true h.1.1.1.1.2,h.1.1.1.2,H,h.1.1.2,h.1.2,h.2⟩ hE hb hn' hT
end
end Go.Sx

namespace Go.Sx
abbrev y1(a0:Nat){x0:D}:List It:=[.y a0 x0]
abbrev y2(a0 a1:Nat){x0 x1:D}:List It:=[.y a0 x0,.y a1 x1]
abbrev y3(a0 a1 a2:Nat){x0 x1 x2:D}:List It:=[.y a0 x0,.y a1 x1,.y a2 x2]
abbrev y4(a0 a1 a2 a3:Nat){x0 x1 x2 x3:D}:List It:=[.y a0 x0,.y a1 x1,.y a2 x2,.y a3 x3]
abbrev y5(a0 a1 a2 a3 a4:Nat){x0 x1 x2 x3 x4:D}:List It:=[.y a0 x0,.y a1 x1,.y a2 x2,.y a3 x3,.y a4 x4]
abbrev y6(a0 a1 a2 a3 a4 a5:Nat){x0 x1 x2 x3 x4 x5:D}:List It:=[.y a0 x0,.y a1 x1,.y a2 x2,.y a3 x3,.y a4 x4,.y a5 x5]
abbrev y7(a0 a1 a2 a3 a4 a5 a6:Nat){x0 x1 x2 x3 x4 x5 x6:D}:List It:=[.y a0 x0,.y a1 x1,.y a2 x2,.y a3 x3,.y a4 x4,.y a5 x5,.y a6 x6]
abbrev y8(a0 a1 a2 a3 a4 a5 a6 a7:Nat){x0 x1 x2 x3 x4 x5 x6 x7:D}:List It:=[.y a0 x0,.y a1 x1,.y a2 x2,.y a3 x3,.y a4 x4,.y a5 x5,.y a6 x6,.y a7 x7]
abbrev y9(a0 a1 a2 a3 a4 a5 a6 a7 a8:Nat){x0 x1 x2 x3 x4 x5 x6 x7 x8:D}:List It:=[.y a0 x0,.y a1 x1,.y a2 x2,.y a3 x3,.y a4 x4,.y a5 x5,.y a6 x6,.y a7 x7,.y a8 x8]
abbrev VS(a0 a1 a2 a3 a4 a5 a6 a7 a8 a9:Nat){x0 x1 x2 x3 x4 x5 x6 x7 x8 x9:D}:List It:=[.y a0 x0,.y a1 x1,.y a2 x2,.y a3 x3,.y a4 x4,.y a5 x5,.y a6 x6,.y a7 x7,.y a8 x8,.y a9 x9]
abbrev w52(a0 a1 a2 a3 a4 a5 a6 a7 a8 a9 a10:Nat){x0 x1 x2 x3 x4 x5 x6 x7 x8 x9 x10:D}:List It:=[.y a0 x0,.y a1 x1,.y a2 x2,.y a3 x3,.y a4 x4,.y a5 x5,.y a6 x6,.y a7 x7,.y a8 x8,.y a9 x9,.y a10 x10]
abbrev w58(a0 a1 a2 a3 a4 a5 a6 a7 a8 a9 a10 a11:Nat){x0 x1 x2 x3 x4 x5 x6 x7 x8 x9 x10 x11:D}:List It:=[.y a0 x0,.y a1 x1,.y a2 x2,.y a3 x3,.y a4 x4,.y a5 x5,.y a6 x6,.y a7 x7,.y a8 x8,.y a9 x9,.y a10 x10,.y a11 x11]
abbrev w92(a0 a1 a2 a3 a4 a5 a6 a7 a8 a9 a10 a11 a12:Nat){x0 x1 x2 x3 x4 x5 x6 x7 x8 x9 x10 x11 x12:D}:List It:=[.y a0 x0,.y a1 x1,.y a2 x2,.y a3 x3,.y a4 x4,.y a5 x5,.y a6 x6,.y a7 x7,.y a8 x8,.y a9 x9,.y a10 x10,.y a11 x11,.y a12 x12]
abbrev w51(a0 a1 a2 a3 a4 a5 a6 a7 a8 a9 a10 a11 a12 a13:Nat){x0 x1 x2 x3 x4 x5 x6 x7 x8 x9 x10 x11 x12 x13:D}:List It:=[.y a0 x0,.y a1 x1,.y a2 x2,.y a3 x3,.y a4 x4,.y a5 x5,.y a6 x6,.y a7 x7,.y a8 x8,.y a9 x9,.y a10 x10,.y a11 x11,.y a12 x12,.y a13 x13]
abbrev u04(a0 a1 a2 a3 a4 a5 a6 a7 a8 a9 a10 a11 a12 a13 a14:Nat){x0 x1 x2 x3 x4 x5 x6 x7 x8 x9 x10 x11 x12 x13 x14:D}:List It:=[.y a0 x0,.y a1 x1,.y a2 x2,.y a3 x3,.y a4 x4,.y a5 x5,.y a6 x6,.y a7 x7,.y a8 x8,.y a9 x9,.y a10 x10,.y a11 x11,.y a12 x12,.y a13 x13,.y a14 x14]
abbrev x87(a0 a1 a2 a3 a4 a5 a6 a7 a8 a9 a10 a11 a12 a13 a14 a15:Nat){x0 x1 x2 x3 x4 x5 x6 x7 x8 x9 x10 x11 x12 x13 x14 x15:D}:List It:=[.y a0 x0,.y a1 x1,.y a2 x2,.y a3 x3,.y a4 x4,.y a5 x5,.y a6 x6,.y a7 x7,.y a8 x8,.y a9 x9,.y a10 x10,.y a11 x11,.y a12 x12,.y a13 x13,.y a14 x14,.y a15 x15]
abbrev u03(a0 a1 a2 a3 a4 a5 a6 a7 a8 a9 a10 a11 a12 a13 a14 a15 a16:Nat){x0 x1 x2 x3 x4 x5 x6 x7 x8 x9 x10 x11 x12 x13 x14 x15 x16:D}:List It:=[.y a0 x0,.y a1 x1,.y a2 x2,.y a3 x3,.y a4 x4,.y a5 x5,.y a6 x6,.y a7 x7,.y a8 x8,.y a9 x9,.y a10 x10,.y a11 x11,.y a12 x12,.y a13 x13,.y a14 x14,.y a15 x15,.y a16 x16]
abbrev w57(a0 a1 a2 a3 a4 a5 a6 a7 a8 a9 a10 a11 a12 a13 a14 a15 a16 a17:Nat){x0 x1 x2 x3 x4 x5 x6 x7 x8 x9 x10 x11 x12 x13 x14 x15 x16 x17:D}:List It:=[.y a0 x0,.y a1 x1,.y a2 x2,.y a3 x3,.y a4 x4,.y a5 x5,.y a6 x6,.y a7 x7,.y a8 x8,.y a9 x9,.y a10 x10,.y a11 x11,.y a12 x12,.y a13 x13,.y a14 x14,.y a15 x15,.y a16 x16,.y a17 x17]
abbrev w91(a0 a1 a2 a3 a4 a5 a6 a7 a8 a9 a10 a11 a12 a13 a14 a15 a16 a17 a18:Nat){x0 x1 x2 x3 x4 x5 x6 x7 x8 x9 x10 x11 x12 x13 x14 x15 x16 x17 x18:D}:List It:=[.y a0 x0,.y a1 x1,.y a2 x2,.y a3 x3,.y a4 x4,.y a5 x5,.y a6 x6,.y a7 x7,.y a8 x8,.y a9 x9,.y a10 x10,.y a11 x11,.y a12 x12,.y a13 x13,.y a14 x14,.y a15 x15,.y a16 x16,.y a17 x17,.y a18 x18]
abbrev u02(a0 a1 a2 a3 a4 a5 a6 a7 a8 a9 a10 a11 a12 a13 a14 a15 a16 a17 a18 a19:Nat){x0 x1 x2 x3 x4 x5 x6 x7 x8 x9 x10 x11 x12 x13 x14 x15 x16 x17 x18 x19:D}:List It:=[.y a0 x0,.y a1 x1,.y a2 x2,.y a3 x3,.y a4 x4,.y a5 x5,.y a6 x6,.y a7 x7,.y a8 x8,.y a9 x9,.y a10 x10,.y a11 x11,.y a12 x12,.y a13 x13,.y a14 x14,.y a15 x15,.y a16 x16,.y a17 x17,.y a18 x18,.y a19 x19]
abbrev V1(a0:Nat){x0:D}:List (Nat×D):=[(a0,x0)]
abbrev V2(a0 a1:Nat){x0 x1:D}:List (Nat×D):=[(a0,x0),(a1,x1)]
abbrev V3(a0 a1 a2:Nat){x0 x1 x2:D}:List (Nat×D):=[(a0,x0),(a1,x1),(a2,x2)]
abbrev V4(a0 a1 a2 a3:Nat){x0 x1 x2 x3:D}:List (Nat×D):=[(a0,x0),(a1,x1),(a2,x2),(a3,x3)]
abbrev V5(a0 a1 a2 a3 a4:Nat){x0 x1 x2 x3 x4:D}:List (Nat×D):=[(a0,x0),(a1,x1),(a2,x2),(a3,x3),(a4,x4)]
abbrev V6(a0 a1 a2 a3 a4 a5:Nat){x0 x1 x2 x3 x4 x5:D}:List (Nat×D):=[(a0,x0),(a1,x1),(a2,x2),(a3,x3),(a4,x4),(a5,x5)]
abbrev V7(a0 a1 a2 a3 a4 a5 a6:Nat){x0 x1 x2 x3 x4 x5 x6:D}:List (Nat×D):=[(a0,x0),(a1,x1),(a2,x2),(a3,x3),(a4,x4),(a5,x5),(a6,x6)]
abbrev V8(a0 a1 a2 a3 a4 a5 a6 a7:Nat){x0 x1 x2 x3 x4 x5 x6 x7:D}:List (Nat×D):=[(a0,x0),(a1,x1),(a2,x2),(a3,x3),(a4,x4),(a5,x5),(a6,x6),(a7,x7)]
abbrev V9(a0 a1 a2 a3 a4 a5 a6 a7 a8:Nat){x0 x1 x2 x3 x4 x5 x6 x7 x8:D}:List (Nat×D):=[(a0,x0),(a1,x1),(a2,x2),(a3,x3),(a4,x4),(a5,x5),(a6,x6),(a7,x7),(a8,x8)]
abbrev j81(a0 a1 a2 a3 a4 a5 a6 a7 a8 a9:Nat){x0 x1 x2 x3 x4 x5 x6 x7 x8 x9:D}:List (Nat×D):=[(a0,x0),(a1,x1),(a2,x2),(a3,x3),(a4,x4),(a5,x5),(a6,x6),(a7,x7),(a8,x8),(a9,x9)]
abbrev j80(a0 a1 a2 a3 a4 a5 a6 a7 a8 a9 a10:Nat){x0 x1 x2 x3 x4 x5 x6 x7 x8 x9 x10:D}:List (Nat×D):=[(a0,x0),(a1,x1),(a2,x2),(a3,x3),(a4,x4),(a5,x5),(a6,x6),(a7,x7),(a8,x8),(a9,x9),(a10,x10)]
abbrev w89(a0 a1 a2 a3 a4 a5 a6 a7 a8 a9 a10 a11:Nat){x0 x1 x2 x3 x4 x5 x6 x7 x8 x9 x10 x11:D}:List (Nat×D):=[(a0,x0),(a1,x1),(a2,x2),(a3,x3),(a4,x4),(a5,x5),(a6,x6),(a7,x7),(a8,x8),(a9,x9),(a10,x10),(a11,x11)]
abbrev w50(a0 a1 a2 a3 a4 a5 a6 a7 a8 a9 a10 a11 a12:Nat){x0 x1 x2 x3 x4 x5 x6 x7 x8 x9 x10 x11 x12:D}:List (Nat×D):=[(a0,x0),(a1,x1),(a2,x2),(a3,x3),(a4,x4),(a5,x5),(a6,x6),(a7,x7),(a8,x8),(a9,x9),(a10,x10),(a11,x11),(a12,x12)]
abbrev u00(a0 a1 a2 a3 a4 a5 a6 a7 a8 a9 a10 a11 a12 a13:Nat){x0 x1 x2 x3 x4 x5 x6 x7 x8 x9 x10 x11 x12 x13:D}:List (Nat×D):=[(a0,x0),(a1,x1),(a2,x2),(a3,x3),(a4,x4),(a5,x5),(a6,x6),(a7,x7),(a8,x8),(a9,x9),(a10,x10),(a11,x11),(a12,x12),(a13,x13)]
abbrev u07(a0 a1 a2 a3 a4 a5 a6 a7 a8 a9 a10 a11 a12 a13 a14:Nat){x0 x1 x2 x3 x4 x5 x6 x7 x8 x9 x10 x11 x12 x13 x14:D}:List (Nat×D):=[(a0,x0),(a1,x1),(a2,x2),(a3,x3),(a4,x4),(a5,x5),(a6,x6),(a7,x7),(a8,x8),(a9,x9),(a10,x10),(a11,x11),(a12,x12),(a13,x13),(a14,x14)]
abbrev p6(a0:Nat){x0:D}:List (Nat×Bx):=[(a0,.var x0)]
abbrev p7(a0 a1:Nat){x0 x1:D}:List (Nat×Bx):=[(a0,.var x0),(a1,.var x1)]
abbrev d7(a0 a1 a2:Nat){x0 x1 x2:D}:List (Nat×Bx):=[(a0,.var x0),(a1,.var x1),(a2,.var x2)]
abbrev T6(a0 a1 a2 a3:Nat){x0 x1 x2 x3:D}:List (Nat×Bx):=[(a0,.var x0),(a1,.var x1),(a2,.var x2),(a3,.var x3)]
abbrev CU(a0 a1 a2 a3 a4:Nat){x0 x1 x2 x3 x4:D}:List (Nat×Bx):=[(a0,.var x0),(a1,.var x1),(a2,.var x2),(a3,.var x3),(a4,.var x4)]
abbrev OH(a0 a1 a2 a3 a4 a5:Nat){x0 x1 x2 x3 x4 x5:D}:List (Nat×Bx):=[(a0,.var x0),(a1,.var x1),(a2,.var x2),(a3,.var x3),(a4,.var x4),(a5,.var x5)]
abbrev j82(a0 a1 a2 a3 a4 a5 a6:Nat){x0 x1 x2 x3 x4 x5 x6:D}:List (Nat×Bx):=[(a0,.var x0),(a1,.var x1),(a2,.var x2),(a3,.var x3),(a4,.var x4),(a5,.var x5),(a6,.var x6)]
abbrev FA(a0 a1 a2 a3 a4 a5 a6 a7:Nat){x0 x1 x2 x3 x4 x5 x6 x7:D}:List (Nat×Bx):=[(a0,.var x0),(a1,.var x1),(a2,.var x2),(a3,.var x3),(a4,.var x4),(a5,.var x5),(a6,.var x6),(a7,.var x7)]
theorem kW{gl:List (Nat×D)}{σ:Sg}(v:Value)(d:D)(h:ev gl σ (.const v)=some d):ev gl σ (.const v)=some d:=h
abbrev F1:=@FrsR.one
theorem mG{α:Type}[Inhabited α]{f:α->D}(l:List α){i:Nat}(h:i<l.length:=by first|omega|(simp only[List.length_map,List.length_append,List.length_cons,List.length_nil,List.length_take,List.length_drop,List.length_replicate];omega)|(simp;omega)):(l.map f)[i]? = some (f l[i]!):=j5 h
theorem bO{p:Prop}(h:p:=by omega):p:=h
section
variable{P:Program}{C:Ctx}{σ:Sg}{ops:List Oper}{an:List Nat}{ks kk:List (Nat×Nat)}{its:List It}{i t:Nat}{d:D}{ty xt yt rt:TypeId}{pos:String}{aft:Array Edge}{g:Option (Nat×Bool)}{s s' z n m off:Nat}{path:List Nat}{o:Option Nat}{l:List D}
abbrev FF(σ:Sg)(an:List Nat)(ks:List (Nat×Nat))(its:List It)(i s:Nat)(d:D):Prop:=facts an ks σ.env its i s=some d
abbrev EO(P:Program)(C:Ctx)(σ:Sg)(an:List Nat)(ks kk:List (Nat×Nat))(its:List It)(i t:Nat)(op:Op)(rt:TypeId)(pos:String)(aft:Array Edge)(g:Option (Nat×Bool))(d:D):Prop:=k42 P C σ an ks kk its i ⟨some t,op,rt,pos,aft,g⟩ t d
theorem zA(h:FF σ an ks its i s d)(hp:d.pur=true)(hk:R8 kk i=true):EO P C σ an ks kk its i t (.assign (.tmp s)) rt pos aft g d:=
 fun τ _ H K=>by rw[w3 hk];exact j4 (K _ _ h) hp H
theorem zK{v:Value}(h:ev C.gl σ (.const v)=some d)(hp:d.pur=true)(hk:R8 kk i=true):EO P C σ an ks kk its i t (.assign (.const v)) rt pos aft g d:=
 fun τ _ H K=>by rw[w3 hk];exact j4 (show ev C.gl τ (.const v)=some d from h) hp H
theorem OP{v:Value}(h:ev C.gl σ (.const v)=some d)(hp:d.pur=true)(hk:R8 kk i=true):EO P C σ an ks kk its i t (.move (.const v)) rt pos aft g d:=
 fun τ _ H K=>by rw[w3 hk];exact R.mov (show ev C.gl τ (.const v)=some d from h) hp H
theorem zL{d0:D}{p i0:Nat}{n:TypeId}{gg:Bool}[LdT P ty n gg](h:FF σ an ks its i p (.ep s z i0 off path))(hs:FF σ an ks its i s (.sl o z l))(hi:l[i0]? = some d0)(hl:d0.loc path=some (off,d))(hp:d.pur=true)(hn:d.sz=n)(hg:d.isAgg=gg)(hk:R8 kk i=true) :
 EO P C σ an ks kk its i t (.load ty (.tmp p)) rt pos aft g d:=fun τ _ H K=>by rw[w3 hk];exact R.ldE (K _ _ h) (SC.sl (K _ _ hs)) hi hl hp hn hg H
theorem KH{d0:D}{p i0:Nat}{n:TypeId}{gg:Bool}[LdT P ty n gg](h:FF σ an ks its i p (.ep s z i0 off path))(hs:FF σ an ks its i s (.al s'))(hs':FF σ an ks its i s' (.sl o z l))(hi:l[i0]? = some d0)(hl:d0.loc path=some (off,d))(hp:d.pur=true)(hn:d.sz=n)(hg:d.isAgg=gg)(hk:R8 kk i=true) :
 EO P C σ an ks kk its i t (.load ty (.tmp p)) rt pos aft g d:=fun τ _ H K=>by rw[w3 hk];exact R.ldE (K _ _ h) (SC.al (K _ _ hs) (K _ _ hs')) hi hl hp hn hg H
theorem zI{z:Nat}{n:Int}{x:Nat}{e b:Nat}[hT:SlT P ty e][hE:ElT P e z b](k:Nat)(h:FF σ an ks its i s (.sl o z l))(hi:FF σ an ks its i x (.int n))(hk:n=(k:Int))(h1:k<l.length)(hk2:R8 kk i=true)(hst:s≠t:=by decide) :
 EO P C σ an ks kk its i t (.indexAddr ty (.tmp s) (.tmp x)) rt pos aft g (.ep s z k 0 []):=fun τ _ H K=>by rw[w3 hk2];exact R.idxN k (SC.sl (K _ _ h)) (b4 (evt (K _ _ hi))) hk h1 H hst
theorem CD{z:Nat}{n:Int}{x:Nat}{e b:Nat}[hT:SlT P ty e][hE:ElT P e z b](k:Nat)(h:FF σ an ks its i s (.al s'))(h':FF σ an ks its i s' (.sl o z l))(hi:FF σ an ks its i x (.int n))(hk:n=(k:Int))(h1:k<l.length)(hk2:R8 kk i=true)(hst:s≠t:=by decide) :
 EO P C σ an ks kk its i t (.indexAddr ty (.tmp s) (.tmp x)) rt pos aft g (.ep s z k 0 []):=fun τ _ H K=>by rw[w3 hk2];exact R.idxN k (SC.al (K _ _ h) (K _ _ h')) (b4 (evt (K _ _ hi))) hk h1 H hst
theorem PT{e b m id z:Nat}{n:Int}{x:Nat}[hT:ArT P ty m e][hE:ElT P e z b](k:Nat)(h:FF σ an ks its i s (.ptr id off path))(hi:FF σ an ks its i x (.int n))(hk:n=(k:Int))(h1:k<m)(hk2:R8 kk i=true) :
 EO P C σ an ks kk its i t (.indexAddr ty (.tmp s) (.tmp x)) rt pos aft g (.ptr id (off+k*z) (path++[k])):=fun τ _ H K=>by rw[w3 hk2];exact R.idxP k (K _ _ h) (b4 (evt (K _ _ hi))) hk h1 H
theorem zN{e:Nat}[hT:SlT P ty e](h:FF σ an ks its i s (.sl o z l))(hl:l.length=n)(hk:R8 kk i=true):EO P C σ an ks kk its i t (.call { callee:=.builtin .len,args:=#[.tmp s],argTypes:=#[ty] }) rt pos aft g (.int ((n:Nat):Int)):=
 fun τ _ H K=>by rw[w3 hk];exact R6 (SC.sl (K _ _ h)) hl H
theorem x83{e:Nat}[hT:SlT P ty e](h:FF σ an ks its i s (.al s'))(h':FF σ an ks its i s' (.sl o z l))(hl:l.length=n)(hk:R8 kk i=true):EO P C σ an ks kk its i t (.call { callee:=.builtin .len,args:=#[.tmp s],argTypes:=#[ty] }) rt pos aft g (.int ((n:Nat):Int)):=
 fun τ _ H K=>by rw[w3 hk];exact R6 (SC.al (K _ _ h) (K _ _ h')) hl H
theorem zM{e:Nat}(h:FF σ an ks its i s (.sl (some e) z l))(hk:R8 kk i=true)(hst:s≠t:=by decide):EO P C σ an ks kk its i t (.move (.tmp s)) rt pos aft g (.al s):=
 fun τ _ H K=>by rw[w3 hk];exact R.al (K _ _ h) H hst
theorem zP{x y:Nat}(hx:FF σ an ks its i x (.int ((m:Nat):Int)))(hy:FF σ an ks its i y (.int ((n:Nat):Int)))(q0:m+n<9223372036854775808)(hk:R8 kk i=true):EO P C σ an ks kk its i t (.binOp .add xt (.tmp x) (.tmp y) yt) rt pos aft g (.int ((m+n:Nat):Int)):=
 fun τ _ H K=>by rw[w3 hk];exact RP m n (evt (K _ _ hx)) (evt (K _ _ hy)) q0 H
theorem Q6{x:Nat}{v:Value}(n:Nat)(hx:FF σ an ks its i x (.int ((m:Nat):Int)))(hy:ev C.gl σ (.const v)=some (.int ((n:Nat):Int)))(q0:m+n<9223372036854775808)(hk:R8 kk i=true):EO P C σ an ks kk its i t (.binOp .add xt (.tmp x) (.const v) yt) rt pos aft g (.int ((m+n:Nat):Int)):=
 fun τ _ H K=>by rw[w3 hk];exact RP m n (evt (K _ _ hx)) (show ev C.gl τ (.const v)=some _ from hy) q0 H
theorem zQ{x y:Nat}(hx:FF σ an ks its i x (.int ((m:Nat):Int)))(hy:FF σ an ks its i y (.int ((n:Nat):Int)))(q0:n<=m)(q1:m<9223372036854775808)(hk:R8 kk i=true):EO P C σ an ks kk its i t (.binOp .sub xt (.tmp x) (.tmp y) yt) rt pos aft g (.int ((m-n:Nat):Int)):=
 fun τ _ H K=>by rw[w3 hk];exact JC m n (evt (K _ _ hx)) (evt (K _ _ hy)) q0 q1 H
theorem OD{x:Nat}{v:Value}(n:Nat)(hx:FF σ an ks its i x (.int ((m:Nat):Int)))(hy:ev C.gl σ (.const v)=some (.int ((n:Nat):Int)))(q0:n<=m)(q1:m<9223372036854775808)(hk:R8 kk i=true):EO P C σ an ks kk its i t (.binOp .sub xt (.tmp x) (.const v) yt) rt pos aft g (.int ((m-n:Nat):Int)):=
 fun τ _ H K=>by rw[w3 hk];exact JC m n (evt (K _ _ hx)) (show ev C.gl τ (.const v)=some _ from hy) q0 q1 H
theorem zS{x y:Nat}(hx:FF σ an ks its i x (.int ((m:Nat):Int)))(hy:FF σ an ks its i y (.int ((n:Nat):Int)))(hk:R8 kk i=true):EO P C σ an ks kk its i t (.binOp .lss xt (.tmp x) (.tmp y) yt) rt pos aft g (.bool (decide (m<n))):=
 fun τ _ H K=>by rw[w3 hk];exact RD m n (evt (K _ _ hx)) (evt (K _ _ hy)) H
theorem KO{x:Nat}{v:Value}(n:Nat)(hx:FF σ an ks its i x (.int ((m:Nat):Int)))(hy:ev C.gl σ (.const v)=some (.int ((n:Nat):Int)))(hk:R8 kk i=true):EO P C σ an ks kk its i t (.binOp .lss xt (.tmp x) (.const v) yt) rt pos aft g (.bool (decide (m<n))):=
 fun τ _ H K=>by rw[w3 hk];exact RD m n (evt (K _ _ hx)) (show ev C.gl τ (.const v)=some _ from hy) H
theorem zG{x y:Nat}(hx:FF σ an ks its i x (.int ((m:Nat):Int)))(hy:FF σ an ks its i y (.int ((n:Nat):Int)))(hk:R8 kk i=true):EO P C σ an ks kk its i t (.binOp .gtr xt (.tmp x) (.tmp y) yt) rt pos aft g (.bool (decide (n<m))):=
 fun τ _ H K=>by rw[w3 hk];exact k41 m n (evt (K _ _ hx)) (evt (K _ _ hy)) H
theorem l5{x:Nat}{v:Value}(n:Nat)(hx:FF σ an ks its i x (.int ((m:Nat):Int)))(hy:ev C.gl σ (.const v)=some (.int ((n:Nat):Int)))(hk:R8 kk i=true):EO P C σ an ks kk its i t (.binOp .gtr xt (.tmp x) (.const v) yt) rt pos aft g (.bool (decide (n<m))):=
 fun τ _ H K=>by rw[w3 hk];exact k41 m n (evt (K _ _ hx)) (show ev C.gl τ (.const v)=some _ from hy) H
theorem KD{x:Nat}{v:Value}(n:Nat)(hx:FF σ an ks its i x (.int ((m:Nat):Int)))(hy:ev C.gl σ (.const v)=some (.int ((n:Nat):Int)))(hk:R8 kk i=true):EO P C σ an ks kk its i t (.binOp .eql xt (.tmp x) (.const v) yt) rt pos aft g (.bool (decide (m=n))):=
 fun τ _ H K=>by rw[w3 hk];exact x80 m n (evt (K _ _ hx)) (show ev C.gl τ (.const v)=some _ from hy) H
theorem x86{x y:Nat}(hx:FF σ an ks its i x (.int ((m:Nat):Int)))(hy:FF σ an ks its i y (.int ((n:Nat):Int)))(hk:R8 kk i=true):EO P C σ an ks kk its i t (.binOp .neq xt (.tmp x) (.tmp y) yt) rt pos aft g (.bool (decide (m≠n))):=
 fun τ _ H K=>by rw[w3 hk];exact k39 m n (evt (K _ _ hx)) (evt (K _ _ hy)) H
theorem q47{x:Nat}{v:Value}(n:Nat)(hx:FF σ an ks its i x (.int ((m:Nat):Int)))(hy:ev C.gl σ (.const v)=some (.int ((n:Nat):Int)))(hk:R8 kk i=true):EO P C σ an ks kk its i t (.binOp .neq xt (.tmp x) (.const v) yt) rt pos aft g (.bool (decide (m≠n))):=
 fun τ _ H K=>by rw[w3 hk];exact k39 m n (evt (K _ _ hx)) (show ev C.gl τ (.const v)=some _ from hy) H
theorem zB{op:BinOp}{x y:Nat}{dx dy:D}(hx:FF σ an ks its i x dx)(hy:FF σ an ks its i y dy)(ha:arith op dx dy=some (True,d))(hk:R8 kk i=true):EO P C σ an ks kk its i t (.binOp op xt (.tmp x) (.tmp y) yt) rt pos aft g d:=
 fun τ _ H K=>by rw[w3 hk];exact R.bin (evt (K _ _ hx)) (evt (K _ _ hy)) ha trivial H
theorem B6{op:BinOp}{x:Nat}{v:Value}{dx dy:D}(hx:FF σ an ks its i x dx)(hy:ev C.gl σ (.const v)=some dy)(ha:arith op dx dy=some (True,d))(hk:R8 kk i=true):EO P C σ an ks kk its i t (.binOp op xt (.tmp x) (.const v) yt) rt pos aft g d:=
 fun τ _ H K=>by rw[w3 hk];exact R.bin (evt (K _ _ hx)) (show ev C.gl τ (.const v)=some _ from hy) ha trivial H
theorem zW{src dst:TypeId}{k k0:IntKind}{x:Nat}{dx:D}[h0:IkT P src k0][hT:IkT P dst k](hx:FF σ an ks its i x dx)(ha:PM k dx=some d)(hk:R8 kk i=true):EO P C σ an ks kk its i t (.convert src dst (.tmp x)) rt pos aft g d:=
 fun τ _ H K=>by rw[w3 hk];exact R.conv (evt (K _ _ hx)) ha H
theorem UQ{op:UnOp}{x:Nat}{dx:D}(hx:FF σ an ks its i x dx)(ha:x95 op dx=some d)(hk:R8 kk i=true):EO P C σ an ks kk its i t (.unOp op xt (.tmp x)) rt pos aft g d:=
 fun τ _ H K=>by rw[w3 hk];exact R.un (evt (K _ _ hx)) ha H
theorem zT{c x:Nat}{y:Operand}{b:Bool}(hc:FF σ an ks its i c (.bool b))(hb:b=true)(hx:FF σ an ks its i x d)(hp:d.pur=true)(hk:R8 kk i=true):EO P C σ an ks kk its i t (.pick (.tmp c) (.tmp x) y) rt pos aft g d:=
 fun τ _ H K=>by rw[w3 hk];exact VA (evt (K _ _ hc)) hb (evt (K _ _ hx)) hp H
theorem I4{c:Nat}{v:Value}{y:Operand}{b:Bool}(hc:FF σ an ks its i c (.bool b))(hb:b=true)(hx:ev C.gl σ (.const v)=some d)(hp:d.pur=true)(hk:R8 kk i=true):EO P C σ an ks kk its i t (.pick (.tmp c) (.const v) y) rt pos aft g d:=
 fun τ _ H K=>by rw[w3 hk];exact VA (evt (K _ _ hc)) hb (show ev C.gl τ (.const v)=some _ from hx) hp H
theorem zF{c x:Nat}{y:Operand}{b:Bool}(hc:FF σ an ks its i c (.bool b))(hb:b=false)(hx:FF σ an ks its i x d)(hp:d.pur=true)(hk:R8 kk i=true):EO P C σ an ks kk its i t (.pick (.tmp c) y (.tmp x)) rt pos aft g d:=
 fun τ _ H K=>by rw[w3 hk];exact VE (evt (K _ _ hc)) hb (evt (K _ _ hx)) hp H
theorem YL{c:Nat}{v:Value}{y:Operand}{b:Bool}(hc:FF σ an ks its i c (.bool b))(hb:b=false)(hx:ev C.gl σ (.const v)=some d)(hp:d.pur=true)(hk:R8 kk i=true):EO P C σ an ks kk its i t (.pick (.tmp c) y (.const v)) rt pos aft g d:=
 fun τ _ H K=>by rw[w3 hk];exact VE (evt (K _ _ hc)) hb (show ev C.gl τ (.const v)=some _ from hx) hp H
def z64:List (Nat×Nat)->Nat->Nat->Bool
 | [],_,_=>false
 | (k,x)::r,i,s=>bif Nat.beq k i then Nat.beq x s&&R8 r i else z64 r i s
theorem TQ{τ:Sg}{i s:Nat}:∀ {kk:List (Nat×Nat)},z64 kk i s=true->P3 τ kk i=τ.kill s:=by
 intro kk
 induction kk with
 | nil=>intro h;cases h
 | cons y r ih=>
  obtain⟨k,x⟩:=y;intro h;rw[z64] at h;rw[P3]
  cases hb:Nat.beq k i with
  | true=>
   rw[hb,cond_true,Bool.and_eq_true] at h;rw[cond_true,Nat.eq_of_beq_eq_true h.1];exact w3 h.2
  | false=>rw[hb,cond_false] at h;rw[cond_false];exact ih h
theorem zO(h:FF σ an ks its i s d)(hd:d.isRef=false)(hk:z64 kk i s=true)(hst:s≠t:=by decide):EO P C σ an ks kk its i t (.assign (.tmp s)) rt pos aft g d:=
 fun τ _ H K=>by rw[TQ hk];exact R.asgO (K _ _ h) hd H hst
theorem zV(h:FF σ an ks its i s d)(hp:d.pur=true)(hk:R8 kk i=true):EO P C σ an ks kk its i t (.move (.tmp s)) rt pos aft g d:=
 fun τ _ H K=>by rw[w3 hk];exact R.mov (evt (K _ _ h)) hp H
theorem QP{y:Nat}{v:Value}(m:Nat)(hx:ev C.gl σ (.const v)=some (.int ((m:Nat):Int)))(hy:FF σ an ks its i y (.int ((n:Nat):Int)))(q0:m*n<9223372036854775808)(hk:R8 kk i=true):EO P C σ an ks kk its i t (.binOp .mul xt (.const v) (.tmp y) yt) rt pos aft g (.int ((m*n:Nat):Int)):=
 fun τ _ H K=>by rw[w3 hk];exact RH m n (show ev C.gl τ (.const v)=some _ from hx) (evt (K _ _ hy)) q0 H
theorem QH{s0 x e z b:Nat}{l l' l2:List D}[hT:SlT P ty e][hE:ElT P e z b](ha:FF σ an ks its i s (.al s0))(hs:FF σ an ks its i s0 (.sl (some e) z l))(hx:FF σ an ks its i x (.sl o z l'))(hp:∀ y∈l',y.pur=true)(he:l++l'=l2)(hn:l.length+l'.length<=1073741824)
 (hk:z64 kk i s0=true) (hst:s0≠t:=by decide) (hby:b<=131072:=by decide):EO P C σ an ks kk its i t (.call { callee:=.builtin .append,args:=#[.tmp s,.tmp x],argTypes:=#[ty,ty] }) rt pos aft g (.sl (some e) z l2):=
 fun τ _ H K=>by rw[TQ hk];exact J8 (Or.inr (K _ _ ha)) (K _ _ hs) (SrcO.sc (SC.sl (K _ _ hx)) hp) he hn H hst hby
theorem zX{k:Nat}{ds:List D}(h:FF σ an ks its i s (.tup ds))(hd:ds[k]? = some d)(hp:d.pur=true)(hk:R8 kk i=true):EO P C σ an ks kk its i t (.extract (.tmp s) k) rt pos aft g d:=
 fun τ _ H K=>by rw[w3 hk];exact R.ext (K _ _ h) hd hp H
theorem zY{ds:List D}(h:FF σ an ks its i s (.tup ds))(hp:JM ds=true)(hk:R8 kk i=true):EO P C σ an ks kk its i t (.move (.tmp s)) rt pos aft g (.tup ds):=
 fun τ _ H K=>by rw[w3 hk];exact R.movT (K _ _ h) hp H
theorem P9{x i0 off' sT f:Nat}[FdT P sT f off'](h:FF σ an ks its i x (.ep s' z i0 off path))(hk:R8 kk i=true)(hst:s'≠t:=by decide):EO P C σ an ks kk its i t (.fieldAddr sT (.tmp x) f) rt pos aft g (.ep s' z i0 (off+off') (path++[f])):=
 fun τ _ H K=>by rw[w3 hk];exact R.fdE (K _ _ h) H hst
theorem P7{id:Nat}(h:FF σ an ks its i s (.ptr id off path))(hk:R8 kk i=true):EO P C σ an ks kk its i t (.nilCheck (.tmp s)) rt pos aft g (.ptr id off path):=
 fun τ _ H K=>by rw[w3 hk];exact R.nilcP (K _ _ h) H
theorem zC{f:FuncId}[CaT P f]{gl:List (Nat×D)}{x:Nat}{tys:Array TypeId}{dx:D}(hC:C.gl=gl)(hF:Fn P gl f [dx] d)(hx:FF σ an ks its i x dx)(hp:dx.pur=true)(hn:dx.np=true)(hr:FrsR d)(hk:R8 kk i=true) :
 EO P C σ an ks kk its i t (.call { callee:=.value (.func f),args:=[Operand.tmp x].toArray,argTypes:=tys }) rt pos aft g d:=fun τ _ H K=>by rw[w3 hk];exact w6 hC hF (.cons (.pur (evt (K _ _ hx)) hp hn) .nil) hr H
theorem zD{f:FuncId}[CaT P f]{gl:List (Nat×D)}{x y:Nat}{tys:Array TypeId}{dx dy:D}(hC:C.gl=gl)(hF:Fn P gl f [dx,dy] d)(hx:FF σ an ks its i x dx)(hp:dx.pur=true)(hn:dx.np=true)(hy:FF σ an ks its i y dy)(hp':dy.pur=true)(hn':dy.np=true)(hr:FrsR d)(hk:R8 kk i=true) :
 EO P C σ an ks kk its i t (.call { callee:=.value (.func f),args:=[Operand.tmp x,.tmp y].toArray,argTypes:=tys }) rt pos aft g d:=fun τ _ H K=>by rw[w3 hk];exact w6 hC hF (.cons (.pur (evt (K _ _ hx)) hp hn) (.cons (.pur (evt (K _ _ hy)) hp' hn') .nil)) hr H
theorem ZB{f:FuncId}[CaT P f]{gl:List (Nat×D)}{x:Nat}{v:Value}{tys:Array TypeId}{dx dy:D}(hC:C.gl=gl)(hF:Fn P gl f [dx,dy] d)(hx:FF σ an ks its i x dx)(hp:dx.pur=true)(hn:dx.np=true)(hy:ev C.gl σ (.const v)=some dy)(hp':dy.pur=true)(hn':dy.np=true)(hr:FrsR d)(hk:R8 kk i=true) :
 EO P C σ an ks kk its i t (.call { callee:=.value (.func f),args:=[Operand.tmp x,.const v].toArray,argTypes:=tys }) rt pos aft g d:=fun τ _ H K=>by rw[w3 hk];exact w6 hC hF (.cons (.pur (evt (K _ _ hx)) hp hn) (.cons (.pur (show ev C.gl τ (.const v)=some _ from hy) hp' hn') .nil)) hr H
end
section
variable{P:Program}{C:Ctx}{σ:Sg}{ops:List Oper}{Q:Exit->Sg->Prop}{l:List Oper}{t s:Nat}{d:D}{ty rt:TypeId}{pos:String}{aft:Array Edge}
theorem Q7[hZ:ZrT P ty d](hid:σ.box t=none)(ht:Nat.ble (t+1) σ.n=true)(k:TL P C Q l ((σ.newB t (.var d)).set t (.ptr t 0 []))):TL P C Q (⟨some t,.alloc ty,rt,pos,aft,none⟩::l) σ:=⟨rfl,_,R.alloc hid (Nat.le_of_ble_eq_true ht),k⟩
theorem P8(h:σ.get s=some d)(hp:d.pur=true)(ht:Nat.ble (t+1) σ.n=true)(k:TL P C Q l (σ.set t d)):TL P C Q (⟨some t,.assign (.tmp s),rt,pos,aft,none⟩::l) σ:=⟨rfl,_,j4 (evt h) hp (Nat.le_of_ble_eq_true ht),k⟩
theorem d5{p id off:Nat}{path:List Nat}{d0 d1 d' dx:D}{n:TypeId}{gg:Bool}[LdT P ty n gg]{x:Nat}(h:σ.get p=some (.ptr id off path))(hb:σ.box id=some (.var d0))(hl:d0.loc path=some (off,d1))(hx:σ.get x=some dx)(hu:d0.upd path dx=some d')(k:TL P C Q l (σ.putB id (.var d')))
 (hp:dx.pur=true:=by rfl) (hnp:dx.np=true:=by rfl) (hn:dx.sz=n:=by rfl) (hz:d1.sz=n:=by rfl):TL P C Q (⟨none,.store ty (.tmp p) (.tmp x),rt,pos,aft,none⟩::l) σ:=⟨rfl,_,Z7 h hb hl (evt hx) hp hnp hn hz hu,k⟩
theorem W.dr{id m n':Nat}{an:List Nat}{ks kk:List (Nat×Nat)}{its:List It}{σ:Sg}{bx':List (Nat×Bx)}{env':List (Nat×D)}(hm:P.follows .mixedOrders=true)(hA0:KY ops an m=true)(hlen:its.length=m)(H:ItOk P C σ ops an ks kk its)(hE:picks (afts an (fun _=>true) ks σ.env its) (env'.map (·.1))=env')
 (hb:σ.bx=bx') (hn:σ.n=n') (hT:TL P C Q (ops.drop its.length) ⟨n',env',bx'⟩):W P C (.region id ops.toArray true) Q σ:=x75 hm hA0 hlen H hE hb hn hT
theorem iL{P:Program}(t n:TypeId)[h:LdT P t n true]:LdT P t n true:=h
theorem C6{c:Code}{σ:Sg}(env':List (Nat×D))(bx':List (Nat×Bx))(n':Nat)(hE:picks σ.get (env'.map (·.1))=env')(hb:σ.bx=bx')(hn:σ.n=n')(h:W P C c Q ⟨n',env',bx'⟩):W P C c Q σ:=VD hE hb hn h
theorem u4{nn:Nat}{env:List (Nat×D)}{bx:List (Nat×Bx)}{id:Nat}(m:Nat)(its:List It)(ks kk:List (Nat×Nat))(env':List (Nat×D))
 (H:AllOps P C ⟨nn,env,bx⟩ ops (G8 m 0) ks kk its ops its 0) (h:x84 nn m ks kk its env ops.length=true) (hE:picks (afts (G8 m 0) (fun _=>true) ks env its) (env'.map (·.1))=env')
 (hT:TL P C Q (ops.drop its.length) ⟨nn,env',bx⟩):W P C (.region id ops.toArray false) Q ⟨nn,env,bx⟩:=KG m its ks kk env' bx nn H h hE rfl rfl hT
theorem z8{nn:Nat}{env:List (Nat×D)}{bx:List (Nat×Bx)}{id:Nat}(m:Nat)(its:List It)(env':List (Nat×D))
 (H:AllOps P C ⟨nn,env,bx⟩ ops (G8 m 0) [] [] its ops its 0) (q:Q .normal ⟨nn,env',bx⟩) (h:x84 nn m [] [] its env ops.length=true:=by rfl) (hE:picks (afts (G8 m 0) (fun _=>true) [] env its) (env'.map (·.1))=env':=by rfl)
 (hd:ops.drop its.length=[]:=by rfl) (hp:picks (Sg.get ⟨nn,env',bx⟩) (env'.map (·.1))=env':=by rfl):W P C (.region id ops.toArray false) Q ⟨nn,env,bx⟩:=u4 m its [] [] env' H h hE (by rw[hd];exact tU hp q)
theorem q9{y:Code}{nn:Nat}{env:List (Nat×D)}{bx:List (Nat×Bx)}{id:Nat}(m:Nat)(its:List It)(env':List (Nat×D))
 (H:AllOps P C ⟨nn,env,bx⟩ ops (G8 m 0) [] [] its ops its 0) (q:W P C y Q ⟨nn,env',bx⟩) (h:x84 nn m [] [] its env ops.length=true:=by rfl) (hE:picks (afts (G8 m 0) (fun _=>true) [] env its) (env'.map (·.1))=env':=by rfl)
 (hd:ops.drop its.length=[]:=by rfl) (hp:picks (Sg.get ⟨nn,env',bx⟩) (env'.map (·.1))=env':=by rfl):W P C (.seq (.region id ops.toArray false) y) Q ⟨nn,env,bx⟩:=W.seq (z8 m its env' H q h hE hd hp)
theorem z5{y:Code}{nn:Nat}{env:List (Nat×D)}{bx:List (Nat×Bx)}{id:Nat}(m:Nat)(its:List It)(ks kk:List (Nat×Nat))(env':List (Nat×D))
 (H:AllOps P C ⟨nn,env,bx⟩ ops (G8 m 0) ks kk its ops its 0) (h:x84 nn m ks kk its env ops.length=true) (hE:picks (afts (G8 m 0) (fun _=>true) ks env its) (env'.map (·.1))=env')
 (hT:TL P C (fun e s=>match e with | .normal=>W P C y Q s|e=>Q e s) (ops.drop its.length) ⟨nn,env',bx⟩):W P C (.seq (.region id ops.toArray false) y) Q ⟨nn,env,bx⟩:=W.seq (u4 m its ks kk env' H h hE hT)
end
end Go.Sx

namespace Go.Sx
variable{P:Program}{C:Ctx}{σ σ' σ1:Sg}{a:Act}{w w':World}{ρ:Nat->Nat}{Fe Fe' Fb:Nat->List Nat}
theorem YO{e:TypeId}[hk:IkT P e .u64][hL:LdT P e 1 false](w:World)(d:Nat)(xs ys:List UInt64)(n:Nat)(hx:xs.length=n)(hy:ys.length=n)(cx cy:Array Value)
 (h1:cx.toList=xs.map (fun b=>Value.int .u64 b.toNat)) (h2:cy.toList=ys.map (fun b=>Value.int .u64 b.toNat)):∀ (l:List Nat),(∀ i∈l,i<n) ->
 (Op.eqItems (d+1) e 1 cx cy l).run P w=.ok (l.all fun i=>xs[i]? == ys[i]?) w:=by
 intro l
 induction l with
 | nil=>intro _;simp[Op.eqItems]
 | cons i l ih=>
  intro h;have hi:=h i (by simp)
  have hp:∀ (cs:Array Value) (zs:List UInt64) (hz:zs.length=n),cs.toList=zs.map (fun b=>Value.int .u64 b.toNat)->(part e cs (i*1)).run P w=.ok (.int .u64 (zs[i]'(by omega)).toNat) w:=by
   intro cs zs hz hc
   have hi':i<cs.size:=by
    have:=congrArg List.length hc;simp at this;omega
   have:cs[i]=.int .u64 (zs[i]'(by omega)).toNat:=by
    have e1:cs.toList[i]'(by simpa using hi')=(zs.map (fun b=>Value.int .u64 b.toNat))[i]'(by simp;omega):=by simp only[hc]
    simpa using e1
   simp[part,LdT.agg (P:=P) (t:=e),hi',this]
  have e3:=hp cx xs hx h1;have e4:=hp cy ys hy h2
  obtain⟨k,hku⟩:∃ k,P.underlying e=some (.int k):=⟨_,hk.u⟩
  have e5:=run_equalIn_int (P:=P) w d e .u64 k (xs[i]'(by omega)).toNat (ys[i]'(by omega)).toNat hku;have ex:xs[i]? = some (xs[i]'(by omega)):=List.getElem?_eq_getElem _;have ey:ys[i]? = some (ys[i]'(by omega)):=List.getElem?_eq_getElem _
  have eb:((((xs[i]'(by omega)).toNat:Int))==(((ys[i]'(by omega)).toNat:Int)))=(xs[i]? == ys[i]?):=by
   rw[ex,ey,NL];rfl
  have ih':=ih (fun j hj=>h j (List.mem_cons_of_mem _ hj));simp only[Op.eqItems,Sem.run_bind,e3,e4,e5,Result.andThen_ok,eb,List.all_cons]
  cases hb:(xs[i]? == ys[i]?) with
  | true=>simpa using ih'
  | false=>simp
theorem k28(n:Nat)(xs ys:List UInt64)(hx:xs.length=n)(hy:ys.length=n):((List.range n).all fun i=>xs[i]? == ys[i]?)=(xs==ys):=by
 rw[Bool.eq_iff_iff];simp only[List.all_eq_true,List.mem_range,beq_iff_eq];constructor
 ·intro h;apply List.ext_getElem?;intro i;by_cases hi:i<n
  ·exact h i hi
  ·rw[List.getElem?_eq_none (by omega),List.getElem?_eq_none (by omega)]
 ·rintro rfl i _;rfl
theorem VZ{G L:Nat->Prop}{p:Bool}{n:Nat}{xs:List UInt64}{cs:List Value}{F:List Nat}(h:Rc w ρ G L p (.arr n 1 (xs.map .u64)) cs F):xs.length=n/\cs=xs.map (fun b=>Value.int .u64 b.toNat):=by
 cases h with
 | arr _ _ _ _ hl hs hr=>
  have hl':xs.length=n:=by simpa using hl
  refine⟨hl', ?_⟩;apply List.ext_getElem?;intro i;by_cases hi:i<n
  ·have hic:i<cs.length:=by omega
   have:=hr i (by simp;omega);rw[Nat.mul_one,List.drop_eq_getElem_cons hic,List.take_succ_cons,List.take_zero] at this;simp only[List.getElem_map] at this;rw[List.getElem?_eq_getElem hic,List.getElem?_eq_getElem (by simp;omega)];generalize hc:[cs[i]]=c at this;cases this;simp at hc;simp[hc]
  ·rw[List.getElem?_eq_none (by omega),List.getElem?_eq_none (by simp;omega)]
theorem q42{t e m:Nat}[hT:ArT P t m e][hk:IkT P e .u64][hL:LdT P e 1 false](xs ys:List UInt64):EqV P 2 t (.arr m 1 (xs.map .u64)) (.arr m 1 (ys.map .u64)) (xs==ys):=by
 intro n w ρ1 ρ2 G1 G2 L1 L2 v1 v2 F1 F2 h1 h2;simp only[VR,D.isAgg,if_true] at h1 h2;obtain⟨cx,rfl,h1⟩:=h1;obtain⟨cy,rfl,h2⟩:=h2;obtain⟨hlx,hcx⟩:=VZ h1;obtain⟨hly,hcy⟩:=VZ h2;obtain⟨d,i,_,_,hi,hsz⟩:=hL.i
 have hce:P.cellsOf e=1:=by simp[Program.cellsOf,hi,hsz]
 rw[show n+2=(n+1)+1 from rfl,run_equalIn_array w (n+1) cx cy hT.u hi,hce,YO (P:=P) w n xs ys m hlx hly cx cy hcx hcy _ (fun i hi=>List.mem_range.1 hi),k28 m xs ys hlx hly]
end Go.Sx

namespace Go.Sx
variable{P:Program}{C:Ctx}{σ σ' σ1 σ2:Sg}{a:Act}{w w':World}{ρ ρ2:Nat->Nat}{Fe Fe' Fb Fb2:Nat->List Nat}
end Go.Sx

namespace Go.Sx
variable{P:Program}{C:Ctx}{σ σ':Sg}{a:Act}{w w':World}{ρ:Nat->Nat}{Fe Fb:Nat->List Nat}
theorem RM{gl:List (Nat×D)}{f:FuncId}{ds ds':List D}{r:D}(hw:WkL ds ds')(hF:Fn P gl f ds' r):Fn P gl f ds r:=by
 intro w G vs h1 h2 h3;have hl:=hw.len;refine hF w G vs h1 (by omega) (fun k hk=>?_)
 have hk':k<ds.length:=by omega
 exact(h3 k hk').wk (hw.get k hk' hk)
end Go.Sx

namespace Go.Sx
def NN:Nat->Code->Code
 | 0,c=>c
 | k+1,.seq _ c=>NN k c
 | _+1,c=>c
theorem VU{P:Program}{C:Ctx}{Q:Exit->Sg->Prop}{σ:Sg}{c:Code}(k:Nat)(M:Sg->Prop)(h2:∀ s,M s->W P C (NN k c) Q s)(h1:(∀ s,M s->W P C (NN k c) Q s)->W P C c Q σ):W P C c Q σ:=h1 h2
end Go.Sx

namespace Go.Sx
variable{P:Program}{C:Ctx}{σ σ' σ1:Sg}{a:Act}{w w':World}{ρ:Nat->Nat}{Fe Fe' Fb:Nat->List Nat}
end Go.Sx

namespace Go.Sx
variable{pos:String}{aft:Array Edge}{g:Option (Nat×Bool)}
variable{P:Program}{C:Ctx}{σ σ' σ1:Sg}{a:Act}{w w':World}{ρ:Nat->Nat}{Fe Fe' Fb:Nat->List Nat}
theorem IG{f:FuncId}[h:CaT P f]{s:Nat}{t:Option Nat}{args:Array Operand}{vs:List Value}{tys:Array TypeId}{rt:TypeId}(a:Act)(w:World)(hs:a.tmps[s]? = some (.func (.func f) #[] vs.toArray)) :
 (execOp a.eval ⟨t,.call { callee:=.value (.tmp s),args:=args,argTypes:=tys },rt,pos,aft,g⟩).run P w=.ok (.enter f (args.map a.eval++vs.toArray)) w:=by
 obtain⟨fn,h1,h2,h3⟩:=h.i;unfold execOp;simp[resolve,j8 hs,Deferred.ofValue,invoke,E8 h1 h2 h3]
theorem R.callVB{f:FuncId}[CaT P f]{s t:Nat}{args:List Operand}{tys:Array TypeId}{rt:TypeId}{gl:List (Nat×D)}{ds caps capsA:List D}{r r':D}{bx bx' nw cx cx' nwc:List (Nat×Bx)}
 (ml:List (Nat×Nat)) (hC:C.gl=gl) (hs:σ.get s=some (.fn f capsA)) (hca:QZ (mlk ml) caps=capsA) (hcp:JN (bx.map Prod.fst) caps=true) (hF:FnB P gl f (ds++caps) bx r bx' nw) (ha:EvB C.gl σ (mlk ml) (bx.map Prod.fst) args ds)
 (hcx:v6 (mlk ml) bx=cx) (hlk:KB σ.bx cx) (hob:L3 (bx.map Prod.fst) bx) (hcx':v6 (mlk ml) bx'=cx') (hnw:v6 (mlk ml) nw=nwc) (hr:r.ren (mlk ml)=r')
 (hk:bx'.map Prod.fst=bx.map Prod.fst) (hfr:UI σ.bx nwc=true) (hinj:ED (mlk ml) ((nw++bx').map Prod.fst)=true) (ht:t<σ.n) :
 OpS P C ⟨some t,.call { callee:=.value (.tmp s),args:=args.toArray,argTypes:=tys },rt,pos,aft,g⟩ σ ((⟨σ.n,A9 (cx.map Prod.fst) σ.env,nwc++H1 cx' σ.bx⟩:Sg).set t r'):=by
 subst hC;subst hcx;subst hcx';subst hnw;subst hr;intro a w ⟨ρ,Fe,Fb,st⟩ K Q hK;obtain⟨hhand,hback⟩:=st.callB (m:=mlk ml) hlk hob hk hfr hinj
 have hmem:∀ i,d8 (bx.map Prod.fst) i=true->(lk bx i).isSome=true:=fun i hi=>by
  rw[X7];simp only[d8,List.any_eq_true] at hi;obtain⟨j,hj,he⟩:=hi;rw[Nat.eq_of_beq_eq_true he];exact hj
 obtain⟨vs,hvs,hvl,hva,hvr⟩:∃ vs:List Value,a.tmps[s]? = some (.func (.func f) #[] vs.toArray)/\vs.length=caps.length/\(∀ k (h:k<caps.length),caps[k].isAgg=false) /\
  ∀ k (h:k<caps.length),Rc w (fun i=>ρ (mlk ml i)) (gd C Fe Fb) (fun i=>(lk bx i).isSome=true) true caps[k] [vs.getD k undef] []:=by
  obtain⟨vg,hvg,hrg⟩:=(z9 rfl).1 (st.env s _ hs);simp only[VR,D.isAgg,Bool.false_eq_true,if_false] at hrg;rw[O6] at hca;subst hca;generalize Fe s=Fg at hrg
  cases hrg with
  | fn _ _ vs hl ha hr=>
   refine⟨vs,hvg,by simpa using hl,fun k hk=>?_,fun k hk=>?_⟩
   ·have:=ha k (by simpa using hk);rw[List.getElem_map,N5] at this;exact this
   ·have h1:=hr k (by simpa using hk);rw[List.getElem_map] at h1;have h2:Rc w (fun i=>ρ (mlk ml i)) (gd C Fe Fb) (fun i=>(σ.box (mlk ml i)).isSome=true) true caps[k] [vs.getD k undef] []:=h1.unren rfl (fun i hi=>⟨hi,rfl⟩);exact(h2.okB (QS caps hcp k hk)).mono (fun _ _ _=>rfl) (fun _ h _=>h) (fun i hi=>⟨hmem i hi.1,rfl⟩)
 refine J1 (IG a w hvs) (by simp) ?_;rw[Oper.uponIn_enter]
 have hlen:(args.map a.eval).length=ds.length:=by simp[ha.len]
 have hc:=hF w (fun b=>gd C Fe Fb b/\b<w.heap.size) (fun i=>ρ (mlk ml i)) (fun i=>if(lk bx i).isSome then Fb (mlk ml i) else[]) (args.map a.eval++vs)
  (fun g d hg=>by obtain⟨h1,h2⟩:=YD st g d hg;obtain⟨cs,e,fz,h3,h4⟩:=h2;exact⟨⟨h1,(Array.getElem?_eq_some_iff.1 h3).1⟩,cs,e,fz,h3,h4⟩) (fun b hb=>hb.2) (by simp[ha.len,hvl])
  (fun k hk=>by
   by_cases hkd:k<ds.length
   ·have h1:=(ha.ok st k hkd).mono (fun _ _ _=>rfl) (fun b (hb:gd C Fe Fb b) hl=>(⟨hb,hl⟩:gd C Fe Fb b/\b<w.heap.size)) (fun i hi=>⟨hmem i hi.1,rfl⟩);have e1:(ds++caps)[k]=ds[k]:=List.getElem_append_left hkd
    have e2:(args.map a.eval++vs).getD k undef=(args.map a.eval).getD k undef:=by
     simp only[List.getD_eq_getElem?_getD];rw[List.getElem?_append_left (by rw[hlen];exact hkd)]
    rw[e1,e2];exact h1
   ·have hk':k-ds.length<caps.length:=by simp only[List.length_append] at hk;omega
    have e1:(ds++caps)[k]=caps[k-ds.length]:=List.getElem_append_right (by omega)
    have e2:(args.map a.eval++vs).getD k undef=vs.getD (k-ds.length) undef:=by
     simp only[List.getD_eq_getElem?_getD];rw[List.getElem?_append_right (by rw[hlen];omega),hlen]
    rw[e1,e2];simp only[VR,hva _ hk',Bool.false_eq_true,if_false]
    exact(hvr _ hk').mono (fun _ _ _=>rfl) (fun b hb hl=>⟨hb,hl⟩) (fun i hi=>⟨hi,rfl⟩))
  ⟨fun id x hx=>(hhand.box id x hx).mono (fun _ _ _=>rfl) (fun b hb hl=>⟨hb,hl⟩) (fun i hi=>⟨hi,rfl⟩),hhand.boxN,hhand.nodB,hhand.dBB,fun id b hb hc=>hhand.out id b hb hc.1⟩
 simp only[List.map_toArray,List.append_toArray];refine⟨(fun h=>by cases h),(C5 (Calls.mono hc ?_))⟩;rintro e w' ⟨v,F,ρ',Fb',rfl,hext,hρ',hnd,hsrc,hFB,hFl,hand,hrv⟩
 have hGG:∀ b,(((gd C Fe Fb b/\b<w.heap.size)∨w.heap.size<=b∨∃ id,b∈(if(lk bx id).isSome then Fb (mlk ml id) else[]))/\b∉F/\¬ ∃ id,b∈Fb' id) ->
  ((gd C Fe Fb b∨w.heap.size<=b∨∃ id,b∈(if(lk bx id).isSome then Fb (mlk ml id) else[]))/\b∉F/\¬ ∃ id,b∈Fb' id):=fun b hb=>⟨hb.1.imp (fun h=>h.1) (fun h=>h),hb.2⟩
 obtain⟨ρ2,Fb2,st2,hrv2,hdE,hdB,hkp,hok⟩:=hback w' F ρ' Fb' hext hρ' hnd hsrc hFB hFl
  ⟨fun id x hx=>(hand.box id x hx).mono (fun _ _ _=>rfl) (fun b hb _=>hGG b hb) (fun i hi=>⟨hi,rfl⟩),hand.boxN,hand.nodB,hand.dBB,fun id b hb hc=>hc.2.2 ⟨id,hb⟩⟩
 have hrv3:=hrv2 r v (hrv.mono (fun _ _ _=>rfl) (fun b hb _=>hGG b hb) (fun i hi=>⟨hi,rfl⟩))
 have hput:(a.put (some t) v).tmps[t]? = some v:=by rw[v5 a t v t (by rw[st.size];exact ht)];simp
 refine hK _ _ ⟨ρ2,upd Fe t F,Fb2,st2.adopt ht hnd hdE hdB hkp hok (XW (hrv3.mono (fun _ _ _=>rfl) (fun b hb _=>⟨hb.1.1, ?_⟩) (fun i hi=>⟨hi,rfl⟩)) hput)⟩;rintro (⟨u,hu⟩|ho)
 ·by_cases hut:u=t
  ·subst hut;simp at hu;exact hb.2 hu
  ·rw[q7 hut] at hu;exact hb.1.2 (.inl ⟨u,hu⟩)
 ·exact hb.1.2 (.inr ho)
inductive EvFs(gl:List (Nat×D))(σ:Sg):List Operand->List D->Prop
 | nil:EvFs gl σ [] []
 | cons {x:Operand} {d:D} {xs:List Operand} {ds:List D} (h:ev gl σ x=some d) (hp:d.pur=true) (ha:d.isAgg=false) (t:EvFs gl σ xs ds):EvFs gl σ (x::xs) (d::ds)
theorem EvFs.len{gl:List (Nat×D)}{xs:List Operand}{ds:List D}(h:EvFs gl σ xs ds):xs.length=ds.length:=by
 induction h with
 | nil=>rfl
 | cons _ _ _ _ ih=>simp[ih]
theorem EvFs.at{gl:List (Nat×D)}{xs:List Operand}{ds:List D}(h:EvFs gl σ xs ds):∀ k (h:k<xs.length) (h':k<ds.length),ev gl σ xs[k]=some ds[k]/\ds[k].pur=true/\ds[k].isAgg=false:=by
 induction h with
 | nil=>intro k hk;simp at hk
 | cons h hp ha t ih=>
  intro k hk hk'
  cases k with
  | zero=>exact⟨h,hp,ha⟩
  | succ k=>exact ih k (by simpa using hk) (by simpa using hk')
theorem OX{t f:Nat}{xs:List Operand}{ds:List D}{rt:TypeId}(h:EvFs C.gl σ xs ds)(ht:t<σ.n) :
 OpS P C ⟨some t,.makeFunc (.func f) #[] xs.toArray,rt,pos,aft,g⟩ σ (σ.set t (.fn f ds)):=R.mkfn h.len h.at ht
end Go.Sx

namespace Go.Sx
def kTab:List UInt32:=[0x428a2f98,0x71374491,0xb5c0fbcf,0xe9b5dba5,0x3956c25b,0x59f111f1,0x923f82a4,0xab1c5ed5,
 0xd807aa98,0x12835b01,0x243185be,0x550c7dc3,0x72be5d74,0x80deb1fe,0x9bdc06a7,0xc19bf174,
 0xe49b69c1,0xefbe4786,0x0fc19dc6,0x240ca1cc,0x2de92c6f,0x4a7484aa,0x5cb0a9dc,0x76f988da,
 0x983e5152,0xa831c66d,0xb00327c8,0xbf597fc7,0xc6e00bf3,0xd5a79147,0x06ca6351,0x14292967,
 0x27b70a85,0x2e1b2138,0x4d2c6dfc,0x53380d13,0x650a7354,0x766a0abb,0x81c2c92e,0x92722c85,
 0xa2bfe8a1,0xa81a664b,0xc24b8b70,0xc76c51a3,0xd192e819,0xd6990624,0xf40e3585,0x106aa070,
 0x19a4c116,0x1e376c08,0x2748774c,0x34b0bcb5,0x391c0cb3,0x4ed8aa4a,0x5b9cca4f,0x682e6ff3,
 0x748f82ee,0x78a5636f,0x84c87814,0x8cc70208,0x90befffa,0xa4506ceb,0xbef9a3f7,0xc67178f2]
def iv:List UInt32:=[0x6a09e667,0xbb67ae85,0x3c6ef372,0xa54ff53a,0x510e527f,0x9b05688c,0x1f83d9ab,0x5be0cd19]
def b5(b:List UInt8):D:=.sl none 1 (b.map D.u8)
def z7(b:List UInt8):D:=.arr 32 1 (b.map D.u8)
def rotl(x:UInt32)(k:Int):UInt32:=b6 x (UInt64.ofInt k&&&31).toNat|||w7 x (32-(UInt64.ofInt k&&&31)).toNat
def right(x:UInt32)(n:Int):UInt32:=rotl x (wr (0-n))
def q45(p:List UInt8)(t:Nat)(w:List UInt32):Nat->List UInt32
 | 0=>w
 | i+1=>(q45 p t w i).set t (b6 (q45 p t w i)[t]! 8|||(p[4*t+i]!).toUInt32)
def z29(w:List UInt32)(t:Nat):UInt32:=
 w[t-16]!+w[t-7]!+(right w[t-15]! 7^^^right w[t-15]! 18^^^w7 w[t-15]! 3)+(right w[t-2]! 17^^^right w[t-2]! 19^^^w7 w[t-2]! 10)
def sched(p:List UInt8):Nat->List UInt32
 | 0=>List.replicate 64 0
 | t+1=>if t<16 then q45 p t (sched p t) 4 else(sched p t).set t (z29 (sched p t) t)
structure W8 where
 a:UInt32
 b:UInt32
 c:UInt32
 d:UInt32
 e:UInt32
 f:UInt32
 g:UInt32
 l:UInt32
def W8.list(v:W8):List UInt32:=[v.a,v.b,v.c,v.d,v.e,v.f,v.g,v.l]
def W8.of(h:List UInt32):W8:=⟨h[0]!,h[1]!,h[2]!,h[3]!,h[4]!,h[5]!,h[6]!,h[7]!⟩
def one(v:W8)(k w:UInt32):UInt32:=v.l+(right v.e 6^^^right v.e 11^^^right v.e 25)+(v.g^^^(v.e&&&(v.f^^^v.g)))+k+w
def two(v:W8):UInt32:=(right v.a 2^^^right v.a 13^^^right v.a 22)+(v.a&&&v.b|||v.c&&&(v.a|||v.b))
def rnd(v:W8)(k w:UInt32):W8:=⟨one v k w+two v,v.a,v.b,v.c,v.d+one v k w,v.e,v.f,v.g⟩
def rds(h w:List UInt32):Nat->W8
 | 0=>W8.of h
 | t+1=>rnd (rds h w t) kTab[t]! w[t]!
def JH(h l:List UInt32):Nat->List UInt32
 | 0=>h
 | i+1=>(JH h l i).set i ((JH h l i)[i]!+l[i]!)
def comp(h:List UInt32)(p:List UInt8):List UInt32:=JH h (rds h (sched p 64) 64).list 8
structure ShaS where
 begun:Bool
 h:List UInt32
 piece:List UInt8
 n:UInt64
def OC(s:ShaS):D:=.agg [.bool s.begun,.arr 8 1 (s.h.map D.u32),.arr 64 1 (s.piece.map D.u8),.u64 s.n]
def ShaS.zero:ShaS:=⟨false,List.replicate 8 0,List.replicate 64 0,0⟩
def ShaS.start:ShaS:=⟨true,iv,List.replicate 64 0,0⟩
structure ShaS.ok(s:ShaS):Prop where
 h:s.h.length=8
 p:s.piece.length=64
theorem O8:ShaS.start.ok:=⟨by simp[ShaS.start,iv],by simp[ShaS.start]⟩
theorem UA(s:ShaS):Frs (OC s):=.agg _ (XB (.bool _) (XB (.arr _ _ _ (j6 fun _=>.u32 _)) (XB (.arr _ _ _ (j6 fun _=>.u8 _)) (XB (.u64 _) j20))))
theorem m4(b:List UInt8):Frs (z7 b):=.arr _ _ _ (j6 fun _=>.u8 _)
theorem TK(p:List UInt8)(t:Nat)(w:List UInt32)(i:Nat):(q45 p t w i).length=w.length:=by
 induction i with
 | zero=>rfl
 | succ i ih=>simp[q45,ih]
theorem BC(p:List UInt8)(t:Nat):(sched p t).length=64:=by
 induction t with
 | zero=>simp[sched]
 | succ t ih=>simp only[sched];split<;>simp[TK,ih]
theorem XR(h l:List UInt32)(i:Nat):(JH h l i).length=h.length:=by
 induction i with
 | zero=>rfl
 | succ i ih=>simp[JH,ih]
theorem k13(h:List UInt32)(p:List UInt8):(comp h p).length=h.length:=XR ..
def mS(s:ShaS):Nat:=(s.n%64).toNat
def kS(s:ShaS)(b:List UInt8):Nat:=min b.length (64-mS s)
def i6(s:ShaS)(b:List UInt8):List UInt8:=s.piece.take (mS s)++b.take (kS s b)++s.piece.drop (mS s+kS s b)
def nS(s:ShaS)(b:List UInt8):UInt64:=s.n+UInt64.ofInt (kS s b:Nat)
def I9(s:ShaS)(b:List UInt8):ShaS:=⟨s.begun,bif nS s b%64==0 then comp s.h (i6 s b) else s.h,i6 s b,nS s b⟩
theorem YH(s:ShaS):mS s<64:=by
 unfold mS;rw[UInt64.toNat_mod];exact Nat.mod_lt _ (by decide)
theorem z65(s:ShaS)(b:List UInt8):kS s b<=b.length:=Nat.min_le_left _ _
theorem JJ(s:ShaS)(b:List UInt8)(h:0<b.length):0<kS s b:=by have:=YH s;unfold kS;omega
theorem NX(s:ShaS)(b:List UInt8):mS s+kS s b<=64:=by have:=YH s;unfold kS;omega
def DR(s:ShaS)(b:List UInt8):ShaS:=
 if h:b.length=0 then s else DR (I9 s b) (b.drop (kS s b))
termination_by b.length
decreasing_by
 have:=JJ s b (by omega);simp only[List.length_drop];omega
theorem ZH(s:ShaS)(b:List UInt8)(h:b.length=0):DR s b=s:=by rw[DR];simp[h]
theorem I3(s:ShaS)(b:List UInt8)(h:b.length≠0):DR s b=DR (I9 s b) (b.drop (kS s b)):=by rw[DR];simp[h]
def T4(s:ShaS)(b:List UInt8):ShaS:=DR (bif s.begun then s else ShaS.start) b
theorem HN(s:ShaS)(b:List UInt8)(h:s.ok):(i6 s b).length=64:=by
 have h1:=NX s b;have h2:=z65 s b;have h3:=h.p;simp[i6];omega
theorem HU(s:ShaS)(b:List UInt8)(h:s.ok):(I9 s b).ok:=by
 refine⟨?_,HN s b h⟩;simp only[I9]
 cases (nS s b%64==0) with
 | true=>simp only[cond_true,k13];exact h.h
 | false=>exact h.h
theorem VJ(s:ShaS)(b:List UInt8)(h:s.ok):(DR s b).ok:=by
 induction hn:b.length using Nat.strongRecOn generalizing s b with
 | _ n ih=>
  by_cases h0:b.length=0
  ·rw[ZH _ _ h0];exact h
  ·rw[I3 _ _ h0];have:=JJ s b (by omega);exact ih _ (by simp;omega) _ _ (HU s b h) rfl
theorem GT(s:ShaS)(b:List UInt8)(h:s.ok):(T4 s b).ok:=by
 unfold T4
 cases s.begun with
 | true=>exact VJ _ _ h
 | false=>exact VJ _ _ O8
def KU(s:ShaS):Nat:=(120-mS s)%64
def AN:Nat->ShaS->ShaS
 | 0,s=>s
 | k+1,s=>AN k (T4 s [0])
def L4(n:UInt64):Nat->List UInt8
 | 0=>List.replicate 8 0
 | i+1=>(L4 n i).set i (Z6 n (56-8*i)).toUInt8
theorem UH(n:UInt64)(i:Nat):(L4 n i).length=8:=by
 induction i with
 | zero=>simp[L4]
 | succ i ih=>simp[L4,ih]
def HR(h:List UInt32):Nat->List UInt8
 | 0=>List.replicate 32 0
 | i+1=>(HR h i).set i (w7 h[i/4]! (24-8*(i%4))).toUInt8
theorem AF(h:List UInt32)(i:Nat):(HR h i).length=32:=by
 induction i with
 | zero=>simp[HR]
 | succ i ih=>simp[HR,ih]
def z14(s:ShaS):ShaS:=T4 s [128]
def IP(s:ShaS):ShaS:=AN (KU (z14 s)) (z14 s)
def YA(s:ShaS):ShaS:=T4 (IP s) (L4 (s.n*8) 8)
def k04(s:ShaS):List UInt8:=HR (YA s).h 32
def WQ(b:List UInt8):List UInt8:=k04 (T4 ShaS.start b)
def Y8(b:List UInt8):List UInt8:=WQ (WQ b)
theorem k03(s:ShaS):(k04 s).length=32:=AF _ _
theorem HX(b:List UInt8):(WQ b).length=32:=k03 _
theorem OR(s:ShaS)(b:List UInt8):(I9 s b).begun=s.begun:=rfl
theorem RU(s:ShaS)(b:List UInt8):(DR s b).begun=s.begun:=by
 induction hn:b.length using Nat.strongRecOn generalizing s b with
 | _ n ih=>
  by_cases h0:b.length=0
  ·rw[ZH _ _ h0]
  ·rw[I3 _ _ h0];have:=JJ s b (by omega);rw[ih _ (by simp;omega) _ _ rfl,OR]
theorem DS(s:ShaS)(b:List UInt8):(T4 s b).begun=true:=by
 unfold T4;rw[RU]
 cases h:s.begun with
 | true=>simpa using h
 | false=>rfl
theorem k32(s:ShaS)(x:UInt8)(h:s.begun=true):T4 s [x]=I9 s [x]:=by
 unfold T4
 have hk:kS s [x]=1:=by have:=YH s;simp only[kS,List.length_singleton];omega
 rw[h,cond_true,I3 _ _ (by simp),ZH _ _ (by simp[hk])]
theorem z54(s:ShaS)(x:UInt8)(h:s.begun=true):mS (T4 s [x])=(mS s+1)%64:=by
 rw[k32 s x h]
 have hk:kS s [x]=1:=by have:=YH s;simp only[kS,List.length_singleton];omega
 have e:UInt64.ofInt ((1:Nat):Int)=1:=rfl;have e1:(1:UInt64).toNat=1:=rfl;have e2:(64:UInt64).toNat=64:=rfl;simp only[mS,I9,nS,hk,e,UInt64.toNat_mod,UInt64.toNat_add,e1,e2];omega
theorem j73{s:ShaS}(h:(s.n%64 != 56)=true):mS s≠56:=by
 intro he;have:s.n%64=56:=UInt64.toNat_inj.1 he;simp[this] at h
theorem w26{s:ShaS}(h:(s.n%64 != 56)=false):mS s=56:=by
 have:s.n%64=56:=by simpa using h
 unfold mS;rw[this];rfl
theorem z12(s:ShaS)(hb:s.begun=true)(h:mS s≠56):AN (KU s) s=AN (KU (T4 s [0])) (T4 s [0]):=by
 have h1:=z54 s 0 hb;have h2:=YH s
 have:KU s=KU (T4 s [0])+1:=by unfold KU;omega
 rw[this];rfl
theorem z13(s:ShaS)(hb:s.begun=true)(h:mS s≠56):KU (T4 s [0])<KU s:=by
 have h1:=z54 s 0 hb;have h2:=YH s;unfold KU;omega
theorem k86(s:ShaS)(h:mS s=56):KU s=0:=by unfold KU;omega
def rright(x:UInt32)(n:UInt64):UInt32:=w7 x n.toNat|||b6 x (32-n).toNat
def w4(p:List UInt8)(t:Nat):UInt32:=
 b6 (p[4*t]!).toUInt32 24|||b6 (p[4*t+1]!).toUInt32 16|||b6 (p[4*t+2]!).toUInt32 8|||(p[4*t+3]!).toUInt32
def z30(w:List UInt32)(t:Nat):UInt32:=
 (rright w[t-2]! 17^^^rright w[t-2]! 19^^^w7 w[t-2]! 10)+w[t-7]!+(rright w[t-15]! 7^^^rright w[t-15]! 18^^^w7 w[t-15]! 3)+w[t-16]!
def wR(p:List UInt8):Nat->List UInt32
 | 0=>[]
 | t+1=>wR p t++[if t<16 then w4 p t else z30 (wR p t) t]
theorem MQ(p:List UInt8)(t:Nat):(wR p t).length=t:=by
 induction t with
 | zero=>rfl
 | succ t ih=>simp[wR,ih]
def x28(l:List UInt32)(k w:UInt32):UInt32:=
 l[7]!+(rright l[4]! 6^^^rright l[4]! 11^^^rright l[4]! 25)+(l[4]!&&&l[5]! ^^^ ~~~l[4]!&&&l[6]!)+k+w
def x96(l:List UInt32):UInt32:=(rright l[0]! 2^^^rright l[0]! 13^^^rright l[0]! 22)+(l[0]!&&&l[1]!^^^l[0]!&&&l[2]!^^^l[1]!&&&l[2]!)
def x04(l:List UInt32)(k w:UInt32):List UInt32:=[x28 l k w+x96 l,l[0]!,l[1]!,l[2]!,l[3]!+x28 l k w,l[4]!,l[5]!,l[6]!]
def B9(h w:List UInt32):Nat->List UInt32
 | 0=>h
 | t+1=>x04 (B9 h w t) kTab[t]! w[t]!
theorem z04(h w:List UInt32)(t:Nat)(hh:h.length=8):(B9 h w t).length=8:=by
 cases t with
 | zero=>exact hh
 | succ t=>rfl
def TM(h:List UInt32)(p:List UInt8):List UInt32:=JH h (B9 h (wR p 64) 64) 8
theorem q27(h:List UInt32)(p:List UInt8):(TM h p).length=h.length:=XR ..
def zR(b:List UInt8):Nat:=(119-b.length%64)%64
def QK(n:UInt64):Nat->List UInt8
 | 0=>[]
 | j+1=>QK n j++[(Z6 n (UInt64.ofInt (wr (8*(7-((j:Nat):Int))))).toNat).toUInt8]
theorem UJ(n:UInt64)(t:Nat):(QK n t).length=t:=by
 induction t with
 | zero=>rfl
 | succ t ih=>simp[QK,ih]
def YM(b:List UInt8):UInt64:=UInt64.ofInt (b.length:Nat)*8
def w5(b:List UInt8):List UInt8:=b++[128]++List.replicate (zR b) 0++QK (YM b) 8
theorem BY(b:List UInt8):(w5 b).length=b.length+9+zR b:=by simp[w5,UJ];omega
def pieces(b:List UInt8):Nat:=(b.length+9+zR b)/64
theorem JA(b:List UInt8):(w5 b).length=64*pieces b:=by rw[BY];unfold pieces zR;omega
def hR(all:List UInt8):Nat->List UInt32
 | 0=>iv
 | m+1=>TM (hR all m) ((all.drop (64*m)).take 64)
theorem z84(all:List UInt8)(m:Nat):(hR all m).length=8:=by
 induction m with
 | zero=>rfl
 | succ m ih=>simp only[hR,q27,ih]
def HL(h:List UInt32):Nat->List UInt8
 | 0=>List.replicate 32 0
 | i+1=>(HL h i).set i (w7 h[i/4]! (UInt64.ofInt ((24-8*(i%4):Nat):Int)).toNat).toUInt8
theorem AO(h:List UInt32)(i:Nat):(HL h i).length=32:=by
 induction i with
 | zero=>simp[HL]
 | succ i ih=>simp[HL,ih]
def MD(b:List UInt8):List UInt8:=HL (hR (w5 b) (pieces b)) 32
def D2(b:List UInt8):List UInt8:=MD (MD b)
theorem QE(b:List UInt8):(MD b).length=32:=AO _ _
end Go.Sx

namespace Go.Sx
open Go.Proofs Go.Proofs.Tryz
set_option maxRecDepth 100000
instance:IkT prog 2 .i64:=⟨O⟩
instance:ZrT prog 2 (.int 0):=⟨_,_,O,O,dU,O⟩
instance:LdT prog 3 1 false:=⟨_,_,O,O,O,O⟩
instance:ElT prog 3 1 8:=⟨_,_,O,O,O,O,O,dU,O⟩
instance:IkT prog 3 .i64:=⟨O⟩
instance:ZrT prog 3 (.int 0):=⟨_,_,O,O,dU,O⟩
instance:LdT prog 4 1 false:=⟨_,_,O,O,O,O⟩
instance:BoT prog 4:=⟨O⟩
instance:ZrT prog 4 (.bool false):=⟨_,_,O,O,dU,O⟩
instance:LdT prog 5 1 false:=⟨_,_,O,O,O,O⟩
instance:ElT prog 5 1 1:=⟨_,_,O,O,O,O,O,dU,O⟩
instance:IkT prog 5 .u8:=⟨O⟩
instance:ZrT prog 5 (.u8 0):=⟨_,_,O,O,dU,O⟩
instance:IkT prog 6 .u8:=⟨O⟩
instance:ZrT prog 6 (.u8 0):=⟨_,_,O,O,dU,O⟩
instance:ZrT prog 7 (.agg [.int 0,.int 0,.bool false,.u8 0]):=⟨_,_,O,O,dU,O⟩
instance:BsT prog 7 ([.int 0,.int 0,.bool false,.u8 0]):=⟨_,_,_,O,O,O,O,dU⟩
instance:ZrT prog 8 (.agg [.int 0,.int 0,.bool false,.u8 0]):=⟨_,_,O,O,dU,O⟩
instance:BsT prog 8 ([.int 0,.int 0,.bool false,.u8 0]):=⟨_,_,_,O,O,O,O,dU⟩
instance:StT prog 9:=⟨O⟩
instance:ZrT prog 9 (.str []):=⟨_,_,O,O,dU,O⟩
instance:ZrT prog 10 (.str []):=⟨_,_,O,O,dU,O⟩
instance:ZrT prog 11 (.str []):=⟨_,_,O,O,dU,O⟩
instance:IkT prog 12 .u64:=⟨O⟩
instance:ZrT prog 12 (.u64 0):=⟨_,_,O,O,dU,O⟩
instance:ZrT prog 13 (.agg [.str [],.u64 0]):=⟨_,_,O,O,dU,O⟩
instance:BsT prog 13 ([.str [],.u64 0]):=⟨_,_,_,O,O,O,O,dU⟩
instance:ZrT prog 14 (.agg [.str [],.u64 0]):=⟨_,_,O,O,dU,O⟩
instance:BsT prog 14 ([.str [],.u64 0]):=⟨_,_,_,O,O,O,O,dU⟩
instance:ZrT prog 18 (.agg [.nilp]):=⟨_,_,O,O,dU,O⟩
instance:BsT prog 18 ([.nilp]):=⟨_,_,_,O,O,O,O,dU⟩
instance:ZrT prog 19 (.agg [.nilp]):=⟨_,_,O,O,dU,O⟩
instance:BsT prog 19 ([.nilp]):=⟨_,_,_,O,O,O,O,dU⟩
instance:IkT prog 21 .i32:=⟨O⟩
instance:ZrT prog 21 (.ik .i32 0):=⟨_,_,O,O,dU,O⟩
instance:ZrT prog 22 (.arr 32 1 ((List.replicate 32 0).map D.u8)):=⟨_,_,O,O,dU,O⟩
instance:LdT prog 23 32 true:=⟨_,_,O,O,O,O⟩
instance:ElT prog 23 32 32:=⟨_,_,O,O,O,O,O,dU,O⟩
instance:ArT prog 23 32 5:=⟨O⟩
instance:BaT prog 23 32 5 1:=⟨_,_,_,O,O,O,O,O,O⟩
instance:EqT prog 23:=⟨by decide +kernel⟩
instance:ZrT prog 23 (.arr 32 1 ((List.replicate 32 0).map D.u8)):=⟨_,_,O,O,dU,O⟩
instance:LdT prog 24 1 false:=⟨_,_,O,O,O,O⟩
instance:ElT prog 24 1 24:=⟨_,_,O,O,O,O,O,dU,O⟩
instance:SlT prog 24 5:=⟨O⟩
instance:LdT prog 25 1 false:=⟨_,_,O,O,O,O⟩
instance:SlT prog 25 23:=⟨O⟩
instance:LdT prog 27 1 false:=⟨_,_,O,O,O,O⟩
instance:ElT prog 27 1 4:=⟨_,_,O,O,O,O,O,dU,O⟩
instance:IkT prog 27 .u32:=⟨O⟩
instance:ZrT prog 27 (.u32 0):=⟨_,_,O,O,dU,O⟩
instance:LdT prog 28 1 false:=⟨_,_,O,O,O,O⟩
instance:SlT prog 28 112:=⟨O⟩
instance:LdT prog 29 1 false:=⟨_,_,O,O,O,O⟩
instance:SlT prog 29 115:=⟨O⟩
instance:ZrT prog 30 (.agg [.u32 0,.nils,.nils,.u32 0]):=⟨_,_,O,O,dU,O⟩
instance:BsT prog 30 ([.u32 0,.nils,.nils,.u32 0]):=⟨_,_,_,O,O,O,O,dU⟩
instance:LdT prog 31 4 true:=⟨_,_,O,O,O,O⟩
instance:ElT prog 31 4 64:=⟨_,_,O,O,O,O,O,dU,O⟩
instance:FdT prog 31 0 0:=⟨_,_,_,O,O,O,O,dU⟩
instance:FdT prog 31 1 1:=⟨_,_,_,O,O,O,O,dU⟩
instance:FdT prog 31 2 2:=⟨_,_,_,O,O,O,O,dU⟩
instance:FdT prog 31 3 3:=⟨_,_,_,O,O,O,O,dU⟩
instance:ZrT prog 31 (.agg [.u32 0,.nils,.nils,.u32 0]):=⟨_,_,O,O,dU,O⟩
instance:BsT prog 31 ([.u32 0,.nils,.nils,.u32 0]):=⟨_,_,_,O,O,O,O,dU⟩
instance:LdT prog 32 1 false:=⟨_,_,O,O,O,O⟩
instance:IkT prog 32 .i64:=⟨O⟩
instance:ZrT prog 32 (.int 0):=⟨_,_,O,O,dU,O⟩
instance:SlT prog 37 78:=⟨O⟩
instance:SlT prog 38 70:=⟨O⟩
instance:ZrT prog 39 (.agg [.u8 0,.u8 0,.u8 0,.u8 0,.bool false]):=⟨_,_,O,O,dU,O⟩
instance:BsT prog 39 ([.u8 0,.u8 0,.u8 0,.u8 0,.bool false]):=⟨_,_,_,O,O,O,O,dU⟩
instance:ZrT prog 40 (.agg [.u8 0,.u8 0,.u8 0,.u8 0,.bool false]):=⟨_,_,O,O,dU,O⟩
instance:BsT prog 40 ([.u8 0,.u8 0,.u8 0,.u8 0,.bool false]):=⟨_,_,_,O,O,O,O,dU⟩
instance:LdT prog 42 1 false:=⟨_,_,O,O,O,O⟩
instance:SlT prog 42 262:=⟨O⟩
instance:ZrT prog 43 (.agg [.u32 0,.arr 32 1 ((List.replicate 32 0).map D.u8),.arr 32 1 ((List.replicate 32 0).map D.u8),.u32 0,.u32 0,.u32 0]):=⟨_,_,O,O,dU,O⟩
instance:BsT prog 43 ([.u32 0,.arr 32 1 ((List.replicate 32 0).map D.u8),.arr 32 1 ((List.replicate 32 0).map D.u8),.u32 0,.u32 0,.u32 0]):=⟨_,_,_,O,O,O,O,dU⟩
instance:LdT prog 44 68 true:=⟨_,_,O,O,O,O⟩
instance:ElT prog 44 68 80:=⟨_,_,O,O,O,O,O,dU,O⟩
instance:FdT prog 44 0 0:=⟨_,_,_,O,O,O,O,dU⟩
instance:FdT prog 44 1 1:=⟨_,_,_,O,O,O,O,dU⟩
instance:FdT prog 44 2 33:=⟨_,_,_,O,O,O,O,dU⟩
instance:FdT prog 44 3 65:=⟨_,_,_,O,O,O,O,dU⟩
instance:FdT prog 44 4 66:=⟨_,_,_,O,O,O,O,dU⟩
instance:FdT prog 44 5 67:=⟨_,_,_,O,O,O,O,dU⟩
instance:ZrT prog 44 (.agg [.u32 0,.arr 32 1 ((List.replicate 32 0).map D.u8),.arr 32 1 ((List.replicate 32 0).map D.u8),.u32 0,.u32 0,.u32 0]):=⟨_,_,O,O,dU,O⟩
instance:BsT prog 44 ([.u32 0,.arr 32 1 ((List.replicate 32 0).map D.u8),.arr 32 1 ((List.replicate 32 0).map D.u8),.u32 0,.u32 0,.u32 0]):=⟨_,_,_,O,O,O,O,dU⟩
instance:ZrT prog 45 (.agg [.u32 0,.int 0,.u32 0,.nils,.agg [.u32 0,.arr 32 1 ((List.replicate 32 0).map D.u8),.arr 32 1 ((List.replicate 32 0).map D.u8),.u32 0,.u32 0,.u32 0]]):=⟨_,_,O,O,dU,O⟩
instance:BsT prog 45 ([.u32 0,.int 0,.u32 0,.nils,.agg [.u32 0,.arr 32 1 ((List.replicate 32 0).map D.u8),.arr 32 1 ((List.replicate 32 0).map D.u8),.u32 0,.u32 0,.u32 0]]):=⟨_,_,_,O,O,O,O,dU⟩
instance:LdT prog 46 72 true:=⟨_,_,O,O,O,O⟩
instance:FdT prog 46 0 0:=⟨_,_,_,O,O,O,O,dU⟩
instance:FdT prog 46 1 1:=⟨_,_,_,O,O,O,O,dU⟩
instance:FdT prog 46 2 2:=⟨_,_,_,O,O,O,O,dU⟩
instance:FdT prog 46 3 3:=⟨_,_,_,O,O,O,O,dU⟩
instance:FdT prog 46 4 4:=⟨_,_,_,O,O,O,O,dU⟩
instance:ZrT prog 46 (.agg [.u32 0,.int 0,.u32 0,.nils,.agg [.u32 0,.arr 32 1 ((List.replicate 32 0).map D.u8),.arr 32 1 ((List.replicate 32 0).map D.u8),.u32 0,.u32 0,.u32 0]]):=⟨_,_,O,O,dU,O⟩
instance:BsT prog 46 ([.u32 0,.int 0,.u32 0,.nils,.agg [.u32 0,.arr 32 1 ((List.replicate 32 0).map D.u8),.arr 32 1 ((List.replicate 32 0).map D.u8),.u32 0,.u32 0,.u32 0]]):=⟨_,_,_,O,O,O,O,dU⟩
instance:LdT prog 60 1 false:=⟨_,_,O,O,O,O⟩
instance:ElT prog 60 1 8:=⟨_,_,O,O,O,O,O,dU,O⟩
instance:IkT prog 60 .u64:=⟨O⟩
instance:ZrT prog 60 (.u64 0):=⟨_,_,O,O,dU,O⟩
instance:LdT prog 68 1 false:=⟨_,_,O,O,O,O⟩
instance:SlT prog 68 117:=⟨O⟩
instance:ZrT prog 69 (.agg [.u8 0,.nils,.u8 0]):=⟨_,_,O,O,dU,O⟩
instance:BsT prog 69 ([.u8 0,.nils,.u8 0]):=⟨_,_,_,O,O,O,O,dU⟩
instance:LdT prog 70 3 true:=⟨_,_,O,O,O,O⟩
instance:ElT prog 70 3 40:=⟨_,_,O,O,O,O,O,dU,O⟩
instance:FdT prog 70 0 0:=⟨_,_,_,O,O,O,O,dU⟩
instance:FdT prog 70 1 1:=⟨_,_,_,O,O,O,O,dU⟩
instance:FdT prog 70 2 2:=⟨_,_,_,O,O,O,O,dU⟩
instance:ZrT prog 70 (.agg [.u8 0,.nils,.u8 0]):=⟨_,_,O,O,dU,O⟩
instance:BsT prog 70 ([.u8 0,.nils,.u8 0]):=⟨_,_,_,O,O,O,O,dU⟩
instance:ZrT prog 71 (.agg [.bool false,.bool false,.agg [.u8 0,.nils,.u8 0],.agg [.u8 0,.u8 0,.u8 0,.u8 0,.bool false]]):=⟨_,_,O,O,dU,O⟩
instance:BsT prog 71 ([.bool false,.bool false,.agg [.u8 0,.nils,.u8 0],.agg [.u8 0,.u8 0,.u8 0,.u8 0,.bool false]]):=⟨_,_,_,O,O,O,O,dU⟩
instance:ZrT prog 72 (.agg [.bool false,.bool false,.agg [.u8 0,.nils,.u8 0],.agg [.u8 0,.u8 0,.u8 0,.u8 0,.bool false]]):=⟨_,_,O,O,dU,O⟩
instance:BsT prog 72 ([.bool false,.bool false,.agg [.u8 0,.nils,.u8 0],.agg [.u8 0,.u8 0,.u8 0,.u8 0,.bool false]]):=⟨_,_,_,O,O,O,O,dU⟩
instance:LdT prog 73 1 false:=⟨_,_,O,O,O,O⟩
instance:ElT prog 73 1 8:=⟨_,_,O,O,O,O,O,dU,O⟩
instance:ZrT prog 74 (.agg [.nils]):=⟨_,_,O,O,dU,O⟩
instance:BsT prog 74 ([.nils]):=⟨_,_,_,O,O,O,O,dU⟩
instance:ZrT prog 75 (.agg [.nils]):=⟨_,_,O,O,dU,O⟩
instance:BsT prog 75 ([.nils]):=⟨_,_,_,O,O,O,O,dU⟩
instance:LdT prog 76 1 false:=⟨_,_,O,O,O,O⟩
instance:SlT prog 76 31:=⟨O⟩
instance:ZrT prog 77 (.agg [.agg [.u32 0,.arr 32 1 ((List.replicate 32 0).map D.u8),.arr 32 1 ((List.replicate 32 0).map D.u8),.u32 0,.u32 0,.u32 0],.nils]):=⟨_,_,O,O,dU,O⟩
instance:BsT prog 77 ([.agg [.u32 0,.arr 32 1 ((List.replicate 32 0).map D.u8),.arr 32 1 ((List.replicate 32 0).map D.u8),.u32 0,.u32 0,.u32 0],.nils]):=⟨_,_,_,O,O,O,O,dU⟩
instance:LdT prog 78 69 true:=⟨_,_,O,O,O,O⟩
instance:ElT prog 78 69 104:=⟨_,_,O,O,O,O,O,dU,O⟩
instance:FdT prog 78 0 0:=⟨_,_,_,O,O,O,O,dU⟩
instance:FdT prog 78 1 68:=⟨_,_,_,O,O,O,O,dU⟩
instance:ZrT prog 78 (.agg [.agg [.u32 0,.arr 32 1 ((List.replicate 32 0).map D.u8),.arr 32 1 ((List.replicate 32 0).map D.u8),.u32 0,.u32 0,.u32 0],.nils]):=⟨_,_,O,O,dU,O⟩
instance:BsT prog 78 ([.agg [.u32 0,.arr 32 1 ((List.replicate 32 0).map D.u8),.arr 32 1 ((List.replicate 32 0).map D.u8),.u32 0,.u32 0,.u32 0],.nils]):=⟨_,_,_,O,O,O,O,dU⟩
instance:SlT prog 102 73:=⟨O⟩
instance:ZrT prog 108 (.agg [.arr 32 1 ((List.replicate 32 0).map D.u8),.u32 0]):=⟨_,_,O,O,dU,O⟩
instance:BsT prog 108 ([.arr 32 1 ((List.replicate 32 0).map D.u8),.u32 0]):=⟨_,_,_,O,O,O,O,dU⟩
instance:LdT prog 109 33 true:=⟨_,_,O,O,O,O⟩
instance:ElT prog 109 33 36:=⟨_,_,O,O,O,O,O,dU,O⟩
instance:EqT prog 109:=⟨by decide +kernel⟩
instance:FdT prog 109 0 0:=⟨_,_,_,O,O,O,O,dU⟩
instance:FdT prog 109 1 32:=⟨_,_,_,O,O,O,O,dU⟩
instance:ZrT prog 109 (.agg [.arr 32 1 ((List.replicate 32 0).map D.u8),.u32 0]):=⟨_,_,O,O,dU,O⟩
instance:BsT prog 109 ([.arr 32 1 ((List.replicate 32 0).map D.u8),.u32 0]):=⟨_,_,_,O,O,O,O,dU⟩
instance:LdT prog 110 1 false:=⟨_,_,O,O,O,O⟩
instance:SlT prog 110 24:=⟨O⟩
instance:ZrT prog 111 (.agg [.agg [.arr 32 1 ((List.replicate 32 0).map D.u8),.u32 0],.nils,.u32 0,.nils]):=⟨_,_,O,O,dU,O⟩
instance:BsT prog 111 ([.agg [.arr 32 1 ((List.replicate 32 0).map D.u8),.u32 0],.nils,.u32 0,.nils]):=⟨_,_,_,O,O,O,O,dU⟩
instance:LdT prog 112 36 true:=⟨_,_,O,O,O,O⟩
instance:ElT prog 112 36 96:=⟨_,_,O,O,O,O,O,dU,O⟩
instance:FdT prog 112 0 0:=⟨_,_,_,O,O,O,O,dU⟩
instance:FdT prog 112 1 33:=⟨_,_,_,O,O,O,O,dU⟩
instance:FdT prog 112 2 34:=⟨_,_,_,O,O,O,O,dU⟩
instance:FdT prog 112 3 35:=⟨_,_,_,O,O,O,O,dU⟩
instance:ZrT prog 112 (.agg [.agg [.arr 32 1 ((List.replicate 32 0).map D.u8),.u32 0],.nils,.u32 0,.nils]):=⟨_,_,O,O,dU,O⟩
instance:BsT prog 112 ([.agg [.arr 32 1 ((List.replicate 32 0).map D.u8),.u32 0],.nils,.u32 0,.nils]):=⟨_,_,_,O,O,O,O,dU⟩
instance:ZrT prog 114 (.agg [.u64 0,.nils]):=⟨_,_,O,O,dU,O⟩
instance:BsT prog 114 ([.u64 0,.nils]):=⟨_,_,_,O,O,O,O,dU⟩
instance:LdT prog 115 2 true:=⟨_,_,O,O,O,O⟩
instance:ElT prog 115 2 32:=⟨_,_,O,O,O,O,O,dU,O⟩
instance:FdT prog 115 0 0:=⟨_,_,_,O,O,O,O,dU⟩
instance:FdT prog 115 1 1:=⟨_,_,_,O,O,O,O,dU⟩
instance:ZrT prog 115 (.agg [.u64 0,.nils]):=⟨_,_,O,O,dU,O⟩
instance:BsT prog 115 ([.u64 0,.nils]):=⟨_,_,_,O,O,O,O,dU⟩
instance:ZrT prog 116 (.agg [.u8 0,.bool false,.nils,.u8 0,.u8 0]):=⟨_,_,O,O,dU,O⟩
instance:BsT prog 116 ([.u8 0,.bool false,.nils,.u8 0,.u8 0]):=⟨_,_,_,O,O,O,O,dU⟩
instance:LdT prog 117 5 true:=⟨_,_,O,O,O,O⟩
instance:ElT prog 117 5 40:=⟨_,_,O,O,O,O,O,dU,O⟩
instance:FdT prog 117 0 0:=⟨_,_,_,O,O,O,O,dU⟩
instance:FdT prog 117 1 1:=⟨_,_,_,O,O,O,O,dU⟩
instance:FdT prog 117 2 2:=⟨_,_,_,O,O,O,O,dU⟩
instance:FdT prog 117 3 3:=⟨_,_,_,O,O,O,O,dU⟩
instance:FdT prog 117 4 4:=⟨_,_,_,O,O,O,O,dU⟩
instance:ZrT prog 117 (.agg [.u8 0,.bool false,.nils,.u8 0,.u8 0]):=⟨_,_,O,O,dU,O⟩
instance:BsT prog 117 ([.u8 0,.bool false,.nils,.u8 0,.u8 0]):=⟨_,_,_,O,O,O,O,dU⟩
instance:ZrT prog 118 (.agg [.int 0,.arr 32 1 ((List.replicate 32 0).map D.u8)]):=⟨_,_,O,O,dU,O⟩
instance:BsT prog 118 ([.int 0,.arr 32 1 ((List.replicate 32 0).map D.u8)]):=⟨_,_,_,O,O,O,O,dU⟩
instance:ZrT prog 119 (.agg [.int 0,.arr 32 1 ((List.replicate 32 0).map D.u8)]):=⟨_,_,O,O,dU,O⟩
instance:BsT prog 119 ([.int 0,.arr 32 1 ((List.replicate 32 0).map D.u8)]):=⟨_,_,_,O,O,O,O,dU⟩
instance:ZrT prog 120 (.agg [.agg [.arr 32 1 ((List.replicate 32 0).map D.u8),.u32 0],.u64 0,.int 0]):=⟨_,_,O,O,dU,O⟩
instance:BsT prog 120 ([.agg [.arr 32 1 ((List.replicate 32 0).map D.u8),.u32 0],.u64 0,.int 0]):=⟨_,_,_,O,O,O,O,dU⟩
instance:ZrT prog 121 (.agg [.agg [.arr 32 1 ((List.replicate 32 0).map D.u8),.u32 0],.u64 0,.int 0]):=⟨_,_,O,O,dU,O⟩
instance:BsT prog 121 ([.agg [.arr 32 1 ((List.replicate 32 0).map D.u8),.u32 0],.u64 0,.int 0]):=⟨_,_,_,O,O,O,O,dU⟩
instance:SlT prog 134 137:=⟨O⟩
instance:ZrT prog 136 (.agg [.int 0,.int 0,.arr 32 1 ((List.replicate 32 0).map D.u8),.agg [.u32 0,.nils,.nils,.u32 0]]):=⟨_,_,O,O,dU,O⟩
instance:BsT prog 136 ([.int 0,.int 0,.arr 32 1 ((List.replicate 32 0).map D.u8),.agg [.u32 0,.nils,.nils,.u32 0]]):=⟨_,_,_,O,O,O,O,dU⟩
instance:ElT prog 137 38 112:=⟨_,_,O,O,O,O,O,dU,O⟩
instance:FdT prog 137 2 2:=⟨_,_,_,O,O,O,O,dU⟩
instance:FdT prog 137 3 34:=⟨_,_,_,O,O,O,O,dU⟩
instance:ZrT prog 137 (.agg [.int 0,.int 0,.arr 32 1 ((List.replicate 32 0).map D.u8),.agg [.u32 0,.nils,.nils,.u32 0]]):=⟨_,_,O,O,dU,O⟩
instance:BsT prog 137 ([.int 0,.int 0,.arr 32 1 ((List.replicate 32 0).map D.u8),.agg [.u32 0,.nils,.nils,.u32 0]]):=⟨_,_,_,O,O,O,O,dU⟩
instance:IkT prog 154 .u64:=⟨O⟩
instance:ZrT prog 154 (.u64 0):=⟨_,_,O,O,dU,O⟩
instance:SlT prog 155 109:=⟨O⟩
instance:SlT prog 156 60:=⟨O⟩
instance:SlT prog 161 44:=⟨O⟩
instance:ZrT prog 167 (.agg [.int 0,.int 0]):=⟨_,_,O,O,dU,O⟩
instance:BsT prog 167 ([.int 0,.int 0]):=⟨_,_,_,O,O,O,O,dU⟩
instance:ZrT prog 168 (.agg [.int 0,.int 0]):=⟨_,_,O,O,dU,O⟩
instance:BsT prog 168 ([.int 0,.int 0]):=⟨_,_,_,O,O,O,O,dU⟩
instance:ZrT prog 180 (.agg [.nils]):=⟨_,_,O,O,dU,O⟩
instance:BsT prog 180 ([.nils]):=⟨_,_,_,O,O,O,O,dU⟩
instance:FdT prog 181 0 0:=⟨_,_,_,O,O,O,O,dU⟩
instance:ZrT prog 181 (.agg [.nils]):=⟨_,_,O,O,dU,O⟩
instance:BsT prog 181 ([.nils]):=⟨_,_,_,O,O,O,O,dU⟩
instance:FdT prog 186 0 0:=⟨_,_,_,O,O,O,O,dU⟩
instance:ZrT prog 186 (.agg [.nils]):=⟨_,_,O,O,dU,O⟩
instance:BsT prog 186 ([.nils]):=⟨_,_,_,O,O,O,O,dU⟩
instance:ZrT prog 191 (.agg [.nils,.bool false]):=⟨_,_,O,O,dU,O⟩
instance:BsT prog 191 ([.nils,.bool false]):=⟨_,_,_,O,O,O,O,dU⟩
instance:FdT prog 192 0 0:=⟨_,_,_,O,O,O,O,dU⟩
instance:FdT prog 192 1 1:=⟨_,_,_,O,O,O,O,dU⟩
instance:ZrT prog 192 (.agg [.nils,.bool false]):=⟨_,_,O,O,dU,O⟩
instance:BsT prog 192 ([.nils,.bool false]):=⟨_,_,_,O,O,O,O,dU⟩
instance:SlT prog 199 27:=⟨O⟩
instance:ZrT prog 204 (.agg [.u64 0,.arr 32 1 ((List.replicate 32 0).map D.u8)]):=⟨_,_,O,O,dU,O⟩
instance:BsT prog 204 ([.u64 0,.arr 32 1 ((List.replicate 32 0).map D.u8)]):=⟨_,_,_,O,O,O,O,dU⟩
instance:ZrT prog 205 (.agg [.u64 0,.arr 32 1 ((List.replicate 32 0).map D.u8)]):=⟨_,_,O,O,dU,O⟩
instance:BsT prog 205 ([.u64 0,.arr 32 1 ((List.replicate 32 0).map D.u8)]):=⟨_,_,_,O,O,O,O,dU⟩
instance:ZrT prog 207 (.arr 8 1 ((List.replicate 8 0).map D.u32)):=⟨_,_,O,O,dU,O⟩
instance:LdT prog 208 8 true:=⟨_,_,O,O,O,O⟩
instance:ArT prog 208 8 27:=⟨O⟩
instance:BaT prog 208 8 27 1:=⟨_,_,_,O,O,O,O,O,O⟩
instance:ZrT prog 208 (.arr 8 1 ((List.replicate 8 0).map D.u32)):=⟨_,_,O,O,dU,O⟩
instance:ArT prog 209 64 5:=⟨O⟩
instance:ZrT prog 209 (.arr 64 1 ((List.replicate 64 0).map D.u8)):=⟨_,_,O,O,dU,O⟩
instance:ZrT prog 210 (.agg [.bool false,.arr 8 1 ((List.replicate 8 0).map D.u32),.arr 64 1 ((List.replicate 64 0).map D.u8),.u64 0]):=⟨_,_,O,O,dU,O⟩
instance:BsT prog 210 ([.bool false,.arr 8 1 ((List.replicate 8 0).map D.u32),.arr 64 1 ((List.replicate 64 0).map D.u8),.u64 0]):=⟨_,_,_,O,O,O,O,dU⟩
instance:LdT prog 211 74 true:=⟨_,_,O,O,O,O⟩
instance:FdT prog 211 0 0:=⟨_,_,_,O,O,O,O,dU⟩
instance:FdT prog 211 1 1:=⟨_,_,_,O,O,O,O,dU⟩
instance:FdT prog 211 2 9:=⟨_,_,_,O,O,O,O,dU⟩
instance:FdT prog 211 3 73:=⟨_,_,_,O,O,O,O,dU⟩
instance:ZrT prog 211 (.agg [.bool false,.arr 8 1 ((List.replicate 8 0).map D.u32),.arr 64 1 ((List.replicate 64 0).map D.u8),.u64 0]):=⟨_,_,O,O,dU,O⟩
instance:BsT prog 211 ([.bool false,.arr 8 1 ((List.replicate 8 0).map D.u32),.arr 64 1 ((List.replicate 64 0).map D.u8),.u64 0]):=⟨_,_,_,O,O,O,O,dU⟩
instance:ZrT prog 216 (.arr 4 1 ((List.replicate 4 0).map D.u64)):=⟨_,_,O,O,dU,O⟩
instance:LdT prog 217 4 true:=⟨_,_,O,O,O,O⟩
instance:ArT prog 217 4 60:=⟨O⟩
instance:BaT prog 217 4 60 1:=⟨_,_,_,O,O,O,O,O,O⟩
instance:EqT prog 217:=⟨by decide +kernel⟩
instance:ZrT prog 217 (.arr 4 1 ((List.replicate 4 0).map D.u64)):=⟨_,_,O,O,dU,O⟩
instance:ArT prog 241 8 5:=⟨O⟩
instance:ZrT prog 241 (.arr 8 1 ((List.replicate 8 0).map D.u8)):=⟨_,_,O,O,dU,O⟩
instance:ZrT prog 253 (.agg [.int 0,.nilp]):=⟨_,_,O,O,dU,O⟩
instance:BsT prog 253 ([.int 0,.nilp]):=⟨_,_,_,O,O,O,O,dU⟩
instance:ZrT prog 254 (.agg [.int 0,.nilp]):=⟨_,_,O,O,dU,O⟩
instance:BsT prog 254 ([.int 0,.nilp]):=⟨_,_,_,O,O,O,O,dU⟩
instance:BgT prog 255 [.agg [.int 0,.nilp],.agg [.int 0,.nilp],.agg [.int 0,.nilp],.agg [.int 0,.nilp]]:=⟨_,_,_,_,_,_,O,O,O,O,O,O,O⟩
instance:ZrT prog 255 (.arr 4 2 (List.replicate 4 (.agg [.int 0,.nilp]))):=⟨_,_,O,O,dU,O⟩
instance:LdT prog 258 64 true:=⟨_,_,O,O,O,O⟩
instance:ArT prog 258 64 27:=⟨O⟩
instance:ZrT prog 258 (.arr 64 1 ((List.replicate 64 0).map D.u32)):=⟨_,_,O,O,dU,O⟩
instance:ZrT prog 261 (.agg [.int 0,.arr 32 1 ((List.replicate 32 0).map D.u8)]):=⟨_,_,O,O,dU,O⟩
instance:BsT prog 261 ([.int 0,.arr 32 1 ((List.replicate 32 0).map D.u8)]):=⟨_,_,_,O,O,O,O,dU⟩
instance:ZrT prog 262 (.agg [.int 0,.arr 32 1 ((List.replicate 32 0).map D.u8)]):=⟨_,_,O,O,dU,O⟩
instance:BsT prog 262 ([.int 0,.arr 32 1 ((List.replicate 32 0).map D.u8)]):=⟨_,_,_,O,O,O,O,dU⟩
instance:SlT prog 268 3:=⟨O⟩
instance:ZrT prog 272 (.agg [.nilp,.nilp,.nilp,.str []]):=⟨_,_,O,O,dU,O⟩
instance:BsT prog 272 ([.nilp,.nilp,.nilp,.str []]):=⟨_,_,_,O,O,O,O,dU⟩
instance:ZrT prog 273 (.agg [.nilp,.nilp,.nilp,.str []]):=⟨_,_,O,O,dU,O⟩
instance:BsT prog 273 ([.nilp,.nilp,.nilp,.str []]):=⟨_,_,_,O,O,O,O,dU⟩
instance:IkT prog 277 .u8:=⟨O⟩
instance:ZrT prog 277 (.u8 0):=⟨_,_,O,O,dU,O⟩
instance:IkT prog 278 .u8:=⟨O⟩
instance:ZrT prog 278 (.u8 0):=⟨_,_,O,O,dU,O⟩
instance:IkT prog 281 .i32:=⟨O⟩
instance:ZrT prog 281 (.ik .i32 0):=⟨_,_,O,O,dU,O⟩
instance:IkT prog 282 .i32:=⟨O⟩
instance:ZrT prog 282 (.ik .i32 0):=⟨_,_,O,O,dU,O⟩
instance:ZrT prog 283 (.agg [.u64 0,.u64 0,.u32 0,.u8 0,.u8 0,.u8 0,.u8 0,.nilf,.nilp,.ik .i32 0,.ik .i32 0]):=⟨_,_,O,O,dU,O⟩
instance:BsT prog 283 ([.u64 0,.u64 0,.u32 0,.u8 0,.u8 0,.u8 0,.u8 0,.nilf,.nilp,.ik .i32 0,.ik .i32 0]):=⟨_,_,_,O,O,O,O,dU⟩
instance:ZrT prog 284 (.agg [.u64 0,.u64 0,.u32 0,.u8 0,.u8 0,.u8 0,.u8 0,.nilf,.nilp,.ik .i32 0,.ik .i32 0]):=⟨_,_,O,O,dU,O⟩
instance:BsT prog 284 ([.u64 0,.u64 0,.u32 0,.u8 0,.u8 0,.u8 0,.u8 0,.nilf,.nilp,.ik .i32 0,.ik .i32 0]):=⟨_,_,_,O,O,O,O,dU⟩
instance:CaT prog 7:=⟨_,Tryz.func7,dU,dU⟩
instance:CaT prog 8:=⟨_,Tryz.func8,dU,dU⟩
instance:CaT prog 9:=⟨_,Tryz.func9,dU,dU⟩
instance:CaT prog 10:=⟨_,Tryz.func10,dU,dU⟩
instance:CaT prog 13:=⟨_,Tryz.func13,dU,dU⟩
instance:CaT prog 14:=⟨_,Tryz.func14,dU,dU⟩
instance:CaT prog 32:=⟨_,Tryz.func32,dU,dU⟩
instance:CaT prog 43:=⟨_,Tryz.func43,dU,dU⟩
instance:CaT prog 44:=⟨_,Tryz.func44,dU,dU⟩
instance:CaT prog 45:=⟨_,Tryz.func45,dU,dU⟩
instance:CaT prog 46:=⟨_,Tryz.func46,dU,dU⟩
instance:CaT prog 47:=⟨_,Tryz.func47,dU,dU⟩
instance:CaT prog 48:=⟨_,Tryz.func48,dU,dU⟩
instance:CaT prog 49:=⟨_,Tryz.func49,dU,dU⟩
instance:CaT prog 50:=⟨_,Tryz.func50,dU,dU⟩
instance:CaT prog 51:=⟨_,Tryz.func51,dU,dU⟩
instance:CaT prog 52:=⟨_,Tryz.func52,dU,dU⟩
instance:CaT prog 53:=⟨_,Tryz.func53,dU,dU⟩
instance:CaT prog 54:=⟨_,Tryz.func54,dU,dU⟩
instance:CaT prog 55:=⟨_,Tryz.func55,dU,dU⟩
instance:CaT prog 56:=⟨_,Tryz.func56,dU,dU⟩
instance:CaT prog 57:=⟨_,Tryz.func57,dU,dU⟩
instance:CaT prog 58:=⟨_,Tryz.func58,dU,dU⟩
instance:CaT prog 63:=⟨_,Tryz.func63,dU,dU⟩
instance:CaT prog 64:=⟨_,Tryz.func64,dU,dU⟩
instance:CaT prog 67:=⟨_,Tryz.func67,dU,dU⟩
instance:CaT prog 70:=⟨_,Tryz.func70,dU,dU⟩
instance:CaT prog 71:=⟨_,Tryz.func71,dU,dU⟩
instance:CaT prog 72:=⟨_,Tryz.func72,dU,dU⟩
instance:CaT prog 73:=⟨_,Tryz.func73,dU,dU⟩
instance:CaT prog 74:=⟨_,Tryz.func74,dU,dU⟩
instance:CaT prog 75:=⟨_,Tryz.func75,dU,dU⟩
instance:CaT prog 76:=⟨_,Tryz.func76,dU,dU⟩
instance:CaT prog 82:=⟨_,Tryz.func82,dU,dU⟩
instance:CaT prog 87:=⟨_,Tryz.func87,dU,dU⟩
instance:CaT prog 88:=⟨_,Tryz.func88,dU,dU⟩
instance:CaT prog 89:=⟨_,Tryz.func89,dU,dU⟩
instance:CaT prog 90:=⟨_,Tryz.func90,dU,dU⟩
instance:CaT prog 91:=⟨_,Tryz.func91,dU,dU⟩
instance:CaT prog 92:=⟨_,Tryz.func92,dU,dU⟩
instance:CaT prog 93:=⟨_,Tryz.func93,dU,dU⟩
instance:CaT prog 94:=⟨_,Tryz.func94,dU,dU⟩
instance:CaT prog 95:=⟨_,Tryz.func95,dU,dU⟩
instance:CaT prog 96:=⟨_,Tryz.func96,dU,dU⟩
instance:CaT prog 97:=⟨_,Tryz.func97,dU,dU⟩
instance:CaT prog 98:=⟨_,Tryz.func98,dU,dU⟩
instance:CaT prog 99:=⟨_,Tryz.func99,dU,dU⟩
instance:CaT prog 100:=⟨_,Tryz.func100,dU,dU⟩
instance:CaT prog 101:=⟨_,Tryz.func101,dU,dU⟩
instance:CaT prog 102:=⟨_,Tryz.func102,dU,dU⟩
instance:CaT prog 103:=⟨_,Tryz.func103,dU,dU⟩
instance:CaT prog 104:=⟨_,Tryz.func104,dU,dU⟩
instance:CaT prog 105:=⟨_,Tryz.func105,dU,dU⟩
instance:CaT prog 106:=⟨_,Tryz.func106,dU,dU⟩
instance:CaT prog 107:=⟨_,Tryz.func107,dU,dU⟩
instance:CaT prog 108:=⟨_,Tryz.func108,dU,dU⟩
instance:CaT prog 109:=⟨_,Tryz.func109,dU,dU⟩
instance:CaT prog 110:=⟨_,Tryz.func110,dU,dU⟩
instance:CaT prog 111:=⟨_,Tryz.func111,dU,dU⟩
instance:CaT prog 117:=⟨_,Tryz.func117,dU,dU⟩
instance:CaT prog 119:=⟨_,Tryz.func119,dU,dU⟩
instance:CaT prog 120:=⟨_,Tryz.func120,dU,dU⟩
instance:CaT prog 121:=⟨_,Tryz.func121,dU,dU⟩
instance:CaT prog 122:=⟨_,Tryz.func122,dU,dU⟩
instance:CaT prog 124:=⟨_,Tryz.func124,dU,dU⟩
instance:CaT prog 125:=⟨_,Tryz.func125,dU,dU⟩
instance:CaT prog 126:=⟨_,Tryz.func126,dU,dU⟩
instance:CaT prog 127:=⟨_,Tryz.func127,dU,dU⟩
instance:CaT prog 128:=⟨_,Tryz.func128,dU,dU⟩
instance:CaT prog 129:=⟨_,Tryz.func129,dU,dU⟩
instance:CaT prog 130:=⟨_,Tryz.func130,dU,dU⟩
instance:CaT prog 134:=⟨_,Tryz.func134,dU,dU⟩
instance:CaT prog 138:=⟨_,Tryz.func138,dU,dU⟩
instance:CaT prog 139:=⟨_,Tryz.func139,dU,dU⟩
instance:CaT prog 140:=⟨_,Tryz.func140,dU,dU⟩
instance:CaT prog 141:=⟨_,Tryz.func141,dU,dU⟩
instance:CaT prog 142:=⟨_,Tryz.func142,dU,dU⟩
instance:CaT prog 143:=⟨_,Tryz.func143,dU,dU⟩
instance:CaT prog 144:=⟨_,Tryz.func144,dU,dU⟩
instance:CaT prog 146:=⟨_,Tryz.func146,dU,dU⟩
instance:CaT prog 147:=⟨_,Tryz.func147,dU,dU⟩
instance:CaT prog 148:=⟨_,Tryz.func148,dU,dU⟩
instance:CaT prog 149:=⟨_,Tryz.func149,dU,dU⟩
instance:CaT prog 150:=⟨_,Tryz.func150,dU,dU⟩
instance:CaT prog 151:=⟨_,Tryz.func151,dU,dU⟩
instance:CaT prog 152:=⟨_,Tryz.func152,dU,dU⟩
instance:CaT prog 153:=⟨_,Tryz.func153,dU,dU⟩
instance:CaT prog 154:=⟨_,Tryz.func154,dU,dU⟩
instance:CaT prog 155:=⟨_,Tryz.func155,dU,dU⟩
instance:CaT prog 156:=⟨_,Tryz.func156,dU,dU⟩
instance:CaT prog 157:=⟨_,Tryz.func157,dU,dU⟩
instance:CaT prog 158:=⟨_,Tryz.func158,dU,dU⟩
instance:CaT prog 159:=⟨_,Tryz.func159,dU,dU⟩
instance:CaT prog 162:=⟨_,Tryz.func162,dU,dU⟩
instance:CaT prog 163:=⟨_,Tryz.func163,dU,dU⟩
instance:CaT prog 164:=⟨_,Tryz.func164,dU,dU⟩
instance:CaT prog 165:=⟨_,Tryz.func165,dU,dU⟩
instance:CaT prog 166:=⟨_,Tryz.func166,dU,dU⟩
instance:CaT prog 167:=⟨_,Tryz.func167,dU,dU⟩
instance:CaT prog 168:=⟨_,Tryz.func168,dU,dU⟩
instance:CaT prog 169:=⟨_,Tryz.func169,dU,dU⟩
instance:CaT prog 170:=⟨_,Tryz.func170,dU,dU⟩
def gl:List (Nat×D):=[(0,.arr 64 1 (kTab.map D.u32))]
end Go.Sx

namespace Go.Sx
open Go.Proofs
theorem hP:Tryz.prog.follows .mixedOrders=true:=Tryz.checked.mixed
theorem x03(x:UInt32)(k:Int):Fn Tryz.prog gl 169 [.u32 x,.int (k:Int)] (.u32 (rotl x k)):=by
 refine Fn.of (n:=17) Tryz.func169 rfl rfl rfl (nU rfl) fun C hC hD=>?_;refine q9 1 (y1 4) (V2 0 1) ⟨aU<|zK (kW (.int .u32 0) (.u32 0) O) O O,Zt⟩ ?_;refine q9 4 (y4 6 7 8 5) (V2 0 5) ⟨mU 1 O O,aU<|zW O O O,aU<|B6 O (kW (.int .u64 31) (.u64 31) O) O O,aU<|zA O O O,Zt⟩ ?_;refine q9 9 (y9 9 10 11 12 13 14 15 16 4) (V1 4) ⟨mU 0 O O,mU 5 O O,aU fun _ _ H K=>R.bin (eU K 9 O) (eU K 10 O) O bV H,mU 0 O O,mU 5 O O,aU fun _ _ H K=>R.bin (kW (.int .u64 32) (.u64 32) O) (eU K 13 O) O Zt H,aU fun _ _ H K=>R.bin (eU K 12 O) (eU K 14 O) O bV H,aU<|zB O O O O,aU<|zA O O O,Zt⟩ ?_;refine W.ret ?_;exact q8 (.inr O) O (O) O O Zt
theorem D6(x:UInt32)(k:Int):Fn Tryz.prog gl 163 [.u32 x,.int (k:Int)] (.u32 (right x k)):=by
 refine Fn.of (n:=9) Tryz.func163 rfl rfl rfl (nU rfl) fun C hC hD=>?_;refine q9 1 (y1 4) (V2 0 1) ⟨aU<|zK (kW (.int .u32 0) (.u32 0) O) O O,Zt⟩ ?_;refine q9 5 (y5 5 6 7 8 4) (V1 4) ⟨mU 0 O O,mU 1 O O,aU<|UQ O O O,aU<|zD hC (x03 _ _) O O O O O O (F1 (.u32 _)) O,aU<|zA O O O,Zt⟩ ?_;refine W.ret ?_;exact q8 (.inr O) O (O) O O Zt
theorem start_ok:Fn Tryz.prog gl 147 [] (.arr 8 1 (iv.map D.u32)):=by
 refine Fn.of (n:=2) Tryz.func147 rfl rfl rfl (nU rfl) fun C hC hD=>?_;refine z5 1 [] [] [] [] Zt O O (Q7 O O (tV (V1 0) (p6 0) 2 O O O ?_));refine z5 2 (y1 1) [] [] (V2 0 1) ⟨aU fun _ _ H _=>VF (z:=1) (.cons (kW (.int .u32 1779033703) (.u32 1779033703) O) (.cons (kW (.int .u32 3144134277) (.u32 3144134277) O) (.cons (kW (.int .u32 1013904242) (.u32 1013904242) O) (.cons (kW (.int .u32 2773480762) (.u32 2773480762) O) (.cons (kW (.int .u32 1359893119) (.u32 1359893119) O) (.cons (kW (.int .u32 2600822924) (.u32 2600822924) O) (.cons (kW (.int .u32 528734635) (.u32 528734635) O) (.cons (kW (.int .u32 1541459225) (.u32 1541459225) O) .nil)))))))) ⟨⟨O,O,O⟩,⟨O,O,O⟩,⟨O,O,O⟩,⟨O,O,O⟩,⟨O,O,O⟩,⟨O,O,O⟩,⟨O,O,O⟩,⟨O,O,O⟩,Zt⟩ O H,Zt⟩ O O (d5 O O O O O (tV (V1 0) (p6 0) 2 O O O ?_));refine W.ret ?_;exact q8 (.inr O) O (O) O O (iL 208 8)
theorem FY:Fn Tryz.prog gl 124 [] (OC ShaS.start):=by
 refine Fn.of (n:=3) Tryz.func124 rfl rfl rfl (nU rfl) fun C hC hD=>?_;refine z5 1 [] [] [] [] Zt O O (Q7 O O (tV (V1 0) (p6 0) 3 O O O ?_));refine z5 3 (y2 1 2) [] [] (V2 0 2) ⟨aU fun _ _ H _=>w6 hC (start_ok) Bn (F1 (.arr _ _ _ (j6 fun _=>.u32 _))) H,aU fun _ _ H K=>c9 (l:=[.bool false,.arr 8 1 ((List.replicate 8 0).map D.u32),.arr 64 1 ((List.replicate 64 0).map D.u8),.u64 0]) (l':=[_,_,_,_]) (.cons (kB true O) (.cons (eU K 1 O) (.nil O))) ⟨⟨_,(kB true O),O,O,O⟩,⟨⟨_,(eU K 1 O),O,O,O⟩,Zt⟩⟩ H,Zt⟩ O O (d5 O O O O O (tV (V1 0) (p6 0) 3 O O O ?_));refine W.ret ?_;exact q8 (.inr O) O (O) O O (iL 211 74)
theorem q85(p:List UInt8)(hp:p.length=64):Fn Tryz.prog gl 162 [.rp (.arr 64 1 (p.map D.u8))] (.arr 64 1 ((sched p 64).map D.u32)):=by
 refine Fn.of (n:=75) Tryz.func162 rfl rfl rfl (nU rfl) fun C hC hD=>?_;refine z5 1 [] [] [] (V1 0) Zt O O (Q7 O O (tV (V2 0 2) (p6 2) 75 O O O ?_));refine W.seq (q9 1 (y1 8) (V3 0 2 8) ⟨aU<|OP (kI 0 O) O O,Zt⟩ ?_);refine W.block ?_;refine W.loop (α:={q__:Nat//q__<=64}) (fun q__=>⟨75,[(0,.rp (.arr 64 1 (p.map D.u8))),(2,.ptr 2 0 []),(8,.int ((q__.1:Nat):Int))],[(2,.var (.arr 64 1 ((sched p q__.1).map D.u32)))]⟩) (fun q__=>64-q__.1) ⟨(0),bU⟩ O ?_;rintro ⟨t,htl⟩;show W _ _ _ _ ⟨75,[(0,.rp (.arr 64 1 (p.map D.u8))),(2,.ptr 2 0 []),(8,.int ((t:Nat):Int))],[(2,.var (.arr 64 1 ((sched p t).map D.u32)))]⟩;have hsl:=BC p t;refine q9 1 (y1 9) (V4 0 2 8 9) ⟨aU<|KO 64 O O O,Zt⟩ ?_;refine W.seq ?_;refine z6 O (fun hc9=>?_) (fun hc9=>?_)
 ·refine W.skip (W.seq (W.block (q9 2 (y2 10 3) (V4 0 2 3 8) ⟨mU 8 O O,aU<|zA O O O,Zt⟩ ?_)));refine W.seq (q9 2 (y2 11 12) (V5 0 2 3 8 12) ⟨mU 3 O O,aU<|KO 16 O O O,Zt⟩ ?_);refine z6 O (fun hc12=>?_) (fun hc12=>?_)
  ·refine W.seq (q9 10 (VS 13 14 15 16 17 18 19 20 21 22) (V7 0 2 3 8 20 21 22) ⟨mU 0 O O,aU fun _ _ H K=>R.nilc (eU K 13 O) H,mU 3 O O,aU<|QP 4 O O bU O,mU 3 O O,aU<|QP 4 O O bU O,aU<|Q6 4 O O bU O,aU fun _ _ H K=>x78 ((4*t)) (((4*t)+4)) (4) (eU K 14 O) (b4 (eU K 16 O)) (b4 (eU K 19 O)) O O bU bU bU (HA) H,aU<|zN (n:=4) O (by simp;omega) O,aU<|OP (kI 0 O) O O,Zt⟩ ?_);refine W.block ?_;refine W.loop (α:={q__:Nat//q__<=4}) (fun q__=>⟨75,[(0,.rp (.arr 64 1 (p.map D.u8))),(2,.ptr 2 0 []),(3,.int ((t:Nat):Int)),(8,.int ((t:Nat):Int)),(20,.sl none 1 (((p.drop (4*t)).take 4).map D.u8)),(21,.int ((4:Nat):Int)),(22,.int ((q__.1:Nat):Int))],[(2,.var (.arr 64 1 ((q45 p t (sched p t) q__.1).map D.u32)))]⟩) (fun q__=>4-q__.1) ⟨(0),bU⟩ O ?_;rintro ⟨i,hil⟩;show W _ _ _ _ ⟨75,[(0,.rp (.arr 64 1 (p.map D.u8))),(2,.ptr 2 0 []),(3,.int ((t:Nat):Int)),(8,.int ((t:Nat):Int)),(20,.sl none 1 (((p.drop (4*t)).take 4).map D.u8)),(21,.int ((4:Nat):Int)),(22,.int ((i:Nat):Int))],[(2,.var (.arr 64 1 ((q45 p t (sched p t) i).map D.u32)))]⟩;have hil2:=TK p t (sched p t) i;refine q9 1 (y1 23) (V8 0 2 3 8 20 21 22 23) ⟨aU<|zS O O O,Zt⟩ ?_;refine W.seq ?_;refine z6 O (fun hc23=>?_) (fun hc23=>?_)
   ·refine W.skip (W.seq (W.block (q9 3 (y3 24 25 5) (V8 0 2 3 5 8 20 21 22) ⟨aU<|zI i O O O bU O,aU<|zL O O (WO bO bO) O O O O O,aU<|zA O O O,Zt⟩ ?_)));refine u4 10 (y9 26 27 28 29 30 31 32 33 34) [] [] (V9 0 2 3 8 20 21 22 33 34) ⟨mU 3 O O,mU 3 O O,aU<|PT t O O O bU O,aU fun _ B H K=>R.ldP (K 28 _ O) (B 2 _ O) (v9 (mG (q45 p t (sched p t) i)) v8 bU) O O O H,aU fun _ _ H K=>R.bin (eU K 29 O) (kW (.int .u64 8) (.u64 8) O) O bV H,mU 5 O O,aU<|zW O O O,aU<|zB O O O O,aU<|PT t O O O bU O,Zt⟩ O O (⟨O,_,Z7 (gU 34 O) (xU 2 O) (v9 (mG (q45 p t (sched p t) i)) v8 bU) (gV 33 O) (by rfl) (by rfl) (by rfl) (by rfl) (E7 (mG (q45 p t (sched p t) i)) X2 X3),tV (V7 0 2 3 8 20 21 22) (p6 2) 75 O O O ?_⟩);refine z8 2 (y2 35 22) (V7 0 2 3 8 20 21 22) ⟨aU<|Q6 1 O O bU O,mU 35 O O,Zt⟩ ?_;exact⟨⟨(i+1),bU⟩,rfl,(by simp only[];omega)⟩
   ·obtain rfl:i=4:=by omega
    refine W.exit (W.exit ?_);refine z8 2 (y2 73 8) (V3 0 2 8) ⟨aU<|Q6 1 O O bU O,mU 73 O O,Zt⟩ ?_;exact⟨⟨(t+1),bU⟩,(by simp only[sched];first|rw[if_pos hc12]|(rw[if_neg hc12];rfl)),(by simp only[];omega)⟩
  ·refine W.skip (W.seq ?_);refine W.dr (m:=10) (an:=[0,1,3,7,0,16,48,112,15,511]) hP dU O (its:=[.y 36 _,.y 37 _,.y 38 _,.y 39 _,.y 40 _,.y 41 _,.y 42 _,.y 43 _,.y 6 _,.y 7 _]) (ks:=[]) (kk:=[]) (env':=(V6 0 2 3 6 7 8)) (⟨nU O,O,⟨mU 3 O O,aU<|OD 15 O O bU bU O,aU<|PT ((t-15)) O O O bU O,aU fun _ B H K=>R.ldP (K 38 _ O) (B 2 _ O) (v9 (mG (sched p t)) v8 bU) O O O H,mU 3 O O,aU<|OD 2 O O bU bU O,aU<|PT ((t-2)) O O O bU O,aU fun _ B H K=>R.ldP (K 42 _ O) (B 2 _ O) (v9 (mG (sched p t)) v8 bU) O O O H,aU<|zA O O O,aU<|zA O O O,Zt⟩,O,O,O⟩) O (bx':=(p6 2)) O (n':=75) O (tV (V6 0 2 3 6 7 8) (p6 2) 75 O O O ?_);refine W.dr (m:=29) (an:=(0::0::2::6::14::0::32::96::224::510::0::1024::0::7168::15360::0::32768::130048::262142::0::539648::0::3685376::7879680::0::16777216::66599936::134217726::268435455::536870911::[])) hP dU O (its:=(.y 44 _::.y 45 _::.y 46 _::.y 47 _::.y 48 _::.y 49 _::.y 50 _::.y 51 _::.y 52 _::.y 53 _::.y 54 _::.y 55 _::.y 56 _::.y 57 _::.y 58 _::.y 59 _::.y 60 _::.y 61 _::.y 62 _::.y 63 _::.y 64 _::.y 65 _::.y 66 _::.y 67 _::.y 68 _::.y 69 _::.y 70 _::.y 71 _::.y 72 _::[])) (ks:=[]) (kk:=[]) (env':=(V5 0 2 8 71 72)) (⟨nU O,O,⟨mU 3 O O,mU 3 O O,aU<|OD 16 O O bU bU O,aU<|PT ((t-16)) O O O bU O,aU fun _ B H K=>R.ldP (K 47 _ O) (B 2 _ O) (v9 (mG (sched p t)) v8 bU) O O O H,mU 3 O O,aU<|OD 7 O O bU bU O,aU<|PT ((t-7)) O O O bU O,aU fun _ B H K=>R.ldP (K 51 _ O) (B 2 _ O) (v9 (mG (sched p t)) v8 bU) O O O H,aU<|zB O O O O,mU 6 O O,aU<|ZB hC (D6 _ _) O O O (kI 7 O) O O (F1 (.u32 _)) O,mU 6 O O,aU<|ZB hC (D6 _ _) O O O (kI 18 O) O O (F1 (.u32 _)) O,aU<|zB O O O O,mU 6 O O,aU fun _ _ H K=>R.bin (eU K 59 O) (kW (.int .u64 3) (.u64 3) O) O bV H,aU<|zB O O O O,aU<|zB O O O O,mU 7 O O,aU<|ZB hC (D6 _ _) O O O (kI 17 O) O O (F1 (.u32 _)) O,mU 7 O O,aU<|ZB hC (D6 _ _) O O O (kI 19 O) O O (F1 (.u32 _)) O,aU<|zB O O O O,mU 7 O O,aU fun _ _ H K=>R.bin (eU K 68 O) (kW (.int .u64 10) (.u64 10) O) O bV H,aU<|zB O O O O,aU<|zB O O O O,aU<|PT t O O O bU O,Zt⟩,O,O,O⟩) O (bx':=(p6 2)) O (n':=75) O (⟨O,_,Z7 (gU 72 O) (xU 2 O) (v9 (mG (sched p t)) v8 bU) (gV 71 O) (by rfl) (by rfl) (by rfl) (by rfl) (E7 (mG (sched p t)) X2 X3),tV (V3 0 2 8) (p6 2) 75 O O O ?_⟩);refine z8 2 (y2 73 8) (V3 0 2 8) ⟨aU<|Q6 1 O O bU O,mU 73 O O,Zt⟩ ?_;exact⟨⟨(t+1),bU⟩,(by simp only[sched];first|rw[if_pos hc12]|(rw[if_neg hc12];rfl)),(by simp only[];omega)⟩
 ·obtain rfl:t=64:=by omega
  refine W.exit (z5 2 (y1 74) [] [] (V2 2 74) ⟨aU (lU 2 O O O O O O O),Zt⟩ O O (d5 O O O O O (tV (V1 2) (p6 2) 75 O O O ?_)));refine W.ret ?_;exact q8 (.inr O) O (O) O O (iL 258 64)
theorem k53(h:List UInt32)(p:List UInt8)(hh:h.length=8)(hp:p.length=64):Fn Tryz.prog gl 148 [.arr 8 1 (h.map D.u32),.rp (.arr 64 1 (p.map D.u8))] (.arr 8 1 ((comp h p).map D.u32)):=by
 refine Fn.of (n:=119) Tryz.func148 rfl rfl rfl (nU rfl) fun C hC hD=>?_;refine z5 2 [] [] [] (V2 0 1) Zt O O (⟨O,_,R.box (gV 0 O) O O (nU O),(Q7 O O (tV (V3 1 2 4) (p7 4 2) 119 O O O ?_))⟩);refine W.seq ?_;refine W.dr (m:=24) (an:=[0,1,0,4,0,16,0,64,0,256,0,1024,0,4096,0,16384,3,65551,196671,459007,984063,2035711,4145151,8388607]) hP dU O (its:=[.y 20 _,.y 21 _,.y 22 _,.y 23 _,.y 24 _,.y 25 _,.y 26 _,.y 27 _,.y 28 _,.y 29 _,.y 30 _,.y 31 _,.y 32 _,.y 33 _,.y 34 _,.y 35 _,.y 5 _,.y 6 _,.y 7 _,.y 8 _,.y 9 _,.y 10 _,.y 11 _,.y 12 _]) (ks:=[]) (kk:=[]) (env':=(j80 1 2 4 5 6 7 8 9 10 11 12)) (⟨nU O,O,⟨aU fun _ _ H K=>R.idxP (0) (K 2 _ O) (b4 (kI 0 O)) O bU H,aU fun _ B H K=>R.ldP (K 20 _ O) (B 2 _ O) (v9 (mG h) v8 bU) O O O H,aU fun _ _ H K=>R.idxP (1) (K 2 _ O) (b4 (kI 1 O)) O bU H,aU fun _ B H K=>R.ldP (K 22 _ O) (B 2 _ O) (v9 (mG h) v8 bU) O O O H,aU fun _ _ H K=>R.idxP (2) (K 2 _ O) (b4 (kI 2 O)) O bU H,aU fun _ B H K=>R.ldP (K 24 _ O) (B 2 _ O) (v9 (mG h) v8 bU) O O O H,aU fun _ _ H K=>R.idxP (3) (K 2 _ O) (b4 (kI 3 O)) O bU H,aU fun _ B H K=>R.ldP (K 26 _ O) (B 2 _ O) (v9 (mG h) v8 bU) O O O H,aU fun _ _ H K=>R.idxP (4) (K 2 _ O) (b4 (kI 4 O)) O bU H,aU fun _ B H K=>R.ldP (K 28 _ O) (B 2 _ O) (v9 (mG h) v8 bU) O O O H,aU fun _ _ H K=>R.idxP (5) (K 2 _ O) (b4 (kI 5 O)) O bU H,aU fun _ B H K=>R.ldP (K 30 _ O) (B 2 _ O) (v9 (mG h) v8 bU) O O O H,aU fun _ _ H K=>R.idxP (6) (K 2 _ O) (b4 (kI 6 O)) O bU H,aU fun _ B H K=>R.ldP (K 32 _ O) (B 2 _ O) (v9 (mG h) v8 bU) O O O H,aU fun _ _ H K=>R.idxP (7) (K 2 _ O) (b4 (kI 7 O)) O bU H,aU fun _ B H K=>R.ldP (K 34 _ O) (B 2 _ O) (v9 (mG h) v8 bU) O O O H,aU<|zA O O O,aU<|zA O O O,aU<|zA O O O,aU<|zA O O O,aU<|zA O O O,aU<|zA O O O,aU<|zA O O O,aU<|zA O O O,Zt⟩,O,O,O⟩) O (bx':=(p7 4 2)) O (n':=119) O (tV (j80 1 2 4 5 6 7 8 9 10 11 12) (p7 4 2) 119 O O O ?_);refine z5 4 (y2 36 37) [] [] (j80 2 4 5 6 7 8 9 10 11 12 37) ⟨mU 1 O O,aU<|zC hC (q85 _ hp) O O O (F1 (.arr _ _ _ (j6 fun _=>.u32 _))) O,Zt⟩ O O (Q7 O O (d5 O O O O O (tV (j80 2 4 5 6 7 8 9 10 11 12 13) (d7 13 4 2) 119 O O O ?_)));refine W.seq (q9 2 (y2 38 39) (w50 2 4 5 6 7 8 9 10 11 12 13 38 39) ⟨aU fun _ _ H _=>R.ldR (evg hC O) O O O H,aU<|OP (kI 0 O) O O,Zt⟩ ?_);refine W.block ?_;refine W.loop (α:={q__:Nat//q__<=64}) (fun q__=>⟨119,[(2,.ptr 2 0 []),(4,.ptr 4 0 []),(5,.u32 (rds h (sched p 64) q__.1).a),(6,.u32 (rds h (sched p 64) q__.1).b),(7,.u32 (rds h (sched p 64) q__.1).c),(8,.u32 (rds h (sched p 64) q__.1).d),(9,.u32 (rds h (sched p 64) q__.1).e),(10,.u32 (rds h (sched p 64) q__.1).f),(11,.u32 (rds h (sched p 64) q__.1).g),(12,.u32 (rds h (sched p 64) q__.1).l),(13,.ptr 13 0 []),(38,.arr 64 1 (kTab.map D.u32)),(39,.int ((q__.1:Nat):Int))],[(13,.var (.arr 64 1 ((sched p 64).map D.u32))),(4,.var (.arr 8 1 ((List.replicate 8 0).map D.u32))),(2,.var (.arr 8 1 (h.map D.u32)))]⟩) (fun q__=>64-q__.1) ⟨(0),bU⟩ O ?_;rintro ⟨t,htl⟩;show W _ _ _ _ ⟨119,[(2,.ptr 2 0 []),(4,.ptr 4 0 []),(5,.u32 (rds h (sched p 64) t).a),(6,.u32 (rds h (sched p 64) t).b),(7,.u32 (rds h (sched p 64) t).c),(8,.u32 (rds h (sched p 64) t).d),(9,.u32 (rds h (sched p 64) t).e),(10,.u32 (rds h (sched p 64) t).f),(11,.u32 (rds h (sched p 64) t).g),(12,.u32 (rds h (sched p 64) t).l),(13,.ptr 13 0 []),(38,.arr 64 1 (kTab.map D.u32)),(39,.int ((t:Nat):Int))],[(13,.var (.arr 64 1 ((sched p 64).map D.u32))),(4,.var (.arr 8 1 ((List.replicate 8 0).map D.u32))),(2,.var (.arr 8 1 (h.map D.u32)))]⟩;have hsl:=BC p 64;have hkl:kTab.length=64:=rfl;refine q9 1 (y1 40) (u00 2 4 5 6 7 8 9 10 11 12 13 38 39 40) ⟨aU<|KO 64 O O O,Zt⟩ ?_;refine W.seq ?_;refine z6 O (fun hc40=>?_) (fun hc40=>?_)
 ·refine W.skip (W.seq (W.block (q9 4 (y4 41 42 14 15) (u07 2 4 5 6 7 8 9 10 11 12 13 14 15 38 39) ⟨mU 39 O O,aU fun _ _ H K=>R.ixA (t) (eU K 38 O) (b4 (eU K 39 O)) O (mG kTab) O O O H,aU<|zA O O O,aU<|zA O O O,Zt⟩ ?_)));refine W.seq ?_;refine W.dr (m:=25) (an:=(0::0::2::0::14::30::0::94::254::511::0::0::0::0::12288::30720::64512::131071::0::524287::0::1048576::3145728::8388607::16777215::[])) hP dU O (its:=(.y 43 _::.y 44 _::.y 45 _::.y 46 _::.y 47 _::.y 48 _::.y 49 _::.y 50 _::.y 51 _::.y 52 _::.y 53 _::.y 54 _::.y 55 _::.y 56 _::.y 57 _::.y 58 _::.y 59 _::.y 60 _::.y 61 _::.y 62 _::.y 63 _::.y 64 _::.y 65 _::.y 66 _::.y 16 _::[])) (ks:=[]) (kk:=[]) (env':=(w50 2 4 5 6 7 8 9 10 11 13 16 38 39)) (⟨nU O,O,⟨mU 12 O O,mU 9 O O,aU<|ZB hC (D6 _ _) O O O (kI 6 O) O O (F1 (.u32 _)) O,mU 9 O O,aU<|ZB hC (D6 _ _) O O O (kI 11 O) O O (F1 (.u32 _)) O,aU<|zB O O O O,mU 9 O O,aU<|ZB hC (D6 _ _) O O O (kI 25 O) O O (F1 (.u32 _)) O,aU<|zB O O O O,aU<|zB O O O O,mU 11 O O,mU 9 O O,mU 10 O O,mU 11 O O,aU<|zB O O O O,aU<|zB O O O O,aU<|zB O O O O,aU<|zB O O O O,mU 15 O O,aU<|zB O O O O,mU 14 O O,aU<|PT t O O O bU O,aU fun _ B H K=>R.ldP (K 64 _ O) (B 13 _ O) (v9 (mG (sched p 64)) v8 bU) O O O H,aU<|zB O O O O,aU<|zA O O O,Zt⟩,O,O,O⟩) O (bx':=(d7 13 4 2)) O (n':=119) O (tV (w50 2 4 5 6 7 8 9 10 11 13 16 38 39) (d7 13 4 2) 119 O O O ?_);refine q9 19 (w91 67 68 69 70 71 72 73 74 75 76 77 78 79 80 81 82 83 84 17) (u00 2 4 5 6 7 8 9 10 11 13 16 17 38 39) ⟨mU 5 O O,aU<|ZB hC (D6 _ _) O O O (kI 2 O) O O (F1 (.u32 _)) O,mU 5 O O,aU<|ZB hC (D6 _ _) O O O (kI 13 O) O O (F1 (.u32 _)) O,aU<|zB O O O O,mU 5 O O,aU<|ZB hC (D6 _ _) O O O (kI 22 O) O O (F1 (.u32 _)) O,aU<|zB O O O O,mU 5 O O,mU 6 O O,aU<|zB O O O O,mU 7 O O,mU 5 O O,mU 6 O O,aU<|zB O O O O,aU<|zB O O O O,aU<|zB O O O O,aU<|zB O O O O,aU<|zA O O O,Zt⟩ ?_;refine z8 20 (u02 85 86 87 88 89 90 91 92 93 94 95 96 12 11 10 9 8 7 6 5) (w50 2 4 5 6 7 8 9 10 11 12 13 38 39) ⟨mU 11 O O,mU 10 O O,mU 9 O O,mU 8 O O,mU 16 O O,aU<|zB O O O O,mU 7 O O,mU 6 O O,mU 5 O O,mU 16 O O,mU 17 O O,aU<|zB O O O O,aU<|zA O O O,aU<|zA O O O,aU<|zA O O O,aU<|zA O O O,aU<|zA O O O,aU<|zA O O O,aU<|zA O O O,aU<|zA O O O,Zt⟩ ?_;refine z8 2 (y2 97 39) (w50 2 4 5 6 7 8 9 10 11 12 13 38 39) ⟨aU<|Q6 1 O O bU O,mU 97 O O,Zt⟩ ?_;exact⟨⟨(t+1),bU⟩,rfl,(by simp only[];omega)⟩
 ·obtain rfl:t=64:=by omega
  refine W.exit (W.seq (q9 10 (VS 98 99 100 101 102 103 104 105 106 107) (V4 2 4 106 107) ⟨mU 5 O O,mU 6 O O,mU 7 O O,mU 8 O O,mU 9 O O,mU 10 O O,mU 11 O O,mU 12 O O,aU fun _ _ H K=>VF (z:=1) (.cons (eU K 98 O) (.cons (eU K 99 O) (.cons (eU K 100 O) (.cons (eU K 101 O) (.cons (eU K 102 O) (.cons (eU K 103 O) (.cons (eU K 104 O) (.cons (eU K 105 O) .nil)))))))) ⟨⟨O,O,O⟩,⟨O,O,O⟩,⟨O,O,O⟩,⟨O,O,O⟩,⟨O,O,O⟩,⟨O,O,O⟩,⟨O,O,O⟩,⟨O,O,O⟩,Zt⟩ O H,aU<|OP (kI 0 O) O O,Zt⟩ ?_));refine W.block ?_;refine W.loop (α:={q__:Nat//q__<=8}) (fun q__=>⟨119,[(2,.ptr 2 0 []),(4,.ptr 4 0 []),(106,.arr 8 1 ((rds h (sched p 64) 64).list.map D.u32)),(107,.int ((q__.1:Nat):Int))],[(13,.var (.arr 64 1 ((sched p 64).map D.u32))),(4,.var (.arr 8 1 ((List.replicate 8 0).map D.u32))),(2,.var (.arr 8 1 ((JH h (rds h (sched p 64) 64).list q__.1).map D.u32)))]⟩) (fun q__=>8-q__.1) ⟨(0),bU⟩ O ?_;rintro ⟨i,hil⟩;show W _ _ _ _ ⟨119,[(2,.ptr 2 0 []),(4,.ptr 4 0 []),(106,.arr 8 1 ((rds h (sched p 64) 64).list.map D.u32)),(107,.int ((i:Nat):Int))],[(13,.var (.arr 64 1 ((sched p 64).map D.u32))),(4,.var (.arr 8 1 ((List.replicate 8 0).map D.u32))),(2,.var (.arr 8 1 ((JH h (rds h (sched p 64) 64).list i).map D.u32)))]⟩;have hll:(rds h (sched p 64) 64).list.length=8:=rfl;have hal:=XR h (rds h (sched p 64) 64).list i;refine q9 1 (y1 108) (V5 2 4 106 107 108) ⟨aU<|KO 8 O O O,Zt⟩ ?_;refine W.seq ?_;refine z6 O (fun hc108=>?_) (fun hc108=>?_)
  ·refine W.skip (W.seq (W.block (q9 4 (y4 109 110 18 19) (V6 2 4 18 19 106 107) ⟨mU 107 O O,aU fun _ _ H K=>R.ixA (i) (eU K 106 O) (b4 (eU K 107 O)) O (j5 (l:=(rds h (sched p 64) 64).list) bU) O O O H,aU<|zA O O O,aU<|zA O O O,Zt⟩ ?_)));refine u4 7 (y6 111 112 113 114 115 116) [] [] (V6 2 4 106 107 115 116) ⟨mU 18 O O,aU<|PT i O O O bU O,aU fun _ B H K=>R.ldP (K 112 _ O) (B 2 _ O) (v9 (j5 (l:=(JH h (rds h (sched p 64) 64).list i)) bU) v8 bU) O O O H,mU 19 O O,aU<|zB O O O O,aU<|PT i O O O bU O,Zt⟩ O O (⟨O,_,Z7 (gU 116 O) (xU 2 O) (v9 (j5 (l:=(JH h (rds h (sched p 64) 64).list i)) bU) v8 bU) (gV 115 O) (by rfl) (by rfl) (by rfl) (by rfl) (E7 (j5 (l:=(JH h (rds h (sched p 64) 64).list i)) bU) X2 X3),tV (V4 2 4 106 107) (d7 13 4 2) 119 O O O ?_⟩);refine z8 2 (y2 117 107) (V4 2 4 106 107) ⟨aU<|Q6 1 O O bU O,mU 117 O O,Zt⟩ ?_;exact⟨⟨(i+1),bU⟩,rfl,(by simp only[];omega)⟩
  ·obtain rfl:i=8:=by omega
   refine W.exit (z5 2 (y1 118) [] [] (V2 4 118) ⟨aU (lU 2 O O O O O O O),Zt⟩ O O (d5 O O O O O (tV (V1 4) (d7 13 4 2) 119 O O O ?_)));refine W.ret ?_;exact q8 (.inr O) O (O) O O (iL 208 8)
theorem NW(s:ShaS)(b:List UInt8)(hs:s.ok)(hb0:b.length<=1073741824):Fn Tryz.prog gl 125 [OC s,.sl none 1 (b.map D.u8)] (OC (T4 s b)):=by
 refine Fn.of (n:=39) Tryz.func125 rfl rfl rfl (nU rfl) fun C hC hD=>?_;refine z5 2 [] [] [] (V2 0 1) Zt O O (⟨O,_,R.box (gV 0 O) O O (nU O),(Q7 O O (tV (V3 1 2 4) (p7 4 2) 39 O O O ?_))⟩);refine RY (fun s__=>∃ q__:{q__:Unit//True},s__=⟨39,[(1,.sl none 1 (b.map D.u8)),(2,.ptr 2 0 []),(4,.ptr 4 0 [])],[(4,.var (OC ShaS.zero)),(2,.var (OC (bif s.begun then s else ShaS.start)))]⟩) ?_ ?_
 ·refine q9 3 (y3 6 7 8) (V4 1 2 4 8) ⟨aU (fU 2 O O),aU (lU 6 O O O O O O O),aU<|UQ O O O,Zt⟩ ?_;refine W.cond O (fun hc8=>?_) (fun hc8=>?_)
  ·refine u4 2 (y1 9) [] [] (V4 1 2 4 9) ⟨aU fun _ _ H _=>w6 hC (FY) Bn (F1 (UA _)) H,Zt⟩ O O (d5 O O O O O (tV (V3 1 2 4) (p7 4 2) 39 O O O ?_));exact⟨⟨(()),Zt⟩,(by have h0:s.begun=false:=(by simpa using hc8);rw[h0];rfl)⟩
  ·refine C6 (V3 1 2 4) (p7 4 2) 39 O O O ?_;refine W.skip ?_;exact⟨⟨(()),Zt⟩,(by have h0:s.begun=true:=(by simpa using hc8);rw[h0];rfl)⟩
 ·rintro s__ ⟨⟨_,_⟩,rfl⟩
  have hs0:(bif s.begun then s else ShaS.start).ok:=by cases s.begun<;>first|exact hs|exact O8
  refine W.seq (W.block ?_);refine W.loop (α:={q__:ShaS×List UInt8//q__.1.ok/\q__.2.length<=b.length/\DR q__.1 q__.2=T4 s b}) (fun q__=>⟨39,[(1,.sl none 1 (q__.1.2.map D.u8)),(2,.ptr 2 0 []),(4,.ptr 4 0 [])],[(4,.var (OC ShaS.zero)),(2,.var (OC q__.1.1))]⟩) (fun q__=>q__.1.2.length) ⟨((bif s.begun then s else ShaS.start),b),⟨hs0,Nat.le_refl _,O⟩⟩ O ?_;rintro ⟨⟨u,c⟩,⟨hu,hcb,heq⟩⟩;show W _ _ _ _ ⟨39,[(1,.sl none 1 (c.map D.u8)),(2,.ptr 2 0 []),(4,.ptr 4 0 [])],[(4,.var (OC ShaS.zero)),(2,.var (OC u))]⟩;have hcb:c.length<=b.length:=hcb;have hm:=YH u;have hkl:=z65 u c;have hkr:=NX u c;have hpl:=HN u c hu;have hpp:=hu.p;refine W.seq (q9 3 (y3 10 11 12) (V4 1 2 4 12) ⟨mU 1 O O,aU<|zN O (lN _) O,aU<|l5 0 O O O,Zt⟩ ?_);refine z6 O (fun hc12=>?_) (fun hc12=>?_)
  ·refine W.skip (W.block (z5 8 (y6 13 14 15 16 17 18) [] [] (V5 1 2 4 17 18) ⟨aU (fU 2 O O),aU (fU 2 O O),aU (lU 14 O O O O O O O),aU fun _ _ H K=>R.bin (eU K 15 O) (kW (.int .u64 64) (.u64 64) O) O dU H,aU fun _ B H K=>G5 (mS u) (64) (64-mS u) (K 13 _ O) (B 2 _ O) O (w35 (eU K 16 O)) O O O bO bU bU H,mU 1 O O,Zt⟩ O O (⟨O,_,OY (k:=kS u c) (l2:=((i6 u c).map D.u8)) (gU 17 O) (xU 2 O) O bO (SrcO.sc (SC.sl (gU 18 O)) (c6 (fun _=>rfl))) (MV (fun _=>rfl)) (nU O) (by simp only[List.length_map];rfl) (by simp only[i6,List.map_append,List.map_take,List.map_drop]) O,(P8 O O O (tV (V4 1 2 4 5) (p7 4 2) 39 O O O ?_))⟩)));refine q9 4 (y4 20 21 22 1) (V4 1 2 4 5) ⟨mU 1 O O,mU 5 O O,aU fun _ _ H K=>DV (kS u c) (c.length) ((c.length-kS u c)) (eU K 20 O) (b4 (eU K 21 O)) O O (by simp) bO (by first|omega|simp) O (q99) H,aU<|zA O O O,Zt⟩ ?_;refine z5 7 (y6 23 24 25 26 27 28) [] [] (V5 1 2 4 27 28) ⟨aU (fU 2 O O),aU (lU 23 O O O O O O O),mU 5 O O,aU<|zW O O O,aU<|zB O O O O,aU (fU 2 O O),Zt⟩ O O (d5 O O O O O (tV (V3 1 2 4) (p7 4 2) 39 O O O ?_));refine q9 4 (y4 29 30 31 32) (V4 1 2 4 32) ⟨aU (fU 2 O O),aU (lU 29 O O O O O O O),aU fun _ _ H K=>R.bin (eU K 30 O) (kW (.int .u64 64) (.u64 64) O) O dU H,aU<|B6 O (kW (.int .u64 0) (.u64 0) O) O O,Zt⟩ ?_;refine W.cond O (fun hc32=>?_) (fun hc32=>?_)
   ·refine u4 6 (y5 33 34 35 36 37) [] [] (V5 1 2 4 36 37) ⟨aU (fU 2 O O),aU (lU 33 O O O O O O O),aU (fU 2 O O),aU fun _ B H K=>w6 hC (k53 _ _ hu.h hpl) (Bc (Bp (eU K 34 O) O O) (Bc (Bor.ptr (K 35 _ O) (B 2 _ O) O (j34 (fun _=>rfl)) O) Bn)) (F1 (.arr _ _ _ (j6 fun _=>.u32 _))) H,aU (fU 2 O O),Zt⟩ O O (d5 O O O O O (tV (V3 1 2 4) (p7 4 2) 39 O O O ?_));exact⟨⟨(I9 u c,c.drop (kS u c)),⟨HU u c hu,by simp only[List.length_drop];omega,by rw[<- I3 u c (by omega)];exact heq⟩⟩,(by simp only[I9];first|(rw[show(nS u c%64==0)=true from hc32];rfl)|(rw[show(nS u c%64==0)=false from hc32];rfl)),(by have:=JJ u c (by omega);show(c.drop (kS u c)).length<c.length;simp only[List.length_drop];omega)⟩
   ·refine C6 (V3 1 2 4) (p7 4 2) 39 O O O ?_;refine W.skip ?_;exact⟨⟨(I9 u c,c.drop (kS u c)),⟨HU u c hu,by simp only[List.length_drop];omega,by rw[<- I3 u c (by omega)];exact heq⟩⟩,(by simp only[I9];first|(rw[show(nS u c%64==0)=true from hc32];rfl)|(rw[show(nS u c%64==0)=false from hc32];rfl)),(by have:=JJ u c (by omega);show(c.drop (kS u c)).length<c.length;simp only[List.length_drop];omega)⟩
  ·have hw:=ZH u c (by omega);rw[hw] at heq;refine W.exit (z5 2 (y1 38) [] [] (V2 4 38) ⟨aU (lU 2 O O O O O O O),Zt⟩ O O (d5 O O O O O (tV (V1 4) (p7 4 2) 39 O O O ?_)));refine W.ret ?_;exact q8 (.inr O) O (congrArg OC heq) O O (iL 211 74)
theorem x60(s:ShaS)(hs:s.ok):Fn Tryz.prog gl 126 [OC s] (z7 (k04 s)):=by
 refine Fn.of (n:=54) Tryz.func126 rfl rfl rfl (nU rfl) fun C hC hD=>?_;refine z5 2 [] [] [] (V1 0) Zt O O (⟨O,_,R.box (gV 0 O) O O (nU O),(Q7 O O (tV (V2 1 2) (p7 2 1) 54 O O O ?_))⟩);refine q9 4 (y4 8 9 10 3) (V3 1 2 3) ⟨aU (fU 1 O O),aU (lU 8 O O O O O O O),aU<|B6 O (kW (.int .u64 8) (.u64 8) O) O O,aU<|zA O O O,Zt⟩ ?_;refine z5 4 (y3 11 12 13) [] [] (V4 1 2 3 13) ⟨aU (lU 1 O O O O O O O),aU fun _ _ H _=>w8 (z:=1) (.cons (kW (.int .u8 128) (.u8 128) O) .nil) ⟨⟨O,O,O⟩,Zt⟩ O H dU,aU fun _ _ H K=>w6 hC (NW s [128] hs dU) (Bc (Bp (eU K 11 O) O O) (Bc (Bor.sc (SC.sl (K 12 _ O)) O) Bn)) (F1 (UA _)) H,Zt⟩ O O (d5 O O O O O (tV (V3 1 2 3) (p7 2 1) 54 O O O ?_));refine W.seq (W.block ?_);refine W.loop (α:={q__:ShaS//q__.ok/\q__.begun=true/\AN (KU q__) q__=IP s}) (fun q__=>⟨54,[(1,.ptr 1 0 []),(2,.ptr 2 0 []),(3,.u64 (s.n*8))],[(2,.var (z7 (List.replicate 32 0))),(1,.var (OC q__.1))]⟩) (fun q__=>KU q__.1) ⟨(z14 s),⟨GT s _ hs,DS s _,O⟩⟩ O ?_;rintro ⟨u,⟨hu,hub,heq⟩⟩;show W _ _ _ _ ⟨54,[(1,.ptr 1 0 []),(2,.ptr 2 0 []),(3,.u64 (s.n*8))],[(2,.var (z7 (List.replicate 32 0))),(1,.var (OC u))]⟩;refine W.seq (q9 4 (y4 14 15 16 17) (V4 1 2 3 17) ⟨aU (fU 1 O O),aU (lU 14 O O O O O O O),aU fun _ _ H K=>R.bin (eU K 15 O) (kW (.int .u64 64) (.u64 64) O) O dU H,aU<|B6 O (kW (.int .u64 56) (.u64 56) O) O O,Zt⟩ ?_);refine W.cond O (fun hc17=>?_) (fun hc17=>?_)
 ·refine W.skip (W.block ?_);refine u4 4 (y3 18 19 20) [] [] (V4 1 2 3 20) ⟨aU (lU 1 O O O O O O O),aU fun _ _ H _=>w8 (z:=1) (.cons (kW (.int .u8 0) (.u8 0) O) .nil) ⟨⟨O,O,O⟩,Zt⟩ O H dU,aU fun _ _ H K=>w6 hC (NW u [0] hu dU) (Bc (Bp (eU K 18 O) O O) (Bc (Bor.sc (SC.sl (K 19 _ O)) O) Bn)) (F1 (UA _)) H,Zt⟩ O O (d5 O O O O O (tV (V3 1 2 3) (p7 2 1) 54 O O O ?_));exact⟨⟨(T4 u [0]),⟨GT u _ hu,DS u _,by rw[z12 u hub (j73 hc17)] at heq;exact heq⟩⟩,rfl,(by have:=z13 u hub (j73 hc17);simp only[];omega)⟩
 ·have hp0:KU u=0:=k86 u (w26 hc17);rw[hp0] at heq;obtain rfl:u=IP s:=heq;have hs2:=hu;refine W.exit (z5 1 [] [] [] (V3 1 2 3) Zt O O (Q7 O O (tV (V4 1 2 3 4) (d7 4 2 1) 54 O O O ?_)));refine W.seq (q9 1 (y1 21) (V5 1 2 3 4 21) ⟨aU<|OP (kI 0 O) O O,Zt⟩ ?_);refine W.block ?_;refine W.loop (α:={q__:Nat//q__<=8}) (fun q__=>⟨54,[(1,.ptr 1 0 []),(2,.ptr 2 0 []),(3,.u64 (s.n*8)),(4,.ptr 4 0 []),(21,.int ((q__.1:Nat):Int))],[(4,.var (.arr 8 1 ((L4 (s.n*8) q__.1).map D.u8))),(2,.var (z7 (List.replicate 32 0))),(1,.var (OC (IP s)))]⟩) (fun q__=>8-q__.1) ⟨(0),bU⟩ O ?_;rintro ⟨i,hil⟩;show W _ _ _ _ ⟨54,[(1,.ptr 1 0 []),(2,.ptr 2 0 []),(3,.u64 (s.n*8)),(4,.ptr 4 0 []),(21,.int ((i:Nat):Int))],[(4,.var (.arr 8 1 ((L4 (s.n*8) i).map D.u8))),(2,.var (z7 (List.replicate 32 0))),(1,.var (OC (IP s)))]⟩;have hll:=UH (s.n*8) i;refine q9 1 (y1 22) (V6 1 2 3 4 21 22) ⟨aU<|KO 8 O O O,Zt⟩ ?_;refine W.seq ?_;refine z6 O (fun hc22=>?_) (fun hc22=>?_)
  ·refine W.skip (W.seq (W.block (q9 2 (y2 23 5) (V6 1 2 3 4 5 21) ⟨mU 21 O O,aU<|zA O O O,Zt⟩ ?_)));refine u4 9 (y8 24 25 26 27 28 29 30 31) [] [] (V7 1 2 3 4 21 30 31) ⟨mU 5 O O,mU 3 O O,mU 5 O O,aU<|QP 8 O O bU O,aU fun _ _ H K=>JC (56) ((8*i)) (kI 56 O) (eU K 27 O) bU bU H,aU fun _ _ H K=>R.bin (eU K 25 O) (eU K 28 O) O (show(0:Int)<=_ from Int.natCast_nonneg _) H,aU<|zW O O O,aU<|PT i O O O bU O,Zt⟩ O O (⟨O,_,Z7 (gU 31 O) (xU 4 O) (v9 (mG (L4 (s.n*8) i)) v8 bU) (gV 30 O) (by rfl) (by rfl) (by rfl) (by rfl) (E7 (mG (L4 (s.n*8) i)) X2 X3),tV (V5 1 2 3 4 21) (d7 4 2 1) 54 O O O ?_⟩);refine z8 2 (y2 32 21) (V5 1 2 3 4 21) ⟨aU<|Q6 1 O O bU O,mU 32 O O,Zt⟩ ?_;exact⟨⟨(i+1),bU⟩,rfl,(by simp only[];omega)⟩
  ·obtain rfl:i=8:=by omega
   refine W.exit (W.seq ?_);refine W.dr (m:=3) (an:=[0,0,3,7]) hP dU O (its:=[.y 33 _,.y 34 _,.y 35 _]) (ks:=[]) (kk:=[]) (env':=(V3 1 2 35)) (⟨nU O,O,⟨aU (lU 1 O O O O O O O),aU fun _ B H K=>G5 (0) (8) (8) (K 4 _ O) (B 4 _ O) O O O O O bU bU O H,aU fun _ B H K=>w6 hC (NW _ _ hs2 (by simp[UH])) (Bc (Bp (eU K 33 O) O O) (Bc (Bor.sc (SC.va (K 34 _ O) (B 4 _ O) O bU) (GL (fun _=>rfl) (UH _ _))) Bn)) (F1 (UA _)) H,Zt⟩,O,O,O⟩) O (bx':=(d7 4 2 1)) O (n':=54) O (d5 O O O O O (tV (V2 1 2) (d7 4 2 1) 54 O O O ?_));refine z5 1 [] [] [] (V2 1 2) Zt O O (Q7 O O (tV (V3 1 2 6) (T6 6 4 2 1) 54 O O O ?_));refine W.seq (q9 1 (y1 36) (V4 1 2 6 36) ⟨aU<|OP (kI 0 O) O O,Zt⟩ ?_);refine W.block ?_;refine W.loop (α:={q__:Nat//q__<=32}) (fun q__=>⟨54,[(1,.ptr 1 0 []),(2,.ptr 2 0 []),(6,.ptr 6 0 []),(36,.int ((q__.1:Nat):Int))],[(6,.var (z7 (HR (YA s).h q__.1))),(4,.var (.arr 8 1 ((L4 (s.n*8) 8).map D.u8))),(2,.var (z7 (List.replicate 32 0))),(1,.var (OC (YA s)))]⟩) (fun q__=>32-q__.1) ⟨(0),bU⟩ O ?_;rintro ⟨i,hil⟩;show W _ _ _ _ ⟨54,[(1,.ptr 1 0 []),(2,.ptr 2 0 []),(6,.ptr 6 0 []),(36,.int ((i:Nat):Int))],[(6,.var (z7 (HR (YA s).h i))),(4,.var (.arr 8 1 ((L4 (s.n*8) 8).map D.u8))),(2,.var (z7 (List.replicate 32 0))),(1,.var (OC (YA s)))]⟩;have hol:=AF (YA s).h i;have h3:(YA s).ok:=GT _ _ hs2;have h3l:=h3.h;refine q9 1 (y1 37) (V5 1 2 6 36 37) ⟨aU<|KO 32 O O O,Zt⟩ ?_;refine W.seq ?_;refine z6 O (fun hc37=>?_) (fun hc37=>?_)
   ·refine W.skip (W.seq (W.block (q9 2 (y2 38 7) (V5 1 2 6 7 36) ⟨mU 36 O O,aU<|zA O O O,Zt⟩ ?_)));refine u4 14 (w92 39 40 41 42 43 44 45 46 47 48 49 50 51) [] [] (V6 1 2 6 36 50 51) ⟨mU 7 O O,mU 7 O O,aU fun _ _ H K=>C7 (i) (4) (eU K 40 O) (kI 4 O) bU bU H,aU (fU 1 O O),aU<|PT ((i/4)) O O O bU O,aU fun _ B H K=>R.ldP (K 43 _ O) (B 1 _ O) (NK (m:=1) O O (v9 (j5 (l:=(YA s).h) bU) v8 O) bU) O O O H,mU 7 O O,aU fun _ _ H K=>E3 (i) (4) (eU K 45 O) (kI 4 O) bU H,aU<|QP 8 O O bU O,aU fun _ _ H K=>JC (24) ((8*(i%4))) (kI 24 O) (eU K 47 O) bU bU H,aU fun _ _ H K=>R.bin (eU K 44 O) (eU K 48 O) O (show(0:Int)<=_ from Int.natCast_nonneg _) H,aU<|zW O O O,aU<|PT i O O O bU O,Zt⟩ O O (⟨O,_,Z7 (gU 51 O) (xU 6 O) (v9 (mG (HR (YA s).h i)) v8 bU) (gV 50 O) (by rfl) (by rfl) (by rfl) (by rfl) (E7 (mG (HR (YA s).h i)) X2 X3),tV (V4 1 2 6 36) (T6 6 4 2 1) 54 O O O ?_⟩);refine z8 2 (y2 52 36) (V4 1 2 6 36) ⟨aU<|Q6 1 O O bU O,mU 52 O O,Zt⟩ ?_;exact⟨⟨(i+1),bU⟩,rfl,(by simp only[];omega)⟩
   ·obtain rfl:i=32:=by omega
    refine W.exit (z5 2 (y1 53) [] [] (V2 2 53) ⟨aU (lU 6 O O O O O O O),Zt⟩ O O (d5 O O O O O (tV (V1 2) (T6 6 4 2 1) 54 O O O ?_)));refine W.ret ?_;exact q8 (.inr O) O (O) O O (iL 23 32)
theorem q71(b:List UInt8)(hb0:b.length<=1073741824):Fn Tryz.prog gl 70 [.sl none 1 (b.map D.u8)] (z7 (WQ b)):=by
 refine Fn.of (n:=7) Tryz.func70 rfl rfl rfl (nU rfl) fun C hC hD=>?_;refine z5 1 [] [] [] (V1 0) Zt O O (Q7 O O (tV (V2 0 2) (p6 2) 7 O O O ?_));refine z5 5 (y4 3 4 5 6) [] [] (V2 2 6) ⟨aU fun _ _ H _=>w6 hC (FY) Bn (F1 (UA _)) H,mU 0 O O,aU<|zD hC (NW _ _ O8 hb0) O O O O O O (F1 (UA _)) O,aU<|zC hC (x60 _ (GT _ _ O8)) O O O (F1 (m4 _)) O,Zt⟩ O O (d5 O O O O O (tV (V1 2) (p6 2) 7 O O O ?_));refine W.ret ?_;exact q8 (.inr O) O (O) O O (iL 23 32)
theorem HQ(b:List UInt8)(hb0:b.length<=1073741824):Fn Tryz.prog gl 100 [.sl none 1 (b.map D.u8)] (z7 (Y8 b)):=by
 refine Fn.of (n:=8) Tryz.func100 rfl rfl rfl (nU rfl) fun C hC hD=>?_;refine z5 1 [] [] [] (V1 0) Zt O O (Q7 O O (tV (V2 0 2) (p6 2) 8 O O O ?_));refine z5 4 (y2 4 5) [] [] (V2 2 5) ⟨mU 0 O O,aU<|zC hC (q71 _ hb0) O O O (F1 (m4 _)) O,Zt⟩ O O (Q7 O O (d5 O O O O O (tV (V2 2 3) (p7 3 2) 8 O O O ?_)));refine z5 3 (y2 6 7) [] [] (V2 2 7) ⟨aU fun _ B H K=>G5 (0) (32) (32) (K 3 _ O) (B 3 _ O) O O O O O bU bU O H,aU fun _ B H K=>w6 hC (q71 (WQ b) (by rw[HX];decide)) (Bc (Bor.sc (SC.va (K 6 _ O) (B 3 _ O) O bU) (GL (fun _=>rfl) (HX _))) Bn) (F1 (m4 _)) H,Zt⟩ O O (d5 O O O O O (tV (V1 2) (p7 3 2) 8 O O O ?_));refine W.ret ?_;exact q8 (.inr O) O (O) O O (iL 23 32)
end Go.Sx

namespace Go.Sx
open Go.Proofs
theorem w82:Fn Tryz.prog gl 120 [] (.sl (some 27) 1 (kTab.map D.u32)):=by
 refine Fn.of (n:=2) Tryz.func120 rfl rfl rfl (nU rfl) fun C hC hD=>?_;refine q9 1 (y1 0) [] ⟨aU<|zK (kN O) O O,Zt⟩ ?_;refine z5 2 (y2 1 0) [(1,1)] [(1,1)] (V1 0) ⟨aU fun _ _ H _=>w8 (z:=1) (.cons (kW (.int .u32 1116352408) (.u32 1116352408) O) (.cons (kW (.int .u32 1899447441) (.u32 1899447441) O) (.cons (kW (.int .u32 3049323471) (.u32 3049323471) O) (.cons (kW (.int .u32 3921009573) (.u32 3921009573) O) (.cons (kW (.int .u32 961987163) (.u32 961987163) O) (.cons (kW (.int .u32 1508970993) (.u32 1508970993) O) (.cons (kW (.int .u32 2453635748) (.u32 2453635748) O) (.cons (kW (.int .u32 2870763221) (.u32 2870763221) O) (.cons (kW (.int .u32 3624381080) (.u32 3624381080) O) (.cons (kW (.int .u32 310598401) (.u32 310598401) O) (.cons (kW (.int .u32 607225278) (.u32 607225278) O) (.cons (kW (.int .u32 1426881987) (.u32 1426881987) O) (.cons (kW (.int .u32 1925078388) (.u32 1925078388) O) (.cons (kW (.int .u32 2162078206) (.u32 2162078206) O) (.cons (kW (.int .u32 2614888103) (.u32 2614888103) O) (.cons (kW (.int .u32 3248222580) (.u32 3248222580) O) (.cons (kW (.int .u32 3835390401) (.u32 3835390401) O) (.cons (kW (.int .u32 4022224774) (.u32 4022224774) O) (.cons (kW (.int .u32 264347078) (.u32 264347078) O) (.cons (kW (.int .u32 604807628) (.u32 604807628) O) (.cons (kW (.int .u32 770255983) (.u32 770255983) O) (.cons (kW (.int .u32 1249150122) (.u32 1249150122) O) (.cons (kW (.int .u32 1555081692) (.u32 1555081692) O) (.cons (kW (.int .u32 1996064986) (.u32 1996064986) O) (.cons (kW (.int .u32 2554220882) (.u32 2554220882) O) (.cons (kW (.int .u32 2821834349) (.u32 2821834349) O) (.cons (kW (.int .u32 2952996808) (.u32 2952996808) O) (.cons (kW (.int .u32 3210313671) (.u32 3210313671) O) (.cons (kW (.int .u32 3336571891) (.u32 3336571891) O) (.cons (kW (.int .u32 3584528711) (.u32 3584528711) O) (.cons (kW (.int .u32 113926993) (.u32 113926993) O) (.cons (kW (.int .u32 338241895) (.u32 338241895) O) (.cons (kW (.int .u32 666307205) (.u32 666307205) O) (.cons (kW (.int .u32 773529912) (.u32 773529912) O) (.cons (kW (.int .u32 1294757372) (.u32 1294757372) O) (.cons (kW (.int .u32 1396182291) (.u32 1396182291) O) (.cons (kW (.int .u32 1695183700) (.u32 1695183700) O) (.cons (kW (.int .u32 1986661051) (.u32 1986661051) O) (.cons (kW (.int .u32 2177026350) (.u32 2177026350) O) (.cons (kW (.int .u32 2456956037) (.u32 2456956037) O) (.cons (kW (.int .u32 2730485921) (.u32 2730485921) O) (.cons (kW (.int .u32 2820302411) (.u32 2820302411) O) (.cons (kW (.int .u32 3259730800) (.u32 3259730800) O) (.cons (kW (.int .u32 3345764771) (.u32 3345764771) O) (.cons (kW (.int .u32 3516065817) (.u32 3516065817) O) (.cons (kW (.int .u32 3600352804) (.u32 3600352804) O) (.cons (kW (.int .u32 4094571909) (.u32 4094571909) O) (.cons (kW (.int .u32 275423344) (.u32 275423344) O) (.cons (kW (.int .u32 430227734) (.u32 430227734) O) (.cons (kW (.int .u32 506948616) (.u32 506948616) O) (.cons (kW (.int .u32 659060556) (.u32 659060556) O) (.cons (kW (.int .u32 883997877) (.u32 883997877) O) (.cons (kW (.int .u32 958139571) (.u32 958139571) O) (.cons (kW (.int .u32 1322822218) (.u32 1322822218) O) (.cons (kW (.int .u32 1537002063) (.u32 1537002063) O) (.cons (kW (.int .u32 1747873779) (.u32 1747873779) O) (.cons (kW (.int .u32 1955562222) (.u32 1955562222) O) (.cons (kW (.int .u32 2024104815) (.u32 2024104815) O) (.cons (kW (.int .u32 2227730452) (.u32 2227730452) O) (.cons (kW (.int .u32 2361852424) (.u32 2361852424) O) (.cons (kW (.int .u32 2428436474) (.u32 2428436474) O) (.cons (kW (.int .u32 2756734187) (.u32 2756734187) O) (.cons (kW (.int .u32 3204031479) (.u32 3204031479) O) (.cons (kW (.int .u32 3329325298) (.u32 3329325298) O) .nil)))))))))))))))))))))))))))))))))))))))))))))))))))))))))))))))) ⟨⟨O,O,O⟩,⟨O,O,O⟩,⟨O,O,O⟩,⟨O,O,O⟩,⟨O,O,O⟩,⟨O,O,O⟩,⟨O,O,O⟩,⟨O,O,O⟩,⟨O,O,O⟩,⟨O,O,O⟩,⟨O,O,O⟩,⟨O,O,O⟩,⟨O,O,O⟩,⟨O,O,O⟩,⟨O,O,O⟩,⟨O,O,O⟩,⟨O,O,O⟩,⟨O,O,O⟩,⟨O,O,O⟩,⟨O,O,O⟩,⟨O,O,O⟩,⟨O,O,O⟩,⟨O,O,O⟩,⟨O,O,O⟩,⟨O,O,O⟩,⟨O,O,O⟩,⟨O,O,O⟩,⟨O,O,O⟩,⟨O,O,O⟩,⟨O,O,O⟩,⟨O,O,O⟩,⟨O,O,O⟩,⟨O,O,O⟩,⟨O,O,O⟩,⟨O,O,O⟩,⟨O,O,O⟩,⟨O,O,O⟩,⟨O,O,O⟩,⟨O,O,O⟩,⟨O,O,O⟩,⟨O,O,O⟩,⟨O,O,O⟩,⟨O,O,O⟩,⟨O,O,O⟩,⟨O,O,O⟩,⟨O,O,O⟩,⟨O,O,O⟩,⟨O,O,O⟩,⟨O,O,O⟩,⟨O,O,O⟩,⟨O,O,O⟩,⟨O,O,O⟩,⟨O,O,O⟩,⟨O,O,O⟩,⟨O,O,O⟩,⟨O,O,O⟩,⟨O,O,O⟩,⟨O,O,O⟩,⟨O,O,O⟩,⟨O,O,O⟩,⟨O,O,O⟩,⟨O,O,O⟩,⟨O,O,O⟩,⟨O,O,O⟩,Zt⟩ O H dU,aU<|zO O O O,Zt⟩ O O (tU O ?_);refine W.ret ?_;exact q8 (.inr O) O (O) O O Zt
theorem Y6(x:UInt32)(n:UInt64):Fn Tryz.prog gl 122 [.u32 x,.u64 n] (.u32 (rright x n)):=by
 refine Fn.of (n:=13) Tryz.func122 rfl rfl rfl (nU rfl) fun C hC hD=>?_;refine q9 1 (y1 4) (V2 0 1) ⟨aU<|zK (kW (.int .u32 0) (.u32 0) O) O O,Zt⟩ ?_;refine q9 9 (y9 5 6 7 8 9 10 11 12 4) (V1 4) ⟨mU 0 O O,mU 1 O O,aU fun _ _ H K=>R.bin (eU K 5 O) (eU K 6 O) O bV H,mU 0 O O,mU 1 O O,aU fun _ _ H K=>R.bin (kW (.int .u64 32) (.u64 32) O) (eU K 9 O) O Zt H,aU fun _ _ H K=>R.bin (eU K 8 O) (eU K 10 O) O bV H,aU<|zB O O O O,aU<|zA O O O,Zt⟩ ?_;refine W.ret ?_;exact q8 (.inr O) O (O) O O Zt
theorem q52(p:List UInt8)(hp:p.length=64):Fn Tryz.prog gl 121 [.sl none 1 (p.map D.u8)] (.sl (some 27) 1 ((wR p 64).map D.u32)):=by
 refine Fn.of (n:=99) Tryz.func121 rfl rfl rfl (nU rfl) fun C hC hD=>?_;refine q9 1 (y1 2) (V1 0) ⟨aU<|zK (kN O) O O,Zt⟩ ?_;refine q9 1 (y1 3) (V2 0 3) ⟨aU<|zK (kN O) O O,Zt⟩ ?_;refine W.seq (q9 1 (y1 4) (V3 0 3 4) ⟨aU<|zK (kI 0 O) O O,Zt⟩ ?_);refine W.block ?_;refine X5 (s:=3) 27 1 O ?_;refine W.loop (α:={q__:Nat//q__<=16}) (fun q__=>⟨99,[(0,.sl none 1 (p.map D.u8)),(3,.sl (some 27) 1 ((wR p q__.1).map D.u32)),(4,.int ((q__.1:Nat):Int))],[]⟩) (fun q__=>16-q__.1) ⟨(0),bU⟩ O ?_;rintro ⟨t,htl⟩;show W _ _ _ _ ⟨99,[(0,.sl none 1 (p.map D.u8)),(3,.sl (some 27) 1 ((wR p t).map D.u32)),(4,.int ((t:Nat):Int))],[]⟩;have hwl:=MQ p t;refine W.seq (q9 2 (y2 10 11) (V4 0 3 4 11) ⟨mU 4 O O,aU<|KO 16 O O O,Zt⟩ ?_);refine z6 O (fun hc11=>?_) (fun hc11=>?_)
 ·refine W.skip (W.seq (W.block ?_));refine W.dr (m:=37) (an:=(0::0::0::4::14::30::62::126::0::0::512::1536::3840::7936::16128::32512::65534::0::0::262144::786432::1966080::4063232::8257536::16646144::33554430::0::0::134217728::402653184::1006632960::2080374784::4227858432::8589934590::17179869182::34359738367::68719476735::[])) hP dU O (its:=(.y 14 _::.y 15 _::.y 16 _::.y 17 _::.y 18 _::.y 19 _::.y 20 _::.y 21 _::.y 22 _::.y 23 _::.y 24 _::.y 25 _::.y 26 _::.y 27 _::.y 28 _::.y 29 _::.y 30 _::.y 31 _::.y 32 _::.y 33 _::.y 34 _::.y 35 _::.y 36 _::.y 37 _::.y 38 _::.y 39 _::.y 40 _::.y 41 _::.y 42 _::.y 43 _::.y 44 _::.y 45 _::.y 46 _::.y 47 _::.y 48 _::.y 49 _::.y 3 _::[])) (ks:=[(35,3),(36,49),(36,14)]) (kk:=[(35,3),(36,49)]) (env':=(V3 0 3 4)) (⟨nU O,O,⟨aU<|zM O O,mU 0 O O,mU 4 O O,aU<|QP 4 O O bU O,aU<|zI ((4*t)) O O O bU O,aU<|zL O O (mG p) O O O O O,aU<|zW O O O,aU fun _ _ H K=>R.bin (eU K 20 O) (kW (.int .u64 24) (.u64 24) O) O bV H,mU 0 O O,mU 4 O O,aU<|QP 4 O O bU O,aU<|Q6 1 O O bU O,aU<|zI (((4*t)+1)) O O O bU O,aU<|zL O O (mG p) O O O O O,aU<|zW O O O,aU fun _ _ H K=>R.bin (eU K 28 O) (kW (.int .u64 16) (.u64 16) O) O bV H,aU<|zB O O O O,mU 0 O O,mU 4 O O,aU<|QP 4 O O bU O,aU<|Q6 2 O O bU O,aU<|zI (((4*t)+2)) O O O bU O,aU<|zL O O (mG p) O O O O O,aU<|zW O O O,aU fun _ _ H K=>R.bin (eU K 37 O) (kW (.int .u64 8) (.u64 8) O) O bV H,aU<|zB O O O O,mU 0 O O,mU 4 O O,aU<|QP 4 O O bU O,aU<|Q6 3 O O bU O,aU<|zI (((4*t)+3)) O O O bU O,aU<|zL O O (mG p) O O O O O,aU<|zW O O O,aU<|zB O O O O,aU fun _ _ H K=>w8 (z:=1) (.cons (eU K 47 O) .nil) ⟨⟨O,O,O⟩,Zt⟩ O H dU,aU<|QH O O O (g6 O) (KK) bU O,aU<|zO O O O,Zt⟩,O,O,O⟩) O (bx':=[]) O (n':=99) O (tV (V3 0 3 4) [] 99 O O O ?_);refine z8 3 (y3 12 13 4) (V3 0 3 4) ⟨mU 4 O O,aU<|Q6 1 O O bU O,aU<|zA O O O,Zt⟩ ?_;exact⟨⟨(t+1),bU⟩,(by simp only[wR];rw[if_pos hc11];rfl),(by simp only[];omega)⟩
 ·obtain rfl:t=16:=by omega
  refine W.exit (W.seq (q9 1 (y1 5) (V2 3 5) ⟨aU<|zK (kI 16 O) O O,Zt⟩ ?_));refine W.block ?_;refine W.loop (α:={q__:Nat//16<=q__/\q__<=64}) (fun q__=>⟨99,[(3,.sl (some 27) 1 ((wR p q__.1).map D.u32)),(5,.int ((q__.1:Nat):Int))],[]⟩) (fun q__=>64-q__.1) ⟨(16),bU⟩ O ?_;rintro ⟨t,⟨ht16,htl⟩⟩;show W _ _ _ _ ⟨99,[(3,.sl (some 27) 1 ((wR p t).map D.u32)),(5,.int ((t:Nat):Int))],[]⟩;have hwl:=MQ p t;refine W.seq (q9 2 (y2 50 51) (V3 3 5 51) ⟨mU 5 O O,aU<|KO 64 O O O,Zt⟩ ?_);refine z6 O (fun hc51=>?_) (fun hc51=>?_)
  ·refine W.skip (W.seq (W.block (q9 6 (y6 54 55 56 57 58 6) (V3 3 5 6) ⟨aU<|zM O O,mU 5 O O,aU<|OD 15 O O bU bU O,aU<|CD ((t-15)) O O O O bU O,aU<|KH O O O (mG (wR p t)) O O O O O,aU<|zA O O O,Zt⟩ ?_)));refine q9 6 (y6 59 60 61 62 63 7) (V4 3 5 6 7) ⟨aU<|zM O O,mU 5 O O,aU<|OD 2 O O bU bU O,aU<|CD ((t-2)) O O O O bU O,aU<|KH O O O (mG (wR p t)) O O O O O,aU<|zA O O O,Zt⟩ ?_;refine q9 9 (y9 64 65 66 67 68 69 70 71 8) (V4 3 5 7 8) ⟨mU 6 O O,aU<|ZB hC (Y6 _ _) O O O (kW (.int .u64 7) (.u64 7) O) O O (F1 (.u32 _)) O,mU 6 O O,aU<|ZB hC (Y6 _ _) O O O (kW (.int .u64 18) (.u64 18) O) O O (F1 (.u32 _)) O,aU<|zB O O O O,mU 6 O O,aU fun _ _ H K=>R.bin (eU K 69 O) (kW (.int .u64 3) (.u64 3) O) O bV H,aU<|zB O O O O,aU<|zA O O O,Zt⟩ ?_;refine q9 9 (y9 72 73 74 75 76 77 78 79 9) (V4 3 5 8 9) ⟨mU 7 O O,aU<|ZB hC (Y6 _ _) O O O (kW (.int .u64 17) (.u64 17) O) O O (F1 (.u32 _)) O,mU 7 O O,aU<|ZB hC (Y6 _ _) O O O (kW (.int .u64 19) (.u64 19) O) O O (F1 (.u32 _)) O,aU<|zB O O O O,mU 7 O O,aU fun _ _ H K=>R.bin (eU K 77 O) (kW (.int .u64 10) (.u64 10) O) O bV H,aU<|zB O O O O,aU<|zA O O O,Zt⟩ ?_;refine W.dr (m:=19) (an:=[0,0,0,0,8,28,60,126,0,510,0,0,2048,7168,15360,32766,65534,131071,262143]) hP dU O (its:=[.y 80 _,.y 81 _,.y 82 _,.y 83 _,.y 84 _,.y 85 _,.y 86 _,.y 87 _,.y 88 _,.y 89 _,.y 90 _,.y 91 _,.y 92 _,.y 93 _,.y 94 _,.y 95 _,.y 96 _,.y 97 _,.y 3 _]) (ks:=[(17,3),(18,97),(18,80),(18,82),(18,90)]) (kk:=[(17,3),(18,97)]) (env':=(V2 3 5)) (⟨nU O,O,⟨aU<|zM O O,mU 9 O O,aU<|zM O O,mU 5 O O,aU<|OD 7 O O bU bU O,aU<|CD ((t-7)) O O O O bU O,aU<|KH O O O (mG (wR p t)) O O O O O,aU<|zB O O O O,mU 8 O O,aU<|zB O O O O,aU<|zM O O,mU 5 O O,aU<|OD 16 O O bU bU O,aU<|CD ((t-16)) O O O O bU O,aU<|KH O O O (mG (wR p t)) O O O O O,aU<|zB O O O O,aU fun _ _ H K=>w8 (z:=1) (.cons (eU K 95 O) .nil) ⟨⟨O,O,O⟩,Zt⟩ O H dU,aU<|QH O O O (g6 O) (KK) bU O,aU<|zO O O O,Zt⟩,O,O,O⟩) O (bx':=[]) O (n':=99) O (tV (V2 3 5) [] 99 O O O ?_);refine z8 3 (y3 52 53 5) (V2 3 5) ⟨mU 5 O O,aU<|Q6 1 O O bU O,aU<|zA O O O,Zt⟩ ?_;exact⟨⟨(t+1),bU⟩,(by simp only[wR];rw[if_neg (by omega)];rfl),(by simp only[];omega)⟩
  ·obtain rfl:t=64:=by omega
   refine W.exit (z5 2 (y2 98 2) [(0,3),(1,98)] [(0,3),(1,98)] (V1 2) ⟨aU fun _ _ H K=>T5 (K 3 _ O) O H dU,aU<|zO O O O,Zt⟩ O O (tU O ?_));refine W.ret ?_;exact q8 (.inr O) O (O) O O Zt
theorem k60(b:List UInt8)(hb0:b.length<=1000000000):Fn Tryz.prog gl 119 [.sl none 1 (b.map D.u8)] (.sl (some 5) 1 ((w5 b).map D.u8)):=by
 refine Fn.of (n:=37) Tryz.func119 rfl rfl rfl (nU rfl) fun C hC hD=>?_;refine q9 1 (y1 2) (V1 0) ⟨aU<|zK (kN O) O O,Zt⟩ ?_;refine z5 4 (y4 6 7 8 3) [(2,6),(3,8)] [(2,6),(3,8)] (V2 0 3) ⟨aU fun _ _ H _=>w8 .nil Zt O H dU,mU 0 O O,aU fun _ _ H K=>J8 (Or.inl O) (K 6 _ O) (SrcO.sc (SC.sl (K 7 _ O)) (c6 (fun _=>rfl))) (List.nil_append _) bU H dU dU,aU<|zO O O O,Zt⟩ O O (tU O ?_);refine z5 4 (y4 9 10 11 3) [(2,3),(3,11),(3,9)] [(2,3),(3,11)] (V2 0 3) ⟨aU<|zM O O,aU fun _ _ H _=>w8 (z:=1) (.cons (kW (.int .u8 128) (.u8 128) O) .nil) ⟨⟨O,O,O⟩,Zt⟩ O H dU,aU<|QH O O O (g6 O) (KK) bU O,aU<|zO O O O,Zt⟩ O O (tU O ?_);refine W.seq (W.block ?_);refine W.loop (α:={q__:Nat//q__<=zR b}) (fun q__=>⟨37,[(0,.sl none 1 (b.map D.u8)),(3,.sl (some 5) 1 ((b++[128]++List.replicate q__.1 0).map D.u8))],[]⟩) (fun q__=>zR b-q__.1) ⟨(0),bU⟩ (by simp) ?_;rintro ⟨z,hz⟩;show W _ _ _ _ ⟨37,[(0,.sl none 1 (b.map D.u8)),(3,.sl (some 5) 1 ((b++[128]++List.replicate z 0).map D.u8))],[]⟩
 have hz0:zR b<=63:=by unfold zR;omega
 refine W.seq (q9 4 (y4 12 13 14 15) (V3 0 3 15) ⟨aU<|zM O O,aU<|x83 O O (lN _) O,aU fun _ _ H K=>E3 ((b++[128]++List.replicate z 0).length) (64) (eU K 13 O) (kI 64 O) (by(first|decide|omega)) H,aU<|q47 56 O O O,Zt⟩ ?_);refine z6 O (fun hc15=>?_) (fun hc15=>?_)
 ·refine W.skip (W.block ?_);refine u4 4 (y4 16 17 18 3) [(2,3),(3,18),(3,16)] [(2,3),(3,18)] (V2 0 3) ⟨aU<|zM O O,aU fun _ _ H _=>w8 (z:=1) (.cons (kW (.int .u8 0) (.u8 0) O) .nil) ⟨⟨O,O,O⟩,Zt⟩ O H dU,aU<|QH O O O (g6 O) (KK) bU O,aU<|zO O O O,Zt⟩ O O (tU O ?_);exact⟨⟨(z+1),(by simp only[List.length_append,List.length_replicate,List.length_singleton] at hc15;unfold zR at *;omega)⟩,(by rw[List.replicate_succ',<- List.append_assoc]),(by simp only[List.length_append,List.length_replicate,List.length_singleton] at hc15;unfold zR at *;simp only[];omega)⟩
 ·obtain rfl:z=zR b:=by simp only[List.length_append,List.length_replicate,List.length_singleton,ne_eq,Classical.not_not] at hc15;unfold zR at *;omega
  refine W.exit (q9 5 (y5 19 20 21 22 4) (V2 3 4) ⟨mU 0 O O,aU<|zN O (lN _) O,aU<|zW O O O,aU<|B6 O (kW (.int .u64 8) (.u64 8) O) O O,aU<|zA O O O,Zt⟩ ?_);refine W.seq (q9 1 (y1 5) (V3 3 4 5) ⟨aU<|zK (kI 7 O) O O,Zt⟩ ?_);refine W.block ?_;refine W.loop (α:={q__:Nat//q__<=8}) (fun q__=>⟨37,[(3,.sl (some 5) 1 ((b++[128]++List.replicate (zR b) 0++QK (YM b) q__.1).map D.u8)),(4,.u64 (YM b)),(5,.int (7-((q__.1:Nat):Int)))],[]⟩) (fun q__=>8-q__.1) ⟨(0),bU⟩ (by simp[QK];rfl) ?_;rintro ⟨j,hj⟩;show W _ _ _ _ ⟨37,[(3,.sl (some 5) 1 ((b++[128]++List.replicate (zR b) 0++QK (YM b) j).map D.u8)),(4,.u64 (YM b)),(5,.int (7-((j:Nat):Int)))],[]⟩;have htl:=UJ (YM b) j
  have hz1:zR b<=63:=by unfold zR;omega
  refine W.seq (q9 2 (y2 23 24) (V4 3 4 5 24) ⟨mU 5 O O,aU<|B6 O (kI 0 O) O O,Zt⟩ ?_);refine W.cond O (fun hc24=>?_) (fun hc24=>?_)
  ·refine W.skip (W.seq (W.block ?_));refine u4 10 (VS 27 28 29 30 31 32 33 34 35 3) [(8,3),(9,35),(9,27)] [(8,3),(9,35)] (V3 3 4 5) ⟨aU<|zM O O,mU 4 O O,mU 5 O O,aU fun _ _ H K=>R.bin (kI 8 O) (eU K 29 O) O Zt H,aU<|zW O O O,aU fun _ _ H K=>R.bin (eU K 28 O) (eU K 31 O) O bV H,aU<|zW O O O,aU fun _ _ H K=>w8 (z:=1) (.cons (eU K 33 O) .nil) ⟨⟨O,O,O⟩,Zt⟩ O H dU,aU<|QH O O O (g6 O) (KK) bU O,aU<|zO O O O,Zt⟩ O O (tU O ?_);refine z8 3 (y3 25 26 5) (V3 3 4 5) ⟨mU 5 O O,aU fun _ _ H K=>c8 (d:=.int (7-((j+1:Nat):Int))) (eU K 25 O) (kI 1 O) O Zt (C9 bO bO bO) H,aU<|zA O O O,Zt⟩ ?_;exact⟨⟨(j+1),(by have:=of_decide_eq_true hc24;omega)⟩,(by simp only[QK,<- List.append_assoc];rfl),(by have:=of_decide_eq_true hc24;simp only[];omega)⟩
  ·obtain rfl:j=8:=by have:=of_decide_eq_false hc24;omega
   refine W.exit (z5 2 (y2 36 2) [(0,3),(1,36)] [(0,3),(1,36)] (V1 2) ⟨aU fun _ _ H K=>T5 (K 3 _ O) O H dU,aU<|zO O O O,Zt⟩ O O (tU O ?_));refine W.ret ?_;exact q8 (.inr O) O (O) O O Zt
theorem MN(b:List UInt8)(hb0:b.length<=1000000000):Fn Tryz.prog gl 63 [.sl none 1 (b.map D.u8)] (z7 (MD b)):=by
 refine Fn.of (n:=171) Tryz.func63 rfl rfl rfl (nU rfl) fun C hC hD=>?_;refine z5 1 [] [] [] (V1 0) Zt O O (Q7 O O (tV (V2 0 2) (p6 2) 171 O O O ?_));refine z5 2 (y2 19 3) [(1,19)] [(1,19)] (V3 0 2 3) ⟨aU fun _ _ H _=>w8 (z:=1) (.cons (kW (.int .u32 1779033703) (.u32 1779033703) O) (.cons (kW (.int .u32 3144134277) (.u32 3144134277) O) (.cons (kW (.int .u32 1013904242) (.u32 1013904242) O) (.cons (kW (.int .u32 2773480762) (.u32 2773480762) O) (.cons (kW (.int .u32 1359893119) (.u32 1359893119) O) (.cons (kW (.int .u32 2600822924) (.u32 2600822924) O) (.cons (kW (.int .u32 528734635) (.u32 528734635) O) (.cons (kW (.int .u32 1541459225) (.u32 1541459225) O) .nil)))))))) ⟨⟨O,O,O⟩,⟨O,O,O⟩,⟨O,O,O⟩,⟨O,O,O⟩,⟨O,O,O⟩,⟨O,O,O⟩,⟨O,O,O⟩,⟨O,O,O⟩,Zt⟩ O H dU,aU<|zO O O O,Zt⟩ O O (tU O ?_);refine z5 3 (y3 20 21 4) [(2,21)] [(2,21)] (V3 2 3 4) ⟨mU 0 O O,aU<|zC hC (k60 b hb0) O O O (F1 (.sl _ _ _ (j6 fun _=>.u8 _))) O,aU<|zO O O O,Zt⟩ O O (tU O ?_);refine z5 2 (y2 22 5) [(1,22)] [(1,22)] (V4 2 3 4 5) ⟨aU fun _ _ H _=>w6 hC (w82) Bn (F1 (.sl _ _ _ (j6 fun _=>.u32 _))) H,aU<|zO O O O,Zt⟩ O O (tU O ?_);refine W.seq (q9 1 (y1 6) (V5 2 3 4 5 6) ⟨aU<|zK (kI 0 O) O O,Zt⟩ ?_);refine W.block ?_;refine W.loop (α:={q__:Nat//q__<=pieces b}) (fun q__=>⟨171,[(2,.ptr 2 0 []),(3,.sl (some 27) 1 ((hR (w5 b) q__.1).map D.u32)),(4,.sl (some 5) 1 ((w5 b).map D.u8)),(5,.sl (some 27) 1 (kTab.map D.u32)),(6,.int ((64*q__.1:Nat):Int))],[(2,.var (z7 (List.replicate 32 0)))]⟩) (fun q__=>pieces b-q__.1) ⟨(0),bU⟩ O ?_;rintro ⟨m,hm⟩;show W _ _ _ _ ⟨171,[(2,.ptr 2 0 []),(3,.sl (some 27) 1 ((hR (w5 b) m).map D.u32)),(4,.sl (some 5) 1 ((w5 b).map D.u8)),(5,.sl (some 27) 1 (kTab.map D.u32)),(6,.int ((64*m:Nat):Int))],[(2,.var (z7 (List.replicate 32 0)))]⟩;have htp:=JA b;have htl:=BY b
 have hz1:zR b<=63:=by unfold zR;omega
 have hhl:=z84 (w5 b) m;refine W.seq (q9 4 (y4 23 24 25 26) (V6 2 3 4 5 6 26) ⟨mU 6 O O,aU<|zM O O,aU<|x83 O O (lN _) O,aU<|zS O O O,Zt⟩ ?_);refine z6 O (fun hc26=>?_) (fun hc26=>?_)
 ·refine W.skip (W.seq (W.block (z5 7 (y7 29 30 31 32 33 34 7) [(6,34)] [(6,34)] (V6 2 3 4 5 6 7) ⟨aU<|zM O O,mU 6 O O,mU 6 O O,aU<|Q6 64 O O bU O,aU fun _ _ H K=>x77 (64*m) ((64*m+64)) (64) (SC.al (K 29 _ O) (K 4 _ O)) (b4 (eU K 30 O)) (b4 (eU K 32 O)) O O bU bU bU H dU,aU fun _ _ H K=>w6 hC (q52 (((w5 b).drop (64*m)).take 64) (by simp only[List.length_take,List.length_drop];omega)) (Bc (Bor.sc (SC.vw (K 33 _ O) (SC.al (K 29 _ O) (K 4 _ O)) (by simp only[List.length_map];omega)) (FQ (fun _=>rfl))) Bn) (F1 (.sl _ _ _ (j6 fun _=>.u32 _))) H,aU<|zO O O O,Zt⟩ O O (tU O ?_))));refine z5 4 (y4 35 36 37 8) [(2,35),(3,37)] [(2,35),(3,37)] (V7 2 3 4 5 6 7 8) ⟨aU fun _ _ H _=>w8 .nil Zt O H dU,aU<|zM O O,aU fun _ _ H K=>J8 (Or.inl O) (K 35 _ O) (SrcO.sc (SC.al (K 36 _ O) (K 3 _ O)) (c6 (fun _=>rfl))) (List.nil_append _) bU H dU dU,aU<|zO O O O,Zt⟩ O O (tU O ?_);refine W.seq (q9 1 (y1 9) (V8 2 3 4 5 6 7 8 9) ⟨aU<|zK (kI 0 O) O O,Zt⟩ ?_);refine W.block ?_;refine W.loop (α:={q__:Nat//q__<=64}) (fun q__=>⟨171,[(2,.ptr 2 0 []),(3,.sl (some 27) 1 ((hR (w5 b) m).map D.u32)),(4,.sl (some 5) 1 ((w5 b).map D.u8)),(5,.sl (some 27) 1 (kTab.map D.u32)),(6,.int ((64*m:Nat):Int)),(7,.sl (some 27) 1 ((wR (((w5 b).drop (64*m)).take 64) 64).map D.u32)),(8,.sl (some 27) 1 ((B9 (hR (w5 b) m) (wR (((w5 b).drop (64*m)).take 64) 64) q__.1).map D.u32)),(9,.int ((q__.1:Nat):Int))],[(2,.var (z7 (List.replicate 32 0)))]⟩) (fun q__=>64-q__.1) ⟨(0),bU⟩ O ?_;rintro ⟨t,ht⟩;show W _ _ _ _ ⟨171,[(2,.ptr 2 0 []),(3,.sl (some 27) 1 ((hR (w5 b) m).map D.u32)),(4,.sl (some 5) 1 ((w5 b).map D.u8)),(5,.sl (some 27) 1 (kTab.map D.u32)),(6,.int ((64*m:Nat):Int)),(7,.sl (some 27) 1 ((wR (((w5 b).drop (64*m)).take 64) 64).map D.u32)),(8,.sl (some 27) 1 ((B9 (hR (w5 b) m) (wR (((w5 b).drop (64*m)).take 64) 64) t).map D.u32)),(9,.int ((t:Nat):Int))],[(2,.var (z7 (List.replicate 32 0)))]⟩;have hwl:=MQ (((w5 b).drop (64*m)).take 64) 64;have hkl:kTab.length=64:=rfl;have hrl:=z04 (hR (w5 b) m) (wR (((w5 b).drop (64*m)).take 64) 64) t hhl;refine W.seq (q9 2 (y2 38 39) (V9 2 3 4 5 6 7 8 9 39) ⟨mU 9 O O,aU<|KO 64 O O O,Zt⟩ ?_);refine z6 O (fun hc39=>?_) (fun hc39=>?_)
  ·refine W.skip (W.seq (W.block (q9 4 (y4 42 43 44 10) (V9 2 3 4 5 6 7 8 9 10) ⟨aU<|zM O O,aU fun _ _ H K=>R.idxN (0) (SC.al (K 42 _ O) (K 8 _ O)) (b4 (kI 0 O)) O bU H dU,aU<|KH O O O (j5 (l:=(B9 (hR (w5 b) m) (wR (((w5 b).drop (64*m)).take 64) 64) t)) bU) O O O O O,aU<|zA O O O,Zt⟩ ?_)));refine q9 4 (y4 45 46 47 11) (j81 2 3 4 5 6 7 8 9 10 11) ⟨aU<|zM O O,aU fun _ _ H K=>R.idxN (4) (SC.al (K 45 _ O) (K 8 _ O)) (b4 (kI 4 O)) O bU H dU,aU<|KH O O O (j5 (l:=(B9 (hR (w5 b) m) (wR (((w5 b).drop (64*m)).take 64) 64) t)) bU) O O O O O,aU<|zA O O O,Zt⟩ ?_;refine q9 9 (y9 48 49 50 51 52 53 54 55 12) (j80 2 3 4 5 6 7 8 9 10 11 12) ⟨mU 11 O O,aU<|ZB hC (Y6 _ _) O O O (kW (.int .u64 6) (.u64 6) O) O O (F1 (.u32 _)) O,mU 11 O O,aU<|ZB hC (Y6 _ _) O O O (kW (.int .u64 11) (.u64 11) O) O O (F1 (.u32 _)) O,aU<|zB O O O O,mU 11 O O,aU<|ZB hC (Y6 _ _) O O O (kW (.int .u64 25) (.u64 25) O) O O (F1 (.u32 _)) O,aU<|zB O O O O,aU<|zA O O O,Zt⟩ ?_;refine W.seq ?_;refine W.dr (m:=29) (an:=(0::1::3::0::15::0::0::64::192::480::0::1024::0::4096::12288::31744::65504::131071::0::0::786432::1835008::4194303::0::0::25165824::58720256::134217727::268435455::[])) hP dU O (its:=(.y 56 _::.y 57 _::.y 58 _::.y 59 _::.y 60 _::.y 61 _::.y 62 _::.y 63 _::.y 64 _::.y 65 _::.y 66 _::.y 67 _::.y 68 _::.y 69 _::.y 70 _::.y 71 _::.y 72 _::.y 73 _::.y 74 _::.y 75 _::.y 76 _::.y 77 _::.y 78 _::.y 79 _::.y 80 _::.y 81 _::.y 82 _::.y 83 _::.y 13 _::[])) (ks:=[]) (kk:=[]) (env':=(j80 2 3 4 5 6 7 8 9 10 11 13)) (⟨nU O,O,⟨aU<|zM O O,aU fun _ _ H K=>R.idxN (7) (SC.al (K 56 _ O) (K 8 _ O)) (b4 (kI 7 O)) O bU H dU,aU<|KH O O O (j5 (l:=(B9 (hR (w5 b) m) (wR (((w5 b).drop (64*m)).take 64) 64) t)) bU) O O O O O,mU 12 O O,aU<|zB O O O O,mU 11 O O,aU<|zM O O,aU fun _ _ H K=>R.idxN (5) (SC.al (K 62 _ O) (K 8 _ O)) (b4 (kI 5 O)) O bU H dU,aU<|KH O O O (j5 (l:=(B9 (hR (w5 b) m) (wR (((w5 b).drop (64*m)).take 64) 64) t)) bU) O O O O O,aU<|zB O O O O,mU 11 O O,aU<|UQ O O O,aU<|zM O O,aU fun _ _ H K=>R.idxN (6) (SC.al (K 68 _ O) (K 8 _ O)) (b4 (kI 6 O)) O bU H dU,aU<|KH O O O (j5 (l:=(B9 (hR (w5 b) m) (wR (((w5 b).drop (64*m)).take 64) 64) t)) bU) O O O O O,aU<|zB O O O O,aU<|zB O O O O,aU<|zB O O O O,aU<|zM O O,mU 9 O O,aU<|CD t O O O O bU O,aU<|KH O O O (mG kTab) O O O O O,aU<|zB O O O O,aU<|zM O O,mU 9 O O,aU<|CD t O O O O bU O,aU<|KH O O O (j5 (l:=(wR (((w5 b).drop (64*m)).take 64) 64)) bU) O O O O O,aU<|zB O O O O,aU<|zA O O O,Zt⟩,O,O,O⟩) O (bx':=(p6 2)) O (n':=171) O (tV (j80 2 3 4 5 6 7 8 9 10 11 13) (p6 2) 171 O O O ?_);refine q9 9 (y9 84 85 86 87 88 89 90 91 14) (w89 2 3 4 5 6 7 8 9 10 11 13 14) ⟨mU 10 O O,aU<|ZB hC (Y6 _ _) O O O (kW (.int .u64 2) (.u64 2) O) O O (F1 (.u32 _)) O,mU 10 O O,aU<|ZB hC (Y6 _ _) O O O (kW (.int .u64 13) (.u64 13) O) O O (F1 (.u32 _)) O,aU<|zB O O O O,mU 10 O O,aU<|ZB hC (Y6 _ _) O O O (kW (.int .u64 22) (.u64 22) O) O O (F1 (.u32 _)) O,aU<|zB O O O O,aU<|zA O O O,Zt⟩ ?_;refine W.seq ?_;refine W.dr (m:=22) (an:=[0,0,0,4,12,30,0,0,128,384,960,2046,0,4096,12288,0,32768,98304,258048,524286,1048575,2097151]) hP dU O (its:=[.y 92 _,.y 93 _,.y 94 _,.y 95 _,.y 96 _,.y 97 _,.y 98 _,.y 99 _,.y 100 _,.y 101 _,.y 102 _,.y 103 _,.y 104 _,.y 105 _,.y 106 _,.y 107 _,.y 108 _,.y 109 _,.y 110 _,.y 111 _,.y 112 _,.y 15 _]) (ks:=[]) (kk:=[]) (env':=(w89 2 3 4 5 6 7 8 9 10 11 13 15)) (⟨nU O,O,⟨mU 14 O O,mU 10 O O,aU<|zM O O,aU fun _ _ H K=>R.idxN (1) (SC.al (K 94 _ O) (K 8 _ O)) (b4 (kI 1 O)) O bU H dU,aU<|KH O O O (j5 (l:=(B9 (hR (w5 b) m) (wR (((w5 b).drop (64*m)).take 64) 64) t)) bU) O O O O O,aU<|zB O O O O,mU 10 O O,aU<|zM O O,aU fun _ _ H K=>R.idxN (2) (SC.al (K 99 _ O) (K 8 _ O)) (b4 (kI 2 O)) O bU H dU,aU<|KH O O O (j5 (l:=(B9 (hR (w5 b) m) (wR (((w5 b).drop (64*m)).take 64) 64) t)) bU) O O O O O,aU<|zB O O O O,aU<|zB O O O O,aU<|zM O O,aU fun _ _ H K=>R.idxN (1) (SC.al (K 104 _ O) (K 8 _ O)) (b4 (kI 1 O)) O bU H dU,aU<|KH O O O (j5 (l:=(B9 (hR (w5 b) m) (wR (((w5 b).drop (64*m)).take 64) 64) t)) bU) O O O O O,aU<|zM O O,aU fun _ _ H K=>R.idxN (2) (SC.al (K 107 _ O) (K 8 _ O)) (b4 (kI 2 O)) O bU H dU,aU<|KH O O O (j5 (l:=(B9 (hR (w5 b) m) (wR (((w5 b).drop (64*m)).take 64) 64) t)) bU) O O O O O,aU<|zB O O O O,aU<|zB O O O O,aU<|zB O O O O,aU<|zA O O O,Zt⟩,O,O,O⟩) O (bx':=(p6 2)) O (n':=171) O (tV (w89 2 3 4 5 6 7 8 9 10 11 13 15) (p6 2) 171 O O O ?_);refine W.dr (m:=24) (an:=[0,0,3,0,0,16,48,0,128,384,0,1024,3072,0,15360,0,0,65536,196608,0,524288,1572864,4194303,8388607]) hP dU O (its:=[.y 113 _,.y 114 _,.y 115 _,.y 116 _,.y 117 _,.y 118 _,.y 119 _,.y 120 _,.y 121 _,.y 122 _,.y 123 _,.y 124 _,.y 125 _,.y 126 _,.y 127 _,.y 128 _,.y 129 _,.y 130 _,.y 131 _,.y 132 _,.y 133 _,.y 134 _,.y 135 _,.y 8 _]) (ks:=[(23,135),(23,117),(23,120),(23,123),(23,129),(23,132)]) (kk:=[(23,135)]) (env':=(V8 2 3 4 5 6 7 8 9)) (⟨nU O,O,⟨mU 13 O O,mU 15 O O,aU<|zB O O O O,mU 10 O O,aU<|zM O O,aU fun _ _ H K=>R.idxN (1) (SC.al (K 117 _ O) (K 8 _ O)) (b4 (kI 1 O)) O bU H dU,aU<|KH O O O (j5 (l:=(B9 (hR (w5 b) m) (wR (((w5 b).drop (64*m)).take 64) 64) t)) bU) O O O O O,aU<|zM O O,aU fun _ _ H K=>R.idxN (2) (SC.al (K 120 _ O) (K 8 _ O)) (b4 (kI 2 O)) O bU H dU,aU<|KH O O O (j5 (l:=(B9 (hR (w5 b) m) (wR (((w5 b).drop (64*m)).take 64) 64) t)) bU) O O O O O,aU<|zM O O,aU fun _ _ H K=>R.idxN (3) (SC.al (K 123 _ O) (K 8 _ O)) (b4 (kI 3 O)) O bU H dU,aU<|KH O O O (j5 (l:=(B9 (hR (w5 b) m) (wR (((w5 b).drop (64*m)).take 64) 64) t)) bU) O O O O O,mU 13 O O,aU<|zB O O O O,mU 11 O O,aU<|zM O O,aU fun _ _ H K=>R.idxN (5) (SC.al (K 129 _ O) (K 8 _ O)) (b4 (kI 5 O)) O bU H dU,aU<|KH O O O (j5 (l:=(B9 (hR (w5 b) m) (wR (((w5 b).drop (64*m)).take 64) 64) t)) bU) O O O O O,aU<|zM O O,aU fun _ _ H K=>R.idxN (6) (SC.al (K 132 _ O) (K 8 _ O)) (b4 (kI 6 O)) O bU H dU,aU<|KH O O O (j5 (l:=(B9 (hR (w5 b) m) (wR (((w5 b).drop (64*m)).take 64) 64) t)) bU) O O O O O,aU fun _ _ H K=>w8 (z:=1) (.cons (eU K 115 O) (.cons (eU K 116 O) (.cons (eU K 119 O) (.cons (eU K 122 O) (.cons (eU K 127 O) (.cons (eU K 128 O) (.cons (eU K 131 O) (.cons (eU K 134 O) .nil)))))))) ⟨⟨O,O,O⟩,⟨⟨O,O,O⟩,⟨⟨O,O,O⟩,⟨⟨O,O,O⟩,⟨⟨O,O,O⟩,⟨⟨O,O,O⟩,⟨⟨O,O,O⟩,⟨⟨O,O,O⟩,Zt⟩⟩⟩⟩⟩⟩⟩⟩ O H dU,aU<|zO O O O,Zt⟩,O,O,O⟩) O (bx':=(p6 2)) O (n':=171) O (tV (V8 2 3 4 5 6 7 8 9) (p6 2) 171 O O O ?_);refine z8 3 (y3 40 41 9) (V8 2 3 4 5 6 7 8 9) ⟨mU 9 O O,aU<|Q6 1 O O bU O,aU<|zA O O O,Zt⟩ ?_;exact⟨⟨(t+1),bU⟩,rfl,(by simp only[];omega)⟩
  ·obtain rfl:t=64:=by omega
   refine W.exit (q9 1 (y1 16) (V7 2 3 4 5 6 8 16) ⟨aU<|zK (kI 0 O) O O,Zt⟩ ?_);refine W.block ?_;refine W.loop (α:={q__:Nat//q__<=8}) (fun q__=>⟨171,[(2,.ptr 2 0 []),(3,.sl (some 27) 1 ((JH (hR (w5 b) m) (B9 (hR (w5 b) m) (wR (((w5 b).drop (64*m)).take 64) 64) 64) q__.1).map D.u32)),(4,.sl (some 5) 1 ((w5 b).map D.u8)),(5,.sl (some 27) 1 (kTab.map D.u32)),(6,.int ((64*m:Nat):Int)),(8,.sl (some 27) 1 ((B9 (hR (w5 b) m) (wR (((w5 b).drop (64*m)).take 64) 64) 64).map D.u32)),(16,.int ((q__.1:Nat):Int))],[(2,.var (z7 (List.replicate 32 0)))]⟩) (fun q__=>8-q__.1) ⟨(0),bU⟩ O ?_;rintro ⟨i,hi⟩;show W _ _ _ _ ⟨171,[(2,.ptr 2 0 []),(3,.sl (some 27) 1 ((JH (hR (w5 b) m) (B9 (hR (w5 b) m) (wR (((w5 b).drop (64*m)).take 64) 64) 64) i).map D.u32)),(4,.sl (some 5) 1 ((w5 b).map D.u8)),(5,.sl (some 27) 1 (kTab.map D.u32)),(6,.int ((64*m:Nat):Int)),(8,.sl (some 27) 1 ((B9 (hR (w5 b) m) (wR (((w5 b).drop (64*m)).take 64) 64) 64).map D.u32)),(16,.int ((i:Nat):Int))],[(2,.var (z7 (List.replicate 32 0)))]⟩;have hal:=XR (hR (w5 b) m) (B9 (hR (w5 b) m) (wR (((w5 b).drop (64*m)).take 64) 64) 64) i;refine W.seq (q9 2 (y2 136 137) (V8 2 3 4 5 6 8 16 137) ⟨mU 16 O O,aU<|KO 8 O O O,Zt⟩ ?_);refine z6 O (fun hc137=>?_) (fun hc137=>?_)
   ·refine W.skip (W.seq (W.block ?_));refine W.dr (m:=12) (an:=[0,0,0,0,12,28,0,0,192,448,1020,2047,4095]) hP dU O (its:=[.y 140 _,.y 141 _,.y 142 _,.y 143 _,.y 144 _,.y 145 _,.y 146 _,.y 147 _,.y 148 _,.y 149 _,.y 150 _,.y 151 _]) (ks:=[]) (kk:=[]) (env':=(j81 2 3 4 5 6 8 16 140 150 151)) (⟨nU O,O,⟨aU<|zM O O,mU 16 O O,aU<|zM O O,mU 16 O O,aU<|CD i O O O O bU O,aU<|KH O O O (j5 (l:=(JH (hR (w5 b) m) (B9 (hR (w5 b) m) (wR (((w5 b).drop (64*m)).take 64) 64) 64) i)) bU) O O O O O,aU<|zM O O,mU 16 O O,aU<|CD i O O O O bU O,aU<|KH O O O (j5 (l:=(B9 (hR (w5 b) m) (wR (((w5 b).drop (64*m)).take 64) 64) 64)) bU) O O O O O,aU<|zB O O O O,aU<|CD i O O O O bU O,Zt⟩,O,O,O⟩) O (bx':=(p6 2)) O (n':=171) O (⟨O,_,JB (gU 151 O) (Or.inr (gU 140 O)) (gU 3 O) (j5 (l:=(JH (hR (w5 b) m) (B9 (hR (w5 b) m) (wR (((w5 b).drop (64*m)).take 64) 64) 64) i)) bU) O (gV 150 O) (by rfl) (by rfl) (by rfl) (by rfl) X2 X3,tV (V7 2 3 4 5 6 8 16) (p6 2) 171 O O O ?_⟩);refine z8 3 (y3 138 139 16) (V7 2 3 4 5 6 8 16) ⟨mU 16 O O,aU<|Q6 1 O O bU O,aU<|zA O O O,Zt⟩ ?_;exact⟨⟨(i+1),bU⟩,rfl,(by simp only[];omega)⟩
   ·obtain rfl:i=8:=by omega
    refine W.exit ?_;refine z8 3 (y3 27 28 6) (V5 2 3 4 5 6) ⟨mU 6 O O,aU<|Q6 64 O O bU O,aU<|zA O O O,Zt⟩ ?_;exact⟨⟨(m+1),(by omega)⟩,rfl,(by simp only[];omega)⟩
 ·obtain rfl:m=pieces b:=by omega
  refine W.exit (z5 1 [] [] [] (V2 2 3) Zt O O (Q7 O O (tV (V3 2 3 17) (p7 17 2) 171 O O O ?_)));refine W.seq (q9 1 (y1 18) (V4 2 3 17 18) ⟨aU<|zK (kI 0 O) O O,Zt⟩ ?_);refine W.block ?_;refine W.loop (α:={q__:Nat//q__<=32}) (fun q__=>⟨171,[(2,.ptr 2 0 []),(3,.sl (some 27) 1 ((hR (w5 b) (pieces b)).map D.u32)),(17,.ptr 17 0 []),(18,.int ((q__.1:Nat):Int))],[(17,.var (z7 (HL (hR (w5 b) (pieces b)) q__.1))),(2,.var (z7 (List.replicate 32 0)))]⟩) (fun q__=>32-q__.1) ⟨(0),bU⟩ O ?_;rintro ⟨i,hi⟩;show W _ _ _ _ ⟨171,[(2,.ptr 2 0 []),(3,.sl (some 27) 1 ((hR (w5 b) (pieces b)).map D.u32)),(17,.ptr 17 0 []),(18,.int ((i:Nat):Int))],[(17,.var (z7 (HL (hR (w5 b) (pieces b)) i))),(2,.var (z7 (List.replicate 32 0)))]⟩;have hol:=AO (hR (w5 b) (pieces b)) i;refine W.seq (q9 2 (y2 152 153) (V5 2 3 17 18 153) ⟨mU 18 O O,aU<|KO 32 O O O,Zt⟩ ?_);refine z6 O (fun hc153=>?_) (fun hc153=>?_)
  ·refine W.skip (W.seq (W.block ?_));refine u4 15 (w51 156 157 158 159 160 161 162 163 164 165 166 167 168 169) [] [] (V6 2 3 17 18 168 169) ⟨mU 18 O O,aU<|zM O O,mU 18 O O,aU fun _ _ H K=>C7 (i) (4) (eU K 158 O) (kI 4 O) bU bU H,aU<|CD ((i/4)) O O O O bU O,aU<|KH O O O (mG (hR (w5 b) (pieces b))) O O O O O,mU 18 O O,aU fun _ _ H K=>E3 (i) (4) (eU K 162 O) (kI 4 O) bU H,aU<|QP 8 O O bU O,aU fun _ _ H K=>JC (24) ((8*(i%4))) (kI 24 O) (eU K 164 O) bU bU H,aU<|zW O O O,aU fun _ _ H K=>R.bin (eU K 161 O) (eU K 166 O) O bV H,aU<|zW O O O,aU<|PT i O O O bU O,Zt⟩ O O (⟨O,_,Z7 (gU 169 O) (xU 17 O) (v9 (j5 (l:=(HL (hR (w5 b) (pieces b)) i)) bU) v8 bU) (gV 168 O) (by rfl) (by rfl) (by rfl) (by rfl) (E7 (j5 (l:=(HL (hR (w5 b) (pieces b)) i)) bU) X2 X3),tV (V4 2 3 17 18) (p7 17 2) 171 O O O ?_⟩);refine z8 3 (y3 154 155 18) (V4 2 3 17 18) ⟨mU 18 O O,aU<|Q6 1 O O bU O,aU<|zA O O O,Zt⟩ ?_;exact⟨⟨(i+1),bU⟩,rfl,(by simp only[];omega)⟩
  ·obtain rfl:i=32:=by omega
   refine W.exit (z5 2 (y1 170) [] [] (V2 2 170) ⟨aU (lU 17 O O O O O O O),Zt⟩ O O (d5 O O O O O (tV (V1 2) (p7 17 2) 171 O O O ?_)));refine W.ret ?_;exact q8 (.inr O) O (O) O O (iL 23 32)
theorem ZO(b:List UInt8)(hb0:b.length<=1000000000):Fn Tryz.prog gl 110 [.sl none 1 (b.map D.u8)] (z7 (D2 b)):=by
 refine Fn.of (n:=8) Tryz.func110 rfl rfl rfl (nU rfl) fun C hC hD=>?_;refine z5 1 [] [] [] (V1 0) Zt O O (Q7 O O (tV (V2 0 2) (p6 2) 8 O O O ?_));refine z5 4 (y2 4 5) [] [] (V2 2 5) ⟨mU 0 O O,aU<|zC hC (MN _ hb0) O O O (F1 (m4 _)) O,Zt⟩ O O (Q7 O O (d5 O O O O O (tV (V2 2 3) (p7 3 2) 8 O O O ?_)));refine z5 3 (y2 6 7) [] [] (V2 2 7) ⟨aU fun _ B H K=>G5 (0) (32) (32) (K 3 _ O) (B 3 _ O) O O O O O bU bU O H,aU fun _ B H K=>w6 hC (MN (MD b) (by rw[QE];decide)) (Bc (Bor.sc (SC.va (K 6 _ O) (B 3 _ O) O bU) (GL (fun _=>rfl) (QE _))) Bn) (F1 (m4 _)) H,Zt⟩ O O (d5 O O O O O (tV (V1 2) (p7 3 2) 8 O O O ?_));refine W.ret ?_;exact q8 (.inr O) O (O) O O (iL 23 32)
end Go.Sx

namespace Go.Sx
theorem WI(a b:UInt32):a|||b=b|||a:=by
 apply UInt32.toBitVec_inj.1;simp[BitVec.or_comm]
theorem GY(x:UInt32):right x 2=rright x 2/\right x 13=rright x 13/\right x 22=rright x 22/\right x 6=rright x 6/\right x 11=rright x 11/\right x 25=rright x 25 /\
 right x 7=rright x 7/\right x 18=rright x 18/\right x 17=rright x 17/\right x 19=rright x 19:=by
 refine⟨?_, ?_, ?_, ?_, ?_, ?_, ?_, ?_, ?_, ?_⟩<;>exact WI _ _
theorem w88(e f g:UInt32):g^^^(e&&&(f^^^g))=e&&&f ^^^ ~~~e&&&g:=by
 apply UInt32.toBitVec_inj.1;simp only[UInt32.toBitVec_xor,UInt32.toBitVec_and,UInt32.toBitVec_not]
 ext i hi
 simp only[BitVec.getElem_xor,BitVec.getElem_and,BitVec.getElem_not]
 cases e.toBitVec[i]<;>cases f.toBitVec[i]<;>cases g.toBitVec[i]<;>rfl
theorem w25(a b c:UInt32):a&&&b|||c&&&(a|||b)=a&&&b^^^a&&&c^^^b&&&c:=by
 apply UInt32.toBitVec_inj.1;simp only[UInt32.toBitVec_xor,UInt32.toBitVec_and,UInt32.toBitVec_or]
 ext i hi
 simp only[BitVec.getElem_xor,BitVec.getElem_and,BitVec.getElem_or]
 cases a.toBitVec[i]<;>cases b.toBitVec[i]<;>cases c.toBitVec[i]<;>rfl
theorem S4{α:Type}[Inhabited α]{l r:List α}{i:Nat}(h:i<l.length):(l++r)[i]! = l[i]!:=by
 simp[List.getElem?_append_left h]
theorem CW{α:Type}[Inhabited α]{l:List α}{i:Nat}{v:α}(h:i<l.length):(l.set i v)[i]! = v:=by simp[h]
theorem x30(w r:List UInt32)(t:Nat)(h:16<=t)(hw:w.length=t):z29 (w++r) t=z30 w t:=by
 unfold z29 z30;rw[S4 (by omega),S4 (by omega),S4 (by omega),S4 (by omega)];obtain⟨_,_,_,_,_,_,h7,h18,_,_⟩:=GY w[t-15]!;obtain⟨_,_,_,_,_,_,_,_,h17,h19⟩:=GY w[t-2]!;rw[h7,h18,h17,h19];generalize rright _ 7^^^_^^^_=a;generalize rright _ 17^^^_^^^_=b;generalize w[t-16]! = c;generalize w[t-7]! = d;apply UInt32.toBitVec_inj.1;simp only[UInt32.toBitVec_add]
 ac_rfl
theorem j99(x y:UInt32):b6 (x|||y) 8=b6 x 8|||b6 y 8:=by
 apply UInt32.toBitVec_inj.1;simp[b6,BitVec.shiftLeft_or_distrib]
theorem k72(x:UInt32):b6 (b6 x 8) 8=b6 x 16:=by
 apply UInt32.toBitVec_inj.1;simp[b6,<- BitVec.shiftLeft_add]
theorem q82(x:UInt32):b6 (b6 x 16) 8=b6 x 24:=by
 apply UInt32.toBitVec_inj.1;simp[b6,<- BitVec.shiftLeft_add]
theorem k75(p:List UInt8)(t:Nat)(ht:t<=64):sched p t=wR p t++List.replicate (64-t) 0:=by
 induction t with
 | zero=>simp[sched,wR]
 | succ t ih=>
  have ih:=ih (by omega);have hl:=MQ p t
  have hset:∀ v:UInt32,(wR p t++List.replicate (64-t) 0).set t v=wR p t++[v]++List.replicate (64-(t+1)) 0:=by
   intro v;rw[List.set_append_right _ _ (by omega),hl,Nat.sub_self,show 64-t=(64-(t+1))+1 by omega,List.replicate_succ,List.set_cons_zero];simp
  simp only[sched,wR];by_cases h:t<16
  ·rw[if_pos h,if_pos h,ih]
   have h0:(wR p t++List.replicate (64-t) 0)[t]! = 0:=by
    simp only[getElem!_def];rw[List.getElem?_append_right (by omega),hl,Nat.sub_self];simp[show 0<64-t by omega]
   have hlen:∀ l:List UInt32,l.length=64->t<l.length:=fun l hl=>by omega
   have e0:(wR p t++List.replicate (64-t) 0).length=64:=by simp[hl];omega
   have hins:q45 p t (wR p t++List.replicate (64-t) 0) 4=(wR p t++List.replicate (64-t) 0).set t (w4 p t):=by
    simp only[q45];simp only[List.set_set,CW (hlen _ e0),h0]
    congr 1
    unfold w4
    have hz:∀ y:UInt32,b6 0 8|||y=y:=fun y=>by
     apply UInt32.toBitVec_inj.1;simp[b6]
    simp only[hz,j99,k72,q82,Nat.add_zero]
   rw[hins,hset]
  ·rw[if_neg h,if_neg h,ih,x30 _ _ _ (by omega) hl,hset]
theorem q86(p:List UInt8):sched p 64=wR p 64:=by rw[k75 p 64 (Nat.le_refl _)];simp
theorem W8.list_get(v:W8):v.list[0]! = v.a/\v.list[1]! = v.b/\v.list[2]! = v.c/\v.list[3]! = v.d/\v.list[4]! = v.e/\v.list[5]! = v.f/\v.list[6]! = v.g/\v.list[7]! = v.l:=⟨rfl,rfl,rfl,rfl,rfl,rfl,rfl,rfl⟩
theorem k92(h:List UInt32)(hh:h.length=8):(W8.of h).list=h:=by
 match h,hh with
 | [a,b,c,d,e,f,g,l],_=>rfl
theorem w10(v:W8)(k w:UInt32):(rnd v k w).list=x04 v.list k w:=by
 obtain⟨e0,e1,e2,e3,e4,e5,e6,e7⟩:=W8.list_get v;unfold x04 x28 x96;simp only[e0,e1,e2,e3,e4,e5,e6,e7];obtain⟨h2,h13,h22,_⟩:=GY v.a;obtain⟨_,_,_,h6,h11,h25,_⟩:=GY v.e;simp only[rnd,W8.list,one,two,w88,w25,h2,h13,h22,h6,h11,h25]
theorem w14(h w:List UInt32)(hh:h.length=8)(t:Nat):(rds h w t).list=B9 h w t:=by
 induction t with
 | zero=>exact k92 h hh
 | succ t ih=>simp only[rds,B9,w10,ih]
theorem x66(h:List UInt32)(p:List UInt8)(hh:h.length=8):comp h p=TM h p:=by
 unfold comp TM;rw[q86,w14 _ _ hh]
theorem x27(h:List UInt32)(i:Nat)(hi:i<=32):HR h i=HL h i:=by
 induction i with
 | zero=>rfl
 | succ i ih=>
  simp only[HR,HL,ih (by omega)]
  have:(UInt64.ofInt ((24-8*(i%4):Nat):Int)).toNat=24-8*(i%4):=by
   have h:=W6 ((24-8*(i%4):Nat):Int);omega
  rw[this]
theorem q04(n:UInt64)(i:Nat)(hi:i<=8):L4 n i=QK n i++List.replicate (8-i) 0:=by
 induction i with
 | zero=>simp[L4,QK]
 | succ i ih=>
  simp only[L4,QK,ih (by omega)];have hl:=UJ n i;rw[List.set_append_right _ _ (by omega),hl,Nat.sub_self,show 8-i=(8-(i+1))+1 by omega,List.replicate_succ,List.set_cons_zero]
  have e:(UInt64.ofInt (wr (8*(7-((i:Nat):Int))))).toNat=56-8*i:=by
   have h:=W6 (wr (8*(7-((i:Nat):Int))))
   have h2:wr (8*(7-((i:Nat):Int)))=8*(7-(i:Int)):=by unfold wr;rw[IntKind.wrap_i64];omega
   rw[h2] at h;rw[h2];omega
  rw[e];simp
theorem IW(n:UInt64):L4 n 8=QK n 8:=by rw[q04 n 8 (Nat.le_refl _)];simp
theorem PU(a b:List UInt8)(q:Nat)(h:64*q<=a.length):hR (a++b) q=hR a q:=by
 induction q with
 | zero=>rfl
 | succ q ih=>
  simp only[hR,ih (by omega)];rw[List.drop_append_of_le_length (by omega),List.take_append_of_le_length (by simp;omega)]
structure Rep(s:ShaS)(b:List UInt8):Prop where
 begun:s.begun=true
 n:s.n=UInt64.ofNat b.length
 h:s.h=hR b (b.length/64)
 len:s.piece.length=64
 piece:s.piece.take (b.length%64)=b.drop (64*(b.length/64))
theorem Rep.mS{s:ShaS}{b:List UInt8}(h:Rep s b):mS s=b.length%64:=by
 unfold Go.Sx.mS;rw[h.n,UInt64.toNat_mod,UInt64.toNat_ofNat'];have:(64:UInt64).toNat=64:=rfl;rw[this];omega
theorem WC:Rep ShaS.start []:=⟨rfl,rfl,rfl,by simp[ShaS.start],by simp⟩
theorem z00{s:ShaS}{b c:List UInt8}(h:Rep s b)(hc:c.length≠0):Rep (I9 s c) (b++c.take (kS s c)):=by
 have hm:=h.mS;have hk1:=z65 s c;have hk2:=NX s c;have hk3:=JJ s c (by omega);have hmlt:=YH s;generalize hk:kS s c=k at hk1 hk2 hk3
 have hb':(b++c.take k).length=b.length+k:=by simp;omega
 have hp:i6 s c=b.drop (64*(b.length/64))++c.take k++s.piece.drop (b.length%64+k):=by
  unfold i6;rw[hk,hm,h.piece]
 have hpl:(b.drop (64*(b.length/64))).length=b.length%64:=by simp;omega
 have hn:nS s c=UInt64.ofNat (b.length+k):=by
  unfold nS;rw[hk,h.n];apply UInt64.toNat_inj.1;have h1:=W6 ((k:Nat):Int);simp only[UInt64.toNat_add,UInt64.toNat_ofNat'];omega
 have hmod:(nS s c%64==0)=decide ((b.length+k)%64=0):=by
  rw[hn,Bool.eq_iff_iff,beq_iff_eq,decide_eq_true_eq,<- UInt64.toNat_inj,UInt64.toNat_mod,UInt64.toNat_ofNat'];have h1:(64:UInt64).toNat=64:=rfl;have h2:(0:UInt64).toNat=0:=rfl;rw[h1,h2];omega
 have hlen:(i6 s c).length=64:=by
  rw[hp];simp only[List.length_append,List.length_drop,List.length_take,h.len];omega
 refine⟨h.begun,by simp only[I9,hn,hb'], ?_,hlen, ?_⟩
 ·simp only[I9,hmod,hb'];by_cases hd:(b.length+k)%64=0
  ·simp only[hd,decide_true,cond_true]
   have hq:(b.length+k)/64=b.length/64+1:=by omega
   have hmk:b.length%64+k=64:=by omega
   rw[hq];simp only[hR];rw[PU b _ _ (by omega),h.h,x66 _ _ (z84 _ _)]
   congr 1
   have e1:(b++c.take k).drop (64*(b.length/64))=b.drop (64*(b.length/64))++c.take k:=List.drop_append_of_le_length (by omega);have e2:s.piece.drop 64=[]:=List.drop_eq_nil_of_le (by rw[h.len];exact Nat.le_refl _);rw[hp,hmk,e1,e2,List.append_nil];exact(List.take_of_length_le (by rw[List.length_append,hpl,List.length_take];omega)).symm
  ·simp only[hd,decide_false,cond_false]
   have hq:(b.length+k)/64=b.length/64:=by omega
   rw[hq,PU b _ _ (by omega),h.h]
 ·simp only[I9,hb'];by_cases hd:(b.length+k)%64=0
  ·rw[hd,List.take_zero,List.drop_eq_nil_of_le (by rw[hb'];omega)]
  ·have hq:(b.length+k)/64=b.length/64:=by omega
   have hr:(b.length+k)%64=b.length%64+k:=by omega
   rw[hq,hr,hp,List.drop_append_of_le_length (by omega)];rw[List.take_append_of_le_length (by simp;omega),List.take_of_length_le (by simp;omega)]
theorem z02{s:ShaS}{b c:List UInt8}(h:Rep s b):Rep (DR s c) (b++c):=by
 induction hn:c.length using Nat.strongRecOn generalizing s b c with
 | _ n ih=>
  by_cases h0:c.length=0
  ·rw[ZH _ _ h0,List.length_eq_zero_iff.1 h0,List.append_nil];exact h
  ·rw[I3 _ _ h0];have hk:=JJ s c (by omega);have:=ih _ (by rw[<- hn];simp only[List.length_drop];omega) (z00 h h0) (c:=c.drop (kS s c)) rfl;rw[List.append_assoc,List.take_append_drop] at this;exact this
theorem JS{s:ShaS}{b c:List UInt8}(h:Rep s b):Rep (T4 s c) (b++c):=by
 unfold T4;rw[h.begun];exact z02 h
theorem z01{s:ShaS}{b:List UInt8}(h:Rep s b)(k:Nat):Rep (AN k s) (b++List.replicate k 0):=by
 induction k generalizing s b with
 | zero=>simpa [AN] using h
 | succ k ih=>
  have:=ih (JS (c:=[0]) h);rw[List.append_assoc] at this;simpa [AN,List.replicate_succ] using this
theorem w38{s:ShaS}{b:List UInt8}(h:Rep s b):k04 s=MD b:=by
 have h1:Rep (z14 s) (b++[128]):=JS h
 have hz:KU (z14 s)=zR b:=by
  unfold KU zR;rw[h1.mS];simp only[List.length_append,List.length_singleton];omega
 have h2:Rep (IP s) (b++[128]++List.replicate (zR b) 0):=by
  unfold IP;rw[hz];exact z01 h1 _
 have hn:s.n*8=YM b:=by
  rw[h.n];unfold YM
  congr 1
  apply UInt64.toNat_inj.1;have:=W6 ((b.length:Nat):Int);rw[UInt64.toNat_ofNat'];omega
 have h3:Rep (YA s) (w5 b):=by
  unfold YA w5;rw[IW,hn];exact JS h2
 unfold k04 MD;rw[x27 _ _ (Nat.le_refl _),h3.h,JA]
 congr 2
 omega
theorem CI(b:List UInt8):Rep (T4 ShaS.start b) b:=by
 have:=JS (c:=b) WC;simpa using this
theorem j60(b:List UInt8):WQ b=MD b:=w38 (CI b)
theorem MY(b:List UInt8):Y8 b=D2 b:=by unfold Y8 D2;rw[j60,j60]
end Go.Sx

namespace Go.Sx
instance:Inhabited ShaS:=⟨ShaS.zero⟩
end Go.Sx

namespace Go.Sx
abbrev Hs:=List UInt8
def X0(a b:Hs):Hs:=Y8 (a++b)
def d9(a b:Hs):Hs:=D2 (a++b)
theorem x45:X0=d9:=by funext a b;exact MY _
theorem HZ(b:Hs):(Y8 b).length=32:=by unfold Y8;exact HX _
theorem KL(b:Hs):(D2 b).length=32:=by unfold D2;exact QE _
theorem PK(a b:Hs):(X0 a b).length=32:=HZ _
theorem W9(a b:Hs):(d9 a b).length=32:=KL _
theorem w48(a:Hs)(ha:a.length=32):((List.replicate 64 (0:UInt8)).map D.u8).take 0++(((a.map D.u8).drop 0).take 32).take 32++((List.replicate 64 (0:UInt8)).map D.u8).drop (0+32)=(a++List.replicate 32 0).map D.u8:=by
 have h1:((a.map D.u8).take 32)=a.map D.u8:=List.take_of_length_le (by simp[ha]);simp only[List.drop_zero,List.take_take,Nat.min_self,h1,List.take_zero,List.nil_append,List.map_append];rfl
theorem w47(a b:Hs)(ha:a.length=32)(hb:b.length=32):((a++List.replicate 32 (0:UInt8)).map D.u8).take 32++(((b.map D.u8).drop 0).take 32).take 32++((a++List.replicate 32 (0:UInt8)).map D.u8).drop (32+32)=(a++b).map D.u8:=by
 have h1:((b.map D.u8).take 32)=b.map D.u8:=List.take_of_length_le (by simp[hb])
 have h2:((a++List.replicate 32 (0:UInt8)).map D.u8).take 32=a.map D.u8:=by rw[List.map_append,List.take_append_of_le_length (by simp[ha]),List.take_of_length_le (by simp[ha])]
 have h3:((a++List.replicate 32 (0:UInt8)).map D.u8).drop (32+32)=[]:=List.drop_eq_nil_of_le (by simp[ha]);rw[h2,h3];simp only[List.drop_zero,List.take_take,Nat.min_self,h1,List.map_append,List.append_nil]
theorem z11(a:Hs)(ha:a.length=32):((a.map D.u8).drop 0).take 32=a.map D.u8:=by rw[List.drop_zero,List.take_of_length_le (by simp[ha])]
def j87(J:Hs->Hs->Hs)(l:List Hs):Nat->List Hs
 | 0=>[]
 | i+1=>j87 J l i++[J l[2*i]! l[min (2*i+1) (l.length-1)]!]
def w53(J:Hs->Hs->Hs)(l:List Hs):List Hs:=j87 J l ((l.length+1)/2)
def E0(J:Hs->Hs->Hs)(l:List Hs):Nat->List Hs
 | 0=>l
 | k+1=>w53 J (E0 J l k)
def D0(n:Nat):Nat:=if n=0 then 0 else if n=1 then 1 else D0 ((n+1)/2)+1
termination_by n
def UD(n:Nat):Nat->Nat
 | 0=>n
 | k+1=>(UD n k+1)/2
theorem RR(J:Hs->Hs->Hs)(l:List Hs)(i:Nat):(j87 J l i).length=i:=by
 induction i with
 | zero=>rfl
 | succ i ih=>simp[j87,ih]
theorem MX(J:Hs->Hs->Hs)(l:List Hs):(w53 J l).length=(l.length+1)/2:=RR _ _ _
theorem AH(J:Hs->Hs->Hs)(l:List Hs)(k:Nat):(E0 J l k).length=UD l.length k:=by
 induction k with
 | zero=>rfl
 | succ k ih=>simp only[E0,UD,MX,ih]
theorem j03(n k:Nat):UD n k<=n:=by
 induction k with
 | zero=>exact Nat.le_refl _
 | succ k ih=>simp only[UD];omega
theorem NZ:D0 0=0:=by unfold D0;rfl
theorem NQ:D0 1=1:=by unfold D0;rfl
theorem MW{n:Nat}(h:2<=n):D0 n=D0 ((n+1)/2)+1:=by
 rw[D0];simp[show n≠0 by omega,show n≠1 by omega]
theorem q03{n:Nat}(h:1<=n):1<=D0 n:=by
 by_cases h1:n=1
 ·subst h1;rw[NQ];exact Nat.le_refl _
 ·rw[MW (by omega)];omega
theorem IR(n k:Nat)(h:k<D0 n):k+D0 (UD n k)=D0 n:=by
 induction k with
 | zero=>simp[UD]
 | succ k ih=>
  have h0:=ih (by omega)
  have h2:2<=UD n k:=by
   apply Nat.le_of_not_lt;intro hc
   rcases Nat.lt_or_ge (UD n k) 1 with h3|h3
   ·rw[show UD n k=0 by omega,NZ] at h0;omega
   ·rw[show UD n k=1 by omega,NQ] at h0;omega
  rw[MW h2] at h0;simp only[UD];omega
theorem q92(J:Hs->Hs->Hs)(l:List Hs)(k:Nat)(h:k<D0 l.length):1<=(E0 J l k).length:=by
 have h0:=IR _ _ h;rw[AH];apply Nat.le_of_not_lt;intro hc;rw[show UD l.length k=0 by omega,NZ] at h0;omega
def allH(l:List Hs):Prop:=∀ h∈l,h.length=32
theorem allH.get{l:List Hs}(h:allH l){i:Nat}(hi:i<l.length):l[i]!.length=32:=by
 rw[getElem!_pos l i hi];exact h _ (List.getElem_mem hi)
theorem k56{J:Hs->Hs->Hs}(hJ:∀ a b,(J a b).length=32)(l:List Hs)(i:Nat):allH (j87 J l i):=by
 induction i with
 | zero=>intro h hh;cases hh
 | succ i ih=>
  intro h hh
  rcases List.mem_append.1 hh with h1|h1
  ·exact ih h h1
  ·rw[List.mem_singleton.1 h1];exact hJ _ _
theorem AD{J:Hs->Hs->Hs}(hJ:∀ a b,(J a b).length=32){l:List Hs}(h:allH l)(k:Nat):allH (E0 J l k):=by
 cases k with
 | zero=>exact h
 | succ k=>exact k56 hJ _ _
theorem D8(h:Hs):(z7 h).brw=z7 h:=by
 unfold z7;simp only[D.brw,j7];rw[j2 (fun _=>rfl)]
theorem k21(o:Option Nat)(z:Nat)(l:List Hs):(D.sl o z (l.map z7)).brw=.sl none z (l.map z7):=by
 simp only[D.brw,j7];rw[j2 D8]
theorem J0(h:Hs):Frs (z7 h):=.arr _ _ _ (j6 fun _=>.u8 _)
theorem x56(e z:Nat)(l:List Hs):Frs (.sl (some e) z (l.map z7)):=.sl _ _ _ (j6 J0)
def zero32:Hs:=List.replicate 32 0
def P4(J:Hs->Hs->Hs):Hs->List Hs->Nat->Hs×Int
 | h,[],_=>(h,0)
 | h,x::r,k=>if k%2=0 then P4 J (J h x) r (k/2) else if x=h then(zero32,15) else P4 J (J x h) r (k/2)
def Z0(J:Hs->Hs->Hs)(id:Hs)(br:List Hs)(k:Int):Hs×Int:=
 if 32<br.length then(zero32,6) else if k<0∨0<k.toNat/2^br.length then(zero32,1) else P4 J id br k.toNat
theorem N9(J:Hs->Hs->Hs)(h:Hs)(br:List Hs)(j k:Nat)(hj:j<br.length) :
 P4 J h (br.drop j) k=if k%2=0 then P4 J (J h br[j]!) (br.drop (j+1)) (k/2) else if br[j]! = h then(zero32,15) else P4 J (J br[j]! h) (br.drop (j+1)) (k/2):=by
 rw[List.drop_eq_getElem_cons hj,P4,getElem!_pos br j hj]
theorem PH(J:Hs->Hs->Hs)(h:Hs)(br:List Hs)(j k:Nat)(hj:br.length<=j):P4 J h (br.drop j) k=(h,0):=by
 rw[List.drop_eq_nil_of_le hj,P4]
theorem DB(k:Int)(n:Nat)(h:0<=k)(hn:n<=64):k.fdiv (2^min (n:Int).toNat 64)=((k.toNat/2^n:Nat):Int):=by
 have e:min (n:Int).toNat 64=n:=by omega
 rw[e];obtain⟨m,rfl⟩:=Int.eq_ofNat_of_zero_le h;rw[Int.fdiv_eq_ediv_of_nonneg _ (by exact_mod_cast Nat.zero_le _)]
 norm_cast
theorem k58(n:Nat):D.u64 (UInt64.ofInt ((n:Nat):Int))=D.u64 (UInt64.ofNat n):=by
 congr 1
 unfold UInt64.ofInt;apply UInt64.toNat_inj.1;rw[UInt64.toNat_ofNat',UInt64.toNat_ofNat'];omega
theorem LO(k:Int)(n:Nat)(h:0<=k)(hn:n<=64):k.fdiv (2^min (((UInt64.ofNat n).toNat:Nat):Int).toNat 64)=((k.toNat/2^n:Nat):Int):=by
 have e:(UInt64.ofNat n).toNat=n:=by
  rw[UInt64.toNat_ofNat'];exact Nat.mod_eq_of_lt (by omega)
 rw[e];exact DB k n h hn
theorem RK{a b:Hs}{c:Bool}(h:(a==b)=c):(b==a)=c:=by rw[<- h,Bool.eq_iff_iff,beq_iff_eq,beq_iff_eq];exact eq_comm
def Y1(T:Hs->Hs)(b:Hs):Hs×Int:=if b.length=64 then(zero32,15) else(T b,0)
def q95(J:Hs->Hs->Hs)(l:List Hs):Nat->Hs
 | 0=>zero32
 | k+1=>(E0 J l k)[0]!
def JR(J:Hs->Hs->Hs)(l:List Hs):Hs:=q95 J l (D0 l.length)
end Go.Sx

namespace Go.Sx
abbrev Bg:=List UInt64
def Z9(x:Bg):D:=.arr 4 1 (x.map .u64)
def K6(n:Nat):D:=.int ((n:Nat):Int)
def w9:Bg:=[0,0,0,0]
def p9(a:Bg)(i:Nat):Nat:=if 256<=i then 0 else(Z6 a[i/64]! (i%64)&&&1).toNat
theorem VK(x:UInt64):(x&&&1).toNat<=1:=by
 rw[UInt64.toNat_and];exact Nat.le_trans Nat.and_le_right (by decide)
theorem F7(a:Bg)(i:Nat):p9 a i<=1:=by
 unfold p9;split
 ·exact Nat.zero_le _
 ·exact VK _
def M4(l:List Nat):Nat->Bg
 | 0=>w9
 | i+1=>if l[i]! = 1 then(M4 l i).set (i/64) ((M4 l i)[i/64]!|||U6 1 (i%64)) else M4 l i
def S5(l:List Nat):Bg:=M4 l (min l.length 256)
theorem PY(l:List Nat)(i:Nat):(M4 l i).length=4:=by
 induction i with
 | zero=>rfl
 | succ i ih=>simp only[M4];split<;>simp[ih]
theorem N8(l:List Nat):(S5 l).length=4:=PY _ _
def QU(a b:Bg):Nat->Bool
 | 0=>false
 | i+1=>if p9 a i≠p9 b i then decide (p9 a i<p9 b i) else QU a b i
def QW(a b:Bg):Bool:=QU a b 256
def z37(a:Bg):Nat->Nat
 | 0=>0
 | i+1=>if p9 a i=1 then i+1 else z37 a i
def UY(a:Bg):Nat:=z37 a 256
theorem z36(a:Bg)(i:Nat):z37 a i<=i:=by
 induction i with
 | zero=>exact Nat.le_refl _
 | succ i ih=>simp only[z37];split<;>omega
theorem z35(a:Bg):UY a<=256:=z36 a 256
def allB(l:List Nat):Prop:=∀ x∈l,x<=1
theorem allB.get{l:List Nat}(h:allB l)(i:Nat):l[i]!<=1:=by
 by_cases hi:i<l.length
 ·rw[getElem!_pos l i hi];exact h _ (List.getElem_mem hi)
 ·rw[getElem!_neg l i hi];exact Nat.zero_le _
theorem allB.set{l:List Nat}(h:allB l)(i x:Nat)(hx:x<=1):allB (l.set i x):=fun y hy=>by
 rcases List.mem_or_eq_of_mem_set hy with h1|h1
 ·exact h y h1
 ·exact h1▸hx
def XF(a b:Bg):Nat->Nat
 | 0=>0
 | i+1=>(p9 a i+p9 b i+XF a b i)/2
def XI(a b:Bg):Nat->List Nat
 | 0=>[]
 | i+1=>XI a b i++[(p9 a i+p9 b i+XF a b i)%2]
def BJ(a b:Bg):Bg:=S5 (XI a b 256)
def q38(a b:Bg):Bool:=decide (XF a b 256=1)
theorem k27(a b:Bg)(i:Nat):XF a b i<=1:=by
 induction i with
 | zero=>exact Nat.zero_le _
 | succ i ih=>have:=F7 a i;have:=F7 b i;simp only[XF];omega
theorem PR(a b:Bg)(i:Nat):(XI a b i).length=i:=by
 induction i with
 | zero=>rfl
 | succ i ih=>simp[XI,ih]
def D9(a b:Bg):Nat->Nat
 | 0=>0
 | i+1=>if p9 a i<p9 b i+D9 a b i then 1 else 0
def R3(a b:Bg):Nat->List Nat
 | 0=>[]
 | i+1=>R3 a b i++[if p9 a i<p9 b i+D9 a b i then p9 a i+2-(p9 b i+D9 a b i) else p9 a i-(p9 b i+D9 a b i)]
def q37(a b:Bg):Bg:=S5 (R3 a b 256)
theorem FG(a b:Bg)(i:Nat):D9 a b i<=1:=by
 cases i with
 | zero=>exact Nat.zero_le _
 | succ i=>simp only[D9];split<;>omega
theorem PI(a b:Bg)(i:Nat):(R3 a b i).length=i:=by
 induction i with
 | zero=>rfl
 | succ i ih=>simp[R3,ih]
theorem k26(a b:Bg):(q37 a b).length=4:=by unfold q37;exact N8 _
theorem FD(a b:Bg):(BJ a b).length=4:=by unfold BJ;exact N8 _
def J9(a:Bg)(k:Nat)(l:List Nat):Nat->List Nat×Nat
 | 0=>(l,0)
 | j+1=>((J9 a k l j).1.set (k+j) (((J9 a k l j).1[k+j]!+p9 a j+(J9 a k l j).2)%2),((J9 a k l j).1[k+j]!+p9 a j+(J9 a k l j).2)/2)
def G3(a:Bg)(n:UInt64):Nat->List Nat
 | 0=>List.replicate 320 0
 | k+1=>if Z6 n k&&&1=0 then G3 a n k else(J9 a k (G3 a n k) (320-k)).1
def SN(l:List Nat):Nat->UInt64
 | 0=>0
 | k+1=>SN l k|||U6 (UInt64.ofInt ((l[256+k]!:Nat):Int)) k
def B5(a:Bg)(n:UInt64):Bg:=S5 (G3 a n 64)
def PL(a:Bg)(n:UInt64):UInt64:=SN (G3 a n 64) 64
theorem BV(a:Bg)(k:Nat)(l:List Nat)(j:Nat):(J9 a k l j).1.length=l.length:=by
 induction j with
 | zero=>rfl
 | succ j ih=>simp[J9,ih]
theorem BW(a:Bg)(k:Nat)(l:List Nat)(h:allB l)(j:Nat):allB (J9 a k l j).1/\(J9 a k l j).2<=1:=by
 induction j with
 | zero=>exact⟨h,Nat.zero_le _⟩
 | succ j ih=>
  have h1:=ih.1.get (k+j);have h2:=F7 a j;have h3:=ih.2;exact⟨ih.1.set _ _ (by omega),by simp only[J9];omega⟩
theorem DQ(a:Bg)(n:UInt64)(k:Nat):(G3 a n k).length=320:=by
 induction k with
 | zero=>exact List.length_replicate
 | succ k ih=>
  simp only[G3];split
  ·exact ih
  ·rw[BV,ih]
theorem z40(a:Bg)(n:UInt64)(k:Nat):allB (G3 a n k):=by
 induction k with
 | zero=>intro x hx;rw[(List.mem_replicate.1 hx).2];exact Nat.zero_le _
 | succ k ih=>
  simp only[G3];split
  ·exact ih
  ·exact(BW a k _ ih _).1
def UK(a:Bg)(n:Nat):Bg:=if n=0 then a else S5 ((List.range 256).map fun i=>if 256<n∨i<n then 0 else p9 a (i-n))
def H3(a:Bg)(n:Nat):Bg:=if n=0 then a else S5 ((List.range 256).map fun i=>if 256<n then 0 else p9 a (i+n))
def FS(a:Bg)(n i:Nat):List Nat:=(List.range i).map fun i=>if 256<n∨i<n then 0 else p9 a (i-n)
def S6(a:Bg)(n i:Nat):List Nat:=(List.range i).map fun i=>if 256<n then 0 else p9 a (i+n)
theorem q59(a:Bg)(n i:Nat):FS a n (i+1)=FS a n i++[if 256<n∨i<n then 0 else p9 a (i-n)]:=by simp[FS,List.range_succ]
theorem LT(a:Bg)(n i:Nat):S6 a n (i+1)=S6 a n i++[if 256<n then 0 else p9 a (i+n)]:=by simp[S6,List.range_succ]
theorem RL(a:Bg)(n i:Nat):(FS a n i).length=i:=by simp[FS]
theorem PB(a:Bg)(n i:Nat):(S6 a n i).length=i:=by simp[S6]
theorem YS{a:Bg}(ha:a.length=4)(n:Nat):(UK a n).length=4:=by
 unfold UK;split
 ·exact ha
 ·exact N8 _
theorem I1{a:Bg}(ha:a.length=4)(n:Nat):(H3 a n).length=4:=by
 unfold H3;split
 ·exact ha
 ·exact N8 _
theorem FH(a:Bg)(n:UInt64):(B5 a n).length=4:=by unfold B5;exact N8 _
def FR(a r:Bg)(i:Nat):Bg:=(UK r 1).set 0 ((UK r 1)[0]!|||UInt64.ofInt ((p9 a i:Nat):Int))
theorem YT{a r:Bg}(h:r.length=4)(i:Nat):(FR a r i).length=4:=by unfold FR;rw[List.length_set];exact YS h _
def D7(a b:Bg):Nat->List Nat×Bg
 | 0=>(List.replicate 256 0,w9)
 | t+1=>
  if p9 (D7 a b t).2 255=1∨QW (FR a (D7 a b t).2 (255-t)) b=false then
   ((D7 a b t).1.set (255-t) 1,q37 (FR a (D7 a b t).2 (255-t)) b)
  else((D7 a b t).1,FR a (D7 a b t).2 (255-t))
def G4(a b:Bg):Bg:=if b=w9 then w9 else S5 (D7 a b 256).1
def F6(a b:Bg):Bg:=if b=w9 then w9 else(D7 a b 256).2
def k09(b:Bg):Nat:=if b=w9 then 1 else 0
theorem k08(a b:Bg)(h:(D7 a b 256).2.length=4):(F6 a b).length=4:=by
 unfold F6;split
 ·rfl
 ·exact h
theorem ET(a b:Bg):(G4 a b).length=4:=by
 unfold G4;split
 ·rfl
 ·exact N8 _
theorem EV(a b:Bg)(t:Nat):(D7 a b t).1.length=256/\(D7 a b t).2.length=4:=by
 induction t with
 | zero=>rw[D7];exact⟨List.length_replicate,rfl⟩
 | succ t ih=>
  rw[D7];generalize D7 a b t=q at ih ⊢;obtain⟨h1,h2⟩:=ih;split
  ·dsimp only;exact⟨List.length_set.trans h1,k26 _ _⟩
  ·dsimp only;exact⟨h1,YT h2 _⟩
def hbit(h:Hs)(i:Nat):Nat:=(QF h[i/8]! (i%8)&&&1).toNat
def CS(h:Hs)(i:Nat):List Nat:=(List.range i).map (hbit h)
def II(h:Hs):Bg:=S5 (CS h 256)
theorem q01(h:Hs)(i:Nat):CS h (i+1)=CS h i++[hbit h i]:=by simp[CS,List.range_succ]
theorem AT(h:Hs)(i:Nat):(CS h i).length=i:=by simp[CS]
theorem MR(n:Nat)(h:n<18446744073709551616):(UInt64.ofInt ((n:Nat):Int)).toNat=n:=by
 have:UInt64.ofInt ((n:Nat):Int)=UInt64.ofNat n:=by
  unfold UInt64.ofInt
  congr 1
  omega
 rw[this];simp[UInt64.toNat_ofNat];omega
theorem q79(x:UInt64)(n:Nat)(h:n<64):Z6 x ((((UInt64.ofInt ((n:Nat):Int)).toNat:Nat):Int)).toNat=Z6 x n:=by
 rw[MR n (by omega)];rfl
theorem q81(x:UInt64)(n:Nat)(h:n<64):U6 x ((((UInt64.ofInt ((n:Nat):Int)).toNat:Nat):Int)).toNat=U6 x n:=by
 rw[MR n (by omega)];rfl
theorem k71(x:UInt8)(n:Nat)(h:n<8):QF x ((((UInt64.ofInt ((n:Nat):Int)).toNat:Nat):Int)).toNat=QF x n:=by
 rw[MR n (by omega)];rfl
theorem k48(x:UInt64):D.int (wr ((x&&&1).toNat:Int))=D.int (((x&&&1).toNat:Nat):Int):=by
 have:=VK x;exact C9 rfl (by omega) (by omega)
theorem TH{l:List Nat}{i:Nat}(h:l[i]! = 1):M4 l (i+1)=(M4 l i).set (i/64) ((M4 l i)[i/64]!|||U6 1 (i%64)):=by rw[M4,if_pos h]
theorem TD{l:List Nat}{i:Nat}(h:¬ l[i]! = 1):M4 l (i+1)=M4 l i:=by rw[M4,if_neg h]
theorem q75{a b:Bg}{i:Nat}(h:¬ ((p9 a i:Nat):Int)-((p9 b i:Nat):Int)-((D9 a b i:Nat):Int)<0) :
 (R3 a b i).map K6++[D.int (((p9 a i:Nat):Int)-((p9 b i:Nat):Int)-((D9 a b i:Nat):Int))]=(R3 a b (i+1)).map K6:=by
 rw[R3,List.map_append,if_neg (by omega)]
 congr 1
 simp only[List.map_cons,List.map_nil,K6]
 congr 2
 omega
theorem q74{a b:Bg}{i:Nat}(h:((p9 a i:Nat):Int)-((p9 b i:Nat):Int)-((D9 a b i:Nat):Int)<0) :
 (R3 a b i).map K6++[D.int (((p9 a i:Nat):Int)-((p9 b i:Nat):Int)-((D9 a b i:Nat):Int)+2)]=(R3 a b (i+1)).map K6:=by
 have h1:=F7 b i;have h2:=FG a b i;rw[R3,List.map_append,if_pos (by omega)]
 congr 1
 simp only[List.map_cons,List.map_nil,K6]
 congr 2
 omega
theorem q73{a b:Bg}{i:Nat}(h:¬ ((p9 a i:Nat):Int)-((p9 b i:Nat):Int)-((D9 a b i:Nat):Int)<0):D9 a b (i+1)=0:=by rw[D9,if_neg (by omega)]
theorem q72{a b:Bg}{i:Nat}(h:((p9 a i:Nat):Int)-((p9 b i:Nat):Int)-((D9 a b i:Nat):Int)<0):D9 a b (i+1)=1:=by rw[D9,if_pos (by omega)]
theorem j02{a b:Bg}{i:Nat}(h:¬ p9 a i≠p9 b i):QU a b (i+1)=QU a b i:=by rw[QU,if_neg h]
theorem j01{a b:Bg}{i:Nat}(h:p9 a i≠p9 b i):QU a b (i+1)=decide (p9 a i<p9 b i):=by rw[QU,if_pos h]
theorem j69{a:Bg}{i:Nat}(h:p9 a i=1):z37 a (i+1)=i+1:=by rw[z37,if_pos h]
theorem j70{a:Bg}{i:Nat}(h:¬ p9 a i=1):z37 a (i+1)=z37 a i:=by rw[z37,if_neg h]
theorem FL{a:Bg}{n i x:Nat}(h:(if 256<n∨i<n then 0 else p9 a (i-n))=x):(FS a n i).map K6++[D.int ((x:Nat):Int)]=(FS a n (i+1)).map K6:=by rw[q59,List.map_append,h];rfl
theorem ES{a:Bg}{n i x:Nat}(h:(if 256<n then 0 else p9 a (i+n))=x):(S6 a n i).map K6++[D.int ((x:Nat):Int)]=(S6 a n (i+1)).map K6:=by rw[LT,List.map_append,h];rfl
theorem x94(a:Bg):UK a 0=a:=by rw[UK,if_pos rfl]
theorem x93{a:Bg}{n:Nat}(h:¬ n<=0):UK a n=S5 (FS a n 256):=by rw[UK,if_neg (by omega),FS]
theorem j25(a:Bg):H3 a 0=a:=by rw[H3,if_pos rfl]
theorem j24{a:Bg}{n:Nat}(h:¬ n<=0):H3 a n=S5 (S6 a n 256):=by rw[H3,if_neg (by omega),S6]
theorem zl(n:Nat):(List.replicate n 0).map K6=List.replicate n (.int 0):=by rw[List.map_replicate];rfl
theorem x33(a:Bg)(n:UInt64):G3 a n 0=List.replicate 320 0:=by rw[G3]
theorem z39{a:Bg}{n:UInt64}{k:Nat}(h:Z6 n k&&&1=0):G3 a n (k+1)=G3 a n k:=by rw[G3,if_pos h]
theorem z38{a:Bg}{n:UInt64}{k:Nat}(h:¬ Z6 n k&&&1=0):G3 a n (k+1)=(J9 a k (G3 a n k) (320-k)).1:=by rw[G3,if_neg h]
theorem x31(a:Bg)(k:Nat)(l:List Nat)(j:Nat):((J9 a k l j).1[k+j]!+p9 a j+(J9 a k l j).2)/2=(J9 a k l (j+1)).2:=by rw[J9]
theorem x32(a:Bg)(k:Nat)(l:List Nat):J9 a k l 0=(l,0):=by rw[J9]
theorem x63(a b:Bg):D7 a b 0=(List.replicate 256 0,w9):=by rw[D7]
theorem UR{a b r:Bg}{q:List Nat}{k:Nat}(hq:D7 a b k=(q,r))(h:p9 r 255=1∨QW (FR a r (255-k)) b=false):D7 a b (k+1)=(q.set (255-k) 1,q37 (FR a r (255-k)) b):=by
 rw[D7,hq];exact if_pos h
theorem LV{a b r:Bg}{q:List Nat}{k:Nat}(hq:D7 a b k=(q,r))(h:¬ p9 r 255=1)(h2:¬ QW (FR a r (255-k)) b=false):D7 a b (k+1)=(q,FR a r (255-k)):=by
 rw[D7,hq];exact if_neg (fun h3=>h3.elim h h2)
theorem TP{a b r:Bg}{q:List Nat}{k:Nat}(hq:D7 a b k=(q,r)):q.length=256/\r.length=4:=by
 have:=EV a b k;rw[hq] at this;exact this
theorem k06{a b:Bg}(h:(b==w9)=true):G4 a b=w9/\F6 a b=w9/\k09 b=1:=by
 have h:=eq_of_beq h;exact⟨by rw[G4,if_pos h],by rw[F6,if_pos h],by rw[k09,if_pos h]⟩
theorem k07{a b r:Bg}{q:List Nat}(h:(b==w9)=false)(hq:D7 a b 256=(q,r)):G4 a b=S5 q/\F6 a b=r/\k09 b=0:=by
 have h:=ne_of_beq_false h;exact⟨by rw[G4,if_neg h,hq],by rw[F6,if_neg h,hq],by rw[k09,if_neg h]⟩
theorem j26(a b:Bg):(F6 a b).length=4:=k08 a b (EV a b 256).2
theorem n1(x:Bg):Frs (Z9 x):=.arr _ _ _ (j6 fun _=>.u64 _)
def X6(bits:UInt32):Bg:=[(bits&&&8388607).toUInt64,0,0,0]
def QB(bits:UInt32):Bg:=
 if(w7 bits 24).toNat<3 then H3 (X6 bits) (8*(3-(w7 bits 24).toNat)) else UK (X6 bits) (8*((w7 bits 24).toNat-3))
def JO(bits:UInt32):Option Bg:=
 if 3<=(w7 bits 24).toNat/\256<UY (X6 bits)+8*((w7 bits 24).toNat-3)/\X6 bits≠w9 then none
 else if QB bits=w9∨bits&&&8388608≠0 then none else some (QB bits)
def CT(bits:UInt32):Bg:=(JO bits).getD w9
def XM(t:Bg):Nat:=(UY t+7)/8
def XP(t:Bg):Bg:=if XM t<3 then UK t (8*(3-XM t)) else H3 t (8*(XM t-3))
def ZZ(t:Bg):UInt32:=
 if t=w9 then 0
 else if(8388608:UInt64)<=(XP t)[0]! then b6 (UInt32.ofInt ((XM t+1:Nat):Int)) 24|||(H3 (XP t) 8)[0]!.toUInt32
 else b6 (UInt32.ofInt ((XM t:Nat):Int)) 24|||(XP t)[0]!.toUInt32
def XX(h:Hs)(t:Bg):Bool:=t != w9&&!QW t (II h)
theorem q68(bits:UInt32):(QB bits).length=4:=by
 unfold QB;split
 ·exact I1 rfl _
 ·exact YS rfl _
theorem XJ(bits:UInt32):(CT bits).length=4:=by
 unfold CT JO;split
 ·rfl
 ·split
  ·rfl
  ·exact q68 _
theorem q80(bits:UInt32):(w7 bits 24).toNat<=255:=by
 unfold w7;rw[if_pos (by decide),UInt32.toNat_shiftRight];have:=bits.toNat_lt;have e:(UInt32.ofNat 24).toNat%32=24:=rfl;rw[e,Nat.shiftRight_eq_div_pow];omega
theorem z21{bits:UInt32}(h3:¬ (w7 bits 24).toNat<3)(hb:256<UY (X6 bits)+8*((w7 bits 24).toNat-3))(hn:(X6 bits != w9)=true):JO bits=none:=by
 unfold JO;exact if_pos ⟨by omega,hb,bne_iff_ne.1 hn⟩
theorem M2{bits:UInt32}(h:(w7 bits 24).toNat<3∨¬ 256<UY (X6 bits)+8*((w7 bits 24).toNat-3)∨(X6 bits != w9)=false):JO bits=if QB bits=w9∨bits&&&8388608≠0 then none else some (QB bits):=by
 unfold JO;refine if_neg (fun hc=>?_)
 rcases h with h|h|h
 ·omega
 ·exact h hc.2.1
 ·exact bne_iff_ne.2 hc.2.2 |>.symm.trans h |> fun e=>by cases e
theorem RS{bits:UInt32}(h:(w7 bits 24).toNat<3):QB bits=H3 (X6 bits) (8*(3-(w7 bits 24).toNat)):=by unfold QB;exact if_pos h
theorem YG{bits:UInt32}(h:¬ (w7 bits 24).toNat<3):QB bits=UK (X6 bits) (8*((w7 bits 24).toNat-3)):=by unfold QB;exact if_neg h
theorem BS{bits:UInt32}{x:Bg}(hg:JO bits=if QB bits=w9∨bits&&&8388608≠0 then none else some (QB bits))(ht:QB bits=x)(hz:x=w9):JO bits=none:=by rw[hg,if_pos (.inl (ht.trans hz))]
theorem BL{bits:UInt32}(hg:JO bits=if QB bits=w9∨bits&&&8388608≠0 then none else some (QB bits))(h:(bits&&&8388608 != 0)=true):JO bits=none:=by rw[hg,if_pos (.inr (bne_iff_ne.1 h))]
theorem BI{bits:UInt32}{x:Bg}(hg:JO bits=if QB bits=w9∨bits&&&8388608≠0 then none else some (QB bits))(ht:QB bits=x)(hz:¬ x=w9)(h:(bits&&&8388608 != 0)=false):JO bits=some x:=by
 rw[hg,if_neg (fun hc=>hc.elim (fun e=>hz (ht.symm.trans e)) (fun e=>by rw[bne_iff_ne.2 e] at h;cases h)),ht]
theorem JK{bits:UInt32}(h:JO bits=none):CT bits=w9:=by rw[CT,h];rfl
theorem MS{bits:UInt32}{x:Bg}(h:JO bits=some x):CT bits=x:=by rw[CT,h];rfl
theorem x65{t:Bg}(h:(t==w9)=true):ZZ t=0:=by unfold ZZ;exact if_pos (eq_of_beq h)
theorem k11{t x:Bg}(h:(t==w9)=false)(hp:XP t=x)(h2:(8388608:UInt64)<=x[0]!):ZZ t=b6 (UInt32.ofInt ((XM t+1:Nat):Int)) 24|||(H3 x 8)[0]!.toUInt32:=by
 subst hp;unfold ZZ;rw[if_neg (ne_of_beq_false h),if_pos h2]
theorem k14{t x:Bg}(h:(t==w9)=false)(hp:XP t=x)(h2:¬ (8388608:UInt64)<=x[0]!):ZZ t=b6 (UInt32.ofInt ((XM t:Nat):Int)) 24|||x[0]!.toUInt32:=by
 subst hp;unfold ZZ;rw[if_neg (ne_of_beq_false h),if_neg h2]
theorem TN{t:Bg}(h:(UY t+7)/8<3):XP t=UK t (8*(3-(UY t+7)/8)):=by unfold XP XM;exact if_pos h
theorem TO{t:Bg}(h:¬ (UY t+7)/8<3):XP t=H3 t (8*((UY t+7)/8-3)):=by unfold XP XM;exact if_neg h
theorem z24(h:Hs):(II h).length=4:=by unfold II;exact N8 _
theorem x36{h:Hs}{t:Bg}(hz:t=w9):XX h t=false:=by unfold XX;rw[hz];rfl
theorem x35{h:Hs}{t:Bg}(hz:¬ t=w9):XX h t=!QW t (II h):=by unfold XX;rw[bne_iff_ne.2 hz,Bool.true_and]
end Go.Sx

namespace Go.Sx
open Go.Proofs
theorem P5(a:Bg)(i:Nat)(ha:a.length=4)(hi0:i<=1000000):Fn Tryz.prog gl 167 [Z9 a,.int ((i:Nat):Int)] (.int ((p9 a i:Nat):Int)):=by
 refine Fn.of (n:=21) Tryz.func167 rfl rfl rfl (nU rfl) fun C hC hD=>?_;refine z5 2 [] [] [] (V2 0 1) Zt O O (⟨O,_,R.box (gV 0 O) O O (nU O),⟨O,_,j4 (kI 0 O) O (nU O),tV (V2 1 2) (p6 2) 21 O O O ?_⟩⟩);refine W.seq (q9 6 (y6 5 6 7 8 9 10) (V3 1 2 10) ⟨mU 1 O O,aU<|KO 0 O O O,mU 6 O O,aW O O (gF (dF (Nat.not_lt_zero _)) O)<|zV O O O,aW O O (gF (dF (Nat.not_lt_zero _)) O) fun _ _ H K=>x79 (i) (256) (eU K 8 O) (kI 256 O) H,aU<|zF O (dF (Nat.not_lt_zero _)) O O O,Zt⟩ ?_);refine z6 O (fun hc10=>?_) (fun hc10=>?_)
 ·refine q9 1 (y1 4) (V1 4) ⟨aU<|zK (kI 0 O) O O,Zt⟩ ?_;refine W.ret ?_;exact q8 (.inr O) O (by rw[p9,if_pos hc10]) O O Zt
 ·refine W.skip (q9 11 (w52 11 12 13 14 15 16 17 18 19 20 4) (V1 4) ⟨mU 1 O O,aU fun _ _ H K=>C7 (i) (64) (eU K 11 O) (kI 64 O) bU bU H,aU<|PT ((i/64)) O O O bU O,aU fun _ B H K=>R.ldP (K 13 _ O) (B 2 _ O) (v9 (mG a) v8 bU) O O O H,mU 1 O O,aU fun _ _ H K=>E3 (i) (64) (eU K 15 O) (kI 64 O) bU H,aU<|zW O O O,aU fun _ _ H K=>c8 (d:=.u64 (Z6 a[i/64]! (i%64))) (eU K 14 O) (eU K 17 O) O bV (congrArg D.u64 (q79 _ _ bO)) H,aU<|B6 O (kW (.int .u64 1) (.u64 1) O) O O,aU fun _ _ H K=>Q5 (d:=.int (((Z6 a[i/64]! (i%64)&&&1).toNat:Nat):Int)) (eU K 19 O) O (k48 _) H,aU<|zA O O O,Zt⟩ ?_);refine W.ret ?_;exact q8 (.inr O) O (by rw[p9,if_neg hc10]) O O Zt
theorem j41(a:Bg)(i:Int)(hn:i<0)(hi0:-1000000<=i):Fn Tryz.prog gl 167 [Z9 a,.int i] (.int ((0:Nat):Int)):=by
 refine Fn.of (n:=21) Tryz.func167 rfl rfl rfl (nU rfl) fun C hC hD=>?_;refine z5 2 [] [] [] (V2 0 1) Zt O O (⟨O,_,R.box (gV 0 O) O O (nU O),⟨O,_,j4 (kI 0 O) O (nU O),tV (V2 1 2) (p6 2) 21 O O O ?_⟩⟩);refine W.seq (q9 6 [.y 5 _,.y 6 _,.y 7 _,.x 8,.x 9,.y 10 _] (V3 1 2 10) ⟨mU 1 O O,aU<|B6 O (kI 0 O) O O,mU 6 O O,aF O O (gT (dT hn) O),aF O O (gT (dT hn) O),aU<|I4 O (dT hn) (kB true O) O O,Zt⟩ ?_);refine u7 O (O) ?_;refine q9 1 (y1 4) (V1 4) ⟨aU<|zK (kI 0 O) O O,Zt⟩ ?_;refine W.ret ?_;exact q8 (.inr O) O (O) O O Zt
theorem R2(l:List Nat)(hl0:l.length<=1000000):Fn Tryz.prog gl 168 [.sl none 1 (l.map K6)] (Z9 (S5 l)):=by
 refine Fn.of (n:=33) Tryz.func168 rfl rfl rfl (nU rfl) fun C hC hD=>?_;refine z5 1 [] [] [] (V1 0) Zt O O (Q7 O O (tV (V2 0 2) (p6 2) 33 O O O ?_));refine z5 1 [] [] [] (V2 0 2) Zt O O (Q7 O O (tV (V3 0 2 3) (p7 3 2) 33 O O O ?_));refine W.seq (q9 1 (y1 4) (V4 0 2 3 4) ⟨aU<|zK (kI 0 O) O O,Zt⟩ ?_);refine W.block ?_;refine W.loop (α:={q__:Nat//q__<=l.length/\q__<=256}) (fun q__=>⟨33,[(0,.sl none 1 (l.map K6)),(2,.ptr 2 0 []),(3,.ptr 3 0 []),(4,.int ((q__.1:Nat):Int))],[(3,.var (Z9 (M4 l q__.1))),(2,.var (Z9 w9))]⟩) (fun q__=>256-q__.1) ⟨(0),⟨Nat.zero_le _,Nat.zero_le _⟩⟩ O ?_;rintro ⟨i,⟨hi,hi2⟩⟩;show W _ _ _ _ ⟨33,[(0,.sl none 1 (l.map K6)),(2,.ptr 2 0 []),(3,.ptr 3 0 []),(4,.int ((i:Nat):Int))],[(3,.var (Z9 (M4 l i))),(2,.var (Z9 w9))]⟩;have hi:i<=l.length:=hi;have hi2:i<=256:=hi2;have hfl:=PY l i;refine W.seq (W.seq ?_);by_cases hs:i<l.length
 ·refine z8 8 (y8 5 6 7 8 9 10 11 12) (V5 0 2 3 4 12) ⟨mU 4 O O,mU 0 O O,aU<|zN O (lN _) O,aU<|zS O O O,mU 8 O O,aW O O (gT (dT hs) O)<|zV O O O,aW O O (gT (dT hs) O)<|KO 256 O O O,aU<|zT O (dT hs) O O O,Zt⟩ ?_;refine z6 O (fun hc12=>?_) (fun hc12=>?_)
  ·refine W.skip (W.seq (W.block (q9 5 (y5 15 16 17 18 19) (V5 0 2 3 4 19) ⟨mU 0 O O,mU 4 O O,aU<|zI i O O O bU O,aU<|zL O O (mG l) O O O O O,aU<|KD 1 O O O,Zt⟩ ?_)));refine z6 O (fun hc19=>?_) (fun hc19=>?_)
   ·refine u4 13 (w58 20 21 22 23 24 25 26 27 28 29 30 31) [] [] (V6 0 2 3 4 30 31) ⟨mU 4 O O,aU fun _ _ H K=>C7 (i) (64) (eU K 20 O) (kI 64 O) bU bU H,mU 4 O O,aU fun _ _ H K=>C7 (i) (64) (eU K 22 O) (kI 64 O) bU bU H,aU<|PT ((i/64)) O O O bU O,aU fun _ B H K=>R.ldP (K 24 _ O) (B 3 _ O) (v9 (mG (M4 l i)) v8 bU) O O O H,mU 4 O O,aU fun _ _ H K=>E3 (i) (64) (eU K 26 O) (kI 64 O) bU H,aU<|zW O O O,aU fun _ _ H K=>c8 (d:=.u64 (U6 1 (i%64))) (kW (.int .u64 1) (.u64 1) O) (eU K 28 O) O bV (congrArg D.u64 (q81 _ _ bO)) H,aU<|zB O O O O,aU<|PT ((i/64)) O O O bU O,Zt⟩ O O (⟨O,_,Z7 (gU 31 O) (xU 3 O) (v9 (mG (M4 l i)) v8 bU) (gV 30 O) (by rfl) (by rfl) (by rfl) (by rfl) (E7 (mG (M4 l i)) X2 X3),tV (V4 0 2 3 4) (p7 3 2) 33 O O O ?_⟩);refine z8 3 (y3 13 14 4) (V4 0 2 3 4) ⟨mU 4 O O,aU<|Q6 1 O O bU O,aU<|zA O O O,Zt⟩ ?_;exact⟨⟨(i+1),⟨by omega,by omega⟩⟩,(by first|(rw[TH hc19]<;>rfl)|(rw[TD hc19]<;>rfl)),(by simp only[];omega)⟩
   ·refine W.skip ?_;refine z8 3 (y3 13 14 4) (V4 0 2 3 4) ⟨mU 4 O O,aU<|Q6 1 O O bU O,aU<|zA O O O,Zt⟩ ?_;exact⟨⟨(i+1),⟨by omega,by omega⟩⟩,(by first|(rw[TH hc19]<;>rfl)|(rw[TD hc19]<;>rfl)),(by simp only[];omega)⟩
  ·refine W.exit (z5 2 (y1 32) [] [] (V2 2 32) ⟨aU (lU 3 O O O O O O O),Zt⟩ O O (d5 O O O O O (tV (V1 2) (p7 3 2) 33 O O O ?_)));refine W.ret ?_;exact q8 (.inr O) O (by rw[S5,show min l.length 256=i by omega]) O O (iL 217 4)
 ·refine z8 8 [.y 5 _,.y 6 _,.y 7 _,.y 8 _,.y 9 _,.x 10,.x 11,.y 12 _] (V5 0 2 3 4 12) ⟨mU 4 O O,mU 0 O O,aU<|zN O (lN _) O,aU<|zS O O O,mU 8 O O,aF O O (gF (dF hs) O),aF O O (gF (dF hs) O),aU<|YL O (dF hs) (kB false O) O O,Zt⟩ ?_;refine v4 O (O) ?_;refine W.exit (z5 2 (y1 32) [] [] (V2 2 32) ⟨aU (lU 3 O O O O O O O),Zt⟩ O O (d5 O O O O O (tV (V1 2) (p7 3 2) 33 O O O ?_)));refine W.ret ?_;exact q8 (.inr O) O (by rw[S5,show min l.length 256=i by omega]) O O (iL 217 4)
theorem x74(n:UInt64):Fn Tryz.prog gl 152 [.u64 n] (Z9 [n,0,0,0]):=by
 refine Fn.of (n:=5) Tryz.func152 rfl rfl rfl (nU rfl) fun C hC hD=>?_;refine z5 1 [] [] [] (V1 0) Zt O O (Q7 O O (tV (V2 0 2) (p6 2) 5 O O O ?_));refine z5 3 (y2 3 4) [] [] (V2 2 4) ⟨mU 0 O O,aU fun _ _ H K=>R.bldAP (z:=1) (l2:=([n,0,0,0].map D.u64)) (.cons (eU K 3 O) (.nil O)) ⟨⟨_,(eU K 3 O),O,O,O,O⟩,Zt⟩ (O) H,Zt⟩ O O (d5 O O O O O (tV (V1 2) (p6 2) 5 O O O ?_));refine W.ret ?_;exact q8 (.inr O) O (O) O O (iL 217 4)
end Go.Sx

namespace Go.Sx
open Go.Proofs
theorem j42(a b:Bg)(ha:a.length=4)(hlb:b.length=4):Fn Tryz.prog gl 166 [Z9 a,Z9 b] (.tup [Z9 (BJ a b),.bool (q38 a b)]):=by
 refine Fn.of (n:=34) Tryz.func166 rfl rfl rfl (nU rfl) fun C hC hD=>?_;refine z5 4 [] [] [] (V2 0 1) Zt O O (⟨O,_,R.box (gV 0 O) O O (nU O),⟨O,_,R.box (gV 1 O) O O (nU O),(Q7 O O ⟨O,_,j4 (kB false O) O (nU O),tV (V3 2 3 4) (d7 4 3 2) 34 O O O ?_⟩)⟩⟩);refine q9 1 (y1 6) (V4 2 3 4 6) ⟨aU<|zK (kN O) O O,Zt⟩ ?_;refine q9 1 (y1 7) (V5 2 3 4 6 7) ⟨aU<|zK (kI 0 O) O O,Zt⟩ ?_;refine W.seq (q9 1 (y1 8) (V6 2 3 4 6 7 8) ⟨aU<|zK (kI 0 O) O O,Zt⟩ ?_);refine W.block ?_;refine X5 (s:=6) 3 1 O ?_;refine W.loop (α:={q__:Nat//q__<=256}) (fun q__=>⟨34,[(2,.ptr 2 0 []),(3,.ptr 3 0 []),(4,.ptr 4 0 []),(6,.sl (some 3) 1 ((XI a b q__.1).map K6)),(7,.int ((XF a b q__.1:Nat):Int)),(8,.int ((q__.1:Nat):Int))],[(4,.var (Z9 w9)),(3,.var (Z9 b)),(2,.var (Z9 a))]⟩) (fun q__=>256-q__.1) ⟨(0),bU⟩ O ?_;rintro ⟨i,hi⟩;show W _ _ _ _ ⟨34,[(2,.ptr 2 0 []),(3,.ptr 3 0 []),(4,.ptr 4 0 []),(6,.sl (some 3) 1 ((XI a b i).map K6)),(7,.int ((XF a b i:Nat):Int)),(8,.int ((i:Nat):Int))],[(4,.var (Z9 w9)),(3,.var (Z9 b)),(2,.var (Z9 a))]⟩;have hi:i<=256:=hi;have h1:=F7 a i;have h2:=F7 b i;have h3:=k27 a b i;have hll:=PR a b i;refine W.seq (q9 2 (y2 10 11) (V7 2 3 4 6 7 8 11) ⟨mU 8 O O,aU<|KO 256 O O O,Zt⟩ ?_);refine z6 O (fun hc11=>?_) (fun hc11=>?_)
 ·refine W.skip (W.seq (W.block (W.seq ?_)));refine W.dr (m:=10) (an:=[0,0,3,0,0,31,63,0,255,511]) hP dU O (its:=[.y 14 _,.y 15 _,.y 16 _,.y 17 _,.y 18 _,.y 19 _,.y 20 _,.y 21 _,.y 22 _,.y 9 _]) (ks:=[]) (kk:=[]) (env':=(V6 2 3 4 6 8 9)) (⟨nU O,O,⟨aU (lU 2 O O O O O O O),mU 8 O O,aU<|zD hC (P5 a i ha bO) O O O O O O (F1 (.int _)) O,aU (lU 3 O O O O O O O),mU 8 O O,aU<|zD hC (P5 b i hlb bO) O O O O O O (F1 (.int _)) O,aU<|zP O O bU O,mU 7 O O,aU<|zP O O bU O,aU<|zA O O O,Zt⟩,O,O,O⟩) O (bx':=(d7 4 3 2)) O (n':=34) O (tV (V6 2 3 4 6 8 9) (d7 4 3 2) 34 O O O ?_);refine z5 6 (y6 23 24 25 26 27 6) [(4,6),(5,27),(5,23)] [(4,6),(5,27)] (V6 2 3 4 6 8 9) ⟨aU<|zM O O,mU 9 O O,aU fun _ _ H K=>E3 (((p9 a i+p9 b i)+XF a b i)) (2) (eU K 24 O) (kI 2 O) bU H,aU fun _ _ H K=>w8 (z:=1) (.cons (eU K 25 O) .nil) ⟨⟨O,O,O⟩,Zt⟩ O H dU,aU<|QH O O O (g6 O) (show _=((XI a b (i+1)).map K6) from(by rw[XI,List.map_append];rfl)) bU O,aU<|zO O O O,Zt⟩ O O (tU O ?_);refine z8 3 (y3 28 29 7) (V6 2 3 4 6 7 8) ⟨mU 9 O O,aU fun _ _ H K=>C7 (((p9 a i+p9 b i)+XF a b i)) (2) (eU K 28 O) (kI 2 O) bU bU H,aU<|zA O O O,Zt⟩ ?_;refine z8 3 (y3 12 13 8) (V6 2 3 4 6 7 8) ⟨mU 8 O O,aU<|Q6 1 O O bU O,aU<|zA O O O,Zt⟩ ?_;exact⟨⟨(i+1),bU⟩,rfl,(by simp only[];omega)⟩
 ·obtain rfl:i=256:=by omega
  refine W.exit (z5 6 (y4 30 31 32 33) [] [] (V3 4 31 33) ⟨aU<|zM O O,aU fun _ _ H K=>w6 hC (R2 (XI a b 256) (by rw[PR];decide)) (Bc (Bor.sc (SC.al (K 30 _ O) (K 6 _ O)) (j2 (fun _=>rfl))) Bn) (F1 (n1 _)) H,mU 7 O O,aU<|KD 1 O O O,Zt⟩ O O (d5 O O O O O (P8 O O O (tV (V2 4 5) (d7 4 3 2) 34 O O O ?_))));refine W.ret ?_;exact Ends.many (.inr O) (.cons O O O (iL 217 4) (.cons O O O Zt .nil)) (by unfold BJ q38;rfl) (show[(4,false),(5,true)].Nodup by decide)
theorem TR(a b:Bg)(ha:a.length=4)(hlb:b.length=4):Fn Tryz.prog gl 170 [Z9 a,Z9 b] (.tup [Z9 (q37 a b),.bool (decide (D9 a b 256=1))]):=by
 refine Fn.of (n:=35) Tryz.func170 rfl rfl rfl (nU rfl) fun C hC hD=>?_;refine z5 4 [] [] [] (V2 0 1) Zt O O (⟨O,_,R.box (gV 0 O) O O (nU O),⟨O,_,R.box (gV 1 O) O O (nU O),(Q7 O O ⟨O,_,j4 (kB false O) O (nU O),tV (V3 2 3 4) (d7 4 3 2) 35 O O O ?_⟩)⟩⟩);refine q9 1 (y1 6) (V4 2 3 4 6) ⟨aU<|zK (kN O) O O,Zt⟩ ?_;refine q9 1 (y1 7) (V5 2 3 4 6 7) ⟨aU<|zK (kI 0 O) O O,Zt⟩ ?_;refine W.seq (q9 1 (y1 8) (V6 2 3 4 6 7 8) ⟨aU<|zK (kI 0 O) O O,Zt⟩ ?_);refine W.block ?_;refine X5 (s:=6) 3 1 O ?_;refine W.loop (α:={q__:Nat//q__<=256}) (fun q__=>⟨35,[(2,.ptr 2 0 []),(3,.ptr 3 0 []),(4,.ptr 4 0 []),(6,.sl (some 3) 1 ((R3 a b q__.1).map K6)),(7,.int ((D9 a b q__.1:Nat):Int)),(8,.int ((q__.1:Nat):Int))],[(4,.var (Z9 w9)),(3,.var (Z9 b)),(2,.var (Z9 a))]⟩) (fun q__=>256-q__.1) ⟨(0),bU⟩ O ?_;rintro ⟨i,hi⟩;show W _ _ _ _ ⟨35,[(2,.ptr 2 0 []),(3,.ptr 3 0 []),(4,.ptr 4 0 []),(6,.sl (some 3) 1 ((R3 a b i).map K6)),(7,.int ((D9 a b i:Nat):Int)),(8,.int ((i:Nat):Int))],[(4,.var (Z9 w9)),(3,.var (Z9 b)),(2,.var (Z9 a))]⟩;have hi:i<=256:=hi;have h1:=F7 a i;have h2:=F7 b i;have h3:=FG a b i;have hll:=PI a b i;refine W.seq (q9 2 (y2 10 11) (V7 2 3 4 6 7 8 11) ⟨mU 8 O O,aU<|KO 256 O O O,Zt⟩ ?_);refine z6 O (fun hc11=>?_) (fun hc11=>?_)
 ·refine W.skip (W.seq (W.block (W.seq ?_)));refine W.dr (m:=10) (an:=[0,0,3,0,0,31,63,0,255,511]) hP dU O (its:=[.y 14 _,.y 15 _,.y 16 _,.y 17 _,.y 18 _,.y 19 _,.y 20 _,.y 21 _,.y 22 _,.y 9 _]) (ks:=[]) (kk:=[]) (env':=(V6 2 3 4 6 8 9)) (⟨nU O,O,⟨aU (lU 2 O O O O O O O),mU 8 O O,aU<|zD hC (P5 a i ha bO) O O O O O O (F1 (.int _)) O,aU (lU 3 O O O O O O O),mU 8 O O,aU<|zD hC (P5 b i hlb bO) O O O O O O (F1 (.int _)) O,aU fun _ _ H K=>c8 (d:=.int (((p9 a i:Nat):Int)-((p9 b i:Nat):Int))) (eU K 16 O) (eU K 19 O) O Zt (C9 bO bO bO) H,mU 7 O O,aU fun _ _ H K=>c8 (d:=.int (((p9 a i:Nat):Int)-((p9 b i:Nat):Int)-((D9 a b i:Nat):Int))) (eU K 20 O) (eU K 21 O) O Zt (C9 bO bO bO) H,aU<|zA O O O,Zt⟩,O,O,O⟩) O (bx':=(d7 4 3 2)) O (n':=35) O (tV (V6 2 3 4 6 8 9) (d7 4 3 2) 35 O O O ?_);refine q9 1 (y1 7) (V7 2 3 4 6 7 8 9) ⟨aU<|zK (kI 0 O) O O,Zt⟩ ?_;refine W.seq (q9 2 (y2 23 24) (V8 2 3 4 6 7 8 9 24) ⟨mU 9 O O,aU<|B6 O (kI 0 O) O O,Zt⟩ ?_);refine W.cond O (fun hc24=>?_) (fun hc24=>?_)
  ·refine q9 3 (y3 25 26 9) (V6 2 3 4 6 8 9) ⟨mU 9 O O,aU fun _ _ H K=>c8 (d:=.int (((p9 a i:Nat):Int)-((p9 b i:Nat):Int)-((D9 a b i:Nat):Int)+2)) (eU K 25 O) (kI 2 O) O Zt (C9 bO bO bO) H,aU<|zA O O O,Zt⟩ ?_;refine z8 1 (y1 7) (V7 2 3 4 6 7 8 9) ⟨aU<|zK (kI 1 O) O O,Zt⟩ ?_;refine u4 5 (y5 27 28 29 30 6) [(3,6),(4,30),(4,27)] [(3,6),(4,30)] (V6 2 3 4 6 7 8) ⟨aU<|zM O O,mU 9 O O,aU fun _ _ H K=>w8 (z:=1) (.cons (eU K 28 O) .nil) ⟨⟨O,O,O⟩,Zt⟩ O H dU,aU<|QH O O O (g6 O) (show _=((R3 a b (i+1)).map K6) from(by first|exact q74 (of_decide_eq_true hc24)|exact q75 (of_decide_eq_false hc24))) bU O,aU<|zO O O O,Zt⟩ O O (tU O ?_);refine z8 3 (y3 12 13 8) (V6 2 3 4 6 7 8) ⟨mU 8 O O,aU<|Q6 1 O O bU O,aU<|zA O O O,Zt⟩ ?_;exact⟨⟨(i+1),bU⟩,(by first|(rw[q72 (of_decide_eq_true hc24)]<;>rfl)|(rw[q73 (of_decide_eq_false hc24)]<;>rfl)),(by simp only[];omega)⟩
  ·refine W.skip ?_;refine u4 5 (y5 27 28 29 30 6) [(3,6),(4,30),(4,27)] [(3,6),(4,30)] (V6 2 3 4 6 7 8) ⟨aU<|zM O O,mU 9 O O,aU fun _ _ H K=>w8 (z:=1) (.cons (eU K 28 O) .nil) ⟨⟨O,O,O⟩,Zt⟩ O H dU,aU<|QH O O O (g6 O) (show _=((R3 a b (i+1)).map K6) from(by first|exact q74 (of_decide_eq_true hc24)|exact q75 (of_decide_eq_false hc24))) bU O,aU<|zO O O O,Zt⟩ O O (tU O ?_);refine z8 3 (y3 12 13 8) (V6 2 3 4 6 7 8) ⟨mU 8 O O,aU<|Q6 1 O O bU O,aU<|zA O O O,Zt⟩ ?_;exact⟨⟨(i+1),bU⟩,(by first|(rw[q72 (of_decide_eq_true hc24)]<;>rfl)|(rw[q73 (of_decide_eq_false hc24)]<;>rfl)),(by simp only[];omega)⟩
 ·obtain rfl:i=256:=by omega
  refine W.exit (z5 6 (y4 31 32 33 34) [] [] (V3 4 32 34) ⟨aU<|zM O O,aU fun _ _ H K=>w6 hC (R2 (R3 a b 256) (by rw[PI];decide)) (Bc (Bor.sc (SC.al (K 31 _ O) (K 6 _ O)) (j2 (fun _=>rfl))) Bn) (F1 (n1 _)) H,mU 7 O O,aU<|KD 1 O O O,Zt⟩ O O (d5 O O O O O (P8 O O O (tV (V2 4 5) (d7 4 3 2) 35 O O O ?_))));refine W.ret ?_;exact Ends.many (.inr O) (.cons O O O (iL 217 4) (.cons O O O Zt .nil)) (by unfold q37;rfl) (show[(4,false),(5,true)].Nodup by decide)
theorem LW(a:Bg)(n:Nat)(ha:a.length=4)(hn:n<=100000):Fn Tryz.prog gl 154 [Z9 a,.int ((n:Nat):Int)] (Z9 (UK a n)):=by
 refine Fn.of (n:=29) Tryz.func154 rfl rfl rfl (nU rfl) fun C hC hD=>?_;refine z5 2 [] [] [] (V2 0 1) Zt O O (⟨O,_,R.box (gV 0 O) O O (nU O),(Q7 O O (tV (V3 1 2 4) (p7 4 2) 29 O O O ?_))⟩);refine W.seq (q9 2 (y2 7 8) (V4 1 2 4 8) ⟨mU 1 O O,aU fun _ _ H K=>DW (n) (0) (eU K 7 O) (kI 0 O) H,Zt⟩ ?_);refine z6 O (fun hc8=>?_) (fun hc8=>?_)
 ·refine z5 2 (y1 9) [] [] (V2 4 9) ⟨aU (lU 2 O O O O O O O),Zt⟩ O O (d5 O O O O O (tV (V1 4) (p7 4 2) 29 O O O ?_));refine W.ret ?_;exact q8 (.inr rfl) rfl (by obtain rfl:n=0:=bO;rw[x94]) rfl rfl (iL 217 4)
 ·refine W.skip (q9 1 (y1 5) (V4 1 2 4 5) ⟨aU<|zK (kN O) O O,Zt⟩ ?_);refine W.seq (q9 1 (y1 6) (V5 1 2 4 5 6) ⟨aU<|zK (kI 0 O) O O,Zt⟩ ?_);refine W.block ?_;refine X5 (s:=5) 3 1 O ?_;refine W.loop (α:={q__:Nat//q__<=256}) (fun q__=>⟨29,[(1,.int ((n:Nat):Int)),(2,.ptr 2 0 []),(4,.ptr 4 0 []),(5,.sl (some 3) 1 ((FS a n q__.1).map K6)),(6,.int ((q__.1:Nat):Int))],[(4,.var (Z9 w9)),(2,.var (Z9 a))]⟩) (fun q__=>256-q__.1) ⟨(0),bU⟩ O ?_;rintro ⟨i,hi⟩;show W _ _ _ _ ⟨29,[(1,.int ((n:Nat):Int)),(2,.ptr 2 0 []),(4,.ptr 4 0 []),(5,.sl (some 3) 1 ((FS a n i).map K6)),(6,.int ((i:Nat):Int))],[(4,.var (Z9 w9)),(2,.var (Z9 a))]⟩;have hi:i<=256:=hi;have hll:=RL a n i;refine W.seq (q9 2 (y2 10 11) (V6 1 2 4 5 6 11) ⟨mU 6 O O,aU<|KO 256 O O O,Zt⟩ ?_);refine z6 O (fun hc11=>?_) (fun hc11=>?_)
  ·refine W.skip (W.seq (W.block (q9 2 (y2 14 15) (V6 1 2 4 5 6 15) ⟨mU 1 O O,aU<|l5 256 O O O,Zt⟩ ?_)));refine z6 O (fun hc15=>?_) (fun hc15=>?_)
   ·refine u4 4 (y4 16 17 18 5) [(2,5),(3,18),(3,16)] [(2,5),(3,18)] (V5 1 2 4 5 6) ⟨aU<|zM O O,aU fun _ _ H _=>w8 (z:=1) (.cons (kI 0 O) .nil) ⟨⟨O,O,O⟩,Zt⟩ O H dU,aU<|QH O O O (g6 O) (show _=((FS a n (i+1)).map K6) from(FL (if_pos (.inl hc15)))) bU O,aU<|zO O O O,Zt⟩ O O (tU O ?_);refine z8 3 (y3 12 13 6) (V5 1 2 4 5 6) ⟨mU 6 O O,aU<|Q6 1 O O bU O,aU<|zA O O O,Zt⟩ ?_;exact⟨⟨(i+1),bU⟩,rfl,(by simp only[];omega)⟩
   ·by_cases hin:i<n
    ·refine u4 9 (y9 19 20 21 22 23 24 25 26 5) [(7,5),(8,26),(8,19)] [(7,5),(8,26)] (V5 1 2 4 5 6) ⟨aU<|zM O O,aU (lU 2 O O O O O O O),mU 6 O O,mU 1 O O,aU fun _ _ H K=>c8 (d:=.int (((i:Nat):Int)-((n:Nat):Int))) (eU K 21 O) (eU K 22 O) O Zt (C9 bO bO bO) H,aU<|zD hC (j41 a (((i:Nat):Int)-((n:Nat):Int)) bO bO) O O O O O O (F1 (.int _)) O,aU fun _ _ H K=>w8 (z:=1) (.cons (eU K 24 O) .nil) ⟨⟨O,O,O⟩,Zt⟩ O H dU,aU<|QH O O O (g6 O) (show _=((FS a n (i+1)).map K6) from(FL (if_pos (.inr hin)))) bU O,aU<|zO O O O,Zt⟩ O O (tU O ?_);refine z8 3 (y3 12 13 6) (V5 1 2 4 5 6) ⟨mU 6 O O,aU<|Q6 1 O O bU O,aU<|zA O O O,Zt⟩ ?_;exact⟨⟨(i+1),bU⟩,rfl,(by simp only[];omega)⟩
    ·refine u4 9 (y9 19 20 21 22 23 24 25 26 5) [(7,5),(8,26),(8,19)] [(7,5),(8,26)] (V5 1 2 4 5 6) ⟨aU<|zM O O,aU (lU 2 O O O O O O O),mU 6 O O,mU 1 O O,aU<|zQ O O bU bU O,aU<|zD hC (P5 a (i-n) ha bO) O O O O O O (F1 (.int _)) O,aU fun _ _ H K=>w8 (z:=1) (.cons (eU K 24 O) .nil) ⟨⟨O,O,O⟩,Zt⟩ O H dU,aU<|QH O O O (g6 O) (show _=((FS a n (i+1)).map K6) from(FL (if_neg bO))) bU O,aU<|zO O O O,Zt⟩ O O (tU O ?_);refine z8 3 (y3 12 13 6) (V5 1 2 4 5 6) ⟨mU 6 O O,aU<|Q6 1 O O bU O,aU<|zA O O O,Zt⟩ ?_;exact⟨⟨(i+1),bU⟩,rfl,(by simp only[];omega)⟩
  ·obtain rfl:i=256:=by omega
   refine W.exit (z5 3 (y2 27 28) [] [] (V2 4 28) ⟨aU<|zM O O,aU fun _ _ H K=>w6 hC (R2 (FS a n 256) (by rw[RL];decide)) (Bc (Bor.sc (SC.al (K 27 _ O) (K 5 _ O)) (j2 (fun _=>rfl))) Bn) (F1 (n1 _)) H,Zt⟩ O O (d5 O O O O O (tV (V1 4) (p7 4 2) 29 O O O ?_)));refine W.ret ?_;exact q8 (.inr O) O (by rw[x93 hc8]) O O (iL 217 4)
theorem XE(a:Bg)(n:Nat)(ha:a.length=4)(hn:n<=100000):Fn Tryz.prog gl 153 [Z9 a,.int ((n:Nat):Int)] (Z9 (H3 a n)):=by
 refine Fn.of (n:=29) Tryz.func153 rfl rfl rfl (nU rfl) fun C hC hD=>?_;refine z5 2 [] [] [] (V2 0 1) Zt O O (⟨O,_,R.box (gV 0 O) O O (nU O),(Q7 O O (tV (V3 1 2 4) (p7 4 2) 29 O O O ?_))⟩);refine W.seq (q9 2 (y2 7 8) (V4 1 2 4 8) ⟨mU 1 O O,aU fun _ _ H K=>DW (n) (0) (eU K 7 O) (kI 0 O) H,Zt⟩ ?_);refine z6 O (fun hc8=>?_) (fun hc8=>?_)
 ·refine z5 2 (y1 9) [] [] (V2 4 9) ⟨aU (lU 2 O O O O O O O),Zt⟩ O O (d5 O O O O O (tV (V1 4) (p7 4 2) 29 O O O ?_));refine W.ret ?_;exact q8 (.inr rfl) rfl (by obtain rfl:n=0:=bO;rw[j25]) rfl rfl (iL 217 4)
 ·refine W.skip (q9 1 (y1 5) (V4 1 2 4 5) ⟨aU<|zK (kN O) O O,Zt⟩ ?_);refine W.seq (q9 1 (y1 6) (V5 1 2 4 5 6) ⟨aU<|zK (kI 0 O) O O,Zt⟩ ?_);refine W.block ?_;refine X5 (s:=5) 3 1 O ?_;refine W.loop (α:={q__:Nat//q__<=256}) (fun q__=>⟨29,[(1,.int ((n:Nat):Int)),(2,.ptr 2 0 []),(4,.ptr 4 0 []),(5,.sl (some 3) 1 ((S6 a n q__.1).map K6)),(6,.int ((q__.1:Nat):Int))],[(4,.var (Z9 w9)),(2,.var (Z9 a))]⟩) (fun q__=>256-q__.1) ⟨(0),bU⟩ O ?_;rintro ⟨i,hi⟩;show W _ _ _ _ ⟨29,[(1,.int ((n:Nat):Int)),(2,.ptr 2 0 []),(4,.ptr 4 0 []),(5,.sl (some 3) 1 ((S6 a n i).map K6)),(6,.int ((i:Nat):Int))],[(4,.var (Z9 w9)),(2,.var (Z9 a))]⟩;have hi:i<=256:=hi;have hll:=PB a n i;refine W.seq (q9 2 (y2 10 11) (V6 1 2 4 5 6 11) ⟨mU 6 O O,aU<|KO 256 O O O,Zt⟩ ?_);refine z6 O (fun hc11=>?_) (fun hc11=>?_)
  ·refine W.skip (W.seq (W.block (q9 2 (y2 14 15) (V6 1 2 4 5 6 15) ⟨mU 1 O O,aU<|l5 256 O O O,Zt⟩ ?_)));refine z6 O (fun hc15=>?_) (fun hc15=>?_)
   ·refine u4 4 (y4 16 17 18 5) [(2,5),(3,18),(3,16)] [(2,5),(3,18)] (V5 1 2 4 5 6) ⟨aU<|zM O O,aU fun _ _ H _=>w8 (z:=1) (.cons (kI 0 O) .nil) ⟨⟨O,O,O⟩,Zt⟩ O H dU,aU<|QH O O O (g6 O) (show _=((S6 a n (i+1)).map K6) from(ES (if_pos hc15))) bU O,aU<|zO O O O,Zt⟩ O O (tU O ?_);refine z8 3 (y3 12 13 6) (V5 1 2 4 5 6) ⟨mU 6 O O,aU<|Q6 1 O O bU O,aU<|zA O O O,Zt⟩ ?_;exact⟨⟨(i+1),bU⟩,rfl,(by simp only[];omega)⟩
   ·refine u4 9 (y9 19 20 21 22 23 24 25 26 5) [(7,5),(8,26),(8,19)] [(7,5),(8,26)] (V5 1 2 4 5 6) ⟨aU<|zM O O,aU (lU 2 O O O O O O O),mU 6 O O,mU 1 O O,aU<|zP O O bU O,aU<|zD hC (P5 a (i+n) ha bO) O O O O O O (F1 (.int _)) O,aU fun _ _ H K=>w8 (z:=1) (.cons (eU K 24 O) .nil) ⟨⟨O,O,O⟩,Zt⟩ O H dU,aU<|QH O O O (g6 O) (show _=((S6 a n (i+1)).map K6) from(ES (if_neg hc15))) bU O,aU<|zO O O O,Zt⟩ O O (tU O ?_);refine z8 3 (y3 12 13 6) (V5 1 2 4 5 6) ⟨mU 6 O O,aU<|Q6 1 O O bU O,aU<|zA O O O,Zt⟩ ?_;exact⟨⟨(i+1),bU⟩,rfl,(by simp only[];omega)⟩
  ·obtain rfl:i=256:=by omega
   refine W.exit (z5 3 (y2 27 28) [] [] (V2 4 28) ⟨aU<|zM O O,aU fun _ _ H K=>w6 hC (R2 (S6 a n 256) (by rw[PB];decide)) (Bc (Bor.sc (SC.al (K 27 _ O) (K 5 _ O)) (j2 (fun _=>rfl))) Bn) (F1 (n1 _)) H,Zt⟩ O O (d5 O O O O O (tV (V1 4) (p7 4 2) 29 O O O ?_)));refine W.ret ?_;exact q8 (.inr O) O (by rw[j24 hc8]) O O (iL 217 4)
theorem j36(h:Hs)(hh:h.length=32):Fn Tryz.prog gl 157 [z7 h] (Z9 (II h)):=by
 refine Fn.of (n:=24) Tryz.func157 rfl rfl rfl (nU rfl) fun C hC hD=>?_;refine z5 2 [] [] [] (V1 0) Zt O O (⟨O,_,R.box (gV 0 O) O O (nU O),(Q7 O O (tV (V2 1 2) (p7 2 1) 24 O O O ?_))⟩);refine q9 1 (y1 3) (V3 1 2 3) ⟨aU<|zK (kN O) O O,Zt⟩ ?_;refine W.seq (q9 1 (y1 4) (V4 1 2 3 4) ⟨aU<|zK (kI 0 O) O O,Zt⟩ ?_);refine W.block ?_;refine X5 (s:=3) 3 1 O ?_;refine W.loop (α:={q__:Nat//q__<=256}) (fun q__=>⟨24,[(1,.ptr 1 0 []),(2,.ptr 2 0 []),(3,.sl (some 3) 1 ((CS h q__.1).map K6)),(4,.int ((q__.1:Nat):Int))],[(2,.var (Z9 w9)),(1,.var (z7 h))]⟩) (fun q__=>256-q__.1) ⟨(0),bU⟩ O ?_;rintro ⟨i,hi⟩;show W _ _ _ _ ⟨24,[(1,.ptr 1 0 []),(2,.ptr 2 0 []),(3,.sl (some 3) 1 ((CS h i).map K6)),(4,.int ((i:Nat):Int))],[(2,.var (Z9 w9)),(1,.var (z7 h))]⟩;have hi:i<=256:=hi;have hll:=AT h i;refine W.seq (q9 2 (y2 5 6) (V5 1 2 3 4 6) ⟨mU 4 O O,aU<|KO 256 O O O,Zt⟩ ?_);refine z6 O (fun hc6=>?_) (fun hc6=>?_)
 ·refine W.skip (W.seq (W.block ?_));refine u4 14 (w51 9 10 11 12 13 14 15 16 17 18 19 20 21 3) [(12,3),(13,21),(13,9)] [(12,3),(13,21)] (V4 1 2 3 4) ⟨aU<|zM O O,mU 4 O O,aU fun _ _ H K=>C7 (i) (8) (eU K 10 O) (kI 8 O) bU bU H,aU<|PT ((i/8)) O O O bU O,aU fun _ B H K=>R.ldP (K 12 _ O) (B 1 _ O) (v9 (mG h) v8 bU) O O O H,mU 4 O O,aU fun _ _ H K=>E3 (i) (8) (eU K 14 O) (kI 8 O) bU H,aU<|zW O O O,aU fun _ _ H K=>c8 (d:=.u8 (QF h[i/8]! (i%8))) (eU K 13 O) (eU K 16 O) O bV (congrArg D.u8 (k71 _ _ bO)) H,aU<|B6 O (kW (.int .u8 1) (.u8 1) O) O O,aU<|zW O O O,aU fun _ _ H K=>w8 (z:=1) (.cons (eU K 19 O) .nil) ⟨⟨O,O,O⟩,Zt⟩ O H dU,aU<|QH O O O (g6 O) (show _=((CS h (i+1)).map K6) from(by rw[q01,List.map_append];rfl)) bU O,aU<|zO O O O,Zt⟩ O O (tU O ?_);refine z8 3 (y3 7 8 4) (V4 1 2 3 4) ⟨mU 4 O O,aU<|Q6 1 O O bU O,aU<|zA O O O,Zt⟩ ?_;exact⟨⟨(i+1),bU⟩,rfl,(by simp only[];omega)⟩
 ·obtain rfl:i=256:=by omega
  refine W.exit (z5 3 (y2 22 23) [] [] (V2 2 23) ⟨aU<|zM O O,aU fun _ _ H K=>w6 hC (R2 (CS h 256) (by rw[AT];decide)) (Bc (Bor.sc (SC.al (K 22 _ O) (K 3 _ O)) (j2 (fun _=>rfl))) Bn) (F1 (n1 _)) H,Zt⟩ O O (d5 O O O O O (tV (V1 2) (p7 2 1) 24 O O O ?_)));refine W.ret ?_;exact q8 (.inr O) O (by rw[II]) O O (iL 217 4)
theorem HW(a:Bg)(ha:a.length=4):Fn Tryz.prog gl 155 [Z9 a] (.int ((UY a:Nat):Int)):=by
 refine Fn.of (n:=16) Tryz.func155 rfl rfl rfl (nU rfl) fun C hC hD=>?_;refine z5 2 [] [] [] (V1 0) Zt O O (⟨O,_,R.box (gV 0 O) O O (nU O),⟨O,_,j4 (kI 0 O) O (nU O),tV (V1 1) (p6 1) 16 O O O ?_⟩⟩);refine q9 1 (y1 3) (V2 1 3) ⟨aU<|zK (kI 0 O) O O,Zt⟩ ?_;refine W.seq (q9 1 (y1 4) (V3 1 3 4) ⟨aU<|zK (kI 0 O) O O,Zt⟩ ?_);refine W.block ?_;refine W.loop (α:={q__:Nat//q__<=256}) (fun q__=>⟨16,[(1,.ptr 1 0 []),(3,.int ((z37 a q__.1:Nat):Int)),(4,.int ((q__.1:Nat):Int))],[(1,.var (Z9 a))]⟩) (fun q__=>256-q__.1) ⟨(0),bU⟩ O ?_;rintro ⟨i,hi⟩;show W _ _ _ _ ⟨16,[(1,.ptr 1 0 []),(3,.int ((z37 a i:Nat):Int)),(4,.int ((i:Nat):Int))],[(1,.var (Z9 a))]⟩;have hi:i<=256:=hi;have hnl:=z36 a i;refine W.seq (q9 2 (y2 5 6) (V4 1 3 4 6) ⟨mU 4 O O,aU<|KO 256 O O O,Zt⟩ ?_);refine z6 O (fun hc6=>?_) (fun hc6=>?_)
 ·refine W.skip (W.seq (W.block (q9 4 (y4 9 10 11 12) (V4 1 3 4 12) ⟨aU (lU 1 O O O O O O O),mU 4 O O,aU<|zD hC (P5 a i ha bO) O O O O O O (F1 (.int _)) O,aU<|KD 1 O O O,Zt⟩ ?_)));refine z6 O (fun hc12=>?_) (fun hc12=>?_)
  ·refine z8 3 (y3 13 14 3) (V3 1 3 4) ⟨mU 4 O O,aU<|Q6 1 O O bU O,aU<|zA O O O,Zt⟩ ?_;refine z8 3 (y3 7 8 4) (V3 1 3 4) ⟨mU 4 O O,aU<|Q6 1 O O bU O,aU<|zA O O O,Zt⟩ ?_;exact⟨⟨(i+1),bU⟩,(by first|(rw[j69 hc12]<;>rfl)|(rw[j70 hc12]<;>rfl)),(by simp only[];omega)⟩
  ·refine W.skip ?_;refine z8 3 (y3 7 8 4) (V3 1 3 4) ⟨mU 4 O O,aU<|Q6 1 O O bU O,aU<|zA O O O,Zt⟩ ?_;exact⟨⟨(i+1),bU⟩,(by first|(rw[j69 hc12]<;>rfl)|(rw[j70 hc12]<;>rfl)),(by simp only[];omega)⟩
 ·obtain rfl:i=256:=by omega
  refine W.exit (q9 2 (y2 15 2) (V1 2) ⟨mU 3 O O,aU<|zA O O O,Zt⟩ ?_);refine W.ret ?_;exact q8 (.inr O) O (by rw[UY]) O O Zt
end Go.Sx

namespace Go.Sx
open Go.Proofs
theorem O0(a b:Bg):EqV Tryz.prog 2 217 (Z9 a) (Z9 b) (a==b):=q42 a b
end Go.Sx

namespace Go.Sx
open Go.Proofs
theorem DE(a b:Bg)(ha:a.length=4)(hlb:b.length=4):Fn Tryz.prog gl 156 [Z9 a,Z9 b] (.bool (QW a b)):=by
 refine Fn.of (n:=24) Tryz.func156 rfl rfl rfl (nU rfl) fun C hC hD=>?_;refine z5 3 [] [] [] (V2 0 1) Zt O O (⟨O,_,R.box (gV 0 O) O O (nU O),⟨O,_,R.box (gV 1 O) O O (nU O),⟨O,_,j4 (kB false O) O (nU O),tV (V2 2 3) (p7 3 2) 24 O O O ?_⟩⟩⟩);refine W.seq (q9 1 (y1 5) (V3 2 3 5) ⟨aU<|zK (kI 255 O) O O,Zt⟩ ?_);refine W.block ?_;refine W.loop (α:={q__:Nat//q__<=256/\QU a b (256-q__)=QU a b 256}) (fun q__=>⟨24,[(2,.ptr 2 0 []),(3,.ptr 3 0 []),(5,.int ((255:Int)-((q__.1:Nat):Int)))],[(3,.var (Z9 b)),(2,.var (Z9 a))]⟩) (fun q__=>256-q__.1) ⟨(0),⟨Nat.zero_le _,by rw[Nat.sub_zero]⟩⟩ O ?_;rintro ⟨k,⟨hk,hle⟩⟩;show W _ _ _ _ ⟨24,[(2,.ptr 2 0 []),(3,.ptr 3 0 []),(5,.int ((255:Int)-((k:Nat):Int)))],[(3,.var (Z9 b)),(2,.var (Z9 a))]⟩;have hk:k<=256:=hk;have hle:QU a b (256-k)=QU a b 256:=hle;refine W.seq (q9 2 (y2 6 7) (V4 2 3 5 7) ⟨mU 5 O O,aU<|B6 O (kI 0 O) O O,Zt⟩ ?_);refine W.cond O (fun hc7=>?_) (fun hc7=>?_)
 ·refine W.skip (W.seq (W.block (W.seq ?_)));have h7:=of_decide_eq_true hc7;rw[show(255:Int)-((k:Nat):Int)=((255-k:Nat):Int) by omega];refine W.dr (m:=7) (an:=[0,0,3,0,0,31,63]) hP dU O (its:=[.y 10 _,.y 11 _,.y 12 _,.y 13 _,.y 14 _,.y 15 _,.y 16 _]) (ks:=[]) (kk:=[]) (env':=(V4 2 3 5 16)) (⟨nU O,O,⟨aU (lU 2 O O O O O O O),mU 5 O O,aU<|zD hC (P5 a (255-k) ha bO) O O O O O O (F1 (.int _)) O,aU (lU 3 O O O O O O O),mU 5 O O,aU<|zD hC (P5 b (255-k) hlb bO) O O O O O O (F1 (.int _)) O,aU<|x86 O O O,Zt⟩,O,O,O⟩) O (bx':=(p7 3 2)) O (n':=24) O (tV (V4 2 3 5 16) (p7 3 2) 24 O O O ?_);refine z6 O (fun hc16=>?_) (fun hc16=>?_)
  ·refine W.seq ?_;refine W.dr (m:=8) (an:=[0,0,3,0,0,31,63,127]) hP dU O (its:=[.y 17 _,.y 18 _,.y 19 _,.y 20 _,.y 21 _,.y 22 _,.y 23 _,.y 4 _]) (ks:=[]) (kk:=[]) (env':=(V1 4)) (⟨nU O,O,⟨aU (lU 2 O O O O O O O),mU 5 O O,aU<|zD hC (P5 a (255-k) ha bO) O O O O O O (F1 (.int _)) O,aU (lU 3 O O O O O O O),mU 5 O O,aU<|zD hC (P5 b (255-k) hlb bO) O O O O O O (F1 (.int _)) O,aU<|zS O O O,aU<|zA O O O,Zt⟩,O,O,O⟩) O (bx':=(p7 3 2)) O (n':=24) O (tV (V1 4) (p7 3 2) 24 O O O ?_);refine W.ret ?_;exact q8 (.inr O) O (by rw[QW,<- hle,show 256-k=255-k+1 by omega,j01 hc16]) O O Zt
  ·refine W.skip ?_;refine z8 3 (y3 8 9 5) (V3 2 3 5) ⟨mU 5 O O,aU fun _ _ H K=>c8 (d:=.int ((255:Int)-((k+1:Nat):Int))) (eU K 8 O) (kI 1 O) O Zt (C9 bO bO bO) H,aU<|zA O O O,Zt⟩ ?_;exact⟨⟨(k+1),⟨by omega,by rw[<- hle,show 256-k=255-k+1 by omega,j02 hc16,show 256-(k+1)=255-k by omega]⟩⟩,rfl,(by simp only[];omega)⟩
 ·have h7:=of_decide_eq_false hc7
  obtain rfl:k=256:=by omega
  refine W.exit (q9 1 (y1 4) (V1 4) ⟨aU<|zK (kB false O) O O,Zt⟩ ?_);refine W.ret ?_;exact q8 (.inr O) O (by rw[QW,<- hle,Nat.sub_self,QU]) O O Zt
theorem TT(a:Bg)(n:UInt64)(ha:a.length=4):Fn Tryz.prog gl 165 [Z9 a,.u64 n] (.tup [Z9 (B5 a n),.u64 (PL a n)]):=by
 refine Fn.of (n:=66) Tryz.func165 rfl rfl rfl (nU rfl) fun C hC hD=>?_;refine z5 3 [] [] [] (V2 0 1) Zt O O (⟨O,_,R.box (gV 0 O) O O (nU O),(Q7 O O ⟨O,_,j4 (kW (.int .u64 0) (.u64 0) O) O (nU O),tV (V3 1 2 4) (p7 4 2) 66 O O O ?_⟩)⟩);refine z5 2 (y2 13 6) [(1,13)] [(1,13)] (V4 1 2 4 6) ⟨aU fun _ _ H _=>R.mk (n:=320) (kI 320 O) (kI 320 O) bU dU H,aU<|zO O O O,Zt⟩ O O (tU O ?_);refine W.seq (q9 1 (y1 7) (V5 1 2 4 6 7) ⟨aU<|zK (kI 0 O) O O,Zt⟩ ?_);refine W.block ?_;refine W.loop (α:={q__:Nat//q__<=64}) (fun q__=>⟨66,[(1,.u64 n),(2,.ptr 2 0 []),(4,.ptr 4 0 []),(6,.sl (some 3) 1 ((G3 a n q__.1).map K6)),(7,.int ((q__.1:Nat):Int))],[(4,.var (Z9 w9)),(2,.var (Z9 a))]⟩) (fun q__=>64-q__.1) ⟨(0),bU⟩ (by rw[x33,zl];rfl) ?_;rintro ⟨k,hk⟩;show W _ _ _ _ ⟨66,[(1,.u64 n),(2,.ptr 2 0 []),(4,.ptr 4 0 []),(6,.sl (some 3) 1 ((G3 a n k).map K6)),(7,.int ((k:Nat):Int))],[(4,.var (Z9 w9)),(2,.var (Z9 a))]⟩;have hk:k<=64:=hk;have hml:=DQ a n k;have hmb:=z40 a n k;refine W.seq (q9 2 (y2 14 15) (V6 1 2 4 6 7 15) ⟨mU 7 O O,aU<|KO 64 O O O,Zt⟩ ?_);refine z6 O (fun hc15=>?_) (fun hc15=>?_)
 ·refine W.skip (W.seq (W.block (W.seq (q9 6 (y6 18 19 20 21 22 23) (V6 1 2 4 6 7 23) ⟨mU 1 O O,mU 7 O O,aU<|zW O O O,aU fun _ _ H K=>c8 (d:=.u64 (Z6 n k)) (eU K 18 O) (eU K 20 O) O bV (congrArg D.u64 (q79 _ _ bO)) H,aU<|B6 O (kW (.int .u64 1) (.u64 1) O) O O,aU<|B6 O (kW (.int .u64 0) (.u64 0) O) O O,Zt⟩ ?_))));refine W.cond O (fun hc23=>?_) (fun hc23=>?_)
  ·refine W.exit ?_;refine z8 3 (y3 16 17 7) (V5 1 2 4 6 7) ⟨mU 7 O O,aU<|Q6 1 O O bU O,aU<|zA O O O,Zt⟩ ?_;exact⟨⟨(k+1),bU⟩,(by first|(rw[z39 (eq_of_beq hc23)]<;>rfl)|(rw[z38 (ne_of_beq_false hc23)]<;>rfl)),(by simp only[];omega)⟩
  ·refine W.skip (q9 1 (y1 8) (V6 1 2 4 6 7 8) ⟨aU<|zK (kI 0 O) O O,Zt⟩ ?_);refine q9 2 (y2 24 9) (V7 1 2 4 6 7 8 9) ⟨mU 7 O O,aU<|zA O O O,Zt⟩ ?_;refine W.block ?_;refine W.loop (α:={q__:Nat//q__<=320-k}) (fun q__=>⟨66,[(1,.u64 n),(2,.ptr 2 0 []),(4,.ptr 4 0 []),(6,.sl (some 3) 1 ((J9 a k (G3 a n k) q__.1).1.map K6)),(7,.int ((k:Nat):Int)),(8,.int (((J9 a k (G3 a n k) q__.1).2:Nat):Int)),(9,.int (((k+q__.1):Nat):Int))],[(4,.var (Z9 w9)),(2,.var (Z9 a))]⟩) (fun q__=>320-k-q__.1) ⟨(0),bU⟩ (by rw[x32]<;>rfl) ?_;rintro ⟨j,hj⟩;show W _ _ _ _ ⟨66,[(1,.u64 n),(2,.ptr 2 0 []),(4,.ptr 4 0 []),(6,.sl (some 3) 1 ((J9 a k (G3 a n k) j).1.map K6)),(7,.int ((k:Nat):Int)),(8,.int (((J9 a k (G3 a n k) j).2:Nat):Int)),(9,.int (((k+j):Nat):Int))],[(4,.var (Z9 w9)),(2,.var (Z9 a))]⟩;have hj:j<=320-k:=hj;have hjl:=BV a k (G3 a n k) j;have hjb:=BW a k _ hmb j;have hj1:=hjb.1.get (k+j);have hj2:=hjb.2;have hj3:=F7 a j;have hj4:=x31 a k (G3 a n k) j;refine W.seq (q9 2 (y2 25 26) (V8 1 2 4 6 7 8 9 26) ⟨mU 9 O O,aU<|KO 320 O O O,Zt⟩ ?_);refine z6 O (fun hc26=>?_) (fun hc26=>?_)
   ·refine W.skip (W.seq (W.block (W.seq ?_)));refine W.dr (m:=13) (an:=[0,0,3,7,0,0,0,96,240,511,0,2047,4095]) hP dU O (its:=[.y 29 _,.y 30 _,.y 31 _,.y 32 _,.y 33 _,.y 34 _,.y 35 _,.y 36 _,.y 37 _,.y 38 _,.y 39 _,.y 40 _,.y 10 _]) (ks:=[]) (kk:=[]) (env':=(V7 1 2 4 6 7 9 10)) (⟨nU O,O,⟨aU<|zM O O,mU 9 O O,aU<|CD ((k+j)) O O O O bU O,aU<|KH O O O (j5 (l:=(J9 a k (G3 a n k) j).1) bU) O O O O O,aU (lU 2 O O O O O O O),mU 9 O O,mU 7 O O,aU fun _ _ H K=>c8 (d:=.int ((j:Nat):Int)) (eU K 34 O) (eU K 35 O) O Zt (C9 bO bO bO) H,aU<|zD hC (P5 a j ha bO) O O O O O O (F1 (.int _)) O,aU<|zP O O bU O,mU 8 O O,aU<|zP O O bU O,aU<|zA O O O,Zt⟩,O,O,O⟩) O (bx':=(p7 4 2)) O (n':=66) O (tV (V7 1 2 4 6 7 9 10) (p7 4 2) 66 O O O ?_);refine z5 6 (y5 41 42 43 44 45) [] [] (j81 1 2 4 6 7 9 10 41 44 45) ⟨aU<|zM O O,mU 9 O O,mU 10 O O,aU fun _ _ H K=>E3 (((((J9 a k (G3 a n k) j).1)[(k+j)]!+p9 a j)+(J9 a k (G3 a n k) j).2)) (2) (eU K 43 O) (kI 2 O) bU H,aU<|CD ((k+j)) O O O O bU O,Zt⟩ O O (⟨O,_,JB (gU 45 O) (Or.inr (gU 41 O)) (gU 6 O) (j5 (l:=(J9 a k (G3 a n k) j).1) bU) O (gV 44 O) (by rfl) (by rfl) (by rfl) (by rfl) X2 X3,tV (V7 1 2 4 6 7 9 10) (p7 4 2) 66 O O O ?_⟩);refine z8 3 (y3 46 47 8) (V7 1 2 4 6 7 8 9) ⟨mU 10 O O,aU fun _ _ H K=>C7 (((((J9 a k (G3 a n k) j).1)[(k+j)]!+p9 a j)+(J9 a k (G3 a n k) j).2)) (2) (eU K 46 O) (kI 2 O) bU bU H,aU<|zA O O O,Zt⟩ ?_;refine z8 3 (y3 27 28 9) (V7 1 2 4 6 7 8 9) ⟨mU 9 O O,aU<|Q6 1 O O bU O,aU<|zA O O O,Zt⟩ ?_;exact⟨⟨(j+1),bU⟩,(by rw[hj4]<;>rfl),(by simp only[];omega)⟩
   ·obtain rfl:j=320-k:=by omega
    refine W.exit ?_;refine z8 3 (y3 16 17 7) (V5 1 2 4 6 7) ⟨mU 7 O O,aU<|Q6 1 O O bU O,aU<|zA O O O,Zt⟩ ?_;exact⟨⟨(k+1),bU⟩,(by first|(rw[z39 (eq_of_beq hc23)]<;>rfl)|(rw[z38 (ne_of_beq_false hc23)]<;>rfl)),(by simp only[];omega)⟩
 ·obtain rfl:k=64:=by omega
  refine W.exit (q9 1 (y1 11) (V3 4 6 11) ⟨aU<|zK (kW (.int .u64 0) (.u64 0) O) O O,Zt⟩ ?_);refine W.seq (q9 1 (y1 12) (V4 4 6 11 12) ⟨aU<|zK (kI 0 O) O O,Zt⟩ ?_);refine W.block ?_;refine W.loop (α:={q__:Nat//q__<=64}) (fun q__=>⟨66,[(4,.ptr 4 0 []),(6,.sl (some 3) 1 ((G3 a n 64).map K6)),(11,.u64 (SN (G3 a n 64) q__.1)),(12,.int ((q__.1:Nat):Int))],[(4,.var (Z9 w9)),(2,.var (Z9 a))]⟩) (fun q__=>64-q__.1) ⟨(0),bU⟩ O ?_;rintro ⟨k,hk⟩;show W _ _ _ _ ⟨66,[(4,.ptr 4 0 []),(6,.sl (some 3) 1 ((G3 a n 64).map K6)),(11,.u64 (SN (G3 a n 64) k)),(12,.int ((k:Nat):Int))],[(4,.var (Z9 w9)),(2,.var (Z9 a))]⟩;have hk:k<=64:=hk;have hml:=DQ a n 64;refine W.seq (q9 2 (y2 48 49) (V5 4 6 11 12 49) ⟨mU 12 O O,aU<|KO 64 O O O,Zt⟩ ?_);refine z6 O (fun hc49=>?_) (fun hc49=>?_)
  ·refine W.skip (W.seq (W.block ?_));refine z8 12 (w58 52 53 54 55 56 57 58 59 60 61 62 11) (V4 4 6 11 12) ⟨mU 11 O O,aU<|zM O O,mU 12 O O,aU fun _ _ H K=>RP (256) (k) (kI 256 O) (eU K 54 O) bU H,aU<|CD ((256+k)) O O O O bU O,aU<|KH O O O (mG (G3 a n 64)) O O O O O,aU<|zW O O O,mU 12 O O,aU<|zW O O O,aU fun _ _ H K=>c8 (d:=.u64 (U6 (UInt64.ofInt (((G3 a n 64)[256+k]!:Nat):Int)) k)) (eU K 58 O) (eU K 60 O) O bV (congrArg D.u64 (q81 _ _ bO)) H,aU<|zB O O O O,aU<|zA O O O,Zt⟩ ?_;refine z8 3 (y3 50 51 12) (V4 4 6 11 12) ⟨mU 12 O O,aU<|Q6 1 O O bU O,aU<|zA O O O,Zt⟩ ?_;exact⟨⟨(k+1),bU⟩,rfl,(by simp only[];omega)⟩
  ·obtain rfl:k=64:=by omega
   refine W.exit (z5 5 (y3 63 64 65) [] [] (V3 4 64 65) ⟨aU<|zM O O,aU fun _ _ H K=>w6 hC (R2 (G3 a n 64) (by rw[DQ];decide)) (Bc (Bor.sc (SC.al (K 63 _ O) (K 6 _ O)) (j2 (fun _=>rfl))) Bn) (F1 (n1 _)) H,mU 11 O O,Zt⟩ O O (d5 O O O O O (P8 O O O (tV (V2 4 5) (p7 4 2) 66 O O O ?_))));refine W.ret ?_;exact Ends.many (.inr O) (.cons O O O (iL 217 4) (.cons O O O Zt .nil)) (by rw[B5,PL]) (show[(4,false),(5,true)].Nodup by decide)
end Go.Sx

namespace Go.Sx
open Go.Proofs
theorem VQ(a b:Bg)(ha:a.length=4)(hlb:b.length=4):Fn Tryz.prog gl 164 [Z9 a,Z9 b] (.tup [Z9 (G4 a b),Z9 (F6 a b),.int ((k09 b:Nat):Int)]):=by
 refine Fn.of (n:=54) Tryz.func164 rfl rfl rfl (nU rfl) fun C hC hD=>?_;refine z5 5 [] [] [] (V2 0 1) Zt O O (⟨O,_,R.box (gV 0 O) O O (nU O),⟨O,_,R.box (gV 1 O) O O (nU O),(Q7 O O (Q7 O O ⟨O,_,j4 (kI 0 O) O (nU O),tV (V4 2 3 4 5) (T6 5 4 3 2) 54 O O O ?_⟩))⟩⟩);refine z5 2 [] [] [] (V4 2 3 4 5) Zt O O (Q7 O O (Q7 O O (tV (V6 2 3 4 5 7 8) (OH 8 7 5 4 3 2) 54 O O O ?_)));refine W.seq (q9 3 (y3 12 13 14) (V7 2 3 4 5 7 8 14) ⟨aU (lU 3 O O O O O O O),aU fun _ _ H _=>R.bldAZ O H,aU fun _ _ H K=>R.eqD (neg:=false) (b':=(b==w9)) (O0 _ _) O (eU K 12 O) (eU K 13 O) O O O O (O) H,Zt⟩ ?_);refine W.cond O (fun hc14=>?_) (fun hc14=>?_)
 ·refine W.seq ?_;refine U9 (m:=3) (an:=[0,0,1,7,15]) (its:=[.y 15 _,.y 16 _,⟨56,.dead,true⟩]) (ks:=[(2,56)]) (kk:=[]) (efs:=[(2,(p6 4))]) (live:=[4,5,16]) (env':=(V3 4 5 16)) (nd:=40) (bx1:=(OH 4 8 7 5 3 2)) hP dU O ⟨⟨64,O⟩,nU O,O,O,O,O⟩ (        ⟨⟨O,nU O,O,fun _ τ hb ht hτ=>R.ldP (hτ 7 _ O) (hb 7 _ O) O O O O ht⟩,⟨⟨O,nU O,O,fun _ τ hb ht hτ=>R.ldP (hτ 8 _ O) (hb 8 _ O) O O O O ht⟩,⟨⟨O,O,O,(JD (p:=4) (id:=4) O O O (fun τ hτ=>(evt (hτ 15 _ O))) (by rfl) (by rfl) (by rfl) (by rfl) O)⟩,Zt⟩⟩⟩) O O O (n':=54) O (d5 O O O O O ⟨O,_,j4 (kI 1 O) O (nU O),⟨[4,5,6],(V3 4 5 6),(OH 4 8 7 5 3 2),54,O,O,O, ?_⟩⟩);refine W.ret ?_;exact Ends.many (.inr O) (.cons O O O (iL 217 4) (.cons O O O (iL 217 4) (.cons O O O Zt .nil))) (by rw[(k06 (a:=a) hc14).1,(k06 (a:=a) hc14).2.1,(k06 (a:=a) hc14).2.2]<;>rfl) (show[(4,false),(5,false),(6,true)].Nodup by decide)
 ·refine W.skip (z5 2 (y2 17 9) [(1,17)] [(1,17)] (V6 2 3 4 5 8 9) ⟨aU fun _ _ H _=>R.mk (n:=256) (kI 256 O) (kI 256 O) bU dU H,aU<|zO O O O,Zt⟩ O O (tU O ?_));refine W.seq (q9 1 (y1 10) (V7 2 3 4 5 8 9 10) ⟨aU<|zK (kI 255 O) O O,Zt⟩ ?_);refine W.block ?_;refine W.loop (α:={q__:Nat×List Nat×Bg//q__.1<=256/\D7 a b q__.1=(q__.2.1,q__.2.2)}) (fun q__=>⟨54,[(2,.ptr 2 0 []),(3,.ptr 3 0 []),(4,.ptr 4 0 []),(5,.ptr 5 0 []),(8,.ptr 8 0 []),(9,.sl (some 3) 1 (q__.1.2.1.map K6)),(10,.int ((255:Int)-((q__.1.1:Nat):Int)))],[(8,.var (Z9 q__.1.2.2)),(7,.var (Z9 w9)),(5,.var (Z9 w9)),(4,.var (Z9 w9)),(3,.var (Z9 b)),(2,.var (Z9 a))]⟩) (fun q__=>256-q__.1.1) ⟨(0,List.replicate 256 0,w9),⟨Nat.zero_le _,x63 a b⟩⟩ (by rw[zl];rfl) ?_;rintro ⟨⟨k,q,r⟩,⟨hk,hq⟩⟩;show W _ _ _ _ ⟨54,[(2,.ptr 2 0 []),(3,.ptr 3 0 []),(4,.ptr 4 0 []),(5,.ptr 5 0 []),(8,.ptr 8 0 []),(9,.sl (some 3) 1 (q.map K6)),(10,.int ((255:Int)-((k:Nat):Int)))],[(8,.var (Z9 r)),(7,.var (Z9 w9)),(5,.var (Z9 w9)),(4,.var (Z9 w9)),(3,.var (Z9 b)),(2,.var (Z9 a))]⟩;have hk:k<=256:=hk;have hq:D7 a b k=(q,r):=hq;have hql:=(TP hq).1;have hr:=(TP hq).2;have hul:=YS hr 1;refine W.seq (q9 2 (y2 18 19) (V8 2 3 4 5 8 9 10 19) ⟨mU 10 O O,aU<|B6 O (kI 0 O) O O,Zt⟩ ?_);refine W.cond O (fun hc19=>?_) (fun hc19=>?_)
  ·refine W.skip (W.seq (W.block (q9 3 (y3 22 23 11) (V8 2 3 4 5 8 9 10 11) ⟨aU (lU 8 O O O O O O O),aU<|ZB hC (P5 r 255 hr bO) O O O (kI 255 O) O O (F1 (.int _)) O,aU<|zA O O O,Zt⟩ ?_)));refine z5 3 (y2 24 25) [] [] (V9 2 3 4 5 8 9 10 11 25) ⟨aU (lU 8 O O O O O O O),aU<|ZB hC (LW r 1 hr dU) O O O (kI 1 O) O O (F1 (n1 _)) O,Zt⟩ O O (d5 O O O O O (tV (V8 2 3 4 5 8 9 10 11) (OH 8 7 5 4 3 2) 54 O O O ?_));refine W.seq ?_;have h7:=of_decide_eq_true hc19;rw[show(255:Int)-((k:Nat):Int)=((255-k:Nat):Int) by omega];refine W.dr (m:=8) (an:=[0,1,0,0,12,28,63,127,255]) hP dU O (its:=[.y 26 _,.y 27 _,.y 28 _,.y 29 _,.y 30 _,.y 31 _,.y 32 _,.y 33 _]) (ks:=[]) (kk:=[]) (env':=(j81 2 3 4 5 8 9 10 11 32 33)) (⟨nU O,O,⟨aU fun _ _ H K=>R.idxP (0) (K 8 _ O) (b4 (kI 0 O)) O bU H,aU fun _ B H K=>R.ldP (K 26 _ O) (B 8 _ O) (v9 (mG (UK r 1)) v8 bU) O O O H,aU (lU 2 O O O O O O O),mU 10 O O,aU<|zD hC (P5 a (255-k) ha bO) O O O O O O (F1 (.int _)) O,aU<|zW O O O,aU<|zB O O O O,aU fun _ _ H K=>R.idxP (0) (K 8 _ O) (b4 (kI 0 O)) O bU H,Zt⟩,O,O,O⟩) O (bx':=(OH 8 7 5 4 3 2)) O (n':=54) O (⟨O,_,Z7 (gU 33 O) (xU 8 O) (v9 (mG (UK r 1)) v8 bU) (gV 32 O) (by rfl) (by rfl) (by rfl) (by rfl) (E7 (mG (UK r 1)) X2 X3),tV (V8 2 3 4 5 8 9 10 11) (OH 8 7 5 4 3 2) 54 O O O ?_⟩);refine W.seq ?_;by_cases h55:p9 r 255=1
   ·refine z8 8 [.y 34 _,.y 35 _,.y 36 _,.x 37,.x 38,.x 39,.x 40,.y 41 _] (V8 2 3 4 5 8 9 10 41) ⟨mU 11 O O,aU<|KD 1 O O O,mU 35 O O,aF O O (gT (dT h55) O),aF O O (gT (dT h55) O),aF O O (gT (dT h55) O),aF O O (gT (dT h55) O),aU<|I4 O (dT h55) (kB true O) O O,Zt⟩ ?_;refine u7 O (O) ?_;refine z5 7 (y6 43 44 45 42 46 47) [] [] (V8 2 3 4 5 8 9 10 46) ⟨aU (lU 8 O O O O O O O),aU (lU 3 O O O O O O O),aU<|zD hC (TR (FR a r (255-k)) b (YT hr _) hlb) O O O O O O (FrsR.two (n1 _) (.bool _)) O,aU<|zY O O O,aU<|zX O O O O,aU<|zX O O O O,Zt⟩ O O (d5 O O O O O (tV (V7 2 3 4 5 8 9 10) (OH 8 7 5 4 3 2) 54 O O O ?_));refine u4 4 (y3 48 49 50) [] [] (V9 2 3 4 5 8 9 10 48 50) ⟨aU<|zM O O,mU 10 O O,aU<|CD ((255-k)) O O O O bU O,Zt⟩ O O (⟨O,_,JB (gU 50 O) (Or.inr (gU 48 O)) (gU 9 O) (mG q) O (kI 1 O) (by rfl) (by rfl) (by rfl) (by rfl) X2 X3,tV (V7 2 3 4 5 8 9 10) (OH 8 7 5 4 3 2) 54 O O O ?_⟩);refine z8 3 (y3 20 21 10) (V7 2 3 4 5 8 9 10) ⟨mU 10 O O,aU fun _ _ H K=>c8 (d:=.int ((255:Int)-((k+1:Nat):Int))) (eU K 20 O) (kI 1 O) O Zt (C9 bO bO bO) H,aU<|zA O O O,Zt⟩ ?_;exact⟨⟨(k+1,(D7 a b (k+1)).1,(D7 a b (k+1)).2),⟨by omega,(Prod.eta _).symm⟩⟩,(by first|(simp only[UR hq (.inl h55)];done)|(simp only[UR hq (.inr (by simpa using hc41))];done)|(simp only[LV hq h55 (by simpa using hc41),Z9,FR];done)),(by simp only[];omega)⟩
   ·refine z8 8 (y8 34 35 36 37 38 39 40 41) (V8 2 3 4 5 8 9 10 41) ⟨mU 11 O O,aU<|KD 1 O O O,mU 35 O O,aW O O (gF (dF h55) O) (lU 8 O O O O O O O),aW O O (gF (dF h55) O) (lU 3 O O O O O O O),aW O O (gF (dF h55) O)<|zD hC (DE (FR a r (255-k)) b (YT hr _) hlb) O O O O O O (F1 (.bool _)) O,aW O O (gF (dF h55) O)<|UQ O O O,aU<|zF O (dF h55) O O O,Zt⟩ ?_;refine W.cond O (fun hc41=>?_) (fun hc41=>?_)
    ·refine z5 7 (y6 43 44 45 42 46 47) [] [] (V8 2 3 4 5 8 9 10 46) ⟨aU (lU 8 O O O O O O O),aU (lU 3 O O O O O O O),aU<|zD hC (TR (FR a r (255-k)) b (YT hr _) hlb) O O O O O O (FrsR.two (n1 _) (.bool _)) O,aU<|zY O O O,aU<|zX O O O O,aU<|zX O O O O,Zt⟩ O O (d5 O O O O O (tV (V7 2 3 4 5 8 9 10) (OH 8 7 5 4 3 2) 54 O O O ?_));refine u4 4 (y3 48 49 50) [] [] (V9 2 3 4 5 8 9 10 48 50) ⟨aU<|zM O O,mU 10 O O,aU<|CD ((255-k)) O O O O bU O,Zt⟩ O O (⟨O,_,JB (gU 50 O) (Or.inr (gU 48 O)) (gU 9 O) (mG q) O (kI 1 O) (by rfl) (by rfl) (by rfl) (by rfl) X2 X3,tV (V7 2 3 4 5 8 9 10) (OH 8 7 5 4 3 2) 54 O O O ?_⟩);refine z8 3 (y3 20 21 10) (V7 2 3 4 5 8 9 10) ⟨mU 10 O O,aU fun _ _ H K=>c8 (d:=.int ((255:Int)-((k+1:Nat):Int))) (eU K 20 O) (kI 1 O) O Zt (C9 bO bO bO) H,aU<|zA O O O,Zt⟩ ?_;exact⟨⟨(k+1,(D7 a b (k+1)).1,(D7 a b (k+1)).2),⟨by omega,(Prod.eta _).symm⟩⟩,(by first|(simp only[UR hq (.inl h55)];done)|(simp only[UR hq (.inr (by simpa using hc41))];done)|(simp only[LV hq h55 (by simpa using hc41),Z9,FR];done)),(by simp only[];omega)⟩
    ·refine W.skip ?_;refine z8 3 (y3 20 21 10) (V7 2 3 4 5 8 9 10) ⟨mU 10 O O,aU fun _ _ H K=>c8 (d:=.int ((255:Int)-((k+1:Nat):Int))) (eU K 20 O) (kI 1 O) O Zt (C9 bO bO bO) H,aU<|zA O O O,Zt⟩ ?_;exact⟨⟨(k+1,(D7 a b (k+1)).1,(D7 a b (k+1)).2),⟨by omega,(Prod.eta _).symm⟩⟩,(by first|(simp only[UR hq (.inl h55)];done)|(simp only[UR hq (.inr (by simpa using hc41))];done)|(simp only[LV hq h55 (by simpa using hc41),Z9,FR];done)),(by simp only[];omega)⟩
  ·have h7:=of_decide_eq_false hc19
   obtain rfl:k=256:=by omega
   refine W.exit (W.seq ?_);refine U9 (m:=4) (an:=[0,1,0,3,15,31]) (its:=[.y 51 _,.y 52 _,.y 53 _,⟨57,.dead,true⟩]) (ks:=[(3,57)]) (kk:=[]) (efs:=[(3,(p6 4))]) (live:=[4,5,53]) (env':=(V3 4 5 53)) (nd:=40) (bx1:=(OH 4 8 7 5 3 2)) hP dU O ⟨⟨65,O⟩,nU O,O,O,O,O⟩ (          ⟨⟨O,nU O,O,fun _ τ hb ht hτ=>R.al (hτ 9 _ O) ht dU⟩,⟨⟨O,nU O,O,fun _ τ hb ht hτ=>w6 hC (R2 q bO) (Bc (Bor.sc (SC.al (hτ 51 _ O) (hτ 9 _ O)) (j2 (fun _=>rfl))) Bn) (F1 (n1 _)) ht⟩,⟨⟨O,nU O,O,fun _ τ hb ht hτ=>R.ldP (hτ 8 _ O) (hb 8 _ O) O O O O ht⟩,⟨⟨O,O,O,(JD (p:=4) (id:=4) O O O (fun τ hτ=>(evt (hτ 52 _ O))) (by rfl) (by rfl) (by rfl) (by rfl) O)⟩,Zt⟩⟩⟩⟩) O O O (n':=54) O (d5 O O O O O ⟨O,_,j4 (kI 0 O) O (nU O),⟨[4,5,6],(V3 4 5 6),(OH 4 8 7 5 3 2),54,O,O,O, ?_⟩⟩);refine W.ret ?_;exact Ends.many (.inr O) (.cons O O O (iL 217 4) (.cons O O O (iL 217 4) (.cons O O O Zt .nil))) (by rw[(k07 hc14 hq).1,(k07 hc14 hq).2.1,(k07 hc14 hq).2.2]<;>rfl) (show[(4,false),(5,false),(6,true)].Nodup by decide)
end Go.Sx

namespace Go.Sx
open Go.Proofs
theorem FT(bits:UInt32):Fn Tryz.prog gl 128 [.u32 bits] (.tup [Z9 (CT bits),.bool (JO bits).isSome]):=by
 refine Fn.of (n:=49) Tryz.func128 rfl rfl rfl (nU rfl) fun C hC hD=>?_;have hsz:=q80 bits;have hpl:(X6 bits).length=4:=rfl;have hnb:=z35 (X6 bits);refine z5 2 [] [] [] (V1 0) Zt O O (Q7 O O ⟨O,_,j4 (kB false O) O (nU O),tV (V2 0 2) (p6 2) 49 O O O ?_⟩);refine q9 4 (y4 7 8 9 4) (V3 0 2 4) ⟨mU 0 O O,aU fun _ _ H K=>c8 (d:=.u32 (w7 bits 24)) (eU K 7 O) (kW (.int .u64 24) (.u64 24) O) O bV (O) H,aU<|zW O O O,aU<|zA O O O,Zt⟩ ?_;refine z5 6 (y4 10 11 12 13) [] [] (V4 0 2 4 13) ⟨mU 0 O O,aU<|B6 O (kW (.int .u32 8388607) (.u32 8388607) O) O O,aU<|zW O O O,aU<|zC hC (x74 (bits&&&8388607).toUInt64) O O O (F1 (n1 _)) O,Zt⟩ O O (Q7 O O (d5 O O O O O (tV (V4 0 2 4 5) (p7 5 2) 49 O O O ?_)));refine z5 1 [] [] [] (V4 0 2 4 5) Zt O O (Q7 O O (tV (V5 0 2 4 5 6) (d7 6 5 2) 49 O O O ?_));refine W.seq (W.seq ?_);by_cases h3:(w7 bits 24).toNat<3
 ·refine z8 2 (y2 14 15) (V6 0 2 4 5 6 15) ⟨mU 4 O O,aU<|KO 3 O O O,Zt⟩ ?_;refine u7 O (dT h3) ?_;refine u4 6 (y5 16 17 18 19 20) [] [] (V4 0 2 6 20) ⟨aU (lU 5 O O O O O O O),mU 4 O O,aU fun _ _ H K=>JC (3) ((w7 bits 24).toNat) (kI 3 O) (eU K 17 O) bU bU H,aU<|QP 8 O O bU O,aU<|zD hC (XE (X6 bits) (8*(3-(w7 bits 24).toNat)) O bO) O O O O O O (F1 (n1 _)) O,Zt⟩ O O (d5 O O O O O (tV (V3 0 2 6) (d7 6 5 2) 49 O O O ?_));refine W.seq (W.seq ?_);by_cases hz:(H3 (X6 bits) (8*(3-(w7 bits 24).toNat)))=w9
  ·refine z8 8 [.y 39 _,.y 40 _,.y 41 _,.y 42 _,.x 43,.x 44,.x 45,.y 46 _] (V3 2 6 46) ⟨aU (lU 6 O O O O O O O),aU fun _ _ H _=>R.bldAZ O H,aU fun _ _ H K=>R.eqD (neg:=false) (b':=((H3 (X6 bits) (8*(3-(w7 bits 24).toNat)))==w9)) (O0 _ _) O (eU K 39 O) (eU K 40 O) O O O O (O) H,mU 41 O O,aF O O (gT (beq_iff_eq.2 hz) O),aF O O (gT (beq_iff_eq.2 hz) O),aF O O (gT (beq_iff_eq.2 hz) O),aU<|I4 O (beq_iff_eq.2 hz) (kB true O) O O,Zt⟩ ?_;refine u7 O (O) ?_;refine z5 3 (y1 47) [] [] (V2 2 47) ⟨aU fun _ _ H _=>R.bldAZ O H,Zt⟩ O O (d5 O O O O O ⟨O,_,j4 (kB false O) O (nU O),tV (V2 2 3) (d7 6 5 2) 49 O O O ?_⟩);refine W.ret ?_;exact Ends.many (.inr O) (.cons O O O (iL 217 4) (.cons O O O Zt .nil)) (by rw[JK (BS (M2 (.inl h3)) (RS h3) hz),BS (M2 (.inl h3)) (RS h3) hz]<;>rfl) (show[(2,false),(3,true)].Nodup by decide)
  ·refine z8 8 (y8 39 40 41 42 43 44 45 46) (V3 2 6 46) ⟨aU (lU 6 O O O O O O O),aU fun _ _ H _=>R.bldAZ O H,aU fun _ _ H K=>R.eqD (neg:=false) (b':=((H3 (X6 bits) (8*(3-(w7 bits 24).toNat)))==w9)) (O0 _ _) O (eU K 39 O) (eU K 40 O) O O O O (O) H,mU 41 O O,aW O O (gF (beq_eq_false_iff_ne.2 hz) O)<|zV O O O,aW O O (gF (beq_eq_false_iff_ne.2 hz) O)<|B6 O (kW (.int .u32 8388608) (.u32 8388608) O) O O,aW O O (gF (beq_eq_false_iff_ne.2 hz) O)<|B6 O (kW (.int .u32 0) (.u32 0) O) O O,aU<|zF O (beq_eq_false_iff_ne.2 hz) O O O,Zt⟩ ?_;refine W.cond O (fun hc46=>?_) (fun hc46=>?_)
   ·refine z5 3 (y1 47) [] [] (V2 2 47) ⟨aU fun _ _ H _=>R.bldAZ O H,Zt⟩ O O (d5 O O O O O ⟨O,_,j4 (kB false O) O (nU O),tV (V2 2 3) (d7 6 5 2) 49 O O O ?_⟩);refine W.ret ?_;exact Ends.many (.inr O) (.cons O O O (iL 217 4) (.cons O O O Zt .nil)) (by rw[JK (BL (M2 (.inl h3)) hc46),BL (M2 (.inl h3)) hc46]<;>rfl) (show[(2,false),(3,true)].Nodup by decide)
   ·refine W.skip (z5 3 (y1 48) [] [] (V2 2 48) ⟨aU (lU 6 O O O O O O O),Zt⟩ O O (d5 O O O O O ⟨O,_,j4 (kB true O) O (nU O),tV (V2 2 3) (d7 6 5 2) 49 O O O ?_⟩));refine W.ret ?_;exact Ends.many (.inr O) (.cons O O O (iL 217 4) (.cons O O O Zt .nil)) (by rw[MS (BI (M2 (.inl h3)) (RS h3) hz hc46),BI (M2 (.inl h3)) (RS h3) hz hc46]<;>rfl) (show[(2,false),(3,true)].Nodup by decide)
 ·refine z8 2 (y2 14 15) (V6 0 2 4 5 6 15) ⟨mU 4 O O,aU<|KO 3 O O O,Zt⟩ ?_;refine v4 O (dF h3) ?_;refine z5 6 (y5 21 22 23 24 25) [] [] (V6 0 2 4 5 6 25) ⟨aU (lU 5 O O O O O O O),mU 4 O O,aU<|OD 3 O O bU bU O,aU<|QP 8 O O bU O,aU<|zD hC (LW (X6 bits) (8*((w7 bits 24).toNat-3)) O bO) O O O O O O (F1 (n1 _)) O,Zt⟩ O O (d5 O O O O O (tV (V5 0 2 4 5 6) (d7 6 5 2) 49 O O O ?_));refine W.seq ?_;by_cases hb7:256<UY (X6 bits)+8*((w7 bits 24).toNat-3)
  ·refine z8 12 (w58 26 27 28 29 30 31 32 33 34 35 36 37) (V4 0 2 6 37) ⟨aU (lU 5 O O O O O O O),aU<|zC hC (HW (X6 bits) O) O O O (F1 (.int _)) O,mU 4 O O,aU<|OD 3 O O bU bU O,aU<|QP 8 O O bU O,aU<|zP O O bU O,aU<|l5 256 O O O,mU 32 O O,aW O O (gT (dT hb7) O) (lU 5 O O O O O O O),aW O O (gT (dT hb7) O) fun _ _ H _=>R.bldAZ O H,aW O O (gT (dT hb7) O) fun _ _ H K=>R.eqD (neg:=true) (b':=((X6 bits) != w9)) (O0 _ _) O (eU K 34 O) (eU K 35 O) O O O O (O) H,aU<|zT O (dT hb7) O O O,Zt⟩ ?_;refine W.cond O (fun hc37=>?_) (fun hc37=>?_)
   ·refine z5 3 (y1 38) [] [] (V2 2 38) ⟨aU fun _ _ H _=>R.bldAZ O H,Zt⟩ O O (d5 O O O O O ⟨O,_,j4 (kB false O) O (nU O),tV (V2 2 3) (d7 6 5 2) 49 O O O ?_⟩);refine W.ret ?_;exact Ends.many (.inr O) (.cons O O O (iL 217 4) (.cons O O O Zt .nil)) (by rw[JK (z21 h3 hb7 hc37),z21 h3 hb7 hc37]<;>rfl) (show[(2,false),(3,true)].Nodup by decide)
   ·refine W.skip (W.seq (W.seq ?_));by_cases hz:(UK (X6 bits) (8*((w7 bits 24).toNat-3)))=w9
    ·refine z8 8 [.y 39 _,.y 40 _,.y 41 _,.y 42 _,.x 43,.x 44,.x 45,.y 46 _] (V3 2 6 46) ⟨aU (lU 6 O O O O O O O),aU fun _ _ H _=>R.bldAZ O H,aU fun _ _ H K=>R.eqD (neg:=false) (b':=((UK (X6 bits) (8*((w7 bits 24).toNat-3)))==w9)) (O0 _ _) O (eU K 39 O) (eU K 40 O) O O O O (O) H,mU 41 O O,aF O O (gT (beq_iff_eq.2 hz) O),aF O O (gT (beq_iff_eq.2 hz) O),aF O O (gT (beq_iff_eq.2 hz) O),aU<|I4 O (beq_iff_eq.2 hz) (kB true O) O O,Zt⟩ ?_;refine u7 O (O) ?_;refine z5 3 (y1 47) [] [] (V2 2 47) ⟨aU fun _ _ H _=>R.bldAZ O H,Zt⟩ O O (d5 O O O O O ⟨O,_,j4 (kB false O) O (nU O),tV (V2 2 3) (d7 6 5 2) 49 O O O ?_⟩);refine W.ret ?_;exact Ends.many (.inr O) (.cons O O O (iL 217 4) (.cons O O O Zt .nil)) (by rw[JK (BS (M2 (.inr (.inr hc37))) (YG h3) hz),BS (M2 (.inr (.inr hc37))) (YG h3) hz]<;>rfl) (show[(2,false),(3,true)].Nodup by decide)
    ·refine z8 8 (y8 39 40 41 42 43 44 45 46) (V3 2 6 46) ⟨aU (lU 6 O O O O O O O),aU fun _ _ H _=>R.bldAZ O H,aU fun _ _ H K=>R.eqD (neg:=false) (b':=((UK (X6 bits) (8*((w7 bits 24).toNat-3)))==w9)) (O0 _ _) O (eU K 39 O) (eU K 40 O) O O O O (O) H,mU 41 O O,aW O O (gF (beq_eq_false_iff_ne.2 hz) O)<|zV O O O,aW O O (gF (beq_eq_false_iff_ne.2 hz) O)<|B6 O (kW (.int .u32 8388608) (.u32 8388608) O) O O,aW O O (gF (beq_eq_false_iff_ne.2 hz) O)<|B6 O (kW (.int .u32 0) (.u32 0) O) O O,aU<|zF O (beq_eq_false_iff_ne.2 hz) O O O,Zt⟩ ?_;refine W.cond O (fun hc46=>?_) (fun hc46=>?_)
     ·refine z5 3 (y1 47) [] [] (V2 2 47) ⟨aU fun _ _ H _=>R.bldAZ O H,Zt⟩ O O (d5 O O O O O ⟨O,_,j4 (kB false O) O (nU O),tV (V2 2 3) (d7 6 5 2) 49 O O O ?_⟩);refine W.ret ?_;exact Ends.many (.inr O) (.cons O O O (iL 217 4) (.cons O O O Zt .nil)) (by rw[JK (BL (M2 (.inr (.inr hc37))) hc46),BL (M2 (.inr (.inr hc37))) hc46]<;>rfl) (show[(2,false),(3,true)].Nodup by decide)
     ·refine W.skip (z5 3 (y1 48) [] [] (V2 2 48) ⟨aU (lU 6 O O O O O O O),Zt⟩ O O (d5 O O O O O ⟨O,_,j4 (kB true O) O (nU O),tV (V2 2 3) (d7 6 5 2) 49 O O O ?_⟩));refine W.ret ?_;exact Ends.many (.inr O) (.cons O O O (iL 217 4) (.cons O O O Zt .nil)) (by rw[MS (BI (M2 (.inr (.inr hc37))) (YG h3) hz hc46),BI (M2 (.inr (.inr hc37))) (YG h3) hz hc46]<;>rfl) (show[(2,false),(3,true)].Nodup by decide)
  ·refine z8 12 [.y 26 _,.y 27 _,.y 28 _,.y 29 _,.y 30 _,.y 31 _,.y 32 _,.y 33 _,.x 34,.x 35,.x 36,.y 37 _] (V4 0 2 6 37) ⟨aU (lU 5 O O O O O O O),aU<|zC hC (HW (X6 bits) O) O O O (F1 (.int _)) O,mU 4 O O,aU<|OD 3 O O bU bU O,aU<|QP 8 O O bU O,aU<|zP O O bU O,aU<|l5 256 O O O,mU 32 O O,aF O O (gF (dF hb7) O),aF O O (gF (dF hb7) O),aF O O (gF (dF hb7) O),aU<|YL O (dF hb7) (kB false O) O O,Zt⟩ ?_;refine v4 O (O) ?_;refine W.skip (W.seq (W.seq ?_));by_cases hz:(UK (X6 bits) (8*((w7 bits 24).toNat-3)))=w9
   ·refine z8 8 [.y 39 _,.y 40 _,.y 41 _,.y 42 _,.x 43,.x 44,.x 45,.y 46 _] (V3 2 6 46) ⟨aU (lU 6 O O O O O O O),aU fun _ _ H _=>R.bldAZ O H,aU fun _ _ H K=>R.eqD (neg:=false) (b':=((UK (X6 bits) (8*((w7 bits 24).toNat-3)))==w9)) (O0 _ _) O (eU K 39 O) (eU K 40 O) O O O O (O) H,mU 41 O O,aF O O (gT (beq_iff_eq.2 hz) O),aF O O (gT (beq_iff_eq.2 hz) O),aF O O (gT (beq_iff_eq.2 hz) O),aU<|I4 O (beq_iff_eq.2 hz) (kB true O) O O,Zt⟩ ?_;refine u7 O (O) ?_;refine z5 3 (y1 47) [] [] (V2 2 47) ⟨aU fun _ _ H _=>R.bldAZ O H,Zt⟩ O O (d5 O O O O O ⟨O,_,j4 (kB false O) O (nU O),tV (V2 2 3) (d7 6 5 2) 49 O O O ?_⟩);refine W.ret ?_;exact Ends.many (.inr O) (.cons O O O (iL 217 4) (.cons O O O Zt .nil)) (by rw[JK (BS (M2 (.inr (.inl hb7))) (YG h3) hz),BS (M2 (.inr (.inl hb7))) (YG h3) hz]<;>rfl) (show[(2,false),(3,true)].Nodup by decide)
   ·refine z8 8 (y8 39 40 41 42 43 44 45 46) (V3 2 6 46) ⟨aU (lU 6 O O O O O O O),aU fun _ _ H _=>R.bldAZ O H,aU fun _ _ H K=>R.eqD (neg:=false) (b':=((UK (X6 bits) (8*((w7 bits 24).toNat-3)))==w9)) (O0 _ _) O (eU K 39 O) (eU K 40 O) O O O O (O) H,mU 41 O O,aW O O (gF (beq_eq_false_iff_ne.2 hz) O)<|zV O O O,aW O O (gF (beq_eq_false_iff_ne.2 hz) O)<|B6 O (kW (.int .u32 8388608) (.u32 8388608) O) O O,aW O O (gF (beq_eq_false_iff_ne.2 hz) O)<|B6 O (kW (.int .u32 0) (.u32 0) O) O O,aU<|zF O (beq_eq_false_iff_ne.2 hz) O O O,Zt⟩ ?_;refine W.cond O (fun hc46=>?_) (fun hc46=>?_)
    ·refine z5 3 (y1 47) [] [] (V2 2 47) ⟨aU fun _ _ H _=>R.bldAZ O H,Zt⟩ O O (d5 O O O O O ⟨O,_,j4 (kB false O) O (nU O),tV (V2 2 3) (d7 6 5 2) 49 O O O ?_⟩);refine W.ret ?_;exact Ends.many (.inr O) (.cons O O O (iL 217 4) (.cons O O O Zt .nil)) (by rw[JK (BL (M2 (.inr (.inl hb7))) hc46),BL (M2 (.inr (.inl hb7))) hc46]<;>rfl) (show[(2,false),(3,true)].Nodup by decide)
    ·refine W.skip (z5 3 (y1 48) [] [] (V2 2 48) ⟨aU (lU 6 O O O O O O O),Zt⟩ O O (d5 O O O O O ⟨O,_,j4 (kB true O) O (nU O),tV (V2 2 3) (d7 6 5 2) 49 O O O ?_⟩));refine W.ret ?_;exact Ends.many (.inr O) (.cons O O O (iL 217 4) (.cons O O O Zt .nil)) (by rw[MS (BI (M2 (.inr (.inl hb7))) (YG h3) hz hc46),BI (M2 (.inr (.inl hb7))) (YG h3) hz hc46]<;>rfl) (show[(2,false),(3,true)].Nodup by decide)
theorem HK(t:Bg)(htl:t.length=4):Fn Tryz.prog gl 151 [Z9 t] (.u32 (ZZ t)):=by
 refine Fn.of (n:=38) Tryz.func151 rfl rfl rfl (nU rfl) fun C hC hD=>?_;have hnb:=z35 t;refine z5 2 [] [] [] (V1 0) Zt O O (⟨O,_,R.box (gV 0 O) O O (nU O),⟨O,_,j4 (kW (.int .u32 0) (.u32 0) O) O (nU O),tV (V1 1) (p6 1) 38 O O O ?_⟩⟩);refine W.seq (q9 3 (y3 5 6 7) (V2 1 7) ⟨aU (lU 1 O O O O O O O),aU fun _ _ H _=>R.bldAZ O H,aU fun _ _ H K=>R.eqD (neg:=false) (b':=(t==w9)) (O0 _ _) O (eU K 5 O) (eU K 6 O) O O O O (O) H,Zt⟩ ?_);refine W.cond O (fun hc7=>?_) (fun hc7=>?_)
 ·refine q9 1 (y1 2) (V1 2) ⟨aU<|zK (kW (.int .u32 0) (.u32 0) O) O O,Zt⟩ ?_;refine W.ret ?_;exact q8 (.inr O) O (by rw[x65 hc7]) O O Zt
 ·refine W.skip (q9 5 (y5 8 9 10 11 3) (V2 1 3) ⟨aU (lU 1 O O O O O O O),aU<|zC hC (HW t htl) O O O (F1 (.int _)) O,aU<|Q6 7 O O bU O,aU fun _ _ H K=>C7 ((UY t+7)) (8) (eU K 10 O) (kI 8 O) bU bU H,aU<|zA O O O,Zt⟩ ?_);refine z5 1 [] [] [] (V2 1 3) Zt O O (Q7 O O (tV (V3 1 3 4) (p7 4 1) 38 O O O ?_));refine W.seq (W.seq ?_);by_cases h3:(UY t+7)/8<3
  ·refine z8 2 (y2 12 13) (V4 1 3 4 13) ⟨mU 3 O O,aU<|KO 3 O O O,Zt⟩ ?_;refine u7 O (dT h3) ?_;refine u4 6 (y5 14 15 16 17 18) [] [] (V3 3 4 18) ⟨aU (lU 1 O O O O O O O),mU 3 O O,aU fun _ _ H K=>JC (3) (((UY t+7)/8)) (kI 3 O) (eU K 15 O) bU bU H,aU<|QP 8 O O bU O,aU<|zD hC (LW t (8*(3-(UY t+7)/8)) htl bO) O O O O O O (F1 (n1 _)) O,Zt⟩ O O (d5 O O O O O (tV (V2 3 4) (p7 4 1) 38 O O O ?_));refine W.seq (W.seq ?_);have hxl:(UK t (8*(3-(UY t+7)/8))).length=4:=YS htl _;refine z8 3 (y3 24 25 26) (V3 3 4 26) ⟨aU fun _ _ H K=>R.idxP (0) (K 4 _ O) (b4 (kI 0 O)) O bU H,aU fun _ B H K=>R.ldP (K 24 _ O) (B 4 _ O) (v9 (j5 (l:=(UK t (8*(3-(UY t+7)/8)))) bU) v8 bU) O O O H,aU<|B6 O (kW (.int .u64 8388608) (.u64 8388608) O) O O,Zt⟩ ?_;refine W.cond O (fun hc26=>?_) (fun hc26=>?_)
   ·refine z5 3 (y2 27 28) [] [] (V3 3 4 28) ⟨aU (lU 4 O O O O O O O),aU<|ZB hC (XE (UK t (8*(3-(UY t+7)/8))) 8 hxl dU) O O O (kI 8 O) O O (F1 (n1 _)) O,Zt⟩ O O (d5 O O O O O (tV (V2 3 4) (p7 4 1) 38 O O O ?_));refine z8 3 (y3 29 30 3) (V2 3 4) ⟨mU 3 O O,aU<|Q6 1 O O bU O,aU<|zA O O O,Zt⟩ ?_;refine W.seq ?_;have hyl:=I1 hxl 8;refine z8 8 (y8 31 32 33 34 35 36 37 2) (V1 2) ⟨mU 3 O O,aU<|zW O O O,aU fun _ _ H K=>R.bin (eU K 32 O) (kW (.int .u64 24) (.u64 24) O) O bV H,aU fun _ _ H K=>R.idxP (0) (K 4 _ O) (b4 (kI 0 O)) O bU H,aU fun _ B H K=>R.ldP (K 34 _ O) (B 4 _ O) (v9 (j5 (l:=(H3 (UK t (8*(3-(UY t+7)/8))) 8)) bU) v8 bU) O O O H,aU<|zW O O O,aU<|zB O O O O,aU<|zA O O O,Zt⟩ ?_;refine W.ret ?_;exact q8 (.inr O) O (by rw[k11 hc7 (TN h3) (of_decide_eq_true hc26)]<;>rfl) O O Zt
   ·refine W.skip (W.seq ?_);have hyl:=I1 hxl 8;refine z8 8 (y8 31 32 33 34 35 36 37 2) (V1 2) ⟨mU 3 O O,aU<|zW O O O,aU fun _ _ H K=>R.bin (eU K 32 O) (kW (.int .u64 24) (.u64 24) O) O bV H,aU fun _ _ H K=>R.idxP (0) (K 4 _ O) (b4 (kI 0 O)) O bU H,aU fun _ B H K=>R.ldP (K 34 _ O) (B 4 _ O) (v9 (j5 (l:=(UK t (8*(3-(UY t+7)/8)))) bU) v8 bU) O O O H,aU<|zW O O O,aU<|zB O O O O,aU<|zA O O O,Zt⟩ ?_;refine W.ret ?_;exact q8 (.inr O) O (by rw[k14 hc7 (TN h3) (of_decide_eq_false hc26)]<;>rfl) O O Zt
  ·refine z8 2 (y2 12 13) (V4 1 3 4 13) ⟨mU 3 O O,aU<|KO 3 O O O,Zt⟩ ?_;refine v4 O (dF h3) ?_;refine u4 6 (y5 19 20 21 22 23) [] [] (V3 3 4 23) ⟨aU (lU 1 O O O O O O O),mU 3 O O,aU<|OD 3 O O bU bU O,aU<|QP 8 O O bU O,aU<|zD hC (XE t (8*((UY t+7)/8-3)) htl bO) O O O O O O (F1 (n1 _)) O,Zt⟩ O O (d5 O O O O O (tV (V2 3 4) (p7 4 1) 38 O O O ?_));refine W.seq (W.seq ?_);have hxl:(H3 t (8*((UY t+7)/8-3))).length=4:=I1 htl _;refine z8 3 (y3 24 25 26) (V3 3 4 26) ⟨aU fun _ _ H K=>R.idxP (0) (K 4 _ O) (b4 (kI 0 O)) O bU H,aU fun _ B H K=>R.ldP (K 24 _ O) (B 4 _ O) (v9 (j5 (l:=(H3 t (8*((UY t+7)/8-3)))) bU) v8 bU) O O O H,aU<|B6 O (kW (.int .u64 8388608) (.u64 8388608) O) O O,Zt⟩ ?_;refine W.cond O (fun hc26=>?_) (fun hc26=>?_)
   ·refine z5 3 (y2 27 28) [] [] (V3 3 4 28) ⟨aU (lU 4 O O O O O O O),aU<|ZB hC (XE (H3 t (8*((UY t+7)/8-3))) 8 hxl dU) O O O (kI 8 O) O O (F1 (n1 _)) O,Zt⟩ O O (d5 O O O O O (tV (V2 3 4) (p7 4 1) 38 O O O ?_));refine z8 3 (y3 29 30 3) (V2 3 4) ⟨mU 3 O O,aU<|Q6 1 O O bU O,aU<|zA O O O,Zt⟩ ?_;refine W.seq ?_;have hyl:=I1 hxl 8;refine z8 8 (y8 31 32 33 34 35 36 37 2) (V1 2) ⟨mU 3 O O,aU<|zW O O O,aU fun _ _ H K=>R.bin (eU K 32 O) (kW (.int .u64 24) (.u64 24) O) O bV H,aU fun _ _ H K=>R.idxP (0) (K 4 _ O) (b4 (kI 0 O)) O bU H,aU fun _ B H K=>R.ldP (K 34 _ O) (B 4 _ O) (v9 (j5 (l:=(H3 (H3 t (8*((UY t+7)/8-3))) 8)) bU) v8 bU) O O O H,aU<|zW O O O,aU<|zB O O O O,aU<|zA O O O,Zt⟩ ?_;refine W.ret ?_;exact q8 (.inr O) O (by rw[k11 hc7 (TO h3) (of_decide_eq_true hc26)]<;>rfl) O O Zt
   ·refine W.skip (W.seq ?_);have hyl:=I1 hxl 8;refine z8 8 (y8 31 32 33 34 35 36 37 2) (V1 2) ⟨mU 3 O O,aU<|zW O O O,aU fun _ _ H K=>R.bin (eU K 32 O) (kW (.int .u64 24) (.u64 24) O) O bV H,aU fun _ _ H K=>R.idxP (0) (K 4 _ O) (b4 (kI 0 O)) O bU H,aU fun _ B H K=>R.ldP (K 34 _ O) (B 4 _ O) (v9 (j5 (l:=(H3 t (8*((UY t+7)/8-3)))) bU) v8 bU) O O O H,aU<|zW O O O,aU<|zB O O O O,aU<|zA O O O,Zt⟩ ?_;refine W.ret ?_;exact q8 (.inr O) O (by rw[k14 hc7 (TO h3) (of_decide_eq_false hc26)]<;>rfl) O O Zt
theorem q63(h:Hs)(t:Bg)(hh:h.length=32)(htl:t.length=4):Fn Tryz.prog gl 129 [z7 h,Z9 t] (.bool (XX h t)):=by
 refine Fn.of (n:=15) Tryz.func129 rfl rfl rfl (nU rfl) fun C hC hD=>?_;refine z5 3 [] [] [] (V2 0 1) Zt O O (⟨O,_,R.box (gV 0 O) O O (nU O),⟨O,_,R.box (gV 1 O) O O (nU O),⟨O,_,j4 (kB false O) O (nU O),tV (V2 2 3) (p7 3 2) 15 O O O ?_⟩⟩⟩);refine W.seq ?_;by_cases hz:t=w9
 ·refine W.dr (m:=11) (an:=[0,0,3,7,15,15,47,127,255,511,1023]) hP dU O (its:=[.y 5 _,.y 6 _,.y 7 _,.y 8 _,.x 9,.x 10,.x 11,.x 12,.x 13,.y 14 _,.y 4 _]) (ks:=[]) (kk:=[]) (env':=(V1 4)) (⟨nU O,O,⟨aU (lU 3 O O O O O O O),aU fun _ _ H _=>R.bldAZ O H,aU fun _ _ H K=>R.eqD (neg:=true) (b':=(t != w9)) (O0 _ _) O (eU K 5 O) (eU K 6 O) O O O O (O) H,mU 7 O O,aF O O (gF (by rw[hz];rfl) O),aF O O (gF (by rw[hz];rfl) O),aF O O (gF (by rw[hz];rfl) O),aF O O (gF (by rw[hz];rfl) O),aF O O (gF (by rw[hz];rfl) O),aU<|YL O (by rw[hz];rfl) (kB false O) O O,aU<|zA O O O,Zt⟩,O,O,O⟩) O (bx':=(p7 3 2)) O (n':=15) O (tV (V1 4) (p7 3 2) 15 O O O ?_);refine W.ret ?_;exact q8 (.inr O) O (by rw[x36 hz]) O O Zt
 ·refine W.dr (m:=11) (an:=[0,0,3,7,15,15,47,127,255,511,1023]) hP dU O (its:=[.y 5 _,.y 6 _,.y 7 _,.y 8 _,.y 9 _,.y 10 _,.y 11 _,.y 12 _,.y 13 _,.y 14 _,.y 4 _]) (ks:=[]) (kk:=[]) (env':=(V1 4)) (⟨nU O,O,⟨aU (lU 3 O O O O O O O),aU fun _ _ H _=>R.bldAZ O H,aU fun _ _ H K=>R.eqD (neg:=true) (b':=(t != w9)) (O0 _ _) O (eU K 5 O) (eU K 6 O) O O O O (O) H,mU 7 O O,aW O O (gT (bne_iff_ne.2 hz) O) (lU 3 O O O O O O O),aW O O (gT (bne_iff_ne.2 hz) O) (lU 2 O O O O O O O),aW O O (gT (bne_iff_ne.2 hz) O)<|zC hC (j36 h hh) O O O (F1 (n1 _)) O,aW O O (gT (bne_iff_ne.2 hz) O)<|zD hC (DE t (II h) htl (z24 h)) O O O O O O (F1 (.bool _)) O,aW O O (gT (bne_iff_ne.2 hz) O)<|UQ O O O,aU<|zT O (bne_iff_ne.2 hz) O O O,aU<|zA O O O,Zt⟩,O,O,O⟩) O (bx':=(p7 3 2)) O (n':=15) O (tV (V1 4) (p7 3 2) 15 O O O ?_);refine W.ret ?_;exact q8 (.inr O) O (by rw[x35 hz]) O O Zt
end Go.Sx

namespace Go.Sx
structure HdS where
 ver:UInt32
 prev:Hs
 root:Hs
 time:UInt32
 bits:UInt32
 nonce:UInt32
 deriving DecidableEq,Inhabited
def m7(h:HdS):D:=.agg [.u32 h.ver,z7 h.prev,z7 h.root,.u32 h.time,.u32 h.bits,.u32 h.nonce]
def HdS.wf(h:HdS):Prop:=h.prev.length=32/\h.root.length=32
def zeroH:HdS:=⟨0,zero32,zero32,0,0,0⟩
def byt(v:UInt32)(i:Nat):UInt8:=(w7 v (8*i)).toUInt8
def LX(v:UInt32):List UInt8:=[byt v 0,byt v 1,byt v 2,byt v 3]
def EC(h:HdS):List UInt8:=LX h.ver++h.prev++h.root++LX h.time++LX h.bits++LX h.nonce
theorem q13(h:HdS)(hw:h.wf):(EC h).length=80:=by simp[EC,LX,hw.1,hw.2]
theorem TG(h:HdS):Frs (m7 h):=by
 refine .agg _ fun x hx=>?_;simp only[List.mem_cons,List.not_mem_nil,or_false] at hx
 rcases hx with rfl|rfl|rfl|rfl|rfl|rfl
 ·exact .u32 _
 ·exact J0 _
 ·exact J0 _
 ·exact .u32 _
 ·exact .u32 _
 ·exact .u32 _
theorem GI(h:HdS):(m7 h).brw=m7 h:=by
 simp only[m7,D.brw,C8,D8]
def allW(l:List HdS):Prop:=∀ h∈l,h.wf
theorem allW.get{l:List HdS}(h:allW l){i:Nat}(hi:i<l.length):l[i]!.wf:=by
 rw[getElem!_pos l i hi];exact h _ (List.getElem_mem hi)
theorem x41(v:UInt32):[D.u8 v.toUInt8,.u8 (w7 v 8).toUInt8,.u8 (w7 v 16).toUInt8,.u8 (w7 v 24).toUInt8]=(LX v).map D.u8:=by
 have:w7 v 0=v:=by unfold w7;simp
 simp only[LX,byt,List.map_cons,List.map_nil,Nat.mul_zero,this]
theorem FB(a b:List UInt8)(n:Nat)(h:b.length=n):a.map D.u8++((b.map D.u8).drop 0).take n=(a++b).map D.u8:=by
 rw[List.drop_zero,List.take_of_length_le (by simp[h]),List.map_append]
def XG(h:HdS):Hs:=D2 (EC h)
end Go.Sx

namespace Go.Sx
open Go.Proofs
theorem GN(v:UInt32):Fn Tryz.prog gl 159 [.u32 v] (.sl (some 5) 1 ((LX v).map D.u8)):=by
 refine Fn.of (n:=15) Tryz.func159 rfl rfl rfl (nU rfl) fun C hC hD=>?_;refine q9 1 (y1 2) (V1 0) ⟨aU<|zK (kN O) O O,Zt⟩ ?_;refine z5 13 (w92 3 4 5 6 7 8 9 10 11 12 13 14 2) [(12,14)] [(12,14)] (V1 2) ⟨mU 0 O O,aU<|zW O O O,mU 0 O O,aU fun _ _ H K=>R.bin (eU K 5 O) (kW (.int .u64 8) (.u64 8) O) O bV H,aU<|zW O O O,mU 0 O O,aU fun _ _ H K=>R.bin (eU K 8 O) (kW (.int .u64 16) (.u64 16) O) O bV H,aU<|zW O O O,mU 0 O O,aU fun _ _ H K=>R.bin (eU K 11 O) (kW (.int .u64 24) (.u64 24) O) O bV H,aU<|zW O O O,aU fun _ _ H K=>w8 (z:=1) (.cons (eU K 4 O) (.cons (eU K 7 O) (.cons (eU K 10 O) (.cons (eU K 13 O) .nil)))) ⟨⟨O,O,O⟩,⟨O,O,O⟩,⟨O,O,O⟩,⟨O,O,O⟩,Zt⟩ O H dU,aU<|zO O O O,Zt⟩ O O (tU O ?_);refine W.ret ?_;exact q8 (.inr O) O (congrArg (D.sl (some 5) 1) (x41 v)) O O Zt
theorem z81(h:HdS)(hw:h.wf):Fn Tryz.prog gl 134 [m7 h] (.sl (some 5) 1 ((EC h).map D.u8)):=by
 refine Fn.of (n:=30) Tryz.func134 rfl rfl rfl (nU rfl) fun C hC hD=>?_;have hw1:=hw.1;have hw2:=hw.2;refine z5 2 [] [] [] (V1 0) Zt O O (⟨O,_,R.box (gV 0 O) O O (nU O),⟨O,_,j4 (kN O) O (nU O),tV (V1 1) (p6 1) 30 O O O ?_⟩⟩);refine z5 4 (y4 4 5 6 3) [(3,6)] [(3,6)] (V2 1 3) ⟨aU (fU 1 O O),aU (lU 4 O O O O O O O),aU<|zC hC (GN h.ver) O O O (F1 (.sl _ _ _ (j6 fun _=>.u8 _))) O,aU<|zO O O O,Zt⟩ O O (tU O ?_);refine z5 5 (y5 7 8 9 10 3) [(3,3),(4,10),(4,7)] [(3,3),(4,10)] (V2 1 3) ⟨aU<|zM O O,aU (fU 1 O O),aU fun _ B H K=>G5 (0) (32) (32) (K 8 _ O) (B 1 _ O) O O O O O bU bU O H,aU fun _ B H K=>J8 (Or.inr (K 7 _ O)) (K 3 _ O) (SrcO.sc (SC.va (K 9 _ O) (B 1 _ O) O dU) (P0 (fun _=>rfl))) (show _=((LX h.ver++h.prev).map D.u8) from(FB _ h.prev 32 hw1)) (by simp[LX,hw1,hw2]) H dU dU,aU<|zO O O O,Zt⟩ O O (tU O ?_);refine z5 5 (y5 11 12 13 14 3) [(3,3),(4,14),(4,11)] [(3,3),(4,14)] (V2 1 3) ⟨aU<|zM O O,aU (fU 1 O O),aU fun _ B H K=>G5 (0) (32) (32) (K 12 _ O) (B 1 _ O) O O O O O bU bU O H,aU fun _ B H K=>J8 (Or.inr (K 11 _ O)) (K 3 _ O) (SrcO.sc (SC.va (K 13 _ O) (B 1 _ O) O dU) (P0 (fun _=>rfl))) (show _=((LX h.ver++h.prev++h.root).map D.u8) from(FB _ h.root 32 hw2)) (by simp[LX,hw1,hw2]) H dU dU,aU<|zO O O O,Zt⟩ O O (tU O ?_);refine z5 6 (y6 15 16 17 18 19 3) [(4,3),(5,19),(5,15)] [(4,3),(5,19)] (V2 1 3) ⟨aU<|zM O O,aU (fU 1 O O),aU (lU 16 O O O O O O O),aU<|zC hC (GN h.time) O O O (F1 (.sl _ _ _ (j6 fun _=>.u8 _))) O,aU<|QH O O O (c6 (fun _=>rfl)) (GR) (by simp[LX,hw1,hw2]) O,aU<|zO O O O,Zt⟩ O O (tU O ?_);refine z5 6 (y6 20 21 22 23 24 3) [(4,3),(5,24),(5,20)] [(4,3),(5,24)] (V2 1 3) ⟨aU<|zM O O,aU (fU 1 O O),aU (lU 21 O O O O O O O),aU<|zC hC (GN h.bits) O O O (F1 (.sl _ _ _ (j6 fun _=>.u8 _))) O,aU<|QH O O O (c6 (fun _=>rfl)) (GR) (by simp[LX,hw1,hw2]) O,aU<|zO O O O,Zt⟩ O O (tU O ?_);refine z5 6 (y6 25 26 27 28 29 2) [(4,3),(5,29)] [(4,3),(5,29)] (V1 2) ⟨aU<|zM O O,aU (fU 1 O O),aU (lU 26 O O O O O O O),aU<|zC hC (GN h.nonce) O O O (F1 (.sl _ _ _ (j6 fun _=>.u8 _))) O,aU<|QH O O O (c6 (fun _=>rfl)) (GR) (by simp[LX,hw1,hw2]) O,aU<|zO O O O,Zt⟩ O O (tU O ?_);refine W.ret ?_;exact q8 (.inr O) O (O) O O Zt
theorem TY(h:HdS)(hw:h.wf):Fn Tryz.prog gl 82 [m7 h] (z7 (XG h)):=by
 refine Fn.of (n:=6) Tryz.func82 rfl rfl rfl (nU rfl) fun C hC hD=>?_;refine z5 2 [] [] [] (V1 0) Zt O O (⟨O,_,R.box (gV 0 O) O O (nU O),(Q7 O O (tV (V2 1 2) (p7 2 1) 6 O O O ?_))⟩);refine z5 4 (y3 3 4 5) [] [] (V2 2 5) ⟨aU (lU 1 O O O O O O O),aU<|zC hC (z81 h hw) O O O (F1 (.sl _ _ _ (j6 fun _=>.u8 _))) O,aU fun _ _ H K=>w6 hC (ZO (EC h) (by rw[q13 h hw];decide)) (Bc (Bor.sc (SC.sl (K 4 _ O)) (j2 (fun _=>rfl))) Bn) (F1 (m4 _)) H,Zt⟩ O O (d5 O O O O O (tV (V1 2) (p7 2 1) 6 O O O ?_));refine W.ret ?_;exact q8 (.inr O) O (O) O O (iL 23 32)
end Go.Sx

namespace Go.Sx
open Go.Proofs
theorem HD(a b:Hs)(hx:a.length=32)(hy:b.length=32):Fn Tryz.prog gl 111 [z7 a,z7 b] (z7 (d9 a b)):=by
 refine Fn.of (n:=13) Tryz.func111 rfl rfl rfl (nU rfl) fun C hC hD=>?_;refine z5 3 [] [] [] (V2 0 1) Zt O O (⟨O,_,R.box (gV 0 O) O O (nU O),⟨O,_,R.box (gV 1 O) O O (nU O),(Q7 O O (tV (V3 2 3 4) (d7 4 3 2) 13 O O O ?_))⟩⟩);refine z5 4 (y4 6 7 8 5) [(2,6),(3,8)] [(2,6),(3,8)] (V3 3 4 5) ⟨aU fun _ _ H _=>w8 .nil Zt O H dU,aU fun _ B H K=>G5 (0) (32) (32) (K 2 _ O) (B 2 _ O) O O O O O bU bU O H,aU fun _ B H K=>J8 (Or.inl O) (K 6 _ O) (SrcO.sc (SC.va (K 7 _ O) (B 2 _ O) O dU) (P0 (fun _=>rfl))) (show _=(a.map D.u8) from((List.nil_append _).trans (z11 a hx))) (by simp[hx]) H dU dU,aU<|zO O O O,Zt⟩ O O (tU O ?_);refine z5 5 (y4 9 10 11 12) [(2,5)] [(2,5)] (V2 4 12) ⟨aU<|zM O O,aU fun _ B H K=>G5 (0) (32) (32) (K 3 _ O) (B 3 _ O) O O O O O bU bU O H,aU fun _ B H K=>J8 (Or.inr (K 9 _ O)) (K 5 _ O) (SrcO.sc (SC.va (K 10 _ O) (B 3 _ O) O dU) (P0 (fun _=>rfl))) (show _=((a++b).map D.u8) from(by rw[z11 b hy,List.map_append])) (by simp[hx,hy]) H dU dU,aU fun _ _ H K=>w6 hC (ZO (a++b) (by simp only[List.length_append,hx,hy];decide)) (Bc (Bor.sc (SC.sl (K 11 _ O)) (j2 (fun _=>rfl))) Bn) (F1 (m4 _)) H,Zt⟩ O O (d5 O O O O O (tV (V1 4) (d7 4 3 2) 13 O O O ?_));refine W.ret ?_;exact q8 (.inr O) O (O) O O (iL 23 32)
theorem x06(l:List Hs)(k:Nat)(h0:0<l.length)(hl0:l.length<=1000)(hk0:k<=1000000):Fn Tryz.prog gl 158 [.sl none 32 (l.map z7),.int ((k:Nat):Int)] (z7 l[min k (l.length-1)]!):=by
 refine Fn.of (n:=13) Tryz.func158 rfl rfl rfl (nU rfl) fun C hC hD=>?_;refine z5 1 [] [] [] (V2 0 1) Zt O O (Q7 O O (tV (V3 0 1 4) (p6 4) 13 O O O ?_));refine z5 9 (y8 5 6 7 8 9 10 11 12) [] [] (V2 4 12) ⟨mU 0 O O,mU 1 O O,mU 0 O O,aU<|zN O (lN _) O,aU<|OD 1 O O bU bU O,aU fun _ _ H K=>R.minI (r:=((min k (l.length-1):Nat):Int)) (eU K 6 O) (eU K 9 O) bO H,aU<|zI (min k (l.length-1)) O O O bU O,aU<|zL O O (mG l) O O O O O,Zt⟩ O O (d5 O O O O O (tV (V1 4) (p6 4) 13 O O O ?_));refine W.ret ?_;exact q8 (.inr O) O (O) O O (iL 23 32)
theorem WM(l:List Hs)(hl:allH l)(hl0:l.length<=1000):Fn Tryz.prog gl 130 [.sl none 32 (l.map z7)] (.sl (some 23) 32 ((w53 d9 l).map z7)):=by
 refine Fn.of (n:=24) Tryz.func130 rfl rfl rfl (nU rfl) fun C hC hD=>?_;refine q9 1 (y1 2) (V1 0) ⟨aU<|zK (kN O) O O,Zt⟩ ?_;refine q9 1 (y1 3) (V2 0 3) ⟨aU<|zK (kN O) O O,Zt⟩ ?_;refine W.seq (q9 1 (y1 4) (V3 0 3 4) ⟨aU<|zK (kI 0 O) O O,Zt⟩ ?_);refine W.block ?_;refine X5 (s:=3) 23 32 O ?_;refine W.loop (α:={q__:Nat//q__<=(l.length+1)/2}) (fun q__=>⟨24,[(0,.sl none 32 (l.map z7)),(3,.sl (some 23) 32 ((j87 d9 l q__.1).map z7)),(4,.int ((2*q__.1:Nat):Int))],[]⟩) (fun q__=>(l.length+1)/2-q__.1) ⟨(0),bU⟩ O ?_;rintro ⟨i,hi⟩;show W _ _ _ _ ⟨24,[(0,.sl none 32 (l.map z7)),(3,.sl (some 23) 32 ((j87 d9 l i).map z7)),(4,.int ((2*i:Nat):Int))],[]⟩;have hul:=RR d9 l i;refine W.seq (q9 4 (y4 5 6 7 8) (V4 0 3 4 8) ⟨mU 4 O O,mU 0 O O,aU<|zN O (lN _) O,aU<|zS O O O,Zt⟩ ?_);refine z6 O (fun hc8=>?_) (fun hc8=>?_)
 ·refine W.skip (W.seq (W.block ?_));refine W.dr (m:=13) (an:=[0,0,0,6,14,0,0,64,224,510,1022,2047,4095]) hP dU O (its:=[.y 11 _,.y 12 _,.y 13 _,.y 14 _,.y 15 _,.y 16 _,.y 17 _,.y 18 _,.y 19 _,.y 20 _,.y 21 _,.y 22 _,.y 3 _]) (ks:=[(11,3),(12,22),(12,11)]) (kk:=[(11,3),(12,22)]) (env':=(V3 0 3 4)) (⟨nU O,O,⟨aU<|zM O O,mU 0 O O,mU 4 O O,aU<|zI (2*i) O O O bU O,aU<|zL O O (mG l) O O O O O,mU 0 O O,mU 4 O O,aU<|Q6 1 O O bU O,aU<|zD hC (x06 l (2*i+1) bO hl0 bO) O O O O O O (F1 (m4 _)) O,aU<|zD hC (HD _ _ (hl.get bO) (hl.get bO)) O O O O O O (F1 (m4 _)) O,aU fun _ _ H K=>w8 (z:=32) (.cons (eU K 20 O) .nil) ⟨⟨O,O,O⟩,Zt⟩ O H dU,aU<|QH O O O (g6 O) (KK) bU O,aU<|zO O O O,Zt⟩,O,O,O⟩) O (bx':=[]) O (n':=24) O (tV (V3 0 3 4) [] 24 O O O ?_);refine z8 3 (y3 9 10 4) (V3 0 3 4) ⟨mU 4 O O,aU<|Q6 2 O O bU O,aU<|zA O O O,Zt⟩ ?_;exact⟨⟨(i+1),bU⟩,rfl,(by simp only[];omega)⟩
 ·obtain rfl:i=(l.length+1)/2:=by omega
  refine W.exit (z5 2 (y2 23 2) [(0,3),(1,23)] [(0,3),(1,23)] (V1 2) ⟨aU fun _ _ H K=>T5 (K 3 _ O) O H dU,aU<|zO O O O,Zt⟩ O O (tU O ?_));refine W.ret ?_;exact q8 (.inr O) O (O) O O Zt
end Go.Sx
