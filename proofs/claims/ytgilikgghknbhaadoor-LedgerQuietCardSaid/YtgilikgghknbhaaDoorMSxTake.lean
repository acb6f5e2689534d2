/- Proved: what functions of the given program compute (used by the theorem of this claim). Conditions: none but those that each theorem states. -/
import Derived.Test.YtgilikgghknbhaaDoorMSxRange3
import Derived.Recover
import Derived.Test.YtgilikgghknbhaaDoorMSxApp2
import Derived.Lib.AppendZerosOnto
set_option linter.unusedVariables false
set_option linter.unusedSimpArgs false
set_option linter.unnecessarySimpa false

namespace Go.Sx
variable{P:Program}{C:Ctx}{σ σ' σ1:Sg}{a:Act}{w w':World}{ρ:Nat->Nat}{Fe Fe' Fb:Nat->List Nat}
theorem Rc.take{G L:Nat->Prop}{d d':D}{cs:List Value}{F:List Nat}(h:Rc w ρ G L true d cs F){path:List Nat}{off e z:Nat}{l:List D}
 (hl:d.loc path=some (off,.sl (some e) z l)) (hna:d.noArr path=true) (hu:d.upd path .dead=some d') (hF:F.Nodup) :
 ∃ v F1 F2,cs[off]? = some v/\Rc w ρ G L true (.sl (some e) z l) [v] F1/\Rc w ρ G L true d' cs F2/\(∀ b∈F1,b∈F)/\(∀ b∈F2,b∈F)/\F1.Nodup/\F2.Nodup/\(∀ b∈F1,b∉F2)/\d'.sz=d.sz:=by
 induction path generalizing d cs F off d' with
 | nil=>
  simp only[D.loc,Option.some.injEq,Prod.mk.injEq] at hl;simp only[D.upd,Option.some.injEq] at hu;obtain⟨rfl,rfl⟩:=hl;subst hu;have h1:=h.len
  obtain⟨v,rfl⟩:∃ v,cs=[v]:=by
   match cs,h1 with
   | [x],_=>exact⟨x,rfl⟩
  exact⟨v,F,[],rfl,h,.dead v (h.one v (by simp)),fun _ h=>h,by simp,hF,List.nodup_nil,by simp,rfl⟩
 | cons k path ih=>
  cases h with
  | agg l0 cs Fs hs hr=>
   simp only[D.loc] at hl;simp only[D.upd] at hu
   cases hk:l0[k]? with
   | none=>simp[hk] at hl
   | some d2=>
    obtain⟨hklt,rfl⟩:=List.getElem?_eq_some_iff.1 hk;simp only[hk] at hl hu
    cases hd:D.loc l0[k] path with
    | none=>simp[hd] at hl
    | some od=>
     obtain⟨o,d3⟩:=od;simp only[hd,Option.some.injEq,Prod.mk.injEq] at hl;obtain⟨rfl,rfl⟩:=hl
     cases hud:D.upd l0[k] path .dead with
     | none=>simp[hud] at hu
     | some d4=>
      simp only[hud,Option.some.injEq] at hu;subst hu;obtain⟨hn1,hn2⟩:=Y9 hF;have hkm:∀ b∈Fs k,b∈(List.range l0.length).flatMap Fs:=fun b hb=>List.mem_flatMap.2 ⟨k,List.mem_range.2 hklt,hb⟩;simp only[D.noArr,hk] at hna;obtain⟨v,F1,F2,h1,h2,h3,h4,h5,h6,h7,h8,h9⟩:=ih (hr k hklt) hd hna hud (hn1 k hklt);have hlen:=(hr k hklt).len;have hlo:=K2 l0 k hklt
      have hol:o<l0[k].sz:=by
       have:=(List.getElem?_eq_some_iff.1 h1).1;omega
      refine⟨v,F1,(List.range (l0.set k d4).length).flatMap (fun j=>if j=k then F2 else Fs j), ?_,h2, ?_,fun b hb=>hkm b (h4 b hb), ?_,h6, ?_, ?_, ?_⟩
      ·rw[List.getElem?_take,if_pos hol,List.getElem?_drop] at h1;exact h1
      ·refine .agg (l0.set k d4) _ _ ?_ (fun j hj=>?_)
       ·rw[hs,L4 l0 k d4 hklt h9]
       ·have hj':j<l0.length:=by simpa using hj
        rw[T7 l0 k j d4 hklt h9];by_cases hjk:j=k
        ·subst hjk;simp only[List.getElem_set_self,if_true,h9];exact h3
        ·have hjj:(l0.set k d4)[j]=l0[j]:=by rw[List.getElem_set_ne (fun e=>hjk e.symm)]
         simp only[hjj,hjk,if_false];exact hr j hj'
      ·intro b hb;obtain⟨j,hj,hm⟩:=List.mem_flatMap.1 hb
       have hj':j<l0.length:=by simpa using List.mem_range.1 hj
       by_cases hjk:j=k
       ·subst hjk;simp at hm;exact hkm b (h5 b hm)
       ·simp only[hjk,if_false] at hm;exact List.mem_flatMap.2 ⟨j,List.mem_range.2 hj',hm⟩
      ·refine o9 (fun j hj=>?_) (fun i j hi hj hij b hb hb'=>?_)
       ·have hj':j<l0.length:=by simpa using hj
        by_cases hjk:j=k
        ·simp[hjk,h7]
        ·simp only[hjk,if_false];exact hn1 j hj'
       ·have hi':i<l0.length:=by simpa using hi
        have hj':j<l0.length:=by simpa using hj
        by_cases hik:i=k
        ·subst hik;simp only[if_true] at hb;simp only[show ¬ j=i from fun e=>hij e.symm,if_false] at hb';exact hn2 j i hj' hi' (fun e=>hij e.symm) b hb' (h5 b hb)
        ·simp only[hik,if_false] at hb;by_cases hjk:j=k
         ·simp only[hjk,if_true] at hb';exact hn2 i k hi' hklt hik b hb (h5 b hb')
         ·simp only[hjk,if_false] at hb';exact hn2 i j hi' hj' hij b hb hb'
      ·intro b hb hb';obtain⟨j,hj,hm⟩:=List.mem_flatMap.1 hb'
       have hj':j<l0.length:=by simpa using List.mem_range.1 hj
       by_cases hjk:j=k
       ·subst hjk;simp at hm;exact h8 b hb hm
       ·simp only[hjk,if_false] at hm;exact hn2 j k hj' hklt hjk b hm (h4 b hb)
      ·simp only[D.sz];rw[L4 l0 k d4 hklt h9]
  | arr n z l cs hn hs hr=>simp[D.noArr] at hna
  | _=>simp[D.loc] at hl
theorem St.takeP{id t off e z:Nat}{path:List Nat}{l:List D}{d0 d0':D}(h:σ.get t=some (.alb id off path))(hb:σ.box id=some (.var d0))(hl:d0.loc path=some (off,.sl (some e) z l))
 (hna:d0.noArr path=true) (hu:d0.upd path .dead=some d0') (hs:St C σ a w) :
 St C ((σ.putB id (.var d0')).upd t (.sl (some e) z l)) a w:=by
 obtain⟨ρ,Fe,Fb,st⟩:=hs;obtain⟨hFt,hid,v,hv,hcell⟩:=st.env t _ h;obtain⟨cs,e0,F',q1,q2,q3⟩:=st.bx id _ hb
 have hnd:(ρ id::F').Nodup:=by have:=st.nodB id;rw[q3] at this;exact this
 obtain⟨v0,F1,F2,k1,k2,k3,k4,k5,k6,k7,k8,k9⟩:=q2.take hl hna hu (List.nodup_cons.1 hnd).2
 have hvv:v0=v:=by
  have:cs[off]? = some v0:=by rw[<- Array.getElem?_toList];exact k1
  simp only[World.cell?,q1] at hcell;rw[this] at hcell;cases hcell;rfl
 subst hvv
 have hmem:∀ b,b∈F1->b∈Fb id:=fun b hb=>by rw[q3];exact List.mem_cons_of_mem _ (k4 b hb)
 have hmem2:∀ b,b∈ρ id::F2->b∈Fb id:=fun b hb=>by
  rw[q3]
  rcases List.mem_cons.1 hb with rfl|hb
  ·simp
  ·exact List.mem_cons_of_mem _ (k5 b hb)
 have hot:∀ b,own (upd Fe t F1) (upd Fb id (ρ id::F2)) b->own Fe Fb b:=by
  rintro b (⟨u,hu⟩|⟨i,hi⟩)
  ·by_cases hut:u=t
   ·subst hut;rw[j3] at hu;exact .inr ⟨id,hmem b hu⟩
   ·rw[q8 hut] at hu;exact .inl ⟨u,hu⟩
  ·by_cases hii:i=id
   ·subst hii;rw[j3] at hi;exact .inr ⟨i,hmem2 b hi⟩
   ·rw[q8 hii] at hi;exact .inr ⟨i,hi⟩
 have hg:∀ b,gd C Fe Fb b->gd C (upd Fe t F1) (upd Fb id (ρ id::F2)) b:=fun b hb=>⟨hb.1,fun hc=>hb.2 (hot b hc)⟩
 have hbox:∀ i,((σ.putB id (.var d0')).upd t (.sl (some e) z l)).box i=if i=id then some (.var d0') else σ.box i:=fun i=>by
  rw[SG,F9];by_cases hi:i=id
  ·subst hi;simp[hb]
  ·simp[hi]
 have hL:∀ i,(σ.box i).isSome=true->(((σ.putB id (.var d0')).upd t (.sl (some e) z l)).box i).isSome=true:=fun i hi=>by
  rw[hbox];by_cases hii:i=id
  ·simp[hii]
  ·simpa [hii] using hi
 refine⟨ρ,upd Fe t F1,upd Fb id (ρ id::F2),{
  size:=st.size
  defs:=st.defs
  pin:=fun i b hp=>⟨(st.pin i b hp).1,hL i (st.pin i b hp).2⟩
  env:=fun u x hx=>?_
  envN:=fun u hu=>?_
  bx:=fun i b hd=>?_
  bxN:=fun i hn=>?_
  nodE:=fun u=>?_
  nodB:=fun i=>?_
  dEE:=fun u u' hne b hb1 hb2=>?_
  dEB:=fun u i b hb1 hb2=>?_
  dBB:=fun i i' hne b hb1 hb2=>?_
  new:=fun b hb=>st.new b (hot b hb)
  kept:=st.kept
  os:=st.os
  tape:=⟨st.tape.tp,st.tape.dr⟩
  output:=st.output
  grown:=st.grown
  gl:=st.gl
  okN:=st.okN
  okO:=fun b hb=>st.okO b (hot b hb) }⟩
 ·rw[M5,Y2] at hx;by_cases hut:u=t
  ·subst hut;simp only[if_true,h,Option.map_some] at hx;cases hx;rw[j3];refine(j2 rfl).2 ⟨v0,hv, ?_⟩;simp only[VR,D.isAgg,Bool.false_eq_true,if_false];exact k2.mono (fun _ _ _=>rfl) (fun b hb _=>hg b hb) (fun i hi=>⟨hL i hi,rfl⟩)
  ·simp only[hut,if_false,Option.map_eq_some_iff] at hx;obtain⟨x0,hx0,rfl⟩:=hx;rw[q8 hut];have hsr:=st.env u x0 hx0
   have hkeep:SR w ρ (gd C (upd Fe t F1) (upd Fb id (ρ id::F2))) (fun i=>(((σ.putB id (.var d0')).upd t (.sl (some e) z l)).box i).isSome) a u x0 (Fe u):=
    PR hsr (fun _ _ _=>rfl) (fun b hb _=>hg b hb) hL (fun _ _ _ _ h=>h)
   cases x0 with
   | alb i off path=>
    simp only[H3];by_cases hii:i=id
    ·subst hii;simp only[Nat.beq_refl,cond_true];obtain⟨h1,_,v1,h2,_⟩:=hsr;exact⟨h1,v1,h2⟩
    ·simp only[nbeq hii,cond_false];exact hkeep
   | _=>exact hkeep
 ·rw[M5,Y2] at hu;by_cases hut:u=t
  ·subst hut;simp[h] at hu
  ·simp only[hut,if_false,Option.map_eq_none_iff] at hu;rw[q8 hut];exact st.envN u hu
 ·rw[hbox] at hd;by_cases hii:i=id
  ·subst hii;simp only[if_true,Option.some.injEq] at hd;subst hd;rw[j3];exact⟨cs,e0,F2,q1,k3.mono (fun _ _ _=>rfl) (fun b hb _=>hg b hb) (fun i hi=>⟨hL i hi,rfl⟩),rfl⟩
  ·simp only[hii,if_false] at hd;rw[q8 hii];exact(st.bx i b hd).mono (fun _ _ _=>rfl) (fun b hb _=>hg b hb) (fun i hi=>⟨hL i hi,rfl⟩)
 ·rw[hbox] at hn;by_cases hii:i=id
  ·simp[hii] at hn
  ·simp only[hii,if_false] at hn;rw[q8 hii];exact st.bxN i hn
 ·by_cases hut:u=t
  ·subst hut;rw[j3];exact k6
  ·rw[q8 hut];exact st.nodE u
 ·by_cases hii:i=id
  ·subst hii;rw[j3];exact List.nodup_cons.2 ⟨fun hm=>(List.nodup_cons.1 hnd).1 (k5 _ hm),k7⟩
  ·rw[q8 hii];exact st.nodB i
 ·by_cases hut:u=t
  ·subst hut;rw[j3] at hb1;rw[q8 (fun h=>hne h.symm)] at hb2;exact st.dEB u' id b hb2 (hmem b hb1)
  ·rw[q8 hut] at hb1;by_cases hut':u'=t
   ·subst hut';rw[j3] at hb2;exact st.dEB u id b hb1 (hmem b hb2)
   ·rw[q8 hut'] at hb2;exact st.dEE u u' hne b hb1 hb2
 ·by_cases hii:i=id
  ·subst hii;rw[j3] at hb2;by_cases hut:u=t
   ·subst hut;rw[j3] at hb1
    rcases List.mem_cons.1 hb2 with rfl|hb2
    ·exact(List.nodup_cons.1 hnd).1 (k4 _ hb1)
    ·exact k8 b hb1 hb2
   ·rw[q8 hut] at hb1;exact st.dEB u i _ hb1 (hmem2 b hb2)
  ·rw[q8 hii] at hb2;by_cases hut:u=t
   ·subst hut;rw[j3] at hb1;exact st.dBB id i (fun h=>hii h.symm) b (hmem b hb1) hb2
   ·rw[q8 hut] at hb1;exact st.dEB u i b hb1 hb2
 ·have key:∀ i b,b∈upd Fb id (ρ id::F2) i->b∈Fb i:=fun i b hb=>by
   by_cases hii:i=id
   ·subst hii;rw[j3] at hb;exact hmem2 b hb
   ·rw[q8 hii] at hb;exact hb
  exact st.dBB i i' hne b (key i b hb1) (key i' b hb2)
theorem UX{s id off t e z bytes:Nat}{path:List Nat}{d0 d0':D}{x:Operand}{l l' l2:List D}{ty rt:TypeId}{pos:String}{aft:Array Edge}{g:Option (Nat×Bool)}[hT:SlT P ty e][hE:ElT P e z bytes]
 (h:σ.get s=some (.alb id off path)) (hb:σ.box id=some (.var d0)) (hl:d0.loc path=some (off,.sl (some e) z l)) (hna:d0.noArr path=true) (hu:d0.upd path .dead=some d0')
 {τ:Sg} (hτ:(σ.putB id (.var d0')).upd s (.sl (some e) z l)=τ) (hs:τ.get s=some (.sl (some e) z l))
 (hx:SrcO C.gl τ x z l') (he:l++l'=l2) (hn:l.length+l'.length<=1073741824) (ht:t<σ.n) (hst:s≠t) (hby:bytes<=131072) :
 OpS P C ⟨some t,.call { callee:=.builtin .append,args:=#[.tmp s,x],argTypes:=#[ty,ty] },rt,pos,aft,g⟩ σ ((τ.kill s).set t (.sl (some e) z l2)):=by
 subst hτ;exact UU (fun a w hs=>St.takeP h hb hl hna hu hs) (Q6 (.inl rfl) hs hx he hn ht hst hby)
end Go.Sx

namespace Go.Sx
variable{P:Program}{C:Ctx}{σ σ' σ1:Sg}{a:Act}{w w':World}{ρ:Nat->Nat}{Fe Fe' Fb:Nat->List Nat}
theorem srcs_ok{ids:List Nat}{rs:List ResultVar}(h:(rs.all fun rv=>(Z2 σ rv).2||!u6 ids (Z2 σ rv).1)=true):∀ rv∈rs,(Z2 σ rv).2=false->u6 ids (Z2 σ rv).1=false:=by
 intro rv hrv h2;have:=List.all_eq_true.1 h rv hrv;rw[h2] at this;simpa using this
theorem EndsB.none'{r:D}{ids:List Nat}{b0 bx':List (Nat×Bx)}{e:Exit}(he:e=.normal∨e=.ret)(hb:n8 ids σ.bx=b0)(hb':b0=bx')(hok:A3 ids b0):EndsB [] P (.tup []) ids bx' e σ:=by
 subst hb';exact⟨he,⟨[],rfl,rfl,List.nodup_nil,fun k hk=>by simp at hk⟩,rfl,hb,hok,fun rv hrv=>by cases hrv⟩
theorem EndsB.one'{rv:ResultVar}{r d:D}{ids:List Nat}{b0 bx':List (Nat×Bx)}{e:Exit}(he:e=.normal∨e=.ret)(h:i7 σ rv=some d)(hd:d=r)(h1:d.isRef=false)(h3:SW P d rv)(hokr:d.okB ids=true)
 (hb:n8 ids σ.bx=b0) (hb':b0=bx') (hok:A3 ids b0) (hs:([rv].all fun rv=>(Z2 σ rv).2||!u6 ids (Z2 σ rv).1)=true):EndsB [rv] P r ids bx' e σ:=by
 subst hb';subst hd;exact⟨he,⟨h,h1,h3⟩,hokr,hb,hok,srcs_ok hs⟩
end Go.Sx

namespace Go.Sx
variable{P:Program}{C:Ctx}{σ σ' σ1:Sg}{a:Act}{w w':World}{ρ:Nat->Nat}{Fe Fe' Fb:Nat->List Nat}
def D.albIn(ids:List Nat):D->Bool
 | .alb id _ _=>u6 ids id
 | _=>false
def E2(ids:List Nat)(ks:List (Nat×Nat))(c:Nat):List (Nat×D)->Bool
 | []=>true
 | (u,d)::r=>(!(d.albIn ids)||has ks c u)&&E2 ids ks c r
def E1(ids:List Nat)(an:List Nat)(ks:List (Nat×Nat))(c:Nat):List It->Nat->Bool
 | [],_=>true
 | ⟨t,d,_⟩::r,j=>(!(d.albIn ids)||has ks c t||tb (nth an j) c)&&E1 ids an ks c r (j+1)
theorem s3{ids:List Nat}{ks:List (Nat×Nat)}{c:Nat}{env:List (Nat×D)}(h:E2 ids ks c env=true){u:Nat}{x:D}(hx:lk env u=some x):x.albIn ids=false∨(c,u)∈ks:=by
 induction env with
 | nil=>cases hx
 | cons y r ih=>
  obtain⟨k,d⟩:=y;simp only[E2,Bool.and_eq_true,Bool.or_eq_true,Bool.not_eq_true'] at h;rw[v4] at hx;split at hx
  ·rename_i hk;subst hk;cases hx;exact h.1.imp id KF
  ·exact ih h.2 hx
theorem DC{ids an:List Nat}{ks:List (Nat×Nat)}{c:Nat}{its:List It}{j0:Nat}(h:E1 ids an ks c its j0=true){k t:Nat}{d:D}{wt:Bool}(hk:its[k]? = some ⟨t,d,wt⟩) :
 d.albIn ids=false∨(c,t)∈ks∨tb (nth an (j0+k)) c=true:=by
 induction its generalizing j0 k with
 | nil=>simp at hk
 | cons y r ih=>
  obtain⟨t',d',w'⟩:=y;simp only[E1,Bool.and_eq_true,Bool.or_eq_true,Bool.not_eq_true'] at h
  cases k with
  | zero=>
   simp at hk;obtain⟨rfl,rfl,rfl⟩:=hk
   rcases h.1 with (h1|h1)|h1
   ·exact .inl h1
   ·exact .inr (.inl (KF h1))
   ·exact .inr (.inr h1)
  | succ k=>
   have:=ih h.2 (k:=k) (by simpa using hk)
   rwa [show j0+(k+1)=j0+1+k by omega]
theorem EV{ks:List (Nat×Nat)}{c:Nat}(env:List (Nat×D)):E2 [] ks c env=true:=by
 induction env with
 | nil=>rfl
 | cons y r ih=>obtain⟨u,d⟩:=y;simp only[E2,ih,Bool.and_true];cases d<;>simp[D.albIn,u6]
theorem ET{an:List Nat}{ks:List (Nat×Nat)}{c:Nat}(its:List It)(j:Nat):E1 [] an ks c its j=true:=by
 induction its generalizing j with
 | nil=>rfl
 | cons y r ih=>obtain⟨u,d,x⟩:=y;simp only[E1,ih,Bool.and_true];cases d<;>simp[D.albIn,u6]
structure ItG(σ:Sg)(ops:List Oper)(an:List Nat)(ks:List (Nat×Nat))(its:List It):Prop where
 len:its.length<=ops.length
 ts:EL σ.n (slots its)=true
 ref:YK an ks (slots its) its 0=true
 env:YJ (slots its) σ.env=true
section
variable{listed:Array Bool}{ops:List Oper}{an:List Nat}{ks kk:List (Nat×Nat)}{its:List It}{Q:Exit->Sg->Prop}
def HV(σ:Sg)(an:List Nat)(ks:List (Nat×Nat))(its:List It)(listed:Array Bool)(τ:Sg):Prop:=
 ∀ u x,afts an (fun j=>listed.getD j false) ks σ.env its u=some x->τ.get u=some x
theorem IH(H:ItG σ ops an ks its)(hsize:listed.size=ops.length){i:Nat}(hi:i<its.length)(hun:listed.getD i true=false)
 (hanc:∀ j,j<ops.length->tb (nth an i) j=true->listed.getD j false=true) (hnot:∀ j,j<ops.length->tb (nth an j) i=true->listed.getD j false=false)
 {τ:Sg} (hinv:HV σ an ks its listed τ):∀ u x,facts an ks σ.env its i u=some x->τ.get u=some x:=by
 obtain⟨hnd,hlt⟩:=Y6 H.ts;obtain⟨hin,hif⟩:=undone hun;intro u x hx;refine hinv u x ?_;unfold facts at hx;unfold afts
 cases hb:bads (fun k=>!(Nat.beq k i)&&!(tb (nth an k) i)&&!(cov an (fun j=>tb (nth an i) j) its u k)) ks u with
 | true=>rw[hb] at hx;cases hx
 | false=>
  rw[hb] at hx;simp only[cond_false] at hx
  have hb2:bads (fun j=>listed.getD j false&&!(cov an (fun j=>listed.getD j false) its u j)) ks u=false:=by
   rw[K4] at hb ⊢;intro k s hm hsu;have:=hb k s hm hsu
   cases hd:listed.getD k false with
   | false=>rfl
   | true=>
    have hk:k<ops.length:=by rw[<- hsize];exact Q2 hd
    have hki:k≠i:=by rintro rfl;rw[hif] at hd;cases hd
    rw[nbeq hki] at this
    cases ht:tb (nth an k) i with
    | true=>rw[hnot k hk ht] at hd;cases hd
    | false=>
     rw[ht] at this;simp only[Bool.not_false,Bool.true_and,Bool.not_eq_false'] at this;obtain⟨j,dj,wj,h1,h2,h3,h4⟩:=O1 this;have hjl:j<ops.length:=Nat.lt_of_lt_of_le (List.getElem?_eq_some_iff.1 h2).1 H.len;rw[JK (g:=fun j=>listed.getD j false) h1 (hanc j hjl h3) h4];rfl
  rw[hb2];simp only[cond_false]
  rcases n4 its u with hu|⟨k,dk,wk,hk⟩
  ·rw[n5 hu] at hx ⊢;exact hx
  ·rw[Q4 hnd hk] at hx ⊢;simp only[Nat.zero_add] at hx ⊢;have hkl:k<ops.length:=Nat.lt_of_lt_of_le (List.getElem?_eq_some_iff.1 hk).1 H.len
   cases h1:tb (nth an i) k with
   | true=>rw[h1] at hx;rw[hanc k hkl h1];exact hx
   | false=>
    rw[h1] at hx
    cases h2:tb (nth an k) i with
    | true=>rw[h2] at hx;rw[hnot k hkl h2];exact hx
    | false=>rw[h2] at hx;cases hx
theorem e8(H:ItG σ ops an ks its)(hsize:listed.size=ops.length){i t:Nat}{d:D}{wt:Bool}(hit:its[i]? = some ⟨t,d,wt⟩)(hun:listed.getD i true=false)
 (hnot:∀ j,j<ops.length->tb (nth an j) i=true->listed.getD j false=false) {ids:List Nat} (hE:E2 ids ks i σ.env=true) (hI:E1 ids an ks i its 0=true)
 {τ:Sg} (hinv:HV σ an ks its listed τ) (x:D) (hx:x=(bif wt then d else .tup [])) (τ2:Sg)
 (hg2:∀ u y,(∀ k s,(k,s)∈ks->s=u->k≠i)->τ.get u=some y->y.albIn ids=false->τ2.get u=some y):HV σ an ks its (listed.setIfInBounds i true) (τ2.set t x):=by
 obtain⟨hnd,hlt⟩:=Y6 H.ts;obtain⟨hin,hif⟩:=undone hun;intro u y hy;unfold afts at hy
 cases hbd:bads (fun j=>(listed.setIfInBounds i true).getD j false&&!(cov an (fun j=>(listed.setIfInBounds i true).getD j false) its u j)) ks u with
 | true=>rw[hbd] at hy;cases hy
 | false=>
  rw[hbd] at hy;simp only[cond_false] at hy;rw[K4] at hbd;rw[m7]
  have hcov:u≠t->∀ k,cov an (fun j=>(listed.setIfInBounds i true).getD j false) its u k=true->cov an (fun j=>listed.getD j false) its u k=true/\k≠i:=by
   intro hut k hc;obtain⟨j,dj,wj,h1,h2,h3,h4⟩:=O1 hc
   have hji:i≠j:=by
    rintro rfl;rw[hit] at h2;cases h2;exact hut rfl
   rw[getD_set_ne false hji] at h3;refine⟨JK h1 h3 h4, ?_⟩;rintro rfl;have hjl:j<ops.length:=Nat.lt_of_lt_of_le (List.getElem?_eq_some_iff.1 h2).1 H.len;rw[hnot j hjl h4] at h3;cases h3
  have hki:u≠t->∀ k s,(k,s)∈ks->s=u->k≠i:=by
   rintro hut k s hm hsu rfl;have h1:=hbd k s hm hsu
   have h2:(listed.setIfInBounds k true).getD k false=true:=by simp[hin]
   rw[h2] at h1;simp only[Bool.true_and,Bool.not_eq_false'] at h1;exact(hcov hut k h1).2 rfl
  have hbd2:u≠t->bads (fun j=>listed.getD j false&&!(cov an (fun j=>listed.getD j false) its u j)) ks u=false:=by
   intro hut;rw[K4];intro k s hm hsu;have h1:=hbd k s hm hsu;have h2:=hki hut k s hm hsu;rw[getD_set_ne false (fun e=>h2 e.symm)] at h1
   cases hd:listed.getD k false with
   | false=>rfl
   | true=>
    rw[hd] at h1;simp only[Bool.true_and,Bool.not_eq_false'] at h1 ⊢;exact(hcov hut k h1).1
  by_cases hut:u=t
  ·subst hut;rw[Q4 hnd hit] at hy
   have e:(listed.setIfInBounds i true).getD (0+i) false=true:=by simp[hin]
   rw[e] at hy;simp only[cond_true] at hy;simp only[if_true,hx]
   cases wt<;>exact hy
  ·have hki:=hki hut;have hbd2:=hbd2 hut;simp only[hut,if_false]
   have hold:afts an (fun j=>listed.getD j false) ks σ.env its u=some y/\y.rf≠some t/\y.albIn ids=false:=by
    unfold afts;rw[hbd2];simp only[cond_false]
    rcases n4 its u with hu|⟨k,dk,wk,hk⟩
    ·rw[n5 hu] at hy ⊢;exact⟨hy,QE H.env hy (List.mem_of_getElem? (i:=i) (by rw[Z4,hit];rfl)),(s3 hE hy).resolve_right fun h=>hki i u h rfl rfl⟩
    ·rw[Q4 hnd hk] at hy ⊢;simp only[Nat.zero_add] at hy ⊢
     have hne:i≠k:=by
      rintro rfl;rw[hit] at hk;cases hk;exact hut rfl
     rw[getD_set_ne false hne] at hy;refine⟨hy, ?_⟩
     cases hd:listed.getD k false with
     | false=>
      rw[hd] at hy;exact⟨QE H.env hy (List.mem_of_getElem? (i:=i) (by rw[Z4,hit];rfl)),(s3 hE hy).resolve_right fun h=>hki i u h rfl rfl⟩
     | true=>
      rw[hd] at hy;simp only[cond_true] at hy
      cases wk with
      | false=>simp at hy;subst hy;simp[D.rf,D.albIn]
      | true=>
       simp at hy;subst hy;refine⟨fun hrf=>?_, ?_⟩
       ·have:=NF H.ref hk hrf (i:=i) (by rw[Z4,hit];rfl);simp only[Nat.zero_add] at this
        rcases this with this|this
        ·rw[hnot k (by rw[<- hsize];exact Q2 hd) this] at hd;cases hd
        ·exact hki i u this rfl rfl
       ·rcases DC hI hk with h|h|h
        ·exact h
        ·exact absurd rfl (hki i u h rfl)
        ·simp only[Nat.zero_add] at h;rw[hnot k (by rw[<- hsize];exact Q2 hd) h] at hd;cases hd
   rw[hg2 u y hki (hinv u y hold.1) hold.2.2];simp only[Option.map_some,MF hold.2.1]
def knB(an:List Nat)(c i:Nat)(bx0 bx1 bxc:List (Nat×Bx)):List (Nat×Bx):=
 bif tb (nth an i) c then bx1 else bif tb (nth an c) i then bx0 else bxc
structure KnC(an:List Nat)(c i:Nat)(bx0 bx1 bxc:List (Nat×Bx))(τ:Sg):Prop where
 f:∀ id x,lk (knB an c i bx0 bx1 bxc) id=some x->τ.box id=some x
 or:τ.bx=bx0∨τ.bx=bx1
instance(an:List Nat)(c i:Nat)(bx0 bx1 bxc:List (Nat×Bx))(τ:Sg):CoeFun (KnC an c i bx0 bx1 bxc τ) (fun _=>∀ id x,lk (knB an c i bx0 bx1 bxc) id=some x->τ.box id=some x):=⟨KnC.f⟩
theorem Region.wanted_none{o:Oper}(h:o.guard=none)(y:Nat->Option Bool):Region.wanted o y=true:=by
 unfold Region.wanted;rw[h]
end
end Go.Sx

namespace Go.Sx
variable{P:Program}{C:Ctx}{σ σ' σ1:Sg}{a:Act}{w w':World}{ρ:Nat->Nat}{Fe Fe' Fb:Nat->List Nat}
def D.dds(n:Nat):D:=.agg (List.replicate n .dead)
theorem MB(n:Nat):D.szs (List.replicate n .dead)=n:=by
 induction n with
 | zero=>rfl
 | succ n ih=>simp[List.replicate_succ,ih,D.sz];omega
theorem TI(n k:Nat)(h:k<=n):offk (List.replicate n .dead) k=k:=by
 unfold offk;rw[List.take_replicate,Nat.min_eq_left h,MB]
theorem Rc.dds{G L G' L':Nat->Prop}{ρ':Nat->Nat}{d:D}{cs:List Value}{F:List Nat}(h:Rc w ρ G L true d cs F):Rc w' ρ' G' L' true (D.dds d.sz) cs []:=by
 have hl:=h.len
 have:=Rc.agg (w:=w') (ρ:=ρ') (G:=G') (L:=L') (p:=true) (List.replicate d.sz .dead) cs (fun _=>[]) (by rw[MB];exact hl) (fun k hk=>by
  have hk':k<d.sz:=by simpa using hk
  rw[TI _ _ (by omega)];simp only[List.getElem_replicate,D.sz];rw[List.drop_eq_getElem_cons (by omega),List.take_succ_cons,List.take_zero]
  exact .dead _ (h.one _ (List.getElem_mem _)))
 rwa [CK] at this
end Go.Sx

namespace Go.Sx
variable{P:Program}{C:Ctx}{σ σ' σ1:Sg}{a:Act}{w w':World}{ρ:Nat->Nat}{Fe Fe' Fb:Nat->List Nat}
section
variable{ops:List Oper}{an:List Nat}{ks kk:List (Nat×Nat)}{its:List It}{Q:Exit->Sg->Prop}
theorem l8{id:Nat}{d:D}(h:d.albIn [id]=false):H3 id d=d:=by
 rcases QB id d with ⟨h1,_⟩|⟨_,off,path,rfl⟩
 ·exact h1
 ·simp[D.albIn,u6] at h
variable{listed:Array Bool}
end
theorem PV{s id off t e z:Nat}{path:List Nat}{d0 d0':D}{l:List D}{rt:TypeId}{pos:String}{aft:Array Edge}{g:Option (Nat×Bool)}
 (h:σ.get s=some (.alb id off path)) (hb:σ.box id=some (.var d0)) (hl:d0.loc path=some (off,.sl (some e) z l)) (hna:d0.noArr path=true) (hu:d0.upd path .dead=some d0')
 {τ:Sg} (hτ:(σ.putB id (.var d0')).upd s (.sl (some e) z l)=τ) (hs:τ.get s=some (.sl (some e) z l)) (ht:t<σ.n) (hst:s≠t) :
 OpS P C ⟨some t,.assign (.tmp s),rt,pos,aft,g⟩ σ ((τ.kill s).set t (.sl (some e) z l)):=by
 subst hτ;exact UU (fun a w hs=>St.takeP h hb hl hna hu hs) (R.asgO hs rfl ht hst)
theorem Rc.ownAt{G L:Nat->Prop}{d d':D}{cs:List Value}{F:List Nat}(h:Rc w ρ G L true d cs F){path:List Nat}{off z:Nat}{o:Option Nat}
 (hl:d.loc path=some (off,.nils)) (hna:d.noArr path=true) (hu:d.upd path (.sl o z [])=some d'):Rc w ρ G L true d' cs F:=by
 induction path generalizing d cs F off d' with
 | nil=>
  simp only[D.loc,Option.some.injEq,Prod.mk.injEq] at hl;simp only[D.upd,Option.some.injEq] at hu;obtain⟨rfl,rfl⟩:=hl;subst hu;cases h;exact .slN _ _
 | cons k path ih=>
  cases h with
  | agg l0 cs Fs hs hr=>
   simp only[D.loc] at hl;simp only[D.upd] at hu
   cases hk:l0[k]? with
   | none=>simp[hk] at hl
   | some d2=>
    obtain⟨hklt,rfl⟩:=List.getElem?_eq_some_iff.1 hk;simp only[hk] at hl hu
    cases hd:D.loc l0[k] path with
    | none=>simp[hd] at hl
    | some od=>
     obtain⟨oo,d3⟩:=od;simp only[hd,Option.some.injEq,Prod.mk.injEq] at hl;obtain⟨rfl,rfl⟩:=hl
     cases hud:D.upd l0[k] path (.sl o z []) with
     | none=>simp[hud] at hu
     | some d4=>
      simp only[hud,Option.some.injEq] at hu;subst hu;simp only[D.noArr,hk] at hna;have h1:=ih (hr k hklt) hd hna hud
      have hz:d4.sz=l0[k].sz:=by rw[<- h1.len,(hr k hklt).len]
      have:=Rc.agg (w:=w) (ρ:=ρ) (G:=G) (L:=L) (p:=true) (l0.set k d4) cs Fs (by rw[hs,L4 l0 k d4 hklt hz]) (fun j hj=>by
       have hj':j<l0.length:=by simpa using hj
       rw[T7 l0 k j d4 hklt hz];by_cases hjk:j=k
       ·subst hjk;simp only[List.getElem_set_self,hz];exact h1
       ·have hjj:(l0.set k d4)[j]=l0[j]:=by rw[List.getElem_set_ne (fun e=>hjk e.symm)]
        simp only[hjj]
        exact hr j hj')
      rwa [List.length_set] at this
  | arr n z l cs hn hs hr=>simp[D.noArr] at hna
  | _=>simp[D.loc] at hl
theorem PT{o:Oper}{τ:Sg}{t:Nat}{r r':D}(h:OpS P C o σ (τ.set t r))(hr:r.isRef=false)(he:r.brw=r'):OpS P C o σ (τ.set t r'):=by
 intro a w hs K Q hK;refine h a w hs K Q fun a' w' hs'=>hK a' w' ?_
 have h1:(τ.set t r).get t=some r:=by rw[m7];simp
 refine(St.frzS h1 hr he hs').weaken rfl rfl fun u d hd=>?_;rw[M5,m7];rw[m7] at hd;by_cases hu:u=t
 ·subst hu;simpa using hd
 ·simpa [hu] using hd
theorem AF{c:Code}{Q:Exit->Sg->Prop}(id:Nat)(path:List Nat)(e z:Nat){off:Nat}{d d':D}{bx':List (Nat×Bx)}(hb:σ.box id=some (.var d))(hl:d.loc path=some (off,.nils))(hna:d.noArr path=true)(hu:d.upd path (.sl (some e) z [])=some d')
 (hbx:setb id (.var d') σ.bx=bx') (k:W P C c Q ⟨σ.n,σ.env,bx'⟩):W P C c Q σ:=by
 subst hbx;exact fun a w hs=>k a w (St.viewB hb (fun w ρ G L cs F h=>h.ownAt hl hna hu) hs)
end Go.Sx

namespace Go.Sx
variable{pos:String}{aft:Array Edge}{g:Option (Nat×Bool)}
variable{P:Program}{C:Ctx}{σ σ' σ1:Sg}{a:Act}{w w':World}{ρ:Nat->Nat}{Fe Fe' Fb:Nat->List Nat}
def CkV(P:Program)(k:Nat)(t:TypeId)(d:D):Prop:=
 ∀ (em:Bool) (n:Nat) (w:World) (ρ:Nat->Nat) (G L:Nat->Prop) (v:Value) (F:List Nat),VR w ρ G L d v F->(Instr.checkKey em (n+k) t v).run P w=.ok () w
theorem CkV.num{t:TypeId}{k:IntKind}{d:D}(ht:P.underlying t=some (.int k))(hd:d.isAgg=false)(hs:∀ (w:World) (ρ:Nat->Nat) (G L:Nat->Prop) v F,Rc w ρ G L true d [v] F->∃ j x,v=.int j x):CkV P 1 t d:=by
 intro em n w ρ G L v F h;unfold VR at h;rw[hd] at h;obtain⟨j,x,rfl⟩:=hs _ _ _ _ _ _ h;simp[Instr.checkKey,run_underlying ht]
theorem CkV.u8{t:TypeId}{k:IntKind}(ht:P.underlying t=some (.int k))(x:UInt8):CkV P 1 t (.u8 x):=CkV.num ht rfl fun _ _ _ _ _ _ h=>by cases h;exact⟨_,_,rfl⟩
theorem CkV.u32{t:TypeId}{k:IntKind}(ht:P.underlying t=some (.int k))(x:UInt32):CkV P 1 t (.u32 x):=CkV.num ht rfl fun _ _ _ _ _ _ h=>by cases h;exact⟨_,_,rfl⟩
theorem CkV.arr{t e m:Nat}[hT:ArT P t m e][hk:IkT P e .u8][hL:LdT P e 1 false](xs:List UInt8):CkV P 2 t (.arr m 1 (xs.map .u8)):=by
 intro em n w ρ G L v F h;simp only[VR,D.isAgg,if_true] at h;obtain⟨cx,rfl,h⟩:=h
 cases h with
 | arr _ _ _ _ hl hs hr=>
 rw[show n+2=(n+1)+1 from rfl,Instr.checkKey];simp only[Sem.run_bind,run_underlying hT.u,Result.andThen_ok];simp only[Std.Legacy.Range.forIn_eq_forIn_range',Std.Legacy.Range.size,Nat.sub_zero,Nat.add_one_sub_one,Nat.div_one]
 have each:∀ j∈List.range' 0 m,j<m:=fun j hj=>by
  rw[List.mem_range'_1] at hj;omega
 generalize List.range' 0 m=is at each
 induction is with
 | nil=>simp
 | cons j is ih=>
  have hj:=each j (by simp)
  have hsz:cx.toList.length=m:=by rw[hs];omega
  have hcl:cx.size=m:=by simpa using hsz
  obtain⟨v,p1,p2⟩:=F3 (P:=P) (e:=e) (hL:=hL) (cs:=cx) (off:=j*1) (hr j (by omega)) (by simp[D.sz]) (by simp[D.isAgg]) (by omega)
  have p3:(Instr.checkKey em (n+1) e v).run P w=.ok () w:=by
   have:(List.map D.u8 xs)[j]'(by omega)=.u8 (xs[j]'(by simp at hl;omega)):=by simp
   rw[this] at p2;exact CkV.u8 hk.u _ em n _ _ _ _ _ _ p2
  simp only[List.forIn_cons,Sem.run_bind,LdT.size (P:=P) (t:=e),Result.andThen_ok,p1,p3,Sem.run_pure];exact ih (fun y hy=>each y (by simp[hy]))
inductive CkFs(P:Program)(k:Nat):Nat->List Field->List D->Prop
 | nil {o:Nat}:CkFs P k o [] []
 | cons {o z:Nat} {gg:Bool} {f:Field} {fs:List Field} {d:D} {ds:List D} (hn:(f.name != "_")=true) (ho:f.offset=o) (hL:LdT P f.type z gg) (hz:d.sz=z) (hg:d.isAgg=gg)
  (h:CkV P k f.type d) (t:CkFs P k (o+z) fs ds):CkFs P k o (f::fs) (d::ds)
theorem CkV.more{k:Nat}{t:TypeId}{d:D}(h:CkV P k t d):CkV P (k+1) t d:=fun em n w ρ G L v F hv=>by
 have:=h em (n+1) w ρ G L v F hv
 rwa [show n+(k+1)=n+1+k by omega]
theorem CkV.struct{t:TypeId}{k:Nat}{fs:Array Field}{ds:List D}(ht:P.underlying t=some (.struct fs))(h:CkFs P k 0 fs.toList ds):CkV P (k+1) t (.agg ds):=by
 intro em n w ρ G L v F hv;simp only[VR,D.isAgg,if_true] at hv;obtain⟨cx,rfl,hv⟩:=hv
 cases hv with
 | agg _ _ Fs hs hr=>
 rw[show n+(k+1)=(n+k)+1 from rfl,Instr.checkKey];simp only[Sem.run_bind,run_underlying ht,Result.andThen_ok];rw[<- Array.forIn_toList]
 have hc:0+D.szs ds<=cx.size:=by simp at hs;omega
 have hr':∀ i (hi:i<ds.length),Rc w ρ G L true ds[i] ((cx.toList.drop (0+offk ds i)).take ds[i].sz) (Fs i):=fun i hi=>by rw[Nat.zero_add];exact hr i hi
 clear hs hr ht;revert hc hr';generalize (0:Nat)=o at h;generalize fs.toList=fl at h;intro hc hr'
 induction h generalizing Fs with
 | nil=>simp
 | @cons o z gg f fs d ds hn ho hL hz hg h t ih=>
  subst ho;simp only[K5] at hc;have a1:=hr' 0 (by simp);simp only[List.getElem_cons_zero,s4,Nat.add_zero,hz] at a1;obtain⟨v1,r1,q1⟩:=F3 (P:=P) (e:=f.type) (hL:=hL) a1 hz hg (by omega);have hb:=h em n w _ _ _ _ _ q1
  have ih':=ih (fun i=>Fs (i+1)) (by omega) (fun i hi=>by
   have:=hr' (i+1) (by simpa using hi);simp only[List.getElem_cons_succ,F5,hz] at this
   rw[Nat.add_assoc];exact this)
  have hne:f.name ≠ "_":=by simpa using hn
  simp only[List.forIn_cons,Sem.run_bind,hne,ne_eq,not_false_eq_true,if_true,Result.andThen_ok,r1,hb,Sem.run_pure];exact ih'
variable{κ α:Type}[DecidableEq κ]
def K6(m:List (κ×α))(k:κ):Nat:=m.findIdx (fun e=>e.1==k)
def c4(m:List (κ×α))(k:κ):Bool:=m.any fun e=>e.1==k
def ZQ(z:α)(m:List (κ×α))(k:κ):α:=((m[K6 m k]?).map (·.2)).getD z
def z8(kd:κ->D)(f:α->D)(m:List (κ×α)):Bx:=.mp (m.map fun e=>(kd e.1,f e.2))
theorem XA(m:List (κ×α))(k:κ):K6 m k<m.length↔c4 m k=true:=by
 unfold K6 c4;rw[List.findIdx_lt_length,List.any_eq_true]
class MkT(P:Program)(t:TypeId)(k e:outParam TypeId):Prop where
 u:P.underlying t=some (.map k e)
def Deep:TypeDesc->Prop
 | .struct _=>True
 | .array _ _=>True
 | _=>False
theorem Deep.now{d:TypeDesc}(h:Deep d)(a b:Value):Instr.sameNow d a b=none:=by
 cases d<;>first|rfl|exact h.elim
structure KeyC(P:Program)(kt:TypeId)(kd:κ->D)(n:Nat):Prop where
 s:∃ d,P.underlying kt=some d/\Deep d
 eq:∀ a b:κ,EqV P n kt (kd a) (kd b) (a==b)
 ck:∀ a:κ,CkV P n kt (kd a)
 n:Nat.ble n 10000=true
 p:∀ a,(kd a).pur=true
theorem KeyC.find{kt:TypeId}{kd:κ->D}{n:Nat}(H:KeyC P kt kd n){G L:Nat->Prop}{k:κ}{kv:Value}{F:List Nat}(hk:VR w ρ G L (kd k) kv F):∀ (es:List MapEntry) (m:List (κ×α)) (i:Nat),es.length=m.length ->
 (∀ j (h:j<m.length),VR w ρ G L (kd m[j].1) (es.getD j default).key []) ->
 (Instr.findAsking kt kv es i).run P w=.ok (if K6 m k<m.length then some (i+K6 m k,(es.getD (K6 m k) default).val) else none) w:=by
 have hn:n<=10000:=Nat.le_of_ble_eq_true H.n;intro es
 induction es with
 | nil=>intro m i hl _;cases m with
  | nil=>simp[Instr.findAsking,K6]
  | cons x r=>simp at hl
 | cons e es ih=>
  intro m i hl hks
  cases m with
  | nil=>simp at hl
  | cons x r=>
   have h0:=hks 0 (by simp);simp only[List.getD_cons_zero,List.getElem_cons_zero] at h0;have hih:=ih r (i+1) (by simpa using hl) (fun j hj=>by have:=hks (j+1) (by simpa using hj);simpa using this);have he:=H.eq k x.1 (10000-n) w _ _ _ _ _ _ _ _ _ _ hk h0;rw[show 10000-n+n=10000 by omega] at he;have he':(Op.equal kt kv e.key).run P w=.ok (k==x.1) w:=he;simp only[Instr.findAsking,Sem.run_bind,he',Result.andThen_ok];by_cases hx:x.1=k
   ·have:K6 (x::r) k=0:=by simp[K6,List.findIdx_cons,hx]
    simp[this,hx]
   ·have hx':(x.1==k)=false:=by simpa using hx
    have h1:K6 (x::r) k=K6 r k+1:=by simp[K6,List.findIdx_cons,hx']
    have hx2:(k==x.1)=false:=by simpa using fun e=>hx e.symm
    simp only[hx2,Bool.false_eq_true,if_false,hih,h1,List.length_cons,Nat.add_lt_add_iff_right,List.getD_cons_succ]
    split<;>simp[Nat.add_assoc,Nat.add_comm,Nat.add_left_comm]
theorem KeyC.findKey{kt:TypeId}{kd:κ->D}{n:Nat}(H:KeyC P kt kd n){G L:Nat->Prop}{k:κ}{kv:Value}{F:List Nat}(hk:VR w ρ G L (kd k) kv F)(es:List MapEntry)(m:List (κ×α))(hl:es.length=m.length)
 (hks:∀ j (h:j<m.length),VR w ρ G L (kd m[j].1) (es.getD j default).key []) :
 (Instr.findKey kt kv es).run P w=.ok (if K6 m k<m.length then some (0+K6 m k,(es.getD (K6 m k) default).val) else none) w:=by
 obtain⟨d,hs,hd⟩:=H.s;have h1:=H.find hk es m 0 hl hks;unfold Instr.findKey;simp only[Sem.run_bind,run_underlying hs,Result.andThen_ok]
 cases es with
 | nil=>
  cases m with
  | nil=>simp[Instr.findNow,K6]
  | cons x r=>simp at hl
 | cons e es=>simpa [Instr.findNow,hd.now] using h1
theorem KeyC.check{kt:TypeId}{kd:κ->D}{n:Nat}(H:KeyC P kt kd n){G L:Nat->Prop}{k:κ}{kv:Value}{F:List Nat}(hk:VR w ρ G L (kd k) kv F)(em:Bool):(Instr.checkKey em 10000 kt kv).run P w=.ok () w:=by
 have hn:n<=10000:=Nat.le_of_ble_eq_true H.n;have:=H.ck k em (10000-n) w _ _ _ _ _ hk
 rwa [show 10000-n+n=10000 by omega] at this
omit [DecidableEq κ] in
theorem BC{G L:Nat->Prop}{kd:κ->D}{f:α->D}{m:List (κ×α)}{b:Nat}{F:List Nat}(h:BR w ρ G L b (z8 kd f m) F) :
 F=[b]/\∃ es:Array MapEntry,w.heap[b]? = some (.map es m.length)/\es.size=m.length/\(∀ j (hj:j<m.length),VR w ρ G L (kd m[j].1) (es.getD j default).key []/\VR w ρ G L (f m[j].2) (es.getD j default).val []/\(es.getD j default).born=j):=by
 obtain⟨h1,es,clock,h2,⟨h3,h4⟩,h5⟩:=h;simp only[List.length_map] at h3 h4;subst h4;refine⟨h1,es,h2,h3,fun j hj=>?_⟩;obtain⟨h6,h7,h8⟩:=h5 j (by simpa using hj);simp only[List.getElem_map] at h6 h7;exact⟨h6,h7,h8⟩
omit [DecidableEq κ] in
theorem mpK_mk{G L:Nat->Prop}{kd:κ->D}{f:α->D}{m:List (κ×α)}{b:Nat}{es:Array MapEntry}(h2:w.heap[b]? = some (.map es m.length))(h3:es.size=m.length)
 (h5:∀ j (hj:j<m.length),VR w ρ G L (kd m[j].1) (es.getD j default).key []/\VR w ρ G L (f m[j].2) (es.getD j default).val []/\(es.getD j default).born=j):BR w ρ G L b (z8 kd f m) [b]:=by
 refine⟨rfl,es,m.length,h2,⟨by simpa using h3,by simp⟩,fun j hj=>?_⟩;obtain⟨h6,h7,h8⟩:=h5 j (by simpa using hj);simp only[List.getElem_map];exact⟨h6,h7,h8⟩
omit [DecidableEq κ] in
theorem StW.putMk{kd:κ->D}{f:α->D}{m m':List (κ×α)}{id:Nat}{es:Array MapEntry}(st:StW C σ a w ρ Fe Fb)(hb:σ.box id=some (z8 kd f m))(hs:es.size=m'.length)
 (h5:∀ j (hj:j<m'.length),VR w ρ (gd C Fe Fb) (fun i=>(σ.box i).isSome) (kd m'[j].1) (es.getD j default).key []/\VR w ρ (gd C Fe Fb) (fun i=>(σ.box i).isSome) (f m'[j].2) (es.getD j default).val []/\(es.getD j default).born=j) :
 StW C (σ.putB id (z8 kd f m')) a { w with heap:=w.heap.setIfInBounds (ρ id) (.map es m'.length) } ρ Fe (upd Fb id [ρ id]):=by
 obtain⟨hF,es0,h2,h3,h4⟩:=BC (st.bx _ _ hb);have hlt:ρ id<w.heap.size:=(Array.getElem?_eq_some_iff.1 h2).1
 have hblk:∀ b,b≠ρ id->(w.heap.setIfInBounds (ρ id) (.map es m'.length))[b]? = w.heap[b]?:=fun b hne=>by
  rw[Array.getElem?_setIfInBounds];simp[show ¬ ρ id=b from fun e=>hne e.symm]
 have hnot:∀ b,gd C Fe Fb b->b≠ρ id:=fun b hg he=>hg.2 (.inr ⟨id,by rw[hF,he];simp⟩)
 have hg:∀ b,gd C Fe Fb b->gd C Fe (upd Fb id [ρ id]) b:=fun b hb'=>⟨hb'.1,fun hc=>hb'.2 (hc.imp (fun h=>h) (fun⟨i,hi⟩=>by
  by_cases hii:i=id
  ·subst hii;simp at hi;exact⟨i,by rw[hF,hi];simp⟩
  ·rw[q8 hii] at hi;exact⟨i,hi⟩))⟩
 refine st.putB (Fe':=Fe) (σ1:=σ) (F':=[ρ id]) (w':={ w with heap:=w.heap.setIfInBounds (ρ id) (.map es m'.length) }) hb rfl rfl (fun u d hd=>.inl ⟨hd,rfl⟩) st.envN (fun u=>.inl rfl) rfl ⟨rfl,Nat.le_refl _⟩ rfl (by simp)
  hblk (by simp) (by simp) (fun b hb'=>.inl (by rw[hF];exact hb')) ?_
 refine mpK_mk (es:=es) ?_ hs (fun j hj=>?_)
 ·simp[hlt]
 ·obtain⟨q1,q2,q3⟩:=h5 j hj;exact⟨q1.mono (fun b hb' _=>hblk b (hnot b (hb'.resolve_right (by simp)))) (fun b hb' _=>hg b hb') (fun i hi=>⟨hi,rfl⟩),q2.mono (fun b hb' _=>hblk b (hnot b (hb'.resolve_right (by simp)))) (fun b hb' _=>hg b hb') (fun i hi=>⟨hi,rfl⟩),q3⟩
theorem R.lookK{kd:κ->D}{f:α->D}{m:List (κ×α)}{z:α}{n:Nat}{p t id:Nat}{x:Operand}{k:κ}{dk:D}{ty kt et rt:TypeId}[hT:MkT P ty kt et]{zd:D}[hZ:ZrT P et zd]
 (H:KeyC P kt kd n) (h:σ.get p=some (.map id)) (hb:σ.box id=some (z8 kd f m)) (hx:ev C.gl σ x=some dk) (hdk:dk=kd k) (hz:zd=f z) (hr:∀ v,(f v).isRef=false) (ht:t<σ.n) :
 OpS P C ⟨some t,.lookup ty (.tmp p) x true,rt,pos,aft,g⟩ σ (σ.set t (.tup [f (ZQ z m k),.bool (c4 m k)])):=by
 subst hdk;refine OpS.value fun a w ⟨ρ,Fe,Fb,st⟩=>?_;have hp:=YP st h;obtain⟨Fx,hvx,_⟩:=c3 st hx (c6 (H.p k));have hF0:=hvx.pur (H.p k);rw[hF0] at hvx;obtain⟨hF,es,h2,h3,h4⟩:=BC (st.bx _ _ hb);obtain⟨zi,zv,z1,z2,z3,z4⟩:=hZ.i;have hfk:=H.findKey hvx es.toList m (by simpa using h3) (fun j hj=>by have:=(h4 j hj).1;simpa [Array.getD_eq_getD_getElem?] using this)
 have hzv:VR w ρ (gd C Fe Fb) (fun i=>(σ.box i).isSome) (f z) zv []:=by rw[<- hz];exact chk_VR z3 z4
 have hck:=fun b=>H.check hvx b
 have fin:∀ v ok,VR w ρ (gd C Fe Fb) (fun i=>(σ.box i).isSome) (f (ZQ z m k)) v []->ok=c4 m k->St C (σ.set t (.tup [f (ZQ z m k),.bool (c4 m k)])) (a.put (some t) (.tuple #[v,.bool ok])) w:=by
  rintro v ok hv rfl;refine st.putRef (d:=.tup [f (ZQ z m k),.bool (c4 m k)]) (v:=.tuple #[v,.bool (c4 m k)]) ht ⟨[v,.bool (c4 m k)],fun _=>[],by rw[v7 a t _ t (by rw[st.size];exact ht)];simp,rfl,(CK _).symm,fun j hj=>.inr ?_⟩
  have hup:∀ d v,VR w ρ (gd C Fe Fb) (fun i=>(σ.box i).isSome) d v []->VR w ρ (gd C (upd Fe t []) Fb) (fun i=>(σ.box i).isSome) d v []:=
   fun d v h=>h.mono (fun _ _ _=>rfl) (fun b hb _=>⟨hb.1,fun ho=>hb.2 (XH ho)⟩) (fun i hi=>⟨hi,rfl⟩)
  match j,hj with
  | 0,_=>exact⟨hr _,hup _ _ hv⟩
  | 1,_=>exact⟨rfl,hup _ _ (by simp only[List.getElem_cons_succ,List.getElem_cons_zero,VR,D.isAgg,Bool.false_eq_true,if_false];exact .bool _)⟩
 by_cases hin:K6 m k<m.length
 ·have hgv:ZQ z m k=m[K6 m k].2:=by simp[ZQ,hin]
  obtain⟨q1,q2,q3⟩:=h4 _ hin
  have hsz:K6 m k<es.size:=by omega
  have hgd:es.getD (K6 m k) default=es[K6 m k]:=by simp[Array.getD_eq_getD_getElem?,hsz]
  rw[hgd] at q2;refine⟨.tuple #[es[K6 m k].val,.bool true],w, ?_,fin _ _ (by rw[hgv];exact q2) ((XA m k).1 hin).symm⟩;unfold execOp;simp[Instr.lookup,run_underlying hT.u,w3 hp,MapKept.run_getObj_map h2,hck,hfk,hin,hsz]
 ·have hle:K6 m k<=m.length:=List.findIdx_le_length
  have hgv:ZQ z m k=z:=by simp[ZQ,show K6 m k=m.length by omega]
  have hno:c4 m k=false:=by
   cases hh:c4 m k with
   | false=>rfl
   | true=>exact absurd ((XA m k).2 hh) hin
  refine⟨.tuple #[zv,.bool false],w, ?_,fin _ _ (by rw[hgv];exact hzv) hno.symm⟩;unfold execOp;simp[Instr.lookup,run_underlying hT.u,w3 hp,MapKept.run_getObj_map h2,hck,hfk,hin,zeroValue,typeInfo,z1,z2]
theorem R.mupdN{kd:κ->D}{f:α->D}{m:List (κ×α)}{n:Nat}{p id:Nat}{x y:Operand}{k:κ}{u:α}{dk dv:D}{ty kt et rt:TypeId}[hT:MkT P ty kt et]
 (H:KeyC P kt kd n) (h:σ.get p=some (.map id)) (hb:σ.box id=some (z8 kd f m)) (hx:ev C.gl σ x=some dk) (hdk:dk=kd k) (hy:ev C.gl σ y=some dv) (hd:dv=f u) (hp:dv.pur=true) (hno:c4 m k=false) :
 OpS P C ⟨none,.mapUpdate ty (.tmp p) x y,rt,pos,aft,g⟩ σ (σ.putB id (z8 kd f (m++[(k,u)]))):=by
 subst hdk;subst hd;refine OpS.skip rfl fun a w ⟨ρ,Fe,Fb,st⟩=>?_;have hpm:=YP st h;obtain⟨Fx,hvx,_⟩:=c3 st hx (c6 (H.p k));have hF0:=hvx.pur (H.p k);rw[hF0] at hvx;obtain⟨Fy,hvy,_⟩:=c3 st hy (c6 hp);have hFy:=hvy.pur hp;rw[hFy] at hvy;obtain⟨hF,es,h2,h3,h4⟩:=BC (st.bx _ _ hb);have hfk:=H.findKey hvx es.toList m (by simpa using h3) (fun j hj=>by have:=(h4 j hj).1;simpa [Array.getD_eq_getD_getElem?] using this)
 have hin:¬ K6 m k<m.length:=fun hc=>by rw[XA,hno] at hc;cases hc
 have st2:=st.putMk (es:=es.push { key:=a.eval x,val:=a.eval y,born:=m.length }) (m':=m++[(k,u)]) hb (by simp[h3]) (fun j hj=>by
  rcases Nat.lt_or_ge j m.length with hjm|hjm
  ·obtain⟨r1,r2,r3⟩:=h4 j hjm
   have hgj:(es.push { key:=a.eval x,val:=a.eval y,born:=m.length }).getD j default=es.getD j default:=by
    simp only[Array.getD_eq_getD_getElem?,Array.getElem?_push];rw[if_neg (by omega)]
   rw[hgj,List.getElem_append_left hjm];exact⟨r1,r2,r3⟩
  ·have hje:j=m.length:=by simp at hj;omega
   subst hje
   have hgj:(es.push { key:=a.eval x,val:=a.eval y,born:=m.length }).getD m.length default={ key:=a.eval x,val:=a.eval y,born:=m.length }:=by
    simp only[Array.getD_eq_getD_getElem?,Array.getElem?_push,h3,if_true,Option.getD_some]
   rw[hgj];simp only[List.getElem_append_right (Nat.le_refl _),Nat.sub_self,List.getElem_cons_zero]
   exact⟨hvx,hvy,trivial⟩)
 refine⟨_, ?_,ρ,Fe,_,st2⟩;unfold execOp;simp[Instr.mapUpdate,run_underlying hT.u,w3 hpm,MapKept.run_getObj_map h2,H.check hvx,hfk,hin,MapKept.run_setObj_map _ h2]
omit [DecidableEq κ] in
theorem ZW{t ty rt:TypeId}(kd:κ->D)(f:α->D)(hid:σ.box t=none)(ht:t<σ.n):OpS P C ⟨some t,.makeMap ty none,rt,pos,aft,g⟩ σ ((σ.newB t (z8 kd f [])).set t (.map t)):=R.mkmap hid ht
theorem u7{c:Code}{Q:Exit->Sg->Prop}(ids:List Nat){bx':List (Nat×Bx)}(hb:n8 ids σ.bx=bx')(he:C0 ids σ.env=true)(hx:A3 ids bx')(hpn:∀ id b,C.pin id=some b->u6 ids id=true)(h:W P C c Q ⟨σ.n,σ.env,bx'⟩):W P C c Q σ:=by
 intro a w ⟨ρ,Fe,Fb,st⟩;refine h a w ?_
 have hl:∀ u,lk bx' u=if u6 ids u then σ.box u else none:=fun u=>by rw[<- hb];exact Y0 ids σ.bx u
 have hsub:∀ id,∀ b∈(if u6 ids id then Fb id else[]),b∈Fb id:=fun id b hm=>by split at hm;exact hm;cases hm
 have hown:∀ b,own Fe (fun id=>if u6 ids id then Fb id else[]) b->own Fe Fb b:=fun b hb=>hb.imp id fun⟨i,hi⟩=>⟨i,hsub i b hi⟩
 have hgd:∀ b,gd C Fe Fb b->gd C Fe (fun id=>if u6 ids id then Fb id else[]) b:=fun b hb=>⟨hb.1,fun hc=>hb.2 (hown b hc)⟩
 have hL:∀ id,(u6 ids id=true/\(σ.box id).isSome)->(lk bx' id).isSome:=fun id ⟨h1,h2⟩=>by rw[hl,if_pos h1];exact h2
 exact⟨ρ,Fe,(fun id=>if u6 ids id then Fb id else[]),{
  size:=st.size
  defs:=st.defs
  pin:=fun id b hp=>⟨(st.pin id b hp).1,hL id ⟨hpn id b hp,(st.pin id b hp).2⟩⟩
  env:=fun t d hd=>(st.env t d hd).okB (D9 he hd) (fun b hb _=>hgd b hb) hL
  envN:=st.envN
  bx:=fun id b hd=>by
   have hok:=M9 hx hd;have h1:=hl id;by_cases hm:u6 ids id=true
   ·rw[if_pos hm] at h1
    have h2:σ.box id=some b:=by rw[<- h1];exact hd
    have hF':(if u6 ids id then Fb id else[])=Fb id:=if_pos hm;show BR w ρ _ _ (ρ id) b (if u6 ids id then Fb id else[]);rw[hF'];exact((st.bx id b h2).okB hok).mono (fun _ _ _=>rfl) (fun b hb _=>hgd b hb) (fun id hid=>⟨hL id hid,rfl⟩)
   ·rw[if_neg hm] at h1;rw[show lk bx' id=some b from hd] at h1;cases h1
  bxN:=fun id hn=>by
   have h1:=hl id;by_cases hm:u6 ids id=true
   ·rw[if_pos hm] at h1;simp only[hm,if_true];exact st.bxN id (by rw[<- h1];exact hn)
   ·simp[hm]
  nodE:=st.nodE
  nodB:=fun id=>by show(if u6 ids id then Fb id else[]).Nodup;split;exact st.nodB id;exact List.nodup_nil
  dEE:=st.dEE
  dEB:=fun t id b hb hm=>st.dEB t id b hb (hsub id b hm)
  dBB:=fun id id' hne b hb hm=>st.dBB id id' hne b (hsub id b hb) (hsub id' b hm)
  new:=fun b hb=>st.new b (hown b hb)
  kept:=st.kept
  os:=st.os
  tape:=⟨st.tape.tp,st.tape.dr⟩
  output:=st.output
  grown:=st.grown
  gl:=st.gl
  okN:=st.okN
  okO:=fun b hb=>st.okO b (hown b hb) }⟩
omit [DecidableEq κ] in
theorem j6{ids:List Nat}{kd:κ->D}{f:α->D}{m:List (κ×α)}(h1:∀ a,(kd a).okB ids=true)(h2:∀ u,(f u).okB ids=true):∀ kv∈m.map (fun e=>(kd e.1,f e.2)),kv.1.okB ids=true/\kv.2.okB ids=true:=fun kv hkv=>by
 obtain⟨e,_,rfl⟩:=List.mem_map.1 hkv;exact⟨h1 _,h2 _⟩
end Go.Sx

namespace Go.Sx
variable{P:Program}{C:Ctx}{σ σ' σ1:Sg}{a:Act}{w w':World}{ρ:Nat->Nat}{Fe Fe' Fb:Nat->List Nat}
end Go.Sx

namespace Go.Sx
variable{P:Program}{C:Ctx}{σ σ' σ1:Sg}{a:Act}{w w':World}{ρ:Nat->Nat}{Fe Fe' Fb:Nat->List Nat}
theorem St.rebox{bx':List (Nat×Bx)}(h:St C σ a w)(hb:∀ id,lk bx' id=σ.box id):St C ⟨σ.n,σ.env,bx'⟩ a w:=by
 obtain⟨ρ,Fe,Fb,st⟩:=h;have hbox:∀ id,(⟨σ.n,σ.env,bx'⟩:Sg).box id=σ.box id:=hb
 have hL:(fun id=>((⟨σ.n,σ.env,bx'⟩:Sg).box id).isSome=true)=(fun id=>(σ.box id).isSome=true):=by
  funext id;rw[hbox]
 refine⟨ρ,Fe,Fb,{
  size:=st.size
  defs:=st.defs
  pin:=fun id b hp=>⟨(st.pin id b hp).1,by rw[hbox];exact(st.pin id b hp).2⟩
  env:=fun t d hd=>by rw[hL];exact st.env t d hd
  envN:=fun t ht=>st.envN t ht
  bx:=fun id d hd=>by rw[hL];exact st.bx id d (by rw[<- hbox];exact hd)
  bxN:=fun id hd=>st.bxN id (by rw[<- hbox];exact hd)
  nodE:=st.nodE
  nodB:=st.nodB
  dEE:=st.dEE
  dEB:=st.dEB
  dBB:=st.dBB
  new:=st.new
  kept:=st.kept
  os:=st.os
  tape:=⟨st.tape.tp,st.tape.dr⟩
  output:=st.output
  grown:=st.grown
  gl:=st.gl
  okN:=st.okN
  okO:=st.okO }⟩
abbrev Efs:=List (Nat×List (Nat×Bx))
def bxk(an:List Nat)(i id:Nat):Efs->Option Bx->Option Bx
 | [],cur=>cur
 | (j,l)::r,cur=>match lk l id with
  | none=>bxk an i id r cur
  | some x=>bif tb (nth an i) j then bxk an i id r (some x) else bif Nat.beq i j||tb (nth an j) i then bxk an i id r cur else bxk an i id r none
def CG(f:Nat->Bool)(id:Nat):Efs->Option Bx->Option Bx
 | [],cur=>cur
 | (j,l)::r,cur=>match lk l id with
  | none=>CG f id r cur
  | some x=>bif f j then CG f id r (some x) else CG f id r cur
def touch(l m:List (Nat×Bx)):Bool:=l.any fun x=>(lk m x.1).isSome
def LT(an:List Nat)(j:Nat)(l:List (Nat×Bx)):Efs->Bool
 | []=>true
 | (k,m)::r=>(!(Nat.beq j k)&&(!(touch l m)||tb (nth an k) j))&&LT an j l r
def TF(an:List Nat)(m:Nat):Efs->Bool
 | []=>true
 | (j,l)::r=>Nat.blt j m&&LT an j l r&&TF an m r
def RE(an:List Nat)(i id:Nat):Efs->Bool
 | []=>true
 | (k,m)::r=>(Nat.beq k i||(lk m id).isNone||tb (nth an k) i)&&RE an i id r
def freB(an:List Nat)(bx0:List (Nat×Bx))(efs:Efs)(i id:Nat):Bool:=(lk bx0 id).isNone&&RE an i id efs
def BX(env:List (Nat×D))(an:List Nat)(ks:List (Nat×Nat))(its:List It):Efs->Bool
 | []=>true
 | (i,l)::r=>(E2 (l.map Prod.fst) ks i env&&E1 (l.map Prod.fst) an ks i its 0)&&BX env an ks its r
theorem TE{an:List Nat}{j:Nat}{l:List (Nat×Bx)}:∀ {r:Efs},LT an j l r=true->∀ x∈r,(!(Nat.beq j x.1)&&(!(touch l x.2)||tb (nth an x.1) j))=true:=by
 intro r
 induction r with
 | nil=>intro _ x hx;cases hx
 | cons y r ih=>
  obtain⟨k,m⟩:=y;intro h x hx;simp only[LT] at h;rw[Bool.and_eq_true] at h
  rcases List.mem_cons.1 hx with rfl|hx
  ·exact h.1
  ·exact ih h.2 x hx
theorem VO{an:List Nat}{i id:Nat}:∀ {r:Efs},RE an i id r=true->∀ x∈r,(Nat.beq x.1 i||(lk x.2 id).isNone||tb (nth an x.1) i)=true:=by
 intro r
 induction r with
 | nil=>intro _ x hx;cases hx
 | cons y r ih=>
  obtain⟨k,m⟩:=y;intro h x hx;simp only[RE] at h;rw[Bool.and_eq_true] at h
  rcases List.mem_cons.1 hx with rfl|hx
  ·exact h.1
  ·exact ih h.2 x hx
theorem ES{env:List (Nat×D)}{an:List Nat}{ks:List (Nat×Nat)}{its:List It}:∀ {r:Efs},BX env an ks its r=true->∀ x∈r,(E2 (x.2.map Prod.fst) ks x.1 env&&E1 (x.2.map Prod.fst) an ks x.1 its 0)=true:=by
 intro r
 induction r with
 | nil=>intro _ x hx;cases hx
 | cons y r ih=>
  obtain⟨k,m⟩:=y;intro h x hx;simp only[BX] at h;rw[Bool.and_eq_true] at h
  rcases List.mem_cons.1 hx with rfl|hx
  ·exact h.1
  ·exact ih h.2 x hx
def MK:Efs->List (Nat×Bx)->List (Nat×Bx)
 | [],b=>b
 | (_,l)::r,b=>MK r (l++b)
def rmB(k:Nat):List (Nat×Bx)->List (Nat×Bx)
 | []=>[]
 | (j,x)::r=>bif Nat.beq j k then rmB k r else(j,x)::rmB k r
def ddB:Nat->List (Nat×Bx)->List (Nat×Bx)
 | 0,l=>l
 | _+1,[]=>[]
 | n+1,(k,x)::r=>(k,x)::ddB n (rmB k r)
theorem lk_rmB(k:Nat)(l:List (Nat×Bx))(u:Nat)(h:u≠k):lk (rmB k l) u=lk l u:=by
 induction l with
 | nil=>rfl
 | cons y r ih=>
  obtain⟨j,x⟩:=y;simp only[rmB];by_cases hj:j=k
  ·subst hj;simp only[Nat.beq_refl,cond_true,v4,ih];rw[if_neg (fun e=>h e.symm)]
  ·simp only[nbeq hj,cond_false,v4,ih]
theorem lk_ddB:∀ (n:Nat) (l:List (Nat×Bx)) (u:Nat),lk (ddB n l) u=lk l u:=by
 intro n
 induction n with
 | zero=>intro l u;rfl
 | succ n ih=>
  intro l u
  cases l with
  | nil=>rfl
  | cons y r=>
   obtain⟨k,x⟩:=y;simp only[ddB,v4,ih];by_cases hk:k=u
   ·simp[hk]
   ·simp only[hk,if_false];exact lk_rmB k r u (fun e=>hk e.symm)
theorem lk_bxA(efs:Efs):∀ (b:List (Nat×Bx)) (u:Nat),lk (MK efs b) u=CG (fun _=>true) u efs (lk b u):=by
 induction efs with
 | nil=>intro b u;rfl
 | cons y r ih=>
  obtain⟨j,l⟩:=y;intro b u;simp only[MK,CG,ih,G7]
  cases lk l u<;>rfl
section
variable{listed:Array Bool}{ops:List Oper}{an:List Nat}{ks kk:List (Nat×Nat)}{its:List It}{Q:Exit->Sg->Prop}
theorem t2{f g:Nat->Bool}{id:Nat}:∀ {efs:Efs} {c:Option Bx},(∀ j l,(j,l)∈efs->(lk l id).isSome=true->f j=g j)->CG f id efs c=CG g id efs c:=by
 intro efs
 induction efs with
 | nil=>intro c _;rfl
 | cons y r ih=>
  obtain⟨j,l⟩:=y;intro c h;simp only[CG]
  cases hl:lk l id with
  | none=>exact ih (fun j' l' hm=>h j' l' (List.mem_cons_of_mem _ hm))
  | some x=>
   simp only;rw[h j l (by simp) (by rw[hl];rfl)]
   cases g j<;>exact ih (fun j' l' hm=>h j' l' (List.mem_cons_of_mem _ hm))
theorem PH{f:Nat->Bool}{id:Nat}:∀ {efs:Efs} {c:Option Bx},(∀ j l,(j,l)∈efs->(lk l id).isSome=true->f j=false)->CG f id efs c=c:=by
 intro efs
 induction efs with
 | nil=>intro c _;rfl
 | cons y r ih=>
  obtain⟨j,l⟩:=y;intro c h;simp only[CG]
  cases hl:lk l id with
  | none=>exact ih (fun j' l' hm=>h j' l' (List.mem_cons_of_mem _ hm))
  | some x=>
   simp only;rw[h j l (by simp) (by rw[hl];rfl)];exact ih (fun j' l' hm=>h j' l' (List.mem_cons_of_mem _ hm))
theorem bxk_ok{f:Nat->Bool}{i id:Nat}{x:Bx}(hi:f i=false):∀ {efs:Efs} {ck cb:Option Bx},(∀ j l,(j,l)∈efs->tb (nth an i) j=true->f j=true)->(∀ j l,(j,l)∈efs->tb (nth an j) i=true->f j=false) ->
 (∀ x,ck=some x->cb=some x)->bxk an i id efs ck=some x->CG f id efs cb=some x:=by
 intro efs
 induction efs with
 | nil=>intro ck cb _ _ h hx;exact h x hx
 | cons y r ih=>
  obtain⟨j,l⟩:=y;intro ck cb h1 h2 h hx;simp only[bxk] at hx;simp only[CG];have h1':∀ j l,(j,l)∈r->tb (nth an i) j=true->f j=true:=fun j' l' hm=>h1 j' l' (List.mem_cons_of_mem _ hm);have h2':∀ j l,(j,l)∈r->tb (nth an j) i=true->f j=false:=fun j' l' hm=>h2 j' l' (List.mem_cons_of_mem _ hm)
  cases hl:lk l id with
  | none=>rw[hl] at hx;exact ih h1' h2' h hx
  | some z=>
   rw[hl] at hx;simp only at hx ⊢
   cases ha:tb (nth an i) j with
   | true=>
    rw[ha] at hx;rw[h1 j l (by simp) ha];exact ih h1' h2' (fun _ h=>h) hx
   | false=>
    rw[ha] at hx;simp only[cond_false] at hx
    cases hb:(Nat.beq i j||tb (nth an j) i) with
    | true=>
     rw[hb] at hx
     have:f j=false:=by
      rcases Bool.or_eq_true _ _▸hb with hb|hb
      ·rw[<- Nat.eq_of_beq_eq_true hb];exact hi
      ·exact h2 j l (by simp) hb
     rw[this];exact ih h1' h2' h hx
    | false=>
     rw[hb] at hx;simp only[cond_false] at hx
     cases f j with
     | true=>exact ih h1' h2' (fun _ h=>by cases h) hx
     | false=>exact ih h1' h2' (fun _ h=>by cases h) hx
theorem touch_mk{l m:List (Nat×Bx)}{id:Nat}(h1:(lk l id).isSome=true)(h2:(lk m id).isSome=true):touch l m=true:=by
 obtain⟨x,hx⟩:=Option.isSome_iff_exists.1 h1;exact List.any_eq_true.2 ⟨(id,x),BM hx,h2⟩
theorem bxL_set{f:Nat->Bool}{m i id:Nat}{l:List (Nat×Bx)}(hi:f i=false):∀ {efs:Efs} {c:Option Bx},TF an m efs=true->(i,l)∈efs->(∀ j l,(j,l)∈efs->tb (nth an j) i=true->f j=false) ->
 CG (fun j=>f j||Nat.beq j i) id efs c=(match lk l id with|some x=>some x|none=>CG f id efs c):=by
 intro efs
 induction efs with
 | nil=>intro c _ h;cases h
 | cons y r ih=>
  obtain⟨j,l0⟩:=y;intro c hok hm h2;simp only[TF,Bool.and_eq_true] at hok;obtain⟨⟨_,hr⟩,hok'⟩:=hok
  have hr':∀ j' l',(j',l')∈r->j'≠j/\(touch l0 l'=true->tb (nth an j') j=true):=fun j' l' hm'=>by
   have:=TE hr _ hm';simp only[Bool.and_eq_true,Bool.not_eq_true',Bool.or_eq_true] at this;refine⟨fun e=>?_,fun ht=>?_⟩
   ·subst e;simp at this
   ·rcases this.2 with h|h
    ·rw[ht] at h;cases h
    ·exact h
  by_cases hji:j=i
  ·subst hji
   have hl:l=l0:=by
    rcases List.mem_cons.1 hm with h|h
    ·cases h;rfl
    ·exact absurd rfl (hr' j l h).1
   subst hl
   have hrest:∀ c,CG (fun j'=>f j'||Nat.beq j' j) id r c=CG f id r c:=fun c=>t2 fun j' l' hm' _=>by rw[nbeq (hr' j' l' hm').1,Bool.or_false]
   simp only[CG]
   cases hl:lk l id with
   | none=>simp only;exact hrest c
   | some x=>
    simp only[Nat.beq_refl,Bool.or_true,cond_true];rw[hrest];exact PH fun j' l' hm' hs=>h2 j' l' (List.mem_cons_of_mem _ hm') ((hr' j' l' hm').2 (touch_mk (by rw[hl];rfl) hs))
  ·have hm':(i,l)∈r:=by
    rcases List.mem_cons.1 hm with h|h
    ·cases h;exact absurd rfl hji
    ·exact h
   have h2':∀ j l,(j,l)∈r->tb (nth an j) i=true->f j=false:=fun j' l' hm'=>h2 j' l' (List.mem_cons_of_mem _ hm');simp only[CG,nbeq hji,Bool.or_false]
   cases lk l0 id with
   | none=>exact ih hok' hm' h2'
   | some x=>cases f j<;>exact ih hok' hm' h2'
theorem LS{m:Nat}{efs:Efs}(h:TF an m efs=true):∀ j l,(j,l)∈efs->j<m:=by
 induction efs with
 | nil=>intro j l hm;cases hm
 | cons y r ih=>
  obtain⟨j0,l0⟩:=y;simp only[TF,Bool.and_eq_true] at h;intro j l hm
  rcases List.mem_cons.1 hm with e|e
  ·cases e;exact Nat.le_of_ble_eq_true h.1.1
  ·exact ih h.2 j l e
theorem lk_some{α:Type}{r:List (Nat×α)}{k:Nat}{x:α}(h:(k,x)∈r):(lk r k).isSome=true:=by
 induction r with
 | nil=>cases h
 | cons y r ih=>
  obtain⟨j,z⟩:=y;rw[v4]
  rcases List.mem_cons.1 h with e|e
  ·cases e;simp
  ·split
   ·rfl
   ·exact ih e
def SpE(P:Program)(C:Ctx)(σ:Sg)(efs:Efs)(i:Nat)(l:List (Nat×Bx))(an:List Nat)(ks:List (Nat×Nat))(its:List It)(o:Oper)(t:Nat)(d:D):Prop:=
 ∀ τ:Sg,τ.n=σ.n->(∀ id x,bxk an i id efs (lk σ.bx id)=some x->τ.box id=some x)->(∀ id,freB an σ.bx efs i id=true->τ.box id=none)->(∀ u x,facts an ks σ.env its i u=some x->τ.get u=some x) ->
  ∃ τ':Sg,OpS P C o τ (match o.dst with|some _=>τ'.set t d|none=>τ')/\τ'.n=τ.n/\(∀ id,τ'.box id=match lk l id with|some x=>some x|none=>τ.box id) /\
   ∀ u y,(∀ k s,(k,s)∈ks->s=u->k≠i)->τ.get u=some y->y.albIn (l.map Prod.fst)=false->τ'.get u=some y
def dstE(n:Nat)(ks:List (Nat×Nat))(o:Oper)(i t:Nat):Prop:=
 match o.dst with
 | some t'=>t'=t/\t<n
 | none=>has ks i t=true
def AllE(P:Program)(C:Ctx)(σ:Sg)(efs:Efs)(ops:List Oper)(an:List Nat)(ks kk:List (Nat×Nat))(its:List It):List Oper->List It->Nat->Prop
 | o::os,⟨t,d,wt⟩::r,i=>(match lk efs i with
  | some l=>o.guard=none/\wt=true/\dstE σ.n ks o i t/\SpE P C σ efs i l an ks its o t d
  | none=>o.dst=some t/\t<σ.n/\Wt ops (facts an ks σ.env its i) o wt /\
  (wt=true->∀ τ:Sg,(∀ id x,bxk an i id efs (lk σ.bx id)=some x->τ.box id=some x)->t<τ.n->(∀ u x,facts an ks σ.env its i u=some x->τ.get u=some x)->OpS P C o τ ((P0 τ kk i).set t d))) /\
  AllE P C σ efs ops an ks kk its os r (i+1)
 | [],_::_,_=>False
 | _,[],_=>True
theorem AllE.at{efs:Efs}:∀ {os:List Oper} {r:List It} {i0:Nat},AllE P C σ efs ops an ks kk its os r i0->∀ {k:Nat} {t:Nat} {d:D} {wt:Bool},r[k]? = some ⟨t,d,wt⟩ ->
 ∃ o,os[k]? = some o/\(match lk efs (i0+k) with
  | some l=>o.guard=none/\wt=true/\dstE σ.n ks o (i0+k) t/\SpE P C σ efs (i0+k) l an ks its o t d
  | none=>o.dst=some t/\t<σ.n/\Wt ops (facts an ks σ.env its (i0+k)) o wt /\
  (wt=true->∀ τ:Sg,(∀ id x,bxk an (i0+k) id efs (lk σ.bx id)=some x->τ.box id=some x)->t<τ.n->(∀ u x,facts an ks σ.env its (i0+k) u=some x->τ.get u=some x)->OpS P C o τ ((P0 τ kk (i0+k)).set t d))):=by
 intro os r
 induction r generalizing os with
 | nil=>intro i0 _ k t d wt hk;simp at hk
 | cons y r ih=>
  intro i0 h k t d wt hk;obtain⟨t',d',w'⟩:=y
  cases os with
  | nil=>exact h.elim
  | cons o os=>
   cases k with
   | zero=>
    simp at hk;obtain⟨rfl,rfl,rfl⟩:=hk;exact⟨o,rfl,h.1⟩
   | succ k=>
    obtain⟨o',h1,h2⟩:=ih h.2 (k:=k) (by simpa using hk);rw[show i0+(k+1)=i0+1+k by omega];exact⟨o',by simpa using h1,h2⟩
theorem OV{N:Nat}(H:ItG ⟨N,σ.env,σ.bx⟩ ops an ks its)(hsize:listed.size=ops.length){i t:Nat}{d:D}{wt:Bool}(hit:its[i]? = some ⟨t,d,wt⟩)(hun:listed.getD i true=false)
 (hanc:∀ j,j<ops.length->tb (nth an i) j=true->listed.getD j false=true) (hnot:∀ j,j<ops.length->tb (nth an j) i=true->listed.getD j false=false) {ids:List Nat} (hE:E2 ids ks i σ.env=true) (hI:E1 ids an ks i its 0=true) (hkt:(i,t)∈ks)
 {τ:Sg} (hinv:HV σ an ks its listed τ) (τ2:Sg)
 (hg2:∀ u y,(∀ k s,(k,s)∈ks->s=u->k≠i)->τ.get u=some y->y.albIn ids=false->τ2.get u=some y):HV σ an ks its (listed.setIfInBounds i true) τ2:=by
 obtain⟨hnd,hlt⟩:=Y6 H.ts;obtain⟨hin,hif⟩:=undone hun;intro u y hy;unfold afts at hy
 cases hbd:bads (fun j=>(listed.setIfInBounds i true).getD j false&&!(cov an (fun j=>(listed.setIfInBounds i true).getD j false) its u j)) ks u with
 | true=>rw[hbd] at hy;cases hy
 | false=>
  rw[hbd] at hy;simp only[cond_false] at hy;rw[K4] at hbd
  have hii:(listed.setIfInBounds i true).getD i false=true:=by simp[hin]
  have hcov:u≠t->∀ k,cov an (fun j=>(listed.setIfInBounds i true).getD j false) its u k=true->cov an (fun j=>listed.getD j false) its u k=true/\k≠i:=by
   intro hut k hc;obtain⟨j,dj,wj,h1,h2,h3,h4⟩:=O1 hc
   have hji:i≠j:=by
    rintro rfl;rw[hit] at h2;cases h2;exact hut rfl
   rw[getD_set_ne false hji] at h3;refine⟨JK h1 h3 h4, ?_⟩;rintro rfl;have hjl:j<ops.length:=Nat.lt_of_lt_of_le (List.getElem?_eq_some_iff.1 h2).1 H.len;rw[hnot j hjl h4] at h3;cases h3
  by_cases hut:u=t
  ·subst hut;exfalso;have h1:=hbd i u hkt rfl;rw[hii] at h1;simp only[Bool.true_and,Bool.not_eq_false'] at h1;obtain⟨j,dj,wj,q1,q2,q3,q4⟩:=O1 h1
   have hji:j=i:=by
    have e1:(slots its)[j]? = some u:=by rw[Z4,q2];rfl
    have e2:(slots its)[i]? = some u:=by rw[Z4,hit];rfl
    obtain⟨l1,e1'⟩:=List.getElem?_eq_some_iff.1 e1;obtain⟨l2,e2'⟩:=List.getElem?_eq_some_iff.1 e2;exact(List.getElem_inj hnd).1 (e1'.trans e2'.symm)
   subst hji;have hjl:j<ops.length:=Nat.lt_of_lt_of_le (List.getElem?_eq_some_iff.1 q2).1 H.len;have:=hanc j hjl q4;rw[hif] at this;cases this
  ·have hki:∀ k s,(k,s)∈ks->s=u->k≠i:=by
    rintro k s hm hsu rfl;have h1:=hbd k s hm hsu;rw[hii] at h1;simp only[Bool.true_and,Bool.not_eq_false'] at h1;exact(hcov hut k h1).2 rfl
   have hbd2:bads (fun j=>listed.getD j false&&!(cov an (fun j=>listed.getD j false) its u j)) ks u=false:=by
    rw[K4];intro k s hm hsu;have h1:=hbd k s hm hsu;have h2:=hki k s hm hsu;rw[getD_set_ne false (fun e=>h2 e.symm)] at h1
    cases hd:listed.getD k false with
    | false=>rfl
    | true=>
     rw[hd] at h1;simp only[Bool.true_and,Bool.not_eq_false'] at h1 ⊢;exact(hcov hut k h1).1
   have hold:afts an (fun j=>listed.getD j false) ks σ.env its u=some y/\y.albIn ids=false:=by
    unfold afts;rw[hbd2];simp only[cond_false]
    rcases n4 its u with hu|⟨k,dk,wk,hk⟩
    ·rw[n5 hu] at hy ⊢;exact⟨hy,(s3 hE hy).resolve_right fun h=>hki i u h rfl rfl⟩
    ·rw[Q4 hnd hk] at hy ⊢;simp only[Nat.zero_add] at hy ⊢
     have hne:i≠k:=by
      rintro rfl;rw[hit] at hk;cases hk;exact hut rfl
     rw[getD_set_ne false hne] at hy;refine⟨hy, ?_⟩
     cases hd:listed.getD k false with
     | false=>
      rw[hd] at hy;exact(s3 hE hy).resolve_right fun h=>hki i u h rfl rfl
     | true=>
      rw[hd] at hy;simp only[cond_true] at hy
      cases wk with
      | false=>simp at hy;subst hy;simp[D.albIn]
      | true=>
       simp at hy;subst hy
       rcases DC hI hk with h|h|h
       ·exact h
       ·exact absurd rfl (hki i u h rfl)
       ·simp only[Nat.zero_add] at h;rw[hnot k (by rw[<- hsize];exact Q2 hd) h] at hd;cases hd
   exact hg2 u y hki (hinv u y hold.1) hold.2
structure ItE(σ:Sg)(efs:Efs)(ops:List Oper)(an:List Nat)(ks:List (Nat×Nat))(its:List It):Prop where
 N:∃ N,EL N (slots its)=true
 len:its.length<=ops.length
 ref:YK an ks (slots its) its 0=true
 env:YJ (slots its) σ.env=true
 ef:TF an its.length efs=true
 alb:BX σ.env an ks its efs=true
def CH(σ:Sg)(efs:Efs)(listed:Array Bool)(τ:Sg):Prop:=∀ id,τ.box id=CG (fun j=>listed.getD j false) id efs (lk σ.bx id)
theorem IY{efs:Efs}(H:ItE σ efs ops an ks its)(hall:AllE P C σ efs ops an ks kk its ops its 0)(hsub:subs kk ks=true)
 (hsize:listed.size=ops.length) {i:Nat} {oi:Oper} (hi:i<its.length) (ho:ops[i]? = some oi) (hun:listed.getD i true=false)
 (hanc:∀ j,j<ops.length->tb (nth an i) j=true->listed.getD j false=true) (hnot:∀ j,j<ops.length->tb (nth an j) i=true->listed.getD j false=false)
 {τ:Sg} (hs:St C τ a w) (hn:τ.n=σ.n) (hb:CH σ efs listed τ) (hinv:HV σ an ks its listed τ) {K:Act->World->Prop} {Q:Exit->Act->World->Prop}
 (hK:∀ a' w' τ',St C τ' a' w'->τ'.n=σ.n->CH σ efs (listed.setIfInBounds i true) τ'->HV σ an ks its (listed.setIfInBounds i true) τ'->K a' w') :
 Region.wanted oi (yielded ops.toArray a.tmps)=true/\oi.wpIn (Fx C) 3 P a w K Q∨Region.wanted oi (yielded ops.toArray a.tmps)=false/\K (a.put oi.dst undef) w:=by
 obtain⟨N,hN⟩:=H.N
 have HG:ItG ⟨N,σ.env,σ.bx⟩ ops an ks its:=⟨H.len,hN,H.ref,H.env⟩
 obtain⟨⟨t,d,wt⟩,hit⟩:∃ it,its[i]? = some it:=⟨its[i],List.getElem?_eq_getElem hi⟩
 obtain⟨o,ho',hcl⟩:=hall.at hit;rw[ho] at ho';cases ho';simp only[Nat.zero_add] at hcl;obtain⟨hin,hif⟩:=undone hun
 have hil:i<ops.length:=by rw[<- hsize];exact hin
 have hfact:∀ u x,facts an ks σ.env its i u=some x->τ.get u=some x:=IH HG hsize hi hun hanc hnot hinv;have hefl:∀ j l,(j,l)∈efs->j<ops.length:=fun j l hm=>Nat.lt_of_lt_of_le (LS H.ef j l hm) H.len
 have hbx:∀ id x,bxk an i id efs (lk σ.bx id)=some x->τ.box id=some x:=fun id x hx=>by
  rw[hb id];exact bxk_ok hif (fun j l hm ht=>hanc j (hefl j l hm) ht) (fun j l hm ht=>hnot j (hefl j l hm) ht) (fun _ h=>h) hx
 cases hef:lk efs i with
 | some l=>
  rw[hef] at hcl;simp only at hcl;obtain⟨hg,rfl,hdst,hsp⟩:=hcl;have hm:=DE hef;have halb:=ES H.alb _ hm;simp only[Bool.and_eq_true] at halb
  have hfre:∀ id,freB an σ.bx efs i id=true->τ.box id=none:=fun id hf=>by
   unfold freB at hf;simp only[Bool.and_eq_true,Option.isNone_iff_eq_none] at hf;rw[hb id,hf.1];refine PH fun j l hm hs=>?_;have:=VO hf.2 _ hm;simp only[Bool.or_eq_true,Option.isNone_iff_eq_none] at this
   rcases this with (h|h)|h
   ·rw[Nat.eq_of_beq_eq_true h];exact hif
   ·rw[h] at hs;cases hs
   ·exact hnot j (hefl j l hm) h
  obtain⟨τ',h1,h2,h3,h4⟩:=hsp τ hn hbx hfre hfact
  have hbn:∀ id,τ'.box id=CG (fun j=>(listed.setIfInBounds i true).getD j false) id efs (lk σ.bx id):=fun id=>by
   rw[h3 id,hb id];rw[<- bxL_set (f:=fun j=>listed.getD j false) hif H.ef hm (fun j l hm ht=>hnot j (hefl j l hm) ht)];refine t2 fun j l hm _=>?_;by_cases hji:j=i
   ·subst hji;simp[hin]
   ·rw[getD_set_ne false (fun e=>hji e.symm),nbeq hji,Bool.or_false]
  refine .inl ⟨Region.wanted_none hg _,h1 a w hs _ _ fun a' w' hs'=>?_⟩;unfold dstE at hdst
  cases hd:oi.dst with
  | none=>
   rw[hd] at hdst hs';exact hK a' w' _ hs' (h2.trans hn) hbn (OV HG hsize hit hun hanc hnot halb.1 halb.2 (KF hdst) hinv τ' h4)
  | some t'=>
   rw[hd] at hdst hs';exact hK a' w' _ hs' (h2.trans hn) hbn (e8 HG hsize hit hun hnot halb.1 halb.2 hinv d rfl τ' h4)
 | none=>
  rw[hef] at hcl;simp only at hcl;obtain⟨hdst,htn0,hwt,hop⟩:=hcl
  have htn:t<τ.n:=by rw[hn];exact htn0
  have hEi:E2 [] ks i σ.env=true:=EV _;have hIi:∀ j,E1 [] an ks i its j=true:=fun j=>ET _ j
  have hbn:∀ τ':Sg,τ'.bx=τ.bx->CH σ efs (listed.setIfInBounds i true) τ':=fun τ' hbb id=>by
   have:τ'.box id=τ.box id:=by simp only[Sg.box,hbb]
   rw[this,hb id];refine t2 fun j l hm _=>?_;rw[getD_set_ne false];rintro rfl;have:=lk_some hm;rw[hef] at this;cases this
  rw[hwt.ok hs hfact];have hkn:=RU τ kk i
  cases hwt2:wt with
  | false=>
   refine .inr ⟨rfl, ?_⟩;rw[hdst];exact hK _ _ _ (hs.unwanted htn) hn (hbn _ rfl) (e8 HG hsize hit hun hnot hEi (hIi 0) hinv (.tup []) (by rw[hwt2];rfl) τ (fun u y _ h _=>h))
  | true=>
   refine .inl ⟨rfl,hop hwt2 τ hbx htn hfact a w hs _ _ fun a' w' hs'=>?_⟩;exact hK _ _ _ hs' (hkn.1.trans hn) (hbn _ hkn.2) (e8 HG hsize hit hun hnot hEi (hIi 0) hinv d (by rw[hwt2];rfl) _ (fun u y hu hy _=>(DI (fun k s hm=>hu k s (LG hsub k s hm))).trans hy))
theorem IG{efs:Efs}{bx1:List (Nat×Bx)}(hA:YX ops an its.length=true)(H:ItE σ efs ops an ks its)(hall:AllE P C σ efs ops an ks kk its ops its 0)(hsub:subs kk ks=true)
 {live:List Nat} {env':List (Nat×D)} (hE:picks (afts an (fun _=>true) ks σ.env its) live=env') {nd:Nat} (hb1:ddB nd (MK efs σ.bx)=bx1)
 (hT:TL P C Q (ops.drop its.length) ⟨σ.n,env',bx1⟩):∀ (fuel:Nat) (listed:Array Bool) (a:Act) (w:World) (τ:Sg),Cl ops listed->listed.toList.count false<=fuel ->
 (∀ j,its.length<=j->j<ops.length->listed.getD j true=false)->St C τ a w->τ.n=σ.n->CH σ efs listed τ->HV σ an ks its listed τ ->
 wpAnyIn (Fx C) 3 P .any ops.toArray (fun e a' w'=>∃ σ',St C σ' a' w'/\Q e σ') fuel listed a w:=by
 obtain⟨N,hN⟩:=H.N;have hefl:∀ j l,(j,l)∈efs->j<its.length:=fun j l hm=>LS H.ef j l hm
 have fin:∀ (listed:Array Bool) (a:Act) (w:World) (τ:Sg),(∀ j,j<its.length->listed.getD j false=true)->St C τ a w->τ.n=σ.n->CH σ efs listed τ->HV σ an ks its listed τ ->
  St C ⟨σ.n,env',bx1⟩ a w:=by
  intro listed a w τ hall' hs hn hb hinv
  have hbb:∀ id,lk bx1 id=τ.box id:=fun id=>by
   rw[<- hb1,lk_ddB,lk_bxA,hb id];exact t2 fun j l hm _=>(hall' j (hefl j l hm)).symm
  refine(hs.rebox hbb).weaken hn.symm rfl fun t d hd=>hinv t d ?_;have:=H6 (f:=afts an (fun _=>true) ks σ.env its) (l:=live) (by rw[hE];exact hd);unfold afts at this ⊢
  cases hb:bads (fun k=>true&&!(cov an (fun _=>true) its t k)) ks t with
  | true=>rw[hb] at this;cases this
  | false=>
   rw[hb] at this;rw[ZF (fun j dj wj hj=>hall' j (List.getElem?_eq_some_iff.1 hj).1) hb];simp only[cond_false] at this ⊢
   rcases n4 its t with hu|⟨k,dk,wk,hk⟩
   ·rw[n5 hu] at this ⊢;exact this
   ·rw[Q4 (Y6 hN).1 hk] at this ⊢;simp only[Nat.zero_add] at this ⊢;rw[hall' k (List.getElem?_eq_some_iff.1 hk).1];exact this
 intro fuel
 induction fuel with
 | zero=>
  intro listed a w τ hc hf h2 hs hn hb hinv;by_cases hall':∀ j,j<its.length->listed.getD j false=true
  ·exact s9 hA _ its.length 0 listed a w ⟨σ.n,env',bx1⟩ rfl (Nat.le_refl _) H.len hc hf hall' h2 (fin listed a w τ hall' hs hn hb hinv) hT
  ·exfalso;apply hall';intro j hj;have:=e9 (listed:=listed) (by omega) j
   have hjl:j<listed.size:=by rw[hc.size];have:=H.len;omega
   simp[hjl] at this ⊢;exact this
 | succ fuel ih=>
  intro listed a w τ hc hf h2 hs hn hb hinv;by_cases hall':∀ j,j<its.length->listed.getD j false=true
  ·exact s9 hA _ its.length (fuel+1) listed a w ⟨σ.n,env',bx1⟩ rfl (Nat.le_refl _) H.len hc hf hall' h2 (fin listed a w τ hall' hs hn hb hinv) hT
  ·have hsome:∃ j,j<its.length/\listed.getD j true=false:=by
    rcases Classical.not_forall.1 hall' with ⟨j,hj⟩
    rcases Classical.not_imp.1 hj with ⟨hj1,hj2⟩
    refine⟨j,hj1, ?_⟩
    have hjl:j<listed.size:=by rw[hc.size];have:=H.len;omega
    simp[hjl] at hj2 ⊢;exact hj2
   have key:∀ n j,j=n->j<its.length->listed.getD j true=false->∃ k,k∈Region.ready .any ops.toArray listed:=by
    intro n
    induction n using Nat.strongRecOn with
    | _ n ihn=>
     intro j hjn hj hu;have hjl:j<ops.length:=Nat.lt_of_lt_of_le hj H.len;have ho:ops[j]? = some ops[j]:=List.getElem?_eq_getElem hjl;by_cases hr:∀ e∈ops[j].after,Region.binds .any e=true->listed.getD e.on false=true
     ·exact⟨j,mem_ready.2 ⟨hu,_,by simp,hr⟩⟩
     ·rcases Classical.not_forall.1 hr with ⟨e,he⟩
      rcases Classical.not_imp.1 he with ⟨he1,he2⟩
      rcases Classical.not_imp.1 he2 with ⟨he3,he4⟩
      have hlt:=(U2 hA ho).1 e he1 he3;refine ihn e.on (by omega) e.on rfl (by omega) ?_
      have hel:e.on<listed.size:=by rw[hc.size];omega
      simp[hel] at he4 ⊢;exact he4
   obtain⟨j0,hj0,hu0⟩:=hsome;refine⟨fun hr=>?_,fun i hi=>?_⟩
   ·obtain⟨k,hk⟩:=key j0 j0 rfl hj0 hu0;rw[hr] at hk;cases hk
   ·obtain⟨h3,oi,h4,h5⟩:=mem_ready.1 hi
    have ho:ops[i]? = some oi:=by simpa using h4
    have hil:i<ops.length:=(List.getElem?_eq_some_iff.1 ho).1
    have him:i<its.length:=by
     rcases Nat.lt_or_ge i its.length with h|h
     ·exact h
     ·exfalso;obtain⟨_,h9⟩:=U2 hA ho;have hj0l:j0<ops.length:=Nat.lt_of_lt_of_le hj0 H.len;obtain⟨h10,h11⟩:=h9 j0 hj0l;obtain⟨e,he,hb,h12⟩:=h10 (h11 h (by omega));have hd:=h5 e he hb
      have hkd:listed.getD j0 false=true:=by
       rcases h12 with rfl|h12
       ·exact hd
       ·exact hc.anc hA e.on (by rw[<- hc.size];exact Q2 hd) hd j0 hj0l h12
      rw[(undone hu0).2] at hkd;cases hkd
    have hspc:=(U2 hA ho).2;have hif:=(undone h3).2
    have hanc:∀ j,j<ops.length->tb (nth an i) j=true->listed.getD j false=true:=by
     intro j hj ht;obtain⟨e,he,hb,h1⟩:=(hspc j hj).1 ht;have hd:=h5 e he hb
     rcases h1 with rfl|h1
     ·exact hd
     ·exact hc.anc hA e.on (by rw[<- hc.size];exact Q2 hd) hd j hj h1
    have hnot:∀ j,j<ops.length->tb (nth an j) i=true->listed.getD j false=false:=by
     intro j hj ht
     cases hd:listed.getD j false with
     | false=>rfl
     | true=>have:=hc.anc hA j hj hd i hil ht;rw[hif] at this;cases this
    suffices hK:∀ a' w' τ',St C τ' a' w'->τ'.n=σ.n->CH σ efs (listed.setIfInBounds i true) τ'->HV σ an ks its (listed.setIfInBounds i true) τ'->wpAnyIn (Fx C) 3 P .any ops.toArray (fun e a' w'=>∃ σ',St C σ' a' w'/\Q e σ') fuel (listed.setIfInBounds i true) a' w' by
     unfold Go.wpOpIn;simp only[h4]
     rcases IY H hall hsub hc.size him ho h3 hanc hnot hs hn hb hinv hK with ⟨e1,e2⟩|⟨e1,e2⟩
     ·simp only[e1,if_true];exact e2
     ·simp only[e1,Bool.false_eq_true,if_false];exact⟨fun _ _=>trivial,e2⟩
    intro a' w' τ' hs' hn' hb' hinv';refine ih _ a' w' τ' (hc.set ho h5) (by have:=count_set h3;omega) (fun j hj hjl=>?_) hs' hn' hb' hinv';rw[getD_set_ne true (by omega)];exact h2 j hj hjl
theorem J7{id m n' nd:Nat}{efs:Efs}{bx1:List (Nat×Bx)}(hm:P.follows .mixedOrders=true)(hA0:YX ops an m=true)(hlen:its.length=m)
 (H:ItE σ efs ops an ks its) (hall:AllE P C σ efs ops an ks kk its ops its 0) (hsub:subs kk ks=true)
 {live:List Nat} {env':List (Nat×D)} (hE:picks (afts an (fun _=>true) ks σ.env its) live=env') (hb1:ddB nd (MK efs σ.bx)=bx1)
 (hn:σ.n=n') (hT:TL P C Q (ops.drop its.length) ⟨n',env',bx1⟩):W P C (.region id ops.toArray true) Q σ:=by
 intro a w hs;refine wpIn_region_any hm ?_
 have hgd:∀ k,(Array.replicate ops.toArray.size false).getD k false=false:=by
  intro k;simp only[Array.getD_eq_getD_getElem?,Array.getElem?_replicate]
  split<;>rfl
 have hc:Cl ops (Array.replicate ops.toArray.size false):=⟨by simp,fun i o _ hd=>by rw[hgd] at hd;cases hd⟩
 have hA:YX ops an its.length=true:=by rw[hlen];exact hA0
 obtain⟨N,hN⟩:=H.N;subst hn;refine IG hA H hall hsub hE hb1 hT _ _ a _ σ hc ?_ ?_ (hs.ext (Ext.drew w)) rfl ?_ (fun u x hx=>?_)
 ·simp
 ·intro j _ hj;simp[hj]
 ·exact fun id=>(PH fun j l _ _=>hgd j).symm
 ·unfold afts at hx;generalize hb:bads _ ks u=bb at hx
  cases bb with
  | true=>cases hx
  | false=>
   simp only[cond_false] at hx
   rcases n4 its u with hu|⟨k,dk,wk,hk⟩
   ·rw[n5 hu] at hx;exact hx
   ·rw[Q4 (Y6 hN).1 hk,hgd] at hx;exact hx
theorem SpE.alloc{efs:Efs}{i t ty rt:TypeId}{d:D}{pos:String}{aft:Array Edge}[hZ:ZrT P ty d](hf:freB an σ.bx efs i t=true)(ht:t<σ.n) :
 SpE P C σ efs i [(t,.var d)] an ks its ⟨some t,.alloc ty,rt,pos,aft,none⟩ t (.ptr t 0 []):=by
 intro τ hn hb hfr hfa;refine⟨τ.newB t (.var d),R.alloc (hfr t hf) (by rw[hn];exact ht),rfl,fun id=>?_,fun u y _ hy _=>hy⟩;rw[O3];by_cases hid:t=id
 ·subst hid;simp[lk]
 ·simp[lk,hid,nbeq hid]
theorem CD{τ:Sg}{id:Nat}{x y:Bx}(h:τ.box id=some y)(i:Nat):(τ.putB id x).box i=match lk [(id,x)] i with|some z=>some z|none=>τ.box i:=by
 rw[F9];by_cases hi:i=id
 ·subst hi;simp[lk,h]
 ·simp[lk,hi,nbeq (show ¬ id=i from fun e=>hi e.symm)]
theorem O6{efs:Efs}{i t p id off:Nat}{d:D}{path:List Nat}{x:Operand}{d0 d1 d' dx:D}{ty n rt:TypeId}{gg:Bool}{pos:String}{aft:Array Edge}[LdT P ty n gg]
 (hp:facts an ks σ.env its i p=some (.ptr id off path)) (hb:bxk an i id efs (lk σ.bx id)=some (.var d0)) (hl:d0.loc path=some (off,d1))
 (hx:∀ τ:Sg,(∀ u x,facts an ks σ.env its i u=some x->τ.get u=some x)->ev C.gl τ x=some dx) (hpu:dx.pur=true) (hnp:dx.np=true)
 (hn:dx.sz=n) (hz:d1.sz=n) (hu:d0.upd path dx=some d') :
 SpE P C σ efs i [(id,.var d')] an ks its ⟨none,.store ty (.tmp p) x,rt,pos,aft,none⟩ t d:=by
 intro τ hn' hbk hfr hfa;have hbx:=hbk _ _ hb;refine⟨τ.putB id (.var d'),R.st (hfa _ _ hp) hbx hl (hx τ hfa) hpu hnp hn (hn.trans hz.symm) hu,rfl,CD hbx,fun u y _ hy ha=>?_⟩;rw[Y2,hy,Option.map_some,l8 ha]
theorem SpE.appB{efs:Efs}{c:Nat}{s id off t e z bytes:Nat}{path:List Nat}{d0 d0':D}{x:Operand}{l l' l2:List D}{ty rt:TypeId}{pos:String}{aft:Array Edge}[hT:SlT P ty e][hE:ElT P e z bytes]
 (hs:facts an ks σ.env its c s=some (.alb id off path)) (hb:bxk an c id efs (lk σ.bx id)=some (.var d0)) (hl:d0.loc path=some (off,.sl (some e) z l)) (hna:d0.noArr path=true) (hu:d0.upd path .dead=some d0')
 (hx:∀ τ:Sg,(∀ i x,i≠id->bxk an c i efs (lk σ.bx i)=some x->τ.box i=some x)->(∀ u x,facts an ks σ.env its c u=some x->x.albIn [id]=false->Nat.beq u s=false->τ.get u=some x)->SrcO C.gl τ x z l')
 (he:l++l'=l2) (hn:l.length+l'.length<=1073741824) (hst:s≠t) (hby:bytes<=131072) (hk:has ks c s=true) (ht:t<σ.n) :
 SpE P C σ efs c [(id,.var d0')] an ks its ⟨some t,.call { callee:=.builtin .append,args:=#[.tmp s,x],argTypes:=#[ty,ty] },rt,pos,aft,none⟩ t (.sl (some e) z l2):=by
 intro τ hτn hbk hfr hf;have hbτ:=hbk _ _ hb
 have hget:∀ u,((τ.putB id (.var d0')).upd s (.sl (some e) z l)).get u=if u=s then some (.sl (some e) z l) else(τ.get u).map (H3 id):=fun u=>by
  rw[M5,Y2];by_cases hus:u=s
  ·subst hus;simp[hf _ _ hs]
  ·simp[hus]
 have hbx2:∀ i,((τ.putB id (.var d0')).upd s (.sl (some e) z l)).box i=(τ.putB id (.var d0')).box i:=fun i=>rfl;refine⟨((τ.putB id (.var d0')).upd s (.sl (some e) z l)).kill s,UX (hf _ _ hs) hbτ hl hna hu rfl (by rw[hget];simp) (hx _ (fun i x hi hix=>?_) (fun u x hux ha hus=>?_)) he hn (by rw[hτn];exact ht) hst hby,rfl,fun i=>?_,fun u y hk' hy ha=>?_⟩
 ·rw[hbx2,F9,if_neg hi];exact hbk i x hix
 ·rw[hget,hf _ _ hux]
  have:¬ u=s:=fun e=>by subst e;simp at hus
  simp[this,l8 ha]
 ·exact CD hbτ i
 ·rw[O0,hget,hy];have:¬ u=s:=fun e=>hk' c s (KF hk) e.symm rfl;have ha':y.albIn [id]=false:=ha;simp[this,l8 ha']
end
end Go.Sx

namespace Go.Sx
variable{P:Program}{C:Ctx}{σ σ' σ1:Sg}{a:Act}{w w':World}{ρ:Nat->Nat}{Fe Fe' Fb:Nat->List Nat}
end Go.Sx

namespace Go.Sx
variable{pos:String}{aft:Array Edge}{g:Option (Nat×Bool)}
variable{P:Program}{C:Ctx}{σ σ' σ1:Sg}{a:Act}{w w':World}{ρ:Nat->Nat}{Fe Fe' Fb:Nat->List Nat}
def Z6(σ:Sg):List Nat->Sg
 | []=>σ
 | s::r=>Z6 (σ.kill s) r
theorem XO:∀ (S:List Nat) (σ:Sg),(Z6 σ S).n=σ.n/\(Z6 σ S).bx=σ.bx:=by
 intro S
 induction S with
 | nil=>intro σ;exact⟨rfl,rfl⟩
 | cons s r ih=>intro σ;exact ih (σ.kill s)
theorem C4:∀ (S:List Nat) (σ:Sg) (u:Nat),(Z6 σ S).get u=if u∈S then some .dead else σ.get u:=by
 intro S
 induction S with
 | nil=>intro σ u;simp[Z6]
 | cons s r ih=>
  intro σ u;simp only[Z6];rw[ih,O0];by_cases h1:u∈r
  ·simp[h1]
  ·by_cases h2:u=s
   ·simp[h2]
   ·simp[h1,h2]
theorem StW.takeL{S:List Nat}{t:Nat}{d:D}{v:Value}{F:List Nat}(h:StW C σ a w ρ Fe Fb)(ht:t<σ.n)(hst:t∉S)(hS:∀ s∈S,∃ d0,σ.get s=some d0)
 (hF:F.Nodup) (hFs:∀ b∈F,∃ s∈S,b∈Fe s)
 (hv:SR w ρ (gd C (upd (fun u=>if u∈S then[] else Fe u) t F) Fb) (fun id=>(σ.box id).isSome) (a.put (some t) v) t d F) :
 StW C ((Z6 σ S).set t d) (a.put (some t) v) w ρ (upd (fun u=>if u∈S then[] else Fe u) t F) Fb:=by
 have hsz:t<a.tmps.size:=by rw[h.size];exact ht
 let Fx:Nat->List Nat:=upd (fun u=>if u∈S then[] else Fe u) t F
 have hFx:∀ u,u≠t->∀ b∈Fx u,b∈Fe u/\u∉S:=fun u hut b hb=>by
  simp only[Fx,q8 hut] at hb;by_cases hus:u∈S
  ·simp[hus] at hb
  ·simp only[hus,if_false] at hb;exact⟨hb,hus⟩
 have hFt:Fx t=F:=by simp[Fx]
 have ho:∀ b,own Fx Fb b->own Fe Fb b:=by
  rintro b (⟨u,hu⟩|hid)
  ·by_cases hut:u=t
   ·subst hut;rw[hFt] at hu;obtain⟨s,_,hs⟩:=hFs b hu;exact .inl ⟨s,hs⟩
   ·exact .inl ⟨u,(hFx u hut b hu).1⟩
  ·exact .inr hid
 have hg:∀ b,gd C Fe Fb b->gd C Fx Fb b:=fun b hb=>⟨hb.1,fun hc=>hb.2 (ho b hc)⟩
 obtain⟨hn,hbx⟩:=XO S σ
 have hbox:∀ id,((Z6 σ S).set t d).box id=σ.box id:=fun id=>by
  show lk (Z6 σ S).bx id=_;rw[hbx];rfl
 have hLf:(fun id=>(((Z6 σ S).set t d).box id).isSome=true)=fun id=>(σ.box id).isSome=true:=by funext id;rw[hbox]
 have hnotF:∀ u,u≠t->∀ b∈Fx u,b∉F:=fun u hut b hb hbF=>by
  obtain⟨h1,h2⟩:=hFx u hut b hb;obtain⟨s,hs,h3⟩:=hFs b hbF;exact h.dEE u s (fun e=>h2 (e▸hs)) b h1 h3
 refine {
  size:=?_
  defs:=h.defs
  pin:=fun id b hp=>by rw[hbox];exact h.pin id b hp
  env:=fun u x hx=>?_
  envN:=fun u hu=>?_
  bx:=fun id x hx=>by rw[hLf];exact(h.bx id x (by rw[<- hbox];exact hx)).mono (fun _ _ _=>rfl) (fun b hb _=>hg b hb) (fun i hi=>⟨hi,rfl⟩)
  bxN:=fun id hx=>h.bxN id (by rw[<- hbox];exact hx)
  nodE:=fun u=>?_
  nodB:=h.nodB
  dEE:=fun u u' huu b hb hb'=>?_
  dEB:=fun u id b hb hb'=>?_
  dBB:=h.dBB
  new:=fun b hb=>h.new b (ho b hb)
  kept:=h.kept
  os:=h.os
  tape:=⟨h.tape.tp,h.tape.dr⟩
  output:=h.output
  grown:=h.grown
  gl:=h.gl
  okN:=h.okN
  okO:=fun b hb=>h.okO b (ho b hb) }
 ·simp[Act.put,h.size,hn]
 ·rw[hLf];rw[m7] at hx;by_cases hut:u=t
  ·subst hut;simp at hx;subst hx;simp only[j3];exact hv
  ·simp only[hut,if_false] at hx;obtain⟨d1,hd1,rfl⟩:=Option.map_eq_some_iff.1 hx;rw[C4] at hd1;by_cases hus:u∈S
   ·simp only[hus,if_true,Option.some.injEq] at hd1;subst hd1;obtain⟨d0,hd0⟩:=hS u hus;obtain⟨v0,hv0⟩:=(h.env u d0 hd0).there;refine⟨by simp[q8 hut,hus],v0,by rw[v7 a t v u hsz];simp[hut,hv0]⟩
   ·simp only[hus,if_false] at hd1
    have hFu:upd (fun u=>if u∈S then[] else Fe u) t F u=Fe u:=by simp[q8 hut,hus]
    rw[hFu];exact O7 hut hsz (h.env u d1 hd1) (fun _ _ _=>rfl) (fun b hb _=>hg b hb) (fun id hid=>⟨hid,rfl⟩) (fun _ _ _ _ h=>h)
 ·rw[m7] at hu;by_cases hut:u=t
  ·simp[hut] at hu
  ·simp only[hut,if_false,Option.map_eq_none_iff] at hu;rw[C4] at hu;by_cases hus:u∈S
   ·simp[hus] at hu
   ·simp only[hus,if_false] at hu;simp[q8 hut,hus,h.envN u hu]
 ·by_cases hut:u=t
  ·subst hut;simpa using hF
  ·simp only[q8 hut];split
   ·exact List.nodup_nil
   ·exact h.nodE u
 ·by_cases hut:u=t
  ·subst hut
   have hb1:b∈F:=by rw[<- hFt];exact hb
   exact hnotF u' (fun e=>huu e.symm) b hb' hb1
  ·by_cases hut':u'=t
   ·subst hut'
    have hb1:b∈F:=by rw[<- hFt];exact hb'
    exact hnotF u hut b hb hb1
   ·exact h.dEE u u' huu b (hFx u hut b hb).1 (hFx u' hut' b hb').1
 ·by_cases hut:u=t
  ·subst hut
   have hb1:b∈F:=by rw[<- hFt];exact hb
   obtain⟨s,_,hs⟩:=hFs b hb1;exact h.dEB s id b hs hb'
  ·exact h.dEB u id b (hFx u hut b hb).1 hb'
inductive EvO(gl:List (Nat×D))(σ:Sg)(l0:List D):List (Nat×Operand)->List D->List D->List Nat->Prop
 | nil {l l':List D} (h:l=l'):EvO gl σ l0 [] l l' []
 | pur {i:Nat} {x:Operand} {d:D} {ps:List (Nat×Operand)} {l l':List D} {S:List Nat} (h:ev gl σ x=some d) (hp:d.pur=true) (hn:d.np=true) (hz:(l0[i]?).map D.sz=some d.sz) (t:EvO gl σ l0 ps (l.set i d) l' S):EvO gl σ l0 ((i,x)::ps) l l' S
 | own {i s:Nat} {d:D} {ps:List (Nat×Operand)} {l l':List D} {S:List Nat} (h:σ.get s=some d) (hr:d.isRef=false) (hn:d.np=true) (hz:(l0[i]?).map D.sz=some d.sz) (hs:S.contains s=false) (t:EvO gl σ l0 ps (l.set i d) l' S):EvO gl σ l0 ((i,.tmp s)::ps) l l' (s::S)
theorem set_sz{l l0:List D}{i:Nat}{d:D}(hz:l.map D.sz=l0.map D.sz)(h:(l0[i]?).map D.sz=some d.sz):(l.set i d).map D.sz=l0.map D.sz:=by
 rw[List.map_set,<- hz]
 have h2:(l.map D.sz)[i]? = some d.sz:=by rw[hz,List.getElem?_map];exact h
 apply List.ext_getElem?;intro j;rw[List.getElem?_set];split
 ·rename_i hij;subst hij;rw[h2];have:=(List.getElem?_eq_some_iff.1 h2).1;simp only[this,if_true]
 ·rfl
theorem OT{G L:Nat->Prop}{l l0:List D}{i:Nat}{d:D}{xc:List Value}{Fx F:List Nat}{cs:Array Value}{v:Value}(hxc:v.cells.toList=xc)(hrc:Rc w ρ G L false d xc Fx)(hz:l.map D.sz=l0.map D.sz)(p3:(l0[i]?).map D.sz=some d.sz)
 (hr:Rc w ρ G L false (.agg l) cs.toList F) (hF:F.Nodup) (hFx:Fx.Nodup) (hdis:∀ b∈Fx,b∉F) :
 ∃ out F',(offl l0 0).toArray[i]? = some (offk l i,d.sz)/\v.cells.size=d.sz/\¬ (cs.size<offk l i+d.sz)/\v.cells.zipIdx.foldl (fun(c:Array Value) (p:Value×Nat)=>c.setIfInBounds (offk l i+p.2) p.1) cs=out /\
  Rc w ρ G L false (.agg (l.set i d)) out.toList F'/\F'.Nodup/\∀ b∈F',b∈F∨b∈Fx:=by
 have hlen:=hrc.len
 cases hl0:l0[i]? with
 | none=>rw[hl0] at p3;cases p3
 | some d0=>
  obtain⟨hi,rfl⟩:=List.getElem?_eq_some_iff.1 hl0;rw[hl0] at p3;simp only[Option.map_some,Option.some.injEq] at p3
  have hll:l.length=l0.length:=by have:=congrArg List.length hz;simpa using this
  have hi2:i<l.length:=by omega
  have hsi:l[i].sz=d.sz:=by
   have:(l.map D.sz)[i]'(by simpa using hi2)=(l0.map D.sz)[i]'(by simpa using hi):=by simp only[hz]
   simp at this;omega
  have hoff:offk l i=offk l0 i:=by
   have hs:∀ (u v:List D),u.map D.sz=v.map D.sz->D.szs u=D.szs v:=by
    intro u
    induction u with
    | nil=>intro v hv;cases v<;>simp_all
    | cons a u ihu=>intro v hv;cases v with
     | nil=>simp at hv
     | cons b v=>simp at hv;simp[hv.1,ihu v hv.2]
   unfold offk;exact hs _ _ (by rw[List.map_take,List.map_take,hz])
  have hlo:=K2 l i hi2;have hcl:=hr.len;simp only[E0,Array.length_toList] at hcl
  have hloc:(D.agg l).loc [i]=some (offk l i,l[i]):=by simp[D.loc,List.getElem?_eq_getElem hi2]
  have hupd:(D.agg l).upd [i] d=some (.agg (l.set i d)):=by simp[D.upd,List.getElem?_eq_getElem hi2]
  have hnoa:(D.agg l).noArr [i]=true:=by simp[D.noArr,List.getElem?_eq_getElem hi2]
  obtain⟨F2,g1,g2,g3,_⟩:=hr.upd hloc hupd hsi.symm hrc hF hFx hdis (.inr hnoa);have hfold:=N1 cs xc (offk l i) 0 (by omega);simp only[Nat.add_zero] at hfold
  have hcs2:(v.cells.zipIdx.foldl (fun(c:Array Value) (p:Value×Nat)=>c.setIfInBounds (offk l i+p.2) p.1) cs).toList=cs.toList.take (offk l i)++xc++cs.toList.drop (offk l i+xc.length):=by
   rw[<- hfold,<- hxc,<- Array.foldl_toList];simp
  rw[<- hcs2] at g1;refine⟨_,F2, ?_, ?_,by omega,rfl,g1,g3,g2⟩
  ·rw[List.getElem?_toArray,YU l0 0 i hi,hoff,Nat.zero_add,<- p3]
  ·rw[<- Array.length_toList,hxc,hlen]
theorem PU(st:StW C σ a w ρ Fe Fb){G:Nat->Prop}{l0:List D}(hG:∀ b,gd C Fe Fb b->G b){ps:List (Nat×Operand)}{l l':List D}{S:List Nat}(h:EvO C.gl σ l0 ps l l' S) :
 ∀ (cs:Array Value) (F:List Nat),l.map D.sz=l0.map D.sz->Rc w ρ G (fun id=>(σ.box id).isSome=true) false (.agg l) cs.toList F->F.Nodup->(∀ s∈S,∀ b∈Fe s,b∉F) ->
  ∃ (out:Array Value) (F':List Nat),Instr.fill ((offl l0 0).toArray[·]?) cs (ps.map (fun p=>(p.1,a.eval p.2)))=some out/\Rc w ρ G (fun id=>(σ.box id).isSome=true) false (.agg l') out.toList F'/\F'.Nodup/\∀ b∈F',b∈F∨∃ s∈S,b∈Fe s:=by
 induction h with
 | nil h=>subst h;intro cs F _ hr hF _;exact⟨cs,F,rfl,hr,hF,fun b hb=>.inl hb⟩
 | @pur i x d ps l l' S h hp hn hz t ih=>
  intro cs F hzz hr hF hS;obtain⟨xc,hxc,hrc⟩:=P2 st h hp;have hrc2:=(hrc.unflag hn).mono (G':=G) (L':=fun id=>(σ.box id).isSome=true) (ρ':=ρ) (fun _ _ _=>rfl) (fun b hb _=>hG b hb) (fun i hi=>⟨hi,rfl⟩);obtain⟨out,F',e1,e2,e3,e4,e5,e6,e7⟩:=OT hxc hrc2 hzz hz hr hF List.nodup_nil (by simp);have e7':∀ b∈F',b∈F:=fun b hb=>(e7 b hb).resolve_right (by simp);obtain⟨out2,F2,f1,f2,f3,f4⟩:=ih out F' (set_sz hzz hz) e5 e6 (fun s hs b hb hb'=>hS s hs b hb (e7' b hb'));refine⟨out2,F2, ?_,f2,f3,fun b hb=>(f4 b hb).imp (e7' b) id⟩;simp only[List.map_cons,Instr.fill,e1,e2];rw[if_neg (by simp;omega),e4];exact f1
 | @own i s d ps l l' S h hr0 hn hz hs t ih=>
  intro cs F hzz hr hF hS;obtain⟨v,hv,hvr⟩:=(j2 hr0).1 (st.env _ _ h)
  have hdead:d≠.dead:=by rintro rfl;simp[D.isRef] at hr0
  have hrc:=hvr.cells hdead;have hrc2:=(hrc.unflag hn).mono (G':=G) (L':=fun id=>(σ.box id).isSome=true) (ρ':=ρ) (fun _ _ _=>rfl) (fun b hb _=>hG b hb) (fun i hi=>⟨hi,rfl⟩);obtain⟨out,F',e1,e2,e3,e4,e5,e6,e7⟩:=OT (v:=v) rfl hrc2 hzz hz hr hF (st.nodE s) (fun b hb=>hS s (by simp) b hb)
  have hs':s∉S:=by intro hm;rw[List.contains_iff_mem.2 hm] at hs;cases hs
  obtain⟨out2,F2,f1,f2,f3,f4⟩:=ih out F' (set_sz hzz hz) e5 e6 (fun s' hs1 b hb hb'=>by
   rcases e7 b hb' with h1|h1
   ·exact hS s' (List.mem_cons_of_mem _ hs1) b hb h1
   ·exact st.dEE s' s (fun e=>hs' (e▸hs1)) b hb h1)
  refine⟨out2,F2, ?_,f2,f3,fun b hb=>?_⟩
  ·simp only[List.map_cons,Instr.fill,w3 hv,e1,e2];rw[if_neg (by simp;omega),e4];exact f1
  ·rcases f4 b hb with h1|⟨s',hs1,h1⟩
   ·rcases e7 b h1 with h2|h2
    ·exact .inl h2
    ·exact .inr ⟨s,by simp,h2⟩
   ·exact .inr ⟨s',List.mem_cons_of_mem _ hs1,h1⟩
theorem EvO.there{gl:List (Nat×D)}{l0:List D}{ps:List (Nat×Operand)}{l l':List D}{S:List Nat}(h:EvO gl σ l0 ps l l' S):∀ s∈S,∃ d0,σ.get s=some d0:=by
 induction h with
 | nil=>intro s hs;cases hs
 | pur _ _ _ _ _ ih=>exact ih
 | own h _ _ _ _ _ ih=>
  intro s hs
  rcases List.mem_cons.1 hs with rfl|hs
  ·exact⟨_,h⟩
  ·exact ih s hs
theorem R.bldO{t:Nat}{ps:List (Nat×Operand)}{l l':List D}{S:List Nat}{ty rt:TypeId}[hT:BsT P ty l]
 (hps:EvO C.gl σ l ps l l' S) (hS:S.contains t=false) (ht:t<σ.n) :
 OpS P C ⟨some t,.build ty ps.toArray,rt,pos,aft,g⟩ σ ((Z6 σ S).set t (.agg l')):=by
 refine OpS.value fun a w ⟨ρ,Fe,Fb,st⟩=>?_;obtain⟨fs,it,zv,h1,h2,h3,h4,h5⟩:=hT.i
 have htS:t∉S:=by intro hm;rw[List.contains_iff_mem.2 hm] at hS;cases hS
 obtain⟨out,F,q1,q2,q3,q4⟩:=PU st (G:=gd C Fe Fb) (fun _ h=>h) hps zv.cells [] rfl (E4 _ _ _ _ _ _ h5) List.nodup_nil (by simp);have q4':∀ b∈F,∃ s∈S,b∈Fe s:=fun b hb=>(q4 b hb).resolve_left (by simp)
 have hps2:(ps.toArray.map fun x=>(x.1,a.eval x.2)).toList=ps.map (fun p=>(p.1,a.eval p.2)):=by simp
 refine⟨.agg out,w, ?_,ρ,_,Fb,st.takeL ht htS hps.there q3 q4' ((j2 rfl).2 ⟨.agg out,by rw[v7 a t _ t (by rw[st.size];exact ht)];simp, ?_⟩)⟩
 ·have:=run_build (P:=P) w ty (ps.toArray.map fun x=>(x.1,a.eval x.2)) out (by
   rw[hps2];simp only[Program.built,h1,h2,h3,h4]
   exact q1)
  unfold execOp;simp only[Sem.run_bind,this,Result.andThen_ok,Sem.run_pure]
 ·simp only[VR,D.isAgg,if_true];refine⟨out,rfl,(q2.flag).mono (fun _ _ _=>rfl) (fun b hb _=>⟨hb.1,fun hc=>hb.2 ?_⟩) (fun i hi=>⟨hi,rfl⟩)⟩
  rcases hc with ⟨u,hu⟩|hid
  ·by_cases hut:u=t
   ·subst hut;rw[j3] at hu;obtain⟨s,_,hs⟩:=q4' b hu;exact .inl ⟨s,hs⟩
   ·rw[q8 hut] at hu;by_cases hus:u∈S
    ·simp[hus] at hu
    ·simp only[hus,if_false] at hu;exact .inl ⟨u,hu⟩
  ·exact .inr hid
theorem R.ldTake{p t id:Nat}{d:D}{ty n rt:TypeId}{gg:Bool}[LdT P ty n gg]
 (h:σ.get p=some (.ptr id 0 [])) (hb:σ.box id=some (.var d)) (hr:d.isRef=false) (hn:d.sz=n) (hg:d.isAgg=gg) (ht:t<σ.n) :
 OpS P C ⟨some t,.load ty (.tmp p),rt,pos,aft,g⟩ σ ((σ.putB id (.var (D.dds n))).set t d):=by
 refine OpS.value fun a w ⟨ρ,Fe,Fb,st⟩=>?_;obtain⟨v,hv,hrp⟩:=(j2 rfl).1 (st.env _ _ h);simp only[VR,D.isAgg,Bool.false_eq_true,if_false] at hrp;generalize Fe p=F at hrp;cases hrp;obtain⟨cs,e,F',q1,q2,q3⟩:=st.bx _ _ hb
 have hnd:(ρ id::F').Nodup:=by have:=st.nodB id;rw[q3] at this;exact this
 obtain⟨hn1,hn2⟩:=List.nodup_cons.1 hnd;have hlen:=q2.len
 have htk:(cs.toList.drop 0).take d.sz=cs.toList:=by rw[<- hlen,List.drop_zero];exact List.take_length
 obtain⟨vv,hrun,hvr⟩:=U1 (P:=P) (ty:=ty) (G:=gd C Fe Fb) (L:=fun i=>(σ.box i).isSome=true) (ρ:=ρ) (p:=true) (off:=0) q1 (by rw[htk];exact q2) (by simp at hlen;omega) hn hg
 have hsz:t<a.tmps.size:=by rw[st.size];exact ht
 have hFb:∀ i,∀ b∈upd Fb id [ρ id] i,b∈Fb i:=fun i b hb=>by
  by_cases hii:i=id
  ·subst hii;rw[j3] at hb;simp at hb;subst hb;rw[q3];simp
  ·rw[q8 hii] at hb;exact hb
 have hFin:∀ b∈F',b∈Fb id:=fun b hb=>by rw[q3];exact List.mem_cons_of_mem _ hb
 have ho:∀ b,own (upd Fe t F') (upd Fb id [ρ id]) b->own Fe Fb b:=by
  rintro b (⟨u,hu⟩|⟨i,hi⟩)
  ·by_cases hut:u=t
   ·subst hut;rw[j3] at hu;exact .inr ⟨id,hFin b hu⟩
   ·rw[q8 hut] at hu;exact .inl ⟨u,hu⟩
  ·exact .inr ⟨i,hFb i b hi⟩
 have hgd:∀ b,gd C Fe Fb b->gd C (upd Fe t F') (upd Fb id [ρ id]) b:=fun b hb=>⟨hb.1,fun hc=>hb.2 (ho b hc)⟩
 have hbox:∀ i,((σ.putB id (.var (D.dds n))).set t d).box i=if i=id then some (.var (D.dds n)) else σ.box i:=fun i=>by
  rw[box_set,F9];by_cases hi:i=id
  ·subst hi;simp[hb]
  ·simp[hi]
 have hLf:(fun i=>((((σ.putB id (.var (D.dds n))).set t d).box i)).isSome=true)=fun i=>(σ.box i).isSome=true:=by
  funext i;rw[hbox]
  by_cases hi:i=id
  ·subst hi;simp[hb]
  ·simp[hi]
 have hFnot:∀ u,∀ b∈Fe u,b∉F':=fun u b hb hb'=>st.dEB u id b hb (hFin b hb')
 refine⟨vv,w, ?_,ρ,upd Fe t F',upd Fb id [ρ id],{
  size:=by simp[Act.put,st.size]
  defs:=st.defs
  pin:=fun i b hp=>⟨(st.pin i b hp).1,by
   have:=(st.pin i b hp).2;rw[hbox];by_cases hi:i=id
   ·simp[hi]
   ·simpa [hi] using this⟩
  env:=fun u x hx=>?_
  envN:=fun u hu=>?_
  bx:=fun i x hx=>?_
  bxN:=fun i hx=>?_
  nodE:=fun u=>?_
  nodB:=fun i=>?_
  dEE:=fun u u' huu b hb hb'=>?_
  dEB:=fun u i b hb hb'=>?_
  dBB:=fun i i' hne b h1 h2=>st.dBB i i' hne b (hFb i b h1) (hFb i' b h2)
  new:=fun b hb=>st.new b (ho b hb)
  kept:=st.kept
  os:=st.os
  tape:=⟨st.tape.tp,st.tape.dr⟩
  output:=st.output
  grown:=st.grown
  gl:=st.gl
  okN:=st.okN
  okO:=fun b hb=>st.okO b (ho b hb) }⟩
 ·unfold execOp;simp[w3 hv,Instr.loadAt,Instr.sureAddr,hrun]
 ·rw[hLf];rw[m7] at hx;by_cases hut:u=t
  ·subst hut;simp at hx;subst hx;rw[j3];exact(j2 hr).2 ⟨vv,by rw[v7 a u _ u hsz];simp,hvr.mono (fun _ _ _=>rfl) (fun b hb _=>hgd b hb) (fun i hi=>⟨hi,rfl⟩)⟩
  ·simp only[hut,if_false] at hx;obtain⟨d1,hd1,rfl⟩:=Option.map_eq_some_iff.1 hx;rw[Y2] at hd1;obtain⟨d2,hd2,rfl⟩:=Option.map_eq_some_iff.1 hd1;rw[q8 hut];have h1:=SR_box (id:=id) (st.env u d2 hd2) (w':=w) (fun _ _ _=>rfl) (fun b hb _=>hgd b hb) (fun i hi=>hi) (fun _ _ _ _ _ h=>h);exact O7 hut hsz h1 (fun _ _ _=>rfl) (fun b hb _=>hb) (fun id hid=>⟨hid,rfl⟩) (fun _ _ _ _ h=>h)
 ·rw[m7] at hu;by_cases hut:u=t
  ·simp[hut] at hu
  ·simp only[hut,if_false,Option.map_eq_none_iff] at hu;rw[Y2,Option.map_eq_none_iff] at hu;rw[q8 hut];exact st.envN u hu
 ·rw[hLf];rw[hbox] at hx;by_cases hi:i=id
  ·subst hi;simp only[if_true,Option.some.injEq] at hx;subst hx;rw[j3,<- hn];exact⟨cs,e,[],q1,q2.dds,rfl⟩
  ·simp only[hi,if_false] at hx;rw[q8 hi];exact(st.bx i x hx).mono (fun _ _ _=>rfl) (fun b hb _=>hgd b hb) (fun j hj=>⟨hj,rfl⟩)
 ·rw[hbox] at hx;by_cases hi:i=id
  ·simp[hi] at hx
  ·simp only[hi,if_false] at hx;rw[q8 hi];exact st.bxN i hx
 ·by_cases hut:u=t
  ·subst hut;rw[j3];exact hn2
  ·rw[q8 hut];exact st.nodE u
 ·by_cases hi:i=id
  ·subst hi;rw[j3];simp
  ·rw[q8 hi];exact st.nodB i
 ·by_cases hut:u=t
  ·subst hut;rw[j3] at hb;rw[q8 (fun e=>huu e.symm)] at hb';exact hFnot u' b hb' hb
  ·rw[q8 hut] at hb;by_cases hut':u'=t
   ·subst hut';rw[j3] at hb';exact hFnot u b hb hb'
   ·rw[q8 hut'] at hb';exact st.dEE u u' huu b hb hb'
 ·by_cases hut:u=t
  ·subst hut;rw[j3] at hb;by_cases hi:i=id
   ·subst hi;rw[j3] at hb';simp at hb';subst hb';exact hn1 hb
   ·rw[q8 hi] at hb';exact st.dBB id i (fun e=>hi e.symm) b (hFin b hb) hb'
  ·rw[q8 hut] at hb;exact st.dEB u i b hb (hFb i b hb')
end Go.Sx

namespace Go.Sx
variable{P:Program}{C:Ctx}{σ σ' σ1:Sg}{a:Act}{w w':World}{ρ:Nat->Nat}{Fe Fe' Fb:Nat->List Nat}
inductive Wk:D->D->Prop
 | refl (d:D):Wk d d
 | nils (o:Option Nat) (z:Nat):Wk .nils (.sl o z [])
 | agg {l l':List D} (hn:l.length=l'.length) (h:∀ k (h:k<l.length) (h':k<l'.length),Wk l[k] l'[k]):Wk (.agg l) (.agg l')
 | sl {o:Option Nat} {z:Nat} {l l':List D} (hn:l.length=l'.length) (h:∀ k (h:k<l.length) (h':k<l'.length),Wk l[k] l'[k]):Wk (.sl o z l) (.sl o z l')
inductive WkL:List D->List D->Prop
 | nil:WkL [] []
 | cons {d d':D} {l l':List D} (h:Wk d d') (t:WkL l l'):WkL (d::l) (d'::l')
theorem WkL.len{l l':List D}(h:WkL l l'):l.length=l'.length:=by
 induction h with
 | nil=>rfl
 | cons _ _ ih=>simp[ih]
theorem WkL.get{l l':List D}(h:WkL l l'):∀ k (h:k<l.length) (h':k<l'.length),Wk l[k] l'[k]:=by
 induction h with
 | nil=>intro k h;simp at h
 | cons h _ ih=>
  intro k hk hk'
  cases k with
  | zero=>exact h
  | succ k=>exact ih k (by simpa using hk) (by simpa using hk')
theorem Wk.aggL{l l':List D}(h:WkL l l'):Wk (.agg l) (.agg l'):=.agg h.len h.get
theorem Wk.slL{o:Option Nat}{z:Nat}{l l':List D}(h:WkL l l'):Wk (.sl o z l) (.sl o z l'):=.sl h.len h.get
theorem EX{l l':List D}(hn:l.length=l'.length)(h:∀ k (h:k<l.length) (h':k<l'.length),l'[k].sz=l[k].sz):D.szs l'=D.szs l:=by
 induction l generalizing l' with
 | nil=>cases l' with
  | nil=>rfl
  | cons _ _=>simp at hn
 | cons x r ih=>cases l' with
  | nil=>simp at hn
  | cons x' r'=>
   have h0:=h 0 (by simp) (by simp);simp only[List.getElem_cons_zero] at h0;simp only[K5,h0];rw[ih (by simpa using hn) (fun k h1 h2=>h (k+1) (by simpa using h1) (by simpa using h2))]
theorem offk_eq{l l':List D}(hn:l.length=l'.length)(h:∀ k (h:k<l.length) (h':k<l'.length),l'[k].sz=l[k].sz)(k:Nat):offk l' k=offk l k:=by
 unfold offk;exact EX (by simp[hn]) (fun j h1 h2=>by simp only[List.getElem_take];exact h j (by simp at h1;omega) (by simp at h2;omega))
theorem Wk.sz{d d':D}(h:Wk d d'):d'.sz=d.sz:=by
 induction h with
 | refl=>rfl
 | nils=>rfl
 | agg hn h ih=>simp only[E0];exact EX hn ih
 | sl=>rfl
theorem Rc.wk{G L:Nat->Prop}{d d':D}(hw:Wk d d'):∀ {p:Bool} {cs:List Value} {F:List Nat},Rc w ρ G L p d cs F->Rc w ρ G L p d' cs F:=by
 induction hw with
 | refl=>intro p cs F h;exact h
 | nils o z=>intro p cs F h;cases h;exact .slN o z
 | @agg l l' hn h ih=>
  intro p cs F hr
  cases hr with
  | agg _ _ Fs hs hr=>
   have hz:∀ k (h:k<l.length) (h':k<l'.length),l'[k].sz=l[k].sz:=fun k h1 h2=>(h k h1 h2).sz;rw[hn];refine .agg l' cs Fs (by rw[hs,EX hn hz]) (fun k hk=>?_);rw[offk_eq hn hz,hz k (by omega) hk];exact ih k (by omega) hk (hr k (by omega))
 | @sl o z l l' hn h ih=>
  intro p cs F hr
  cases hr with
  | slN=>rw[List.length_eq_zero_iff.1 hn.symm];exact .slN o z
  | slE _ _ a=>rw[List.length_eq_zero_iff.1 hn.symm];exact .slE o z a
  | slI b off cs e fz cap _ _ hb hG hc hs hr=>
   rw[hn];exact .slI b off cs e fz cap z l' hb hG (by omega) (by rw[<- hn];exact hs) (fun i hi=>ih i (by omega) hi (hr i (by omega)))
  | slO b cs e cap _ _ Fs hb hc hm hs ho1 hr=>
   rw[hn];exact .slO b cs e cap z l' Fs hb (by omega) hm hs ho1 (fun i hi=>ih i (by omega) hi (hr i (by omega)))
theorem SI{c:Code}{Q:Exit->Sg->Prop}(id:Nat){d d':D}{bx':List (Nat×Bx)}(hb:σ.box id=some (.var d))(hw:Wk d d')(hbx:setb id (.var d') σ.bx=bx')(k:W P C c Q ⟨σ.n,σ.env,bx'⟩):W P C c Q σ:=by
 subst hbx;exact fun a w hs=>k a w (St.viewB hb (fun w ρ G L cs F h=>h.wk hw) hs)
theorem Wk.isAgg{d d':D}(h:Wk d d'):d'.isAgg=d.isAgg:=by cases h<;>rfl
end Go.Sx

namespace Go.Sx
variable{P:Program}{C:Ctx}{σ σ' σ1:Sg}{a:Act}{w w':World}{ρ:Nat->Nat}{Fe Fe' Fb:Nat->List Nat}
end Go.Sx

namespace Go.Sx
variable{pos:String}{aft:Array Edge}{g:Option (Nat×Bool)}
theorem O{α:Sort _}{a:α}:a=a:=rfl
theorem Zt:True:=trivial
theorem dU{p:Prop}(h:p:=by decide):p:=h
theorem dT{p:Prop}[Decidable p](h:p):decide p=true:=decide_eq_true h
theorem dF{p:Prop}[Decidable p](h:¬ p):decide p=false:=decide_eq_false h
abbrev Bc:=@Bors.cons
abbrev Bn:=@Bors.nil
abbrev Bp:=@Bor.pur
theorem lN{α β:Type}{l:List α}(f:α->β):(l.map f).length=l.length:=List.length_map f
theorem nU{m n:Nat}(h:Nat.ble m n=true):m<=n:=Nat.le_of_ble_eq_true h
theorem bU{p:Prop}(h:p:=by first|omega|(simp only[List.length_map,List.length_append,List.length_cons,List.length_nil,List.length_take,List.length_drop,List.length_replicate];omega)|(simp;omega)):p:=h
theorem bV{x:Int}(h:0<=x:=by first|omega|(simp only[List.length_map,List.length_append,List.length_cons,List.length_nil,List.length_take,List.length_drop,List.length_replicate];omega)|(simp;omega)):0<=x:=h
theorem gU{σ:Sg}(n:Nat){d:D}(h:σ.get n=some d):σ.get n=some d:=h
theorem xU{σ:Sg}(n:Nat){d:Bx}(h:σ.box n=some d):σ.box n=some d:=h
theorem gV{gl:List (Nat×D)}{σ:Sg}(n:Nat){d:D}(h:σ.get n=some d):ev gl σ (.tmp n)=some d:=h
theorem eU{gl:List (Nat×D)}{τ:Sg}{f:Nat->Option D}(K:∀ u x,f u=some x->τ.get u=some x)(n:Nat){d:D}(h:f n=some d):ev gl τ (.tmp n)=some d:=K n d h
theorem kI{gl:List (Nat×D)}{σ:Sg}(n:Nat){i:Int}(h:ev gl σ (.const (.int .i64 i))=some (.int ((n:Nat):Int))):ev gl σ (.const (.int .i64 i))=some (.int ((n:Nat):Int)):=h
theorem kB{gl:List (Nat×D)}{σ:Sg}(b:Bool)(h:ev gl σ (.const (.bool b))=some (.bool b)):ev gl σ (.const (.bool b))=some (.bool b):=h
theorem kN{gl:List (Nat×D)}{σ:Sg}(h:ev gl σ (.const (.slice none 0 0))=some .nils):ev gl σ (.const (.slice none 0 0))=some .nils:=h
@[reducible] def It.y (n:Nat) (d:D):It:=⟨n,d,true⟩
@[reducible] def It.x (n:Nat):It:=⟨n,.dead,false⟩
section
variable{P:Program}{C:Ctx}{σ:Sg}{ops:List Oper}{an:List Nat}{ks kk:List (Nat×Nat)}{its:List It}
abbrev EntP(P:Program)(C:Ctx)(σ:Sg)(an:List Nat)(ks kk:List (Nat×Nat))(its:List It)(i:Nat)(o:Oper)(t:Nat)(d:D):Prop:=
 ∀ τ:Sg,(∀ id x,lk σ.bx id=some x->τ.box id=some x)->t<τ.n->(∀ u x,facts an ks σ.env its i u=some x->τ.get u=some x)->OpS P C o τ ((P0 τ kk i).set t d)
abbrev Ent(P:Program)(C:Ctx)(σ:Sg)(ops:List Oper)(an:List Nat)(ks kk:List (Nat×Nat))(its:List It)(i:Nat)(o:Oper)(t:Nat)(d:D)(wt:Bool):Prop:=
 o.dst=some t/\Wt ops (facts an ks σ.env its i) o wt/\(wt=true->∀ τ:Sg,(∀ id x,lk σ.bx id=some x->τ.box id=some x)->t<τ.n->(∀ u x,facts an ks σ.env its i u=some x->τ.get u=some x)->OpS P C o τ ((P0 τ kk i).set t d))
def A4(kk:List (Nat×Nat))(i:Nat):Bool:=kk.all fun x=>!Nat.beq x.1 i
theorem w8{τ:Sg}{i:Nat}:∀ {kk:List (Nat×Nat)},A4 kk i=true->P0 τ kk i=τ:=by
 intro kk
 induction kk with
 | nil=>intro _;rfl
 | cons y r ih=>
  obtain⟨k,s⟩:=y;intro h;simp only[A4,List.all_cons,Bool.and_eq_true,Bool.not_eq_true'] at h;rw[P0,h.1];exact ih h.2
theorem aU{i t:Nat}{d:D}{op:Op}{ty:TypeId}{pos:String}{aft:Array Edge}(f:EntP P C σ an ks kk its i ⟨some t,op,ty,pos,aft,none⟩ t d) :
 Ent P C σ ops an ks kk its i ⟨some t,op,ty,pos,aft,none⟩ t d true:=⟨rfl,rfl,fun _=>f⟩
theorem aW{i t g:Nat}{d:D}{op:Op}{ty:TypeId}{pos:String}{aft:Array Edge}{want b:Bool}{tg:Nat}(h1:(ops[g]?).bind (·.dst)=some tg)
 (h3:facts an ks σ.env its i tg=some (.bool b)) (h4:true=(b==want)) (f:EntP P C σ an ks kk its i ⟨some t,op,ty,pos,aft,some (g,want)⟩ t d) :
 Ent P C σ ops an ks kk its i ⟨some t,op,ty,pos,aft,some (g,want)⟩ t d true:=by
 obtain⟨og,h1,h2⟩:=Option.bind_eq_some_iff.1 h1;exact⟨rfl,⟨og,tg,h1,h2,.inl ⟨b,h3,h4⟩⟩,fun _=>f⟩
theorem aF{i t g:Nat}{op:Op}{ty:TypeId}{pos:String}{aft:Array Edge}{want b:Bool}{tg:Nat}(h1:(ops[g]?).bind (·.dst)=some tg)
 (h3:facts an ks σ.env its i tg=some (.bool b)) (h4:false=(b==want)) :
 Ent P C σ ops an ks kk its i ⟨some t,op,ty,pos,aft,some (g,want)⟩ t .dead false:=by
 obtain⟨og,h1,h2⟩:=Option.bind_eq_some_iff.1 h1;exact⟨rfl,⟨og,tg,h1,h2,.inl ⟨b,h3,h4⟩⟩,fun h=>absurd h (by decide)⟩
theorem gT{b wt want:Bool}(h:b=true)(hw:wt=(true==want)):wt=(b==want):=gw h hw
theorem gF{b wt want:Bool}(h:b=false)(hw:wt=(false==want)):wt=(b==want):=gw h hw
theorem mU{i t:Nat}{d:D}{ty:TypeId}{pos:String}{aft:Array Edge}(s:Nat)(h:facts an ks σ.env its i s=some d)(hp:(d.pur&&A4 kk i)=true) :
 Ent P C σ ops an ks kk its i ⟨some t,.move (.tmp s),ty,pos,aft,none⟩ t d true:=by
 rw[Bool.and_eq_true] at hp;exact⟨rfl,rfl,fun _ τ _ H K=>by rw[w8 hp.2];exact R.mov (K s d h) hp.1 H⟩
theorem fU{i t id off off':Nat}{path:List Nat}{s f:Nat}{rt:TypeId}[FdT P s f off'](x:Nat)
 (h:facts an ks σ.env its i x=some (.ptr id off path)) (hk:A4 kk i=true):EntP P C σ an ks kk its i ⟨some t,.fieldAddr s (.tmp x) f,rt,pos,aft,g⟩ t (.ptr id (off+off') (path++[f])):=
 fun τ _ H K=>by rw[w8 hk];exact R.fdP (K _ _ h) H
theorem lU{i t id off:Nat}{path:List Nat}{d0 d:D}{ty n rt:TypeId}{gg:Bool}[LdT P ty n gg](p:Nat)
 (h:facts an ks σ.env its i p=some (.ptr id off path)) (hb:lk σ.bx id=some (.var d0)) (hl:d0.loc path=some (off,d)) (hp:d.pur=true) (hn:d.sz=n) (hg:d.isAgg=gg) (hk:A4 kk i=true) :
 EntP P C σ an ks kk its i ⟨some t,.load ty (.tmp p),rt,pos,aft,g⟩ t d:=
 fun τ B H K=>by rw[w8 hk];exact R.ldP (K _ _ h) (B _ _ hb) hl hp hn hg H
theorem tU{Q:Exit->Sg->Prop}(h:picks σ.get (σ.env.map (·.1))=σ.env)(q:Q .normal σ):TL P C Q [] σ:=⟨_,_,_,_,h,rfl,rfl,q⟩
theorem tV{Q:Exit->Sg->Prop}(e:List (Nat×D))(b:List (Nat×Bx))(n:Nat)(h:picks σ.get (e.map (·.1))=e)(h1:σ.bx=b)(h2:σ.n=n)(q:Q .normal ⟨n,e,b⟩):TL P C Q [] σ:=⟨_,_,_,_,h,h1,h2,q⟩
end
section
variable{P:Program}{C:Ctx}{σ:Sg}{ops:List Oper}{Q:Exit->Sg->Prop}
def okL(n:Nat)(m:Nat)(ks kk:List (Nat×Nat))(its:List It)(env:List (Nat×D))(l:Nat):Bool:=
 Nat.ble l m&&Nat.ble its.length l&&EL n (slots its)&&YK (B7 m 0) ks (slots its) its 0&&subs kk ks&&YJ (slots its) env
theorem W.l0{id:Nat}(m:Nat)(its:List It)(ks kk:List (Nat×Nat))(env':List (Nat×D))(bx':List (Nat×Bx))(n':Nat)
 (H:AllOps P C σ ops (B7 m 0) ks kk its ops its 0) (h:okL σ.n m ks kk its σ.env ops.length=true) (hE:picks (afts (B7 m 0) (fun _=>true) ks σ.env its) (env'.map (·.1))=env')
 (hb:σ.bx=bx') (hn':σ.n=n') (hT:TL P C Q (ops.drop its.length) ⟨n',env',bx'⟩):W P C (.region id ops.toArray false) Q σ:=by
 unfold okL at h;simp only[Bool.and_eq_true] at h;exact JX (Nat.le_of_ble_eq_true h.1.1.1.1.1) ⟨Nat.le_of_ble_eq_true h.1.1.1.1.2,h.1.1.1.2,H,h.1.1.2,h.1.2,h.2⟩ hE hb hn' hT
end
end Go.Sx

namespace Go.Sx
abbrev y1(a0:Nat){x0:D}:List It:=[.y a0 x0]
abbrev y2(a0 a1:Nat){x0 x1:D}:List It:=[.y a0 x0,.y a1 x1]
abbrev y3(a0 a1 a2:Nat){x0 x1 x2:D}:List It:=[.y a0 x0,.y a1 x1,.y a2 x2]
abbrev y4(a0 a1 a2 a3:Nat){x0 x1 x2 x3:D}:List It:=[.y a0 x0,.y a1 x1,.y a2 x2,.y a3 x3]
abbrev y5(a0 a1 a2 a3 a4:Nat){x0 x1 x2 x3 x4:D}:List It:=[.y a0 x0,.y a1 x1,.y a2 x2,.y a3 x3,.y a4 x4]
abbrev y6(a0 a1 a2 a3 a4 a5:Nat){x0 x1 x2 x3 x4 x5:D}:List It:=[.y a0 x0,.y a1 x1,.y a2 x2,.y a3 x3,.y a4 x4,.y a5 x5]
abbrev y7(a0 a1 a2 a3 a4 a5 a6:Nat){x0 x1 x2 x3 x4 x5 x6:D}:List It:=[.y a0 x0,.y a1 x1,.y a2 x2,.y a3 x3,.y a4 x4,.y a5 x5,.y a6 x6]
abbrev y8(a0 a1 a2 a3 a4 a5 a6 a7:Nat){x0 x1 x2 x3 x4 x5 x6 x7:D}:List It:=[.y a0 x0,.y a1 x1,.y a2 x2,.y a3 x3,.y a4 x4,.y a5 x5,.y a6 x6,.y a7 x7]
abbrev y9(a0 a1 a2 a3 a4 a5 a6 a7 a8:Nat){x0 x1 x2 x3 x4 x5 x6 x7 x8:D}:List It:=[.y a0 x0,.y a1 x1,.y a2 x2,.y a3 x3,.y a4 x4,.y a5 x5,.y a6 x6,.y a7 x7,.y a8 x8]
abbrev y10(a0 a1 a2 a3 a4 a5 a6 a7 a8 a9:Nat){x0 x1 x2 x3 x4 x5 x6 x7 x8 x9:D}:List It:=[.y a0 x0,.y a1 x1,.y a2 x2,.y a3 x3,.y a4 x4,.y a5 x5,.y a6 x6,.y a7 x7,.y a8 x8,.y a9 x9]
abbrev y11(a0 a1 a2 a3 a4 a5 a6 a7 a8 a9 a10:Nat){x0 x1 x2 x3 x4 x5 x6 x7 x8 x9 x10:D}:List It:=[.y a0 x0,.y a1 x1,.y a2 x2,.y a3 x3,.y a4 x4,.y a5 x5,.y a6 x6,.y a7 x7,.y a8 x8,.y a9 x9,.y a10 x10]
abbrev y12(a0 a1 a2 a3 a4 a5 a6 a7 a8 a9 a10 a11:Nat){x0 x1 x2 x3 x4 x5 x6 x7 x8 x9 x10 x11:D}:List It:=[.y a0 x0,.y a1 x1,.y a2 x2,.y a3 x3,.y a4 x4,.y a5 x5,.y a6 x6,.y a7 x7,.y a8 x8,.y a9 x9,.y a10 x10,.y a11 x11]
abbrev y13(a0 a1 a2 a3 a4 a5 a6 a7 a8 a9 a10 a11 a12:Nat){x0 x1 x2 x3 x4 x5 x6 x7 x8 x9 x10 x11 x12:D}:List It:=[.y a0 x0,.y a1 x1,.y a2 x2,.y a3 x3,.y a4 x4,.y a5 x5,.y a6 x6,.y a7 x7,.y a8 x8,.y a9 x9,.y a10 x10,.y a11 x11,.y a12 x12]
abbrev y14(a0 a1 a2 a3 a4 a5 a6 a7 a8 a9 a10 a11 a12 a13:Nat){x0 x1 x2 x3 x4 x5 x6 x7 x8 x9 x10 x11 x12 x13:D}:List It:=[.y a0 x0,.y a1 x1,.y a2 x2,.y a3 x3,.y a4 x4,.y a5 x5,.y a6 x6,.y a7 x7,.y a8 x8,.y a9 x9,.y a10 x10,.y a11 x11,.y a12 x12,.y a13 x13]
abbrev y19(a0 a1 a2 a3 a4 a5 a6 a7 a8 a9 a10 a11 a12 a13 a14 a15 a16 a17 a18:Nat){x0 x1 x2 x3 x4 x5 x6 x7 x8 x9 x10 x11 x12 x13 x14 x15 x16 x17 x18:D}:List It:=[.y a0 x0,.y a1 x1,.y a2 x2,.y a3 x3,.y a4 x4,.y a5 x5,.y a6 x6,.y a7 x7,.y a8 x8,.y a9 x9,.y a10 x10,.y a11 x11,.y a12 x12,.y a13 x13,.y a14 x14,.y a15 x15,.y a16 x16,.y a17 x17,.y a18 x18]
abbrev y20(a0 a1 a2 a3 a4 a5 a6 a7 a8 a9 a10 a11 a12 a13 a14 a15 a16 a17 a18 a19:Nat){x0 x1 x2 x3 x4 x5 x6 x7 x8 x9 x10 x11 x12 x13 x14 x15 x16 x17 x18 x19:D}:List It:=[.y a0 x0,.y a1 x1,.y a2 x2,.y a3 x3,.y a4 x4,.y a5 x5,.y a6 x6,.y a7 x7,.y a8 x8,.y a9 x9,.y a10 x10,.y a11 x11,.y a12 x12,.y a13 x13,.y a14 x14,.y a15 x15,.y a16 x16,.y a17 x17,.y a18 x18,.y a19 x19]
abbrev V1(a0:Nat){x0:D}:List (Nat×D):=[(a0,x0)]
abbrev V2(a0 a1:Nat){x0 x1:D}:List (Nat×D):=[(a0,x0),(a1,x1)]
abbrev V3(a0 a1 a2:Nat){x0 x1 x2:D}:List (Nat×D):=[(a0,x0),(a1,x1),(a2,x2)]
abbrev V4(a0 a1 a2 a3:Nat){x0 x1 x2 x3:D}:List (Nat×D):=[(a0,x0),(a1,x1),(a2,x2),(a3,x3)]
abbrev V5(a0 a1 a2 a3 a4:Nat){x0 x1 x2 x3 x4:D}:List (Nat×D):=[(a0,x0),(a1,x1),(a2,x2),(a3,x3),(a4,x4)]
abbrev V6(a0 a1 a2 a3 a4 a5:Nat){x0 x1 x2 x3 x4 x5:D}:List (Nat×D):=[(a0,x0),(a1,x1),(a2,x2),(a3,x3),(a4,x4),(a5,x5)]
abbrev V7(a0 a1 a2 a3 a4 a5 a6:Nat){x0 x1 x2 x3 x4 x5 x6:D}:List (Nat×D):=[(a0,x0),(a1,x1),(a2,x2),(a3,x3),(a4,x4),(a5,x5),(a6,x6)]
abbrev V8(a0 a1 a2 a3 a4 a5 a6 a7:Nat){x0 x1 x2 x3 x4 x5 x6 x7:D}:List (Nat×D):=[(a0,x0),(a1,x1),(a2,x2),(a3,x3),(a4,x4),(a5,x5),(a6,x6),(a7,x7)]
abbrev V9(a0 a1 a2 a3 a4 a5 a6 a7 a8:Nat){x0 x1 x2 x3 x4 x5 x6 x7 x8:D}:List (Nat×D):=[(a0,x0),(a1,x1),(a2,x2),(a3,x3),(a4,x4),(a5,x5),(a6,x6),(a7,x7),(a8,x8)]
abbrev AS(a0 a1 a2 a3 a4 a5 a6 a7 a8 a9:Nat){x0 x1 x2 x3 x4 x5 x6 x7 x8 x9:D}:List (Nat×D):=[(a0,x0),(a1,x1),(a2,x2),(a3,x3),(a4,x4),(a5,x5),(a6,x6),(a7,x7),(a8,x8),(a9,x9)]
abbrev WM(a0 a1 a2 a3 a4 a5 a6 a7 a8 a9 a10:Nat){x0 x1 x2 x3 x4 x5 x6 x7 x8 x9 x10:D}:List (Nat×D):=[(a0,x0),(a1,x1),(a2,x2),(a3,x3),(a4,x4),(a5,x5),(a6,x6),(a7,x7),(a8,x8),(a9,x9),(a10,x10)]
abbrev V12(a0 a1 a2 a3 a4 a5 a6 a7 a8 a9 a10 a11:Nat){x0 x1 x2 x3 x4 x5 x6 x7 x8 x9 x10 x11:D}:List (Nat×D):=[(a0,x0),(a1,x1),(a2,x2),(a3,x3),(a4,x4),(a5,x5),(a6,x6),(a7,x7),(a8,x8),(a9,x9),(a10,x10),(a11,x11)]
abbrev V13(a0 a1 a2 a3 a4 a5 a6 a7 a8 a9 a10 a11 a12:Nat){x0 x1 x2 x3 x4 x5 x6 x7 x8 x9 x10 x11 x12:D}:List (Nat×D):=[(a0,x0),(a1,x1),(a2,x2),(a3,x3),(a4,x4),(a5,x5),(a6,x6),(a7,x7),(a8,x8),(a9,x9),(a10,x10),(a11,x11),(a12,x12)]
abbrev V14(a0 a1 a2 a3 a4 a5 a6 a7 a8 a9 a10 a11 a12 a13:Nat){x0 x1 x2 x3 x4 x5 x6 x7 x8 x9 x10 x11 x12 x13:D}:List (Nat×D):=[(a0,x0),(a1,x1),(a2,x2),(a3,x3),(a4,x4),(a5,x5),(a6,x6),(a7,x7),(a8,x8),(a9,x9),(a10,x10),(a11,x11),(a12,x12),(a13,x13)]
abbrev V15(a0 a1 a2 a3 a4 a5 a6 a7 a8 a9 a10 a11 a12 a13 a14:Nat){x0 x1 x2 x3 x4 x5 x6 x7 x8 x9 x10 x11 x12 x13 x14:D}:List (Nat×D):=[(a0,x0),(a1,x1),(a2,x2),(a3,x3),(a4,x4),(a5,x5),(a6,x6),(a7,x7),(a8,x8),(a9,x9),(a10,x10),(a11,x11),(a12,x12),(a13,x13),(a14,x14)]
abbrev V16(a0 a1 a2 a3 a4 a5 a6 a7 a8 a9 a10 a11 a12 a13 a14 a15:Nat){x0 x1 x2 x3 x4 x5 x6 x7 x8 x9 x10 x11 x12 x13 x14 x15:D}:List (Nat×D):=[(a0,x0),(a1,x1),(a2,x2),(a3,x3),(a4,x4),(a5,x5),(a6,x6),(a7,x7),(a8,x8),(a9,x9),(a10,x10),(a11,x11),(a12,x12),(a13,x13),(a14,x14),(a15,x15)]
abbrev b1(a0:Nat){x0:D}:List (Nat×Bx):=[(a0,.var x0)]
abbrev b2(a0 a1:Nat){x0 x1:D}:List (Nat×Bx):=[(a0,.var x0),(a1,.var x1)]
abbrev b3(a0 a1 a2:Nat){x0 x1 x2:D}:List (Nat×Bx):=[(a0,.var x0),(a1,.var x1),(a2,.var x2)]
abbrev b4(a0 a1 a2 a3:Nat){x0 x1 x2 x3:D}:List (Nat×Bx):=[(a0,.var x0),(a1,.var x1),(a2,.var x2),(a3,.var x3)]
abbrev b5(a0 a1 a2 a3 a4:Nat){x0 x1 x2 x3 x4:D}:List (Nat×Bx):=[(a0,.var x0),(a1,.var x1),(a2,.var x2),(a3,.var x3),(a4,.var x4)]
abbrev b6(a0 a1 a2 a3 a4 a5:Nat){x0 x1 x2 x3 x4 x5:D}:List (Nat×Bx):=[(a0,.var x0),(a1,.var x1),(a2,.var x2),(a3,.var x3),(a4,.var x4),(a5,.var x5)]
abbrev b7(a0 a1 a2 a3 a4 a5 a6:Nat){x0 x1 x2 x3 x4 x5 x6:D}:List (Nat×Bx):=[(a0,.var x0),(a1,.var x1),(a2,.var x2),(a3,.var x3),(a4,.var x4),(a5,.var x5),(a6,.var x6)]
abbrev b8(a0 a1 a2 a3 a4 a5 a6 a7:Nat){x0 x1 x2 x3 x4 x5 x6 x7:D}:List (Nat×Bx):=[(a0,.var x0),(a1,.var x1),(a2,.var x2),(a3,.var x3),(a4,.var x4),(a5,.var x5),(a6,.var x6),(a7,.var x7)]
theorem kW{gl:List (Nat×D)}{σ:Sg}(v:Value)(d:D)(h:ev gl σ (.const v)=some d):ev gl σ (.const v)=some d:=h
abbrev F1:=@FrsR.one
theorem mG{α:Type}[Inhabited α]{f:α->D}(l:List α){i:Nat}(h:i<l.length:=by first|omega|(simp only[List.length_map,List.length_append,List.length_cons,List.length_nil,List.length_take,List.length_drop,List.length_replicate];omega)|(simp;omega)):(l.map f)[i]? = some (f l[i]!):=j4 h
theorem bO{p:Prop}(h:p:=by omega):p:=h
section
variable{P:Program}{C:Ctx}{σ:Sg}{ops:List Oper}{an:List Nat}{ks kk:List (Nat×Nat)}{its:List It}{i t:Nat}{d:D}{ty xt yt rt:TypeId}{pos:String}{aft:Array Edge}{g:Option (Nat×Bool)}{s s' z n m off:Nat}{path:List Nat}{o:Option Nat}{l:List D}
abbrev FF(σ:Sg)(an:List Nat)(ks:List (Nat×Nat))(its:List It)(i s:Nat)(d:D):Prop:=facts an ks σ.env its i s=some d
abbrev EO(P:Program)(C:Ctx)(σ:Sg)(an:List Nat)(ks kk:List (Nat×Nat))(its:List It)(i t:Nat)(op:Op)(rt:TypeId)(pos:String)(aft:Array Edge)(g:Option (Nat×Bool))(d:D):Prop:=EntP P C σ an ks kk its i ⟨some t,op,rt,pos,aft,g⟩ t d
theorem zA(h:FF σ an ks its i s d)(hp:d.pur=true)(hk:A4 kk i=true):EO P C σ an ks kk its i t (.assign (.tmp s)) rt pos aft g d:=
 fun τ _ H K=>by rw[w8 hk];exact v3 (K _ _ h) hp H
theorem zK{v:Value}(h:ev C.gl σ (.const v)=some d)(hp:d.pur=true)(hk:A4 kk i=true):EO P C σ an ks kk its i t (.assign (.const v)) rt pos aft g d:=
 fun τ _ H K=>by rw[w8 hk];exact v3 (show ev C.gl τ (.const v)=some d from h) hp H
theorem S3{v:Value}(h:ev C.gl σ (.const v)=some d)(hp:d.pur=true)(hk:A4 kk i=true):EO P C σ an ks kk its i t (.move (.const v)) rt pos aft g d:=
 fun τ _ H K=>by rw[w8 hk];exact R.mov (show ev C.gl τ (.const v)=some d from h) hp H
theorem zL{d0:D}{p i0:Nat}{n:TypeId}{gg:Bool}[LdT P ty n gg](h:FF σ an ks its i p (.ep s z i0 off path))(hs:FF σ an ks its i s (.sl o z l))(hi:l[i0]? = some d0)(hl:d0.loc path=some (off,d))(hp:d.pur=true)(hn:d.sz=n)(hg:d.isAgg=gg)(hk:A4 kk i=true) :
 EO P C σ an ks kk its i t (.load ty (.tmp p)) rt pos aft g d:=fun τ _ H K=>by rw[w8 hk];exact R.ldE (K _ _ h) (SC.sl (K _ _ hs)) hi hl hp hn hg H
theorem I8{d0:D}{p i0:Nat}{n:TypeId}{gg:Bool}[LdT P ty n gg](h:FF σ an ks its i p (.ep s z i0 off path))(hs:FF σ an ks its i s (.al s'))(hs':FF σ an ks its i s' (.sl o z l))(hi:l[i0]? = some d0)(hl:d0.loc path=some (off,d))(hp:d.pur=true)(hn:d.sz=n)(hg:d.isAgg=gg)(hk:A4 kk i=true) :
 EO P C σ an ks kk its i t (.load ty (.tmp p)) rt pos aft g d:=fun τ _ H K=>by rw[w8 hk];exact R.ldE (K _ _ h) (SC.al (K _ _ hs) (K _ _ hs')) hi hl hp hn hg H
theorem zI{z:Nat}{n:Int}{x:Nat}{e b:Nat}[hT:SlT P ty e][hE:ElT P e z b](k:Nat)(h:FF σ an ks its i s (.sl o z l))(hi:FF σ an ks its i x (.int n))(hk:n=(k:Int))(h1:k<l.length)(hk2:A4 kk i=true)(hst:s≠t:=by decide) :
 EO P C σ an ks kk its i t (.indexAddr ty (.tmp s) (.tmp x)) rt pos aft g (.ep s z k 0 []):=fun τ _ H K=>by rw[w8 hk2];exact R.idxN k (SC.sl (K _ _ h)) (m2 (evt (K _ _ hi))) hk h1 H hst
theorem t3{z:Nat}{n:Int}{x:Nat}{e b:Nat}[hT:SlT P ty e][hE:ElT P e z b](k:Nat)(h:FF σ an ks its i s (.al s'))(h':FF σ an ks its i s' (.sl o z l))(hi:FF σ an ks its i x (.int n))(hk:n=(k:Int))(h1:k<l.length)(hk2:A4 kk i=true)(hst:s≠t:=by decide) :
 EO P C σ an ks kk its i t (.indexAddr ty (.tmp s) (.tmp x)) rt pos aft g (.ep s z k 0 []):=fun τ _ H K=>by rw[w8 hk2];exact R.idxN k (SC.al (K _ _ h) (K _ _ h')) (m2 (evt (K _ _ hi))) hk h1 H hst
theorem PW{e b m id z:Nat}{n:Int}{x:Nat}[hT:ArT P ty m e][hE:ElT P e z b](k:Nat)(h:FF σ an ks its i s (.ptr id off path))(hi:FF σ an ks its i x (.int n))(hk:n=(k:Int))(h1:k<m)(hk2:A4 kk i=true) :
 EO P C σ an ks kk its i t (.indexAddr ty (.tmp s) (.tmp x)) rt pos aft g (.ptr id (off+k*z) (path++[k])):=fun τ _ H K=>by rw[w8 hk2];exact R.idxP k (K _ _ h) (m2 (evt (K _ _ hi))) hk h1 H
theorem zN{e:Nat}[hT:SlT P ty e](h:FF σ an ks its i s (.sl o z l))(hl:l.length=n)(hk:A4 kk i=true):EO P C σ an ks kk its i t (.call { callee:=.builtin .len,args:=#[.tmp s],argTypes:=#[ty] }) rt pos aft g (.int ((n:Nat):Int)):=
 fun τ _ H K=>by rw[w8 hk];exact GI (SC.sl (K _ _ h)) hl H
theorem UG{e:Nat}[hT:SlT P ty e](h:FF σ an ks its i s (.al s'))(h':FF σ an ks its i s' (.sl o z l))(hl:l.length=n)(hk:A4 kk i=true):EO P C σ an ks kk its i t (.call { callee:=.builtin .len,args:=#[.tmp s],argTypes:=#[ty] }) rt pos aft g (.int ((n:Nat):Int)):=
 fun τ _ H K=>by rw[w8 hk];exact GI (SC.al (K _ _ h) (K _ _ h')) hl H
theorem zM{e:Nat}(h:FF σ an ks its i s (.sl (some e) z l))(hk:A4 kk i=true)(hst:s≠t:=by decide):EO P C σ an ks kk its i t (.move (.tmp s)) rt pos aft g (.al s):=
 fun τ _ H K=>by rw[w8 hk];exact R.al (K _ _ h) H hst
theorem zP{x y:Nat}(hx:FF σ an ks its i x (.int ((m:Nat):Int)))(hy:FF σ an ks its i y (.int ((n:Nat):Int)))(q0:m+n<9223372036854775808)(hk:A4 kk i=true):EO P C σ an ks kk its i t (.binOp .add xt (.tmp x) (.tmp y) yt) rt pos aft g (.int ((m+n:Nat):Int)):=
 fun τ _ H K=>by rw[w8 hk];exact IS m n (evt (K _ _ hx)) (evt (K _ _ hy)) q0 H
theorem m8{x:Nat}{v:Value}(n:Nat)(hx:FF σ an ks its i x (.int ((m:Nat):Int)))(hy:ev C.gl σ (.const v)=some (.int ((n:Nat):Int)))(q0:m+n<9223372036854775808)(hk:A4 kk i=true):EO P C σ an ks kk its i t (.binOp .add xt (.tmp x) (.const v) yt) rt pos aft g (.int ((m+n:Nat):Int)):=
 fun τ _ H K=>by rw[w8 hk];exact IS m n (evt (K _ _ hx)) (show ev C.gl τ (.const v)=some _ from hy) q0 H
theorem zQ{x y:Nat}(hx:FF σ an ks its i x (.int ((m:Nat):Int)))(hy:FF σ an ks its i y (.int ((n:Nat):Int)))(q0:n<=m)(q1:m<9223372036854775808)(hk:A4 kk i=true):EO P C σ an ks kk its i t (.binOp .sub xt (.tmp x) (.tmp y) yt) rt pos aft g (.int ((m-n:Nat):Int)):=
 fun τ _ H K=>by rw[w8 hk];exact QX m n (evt (K _ _ hx)) (evt (K _ _ hy)) q0 q1 H
theorem GW{x:Nat}{v:Value}(n:Nat)(hx:FF σ an ks its i x (.int ((m:Nat):Int)))(hy:ev C.gl σ (.const v)=some (.int ((n:Nat):Int)))(q0:n<=m)(q1:m<9223372036854775808)(hk:A4 kk i=true):EO P C σ an ks kk its i t (.binOp .sub xt (.tmp x) (.const v) yt) rt pos aft g (.int ((m-n:Nat):Int)):=
 fun τ _ H K=>by rw[w8 hk];exact QX m n (evt (K _ _ hx)) (show ev C.gl τ (.const v)=some _ from hy) q0 q1 H
theorem zS{x y:Nat}(hx:FF σ an ks its i x (.int ((m:Nat):Int)))(hy:FF σ an ks its i y (.int ((n:Nat):Int)))(hk:A4 kk i=true):EO P C σ an ks kk its i t (.binOp .lss xt (.tmp x) (.tmp y) yt) rt pos aft g (.bool (decide (m<n))):=
 fun τ _ H K=>by rw[w8 hk];exact R.lssN m n (evt (K _ _ hx)) (evt (K _ _ hy)) H
theorem I7{x:Nat}{v:Value}(n:Nat)(hx:FF σ an ks its i x (.int ((m:Nat):Int)))(hy:ev C.gl σ (.const v)=some (.int ((n:Nat):Int)))(hk:A4 kk i=true):EO P C σ an ks kk its i t (.binOp .lss xt (.tmp x) (.const v) yt) rt pos aft g (.bool (decide (m<n))):=
 fun τ _ H K=>by rw[w8 hk];exact R.lssN m n (evt (K _ _ hx)) (show ev C.gl τ (.const v)=some _ from hy) H
theorem HQ{x:Nat}{v:Value}(n:Nat)(hx:FF σ an ks its i x (.int ((m:Nat):Int)))(hy:ev C.gl σ (.const v)=some (.int ((n:Nat):Int)))(hk:A4 kk i=true):EO P C σ an ks kk its i t (.binOp .gtr xt (.tmp x) (.const v) yt) rt pos aft g (.bool (decide (n<m))):=
 fun τ _ H K=>by rw[w8 hk];exact R.gtrN m n (evt (K _ _ hx)) (show ev C.gl τ (.const v)=some _ from hy) H
theorem r7{x:Nat}{v:Value}(n:Nat)(hx:FF σ an ks its i x (.int ((m:Nat):Int)))(hy:ev C.gl σ (.const v)=some (.int ((n:Nat):Int)))(hk:A4 kk i=true):EO P C σ an ks kk its i t (.binOp .eql xt (.tmp x) (.const v) yt) rt pos aft g (.bool (decide (m=n))):=
 fun τ _ H K=>by rw[w8 hk];exact R.eqlN m n (evt (K _ _ hx)) (show ev C.gl τ (.const v)=some _ from hy) H
theorem zNe{x y:Nat}(hx:FF σ an ks its i x (.int ((m:Nat):Int)))(hy:FF σ an ks its i y (.int ((n:Nat):Int)))(hk:A4 kk i=true):EO P C σ an ks kk its i t (.binOp .neq xt (.tmp x) (.tmp y) yt) rt pos aft g (.bool (decide (m≠n))):=
 fun τ _ H K=>by rw[w8 hk];exact R.neqN m n (evt (K _ _ hx)) (evt (K _ _ hy)) H
theorem zNek{x:Nat}{v:Value}(n:Nat)(hx:FF σ an ks its i x (.int ((m:Nat):Int)))(hy:ev C.gl σ (.const v)=some (.int ((n:Nat):Int)))(hk:A4 kk i=true):EO P C σ an ks kk its i t (.binOp .neq xt (.tmp x) (.const v) yt) rt pos aft g (.bool (decide (m≠n))):=
 fun τ _ H K=>by rw[w8 hk];exact R.neqN m n (evt (K _ _ hx)) (show ev C.gl τ (.const v)=some _ from hy) H
theorem zB{op:BinOp}{x y:Nat}{dx dy:D}(hx:FF σ an ks its i x dx)(hy:FF σ an ks its i y dy)(ha:arith op dx dy=some (True,d))(hk:A4 kk i=true):EO P C σ an ks kk its i t (.binOp op xt (.tmp x) (.tmp y) yt) rt pos aft g d:=
 fun τ _ H K=>by rw[w8 hk];exact R.bin (evt (K _ _ hx)) (evt (K _ _ hy)) ha trivial H
theorem P5{op:BinOp}{x:Nat}{v:Value}{dx dy:D}(hx:FF σ an ks its i x dx)(hy:ev C.gl σ (.const v)=some dy)(ha:arith op dx dy=some (True,d))(hk:A4 kk i=true):EO P C σ an ks kk its i t (.binOp op xt (.tmp x) (.const v) yt) rt pos aft g d:=
 fun τ _ H K=>by rw[w8 hk];exact R.bin (evt (K _ _ hx)) (show ev C.gl τ (.const v)=some _ from hy) ha trivial H
theorem zW{src dst:TypeId}{k k0:IntKind}{x:Nat}{dx:D}[h0:IkT P src k0][hT:IkT P dst k](hx:FF σ an ks its i x dx)(ha:CY k dx=some d)(hk:A4 kk i=true):EO P C σ an ks kk its i t (.convert src dst (.tmp x)) rt pos aft g d:=
 fun τ _ H K=>by rw[w8 hk];exact R.conv (evt (K _ _ hx)) ha H
theorem JY{op:UnOp}{x:Nat}{dx:D}(hx:FF σ an ks its i x dx)(ha:unD op dx=some d)(hk:A4 kk i=true):EO P C σ an ks kk its i t (.unOp op xt (.tmp x)) rt pos aft g d:=
 fun τ _ H K=>by rw[w8 hk];exact R.un (evt (K _ _ hx)) ha H
theorem zT{c x:Nat}{y:Operand}{b:Bool}(hc:FF σ an ks its i c (.bool b))(hb:b=true)(hx:FF σ an ks its i x d)(hp:d.pur=true)(hk:A4 kk i=true):EO P C σ an ks kk its i t (.pick (.tmp c) (.tmp x) y) rt pos aft g d:=
 fun τ _ H K=>by rw[w8 hk];exact ZV (evt (K _ _ hc)) hb (evt (K _ _ hx)) hp H
theorem AT{c:Nat}{v:Value}{y:Operand}{b:Bool}(hc:FF σ an ks its i c (.bool b))(hb:b=true)(hx:ev C.gl σ (.const v)=some d)(hp:d.pur=true)(hk:A4 kk i=true):EO P C σ an ks kk its i t (.pick (.tmp c) (.const v) y) rt pos aft g d:=
 fun τ _ H K=>by rw[w8 hk];exact ZV (evt (K _ _ hc)) hb (show ev C.gl τ (.const v)=some _ from hx) hp H
theorem zF{c x:Nat}{y:Operand}{b:Bool}(hc:FF σ an ks its i c (.bool b))(hb:b=false)(hx:FF σ an ks its i x d)(hp:d.pur=true)(hk:A4 kk i=true):EO P C σ an ks kk its i t (.pick (.tmp c) y (.tmp x)) rt pos aft g d:=
 fun τ _ H K=>by rw[w8 hk];exact UJ (evt (K _ _ hc)) hb (evt (K _ _ hx)) hp H
theorem MQ{c:Nat}{v:Value}{y:Operand}{b:Bool}(hc:FF σ an ks its i c (.bool b))(hb:b=false)(hx:ev C.gl σ (.const v)=some d)(hp:d.pur=true)(hk:A4 kk i=true):EO P C σ an ks kk its i t (.pick (.tmp c) y (.const v)) rt pos aft g d:=
 fun τ _ H K=>by rw[w8 hk];exact UJ (evt (K _ _ hc)) hb (show ev C.gl τ (.const v)=some _ from hx) hp H
def kil1:List (Nat×Nat)->Nat->Nat->Bool
 | [],_,_=>false
 | (k,x)::r,i,s=>bif Nat.beq k i then Nat.beq x s&&A4 r i else kil1 r i s
theorem RY{τ:Sg}{i s:Nat}:∀ {kk:List (Nat×Nat)},kil1 kk i s=true->P0 τ kk i=τ.kill s:=by
 intro kk
 induction kk with
 | nil=>intro h;cases h
 | cons y r ih=>
  obtain⟨k,x⟩:=y;intro h;rw[kil1] at h;rw[P0]
  cases hb:Nat.beq k i with
  | true=>
   rw[hb,cond_true,Bool.and_eq_true] at h;rw[cond_true,Nat.eq_of_beq_eq_true h.1];exact w8 h.2
  | false=>rw[hb,cond_false] at h;rw[cond_false];exact ih h
theorem zO(h:FF σ an ks its i s d)(hd:d.isRef=false)(hk:kil1 kk i s=true)(hst:s≠t:=by decide):EO P C σ an ks kk its i t (.assign (.tmp s)) rt pos aft g d:=
 fun τ _ H K=>by rw[RY hk];exact R.asgO (K _ _ h) hd H hst
theorem zV(h:FF σ an ks its i s d)(hp:d.pur=true)(hk:A4 kk i=true):EO P C σ an ks kk its i t (.move (.tmp s)) rt pos aft g d:=
 fun τ _ H K=>by rw[w8 hk];exact R.mov (evt (K _ _ h)) hp H
theorem E8{y:Nat}{v:Value}(m:Nat)(hx:ev C.gl σ (.const v)=some (.int ((m:Nat):Int)))(hy:FF σ an ks its i y (.int ((n:Nat):Int)))(q0:m*n<9223372036854775808)(hk:A4 kk i=true):EO P C σ an ks kk its i t (.binOp .mul xt (.const v) (.tmp y) yt) rt pos aft g (.int ((m*n:Nat):Int)):=
 fun τ _ H K=>by rw[w8 hk];exact II m n (show ev C.gl τ (.const v)=some _ from hx) (evt (K _ _ hy)) q0 H
theorem R5{s0 x e z b:Nat}{l l' l2:List D}[hT:SlT P ty e][hE:ElT P e z b](ha:FF σ an ks its i s (.al s0))(hs:FF σ an ks its i s0 (.sl (some e) z l))(hx:FF σ an ks its i x (.sl o z l'))(hp:∀ y∈l',y.pur=true)(he:l++l'=l2)(hn:l.length+l'.length<=1073741824)
 (hk:kil1 kk i s0=true) (hst:s0≠t:=by decide) (hby:b<=131072:=by decide):EO P C σ an ks kk its i t (.call { callee:=.builtin .append,args:=#[.tmp s,.tmp x],argTypes:=#[ty,ty] }) rt pos aft g (.sl (some e) z l2):=
 fun τ _ H K=>by rw[RY hk];exact Q6 (Or.inr (K _ _ ha)) (K _ _ hs) (SrcO.sc (SC.sl (K _ _ hx)) hp) he hn H hst hby
theorem zX{k:Nat}{ds:List D}(h:FF σ an ks its i s (.tup ds))(hd:ds[k]? = some d)(hp:d.pur=true)(hk:A4 kk i=true):EO P C σ an ks kk its i t (.extract (.tmp s) k) rt pos aft g d:=
 fun τ _ H K=>by rw[w8 hk];exact R.ext (K _ _ h) hd hp H
theorem zY{ds:List D}(h:FF σ an ks its i s (.tup ds))(hp:D.purs ds=true)(hk:A4 kk i=true):EO P C σ an ks kk its i t (.move (.tmp s)) rt pos aft g (.tup ds):=
 fun τ _ H K=>by rw[w8 hk];exact R.movT (K _ _ h) hp H
theorem H9{x i0 off' sT f:Nat}[FdT P sT f off'](h:FF σ an ks its i x (.ep s' z i0 off path))(hk:A4 kk i=true)(hst:s'≠t:=by decide):EO P C σ an ks kk its i t (.fieldAddr sT (.tmp x) f) rt pos aft g (.ep s' z i0 (off+off') (path++[f])):=
 fun τ _ H K=>by rw[w8 hk];exact R.fdE (K _ _ h) H hst
theorem AR{id:Nat}(h:FF σ an ks its i s (.ptr id off path))(hk:A4 kk i=true):EO P C σ an ks kk its i t (.nilCheck (.tmp s)) rt pos aft g (.ptr id off path):=
 fun τ _ H K=>by rw[w8 hk];exact R.nilcP (K _ _ h) H
theorem zC{f:FuncId}[CaT P f]{gl:List (Nat×D)}{x:Nat}{tys:Array TypeId}{dx:D}(hC:C.gl=gl)(hF:Fn P gl f [dx] d)(hx:FF σ an ks its i x dx)(hp:dx.pur=true)(hn:dx.np=true)(hr:FrsR d)(hk:A4 kk i=true) :
 EO P C σ an ks kk its i t (.call { callee:=.value (.func f),args:=[Operand.tmp x].toArray,argTypes:=tys }) rt pos aft g d:=fun τ _ H K=>by rw[w8 hk];exact j5 hC hF (.cons (.pur (evt (K _ _ hx)) hp hn) .nil) hr H
theorem zD{f:FuncId}[CaT P f]{gl:List (Nat×D)}{x y:Nat}{tys:Array TypeId}{dx dy:D}(hC:C.gl=gl)(hF:Fn P gl f [dx,dy] d)(hx:FF σ an ks its i x dx)(hp:dx.pur=true)(hn:dx.np=true)(hy:FF σ an ks its i y dy)(hp':dy.pur=true)(hn':dy.np=true)(hr:FrsR d)(hk:A4 kk i=true) :
 EO P C σ an ks kk its i t (.call { callee:=.value (.func f),args:=[Operand.tmp x,.tmp y].toArray,argTypes:=tys }) rt pos aft g d:=fun τ _ H K=>by rw[w8 hk];exact j5 hC hF (.cons (.pur (evt (K _ _ hx)) hp hn) (.cons (.pur (evt (K _ _ hy)) hp' hn') .nil)) hr H
theorem t9{f:FuncId}[CaT P f]{gl:List (Nat×D)}{x:Nat}{v:Value}{tys:Array TypeId}{dx dy:D}(hC:C.gl=gl)(hF:Fn P gl f [dx,dy] d)(hx:FF σ an ks its i x dx)(hp:dx.pur=true)(hn:dx.np=true)(hy:ev C.gl σ (.const v)=some dy)(hp':dy.pur=true)(hn':dy.np=true)(hr:FrsR d)(hk:A4 kk i=true) :
 EO P C σ an ks kk its i t (.call { callee:=.value (.func f),args:=[Operand.tmp x,.const v].toArray,argTypes:=tys }) rt pos aft g d:=fun τ _ H K=>by rw[w8 hk];exact j5 hC hF (.cons (.pur (evt (K _ _ hx)) hp hn) (.cons (.pur (show ev C.gl τ (.const v)=some _ from hy) hp' hn') .nil)) hr H
end
section
variable{P:Program}{C:Ctx}{σ:Sg}{ops:List Oper}{Q:Exit->Sg->Prop}{l:List Oper}{t s:Nat}{d:D}{ty rt:TypeId}{pos:String}{aft:Array Edge}
theorem o0[hZ:ZrT P ty d](hid:σ.box t=none)(ht:Nat.ble (t+1) σ.n=true)(k:TL P C Q l ((σ.newB t (.var d)).set t (.ptr t 0 []))):TL P C Q (⟨some t,.alloc ty,rt,pos,aft,none⟩::l) σ:=⟨rfl,_,R.alloc hid (Nat.le_of_ble_eq_true ht),k⟩
theorem E9(h:σ.get s=some d)(hp:d.pur=true)(ht:Nat.ble (t+1) σ.n=true)(k:TL P C Q l (σ.set t d)):TL P C Q (⟨some t,.assign (.tmp s),rt,pos,aft,none⟩::l) σ:=⟨rfl,_,v3 (evt h) hp (Nat.le_of_ble_eq_true ht),k⟩
theorem m1{p id off:Nat}{path:List Nat}{d0 d1 d' dx:D}{n:TypeId}{gg:Bool}[LdT P ty n gg]{x:Nat}(h:σ.get p=some (.ptr id off path))(hb:σ.box id=some (.var d0))(hl:d0.loc path=some (off,d1))(hx:σ.get x=some dx)(hu:d0.upd path dx=some d')(k:TL P C Q l (σ.putB id (.var d')))
 (hp:dx.pur=true:=by rfl) (hnp:dx.np=true:=by rfl) (hn:dx.sz=n:=by rfl) (hz:d1.sz=n:=by rfl):TL P C Q (⟨none,.store ty (.tmp p) (.tmp x),rt,pos,aft,none⟩::l) σ:=⟨rfl,_,r6 h hb hl (evt hx) hp hnp hn hz hu,k⟩
theorem c9{nn:Nat}{env:List (Nat×D)}{bx:List (Nat×Bx)}{id:Nat}(m:Nat)(its:List It)(ks kk:List (Nat×Nat))(env':List (Nat×D))
 (H:AllOps P C ⟨nn,env,bx⟩ ops (B7 m 0) ks kk its ops its 0) (h:okL nn m ks kk its env ops.length=true) (hE:picks (afts (B7 m 0) (fun _=>true) ks env its) (env'.map (·.1))=env')
 (hT:TL P C Q (ops.drop its.length) ⟨nn,env',bx⟩):W P C (.region id ops.toArray false) Q ⟨nn,env,bx⟩:=W.l0 m its ks kk env' bx nn H h hE rfl rfl hT
theorem j1{nn:Nat}{env:List (Nat×D)}{bx:List (Nat×Bx)}{id:Nat}(m:Nat)(its:List It)(env':List (Nat×D))
 (H:AllOps P C ⟨nn,env,bx⟩ ops (B7 m 0) [] [] its ops its 0) (h:okL nn m [] [] its env ops.length=true) (hE:picks (afts (B7 m 0) (fun _=>true) [] env its) (env'.map (·.1))=env')
 (hd:ops.drop its.length=[]) (hp:picks (Sg.get ⟨nn,env',bx⟩) (env'.map (·.1))=env') (q:Q .normal ⟨nn,env',bx⟩):W P C (.region id ops.toArray false) Q ⟨nn,env,bx⟩:=c9 m its [] [] env' H h hE (by rw[hd];exact tU hp q)
theorem z6{y:Code}{nn:Nat}{env:List (Nat×D)}{bx:List (Nat×Bx)}{id:Nat}(m:Nat)(its:List It)(env':List (Nat×D))
 (H:AllOps P C ⟨nn,env,bx⟩ ops (B7 m 0) [] [] its ops its 0) (h:okL nn m [] [] its env ops.length=true) (hE:picks (afts (B7 m 0) (fun _=>true) [] env its) (env'.map (·.1))=env')
 (hd:ops.drop its.length=[]) (hp:picks (Sg.get ⟨nn,env',bx⟩) (env'.map (·.1))=env') (q:W P C y Q ⟨nn,env',bx⟩):W P C (.seq (.region id ops.toArray false) y) Q ⟨nn,env,bx⟩:=W.seq (j1 m its env' H h hE hd hp q)
theorem z7{y:Code}{nn:Nat}{env:List (Nat×D)}{bx:List (Nat×Bx)}{id:Nat}(m:Nat)(its:List It)(ks kk:List (Nat×Nat))(env':List (Nat×D))
 (H:AllOps P C ⟨nn,env,bx⟩ ops (B7 m 0) ks kk its ops its 0) (h:okL nn m ks kk its env ops.length=true) (hE:picks (afts (B7 m 0) (fun _=>true) ks env its) (env'.map (·.1))=env')
 (hT:TL P C (fun e s=>match e with | .normal=>W P C y Q s|e=>Q e s) (ops.drop its.length) ⟨nn,env',bx⟩):W P C (.seq (.region id ops.toArray false) y) Q ⟨nn,env,bx⟩:=W.seq (c9 m its ks kk env' H h hE hT)
end
end Go.Sx

namespace Go.Sx
variable{P:Program}{C:Ctx}{σ σ' σ1:Sg}{a:Act}{w w':World}{ρ:Nat->Nat}{Fe Fe' Fb:Nat->List Nat}
theorem JE{e:TypeId}[hk:IkT P e .u64][hL:LdT P e 1 false](w:World)(d:Nat)(xs ys:List UInt64)(n:Nat)(hx:xs.length=n)(hy:ys.length=n)(cx cy:Array Value)
 (h1:cx.toList=xs.map (fun b=>Value.int .u64 b.toNat)) (h2:cy.toList=ys.map (fun b=>Value.int .u64 b.toNat)):∀ (l:List Nat),(∀ i∈l,i<n) ->
 (Op.eqItems (d+1) e 1 cx cy l).run P w=.ok (l.all fun i=>xs[i]? == ys[i]?) w:=by
 intro l
 induction l with
 | nil=>intro _;simp[Op.eqItems]
 | cons i l ih=>
  intro h;have hi:=h i (by simp)
  have hp:∀ (cs:Array Value) (zs:List UInt64) (hz:zs.length=n),cs.toList=zs.map (fun b=>Value.int .u64 b.toNat)->(part e cs (i*1)).run P w=.ok (.int .u64 (zs[i]'(by omega)).toNat) w:=by
   intro cs zs hz hc
   have hi':i<cs.size:=by
    have:=congrArg List.length hc;simp at this;omega
   have:cs[i]=.int .u64 (zs[i]'(by omega)).toNat:=by
    have e1:cs.toList[i]'(by simpa using hi')=(zs.map (fun b=>Value.int .u64 b.toNat))[i]'(by simp;omega):=by simp only[hc]
    simpa using e1
   simp[part,LdT.agg (P:=P) (t:=e),hi',this]
  have e3:=hp cx xs hx h1;have e4:=hp cy ys hy h2
  obtain⟨k,hku⟩:∃ k,P.underlying e=some (.int k):=⟨_,hk.u⟩
  have e5:=run_equalIn_int (P:=P) w d e .u64 k (xs[i]'(by omega)).toNat (ys[i]'(by omega)).toNat hku;have ex:xs[i]? = some (xs[i]'(by omega)):=List.getElem?_eq_getElem _;have ey:ys[i]? = some (ys[i]'(by omega)):=List.getElem?_eq_getElem _
  have eb:((((xs[i]'(by omega)).toNat:Int))==(((ys[i]'(by omega)).toNat:Int)))=(xs[i]? == ys[i]?):=by
   rw[ex,ey,XW];rfl
  have ih':=ih (fun j hj=>h j (List.mem_cons_of_mem _ hj));simp only[Op.eqItems,Sem.run_bind,e3,e4,e5,Result.andThen_ok,eb,List.all_cons]
  cases hb:(xs[i]? == ys[i]?) with
  | true=>simpa using ih'
  | false=>simp
theorem all_eq64(n:Nat)(xs ys:List UInt64)(hx:xs.length=n)(hy:ys.length=n):((List.range n).all fun i=>xs[i]? == ys[i]?)=(xs==ys):=by
 rw[Bool.eq_iff_iff];simp only[List.all_eq_true,List.mem_range,beq_iff_eq];constructor
 ·intro h;apply List.ext_getElem?;intro i;by_cases hi:i<n
  ·exact h i hi
  ·rw[List.getElem?_eq_none (by omega),List.getElem?_eq_none (by omega)]
 ·rintro rfl i _;rfl
theorem SO{G L:Nat->Prop}{p:Bool}{n:Nat}{xs:List UInt64}{cs:List Value}{F:List Nat}(h:Rc w ρ G L p (.arr n 1 (xs.map .u64)) cs F):xs.length=n/\cs=xs.map (fun b=>Value.int .u64 b.toNat):=by
 cases h with
 | arr _ _ _ _ hl hs hr=>
  have hl':xs.length=n:=by simpa using hl
  refine⟨hl', ?_⟩;apply List.ext_getElem?;intro i;by_cases hi:i<n
  ·have hic:i<cs.length:=by omega
   have:=hr i (by simp;omega);rw[Nat.mul_one,List.drop_eq_getElem_cons hic,List.take_succ_cons,List.take_zero] at this;simp only[List.getElem_map] at this;rw[List.getElem?_eq_getElem hic,List.getElem?_eq_getElem (by simp;omega)];generalize hc:[cs[i]]=c at this;cases this;simp at hc;simp[hc]
  ·rw[List.getElem?_eq_none (by omega),List.getElem?_eq_none (by simp;omega)]
theorem EqV.arr64{t e m:Nat}[hT:ArT P t m e][hk:IkT P e .u64][hL:LdT P e 1 false](xs ys:List UInt64):EqV P 2 t (.arr m 1 (xs.map .u64)) (.arr m 1 (ys.map .u64)) (xs==ys):=by
 intro n w ρ1 ρ2 G1 G2 L1 L2 v1 v2 F1 F2 h1 h2;simp only[VR,D.isAgg,if_true] at h1 h2;obtain⟨cx,rfl,h1⟩:=h1;obtain⟨cy,rfl,h2⟩:=h2;obtain⟨hlx,hcx⟩:=SO h1;obtain⟨hly,hcy⟩:=SO h2;obtain⟨d,i,_,_,hi,hsz⟩:=hL.i
 have hce:P.cellsOf e=1:=by simp[Program.cellsOf,hi,hsz]
 rw[show n+2=(n+1)+1 from rfl,run_equalIn_array w (n+1) cx cy hT.u hi,hce,JE (P:=P) w n xs ys m hlx hly cx cy hcx hcy _ (fun i hi=>List.mem_range.1 hi),all_eq64 m xs ys hlx hly]
end Go.Sx

namespace Go.Sx
variable{P:Program}{C:Ctx}{σ σ' σ1 σ2:Sg}{a:Act}{w w':World}{ρ ρ2:Nat->Nat}{Fe Fe' Fb Fb2:Nat->List Nat}
end Go.Sx

namespace Go.Sx
variable{P:Program}{C:Ctx}{σ σ':Sg}{a:Act}{w w':World}{ρ:Nat->Nat}{Fe Fb:Nat->List Nat}
end Go.Sx

namespace Go.Sx
def PG:Nat->Code->Code
 | 0,c=>c
 | k+1,.seq _ c=>PG k c
 | _+1,c=>c
theorem W.tailS{P:Program}{C:Ctx}{Q:Exit->Sg->Prop}{σ:Sg}{c:Code}(k:Nat)(M:Sg->Prop)(h2:∀ s,M s->W P C (PG k c) Q s)(h1:(∀ s,M s->W P C (PG k c) Q s)->W P C c Q σ):W P C c Q σ:=h1 h2
end Go.Sx

namespace Go.Sx
variable{P:Program}{C:Ctx}{σ σ' σ1:Sg}{a:Act}{w w':World}{ρ:Nat->Nat}{Fe Fe' Fb:Nat->List Nat}
end Go.Sx

namespace Go.Sx
variable{P:Program}{C:Ctx}{σ σ' σ1:Sg}{a:Act}{w w':World}{ρ:Nat->Nat}{Fe Fe' Fb:Nat->List Nat}
inductive EvFs(gl:List (Nat×D))(σ:Sg):List Operand->List D->Prop
 | nil:EvFs gl σ [] []
 | cons {x:Operand} {d:D} {xs:List Operand} {ds:List D} (h:ev gl σ x=some d) (hp:d.pur=true) (ha:d.isAgg=false) (t:EvFs gl σ xs ds):EvFs gl σ (x::xs) (d::ds)
theorem EvFs.len{gl:List (Nat×D)}{xs:List Operand}{ds:List D}(h:EvFs gl σ xs ds):xs.length=ds.length:=by
 induction h with
 | nil=>rfl
 | cons _ _ _ _ ih=>simp[ih]
theorem EvFs.at{gl:List (Nat×D)}{xs:List Operand}{ds:List D}(h:EvFs gl σ xs ds):∀ k (h:k<xs.length) (h':k<ds.length),ev gl σ xs[k]=some ds[k]/\ds[k].pur=true/\ds[k].isAgg=false:=by
 induction h with
 | nil=>intro k hk;simp at hk
 | cons h hp ha t ih=>
  intro k hk hk'
  cases k with
  | zero=>exact⟨h,hp,ha⟩
  | succ k=>exact ih k (by simpa using hk) (by simpa using hk')
theorem R.mkfnL{t f:Nat}{xs:List Operand}{ds:List D}{rt:TypeId}{pos:String}{aft:Array Edge}{g:Option (Nat×Bool)}(h:EvFs C.gl σ xs ds)(ht:t<σ.n) :
 OpS P C ⟨some t,.makeFunc (.func f) #[] xs.toArray,rt,pos,aft,g⟩ σ (σ.set t (.fn f ds)):=R.mkfn h.len h.at ht
end Go.Sx
