/- Proved: what functions of the given program compute (used by the theorem of this claim). Conditions: none but those that each theorem states. -/
import Derived.Test.YtgilikgghknbhaaDoorMSxApp2
import Derived.Laws.StructEq
set_option linter.unusedVariables false
set_option linter.unusedSimpArgs false
set_option linter.unnecessarySimpa false

namespace Go.Sx
variable{P:Program}{C:Ctx}{σ σ' σ1:Sg}{a:Act}{w w':World}{ρ:Nat->Nat}{Fe Fe' Fb:Nat->List Nat}
variable{gl:List (Nat×D)}{W0:World}{G:Nat->Prop}
def rec0(fn:FuncId)(tmps:Array Value)(p:Nat)(asg body:Code)(dd:Nat):Loop:=
 { state:=.ready,pending:=none,fn:=fn,tmps:=tmps,params:=#[p],assign:=asg,body:=body,defers:=dd }
theorem V.range{g p n:Nat}{asg body:Code}{env0:List (Nat×D)}{ids:List Nat}{f:FuncId}[hf:CaT P f]{caps xs:List D}{bxs:Nat->List (Nat×Bx)}{Stop:Exit->List (Nat×Bx)->Prop}(J:Nat->Prop)
 {Q:Exit->Bool×Sg->Prop} {m0:Bool} (hgl:Glw gl W0 G) (hI:Itr P gl f caps xs) (hg:lk env0 g=some (.fn f caps)) (hnp:∀ d∈caps,d.np=true) (hp:p<n) (hpe:D7 env0=true)
 (hkeys:∀ id,(lk (bxs 0) id).isSome=o3 ids id) (hf0:S0 (bxs 0)) (hxs:∀ k (h:k<xs.length),xs[k].pur=true/\xs[k].np=true)
 (hJ:J 0)
 (hround:∀ k (h:k<xs.length),J k->∀ C':Ctx,C'.gl=gl->(∀ id b,C'.pin id=some b->o3 ids id=true)->W P C' asg (fun e σ'=>e=.normal/\∀ C':Ctx,C'.gl=gl->(∀ id b,C'.pin id=some b->o3 ids id=true) ->
  W P C' body (fun e σ'=>(e=.normal/\(n8 ids σ'.bx=bxs (k+1)/\J (k+1))∨(e=.ret∨∃ id,e=.exit id)/\Stop e (n8 ids σ'.bx))/\S0 (n8 ids σ'.bx)) σ') ((⟨n,env0,bxs k⟩:Sg).set p xs[k]))
 (hN:J xs.length->Q .normal (true,⟨n,env0,bxs xs.length⟩)) (hS:∀ e bx,(e=.ret∨∃ id,e=.exit id)->Stop e bx->Q e (true,⟨n,env0,bx⟩)) :
 V P none (AM (JF gl W0 G)) (.rangeFunc (.tmp g) #[p] asg body) Q (m0,⟨n,env0,bxs 0⟩):=by
 intro a w ⟨C,⟨h1,h2,h3,h4,h5,h6,h7⟩,ρ,Fe,Fb,st⟩;have hlt:=st.lt
 have hpure:∀ t d,lk env0 t=some d->∃ v,a.tmps[t]? = some v/\VR w ρ (gd C Fe Fb) (fun id=>o3 ids id=true) d v []:=by
  intro t d hd;obtain⟨hp1,hp2⟩:=D6 hpe hd;obtain⟨v,hv,hr⟩:=(j2 hp2).1 (st.env t d hd);have:=hr.pur hp1;rw[this] at hr;exact⟨v,hv,hr.mono (fun _ _ _=>rfl) (fun _ h _=>h) (fun id hid=>⟨by rw[<- hkeys];exact hid,rfl⟩)⟩
 obtain⟨vg,hvg,hrg⟩:=hpure g _ hg;simp only[VR,D.isAgg,Bool.false_eq_true,if_false] at hrg
 obtain⟨vs,rfl,hvl,hva,hvr⟩:∃ vs:List Value,vg=.func (.func f) #[] vs.toArray/\vs.length=caps.length/\(∀ k (h:k<caps.length),caps[k].isAgg=false)/\∀ k (h:k<caps.length),Rc w ρ (gd C Fe Fb) (fun id=>o3 ids id=true) true caps[k] [vs.getD k undef] []:=by
  cases hrg;exact⟨_,rfl,‹_›,‹_›,‹_›⟩
 refine wpIn_rangeFunc fun fn _=>?_
 let r0:=rec0 fn a.tmps p asg body w.heap.size
 let w2:World:=(w.alloc (.deferred (some []))).alloc (.loop r0)
 have hw2:∀ b,b<w.heap.size->w2.heap[b]? = w.heap[b]?:=fun b hb=>by
  show((w.heap.push _).push _)[b]? = _;rw[Array.getElem?_push_lt (by simp;omega),Array.getElem_push_lt hb,Array.getElem?_eq_getElem hb]
 have hw2d:w2.heap[w.heap.size]? = some (.deferred (some [])):=by
  show((w.heap.push _).push _)[w.heap.size]? = _;rw[Array.getElem?_push_lt (by simp)];simp
 have hw2l:w2.heap[w.heap.size+1]? = some (.loop r0):=by
  show((w.heap.push (.deferred (some []))).push _)[w.heap.size+1]? = _
  have e:w.heap.size+1=(w.heap.push (Obj.deferred (some []))).size:=by simp
  rw[e,Array.getElem?_push_size]
 have hw2s:w2.heap.size=w.heap.size+2:=by
  show((w.heap.push _).push _).size=_;simp
 have hevg:a.eval (.tmp g)=.func (.func f) #[] vs.toArray:=w3 hvg;obtain⟨ff,hff1,hff2,hff3⟩:=hf.i;refine⟨w.heap.size+1,[H5 w.heap.size],w2,{ target:=.fn (.func f) vs.toArray,args:=#[.func (.yield (w.heap.size+1)) #[] #[]] },w2,f,#[.func (.yield (w.heap.size+1)) #[] #[]]++vs.toArray,w2, ?_, ?_,(fun _ _=>trivial), ?_,(fun h=>by cases h), ?_⟩
 ·exact run_enterLoop_outer fn a.tmps #[p] asg body
 ·simp[resolve,rangeCall,hvg,Deferred.ofValue,Act.eval]
 ·simp[invoke,L6 hff1 hff2 hff3]
 let sz:=w.heap.size
 let l:=w.heap.size+1
 let dd:=w.heap.size
 let G1:Nat->Prop:=fun b=>gd C Fe Fb b/\b<w.heap.size
 let Y:Yt:=fun k s O w'=>(s=false->(k<=xs.length/\J k)/\w'.heap[l]? = some (.loop r0)/\∃ Fb',Last C n a env0 ids ρ G1 sz l dd (bxs k) Fb' O w') /\
  (s=true->∃ e c bx Fb',(e=.ret∨∃ id,e=.exit id)/\Stop e bx/\jmp e=some c/\w'.heap[l]? = some (.loop { r0 with state:=.done,pending:=some c })/\Last C n a env0 ids ρ G1 sz l dd bx Fb' O w')
 have hkl:∀ b,C.keep b->b<w.heap.size:=fun b hb=>Nat.lt_of_lt_of_le (st.kept b hb).2 st.grown
 have hz:∀ b,sz<=b->¬ C.keep b:=fun b hb hc=>by have:=hkl b hc;have:sz=w.heap.size:=rfl;omega
 have hY:Stable Y:=by
  intro k s O O' w₁ w₂ ⟨y1,y2⟩ ha
  have hrec:∀ bx Fb' o,Last C n a env0 ids ρ G1 sz l dd bx Fb' O w₁->w₁.heap[l]? = some o->w₂.heap[l]? = some o:=fun bx Fb' o hL ho=>by
   rw[ha.same l (Array.getElem?_eq_some_iff.1 ho).1 (fun hc=>(hL.O_ge l hc).2.1 rfl)];exact ho
  refine⟨fun hs=>?_,fun hs=>?_⟩
  ·obtain⟨q1,q2,Fb',q3⟩:=y1 hs;exact⟨q1,hrec _ _ _ q3 q2,Fb',q3.apart hz ha⟩
  ·obtain⟨e,c,bx,Fb',q1,q2,q3,q4,q5⟩:=y2 hs;exact⟨e,c,bx,Fb',q1,q2,q3,hrec _ _ _ q5 q4,q5.apart hz ha⟩
 have hgC:∀ g' d,(g',d)∈C.gl->C.keep g'/\G1 g'/\∃ cs e fz,C.w0.heap[g']? = some (.cells cs e fz)/\Rc C.w0 (fun x=>x) (fun _=>False) (fun _=>False) false d cs.toList []:=fun g' d hgd=>by
  obtain⟨q1,q2,q3⟩:=st.gl g' d hgd;exact⟨q1,⟨⟨q2,fun ho=>st.new g' ho q1⟩,hkl g' q1⟩,q3⟩
 have hL0:Last C n a env0 ids ρ G1 sz l dd (bxs 0) Fb (fun _=>False) w2:=by
  refine Last.mk hkeys hf0 (fun t d hd=>?_) (fun id d hd=>?_) (fun id hid=>st.bxN id hid) st.nodB st.dBB (fun id b hb=>?_) (fun b hb=>hb.elim) (fun b hb=>?_) (fun b hb=>?_) st.os ⟨st.tape.tp,st.tape.dr⟩ st.output (by rw[hw2s];show w.heap.size<=_;omega) (by rw[hw2s];show w.heap.size+1<_;omega) (by rw[hw2s];show w.heap.size<_;omega) (by show w.heap.size+1≠w.heap.size;omega) hw2d
  ·obtain⟨v,q1,q2⟩:=hpure t d hd;exact⟨v,q1,q2.mono (fun b hb hl=>hw2 b hl) (fun b hb hl=>⟨hb,hl⟩) (fun _ h=>⟨h,rfl⟩)⟩
  ·obtain⟨d0,hd0,hfr,hn0⟩:=N0 hf0 hd;cases hd0;obtain⟨cs,e,F',q1,q2,q3⟩:=st.bx id _ hd;have hbl:ρ id<w.heap.size:=(Array.getElem?_eq_some_iff.1 q1).1;exact⟨cs,e,F',(hw2 _ hbl).trans q1,q2.frsAll hfr hn0 (fun b hb hl=>hw2 b hl),q3⟩
  ·have hbl:b<w.heap.size:=hlt b (.inr ⟨id,hb⟩);exact⟨st.new b (.inr ⟨id,hb⟩),(fun h=>h),(fun hc=>hc.1.2 (.inr ⟨id,hb⟩)),by show b≠w.heap.size+1;omega,by show b≠w.heap.size;omega,by rw[hw2s];omega⟩
  ·have hbl:b<w.heap.size:=hb.2;exact⟨hb.2,by show b≠w.heap.size+1;omega,by show b≠w.heap.size;omega⟩
  ·have hbl:=hkl b hb;exact⟨(hw2 b hbl).trans (st.kept b hb).1,hbl,by show b≠w.heap.size+1;omega,by show b≠w.heap.size;omega⟩
 have hcalls:=hI w2 G1 vs l Y (fun b hb=>by rw[hw2s];have:b<w.heap.size:=hb.2;omega) (fun g' d hgd=>by
  obtain⟨q1,cs,e,fz,q2,q3⟩:=GU st g' d (by rw[h1];exact hgd);have hbl:=(Array.getElem?_eq_some_iff.1 q2).1
  exact⟨⟨q1,hbl⟩,cs,e,fz,(hw2 g' hbl).trans q2,q3.mono (fun b hb _=>by rcases hb with hb|hb;exact hb.elim;cases hb) (fun _ h=>h.elim) (fun _ h=>h.elim)⟩) hvl (fun k hk=>by
  have hn:=hnp _ (List.getElem_mem hk)
  have hv:VR w ρ (gd C Fe Fb) (fun id=>o3 ids id=true) caps[k] (vs.getD k undef) []:=by
   simp only[VR,hva k hk,Bool.false_eq_true,if_false];exact hvr k hk
  exact(hv.noL (ρ':=fun x=>x) (L':=fun _=>False) hn).mono (fun b hb hl=>hw2 b hl) (fun b hb hl=>⟨hb,hl⟩) (fun _ h=>h.elim)) hY
  (fun k O w₁ v hk hYk hO hv=>by
   obtain⟨⟨_,hJk⟩,hrec,Fb',hL⟩:=hYk.1 rfl;have ha:=hround k hk hJk;have hround':=hL.round (r:=r0) hrec rfl rfl rfl rfl rfl st.size hO hp hv (hxs k hk).1 (hxs k hk).2 hpe hgC (E:=fun e bx'=>e=.normal/\(bx'=bxs (k+1)/\J (k+1))∨(e=.ret∨∃ id,e=.exit id)/\Stop e bx')
    (fun C' hC' hD'=>(ha C' (hC'.trans h1) hD').mono (fun e s h=>⟨h.1,fun C'' hC'' hD''=>h.2 C'' (hC''.trans h1) hD''⟩)) (fun e bx' he=>he.elim (fun h=>.inl h.1) (fun h=>.inr h.1))
   obtain⟨f',tm,as',bd,hrun,hR⟩:=hround';refine⟨f',tm,as',bd,hrun,hR.mono ?_⟩;rintro e' w₂ ⟨s,he',e,bx',Fb'',hE,hs,hrec',hL',hsame,hsz⟩;refine⟨s,he', ?_,fun b hb hl=>?_,hsz⟩
   ·rcases hE with ⟨rfl,rfl,hJ1⟩|⟨hee,hst⟩
    ·have:s=false:=hs;subst this;exact⟨fun _=>⟨⟨hk,hJ1⟩,hrec',Fb'',hL'⟩,fun h=>by cases h⟩
    ·obtain⟨c,hc⟩:∃ c,jmp e=some c:=by rcases hee with rfl|⟨id,rfl⟩<;>exact⟨_,rfl⟩
     rw[hc] at hs hrec';have:s=true:=hs;subst this;exact⟨fun h=>(by cases h),fun _=>⟨e,c,bx',Fb'',hee,hst,hc,hrec',hL'⟩⟩
   ·refine hsame b hl (fun⟨id,hid⟩=>?_) (fun hbl=>?_)
    ·obtain⟨q1,q2,q3,q4,q5,q6⟩:=hL.own id b hid;exact hb.elim q3 q2
    ·rcases hb with hb|hb
     ·exact(hL.G1_lt b hb).2.1 hbl
     ·exact(hL.O_ge b hb).2.1 hbl)
  ⟨fun _=>⟨⟨Nat.zero_le _,hJ⟩,hw2l,Fb,hL0⟩,fun h=>by cases h⟩
 refine callsIn_wide.2 (Calls.mono hcalls ?_);rintro e w₃ ⟨⟨v,rfl⟩,k,s,O,hYk,hend⟩;obtain⟨dds,hd1,hd2,hd3⟩:=h7.l
 have hdfs:a.defers=dds.map H5:=by rw[st.defs,hd1]
 have hfin:∀ bx Fb' (o:Obj),Last C n a env0 ids ρ G1 sz l dd bx Fb' O w₃->AM (JF gl W0 G) (true,⟨n,env0,bx⟩) { a with defers:=[H5 w.heap.size]++a.defers } (w₃.putObj l o):=fun bx Fb' o hL=>by
  rw[hdfs];exact hL.finish st.size hpe h4 (fun b hb=>h6 b hb.1.1) h5 (Nat.le_trans h5.size st.grown) hgl o hd2 (fun d hd=>⟨(hd3 d hd).1,(hd3 d hd).2.1,(hd3 d hd).2.2.1⟩) (fun b hb hc=>(hd3 b hc).2.2.2 hb.1.1)
 cases s with
 | false=>
  have hke:k=xs.length:=hend.resolve_left (by simp);subst hke;obtain⟨⟨_,hJk⟩,hrec,Fb',hL⟩:=hYk.1 rfl;refine⟨_,_,run_endLoop hrec (by simp[r0,rec0]), ?_⟩;exact⟨_,hfin _ Fb' _ hL,hN hJk⟩
 | true=>
  obtain⟨e,c,bx,Fb',hee,hst,hc,hrec,hL⟩:=hYk.2 rfl;refine⟨_,_,run_endLoop hrec (by simp), ?_⟩
  rcases hee with rfl|⟨id,rfl⟩
  ·cases hc;exact wpIn_ret ⟨_,hfin _ Fb' _ hL,hS _ _ (.inl rfl) hst⟩
  ·cases hc;exact wpIn_exit ⟨_,hfin _ Fb' _ hL,hS _ _ (.inr ⟨_,rfl⟩) hst⟩
theorem Fn.ofR{f:FuncId}{fn:Func}{c:Code}{ds:List D}{r:D}{n:Nat}(hf:P.funcs[f]? = some fn)(hb:fn.body=some c)(hnn:fn.ntmps=n)
 (hd:ds.all (fun d=>!d.isRef)=true) (hn:ds.length<=n)
 (h:∀ (W0:World) (G:Nat->Prop),Glw gl W0 G->V P none (AM (JF gl W0 G)) c (fun e i=>Ends fn.results.toList P r e i.2) (false,⟨n,ini 0 ds,[]⟩)):Fn P gl f ds r:=by
 subst hnn;intro w G vs hgl hl hv;refine callsIn_wide.1 (callsIn_of_wp_marks (n:=3) hf hb trivial ?_)
 have hglw:Glw gl w G:=fun g d hg=>by
  obtain⟨h1,cs,e,fz,h2,h3⟩:=hgl g d hg;exact⟨(Array.getElem?_eq_some_iff.1 h2).1,h1,cs,e,fz,h2,h3⟩
 let C:Ctx:=⟨w,fun b=>b<w.heap.size,fun b=>G b∨w.heap.size<=b,gl,none,fun _=>none,[]⟩
 have hget:∀ t d,(⟨fn.ntmps,ini 0 ds,[]⟩:Sg).get t=some d->∃ h:t<ds.length,ds[t]=d:=by
  intro t d hd;simp only[Sg.get,YE,Nat.zero_le,if_true,Nat.sub_zero] at hd;obtain⟨h,e⟩:=List.getElem?_eq_some_iff.1 hd;exact⟨h,e⟩
 have hown:∀ b,¬ own (fun _=>[]) (fun _=>[]) b:=by rintro b (⟨_,h⟩|⟨_,h⟩)<;>cases h
 have st:StW C ⟨fn.ntmps,ini 0 ds,[]⟩ { tmps:=vs.toArray++Array.replicate (fn.ntmps-vs.toArray.size) undef,defers:=[] } w (fun x=>x) (fun _=>[]) (fun _=>[]):=by
  refine⟨?_,rfl,(fun _ _ hp=>by cases hp), ?_,fun _ _=>rfl, ?_,fun _ _=>rfl,fun _=>List.nodup_nil,fun _=>List.nodup_nil,(fun _ _ _ _ h=>by cases h),(fun _ _ _ h=>by cases h),(fun _ _ _ _ h=>by cases h),fun b hb=>absurd hb (hown b), ?_,rfl,⟨rfl,Nat.le_refl _⟩,rfl,Nat.le_refl _, ?_,fun b hb=>.inr hb,fun b hb=>absurd hb (hown b)⟩
  ·simp[hl];omega
  ·intro t d hd';obtain⟨ht,rfl⟩:=hget t d hd'
   have hr:ds[t].isRef=false:=by
    have:=List.all_eq_true.1 hd ds[t] (List.getElem_mem ht);simpa using this
   refine(j2 hr).2 ⟨vs.getD t undef, ?_,(hv t ht).mono (fun _ _ _=>rfl) (fun b hb _=>⟨.inl hb,hown b⟩) (fun id hid=>hid.elim)⟩
   have htv:t<vs.length:=by omega
   rw[Array.getElem?_append_left (by simpa using htv)];simp[htv]
  ·intro id d hd';cases hd'
  ·intro b hb;exact⟨rfl,hb⟩
  ·intro g d hg;obtain⟨h1,cs,e,fz,h2,h3⟩:=hgl g d hg;exact⟨(Array.getElem?_eq_some_iff.1 h2).1,.inl h1,cs,e,fz,h2,h3⟩
 have hstart:AM (JF gl w G) (false,⟨fn.ntmps,ini 0 ds,[]⟩) { tmps:=vs.toArray++Array.replicate (fn.ntmps-vs.toArray.size) undef,defers:=[] } w:=
  ⟨C,⟨rfl,rfl,fun _=>rfl,fun b hb=>hb,⟨rfl,⟨rfl,Nat.le_refl _⟩,rfl,Nat.le_refl _,fun _ _=>rfl⟩,fun b hb=>hb,rfl⟩,_,_,_,st⟩
 refine Go.Code.wpIn_mono ?_ (h w G hglw _ w hstart);rintro e a' w' ⟨⟨m,σ'⟩,⟨C',⟨h1,h2,h3,h4,h5,h6,h7⟩,ρ,Fe,Fb,st'⟩,hends⟩;have he:=hends.1;obtain⟨dds,hd1,hd2,hd3⟩:=h7.l
 have main:∀ (ds:List Nat) (w₂:World) (C2:Ctx),C2.ok=C'.ok->StW C2 σ' a' w₂ ρ Fe Fb->ds.Nodup->(∀ d∈ds,w.heap.size<=d/\w₂.heap[d]? = some (.deferred (some []))/\¬ C'.ok d)->Ext w w₂ ->
  LeavesInM (Fr none) 3 P fn a'.tmps (fun e w'=>∃ v F,e=.returned v/\Ext w w'/\F.Nodup/\(∀ b∈F,w.heap.size<=b) /\
   RV w' (fun x=>x) (fun b=>(G b∨w.heap.size<=b)/\b∉F) (fun _=>False) r v F) (ds.map H5) .returning w₂:=by
  intro ds
  induction ds with
  | nil=>
   intro w₂ C2 hok st2 _ _ hx;obtain⟨v,k1,F,k2,k3,k4⟩:=Ends.out st2 hends;exact⟨v,k1,v,F,rfl,hx,k2,fun b hb=>Nat.le_of_not_lt (fun hc=>st'.new b (k3 b hb) (h4 b hc)),k4.mono (fun _ _ _=>rfl) (fun b hb _=>⟨h6 b (by rw[<- hok];exact hb.1),hb.2⟩) (fun _ h=>h.elim)⟩
  | cons d ds ih=>
   intro w₂ C2 hok st2 hnd hall hx;obtain⟨q1,q2,q3⟩:=hall d (by simp);have hput:∀ b,b≠d->(w₂.putObj d (.deferred none)).heap[b]? = w₂.heap[b]?:=fun b hb=>World.putObj_heap_other hb
   let C3:Ctx:=⟨w₂.putObj d (.deferred none),fun _=>False,C'.ok,[],none,C2.pin,C2.df⟩
   have st3:StW C3 σ' a' (w₂.putObj d (.deferred none)) ρ Fe Fb:=by
    refine st2.rebase C3 rfl rfl (fun b hb hl=>hput b (fun hc=>?_)) (fun b hb _=>by rw[<- hok];exact hb.1) (fun b hb hc=>hc) (fun b hb=>hb.elim) rfl ⟨rfl,Nat.le_refl _⟩ rfl (Nat.le_refl _) (fun g d hg=>by cases hg) (fun b hb=>by show C'.ok b;rw[<- hok];exact st2.okN b (by rw[World.putObj_size] at hb;exact hb)) (fun b hb=>by show C'.ok b;rw[<- hok];exact st2.okO b hb);subst hc;exact q3 (hb.elim (fun h=>by rw[<- hok];exact h.1) (fun h=>by rw[<- hok];exact st2.okO _ h))
   obtain⟨n1,n2⟩:=List.nodup_cons.1 hnd;refine⟨by simp,.inl ⟨d,_,rfl,run_takeDeferred q2,ih _ C3 rfl st3 n2 (fun d' hd'=>?_) ⟨hx.os,⟨hx.tape.tp,hx.tape.dr⟩,hx.output,by rw[World.putObj_size];exact hx.size,fun b hb=>by rw[hput b (by omega),hx.block b hb]⟩⟩⟩;obtain⟨p1,p2,p3⟩:=hall d' (by simp[hd']);exact⟨p1,by rw[hput d' (fun hc=>n1 (hc▸hd'))];exact p2,p3⟩
 have hleave:=main dds w' C' rfl st' hd2 (fun d hd=>⟨(hd3 d hd).1,by rw[(st'.kept d (hd3 d hd).2.1).1];exact(hd3 d hd).2.2.1,(hd3 d hd).2.2.2⟩) ⟨st'.os.trans h5.os,st'.tape.trans h5.tape,st'.output.trans h5.output,Nat.le_trans h5.size st'.grown,fun b hb=>by rw[(st'.kept b (h4 b hb)).1,h5.block b hb]⟩
 have hdf:a'.defers=dds.map H5:=by rw[st'.defs,hd1]
 rw[<- hdf] at hleave
 rcases he with rfl|rfl<;>exact hleave
theorem V.tt{c:Code}{Q:Exit->Bool×Sg->Prop}(h:V P none (AM (JF gl W0 G)) c Q (true,σ)):V P none (AM (JF gl W0 G)) c Q (false,σ):=by
 intro a w ⟨C,⟨h1,h2,h3,h4,h5,h6,h7⟩,hs⟩;exact h a w ⟨C,⟨h1,h2,h3,h4,h5,h6,h7.l⟩,hs⟩
end Go.Sx

namespace Go.Sx
variable{pos:String}{aft:Array Edge}{g:Option (Nat×Bool)}
variable{P:Program}{C:Ctx}{σ σ' σ1:Sg}{a:Act}{w w':World}{ρ:Nat->Nat}{Fe Fe' Fb:Nat->List Nat}
theorem R.ext{s t k:Nat}{ds:List D}{d:D}{rt:TypeId}
 (h:σ.get s=some (.tup ds)) (hk:ds[k]? = some d) (hp:d.pur=true) (ht:t<σ.n):OpS P C ⟨some t,.extract (.tmp s) k,rt,pos,aft,g⟩ σ (σ.set t d):=by
 refine OpS.value fun a w ⟨ρ,Fe,Fb,st⟩=>?_;obtain⟨vs,Fs,h1,h2,h3,h4⟩:=st.env s _ h;obtain⟨hkl,hkd⟩:=List.getElem?_eq_some_iff.1 hk
 rcases h4 k hkl with ⟨h5,_⟩|⟨h5,h6⟩
 ·rw[hkd] at h5;subst h5;simp[D.pur] at hp
 ·rw[hkd] at h5 h6;have hF:=h6.pur hp;rw[hF] at h6
  have hv:vs[k]? = some (vs.getD k undef):=by
   have:k<vs.length:=by omega
   rw[List.getD_eq_getElem?_getD,List.getElem?_eq_getElem this];rfl
  refine⟨vs.getD k undef,w, ?_,st.put ht h5 h6⟩;generalize vs.getD k undef=x at hv
  have hx:vs.toArray[k]? = some x:=by rw[List.getElem?_toArray];exact hv
  unfold execOp;simp only[Instr.extract,w3 h1,hx,Sem.run_bind,Sem.run_pure,Result.andThen_ok]
theorem R.movT{s t:Nat}{ds:List D}{rt:TypeId}
 (h:σ.get s=some (.tup ds)) (hp:D.purs ds=true) (ht:t<σ.n):OpS P C ⟨some t,.move (.tmp s),rt,pos,aft,g⟩ σ (σ.set t (.tup ds)):=by
 refine OpS.value fun a w ⟨ρ,Fe,Fb,st⟩=>?_;obtain⟨vs,Fs,h1,h2,h3,h4⟩:=st.env s _ h;refine⟨_,w,rfl,st.putRef ht ?_⟩;rw[w3 h1];refine⟨vs,fun _=>[], ?_,h2, ?_,fun k hk=>?_⟩
 ·rw[v7 a t _ t (by rw[st.size];exact ht)];simp
 ·symm;rw[List.flatMap_eq_nil_iff];intros;rfl
 ·have hpk:=US ds hp k hk
  rcases h4 k hk with ⟨h5,_⟩|⟨h5,h6⟩
  ·rw[h5] at hpk;simp[D.pur] at hpk
  ·have hF:=h6.pur hpk;rw[hF] at h6;exact .inr ⟨h5,h6.mono (fun _ _ _=>rfl) (fun b hb _=>⟨hb.1,fun ho=>hb.2 (XH ho)⟩) (fun id hid=>⟨hid,rfl⟩)⟩
theorem R.mkfn{t f:Nat}{xs:List Operand}{ds:List D}{rt:TypeId}(hl:xs.length=ds.length)
 (h:∀ k (h:k<xs.length) (h':k<ds.length),ev C.gl σ xs[k]=some ds[k]/\ds[k].pur=true/\ds[k].isAgg=false) (ht:t<σ.n) :
 OpS P C ⟨some t,.makeFunc (.func f) #[] xs.toArray,rt,pos,aft,g⟩ σ (σ.set t (.fn f ds)):=by
 refine OpS.value fun a w ⟨ρ,Fe,Fb,st⟩=>?_;refine⟨.func (.func f) #[] (xs.map a.eval).toArray,w, ?_,st.put ht rfl ?_⟩
 ·unfold execOp;simp[Instr.makeFunc]
 ·simp only[VR,D.isAgg,Bool.false_eq_true,if_false];refine .fn f ds (xs.map a.eval) (by simp[hl]) (fun k hk=>(h k (by omega) hk).2.2) (fun k hk=>?_);obtain⟨h1,h2,h3⟩:=h k (by omega) hk;obtain⟨F,hv,_⟩:=c3 st h1 (c6 h2);have hF:=hv.pur h2;rw[hF] at hv;simp only[VR,h3,Bool.false_eq_true,if_false] at hv
  have e:(xs.map a.eval).getD k undef=a.eval xs[k]:=by
   have:k<xs.length:=by omega
   simp[List.getD_eq_getElem?_getD,this]
  rw[e];exact hv
theorem R.mkfn1{t f:Nat}{x:Operand}{d:D}{rt:TypeId}(h:ev C.gl σ x=some d)(hp:d.pur=true)(ha:d.isAgg=false)(ht:t<σ.n) :
 OpS P C ⟨some t,.makeFunc (.func f) #[] #[x],rt,pos,aft,g⟩ σ (σ.set t (.fn f [d])):=by
 refine R.mkfn (xs:=[x]) rfl (fun k h1 h2=>?_) ht
 have:k=0:=by simp at h1;omega
 subst this;exact⟨h,hp,ha⟩
theorem St.frzS{s:Nat}{d d':D}(h:σ.get s=some d)(hr:d.isRef=false)(he:d.brw=d')(hs:St C σ a w):St C (σ.upd s d') a w:=by
 obtain⟨ρ,Fe,Fb,st⟩:=hs;subst he;obtain⟨v,hv,hvr⟩:=(j2 hr).1 (st.env _ _ h);refine⟨ρ,_,Fb,st.turn (F:=[]) h rfl ⟨rfl,Nat.le_refl _⟩ rfl (Nat.le_refl _) (fun _ _ _=>rfl) List.nodup_nil (by simp) ((j2 (by rw[KE];exact hr)).2 ⟨v,hv, ?_⟩)⟩
 have hno:∀ b,Go.Sx.own (Go.Sx.upd Fe s []) Fb b->Go.Sx.own Fe Fb b/\b∉Fe s:=by
  rintro b (⟨u,hu⟩|⟨i,hi⟩)
  ·by_cases hus:u=s
   ·subst hus;simp at hu
   ·rw[q8 hus] at hu;exact⟨.inl ⟨u,hu⟩,st.dEE u s hus b hu⟩
  ·exact⟨.inr ⟨i,hi⟩,fun hm=>st.dEB s i b hm hi⟩
 exact hvr.brw (fun b hb=>⟨st.okO b (.inl ⟨s,hb⟩),fun ho=>(hno b ho).2 hb⟩) (fun b hb _=>⟨hb.1,fun ho=>hb.2 (hno b ho).1⟩)
theorem PI{c:Code}{Q:Exit->Sg->Prop}{s:Nat}{d d':D}(h:σ.get s=some d)(hr:d.isRef=false)(he:d.brw=d')(k:W P C c Q (σ.upd s d')):W P C c Q σ:=
 fun a w hs=>k a w (St.frzS h hr he hs)
def frz1(id:Nat)(d:D)(x:D):D:=
 match x with
 | .ptr i 0 []=>bif Nat.beq i id then .rp d else .ptr i 0 []
 | x=>x
def FW(id:Nat)(d:D):List (Nat×D)->List (Nat×D)
 | []=>[]
 | (k,x)::r=>(k,frz1 id d x)::FW id d r
theorem XN(id:Nat)(d:D)(l:List (Nat×D))(u:Nat):lk (FW id d l) u=(lk l u).map (frz1 id d):=by
 induction l with
 | nil=>rfl
 | cons x r ih=>
  obtain⟨k,x⟩:=x;simp only[FW,v4,ih]
  split<;>rfl
theorem GH(id:Nat)(d x:D):(x=.ptr id 0 []/\frz1 id d x=.rp d)∨frz1 id d x=x:=by
 unfold frz1;split
 ·rename_i i;by_cases hi:i=id
  ·subst hi;exact .inl ⟨rfl,by simp⟩
  ·right;simp[nbeq hi]
 ·exact .inr rfl
theorem St.frzB{id:Nat}{d d':D}{ids:List Nat}{bx':List (Nat×Bx)}{env':List (Nat×D)}(hb0:σ.box id=some (.var d))(he:d.brw=d')(hnp:d'.np=true)(hid:u6 ids id=false)(hb:n8 ids σ.bx=bx')
 (hE:FW id d' σ.env=env') (hoE:C0 ids env'=true) (hoB:ER ids bx'=true) (hpn:∀ id b,C.pin id=some b->u6 ids id=true) (hs:St C σ a w):St C ⟨σ.n,env',bx'⟩ a w:=by
 obtain⟨ρ,Fe,Fb,st⟩:=hs
 have hl:∀ u,lk bx' u=if u6 ids u then σ.box u else none:=fun u=>by rw[<- hb];exact Y0 ids σ.bx u
 have hsub:∀ id,∀ b∈(if u6 ids id then Fb id else[]),b∈Fb id:=fun id b hm=>by split at hm;exact hm;cases hm
 have hown:∀ b,own Fe (fun id=>if u6 ids id then Fb id else[]) b->own Fe Fb b:=fun b hb=>hb.imp (fun h=>h) fun⟨i,hi⟩=>⟨i,hsub i b hi⟩
 have hgd:∀ b,gd C Fe Fb b->gd C Fe (fun id=>if u6 ids id then Fb id else[]) b:=fun b hb=>⟨hb.1,fun hc=>hb.2 (hown b hc)⟩
 have hgd2:∀ b∈Fb id,gd C Fe (fun id=>if u6 ids id then Fb id else[]) b:=fun b hb=>⟨st.okO b (.inr ⟨id,hb⟩),by
  rintro (⟨u,hu⟩|⟨i,hi⟩)
  ·exact st.dEB u id b hu hb
  ·by_cases hii:i=id
   ·subst hii;simp[hid] at hi
   ·exact st.dBB i id hii b (hsub i b hi) hb⟩
 have hL:∀ i,(u6 ids i=true/\(σ.box i).isSome)->(lk bx' i).isSome:=fun i ⟨h1,h2⟩=>by rw[hl,if_pos h1];exact h2
 refine⟨ρ,Fe,(fun id=>if u6 ids id then Fb id else[]),{
  size:=st.size
  defs:=st.defs
  pin:=fun id b hp=>⟨(st.pin id b hp).1,hL id ⟨hpn id b hp,(st.pin id b hp).2⟩⟩
  env:=fun t x hx=>?_
  envN:=fun t ht=>?_
  bx:=fun i b hd=>?_
  bxN:=fun i hn=>?_
  nodE:=st.nodE
  nodB:=fun id=>by show(if u6 ids id then Fb id else[]).Nodup;split;exact st.nodB id;exact List.nodup_nil
  dEE:=st.dEE
  dEB:=fun t i b hb hm=>st.dEB t i b hb (hsub i b hm)
  dBB:=fun i i' hne b hb hm=>st.dBB i i' hne b (hsub i b hb) (hsub i' b hm)
  new:=fun b hb=>st.new b (hown b hb)
  kept:=st.kept
  os:=st.os
  tape:=⟨st.tape.tp,st.tape.dr⟩
  output:=st.output
  grown:=st.grown
  gl:=st.gl
  okN:=st.okN
  okO:=fun b hb=>st.okO b (hown b hb) }⟩
 ·have hx0:lk env' t=some x:=hx;have hok:=D9 hoE hx0;rw[<- hE,XN,Option.map_eq_some_iff] at hx0;obtain⟨x0,hx1,hx2⟩:=hx0
  rcases GH id d' x0 with ⟨rfl,hf⟩|hf
  ·rw[hf] at hx2;subst hx2;obtain⟨v,hv,hr⟩:=(j2 rfl).1 (st.env t _ hx1);refine(j2 rfl).2 ⟨v,hv, ?_⟩;simp only[VR,D.isAgg,Bool.false_eq_true,if_false] at hr ⊢;generalize Fe t=F at hr ⊢;cases hr;obtain⟨cs,e,F',q1,q2,q3⟩:=st.bx id _ hb0;have h4:=q2.brw (G':=gd C Fe (fun id=>if u6 ids id then Fb id else[])) (fun b hb=>hgd2 b (by rw[q3];exact List.mem_cons_of_mem _ hb)) (fun b hb _=>hgd b hb);have hlen:=q2.len;rw[he] at h4
   have hsz:d'.sz=d.sz:=by rw[<- he,KX]
   refine .rp d' (ρ id) 0 cs e (0,0) q1 (hgd2 _ (by rw[q3];simp)) (by rw[hsz];simp at hlen;omega) ?_
   have hcs:(cs.toList.drop 0).take d'.sz=cs.toList:=by rw[hsz,<- hlen,List.drop_zero];exact List.take_length
   rw[hcs];exact(h4.unflag hnp).noL
  ·rw[hf] at hx2;subst hx2;exact(st.env t _ hx1).okB hok (fun b hb _=>hgd b hb) hL
 ·have ht':lk env' t=none:=ht;rw[<- hE,XN,Option.map_eq_none_iff] at ht';exact st.envN t ht'
 ·obtain⟨x,rfl,hok⟩:=NI hoB hd;have h1:=hl i;by_cases hm:u6 ids i=true
  ·rw[if_pos hm] at h1
   have h2:σ.box i=some (.var x):=by rw[<- h1];exact hd
   obtain⟨cs,e,F',h3,h4,h5⟩:=st.bx i _ h2;refine⟨cs,e,F',h3,(h4.okB hok).mono (fun _ _ _=>rfl) (fun b hb _=>hgd b hb) (fun i hi=>⟨hL i hi,rfl⟩),by simp only[hm,if_true];exact h5⟩
  ·rw[if_neg hm] at h1;rw[show lk bx' i=some (.var x) from hd] at h1;cases h1
 ·have h1:=hl i;by_cases hm:u6 ids i=true
  ·rw[if_pos hm] at h1;simp only[hm,if_true];exact st.bxN i (by rw[<- h1];exact hn)
  ·simp[hm]
theorem W.frzB{c:Code}{Q:Exit->Sg->Prop}(id:Nat){d d':D}(ids:List Nat){bx':List (Nat×Bx)}{env':List (Nat×D)}(hb0:σ.box id=some (.var d))(he:d.brw=d')(hnp:d'.np=true)(hid:u6 ids id=false)(hb:n8 ids σ.bx=bx')
 (hE:FW id d' σ.env=env') (hoE:C0 ids env'=true) (hoB:ER ids bx'=true) (hpn:∀ id b,C.pin id=some b->u6 ids id=true) (h:W P C c Q ⟨σ.n,env',bx'⟩):W P C c Q σ:=
 fun a w hs=>h a w (St.frzB hb0 he hnp hid hb hE hoE hoB hpn hs)
def D.brwR:D->D
 | .tup ds=>.tup (ds.map D.brw)
 | d=>d.brw
theorem RV.brwR{G G' L:Nat->Prop}{r:D}{v:Value}{F:List Nat}(h:RV w ρ G L r v F)(hF:∀ b∈F,G' b)(hG:∀ b,G b->b<w.heap.size->G' b):RV w ρ G' L r.brwR v []:=by
 cases r with
 | tup ds=>
  obtain⟨vs,Fs,h1,h2,h3,h4⟩:=h;refine⟨vs,fun _=>[],h1,by simp[h2], ?_,fun k hk=>?_⟩
  ·symm;rw[List.flatMap_eq_nil_iff];intros;rfl
  ·have hk':k<ds.length:=by simpa using hk
   obtain⟨h5,h6⟩:=h4 k hk'
   have e:(ds.map D.brw)[k]=ds[k].brw:=by simp
   rw[e];exact⟨by rw[KE];exact h5,h6.brw (fun b hb=>hF b (by rw[h3];exact List.mem_flatMap.2 ⟨k,List.mem_range.2 hk',hb⟩)) hG⟩
 | _=>
  have h1:=h.1;have h2:=(ZT h1).1 h;exact(ZT (by rw[D.brwR,KE];exact h1;all_goals (intro ds hc;cases hc))).2 (by rw[D.brwR];exact h2.brw hF hG;all_goals (intro ds hc;cases hc))
theorem R.callZ{f:FuncId}[CaT P f]{t:Nat}{args:List Operand}{tys:Array TypeId}{rt:TypeId}{gl:List (Nat×D)}{ds:List D}{r r':D}
 (hF:Fn P gl f ds r) (hgl:C.gl=gl) (hb:Bors C.gl σ args ds) (hr:FrsR r) (hr':r.brwR=r') (ht:t<σ.n) :
 OpS P C ⟨some t,.call { callee:=.value (.func f),args:=args.toArray,argTypes:=tys },rt,pos,aft,g⟩ σ (σ.set t r'):=by
 subst hgl;subst hr';intro a w ⟨ρ,Fe,Fb,st⟩ K Q hK;refine Z7 (QP a w) (by simp) ?_;rw[Oper.uponIn_enter]
 have hc:=hF w (fun b=>b<w.heap.size) (args.map a.eval) (fun g d hg=>by
  obtain⟨_,cs,e,fz,h1,h2⟩:=GU st g d hg
  exact⟨(Array.getElem?_eq_some_iff.1 h1).1,cs,e,fz,h1,h2⟩) (by simp[hb.len]) (hb.ok st)
 simp only[List.map_toArray];refine⟨(fun h=>by cases h),(R2 (Calls.mono hc ?_))⟩;rintro e w' ⟨v,F,rfl,hext,hnd,hnew,hv⟩;have hlt:=st.lt
 have hput:(a.put (some t) v).tmps[t]? = some v:=by rw[v7 a t v t (by rw[st.size];exact ht)];simp
 refine hK _ _ ⟨ρ,upd Fe t [],Fb,st.ext ht hext List.nodup_nil (by simp) (RV.slot ?_ hput)⟩
 have h0:RV w' ρ (fun _=>False) (fun id=>(σ.box id).isSome) r v F:=by
  refine hv.map Frs hr (fun d v F' hF' hd hx=>?_);have h1:=hx.frs (G':=fun _=>False) hd;exact h1.mono (fun _ _ _=>rfl) (fun b hb _=>hb.elim) (fun id hid=>hid.elim)
 exact h0.brwR (fun b hb=>⟨st.okN b (hnew b hb),fun ho=>by have:=hlt b (XH ho);have:=hnew b hb;omega⟩) (fun _ h _=>h.elim)
theorem St.takeB{id t e z:Nat}{l:List D}(h:σ.get t=some (.alb id 0 []))(hb:σ.box id=some (.var (.sl (some e) z l)))(hs:St C σ a w) :
 St C ((σ.putB id (.var .dead)).upd t (.sl (some e) z l)) a w:=by
 obtain⟨ρ,Fe,Fb,st⟩:=hs;obtain⟨hFt,hid,v,hv,hcell⟩:=st.env t _ h;obtain⟨cs,e0,F',q1,q2,q3⟩:=st.bx id _ hb;have hlen:=q2.len
 obtain⟨v0,hv0⟩:∃ v0,cs.toList=[v0]:=by
  have:cs.toList.length=1:=hlen
  match hcs:cs.toList,this with
  | [x],_=>exact⟨x,rfl⟩
 have hvv:v0=v:=by
  have:cs[0]? = some v0:=by rw[<- Array.getElem?_toList,hv0];rfl
  simp only[World.cell?,q1] at hcell;rw[this] at hcell;cases hcell;rfl
 subst hvv
 have hnd:(ρ id::F').Nodup:=by have:=st.nodB id;rw[q3] at this;exact this
 have hmem:∀ b,b∈F'->b∈Fb id:=fun b hb=>by rw[q3];exact List.mem_cons_of_mem _ hb
 have hin:ρ id∈Fb id:=by rw[q3];simp
 have hot:∀ b,own (upd Fe t F') (upd Fb id [ρ id]) b->own Fe Fb b:=by
  rintro b (⟨u,hu⟩|⟨i,hi⟩)
  ·by_cases hut:u=t
   ·subst hut;rw[j3] at hu;exact .inr ⟨id,hmem b hu⟩
   ·rw[q8 hut] at hu;exact .inl ⟨u,hu⟩
  ·by_cases hii:i=id
   ·subst hii;rw[j3] at hi;simp at hi;subst hi;exact .inr ⟨i,hin⟩
   ·rw[q8 hii] at hi;exact .inr ⟨i,hi⟩
 have hg:∀ b,gd C Fe Fb b->gd C (upd Fe t F') (upd Fb id [ρ id]) b:=fun b hb=>⟨hb.1,fun hc=>hb.2 (hot b hc)⟩
 have hbox:∀ i,((σ.putB id (.var .dead)).upd t (.sl (some e) z l)).box i=if i=id then some (.var .dead) else σ.box i:=fun i=>by
  rw[SG,F9];by_cases hi:i=id
  ·subst hi;simp[hb]
  ·simp[hi]
 have hL:∀ i,(σ.box i).isSome=true->(((σ.putB id (.var .dead)).upd t (.sl (some e) z l)).box i).isSome=true:=fun i hi=>by
  rw[hbox];by_cases hii:i=id
  ·simp[hii]
  ·simpa [hii] using hi
 refine⟨ρ,upd Fe t F',upd Fb id [ρ id],{
  size:=st.size
  defs:=st.defs
  pin:=fun i b hp=>⟨(st.pin i b hp).1,hL i (st.pin i b hp).2⟩
  env:=fun u x hx=>?_
  envN:=fun u hu=>?_
  bx:=fun i b hd=>?_
  bxN:=fun i hn=>?_
  nodE:=fun u=>?_
  nodB:=fun i=>?_
  dEE:=fun u u' hne b hb1 hb2=>?_
  dEB:=fun u i b hb1 hb2=>?_
  dBB:=fun i i' hne b hb1 hb2=>?_
  new:=fun b hb=>st.new b (hot b hb)
  kept:=st.kept
  os:=st.os
  tape:=⟨st.tape.tp,st.tape.dr⟩
  output:=st.output
  grown:=st.grown
  gl:=st.gl
  okN:=st.okN
  okO:=fun b hb=>st.okO b (hot b hb) }⟩
 ·rw[M5,Y2] at hx;by_cases hut:u=t
  ·subst hut;simp only[if_true,h,Option.map_some] at hx;cases hx;rw[j3];refine(j2 rfl).2 ⟨v0,hv, ?_⟩;simp only[VR,D.isAgg,Bool.false_eq_true,if_false];rw[hv0] at q2;exact q2.mono (fun _ _ _=>rfl) (fun b hb _=>hg b hb) (fun i hi=>⟨hL i hi,rfl⟩)
  ·simp only[hut,if_false,Option.map_eq_some_iff] at hx;obtain⟨x0,hx0,rfl⟩:=hx;rw[q8 hut];have hsr:=st.env u x0 hx0
   have hkeep:SR w ρ (gd C (upd Fe t F') (upd Fb id [ρ id])) (fun i=>(((σ.putB id (.var .dead)).upd t (.sl (some e) z l)).box i).isSome) a u x0 (Fe u):=
    PR hsr (fun _ _ _=>rfl) (fun b hb _=>hg b hb) hL (fun _ _ _ _ h=>h)
   cases x0 with
   | alb i off path=>
    simp only[H3];by_cases hii:i=id
    ·subst hii;simp only[Nat.beq_refl,cond_true];obtain⟨h1,_,v1,h2,_⟩:=hsr;exact⟨h1,v1,h2⟩
    ·simp only[nbeq hii,cond_false];exact hkeep
   | _=>exact hkeep
 ·rw[M5,Y2] at hu;by_cases hut:u=t
  ·subst hut;simp[h] at hu
  ·simp only[hut,if_false,Option.map_eq_none_iff] at hu;rw[q8 hut];exact st.envN u hu
 ·rw[hbox] at hd;by_cases hii:i=id
  ·subst hii;simp only[if_true,Option.some.injEq] at hd;subst hd;rw[j3];refine⟨cs,e0,[],q1, ?_,rfl⟩;rw[hv0];refine .dead v0 ?_;rw[hv0] at q2;exact q2.one v0 (by simp)
  ·simp only[hii,if_false] at hd;rw[q8 hii];exact(st.bx i b hd).mono (fun _ _ _=>rfl) (fun b hb _=>hg b hb) (fun i hi=>⟨hL i hi,rfl⟩)
 ·rw[hbox] at hn;by_cases hii:i=id
  ·simp[hii] at hn
  ·simp only[hii,if_false] at hn;rw[q8 hii];exact st.bxN i hn
 ·by_cases hut:u=t
  ·subst hut;rw[j3];exact(List.nodup_cons.1 hnd).2
  ·rw[q8 hut];exact st.nodE u
 ·by_cases hii:i=id
  ·subst hii;rw[j3];simp
  ·rw[q8 hii];exact st.nodB i
 ·by_cases hut:u=t
  ·subst hut;rw[j3] at hb1;rw[q8 (fun h=>hne h.symm)] at hb2;exact st.dEB u' id b hb2 (hmem b hb1)
  ·rw[q8 hut] at hb1;by_cases hut':u'=t
   ·subst hut';rw[j3] at hb2;exact st.dEB u id b hb1 (hmem b hb2)
   ·rw[q8 hut'] at hb2;exact st.dEE u u' hne b hb1 hb2
 ·by_cases hii:i=id
  ·subst hii;rw[j3] at hb2;simp at hb2;subst hb2;by_cases hut:u=t
   ·subst hut;rw[j3] at hb1;exact(List.nodup_cons.1 hnd).1 hb1
   ·rw[q8 hut] at hb1;exact st.dEB u i _ hb1 hin
  ·rw[q8 hii] at hb2;by_cases hut:u=t
   ·subst hut;rw[j3] at hb1;exact st.dBB id i (fun h=>hii h.symm) b (hmem b hb1) hb2
   ·rw[q8 hut] at hb1;exact st.dEB u i b hb1 hb2
 ·have key:∀ i b,b∈upd Fb id [ρ id] i->b∈Fb i:=fun i b hb=>by
   by_cases hii:i=id
   ·subst hii;rw[j3] at hb;simp at hb;subst hb;exact hin
   ·rw[q8 hii] at hb;exact hb
  exact st.dBB i i' hne b (key i b hb1) (key i' b hb2)
theorem UU{o:Oper}{σ0:Sg}(h:∀ a w,St C σ a w->St C σ0 a w)(k:OpS P C o σ0 σ'):OpS P C o σ σ':=fun a w hs=>k a w (h a w hs)
theorem St.viewB{id:Nat}{d d':D}(hb:σ.box id=some (.var d))(h:∀ (w:World) (ρ:Nat->Nat) (G L:Nat->Prop) (cs:List Value) (F:List Nat),Rc w ρ G L true d cs F->Rc w ρ G L true d' cs F)(hs:St C σ a w) :
 St C { σ with bx:=setb id (.var d') σ.bx } a w:=by
 obtain⟨ρ,Fe,Fb,st⟩:=hs
 have hbox:∀ i,(({ σ with bx:=setb id (.var d') σ.bx }:Sg).box i)=if i=id then some (.var d') else σ.box i:=fun i=>by
  show lk (setb id (.var d') σ.bx) i=_;rw[RX];by_cases hi:i=id
  ·subst hi;have:lk σ.bx i=some (.var d):=hb;simp[this]
  ·simp[hi];rfl
 have hiso:∀ i,(({ σ with bx:=setb id (.var d') σ.bx }:Sg).box i).isSome=(σ.box i).isSome:=fun i=>by
  rw[hbox];by_cases hi:i=id
  ·subst hi;simp[hb]
  ·simp[hi]
 have hfun:(fun i=>(({ σ with bx:=setb id (.var d') σ.bx }:Sg).box i).isSome=true)=fun i=>(σ.box i).isSome=true:=by
  funext i;rw[hiso]
 refine⟨ρ,Fe,Fb,{
  size:=st.size
  defs:=st.defs
  pin:=fun i b hp=>⟨(st.pin i b hp).1,by rw[hiso];exact(st.pin i b hp).2⟩
  env:=fun u x hx=>by rw[hfun];exact st.env u x hx
  envN:=st.envN
  bx:=fun i b hd=>?_
  bxN:=fun i hn=>st.bxN i (by have:=hiso i;rw[hn] at this;simpa using this.symm)
  nodE:=st.nodE
  nodB:=st.nodB
  dEE:=st.dEE
  dEB:=st.dEB
  dBB:=st.dBB
  new:=st.new
  kept:=st.kept
  os:=st.os
  tape:=⟨st.tape.tp,st.tape.dr⟩
  output:=st.output
  grown:=st.grown
  gl:=st.gl
  okN:=st.okN
  okO:=st.okO }⟩
 rw[hfun];rw[hbox] at hd;by_cases hi:i=id
 ·subst hi;simp only[if_true,Option.some.injEq] at hd;subst hd;obtain⟨cs,e,F',q1,q2,q3⟩:=st.bx i _ hb;exact⟨cs,e,F',q1,h _ _ _ _ _ _ q2,q3⟩
 ·simp only[hi,if_false] at hd;exact st.bx i b hd
end Go.Sx

namespace Go.Sx
variable{pos:String}{aft:Array Edge}{g:Option (Nat×Bool)}
variable{P:Program}{C:Ctx}{σ σ' σ1:Sg}{a:Act}{w w':World}{ρ:Nat->Nat}{Fe Fe' Fb:Nat->List Nat}
theorem MN{c:Code}{b:Frame}{k:List Item}{cs:List Frame}:step P (lone (b.atR a (.code (.scope c)::k)) cs w)=.next (lone (b.atR a (.code c::.inScope c::k)) cs w):=
 step_lone_go (by simp[stepG,stepG.exec,Frame.atR])
theorem HU{c:Code}{b:Frame}{k:List Item}{cs:List Frame}:step P (lone (b.atR a (.inScope c::k)) cs w)=.next (lone (b.atR a k) cs w):=
 step_lone_go (by simp[stepG,stepG.exec,Frame.atR])
theorem ZC{c:Code}{id:Nat}{k:List Item}:exitTo id (.inScope c::k)=exitTo id k:=by simp[exitTo]
theorem AV{F:Fence}{n:Nat}{c:Code}{Q:Exit->Act->World->Prop}(h:c.wpIn F n P (fun e a w=>(∀ l,e≠.goto l)/\Q e a w) a w):(Code.scope c).wpIn F n P Q a w:=by
 intro b k cs hro hbf hr;obtain⟨e,a₁,w₁,⟨hg,hq⟩,harr⟩:=h b (.inScope c::k) cs hro hbf hr;have s1:StepsIn (Machine.fenced P F) P (lone (b.atR a (.code (.scope c)::k)) cs w) (lone (b.atR a (.code c::.inScope c::k)) cs w):=.one (fenced_calm hbf hr rfl) MN
 cases e with
 | normal=>exact⟨.normal,a₁,w₁,hq,StepsIn.trans s1 (StepsIn.trans harr (.one (fenced_calm hbf hr rfl) HU))⟩
 | exit id=>
  refine⟨.exit id,a₁,w₁,hq,.of_steps s1 ⟨fun k' hk=>harr.1 k' (by rw[ZC];exact hk),fun h1 hk=>harr.2 h1 (by rw[ZC];exact hk)⟩⟩
 | goto l=>exact absurd rfl (hg l)
 | ret=>exact⟨_,a₁,w₁,hq,.of_steps s1 harr⟩
 | panic ch=>exact⟨_,a₁,w₁,hq,.of_steps s1 harr⟩
 | outgrown=>exact⟨_,a₁,w₁,hq,.of_steps s1 harr⟩
theorem V.scope{rd:Option Nat}{ι:Type}{A:ι->Act->World->Prop}{Q:Exit->ι->Prop}{i:ι}{c:Code}(h:V P rd A c (fun e s=>(∀ l,e≠.goto l)/\Q e s) i):V P rd A (.scope c) Q i:=by
 intro a w hs;refine AV (Go.Code.wpIn_mono ?_ (h a w hs));rintro e a' w' ⟨s,hs',h1,h2⟩;exact⟨h1,s,hs',h2⟩
theorem V.rangeE{gl:List (Nat×D)}{W0:World}{G:Nat->Prop}{g p n:Nat}{asg body:Code}{env0:List (Nat×D)}{bx0:List (Nat×Bx)}{f:FuncId}[hf:CaT P f]{caps:List D}
 (ids:List Nat) (N:Nat) (xd:Nat->D) (bxs:Nat->List (Nat×Bx)) (Stop:Exit->List (Nat×Bx)->Prop) (J:Nat->Prop)
 {Q:Exit->Bool×Sg->Prop} {m0:Bool} (hgl:Glw gl W0 G) (hI:Itr P gl f caps ((List.range N).map xd)) (hg:lk env0 g=some (.fn f caps)) (hnp:D.nps caps=true) (hp:Nat.blt p n=true) (hpe:D7 env0=true) (hb0:bx0=bxs 0)
 (hkeys:(bxs 0).map Prod.fst=ids) (hf0:S0 (bxs 0)) (hxs:∀ k,(xd k).pur=true/\(xd k).np=true) (hJ:J 0)
 (hround:∀ k,k<N->J k->∀ C':Ctx,C'.gl=gl->(∀ id b,C'.pin id=some b->o3 ids id=true)->W P C' asg (fun e σ'=>e=.normal/\∀ C':Ctx,C'.gl=gl->(∀ id b,C'.pin id=some b->o3 ids id=true) ->
  W P C' body (fun e σ'=>(e=.normal/\(n8 ids σ'.bx=bxs (k+1)/\J (k+1))∨(e=.ret∨∃ id,e=.exit id)/\Stop e (n8 ids σ'.bx))/\S0 (n8 ids σ'.bx)) σ') ((⟨n,env0,bxs k⟩:Sg).set p (xd k)))
 (hN:J N->Q .normal (true,⟨n,env0,bxs N⟩)) (hS:∀ e bx,(e=.ret∨∃ id,e=.exit id)->Stop e bx->Q e (true,⟨n,env0,bx⟩)) :
 V P none (AM (JF gl W0 G)) (.rangeFunc (.tmp g) #[p] asg body) Q (m0,⟨n,env0,bx0⟩):=by
 subst hb0
 have hlen:((List.range N).map xd).length=N:=by simp
 have hkeys':∀ id,(lk (bxs 0) id).isSome=o3 ids id:=by
  intro id;rw[<- hkeys];generalize bxs 0=l
  induction l with
  | nil=>rfl
  | cons x r ih=>
   obtain⟨k,b⟩:=x;rw[v4];simp only[o3,List.map_cons,List.any_cons] at ih ⊢;by_cases hk:k=id
   ·subst hk;simp
   ·simp only[hk,if_false,ih];rw[nbeq (fun h=>hk h.symm)];simp
 have hnp':∀ d∈caps,d.np=true:=fun d hd=>by
  obtain⟨k,hk,rfl⟩:=List.mem_iff_getElem.1 hd;exact BH caps hnp k hk
 have e:∀ k (h:k<((List.range N).map xd).length),((List.range N).map xd)[k]=xd k:=fun k h=>by simp
 refine V.range (ids:=ids) (bxs:=bxs) (Stop:=Stop) J hgl hI hg hnp' (Nat.le_of_ble_eq_true hp) hpe hkeys' hf0 (fun k hk=>by rw[e];exact hxs k) hJ (fun k hk hJk=>?_) (by rw[hlen];exact hN) hS;rw[e];exact hround k (by simpa using hk) hJk
theorem R.appB{s id t e z bytes:Nat}{x:Operand}{l l' l2:List D}{ty rt:TypeId}[hT:SlT P ty e][hE:ElT P e z bytes]
 (h:σ.get s=some (.alb id 0 [])) (hb:σ.box id=some (.var (.sl (some e) z l))) {τ:Sg} (hτ:(σ.putB id (.var .dead)).upd s (.sl (some e) z l)=τ) (hs:τ.get s=some (.sl (some e) z l))
 (hx:SrcO C.gl τ x z l') (he:l++l'=l2) (hn:l.length+l'.length<=1073741824) (ht:t<σ.n) (hst:s≠t) (hby:bytes<=131072) :
 OpS P C ⟨some t,.call { callee:=.builtin .append,args:=#[.tmp s,x],argTypes:=#[ty,ty] },rt,pos,aft,g⟩ σ ((τ.kill s).set t (.sl (some e) z l2)):=by
 subst hτ;exact UU (fun a w hs=>St.takeB h hb hs) (Q6 (.inl rfl) hs hx he hn ht hst hby)
theorem G0{p s id off:Nat}{path:List Nat}{d0 d1 d' dx:D}{ty n rt:TypeId}{gg:Bool}[LdT P ty n gg]
 (h:σ.get p=some (.ptr id off path)) (hb:σ.box id=some (.var d0)) (hl:d0.loc path=some (off,d1)) (hx:σ.get s=some dx) (hrf:dx.isRef=false) (hnp:dx.np=true)
 (hn:dx.sz=n) (hz:d1.sz=n) (hu:d0.upd path dx=some d') (hna:d0.noArr path=true) :
 OpS P C ⟨none,.store ty (.tmp p) (.tmp s),rt,pos,aft,g⟩ σ ((σ.kill s).putB id (.var d')):=R.stO h hb hl hx hrf hnp hn (hn.trans hz.symm) hu hna
theorem V.asOwnB{gl:List (Nat×D)}{κ:Type}{R:Rel gl κ}{m:κ}{c:Code}{Q:Exit->κ×Sg->Prop}{id:Nat}(e z:Nat)(hb:σ.box id=some (.var .nils))(k:V P none (AM R) c Q (m,{ σ with bx:=setb id (.var (.sl (some e) z [])) σ.bx })):V P none (AM R) c Q (m,σ):=
 V.wk (fun C _ _ a w hs=>St.viewB hb (fun w ρ G L cs F h=>by cases h;exact .slN _ _) hs) k
theorem M8{gl:List (Nat×D)}{κ:Type}{R:Rel gl κ}{m:κ}{c:Code}{Q:Exit->κ×Sg->Prop}{live:List Nat}{env':List (Nat×D)}{bx':List (Nat×Bx)}{n':Nat}(hE:picks σ.get live=env')(hb:σ.bx=bx')(hn:σ.n=n')
 (h:V P none (AM R) c Q (m,⟨n',env',bx'⟩)):V P none (AM R) c Q (m,σ):=
 V.wk (fun C _ _ a w hs=>hs.weaken hn.symm hb.symm fun t d hd=>H6 (f:=σ.get) (l:=live) (by rw[hE];exact hd)) h
inductive EvP(gl:List (Nat×D))(σ:Sg):List Operand->List D->Prop
 | nil:EvP gl σ [] []
 | cons {x:Operand} {d:D} {xs:List Operand} {ds:List D} (h:ev gl σ x=some d) (hp:d.pur=true) (hn:d.np=true) (t:EvP gl σ xs ds):EvP gl σ (x::xs) (d::ds)
theorem EvP.len{gl:List (Nat×D)}{xs:List Operand}{ds:List D}(h:EvP gl σ xs ds):xs.length=ds.length:=by
 induction h with
 | nil=>rfl
 | cons _ _ _ _ ih=>simp[ih]
theorem EvP.ok{gl:List (Nat×D)}{xs:List Operand}{ds:List D}(h:EvP gl σ xs ds):∀ k (h:k<xs.length) (h':k<ds.length),ev gl σ xs[k]=some ds[k]/\ds[k].pur=true/\ds[k].np=true:=by
 induction h with
 | nil=>intro k hk;simp at hk
 | cons h hp hn t ih=>
  intro k hk hk'
  cases k with
  | zero=>exact⟨h,hp,hn⟩
  | succ k=>simpa using ih k (by simpa using hk) (by simpa using hk')
theorem I6{f:FuncId}[CaT P f]{t:Nat}{args:List Operand}{tys:Array TypeId}{rt:TypeId}{gl:List (Nat×D)}{ds:List D}{r:D}
 (hC:C.gl=gl) (hF:Fn P gl f ds r) (hb:EvP C.gl σ args ds) (ht:t<σ.n) :
 OpS P C ⟨some t,.call { callee:=.value (.func f),args:=args.toArray,argTypes:=tys },rt,pos,aft,g⟩ σ (σ.set t r):=by
 subst hC;exact R.callP hF hb.len hb.ok ht
theorem FrsR.two{x y:D}(h1:Frs x)(h2:Frs y):FrsR (.tup [x,y]):=.inl ⟨_,rfl,fun d hd=>by
 rcases List.mem_cons.1 hd with rfl|hd
 ·exact h1
 ·rw[List.mem_singleton.1 hd];exact h2⟩
inductive EndL(P:Program)(σ:Sg):List ResultVar->List D->Prop
 | nil:EndL P σ [] []
 | cons {rv:ResultVar} {d:D} {rs:List ResultVar} {ds:List D} (h:i7 σ rv=some d) (h1:d.isRef=false) (h2:d.np=true) (h3:SW P d rv) (t:EndL P σ rs ds):EndL P σ (rv::rs) (d::ds)
theorem EndL.len{rs:List ResultVar}{ds:List D}(h:EndL P σ rs ds):ds.length=rs.length:=by
 induction h with
 | nil=>rfl
 | cons _ _ _ _ _ ih=>simp[ih]
theorem EndL.ok{rs:List ResultVar}{ds:List D}(h:EndL P σ rs ds):∀ k (h:k<rs.length) (h':k<ds.length),i7 σ rs[k]=some ds[k]/\ds[k].isRef=false/\ds[k].np=true/\SW P ds[k] rs[k]:=by
 induction h with
 | nil=>intro k hk;simp at hk
 | cons h h1 h2 h3 t ih=>
  intro k hk hk'
  cases k with
  | zero=>exact⟨h,h1,h2,h3⟩
  | succ k=>simpa using ih k (by simpa using hk) (by simpa using hk')
theorem Ends.many{r1 r2:ResultVar}{rs:List ResultVar}{ds ds':List D}{e:Exit}(he:e=.normal∨e=.ret)(h:EndL P σ (r1::r2::rs) ds')(hd:ds'=ds)(hn:((r1::r2::rs).map (Z2 σ)).Nodup):Ends (r1::r2::rs) P (.tup ds) e σ:=by
 subst hd;exact⟨he,_,rfl,h.len,hn,h.ok⟩
end Go.Sx

namespace Go.Sx
variable{P:Program}{C:Ctx}{σ σ' σ1 σ2:Sg}{a:Act}{w w':World}{ρ ρ2:Nat->Nat}{Fe Fe' Fb Fb2:Nat->List Nat}
structure ExtO(O:Nat->Prop)(w w':World):Prop where
 os:w'.os=w.os
 tape:TpR w' w
 output:w'.output=w.output
 size:w.heap.size<=w'.heap.size
 block:∀ b,b<w.heap.size->¬ O b->w'.heap[b]? = w.heap[b]?
def Ctx.less(C:Ctx)(F:List Nat):Ctx:={ C with ok:=fun b=>C.ok b/\b∉F }
theorem SR_lend{G G' L L':Nat->Prop}{u:Nat}{d:D}{F:List Nat}(h:SR w ρ G L a u d F)
 (hh:∀ b,(G b∨b∈F)->b<w.heap.size->w'.heap[b]? = w.heap[b]?) (hg:∀ b,G b->b<w.heap.size->G' b) (hL:∀ i,L i->L' i/\ρ2 i=ρ i)
 (hc:∀ i off path,d=.alb i off path->L i->w'.heap[ρ i]? = w.heap[ρ i]?):SR w' ρ2 G' L' a u d F:=by
 cases d with
 | al s=>exact h
 | alb i off path=>
  obtain⟨hF,hid,x,hx,hs⟩:=h;obtain⟨q1,q2⟩:=hL i hid;exact⟨hF,q1,x,hx,by rw[q2,<- hs];exact World.cell?_of_block (hc i off path rfl hid)⟩
 | vw s z lo n=>exact h
 | va i off z n path lo=>
  obtain⟨hF,hid,h3⟩:=h;obtain⟨q1,q2⟩:=hL i hid;exact⟨hF,q1,by rw[q2];exact h3⟩
 | ep s z i off path=>exact h
 | tup ds=>
  obtain⟨vs,Fs,h1,h2,h3,h4⟩:=h;refine⟨vs,Fs,h1,h2,h3,fun k hk=>(h4 k hk).imp (fun hx=>hx) fun hx=>⟨hx.1,hx.2.mono (fun b hb=>hh b (hb.imp (fun hx=>hx) fun hm=>?_)) hg hL⟩⟩;rw[h3];exact List.mem_flatMap.2 ⟨k,List.mem_range.2 hk,hm⟩
 | dead=>exact h
 | _=>obtain⟨x,hx,hr⟩:=h;exact⟨x,hx,hr.mono hh hg hL⟩
theorem StW.lend(st:StW C σ a w ρ Fe Fb){F:List Nat}{lent new:Nat->Prop}(hw:ExtO (fun b=>∃ id,lent id/\b∈Fb id) w w')
 (hn:σ2.n=σ.n) (hρ:∀ id,(σ.box id).isSome=true->ρ2 id=ρ id) (hlent:∀ id,lent id->(σ.box id).isSome=true)
 (hget:∀ u d,σ2.get u=some d->∃ d0,σ.get u=some d0/\(d=d0/\(∀ id off path,d0=.alb id off path->¬ lent id)∨d=.dead/\∃ id off path,d0=.alb id off path))
 (hgetN:∀ u,σ2.get u=none->σ.get u=none)
 (hbox:∀ id,¬ (lent id∨new id)->σ2.box id=σ.box id/\Fb2 id=Fb id) (hboxS:∀ id,(lent id∨new id)->(σ2.box id).isSome=true)
 (hbx:∀ id x,σ2.box id=some x->(lent id∨new id)->BR w' ρ2 (gd (C.less F) Fe Fb2) (fun i=>(σ2.box i).isSome) (ρ2 id) x (Fb2 id))
 (hnod:∀ id,(lent id∨new id)->(Fb2 id).Nodup) (hdis:∀ id id',(lent id∨new id)->(lent id'∨new id')->id≠id'->∀ b,b∈Fb2 id->b∉Fb2 id')
 (hsrc:∀ id b,(lent id∨new id)->b∈Fb2 id->(w.heap.size<=b∨∃ i,lent i/\b∈Fb i)/\b∉F)
 (hF:∀ b∈F,w.heap.size<=b∨∃ i,lent i/\b∈Fb i) (hFl:∀ b∈F,b<w'.heap.size):StW (C.less F) σ2 a w' ρ2 Fe Fb2:=by
 have hlt:=st.lt;have hlo:∀ b,(∃ i,lent i/\b∈Fb i)->own Fe Fb b:=fun b ⟨i,_,hi⟩=>.inr ⟨i,hi⟩
 have hown:∀ b,own Fe Fb2 b->(own Fe Fb b∨w.heap.size<=b):=by
  rintro b (h|⟨id,hid⟩)
  ·exact .inl (.inl h)
  ·by_cases ht:lent id∨new id
   ·rcases(hsrc id b ht hid).1 with h|h
    ·exact .inr h
    ·exact .inl (hlo b h)
   ·rw[(hbox id ht).2] at hid;exact .inl (.inr ⟨id,hid⟩)
 have hunF:∀ u b,b∈Fe u->b<w.heap.size->w'.heap[b]? = w.heap[b]?:=fun u b hb hl=>hw.block b hl (fun⟨i,_,hi⟩=>st.dEB u i b hb hi);have hung:∀ b,gd C Fe Fb b->b<w.heap.size->w'.heap[b]? = w.heap[b]?:=fun b hb hl=>hw.block b hl (fun h=>hb.2 (hlo b h));have hunB:∀ id b,¬ lent id->b∈Fb id->b<w.heap.size->w'.heap[b]? = w.heap[b]?:=fun id b hn hb hl=>hw.block b hl (fun⟨i,hi,hb'⟩=>st.dBB i id (fun e=>hn (e▸hi)) b hb' hb)
 have hg:∀ b,gd C Fe Fb b->b<w.heap.size->gd (C.less F) Fe Fb2 b:=fun b hb hl=>by
  refine⟨⟨hb.1,fun hm=>?_⟩,fun ho=>?_⟩
  ·rcases hF b hm with h|h
   ·omega
   ·exact hb.2 (hlo b h)
  ·rcases hown b ho with h|h
   ·exact hb.2 h
   ·omega
 have hL:∀ i,(σ.box i).isSome=true->(σ2.box i).isSome=true/\ρ2 i=ρ i:=fun i hi=>by
  refine⟨?_,hρ i hi⟩;by_cases ht:lent i∨new i
  ·exact hboxS i ht
  ·rw[(hbox i ht).1];exact hi
 refine { size:=by rw[hn];exact st.size,defs:=st.defs,pin:=fun id b hp=>?_,env:=fun u d hd=>?_,envN:=fun u hu=>st.envN u (hgetN u hu),bx:=fun id x hx=>?_,bxN:=fun id hx=>?_,nodE:=st.nodE,nodB:=fun id=>?_,dEE:=st.dEE,dEB:=fun u id b hb hb'=>?_,dBB:=fun id id' hne b hb hb'=>?_,new:=fun b hb hk=>?_,kept:=fun b hk=>?_,os:=hw.os.trans st.os,tape:=hw.tape.trans st.tape,output:=hw.output.trans st.output,grown:=Nat.le_trans st.grown hw.size,gl:=fun g d hgd=>?_,okN:=fun b hb=>?_,okO:=fun b hb=>?_ }
 ·obtain⟨h1,h2⟩:=st.pin id b hp;obtain⟨h3,h4⟩:=hL id h2;exact⟨h4.trans h1,h3⟩
 ·obtain⟨d0,h0,h1⟩:=hget u d hd;have hs:=st.env u d0 h0
  rcases h1 with ⟨rfl,h1⟩|⟨rfl,id,off,path,rfl⟩
  ·refine SR_lend hs (fun b hb hl=>hb.elim (fun h=>hung b h hl) (fun h=>hunF u b h hl)) hg hL (fun i off path he hi=>?_)
   cases hbi:σ.box i with
   | none=>rw[hbi] at hi;cases hi
   | some x=>
    have hm:=(st.bx i x hbi).mem;exact hunB i _ (h1 i off path he) hm (hlt _ (.inr ⟨i,hm⟩))
  ·obtain⟨hF0,hid,v,hv,_⟩:=hs;exact⟨hF0,v,hv⟩
 ·by_cases ht:lent id∨new id
  ·exact hbx id x hx ht
  ·obtain⟨q1,q2⟩:=hbox id ht;rw[q1] at hx;rw[q2,hρ id (by rw[hx];rfl)];exact(st.bx id x hx).mono (fun b hb hl=>hb.elim (fun h=>hung b h hl) (fun h=>hunB id b (fun hl'=>ht (.inl hl')) h hl)) hg hL
 ·by_cases ht:lent id∨new id
  ·have:=hboxS id ht;rw[hx] at this;cases this
  ·obtain⟨q1,q2⟩:=hbox id ht;rw[q2];exact st.bxN id (by rw[<- q1];exact hx)
 ·by_cases ht:lent id∨new id
  ·exact hnod id ht
  ·rw[(hbox id ht).2];exact st.nodB id
 ·by_cases ht:lent id∨new id
  ·rcases(hsrc id b ht hb').1 with h|⟨i,hi,hbi⟩
   ·have:=hlt b (.inl ⟨u,hb⟩);omega
   ·exact st.dEB u i b hb hbi
  ·rw[(hbox id ht).2] at hb';exact st.dEB u id b hb hb'
 ·by_cases ht:lent id∨new id
  ·by_cases ht':lent id'∨new id'
   ·exact hdis id id' ht ht' hne b hb hb'
   ·rw[(hbox id' ht').2] at hb'
    rcases(hsrc id b ht hb).1 with h|⟨i,hi,hbi⟩
    ·have:=hlt b (.inr ⟨id',hb'⟩);omega
    ·exact st.dBB i id' (fun e=>ht' (.inl (e▸hi))) b hbi hb'
  ·rw[(hbox id ht).2] at hb;by_cases ht':lent id'∨new id'
   ·rcases(hsrc id' b ht' hb').1 with h|⟨i,hi,hbi⟩
    ·have:=hlt b (.inr ⟨id,hb⟩);omega
    ·exact st.dBB i id (fun e=>ht (.inl (e▸hi))) b hbi hb
   ·rw[(hbox id' ht').2] at hb';exact st.dBB id id' hne b hb hb'
 ·rcases hown b hb with h|h
  ·exact st.new b h hk
  ·have:=(st.kept b hk).2;have:=st.grown;omega
 ·obtain⟨h1,h2⟩:=st.kept b hk;exact⟨(hw.block b (Nat.lt_of_lt_of_le h2 st.grown) (fun h=>st.new b (hlo b h) hk)).trans h1,h2⟩
 ·obtain⟨h1,h2,h3⟩:=st.gl g d hgd;refine⟨h1,⟨h2,fun hm=>?_⟩,h3⟩
  rcases hF g hm with h|h
  ·have:=(st.kept g h1).2;have:=st.grown;omega
  ·exact st.new g (hlo g h) h1
 ·refine⟨st.okN b (Nat.le_trans hw.size hb),fun hm=>?_⟩;have:=hFl b hm;omega
 ·have hk:C.ok b:=by
   rcases hown b hb with h|h
   ·exact st.okO b h
   ·exact st.okN b h
  refine⟨hk,fun hm=>?_⟩
  rcases hb with ⟨u,hu⟩|⟨id,hid⟩
  ·rcases hF b hm with h|⟨i,hi,hbi⟩
   ·have:=hlt b (.inl ⟨u,hu⟩);omega
   ·exact st.dEB u i b hu hbi
  ·by_cases ht:lent id∨new id
   ·exact(hsrc id b ht hid).2 hm
   ·rw[(hbox id ht).2] at hid
    rcases hF b hm with h|⟨i,hi,hbi⟩
    ·have:=hlt b (.inr ⟨id,hid⟩);omega
    ·exact st.dBB i id (fun e=>ht (.inl (e▸hi))) b hbi hid
theorem StW.adopt{t:Nat}{d:D}{v:Value}{F:List Nat}(h:StW (C.less F) σ a w ρ Fe Fb)(ht:t<σ.n)(hF:F.Nodup)(hdE:∀ u,∀ b∈F,b∉Fe u)(hdB:∀ id,∀ b∈F,b∉Fb id)
 (hk:∀ b∈F,¬ C.keep b) (hok:∀ b∈F,C.ok b) (hv:SR w ρ (gd C (upd Fe t F) Fb) (fun id=>(σ.box id).isSome) (a.put (some t) v) t d F) :
 StW C (σ.set t d) (a.put (some t) v) w ρ (upd Fe t F) Fb:=by
 have hsz:t<a.tmps.size:=by rw[h.size];exact ht
 have hlt:=h.lt
 have hg:∀ b,gd (C.less F) Fe Fb b->b<w.heap.size->gd C (upd Fe t F) Fb b:=by
  rintro b ⟨⟨hok,hnF⟩,hb⟩ hlt';refine⟨hok, ?_⟩;rintro (⟨u,hu⟩|⟨id,hid⟩)
  ·by_cases hut:u=t
   ·subst hut;simp at hu;exact hnF hu
   ·rw[q8 hut] at hu;exact hb (.inl ⟨u,hu⟩)
  ·exact hb (.inr ⟨id,hid⟩)
 have hL:∀ id,(fun id=>(σ.box id).isSome=true) id->(fun id=>((σ.set t d).box id).isSome=true) id/\ρ id=ρ id:=fun id hid=>⟨hid,rfl⟩
 refine⟨?_,h.defs,h.pin, ?_, ?_, ?_,h.bxN, ?_,h.nodB, ?_, ?_,h.dBB, ?_,h.kept,h.os,⟨h.tape.tp,h.tape.dr⟩,h.output,h.grown,fun g d hgd=>⟨(h.gl g d hgd).1,(h.gl g d hgd).2.1.1,(h.gl g d hgd).2.2⟩,fun b hb=>(h.okN b hb).1, ?_⟩
 ·simp[Act.put,h.size]
 ·intro u x hx;rw[m7] at hx;by_cases hut:u=t
  ·subst hut;simp at hx;subst hx;simp only[j3];exact hv
  ·simp only[hut,if_false] at hx;obtain⟨d0,hd0,rfl⟩:=Option.map_eq_some_iff.1 hx;rw[q8 hut];exact O7 hut hsz (h.env u d0 hd0) (fun b _ hb=>rfl) hg hL (fun id off v _ hc=>hc)
 ·intro u hu;rw[m7] at hu;by_cases hut:u=t
  ·simp[hut] at hu
  ·simp only[hut,if_false,Option.map_eq_none_iff] at hu;rw[q8 hut];exact h.envN u hu
 ·intro id x hx;exact(h.bx id x hx).mono (fun b _ hb=>rfl) hg hL
 ·intro u;by_cases hut:u=t
  ·subst hut;simpa using hF
  ·rw[q8 hut];exact h.nodE u
 ·intro u u' huu b hb hb';by_cases hut:u=t
  ·subst hut;rw[q8 (fun e=>huu e.symm)] at hb';simp at hb;exact hdE u' b hb hb'
  ·rw[q8 hut] at hb;by_cases hut':u'=t
   ·subst hut';simp at hb';exact hdE u b hb' hb
   ·rw[q8 hut'] at hb';exact h.dEE u u' huu b hb hb'
 ·intro u id b hb hb';by_cases hut:u=t
  ·subst hut;simp at hb;exact hdB id b hb hb'
  ·rw[q8 hut] at hb;exact h.dEB u id b hb hb'
 ·rintro b (⟨u,hu⟩|⟨id,hid⟩) hkb
  ·by_cases hut:u=t
   ·subst hut;simp at hu;exact hk b hu hkb
   ·rw[q8 hut] at hu;exact h.new b (.inl ⟨u,hu⟩) hkb
  ·exact h.new b (.inr ⟨id,hid⟩) hkb
 ·rintro b (⟨u,hu⟩|⟨id,hid⟩)
  ·by_cases hut:u=t
   ·subst hut;simp at hu;exact hok b hu
   ·rw[q8 hut] at hu;exact(h.okO b (.inl ⟨u,hu⟩)).1
  ·exact(h.okO b (.inr ⟨id,hid⟩)).1
mutual
def D.ren(m:Nat->Nat):D->D
 | .ptr id off path=>.ptr (m id) off path
 | .bs id z n cap=>.bs (m id) z n cap
 | .map id=>.map (m id)
 | .agg l=>.agg (D.rens m l)
 | .fn f l=>.fn f (D.rens m l)
 | .tup l=>.tup (D.rens m l)
 | .ifc t d=>.ifc t (D.ren m d)
 | d=>d
def D.rens(m:Nat->Nat):List D->List D
 | []=>[]
 | d::r=>D.ren m d::D.rens m r
end
theorem B4(m:Nat->Nat)(l:List D):D.rens m l=l.map (D.ren m):=by
 induction l with
 | nil=>rfl
 | cons d r ih=>simp[D.rens,ih]
mutual
theorem EU(m:Nat->Nat)(d:D):(d.ren m).sz=d.sz:=by
 cases d with
 | agg l=>simp only[D.ren,E0];exact QG m l
 | _=>simp[D.ren,D.sz]
theorem QG(m:Nat->Nat)(l:List D):D.szs (D.rens m l)=D.szs l:=by
 cases l with
 | nil=>rfl
 | cons d r=>simp only[D.rens,K5,EU m d,QG m r]
end
theorem NL(m:Nat->Nat)(l:List D)(k:Nat):offk (l.map (D.ren m)) k=offk l k:=by
 unfold offk;rw[<- List.map_take,<- B4,QG]
theorem C7(m:Nat->Nat)(d:D):(d.ren m).isAgg=d.isAgg:=by cases d<;>rfl
theorem DR(m:Nat->Nat)(d:D)(h:d.isRef=false):(d.ren m).isRef=false:=by cases d<;>first|rfl|simp[D.isRef] at h
theorem Rc.ren{G L L':Nat->Prop}{m:Nat->Nat}{p:Bool}{d:D}{cs:List Value}{F:List Nat}(h:Rc w ρ G L p d cs F)(hL:∀ i,L i->L' (m i)/\ρ2 (m i)=ρ i):Rc w ρ2 G L' p (d.ren m) cs F:=by
 induction h with
 | bool b=>exact .bool b
 | int n=>exact .int n
 | u8 x=>exact .u8 x
 | u16 x=>exact .u16 x
 | u32 x=>exact .u32 x
 | u64 x=>exact .u64 x
 | ik k n=>exact .ik k n
 | str s=>exact .str s
 | nils=>exact .nils
 | slN o z=>exact .slN o z
 | slE o z a=>exact .slE o z a
 | slI b off cs e fz cap z l hb hG hc hs hr ih=>exact .slI b off cs e fz cap z l hb hG hc hs (fun i hi=>(hr i hi).noL)
 | slO b cs e cap z l Fs hb hc hm hs ho1 hr ih=>exact .slO b cs e cap z l Fs hb hc hm hs ho1 (fun i hi=>(hr i hi).noL)
 | agg l cs Fs hs hr ih=>
  simp only[D.ren,B4]
  have:=Rc.agg (w:=w) (ρ:=ρ2) (G:=G) (L:=L') (p:=‹Bool›) (l.map (D.ren m)) cs Fs (by rw[<- B4,QG];exact hs) (fun k hk=>by
   have hk':k<l.length:=by simpa using hk
   have:=ih k hk';simp only[List.getElem_map,NL,EU]
   exact this)
  simpa using this
 | arr n z l cs hl hs hr ih=>exact .arr n z l cs hl hs (fun i hi=>(hr i hi).noL)
 | ptr id off path hid=>
  obtain⟨h1,h2⟩:=hL id hid;simp only[D.ren];rw[<- h2];exact .ptr (m id) off path h1
 | bs id z n cap hid hcap=>
  obtain⟨h1,h2⟩:=hL id hid;simp only[D.ren];rw[<- h2];exact .bs (m id) z n cap h1 hcap
 | nilp=>exact .nilp
 | rp d b off cs e fz hb hG hs hr ih=>exact .rp d b off cs e fz hb hG hs hr.noL
 | map id hid=>
  obtain⟨h1,h2⟩:=hL id hid;simp only[D.ren];rw[<- h2];exact .map (m id) h1
 | nilmap=>exact .nilmap
 | fn f caps vs hl ha hr ih=>
  simp only[D.ren,B4]
  exact .fn f (caps.map (D.ren m)) vs (by simpa using hl) (fun k hk=>by
   have hk':k<caps.length:=by simpa using hk
   rw[List.getElem_map,C7];exact ha k hk') (fun k hk=>by
   have hk':k<caps.length:=by simpa using hk
   rw[List.getElem_map];exact ih k hk')
 | nilf=>exact .nilf
 | yld l=>exact .yld l
 | ifc t d v ha hr ih=>simp only[D.ren];exact .ifc t (d.ren m) v (by rw[C7];exact ha) ih
 | nili=>exact .nili
 | dead v h=>exact .dead v h
theorem Rc.unren{G L L':Nat->Prop}{m:Nat->Nat}{p:Bool}{d:D}{d':D}{cs:List Value}{F:List Nat}(h:Rc w ρ G L p d' cs F)(hd:d'=d.ren m)(hL:∀ i,L (m i)->L' i/\ρ2 i=ρ (m i)):Rc w ρ2 G L' p d cs F:=by
 induction h generalizing d with
 | bool b=>cases d<;>simp only[D.ren,reduceCtorEq] at hd;cases hd;exact .bool b
 | int n=>cases d<;>simp only[D.ren,reduceCtorEq] at hd;cases hd;exact .int n
 | u8 x=>cases d<;>simp only[D.ren,reduceCtorEq] at hd;cases hd;exact .u8 x
 | u16 x=>cases d<;>simp only[D.ren,reduceCtorEq] at hd;cases hd;exact .u16 x
 | u32 x=>cases d<;>simp only[D.ren,reduceCtorEq] at hd;cases hd;exact .u32 x
 | u64 x=>cases d<;>simp only[D.ren,reduceCtorEq] at hd;cases hd;exact .u64 x
 | ik k n=>cases d<;>simp only[D.ren,reduceCtorEq] at hd;cases hd;exact .ik k n
 | str s=>cases d<;>simp only[D.ren,reduceCtorEq] at hd;cases hd;exact .str s
 | nils=>cases d<;>simp only[D.ren,reduceCtorEq] at hd;exact .nils
 | slN o z=>cases d<;>simp only[D.ren,reduceCtorEq] at hd;cases hd;exact .slN o z
 | slE o z a=>cases d<;>simp only[D.ren,reduceCtorEq] at hd;cases hd;exact .slE o z a
 | slI b off cs e fz cap z l hb hG hc hs hr ih=>cases d<;>simp only[D.ren,reduceCtorEq] at hd;cases hd;exact .slI b off cs e fz cap z l hb hG hc hs (fun i hi=>(hr i hi).noL)
 | slO b cs e cap z l Fs hb hc hm hs ho1 hr ih=>cases d<;>simp only[D.ren,reduceCtorEq] at hd;cases hd;exact .slO b cs e cap z l Fs hb hc hm hs ho1 (fun i hi=>(hr i hi).noL)
 | agg l cs Fs hs hr ih=>
  cases d with
  | agg l0=>
   simp only[D.ren,D.agg.injEq,B4] at hd;subst hd
   have:=Rc.agg (w:=w) (ρ:=ρ2) (G:=G) (L:=L') (p:=‹Bool›) l0 cs Fs (by rw[<- B4,QG] at hs;exact hs) (fun k hk=>by
    have:=ih k (by simpa using hk) (d:=l0[k]) (by simp);simp only[List.getElem_map,NL,EU] at this
    exact this)
   simpa using this
  | _=>simp only[D.ren,reduceCtorEq] at hd
 | arr n z l cs hl hs hr ih=>cases d<;>simp only[D.ren,reduceCtorEq] at hd;cases hd;exact .arr n z l cs hl hs (fun i hi=>(hr i hi).noL)
 | ptr id off path hid=>
  cases d with
  | ptr id0 off0 path0=>
   simp only[D.ren,D.ptr.injEq] at hd;obtain⟨rfl,rfl,rfl⟩:=hd;obtain⟨h1,h2⟩:=hL id0 hid;rw[<- h2];exact .ptr id0 _ _ h1
  | _=>simp only[D.ren,reduceCtorEq] at hd
 | bs id z n cap hid hcap=>
  cases d with
  | bs id0 z0 n0 cap0=>
   simp only[D.ren,D.bs.injEq] at hd;obtain⟨rfl,rfl,rfl,rfl⟩:=hd;obtain⟨h1,h2⟩:=hL id0 hid;rw[<- h2];exact .bs id0 _ _ _ h1 hcap
  | _=>simp only[D.ren,reduceCtorEq] at hd
 | nilp=>cases d<;>simp only[D.ren,reduceCtorEq] at hd;exact .nilp
 | rp d0 b off cs e fz hb hG hs hr ih=>cases d<;>simp only[D.ren,reduceCtorEq] at hd;cases hd;exact .rp d0 b off cs e fz hb hG hs hr.noL
 | map id hid=>
  cases d with
  | map id0=>
   simp only[D.ren,D.map.injEq] at hd;subst hd;obtain⟨h1,h2⟩:=hL id0 hid;rw[<- h2];exact .map id0 h1
  | _=>simp only[D.ren,reduceCtorEq] at hd
 | nilmap=>cases d<;>simp only[D.ren,reduceCtorEq] at hd;exact .nilmap
 | fn f caps vs hl ha hr ih=>
  cases d with
  | fn f0 caps0=>
   simp only[D.ren,D.fn.injEq,B4] at hd;obtain⟨rfl,rfl⟩:=hd;exact .fn f caps0 vs (by simpa using hl) (fun k hk=>by have:=ha k (by simpa using hk);rw[List.getElem_map,C7] at this;exact this) (fun k hk=>ih k (by simpa using hk) (by simp))
  | _=>simp only[D.ren,reduceCtorEq] at hd
 | nilf=>cases d<;>simp only[D.ren,reduceCtorEq] at hd;exact .nilf
 | yld l=>cases d<;>simp only[D.ren,reduceCtorEq] at hd;cases hd;exact .yld l
 | ifc t d0 v ha hr ih=>
  cases d with
  | ifc t1 d1=>
   simp only[D.ren,D.ifc.injEq] at hd;obtain⟨rfl,rfl⟩:=hd;exact .ifc t d1 v (by rw[C7] at ha;exact ha) (ih rfl)
  | _=>simp only[D.ren,reduceCtorEq] at hd
 | nili=>cases d<;>simp only[D.ren,reduceCtorEq] at hd;exact .nili
 | dead v h=>cases d<;>simp only[D.ren,reduceCtorEq] at hd;exact .dead v h
theorem VR.ren{G L L':Nat->Prop}{m:Nat->Nat}{d:D}{v:Value}{F:List Nat}(h:VR w ρ G L d v F)(hL:∀ i,L i->L' (m i)/\ρ2 (m i)=ρ i):VR w ρ2 G L' (d.ren m) v F:=by
 unfold VR at *;rw[C7]
 cases hd:d.isAgg<;>simp only[hd,if_true,if_false,Bool.false_eq_true] at h ⊢
 ·exact h.ren hL
 ·obtain⟨cs,rfl,h⟩:=h;exact⟨cs,rfl,h.ren hL⟩
theorem VR.unren{G L L':Nat->Prop}{m:Nat->Nat}{d:D}{v:Value}{F:List Nat}(h:VR w ρ G L (d.ren m) v F)(hL:∀ i,L (m i)->L' i/\ρ2 i=ρ (m i)):VR w ρ2 G L' d v F:=by
 unfold VR at *;rw[C7] at h
 cases hd:d.isAgg<;>simp only[hd,if_true,if_false,Bool.false_eq_true] at h ⊢
 ·exact h.unren rfl hL
 ·obtain⟨cs,rfl,h⟩:=h;exact⟨cs,rfl,h.unren rfl hL⟩
theorem RV.ren{G L L':Nat->Prop}{m:Nat->Nat}{d:D}{v:Value}{F:List Nat}(h:RV w ρ G L d v F)(hL:∀ i,L i->L' (m i)/\ρ2 (m i)=ρ i):RV w ρ2 G L' (d.ren m) v F:=by
 cases d with
 | tup ds=>
  obtain⟨vs,Fs,h1,h2,h3,h4⟩:=h;simp only[D.ren,B4];refine⟨vs,Fs,h1,by simpa using h2,by simpa using h3,fun k hk=>?_⟩
  have hk':k<ds.length:=by simpa using hk
  rw[List.getElem_map];exact⟨DR m _ (h4 k hk').1,(h4 k hk').2.ren hL⟩
 | _=>exact⟨DR m _ h.1,h.2.ren hL⟩
end Go.Sx

namespace Go.Sx
variable{P:Program}{C:Ctx}{σ σ' σ1 σ2:Sg}{a:Act}{w w':World}{ρ ρ2:Nat->Nat}{Fe Fe' Fb Fb2:Nat->List Nat}
structure Hand(bx:List (Nat×Bx))(w:World)(ρ:Nat->Nat)(G:Nat->Prop)(Fb:Nat->List Nat):Prop where
 box:∀ id x,lk bx id=some x->BR w ρ G (fun i=>(lk bx i).isSome=true) (ρ id) x (Fb id)
 boxN:∀ id,lk bx id=none->Fb id=[]
 nodB:∀ id,(Fb id).Nodup
 dBB:∀ id id',id≠id'->∀ b,b∈Fb id->b∉Fb id'
 out:∀ id b,b∈Fb id->¬ G b
def FnB(P:Program)(gl:List (Nat×D))(f:FuncId)(ds:List D)(bx:List (Nat×Bx))(r:D)(bx' nw:List (Nat×Bx)):Prop:=
 ∀ (w:World) (G:Nat->Prop) (ρ:Nat->Nat) (Fb:Nat->List Nat) (vs:List Value),
  (∀ g d,(g,d)∈gl->G g/\∃ cs e fz,w.heap[g]? = some (.cells cs e fz)/\Rc w (fun x=>x) (fun _=>False) (fun _=>False) false d cs.toList []) ->
  (∀ b,G b->b<w.heap.size) ->
  vs.length=ds.length->(∀ k (h:k<ds.length),VR w ρ G (fun i=>(lk bx i).isSome=true) ds[k] (vs.getD k undef) [])->Hand bx w ρ G Fb ->
  Calls P f vs.toArray w (fun e w'=>∃ v F ρ' Fb',e=.returned v/\ExtO (fun b=>∃ id,b∈Fb id) w w'/\(∀ id,(lk bx id).isSome=true->ρ' id=ρ id)/\F.Nodup /\
   (∀ b,(b∈F∨∃ id,b∈Fb' id)->w.heap.size<=b∨∃ id,b∈Fb id)/\(∀ id,∀ b∈F,b∉Fb' id)/\(∀ b∈F,b<w'.heap.size) /\
   Hand (nw++bx') w' ρ' (fun b=>(G b∨w.heap.size<=b∨∃ id,b∈Fb id)/\b∉F/\¬ ∃ id,b∈Fb' id) Fb' /\
   RV w' ρ' (fun b=>(G b∨w.heap.size<=b∨∃ id,b∈Fb id)/\b∉F/\¬ ∃ id,b∈Fb' id) (fun i=>(lk (nw++bx') i).isSome=true) r v F)
def EndR(rs:List ResultVar)(P:Program)(r:D)(σ:Sg):Prop:=
 match rs with
 | [rv]=>i7 σ rv=some r/\r.isRef=false/\SW P r rv
 | rs=>∃ ds,r=.tup ds/\ds.length=rs.length/\(rs.map (Z2 σ)).Nodup/\∀ k (h:k<rs.length) (h':k<ds.length),i7 σ rs[k]=some ds[k]/\ds[k].isRef=false/\SW P ds[k] rs[k]
theorem EndR.out{fn:Func}{r:D}(st:StW C σ a w ρ Fe Fb)(hend:EndR fn.results.toList P r σ) :
 ∃ v,(results fn a.tmps).run P w=.ok v w/\∃ F,F.Nodup/\(∀ b∈F,∃ rv∈fn.results.toList,b∈(if(Z2 σ rv).2 then Fe (Z2 σ rv).1 else Fb (Z2 σ rv).1))/\RV w ρ (gd C Fe Fb) (fun id=>(σ.box id).isSome=true) r v F:=by
 have one:∀ rv,fn.results.toList=[rv]->i7 σ rv=some r/\r.isRef=false/\SW P r rv ->
  ∃ v,(results fn a.tmps).run P w=.ok v w/\∃ F,F.Nodup/\(∀ b∈F,∃ rv∈fn.results.toList,b∈(if(Z2 σ rv).2 then Fe (Z2 σ rv).1 else Fb (Z2 σ rv).1))/\RV w ρ (gd C Fe Fb) (fun id=>(σ.box id).isSome=true) r v F:=by
  rintro rv hrs ⟨h1,h2,h4⟩;obtain⟨v,F,hv1,hv2,hv3,hv4⟩:=XD (P:=P) st h1 h2 h4;refine⟨v, ?_,F,hv3,fun b hb=>⟨rv,by rw[hrs];simp,hv4 b hb⟩,(ZT h2).2 hv2⟩
  rw[G5 hrs (fun _=>v) w (fun k hk=>by
   have:k=0:=by simp at hk;omega
   subst this;exact hv1)]
  rfl
 have many:∀ rs,fn.results.toList=rs->rs.length≠1->(∃ ds,r=.tup ds/\ds.length=rs.length/\(rs.map (Z2 σ)).Nodup/\∀ k (h:k<rs.length) (h':k<ds.length),i7 σ rs[k]=some ds[k]/\ds[k].isRef=false/\SW P ds[k] rs[k]) ->
  ∃ v,(results fn a.tmps).run P w=.ok v w/\∃ F,F.Nodup/\(∀ b∈F,∃ rv∈fn.results.toList,b∈(if(Z2 σ rv).2 then Fe (Z2 σ rv).1 else Fb (Z2 σ rv).1))/\RV w ρ (gd C Fe Fb) (fun id=>(σ.box id).isSome=true) r v F:=by
  rintro rs hrs hne ⟨ds',rfl,hl',hnd,hall⟩
  have hk:∀ k,∃ vF:Value×List Nat,k<rs.length->∃ (h:k<rs.length) (h':k<ds'.length),
   (NU a.tmps rs[k]).run P w=.ok vF.1 w /\
   VR w ρ (gd C Fe Fb) (fun id=>(σ.box id).isSome) ds'[k] vF.1 vF.2/\vF.2.Nodup/\(∀ b∈vF.2,b∈(if(Z2 σ rs[k]).2 then Fe (Z2 σ rs[k]).1 else Fb (Z2 σ rs[k]).1)):=by
   intro k;by_cases hk:k<rs.length
   ·have hk':k<ds'.length:=by omega
    obtain⟨h1,h2,h4⟩:=hall k hk hk';obtain⟨v,F,q⟩:=XD (P:=P) st h1 h2 h4;exact⟨(v,F),fun _=>⟨hk,hk',q⟩⟩
   ·exact⟨(undef,[]),fun h=>absurd h hk⟩
  obtain⟨vF,hk⟩:=Classical.skolem.1 hk
  have hdis:∀ j k,j<rs.length->k<rs.length->j≠k->∀ b,b∈(vF j).2->b∉(vF k).2:=by
   intro j k hj hkk hjk b hb hb';obtain⟨h,h',q1,q2,q3,q4⟩:=hk j hj;obtain⟨g,g',p1,p2,p3,p4⟩:=hk k hkk;have e1:=q4 b hb;have e2:=p4 b hb'
   have hne:Z2 σ rs[j]≠Z2 σ rs[k]:=by
    intro he;have:=(List.getElem_inj (h₀:=by simpa using hj) (h₁:=by simpa using hkk) hnd).1 (by simpa using he);exact hjk this
   generalize Z2 σ rs[j]=x at e1 hne;generalize Z2 σ rs[k]=y at e2 hne;obtain⟨x1,x2⟩:=x;obtain⟨y1,y2⟩:=y
   cases x2<;>cases y2<;>simp at e1 e2 hne
   ·exact st.dBB x1 y1 hne b e1 e2
   ·exact st.dEB y1 x1 b e2 e1
   ·exact st.dEB x1 y1 b e1 e2
   ·exact st.dEE x1 y1 hne b e1 e2
  refine⟨.tuple ((List.range rs.length).map (fun k=>(vF k).1)).toArray, ?_,(List.range ds'.length).flatMap (fun k=>(vF k).2), ?_, ?_,_,(fun k=>(vF k).2),rfl,by simp[hl'],rfl, ?_⟩
  ·rw[G5 hrs (fun k=>(vF k).1) w (fun k hk'=>by obtain⟨_,_,q,_⟩:=hk k hk';exact q),if_neg hne]
  ·refine o9 (fun k hkk=>?_) (fun j k hj hkk=>hdis j k (by omega) (by omega));obtain⟨h,h',q1,q2,q3,q4⟩:=hk k (by omega);exact q3
  ·intro b hb;obtain⟨k,hk1,hk2⟩:=List.mem_flatMap.1 hb
   have hkl:k<rs.length:=by have:=List.mem_range.1 hk1;omega
   obtain⟨h,h',q1,q2,q3,q4⟩:=hk k hkl;exact⟨rs[k],by rw[hrs];exact List.getElem_mem hkl,q4 b hk2⟩
  ·intro k hkk;obtain⟨h,h',q1,q2,q3,q4⟩:=hk k (by omega);obtain⟨h1,h2,h4⟩:=hall k (by omega) hkk;refine⟨h2, ?_⟩
   have e:((List.range rs.length).map (fun k=>(vF k).1)).getD k undef=(vF k).1:=by
    have:k<rs.length:=by omega
    simp[List.getD_eq_getElem?_getD,List.getElem?_map,List.getElem?_range this]
   rw[e];exact q2
 cases hrs:fn.results.toList with
 | nil=>rw[hrs] at hend;rw[<- hrs];exact many [] hrs (by simp) hend
 | cons rv rest=>
  cases rest with
  | nil=>rw[hrs] at hend;rw[<- hrs];exact one rv hrs hend
  | cons rv2 rest=>rw[hrs] at hend;rw[<- hrs];exact many _ hrs (by simp) hend
def A3(ids:List Nat):List (Nat×Bx)->Prop
 | []=>True
 | (_,.var d)::r=>d.okB ids=true/\A3 ids r
 | (_,.mp l)::r=>(∀ kv∈l,kv.1.okB ids=true/\kv.2.okB ids=true)/\A3 ids r
theorem M9{ids:List Nat}{l:List (Nat×Bx)}(h:A3 ids l){t:Nat}{b:Bx}(hd:lk l t=some b):(∃ d,b=.var d/\d.okB ids=true)∨∃ m,b=.mp m/\∀ kv∈m,kv.1.okB ids=true/\kv.2.okB ids=true:=by
 induction l with
 | nil=>simp[lk] at hd
 | cons x r ih=>
  obtain⟨k,e⟩:=x;rw[v4] at hd
  cases e with
  | mp e=>
   by_cases hk:k=t
   ·simp only[hk,if_true,Option.some.injEq] at hd;subst hd;exact .inr ⟨e,rfl,h.1⟩
   ·simp only[hk,if_false] at hd;exact ih h.2 hd
  | var e=>
   by_cases hk:k=t
   ·simp only[hk,if_true,Option.some.injEq] at hd;subst hd;exact .inl ⟨e,rfl,h.1⟩
   ·simp only[hk,if_false] at hd;exact ih h.2 hd
theorem BR.okB{ids:List Nat}{G L:Nat->Prop}{b:Nat}{x:Bx}{F:List Nat}(h:BR w ρ G L b x F)(hx:(∃ d,x=.var d/\d.okB ids=true)∨∃ m,x=.mp m/\∀ kv∈m,kv.1.okB ids=true/\kv.2.okB ids=true):BR w ρ G (fun id=>u6 ids id=true/\L id) b x F:=by
 rcases hx with ⟨d,rfl,hd⟩|⟨m,rfl,hm⟩
 ·obtain⟨cs,e,F',h1,h2,h3⟩:=h;exact⟨cs,e,F',h1,h2.okB hd,h3⟩
 ·obtain⟨h1,es,clock,h2,h3,h4⟩:=h;refine⟨h1,es,clock,h2,h3,fun k hk=>?_⟩;obtain⟨q1,q2,q3⟩:=h4 k hk;obtain⟨o1,o2⟩:=hm _ (List.getElem_mem hk);exact⟨q1.okB o1,q2.okB o2,q3⟩
theorem RV.okB{ids:List Nat}{G L:Nat->Prop}{r:D}{v:Value}{F:List Nat}(h:RV w ρ G L r v F)(hr:r.okB ids=true):RV w ρ G (fun id=>u6 ids id=true/\L id) r v F:=by
 cases r with
 | tup ds=>
  obtain⟨vs,Fs,h1,h2,h3,h4⟩:=h;exact⟨vs,Fs,h1,h2,h3,fun k hk=>⟨(h4 k hk).1,(h4 k hk).2.okB (T6 ds (by simpa [D.okB] using hr) k hk)⟩⟩
 | _=>exact⟨h.1,h.2.okB hr⟩
def EndsB(rs:List ResultVar)(P:Program)(r:D)(ids:List Nat)(bx':List (Nat×Bx))(e:Exit)(σ:Sg):Prop:=
 (e=.normal∨e=.ret)/\EndR rs P r σ/\r.okB ids=true/\n8 ids σ.bx=bx'/\A3 ids bx'/\(∀ rv∈rs,(Z2 σ rv).2=false->u6 ids (Z2 σ rv).1=false)
theorem G7{α:Type}(l r:List (Nat×α))(t:Nat):lk (l++r) t=(match lk l t with|some x=>some x|none=>lk r t):=by
 induction l with
 | nil=>simp[lk]
 | cons x l ih=>
  obtain⟨k,d⟩:=x;simp only[List.cons_append,v4,ih]
  split<;>simp_all
theorem memN_fst{bx:List (Nat×Bx)}{id:Nat}(h:(lk bx id).isSome=true):o3 (bx.map Prod.fst) id=true:=by
 induction bx with
 | nil=>cases h
 | cons x r ih=>
  obtain⟨k,b⟩:=x;rw[v4] at h;simp only[o3,List.map_cons,List.any_cons,Bool.or_eq_true];by_cases hk:k=id
  ·subst hk;left;simp
  ·simp only[hk,if_false] at h;exact .inr (ih h)
theorem FnB.of{gl:List (Nat×D)}{f:FuncId}{fn:Func}{c:Code}{ds:List D}{bx bx' nw:List (Nat×Bx)}{r:D}{n:Nat}{ids:List Nat}(hf:P.funcs[f]? = some fn)(hb:fn.body=some c)(hnn:fn.ntmps=n)
 (hd:ds.all (fun d=>!d.isRef)=true) (hn:ds.length<=n)
 (h:∀ C:Ctx,C.gl=gl->(∀ id b,C.pin id=some b->o3 (bx.map Prod.fst) id=true)->W P C c (EndsB fn.results.toList P r ids (nw++bx')) ⟨n,ini 0 ds,bx⟩):FnB P gl f ds bx r bx' nw:=by
 subst hnn;intro w G ρ0 Fb0 vs hgl hGlt hl hv hand;refine calls_of_wp hf hb ?_
 let C:Ctx:=⟨w,fun b=>b<w.heap.size/\¬ ∃ id,b∈Fb0 id,fun b=>G b∨w.heap.size<=b∨∃ id,b∈Fb0 id,gl,none,fun id=>if(lk bx id).isSome then some (ρ0 id) else none,[]⟩
 have hget:∀ t d,(⟨fn.ntmps,ini 0 ds,bx⟩:Sg).get t=some d->∃ h:t<ds.length,ds[t]=d:=by
  intro t d hd;simp only[Sg.get,YE,Nat.zero_le,if_true,Nat.sub_zero] at hd;obtain⟨h,e⟩:=List.getElem?_eq_some_iff.1 hd;exact⟨h,e⟩
 have hown:∀ b,own (fun _=>[]) Fb0 b->∃ id,b∈Fb0 id:=by
  rintro b (⟨_,h⟩|h)
  ·cases h
  ·exact h
 have hbx:∀ id,(⟨fn.ntmps,ini 0 ds,bx⟩:Sg).box id=lk bx id:=fun id=>rfl
 have hFlt:∀ id b,b∈Fb0 id->b<w.heap.size:=fun id b hb=>by
  cases hx:lk bx id with
  | none=>rw[hand.boxN id hx] at hb;cases hb
  | some x=>exact(hand.box id x hx).lt b hb
 have hG2:∀ b,G b->gd C (fun _=>[]) Fb0 b:=fun b hb=>⟨.inl hb,fun ho=>by obtain⟨id,hid⟩:=hown b ho;exact hand.out id b hid hb⟩
 have hpin0:∀ id b,C.pin id=some b->ρ0 id=b/\(lk bx id).isSome=true:=fun id b hp=>by
  by_cases hx:(lk bx id).isSome=true
  ·simp only[C,hx,if_true,Option.some.injEq] at hp;exact⟨hp,hx⟩
  ·simp[C,hx] at hp
 have st:StW C ⟨fn.ntmps,ini 0 ds,bx⟩ { tmps:=vs.toArray++Array.replicate (fn.ntmps-vs.toArray.size) undef,defers:=[] } w ρ0 (fun _=>[]) Fb0:=by
  refine⟨?_,rfl,(fun id b hp=>hpin0 id b hp), ?_,fun _ _=>rfl, ?_,hand.boxN,fun _=>List.nodup_nil,hand.nodB,(fun _ _ _ _ h=>by cases h),(fun _ _ _ h=>by cases h),hand.dBB,fun b hb hc=>hc.2 (hown b hb), ?_,rfl,⟨rfl,Nat.le_refl _⟩,rfl,Nat.le_refl _, ?_,fun b hb=>.inr (.inl hb),fun b hb=>.inr (.inr (hown b hb))⟩
  ·simp[hl];omega
  ·intro t d hd';obtain⟨ht,rfl⟩:=hget t d hd'
   have hr:ds[t].isRef=false:=by
    have:=List.all_eq_true.1 hd ds[t] (List.getElem_mem ht);simpa using this
   refine(j2 hr).2 ⟨vs.getD t undef, ?_,(hv t ht).mono (fun _ _ _=>rfl) (fun b hb _=>hG2 b hb) (fun id hid=>⟨hid,rfl⟩)⟩
   have htv:t<vs.length:=by omega
   rw[Array.getElem?_append_left (by simpa using htv)];simp[htv]
  ·intro id x hx;exact(hand.box id x hx).mono (fun _ _ _=>rfl) (fun b hb _=>hG2 b hb) (fun id hid=>⟨hid,rfl⟩)
  ·intro b hb;exact⟨rfl,hb.1⟩
  ·intro g d hg;obtain⟨h1,cs,e,fz,h2,h3⟩:=hgl g d hg;exact⟨⟨(Array.getElem?_eq_some_iff.1 h2).1,fun⟨id,hid⟩=>hand.out id g hid h1⟩,.inl h1,cs,e,fz,h2,h3⟩
 refine Go.Code.wp_mono ?_ (wpIn_wide.1 (h C rfl (fun id b hp=>memN_fst (hpin0 id b hp).2) _ w ⟨_,_,_,st⟩));rintro e a' w' ⟨σ',⟨ρ,Fe,Fb,st'⟩,he,hend,hokr,hkeep,hokb,hsrc⟩;have hlt':=st'.lt
 have hl':∀ u,lk (nw++bx') u=if u6 ids u then σ'.box u else none:=fun u=>by rw[<- hkeep];exact Y0 ids σ'.bx u
 obtain⟨v,h1,F,h2,h3,h4⟩:=EndR.out st' hend
 let Fb':Nat->List Nat:=fun id=>if u6 ids id then Fb id else[]
 have hsub:∀ id,∀ b∈Fb' id,u6 ids id=true/\b∈Fb id:=fun id b hm=>by
  by_cases hi:u6 ids id=true
  ·exact⟨hi,by simpa [Fb',hi] using hm⟩
  ·simp[Fb',hi] at hm
 have hFo:∀ b∈F,own Fe Fb b:=fun b hb=>by
  obtain⟨rv,_,hx⟩:=h3 b hb;split at hx
  ·exact .inl ⟨_,hx⟩
  ·exact .inr ⟨_,hx⟩
 have hnew:∀ b,own Fe Fb b->w.heap.size<=b∨∃ id,b∈Fb0 id:=fun b hb=>by
  by_cases hbl:w.heap.size<=b
  ·exact .inl hbl
  ·right;by_cases hx:∃ id,b∈Fb0 id
   ·exact hx
   ·exact absurd ⟨by omega,hx⟩ (st'.new b hb)
 have hFd:∀ id,∀ b∈F,b∉Fb' id:=fun id b hb hb'=>by
  obtain⟨hi,hb'⟩:=hsub id b hb';obtain⟨rv,hrv,hx⟩:=h3 b hb;split at hx
  ·exact st'.dEB _ id b hx hb'
  ·rename_i hs;have:=hsrc rv hrv (by simpa using hs);by_cases hii:(Z2 σ' rv).1=id
   ·rw[hii] at this;rw[this] at hi;cases hi
   ·exact st'.dBB _ _ hii b hx hb'
 have hgd:∀ b,gd C Fe Fb b->(G b∨w.heap.size<=b∨∃ id,b∈Fb0 id)/\b∉F/\¬ ∃ id,b∈Fb' id:=fun b hb=>
  ⟨hb.1,fun hm=>hb.2 (hFo b hm),fun⟨id,hid⟩=>hb.2 (.inr ⟨id,(hsub id b hid).2⟩)⟩
 have hL:∀ id,(u6 ids id=true/\(σ'.box id).isSome=true)->(lk (nw++bx') id).isSome=true:=fun id ⟨q1,q2⟩=>by rw[hl',if_pos q1];exact q2
 have hρ:∀ id,(lk bx id).isSome=true->ρ id=ρ0 id:=fun id hx=>(st'.pin id (ρ0 id) (by simp[C,hx])).1
 have hext:ExtO (fun b=>∃ id,b∈Fb0 id) w w':=⟨st'.os,⟨st'.tape.tp,st'.tape.dr⟩,st'.output,st'.grown,fun b hb hn=>(st'.kept b ⟨hb,hn⟩).1⟩
 have hhand:Hand (nw++bx') w' ρ (fun b=>(G b∨w.heap.size<=b∨∃ id,b∈Fb0 id)/\b∉F/\¬ ∃ id,b∈Fb' id) Fb':=by
  refine⟨fun id x hx=>?_,fun id hx=>?_,fun id=>?_,fun id id' hne b hb hb'=>st'.dBB id id' hne b (hsub id b hb).2 (hsub id' b hb').2,fun id b hb hc=>hc.2.2 ⟨id,hb⟩⟩
  ·have hx':=hl' id;rw[hx] at hx';by_cases hm:u6 ids id=true
   ·rw[if_pos hm] at hx'
    have hF':Fb' id=Fb id:=by simp[Fb',hm]
    rw[hF'];exact((st'.bx id x hx'.symm).okB (M9 hokb hx)).mono (fun _ _ _=>rfl) (fun b hb _=>hgd b hb) (fun i hi=>⟨hL i hi,rfl⟩)
   ·rw[if_neg hm] at hx';cases hx'
  ·by_cases hm:u6 ids id=true
   ·have hx':=hl' id;rw[hx,if_pos hm] at hx';simp only[Fb',hm,if_true];exact st'.bxN id hx'.symm
   ·simp[Fb',hm]
  ·show(if u6 ids id then Fb id else[]).Nodup;split
   ·exact st'.nodB id
   ·exact List.nodup_nil
 have hall:∃ v' F ρ' Fb',(Ending.returned v)=.returned v'/\ExtO (fun b=>∃ id,b∈Fb0 id) w w'/\(∀ id,(lk bx id).isSome=true->ρ' id=ρ0 id)/\F.Nodup /\
  (∀ b,(b∈F∨∃ id,b∈Fb' id)->w.heap.size<=b∨∃ id,b∈Fb0 id)/\(∀ id,∀ b∈F,b∉Fb' id)/\(∀ b∈F,b<w'.heap.size) /\
  Hand (nw++bx') w' ρ' (fun b=>(G b∨w.heap.size<=b∨∃ id,b∈Fb0 id)/\b∉F/\¬ ∃ id,b∈Fb' id) Fb' /\
  RV w' ρ' (fun b=>(G b∨w.heap.size<=b∨∃ id,b∈Fb0 id)/\b∉F/\¬ ∃ id,b∈Fb' id) (fun i=>(lk (nw++bx') i).isSome=true) r v' F:=
  ⟨v,F,ρ,Fb',rfl,hext,hρ,h2,fun b hb=>hnew b (hb.elim (hFo b) (fun⟨id,hid⟩=>.inr ⟨id,(hsub id b hid).2⟩)),hFd,fun b hb=>hlt' b (hFo b hb),hhand,
   (h4.okB hokr).mono (fun _ _ _=>rfl) (fun b hb _=>hgd b hb) (fun i hi=>⟨hL i hi,rfl⟩)⟩
 rcases he with rfl|rfl
 ·exact⟨st'.defs,v,h1,hall⟩
 ·exact⟨st'.defs,v,h1,hall⟩
end Go.Sx

namespace Go.Sx
variable{P:Program}{C:Ctx}{σ σ' σ1 σ2:Sg}{a:Act}{w w':World}{ρ ρ2:Nat->Nat}{Fe Fe' Fb Fb2:Nat->List Nat}
def mlk(ml:List (Nat×Nat))(i:Nat):Nat:=match lk ml i with
 | some k=>k
 | none=>i
def Bx.ren(m:Nat->Nat):Bx->Bx
 | .var d=>.var (d.ren m)
 | .mp l=>.mp (l.map fun kv=>(kv.1.ren m,kv.2.ren m))
def u1(m:Nat->Nat):List (Nat×Bx)->List (Nat×Bx)
 | []=>[]
 | (k,x)::r=>(m k,x.ren m)::u1 m r
def GX(l:List (Nat×Bx)):List (Nat×Bx)->Prop
 | []=>True
 | (k,y)::r=>lk l k=some y/\GX l r
def GD(l:List (Nat×Bx)):List (Nat×Bx)->Bool
 | []=>true
 | (k,_)::r=>(lk l k).isNone&&GD l r
def injB(m:Nat->Nat)(ks:List Nat):Bool:=ks.all fun i=>ks.all fun j=>!(Nat.beq (m i) (m j))||Nat.beq i j
def N9(c:List (Nat×Bx)):List (Nat×Bx)->List (Nat×Bx)
 | []=>[]
 | (k,x)::r=>(k,match lk c k with|some y=>y|none=>x)::N9 c r
def l7:List Nat->List (Nat×D)->List (Nat×D)
 | [],l=>l
 | id::r,l=>l7 r (scrubs id l)
theorem QB(id:Nat)(d:D):(H3 id d=d/\∀ off path,d≠.alb id off path)∨(H3 id d=.dead/\∃ off path,d=.alb id off path):=by
 cases d with
 | alb i off path=>
  by_cases h:i=id
  ·subst h;right;simp[H3]
  ·left;simp[H3,nbeq h,h]
 | _=>left;exact⟨rfl,fun _ _ h=>by cases h⟩
theorem EB(ids:List Nat):∀ (l:List (Nat×D)) (u:Nat) (d:D),lk (l7 ids l) u=some d ->
 ∃ d0,lk l u=some d0/\(d=d0/\(∀ id off path,d0=.alb id off path->id∉ids)∨d=.dead/\∃ id off path,d0=.alb id off path):=by
 induction ids with
 | nil=>intro l u d h;exact⟨d,h,.inl ⟨rfl,fun _ _ _ _=>by simp⟩⟩
 | cons id r ih=>
  intro l u d h;obtain⟨d1,h1,h2⟩:=ih (scrubs id l) u d h;rw[KM,Option.map_eq_some_iff] at h1;obtain⟨d0,h0,rfl⟩:=h1;refine⟨d0,h0, ?_⟩
  rcases QB id d0 with ⟨he,hn⟩|⟨he,off,path,rfl⟩
  ·rw[he] at h2
   rcases h2 with ⟨rfl,h2⟩|h2
   ·refine .inl ⟨rfl,fun i off path hd=>?_⟩;have:=h2 i off path hd;intro hm
    rcases List.mem_cons.1 hm with rfl|hm
    ·exact hn off path hd
    ·exact this hm
   ·exact .inr h2
  ·right;refine⟨?_,id,off,path,rfl⟩;rw[he] at h2
   rcases h2 with ⟨rfl,_⟩|⟨_,_,_,_,h2⟩
   ·rfl
   ·cases h2
theorem ML(ids:List Nat):∀ (l:List (Nat×D)) (u:Nat),lk (l7 ids l) u=none->lk l u=none:=by
 induction ids with
 | nil=>intro l u h;exact h
 | cons id r ih=>
  intro l u h;have:=ih _ _ h;rw[KM,Option.map_eq_none_iff] at this;exact this
theorem NW(c l:List (Nat×Bx))(u:Nat):lk (N9 c l) u=(lk l u).map fun x=>(match lk c u with|some y=>y|none=>x):=by
 induction l with
 | nil=>rfl
 | cons x r ih=>
  obtain⟨k,d⟩:=x;simp only[N9,v4,ih];by_cases hk:k=u
  ·subst hk;simp
  ·simp[hk]
theorem BM{l:List (Nat×Bx)}{k:Nat}{x:Bx}(h:lk l k=some x):(k,x)∈l:=by
 induction l with
 | nil=>cases h
 | cons y r ih=>
  obtain⟨k',d⟩:=y;rw[v4] at h;by_cases hk:k'=k
  ·subst hk;simp at h;subst h;simp
  ·simp only[hk,if_false] at h;exact List.mem_cons_of_mem _ (ih h)
theorem o8{l:List (Nat×Bx)}{k:Nat}:(lk l k).isSome=true↔k∈l.map Prod.fst:=by
 induction l with
 | nil=>simp[lk]
 | cons y r ih=>
  obtain⟨k',d⟩:=y;rw[v4];by_cases hk:k'=k
  ·subst hk;simp
  ·simp only[hk,if_false,ih,List.map_cons,List.mem_cons];exact⟨.inr,fun h=>h.resolve_left (fun e=>hk e.symm)⟩
theorem YA{m:Nat->Nat}{l:List (Nat×Bx)}{i:Nat}(h:∀ j∈l.map Prod.fst,m j=m i->j=i):lk (u1 m l) (m i)=(lk l i).map (Bx.ren m):=by
 induction l with
 | nil=>rfl
 | cons y r ih=>
  obtain⟨k',d⟩:=y;simp only[u1,v4];by_cases hk:k'=i
  ·subst hk;simp
  ·have hm:m k'≠m i:=fun e=>hk (h k' (by simp) e);simp only[hm,hk,if_false];exact ih (fun j hj=>h j (by simp at hj ⊢;exact .inr hj))
theorem C5(m:Nat->Nat)(l:List (Nat×Bx)):(u1 m l).map Prod.fst=(l.map Prod.fst).map m:=by
 induction l with
 | nil=>rfl
 | cons y r ih=>obtain⟨k',d⟩:=y;simp[u1,ih]
theorem KI{l c:List (Nat×Bx)}(h:GX l c):∀ k y,(k,y)∈c->lk l k=some y:=by
 induction c with
 | nil=>intro k y hm;cases hm
 | cons x r ih=>
  obtain⟨k',d⟩:=x;intro k y hm
  rcases List.mem_cons.1 hm with he|hm
  ·cases he;exact h.1
  ·exact ih h.2 k y hm
theorem DY{m:Nat->Nat}{l:List (Nat×Bx)}{k:Nat}{x:Bx}(h:(k,x)∈l):(m k,x.ren m)∈u1 m l:=by
 induction l with
 | nil=>cases h
 | cons y r ih=>
  obtain⟨k',d⟩:=y;simp only[u1]
  rcases List.mem_cons.1 h with he|hm
  ·cases he;simp
  ·exact List.mem_cons_of_mem _ (ih hm)
theorem IX{l c:List (Nat×Bx)}(h:GD l c=true):∀ k,k∈c.map Prod.fst->lk l k=none:=by
 induction c with
 | nil=>intro k hm;cases hm
 | cons x r ih=>
  obtain⟨k',d⟩:=x;simp only[GD,Bool.and_eq_true,Option.isNone_iff_eq_none] at h;intro k hm;simp only[List.map_cons,List.mem_cons] at hm
  rcases hm with rfl|hm
  ·exact h.1
  ·exact ih h.2 k hm
theorem OJ{m:Nat->Nat}{ks:List Nat}(h:injB m ks=true):∀ i∈ks,∀ j∈ks,m i=m j->i=j:=by
 intro i hi j hj he;have h1:=List.all_eq_true.1 (List.all_eq_true.1 h i hi) j hj;simp only[Bool.or_eq_true,Bool.not_eq_true'] at h1
 rcases h1 with h1|h1
 ·rw[he] at h1;simp at h1
 ·exact Nat.eq_of_beq_eq_true h1
theorem BR.ren{G L L':Nat->Prop}{m:Nat->Nat}{b:Nat}{x:Bx}{F:List Nat}(h:BR w ρ G L b x F)(hL:∀ i,L i->L' (m i)/\ρ2 (m i)=ρ i):BR w ρ2 G L' b (x.ren m) F:=by
 cases x with
 | var d=>obtain⟨cs,e,F',h1,h2,h3⟩:=h;exact⟨cs,e,F',h1,h2.ren hL,h3⟩
 | mp l=>
  obtain⟨h1,es,clock,h2,h3,h4⟩:=h;refine⟨h1,es,clock,h2,by simpa using h3,fun k hk=>?_⟩
  have hk':k<l.length:=by simpa using hk
  obtain⟨q1,q2,q3⟩:=h4 k hk';simp only[List.getElem_map];exact⟨q1.ren hL,q2.ren hL,q3⟩
theorem BR.unren{G L L':Nat->Prop}{m:Nat->Nat}{b:Nat}{x:Bx}{F:List Nat}(h:BR w ρ G L b (x.ren m) F)(hL:∀ i,L (m i)->L' i/\ρ2 i=ρ (m i)):BR w ρ2 G L' b x F:=by
 cases x with
 | var d=>obtain⟨cs,e,F',h1,h2,h3⟩:=h;exact⟨cs,e,F',h1,h2.unren rfl hL,h3⟩
 | mp l=>
  obtain⟨h1,es,clock,h2,h3,h4⟩:=h;refine⟨h1,es,clock,h2,by simpa using h3,fun k hk=>?_⟩;obtain⟨q1,q2,q3⟩:=h4 k (by simpa using hk);simp only[List.getElem_map] at q1 q2;exact⟨q1.unren hL,q2.unren hL,q3⟩
inductive EvB(gl:List (Nat×D))(σ:Sg)(m:Nat->Nat)(ids:List Nat):List Operand->List D->Prop
 | nil:EvB gl σ m ids [] []
 | cons {x:Operand} {d d':D} {xs:List Operand} {ds:List D} (h:ev gl σ x=some d') (hp:d'.pur=true) (he:d.ren m=d') (ho:d.okB ids=true) (t:EvB gl σ m ids xs ds):EvB gl σ m ids (x::xs) (d::ds)
 | nils {x:Operand} {z:Nat} {xs:List Operand} {ds:List D} (h:ev gl σ x=some .nils) (t:EvB gl σ m ids xs ds):EvB gl σ m ids (x::xs) (.sl none z []::ds)
theorem EvB.len{gl:List (Nat×D)}{m:Nat->Nat}{ids:List Nat}{xs:List Operand}{ds:List D}(h:EvB gl σ m ids xs ds):xs.length=ds.length:=by
 induction h with
 | nil=>rfl
 | cons _ _ _ _ _ ih=>simp[ih]
 | nils _ _ ih=>simp[ih]
theorem EvB.ok(st:StW C σ a w ρ Fe Fb){m:Nat->Nat}{ids:List Nat}{xs:List Operand}{ds:List D}(h:EvB C.gl σ m ids xs ds) :
 ∀ k (hk:k<ds.length),VR w (fun i=>ρ (m i)) (gd C Fe Fb) (fun i=>u6 ids i=true/\(σ.box (m i)).isSome=true) ds[k] ((xs.map a.eval).getD k undef) []:=by
 induction h with
 | nil=>intro k hk;simp at hk
 | cons h hp he ho t ih=>
  intro k hk
  cases k with
  | zero=>
   obtain⟨F,hv,_⟩:=c3 st h (c6 hp);have hF:=hv.pur hp;rw[hF] at hv;subst he;have h1:VR w (fun i=>ρ (m i)) (gd C Fe Fb) (fun i=>(σ.box (m i)).isSome=true) _ (a.eval _) []:=hv.unren (fun i hi=>⟨hi,rfl⟩);simpa using h1.okB ho
  | succ k=>simpa using ih k (by simpa using hk)
 | nils h t ih=>
  intro k hk
  cases k with
  | zero=>
   obtain⟨F,hv,_⟩:=c3 st h rfl;simp only[VR,D.isAgg,Bool.false_eq_true,if_false] at hv;have:=hv.nil_val;simp only[List.map_cons,List.getD_cons_zero,List.getElem_cons_zero,VR,D.isAgg,Bool.false_eq_true,if_false];rw[this];exact .slN none _
  | succ k=>simpa using ih k (by simpa using hk)
open Classical in
theorem StW.callB(st:StW C σ a w ρ Fe Fb){m:Nat->Nat}{bx bx' nw:List (Nat×Bx)}(hlk:GX σ.bx (u1 m bx))(hob:A3 (bx.map Prod.fst) bx)
 (hk:bx'.map Prod.fst=bx.map Prod.fst) (hfr:GD σ.bx (u1 m nw)=true) (hinj:injB m ((nw++bx').map Prod.fst)=true) :
 Hand bx w (fun i=>ρ (m i)) (gd C Fe Fb) (fun i=>if(lk bx i).isSome then Fb (m i) else[]) /\
 ∀ (w':World) (F:List Nat) (ρ':Nat->Nat) (Fb':Nat->List Nat),ExtO (fun b=>∃ id,b∈(if(lk bx id).isSome then Fb (m id) else[])) w w'->(∀ id,(lk bx id).isSome=true->ρ' id=ρ (m id))->F.Nodup ->
  (∀ b,(b∈F∨∃ id,b∈Fb' id)->w.heap.size<=b∨∃ id,b∈(if(lk bx id).isSome then Fb (m id) else[]))->(∀ id,∀ b∈F,b∉Fb' id)->(∀ b∈F,b<w'.heap.size) ->
  Hand (nw++bx') w' ρ' (fun b=>(gd C Fe Fb b∨w.heap.size<=b∨∃ id,b∈(if(lk bx id).isSome then Fb (m id) else[]))/\b∉F/\¬ ∃ id,b∈Fb' id) Fb' ->
  ∃ ρ2 Fb2,StW (C.less F) ⟨σ.n,l7 ((u1 m bx).map Prod.fst) σ.env,u1 m nw++N9 (u1 m bx') σ.bx⟩ a w' ρ2 Fe Fb2 /\
   (∀ r v,RV w' ρ' (fun b=>(gd C Fe Fb b∨w.heap.size<=b∨∃ id,b∈(if(lk bx id).isSome then Fb (m id) else[]))/\b∉F/\¬ ∃ id,b∈Fb' id) (fun i=>(lk (nw++bx') i).isSome=true) r v F ->
    RV w' ρ2 (fun b=>gd C Fe Fb2 b/\b∉F) (fun i=>(lk (u1 m nw++N9 (u1 m bx') σ.bx) i).isSome=true) (r.ren m) v F) /\
   (∀ u,∀ b∈F,b∉Fe u)/\(∀ id,∀ b∈F,b∉Fb2 id)/\(∀ b∈F,¬ C.keep b)/\(∀ b∈F,C.ok b):=by
 have hlt:=st.lt;have hij:=OJ hinj
 have hkey2:∀ i,i∈(nw++bx').map Prod.fst↔i∈nw.map Prod.fst∨i∈bx.map Prod.fst:=fun i=>by rw[List.map_append,List.mem_append,hk]
 have hb1:∀ i x,lk bx i=some x->σ.box (m i)=some (x.ren m):=fun i x hx=>KI hlk _ _ (DY (BM hx))
 have hbS:∀ i,i∈bx.map Prod.fst->(σ.box (m i)).isSome=true:=fun i hi=>by
  obtain⟨x,hx⟩:=Option.isSome_iff_exists.1 (o8.2 hi);rw[hb1 i x hx];rfl
 have hnS:∀ i,i∈nw.map Prod.fst->σ.box (m i)=none:=fun i hi=>IX hfr _ (by rw[C5];exact List.mem_map_of_mem hi)
 have hFc:∀ i b,b∈(if(lk bx i).isSome then Fb (m i) else[])->i∈bx.map Prod.fst/\b∈Fb (m i):=fun i b hb=>by
  by_cases h:(lk bx i).isSome=true
  ·rw[if_pos h] at hb;exact⟨o8.1 h,hb⟩
  ·rw[if_neg h] at hb;cases hb
 have hmem:∀ i,u6 (bx.map Prod.fst) i=true->(lk bx i).isSome=true:=fun i hi=>by
  rw[o8];simp only[u6,List.any_eq_true] at hi;obtain⟨j,hj,he⟩:=hi;rw[Nat.eq_of_beq_eq_true he];exact hj
 refine⟨⟨fun id x hx=>?_,fun id hx=>by simp[hx],fun id=>?_,fun id id' hne b hb hb'=>?_,fun id b hb hg=>hg.2 (.inr ⟨m id,(hFc id b hb).2⟩)⟩, ?_⟩
 ·have h1:=st.bx _ _ (hb1 id x hx);have h2:BR w (fun i=>ρ (m i)) (gd C Fe Fb) (fun i=>(σ.box (m i)).isSome=true) (ρ (m id)) x (Fb (m id)):=h1.unren (fun i hi=>⟨hi,rfl⟩);have h3:=(h2.okB (M9 hob hx)).mono (w':=w) (G':=gd C Fe Fb) (L':=fun i=>(lk bx i).isSome=true) (ρ':=fun i=>ρ (m i)) (fun _ _ _=>rfl) (fun b hb _=>hb) (fun i hi=>⟨hmem i hi.1,rfl⟩);rw[if_pos (by rw[hx];rfl)];exact h3
 ·show(if(lk bx id).isSome then Fb (m id) else[]).Nodup;split
  ·exact st.nodB _
  ·exact List.nodup_nil
 ·obtain⟨h1,h2⟩:=hFc id b hb;obtain⟨h3,h4⟩:=hFc id' b hb';exact st.dBB (m id) (m id') (fun e=>hne (hij id ((hkey2 id).2 (.inr h1)) id' ((hkey2 id').2 (.inr h3)) e)) b h2 h4
 intro w' F ρ' Fb' hw hρ hnd hsrc hFB hFl hand
 let inv:Nat->Option Nat:=fun k=>if h:∃ i,i∈(nw++bx').map Prod.fst/\m i=k then some (Classical.choose h) else none
 have hinv:∀ i,i∈(nw++bx').map Prod.fst->inv (m i)=some i:=fun i hi=>by
  have h:∃ j,j∈(nw++bx').map Prod.fst/\m j=m i:=⟨i,hi,rfl⟩
  simp only[inv,dif_pos h];obtain⟨q1,q2⟩:=Classical.choose_spec h;rw[hij _ q1 i hi q2]
 have hinvS:∀ k i,inv k=some i->i∈(nw++bx').map Prod.fst/\m i=k:=fun k i hi=>by
  by_cases h:∃ j,j∈(nw++bx').map Prod.fst/\m j=k
  ·simp only[inv,dif_pos h,Option.some.injEq] at hi;rw[<- hi];exact Classical.choose_spec h
  ·simp only[inv,dif_neg h] at hi;cases hi
 let lent:Nat->Prop:=fun k=>∃ i,i∈bx.map Prod.fst/\m i=k
 let new:Nat->Prop:=fun k=>∃ i,i∈nw.map Prod.fst/\m i=k
 have htouch:∀ k,(lent k∨new k)↔∃ i,inv k=some i:=fun k=>by
  constructor
  ·rintro (⟨i,hi,rfl⟩|⟨i,hi,rfl⟩)
   ·exact⟨i,hinv i ((hkey2 i).2 (.inr hi))⟩
   ·exact⟨i,hinv i ((hkey2 i).2 (.inl hi))⟩
  ·rintro ⟨i,hi⟩;obtain⟨h1,h2⟩:=hinvS k i hi
   rcases(hkey2 i).1 h1 with h|h
   ·exact .inr ⟨i,h,h2⟩
   ·exact .inl ⟨i,h,h2⟩
 let ρ2:Nat->Nat:=fun k=>match inv k with|some i=>ρ' i|none=>ρ k
 let Fb2:Nat->List Nat:=fun k=>match inv k with|some i=>Fb' i|none=>Fb k
 have hlo:∀ b,(∃ id,b∈(if(lk bx id).isSome then Fb (m id) else[]))↔∃ k,lent k/\b∈Fb k:=fun b=>by
  constructor
  ·rintro ⟨i,hi⟩;obtain⟨h1,h2⟩:=hFc i b hi;exact⟨m i,⟨i,h1,rfl⟩,h2⟩
  ·rintro ⟨k,⟨i,hi,rfl⟩,hb⟩;exact⟨i,by rw[if_pos (o8.2 hi)];exact hb⟩
 have hlentO:∀ b,(∃ k,lent k/\b∈Fb k)->own Fe Fb b:=fun b ⟨k,_,hb⟩=>.inr ⟨k,hb⟩;have hsrc':∀ b,(b∈F∨∃ id,b∈Fb' id)->w.heap.size<=b∨∃ k,lent k/\b∈Fb k:=fun b hb=>(hsrc b hb).imp (fun h=>h) (hlo b).1
 have hFb2:∀ k i,inv k=some i->Fb2 k=Fb' i:=fun k i h=>by simp[Fb2,h]
 have hρ2:∀ k i,inv k=some i->ρ2 k=ρ' i:=fun k i h=>by simp[ρ2,h]
 have hnone:∀ k,¬ (lent k∨new k)->inv k=none:=fun k h=>by
  cases hi:inv k with
  | none=>rfl
  | some i=>exact absurd ((htouch k).2 ⟨i,hi⟩) h
 have hbox2:∀ k,(⟨σ.n,l7 ((u1 m bx).map Prod.fst) σ.env,u1 m nw++N9 (u1 m bx') σ.bx⟩:Sg).box k=lk (u1 m nw++N9 (u1 m bx') σ.bx) k:=fun k=>rfl
 have hlk2:∀ i,i∈(nw++bx').map Prod.fst->lk (u1 m nw++N9 (u1 m bx') σ.bx) (m i)=(lk (nw++bx') i).map (Bx.ren m):=fun i hi=>by
  rw[G7,G7,YA (fun j hj he=>hij j ((hkey2 j).2 (.inl hj)) i hi he)]
  cases hn:lk nw i with
  | some x=>rfl
  | none=>
   simp only[Option.map_none];rw[NW,YA (fun j hj he=>hij j ((hkey2 j).2 (.inr (hk▸hj))) i hi he)];have hib:i∈bx.map Prod.fst:=((hkey2 i).1 hi).resolve_left (fun h=>by have:=o8.2 h;rw[hn] at this;cases this);obtain⟨x,hx⟩:=Option.isSome_iff_exists.1 (hbS i hib);obtain⟨y,hy⟩:=Option.isSome_iff_exists.1 (o8.2 (hk▸hib:i∈bx'.map Prod.fst));rw[show lk σ.bx (m i)=some x from hx,hy];rfl
 have hS2:∀ i,i∈(nw++bx').map Prod.fst->(lk (u1 m nw++N9 (u1 m bx') σ.bx) (m i)).isSome=true:=fun i hi=>by
  rw[hlk2 i hi,Option.isSome_map];exact o8.2 hi
 have hgd2:∀ b,((gd C Fe Fb b∨w.heap.size<=b∨∃ id,b∈(if(lk bx id).isSome then Fb (m id) else[]))/\b∉F/\¬ ∃ id,b∈Fb' id)->gd C Fe Fb2 b/\b∉F:=by
  rintro b ⟨h1,h2,h3⟩;rw[hlo] at h1;refine⟨⟨?_, ?_⟩,h2⟩
  ·rcases h1 with h|h|h
   ·exact h.1
   ·exact st.okN b h
   ·exact st.okO b (hlentO b h)
  ·rintro (⟨u,hu⟩|⟨k,hb⟩)
   ·rcases h1 with h|h|⟨k,_,h⟩
    ·exact h.2 (.inl ⟨u,hu⟩)
    ·have:=hlt b (.inl ⟨u,hu⟩);omega
    ·exact st.dEB u k b hu h
   ·cases hi:inv k with
    | some i=>rw[hFb2 k i hi] at hb;exact h3 ⟨i,hb⟩
    | none=>
     have hb':b∈Fb k:=by simpa [Fb2,hi] using hb
     rcases h1 with h|h|⟨k',hk',h⟩
     ·exact h.2 (.inr ⟨k,hb'⟩)
     ·have:=hlt b (.inr ⟨k,hb'⟩);omega
     ·refine st.dBB k' k (fun e=>?_) b h hb';subst e;obtain⟨i,hi'⟩:=(htouch k').1 (.inl hk');rw[hi] at hi';cases hi'
 have hLL:∀ i,(lk (nw++bx') i).isSome=true->(lk (u1 m nw++N9 (u1 m bx') σ.bx) (m i)).isSome=true/\ρ2 (m i)=ρ' i:=fun i hi=>by
  have hi':=o8.1 hi;exact⟨hS2 i hi',hρ2 _ _ (hinv i hi')⟩
 refine⟨ρ2,Fb2, ?_, ?_, ?_, ?_, ?_, ?_⟩
 ·refine st.lend (σ2:=⟨σ.n,l7 ((u1 m bx).map Prod.fst) σ.env,u1 m nw++N9 (u1 m bx') σ.bx⟩) (ρ2:=ρ2) (Fb2:=Fb2) (lent:=lent) (new:=new) ⟨hw.os,hw.tape,hw.output,hw.size,fun b hb hn=>hw.block b hb (fun h=>hn ((hlo b).1 h))⟩ rfl (fun k hkS=>?_) (fun k ⟨i,hi,he⟩=>he▸hbS i hi)
   (fun u d hd=>?_) (fun u hu=>ML _ _ _ hu) (fun k hn=>?_) (fun k ht=>?_) (fun k x hx ht=>?_) (fun k ht=>?_) (fun k k' ht ht' hne b hb hb'=>?_) (fun k b ht hb=>?_) (fun b hb=>hsrc' b (.inl hb)) hFl
  ·cases hi:inv k with
   | none=>simp[ρ2,hi]
   | some i=>
    obtain⟨h1,rfl⟩:=hinvS k i hi
    rcases(hkey2 i).1 h1 with h|h
    ·rw[hnS i h] at hkS;cases hkS
    ·rw[hρ2 _ _ hi];exact hρ i (o8.2 h)
  ·obtain⟨d0,h0,h1⟩:=EB _ _ _ _ hd;refine⟨d0,h0,h1.imp (fun⟨q1,q2⟩=>⟨q1,fun id off path he hl=>q2 id off path he ?_⟩) (fun h=>h)⟩;obtain⟨i,hi,rfl⟩:=hl;rw[C5];exact List.mem_map_of_mem hi
  ·refine⟨?_,by simp[Fb2,hnone k hn]⟩;show lk (u1 m nw++N9 (u1 m bx') σ.bx) k=lk σ.bx k
   have h1:lk (u1 m nw) k=none:=by
    cases hx:lk (u1 m nw) k with
    | none=>rfl
    | some x=>
     have:=o8.1 (show(lk (u1 m nw) k).isSome=true by rw[hx];rfl);rw[C5] at this;obtain⟨i,hi,he⟩:=List.mem_map.1 this;exact absurd (.inr ⟨i,hi,he⟩) hn
   have h2:lk (u1 m bx') k=none:=by
    cases hx:lk (u1 m bx') k with
    | none=>rfl
    | some x=>
     have:=o8.1 (show(lk (u1 m bx') k).isSome=true by rw[hx];rfl);rw[C5,hk] at this;obtain⟨i,hi,he⟩:=List.mem_map.1 this;exact absurd (.inl ⟨i,hi,he⟩) hn
   rw[G7,h1,NW,h2];simp
  ·obtain⟨i,hi⟩:=(htouch k).1 ht;obtain⟨h1,rfl⟩:=hinvS k i hi;exact hS2 i h1
  ·obtain⟨i,hi⟩:=(htouch k).1 ht;obtain⟨h1,rfl⟩:=hinvS k i hi;rw[hbox2,hlk2 i h1,Option.map_eq_some_iff] at hx;obtain⟨y,hy,rfl⟩:=hx;rw[hρ2 _ _ hi,hFb2 _ _ hi];have h4:=(hand.box i y hy).ren (ρ2:=ρ2) (L':=fun k=>(lk (u1 m nw++N9 (u1 m bx') σ.bx) k).isSome=true) hLL;exact h4.mono (fun _ _ _=>rfl) (fun b hb _=>⟨⟨(hgd2 b hb).1.1,(hgd2 b hb).2⟩,(hgd2 b hb).1.2⟩) (fun j hj=>⟨hj,rfl⟩)
  ·obtain⟨i,hi⟩:=(htouch k).1 ht;rw[hFb2 _ _ hi];exact hand.nodB i
  ·obtain⟨i,hi⟩:=(htouch k).1 ht;obtain⟨i',hi'⟩:=(htouch k').1 ht';rw[hFb2 _ _ hi] at hb;rw[hFb2 _ _ hi'] at hb';refine hand.dBB i i' (fun e=>?_) b hb hb';subst e;exact hne ((hinvS k i hi).2.symm.trans (hinvS k' i hi').2)
  ·obtain⟨i,hi⟩:=(htouch k).1 ht;rw[hFb2 _ _ hi] at hb;exact⟨hsrc' b (.inr ⟨i,hb⟩),fun hm=>hFB i b hm hb⟩
 ·intro r v hr;exact(hr.ren (ρ2:=ρ2) (L':=fun k=>(lk (u1 m nw++N9 (u1 m bx') σ.bx) k).isSome=true) hLL).mono (fun _ _ _=>rfl) (fun b hb _=>hgd2 b hb) (fun j hj=>⟨hj,rfl⟩)
 ·intro u b hb hbu
  rcases hsrc' b (.inl hb) with h|⟨k,_,h⟩
  ·have:=hlt b (.inl ⟨u,hbu⟩);omega
  ·exact st.dEB u k b hbu h
 ·intro k b hb hbk
  cases hi:inv k with
  | some i=>rw[hFb2 _ _ hi] at hbk;exact hFB i b hb hbk
  | none=>
   have hbk':b∈Fb k:=by simpa [Fb2,hi] using hbk
   rcases hsrc' b (.inl hb) with h|⟨k',hk',h⟩
   ·have:=hlt b (.inr ⟨k,hbk'⟩);omega
   ·refine st.dBB k' k (fun e=>?_) b h hbk';subst e;obtain⟨i,hi'⟩:=(htouch k').1 (.inl hk');rw[hi] at hi';cases hi'
 ·intro b hb hkb
  rcases hsrc' b (.inl hb) with h|h
  ·have:=(st.kept b hkb).2;have:=st.grown;omega
  ·exact st.new b (hlentO b h) hkb
 ·intro b hb
  rcases hsrc' b (.inl hb) with h|h
  ·exact st.okN b h
  ·exact st.okO b (hlentO b h)
theorem R.callB{f:FuncId}[CaT P f]{t:Nat}{args:List Operand}{tys:Array TypeId}{rt:TypeId}{pos:String}{aft:Array Edge}{g:Option (Nat×Bool)}{gl:List (Nat×D)}{ds:List D}{r r':D}{bx bx' nw cx cx' nwc:List (Nat×Bx)}
 (ml:List (Nat×Nat)) (hC:C.gl=gl) (hF:FnB P gl f ds bx r bx' nw) (ha:EvB C.gl σ (mlk ml) (bx.map Prod.fst) args ds)
 (hcx:u1 (mlk ml) bx=cx) (hlk:GX σ.bx cx) (hob:A3 (bx.map Prod.fst) bx) (hcx':u1 (mlk ml) bx'=cx') (hnw:u1 (mlk ml) nw=nwc) (hr:r.ren (mlk ml)=r')
 (hk:bx'.map Prod.fst=bx.map Prod.fst) (hfr:GD σ.bx nwc=true) (hinj:injB (mlk ml) ((nw++bx').map Prod.fst)=true) (ht:t<σ.n) :
 OpS P C ⟨some t,.call { callee:=.value (.func f),args:=args.toArray,argTypes:=tys },rt,pos,aft,g⟩ σ ((⟨σ.n,l7 (cx.map Prod.fst) σ.env,nwc++N9 cx' σ.bx⟩:Sg).set t r'):=by
 subst hC;subst hcx;subst hcx';subst hnw;subst hr;intro a w ⟨ρ,Fe,Fb,st⟩ K Q hK;refine Z7 (QP a w) (by simp) ?_;rw[Oper.uponIn_enter];obtain⟨hhand,hback⟩:=st.callB (m:=mlk ml) hlk hob hk hfr hinj
 have hmem:∀ i,u6 (bx.map Prod.fst) i=true->(lk bx i).isSome=true:=fun i hi=>by
  rw[o8];simp only[u6,List.any_eq_true] at hi;obtain⟨j,hj,he⟩:=hi;rw[Nat.eq_of_beq_eq_true he];exact hj
 have hc:=hF w (fun b=>gd C Fe Fb b/\b<w.heap.size) (fun i=>ρ (mlk ml i)) (fun i=>if(lk bx i).isSome then Fb (mlk ml i) else[]) (args.map a.eval)
  (fun g d hg=>by obtain⟨h1,h2⟩:=GU st g d hg;obtain⟨cs,e,fz,h3,h4⟩:=h2;exact⟨⟨h1,(Array.getElem?_eq_some_iff.1 h3).1⟩,cs,e,fz,h3,h4⟩) (fun b hb=>hb.2) (by simp[ha.len])
  (fun k hk=>(ha.ok st k hk).mono (fun _ _ _=>rfl) (fun b hb hl=>⟨hb,hl⟩) (fun i hi=>⟨hmem i hi.1,rfl⟩))
  ⟨fun id x hx=>(hhand.box id x hx).mono (fun _ _ _=>rfl) (fun b hb hl=>⟨hb,hl⟩) (fun i hi=>⟨hi,rfl⟩),hhand.boxN,hhand.nodB,hhand.dBB,fun id b hb hc=>hhand.out id b hb hc.1⟩
 simp only[List.map_toArray];refine⟨(fun h=>by cases h),(R2 (Calls.mono hc ?_))⟩;rintro e w' ⟨v,F,ρ',Fb',rfl,hext,hρ',hnd,hsrc,hFB,hFl,hand,hrv⟩
 have hGG:∀ b,(((gd C Fe Fb b/\b<w.heap.size)∨w.heap.size<=b∨∃ id,b∈(if(lk bx id).isSome then Fb (mlk ml id) else[]))/\b∉F/\¬ ∃ id,b∈Fb' id) ->
  ((gd C Fe Fb b∨w.heap.size<=b∨∃ id,b∈(if(lk bx id).isSome then Fb (mlk ml id) else[]))/\b∉F/\¬ ∃ id,b∈Fb' id):=fun b hb=>⟨hb.1.imp (fun h=>h.1) (fun h=>h),hb.2⟩
 obtain⟨ρ2,Fb2,st2,hrv2,hdE,hdB,hkp,hok⟩:=hback w' F ρ' Fb' hext hρ' hnd hsrc hFB hFl
  ⟨fun id x hx=>(hand.box id x hx).mono (fun _ _ _=>rfl) (fun b hb _=>hGG b hb) (fun i hi=>⟨hi,rfl⟩),hand.boxN,hand.nodB,hand.dBB,fun id b hb hc=>hc.2.2 ⟨id,hb⟩⟩
 have hrv3:=hrv2 r v (hrv.mono (fun _ _ _=>rfl) (fun b hb _=>hGG b hb) (fun i hi=>⟨hi,rfl⟩))
 have hput:(a.put (some t) v).tmps[t]? = some v:=by rw[v7 a t v t (by rw[st.size];exact ht)];simp
 refine hK _ _ ⟨ρ2,upd Fe t F,Fb2,st2.adopt ht hnd hdE hdB hkp hok (RV.slot (hrv3.mono (fun _ _ _=>rfl) (fun b hb _=>⟨hb.1.1, ?_⟩) (fun i hi=>⟨hi,rfl⟩)) hput)⟩;rintro (⟨u,hu⟩|ho)
 ·by_cases hut:u=t
  ·subst hut;simp at hu;exact hb.2 hu
  ·rw[q8 hut] at hu;exact hb.1.2 (.inl ⟨u,hu⟩)
 ·exact hb.1.2 (.inr ho)
end Go.Sx

namespace Go.Sx
variable{P:Program}{C:Ctx}{σ σ' σ1:Sg}{a:Act}{w w':World}{ρ:Nat->Nat}{Fe Fe' Fb:Nat->List Nat}
def PurA(gl:List (Nat×D))(σ:Sg)(n z:Nat):List (Nat×Operand)->Prop
 | []=>True
 | (i,x)::r=>(∃ d,ev gl σ x=some d/\d.pur=true/\d.np=true/\d.sz=z/\Nat.blt i n=true)/\PurA gl σ n z r
theorem fill_arr{G L:Nat->Prop}{gl:List (Nat×D)}{n z:Nat}(hv:∀ x d,ev gl σ x=some d->d.pur=true->∃ cs:List Value,(a.eval x).cells.toList=cs/\Rc w ρ G L true d cs []) :
 ∀ (ps:List (Nat×Operand)) (l l':List D) (cs:Array Value),JQ gl σ ps l=some l'->PurA gl σ n z ps->Rc w ρ G L false (.arr n z l) cs.toList [] ->
  ∃ out:Array Value,Instr.fill (fun i=>some (i*z,z)) cs (ps.map (fun p=>(p.1,a.eval p.2)))=some out/\Rc w ρ G L false (.arr n z l') out.toList []:=by
 intro ps
 induction ps with
 | nil=>intro l l' cs h _ hr;simp only[JQ,Option.some.injEq] at h;subst h;exact⟨cs,rfl,hr⟩
 | cons p ps ih=>
  intro l l' cs h hp hr;obtain⟨i,x⟩:=p;obtain⟨⟨d,hx,p1,p2,p3,p5⟩,p4⟩:=hp;have p5:i<n:=Nat.le_of_ble_eq_true p5;simp only[JQ,hx] at h;obtain⟨xc,hxc,hrc⟩:=hv x d hx p1;have hlen:=hrc.len
  have hll:l.length=n:=by cases hr;assumption
  have hi2:i<l.length:=by omega
  have hcl:=hr.len;simp only[UN,Array.length_toList] at hcl
  have hsi:l[i].sz=z:=by
   have hii:Rc w ρ G L false l[i] ((cs.toList.drop (i*z)).take z) []:=by
    cases hr with
    | arr _ _ _ _ _ _ hh=>exact hh i hi2
   have hl:=hii.len;rw[<- hl,List.length_take,List.length_drop,Array.length_toList,hcl];have:=Nat.mul_le_mul_right z (show i+1<=n from p5);rw[Nat.add_mul] at this;omega
  have hlo:i*z+z<=n*z:=by
   have:=Nat.mul_le_mul_right z (show i+1<=n from p5);rw[Nat.add_mul] at this;omega
  have hloc:(D.arr n z l).loc [i]=some (i*z,l[i]):=by simp[D.loc,List.getElem?_eq_getElem hi2]
  have hupd:(D.arr n z l).upd [i] d=some (.arr n z (l.set i d)):=by simp[D.upd,List.getElem?_eq_getElem hi2]
  obtain⟨F2,g1,g2,_⟩:=hr.upd hloc hupd (p3.trans hsi.symm) (hrc.unflag p2) List.nodup_nil List.nodup_nil (by simp) (.inl rfl)
  have hF2:F2=[]:=by
   cases F2 with
   | nil=>rfl
   | cons b r=>have:=g2 b (by simp);simp at this
  subst hF2
  have hxl:xc.length=z:=by rw[hlen,p3]
  have hfold:=N1 cs xc (i*z) 0 (by omega);simp only[Nat.add_zero] at hfold
  have hcs2:((a.eval x).cells.zipIdx.foldl (fun(c:Array Value) (p:Value×Nat)=>c.setIfInBounds (i*z+p.2) p.1) cs).toList=cs.toList.take (i*z)++xc++cs.toList.drop (i*z+xc.length):=by
   rw[<- hfold,<- hxc,<- Array.foldl_toList];simp
  rw[<- hcs2] at g1;obtain⟨out,q1,q2⟩:=ih (l.set i d) l' _ h p4 g1;refine⟨out, ?_,q2⟩;simp only[List.map_cons,Instr.fill]
  have hsz:(a.eval x).cells.size=z:=by rw[<- Array.length_toList,hxc,hxl]
  simp only[hsz];rw[if_neg (by simp;omega)];exact q1
theorem R.bldAP{t n e z:Nat}{ps:List (Nat×Operand)}{l l' l2:List D}{ty rt:TypeId}{pos:String}{aft:Array Edge}{g:Option (Nat×Bool)}[hT:BaT P ty n e z][hZ:ZrT P ty (.arr n z l)]
 (hps:EvS C.gl σ ps l l') (hp:PurA C.gl σ n z ps) (he:l'=l2) (ht:t<σ.n) :
 OpS P C ⟨some t,.build ty ps.toArray,rt,pos,aft,g⟩ σ (σ.set t (.arr n z l2)):=by
 subst he;refine OpS.value fun a w ⟨ρ,Fe,Fb,st⟩=>?_;obtain⟨it,zv,ie,h1,h2,h3,h4,h5,h6⟩:=hT.i;obtain⟨i',v',k1,k2,k3,k4⟩:=hZ.i;rw[h2] at k1;cases k1;rw[h3] at k2;cases k2;obtain⟨out,q1,q2⟩:=fill_arr (w:=w) (ρ:=ρ) (fun x d h hp=>P2 st h hp) ps l l' zv.cells hps.ok hp (E4 _ _ _ _ _ _ k3)
 have hps2:(ps.toArray.map fun x=>(x.1,a.eval x.2)).toList=ps.map (fun p=>(p.1,a.eval p.2)):=by simp
 refine⟨.agg out,w, ?_,st.put ht rfl ?_⟩
 ·have:=run_build (P:=P) w ty (ps.toArray.map fun x=>(x.1,a.eval x.2)) out (by
   rw[hps2];simp only[Program.built,h1,h2,h3,h4,h5]
   exact q1)
  unfold execOp;simp only[Sem.run_bind,this,Result.andThen_ok,Sem.run_pure]
 ·simp only[VR,D.isAgg,if_true];exact⟨out,rfl,q2.flag⟩
end Go.Sx

namespace Go.Sx
variable{pos:String}{aft:Array Edge}{g:Option (Nat×Bool)}
variable{P:Program}{C:Ctx}{σ σ' σ1:Sg}{a:Act}{w w':World}{ρ:Nat->Nat}{Fe Fe' Fb:Nat->List Nat}
theorem Rc.updP{G L:Nat->Prop}{d d1 d' x:D}{cs xs:List Value}{F Fx:List Nat}(h:Rc w ρ G L true d cs F){path:List Nat}{off:Nat}
 (hl:d.loc path=some (off,d1)) (hu:d.upd path x=some d') (hz:x.sz=d1.sz) (hx:Rc w ρ G L true x xs Fx) (hF:F.Nodup) (hFx:Fx.Nodup) (hdis:∀ b∈Fx,b∉F)
 (harr:d.noArr path=true) :
 ∃ F',Rc w ρ G L true d' (cs.take off++xs++cs.drop (off+xs.length)) F'/\(∀ b∈F',b∈F∨b∈Fx)/\F'.Nodup/\d'.sz=d.sz/\d'.isAgg=(if path=[] then x.isAgg else d.isAgg):=by
 induction path generalizing d cs F off d1 d' with
 | nil=>
  simp only[D.loc,Option.some.injEq,Prod.mk.injEq] at hl;simp only[D.upd,Option.some.injEq] at hu;obtain⟨rfl,rfl⟩:=hl;subst hu;have h1:=h.len;have h2:=hx.len
  have e:cs.take 0++xs++cs.drop (0+xs.length)=xs:=by simp;omega
  rw[e];exact⟨Fx,hx,fun _ h=>.inr h,hFx,hz,by simp⟩
 | cons k path ih=>
  cases h with
  | agg l cs Fs hs hr=>
   simp only[D.loc] at hl;simp only[D.upd] at hu
   cases hk:l[k]? with
   | none=>simp[hk] at hl
   | some d2=>
    obtain⟨hklt,rfl⟩:=List.getElem?_eq_some_iff.1 hk;simp only[hk] at hl hu
    cases hd:D.loc l[k] path with
    | none=>simp[hd] at hl
    | some od=>
     obtain⟨o,d3⟩:=od;simp only[hd,Option.some.injEq,Prod.mk.injEq] at hl;obtain⟨rfl,rfl⟩:=hl
     cases hud:D.upd l[k] path x with
     | none=>simp[hud] at hu
     | some d4=>
      simp only[hud,Option.some.injEq] at hu;subst hu;obtain⟨hn1,hn2⟩:=Y9 hF;have hkm:∀ b∈Fs k,b∈(List.range l.length).flatMap Fs:=fun b hb=>List.mem_flatMap.2 ⟨k,List.mem_range.2 hklt,hb⟩;obtain⟨F',h1,h2,h3,h4,h5⟩:=ih (hr k hklt) hd hud hz (hn1 k hklt) (fun b hb hb'=>hdis b hb (hkm b hb')) (by simp only[D.noArr,hk] at harr;exact harr);obtain⟨_,_,_,hl3⟩:=(hr k hklt).loc hd;have hlen:=(hr k hklt).len;have hxl:=hx.len;have hlo:=K2 l k hklt
      have hxo:o+xs.length<=l[k].sz:=by omega
      refine⟨(List.range (l.set k d4).length).flatMap (fun j=>if j=k then F' else Fs j), ?_, ?_, ?_, ?_, ?_⟩
      ·refine .agg (l.set k d4) _ _ ?_ (fun j hj=>?_)
       ·rw[K1 _ _ _ (by omega),hs,L4 l k d4 hklt h4]
       ·have hj':j<l.length:=by simpa using hj
        rw[T7 l k j d4 hklt h4];by_cases hjk:j=k
        ·subst hjk;simp only[List.getElem_set_self,if_true,h4];rw[r9 _ _ _ _ _ (by omega) (by omega)];exact h1
        ·have hjj:(l.set k d4)[j]=l[j]:=by rw[List.getElem_set_ne (fun e=>hjk e.symm)]
         simp only[hjj,hjk,if_false];rw[X4 _ _ _ _ _ (by omega) ?_]
         ·exact hr j hj'
         ·have h6:=K2 l j hj'
          rcases Nat.lt_or_gt_of_ne hjk with hlt|hlt
          ·left
           have:offk l j+l[j].sz<=offk l k:=by
            have:=K2 (l.take k) j (by simp;omega);simp only[List.getElem_take] at this;unfold offk at this ⊢;rw[List.take_take,Nat.min_eq_left (by omega)] at this;exact this
           omega
          ·right
           have:offk l k+l[k].sz<=offk l j:=by
            have:=K2 (l.take j) k (by simp;omega);simp only[List.getElem_take] at this;unfold offk at this ⊢;rw[List.take_take,Nat.min_eq_left (by omega)] at this;exact this
           omega
      ·intro b hb;obtain⟨j,hj,hm⟩:=List.mem_flatMap.1 hb
       have hj':j<l.length:=by simpa using List.mem_range.1 hj
       by_cases hjk:j=k
       ·subst hjk;simp at hm;exact(h2 b hm).imp (hkm b) id
       ·simp only[hjk,if_false] at hm;exact .inl (List.mem_flatMap.2 ⟨j,List.mem_range.2 hj',hm⟩)
      ·refine o9 (fun j hj=>?_) (fun i j hi hj hij b hb hb'=>?_)
       ·have hj':j<l.length:=by simpa using hj
        by_cases hjk:j=k
        ·simp[hjk,h3]
        ·simp only[hjk,if_false];exact hn1 j hj'
       ·have hi':i<l.length:=by simpa using hi
        have hj':j<l.length:=by simpa using hj
        have key:∀ m,m<l.length->m≠k->b∈Fs m->b∈F'->False:=fun m hm hmk h6 h7=>by
         rcases h2 b h7 with h8|h8
         ·exact hn2 m k hm hklt hmk b h6 h8
         ·exact hdis b h8 (List.mem_flatMap.2 ⟨m,List.mem_range.2 hm,h6⟩)
        by_cases hik:i=k
        ·subst hik;simp only[if_true] at hb;simp only[show ¬ j=i from fun e=>hij e.symm,if_false] at hb';exact key j hj' (fun e=>hij e.symm) hb' hb
        ·simp only[hik,if_false] at hb;by_cases hjk:j=k
         ·simp only[hjk,if_true] at hb';exact key i hi' hik hb hb'
         ·simp only[hjk,if_false] at hb';exact hn2 i j hi' hj' hij b hb hb'
      ·simp only[E0];exact L4 l k d4 hklt h4
      ·simp[D.isAgg]
  | arr n z l cs hn hs hr=>simp[D.noArr] at harr
  | _=>simp[D.loc] at hl
theorem R.stP{p id off:Nat}{path:List Nat}{x:Operand}{d0 d1 d' dx:D}{ty n rt:TypeId}{gg:Bool}[LdT P ty n gg]
 (h:σ.get p=some (.ptr id off path)) (hb:σ.box id=some (.var d0)) (hl:d0.loc path=some (off,d1)) (hx:ev C.gl σ x=some dx) (hp:dx.pur=true) (hna:d0.noArr path=true)
 (hn:dx.sz=n) (hz:d1.sz=n) (hu:d0.upd path dx=some d') :
 OpS P C ⟨none,.store ty (.tmp p) x,rt,pos,aft,g⟩ σ (σ.putB id (.var d')):=by
 refine OpS.skip rfl fun a w ⟨ρ,Fe,Fb,st⟩=>?_;obtain⟨v,hv,hr⟩:=(j2 rfl).1 (st.env _ _ h);simp only[VR,D.isAgg,Bool.false_eq_true,if_false] at hr;have hz':dx.sz=d1.sz:=hn.trans hz.symm;generalize Fe p=F at hr;cases hr;obtain⟨cs,e,F',hb',hr,hFb⟩:=st.bx _ _ hb;obtain⟨Fx,hvx,_⟩:=c3 st hx (c6 hp);have hFx:=hvx.pur hp;subst hFx
 have hdead:dx≠.dead:=by rintro rfl;simp[D.pur] at hp
 have hxc:=hvx.cells hdead;obtain⟨_,_,_,h3⟩:=hr.loc hl
 have hnd:F'.Nodup:=by have:=st.nodB id;rw[hFb] at this;exact(List.nodup_cons.1 this).2
 obtain⟨F2,g1,g2,g3,g4,g5⟩:=hr.updP hl hu (hn.trans hz.symm) hxc hnd List.nodup_nil (by simp) hna;have hlen:=hxc.len
 have hvs:(a.eval x).cells.size=n:=by simp at hlen;omega
 have hbnd:off+n<=cs.size:=by simp at h3;omega
 refine⟨w.setRow (ρ id) (cs.toList.take off++(a.eval x).cells.toList++cs.toList.drop (off+(a.eval x).cells.toList.length)).toArray, ?_,ρ,Fe,_,st.putB (Fe':=Fe) (σ1:=σ) (F':=ρ id::F2) hb rfl rfl (fun u d hd=>.inl ⟨hd,rfl⟩) st.envN (fun u=>.inl rfl) rfl ⟨rfl,Nat.le_refl _⟩ rfl (by simp)
  (fun b hbne=>setRow_other w (ρ id) b _ hbne) ?_ (by simp) ?_ ?_⟩
 ·unfold execOp;simp only[Instr.storeAt,Instr.sureAddr,w3 hv,Sem.run_bind,Sem.run_pure,Result.andThen_ok,M3 (P:=P) (ty:=ty) hb' hvs hbnd hxc.one]
 ·refine List.nodup_cons.2 ⟨fun hm=>?_,g3⟩;have:=st.nodB id;rw[hFb] at this
  rcases g2 _ hm with h4|h4
  ·exact(List.nodup_cons.1 this).1 h4
  ·cases h4
 ·intro b hbm
  rcases List.mem_cons.1 hbm with rfl|hm
  ·exact .inl (by rw[hFb];simp)
  ·rcases g2 b hm with h4|h4
   ·exact .inl (by rw[hFb];exact List.mem_cons_of_mem _ h4)
   ·cases h4
 ·refine⟨_,e,F2,setRow_heap w (ρ id) cs _ e (0,0) hb', ?_,rfl⟩;simp only;refine g1.mono (fun b hbb _=>setRow_other w (ρ id) b _ ?_) (fun b hbb _=>⟨hbb.1,fun ho=>hbb.2 ?_⟩) (fun i hi=>⟨hi,rfl⟩)
  ·rintro rfl
   rcases hbb with hbb|hbb
   ·exact hbb.2 (.inr ⟨id,by rw[hFb];simp⟩)
   ·have:=st.nodB id;rw[hFb] at this
    rcases g2 _ hbb with h4|h4
    ·exact(List.nodup_cons.1 this).1 h4
    ·cases h4
  ·rcases ho with ⟨u,hu⟩|⟨i,hi⟩
   ·exact .inl ⟨u,hu⟩
   ·by_cases hid:i=id
    ·subst hid;rw[j3] at hi;refine .inr ⟨i, ?_⟩;rw[hFb]
     rcases List.mem_cons.1 hi with rfl|hm
     ·simp
     ·rcases g2 b hm with h4|h4
      ·exact List.mem_cons_of_mem _ h4
      ·cases h4
    ·rw[q8 hid] at hi;exact .inr ⟨i,hi⟩
def PurP(gl:List (Nat×D))(σ:Sg)(l:List D):List (Nat×Operand)->Prop
 | []=>True
 | (i,x)::r=>(∃ d,ev gl σ x=some d/\d.pur=true/\(l[i]?).map D.sz=some d.sz)/\PurP gl σ l r
theorem ZD{G L:Nat->Prop}{gl:List (Nat×D)}{l0:List D}(hv:∀ x d,ev gl σ x=some d->d.pur=true->∃ cs:List Value,(a.eval x).cells.toList=cs/\Rc w ρ G L true d cs []) :
 ∀ (ps:List (Nat×Operand)) (l l':List D) (cs:Array Value),JQ gl σ ps l=some l'->PurP gl σ l0 ps->l.map D.sz=l0.map D.sz->Rc w ρ G L true (.agg l) cs.toList [] ->
  ∃ out:Array Value,Instr.fill ((offl l0 0).toArray[·]?) cs (ps.map (fun p=>(p.1,a.eval p.2)))=some out/\Rc w ρ G L true (.agg l') out.toList []:=by
 intro ps
 induction ps with
 | nil=>intro l l' cs h _ _ hr;simp only[JQ,Option.some.injEq] at h;subst h;exact⟨cs,rfl,hr⟩
 | cons p ps ih=>
  intro l l' cs h hp hz hr;obtain⟨i,x⟩:=p;obtain⟨⟨d,hx,p1,p3⟩,p4⟩:=hp;simp only[JQ,hx] at h;obtain⟨xc,hxc,hrc⟩:=hv x d hx p1;have hlen:=hrc.len
  cases hl0:l0[i]? with
  | none=>rw[hl0] at p3;cases p3
  | some d0=>
   obtain⟨hi,rfl⟩:=List.getElem?_eq_some_iff.1 hl0;rw[hl0] at p3;simp only[Option.map_some,Option.some.injEq] at p3
   have hll:l.length=l0.length:=by have:=congrArg List.length hz;simpa using this
   have hi2:i<l.length:=by omega
   have hsi:l[i].sz=d.sz:=by
    have:(l.map D.sz)[i]'(by simpa using hi2)=(l0.map D.sz)[i]'(by simpa using hi):=by simp only[hz]
    simp at this;omega
   have hoff:offk l i=offk l0 i:=by
    have hs:∀ (u v:List D),u.map D.sz=v.map D.sz->D.szs u=D.szs v:=by
     intro u
     induction u with
     | nil=>intro v hv;cases v<;>simp_all
     | cons a u ihu=>intro v hv;cases v with
      | nil=>simp at hv
      | cons b v=>simp at hv;simp[hv.1,ihu v hv.2]
    unfold offk;exact hs _ _ (by rw[List.map_take,List.map_take,hz])
   have hlo:=K2 l i hi2;have hcl:=hr.len;simp only[E0,Array.length_toList] at hcl
   have hloc:(D.agg l).loc [i]=some (offk l i,l[i]):=by simp[D.loc,List.getElem?_eq_getElem hi2]
   have hupd:(D.agg l).upd [i] d=some (.agg (l.set i d)):=by simp[D.upd,List.getElem?_eq_getElem hi2]
   obtain⟨F2,g1,g2,_⟩:=hr.updP hloc hupd hsi.symm hrc List.nodup_nil List.nodup_nil (by simp) (by simp[D.noArr,List.getElem?_eq_getElem hi2])
   have hF2:F2=[]:=by
    cases F2 with
    | nil=>rfl
    | cons b r=>have:=g2 b (by simp);simp at this
   subst hF2;have hfold:=N1 cs xc (offk l i) 0 (by omega);simp only[Nat.add_zero] at hfold
   have hcs2:((a.eval x).cells.zipIdx.foldl (fun(c:Array Value) (p:Value×Nat)=>c.setIfInBounds (offk l i+p.2) p.1) cs).toList=cs.toList.take (offk l i)++xc++cs.toList.drop (offk l i+xc.length):=by
    rw[<- hfold,<- hxc,<- Array.foldl_toList];simp
   rw[<- hcs2] at g1
   obtain⟨out,q1,q2⟩:=ih (l.set i d) l' _ h p4 (by
    rw[List.map_set,<- hsi];rw[<- hz];apply List.ext_getElem?;intro j;rw[List.getElem?_set];split
    ·rename_i hij;subst hij;simp[hi2]
    ·rfl) g1
   refine⟨out, ?_,q2⟩;simp only[List.map_cons,Instr.fill]
   have hpl:(offl l0 0).toArray[i]? = some (offk l i,d.sz):=by
    rw[List.getElem?_toArray,YU l0 0 i hi,hoff,Nat.zero_add,<- p3]
   have hsz:(a.eval x).cells.size=d.sz:=by rw[<- Array.length_toList,hxc,hlen]
   simp only[hpl,hsz];rw[if_neg (by simp;omega)];exact q1
theorem R.bldSP{t:Nat}{ps:List (Nat×Operand)}{l l':List D}{ty rt:TypeId}[hT:BsT P ty l]
 (hps:EvS C.gl σ ps l l') (hp:PurP C.gl σ l ps) (ht:t<σ.n) :
 OpS P C ⟨some t,.build ty ps.toArray,rt,pos,aft,g⟩ σ (σ.set t (.agg l')):=by
 refine OpS.value fun a w ⟨ρ,Fe,Fb,st⟩=>?_;obtain⟨fs,it,zv,h1,h2,h3,h4,h5⟩:=hT.i;obtain⟨out,q1,q2⟩:=ZD (w:=w) (ρ:=ρ) (l0:=l) (fun x d h hp=>P2 st h hp) ps l l' zv.cells hps.ok hp rfl (E4 _ _ _ _ _ _ h5).flag
 have hps2:(ps.toArray.map fun x=>(x.1,a.eval x.2)).toList=ps.map (fun p=>(p.1,a.eval p.2)):=by simp
 refine⟨.agg out,w, ?_,st.put ht rfl ?_⟩
 ·have:=run_build (P:=P) w ty (ps.toArray.map fun x=>(x.1,a.eval x.2)) out (by
   rw[hps2];simp only[Program.built,h1,h2,h3,h4]
   exact q1)
  unfold execOp;simp only[Sem.run_bind,this,Result.andThen_ok,Sem.run_pure]
 ·simp only[VR,D.isAgg,if_true];exact⟨out,rfl,q2⟩
class BgT(P:Program)(t:TypeId)(l:outParam (List D)):Prop where
 i:∃ n e it zv ie z,P.underlying t=some (.array n e)/\P.info? t=some it/\it.zero=some zv/\P.info? e=some ie/\ie.size=z/\chk (.agg l) zv.cells.toList=true/\offl l 0=(List.range n).map (fun i=>(i*z,z))
theorem IU{f g:Nat->Option (Nat×Nat)}:∀ (ps:List (Nat×Value)) (cs:Array Value),(∀ p∈ps,f p.1=g p.1)->Instr.fill f cs ps=Instr.fill g cs ps:=by
 intro ps
 induction ps with
 | nil=>intro cs _;rfl
 | cons p ps ih=>
  intro cs h;obtain⟨i,v⟩:=p;have h0:=h (i,v) (by simp);simp only at h0;simp only[Instr.fill,h0]
  cases g i with
  | none=>rfl
  | some x=>
   obtain⟨off,size⟩:=x;simp only;split
   ·rfl
   ·exact ih _ (fun p hp=>h p (List.mem_cons_of_mem _ hp))
theorem R.bldAG{t:Nat}{ps:List (Nat×Operand)}{l l':List D}{ty rt:TypeId}[hT:BgT P ty l]
 (hps:EvS C.gl σ ps l l') (hp:PurP C.gl σ l ps) (ht:t<σ.n) :
 OpS P C ⟨some t,.build ty ps.toArray,rt,pos,aft,g⟩ σ (σ.set t (.agg l')):=by
 refine OpS.value fun a w ⟨ρ,Fe,Fb,st⟩=>?_;obtain⟨n,e,it,zv,ie,z,h1,h2,h3,h4,h5,h6,h7⟩:=hT.i;obtain⟨out,q1,q2⟩:=ZD (w:=w) (ρ:=ρ) (l0:=l) (fun x d h hp=>P2 st h hp) ps l l' zv.cells hps.ok hp rfl (E4 _ _ _ _ _ _ h6).flag
 have hps2:(ps.toArray.map fun x=>(x.1,a.eval x.2)).toList=ps.map (fun p=>(p.1,a.eval p.2)):=by simp
 have hll:l.length=n:=by
  have h8:∀ (l:List D) (o:Nat),(offl l o).length=l.length:=by
   intro l
   induction l with
   | nil=>intro o;rfl
   | cons d r ih=>intro o;simp[offl,ih]
  have:=congrArg List.length h7;rw[h8] at this;simpa using this
 have hin:∀ p∈ps.map (fun p=>(p.1,a.eval p.2)),((offl l 0).toArray[p.1]?)=some (p.1*z,z):=by
  intro p hp';obtain⟨q,hq,rfl⟩:=List.mem_map.1 hp'
  have hlt:q.1<l.length:=by
   clear q1 q2 hps hps2 hp'
   induction ps with
   | nil=>cases hq
   | cons y r ih=>
    obtain⟨i,x⟩:=y;obtain⟨⟨d,_,_,p3⟩,p4⟩:=hp
    rcases List.mem_cons.1 hq with rfl|hq
    ·simp only
     cases hli:l[i]? with
     | none=>rw[hli] at p3;cases p3
     | some d0=>exact(List.getElem?_eq_some_iff.1 hli).1
    ·exact ih p4 hq
  simp only[List.getElem?_toArray,h7,List.getElem?_map,List.getElem?_range (show q.1<n by omega),Option.map_some]
 rw[IU (g:=fun i=>some (i*z,z)) _ _ (fun p hp'=>hin p hp')] at q1;refine⟨.agg out,w, ?_,st.put ht rfl ?_⟩
 ·have:=run_build (P:=P) w ty (ps.toArray.map fun x=>(x.1,a.eval x.2)) out (by
   rw[hps2];simp only[Program.built,h1,h2,h3,h4,h5]
   exact q1)
  unfold execOp;simp only[Sem.run_bind,this,Result.andThen_ok,Sem.run_pure]
 ·simp only[VR,D.isAgg,if_true];exact⟨out,rfl,q2⟩
theorem R.ixG{x ix:Operand}{t e z m:Nat}{gg:Bool}{l:List D}{d:D}{n:Int}{ty rt:TypeId}[hT:ArT P ty m e][hL:LdT P e z gg](k:Nat)
 (hx:ev C.gl σ x=some (.agg l)) (hi:evo C.gl σ (some ix) 0=some n) (hk:n=(k:Int)) (hkm:Nat.blt k m=true) (h1:l[k]? = some d) (ho:offk l k=k*z) (hp:d.pur=true) (hz:d.sz=z) (hg:d.isAgg=gg) (ht:t<σ.n) :
 OpS P C ⟨some t,.index ty x ix,rt,pos,aft,g⟩ σ (σ.set t d):=by
 subst hk;have hkm:k<m:=Nat.le_of_ble_eq_true hkm;refine OpS.value fun a w ⟨ρ,Fe,Fb,st⟩=>?_;obtain⟨F,hv,_⟩:=c3 st hx rfl;simp only[VR,D.isAgg,if_true] at hv;obtain⟨cs,hex,hv⟩:=hv;obtain⟨kk,he⟩:=BF st hi;obtain⟨hkl,rfl⟩:=List.getElem?_eq_some_iff.1 h1
 cases hv with
 | agg _ _ Fs hsz hrr=>
  have hlt:=K2 l k hkl;have hr:=hrr k hkl;have hF:=hr.pur hp;rw[hF,ho,hz] at hr;obtain⟨v,hrun,hvr⟩:=F3 (P:=P) (e:=e) hr hz hg (by simp at hsz;omega);refine⟨v,w, ?_,st.put ht (c6 hp) hvr⟩;unfold execOp;simp[Instr.index,asIntOf,run_underlying hT.u,hex,he,hkm,LdT.size (P:=P) (t:=e),hrun]
def WU(P:Program)(C:Ctx)(c:Code)(Q:Exit->Sg->Prop)(σ:Sg):Prop:=
 ∀ a w,St C σ a w->∀ (b:Frame) (k:List Item) (cs:List Frame),b.roundOf=(Fx C).round->(Fx C).fn b.fn->(Fx C).room (cs.length+1+3) ->
  ∃ e a' w',(∃ s,St C s a' w'/\Q e s)/\ArrivesIn (Machine.fenced P (Fx C)) P (lone (b.atR a (.code c::.inLoop c::k)) cs w) b k cs e a' w'
theorem SL{c:Code}{Q:Exit->Sg->Prop}(h:WU P C c Q σ):W P C (.loop c) Q σ:=by
 intro a w hs b k cs hro hbf hr;obtain⟨e,a',w',hq,harr⟩:=h a w hs b k cs hro hbf hr;exact⟨e,a',w',hq,.of_steps (.one (fenced_calm hbf hr rfl) stepR_loop) harr⟩
theorem WU.step{c:Code}{Q:Exit->Sg->Prop}(h:W P C c (fun e s=>match e with | .normal=>WU P C c Q s|e=>Q e s) σ):WU P C c Q σ:=by
 intro a w hs b k cs hro hbf hr;obtain⟨e,a₁,w₁,⟨s,hs1,hq⟩,harr⟩:=h a w hs b (.inLoop c::k) cs hro hbf hr
 cases e with
 | normal=>
  obtain⟨e₂,a₂,w₂,hq₂,harr₂⟩:=hq a₁ w₁ hs1 b k cs hro hbf hr;exact⟨e₂,a₂,w₂,hq₂,.of_steps (StepsIn.trans harr (.one (fenced_calm hbf hr rfl) stepR_inLoop)) harr₂⟩
 | exit id=>exact⟨_,a₁,w₁,⟨s,hs1,hq⟩,.pass (x:=.inLoop c) rfl (fun _ _=>.inl (by simp)) harr⟩
 | goto l=>exact⟨_,a₁,w₁,⟨s,hs1,hq⟩,.pass (x:=.inLoop c) rfl (fun _ _=>.inl (by simp)) harr⟩
 | ret=>exact⟨_,a₁,w₁,⟨s,hs1,hq⟩,.pass (x:=.inLoop c) rfl (fun _ _=>.inl (by simp)) harr⟩
 | panic ch=>exact⟨_,a₁,w₁,⟨s,hs1,hq⟩,.pass (x:=.inLoop c) rfl (fun _ _=>.inl (by simp)) harr⟩
 | outgrown=>exact⟨_,a₁,w₁,⟨s,hs1,hq⟩,.pass (x:=.inLoop c) rfl (fun _ _=>.inl (by simp)) harr⟩
def EqV(P:Program)(k:Nat)(t:TypeId)(d1 d2:D)(b:Bool):Prop:=
 ∀ (n:Nat) (w:World) (ρ1 ρ2:Nat->Nat) (G1 G2 L1 L2:Nat->Prop) (v1 v2:Value) (F1 F2:List Nat),VR w ρ1 G1 L1 d1 v1 F1->VR w ρ2 G2 L2 d2 v2 F2->(Op.equalIn (n+k) t v1 v2).run P w=.ok b w
theorem EqV.int{t:TypeId}{k:IntKind}(ht:P.underlying t=some (.int k))(a b:Int):EqV P 1 t (.int a) (.int b) (a==b):=by
 intro n w ρ1 ρ2 G1 G2 L1 L2 v1 v2 F1 F2 h1 h2;simp only[VR,D.isAgg,Bool.false_eq_true,if_false] at h1 h2;cases h1;cases h2;exact run_equalIn_int w n t .i64 k a b ht
theorem EqV.u32{t:TypeId}{k:IntKind}(ht:P.underlying t=some (.int k))(a b:UInt32):EqV P 1 t (.u32 a) (.u32 b) (a==b):=by
 intro n w ρ1 ρ2 G1 G2 L1 L2 v1 v2 F1 F2 h1 h2;simp only[VR,D.isAgg,Bool.false_eq_true,if_false] at h1 h2;cases h1;cases h2;rw[run_equalIn_int w n t .u32 k _ _ ht,PN]
theorem EqV.u64{t:TypeId}{k:IntKind}(ht:P.underlying t=some (.int k))(a b:UInt64):EqV P 1 t (.u64 a) (.u64 b) (a==b):=by
 intro n w ρ1 ρ2 G1 G2 L1 L2 v1 v2 F1 F2 h1 h2;simp only[VR,D.isAgg,Bool.false_eq_true,if_false] at h1 h2;cases h1;cases h2;rw[run_equalIn_int w n t .u64 k _ _ ht,XW]
theorem EqV.arr{t e m:Nat}[hT:ArT P t m e][hk:IkT P e .u8][hL:LdT P e 1 false](xs ys:List UInt8):EqV P 2 t (.arr m 1 (xs.map .u8)) (.arr m 1 (ys.map .u8)) (xs==ys):=by
 intro n w ρ1 ρ2 G1 G2 L1 L2 v1 v2 F1 F2 h1 h2;simp only[VR,D.isAgg,if_true] at h1 h2;obtain⟨cx,rfl,h1⟩:=h1;obtain⟨cy,rfl,h2⟩:=h2;obtain⟨hlx,hcx⟩:=PO h1;obtain⟨hly,hcy⟩:=PO h2;obtain⟨d,i,_,_,hi,hsz⟩:=hL.i
 have hce:P.cellsOf e=1:=by simp[Program.cellsOf,hi,hsz]
 rw[show n+2=(n+1)+1 from rfl,run_equalIn_array w (n+1) cx cy hT.u hi,hce,T4 (P:=P) w n xs ys m hlx hly cx cy hcx hcy _ (fun i hi=>List.mem_range.1 hi),all_eq m xs ys hlx hly]
inductive EqFs(P:Program)(k:Nat):Nat->List Field->List D->List D->Bool->Prop
 | nil {o:Nat}:EqFs P k o [] [] [] true
 | cons {o z:Nat} {gg:Bool} {f:Field} {fs:List Field} {d1 d2:D} {ds1 ds2:List D} {b bs:Bool} (hn:(f.name != "_")=true) (ho:f.offset=o) (hL:LdT P f.type z gg) (hz1:d1.sz=z) (hz2:d2.sz=z) (hg1:d1.isAgg=gg) (hg2:d2.isAgg=gg)
  (h:EqV P k f.type d1 d2 b) (t:EqFs P k (o+z) fs ds1 ds2 bs):EqFs P k o (f::fs) (d1::ds1) (d2::ds2) (b&&bs)
theorem EqFs.run{k o:Nat}{fs:List Field}{ds1 ds2:List D}{b:Bool}(h:EqFs P k o fs ds1 ds2 b)(n:Nat)(w:World)(ρ1 ρ2:Nat->Nat)(G1 G2 L1 L2:Nat->Prop)(cs1 cs2:Array Value)(Fs1 Fs2:Nat->List Nat)
 (hc1:o+D.szs ds1<=cs1.size) (hc2:o+D.szs ds2<=cs2.size)
 (h1:∀ i (hi:i<ds1.length),Rc w ρ1 G1 L1 true ds1[i] ((cs1.toList.drop (o+offk ds1 i)).take ds1[i].sz) (Fs1 i)) (h2:∀ i (hi:i<ds2.length),Rc w ρ2 G2 L2 true ds2[i] ((cs2.toList.drop (o+offk ds2 i)).take ds2[i].sz) (Fs2 i)) :
 (Op.eqFields (n+k) cs1 cs2 fs).run P w=.ok b w:=by
 induction h generalizing Fs1 Fs2 with
 | nil=>simp[Op.eqFields]
 | @cons o z gg f fs d1 d2 ds1 ds2 b bs hn ho hL hz1 hz2 hg1 hg2 h t ih=>
  subst ho;simp only[K5] at hc1 hc2;have a1:=h1 0 (by simp);have a2:=h2 0 (by simp);simp only[List.getElem_cons_zero,s4,Nat.add_zero,hz1] at a1;simp only[List.getElem_cons_zero,s4,Nat.add_zero,hz2] at a2;obtain⟨v1,r1,q1⟩:=F3 (P:=P) (e:=f.type) (hL:=hL) a1 hz1 hg1 (by omega);obtain⟨v2,r2,q2⟩:=F3 (P:=P) (e:=f.type) (hL:=hL) a2 hz2 hg2 (by omega);have hb:=h n w _ _ _ _ _ _ _ _ _ _ q1 q2
  have ih':=ih (fun i=>Fs1 (i+1)) (fun i=>Fs2 (i+1)) (by omega) (by omega) (fun i hi=>by
   have:=h1 (i+1) (by simpa using hi);simp only[List.getElem_cons_succ,F5,hz1] at this
   rw[Nat.add_assoc];exact this) (fun i hi=>by
   have:=h2 (i+1) (by simpa using hi);simp only[List.getElem_cons_succ,F5,hz2] at this
   rw[Nat.add_assoc];exact this)
  have hne:f.name ≠ "_":=by simpa using hn
  simp only[Op.eqFields,hne,ne_eq,not_false_eq_true,if_true,Sem.run_bind,r1,r2,hb,Result.andThen_ok]
  cases b with
  | true=>simpa using ih'
  | false=>simp
theorem EqV.struct{t:TypeId}{k:Nat}{fs:Array Field}{ds1 ds2:List D}{b:Bool}(ht:P.underlying t=some (.struct fs))(hp:P.stoodInHeld t=false)(h:EqFs P k 0 fs.toList ds1 ds2 b):EqV P (k+1) t (.agg ds1) (.agg ds2) b:=by
 intro n w ρ1 ρ2 G1 G2 L1 L2 v1 v2 F1 F2 h1 h2;simp only[VR,D.isAgg,if_true] at h1 h2;obtain⟨cx,rfl,h1⟩:=h1;obtain⟨cy,rfl,h2⟩:=h2
 have hf:P.fieldsOf t=fs:=by simp[Program.fieldsOf,ht]
 rw[show n+(k+1)=(n+k)+1 from rfl,run_equalIn_struct w (n+k) t cx cy (by rw[hf];exact ht) hp,hf]
 cases h1 with
 | agg _ _ Fs1 hs1 hr1=>
  cases h2 with
  | agg _ _ Fs2 hs2 hr2=>
   simp only[Array.length_toList] at hs1 hs2;exact h.run n w ρ1 ρ2 G1 G2 L1 L2 cx cy Fs1 Fs2 (by omega) (by omega) (fun i hi=>by rw[Nat.zero_add];exact hr1 i hi) (fun i hi=>by rw[Nat.zero_add];exact hr2 i hi)
theorem R.eqD{neg:Bool}{x y:Operand}{t k:Nat}{d1 d2:D}{b b':Bool}{xt yt ty:TypeId}[hE:EqT P xt](he:EqV P k xt d1 d2 b)(hk:Nat.ble k 10000=true)
 (hx:ev C.gl σ x=some d1) (hy:ev C.gl σ y=some d2) (ha1:d1.isAgg=true) (ha2:d2.isAgg=true) (hr1:d1.isRef=false) (hr2:d2.isRef=false) (hb:(bif neg then !b else b)=b') (ht:t<σ.n) :
 OpS P C ⟨some t,.binOp (bif neg then .neq else .eql) xt x y yt,ty,pos,aft,g⟩ σ (σ.set t (.bool b')):=by
 subst hb;have hk:k<=10000:=Nat.le_of_ble_eq_true hk;refine OpS.value fun a w ⟨ρ,Fe,Fb,st⟩=>?_;obtain⟨Fx,hvx,_⟩:=c3 st hx hr1;obtain⟨Fy,hvy,_⟩:=c3 st hy hr2;have heq:=he (10000-k) w _ _ _ _ _ _ _ _ _ _ hvx hvy;rw[show 10000-k+k=10000 by omega] at heq;simp only[VR,ha1,if_true] at hvx;simp only[VR,ha2,if_true] at hvy;obtain⟨cx,hex,hvx⟩:=hvx;obtain⟨cy,hey,hvy⟩:=hvy;rw[hex,hey] at heq;refine⟨.bool (bif neg then !b else b),w, ?_,st.put ht rfl ?_⟩
 ·unfold execOp
  cases neg with
  | false=>simp only[cond_false,hex,hey,Sem.run_bind,run_eqGuard_agg w .eql xt x y cx cy hE.i,run_eql_struct,heq,Result.andThen_ok,Sem.run_pure]
  | true=>simp only[cond_true,hex,hey,Sem.run_bind,run_eqGuard_agg w .neq xt x y cx cy hE.i,run_neq_struct,heq,Result.andThen_ok,Sem.run_pure]
 ·simp only[VR,D.isAgg,Bool.false_eq_true,if_false];exact .bool _
theorem R.cpV{s s1 s0 t e z bytes lo n k:Nat}{l l' l2:List D}{x:Operand}{ty ty2 rt:TypeId}[hT:SlT P ty e][hE:ElT P e z bytes]
 (h:σ.get s=some (.vw s1 z lo n)) (ho:ownr σ s1 s0) (hs:σ.get s0=some (.sl (some e) z l)) (hl0:0<l.length) (hlo:lo+n<=l.length) (hpl:∀ y∈l,y.pur=true) (hx:SrcO C.gl σ x z l') (hnp:∀ y∈l',y.np=true) (ht:t<σ.n) (hst:s0≠t)
 (hk:min l'.length n=k) (hl2:l.take lo++l'.take k++l.drop (lo+k)=l2) :
 OpS P C ⟨some t,.call { callee:=.builtin .copy,args:=#[.tmp s,x],argTypes:=#[ty,ty2] },rt,pos,aft,g⟩ σ ((σ.upd s0 (.sl (some e) z l2)).set t (.int (k:Nat))):=by
 subst hl2;refine OpS.value fun a w ⟨ρ,Fe,Fb,st⟩=>?_;obtain⟨v,hv,hv0,hr⟩:=T5 st ho hs;obtain⟨_,v0,v1,h1,h2,b0,len,cap0,b1,cap',q1,q2,q3,q4,q5,q6⟩:=st.env _ _ h;rw[hv] at h1;cases h1;obtain⟨base,cap2,hxe,hsr,hp⟩:=hx.ok st;obtain⟨_,news,g1,g2,g3,g4⟩:=EY hsr hp;have hkn:k<=n:=hk▸Nat.min_le_right _ _;have hkl:k<=l'.length:=hk▸Nat.min_le_left _ _;have hkz:k*z<=l'.length*z:=Nat.mul_le_mul_right z hkl
 have hxl:(news.take (k*z)).length=k*z:=by simp;omega
 generalize hFe:Fe s0=F0 at hr;generalize hcv:[v]=cv at hr
 cases hr with
 | slN=>simp at hl0
 | slE=>simp at hl0
 | slO b cs e cap z l Fs hb hc hm hsz ho1 hrr=>
 simp only[List.cons.injEq,and_true] at hcv;subst hcv;cases q1;have hFs:∀ i (hi:i<l.length),Fs i=[]:=fun i hi=>(hrr i hi).pur (hpl _ (List.getElem_mem hi))
 have hflat:(List.range l.length).flatMap Fs=[]:=by
  rw[List.flatMap_eq_nil_iff];intro i hi;exact hFs i (List.mem_range.1 hi)
 rw[hflat] at hFe;have hbl:b<w.heap.size:=(Array.getElem?_eq_some_iff.1 hb).1
 have hlz:l.length*z<=cs.size:=by rw[hsz];exact Nat.mul_le_mul_right z hc
 have hlm:lo*z+k*z<=l.length*z:=by rw[<- Nat.add_mul];exact Nat.mul_le_mul_right z (by omega)
 have hp0:lo*z+(news.take (k*z)).length<=cs.toList.length:=by rw[hxl,Array.length_toList];omega
 have hlen2:(l.take lo++l'.take k++l.drop (lo+k)).length=l.length:=by simp;omega
 have hel:∀ i (hi:i<(l.take lo++l'.take k++l.drop (lo+k)).length),Rc w ρ (gd C Fe Fb) (fun id=>(σ.box id).isSome) false (l.take lo++l'.take k++l.drop (lo+k))[i]
  (((cs.toList.take (lo*z)++news.take (k*z)++cs.toList.drop (lo*z+(news.take (k*z)).length)).drop (i*z)).take z) []:=by
  intro i hi
  have hi':i<l.length:=by omega
  rcases Nat.lt_or_ge i lo with h5|h5
  ·have e1:(l.take lo++l'.take k++l.drop (lo+k))[i]=l[i]'(by omega):=by
    rw[List.getElem_append_left (by simp;omega),List.getElem_append_left (by simp;omega),List.getElem_take]
   have h6:(i+1)*z<=lo*z:=Nat.mul_le_mul_right z h5;rw[Nat.add_mul] at h6;rw[e1,X4 _ _ _ _ _ hp0 (.inl (by omega))];have:=hrr i hi';rw[hFs i hi'] at this;exact this
  ·rcases Nat.lt_or_ge i (lo+k) with h6|h6
   ·have e1:(l.take lo++l'.take k++l.drop (lo+k))[i]=l'[i-lo]'(by omega):=by
     have h7:(l.take lo).length=lo:=by simp;omega
     rw[List.getElem_append_left (by simp;omega),List.getElem_append_right (by omega),List.getElem_take];simp only[h7]
    have h8:=l9 (cs.toList.take (lo*z)) (news.take (k*z)) (cs.toList.drop (lo*z+(news.take (k*z)).length)) (i-lo) lo k z (by rw[List.length_take,Array.length_toList];omega) hxl (by omega);rw[show lo+(i-lo)=i by omega,<- List.append_assoc] at h8;rw[e1,h8];have h9:=F4 (news.take (k*z)) (news.drop (k*z)) (i-lo) k z hxl (by omega);rw[List.take_append_drop] at h9;rw[<- h9];exact g4 (i-lo) (by omega)
   ·have e1:(l.take lo++l'.take k++l.drop (lo+k))[i]=l[i]'(by omega):=by
     have h7:(l.take lo++l'.take k).length=lo+k:=by simp;omega
     rw[List.getElem_append_right (by omega),List.getElem_drop];simp only[h7,show lo+k+(i-(lo+k))=i by omega]
    have h7:(lo+k)*z<=i*z:=Nat.mul_le_mul_right z h6;rw[Nat.add_mul] at h7;rw[e1,X4 _ _ _ _ _ hp0 (.inr (by rw[hxl];exact h7))];have:=hrr i hi';rw[hFs i hi'] at this;exact this
 let cs2:List Value:=cs.toList.take (lo*z)++news.take (k*z)++cs.toList.drop (lo*z+(news.take (k*z)).length)
 have hcs2:cs2.length=cs.size:=by
  show(cs.toList.take (lo*z)++news.take (k*z)++cs.toList.drop (lo*z+(news.take (k*z)).length)).length=_;rw[K1 _ _ _ hp0,Array.length_toList]
 have st2:=st.turn (F:=[b]) (w':=w.setRow b cs2.toArray) (d':=.sl (some e) z (l.take lo++l'.take k++l.drop (lo+k))) hs rfl ⟨rfl,Nat.le_refl _⟩ rfl (by simp) (fun b' _ hb'=>setRow_other w b b' _ (fun e=>hb' (by rw[hFe,e];simp))) (by simp)
  (fun y hy=>.inl (by rw[hFe];exact hy)) (by
   refine(j2 rfl).2 ⟨_,hv0, ?_⟩;simp only[VR,D.isAgg,Bool.false_eq_true,if_false];have:=Rc.slO (w:=w.setRow b cs2.toArray) (ρ:=ρ) (G:=gd C (Go.Sx.upd Fe s0 [b]) Fb) (L:=fun id=>(σ.box id).isSome) (p:=true) b cs2.toArray e cap0 z (l.take lo++l'.take k++l.drop (lo+k)) (fun _=>[]) (setRow_heap w b cs _ e (0,0) hb) (by omega) hm
    (by simp only[List.size_toArray];rw[hcs2,hsz]) (fun u hu=>by
     simp only[cs2,List.mem_append] at hu
     rcases hu with (hu|hu)|hu
     ·exact ho1 u (List.mem_of_mem_take hu)
     ·exact g3 u (List.mem_of_mem_take hu)
     ·exact ho1 u (List.mem_of_mem_drop hu)) (fun j hj=>(hel j hj).mono (fun y hy _=>setRow_other w b y _ (fun e=>by
     subst e
     rcases hy with hy|hy
     ·exact hy.2 (.inl ⟨s0,by rw[hFe];simp⟩)
     ·cases hy)) (fun y hy _=>⟨hy.1,fun ho'=>hy.2 (by
      rcases ho' with ⟨u,hu'⟩|hid
      ·by_cases hus:u=s0
       ·subst hus;rw[j3] at hu';exact .inl ⟨u,by rw[hFe];exact hu'⟩
       ·rw[q8 hus] at hu';exact .inl ⟨u,hu'⟩
      ·exact .inr hid)⟩) (fun id hid=>⟨hid,rfl⟩))
   have e0:(List.range (l.take lo++l'.take k++l.drop (lo+k)).length).flatMap (fun _=>([]:List Nat))=[]:=by rw[List.flatMap_eq_nil_iff];intros;rfl
   rw[e0,hlen2] at this
   exact this)
 refine⟨.int .i64 (k:Nat),w.setRow b cs2.toArray, ?_,st2.put (t:=t) (d:=.int (k:Nat)) (v:=.int .i64 (k:Nat)) (by simpa using ht) rfl (by simp only[VR,D.isAgg,Bool.false_eq_true,if_false];exact .int _)⟩
 have hfc:(Builtin.firstCells z k (.slice base l'.length cap2)).run P w=.ok (news.take (k*z)).toArray w:=by
  rcases g1 with ⟨rfl,rfl,rfl⟩|⟨ad,rfl,hn⟩
  ·have:k=0:=by simp at hkl;exact hkl
   subst this;simp[Builtin.firstCells]
  ·refine run_firstCells_some w z k ad l'.length cap2 _ hxl (fun j u hu=>hn j u ?_);rw[List.getElem?_take] at hu;split at hu
   ·exact hu
   ·cases hu
 obtain⟨o',hb1,ho'⟩:∃ o',b1=some ⟨b,o',none⟩/\(o'=lo*z∨(o'=0/\n=0)):=by
  rcases q6 with ⟨bb,o,o',h3,h4,h5⟩|⟨h3,_⟩
  ·cases h3;exact⟨o',h4,by simpa using h5⟩
  ·omega
 have hst:(storeCells ⟨b,o',none⟩ (news.take (k*z)) 0).run P w=.ok () (w.setRow b cs2.toArray):=by
  rcases ho' with rfl|⟨rfl,rfl⟩
  ·have:=run_storeCells_at P b (lo*z) e (news.take (k*z)) 0 cs w hb (by rw[hxl];omega) (fun u hu=>g3 u (List.mem_of_mem_take hu));simp only[Nat.add_zero] at this;exact this
  ·have hk0:k=0:=by omega
   subst hk0
   have:cs2.toArray=cs:=by
    show(cs.toList.take (lo*z)++news.take (0*z)++cs.toList.drop (lo*z+(news.take (0*z)).length)).toArray=cs;simp
   rw[this,setRow_self w b cs e (0,0) hb];simp only[Nat.zero_mul,List.take_zero];rfl
 subst hb1;subst q2;unfold execOp;have hmin:Nat.min l'.length n=k:=hk;simp[resolve,invoke,builtin,Builtin.copy_,run_underlying hT.u,w3 h2,hxe,Builtin.lenOf,ElT.size (P:=P) (e:=e),hmin,hfc,hst,goInt]
end Go.Sx

namespace Go.Sx
variable{P:Program}{C:Ctx}{σ σ' σ1:Sg}{a:Act}{w w':World}{ρ:Nat->Nat}{Fe Fe' Fb:Nat->List Nat}
variable{gl:List (Nat×D)}{W0:World}{G:Nat->Prop}
theorem WP{ids:List Nat}{pn:Nat->Option Nat}{ops:List Oper}{g:Option (Nat×Bool)}{G:Nat->Prop}{Y:Yt}{k:Nat}{l:List Oper}{Q:Exit->(Nat×Bool)×Sg->Prop}{y t lo:Nat}{x:Operand}{d:D}{xs:List D}{tys:Array TypeId}{rt:TypeId}{pos:String}{aft:Array Edge}
 (hw:Wt ops σ.get ⟨some t,.call { callee:=.value (.tmp y),args:=#[x],argTypes:=tys },rt,pos,aft,g⟩ true)
 (hY:Stable Y) (hyl:∀ k O w v,(h:k<xs.length)->Y k false O w->(∀ b,O b->b<w.heap.size)->VR w (fun x=>x) (fun b=>G b∨O b) (fun _=>False) xs[k] v []->R4 P lo v w (Rnd Y G O k w))
 (hg:σ.get y=some (.yld lo)) (hx:ev gl σ x=some d) (hp:d.pur=true) (hn:d.np=true) (hk:k<xs.length) (hd:xs[k]=d) (ht:t<σ.n)
 (kk:∀ s,VL P none (AM (UI gl G Y ids pn)) ops.toArray l Q ((k+1,s),σ.set t (.bool (!s)))) :
 VL P none (AM (UI gl G Y ids pn)) ops.toArray (⟨some t,.call { callee:=.value (.tmp y),args:=#[x],argTypes:=tys },rt,pos,aft,g⟩::l) Q ((k,false),σ):=by
 intro a w ⟨C,⟨h1,h2,h3,h4,O,hkeep,hok,hG,hO,hYk⟩,ρ,Fe,Fb,st⟩;simp only[wpListIn,hw.ok ⟨ρ,Fe,Fb,st⟩ (fun _ _ h=>h),if_true];obtain⟨vy,hvy,hry⟩:=(j2 rfl).1 (st.env y _ hg);simp only[VR,D.isAgg,Bool.false_eq_true,if_false] at hry;generalize Fe y=Fy at hry;cases hry
 -- what it owns by now
 let O':Nat->Prop:=fun b=>(O b∨C.w0.heap.size<=b)/\b<w.heap.size
 have hap:Apart O O' C.w0 w:={
  same:=fun b hb hn=>(st.kept b ((hkeep b).2 ⟨hb,hn⟩)).1
  size:=st.grown
  sub:=fun b hb=>hb.1
  lt:=fun b hb=>hb.2
  os:=st.os
  tape:=⟨st.tape.tp,st.tape.dr⟩
  output:=st.output }
 have hY1:Y k false O' w:=hY _ _ _ _ _ _ hYk hap;have hlt:=st.lt
 have hownO:∀ b,own Fe Fb b->O' b:=fun b hb=>by
  refine⟨?_,hlt b hb⟩;by_cases h0:C.w0.heap.size<=b
  ·exact .inr h0
  ·left;by_cases hOb:O b
   ·exact hOb
   ·exact absurd ((hkeep b).2 ⟨by omega,hOb⟩) (st.new b hb)
 have hgdO:∀ b,gd C Fe Fb b->b<w.heap.size->G b∨O' b:=fun b hb hl=>by
  rcases(hok b).1 hb.1 with h|h|h
  ·exact .inl h
  ·exact .inr ⟨.inl h,hl⟩
  ·exact .inr ⟨.inr h,hl⟩
 have hv:VR w (fun x=>x) (fun b=>G b∨O' b) (fun _=>False) xs[k] (a.eval x) []:=by
  rw[hd];obtain⟨F,hvx,_⟩:=c3 st (by rw[h1];exact hx) (c6 hp);have hFx:=hvx.pur hp;subst hFx;exact(hvx.noL (ρ':=fun x=>x) (L':=fun _=>False) hn).mono (fun _ _ _=>rfl) hgdO (fun _ h=>h.elim)
 obtain⟨f,tmps,assign,body,hrun,hround⟩:=hyl k O' w (a.eval x) hk hY1 (fun b hb=>hb.2) hv
 have hexec:(execOp a.eval ⟨some t,.call { callee:=.value (.tmp y),args:=#[x],argTypes:=tys },rt,pos,aft,g⟩).run P w=.ok (.round lo f tmps assign body) w:=by
  unfold execOp;simp[resolve,w3 hvy,Deferred.ofValue,invoke,hrun]
 have hF:Fx C=Fr none:=by unfold Fx Fr;rw[h2]
 have hgoal:Oper.wpIn (Fx C) 3 P ⟨some t,.call { callee:=.value (.tmp y),args:=#[x],argTypes:=tys },rt,pos,aft,g⟩ a w (wpListIn (Fr none) 3 P ops.toArray (fun e a' w'=>∃ j,AM (UI gl G Y ids pn) j a' w'/\Q e j) l) (fun e a' w'=>∃ j,AM (UI gl G Y ids pn) j a' w'/\Q e j):=by
  refine Z7 hexec (by simp) ?_;rw[Oper.uponIn_round,hF];refine⟨(fun h=>by cases h),hround.mono fun e w' ⟨s',he,hr⟩=>?_⟩;subst he;refine kk s' _ _ ?_
  let C':Ctx:=⟨w',fun b=>b<w'.heap.size/\¬ O' b,fun b=>G b∨O' b∨w'.heap.size<=b,gl,none,C.pin,C.df⟩
  have hGs:∀ b,G b->b<w.heap.size:=fun b hb=>Nat.lt_of_lt_of_le (hG b hb).1 st.grown
  have hGO:∀ b,G b->¬ O' b:=fun b hb hc=>by
   rcases hc.1 with h|h
   ·exact(hG b hb).2 h
   ·have:=(hG b hb).1;omega
  have hgd2:∀ b,(gd C Fe Fb b∨own Fe Fb b)->b<w.heap.size->w'.heap[b]? = w.heap[b]?:=fun b hb hl=>hr.same b (hb.elim (fun h=>hgdO b h hl) (fun h=>.inr (hownO b h))) hl;have st':StW C' σ a w' ρ Fe Fb:=st.rebase C' rfl rfl hgd2 (fun b hb hl=>(hgdO b hb hl).imp (fun h=>h) (fun h=>.inl h)) (fun b hb hc=>hc.2 (hownO b hb)) (fun b hb=>⟨rfl,hb.1⟩) rfl ⟨rfl,Nat.le_refl _⟩ rfl (Nat.le_refl _)
   (fun g d hgd=>by
    obtain⟨q1,q2,cs,e,fz,q3,q4⟩:=st.gl g d (by rw[h1];exact hgd);have q1':=(hkeep g).1 q1
    have hGg:G g:=by
     rcases(hok g).1 q2 with h|h|h
     ·exact h
     ·exact absurd h q1'.2
     ·omega
    have hsz:g<w.heap.size:=hGs g hGg;refine⟨⟨Nat.lt_of_lt_of_le hsz hr.size,hGO g hGg⟩,.inl hGg,cs,e,fz, ?_,q4.mono (fun b hb=>?_) (fun _ h=>h.elim) (fun _ h=>h.elim)⟩
    ·show w'.heap[g]? = _;rw[hr.same g (.inl hGg) hsz,(st.kept g q1).1,q3]
    ·rcases hb with hb|hb
     ·exact hb.elim
     ·cases hb)
   (fun b hb=>.inr (.inr hb)) (fun b hb=>.inr (.inl (hownO b hb)))
  refine⟨C',⟨rfl,rfl,h3,h4,O',fun b=>Iff.rfl,fun b=>Iff.rfl,fun b hb=>⟨Nat.lt_of_lt_of_le (hGs b hb) hr.size,hGO b hb⟩,fun b hb=>Nat.lt_of_lt_of_le hb.2 hr.size,hr.y⟩, ?_⟩;exact st'.put ht rfl (by simp only[VR,D.isAgg,Bool.false_eq_true,if_false];exact .bool _)
 rw[hF] at hgoal;exact hgoal
end Go.Sx
