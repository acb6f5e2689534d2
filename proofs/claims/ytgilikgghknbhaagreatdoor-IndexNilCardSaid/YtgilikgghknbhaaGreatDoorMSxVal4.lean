/- Own texts. -/
import Derived.Test.YtgilikgghknbhaaGreatDoorMSxAl
import Derived.MapKept
import Derived.Laws.IdiomStrings
import Derived.RangeFuncIn
import Derived.RangeFuncRecord
import Derived.RangeFuncLeaves
import Derived.Laws.StructEq
set_option linter.unusedVariables false
set_option linter.unusedSimpArgs false
set_option linter.unnecessarySimpa false

namespace Go.Sx
variable{rt ty:TypeId}{F path live:List Nat}{Q:Exit->Sg->Prop}{bx' nw:List (Nat×Bx)}{L L' G':Nat->Prop}{g:Option (Nat×Bool)}{α:Type}{tys:Array TypeId}{aft:Array Edge}{env':List (Nat×D)}{args:List Operand}{pos:String}{off bytes:Nat}{d0 r':D}{l2 caps:List D}{pan:Bool}{kv:Value}
section
variable{pos:String}{aft:Array Edge}{g:Option (Nat×Bool)}
variable{P:Program}{C:Ctx}{σ σ' σ1:Sg}{a:Act}{w w':World}{ρ:Nat->Nat}{Fe Fe' Fb:Nat->List Nat}
class BaT(P:Program)(t:TypeId)(n e z:outParam Nat):Prop where
 i:∃ it zv ie,P.underlying t=some (.array n e)/\P.info? t=some it/\it.zero=some zv/\P.info? e=some ie/\ie.size=z/\zv.cells.size=n*z
theorem R.bldA{t n e z:Nat}{ps:List (Nat×Operand)}{ds:List D}[hT:BaT P ty n e z]
 (hps:evs C.gl σ ps 0=some ds) (hp:z86 z ds) (hk:ds.length=n) (ht:t<σ.n) :
 OpS P C ⟨some t,.build ty ps.toArray,rt,pos,aft,g⟩ σ (σ.set t (.arr n z ds)):=by
 refine OpS.value λa w ⟨ρ,Fe,Fb,st⟩=>?_;obtain⟨it,zv,ie,h1,h2,h3,h4,h5,h6⟩:=hT.i;subst hk;obtain⟨out,q1,q2,q3,q4⟩:=VJ (w:=w) (ρ:=ρ) (z:=z) (λx d h hp=>KC st h hp) ps 0 ds zv.cells hps hp (by rw[h6];simp);simp only[c9] at q4
 have hps2:(ps.toArray.map λx=>(x.1,a.eval x.2)).toList=ps.map (λp=>(p.1,a.eval p.2)):=by simp
 have hpur:(D.arr ds.length z ds).pur=true:=rfl;refine⟨.agg out,w, ?_,st.put ht rfl ?_⟩
 ·have:=run_build (P:=P) w ty (ps.toArray.map λx=>(x.1,a.eval x.2)) out (by
   rw[hps2];simp only[Program.built,h1,h2,h3,h4,h5]
   exact q1)
  unfold execOp;simp only[Sem.run_bind,this,Result.andThen_ok,Sem.run_pure]
 ·simp only[VR,D.isAgg,j9];exact⟨out,rfl,.arr _ _ _ _ rfl (by simp[q2,h6]) q4⟩
def offl:List D->Nat->List (Nat×Nat)
 | [],_=>[]
 | d::r,o=>(o,d.sz)::offl r (o+d.sz)
theorem NI(l:List D)(o i:Nat)(h:i<l.length):(offl l o)[i]? = some (o+offk l i,l[i].sz):=by
 induction l generalizing o i with
 | nil=>simp at h
 | cons d r ih=>
  cases i with
  | zero=>simp[offl,offk]
  | succ i=>
   simp only[offl,I0];rw[ih (o+d.sz) i (by simpa using h)];simp[XV,U7]
class BsT(P:Program)(t:TypeId)(l:outParam (List D)):Prop where
 i:∃ fs it zv,P.underlying t=some (.struct fs)/\P.info? t=some it/\it.zero=some zv/\fs.toList.mapM (λf=>(P.info? f.type).map λi=>(f.offset,i.size))=some (offl l 0)/\chk (.agg l) zv.cells.toList=true
def BA(gl:List (Nat×D))(σ:Sg):List (Nat×Operand)->List D->Option (List D)
 | [],l=>some l
 | (i,x)::r,l=>match ev gl σ x with
  | some d=>BA gl σ r (l.set i d)
  | none=>none
def w12(gl:List (Nat×D))(σ:Sg)(l:List D):List (Nat×Operand)->Prop
 | []=>True
 | (i,x)::r=>(∃ d,ev gl σ x=some d/\d.pur=true/\d.np=true/\(l[i]?).map D.sz=some d.sz)/\w12 gl σ l r
theorem VK{G:Nat->Prop}{gl:List (Nat×D)}{l0:List D}(hv:∀ x d,ev gl σ x=some d->d.pur=true->∃ cs:List Value,(a.eval x).cells.toList=cs/\Rc w ρ G L true d cs []) :
 ∀ (ps:List (Nat×Operand)) (l l':List D) (cs:Array Value),BA gl σ ps l=some l'->w12 gl σ l0 ps->l.map D.sz=l0.map D.sz->Rc w ρ G L false (.agg l) cs.toList [] ->
  ∃ out:Array Value,Instr.fill ((offl l0 0).toArray[·]?) cs (ps.map (λp=>(p.1,a.eval p.2)))=some out/\Rc w ρ G L false (.agg l') out.toList []:=by
 intro ps
 induction ps with
 | nil=>intro l l' cs h _ _ hr;simp only[BA,z6] at h;subst h;exact⟨cs,rfl,hr⟩
 | cons p ps ih=>
  intro l l' cs h hp hz hr;obtain⟨i,x⟩:=p;obtain⟨⟨d,hx,p1,p2,p3⟩,p4⟩:=hp;simp only[BA,hx] at h;obtain⟨xc,hxc,hrc⟩:=hv x d hx p1;have hlen:=hrc.len
  cases hl0:l0[i]? with
  | none=>rw[hl0] at p3;cases p3
  | some d0=>
   obtain⟨hi,rfl⟩:=z8.1 hl0;rw[hl0] at p3;simp only[Y1,z6] at p3
   have hll:l.length=l0.length:=by have:=g8 List.length hz;simpa using this
   have hi2:i<l.length:=by omega
   have hsi:l[i].sz=d.sz:=by
    have:(l.map D.sz)[i]'(by simpa using hi2)=(l0.map D.sz)[i]'(by simpa using hi):=by simp only[hz]
    simp at this;omega
   have hoff:offk l i=offk l0 i:=by
    have hs:∀ (u v:List D),u.map D.sz=v.map D.sz->N6 u=N6 v:=by
     intro u
     induction u with
     | nil=>intro v hv;cases v<;>simp_all
     | cons a u ihu=>intro v hv;cases v with
      | nil=>simp at hv
      | cons b v=>simp at hv;simp[hv.1,ihu v hv.2]
    unfold offk;exact hs _ _ (by rw[U8,U8,hz])
   have hlo:=T3 l i hi2;have hcl:=hr.len;simp only[JM,p6] at hcl
   have hloc:(D.agg l).loc [i]=some (offk l i,l[i]):=by simp[D.loc,j8 hi2]
   have hupd:(D.agg l).upd [i] d=some (.agg (l.set i d)):=by simp[D.upd,j8 hi2]
   obtain⟨F2,g1,g2,_⟩:=hr.upd hloc hupd hsi.symm (hrc.unflag p2) w9 w9 (by simp) (.inl rfl)
   have hF2:F2=[]:=by
    cases F2 with
    | nil=>rfl
    | cons b r=>have:=g2 b (by simp);simp at this
   subst hF2;have hfold:=JG cs xc (offk l i) 0 (by omega);simp only[J8] at hfold
   have hcs2:((a.eval x).cells.zipIdx.foldl (λ(c:Array Value) (p:Value×Nat)=>c.setIfInBounds (offk l i+p.2) p.1) cs).toList=cs.toList.take (offk l i)++xc++cs.toList.drop (offk l i+xc.length):=by
    rw[<- hfold,<- hxc,<- B7];simp
   rw[<- hcs2] at g1
   obtain⟨out,q1,q2⟩:=ih (l.set i d) l' _ h p4 (by
    rw[W6,<- hsi];rw[<- hz];apply Z6;intro j;rw[L8];split
    ·rename_i hij;subst hij;simp[hi2]
    ·rfl) g1
   refine⟨out, ?_,q2⟩;simp only[b9,Instr.fill]
   have hpl:(offl l0 0).toArray[i]? = some (offk l i,d.sz):=by
    rw[H0,NI l0 0 i hi,hoff,c9,<- p3]
   have hsz:(a.eval x).cells.size=d.sz:=by rw[<- p6,hxc,hlen]
   simp only[hpl,hsz];rw[w3 (by simp;omega)];exact q1
theorem R.bldS{t:Nat}{ps:List (Nat×Operand)}{l l':List D}[hT:BsT P ty l]
 (hps:BA C.gl σ ps l=some l') (hp:w12 C.gl σ l ps) (ht:t<σ.n) :
 OpS P C ⟨some t,.build ty ps.toArray,rt,pos,aft,g⟩ σ (σ.set t (.agg l')):=by
 refine OpS.value λa w ⟨ρ,Fe,Fb,st⟩=>?_;obtain⟨fs,it,zv,h1,h2,h3,h4,h5⟩:=hT.i;obtain⟨out,q1,q2⟩:=VK (w:=w) (ρ:=ρ) (l0:=l) (λx d h hp=>KC st h hp) ps l l' zv.cells hps hp rfl (XO _ _ _ _ _ _ h5)
 have hps2:(ps.toArray.map λx=>(x.1,a.eval x.2)).toList=ps.map (λp=>(p.1,a.eval p.2)):=by simp
 refine⟨.agg out,w, ?_,st.put ht rfl ?_⟩
 ·have:=run_build (P:=P) w ty (ps.toArray.map λx=>(x.1,a.eval x.2)) out (by
   rw[hps2];simp only[Program.built,h1,h2,h3,h4]
   exact q1)
  unfold execOp;simp only[Sem.run_bind,this,Result.andThen_ok,Sem.run_pure]
 ·simp only[VR,D.isAgg,j9];exact⟨out,rfl,q2.flag⟩
end
section
variable{P:Program}{C:Ctx}{σ σ' σ1:Sg}{xt yt ty:TypeId}{x y:Operand}{t:Nat}{pos:String}{aft:Array Edge}{g:Option (Nat×Bool)}
theorem evt{gl:List (Nat×D)}{σ:Sg}{s:Nat}{d:D}(h:σ.get s=some d):ev gl σ (.tmp s)=some d:=h
theorem RA(m n:Nat)(hx:ev C.gl σ x=some (.int (m:Int)))(hy:ev C.gl σ y=some (.int (n:Int)))(h:m+n<9223372036854775808)(ht:t<σ.n) :
 OpS P C ⟨some t,.binOp .add xt x y yt,ty,pos,aft,g⟩ σ (σ.set t (.int ((m+n:Nat):Int))):=
 P1 hx hy rfl trivial (KH (by omega) (by omega) (by omega)) ht
theorem GG(m n:Nat)(hx:ev C.gl σ x=some (.int (m:Int)))(hy:ev C.gl σ y=some (.int (n:Int)))(h:n<=m)(h2:m<9223372036854775808)(ht:t<σ.n) :
 OpS P C ⟨some t,.binOp .sub xt x y yt,ty,pos,aft,g⟩ σ (σ.set t (.int ((m-n:Nat):Int))):=
 P1 hx hy rfl trivial (KH (by omega) (by omega) (by omega)) ht
theorem AK(m n:Nat)(hx:ev C.gl σ x=some (.int (m:Int)))(hy:ev C.gl σ y=some (.int (n:Int)))(h:m*n<9223372036854775808)(ht:t<σ.n) :
 OpS P C ⟨some t,.binOp .mul xt x y yt,ty,pos,aft,g⟩ σ (σ.set t (.int ((m*n:Nat):Int))):=
 P1 hx hy rfl trivial (KH (by rw[Int.natCast_mul]) (by have:(0:Int)<=((m*n:Nat):Int):=Y4 _;omega) (by omega)) ht
theorem XJ(m n:Nat)(hx:ev C.gl σ x=some (.int (m:Int)))(hy:ev C.gl σ y=some (.int (n:Int)))(h:0<n)(h2:m<9223372036854775808)(ht:t<σ.n) :
 OpS P C ⟨some t,.binOp .quo xt x y yt,ty,pos,aft,g⟩ σ (σ.set t (.int ((m/n:Nat):Int))):=
 P1 hx hy rfl (show(n:Int)≠0 by omega) (KH (by rw[Int.ofNat_tdiv]) (by have:(0:Int)<=((m/n:Nat):Int):=Y4 _;omega) (by have:=F9 m n;omega)) ht
theorem XA(m n:Nat)(hx:ev C.gl σ x=some (.int (m:Int)))(hy:ev C.gl σ y=some (.int (n:Int)))(h:0<n)(ht:t<σ.n) :
 OpS P C ⟨some t,.binOp .rem xt x y yt,ty,pos,aft,g⟩ σ (σ.set t (.int ((m%n:Nat):Int))):=
 P1 hx hy rfl (show(n:Int)≠0 by omega) (g8 D.int (by rw[Int.ofNat_tmod])) ht
theorem j81(m n:Nat)(hx:ev C.gl σ x=some (.int (m:Int)))(hy:ev C.gl σ y=some (.int (n:Int)))(ht:t<σ.n) :
 OpS P C ⟨some t,.binOp .lss xt x y yt,ty,pos,aft,g⟩ σ (σ.set t (.bool (decide (m<n)))):=P1 hx hy rfl trivial (g8 D.bool (by rw[J1];simp)) ht
theorem AJ(m n:Nat)(hx:ev C.gl σ x=some (.int (m:Int)))(hy:ev C.gl σ y=some (.int (n:Int)))(ht:t<σ.n) :
 OpS P C ⟨some t,.binOp .leq xt x y yt,ty,pos,aft,g⟩ σ (σ.set t (.bool (decide (m<=n)))):=P1 hx hy rfl trivial (g8 D.bool (by rw[J1];simp)) ht
theorem q41(m n:Nat)(hx:ev C.gl σ x=some (.int (m:Int)))(hy:ev C.gl σ y=some (.int (n:Int)))(ht:t<σ.n) :
 OpS P C ⟨some t,.binOp .gtr xt x y yt,ty,pos,aft,g⟩ σ (σ.set t (.bool (decide (n<m)))):=P1 hx hy rfl trivial (g8 D.bool (by rw[J1];simp)) ht
theorem u24(m n:Nat)(hx:ev C.gl σ x=some (.int (m:Int)))(hy:ev C.gl σ y=some (.int (n:Int)))(ht:t<σ.n) :
 OpS P C ⟨some t,.binOp .geq xt x y yt,ty,pos,aft,g⟩ σ (σ.set t (.bool (decide (n<=m)))):=P1 hx hy rfl trivial (g8 D.bool (by rw[J1];simp)) ht
theorem s3(m n:Nat)(hx:ev C.gl σ x=some (.int (m:Int)))(hy:ev C.gl σ y=some (.int (n:Int)))(ht:t<σ.n) :
 OpS P C ⟨some t,.binOp .eql xt x y yt,ty,pos,aft,g⟩ σ (σ.set t (.bool (decide (m=n)))):=P1 hx hy rfl trivial (g8 D.bool (by rw[J1];simp;omega)) ht
theorem GH(m n:Nat)(hx:ev C.gl σ x=some (.int (m:Int)))(hy:ev C.gl σ y=some (.int (n:Int)))(ht:t<σ.n) :
 OpS P C ⟨some t,.binOp .neq xt x y yt,ty,pos,aft,g⟩ σ (σ.set t (.bool (decide (m≠n)))):=P1 hx hy rfl trivial (g8 D.bool (by rw[J1];simp;omega)) ht
theorem n8[Inhabited α]{f:α->D}{l:List α}{i:Nat}(h:i<l.length):(l.map f)[i]? = some (f l[i]!):=by
 rw[J2,j8 h];simp[h]
theorem c4{x y:Code}{t:Nat}{p:Prop}[Decidable p](ht:σ.get t=some (.bool (decide p)))(h1:p->W P C x Q σ)(h2:¬ p->W P C y Q σ):W P C (.cond (.tmp t) x y) Q σ:=
 W.cond ht (λh=>h1 (c3 h)) (λh=>h2 (g7 h))
theorem Y8{x y:Code}{t:Nat}{b:Bool}(ht:σ.get t=some (.bool b))(hb:b=true)(h1:W P C x Q σ):W P C (.cond (.tmp t) x y) Q σ:=
 W.cond ht (λ_=>h1) (λh=>by rw[hb] at h;cases h)
theorem Y3{x y:Code}{t:Nat}{b:Bool}(ht:σ.get t=some (.bool b))(hb:b=false)(h1:W P C y Q σ):W P C (.cond (.tmp t) x y) Q σ:=
 W.cond ht (λh=>by rw[hb] at h;cases h) (λ_=>h1)
theorem RC{x y:Code}(M:Sg->Prop)(h1:W P C x (λe s=>match e with | .normal=>M s|e=>Q e s) σ)(h2:∀ s,M s->W P C y Q s):W P C (.seq x y) Q σ:=
 W.seq (h1.mono (λe s h=>by cases e<;>first|exact h2 s h|exact h))
theorem Ends.one'{rv:ResultVar}{r:D}{e:Exit}{σ:Sg}(he:e=.normal∨e=.ret)(h:YI σ rv=some r')(hr:r'=r)(h1:r.isRef=false)(h2:r.np=true)(h3:WY P r rv):Ends [rv] P r e σ:=by
 subst hr;exact⟨he,h,h1,h2,h3⟩
theorem evg{gl:List (Nat×D)}{gg:Nat}{d:D}(hC:C.gl=gl)(h:lk gl gg=some d):ev C.gl σ (.global gg)=some (.rp d):=by
 rw[hC];simp only[ev,h,Y1]
theorem C5{gl:List (Nat×D)}{n m:Int}(h:ev gl σ x=some (.int n)):evo gl σ (some x) m=some n:=by simp only[evo,h,D.cnt]
theorem u88{gl:List (Nat×D)}{n:UInt64}{m:Int}(h:ev gl σ x=some (.u64 n)):evo gl σ (some x) m=some (n.toNat:Int):=by simp only[evo,h,D.cnt]
theorem X5{f:α->D}{l:List α}(h:∀ x,(f x).brw=f x):(l.map f).map D.brw=l.map f:=by simp[Function.comp_def,h]
theorem K7{f:α->D}{l:List α}(h:∀ x,Frs (f x)):∀ x∈l.map f,Frs x:=by
 intro x hx;obtain⟨y,_,rfl⟩:=n9.1 hx;exact h y
theorem B0{f:α->D}{l:List α}(h:∀ x,(f x).pur=true):∀ x∈l.map f,x.pur=true:=by
 intro x hx;obtain⟨y,_,rfl⟩:=n9.1 hx;exact h y
theorem NR{f:α->D}{l:List α}(h:∀ x,(f x).np=true):∀ x∈l.map f,x.np=true:=by
 intro x hx;obtain⟨y,_,rfl⟩:=n9.1 hx;exact h y
theorem x72:∀ x∈([]:List D),Frs x:=λ_ h=>by cases h
theorem DR{d:D}{l:List D}(h:Frs d)(hl:∀ x∈l,Frs x):∀ x∈d::l,Frs x:=λx hx=>by
 rcases w5.1 hx with rfl|hx
 ·exact h
 ·exact hl x hx
theorem FrsR.one{r:D}(h:Frs r):FrsR r:=.inr ⟨λds e=>(by rw[e] at h;cases h),h⟩
theorem o9{f:FuncId}[CaT P f]{gl:List (Nat×D)}{ds:List D}{r:D}
 (hC:C.gl=gl) (hF:Fn P gl f ds r) (hb:Bors C.gl σ args ds) (hr:FrsR r) (ht:t<σ.n) :
 OpS P C ⟨some t,.call { callee:=.value (.func f),args:=args.toArray,argTypes:=tys },rt,pos,aft,g⟩ σ (σ.set t r):=by
 subst hC;exact R.call hF hb hr ht
theorem P9{c:Code}{s:Nat}(e z:Nat)(h:σ.get s=some .nils)(k:W P C c Q (σ.upd s (.sl (some e) z []))):W P C c Q σ:=by
 intro a w ⟨ρ,Fe,Fb,st⟩;refine k a w ⟨ρ,_,Fb,st.turn (F:=[]) h rfl ⟨rfl,z7 _⟩ rfl (z7 _) (λ_ _ _=>rfl) w9 (by simp) ?_⟩;obtain⟨v,hv,hr⟩:=(c5 rfl).1 (st.env _ _ h);simp only[VR,D.isAgg,q7,q8] at hr;refine(c5 rfl).2 ⟨v,hv, ?_⟩;simp only[VR,D.isAgg,q7,q8];rw[hr.nil_val];exact .slN _ _
inductive Evs(gl:List (Nat×D))(σ:Sg):List (Nat×Operand)->Nat->List D->Prop
 | nil {k:Nat}:Evs gl σ [] k []
 | cons {k:Nat} {x:Operand} {d:D} {ps:List (Nat×Operand)} {ds:List D} (h:ev gl σ x=some d) (t:Evs gl σ ps (k+1) ds):Evs gl σ ((k,x)::ps) k (d::ds)
theorem Evs.ok{gl:List (Nat×D)}{ps:List (Nat×Operand)}{k:Nat}{ds:List D}(h:Evs gl σ ps k ds):evs gl σ ps k=some ds:=by
 induction h with
 | nil=>rfl
 | cons h t ih=>simp[evs,h,ih]
inductive EvS(gl:List (Nat×D))(σ:Sg):List (Nat×Operand)->List D->List D->Prop
 | nil {l l':List D} (h:l=l'):EvS gl σ [] l l'
 | cons {i:Nat} {x:Operand} {d:D} {ps:List (Nat×Operand)} {l l':List D} (h:ev gl σ x=some d) (t:EvS gl σ ps (l.set i d) l'):EvS gl σ ((i,x)::ps) l l'
theorem EvS.ok{gl:List (Nat×D)}{ps:List (Nat×Operand)}{l l':List D}(h:EvS gl σ ps l l'):BA gl σ ps l=some l':=by
 induction h with
 | nil h=>subst h;rfl
 | cons h t ih=>simp[BA,h,ih]
theorem Z7{t e z k:Nat}{ps:List (Nat×Operand)}{ds:List D}[hT:SlT P ty e][hE:ElT P e z bytes]
 (hps:Evs C.gl σ ps 0 ds) (hp:z86 z ds) (hk:ds.length=k) (ht:t<σ.n) (hsm:k*z<=16777216) :
 OpS P C ⟨some t,.buildSlice ty k ps.toArray,rt,pos,aft,g⟩ σ (σ.set t (.sl (some e) z ds)):=R.bsl hps.ok hp hk ht hsm
theorem z21{t n e z:Nat}{ps:List (Nat×Operand)}{ds:List D}[hT:BaT P ty n e z]
 (hps:Evs C.gl σ ps 0 ds) (hp:z86 z ds) (hk:ds.length=n) (ht:t<σ.n) :
 OpS P C ⟨some t,.build ty ps.toArray,rt,pos,aft,g⟩ σ (σ.set t (.arr n z ds)):=R.bldA hps.ok hp hk ht
theorem C0{t:Nat}{ps:List (Nat×Operand)}{l l':List D}[hT:BsT P ty l]
 (hps:EvS C.gl σ ps l l') (hp:w12 C.gl σ l ps) (ht:t<σ.n) :
 OpS P C ⟨some t,.build ty ps.toArray,rt,pos,aft,g⟩ σ (σ.set t (.agg l')):=R.bldS hps.ok hp ht
theorem E5{s t z n:Nat}{l:List D}{e:TypeId}[hT:SlT P ty e](h:SC σ s z l)(hl:l.length=n)(ht:t<σ.n) :
 OpS P C ⟨some t,.call { callee:=.builtin .len,args:=#[.tmp s],argTypes:=#[ty] },rt,pos,aft,g⟩ σ (σ.set t (.int ((n:Nat):Int))):=by
 subst hl;exact R.len h ht
theorem U1{d:D}:d.loc []=some (0,d):=by cases d<;>rfl
theorem UO{l:List D}{k o o' m:Nat}{p:List Nat}{d d':D}(h:l[k]? = some d)(hm:offk l k=m)(hp:d.loc p=some (o',d'))(ho:o=m+o'):(D.agg l).loc (k::p)=some (o,d'):=by
 subst ho;subst hm;simp only[D.loc,h,hp]
theorem H1{n z:Nat}{l:List D}{k o o':Nat}{p:List Nat}{d d':D}(h:l[k]? = some d)(hp:d.loc p=some (o',d'))(ho:o=k*z+o'):(D.arr n z l).loc (k::p)=some (o,d'):=by
 subst ho;simp only[D.loc,h,hp]
theorem E1{d x:D}:d.upd [] x=some x:=by cases d<;>rfl
theorem XY{n z:Nat}{l l':List D}{k:Nat}{p:List Nat}{d d' x:D}(h:l[k]? = some d)(hp:d.upd p x=some d')(he:l.set k d'=l'):(D.arr n z l).upd (k::p) x=some (.arr n z l'):=by
 subst he;simp only[D.upd,h,hp]
theorem E3{f:α->D}{l:List α}{i:Nat}{v:α}:(l.map f).set i (f v)=(l.set i v).map f:=(W6 ..).symm
theorem x86{f:α->D}{l:List α}{n z:Nat}(h:∀ x,(f x).brw=f x):(D.arr n z (l.map f)).brw=.arr n z (l.map f):=by
 simp only[D.brw,G4,X5 h]
theorem R.nilc{d:D}(hx:ev C.gl σ x=some (.rp d))(ht:t<σ.n):OpS P C ⟨some t,.nilCheck x,rt,pos,aft,g⟩ σ (σ.set t (.rp d)):=by
 refine OpS.value λa w ⟨ρ,Fe,Fb,st⟩=>?_;obtain⟨F,hv,_⟩:=H5 st hx rfl;have hF:=hv.pur rfl;subst hF;have hv0:=hv;simp only[VR,D.isAgg,q7,q8] at hv;generalize hex:a.eval x=v at hv
 cases hv with
 | rp _ b off cs e fz hb hG hs hr=>
  refine⟨a.eval x,w, ?_,st.put ht rfl hv0⟩;unfold execOp;simp[hex]
theorem R.nilcP{s id:Nat}(hx:σ.get s=some (.ptr id off path))(ht:t<σ.n):OpS P C ⟨some t,.nilCheck (.tmp s),rt,pos,aft,g⟩ σ (σ.set t (.ptr id off path)):=by
 refine OpS.value λa w ⟨ρ,Fe,Fb,st⟩=>?_;obtain⟨v,hv,hr⟩:=(c5 rfl).1 (st.env _ _ hx);have hr0:=hr;have hF:=hr.pur rfl;simp only[VR,D.isAgg,q7,q8] at hr;generalize Fe s=F at hr
 cases hr with
 | ptr _ _ _ hL=>
  rw[hF] at hr0;refine⟨_,w, ?_,st.put ht rfl hr0⟩;unfold execOp;simp[Q3 hv]
theorem R.slR{t e z m:Nat}{l:List D}{lo hi:Option Operand}{i j:Int}[hT:ArT P ty m e][hE:ElT P e z bytes]
 (hx:ev C.gl σ x=some (.rp (.arr m z l))) (hl:evo C.gl σ lo 0=some i) (hh:evo C.gl σ hi m=some j) (h0:0<=i) (h1:i<=j) (h2:j<=m) (ht:t<σ.n) :
 OpS P C ⟨some t,.slice ty x lo hi none,rt,pos,aft,g⟩ σ (σ.set t (.sl none z ((l.drop i.toNat).take (j-i).toNat))):=by
 refine OpS.value λa w ⟨ρ,Fe,Fb,st⟩=>?_;obtain⟨F,hv,_⟩:=H5 st hx rfl;have hF:=hv.pur rfl;subst hF;simp only[VR,D.isAgg,q7,q8] at hv;generalize hex:a.eval x=vx at hv
 cases hv with
 | rp _ b off cs e' fz hb hG hs hr=>
  cases hr with
  | arr _ _ _ _ hlm hsz hrr=>
   simp only[HU] at hs hsz hrr
   have hlen:((l.drop i.toNat).take (j-i).toNat).length=(j-i).toNat:=by simp;omega
   have e1:j.toNat-i.toNat=(j-i).toNat:=by omega
   have hbd:=ZO (P:=P) st (b:=false) (len:=m) (cap:=m) hl hh h0 h1 h2 (z7 _);refine⟨.slice (some (if m=i.toNat then⟨b,off,none⟩ else⟨b,off+i.toNat*z,none⟩)) (j-i).toNat (m-i.toNat),w, ?_,st.put ht rfl ?_⟩
   ·unfold execOp
    cases lo<;>cases hi<;>simp_all [Instr.sliceAt,Instr.sureAddr,run_underlying hT.u,ElT.size (P:=P) (e:=e),R6]<;>split<;>simp_all
   ·simp only[VR,D.isAgg,q7,q8]
    have hjz:((j-i).toNat)*z+i.toNat*z<=m*z:=by
     rw[<- v7];exact w6 z (by omega)
    by_cases hci:m=i.toNat
    ·simp only[hci,j9,L3]
     have h3:(j-i).toNat=0:=by omega
     have:=Rc.slI (w:=w) (ρ:=ρ) (G:=gd C Fe Fb) (L:=λid=>(σ.box id).isSome) (p:=true) b off cs e' fz 0 z [] hb hG (g9 _) (by simp;omega) (λk hk=>by simp at hk);simpa [h3] using this
    ·simp only[hci,q8];have:=Rc.slI (w:=w) (ρ:=ρ) (G:=gd C Fe Fb) (L:=λid=>(σ.box id).isSome) (p:=true) b (off+i.toNat*z) cs e' fz (m-i.toNat) z ((l.drop i.toNat).take (j-i).toNat) hb hG (by rw[hlen];omega)
      (by rw[hlen];omega) (λk hk=>by
       rw[hlen] at hk;simp only[Q7,H9];have h5:=hrr (i.toNat+k) (by omega)
       have h6:(i.toNat+k)*z+z<=m*z:=by
        have:=w6 z (show i.toNat+k+1<=m by omega);rw[v7 (i.toNat+k) 1 z] at this;omega
       rw[XG _ _ _ _ _ h6,v7,<- U7] at h5
       exact h5)
     rw[hlen] at this;exact this
theorem z26[Inhabited α]{f:α->D}{l:List α}{lo n i:Nat}(h:lo+i<l.length)(hn:i<n):(((l.map f).drop lo).take n)[i]? = some (f l[lo+i]!):=by
 rw[d9,u4 hn,n4];exact n8 h
theorem u22{t e z m:Nat}{l l':List D}{lo hi:Option Operand}{i j:Int}[hT:ArT P ty m e][hE:ElT P e z bytes](a b n:Nat)
 (hx:ev C.gl σ x=some (.rp (.arr m z l))) (hl:evo C.gl σ lo 0=some i) (hh:evo C.gl σ hi m=some j) (hi':i=a) (hj:j=b) (h1:a<=b) (h2:b<=m) (hn:b-a=n) (he:(l.drop a).take n=l') (ht:t<σ.n) :
 OpS P C ⟨some t,.slice ty x lo hi none,rt,pos,aft,g⟩ σ (σ.set t (.sl none z l')):=by
 subst hi';subst hj;subst he;have:=R.slR (P:=P) (C:=C) (e:=e) (ty:=ty) (pos:=pos) (aft:=aft) (g:=g) (rt:=rt) hx hl hh (by omega) (by omega) (by omega) ht
 have e1:((b:Int)-(a:Int)).toNat=n:=by omega
 have e2:((a:Int)).toNat=a:=rfl;rw[e1,e2] at this;exact this
theorem u23{t e z:Nat}{l l':List D}{lo hi:Option Operand}{i j:Int}[hT:SlT P ty e][hE:ElT P e z bytes](a b n:Nat)
 (hx:ev C.gl σ x=some (.sl none z l)) (hl:evo C.gl σ lo 0=some i) (hh:evo C.gl σ hi l.length=some j) (hi':i=a) (hj:j=b) (h1:a<=b) (h2:b<=l.length) (hn:b-a=n) (he:(l.drop a).take n=l') (ht:t<σ.n) :
 OpS P C ⟨some t,.slice ty x lo hi none,rt,pos,aft,g⟩ σ (σ.set t (.sl none z l')):=by
 subst hi';subst hj;subst he;have:=R.slI (P:=P) (C:=C) (e:=e) (ty:=ty) (pos:=pos) (aft:=aft) (g:=g) (rt:=rt) hx hl hh (by omega) (by omega) (by omega) ht
 have e1:((b:Int)-(a:Int)).toNat=n:=by omega
 have e2:((a:Int)).toNat=a:=rfl;rw[e1,e2] at this;exact this
theorem RM{s t e z:Nat}{l:List D}{lo hi:Option Operand}{i j:Int}[hT:SlT P ty e][hE:ElT P e z bytes](a b n:Nat)
 (hx:SC σ s z l) (hl:evo C.gl σ lo 0=some i) (hh:evo C.gl σ hi l.length=some j) (hi':i=a) (hj:j=b) (h1:a<=b) (h2:b<=l.length) (hn:b-a=n) (ht:t<σ.n) (hst:s≠t) :
 OpS P C ⟨some t,.slice ty (.tmp s) lo hi none,rt,pos,aft,g⟩ σ (σ.set t (.vw s z a n)):=by
 subst hi';subst hj;have:=R.slV (P:=P) (C:=C) (e:=e) (ty:=ty) (pos:=pos) (aft:=aft) (g:=g) (rt:=rt) hx hl hh (by omega) (by omega) (by omega) ht hst
 have e1:((b:Int)-(a:Int)).toNat=n:=by omega
 have e2:((a:Int)).toNat=a:=rfl;rw[e1,e2] at this;exact this
theorem r9{s t e z m id:Nat}{l:List D}{lo hi:Option Operand}{i j:Int}[hT:ArT P ty m e][hE:ElT P e z bytes](a b n:Nat)
 (hx:σ.get s=some (.ptr id off path)) (hb:σ.box id=some (.var d0)) (hloc:d0.loc path=some (off,.arr m z l)) (hl:evo C.gl σ lo 0=some i) (hh:evo C.gl σ hi m=some j) (hi':i=a) (hj:j=b) (h1:a<=b) (h2:b<=m) (hn:b-a=n) (ht:t<σ.n) :
 OpS P C ⟨some t,.slice ty (.tmp s) lo hi none,rt,pos,aft,g⟩ σ (σ.set t (.va id off z n path a)):=by
 subst hi';subst hj;have:=R.slA (P:=P) (C:=C) (e:=e) (ty:=ty) (pos:=pos) (aft:=aft) (g:=g) (rt:=rt) hx hb hloc hl hh (by omega) (by omega) (by omega) ht
 have e1:((b:Int)-(a:Int)).toNat=n:=by omega
 have e2:((a:Int)).toNat=a:=rfl;rw[e1,e2] at this;exact this
theorem NO{f:α->D}{l:List α}{a n:Nat}:((l.map f).drop a).take n=((l.drop a).take n).map f:=by rw[U8,S8]
theorem z36[Inhabited α]{f:α->D}{l:List α}{lo n i:Nat}(h:lo+i<l.length)(hn:i<n):(((l.drop lo).take n).map f)[i]? = some (f l[lo+i]!):=by
 rw[<- NO];exact z26 h hn
theorem k32{f:α->D}{l:List α}{a:Nat}:((l.map f).drop a).take (l.length-a)=(l.drop a).map f:=by
 rw[<- S8,m4 (by simp)]
theorem q43{s t e z id n lo m k:Nat}{d':D}{l l':List D}{ty2:TypeId}[hT:SlT P ty e][hE:ElT P e z bytes]
 (h:σ.get s=some (.va id off z n path lo)) (hb:σ.box id=some (.var d0)) (hl:d0.loc path=some (off,.arr m z l)) (hlo:lo+n<=m) (hx:SrcO C.gl σ x z l') (hnp:∀ y∈l',y.np=true) (ht:t<σ.n)
 (hk:min l'.length n=k) (he:l.take lo++l'.take k++l.drop (lo+k)=l2) (hu:d0.upd path (.arr m z l2)=some d') :
 OpS P C ⟨some t,.call { callee:=.builtin .copy,args:=#[.tmp s,x],argTypes:=#[ty,ty2] },rt,pos,aft,g⟩ σ ((σ.putB id (.var d')).set t (.int ((k:Nat):Int))):=by
 subst hk;subst he;exact R.cpA h hb hl hlo hx hnp ht hu
theorem w03{c:Code}{n':Nat}(hE:picks σ.get live=env')(hb:σ.bx=bx')(hn:σ.n=n')(h:W P C c Q ⟨n',env',bx'⟩):W P C c Q σ:=W.drop hE hb hn h
theorem VB{f:α->D}{l:List α}{a n:Nat}(h:∀ x,(f x).brw=f x):(((l.map f).drop a).take n).map D.brw=((l.drop a).take n).map f:=by
 rw[NO,X5 h]
theorem MF{f:α->D}{l:List α}{n:Nat}(h:∀ x,(f x).brw=f x)(hn:l.length=n):(((l.map f).drop 0).take n).map D.brw=l.map f:=by
 rw[VB h,K5,m4 (by omega)]
theorem XP{p id:Nat}{d1 d' dx:D}{n:TypeId}{gg:Bool}[LdT P ty n gg]
 (h:σ.get p=some (.ptr id off path)) (hb:σ.box id=some (.var d0)) (hl:d0.loc path=some (off,d1)) (hx:ev C.gl σ x=some dx) (hp:dx.pur=true) (hnp:dx.np=true)
 (hn:dx.sz=n) (hz:d1.sz=n) (hu:d0.upd path dx=some d') :
 OpS P C ⟨none,.store ty (.tmp p) x,rt,pos,aft,g⟩ σ (σ.putB id (.var d')):=R.st h hb hl hx hp hnp hn (hn.trans hz.symm) hu
theorem u21{p s s0 e z i:Nat}{l:List D}{d1 d' dx:D}{n:TypeId}{gg:Bool}[LdT P ty n gg]
 (h:σ.get p=some (.ep s z i off path)) (ho:ownr σ s s0) (hs:σ.get s0=some (.sl (some e) z l)) (hi:l[i]? = some d0) (hl:d0.loc path=some (off,d1))
 (hx:ev C.gl σ x=some dx) (hxp:dx.pur=true) (hxn:dx.np=true) (hz:dx.sz=n) (hz1:d1.sz=n) (hu:d0.upd path dx=some d') :
 OpS P C ⟨none,.store ty (.tmp p) x,rt,pos,aft,g⟩ σ (σ.upd s0 (.sl (some e) z (l.set i d'))):=R.stE h ho hs hi hl hx hxp hxn hz (hz.trans hz1.symm) hu
theorem ML{β:Type}{f:α->β}{l l':List α}:l.map f++l'.map f=(l++l').map f:=List.map_append.symm
theorem JJ{β:Type}{f:α->β}{l:List α}{v:α}:l.map f++[f v]=(l++[v]).map f:=by simp
theorem O6{s s0 t e z:Nat}{l l':List D}[hT:SlT P ty e][hE:ElT P e z bytes]
 (ho:ownr σ s s0) (hs:σ.get s0=some (.sl (some e) z l)) (hx:SrcO C.gl σ x z l') (he:l++l'=l2) (hn:l.length+l'.length<=1073741824) (ht:t<σ.n) (hst:s0≠t) (hby:bytes<=131072) :
 OpS P C ⟨some t,.call { callee:=.builtin .append,args:=#[.tmp s,x],argTypes:=#[ty,ty] },rt,pos,aft,g⟩ σ ((σ.kill s0).set t (.sl (some e) z l2)):=by
 subst he;exact R.app ho hs hx hn ht hst hby
theorem XK{p s s0 e z i:Nat}{l:List D}{d1 d' dx:D}{n:TypeId}{gg:Bool}[LdT P ty n gg]
 (h:σ.get p=some (.ep s z i off path)) (ho:ownr σ s s0) (hs:σ.get s0=some (.sl (some e) z l)) (hi:l[i]? = some d0) (hl:d0.loc path=some (off,d1))
 (hx:ev C.gl σ x=some dx) (hxp:dx.pur=true) (hxn:dx.np=true) (hz:dx.sz=n) (hz1:d1.sz=n) (hu:d0.upd path dx=some d') (he:l.set i d'=l2) :
 OpS P C ⟨none,.store ty (.tmp p) x,rt,pos,aft,g⟩ σ (σ.upd s0 (.sl (some e) z l2)):=by
 subst he;exact u21 h ho hs hi hl hx hxp hxn hz hz1 hu
theorem gw{b v wt want:Bool}(h:b=v)(hw:wt=(v==want)):wt=(b==want):=by subst h;exact hw
theorem Y7{l:List D}(h:HF l=true):∀ y∈l,y.pur=true:=λy hy=>by
 obtain⟨k,hk,rfl⟩:=Q2.1 hy;exact NP l h k hk
theorem j82{x y:Operand}{t e n:Nat}{xs ys:List UInt8}{xt yt:TypeId}[hT:ArT P xt n e][hk:IkT P e .u8][hL:LdT P e 1 false][hE:EqT P xt]
 (hx:ev C.gl σ x=some (.arr n 1 (xs.map .u8))) (hy:ev C.gl σ y=some (.arr n 1 (ys.map .u8))) (ht:t<σ.n) :
 OpS P C ⟨some t,.binOp .eql xt x y yt,ty,pos,aft,g⟩ σ (σ.set t (.bool (xs==ys))):=R.eqA (neg:=false) hx hy ht
theorem q42{x y:Operand}{t e n:Nat}{xs ys:List UInt8}{xt yt:TypeId}[hT:ArT P xt n e][hk:IkT P e .u8][hL:LdT P e 1 false][hE:EqT P xt]
 (hx:ev C.gl σ x=some (.arr n 1 (xs.map .u8))) (hy:ev C.gl σ y=some (.arr n 1 (ys.map .u8))) (ht:t<σ.n) :
 OpS P C ⟨some t,.binOp .neq xt x y yt,ty,pos,aft,g⟩ σ (σ.set t (.bool (xs != ys))):=R.eqA (neg:=true) hx hy ht
end
section
variable{P:Program}{C:Ctx}{σ:Sg}{w:World}{ρ:Nat->Nat}
def K2(ids:List Nat)(i:Nat):Bool:=ids.any (Nat.beq i)
mutual
def D.okB(ids:List Nat):D->Bool
 | .ptr id _ _=>K2 ids id
 | .bs id _ _ _=>K2 ids id
 | .map id=>K2 ids id
 | .alb id _ _=>K2 ids id
 | .va id _ _ _ _ _=>K2 ids id
 | .agg l=>KX ids l
 | .fn _ l=>KX ids l
 | .tup l=>KX ids l
 | .ifc _ d=>D.okB ids d
 | _=>true
def KX(ids:List Nat):List D->Bool
 | []=>true
 | d::r=>D.okB ids d&&KX ids r
end
theorem XT{ids:List Nat}(l:List D)(h:KX ids l=true):∀ k (hk:k<l.length),l[k].okB ids=true:=by
 induction l with
 | nil=>intro k hk;simp at hk
 | cons d r ih=>
  simp only[KX,u6] at h;intro k hk
  cases k with
  | zero=>exact h.1
  | succ k=>simpa using ih h.2 k (by simpa using hk)
theorem Rc.okB{ids:List Nat}{G:Nat->Prop}{p:Bool}{d:D}{cs:List Value}(h:Rc w ρ G L p d cs F)(hd:d.okB ids=true):Rc w ρ G (λid=>K2 ids id=true/\L id) p d cs F:=by
 induction h with
 | bool b=>exact .bool b
 | int n=>exact .int n
 | u8 x=>exact .u8 x
 | u16 x=>exact .u16 x
 | u32 x=>exact .u32 x
 | u64 x=>exact .u64 x
 | ik k n=>exact .ik k n
 | str s=>exact .str s
 | nils=>exact .nils
 | slN o z=>exact .slN o z
 | slE o z a=>exact .slE o z a
 | slI b off cs e fz cap z l hb hG hc hs hr ih=>exact .slI b off cs e fz cap z l hb hG hc hs (λi hi=>(hr i hi).noL)
 | slO b cs e cap z l Fs hb hc hm hs ho1 hr ih=>exact .slO b cs e cap z l Fs hb hc hm hs ho1 (λi hi=>(hr i hi).noL)
 | agg l cs Fs hs hr ih=>exact .agg l cs Fs hs (λk hk=>ih k hk (XT l (by simpa [D.okB] using hd) k hk))
 | arr n z l cs hl hs hr ih=>exact .arr n z l cs hl hs (λi hi=>(hr i hi).noL)
 | ptr id off path hid=>exact .ptr id off path ⟨by simpa [D.okB] using hd,hid⟩
 | bs id z n cap hid hcap=>exact .bs id z n cap ⟨by simpa [D.okB] using hd,hid⟩ hcap
 | nilp=>exact .nilp
 | adr b=>exact .adr b
 | rp d b off cs e fz hb hG hs hr ih=>exact .rp d b off cs e fz hb hG hs hr.noL
 | map id hid=>exact .map id ⟨by simpa [D.okB] using hd,hid⟩
 | nilmap=>exact .nilmap
 | fn f caps vs hl ha hr ih=>exact .fn f caps vs hl ha (λk hk=>ih k hk (XT caps (by simpa [D.okB] using hd) k hk))
 | nilf=>exact .nilf
 | yld l=>exact .yld l
 | ifc t d v ha hr ih=>exact .ifc t d v ha (ih (by simpa [D.okB] using hd))
 | nili=>exact .nili
 | dead v h=>exact .dead v h
theorem VR.okB{ids:List Nat}{G:Nat->Prop}{d:D}{v:Value}(h:VR w ρ G L d v F)(hd:d.okB ids=true):VR w ρ G (λid=>K2 ids id=true/\L id) d v F:=by
 unfold VR at *
 cases hg:d.isAgg<;>simp only[hg,j9,q8,q7] at h ⊢
 ·exact h.okB hd
 ·obtain⟨cs,rfl,h⟩:=h;exact⟨cs,rfl,h.okB hd⟩
theorem SR.okB{ids:List Nat}{G:Nat->Prop}{a:Act}{t:Nat}{d:D}(h:SR w ρ G L a t d F)(hd:d.okB ids=true)
 (hg:∀ b,G b->b<w.heap.size->G' b) (hL:∀ id,(K2 ids id=true/\L id)->L' id):SR w ρ G' L' a t d F:=by
 have key:∀ (d:D) (v:Value) (F:List Nat),d.okB ids=true->VR w ρ G L d v F->VR w ρ G' L' d v F:=λd v F h1 h2=>
  (h2.okB h1).mono (λ_ _ _=>rfl) hg (λid hid=>⟨hL id hid,rfl⟩)
 cases d with
 | alb id off path=>obtain⟨h1,h2,h3⟩:=h;exact⟨h1,hL _ ⟨by simpa [D.okB] using hd,h2⟩,h3⟩
 | va id off z n path lo=>obtain⟨h1,h2,h3⟩:=h;exact⟨h1,hL _ ⟨by simpa [D.okB] using hd,h2⟩,h3⟩
 | tup ds=>
  obtain⟨vs,Fs,h1,h2,h3,h4⟩:=h;refine⟨vs,Fs,h1,h2,h3,λk hk=>(h4 k hk).imp id λ⟨h5,h6⟩=>⟨h5,key _ _ _ (XT ds (by simpa [D.okB] using hd) k hk) h6⟩⟩
 | al s=>exact h
 | vw s z lo n=>exact h
 | ep s z i off path=>exact h
 | dead=>exact h
 | _=>obtain⟨v,h1,h2⟩:=h;exact⟨v,h1,key _ _ _ hd h2⟩
def M9(ids:List Nat):List (Nat×Bx)->List (Nat×Bx)
 | []=>[]
 | (k,b)::r=>bif K2 ids k then(k,b)::M9 ids r else M9 ids r
theorem l6(ids:List Nat)(l:List (Nat×Bx))(u:Nat):lk (M9 ids l) u=if K2 ids u then lk l u else none:=by
 induction l with
 | nil=>simp[M9,lk]
 | cons x r ih=>
  obtain⟨k,d⟩:=x;simp only[M9,U2];by_cases hk:K2 ids k=true
  ·simp only[hk,m9,U2,ih];by_cases hku:k=u
   ·subst hku;simp[hk]
   ·simp[hku]
  ·have hk':K2 ids k=false:=by simpa using hk
   simp only[hk',d7,ih];by_cases hku:k=u
   ·subst hku;simp[hk']
   ·simp[hku]
def QG(ids:List Nat):List (Nat×D)->Bool
 | []=>true
 | (_,d)::r=>d.okB ids&&QG ids r
def PL(ids:List Nat):List (Nat×Bx)->Bool
 | []=>true
 | (_,.var d)::r=>d.okB ids&&PL ids r
 | (_,.mp _)::_=>false
theorem QY{ids:List Nat}{l:List (Nat×D)}(h:QG ids l=true){t:Nat}{d:D}(hd:lk l t=some d):d.okB ids=true:=by
 induction l with
 | nil=>simp[lk] at hd
 | cons x r ih=>
  obtain⟨k,e⟩:=x;simp only[QG,u6] at h;rw[U2] at hd;by_cases hk:k=t
  ·simp only[hk,j9,z6] at hd;subst hd;exact h.1
  ·simp only[hk,q8] at hd;exact ih h.2 hd
theorem NA{ids:List Nat}{l:List (Nat×Bx)}(h:PL ids l=true){t:Nat}{b:Bx}(hd:lk l t=some b):∃ d,b=.var d/\d.okB ids=true:=by
 induction l with
 | nil=>simp[lk] at hd
 | cons x r ih=>
  obtain⟨k,e⟩:=x
  cases e with
  | mp=>simp[PL] at h
  | var e=>
   simp only[PL,u6] at h;rw[U2] at hd;by_cases hk:k=t
   ·simp only[hk,j9,z6] at hd;subst hd;exact⟨e,rfl,h.1⟩
   ·simp only[hk,q8] at hd;exact ih h.2 hd
theorem W.dropB{c:Code}(ids:List Nat)(hb:M9 ids σ.bx=bx')(he:QG ids σ.env=true)(hx:PL ids bx'=true)(hpn:∀ id b,C.pin id=some b->K2 ids id=true)(h:W P C c Q ⟨σ.n,σ.env,bx'⟩):W P C c Q σ:=by
 intro a w ⟨ρ,Fe,Fb,st⟩;refine h a w ?_
 have hl:∀ u,lk bx' u=if K2 ids u then σ.box u else none:=λu=>by rw[<- hb];exact l6 ids σ.bx u
 have hsub:∀ id,∀ b∈(if K2 ids id then Fb id else[]),b∈Fb id:=λid b hm=>by split at hm;exact hm;cases hm
 have hown:∀ b,own Fe (λid=>if K2 ids id then Fb id else[]) b->own Fe Fb b:=λb hb=>hb.imp id λ⟨i,hi⟩=>⟨i,hsub i b hi⟩
 have hgd:∀ b,gd C Fe Fb b->gd C Fe (λid=>if K2 ids id then Fb id else[]) b:=λb hb=>⟨hb.1,λhc=>hb.2 (hown b hc)⟩
 have hL:∀ id,(K2 ids id=true/\(σ.box id).isSome)->(lk bx' id).isSome:=λid ⟨h1,h2⟩=>by rw[hl,u4 h1];exact h2
 exact⟨ρ,Fe,(λid=>if K2 ids id then Fb id else[]),{
  size:=st.size
  defs:=st.defs
  pin:=λid b hp=>⟨(st.pin id b hp).1,hL id ⟨hpn id b hp,(st.pin id b hp).2⟩⟩
  env:=λt d hd=>(st.env t d hd).okB (QY he hd) (λb hb _=>hgd b hb) hL
  envN:=st.envN
  bx:=λid b hd=>by
   obtain⟨d,rfl,hok⟩:=NA hx hd;have h1:=hl id;by_cases hm:K2 ids id=true
   ·rw[u4 hm] at h1
    have h2:σ.box id=some (.var d):=by rw[<- h1];exact hd
    obtain⟨cs,e,F',h3,h4,h5⟩:=st.bx id _ h2;refine⟨cs,e,F',h3,(h4.okB hok).mono (λ_ _ _=>rfl) (λb hb _=>hgd b hb) (λid hid=>⟨hL id hid,rfl⟩),by simp only[hm,j9];exact h5⟩
   ·rw[w3 hm] at h1;rw[show lk bx' id=some (.var d) from hd] at h1;cases h1
  bxN:=λid hn=>by
   have h1:=hl id;by_cases hm:K2 ids id=true
   ·rw[u4 hm] at h1;simp only[hm,j9];exact st.bxN id (by rw[<- h1];exact hn)
   ·simp[hm]
  nodE:=st.nodE
  nodB:=λid=>by show(if K2 ids id then Fb id else[]).Nodup;split;exact st.nodB id;exact w9
  dEE:=st.dEE
  dEB:=λt id b hb hm=>st.dEB t id b hb (hsub id b hm)
  dBB:=λid id' hne b hb hm=>st.dBB id id' hne b (hsub id b hb) (hsub id' b hm)
  new:=λb hb=>st.new b (hown b hb)
  kept:=st.kept
  os:=st.os
  tape:=⟨st.tape.tp,st.tape.dr⟩
  output:=st.output
  grown:=st.grown
  gl:=st.gl
  okN:=st.okN
  okO:=λb hb=>st.okO b (hown b hb) }⟩
theorem n7{C:Ctx}{pins ids:List Nat}(h:∀ id b,C.pin id=some b->N3 pins id=true)(hs:pins.all (K2 ids)=true):∀ id b,C.pin id=some b->K2 ids id=true:=λid b hp=>by
 have h1:=h id b hp;simp only[N3,Z4] at h1;obtain⟨x,hx,he⟩:=h1;have:=o8.1 hs x hx;rw[m8 he];exact this
end
section
variable{P:Program}{C:Ctx}{σ σ' σ1:Sg}{a:Act}{w w':World}{ρ:Nat->Nat}{Fe Fe' Fb:Nat->List Nat}
theorem RP{G:Nat->Prop}{n:Int}{v:Value}(h:VR w ρ G L (.int n) v F):v=.int .i64 n:=by
 simp only[VR,D.isAgg,q7,q8] at h;cases h;rfl
theorem R.mkmap{t:TypeId}(hid:σ.box t=none)(ht:t<σ.n) :
 OpS P C ⟨some t,.makeMap ty none,rt,pos,aft,g⟩ σ ((σ.newB t (.mp [])).set t (.map t)):=by
 refine OpS.value λa w ⟨ρ,Fe,Fb,st⟩=>?_;refine⟨.map (some w.heap.size),w.alloc (.map #[] 0), ?_, ?_⟩
 ·unfold execOp;simp[Instr.makeMap,newObj,Sem.run]
 ·have h1:=st.newB (id:=t) (x:=.mp []) (o:=.map #[] 0) hid ⟨rfl,#[],0,heap_alloc_new w _,rfl,λk hk=>by simp at hk⟩
  have h2:=h1.put (t:=t) (d:=.map t) (v:=.map (some w.heap.size)) (by simpa using ht) rfl (by
   simp only[VR,D.isAgg,q7,q8];have:=Rc.map (w:=w.alloc (.map #[] 0)) (ρ:=HK ρ t w.heap.size) (G:=gd C Fe (upd Fb t [w.heap.size])) (L:=λi=>((σ.newB t (.mp [])).box i).isSome) t (by simp[JS])
   simpa using this)
  exact h2
theorem DP{p id:Nat}(st:StW C σ a w ρ Fe Fb)(h:σ.get p=some (.map id)):a.tmps[p]? = some (.map (some (ρ id))):=by
 obtain⟨v,hv,hr⟩:=(c5 rfl).1 (st.env _ _ h);simp only[VR,D.isAgg,q7,q8] at hr;generalize Fe p=F at hr;cases hr;exact hv
end
section
variable{P:Program}{C:Ctx}{σ σ' σ1:Sg}{a:Act}{w w':World}{ρ:Nat->Nat}{Fe Fe' Fb:Nat->List Nat}
variable{pos:String}{aft:Array Edge}{g:Option (Nat×Bool)}{t ty xt yt rt:TypeId}
theorem EU(P:Program)(w:World)(op:BinOp)(t:TypeId)(x y:Operand)(b:Option Addr)(n c:Nat)(v:Value):(eqGuard op t x y (.slice b n c) v).run P w=.ok () w:=by
 cases op<;>rfl
theorem q02{e:TypeId}(hT:P.underlying xt=some (.slice e))(b:Option Addr)(n c:Nat)(w:World) :
 (binOp .eql xt (.slice b n c) (.slice none 0 0)).run P w=.ok (.bool b.isNone) w:=by
 have h1:∀ d,(Op.equalIn (d+1) xt (.slice b n c) (.slice none 0 0)).run P w=.ok b.isNone w:=λd=>by
  cases b<;>simp[Op.equalIn,run_underlying hT]
 have h2:(Op.equal xt (.slice b n c) (.slice none 0 0)).run P w=.ok b.isNone w:=h1 9999;simp only[binOp,Sem.run_bind,h2,Result.andThen_ok,Sem.run_pure]
theorem GV{e:TypeId}(hT:P.underlying xt=some (.slice e)){s:Nat}{b:Option Addr}{n c:Nat}(hv:a.tmps[s]? = some (.slice b n c)) :
 (execOp a.eval ⟨some t,.binOp .eql xt (.tmp s) (.const (.slice none 0 0)) yt,rt,pos,aft,g⟩).run P w=.ok (.value (.bool b.isNone)) w:=by
 unfold execOp;simp only[Sem.run_bind,Q3 hv,EU,Result.andThen_ok,Sem.run_pure];have:a.eval (.const (.slice none 0 0))=.slice none 0 0:=rfl;simp only[this,q02 hT,Result.andThen_ok]
theorem w09(st:StW C σ a w ρ Fe Fb){s z:Nat}{l:List D}(h:SC σ s z l)(hl:l≠[]):∃ b n c,a.tmps[s]? = some (.slice (some b) n c):=by
 obtain⟨base,len,cap,hv,hlen,hd⟩:=CC st h
 rcases hd with ⟨h3,h4⟩|⟨b,o,cs,e',fz,rfl,_⟩
 ·exact absurd (Q4.1 (by omega)) hl
 ·exact⟨_,_,_,hv⟩
theorem R.eqNilF{s z e:Nat}{l:List D}[hT:SlT P xt e](h:SC σ s z l)(hl:l≠[])(ht:t<σ.n) :
 OpS P C ⟨some t,.binOp .eql xt (.tmp s) (.const (.slice none 0 0)) yt,rt,pos,aft,g⟩ σ (σ.set t (.bool false)):=by
 refine OpS.value λa w ⟨ρ,Fe,Fb,st⟩=>?_;obtain⟨b,n,c,hv⟩:=w09 st h hl;exact⟨_,w,GV hT.u hv,st.put ht rfl (by simp only[VR,D.isAgg,q7,q8];exact .bool _)⟩
theorem MT{s z e:Nat}{l:List D}{ops:Array Oper}{r:List Oper}[hT:SlT P xt e](h:SC σ s z l)(ht:t<σ.n)
 (k:∀ b:Bool,(l≠[]->b=false)->WL P C ops r Q (σ.set t (.bool b))) :
 WL P C ops (⟨some t,.binOp .eql xt (.tmp s) (.const (.slice none 0 0)) yt,rt,pos,aft,none⟩::r) Q σ:=by
 intro a w hs;obtain⟨ρ,Fe,Fb,st⟩:=hs;obtain⟨base,len,cap,hv,hlen,hd⟩:=CC st h
 have hb:l≠[]->base.isNone=false:=λhl=>by
  rcases hd with ⟨h3,h4⟩|⟨b,o,cs,e',fz,rfl,_⟩
  ·exact absurd (Q4.1 (by omega)) hl
  ·rfl
 refine wpListIn_plain rfl λK hK=>?_;refine O0 (GV (t:=t) (yt:=yt) (rt:=rt) (pos:=pos) (aft:=aft) (g:=none) hT.u hv) (by simp) ?_;exact hK _ _ (k base.isNone hb _ _ (st.put ht rfl (by simp only[VR,D.isAgg,q7,q8];exact .bool _)))
theorem z15{G:Nat->Prop}{n:Int}:VR w ρ G L (.int n) (.int .i64 n) []:=by
 simp only[VR,D.isAgg,q7,q8];exact .int _
theorem R.minI{x y:Operand}{m n r:Int}{ta tb:TypeId}(hx:ev C.gl σ x=some (.int m))(hy:ev C.gl σ y=some (.int n))(hr:min m n=r)(ht:t<σ.n) :
 OpS P C ⟨some t,.call { callee:=.builtin .min,args:=#[x,y],argTypes:=#[ta,tb] },rt,pos,aft,g⟩ σ (σ.set t (.int r)):=by
 refine OpS.value λa w ⟨ρ,Fe,Fb,st⟩=>?_;obtain⟨_,hvx,_⟩:=H5 st hx rfl;obtain⟨_,hvy,_⟩:=H5 st hy rfl;have hvx:=RP hvx;have hvy:=RP hvy
 have e:(if n<m then n else m)=r:=by rw[<- hr];split<;>omega
 refine⟨.int .i64 r,w, ?_,st.put ht rfl z15⟩;unfold execOp;simp[resolve,invoke,builtin,hvx,hvy,Builtin.min_,Builtin.min2,e]
theorem R.maxI{x y:Operand}{m n r:Int}{ta tb:TypeId}(hx:ev C.gl σ x=some (.int m))(hy:ev C.gl σ y=some (.int n))(hr:max m n=r)(ht:t<σ.n) :
 OpS P C ⟨some t,.call { callee:=.builtin .max,args:=#[x,y],argTypes:=#[ta,tb] },rt,pos,aft,g⟩ σ (σ.set t (.int r)):=by
 refine OpS.value λa w ⟨ρ,Fe,Fb,st⟩=>?_;obtain⟨_,hvx,_⟩:=H5 st hx rfl;obtain⟨_,hvy,_⟩:=H5 st hy rfl;have hvx:=RP hvx;have hvy:=RP hvy
 have e:(if m<n then n else m)=r:=by rw[<- hr];split<;>omega
 refine⟨.int .i64 r,w, ?_,st.put ht rfl z15⟩;unfold execOp;simp[resolve,invoke,builtin,hvx,hvy,Builtin.max_,Builtin.max2,e]
theorem LU{f:α->D}{b:List α}{x:Bool}(h:b.map f≠[]->x=false)(hc:x=true):b=[]:=by
 cases b with
 | nil=>rfl
 | cons y r=>have:=h (by simp);rw[this] at hc;cases hc
theorem l4{f:α->D}{l:List α}{a n:Nat}(h:∀ x,(f x).pur=true):∀ y∈((l.map f).drop a).take n,y.pur=true:=λy hy=>by
 obtain⟨x,_,rfl⟩:=n9.1 (Y5 (Q0 hy));exact h x
theorem R.bldAZ{n e z:Nat}{d:D}[hT:ArT P ty n e][hE:ElT P e z bytes][hZ:ZrT P ty d](hd:d.isAgg=true)(ht:t<σ.n) :
 OpS P C ⟨some t,.build ty #[],rt,pos,aft,g⟩ σ (σ.set t d):=by
 refine OpS.value λa w ⟨ρ,Fe,Fb,st⟩=>?_;obtain⟨i,v,h1,h2,h3,h4⟩:=hZ.i;obtain⟨ie,zv,hi,_⟩:=hE.i;have hv:VR w ρ (gd C Fe Fb) (λi=>(σ.box i).isSome) d v []:=j50 h3 h4;rw[hd] at h4
 cases v with
 | agg cs=>
  refine⟨.agg cs,w, ?_,st.put ht (by cases d<;>first|rfl|cases hd) hv⟩;unfold execOp;simp[Instr.build,zeroValue,typeInfo,h1,h2,run_underlying hT.u,sizeOf,hi,Instr.fill,Value.cells]
 | _=>simp[ZH] at h4
class BoT(P:Program)(t:TypeId):Prop where
 u:P.underlying t=some .bool
theorem RQ(P:Program)(w:World)(op:BinOp)(t:TypeId)(x y:Operand)(b:Bool)(v:Value):(eqGuard op t x y (.bool b) v).run P w=.ok () w:=by
 cases op<;>rfl
theorem SE[hT:BoT P xt](a b:Bool)(w:World):(Op.equal xt (.bool a) (.bool b)).run P w=.ok (a==b) w:=by
 have h1:∀ d,(Op.equalIn (d+1) xt (.bool a) (.bool b)).run P w=.ok (a==b) w:=λd=>by
  simp[Op.equalIn,run_underlying hT.u]
 exact h1 9999
theorem z16{G:Nat->Prop}{b:Bool}{v:Value}(h:VR w ρ G L (.bool b) v F):v=.bool b:=by
 simp only[VR,D.isAgg,q7,q8] at h;cases h;rfl
theorem R.neB{x y:Operand}{b c:Bool}[hT:BoT P xt](hx:ev C.gl σ x=some (.bool b))(hy:ev C.gl σ y=some (.bool c))(ht:t<σ.n) :
 OpS P C ⟨some t,.binOp .neq xt x y yt,rt,pos,aft,g⟩ σ (σ.set t (.bool (b != c))):=by
 refine OpS.value λa w ⟨ρ,Fe,Fb,st⟩=>?_;obtain⟨_,vx,_⟩:=H5 st hx rfl;obtain⟨_,vy,_⟩:=H5 st hy rfl;have vx:=z16 vx;have vy:=z16 vy;refine⟨.bool (b != c),w, ?_,st.put ht rfl (by simp only[VR,D.isAgg,q7,q8];exact .bool _)⟩;unfold execOp;simp only[Sem.run_bind,vx,vy,RQ,Result.andThen_ok,binOp,SE,Sem.run_pure];rfl
end
section
variable{P:Program}{C:Ctx}{σ σ' σ1:Sg}{a:Act}{w w':World}{ρ:Nat->Nat}{Fe Fe' Fb:Nat->List Nat}
def Fr(rd:Option Nat):Fence:={ Fence.wide with round:=rd }
def V(P:Program)(rd:Option Nat){ι:Type}(A:ι->Act->World->Prop)(c:Code)(Q:Exit->ι->Prop)(i:ι):Prop:=
 ∀ a w,A i a w->c.wpIn (Fr rd) 3 P (λe a' w'=>∃ j,A j a' w'/\Q e j) a w
def VL(P:Program)(rd:Option Nat){ι:Type}(A:ι->Act->World->Prop)(ops:Array Oper)(l:List Oper)(Q:Exit->ι->Prop)(i:ι):Prop:=
 ∀ a w,A i a w->wpListIn (Fr rd) 3 P ops (λe a' w'=>∃ j,A j a' w'/\Q e j) l a w
section
variable{rd:Option Nat}{ι:Type}{A:ι->Act->World->Prop}{Q:Exit->ι->Prop}{i:ι}
theorem V.region{id:Nat}{l:List Oper}(h:VL P rd A l.toArray l Q i):V P rd A (.region id l.toArray false) Q i:=λa w hs=>wpIn_region_lit (h a w hs)
theorem V.seq{x y:Code}(h:V P rd A x (λe s=>match e with | .normal=>V P rd A y Q s|e=>Q e s) i):V P rd A (.seq x y) Q i:=by
 intro a w hs;refine wpIn_seq ?_;refine J4 ?_ (h a w hs);intro e a' w' ⟨s,hs',hq⟩
 cases e<;>first|exact hq a' w' hs'|exact⟨s,hs',hq⟩
theorem V.label{l:Nat}(h:Q .normal i):V P rd A (.label l) Q i:=λa w hs=>wpIn_label ⟨i,hs,h⟩
theorem V.block{id:Nat}{c:Code}(h:V P rd A c (λe s=>match e with | .exit j=>if j=id then Q .normal s else Q (.exit j) s|e=>Q e s) i):V P rd A (.block id c) Q i:=by
 intro a w hs;refine wpIn_block ?_;refine J4 ?_ (h a w hs);intro e a' w' ⟨s,hs',hq⟩
 cases e with
 | exit j=>
  simp only[Exit.inBlock];split
  ·rename_i hi;exact⟨s,hs',by simpa [hi] using hq⟩
  ·rename_i hi;exact⟨s,hs',by simpa [hi] using hq⟩
 | _=>exact⟨s,hs',hq⟩
theorem V.loop{c:Code}(I:α->ι)(μ:α->Nat)(x0:α)(h0:i=I x0)
 (h:∀ x,V P rd A c (λe s=>match e with | .normal=>∃ y,s=I y/\μ y<μ x|e=>Q e s) (I x)):V P rd A (.loop c) Q i:=by
 subst h0;intro a w hs b k cs hro hbf hr
 have key:∀ n x a w,μ x=n->A (I x) a w ->
  ∃ e a' w',(∃ s,A s a' w'/\Q e s)/\ArrivesIn (Machine.fenced P (Fr rd)) P (lone (b.atR a (.code c::.inLoop c::k)) cs w) b k cs e a' w':=by
  intro n
  induction n using Nat.strongRecOn with
  | _ n ih=>
   intro x a w hx hs;obtain⟨e,a₁,w₁,⟨s,hs1,hq⟩,harr⟩:=h x a w hs b (.inLoop c::k) cs hro hbf hr
   cases e with
   | normal=>
    obtain⟨y,rfl,hlt⟩:=hq;obtain⟨e₂,a₂,w₂,hq₂,harr₂⟩:=ih (μ y) (hx▸hlt) y a₁ w₁ rfl hs1;exact⟨e₂,a₂,w₂,hq₂,.of_steps (StepsIn.trans harr (.one (fenced_calm hbf hr rfl) stepR_inLoop)) harr₂⟩
   | exit id=>exact⟨_,a₁,w₁,⟨s,hs1,hq⟩,.pass (x:=.inLoop c) rfl (λ_ _=>.inl (by simp)) harr⟩
   | goto l=>exact⟨_,a₁,w₁,⟨s,hs1,hq⟩,.pass (x:=.inLoop c) rfl (λ_ _=>.inl (by simp)) harr⟩
   | ret=>exact⟨_,a₁,w₁,⟨s,hs1,hq⟩,.pass (x:=.inLoop c) rfl (λ_ _=>.inl (by simp)) harr⟩
   | panic ch=>exact⟨_,a₁,w₁,⟨s,hs1,hq⟩,.pass (x:=.inLoop c) rfl (λ_ _=>.inl (by simp)) harr⟩
   | outgrown=>exact⟨_,a₁,w₁,⟨s,hs1,hq⟩,.pass (x:=.inLoop c) rfl (λ_ _=>.inl (by simp)) harr⟩
 obtain⟨e,a',w',hq,harr⟩:=key _ x0 a w rfl hs;exact⟨e,a',w',hq,.of_steps (.one (fenced_calm hbf hr rfl) stepR_loop) harr⟩
end
theorem j79{G:Nat->Prop}{u:Nat}{d:D}(h:SR w ρ G L a u d F)
 (hh:∀ b,(G b∨b∈F)->b<w.heap.size->w'.heap[b]? = w.heap[b]?) (hg:∀ b,G b->b<w.heap.size->G' b)
 (hc:∀ i,L i->ρ i<w.heap.size->w'.heap[ρ i]? = w.heap[ρ i]?):SR w' ρ G' L a u d F:=by
 have hL2:∀ i,L i->L i/\ρ i=ρ i:=λi hi=>⟨hi,rfl⟩
 cases d with
 | al s=>exact h
 | alb i off path=>
  obtain⟨hF,hid,x,hx,hs⟩:=h;exact⟨hF,hid,x,hx,by rw[<- hs];exact World.cell?_of_block (hc i hid (block_lt_of_cell hs))⟩
 | vw s z lo n=>exact h
 | va i off z n path lo=>exact h
 | ep s z i off path=>exact h
 | tup ds=>
  obtain⟨vs,Fs,h1,h2,h3,h4⟩:=h;refine⟨vs,Fs,h1,h2,h3,λk hk=>(h4 k hk).imp (λhx=>hx) λhx=>⟨hx.1,hx.2.mono (λb hb=>hh b (hb.imp (λhx=>hx) λhm=>?_)) hg hL2⟩⟩;rw[h3];exact w8.2 ⟨k,j7.2 hk,hm⟩
 | dead=>exact h
 | _=>obtain⟨x,hx,hr⟩:=h;exact⟨x,hx,hr.mono hh hg hL2⟩
theorem StW.rebase(st:StW C σ a w ρ Fe Fb)(C':Ctx)(hpin:C'.pin=C.pin)(hdf:C'.df=C.df)
 (hsame:∀ b,(gd C Fe Fb b∨own Fe Fb b)->b<w.heap.size->w'.heap[b]? = w.heap[b]?) (hok:∀ b,gd C Fe Fb b->b<w.heap.size->C'.ok b)
 (hnew:∀ b,own Fe Fb b->¬ C'.keep b) (hkept:∀ b,C'.keep b->w'.heap[b]? = C'.w0.heap[b]?/\b<C'.w0.heap.size)
 (hos:w'.os=C'.w0.os) (htape:TpR w' C'.w0) (hout:w'.output=C'.w0.output) (hgrown:C'.w0.heap.size<=w'.heap.size)
 (hgl:∀ g d,(g,d)∈C'.gl->C'.keep g/\C'.ok g/\∃ cs e fz,C'.w0.heap[g]? = some (.cells cs e fz)/\Rc C'.w0 (λx=>x) (λ_=>False) (λ_=>False) false d cs.toList [])
 (hokN:∀ b,w'.heap.size<=b->C'.ok b) (hokO:∀ b,own Fe Fb b->C'.ok b):StW C' σ a w' ρ Fe Fb:=by
 have hlt:=st.lt
 have hg:∀ b,gd C Fe Fb b->b<w.heap.size->gd C' Fe Fb b:=λb hb hl=>⟨hok b hb hl,hb.2⟩
 refine { size:=st.size,defs:=by rw[hdf];exact st.defs,pin:=by rw[hpin];exact st.pin,env:=?_,envN:=st.envN,bx:=?_,bxN:=st.bxN,nodE:=st.nodE,nodB:=st.nodB,dEE:=st.dEE,dEB:=st.dEB,dBB:=st.dBB,new:=hnew,kept:=hkept,os:=hos,tape:=htape,output:=hout,grown:=hgrown,gl:=hgl,okN:=hokN,okO:=hokO }
 ·intro t d hd;refine j79 (st.env t d hd) (λb hb hl=>hsame b (hb.imp (λh=>h) (λh=>.inl ⟨t,h⟩)) hl) hg (λi hi hl=>?_)
  cases hbx:σ.box i with
  | none=>simp[hbx] at hi
  | some x=>exact hsame _ (.inr (.inr ⟨i,(st.bx i x hbx).mem⟩)) hl
 ·intro id x hx;exact(st.bx id x hx).mono (λb hb hl=>hsame b (hb.imp (λh=>h) (λh=>.inr ⟨id,h⟩)) hl) hg (λi hi=>⟨hi,rfl⟩)
abbrev Yt:=Nat->Bool->(Nat->Prop)->World->Prop
structure Apart(O O':Nat->Prop)(w w':World):Prop where
 same:∀ b,b<w.heap.size->¬ O b->w'.heap[b]? = w.heap[b]?
 size:w.heap.size<=w'.heap.size
 sub:∀ b,O' b->O b∨w.heap.size<=b
 lt:∀ b,O' b->b<w'.heap.size
 os:w'.os=w.os
 tape:TpR w' w
 output:w'.output=w.output
def Stable(Y:Yt):Prop:=∀ k s O O' w w',Y k s O w->Apart O O' w w'->Y k s O' w'
def UE(P:Program)(l:Nat)(v:Value)(w:World)(R:World->Bool->Prop):Prop:=
 ∃ f tmps assign body,(Instr.yield l #[v]).run P w=.ok (.round l f tmps assign body) w /\
  RoundIn (Fr none) 2 P l f tmps assign body w (λe w'=>∃ s,e=.returned (.bool (!s))/\R w' s)
structure Rnd(Y:Yt)(G O:Nat->Prop)(k:Nat)(w w':World)(s:Bool):Prop where
 y:Y (k+1) s O w'
 same:∀ b,(G b∨O b)->b<w.heap.size->w'.heap[b]? = w.heap[b]?
 size:w.heap.size<=w'.heap.size
def Itr(P:Program)(gl:List (Nat×D))(f:FuncId)(caps:List D)(xs:List D):Prop:=
 ∀ (w:World) (G:Nat->Prop) (vs:List Value) (l:Nat) (Y:Yt),
  (∀ b,G b->b<w.heap.size) ->
  (∀ g d,(g,d)∈gl->G g/\∃ cs e fz,w.heap[g]? = some (.cells cs e fz)/\Rc w (λx=>x) (λ_=>False) (λ_=>False) false d cs.toList []) ->
  vs.length=caps.length->(∀ k (h:k<caps.length),VR w (λx=>x) G (λ_=>False) caps[k] (vs.getD k undef) []) ->
  Stable Y ->
  (∀ k O w v,(h:k<xs.length)->Y k false O w->(∀ b,O b->b<w.heap.size)->VR w (λx=>x) (λb=>G b∨O b) (λ_=>False) xs[k] v []->UE P l v w (Rnd Y G O k w)) ->
  Y 0 false (λ_=>False) w ->
  Calls P f (#[.func (.yield l) #[] #[]]++vs.toArray) w (λe w'=>(∃ v,e=.returned v)/\∃ k s O,Y k s O w'/\(s=true∨k=xs.length))
structure Rel(gl:List (Nat×D))(κ:Type) where
 ids:List Nat
 r:κ->Ctx->Prop
 gl:∀ {m C},r m C->C.gl=gl
 rd:∀ {m C},r m C->C.rd=none
 pin:∀ {m C},r m C->∀ id b,C.pin id=some b->N3 ids id=true
def AM{gl:List (Nat×D)}{κ:Type}(R:Rel gl κ)(i:κ×Sg)(a:Act)(w:World):Prop:=∃ C:Ctx,R.r i.1 C/\St C i.2 a w
section
variable{gl:List (Nat×D)}{κ:Type}{R:Rel gl κ}{m:κ}
theorem V.of{c:Code}{Q:Exit->κ×Sg->Prop}(h:∀ C:Ctx,C.gl=gl->(∀ id b,C.pin id=some b->N3 R.ids id=true)->W P C c (λe σ'=>Q e (m,σ')) σ):V P none (AM R) c Q (m,σ):=by
 intro a w ⟨C,hC,hs⟩
 have hF:Fx C=Fr none:=by unfold Fx Fr;rw[R.rd hC]
 have:=h C (R.gl hC) (R.pin hC) a w hs;rw[hF] at this;exact J4 (λe a' w' ⟨σ',hs,hq⟩=>⟨(m,σ'),⟨C,hC,hs⟩,hq⟩) this
theorem V.wk{c:Code}{Q:Exit->κ×Sg->Prop}(h:∀ C:Ctx,C.gl=gl->(∀ id b,C.pin id=some b->N3 R.ids id=true)->∀ a w,St C σ a w->St C σ' a w)(k:V P none (AM R) c Q (m,σ')):V P none (AM R) c Q (m,σ):=by
 intro a w ⟨C,hC,hs⟩;exact k a w ⟨C,hC,h C (R.gl hC) (R.pin hC) a w hs⟩
theorem VL.step{ops:Array Oper}{o:Oper}{l:List Oper}{Q:Exit->κ×Sg->Prop}(hg:o.guard=none)(h:∀ C:Ctx,C.gl=gl->OpS P C o σ σ')(kk:VL P none (AM R) ops l Q (m,σ')):VL P none (AM R) ops (o::l) Q (m,σ):=by
 intro a w ⟨C,hC,hs⟩
 have hF:Fx C=Fr none:=by unfold Fx Fr;rw[R.rd hC]
 refine wpListIn_plain hg λK hK=>?_;have:=h C (R.gl hC) a w hs K (λe a' w'=>∃ j,AM R j a' w'/\Q e j) (λa' w' hs'=>hK a' w' (kk a' w' ⟨C,hC,hs'⟩));rw[hF] at this;exact this
theorem KP{ops:List Oper}{o:Oper}{l:List Oper}{Q:Exit->κ×Sg->Prop}(hw:Wt ops σ.get o true)(h:∀ C:Ctx,C.gl=gl->OpS P C o σ σ')(kk:VL P none (AM R) ops.toArray l Q (m,σ')) :
 VL P none (AM R) ops.toArray (o::l) Q (m,σ):=by
 intro a w ⟨C,hC,hs⟩
 have hF:Fx C=Fr none:=by unfold Fx Fr;rw[R.rd hC]
 simp only[wpListIn,hw.ok hs (λ_ _ h=>h),j9];have:=h C (R.gl hC) a w hs (wpListIn (Fr none) 3 P ops.toArray (λe a' w'=>∃ j,AM R j a' w'/\Q e j) l) (λe a' w'=>∃ j,AM R j a' w'/\Q e j)
  (λa' w' hs'=>kk a' w' ⟨C,hC,hs'⟩)
 rw[hF] at this;exact this
theorem KB{ops:List Oper}{o:Oper}{l:List Oper}{Q:Exit->κ×Sg->Prop}{t:Nat}(hw:Wt ops σ.get o false)(hd:o.dst=some t)(ht:t<σ.n)(kk:VL P none (AM R) ops.toArray l Q (m,σ.set t (.tup []))) :
 VL P none (AM R) ops.toArray (o::l) Q (m,σ):=by
 intro a w ⟨C,hC,hs⟩;simp only[wpListIn,hw.ok hs (λ_ _ h=>h),q7,q8];rw[hd];exact⟨λ_ _=>trivial,kk _ _ ⟨C,hC,hs.unwanted ht⟩⟩
theorem VL.nil{ops:Array Oper}{Q:Exit->κ×Sg->Prop}(h:Q .normal (m,σ)):VL P none (AM R) ops [] Q (m,σ):=λa w hs=>⟨_,hs,h⟩
end
def NC(gl:List (Nat×D))(G:Nat->Prop)(Y:Yt)(ids:List Nat)(pn:Nat->Option Nat):Rel gl (Nat×Bool) where
 ids:=ids
 r i C:=C.gl=gl/\C.rd=none/\C.df=[]/\(C.pin=pn/\∀ id b,C.pin id=some b->N3 ids id=true)/\∃ O:Nat->Prop,(∀ b,C.keep b↔b<C.w0.heap.size/\¬ O b)/\(∀ b,C.ok b↔G b∨O b∨C.w0.heap.size<=b) /\
  (∀ b,G b->b<C.w0.heap.size/\¬ O b)/\(∀ b,O b->b<C.w0.heap.size)/\Y i.1 i.2 O C.w0
 gl h:=h.1
 rd h:=h.2.1
 pin h:=h.2.2.2.1.2
section
variable{gl:List (Nat×D)}{G:Nat->Prop}{Y:Yt}{k:Nat}{s:Bool}{ids:List Nat}{pn:Nat->Option Nat}
theorem VL.yield{ops:Array Oper}{l:List Oper}{Q:Exit->(Nat×Bool)×Sg->Prop}{y t lo:Nat}{x:Operand}{d:D}{xs:List D}
 (hY:Stable Y) (hyl:∀ k O w v,(h:k<xs.length)->Y k false O w->(∀ b,O b->b<w.heap.size)->VR w (λx=>x) (λb=>G b∨O b) (λ_=>False) xs[k] v []->UE P lo v w (Rnd Y G O k w))
 (hg:σ.get y=some (.yld lo)) (hx:ev gl σ x=some d) (hp:d.pur=true) (hn:d.np=true) (hk:k<xs.length) (hd:xs[k]=d) (ht:t<σ.n)
 (kk:∀ s,VL P none (AM (NC gl G Y ids pn)) ops l Q ((k+1,s),σ.set t (.bool (!s)))) :
 VL P none (AM (NC gl G Y ids pn)) ops (⟨some t,.call { callee:=.value (.tmp y),args:=#[x],argTypes:=tys },rt,pos,aft,none⟩::l) Q ((k,false),σ):=by
 intro a w ⟨C,⟨h1,h2,h3,h4,O,hkeep,hok,hG,hO,hYk⟩,ρ,Fe,Fb,st⟩;refine wpListIn_plain rfl λK hK=>?_;obtain⟨vy,hvy,hry⟩:=(c5 rfl).1 (st.env y _ hg);simp only[VR,D.isAgg,q7,q8] at hry;generalize Fe y=Fy at hry;cases hry
 -- what it owns by now
 let O':Nat->Prop:=λb=>(O b∨C.w0.heap.size<=b)/\b<w.heap.size
 have hap:Apart O O' C.w0 w:={
  same:=λb hb hn=>(st.kept b ((hkeep b).2 ⟨hb,hn⟩)).1
  size:=st.grown
  sub:=λb hb=>hb.1
  lt:=λb hb=>hb.2
  os:=st.os
  tape:=⟨st.tape.tp,st.tape.dr⟩
  output:=st.output }
 have hY1:Y k false O' w:=hY _ _ _ _ _ _ hYk hap;have hlt:=st.lt
 have hownO:∀ b,own Fe Fb b->O' b:=λb hb=>by
  refine⟨?_,hlt b hb⟩;by_cases h0:C.w0.heap.size<=b
  ·exact .inr h0
  ·left;by_cases hOb:O b
   ·exact hOb
   ·exact absurd ((hkeep b).2 ⟨by omega,hOb⟩) (st.new b hb)
 have hgdO:∀ b,gd C Fe Fb b->b<w.heap.size->G b∨O' b:=λb hb hl=>by
  rcases(hok b).1 hb.1 with h|h|h
  ·exact .inl h
  ·exact .inr ⟨.inl h,hl⟩
  ·exact .inr ⟨.inr h,hl⟩
 have hv:VR w (λx=>x) (λb=>G b∨O' b) (λ_=>False) xs[k] (a.eval x) []:=by
  rw[hd];obtain⟨F,hvx,_⟩:=H5 st (by rw[h1];exact hx) (D9 hp);have hFx:=hvx.pur hp;subst hFx;exact(hvx.noL (ρ':=λx=>x) (L':=λ_=>False) hn).mono (λ_ _ _=>rfl) hgdO (λ_ h=>h.elim)
 obtain⟨f,tmps,assign,body,hrun,hround⟩:=hyl k O' w (a.eval x) hk hY1 (λb hb=>hb.2) hv
 have hexec:(execOp a.eval ⟨some t,.call { callee:=.value (.tmp y),args:=#[x],argTypes:=tys },rt,pos,aft,none⟩).run P w=.ok (.round lo f tmps assign body) w:=by
  unfold execOp;simp[resolve,Q3 hvy,Deferred.ofValue,invoke,hrun]
 have hF:Fx C=Fr none:=by unfold Fx Fr;rw[h2]
 have hgoal:Oper.wpIn (Fx C) 3 P ⟨some t,.call { callee:=.value (.tmp y),args:=#[x],argTypes:=tys },rt,pos,aft,none⟩ a w K (λe a' w'=>∃ j,AM (NC gl G Y ids pn) j a' w'/\Q e j):=by
  refine O0 hexec (by simp) ?_;rw[Oper.uponIn_round,hF];refine⟨(λh=>by cases h),hround.mono λe w' ⟨s',he,hr⟩=>?_⟩;subst he;refine hK _ _ (kk s' _ _ ?_)
  let C':Ctx:=⟨w',λb=>b<w'.heap.size/\¬ O' b,λb=>G b∨O' b∨w'.heap.size<=b,gl,none,C.pin,C.df⟩
  have hGs:∀ b,G b->b<w.heap.size:=λb hb=>u0 (hG b hb).1 st.grown
  have hGO:∀ b,G b->¬ O' b:=λb hb hc=>by
   rcases hc.1 with h|h
   ·exact(hG b hb).2 h
   ·have:=(hG b hb).1;omega
  have hgd2:∀ b,(gd C Fe Fb b∨own Fe Fb b)->b<w.heap.size->w'.heap[b]? = w.heap[b]?:=λb hb hl=>hr.same b (hb.elim (λh=>hgdO b h hl) (λh=>.inr (hownO b h))) hl;have st':StW C' σ a w' ρ Fe Fb:=st.rebase C' rfl rfl hgd2 (λb hb hl=>(hgdO b hb hl).imp (λh=>h) (λh=>.inl h)) (λb hb hc=>hc.2 (hownO b hb)) (λb hb=>⟨rfl,hb.1⟩) rfl ⟨rfl,z7 _⟩ rfl (z7 _)
   (λg d hgd=>by
    obtain⟨q1,q2,cs,e,fz,q3,q4⟩:=st.gl g d (by rw[h1];exact hgd);have q1':=(hkeep g).1 q1
    have hGg:G g:=by
     rcases(hok g).1 q2 with h|h|h
     ·exact h
     ·exact absurd h q1'.2
     ·omega
    have hsz:g<w.heap.size:=hGs g hGg;refine⟨⟨u0 hsz hr.size,hGO g hGg⟩,.inl hGg,cs,e,fz, ?_,q4.mono (λb hb=>?_) (λ_ h=>h.elim) (λ_ h=>h.elim)⟩
    ·show w'.heap[g]? = _;rw[hr.same g (.inl hGg) hsz,(st.kept g q1).1,q3]
    ·rcases hb with hb|hb
     ·exact hb.elim
     ·cases hb)
   (λb hb=>.inr (.inr hb)) (λb hb=>.inr (.inl (hownO b hb)))
  refine⟨C',⟨rfl,rfl,h3,h4,O',λb=>Iff.rfl,λb=>Iff.rfl,λb hb=>⟨u0 (hGs b hb) hr.size,hGO b hb⟩,λb hb=>u0 hb.2 hr.size,hr.y⟩, ?_⟩;exact st'.put ht rfl (by simp only[VR,D.isAgg,q7,q8];exact .bool _)
 rw[hF] at hgoal;exact hgoal
end
theorem Itr.of{gl:List (Nat×D)}{f:FuncId}{fn:Func}{c:Code}{xs:List D}{n:Nat}(hf:P.funcs[f]? = some fn)(hb:fn.body=some c)(hnn:fn.ntmps=n)(hres:fn.results=#[])
 (hd:caps.all (λd=>!d.isRef)=true) (hn:caps.length+1<=n)
 (h:∀ (G:Nat->Prop) (Y:Yt) (l:Nat),Stable Y->(∀ k O w v,(h:k<xs.length)->Y k false O w->(∀ b,O b->b<w.heap.size)->VR w (λx=>x) (λb=>G b∨O b) (λ_=>False) xs[k] v []->UE P l v w (Rnd Y G O k w)) ->
  V P none (AM (NC gl G Y [] (λ_=>none))) c (λe i=>(e=.normal∨e=.ret)/\(i.1.2=true∨i.1.1=xs.length)) ((0,false),⟨n,ini 0 (.yld l::caps),[]⟩)):Itr P gl f caps xs:=by
 subst hnn;intro w G vs l Y hG hgl hl hv hY hyl h0;refine calls_of_wp hf hb ?_
 let C:Ctx:=⟨w,λb=>b<w.heap.size/\¬ False,λb=>G b∨False∨w.heap.size<=b,gl,none,λ_=>none,[]⟩
 let ds:List D:=.yld l::caps
 have hget:∀ t d,(⟨fn.ntmps,ini 0 ds,[]⟩:Sg).get t=some d->∃ h:t<ds.length,ds[t]=d:=by
  intro t d hd;simp only[Sg.get,OH,g9,j9,O7] at hd;obtain⟨h,e⟩:=z8.1 hd;exact⟨h,e⟩
 have hown:∀ b,¬ own (λ_=>[]) (λ_=>[]) b:=by rintro b (⟨_,h⟩|⟨_,h⟩)<;>cases h
 have st:StW C ⟨fn.ntmps,ini 0 ds,[]⟩ { tmps:=(#[Value.func (.yield l) #[] #[]]++vs.toArray)++Array.replicate (fn.ntmps-(#[Value.func (.yield l) #[] #[]]++vs.toArray).size) undef,defers:=[] } w (λx=>x) (λ_=>[]) (λ_=>[]):=by
  refine⟨?_,rfl,(λ_ _ hp=>by cases hp), ?_,λ_ _=>rfl, ?_,λ_ _=>rfl,λ_=>w9,λ_=>w9,(λ_ _ _ _ h=>by cases h),(λ_ _ _ h=>by cases h),(λ_ _ _ _ h=>by cases h),λb hb=>absurd hb (hown b), ?_,rfl,⟨rfl,z7 _⟩,rfl,z7 _, ?_,λb hb=>.inr (.inr hb),λb hb=>absurd hb (hown b)⟩
  ·simp[hl];omega
  ·intro t d hd';obtain⟨ht,rfl⟩:=hget t d hd'
   cases t with
   | zero=>
    refine(c5 rfl).2 ⟨.func (.yield l) #[] #[], ?_, ?_⟩
    ·rw[X2 (by simp)];simp
    ·show VR w _ _ _ (D.yld l) _ _;simp only[VR,D.isAgg,q7,q8];exact .yld l
   | succ t=>
    have ht':t<caps.length:=by simpa [ds] using ht
    have hr:caps[t].isRef=false:=by
     have:=o8.1 hd caps[t] (g6 ht');simpa using this
    refine(c5 hr).2 ⟨vs.getD t undef, ?_,(hv t ht').mono (λ_ _ _=>rfl) (λb hb _=>⟨.inl hb,hown b⟩) (λid hid=>hid.elim)⟩
    have htv:t<vs.length:=by omega
    rw[X2 (by simp;omega)];simp[htv,Array.getElem?_append]
  ·intro id d hd';cases hd'
  ·intro b hb;exact⟨rfl,hb.1⟩
  ·intro g d hg;obtain⟨h1,cs,e,fz,h2,h3⟩:=hgl g d hg;exact⟨⟨(j6.1 h2).1,λh=>h⟩,.inl h1,cs,e,fz,h2,h3⟩
 have hAI:AM (NC gl G Y [] (λ_=>none)) ((0,false),⟨fn.ntmps,ini 0 ds,[]⟩) { tmps:=(#[Value.func (.yield l) #[] #[]]++vs.toArray)++Array.replicate (fn.ntmps-(#[Value.func (.yield l) #[] #[]]++vs.toArray).size) undef,defers:=[] } w:=
  ⟨C,⟨rfl,rfl,rfl,⟨rfl,λ_ _ h=>by cases h⟩,λ_=>False,λ_=>Iff.rfl,λ_=>Iff.rfl,λb hb=>⟨hG b hb,λh=>h⟩,λb hb=>hb.elim,h0⟩,_,_,_,st⟩
 refine W1 ?_ (wpIn_wide.1 (h G Y l hY hyl _ w hAI));rintro e a' w' ⟨⟨⟨k,s⟩,σ'⟩,⟨C',⟨h1,h2,h3,h4,O,hkeep,hok,hG',hO,hYk⟩,ρ,Fe,Fb,st'⟩,he,hend⟩;have hrun:=QO (P:=P) (tmps:=a'.tmps) (rs:=[]) (fn:=fn) (by rw[hres]) (λ_=>undef) w' (λk hk=>absurd hk (Q8 _))
 let O':Nat->Prop:=λb=>(O b∨C'.w0.heap.size<=b)/\b<w'.heap.size
 have hY1:Y k s O' w':=hY _ _ _ _ _ _ hYk {
  same:=λb hb hn=>(st'.kept b ((hkeep b).2 ⟨hb,hn⟩)).1
  size:=st'.grown
  sub:=λb hb=>hb.1
  lt:=λb hb=>hb.2
  os:=st'.os
  tape:=⟨st'.tape.tp,st'.tape.dr⟩
  output:=st'.output }
 have hdf:a'.defers=[]:=by rw[st'.defs,h3]
 rcases he with rfl|rfl
 ·exact⟨hdf,_,hrun,⟨_,rfl⟩,k,s,O',hY1,hend⟩
 ·exact⟨hdf,_,hrun,⟨_,rfl⟩,k,s,O',hY1,hend⟩
theorem Rc.frsAll{G:Nat->Prop}{ρ':Nat->Nat}{p:Bool}{d:D}{cs:List Value}(h:Rc w ρ G L p d cs F)(hf:Frs d)(hn:d.np=true)(hh:∀ b∈F,b<w.heap.size->w'.heap[b]? = w.heap[b]?):Rc w' ρ' G' L' true d cs F:=by
 have h1:=(h.frs (G':=λ_=>False) hf).unflag hn;have h2:=(h1.noL (ρ':=ρ') (L':=L')).flag;exact h2.mono (λb hb hl=>hh b (hb.resolve_left (λh=>h)) hl) (λ_ h=>h.elim) (λid hid=>⟨hid,rfl⟩)
def YQ:List (Nat×Bx)->Prop
 | []=>True
 | (_,.var d)::r=>Frs d/\d.np=true/\YQ r
 | (_,.mp _)::_=>False
theorem JY{l:List (Nat×Bx)}(h:YQ l){id:Nat}{x:Bx}(hx:lk l id=some x):∃ d,x=.var d/\Frs d/\d.np=true:=by
 induction l with
 | nil=>simp[lk] at hx
 | cons y r ih=>
  obtain⟨k,b⟩:=y
  cases b with
  | mp=>exact h.elim
  | var d=>
   rw[U2] at hx;by_cases hk:k=id
   ·simp only[hk,j9,z6] at hx;exact⟨d,hx.symm,h.1,h.2.1⟩
   ·simp only[hk,q8] at hx;exact ih h.2.2 hx
def ZE:List (Nat×D)->Bool
 | []=>true
 | (_,d)::r=>d.pur&&!d.isRef&&ZE r
theorem ZA{l:List (Nat×D)}(h:ZE l=true){t:Nat}{d:D}(hd:lk l t=some d):d.pur=true/\d.isRef=false:=by
 induction l with
 | nil=>simp[lk] at hd
 | cons x r ih=>
  obtain⟨k,e⟩:=x;simp only[ZE,u6,D1] at h;rw[U2] at hd;by_cases hk:k=t
  ·simp only[hk,j9,z6] at hd;subst hd;exact h.1
  ·simp only[hk,q8] at hd;exact ih h.2 hd
structure Last(C:Ctx)(n:Nat)(a:Act)(env0:List (Nat×D))(ids:List Nat)(ρ0:Nat->Nat)(G1:Nat->Prop)(sz:Nat)(l dd:Nat)(bx:List (Nat×Bx))(Fb:Nat->List Nat)(O:Nat->Prop)(w:World):Prop where
 keys:∀ id,(lk bx id).isSome=N3 ids id
 frs:YQ bx
 env:∀ t d,lk env0 t=some d->∃ v,a.tmps[t]? = some v/\VR w ρ0 G1 (λid=>N3 ids id=true) d v []
 box:∀ id d,lk bx id=some (.var d)->∃ cs e F',w.heap[ρ0 id]? = some (.cells cs e (0,0))/\Rc w ρ0 (λ_=>False) (λ_=>False) true d cs.toList F'/\Fb id=ρ0 id::F'
 boxN:∀ id,lk bx id=none->Fb id=[]
 nodB:∀ id,(Fb id).Nodup
 dBB:∀ id id',id≠id'->∀ b,b∈Fb id->b∉Fb id'
 own:∀ id b,b∈Fb id->¬ C.keep b/\¬ O b/\¬ G1 b/\b≠l/\b≠dd/\b<w.heap.size
 O_ge:∀ b,O b->(¬ C.keep b/\¬ G1 b)/\b≠l/\b≠dd
 G1_lt:∀ b,G1 b->b<sz/\b≠l/\b≠dd
 keep:∀ b,C.keep b->w.heap[b]? = C.w0.heap[b]?/\b<sz/\b≠l/\b≠dd
 os:w.os=C.w0.os
 tape:TpR w C.w0
 output:w.output=C.w0.output
 size:sz<=w.heap.size
 l_lt:l<w.heap.size
 d_lt:dd<w.heap.size
 ld:l≠dd
 def_:w.heap[dd]? = some (.deferred (some []))
theorem Last.apart{n:Nat}{env0:List (Nat×D)}{ids:List Nat}{ρ0:Nat->Nat}{G1:Nat->Prop}{sz l dd:Nat}{bx:List (Nat×Bx)}{O O':Nat->Prop}(h:Last C n a env0 ids ρ0 G1 sz l dd bx Fb O w)(hz:∀ b,sz<=b->¬ C.keep b)(ha:Apart O O' w w') :
 Last C n a env0 ids ρ0 G1 sz l dd bx Fb O' w':=by
 have hO':∀ b,O' b->(¬ C.keep b/\¬ G1 b)/\b≠l/\b≠dd:=λb hb=>by
  rcases ha.sub b hb with h1|h1
  ·exact h.O_ge b h1
  ·have:=h.l_lt;have:=h.d_lt;have:=h.size;exact⟨⟨hz b (by omega),λhc=>by have:=(h.G1_lt b hc).1;omega⟩,by omega,by omega⟩
 have hFO:∀ id b,b∈Fb id->b<w.heap.size->w'.heap[b]? = w.heap[b]?:=λid b hb hl=>ha.same b hl (h.own id b hb).2.1;have hG:∀ b,G1 b->¬ O b:=λb hb hc=>(h.O_ge b hc).1.2 hb;refine Last.mk h.keys h.frs (λt d hd=>?_) (λid d hd=>?_) h.boxN h.nodB h.dBB (λid b hb=>?_) hO' h.G1_lt (λb hb=>?_)
  (ha.os.trans h.os) (ha.tape.trans h.tape) (ha.output.trans h.output) (u9 h.size ha.size) (u0 h.l_lt ha.size) (u0 h.d_lt ha.size) h.ld ?_
 ·obtain⟨v,h1,h2⟩:=h.env t d hd;exact⟨v,h1,h2.mono (λb hb hl=>ha.same b hl (hb.elim (hG b) (λhm=>by cases hm))) (λb hb _=>hb) (λid hid=>⟨hid,rfl⟩)⟩
 ·obtain⟨cs,e,F',h1,h2,h3⟩:=h.box id d hd;have hlt:ρ0 id<w.heap.size:=(j6.1 h1).1;refine⟨cs,e,F',(hFO id _ (by rw[h3];simp) hlt).trans h1,h2.mono (λb hb hl=>hFO id b (by rw[h3];exact j1 _ (hb.resolve_left (λh=>h))) hl) (λ_ h=>h.elim) (λ_ h=>h.elim),h3⟩
 ·obtain⟨q1,q2,q3,q4,q5,q6⟩:=h.own id b hb;refine⟨q1,λhc=>?_,q3,q4,q5,u0 q6 ha.size⟩
  rcases ha.sub b hc with h1|h1
  ·exact q2 h1
  ·omega
 ·obtain⟨q1,q2,q3,q4⟩:=h.keep b hb;refine⟨?_,q2,q3,q4⟩;have:=h.size;rw[ha.same b (by omega) (λhc=>(h.O_ge b hc).1.1 hb)];exact q1
 ·rw[ha.same dd h.d_lt (λhc=>(h.O_ge dd hc).2.2 rfl)];exact h.def_
theorem z99{F:Fence}{n m:Nat}{c:Code}{Q:Exit->Act->World->Prop}(hd:F.depth=none)(h:c.wpIn F n P Q a w):c.wpIn F m P Q a w:=
 λb k cs h1 h2 _=>h b k cs h1 h2 (λd hd'=>by rw[hd] at hd';cases hd')
theorem Last.start{n:Nat}{env0:List (Nat×D)}{ids:List Nat}{ρ0:Nat->Nat}{G1:Nat->Prop}{sz l dd:Nat}{bx:List (Nat×Bx)}{O:Nat->Prop}(h:Last C n a env0 ids ρ0 G1 sz l dd bx Fb O w)
 (hsz:a.tmps.size=n) (hO:∀ b,O b->b<w.heap.size) {p:Nat} {v:Value} {d:D} (hp:p<n) (hv:VR w (λx=>x) (λb=>G1 b∨O b) (λ_=>False) d v []) (hdp:d.pur=true) (hdn:d.np=true) (hpe:ZE env0=true)
 (hgl:∀ g d,(g,d)∈C.gl->C.keep g/\G1 g/\∃ cs e fz,C.w0.heap[g]? = some (.cells cs e fz)/\Rc C.w0 (λx=>x) (λ_=>False) (λ_=>False) false d cs.toList []) :
 StW ⟨w,λb=>b<w.heap.size/\¬ ∃ id,b∈Fb id,λb=>G1 b∨O b∨w.heap.size<=b∨∃ id,b∈Fb id,C.gl,some l,λid=>if N3 ids id then some (ρ0 id) else none,[]⟩
  ((⟨n,env0,bx⟩:Sg).set p d) { tmps:=a.tmps.setIfInBounds p v,defers:=[] } w ρ0 (λ_=>[]) Fb:=by
 have hown:∀ b,Go.Sx.own (λ_=>[]) Fb b->∃ id,b∈Fb id:=by
  rintro b (⟨_,h⟩|h)
  ·cases h
  ·exact h
 have hkeys:∀ id,((⟨n,env0,bx⟩:Sg).box id).isSome=N3 ids id:=h.keys;refine StW.mk (by simp[hsz]) rfl (λid b hb=>?_) (λt x hx=>?_) (λ_ _=>rfl) (λid x hx=>?_) (λid hid=>h.boxN id hid) (λ_=>w9) h.nodB (λ_ _ _ _ h=>by cases h) (λ_ _ _ h=>by cases h) h.dBB
  (λb hb hc=>hc.2 (hown b hb)) (λb hb=>⟨rfl,hb.1⟩) rfl ⟨rfl,z7 _⟩ rfl (z7 _) (λg d hg=>?_) (λb hb=>.inr (.inr (.inl hb))) (λb hb=>.inr (.inr (.inr (hown b hb))))
 ·by_cases hm:N3 ids id=true
  ·simp only[hm,j9,z6] at hb;exact⟨hb,by show((⟨n,env0,bx⟩:Sg).box id).isSome=true;rw[hkeys];exact hm⟩
  ·simp[hm] at hb
 ·have hgd:∀ b,(G1 b∨O b)->b<w.heap.size->gd ⟨w,λb=>b<w.heap.size/\¬ ∃ id,b∈Fb id,λb=>G1 b∨O b∨w.heap.size<=b∨∃ id,b∈Fb id,C.gl,some l,λid=>if N3 ids id then some (ρ0 id) else none,[]⟩ (λ_=>[]) Fb b:=by
   intro b hb _;refine⟨hb.elim (λh=>.inl h) (λh=>.inr (.inl h)),λhc=>?_⟩;obtain⟨id,hid⟩:=hown b hc;obtain⟨_,q2,q3,_⟩:=h.own id b hid;exact hb.elim q3 q2
  simp only[Sg.get,Sg.set,U2,q72] at hx;by_cases hpt:p=t
  ·subst hpt;simp only[j9,z6] at hx;subst hx;refine(c5 (D9 hdp)).2 ⟨v,by simp[hsz,hp],(hv.noL (ρ':=ρ0) hdn).mono (λ_ _ _=>rfl) hgd (λid hid=>⟨hid,rfl⟩)⟩
  ·simp only[hpt,q8,show ¬ t=p from λe=>hpt e.symm,p9] at hx;obtain⟨x0,hx0,rfl⟩:=hx;obtain⟨hp1,hp2⟩:=ZA hpe hx0
   have hsc:scrub p x0=x0:=by cases x0<;>first|rfl|simp[D.isRef] at hp2
   rw[hsc];obtain⟨v0,hv0,hr0⟩:=h.env t x0 hx0;refine(c5 hp2).2 ⟨v0, ?_,hr0.mono (λ_ _ _=>rfl) (λb hb hl=>hgd b (.inl hb) hl) (λid hid=>⟨by show((⟨n,env0,bx⟩:Sg).box id).isSome=true;rw[hkeys];exact hid,rfl⟩)⟩;show(a.tmps.setIfInBounds p v)[t]? = some v0;rw[Array.getElem?_setIfInBounds_ne hpt];exact hv0
 ·obtain⟨d0,rfl,hf,hn0⟩:=JY h.frs (show lk bx id=some x from hx);obtain⟨cs,e,F',h1,h2,h3⟩:=h.box id d0 hx;exact⟨cs,e,F',h1,h2.mono (λ_ _ _=>rfl) (λ_ hb=>hb.elim) (λ_ hb=>hb.elim),h3⟩
 ·obtain⟨q1,q2,cs,e,fz,q3,q4⟩:=hgl g d hg;obtain⟨k1,k2,_⟩:=h.keep g q1;have:=h.size;refine⟨⟨by omega,λ⟨id,hid⟩=>(h.own id g hid).1 q1⟩,.inl q2,cs,e,fz,k1.trans q3,q4.mono (λb hb _=>?_) (λ_ h=>h.elim) (λ_ h=>h.elim)⟩
  rcases hb with hb|hb
  ·exact hb.elim
  ·cases hb
def jmp:Exit->Option Code
 | .ret=>some .ret
 | .exit id=>some (.exit id)
 | _=>none
theorem Last.round{n:Nat}{env0:List (Nat×D)}{ids:List Nat}{ρ0:Nat->Nat}{G1:Nat->Prop}{sz l dd:Nat}{bx:List (Nat×Bx)}{O:Nat->Prop}(h:Last C n a env0 ids ρ0 G1 sz l dd bx Fb O w)
 {r:Loop} (hrec:w.heap[l]? = some (.loop r)) (hst:r.state=.ready) (htm:r.tmps=a.tmps) {p:Nat} (hpar:r.params=#[p]) {asg body:Code} (hra:r.assign=asg) (hrb:r.body=body)
 (hsz:a.tmps.size=n) (hO:∀ b,O b->b<w.heap.size) {v:Value} {d:D} (hp:p<n) (hv:VR w (λx=>x) (λb=>G1 b∨O b) (λ_=>False) d v []) (hdp:d.pur=true) (hdn:d.np=true) (hpe:ZE env0=true)
 (hgl:∀ g d,(g,d)∈C.gl->C.keep g/\G1 g/\∃ cs e fz,C.w0.heap[g]? = some (.cells cs e fz)/\Rc C.w0 (λx=>x) (λ_=>False) (λ_=>False) false d cs.toList [])
 {E:Exit->List (Nat×Bx)->Prop}
 (hround:∀ C':Ctx,C'.gl=C.gl->(∀ id b,C'.pin id=some b->N3 ids id=true)->W P C' asg (λe σ'=>e=.normal/\∀ C':Ctx,C'.gl=C.gl->(∀ id b,C'.pin id=some b->N3 ids id=true) ->
  W P C' body (λe σ'=>E e (M9 ids σ'.bx)/\YQ (M9 ids σ'.bx)) σ') ((⟨n,env0,bx⟩:Sg).set p d))
 (hE:∀ e bx',E e bx'->e=.normal∨e=.ret∨∃ id,e=.exit id) :
 UE P l v w (λw' s=>∃ e bx' Fb',E e bx'/\s=(jmp e).isSome/\w'.heap[l]? = some (.loop { r with state:=if(jmp e).isNone then .ready else .done,pending:=jmp e }) /\
  Last C n a env0 ids ρ0 G1 sz l dd bx' Fb' O w'/\(∀ b,b<w.heap.size->(¬ ∃ id,b∈Fb id)->b≠l->w'.heap[b]? = w.heap[b]?)/\w.heap.size<=w'.heap.size):=by
 have hst0:=h.start hsz hO hp hv hdp hdn hpe hgl;have hlF:¬ ∃ id,l∈Fb id:=λ⟨id,hid⟩=>(h.own id l hid).2.2.2.1 rfl;have hll:=h.l_lt
 have hrun:(Instr.yield l #[v]).run P w=.ok (.round l r.fn (a.tmps.setIfInBounds p v) asg body) w:=by
  have:=run_yield (P:=P) (w:=w) (args:=#[v]) hrec (by rw[hpar];rfl);rw[hra,hrb] at this;rw[this,hpar,htm]
  have hz:(#[p]:Array Nat).zip (#[v]:Array Value)=#[(p,v)]:=by
   rw[show(#[p]:Array Nat)=[p].toArray from rfl,show(#[v]:Array Value)=[v].toArray from rfl];simp
  rw[hz];rfl
 refine⟨r.fn,a.tmps.setIfInBounds p v,asg,body,hrun, ?_⟩;refine roundIn_of_wpIn trivial ?_
 have hfr:∀ C':Ctx,C'.rd=some l->Fx C'=(Fr none).inRound l:=λC' hC=>by unfold Fx;rw[hC];rfl
 let C1:Ctx:=⟨w,λb=>b<w.heap.size/\¬ ∃ id,b∈Fb id,λb=>G1 b∨O b∨w.heap.size<=b∨∃ id,b∈Fb id,C.gl,some l,λid=>if N3 ids id then some (ρ0 id) else none,[]⟩
 have h1:=hround C1 rfl (λid b hb=>by
  by_cases hm:N3 ids id=true
  ·exact hm
  ·simp[C1,hm] at hb) _ _ ⟨_,_,_,hst0⟩
 rw[hfr _ rfl] at h1;refine z99 (n:=3) rfl (J4 ?_ h1);rintro e a₁ w₁ ⟨σ2,⟨ρ₁,Fe₁,Fb₁,st₁⟩,rfl,hbody⟩;show ∃ w₂,_
 have hrec1:w₁.heap[l]? = some (.loop r):=by rw[(st₁.kept l ⟨hll,hlF⟩).1];exact hrec
 have hl1:l<w₁.heap.size:=(j6.1 hrec1).1;refine⟨_,run_beginRound hrec1 hst, ?_⟩
 -- behind 'beginRound'
 have hown1:∀ b,Go.Sx.own Fe₁ Fb₁ b->w.heap.size<=b∨∃ id,b∈Fb id:=λb hb=>by
  have:=st₁.new b hb;by_cases hlt:b<w.heap.size
  ·right;by_cases hx:∃ id,b∈Fb id
   ·exact hx
   ·exact absurd ⟨hlt,hx⟩ this
  ·left;omega
 have hlown1:¬ Go.Sx.own Fe₁ Fb₁ l:=λhc=>(hown1 l hc).elim (λh=>by omega) hlF
 have hlgd1:¬ (G1 l∨O l∨w.heap.size<=l∨∃ id,l∈Fb id):=by
  rintro (hc|hc|hc|hc)
  ·exact(h.G1_lt l hc).2.1 rfl
  ·exact(h.O_ge l hc).2.1 rfl
  ·omega
  ·exact hlF hc
 let C2:Ctx:=⟨w₁.putObj l (.loop { r with state:=.busy }),λb=>b<w₁.heap.size/\¬ Go.Sx.own Fe₁ Fb₁ b,λb=>G1 b∨O b∨w.heap.size<=b∨∃ id,b∈Fb id,C.gl,some l,λid=>if N3 ids id then some (ρ0 id) else none,[]⟩
 have st₂:StW C2 σ2 a₁ (w₁.putObj l (.loop { r with state:=.busy })) ρ₁ Fe₁ Fb₁:=by
  refine st₁.rebase C2 rfl rfl (λb hb hl=>?_) (λb hb hl=>hb.1) (λb hb hc=>hc.2 hb) (λb hb=>⟨rfl,show b<(w₁.putObj l _).heap.size by rw[World.putObj_size];exact hb.1⟩) rfl ⟨rfl,z7 _⟩ rfl (z7 _) (λg d0 hg=>?_) (λb hb=>.inr (.inr (.inl (u9 st₁.grown (by rw[World.putObj_size] at hb;exact hb))))) (λb hb=>st₁.okO b hb)
  ·refine World.putObj_heap_other (λhbl=>?_);subst hbl
   rcases hb with hb|hb
   ·exact hlgd1 hb.1
   ·exact hlown1 hb
  ·obtain⟨q1,q2,cs,e,fz,q3,q4⟩:=st₁.gl g d0 hg
   have hgl':g≠l:=λhc=>by subst hc;exact hlgd1 q2
   refine⟨⟨u0 q1.1 st₁.grown,λhc=>st₁.new g hc q1⟩,q2,cs,e,fz, ?_,q4.mono (λb hb _=>?_) (λ_ h=>h.elim) (λ_ h=>h.elim)⟩
   ·show(w₁.putObj l _).heap[g]? = _;rw[World.putObj_heap_other hgl',(st₁.kept g q1).1];exact q3
   ·rcases hb with hb|hb
    ·exact hb.elim
    ·cases hb
 have h2:=hbody C2 rfl (λid b hb=>by
  by_cases hm:N3 ids id=true
  ·exact hm
  ·simp[C2,hm] at hb) _ _ ⟨_,_,_,st₂⟩
 rw[hfr _ rfl] at h2;refine z99 (n:=3) rfl (J4 ?_ h2);rintro e a₃ w₃ ⟨σ3,⟨ρ₃,Fe₃,Fb₃,st₃⟩,hEe,hfrs⟩
 have hrec3:w₃.heap[l]? = some (.loop { r with state:=.busy }):=by
  rw[(st₃.kept l ⟨hl1,hlown1⟩).1];exact World.putObj_heap_same hl1
 have hl3:l<w₃.heap.size:=(j6.1 hrec3).1;have hs1:w.heap.size<=w₁.heap.size:=st₁.grown
 have hs3:w₁.heap.size<=w₃.heap.size:=by have:=st₃.grown;simpa [C2] using this
 have hown3:∀ b,Go.Sx.own Fe₃ Fb₃ b->w.heap.size<=b∨∃ id,b∈Fb id:=λb hb=>by
  have:=st₃.new b hb;by_cases hlt:b<w₁.heap.size
  ·by_cases hx:Go.Sx.own Fe₁ Fb₁ b
   ·exact hown1 b hx
   ·exact absurd ⟨hlt,hx⟩ this
  ·left;omega
 -- the world behind the round
 have key:∀ j:Option Code,j=jmp e->∃ bx' Fb',bx'=M9 ids σ3.bx/\(w₃.putObj l (.loop { r with state:=if j.isNone then .ready else .done,pending:=j })).heap[l]? = some (.loop { r with state:=if j.isNone then .ready else .done,pending:=j }) /\
  Last C n a env0 ids ρ0 G1 sz l dd bx' Fb' O (w₃.putObj l (.loop { r with state:=if j.isNone then .ready else .done,pending:=j })) /\
  (∀ b,b<w.heap.size->(¬ ∃ id,b∈Fb id)->b≠l->(w₃.putObj l (.loop { r with state:=if j.isNone then .ready else .done,pending:=j })).heap[b]? = w.heap[b]?):=by
  intro j hj;generalize hw4:w₃.putObj l (.loop { r with state:=if j.isNone then .ready else .done,pending:=j })=w₄
  have h4l:w₄.heap[l]? = some (.loop { r with state:=if j.isNone then .ready else .done,pending:=j }):=by rw[<- hw4];exact World.putObj_heap_same hl3
  have h4o:∀ b,b≠l->w₄.heap[b]? = w₃.heap[b]?:=λb hb=>by rw[<- hw4];exact World.putObj_heap_other hb
  have h4s:w₄.heap.size=w₃.heap.size:=by rw[<- hw4];simp
  have hsame:∀ b,b<w.heap.size->(¬ ∃ id,b∈Fb id)->b≠l->w₄.heap[b]? = w.heap[b]?:=λb hb hn hbl=>by
   have hn1:¬ Go.Sx.own Fe₁ Fb₁ b:=λhc=>(hown1 b hc).elim (λh=>by omega) hn;rw[h4o b hbl,(st₃.kept b ⟨by omega,hn1⟩).1];show(w₁.putObj l _).heap[b]? = _;rw[World.putObj_heap_other hbl,(st₁.kept b ⟨hb,hn⟩).1]
  have hkeys:∀ id,(lk (M9 ids σ3.bx) id).isSome=N3 ids id:=λid=>by
   rw[l6];have hmm:K2 ids id=N3 ids id:=rfl;by_cases hm:N3 ids id=true
   ·rw[hmm,hm,u4 rfl];have:=(st₃.pin id (ρ0 id) (by simp[C2,hm])).2;exact this
   ·rw[hmm,w3 hm];simpa using hm
  have hG1:∀ b,G1 b->b<w.heap.size/\(¬ ∃ id,b∈Fb id)/\b≠l:=λb hb=>by
   have:=(h.G1_lt b hb).1;have:=h.size;exact⟨by omega,λ⟨id,hid⟩=>(h.own id b hid).2.2.1 hb,(h.G1_lt b hb).2.1⟩
  refine⟨M9 ids σ3.bx,λid=>if N3 ids id then Fb₃ id else[],rfl,h4l, ?_,hsame⟩;have hos:w₃.os=w.os:=st₃.os.trans st₁.os
  have htp:TpR w₃ w:=⟨st₃.tape.tp.trans st₁.tape.tp,u9 st₁.tape.dr st₃.tape.dr⟩
  have hou:w₃.output=w.output:=st₃.output.trans st₁.output;refine Last.mk hkeys hfrs (λt d0 hd0=>?_) (λid d0 hd0=>?_) (λid hid=>?_) (λid=>?_) (λid id' hne b hb hb'=>?_) (λid b hb=>?_) h.O_ge h.G1_lt (λb hb=>?_)
   (by rw[<- hw4];exact hos.trans h.os) (by rw[<- hw4];exact⟨htp.tp.trans h.tape.tp,u9 h.tape.dr htp.dr⟩) (by rw[<- hw4];exact hou.trans h.output) (by have:=h.size;omega) (by omega) (by have:=h.d_lt;omega) h.ld ?_
  ·obtain⟨v0,k1,k2⟩:=h.env t d0 hd0;refine⟨v0,k1,k2.mono (λb hb hl=>?_) (λb hb _=>hb) (λid hid=>⟨hid,rfl⟩)⟩;obtain⟨q1,q2,q3⟩:=hG1 b (hb.resolve_right (by simp));exact hsame b q1 q2 q3
  ·have hm:N3 ids id=true:=by rw[<- hkeys id,hd0];rfl
   rw[l6] at hd0;have hmm:K2 ids id=true:=hm;rw[u4 hmm] at hd0;obtain⟨dx,hdx,hf1,hf2⟩:=JY hfrs (show lk (M9 ids σ3.bx) id=some (.var d0) by rw[l6,u4 hmm];exact hd0);cases hdx;obtain⟨cs,e',F',k1,k2,k3⟩:=st₃.bx id _ hd0;have hρ:ρ₃ id=ρ0 id:=(st₃.pin id (ρ0 id) (by simp[C2,hm])).1;rw[hρ] at k1 k3
   have hnl:∀ b∈Fb₃ id,b≠l:=λb hb hbl=>by
    subst hbl;exact(hown3 b (.inr ⟨id,hb⟩)).elim (λh=>by omega) hlF
   refine⟨cs,e',F', ?_,k2.frsAll hf1 hf2 (λb hb _=>h4o b (hnl b (by rw[k3];exact j1 _ hb))),by simp only[hm,j9];exact k3⟩;rw[h4o _ (hnl _ (by rw[k3];simp))];exact k1
  ·have hm:¬ N3 ids id=true:=λhm=>by have:=hkeys id;rw[hid,hm] at this;cases this
   simp[hm]
  ·show(if N3 ids id then Fb₃ id else[]).Nodup;split
   ·exact st₃.nodB id
   ·exact w9
  ·have e1:b∈Fb₃ id:=by split at hb;exact hb;cases hb
   have e2:b∈Fb₃ id':=by split at hb';exact hb';cases hb'
   exact st₃.dBB id id' hne b e1 e2
  ·have e1:b∈Fb₃ id:=by split at hb;exact hb;cases hb
   have hlt:b<w₄.heap.size:=by rw[h4s];exact st₃.lt b (.inr ⟨id,e1⟩)
   rcases hown3 b (.inr ⟨id,e1⟩) with hge|⟨id0,hid0⟩
   ·refine⟨λhc=>?_,λhc=>?_,λhc=>?_, ?_, ?_,hlt⟩
    ·have:=(h.keep b hc).2.1;have:=h.size;omega
    ·have:=hO b hc;omega
    ·have:=(hG1 b hc).1;omega
    ·omega
    ·have:=h.d_lt;omega
   ·obtain⟨q1,q2,q3,q4,q5,q6⟩:=h.own id0 b hid0;exact⟨q1,q2,q3,q4,q5,hlt⟩
  ·obtain⟨q1,q2,q3,q4⟩:=h.keep b hb;have:=h.size;refine⟨?_,q2,q3,q4⟩;rw[hsame b (by omega) (λ⟨id,hid⟩=>(h.own id b hid).1 hb) q3];exact q1
  ·rw[hsame dd h.d_lt (λ⟨id,hid⟩=>(h.own id dd hid).2.2.2.2.1 rfl) (λhc=>h.ld hc.symm)];exact h.def_
 have fin:∀ j:Option Code,j=jmp e->∃ v' w',(Instr.endRound l j).run P w₃=.ok v' w'/\(∃ s,(Ending.returned v')=.returned (.bool (!s))/\∃ e bx' Fb',E e bx'/\s=(jmp e).isSome/\w'.heap[l]? = some (.loop { r with state:=if(jmp e).isNone then .ready else .done,pending:=jmp e }) /\
  Last C n a env0 ids ρ0 G1 sz l dd bx' Fb' O w'/\(∀ b,b<w.heap.size->(¬ ∃ id,b∈Fb id)->b≠l->w'.heap[b]? = w.heap[b]?)/\w.heap.size<=w'.heap.size):=by
  intro j hj;obtain⟨bx',Fb',hb',k1,k2,k3⟩:=key j hj;refine⟨_,_,run_endRound j hrec3,j.isSome,by cases j<;>rfl,e,bx',Fb',by rw[hb'];exact hEe,by rw[hj], ?_, ?_, ?_, ?_⟩
  ·rw[<- hj];exact k1
  ·exact k2
  ·exact k3
  ·simp;omega
 rcases hE e _ hEe with rfl|rfl|⟨id,rfl⟩
 ·exact fin none rfl
 ·exact fin (some .ret) rfl
 ·exact fin (some (.exit id)) rfl
def ZJ(dd:Nat):Deferred:={ target:=.collected dd,args:=#[] }
def Glw(gl:List (Nat×D))(W0:World)(G:Nat->Prop):Prop:=
 ∀ g d,(g,d)∈gl->g<W0.heap.size/\G g/\∃ cs e fz,W0.heap[g]? = some (.cells cs e fz)/\Rc W0 (λx=>x) (λ_=>False) (λ_=>False) false d cs.toList []
def Marks(W0:World)(C:Ctx):Bool->Prop
 | false=>C.df=[]
 | true=>∃ dds:List Nat,C.df=dds.map ZJ/\dds.Nodup/\∀ d∈dds,W0.heap.size<=d/\C.keep d/\C.w0.heap[d]? = some (.deferred (some []))/\¬ C.ok d
theorem Marks.l{W0:World}{m:Bool}(h:Marks W0 C m):∃ dds:List Nat,C.df=dds.map ZJ/\dds.Nodup/\∀ d∈dds,W0.heap.size<=d/\C.keep d/\C.w0.heap[d]? = some (.deferred (some []))/\¬ C.ok d:=by
 cases m with
 | false=>exact⟨[],h,w9,λ_ h=>by cases h⟩
 | true=>exact h
def PI(gl:List (Nat×D))(W0:World)(G:Nat->Prop):Rel gl Bool where
 ids:=[]
 r m C:=C.gl=gl/\C.rd=none/\(∀ id,C.pin id=none)/\(∀ b,b<W0.heap.size->C.keep b)/\Ext W0 C.w0/\(∀ b,C.ok b->G b∨W0.heap.size<=b) /\
  Marks W0 C m
 gl h:=h.1
 rd h:=h.2.1
 pin h:=λid b hp=>by rw[h.2.2.1 id] at hp;cases hp
section
variable{gl:List (Nat×D)}{W0:World}{G:Nat->Prop}{m:Bool}
theorem Last.finish{n:Nat}{env0:List (Nat×D)}{ids:List Nat}{G1:Nat->Prop}{sz l dd:Nat}{bx:List (Nat×Bx)}{O:Nat->Prop}(h:Last C n a env0 ids ρ G1 sz l dd bx Fb O w)(hsz:a.tmps.size=n)(hpe:ZE env0=true)
 (hk:∀ b,b<W0.heap.size->C.keep b) (hG1:∀ b,G1 b->G b∨W0.heap.size<=b) (hx:Ext W0 C.w0) (hdd:W0.heap.size<=dd)
 (hgl:Glw gl W0 G) (o:Obj) {dds:List Nat} (hnd:dds.Nodup) (hdds:∀ d∈dds,W0.heap.size<=d/\C.keep d/\C.w0.heap[d]? = some (.deferred (some []))) (hGd:∀ b,G1 b->b∉dds):AM (PI gl W0 G) (true,⟨n,env0,bx⟩) { a with defers:=(dd::dds).map ZJ } (w.putObj l o):=by
 have h4o:∀ b,b≠l->(w.putObj l o).heap[b]? = w.heap[b]?:=λb hb=>World.putObj_heap_other hb
 have hW0:∀ b,b<W0.heap.size->(w.putObj l o).heap[b]? = W0.heap[b]?:=λb hb=>by
  obtain⟨q1,q2,q3,q4⟩:=h.keep b (hk b hb);rw[h4o b q3,q1,hx.block b hb]
 have hd4:(w.putObj l o).heap[dd]? = some (.deferred (some [])):=by rw[h4o dd (λhc=>h.ld hc.symm)];exact h.def_
 have hddw:dd<(w.putObj l o).heap.size:=by rw[World.putObj_size];exact h.d_lt
 have hWs:W0.heap.size<=(w.putObj l o).heap.size:=u9 hdd (Nat.le_of_lt hddw)
 have hall:∀ d∈dd::dds,W0.heap.size<=d/\d<(w.putObj l o).heap.size/\(w.putObj l o).heap[d]? = some (.deferred (some [])):=λd hd=>by
  rcases w5.1 hd with rfl|hd
  ·exact⟨hdd,hddw,hd4⟩
  ·obtain⟨q1,q2,q3⟩:=hdds d hd;obtain⟨k1,k2,k3,k4⟩:=h.keep d q2;have:=h.size;exact⟨q1,by rw[World.putObj_size];omega,by rw[h4o d k3,k1,q3]⟩
 have hndd:(dd::dds).Nodup:=v3.2 ⟨λhc=>(h.keep dd (hdds dd hc).2.1).2.2.2 rfl,hnd⟩
 have hod:∀ b,¬ C.keep b->b≠dd->b∉dd::dds:=λb hb hn hc=>by
  rcases w5.1 hc with rfl|hc
  ·exact hn rfl
  ·exact hb (hdds b hc).2.1
 let C':Ctx:=⟨w.putObj l o,λb=>b<W0.heap.size∨b∈dd::dds,λb=>(G b∨W0.heap.size<=b)/\b∉dd::dds,gl,none,λ_=>none,(dd::dds).map ZJ⟩
 have hown:∀ b,Go.Sx.own (λ_=>[]) Fb b->∃ id,b∈Fb id:=by
  rintro b (⟨_,h⟩|h)
  ·cases h
  ·exact h
 refine⟨C',⟨rfl,rfl,λ_=>rfl,λb hb=>.inl hb,⟨h.os.trans hx.os,⟨h.tape.tp.trans hx.tape.tp,u9 hx.tape.dr h.tape.dr⟩,h.output.trans hx.output,hWs,hW0⟩,λb hb=>hb.1,⟨dd::dds,rfl,hndd,λd hd=>⟨(hall d hd).1,.inr hd,(hall d hd).2.2,λhc=>hc.2 hd⟩⟩⟩,ρ,λ_=>[],Fb, ?_⟩;refine StW.mk (by simpa using hsz) rfl (λ_ _ hp=>by cases hp) (λt x hx'=>?_) (λ_ _=>rfl) (λid x hx'=>?_) (λid hid=>h.boxN id hid) (λ_=>w9) h.nodB (λ_ _ _ _ h=>by cases h) (λ_ _ _ h=>by cases h) h.dBB
  (λb hb hc=>?_) (λb hb=>⟨rfl, ?_⟩) rfl ⟨rfl,z7 _⟩ rfl (z7 _) (λg d hg=>?_) (λb hb=>⟨.inr (u9 hWs hb),λhc=>by have:=(hall b hc).2.1;omega⟩) (λb hb=>?_)
 ·obtain⟨hp1,hp2⟩:=ZA hpe (show lk env0 t=some x from hx');obtain⟨v0,k1,k2⟩:=h.env t x hx';refine(c5 hp2).2 ⟨v0,k1,k2.mono (λb hb hl=>h4o b (h.G1_lt b (hb.resolve_right (by simp))).2.1) (λb hb hl=>⟨⟨hG1 b hb,λhc=>(w5.1 hc).elim (h.G1_lt b hb).2.2 (hGd b hb)⟩,λhc=>?_⟩) (λid hid=>⟨by show(lk bx id).isSome=true;rw[h.keys];exact hid,rfl⟩)⟩;obtain⟨id,hid⟩:=hown b hc;exact(h.own id b hid).2.2.1 hb
 ·obtain⟨d0,rfl,hf,hn0⟩:=JY h.frs (show lk bx id=some x from hx');obtain⟨cs,e,F',k1,k2,k3⟩:=h.box id d0 hx';have hnl:∀ b∈Fb id,b≠l:=λb hb=>(h.own id b hb).2.2.2.1;refine⟨cs,e,F', ?_,k2.frsAll hf hn0 (λb hb _=>h4o b (hnl b (by rw[k3];exact j1 _ hb))),k3⟩;rw[h4o _ (hnl _ (by rw[k3];simp))];exact k1
 ·obtain⟨id,hid⟩:=hown b hb;obtain⟨q1,_,_,_,q5,_⟩:=h.own id b hid
  rcases hc with hc|hc
  ·exact q1 (hk b hc)
  ·exact hod b q1 q5 hc
 ·rcases hb with hb|hb
  ·show b<(w.putObj l o).heap.size;omega
  ·exact(hall b hb).2.1
 ·obtain⟨q1,q2,cs,e,fz,q3,q4⟩:=hgl g d hg;refine⟨.inl q1,⟨.inl q2,λhc=>by have:=(hall g hc).1;omega⟩,cs,e,fz,(hW0 g q1).trans q3,q4.mono (λb hb _=>?_) (λ_ h=>h.elim) (λ_ h=>h.elim)⟩
  rcases hb with hb|hb
  ·exact hb.elim
  ·cases hb
 ·obtain⟨id,hid⟩:=hown b hb;obtain⟨q1,_,_,_,q5,_⟩:=h.own id b hid;exact⟨.inr (H4 (λhc=>q1 (hk b hc))),hod b q1 q5⟩
end
end
section
variable{P:Program}{C:Ctx}{σ σ' σ1:Sg}{a:Act}{w w':World}{ρ:Nat->Nat}{Fe Fe' Fb:Nat->List Nat}
variable{gl:List (Nat×D)}{W0:World}{G:Nat->Prop}
def x31(fn:FuncId)(tmps:Array Value)(p:Nat)(asg body:Code)(dd:Nat):Loop:=
 { state:=.ready,pending:=none,fn:=fn,tmps:=tmps,params:=#[p],assign:=asg,body:=body,defers:=dd }
theorem V.range{g p n:Nat}{asg body:Code}{env0:List (Nat×D)}{ids:List Nat}{f:FuncId}[hf:CaT P f]{xs:List D}{bxs:Nat->List (Nat×Bx)}{Stop:Exit->List (Nat×Bx)->Prop}(J:Nat->Prop)
 {Q:Exit->Bool×Sg->Prop} {m0:Bool} (hgl:Glw gl W0 G) (hI:Itr P gl f caps xs) (hg:lk env0 g=some (.fn f caps)) (hnp:∀ d∈caps,d.np=true) (hp:p<n) (hpe:ZE env0=true)
 (hkeys:∀ id,(lk (bxs 0) id).isSome=N3 ids id) (hf0:YQ (bxs 0)) (hxs:∀ k (h:k<xs.length),xs[k].pur=true/\xs[k].np=true)
 (hJ:J 0)
 (hround:∀ k (h:k<xs.length),J k->∀ C':Ctx,C'.gl=gl->(∀ id b,C'.pin id=some b->N3 ids id=true)->W P C' asg (λe σ'=>e=.normal/\∀ C':Ctx,C'.gl=gl->(∀ id b,C'.pin id=some b->N3 ids id=true) ->
  W P C' body (λe σ'=>(e=.normal/\(M9 ids σ'.bx=bxs (k+1)/\J (k+1))∨(e=.ret∨∃ id,e=.exit id)/\Stop e (M9 ids σ'.bx))/\YQ (M9 ids σ'.bx)) σ') ((⟨n,env0,bxs k⟩:Sg).set p xs[k]))
 (hN:J xs.length->Q .normal (true,⟨n,env0,bxs xs.length⟩)) (hS:∀ e bx,(e=.ret∨∃ id,e=.exit id)->Stop e bx->Q e (true,⟨n,env0,bx⟩)) :
 V P none (AM (PI gl W0 G)) (.rangeFunc (.tmp g) #[p] asg body) Q (m0,⟨n,env0,bxs 0⟩):=by
 intro a w ⟨C,⟨h1,h2,h3,h4,h5,h6,h7⟩,ρ,Fe,Fb,st⟩;have hlt:=st.lt
 have hpure:∀ t d,lk env0 t=some d->∃ v,a.tmps[t]? = some v/\VR w ρ (gd C Fe Fb) (λid=>N3 ids id=true) d v []:=by
  intro t d hd;obtain⟨hp1,hp2⟩:=ZA hpe hd;obtain⟨v,hv,hr⟩:=(c5 hp2).1 (st.env t d hd);have:=hr.pur hp1;rw[this] at hr;exact⟨v,hv,hr.mono (λ_ _ _=>rfl) (λ_ h _=>h) (λid hid=>⟨by rw[<- hkeys];exact hid,rfl⟩)⟩
 obtain⟨vg,hvg,hrg⟩:=hpure g _ hg;simp only[VR,D.isAgg,q7,q8] at hrg
 obtain⟨vs,rfl,hvl,hva,hvr⟩:∃ vs:List Value,vg=.func (.func f) #[] vs.toArray/\vs.length=caps.length/\(∀ k (h:k<caps.length),caps[k].isAgg=false)/\∀ k (h:k<caps.length),Rc w ρ (gd C Fe Fb) (λid=>N3 ids id=true) true caps[k] [vs.getD k undef] []:=by
  cases hrg;exact⟨_,rfl,‹_›,‹_›,‹_›⟩
 refine wpIn_rangeFunc λfn _=>?_
 let r0:=x31 fn a.tmps p asg body w.heap.size
 let w2:World:=(w.alloc (.deferred (some []))).alloc (.loop r0)
 have hw2:∀ b,b<w.heap.size->w2.heap[b]? = w.heap[b]?:=λb hb=>by
  show((w.heap.push _).push _)[b]? = _;rw[M6 (by simp;omega),Array.getElem_push_lt hb,O8 hb]
 have hw2d:w2.heap[w.heap.size]? = some (.deferred (some [])):=by
  show((w.heap.push _).push _)[w.heap.size]? = _;rw[M6 (by simp)];simp
 have hw2l:w2.heap[w.heap.size+1]? = some (.loop r0):=by
  show((w.heap.push (.deferred (some []))).push _)[w.heap.size+1]? = _
  have e:w.heap.size+1=(w.heap.push (Obj.deferred (some []))).size:=by simp
  rw[e,Array.getElem?_push_size]
 have hw2s:w2.heap.size=w.heap.size+2:=by
  show((w.heap.push _).push _).size=_;simp
 have hevg:a.eval (.tmp g)=.func (.func f) #[] vs.toArray:=Q3 hvg;obtain⟨ff,hff1,hff2,hff3⟩:=hf.i;refine⟨w.heap.size+1,[ZJ w.heap.size],w2,{ target:=.fn (.func f) vs.toArray,args:=#[.func (.yield (w.heap.size+1)) #[] #[]] },w2,f,#[.func (.yield (w.heap.size+1)) #[] #[]]++vs.toArray,w2, ?_, ?_,(λ_ _=>trivial), ?_,(λh=>by cases h), ?_⟩
 ·exact run_enterLoop_outer fn a.tmps #[p] asg body
 ·simp[resolve,rangeCall,hvg,Deferred.ofValue,Act.eval]
 ·simp[invoke,KT hff1 hff2 hff3]
 let sz:=w.heap.size
 let l:=w.heap.size+1
 let dd:=w.heap.size
 let G1:Nat->Prop:=λb=>gd C Fe Fb b/\b<w.heap.size
 let Y:Yt:=λk s O w'=>(s=false->(k<=xs.length/\J k)/\w'.heap[l]? = some (.loop r0)/\∃ Fb',Last C n a env0 ids ρ G1 sz l dd (bxs k) Fb' O w') /\
  (s=true->∃ e c bx Fb',(e=.ret∨∃ id,e=.exit id)/\Stop e bx/\jmp e=some c/\w'.heap[l]? = some (.loop { r0 with state:=.done,pending:=some c })/\Last C n a env0 ids ρ G1 sz l dd bx Fb' O w')
 have hkl:∀ b,C.keep b->b<w.heap.size:=λb hb=>u0 (st.kept b hb).2 st.grown
 have hz:∀ b,sz<=b->¬ C.keep b:=λb hb hc=>by have:=hkl b hc;have:sz=w.heap.size:=rfl;omega
 have hY:Stable Y:=by
  intro k s O O' w₁ w₂ ⟨y1,y2⟩ ha
  have hrec:∀ bx Fb' o,Last C n a env0 ids ρ G1 sz l dd bx Fb' O w₁->w₁.heap[l]? = some o->w₂.heap[l]? = some o:=λbx Fb' o hL ho=>by
   rw[ha.same l (j6.1 ho).1 (λhc=>(hL.O_ge l hc).2.1 rfl)];exact ho
  refine⟨λhs=>?_,λhs=>?_⟩
  ·obtain⟨q1,q2,Fb',q3⟩:=y1 hs;exact⟨q1,hrec _ _ _ q3 q2,Fb',q3.apart hz ha⟩
  ·obtain⟨e,c,bx,Fb',q1,q2,q3,q4,q5⟩:=y2 hs;exact⟨e,c,bx,Fb',q1,q2,q3,hrec _ _ _ q5 q4,q5.apart hz ha⟩
 have hgC:∀ g' d,(g',d)∈C.gl->C.keep g'/\G1 g'/\∃ cs e fz,C.w0.heap[g']? = some (.cells cs e fz)/\Rc C.w0 (λx=>x) (λ_=>False) (λ_=>False) false d cs.toList []:=λg' d hgd=>by
  obtain⟨q1,q2,q3⟩:=st.gl g' d hgd;exact⟨q1,⟨⟨q2,λho=>st.new g' ho q1⟩,hkl g' q1⟩,q3⟩
 have hL0:Last C n a env0 ids ρ G1 sz l dd (bxs 0) Fb (λ_=>False) w2:=by
  refine Last.mk hkeys hf0 (λt d hd=>?_) (λid d hd=>?_) (λid hid=>st.bxN id hid) st.nodB st.dBB (λid b hb=>?_) (λb hb=>hb.elim) (λb hb=>?_) (λb hb=>?_) st.os ⟨st.tape.tp,st.tape.dr⟩ st.output (by rw[hw2s];show w.heap.size<=_;omega) (by rw[hw2s];show w.heap.size+1<_;omega) (by rw[hw2s];show w.heap.size<_;omega) (by show w.heap.size+1≠w.heap.size;omega) hw2d
  ·obtain⟨v,q1,q2⟩:=hpure t d hd;exact⟨v,q1,q2.mono (λb hb hl=>hw2 b hl) (λb hb hl=>⟨hb,hl⟩) (λ_ h=>⟨h,rfl⟩)⟩
  ·obtain⟨d0,hd0,hfr,hn0⟩:=JY hf0 hd;cases hd0;obtain⟨cs,e,F',q1,q2,q3⟩:=st.bx id _ hd;have hbl:ρ id<w.heap.size:=(j6.1 q1).1;exact⟨cs,e,F',(hw2 _ hbl).trans q1,q2.frsAll hfr hn0 (λb hb hl=>hw2 b hl),q3⟩
  ·have hbl:b<w.heap.size:=hlt b (.inr ⟨id,hb⟩);exact⟨st.new b (.inr ⟨id,hb⟩),(λh=>h),(λhc=>hc.1.2 (.inr ⟨id,hb⟩)),by show b≠w.heap.size+1;omega,by show b≠w.heap.size;omega,by rw[hw2s];omega⟩
  ·have hbl:b<w.heap.size:=hb.2;exact⟨hb.2,by show b≠w.heap.size+1;omega,by show b≠w.heap.size;omega⟩
  ·have hbl:=hkl b hb;exact⟨(hw2 b hbl).trans (st.kept b hb).1,hbl,by show b≠w.heap.size+1;omega,by show b≠w.heap.size;omega⟩
 have hcalls:=hI w2 G1 vs l Y (λb hb=>by rw[hw2s];have:b<w.heap.size:=hb.2;omega) (λg' d hgd=>by
  obtain⟨q1,cs,e,fz,q2,q3⟩:=PD st g' d (by rw[h1];exact hgd);have hbl:=(j6.1 q2).1
  exact⟨⟨q1,hbl⟩,cs,e,fz,(hw2 g' hbl).trans q2,q3.mono (λb hb _=>by rcases hb with hb|hb;exact hb.elim;cases hb) (λ_ h=>h.elim) (λ_ h=>h.elim)⟩) hvl (λk hk=>by
  have hn:=hnp _ (g6 hk)
  have hv:VR w ρ (gd C Fe Fb) (λid=>N3 ids id=true) caps[k] (vs.getD k undef) []:=by
   simp only[VR,hva k hk,q7,q8];exact hvr k hk
  exact(hv.noL (ρ':=λx=>x) (L':=λ_=>False) hn).mono (λb hb hl=>hw2 b hl) (λb hb hl=>⟨hb,hl⟩) (λ_ h=>h.elim)) hY
  (λk O w₁ v hk hYk hO hv=>by
   obtain⟨⟨_,hJk⟩,hrec,Fb',hL⟩:=hYk.1 rfl;have ha:=hround k hk hJk;have hround':=hL.round (r:=r0) hrec rfl rfl rfl rfl rfl st.size hO hp hv (hxs k hk).1 (hxs k hk).2 hpe hgC (E:=λe bx'=>e=.normal/\(bx'=bxs (k+1)/\J (k+1))∨(e=.ret∨∃ id,e=.exit id)/\Stop e bx')
    (λC' hC' hD'=>(ha C' (hC'.trans h1) hD').mono (λe s h=>⟨h.1,λC'' hC'' hD''=>h.2 C'' (hC''.trans h1) hD''⟩)) (λe bx' he=>he.elim (λh=>.inl h.1) (λh=>.inr h.1))
   obtain⟨f',tm,as',bd,hrun,hR⟩:=hround';refine⟨f',tm,as',bd,hrun,hR.mono ?_⟩;rintro e' w₂ ⟨s,he',e,bx',Fb'',hE,hs,hrec',hL',hsame,hsz⟩;refine⟨s,he', ?_,λb hb hl=>?_,hsz⟩
   ·rcases hE with ⟨rfl,rfl,hJ1⟩|⟨hee,hst⟩
    ·have:s=false:=hs;subst this;exact⟨λ_=>⟨⟨hk,hJ1⟩,hrec',Fb'',hL'⟩,λh=>by cases h⟩
    ·obtain⟨c,hc⟩:∃ c,jmp e=some c:=by rcases hee with rfl|⟨id,rfl⟩<;>exact⟨_,rfl⟩
     rw[hc] at hs hrec';have:s=true:=hs;subst this;exact⟨λh=>(by cases h),λ_=>⟨e,c,bx',Fb'',hee,hst,hc,hrec',hL'⟩⟩
   ·refine hsame b hl (λ⟨id,hid⟩=>?_) (λhbl=>?_)
    ·obtain⟨q1,q2,q3,q4,q5,q6⟩:=hL.own id b hid;exact hb.elim q3 q2
    ·rcases hb with hb|hb
     ·exact(hL.G1_lt b hb).2.1 hbl
     ·exact(hL.O_ge b hb).2.1 hbl)
  ⟨λ_=>⟨⟨g9 _,hJ⟩,hw2l,Fb,hL0⟩,λh=>by cases h⟩
 refine callsIn_wide.2 (Calls.mono hcalls ?_);rintro e w₃ ⟨⟨v,rfl⟩,k,s,O,hYk,hend⟩;obtain⟨dds,hd1,hd2,hd3⟩:=h7.l
 have hdfs:a.defers=dds.map ZJ:=by rw[st.defs,hd1]
 have hfin:∀ bx Fb' (o:Obj),Last C n a env0 ids ρ G1 sz l dd bx Fb' O w₃->AM (PI gl W0 G) (true,⟨n,env0,bx⟩) { a with defers:=[ZJ w.heap.size]++a.defers } (w₃.putObj l o):=λbx Fb' o hL=>by
  rw[hdfs];exact hL.finish st.size hpe h4 (λb hb=>h6 b hb.1.1) h5 (u9 h5.size st.grown) hgl o hd2 (λd hd=>⟨(hd3 d hd).1,(hd3 d hd).2.1,(hd3 d hd).2.2.1⟩) (λb hb hc=>(hd3 b hc).2.2.2 hb.1.1)
 cases s with
 | false=>
  have hke:k=xs.length:=hend.resolve_left (by simp);subst hke;obtain⟨⟨_,hJk⟩,hrec,Fb',hL⟩:=hYk.1 rfl;refine⟨_,_,run_endLoop hrec (by simp[r0,x31]), ?_⟩;exact⟨_,hfin _ Fb' _ hL,hN hJk⟩
 | true=>
  obtain⟨e,c,bx,Fb',hee,hst,hc,hrec,hL⟩:=hYk.2 rfl;refine⟨_,_,run_endLoop hrec (by simp), ?_⟩
  rcases hee with rfl|⟨id,rfl⟩
  ·cases hc;exact wpIn_ret ⟨_,hfin _ Fb' _ hL,hS _ _ (.inl rfl) hst⟩
  ·cases hc;exact wpIn_exit ⟨_,hfin _ Fb' _ hL,hS _ _ (.inr ⟨_,rfl⟩) hst⟩
theorem j83{f:FuncId}{fn:Func}{c:Code}{ds:List D}{r:D}{n:Nat}(hf:P.funcs[f]? = some fn)(hb:fn.body=some c)(hnn:fn.ntmps=n)
 (hd:ds.all (λd=>!d.isRef)=true) (hn:ds.length<=n)
 (h:∀ (W0:World) (G:Nat->Prop),Glw gl W0 G->V P none (AM (PI gl W0 G)) c (λe i=>Ends fn.results.toList P r e i.2) (false,⟨n,ini 0 ds,[]⟩)):Fn P gl f ds r:=by
 subst hnn;intro w G vs hgl hl hv;refine callsIn_wide.1 (callsIn_of_wp_marks (n:=3) hf hb trivial ?_)
 have hglw:Glw gl w G:=λg d hg=>by
  obtain⟨h1,cs,e,fz,h2,h3⟩:=hgl g d hg;exact⟨(j6.1 h2).1,h1,cs,e,fz,h2,h3⟩
 let C:Ctx:=⟨w,λb=>b<w.heap.size,λb=>G b∨w.heap.size<=b,gl,none,λ_=>none,[]⟩
 have hget:∀ t d,(⟨fn.ntmps,ini 0 ds,[]⟩:Sg).get t=some d->∃ h:t<ds.length,ds[t]=d:=by
  intro t d hd;simp only[Sg.get,OH,g9,j9,O7] at hd;obtain⟨h,e⟩:=z8.1 hd;exact⟨h,e⟩
 have hown:∀ b,¬ own (λ_=>[]) (λ_=>[]) b:=by rintro b (⟨_,h⟩|⟨_,h⟩)<;>cases h
 have st:StW C ⟨fn.ntmps,ini 0 ds,[]⟩ { tmps:=vs.toArray++Array.replicate (fn.ntmps-vs.toArray.size) undef,defers:=[] } w (λx=>x) (λ_=>[]) (λ_=>[]):=by
  refine⟨?_,rfl,(λ_ _ hp=>by cases hp), ?_,λ_ _=>rfl, ?_,λ_ _=>rfl,λ_=>w9,λ_=>w9,(λ_ _ _ _ h=>by cases h),(λ_ _ _ h=>by cases h),(λ_ _ _ _ h=>by cases h),λb hb=>absurd hb (hown b), ?_,rfl,⟨rfl,z7 _⟩,rfl,z7 _, ?_,λb hb=>.inr hb,λb hb=>absurd hb (hown b)⟩
  ·simp[hl];omega
  ·intro t d hd';obtain⟨ht,rfl⟩:=hget t d hd'
   have hr:ds[t].isRef=false:=by
    have:=o8.1 hd ds[t] (g6 ht);simpa using this
   refine(c5 hr).2 ⟨vs.getD t undef, ?_,(hv t ht).mono (λ_ _ _=>rfl) (λb hb _=>⟨.inl hb,hown b⟩) (λid hid=>hid.elim)⟩
   have htv:t<vs.length:=by omega
   rw[X2 (by simpa using htv)];simp[htv]
  ·intro id d hd';cases hd'
  ·intro b hb;exact⟨rfl,hb⟩
  ·intro g d hg;obtain⟨h1,cs,e,fz,h2,h3⟩:=hgl g d hg;exact⟨(j6.1 h2).1,.inl h1,cs,e,fz,h2,h3⟩
 have hstart:AM (PI gl w G) (false,⟨fn.ntmps,ini 0 ds,[]⟩) { tmps:=vs.toArray++Array.replicate (fn.ntmps-vs.toArray.size) undef,defers:=[] } w:=
  ⟨C,⟨rfl,rfl,λ_=>rfl,λb hb=>hb,⟨rfl,⟨rfl,z7 _⟩,rfl,z7 _,λ_ _=>rfl⟩,λb hb=>hb,rfl⟩,_,_,_,st⟩
 refine J4 ?_ (h w G hglw _ w hstart);rintro e a' w' ⟨⟨m,σ'⟩,⟨C',⟨h1,h2,h3,h4,h5,h6,h7⟩,ρ,Fe,Fb,st'⟩,hends⟩;have he:=hends.1;obtain⟨dds,hd1,hd2,hd3⟩:=h7.l
 have main:∀ (ds:List Nat) (w₂:World) (C2:Ctx),C2.ok=C'.ok->StW C2 σ' a' w₂ ρ Fe Fb->ds.Nodup->(∀ d∈ds,w.heap.size<=d/\w₂.heap[d]? = some (.deferred (some []))/\¬ C'.ok d)->Ext w w₂ ->
  LeavesInM (Fr none) 3 P fn a'.tmps (λe w'=>∃ v F,e=.returned v/\Ext w w'/\F.Nodup/\(∀ b∈F,w.heap.size<=b) /\
   RV w' (λx=>x) (λb=>(G b∨w.heap.size<=b)/\b∉F) (λ_=>False) r v F) (ds.map ZJ) .returning w₂:=by
  intro ds
  induction ds with
  | nil=>
   intro w₂ C2 hok st2 _ _ hx;obtain⟨v,k1,F,k2,k3,k4⟩:=Ends.out st2 hends;exact⟨v,k1,v,F,rfl,hx,k2,λb hb=>H4 (λhc=>st'.new b (k3 b hb) (h4 b hc)),k4.mono (λ_ _ _=>rfl) (λb hb _=>⟨h6 b (by rw[<- hok];exact hb.1),hb.2⟩) (λ_ h=>h.elim)⟩
  | cons d ds ih=>
   intro w₂ C2 hok st2 hnd hall hx;obtain⟨q1,q2,q3⟩:=hall d (by simp);have hput:∀ b,b≠d->(w₂.putObj d (.deferred none)).heap[b]? = w₂.heap[b]?:=λb hb=>World.putObj_heap_other hb
   let C3:Ctx:=⟨w₂.putObj d (.deferred none),λ_=>False,C'.ok,[],none,C2.pin,C2.df⟩
   have st3:StW C3 σ' a' (w₂.putObj d (.deferred none)) ρ Fe Fb:=by
    refine st2.rebase C3 rfl rfl (λb hb hl=>hput b (λhc=>?_)) (λb hb _=>by rw[<- hok];exact hb.1) (λb hb hc=>hc) (λb hb=>hb.elim) rfl ⟨rfl,z7 _⟩ rfl (z7 _) (λg d hg=>by cases hg) (λb hb=>by show C'.ok b;rw[<- hok];exact st2.okN b (by rw[World.putObj_size] at hb;exact hb)) (λb hb=>by show C'.ok b;rw[<- hok];exact st2.okO b hb);subst hc;exact q3 (hb.elim (λh=>by rw[<- hok];exact h.1) (λh=>by rw[<- hok];exact st2.okO _ h))
   obtain⟨n1,n2⟩:=v3.1 hnd;refine⟨by simp,.inl ⟨d,_,rfl,run_takeDeferred q2,ih _ C3 rfl st3 n2 (λd' hd'=>?_) ⟨hx.os,⟨hx.tape.tp,hx.tape.dr⟩,hx.output,by rw[World.putObj_size];exact hx.size,λb hb=>by rw[hput b (by omega),hx.block b hb]⟩⟩⟩;obtain⟨p1,p2,p3⟩:=hall d' (by simp[hd']);exact⟨p1,by rw[hput d' (λhc=>n1 (hc▸hd'))];exact p2,p3⟩
 have hleave:=main dds w' C' rfl st' hd2 (λd hd=>⟨(hd3 d hd).1,by rw[(st'.kept d (hd3 d hd).2.1).1];exact(hd3 d hd).2.2.1,(hd3 d hd).2.2.2⟩) ⟨st'.os.trans h5.os,st'.tape.trans h5.tape,st'.output.trans h5.output,u9 h5.size st'.grown,λb hb=>by rw[(st'.kept b (h4 b hb)).1,h5.block b hb]⟩
 have hdf:a'.defers=dds.map ZJ:=by rw[st'.defs,hd1]
 rw[<- hdf] at hleave
 rcases he with rfl|rfl<;>exact hleave
theorem v39{c:Code}{Q:Exit->Bool×Sg->Prop}(h:V P none (AM (PI gl W0 G)) c Q (true,σ)):V P none (AM (PI gl W0 G)) c Q (false,σ):=by
 intro a w ⟨C,⟨h1,h2,h3,h4,h5,h6,h7⟩,hs⟩;exact h a w ⟨C,⟨h1,h2,h3,h4,h5,h6,h7.l⟩,hs⟩
end
section
variable{pos:String}{aft:Array Edge}{g:Option (Nat×Bool)}
variable{P:Program}{C:Ctx}{σ σ' σ1:Sg}{a:Act}{w w':World}{ρ:Nat->Nat}{Fe Fe' Fb:Nat->List Nat}
theorem R.ext{s t k:Nat}{ds:List D}{d:D}
 (h:σ.get s=some (.tup ds)) (hk:ds[k]? = some d) (hp:d.pur=true) (ht:t<σ.n):OpS P C ⟨some t,.extract (.tmp s) k,rt,pos,aft,g⟩ σ (σ.set t d):=by
 refine OpS.value λa w ⟨ρ,Fe,Fb,st⟩=>?_;obtain⟨vs,Fs,h1,h2,h3,h4⟩:=st.env s _ h;obtain⟨hkl,hkd⟩:=z8.1 hk
 rcases h4 k hkl with ⟨h5,_⟩|⟨h5,h6⟩
 ·rw[hkd] at h5;subst h5;simp[D.pur] at hp
 ·rw[hkd] at h5 h6;have hF:=h6.pur hp;rw[hF] at h6
  have hv:vs[k]? = some (vs.getD k undef):=by
   have:k<vs.length:=by omega
   rw[K8,j8 this];rfl
  refine⟨vs.getD k undef,w, ?_,st.put ht h5 h6⟩;generalize vs.getD k undef=x at hv
  have hx:vs.toArray[k]? = some x:=by rw[H0];exact hv
  unfold execOp;simp only[Instr.extract,Q3 h1,hx,Sem.run_bind,Sem.run_pure,Result.andThen_ok]
theorem R.movT{s t:Nat}{ds:List D}
 (h:σ.get s=some (.tup ds)) (hp:HF ds=true) (ht:t<σ.n):OpS P C ⟨some t,.move (.tmp s),rt,pos,aft,g⟩ σ (σ.set t (.tup ds)):=by
 refine OpS.value λa w ⟨ρ,Fe,Fb,st⟩=>?_;obtain⟨vs,Fs,h1,h2,h3,h4⟩:=st.env s _ h;refine⟨_,w,rfl,st.putRef ht ?_⟩;rw[Q3 h1];refine⟨vs,λ_=>[], ?_,h2, ?_,λk hk=>?_⟩
 ·rw[Y0 a t _ t (by rw[st.size];exact ht)];simp
 ·symm;rw[J0];intros;rfl
 ·have hpk:=NP ds hp k hk
  rcases h4 k hk with ⟨h5,_⟩|⟨h5,h6⟩
  ·rw[h5] at hpk;simp[D.pur] at hpk
  ·have hF:=h6.pur hpk;rw[hF] at h6;exact .inr ⟨h5,h6.mono (λ_ _ _=>rfl) (λb hb _=>⟨hb.1,λho=>hb.2 (MX ho)⟩) (λid hid=>⟨hid,rfl⟩)⟩
theorem R.mkfn{t f:Nat}{xs:List Operand}{ds:List D}(hl:xs.length=ds.length)
 (h:∀ k (h:k<xs.length) (h':k<ds.length),ev C.gl σ xs[k]=some ds[k]/\ds[k].pur=true/\ds[k].isAgg=false) (ht:t<σ.n) :
 OpS P C ⟨some t,.makeFunc (.func f) #[] xs.toArray,rt,pos,aft,g⟩ σ (σ.set t (.fn f ds)):=by
 refine OpS.value λa w ⟨ρ,Fe,Fb,st⟩=>?_;refine⟨.func (.func f) #[] (xs.map a.eval).toArray,w, ?_,st.put ht rfl ?_⟩
 ·unfold execOp;simp[Instr.makeFunc]
 ·simp only[VR,D.isAgg,q7,q8];refine .fn f ds (xs.map a.eval) (by simp[hl]) (λk hk=>(h k (by omega) hk).2.2) (λk hk=>?_);obtain⟨h1,h2,h3⟩:=h k (by omega) hk;obtain⟨F,hv,_⟩:=H5 st h1 (D9 h2);have hF:=hv.pur h2;rw[hF] at hv;simp only[VR,h3,q7,q8] at hv
  have e:(xs.map a.eval).getD k undef=a.eval xs[k]:=by
   have:k<xs.length:=by omega
   simp[K8,this]
  rw[e];exact hv
theorem w11{t f:Nat}{x:Operand}{d:D}(h:ev C.gl σ x=some d)(hp:d.pur=true)(ha:d.isAgg=false)(ht:t<σ.n) :
 OpS P C ⟨some t,.makeFunc (.func f) #[] #[x],rt,pos,aft,g⟩ σ (σ.set t (.fn f [d])):=by
 refine R.mkfn (xs:=[x]) rfl (λk h1 h2=>?_) ht
 have:k=0:=by simp at h1;omega
 subst this;exact⟨h,hp,ha⟩
theorem z19{s:Nat}{d d':D}(h:σ.get s=some d)(hr:d.isRef=false)(he:d.brw=d')(hs:St C σ a w):St C (σ.upd s d') a w:=by
 obtain⟨ρ,Fe,Fb,st⟩:=hs;subst he;obtain⟨v,hv,hvr⟩:=(c5 hr).1 (st.env _ _ h);refine⟨ρ,_,Fb,st.turn (F:=[]) h rfl ⟨rfl,z7 _⟩ rfl (z7 _) (λ_ _ _=>rfl) w9 (by simp) ((c5 (by rw[BG];exact hr)).2 ⟨v,hv, ?_⟩)⟩
 have hno:∀ b,Go.Sx.own (Go.Sx.upd Fe s []) Fb b->Go.Sx.own Fe Fb b/\b∉Fe s:=by
  rintro b (⟨u,hu⟩|⟨i,hi⟩)
  ·by_cases hus:u=s
   ·subst hus;simp at hu
   ·rw[j2 hus] at hu;exact⟨.inl ⟨u,hu⟩,st.dEE u s hus b hu⟩
  ·exact⟨.inr ⟨i,hi⟩,λhm=>st.dEB s i b hm hi⟩
 exact hvr.brw (λb hb=>⟨st.okO b (.inl ⟨s,hb⟩),λho=>(hno b ho).2 hb⟩) (λb hb _=>⟨hb.1,λho=>hb.2 (hno b ho).1⟩)
theorem HA{c:Code}{s:Nat}{d d':D}(h:σ.get s=some d)(hr:d.isRef=false)(he:d.brw=d')(k:W P C c Q (σ.upd s d')):W P C c Q σ:=
 λa w hs=>k a w (z19 h hr he hs)
def j26(id:Nat)(d:D)(x:D):D:=
 match x with
 | .ptr i 0 []=>bif Nat.beq i id then .rp d else .ptr i 0 []
 | x=>x
def q20(id:Nat)(d:D):List (Nat×D)->List (Nat×D)
 | []=>[]
 | (k,x)::r=>(k,j26 id d x)::q20 id d r
theorem MC(id:Nat)(d:D)(l:List (Nat×D))(u:Nat):lk (q20 id d l) u=(lk l u).map (j26 id d):=by
 induction l with
 | nil=>rfl
 | cons x r ih=>
  obtain⟨k,x⟩:=x;simp only[q20,U2,ih]
  split<;>rfl
theorem OO(id:Nat)(d x:D):(x=.ptr id 0 []/\j26 id d x=.rp d)∨j26 id d x=x:=by
 unfold j26;split
 ·rename_i i;by_cases hi:i=id
  ·subst hi;exact .inl ⟨rfl,by simp⟩
  ·right;simp[nbeq hi]
 ·exact .inr rfl
theorem w05{id:Nat}{d d':D}{ids:List Nat}(hb0:σ.box id=some (.var d))(he:d.brw=d')(hnp:d'.np=true)(hid:K2 ids id=false)(hb:M9 ids σ.bx=bx')
 (hE:q20 id d' σ.env=env') (hoE:QG ids env'=true) (hoB:PL ids bx'=true) (hpn:∀ id b,C.pin id=some b->K2 ids id=true) (hs:St C σ a w):St C ⟨σ.n,env',bx'⟩ a w:=by
 obtain⟨ρ,Fe,Fb,st⟩:=hs
 have hl:∀ u,lk bx' u=if K2 ids u then σ.box u else none:=λu=>by rw[<- hb];exact l6 ids σ.bx u
 have hsub:∀ id,∀ b∈(if K2 ids id then Fb id else[]),b∈Fb id:=λid b hm=>by split at hm;exact hm;cases hm
 have hown:∀ b,own Fe (λid=>if K2 ids id then Fb id else[]) b->own Fe Fb b:=λb hb=>hb.imp (λh=>h) λ⟨i,hi⟩=>⟨i,hsub i b hi⟩
 have hgd:∀ b,gd C Fe Fb b->gd C Fe (λid=>if K2 ids id then Fb id else[]) b:=λb hb=>⟨hb.1,λhc=>hb.2 (hown b hc)⟩
 have hgd2:∀ b∈Fb id,gd C Fe (λid=>if K2 ids id then Fb id else[]) b:=λb hb=>⟨st.okO b (.inr ⟨id,hb⟩),by
  rintro (⟨u,hu⟩|⟨i,hi⟩)
  ·exact st.dEB u id b hu hb
  ·by_cases hii:i=id
   ·subst hii;simp[hid] at hi
   ·exact st.dBB i id hii b (hsub i b hi) hb⟩
 have hL:∀ i,(K2 ids i=true/\(σ.box i).isSome)->(lk bx' i).isSome:=λi ⟨h1,h2⟩=>by rw[hl,u4 h1];exact h2
 refine⟨ρ,Fe,(λid=>if K2 ids id then Fb id else[]),{
  size:=st.size
  defs:=st.defs
  pin:=λid b hp=>⟨(st.pin id b hp).1,hL id ⟨hpn id b hp,(st.pin id b hp).2⟩⟩
  env:=λt x hx=>?_
  envN:=λt ht=>?_
  bx:=λi b hd=>?_
  bxN:=λi hn=>?_
  nodE:=st.nodE
  nodB:=λid=>by show(if K2 ids id then Fb id else[]).Nodup;split;exact st.nodB id;exact w9
  dEE:=st.dEE
  dEB:=λt i b hb hm=>st.dEB t i b hb (hsub i b hm)
  dBB:=λi i' hne b hb hm=>st.dBB i i' hne b (hsub i b hb) (hsub i' b hm)
  new:=λb hb=>st.new b (hown b hb)
  kept:=st.kept
  os:=st.os
  tape:=⟨st.tape.tp,st.tape.dr⟩
  output:=st.output
  grown:=st.grown
  gl:=st.gl
  okN:=st.okN
  okO:=λb hb=>st.okO b (hown b hb) }⟩
 ·have hx0:lk env' t=some x:=hx;have hok:=QY hoE hx0;rw[<- hE,MC,p9] at hx0;obtain⟨x0,hx1,hx2⟩:=hx0
  rcases OO id d' x0 with ⟨rfl,hf⟩|hf
  ·rw[hf] at hx2;subst hx2;obtain⟨v,hv,hr⟩:=(c5 rfl).1 (st.env t _ hx1);refine(c5 rfl).2 ⟨v,hv, ?_⟩;simp only[VR,D.isAgg,q7,q8] at hr ⊢;generalize Fe t=F at hr ⊢;cases hr;obtain⟨cs,e,F',q1,q2,q3⟩:=st.bx id _ hb0;have h4:=q2.brw (G':=gd C Fe (λid=>if K2 ids id then Fb id else[])) (λb hb=>hgd2 b (by rw[q3];exact j1 _ hb)) (λb hb _=>hgd b hb);have hlen:=q2.len;rw[he] at h4
   have hsz:d'.sz=d.sz:=by rw[<- he,CL]
   refine .rp d' (ρ id) 0 cs e (0,0) q1 (hgd2 _ (by rw[q3];simp)) (by rw[hsz];simp at hlen;omega) ?_
   have hcs:(cs.toList.drop 0).take d'.sz=cs.toList:=by rw[hsz,<- hlen,K5];exact J9
   rw[hcs];exact(h4.unflag hnp).noL
  ·rw[hf] at hx2;subst hx2;exact(st.env t _ hx1).okB hok (λb hb _=>hgd b hb) hL
 ·have ht':lk env' t=none:=ht;rw[<- hE,MC,n3] at ht';exact st.envN t ht'
 ·obtain⟨x,rfl,hok⟩:=NA hoB hd;have h1:=hl i;by_cases hm:K2 ids i=true
  ·rw[u4 hm] at h1
   have h2:σ.box i=some (.var x):=by rw[<- h1];exact hd
   obtain⟨cs,e,F',h3,h4,h5⟩:=st.bx i _ h2;refine⟨cs,e,F',h3,(h4.okB hok).mono (λ_ _ _=>rfl) (λb hb _=>hgd b hb) (λi hi=>⟨hL i hi,rfl⟩),by simp only[hm,j9];exact h5⟩
  ·rw[w3 hm] at h1;rw[show lk bx' i=some (.var x) from hd] at h1;cases h1
 ·have h1:=hl i;by_cases hm:K2 ids i=true
  ·rw[u4 hm] at h1;simp only[hm,j9];exact st.bxN i (by rw[<- h1];exact hn)
  ·simp[hm]
theorem u17{c:Code}(id:Nat){d d':D}(ids:List Nat)(hb0:σ.box id=some (.var d))(he:d.brw=d')(hnp:d'.np=true)(hid:K2 ids id=false)(hb:M9 ids σ.bx=bx')
 (hE:q20 id d' σ.env=env') (hoE:QG ids env'=true) (hoB:PL ids bx'=true) (hpn:∀ id b,C.pin id=some b->K2 ids id=true) (h:W P C c Q ⟨σ.n,env',bx'⟩):W P C c Q σ:=
 λa w hs=>h a w (w05 hb0 he hnp hid hb hE hoE hoB hpn hs)
def D.brwR:D->D
 | .tup ds=>.tup (ds.map D.brw)
 | d=>d.brw
theorem RV.brwR{G:Nat->Prop}{r:D}{v:Value}(h:RV w ρ G L r v F)(hF:∀ b∈F,G' b)(hG:∀ b,G b->b<w.heap.size->G' b):RV w ρ G' L r.brwR v []:=by
 cases r with
 | tup ds=>
  obtain⟨vs,Fs,h1,h2,h3,h4⟩:=h;refine⟨vs,λ_=>[],h1,by simp[h2], ?_,λk hk=>?_⟩
  ·symm;rw[J0];intros;rfl
  ·have hk':k<ds.length:=by simpa using hk
   obtain⟨h5,h6⟩:=h4 k hk'
   have e:(ds.map D.brw)[k]=ds[k].brw:=by simp
   rw[e];exact⟨by rw[BG];exact h5,h6.brw (λb hb=>hF b (by rw[h3];exact w8.2 ⟨k,j7.2 hk',hb⟩)) hG⟩
 | _=>
  have h1:=h.1;have h2:=(CB h1).1 h;exact(CB (by rw[D.brwR,BG];exact h1;all_goals (intro ds hc;cases hc))).2 (by rw[D.brwR];exact h2.brw hF hG;all_goals (intro ds hc;cases hc))
theorem R.callZ{f:FuncId}[CaT P f]{t:Nat}{gl:List (Nat×D)}{ds:List D}{r:D}
 (hF:Fn P gl f ds r) (hgl:C.gl=gl) (hb:Bors C.gl σ args ds) (hr:FrsR r) (hr':r.brwR=r') (ht:t<σ.n) :
 OpS P C ⟨some t,.call { callee:=.value (.func f),args:=args.toArray,argTypes:=tys },rt,pos,aft,g⟩ σ (σ.set t r'):=by
 subst hgl;subst hr';intro a w ⟨ρ,Fe,Fb,st⟩ K Q hK;refine O0 (DK a w) (by simp) ?_;rw[Oper.uponIn_enter]
 have hc:=hF w (λb=>b<w.heap.size) (args.map a.eval) (λg d hg=>by
  obtain⟨_,cs,e,fz,h1,h2⟩:=PD st g d hg
  exact⟨(j6.1 h1).1,cs,e,fz,h1,h2⟩) (by simp[hb.len]) (hb.ok st)
 simp only[A9];refine⟨(λh=>by cases h),(JL (Calls.mono hc ?_))⟩;rintro e w' ⟨v,F,rfl,hext,hnd,hnew,hv⟩;have hlt:=st.lt
 have hput:(a.put (some t) v).tmps[t]? = some v:=by rw[Y0 a t v t (by rw[st.size];exact ht)];simp
 refine hK _ _ ⟨ρ,upd Fe t [],Fb,st.ext ht hext w9 (by simp) (CP ?_ hput)⟩
 have h0:RV w' ρ (λ_=>False) (λid=>(σ.box id).isSome) r v F:=by
  refine hv.map Frs hr (λd v F' hF' hd hx=>?_);have h1:=hx.frs (G':=λ_=>False) hd;exact h1.mono (λ_ _ _=>rfl) (λb hb _=>hb.elim) (λid hid=>hid.elim)
 exact h0.brwR (λb hb=>⟨st.okN b (hnew b hb),λho=>by have:=hlt b (MX ho);have:=hnew b hb;omega⟩) (λ_ h _=>h.elim)
theorem j75{id t e z:Nat}{l:List D}(h:σ.get t=some (.alb id 0 []))(hb:σ.box id=some (.var (.sl (some e) z l)))(hs:St C σ a w) :
 St C ((σ.putB id (.var .dead)).upd t (.sl (some e) z l)) a w:=by
 obtain⟨ρ,Fe,Fb,st⟩:=hs;obtain⟨hFt,hid,v,hv,hcell⟩:=st.env t _ h;obtain⟨cs,e0,F',q1,q2,q3⟩:=st.bx id _ hb;have hlen:=q2.len
 obtain⟨v0,hv0⟩:∃ v0,cs.toList=[v0]:=by
  have:cs.toList.length=1:=hlen
  match hcs:cs.toList,this with
  | [x],_=>exact⟨x,rfl⟩
 have hvv:v0=v:=by
  have:cs[0]? = some v0:=by rw[<- Array.getElem?_toList,hv0];rfl
  simp only[World.cell?,q1] at hcell;rw[this] at hcell;cases hcell;rfl
 subst hvv
 have hnd:(ρ id::F').Nodup:=by have:=st.nodB id;rw[q3] at this;exact this
 have hmem:∀ b,b∈F'->b∈Fb id:=λb hb=>by rw[q3];exact j1 _ hb
 have hin:ρ id∈Fb id:=by rw[q3];simp
 have hot:∀ b,own (upd Fe t F') (upd Fb id [ρ id]) b->own Fe Fb b:=by
  rintro b (⟨u,hu⟩|⟨i,hi⟩)
  ·by_cases hut:u=t
   ·subst hut;rw[c7] at hu;exact .inr ⟨id,hmem b hu⟩
   ·rw[j2 hut] at hu;exact .inl ⟨u,hu⟩
  ·by_cases hii:i=id
   ·subst hii;rw[c7] at hi;simp at hi;subst hi;exact .inr ⟨i,hin⟩
   ·rw[j2 hii] at hi;exact .inr ⟨i,hi⟩
 have hg:∀ b,gd C Fe Fb b->gd C (upd Fe t F') (upd Fb id [ρ id]) b:=λb hb=>⟨hb.1,λhc=>hb.2 (hot b hc)⟩
 have hbox:∀ i,((σ.putB id (.var .dead)).upd t (.sl (some e) z l)).box i=if i=id then some (.var .dead) else σ.box i:=λi=>by
  rw[q98,UK];by_cases hi:i=id
  ·subst hi;simp[hb]
  ·simp[hi]
 have hL:∀ i,(σ.box i).isSome=true->(((σ.putB id (.var .dead)).upd t (.sl (some e) z l)).box i).isSome=true:=λi hi=>by
  rw[hbox];by_cases hii:i=id
  ·simp[hii]
  ·simpa [hii] using hi
 refine⟨ρ,upd Fe t F',upd Fb id [ρ id],{
  size:=st.size
  defs:=st.defs
  pin:=λi b hp=>⟨(st.pin i b hp).1,hL i (st.pin i b hp).2⟩
  env:=λu x hx=>?_
  envN:=λu hu=>?_
  bx:=λi b hd=>?_
  bxN:=λi hn=>?_
  nodE:=λu=>?_
  nodB:=λi=>?_
  dEE:=λu u' hne b hb1 hb2=>?_
  dEB:=λu i b hb1 hb2=>?_
  dBB:=λi i' hne b hb1 hb2=>?_
  new:=λb hb=>st.new b (hot b hb)
  kept:=st.kept
  os:=st.os
  tape:=⟨st.tape.tp,st.tape.dr⟩
  output:=st.output
  grown:=st.grown
  gl:=st.gl
  okN:=st.okN
  okO:=λb hb=>st.okO b (hot b hb) }⟩
 ·rw[JQ,e8] at hx;by_cases hut:u=t
  ·subst hut;simp only[j9,h,Y1] at hx;cases hx;rw[c7];refine(c5 rfl).2 ⟨v0,hv, ?_⟩;simp only[VR,D.isAgg,q7,q8];rw[hv0] at q2;exact q2.mono (λ_ _ _=>rfl) (λb hb _=>hg b hb) (λi hi=>⟨hL i hi,rfl⟩)
  ·simp only[hut,q8,p9] at hx;obtain⟨x0,hx0,rfl⟩:=hx;rw[j2 hut];have hsr:=st.env u x0 hx0
   have hkeep:SR w ρ (gd C (upd Fe t F') (upd Fb id [ρ id])) (λi=>(((σ.putB id (.var .dead)).upd t (.sl (some e) z l)).box i).isSome) a u x0 (Fe u):=
    MV hsr (λ_ _ _=>rfl) (λb hb _=>hg b hb) hL (λ_ _ _ _ h=>h)
   cases x0 with
   | alb i off path=>
    simp only[ZQ];by_cases hii:i=id
    ·subst hii;simp only[Z8,m9];obtain⟨h1,_,v1,h2,_⟩:=hsr;exact⟨h1,v1,h2⟩
    ·simp only[nbeq hii,d7];exact hkeep
   | _=>exact hkeep
 ·rw[JQ,e8] at hu;by_cases hut:u=t
  ·subst hut;simp[h] at hu
  ·simp only[hut,q8,n3] at hu;rw[j2 hut];exact st.envN u hu
 ·rw[hbox] at hd;by_cases hii:i=id
  ·subst hii;simp only[j9,z6] at hd;subst hd;rw[c7];refine⟨cs,e0,[],q1, ?_,rfl⟩;rw[hv0];refine .dead v0 ?_;rw[hv0] at q2;exact q2.one v0 (by simp)
  ·simp only[hii,q8] at hd;rw[j2 hii];exact(st.bx i b hd).mono (λ_ _ _=>rfl) (λb hb _=>hg b hb) (λi hi=>⟨hL i hi,rfl⟩)
 ·rw[hbox] at hn;by_cases hii:i=id
  ·simp[hii] at hn
  ·simp only[hii,q8] at hn;rw[j2 hii];exact st.bxN i hn
 ·by_cases hut:u=t
  ·subst hut;rw[c7];exact(v3.1 hnd).2
  ·rw[j2 hut];exact st.nodE u
 ·by_cases hii:i=id
  ·subst hii;rw[c7];simp
  ·rw[j2 hii];exact st.nodB i
 ·by_cases hut:u=t
  ·subst hut;rw[c7] at hb1;rw[j2 (λh=>hne h.symm)] at hb2;exact st.dEB u' id b hb2 (hmem b hb1)
  ·rw[j2 hut] at hb1;by_cases hut':u'=t
   ·subst hut';rw[c7] at hb2;exact st.dEB u id b hb1 (hmem b hb2)
   ·rw[j2 hut'] at hb2;exact st.dEE u u' hne b hb1 hb2
 ·by_cases hii:i=id
  ·subst hii;rw[c7] at hb2;simp at hb2;subst hb2;by_cases hut:u=t
   ·subst hut;rw[c7] at hb1;exact(v3.1 hnd).1 hb1
   ·rw[j2 hut] at hb1;exact st.dEB u i _ hb1 hin
  ·rw[j2 hii] at hb2;by_cases hut:u=t
   ·subst hut;rw[c7] at hb1;exact st.dBB id i (λh=>hii h.symm) b (hmem b hb1) hb2
   ·rw[j2 hut] at hb1;exact st.dEB u i b hb1 hb2
 ·have key:∀ i b,b∈upd Fb id [ρ id] i->b∈Fb i:=λi b hb=>by
   by_cases hii:i=id
   ·subst hii;rw[c7] at hb;simp at hb;subst hb;exact hin
   ·rw[j2 hii] at hb;exact hb
  exact st.dBB i i' hne b (key i b hb1) (key i' b hb2)
theorem CN{o:Oper}{σ0:Sg}(h:∀ a w,St C σ a w->St C σ0 a w)(k:OpS P C o σ0 σ'):OpS P C o σ σ':=λa w hs=>k a w (h a w hs)
theorem IK{id:Nat}{d d':D}(hb:σ.box id=some (.var d))(h:∀ (w:World) (ρ:Nat->Nat) (G L:Nat->Prop) (cs:List Value) (F:List Nat),(∀ i b,C.pin i=some b->ρ i=b)->Rc w ρ G L true d cs F->Rc w ρ G L true d' cs F)(hs:St C σ a w) :
 St C { σ with bx:=setb id (.var d') σ.bx } a w:=by
 obtain⟨ρ,Fe,Fb,st⟩:=hs
 have hbox:∀ i,(({ σ with bx:=setb id (.var d') σ.bx }:Sg).box i)=if i=id then some (.var d') else σ.box i:=λi=>by
  show lk (setb id (.var d') σ.bx) i=_;rw[DN];by_cases hi:i=id
  ·subst hi;have:lk σ.bx i=some (.var d):=hb;simp[this]
  ·simp[hi];rfl
 have hiso:∀ i,(({ σ with bx:=setb id (.var d') σ.bx }:Sg).box i).isSome=(σ.box i).isSome:=λi=>by
  rw[hbox];by_cases hi:i=id
  ·subst hi;simp[hb]
  ·simp[hi]
 have hfun:(λi=>(({ σ with bx:=setb id (.var d') σ.bx }:Sg).box i).isSome=true)=λi=>(σ.box i).isSome=true:=by
  funext i;rw[hiso]
 refine⟨ρ,Fe,Fb,{
  size:=st.size
  defs:=st.defs
  pin:=λi b hp=>⟨(st.pin i b hp).1,by rw[hiso];exact(st.pin i b hp).2⟩
  env:=λu x hx=>by rw[hfun];exact st.env u x hx
  envN:=st.envN
  bx:=λi b hd=>?_
  bxN:=λi hn=>st.bxN i (by have:=hiso i;rw[hn] at this;simpa using this.symm)
  nodE:=st.nodE
  nodB:=st.nodB
  dEE:=st.dEE
  dEB:=st.dEB
  dBB:=st.dBB
  new:=st.new
  kept:=st.kept
  os:=st.os
  tape:=⟨st.tape.tp,st.tape.dr⟩
  output:=st.output
  grown:=st.grown
  gl:=st.gl
  okN:=st.okN
  okO:=st.okO }⟩
 rw[hfun];rw[hbox] at hd;by_cases hi:i=id
 ·subst hi;simp only[j9,z6] at hd;subst hd;obtain⟨cs,e,F',q1,q2,q3⟩:=st.bx i _ hb;exact⟨cs,e,F',q1,h _ _ _ _ _ _ (λi b hp=>(st.pin i b hp).1) q2,q3⟩
 ·simp only[hi,q8] at hd;exact st.bx i b hd
theorem AZ{id:Nat}{d d':D}(hb:σ.box id=some (.var d))(h:∀ (w:World) (ρ:Nat->Nat) (G L:Nat->Prop) (cs:List Value) (F:List Nat),Rc w ρ G L true d cs F->Rc w ρ G L true d' cs F)(hs:St C σ a w) :
 St C { σ with bx:=setb id (.var d') σ.bx } a w:=IK hb (λw ρ G L cs F _=>h w ρ G L cs F) hs
theorem SX{c:Code}{b:Frame}{k:List Item}{cs:List Frame}:step P (lone (b.atR a (.code (.scope c)::k)) cs w)=.next (lone (b.atR a (.code c::.inScope c::k)) cs w):=
 step_lone_go (by simp[stepG,stepG.exec,Frame.atR])
theorem AE{c:Code}{b:Frame}{k:List Item}{cs:List Frame}:step P (lone (b.atR a (.inScope c::k)) cs w)=.next (lone (b.atR a k) cs w):=
 step_lone_go (by simp[stepG,stepG.exec,Frame.atR])
theorem DT{c:Code}{id:Nat}{k:List Item}:exitTo id (.inScope c::k)=exitTo id k:=by simp[exitTo]
theorem WC{F:Fence}{n:Nat}{c:Code}{Q:Exit->Act->World->Prop}(h:c.wpIn F n P (λe a w=>(∀ l,e≠.goto l)/\Q e a w) a w):(Code.scope c).wpIn F n P Q a w:=by
 intro b k cs hro hbf hr;obtain⟨e,a₁,w₁,⟨hg,hq⟩,harr⟩:=h b (.inScope c::k) cs hro hbf hr;have s1:StepsIn (Machine.fenced P F) P (lone (b.atR a (.code (.scope c)::k)) cs w) (lone (b.atR a (.code c::.inScope c::k)) cs w):=.one (fenced_calm hbf hr rfl) SX
 cases e with
 | normal=>exact⟨.normal,a₁,w₁,hq,StepsIn.trans s1 (StepsIn.trans harr (.one (fenced_calm hbf hr rfl) AE))⟩
 | exit id=>
  refine⟨.exit id,a₁,w₁,hq,.of_steps s1 ⟨λk' hk=>harr.1 k' (by rw[DT];exact hk),λh1 hk=>harr.2 h1 (by rw[DT];exact hk)⟩⟩
 | goto l=>exact absurd rfl (hg l)
 | ret=>exact⟨_,a₁,w₁,hq,.of_steps s1 harr⟩
 | panic ch=>exact⟨_,a₁,w₁,hq,.of_steps s1 harr⟩
 | outgrown=>exact⟨_,a₁,w₁,hq,.of_steps s1 harr⟩
theorem V.scope{rd:Option Nat}{ι:Type}{A:ι->Act->World->Prop}{Q:Exit->ι->Prop}{i:ι}{c:Code}(h:V P rd A c (λe s=>(∀ l,e≠.goto l)/\Q e s) i):V P rd A (.scope c) Q i:=by
 intro a w hs;refine WC (J4 ?_ (h a w hs));rintro e a' w' ⟨s,hs',h1,h2⟩;exact⟨h1,s,hs',h2⟩
theorem j73{gl:List (Nat×D)}{W0:World}{G:Nat->Prop}{g p n:Nat}{asg body:Code}{env0:List (Nat×D)}{bx0:List (Nat×Bx)}{f:FuncId}[hf:CaT P f]
 (ids:List Nat) (N:Nat) (xd:Nat->D) (bxs:Nat->List (Nat×Bx)) (Stop:Exit->List (Nat×Bx)->Prop) (J:Nat->Prop)
 {Q:Exit->Bool×Sg->Prop} {m0:Bool} (hgl:Glw gl W0 G) (hI:Itr P gl f caps ((List.range N).map xd)) (hg:lk env0 g=some (.fn f caps)) (hnp:IU caps=true) (hp:Nat.blt p n=true) (hpe:ZE env0=true) (hb0:bx0=bxs 0)
 (hkeys:(bxs 0).map Prod.fst=ids) (hf0:YQ (bxs 0)) (hxs:∀ k,(xd k).pur=true/\(xd k).np=true) (hJ:J 0)
 (hround:∀ k,k<N->J k->∀ C':Ctx,C'.gl=gl->(∀ id b,C'.pin id=some b->N3 ids id=true)->W P C' asg (λe σ'=>e=.normal/\∀ C':Ctx,C'.gl=gl->(∀ id b,C'.pin id=some b->N3 ids id=true) ->
  W P C' body (λe σ'=>(e=.normal/\(M9 ids σ'.bx=bxs (k+1)/\J (k+1))∨(e=.ret∨∃ id,e=.exit id)/\Stop e (M9 ids σ'.bx))/\YQ (M9 ids σ'.bx)) σ') ((⟨n,env0,bxs k⟩:Sg).set p (xd k)))
 (hN:J N->Q .normal (true,⟨n,env0,bxs N⟩)) (hS:∀ e bx,(e=.ret∨∃ id,e=.exit id)->Stop e bx->Q e (true,⟨n,env0,bx⟩)) :
 V P none (AM (PI gl W0 G)) (.rangeFunc (.tmp g) #[p] asg body) Q (m0,⟨n,env0,bx0⟩):=by
 subst hb0
 have hlen:((List.range N).map xd).length=N:=by simp
 have hkeys':∀ id,(lk (bxs 0) id).isSome=N3 ids id:=by
  intro id;rw[<- hkeys];generalize bxs 0=l
  induction l with
  | nil=>rfl
  | cons x r ih=>
   obtain⟨k,b⟩:=x;rw[U2];simp only[N3,b9,List.any_cons] at ih ⊢;by_cases hk:k=id
   ·subst hk;simp
   ·simp only[hk,q8,ih];rw[nbeq (λh=>hk h.symm)];simp
 have hnp':∀ d∈caps,d.np=true:=λd hd=>by
  obtain⟨k,hk,rfl⟩:=Q2.1 hd;exact LJ caps hnp k hk
 have e:∀ k (h:k<((List.range N).map xd).length),((List.range N).map xd)[k]=xd k:=λk h=>by simp
 refine V.range (ids:=ids) (bxs:=bxs) (Stop:=Stop) J hgl hI hg hnp' (g0 hp) hpe hkeys' hf0 (λk hk=>by rw[e];exact hxs k) hJ (λk hk hJk=>?_) (by rw[hlen];exact hN) hS;rw[e];exact hround k (by simpa using hk) hJk
theorem u25{s id t e z:Nat}{x:Operand}{l l':List D}[hT:SlT P ty e][hE:ElT P e z bytes]
 (h:σ.get s=some (.alb id 0 [])) (hb:σ.box id=some (.var (.sl (some e) z l))) {τ:Sg} (hτ:(σ.putB id (.var .dead)).upd s (.sl (some e) z l)=τ) (hs:τ.get s=some (.sl (some e) z l))
 (hx:SrcO C.gl τ x z l') (he:l++l'=l2) (hn:l.length+l'.length<=1073741824) (ht:t<σ.n) (hst:s≠t) (hby:bytes<=131072) :
 OpS P C ⟨some t,.call { callee:=.builtin .append,args:=#[.tmp s,x],argTypes:=#[ty,ty] },rt,pos,aft,g⟩ σ ((τ.kill s).set t (.sl (some e) z l2)):=by
 subst hτ;exact CN (λa w hs=>j75 h hb hs) (O6 (.inl rfl) hs hx he hn ht hst hby)
theorem S6{p s id:Nat}{d1 d' dx:D}{n:TypeId}{gg:Bool}[LdT P ty n gg]
 (h:σ.get p=some (.ptr id off path)) (hb:σ.box id=some (.var d0)) (hl:d0.loc path=some (off,d1)) (hx:σ.get s=some dx) (hrf:dx.isRef=false) (hnp:dx.np=true)
 (hn:dx.sz=n) (hz:d1.sz=n) (hu:d0.upd path dx=some d') (hna:d0.noArr path=true) :
 OpS P C ⟨none,.store ty (.tmp p) (.tmp s),rt,pos,aft,g⟩ σ ((σ.kill s).putB id (.var d')):=R.stO h hb hl hx hrf hnp hn (hn.trans hz.symm) hu hna
theorem j74{gl:List (Nat×D)}{κ:Type}{R:Rel gl κ}{m:κ}{c:Code}{Q:Exit->κ×Sg->Prop}{id:Nat}(e z:Nat)(hb:σ.box id=some (.var .nils))(k:V P none (AM R) c Q (m,{ σ with bx:=setb id (.var (.sl (some e) z [])) σ.bx })):V P none (AM R) c Q (m,σ):=
 V.wk (λC _ _ a w hs=>AZ hb (λw ρ G L cs F h=>by cases h;exact .slN _ _) hs) k
theorem JX{gl:List (Nat×D)}{κ:Type}{R:Rel gl κ}{m:κ}{c:Code}{Q:Exit->κ×Sg->Prop}{n':Nat}(hE:picks σ.get live=env')(hb:σ.bx=bx')(hn:σ.n=n')
 (h:V P none (AM R) c Q (m,⟨n',env',bx'⟩)):V P none (AM R) c Q (m,σ):=
 V.wk (λC _ _ a w hs=>hs.weaken hn.symm hb.symm λt d hd=>l5 (f:=σ.get) (l:=live) (by rw[hE];exact hd)) h
inductive EvP(gl:List (Nat×D))(σ:Sg):List Operand->List D->Prop
 | nil:EvP gl σ [] []
 | cons {x:Operand} {d:D} {xs:List Operand} {ds:List D} (h:ev gl σ x=some d) (hp:d.pur=true) (hn:d.np=true) (t:EvP gl σ xs ds):EvP gl σ (x::xs) (d::ds)
theorem EvP.len{gl:List (Nat×D)}{xs:List Operand}{ds:List D}(h:EvP gl σ xs ds):xs.length=ds.length:=by
 induction h with
 | nil=>rfl
 | cons _ _ _ _ ih=>simp[ih]
theorem EvP.ok{gl:List (Nat×D)}{xs:List Operand}{ds:List D}(h:EvP gl σ xs ds):∀ k (h:k<xs.length) (h':k<ds.length),ev gl σ xs[k]=some ds[k]/\ds[k].pur=true/\ds[k].np=true:=by
 induction h with
 | nil=>intro k hk;simp at hk
 | cons h hp hn t ih=>
  intro k hk hk'
  cases k with
  | zero=>exact⟨h,hp,hn⟩
  | succ k=>simpa using ih k (by simpa using hk) (by simpa using hk')
theorem KM{f:FuncId}[CaT P f]{t:Nat}{gl:List (Nat×D)}{ds:List D}{r:D}
 (hC:C.gl=gl) (hF:Fn P gl f ds r) (hb:EvP C.gl σ args ds) (ht:t<σ.n) :
 OpS P C ⟨some t,.call { callee:=.value (.func f),args:=args.toArray,argTypes:=tys },rt,pos,aft,g⟩ σ (σ.set t r):=by
 subst hC;exact R.callP hF hb.len hb.ok ht
theorem FrsR.two{x y:D}(h1:Frs x)(h2:Frs y):FrsR (.tup [x,y]):=.inl ⟨_,rfl,λd hd=>by
 rcases w5.1 hd with rfl|hd
 ·exact h1
 ·rw[d8.1 hd];exact h2⟩
inductive EndL(P:Program)(σ:Sg):List ResultVar->List D->Prop
 | nil:EndL P σ [] []
 | cons {rv:ResultVar} {d:D} {rs:List ResultVar} {ds:List D} (h:YI σ rv=some d) (h1:d.isRef=false) (h2:d.np=true) (h3:WY P d rv) (t:EndL P σ rs ds):EndL P σ (rv::rs) (d::ds)
theorem EndL.len{rs:List ResultVar}{ds:List D}(h:EndL P σ rs ds):ds.length=rs.length:=by
 induction h with
 | nil=>rfl
 | cons _ _ _ _ _ ih=>simp[ih]
theorem EndL.ok{rs:List ResultVar}{ds:List D}(h:EndL P σ rs ds):∀ k (h:k<rs.length) (h':k<ds.length),YI σ rs[k]=some ds[k]/\ds[k].isRef=false/\ds[k].np=true/\WY P ds[k] rs[k]:=by
 induction h with
 | nil=>intro k hk;simp at hk
 | cons h h1 h2 h3 t ih=>
  intro k hk hk'
  cases k with
  | zero=>exact⟨h,h1,h2,h3⟩
  | succ k=>simpa using ih k (by simpa using hk) (by simpa using hk')
theorem Ends.many{r1 r2:ResultVar}{rs:List ResultVar}{ds ds':List D}{e:Exit}(he:e=.normal∨e=.ret)(h:EndL P σ (r1::r2::rs) ds')(hd:ds'=ds)(hn:((r1::r2::rs).map (R4 σ)).Nodup):Ends (r1::r2::rs) P (.tup ds) e σ:=by
 subst hd;exact⟨he,_,rfl,h.len,hn,h.ok⟩
end
section
variable{P:Program}{C:Ctx}{σ σ' σ1 σ2:Sg}{a:Act}{w w':World}{ρ ρ2:Nat->Nat}{Fe Fe' Fb Fb2:Nat->List Nat}
structure ExtO(O:Nat->Prop)(w w':World):Prop where
 os:w'.os=w.os
 tape:TpR w' w
 output:w'.output=w.output
 size:w.heap.size<=w'.heap.size
 block:∀ b,b<w.heap.size->¬ O b->w'.heap[b]? = w.heap[b]?
def Ctx.less(C:Ctx)(F:List Nat):Ctx:={ C with ok:=λb=>C.ok b/\b∉F }
theorem z20{G:Nat->Prop}{u:Nat}{d:D}(h:SR w ρ G L a u d F)
 (hh:∀ b,(G b∨b∈F)->b<w.heap.size->w'.heap[b]? = w.heap[b]?) (hg:∀ b,G b->b<w.heap.size->G' b) (hL:∀ i,L i->L' i/\ρ2 i=ρ i)
 (hc:∀ i off path,d=.alb i off path->L i->w'.heap[ρ i]? = w.heap[ρ i]?):SR w' ρ2 G' L' a u d F:=by
 cases d with
 | al s=>exact h
 | alb i off path=>
  obtain⟨hF,hid,x,hx,hs⟩:=h;obtain⟨q1,q2⟩:=hL i hid;exact⟨hF,q1,x,hx,by rw[q2,<- hs];exact World.cell?_of_block (hc i off path rfl hid)⟩
 | vw s z lo n=>exact h
 | va i off z n path lo=>
  obtain⟨hF,hid,h3⟩:=h;obtain⟨q1,q2⟩:=hL i hid;exact⟨hF,q1,by rw[q2];exact h3⟩
 | ep s z i off path=>exact h
 | tup ds=>
  obtain⟨vs,Fs,h1,h2,h3,h4⟩:=h;refine⟨vs,Fs,h1,h2,h3,λk hk=>(h4 k hk).imp (λhx=>hx) λhx=>⟨hx.1,hx.2.mono (λb hb=>hh b (hb.imp (λhx=>hx) λhm=>?_)) hg hL⟩⟩;rw[h3];exact w8.2 ⟨k,j7.2 hk,hm⟩
 | dead=>exact h
 | _=>obtain⟨x,hx,hr⟩:=h;exact⟨x,hx,hr.mono hh hg hL⟩
theorem StW.lend(st:StW C σ a w ρ Fe Fb){lent new:Nat->Prop}(hw:ExtO (λb=>∃ id,lent id/\b∈Fb id) w w')
 (hn:σ2.n=σ.n) (hρ:∀ id,(σ.box id).isSome=true->ρ2 id=ρ id) (hlent:∀ id,lent id->(σ.box id).isSome=true)
 (hget:∀ u d,σ2.get u=some d->∃ d0,σ.get u=some d0/\(d=d0/\(∀ id off path,d0=.alb id off path->¬ lent id)∨d=.dead/\∃ id off path,d0=.alb id off path))
 (hgetN:∀ u,σ2.get u=none->σ.get u=none)
 (hbox:∀ id,¬ (lent id∨new id)->σ2.box id=σ.box id/\Fb2 id=Fb id) (hboxS:∀ id,(lent id∨new id)->(σ2.box id).isSome=true)
 (hbx:∀ id x,σ2.box id=some x->(lent id∨new id)->BR w' ρ2 (gd (C.less F) Fe Fb2) (λi=>(σ2.box i).isSome) (ρ2 id) x (Fb2 id))
 (hnod:∀ id,(lent id∨new id)->(Fb2 id).Nodup) (hdis:∀ id id',(lent id∨new id)->(lent id'∨new id')->id≠id'->∀ b,b∈Fb2 id->b∉Fb2 id')
 (hsrc:∀ id b,(lent id∨new id)->b∈Fb2 id->(w.heap.size<=b∨∃ i,lent i/\b∈Fb i)/\b∉F)
 (hF:∀ b∈F,w.heap.size<=b∨∃ i,lent i/\b∈Fb i) (hFl:∀ b∈F,b<w'.heap.size):StW (C.less F) σ2 a w' ρ2 Fe Fb2:=by
 have hlt:=st.lt;have hlo:∀ b,(∃ i,lent i/\b∈Fb i)->own Fe Fb b:=λb ⟨i,_,hi⟩=>.inr ⟨i,hi⟩
 have hown:∀ b,own Fe Fb2 b->(own Fe Fb b∨w.heap.size<=b):=by
  rintro b (h|⟨id,hid⟩)
  ·exact .inl (.inl h)
  ·by_cases ht:lent id∨new id
   ·rcases(hsrc id b ht hid).1 with h|h
    ·exact .inr h
    ·exact .inl (hlo b h)
   ·rw[(hbox id ht).2] at hid;exact .inl (.inr ⟨id,hid⟩)
 have hunF:∀ u b,b∈Fe u->b<w.heap.size->w'.heap[b]? = w.heap[b]?:=λu b hb hl=>hw.block b hl (λ⟨i,_,hi⟩=>st.dEB u i b hb hi);have hung:∀ b,gd C Fe Fb b->b<w.heap.size->w'.heap[b]? = w.heap[b]?:=λb hb hl=>hw.block b hl (λh=>hb.2 (hlo b h));have hunB:∀ id b,¬ lent id->b∈Fb id->b<w.heap.size->w'.heap[b]? = w.heap[b]?:=λid b hn hb hl=>hw.block b hl (λ⟨i,hi,hb'⟩=>st.dBB i id (λe=>hn (e▸hi)) b hb' hb)
 have hg:∀ b,gd C Fe Fb b->b<w.heap.size->gd (C.less F) Fe Fb2 b:=λb hb hl=>by
  refine⟨⟨hb.1,λhm=>?_⟩,λho=>?_⟩
  ·rcases hF b hm with h|h
   ·omega
   ·exact hb.2 (hlo b h)
  ·rcases hown b ho with h|h
   ·exact hb.2 h
   ·omega
 have hL:∀ i,(σ.box i).isSome=true->(σ2.box i).isSome=true/\ρ2 i=ρ i:=λi hi=>by
  refine⟨?_,hρ i hi⟩;by_cases ht:lent i∨new i
  ·exact hboxS i ht
  ·rw[(hbox i ht).1];exact hi
 refine { size:=by rw[hn];exact st.size,defs:=st.defs,pin:=λid b hp=>?_,env:=λu d hd=>?_,envN:=λu hu=>st.envN u (hgetN u hu),bx:=λid x hx=>?_,bxN:=λid hx=>?_,nodE:=st.nodE,nodB:=λid=>?_,dEE:=st.dEE,dEB:=λu id b hb hb'=>?_,dBB:=λid id' hne b hb hb'=>?_,new:=λb hb hk=>?_,kept:=λb hk=>?_,os:=hw.os.trans st.os,tape:=hw.tape.trans st.tape,output:=hw.output.trans st.output,grown:=u9 st.grown hw.size,gl:=λg d hgd=>?_,okN:=λb hb=>?_,okO:=λb hb=>?_ }
 ·obtain⟨h1,h2⟩:=st.pin id b hp;obtain⟨h3,h4⟩:=hL id h2;exact⟨h4.trans h1,h3⟩
 ·obtain⟨d0,h0,h1⟩:=hget u d hd;have hs:=st.env u d0 h0
  rcases h1 with ⟨rfl,h1⟩|⟨rfl,id,off,path,rfl⟩
  ·refine z20 hs (λb hb hl=>hb.elim (λh=>hung b h hl) (λh=>hunF u b h hl)) hg hL (λi off path he hi=>?_)
   cases hbi:σ.box i with
   | none=>rw[hbi] at hi;cases hi
   | some x=>
    have hm:=(st.bx i x hbi).mem;exact hunB i _ (h1 i off path he) hm (hlt _ (.inr ⟨i,hm⟩))
  ·obtain⟨hF0,hid,v,hv,_⟩:=hs;exact⟨hF0,v,hv⟩
 ·by_cases ht:lent id∨new id
  ·exact hbx id x hx ht
  ·obtain⟨q1,q2⟩:=hbox id ht;rw[q1] at hx;rw[q2,hρ id (by rw[hx];rfl)];exact(st.bx id x hx).mono (λb hb hl=>hb.elim (λh=>hung b h hl) (λh=>hunB id b (λhl'=>ht (.inl hl')) h hl)) hg hL
 ·by_cases ht:lent id∨new id
  ·have:=hboxS id ht;rw[hx] at this;cases this
  ·obtain⟨q1,q2⟩:=hbox id ht;rw[q2];exact st.bxN id (by rw[<- q1];exact hx)
 ·by_cases ht:lent id∨new id
  ·exact hnod id ht
  ·rw[(hbox id ht).2];exact st.nodB id
 ·by_cases ht:lent id∨new id
  ·rcases(hsrc id b ht hb').1 with h|⟨i,hi,hbi⟩
   ·have:=hlt b (.inl ⟨u,hb⟩);omega
   ·exact st.dEB u i b hb hbi
  ·rw[(hbox id ht).2] at hb';exact st.dEB u id b hb hb'
 ·by_cases ht:lent id∨new id
  ·by_cases ht':lent id'∨new id'
   ·exact hdis id id' ht ht' hne b hb hb'
   ·rw[(hbox id' ht').2] at hb'
    rcases(hsrc id b ht hb).1 with h|⟨i,hi,hbi⟩
    ·have:=hlt b (.inr ⟨id',hb'⟩);omega
    ·exact st.dBB i id' (λe=>ht' (.inl (e▸hi))) b hbi hb'
  ·rw[(hbox id ht).2] at hb;by_cases ht':lent id'∨new id'
   ·rcases(hsrc id' b ht' hb').1 with h|⟨i,hi,hbi⟩
    ·have:=hlt b (.inr ⟨id,hb⟩);omega
    ·exact st.dBB i id (λe=>ht (.inl (e▸hi))) b hbi hb
   ·rw[(hbox id' ht').2] at hb';exact st.dBB id id' hne b hb hb'
 ·rcases hown b hb with h|h
  ·exact st.new b h hk
  ·have:=(st.kept b hk).2;have:=st.grown;omega
 ·obtain⟨h1,h2⟩:=st.kept b hk;exact⟨(hw.block b (u0 h2 st.grown) (λh=>st.new b (hlo b h) hk)).trans h1,h2⟩
 ·obtain⟨h1,h2,h3⟩:=st.gl g d hgd;refine⟨h1,⟨h2,λhm=>?_⟩,h3⟩
  rcases hF g hm with h|h
  ·have:=(st.kept g h1).2;have:=st.grown;omega
  ·exact st.new g (hlo g h) h1
 ·refine⟨st.okN b (u9 hw.size hb),λhm=>?_⟩;have:=hFl b hm;omega
 ·have hk:C.ok b:=by
   rcases hown b hb with h|h
   ·exact st.okO b h
   ·exact st.okN b h
  refine⟨hk,λhm=>?_⟩
  rcases hb with ⟨u,hu⟩|⟨id,hid⟩
  ·rcases hF b hm with h|⟨i,hi,hbi⟩
   ·have:=hlt b (.inl ⟨u,hu⟩);omega
   ·exact st.dEB u i b hu hbi
  ·by_cases ht:lent id∨new id
   ·exact(hsrc id b ht hid).2 hm
   ·rw[(hbox id ht).2] at hid
    rcases hF b hm with h|⟨i,hi,hbi⟩
    ·have:=hlt b (.inr ⟨id,hid⟩);omega
    ·exact st.dBB i id (λe=>ht (.inl (e▸hi))) b hbi hid
theorem StW.adopt{t:Nat}{d:D}{v:Value}(h:StW (C.less F) σ a w ρ Fe Fb)(ht:t<σ.n)(hF:F.Nodup)(hdE:∀ u,∀ b∈F,b∉Fe u)(hdB:∀ id,∀ b∈F,b∉Fb id)
 (hk:∀ b∈F,¬ C.keep b) (hok:∀ b∈F,C.ok b) (hv:SR w ρ (gd C (upd Fe t F) Fb) (λid=>(σ.box id).isSome) (a.put (some t) v) t d F) :
 StW C (σ.set t d) (a.put (some t) v) w ρ (upd Fe t F) Fb:=by
 have hsz:t<a.tmps.size:=by rw[h.size];exact ht
 have hlt:=h.lt
 have hg:∀ b,gd (C.less F) Fe Fb b->b<w.heap.size->gd C (upd Fe t F) Fb b:=by
  rintro b ⟨⟨hok,hnF⟩,hb⟩ hlt';refine⟨hok, ?_⟩;rintro (⟨u,hu⟩|⟨id,hid⟩)
  ·by_cases hut:u=t
   ·subst hut;simp at hu;exact hnF hu
   ·rw[j2 hut] at hu;exact hb (.inl ⟨u,hu⟩)
  ·exact hb (.inr ⟨id,hid⟩)
 have hL:∀ id,(λid=>(σ.box id).isSome=true) id->(λid=>((σ.set t d).box id).isSome=true) id/\ρ id=ρ id:=λid hid=>⟨hid,rfl⟩
 refine⟨?_,h.defs,h.pin, ?_, ?_, ?_,h.bxN, ?_,h.nodB, ?_, ?_,h.dBB, ?_,h.kept,h.os,⟨h.tape.tp,h.tape.dr⟩,h.output,h.grown,λg d hgd=>⟨(h.gl g d hgd).1,(h.gl g d hgd).2.1.1,(h.gl g d hgd).2.2⟩,λb hb=>(h.okN b hb).1, ?_⟩
 ·simp[Act.put,h.size]
 ·intro u x hx;rw[P8] at hx;by_cases hut:u=t
  ·subst hut;simp at hx;subst hx;simp only[c7];exact hv
  ·simp only[hut,q8] at hx;obtain⟨d0,hd0,rfl⟩:=p9.1 hx;rw[j2 hut];exact XQ hut hsz (h.env u d0 hd0) (λb _ hb=>rfl) hg hL (λid off v _ hc=>hc)
 ·intro u hu;rw[P8] at hu;by_cases hut:u=t
  ·simp[hut] at hu
  ·simp only[hut,q8,n3] at hu;rw[j2 hut];exact h.envN u hu
 ·intro id x hx;exact(h.bx id x hx).mono (λb _ hb=>rfl) hg hL
 ·intro u;by_cases hut:u=t
  ·subst hut;simpa using hF
  ·rw[j2 hut];exact h.nodE u
 ·intro u u' huu b hb hb';by_cases hut:u=t
  ·subst hut;rw[j2 (λe=>huu e.symm)] at hb';simp at hb;exact hdE u' b hb hb'
  ·rw[j2 hut] at hb;by_cases hut':u'=t
   ·subst hut';simp at hb';exact hdE u b hb' hb
   ·rw[j2 hut'] at hb';exact h.dEE u u' huu b hb hb'
 ·intro u id b hb hb';by_cases hut:u=t
  ·subst hut;simp at hb;exact hdB id b hb hb'
  ·rw[j2 hut] at hb;exact h.dEB u id b hb hb'
 ·rintro b (⟨u,hu⟩|⟨id,hid⟩) hkb
  ·by_cases hut:u=t
   ·subst hut;simp at hu;exact hk b hu hkb
   ·rw[j2 hut] at hu;exact h.new b (.inl ⟨u,hu⟩) hkb
  ·exact h.new b (.inr ⟨id,hid⟩) hkb
 ·rintro b (⟨u,hu⟩|⟨id,hid⟩)
  ·by_cases hut:u=t
   ·subst hut;simp at hu;exact hok b hu
   ·rw[j2 hut] at hu;exact(h.okO b (.inl ⟨u,hu⟩)).1
  ·exact(h.okO b (.inr ⟨id,hid⟩)).1
mutual
def D.ren(m:Nat->Nat):D->D
 | .ptr id off path=>.ptr (m id) off path
 | .bs id z n cap=>.bs (m id) z n cap
 | .map id=>.map (m id)
 | .agg l=>.agg (KJ m l)
 | .fn f l=>.fn f (KJ m l)
 | .tup l=>.tup (KJ m l)
 | .ifc t d=>.ifc t (D.ren m d)
 | d=>d
def KJ(m:Nat->Nat):List D->List D
 | []=>[]
 | d::r=>D.ren m d::KJ m r
end
theorem ZZ(m:Nat->Nat)(l:List D):KJ m l=l.map (D.ren m):=by
 induction l with
 | nil=>rfl
 | cons d r ih=>simp[KJ,ih]
mutual
theorem WF(m:Nat->Nat)(d:D):(d.ren m).sz=d.sz:=by
 cases d with
 | agg l=>simp only[D.ren,JM];exact HV m l
 | _=>simp[D.ren,D.sz]
theorem HV(m:Nat->Nat)(l:List D):N6 (KJ m l)=N6 l:=by
 cases l with
 | nil=>rfl
 | cons d r=>simp only[KJ,S1,WF m d,HV m r]
end
theorem TH(m:Nat->Nat)(l:List D)(k:Nat):offk (l.map (D.ren m)) k=offk l k:=by
 unfold offk;rw[<- U8,<- ZZ,HV]
theorem QI(m:Nat->Nat)(d:D):(d.ren m).isAgg=d.isAgg:=by cases d<;>rfl
theorem FH(m:Nat->Nat)(d:D)(h:d.isRef=false):(d.ren m).isRef=false:=by cases d<;>first|rfl|simp[D.isRef] at h
theorem Rc.ren{G:Nat->Prop}{m:Nat->Nat}{p:Bool}{d:D}{cs:List Value}(h:Rc w ρ G L p d cs F)(hL:∀ i,L i->L' (m i)/\ρ2 (m i)=ρ i):Rc w ρ2 G L' p (d.ren m) cs F:=by
 induction h with
 | bool b=>exact .bool b
 | int n=>exact .int n
 | u8 x=>exact .u8 x
 | u16 x=>exact .u16 x
 | u32 x=>exact .u32 x
 | u64 x=>exact .u64 x
 | ik k n=>exact .ik k n
 | str s=>exact .str s
 | nils=>exact .nils
 | slN o z=>exact .slN o z
 | slE o z a=>exact .slE o z a
 | slI b off cs e fz cap z l hb hG hc hs hr ih=>exact .slI b off cs e fz cap z l hb hG hc hs (λi hi=>(hr i hi).noL)
 | slO b cs e cap z l Fs hb hc hm hs ho1 hr ih=>exact .slO b cs e cap z l Fs hb hc hm hs ho1 (λi hi=>(hr i hi).noL)
 | agg l cs Fs hs hr ih=>
  simp only[D.ren,ZZ]
  have:=Rc.agg (w:=w) (ρ:=ρ2) (G:=G) (L:=L') (p:=‹Bool›) (l.map (D.ren m)) cs Fs (by rw[<- ZZ,HV];exact hs) (λk hk=>by
   have hk':k<l.length:=by simpa using hk
   have:=ih k hk';simp only[c8,TH,WF]
   exact this)
  simpa using this
 | arr n z l cs hl hs hr ih=>exact .arr n z l cs hl hs (λi hi=>(hr i hi).noL)
 | ptr id off path hid=>
  obtain⟨h1,h2⟩:=hL id hid;simp only[D.ren];rw[<- h2];exact .ptr (m id) off path h1
 | bs id z n cap hid hcap=>
  obtain⟨h1,h2⟩:=hL id hid;simp only[D.ren];rw[<- h2];exact .bs (m id) z n cap h1 hcap
 | nilp=>exact .nilp
 | adr b=>exact .adr b
 | rp d b off cs e fz hb hG hs hr ih=>exact .rp d b off cs e fz hb hG hs hr.noL
 | map id hid=>
  obtain⟨h1,h2⟩:=hL id hid;simp only[D.ren];rw[<- h2];exact .map (m id) h1
 | nilmap=>exact .nilmap
 | fn f caps vs hl ha hr ih=>
  simp only[D.ren,ZZ]
  exact .fn f (caps.map (D.ren m)) vs (by simpa using hl) (λk hk=>by
   have hk':k<caps.length:=by simpa using hk
   rw[c8,QI];exact ha k hk') (λk hk=>by
   have hk':k<caps.length:=by simpa using hk
   rw[c8];exact ih k hk')
 | nilf=>exact .nilf
 | yld l=>exact .yld l
 | ifc t d v ha hr ih=>simp only[D.ren];exact .ifc t (d.ren m) v (by rw[QI];exact ha) ih
 | nili=>exact .nili
 | dead v h=>exact .dead v h
theorem Rc.unren{G:Nat->Prop}{m:Nat->Nat}{p:Bool}{d:D}{d':D}{cs:List Value}(h:Rc w ρ G L p d' cs F)(hd:d'=d.ren m)(hL:∀ i,L (m i)->L' i/\ρ2 i=ρ (m i)):Rc w ρ2 G L' p d cs F:=by
 induction h generalizing d with
 | bool b=>cases d<;>simp only[D.ren,reduceCtorEq] at hd;cases hd;exact .bool b
 | int n=>cases d<;>simp only[D.ren,reduceCtorEq] at hd;cases hd;exact .int n
 | u8 x=>cases d<;>simp only[D.ren,reduceCtorEq] at hd;cases hd;exact .u8 x
 | u16 x=>cases d<;>simp only[D.ren,reduceCtorEq] at hd;cases hd;exact .u16 x
 | u32 x=>cases d<;>simp only[D.ren,reduceCtorEq] at hd;cases hd;exact .u32 x
 | u64 x=>cases d<;>simp only[D.ren,reduceCtorEq] at hd;cases hd;exact .u64 x
 | ik k n=>cases d<;>simp only[D.ren,reduceCtorEq] at hd;cases hd;exact .ik k n
 | str s=>cases d<;>simp only[D.ren,reduceCtorEq] at hd;cases hd;exact .str s
 | nils=>cases d<;>simp only[D.ren,reduceCtorEq] at hd;exact .nils
 | slN o z=>cases d<;>simp only[D.ren,reduceCtorEq] at hd;cases hd;exact .slN o z
 | slE o z a=>cases d<;>simp only[D.ren,reduceCtorEq] at hd;cases hd;exact .slE o z a
 | slI b off cs e fz cap z l hb hG hc hs hr ih=>cases d<;>simp only[D.ren,reduceCtorEq] at hd;cases hd;exact .slI b off cs e fz cap z l hb hG hc hs (λi hi=>(hr i hi).noL)
 | slO b cs e cap z l Fs hb hc hm hs ho1 hr ih=>cases d<;>simp only[D.ren,reduceCtorEq] at hd;cases hd;exact .slO b cs e cap z l Fs hb hc hm hs ho1 (λi hi=>(hr i hi).noL)
 | agg l cs Fs hs hr ih=>
  cases d with
  | agg l0=>
   simp only[D.ren,D.agg.injEq,ZZ] at hd;subst hd
   have:=Rc.agg (w:=w) (ρ:=ρ2) (G:=G) (L:=L') (p:=‹Bool›) l0 cs Fs (by rw[<- ZZ,HV] at hs;exact hs) (λk hk=>by
    have:=ih k (by simpa using hk) (d:=l0[k]) (by simp);simp only[c8,TH,WF] at this
    exact this)
   simpa using this
  | _=>simp only[D.ren,reduceCtorEq] at hd
 | arr n z l cs hl hs hr ih=>cases d<;>simp only[D.ren,reduceCtorEq] at hd;cases hd;exact .arr n z l cs hl hs (λi hi=>(hr i hi).noL)
 | ptr id off path hid=>
  cases d with
  | ptr id0 off0 path0=>
   simp only[D.ren,D.ptr.injEq] at hd;obtain⟨rfl,rfl,rfl⟩:=hd;obtain⟨h1,h2⟩:=hL id0 hid;rw[<- h2];exact .ptr id0 _ _ h1
  | _=>simp only[D.ren,reduceCtorEq] at hd
 | bs id z n cap hid hcap=>
  cases d with
  | bs id0 z0 n0 cap0=>
   simp only[D.ren,D.bs.injEq] at hd;obtain⟨rfl,rfl,rfl,rfl⟩:=hd;obtain⟨h1,h2⟩:=hL id0 hid;rw[<- h2];exact .bs id0 _ _ _ h1 hcap
  | _=>simp only[D.ren,reduceCtorEq] at hd
 | nilp=>cases d<;>simp only[D.ren,reduceCtorEq] at hd;exact .nilp
 | adr b=>cases d<;>simp only[D.ren,reduceCtorEq] at hd;cases hd;exact .adr b
 | rp d0 b off cs e fz hb hG hs hr ih=>cases d<;>simp only[D.ren,reduceCtorEq] at hd;cases hd;exact .rp d0 b off cs e fz hb hG hs hr.noL
 | map id hid=>
  cases d with
  | map id0=>
   simp only[D.ren,D.map.injEq] at hd;subst hd;obtain⟨h1,h2⟩:=hL id0 hid;rw[<- h2];exact .map id0 h1
  | _=>simp only[D.ren,reduceCtorEq] at hd
 | nilmap=>cases d<;>simp only[D.ren,reduceCtorEq] at hd;exact .nilmap
 | fn f caps vs hl ha hr ih=>
  cases d with
  | fn f0 caps0=>
   simp only[D.ren,D.fn.injEq,ZZ] at hd;obtain⟨rfl,rfl⟩:=hd;exact .fn f caps0 vs (by simpa using hl) (λk hk=>by have:=ha k (by simpa using hk);rw[c8,QI] at this;exact this) (λk hk=>ih k (by simpa using hk) (by simp))
  | _=>simp only[D.ren,reduceCtorEq] at hd
 | nilf=>cases d<;>simp only[D.ren,reduceCtorEq] at hd;exact .nilf
 | yld l=>cases d<;>simp only[D.ren,reduceCtorEq] at hd;cases hd;exact .yld l
 | ifc t d0 v ha hr ih=>
  cases d with
  | ifc t1 d1=>
   simp only[D.ren,D.ifc.injEq] at hd;obtain⟨rfl,rfl⟩:=hd;exact .ifc t d1 v (by rw[QI] at ha;exact ha) (ih rfl)
  | _=>simp only[D.ren,reduceCtorEq] at hd
 | nili=>cases d<;>simp only[D.ren,reduceCtorEq] at hd;exact .nili
 | dead v h=>cases d<;>simp only[D.ren,reduceCtorEq] at hd;exact .dead v h
theorem VR.ren{G:Nat->Prop}{m:Nat->Nat}{d:D}{v:Value}(h:VR w ρ G L d v F)(hL:∀ i,L i->L' (m i)/\ρ2 (m i)=ρ i):VR w ρ2 G L' (d.ren m) v F:=by
 unfold VR at *;rw[QI]
 cases hd:d.isAgg<;>simp only[hd,j9,q8,q7] at h ⊢
 ·exact h.ren hL
 ·obtain⟨cs,rfl,h⟩:=h;exact⟨cs,rfl,h.ren hL⟩
theorem VR.unren{G:Nat->Prop}{m:Nat->Nat}{d:D}{v:Value}(h:VR w ρ G L (d.ren m) v F)(hL:∀ i,L (m i)->L' i/\ρ2 i=ρ (m i)):VR w ρ2 G L' d v F:=by
 unfold VR at *;rw[QI] at h
 cases hd:d.isAgg<;>simp only[hd,j9,q8,q7] at h ⊢
 ·exact h.unren rfl hL
 ·obtain⟨cs,rfl,h⟩:=h;exact⟨cs,rfl,h.unren rfl hL⟩
theorem RV.ren{G:Nat->Prop}{m:Nat->Nat}{d:D}{v:Value}(h:RV w ρ G L d v F)(hL:∀ i,L i->L' (m i)/\ρ2 (m i)=ρ i):RV w ρ2 G L' (d.ren m) v F:=by
 cases d with
 | tup ds=>
  obtain⟨vs,Fs,h1,h2,h3,h4⟩:=h;simp only[D.ren,ZZ];refine⟨vs,Fs,h1,by simpa using h2,by simpa using h3,λk hk=>?_⟩
  have hk':k<ds.length:=by simpa using hk
  rw[c8];exact⟨FH m _ (h4 k hk').1,(h4 k hk').2.ren hL⟩
 | _=>exact⟨FH m _ h.1,h.2.ren hL⟩
structure Hand(bx:List (Nat×Bx))(w:World)(ρ:Nat->Nat)(G:Nat->Prop)(Fb:Nat->List Nat):Prop where
 box:∀ id x,lk bx id=some x->BR w ρ G (λi=>(lk bx i).isSome=true) (ρ id) x (Fb id)
 boxN:∀ id,lk bx id=none->Fb id=[]
 nodB:∀ id,(Fb id).Nodup
 dBB:∀ id id',id≠id'->∀ b,b∈Fb id->b∉Fb id'
 out:∀ id b,b∈Fb id->¬ G b
def u97(P:Program)(gl:List (Nat×D))(f:FuncId)(ds:List D)(bx:List (Nat×Bx))(r:D)(bx' nw:List (Nat×Bx))(w:World)(G:Nat->Prop)(ρ:Nat->Nat)(Fb:Nat->List Nat)(vs:List Value):Prop:=
 (∀ g d,(g,d)∈gl->G g/\∃ cs e fz,w.heap[g]? = some (.cells cs e fz)/\Rc w (λx=>x) (λ_=>False) (λ_=>False) false d cs.toList []) ->
 (∀ b,G b->b<w.heap.size) ->
 vs.length=ds.length->(∀ k (h:k<ds.length),VR w ρ G (λi=>(lk bx i).isSome=true) ds[k] (vs.getD k undef) [])->Hand bx w ρ G Fb ->
 Calls P f vs.toArray w (λe w'=>∃ v F ρ' Fb',e=.returned v/\ExtO (λb=>∃ id,b∈Fb id) w w'/\(∀ id,(lk bx id).isSome=true->ρ' id=ρ id)/\F.Nodup /\
  (∀ b,(b∈F∨∃ id,b∈Fb' id)->w.heap.size<=b∨∃ id,b∈Fb id)/\(∀ id,∀ b∈F,b∉Fb' id)/\(∀ b∈F,b<w'.heap.size) /\
  Hand (nw++bx') w' ρ' (λb=>(G b∨w.heap.size<=b∨∃ id,b∈Fb id)/\b∉F/\¬ ∃ id,b∈Fb' id) Fb' /\
  RV w' ρ' (λb=>(G b∨w.heap.size<=b∨∃ id,b∈Fb id)/\b∉F/\¬ ∃ id,b∈Fb' id) (λi=>(lk (nw++bx') i).isSome=true) r v F)
def FnB(P:Program)(gl:List (Nat×D))(f:FuncId)(ds:List D)(bx:List (Nat×Bx))(r:D)(bx' nw:List (Nat×Bx)):Prop:=
 ∀ (w:World) (G:Nat->Prop) (ρ:Nat->Nat) (Fb:Nat->List Nat) (vs:List Value),u97 P gl f ds bx r bx' nw w G ρ Fb vs
def FnBq(q:(Nat->Nat)->Prop)(P:Program)(gl:List (Nat×D))(f:FuncId)(ds:List D)(bx:List (Nat×Bx))(r:D)(bx' nw:List (Nat×Bx)):Prop:=
 ∀ (w:World) (G:Nat->Prop) (ρ:Nat->Nat) (Fb:Nat->List Nat) (vs:List Value),q ρ->u97 P gl f ds bx r bx' nw w G ρ Fb vs
abbrev FnBa(id b:Nat)(P:Program)(gl:List (Nat×D))(f:FuncId)(ds:List D)(bx:List (Nat×Bx))(r:D)(bx' nw:List (Nat×Bx)):Prop:=FnBq (λρ=>ρ id=b) P gl f ds bx r bx' nw
def EndR(rs:List ResultVar)(P:Program)(r:D)(σ:Sg):Prop:=
 match rs with
 | [rv]=>YI σ rv=some r/\r.isRef=false/\WY P r rv
 | rs=>∃ ds,r=.tup ds/\ds.length=rs.length/\(rs.map (R4 σ)).Nodup/\∀ k (h:k<rs.length) (h':k<ds.length),YI σ rs[k]=some ds[k]/\ds[k].isRef=false/\WY P ds[k] rs[k]
theorem EndR.out{fn:Func}{r:D}(st:StW C σ a w ρ Fe Fb)(hend:EndR fn.results.toList P r σ) :
 ∃ v,(results fn a.tmps).run P w=.ok v w/\∃ F,F.Nodup/\(∀ b∈F,∃ rv∈fn.results.toList,b∈(if(R4 σ rv).2 then Fe (R4 σ rv).1 else Fb (R4 σ rv).1))/\RV w ρ (gd C Fe Fb) (λid=>(σ.box id).isSome=true) r v F:=by
 have one:∀ rv,fn.results.toList=[rv]->YI σ rv=some r/\r.isRef=false/\WY P r rv ->
  ∃ v,(results fn a.tmps).run P w=.ok v w/\∃ F,F.Nodup/\(∀ b∈F,∃ rv∈fn.results.toList,b∈(if(R4 σ rv).2 then Fe (R4 σ rv).1 else Fb (R4 σ rv).1))/\RV w ρ (gd C Fe Fb) (λid=>(σ.box id).isSome=true) r v F:=by
  rintro rv hrs ⟨h1,h2,h4⟩;obtain⟨v,F,hv1,hv2,hv3,hv4⟩:=MU (P:=P) st h1 h2 h4;refine⟨v, ?_,F,hv3,λb hb=>⟨rv,by rw[hrs];simp,hv4 b hb⟩,(CB h2).2 hv2⟩
  rw[QO hrs (λ_=>v) w (λk hk=>by
   have:k=0:=by simp at hk;omega
   subst this;exact hv1)]
  rfl
 have many:∀ rs,fn.results.toList=rs->rs.length≠1->(∃ ds,r=.tup ds/\ds.length=rs.length/\(rs.map (R4 σ)).Nodup/\∀ k (h:k<rs.length) (h':k<ds.length),YI σ rs[k]=some ds[k]/\ds[k].isRef=false/\WY P ds[k] rs[k]) ->
  ∃ v,(results fn a.tmps).run P w=.ok v w/\∃ F,F.Nodup/\(∀ b∈F,∃ rv∈fn.results.toList,b∈(if(R4 σ rv).2 then Fe (R4 σ rv).1 else Fb (R4 σ rv).1))/\RV w ρ (gd C Fe Fb) (λid=>(σ.box id).isSome=true) r v F:=by
  rintro rs hrs hne ⟨ds',rfl,hl',hnd,hall⟩
  have hk:∀ k,∃ vF:Value×List Nat,k<rs.length->∃ (h:k<rs.length) (h':k<ds'.length),
   (SL a.tmps rs[k]).run P w=.ok vF.1 w /\
   VR w ρ (gd C Fe Fb) (λid=>(σ.box id).isSome) ds'[k] vF.1 vF.2/\vF.2.Nodup/\(∀ b∈vF.2,b∈(if(R4 σ rs[k]).2 then Fe (R4 σ rs[k]).1 else Fb (R4 σ rs[k]).1)):=by
   intro k;by_cases hk:k<rs.length
   ·have hk':k<ds'.length:=by omega
    obtain⟨h1,h2,h4⟩:=hall k hk hk';obtain⟨v,F,q⟩:=MU (P:=P) st h1 h2 h4;exact⟨(v,F),λ_=>⟨hk,hk',q⟩⟩
   ·exact⟨(undef,[]),λh=>absurd h hk⟩
  obtain⟨vF,hk⟩:=Classical.skolem.1 hk
  have hdis:∀ j k,j<rs.length->k<rs.length->j≠k->∀ b,b∈(vF j).2->b∉(vF k).2:=by
   intro j k hj hkk hjk b hb hb';obtain⟨h,h',q1,q2,q3,q4⟩:=hk j hj;obtain⟨g,g',p1,p2,p3,p4⟩:=hk k hkk;have e1:=q4 b hb;have e2:=p4 b hb'
   have hne:R4 σ rs[j]≠R4 σ rs[k]:=by
    intro he;have:=(List.getElem_inj (h₀:=by simpa using hj) (h₁:=by simpa using hkk) hnd).1 (by simpa using he);exact hjk this
   generalize R4 σ rs[j]=x at e1 hne;generalize R4 σ rs[k]=y at e2 hne;obtain⟨x1,x2⟩:=x;obtain⟨y1,y2⟩:=y
   cases x2<;>cases y2<;>simp at e1 e2 hne
   ·exact st.dBB x1 y1 hne b e1 e2
   ·exact st.dEB y1 x1 b e2 e1
   ·exact st.dEB x1 y1 b e1 e2
   ·exact st.dEE x1 y1 hne b e1 e2
  refine⟨.tuple ((List.range rs.length).map (λk=>(vF k).1)).toArray, ?_,(List.range ds'.length).flatMap (λk=>(vF k).2), ?_, ?_,_,(λk=>(vF k).2),rfl,by simp[hl'],rfl, ?_⟩
  ·rw[QO hrs (λk=>(vF k).1) w (λk hk'=>by obtain⟨_,_,q,_⟩:=hk k hk';exact q),w3 hne]
  ·refine N7 (λk hkk=>?_) (λj k hj hkk=>hdis j k (by omega) (by omega));obtain⟨h,h',q1,q2,q3,q4⟩:=hk k (by omega);exact q3
  ·intro b hb;obtain⟨k,hk1,hk2⟩:=w8.1 hb
   have hkl:k<rs.length:=by have:=j7.1 hk1;omega
   obtain⟨h,h',q1,q2,q3,q4⟩:=hk k hkl;exact⟨rs[k],by rw[hrs];exact g6 hkl,q4 b hk2⟩
  ·intro k hkk;obtain⟨h,h',q1,q2,q3,q4⟩:=hk k (by omega);obtain⟨h1,h2,h4⟩:=hall k (by omega) hkk;refine⟨h2, ?_⟩
   have e:((List.range rs.length).map (λk=>(vF k).1)).getD k undef=(vF k).1:=by
    have:k<rs.length:=by omega
    simp[K8,J2,T9 this]
   rw[e];exact q2
 cases hrs:fn.results.toList with
 | nil=>rw[hrs] at hend;rw[<- hrs];exact many [] hrs (by simp) hend
 | cons rv rest=>
  cases rest with
  | nil=>rw[hrs] at hend;rw[<- hrs];exact one rv hrs hend
  | cons rv2 rest=>rw[hrs] at hend;rw[<- hrs];exact many _ hrs (by simp) hend
def ZK(ids:List Nat):List (Nat×Bx)->Prop
 | []=>True
 | (_,.var d)::r=>d.okB ids=true/\ZK ids r
 | (_,.mp l)::r=>(∀ kv∈l,kv.1.okB ids=true/\kv.2.okB ids=true)/\ZK ids r
theorem JU{ids:List Nat}{l:List (Nat×Bx)}(h:ZK ids l){t:Nat}{b:Bx}(hd:lk l t=some b):(∃ d,b=.var d/\d.okB ids=true)∨(∃ m,b=.mp m/\∀ kv∈m,kv.1.okB ids=true/\kv.2.okB ids=true):=by
 induction l with
 | nil=>simp[lk] at hd
 | cons x r ih=>
  obtain⟨k,e⟩:=x;rw[U2] at hd
  cases e with
  | mp e=>
   by_cases hk:k=t
   ·simp only[hk,j9,z6] at hd;subst hd;exact .inr ⟨e,rfl,h.1⟩
   ·simp only[hk,q8] at hd;exact ih h.2 hd
  | var e=>
   by_cases hk:k=t
   ·simp only[hk,j9,z6] at hd;subst hd;exact .inl ⟨e,rfl,h.1⟩
   ·simp only[hk,q8] at hd;exact ih h.2 hd
theorem BR.okB{ids:List Nat}{G:Nat->Prop}{b:Nat}{x:Bx}(h:BR w ρ G L b x F)(hx:(∃ d,x=.var d/\d.okB ids=true)∨(∃ m,x=.mp m/\∀ kv∈m,kv.1.okB ids=true/\kv.2.okB ids=true)):BR w ρ G (λid=>K2 ids id=true/\L id) b x F:=by
 rcases hx with ⟨d,rfl,hd⟩|⟨m,rfl,hm⟩
 ·obtain⟨cs,e,F',h1,h2,h3⟩:=h;exact⟨cs,e,F',h1,h2.okB hd,h3⟩
 ·obtain⟨h1,es,clock,h2,h3,h4⟩:=h;refine⟨h1,es,clock,h2,h3,λk hk=>?_⟩;obtain⟨q1,q2⟩:=h4 k hk;obtain⟨o1,o2⟩:=hm _ (g6 hk);exact⟨q1.okB o1,q2.okB o2⟩
theorem RV.okB{ids:List Nat}{G:Nat->Prop}{r:D}{v:Value}(h:RV w ρ G L r v F)(hr:r.okB ids=true):RV w ρ G (λid=>K2 ids id=true/\L id) r v F:=by
 cases r with
 | tup ds=>
  obtain⟨vs,Fs,h1,h2,h3,h4⟩:=h;exact⟨vs,Fs,h1,h2,h3,λk hk=>⟨(h4 k hk).1,(h4 k hk).2.okB (XT ds (by simpa [D.okB] using hr) k hk)⟩⟩
 | _=>exact⟨h.1,h.2.okB hr⟩
def EndsB(rs:List ResultVar)(P:Program)(r:D)(ids:List Nat)(bx':List (Nat×Bx))(e:Exit)(σ:Sg):Prop:=
 (e=.normal∨e=.ret)/\EndR rs P r σ/\r.okB ids=true/\M9 ids σ.bx=bx'/\ZK ids bx'/\(∀ rv∈rs,(R4 σ rv).2=false->K2 ids (R4 σ rv).1=false)
theorem QF(l r:List (Nat×α))(t:Nat):lk (l++r) t=(match lk l t with|some x=>some x|none=>lk r t):=by
 induction l with
 | nil=>simp[lk]
 | cons x l ih=>
  obtain⟨k,d⟩:=x;simp only[E0,U2,ih]
  split<;>simp_all
theorem k77{bx:List (Nat×Bx)}{id:Nat}(h:(lk bx id).isSome=true):N3 (bx.map Prod.fst) id=true:=by
 induction bx with
 | nil=>cases h
 | cons x r ih=>
  obtain⟨k,b⟩:=x;rw[U2] at h;simp only[N3,b9,List.any_cons,Y2];by_cases hk:k=id
  ·subst hk;left;simp
  ·simp only[hk,q8] at h;exact .inr (ih h)
theorem FnBq.of{q:(Nat->Nat)->Prop}{gl:List (Nat×D)}{f:FuncId}{fn:Func}{c:Code}{ds:List D}{bx:List (Nat×Bx)}{r:D}{n:Nat}{ids:List Nat}(hf:P.funcs[f]? = some fn)(hb:fn.body=some c)(hnn:fn.ntmps=n)
 (hd:ds.all (λd=>!d.isRef)=true) (hn:ds.length<=n)
 (h:∀ C:Ctx,C.gl=gl->(∀ id b,C.pin id=some b->N3 (bx.map Prod.fst) id=true)->(∃ ρ0,q ρ0/\∀ id,(lk bx id).isSome=true->C.pin id=some (ρ0 id))->W P C c (EndsB fn.results.toList P r ids (nw++bx')) ⟨n,ini 0 ds,bx⟩):FnBq q P gl f ds bx r bx' nw:=by
 subst hnn;intro w G ρ0 Fb0 vs hq0 hgl hGlt hl hv hand;refine calls_of_wp hf hb ?_
 let C:Ctx:=⟨w,λb=>b<w.heap.size/\¬ ∃ id,b∈Fb0 id,λb=>G b∨w.heap.size<=b∨∃ id,b∈Fb0 id,gl,none,λid=>if(lk bx id).isSome then some (ρ0 id) else none,[]⟩
 have hget:∀ t d,(⟨fn.ntmps,ini 0 ds,bx⟩:Sg).get t=some d->∃ h:t<ds.length,ds[t]=d:=by
  intro t d hd;simp only[Sg.get,OH,g9,j9,O7] at hd;obtain⟨h,e⟩:=z8.1 hd;exact⟨h,e⟩
 have hown:∀ b,own (λ_=>[]) Fb0 b->∃ id,b∈Fb0 id:=by
  rintro b (⟨_,h⟩|h)
  ·cases h
  ·exact h
 have hbx:∀ id,(⟨fn.ntmps,ini 0 ds,bx⟩:Sg).box id=lk bx id:=λid=>rfl
 have hFlt:∀ id b,b∈Fb0 id->b<w.heap.size:=λid b hb=>by
  cases hx:lk bx id with
  | none=>rw[hand.boxN id hx] at hb;cases hb
  | some x=>exact(hand.box id x hx).lt b hb
 have hG2:∀ b,G b->gd C (λ_=>[]) Fb0 b:=λb hb=>⟨.inl hb,λho=>by obtain⟨id,hid⟩:=hown b ho;exact hand.out id b hid hb⟩
 have hpin0:∀ id b,C.pin id=some b->ρ0 id=b/\(lk bx id).isSome=true:=λid b hp=>by
  by_cases hx:(lk bx id).isSome=true
  ·simp only[C,hx,j9,z6] at hp;exact⟨hp,hx⟩
  ·simp[C,hx] at hp
 have st:StW C ⟨fn.ntmps,ini 0 ds,bx⟩ { tmps:=vs.toArray++Array.replicate (fn.ntmps-vs.toArray.size) undef,defers:=[] } w ρ0 (λ_=>[]) Fb0:=by
  refine⟨?_,rfl,(λid b hp=>hpin0 id b hp), ?_,λ_ _=>rfl, ?_,hand.boxN,λ_=>w9,hand.nodB,(λ_ _ _ _ h=>by cases h),(λ_ _ _ h=>by cases h),hand.dBB,λb hb hc=>hc.2 (hown b hb), ?_,rfl,⟨rfl,z7 _⟩,rfl,z7 _, ?_,λb hb=>.inr (.inl hb),λb hb=>.inr (.inr (hown b hb))⟩
  ·simp[hl];omega
  ·intro t d hd';obtain⟨ht,rfl⟩:=hget t d hd'
   have hr:ds[t].isRef=false:=by
    have:=o8.1 hd ds[t] (g6 ht);simpa using this
   refine(c5 hr).2 ⟨vs.getD t undef, ?_,(hv t ht).mono (λ_ _ _=>rfl) (λb hb _=>hG2 b hb) (λid hid=>⟨hid,rfl⟩)⟩
   have htv:t<vs.length:=by omega
   rw[X2 (by simpa using htv)];simp[htv]
  ·intro id x hx;exact(hand.box id x hx).mono (λ_ _ _=>rfl) (λb hb _=>hG2 b hb) (λid hid=>⟨hid,rfl⟩)
  ·intro b hb;exact⟨rfl,hb.1⟩
  ·intro g d hg;obtain⟨h1,cs,e,fz,h2,h3⟩:=hgl g d hg;exact⟨⟨(j6.1 h2).1,λ⟨id,hid⟩=>hand.out id g hid h1⟩,.inl h1,cs,e,fz,h2,h3⟩
 refine W1 ?_ (wpIn_wide.1 (h C rfl (λid b hp=>k77 (hpin0 id b hp).2) ⟨ρ0,hq0,λid hi=>by simp only[C,hi,j9]⟩ _ w ⟨_,_,_,st⟩));rintro e a' w' ⟨σ',⟨ρ,Fe,Fb,st'⟩,he,hend,hokr,hkeep,hokb,hsrc⟩;have hlt':=st'.lt
 have hl':∀ u,lk (nw++bx') u=if K2 ids u then σ'.box u else none:=λu=>by rw[<- hkeep];exact l6 ids σ'.bx u
 obtain⟨v,h1,F,h2,h3,h4⟩:=EndR.out st' hend
 let Fb':Nat->List Nat:=λid=>if K2 ids id then Fb id else[]
 have hsub:∀ id,∀ b∈Fb' id,K2 ids id=true/\b∈Fb id:=λid b hm=>by
  by_cases hi:K2 ids id=true
  ·exact⟨hi,by simpa [Fb',hi] using hm⟩
  ·simp[Fb',hi] at hm
 have hFo:∀ b∈F,own Fe Fb b:=λb hb=>by
  obtain⟨rv,_,hx⟩:=h3 b hb;split at hx
  ·exact .inl ⟨_,hx⟩
  ·exact .inr ⟨_,hx⟩
 have hnew:∀ b,own Fe Fb b->w.heap.size<=b∨∃ id,b∈Fb0 id:=λb hb=>by
  by_cases hbl:w.heap.size<=b
  ·exact .inl hbl
  ·right;by_cases hx:∃ id,b∈Fb0 id
   ·exact hx
   ·exact absurd ⟨by omega,hx⟩ (st'.new b hb)
 have hFd:∀ id,∀ b∈F,b∉Fb' id:=λid b hb hb'=>by
  obtain⟨hi,hb'⟩:=hsub id b hb';obtain⟨rv,hrv,hx⟩:=h3 b hb;split at hx
  ·exact st'.dEB _ id b hx hb'
  ·rename_i hs;have:=hsrc rv hrv (by simpa using hs);by_cases hii:(R4 σ' rv).1=id
   ·rw[hii] at this;rw[this] at hi;cases hi
   ·exact st'.dBB _ _ hii b hx hb'
 have hgd:∀ b,gd C Fe Fb b->(G b∨w.heap.size<=b∨∃ id,b∈Fb0 id)/\b∉F/\¬ ∃ id,b∈Fb' id:=λb hb=>
  ⟨hb.1,λhm=>hb.2 (hFo b hm),λ⟨id,hid⟩=>hb.2 (.inr ⟨id,(hsub id b hid).2⟩)⟩
 have hL:∀ id,(K2 ids id=true/\(σ'.box id).isSome=true)->(lk (nw++bx') id).isSome=true:=λid ⟨q1,q2⟩=>by rw[hl',u4 q1];exact q2
 have hρ:∀ id,(lk bx id).isSome=true->ρ id=ρ0 id:=λid hx=>(st'.pin id (ρ0 id) (by simp[C,hx])).1
 have hext:ExtO (λb=>∃ id,b∈Fb0 id) w w':=⟨st'.os,⟨st'.tape.tp,st'.tape.dr⟩,st'.output,st'.grown,λb hb hn=>(st'.kept b ⟨hb,hn⟩).1⟩
 have hhand:Hand (nw++bx') w' ρ (λb=>(G b∨w.heap.size<=b∨∃ id,b∈Fb0 id)/\b∉F/\¬ ∃ id,b∈Fb' id) Fb':=by
  refine⟨λid x hx=>?_,λid hx=>?_,λid=>?_,λid id' hne b hb hb'=>st'.dBB id id' hne b (hsub id b hb).2 (hsub id' b hb').2,λid b hb hc=>hc.2.2 ⟨id,hb⟩⟩
  ·have hx':=hl' id;rw[hx] at hx';by_cases hm:K2 ids id=true
   ·rw[u4 hm] at hx'
    have hF':Fb' id=Fb id:=by simp[Fb',hm]
    rw[hF'];exact((st'.bx id x hx'.symm).okB (JU hokb hx)).mono (λ_ _ _=>rfl) (λb hb _=>hgd b hb) (λi hi=>⟨hL i hi,rfl⟩)
   ·rw[w3 hm] at hx';cases hx'
  ·by_cases hm:K2 ids id=true
   ·have hx':=hl' id;rw[hx,u4 hm] at hx';simp only[Fb',hm,j9];exact st'.bxN id hx'.symm
   ·simp[Fb',hm]
  ·show(if K2 ids id then Fb id else[]).Nodup;split
   ·exact st'.nodB id
   ·exact w9
 have hall:∃ v' F ρ' Fb',(Ending.returned v)=.returned v'/\ExtO (λb=>∃ id,b∈Fb0 id) w w'/\(∀ id,(lk bx id).isSome=true->ρ' id=ρ0 id)/\F.Nodup /\
  (∀ b,(b∈F∨∃ id,b∈Fb' id)->w.heap.size<=b∨∃ id,b∈Fb0 id)/\(∀ id,∀ b∈F,b∉Fb' id)/\(∀ b∈F,b<w'.heap.size) /\
  Hand (nw++bx') w' ρ' (λb=>(G b∨w.heap.size<=b∨∃ id,b∈Fb0 id)/\b∉F/\¬ ∃ id,b∈Fb' id) Fb' /\
  RV w' ρ' (λb=>(G b∨w.heap.size<=b∨∃ id,b∈Fb0 id)/\b∉F/\¬ ∃ id,b∈Fb' id) (λi=>(lk (nw++bx') i).isSome=true) r v' F:=
  ⟨v,F,ρ,Fb',rfl,hext,hρ,h2,λb hb=>hnew b (hb.elim (hFo b) (λ⟨id,hid⟩=>.inr ⟨id,(hsub id b hid).2⟩)),hFd,λb hb=>hlt' b (hFo b hb),hhand,
   (h4.okB hokr).mono (λ_ _ _=>rfl) (λb hb _=>hgd b hb) (λi hi=>⟨hL i hi,rfl⟩)⟩
 rcases he with rfl|rfl
 ·exact⟨st'.defs,v,h1,hall⟩
 ·exact⟨st'.defs,v,h1,hall⟩
theorem FnB.of{gl:List (Nat×D)}{f:FuncId}{fn:Func}{c:Code}{ds:List D}{bx:List (Nat×Bx)}{r:D}{n:Nat}{ids:List Nat}(hf:P.funcs[f]? = some fn)(hb:fn.body=some c)(hnn:fn.ntmps=n)
 (hd:ds.all (λd=>!d.isRef)=true) (hn:ds.length<=n)
 (h:∀ C:Ctx,C.gl=gl->(∀ id b,C.pin id=some b->N3 (bx.map Prod.fst) id=true)->W P C c (EndsB fn.results.toList P r ids (nw++bx')) ⟨n,ini 0 ds,bx⟩):FnB P gl f ds bx r bx' nw:=
 λw G ρ Fb vs=>(FnBq.of (q:=λ_=>True) hf hb hnn hd hn λC h1 h2 _=>h C h1 h2) w G ρ Fb vs trivial
theorem FnBa.of{id b:Nat}{gl:List (Nat×D)}{f:FuncId}{fn:Func}{c:Code}{ds:List D}{bx:List (Nat×Bx)}{r:D}{n:Nat}{ids:List Nat}(hf:P.funcs[f]? = some fn)(hb:fn.body=some c)(hnn:fn.ntmps=n)
 (hd:ds.all (λd=>!d.isRef)=true) (hn:ds.length<=n) (hi:(lk bx id).isSome=true)
 (h:∀ C:Ctx,C.gl=gl->(∀ id b,C.pin id=some b->N3 (bx.map Prod.fst) id=true)->C.pin id=some b->W P C c (EndsB fn.results.toList P r ids (nw++bx')) ⟨n,ini 0 ds,bx⟩):FnBa id b P gl f ds bx r bx' nw:=
 FnBq.of hf hb hnn hd hn λC h1 h2 ⟨ρ0,h3,h4⟩=>h C h1 h2 (by rw[h4 id hi,h3])
end
section
variable{pos:String}{aft:Array Edge}{g:Option (Nat×Bool)}
variable{P:Program}{C:Ctx}{σ σ' σ1 σ2:Sg}{a:Act}{w w':World}{ρ ρ2:Nat->Nat}{Fe Fe' Fb Fb2:Nat->List Nat}
def mlk(ml:List (Nat×Nat))(i:Nat):Nat:=match lk ml i with
 | some k=>k
 | none=>i
def Bx.ren(m:Nat->Nat):Bx->Bx
 | .var d=>.var (d.ren m)
 | .mp l=>.mp (l.map λkv=>(kv.1.ren m,kv.2.ren m))
def Z0(m:Nat->Nat):List (Nat×Bx)->List (Nat×Bx)
 | []=>[]
 | (k,x)::r=>(m k,x.ren m)::Z0 m r
def XD(l:List (Nat×Bx)):List (Nat×Bx)->Prop
 | []=>True
 | (k,y)::r=>lk l k=some y/\XD l r
def XN(l:List (Nat×Bx)):List (Nat×Bx)->Bool
 | []=>true
 | (k,_)::r=>(lk l k).isNone&&XN l r
def EZ(m:Nat->Nat)(ks:List Nat):Bool:=ks.all λi=>ks.all λj=>!(Nat.beq (m i) (m j))||Nat.beq i j
def f9(c:List (Nat×Bx)):List (Nat×Bx)->List (Nat×Bx)
 | []=>[]
 | (k,x)::r=>(k,match lk c k with|some y=>y|none=>x)::f9 c r
def ZN:List Nat->List (Nat×D)->List (Nat×D)
 | [],l=>l
 | id::r,l=>ZN r (scrubs id l)
theorem DZ(id:Nat)(d:D):(ZQ id d=d/\∀ off path,d≠.alb id off path)∨(ZQ id d=.dead/\∃ off path,d=.alb id off path):=by
 cases d with
 | alb i off path=>
  by_cases h:i=id
  ·subst h;right;simp[ZQ]
  ·left;simp[ZQ,nbeq h,h]
 | _=>left;exact⟨rfl,λ_ _ h=>by cases h⟩
theorem WV(ids:List Nat):∀ (l:List (Nat×D)) (u:Nat) (d:D),lk (ZN ids l) u=some d ->
 ∃ d0,lk l u=some d0/\(d=d0/\(∀ id off path,d0=.alb id off path->id∉ids)∨d=.dead/\∃ id off path,d0=.alb id off path):=by
 induction ids with
 | nil=>intro l u d h;exact⟨d,h,.inl ⟨rfl,λ_ _ _ _=>by simp⟩⟩
 | cons id r ih=>
  intro l u d h;obtain⟨d1,h1,h2⟩:=ih (scrubs id l) u d h;rw[GO,p9] at h1;obtain⟨d0,h0,rfl⟩:=h1;refine⟨d0,h0, ?_⟩
  rcases DZ id d0 with ⟨he,hn⟩|⟨he,off,path,rfl⟩
  ·rw[he] at h2
   rcases h2 with ⟨rfl,h2⟩|h2
   ·refine .inl ⟨rfl,λi off path hd=>?_⟩;have:=h2 i off path hd;intro hm
    rcases w5.1 hm with rfl|hm
    ·exact hn off path hd
    ·exact this hm
   ·exact .inr h2
  ·right;refine⟨?_,id,off,path,rfl⟩;rw[he] at h2
   rcases h2 with ⟨rfl,_⟩|⟨_,_,_,_,h2⟩
   ·rfl
   ·cases h2
theorem SD(ids:List Nat):∀ (l:List (Nat×D)) (u:Nat),lk (ZN ids l) u=none->lk l u=none:=by
 induction ids with
 | nil=>intro l u h;exact h
 | cons id r ih=>
  intro l u h;have:=ih _ _ h;rw[GO,n3] at this;exact this
theorem TC(c l:List (Nat×Bx))(u:Nat):lk (f9 c l) u=(lk l u).map λx=>(match lk c u with|some y=>y|none=>x):=by
 induction l with
 | nil=>rfl
 | cons x r ih=>
  obtain⟨k,d⟩:=x;simp only[f9,U2,ih];by_cases hk:k=u
  ·subst hk;simp
  ·simp[hk]
theorem BK{l:List (Nat×Bx)}{k:Nat}{x:Bx}(h:lk l k=some x):(k,x)∈l:=by
 induction l with
 | nil=>cases h
 | cons y r ih=>
  obtain⟨k',d⟩:=y;rw[U2] at h;by_cases hk:k'=k
  ·subst hk;simp at h;subst h;simp
  ·simp only[hk,q8] at h;exact j1 _ (ih h)
theorem O5{l:List (Nat×Bx)}{k:Nat}:(lk l k).isSome=true↔k∈l.map Prod.fst:=by
 induction l with
 | nil=>simp[lk]
 | cons y r ih=>
  obtain⟨k',d⟩:=y;rw[U2];by_cases hk:k'=k
  ·subst hk;simp
  ·simp only[hk,q8,ih,b9,w5];exact⟨.inr,λh=>h.resolve_left (λe=>hk e.symm)⟩
theorem OG{m:Nat->Nat}{l:List (Nat×Bx)}{i:Nat}(h:∀ j∈l.map Prod.fst,m j=m i->j=i):lk (Z0 m l) (m i)=(lk l i).map (Bx.ren m):=by
 induction l with
 | nil=>rfl
 | cons y r ih=>
  obtain⟨k',d⟩:=y;simp only[Z0,U2];by_cases hk:k'=i
  ·subst hk;simp
  ·have hm:m k'≠m i:=λe=>hk (h k' (by simp) e);simp only[hm,hk,q8];exact ih (λj hj=>h j (by simp at hj ⊢;exact .inr hj))
theorem ZI(m:Nat->Nat)(l:List (Nat×Bx)):(Z0 m l).map Prod.fst=(l.map Prod.fst).map m:=by
 induction l with
 | nil=>rfl
 | cons y r ih=>obtain⟨k',d⟩:=y;simp[Z0,ih]
theorem XW{l c:List (Nat×Bx)}(h:XD l c):∀ k y,(k,y)∈c->lk l k=some y:=by
 induction c with
 | nil=>intro k y hm;cases hm
 | cons x r ih=>
  obtain⟨k',d⟩:=x;intro k y hm
  rcases w5.1 hm with he|hm
  ·cases he;exact h.1
  ·exact ih h.2 k y hm
theorem ER{m:Nat->Nat}{l:List (Nat×Bx)}{k:Nat}{x:Bx}(h:(k,x)∈l):(m k,x.ren m)∈Z0 m l:=by
 induction l with
 | nil=>cases h
 | cons y r ih=>
  obtain⟨k',d⟩:=y;simp only[Z0]
  rcases w5.1 h with he|hm
  ·cases he;simp
  ·exact j1 _ (ih hm)
theorem q24{l c:List (Nat×Bx)}(h:XN l c=true):∀ k,k∈c.map Prod.fst->lk l k=none:=by
 induction c with
 | nil=>intro k hm;cases hm
 | cons x r ih=>
  obtain⟨k',d⟩:=x;simp only[XN,u6,D5] at h;intro k hm;simp only[b9,w5] at hm
  rcases hm with rfl|hm
  ·exact h.1
  ·exact ih h.2 k hm
theorem TP{m:Nat->Nat}{ks:List Nat}(h:EZ m ks=true):∀ i∈ks,∀ j∈ks,m i=m j->i=j:=by
 intro i hi j hj he;have h1:=o8.1 (o8.1 h i hi) j hj;simp only[Y2,D1] at h1
 rcases h1 with h1|h1
 ·rw[he] at h1;simp at h1
 ·exact m8 h1
theorem BR.ren{G:Nat->Prop}{m:Nat->Nat}{b:Nat}{x:Bx}(h:BR w ρ G L b x F)(hL:∀ i,L i->L' (m i)/\ρ2 (m i)=ρ i):BR w ρ2 G L' b (x.ren m) F:=by
 cases x with
 | var d=>obtain⟨cs,e,F',h1,h2,h3⟩:=h;exact⟨cs,e,F',h1,h2.ren hL,h3⟩
 | mp l=>
  obtain⟨h1,es,clock,h2,h3,h4⟩:=h;refine⟨h1,es,clock,h2,by simpa using h3,λk hk=>?_⟩
  have hk':k<l.length:=by simpa using hk
  obtain⟨q1,q2⟩:=h4 k hk';simp only[c8];exact⟨q1.ren hL,q2.ren hL⟩
theorem BR.unren{G:Nat->Prop}{m:Nat->Nat}{b:Nat}{x:Bx}(h:BR w ρ G L b (x.ren m) F)(hL:∀ i,L (m i)->L' i/\ρ2 i=ρ (m i)):BR w ρ2 G L' b x F:=by
 cases x with
 | var d=>obtain⟨cs,e,F',h1,h2,h3⟩:=h;exact⟨cs,e,F',h1,h2.unren rfl hL,h3⟩
 | mp l=>
  obtain⟨h1,es,clock,h2,h3,h4⟩:=h;refine⟨h1,es,clock,h2,by simpa using h3,λk hk=>?_⟩;obtain⟨q1,q2⟩:=h4 k (by simpa using hk);simp only[c8] at q1 q2;exact⟨q1.unren hL,q2.unren hL⟩
inductive EvB(gl:List (Nat×D))(σ:Sg)(m:Nat->Nat)(ids:List Nat):List Operand->List D->Prop
 | nil:EvB gl σ m ids [] []
 | cons {x:Operand} {d d':D} {xs:List Operand} {ds:List D} (h:ev gl σ x=some d') (hp:d'.pur=true) (he:d.ren m=d') (ho:d.okB ids=true) (t:EvB gl σ m ids xs ds):EvB gl σ m ids (x::xs) (d::ds)
 | nils {x:Operand} {z:Nat} {xs:List Operand} {ds:List D} (h:ev gl σ x=some .nils) (t:EvB gl σ m ids xs ds):EvB gl σ m ids (x::xs) (.sl none z []::ds)
theorem EvB.len{gl:List (Nat×D)}{m:Nat->Nat}{ids:List Nat}{xs:List Operand}{ds:List D}(h:EvB gl σ m ids xs ds):xs.length=ds.length:=by
 induction h with
 | nil=>rfl
 | cons _ _ _ _ _ ih=>simp[ih]
 | nils _ _ ih=>simp[ih]
theorem EvB.ok(st:StW C σ a w ρ Fe Fb){m:Nat->Nat}{ids:List Nat}{xs:List Operand}{ds:List D}(h:EvB C.gl σ m ids xs ds) :
 ∀ k (hk:k<ds.length),VR w (λi=>ρ (m i)) (gd C Fe Fb) (λi=>K2 ids i=true/\(σ.box (m i)).isSome=true) ds[k] ((xs.map a.eval).getD k undef) []:=by
 induction h with
 | nil=>intro k hk;simp at hk
 | cons h hp he ho t ih=>
  intro k hk
  cases k with
  | zero=>
   obtain⟨F,hv,_⟩:=H5 st h (D9 hp);have hF:=hv.pur hp;rw[hF] at hv;subst he;have h1:VR w (λi=>ρ (m i)) (gd C Fe Fb) (λi=>(σ.box (m i)).isSome=true) _ (a.eval _) []:=hv.unren (λi hi=>⟨hi,rfl⟩);simpa using h1.okB ho
  | succ k=>simpa using ih k (by simpa using hk)
 | nils h t ih=>
  intro k hk
  cases k with
  | zero=>
   obtain⟨F,hv,_⟩:=H5 st h rfl;simp only[VR,D.isAgg,q7,q8] at hv;have:=hv.nil_val;simp only[b9,List.getD_cons_zero,Z2,VR,D.isAgg,q7,q8];rw[this];exact .slN none _
  | succ k=>simpa using ih k (by simpa using hk)
open Classical in
theorem StW.callB(st:StW C σ a w ρ Fe Fb){m:Nat->Nat}{bx:List (Nat×Bx)}(hlk:XD σ.bx (Z0 m bx))(hob:ZK (bx.map Prod.fst) bx)
 (hk:bx'.map Prod.fst=bx.map Prod.fst) (hfr:XN σ.bx (Z0 m nw)=true) (hinj:EZ m ((nw++bx').map Prod.fst)=true) :
 Hand bx w (λi=>ρ (m i)) (gd C Fe Fb) (λi=>if(lk bx i).isSome then Fb (m i) else[]) /\
 ∀ (w':World) (F:List Nat) (ρ':Nat->Nat) (Fb':Nat->List Nat),ExtO (λb=>∃ id,b∈(if(lk bx id).isSome then Fb (m id) else[])) w w'->(∀ id,(lk bx id).isSome=true->ρ' id=ρ (m id))->F.Nodup ->
  (∀ b,(b∈F∨∃ id,b∈Fb' id)->w.heap.size<=b∨∃ id,b∈(if(lk bx id).isSome then Fb (m id) else[]))->(∀ id,∀ b∈F,b∉Fb' id)->(∀ b∈F,b<w'.heap.size) ->
  Hand (nw++bx') w' ρ' (λb=>(gd C Fe Fb b∨w.heap.size<=b∨∃ id,b∈(if(lk bx id).isSome then Fb (m id) else[]))/\b∉F/\¬ ∃ id,b∈Fb' id) Fb' ->
  ∃ ρ2 Fb2,StW (C.less F) ⟨σ.n,ZN ((Z0 m bx).map Prod.fst) σ.env,Z0 m nw++f9 (Z0 m bx') σ.bx⟩ a w' ρ2 Fe Fb2 /\
   (∀ r v,RV w' ρ' (λb=>(gd C Fe Fb b∨w.heap.size<=b∨∃ id,b∈(if(lk bx id).isSome then Fb (m id) else[]))/\b∉F/\¬ ∃ id,b∈Fb' id) (λi=>(lk (nw++bx') i).isSome=true) r v F ->
    RV w' ρ2 (λb=>gd C Fe Fb2 b/\b∉F) (λi=>(lk (Z0 m nw++f9 (Z0 m bx') σ.bx) i).isSome=true) (r.ren m) v F) /\
   (∀ u,∀ b∈F,b∉Fe u)/\(∀ id,∀ b∈F,b∉Fb2 id)/\(∀ b∈F,¬ C.keep b)/\(∀ b∈F,C.ok b):=by
 have hlt:=st.lt;have hij:=TP hinj
 have hkey2:∀ i,i∈(nw++bx').map Prod.fst↔i∈nw.map Prod.fst∨i∈bx.map Prod.fst:=λi=>by rw[d5,Q9,hk]
 have hb1:∀ i x,lk bx i=some x->σ.box (m i)=some (x.ren m):=λi x hx=>XW hlk _ _ (ER (BK hx))
 have hbS:∀ i,i∈bx.map Prod.fst->(σ.box (m i)).isSome=true:=λi hi=>by
  obtain⟨x,hx⟩:=P4.1 (O5.2 hi);rw[hb1 i x hx];rfl
 have hnS:∀ i,i∈nw.map Prod.fst->σ.box (m i)=none:=λi hi=>q24 hfr _ (by rw[ZI];exact List.mem_map_of_mem hi)
 have hFc:∀ i b,b∈(if(lk bx i).isSome then Fb (m i) else[])->i∈bx.map Prod.fst/\b∈Fb (m i):=λi b hb=>by
  by_cases h:(lk bx i).isSome=true
  ·rw[u4 h] at hb;exact⟨O5.1 h,hb⟩
  ·rw[w3 h] at hb;cases hb
 have hmem:∀ i,K2 (bx.map Prod.fst) i=true->(lk bx i).isSome=true:=λi hi=>by
  rw[O5];simp only[K2,Z4] at hi;obtain⟨j,hj,he⟩:=hi;rw[m8 he];exact hj
 refine⟨⟨λid x hx=>?_,λid hx=>by simp[hx],λid=>?_,λid id' hne b hb hb'=>?_,λid b hb hg=>hg.2 (.inr ⟨m id,(hFc id b hb).2⟩)⟩, ?_⟩
 ·have h1:=st.bx _ _ (hb1 id x hx);have h2:BR w (λi=>ρ (m i)) (gd C Fe Fb) (λi=>(σ.box (m i)).isSome=true) (ρ (m id)) x (Fb (m id)):=h1.unren (λi hi=>⟨hi,rfl⟩);have h3:=(h2.okB (JU hob hx)).mono (w':=w) (G':=gd C Fe Fb) (L':=λi=>(lk bx i).isSome=true) (ρ':=λi=>ρ (m i)) (λ_ _ _=>rfl) (λb hb _=>hb) (λi hi=>⟨hmem i hi.1,rfl⟩);rw[u4 (by rw[hx];rfl)];exact h3
 ·show(if(lk bx id).isSome then Fb (m id) else[]).Nodup;split
  ·exact st.nodB _
  ·exact w9
 ·obtain⟨h1,h2⟩:=hFc id b hb;obtain⟨h3,h4⟩:=hFc id' b hb';exact st.dBB (m id) (m id') (λe=>hne (hij id ((hkey2 id).2 (.inr h1)) id' ((hkey2 id').2 (.inr h3)) e)) b h2 h4
 intro w' F ρ' Fb' hw hρ hnd hsrc hFB hFl hand
 let inv:Nat->Option Nat:=λk=>if h:∃ i,i∈(nw++bx').map Prod.fst/\m i=k then some (Classical.choose h) else none
 have hinv:∀ i,i∈(nw++bx').map Prod.fst->inv (m i)=some i:=λi hi=>by
  have h:∃ j,j∈(nw++bx').map Prod.fst/\m j=m i:=⟨i,hi,rfl⟩
  simp only[inv,dif_pos h];obtain⟨q1,q2⟩:=N8 h;rw[hij _ q1 i hi q2]
 have hinvS:∀ k i,inv k=some i->i∈(nw++bx').map Prod.fst/\m i=k:=λk i hi=>by
  by_cases h:∃ j,j∈(nw++bx').map Prod.fst/\m j=k
  ·simp only[inv,dif_pos h,z6] at hi;rw[<- hi];exact N8 h
  ·simp only[inv,dif_neg h] at hi;cases hi
 let lent:Nat->Prop:=λk=>∃ i,i∈bx.map Prod.fst/\m i=k
 let new:Nat->Prop:=λk=>∃ i,i∈nw.map Prod.fst/\m i=k
 have htouch:∀ k,(lent k∨new k)↔∃ i,inv k=some i:=λk=>by
  constructor
  ·rintro (⟨i,hi,rfl⟩|⟨i,hi,rfl⟩)
   ·exact⟨i,hinv i ((hkey2 i).2 (.inr hi))⟩
   ·exact⟨i,hinv i ((hkey2 i).2 (.inl hi))⟩
  ·rintro ⟨i,hi⟩;obtain⟨h1,h2⟩:=hinvS k i hi
   rcases(hkey2 i).1 h1 with h|h
   ·exact .inr ⟨i,h,h2⟩
   ·exact .inl ⟨i,h,h2⟩
 let ρ2:Nat->Nat:=λk=>match inv k with|some i=>ρ' i|none=>ρ k
 let Fb2:Nat->List Nat:=λk=>match inv k with|some i=>Fb' i|none=>Fb k
 have hlo:∀ b,(∃ id,b∈(if(lk bx id).isSome then Fb (m id) else[]))↔∃ k,lent k/\b∈Fb k:=λb=>by
  constructor
  ·rintro ⟨i,hi⟩;obtain⟨h1,h2⟩:=hFc i b hi;exact⟨m i,⟨i,h1,rfl⟩,h2⟩
  ·rintro ⟨k,⟨i,hi,rfl⟩,hb⟩;exact⟨i,by rw[u4 (O5.2 hi)];exact hb⟩
 have hlentO:∀ b,(∃ k,lent k/\b∈Fb k)->own Fe Fb b:=λb ⟨k,_,hb⟩=>.inr ⟨k,hb⟩;have hsrc':∀ b,(b∈F∨∃ id,b∈Fb' id)->w.heap.size<=b∨∃ k,lent k/\b∈Fb k:=λb hb=>(hsrc b hb).imp (λh=>h) (hlo b).1
 have hFb2:∀ k i,inv k=some i->Fb2 k=Fb' i:=λk i h=>by simp[Fb2,h]
 have hρ2:∀ k i,inv k=some i->ρ2 k=ρ' i:=λk i h=>by simp[ρ2,h]
 have hnone:∀ k,¬ (lent k∨new k)->inv k=none:=λk h=>by
  cases hi:inv k with
  | none=>rfl
  | some i=>exact absurd ((htouch k).2 ⟨i,hi⟩) h
 have hbox2:∀ k,(⟨σ.n,ZN ((Z0 m bx).map Prod.fst) σ.env,Z0 m nw++f9 (Z0 m bx') σ.bx⟩:Sg).box k=lk (Z0 m nw++f9 (Z0 m bx') σ.bx) k:=λk=>rfl
 have hlk2:∀ i,i∈(nw++bx').map Prod.fst->lk (Z0 m nw++f9 (Z0 m bx') σ.bx) (m i)=(lk (nw++bx') i).map (Bx.ren m):=λi hi=>by
  rw[QF,QF,OG (λj hj he=>hij j ((hkey2 j).2 (.inl hj)) i hi he)]
  cases hn:lk nw i with
  | some x=>rfl
  | none=>
   simp only[Option.map_none];rw[TC,OG (λj hj he=>hij j ((hkey2 j).2 (.inr (hk▸hj))) i hi he)];have hib:i∈bx.map Prod.fst:=((hkey2 i).1 hi).resolve_left (λh=>by have:=O5.2 h;rw[hn] at this;cases this);obtain⟨x,hx⟩:=P4.1 (hbS i hib);obtain⟨y,hy⟩:=P4.1 (O5.2 (hk▸hib:i∈bx'.map Prod.fst));rw[show lk σ.bx (m i)=some x from hx,hy];rfl
 have hS2:∀ i,i∈(nw++bx').map Prod.fst->(lk (Z0 m nw++f9 (Z0 m bx') σ.bx) (m i)).isSome=true:=λi hi=>by
  rw[hlk2 i hi,Option.isSome_map];exact O5.2 hi
 have hgd2:∀ b,((gd C Fe Fb b∨w.heap.size<=b∨∃ id,b∈(if(lk bx id).isSome then Fb (m id) else[]))/\b∉F/\¬ ∃ id,b∈Fb' id)->gd C Fe Fb2 b/\b∉F:=by
  rintro b ⟨h1,h2,h3⟩;rw[hlo] at h1;refine⟨⟨?_, ?_⟩,h2⟩
  ·rcases h1 with h|h|h
   ·exact h.1
   ·exact st.okN b h
   ·exact st.okO b (hlentO b h)
  ·rintro (⟨u,hu⟩|⟨k,hb⟩)
   ·rcases h1 with h|h|⟨k,_,h⟩
    ·exact h.2 (.inl ⟨u,hu⟩)
    ·have:=hlt b (.inl ⟨u,hu⟩);omega
    ·exact st.dEB u k b hu h
   ·cases hi:inv k with
    | some i=>rw[hFb2 k i hi] at hb;exact h3 ⟨i,hb⟩
    | none=>
     have hb':b∈Fb k:=by simpa [Fb2,hi] using hb
     rcases h1 with h|h|⟨k',hk',h⟩
     ·exact h.2 (.inr ⟨k,hb'⟩)
     ·have:=hlt b (.inr ⟨k,hb'⟩);omega
     ·refine st.dBB k' k (λe=>?_) b h hb';subst e;obtain⟨i,hi'⟩:=(htouch k').1 (.inl hk');rw[hi] at hi';cases hi'
 have hLL:∀ i,(lk (nw++bx') i).isSome=true->(lk (Z0 m nw++f9 (Z0 m bx') σ.bx) (m i)).isSome=true/\ρ2 (m i)=ρ' i:=λi hi=>by
  have hi':=O5.1 hi;exact⟨hS2 i hi',hρ2 _ _ (hinv i hi')⟩
 refine⟨ρ2,Fb2, ?_, ?_, ?_, ?_, ?_, ?_⟩
 ·refine st.lend (σ2:=⟨σ.n,ZN ((Z0 m bx).map Prod.fst) σ.env,Z0 m nw++f9 (Z0 m bx') σ.bx⟩) (ρ2:=ρ2) (Fb2:=Fb2) (lent:=lent) (new:=new) ⟨hw.os,hw.tape,hw.output,hw.size,λb hb hn=>hw.block b hb (λh=>hn ((hlo b).1 h))⟩ rfl (λk hkS=>?_) (λk ⟨i,hi,he⟩=>he▸hbS i hi)
   (λu d hd=>?_) (λu hu=>SD _ _ _ hu) (λk hn=>?_) (λk ht=>?_) (λk x hx ht=>?_) (λk ht=>?_) (λk k' ht ht' hne b hb hb'=>?_) (λk b ht hb=>?_) (λb hb=>hsrc' b (.inl hb)) hFl
  ·cases hi:inv k with
   | none=>simp[ρ2,hi]
   | some i=>
    obtain⟨h1,rfl⟩:=hinvS k i hi
    rcases(hkey2 i).1 h1 with h|h
    ·rw[hnS i h] at hkS;cases hkS
    ·rw[hρ2 _ _ hi];exact hρ i (O5.2 h)
  ·obtain⟨d0,h0,h1⟩:=WV _ _ _ _ hd;refine⟨d0,h0,h1.imp (λ⟨q1,q2⟩=>⟨q1,λid off path he hl=>q2 id off path he ?_⟩) (λh=>h)⟩;obtain⟨i,hi,rfl⟩:=hl;rw[ZI];exact List.mem_map_of_mem hi
  ·refine⟨?_,by simp[Fb2,hnone k hn]⟩;show lk (Z0 m nw++f9 (Z0 m bx') σ.bx) k=lk σ.bx k
   have h1:lk (Z0 m nw) k=none:=by
    cases hx:lk (Z0 m nw) k with
    | none=>rfl
    | some x=>
     have:=O5.1 (show(lk (Z0 m nw) k).isSome=true by rw[hx];rfl);rw[ZI] at this;obtain⟨i,hi,he⟩:=n9.1 this;exact absurd (.inr ⟨i,hi,he⟩) hn
   have h2:lk (Z0 m bx') k=none:=by
    cases hx:lk (Z0 m bx') k with
    | none=>rfl
    | some x=>
     have:=O5.1 (show(lk (Z0 m bx') k).isSome=true by rw[hx];rfl);rw[ZI,hk] at this;obtain⟨i,hi,he⟩:=n9.1 this;exact absurd (.inl ⟨i,hi,he⟩) hn
   rw[QF,h1,TC,h2];simp
  ·obtain⟨i,hi⟩:=(htouch k).1 ht;obtain⟨h1,rfl⟩:=hinvS k i hi;exact hS2 i h1
  ·obtain⟨i,hi⟩:=(htouch k).1 ht;obtain⟨h1,rfl⟩:=hinvS k i hi;rw[hbox2,hlk2 i h1,p9] at hx;obtain⟨y,hy,rfl⟩:=hx;rw[hρ2 _ _ hi,hFb2 _ _ hi];have h4:=(hand.box i y hy).ren (ρ2:=ρ2) (L':=λk=>(lk (Z0 m nw++f9 (Z0 m bx') σ.bx) k).isSome=true) hLL;exact h4.mono (λ_ _ _=>rfl) (λb hb _=>⟨⟨(hgd2 b hb).1.1,(hgd2 b hb).2⟩,(hgd2 b hb).1.2⟩) (λj hj=>⟨hj,rfl⟩)
  ·obtain⟨i,hi⟩:=(htouch k).1 ht;rw[hFb2 _ _ hi];exact hand.nodB i
  ·obtain⟨i,hi⟩:=(htouch k).1 ht;obtain⟨i',hi'⟩:=(htouch k').1 ht';rw[hFb2 _ _ hi] at hb;rw[hFb2 _ _ hi'] at hb';refine hand.dBB i i' (λe=>?_) b hb hb';subst e;exact hne ((hinvS k i hi).2.symm.trans (hinvS k' i hi').2)
  ·obtain⟨i,hi⟩:=(htouch k).1 ht;rw[hFb2 _ _ hi] at hb;exact⟨hsrc' b (.inr ⟨i,hb⟩),λhm=>hFB i b hm hb⟩
 ·intro r v hr;exact(hr.ren (ρ2:=ρ2) (L':=λk=>(lk (Z0 m nw++f9 (Z0 m bx') σ.bx) k).isSome=true) hLL).mono (λ_ _ _=>rfl) (λb hb _=>hgd2 b hb) (λj hj=>⟨hj,rfl⟩)
 ·intro u b hb hbu
  rcases hsrc' b (.inl hb) with h|⟨k,_,h⟩
  ·have:=hlt b (.inl ⟨u,hbu⟩);omega
  ·exact st.dEB u k b hbu h
 ·intro k b hb hbk
  cases hi:inv k with
  | some i=>rw[hFb2 _ _ hi] at hbk;exact hFB i b hb hbk
  | none=>
   have hbk':b∈Fb k:=by simpa [Fb2,hi] using hbk
   rcases hsrc' b (.inl hb) with h|⟨k',hk',h⟩
   ·have:=hlt b (.inr ⟨k,hbk'⟩);omega
   ·refine st.dBB k' k (λe=>?_) b h hbk';subst e;obtain⟨i,hi'⟩:=(htouch k').1 (.inl hk');rw[hi] at hi';cases hi'
 ·intro b hb hkb
  rcases hsrc' b (.inl hb) with h|h
  ·have:=(st.kept b hkb).2;have:=st.grown;omega
  ·exact st.new b (hlentO b h) hkb
 ·intro b hb
  rcases hsrc' b (.inl hb) with h|h
  ·exact st.okN b h
  ·exact st.okO b (hlentO b h)
theorem R.callBq{q:(Nat->Nat)->Prop}{f:FuncId}[CaT P f]{t:Nat}{gl:List (Nat×D)}{ds:List D}{r:D}{bx cx cx' nwc:List (Nat×Bx)}
 (ml:List (Nat×Nat)) (hC:C.gl=gl) (hF:FnBq q P gl f ds bx r bx' nw) (hq:∀ ρ:Nat->Nat,(∀ i b,C.pin i=some b->ρ i=b)->q (λi=>ρ (mlk ml i))) (ha:EvB C.gl σ (mlk ml) (bx.map Prod.fst) args ds)
 (hcx:Z0 (mlk ml) bx=cx) (hlk:XD σ.bx cx) (hob:ZK (bx.map Prod.fst) bx) (hcx':Z0 (mlk ml) bx'=cx') (hnw:Z0 (mlk ml) nw=nwc) (hr:r.ren (mlk ml)=r')
 (hk:bx'.map Prod.fst=bx.map Prod.fst) (hfr:XN σ.bx nwc=true) (hinj:EZ (mlk ml) ((nw++bx').map Prod.fst)=true) (ht:t<σ.n) :
 OpS P C ⟨some t,.call { callee:=.value (.func f),args:=args.toArray,argTypes:=tys },rt,pos,aft,g⟩ σ ((⟨σ.n,ZN (cx.map Prod.fst) σ.env,nwc++f9 cx' σ.bx⟩:Sg).set t r'):=by
 subst hC;subst hcx;subst hcx';subst hnw;subst hr;intro a w ⟨ρ,Fe,Fb,st⟩ K Q hK;refine O0 (DK a w) (by simp) ?_;rw[Oper.uponIn_enter];obtain⟨hhand,hback⟩:=st.callB (m:=mlk ml) hlk hob hk hfr hinj
 have hmem:∀ i,K2 (bx.map Prod.fst) i=true->(lk bx i).isSome=true:=λi hi=>by
  rw[O5];simp only[K2,Z4] at hi;obtain⟨j,hj,he⟩:=hi;rw[m8 he];exact hj
 have hc:=hF w (λb=>gd C Fe Fb b/\b<w.heap.size) (λi=>ρ (mlk ml i)) (λi=>if(lk bx i).isSome then Fb (mlk ml i) else[]) (args.map a.eval) (hq ρ λi b hp=>(st.pin i b hp).1)
  (λg d hg=>by obtain⟨h1,h2⟩:=PD st g d hg;obtain⟨cs,e,fz,h3,h4⟩:=h2;exact⟨⟨h1,(j6.1 h3).1⟩,cs,e,fz,h3,h4⟩) (λb hb=>hb.2) (by simp[ha.len])
  (λk hk=>(ha.ok st k hk).mono (λ_ _ _=>rfl) (λb hb hl=>⟨hb,hl⟩) (λi hi=>⟨hmem i hi.1,rfl⟩))
  ⟨λid x hx=>(hhand.box id x hx).mono (λ_ _ _=>rfl) (λb hb hl=>⟨hb,hl⟩) (λi hi=>⟨hi,rfl⟩),hhand.boxN,hhand.nodB,hhand.dBB,λid b hb hc=>hhand.out id b hb hc.1⟩
 simp only[A9];refine⟨(λh=>by cases h),(JL (Calls.mono hc ?_))⟩;rintro e w' ⟨v,F,ρ',Fb',rfl,hext,hρ',hnd,hsrc,hFB,hFl,hand,hrv⟩
 have hGG:∀ b,(((gd C Fe Fb b/\b<w.heap.size)∨w.heap.size<=b∨∃ id,b∈(if(lk bx id).isSome then Fb (mlk ml id) else[]))/\b∉F/\¬ ∃ id,b∈Fb' id) ->
  ((gd C Fe Fb b∨w.heap.size<=b∨∃ id,b∈(if(lk bx id).isSome then Fb (mlk ml id) else[]))/\b∉F/\¬ ∃ id,b∈Fb' id):=λb hb=>⟨hb.1.imp (λh=>h.1) (λh=>h),hb.2⟩
 obtain⟨ρ2,Fb2,st2,hrv2,hdE,hdB,hkp,hok⟩:=hback w' F ρ' Fb' hext hρ' hnd hsrc hFB hFl
  ⟨λid x hx=>(hand.box id x hx).mono (λ_ _ _=>rfl) (λb hb _=>hGG b hb) (λi hi=>⟨hi,rfl⟩),hand.boxN,hand.nodB,hand.dBB,λid b hb hc=>hc.2.2 ⟨id,hb⟩⟩
 have hrv3:=hrv2 r v (hrv.mono (λ_ _ _=>rfl) (λb hb _=>hGG b hb) (λi hi=>⟨hi,rfl⟩))
 have hput:(a.put (some t) v).tmps[t]? = some v:=by rw[Y0 a t v t (by rw[st.size];exact ht)];simp
 refine hK _ _ ⟨ρ2,upd Fe t F,Fb2,st2.adopt ht hnd hdE hdB hkp hok (CP (hrv3.mono (λ_ _ _=>rfl) (λb hb _=>⟨hb.1.1, ?_⟩) (λi hi=>⟨hi,rfl⟩)) hput)⟩;rintro (⟨u,hu⟩|ho)
 ·by_cases hut:u=t
  ·subst hut;simp at hu;exact hb.2 hu
  ·rw[j2 hut] at hu;exact hb.1.2 (.inl ⟨u,hu⟩)
 ·exact hb.1.2 (.inr ho)
theorem R.callB{f:FuncId}[CaT P f]{t:Nat}{gl:List (Nat×D)}{ds:List D}{r:D}{bx cx cx' nwc:List (Nat×Bx)}
 (ml:List (Nat×Nat)) (hC:C.gl=gl) (hF:FnB P gl f ds bx r bx' nw) (ha:EvB C.gl σ (mlk ml) (bx.map Prod.fst) args ds)
 (hcx:Z0 (mlk ml) bx=cx) (hlk:XD σ.bx cx) (hob:ZK (bx.map Prod.fst) bx) (hcx':Z0 (mlk ml) bx'=cx') (hnw:Z0 (mlk ml) nw=nwc) (hr:r.ren (mlk ml)=r')
 (hk:bx'.map Prod.fst=bx.map Prod.fst) (hfr:XN σ.bx nwc=true) (hinj:EZ (mlk ml) ((nw++bx').map Prod.fst)=true) (ht:t<σ.n) :
 OpS P C ⟨some t,.call { callee:=.value (.func f),args:=args.toArray,argTypes:=tys },rt,pos,aft,g⟩ σ ((⟨σ.n,ZN (cx.map Prod.fst) σ.env,nwc++f9 cx' σ.bx⟩:Sg).set t r'):=R.callBq (q:=λ_=>True) ml hC (λw G ρ Fb vs _=>hF w G ρ Fb vs) (λ_ _=>trivial) ha hcx hlk hob hcx' hnw hr hk hfr hinj ht
theorem AX{ai ab:Nat}{f:FuncId}[CaT P f]{t:Nat}{gl:List (Nat×D)}{ds:List D}{r:D}{bx cx cx' nwc:List (Nat×Bx)}
 (ml:List (Nat×Nat)) (hC:C.gl=gl) (hF:FnBa ai ab P gl f ds bx r bx' nw) (hpn:C.pin (mlk ml ai)=some ab) (ha:EvB C.gl σ (mlk ml) (bx.map Prod.fst) args ds)
 (hcx:Z0 (mlk ml) bx=cx) (hlk:XD σ.bx cx) (hob:ZK (bx.map Prod.fst) bx) (hcx':Z0 (mlk ml) bx'=cx') (hnw:Z0 (mlk ml) nw=nwc) (hr:r.ren (mlk ml)=r')
 (hk:bx'.map Prod.fst=bx.map Prod.fst) (hfr:XN σ.bx nwc=true) (hinj:EZ (mlk ml) ((nw++bx').map Prod.fst)=true) (ht:t<σ.n) :
 OpS P C ⟨some t,.call { callee:=.value (.func f),args:=args.toArray,argTypes:=tys },rt,pos,aft,g⟩ σ ((⟨σ.n,ZN (cx.map Prod.fst) σ.env,nwc++f9 cx' σ.bx⟩:Sg).set t r'):=R.callBq ml hC hF (λ_ h=>h _ _ hpn) ha hcx hlk hob hcx' hnw hr hk hfr hinj ht
end
section
variable{P:Program}{C:Ctx}{σ σ' σ1:Sg}{a:Act}{w w':World}{ρ:Nat->Nat}{Fe Fe' Fb:Nat->List Nat}
def u26(gl:List (Nat×D))(σ:Sg)(n z:Nat):List (Nat×Operand)->Prop
 | []=>True
 | (i,x)::r=>(∃ d,ev gl σ x=some d/\d.pur=true/\d.np=true/\d.sz=z/\Nat.blt i n=true)/\u26 gl σ n z r
theorem j34{G:Nat->Prop}{gl:List (Nat×D)}{n z:Nat}(hv:∀ x d,ev gl σ x=some d->d.pur=true->∃ cs:List Value,(a.eval x).cells.toList=cs/\Rc w ρ G L true d cs []) :
 ∀ (ps:List (Nat×Operand)) (l l':List D) (cs:Array Value),BA gl σ ps l=some l'->u26 gl σ n z ps->Rc w ρ G L false (.arr n z l) cs.toList [] ->
  ∃ out:Array Value,Instr.fill (λi=>some (i*z,z)) cs (ps.map (λp=>(p.1,a.eval p.2)))=some out/\Rc w ρ G L false (.arr n z l') out.toList []:=by
 intro ps
 induction ps with
 | nil=>intro l l' cs h _ hr;simp only[BA,z6] at h;subst h;exact⟨cs,rfl,hr⟩
 | cons p ps ih=>
  intro l l' cs h hp hr;obtain⟨i,x⟩:=p;obtain⟨⟨d,hx,p1,p2,p3,p5⟩,p4⟩:=hp;have p5:i<n:=g0 p5;simp only[BA,hx] at h;obtain⟨xc,hxc,hrc⟩:=hv x d hx p1;have hlen:=hrc.len
  have hll:l.length=n:=by cases hr;assumption
  have hi2:i<l.length:=by omega
  have hcl:=hr.len;simp only[HU,p6] at hcl
  have hsi:l[i].sz=z:=by
   have hii:Rc w ρ G L false l[i] ((cs.toList.drop (i*z)).take z) []:=by
    cases hr with
    | arr _ _ _ _ _ _ hh=>exact hh i hi2
   have hl:=hii.len;rw[<- hl,v5,v8,p6,hcl];have:=w6 z (show i+1<=n from p5);rw[v7] at this;omega
  have hlo:i*z+z<=n*z:=by
   have:=w6 z (show i+1<=n from p5);rw[v7] at this;omega
  have hloc:(D.arr n z l).loc [i]=some (i*z,l[i]):=by simp[D.loc,j8 hi2]
  have hupd:(D.arr n z l).upd [i] d=some (.arr n z (l.set i d)):=by simp[D.upd,j8 hi2]
  obtain⟨F2,g1,g2,_⟩:=hr.upd hloc hupd (p3.trans hsi.symm) (hrc.unflag p2) w9 w9 (by simp) (.inl rfl)
  have hF2:F2=[]:=by
   cases F2 with
   | nil=>rfl
   | cons b r=>have:=g2 b (by simp);simp at this
  subst hF2
  have hxl:xc.length=z:=by rw[hlen,p3]
  have hfold:=JG cs xc (i*z) 0 (by omega);simp only[J8] at hfold
  have hcs2:((a.eval x).cells.zipIdx.foldl (λ(c:Array Value) (p:Value×Nat)=>c.setIfInBounds (i*z+p.2) p.1) cs).toList=cs.toList.take (i*z)++xc++cs.toList.drop (i*z+xc.length):=by
   rw[<- hfold,<- hxc,<- B7];simp
  rw[<- hcs2] at g1;obtain⟨out,q1,q2⟩:=ih (l.set i d) l' _ h p4 g1;refine⟨out, ?_,q2⟩;simp only[b9,Instr.fill]
  have hsz:(a.eval x).cells.size=z:=by rw[<- p6,hxc,hxl]
  simp only[hsz];rw[w3 (by simp;omega)];exact q1
theorem R.bldAP{t n e z:Nat}{ps:List (Nat×Operand)}{l l':List D}[hT:BaT P ty n e z][hZ:ZrT P ty (.arr n z l)]
 (hps:EvS C.gl σ ps l l') (hp:u26 C.gl σ n z ps) (he:l'=l2) (ht:t<σ.n) :
 OpS P C ⟨some t,.build ty ps.toArray,rt,pos,aft,g⟩ σ (σ.set t (.arr n z l2)):=by
 subst he;refine OpS.value λa w ⟨ρ,Fe,Fb,st⟩=>?_;obtain⟨it,zv,ie,h1,h2,h3,h4,h5,h6⟩:=hT.i;obtain⟨i',v',k1,k2,k3,k4⟩:=hZ.i;rw[h2] at k1;cases k1;rw[h3] at k2;cases k2;obtain⟨out,q1,q2⟩:=j34 (w:=w) (ρ:=ρ) (λx d h hp=>KC st h hp) ps l l' zv.cells hps.ok hp (XO _ _ _ _ _ _ k3)
 have hps2:(ps.toArray.map λx=>(x.1,a.eval x.2)).toList=ps.map (λp=>(p.1,a.eval p.2)):=by simp
 refine⟨.agg out,w, ?_,st.put ht rfl ?_⟩
 ·have:=run_build (P:=P) w ty (ps.toArray.map λx=>(x.1,a.eval x.2)) out (by
   rw[hps2];simp only[Program.built,h1,h2,h3,h4,h5]
   exact q1)
  unfold execOp;simp only[Sem.run_bind,this,Result.andThen_ok,Sem.run_pure]
 ·simp only[VR,D.isAgg,j9];exact⟨out,rfl,q2.flag⟩
end
section
variable{pos:String}{aft:Array Edge}{g:Option (Nat×Bool)}
variable{P:Program}{C:Ctx}{σ σ' σ1:Sg}{a:Act}{w w':World}{ρ:Nat->Nat}{Fe Fe' Fb:Nat->List Nat}
theorem Rc.updP{G:Nat->Prop}{d d1 d' x:D}{cs xs:List Value}{Fx:List Nat}(h:Rc w ρ G L true d cs F)
 (hl:d.loc path=some (off,d1)) (hu:d.upd path x=some d') (hz:x.sz=d1.sz) (hx:Rc w ρ G L true x xs Fx) (hF:F.Nodup) (hFx:Fx.Nodup) (hdis:∀ b∈Fx,b∉F)
 (harr:d.noArr path=true) :
 ∃ F',Rc w ρ G L true d' (cs.take off++xs++cs.drop (off+xs.length)) F'/\(∀ b∈F',b∈F∨b∈Fx)/\F'.Nodup/\d'.sz=d.sz/\d'.isAgg=(if path=[] then x.isAgg else d.isAgg):=by
 induction path generalizing d cs F off d1 d' with
 | nil=>
  simp only[D.loc,z6,b8] at hl;simp only[D.upd,z6] at hu;obtain⟨rfl,rfl⟩:=hl;subst hu;have h1:=h.len;have h2:=hx.len
  have e:cs.take 0++xs++cs.drop (0+xs.length)=xs:=by simp;omega
  rw[e];exact⟨Fx,hx,λ_ h=>.inr h,hFx,hz,by simp⟩
 | cons k path ih=>
  cases h with
  | agg l cs Fs hs hr=>
   simp only[D.loc] at hl;simp only[D.upd] at hu
   cases hk:l[k]? with
   | none=>simp[hk] at hl
   | some d2=>
    obtain⟨hklt,rfl⟩:=z8.1 hk;simp only[hk] at hl hu
    cases hd:D.loc l[k] path with
    | none=>simp[hd] at hl
    | some od=>
     obtain⟨o,d3⟩:=od;simp only[hd,z6,b8] at hl;obtain⟨rfl,rfl⟩:=hl
     cases hud:D.upd l[k] path x with
     | none=>simp[hud] at hu
     | some d4=>
      simp only[hud,z6] at hu;subst hu;obtain⟨hn1,hn2⟩:=l7 hF;have hkm:∀ b∈Fs k,b∈(List.range l.length).flatMap Fs:=λb hb=>w8.2 ⟨k,j7.2 hklt,hb⟩;obtain⟨F',h1,h2,h3,h4,h5⟩:=ih (hr k hklt) hd hud hz (hn1 k hklt) (λb hb hb'=>hdis b hb (hkm b hb')) (by simp only[D.noArr,hk] at harr;exact harr);obtain⟨_,_,_,hl3⟩:=(hr k hklt).loc hd;have hlen:=(hr k hklt).len;have hxl:=hx.len;have hlo:=T3 l k hklt
      have hxo:o+xs.length<=l[k].sz:=by omega
      refine⟨(List.range (l.set k d4).length).flatMap (λj=>if j=k then F' else Fs j), ?_, ?_, ?_, ?_, ?_⟩
      ·refine .agg (l.set k d4) _ _ ?_ (λj hj=>?_)
       ·rw[T1 _ _ _ (by omega),hs,UP l k d4 hklt h4]
       ·have hj':j<l.length:=by simpa using hj
        rw[YL l k j d4 hklt h4];by_cases hjk:j=k
        ·subst hjk;simp only[D7,j9,h4];rw[GP _ _ _ _ _ (by omega) (by omega)];exact h1
        ·have hjj:(l.set k d4)[j]=l[j]:=by rw[B1 (λe=>hjk e.symm)]
         simp only[hjj,hjk,q8];rw[l3 _ _ _ _ _ (by omega) ?_]
         ·exact hr j hj'
         ·have h6:=T3 l j hj'
          rcases I1 hjk with hlt|hlt
          ·left
           have:offk l j+l[j].sz<=offk l k:=by
            have:=T3 (l.take k) j (by simp;omega);simp only[Q7] at this;unfold offk at this ⊢;rw[X6,n6 (by omega)] at this;exact this
           omega
          ·right
           have:offk l k+l[k].sz<=offk l j:=by
            have:=T3 (l.take j) k (by simp;omega);simp only[Q7] at this;unfold offk at this ⊢;rw[X6,n6 (by omega)] at this;exact this
           omega
      ·intro b hb;obtain⟨j,hj,hm⟩:=w8.1 hb
       have hj':j<l.length:=by simpa using j7.1 hj
       by_cases hjk:j=k
       ·subst hjk;simp at hm;exact(h2 b hm).imp (hkm b) id
       ·simp only[hjk,q8] at hm;exact .inl (w8.2 ⟨j,j7.2 hj',hm⟩)
      ·refine N7 (λj hj=>?_) (λi j hi hj hij b hb hb'=>?_)
       ·have hj':j<l.length:=by simpa using hj
        by_cases hjk:j=k
        ·simp[hjk,h3]
        ·simp only[hjk,q8];exact hn1 j hj'
       ·have hi':i<l.length:=by simpa using hi
        have hj':j<l.length:=by simpa using hj
        have key:∀ m,m<l.length->m≠k->b∈Fs m->b∈F'->False:=λm hm hmk h6 h7=>by
         rcases h2 b h7 with h8|h8
         ·exact hn2 m k hm hklt hmk b h6 h8
         ·exact hdis b h8 (w8.2 ⟨m,j7.2 hm,h6⟩)
        by_cases hik:i=k
        ·subst hik;simp only[j9] at hb;simp only[show ¬ j=i from λe=>hij e.symm,q8] at hb';exact key j hj' (λe=>hij e.symm) hb' hb
        ·simp only[hik,q8] at hb;by_cases hjk:j=k
         ·simp only[hjk,j9] at hb';exact key i hi' hik hb hb'
         ·simp only[hjk,q8] at hb';exact hn2 i j hi' hj' hij b hb hb'
      ·simp only[JM];exact UP l k d4 hklt h4
      ·simp[D.isAgg]
  | arr n z l cs hn hs hr=>simp[D.noArr] at harr
  | _=>simp[D.loc] at hl
theorem R.stP{p id:Nat}{x:Operand}{d1 d' dx:D}{n:TypeId}{gg:Bool}[LdT P ty n gg]
 (h:σ.get p=some (.ptr id off path)) (hb:σ.box id=some (.var d0)) (hl:d0.loc path=some (off,d1)) (hx:ev C.gl σ x=some dx) (hp:dx.pur=true) (hna:d0.noArr path=true)
 (hn:dx.sz=n) (hz:d1.sz=n) (hu:d0.upd path dx=some d') :
 OpS P C ⟨none,.store ty (.tmp p) x,rt,pos,aft,g⟩ σ (σ.putB id (.var d')):=by
 refine OpS.skip rfl λa w ⟨ρ,Fe,Fb,st⟩=>?_;obtain⟨v,hv,hr⟩:=(c5 rfl).1 (st.env _ _ h);simp only[VR,D.isAgg,q7,q8] at hr;have hz':dx.sz=d1.sz:=hn.trans hz.symm;generalize Fe p=F at hr;cases hr;obtain⟨cs,e,F',hb',hr,hFb⟩:=st.bx _ _ hb;obtain⟨Fx,hvx,_⟩:=H5 st hx (D9 hp);have hFx:=hvx.pur hp;subst hFx
 have hdead:dx≠.dead:=by rintro rfl;simp[D.pur] at hp
 have hxc:=hvx.cells hdead;obtain⟨_,_,_,h3⟩:=hr.loc hl
 have hnd:F'.Nodup:=by have:=st.nodB id;rw[hFb] at this;exact(v3.1 this).2
 obtain⟨F2,g1,g2,g3,g4,g5⟩:=hr.updP hl hu (hn.trans hz.symm) hxc hnd w9 (by simp) hna;have hlen:=hxc.len
 have hvs:(a.eval x).cells.size=n:=by simp at hlen;omega
 have hbnd:off+n<=cs.size:=by simp at h3;omega
 refine⟨w.setRow (ρ id) (cs.toList.take off++(a.eval x).cells.toList++cs.toList.drop (off+(a.eval x).cells.toList.length)).toArray, ?_,ρ,Fe,_,st.putB (Fe':=Fe) (σ1:=σ) (F':=ρ id::F2) hb rfl rfl (λu d hd=>.inl ⟨hd,rfl⟩) st.envN (λu=>.inl rfl) rfl ⟨rfl,z7 _⟩ rfl (by simp)
  (λb hbne=>setRow_other w (ρ id) b _ hbne) ?_ (by simp) ?_ ?_⟩
 ·unfold execOp;simp only[Instr.storeAt,Instr.sureAddr,Q3 hv,Sem.run_bind,Sem.run_pure,Result.andThen_ok,KS (P:=P) (ty:=ty) hb' hvs hbnd hxc.one]
 ·refine v3.2 ⟨λhm=>?_,g3⟩;have:=st.nodB id;rw[hFb] at this
  rcases g2 _ hm with h4|h4
  ·exact(v3.1 this).1 h4
  ·cases h4
 ·intro b hbm
  rcases w5.1 hbm with rfl|hm
  ·exact .inl (by rw[hFb];simp)
  ·rcases g2 b hm with h4|h4
   ·exact .inl (by rw[hFb];exact j1 _ h4)
   ·cases h4
 ·refine⟨_,e,F2,setRow_heap w (ρ id) cs _ e (0,0) hb', ?_,rfl⟩;simp only;refine g1.mono (λb hbb _=>setRow_other w (ρ id) b _ ?_) (λb hbb _=>⟨hbb.1,λho=>hbb.2 ?_⟩) (λi hi=>⟨hi,rfl⟩)
  ·rintro rfl
   rcases hbb with hbb|hbb
   ·exact hbb.2 (.inr ⟨id,by rw[hFb];simp⟩)
   ·have:=st.nodB id;rw[hFb] at this
    rcases g2 _ hbb with h4|h4
    ·exact(v3.1 this).1 h4
    ·cases h4
  ·rcases ho with ⟨u,hu⟩|⟨i,hi⟩
   ·exact .inl ⟨u,hu⟩
   ·by_cases hid:i=id
    ·subst hid;rw[c7] at hi;refine .inr ⟨i, ?_⟩;rw[hFb]
     rcases w5.1 hi with rfl|hm
     ·simp
     ·rcases g2 b hm with h4|h4
      ·exact j1 _ h4
      ·cases h4
    ·rw[j2 hid] at hi;exact .inr ⟨i,hi⟩
def w13(gl:List (Nat×D))(σ:Sg)(l:List D):List (Nat×Operand)->Prop
 | []=>True
 | (i,x)::r=>(∃ d,ev gl σ x=some d/\d.pur=true/\(l[i]?).map D.sz=some d.sz)/\w13 gl σ l r
theorem DS{G:Nat->Prop}{gl:List (Nat×D)}{l0:List D}(hv:∀ x d,ev gl σ x=some d->d.pur=true->∃ cs:List Value,(a.eval x).cells.toList=cs/\Rc w ρ G L true d cs []) :
 ∀ (ps:List (Nat×Operand)) (l l':List D) (cs:Array Value),BA gl σ ps l=some l'->w13 gl σ l0 ps->l.map D.sz=l0.map D.sz->Rc w ρ G L true (.agg l) cs.toList [] ->
  ∃ out:Array Value,Instr.fill ((offl l0 0).toArray[·]?) cs (ps.map (λp=>(p.1,a.eval p.2)))=some out/\Rc w ρ G L true (.agg l') out.toList []:=by
 intro ps
 induction ps with
 | nil=>intro l l' cs h _ _ hr;simp only[BA,z6] at h;subst h;exact⟨cs,rfl,hr⟩
 | cons p ps ih=>
  intro l l' cs h hp hz hr;obtain⟨i,x⟩:=p;obtain⟨⟨d,hx,p1,p3⟩,p4⟩:=hp;simp only[BA,hx] at h;obtain⟨xc,hxc,hrc⟩:=hv x d hx p1;have hlen:=hrc.len
  cases hl0:l0[i]? with
  | none=>rw[hl0] at p3;cases p3
  | some d0=>
   obtain⟨hi,rfl⟩:=z8.1 hl0;rw[hl0] at p3;simp only[Y1,z6] at p3
   have hll:l.length=l0.length:=by have:=g8 List.length hz;simpa using this
   have hi2:i<l.length:=by omega
   have hsi:l[i].sz=d.sz:=by
    have:(l.map D.sz)[i]'(by simpa using hi2)=(l0.map D.sz)[i]'(by simpa using hi):=by simp only[hz]
    simp at this;omega
   have hoff:offk l i=offk l0 i:=by
    have hs:∀ (u v:List D),u.map D.sz=v.map D.sz->N6 u=N6 v:=by
     intro u
     induction u with
     | nil=>intro v hv;cases v<;>simp_all
     | cons a u ihu=>intro v hv;cases v with
      | nil=>simp at hv
      | cons b v=>simp at hv;simp[hv.1,ihu v hv.2]
    unfold offk;exact hs _ _ (by rw[U8,U8,hz])
   have hlo:=T3 l i hi2;have hcl:=hr.len;simp only[JM,p6] at hcl
   have hloc:(D.agg l).loc [i]=some (offk l i,l[i]):=by simp[D.loc,j8 hi2]
   have hupd:(D.agg l).upd [i] d=some (.agg (l.set i d)):=by simp[D.upd,j8 hi2]
   obtain⟨F2,g1,g2,_⟩:=hr.updP hloc hupd hsi.symm hrc w9 w9 (by simp) (by simp[D.noArr,j8 hi2])
   have hF2:F2=[]:=by
    cases F2 with
    | nil=>rfl
    | cons b r=>have:=g2 b (by simp);simp at this
   subst hF2;have hfold:=JG cs xc (offk l i) 0 (by omega);simp only[J8] at hfold
   have hcs2:((a.eval x).cells.zipIdx.foldl (λ(c:Array Value) (p:Value×Nat)=>c.setIfInBounds (offk l i+p.2) p.1) cs).toList=cs.toList.take (offk l i)++xc++cs.toList.drop (offk l i+xc.length):=by
    rw[<- hfold,<- hxc,<- B7];simp
   rw[<- hcs2] at g1
   obtain⟨out,q1,q2⟩:=ih (l.set i d) l' _ h p4 (by
    rw[W6,<- hsi];rw[<- hz];apply Z6;intro j;rw[L8];split
    ·rename_i hij;subst hij;simp[hi2]
    ·rfl) g1
   refine⟨out, ?_,q2⟩;simp only[b9,Instr.fill]
   have hpl:(offl l0 0).toArray[i]? = some (offk l i,d.sz):=by
    rw[H0,NI l0 0 i hi,hoff,c9,<- p3]
   have hsz:(a.eval x).cells.size=d.sz:=by rw[<- p6,hxc,hlen]
   simp only[hpl,hsz];rw[w3 (by simp;omega)];exact q1
theorem R.bldSP{t:Nat}{ps:List (Nat×Operand)}{l l':List D}[hT:BsT P ty l]
 (hps:EvS C.gl σ ps l l') (hp:w13 C.gl σ l ps) (ht:t<σ.n) :
 OpS P C ⟨some t,.build ty ps.toArray,rt,pos,aft,g⟩ σ (σ.set t (.agg l')):=by
 refine OpS.value λa w ⟨ρ,Fe,Fb,st⟩=>?_;obtain⟨fs,it,zv,h1,h2,h3,h4,h5⟩:=hT.i;obtain⟨out,q1,q2⟩:=DS (w:=w) (ρ:=ρ) (l0:=l) (λx d h hp=>KC st h hp) ps l l' zv.cells hps.ok hp rfl (XO _ _ _ _ _ _ h5).flag
 have hps2:(ps.toArray.map λx=>(x.1,a.eval x.2)).toList=ps.map (λp=>(p.1,a.eval p.2)):=by simp
 refine⟨.agg out,w, ?_,st.put ht rfl ?_⟩
 ·have:=run_build (P:=P) w ty (ps.toArray.map λx=>(x.1,a.eval x.2)) out (by
   rw[hps2];simp only[Program.built,h1,h2,h3,h4]
   exact q1)
  unfold execOp;simp only[Sem.run_bind,this,Result.andThen_ok,Sem.run_pure]
 ·simp only[VR,D.isAgg,j9];exact⟨out,rfl,q2⟩
class BgT(P:Program)(t:TypeId)(l:outParam (List D)):Prop where
 i:∃ n e it zv ie z,P.underlying t=some (.array n e)/\P.info? t=some it/\it.zero=some zv/\P.info? e=some ie/\ie.size=z/\chk (.agg l) zv.cells.toList=true/\offl l 0=(List.range n).map (λi=>(i*z,z))
theorem q25{f g:Nat->Option (Nat×Nat)}:∀ (ps:List (Nat×Value)) (cs:Array Value),(∀ p∈ps,f p.1=g p.1)->Instr.fill f cs ps=Instr.fill g cs ps:=by
 intro ps
 induction ps with
 | nil=>intro cs _;rfl
 | cons p ps ih=>
  intro cs h;obtain⟨i,v⟩:=p;have h0:=h (i,v) (by simp);simp only at h0;simp only[Instr.fill,h0]
  cases g i with
  | none=>rfl
  | some x=>
   obtain⟨off,size⟩:=x;simp only;split
   ·rfl
   ·exact ih _ (λp hp=>h p (j1 _ hp))
theorem R.bldAG{t:Nat}{ps:List (Nat×Operand)}{l l':List D}[hT:BgT P ty l]
 (hps:EvS C.gl σ ps l l') (hp:w13 C.gl σ l ps) (ht:t<σ.n) :
 OpS P C ⟨some t,.build ty ps.toArray,rt,pos,aft,g⟩ σ (σ.set t (.agg l')):=by
 refine OpS.value λa w ⟨ρ,Fe,Fb,st⟩=>?_;obtain⟨n,e,it,zv,ie,z,h1,h2,h3,h4,h5,h6,h7⟩:=hT.i;obtain⟨out,q1,q2⟩:=DS (w:=w) (ρ:=ρ) (l0:=l) (λx d h hp=>KC st h hp) ps l l' zv.cells hps.ok hp rfl (XO _ _ _ _ _ _ h6).flag
 have hps2:(ps.toArray.map λx=>(x.1,a.eval x.2)).toList=ps.map (λp=>(p.1,a.eval p.2)):=by simp
 have hll:l.length=n:=by
  have h8:∀ (l:List D) (o:Nat),(offl l o).length=l.length:=by
   intro l
   induction l with
   | nil=>intro o;rfl
   | cons d r ih=>intro o;simp[offl,ih]
  have:=g8 List.length h7;rw[h8] at this;simpa using this
 have hin:∀ p∈ps.map (λp=>(p.1,a.eval p.2)),((offl l 0).toArray[p.1]?)=some (p.1*z,z):=by
  intro p hp';obtain⟨q,hq,rfl⟩:=n9.1 hp'
  have hlt:q.1<l.length:=by
   clear q1 q2 hps hps2 hp'
   induction ps with
   | nil=>cases hq
   | cons y r ih=>
    obtain⟨i,x⟩:=y;obtain⟨⟨d,_,_,p3⟩,p4⟩:=hp
    rcases w5.1 hq with rfl|hq
    ·simp only
     cases hli:l[i]? with
     | none=>rw[hli] at p3;cases p3
     | some d0=>exact(z8.1 hli).1
    ·exact ih p4 hq
  simp only[H0,h7,J2,T9 (show q.1<n by omega),Y1]
 rw[q25 (g:=λi=>some (i*z,z)) _ _ (λp hp'=>hin p hp')] at q1;refine⟨.agg out,w, ?_,st.put ht rfl ?_⟩
 ·have:=run_build (P:=P) w ty (ps.toArray.map λx=>(x.1,a.eval x.2)) out (by
   rw[hps2];simp only[Program.built,h1,h2,h3,h4,h5]
   exact q1)
  unfold execOp;simp only[Sem.run_bind,this,Result.andThen_ok,Sem.run_pure]
 ·simp only[VR,D.isAgg,j9];exact⟨out,rfl,q2⟩
theorem R.ixG{x ix:Operand}{t e z m:Nat}{gg:Bool}{l:List D}{d:D}{n:Int}[hT:ArT P ty m e][hL:LdT P e z gg](k:Nat)
 (hx:ev C.gl σ x=some (.agg l)) (hi:evo C.gl σ (some ix) 0=some n) (hk:n=(k:Int)) (hkm:Nat.blt k m=true) (h1:l[k]? = some d) (ho:offk l k=k*z) (hp:d.pur=true) (hz:d.sz=z) (hg:d.isAgg=gg) (ht:t<σ.n) :
 OpS P C ⟨some t,.index ty x ix,rt,pos,aft,g⟩ σ (σ.set t d):=by
 subst hk;have hkm:k<m:=g0 hkm;refine OpS.value λa w ⟨ρ,Fe,Fb,st⟩=>?_;obtain⟨F,hv,_⟩:=H5 st hx rfl;simp only[VR,D.isAgg,j9] at hv;obtain⟨cs,hex,hv⟩:=hv;obtain⟨kk,he⟩:=BH st hi;obtain⟨hkl,rfl⟩:=z8.1 h1
 cases hv with
 | agg _ _ Fs hsz hrr=>
  have hlt:=T3 l k hkl;have hr:=hrr k hkl;have hF:=hr.pur hp;rw[hF,ho,hz] at hr;obtain⟨v,hrun,hvr⟩:=XL (P:=P) (e:=e) hr hz hg (by simp at hsz;omega);refine⟨v,w, ?_,st.put ht (D9 hp) hvr⟩;unfold execOp;simp[Instr.index,asIntOf,run_underlying hT.u,hex,he,hkm,LdT.size (P:=P) (t:=e),hrun]
def WU(P:Program)(C:Ctx)(c:Code)(Q:Exit->Sg->Prop)(σ:Sg):Prop:=
 ∀ a w,St C σ a w->∀ (b:Frame) (k:List Item) (cs:List Frame),b.roundOf=(Fx C).round->(Fx C).fn b.fn->(Fx C).room (cs.length+1+3) ->
  ∃ e a' w',(∃ s,St C s a' w'/\Q e s)/\ArrivesIn (Machine.fenced P (Fx C)) P (lone (b.atR a (.code c::.inLoop c::k)) cs w) b k cs e a' w'
theorem z13{c:Code}(h:WU P C c Q σ):W P C (.loop c) Q σ:=by
 intro a w hs b k cs hro hbf hr;obtain⟨e,a',w',hq,harr⟩:=h a w hs b k cs hro hbf hr;exact⟨e,a',w',hq,.of_steps (.one (fenced_calm hbf hr rfl) stepR_loop) harr⟩
theorem WU.step{c:Code}(h:W P C c (λe s=>match e with | .normal=>WU P C c Q s|e=>Q e s) σ):WU P C c Q σ:=by
 intro a w hs b k cs hro hbf hr;obtain⟨e,a₁,w₁,⟨s,hs1,hq⟩,harr⟩:=h a w hs b (.inLoop c::k) cs hro hbf hr
 cases e with
 | normal=>
  obtain⟨e₂,a₂,w₂,hq₂,harr₂⟩:=hq a₁ w₁ hs1 b k cs hro hbf hr;exact⟨e₂,a₂,w₂,hq₂,.of_steps (StepsIn.trans harr (.one (fenced_calm hbf hr rfl) stepR_inLoop)) harr₂⟩
 | exit id=>exact⟨_,a₁,w₁,⟨s,hs1,hq⟩,.pass (x:=.inLoop c) rfl (λ_ _=>.inl (by simp)) harr⟩
 | goto l=>exact⟨_,a₁,w₁,⟨s,hs1,hq⟩,.pass (x:=.inLoop c) rfl (λ_ _=>.inl (by simp)) harr⟩
 | ret=>exact⟨_,a₁,w₁,⟨s,hs1,hq⟩,.pass (x:=.inLoop c) rfl (λ_ _=>.inl (by simp)) harr⟩
 | panic ch=>exact⟨_,a₁,w₁,⟨s,hs1,hq⟩,.pass (x:=.inLoop c) rfl (λ_ _=>.inl (by simp)) harr⟩
 | outgrown=>exact⟨_,a₁,w₁,⟨s,hs1,hq⟩,.pass (x:=.inLoop c) rfl (λ_ _=>.inl (by simp)) harr⟩
def EqV(P:Program)(k:Nat)(t:TypeId)(d1 d2:D)(b:Bool):Prop:=
 ∀ (n:Nat) (w:World) (ρ1 ρ2:Nat->Nat) (G1 G2 L1 L2:Nat->Prop) (v1 v2:Value) (F1 F2:List Nat),VR w ρ1 G1 L1 d1 v1 F1->VR w ρ2 G2 L2 d2 v2 F2->(Op.equalIn (n+k) t v1 v2).run P w=.ok b w
theorem EqV.u32{t:TypeId}{k:IntKind}(ht:P.underlying t=some (.int k))(a b:UInt32):EqV P 1 t (.u32 a) (.u32 b) (a==b):=by
 intro n w ρ1 ρ2 G1 G2 L1 L2 v1 v2 F1 F2 h1 h2;simp only[VR,D.isAgg,q7,q8] at h1 h2;cases h1;cases h2;rw[run_equalIn_int w n t .u32 k _ _ ht,RG]
theorem EqV.arr{t e m:Nat}[hT:ArT P t m e][hk:IkT P e .u8][hL:LdT P e 1 false](xs ys:List UInt8):EqV P 2 t (.arr m 1 (xs.map .u8)) (.arr m 1 (ys.map .u8)) (xs==ys):=by
 intro n w ρ1 ρ2 G1 G2 L1 L2 v1 v2 F1 F2 h1 h2;simp only[VR,D.isAgg,j9] at h1 h2;obtain⟨cx,rfl,h1⟩:=h1;obtain⟨cy,rfl,h2⟩:=h2;obtain⟨hlx,hcx⟩:=RH h1;obtain⟨hly,hcy⟩:=RH h2;obtain⟨d,i,_,_,hi,hsz⟩:=hL.i
 have hce:P.cellsOf e=1:=by simp[Program.cellsOf,hi,hsz]
 rw[show n+2=(n+1)+1 from rfl,run_equalIn_array w (n+1) cx cy hT.u hi,hce,YE (P:=P) w n xs ys m hlx hly cx cy hcx hcy _ (λi hi=>j7.1 hi),j65 m xs ys hlx hly]
inductive EqFs(P:Program)(k:Nat):Nat->List Field->List D->List D->Bool->Prop
 | nil {o:Nat}:EqFs P k o [] [] [] true
 | cons {o z:Nat} {gg:Bool} {f:Field} {fs:List Field} {d1 d2:D} {ds1 ds2:List D} {b bs:Bool} (hn:(f.name != "_")=true) (ho:f.offset=o) (hL:LdT P f.type z gg) (hz1:d1.sz=z) (hz2:d2.sz=z) (hg1:d1.isAgg=gg) (hg2:d2.isAgg=gg)
  (h:EqV P k f.type d1 d2 b) (t:EqFs P k (o+z) fs ds1 ds2 bs):EqFs P k o (f::fs) (d1::ds1) (d2::ds2) (b&&bs)
theorem EqFs.run{k o:Nat}{fs:List Field}{ds1 ds2:List D}{b:Bool}(h:EqFs P k o fs ds1 ds2 b)(n:Nat)(w:World)(ρ1 ρ2:Nat->Nat)(G1 G2 L1 L2:Nat->Prop)(cs1 cs2:Array Value)(Fs1 Fs2:Nat->List Nat)
 (hc1:o+N6 ds1<=cs1.size) (hc2:o+N6 ds2<=cs2.size)
 (h1:∀ i (hi:i<ds1.length),Rc w ρ1 G1 L1 true ds1[i] ((cs1.toList.drop (o+offk ds1 i)).take ds1[i].sz) (Fs1 i)) (h2:∀ i (hi:i<ds2.length),Rc w ρ2 G2 L2 true ds2[i] ((cs2.toList.drop (o+offk ds2 i)).take ds2[i].sz) (Fs2 i)) :
 (Op.eqFields (n+k) cs1 cs2 fs).run P w=.ok b w:=by
 induction h generalizing Fs1 Fs2 with
 | nil=>simp[Op.eqFields]
 | @cons o z gg f fs d1 d2 ds1 ds2 b bs hn ho hL hz1 hz2 hg1 hg2 h t ih=>
  subst ho;simp only[S1] at hc1 hc2;have a1:=h1 0 (by simp);have a2:=h2 0 (by simp);simp only[Z2,GN,J8,hz1] at a1;simp only[Z2,GN,J8,hz2] at a2;obtain⟨v1,r1,q1⟩:=XL (P:=P) (e:=f.type) (hL:=hL) a1 hz1 hg1 (by omega);obtain⟨v2,r2,q2⟩:=XL (P:=P) (e:=f.type) (hL:=hL) a2 hz2 hg2 (by omega);have hb:=h n w _ _ _ _ _ _ _ _ _ _ q1 q2
  have ih':=ih (λi=>Fs1 (i+1)) (λi=>Fs2 (i+1)) (by omega) (by omega) (λi hi=>by
   have:=h1 (i+1) (by simpa using hi);simp only[J6,XV,hz1] at this
   rw[U7];exact this) (λi hi=>by
   have:=h2 (i+1) (by simpa using hi);simp only[J6,XV,hz2] at this
   rw[U7];exact this)
  have hne:f.name ≠ "_":=by simpa using hn
  simp only[Op.eqFields,hne,ne_eq,not_false_eq_true,j9,Sem.run_bind,r1,r2,hb,Result.andThen_ok]
  cases b with
  | true=>simpa using ih'
  | false=>simp
theorem EqV.struct{t:TypeId}{k:Nat}{fs:Array Field}{ds1 ds2:List D}{b:Bool}(ht:P.underlying t=some (.struct fs))(hp:P.stoodInHeld t=false)(h:EqFs P k 0 fs.toList ds1 ds2 b):EqV P (k+1) t (.agg ds1) (.agg ds2) b:=by
 intro n w ρ1 ρ2 G1 G2 L1 L2 v1 v2 F1 F2 h1 h2;simp only[VR,D.isAgg,j9] at h1 h2;obtain⟨cx,rfl,h1⟩:=h1;obtain⟨cy,rfl,h2⟩:=h2
 have hf:P.fieldsOf t=fs:=by simp[Program.fieldsOf,ht]
 rw[show n+(k+1)=(n+k)+1 from rfl,run_equalIn_struct w (n+k) t cx cy (by rw[hf];exact ht) hp,hf]
 cases h1 with
 | agg _ _ Fs1 hs1 hr1=>
  cases h2 with
  | agg _ _ Fs2 hs2 hr2=>
   simp only[p6] at hs1 hs2;exact h.run n w ρ1 ρ2 G1 G2 L1 L2 cx cy Fs1 Fs2 (by omega) (by omega) (λi hi=>by rw[c9];exact hr1 i hi) (λi hi=>by rw[c9];exact hr2 i hi)
theorem R.eqD{neg:Bool}{x y:Operand}{t k:Nat}{d1 d2:D}{b b':Bool}{xt yt:TypeId}[hE:EqT P xt](he:EqV P k xt d1 d2 b)(hk:Nat.ble k 10000=true)
 (hx:ev C.gl σ x=some d1) (hy:ev C.gl σ y=some d2) (ha1:d1.isAgg=true) (ha2:d2.isAgg=true) (hr1:d1.isRef=false) (hr2:d2.isRef=false) (hb:(bif neg then !b else b)=b') (ht:t<σ.n) :
 OpS P C ⟨some t,.binOp (bif neg then .neq else .eql) xt x y yt,ty,pos,aft,g⟩ σ (σ.set t (.bool b')):=by
 subst hb;have hk:k<=10000:=g0 hk;refine OpS.value λa w ⟨ρ,Fe,Fb,st⟩=>?_;obtain⟨Fx,hvx,_⟩:=H5 st hx hr1;obtain⟨Fy,hvy,_⟩:=H5 st hy hr2;have heq:=he (10000-k) w _ _ _ _ _ _ _ _ _ _ hvx hvy;rw[show 10000-k+k=10000 by omega] at heq;simp only[VR,ha1,j9] at hvx;simp only[VR,ha2,j9] at hvy;obtain⟨cx,hex,hvx⟩:=hvx;obtain⟨cy,hey,hvy⟩:=hvy;rw[hex,hey] at heq;refine⟨.bool (bif neg then !b else b),w, ?_,st.put ht rfl ?_⟩
 ·unfold execOp
  cases neg with
  | false=>simp only[d7,hex,hey,Sem.run_bind,run_eqGuard_agg w .eql xt x y cx cy hE.i,run_eql_struct,heq,Result.andThen_ok,Sem.run_pure]
  | true=>simp only[m9,hex,hey,Sem.run_bind,run_eqGuard_agg w .neq xt x y cx cy hE.i,run_neq_struct,heq,Result.andThen_ok,Sem.run_pure]
 ·simp only[VR,D.isAgg,q7,q8];exact .bool _
theorem R.cpV{s s1 s0 t e z lo n k:Nat}{l l':List D}{x:Operand}{ty2:TypeId}[hT:SlT P ty e][hE:ElT P e z bytes]
 (h:σ.get s=some (.vw s1 z lo n)) (ho:ownr σ s1 s0) (hs:σ.get s0=some (.sl (some e) z l)) (hl0:0<l.length) (hlo:lo+n<=l.length) (hpl:∀ y∈l,y.pur=true) (hx:SrcO C.gl σ x z l') (hnp:∀ y∈l',y.np=true) (ht:t<σ.n) (hst:s0≠t)
 (hk:min l'.length n=k) (hl2:l.take lo++l'.take k++l.drop (lo+k)=l2) :
 OpS P C ⟨some t,.call { callee:=.builtin .copy,args:=#[.tmp s,x],argTypes:=#[ty,ty2] },rt,pos,aft,g⟩ σ ((σ.upd s0 (.sl (some e) z l2)).set t (.int (k:Nat))):=by
 subst hl2;refine OpS.value λa w ⟨ρ,Fe,Fb,st⟩=>?_;obtain⟨v,hv,hv0,hr⟩:=YF st ho hs;obtain⟨_,v0,v1,h1,h2,b0,len,cap0,b1,cap',q1,q2,q3,q4,q5,q6⟩:=st.env _ _ h;rw[hv] at h1;cases h1;obtain⟨base,cap2,hxe,hsr,hp⟩:=hx.ok st;obtain⟨_,news,g1,g2,g3,g4⟩:=WI hsr hp;have hkn:k<=n:=hk▸f5 _ _;have hkl:k<=l'.length:=hk▸Nat.min_le_left _ _;have hkz:k*z<=l'.length*z:=w6 z hkl
 have hxl:(news.take (k*z)).length=k*z:=by simp;omega
 generalize hFe:Fe s0=F0 at hr;generalize hcv:[v]=cv at hr
 cases hr with
 | slN=>simp at hl0
 | slE=>simp at hl0
 | slO b cs e cap z l Fs hb hc hm hsz ho1 hrr=>
 simp only[List.cons.injEq,and_true] at hcv;subst hcv;cases q1;have hFs:∀ i (hi:i<l.length),Fs i=[]:=λi hi=>(hrr i hi).pur (hpl _ (g6 hi))
 have hflat:(List.range l.length).flatMap Fs=[]:=by
  rw[J0];intro i hi;exact hFs i (j7.1 hi)
 rw[hflat] at hFe;have hbl:b<w.heap.size:=(j6.1 hb).1
 have hlz:l.length*z<=cs.size:=by rw[hsz];exact w6 z hc
 have hlm:lo*z+k*z<=l.length*z:=by rw[<- v7];exact w6 z (by omega)
 have hp0:lo*z+(news.take (k*z)).length<=cs.toList.length:=by rw[hxl,p6];omega
 have hlen2:(l.take lo++l'.take k++l.drop (lo+k)).length=l.length:=by simp;omega
 have hel:∀ i (hi:i<(l.take lo++l'.take k++l.drop (lo+k)).length),Rc w ρ (gd C Fe Fb) (λid=>(σ.box id).isSome) false (l.take lo++l'.take k++l.drop (lo+k))[i]
  (((cs.toList.take (lo*z)++news.take (k*z)++cs.toList.drop (lo*z+(news.take (k*z)).length)).drop (i*z)).take z) []:=by
  intro i hi
  have hi':i<l.length:=by omega
  rcases X9 i lo with h5|h5
  ·have e1:(l.take lo++l'.take k++l.drop (lo+k))[i]=l[i]'(by omega):=by
    rw[o0 (by simp;omega),o0 (by simp;omega),Q7]
   have h6:(i+1)*z<=lo*z:=w6 z h5;rw[v7] at h6;rw[e1,l3 _ _ _ _ _ hp0 (.inl (by omega))];have:=hrr i hi';rw[hFs i hi'] at this;exact this
  ·rcases X9 i (lo+k) with h6|h6
   ·have e1:(l.take lo++l'.take k++l.drop (lo+k))[i]=l'[i-lo]'(by omega):=by
     have h7:(l.take lo).length=lo:=by simp;omega
     rw[o0 (by simp;omega),K1 (by omega),Q7];simp only[h7]
    have h8:=HY (cs.toList.take (lo*z)) (news.take (k*z)) (cs.toList.drop (lo*z+(news.take (k*z)).length)) (i-lo) lo k z (by rw[v5,p6];omega) hxl (by omega);rw[show lo+(i-lo)=i by omega,<- u5] at h8;rw[e1,h8];have h9:=XS (news.take (k*z)) (news.drop (k*z)) (i-lo) k z hxl (by omega);rw[K9] at h9;rw[<- h9];exact g4 (i-lo) (by omega)
   ·have e1:(l.take lo++l'.take k++l.drop (lo+k))[i]=l[i]'(by omega):=by
     have h7:(l.take lo++l'.take k).length=lo+k:=by simp;omega
     rw[K1 (by omega),H9];simp only[h7,show lo+k+(i-(lo+k))=i by omega]
    have h7:(lo+k)*z<=i*z:=w6 z h6;rw[v7] at h7;rw[e1,l3 _ _ _ _ _ hp0 (.inr (by rw[hxl];exact h7))];have:=hrr i hi';rw[hFs i hi'] at this;exact this
 let cs2:List Value:=cs.toList.take (lo*z)++news.take (k*z)++cs.toList.drop (lo*z+(news.take (k*z)).length)
 have hcs2:cs2.length=cs.size:=by
  show(cs.toList.take (lo*z)++news.take (k*z)++cs.toList.drop (lo*z+(news.take (k*z)).length)).length=_;rw[T1 _ _ _ hp0,p6]
 have st2:=st.turn (F:=[b]) (w':=w.setRow b cs2.toArray) (d':=.sl (some e) z (l.take lo++l'.take k++l.drop (lo+k))) hs rfl ⟨rfl,z7 _⟩ rfl (by simp) (λb' _ hb'=>setRow_other w b b' _ (λe=>hb' (by rw[hFe,e];simp))) (by simp)
  (λy hy=>.inl (by rw[hFe];exact hy)) (by
   refine(c5 rfl).2 ⟨_,hv0, ?_⟩;simp only[VR,D.isAgg,q7,q8];have:=Rc.slO (w:=w.setRow b cs2.toArray) (ρ:=ρ) (G:=gd C (Go.Sx.upd Fe s0 [b]) Fb) (L:=λid=>(σ.box id).isSome) (p:=true) b cs2.toArray e cap0 z (l.take lo++l'.take k++l.drop (lo+k)) (λ_=>[]) (setRow_heap w b cs _ e (0,0) hb) (by omega) hm
    (by simp only[L7];rw[hcs2,hsz]) (λu hu=>by
     simp only[cs2,Q9] at hu
     rcases hu with (hu|hu)|hu
     ·exact ho1 u (Q0 hu)
     ·exact g3 u (Q0 hu)
     ·exact ho1 u (Y5 hu)) (λj hj=>(hel j hj).mono (λy hy _=>setRow_other w b y _ (λe=>by
     subst e
     rcases hy with hy|hy
     ·exact hy.2 (.inl ⟨s0,by rw[hFe];simp⟩)
     ·cases hy)) (λy hy _=>⟨hy.1,λho'=>hy.2 (by
      rcases ho' with ⟨u,hu'⟩|hid
      ·by_cases hus:u=s0
       ·subst hus;rw[c7] at hu';exact .inl ⟨u,by rw[hFe];exact hu'⟩
       ·rw[j2 hus] at hu';exact .inl ⟨u,hu'⟩
      ·exact .inr hid)⟩) (λid hid=>⟨hid,rfl⟩))
   have e0:(List.range (l.take lo++l'.take k++l.drop (lo+k)).length).flatMap (λ_=>([]:List Nat))=[]:=by rw[J0];intros;rfl
   rw[e0,hlen2] at this
   exact this)
 refine⟨.int .i64 (k:Nat),w.setRow b cs2.toArray, ?_,st2.put (t:=t) (d:=.int (k:Nat)) (v:=.int .i64 (k:Nat)) (by simpa using ht) rfl (by simp only[VR,D.isAgg,q7,q8];exact .int _)⟩
 have hfc:(Builtin.firstCells z k (.slice base l'.length cap2)).run P w=.ok (news.take (k*z)).toArray w:=by
  rcases g1 with ⟨rfl,rfl,rfl⟩|⟨ad,rfl,hn⟩
  ·have:k=0:=by simp at hkl;exact hkl
   subst this;simp[Builtin.firstCells]
  ·refine run_firstCells_some w z k ad l'.length cap2 _ hxl (λj u hu=>hn j u ?_);rw[d9] at hu;split at hu
   ·exact hu
   ·cases hu
 obtain⟨o',hb1,ho'⟩:∃ o',b1=some ⟨b,o',none⟩/\(o'=lo*z∨(o'=0/\n=0)):=by
  rcases q6 with ⟨bb,o,o',h3,h4,h5,_⟩|⟨h3,_⟩
  ·cases h3;exact⟨o',h4,by simpa using h5⟩
  ·omega
 have hst:(storeCells ⟨b,o',none⟩ (news.take (k*z)) 0).run P w=.ok () (w.setRow b cs2.toArray):=by
  rcases ho' with rfl|⟨rfl,rfl⟩
  ·have:=run_storeCells_at P b (lo*z) e (news.take (k*z)) 0 cs w hb (by rw[hxl];omega) (λu hu=>g3 u (Q0 hu));simp only[J8] at this;exact this
  ·have hk0:k=0:=by omega
   subst hk0
   have:cs2.toArray=cs:=by
    show(cs.toList.take (lo*z)++news.take (0*z)++cs.toList.drop (lo*z+(news.take (0*z)).length)).toArray=cs;simp
   rw[this,setRow_self w b cs e (0,0) hb];simp only[Nat.zero_mul,H6];rfl
 subst hb1;subst q2;unfold execOp;have hmin:Nat.min l'.length n=k:=hk;simp[resolve,invoke,builtin,Builtin.copy_,run_underlying hT.u,Q3 h2,hxe,Builtin.lenOf,ElT.size (P:=P) (e:=e),hmin,hfc,hst,goInt]
end
section
variable{P:Program}{C:Ctx}{σ σ' σ1:Sg}{a:Act}{w w':World}{ρ:Nat->Nat}{Fe Fe' Fb:Nat->List Nat}
variable{gl:List (Nat×D)}{W0:World}{G:Nat->Prop}
theorem z83{ids:List Nat}{pn:Nat->Option Nat}{ops:List Oper}{G:Nat->Prop}{Y:Yt}{k:Nat}{l:List Oper}{Q:Exit->(Nat×Bool)×Sg->Prop}{y t lo:Nat}{x:Operand}{d:D}{xs:List D}
 (hw:Wt ops σ.get ⟨some t,.call { callee:=.value (.tmp y),args:=#[x],argTypes:=tys },rt,pos,aft,g⟩ true)
 (hY:Stable Y) (hyl:∀ k O w v,(h:k<xs.length)->Y k false O w->(∀ b,O b->b<w.heap.size)->VR w (λx=>x) (λb=>G b∨O b) (λ_=>False) xs[k] v []->UE P lo v w (Rnd Y G O k w))
 (hg:σ.get y=some (.yld lo)) (hx:ev gl σ x=some d) (hp:d.pur=true) (hn:d.np=true) (hk:k<xs.length) (hd:xs[k]=d) (ht:t<σ.n)
 (kk:∀ s,VL P none (AM (NC gl G Y ids pn)) ops.toArray l Q ((k+1,s),σ.set t (.bool (!s)))) :
 VL P none (AM (NC gl G Y ids pn)) ops.toArray (⟨some t,.call { callee:=.value (.tmp y),args:=#[x],argTypes:=tys },rt,pos,aft,g⟩::l) Q ((k,false),σ):=by
 intro a w ⟨C,⟨h1,h2,h3,h4,O,hkeep,hok,hG,hO,hYk⟩,ρ,Fe,Fb,st⟩;simp only[wpListIn,hw.ok ⟨ρ,Fe,Fb,st⟩ (λ_ _ h=>h),j9];obtain⟨vy,hvy,hry⟩:=(c5 rfl).1 (st.env y _ hg);simp only[VR,D.isAgg,q7,q8] at hry;generalize Fe y=Fy at hry;cases hry
 -- what it owns by now
 let O':Nat->Prop:=λb=>(O b∨C.w0.heap.size<=b)/\b<w.heap.size
 have hap:Apart O O' C.w0 w:={
  same:=λb hb hn=>(st.kept b ((hkeep b).2 ⟨hb,hn⟩)).1
  size:=st.grown
  sub:=λb hb=>hb.1
  lt:=λb hb=>hb.2
  os:=st.os
  tape:=⟨st.tape.tp,st.tape.dr⟩
  output:=st.output }
 have hY1:Y k false O' w:=hY _ _ _ _ _ _ hYk hap;have hlt:=st.lt
 have hownO:∀ b,own Fe Fb b->O' b:=λb hb=>by
  refine⟨?_,hlt b hb⟩;by_cases h0:C.w0.heap.size<=b
  ·exact .inr h0
  ·left;by_cases hOb:O b
   ·exact hOb
   ·exact absurd ((hkeep b).2 ⟨by omega,hOb⟩) (st.new b hb)
 have hgdO:∀ b,gd C Fe Fb b->b<w.heap.size->G b∨O' b:=λb hb hl=>by
  rcases(hok b).1 hb.1 with h|h|h
  ·exact .inl h
  ·exact .inr ⟨.inl h,hl⟩
  ·exact .inr ⟨.inr h,hl⟩
 have hv:VR w (λx=>x) (λb=>G b∨O' b) (λ_=>False) xs[k] (a.eval x) []:=by
  rw[hd];obtain⟨F,hvx,_⟩:=H5 st (by rw[h1];exact hx) (D9 hp);have hFx:=hvx.pur hp;subst hFx;exact(hvx.noL (ρ':=λx=>x) (L':=λ_=>False) hn).mono (λ_ _ _=>rfl) hgdO (λ_ h=>h.elim)
 obtain⟨f,tmps,assign,body,hrun,hround⟩:=hyl k O' w (a.eval x) hk hY1 (λb hb=>hb.2) hv
 have hexec:(execOp a.eval ⟨some t,.call { callee:=.value (.tmp y),args:=#[x],argTypes:=tys },rt,pos,aft,g⟩).run P w=.ok (.round lo f tmps assign body) w:=by
  unfold execOp;simp[resolve,Q3 hvy,Deferred.ofValue,invoke,hrun]
 have hF:Fx C=Fr none:=by unfold Fx Fr;rw[h2]
 have hgoal:Oper.wpIn (Fx C) 3 P ⟨some t,.call { callee:=.value (.tmp y),args:=#[x],argTypes:=tys },rt,pos,aft,g⟩ a w (wpListIn (Fr none) 3 P ops.toArray (λe a' w'=>∃ j,AM (NC gl G Y ids pn) j a' w'/\Q e j) l) (λe a' w'=>∃ j,AM (NC gl G Y ids pn) j a' w'/\Q e j):=by
  refine O0 hexec (by simp) ?_;rw[Oper.uponIn_round,hF];refine⟨(λh=>by cases h),hround.mono λe w' ⟨s',he,hr⟩=>?_⟩;subst he;refine kk s' _ _ ?_
  let C':Ctx:=⟨w',λb=>b<w'.heap.size/\¬ O' b,λb=>G b∨O' b∨w'.heap.size<=b,gl,none,C.pin,C.df⟩
  have hGs:∀ b,G b->b<w.heap.size:=λb hb=>u0 (hG b hb).1 st.grown
  have hGO:∀ b,G b->¬ O' b:=λb hb hc=>by
   rcases hc.1 with h|h
   ·exact(hG b hb).2 h
   ·have:=(hG b hb).1;omega
  have hgd2:∀ b,(gd C Fe Fb b∨own Fe Fb b)->b<w.heap.size->w'.heap[b]? = w.heap[b]?:=λb hb hl=>hr.same b (hb.elim (λh=>hgdO b h hl) (λh=>.inr (hownO b h))) hl;have st':StW C' σ a w' ρ Fe Fb:=st.rebase C' rfl rfl hgd2 (λb hb hl=>(hgdO b hb hl).imp (λh=>h) (λh=>.inl h)) (λb hb hc=>hc.2 (hownO b hb)) (λb hb=>⟨rfl,hb.1⟩) rfl ⟨rfl,z7 _⟩ rfl (z7 _)
   (λg d hgd=>by
    obtain⟨q1,q2,cs,e,fz,q3,q4⟩:=st.gl g d (by rw[h1];exact hgd);have q1':=(hkeep g).1 q1
    have hGg:G g:=by
     rcases(hok g).1 q2 with h|h|h
     ·exact h
     ·exact absurd h q1'.2
     ·omega
    have hsz:g<w.heap.size:=hGs g hGg;refine⟨⟨u0 hsz hr.size,hGO g hGg⟩,.inl hGg,cs,e,fz, ?_,q4.mono (λb hb=>?_) (λ_ h=>h.elim) (λ_ h=>h.elim)⟩
    ·show w'.heap[g]? = _;rw[hr.same g (.inl hGg) hsz,(st.kept g q1).1,q3]
    ·rcases hb with hb|hb
     ·exact hb.elim
     ·cases hb)
   (λb hb=>.inr (.inr hb)) (λb hb=>.inr (.inl (hownO b hb)))
  refine⟨C',⟨rfl,rfl,h3,h4,O',λb=>Iff.rfl,λb=>Iff.rfl,λb hb=>⟨u0 (hGs b hb) hr.size,hGO b hb⟩,λb hb=>u0 hb.2 hr.size,hr.y⟩, ?_⟩;exact st'.put ht rfl (by simp only[VR,D.isAgg,q7,q8];exact .bool _)
 rw[hF] at hgoal;exact hgoal
end
section
variable{P:Program}{C:Ctx}{σ σ' σ1:Sg}{a:Act}{w w':World}{ρ:Nat->Nat}{Fe Fe' Fb:Nat->List Nat}
theorem Rc.take{G:Nat->Prop}{d d':D}{cs:List Value}(h:Rc w ρ G L true d cs F){e z:Nat}{l:List D}
 (hl:d.loc path=some (off,.sl (some e) z l)) (hna:d.noArr path=true) (hu:d.upd path .dead=some d') (hF:F.Nodup) :
 ∃ v F1 F2,cs[off]? = some v/\Rc w ρ G L true (.sl (some e) z l) [v] F1/\Rc w ρ G L true d' cs F2/\(∀ b∈F1,b∈F)/\(∀ b∈F2,b∈F)/\F1.Nodup/\F2.Nodup/\(∀ b∈F1,b∉F2)/\d'.sz=d.sz:=by
 induction path generalizing d cs F off d' with
 | nil=>
  simp only[D.loc,z6,b8] at hl;simp only[D.upd,z6] at hu;obtain⟨rfl,rfl⟩:=hl;subst hu;have h1:=h.len
  obtain⟨v,rfl⟩:∃ v,cs=[v]:=by
   match cs,h1 with
   | [x],_=>exact⟨x,rfl⟩
  exact⟨v,F,[],rfl,h,.dead v (h.one v (by simp)),λ_ h=>h,by simp,hF,w9,by simp,rfl⟩
 | cons k path ih=>
  cases h with
  | agg l0 cs Fs hs hr=>
   simp only[D.loc] at hl;simp only[D.upd] at hu
   cases hk:l0[k]? with
   | none=>simp[hk] at hl
   | some d2=>
    obtain⟨hklt,rfl⟩:=z8.1 hk;simp only[hk] at hl hu
    cases hd:D.loc l0[k] path with
    | none=>simp[hd] at hl
    | some od=>
     obtain⟨o,d3⟩:=od;simp only[hd,z6,b8] at hl;obtain⟨rfl,rfl⟩:=hl
     cases hud:D.upd l0[k] path .dead with
     | none=>simp[hud] at hu
     | some d4=>
      simp only[hud,z6] at hu;subst hu;obtain⟨hn1,hn2⟩:=l7 hF;have hkm:∀ b∈Fs k,b∈(List.range l0.length).flatMap Fs:=λb hb=>w8.2 ⟨k,j7.2 hklt,hb⟩;simp only[D.noArr,hk] at hna;obtain⟨v,F1,F2,h1,h2,h3,h4,h5,h6,h7,h8,h9⟩:=ih (hr k hklt) hd hna hud (hn1 k hklt);have hlen:=(hr k hklt).len;have hlo:=T3 l0 k hklt
      have hol:o<l0[k].sz:=by
       have:=(z8.1 h1).1;omega
      refine⟨v,F1,(List.range (l0.set k d4).length).flatMap (λj=>if j=k then F2 else Fs j), ?_,h2, ?_,λb hb=>hkm b (h4 b hb), ?_,h6, ?_, ?_, ?_⟩
      ·rw[d9,u4 hol,n4] at h1;exact h1
      ·refine .agg (l0.set k d4) _ _ ?_ (λj hj=>?_)
       ·rw[hs,UP l0 k d4 hklt h9]
       ·have hj':j<l0.length:=by simpa using hj
        rw[YL l0 k j d4 hklt h9];by_cases hjk:j=k
        ·subst hjk;simp only[D7,j9,h9];exact h3
        ·have hjj:(l0.set k d4)[j]=l0[j]:=by rw[B1 (λe=>hjk e.symm)]
         simp only[hjj,hjk,q8];exact hr j hj'
      ·intro b hb;obtain⟨j,hj,hm⟩:=w8.1 hb
       have hj':j<l0.length:=by simpa using j7.1 hj
       by_cases hjk:j=k
       ·subst hjk;simp at hm;exact hkm b (h5 b hm)
       ·simp only[hjk,q8] at hm;exact w8.2 ⟨j,j7.2 hj',hm⟩
      ·refine N7 (λj hj=>?_) (λi j hi hj hij b hb hb'=>?_)
       ·have hj':j<l0.length:=by simpa using hj
        by_cases hjk:j=k
        ·simp[hjk,h7]
        ·simp only[hjk,q8];exact hn1 j hj'
       ·have hi':i<l0.length:=by simpa using hi
        have hj':j<l0.length:=by simpa using hj
        by_cases hik:i=k
        ·subst hik;simp only[j9] at hb;simp only[show ¬ j=i from λe=>hij e.symm,q8] at hb';exact hn2 j i hj' hi' (λe=>hij e.symm) b hb' (h5 b hb)
        ·simp only[hik,q8] at hb;by_cases hjk:j=k
         ·simp only[hjk,j9] at hb';exact hn2 i k hi' hklt hik b hb (h5 b hb')
         ·simp only[hjk,q8] at hb';exact hn2 i j hi' hj' hij b hb hb'
      ·intro b hb hb';obtain⟨j,hj,hm⟩:=w8.1 hb'
       have hj':j<l0.length:=by simpa using j7.1 hj
       by_cases hjk:j=k
       ·subst hjk;simp at hm;exact h8 b hb hm
       ·simp only[hjk,q8] at hm;exact hn2 j k hj' hklt hjk b hm (h4 b hb)
      ·simp only[D.sz];rw[UP l0 k d4 hklt h9]
  | arr n z l cs hn hs hr=>simp[D.noArr] at hna
  | _=>simp[D.loc] at hl
theorem CD{id t e z:Nat}{l:List D}{d0':D}(h:σ.get t=some (.alb id off path))(hb:σ.box id=some (.var d0))(hl:d0.loc path=some (off,.sl (some e) z l))
 (hna:d0.noArr path=true) (hu:d0.upd path .dead=some d0') (hs:St C σ a w) :
 St C ((σ.putB id (.var d0')).upd t (.sl (some e) z l)) a w:=by
 obtain⟨ρ,Fe,Fb,st⟩:=hs;obtain⟨hFt,hid,v,hv,hcell⟩:=st.env t _ h;obtain⟨cs,e0,F',q1,q2,q3⟩:=st.bx id _ hb
 have hnd:(ρ id::F').Nodup:=by have:=st.nodB id;rw[q3] at this;exact this
 obtain⟨v0,F1,F2,k1,k2,k3,k4,k5,k6,k7,k8,k9⟩:=q2.take hl hna hu (v3.1 hnd).2
 have hvv:v0=v:=by
  have:cs[off]? = some v0:=by rw[<- Array.getElem?_toList];exact k1
  simp only[World.cell?,q1] at hcell;rw[this] at hcell;cases hcell;rfl
 subst hvv
 have hmem:∀ b,b∈F1->b∈Fb id:=λb hb=>by rw[q3];exact j1 _ (k4 b hb)
 have hmem2:∀ b,b∈ρ id::F2->b∈Fb id:=λb hb=>by
  rw[q3]
  rcases w5.1 hb with rfl|hb
  ·simp
  ·exact j1 _ (k5 b hb)
 have hot:∀ b,own (upd Fe t F1) (upd Fb id (ρ id::F2)) b->own Fe Fb b:=by
  rintro b (⟨u,hu⟩|⟨i,hi⟩)
  ·by_cases hut:u=t
   ·subst hut;rw[c7] at hu;exact .inr ⟨id,hmem b hu⟩
   ·rw[j2 hut] at hu;exact .inl ⟨u,hu⟩
  ·by_cases hii:i=id
   ·subst hii;rw[c7] at hi;exact .inr ⟨i,hmem2 b hi⟩
   ·rw[j2 hii] at hi;exact .inr ⟨i,hi⟩
 have hg:∀ b,gd C Fe Fb b->gd C (upd Fe t F1) (upd Fb id (ρ id::F2)) b:=λb hb=>⟨hb.1,λhc=>hb.2 (hot b hc)⟩
 have hbox:∀ i,((σ.putB id (.var d0')).upd t (.sl (some e) z l)).box i=if i=id then some (.var d0') else σ.box i:=λi=>by
  rw[q98,UK];by_cases hi:i=id
  ·subst hi;simp[hb]
  ·simp[hi]
 have hL:∀ i,(σ.box i).isSome=true->(((σ.putB id (.var d0')).upd t (.sl (some e) z l)).box i).isSome=true:=λi hi=>by
  rw[hbox];by_cases hii:i=id
  ·simp[hii]
  ·simpa [hii] using hi
 refine⟨ρ,upd Fe t F1,upd Fb id (ρ id::F2),{
  size:=st.size
  defs:=st.defs
  pin:=λi b hp=>⟨(st.pin i b hp).1,hL i (st.pin i b hp).2⟩
  env:=λu x hx=>?_
  envN:=λu hu=>?_
  bx:=λi b hd=>?_
  bxN:=λi hn=>?_
  nodE:=λu=>?_
  nodB:=λi=>?_
  dEE:=λu u' hne b hb1 hb2=>?_
  dEB:=λu i b hb1 hb2=>?_
  dBB:=λi i' hne b hb1 hb2=>?_
  new:=λb hb=>st.new b (hot b hb)
  kept:=st.kept
  os:=st.os
  tape:=⟨st.tape.tp,st.tape.dr⟩
  output:=st.output
  grown:=st.grown
  gl:=st.gl
  okN:=st.okN
  okO:=λb hb=>st.okO b (hot b hb) }⟩
 ·rw[JQ,e8] at hx;by_cases hut:u=t
  ·subst hut;simp only[j9,h,Y1] at hx;cases hx;rw[c7];refine(c5 rfl).2 ⟨v0,hv, ?_⟩;simp only[VR,D.isAgg,q7,q8];exact k2.mono (λ_ _ _=>rfl) (λb hb _=>hg b hb) (λi hi=>⟨hL i hi,rfl⟩)
  ·simp only[hut,q8,p9] at hx;obtain⟨x0,hx0,rfl⟩:=hx;rw[j2 hut];have hsr:=st.env u x0 hx0
   have hkeep:SR w ρ (gd C (upd Fe t F1) (upd Fb id (ρ id::F2))) (λi=>(((σ.putB id (.var d0')).upd t (.sl (some e) z l)).box i).isSome) a u x0 (Fe u):=
    MV hsr (λ_ _ _=>rfl) (λb hb _=>hg b hb) hL (λ_ _ _ _ h=>h)
   cases x0 with
   | alb i off path=>
    simp only[ZQ];by_cases hii:i=id
    ·subst hii;simp only[Z8,m9];obtain⟨h1,_,v1,h2,_⟩:=hsr;exact⟨h1,v1,h2⟩
    ·simp only[nbeq hii,d7];exact hkeep
   | _=>exact hkeep
 ·rw[JQ,e8] at hu;by_cases hut:u=t
  ·subst hut;simp[h] at hu
  ·simp only[hut,q8,n3] at hu;rw[j2 hut];exact st.envN u hu
 ·rw[hbox] at hd;by_cases hii:i=id
  ·subst hii;simp only[j9,z6] at hd;subst hd;rw[c7];exact⟨cs,e0,F2,q1,k3.mono (λ_ _ _=>rfl) (λb hb _=>hg b hb) (λi hi=>⟨hL i hi,rfl⟩),rfl⟩
  ·simp only[hii,q8] at hd;rw[j2 hii];exact(st.bx i b hd).mono (λ_ _ _=>rfl) (λb hb _=>hg b hb) (λi hi=>⟨hL i hi,rfl⟩)
 ·rw[hbox] at hn;by_cases hii:i=id
  ·simp[hii] at hn
  ·simp only[hii,q8] at hn;rw[j2 hii];exact st.bxN i hn
 ·by_cases hut:u=t
  ·subst hut;rw[c7];exact k6
  ·rw[j2 hut];exact st.nodE u
 ·by_cases hii:i=id
  ·subst hii;rw[c7];exact v3.2 ⟨λhm=>(v3.1 hnd).1 (k5 _ hm),k7⟩
  ·rw[j2 hii];exact st.nodB i
 ·by_cases hut:u=t
  ·subst hut;rw[c7] at hb1;rw[j2 (λh=>hne h.symm)] at hb2;exact st.dEB u' id b hb2 (hmem b hb1)
  ·rw[j2 hut] at hb1;by_cases hut':u'=t
   ·subst hut';rw[c7] at hb2;exact st.dEB u id b hb1 (hmem b hb2)
   ·rw[j2 hut'] at hb2;exact st.dEE u u' hne b hb1 hb2
 ·by_cases hii:i=id
  ·subst hii;rw[c7] at hb2;by_cases hut:u=t
   ·subst hut;rw[c7] at hb1
    rcases w5.1 hb2 with rfl|hb2
    ·exact(v3.1 hnd).1 (k4 _ hb1)
    ·exact k8 b hb1 hb2
   ·rw[j2 hut] at hb1;exact st.dEB u i _ hb1 (hmem2 b hb2)
  ·rw[j2 hii] at hb2;by_cases hut:u=t
   ·subst hut;rw[c7] at hb1;exact st.dBB id i (λh=>hii h.symm) b (hmem b hb1) hb2
   ·rw[j2 hut] at hb1;exact st.dEB u i b hb1 hb2
 ·have key:∀ i b,b∈upd Fb id (ρ id::F2) i->b∈Fb i:=λi b hb=>by
   by_cases hii:i=id
   ·subst hii;rw[c7] at hb;exact hmem2 b hb
   ·rw[j2 hii] at hb;exact hb
  exact st.dBB i i' hne b (key i b hb1) (key i' b hb2)
theorem CM{s id t e z:Nat}{d0':D}{x:Operand}{l l':List D}[hT:SlT P ty e][hE:ElT P e z bytes]
 (h:σ.get s=some (.alb id off path)) (hb:σ.box id=some (.var d0)) (hl:d0.loc path=some (off,.sl (some e) z l)) (hna:d0.noArr path=true) (hu:d0.upd path .dead=some d0')
 {τ:Sg} (hτ:(σ.putB id (.var d0')).upd s (.sl (some e) z l)=τ) (hs:τ.get s=some (.sl (some e) z l))
 (hx:SrcO C.gl τ x z l') (he:l++l'=l2) (hn:l.length+l'.length<=1073741824) (ht:t<σ.n) (hst:s≠t) (hby:bytes<=131072) :
 OpS P C ⟨some t,.call { callee:=.builtin .append,args:=#[.tmp s,x],argTypes:=#[ty,ty] },rt,pos,aft,g⟩ σ ((τ.kill s).set t (.sl (some e) z l2)):=by
 subst hτ;exact CN (λa w hs=>CD h hb hl hna hu hs) (O6 (.inl rfl) hs hx he hn ht hst hby)
theorem x21{ids:List Nat}{rs:List ResultVar}(h:(rs.all λrv=>(R4 σ rv).2||!K2 ids (R4 σ rv).1)=true):∀ rv∈rs,(R4 σ rv).2=false->K2 ids (R4 σ rv).1=false:=by
 intro rv hrv h2;have:=o8.1 h rv hrv;rw[h2] at this;simpa using this
theorem O2{r:D}{ids:List Nat}{b0:List (Nat×Bx)}{e:Exit}(he:e=.normal∨e=.ret)(hb:M9 ids σ.bx=b0)(hb':b0=bx')(hok:ZK ids b0):EndsB [] P (.tup []) ids bx' e σ:=by
 subst hb';exact⟨he,⟨[],rfl,rfl,w9,λk hk=>by simp at hk⟩,rfl,hb,hok,λrv hrv=>by cases hrv⟩
theorem EndsB.one'{rv:ResultVar}{r d:D}{ids:List Nat}{b0:List (Nat×Bx)}{e:Exit}(he:e=.normal∨e=.ret)(h:YI σ rv=some d)(hd:d=r)(h1:d.isRef=false)(h3:WY P d rv)(hokr:d.okB ids=true)
 (hb:M9 ids σ.bx=b0) (hb':b0=bx') (hok:ZK ids b0) (hs:([rv].all λrv=>(R4 σ rv).2||!K2 ids (R4 σ rv).1)=true):EndsB [rv] P r ids bx' e σ:=by
 subst hb';subst hd;exact⟨he,⟨h,h1,h3⟩,hokr,hb,hok,x21 hs⟩
def v70(P:Program)(C:Ctx)(o:Oper)(σ:Sg)(E:Exit->Sg->Prop):Prop:=
 ∀ a w,St C σ a w->∀ (K:Act->World->Prop) (Q:Exit->Act->World->Prop),(∀ e a' w' σ',St C σ' a' w'->E e σ'->Q e a' w')->o.wpIn (Fx C) 3 P a w K Q
def D.albIn(ids:List Nat):D->Bool
 | .alb id _ _=>K2 ids id
 | _=>false
def QD(ids:List Nat)(ks:List (Nat×Nat))(c:Nat):List (Nat×D)->Bool
 | []=>true
 | (u,d)::r=>(!(d.albIn ids)||has ks c u)&&QD ids ks c r
def QH(ids:List Nat)(an:List Nat)(ks:List (Nat×Nat))(c:Nat):List It->Nat->Bool
 | [],_=>true
 | ⟨t,d,_⟩::r,j=>(!(d.albIn ids)||has ks c t||tb (nth an j) c)&&QH ids an ks c r (j+1)
theorem GM{ids:List Nat}{ks:List (Nat×Nat)}{c:Nat}{env:List (Nat×D)}(h:QD ids ks c env=true){u:Nat}{x:D}(hx:lk env u=some x):x.albIn ids=false∨(c,u)∈ks:=by
 induction env with
 | nil=>cases hx
 | cons y r ih=>
  obtain⟨k,d⟩:=y;simp only[QD,u6,Y2,D1] at h;rw[U2] at hx;split at hx
  ·rename_i hk;subst hk;cases hx;exact h.1.imp id BD
  ·exact ih h.2 hx
theorem EW{ids an:List Nat}{ks:List (Nat×Nat)}{c:Nat}{its:List It}{j0:Nat}(h:QH ids an ks c its j0=true){k t:Nat}{d:D}{wt:Bool}(hk:its[k]? = some ⟨t,d,wt⟩) :
 d.albIn ids=false∨(c,t)∈ks∨tb (nth an (j0+k)) c=true:=by
 induction its generalizing j0 k with
 | nil=>simp at hk
 | cons y r ih=>
  obtain⟨t',d',w'⟩:=y;simp only[QH,u6,Y2,D1] at h
  cases k with
  | zero=>
   simp at hk;obtain⟨rfl,rfl,rfl⟩:=hk
   rcases h.1 with (h1|h1)|h1
   ·exact .inl h1
   ·exact .inr (.inl (BD h1))
   ·exact .inr (.inr h1)
  | succ k=>
   have:=ih h.2 (k:=k) (by simpa using hk)
   rwa [show j0+(k+1)=j0+1+k by omega]
theorem NF{ks:List (Nat×Nat)}{c:Nat}(env:List (Nat×D)):QD [] ks c env=true:=by
 induction env with
 | nil=>rfl
 | cons y r ih=>obtain⟨u,d⟩:=y;simp only[QD,ih,i8];cases d<;>simp[D.albIn,K2]
theorem NE{an:List Nat}{ks:List (Nat×Nat)}{c:Nat}(its:List It)(j:Nat):QH [] an ks c its j=true:=by
 induction its generalizing j with
 | nil=>rfl
 | cons y r ih=>obtain⟨u,d,x⟩:=y;simp only[QH,ih,i8];cases d<;>simp[D.albIn,K2]
structure ItG(σ:Sg)(ops:List Oper)(an:List Nat)(ks:List (Nat×Nat))(its:List It):Prop where
 len:its.length<=ops.length
 ts:TY σ.n (slots its)=true
 ref:PG an ks (slots its) its 0=true
 env:PH (slots its) σ.env=true
section
variable{listed:Array Bool}{ops:List Oper}{an:List Nat}{ks kk:List (Nat×Nat)}{its:List It}{Q:Exit->Sg->Prop}
def HE(σ:Sg)(an:List Nat)(ks:List (Nat×Nat))(its:List It)(listed:Array Bool)(τ:Sg):Prop:=
 ∀ u x,afts an (λj=>listed.getD j false) ks σ.env its u=some x->τ.get u=some x
theorem OF(H:ItG σ ops an ks its)(hsize:listed.size=ops.length){i:Nat}(hi:i<its.length)(hun:listed.getD i true=false)
 (hanc:∀ j,j<ops.length->tb (nth an i) j=true->listed.getD j false=true) (hnot:∀ j,j<ops.length->tb (nth an j) i=true->listed.getD j false=false)
 {τ:Sg} (hinv:HE σ an ks its listed τ):∀ u x,facts an ks σ.env its i u=some x->τ.get u=some x:=by
 obtain⟨hnd,hlt⟩:=T2 H.ts;obtain⟨hin,hif⟩:=undone hun;intro u x hx;refine hinv u x ?_;unfold facts at hx;unfold afts
 cases hb:bads (λk=>!(Nat.beq k i)&&!(tb (nth an k) i)&&!(cov an (λj=>tb (nth an i) j) its u k)) ks u with
 | true=>rw[hb] at hx;cases hx
 | false=>
  rw[hb] at hx;simp only[d7] at hx
  have hb2:bads (λj=>listed.getD j false&&!(cov an (λj=>listed.getD j false) its u j)) ks u=false:=by
   rw[T4] at hb ⊢;intro k s hm hsu;have:=hb k s hm hsu
   cases hd:listed.getD k false with
   | false=>rfl
   | true=>
    have hk:k<ops.length:=by rw[<- hsize];exact N4 hd
    have hki:k≠i:=by rintro rfl;rw[hif] at hd;cases hd
    rw[nbeq hki] at this
    cases ht:tb (nth an k) i with
    | true=>rw[hnot k hk ht] at hd;cases hd
    | false=>
     rw[ht] at this;simp only[Bool.not_false,U9,X7] at this;obtain⟨j,dj,wj,h1,h2,h3,h4⟩:=JI this;have hjl:j<ops.length:=u0 (z8.1 h2).1 H.len;rw[BF (g:=λj=>listed.getD j false) h1 (hanc j hjl h3) h4];rfl
  rw[hb2];simp only[d7]
  rcases B9 its u with hu|⟨k,dk,wk,hk⟩
  ·rw[P0 hu] at hx ⊢;exact hx
  ·rw[O1 hnd hk] at hx ⊢;simp only[c9] at hx ⊢;have hkl:k<ops.length:=u0 (z8.1 hk).1 H.len
   cases h1:tb (nth an i) k with
   | true=>rw[h1] at hx;rw[hanc k hkl h1];exact hx
   | false=>
    rw[h1] at hx
    cases h2:tb (nth an k) i with
    | true=>rw[h2] at hx;rw[hnot k hkl h2];exact hx
    | false=>rw[h2] at hx;cases hx
theorem KQ(H:ItG σ ops an ks its)(hsize:listed.size=ops.length){i t:Nat}{d:D}{wt:Bool}(hit:its[i]? = some ⟨t,d,wt⟩)(hun:listed.getD i true=false)
 (hnot:∀ j,j<ops.length->tb (nth an j) i=true->listed.getD j false=false) {ids:List Nat} (hE:QD ids ks i σ.env=true) (hI:QH ids an ks i its 0=true)
 {τ:Sg} (hinv:HE σ an ks its listed τ) (x:D) (hx:x=(bif wt then d else .tup [])) (τ2:Sg)
 (hg2:∀ u y,(∀ k s,(k,s)∈ks->s=u->k≠i)->τ.get u=some y->y.albIn ids=false->τ2.get u=some y):HE σ an ks its (listed.setIfInBounds i true) (τ2.set t x):=by
 obtain⟨hnd,hlt⟩:=T2 H.ts;obtain⟨hin,hif⟩:=undone hun;intro u y hy;unfold afts at hy
 cases hbd:bads (λj=>(listed.setIfInBounds i true).getD j false&&!(cov an (λj=>(listed.setIfInBounds i true).getD j false) its u j)) ks u with
 | true=>rw[hbd] at hy;cases hy
 | false=>
  rw[hbd] at hy;simp only[d7] at hy;rw[T4] at hbd;rw[P8]
  have hcov:u≠t->∀ k,cov an (λj=>(listed.setIfInBounds i true).getD j false) its u k=true->cov an (λj=>listed.getD j false) its u k=true/\k≠i:=by
   intro hut k hc;obtain⟨j,dj,wj,h1,h2,h3,h4⟩:=JI hc
   have hji:i≠j:=by
    rintro rfl;rw[hit] at h2;cases h2;exact hut rfl
   rw[getD_set_ne false hji] at h3;refine⟨BF h1 h3 h4, ?_⟩;rintro rfl;have hjl:j<ops.length:=u0 (z8.1 h2).1 H.len;rw[hnot j hjl h4] at h3;cases h3
  have hki:u≠t->∀ k s,(k,s)∈ks->s=u->k≠i:=by
   rintro hut k s hm hsu rfl;have h1:=hbd k s hm hsu
   have h2:(listed.setIfInBounds k true).getD k false=true:=by simp[hin]
   rw[h2] at h1;simp only[U9,X7] at h1;exact(hcov hut k h1).2 rfl
  have hbd2:u≠t->bads (λj=>listed.getD j false&&!(cov an (λj=>listed.getD j false) its u j)) ks u=false:=by
   intro hut;rw[T4];intro k s hm hsu;have h1:=hbd k s hm hsu;have h2:=hki hut k s hm hsu;rw[getD_set_ne false (λe=>h2 e.symm)] at h1
   cases hd:listed.getD k false with
   | false=>rfl
   | true=>
    rw[hd] at h1;simp only[U9,X7] at h1 ⊢;exact(hcov hut k h1).1
  by_cases hut:u=t
  ·subst hut;rw[O1 hnd hit] at hy
   have e:(listed.setIfInBounds i true).getD (0+i) false=true:=by simp[hin]
   rw[e] at hy;simp only[m9] at hy;simp only[j9,hx]
   cases wt<;>exact hy
  ·have hki:=hki hut;have hbd2:=hbd2 hut;simp only[hut,q8]
   have hold:afts an (λj=>listed.getD j false) ks σ.env its u=some y/\y.rf≠some t/\y.albIn ids=false:=by
    unfold afts;rw[hbd2];simp only[d7]
    rcases B9 its u with hu|⟨k,dk,wk,hk⟩
    ·rw[P0 hu] at hy ⊢;exact⟨hy,DH H.env hy (Y6 (i:=i) (by rw[I8,hit];rfl)),(GM hE hy).resolve_right λh=>hki i u h rfl rfl⟩
    ·rw[O1 hnd hk] at hy ⊢;simp only[c9] at hy ⊢
     have hne:i≠k:=by
      rintro rfl;rw[hit] at hk;cases hk;exact hut rfl
     rw[getD_set_ne false hne] at hy;refine⟨hy, ?_⟩
     cases hd:listed.getD k false with
     | false=>
      rw[hd] at hy;exact⟨DH H.env hy (Y6 (i:=i) (by rw[I8,hit];rfl)),(GM hE hy).resolve_right λh=>hki i u h rfl rfl⟩
     | true=>
      rw[hd] at hy;simp only[m9] at hy
      cases wk with
      | false=>simp at hy;subst hy;simp[D.rf,D.albIn]
      | true=>
       simp at hy;subst hy;refine⟨λhrf=>?_, ?_⟩
       ·have:=TG H.ref hk hrf (i:=i) (by rw[I8,hit];rfl);simp only[c9] at this
        rcases this with this|this
        ·rw[hnot k (by rw[<- hsize];exact N4 hd) this] at hd;cases hd
        ·exact hki i u this rfl rfl
       ·rcases EW hI hk with h|h|h
        ·exact h
        ·exact absurd rfl (hki i u h rfl)
        ·simp only[c9] at h;rw[hnot k (by rw[<- hsize];exact N4 hd) h] at hd;cases hd
   rw[hg2 u y hki (hinv u y hold.1) hold.2.2];simp only[Y1,SH hold.2.1]
def v29(an:List Nat)(c i:Nat)(bx0 bx1 bxc:List (Nat×Bx)):List (Nat×Bx):=
 bif tb (nth an i) c then bx1 else bif tb (nth an c) i then bx0 else bxc
structure KnC(an:List Nat)(c i:Nat)(bx0 bx1 bxc:List (Nat×Bx))(τ:Sg):Prop where
 f:∀ id x,lk (v29 an c i bx0 bx1 bxc) id=some x->τ.box id=some x
 or:τ.bx=bx0∨τ.bx=bx1
instance(an:List Nat)(c i:Nat)(bx0 bx1 bxc:List (Nat×Bx))(τ:Sg):CoeFun (KnC an c i bx0 bx1 bxc τ) (λ_=>∀ id x,lk (v29 an c i bx0 bx1 bxc) id=some x->τ.box id=some x):=⟨KnC.f⟩
def SpC(P:Program)(C:Ctx)(σ:Sg)(bx1:List (Nat×Bx))(c:Nat)(ids:List Nat)(an:List Nat)(ks:List (Nat×Nat))(its:List It)(o:Oper)(t:Nat)(d:D):Prop:=
 ∀ τ:Sg,τ.bx=σ.bx->τ.n=σ.n->t<τ.n->(∀ u x,facts an ks σ.env its c u=some x->τ.get u=some x) ->
  ∃ τ':Sg,OpS P C o τ (τ'.set t d)/\τ'.n=τ.n/\τ'.bx=bx1/\∀ u y,(∀ k s,(k,s)∈ks->s=u->k≠c)->τ.get u=some y->y.albIn ids=false->τ'.get u=some y
def v49(P:Program)(C:Ctx)(σ:Sg)(c:Nat)(an:List Nat)(ks:List (Nat×Nat))(its:List It)(o:Oper)(Q:Exit->Sg->Prop):Prop:=
 ∀ τ:Sg,τ.bx=σ.bx->τ.n=σ.n->(∀ u x,facts an ks σ.env its c u=some x->τ.get u=some x)->v70 P C o τ Q
def AllC(P:Program)(C:Ctx)(Q:Exit->Sg->Prop)(σ:Sg)(bx1 bxc:List (Nat×Bx))(c:Nat)(ids:List Nat)(pan:Bool)(ops:List Oper)(an:List Nat)(ks kk:List (Nat×Nat))(its:List It):List Oper->List It->Nat->Prop
 | o::os,⟨t,d,wt⟩::r,i=>(bif Nat.beq i c then(o.guard=none/\wt=true/\bif pan then v49 P C σ c an ks its o Q else o.dst=some t/\SpC P C σ bx1 c ids an ks its o t d)
  else bif pan&&tb (nth an i) c then True
  else o.dst=some t/\Wt ops (facts an ks σ.env its i) o wt /\
  (wt=true->∀ τ:Sg,KnC an c i σ.bx bx1 bxc τ->t<τ.n->(∀ u x,facts an ks σ.env its i u=some x->τ.get u=some x)->OpS P C o τ ((ZX τ kk i).set t d))) /\
  AllC P C Q σ bx1 bxc c ids pan ops an ks kk its os r (i+1)
 | [],_::_,_=>False
 | _,[],_=>True
theorem AllC.at{bx1 bxc:List (Nat×Bx)}{c:Nat}{ids:List Nat}{pan:Bool}:∀ {os:List Oper} {r:List It} {i0:Nat},AllC P C Q σ bx1 bxc c ids pan ops an ks kk its os r i0->∀ {k:Nat} {t:Nat} {d:D} {wt:Bool},r[k]? = some ⟨t,d,wt⟩ ->
 ∃ o,os[k]? = some o/\(bif Nat.beq (i0+k) c then(o.guard=none/\wt=true/\bif pan then v49 P C σ c an ks its o Q else o.dst=some t/\SpC P C σ bx1 c ids an ks its o t d)
  else bif pan&&tb (nth an (i0+k)) c then True
  else o.dst=some t/\Wt ops (facts an ks σ.env its (i0+k)) o wt /\
  (wt=true->∀ τ:Sg,KnC an c (i0+k) σ.bx bx1 bxc τ->t<τ.n->(∀ u x,facts an ks σ.env its (i0+k) u=some x->τ.get u=some x)->OpS P C o τ ((ZX τ kk (i0+k)).set t d))):=by
 intro os r
 induction r generalizing os with
 | nil=>intro i0 _ k t d wt hk;simp at hk
 | cons y r ih=>
  intro i0 h k t d wt hk;obtain⟨t',d',w'⟩:=y
  cases os with
  | nil=>exact h.elim
  | cons o os=>
   cases k with
   | zero=>
    simp at hk;obtain⟨rfl,rfl,rfl⟩:=hk;exact⟨o,rfl,h.1⟩
   | succ k=>
    obtain⟨o',h1,h2⟩:=ih h.2 (k:=k) (by simpa using hk);rw[show i0+(k+1)=i0+1+k by omega];exact⟨o',by simpa using h1,h2⟩
theorem XZ{o:Oper}(h:o.guard=none)(y:Nat->Option Bool):Region.wanted o y=true:=by
 unfold Region.wanted;rw[h]
def CQ(c:Nat)(bx0 bx1:List (Nat×Bx))(listed:Array Bool):List (Nat×Bx):=bif listed.getD c false then bx1 else bx0
theorem q27{bx1 bxc:List (Nat×Bx)}{c:Nat}{ids:List Nat}(H:ItG σ ops an ks its)(hall:AllC P C Q σ bx1 bxc c ids pan ops an ks kk its ops its 0)(hsub:subs kk ks=true)
 (hE:QD ids ks c σ.env=true) (hI:QH ids an ks c its 0=true) (hclt:c<its.length)
 (hbc:∀ id x,lk bxc id=some x->lk σ.bx id=some x/\lk bx1 id=some x)
 (hsize:listed.size=ops.length) {i:Nat} {oi:Oper} (hi:i<its.length) (ho:ops[i]? = some oi) (hun:listed.getD i true=false)
 (hanc:∀ j,j<ops.length->tb (nth an i) j=true->listed.getD j false=true) (hnot:∀ j,j<ops.length->tb (nth an j) i=true->listed.getD j false=false)
 (hpc:pan=true->listed.getD c false=false)
 {τ:Sg} (hs:St C τ a w) (hn:τ.n=σ.n) (hb:τ.bx=CQ c σ.bx bx1 listed) (hinv:HE σ an ks its listed τ) {K:Act->World->Prop}
 (hK:∀ a' w' τ',St C τ' a' w'->τ'.n=σ.n->τ'.bx=CQ c σ.bx bx1 (listed.setIfInBounds i true)->HE σ an ks its (listed.setIfInBounds i true) τ'->(pan=true->i≠c)->K a' w') :
 Region.wanted oi (yielded ops.toArray a.tmps)=true/\oi.wpIn (Fx C) 3 P a w K (λe a' w'=>∃ σ',St C σ' a' w'/\Q e σ')∨Region.wanted oi (yielded ops.toArray a.tmps)=false/\K (a.put oi.dst undef) w:=by
 obtain⟨hnd,hlt⟩:=T2 H.ts
 obtain⟨⟨t,d,wt⟩,hit⟩:∃ it,its[i]? = some it:=⟨its[i],j8 hi⟩
 obtain⟨o,ho',hcl⟩:=hall.at hit;rw[ho] at ho';cases ho';simp only[c9] at hcl;obtain⟨hin,hif⟩:=undone hun
 have hil:i<ops.length:=by rw[<- hsize];exact hin
 have hfact:=OF H hsize hi hun hanc hnot hinv
 have htn:t<τ.n:=by
  rw[hn];exact hlt t (Y6 (i:=i) (by rw[I8,hit];rfl))
 by_cases hic':i=c
 ·subst hic';simp only[Z8,m9] at hcl;obtain⟨hg,rfl,hsp⟩:=hcl
  have hb0:τ.bx=σ.bx:=by rw[hb];unfold CQ;rw[hif];rfl
  refine .inl ⟨XZ hg _, ?_⟩
  cases pan with
  | true=>
   exact hsp τ hb0 hn hfact a w hs _ _ λe a' w' σ' hs' hq=>⟨σ',hs',hq⟩
  | false=>
   obtain⟨hdst,hsp⟩:=hsp;obtain⟨τ',h1,h2,h3,h4⟩:=hsp τ hb0 hn htn hfact;refine h1 a w hs _ _ λa' w' hs'=>?_;refine hK a' w' _ hs' (h2.trans hn) ?_ (KQ H hsize hit hun hnot hE hI hinv d rfl τ' h4) (λh=>by cases h);show τ'.bx=_;rw[h3];unfold CQ
   have:(listed.setIfInBounds i true).getD i false=true:=by simp[hin]
   rw[this];rfl
 ·rw[nbeq hic'] at hcl;simp only[d7] at hcl
  have hbxn:CQ c σ.bx bx1 (listed.setIfInBounds i true)=CQ c σ.bx bx1 listed:=by
   unfold CQ;rw[getD_set_ne false hic']
  have hcl2:(pan&&tb (nth an i) c)=false:=by
   cases pan with
   | false=>rfl
   | true=>
    cases ht:tb (nth an i) c with
    | false=>rfl
    | true=>
     have:=hanc c (u0 hclt H.len) ht;rw[hpc rfl] at this;cases this
  rw[hcl2] at hcl;simp only[d7] at hcl;obtain⟨hdst,hwt,hop⟩:=hcl;have hEi:QD [] ks i σ.env=true:=NF _;have hIi:∀ j,QH [] an ks i its j=true:=λj=>NE _ j;rw[hwt.ok hs hfact];have hkn:=LH τ kk i
  cases hwt2:wt with
  | false=>
   refine .inr ⟨rfl, ?_⟩;rw[hdst];exact hK _ _ _ (hs.unwanted htn) hn (hb.trans hbxn.symm) (KQ H hsize hit hun hnot hEi (hIi 0) hinv (.tup []) (by rw[hwt2];rfl) τ (λu y _ h _=>h)) (λ_=>hic')
  | true=>
   refine .inl ⟨rfl,hop hwt2 τ ⟨λid x hx=>?_,by rw[hb];unfold CQ;cases listed.getD c false;exact .inl rfl;exact .inr rfl⟩ htn hfact a w hs _ _ λa' w' hs'=>?_⟩
   ·simp only[Sg.box,hb]
    have hcl':c<ops.length:=(u0 hclt H.len)
    unfold v29 at hx;unfold CQ
    cases h1:tb (nth an i) c with
    | true=>rw[h1] at hx;rw[hanc c hcl' h1];exact hx
    | false=>
     rw[h1] at hx
     cases h2:tb (nth an c) i with
     | true=>rw[h2] at hx;rw[hnot c hcl' h2];exact hx
     | false=>
      rw[h2] at hx
      cases hd:listed.getD c false with
      | true=>exact(hbc id x hx).2
      | false=>exact(hbc id x hx).1
   ·exact hK _ _ _ hs' (hkn.1.trans hn) (hkn.2.trans (hb.trans hbxn.symm)) (KQ H hsize hit hun hnot hEi (hIi 0) hinv d (by rw[hwt2];rfl) _ (λu y hu hy _=>(BU (λk s hm=>hu k s (IA hsub k s hm))).trans hy)) (λ_=>hic')
theorem q29{bx1 bxc:List (Nat×Bx)}{c:Nat}{ids:List Nat}(hA:YU ops an its.length=true)(H:ItG σ ops an ks its)(hall:AllC P C Q σ bx1 bxc c ids pan ops an ks kk its ops its 0)(hsub:subs kk ks=true)
 (hE0:QD ids ks c σ.env=true) (hI0:QH ids an ks c its 0=true) (hclt:c<its.length)
 (hbc:∀ id x,lk bxc id=some x->lk σ.bx id=some x/\lk bx1 id=some x)
   (hE:picks (afts an (λ_=>true) ks σ.env its) live=env')
 (hT:pan=false->TL P C Q (ops.drop its.length) ⟨σ.n,env',bx1⟩):∀ (fuel:Nat) (listed:Array Bool) (a:Act) (w:World) (τ:Sg),Cl ops listed->listed.toList.count false<=fuel ->
 (∀ j,its.length<=j->j<ops.length->listed.getD j true=false)->(pan=true->listed.getD c false=false)->St C τ a w->τ.n=σ.n->τ.bx=CQ c σ.bx bx1 listed->HE σ an ks its listed τ ->
 wpAnyIn (Fx C) 3 P .any ops.toArray (λe a' w'=>∃ σ',St C σ' a' w'/\Q e σ') fuel listed a w:=by
 have fin:∀ (listed:Array Bool) (a:Act) (w:World) (τ:Sg),(∀ j,j<its.length->listed.getD j false=true)->(pan=true->listed.getD c false=false)->St C τ a w->τ.n=σ.n->τ.bx=CQ c σ.bx bx1 listed->HE σ an ks its listed τ ->
  pan=false/\St C ⟨σ.n,env',bx1⟩ a w:=by
  intro listed a w τ hall' hpc hs hn hb hinv;refine⟨?_, ?_⟩
  ·cases pan with
   | false=>rfl
   | true=>have:=hall' c hclt;rw[hpc rfl] at this;cases this
  ·refine hs.weaken hn.symm ?_ λt d hd=>hinv t d ?_
   ·rw[hb];unfold CQ;rw[hall' c hclt];rfl
   ·have:=l5 (f:=afts an (λ_=>true) ks σ.env its) (l:=live) (by rw[hE];exact hd);unfold afts at this ⊢
    cases hb:bads (λk=>true&&!(cov an (λ_=>true) its t k)) ks t with
    | true=>rw[hb] at this;cases this
    | false=>
     rw[hb] at this;rw[GU (λj dj wj hj=>hall' j (z8.1 hj).1) hb];simp only[d7] at this ⊢
     rcases B9 its t with hu|⟨k,dk,wk,hk⟩
     ·rw[P0 hu] at this ⊢;exact this
     ·rw[O1 (T2 H.ts).1 hk] at this ⊢;simp only[c9] at this ⊢;rw[hall' k (z8.1 hk).1];exact this
 intro fuel
 induction fuel with
 | zero=>
  intro listed a w τ hc hf h2 hpc hs hn hb hinv;by_cases hall':∀ j,j<its.length->listed.getD j false=true
  ·obtain⟨hp,hs'⟩:=fin listed a w τ hall' hpc hs hn hb hinv;exact JH hA _ its.length 0 listed a w ⟨σ.n,env',bx1⟩ rfl (z7 _) H.len hc hf hall' h2 hs' (hT hp)
  ·exfalso;apply hall';intro j hj;have:=UA (listed:=listed) (by omega) j
   have hjl:j<listed.size:=by rw[hc.size];have:=H.len;omega
   simp[hjl] at this ⊢;exact this
 | succ fuel ih=>
  intro listed a w τ hc hf h2 hpc hs hn hb hinv;by_cases hall':∀ j,j<its.length->listed.getD j false=true
  ·obtain⟨hp,hs'⟩:=fin listed a w τ hall' hpc hs hn hb hinv;exact JH hA _ its.length (fuel+1) listed a w ⟨σ.n,env',bx1⟩ rfl (z7 _) H.len hc hf hall' h2 hs' (hT hp)
  ·have hsome:∃ j,j<its.length/\listed.getD j true=false:=by
    rcases C6.1 hall' with ⟨j,hj⟩
    rcases G7.1 hj with ⟨hj1,hj2⟩
    refine⟨j,hj1, ?_⟩
    have hjl:j<listed.size:=by rw[hc.size];have:=H.len;omega
    simp[hjl] at hj2 ⊢;exact hj2
   have key:∀ n j,j=n->j<its.length->listed.getD j true=false->∃ k,k∈Region.ready .any ops.toArray listed:=by
    intro n
    induction n using Nat.strongRecOn with
    | _ n ihn=>
     intro j hjn hj hu;have hjl:j<ops.length:=u0 hj H.len;have ho:ops[j]? = some ops[j]:=j8 hjl;by_cases hr:∀ e∈ops[j].after,Region.binds .any e=true->listed.getD e.on false=true
     ·exact⟨j,mem_ready.2 ⟨hu,_,by simp,hr⟩⟩
     ·rcases C6.1 hr with ⟨e,he⟩
      rcases G7.1 he with ⟨he1,he2⟩
      rcases G7.1 he2 with ⟨he3,he4⟩
      have hlt:=(I9 hA ho).1 e he1 he3;refine ihn e.on (by omega) e.on rfl (by omega) ?_
      have hel:e.on<listed.size:=by rw[hc.size];omega
      simp[hel] at he4 ⊢;exact he4
   obtain⟨j0,hj0,hu0⟩:=hsome;refine⟨λhr=>?_,λi hi=>?_⟩
   ·obtain⟨k,hk⟩:=key j0 j0 rfl hj0 hu0;rw[hr] at hk;cases hk
   ·obtain⟨h3,oi,h4,h5⟩:=mem_ready.1 hi
    have ho:ops[i]? = some oi:=by simpa using h4
    have hil:i<ops.length:=(z8.1 ho).1
    have him:i<its.length:=by
     rcases X9 i its.length with h|h
     ·exact h
     ·exfalso;obtain⟨_,h9⟩:=I9 hA ho;have hj0l:j0<ops.length:=u0 hj0 H.len;obtain⟨h10,h11⟩:=h9 j0 hj0l;obtain⟨e,he,hb,h12⟩:=h10 (h11 h (by omega));have hd:=h5 e he hb
      have hkd:listed.getD j0 false=true:=by
       rcases h12 with rfl|h12
       ·exact hd
       ·exact hc.anc hA e.on (by rw[<- hc.size];exact N4 hd) hd j0 hj0l h12
      rw[(undone hu0).2] at hkd;cases hkd
    have hspc:=(I9 hA ho).2;have hif:=(undone h3).2
    have hanc:∀ j,j<ops.length->tb (nth an i) j=true->listed.getD j false=true:=by
     intro j hj ht;obtain⟨e,he,hb,h1⟩:=(hspc j hj).1 ht;have hd:=h5 e he hb
     rcases h1 with rfl|h1
     ·exact hd
     ·exact hc.anc hA e.on (by rw[<- hc.size];exact N4 hd) hd j hj h1
    have hnot:∀ j,j<ops.length->tb (nth an j) i=true->listed.getD j false=false:=by
     intro j hj ht
     cases hd:listed.getD j false with
     | false=>rfl
     | true=>have:=hc.anc hA j hj hd i hil ht;rw[hif] at this;cases this
    suffices hK:∀ a' w' τ',St C τ' a' w'->τ'.n=σ.n->τ'.bx=CQ c σ.bx bx1 (listed.setIfInBounds i true)->HE σ an ks its (listed.setIfInBounds i true) τ'->(pan=true->i≠c)->wpAnyIn (Fx C) 3 P .any ops.toArray (λe a' w'=>∃ σ',St C σ' a' w'/\Q e σ') fuel (listed.setIfInBounds i true) a' w' by
     unfold Go.wpOpIn;simp only[h4]
     rcases q27 H hall hsub hE0 hI0 hclt hbc hc.size him ho h3 hanc hnot hpc hs hn hb hinv hK with ⟨e1,e2⟩|⟨e1,e2⟩
     ·simp only[e1,j9];exact e2
     ·simp only[e1,q7,q8];exact⟨λ_ _=>trivial,e2⟩
    intro a' w' τ' hs' hn' hb' hinv' hic';refine ih _ a' w' τ' (hc.set ho h5) (by have:=count_set h3;omega) (λj hj hjl=>?_) (λhp=>?_) hs' hn' hb' hinv'
    ·rw[getD_set_ne true (by omega)];exact h2 j hj hjl
    ·rw[getD_set_ne false (hic' hp)];exact hpc hp
theorem w04{id m n':Nat}{bx1 bxc:List (Nat×Bx)}{c:Nat}{ids:List Nat}(hm:P.follows .mixedOrders=true)(hA0:YU ops an m=true)(hlen:its.length=m)
 (H:ItG σ ops an ks its) (hall:AllC P C Q σ bx1 bxc c ids pan ops an ks kk its ops its 0) (hsub:subs kk ks=true)
 (hE0:QD ids ks c σ.env=true) (hI0:QH ids an ks c its 0=true) (hclt:c<its.length)
 (hbc:∀ id x,lk bxc id=some x->lk σ.bx id=some x/\lk bx1 id=some x)
   (hE:picks (afts an (λ_=>true) ks σ.env its) live=env')
 (hb:bx1=bx') (hn:σ.n=n') (hT:pan=false->TL P C Q (ops.drop its.length) ⟨n',env',bx'⟩):W P C (.region id ops.toArray true) Q σ:=by
 intro a w hs;refine wpIn_region_any hm ?_
 have hgd:∀ k,(Array.replicate ops.toArray.size false).getD k false=false:=by
  intro k;simp only[v9,C4]
  split<;>rfl
 have hc:Cl ops (Array.replicate ops.toArray.size false):=⟨by simp,λi o _ hd=>by rw[hgd] at hd;cases hd⟩
 have hA:YU ops an its.length=true:=by rw[hlen];exact hA0
 subst hb;subst hn;refine q29 hA H hall hsub hE0 hI0 hclt hbc hE hT _ _ a _ σ hc ?_ ?_ (λ_=>hgd c) (hs.ext (Ext.drew w)) rfl ?_ (λu x hx=>?_)
 ·simp
 ·intro j _ hj;simp[hj]
 ·unfold CQ;rw[hgd];rfl
 ·unfold afts at hx;generalize hb:bads _ ks u=bb at hx
  cases bb with
  | true=>cases hx
  | false=>
   simp only[d7] at hx
   rcases B9 its u with hu|⟨k,dk,wk,hk⟩
   ·rw[P0 hu] at hx;exact hx
   ·rw[O1 (T2 H.ts).1 hk,hgd] at hx;exact hx
theorem z14{id m n':Nat}{bx1:List (Nat×Bx)}(bxc:List (Nat×Bx))(c:Nat)(ids:List Nat)(hm:P.follows .mixedOrders=true)(hA0:YU ops an m=true)(hlen:its.length=m)
 (H:ItG σ ops an ks its) (hc0:XD σ.bx bxc) (hall:AllC P C Q σ bx1 bxc c ids false ops an ks kk its ops its 0) (hsub:subs kk ks=true)
 (hE0:QD ids ks c σ.env=true) (hI0:QH ids an ks c its 0=true) (hclt:c<its.length)
 (hc1:XD bx1 bxc)
   (hE:picks (afts an (λ_=>true) ks σ.env its) live=env')
 (hn:σ.n=n') (hT:TL P C Q (ops.drop its.length) ⟨n',env',bx1⟩):W P C (.region id ops.toArray true) Q σ:=
 w04 (pan:=false) (ids:=ids) hm hA0 hlen H hall hsub hE0 hI0 hclt (λid x hx=>⟨XW hc0 id x (BK hx),XW hc1 id x (BK hx)⟩) hE rfl hn (λ_=>hT)
end
class MiT(P:Program)(t:TypeId)(u:outParam TypeDesc):Prop where
 d:P.underlying t=some u
 n:(match u with | .interface _=>false|_=>true)=true
def D.dds(n:Nat):D:=.agg (List.replicate n .dead)
theorem YP(n:Nat):N6 (List.replicate n .dead)=n:=by
 induction n with
 | zero=>rfl
 | succ n ih=>simp[List.replicate_succ,ih,D.sz];omega
theorem z41(n k:Nat)(h:k<=n):offk (List.replicate n .dead) k=k:=by
 unfold offk;rw[List.take_replicate,n6 h,YP]
theorem Rc.dds{G:Nat->Prop}{ρ':Nat->Nat}{d:D}{cs:List Value}(h:Rc w ρ G L true d cs F):Rc w' ρ' G' L' true (D.dds d.sz) cs []:=by
 have hl:=h.len
 have:=Rc.agg (w:=w') (ρ:=ρ') (G:=G') (L:=L') (p:=true) (List.replicate d.sz .dead) cs (λ_=>[]) (by rw[YP];exact hl) (λk hk=>by
  have hk':k<d.sz:=by simpa using hk
  rw[z41 _ _ (by omega)];simp only[I6,D.sz];rw[p8 (by omega),Z9,H6]
  exact .dead _ (h.one _ (g6 _)))
 rwa [FO] at this
end
section
variable{pos:String}{aft:Array Edge}{g:Option (Nat×Bool)}
variable{P:Program}{C:Ctx}{σ σ' σ1:Sg}{a:Act}{w w':World}{ρ:Nat->Nat}{Fe Fe' Fb:Nat->List Nat}
section
variable{ops:List Oper}{an:List Nat}{ks kk:List (Nat×Nat)}{its:List It}{Q:Exit->Sg->Prop}
theorem UM{id:Nat}{d:D}(h:d.albIn [id]=false):ZQ id d=d:=by
 rcases DZ id d with ⟨h1,_⟩|⟨_,off,path,rfl⟩
 ·exact h1
 ·simp[D.albIn,K2] at h
theorem WW{d:D}:∀ (ids:List Nat) (l:List (Nat×D)) (u:Nat),lk l u=some d->d.albIn ids=false->lk (ZN ids l) u=some d:=by
 intro ids
 induction ids with
 | nil=>intro l u h _;exact h
 | cons id r ih=>
  intro l u h ha
  have h1:d.albIn [id]=false/\d.albIn r=false:=by
   cases d<;>simp_all [D.albIn,K2]
  refine ih _ _ ?_ h1.2;rw[GO,h,Y1,UM h1.1]
theorem SpC.callB{c:Nat}{f:FuncId}[CaT P f]{t:Nat}{gl:List (Nat×D)}{ds:List D}{r:D}{bx cx cx' nwc bx1:List (Nat×Bx)}{ids:List Nat}
 (ml:List (Nat×Nat)) (hC:C.gl=gl) (hF:FnB P gl f ds bx r bx' nw) (ha:∀ τ:Sg,(∀ u x,facts an ks σ.env its c u=some x->τ.get u=some x)->EvB C.gl τ (mlk ml) (bx.map Prod.fst) args ds)
 (hcx:Z0 (mlk ml) bx=cx) (hlk:XD σ.bx cx) (hob:ZK (bx.map Prod.fst) bx) (hcx':Z0 (mlk ml) bx'=cx') (hnw:Z0 (mlk ml) nw=nwc) (hr:r.ren (mlk ml)=r')
 (hk:bx'.map Prod.fst=bx.map Prod.fst) (hfr:XN σ.bx nwc=true) (hinj:EZ (mlk ml) ((nw++bx').map Prod.fst)=true)
 (hids:cx.map Prod.fst=ids) (hbx:nwc++f9 cx' σ.bx=bx1) :
 SpC P C σ bx1 c ids an ks its ⟨some t,.call { callee:=.value (.func f),args:=args.toArray,argTypes:=tys },rt,pos,aft,g⟩ t r':=by
 intro τ hτb hτn ht hf;refine⟨⟨τ.n,ZN (cx.map Prod.fst) τ.env,nwc++f9 cx' τ.bx⟩,R.callB ml hC hF (ha τ hf) hcx (by rw[hτb];exact hlk) hob hcx' hnw hr hk (by rw[hτb];exact hfr) hinj ht,rfl,by rw[hτb];exact hbx,λu y _ hy hal=>?_⟩;rw[hids];exact WW ids _ u hy hal
variable{listed:Array Bool}
end
theorem RO{s id t e z:Nat}{d0':D}{l:List D}
 (h:σ.get s=some (.alb id off path)) (hb:σ.box id=some (.var d0)) (hl:d0.loc path=some (off,.sl (some e) z l)) (hna:d0.noArr path=true) (hu:d0.upd path .dead=some d0')
 {τ:Sg} (hτ:(σ.putB id (.var d0')).upd s (.sl (some e) z l)=τ) (hs:τ.get s=some (.sl (some e) z l)) (ht:t<σ.n) (hst:s≠t) :
 OpS P C ⟨some t,.assign (.tmp s),rt,pos,aft,g⟩ σ ((τ.kill s).set t (.sl (some e) z l)):=by
 subst hτ;exact CN (λa w hs=>CD h hb hl hna hu hs) (R.asgO hs rfl ht hst)
theorem Rc.ownAt{G:Nat->Prop}{d d':D}{cs:List Value}(h:Rc w ρ G L true d cs F){z:Nat}{o:Option Nat}
 (hl:d.loc path=some (off,.nils)) (hna:d.noArr path=true) (hu:d.upd path (.sl o z [])=some d'):Rc w ρ G L true d' cs F:=by
 induction path generalizing d cs F off d' with
 | nil=>
  simp only[D.loc,z6,b8] at hl;simp only[D.upd,z6] at hu;obtain⟨rfl,rfl⟩:=hl;subst hu;cases h;exact .slN _ _
 | cons k path ih=>
  cases h with
  | agg l0 cs Fs hs hr=>
   simp only[D.loc] at hl;simp only[D.upd] at hu
   cases hk:l0[k]? with
   | none=>simp[hk] at hl
   | some d2=>
    obtain⟨hklt,rfl⟩:=z8.1 hk;simp only[hk] at hl hu
    cases hd:D.loc l0[k] path with
    | none=>simp[hd] at hl
    | some od=>
     obtain⟨oo,d3⟩:=od;simp only[hd,z6,b8] at hl;obtain⟨rfl,rfl⟩:=hl
     cases hud:D.upd l0[k] path (.sl o z []) with
     | none=>simp[hud] at hu
     | some d4=>
      simp only[hud,z6] at hu;subst hu;simp only[D.noArr,hk] at hna;have h1:=ih (hr k hklt) hd hna hud
      have hz:d4.sz=l0[k].sz:=by rw[<- h1.len,(hr k hklt).len]
      have:=Rc.agg (w:=w) (ρ:=ρ) (G:=G) (L:=L) (p:=true) (l0.set k d4) cs Fs (by rw[hs,UP l0 k d4 hklt hz]) (λj hj=>by
       have hj':j<l0.length:=by simpa using hj
       rw[YL l0 k j d4 hklt hz];by_cases hjk:j=k
       ·subst hjk;simp only[D7,hz];exact h1
       ·have hjj:(l0.set k d4)[j]=l0[j]:=by rw[B1 (λe=>hjk e.symm)]
        simp only[hjj]
        exact hr j hj')
      rwa [QP] at this
  | arr n z l cs hn hs hr=>simp[D.noArr] at hna
  | _=>simp[D.loc] at hl
theorem PK{o:Oper}{τ:Sg}{t:Nat}{r:D}(h:OpS P C o σ (τ.set t r))(hr:r.isRef=false)(he:r.brw=r'):OpS P C o σ (τ.set t r'):=by
 intro a w hs K Q hK;refine h a w hs K Q λa' w' hs'=>hK a' w' ?_
 have h1:(τ.set t r).get t=some r:=by rw[P8];simp
 refine(z19 h1 hr he hs').weaken rfl rfl λu d hd=>?_;rw[JQ,P8];rw[P8] at hd;by_cases hu:u=t
 ·subst hu;simpa using hd
 ·simpa [hu] using hd
theorem CH{c:Code}(id:Nat)(path:List Nat)(e z:Nat){d d':D}(hb:σ.box id=some (.var d))(hl:d.loc path=some (off,.nils))(hna:d.noArr path=true)(hu:d.upd path (.sl (some e) z [])=some d')
 (hbx:setb id (.var d') σ.bx=bx') (k:W P C c Q ⟨σ.n,σ.env,bx'⟩):W P C c Q σ:=by
 subst hbx;exact λa w hs=>k a w (AZ hb (λw ρ G L cs F h=>h.ownAt hl hna hu) hs)
theorem w07{id:Nat}{d d':D}(hb:σ.box id=some (.var d))(he:d.brw=d')(hs:St C σ a w):St C { σ with bx:=setb id (.var d') σ.bx } a w:=by
 subst he;obtain⟨ρ,Fe,Fb,st⟩:=hs
 have hbox:∀ i,(({ σ with bx:=setb id (.var d.brw) σ.bx }:Sg).box i)=if i=id then some (.var d.brw) else σ.box i:=λi=>by
  show lk (setb id (.var d.brw) σ.bx) i=_;rw[DN];by_cases hi:i=id
  ·subst hi;have:lk σ.bx i=some (.var d):=hb;simp[this]
  ·simp[hi];rfl
 have hiso:∀ i,(({ σ with bx:=setb id (.var d.brw) σ.bx }:Sg).box i).isSome=(σ.box i).isSome:=λi=>by
  rw[hbox];by_cases hi:i=id
  ·subst hi;simp[hb]
  ·simp[hi]
 have hfun:(λi=>(({ σ with bx:=setb id (.var d.brw) σ.bx }:Sg).box i).isSome=true)=λi=>(σ.box i).isSome=true:=by
  funext i;rw[hiso]
 obtain⟨cs,e,F',q1,q2,q3⟩:=st.bx id _ hb
 have hnd:(ρ id::F').Nodup:=by have:=st.nodB id;rw[q3] at this;exact this
 have key:∀ i b,b∈upd Fb id [ρ id] i->b∈Fb i:=λi b hb=>by
  by_cases hii:i=id
  ·subst hii;rw[c7] at hb;simp at hb;subst hb;rw[q3];simp
  ·rw[j2 hii] at hb;exact hb
 have hot:∀ b,own Fe (upd Fb id [ρ id]) b->own Fe Fb b:=λb hb=>hb.imp (λh=>h) λ⟨i,hi⟩=>⟨i,key i b hi⟩
 have hg:∀ b,gd C Fe Fb b->gd C Fe (upd Fb id [ρ id]) b:=λb hb=>⟨hb.1,λhc=>hb.2 (hot b hc)⟩
 have hgF:∀ b∈F',gd C Fe (upd Fb id [ρ id]) b:=λb hb=>by
  have hbi:b∈Fb id:=by rw[q3];exact j1 _ hb
  refine⟨st.okO b (.inr ⟨id,hbi⟩), ?_⟩;rintro (⟨u,hu⟩|⟨i,hi⟩)
  ·exact st.dEB u id b hu hbi
  ·by_cases hii:i=id
   ·subst hii;rw[c7] at hi;simp at hi;subst hi;exact(v3.1 hnd).1 hb
   ·rw[j2 hii] at hi;exact st.dBB i id hii b hi hbi
 refine⟨ρ,Fe,upd Fb id [ρ id],{
  size:=st.size
  defs:=st.defs
  pin:=λi b hp=>⟨(st.pin i b hp).1,by rw[hiso];exact(st.pin i b hp).2⟩
  env:=λu x hx=>by rw[hfun];exact MV (st.env u x hx) (λ_ _ _=>rfl) (λb hb _=>hg b hb) (λ_ h=>h) (λ_ _ _ _ h=>h)
  envN:=st.envN
  bx:=λi b hd=>?_
  bxN:=λi hn=>?_
  nodE:=st.nodE
  nodB:=λi=>?_
  dEE:=st.dEE
  dEB:=λu i b hb1 hb2=>st.dEB u i b hb1 (key i b hb2)
  dBB:=λi i' hne b hb1 hb2=>st.dBB i i' hne b (key i b hb1) (key i' b hb2)
  new:=λb hb=>st.new b (hot b hb)
  kept:=st.kept
  os:=st.os
  tape:=⟨st.tape.tp,st.tape.dr⟩
  output:=st.output
  grown:=st.grown
  gl:=st.gl
  okN:=st.okN
  okO:=λb hb=>st.okO b (hot b hb) }⟩
 ·rw[hfun];rw[hbox] at hd;by_cases hi:i=id
  ·subst hi;simp only[j9,z6] at hd;subst hd;rw[c7];exact⟨cs,e,[],q1,q2.brw (λb hb=>hgF b hb) (λb hb _=>hg b hb),rfl⟩
  ·simp only[hi,q8] at hd;rw[j2 hi];exact(st.bx i b hd).mono (λ_ _ _=>rfl) (λb hb _=>hg b hb) (λj hj=>⟨hj,rfl⟩)
 ·rw[hbox] at hn;by_cases hi:i=id
  ·simp[hi] at hn
  ·simp only[hi,q8] at hn;rw[j2 hi];exact st.bxN i hn
 ·by_cases hi:i=id
  ·subst hi;rw[c7];simp
  ·rw[j2 hi];exact st.nodB i
theorem u18{c:Code}(id:Nat){d d':D}(hb:σ.box id=some (.var d))(he:d.brw=d')(hbx:setb id (.var d') σ.bx=bx')(k:W P C c Q ⟨σ.n,σ.env,bx'⟩):W P C c Q σ:=by
 subst hbx;exact λa w hs=>k a w (w07 hb he hs)
end
section
variable{pos:String}{aft:Array Edge}{g:Option (Nat×Bool)}
variable{P:Program}{C:Ctx}{σ σ' σ1:Sg}{a:Act}{w w':World}{ρ:Nat->Nat}{Fe Fe' Fb:Nat->List Nat}
def CkV(P:Program)(k:Nat)(t:TypeId)(d:D):Prop:=
 ∀ (em:Bool) (n:Nat) (w:World) (ρ:Nat->Nat) (G L:Nat->Prop) (v:Value) (F:List Nat),VR w ρ G L d v F->(Instr.checkKey em (n+k) t v).run P w=.ok () w
theorem z22{t:TypeId}{k:IntKind}{d:D}(ht:P.underlying t=some (.int k))(hd:d.isAgg=false)(hs:∀ (w:World) (ρ:Nat->Nat) (G L:Nat->Prop) v F,Rc w ρ G L true d [v] F->∃ j x,v=.int j x):CkV P 1 t d:=by
 intro em n w ρ G L v F h;unfold VR at h;rw[hd] at h;obtain⟨j,x,rfl⟩:=hs _ _ _ _ _ _ h;simp[Instr.checkKey,run_underlying ht]
theorem CkV.u8{t:TypeId}{k:IntKind}(ht:P.underlying t=some (.int k))(x:UInt8):CkV P 1 t (.u8 x):=z22 ht rfl λ_ _ _ _ _ _ h=>by cases h;exact⟨_,_,rfl⟩
theorem CkV.u32{t:TypeId}{k:IntKind}(ht:P.underlying t=some (.int k))(x:UInt32):CkV P 1 t (.u32 x):=z22 ht rfl λ_ _ _ _ _ _ h=>by cases h;exact⟨_,_,rfl⟩
theorem CkV.arr{t e m:Nat}[hT:ArT P t m e][hk:IkT P e .u8][hL:LdT P e 1 false](xs:List UInt8):CkV P 2 t (.arr m 1 (xs.map .u8)):=by
 intro em n w ρ G L v F h;simp only[VR,D.isAgg,j9] at h;obtain⟨cx,rfl,h⟩:=h
 cases h with
 | arr _ _ _ _ hl hs hr=>
 rw[show n+2=(n+1)+1 from rfl,Instr.checkKey];simp only[Sem.run_bind,run_underlying hT.u,Result.andThen_ok];simp only[Std.Legacy.Range.forIn_eq_forIn_range',Std.Legacy.Range.size,O7,Nat.add_one_sub_one,Nat.div_one]
 have each:∀ j∈List.range' 0 m,j<m:=λj hj=>by
  rw[List.mem_range'_1] at hj;omega
 generalize List.range' 0 m=is at each
 induction is with
 | nil=>simp
 | cons j is ih=>
  have hj:=each j (by simp)
  have hsz:cx.toList.length=m:=by rw[hs];omega
  have hcl:cx.size=m:=by simpa using hsz
  obtain⟨v,p1,p2⟩:=XL (P:=P) (e:=e) (hL:=hL) (cs:=cx) (off:=j*1) (hr j (by omega)) (by simp[D.sz]) (by simp[D.isAgg]) (by omega)
  have p3:(Instr.checkKey em (n+1) e v).run P w=.ok () w:=by
   have:(List.map D.u8 xs)[j]'(by omega)=.u8 (xs[j]'(by simp at hl;omega)):=by simp
   rw[this] at p2;exact CkV.u8 hk.u _ em n _ _ _ _ _ _ p2
  simp only[List.forIn_cons,Sem.run_bind,LdT.size (P:=P) (t:=e),Result.andThen_ok,p1,p3,Sem.run_pure];exact ih (λy hy=>each y (by simp[hy]))
inductive CkFs(P:Program)(k:Nat):Nat->List Field->List D->Prop
 | nil {o:Nat}:CkFs P k o [] []
 | cons {o z:Nat} {gg:Bool} {f:Field} {fs:List Field} {d:D} {ds:List D} (hn:(f.name != "_")=true) (ho:f.offset=o) (hL:LdT P f.type z gg) (hz:d.sz=z) (hg:d.isAgg=gg)
  (h:CkV P k f.type d) (t:CkFs P k (o+z) fs ds):CkFs P k o (f::fs) (d::ds)
theorem j84{k:Nat}{t:TypeId}{d:D}(h:CkV P k t d):CkV P (k+1) t d:=λem n w ρ G L v F hv=>by
 have:=h em (n+1) w ρ G L v F hv
 rwa [show n+(k+1)=n+1+k by omega]
theorem CkV.struct{t:TypeId}{k:Nat}{fs:Array Field}{ds:List D}(ht:P.underlying t=some (.struct fs))(h:CkFs P k 0 fs.toList ds):CkV P (k+1) t (.agg ds):=by
 intro em n w ρ G L v F hv;simp only[VR,D.isAgg,j9] at hv;obtain⟨cx,rfl,hv⟩:=hv
 cases hv with
 | agg _ _ Fs hs hr=>
 rw[show n+(k+1)=(n+k)+1 from rfl,Instr.checkKey];simp only[Sem.run_bind,run_underlying ht,Result.andThen_ok];rw[<- Array.forIn_toList]
 have hc:0+N6 ds<=cx.size:=by simp at hs;omega
 have hr':∀ i (hi:i<ds.length),Rc w ρ G L true ds[i] ((cx.toList.drop (0+offk ds i)).take ds[i].sz) (Fs i):=λi hi=>by rw[c9];exact hr i hi
 clear hs hr ht;revert hc hr';generalize (0:Nat)=o at h;generalize fs.toList=fl at h;intro hc hr'
 induction h generalizing Fs with
 | nil=>simp
 | @cons o z gg f fs d ds hn ho hL hz hg h t ih=>
  subst ho;simp only[S1] at hc;have a1:=hr' 0 (by simp);simp only[Z2,GN,J8,hz] at a1;obtain⟨v1,r1,q1⟩:=XL (P:=P) (e:=f.type) (hL:=hL) a1 hz hg (by omega);have hb:=h em n w _ _ _ _ _ q1
  have ih':=ih (λi=>Fs (i+1)) (by omega) (λi hi=>by
   have:=hr' (i+1) (by simpa using hi);simp only[J6,XV,hz] at this
   rw[U7];exact this)
  have hne:f.name ≠ "_":=by simpa using hn
  simp only[List.forIn_cons,Sem.run_bind,hne,ne_eq,not_false_eq_true,j9,Result.andThen_ok,r1,hb,Sem.run_pure];exact ih'
variable{κ α:Type}[DecidableEq κ]
def R5(m:List (κ×α))(k:κ):Nat:=m.findIdx (λe=>e.1==k)
def S4(m:List (κ×α))(k:κ):Bool:=m.any λe=>e.1==k
def DA(z:α)(m:List (κ×α))(k:κ):α:=((m[R5 m k]?).map (·.2)).getD z
def v6(kd:κ->D)(f:α->D)(m:List (κ×α)):Bx:=.mp (m.map λe=>(kd e.1,f e.2))
theorem MP(m:List (κ×α))(k:κ):R5 m k<m.length↔S4 m k=true:=by
 unfold R5 S4;rw[List.findIdx_lt_length,Z4]
class MkT(P:Program)(t:TypeId)(k e:outParam TypeId):Prop where
 u:P.underlying t=some (.map k e)
def Deep:TypeDesc->Prop
 | .struct _=>True
 | .array _ _=>True
 | _=>False
theorem Deep.now{d:TypeDesc}(h:Deep d)(a b:Value):Instr.sameNow d a b=none:=by
 cases d<;>first|rfl|exact h.elim
structure KeyC(P:Program)(kt:TypeId)(kd:κ->D)(n:Nat):Prop where
 s:∃ d,P.underlying kt=some d/\Deep d
 eq:∀ a b:κ,EqV P n kt (kd a) (kd b) (a==b)
 ck:∀ a:κ,CkV P n kt (kd a)
 n:Nat.ble n 10000=true
 p:∀ a,(kd a).pur=true
theorem KeyC.find{kt:TypeId}{kd:κ->D}{n:Nat}(H:KeyC P kt kd n){G:Nat->Prop}{k:κ}(hk:VR w ρ G L (kd k) kv F):∀ (es:List MapEntry) (m:List (κ×α)) (i:Nat),es.length=m.length ->
 (∀ j (h:j<m.length),VR w ρ G L (kd m[j].1) (es.getD j default).key []) ->
 (Instr.findAsking kt kv es i).run P w=.ok (if R5 m k<m.length then some (i+R5 m k,(es.getD (R5 m k) default).val) else none) w:=by
 have hn:n<=10000:=g0 H.n;intro es
 induction es with
 | nil=>intro m i hl _;cases m with
  | nil=>simp[Instr.findAsking,R5]
  | cons x r=>simp at hl
 | cons e es ih=>
  intro m i hl hks
  cases m with
  | nil=>simp at hl
  | cons x r=>
   have h0:=hks 0 (by simp);simp only[List.getD_cons_zero,Z2] at h0;have hih:=ih r (i+1) (by simpa using hl) (λj hj=>by have:=hks (j+1) (by simpa using hj);simpa using this);have he:=H.eq k x.1 (10000-n) w _ _ _ _ _ _ _ _ _ _ hk h0;rw[show 10000-n+n=10000 by omega] at he;have he':(Op.equal kt kv e.key).run P w=.ok (k==x.1) w:=he;simp only[Instr.findAsking,Sem.run_bind,he',Result.andThen_ok];by_cases hx:x.1=k
   ·have:R5 (x::r) k=0:=by simp[R5,List.findIdx_cons,hx]
    simp[this,hx]
   ·have hx':(x.1==k)=false:=by simpa using hx
    have h1:R5 (x::r) k=R5 r k+1:=by simp[R5,List.findIdx_cons,hx']
    have hx2:(k==x.1)=false:=by simpa using λe=>hx e.symm
    simp only[hx2,q7,q8,hih,h1,j3,Nat.add_lt_add_iff_right,List.getD_cons_succ]
    split<;>simp[U7,W5,Nat.add_left_comm]
theorem KeyC.findKey{kt:TypeId}{kd:κ->D}{n:Nat}(H:KeyC P kt kd n){G:Nat->Prop}{k:κ}(hk:VR w ρ G L (kd k) kv F)(es:List MapEntry)(m:List (κ×α))(hl:es.length=m.length)
 (hks:∀ j (h:j<m.length),VR w ρ G L (kd m[j].1) (es.getD j default).key []) :
 (Instr.findKey kt kv es).run P w=.ok (if R5 m k<m.length then some (0+R5 m k,(es.getD (R5 m k) default).val) else none) w:=by
 obtain⟨d,hs,hd⟩:=H.s;have h1:=H.find hk es m 0 hl hks;unfold Instr.findKey;simp only[Sem.run_bind,run_underlying hs,Result.andThen_ok]
 cases es with
 | nil=>
  cases m with
  | nil=>simp[Instr.findNow,R5]
  | cons x r=>simp at hl
 | cons e es=>simpa [Instr.findNow,hd.now] using h1
theorem KeyC.check{kt:TypeId}{kd:κ->D}{n:Nat}(H:KeyC P kt kd n){G:Nat->Prop}{k:κ}(hk:VR w ρ G L (kd k) kv F)(em:Bool):(Instr.checkKey em 10000 kt kv).run P w=.ok () w:=by
 have hn:n<=10000:=g0 H.n;have:=H.ck k em (10000-n) w _ _ _ _ _ hk
 rwa [show 10000-n+n=10000 by omega] at this
omit [DecidableEq κ] in
theorem NW{G:Nat->Prop}{kd:κ->D}{f:α->D}{m:List (κ×α)}{b:Nat}(h:BR w ρ G L b (v6 kd f m) F) :
 F=[b]/\∃ (es:Array MapEntry) (clock:Nat),w.heap[b]? = some (.map es clock)/\es.size=m.length/\(∀ j (hj:j<m.length),VR w ρ G L (kd m[j].1) (es.getD j default).key []/\VR w ρ G L (f m[j].2) (es.getD j default).val []):=by
 obtain⟨h1,es,clock,h2,h3,h5⟩:=h;simp only[z9] at h3;refine⟨h1,es,clock,h2,h3,λj hj=>?_⟩;have h6:=h5 j (by simpa using hj);simpa only[c8] using h6
omit [DecidableEq κ] in
theorem w75{G:Nat->Prop}{kd:κ->D}{f:α->D}{m:List (κ×α)}{b clock:Nat}{es:Array MapEntry}(h2:w.heap[b]? = some (.map es clock))(h3:es.size=m.length)
 (h5:∀ j (hj:j<m.length),VR w ρ G L (kd m[j].1) (es.getD j default).key []/\VR w ρ G L (f m[j].2) (es.getD j default).val []):BR w ρ G L b (v6 kd f m) [b]:=by
 refine⟨rfl,es,clock,h2,by simpa using h3,λj hj=>?_⟩;simpa only[c8] using h5 j (by simpa using hj)
omit [DecidableEq κ] in
theorem StW.putMk{kd:κ->D}{f:α->D}{m m':List (κ×α)}{id clock:Nat}{es:Array MapEntry}(st:StW C σ a w ρ Fe Fb)(hb:σ.box id=some (v6 kd f m))(hs:es.size=m'.length)
 (h5:∀ j (hj:j<m'.length),VR w ρ (gd C Fe Fb) (λi=>(σ.box i).isSome) (kd m'[j].1) (es.getD j default).key []/\VR w ρ (gd C Fe Fb) (λi=>(σ.box i).isSome) (f m'[j].2) (es.getD j default).val []) :
 StW C (σ.putB id (v6 kd f m')) a { w with heap:=w.heap.setIfInBounds (ρ id) (.map es clock) } ρ Fe (upd Fb id [ρ id]):=by
 obtain⟨hF,es0,clock0,h2,h3,h4⟩:=NW (st.bx _ _ hb);have hlt:ρ id<w.heap.size:=(j6.1 h2).1
 have hblk:∀ b,b≠ρ id->(w.heap.setIfInBounds (ρ id) (.map es clock))[b]? = w.heap[b]?:=λb hne=>by
  rw[M5];simp[show ¬ ρ id=b from λe=>hne e.symm]
 have hnot:∀ b,gd C Fe Fb b->b≠ρ id:=λb hg he=>hg.2 (.inr ⟨id,by rw[hF,he];simp⟩)
 have hg:∀ b,gd C Fe Fb b->gd C Fe (upd Fb id [ρ id]) b:=λb hb'=>⟨hb'.1,λhc=>hb'.2 (hc.imp (λh=>h) (λ⟨i,hi⟩=>by
  by_cases hii:i=id
  ·subst hii;simp at hi;exact⟨i,by rw[hF,hi];simp⟩
  ·rw[j2 hii] at hi;exact⟨i,hi⟩))⟩
 refine st.putB (Fe':=Fe) (σ1:=σ) (F':=[ρ id]) (w':={ w with heap:=w.heap.setIfInBounds (ρ id) (.map es clock) }) hb rfl rfl (λu d hd=>.inl ⟨hd,rfl⟩) st.envN (λu=>.inl rfl) rfl ⟨rfl,z7 _⟩ rfl (by simp)
  hblk (by simp) (by simp) (λb hb'=>.inl (by rw[hF];exact hb')) ?_
 refine w75 (es:=es) (clock:=clock) ?_ hs (λj hj=>?_)
 ·simp[hlt]
 ·obtain⟨q1,q2⟩:=h5 j hj;exact⟨q1.mono (λb hb' _=>hblk b (hnot b (hb'.resolve_right (by simp)))) (λb hb' _=>hg b hb') (λi hi=>⟨hi,rfl⟩),q2.mono (λb hb' _=>hblk b (hnot b (hb'.resolve_right (by simp)))) (λb hb' _=>hg b hb') (λi hi=>⟨hi,rfl⟩)⟩
theorem R.lookK{kd:κ->D}{f:α->D}{m:List (κ×α)}{z:α}{n:Nat}{p t id:Nat}{x:Operand}{k:κ}{dk:D}{kt et:TypeId}[hT:MkT P ty kt et]{zd:D}[hZ:ZrT P et zd]
 (H:KeyC P kt kd n) (h:σ.get p=some (.map id)) (hb:σ.box id=some (v6 kd f m)) (hx:ev C.gl σ x=some dk) (hdk:dk=kd k) (hz:zd=f z) (hr:∀ v,(f v).isRef=false) (ht:t<σ.n) :
 OpS P C ⟨some t,.lookup ty (.tmp p) x true,rt,pos,aft,g⟩ σ (σ.set t (.tup [f (DA z m k),.bool (S4 m k)])):=by
 subst hdk;refine OpS.value λa w ⟨ρ,Fe,Fb,st⟩=>?_;have hp:=DP st h;obtain⟨Fx,hvx,_⟩:=H5 st hx (D9 (H.p k));have hF0:=hvx.pur (H.p k);rw[hF0] at hvx;obtain⟨hF,es,clock,h2,h3,h4⟩:=NW (st.bx _ _ hb);obtain⟨zi,zv,z1,z2,z3,z4⟩:=hZ.i;have hfk:=H.findKey hvx es.toList m (by simpa using h3) (λj hj=>by have:=(h4 j hj).1;simpa [v9] using this)
 have hzv:VR w ρ (gd C Fe Fb) (λi=>(σ.box i).isSome) (f z) zv []:=by rw[<- hz];exact j50 z3 z4
 have hck:=λb=>H.check hvx b
 have fin:∀ v ok,VR w ρ (gd C Fe Fb) (λi=>(σ.box i).isSome) (f (DA z m k)) v []->ok=S4 m k->St C (σ.set t (.tup [f (DA z m k),.bool (S4 m k)])) (a.put (some t) (.tuple #[v,.bool ok])) w:=by
  rintro v ok hv rfl;refine st.putRef (d:=.tup [f (DA z m k),.bool (S4 m k)]) (v:=.tuple #[v,.bool (S4 m k)]) ht ⟨[v,.bool (S4 m k)],λ_=>[],by rw[Y0 a t _ t (by rw[st.size];exact ht)];simp,rfl,(FO _).symm,λj hj=>.inr ?_⟩
  have hup:∀ d v,VR w ρ (gd C Fe Fb) (λi=>(σ.box i).isSome) d v []->VR w ρ (gd C (upd Fe t []) Fb) (λi=>(σ.box i).isSome) d v []:=
   λd v h=>h.mono (λ_ _ _=>rfl) (λb hb _=>⟨hb.1,λho=>hb.2 (MX ho)⟩) (λi hi=>⟨hi,rfl⟩)
  match j,hj with
  | 0,_=>exact⟨hr _,hup _ _ hv⟩
  | 1,_=>exact⟨rfl,hup _ _ (by simp only[J6,Z2,VR,D.isAgg,q7,q8];exact .bool _)⟩
 by_cases hin:R5 m k<m.length
 ·have hgv:DA z m k=m[R5 m k].2:=by simp[DA,hin]
  obtain⟨q1,q2⟩:=h4 _ hin
  have hsz:R5 m k<es.size:=by omega
  have hgd:es.getD (R5 m k) default=es[R5 m k]:=by simp[v9,hsz]
  rw[hgd] at q2;refine⟨.tuple #[es[R5 m k].val,.bool true],w, ?_,fin _ _ (by rw[hgv];exact q2) ((MP m k).1 hin).symm⟩;unfold execOp;simp[Instr.lookup,run_underlying hT.u,Q3 hp,MapKept.run_getObj_map h2,hck,hfk,hin,hsz]
 ·have hle:R5 m k<=m.length:=List.findIdx_le_length
  have hgv:DA z m k=z:=by simp[DA,show R5 m k=m.length by omega]
  have hno:S4 m k=false:=by
   cases hh:S4 m k with
   | false=>rfl
   | true=>exact absurd ((MP m k).2 hh) hin
  refine⟨.tuple #[zv,.bool false],w, ?_,fin _ _ (by rw[hgv];exact hzv) hno.symm⟩;unfold execOp;simp[Instr.lookup,run_underlying hT.u,Q3 hp,MapKept.run_getObj_map h2,hck,hfk,hin,zeroValue,typeInfo,z1,z2]
theorem R.mupdN{kd:κ->D}{f:α->D}{m:List (κ×α)}{n:Nat}{p id:Nat}{x y:Operand}{k:κ}{u:α}{dk dv:D}{kt et:TypeId}[hT:MkT P ty kt et]
 (H:KeyC P kt kd n) (h:σ.get p=some (.map id)) (hb:σ.box id=some (v6 kd f m)) (hx:ev C.gl σ x=some dk) (hdk:dk=kd k) (hy:ev C.gl σ y=some dv) (hd:dv=f u) (hp:dv.pur=true) (hno:S4 m k=false) :
 OpS P C ⟨none,.mapUpdate ty (.tmp p) x y,rt,pos,aft,g⟩ σ (σ.putB id (v6 kd f (m++[(k,u)]))):=by
 subst hdk;subst hd;refine OpS.skip rfl λa w ⟨ρ,Fe,Fb,st⟩=>?_;have hpm:=DP st h;obtain⟨Fx,hvx,_⟩:=H5 st hx (D9 (H.p k));have hF0:=hvx.pur (H.p k);rw[hF0] at hvx;obtain⟨Fy,hvy,_⟩:=H5 st hy (D9 hp);have hFy:=hvy.pur hp;rw[hFy] at hvy;obtain⟨hF,es,clock,h2,h3,h4⟩:=NW (st.bx _ _ hb);have hfk:=H.findKey hvx es.toList m (by simpa using h3) (λj hj=>by have:=(h4 j hj).1;simpa [v9] using this)
 have hin:¬ R5 m k<m.length:=λhc=>by rw[MP,hno] at hc;cases hc
 have st2:=st.putMk (clock:=clock+1) (es:=es.push { key:=a.eval x,val:=a.eval y,born:=clock }) (m':=m++[(k,u)]) hb (by simp[h3]) (λj hj=>by
  rcases X9 j m.length with hjm|hjm
  ·obtain⟨r1,r2⟩:=h4 j hjm
   have hgj:(es.push { key:=a.eval x,val:=a.eval y,born:=clock }).getD j default=es.getD j default:=by
    simp only[v9,Array.getElem?_push];rw[w3 (by omega)]
   rw[hgj,o0 hjm];exact⟨r1,r2⟩
  ·have hje:j=m.length:=by simp at hj;omega
   subst hje
   have hgj:(es.push { key:=a.eval x,val:=a.eval y,born:=clock }).getD m.length default={ key:=a.eval x,val:=a.eval y,born:=clock }:=by
    simp only[v9,Array.getElem?_push,h3,j9,Option.getD_some]
   rw[hgj];simp only[K1 (z7 _),L3,Z2]
   exact⟨hvx,hvy⟩)
 refine⟨_, ?_,ρ,Fe,_,st2⟩;unfold execOp;simp[Instr.mapUpdate,run_underlying hT.u,Q3 hpm,MapKept.run_getObj_map h2,H.check hvx,hfk,hin,MapKept.run_setObj_map _ h2]
omit [DecidableEq κ] in
theorem GD{t:TypeId}(kd:κ->D)(f:α->D)(hid:σ.box t=none)(ht:t<σ.n):OpS P C ⟨some t,.makeMap ty none,rt,pos,aft,g⟩ σ ((σ.newB t (v6 kd f [])).set t (.map t)):=R.mkmap hid ht
theorem W.dropBP{c:Code}(ids:List Nat)(hb:M9 ids σ.bx=bx')(he:QG ids σ.env=true)(hx:ZK ids bx')(hpn:∀ id b,C.pin id=some b->K2 ids id=true)(h:W P C c Q ⟨σ.n,σ.env,bx'⟩):W P C c Q σ:=by
 intro a w ⟨ρ,Fe,Fb,st⟩;refine h a w ?_
 have hl:∀ u,lk bx' u=if K2 ids u then σ.box u else none:=λu=>by rw[<- hb];exact l6 ids σ.bx u
 have hsub:∀ id,∀ b∈(if K2 ids id then Fb id else[]),b∈Fb id:=λid b hm=>by split at hm;exact hm;cases hm
 have hown:∀ b,own Fe (λid=>if K2 ids id then Fb id else[]) b->own Fe Fb b:=λb hb=>hb.imp id λ⟨i,hi⟩=>⟨i,hsub i b hi⟩
 have hgd:∀ b,gd C Fe Fb b->gd C Fe (λid=>if K2 ids id then Fb id else[]) b:=λb hb=>⟨hb.1,λhc=>hb.2 (hown b hc)⟩
 have hL:∀ id,(K2 ids id=true/\(σ.box id).isSome)->(lk bx' id).isSome:=λid ⟨h1,h2⟩=>by rw[hl,u4 h1];exact h2
 exact⟨ρ,Fe,(λid=>if K2 ids id then Fb id else[]),{
  size:=st.size
  defs:=st.defs
  pin:=λid b hp=>⟨(st.pin id b hp).1,hL id ⟨hpn id b hp,(st.pin id b hp).2⟩⟩
  env:=λt d hd=>(st.env t d hd).okB (QY he hd) (λb hb _=>hgd b hb) hL
  envN:=st.envN
  bx:=λid b hd=>by
   have hok:=JU hx hd;have h1:=hl id;by_cases hm:K2 ids id=true
   ·rw[u4 hm] at h1
    have h2:σ.box id=some b:=by rw[<- h1];exact hd
    have hF':(if K2 ids id then Fb id else[])=Fb id:=u4 hm;show BR w ρ _ _ (ρ id) b (if K2 ids id then Fb id else[]);rw[hF'];exact((st.bx id b h2).okB hok).mono (λ_ _ _=>rfl) (λb hb _=>hgd b hb) (λid hid=>⟨hL id hid,rfl⟩)
   ·rw[w3 hm] at h1;rw[show lk bx' id=some b from hd] at h1;cases h1
  bxN:=λid hn=>by
   have h1:=hl id;by_cases hm:K2 ids id=true
   ·rw[u4 hm] at h1;simp only[hm,j9];exact st.bxN id (by rw[<- h1];exact hn)
   ·simp[hm]
  nodE:=st.nodE
  nodB:=λid=>by show(if K2 ids id then Fb id else[]).Nodup;split;exact st.nodB id;exact w9
  dEE:=st.dEE
  dEB:=λt id b hb hm=>st.dEB t id b hb (hsub id b hm)
  dBB:=λid id' hne b hb hm=>st.dBB id id' hne b (hsub id b hb) (hsub id' b hm)
  new:=λb hb=>st.new b (hown b hb)
  kept:=st.kept
  os:=st.os
  tape:=⟨st.tape.tp,st.tape.dr⟩
  output:=st.output
  grown:=st.grown
  gl:=st.gl
  okN:=st.okN
  okO:=λb hb=>st.okO b (hown b hb) }⟩
omit [DecidableEq κ] in
theorem n5{ids:List Nat}{kd:κ->D}{f:α->D}{m:List (κ×α)}(h1:∀ a,(kd a).okB ids=true)(h2:∀ u,(f u).okB ids=true):∀ kv∈m.map (λe=>(kd e.1,f e.2)),kv.1.okB ids=true/\kv.2.okB ids=true:=λkv hkv=>by
 obtain⟨e,_,rfl⟩:=n9.1 hkv;exact⟨h1 _,h2 _⟩
end
section
variable{pos:String}{aft:Array Edge}{g:Option (Nat×Bool)}
variable{P:Program}{C:Ctx}{σ σ' σ1:Sg}{a:Act}{w w':World}{ρ:Nat->Nat}{Fe Fe' Fb:Nat->List Nat}
theorem j51{s id z n cap:Nat}(st:StW C σ a w ρ Fe Fb)(h:σ.get s=some (.bs id z n cap)):a.tmps[s]? = some (.slice (some ⟨ρ id,0,none⟩) n cap)/\(σ.box id).isSome=true/\n<=cap:=by
 obtain⟨v,hv,hr⟩:=(c5 rfl).1 (st.env _ _ h);simp only[VR,D.isAgg,q7,q8] at hr;generalize Fe s=F at hr
 cases hr with
 | bs _ _ _ _ hL hc=>exact⟨hv,hL,hc⟩
theorem R.lenBs{s t id z n cap:Nat}{e:TypeId}[hT:SlT P ty e]
 (h:σ.get s=some (.bs id z n cap)) (ht:t<σ.n):OpS P C ⟨some t,.call { callee:=.builtin .len,args:=#[.tmp s],argTypes:=#[ty] },rt,pos,aft,g⟩ σ (σ.set t (.int ((n:Nat):Int))):=by
 refine OpS.value λa w ⟨ρ,Fe,Fb,st⟩=>?_;obtain⟨hv,_,_⟩:=j51 st h;refine⟨.int .i64 n,w, ?_,st.put ht rfl ?_⟩
 ·unfold execOp;simp[resolve,invoke,builtin,Builtin.len_,run_underlying hT.u,Q3 hv,goInt]
 ·simp only[VR,D.isAgg,q7,q8];exact .int _
theorem R.idxBs{s t id z m cap:Nat}{ix:Operand}{n:Int}{e b:TypeId}[hT:SlT P ty e][hE:ElT P e z b](k:Nat)
 (h:σ.get s=some (.bs id z m cap)) (hi:evo C.gl σ (some ix) 0=some n) (hk:n=(k:Int)) (h1:k<m) (ht:t<σ.n) :
 OpS P C ⟨some t,.indexAddr ty (.tmp s) ix,rt,pos,aft,g⟩ σ (σ.set t (.ptr id (k*z) [k])):=by
 subst hk;refine OpS.value λa w ⟨ρ,Fe,Fb,st⟩=>?_;obtain⟨hv,hL,hc⟩:=j51 st h;obtain⟨kk,he⟩:=BH st hi;refine⟨.pointer (some ⟨ρ id,k*z,none⟩),w, ?_,st.put ht rfl ?_⟩
 ·unfold execOp;simp[Instr.indexAt,asIntOf,run_underlying hT.u,Q3 hv,he,h1,ElT.size (P:=P) (e:=e),R6]
 ·simp only[VR,D.isAgg,q7,q8];exact .ptr _ _ _ hL
end
end Go.Sx
