/- Own texts. -/
import Derived.Test.YtgilikgghknbhaaGreatDoorMSxAl
import Derived.Test.YtgilikgghknbhaaGreatDoorMSxVal4
import Derived.Recover
import Derived.Lib.AppendZerosOnto
import Derived.Test.YtgilikgghknbhaaGreatDoorProg
import Derived.Test.YtgilikgghknbhaaGreatDoorChecked
set_option linter.unusedVariables false
set_option linter.unusedSimpArgs false
set_option linter.unnecessarySimpa false

namespace Go.Sx
variable{v:Value}{aft:Array Edge}{bx' bx bx1:List (Nat×Bx)}{Q:Exit->Sg->Prop}{tys:Array TypeId}{path q F live:List Nat}{rt ty:TypeId}{pos:String}{gg want:Bool}{env':List (Nat×D)}{d0 dx:D}{τ:Sg}{G L:Nat->Prop}{off tg m nn:Nat}{args:List Operand}{α:Type}
section
variable{P:Program}{C:Ctx}{σ σ' σ1:Sg}{a:Act}{w w':World}{ρ:Nat->Nat}{Fe Fe' Fb:Nat->List Nat}
theorem St.rebox(h:St C σ a w)(hb:∀ id,lk bx' id=σ.box id):St C ⟨σ.n,σ.env,bx'⟩ a w:=by
 obtain⟨ρ,Fe,Fb,st⟩:=h;have hbox:∀ id,(⟨σ.n,σ.env,bx'⟩:Sg).box id=σ.box id:=hb
 have hL:(λid=>((⟨σ.n,σ.env,bx'⟩:Sg).box id).isSome=true)=(λid=>(σ.box id).isSome=true):=by
  funext id;rw[hbox]
 refine⟨ρ,Fe,Fb,{
  size:=st.size
  defs:=st.defs
  pin:=λid b hp=>⟨(st.pin id b hp).1,by rw[hbox];exact(st.pin id b hp).2⟩
  env:=λt d hd=>by rw[hL];exact st.env t d hd
  envN:=λt ht=>st.envN t ht
  bx:=λid d hd=>by rw[hL];exact st.bx id d (by rw[<- hbox];exact hd)
  bxN:=λid hd=>st.bxN id (by rw[<- hbox];exact hd)
  nodE:=st.nodE
  nodB:=st.nodB
  dEE:=st.dEE
  dEB:=st.dEB
  dBB:=st.dBB
  new:=st.new
  kept:=st.kept
  os:=st.os
  tape:=⟨st.tape.tp,st.tape.dr⟩
  output:=st.output
  grown:=st.grown
  gl:=st.gl
  okN:=st.okN
  okO:=st.okO }⟩
abbrev Efs:=List (Nat×List (Nat×Bx))
def bxk(an:List Nat)(i id:Nat):Efs->Option Bx->Option Bx
 | [],cur=>cur
 | (j,l)::r,cur=>match lk l id with
  | none=>bxk an i id r cur
  | some x=>bif tb (nth an i) j then bxk an i id r (some x) else bif Nat.beq i j||tb (nth an j) i then bxk an i id r cur else bxk an i id r none
def FL(f:Nat->Bool)(id:Nat):Efs->Option Bx->Option Bx
 | [],cur=>cur
 | (j,l)::r,cur=>match lk l id with
  | none=>FL f id r cur
  | some x=>bif f j then FL f id r (some x) else FL f id r cur
def touch(l m:List (Nat×Bx)):Bool:=l.any λx=>(lk m x.1).isSome
def q68(an:List Nat)(j:Nat)(l:List (Nat×Bx)):Efs->Bool
 | []=>true
 | (k,m)::r=>(!(Nat.beq j k)&&(!(touch l m)||tb (nth an k) j))&&q68 an j l r
def z38(an:List Nat)(m:Nat):Efs->Bool
 | []=>true
 | (j,l)::r=>Nat.blt j m&&q68 an j l r&&z38 an m r
def q86(an:List Nat)(i id:Nat):Efs->Bool
 | []=>true
 | (k,m)::r=>(Nat.beq k i||(lk m id).isNone||tb (nth an k) i)&&q86 an i id r
def x73(an:List Nat)(bx0:List (Nat×Bx))(efs:Efs)(i id:Nat):Bool:=(lk bx0 id).isNone&&q86 an i id efs
def IV(env:List (Nat×D))(an:List Nat)(ks:List (Nat×Nat))(its:List It):Efs->Bool
 | []=>true
 | (i,l)::r=>(QD (l.map Prod.fst) ks i env&&QH (l.map Prod.fst) an ks i its 0)&&IV env an ks its r
theorem z37{an:List Nat}{j:Nat}{l:List (Nat×Bx)}:∀ {r:Efs},q68 an j l r=true->∀ x∈r,(!(Nat.beq j x.1)&&(!(touch l x.2)||tb (nth an x.1) j))=true:=by
 intro r
 induction r with
 | nil=>intro _ x hx;cases hx
 | cons y r ih=>
  obtain⟨k,m⟩:=y;intro h x hx;simp only[q68] at h;rw[u6] at h
  rcases w5.1 hx with rfl|hx
  ·exact h.1
  ·exact ih h.2 x hx
theorem z61{an:List Nat}{i id:Nat}:∀ {r:Efs},q86 an i id r=true->∀ x∈r,(Nat.beq x.1 i||(lk x.2 id).isNone||tb (nth an x.1) i)=true:=by
 intro r
 induction r with
 | nil=>intro _ x hx;cases hx
 | cons y r ih=>
  obtain⟨k,m⟩:=y;intro h x hx;simp only[q86] at h;rw[u6] at h
  rcases w5.1 hx with rfl|hx
  ·exact h.1
  ·exact ih h.2 x hx
theorem q07{env:List (Nat×D)}{an:List Nat}{ks:List (Nat×Nat)}{its:List It}:∀ {r:Efs},IV env an ks its r=true->∀ x∈r,(QD (x.2.map Prod.fst) ks x.1 env&&QH (x.2.map Prod.fst) an ks x.1 its 0)=true:=by
 intro r
 induction r with
 | nil=>intro _ x hx;cases hx
 | cons y r ih=>
  obtain⟨k,m⟩:=y;intro h x hx;simp only[IV] at h;rw[u6] at h
  rcases w5.1 hx with rfl|hx
  ·exact h.1
  ·exact ih h.2 x hx
def RR:Efs->List (Nat×Bx)->List (Nat×Bx)
 | [],b=>b
 | (_,l)::r,b=>RR r (l++b)
def u61(k:Nat):List (Nat×Bx)->List (Nat×Bx)
 | []=>[]
 | (j,x)::r=>bif Nat.beq j k then u61 k r else(j,x)::u61 k r
def u89:Nat->List (Nat×Bx)->List (Nat×Bx)
 | 0,l=>l
 | _+1,[]=>[]
 | n+1,(k,x)::r=>(k,x)::u89 n (u61 k r)
theorem w84(k:Nat)(l:List (Nat×Bx))(u:Nat)(h:u≠k):lk (u61 k l) u=lk l u:=by
 induction l with
 | nil=>rfl
 | cons y r ih=>
  obtain⟨j,x⟩:=y;simp only[u61];by_cases hj:j=k
  ·subst hj;simp only[Z8,m9,U2,ih];rw[w3 (λe=>h e.symm)]
  ·simp only[nbeq hj,d7,U2,ih]
theorem w85:∀ (n:Nat) (l:List (Nat×Bx)) (u:Nat),lk (u89 n l) u=lk l u:=by
 intro n
 induction n with
 | zero=>intro l u;rfl
 | succ n ih=>
  intro l u
  cases l with
  | nil=>rfl
  | cons y r=>
   obtain⟨k,x⟩:=y;simp only[u89,U2,ih];by_cases hk:k=u
   ·simp[hk]
   ·simp only[hk,q8];exact w84 k r u (λe=>hk e.symm)
theorem w86(efs:Efs):∀ (b:List (Nat×Bx)) (u:Nat),lk (RR efs b) u=FL (λ_=>true) u efs (lk b u):=by
 induction efs with
 | nil=>intro b u;rfl
 | cons y r ih=>
  obtain⟨j,l⟩:=y;intro b u;simp only[RR,FL,ih,QF]
  cases lk l u<;>rfl
section
variable{listed:Array Bool}{ops:List Oper}{an:List Nat}{ks kk:List (Nat×Nat)}{its:List It}{Q:Exit->Sg->Prop}
theorem GE{f g:Nat->Bool}{id:Nat}:∀ {efs:Efs} {c:Option Bx},(∀ j l,(j,l)∈efs->(lk l id).isSome=true->f j=g j)->FL f id efs c=FL g id efs c:=by
 intro efs
 induction efs with
 | nil=>intro c _;rfl
 | cons y r ih=>
  obtain⟨j,l⟩:=y;intro c h;simp only[FL]
  cases hl:lk l id with
  | none=>exact ih (λj' l' hm=>h j' l' (j1 _ hm))
  | some x=>
   simp only;rw[h j l (by simp) (by rw[hl];rfl)]
   cases g j<;>exact ih (λj' l' hm=>h j' l' (j1 _ hm))
theorem RK{f:Nat->Bool}{id:Nat}:∀ {efs:Efs} {c:Option Bx},(∀ j l,(j,l)∈efs->(lk l id).isSome=true->f j=false)->FL f id efs c=c:=by
 intro efs
 induction efs with
 | nil=>intro c _;rfl
 | cons y r ih=>
  obtain⟨j,l⟩:=y;intro c h;simp only[FL]
  cases hl:lk l id with
  | none=>exact ih (λj' l' hm=>h j' l' (j1 _ hm))
  | some x=>
   simp only;rw[h j l (by simp) (by rw[hl];rfl)];exact ih (λj' l' hm=>h j' l' (j1 _ hm))
theorem u11{f:Nat->Bool}{i id:Nat}{x:Bx}(hi:f i=false):∀ {efs:Efs} {ck cb:Option Bx},(∀ j l,(j,l)∈efs->tb (nth an i) j=true->f j=true)->(∀ j l,(j,l)∈efs->tb (nth an j) i=true->f j=false) ->
 (∀ x,ck=some x->cb=some x)->bxk an i id efs ck=some x->FL f id efs cb=some x:=by
 intro efs
 induction efs with
 | nil=>intro ck cb _ _ h hx;exact h x hx
 | cons y r ih=>
  obtain⟨j,l⟩:=y;intro ck cb h1 h2 h hx;simp only[bxk] at hx;simp only[FL];have h1':∀ j l,(j,l)∈r->tb (nth an i) j=true->f j=true:=λj' l' hm=>h1 j' l' (j1 _ hm);have h2':∀ j l,(j,l)∈r->tb (nth an j) i=true->f j=false:=λj' l' hm=>h2 j' l' (j1 _ hm)
  cases hl:lk l id with
  | none=>rw[hl] at hx;exact ih h1' h2' h hx
  | some z=>
   rw[hl] at hx;simp only at hx ⊢
   cases ha:tb (nth an i) j with
   | true=>
    rw[ha] at hx;rw[h1 j l (by simp) ha];exact ih h1' h2' (λ_ h=>h) hx
   | false=>
    rw[ha] at hx;simp only[d7] at hx
    cases hb:(Nat.beq i j||tb (nth an j) i) with
    | true=>
     rw[hb] at hx
     have:f j=false:=by
      rcases Y2 _ _▸hb with hb|hb
      ·rw[<- m8 hb];exact hi
      ·exact h2 j l (by simp) hb
     rw[this];exact ih h1' h2' h hx
    | false=>
     rw[hb] at hx;simp only[d7] at hx
     cases f j with
     | true=>exact ih h1' h2' (λ_ h=>by cases h) hx
     | false=>exact ih h1' h2' (λ_ h=>by cases h) hx
theorem k05{l m:List (Nat×Bx)}{id:Nat}(h1:(lk l id).isSome=true)(h2:(lk m id).isSome=true):touch l m=true:=by
 obtain⟨x,hx⟩:=P4.1 h1;exact Z4.2 ⟨(id,x),BK hx,h2⟩
theorem x80{f:Nat->Bool}{i id:Nat}{l:List (Nat×Bx)}(hi:f i=false):∀ {efs:Efs} {c:Option Bx},z38 an m efs=true->(i,l)∈efs->(∀ j l,(j,l)∈efs->tb (nth an j) i=true->f j=false) ->
 FL (λj=>f j||Nat.beq j i) id efs c=(match lk l id with|some x=>some x|none=>FL f id efs c):=by
 intro efs
 induction efs with
 | nil=>intro c _ h;cases h
 | cons y r ih=>
  obtain⟨j,l0⟩:=y;intro c hok hm h2;simp only[z38,u6] at hok;obtain⟨⟨_,hr⟩,hok'⟩:=hok
  have hr':∀ j' l',(j',l')∈r->j'≠j/\(touch l0 l'=true->tb (nth an j') j=true):=λj' l' hm'=>by
   have:=z37 hr _ hm';simp only[u6,D1,Y2] at this;refine⟨λe=>?_,λht=>?_⟩
   ·subst e;simp at this
   ·rcases this.2 with h|h
    ·rw[ht] at h;cases h
    ·exact h
  by_cases hji:j=i
  ·subst hji
   have hl:l=l0:=by
    rcases w5.1 hm with h|h
    ·cases h;rfl
    ·exact absurd rfl (hr' j l h).1
   subst hl
   have hrest:∀ c,FL (λj'=>f j'||Nat.beq j' j) id r c=FL f id r c:=λc=>GE λj' l' hm' _=>by rw[nbeq (hr' j' l' hm').1,Bool.or_false]
   simp only[FL]
   cases hl:lk l id with
   | none=>simp only;exact hrest c
   | some x=>
    simp only[Z8,Bool.or_true,m9];rw[hrest];exact RK λj' l' hm' hs=>h2 j' l' (j1 _ hm') ((hr' j' l' hm').2 (k05 (by rw[hl];rfl) hs))
  ·have hm':(i,l)∈r:=by
    rcases w5.1 hm with h|h
    ·cases h;exact absurd rfl hji
    ·exact h
   have h2':∀ j l,(j,l)∈r->tb (nth an j) i=true->f j=false:=λj' l' hm'=>h2 j' l' (j1 _ hm');simp only[FL,nbeq hji,Bool.or_false]
   cases lk l0 id with
   | none=>exact ih hok' hm' h2'
   | some x=>cases f j<;>exact ih hok' hm' h2'
theorem q67{efs:Efs}(h:z38 an m efs=true):∀ j l,(j,l)∈efs->j<m:=by
 induction efs with
 | nil=>intro j l hm;cases hm
 | cons y r ih=>
  obtain⟨j0,l0⟩:=y;simp only[z38,u6] at h;intro j l hm
  rcases w5.1 hm with e|e
  ·cases e;exact g0 h.1.1
  ·exact ih h.2 j l e
theorem x48{r:List (Nat×α)}{k:Nat}{x:α}(h:(k,x)∈r):(lk r k).isSome=true:=by
 induction r with
 | nil=>cases h
 | cons y r ih=>
  obtain⟨j,z⟩:=y;rw[U2]
  rcases w5.1 h with e|e
  ·cases e;simp
  ·split
   ·rfl
   ·exact ih e
def SpE(P:Program)(C:Ctx)(σ:Sg)(efs:Efs)(i:Nat)(l:List (Nat×Bx))(an:List Nat)(ks:List (Nat×Nat))(its:List It)(o:Oper)(t:Nat)(d:D):Prop:=
 ∀ τ:Sg,τ.n=σ.n->(∀ id x,bxk an i id efs (lk σ.bx id)=some x->τ.box id=some x)->(∀ id,x73 an σ.bx efs i id=true->τ.box id=none)->(∀ u x,facts an ks σ.env its i u=some x->τ.get u=some x) ->
  ∃ τ':Sg,OpS P C o τ (match o.dst with|some _=>τ'.set t d|none=>τ')/\τ'.n=τ.n/\(∀ id,τ'.box id=match lk l id with|some x=>some x|none=>τ.box id) /\
   ∀ u y,(∀ k s,(k,s)∈ks->s=u->k≠i)->τ.get u=some y->y.albIn (l.map Prod.fst)=false->τ'.get u=some y
def u05(n:Nat)(ks:List (Nat×Nat))(o:Oper)(i t:Nat):Prop:=
 match o.dst with
 | some t'=>t'=t/\t<n
 | none=>has ks i t=true
def AllE(P:Program)(C:Ctx)(σ:Sg)(efs:Efs)(ops:List Oper)(an:List Nat)(ks kk:List (Nat×Nat))(its:List It):List Oper->List It->Nat->Prop
 | o::os,⟨t,d,wt⟩::r,i=>(match lk efs i with
  | some l=>o.guard=none/\wt=true/\u05 σ.n ks o i t/\SpE P C σ efs i l an ks its o t d
  | none=>o.dst=some t/\t<σ.n/\Wt ops (facts an ks σ.env its i) o wt /\
  (wt=true->∀ τ:Sg,(∀ id x,bxk an i id efs (lk σ.bx id)=some x->τ.box id=some x)->t<τ.n->(∀ u x,facts an ks σ.env its i u=some x->τ.get u=some x)->OpS P C o τ ((ZX τ kk i).set t d))) /\
  AllE P C σ efs ops an ks kk its os r (i+1)
 | [],_::_,_=>False
 | _,[],_=>True
theorem AllE.at{efs:Efs}:∀ {os:List Oper} {r:List It} {i0:Nat},AllE P C σ efs ops an ks kk its os r i0->∀ {k:Nat} {t:Nat} {d:D} {wt:Bool},r[k]? = some ⟨t,d,wt⟩ ->
 ∃ o,os[k]? = some o/\(match lk efs (i0+k) with
  | some l=>o.guard=none/\wt=true/\u05 σ.n ks o (i0+k) t/\SpE P C σ efs (i0+k) l an ks its o t d
  | none=>o.dst=some t/\t<σ.n/\Wt ops (facts an ks σ.env its (i0+k)) o wt /\
  (wt=true->∀ τ:Sg,(∀ id x,bxk an (i0+k) id efs (lk σ.bx id)=some x->τ.box id=some x)->t<τ.n->(∀ u x,facts an ks σ.env its (i0+k) u=some x->τ.get u=some x)->OpS P C o τ ((ZX τ kk (i0+k)).set t d))):=by
 intro os r
 induction r generalizing os with
 | nil=>intro i0 _ k t d wt hk;simp at hk
 | cons y r ih=>
  intro i0 h k t d wt hk;obtain⟨t',d',w'⟩:=y
  cases os with
  | nil=>exact h.elim
  | cons o os=>
   cases k with
   | zero=>
    simp at hk;obtain⟨rfl,rfl,rfl⟩:=hk;exact⟨o,rfl,h.1⟩
   | succ k=>
    obtain⟨o',h1,h2⟩:=ih h.2 (k:=k) (by simpa using hk);rw[show i0+(k+1)=i0+1+k by omega];exact⟨o',by simpa using h1,h2⟩
theorem VU{N:Nat}(H:ItG ⟨N,σ.env,σ.bx⟩ ops an ks its)(hsize:listed.size=ops.length){i t:Nat}{d:D}{wt:Bool}(hit:its[i]? = some ⟨t,d,wt⟩)(hun:listed.getD i true=false)
 (hanc:∀ j,j<ops.length->tb (nth an i) j=true->listed.getD j false=true) (hnot:∀ j,j<ops.length->tb (nth an j) i=true->listed.getD j false=false) {ids:List Nat} (hE:QD ids ks i σ.env=true) (hI:QH ids an ks i its 0=true) (hkt:(i,t)∈ks)
  (hinv:HE σ an ks its listed τ) (τ2:Sg)
 (hg2:∀ u y,(∀ k s,(k,s)∈ks->s=u->k≠i)->τ.get u=some y->y.albIn ids=false->τ2.get u=some y):HE σ an ks its (listed.setIfInBounds i true) τ2:=by
 obtain⟨hnd,hlt⟩:=T2 H.ts;obtain⟨hin,hif⟩:=undone hun;intro u y hy;unfold afts at hy
 cases hbd:bads (λj=>(listed.setIfInBounds i true).getD j false&&!(cov an (λj=>(listed.setIfInBounds i true).getD j false) its u j)) ks u with
 | true=>rw[hbd] at hy;cases hy
 | false=>
  rw[hbd] at hy;simp only[d7] at hy;rw[T4] at hbd
  have hii:(listed.setIfInBounds i true).getD i false=true:=by simp[hin]
  have hcov:u≠t->∀ k,cov an (λj=>(listed.setIfInBounds i true).getD j false) its u k=true->cov an (λj=>listed.getD j false) its u k=true/\k≠i:=by
   intro hut k hc;obtain⟨j,dj,wj,h1,h2,h3,h4⟩:=JI hc
   have hji:i≠j:=by
    rintro rfl;rw[hit] at h2;cases h2;exact hut rfl
   rw[getD_set_ne false hji] at h3;refine⟨BF h1 h3 h4, ?_⟩;rintro rfl;have hjl:j<ops.length:=u0 (z8.1 h2).1 H.len;rw[hnot j hjl h4] at h3;cases h3
  by_cases hut:u=t
  ·subst hut;exfalso;have h1:=hbd i u hkt rfl;rw[hii] at h1;simp only[U9,X7] at h1;obtain⟨j,dj,wj,q1,q2,q3,q4⟩:=JI h1
   have hji:j=i:=by
    have e1:(slots its)[j]? = some u:=by rw[I8,q2];rfl
    have e2:(slots its)[i]? = some u:=by rw[I8,hit];rfl
    obtain⟨l1,e1'⟩:=z8.1 e1;obtain⟨l2,e2'⟩:=z8.1 e2;exact(List.getElem_inj hnd).1 (e1'.trans e2'.symm)
   subst hji;have hjl:j<ops.length:=u0 (z8.1 q2).1 H.len;have:=hanc j hjl q4;rw[hif] at this;cases this
  ·have hki:∀ k s,(k,s)∈ks->s=u->k≠i:=by
    rintro k s hm hsu rfl;have h1:=hbd k s hm hsu;rw[hii] at h1;simp only[U9,X7] at h1;exact(hcov hut k h1).2 rfl
   have hbd2:bads (λj=>listed.getD j false&&!(cov an (λj=>listed.getD j false) its u j)) ks u=false:=by
    rw[T4];intro k s hm hsu;have h1:=hbd k s hm hsu;have h2:=hki k s hm hsu;rw[getD_set_ne false (λe=>h2 e.symm)] at h1
    cases hd:listed.getD k false with
    | false=>rfl
    | true=>
     rw[hd] at h1;simp only[U9,X7] at h1 ⊢;exact(hcov hut k h1).1
   have hold:afts an (λj=>listed.getD j false) ks σ.env its u=some y/\y.albIn ids=false:=by
    unfold afts;rw[hbd2];simp only[d7]
    rcases B9 its u with hu|⟨k,dk,wk,hk⟩
    ·rw[P0 hu] at hy ⊢;exact⟨hy,(GM hE hy).resolve_right λh=>hki i u h rfl rfl⟩
    ·rw[O1 hnd hk] at hy ⊢;simp only[c9] at hy ⊢
     have hne:i≠k:=by
      rintro rfl;rw[hit] at hk;cases hk;exact hut rfl
     rw[getD_set_ne false hne] at hy;refine⟨hy, ?_⟩
     cases hd:listed.getD k false with
     | false=>
      rw[hd] at hy;exact(GM hE hy).resolve_right λh=>hki i u h rfl rfl
     | true=>
      rw[hd] at hy;simp only[m9] at hy
      cases wk with
      | false=>simp at hy;subst hy;simp[D.albIn]
      | true=>
       simp at hy;subst hy
       rcases EW hI hk with h|h|h
       ·exact h
       ·exact absurd rfl (hki i u h rfl)
       ·simp only[c9] at h;rw[hnot k (by rw[<- hsize];exact N4 hd) h] at hd;cases hd
   exact hg2 u y hki (hinv u y hold.1) hold.2
structure ItE(σ:Sg)(efs:Efs)(ops:List Oper)(an:List Nat)(ks:List (Nat×Nat))(its:List It):Prop where
 N:∃ N,TY N (slots its)=true
 len:its.length<=ops.length
 ref:PG an ks (slots its) its 0=true
 env:PH (slots its) σ.env=true
 ef:z38 an its.length efs=true
 alb:IV σ.env an ks its efs=true
def FR(σ:Sg)(efs:Efs)(listed:Array Bool)(τ:Sg):Prop:=∀ id,τ.box id=FL (λj=>listed.getD j false) id efs (lk σ.bx id)
theorem q26{efs:Efs}(H:ItE σ efs ops an ks its)(hall:AllE P C σ efs ops an ks kk its ops its 0)(hsub:subs kk ks=true)
 (hsize:listed.size=ops.length) {i:Nat} {oi:Oper} (hi:i<its.length) (ho:ops[i]? = some oi) (hun:listed.getD i true=false)
 (hanc:∀ j,j<ops.length->tb (nth an i) j=true->listed.getD j false=true) (hnot:∀ j,j<ops.length->tb (nth an j) i=true->listed.getD j false=false)
  (hs:St C τ a w) (hn:τ.n=σ.n) (hb:FR σ efs listed τ) (hinv:HE σ an ks its listed τ) {K:Act->World->Prop} {Q:Exit->Act->World->Prop}
 (hK:∀ a' w' τ',St C τ' a' w'->τ'.n=σ.n->FR σ efs (listed.setIfInBounds i true) τ'->HE σ an ks its (listed.setIfInBounds i true) τ'->K a' w') :
 Region.wanted oi (yielded ops.toArray a.tmps)=true/\oi.wpIn (Fx C) 3 P a w K Q∨Region.wanted oi (yielded ops.toArray a.tmps)=false/\K (a.put oi.dst undef) w:=by
 obtain⟨N,hN⟩:=H.N
 have HG:ItG ⟨N,σ.env,σ.bx⟩ ops an ks its:=⟨H.len,hN,H.ref,H.env⟩
 obtain⟨⟨t,d,wt⟩,hit⟩:∃ it,its[i]? = some it:=⟨its[i],j8 hi⟩
 obtain⟨o,ho',hcl⟩:=hall.at hit;rw[ho] at ho';cases ho';simp only[c9] at hcl;obtain⟨hin,hif⟩:=undone hun
 have hil:i<ops.length:=by rw[<- hsize];exact hin
 have hfact:∀ u x,facts an ks σ.env its i u=some x->τ.get u=some x:=OF HG hsize hi hun hanc hnot hinv;have hefl:∀ j l,(j,l)∈efs->j<ops.length:=λj l hm=>u0 (q67 H.ef j l hm) H.len
 have hbx:∀ id x,bxk an i id efs (lk σ.bx id)=some x->τ.box id=some x:=λid x hx=>by
  rw[hb id];exact u11 hif (λj l hm ht=>hanc j (hefl j l hm) ht) (λj l hm ht=>hnot j (hefl j l hm) ht) (λ_ h=>h) hx
 cases hef:lk efs i with
 | some l=>
  rw[hef] at hcl;simp only at hcl;obtain⟨hg,rfl,hdst,hsp⟩:=hcl;have hm:=FY hef;have halb:=q07 H.alb _ hm;simp only[u6] at halb
  have hfre:∀ id,x73 an σ.bx efs i id=true->τ.box id=none:=λid hf=>by
   unfold x73 at hf;simp only[u6,D5] at hf;rw[hb id,hf.1];refine RK λj l hm hs=>?_;have:=z61 hf.2 _ hm;simp only[Y2,D5] at this
   rcases this with (h|h)|h
   ·rw[m8 h];exact hif
   ·rw[h] at hs;cases hs
   ·exact hnot j (hefl j l hm) h
  obtain⟨τ',h1,h2,h3,h4⟩:=hsp τ hn hbx hfre hfact
  have hbn:∀ id,τ'.box id=FL (λj=>(listed.setIfInBounds i true).getD j false) id efs (lk σ.bx id):=λid=>by
   rw[h3 id,hb id];rw[<- x80 (f:=λj=>listed.getD j false) hif H.ef hm (λj l hm ht=>hnot j (hefl j l hm) ht)];refine GE λj l hm _=>?_;by_cases hji:j=i
   ·subst hji;simp[hin]
   ·rw[getD_set_ne false (λe=>hji e.symm),nbeq hji,Bool.or_false]
  refine .inl ⟨XZ hg _,h1 a w hs _ _ λa' w' hs'=>?_⟩;unfold u05 at hdst
  cases hd:oi.dst with
  | none=>
   rw[hd] at hdst hs';exact hK a' w' _ hs' (h2.trans hn) hbn (VU HG hsize hit hun hanc hnot halb.1 halb.2 (BD hdst) hinv τ' h4)
  | some t'=>
   rw[hd] at hdst hs';exact hK a' w' _ hs' (h2.trans hn) hbn (KQ HG hsize hit hun hnot halb.1 halb.2 hinv d rfl τ' h4)
 | none=>
  rw[hef] at hcl;simp only at hcl;obtain⟨hdst,htn0,hwt,hop⟩:=hcl
  have htn:t<τ.n:=by rw[hn];exact htn0
  have hEi:QD [] ks i σ.env=true:=NF _;have hIi:∀ j,QH [] an ks i its j=true:=λj=>NE _ j
  have hbn:∀ τ':Sg,τ'.bx=τ.bx->FR σ efs (listed.setIfInBounds i true) τ':=λτ' hbb id=>by
   have:τ'.box id=τ.box id:=by simp only[Sg.box,hbb]
   rw[this,hb id];refine GE λj l hm _=>?_;rw[getD_set_ne false];rintro rfl;have:=x48 hm;rw[hef] at this;cases this
  rw[hwt.ok hs hfact];have hkn:=LH τ kk i
  cases hwt2:wt with
  | false=>
   refine .inr ⟨rfl, ?_⟩;rw[hdst];exact hK _ _ _ (hs.unwanted htn) hn (hbn _ rfl) (KQ HG hsize hit hun hnot hEi (hIi 0) hinv (.tup []) (by rw[hwt2];rfl) τ (λu y _ h _=>h))
  | true=>
   refine .inl ⟨rfl,hop hwt2 τ hbx htn hfact a w hs _ _ λa' w' hs'=>?_⟩;exact hK _ _ _ hs' (hkn.1.trans hn) (hbn _ hkn.2) (KQ HG hsize hit hun hnot hEi (hIi 0) hinv d (by rw[hwt2];rfl) _ (λu y hu hy _=>(BU (λk s hm=>hu k s (IA hsub k s hm))).trans hy))
theorem q28{efs:Efs}(hA:YU ops an its.length=true)(H:ItE σ efs ops an ks its)(hall:AllE P C σ efs ops an ks kk its ops its 0)(hsub:subs kk ks=true)
   (hE:picks (afts an (λ_=>true) ks σ.env its) live=env') {nd:Nat} (hb1:u89 nd (RR efs σ.bx)=bx1)
 (hT:TL P C Q (ops.drop its.length) ⟨σ.n,env',bx1⟩):∀ (fuel:Nat) (listed:Array Bool) (a:Act) (w:World) (τ:Sg),Cl ops listed->listed.toList.count false<=fuel ->
 (∀ j,its.length<=j->j<ops.length->listed.getD j true=false)->St C τ a w->τ.n=σ.n->FR σ efs listed τ->HE σ an ks its listed τ ->
 wpAnyIn (Fx C) 3 P .any ops.toArray (λe a' w'=>∃ σ',St C σ' a' w'/\Q e σ') fuel listed a w:=by
 obtain⟨N,hN⟩:=H.N;have hefl:∀ j l,(j,l)∈efs->j<its.length:=λj l hm=>q67 H.ef j l hm
 have fin:∀ (listed:Array Bool) (a:Act) (w:World) (τ:Sg),(∀ j,j<its.length->listed.getD j false=true)->St C τ a w->τ.n=σ.n->FR σ efs listed τ->HE σ an ks its listed τ ->
  St C ⟨σ.n,env',bx1⟩ a w:=by
  intro listed a w τ hall' hs hn hb hinv
  have hbb:∀ id,lk bx1 id=τ.box id:=λid=>by
   rw[<- hb1,w85,w86,hb id];exact GE λj l hm _=>(hall' j (hefl j l hm)).symm
  refine(hs.rebox hbb).weaken hn.symm rfl λt d hd=>hinv t d ?_;have:=l5 (f:=afts an (λ_=>true) ks σ.env its) (l:=live) (by rw[hE];exact hd);unfold afts at this ⊢
  cases hb:bads (λk=>true&&!(cov an (λ_=>true) its t k)) ks t with
  | true=>rw[hb] at this;cases this
  | false=>
   rw[hb] at this;rw[GU (λj dj wj hj=>hall' j (z8.1 hj).1) hb];simp only[d7] at this ⊢
   rcases B9 its t with hu|⟨k,dk,wk,hk⟩
   ·rw[P0 hu] at this ⊢;exact this
   ·rw[O1 (T2 hN).1 hk] at this ⊢;simp only[c9] at this ⊢;rw[hall' k (z8.1 hk).1];exact this
 intro fuel
 induction fuel with
 | zero=>
  intro listed a w τ hc hf h2 hs hn hb hinv;by_cases hall':∀ j,j<its.length->listed.getD j false=true
  ·exact JH hA _ its.length 0 listed a w ⟨σ.n,env',bx1⟩ rfl (z7 _) H.len hc hf hall' h2 (fin listed a w τ hall' hs hn hb hinv) hT
  ·exfalso;apply hall';intro j hj;have:=UA (listed:=listed) (by omega) j
   have hjl:j<listed.size:=by rw[hc.size];have:=H.len;omega
   simp[hjl] at this ⊢;exact this
 | succ fuel ih=>
  intro listed a w τ hc hf h2 hs hn hb hinv;by_cases hall':∀ j,j<its.length->listed.getD j false=true
  ·exact JH hA _ its.length (fuel+1) listed a w ⟨σ.n,env',bx1⟩ rfl (z7 _) H.len hc hf hall' h2 (fin listed a w τ hall' hs hn hb hinv) hT
  ·have hsome:∃ j,j<its.length/\listed.getD j true=false:=by
    rcases C6.1 hall' with ⟨j,hj⟩
    rcases G7.1 hj with ⟨hj1,hj2⟩
    refine⟨j,hj1, ?_⟩
    have hjl:j<listed.size:=by rw[hc.size];have:=H.len;omega
    simp[hjl] at hj2 ⊢;exact hj2
   have key:∀ n j,j=n->j<its.length->listed.getD j true=false->∃ k,k∈Region.ready .any ops.toArray listed:=by
    intro n
    induction n using Nat.strongRecOn with
    | _ n ihn=>
     intro j hjn hj hu;have hjl:j<ops.length:=u0 hj H.len;have ho:ops[j]? = some ops[j]:=j8 hjl;by_cases hr:∀ e∈ops[j].after,Region.binds .any e=true->listed.getD e.on false=true
     ·exact⟨j,mem_ready.2 ⟨hu,_,by simp,hr⟩⟩
     ·rcases C6.1 hr with ⟨e,he⟩
      rcases G7.1 he with ⟨he1,he2⟩
      rcases G7.1 he2 with ⟨he3,he4⟩
      have hlt:=(I9 hA ho).1 e he1 he3;refine ihn e.on (by omega) e.on rfl (by omega) ?_
      have hel:e.on<listed.size:=by rw[hc.size];omega
      simp[hel] at he4 ⊢;exact he4
   obtain⟨j0,hj0,hu0⟩:=hsome;refine⟨λhr=>?_,λi hi=>?_⟩
   ·obtain⟨k,hk⟩:=key j0 j0 rfl hj0 hu0;rw[hr] at hk;cases hk
   ·obtain⟨h3,oi,h4,h5⟩:=mem_ready.1 hi
    have ho:ops[i]? = some oi:=by simpa using h4
    have hil:i<ops.length:=(z8.1 ho).1
    have him:i<its.length:=by
     rcases X9 i its.length with h|h
     ·exact h
     ·exfalso;obtain⟨_,h9⟩:=I9 hA ho;have hj0l:j0<ops.length:=u0 hj0 H.len;obtain⟨h10,h11⟩:=h9 j0 hj0l;obtain⟨e,he,hb,h12⟩:=h10 (h11 h (by omega));have hd:=h5 e he hb
      have hkd:listed.getD j0 false=true:=by
       rcases h12 with rfl|h12
       ·exact hd
       ·exact hc.anc hA e.on (by rw[<- hc.size];exact N4 hd) hd j0 hj0l h12
      rw[(undone hu0).2] at hkd;cases hkd
    have hspc:=(I9 hA ho).2;have hif:=(undone h3).2
    have hanc:∀ j,j<ops.length->tb (nth an i) j=true->listed.getD j false=true:=by
     intro j hj ht;obtain⟨e,he,hb,h1⟩:=(hspc j hj).1 ht;have hd:=h5 e he hb
     rcases h1 with rfl|h1
     ·exact hd
     ·exact hc.anc hA e.on (by rw[<- hc.size];exact N4 hd) hd j hj h1
    have hnot:∀ j,j<ops.length->tb (nth an j) i=true->listed.getD j false=false:=by
     intro j hj ht
     cases hd:listed.getD j false with
     | false=>rfl
     | true=>have:=hc.anc hA j hj hd i hil ht;rw[hif] at this;cases this
    suffices hK:∀ a' w' τ',St C τ' a' w'->τ'.n=σ.n->FR σ efs (listed.setIfInBounds i true) τ'->HE σ an ks its (listed.setIfInBounds i true) τ'->wpAnyIn (Fx C) 3 P .any ops.toArray (λe a' w'=>∃ σ',St C σ' a' w'/\Q e σ') fuel (listed.setIfInBounds i true) a' w' by
     unfold Go.wpOpIn;simp only[h4]
     rcases q26 H hall hsub hc.size him ho h3 hanc hnot hs hn hb hinv hK with ⟨e1,e2⟩|⟨e1,e2⟩
     ·simp only[e1,j9];exact e2
     ·simp only[e1,q7,q8];exact⟨λ_ _=>trivial,e2⟩
    intro a' w' τ' hs' hn' hb' hinv';refine ih _ a' w' τ' (hc.set ho h5) (by have:=count_set h3;omega) (λj hj hjl=>?_) hs' hn' hb' hinv';rw[getD_set_ne true (by omega)];exact h2 j hj hjl
theorem s6{id n' nd:Nat}{efs:Efs}(hm:P.follows .mixedOrders=true)(hA0:YU ops an m=true)(hlen:its.length=m)
 (H:ItE σ efs ops an ks its) (hall:AllE P C σ efs ops an ks kk its ops its 0) (hsub:subs kk ks=true)
   (hE:picks (afts an (λ_=>true) ks σ.env its) live=env') (hb1:u89 nd (RR efs σ.bx)=bx1)
 (hn:σ.n=n') (hT:TL P C Q (ops.drop its.length) ⟨n',env',bx1⟩):W P C (.region id ops.toArray true) Q σ:=by
 intro a w hs;refine wpIn_region_any hm ?_
 have hgd:∀ k,(Array.replicate ops.toArray.size false).getD k false=false:=by
  intro k;simp only[v9,C4]
  split<;>rfl
 have hc:Cl ops (Array.replicate ops.toArray.size false):=⟨by simp,λi o _ hd=>by rw[hgd] at hd;cases hd⟩
 have hA:YU ops an its.length=true:=by rw[hlen];exact hA0
 obtain⟨N,hN⟩:=H.N;subst hn;refine q28 hA H hall hsub hE hb1 hT _ _ a _ σ hc ?_ ?_ (hs.ext (Ext.drew w)) rfl ?_ (λu x hx=>?_)
 ·simp
 ·intro j _ hj;simp[hj]
 ·exact λid=>(RK λj l _ _=>hgd j).symm
 ·unfold afts at hx;generalize hb:bads _ ks u=bb at hx
  cases bb with
  | true=>cases hx
  | false=>
   simp only[d7] at hx
   rcases B9 its u with hu|⟨k,dk,wk,hk⟩
   ·rw[P0 hu] at hx;exact hx
   ·rw[O1 (T2 hN).1 hk,hgd] at hx;exact hx
theorem SpE.alloc{efs:Efs}{i t:TypeId}{d:D}[hZ:ZrT P ty d](hf:x73 an σ.bx efs i t=true)(ht:t<σ.n) :
 SpE P C σ efs i [(t,.var d)] an ks its ⟨some t,.alloc ty,rt,pos,aft,none⟩ t (.ptr t 0 []):=by
 intro τ hn hb hfr hfa;refine⟨τ.newB t (.var d),R.alloc (hfr t hf) (by rw[hn];exact ht),rfl,λid=>?_,λu y _ hy _=>hy⟩;rw[JS];by_cases hid:t=id
 ·subst hid;simp[lk]
 ·simp[lk,hid,nbeq hid]
theorem FT{id:Nat}{x y:Bx}(h:τ.box id=some y)(i:Nat):(τ.putB id x).box i=match lk [(id,x)] i with|some z=>some z|none=>τ.box i:=by
 rw[UK];by_cases hi:i=id
 ·subst hi;simp[lk,h]
 ·simp[lk,hi,nbeq (show ¬ id=i from λe=>hi e.symm)]
theorem JW{efs:Efs}{i t p id:Nat}{d:D}{x:Operand}{d1 d':D}{n:TypeId}[LdT P ty n gg]
 (hp:facts an ks σ.env its i p=some (.ptr id off path)) (hb:bxk an i id efs (lk σ.bx id)=some (.var d0)) (hl:d0.loc path=some (off,d1))
 (hx:∀ τ:Sg,(∀ u x,facts an ks σ.env its i u=some x->τ.get u=some x)->ev C.gl τ x=some dx) (hpu:dx.pur=true) (hnp:dx.np=true)
 (hn:dx.sz=n) (hz:d1.sz=n) (hu:d0.upd path dx=some d') :
 SpE P C σ efs i [(id,.var d')] an ks its ⟨none,.store ty (.tmp p) x,rt,pos,aft,none⟩ t d:=by
 intro τ hn' hbk hfr hfa;have hbx:=hbk _ _ hb;refine⟨τ.putB id (.var d'),R.st (hfa _ _ hp) hbx hl (hx τ hfa) hpu hnp hn (hn.trans hz.symm) hu,rfl,FT hbx,λu y _ hy ha=>?_⟩;rw[e8,hy,Y1,UM ha]
theorem WZ{efs:Efs}{c:Nat}{s id t e z bytes:Nat}{d0':D}{x:Operand}{l l' l2:List D}[hT:SlT P ty e][hE:ElT P e z bytes]
 (hs:facts an ks σ.env its c s=some (.alb id off path)) (hb:bxk an c id efs (lk σ.bx id)=some (.var d0)) (hl:d0.loc path=some (off,.sl (some e) z l)) (hna:d0.noArr path=true) (hu:d0.upd path .dead=some d0')
 (hx:∀ τ:Sg,(∀ i x,i≠id->bxk an c i efs (lk σ.bx i)=some x->τ.box i=some x)->(∀ u x,facts an ks σ.env its c u=some x->x.albIn [id]=false->Nat.beq u s=false->τ.get u=some x)->SrcO C.gl τ x z l')
 (he:l++l'=l2) (hn:l.length+l'.length<=1073741824) (hst:s≠t) (hby:bytes<=131072) (hk:has ks c s=true) (ht:t<σ.n) :
 SpE P C σ efs c [(id,.var d0')] an ks its ⟨some t,.call { callee:=.builtin .append,args:=#[.tmp s,x],argTypes:=#[ty,ty] },rt,pos,aft,none⟩ t (.sl (some e) z l2):=by
 intro τ hτn hbk hfr hf;have hbτ:=hbk _ _ hb
 have hget:∀ u,((τ.putB id (.var d0')).upd s (.sl (some e) z l)).get u=if u=s then some (.sl (some e) z l) else(τ.get u).map (ZQ id):=λu=>by
  rw[JQ,e8];by_cases hus:u=s
  ·subst hus;simp[hf _ _ hs]
  ·simp[hus]
 have hbx2:∀ i,((τ.putB id (.var d0')).upd s (.sl (some e) z l)).box i=(τ.putB id (.var d0')).box i:=λi=>rfl;refine⟨((τ.putB id (.var d0')).upd s (.sl (some e) z l)).kill s,CM (hf _ _ hs) hbτ hl hna hu rfl (by rw[hget];simp) (hx _ (λi x hi hix=>?_) (λu x hux ha hus=>?_)) he hn (by rw[hτn];exact ht) hst hby,rfl,λi=>?_,λu y hk' hy ha=>?_⟩
 ·rw[hbx2,UK,w3 hi];exact hbk i x hix
 ·rw[hget,hf _ _ hux]
  have:¬ u=s:=λe=>by subst e;simp at hus
  simp[this,UM ha]
 ·exact FT hbτ i
 ·rw[JE,hget,hy];have:¬ u=s:=λe=>hk' c s (BD hk) e.symm rfl;have ha':y.albIn [id]=false:=ha;simp[this,UM ha']
end
theorem PV{z:Nat}:∀ (l:List D),(∀ x∈l,x.sz=z)->N6 l=l.length*z:=by
 intro l
 induction l with
 | nil=>intro _;simp
 | cons x r ih=>
  intro h;simp only[S1,j3];rw[h x (by simp),ih (λy hy=>h y (j1 _ hy)),v7,l9,W5]
theorem NL{z:Nat}(l r:List D)(h:∀ x∈l,x.sz=z)(k:Nat)(hk:k<=l.length):offk (l++r) k=k*z:=by
 unfold offk;rw[G5 hk,PV (l.take k) (λx hx=>h x (Q0 hx)),v5,n6 hk]
theorem z40{z:Nat}(l:List D)(h:∀ x∈l,x.sz=z)(m j:Nat)(hj:j<=m):offk (l++List.replicate m .dead) (l.length+j)=l.length*z+j:=by
 unfold offk;rw[List.take_append,m4 (by omega),HX,PV l h]
 have:l.length+j-l.length=j:=by omega
 rw[this,List.take_replicate,n6 hj,YP]
theorem Rc.open{e z:Nat}{l:List D}(h:Rc w ρ G L true (.sl (some e) z l) [v] F)(hne:l≠[])(hF:F.Nodup) :
 ∃ b csb cap F1,v=.slice (some ⟨b,0,none⟩) l.length cap/\w.heap[b]? = some (.cells csb e (0,0))/\l.length<=cap/\cap<=maxLen/\(b::F1).Nodup/\(∀ y∈b::F1,y∈F) /\
  Rc w ρ G L true (.agg (l++List.replicate ((cap-l.length)*z) .dead)) csb.toList F1:=by
 generalize hv:[v]=cv at h
 cases h with
 | slN=>exact absurd rfl hne
 | slE=>exact absurd rfl hne
 | slO b cs e cap z l Fs hb hc hm hs ho hr=>
  cases hv;obtain⟨hn1,hn2⟩:=v3.1 hF;obtain⟨hn3,hn4⟩:=l7 hn2
  have hlz:l.length*z<=cs.size:=by rw[hs];exact w6 z hc
  have hsz:∀ x∈l,x.sz=z:=by
   intro x hx;obtain⟨i,hi,rfl⟩:=Q2.1 hx;rw[<- (hr i hi).len];have:=w6 z (show i+1<=l.length by omega);rw[v7] at this;simp;omega
  have hcap:(cap-l.length)*z=cap*z-l.length*z:=Nat.sub_mul _ _ _
  let m:=(cap-l.length)*z
  refine⟨b,cs,cap,(List.range (l++List.replicate m D.dead).length).flatMap (λk=>if k<l.length then Fs k else[]),rfl,hb,hc,hm, ?_, ?_, ?_⟩
  ·refine v3.2 ⟨λhm'=>hn1 ?_,N7 (λi hi=>?_) (λi j hi hj hij y hy hy'=>?_)⟩
   ·obtain⟨i,_,hx⟩:=w8.1 hm';by_cases hil:i<l.length
    ·simp only[hil,j9] at hx;exact w8.2 ⟨i,j7.2 hil,hx⟩
    ·simp[hil] at hx
   ·by_cases hil:i<l.length
    ·simp only[hil,j9];exact hn3 i hil
    ·simp[hil]
   ·by_cases hil:i<l.length
    ·by_cases hjl:j<l.length
     ·simp only[hil,hjl,j9] at hy hy';exact hn4 i j hil hjl hij y hy hy'
     ·simp[hjl] at hy'
    ·simp[hil] at hy
  ·intro y hy
   rcases w5.1 hy with rfl|hy
   ·simp
   ·obtain⟨i,_,hx⟩:=w8.1 hy;by_cases hil:i<l.length
    ·simp only[hil,j9] at hx;exact j1 _ (w8.2 ⟨i,j7.2 hil,hx⟩)
    ·simp[hil] at hx
  ·refine .agg _ _ _ ?_ (λk hk=>?_)
   ·rw[HX,PV l hsz,YP];simp only[p6,m];omega
   ·by_cases hkl:k<l.length
    ·simp only[o0 hkl,hkl,j9];rw[NL l _ hsz k (by omega),hsz _ (g6 hkl)];exact(hr k hkl).flag
    ·have hk':k<l.length+m:=by simpa using hk
     obtain⟨j,rfl⟩:∃ j,k=l.length+j:=⟨k-l.length,by omega⟩
     simp only[hkl,q8];rw[K1 (by omega),I6,z40 l hsz m j (by omega)]
     have hjl:l.length*z+j<cs.toList.length:=by simp only[p6,m] at hk' ⊢;omega
     have:(cs.toList.drop (l.length*z+j)).take 1=[cs.toList[l.length*z+j]]:=by
      rw[p8 hjl];rfl
     show Rc w ρ G L true .dead ((cs.toList.drop (l.length*z+j)).take 1) [];rw[this];exact .dead _ (ho _ (g6 hjl))
theorem j77{id id0 e z:Nat}{l:List D}{d1:D}{d2:Nat->D}(hb0:σ.box id0=some (.var d0))(hl:d0.loc path=some (off,.sl (some e) z l))(hna:d0.noArr path=true)(hu:d0.upd path .dead=some d1)
 (hl1:d1.loc path=some (off,.dead)) (hna1:d1.noArr path=true) (hu1:∀ cap,d1.upd path (.bs id z l.length cap)=some (d2 cap)) (hne:l≠[]) (hid:σ.box id=none) (hs:St C σ a w) :
 ∃ cap,l.length<=cap/\cap<=maxLen/\St C ⟨σ.n,σ.env,(id,.var (.agg (l++List.replicate ((cap-l.length)*z) .dead)))::setb id0 (.var (d2 cap)) σ.bx⟩ a w:=by
 obtain⟨ρ,Fe,Fb,st⟩:=hs;obtain⟨cs,e0,F',q1,q2,q3⟩:=st.bx id0 _ hb0
 have hnd:(ρ id0::F').Nodup:=by have:=st.nodB id0;rw[q3] at this;exact this
 obtain⟨hn1,hn2⟩:=v3.1 hnd;obtain⟨v,F1,F2,t1,t2,t3,t4,t5,t6,t7,t8,t9⟩:=q2.take hl hna hu hn2
 obtain⟨b,csb,cap,F3,rfl,o2,o3,o4,o5,o6,o7⟩:=t2.open hne t6
 have hii:id≠id0:=by rintro rfl;rw[hb0] at hid;cases hid
 have hbox:∀ i,(⟨σ.n,σ.env,(id,.var (.agg (l++List.replicate ((cap-l.length)*z) .dead)))::setb id0 (.var (d2 cap)) σ.bx⟩:Sg).box i=if i=id then some (.var (.agg (l++List.replicate ((cap-l.length)*z) .dead))) else if i=id0 then some (.var (d2 cap)) else σ.box i:=λi=>by
  show lk (_::_) i=_;rw[U2,DN];by_cases h1:i=id
  ·simp[h1]
  ·simp only[h1,show ¬ id=i from λe=>h1 e.symm,q8];by_cases h2:i=id0
   ·subst h2;have:lk σ.bx i=some (.var d0):=hb0;simp[this]
   ·simp[h2];rfl
 have hρ:∀ i,(σ.box i).isSome=true->(((⟨σ.n,σ.env,(id,.var (.agg (l++List.replicate ((cap-l.length)*z) .dead)))::setb id0 (.var (d2 cap)) σ.bx⟩:Sg).box i).isSome=true/\HK ρ id b i=ρ i):=λi hi=>by
  have h1:i≠id:=by rintro rfl;rw[hid] at hi;cases hi
  refine⟨?_,QU h1⟩;rw[hbox,w3 h1];by_cases h2:i=id0
  ·simp[h2]
  ·simpa [h2] using hi
 have hmo0:∀ {d:D} {cs:List Value} {F:List Nat},Rc w ρ (gd C Fe Fb) (λi=>(σ.box i).isSome=true) true d cs F ->
  Rc w (HK ρ id b) (gd C Fe Fb) (λi=>((⟨σ.n,σ.env,(id,.var (.agg (l++List.replicate ((cap-l.length)*z) .dead)))::setb id0 (.var (d2 cap)) σ.bx⟩:Sg).box i).isSome=true) true d cs F:=
  λh=>h.mono (λ_ _ _=>rfl) (λy hy _=>hy) hρ
 have hoff:off<cs.toList.length:=(z8.1 t1).1;have hv:cs.toList[off]=.slice (some ⟨b,0,none⟩) l.length cap:=(z8.1 t1).2
 have hbsv:Rc w (HK ρ id b) (gd C Fe Fb) (λi'=>((⟨σ.n,σ.env,(id,.var (.agg (l++List.replicate ((cap-l.length)*z) .dead)))::setb id0 (.var (d2 cap)) σ.bx⟩:Sg).box i').isSome=true) true (.bs id z l.length cap) [.slice (some ⟨b,0,none⟩) l.length cap] []:=by
  have:=Rc.bs (w:=w) (ρ:=HK ρ id b) (G:=gd C Fe Fb) (L:=λi'=>((⟨σ.n,σ.env,(id,.var (.agg (l++List.replicate ((cap-l.length)*z) .dead)))::setb id0 (.var (d2 cap)) σ.bx⟩:Sg).box i').isSome=true) id z l.length cap (by rw[hbox];simp) o3
  rwa [GB] at this
 obtain⟨F4,r1,r2,r3,_,_⟩:=(hmo0 t3).updP hl1 (hu1 cap) rfl hbsv t7 w9 (by simp) hna1
 have hcs:cs.toList.take off++[Value.slice (some ⟨b,0,none⟩) l.length cap]++cs.toList.drop (off+1)=cs.toList:=by
  rw[<- hv,u5,List.singleton_append,<- p8 hoff,K9]
 simp only[Q5] at r1;rw[hcs] at r1;have r2':∀ y∈F4,y∈F2:=λy hy=>(r2 y hy).resolve_right (by simp)
 -- who owns what
 let Fb':Nat->List Nat:=upd (upd Fb id0 (ρ id0::F4)) id (b::F3)
 have hF2:∀ y∈ρ id0::F4,y∈Fb id0:=λy hy=>by
  rw[q3];rcases w5.1 hy with rfl|hy
  ·simp
  ·exact j1 _ (t5 y (r2' y hy))
 have hF3:∀ y∈b::F3,y∈Fb id0:=λy hy=>by rw[q3];exact j1 _ (t4 y (o6 y hy))
 have hF23:∀ y∈b::F3,y∉ρ id0::F4:=λy hy hy'=>by
  rcases w5.1 hy' with rfl|hy'
  ·exact hn1 (t4 _ (o6 _ hy))
  ·exact t8 y (o6 y hy) (r2' y hy')
 have hsub:∀ i,∀ y∈Fb' i,(i=id∨i=id0)/\y∈Fb id0∨(i≠id/\i≠id0/\y∈Fb i):=λi y hy=>by
  by_cases h1:i=id
  ·subst h1;simp only[Fb',c7] at hy;exact .inl ⟨.inl rfl,hF3 y hy⟩
  ·simp only[Fb',j2 h1] at hy;by_cases h2:i=id0
   ·subst h2;rw[c7] at hy;exact .inl ⟨.inr rfl,hF2 y hy⟩
   ·rw[j2 h2] at hy;exact .inr ⟨h1,h2,hy⟩
 have hown:∀ y,own Fe Fb' y->own Fe Fb y:=λy hy=>hy.imp (λh=>h) λ⟨i,hi⟩=>by
  rcases hsub i y hi with ⟨_,h⟩|⟨_,_,h⟩
  ·exact⟨id0,h⟩
  ·exact⟨i,h⟩
 have hg:∀ y,gd C Fe Fb y->gd C Fe Fb' y:=λy hy=>⟨hy.1,λhc=>hy.2 (hown y hc)⟩
 have hmo:∀ {d:D} {cs:List Value} {F:List Nat},Rc w ρ (gd C Fe Fb) (λi=>(σ.box i).isSome=true) true d cs F ->
  Rc w (HK ρ id b) (gd C Fe Fb') (λi=>((⟨σ.n,σ.env,(id,.var (.agg (l++List.replicate ((cap-l.length)*z) .dead)))::setb id0 (.var (d2 cap)) σ.bx⟩:Sg).box i).isSome=true) true d cs F:=
  λh=>h.mono (λ_ _ _=>rfl) (λy hy _=>hg y hy) hρ
 refine⟨cap,o3,o4,HK ρ id b,Fe,Fb',{
  size:=st.size
  defs:=st.defs
  pin:=λi y hp=>?_
  env:=λu d hd=>z20 (st.env u d hd) (λ_ _ _=>rfl) (λy hy _=>hg y hy) hρ (λ_ _ _ _ _=>rfl)
  envN:=λu hu=>st.envN u hu
  bx:=λi x hx=>?_
  bxN:=λi hx=>?_
  nodE:=st.nodE
  nodB:=λi=>?_
  dEE:=st.dEE
  dEB:=λu i y h1 h2=>?_
  dBB:=λi i' hne y h1 h2=>?_
  new:=λy hy=>st.new y (hown y hy)
  kept:=st.kept
  os:=st.os
  tape:=⟨st.tape.tp,st.tape.dr⟩
  output:=st.output
  grown:=st.grown
  gl:=st.gl
  okN:=st.okN
  okO:=λy hy=>st.okO y (hown y hy) }⟩
 ·have:=hρ i (st.pin i y hp).2;exact⟨this.2.trans (st.pin i y hp).1,this.1⟩
 ·rw[hbox] at hx;by_cases h1:i=id
  ·subst h1;simp only[j9,z6] at hx;subst hx;refine⟨csb,e,F3, ?_,hmo o7, ?_⟩
   ·rw[GB];exact o2
   ·simp only[Fb',c7,GB]
  ·simp only[h1,q8] at hx;by_cases h2:i=id0
   ·subst h2;simp only[j9,z6] at hx;subst hx;refine⟨cs,e0,F4, ?_,r1.mono (λ_ _ _=>rfl) (λy hy _=>hg y hy) (λi hi=>⟨hi,rfl⟩), ?_⟩
    ·rw[QU h1];exact q1
    ·simp only[Fb',j2 h1,c7,QU h1]
   ·simp only[h2,q8] at hx;simp only[Fb',j2 h1,j2 h2,QU h1];exact(st.bx i x hx).mono (λ_ _ _=>rfl) (λy hy _=>hg y hy) hρ
 ·rw[hbox] at hx;by_cases h1:i=id
  ·simp[h1] at hx
  ·simp only[h1,q8] at hx;by_cases h2:i=id0
   ·simp[h2] at hx
   ·simp only[h2,q8] at hx;simp only[Fb',j2 h1,j2 h2];exact st.bxN i hx
 ·by_cases h1:i=id
  ·subst h1;simp only[Fb',c7];exact o5
  ·simp only[Fb',j2 h1];by_cases h2:i=id0
   ·subst h2;rw[c7];exact v3.2 ⟨λhm=>hn1 (t5 _ (r2' _ hm)),r3⟩
   ·rw[j2 h2];exact st.nodB i
 ·rcases hsub i y h2 with ⟨_,h⟩|⟨_,_,h⟩
  ·exact st.dEB u id0 y h1 h
  ·exact st.dEB u i y h1 h
 ·by_cases h3:i=id
  ·subst h3;simp only[Fb',c7] at h1;simp only[Fb',j2 (λe=>hne e.symm)] at h2;by_cases h4:i'=id0
   ·subst h4;rw[c7] at h2;exact hF23 y h1 h2
   ·rw[j2 h4] at h2;exact st.dBB id0 i' (λe=>h4 e.symm) y (hF3 y h1) h2
  ·simp only[Fb',j2 h3] at h1;by_cases h5:i'=id
   ·subst h5;simp only[Fb',c7] at h2;by_cases h4:i=id0
    ·subst h4;rw[c7] at h1;exact hF23 y h2 h1
    ·rw[j2 h4] at h1;exact st.dBB i id0 h4 y h1 (hF3 y h2)
   ·simp only[Fb',j2 h5] at h2;by_cases h4:i=id0
    ·subst h4;rw[c7] at h1;rw[j2 (λe=>hne e.symm)] at h2;exact st.dBB i i' hne y (hF2 y h1) h2
    ·rw[j2 h4] at h1;by_cases h6:i'=id0
     ·subst h6;rw[c7] at h2;exact st.dBB i i' h4 y h1 (hF2 y h2)
     ·rw[j2 h6] at h2;exact st.dBB i i' hne y h1 h2
theorem z12{c:Code}(id id0:Nat)(path:List Nat){e z:Nat}{l:List D}{d1:D}{d2:Nat->D}(hb0:σ.box id0=some (.var d0))(hl:d0.loc path=some (off,.sl (some e) z l))(hna:d0.noArr path=true)(hu:d0.upd path .dead=some d1)
 (hl1:d1.loc path=some (off,.dead)) (hna1:d1.noArr path=true) (hu1:∀ cap,d1.upd path (.bs id z l.length cap)=some (d2 cap)) (hne:l≠[]) (hid:σ.box id=none) {bx':Nat->List (Nat×Bx)} (hbx:∀ cap,setb id0 (.var (d2 cap)) σ.bx=bx' cap)
 (k:∀ cap m:Nat,l.length<=cap->cap<=maxLen->m=(cap-l.length)*z->W P C c Q ⟨σ.n,σ.env,(id,.var (.agg (l++List.replicate m .dead)))::bx' cap⟩):W P C c Q σ:=by
 intro a w hs;obtain⟨cap,h1,h2,h3⟩:=j77 hb0 hl hna hu hl1 hna1 hu1 hne hid hs;rw[hbx] at h3;exact k cap _ h1 h2 rfl a w h3
theorem j76{id id0 z n cap:Nat}{l:List D}{d0':D}{ids:List Nat}(hb0:σ.box id0=some (.var d0))(hb:σ.box id=some (.var (.agg (l++List.replicate m .dead))))(hii:id0≠id)
 (hl:d0.loc path=some (off,.bs id z n cap)) (hna:d0.noArr path=true) (hu:d0.upd path (.sl none z l)=some d0') (hn:l.length=n)
 (hp:∀ x∈l,x.pur=true) (hnp:∀ x∈l,x.np=true) (hz:∀ x∈l,x.sz=z) (hE:QG ids σ.env=true) (hkeep:M9 ids (setb id0 (.var d0') σ.bx)=bx') (hoB:PL ids bx'=true) (hid:K2 ids id=false)
 (hpn:∀ id b,C.pin id=some b->K2 ids id=true) (hs:St C σ a w):St C ⟨σ.n,σ.env,bx'⟩ a w:=by
 subst hn;obtain⟨ρ,Fe,Fb,st⟩:=hs;obtain⟨cs,e0,F',q1,q2,q3⟩:=st.bx id0 _ hb0;obtain⟨csb,e1,F1,p1,p2,p3⟩:=st.bx id _ hb
 have hnd:(ρ id0::F').Nodup:=by have:=st.nodB id0;rw[q3] at this;exact this
 obtain⟨hn1,hn2⟩:=v3.1 hnd
 have hbl:∀ u,lk bx' u=if K2 ids u then(if u=id0 then some (.var d0') else σ.box u) else none:=λu=>by
  rw[<- hkeep,l6];by_cases h1:K2 ids u=true
  ·simp only[h1,j9,DN];by_cases h2:u=id0
   ·subst h2;have:lk σ.bx u=some (.var d0):=hb0;simp[this]
   ·simp[h2];rfl
  ·simp[h1]
 have hLb:∀ i,(K2 ids i=true/\(σ.box i).isSome=true)->(lk bx' i).isSome=true:=λi ⟨h1,h2⟩=>by
  rw[hbl,u4 h1];by_cases h3:i=id0<;>simp[h3,h2]
 -- the block of box id may be read,and what box id0 holds
 let G0:Nat->Prop:=λy=>gd C Fe Fb y∨y=ρ id
 have hid_in:ρ id∈Fb id:=by rw[p3];simp
 obtain⟨F5,u1,u2,u3⟩:=q2.loc hl
 have hval:∃ v,(cs.toList.drop off).take 1=[v]/\v=Value.slice (some ⟨ρ id,0,none⟩) l.length cap/\l.length<=cap:=by
  generalize hcc:(cs.toList.drop off).take (D.bs id z l.length cap).sz=cc at u1
  cases u1 with
  | bs _ _ _ _ hL hc=>exact⟨_,hcc,rfl,hc⟩
 obtain⟨v,hv1,hv2,hcap⟩:=hval;subst hv2
 have hoff:off<cs.toList.length:=by
  have:off+(D.bs id z l.length cap).sz<=cs.toList.length:=u3;simp[D.sz] at this;simp;omega
 have hv:cs.toList[off]=.slice (some ⟨ρ id,0,none⟩) l.length cap:=by
  rw[p8 hoff] at hv1;simpa using hv1
 have hszl:=PV l hz
 have hclen:csb.toList.length=l.length*z+m:=by rw[p2.len,JM,HX,hszl,YP]
 have hsl:Rc w ρ G0 (λi=>(σ.box i).isSome=true) true (.sl none z l) [.slice (some ⟨ρ id,0,none⟩) l.length cap] []:=by
  refine .slI (ρ id) 0 csb e1 (0,0) cap z l p1 (.inr rfl) hcap (by simp at hclen;omega) (λi hi=>?_);generalize hdd:D.agg (l++List.replicate m D.dead)=dd at p2;generalize hcl:csb.toList=cl at p2
  cases p2 with
  | agg l0 _ Fs hs hr=>
   cases hdd
   have hi':i<(l++List.replicate m D.dead).length:=by simp;omega
   have h1:=hr i hi';rw[o0 hi] at h1;rw[NL l _ hz i (by omega),hz _ (g6 hi)] at h1;have h2:=h1.pur (hp _ (g6 hi));rw[h2] at h1;rw[c9];exact(h1.unflag (hnp _ (g6 hi))).mono (λ_ _ _=>rfl) (λy hy _=>.inl hy) (λi hi=>⟨hi,rfl⟩)
  | _=>cases hdd
 obtain⟨F4,r1,r2,r3,_,_⟩:=(q2.mono (G':=G0) (λ_ _ _=>rfl) (λy hy _=>.inl hy) (λi hi=>⟨hi,rfl⟩)).updP hl hu rfl hsl hn2 w9 (by simp) hna
 have hcs:cs.toList.take off++[Value.slice (some ⟨ρ id,0,none⟩) l.length cap]++cs.toList.drop (off+1)=cs.toList:=by
  rw[<- hv,u5,List.singleton_append,<- p8 hoff,K9]
 simp only[Q5] at r1;rw[hcs] at r1;have r2':∀ y∈F4,y∈F':=λy hy=>(r2 y hy).resolve_right (by simp)
 let Fb':Nat->List Nat:=λi=>if K2 ids i then(if i=id0 then ρ id0::F4 else Fb i) else[]
 have hsub:∀ i,∀ y∈Fb' i,K2 ids i=true/\y∈Fb i:=λi y hy=>by
  by_cases h1:K2 ids i=true
  ·refine⟨h1, ?_⟩;simp only[Fb',h1,j9] at hy;by_cases h2:i=id0
   ·subst h2;simp only[j9] at hy;rw[q3]
    rcases w5.1 hy with rfl|hy
    ·simp
    ·exact j1 _ (r2' y hy)
   ·simpa [h2] using hy
  ·simp[Fb',h1] at hy
 have hown:∀ y,own Fe Fb' y->own Fe Fb y:=λy hy=>hy.imp (λh=>h) λ⟨i,hi⟩=>⟨i,(hsub i y hi).2⟩
 have hg:∀ y,gd C Fe Fb y->gd C Fe Fb' y:=λy hy=>⟨hy.1,λhc=>hy.2 (hown y hc)⟩
 have hgb:gd C Fe Fb' (ρ id):=⟨st.okO _ (.inr ⟨id,hid_in⟩),by
  rintro (⟨u,hu'⟩|⟨i,hi⟩)
  ·exact st.dEB u id _ hu' hid_in
  ·obtain⟨h1,h2⟩:=hsub i _ hi
   have:i≠id:=by rintro rfl;rw[hid] at h1;cases h1
   exact st.dBB i id this _ h2 hid_in⟩
 have hg0:∀ y,G0 y->gd C Fe Fb' y:=λy hy=>hy.elim (hg y) (λe=>e▸hgb)
 refine⟨ρ,Fe,Fb',{
  size:=st.size
  defs:=st.defs
  pin:=λi y hp=>⟨(st.pin i y hp).1,hLb i ⟨hpn i y hp,(st.pin i y hp).2⟩⟩
  env:=λu d hd=>(st.env u d hd).okB (QY hE hd) (λy hy _=>hg y hy) hLb
  envN:=st.envN
  bx:=λi x hx=>?_
  bxN:=λi hx=>?_
  nodE:=st.nodE
  nodB:=λi=>?_
  dEE:=st.dEE
  dEB:=λu i y h1 h2=>st.dEB u i y h1 (hsub i y h2).2
  dBB:=λi i' hne y h1 h2=>st.dBB i i' hne y (hsub i y h1).2 (hsub i' y h2).2
  new:=λy hy=>st.new y (hown y hy)
  kept:=st.kept
  os:=st.os
  tape:=⟨st.tape.tp,st.tape.dr⟩
  output:=st.output
  grown:=st.grown
  gl:=st.gl
  okN:=st.okN
  okO:=λy hy=>st.okO y (hown y hy) }⟩
 ·obtain⟨x,rfl,hok⟩:=NA hoB hx;have h1:=hbl i;rw[show lk bx' i=some (.var x) from hx] at h1;by_cases hm:K2 ids i=true
  ·rw[u4 hm] at h1;by_cases h2:i=id0
   ·subst h2;simp only[j9,z6,Bx.var.injEq] at h1;subst h1;exact⟨cs,e0,F4,q1,(r1.okB hok).mono (λ_ _ _=>rfl) (λy hy _=>hg0 y hy) (λj hj=>⟨hLb j hj,rfl⟩),by simp only[Fb',hm,j9]⟩
   ·simp only[h2,q8] at h1;obtain⟨cs',e',F'',h3,h4,h5⟩:=st.bx i _ h1.symm;exact⟨cs',e',F'',h3,(h4.okB hok).mono (λ_ _ _=>rfl) (λy hy _=>hg y hy) (λj hj=>⟨hLb j hj,rfl⟩),by simp only[Fb',hm,h2,j9,q8];exact h5⟩
  ·rw[w3 hm] at h1;cases h1
 ·have h1:=hbl i;rw[show lk bx' i=none from hx] at h1;by_cases hm:K2 ids i=true
  ·rw[u4 hm] at h1;by_cases h2:i=id0
   ·simp[h2] at h1
   ·simp only[h2,q8] at h1;simp only[Fb',hm,h2,j9,q8];exact st.bxN i h1.symm
  ·simp[Fb',hm]
 ·by_cases hm:K2 ids i=true
  ·simp only[Fb',hm,j9];by_cases h2:i=id0
   ·subst h2;simp only[j9];exact v3.2 ⟨λh=>hn1 (r2' _ h),r3⟩
   ·simp only[h2,q8];exact st.nodB i
  ·simp[Fb',hm]
theorem z11{c:Code}(id id0:Nat)(path:List Nat)(ids:List Nat){z n cap:Nat}{l:List D}{d0':D}(hb0:σ.box id0=some (.var d0))(hb:σ.box id=some (.var (.agg (l++List.replicate m .dead))))(hii:id0≠id)
 (hl:d0.loc path=some (off,.bs id z n cap)) (hna:d0.noArr path=true) (hu:d0.upd path (.sl none z l)=some d0') (hn:l.length=n)
 (hp:∀ x∈l,x.pur=true) (hnp:∀ x∈l,x.np=true) (hz:∀ x∈l,x.sz=z) (hE:QG ids σ.env=true) (hkeep:M9 ids (setb id0 (.var d0') σ.bx)=bx') (hoB:PL ids bx'=true) (hid:K2 ids id=false)
 (hpn:∀ id b,C.pin id=some b->K2 ids id=true) (k:W P C c Q ⟨σ.n,σ.env,bx'⟩):W P C c Q σ:=
 λa w hs=>k a w (j76 hb0 hb hii hl hna hu hn hp hnp hz hE hkeep hoB hid hpn hs)
end
section
variable{pos:String}{aft:Array Edge}{g:Option (Nat×Bool)}
variable{P:Program}{C:Ctx}{σ σ' σ1:Sg}{a:Act}{w w':World}{ρ:Nat->Nat}{Fe Fe' Fb:Nat->List Nat}
def S3(σ:Sg):List Nat->Sg
 | []=>σ
 | s::r=>S3 (σ.kill s) r
theorem MB:∀ (S:List Nat) (σ:Sg),(S3 σ S).n=σ.n/\(S3 σ S).bx=σ.bx:=by
 intro S
 induction S with
 | nil=>intro σ;exact⟨rfl,rfl⟩
 | cons s r ih=>intro σ;exact ih (σ.kill s)
theorem ZF:∀ (S:List Nat) (σ:Sg) (u:Nat),(S3 σ S).get u=if u∈S then some .dead else σ.get u:=by
 intro S
 induction S with
 | nil=>intro σ u;simp[S3]
 | cons s r ih=>
  intro σ u;simp only[S3];rw[ih,JE];by_cases h1:u∈r
  ·simp[h1]
  ·by_cases h2:u=s
   ·simp[h2]
   ·simp[h1,h2]
theorem StW.takeL{S:List Nat}{t:Nat}{d:D}(h:StW C σ a w ρ Fe Fb)(ht:t<σ.n)(hst:t∉S)(hS:∀ s∈S,∃ d0,σ.get s=some d0)
 (hF:F.Nodup) (hFs:∀ b∈F,∃ s∈S,b∈Fe s)
 (hv:SR w ρ (gd C (upd (λu=>if u∈S then[] else Fe u) t F) Fb) (λid=>(σ.box id).isSome) (a.put (some t) v) t d F) :
 StW C ((S3 σ S).set t d) (a.put (some t) v) w ρ (upd (λu=>if u∈S then[] else Fe u) t F) Fb:=by
 have hsz:t<a.tmps.size:=by rw[h.size];exact ht
 let Fx:Nat->List Nat:=upd (λu=>if u∈S then[] else Fe u) t F
 have hFx:∀ u,u≠t->∀ b∈Fx u,b∈Fe u/\u∉S:=λu hut b hb=>by
  simp only[Fx,j2 hut] at hb;by_cases hus:u∈S
  ·simp[hus] at hb
  ·simp only[hus,q8] at hb;exact⟨hb,hus⟩
 have hFt:Fx t=F:=by simp[Fx]
 have ho:∀ b,own Fx Fb b->own Fe Fb b:=by
  rintro b (⟨u,hu⟩|hid)
  ·by_cases hut:u=t
   ·subst hut;rw[hFt] at hu;obtain⟨s,_,hs⟩:=hFs b hu;exact .inl ⟨s,hs⟩
   ·exact .inl ⟨u,(hFx u hut b hu).1⟩
  ·exact .inr hid
 have hg:∀ b,gd C Fe Fb b->gd C Fx Fb b:=λb hb=>⟨hb.1,λhc=>hb.2 (ho b hc)⟩
 obtain⟨hn,hbx⟩:=MB S σ
 have hbox:∀ id,((S3 σ S).set t d).box id=σ.box id:=λid=>by
  show lk (S3 σ S).bx id=_;rw[hbx];rfl
 have hLf:(λid=>(((S3 σ S).set t d).box id).isSome=true)=λid=>(σ.box id).isSome=true:=by funext id;rw[hbox]
 have hnotF:∀ u,u≠t->∀ b∈Fx u,b∉F:=λu hut b hb hbF=>by
  obtain⟨h1,h2⟩:=hFx u hut b hb;obtain⟨s,hs,h3⟩:=hFs b hbF;exact h.dEE u s (λe=>h2 (e▸hs)) b h1 h3
 refine {
  size:=?_
  defs:=h.defs
  pin:=λid b hp=>by rw[hbox];exact h.pin id b hp
  env:=λu x hx=>?_
  envN:=λu hu=>?_
  bx:=λid x hx=>by rw[hLf];exact(h.bx id x (by rw[<- hbox];exact hx)).mono (λ_ _ _=>rfl) (λb hb _=>hg b hb) (λi hi=>⟨hi,rfl⟩)
  bxN:=λid hx=>h.bxN id (by rw[<- hbox];exact hx)
  nodE:=λu=>?_
  nodB:=h.nodB
  dEE:=λu u' huu b hb hb'=>?_
  dEB:=λu id b hb hb'=>?_
  dBB:=h.dBB
  new:=λb hb=>h.new b (ho b hb)
  kept:=h.kept
  os:=h.os
  tape:=⟨h.tape.tp,h.tape.dr⟩
  output:=h.output
  grown:=h.grown
  gl:=h.gl
  okN:=h.okN
  okO:=λb hb=>h.okO b (ho b hb) }
 ·simp[Act.put,h.size,hn]
 ·rw[hLf];rw[P8] at hx;by_cases hut:u=t
  ·subst hut;simp at hx;subst hx;simp only[c7];exact hv
  ·simp only[hut,q8] at hx;obtain⟨d1,hd1,rfl⟩:=p9.1 hx;rw[ZF] at hd1;by_cases hus:u∈S
   ·simp only[hus,j9,z6] at hd1;subst hd1;obtain⟨d0,hd0⟩:=hS u hus;obtain⟨v0,hv0⟩:=(h.env u d0 hd0).there;refine⟨by simp[j2 hut,hus],v0,by rw[Y0 a t v u hsz];simp[hut,hv0]⟩
   ·simp only[hus,q8] at hd1
    have hFu:upd (λu=>if u∈S then[] else Fe u) t F u=Fe u:=by simp[j2 hut,hus]
    rw[hFu];exact XQ hut hsz (h.env u d1 hd1) (λ_ _ _=>rfl) (λb hb _=>hg b hb) (λid hid=>⟨hid,rfl⟩) (λ_ _ _ _ h=>h)
 ·rw[P8] at hu;by_cases hut:u=t
  ·simp[hut] at hu
  ·simp only[hut,q8,n3] at hu;rw[ZF] at hu;by_cases hus:u∈S
   ·simp[hus] at hu
   ·simp only[hus,q8] at hu;simp[j2 hut,hus,h.envN u hu]
 ·by_cases hut:u=t
  ·subst hut;simpa using hF
  ·simp only[j2 hut];split
   ·exact w9
   ·exact h.nodE u
 ·by_cases hut:u=t
  ·subst hut
   have hb1:b∈F:=by rw[<- hFt];exact hb
   exact hnotF u' (λe=>huu e.symm) b hb' hb1
  ·by_cases hut':u'=t
   ·subst hut'
    have hb1:b∈F:=by rw[<- hFt];exact hb'
    exact hnotF u hut b hb hb1
   ·exact h.dEE u u' huu b (hFx u hut b hb).1 (hFx u' hut' b hb').1
 ·by_cases hut:u=t
  ·subst hut
   have hb1:b∈F:=by rw[<- hFt];exact hb
   obtain⟨s,_,hs⟩:=hFs b hb1;exact h.dEB s id b hs hb'
  ·exact h.dEB u id b (hFx u hut b hb).1 hb'
inductive EvO(gl:List (Nat×D))(σ:Sg)(l0:List D):List (Nat×Operand)->List D->List D->List Nat->Prop
 | nil {l l':List D} (h:l=l'):EvO gl σ l0 [] l l' []
 | pur {i:Nat} {x:Operand} {d:D} {ps:List (Nat×Operand)} {l l':List D} {S:List Nat} (h:ev gl σ x=some d) (hp:d.pur=true) (hn:d.np=true) (hz:(l0[i]?).map D.sz=some d.sz) (t:EvO gl σ l0 ps (l.set i d) l' S):EvO gl σ l0 ((i,x)::ps) l l' S
 | own {i s:Nat} {d:D} {ps:List (Nat×Operand)} {l l':List D} {S:List Nat} (h:σ.get s=some d) (hr:d.isRef=false) (hn:d.np=true) (hz:(l0[i]?).map D.sz=some d.sz) (hs:S.contains s=false) (t:EvO gl σ l0 ps (l.set i d) l' S):EvO gl σ l0 ((i,.tmp s)::ps) l l' (s::S)
theorem k22{l l0:List D}{i:Nat}{d:D}(hz:l.map D.sz=l0.map D.sz)(h:(l0[i]?).map D.sz=some d.sz):(l.set i d).map D.sz=l0.map D.sz:=by
 rw[W6,<- hz]
 have h2:(l.map D.sz)[i]? = some d.sz:=by rw[hz,J2];exact h
 apply Z6;intro j;rw[L8];split
 ·rename_i hij;subst hij;rw[h2];have:=(z8.1 h2).1;simp only[this,j9]
 ·rfl
theorem VX{l l0:List D}{i:Nat}{d:D}{xc:List Value}{Fx:List Nat}{cs:Array Value}(hxc:v.cells.toList=xc)(hrc:Rc w ρ G L false d xc Fx)(hz:l.map D.sz=l0.map D.sz)(p3:(l0[i]?).map D.sz=some d.sz)
 (hr:Rc w ρ G L false (.agg l) cs.toList F) (hF:F.Nodup) (hFx:Fx.Nodup) (hdis:∀ b∈Fx,b∉F) :
 ∃ out F',(offl l0 0).toArray[i]? = some (offk l i,d.sz)/\v.cells.size=d.sz/\¬ (cs.size<offk l i+d.sz)/\v.cells.zipIdx.foldl (λ(c:Array Value) (p:Value×Nat)=>c.setIfInBounds (offk l i+p.2) p.1) cs=out /\
  Rc w ρ G L false (.agg (l.set i d)) out.toList F'/\F'.Nodup/\∀ b∈F',b∈F∨b∈Fx:=by
 have hlen:=hrc.len
 cases hl0:l0[i]? with
 | none=>rw[hl0] at p3;cases p3
 | some d0=>
  obtain⟨hi,rfl⟩:=z8.1 hl0;rw[hl0] at p3;simp only[Y1,z6] at p3
  have hll:l.length=l0.length:=by have:=g8 List.length hz;simpa using this
  have hi2:i<l.length:=by omega
  have hsi:l[i].sz=d.sz:=by
   have:(l.map D.sz)[i]'(by simpa using hi2)=(l0.map D.sz)[i]'(by simpa using hi):=by simp only[hz]
   simp at this;omega
  have hoff:offk l i=offk l0 i:=by
   have hs:∀ (u v:List D),u.map D.sz=v.map D.sz->N6 u=N6 v:=by
    intro u
    induction u with
    | nil=>intro v hv;cases v<;>simp_all
    | cons a u ihu=>intro v hv;cases v with
     | nil=>simp at hv
     | cons b v=>simp at hv;simp[hv.1,ihu v hv.2]
   unfold offk;exact hs _ _ (by rw[U8,U8,hz])
  have hlo:=T3 l i hi2;have hcl:=hr.len;simp only[JM,p6] at hcl
  have hloc:(D.agg l).loc [i]=some (offk l i,l[i]):=by simp[D.loc,j8 hi2]
  have hupd:(D.agg l).upd [i] d=some (.agg (l.set i d)):=by simp[D.upd,j8 hi2]
  have hnoa:(D.agg l).noArr [i]=true:=by simp[D.noArr,j8 hi2]
  obtain⟨F2,g1,g2,g3,_⟩:=hr.upd hloc hupd hsi.symm hrc hF hFx hdis (.inr hnoa);have hfold:=JG cs xc (offk l i) 0 (by omega);simp only[J8] at hfold
  have hcs2:(v.cells.zipIdx.foldl (λ(c:Array Value) (p:Value×Nat)=>c.setIfInBounds (offk l i+p.2) p.1) cs).toList=cs.toList.take (offk l i)++xc++cs.toList.drop (offk l i+xc.length):=by
   rw[<- hfold,<- hxc,<- B7];simp
  rw[<- hcs2] at g1;refine⟨_,F2, ?_, ?_,by omega,rfl,g1,g3,g2⟩
  ·rw[H0,NI l0 0 i hi,hoff,c9,<- p3]
  ·rw[<- p6,hxc,hlen]
theorem LW(st:StW C σ a w ρ Fe Fb){l0:List D}(hG:∀ b,gd C Fe Fb b->G b){ps:List (Nat×Operand)}{l l':List D}{S:List Nat}(h:EvO C.gl σ l0 ps l l' S) :
 ∀ (cs:Array Value) (F:List Nat),l.map D.sz=l0.map D.sz->Rc w ρ G (λid=>(σ.box id).isSome=true) false (.agg l) cs.toList F->F.Nodup->(∀ s∈S,∀ b∈Fe s,b∉F) ->
  ∃ (out:Array Value) (F':List Nat),Instr.fill ((offl l0 0).toArray[·]?) cs (ps.map (λp=>(p.1,a.eval p.2)))=some out/\Rc w ρ G (λid=>(σ.box id).isSome=true) false (.agg l') out.toList F'/\F'.Nodup/\∀ b∈F',b∈F∨∃ s∈S,b∈Fe s:=by
 induction h with
 | nil h=>subst h;intro cs F _ hr hF _;exact⟨cs,F,rfl,hr,hF,λb hb=>.inl hb⟩
 | @pur i x d ps l l' S h hp hn hz t ih=>
  intro cs F hzz hr hF hS;obtain⟨xc,hxc,hrc⟩:=KC st h hp;have hrc2:=(hrc.unflag hn).mono (G':=G) (L':=λid=>(σ.box id).isSome=true) (ρ':=ρ) (λ_ _ _=>rfl) (λb hb _=>hG b hb) (λi hi=>⟨hi,rfl⟩);obtain⟨out,F',e1,e2,e3,e4,e5,e6,e7⟩:=VX hxc hrc2 hzz hz hr hF w9 (by simp);have e7':∀ b∈F',b∈F:=λb hb=>(e7 b hb).resolve_right (by simp);obtain⟨out2,F2,f1,f2,f3,f4⟩:=ih out F' (k22 hzz hz) e5 e6 (λs hs b hb hb'=>hS s hs b hb (e7' b hb'));refine⟨out2,F2, ?_,f2,f3,λb hb=>(f4 b hb).imp (e7' b) id⟩;simp only[b9,Instr.fill,e1,e2];rw[w3 (by simp;omega),e4];exact f1
 | @own i s d ps l l' S h hr0 hn hz hs t ih=>
  intro cs F hzz hr hF hS;obtain⟨v,hv,hvr⟩:=(c5 hr0).1 (st.env _ _ h)
  have hdead:d≠.dead:=by rintro rfl;simp[D.isRef] at hr0
  have hrc:=hvr.cells hdead;have hrc2:=(hrc.unflag hn).mono (G':=G) (L':=λid=>(σ.box id).isSome=true) (ρ':=ρ) (λ_ _ _=>rfl) (λb hb _=>hG b hb) (λi hi=>⟨hi,rfl⟩);obtain⟨out,F',e1,e2,e3,e4,e5,e6,e7⟩:=VX (v:=v) rfl hrc2 hzz hz hr hF (st.nodE s) (λb hb=>hS s (by simp) b hb)
  have hs':s∉S:=by intro hm;rw[U5.2 hm] at hs;cases hs
  obtain⟨out2,F2,f1,f2,f3,f4⟩:=ih out F' (k22 hzz hz) e5 e6 (λs' hs1 b hb hb'=>by
   rcases e7 b hb' with h1|h1
   ·exact hS s' (j1 _ hs1) b hb h1
   ·exact st.dEE s' s (λe=>hs' (e▸hs1)) b hb h1)
  refine⟨out2,F2, ?_,f2,f3,λb hb=>?_⟩
  ·simp only[b9,Instr.fill,Q3 hv,e1,e2];rw[w3 (by simp;omega),e4];exact f1
  ·rcases f4 b hb with h1|⟨s',hs1,h1⟩
   ·rcases e7 b h1 with h2|h2
    ·exact .inl h2
    ·exact .inr ⟨s,by simp,h2⟩
   ·exact .inr ⟨s',j1 _ hs1,h1⟩
theorem EvO.there{gl:List (Nat×D)}{l0:List D}{ps:List (Nat×Operand)}{l l':List D}{S:List Nat}(h:EvO gl σ l0 ps l l' S):∀ s∈S,∃ d0,σ.get s=some d0:=by
 induction h with
 | nil=>intro s hs;cases hs
 | pur _ _ _ _ _ ih=>exact ih
 | own h _ _ _ _ _ ih=>
  intro s hs
  rcases w5.1 hs with rfl|hs
  ·exact⟨_,h⟩
  ·exact ih s hs
theorem R.bldO{t:Nat}{ps:List (Nat×Operand)}{l l':List D}{S:List Nat}[hT:BsT P ty l]
 (hps:EvO C.gl σ l ps l l' S) (hS:S.contains t=false) (ht:t<σ.n) :
 OpS P C ⟨some t,.build ty ps.toArray,rt,pos,aft,g⟩ σ ((S3 σ S).set t (.agg l')):=by
 refine OpS.value λa w ⟨ρ,Fe,Fb,st⟩=>?_;obtain⟨fs,it,zv,h1,h2,h3,h4,h5⟩:=hT.i
 have htS:t∉S:=by intro hm;rw[U5.2 hm] at hS;cases hS
 obtain⟨out,F,q1,q2,q3,q4⟩:=LW st (G:=gd C Fe Fb) (λ_ h=>h) hps zv.cells [] rfl (XO _ _ _ _ _ _ h5) w9 (by simp);have q4':∀ b∈F,∃ s∈S,b∈Fe s:=λb hb=>(q4 b hb).resolve_left (by simp)
 have hps2:(ps.toArray.map λx=>(x.1,a.eval x.2)).toList=ps.map (λp=>(p.1,a.eval p.2)):=by simp
 refine⟨.agg out,w, ?_,ρ,_,Fb,st.takeL ht htS hps.there q3 q4' ((c5 rfl).2 ⟨.agg out,by rw[Y0 a t _ t (by rw[st.size];exact ht)];simp, ?_⟩)⟩
 ·have:=run_build (P:=P) w ty (ps.toArray.map λx=>(x.1,a.eval x.2)) out (by
   rw[hps2];simp only[Program.built,h1,h2,h3,h4]
   exact q1)
  unfold execOp;simp only[Sem.run_bind,this,Result.andThen_ok,Sem.run_pure]
 ·simp only[VR,D.isAgg,j9];refine⟨out,rfl,(q2.flag).mono (λ_ _ _=>rfl) (λb hb _=>⟨hb.1,λhc=>hb.2 ?_⟩) (λi hi=>⟨hi,rfl⟩)⟩
  rcases hc with ⟨u,hu⟩|hid
  ·by_cases hut:u=t
   ·subst hut;rw[c7] at hu;obtain⟨s,_,hs⟩:=q4' b hu;exact .inl ⟨s,hs⟩
   ·rw[j2 hut] at hu;by_cases hus:u∈S
    ·simp[hus] at hu
    ·simp only[hus,q8] at hu;exact .inl ⟨u,hu⟩
  ·exact .inr hid
theorem R.ldTake{p t id:Nat}{d:D}{n:TypeId}[LdT P ty n gg]
 (h:σ.get p=some (.ptr id 0 [])) (hb:σ.box id=some (.var d)) (hr:d.isRef=false) (hn:d.sz=n) (hg:d.isAgg=gg) (ht:t<σ.n) :
 OpS P C ⟨some t,.load ty (.tmp p),rt,pos,aft,g⟩ σ ((σ.putB id (.var (D.dds n))).set t d):=by
 refine OpS.value λa w ⟨ρ,Fe,Fb,st⟩=>?_;obtain⟨v,hv,hrp⟩:=(c5 rfl).1 (st.env _ _ h);simp only[VR,D.isAgg,q7,q8] at hrp;generalize Fe p=F at hrp;cases hrp;obtain⟨cs,e,F',q1,q2,q3⟩:=st.bx _ _ hb
 have hnd:(ρ id::F').Nodup:=by have:=st.nodB id;rw[q3] at this;exact this
 obtain⟨hn1,hn2⟩:=v3.1 hnd;have hlen:=q2.len
 have htk:(cs.toList.drop 0).take d.sz=cs.toList:=by rw[<- hlen,K5];exact J9
 obtain⟨vv,hrun,hvr⟩:=i6 (P:=P) (ty:=ty) (G:=gd C Fe Fb) (L:=λi=>(σ.box i).isSome=true) (ρ:=ρ) (p:=true) (off:=0) q1 (by rw[htk];exact q2) (by simp at hlen;omega) hn hg
 have hsz:t<a.tmps.size:=by rw[st.size];exact ht
 have hFb:∀ i,∀ b∈upd Fb id [ρ id] i,b∈Fb i:=λi b hb=>by
  by_cases hii:i=id
  ·subst hii;rw[c7] at hb;simp at hb;subst hb;rw[q3];simp
  ·rw[j2 hii] at hb;exact hb
 have hFin:∀ b∈F',b∈Fb id:=λb hb=>by rw[q3];exact j1 _ hb
 have ho:∀ b,own (upd Fe t F') (upd Fb id [ρ id]) b->own Fe Fb b:=by
  rintro b (⟨u,hu⟩|⟨i,hi⟩)
  ·by_cases hut:u=t
   ·subst hut;rw[c7] at hu;exact .inr ⟨id,hFin b hu⟩
   ·rw[j2 hut] at hu;exact .inl ⟨u,hu⟩
  ·exact .inr ⟨i,hFb i b hi⟩
 have hgd:∀ b,gd C Fe Fb b->gd C (upd Fe t F') (upd Fb id [ρ id]) b:=λb hb=>⟨hb.1,λhc=>hb.2 (ho b hc)⟩
 have hbox:∀ i,((σ.putB id (.var (D.dds n))).set t d).box i=if i=id then some (.var (D.dds n)) else σ.box i:=λi=>by
  rw[x87,UK];by_cases hi:i=id
  ·subst hi;simp[hb]
  ·simp[hi]
 have hLf:(λi=>((((σ.putB id (.var (D.dds n))).set t d).box i)).isSome=true)=λi=>(σ.box i).isSome=true:=by
  funext i;rw[hbox]
  by_cases hi:i=id
  ·subst hi;simp[hb]
  ·simp[hi]
 have hFnot:∀ u,∀ b∈Fe u,b∉F':=λu b hb hb'=>st.dEB u id b hb (hFin b hb')
 refine⟨vv,w, ?_,ρ,upd Fe t F',upd Fb id [ρ id],{
  size:=by simp[Act.put,st.size]
  defs:=st.defs
  pin:=λi b hp=>⟨(st.pin i b hp).1,by
   have:=(st.pin i b hp).2;rw[hbox];by_cases hi:i=id
   ·simp[hi]
   ·simpa [hi] using this⟩
  env:=λu x hx=>?_
  envN:=λu hu=>?_
  bx:=λi x hx=>?_
  bxN:=λi hx=>?_
  nodE:=λu=>?_
  nodB:=λi=>?_
  dEE:=λu u' huu b hb hb'=>?_
  dEB:=λu i b hb hb'=>?_
  dBB:=λi i' hne b h1 h2=>st.dBB i i' hne b (hFb i b h1) (hFb i' b h2)
  new:=λb hb=>st.new b (ho b hb)
  kept:=st.kept
  os:=st.os
  tape:=⟨st.tape.tp,st.tape.dr⟩
  output:=st.output
  grown:=st.grown
  gl:=st.gl
  okN:=st.okN
  okO:=λb hb=>st.okO b (ho b hb) }⟩
 ·unfold execOp;simp[Q3 hv,Instr.loadAt,Instr.sureAddr,hrun]
 ·rw[hLf];rw[P8] at hx;by_cases hut:u=t
  ·subst hut;simp at hx;subst hx;rw[c7];exact(c5 hr).2 ⟨vv,by rw[Y0 a u _ u hsz];simp,hvr.mono (λ_ _ _=>rfl) (λb hb _=>hgd b hb) (λi hi=>⟨hi,rfl⟩)⟩
  ·simp only[hut,q8] at hx;obtain⟨d1,hd1,rfl⟩:=p9.1 hx;rw[e8] at hd1;obtain⟨d2,hd2,rfl⟩:=p9.1 hd1;rw[j2 hut];have h1:=j80 (id:=id) (st.env u d2 hd2) (w':=w) (λ_ _ _=>rfl) (λb hb _=>hgd b hb) (λi hi=>hi) (λ_ _ _ _ _ h=>h);exact XQ hut hsz h1 (λ_ _ _=>rfl) (λb hb _=>hb) (λid hid=>⟨hid,rfl⟩) (λ_ _ _ _ h=>h)
 ·rw[P8] at hu;by_cases hut:u=t
  ·simp[hut] at hu
  ·simp only[hut,q8,n3] at hu;rw[e8,n3] at hu;rw[j2 hut];exact st.envN u hu
 ·rw[hLf];rw[hbox] at hx;by_cases hi:i=id
  ·subst hi;simp only[j9,z6] at hx;subst hx;rw[c7,<- hn];exact⟨cs,e,[],q1,q2.dds,rfl⟩
  ·simp only[hi,q8] at hx;rw[j2 hi];exact(st.bx i x hx).mono (λ_ _ _=>rfl) (λb hb _=>hgd b hb) (λj hj=>⟨hj,rfl⟩)
 ·rw[hbox] at hx;by_cases hi:i=id
  ·simp[hi] at hx
  ·simp only[hi,q8] at hx;rw[j2 hi];exact st.bxN i hx
 ·by_cases hut:u=t
  ·subst hut;rw[c7];exact hn2
  ·rw[j2 hut];exact st.nodE u
 ·by_cases hi:i=id
  ·subst hi;rw[c7];simp
  ·rw[j2 hi];exact st.nodB i
 ·by_cases hut:u=t
  ·subst hut;rw[c7] at hb;rw[j2 (λe=>huu e.symm)] at hb';exact hFnot u' b hb' hb
  ·rw[j2 hut] at hb;by_cases hut':u'=t
   ·subst hut';rw[c7] at hb';exact hFnot u b hb hb'
   ·rw[j2 hut'] at hb';exact st.dEE u u' huu b hb hb'
 ·by_cases hut:u=t
  ·subst hut;rw[c7] at hb;by_cases hi:i=id
   ·subst hi;rw[c7] at hb';simp at hb';subst hb';exact hn1 hb
   ·rw[j2 hi] at hb';exact st.dBB id i (λe=>hi e.symm) b (hFin b hb) hb'
  ·rw[j2 hut] at hb;exact st.dEB u i b hb (hFb i b hb')
end
section
variable{P:Program}{C:Ctx}{σ σ' σ1:Sg}{a:Act}{w w':World}{ρ:Nat->Nat}{Fe Fe' Fb:Nat->List Nat}
inductive Wk:D->D->Prop
 | refl (d:D):Wk d d
 | nils (o:Option Nat) (z:Nat):Wk .nils (.sl o z [])
 | agg {l l':List D} (hn:l.length=l'.length) (h:∀ k (h:k<l.length) (h':k<l'.length),Wk l[k] l'[k]):Wk (.agg l) (.agg l')
 | sl {o:Option Nat} {z:Nat} {l l':List D} (hn:l.length=l'.length) (h:∀ k (h:k<l.length) (h':k<l'.length),Wk l[k] l'[k]):Wk (.sl o z l) (.sl o z l')
inductive WkL:List D->List D->Prop
 | nil:WkL [] []
 | cons {d d':D} {l l':List D} (h:Wk d d') (t:WkL l l'):WkL (d::l) (d'::l')
theorem WkL.len{l l':List D}(h:WkL l l'):l.length=l'.length:=by
 induction h with
 | nil=>rfl
 | cons _ _ ih=>simp[ih]
theorem WkL.get{l l':List D}(h:WkL l l'):∀ k (h:k<l.length) (h':k<l'.length),Wk l[k] l'[k]:=by
 induction h with
 | nil=>intro k h;simp at h
 | cons h _ ih=>
  intro k hk hk'
  cases k with
  | zero=>exact h
  | succ k=>exact ih k (by simpa using hk) (by simpa using hk')
theorem Wk.aggL{l l':List D}(h:WkL l l'):Wk (.agg l) (.agg l'):=.agg h.len h.get
theorem Wk.slL{o:Option Nat}{z:Nat}{l l':List D}(h:WkL l l'):Wk (.sl o z l) (.sl o z l'):=.sl h.len h.get
theorem WE{l l':List D}(hn:l.length=l'.length)(h:∀ k (h:k<l.length) (h':k<l'.length),l'[k].sz=l[k].sz):N6 l'=N6 l:=by
 induction l generalizing l' with
 | nil=>cases l' with
  | nil=>rfl
  | cons _ _=>simp at hn
 | cons x r ih=>cases l' with
  | nil=>simp at hn
  | cons x' r'=>
   have h0:=h 0 (by simp) (by simp);simp only[Z2] at h0;simp only[S1,h0];rw[ih (by simpa using hn) (λk h1 h2=>h (k+1) (by simpa using h1) (by simpa using h2))]
theorem x41{l l':List D}(hn:l.length=l'.length)(h:∀ k (h:k<l.length) (h':k<l'.length),l'[k].sz=l[k].sz)(k:Nat):offk l' k=offk l k:=by
 unfold offk;exact WE (by simp[hn]) (λj h1 h2=>by simp only[Q7];exact h j (by simp at h1;omega) (by simp at h2;omega))
theorem Wk.sz{d d':D}(h:Wk d d'):d'.sz=d.sz:=by
 induction h with
 | refl=>rfl
 | nils=>rfl
 | agg hn h ih=>simp only[JM];exact WE hn ih
 | sl=>rfl
theorem Rc.wk{d d':D}(hw:Wk d d'):∀ {p:Bool} {cs:List Value} {F:List Nat},Rc w ρ G L p d cs F->Rc w ρ G L p d' cs F:=by
 induction hw with
 | refl=>intro p cs F h;exact h
 | nils o z=>intro p cs F h;cases h;exact .slN o z
 | @agg l l' hn h ih=>
  intro p cs F hr
  cases hr with
  | agg _ _ Fs hs hr=>
   have hz:∀ k (h:k<l.length) (h':k<l'.length),l'[k].sz=l[k].sz:=λk h1 h2=>(h k h1 h2).sz;rw[hn];refine .agg l' cs Fs (by rw[hs,WE hn hz]) (λk hk=>?_);rw[x41 hn hz,hz k (by omega) hk];exact ih k (by omega) hk (hr k (by omega))
 | @sl o z l l' hn h ih=>
  intro p cs F hr
  cases hr with
  | slN=>rw[Q4.1 hn.symm];exact .slN o z
  | slE _ _ a=>rw[Q4.1 hn.symm];exact .slE o z a
  | slI b off cs e fz cap _ _ hb hG hc hs hr=>
   rw[hn];exact .slI b off cs e fz cap z l' hb hG (by omega) (by rw[<- hn];exact hs) (λi hi=>ih i (by omega) hi (hr i (by omega)))
  | slO b cs e cap _ _ Fs hb hc hm hs ho1 hr=>
   rw[hn];exact .slO b cs e cap z l' Fs hb (by omega) hm hs ho1 (λi hi=>ih i (by omega) hi (hr i (by omega)))
theorem z10{c:Code}(id:Nat){d d':D}(hb:σ.box id=some (.var d))(hw:Wk d d')(hbx:setb id (.var d') σ.bx=bx')(k:W P C c Q ⟨σ.n,σ.env,bx'⟩):W P C c Q σ:=by
 subst hbx;exact λa w hs=>k a w (AZ hb (λw ρ G L cs F h=>h.wk hw) hs)
theorem Wk.isAgg{d d':D}(h:Wk d d'):d'.isAgg=d.isAgg:=by cases h<;>rfl
end
section
variable{pos:String}{aft:Array Edge}{g:Option (Nat×Bool)}
theorem O{α:Sort _}{a:α}:a=a:=rfl
theorem Zt:True:=trivial
theorem dU{p:Prop}(h:p:=by decide):p:=h
theorem dT{p:Prop}[Decidable p](h:p):decide p=true:=O4 h
theorem dF{p:Prop}[Decidable p](h:¬ p):decide p=false:=J7 h
abbrev Bc:=@Bors.cons
abbrev Bn:=@Bors.nil
abbrev Bp:=@Bor.pur
theorem lN{β:Type}{l:List α}(f:α->β):(l.map f).length=l.length:=z9 f
theorem nU{n:Nat}(h:Nat.ble m n=true:=by rfl):m<=n:=g0 h
theorem bU{p:Prop}(h:p:=by first|omega|(simp only[z9,q9,j3,j5,v5,v8,d6];omega)|(simp;omega)):p:=h
theorem bV{x:Int}(h:0<=x:=by first|omega|(simp only[z9,q9,j3,j5,v5,v8,d6];omega)|(simp;omega)):0<=x:=h
theorem gU{σ:Sg}(n:Nat){d:D}(h:σ.get n=some d):σ.get n=some d:=h
theorem xU{σ:Sg}(n:Nat){d:Bx}(h:σ.box n=some d):σ.box n=some d:=h
theorem gV{gl:List (Nat×D)}{σ:Sg}(n:Nat){d:D}(h:σ.get n=some d):ev gl σ (.tmp n)=some d:=h
theorem eU{gl:List (Nat×D)}{f:Nat->Option D}(K:∀ u x,f u=some x->τ.get u=some x)(n:Nat){d:D}(h:f n=some d):ev gl τ (.tmp n)=some d:=K n d h
theorem kI{gl:List (Nat×D)}{σ:Sg}(n:Nat){i:Int}(h:ev gl σ (.const (.int .i64 i))=some (.int ((n:Nat):Int))):ev gl σ (.const (.int .i64 i))=some (.int ((n:Nat):Int)):=h
theorem kB{gl:List (Nat×D)}{σ:Sg}(b:Bool)(h:ev gl σ (.const (.bool b))=some (.bool b)):ev gl σ (.const (.bool b))=some (.bool b):=h
theorem kN{gl:List (Nat×D)}{σ:Sg}(h:ev gl σ (.const (.slice none 0 0))=some .nils):ev gl σ (.const (.slice none 0 0))=some .nils:=h
@[reducible] def It.y (n:Nat) (d:D):It:=⟨n,d,true⟩
@[reducible] def It.x (n:Nat):It:=⟨n,.dead,false⟩
section
variable{P:Program}{C:Ctx}{σ:Sg}{ops:List Oper}{an:List Nat}{ks kk:List (Nat×Nat)}{its:List It}
abbrev EB(P:Program)(C:Ctx)(σ:Sg)(an:List Nat)(ks kk:List (Nat×Nat))(its:List It)(i:Nat)(o:Oper)(t:Nat)(d:D):Prop:=
 ∀ τ:Sg,(∀ id x,lk σ.bx id=some x->τ.box id=some x)->t<τ.n->(∀ u x,facts an ks σ.env its i u=some x->τ.get u=some x)->OpS P C o τ ((ZX τ kk i).set t d)
abbrev Ent(P:Program)(C:Ctx)(σ:Sg)(ops:List Oper)(an:List Nat)(ks kk:List (Nat×Nat))(its:List It)(i:Nat)(o:Oper)(t:Nat)(d:D)(wt:Bool):Prop:=
 o.dst=some t/\Wt ops (facts an ks σ.env its i) o wt/\(wt=true->∀ τ:Sg,(∀ id x,lk σ.bx id=some x->τ.box id=some x)->t<τ.n->(∀ u x,facts an ks σ.env its i u=some x->τ.get u=some x)->OpS P C o τ ((ZX τ kk i).set t d))
def KA(kk:List (Nat×Nat))(i:Nat):Bool:=kk.all λx=>!Nat.beq x.1 i
theorem K4{i:Nat}:∀ {kk:List (Nat×Nat)},KA kk i=true->ZX τ kk i=τ:=by
 intro kk
 induction kk with
 | nil=>intro _;rfl
 | cons y r ih=>
  obtain⟨k,s⟩:=y;intro h;simp only[KA,E6,u6,D1] at h;rw[ZX,h.1];exact ih h.2
theorem aU{i t:Nat}{d:D}{op:Op}(f:EB P C σ an ks kk its i ⟨some t,op,ty,pos,aft,none⟩ t d) :
 Ent P C σ ops an ks kk its i ⟨some t,op,ty,pos,aft,none⟩ t d true:=⟨rfl,rfl,λ_=>f⟩
theorem aW{i t g:Nat}{d:D}{op:Op}{b:Bool}(h1:(ops[g]?).bind (·.dst)=some tg)
 (h3:facts an ks σ.env its i tg=some (.bool b)) (h4:true=(b==want)) (f:EB P C σ an ks kk its i ⟨some t,op,ty,pos,aft,some (g,want)⟩ t d) :
 Ent P C σ ops an ks kk its i ⟨some t,op,ty,pos,aft,some (g,want)⟩ t d true:=by
 obtain⟨og,h1,h2⟩:=Option.bind_eq_some_iff.1 h1;exact⟨rfl,⟨og,tg,h1,h2,.inl ⟨b,h3,h4⟩⟩,λ_=>f⟩
theorem aF{i t g:Nat}{op:Op}{b:Bool}(h1:(ops[g]?).bind (·.dst)=some tg)
 (h3:facts an ks σ.env its i tg=some (.bool b)) (h4:false=(b==want)) :
 Ent P C σ ops an ks kk its i ⟨some t,op,ty,pos,aft,some (g,want)⟩ t .dead false:=by
 obtain⟨og,h1,h2⟩:=Option.bind_eq_some_iff.1 h1;exact⟨rfl,⟨og,tg,h1,h2,.inl ⟨b,h3,h4⟩⟩,λh=>absurd h (by decide)⟩
theorem gT{b wt:Bool}(h:b=true)(hw:wt=(true==want)):wt=(b==want):=gw h hw
theorem gF{b wt:Bool}(h:b=false)(hw:wt=(false==want)):wt=(b==want):=gw h hw
theorem mU{i t:Nat}{d:D}(s:Nat)(h:facts an ks σ.env its i s=some d)(hp:(d.pur&&KA kk i)=true) :
 Ent P C σ ops an ks kk its i ⟨some t,.move (.tmp s),ty,pos,aft,none⟩ t d true:=by
 rw[u6] at hp;exact⟨rfl,rfl,λ_ τ _ H K=>by rw[K4 hp.2];exact R.mov (K s d h) hp.1 H⟩
theorem fU{i t id off':Nat}{s f:Nat}[FdT P s f off'](x:Nat)
 (h:facts an ks σ.env its i x=some (.ptr id off path)) (hk:KA kk i=true):EB P C σ an ks kk its i ⟨some t,.fieldAddr s (.tmp x) f,rt,pos,aft,g⟩ t (.ptr id (off+off') (path++[f])):=
 λτ _ H K=>by rw[K4 hk];exact R.fdP (K _ _ h) H
theorem lU{i t id:Nat}{d:D}{n:TypeId}[LdT P ty n gg](p:Nat)
 (h:facts an ks σ.env its i p=some (.ptr id off path)) (hb:lk σ.bx id=some (.var d0)) (hl:d0.loc path=some (off,d)) (hp:d.pur=true) (hn:d.sz=n) (hg:d.isAgg=gg) (hk:KA kk i=true) :
 EB P C σ an ks kk its i ⟨some t,.load ty (.tmp p),rt,pos,aft,g⟩ t d:=
 λτ B H K=>by rw[K4 hk];exact R.ldP (K _ _ h) (B _ _ hb) hl hp hn hg H
theorem tU(h:picks σ.get (σ.env.map (·.1))=σ.env)(q:Q .normal σ):TL P C Q [] σ:=⟨_,_,_,_,h,rfl,rfl,q⟩
theorem tV(e:List (Nat×D))(b:List (Nat×Bx))(n:Nat)(h:picks σ.get (e.map (·.1))=e)(h1:σ.bx=b)(h2:σ.n=n)(q:Q .normal ⟨n,e,b⟩):TL P C Q [] σ:=⟨_,_,_,_,h,h1,h2,q⟩
end
section
variable{P:Program}{C:Ctx}{σ:Sg}{ops:List Oper}{Q:Exit->Sg->Prop}
def z88(n:Nat)(m:Nat)(ks kk:List (Nat×Nat))(its:List It)(env:List (Nat×D))(l:Nat):Bool:=
 Nat.ble l m&&Nat.ble its.length l&&TY n (slots its)&&PG (W2 m 0) ks (slots its) its 0&&subs kk ks&&PH (slots its) env
theorem HO{id:Nat}(m:Nat)(its:List It)(ks kk:List (Nat×Nat))(env':List (Nat×D))(bx':List (Nat×Bx))(n':Nat)
 (H:AllOps P C σ ops (W2 m 0) ks kk its ops its 0) (h:z88 σ.n m ks kk its σ.env ops.length=true) (hE:picks (afts (W2 m 0) (λ_=>true) ks σ.env its) (env'.map (·.1))=env')
 (hb:σ.bx=bx') (hn':σ.n=n') (hT:TL P C Q (ops.drop its.length) ⟨n',env',bx'⟩):W P C (.region id ops.toArray false) Q σ:=by
 unfold z88 at h;simp only[u6] at h;exact PQ (g0 h.1.1.1.1.1) ⟨g0 h.1.1.1.1.2,h.1.1.1.2,H,h.1.1.2,h.1.2,h.2⟩ hE hb hn' hT
end
end
abbrev y1(a0:Nat){x0:D}:List It:=[.y a0 x0]
abbrev y2(a0 a1:Nat){x0 x1:D}:List It:=[.y a0 x0,.y a1 x1]
abbrev y3(a0 a1 a2:Nat){x0 x1 x2:D}:List It:=[.y a0 x0,.y a1 x1,.y a2 x2]
abbrev y4(a0 a1 a2 a3:Nat){x0 x1 x2 x3:D}:List It:=[.y a0 x0,.y a1 x1,.y a2 x2,.y a3 x3]
abbrev y5(a0 a1 a2 a3 a4:Nat){x0 x1 x2 x3 x4:D}:List It:=[.y a0 x0,.y a1 x1,.y a2 x2,.y a3 x3,.y a4 x4]
abbrev y6(a0 a1 a2 a3 a4 a5:Nat){x0 x1 x2 x3 x4 x5:D}:List It:=[.y a0 x0,.y a1 x1,.y a2 x2,.y a3 x3,.y a4 x4,.y a5 x5]
abbrev y7(a0 a1 a2 a3 a4 a5 a6:Nat){x0 x1 x2 x3 x4 x5 x6:D}:List It:=[.y a0 x0,.y a1 x1,.y a2 x2,.y a3 x3,.y a4 x4,.y a5 x5,.y a6 x6]
abbrev y8(a0 a1 a2 a3 a4 a5 a6 a7:Nat){x0 x1 x2 x3 x4 x5 x6 x7:D}:List It:=[.y a0 x0,.y a1 x1,.y a2 x2,.y a3 x3,.y a4 x4,.y a5 x5,.y a6 x6,.y a7 x7]
abbrev y9(a0 a1 a2 a3 a4 a5 a6 a7 a8:Nat){x0 x1 x2 x3 x4 x5 x6 x7 x8:D}:List It:=[.y a0 x0,.y a1 x1,.y a2 x2,.y a3 x3,.y a4 x4,.y a5 x5,.y a6 x6,.y a7 x7,.y a8 x8]
abbrev z91(a0 a1 a2 a3 a4 a5 a6 a7 a8 a9:Nat){x0 x1 x2 x3 x4 x5 x6 x7 x8 x9:D}:List It:=[.y a0 x0,.y a1 x1,.y a2 x2,.y a3 x3,.y a4 x4,.y a5 x5,.y a6 x6,.y a7 x7,.y a8 x8,.y a9 x9]
abbrev v41(a0 a1 a2 a3 a4 a5 a6 a7 a8 a9 a10:Nat){x0 x1 x2 x3 x4 x5 x6 x7 x8 x9 x10:D}:List It:=[.y a0 x0,.y a1 x1,.y a2 x2,.y a3 x3,.y a4 x4,.y a5 x5,.y a6 x6,.y a7 x7,.y a8 x8,.y a9 x9,.y a10 x10]
abbrev j89(a0 a1 a2 a3 a4 a5 a6 a7 a8 a9 a10 a11:Nat){x0 x1 x2 x3 x4 x5 x6 x7 x8 x9 x10 x11:D}:List It:=[.y a0 x0,.y a1 x1,.y a2 x2,.y a3 x3,.y a4 x4,.y a5 x5,.y a6 x6,.y a7 x7,.y a8 x8,.y a9 x9,.y a10 x10,.y a11 x11]
abbrev u98(a0 a1 a2 a3 a4 a5 a6 a7 a8 a9 a10 a11 a12:Nat){x0 x1 x2 x3 x4 x5 x6 x7 x8 x9 x10 x11 x12:D}:List It:=[.y a0 x0,.y a1 x1,.y a2 x2,.y a3 x3,.y a4 x4,.y a5 x5,.y a6 x6,.y a7 x7,.y a8 x8,.y a9 x9,.y a10 x10,.y a11 x11,.y a12 x12]
abbrev z90(a0 a1 a2 a3 a4 a5 a6 a7 a8 a9 a10 a11 a12 a13:Nat){x0 x1 x2 x3 x4 x5 x6 x7 x8 x9 x10 x11 x12 x13:D}:List It:=[.y a0 x0,.y a1 x1,.y a2 x2,.y a3 x3,.y a4 x4,.y a5 x5,.y a6 x6,.y a7 x7,.y a8 x8,.y a9 x9,.y a10 x10,.y a11 x11,.y a12 x12,.y a13 x13]
abbrev v55(a0 a1 a2 a3 a4 a5 a6 a7 a8 a9 a10 a11 a12 a13 a14:Nat){x0 x1 x2 x3 x4 x5 x6 x7 x8 x9 x10 x11 x12 x13 x14:D}:List It:=[.y a0 x0,.y a1 x1,.y a2 x2,.y a3 x3,.y a4 x4,.y a5 x5,.y a6 x6,.y a7 x7,.y a8 x8,.y a9 x9,.y a10 x10,.y a11 x11,.y a12 x12,.y a13 x13,.y a14 x14]
abbrev v54(a0 a1 a2 a3 a4 a5 a6 a7 a8 a9 a10 a11 a12 a13 a14 a15:Nat){x0 x1 x2 x3 x4 x5 x6 x7 x8 x9 x10 x11 x12 x13 x14 x15:D}:List It:=[.y a0 x0,.y a1 x1,.y a2 x2,.y a3 x3,.y a4 x4,.y a5 x5,.y a6 x6,.y a7 x7,.y a8 x8,.y a9 x9,.y a10 x10,.y a11 x11,.y a12 x12,.y a13 x13,.y a14 x14,.y a15 x15]
abbrev v40(a0 a1 a2 a3 a4 a5 a6 a7 a8 a9 a10 a11 a12 a13 a14 a15 a16:Nat){x0 x1 x2 x3 x4 x5 x6 x7 x8 x9 x10 x11 x12 x13 x14 x15 x16:D}:List It:=[.y a0 x0,.y a1 x1,.y a2 x2,.y a3 x3,.y a4 x4,.y a5 x5,.y a6 x6,.y a7 x7,.y a8 x8,.y a9 x9,.y a10 x10,.y a11 x11,.y a12 x12,.y a13 x13,.y a14 x14,.y a15 x15,.y a16 x16]
abbrev v53(a0 a1 a2 a3 a4 a5 a6 a7 a8 a9 a10 a11 a12 a13 a14 a15 a16 a17:Nat){x0 x1 x2 x3 x4 x5 x6 x7 x8 x9 x10 x11 x12 x13 x14 x15 x16 x17:D}:List It:=[.y a0 x0,.y a1 x1,.y a2 x2,.y a3 x3,.y a4 x4,.y a5 x5,.y a6 x6,.y a7 x7,.y a8 x8,.y a9 x9,.y a10 x10,.y a11 x11,.y a12 x12,.y a13 x13,.y a14 x14,.y a15 x15,.y a16 x16,.y a17 x17]
abbrev v05(a0 a1 a2 a3 a4 a5 a6 a7 a8 a9 a10 a11 a12 a13 a14 a15 a16 a17 a18:Nat){x0 x1 x2 x3 x4 x5 x6 x7 x8 x9 x10 x11 x12 x13 x14 x15 x16 x17 x18:D}:List It:=[.y a0 x0,.y a1 x1,.y a2 x2,.y a3 x3,.y a4 x4,.y a5 x5,.y a6 x6,.y a7 x7,.y a8 x8,.y a9 x9,.y a10 x10,.y a11 x11,.y a12 x12,.y a13 x13,.y a14 x14,.y a15 x15,.y a16 x16,.y a17 x17,.y a18 x18]
abbrev v52(a0 a1 a2 a3 a4 a5 a6 a7 a8 a9 a10 a11 a12 a13 a14 a15 a16 a17 a18 a19:Nat){x0 x1 x2 x3 x4 x5 x6 x7 x8 x9 x10 x11 x12 x13 x14 x15 x16 x17 x18 x19:D}:List It:=[.y a0 x0,.y a1 x1,.y a2 x2,.y a3 x3,.y a4 x4,.y a5 x5,.y a6 x6,.y a7 x7,.y a8 x8,.y a9 x9,.y a10 x10,.y a11 x11,.y a12 x12,.y a13 x13,.y a14 x14,.y a15 x15,.y a16 x16,.y a17 x17,.y a18 x18,.y a19 x19]
abbrev V1(a0:Nat){x0:D}:List (Nat×D):=[(a0,x0)]
abbrev V2(a0 a1:Nat){x0 x1:D}:List (Nat×D):=[(a0,x0),(a1,x1)]
abbrev V3(a0 a1 a2:Nat){x0 x1 x2:D}:List (Nat×D):=[(a0,x0),(a1,x1),(a2,x2)]
abbrev V4(a0 a1 a2 a3:Nat){x0 x1 x2 x3:D}:List (Nat×D):=[(a0,x0),(a1,x1),(a2,x2),(a3,x3)]
abbrev V5(a0 a1 a2 a3 a4:Nat){x0 x1 x2 x3 x4:D}:List (Nat×D):=[(a0,x0),(a1,x1),(a2,x2),(a3,x3),(a4,x4)]
abbrev V6(a0 a1 a2 a3 a4 a5:Nat){x0 x1 x2 x3 x4 x5:D}:List (Nat×D):=[(a0,x0),(a1,x1),(a2,x2),(a3,x3),(a4,x4),(a5,x5)]
abbrev V7(a0 a1 a2 a3 a4 a5 a6:Nat){x0 x1 x2 x3 x4 x5 x6:D}:List (Nat×D):=[(a0,x0),(a1,x1),(a2,x2),(a3,x3),(a4,x4),(a5,x5),(a6,x6)]
abbrev V8(a0 a1 a2 a3 a4 a5 a6 a7:Nat){x0 x1 x2 x3 x4 x5 x6 x7:D}:List (Nat×D):=[(a0,x0),(a1,x1),(a2,x2),(a3,x3),(a4,x4),(a5,x5),(a6,x6),(a7,x7)]
abbrev V9(a0 a1 a2 a3 a4 a5 a6 a7 a8:Nat){x0 x1 x2 x3 x4 x5 x6 x7 x8:D}:List (Nat×D):=[(a0,x0),(a1,x1),(a2,x2),(a3,x3),(a4,x4),(a5,x5),(a6,x6),(a7,x7),(a8,x8)]
abbrev IZ(a0 a1 a2 a3 a4 a5 a6 a7 a8 a9:Nat){x0 x1 x2 x3 x4 x5 x6 x7 x8 x9:D}:List (Nat×D):=[(a0,x0),(a1,x1),(a2,x2),(a3,x3),(a4,x4),(a5,x5),(a6,x6),(a7,x7),(a8,x8),(a9,x9)]
abbrev z18(a0 a1 a2 a3 a4 a5 a6 a7 a8 a9 a10:Nat){x0 x1 x2 x3 x4 x5 x6 x7 x8 x9 x10:D}:List (Nat×D):=[(a0,x0),(a1,x1),(a2,x2),(a3,x3),(a4,x4),(a5,x5),(a6,x6),(a7,x7),(a8,x8),(a9,x9),(a10,x10)]
abbrev w39(a0 a1 a2 a3 a4 a5 a6 a7 a8 a9 a10 a11:Nat){x0 x1 x2 x3 x4 x5 x6 x7 x8 x9 x10 x11:D}:List (Nat×D):=[(a0,x0),(a1,x1),(a2,x2),(a3,x3),(a4,x4),(a5,x5),(a6,x6),(a7,x7),(a8,x8),(a9,x9),(a10,x10),(a11,x11)]
abbrev z17(a0 a1 a2 a3 a4 a5 a6 a7 a8 a9 a10 a11 a12:Nat){x0 x1 x2 x3 x4 x5 x6 x7 x8 x9 x10 x11 x12:D}:List (Nat×D):=[(a0,x0),(a1,x1),(a2,x2),(a3,x3),(a4,x4),(a5,x5),(a6,x6),(a7,x7),(a8,x8),(a9,x9),(a10,x10),(a11,x11),(a12,x12)]
abbrev u96(a0 a1 a2 a3 a4 a5 a6 a7 a8 a9 a10 a11 a12 a13:Nat){x0 x1 x2 x3 x4 x5 x6 x7 x8 x9 x10 x11 x12 x13:D}:List (Nat×D):=[(a0,x0),(a1,x1),(a2,x2),(a3,x3),(a4,x4),(a5,x5),(a6,x6),(a7,x7),(a8,x8),(a9,x9),(a10,x10),(a11,x11),(a12,x12),(a13,x13)]
abbrev u30(a0 a1 a2 a3 a4 a5 a6 a7 a8 a9 a10 a11 a12 a13 a14:Nat){x0 x1 x2 x3 x4 x5 x6 x7 x8 x9 x10 x11 x12 x13 x14:D}:List (Nat×D):=[(a0,x0),(a1,x1),(a2,x2),(a3,x3),(a4,x4),(a5,x5),(a6,x6),(a7,x7),(a8,x8),(a9,x9),(a10,x10),(a11,x11),(a12,x12),(a13,x13),(a14,x14)]
abbrev v48(a0 a1 a2 a3 a4 a5 a6 a7 a8 a9 a10 a11 a12 a13 a14 a15:Nat){x0 x1 x2 x3 x4 x5 x6 x7 x8 x9 x10 x11 x12 x13 x14 x15:D}:List (Nat×D):=[(a0,x0),(a1,x1),(a2,x2),(a3,x3),(a4,x4),(a5,x5),(a6,x6),(a7,x7),(a8,x8),(a9,x9),(a10,x10),(a11,x11),(a12,x12),(a13,x13),(a14,x14),(a15,x15)]
abbrev B8(a0:Nat){x0:D}:List (Nat×Bx):=[(a0,.var x0)]
abbrev M4(a0 a1:Nat){x0 x1:D}:List (Nat×Bx):=[(a0,.var x0),(a1,.var x1)]
abbrev QB(a0 a1 a2:Nat){x0 x1 x2:D}:List (Nat×Bx):=[(a0,.var x0),(a1,.var x1),(a2,.var x2)]
abbrev CO(a0 a1 a2 a3:Nat){x0 x1 x2 x3:D}:List (Nat×Bx):=[(a0,.var x0),(a1,.var x1),(a2,.var x2),(a3,.var x3)]
abbrev RE(a0 a1 a2 a3 a4:Nat){x0 x1 x2 x3 x4:D}:List (Nat×Bx):=[(a0,.var x0),(a1,.var x1),(a2,.var x2),(a3,.var x3),(a4,.var x4)]
abbrev WG(a0 a1 a2 a3 a4 a5:Nat){x0 x1 x2 x3 x4 x5:D}:List (Nat×Bx):=[(a0,.var x0),(a1,.var x1),(a2,.var x2),(a3,.var x3),(a4,.var x4),(a5,.var x5)]
abbrev v50(a0 a1 a2 a3 a4 a5 a6:Nat){x0 x1 x2 x3 x4 x5 x6:D}:List (Nat×Bx):=[(a0,.var x0),(a1,.var x1),(a2,.var x2),(a3,.var x3),(a4,.var x4),(a5,.var x5),(a6,.var x6)]
abbrev v71(a0 a1 a2 a3 a4 a5 a6 a7:Nat){x0 x1 x2 x3 x4 x5 x6 x7:D}:List (Nat×Bx):=[(a0,.var x0),(a1,.var x1),(a2,.var x2),(a3,.var x3),(a4,.var x4),(a5,.var x5),(a6,.var x6),(a7,.var x7)]
theorem IS{A0 A1:Type}{a0 b0:A0}{a1 b1:A1}(h:(a0,a1)=(b0,b1)):a0=b0/\a1=b1:=by simpa only[b8] using h
theorem XX{A0 A1 A2:Type}{a0 b0:A0}{a1 b1:A1}{a2 b2:A2}(h:(a0,a1,a2)=(b0,b1,b2)):a0=b0/\a1=b1/\a2=b2:=by simpa only[b8] using h
theorem j86{A0 A1 A2 A3:Type}{a0 b0:A0}{a1 b1:A1}{a2 b2:A2}{a3 b3:A3}(h:(a0,a1,a2,a3)=(b0,b1,b2,b3)):a0=b0/\a1=b1/\a2=b2/\a3=b3:=by simpa only[b8] using h
theorem v42{A0 A1 A2 A3 A4:Type}{a0 b0:A0}{a1 b1:A1}{a2 b2:A2}{a3 b3:A3}{a4 b4:A4}(h:(a0,a1,a2,a3,a4)=(b0,b1,b2,b3,b4)):a0=b0/\a1=b1/\a2=b2/\a3=b3/\a4=b4:=by simpa only[b8] using h
theorem v61{A0 A1 A2 A3 A4 A5:Type}{a0 b0:A0}{a1 b1:A1}{a2 b2:A2}{a3 b3:A3}{a4 b4:A4}{a5 b5:A5}(h:(a0,a1,a2,a3,a4,a5)=(b0,b1,b2,b3,b4,b5)):a0=b0/\a1=b1/\a2=b2/\a3=b3/\a4=b4/\a5=b5:=by simpa only[b8] using h
theorem v20{A0 A1 A2 A3 A4 A5 A6:Type}{a0 b0:A0}{a1 b1:A1}{a2 b2:A2}{a3 b3:A3}{a4 b4:A4}{a5 b5:A5}{a6 b6:A6}(h:(a0,a1,a2,a3,a4,a5,a6)=(b0,b1,b2,b3,b4,b5,b6)):a0=b0/\a1=b1/\a2=b2/\a3=b3/\a4=b4/\a5=b5/\a6=b6:=by simpa only[b8] using h
theorem v60{A0 A1 A2 A3 A4 A5 A6 A7:Type}{a0 b0:A0}{a1 b1:A1}{a2 b2:A2}{a3 b3:A3}{a4 b4:A4}{a5 b5:A5}{a6 b6:A6}{a7 b7:A7}(h:(a0,a1,a2,a3,a4,a5,a6,a7)=(b0,b1,b2,b3,b4,b5,b6,b7)):a0=b0/\a1=b1/\a2=b2/\a3=b3/\a4=b4/\a5=b5/\a6=b6/\a7=b7:=by simpa only[b8] using h
theorem kW{gl:List (Nat×D)}{σ:Sg}(v:Value)(d:D)(h:ev gl σ (.const v)=some d):ev gl σ (.const v)=some d:=h
abbrev F1:=@FrsR.one
theorem mG[Inhabited α]{f:α->D}(l:List α){i:Nat}(h:i<l.length:=by first|omega|(simp only[z9,q9,j3,j5,v5,v8,d6];omega)|(simp;omega)):(l.map f)[i]? = some (f l[i]!):=n8 h
theorem bO{p:Prop}(h:p:=by omega):p:=h
section
variable{P:Program}{C:Ctx}{σ:Sg}{ops:List Oper}{an:List Nat}{ks kk:List (Nat×Nat)}{its:List It}{i t:Nat}{d:D}{ty xt yt rt:TypeId}{pos:String}{aft:Array Edge}{g:Option (Nat×Bool)}{s s' z n m off:Nat}{path:List Nat}{o:Option Nat}{l:List D}
abbrev EO(P:Program)(C:Ctx)(σ:Sg)(an:List Nat)(ks kk:List (Nat×Nat))(its:List It)(i t:Nat)(op:Op)(rt:TypeId)(pos:String)(aft:Array Edge)(g:Option (Nat×Bool))(d:D):Prop:=EB P C σ an ks kk its i ⟨some t,op,rt,pos,aft,g⟩ t d
theorem zA(q__:(facts an ks σ.env its i s,d.pur,KA kk i)=(some d,true,true)):EO P C σ an ks kk its i t (.assign (.tmp s)) rt pos aft g d:=by obtain⟨h,hp,hk⟩:=XX q__;exact λτ _ H K=>by rw[K4 hk];exact Z3 (K _ _ h) hp H
theorem zK(h:ev C.gl σ (.const v)=some d)(q__:(d.pur,KA kk i)=(true,true)):EO P C σ an ks kk its i t (.assign (.const v)) rt pos aft g d:=by obtain⟨hp,hk⟩:=IS q__;exact λτ _ H K=>by rw[K4 hk];exact Z3 (show ev C.gl τ (.const v)=some d from h) hp H
theorem UG(h:ev C.gl σ (.const v)=some d)(q__:(d.pur,KA kk i)=(true,true)):EO P C σ an ks kk its i t (.move (.const v)) rt pos aft g d:=by obtain⟨hp,hk⟩:=IS q__;exact λτ _ H K=>by rw[K4 hk];exact R.mov (show ev C.gl τ (.const v)=some d from h) hp H
theorem zL{p i0:Nat}{n:TypeId}[LdT P ty n gg](q__:(facts an ks σ.env its i p,facts an ks σ.env its i s,d0.loc path,d.pur,d.sz,d.isAgg,KA kk i)=(some (.ep s z i0 off path),some (.sl o z l),some (off,d),true,n,gg,true))(hi:l[i0]? = some d0):EO P C σ an ks kk its i t (.load ty (.tmp p)) rt pos aft g d:=by obtain⟨h,hs,hl,hp,hn,hg,hk⟩:=v20 q__;exact λτ _ H K=>by rw[K4 hk];exact R.ldE (K _ _ h) (SC.sl (K _ _ hs)) hi hl hp hn hg H
theorem GS{p i0:Nat}{n:TypeId}[LdT P ty n gg](q__:(facts an ks σ.env its i p,facts an ks σ.env its i s,facts an ks σ.env its i s',d0.loc path,d.pur,d.sz,d.isAgg,KA kk i)=(some (.ep s z i0 off path),some (.al s'),some (.sl o z l),some (off,d),true,n,gg,true))(hi:l[i0]? = some d0):EO P C σ an ks kk its i t (.load ty (.tmp p)) rt pos aft g d:=by obtain⟨h,hs,hs',hl,hp,hn,hg,hk⟩:=v60 q__;exact λτ _ H K=>by rw[K4 hk];exact R.ldE (K _ _ h) (SC.al (K _ _ hs) (K _ _ hs')) hi hl hp hn hg H
theorem zI{z:Nat}{n:Int}{x:Nat}{e b:Nat}[hT:SlT P ty e][hE:ElT P e z b](k:Nat)(q__:(facts an ks σ.env its i s,facts an ks σ.env its i x,n,KA kk i)=(some (.sl o z l),some (.int n),(k:Int),true))(h1:k<l.length:=by first|omega|(simp only[z9,q9,j3,j5,v5,v8,d6];omega)|(simp;omega))(hst:s≠t:=by decide):EO P C σ an ks kk its i t (.indexAddr ty (.tmp s) (.tmp x)) rt pos aft g (.ep s z k 0 []):=by obtain⟨h,hi,hk,hk2⟩:=j86 q__;exact λτ _ H K=>by rw[K4 hk2];exact R.idxN k (SC.sl (K _ _ h)) (C5 (evt (K _ _ hi))) hk h1 H hst
theorem HR{z:Nat}{n:Int}{x:Nat}{e b:Nat}[hT:SlT P ty e][hE:ElT P e z b](k:Nat)(q__:(facts an ks σ.env its i s,facts an ks σ.env its i s',facts an ks σ.env its i x,n,KA kk i)=(some (.al s'),some (.sl o z l),some (.int n),(k:Int),true))(h1:k<l.length:=by first|omega|(simp only[z9,q9,j3,j5,v5,v8,d6];omega)|(simp;omega))(hst:s≠t:=by decide):EO P C σ an ks kk its i t (.indexAddr ty (.tmp s) (.tmp x)) rt pos aft g (.ep s z k 0 []):=by obtain⟨h,h',hi,hk,hk2⟩:=v42 q__;exact λτ _ H K=>by rw[K4 hk2];exact R.idxN k (SC.al (K _ _ h) (K _ _ h')) (C5 (evt (K _ _ hi))) hk h1 H hst
theorem RF{e b id z:Nat}{n:Int}{x:Nat}[hT:ArT P ty m e][hE:ElT P e z b](k:Nat)(q__:(facts an ks σ.env its i s,facts an ks σ.env its i x,n,KA kk i)=(some (.ptr id off path),some (.int n),(k:Int),true))(h1:k<m:=by first|omega|(simp only[z9,q9,j3,j5,v5,v8,d6];omega)|(simp;omega)):EO P C σ an ks kk its i t (.indexAddr ty (.tmp s) (.tmp x)) rt pos aft g (.ptr id (off+k*z) (path++[k])):=by obtain⟨h,hi,hk,hk2⟩:=j86 q__;exact λτ _ H K=>by rw[K4 hk2];exact R.idxP k (K _ _ h) (C5 (evt (K _ _ hi))) hk h1 H
theorem zN{e:Nat}[hT:SlT P ty e](q__:(facts an ks σ.env its i s,KA kk i)=(some (.sl o z l),true))(hl:l.length=n):EO P C σ an ks kk its i t (.call { callee:=.builtin .len,args:=#[.tmp s],argTypes:=#[ty] }) rt pos aft g (.int ((n:Nat):Int)):=by obtain⟨h,hk⟩:=IS q__;exact λτ _ H K=>by rw[K4 hk];exact E5 (SC.sl (K _ _ h)) hl H
theorem v04{e:Nat}[hT:SlT P ty e](q__:(facts an ks σ.env its i s,facts an ks σ.env its i s',KA kk i)=(some (.al s'),some (.sl o z l),true))(hl:l.length=n):EO P C σ an ks kk its i t (.call { callee:=.builtin .len,args:=#[.tmp s],argTypes:=#[ty] }) rt pos aft g (.int ((n:Nat):Int)):=by obtain⟨h,h',hk⟩:=XX q__;exact λτ _ H K=>by rw[K4 hk];exact E5 (SC.al (K _ _ h) (K _ _ h')) hl H
theorem zM{e:Nat}(q__:(facts an ks σ.env its i s,KA kk i)=(some (.sl (some e) z l),true))(hst:s≠t:=by decide):EO P C σ an ks kk its i t (.move (.tmp s)) rt pos aft g (.al s):=by obtain⟨h,hk⟩:=IS q__;exact λτ _ H K=>by rw[K4 hk];exact R.al (K _ _ h) H hst
theorem zP{x y:Nat}(q__:(facts an ks σ.env its i x,facts an ks σ.env its i y,KA kk i)=(some (.int ((m:Nat):Int)),some (.int ((n:Nat):Int)),true))(q0:m+n<9223372036854775808:=by first|omega|(simp only[z9,q9,j3,j5,v5,v8,d6];omega)|(simp;omega)):EO P C σ an ks kk its i t (.binOp .add xt (.tmp x) (.tmp y) yt) rt pos aft g (.int ((m+n:Nat):Int)):=by obtain⟨hx,hy,hk⟩:=XX q__;exact λτ _ H K=>by rw[K4 hk];exact RA m n (evt (K _ _ hx)) (evt (K _ _ hy)) q0 H
theorem N2{x:Nat}(n:Nat)(q__:(facts an ks σ.env its i x,ev C.gl σ (.const v),KA kk i)=(some (.int ((m:Nat):Int)),some (.int ((n:Nat):Int)),true))(q0:m+n<9223372036854775808:=by first|omega|(simp only[z9,q9,j3,j5,v5,v8,d6];omega)|(simp;omega)):EO P C σ an ks kk its i t (.binOp .add xt (.tmp x) (.const v) yt) rt pos aft g (.int ((m+n:Nat):Int)):=by obtain⟨hx,hy,hk⟩:=XX q__;exact λτ _ H K=>by rw[K4 hk];exact RA m n (evt (K _ _ hx)) (show ev C.gl τ (.const v)=some _ from hy) q0 H
theorem zQ{x y:Nat}(q__:(facts an ks σ.env its i x,facts an ks σ.env its i y,KA kk i)=(some (.int ((m:Nat):Int)),some (.int ((n:Nat):Int)),true))(q0:n<=m:=by first|omega|(simp only[z9,q9,j3,j5,v5,v8,d6];omega)|(simp;omega))(q1:m<9223372036854775808:=by first|omega|(simp only[z9,q9,j3,j5,v5,v8,d6];omega)|(simp;omega)):EO P C σ an ks kk its i t (.binOp .sub xt (.tmp x) (.tmp y) yt) rt pos aft g (.int ((m-n:Nat):Int)):=by obtain⟨hx,hy,hk⟩:=XX q__;exact λτ _ H K=>by rw[K4 hk];exact GG m n (evt (K _ _ hx)) (evt (K _ _ hy)) q0 q1 H
theorem AB{x:Nat}(n:Nat)(q__:(facts an ks σ.env its i x,ev C.gl σ (.const v),KA kk i)=(some (.int ((m:Nat):Int)),some (.int ((n:Nat):Int)),true))(q0:n<=m:=by first|omega|(simp only[z9,q9,j3,j5,v5,v8,d6];omega)|(simp;omega))(q1:m<9223372036854775808:=by first|omega|(simp only[z9,q9,j3,j5,v5,v8,d6];omega)|(simp;omega)):EO P C σ an ks kk its i t (.binOp .sub xt (.tmp x) (.const v) yt) rt pos aft g (.int ((m-n:Nat):Int)):=by obtain⟨hx,hy,hk⟩:=XX q__;exact λτ _ H K=>by rw[K4 hk];exact GG m n (evt (K _ _ hx)) (show ev C.gl τ (.const v)=some _ from hy) q0 q1 H
theorem zS{x y:Nat}(q__:(facts an ks σ.env its i x,facts an ks σ.env its i y,KA kk i)=(some (.int ((m:Nat):Int)),some (.int ((n:Nat):Int)),true)):EO P C σ an ks kk its i t (.binOp .lss xt (.tmp x) (.tmp y) yt) rt pos aft g (.bool (decide (m<n))):=by obtain⟨hx,hy,hk⟩:=XX q__;exact λτ _ H K=>by rw[K4 hk];exact j81 m n (evt (K _ _ hx)) (evt (K _ _ hy)) H
theorem UC{x:Nat}(n:Nat)(q__:(facts an ks σ.env its i x,ev C.gl σ (.const v),KA kk i)=(some (.int ((m:Nat):Int)),some (.int ((n:Nat):Int)),true)):EO P C σ an ks kk its i t (.binOp .lss xt (.tmp x) (.const v) yt) rt pos aft g (.bool (decide (m<n))):=by obtain⟨hx,hy,hk⟩:=XX q__;exact λτ _ H K=>by rw[K4 hk];exact j81 m n (evt (K _ _ hx)) (show ev C.gl τ (.const v)=some _ from hy) H
theorem z23{x:Nat}(n:Nat)(q__:(facts an ks σ.env its i x,ev C.gl σ (.const v),KA kk i)=(some (.int ((m:Nat):Int)),some (.int ((n:Nat):Int)),true)):EO P C σ an ks kk its i t (.binOp .gtr xt (.tmp x) (.const v) yt) rt pos aft g (.bool (decide (n<m))):=by obtain⟨hx,hy,hk⟩:=XX q__;exact λτ _ H K=>by rw[K4 hk];exact q41 m n (evt (K _ _ hx)) (show ev C.gl τ (.const v)=some _ from hy) H
theorem PJ{x:Nat}(n:Nat)(q__:(facts an ks σ.env its i x,ev C.gl σ (.const v),KA kk i)=(some (.int ((m:Nat):Int)),some (.int ((n:Nat):Int)),true)):EO P C σ an ks kk its i t (.binOp .eql xt (.tmp x) (.const v) yt) rt pos aft g (.bool (decide (m=n))):=by obtain⟨hx,hy,hk⟩:=XX q__;exact λτ _ H K=>by rw[K4 hk];exact s3 m n (evt (K _ _ hx)) (show ev C.gl τ (.const v)=some _ from hy) H
theorem v51{x y:Nat}(q__:(facts an ks σ.env its i x,facts an ks σ.env its i y,KA kk i)=(some (.int ((m:Nat):Int)),some (.int ((n:Nat):Int)),true)):EO P C σ an ks kk its i t (.binOp .neq xt (.tmp x) (.tmp y) yt) rt pos aft g (.bool (decide (m≠n))):=by obtain⟨hx,hy,hk⟩:=XX q__;exact λτ _ H K=>by rw[K4 hk];exact GH m n (evt (K _ _ hx)) (evt (K _ _ hy)) H
theorem u31{x:Nat}(n:Nat)(q__:(facts an ks σ.env its i x,ev C.gl σ (.const v),KA kk i)=(some (.int ((m:Nat):Int)),some (.int ((n:Nat):Int)),true)):EO P C σ an ks kk its i t (.binOp .neq xt (.tmp x) (.const v) yt) rt pos aft g (.bool (decide (m≠n))):=by obtain⟨hx,hy,hk⟩:=XX q__;exact λτ _ H K=>by rw[K4 hk];exact GH m n (evt (K _ _ hx)) (show ev C.gl τ (.const v)=some _ from hy) H
theorem zB{op:BinOp}{x y:Nat}{dy:D}(q__:(facts an ks σ.env its i x,facts an ks σ.env its i y,arith op dx dy,KA kk i)=(some dx,some dy,some (True,d),true)):EO P C σ an ks kk its i t (.binOp op xt (.tmp x) (.tmp y) yt) rt pos aft g d:=by obtain⟨hx,hy,ha,hk⟩:=j86 q__;exact λτ _ H K=>by rw[K4 hk];exact R.bin (evt (K _ _ hx)) (evt (K _ _ hy)) ha trivial H
theorem UH{op:BinOp}{x:Nat}{dy:D}(q__:(facts an ks σ.env its i x,arith op dx dy,KA kk i)=(some dx,some (True,d),true))(hy:ev C.gl σ (.const v)=some dy):EO P C σ an ks kk its i t (.binOp op xt (.tmp x) (.const v) yt) rt pos aft g d:=by obtain⟨hx,ha,hk⟩:=XX q__;exact λτ _ H K=>by rw[K4 hk];exact R.bin (evt (K _ _ hx)) (show ev C.gl τ (.const v)=some _ from hy) ha trivial H
theorem zW{src dst:TypeId}{k k0:IntKind}{x:Nat}[h0:IkT P src k0][hT:IkT P dst k](q__:(facts an ks σ.env its i x,FI k dx,KA kk i)=(some dx,some d,true)):EO P C σ an ks kk its i t (.convert src dst (.tmp x)) rt pos aft g d:=by obtain⟨hx,ha,hk⟩:=XX q__;exact λτ _ H K=>by rw[K4 hk];exact R.conv (evt (K _ _ hx)) ha H
theorem AC{op:UnOp}{x:Nat}(q__:(facts an ks σ.env its i x,u50 op dx,KA kk i)=(some dx,some d,true)):EO P C σ an ks kk its i t (.unOp op xt (.tmp x)) rt pos aft g d:=by obtain⟨hx,ha,hk⟩:=XX q__;exact λτ _ H K=>by rw[K4 hk];exact R.un (evt (K _ _ hx)) ha H
theorem zT{c x:Nat}{y:Operand}{b:Bool}(q__:(facts an ks σ.env its i c,facts an ks σ.env its i x,d.pur,KA kk i)=(some (.bool b),some d,true,true))(hb:b=true):EO P C σ an ks kk its i t (.pick (.tmp c) (.tmp x) y) rt pos aft g d:=by obtain⟨hc,hx,hp,hk⟩:=j86 q__;exact λτ _ H K=>by rw[K4 hk];exact E4 (evt (K _ _ hc)) hb (evt (K _ _ hx)) hp H
theorem z89{c:Nat}{y:Operand}{b:Bool}(q__:(facts an ks σ.env its i c,d.pur,KA kk i)=(some (.bool b),true,true))(hb:b=true)(hx:ev C.gl σ (.const v)=some d):EO P C σ an ks kk its i t (.pick (.tmp c) (.const v) y) rt pos aft g d:=by obtain⟨hc,hp,hk⟩:=XX q__;exact λτ _ H K=>by rw[K4 hk];exact E4 (evt (K _ _ hc)) hb (show ev C.gl τ (.const v)=some _ from hx) hp H
theorem zF{c x:Nat}{y:Operand}{b:Bool}(q__:(facts an ks σ.env its i c,facts an ks σ.env its i x,d.pur,KA kk i)=(some (.bool b),some d,true,true))(hb:b=false):EO P C σ an ks kk its i t (.pick (.tmp c) y (.tmp x)) rt pos aft g d:=by obtain⟨hc,hx,hp,hk⟩:=j86 q__;exact λτ _ H K=>by rw[K4 hk];exact KG (evt (K _ _ hc)) hb (evt (K _ _ hx)) hp H
theorem RI{c:Nat}{y:Operand}{b:Bool}(q__:(facts an ks σ.env its i c,d.pur,KA kk i)=(some (.bool b),true,true))(hb:b=false)(hx:ev C.gl σ (.const v)=some d):EO P C σ an ks kk its i t (.pick (.tmp c) y (.const v)) rt pos aft g d:=by obtain⟨hc,hp,hk⟩:=XX q__;exact λτ _ H K=>by rw[K4 hk];exact KG (evt (K _ _ hc)) hb (show ev C.gl τ (.const v)=some _ from hx) hp H
def k92:List (Nat×Nat)->Nat->Nat->Bool
 | [],_,_=>false
 | (k,x)::r,i,s=>bif Nat.beq k i then Nat.beq x s&&KA r i else k92 r i s
theorem q75{i s:Nat}:∀ {kk:List (Nat×Nat)},k92 kk i s=true->ZX τ kk i=τ.kill s:=by
 intro kk
 induction kk with
 | nil=>intro h;cases h
 | cons y r ih=>
  obtain⟨k,x⟩:=y;intro h;rw[k92] at h;rw[ZX]
  cases hb:Nat.beq k i with
  | true=>
   rw[hb,m9,u6] at h;rw[m9,m8 h.1];exact K4 h.2
  | false=>rw[hb,d7] at h;rw[d7];exact ih h
theorem zO(q__:(facts an ks σ.env its i s,d.isRef,k92 kk i s)=(some d,false,true))(hst:s≠t:=by decide):EO P C σ an ks kk its i t (.assign (.tmp s)) rt pos aft g d:=by obtain⟨h,hd,hk⟩:=XX q__;exact λτ _ H K=>by rw[q75 hk];exact R.asgO (K _ _ h) hd H hst
theorem zV(q__:(facts an ks σ.env its i s,d.pur,KA kk i)=(some d,true,true)):EO P C σ an ks kk its i t (.move (.tmp s)) rt pos aft g d:=by obtain⟨h,hp,hk⟩:=XX q__;exact λτ _ H K=>by rw[K4 hk];exact R.mov (evt (K _ _ h)) hp H
theorem YK{y:Nat}(m:Nat)(q__:(ev C.gl σ (.const v),facts an ks σ.env its i y,KA kk i)=(some (.int ((m:Nat):Int)),some (.int ((n:Nat):Int)),true))(q0:m*n<9223372036854775808:=by first|omega|(simp only[z9,q9,j3,j5,v5,v8,d6];omega)|(simp;omega)):EO P C σ an ks kk its i t (.binOp .mul xt (.const v) (.tmp y) yt) rt pos aft g (.int ((m*n:Nat):Int)):=by obtain⟨hx,hy,hk⟩:=XX q__;exact λτ _ H K=>by rw[K4 hk];exact AK m n (show ev C.gl τ (.const v)=some _ from hx) (evt (K _ _ hy)) q0 H
theorem UI{s0 x e z b:Nat}{l l' l2:List D}[hT:SlT P ty e][hE:ElT P e z b](q__:(facts an ks σ.env its i s,facts an ks σ.env its i s0,facts an ks σ.env its i x,k92 kk i s0)=(some (.al s0),some (.sl (some e) z l),some (.sl o z l'),true))(hp:∀ y∈l',y.pur=true)(he:l++l'=l2)(hn:l.length+l'.length<=1073741824)(hst:s0≠t:=by decide)(hby:b<=131072:=by decide):EO P C σ an ks kk its i t (.call { callee:=.builtin .append,args:=#[.tmp s,.tmp x],argTypes:=#[ty,ty] }) rt pos aft g (.sl (some e) z l2):=by obtain⟨ha,hs,hx,hk⟩:=j86 q__;exact λτ _ H K=>by rw[q75 hk];exact O6 (Or.inr (K _ _ ha)) (K _ _ hs) (SrcO.sc (SC.sl (K _ _ hx)) hp) he hn H hst hby
theorem zX{k:Nat}{ds:List D}(q__:(facts an ks σ.env its i s,ds[k]?,d.pur,KA kk i)=(some (.tup ds),some d,true,true)):EO P C σ an ks kk its i t (.extract (.tmp s) k) rt pos aft g d:=by obtain⟨h,hd,hp,hk⟩:=j86 q__;exact λτ _ H K=>by rw[K4 hk];exact R.ext (K _ _ h) hd hp H
theorem zY{ds:List D}(q__:(facts an ks σ.env its i s,HF ds,KA kk i)=(some (.tup ds),true,true)):EO P C σ an ks kk its i t (.move (.tmp s)) rt pos aft g (.tup ds):=by obtain⟨h,hp,hk⟩:=XX q__;exact λτ _ H K=>by rw[K4 hk];exact R.movT (K _ _ h) hp H
theorem UF{x i0 off' sT f:Nat}[FdT P sT f off'](q__:(facts an ks σ.env its i x,KA kk i)=(some (.ep s' z i0 off path),true))(hst:s'≠t:=by decide):EO P C σ an ks kk its i t (.fieldAddr sT (.tmp x) f) rt pos aft g (.ep s' z i0 (off+off') (path++[f])):=by obtain⟨h,hk⟩:=IS q__;exact λτ _ H K=>by rw[K4 hk];exact R.fdE (K _ _ h) H hst
theorem HL{id:Nat}(q__:(facts an ks σ.env its i s,KA kk i)=(some (.ptr id off path),true)):EO P C σ an ks kk its i t (.nilCheck (.tmp s)) rt pos aft g (.ptr id off path):=by obtain⟨h,hk⟩:=IS q__;exact λτ _ H K=>by rw[K4 hk];exact R.nilcP (K _ _ h) H
theorem zC{f:FuncId}[CaT P f]{gl:List (Nat×D)}{x:Nat}(hC:C.gl=gl)(hF:Fn P gl f [dx] d)(q__:(facts an ks σ.env its i x,dx.pur,dx.np,KA kk i)=(some dx,true,true,true))(hr:FrsR d):EO P C σ an ks kk its i t (.call { callee:=.value (.func f),args:=[Operand.tmp x].toArray,argTypes:=tys }) rt pos aft g d:=by obtain⟨hx,hp,hn,hk⟩:=j86 q__;exact λτ _ H K=>by rw[K4 hk];exact o9 hC hF (.cons (.pur (evt (K _ _ hx)) hp hn) .nil) hr H
theorem zD{f:FuncId}[CaT P f]{gl:List (Nat×D)}{x y:Nat}{dy:D}(hC:C.gl=gl)(hF:Fn P gl f [dx,dy] d)(q__:(facts an ks σ.env its i x,dx.pur,dx.np,facts an ks σ.env its i y,dy.pur,dy.np,KA kk i)=(some dx,true,true,some dy,true,true,true))(hr:FrsR d):EO P C σ an ks kk its i t (.call { callee:=.value (.func f),args:=[Operand.tmp x,.tmp y].toArray,argTypes:=tys }) rt pos aft g d:=by obtain⟨hx,hp,hn,hy,hp',hn',hk⟩:=v20 q__;exact λτ _ H K=>by rw[K4 hk];exact o9 hC hF (.cons (.pur (evt (K _ _ hx)) hp hn) (.cons (.pur (evt (K _ _ hy)) hp' hn') .nil)) hr H
theorem GT{f:FuncId}[CaT P f]{gl:List (Nat×D)}{x:Nat}{dy:D}(hC:C.gl=gl)(hF:Fn P gl f [dx,dy] d)(q__:(facts an ks σ.env its i x,dx.pur,dx.np,dy.pur,dy.np,KA kk i)=(some dx,true,true,true,true,true))(hy:ev C.gl σ (.const v)=some dy)(hr:FrsR d):EO P C σ an ks kk its i t (.call { callee:=.value (.func f),args:=[Operand.tmp x,.const v].toArray,argTypes:=tys }) rt pos aft g d:=by obtain⟨hx,hp,hn,hp',hn',hk⟩:=v61 q__;exact λτ _ H K=>by rw[K4 hk];exact o9 hC hF (.cons (.pur (evt (K _ _ hx)) hp hn) (.cons (.pur (show ev C.gl τ (.const v)=some _ from hy) hp' hn') .nil)) hr H
end
section
variable{P:Program}{C:Ctx}{σ:Sg}{ops:List Oper}{Q:Exit->Sg->Prop}{l:List Oper}{t s:Nat}{d:D}{ty rt:TypeId}{pos:String}{aft:Array Edge}
theorem M7[hZ:ZrT P ty d](q__:(σ.box t,Nat.ble (t+1) σ.n)=(none,true))(k:TL P C Q l ((σ.newB t (.var d)).set t (.ptr t 0 []))):TL P C Q (⟨some t,.alloc ty,rt,pos,aft,none⟩::l) σ:=by obtain⟨hid,ht⟩:=IS q__;exact⟨rfl,_,R.alloc hid (g0 ht),k⟩
theorem JP(q__:(σ.get s,d.pur,Nat.ble (t+1) σ.n)=(some d,true,true))(k:TL P C Q l (σ.set t d)):TL P C Q (⟨some t,.assign (.tmp s),rt,pos,aft,none⟩::l) σ:=by obtain⟨h,hp,ht⟩:=XX q__;exact⟨rfl,_,Z3 (evt h) hp (g0 ht),k⟩
theorem B2{p id:Nat}{d1 d':D}{n:TypeId}[LdT P ty n gg]{x:Nat}(q__:(σ.get p,σ.box id,d0.loc path,σ.get x,d0.upd path dx)=(some (.ptr id off path),some (.var d0),some (off,d1),some dx,some d'))(k:TL P C Q l (σ.putB id (.var d')))(hp:dx.pur=true:=by rfl)(hnp:dx.np=true:=by rfl)(hn:dx.sz=n:=by rfl)(hz:d1.sz=n:=by rfl):TL P C Q (⟨none,.store ty (.tmp p) (.tmp x),rt,pos,aft,none⟩::l) σ:=by obtain⟨h,hb,hl,hx,hu⟩:=v42 q__;exact⟨rfl,_,XP h hb hl (evt hx) hp hnp hn hz hu,k⟩
theorem W.dr{id n':Nat}{an:List Nat}{ks kk:List (Nat×Nat)}{its:List It}{σ:Sg}(hm:P.follows .mixedOrders=true)(hA0:YU ops an m=true)(hlen:its.length=m)(H:ItOk P C σ ops an ks kk its)(hE:picks (afts an (λ_=>true) ks σ.env its) (env'.map (·.1))=env')
 (hb:σ.bx=bx') (hn:σ.n=n') (hT:TL P C Q (ops.drop its.length) ⟨n',env',bx'⟩):W P C (.region id ops.toArray true) Q σ:=q38 hm hA0 hlen H hE hb hn hT
theorem iL{P:Program}(t n:TypeId)[h:LdT P t n true]:LdT P t n true:=h
theorem v38{c:Code}{σ:Sg}(env':List (Nat×D))(bx':List (Nat×Bx))(n':Nat)(hE:picks σ.get (env'.map (·.1))=env')(hb:σ.bx=bx')(hn:σ.n=n')(h:W P C c Q ⟨n',env',bx'⟩):W P C c Q σ:=w03 hE hb hn h
theorem w02{env:List (Nat×D)}{id:Nat}(m:Nat)(its:List It)(ks kk:List (Nat×Nat))(env':List (Nat×D))
 (H:AllOps P C ⟨nn,env,bx⟩ ops (W2 m 0) ks kk its ops its 0) (h:z88 nn m ks kk its env ops.length=true) (hE:picks (afts (W2 m 0) (λ_=>true) ks env its) (env'.map (·.1))=env')
 (hT:TL P C Q (ops.drop its.length) ⟨nn,env',bx⟩):W P C (.region id ops.toArray false) Q ⟨nn,env,bx⟩:=HO m its ks kk env' bx nn H h hE rfl rfl hT
theorem R0{env:List (Nat×D)}{id:Nat}(m:Nat)(its:List It)(env':List (Nat×D))
 (H:AllOps P C ⟨nn,env,bx⟩ ops (W2 m 0) [] [] its ops its 0) (q:Q .normal ⟨nn,env',bx⟩) (h:z88 nn m [] [] its env ops.length=true:=by rfl) (hE:picks (afts (W2 m 0) (λ_=>true) [] env its) (env'.map (·.1))=env':=by rfl)
 (hd:ops.drop its.length=[]:=by rfl) (hp:picks (Sg.get ⟨nn,env',bx⟩) (env'.map (·.1))=env':=by rfl):W P C (.region id ops.toArray false) Q ⟨nn,env,bx⟩:=w02 m its [] [] env' H h hE (by rw[hd];exact tU hp q)
theorem u15{y:Code}{env:List (Nat×D)}{id:Nat}(m:Nat)(its:List It)(env':List (Nat×D))
 (H:AllOps P C ⟨nn,env,bx⟩ ops (W2 m 0) [] [] its ops its 0) (q:W P C y Q ⟨nn,env',bx⟩) (h:z88 nn m [] [] its env ops.length=true:=by rfl) (hE:picks (afts (W2 m 0) (λ_=>true) [] env its) (env'.map (·.1))=env':=by rfl)
 (hd:ops.drop its.length=[]:=by rfl) (hp:picks (Sg.get ⟨nn,env',bx⟩) (env'.map (·.1))=env':=by rfl):W P C (.seq (.region id ops.toArray false) y) Q ⟨nn,env,bx⟩:=W.seq (R0 m its env' H q h hE hd hp)
theorem v37{y:Code}{env:List (Nat×D)}{id:Nat}(m:Nat)(its:List It)(ks kk:List (Nat×Nat))(env':List (Nat×D))
 (H:AllOps P C ⟨nn,env,bx⟩ ops (W2 m 0) ks kk its ops its 0) (h:z88 nn m ks kk its env ops.length=true) (hE:picks (afts (W2 m 0) (λ_=>true) ks env its) (env'.map (·.1))=env')
 (hT:TL P C (λe s=>match e with | .normal=>W P C y Q s|e=>Q e s) (ops.drop its.length) ⟨nn,env',bx⟩):W P C (.seq (.region id ops.toArray false) y) Q ⟨nn,env,bx⟩:=W.seq (w02 m its ks kk env' H h hE hT)
end
section
variable{P:Program}{C:Ctx}{σ:Sg}{ops:List Oper}{Q:Exit->Sg->Prop}{an:List Nat}{ks kk:List (Nat×Nat)}{its:List It}{i t:Nat}{d:D}{ty rt:TypeId}{pos:String}{aft:Array Edge}{g:Option (Nat×Bool)}{s off id:Nat}{path:List Nat}{nn:Nat}{env:List (Nat×D)}{bx:List (Nat×Bx)}{y:Code}
theorem xM(q:(facts an ks σ.env its i s,d.pur&&KA kk i)=(some d,true)):Ent P C σ ops an ks kk its i ⟨some t,.move (.tmp s),ty,pos,aft,none⟩ t d true:=mU s (IS q).1 (IS q).2
theorem xF{off':Nat}{s f x:Nat}[FdT P s f off'](q:(facts an ks σ.env its i x,KA kk i)=(some (.ptr id off path),true)):EB P C σ an ks kk its i ⟨some t,.fieldAddr s (.tmp x) f,rt,pos,aft,g⟩ t (.ptr id (off+off') (path++[f])):=fU x (IS q).1 (IS q).2
theorem xL{n:TypeId}[LdT P ty n gg]{p:Nat}
 (q:(facts an ks σ.env its i p,lk σ.bx id,d0.loc path,d.pur,d.sz,d.isAgg,KA kk i)=(some (.ptr id off path),some (.var d0),some (off,d),true,n,gg,true)) :
 EB P C σ an ks kk its i ⟨some t,.load ty (.tmp p),rt,pos,aft,g⟩ t d:=by obtain⟨h1,h2,h3,h4,h5,h6,h7⟩:=v20 q;exact lU p h1 h2 h3 h4 h5 h6 h7
theorem aT{op:Op}{b:Bool}{k:Nat}(q:((ops[k]?).bind (·.dst),facts an ks σ.env its i tg,want)=(some tg,some (.bool b),true))(h:b=true)(f:EB P C σ an ks kk its i ⟨some t,op,ty,pos,aft,some (k,want)⟩ t d) :
 Ent P C σ ops an ks kk its i ⟨some t,op,ty,pos,aft,some (k,want)⟩ t d true:=aW (XX q).1 (XX q).2.1 (gT h (by rw[(XX q).2.2];rfl)) f
theorem aN{op:Op}{b:Bool}{k:Nat}(q:((ops[k]?).bind (·.dst),facts an ks σ.env its i tg,want)=(some tg,some (.bool b),false))(h:b=false)(f:EB P C σ an ks kk its i ⟨some t,op,ty,pos,aft,some (k,want)⟩ t d) :
 Ent P C σ ops an ks kk its i ⟨some t,op,ty,pos,aft,some (k,want)⟩ t d true:=aW (XX q).1 (XX q).2.1 (gF h (by rw[(XX q).2.2];rfl)) f
theorem GR{op:Op}{b:Bool}{k:Nat}(q:((ops[k]?).bind (·.dst),facts an ks σ.env its i tg,want)=(some tg,some (.bool b),false))(h:b=true) :
 Ent P C σ ops an ks kk its i ⟨some t,op,ty,pos,aft,some (k,want)⟩ t .dead false:=aF (XX q).1 (XX q).2.1 (gT h (by rw[(XX q).2.2];rfl))
theorem L0{op:Op}{b:Bool}{k:Nat}(q:((ops[k]?).bind (·.dst),facts an ks σ.env its i tg,want)=(some tg,some (.bool b),true))(h:b=false) :
 Ent P C σ ops an ks kk its i ⟨some t,op,ty,pos,aft,some (k,want)⟩ t .dead false:=aF (XX q).1 (XX q).2.1 (gF h (by rw[(XX q).2.2];rfl))
theorem r6(n:Nat){v:Int}(q:(ev C.gl σ (.const (.int .i64 v)),KA kk i)=(some (.int ((n:Nat):Int)),true)):EO P C σ an ks kk its i t (.assign (.const (.int .i64 v))) rt pos aft g (.int ((n:Nat):Int)):=zK (IS q).1 (by rw[(IS q).2];rfl)
theorem QX(q:(ev C.gl σ (.const v),d.pur,KA kk i)=(some d,true,true)):EO P C σ an ks kk its i t (.assign (.const v)) rt pos aft g d:=by obtain⟨h,hp,hk⟩:=XX q;exact zK h (by rw[hp,hk])
theorem WH(d:D)(q:(ev C.gl σ (.const v),d.pur,KA kk i)=(some d,true,true)):EO P C σ an ks kk its i t (.assign (.const v)) rt pos aft g d:=QX q
theorem R2{f:α->D}{e:Nat}{l:List α}{o:Option Nat}{z:Nat}[hT:SlT P ty e](q:(facts an ks σ.env its i s,KA kk i)=(some (.sl o z (l.map f)),true)):EO P C σ an ks kk its i t (.call { callee:=.builtin .len,args:=#[.tmp s],argTypes:=#[ty] }) rt pos aft g (.int ((l.length:Nat):Int)):=zN q (lN _)
theorem tW{T:Exit->Sg->Prop}(e:List (Nat×D))(b:List (Nat×Bx))(n:Nat)(q:(picks σ.get (e.map (·.1)),σ.bx,σ.n)=(e,b,n))(h:T .normal ⟨n,e,b⟩):TL P C T [] σ:=tV e b n (XX q).1 (XX q).2.1 (XX q).2.2 h
theorem A8{c:Code}{σ:Sg}(e:List (Nat×D))(b:List (Nat×Bx))(n:Nat)(q:(picks σ.get (e.map (·.1)),σ.bx,σ.n)=(e,b,n))(h:W P C c Q ⟨n,e,b⟩):W P C c Q σ:=v38 e b n (XX q).1 (XX q).2.1 (XX q).2.2 h
theorem XU{id:Nat}(m:Nat)(its:List It)(ks kk:List (Nat×Nat))(env':List (Nat×D))
 (H:AllOps P C ⟨nn,env,bx⟩ ops (W2 m 0) ks kk its ops its 0) (q:(z88 nn m ks kk its env ops.length,picks (afts (W2 m 0) (λ_=>true) ks env its) (env'.map (·.1)))=(true,env'))
 (hT:TL P C Q (ops.drop its.length) ⟨nn,env',bx⟩):W P C (.region id ops.toArray false) Q ⟨nn,env,bx⟩:=w02 m its ks kk env' H (IS q).1 (IS q).2 hT
theorem M3{id:Nat}(m:Nat)(its:List It)(ks kk:List (Nat×Nat))(env':List (Nat×D))
 (H:AllOps P C ⟨nn,env,bx⟩ ops (W2 m 0) ks kk its ops its 0) (q:(z88 nn m ks kk its env ops.length,picks (afts (W2 m 0) (λ_=>true) ks env its) (env'.map (·.1)))=(true,env'))
 (hT:TL P C (λe s=>match e with | .normal=>W P C y Q s|e=>Q e s) (ops.drop its.length) ⟨nn,env',bx⟩):W P C (.seq (.region id ops.toArray false) y) Q ⟨nn,env,bx⟩:=v37 m its ks kk env' H (IS q).1 (IS q).2 hT
def q44(P:Program)(C:Ctx)(σ:Sg)(an:List Nat)(ks kk:List (Nat×Nat))(its:List It):List Oper->List It->Nat->Prop
 | o::os,⟨t,d,_⟩::r,i=>EB P C σ an ks kk its i o t d/\q44 P C σ an ks kk its os r (i+1)
 | [],_::_,_=>False
 | _,[],_=>True
def w20:List Oper->List It->Bool
 | o::os,⟨t,_,w⟩::r=>(match o.dst with|some t'=>Nat.beq t' t|none=>false)&&o.guard.isNone&&w&&w20 os r
 | _,[]=>true
 | [],_::_=>false
theorem j66{c:List It}:∀ {os:List Oper} {r:List It} {i:Nat},q44 P C σ an ks kk c os r i->w20 os r=true->AllOps P C σ ops an ks kk c os r i:=by
 intro os
 induction os with
 | nil=>
  intro r i h hu
  cases r with
  | nil=>trivial
  | cons _ _=>exact h
 | cons o os ih=>
  intro r i h hu
  cases r with
  | nil=>trivial
  | cons x r=>
   obtain⟨t,d,w⟩:=x;simp only[w20,u6,D5] at hu;obtain⟨⟨⟨h1,h2⟩,h3⟩,h4⟩:=hu
   have hd:o.dst=some t:=by
    cases hx:o.dst with
    | none=>simp[hx] at h1
    | some t'=>rw[hx] at h1;rw[m8 h1]
   refine⟨⟨hd, ?_,λ_=>h.1⟩,ih h.2 h4⟩;unfold Wt;rw[h2];exact h3
theorem m7{id:Nat}(m:Nat)(its:List It)(env':List (Nat×D))(H:q44 P C ⟨nn,env,bx⟩ (W2 m 0) [] [] its ops its 0)(q:Q .normal ⟨nn,env',bx⟩)
 (h:(z88 nn m [] [] its env ops.length&&w20 ops its,picks (afts (W2 m 0) (λ_=>true) [] env its) (env'.map (·.1)),ops.drop its.length,picks (Sg.get ⟨nn,env',bx⟩) (env'.map (·.1)))=(true,env',[],env'):=by rfl):W P C (.region id ops.toArray false) Q ⟨nn,env,bx⟩:=by
 obtain⟨h,hE,hd,hp⟩:=j86 h;rw[u6] at h;exact R0 m its env' (j66 H h.2) q h.1 hE hd hp
theorem u7{id:Nat}(m:Nat)(its:List It)(env':List (Nat×D))(H:q44 P C ⟨nn,env,bx⟩ (W2 m 0) [] [] its ops its 0)(q:W P C y Q ⟨nn,env',bx⟩)
 (h:(z88 nn m [] [] its env ops.length&&w20 ops its,picks (afts (W2 m 0) (λ_=>true) [] env its) (env'.map (·.1)),ops.drop its.length,picks (Sg.get ⟨nn,env',bx⟩) (env'.map (·.1)))=(true,env',[],env'):=by rfl):W P C (.seq (.region id ops.toArray false) y) Q ⟨nn,env,bx⟩:=W.seq (m7 m its env' H q h)
theorem O3{id:Nat}(m:Nat)(its:List It)(env':List (Nat×D))(H:q44 P C ⟨nn,env,bx⟩ (W2 m 0) [] [] its ops its 0)
 (q:(z88 nn m [] [] its env ops.length&&w20 ops its,picks (afts (W2 m 0) (λ_=>true) [] env its) (env'.map (·.1)))=(true,env'))
 (hT:TL P C Q (ops.drop its.length) ⟨nn,env',bx⟩):W P C (.region id ops.toArray false) Q ⟨nn,env,bx⟩:=by
 have h:=(IS q).1;rw[u6] at h;exact w02 m its [] [] env' (j66 H h.2) h.1 (IS q).2 hT
theorem c6{id:Nat}(m:Nat)(its:List It)(env':List (Nat×D))(H:q44 P C ⟨nn,env,bx⟩ (W2 m 0) [] [] its ops its 0)
 (q:(z88 nn m [] [] its env ops.length&&w20 ops its,picks (afts (W2 m 0) (λ_=>true) [] env its) (env'.map (·.1)))=(true,env'))
 (hT:TL P C (λe s=>match e with | .normal=>W P C y Q s|e=>Q e s) (ops.drop its.length) ⟨nn,env',bx⟩):W P C (.seq (.region id ops.toArray false) y) Q ⟨nn,env,bx⟩:=W.seq (O3 m its env' H q hT)
theorem ED{c:Code}(N:Nat)(p:Nat->Prop)(S:Nat->Sg)(hp:0<=N/\p 0)(h0:σ=S 0)(h:∀ i,i<=N/\p i->W P C c (λe s=>match e with | .normal=>(i+1<=N/\p (i+1))/\s=S (i+1)|e=>Q e s) (S i)):W P C (.loop c) Q σ:=
 W.loop (α:={q//q<=N/\p q}) (λq=>S q.1) (λq=>N-q.1) ⟨0,hp⟩ h0 λ⟨i,hi⟩=>W.mono (h i hi) λe s he=>by
  cases e<;>first|exact he|exact⟨⟨i+1,he.1⟩,he.2,by have:=he.1.1;show N-(i+1)<N-i;omega⟩
theorem P6{c:Code}(N:Nat)(S:Nat->Sg)(h0:σ=S 0)(h:∀ i,i<=N->W P C c (λe s=>match e with | .normal=>i+1<=N/\s=S (i+1)|e=>Q e s) (S i)):W P C (.loop c) Q σ:=
 ED N (λ_=>True) S ⟨g9 _,trivial⟩ h0 λi hi=>W.mono (h i hi.1) λe s he=>by cases e<;>first|exact he|exact⟨⟨he.1,trivial⟩,he.2⟩
theorem Fo{gl:List (Nat×D)}{f:FuncId}{fn:Func}{c:Code}{ds:List D}{r:D}(n:Nat)(hf:P.funcs[f]? = some fn)(q:(fn.body,fn.ntmps,ds.all (λd=>!d.isRef),Nat.ble ds.length n)=(some c,n,true,true))
 (h:∀ C:Ctx,C.gl=gl->(∀ id b,C.pin id=some b->N3 [] id=true)->W P C c (Ends fn.results.toList P r) ⟨n,ini 0 ds,[]⟩):Fn P gl f ds r:=by
 obtain⟨h1,h2,h3,h4⟩:=j86 q;exact Fn.of hf h1 h2 h3 (g0 h4) h
theorem En{rv:ResultVar}{r r':D}(q:(YI σ rv,r.isRef,r.np)=(some r',false,true))(hr:r'=r)(h3:WY P r rv:=by exact trivial):Ends [rv] P r .ret σ:=.one' (.inr rfl) (XX q).1 hr (XX q).2.1 (XX q).2.2 h3
theorem Eo{rv:ResultVar}{r:D}(q:(YI σ rv,r.isRef,r.np)=(some r,false,true))(h3:WY P r rv:=by exact trivial):Ends [rv] P r .ret σ:=En q rfl h3
def v21(n:Nat)(an:List Nat)(ks kk:List (Nat×Nat))(its:List It)(env:List (Nat×D))(l:Nat):Bool:=
 Nat.ble its.length l&&TY n (slots its)&&PG an ks (slots its) its 0&&subs kk ks&&PH (slots its) env
theorem KL{id:Nat}(m:Nat)(an:List Nat)(hm:P.follows .mixedOrders=true)(hA:YU ops an m=true)(its:List It)(ks kk:List (Nat×Nat))(env':List (Nat×D))
 (H:AllOps P C ⟨nn,env,bx⟩ ops an ks kk its ops its 0) (q:(v21 nn an ks kk its env ops.length,its.length,picks (afts an (λ_=>true) ks env its) (env'.map (·.1)))=(true,m,env'))
 (hT:TL P C Q (ops.drop its.length) ⟨nn,env',bx⟩):W P C (.region id ops.toArray true) Q ⟨nn,env,bx⟩:=by
 obtain⟨h1,h2,h3⟩:=XX q;unfold v21 at h1;simp only[u6] at h1;exact q38 hm hA h2 ⟨g0 h1.1.1.1.1,h1.1.1.1.2,H,h1.1.1.2,h1.1.2,h1.2⟩ h3 rfl rfl hT
theorem T5{id:Nat}(m:Nat)(an:List Nat)(hm:P.follows .mixedOrders=true)(hA:YU ops an m=true)(its:List It)(env':List (Nat×D))
 (H:q44 P C ⟨nn,env,bx⟩ an [] [] its ops its 0) (q:(v21 nn an [] [] its env ops.length&&w20 ops its,its.length,picks (afts an (λ_=>true) [] env its) (env'.map (·.1)))=(true,m,env'))
 (hT:TL P C Q (ops.drop its.length) ⟨nn,env',bx⟩):W P C (.region id ops.toArray true) Q ⟨nn,env,bx⟩:=by
 obtain⟨h1,h2,h3⟩:=XX q;rw[u6] at h1;exact KL m an hm hA its [] [] env' (j66 H h1.2) (by rw[h1.1,h2,h3]) hT
end
section
variable{P:Program}{C:Ctx}{σ σ' σ1:Sg}{a:Act}{w w':World}{ρ:Nat->Nat}{Fe Fe' Fb:Nat->List Nat}
theorem PF{e:TypeId}[hk:IkT P e .u64][hL:LdT P e 1 false](w:World)(d:Nat)(xs ys:List UInt64)(n:Nat)(hx:xs.length=n)(hy:ys.length=n)(cx cy:Array Value)
 (h1:cx.toList=xs.map (λb=>Value.int .u64 b.toNat)) (h2:cy.toList=ys.map (λb=>Value.int .u64 b.toNat)):∀ (l:List Nat),(∀ i∈l,i<n) ->
 (Op.eqItems (d+1) e 1 cx cy l).run P w=.ok (l.all λi=>xs[i]? == ys[i]?) w:=by
 intro l
 induction l with
 | nil=>intro _;simp[Op.eqItems]
 | cons i l ih=>
  intro h;have hi:=h i (by simp)
  have hp:∀ (cs:Array Value) (zs:List UInt64) (hz:zs.length=n),cs.toList=zs.map (λb=>Value.int .u64 b.toNat)->(part e cs (i*1)).run P w=.ok (.int .u64 (zs[i]'(by omega)).toNat) w:=by
   intro cs zs hz hc
   have hi':i<cs.size:=by
    have:=g8 List.length hc;simp at this;omega
   have:cs[i]=.int .u64 (zs[i]'(by omega)).toNat:=by
    have e1:cs.toList[i]'(by simpa using hi')=(zs.map (λb=>Value.int .u64 b.toNat))[i]'(by simp;omega):=by simp only[hc]
    simpa using e1
   simp[part,LdT.agg (P:=P) (t:=e),hi',this]
  have e3:=hp cx xs hx h1;have e4:=hp cy ys hy h2
  obtain⟨k,hku⟩:∃ k,P.underlying e=some (.int k):=⟨_,hk.u⟩
  have e5:=run_equalIn_int (P:=P) w d e .u64 k (xs[i]'(by omega)).toNat (ys[i]'(by omega)).toNat hku;have ex:xs[i]? = some (xs[i]'(by omega)):=j8 _;have ey:ys[i]? = some (ys[i]'(by omega)):=j8 _
  have eb:((((xs[i]'(by omega)).toNat:Int))==(((ys[i]'(by omega)).toNat:Int)))=(xs[i]? == ys[i]?):=by
   rw[ex,ey,RY];rfl
  have ih':=ih (λj hj=>h j (j1 _ hj));simp only[Op.eqItems,Sem.run_bind,e3,e4,e5,Result.andThen_ok,eb,E6]
  cases hb:(xs[i]? == ys[i]?) with
  | true=>simpa using ih'
  | false=>simp
theorem j64(n:Nat)(xs ys:List UInt64)(hx:xs.length=n)(hy:ys.length=n):((List.range n).all λi=>xs[i]? == ys[i]?)=(xs==ys):=by
 rw[J1];simp only[o8,j7,p7];constructor
 ·intro h;apply Z6;intro i;by_cases hi:i<n
  ·exact h i hi
  ·rw[X0 (by omega),X0 (by omega)]
 ·rintro rfl i _;rfl
theorem z06{p:Bool}{n:Nat}{xs:List UInt64}{cs:List Value}(h:Rc w ρ G L p (.arr n 1 (xs.map .u64)) cs F):xs.length=n/\cs=xs.map (λb=>Value.int .u64 b.toNat):=by
 cases h with
 | arr _ _ _ _ hl hs hr=>
  have hl':xs.length=n:=by simpa using hl
  refine⟨hl', ?_⟩;apply Z6;intro i;by_cases hi:i<n
  ·have hic:i<cs.length:=by omega
   have:=hr i (by simp;omega);rw[Nat.mul_one,p8 hic,Z9,H6] at this;simp only[c8] at this;rw[j8 hic,j8 (by simp;omega)];generalize hc:[cs[i]]=c at this;cases this;simp at hc;simp[hc]
  ·rw[X0 (by omega),X0 (by simp;omega)]
theorem z87{t e:Nat}[hT:ArT P t m e][hk:IkT P e .u64][hL:LdT P e 1 false](xs ys:List UInt64):EqV P 2 t (.arr m 1 (xs.map .u64)) (.arr m 1 (ys.map .u64)) (xs==ys):=by
 intro n w ρ1 ρ2 G1 G2 L1 L2 v1 v2 F1 F2 h1 h2;simp only[VR,D.isAgg,j9] at h1 h2;obtain⟨cx,rfl,h1⟩:=h1;obtain⟨cy,rfl,h2⟩:=h2;obtain⟨hlx,hcx⟩:=z06 h1;obtain⟨hly,hcy⟩:=z06 h2;obtain⟨d,i,_,_,hi,hsz⟩:=hL.i
 have hce:P.cellsOf e=1:=by simp[Program.cellsOf,hi,hsz]
 rw[show n+2=(n+1)+1 from rfl,run_equalIn_array w (n+1) cx cy hT.u hi,hce,PF (P:=P) w n xs ys m hlx hly cx cy hcx hcy _ (λi hi=>j7.1 hi),j64 m xs ys hlx hly]
end
section
variable{P:Program}{C:Ctx}{σ σ' σ1 σ2:Sg}{a:Act}{w w':World}{ρ ρ2:Nat->Nat}{Fe Fe' Fb Fb2:Nat->List Nat}
end
section
variable{pos:String}{aft:Array Edge}{g:Option (Nat×Bool)}
variable{P:Program}{C:Ctx}{σ σ':Sg}{a:Act}{w w':World}{ρ:Nat->Nat}{Fe Fb:Nat->List Nat}
theorem R.sap{x:Operand}{t e n z:Nat}{l:List D}[hT:ArT P ty n e]
 (hx:ev C.gl σ x=some (.sl none z l)) (hl:l.length=n) (hn:0<n) (ht:t<σ.n) :
 OpS P C ⟨some t,.sliceToArrayPointer ty x,rt,pos,aft,g⟩ σ (σ.set t (.rp (.arr n z l))):=by
 refine OpS.value λa w ⟨ρ,Fe,Fb,st⟩=>?_;obtain⟨F,hv,_⟩:=H5 st hx rfl;have hF:=hv.pur rfl;subst hF;simp only[VR,D.isAgg,q7,q8] at hv;generalize hex:a.eval x=vx at hv
 cases hv with
 | slN=>simp at hl;omega
 | slE=>simp at hl;omega
 | slI b off cs e' fz cap _ _ hb hG hc hs hr=>
  refine⟨.pointer (some ⟨b,off,none⟩),w, ?_,st.put ht rfl ?_⟩
  ·unfold execOp;simp[Instr.arrayAt,run_underlying hT.u,hex,hl]
  ·simp only[VR,D.isAgg,q7,q8];refine .rp _ b off cs e' fz hb hG (by rw[HU,<- hl];exact hs) ?_;rw[HU,<- hl];refine .arr _ z l _ rfl (by have hcs:cs.toList.length=cs.size:=by { simp };simp only[v5,v8,hcs];omega) (λi hi=>?_)
   have h6:i*z+z<=l.length*z:=by
    have:=w6 z (show i+1<=l.length by omega);rw[v7] at this;omega
   rw[XG _ _ _ _ _ h6];exact hr i hi
theorem R.idxI{x:Operand}{t e z b:Nat}{l:List D}{d:D}{ix:Operand}{n:Int}[hT:SlT P ty e][hE:ElT P e z b](k:Nat)
 (h:ev C.gl σ x=some (.sl none z l)) (hi:evo C.gl σ (some ix) 0=some n) (hk:n=(k:Int)) (h1:l[k]? = some d) (hz:d.sz=z) (ht:t<σ.n) :
 OpS P C ⟨some t,.indexAddr ty x ix,rt,pos,aft,g⟩ σ (σ.set t (.rp d)):=by
 subst hk;refine OpS.value λa w ⟨ρ,Fe,Fb,st⟩=>?_;obtain⟨F,hv,_⟩:=H5 st h rfl;have hF:=hv.pur rfl;subst hF;simp only[VR,D.isAgg,q7,q8] at hv;generalize hex:a.eval x=v at hv;obtain⟨kk,he⟩:=BH st hi;obtain⟨hkl,rfl⟩:=z8.1 h1
 cases hv with
 | slN=>simp at hkl
 | slE=>simp at hkl
 | slI b' off cs e' fz cap _ _ hb hG hc hs hr=>
  have hkz:k*z+z<=l.length*z:=by
   have:=w6 z (show k+1<=l.length by omega);rw[v7] at this;omega
  refine⟨.pointer (some ⟨b',off+k*z,none⟩),w, ?_,st.put ht rfl ?_⟩
  ·unfold execOp;simp[Instr.indexAt,Instr.sureAddr,asIntOf,run_underlying hT.u,hex,he,hkl,ElT.size (P:=P) (e:=e),R6]
  ·simp only[VR,D.isAgg,q7,q8];refine .rp _ b' (off+k*z) cs e' fz hb hG (by rw[hz];omega) ?_;rw[hz];exact hr k hkl
end
def RZ:Nat->Code->Code
 | 0,c=>c
 | k+1,.seq _ c=>RZ k c
 | _+1,c=>c
theorem w01{P:Program}{C:Ctx}{σ:Sg}{c:Code}(k:Nat)(M:Sg->Prop)(h2:∀ s,M s->W P C (RZ k c) Q s)(h1:(∀ s,M s->W P C (RZ k c) Q s)->W P C c Q σ):W P C c Q σ:=h1 h2
section
variable{P:Program}{C:Ctx}{σ σ' σ1:Sg}{a:Act}{w w':World}{ρ:Nat->Nat}{Fe Fe' Fb:Nat->List Nat}
end
section
variable{pos:String}{aft:Array Edge}{g:Option (Nat×Bool)}
variable{P:Program}{C:Ctx}{σ σ' σ1:Sg}{a:Act}{w w':World}{ρ:Nat->Nat}{Fe Fe' Fb:Nat->List Nat}
theorem q03{f:FuncId}[h:CaT P f]{s:Nat}{t:Option Nat}{args:Array Operand}{vs:List Value}(a:Act)(w:World)(hs:a.tmps[s]? = some (.func (.func f) #[] vs.toArray)) :
 (execOp a.eval ⟨t,.call { callee:=.value (.tmp s),args:=args,argTypes:=tys },rt,pos,aft,g⟩).run P w=.ok (.enter f (args.map a.eval++vs.toArray)) w:=by
 obtain⟨fn,h1,h2,h3⟩:=h.i;unfold execOp;simp[resolve,Q3 hs,Deferred.ofValue,invoke,KT h1 h2 h3]
theorem R.callVBq{q:(Nat->Nat)->Prop}{f:FuncId}[CaT P f]{s t:Nat}{gl:List (Nat×D)}{ds caps capsA:List D}{r r':D}{nw cx cx' nwc:List (Nat×Bx)}
 (ml:List (Nat×Nat)) (hC:C.gl=gl) (hs:σ.get s=some (.fn f capsA)) (hca:KJ (mlk ml) caps=capsA) (hcp:KX (bx.map Prod.fst) caps=true) (hF:FnBq q P gl f (ds++caps) bx r bx' nw) (hq:∀ ρ:Nat->Nat,(∀ i b,C.pin i=some b->ρ i=b)->q (λi=>ρ (mlk ml i))) (ha:EvB C.gl σ (mlk ml) (bx.map Prod.fst) args ds)
 (hcx:Z0 (mlk ml) bx=cx) (hlk:XD σ.bx cx) (hob:ZK (bx.map Prod.fst) bx) (hcx':Z0 (mlk ml) bx'=cx') (hnw:Z0 (mlk ml) nw=nwc) (hr:r.ren (mlk ml)=r')
 (hk:bx'.map Prod.fst=bx.map Prod.fst) (hfr:XN σ.bx nwc=true) (hinj:EZ (mlk ml) ((nw++bx').map Prod.fst)=true) (ht:t<σ.n) :
 OpS P C ⟨some t,.call { callee:=.value (.tmp s),args:=args.toArray,argTypes:=tys },rt,pos,aft,g⟩ σ ((⟨σ.n,ZN (cx.map Prod.fst) σ.env,nwc++f9 cx' σ.bx⟩:Sg).set t r'):=by
 subst hC;subst hcx;subst hcx';subst hnw;subst hr;intro a w ⟨ρ,Fe,Fb,st⟩ K Q hK;obtain⟨hhand,hback⟩:=st.callB (m:=mlk ml) hlk hob hk hfr hinj
 have hmem:∀ i,K2 (bx.map Prod.fst) i=true->(lk bx i).isSome=true:=λi hi=>by
  rw[O5];simp only[K2,Z4] at hi;obtain⟨j,hj,he⟩:=hi;rw[m8 he];exact hj
 obtain⟨vs,hvs,hvl,hva,hvr⟩:∃ vs:List Value,a.tmps[s]? = some (.func (.func f) #[] vs.toArray)/\vs.length=caps.length/\(∀ k (h:k<caps.length),caps[k].isAgg=false) /\
  ∀ k (h:k<caps.length),Rc w (λi=>ρ (mlk ml i)) (gd C Fe Fb) (λi=>(lk bx i).isSome=true) true caps[k] [vs.getD k undef] []:=by
  obtain⟨vg,hvg,hrg⟩:=(c5 rfl).1 (st.env s _ hs);simp only[VR,D.isAgg,q7,q8] at hrg;rw[ZZ] at hca;subst hca;generalize Fe s=Fg at hrg
  cases hrg with
  | fn _ _ vs hl ha hr=>
   refine⟨vs,hvg,by simpa using hl,λk hk=>?_,λk hk=>?_⟩
   ·have:=ha k (by simpa using hk);rw[c8,QI] at this;exact this
   ·have h1:=hr k (by simpa using hk);rw[c8] at h1;have h2:Rc w (λi=>ρ (mlk ml i)) (gd C Fe Fb) (λi=>(σ.box (mlk ml i)).isSome=true) true caps[k] [vs.getD k undef] []:=h1.unren rfl (λi hi=>⟨hi,rfl⟩);exact(h2.okB (XT caps hcp k hk)).mono (λ_ _ _=>rfl) (λ_ h _=>h) (λi hi=>⟨hmem i hi.1,rfl⟩)
 refine O0 (q03 a w hvs) (by simp) ?_;rw[Oper.uponIn_enter]
 have hlen:(args.map a.eval).length=ds.length:=by simp[ha.len]
 have hc:=hF w (λb=>gd C Fe Fb b/\b<w.heap.size) (λi=>ρ (mlk ml i)) (λi=>if(lk bx i).isSome then Fb (mlk ml i) else[]) (args.map a.eval++vs) (hq ρ λi b hp=>(st.pin i b hp).1)
  (λg d hg=>by obtain⟨h1,h2⟩:=PD st g d hg;obtain⟨cs,e,fz,h3,h4⟩:=h2;exact⟨⟨h1,(j6.1 h3).1⟩,cs,e,fz,h3,h4⟩) (λb hb=>hb.2) (by simp[ha.len,hvl])
  (λk hk=>by
   by_cases hkd:k<ds.length
   ·have h1:=(ha.ok st k hkd).mono (λ_ _ _=>rfl) (λb (hb:gd C Fe Fb b) hl=>(⟨hb,hl⟩:gd C Fe Fb b/\b<w.heap.size)) (λi hi=>⟨hmem i hi.1,rfl⟩);have e1:(ds++caps)[k]=ds[k]:=o0 hkd
    have e2:(args.map a.eval++vs).getD k undef=(args.map a.eval).getD k undef:=by
     simp only[K8];rw[J3 (by rw[hlen];exact hkd)]
    rw[e1,e2];exact h1
   ·have hk':k-ds.length<caps.length:=by simp only[q9] at hk;omega
    have e1:(ds++caps)[k]=caps[k-ds.length]:=K1 (by omega)
    have e2:(args.map a.eval++vs).getD k undef=vs.getD (k-ds.length) undef:=by
     simp only[K8];rw[X1 (by rw[hlen];omega),hlen]
    rw[e1,e2];simp only[VR,hva _ hk',q7,q8]
    exact(hvr _ hk').mono (λ_ _ _=>rfl) (λb hb hl=>⟨hb,hl⟩) (λi hi=>⟨hi,rfl⟩))
  ⟨λid x hx=>(hhand.box id x hx).mono (λ_ _ _=>rfl) (λb hb hl=>⟨hb,hl⟩) (λi hi=>⟨hi,rfl⟩),hhand.boxN,hhand.nodB,hhand.dBB,λid b hb hc=>hhand.out id b hb hc.1⟩
 simp only[A9,List.append_toArray];refine⟨(λh=>by cases h),(JL (Calls.mono hc ?_))⟩;rintro e w' ⟨v,F,ρ',Fb',rfl,hext,hρ',hnd,hsrc,hFB,hFl,hand,hrv⟩
 have hGG:∀ b,(((gd C Fe Fb b/\b<w.heap.size)∨w.heap.size<=b∨∃ id,b∈(if(lk bx id).isSome then Fb (mlk ml id) else[]))/\b∉F/\¬ ∃ id,b∈Fb' id) ->
  ((gd C Fe Fb b∨w.heap.size<=b∨∃ id,b∈(if(lk bx id).isSome then Fb (mlk ml id) else[]))/\b∉F/\¬ ∃ id,b∈Fb' id):=λb hb=>⟨hb.1.imp (λh=>h.1) (λh=>h),hb.2⟩
 obtain⟨ρ2,Fb2,st2,hrv2,hdE,hdB,hkp,hok⟩:=hback w' F ρ' Fb' hext hρ' hnd hsrc hFB hFl
  ⟨λid x hx=>(hand.box id x hx).mono (λ_ _ _=>rfl) (λb hb _=>hGG b hb) (λi hi=>⟨hi,rfl⟩),hand.boxN,hand.nodB,hand.dBB,λid b hb hc=>hc.2.2 ⟨id,hb⟩⟩
 have hrv3:=hrv2 r v (hrv.mono (λ_ _ _=>rfl) (λb hb _=>hGG b hb) (λi hi=>⟨hi,rfl⟩))
 have hput:(a.put (some t) v).tmps[t]? = some v:=by rw[Y0 a t v t (by rw[st.size];exact ht)];simp
 refine hK _ _ ⟨ρ2,upd Fe t F,Fb2,st2.adopt ht hnd hdE hdB hkp hok (CP (hrv3.mono (λ_ _ _=>rfl) (λb hb _=>⟨hb.1.1, ?_⟩) (λi hi=>⟨hi,rfl⟩)) hput)⟩;rintro (⟨u,hu⟩|ho)
 ·by_cases hut:u=t
  ·subst hut;simp at hu;exact hb.2 hu
  ·rw[j2 hut] at hu;exact hb.1.2 (.inl ⟨u,hu⟩)
 ·exact hb.1.2 (.inr ho)
theorem IX{ai ab:Nat}{f:FuncId}[CaT P f]{s t:Nat}{gl:List (Nat×D)}{ds caps capsA:List D}{r r':D}{nw cx cx' nwc:List (Nat×Bx)}
 (ml:List (Nat×Nat)) (hC:C.gl=gl) (hs:σ.get s=some (.fn f capsA)) (hca:KJ (mlk ml) caps=capsA) (hcp:KX (bx.map Prod.fst) caps=true) (hF:FnBa ai ab P gl f (ds++caps) bx r bx' nw) (hpn:C.pin (mlk ml ai)=some ab) (ha:EvB C.gl σ (mlk ml) (bx.map Prod.fst) args ds)
 (hcx:Z0 (mlk ml) bx=cx) (hlk:XD σ.bx cx) (hob:ZK (bx.map Prod.fst) bx) (hcx':Z0 (mlk ml) bx'=cx') (hnw:Z0 (mlk ml) nw=nwc) (hr:r.ren (mlk ml)=r')
 (hk:bx'.map Prod.fst=bx.map Prod.fst) (hfr:XN σ.bx nwc=true) (hinj:EZ (mlk ml) ((nw++bx').map Prod.fst)=true) (ht:t<σ.n) :
 OpS P C ⟨some t,.call { callee:=.value (.tmp s),args:=args.toArray,argTypes:=tys },rt,pos,aft,g⟩ σ ((⟨σ.n,ZN (cx.map Prod.fst) σ.env,nwc++f9 cx' σ.bx⟩:Sg).set t r'):=R.callVBq ml hC hs hca hcp hF (λ_ h=>h _ _ hpn) ha hcx hlk hob hcx' hnw hr hk hfr hinj ht
inductive EvFs(gl:List (Nat×D))(σ:Sg):List Operand->List D->Prop
 | nil:EvFs gl σ [] []
 | cons {x:Operand} {d:D} {xs:List Operand} {ds:List D} (h:ev gl σ x=some d) (hp:d.pur=true) (ha:d.isAgg=false) (t:EvFs gl σ xs ds):EvFs gl σ (x::xs) (d::ds)
theorem EvFs.len{gl:List (Nat×D)}{xs:List Operand}{ds:List D}(h:EvFs gl σ xs ds):xs.length=ds.length:=by
 induction h with
 | nil=>rfl
 | cons _ _ _ _ ih=>simp[ih]
theorem EvFs.at{gl:List (Nat×D)}{xs:List Operand}{ds:List D}(h:EvFs gl σ xs ds):∀ k (h:k<xs.length) (h':k<ds.length),ev gl σ xs[k]=some ds[k]/\ds[k].pur=true/\ds[k].isAgg=false:=by
 induction h with
 | nil=>intro k hk;simp at hk
 | cons h hp ha t ih=>
  intro k hk hk'
  cases k with
  | zero=>exact⟨h,hp,ha⟩
  | succ k=>exact ih k (by simpa using hk) (by simpa using hk')
theorem RN{t f:Nat}{xs:List Operand}{ds:List D}(h:EvFs C.gl σ xs ds)(ht:t<σ.n) :
 OpS P C ⟨some t,.makeFunc (.func f) #[] xs.toArray,rt,pos,aft,g⟩ σ (σ.set t (.fn f ds)):=R.mkfn h.len h.at ht
end
def kTab:List UInt32:=[0x428a2f98,0x71374491,0xb5c0fbcf,0xe9b5dba5,0x3956c25b,0x59f111f1,0x923f82a4,0xab1c5ed5,
 0xd807aa98,0x12835b01,0x243185be,0x550c7dc3,0x72be5d74,0x80deb1fe,0x9bdc06a7,0xc19bf174,
 0xe49b69c1,0xefbe4786,0x0fc19dc6,0x240ca1cc,0x2de92c6f,0x4a7484aa,0x5cb0a9dc,0x76f988da,
 0x983e5152,0xa831c66d,0xb00327c8,0xbf597fc7,0xc6e00bf3,0xd5a79147,0x06ca6351,0x14292967,
 0x27b70a85,0x2e1b2138,0x4d2c6dfc,0x53380d13,0x650a7354,0x766a0abb,0x81c2c92e,0x92722c85,
 0xa2bfe8a1,0xa81a664b,0xc24b8b70,0xc76c51a3,0xd192e819,0xd6990624,0xf40e3585,0x106aa070,
 0x19a4c116,0x1e376c08,0x2748774c,0x34b0bcb5,0x391c0cb3,0x4ed8aa4a,0x5b9cca4f,0x682e6ff3,
 0x748f82ee,0x78a5636f,0x84c87814,0x8cc70208,0x90befffa,0xa4506ceb,0xbef9a3f7,0xc67178f2]
def iv:List UInt32:=[0x6a09e667,0xbb67ae85,0x3c6ef372,0xa54ff53a,0x510e527f,0x9b05688c,0x1f83d9ab,0x5be0cd19]
def I5(b:List UInt8):D:=.sl none 1 (b.map D.u8)
def j4(b:List UInt8):D:=.arr 32 1 (b.map D.u8)
def rotl(x:UInt32)(k:Int):UInt32:=s5 x (UInt64.ofInt k&&&31).toNat|||K6 x (32-(UInt64.ofInt k&&&31)).toNat
def right(x:UInt32)(n:Int):UInt32:=rotl x (wr (0-n))
def x58(p:List UInt8)(t:Nat)(w:List UInt32):Nat->List UInt32
 | 0=>w
 | i+1=>(x58 p t w i).set t (s5 (x58 p t w i)[t]! 8|||(p[4*t+i]!).toUInt32)
def u69(w:List UInt32)(t:Nat):UInt32:=
 w[t-16]!+w[t-7]!+(right w[t-15]! 7^^^right w[t-15]! 18^^^K6 w[t-15]! 3)+(right w[t-2]! 17^^^right w[t-2]! 19^^^K6 w[t-2]! 10)
def sched(p:List UInt8):Nat->List UInt32
 | 0=>List.replicate 64 0
 | t+1=>if t<16 then x58 p t (sched p t) 4 else(sched p t).set t (u69 (sched p t) t)
structure W8 where
 a:UInt32
 b:UInt32
 c:UInt32
 d:UInt32
 e:UInt32
 f:UInt32
 g:UInt32
 l:UInt32
def W8.list(v:W8):List UInt32:=[v.a,v.b,v.c,v.d,v.e,v.f,v.g,v.l]
def W8.of(h:List UInt32):W8:=⟨h[0]!,h[1]!,h[2]!,h[3]!,h[4]!,h[5]!,h[6]!,h[7]!⟩
def one(v:W8)(k w:UInt32):UInt32:=v.l+(right v.e 6^^^right v.e 11^^^right v.e 25)+(v.g^^^(v.e&&&(v.f^^^v.g)))+k+w
def two(v:W8):UInt32:=(right v.a 2^^^right v.a 13^^^right v.a 22)+(v.a&&&v.b|||v.c&&&(v.a|||v.b))
def rnd(v:W8)(k w:UInt32):W8:=⟨one v k w+two v,v.a,v.b,v.c,v.d+one v k w,v.e,v.f,v.g⟩
def rds(h w:List UInt32):Nat->W8
 | 0=>W8.of h
 | t+1=>rnd (rds h w t) kTab[t]! w[t]!
def BW(h l:List UInt32):Nat->List UInt32
 | 0=>h
 | i+1=>(BW h l i).set i ((BW h l i)[i]!+l[i]!)
def comp(h:List UInt32)(p:List UInt8):List UInt32:=BW h (rds h (sched p 64) 64).list 8
structure ShaS where
 begun:Bool
 h:List UInt32
 piece:List UInt8
 n:UInt64
def WJ(s:ShaS):D:=.agg [.bool s.begun,.arr 8 1 (s.h.map D.u32),.arr 64 1 (s.piece.map D.u8),.u64 s.n]
def ShaS.zero:ShaS:=⟨false,List.replicate 8 0,List.replicate 64 0,0⟩
def ShaS.start:ShaS:=⟨true,iv,List.replicate 64 0,0⟩
structure ShaS.ok(s:ShaS):Prop where
 h:s.h.length=8
 p:s.piece.length=64
theorem KY:ShaS.start.ok:=⟨by simp[ShaS.start,iv],by simp[ShaS.start]⟩
theorem BM(s:ShaS):Frs (WJ s):=.agg _ (DR (.bool _) (DR (.arr _ _ _ (K7 λ_=>.u32 _)) (DR (.arr _ _ _ (K7 λ_=>.u8 _)) (DR (.u64 _) x72))))
theorem D4(b:List UInt8):Frs (j4 b):=.arr _ _ _ (K7 λ_=>.u8 _)
theorem q77(p:List UInt8)(t:Nat)(w:List UInt32)(i:Nat):(x58 p t w i).length=w.length:=by
 induction i with
 | zero=>rfl
 | succ i ih=>simp[x58,ih]
theorem EF(p:List UInt8)(t:Nat):(sched p t).length=64:=by
 induction t with
 | zero=>simp[sched]
 | succ t ih=>simp only[sched];split<;>simp[q77,ih]
theorem CY(h l:List UInt32)(i:Nat):(BW h l i).length=h.length:=by
 induction i with
 | zero=>rfl
 | succ i ih=>simp[BW,ih]
theorem j46(h:List UInt32)(p:List UInt8):(comp h p).length=h.length:=CY ..
def mS(s:ShaS):Nat:=(s.n%64).toNat
def kS(s:ShaS)(b:List UInt8):Nat:=min b.length (64-mS s)
def CT(s:ShaS)(b:List UInt8):List UInt8:=s.piece.take (mS s)++b.take (kS s b)++s.piece.drop (mS s+kS s b)
def nS(s:ShaS)(b:List UInt8):UInt64:=s.n+UInt64.ofInt (kS s b:Nat)
def YN(s:ShaS)(b:List UInt8):ShaS:=⟨s.begun,bif nS s b%64==0 then comp s.h (CT s b) else s.h,CT s b,nS s b⟩
theorem OU(s:ShaS):mS s<64:=by
 unfold mS;rw[UInt64.toNat_mod];exact R1 _ (by decide)
theorem w31(s:ShaS)(b:List UInt8):kS s b<=b.length:=Nat.min_le_left _ _
theorem OB(s:ShaS)(b:List UInt8)(h:0<b.length):0<kS s b:=by have:=OU s;unfold kS;omega
theorem q76(s:ShaS)(b:List UInt8):mS s+kS s b<=64:=by have:=OU s;unfold kS;omega
def EH(s:ShaS)(b:List UInt8):ShaS:=
 if h:b.length=0 then s else EH (YN s b) (b.drop (kS s b))
termination_by b.length
decreasing_by
 have:=OB s b (by omega);simp only[v8];omega
theorem CU(s:ShaS)(b:List UInt8)(h:b.length=0):EH s b=s:=by rw[EH];simp[h]
theorem UY(s:ShaS)(b:List UInt8)(h:b.length≠0):EH s b=EH (YN s b) (b.drop (kS s b)):=by rw[EH];simp[h]
def YG(s:ShaS)(b:List UInt8):ShaS:=EH (bif s.begun then s else ShaS.start) b
theorem NN(s:ShaS)(b:List UInt8)(h:s.ok):(CT s b).length=64:=by
 have h1:=q76 s b;have h2:=w31 s b;have h3:=h.p;simp[CT];omega
theorem NG(s:ShaS)(b:List UInt8)(h:s.ok):(YN s b).ok:=by
 refine⟨?_,NN s b h⟩;simp only[YN]
 cases (nS s b%64==0) with
 | true=>simp only[m9,j46];exact h.h
 | false=>exact h.h
theorem z09(s:ShaS)(b:List UInt8)(h:s.ok):(EH s b).ok:=by
 induction hn:b.length using Nat.strongRecOn generalizing s b with
 | _ n ih=>
  by_cases h0:b.length=0
  ·rw[CU _ _ h0];exact h
  ·rw[UY _ _ h0];have:=OB s b (by omega);exact ih _ (by simp;omega) _ _ (NG s b h) rfl
theorem MS(s:ShaS)(b:List UInt8)(h:s.ok):(YG s b).ok:=by
 unfold YG
 cases s.begun with
 | true=>exact z09 _ _ h
 | false=>exact z09 _ _ KY
def DG(s:ShaS):Nat:=(120-mS s)%64
def k51:Nat->ShaS->ShaS
 | 0,s=>s
 | k+1,s=>k51 k (YG s [0])
def DM(n:UInt64):Nat->List UInt8
 | 0=>List.replicate 8 0
 | i+1=>(DM n i).set i (E2 n (56-8*i)).toUInt8
theorem BZ(n:UInt64)(i:Nat):(DM n i).length=8:=by
 induction i with
 | zero=>simp[DM]
 | succ i ih=>simp[DM,ih]
def TU(h:List UInt32):Nat->List UInt8
 | 0=>List.replicate 32 0
 | i+1=>(TU h i).set i (K6 h[i/4]! (24-8*(i%4))).toUInt8
theorem TX(h:List UInt32)(i:Nat):(TU h i).length=32:=by
 induction i with
 | zero=>simp[TU]
 | succ i ih=>simp[TU,ih]
def w68(s:ShaS):ShaS:=YG s [128]
def x38(s:ShaS):ShaS:=k51 (DG (w68 s)) (w68 s)
def TZ(s:ShaS):ShaS:=YG (x38 s) (DM (s.n*8) 8)
def u04(s:ShaS):List UInt8:=TU (TZ s).h 32
def HW(b:List UInt8):List UInt8:=u04 (YG ShaS.start b)
def CF(b:List UInt8):List UInt8:=HW (HW b)
theorem j37(s:ShaS):(u04 s).length=32:=TX _ _
theorem NY(b:List UInt8):(HW b).length=32:=j37 _
theorem SJ(s:ShaS)(b:List UInt8):(YN s b).begun=s.begun:=rfl
theorem q37(s:ShaS)(b:List UInt8):(EH s b).begun=s.begun:=by
 induction hn:b.length using Nat.strongRecOn generalizing s b with
 | _ n ih=>
  by_cases h0:b.length=0
  ·rw[CU _ _ h0]
  ·rw[UY _ _ h0];have:=OB s b (by omega);rw[ih _ (by simp;omega) _ _ rfl,SJ]
theorem AQ(s:ShaS)(b:List UInt8):(YG s b).begun=true:=by
 unfold YG;rw[q37]
 cases h:s.begun with
 | true=>simpa using h
 | false=>rfl
theorem j69(s:ShaS)(x:UInt8)(h:s.begun=true):YG s [x]=YN s [x]:=by
 unfold YG
 have hk:kS s [x]=1:=by have:=OU s;simp only[kS,Q5];omega
 rw[h,m9,UY _ _ (by simp),CU _ _ (by simp[hk])]
theorem k83(s:ShaS)(x:UInt8)(h:s.begun=true):mS (YG s [x])=(mS s+1)%64:=by
 rw[j69 s x h]
 have hk:kS s [x]=1:=by have:=OU s;simp only[kS,Q5];omega
 have e:UInt64.ofInt ((1:Nat):Int)=1:=rfl;have e1:(1:UInt64).toNat=1:=rfl;have e2:(64:UInt64).toNat=64:=rfl;simp only[mS,YN,nS,hk,e,UInt64.toNat_mod,UInt64.toNat_add,e1,e2];omega
theorem w25{s:ShaS}(h:(s.n%64 != 56)=true):mS s≠56:=by
 intro he;have:s.n%64=56:=R7.1 he;simp[this] at h
theorem u73{s:ShaS}(h:(s.n%64 != 56)=false):mS s=56:=by
 have:s.n%64=56:=by simpa using h
 unfold mS;rw[this];rfl
theorem k49(s:ShaS)(hb:s.begun=true)(h:mS s≠56):k51 (DG s) s=k51 (DG (YG s [0])) (YG s [0]):=by
 have h1:=k83 s 0 hb;have h2:=OU s
 have:DG s=DG (YG s [0])+1:=by unfold DG;omega
 rw[this];rfl
theorem k50(s:ShaS)(hb:s.begun=true)(h:mS s≠56):DG (YG s [0])<DG s:=by
 have h1:=k83 s 0 hb;have h2:=OU s;unfold DG;omega
theorem x37(s:ShaS)(h:mS s=56):DG s=0:=by unfold DG;omega
def rright(x:UInt32)(n:UInt64):UInt32:=K6 x n.toNat|||s5 x (32-n).toNat
def w4(p:List UInt8)(t:Nat):UInt32:=
 s5 (p[4*t]!).toUInt32 24|||s5 (p[4*t+1]!).toUInt32 16|||s5 (p[4*t+2]!).toUInt32 8|||(p[4*t+3]!).toUInt32
def u70(w:List UInt32)(t:Nat):UInt32:=
 (rright w[t-2]! 17^^^rright w[t-2]! 19^^^K6 w[t-2]! 10)+w[t-7]!+(rright w[t-15]! 7^^^rright w[t-15]! 18^^^K6 w[t-15]! 3)+w[t-16]!
def wR(p:List UInt8):Nat->List UInt32
 | 0=>[]
 | t+1=>wR p t++[if t<16 then w4 p t else u70 (wR p t) t]
theorem WB(p:List UInt8)(t:Nat):(wR p t).length=t:=by
 induction t with
 | zero=>rfl
 | succ t ih=>simp[wR,ih]
def u68(l:List UInt32)(k w:UInt32):UInt32:=
 l[7]!+(rright l[4]! 6^^^rright l[4]! 11^^^rright l[4]! 25)+(l[4]!&&&l[5]! ^^^ ~~~l[4]!&&&l[6]!)+k+w
def v13(l:List UInt32):UInt32:=(rright l[0]! 2^^^rright l[0]! 13^^^rright l[0]! 22)+(l[0]!&&&l[1]!^^^l[0]!&&&l[2]!^^^l[1]!&&&l[2]!)
def v15(l:List UInt32)(k w:UInt32):List UInt32:=[u68 l k w+v13 l,l[0]!,l[1]!,l[2]!,l[3]!+u68 l k w,l[4]!,l[5]!,l[6]!]
def KV(h w:List UInt32):Nat->List UInt32
 | 0=>h
 | t+1=>v15 (KV h w t) kTab[t]! w[t]!
theorem k39(h w:List UInt32)(t:Nat)(hh:h.length=8):(KV h w t).length=8:=by
 cases t with
 | zero=>exact hh
 | succ t=>rfl
def w36(h:List UInt32)(p:List UInt8):List UInt32:=BW h (KV h (wR p 64) 64) 8
theorem z67(h:List UInt32)(p:List UInt8):(w36 h p).length=h.length:=CY ..
def zR(b:List UInt8):Nat:=(119-b.length%64)%64
def NX(n:UInt64):Nat->List UInt8
 | 0=>[]
 | j+1=>NX n j++[(E2 n (UInt64.ofInt (wr (8*(7-((j:Nat):Int))))).toNat).toUInt8]
theorem EN(n:UInt64)(t:Nat):(NX n t).length=t:=by
 induction t with
 | zero=>rfl
 | succ t ih=>simp[NX,ih]
def z02(b:List UInt8):UInt64:=UInt64.ofInt (b.length:Nat)*8
def X4(b:List UInt8):List UInt8:=b++[128]++List.replicate (zR b) 0++NX (z02 b) 8
theorem EM(b:List UInt8):(X4 b).length=b.length+9+zR b:=by simp[X4,EN];omega
def pieces(b:List UInt8):Nat:=(b.length+9+zR b)/64
theorem IM(b:List UInt8):(X4 b).length=64*pieces b:=by rw[EM];unfold pieces zR;omega
def hR(all:List UInt8):Nat->List UInt32
 | 0=>iv
 | m+1=>w36 (hR all m) ((all.drop (64*m)).take 64)
theorem w93(all:List UInt8)(m:Nat):(hR all m).length=8:=by
 induction m with
 | zero=>rfl
 | succ m ih=>simp only[hR,z67,ih]
def TJ(h:List UInt32):Nat->List UInt8
 | 0=>List.replicate 32 0
 | i+1=>(TJ h i).set i (K6 h[i/4]! (UInt64.ofInt ((24-8*(i%4):Nat):Int)).toNat).toUInt8
theorem TK(h:List UInt32)(i:Nat):(TJ h i).length=32:=by
 induction i with
 | zero=>simp[TJ]
 | succ i ih=>simp[TJ,ih]
def IN(b:List UInt8):List UInt8:=TJ (hR (X4 b) (pieces b)) 32
def CI(b:List UInt8):List UInt8:=IN (IN b)
theorem YM(b:List UInt8):(IN b).length=32:=TK _ _
section
open Go.Proofs Go.Proofs.Tryz
set_option maxRecDepth 100000
instance:LdT prog 1 1 false:=⟨_,_,O,O,O,O⟩
instance:ElT prog 1 1 8:=⟨_,_,O,O,O,O,O,dU,O⟩
instance:IkT prog 2 .i64:=⟨O⟩
instance:LdT prog 3 1 false:=⟨_,_,O,O,O,O⟩
instance:ElT prog 3 1 8:=⟨_,_,O,O,O,O,O,dU,O⟩
instance:IkT prog 3 .i64:=⟨O⟩
instance:ZrT prog 3 (.int 0):=⟨_,_,O,O,dU,O⟩
instance:LdT prog 4 1 false:=⟨_,_,O,O,O,O⟩
instance:BoT prog 4:=⟨O⟩
instance:LdT prog 5 1 false:=⟨_,_,O,O,O,O⟩
instance:ElT prog 5 1 1:=⟨_,_,O,O,O,O,O,dU,O⟩
instance:IkT prog 5 .u8:=⟨O⟩
instance:ZrT prog 5 (.u8 0):=⟨_,_,O,O,dU,O⟩
instance:LdT prog 23 32 true:=⟨_,_,O,O,O,O⟩
instance:ElT prog 23 32 32:=⟨_,_,O,O,O,O,O,dU,O⟩
instance:ArT prog 23 32 5:=⟨O⟩
instance:EqT prog 23:=⟨by decide +kernel⟩
instance:ZrT prog 23 (.arr 32 1 ((List.replicate 32 0).map D.u8)):=⟨_,_,O,O,dU,O⟩
instance:LdT prog 24 1 false:=⟨_,_,O,O,O,O⟩
instance:ElT prog 24 1 24:=⟨_,_,O,O,O,O,O,dU,O⟩
instance:SlT prog 24 5:=⟨O⟩
instance:LdT prog 25 1 false:=⟨_,_,O,O,O,O⟩
instance:SlT prog 25 23:=⟨O⟩
instance:LdT prog 27 1 false:=⟨_,_,O,O,O,O⟩
instance:ElT prog 27 1 4:=⟨_,_,O,O,O,O,O,dU,O⟩
instance:IkT prog 27 .u32:=⟨O⟩
instance:LdT prog 28 1 false:=⟨_,_,O,O,O,O⟩
instance:SlT prog 28 112:=⟨O⟩
instance:LdT prog 29 1 false:=⟨_,_,O,O,O,O⟩
instance:SlT prog 29 115:=⟨O⟩
instance:LdT prog 31 4 true:=⟨_,_,O,O,O,O⟩
instance:ElT prog 31 4 64:=⟨_,_,O,O,O,O,O,dU,O⟩
instance:FdT prog 31 0 0:=⟨_,_,_,O,O,O,O,dU⟩
instance:FdT prog 31 1 1:=⟨_,_,_,O,O,O,O,dU⟩
instance:FdT prog 31 2 2:=⟨_,_,_,O,O,O,O,dU⟩
instance:FdT prog 31 3 3:=⟨_,_,_,O,O,O,O,dU⟩
instance:ZrT prog 31 (.agg [.u32 0,.nils,.nils,.u32 0]):=⟨_,_,O,O,dU,O⟩
instance:BsT prog 31 ([.u32 0,.nils,.nils,.u32 0]):=⟨_,_,_,O,O,O,O,dU⟩
instance:LdT prog 37 1 false:=⟨_,_,O,O,O,O⟩
instance:SlT prog 37 78:=⟨O⟩
instance:ZrT prog 37 (.nils):=⟨_,_,O,O,dU,O⟩
instance:SlT prog 38 70:=⟨O⟩
instance:LdT prog 42 1 false:=⟨_,_,O,O,O,O⟩
instance:SlT prog 42 262:=⟨O⟩
instance:LdT prog 44 68 true:=⟨_,_,O,O,O,O⟩
instance:ElT prog 44 68 80:=⟨_,_,O,O,O,O,O,dU,O⟩
instance:FdT prog 44 0 0:=⟨_,_,_,O,O,O,O,dU⟩
instance:FdT prog 44 1 1:=⟨_,_,_,O,O,O,O,dU⟩
instance:FdT prog 44 2 33:=⟨_,_,_,O,O,O,O,dU⟩
instance:FdT prog 44 3 65:=⟨_,_,_,O,O,O,O,dU⟩
instance:FdT prog 44 4 66:=⟨_,_,_,O,O,O,O,dU⟩
instance:FdT prog 44 5 67:=⟨_,_,_,O,O,O,O,dU⟩
instance:ZrT prog 44 (.agg [.u32 0,.arr 32 1 ((List.replicate 32 0).map D.u8),.arr 32 1 ((List.replicate 32 0).map D.u8),.u32 0,.u32 0,.u32 0]):=⟨_,_,O,O,dU,O⟩
instance:BsT prog 44 ([.u32 0,.arr 32 1 ((List.replicate 32 0).map D.u8),.arr 32 1 ((List.replicate 32 0).map D.u8),.u32 0,.u32 0,.u32 0]):=⟨_,_,_,O,O,O,O,dU⟩
instance:LdT prog 46 72 true:=⟨_,_,O,O,O,O⟩
instance:FdT prog 46 0 0:=⟨_,_,_,O,O,O,O,dU⟩
instance:FdT prog 46 1 1:=⟨_,_,_,O,O,O,O,dU⟩
instance:FdT prog 46 2 2:=⟨_,_,_,O,O,O,O,dU⟩
instance:FdT prog 46 3 3:=⟨_,_,_,O,O,O,O,dU⟩
instance:FdT prog 46 4 4:=⟨_,_,_,O,O,O,O,dU⟩
instance:ZrT prog 46 (.agg [.u32 0,.int 0,.u32 0,.nils,.agg [.u32 0,.arr 32 1 ((List.replicate 32 0).map D.u8),.arr 32 1 ((List.replicate 32 0).map D.u8),.u32 0,.u32 0,.u32 0]]):=⟨_,_,O,O,dU,O⟩
instance:BsT prog 46 ([.u32 0,.int 0,.u32 0,.nils,.agg [.u32 0,.arr 32 1 ((List.replicate 32 0).map D.u8),.arr 32 1 ((List.replicate 32 0).map D.u8),.u32 0,.u32 0,.u32 0]]):=⟨_,_,_,O,O,O,O,dU⟩
instance:LdT prog 55 1 false:=⟨_,_,O,O,O,O⟩
instance:SlT prog 55 119:=⟨O⟩
instance:ZrT prog 55 (.nils):=⟨_,_,O,O,dU,O⟩
instance:SlT prog 58 121:=⟨O⟩
instance:LdT prog 60 1 false:=⟨_,_,O,O,O,O⟩
instance:ElT prog 60 1 8:=⟨_,_,O,O,O,O,O,dU,O⟩
instance:IkT prog 60 .u64:=⟨O⟩
instance:LdT prog 68 1 false:=⟨_,_,O,O,O,O⟩
instance:SlT prog 68 117:=⟨O⟩
instance:LdT prog 70 3 true:=⟨_,_,O,O,O,O⟩
instance:ElT prog 70 3 40:=⟨_,_,O,O,O,O,O,dU,O⟩
instance:FdT prog 70 0 0:=⟨_,_,_,O,O,O,O,dU⟩
instance:FdT prog 70 1 1:=⟨_,_,_,O,O,O,O,dU⟩
instance:FdT prog 70 2 2:=⟨_,_,_,O,O,O,O,dU⟩
instance:BsT prog 70 ([.u8 0,.nils,.u8 0]):=⟨_,_,_,O,O,O,O,dU⟩
instance:LdT prog 76 1 false:=⟨_,_,O,O,O,O⟩
instance:SlT prog 76 31:=⟨O⟩
instance:LdT prog 78 69 true:=⟨_,_,O,O,O,O⟩
instance:ElT prog 78 69 104:=⟨_,_,O,O,O,O,O,dU,O⟩
instance:FdT prog 78 0 0:=⟨_,_,_,O,O,O,O,dU⟩
instance:FdT prog 78 1 68:=⟨_,_,_,O,O,O,O,dU⟩
instance:ZrT prog 78 (.agg [.agg [.u32 0,.arr 32 1 ((List.replicate 32 0).map D.u8),.arr 32 1 ((List.replicate 32 0).map D.u8),.u32 0,.u32 0,.u32 0],.nils]):=⟨_,_,O,O,dU,O⟩
instance:BsT prog 78 ([.agg [.u32 0,.arr 32 1 ((List.replicate 32 0).map D.u8),.arr 32 1 ((List.replicate 32 0).map D.u8),.u32 0,.u32 0,.u32 0],.nils]):=⟨_,_,_,O,O,O,O,dU⟩
instance:LdT prog 109 33 true:=⟨_,_,O,O,O,O⟩
instance:ElT prog 109 33 36:=⟨_,_,O,O,O,O,O,dU,O⟩
instance:EqT prog 109:=⟨by decide +kernel⟩
instance:FdT prog 109 0 0:=⟨_,_,_,O,O,O,O,dU⟩
instance:FdT prog 109 1 32:=⟨_,_,_,O,O,O,O,dU⟩
instance:ZrT prog 109 (.agg [.arr 32 1 ((List.replicate 32 0).map D.u8),.u32 0]):=⟨_,_,O,O,dU,O⟩
instance:BsT prog 109 ([.arr 32 1 ((List.replicate 32 0).map D.u8),.u32 0]):=⟨_,_,_,O,O,O,O,dU⟩
instance:LdT prog 110 1 false:=⟨_,_,O,O,O,O⟩
instance:SlT prog 110 24:=⟨O⟩
instance:LdT prog 112 36 true:=⟨_,_,O,O,O,O⟩
instance:ElT prog 112 36 96:=⟨_,_,O,O,O,O,O,dU,O⟩
instance:FdT prog 112 0 0:=⟨_,_,_,O,O,O,O,dU⟩
instance:FdT prog 112 1 33:=⟨_,_,_,O,O,O,O,dU⟩
instance:FdT prog 112 2 34:=⟨_,_,_,O,O,O,O,dU⟩
instance:FdT prog 112 3 35:=⟨_,_,_,O,O,O,O,dU⟩
instance:ZrT prog 112 (.agg [.agg [.arr 32 1 ((List.replicate 32 0).map D.u8),.u32 0],.nils,.u32 0,.nils]):=⟨_,_,O,O,dU,O⟩
instance:BsT prog 112 ([.agg [.arr 32 1 ((List.replicate 32 0).map D.u8),.u32 0],.nils,.u32 0,.nils]):=⟨_,_,_,O,O,O,O,dU⟩
instance:LdT prog 115 2 true:=⟨_,_,O,O,O,O⟩
instance:ElT prog 115 2 32:=⟨_,_,O,O,O,O,O,dU,O⟩
instance:FdT prog 115 0 0:=⟨_,_,_,O,O,O,O,dU⟩
instance:FdT prog 115 1 1:=⟨_,_,_,O,O,O,O,dU⟩
instance:ZrT prog 115 (.agg [.u64 0,.nils]):=⟨_,_,O,O,dU,O⟩
instance:BsT prog 115 ([.u64 0,.nils]):=⟨_,_,_,O,O,O,O,dU⟩
instance:LdT prog 117 5 true:=⟨_,_,O,O,O,O⟩
instance:ElT prog 117 5 40:=⟨_,_,O,O,O,O,O,dU,O⟩
instance:FdT prog 117 0 0:=⟨_,_,_,O,O,O,O,dU⟩
instance:FdT prog 117 1 1:=⟨_,_,_,O,O,O,O,dU⟩
instance:FdT prog 117 2 2:=⟨_,_,_,O,O,O,O,dU⟩
instance:FdT prog 117 3 3:=⟨_,_,_,O,O,O,O,dU⟩
instance:FdT prog 117 4 4:=⟨_,_,_,O,O,O,O,dU⟩
instance:BsT prog 117 ([.u8 0,.bool false,.nils,.u8 0,.u8 0]):=⟨_,_,_,O,O,O,O,dU⟩
instance:ElT prog 119 33 40:=⟨_,_,O,O,O,O,O,dU,O⟩
instance:BsT prog 119 ([.int 0,.arr 32 1 ((List.replicate 32 0).map D.u8)]):=⟨_,_,_,O,O,O,O,dU⟩
instance:LdT prog 121 35 true:=⟨_,_,O,O,O,O⟩
instance:ElT prog 121 35 56:=⟨_,_,O,O,O,O,O,dU,O⟩
instance:FdT prog 121 0 0:=⟨_,_,_,O,O,O,O,dU⟩
instance:FdT prog 121 1 33:=⟨_,_,_,O,O,O,O,dU⟩
instance:ZrT prog 121 (.agg [.agg [.arr 32 1 ((List.replicate 32 0).map D.u8),.u32 0],.u64 0,.int 0]):=⟨_,_,O,O,dU,O⟩
instance:BsT prog 121 ([.agg [.arr 32 1 ((List.replicate 32 0).map D.u8),.u32 0],.u64 0,.int 0]):=⟨_,_,_,O,O,O,O,dU⟩
instance:SlT prog 134 137:=⟨O⟩
instance:ElT prog 137 38 112:=⟨_,_,O,O,O,O,O,dU,O⟩
instance:FdT prog 137 2 2:=⟨_,_,_,O,O,O,O,dU⟩
instance:FdT prog 137 3 34:=⟨_,_,_,O,O,O,O,dU⟩
instance:BsT prog 137 ([.int 0,.int 0,.arr 32 1 ((List.replicate 32 0).map D.u8),.agg [.u32 0,.nils,.nils,.u32 0]]):=⟨_,_,_,O,O,O,O,dU⟩
instance:LdT prog 150 1 false:=⟨_,_,O,O,O,O⟩
instance:SlT prog 150 153:=⟨O⟩
instance:LdT prog 153 1 false:=⟨_,_,O,O,O,O⟩
instance:ElT prog 153 1 24:=⟨_,_,O,O,O,O,O,dU,O⟩
instance:SlT prog 153 1:=⟨O⟩
instance:IkT prog 154 .u64:=⟨O⟩
instance:SlT prog 155 109:=⟨O⟩
instance:SlT prog 156 60:=⟨O⟩
instance:SlT prog 161 44:=⟨O⟩
instance:LdT prog 168 2 true:=⟨_,_,O,O,O,O⟩
instance:ZrT prog 168 (.agg [.int 0,.int 0]):=⟨_,_,O,O,dU,O⟩
instance:BsT prog 168 ([.int 0,.int 0]):=⟨_,_,_,O,O,O,O,dU⟩
instance:FdT prog 186 0 0:=⟨_,_,_,O,O,O,O,dU⟩
instance:BsT prog 186 ([.nils]):=⟨_,_,_,O,O,O,O,dU⟩
instance:SlT prog 199 27:=⟨O⟩
instance:LdT prog 205 33 true:=⟨_,_,O,O,O,O⟩
instance:FdT prog 205 0 0:=⟨_,_,_,O,O,O,O,dU⟩
instance:FdT prog 205 1 1:=⟨_,_,_,O,O,O,O,dU⟩
instance:ZrT prog 205 (.agg [.u64 0,.arr 32 1 ((List.replicate 32 0).map D.u8)]):=⟨_,_,O,O,dU,O⟩
instance:BsT prog 205 ([.u64 0,.arr 32 1 ((List.replicate 32 0).map D.u8)]):=⟨_,_,_,O,O,O,O,dU⟩
instance:LdT prog 208 8 true:=⟨_,_,O,O,O,O⟩
instance:ArT prog 208 8 27:=⟨O⟩
instance:BaT prog 208 8 27 1:=⟨_,_,_,O,O,O,O,O,O⟩
instance:ZrT prog 208 (.arr 8 1 ((List.replicate 8 0).map D.u32)):=⟨_,_,O,O,dU,O⟩
instance:ArT prog 209 64 5:=⟨O⟩
instance:ZrT prog 209 (.arr 64 1 ((List.replicate 64 0).map D.u8)):=⟨_,_,O,O,dU,O⟩
instance:LdT prog 211 74 true:=⟨_,_,O,O,O,O⟩
instance:FdT prog 211 0 0:=⟨_,_,_,O,O,O,O,dU⟩
instance:FdT prog 211 1 1:=⟨_,_,_,O,O,O,O,dU⟩
instance:FdT prog 211 2 9:=⟨_,_,_,O,O,O,O,dU⟩
instance:FdT prog 211 3 73:=⟨_,_,_,O,O,O,O,dU⟩
instance:ZrT prog 211 (.agg [.bool false,.arr 8 1 ((List.replicate 8 0).map D.u32),.arr 64 1 ((List.replicate 64 0).map D.u8),.u64 0]):=⟨_,_,O,O,dU,O⟩
instance:BsT prog 211 ([.bool false,.arr 8 1 ((List.replicate 8 0).map D.u32),.arr 64 1 ((List.replicate 64 0).map D.u8),.u64 0]):=⟨_,_,_,O,O,O,O,dU⟩
instance:LdT prog 217 4 true:=⟨_,_,O,O,O,O⟩
instance:ArT prog 217 4 60:=⟨O⟩
instance:BaT prog 217 4 60 1:=⟨_,_,_,O,O,O,O,O,O⟩
instance:EqT prog 217:=⟨by decide +kernel⟩
instance:ZrT prog 217 (.arr 4 1 ((List.replicate 4 0).map D.u64)):=⟨_,_,O,O,dU,O⟩
instance:ArT prog 241 8 5:=⟨O⟩
instance:ZrT prog 241 (.arr 8 1 ((List.replicate 8 0).map D.u8)):=⟨_,_,O,O,dU,O⟩
instance:LdT prog 252 1 false:=⟨_,_,O,O,O,O⟩
instance:LdT prog 254 2 true:=⟨_,_,O,O,O,O⟩
instance:FdT prog 254 0 0:=⟨_,_,_,O,O,O,O,dU⟩
instance:FdT prog 254 1 1:=⟨_,_,_,O,O,O,O,dU⟩
instance:ZrT prog 254 (.agg [.int 0,.nilp]):=⟨_,_,O,O,dU,O⟩
instance:BsT prog 254 ([.int 0,.nilp]):=⟨_,_,_,O,O,O,O,dU⟩
instance:LdT prog 255 8 true:=⟨_,_,O,O,O,O⟩
instance:ArT prog 255 4 254:=⟨O⟩
instance:BgT prog 255 [.agg [.int 0,.nilp],.agg [.int 0,.nilp],.agg [.int 0,.nilp],.agg [.int 0,.nilp]]:=⟨_,_,_,_,_,_,O,O,O,O,O,O,O⟩
instance:ZrT prog 255 (.arr 4 2 (List.replicate 4 (.agg [.int 0,.nilp]))):=⟨_,_,O,O,dU,O⟩
instance:LdT prog 258 64 true:=⟨_,_,O,O,O,O⟩
instance:ArT prog 258 64 27:=⟨O⟩
instance:ZrT prog 258 (.arr 64 1 ((List.replicate 64 0).map D.u32)):=⟨_,_,O,O,dU,O⟩
instance:SlT prog 268 3:=⟨O⟩
instance:CaT prog 13:=⟨_,Tryz.func13,dU,dU⟩
instance:CaT prog 14:=⟨_,Tryz.func14,dU,dU⟩
instance:CaT prog 16:=⟨_,Tryz.func16,dU,dU⟩
instance:CaT prog 18:=⟨_,Tryz.func18,dU,dU⟩
instance:CaT prog 20:=⟨_,Tryz.func20,dU,dU⟩
instance:CaT prog 23:=⟨_,Tryz.func23,dU,dU⟩
instance:CaT prog 25:=⟨_,Tryz.func25,dU,dU⟩
instance:CaT prog 27:=⟨_,Tryz.func27,dU,dU⟩
instance:CaT prog 28:=⟨_,Tryz.func28,dU,dU⟩
instance:CaT prog 30:=⟨_,Tryz.func30,dU,dU⟩
instance:CaT prog 32:=⟨_,Tryz.func32,dU,dU⟩
instance:CaT prog 33:=⟨_,Tryz.func33,dU,dU⟩
instance:CaT prog 35:=⟨_,Tryz.func35,dU,dU⟩
instance:CaT prog 37:=⟨_,Tryz.func37,dU,dU⟩
instance:CaT prog 38:=⟨_,Tryz.func38,dU,dU⟩
instance:CaT prog 39:=⟨_,Tryz.func39,dU,dU⟩
instance:CaT prog 40:=⟨_,Tryz.func40,dU,dU⟩
instance:CaT prog 41:=⟨_,Tryz.func41,dU,dU⟩
instance:CaT prog 42:=⟨_,Tryz.func42,dU,dU⟩
instance:CaT prog 48:=⟨_,Tryz.func48,dU,dU⟩
instance:CaT prog 50:=⟨_,Tryz.func50,dU,dU⟩
instance:CaT prog 55:=⟨_,Tryz.func55,dU,dU⟩
instance:CaT prog 56:=⟨_,Tryz.func56,dU,dU⟩
instance:CaT prog 60:=⟨_,Tryz.func60,dU,dU⟩
instance:CaT prog 61:=⟨_,Tryz.func61,dU,dU⟩
instance:CaT prog 63:=⟨_,Tryz.func63,dU,dU⟩
instance:CaT prog 64:=⟨_,Tryz.func64,dU,dU⟩
instance:CaT prog 65:=⟨_,Tryz.func65,dU,dU⟩
instance:CaT prog 66:=⟨_,Tryz.func66,dU,dU⟩
instance:CaT prog 67:=⟨_,Tryz.func67,dU,dU⟩
instance:CaT prog 70:=⟨_,Tryz.func70,dU,dU⟩
instance:CaT prog 71:=⟨_,Tryz.func71,dU,dU⟩
instance:CaT prog 72:=⟨_,Tryz.func72,dU,dU⟩
instance:CaT prog 73:=⟨_,Tryz.func73,dU,dU⟩
instance:CaT prog 74:=⟨_,Tryz.func74,dU,dU⟩
instance:CaT prog 75:=⟨_,Tryz.func75,dU,dU⟩
instance:CaT prog 76:=⟨_,Tryz.func76,dU,dU⟩
instance:CaT prog 77:=⟨_,Tryz.func77,dU,dU⟩
instance:CaT prog 78:=⟨_,Tryz.func78,dU,dU⟩
instance:CaT prog 79:=⟨_,Tryz.func79,dU,dU⟩
instance:CaT prog 80:=⟨_,Tryz.func80,dU,dU⟩
instance:CaT prog 81:=⟨_,Tryz.func81,dU,dU⟩
instance:CaT prog 82:=⟨_,Tryz.func82,dU,dU⟩
instance:CaT prog 85:=⟨_,Tryz.func85,dU,dU⟩
instance:CaT prog 88:=⟨_,Tryz.func88,dU,dU⟩
instance:CaT prog 89:=⟨_,Tryz.func89,dU,dU⟩
instance:CaT prog 90:=⟨_,Tryz.func90,dU,dU⟩
instance:CaT prog 91:=⟨_,Tryz.func91,dU,dU⟩
instance:CaT prog 97:=⟨_,Tryz.func97,dU,dU⟩
instance:CaT prog 99:=⟨_,Tryz.func99,dU,dU⟩
instance:CaT prog 100:=⟨_,Tryz.func100,dU,dU⟩
instance:CaT prog 101:=⟨_,Tryz.func101,dU,dU⟩
instance:CaT prog 102:=⟨_,Tryz.func102,dU,dU⟩
instance:CaT prog 103:=⟨_,Tryz.func103,dU,dU⟩
instance:CaT prog 110:=⟨_,Tryz.func110,dU,dU⟩
instance:CaT prog 111:=⟨_,Tryz.func111,dU,dU⟩
instance:CaT prog 112:=⟨_,Tryz.func112,dU,dU⟩
instance:CaT prog 113:=⟨_,Tryz.func113,dU,dU⟩
instance:CaT prog 114:=⟨_,Tryz.func114,dU,dU⟩
instance:CaT prog 115:=⟨_,Tryz.func115,dU,dU⟩
instance:CaT prog 116:=⟨_,Tryz.func116,dU,dU⟩
instance:CaT prog 117:=⟨_,Tryz.func117,dU,dU⟩
instance:CaT prog 119:=⟨_,Tryz.func119,dU,dU⟩
instance:CaT prog 120:=⟨_,Tryz.func120,dU,dU⟩
instance:CaT prog 121:=⟨_,Tryz.func121,dU,dU⟩
instance:CaT prog 122:=⟨_,Tryz.func122,dU,dU⟩
instance:CaT prog 123:=⟨_,Tryz.func123,dU,dU⟩
instance:CaT prog 124:=⟨_,Tryz.func124,dU,dU⟩
instance:CaT prog 125:=⟨_,Tryz.func125,dU,dU⟩
instance:CaT prog 126:=⟨_,Tryz.func126,dU,dU⟩
instance:CaT prog 127:=⟨_,Tryz.func127,dU,dU⟩
instance:CaT prog 128:=⟨_,Tryz.func128,dU,dU⟩
instance:CaT prog 129:=⟨_,Tryz.func129,dU,dU⟩
instance:CaT prog 130:=⟨_,Tryz.func130,dU,dU⟩
instance:CaT prog 131:=⟨_,Tryz.func131,dU,dU⟩
instance:CaT prog 132:=⟨_,Tryz.func132,dU,dU⟩
instance:CaT prog 133:=⟨_,Tryz.func133,dU,dU⟩
instance:CaT prog 134:=⟨_,Tryz.func134,dU,dU⟩
instance:CaT prog 136:=⟨_,Tryz.func136,dU,dU⟩
instance:CaT prog 138:=⟨_,Tryz.func138,dU,dU⟩
instance:CaT prog 141:=⟨_,Tryz.func141,dU,dU⟩
instance:CaT prog 142:=⟨_,Tryz.func142,dU,dU⟩
instance:CaT prog 143:=⟨_,Tryz.func143,dU,dU⟩
instance:CaT prog 145:=⟨_,Tryz.func145,dU,dU⟩
instance:CaT prog 146:=⟨_,Tryz.func146,dU,dU⟩
instance:CaT prog 147:=⟨_,Tryz.func147,dU,dU⟩
instance:CaT prog 148:=⟨_,Tryz.func148,dU,dU⟩
instance:CaT prog 149:=⟨_,Tryz.func149,dU,dU⟩
instance:CaT prog 150:=⟨_,Tryz.func150,dU,dU⟩
instance:CaT prog 151:=⟨_,Tryz.func151,dU,dU⟩
instance:CaT prog 152:=⟨_,Tryz.func152,dU,dU⟩
instance:CaT prog 153:=⟨_,Tryz.func153,dU,dU⟩
instance:CaT prog 154:=⟨_,Tryz.func154,dU,dU⟩
instance:CaT prog 155:=⟨_,Tryz.func155,dU,dU⟩
instance:CaT prog 156:=⟨_,Tryz.func156,dU,dU⟩
instance:CaT prog 157:=⟨_,Tryz.func157,dU,dU⟩
instance:CaT prog 158:=⟨_,Tryz.func158,dU,dU⟩
instance:CaT prog 159:=⟨_,Tryz.func159,dU,dU⟩
instance:CaT prog 160:=⟨_,Tryz.func160,dU,dU⟩
instance:CaT prog 161:=⟨_,Tryz.func161,dU,dU⟩
instance:CaT prog 162:=⟨_,Tryz.func162,dU,dU⟩
instance:CaT prog 163:=⟨_,Tryz.func163,dU,dU⟩
instance:CaT prog 164:=⟨_,Tryz.func164,dU,dU⟩
instance:CaT prog 165:=⟨_,Tryz.func165,dU,dU⟩
instance:CaT prog 166:=⟨_,Tryz.func166,dU,dU⟩
instance:CaT prog 167:=⟨_,Tryz.func167,dU,dU⟩
instance:CaT prog 168:=⟨_,Tryz.func168,dU,dU⟩
instance:CaT prog 169:=⟨_,Tryz.func169,dU,dU⟩
instance:CaT prog 170:=⟨_,Tryz.func170,dU,dU⟩
def gl:List (Nat×D):=[(0,.arr 64 1 (kTab.map D.u32))]
end
section
open Go.Proofs
theorem hP:Tryz.prog.follows .mixedOrders=true:=Tryz.checked.mixed
theorem w60(x:UInt32)(k:Int):Fn Tryz.prog gl 169 [.u32 x,.int (k:Int)] (.u32 (rotl x k)):=by
 refine Fo 17 Tryz.func169 O λC hC hD=>?_;refine u7 1 (y1 4) (V2 0 1) ⟨WH (.u32 0) O,Zt⟩ ?_;refine u7 4 (y4 6 7 8 5) (V2 0 5) ⟨zV O,zW O,UH O (kW (.int .u64 31) (.u64 31) O),zA O,Zt⟩ ?_;refine u7 9 (y9 9 10 11 12 13 14 15 16 4) (V1 4) ⟨zV O,zV O,λ_ _ H K=>R.bin (eU K 9 O) (eU K 10 O) O bV H,zV O,zV O,λ_ _ H K=>R.bin (kW (.int .u64 32) (.u64 32) O) (eU K 13 O) O Zt H,λ_ _ H K=>R.bin (eU K 12 O) (eU K 14 O) O bV H,zB O,zA O,Zt⟩ ?_;exact W.ret (Eo O)
theorem f7(x:UInt32)(k:Int):Fn Tryz.prog gl 163 [.u32 x,.int (k:Int)] (.u32 (right x k)):=by
 refine Fo 9 Tryz.func163 O λC hC hD=>?_;refine u7 1 (y1 4) (V2 0 1) ⟨WH (.u32 0) O,Zt⟩ ?_;refine u7 5 (y5 5 6 7 8 4) (V1 4) ⟨zV O,zV O,AC O,zD hC (w60 _ _) O (F1 (.u32 _)),zA O,Zt⟩ ?_;exact W.ret (Eo O)
theorem start_ok:Fn Tryz.prog gl 147 [] (.arr 8 1 (iv.map D.u32)):=by
 refine Fo 2 Tryz.func147 O λC hC hD=>?_;refine c6 1 [] [] Zt O (M7 O (tW (V1 0) (B8 0) 2 O ?_));refine c6 2 (y1 1) (V2 0 1) ⟨λ_ _ H _=>z21 (z:=1) (.cons (kW (.int .u32 1779033703) (.u32 1779033703) O) (.cons (kW (.int .u32 3144134277) (.u32 3144134277) O) (.cons (kW (.int .u32 1013904242) (.u32 1013904242) O) (.cons (kW (.int .u32 2773480762) (.u32 2773480762) O) (.cons (kW (.int .u32 1359893119) (.u32 1359893119) O) (.cons (kW (.int .u32 2600822924) (.u32 2600822924) O) (.cons (kW (.int .u32 528734635) (.u32 528734635) O) (.cons (kW (.int .u32 1541459225) (.u32 1541459225) O) .nil)))))))) ⟨⟨O,O,O⟩,⟨O,O,O⟩,⟨O,O,O⟩,⟨O,O,O⟩,⟨O,O,O⟩,⟨O,O,O⟩,⟨O,O,O⟩,⟨O,O,O⟩,Zt⟩ O H,Zt⟩ O (B2 O (tW (V1 0) (B8 0) 2 O ?_));exact W.ret (Eo O (iL 208 8))
theorem VE:Fn Tryz.prog gl 124 [] (WJ ShaS.start):=by
 refine Fo 3 Tryz.func124 O λC hC hD=>?_;refine c6 1 [] [] Zt O (M7 O (tW (V1 0) (B8 0) 3 O ?_));refine c6 3 (y2 1 2) (V2 0 2) ⟨λ_ _ H _=>o9 hC (start_ok) Bn (F1 (.arr _ _ _ (K7 λ_=>.u32 _))) H,λ_ _ H K=>C0 (l:=[.bool false,.arr 8 1 ((List.replicate 8 0).map D.u32),.arr 64 1 ((List.replicate 64 0).map D.u8),.u64 0]) (l':=[_,_,_,_]) (.cons (kB true O) (.cons (eU K 1 O) (.nil O))) ⟨⟨_,(kB true O),O,O,O⟩,⟨⟨_,(eU K 1 O),O,O,O⟩,Zt⟩⟩ H,Zt⟩ O (B2 O (tW (V1 0) (B8 0) 3 O ?_));exact W.ret (Eo O (iL 211 74))
theorem k23(p:List UInt8)(hp:p.length=64):Fn Tryz.prog gl 162 [.rp (.arr 64 1 (p.map D.u8))] (.arr 64 1 ((sched p 64).map D.u32)):=by
 refine Fo 75 Tryz.func162 O λC hC hD=>?_;refine c6 1 [] (V1 0) Zt O (M7 O (tW (V2 0 2) (B8 2) 75 O ?_));refine W.seq (u7 1 (y1 8) (V3 0 2 8) ⟨UG (kI 0 O) O,Zt⟩ ?_);refine W.block ?_;refine P6 64 (λt=>⟨75,[(0,.rp (.arr 64 1 (p.map D.u8))),(2,.ptr 2 0 []),(8,.int ((t:Nat):Int))],[(2,.var (.arr 64 1 ((sched p t).map D.u32)))]⟩) O λt htl=>?_;have hsl:=EF p t;refine u7 1 (y1 9) (V4 0 2 8 9) ⟨UC 64 O,Zt⟩ ?_;refine W.seq ?_;refine c4 O (λhc9=>?_) (λhc9=>?_)
 ·refine W.skip (W.seq (W.block (u7 2 (y2 10 3) (V4 0 2 3 8) ⟨zV O,zA O,Zt⟩ ?_)));refine W.seq (u7 2 (y2 11 12) (V5 0 2 3 8 12) ⟨zV O,UC 16 O,Zt⟩ ?_);refine c4 O (λhc12=>?_) (λhc12=>?_)
  ·refine W.seq (W.seq ?_);refine HO 10 [.y 13 _,.y 14 _,.y 15 _,.y 16 _,.y 17 _,.y 18 _,.y 19 _,.y 20 _,.y 21 _,.y 22 _] [] [] [(0,_),(2,_),(3,_),(8,_),(20,_),(21,_),(22,_)] [(2,.var _)] 75 ⟨xM O,aU λ_ _ H K=>R.nilc (eU K 13 O) H,xM O,aU λ_ _ H K=>AK (4) (t) (kI 4 O) (eU K 15 O) bU H,xM O,aU λ_ _ H K=>AK (4) (t) (kI 4 O) (eU K 17 O) bU H,aU λ_ _ H K=>RA ((4*t)) (4) (eU K 18 O) (kI 4 O) bU H,aU λ_ _ H K=>u22 ((4*t)) (((4*t)+4)) (4) (eU K 14 O) (C5 (eU K 16 O)) (C5 (eU K 19 O)) O O bU bU bU (NO) H,aU λ_ _ H K=>E5 (n:=4) (SC.sl (K 20 _ O)) (by simp;omega) H,aU λ_ _ H _=>R.mov (kI 0 O) O H,Zt⟩ O O O O (tU O ?_);refine W.block ?_;refine P6 4 (λi=>⟨75,[(0,.rp (.arr 64 1 (p.map D.u8))),(2,.ptr 2 0 []),(3,.int ((t:Nat):Int)),(8,.int ((t:Nat):Int)),(20,.sl none 1 (((p.drop (4*t)).take 4).map D.u8)),(21,.int ((4:Nat):Int)),(22,.int ((i:Nat):Int))],[(2,.var (.arr 64 1 ((x58 p t (sched p t) i).map D.u32)))]⟩) O λi hil=>?_;have hil2:=q77 p t (sched p t) i;refine u7 1 (y1 23) (V8 0 2 3 8 20 21 22 23) ⟨zS O,Zt⟩ ?_;refine W.seq ?_;refine c4 O (λhc23=>?_) (λhc23=>?_)
   ·refine W.skip (W.seq (W.block (u7 3 (y3 24 25 5) (V8 0 2 3 5 8 20 21 22) ⟨zI i O,zL O (z36 bO bO),zA O,Zt⟩ ?_)));refine O3 10 (y9 26 27 28 29 30 31 32 33 34) (V9 0 2 3 8 20 21 22 33 34) ⟨zV O,zV O,RF t O,λ_ B H K=>R.ldP (K 28 _ O) (B 2 _ O) (H1 (mG (x58 p t (sched p t) i)) U1 bU) O O O H,λ_ _ H K=>R.bin (eU K 29 O) (kW (.int .u64 8) (.u64 8) O) O bV H,zV O,zW O,zB O,RF t O,Zt⟩ O (⟨O,_,XP (gU 34 O) (xU 2 O) (H1 (mG (x58 p t (sched p t) i)) U1 bU) (gV 33 O) (by rfl) (by rfl) (by rfl) (by rfl) (XY (mG (x58 p t (sched p t) i)) E1 E3),tW (V7 0 2 3 8 20 21 22) (B8 2) 75 O ?_⟩);refine m7 2 (y2 35 22) (V7 0 2 3 8 20 21 22) ⟨N2 1 O,zV O,Zt⟩ ?_;exact⟨bU,rfl⟩
   ·obtain rfl:i=4:=by omega
    refine W.exit (W.exit ?_);refine m7 2 (y2 73 8) (V3 0 2 8) ⟨N2 1 O,zV O,Zt⟩ ?_;exact⟨bU,(by simp only[sched];first|rw[u4 hc12]|(rw[w3 hc12];rfl))⟩
  ·refine W.skip (W.seq ?_);refine T5 10 [0,1,3,7,0,16,48,112,15,511] hP dU (z91 36 37 38 39 40 41 42 43 6 7) (V6 0 2 3 6 7 8) ⟨zV O,AB 15 O,RF ((t-15)) O,λ_ B H K=>R.ldP (K 38 _ O) (B 2 _ O) (H1 (mG (sched p t)) U1 bU) O O O H,zV O,AB 2 O,RF ((t-2)) O,λ_ B H K=>R.ldP (K 42 _ O) (B 2 _ O) (H1 (mG (sched p t)) U1 bU) O O O H,zA O,zA O,Zt⟩ O (tW (V6 0 2 3 6 7 8) (B8 2) 75 O ?_);refine T5 29 (0::0::2::6::14::0::32::96::224::510::0::1024::0::7168::15360::0::32768::130048::262142::0::539648::0::3685376::7879680::0::16777216::66599936::134217726::268435455::536870911::[]) hP dU (.y 44 _::.y 45 _::.y 46 _::.y 47 _::.y 48 _::.y 49 _::.y 50 _::.y 51 _::.y 52 _::.y 53 _::.y 54 _::.y 55 _::.y 56 _::.y 57 _::.y 58 _::.y 59 _::.y 60 _::.y 61 _::.y 62 _::.y 63 _::.y 64 _::.y 65 _::.y 66 _::.y 67 _::.y 68 _::.y 69 _::.y 70 _::.y 71 _::.y 72 _::[]) (V5 0 2 8 71 72) ⟨zV O,zV O,AB 16 O,RF ((t-16)) O,λ_ B H K=>R.ldP (K 47 _ O) (B 2 _ O) (H1 (mG (sched p t)) U1 bU) O O O H,zV O,AB 7 O,RF ((t-7)) O,λ_ B H K=>R.ldP (K 51 _ O) (B 2 _ O) (H1 (mG (sched p t)) U1 bU) O O O H,zB O,zV O,GT hC (f7 _ _) O (kI 7 O) (F1 (.u32 _)),zV O,GT hC (f7 _ _) O (kI 18 O) (F1 (.u32 _)),zB O,zV O,λ_ _ H K=>R.bin (eU K 59 O) (kW (.int .u64 3) (.u64 3) O) O bV H,zB O,zB O,zV O,GT hC (f7 _ _) O (kI 17 O) (F1 (.u32 _)),zV O,GT hC (f7 _ _) O (kI 19 O) (F1 (.u32 _)),zB O,zV O,λ_ _ H K=>R.bin (eU K 68 O) (kW (.int .u64 10) (.u64 10) O) O bV H,zB O,zB O,RF t O,Zt⟩ O (⟨O,_,XP (gU 72 O) (xU 2 O) (H1 (mG (sched p t)) U1 bU) (gV 71 O) (by rfl) (by rfl) (by rfl) (by rfl) (XY (mG (sched p t)) E1 E3),tW (V3 0 2 8) (B8 2) 75 O ?_⟩);refine m7 2 (y2 73 8) (V3 0 2 8) ⟨N2 1 O,zV O,Zt⟩ ?_;exact⟨bU,(by simp only[sched];first|rw[u4 hc12]|(rw[w3 hc12];rfl))⟩
 ·obtain rfl:t=64:=by omega
  refine W.exit (c6 2 (y1 74) (V2 2 74) ⟨xL O,Zt⟩ O (B2 O (tW (V1 2) (B8 2) 75 O ?_)));exact W.ret (Eo O (iL 258 64))
theorem x00(h:List UInt32)(p:List UInt8)(hh:h.length=8)(hp:p.length=64):Fn Tryz.prog gl 148 [.arr 8 1 (h.map D.u32),.rp (.arr 64 1 (p.map D.u8))] (.arr 8 1 ((comp h p).map D.u32)):=by
 refine Fo 119 Tryz.func148 O λC hC hD=>?_;refine c6 2 [] (V2 0 1) Zt O (⟨O,_,R.box (gV 0 O) O O nU,(M7 O (tW (V3 1 2 4) (M4 4 2) 119 O ?_))⟩);refine W.seq ?_;refine T5 24 [0,1,0,4,0,16,0,64,0,256,0,1024,0,4096,0,16384,3,65551,196671,459007,984063,2035711,4145151,8388607] hP dU [.y 20 _,.y 21 _,.y 22 _,.y 23 _,.y 24 _,.y 25 _,.y 26 _,.y 27 _,.y 28 _,.y 29 _,.y 30 _,.y 31 _,.y 32 _,.y 33 _,.y 34 _,.y 35 _,.y 5 _,.y 6 _,.y 7 _,.y 8 _,.y 9 _,.y 10 _,.y 11 _,.y 12 _] (z18 1 2 4 5 6 7 8 9 10 11 12) ⟨λ_ _ H K=>R.idxP (0) (K 2 _ O) (C5 (kI 0 O)) O bU H,λ_ B H K=>R.ldP (K 20 _ O) (B 2 _ O) (H1 (mG h) U1 bU) O O O H,λ_ _ H K=>R.idxP (1) (K 2 _ O) (C5 (kI 1 O)) O bU H,λ_ B H K=>R.ldP (K 22 _ O) (B 2 _ O) (H1 (mG h) U1 bU) O O O H,λ_ _ H K=>R.idxP (2) (K 2 _ O) (C5 (kI 2 O)) O bU H,λ_ B H K=>R.ldP (K 24 _ O) (B 2 _ O) (H1 (mG h) U1 bU) O O O H,λ_ _ H K=>R.idxP (3) (K 2 _ O) (C5 (kI 3 O)) O bU H,λ_ B H K=>R.ldP (K 26 _ O) (B 2 _ O) (H1 (mG h) U1 bU) O O O H,λ_ _ H K=>R.idxP (4) (K 2 _ O) (C5 (kI 4 O)) O bU H,λ_ B H K=>R.ldP (K 28 _ O) (B 2 _ O) (H1 (mG h) U1 bU) O O O H,λ_ _ H K=>R.idxP (5) (K 2 _ O) (C5 (kI 5 O)) O bU H,λ_ B H K=>R.ldP (K 30 _ O) (B 2 _ O) (H1 (mG h) U1 bU) O O O H,λ_ _ H K=>R.idxP (6) (K 2 _ O) (C5 (kI 6 O)) O bU H,λ_ B H K=>R.ldP (K 32 _ O) (B 2 _ O) (H1 (mG h) U1 bU) O O O H,λ_ _ H K=>R.idxP (7) (K 2 _ O) (C5 (kI 7 O)) O bU H,λ_ B H K=>R.ldP (K 34 _ O) (B 2 _ O) (H1 (mG h) U1 bU) O O O H,zA O,zA O,zA O,zA O,zA O,zA O,zA O,zA O,Zt⟩ O (tW (z18 1 2 4 5 6 7 8 9 10 11 12) (M4 4 2) 119 O ?_);refine c6 4 (y2 36 37) (z18 2 4 5 6 7 8 9 10 11 12 37) ⟨zV O,zC hC (k23 _ hp) O (F1 (.arr _ _ _ (K7 λ_=>.u32 _))),Zt⟩ O (M7 O (B2 O (tW (z18 2 4 5 6 7 8 9 10 11 12 13) (QB 13 4 2) 119 O ?_)));refine W.seq (u7 2 (y2 38 39) (z17 2 4 5 6 7 8 9 10 11 12 13 38 39) ⟨λ_ _ H _=>R.ldR (evg hC O) O O O H,UG (kI 0 O) O,Zt⟩ ?_);refine W.block ?_;refine P6 64 (λt=>⟨119,[(2,.ptr 2 0 []),(4,.ptr 4 0 []),(5,.u32 (rds h (sched p 64) t).a),(6,.u32 (rds h (sched p 64) t).b),(7,.u32 (rds h (sched p 64) t).c),(8,.u32 (rds h (sched p 64) t).d),(9,.u32 (rds h (sched p 64) t).e),(10,.u32 (rds h (sched p 64) t).f),(11,.u32 (rds h (sched p 64) t).g),(12,.u32 (rds h (sched p 64) t).l),(13,.ptr 13 0 []),(38,.arr 64 1 (kTab.map D.u32)),(39,.int ((t:Nat):Int))],[(13,.var (.arr 64 1 ((sched p 64).map D.u32))),(4,.var (.arr 8 1 ((List.replicate 8 0).map D.u32))),(2,.var (.arr 8 1 (h.map D.u32)))]⟩) O λt htl=>?_;have hsl:=EF p 64;have hkl:kTab.length=64:=rfl;refine u7 1 (y1 40) (u96 2 4 5 6 7 8 9 10 11 12 13 38 39 40) ⟨UC 64 O,Zt⟩ ?_;refine W.seq ?_;refine c4 O (λhc40=>?_) (λhc40=>?_)
 ·refine W.skip (W.seq (W.block (u7 4 (y4 41 42 14 15) (u30 2 4 5 6 7 8 9 10 11 12 13 14 15 38 39) ⟨zV O,λ_ _ H K=>R.ixA (t) (eU K 38 O) (C5 (eU K 39 O)) O (mG kTab) O O O H,zA O,zA O,Zt⟩ ?_)));refine W.seq ?_;refine T5 25 (0::0::2::0::14::30::0::94::254::511::0::0::0::0::12288::30720::64512::131071::0::524287::0::1048576::3145728::8388607::16777215::[]) hP dU (.y 43 _::.y 44 _::.y 45 _::.y 46 _::.y 47 _::.y 48 _::.y 49 _::.y 50 _::.y 51 _::.y 52 _::.y 53 _::.y 54 _::.y 55 _::.y 56 _::.y 57 _::.y 58 _::.y 59 _::.y 60 _::.y 61 _::.y 62 _::.y 63 _::.y 64 _::.y 65 _::.y 66 _::.y 16 _::[]) (z17 2 4 5 6 7 8 9 10 11 13 16 38 39) ⟨zV O,zV O,GT hC (f7 _ _) O (kI 6 O) (F1 (.u32 _)),zV O,GT hC (f7 _ _) O (kI 11 O) (F1 (.u32 _)),zB O,zV O,GT hC (f7 _ _) O (kI 25 O) (F1 (.u32 _)),zB O,zB O,zV O,zV O,zV O,zV O,zB O,zB O,zB O,zB O,zV O,zB O,zV O,RF t O,λ_ B H K=>R.ldP (K 64 _ O) (B 13 _ O) (H1 (mG (sched p 64)) U1 bU) O O O H,zB O,zA O,Zt⟩ O (tW (z17 2 4 5 6 7 8 9 10 11 13 16 38 39) (QB 13 4 2) 119 O ?_);refine u7 19 (v05 67 68 69 70 71 72 73 74 75 76 77 78 79 80 81 82 83 84 17) (u96 2 4 5 6 7 8 9 10 11 13 16 17 38 39) ⟨zV O,GT hC (f7 _ _) O (kI 2 O) (F1 (.u32 _)),zV O,GT hC (f7 _ _) O (kI 13 O) (F1 (.u32 _)),zB O,zV O,GT hC (f7 _ _) O (kI 22 O) (F1 (.u32 _)),zB O,zV O,zV O,zB O,zV O,zV O,zV O,zB O,zB O,zB O,zB O,zA O,Zt⟩ ?_;refine m7 20 (v52 85 86 87 88 89 90 91 92 93 94 95 96 12 11 10 9 8 7 6 5) (z17 2 4 5 6 7 8 9 10 11 12 13 38 39) ⟨zV O,zV O,zV O,zV O,zV O,zB O,zV O,zV O,zV O,zV O,zV O,zB O,zA O,zA O,zA O,zA O,zA O,zA O,zA O,zA O,Zt⟩ ?_;refine m7 2 (y2 97 39) (z17 2 4 5 6 7 8 9 10 11 12 13 38 39) ⟨N2 1 O,zV O,Zt⟩ ?_;exact⟨bU,rfl⟩
 ·obtain rfl:t=64:=by omega
  refine W.exit (W.seq (u7 10 (z91 98 99 100 101 102 103 104 105 106 107) (V4 2 4 106 107) ⟨zV O,zV O,zV O,zV O,zV O,zV O,zV O,zV O,λ_ _ H K=>z21 (z:=1) (.cons (eU K 98 O) (.cons (eU K 99 O) (.cons (eU K 100 O) (.cons (eU K 101 O) (.cons (eU K 102 O) (.cons (eU K 103 O) (.cons (eU K 104 O) (.cons (eU K 105 O) .nil)))))))) ⟨⟨O,O,O⟩,⟨O,O,O⟩,⟨O,O,O⟩,⟨O,O,O⟩,⟨O,O,O⟩,⟨O,O,O⟩,⟨O,O,O⟩,⟨O,O,O⟩,Zt⟩ O H,UG (kI 0 O) O,Zt⟩ ?_));refine W.block ?_;refine P6 8 (λi=>⟨119,[(2,.ptr 2 0 []),(4,.ptr 4 0 []),(106,.arr 8 1 ((rds h (sched p 64) 64).list.map D.u32)),(107,.int ((i:Nat):Int))],[(13,.var (.arr 64 1 ((sched p 64).map D.u32))),(4,.var (.arr 8 1 ((List.replicate 8 0).map D.u32))),(2,.var (.arr 8 1 ((BW h (rds h (sched p 64) 64).list i).map D.u32)))]⟩) O λi hil=>?_;have hll:(rds h (sched p 64) 64).list.length=8:=rfl;have hal:=CY h (rds h (sched p 64) 64).list i;refine u7 1 (y1 108) (V5 2 4 106 107 108) ⟨UC 8 O,Zt⟩ ?_;refine W.seq ?_;refine c4 O (λhc108=>?_) (λhc108=>?_)
  ·refine W.skip (W.seq (W.block (u7 4 (y4 109 110 18 19) (V6 2 4 18 19 106 107) ⟨zV O,λ_ _ H K=>R.ixA (i) (eU K 106 O) (C5 (eU K 107 O)) O (n8 (l:=(rds h (sched p 64) 64).list) bU) O O O H,zA O,zA O,Zt⟩ ?_)));refine O3 7 (y6 111 112 113 114 115 116) (V6 2 4 106 107 115 116) ⟨zV O,RF i O,λ_ B H K=>R.ldP (K 112 _ O) (B 2 _ O) (H1 (n8 (l:=(BW h (rds h (sched p 64) 64).list i)) bU) U1 bU) O O O H,zV O,zB O,RF i O,Zt⟩ O (⟨O,_,XP (gU 116 O) (xU 2 O) (H1 (n8 (l:=(BW h (rds h (sched p 64) 64).list i)) bU) U1 bU) (gV 115 O) (by rfl) (by rfl) (by rfl) (by rfl) (XY (n8 (l:=(BW h (rds h (sched p 64) 64).list i)) bU) E1 E3),tW (V4 2 4 106 107) (QB 13 4 2) 119 O ?_⟩);refine m7 2 (y2 117 107) (V4 2 4 106 107) ⟨N2 1 O,zV O,Zt⟩ ?_;exact⟨bU,rfl⟩
  ·obtain rfl:i=8:=by omega
   refine W.exit (c6 2 (y1 118) (V2 4 118) ⟨xL O,Zt⟩ O (B2 O (tW (V1 4) (QB 13 4 2) 119 O ?_)));exact W.ret (Eo O (iL 208 8))
theorem RD(s:ShaS)(b:List UInt8)(hs:s.ok)(hb0:b.length<=1073741824):Fn Tryz.prog gl 125 [WJ s,.sl none 1 (b.map D.u8)] (WJ (YG s b)):=by
 refine Fo 39 Tryz.func125 O λC hC hD=>?_;refine c6 2 [] (V2 0 1) Zt O (⟨O,_,R.box (gV 0 O) O O nU,(M7 O (tW (V3 1 2 4) (M4 4 2) 39 O ?_))⟩);refine RC (λs__=>∃ q__:{q__:Unit//True},s__=⟨39,[(1,.sl none 1 (b.map D.u8)),(2,.ptr 2 0 []),(4,.ptr 4 0 [])],[(4,.var (WJ ShaS.zero)),(2,.var (WJ (bif s.begun then s else ShaS.start)))]⟩) ?_ ?_
 ·refine u7 3 (y3 6 7 8) (V4 1 2 4 8) ⟨xF O,xL O,AC O,Zt⟩ ?_;refine W.cond O (λhc8=>?_) (λhc8=>?_)
  ·refine O3 2 (y1 9) (V4 1 2 4 9) ⟨λ_ _ H _=>o9 hC (VE) Bn (F1 (BM _)) H,Zt⟩ O (B2 O (tW (V3 1 2 4) (M4 4 2) 39 O ?_));exact⟨⟨(()),Zt⟩,(by have h0:s.begun=false:=(by simpa using hc8);rw[h0];rfl)⟩
  ·refine A8 (V3 1 2 4) (M4 4 2) 39 O ?_;refine W.skip ?_;exact⟨⟨(()),Zt⟩,(by have h0:s.begun=true:=(by simpa using hc8);rw[h0];rfl)⟩
 ·rintro s__ ⟨⟨_,_⟩,rfl⟩
  have hs0:(bif s.begun then s else ShaS.start).ok:=by cases s.begun<;>first|exact hs|exact KY
  refine W.seq (W.block ?_);refine W.loop (α:={q__:ShaS×List UInt8//q__.1.ok/\q__.2.length<=b.length/\EH q__.1 q__.2=YG s b}) (λq__=>⟨39,[(1,.sl none 1 (q__.1.2.map D.u8)),(2,.ptr 2 0 []),(4,.ptr 4 0 [])],[(4,.var (WJ ShaS.zero)),(2,.var (WJ q__.1.1))]⟩) (λq__=>q__.1.2.length) ⟨((bif s.begun then s else ShaS.start),b),⟨hs0,z7 _,O⟩⟩ O ?_;rintro ⟨⟨u,c⟩,⟨hu,hcb,heq⟩⟩;show W _ _ _ _ ⟨39,[(1,.sl none 1 (c.map D.u8)),(2,.ptr 2 0 []),(4,.ptr 4 0 [])],[(4,.var (WJ ShaS.zero)),(2,.var (WJ u))]⟩;have hcb:c.length<=b.length:=hcb;have hm:=OU u;have hkl:=w31 u c;have hkr:=q76 u c;have hpl:=NN u c hu;have hpp:=hu.p;refine W.seq (u7 3 (y3 10 11 12) (V4 1 2 4 12) ⟨zV O,R2 O,z23 0 O,Zt⟩ ?_);refine c4 O (λhc12=>?_) (λhc12=>?_)
  ·refine W.skip (W.block (c6 8 (y6 13 14 15 16 17 18) (V5 1 2 4 17 18) ⟨xF O,xF O,xL O,λ_ _ H K=>R.bin (eU K 15 O) (kW (.int .u64 64) (.u64 64) O) O dU H,λ_ B H K=>r9 (mS u) (64) (64-mS u) (K 13 _ O) (B 2 _ O) O (u88 (eU K 16 O)) O O O bO bU bU H,zV O,Zt⟩ O (⟨O,_,q43 (k:=kS u c) (l2:=((CT u c).map D.u8)) (gU 17 O) (xU 2 O) O bO (SrcO.sc (SC.sl (gU 18 O)) (B0 (λ_=>rfl))) (NR (λ_=>rfl)) nU (by simp only[z9];rfl) (by simp only[CT,d5,U8,S8]) O,(JP O (tW (V4 1 2 4 5) (M4 4 2) 39 O ?_))⟩)));refine u7 4 (y4 20 21 22 1) (V4 1 2 4 5) ⟨zV O,zV O,λ_ _ H K=>u23 (kS u c) (c.length) ((c.length-kS u c)) (eU K 20 O) (C5 (eU K 21 O)) O O (by simp) bO (by first|omega|simp) O (k32) H,zA O,Zt⟩ ?_;refine c6 7 (y6 23 24 25 26 27 28) (V5 1 2 4 27 28) ⟨xF O,xL O,zV O,zW O,zB O,xF O,Zt⟩ O (B2 O (tW (V3 1 2 4) (M4 4 2) 39 O ?_));refine u7 4 (y4 29 30 31 32) (V4 1 2 4 32) ⟨xF O,xL O,λ_ _ H K=>R.bin (eU K 30 O) (kW (.int .u64 64) (.u64 64) O) O dU H,UH O (kW (.int .u64 0) (.u64 0) O),Zt⟩ ?_;refine W.cond O (λhc32=>?_) (λhc32=>?_)
   ·refine O3 6 (y5 33 34 35 36 37) (V5 1 2 4 36 37) ⟨xF O,xL O,xF O,λ_ B H K=>o9 hC (x00 _ _ hu.h hpl) (Bc (Bp (eU K 34 O) O O) (Bc (Bor.ptr (K 35 _ O) (B 2 _ O) O (x86 (λ_=>rfl)) O) Bn)) (F1 (.arr _ _ _ (K7 λ_=>.u32 _))) H,xF O,Zt⟩ O (B2 O (tW (V3 1 2 4) (M4 4 2) 39 O ?_));exact⟨⟨(YN u c,c.drop (kS u c)),⟨NG u c hu,by simp only[v8];omega,by rw[<- UY u c (by omega)];exact heq⟩⟩,(by simp only[YN];first|(rw[show(nS u c%64==0)=true from hc32];rfl)|(rw[show(nS u c%64==0)=false from hc32];rfl)),(by have:=OB u c (by omega);show(c.drop (kS u c)).length<c.length;simp only[v8];omega)⟩
   ·refine A8 (V3 1 2 4) (M4 4 2) 39 O ?_;refine W.skip ?_;exact⟨⟨(YN u c,c.drop (kS u c)),⟨NG u c hu,by simp only[v8];omega,by rw[<- UY u c (by omega)];exact heq⟩⟩,(by simp only[YN];first|(rw[show(nS u c%64==0)=true from hc32];rfl)|(rw[show(nS u c%64==0)=false from hc32];rfl)),(by have:=OB u c (by omega);show(c.drop (kS u c)).length<c.length;simp only[v8];omega)⟩
  ·have hw:=CU u c (by omega);rw[hw] at heq;refine W.exit (c6 2 (y1 38) (V2 4 38) ⟨xL O,Zt⟩ O (B2 O (tW (V1 4) (M4 4 2) 39 O ?_)));exact W.ret (En O (g8 WJ heq) (iL 211 74))
theorem u03(s:ShaS)(hs:s.ok):Fn Tryz.prog gl 126 [WJ s] (j4 (u04 s)):=by
 refine Fo 54 Tryz.func126 O λC hC hD=>?_;refine c6 2 [] (V1 0) Zt O (⟨O,_,R.box (gV 0 O) O O nU,(M7 O (tW (V2 1 2) (M4 2 1) 54 O ?_))⟩);refine u7 4 (y4 8 9 10 3) (V3 1 2 3) ⟨xF O,xL O,UH O (kW (.int .u64 8) (.u64 8) O),zA O,Zt⟩ ?_;refine c6 4 (y3 11 12 13) (V4 1 2 3 13) ⟨xL O,λ_ _ H _=>Z7 (z:=1) (.cons (kW (.int .u8 128) (.u8 128) O) .nil) ⟨⟨O,O,O⟩,Zt⟩ O H dU,λ_ _ H K=>o9 hC (RD s [128] hs dU) (Bc (Bp (eU K 11 O) O O) (Bc (Bor.sc (SC.sl (K 12 _ O)) O) Bn)) (F1 (BM _)) H,Zt⟩ O (B2 O (tW (V3 1 2 3) (M4 2 1) 54 O ?_));refine W.seq (W.block ?_);refine W.loop (α:={q__:ShaS//q__.ok/\q__.begun=true/\k51 (DG q__) q__=x38 s}) (λq__=>⟨54,[(1,.ptr 1 0 []),(2,.ptr 2 0 []),(3,.u64 (s.n*8))],[(2,.var (j4 (List.replicate 32 0))),(1,.var (WJ q__.1))]⟩) (λq__=>DG q__.1) ⟨(w68 s),⟨MS s _ hs,AQ s _,O⟩⟩ O ?_;rintro ⟨u,⟨hu,hub,heq⟩⟩;show W _ _ _ _ ⟨54,[(1,.ptr 1 0 []),(2,.ptr 2 0 []),(3,.u64 (s.n*8))],[(2,.var (j4 (List.replicate 32 0))),(1,.var (WJ u))]⟩;refine W.seq (u7 4 (y4 14 15 16 17) (V4 1 2 3 17) ⟨xF O,xL O,λ_ _ H K=>R.bin (eU K 15 O) (kW (.int .u64 64) (.u64 64) O) O dU H,UH O (kW (.int .u64 56) (.u64 56) O),Zt⟩ ?_);refine W.cond O (λhc17=>?_) (λhc17=>?_)
 ·refine W.skip (W.block ?_);refine O3 4 (y3 18 19 20) (V4 1 2 3 20) ⟨xL O,λ_ _ H _=>Z7 (z:=1) (.cons (kW (.int .u8 0) (.u8 0) O) .nil) ⟨⟨O,O,O⟩,Zt⟩ O H dU,λ_ _ H K=>o9 hC (RD u [0] hu dU) (Bc (Bp (eU K 18 O) O O) (Bc (Bor.sc (SC.sl (K 19 _ O)) O) Bn)) (F1 (BM _)) H,Zt⟩ O (B2 O (tW (V3 1 2 3) (M4 2 1) 54 O ?_));exact⟨⟨(YG u [0]),⟨MS u _ hu,AQ u _,by rw[k49 u hub (w25 hc17)] at heq;exact heq⟩⟩,rfl,(by have:=k50 u hub (w25 hc17);simp only[];omega)⟩
 ·have hp0:DG u=0:=x37 u (u73 hc17);rw[hp0] at heq;obtain rfl:u=x38 s:=heq;have hs2:=hu;refine W.exit (c6 1 [] (V3 1 2 3) Zt O (M7 O (tW (V4 1 2 3 4) (QB 4 2 1) 54 O ?_)));refine W.seq (u7 1 (y1 21) (V5 1 2 3 4 21) ⟨UG (kI 0 O) O,Zt⟩ ?_);refine W.block ?_;refine P6 8 (λi=>⟨54,[(1,.ptr 1 0 []),(2,.ptr 2 0 []),(3,.u64 (s.n*8)),(4,.ptr 4 0 []),(21,.int ((i:Nat):Int))],[(4,.var (.arr 8 1 ((DM (s.n*8) i).map D.u8))),(2,.var (j4 (List.replicate 32 0))),(1,.var (WJ (x38 s)))]⟩) O λi hil=>?_;have hll:=BZ (s.n*8) i;refine u7 1 (y1 22) (V6 1 2 3 4 21 22) ⟨UC 8 O,Zt⟩ ?_;refine W.seq ?_;refine c4 O (λhc22=>?_) (λhc22=>?_)
  ·refine W.skip (W.seq (W.block (u7 2 (y2 23 5) (V6 1 2 3 4 5 21) ⟨zV O,zA O,Zt⟩ ?_)));refine O3 9 (y8 24 25 26 27 28 29 30 31) (V7 1 2 3 4 21 30 31) ⟨zV O,zV O,zV O,YK 8 O,λ_ _ H K=>GG (56) ((8*i)) (kI 56 O) (eU K 27 O) bU bU H,λ_ _ H K=>R.bin (eU K 25 O) (eU K 28 O) O (show(0:Int)<=_ from Y4 _) H,zW O,RF i O,Zt⟩ O (⟨O,_,XP (gU 31 O) (xU 4 O) (H1 (mG (DM (s.n*8) i)) U1 bU) (gV 30 O) (by rfl) (by rfl) (by rfl) (by rfl) (XY (mG (DM (s.n*8) i)) E1 E3),tW (V5 1 2 3 4 21) (QB 4 2 1) 54 O ?_⟩);refine m7 2 (y2 32 21) (V5 1 2 3 4 21) ⟨N2 1 O,zV O,Zt⟩ ?_;exact⟨bU,rfl⟩
  ·obtain rfl:i=8:=by omega
   refine W.exit (W.seq ?_);refine T5 3 [0,0,3,7] hP dU (y3 33 34 35) (V3 1 2 35) ⟨xL O,λ_ B H K=>r9 (0) (8) (8) (K 4 _ O) (B 4 _ O) O O O O O bU bU O H,λ_ B H K=>o9 hC (RD _ _ hs2 (by simp[BZ])) (Bc (Bp (eU K 33 O) O O) (Bc (Bor.sc (SC.va (K 34 _ O) (B 4 _ O) O bU) (MF (λ_=>rfl) (BZ _ _))) Bn)) (F1 (BM _)) H,Zt⟩ O (B2 O (tW (V2 1 2) (QB 4 2 1) 54 O ?_));refine c6 1 [] (V2 1 2) Zt O (M7 O (tW (V3 1 2 6) (CO 6 4 2 1) 54 O ?_));refine W.seq (u7 1 (y1 36) (V4 1 2 6 36) ⟨UG (kI 0 O) O,Zt⟩ ?_);refine W.block ?_;refine P6 32 (λi=>⟨54,[(1,.ptr 1 0 []),(2,.ptr 2 0 []),(6,.ptr 6 0 []),(36,.int ((i:Nat):Int))],[(6,.var (j4 (TU (TZ s).h i))),(4,.var (.arr 8 1 ((DM (s.n*8) 8).map D.u8))),(2,.var (j4 (List.replicate 32 0))),(1,.var (WJ (TZ s)))]⟩) O λi hil=>?_;have hol:=TX (TZ s).h i;have h3:(TZ s).ok:=MS _ _ hs2;have h3l:=h3.h;refine u7 1 (y1 37) (V5 1 2 6 36 37) ⟨UC 32 O,Zt⟩ ?_;refine W.seq ?_;refine c4 O (λhc37=>?_) (λhc37=>?_)
   ·refine W.skip (W.seq (W.block (u7 2 (y2 38 7) (V5 1 2 6 7 36) ⟨zV O,zA O,Zt⟩ ?_)));refine O3 14 (u98 39 40 41 42 43 44 45 46 47 48 49 50 51) (V6 1 2 6 36 50 51) ⟨zV O,zV O,λ_ _ H K=>XJ (i) (4) (eU K 40 O) (kI 4 O) bU bU H,xF O,RF ((i/4)) O,λ_ B H K=>R.ldP (K 43 _ O) (B 1 _ O) (UO (m:=1) O O (H1 (n8 (l:=(TZ s).h) bU) U1 O) bU) O O O H,zV O,λ_ _ H K=>XA (i) (4) (eU K 45 O) (kI 4 O) bU H,YK 8 O,λ_ _ H K=>GG (24) ((8*(i%4))) (kI 24 O) (eU K 47 O) bU bU H,λ_ _ H K=>R.bin (eU K 44 O) (eU K 48 O) O (show(0:Int)<=_ from Y4 _) H,zW O,RF i O,Zt⟩ O (⟨O,_,XP (gU 51 O) (xU 6 O) (H1 (mG (TU (TZ s).h i)) U1 bU) (gV 50 O) (by rfl) (by rfl) (by rfl) (by rfl) (XY (mG (TU (TZ s).h i)) E1 E3),tW (V4 1 2 6 36) (CO 6 4 2 1) 54 O ?_⟩);refine m7 2 (y2 52 36) (V4 1 2 6 36) ⟨N2 1 O,zV O,Zt⟩ ?_;exact⟨bU,rfl⟩
   ·obtain rfl:i=32:=by omega
    refine W.exit (c6 2 (y1 53) (V2 2 53) ⟨xL O,Zt⟩ O (B2 O (tW (V1 2) (CO 6 4 2 1) 54 O ?_)));exact W.ret (Eo O (iL 23 32))
theorem NU(b:List UInt8)(hb0:b.length<=1073741824):Fn Tryz.prog gl 70 [.sl none 1 (b.map D.u8)] (j4 (HW b)):=by
 refine Fo 7 Tryz.func70 O λC hC hD=>?_;refine c6 1 [] (V1 0) Zt O (M7 O (tW (V2 0 2) (B8 2) 7 O ?_));refine c6 5 (y4 3 4 5 6) (V2 2 6) ⟨λ_ _ H _=>o9 hC (VE) Bn (F1 (BM _)) H,zV O,zD hC (RD _ _ KY hb0) O (F1 (BM _)),zC hC (u03 _ (MS _ _ KY)) O (F1 (D4 _)),Zt⟩ O (B2 O (tW (V1 2) (B8 2) 7 O ?_));exact W.ret (Eo O (iL 23 32))
theorem NZ(b:List UInt8)(hb0:b.length<=1073741824):Fn Tryz.prog gl 100 [.sl none 1 (b.map D.u8)] (j4 (CF b)):=by
 refine Fo 8 Tryz.func100 O λC hC hD=>?_;refine c6 1 [] (V1 0) Zt O (M7 O (tW (V2 0 2) (B8 2) 8 O ?_));refine c6 4 (y2 4 5) (V2 2 5) ⟨zV O,zC hC (NU _ hb0) O (F1 (D4 _)),Zt⟩ O (M7 O (B2 O (tW (V2 2 3) (M4 3 2) 8 O ?_)));refine c6 3 (y2 6 7) (V2 2 7) ⟨λ_ B H K=>r9 (0) (32) (32) (K 3 _ O) (B 3 _ O) O O O O O bU bU O H,λ_ B H K=>o9 hC (NU (HW b) (by rw[NY];decide)) (Bc (Bor.sc (SC.va (K 6 _ O) (B 3 _ O) O bU) (MF (λ_=>rfl) (NY _))) Bn) (F1 (D4 _)) H,Zt⟩ O (B2 O (tW (V1 2) (M4 3 2) 8 O ?_));exact W.ret (Eo O (iL 23 32))
end
section
open Go.Proofs
theorem v30:Fn Tryz.prog gl 120 [] (.sl (some 27) 1 (kTab.map D.u32)):=by
 refine Fo 2 Tryz.func120 O λC hC hD=>?_;refine u7 1 (y1 0) [] ⟨QX O,Zt⟩ ?_;refine M3 2 (y2 1 0) [(1,1)] [(1,1)] (V1 0) ⟨aU λ_ _ H _=>Z7 (z:=1) (.cons (kW (.int .u32 1116352408) (.u32 1116352408) O) (.cons (kW (.int .u32 1899447441) (.u32 1899447441) O) (.cons (kW (.int .u32 3049323471) (.u32 3049323471) O) (.cons (kW (.int .u32 3921009573) (.u32 3921009573) O) (.cons (kW (.int .u32 961987163) (.u32 961987163) O) (.cons (kW (.int .u32 1508970993) (.u32 1508970993) O) (.cons (kW (.int .u32 2453635748) (.u32 2453635748) O) (.cons (kW (.int .u32 2870763221) (.u32 2870763221) O) (.cons (kW (.int .u32 3624381080) (.u32 3624381080) O) (.cons (kW (.int .u32 310598401) (.u32 310598401) O) (.cons (kW (.int .u32 607225278) (.u32 607225278) O) (.cons (kW (.int .u32 1426881987) (.u32 1426881987) O) (.cons (kW (.int .u32 1925078388) (.u32 1925078388) O) (.cons (kW (.int .u32 2162078206) (.u32 2162078206) O) (.cons (kW (.int .u32 2614888103) (.u32 2614888103) O) (.cons (kW (.int .u32 3248222580) (.u32 3248222580) O) (.cons (kW (.int .u32 3835390401) (.u32 3835390401) O) (.cons (kW (.int .u32 4022224774) (.u32 4022224774) O) (.cons (kW (.int .u32 264347078) (.u32 264347078) O) (.cons (kW (.int .u32 604807628) (.u32 604807628) O) (.cons (kW (.int .u32 770255983) (.u32 770255983) O) (.cons (kW (.int .u32 1249150122) (.u32 1249150122) O) (.cons (kW (.int .u32 1555081692) (.u32 1555081692) O) (.cons (kW (.int .u32 1996064986) (.u32 1996064986) O) (.cons (kW (.int .u32 2554220882) (.u32 2554220882) O) (.cons (kW (.int .u32 2821834349) (.u32 2821834349) O) (.cons (kW (.int .u32 2952996808) (.u32 2952996808) O) (.cons (kW (.int .u32 3210313671) (.u32 3210313671) O) (.cons (kW (.int .u32 3336571891) (.u32 3336571891) O) (.cons (kW (.int .u32 3584528711) (.u32 3584528711) O) (.cons (kW (.int .u32 113926993) (.u32 113926993) O) (.cons (kW (.int .u32 338241895) (.u32 338241895) O) (.cons (kW (.int .u32 666307205) (.u32 666307205) O) (.cons (kW (.int .u32 773529912) (.u32 773529912) O) (.cons (kW (.int .u32 1294757372) (.u32 1294757372) O) (.cons (kW (.int .u32 1396182291) (.u32 1396182291) O) (.cons (kW (.int .u32 1695183700) (.u32 1695183700) O) (.cons (kW (.int .u32 1986661051) (.u32 1986661051) O) (.cons (kW (.int .u32 2177026350) (.u32 2177026350) O) (.cons (kW (.int .u32 2456956037) (.u32 2456956037) O) (.cons (kW (.int .u32 2730485921) (.u32 2730485921) O) (.cons (kW (.int .u32 2820302411) (.u32 2820302411) O) (.cons (kW (.int .u32 3259730800) (.u32 3259730800) O) (.cons (kW (.int .u32 3345764771) (.u32 3345764771) O) (.cons (kW (.int .u32 3516065817) (.u32 3516065817) O) (.cons (kW (.int .u32 3600352804) (.u32 3600352804) O) (.cons (kW (.int .u32 4094571909) (.u32 4094571909) O) (.cons (kW (.int .u32 275423344) (.u32 275423344) O) (.cons (kW (.int .u32 430227734) (.u32 430227734) O) (.cons (kW (.int .u32 506948616) (.u32 506948616) O) (.cons (kW (.int .u32 659060556) (.u32 659060556) O) (.cons (kW (.int .u32 883997877) (.u32 883997877) O) (.cons (kW (.int .u32 958139571) (.u32 958139571) O) (.cons (kW (.int .u32 1322822218) (.u32 1322822218) O) (.cons (kW (.int .u32 1537002063) (.u32 1537002063) O) (.cons (kW (.int .u32 1747873779) (.u32 1747873779) O) (.cons (kW (.int .u32 1955562222) (.u32 1955562222) O) (.cons (kW (.int .u32 2024104815) (.u32 2024104815) O) (.cons (kW (.int .u32 2227730452) (.u32 2227730452) O) (.cons (kW (.int .u32 2361852424) (.u32 2361852424) O) (.cons (kW (.int .u32 2428436474) (.u32 2428436474) O) (.cons (kW (.int .u32 2756734187) (.u32 2756734187) O) (.cons (kW (.int .u32 3204031479) (.u32 3204031479) O) (.cons (kW (.int .u32 3329325298) (.u32 3329325298) O) .nil)))))))))))))))))))))))))))))))))))))))))))))))))))))))))))))))) ⟨⟨O,O,O⟩,⟨O,O,O⟩,⟨O,O,O⟩,⟨O,O,O⟩,⟨O,O,O⟩,⟨O,O,O⟩,⟨O,O,O⟩,⟨O,O,O⟩,⟨O,O,O⟩,⟨O,O,O⟩,⟨O,O,O⟩,⟨O,O,O⟩,⟨O,O,O⟩,⟨O,O,O⟩,⟨O,O,O⟩,⟨O,O,O⟩,⟨O,O,O⟩,⟨O,O,O⟩,⟨O,O,O⟩,⟨O,O,O⟩,⟨O,O,O⟩,⟨O,O,O⟩,⟨O,O,O⟩,⟨O,O,O⟩,⟨O,O,O⟩,⟨O,O,O⟩,⟨O,O,O⟩,⟨O,O,O⟩,⟨O,O,O⟩,⟨O,O,O⟩,⟨O,O,O⟩,⟨O,O,O⟩,⟨O,O,O⟩,⟨O,O,O⟩,⟨O,O,O⟩,⟨O,O,O⟩,⟨O,O,O⟩,⟨O,O,O⟩,⟨O,O,O⟩,⟨O,O,O⟩,⟨O,O,O⟩,⟨O,O,O⟩,⟨O,O,O⟩,⟨O,O,O⟩,⟨O,O,O⟩,⟨O,O,O⟩,⟨O,O,O⟩,⟨O,O,O⟩,⟨O,O,O⟩,⟨O,O,O⟩,⟨O,O,O⟩,⟨O,O,O⟩,⟨O,O,O⟩,⟨O,O,O⟩,⟨O,O,O⟩,⟨O,O,O⟩,⟨O,O,O⟩,⟨O,O,O⟩,⟨O,O,O⟩,⟨O,O,O⟩,⟨O,O,O⟩,⟨O,O,O⟩,⟨O,O,O⟩,⟨O,O,O⟩,Zt⟩ O H dU,aU<|zO O,Zt⟩ O (tU O ?_);exact W.ret (Eo O)
theorem W7(x:UInt32)(n:UInt64):Fn Tryz.prog gl 122 [.u32 x,.u64 n] (.u32 (rright x n)):=by
 refine Fo 13 Tryz.func122 O λC hC hD=>?_;refine u7 1 (y1 4) (V2 0 1) ⟨WH (.u32 0) O,Zt⟩ ?_;refine u7 9 (y9 5 6 7 8 9 10 11 12 4) (V1 4) ⟨zV O,zV O,λ_ _ H K=>R.bin (eU K 5 O) (eU K 6 O) O bV H,zV O,zV O,λ_ _ H K=>R.bin (kW (.int .u64 32) (.u64 32) O) (eU K 9 O) O Zt H,λ_ _ H K=>R.bin (eU K 8 O) (eU K 10 O) O bV H,zB O,zA O,Zt⟩ ?_;exact W.ret (Eo O)
theorem k00(p:List UInt8)(hp:p.length=64):Fn Tryz.prog gl 121 [.sl none 1 (p.map D.u8)] (.sl (some 27) 1 ((wR p 64).map D.u32)):=by
 refine Fo 99 Tryz.func121 O λC hC hD=>?_;refine u7 1 (y1 2) (V1 0) ⟨QX O,Zt⟩ ?_;refine u7 1 (y1 3) (V2 0 3) ⟨QX O,Zt⟩ ?_;refine W.seq (u7 1 (y1 4) (V3 0 3 4) ⟨r6 0 O,Zt⟩ ?_);refine W.block ?_;refine P9 (s:=3) 27 1 O ?_;refine P6 16 (λt=>⟨99,[(0,.sl none 1 (p.map D.u8)),(3,.sl (some 27) 1 ((wR p t).map D.u32)),(4,.int ((t:Nat):Int))],[]⟩) O λt htl=>?_;have hwl:=WB p t;refine W.seq (u7 2 (y2 10 11) (V4 0 3 4 11) ⟨zV O,UC 16 O,Zt⟩ ?_);refine c4 O (λhc11=>?_) (λhc11=>?_)
 ·refine W.skip (W.seq (W.block ?_));refine KL 37 (0::0::0::4::14::30::62::126::0::0::512::1536::3840::7936::16128::32512::65534::0::0::262144::786432::1966080::4063232::8257536::16646144::33554430::0::0::134217728::402653184::1006632960::2080374784::4227858432::8589934590::17179869182::34359738367::68719476735::[]) hP dU (.y 14 _::.y 15 _::.y 16 _::.y 17 _::.y 18 _::.y 19 _::.y 20 _::.y 21 _::.y 22 _::.y 23 _::.y 24 _::.y 25 _::.y 26 _::.y 27 _::.y 28 _::.y 29 _::.y 30 _::.y 31 _::.y 32 _::.y 33 _::.y 34 _::.y 35 _::.y 36 _::.y 37 _::.y 38 _::.y 39 _::.y 40 _::.y 41 _::.y 42 _::.y 43 _::.y 44 _::.y 45 _::.y 46 _::.y 47 _::.y 48 _::.y 49 _::.y 3 _::[]) [(35,3),(36,49),(36,14)] [(35,3),(36,49)] (V3 0 3 4) ⟨aU<|zM O,xM O,xM O,aU<|YK 4 O,aU<|zI ((4*t)) O,aU<|zL O (mG p),aU<|zW O,aU λ_ _ H K=>R.bin (eU K 20 O) (kW (.int .u64 24) (.u64 24) O) O bV H,xM O,xM O,aU<|YK 4 O,aU<|N2 1 O,aU<|zI (((4*t)+1)) O,aU<|zL O (mG p),aU<|zW O,aU λ_ _ H K=>R.bin (eU K 28 O) (kW (.int .u64 16) (.u64 16) O) O bV H,aU<|zB O,xM O,xM O,aU<|YK 4 O,aU<|N2 2 O,aU<|zI (((4*t)+2)) O,aU<|zL O (mG p),aU<|zW O,aU λ_ _ H K=>R.bin (eU K 37 O) (kW (.int .u64 8) (.u64 8) O) O bV H,aU<|zB O,xM O,xM O,aU<|YK 4 O,aU<|N2 3 O,aU<|zI (((4*t)+3)) O,aU<|zL O (mG p),aU<|zW O,aU<|zB O,aU λ_ _ H K=>Z7 (z:=1) (.cons (eU K 47 O) .nil) ⟨⟨O,O,O⟩,Zt⟩ O H dU,aU<|UI O (Y7 O) (JJ) bU,aU<|zO O,Zt⟩ O (tW (V3 0 3 4) [] 99 O ?_);refine m7 3 (y3 12 13 4) (V3 0 3 4) ⟨zV O,N2 1 O,zA O,Zt⟩ ?_;exact⟨bU,(by simp only[wR];rw[u4 hc11];rfl)⟩
 ·obtain rfl:t=16:=by omega
  refine W.exit (W.seq (u7 1 (y1 5) (V2 3 5) ⟨r6 16 O,Zt⟩ ?_));refine W.block ?_;refine W.loop (α:={q__:Nat//16<=q__/\q__<=64}) (λq__=>⟨99,[(3,.sl (some 27) 1 ((wR p q__.1).map D.u32)),(5,.int ((q__.1:Nat):Int))],[]⟩) (λq__=>64-q__.1) ⟨(16),bU⟩ O ?_;rintro ⟨t,⟨ht16,htl⟩⟩;show W _ _ _ _ ⟨99,[(3,.sl (some 27) 1 ((wR p t).map D.u32)),(5,.int ((t:Nat):Int))],[]⟩;have hwl:=WB p t;refine W.seq (u7 2 (y2 50 51) (V3 3 5 51) ⟨zV O,UC 64 O,Zt⟩ ?_);refine c4 O (λhc51=>?_) (λhc51=>?_)
  ·refine W.skip (W.seq (W.block (u7 6 (y6 54 55 56 57 58 6) (V3 3 5 6) ⟨zM O,zV O,AB 15 O,HR ((t-15)) O,GS O (mG (wR p t)),zA O,Zt⟩ ?_)));refine u7 6 (y6 59 60 61 62 63 7) (V4 3 5 6 7) ⟨zM O,zV O,AB 2 O,HR ((t-2)) O,GS O (mG (wR p t)),zA O,Zt⟩ ?_;refine u7 9 (y9 64 65 66 67 68 69 70 71 8) (V4 3 5 7 8) ⟨zV O,GT hC (W7 _ _) O (kW (.int .u64 7) (.u64 7) O) (F1 (.u32 _)),zV O,GT hC (W7 _ _) O (kW (.int .u64 18) (.u64 18) O) (F1 (.u32 _)),zB O,zV O,λ_ _ H K=>R.bin (eU K 69 O) (kW (.int .u64 3) (.u64 3) O) O bV H,zB O,zA O,Zt⟩ ?_;refine u7 9 (y9 72 73 74 75 76 77 78 79 9) (V4 3 5 8 9) ⟨zV O,GT hC (W7 _ _) O (kW (.int .u64 17) (.u64 17) O) (F1 (.u32 _)),zV O,GT hC (W7 _ _) O (kW (.int .u64 19) (.u64 19) O) (F1 (.u32 _)),zB O,zV O,λ_ _ H K=>R.bin (eU K 77 O) (kW (.int .u64 10) (.u64 10) O) O bV H,zB O,zA O,Zt⟩ ?_;refine KL 19 [0,0,0,0,8,28,60,126,0,510,0,0,2048,7168,15360,32766,65534,131071,262143] hP dU (v05 80 81 82 83 84 85 86 87 88 89 90 91 92 93 94 95 96 97 3) [(17,3),(18,97),(18,80),(18,82),(18,90)] [(17,3),(18,97)] (V2 3 5) ⟨aU<|zM O,xM O,aU<|zM O,xM O,aU<|AB 7 O,aU<|HR ((t-7)) O,aU<|GS O (mG (wR p t)),aU<|zB O,xM O,aU<|zB O,aU<|zM O,xM O,aU<|AB 16 O,aU<|HR ((t-16)) O,aU<|GS O (mG (wR p t)),aU<|zB O,aU λ_ _ H K=>Z7 (z:=1) (.cons (eU K 95 O) .nil) ⟨⟨O,O,O⟩,Zt⟩ O H dU,aU<|UI O (Y7 O) (JJ) bU,aU<|zO O,Zt⟩ O (tW (V2 3 5) [] 99 O ?_);refine m7 3 (y3 52 53 5) (V2 3 5) ⟨zV O,N2 1 O,zA O,Zt⟩ ?_;exact⟨⟨(t+1),bU⟩,(by simp only[wR];rw[w3 (by omega)];rfl),(by simp only[];omega)⟩
  ·obtain rfl:t=64:=by omega
   refine W.exit (M3 2 (y2 98 2) [(0,3),(1,98)] [(0,3),(1,98)] (V1 2) ⟨aU λ_ _ H K=>KK (K 3 _ O) O H dU,aU<|zO O,Zt⟩ O (tU O ?_));exact W.ret (Eo O)
theorem x06(b:List UInt8)(hb0:b.length<=1000000000):Fn Tryz.prog gl 119 [.sl none 1 (b.map D.u8)] (.sl (some 5) 1 ((X4 b).map D.u8)):=by
 refine Fo 37 Tryz.func119 O λC hC hD=>?_;refine u7 1 (y1 2) (V1 0) ⟨QX O,Zt⟩ ?_;refine M3 4 (y4 6 7 8 3) [(2,6),(3,8)] [(2,6),(3,8)] (V2 0 3) ⟨aU λ_ _ H _=>Z7 .nil Zt O H dU,xM O,aU λ_ _ H K=>O6 (Or.inl O) (K 6 _ O) (SrcO.sc (SC.sl (K 7 _ O)) (B0 (λ_=>rfl))) (U0 _) bU H dU dU,aU<|zO O,Zt⟩ O (tU O ?_);refine M3 4 (y4 9 10 11 3) [(2,3),(3,11),(3,9)] [(2,3),(3,11)] (V2 0 3) ⟨aU<|zM O,aU λ_ _ H _=>Z7 (z:=1) (.cons (kW (.int .u8 128) (.u8 128) O) .nil) ⟨⟨O,O,O⟩,Zt⟩ O H dU,aU<|UI O (Y7 O) (JJ) bU,aU<|zO O,Zt⟩ O (tU O ?_);refine W.seq (W.block ?_);refine P6 (zR b) (λz=>⟨37,[(0,.sl none 1 (b.map D.u8)),(3,.sl (some 5) 1 ((b++[128]++List.replicate z 0).map D.u8))],[]⟩) (by simp) λz hz=>?_
 have hz0:zR b<=63:=by unfold zR;omega
 refine W.seq (u7 4 (y4 12 13 14 15) (V3 0 3 15) ⟨zM O,v04 O (lN _),λ_ _ H K=>XA ((b++[128]++List.replicate z 0).length) (64) (eU K 13 O) (kI 64 O) (by(first|decide|omega)) H,u31 56 O,Zt⟩ ?_);refine c4 O (λhc15=>?_) (λhc15=>?_)
 ·refine W.skip (W.block ?_);refine XU 4 (y4 16 17 18 3) [(2,3),(3,18),(3,16)] [(2,3),(3,18)] (V2 0 3) ⟨aU<|zM O,aU λ_ _ H _=>Z7 (z:=1) (.cons (kW (.int .u8 0) (.u8 0) O) .nil) ⟨⟨O,O,O⟩,Zt⟩ O H dU,aU<|UI O (Y7 O) (JJ) bU,aU<|zO O,Zt⟩ O (tU O ?_);exact⟨(by simp only[q9,d6,Q5] at hc15;unfold zR at *;omega),(by rw[List.replicate_succ',<- u5])⟩
 ·obtain rfl:z=zR b:=by simp only[q9,d6,Q5,ne_eq,Classical.not_not] at hc15;unfold zR at *;omega
  refine W.exit (u7 5 (y5 19 20 21 22 4) (V2 3 4) ⟨zV O,R2 O,zW O,UH O (kW (.int .u64 8) (.u64 8) O),zA O,Zt⟩ ?_);refine W.seq (u7 1 (y1 5) (V3 3 4 5) ⟨r6 7 O,Zt⟩ ?_);refine W.block ?_;refine P6 8 (λj=>⟨37,[(3,.sl (some 5) 1 ((b++[128]++List.replicate (zR b) 0++NX (z02 b) j).map D.u8)),(4,.u64 (z02 b)),(5,.int (7-((j:Nat):Int)))],[]⟩) (by simp[NX];rfl) λj hj=>?_;have htl:=EN (z02 b) j
  have hz1:zR b<=63:=by unfold zR;omega
  refine W.seq (u7 2 (y2 23 24) (V4 3 4 5 24) ⟨zV O,UH O (kI 0 O),Zt⟩ ?_);refine W.cond O (λhc24=>?_) (λhc24=>?_)
  ·refine W.skip (W.seq (W.block ?_));refine XU 10 (z91 27 28 29 30 31 32 33 34 35 3) [(8,3),(9,35),(9,27)] [(8,3),(9,35)] (V3 3 4 5) ⟨aU<|zM O,xM O,xM O,aU λ_ _ H K=>R.bin (kI 8 O) (eU K 29 O) O Zt H,aU<|zW O,aU λ_ _ H K=>R.bin (eU K 28 O) (eU K 31 O) O bV H,aU<|zW O,aU λ_ _ H K=>Z7 (z:=1) (.cons (eU K 33 O) .nil) ⟨⟨O,O,O⟩,Zt⟩ O H dU,aU<|UI O (Y7 O) (JJ) bU,aU<|zO O,Zt⟩ O (tU O ?_);refine m7 3 (y3 25 26 5) (V3 3 4 5) ⟨zV O,λ_ _ H K=>P1 (d:=.int (7-((j+1:Nat):Int))) (eU K 25 O) (kI 1 O) O Zt (KH bO bO bO) H,zA O,Zt⟩ ?_;exact⟨(by have:=c3 hc24;omega),(by simp only[NX,<- u5];rfl)⟩
  ·obtain rfl:j=8:=by have:=g7 hc24;omega
   refine W.exit (M3 2 (y2 36 2) [(0,3),(1,36)] [(0,3),(1,36)] (V1 2) ⟨aU λ_ _ H K=>KK (K 3 _ O) O H dU,aU<|zO O,Zt⟩ O (tU O ?_));exact W.ret (Eo O)
theorem MK(b:List UInt8)(hb0:b.length<=1000000000):Fn Tryz.prog gl 63 [.sl none 1 (b.map D.u8)] (j4 (IN b)):=by
 refine Fo 171 Tryz.func63 O λC hC hD=>?_;refine c6 1 [] (V1 0) Zt O (M7 O (tW (V2 0 2) (B8 2) 171 O ?_));refine M3 2 (y2 19 3) [(1,19)] [(1,19)] (V3 0 2 3) ⟨aU λ_ _ H _=>Z7 (z:=1) (.cons (kW (.int .u32 1779033703) (.u32 1779033703) O) (.cons (kW (.int .u32 3144134277) (.u32 3144134277) O) (.cons (kW (.int .u32 1013904242) (.u32 1013904242) O) (.cons (kW (.int .u32 2773480762) (.u32 2773480762) O) (.cons (kW (.int .u32 1359893119) (.u32 1359893119) O) (.cons (kW (.int .u32 2600822924) (.u32 2600822924) O) (.cons (kW (.int .u32 528734635) (.u32 528734635) O) (.cons (kW (.int .u32 1541459225) (.u32 1541459225) O) .nil)))))))) ⟨⟨O,O,O⟩,⟨O,O,O⟩,⟨O,O,O⟩,⟨O,O,O⟩,⟨O,O,O⟩,⟨O,O,O⟩,⟨O,O,O⟩,⟨O,O,O⟩,Zt⟩ O H dU,aU<|zO O,Zt⟩ O (tU O ?_);refine M3 3 (y3 20 21 4) [(2,21)] [(2,21)] (V3 2 3 4) ⟨xM O,aU<|zC hC (x06 b hb0) O (F1 (.sl _ _ _ (K7 λ_=>.u8 _))),aU<|zO O,Zt⟩ O (tU O ?_);refine M3 2 (y2 22 5) [(1,22)] [(1,22)] (V4 2 3 4 5) ⟨aU λ_ _ H _=>o9 hC (v30) Bn (F1 (.sl _ _ _ (K7 λ_=>.u32 _))) H,aU<|zO O,Zt⟩ O (tU O ?_);refine W.seq (u7 1 (y1 6) (V5 2 3 4 5 6) ⟨r6 0 O,Zt⟩ ?_);refine W.block ?_;refine P6 (pieces b) (λm=>⟨171,[(2,.ptr 2 0 []),(3,.sl (some 27) 1 ((hR (X4 b) m).map D.u32)),(4,.sl (some 5) 1 ((X4 b).map D.u8)),(5,.sl (some 27) 1 (kTab.map D.u32)),(6,.int ((64*m:Nat):Int))],[(2,.var (j4 (List.replicate 32 0)))]⟩) O λm hm=>?_;have htp:=IM b;have htl:=EM b
 have hz1:zR b<=63:=by unfold zR;omega
 have hhl:=w93 (X4 b) m;refine W.seq (u7 4 (y4 23 24 25 26) (V6 2 3 4 5 6 26) ⟨zV O,zM O,v04 O (lN _),zS O,Zt⟩ ?_);refine c4 O (λhc26=>?_) (λhc26=>?_)
 ·refine W.skip (W.seq (W.block (M3 7 (y7 29 30 31 32 33 34 7) [(6,34)] [(6,34)] (V6 2 3 4 5 6 7) ⟨aU<|zM O,xM O,xM O,aU<|N2 64 O,aU λ_ _ H K=>RM (64*m) ((64*m+64)) (64) (SC.al (K 29 _ O) (K 4 _ O)) (C5 (eU K 30 O)) (C5 (eU K 32 O)) O O bU bU bU H dU,aU λ_ _ H K=>o9 hC (k00 (((X4 b).drop (64*m)).take 64) (by simp only[v5,v8];omega)) (Bc (Bor.sc (SC.vw (K 33 _ O) (SC.al (K 29 _ O) (K 4 _ O)) (by simp only[z9];omega)) (VB (λ_=>rfl))) Bn) (F1 (.sl _ _ _ (K7 λ_=>.u32 _))) H,aU<|zO O,Zt⟩ O (tU O ?_))));refine M3 4 (y4 35 36 37 8) [(2,35),(3,37)] [(2,35),(3,37)] (V7 2 3 4 5 6 7 8) ⟨aU λ_ _ H _=>Z7 .nil Zt O H dU,aU<|zM O,aU λ_ _ H K=>O6 (Or.inl O) (K 35 _ O) (SrcO.sc (SC.al (K 36 _ O) (K 3 _ O)) (B0 (λ_=>rfl))) (U0 _) bU H dU dU,aU<|zO O,Zt⟩ O (tU O ?_);refine W.seq (u7 1 (y1 9) (V8 2 3 4 5 6 7 8 9) ⟨r6 0 O,Zt⟩ ?_);refine W.block ?_;refine P6 64 (λt=>⟨171,[(2,.ptr 2 0 []),(3,.sl (some 27) 1 ((hR (X4 b) m).map D.u32)),(4,.sl (some 5) 1 ((X4 b).map D.u8)),(5,.sl (some 27) 1 (kTab.map D.u32)),(6,.int ((64*m:Nat):Int)),(7,.sl (some 27) 1 ((wR (((X4 b).drop (64*m)).take 64) 64).map D.u32)),(8,.sl (some 27) 1 ((KV (hR (X4 b) m) (wR (((X4 b).drop (64*m)).take 64) 64) t).map D.u32)),(9,.int ((t:Nat):Int))],[(2,.var (j4 (List.replicate 32 0)))]⟩) O λt ht=>?_;have hwl:=WB (((X4 b).drop (64*m)).take 64) 64;have hkl:kTab.length=64:=rfl;have hrl:=k39 (hR (X4 b) m) (wR (((X4 b).drop (64*m)).take 64) 64) t hhl;refine W.seq (u7 2 (y2 38 39) (V9 2 3 4 5 6 7 8 9 39) ⟨zV O,UC 64 O,Zt⟩ ?_);refine c4 O (λhc39=>?_) (λhc39=>?_)
  ·refine W.skip (W.seq (W.block (u7 4 (y4 42 43 44 10) (V9 2 3 4 5 6 7 8 9 10) ⟨zM O,λ_ _ H K=>R.idxN (0) (SC.al (K 42 _ O) (K 8 _ O)) (C5 (kI 0 O)) O bU H dU,GS O (n8 (l:=(KV (hR (X4 b) m) (wR (((X4 b).drop (64*m)).take 64) 64) t)) bU),zA O,Zt⟩ ?_)));refine u7 4 (y4 45 46 47 11) (IZ 2 3 4 5 6 7 8 9 10 11) ⟨zM O,λ_ _ H K=>R.idxN (4) (SC.al (K 45 _ O) (K 8 _ O)) (C5 (kI 4 O)) O bU H dU,GS O (n8 (l:=(KV (hR (X4 b) m) (wR (((X4 b).drop (64*m)).take 64) 64) t)) bU),zA O,Zt⟩ ?_;refine u7 9 (y9 48 49 50 51 52 53 54 55 12) (z18 2 3 4 5 6 7 8 9 10 11 12) ⟨zV O,GT hC (W7 _ _) O (kW (.int .u64 6) (.u64 6) O) (F1 (.u32 _)),zV O,GT hC (W7 _ _) O (kW (.int .u64 11) (.u64 11) O) (F1 (.u32 _)),zB O,zV O,GT hC (W7 _ _) O (kW (.int .u64 25) (.u64 25) O) (F1 (.u32 _)),zB O,zA O,Zt⟩ ?_;refine W.seq ?_;refine T5 29 (0::1::3::0::15::0::0::64::192::480::0::1024::0::4096::12288::31744::65504::131071::0::0::786432::1835008::4194303::0::0::25165824::58720256::134217727::268435455::[]) hP dU (.y 56 _::.y 57 _::.y 58 _::.y 59 _::.y 60 _::.y 61 _::.y 62 _::.y 63 _::.y 64 _::.y 65 _::.y 66 _::.y 67 _::.y 68 _::.y 69 _::.y 70 _::.y 71 _::.y 72 _::.y 73 _::.y 74 _::.y 75 _::.y 76 _::.y 77 _::.y 78 _::.y 79 _::.y 80 _::.y 81 _::.y 82 _::.y 83 _::.y 13 _::[]) (z18 2 3 4 5 6 7 8 9 10 11 13) ⟨zM O,λ_ _ H K=>R.idxN (7) (SC.al (K 56 _ O) (K 8 _ O)) (C5 (kI 7 O)) O bU H dU,GS O (n8 (l:=(KV (hR (X4 b) m) (wR (((X4 b).drop (64*m)).take 64) 64) t)) bU),zV O,zB O,zV O,zM O,λ_ _ H K=>R.idxN (5) (SC.al (K 62 _ O) (K 8 _ O)) (C5 (kI 5 O)) O bU H dU,GS O (n8 (l:=(KV (hR (X4 b) m) (wR (((X4 b).drop (64*m)).take 64) 64) t)) bU),zB O,zV O,AC O,zM O,λ_ _ H K=>R.idxN (6) (SC.al (K 68 _ O) (K 8 _ O)) (C5 (kI 6 O)) O bU H dU,GS O (n8 (l:=(KV (hR (X4 b) m) (wR (((X4 b).drop (64*m)).take 64) 64) t)) bU),zB O,zB O,zB O,zM O,zV O,HR t O,GS O (mG kTab),zB O,zM O,zV O,HR t O,GS O (n8 (l:=(wR (((X4 b).drop (64*m)).take 64) 64)) bU),zB O,zA O,Zt⟩ O (tW (z18 2 3 4 5 6 7 8 9 10 11 13) (B8 2) 171 O ?_);refine u7 9 (y9 84 85 86 87 88 89 90 91 14) (w39 2 3 4 5 6 7 8 9 10 11 13 14) ⟨zV O,GT hC (W7 _ _) O (kW (.int .u64 2) (.u64 2) O) (F1 (.u32 _)),zV O,GT hC (W7 _ _) O (kW (.int .u64 13) (.u64 13) O) (F1 (.u32 _)),zB O,zV O,GT hC (W7 _ _) O (kW (.int .u64 22) (.u64 22) O) (F1 (.u32 _)),zB O,zA O,Zt⟩ ?_;refine W.seq ?_;refine T5 22 [0,0,0,4,12,30,0,0,128,384,960,2046,0,4096,12288,0,32768,98304,258048,524286,1048575,2097151] hP dU [.y 92 _,.y 93 _,.y 94 _,.y 95 _,.y 96 _,.y 97 _,.y 98 _,.y 99 _,.y 100 _,.y 101 _,.y 102 _,.y 103 _,.y 104 _,.y 105 _,.y 106 _,.y 107 _,.y 108 _,.y 109 _,.y 110 _,.y 111 _,.y 112 _,.y 15 _] (w39 2 3 4 5 6 7 8 9 10 11 13 15) ⟨zV O,zV O,zM O,λ_ _ H K=>R.idxN (1) (SC.al (K 94 _ O) (K 8 _ O)) (C5 (kI 1 O)) O bU H dU,GS O (n8 (l:=(KV (hR (X4 b) m) (wR (((X4 b).drop (64*m)).take 64) 64) t)) bU),zB O,zV O,zM O,λ_ _ H K=>R.idxN (2) (SC.al (K 99 _ O) (K 8 _ O)) (C5 (kI 2 O)) O bU H dU,GS O (n8 (l:=(KV (hR (X4 b) m) (wR (((X4 b).drop (64*m)).take 64) 64) t)) bU),zB O,zB O,zM O,λ_ _ H K=>R.idxN (1) (SC.al (K 104 _ O) (K 8 _ O)) (C5 (kI 1 O)) O bU H dU,GS O (n8 (l:=(KV (hR (X4 b) m) (wR (((X4 b).drop (64*m)).take 64) 64) t)) bU),zM O,λ_ _ H K=>R.idxN (2) (SC.al (K 107 _ O) (K 8 _ O)) (C5 (kI 2 O)) O bU H dU,GS O (n8 (l:=(KV (hR (X4 b) m) (wR (((X4 b).drop (64*m)).take 64) 64) t)) bU),zB O,zB O,zB O,zA O,Zt⟩ O (tW (w39 2 3 4 5 6 7 8 9 10 11 13 15) (B8 2) 171 O ?_);refine KL 24 [0,0,3,0,0,16,48,0,128,384,0,1024,3072,0,15360,0,0,65536,196608,0,524288,1572864,4194303,8388607] hP dU [.y 113 _,.y 114 _,.y 115 _,.y 116 _,.y 117 _,.y 118 _,.y 119 _,.y 120 _,.y 121 _,.y 122 _,.y 123 _,.y 124 _,.y 125 _,.y 126 _,.y 127 _,.y 128 _,.y 129 _,.y 130 _,.y 131 _,.y 132 _,.y 133 _,.y 134 _,.y 135 _,.y 8 _] [(23,135),(23,117),(23,120),(23,123),(23,129),(23,132)] [(23,135)] (V8 2 3 4 5 6 7 8 9) ⟨xM O,xM O,aU<|zB O,xM O,aU<|zM O,aU λ_ _ H K=>R.idxN (1) (SC.al (K 117 _ O) (K 8 _ O)) (C5 (kI 1 O)) O bU H dU,aU<|GS O (n8 (l:=(KV (hR (X4 b) m) (wR (((X4 b).drop (64*m)).take 64) 64) t)) bU),aU<|zM O,aU λ_ _ H K=>R.idxN (2) (SC.al (K 120 _ O) (K 8 _ O)) (C5 (kI 2 O)) O bU H dU,aU<|GS O (n8 (l:=(KV (hR (X4 b) m) (wR (((X4 b).drop (64*m)).take 64) 64) t)) bU),aU<|zM O,aU λ_ _ H K=>R.idxN (3) (SC.al (K 123 _ O) (K 8 _ O)) (C5 (kI 3 O)) O bU H dU,aU<|GS O (n8 (l:=(KV (hR (X4 b) m) (wR (((X4 b).drop (64*m)).take 64) 64) t)) bU),xM O,aU<|zB O,xM O,aU<|zM O,aU λ_ _ H K=>R.idxN (5) (SC.al (K 129 _ O) (K 8 _ O)) (C5 (kI 5 O)) O bU H dU,aU<|GS O (n8 (l:=(KV (hR (X4 b) m) (wR (((X4 b).drop (64*m)).take 64) 64) t)) bU),aU<|zM O,aU λ_ _ H K=>R.idxN (6) (SC.al (K 132 _ O) (K 8 _ O)) (C5 (kI 6 O)) O bU H dU,aU<|GS O (n8 (l:=(KV (hR (X4 b) m) (wR (((X4 b).drop (64*m)).take 64) 64) t)) bU),aU λ_ _ H K=>Z7 (z:=1) (.cons (eU K 115 O) (.cons (eU K 116 O) (.cons (eU K 119 O) (.cons (eU K 122 O) (.cons (eU K 127 O) (.cons (eU K 128 O) (.cons (eU K 131 O) (.cons (eU K 134 O) .nil)))))))) ⟨⟨O,O,O⟩,⟨⟨O,O,O⟩,⟨⟨O,O,O⟩,⟨⟨O,O,O⟩,⟨⟨O,O,O⟩,⟨⟨O,O,O⟩,⟨⟨O,O,O⟩,⟨⟨O,O,O⟩,Zt⟩⟩⟩⟩⟩⟩⟩⟩ O H dU,aU<|zO O,Zt⟩ O (tW (V8 2 3 4 5 6 7 8 9) (B8 2) 171 O ?_);refine m7 3 (y3 40 41 9) (V8 2 3 4 5 6 7 8 9) ⟨zV O,N2 1 O,zA O,Zt⟩ ?_;exact⟨bU,rfl⟩
  ·obtain rfl:t=64:=by omega
   refine W.exit (u7 1 (y1 16) (V7 2 3 4 5 6 8 16) ⟨r6 0 O,Zt⟩ ?_);refine W.block ?_;refine P6 8 (λi=>⟨171,[(2,.ptr 2 0 []),(3,.sl (some 27) 1 ((BW (hR (X4 b) m) (KV (hR (X4 b) m) (wR (((X4 b).drop (64*m)).take 64) 64) 64) i).map D.u32)),(4,.sl (some 5) 1 ((X4 b).map D.u8)),(5,.sl (some 27) 1 (kTab.map D.u32)),(6,.int ((64*m:Nat):Int)),(8,.sl (some 27) 1 ((KV (hR (X4 b) m) (wR (((X4 b).drop (64*m)).take 64) 64) 64).map D.u32)),(16,.int ((i:Nat):Int))],[(2,.var (j4 (List.replicate 32 0)))]⟩) O λi hi=>?_;have hal:=CY (hR (X4 b) m) (KV (hR (X4 b) m) (wR (((X4 b).drop (64*m)).take 64) 64) 64) i;refine W.seq (u7 2 (y2 136 137) (V8 2 3 4 5 6 8 16 137) ⟨zV O,UC 8 O,Zt⟩ ?_);refine c4 O (λhc137=>?_) (λhc137=>?_)
   ·refine W.skip (W.seq (W.block ?_));refine T5 12 [0,0,0,0,12,28,0,0,192,448,1020,2047,4095] hP dU (j89 140 141 142 143 144 145 146 147 148 149 150 151) (IZ 2 3 4 5 6 8 16 140 150 151) ⟨zM O,zV O,zM O,zV O,HR i O,GS O (n8 (l:=(BW (hR (X4 b) m) (KV (hR (X4 b) m) (wR (((X4 b).drop (64*m)).take 64) 64) 64) i)) bU),zM O,zV O,HR i O,GS O (n8 (l:=(KV (hR (X4 b) m) (wR (((X4 b).drop (64*m)).take 64) 64) 64)) bU),zB O,HR i O,Zt⟩ O (⟨O,_,XK (gU 151 O) (Or.inr (gU 140 O)) (gU 3 O) (n8 (l:=(BW (hR (X4 b) m) (KV (hR (X4 b) m) (wR (((X4 b).drop (64*m)).take 64) 64) 64) i)) bU) O (gV 150 O) (by rfl) (by rfl) (by rfl) (by rfl) E1 E3,tW (V7 2 3 4 5 6 8 16) (B8 2) 171 O ?_⟩);refine m7 3 (y3 138 139 16) (V7 2 3 4 5 6 8 16) ⟨zV O,N2 1 O,zA O,Zt⟩ ?_;exact⟨bU,rfl⟩
   ·obtain rfl:i=8:=by omega
    refine W.exit ?_;refine m7 3 (y3 27 28 6) (V5 2 3 4 5 6) ⟨zV O,N2 64 O,zA O,Zt⟩ ?_;exact⟨(by omega),rfl⟩
 ·obtain rfl:m=pieces b:=by omega
  refine W.exit (c6 1 [] (V2 2 3) Zt O (M7 O (tW (V3 2 3 17) (M4 17 2) 171 O ?_)));refine W.seq (u7 1 (y1 18) (V4 2 3 17 18) ⟨r6 0 O,Zt⟩ ?_);refine W.block ?_;refine P6 32 (λi=>⟨171,[(2,.ptr 2 0 []),(3,.sl (some 27) 1 ((hR (X4 b) (pieces b)).map D.u32)),(17,.ptr 17 0 []),(18,.int ((i:Nat):Int))],[(17,.var (j4 (TJ (hR (X4 b) (pieces b)) i))),(2,.var (j4 (List.replicate 32 0)))]⟩) O λi hi=>?_;have hol:=TK (hR (X4 b) (pieces b)) i;refine W.seq (u7 2 (y2 152 153) (V5 2 3 17 18 153) ⟨zV O,UC 32 O,Zt⟩ ?_);refine c4 O (λhc153=>?_) (λhc153=>?_)
  ·refine W.skip (W.seq (W.block ?_));refine O3 15 (z90 156 157 158 159 160 161 162 163 164 165 166 167 168 169) (V6 2 3 17 18 168 169) ⟨zV O,zM O,zV O,λ_ _ H K=>XJ (i) (4) (eU K 158 O) (kI 4 O) bU bU H,HR ((i/4)) O,GS O (mG (hR (X4 b) (pieces b))),zV O,λ_ _ H K=>XA (i) (4) (eU K 162 O) (kI 4 O) bU H,YK 8 O,λ_ _ H K=>GG (24) ((8*(i%4))) (kI 24 O) (eU K 164 O) bU bU H,zW O,λ_ _ H K=>R.bin (eU K 161 O) (eU K 166 O) O bV H,zW O,RF i O,Zt⟩ O (⟨O,_,XP (gU 169 O) (xU 17 O) (H1 (n8 (l:=(TJ (hR (X4 b) (pieces b)) i)) bU) U1 bU) (gV 168 O) (by rfl) (by rfl) (by rfl) (by rfl) (XY (n8 (l:=(TJ (hR (X4 b) (pieces b)) i)) bU) E1 E3),tW (V4 2 3 17 18) (M4 17 2) 171 O ?_⟩);refine m7 3 (y3 154 155 18) (V4 2 3 17 18) ⟨zV O,N2 1 O,zA O,Zt⟩ ?_;exact⟨bU,rfl⟩
  ·obtain rfl:i=32:=by omega
   refine W.exit (c6 2 (y1 170) (V2 2 170) ⟨xL O,Zt⟩ O (B2 O (tW (V1 2) (M4 17 2) 171 O ?_)));exact W.ret (Eo O (iL 23 32))
theorem CR(b:List UInt8)(hb0:b.length<=1000000000):Fn Tryz.prog gl 110 [.sl none 1 (b.map D.u8)] (j4 (CI b)):=by
 refine Fo 8 Tryz.func110 O λC hC hD=>?_;refine c6 1 [] (V1 0) Zt O (M7 O (tW (V2 0 2) (B8 2) 8 O ?_));refine c6 4 (y2 4 5) (V2 2 5) ⟨zV O,zC hC (MK _ hb0) O (F1 (D4 _)),Zt⟩ O (M7 O (B2 O (tW (V2 2 3) (M4 3 2) 8 O ?_)));refine c6 3 (y2 6 7) (V2 2 7) ⟨λ_ B H K=>r9 (0) (32) (32) (K 3 _ O) (B 3 _ O) O O O O O bU bU O H,λ_ B H K=>o9 hC (MK (IN b) (by rw[YM];decide)) (Bc (Bor.sc (SC.va (K 6 _ O) (B 3 _ O) O bU) (MF (λ_=>rfl) (YM _))) Bn) (F1 (D4 _)) H,Zt⟩ O (B2 O (tW (V1 2) (M4 3 2) 8 O ?_));exact W.ret (Eo O (iL 23 32))
end

instance:Inhabited ShaS:=⟨ShaS.zero⟩
abbrev Hs:=List UInt8
def N0(a b:Hs):Hs:=CF (a++b)
def E7(a b:Hs):Hs:=CI (a++b)
theorem NK(b:Hs):(CF b).length=32:=by unfold CF;exact NY _
theorem HJ(b:Hs):(CI b).length=32:=by unfold CI;exact YM _
theorem FG(a b:Hs):(N0 a b).length=32:=NK _
theorem BY(a b:Hs):(E7 a b).length=32:=HJ _
theorem u94(a:Hs)(ha:a.length=32):((List.replicate 64 (0:UInt8)).map D.u8).take 0++(((a.map D.u8).drop 0).take 32).take 32++((List.replicate 64 (0:UInt8)).map D.u8).drop (0+32)=(a++List.replicate 32 0).map D.u8:=by
 have h1:((a.map D.u8).take 32)=a.map D.u8:=m4 (by simp[ha]);simp only[K5,X6,Nat.min_self,h1,H6,U0,d5];rfl
theorem u93(a b:Hs)(ha:a.length=32)(hb:b.length=32):((a++List.replicate 32 (0:UInt8)).map D.u8).take 32++(((b.map D.u8).drop 0).take 32).take 32++((a++List.replicate 32 (0:UInt8)).map D.u8).drop (32+32)=(a++b).map D.u8:=by
 have h1:((b.map D.u8).take 32)=b.map D.u8:=m4 (by simp[hb])
 have h2:((a++List.replicate 32 (0:UInt8)).map D.u8).take 32=a.map D.u8:=by rw[d5,G5 (by simp[ha]),m4 (by simp[ha])]
 have h3:((a++List.replicate 32 (0:UInt8)).map D.u8).drop (32+32)=[]:=List.drop_eq_nil_of_le (by simp[ha]);rw[h2,h3];simp only[K5,X6,Nat.min_self,h1,d5,m6]
theorem k48(a:Hs)(ha:a.length=32):((a.map D.u8).drop 0).take 32=a.map D.u8:=by rw[K5,m4 (by simp[ha])]
def w45(J:Hs->Hs->Hs)(l:List Hs):Nat->List Hs
 | 0=>[]
 | i+1=>w45 J l i++[J l[2*i]! l[min (2*i+1) (l.length-1)]!]
def u99(J:Hs->Hs->Hs)(l:List Hs):List Hs:=w45 J l ((l.length+1)/2)
def O9(J:Hs->Hs->Hs)(l:List Hs):Nat->List Hs
 | 0=>l
 | k+1=>u99 J (O9 J l k)
def L6(n:Nat):Nat:=if n=0 then 0 else if n=1 then 1 else L6 ((n+1)/2)+1
termination_by n
def BJ(n:Nat):Nat->Nat
 | 0=>n
 | k+1=>(BJ n k+1)/2
theorem IB(J:Hs->Hs->Hs)(l:List Hs)(i:Nat):(w45 J l i).length=i:=by
 induction i with
 | zero=>rfl
 | succ i ih=>simp[w45,ih]
theorem PS(J:Hs->Hs->Hs)(l:List Hs):(u99 J l).length=(l.length+1)/2:=IB _ _ _
theorem DJ(J:Hs->Hs->Hs)(l:List Hs)(k:Nat):(O9 J l k).length=BJ l.length k:=by
 induction k with
 | zero=>rfl
 | succ k ih=>simp only[O9,BJ,PS,ih]
theorem LG(n k:Nat):BJ n k<=n:=by
 induction k with
 | zero=>exact z7 _
 | succ k ih=>simp only[BJ];omega
theorem MH:L6 0=0:=by unfold L6;rfl
theorem MG:L6 1=1:=by unfold L6;rfl
theorem MY{n:Nat}(h:2<=n):L6 n=L6 ((n+1)/2)+1:=by
 rw[L6];simp[show n≠0 by omega,show n≠1 by omega]
theorem BQ{n:Nat}(h:1<=n):1<=L6 n:=by
 by_cases h1:n=1
 ·subst h1;rw[MG];exact z7 _
 ·rw[MY (by omega)];omega
theorem q10(n k:Nat)(h:k<L6 n):k+L6 (BJ n k)=L6 n:=by
 induction k with
 | zero=>simp[BJ]
 | succ k ih=>
  have h0:=ih (by omega)
  have h2:2<=BJ n k:=by
   apply H4;intro hc
   rcases X9 (BJ n k) 1 with h3|h3
   ·rw[show BJ n k=0 by omega,MH] at h0;omega
   ·rw[show BJ n k=1 by omega,MG] at h0;omega
  rw[MY h2] at h0;simp only[BJ];omega
theorem SF(J:Hs->Hs->Hs)(l:List Hs)(k:Nat)(h:k<L6 l.length):1<=(O9 J l k).length:=by
 have h0:=q10 _ _ h;rw[DJ];apply H4;intro hc;rw[show BJ l.length k=0 by omega,MH] at h0;omega
def allH(l:List Hs):Prop:=∀ h∈l,h.length=32
theorem allH.get{l:List Hs}(h:allH l){i:Nat}(hi:i<l.length):l[i]!.length=32:=by
 rw[Z1 l i hi];exact h _ (g6 hi)
theorem x01{J:Hs->Hs->Hs}(hJ:∀ a b,(J a b).length=32)(l:List Hs)(i:Nat):allH (w45 J l i):=by
 induction i with
 | zero=>intro h hh;cases hh
 | succ i ih=>
  intro h hh
  rcases Q9.1 hh with h1|h1
  ·exact ih h h1
  ·rw[d8.1 h1];exact hJ _ _
theorem DX{J:Hs->Hs->Hs}(hJ:∀ a b,(J a b).length=32){l:List Hs}(h:allH l)(k:Nat):allH (O9 J l k):=by
 cases k with
 | zero=>exact h
 | succ k=>exact x01 hJ _ _
theorem QQ(h:Hs):(j4 h).brw=j4 h:=by
 unfold j4;simp only[D.brw,G4];rw[X5 (λ_=>rfl)]
theorem q34(o:Option Nat)(z:Nat)(l:List Hs):(D.sl o z (l.map j4)).brw=.sl none z (l.map j4):=by
 simp only[D.brw,G4];rw[X5 QQ]
theorem G3(h:Hs):Frs (j4 h):=.arr _ _ _ (K7 λ_=>.u8 _)
theorem j29(e z:Nat)(l:List Hs):Frs (.sl (some e) z (l.map j4)):=.sl _ _ _ (K7 G3)
def zero32:Hs:=List.replicate 32 0
theorem j35(k:Int)(n:Nat)(h:0<=k)(hn:n<=64):k.fdiv (2^min (n:Int).toNat 64)=((k.toNat/2^n:Nat):Int):=by
 have e:min (n:Int).toNat 64=n:=by omega
 rw[e];obtain⟨m,rfl⟩:=Int.eq_ofNat_of_zero_le h;rw[D0 _ (by exact_mod_cast g9 _)]
 norm_cast
def q59(J:Hs->Hs->Hs)(l:List Hs):Nat->Hs
 | 0=>zero32
 | k+1=>(O9 J l k)[0]!
def XR(J:Hs->Hs->Hs)(l:List Hs):Hs:=q59 J l (L6 l.length)
abbrev Bg:=List UInt64
def W9(x:Bg):D:=.arr 4 1 (x.map .u64)
def W3(n:Nat):D:=.int ((n:Nat):Int)
def X3:Bg:=[0,0,0,0]
def C9(a:Bg)(i:Nat):Nat:=if 256<=i then 0 else(E2 a[i/64]! (i%64)&&&1).toNat
theorem z08(x:UInt64):(x&&&1).toNat<=1:=by
 rw[UInt64.toNat_and];exact u9 Nat.and_le_right (by decide)
theorem JK(a:Bg)(i:Nat):C9 a i<=1:=by
 unfold C9;split
 ·exact g9 _
 ·exact z08 _
def ZP(l:List Nat):Nat->Bg
 | 0=>X3
 | i+1=>if l[i]! = 1 then(ZP l i).set (i/64) ((ZP l i)[i/64]!|||QV 1 (i%64)) else ZP l i
def XC(l:List Nat):Bg:=ZP l (min l.length 256)
theorem FM(l:List Nat)(i:Nat):(ZP l i).length=4:=by
 induction i with
 | zero=>rfl
 | succ i ih=>simp only[ZP];split<;>simp[ih]
theorem ZT(l:List Nat):(XC l).length=4:=FM _ _
def UT(a b:Bg):Nat->Bool
 | 0=>false
 | i+1=>if C9 a i≠C9 b i then decide (C9 a i<C9 b i) else UT a b i
def YR(a b:Bg):Bool:=UT a b 256
def j87(a:Bg):Nat->Nat
 | 0=>0
 | i+1=>if C9 a i=1 then i+1 else j87 a i
def CW(a:Bg):Nat:=j87 a 256
theorem k70(a:Bg)(i:Nat):j87 a i<=i:=by
 induction i with
 | zero=>exact z7 _
 | succ i ih=>simp only[j87];split<;>omega
theorem k69(a:Bg):CW a<=256:=k70 a 256
def allB(l:List Nat):Prop:=∀ x∈l,x<=1
theorem allB.get{l:List Nat}(h:allB l)(i:Nat):l[i]!<=1:=by
 by_cases hi:i<l.length
 ·rw[Z1 l i hi];exact h _ (g6 hi)
 ·rw[getElem!_neg l i hi];exact g9 _
theorem allB.set{l:List Nat}(h:allB l)(i x:Nat)(hx:x<=1):allB (l.set i x):=λy hy=>by
 rcases List.mem_or_eq_of_mem_set hy with h1|h1
 ·exact h y h1
 ·exact h1▸hx
def PN(a b:Bg):Nat->Nat
 | 0=>0
 | i+1=>(C9 a i+C9 b i+PN a b i)/2
def PO(a b:Bg):Nat->List Nat
 | 0=>[]
 | i+1=>PO a b i++[(C9 a i+C9 b i+PN a b i)%2]
def EG(a b:Bg):Bg:=XC (PO a b 256)
def z80(a b:Bg):Bool:=decide (PN a b 256=1)
theorem j62(a b:Bg)(i:Nat):PN a b i<=1:=by
 induction i with
 | zero=>exact g9 _
 | succ i ih=>have:=JK a i;have:=JK b i;simp only[PN];omega
theorem IQ(a b:Bg)(i:Nat):(PO a b i).length=i:=by
 induction i with
 | zero=>rfl
 | succ i ih=>simp[PO,ih]
def QL(a b:Bg):Nat->Nat
 | 0=>0
 | i+1=>if C9 a i<C9 b i+QL a b i then 1 else 0
def XB(a b:Bg):Nat->List Nat
 | 0=>[]
 | i+1=>XB a b i++[if C9 a i<C9 b i+QL a b i then C9 a i+2-(C9 b i+QL a b i) else C9 a i-(C9 b i+QL a b i)]
def z79(a b:Bg):Bg:=XC (XB a b 256)
theorem VF(a b:Bg)(i:Nat):QL a b i<=1:=by
 cases i with
 | zero=>exact g9 _
 | succ i=>simp only[QL];split<;>omega
theorem FV(a b:Bg)(i:Nat):(XB a b i).length=i:=by
 induction i with
 | zero=>rfl
 | succ i ih=>simp[XB,ih]
theorem j61(a b:Bg):(z79 a b).length=4:=by unfold z79;exact ZT _
theorem VS(a b:Bg):(EG a b).length=4:=by unfold EG;exact ZT _
def T0(a:Bg)(k:Nat)(l:List Nat):Nat->List Nat×Nat
 | 0=>(l,0)
 | j+1=>((T0 a k l j).1.set (k+j) (((T0 a k l j).1[k+j]!+C9 a j+(T0 a k l j).2)%2),((T0 a k l j).1[k+j]!+C9 a j+(T0 a k l j).2)/2)
def f8(a:Bg)(n:UInt64):Nat->List Nat
 | 0=>List.replicate 320 0
 | k+1=>if E2 n k&&&1=0 then f8 a n k else(T0 a k (f8 a n k) (320-k)).1
def k52(l:List Nat):Nat->UInt64
 | 0=>0
 | k+1=>k52 l k|||QV (UInt64.ofInt ((l[256+k]!:Nat):Int)) k
def QT(a:Bg)(n:UInt64):Bg:=XC (f8 a n 64)
def FW(a:Bg)(n:UInt64):UInt64:=k52 (f8 a n 64) 64
theorem FX(a:Bg)(k:Nat)(l:List Nat)(j:Nat):(T0 a k l j).1.length=l.length:=by
 induction j with
 | zero=>rfl
 | succ j ih=>simp[T0,ih]
theorem FU(a:Bg)(k:Nat)(l:List Nat)(h:allB l)(j:Nat):allB (T0 a k l j).1/\(T0 a k l j).2<=1:=by
 induction j with
 | zero=>exact⟨h,g9 _⟩
 | succ j ih=>
  have h1:=ih.1.get (k+j);have h2:=JK a j;have h3:=ih.2;exact⟨ih.1.set _ _ (by omega),by simp only[T0];omega⟩
theorem NV(a:Bg)(n:UInt64)(k:Nat):(f8 a n k).length=320:=by
 induction k with
 | zero=>exact d6
 | succ k ih=>
  simp only[f8];split
  ·exact ih
  ·rw[FX,ih]
theorem k73(a:Bg)(n:UInt64)(k:Nat):allB (f8 a n k):=by
 induction k with
 | zero=>intro x hx;rw[(List.mem_replicate.1 hx).2];exact g9 _
 | succ k ih=>
  simp only[f8];split
  ·exact ih
  ·exact(FU a k _ ih _).1
def CE(a:Bg)(n:Nat):Bg:=if n=0 then a else XC ((List.range 256).map λi=>if 256<n∨i<n then 0 else C9 a (i-n))
def l8(a:Bg)(n:Nat):Bg:=if n=0 then a else XC ((List.range 256).map λi=>if 256<n then 0 else C9 a (i+n))
def q48(a:Bg)(n i:Nat):List Nat:=(List.range i).map λi=>if 256<n∨i<n then 0 else C9 a (i-n)
def UZ(a:Bg)(n i:Nat):List Nat:=(List.range i).map λi=>if 256<n then 0 else C9 a (i+n)
theorem k02(a:Bg)(n i:Nat):q48 a n (i+1)=q48 a n i++[if 256<n∨i<n then 0 else C9 a (i-n)]:=by simp[q48,N5]
theorem q30(a:Bg)(n i:Nat):UZ a n (i+1)=UZ a n i++[if 256<n then 0 else C9 a (i+n)]:=by simp[UZ,N5]
theorem q47(a:Bg)(n i:Nat):(q48 a n i).length=i:=by simp[q48]
theorem FF(a:Bg)(n i:Nat):(UZ a n i).length=i:=by simp[UZ]
theorem PR{a:Bg}(ha:a.length=4)(n:Nat):(CE a n).length=4:=by
 unfold CE;split
 ·exact ha
 ·exact ZT _
theorem JD{a:Bg}(ha:a.length=4)(n:Nat):(l8 a n).length=4:=by
 unfold l8;split
 ·exact ha
 ·exact ZT _
theorem VI(a:Bg)(n:UInt64):(QT a n).length=4:=by unfold QT;exact ZT _
def WN(a r:Bg)(i:Nat):Bg:=(CE r 1).set 0 ((CE r 1)[0]!|||UInt64.ofInt ((C9 a i:Nat):Int))
theorem PT{a r:Bg}(h:r.length=4)(i:Nat):(WN a r i).length=4:=by unfold WN;rw[QP];exact PR h _
def e9(a b:Bg):Nat->List Nat×Bg
 | 0=>(List.replicate 256 0,X3)
 | t+1=>
  if C9 (e9 a b t).2 255=1∨YR (WN a (e9 a b t).2 (255-t)) b=false then
   ((e9 a b t).1.set (255-t) 1,z79 (WN a (e9 a b t).2 (255-t)) b)
  else((e9 a b t).1,WN a (e9 a b t).2 (255-t))
def r8(a b:Bg):Bg:=if b=X3 then X3 else XC (e9 a b 256).1
def JZ(a b:Bg):Bg:=if b=X3 then X3 else(e9 a b 256).2
def j42(b:Bg):Nat:=if b=X3 then 1 else 0
theorem j41(a b:Bg)(h:(e9 a b 256).2.length=4):(JZ a b).length=4:=by
 unfold JZ;split
 ·rfl
 ·exact h
theorem VG(a b:Bg):(r8 a b).length=4:=by
 unfold r8;split
 ·rfl
 ·exact ZT _
theorem VH(a b:Bg)(t:Nat):(e9 a b t).1.length=256/\(e9 a b t).2.length=4:=by
 induction t with
 | zero=>rw[e9];exact⟨d6,rfl⟩
 | succ t ih=>
  rw[e9];generalize e9 a b t=q at ih ⊢;obtain⟨h1,h2⟩:=ih;split
  ·dsimp only;exact⟨List.length_set.trans h1,j61 _ _⟩
  ·dsimp only;exact⟨h1,PT h2 _⟩
def hbit(h:Hs)(i:Nat):Nat:=(YO h[i/8]! (i%8)&&&1).toNat
def LQ(h:Hs)(i:Nat):List Nat:=(List.range i).map (hbit h)
def q08(h:Hs):Bg:=XC (LQ h 256)
theorem z45(h:Hs)(i:Nat):LQ h (i+1)=LQ h i++[hbit h i]:=by simp[LQ,N5]
theorem TD(h:Hs)(i:Nat):(LQ h i).length=i:=by simp[LQ]
theorem IW(n:Nat)(h:n<18446744073709551616):(UInt64.ofInt ((n:Nat):Int)).toNat=n:=by
 have:UInt64.ofInt ((n:Nat):Int)=UInt64.ofNat n:=by
  unfold UInt64.ofInt
  congr 1
  omega
 rw[this];simp[UInt64.toNat_ofNat];omega
theorem k18(x:UInt64)(n:Nat)(h:n<64):E2 x ((((UInt64.ofInt ((n:Nat):Int)).toNat:Nat):Int)).toNat=E2 x n:=by
 rw[IW n (by omega)];rfl
theorem k20(x:UInt64)(n:Nat)(h:n<64):QV x ((((UInt64.ofInt ((n:Nat):Int)).toNat:Nat):Int)).toNat=QV x n:=by
 rw[IW n (by omega)];rfl
theorem x25(x:UInt8)(n:Nat)(h:n<8):YO x ((((UInt64.ofInt ((n:Nat):Int)).toNat:Nat):Int)).toNat=YO x n:=by
 rw[IW n (by omega)];rfl
theorem j93(x:UInt64):D.int (wr ((x&&&1).toNat:Int))=D.int (((x&&&1).toNat:Nat):Int):=by
 have:=z08 x;exact KH rfl (by omega) (by omega)
theorem q84{l:List Nat}{i:Nat}(h:l[i]! = 1):ZP l (i+1)=(ZP l i).set (i/64) ((ZP l i)[i/64]!|||QV 1 (i%64)):=by rw[ZP,u4 h]
theorem q85{l:List Nat}{i:Nat}(h:¬ l[i]! = 1):ZP l (i+1)=ZP l i:=by rw[ZP,w3 h]
theorem k15{a b:Bg}{i:Nat}(h:¬ ((C9 a i:Nat):Int)-((C9 b i:Nat):Int)-((QL a b i:Nat):Int)<0) :
 (XB a b i).map W3++[D.int (((C9 a i:Nat):Int)-((C9 b i:Nat):Int)-((QL a b i:Nat):Int))]=(XB a b (i+1)).map W3:=by
 rw[XB,d5,w3 (by omega)]
 congr 1
 simp only[b9,K0,W3]
 congr 2
 omega
theorem k14{a b:Bg}{i:Nat}(h:((C9 a i:Nat):Int)-((C9 b i:Nat):Int)-((QL a b i:Nat):Int)<0) :
 (XB a b i).map W3++[D.int (((C9 a i:Nat):Int)-((C9 b i:Nat):Int)-((QL a b i:Nat):Int)+2)]=(XB a b (i+1)).map W3:=by
 have h1:=JK b i;have h2:=VF a b i;rw[XB,d5,u4 (by omega)]
 congr 1
 simp only[b9,K0,W3]
 congr 2
 omega
theorem k13{a b:Bg}{i:Nat}(h:¬ ((C9 a i:Nat):Int)-((C9 b i:Nat):Int)-((QL a b i:Nat):Int)<0):QL a b (i+1)=0:=by rw[QL,w3 (by omega)]
theorem k12{a b:Bg}{i:Nat}(h:((C9 a i:Nat):Int)-((C9 b i:Nat):Int)-((QL a b i:Nat):Int)<0):QL a b (i+1)=1:=by rw[QL,u4 (by omega)]
theorem x52{a b:Bg}{i:Nat}(h:¬ C9 a i≠C9 b i):UT a b (i+1)=UT a b i:=by rw[UT,w3 h]
theorem x51{a b:Bg}{i:Nat}(h:C9 a i≠C9 b i):UT a b (i+1)=decide (C9 a i<C9 b i):=by rw[UT,u4 h]
theorem w23{a:Bg}{i:Nat}(h:C9 a i=1):j87 a (i+1)=i+1:=by rw[j87,u4 h]
theorem w24{a:Bg}{i:Nat}(h:¬ C9 a i=1):j87 a (i+1)=j87 a i:=by rw[j87,w3 h]
theorem WM{a:Bg}{n i x:Nat}(h:(if 256<n∨i<n then 0 else C9 a (i-n))=x):(q48 a n i).map W3++[D.int ((x:Nat):Int)]=(q48 a n (i+1)).map W3:=by rw[k02,d5,h];rfl
theorem VY{a:Bg}{n i x:Nat}(h:(if 256<n then 0 else C9 a (i+n))=x):(UZ a n i).map W3++[D.int ((x:Nat):Int)]=(UZ a n (i+1)).map W3:=by rw[q30,d5,h];rfl
theorem u49(a:Bg):CE a 0=a:=by rw[CE,u4 rfl]
theorem u48{a:Bg}{n:Nat}(h:¬ n<=0):CE a n=XC (q48 a n 256):=by rw[CE,w3 (by omega),q48]
theorem x77(a:Bg):l8 a 0=a:=by rw[l8,u4 rfl]
theorem x76{a:Bg}{n:Nat}(h:¬ n<=0):l8 a n=XC (UZ a n 256):=by rw[l8,w3 (by omega),UZ]
theorem zl(n:Nat):(List.replicate n 0).map W3=List.replicate n (.int 0):=by rw[N1];rfl
theorem w74(a:Bg)(n:UInt64):f8 a n 0=List.replicate 320 0:=by rw[f8]
theorem k72{a:Bg}{n:UInt64}{k:Nat}(h:E2 n k&&&1=0):f8 a n (k+1)=f8 a n k:=by rw[f8,u4 h]
theorem k71{a:Bg}{n:UInt64}{k:Nat}(h:¬ E2 n k&&&1=0):f8 a n (k+1)=(T0 a k (f8 a n k) (320-k)).1:=by rw[f8,w3 h]
theorem w72(a:Bg)(k:Nat)(l:List Nat)(j:Nat):((T0 a k l j).1[k+j]!+C9 a j+(T0 a k l j).2)/2=(T0 a k l (j+1)).2:=by rw[T0]
theorem w73(a:Bg)(k:Nat)(l:List Nat):T0 a k l 0=(l,0):=by rw[T0]
theorem u06(a b:Bg):e9 a b 0=(List.replicate 256 0,X3):=by rw[e9]
theorem BE{a b r:Bg}{k:Nat}(hq:e9 a b k=(q,r))(h:C9 r 255=1∨YR (WN a r (255-k)) b=false):e9 a b (k+1)=(q.set (255-k) 1,z79 (WN a r (255-k)) b):=by
 rw[e9,hq];exact u4 h
theorem q31{a b r:Bg}{k:Nat}(hq:e9 a b k=(q,r))(h:¬ C9 r 255=1)(h2:¬ YR (WN a r (255-k)) b=false):e9 a b (k+1)=(q,WN a r (255-k)):=by
 rw[e9,hq];exact w3 (λh3=>h3.elim h h2)
theorem q90{a b r:Bg}{k:Nat}(hq:e9 a b k=(q,r)):q.length=256/\r.length=4:=by
 have:=VH a b k;rw[hq] at this;exact this
theorem j39{a b:Bg}(h:(b==X3)=true):r8 a b=X3/\JZ a b=X3/\j42 b=1:=by
 have h:=eq_of_beq h;exact⟨by rw[r8,u4 h],by rw[JZ,u4 h],by rw[j42,u4 h]⟩
theorem j40{a b r:Bg}(h:(b==X3)=false)(hq:e9 a b 256=(q,r)):r8 a b=XC q/\JZ a b=r/\j42 b=0:=by
 have h:=F7 h;exact⟨by rw[r8,w3 h,hq],by rw[JZ,w3 h,hq],by rw[j42,w3 h]⟩
theorem x78(a b:Bg):(JZ a b).length=4:=j41 a b (VH a b 256).2
theorem P5(x:Bg):Frs (W9 x):=.arr _ _ _ (K7 λ_=>.u64 _)
def S2(bits:UInt32):Bg:=[(bits&&&8388607).toUInt64,0,0,0]
def YJ(bits:UInt32):Bg:=
 if(K6 bits 24).toNat<3 then l8 (S2 bits) (8*(3-(K6 bits 24).toNat)) else CE (S2 bits) (8*((K6 bits 24).toNat-3))
def HI(bits:UInt32):Option Bg:=
 if 3<=(K6 bits 24).toNat/\256<CW (S2 bits)+8*((K6 bits 24).toNat-3)/\S2 bits≠X3 then none
 else if YJ bits=X3∨bits&&&8388608≠0 then none else some (YJ bits)
def AV(bits:UInt32):Bg:=(HI bits).getD X3
def DW(t:Bg):Nat:=(CW t+7)/8
def DV(t:Bg):Bg:=if DW t<3 then CE t (8*(3-DW t)) else l8 t (8*(DW t-3))
def GQ(t:Bg):UInt32:=
 if t=X3 then 0
 else if(8388608:UInt64)<=(DV t)[0]! then s5 (UInt32.ofInt ((DW t+1:Nat):Int)) 24|||(l8 (DV t) 8)[0]!.toUInt32
 else s5 (UInt32.ofInt ((DW t:Nat):Int)) 24|||(DV t)[0]!.toUInt32
def DC(h:Hs)(t:Bg):Bool:=t != X3&&!YR t (q08 h)
theorem k11(bits:UInt32):(YJ bits).length=4:=by
 unfold YJ;split
 ·exact JD rfl _
 ·exact PR rfl _
theorem DD(bits:UInt32):(AV bits).length=4:=by
 unfold AV HI;split
 ·rfl
 ·split
  ·rfl
  ·exact k11 _
theorem k19(bits:UInt32):(K6 bits 24).toNat<=255:=by
 unfold K6;rw[u4 (by decide),UInt32.toNat_shiftRight];have:=bits.toNat_lt;have e:(UInt32.ofNat 24).toNat%32=24:=rfl;rw[e,D6];omega
theorem k56{bits:UInt32}(h3:¬ (K6 bits 24).toNat<3)(hb:256<CW (S2 bits)+8*((K6 bits 24).toNat-3))(hn:(S2 bits != X3)=true):HI bits=none:=by
 unfold HI;exact u4 ⟨by omega,hb,G9.1 hn⟩
theorem ZB{bits:UInt32}(h:(K6 bits 24).toNat<3∨¬ 256<CW (S2 bits)+8*((K6 bits 24).toNat-3)∨(S2 bits != X3)=false):HI bits=if YJ bits=X3∨bits&&&8388608≠0 then none else some (YJ bits):=by
 unfold HI;refine w3 (λhc=>?_)
 rcases h with h|h|h
 ·omega
 ·exact h hc.2.1
 ·exact G9.2 hc.2.2 |>.symm.trans h |> λe=>by cases e
theorem q49{bits:UInt32}(h:(K6 bits 24).toNat<3):YJ bits=l8 (S2 bits) (8*(3-(K6 bits 24).toNat)):=by unfold YJ;exact u4 h
theorem PX{bits:UInt32}(h:¬ (K6 bits 24).toNat<3):YJ bits=CE (S2 bits) (8*((K6 bits 24).toNat-3)):=by unfold YJ;exact w3 h
theorem FK{bits:UInt32}{x:Bg}(hg:HI bits=if YJ bits=X3∨bits&&&8388608≠0 then none else some (YJ bits))(ht:YJ bits=x)(hz:x=X3):HI bits=none:=by rw[hg,u4 (.inl (ht.trans hz))]
theorem FZ{bits:UInt32}(hg:HI bits=if YJ bits=X3∨bits&&&8388608≠0 then none else some (YJ bits))(h:(bits&&&8388608 != 0)=true):HI bits=none:=by rw[hg,u4 (.inr (G9.1 h))]
theorem FQ{bits:UInt32}{x:Bg}(hg:HI bits=if YJ bits=X3∨bits&&&8388608≠0 then none else some (YJ bits))(ht:YJ bits=x)(hz:¬ x=X3)(h:(bits&&&8388608 != 0)=false):HI bits=some x:=by
 rw[hg,w3 (λhc=>hc.elim (λe=>hz (ht.symm.trans e)) (λe=>by rw[G9.2 e] at h;cases h)),ht]
theorem HH{bits:UInt32}(h:HI bits=none):AV bits=X3:=by rw[AV,h];rfl
theorem LZ{bits:UInt32}{x:Bg}(h:HI bits=some x):AV bits=x:=by rw[AV,h];rfl
theorem u07{t:Bg}(h:(t==X3)=true):GQ t=0:=by unfold GQ;exact u4 (eq_of_beq h)
theorem j44{t x:Bg}(h:(t==X3)=false)(hp:DV t=x)(h2:(8388608:UInt64)<=x[0]!):GQ t=s5 (UInt32.ofInt ((DW t+1:Nat):Int)) 24|||(l8 x 8)[0]!.toUInt32:=by
 subst hp;unfold GQ;rw[w3 (F7 h),u4 h2]
theorem j47{t x:Bg}(h:(t==X3)=false)(hp:DV t=x)(h2:¬ (8388608:UInt64)<=x[0]!):GQ t=s5 (UInt32.ofInt ((DW t:Nat):Int)) 24|||x[0]!.toUInt32:=by
 subst hp;unfold GQ;rw[w3 (F7 h),w3 h2]
theorem q91{t:Bg}(h:(CW t+7)/8<3):DV t=CE t (8*(3-(CW t+7)/8)):=by unfold DV DW;exact u4 h
theorem q92{t:Bg}(h:¬ (CW t+7)/8<3):DV t=l8 t (8*((CW t+7)/8-3)):=by unfold DV DW;exact w3 h
theorem k59(h:Hs):(q08 h).length=4:=by unfold q08;exact ZT _
theorem w77{h:Hs}{t:Bg}(hz:t=X3):DC h t=false:=by unfold DC;rw[hz];rfl
theorem w76{h:Hs}{t:Bg}(hz:¬ t=X3):DC h t=!YR t (q08 h):=by unfold DC;rw[G9.2 hz,U9]
section
open Go.Proofs
theorem ZY(a:Bg)(i:Nat)(ha:a.length=4)(hi0:i<=1000000):Fn Tryz.prog gl 167 [W9 a,.int ((i:Nat):Int)] (.int ((C9 a i:Nat):Int)):=by
 refine Fo 21 Tryz.func167 O λC hC hD=>?_;refine c6 2 [] (V2 0 1) Zt O (⟨O,_,R.box (gV 0 O) O O nU,⟨O,_,Z3 (kI 0 O) O nU,tW (V2 1 2) (B8 2) 21 O ?_⟩⟩);refine W.seq (u15 6 (y6 5 6 7 8 9 10) (V3 1 2 10) ⟨xM O,aU<|UC 0 O,xM O,aN O (dF (Q8 _))<|zV O,aN O (dF (Q8 _)) λ_ _ H K=>u24 (i) (256) (eU K 8 O) (kI 256 O) H,aU<|zF O (dF (Q8 _)),Zt⟩ ?_);refine c4 O (λhc10=>?_) (λhc10=>?_)
 ·refine u7 1 (y1 4) (V1 4) ⟨r6 0 O,Zt⟩ ?_;exact W.ret (En O (by rw[C9,u4 hc10]))
 ·refine W.skip (u7 11 (v41 11 12 13 14 15 16 17 18 19 20 4) (V1 4) ⟨zV O,λ_ _ H K=>XJ (i) (64) (eU K 11 O) (kI 64 O) bU bU H,RF ((i/64)) O,λ_ B H K=>R.ldP (K 13 _ O) (B 2 _ O) (H1 (mG a) U1 bU) O O O H,zV O,λ_ _ H K=>XA (i) (64) (eU K 15 O) (kI 64 O) bU H,zW O,λ_ _ H K=>P1 (d:=.u64 (E2 a[i/64]! (i%64))) (eU K 14 O) (eU K 17 O) O bV (g8 D.u64 (k18 _ _ bO)) H,UH O (kW (.int .u64 1) (.u64 1) O),λ_ _ H K=>T6 (d:=.int (((E2 a[i/64]! (i%64)&&&1).toNat:Nat):Int)) (eU K 19 O) O (j93 _) H,zA O,Zt⟩ ?_);exact W.ret (En O (by rw[C9,w3 hc10]))
theorem x93(a:Bg)(i:Int)(hn:i<0)(hi0:-1000000<=i):Fn Tryz.prog gl 167 [W9 a,.int i] (.int ((0:Nat):Int)):=by
 refine Fo 21 Tryz.func167 O λC hC hD=>?_;refine c6 2 [] (V2 0 1) Zt O (⟨O,_,R.box (gV 0 O) O O nU,⟨O,_,Z3 (kI 0 O) O nU,tW (V2 1 2) (B8 2) 21 O ?_⟩⟩);refine W.seq (u15 6 [.y 5 _,.y 6 _,.y 7 _,.x 8,.x 9,.y 10 _] (V3 1 2 10) ⟨xM O,aU<|UH O (kI 0 O),xM O,GR O (dT hn),GR O (dT hn),aU<|z89 O (dT hn) (kB true O),Zt⟩ ?_);refine Y8 O (O) ?_;refine u7 1 (y1 4) (V1 4) ⟨r6 0 O,Zt⟩ ?_;exact W.ret (Eo O)
theorem JV(l:List Nat)(hl0:l.length<=1000000):Fn Tryz.prog gl 168 [.sl none 1 (l.map W3)] (W9 (XC l)):=by
 refine Fo 33 Tryz.func168 O λC hC hD=>?_;refine c6 1 [] (V1 0) Zt O (M7 O (tW (V2 0 2) (B8 2) 33 O ?_));refine c6 1 [] (V2 0 2) Zt O (M7 O (tW (V3 0 2 3) (M4 3 2) 33 O ?_));refine W.seq (u7 1 (y1 4) (V4 0 2 3 4) ⟨r6 0 O,Zt⟩ ?_);refine W.block ?_;refine W.loop (α:={q__:Nat//q__<=l.length/\q__<=256}) (λq__=>⟨33,[(0,.sl none 1 (l.map W3)),(2,.ptr 2 0 []),(3,.ptr 3 0 []),(4,.int ((q__.1:Nat):Int))],[(3,.var (W9 (ZP l q__.1))),(2,.var (W9 X3))]⟩) (λq__=>256-q__.1) ⟨(0),⟨g9 _,g9 _⟩⟩ O ?_;rintro ⟨i,⟨hi,hi2⟩⟩;show W _ _ _ _ ⟨33,[(0,.sl none 1 (l.map W3)),(2,.ptr 2 0 []),(3,.ptr 3 0 []),(4,.int ((i:Nat):Int))],[(3,.var (W9 (ZP l i))),(2,.var (W9 X3))]⟩;have hi:i<=l.length:=hi;have hi2:i<=256:=hi2;have hfl:=FM l i;refine W.seq (W.seq ?_);by_cases hs:i<l.length
 ·refine R0 8 (y8 5 6 7 8 9 10 11 12) (V5 0 2 3 4 12) ⟨xM O,xM O,aU<|R2 O,aU<|zS O,xM O,aT O (dT hs)<|zV O,aT O (dT hs)<|UC 256 O,aU<|zT O (dT hs),Zt⟩ ?_;refine c4 O (λhc12=>?_) (λhc12=>?_)
  ·refine W.skip (W.seq (W.block (u7 5 (y5 15 16 17 18 19) (V5 0 2 3 4 19) ⟨zV O,zV O,zI i O,zL O (mG l),PJ 1 O,Zt⟩ ?_)));refine c4 O (λhc19=>?_) (λhc19=>?_)
   ·refine O3 13 (j89 20 21 22 23 24 25 26 27 28 29 30 31) (V6 0 2 3 4 30 31) ⟨zV O,λ_ _ H K=>XJ (i) (64) (eU K 20 O) (kI 64 O) bU bU H,zV O,λ_ _ H K=>XJ (i) (64) (eU K 22 O) (kI 64 O) bU bU H,RF ((i/64)) O,λ_ B H K=>R.ldP (K 24 _ O) (B 3 _ O) (H1 (mG (ZP l i)) U1 bU) O O O H,zV O,λ_ _ H K=>XA (i) (64) (eU K 26 O) (kI 64 O) bU H,zW O,λ_ _ H K=>P1 (d:=.u64 (QV 1 (i%64))) (kW (.int .u64 1) (.u64 1) O) (eU K 28 O) O bV (g8 D.u64 (k20 _ _ bO)) H,zB O,RF ((i/64)) O,Zt⟩ O (⟨O,_,XP (gU 31 O) (xU 3 O) (H1 (mG (ZP l i)) U1 bU) (gV 30 O) (by rfl) (by rfl) (by rfl) (by rfl) (XY (mG (ZP l i)) E1 E3),tW (V4 0 2 3 4) (M4 3 2) 33 O ?_⟩);refine m7 3 (y3 13 14 4) (V4 0 2 3 4) ⟨zV O,N2 1 O,zA O,Zt⟩ ?_;exact⟨⟨(i+1),⟨by omega,by omega⟩⟩,(by first|(rw[q84 hc19]<;>rfl)|(rw[q85 hc19]<;>rfl)),(by simp only[];omega)⟩
   ·refine W.skip ?_;refine m7 3 (y3 13 14 4) (V4 0 2 3 4) ⟨zV O,N2 1 O,zA O,Zt⟩ ?_;exact⟨⟨(i+1),⟨by omega,by omega⟩⟩,(by first|(rw[q84 hc19]<;>rfl)|(rw[q85 hc19]<;>rfl)),(by simp only[];omega)⟩
  ·refine W.exit (c6 2 (y1 32) (V2 2 32) ⟨xL O,Zt⟩ O (B2 O (tW (V1 2) (M4 3 2) 33 O ?_)));exact W.ret (En O (by rw[XC,show min l.length 256=i by omega]) (iL 217 4))
 ·refine R0 8 [.y 5 _,.y 6 _,.y 7 _,.y 8 _,.y 9 _,.x 10,.x 11,.y 12 _] (V5 0 2 3 4 12) ⟨xM O,xM O,aU<|R2 O,aU<|zS O,xM O,L0 O (dF hs),L0 O (dF hs),aU<|RI O (dF hs) (kB false O),Zt⟩ ?_;refine Y3 O (O) ?_;refine W.exit (c6 2 (y1 32) (V2 2 32) ⟨xL O,Zt⟩ O (B2 O (tW (V1 2) (M4 3 2) 33 O ?_)));exact W.ret (En O (by rw[XC,show min l.length 256=i by omega]) (iL 217 4))
theorem u14(n:UInt64):Fn Tryz.prog gl 152 [.u64 n] (W9 [n,0,0,0]):=by
 refine Fo 5 Tryz.func152 O λC hC hD=>?_;refine c6 1 [] (V1 0) Zt O (M7 O (tW (V2 0 2) (B8 2) 5 O ?_));refine c6 3 (y2 3 4) (V2 2 4) ⟨zV O,λ_ _ H K=>R.bldAP (z:=1) (l2:=([n,0,0,0].map D.u64)) (.cons (eU K 3 O) (.nil O)) ⟨⟨_,(eU K 3 O),O,O,O,O⟩,Zt⟩ (O) H,Zt⟩ O (B2 O (tW (V1 2) (B8 2) 5 O ?_));exact W.ret (Eo O (iL 217 4))
end
section
open Go.Proofs
theorem x94(a b:Bg)(ha:a.length=4)(hlb:b.length=4):Fn Tryz.prog gl 166 [W9 a,W9 b] (.tup [W9 (EG a b),.bool (z80 a b)]):=by
 refine Fo 34 Tryz.func166 O λC hC hD=>?_;refine c6 4 [] (V2 0 1) Zt O (⟨O,_,R.box (gV 0 O) O O nU,⟨O,_,R.box (gV 1 O) O O nU,(M7 O ⟨O,_,Z3 (kB false O) O nU,tW (V3 2 3 4) (QB 4 3 2) 34 O ?_⟩)⟩⟩);refine u7 1 (y1 6) (V4 2 3 4 6) ⟨QX O,Zt⟩ ?_;refine u7 1 (y1 7) (V5 2 3 4 6 7) ⟨r6 0 O,Zt⟩ ?_;refine W.seq (u7 1 (y1 8) (V6 2 3 4 6 7 8) ⟨r6 0 O,Zt⟩ ?_);refine W.block ?_;refine P9 (s:=6) 3 1 O ?_;refine P6 256 (λi=>⟨34,[(2,.ptr 2 0 []),(3,.ptr 3 0 []),(4,.ptr 4 0 []),(6,.sl (some 3) 1 ((PO a b i).map W3)),(7,.int ((PN a b i:Nat):Int)),(8,.int ((i:Nat):Int))],[(4,.var (W9 X3)),(3,.var (W9 b)),(2,.var (W9 a))]⟩) O λi hi=>?_;have h1:=JK a i;have h2:=JK b i;have h3:=j62 a b i;have hll:=IQ a b i;refine W.seq (u7 2 (y2 10 11) (V7 2 3 4 6 7 8 11) ⟨zV O,UC 256 O,Zt⟩ ?_);refine c4 O (λhc11=>?_) (λhc11=>?_)
 ·refine W.skip (W.seq (W.block (W.seq ?_)));refine T5 10 [0,0,3,0,0,31,63,0,255,511] hP dU (z91 14 15 16 17 18 19 20 21 22 9) (V6 2 3 4 6 8 9) ⟨xL O,zV O,zD hC (ZY a i ha bO) O (F1 (.int _)),xL O,zV O,zD hC (ZY b i hlb bO) O (F1 (.int _)),zP O,zV O,zP O,zA O,Zt⟩ O (tW (V6 2 3 4 6 8 9) (QB 4 3 2) 34 O ?_);refine M3 6 (y6 23 24 25 26 27 6) [(4,6),(5,27),(5,23)] [(4,6),(5,27)] (V6 2 3 4 6 8 9) ⟨aU<|zM O,xM O,aU λ_ _ H K=>XA (((C9 a i+C9 b i)+PN a b i)) (2) (eU K 24 O) (kI 2 O) bU H,aU λ_ _ H K=>Z7 (z:=1) (.cons (eU K 25 O) .nil) ⟨⟨O,O,O⟩,Zt⟩ O H dU,aU<|UI O (Y7 O) (show _=((PO a b (i+1)).map W3) from(by rw[PO,d5];rfl)) bU,aU<|zO O,Zt⟩ O (tU O ?_);refine m7 3 (y3 28 29 7) (V6 2 3 4 6 7 8) ⟨zV O,λ_ _ H K=>XJ (((C9 a i+C9 b i)+PN a b i)) (2) (eU K 28 O) (kI 2 O) bU bU H,zA O,Zt⟩ ?_;refine m7 3 (y3 12 13 8) (V6 2 3 4 6 7 8) ⟨zV O,N2 1 O,zA O,Zt⟩ ?_;exact⟨bU,rfl⟩
 ·obtain rfl:i=256:=by omega
  refine W.exit (c6 6 (y4 30 31 32 33) (V3 4 31 33) ⟨zM O,λ_ _ H K=>o9 hC (JV (PO a b 256) (by rw[IQ];decide)) (Bc (Bor.sc (SC.al (K 30 _ O) (K 6 _ O)) (X5 (λ_=>rfl))) Bn) (F1 (P5 _)) H,zV O,PJ 1 O,Zt⟩ O (B2 O (JP O (tW (V2 4 5) (QB 4 3 2) 34 O ?_))));exact W.ret (Ends.many (.inr O) (.cons O O O (iL 217 4) (.cons O O O Zt .nil)) (by unfold EG z80;rfl) (show[(4,false),(5,true)].Nodup by decide))
theorem q97(a b:Bg)(ha:a.length=4)(hlb:b.length=4):Fn Tryz.prog gl 170 [W9 a,W9 b] (.tup [W9 (z79 a b),.bool (decide (QL a b 256=1))]):=by
 refine Fo 35 Tryz.func170 O λC hC hD=>?_;refine c6 4 [] (V2 0 1) Zt O (⟨O,_,R.box (gV 0 O) O O nU,⟨O,_,R.box (gV 1 O) O O nU,(M7 O ⟨O,_,Z3 (kB false O) O nU,tW (V3 2 3 4) (QB 4 3 2) 35 O ?_⟩)⟩⟩);refine u7 1 (y1 6) (V4 2 3 4 6) ⟨QX O,Zt⟩ ?_;refine u7 1 (y1 7) (V5 2 3 4 6 7) ⟨r6 0 O,Zt⟩ ?_;refine W.seq (u7 1 (y1 8) (V6 2 3 4 6 7 8) ⟨r6 0 O,Zt⟩ ?_);refine W.block ?_;refine P9 (s:=6) 3 1 O ?_;refine P6 256 (λi=>⟨35,[(2,.ptr 2 0 []),(3,.ptr 3 0 []),(4,.ptr 4 0 []),(6,.sl (some 3) 1 ((XB a b i).map W3)),(7,.int ((QL a b i:Nat):Int)),(8,.int ((i:Nat):Int))],[(4,.var (W9 X3)),(3,.var (W9 b)),(2,.var (W9 a))]⟩) O λi hi=>?_;have h1:=JK a i;have h2:=JK b i;have h3:=VF a b i;have hll:=FV a b i;refine W.seq (u7 2 (y2 10 11) (V7 2 3 4 6 7 8 11) ⟨zV O,UC 256 O,Zt⟩ ?_);refine c4 O (λhc11=>?_) (λhc11=>?_)
 ·refine W.skip (W.seq (W.block (W.seq ?_)));refine T5 10 [0,0,3,0,0,31,63,0,255,511] hP dU (z91 14 15 16 17 18 19 20 21 22 9) (V6 2 3 4 6 8 9) ⟨xL O,zV O,zD hC (ZY a i ha bO) O (F1 (.int _)),xL O,zV O,zD hC (ZY b i hlb bO) O (F1 (.int _)),λ_ _ H K=>P1 (d:=.int (((C9 a i:Nat):Int)-((C9 b i:Nat):Int))) (eU K 16 O) (eU K 19 O) O Zt (KH bO bO bO) H,zV O,λ_ _ H K=>P1 (d:=.int (((C9 a i:Nat):Int)-((C9 b i:Nat):Int)-((QL a b i:Nat):Int))) (eU K 20 O) (eU K 21 O) O Zt (KH bO bO bO) H,zA O,Zt⟩ O (tW (V6 2 3 4 6 8 9) (QB 4 3 2) 35 O ?_);refine u7 1 (y1 7) (V7 2 3 4 6 7 8 9) ⟨r6 0 O,Zt⟩ ?_;refine W.seq (u7 2 (y2 23 24) (V8 2 3 4 6 7 8 9 24) ⟨zV O,UH O (kI 0 O),Zt⟩ ?_);refine W.cond O (λhc24=>?_) (λhc24=>?_)
  ·refine u7 3 (y3 25 26 9) (V6 2 3 4 6 8 9) ⟨zV O,λ_ _ H K=>P1 (d:=.int (((C9 a i:Nat):Int)-((C9 b i:Nat):Int)-((QL a b i:Nat):Int)+2)) (eU K 25 O) (kI 2 O) O Zt (KH bO bO bO) H,zA O,Zt⟩ ?_;refine m7 1 (y1 7) (V7 2 3 4 6 7 8 9) ⟨r6 1 O,Zt⟩ ?_;refine XU 5 (y5 27 28 29 30 6) [(3,6),(4,30),(4,27)] [(3,6),(4,30)] (V6 2 3 4 6 7 8) ⟨aU<|zM O,xM O,aU λ_ _ H K=>Z7 (z:=1) (.cons (eU K 28 O) .nil) ⟨⟨O,O,O⟩,Zt⟩ O H dU,aU<|UI O (Y7 O) (show _=((XB a b (i+1)).map W3) from(by first|exact k14 (c3 hc24)|exact k15 (g7 hc24))) bU,aU<|zO O,Zt⟩ O (tU O ?_);refine m7 3 (y3 12 13 8) (V6 2 3 4 6 7 8) ⟨zV O,N2 1 O,zA O,Zt⟩ ?_;exact⟨bU,(by first|(rw[k12 (c3 hc24)]<;>rfl)|(rw[k13 (g7 hc24)]<;>rfl))⟩
  ·refine W.skip ?_;refine XU 5 (y5 27 28 29 30 6) [(3,6),(4,30),(4,27)] [(3,6),(4,30)] (V6 2 3 4 6 7 8) ⟨aU<|zM O,xM O,aU λ_ _ H K=>Z7 (z:=1) (.cons (eU K 28 O) .nil) ⟨⟨O,O,O⟩,Zt⟩ O H dU,aU<|UI O (Y7 O) (show _=((XB a b (i+1)).map W3) from(by first|exact k14 (c3 hc24)|exact k15 (g7 hc24))) bU,aU<|zO O,Zt⟩ O (tU O ?_);refine m7 3 (y3 12 13 8) (V6 2 3 4 6 7 8) ⟨zV O,N2 1 O,zA O,Zt⟩ ?_;exact⟨bU,(by first|(rw[k12 (c3 hc24)]<;>rfl)|(rw[k13 (g7 hc24)]<;>rfl))⟩
 ·obtain rfl:i=256:=by omega
  refine W.exit (c6 6 (y4 31 32 33 34) (V3 4 32 34) ⟨zM O,λ_ _ H K=>o9 hC (JV (XB a b 256) (by rw[FV];decide)) (Bc (Bor.sc (SC.al (K 31 _ O) (K 6 _ O)) (X5 (λ_=>rfl))) Bn) (F1 (P5 _)) H,zV O,PJ 1 O,Zt⟩ O (B2 O (JP O (tW (V2 4 5) (QB 4 3 2) 35 O ?_))));exact W.ret (Ends.many (.inr O) (.cons O O O (iL 217 4) (.cons O O O Zt .nil)) (by unfold z79;rfl) (show[(4,false),(5,true)].Nodup by decide))
theorem q32(a:Bg)(n:Nat)(ha:a.length=4)(hn:n<=100000):Fn Tryz.prog gl 154 [W9 a,.int ((n:Nat):Int)] (W9 (CE a n)):=by
 refine Fo 29 Tryz.func154 O λC hC hD=>?_;refine c6 2 [] (V2 0 1) Zt O (⟨O,_,R.box (gV 0 O) O O nU,(M7 O (tW (V3 1 2 4) (M4 4 2) 29 O ?_))⟩);refine W.seq (u7 2 (y2 7 8) (V4 1 2 4 8) ⟨zV O,λ_ _ H K=>AJ (n) (0) (eU K 7 O) (kI 0 O) H,Zt⟩ ?_);refine c4 O (λhc8=>?_) (λhc8=>?_)
 ·refine c6 2 (y1 9) (V2 4 9) ⟨xL O,Zt⟩ O (B2 O (tW (V1 4) (M4 4 2) 29 O ?_));refine W.ret ?_;exact Ends.one' (.inr rfl) rfl (by obtain rfl:n=0:=bO;rw[u49]) rfl rfl (iL 217 4)
 ·refine W.skip (u7 1 (y1 5) (V4 1 2 4 5) ⟨QX O,Zt⟩ ?_);refine W.seq (u7 1 (y1 6) (V5 1 2 4 5 6) ⟨r6 0 O,Zt⟩ ?_);refine W.block ?_;refine P9 (s:=5) 3 1 O ?_;refine P6 256 (λi=>⟨29,[(1,.int ((n:Nat):Int)),(2,.ptr 2 0 []),(4,.ptr 4 0 []),(5,.sl (some 3) 1 ((q48 a n i).map W3)),(6,.int ((i:Nat):Int))],[(4,.var (W9 X3)),(2,.var (W9 a))]⟩) O λi hi=>?_;have hll:=q47 a n i;refine W.seq (u7 2 (y2 10 11) (V6 1 2 4 5 6 11) ⟨zV O,UC 256 O,Zt⟩ ?_);refine c4 O (λhc11=>?_) (λhc11=>?_)
  ·refine W.skip (W.seq (W.block (u7 2 (y2 14 15) (V6 1 2 4 5 6 15) ⟨zV O,z23 256 O,Zt⟩ ?_)));refine c4 O (λhc15=>?_) (λhc15=>?_)
   ·refine XU 4 (y4 16 17 18 5) [(2,5),(3,18),(3,16)] [(2,5),(3,18)] (V5 1 2 4 5 6) ⟨aU<|zM O,aU λ_ _ H _=>Z7 (z:=1) (.cons (kI 0 O) .nil) ⟨⟨O,O,O⟩,Zt⟩ O H dU,aU<|UI O (Y7 O) (show _=((q48 a n (i+1)).map W3) from(WM (u4 (.inl hc15)))) bU,aU<|zO O,Zt⟩ O (tU O ?_);refine m7 3 (y3 12 13 6) (V5 1 2 4 5 6) ⟨zV O,N2 1 O,zA O,Zt⟩ ?_;exact⟨bU,rfl⟩
   ·by_cases hin:i<n
    ·refine XU 9 (y9 19 20 21 22 23 24 25 26 5) [(7,5),(8,26),(8,19)] [(7,5),(8,26)] (V5 1 2 4 5 6) ⟨aU<|zM O,aU (xL O),xM O,xM O,aU λ_ _ H K=>P1 (d:=.int (((i:Nat):Int)-((n:Nat):Int))) (eU K 21 O) (eU K 22 O) O Zt (KH bO bO bO) H,aU<|zD hC (x93 a (((i:Nat):Int)-((n:Nat):Int)) bO bO) O (F1 (.int _)),aU λ_ _ H K=>Z7 (z:=1) (.cons (eU K 24 O) .nil) ⟨⟨O,O,O⟩,Zt⟩ O H dU,aU<|UI O (Y7 O) (show _=((q48 a n (i+1)).map W3) from(WM (u4 (.inr hin)))) bU,aU<|zO O,Zt⟩ O (tU O ?_);refine m7 3 (y3 12 13 6) (V5 1 2 4 5 6) ⟨zV O,N2 1 O,zA O,Zt⟩ ?_;exact⟨bU,rfl⟩
    ·refine XU 9 (y9 19 20 21 22 23 24 25 26 5) [(7,5),(8,26),(8,19)] [(7,5),(8,26)] (V5 1 2 4 5 6) ⟨aU<|zM O,aU (xL O),xM O,xM O,aU<|zQ O,aU<|zD hC (ZY a (i-n) ha bO) O (F1 (.int _)),aU λ_ _ H K=>Z7 (z:=1) (.cons (eU K 24 O) .nil) ⟨⟨O,O,O⟩,Zt⟩ O H dU,aU<|UI O (Y7 O) (show _=((q48 a n (i+1)).map W3) from(WM (w3 bO))) bU,aU<|zO O,Zt⟩ O (tU O ?_);refine m7 3 (y3 12 13 6) (V5 1 2 4 5 6) ⟨zV O,N2 1 O,zA O,Zt⟩ ?_;exact⟨bU,rfl⟩
  ·obtain rfl:i=256:=by omega
   refine W.exit (c6 3 (y2 27 28) (V2 4 28) ⟨zM O,λ_ _ H K=>o9 hC (JV (q48 a n 256) (by rw[q47];decide)) (Bc (Bor.sc (SC.al (K 27 _ O) (K 5 _ O)) (X5 (λ_=>rfl))) Bn) (F1 (P5 _)) H,Zt⟩ O (B2 O (tW (V1 4) (M4 4 2) 29 O ?_)));exact W.ret (En O (by rw[u48 hc8]) (iL 217 4))
theorem CX(a:Bg)(n:Nat)(ha:a.length=4)(hn:n<=100000):Fn Tryz.prog gl 153 [W9 a,.int ((n:Nat):Int)] (W9 (l8 a n)):=by
 refine Fo 29 Tryz.func153 O λC hC hD=>?_;refine c6 2 [] (V2 0 1) Zt O (⟨O,_,R.box (gV 0 O) O O nU,(M7 O (tW (V3 1 2 4) (M4 4 2) 29 O ?_))⟩);refine W.seq (u7 2 (y2 7 8) (V4 1 2 4 8) ⟨zV O,λ_ _ H K=>AJ (n) (0) (eU K 7 O) (kI 0 O) H,Zt⟩ ?_);refine c4 O (λhc8=>?_) (λhc8=>?_)
 ·refine c6 2 (y1 9) (V2 4 9) ⟨xL O,Zt⟩ O (B2 O (tW (V1 4) (M4 4 2) 29 O ?_));refine W.ret ?_;exact Ends.one' (.inr rfl) rfl (by obtain rfl:n=0:=bO;rw[x77]) rfl rfl (iL 217 4)
 ·refine W.skip (u7 1 (y1 5) (V4 1 2 4 5) ⟨QX O,Zt⟩ ?_);refine W.seq (u7 1 (y1 6) (V5 1 2 4 5 6) ⟨r6 0 O,Zt⟩ ?_);refine W.block ?_;refine P9 (s:=5) 3 1 O ?_;refine P6 256 (λi=>⟨29,[(1,.int ((n:Nat):Int)),(2,.ptr 2 0 []),(4,.ptr 4 0 []),(5,.sl (some 3) 1 ((UZ a n i).map W3)),(6,.int ((i:Nat):Int))],[(4,.var (W9 X3)),(2,.var (W9 a))]⟩) O λi hi=>?_;have hll:=FF a n i;refine W.seq (u7 2 (y2 10 11) (V6 1 2 4 5 6 11) ⟨zV O,UC 256 O,Zt⟩ ?_);refine c4 O (λhc11=>?_) (λhc11=>?_)
  ·refine W.skip (W.seq (W.block (u7 2 (y2 14 15) (V6 1 2 4 5 6 15) ⟨zV O,z23 256 O,Zt⟩ ?_)));refine c4 O (λhc15=>?_) (λhc15=>?_)
   ·refine XU 4 (y4 16 17 18 5) [(2,5),(3,18),(3,16)] [(2,5),(3,18)] (V5 1 2 4 5 6) ⟨aU<|zM O,aU λ_ _ H _=>Z7 (z:=1) (.cons (kI 0 O) .nil) ⟨⟨O,O,O⟩,Zt⟩ O H dU,aU<|UI O (Y7 O) (show _=((UZ a n (i+1)).map W3) from(VY (u4 hc15))) bU,aU<|zO O,Zt⟩ O (tU O ?_);refine m7 3 (y3 12 13 6) (V5 1 2 4 5 6) ⟨zV O,N2 1 O,zA O,Zt⟩ ?_;exact⟨bU,rfl⟩
   ·refine XU 9 (y9 19 20 21 22 23 24 25 26 5) [(7,5),(8,26),(8,19)] [(7,5),(8,26)] (V5 1 2 4 5 6) ⟨aU<|zM O,aU (xL O),xM O,xM O,aU<|zP O,aU<|zD hC (ZY a (i+n) ha bO) O (F1 (.int _)),aU λ_ _ H K=>Z7 (z:=1) (.cons (eU K 24 O) .nil) ⟨⟨O,O,O⟩,Zt⟩ O H dU,aU<|UI O (Y7 O) (show _=((UZ a n (i+1)).map W3) from(VY (w3 hc15))) bU,aU<|zO O,Zt⟩ O (tU O ?_);refine m7 3 (y3 12 13 6) (V5 1 2 4 5 6) ⟨zV O,N2 1 O,zA O,Zt⟩ ?_;exact⟨bU,rfl⟩
  ·obtain rfl:i=256:=by omega
   refine W.exit (c6 3 (y2 27 28) (V2 4 28) ⟨zM O,λ_ _ H K=>o9 hC (JV (UZ a n 256) (by rw[FF];decide)) (Bc (Bor.sc (SC.al (K 27 _ O) (K 5 _ O)) (X5 (λ_=>rfl))) Bn) (F1 (P5 _)) H,Zt⟩ O (B2 O (tW (V1 4) (M4 4 2) 29 O ?_)));exact W.ret (En O (by rw[x76 hc8]) (iL 217 4))
theorem x88(h:Hs)(hh:h.length=32):Fn Tryz.prog gl 157 [j4 h] (W9 (q08 h)):=by
 refine Fo 24 Tryz.func157 O λC hC hD=>?_;refine c6 2 [] (V1 0) Zt O (⟨O,_,R.box (gV 0 O) O O nU,(M7 O (tW (V2 1 2) (M4 2 1) 24 O ?_))⟩);refine u7 1 (y1 3) (V3 1 2 3) ⟨QX O,Zt⟩ ?_;refine W.seq (u7 1 (y1 4) (V4 1 2 3 4) ⟨r6 0 O,Zt⟩ ?_);refine W.block ?_;refine P9 (s:=3) 3 1 O ?_;refine P6 256 (λi=>⟨24,[(1,.ptr 1 0 []),(2,.ptr 2 0 []),(3,.sl (some 3) 1 ((LQ h i).map W3)),(4,.int ((i:Nat):Int))],[(2,.var (W9 X3)),(1,.var (j4 h))]⟩) O λi hi=>?_;have hll:=TD h i;refine W.seq (u7 2 (y2 5 6) (V5 1 2 3 4 6) ⟨zV O,UC 256 O,Zt⟩ ?_);refine c4 O (λhc6=>?_) (λhc6=>?_)
 ·refine W.skip (W.seq (W.block ?_));refine XU 14 (z90 9 10 11 12 13 14 15 16 17 18 19 20 21 3) [(12,3),(13,21),(13,9)] [(12,3),(13,21)] (V4 1 2 3 4) ⟨aU<|zM O,xM O,aU λ_ _ H K=>XJ (i) (8) (eU K 10 O) (kI 8 O) bU bU H,aU<|RF ((i/8)) O,aU λ_ B H K=>R.ldP (K 12 _ O) (B 1 _ O) (H1 (mG h) U1 bU) O O O H,xM O,aU λ_ _ H K=>XA (i) (8) (eU K 14 O) (kI 8 O) bU H,aU<|zW O,aU λ_ _ H K=>P1 (d:=.u8 (YO h[i/8]! (i%8))) (eU K 13 O) (eU K 16 O) O bV (g8 D.u8 (x25 _ _ bO)) H,aU<|UH O (kW (.int .u8 1) (.u8 1) O),aU<|zW O,aU λ_ _ H K=>Z7 (z:=1) (.cons (eU K 19 O) .nil) ⟨⟨O,O,O⟩,Zt⟩ O H dU,aU<|UI O (Y7 O) (show _=((LQ h (i+1)).map W3) from(by rw[z45,d5];rfl)) bU,aU<|zO O,Zt⟩ O (tU O ?_);refine m7 3 (y3 7 8 4) (V4 1 2 3 4) ⟨zV O,N2 1 O,zA O,Zt⟩ ?_;exact⟨bU,rfl⟩
 ·obtain rfl:i=256:=by omega
  refine W.exit (c6 3 (y2 22 23) (V2 2 23) ⟨zM O,λ_ _ H K=>o9 hC (JV (LQ h 256) (by rw[TD];decide)) (Bc (Bor.sc (SC.al (K 22 _ O) (K 3 _ O)) (X5 (λ_=>rfl))) Bn) (F1 (P5 _)) H,Zt⟩ O (B2 O (tW (V1 2) (M4 2 1) 24 O ?_)));exact W.ret (En O (by rw[q08]) (iL 217 4))
theorem NT(a:Bg)(ha:a.length=4):Fn Tryz.prog gl 155 [W9 a] (.int ((CW a:Nat):Int)):=by
 refine Fo 16 Tryz.func155 O λC hC hD=>?_;refine c6 2 [] (V1 0) Zt O (⟨O,_,R.box (gV 0 O) O O nU,⟨O,_,Z3 (kI 0 O) O nU,tW (V1 1) (B8 1) 16 O ?_⟩⟩);refine u7 1 (y1 3) (V2 1 3) ⟨r6 0 O,Zt⟩ ?_;refine W.seq (u7 1 (y1 4) (V3 1 3 4) ⟨r6 0 O,Zt⟩ ?_);refine W.block ?_;refine P6 256 (λi=>⟨16,[(1,.ptr 1 0 []),(3,.int ((j87 a i:Nat):Int)),(4,.int ((i:Nat):Int))],[(1,.var (W9 a))]⟩) O λi hi=>?_;have hnl:=k70 a i;refine W.seq (u7 2 (y2 5 6) (V4 1 3 4 6) ⟨zV O,UC 256 O,Zt⟩ ?_);refine c4 O (λhc6=>?_) (λhc6=>?_)
 ·refine W.skip (W.seq (W.block (u7 4 (y4 9 10 11 12) (V4 1 3 4 12) ⟨xL O,zV O,zD hC (ZY a i ha bO) O (F1 (.int _)),PJ 1 O,Zt⟩ ?_)));refine c4 O (λhc12=>?_) (λhc12=>?_)
  ·refine m7 3 (y3 13 14 3) (V3 1 3 4) ⟨zV O,N2 1 O,zA O,Zt⟩ ?_;refine m7 3 (y3 7 8 4) (V3 1 3 4) ⟨zV O,N2 1 O,zA O,Zt⟩ ?_;exact⟨bU,(by first|(rw[w23 hc12]<;>rfl)|(rw[w24 hc12]<;>rfl))⟩
  ·refine W.skip ?_;refine m7 3 (y3 7 8 4) (V3 1 3 4) ⟨zV O,N2 1 O,zA O,Zt⟩ ?_;exact⟨bU,(by first|(rw[w23 hc12]<;>rfl)|(rw[w24 hc12]<;>rfl))⟩
 ·obtain rfl:i=256:=by omega
  refine W.exit (u7 2 (y2 15 2) (V1 2) ⟨zV O,zA O,Zt⟩ ?_);exact W.ret (En O (by rw[CW]))
end
section
open Go.Proofs
theorem ZW(a b:Bg):EqV Tryz.prog 2 217 (W9 a) (W9 b) (a==b):=z87 a b
end
section
open Go.Proofs
theorem OR(a b:Bg)(ha:a.length=4)(hlb:b.length=4):Fn Tryz.prog gl 156 [W9 a,W9 b] (.bool (YR a b)):=by
 refine Fo 24 Tryz.func156 O λC hC hD=>?_;refine c6 3 [] (V2 0 1) Zt O (⟨O,_,R.box (gV 0 O) O O nU,⟨O,_,R.box (gV 1 O) O O nU,⟨O,_,Z3 (kB false O) O nU,tW (V2 2 3) (M4 3 2) 24 O ?_⟩⟩⟩);refine W.seq (u7 1 (y1 5) (V3 2 3 5) ⟨r6 255 O,Zt⟩ ?_);refine W.block ?_;refine ED 256 (λq__=>UT a b (256-q__)=UT a b 256) (λk=>⟨24,[(2,.ptr 2 0 []),(3,.ptr 3 0 []),(5,.int ((255:Int)-((k:Nat):Int)))],[(3,.var (W9 b)),(2,.var (W9 a))]⟩) ⟨g9 _,by rw[O7]⟩ O λk hinv=>?_;obtain⟨hk,hle⟩:=hinv;have hk:k<=256:=hk;have hle:UT a b (256-k)=UT a b 256:=hle;refine W.seq (u7 2 (y2 6 7) (V4 2 3 5 7) ⟨zV O,UH O (kI 0 O),Zt⟩ ?_);refine W.cond O (λhc7=>?_) (λhc7=>?_)
 ·refine W.skip (W.seq (W.block (W.seq ?_)));have h7:=c3 hc7;rw[show(255:Int)-((k:Nat):Int)=((255-k:Nat):Int) by omega];refine T5 7 [0,0,3,0,0,31,63] hP dU (y7 10 11 12 13 14 15 16) (V4 2 3 5 16) ⟨xL O,zV O,zD hC (ZY a (255-k) ha bO) O (F1 (.int _)),xL O,zV O,zD hC (ZY b (255-k) hlb bO) O (F1 (.int _)),v51 O,Zt⟩ O (tW (V4 2 3 5 16) (M4 3 2) 24 O ?_);refine c4 O (λhc16=>?_) (λhc16=>?_)
  ·refine W.seq ?_;refine T5 8 [0,0,3,0,0,31,63,127] hP dU (y8 17 18 19 20 21 22 23 4) (V1 4) ⟨xL O,zV O,zD hC (ZY a (255-k) ha bO) O (F1 (.int _)),xL O,zV O,zD hC (ZY b (255-k) hlb bO) O (F1 (.int _)),zS O,zA O,Zt⟩ O (tW (V1 4) (M4 3 2) 24 O ?_);exact W.ret (En O (by rw[YR,<- hle,show 256-k=255-k+1 by omega,x51 hc16]))
  ·refine W.skip ?_;refine m7 3 (y3 8 9 5) (V3 2 3 5) ⟨zV O,λ_ _ H K=>P1 (d:=.int ((255:Int)-((k+1:Nat):Int))) (eU K 8 O) (kI 1 O) O Zt (KH bO bO bO) H,zA O,Zt⟩ ?_;exact⟨⟨by omega,by rw[<- hle,show 256-k=255-k+1 by omega,x52 hc16,show 256-(k+1)=255-k by omega]⟩,rfl⟩
 ·have h7:=g7 hc7
  obtain rfl:k=256:=by omega
  refine W.exit (u7 1 (y1 4) (V1 4) ⟨QX O,Zt⟩ ?_);exact W.ret (En O (by rw[YR,<- hle,L3,UT]))
theorem q99(a:Bg)(n:UInt64)(ha:a.length=4):Fn Tryz.prog gl 165 [W9 a,.u64 n] (.tup [W9 (QT a n),.u64 (FW a n)]):=by
 refine Fo 66 Tryz.func165 O λC hC hD=>?_;refine c6 3 [] (V2 0 1) Zt O (⟨O,_,R.box (gV 0 O) O O nU,(M7 O ⟨O,_,Z3 (kW (.int .u64 0) (.u64 0) O) O nU,tW (V3 1 2 4) (M4 4 2) 66 O ?_⟩)⟩);refine M3 2 (y2 13 6) [(1,13)] [(1,13)] (V4 1 2 4 6) ⟨aU λ_ _ H _=>R.mk (n:=320) (kI 320 O) (kI 320 O) bU dU H,aU<|zO O,Zt⟩ O (tU O ?_);refine W.seq (u7 1 (y1 7) (V5 1 2 4 6 7) ⟨r6 0 O,Zt⟩ ?_);refine W.block ?_;refine P6 64 (λk=>⟨66,[(1,.u64 n),(2,.ptr 2 0 []),(4,.ptr 4 0 []),(6,.sl (some 3) 1 ((f8 a n k).map W3)),(7,.int ((k:Nat):Int))],[(4,.var (W9 X3)),(2,.var (W9 a))]⟩) (by rw[w74,zl];rfl) λk hk=>?_;have hml:=NV a n k;have hmb:=k73 a n k;refine W.seq (u7 2 (y2 14 15) (V6 1 2 4 6 7 15) ⟨zV O,UC 64 O,Zt⟩ ?_);refine c4 O (λhc15=>?_) (λhc15=>?_)
 ·refine W.skip (W.seq (W.block (W.seq (u7 6 (y6 18 19 20 21 22 23) (V6 1 2 4 6 7 23) ⟨zV O,zV O,zW O,λ_ _ H K=>P1 (d:=.u64 (E2 n k)) (eU K 18 O) (eU K 20 O) O bV (g8 D.u64 (k18 _ _ bO)) H,UH O (kW (.int .u64 1) (.u64 1) O),UH O (kW (.int .u64 0) (.u64 0) O),Zt⟩ ?_))));refine W.cond O (λhc23=>?_) (λhc23=>?_)
  ·refine W.exit ?_;refine m7 3 (y3 16 17 7) (V5 1 2 4 6 7) ⟨zV O,N2 1 O,zA O,Zt⟩ ?_;exact⟨bU,(by first|(rw[k72 (eq_of_beq hc23)]<;>rfl)|(rw[k71 (F7 hc23)]<;>rfl))⟩
  ·refine W.skip (u7 1 (y1 8) (V6 1 2 4 6 7 8) ⟨r6 0 O,Zt⟩ ?_);refine u7 2 (y2 24 9) (V7 1 2 4 6 7 8 9) ⟨zV O,zA O,Zt⟩ ?_;refine W.block ?_;refine P6 (320-k) (λj=>⟨66,[(1,.u64 n),(2,.ptr 2 0 []),(4,.ptr 4 0 []),(6,.sl (some 3) 1 ((T0 a k (f8 a n k) j).1.map W3)),(7,.int ((k:Nat):Int)),(8,.int (((T0 a k (f8 a n k) j).2:Nat):Int)),(9,.int (((k+j):Nat):Int))],[(4,.var (W9 X3)),(2,.var (W9 a))]⟩) (by rw[w73]<;>rfl) λj hj=>?_;have hjl:=FX a k (f8 a n k) j;have hjb:=FU a k _ hmb j;have hj1:=hjb.1.get (k+j);have hj2:=hjb.2;have hj3:=JK a j;have hj4:=w72 a k (f8 a n k) j;refine W.seq (u7 2 (y2 25 26) (V8 1 2 4 6 7 8 9 26) ⟨zV O,UC 320 O,Zt⟩ ?_);refine c4 O (λhc26=>?_) (λhc26=>?_)
   ·refine W.skip (W.seq (W.block (W.seq ?_)));refine T5 13 [0,0,3,7,0,0,0,96,240,511,0,2047,4095] hP dU (u98 29 30 31 32 33 34 35 36 37 38 39 40 10) (V7 1 2 4 6 7 9 10) ⟨zM O,zV O,HR ((k+j)) O,GS O (n8 (l:=(T0 a k (f8 a n k) j).1) bU),xL O,zV O,zV O,λ_ _ H K=>P1 (d:=.int ((j:Nat):Int)) (eU K 34 O) (eU K 35 O) O Zt (KH bO bO bO) H,zD hC (ZY a j ha bO) O (F1 (.int _)),zP O,zV O,zP O,zA O,Zt⟩ O (tW (V7 1 2 4 6 7 9 10) (M4 4 2) 66 O ?_);refine c6 6 (y5 41 42 43 44 45) (IZ 1 2 4 6 7 9 10 41 44 45) ⟨zM O,zV O,zV O,λ_ _ H K=>XA (((((T0 a k (f8 a n k) j).1)[(k+j)]!+C9 a j)+(T0 a k (f8 a n k) j).2)) (2) (eU K 43 O) (kI 2 O) bU H,HR ((k+j)) O,Zt⟩ O (⟨O,_,XK (gU 45 O) (Or.inr (gU 41 O)) (gU 6 O) (n8 (l:=(T0 a k (f8 a n k) j).1) bU) O (gV 44 O) (by rfl) (by rfl) (by rfl) (by rfl) E1 E3,tW (V7 1 2 4 6 7 9 10) (M4 4 2) 66 O ?_⟩);refine m7 3 (y3 46 47 8) (V7 1 2 4 6 7 8 9) ⟨zV O,λ_ _ H K=>XJ (((((T0 a k (f8 a n k) j).1)[(k+j)]!+C9 a j)+(T0 a k (f8 a n k) j).2)) (2) (eU K 46 O) (kI 2 O) bU bU H,zA O,Zt⟩ ?_;refine m7 3 (y3 27 28 9) (V7 1 2 4 6 7 8 9) ⟨zV O,N2 1 O,zA O,Zt⟩ ?_;exact⟨bU,(by rw[hj4]<;>rfl)⟩
   ·obtain rfl:j=320-k:=by omega
    refine W.exit ?_;refine m7 3 (y3 16 17 7) (V5 1 2 4 6 7) ⟨zV O,N2 1 O,zA O,Zt⟩ ?_;exact⟨bU,(by first|(rw[k72 (eq_of_beq hc23)]<;>rfl)|(rw[k71 (F7 hc23)]<;>rfl))⟩
 ·obtain rfl:k=64:=by omega
  refine W.exit (u7 1 (y1 11) (V3 4 6 11) ⟨WH (.u64 0) O,Zt⟩ ?_);refine W.seq (u7 1 (y1 12) (V4 4 6 11 12) ⟨r6 0 O,Zt⟩ ?_);refine W.block ?_;refine P6 64 (λk=>⟨66,[(4,.ptr 4 0 []),(6,.sl (some 3) 1 ((f8 a n 64).map W3)),(11,.u64 (k52 (f8 a n 64) k)),(12,.int ((k:Nat):Int))],[(4,.var (W9 X3)),(2,.var (W9 a))]⟩) O λk hk=>?_;have hml:=NV a n 64;refine W.seq (u7 2 (y2 48 49) (V5 4 6 11 12 49) ⟨zV O,UC 64 O,Zt⟩ ?_);refine c4 O (λhc49=>?_) (λhc49=>?_)
  ·refine W.skip (W.seq (W.block ?_));refine m7 12 (j89 52 53 54 55 56 57 58 59 60 61 62 11) (V4 4 6 11 12) ⟨zV O,zM O,zV O,λ_ _ H K=>RA (256) (k) (kI 256 O) (eU K 54 O) bU H,HR ((256+k)) O,GS O (mG (f8 a n 64)),zW O,zV O,zW O,λ_ _ H K=>P1 (d:=.u64 (QV (UInt64.ofInt (((f8 a n 64)[256+k]!:Nat):Int)) k)) (eU K 58 O) (eU K 60 O) O bV (g8 D.u64 (k20 _ _ bO)) H,zB O,zA O,Zt⟩ ?_;refine m7 3 (y3 50 51 12) (V4 4 6 11 12) ⟨zV O,N2 1 O,zA O,Zt⟩ ?_;exact⟨bU,rfl⟩
  ·obtain rfl:k=64:=by omega
   refine W.exit (c6 5 (y3 63 64 65) (V3 4 64 65) ⟨zM O,λ_ _ H K=>o9 hC (JV (f8 a n 64) (by rw[NV];decide)) (Bc (Bor.sc (SC.al (K 63 _ O) (K 6 _ O)) (X5 (λ_=>rfl))) Bn) (F1 (P5 _)) H,zV O,Zt⟩ O (B2 O (JP O (tW (V2 4 5) (M4 4 2) 66 O ?_))));exact W.ret (Ends.many (.inr O) (.cons O O O (iL 217 4) (.cons O O O Zt .nil)) (by rw[QT,FW]) (show[(4,false),(5,true)].Nodup by decide))
end
section
open Go.Proofs
theorem z04(a b:Bg)(ha:a.length=4)(hlb:b.length=4):Fn Tryz.prog gl 164 [W9 a,W9 b] (.tup [W9 (r8 a b),W9 (JZ a b),.int ((j42 b:Nat):Int)]):=by
 refine Fo 54 Tryz.func164 O λC hC hD=>?_;refine c6 5 [] (V2 0 1) Zt O (⟨O,_,R.box (gV 0 O) O O nU,⟨O,_,R.box (gV 1 O) O O nU,(M7 O (M7 O ⟨O,_,Z3 (kI 0 O) O nU,tW (V4 2 3 4 5) (CO 5 4 3 2) 54 O ?_⟩))⟩⟩);refine c6 2 [] (V4 2 3 4 5) Zt O (M7 O (M7 O (tW (V6 2 3 4 5 7 8) (WG 8 7 5 4 3 2) 54 O ?_)));refine W.seq (u7 3 (y3 12 13 14) (V7 2 3 4 5 7 8 14) ⟨xL O,λ_ _ H _=>R.bldAZ O H,λ_ _ H K=>R.eqD (neg:=false) (b':=(b==X3)) (ZW _ _) O (eU K 12 O) (eU K 13 O) O O O O (O) H,Zt⟩ ?_);refine W.cond O (λhc14=>?_) (λhc14=>?_)
 ·refine W.seq ?_;refine s6 (m:=3) (an:=[0,0,1,7,15]) (its:=[.y 15 _,.y 16 _,⟨56,.dead,true⟩]) (ks:=[(2,56)]) (kk:=[]) (efs:=[(2,(B8 4))]) (live:=[4,5,16]) (env':=(V3 4 5 16)) (nd:=40) (bx1:=(WG 4 8 7 5 3 2)) hP dU O ⟨⟨64,O⟩,nU O,O,O,O,O⟩ (        ⟨⟨O,nU O,O,λ_ τ hb ht hτ=>R.ldP (hτ 7 _ O) (hb 7 _ O) O O O O ht⟩,⟨⟨O,nU O,O,λ_ τ hb ht hτ=>R.ldP (hτ 8 _ O) (hb 8 _ O) O O O O ht⟩,⟨⟨O,O,O,(JW (p:=4) (id:=4) O O O (λτ hτ=>(evt (hτ 15 _ O))) (by rfl) (by rfl) (by rfl) (by rfl) O)⟩,Zt⟩⟩⟩) O O O (n':=54) O (B2 O ⟨O,_,Z3 (kI 1 O) O nU,⟨[4,5,6],(V3 4 5 6),(WG 4 8 7 5 3 2),54,O,O,O, ?_⟩⟩);exact W.ret (Ends.many (.inr O) (.cons O O O (iL 217 4) (.cons O O O (iL 217 4) (.cons O O O Zt .nil))) (by rw[(j39 (a:=a) hc14).1,(j39 (a:=a) hc14).2.1,(j39 (a:=a) hc14).2.2]<;>rfl) (show[(4,false),(5,false),(6,true)].Nodup by decide))
 ·refine W.skip (M3 2 (y2 17 9) [(1,17)] [(1,17)] (V6 2 3 4 5 8 9) ⟨aU λ_ _ H _=>R.mk (n:=256) (kI 256 O) (kI 256 O) bU dU H,aU<|zO O,Zt⟩ O (tU O ?_));refine W.seq (u7 1 (y1 10) (V7 2 3 4 5 8 9 10) ⟨r6 255 O,Zt⟩ ?_);refine W.block ?_;refine W.loop (α:={q__:Nat×List Nat×Bg//q__.1<=256/\e9 a b q__.1=(q__.2.1,q__.2.2)}) (λq__=>⟨54,[(2,.ptr 2 0 []),(3,.ptr 3 0 []),(4,.ptr 4 0 []),(5,.ptr 5 0 []),(8,.ptr 8 0 []),(9,.sl (some 3) 1 (q__.1.2.1.map W3)),(10,.int ((255:Int)-((q__.1.1:Nat):Int)))],[(8,.var (W9 q__.1.2.2)),(7,.var (W9 X3)),(5,.var (W9 X3)),(4,.var (W9 X3)),(3,.var (W9 b)),(2,.var (W9 a))]⟩) (λq__=>256-q__.1.1) ⟨(0,List.replicate 256 0,X3),⟨g9 _,u06 a b⟩⟩ (by rw[zl];rfl) ?_;rintro ⟨⟨k,q,r⟩,⟨hk,hq⟩⟩;show W _ _ _ _ ⟨54,[(2,.ptr 2 0 []),(3,.ptr 3 0 []),(4,.ptr 4 0 []),(5,.ptr 5 0 []),(8,.ptr 8 0 []),(9,.sl (some 3) 1 (q.map W3)),(10,.int ((255:Int)-((k:Nat):Int)))],[(8,.var (W9 r)),(7,.var (W9 X3)),(5,.var (W9 X3)),(4,.var (W9 X3)),(3,.var (W9 b)),(2,.var (W9 a))]⟩;have hk:k<=256:=hk;have hq:e9 a b k=(q,r):=hq;have hql:=(q90 hq).1;have hr:=(q90 hq).2;have hul:=PR hr 1;refine W.seq (u7 2 (y2 18 19) (V8 2 3 4 5 8 9 10 19) ⟨zV O,UH O (kI 0 O),Zt⟩ ?_);refine W.cond O (λhc19=>?_) (λhc19=>?_)
  ·refine W.skip (W.seq (W.block (u7 3 (y3 22 23 11) (V8 2 3 4 5 8 9 10 11) ⟨xL O,GT hC (ZY r 255 hr bO) O (kI 255 O) (F1 (.int _)),zA O,Zt⟩ ?_)));refine c6 3 (y2 24 25) (V9 2 3 4 5 8 9 10 11 25) ⟨xL O,GT hC (q32 r 1 hr dU) O (kI 1 O) (F1 (P5 _)),Zt⟩ O (B2 O (tW (V8 2 3 4 5 8 9 10 11) (WG 8 7 5 4 3 2) 54 O ?_));refine W.seq ?_;have h7:=c3 hc19;rw[show(255:Int)-((k:Nat):Int)=((255-k:Nat):Int) by omega];refine T5 8 [0,1,0,0,12,28,63,127,255] hP dU (y8 26 27 28 29 30 31 32 33) (IZ 2 3 4 5 8 9 10 11 32 33) ⟨λ_ _ H K=>R.idxP (0) (K 8 _ O) (C5 (kI 0 O)) O bU H,λ_ B H K=>R.ldP (K 26 _ O) (B 8 _ O) (H1 (mG (CE r 1)) U1 bU) O O O H,xL O,zV O,zD hC (ZY a (255-k) ha bO) O (F1 (.int _)),zW O,zB O,λ_ _ H K=>R.idxP (0) (K 8 _ O) (C5 (kI 0 O)) O bU H,Zt⟩ O (⟨O,_,XP (gU 33 O) (xU 8 O) (H1 (mG (CE r 1)) U1 bU) (gV 32 O) (by rfl) (by rfl) (by rfl) (by rfl) (XY (mG (CE r 1)) E1 E3),tW (V8 2 3 4 5 8 9 10 11) (WG 8 7 5 4 3 2) 54 O ?_⟩);refine W.seq ?_;by_cases h55:C9 r 255=1
   ·refine R0 8 [.y 34 _,.y 35 _,.y 36 _,.x 37,.x 38,.x 39,.x 40,.y 41 _] (V8 2 3 4 5 8 9 10 41) ⟨xM O,aU<|PJ 1 O,xM O,GR O (dT h55),GR O (dT h55),GR O (dT h55),GR O (dT h55),aU<|z89 O (dT h55) (kB true O),Zt⟩ ?_;refine Y8 O (O) ?_;refine c6 7 (y6 43 44 45 42 46 47) (V8 2 3 4 5 8 9 10 46) ⟨xL O,xL O,zD hC (q97 (WN a r (255-k)) b (PT hr _) hlb) O (FrsR.two (P5 _) (.bool _)),zY O,zX O,zX O,Zt⟩ O (B2 O (tW (V7 2 3 4 5 8 9 10) (WG 8 7 5 4 3 2) 54 O ?_));refine O3 4 (y3 48 49 50) (V9 2 3 4 5 8 9 10 48 50) ⟨zM O,zV O,HR ((255-k)) O,Zt⟩ O (⟨O,_,XK (gU 50 O) (Or.inr (gU 48 O)) (gU 9 O) (mG q) O (kI 1 O) (by rfl) (by rfl) (by rfl) (by rfl) E1 E3,tW (V7 2 3 4 5 8 9 10) (WG 8 7 5 4 3 2) 54 O ?_⟩);refine m7 3 (y3 20 21 10) (V7 2 3 4 5 8 9 10) ⟨zV O,λ_ _ H K=>P1 (d:=.int ((255:Int)-((k+1:Nat):Int))) (eU K 20 O) (kI 1 O) O Zt (KH bO bO bO) H,zA O,Zt⟩ ?_;exact⟨⟨(k+1,(e9 a b (k+1)).1,(e9 a b (k+1)).2),⟨by omega,(Prod.eta _).symm⟩⟩,(by first|(simp only[BE hq (.inl h55)];done)|(simp only[BE hq (.inr (by simpa using hc41))];done)|(simp only[q31 hq h55 (by simpa using hc41),W9,WN];done)),(by simp only[];omega)⟩
   ·refine R0 8 (y8 34 35 36 37 38 39 40 41) (V8 2 3 4 5 8 9 10 41) ⟨xM O,aU<|PJ 1 O,xM O,aN O (dF h55) (xL O),aN O (dF h55) (xL O),aN O (dF h55)<|zD hC (OR (WN a r (255-k)) b (PT hr _) hlb) O (F1 (.bool _)),aN O (dF h55)<|AC O,aU<|zF O (dF h55),Zt⟩ ?_;refine W.cond O (λhc41=>?_) (λhc41=>?_)
    ·refine c6 7 (y6 43 44 45 42 46 47) (V8 2 3 4 5 8 9 10 46) ⟨xL O,xL O,zD hC (q97 (WN a r (255-k)) b (PT hr _) hlb) O (FrsR.two (P5 _) (.bool _)),zY O,zX O,zX O,Zt⟩ O (B2 O (tW (V7 2 3 4 5 8 9 10) (WG 8 7 5 4 3 2) 54 O ?_));refine O3 4 (y3 48 49 50) (V9 2 3 4 5 8 9 10 48 50) ⟨zM O,zV O,HR ((255-k)) O,Zt⟩ O (⟨O,_,XK (gU 50 O) (Or.inr (gU 48 O)) (gU 9 O) (mG q) O (kI 1 O) (by rfl) (by rfl) (by rfl) (by rfl) E1 E3,tW (V7 2 3 4 5 8 9 10) (WG 8 7 5 4 3 2) 54 O ?_⟩);refine m7 3 (y3 20 21 10) (V7 2 3 4 5 8 9 10) ⟨zV O,λ_ _ H K=>P1 (d:=.int ((255:Int)-((k+1:Nat):Int))) (eU K 20 O) (kI 1 O) O Zt (KH bO bO bO) H,zA O,Zt⟩ ?_;exact⟨⟨(k+1,(e9 a b (k+1)).1,(e9 a b (k+1)).2),⟨by omega,(Prod.eta _).symm⟩⟩,(by first|(simp only[BE hq (.inl h55)];done)|(simp only[BE hq (.inr (by simpa using hc41))];done)|(simp only[q31 hq h55 (by simpa using hc41),W9,WN];done)),(by simp only[];omega)⟩
    ·refine W.skip ?_;refine m7 3 (y3 20 21 10) (V7 2 3 4 5 8 9 10) ⟨zV O,λ_ _ H K=>P1 (d:=.int ((255:Int)-((k+1:Nat):Int))) (eU K 20 O) (kI 1 O) O Zt (KH bO bO bO) H,zA O,Zt⟩ ?_;exact⟨⟨(k+1,(e9 a b (k+1)).1,(e9 a b (k+1)).2),⟨by omega,(Prod.eta _).symm⟩⟩,(by first|(simp only[BE hq (.inl h55)];done)|(simp only[BE hq (.inr (by simpa using hc41))];done)|(simp only[q31 hq h55 (by simpa using hc41),W9,WN];done)),(by simp only[];omega)⟩
  ·have h7:=g7 hc19
   obtain rfl:k=256:=by omega
   refine W.exit (W.seq ?_);refine s6 (m:=4) (an:=[0,1,0,3,15,31]) (its:=[.y 51 _,.y 52 _,.y 53 _,⟨57,.dead,true⟩]) (ks:=[(3,57)]) (kk:=[]) (efs:=[(3,(B8 4))]) (live:=[4,5,53]) (env':=(V3 4 5 53)) (nd:=40) (bx1:=(WG 4 8 7 5 3 2)) hP dU O ⟨⟨65,O⟩,nU O,O,O,O,O⟩ (          ⟨⟨O,nU O,O,λ_ τ hb ht hτ=>R.al (hτ 9 _ O) ht dU⟩,⟨⟨O,nU O,O,λ_ τ hb ht hτ=>o9 hC (JV q bO) (Bc (Bor.sc (SC.al (hτ 51 _ O) (hτ 9 _ O)) (X5 (λ_=>rfl))) Bn) (F1 (P5 _)) ht⟩,⟨⟨O,nU O,O,λ_ τ hb ht hτ=>R.ldP (hτ 8 _ O) (hb 8 _ O) O O O O ht⟩,⟨⟨O,O,O,(JW (p:=4) (id:=4) O O O (λτ hτ=>(evt (hτ 52 _ O))) (by rfl) (by rfl) (by rfl) (by rfl) O)⟩,Zt⟩⟩⟩⟩) O O O (n':=54) O (B2 O ⟨O,_,Z3 (kI 0 O) O nU,⟨[4,5,6],(V3 4 5 6),(WG 4 8 7 5 3 2),54,O,O,O, ?_⟩⟩);exact W.ret (Ends.many (.inr O) (.cons O O O (iL 217 4) (.cons O O O (iL 217 4) (.cons O O O Zt .nil))) (by rw[(j40 hc14 hq).1,(j40 hc14 hq).2.1,(j40 hc14 hq).2.2]<;>rfl) (show[(4,false),(5,false),(6,true)].Nodup by decide))
end
section
open Go.Proofs
theorem WO(bits:UInt32):Fn Tryz.prog gl 128 [.u32 bits] (.tup [W9 (AV bits),.bool (HI bits).isSome]):=by
 refine Fo 49 Tryz.func128 O λC hC hD=>?_;have hsz:=k19 bits;have hpl:(S2 bits).length=4:=rfl;have hnb:=k69 (S2 bits);refine c6 2 [] (V1 0) Zt O (M7 O ⟨O,_,Z3 (kB false O) O nU,tW (V2 0 2) (B8 2) 49 O ?_⟩);refine u7 4 (y4 7 8 9 4) (V3 0 2 4) ⟨zV O,λ_ _ H K=>P1 (d:=.u32 (K6 bits 24)) (eU K 7 O) (kW (.int .u64 24) (.u64 24) O) O bV (O) H,zW O,zA O,Zt⟩ ?_;refine c6 6 (y4 10 11 12 13) (V4 0 2 4 13) ⟨zV O,UH O (kW (.int .u32 8388607) (.u32 8388607) O),zW O,zC hC (u14 (bits&&&8388607).toUInt64) O (F1 (P5 _)),Zt⟩ O (M7 O (B2 O (tW (V4 0 2 4 5) (M4 5 2) 49 O ?_)));refine c6 1 [] (V4 0 2 4 5) Zt O (M7 O (tW (V5 0 2 4 5 6) (QB 6 5 2) 49 O ?_));refine W.seq (W.seq ?_);by_cases h3:(K6 bits 24).toNat<3
 ·refine m7 2 (y2 14 15) (V6 0 2 4 5 6 15) ⟨zV O,UC 3 O,Zt⟩ ?_;refine Y8 O (dT h3) ?_;refine O3 6 (y5 16 17 18 19 20) (V4 0 2 6 20) ⟨xL O,zV O,λ_ _ H K=>GG (3) ((K6 bits 24).toNat) (kI 3 O) (eU K 17 O) bU bU H,YK 8 O,zD hC (CX (S2 bits) (8*(3-(K6 bits 24).toNat)) O bO) O (F1 (P5 _)),Zt⟩ O (B2 O (tW (V3 0 2 6) (QB 6 5 2) 49 O ?_));refine W.seq (W.seq ?_);by_cases hz:(l8 (S2 bits) (8*(3-(K6 bits 24).toNat)))=X3
  ·refine R0 8 [.y 39 _,.y 40 _,.y 41 _,.y 42 _,.x 43,.x 44,.x 45,.y 46 _] (V3 2 6 46) ⟨aU (xL O),aU λ_ _ H _=>R.bldAZ O H,aU λ_ _ H K=>R.eqD (neg:=false) (b':=((l8 (S2 bits) (8*(3-(K6 bits 24).toNat)))==X3)) (ZW _ _) O (eU K 39 O) (eU K 40 O) O O O O (O) H,xM O,GR O (p7.2 hz),GR O (p7.2 hz),GR O (p7.2 hz),aU<|z89 O (p7.2 hz) (kB true O),Zt⟩ ?_;refine Y8 O (O) ?_;refine c6 3 (y1 47) (V2 2 47) ⟨λ_ _ H _=>R.bldAZ O H,Zt⟩ O (B2 O ⟨O,_,Z3 (kB false O) O nU,tW (V2 2 3) (QB 6 5 2) 49 O ?_⟩);exact W.ret (Ends.many (.inr O) (.cons O O O (iL 217 4) (.cons O O O Zt .nil)) (by rw[HH (FK (ZB (.inl h3)) (q49 h3) hz),FK (ZB (.inl h3)) (q49 h3) hz]<;>rfl) (show[(2,false),(3,true)].Nodup by decide))
  ·refine R0 8 (y8 39 40 41 42 43 44 45 46) (V3 2 6 46) ⟨aU (xL O),aU λ_ _ H _=>R.bldAZ O H,aU λ_ _ H K=>R.eqD (neg:=false) (b':=((l8 (S2 bits) (8*(3-(K6 bits 24).toNat)))==X3)) (ZW _ _) O (eU K 39 O) (eU K 40 O) O O O O (O) H,xM O,aN O (v4.2 hz)<|zV O,aN O (v4.2 hz)<|UH O (kW (.int .u32 8388608) (.u32 8388608) O),aN O (v4.2 hz)<|UH O (kW (.int .u32 0) (.u32 0) O),aU<|zF O (v4.2 hz),Zt⟩ ?_;refine W.cond O (λhc46=>?_) (λhc46=>?_)
   ·refine c6 3 (y1 47) (V2 2 47) ⟨λ_ _ H _=>R.bldAZ O H,Zt⟩ O (B2 O ⟨O,_,Z3 (kB false O) O nU,tW (V2 2 3) (QB 6 5 2) 49 O ?_⟩);exact W.ret (Ends.many (.inr O) (.cons O O O (iL 217 4) (.cons O O O Zt .nil)) (by rw[HH (FZ (ZB (.inl h3)) hc46),FZ (ZB (.inl h3)) hc46]<;>rfl) (show[(2,false),(3,true)].Nodup by decide))
   ·refine W.skip (c6 3 (y1 48) (V2 2 48) ⟨xL O,Zt⟩ O (B2 O ⟨O,_,Z3 (kB true O) O nU,tW (V2 2 3) (QB 6 5 2) 49 O ?_⟩));exact W.ret (Ends.many (.inr O) (.cons O O O (iL 217 4) (.cons O O O Zt .nil)) (by rw[LZ (FQ (ZB (.inl h3)) (q49 h3) hz hc46),FQ (ZB (.inl h3)) (q49 h3) hz hc46]<;>rfl) (show[(2,false),(3,true)].Nodup by decide))
 ·refine m7 2 (y2 14 15) (V6 0 2 4 5 6 15) ⟨zV O,UC 3 O,Zt⟩ ?_;refine Y3 O (dF h3) ?_;refine c6 6 (y5 21 22 23 24 25) (V6 0 2 4 5 6 25) ⟨xL O,zV O,AB 3 O,YK 8 O,zD hC (q32 (S2 bits) (8*((K6 bits 24).toNat-3)) O bO) O (F1 (P5 _)),Zt⟩ O (B2 O (tW (V5 0 2 4 5 6) (QB 6 5 2) 49 O ?_));refine W.seq ?_;by_cases hb7:256<CW (S2 bits)+8*((K6 bits 24).toNat-3)
  ·refine R0 12 (j89 26 27 28 29 30 31 32 33 34 35 36 37) (V4 0 2 6 37) ⟨aU (xL O),aU<|zC hC (NT (S2 bits) O) O (F1 (.int _)),xM O,aU<|AB 3 O,aU<|YK 8 O,aU<|zP O,aU<|z23 256 O,xM O,aT O (dT hb7) (xL O),aT O (dT hb7) λ_ _ H _=>R.bldAZ O H,aT O (dT hb7) λ_ _ H K=>R.eqD (neg:=true) (b':=((S2 bits) != X3)) (ZW _ _) O (eU K 34 O) (eU K 35 O) O O O O (O) H,aU<|zT O (dT hb7),Zt⟩ ?_;refine W.cond O (λhc37=>?_) (λhc37=>?_)
   ·refine c6 3 (y1 38) (V2 2 38) ⟨λ_ _ H _=>R.bldAZ O H,Zt⟩ O (B2 O ⟨O,_,Z3 (kB false O) O nU,tW (V2 2 3) (QB 6 5 2) 49 O ?_⟩);exact W.ret (Ends.many (.inr O) (.cons O O O (iL 217 4) (.cons O O O Zt .nil)) (by rw[HH (k56 h3 hb7 hc37),k56 h3 hb7 hc37]<;>rfl) (show[(2,false),(3,true)].Nodup by decide))
   ·refine W.skip (W.seq (W.seq ?_));by_cases hz:(CE (S2 bits) (8*((K6 bits 24).toNat-3)))=X3
    ·refine R0 8 [.y 39 _,.y 40 _,.y 41 _,.y 42 _,.x 43,.x 44,.x 45,.y 46 _] (V3 2 6 46) ⟨aU (xL O),aU λ_ _ H _=>R.bldAZ O H,aU λ_ _ H K=>R.eqD (neg:=false) (b':=((CE (S2 bits) (8*((K6 bits 24).toNat-3)))==X3)) (ZW _ _) O (eU K 39 O) (eU K 40 O) O O O O (O) H,xM O,GR O (p7.2 hz),GR O (p7.2 hz),GR O (p7.2 hz),aU<|z89 O (p7.2 hz) (kB true O),Zt⟩ ?_;refine Y8 O (O) ?_;refine c6 3 (y1 47) (V2 2 47) ⟨λ_ _ H _=>R.bldAZ O H,Zt⟩ O (B2 O ⟨O,_,Z3 (kB false O) O nU,tW (V2 2 3) (QB 6 5 2) 49 O ?_⟩);exact W.ret (Ends.many (.inr O) (.cons O O O (iL 217 4) (.cons O O O Zt .nil)) (by rw[HH (FK (ZB (.inr (.inr hc37))) (PX h3) hz),FK (ZB (.inr (.inr hc37))) (PX h3) hz]<;>rfl) (show[(2,false),(3,true)].Nodup by decide))
    ·refine R0 8 (y8 39 40 41 42 43 44 45 46) (V3 2 6 46) ⟨aU (xL O),aU λ_ _ H _=>R.bldAZ O H,aU λ_ _ H K=>R.eqD (neg:=false) (b':=((CE (S2 bits) (8*((K6 bits 24).toNat-3)))==X3)) (ZW _ _) O (eU K 39 O) (eU K 40 O) O O O O (O) H,xM O,aN O (v4.2 hz)<|zV O,aN O (v4.2 hz)<|UH O (kW (.int .u32 8388608) (.u32 8388608) O),aN O (v4.2 hz)<|UH O (kW (.int .u32 0) (.u32 0) O),aU<|zF O (v4.2 hz),Zt⟩ ?_;refine W.cond O (λhc46=>?_) (λhc46=>?_)
     ·refine c6 3 (y1 47) (V2 2 47) ⟨λ_ _ H _=>R.bldAZ O H,Zt⟩ O (B2 O ⟨O,_,Z3 (kB false O) O nU,tW (V2 2 3) (QB 6 5 2) 49 O ?_⟩);exact W.ret (Ends.many (.inr O) (.cons O O O (iL 217 4) (.cons O O O Zt .nil)) (by rw[HH (FZ (ZB (.inr (.inr hc37))) hc46),FZ (ZB (.inr (.inr hc37))) hc46]<;>rfl) (show[(2,false),(3,true)].Nodup by decide))
     ·refine W.skip (c6 3 (y1 48) (V2 2 48) ⟨xL O,Zt⟩ O (B2 O ⟨O,_,Z3 (kB true O) O nU,tW (V2 2 3) (QB 6 5 2) 49 O ?_⟩));exact W.ret (Ends.many (.inr O) (.cons O O O (iL 217 4) (.cons O O O Zt .nil)) (by rw[LZ (FQ (ZB (.inr (.inr hc37))) (PX h3) hz hc46),FQ (ZB (.inr (.inr hc37))) (PX h3) hz hc46]<;>rfl) (show[(2,false),(3,true)].Nodup by decide))
  ·refine R0 12 [.y 26 _,.y 27 _,.y 28 _,.y 29 _,.y 30 _,.y 31 _,.y 32 _,.y 33 _,.x 34,.x 35,.x 36,.y 37 _] (V4 0 2 6 37) ⟨aU (xL O),aU<|zC hC (NT (S2 bits) O) O (F1 (.int _)),xM O,aU<|AB 3 O,aU<|YK 8 O,aU<|zP O,aU<|z23 256 O,xM O,L0 O (dF hb7),L0 O (dF hb7),L0 O (dF hb7),aU<|RI O (dF hb7) (kB false O),Zt⟩ ?_;refine Y3 O (O) ?_;refine W.skip (W.seq (W.seq ?_));by_cases hz:(CE (S2 bits) (8*((K6 bits 24).toNat-3)))=X3
   ·refine R0 8 [.y 39 _,.y 40 _,.y 41 _,.y 42 _,.x 43,.x 44,.x 45,.y 46 _] (V3 2 6 46) ⟨aU (xL O),aU λ_ _ H _=>R.bldAZ O H,aU λ_ _ H K=>R.eqD (neg:=false) (b':=((CE (S2 bits) (8*((K6 bits 24).toNat-3)))==X3)) (ZW _ _) O (eU K 39 O) (eU K 40 O) O O O O (O) H,xM O,GR O (p7.2 hz),GR O (p7.2 hz),GR O (p7.2 hz),aU<|z89 O (p7.2 hz) (kB true O),Zt⟩ ?_;refine Y8 O (O) ?_;refine c6 3 (y1 47) (V2 2 47) ⟨λ_ _ H _=>R.bldAZ O H,Zt⟩ O (B2 O ⟨O,_,Z3 (kB false O) O nU,tW (V2 2 3) (QB 6 5 2) 49 O ?_⟩);exact W.ret (Ends.many (.inr O) (.cons O O O (iL 217 4) (.cons O O O Zt .nil)) (by rw[HH (FK (ZB (.inr (.inl hb7))) (PX h3) hz),FK (ZB (.inr (.inl hb7))) (PX h3) hz]<;>rfl) (show[(2,false),(3,true)].Nodup by decide))
   ·refine R0 8 (y8 39 40 41 42 43 44 45 46) (V3 2 6 46) ⟨aU (xL O),aU λ_ _ H _=>R.bldAZ O H,aU λ_ _ H K=>R.eqD (neg:=false) (b':=((CE (S2 bits) (8*((K6 bits 24).toNat-3)))==X3)) (ZW _ _) O (eU K 39 O) (eU K 40 O) O O O O (O) H,xM O,aN O (v4.2 hz)<|zV O,aN O (v4.2 hz)<|UH O (kW (.int .u32 8388608) (.u32 8388608) O),aN O (v4.2 hz)<|UH O (kW (.int .u32 0) (.u32 0) O),aU<|zF O (v4.2 hz),Zt⟩ ?_;refine W.cond O (λhc46=>?_) (λhc46=>?_)
    ·refine c6 3 (y1 47) (V2 2 47) ⟨λ_ _ H _=>R.bldAZ O H,Zt⟩ O (B2 O ⟨O,_,Z3 (kB false O) O nU,tW (V2 2 3) (QB 6 5 2) 49 O ?_⟩);exact W.ret (Ends.many (.inr O) (.cons O O O (iL 217 4) (.cons O O O Zt .nil)) (by rw[HH (FZ (ZB (.inr (.inl hb7))) hc46),FZ (ZB (.inr (.inl hb7))) hc46]<;>rfl) (show[(2,false),(3,true)].Nodup by decide))
    ·refine W.skip (c6 3 (y1 48) (V2 2 48) ⟨xL O,Zt⟩ O (B2 O ⟨O,_,Z3 (kB true O) O nU,tW (V2 2 3) (QB 6 5 2) 49 O ?_⟩));exact W.ret (Ends.many (.inr O) (.cons O O O (iL 217 4) (.cons O O O Zt .nil)) (by rw[LZ (FQ (ZB (.inr (.inl hb7))) (PX h3) hz hc46),FQ (ZB (.inr (.inl hb7))) (PX h3) hz hc46]<;>rfl) (show[(2,false),(3,true)].Nodup by decide))
theorem NJ(t:Bg)(htl:t.length=4):Fn Tryz.prog gl 151 [W9 t] (.u32 (GQ t)):=by
 refine Fo 38 Tryz.func151 O λC hC hD=>?_;have hnb:=k69 t;refine c6 2 [] (V1 0) Zt O (⟨O,_,R.box (gV 0 O) O O nU,⟨O,_,Z3 (kW (.int .u32 0) (.u32 0) O) O nU,tW (V1 1) (B8 1) 38 O ?_⟩⟩);refine W.seq (u7 3 (y3 5 6 7) (V2 1 7) ⟨xL O,λ_ _ H _=>R.bldAZ O H,λ_ _ H K=>R.eqD (neg:=false) (b':=(t==X3)) (ZW _ _) O (eU K 5 O) (eU K 6 O) O O O O (O) H,Zt⟩ ?_);refine W.cond O (λhc7=>?_) (λhc7=>?_)
 ·refine u7 1 (y1 2) (V1 2) ⟨WH (.u32 0) O,Zt⟩ ?_;exact W.ret (En O (by rw[u07 hc7]))
 ·refine W.skip (u7 5 (y5 8 9 10 11 3) (V2 1 3) ⟨xL O,zC hC (NT t htl) O (F1 (.int _)),N2 7 O,λ_ _ H K=>XJ ((CW t+7)) (8) (eU K 10 O) (kI 8 O) bU bU H,zA O,Zt⟩ ?_);refine c6 1 [] (V2 1 3) Zt O (M7 O (tW (V3 1 3 4) (M4 4 1) 38 O ?_));refine W.seq (W.seq ?_);by_cases h3:(CW t+7)/8<3
  ·refine m7 2 (y2 12 13) (V4 1 3 4 13) ⟨zV O,UC 3 O,Zt⟩ ?_;refine Y8 O (dT h3) ?_;refine O3 6 (y5 14 15 16 17 18) (V3 3 4 18) ⟨xL O,zV O,λ_ _ H K=>GG (3) (((CW t+7)/8)) (kI 3 O) (eU K 15 O) bU bU H,YK 8 O,zD hC (q32 t (8*(3-(CW t+7)/8)) htl bO) O (F1 (P5 _)),Zt⟩ O (B2 O (tW (V2 3 4) (M4 4 1) 38 O ?_));refine W.seq (W.seq ?_);have hxl:(CE t (8*(3-(CW t+7)/8))).length=4:=PR htl _;refine m7 3 (y3 24 25 26) (V3 3 4 26) ⟨λ_ _ H K=>R.idxP (0) (K 4 _ O) (C5 (kI 0 O)) O bU H,λ_ B H K=>R.ldP (K 24 _ O) (B 4 _ O) (H1 (n8 (l:=(CE t (8*(3-(CW t+7)/8)))) bU) U1 bU) O O O H,UH O (kW (.int .u64 8388608) (.u64 8388608) O),Zt⟩ ?_;refine W.cond O (λhc26=>?_) (λhc26=>?_)
   ·refine c6 3 (y2 27 28) (V3 3 4 28) ⟨xL O,GT hC (CX (CE t (8*(3-(CW t+7)/8))) 8 hxl dU) O (kI 8 O) (F1 (P5 _)),Zt⟩ O (B2 O (tW (V2 3 4) (M4 4 1) 38 O ?_));refine m7 3 (y3 29 30 3) (V2 3 4) ⟨zV O,N2 1 O,zA O,Zt⟩ ?_;refine W.seq ?_;have hyl:=JD hxl 8;refine m7 8 (y8 31 32 33 34 35 36 37 2) (V1 2) ⟨zV O,zW O,λ_ _ H K=>R.bin (eU K 32 O) (kW (.int .u64 24) (.u64 24) O) O bV H,λ_ _ H K=>R.idxP (0) (K 4 _ O) (C5 (kI 0 O)) O bU H,λ_ B H K=>R.ldP (K 34 _ O) (B 4 _ O) (H1 (n8 (l:=(l8 (CE t (8*(3-(CW t+7)/8))) 8)) bU) U1 bU) O O O H,zW O,zB O,zA O,Zt⟩ ?_;exact W.ret (En O (by rw[j44 hc7 (q91 h3) (c3 hc26)]<;>rfl))
   ·refine W.skip (W.seq ?_);have hyl:=JD hxl 8;refine m7 8 (y8 31 32 33 34 35 36 37 2) (V1 2) ⟨zV O,zW O,λ_ _ H K=>R.bin (eU K 32 O) (kW (.int .u64 24) (.u64 24) O) O bV H,λ_ _ H K=>R.idxP (0) (K 4 _ O) (C5 (kI 0 O)) O bU H,λ_ B H K=>R.ldP (K 34 _ O) (B 4 _ O) (H1 (n8 (l:=(CE t (8*(3-(CW t+7)/8)))) bU) U1 bU) O O O H,zW O,zB O,zA O,Zt⟩ ?_;exact W.ret (En O (by rw[j47 hc7 (q91 h3) (g7 hc26)]<;>rfl))
  ·refine m7 2 (y2 12 13) (V4 1 3 4 13) ⟨zV O,UC 3 O,Zt⟩ ?_;refine Y3 O (dF h3) ?_;refine O3 6 (y5 19 20 21 22 23) (V3 3 4 23) ⟨xL O,zV O,AB 3 O,YK 8 O,zD hC (CX t (8*((CW t+7)/8-3)) htl bO) O (F1 (P5 _)),Zt⟩ O (B2 O (tW (V2 3 4) (M4 4 1) 38 O ?_));refine W.seq (W.seq ?_);have hxl:(l8 t (8*((CW t+7)/8-3))).length=4:=JD htl _;refine m7 3 (y3 24 25 26) (V3 3 4 26) ⟨λ_ _ H K=>R.idxP (0) (K 4 _ O) (C5 (kI 0 O)) O bU H,λ_ B H K=>R.ldP (K 24 _ O) (B 4 _ O) (H1 (n8 (l:=(l8 t (8*((CW t+7)/8-3)))) bU) U1 bU) O O O H,UH O (kW (.int .u64 8388608) (.u64 8388608) O),Zt⟩ ?_;refine W.cond O (λhc26=>?_) (λhc26=>?_)
   ·refine c6 3 (y2 27 28) (V3 3 4 28) ⟨xL O,GT hC (CX (l8 t (8*((CW t+7)/8-3))) 8 hxl dU) O (kI 8 O) (F1 (P5 _)),Zt⟩ O (B2 O (tW (V2 3 4) (M4 4 1) 38 O ?_));refine m7 3 (y3 29 30 3) (V2 3 4) ⟨zV O,N2 1 O,zA O,Zt⟩ ?_;refine W.seq ?_;have hyl:=JD hxl 8;refine m7 8 (y8 31 32 33 34 35 36 37 2) (V1 2) ⟨zV O,zW O,λ_ _ H K=>R.bin (eU K 32 O) (kW (.int .u64 24) (.u64 24) O) O bV H,λ_ _ H K=>R.idxP (0) (K 4 _ O) (C5 (kI 0 O)) O bU H,λ_ B H K=>R.ldP (K 34 _ O) (B 4 _ O) (H1 (n8 (l:=(l8 (l8 t (8*((CW t+7)/8-3))) 8)) bU) U1 bU) O O O H,zW O,zB O,zA O,Zt⟩ ?_;exact W.ret (En O (by rw[j44 hc7 (q92 h3) (c3 hc26)]<;>rfl))
   ·refine W.skip (W.seq ?_);have hyl:=JD hxl 8;refine m7 8 (y8 31 32 33 34 35 36 37 2) (V1 2) ⟨zV O,zW O,λ_ _ H K=>R.bin (eU K 32 O) (kW (.int .u64 24) (.u64 24) O) O bV H,λ_ _ H K=>R.idxP (0) (K 4 _ O) (C5 (kI 0 O)) O bU H,λ_ B H K=>R.ldP (K 34 _ O) (B 4 _ O) (H1 (n8 (l:=(l8 t (8*((CW t+7)/8-3)))) bU) U1 bU) O O O H,zW O,zB O,zA O,Zt⟩ ?_;exact W.ret (En O (by rw[j47 hc7 (q92 h3) (g7 hc26)]<;>rfl))
theorem k06(h:Hs)(t:Bg)(hh:h.length=32)(htl:t.length=4):Fn Tryz.prog gl 129 [j4 h,W9 t] (.bool (DC h t)):=by
 refine Fo 15 Tryz.func129 O λC hC hD=>?_;refine c6 3 [] (V2 0 1) Zt O (⟨O,_,R.box (gV 0 O) O O nU,⟨O,_,R.box (gV 1 O) O O nU,⟨O,_,Z3 (kB false O) O nU,tW (V2 2 3) (M4 3 2) 15 O ?_⟩⟩⟩);refine W.seq ?_;by_cases hz:t=X3
 ·refine KL 11 [0,0,3,7,15,15,47,127,255,511,1023] hP dU [.y 5 _,.y 6 _,.y 7 _,.y 8 _,.x 9,.x 10,.x 11,.x 12,.x 13,.y 14 _,.y 4 _] [] [] (V1 4) ⟨aU (xL O),aU λ_ _ H _=>R.bldAZ O H,aU λ_ _ H K=>R.eqD (neg:=true) (b':=(t != X3)) (ZW _ _) O (eU K 5 O) (eU K 6 O) O O O O (O) H,xM O,L0 O (by rw[hz];rfl),L0 O (by rw[hz];rfl),L0 O (by rw[hz];rfl),L0 O (by rw[hz];rfl),L0 O (by rw[hz];rfl),aU<|RI O (by rw[hz];rfl) (kB false O),aU<|zA O,Zt⟩ O (tW (V1 4) (M4 3 2) 15 O ?_);exact W.ret (En O (by rw[w77 hz]))
 ·refine KL 11 [0,0,3,7,15,15,47,127,255,511,1023] hP dU (v41 5 6 7 8 9 10 11 12 13 14 4) [] [] (V1 4) ⟨aU (xL O),aU λ_ _ H _=>R.bldAZ O H,aU λ_ _ H K=>R.eqD (neg:=true) (b':=(t != X3)) (ZW _ _) O (eU K 5 O) (eU K 6 O) O O O O (O) H,xM O,aT O (G9.2 hz) (xL O),aT O (G9.2 hz) (xL O),aT O (G9.2 hz)<|zC hC (x88 h hh) O (F1 (P5 _)),aT O (G9.2 hz)<|zD hC (OR t (q08 h) htl (k59 h)) O (F1 (.bool _)),aT O (G9.2 hz)<|AC O,aU<|zT O (G9.2 hz),aU<|zA O,Zt⟩ O (tW (V1 4) (M4 3 2) 15 O ?_);exact W.ret (En O (by rw[w76 hz]))
end
structure HdS where
 ver:UInt32
 prev:Hs
 root:Hs
 time:UInt32
 bits:UInt32
 nonce:UInt32
 deriving DecidableEq,Inhabited
def C7(h:HdS):D:=.agg [.u32 h.ver,j4 h.prev,j4 h.root,.u32 h.time,.u32 h.bits,.u32 h.nonce]
def HdS.wf(h:HdS):Prop:=h.prev.length=32/\h.root.length=32
def zeroH:HdS:=⟨0,zero32,zero32,0,0,0⟩
def byt(v:UInt32)(i:Nat):UInt8:=(K6 v (8*i)).toUInt8
def UV(v:UInt32):List UInt8:=[byt v 0,byt v 1,byt v 2,byt v 3]
def HQ(h:HdS):List UInt8:=UV h.ver++h.prev++h.root++UV h.time++UV h.bits++UV h.nonce
def JN(b:List UInt8)(at_:Nat)(v:UInt32):Nat->List UInt8
 | 0=>b
 | i+1=>(JN b at_ v i).set (at_+i) (byt v i)
theorem QW(b:List UInt8)(at_:Nat)(v:UInt32)(i:Nat):(JN b at_ v i).length=b.length:=by
 induction i with
 | zero=>rfl
 | succ i ih=>simp[JN,ih]
def w37:List UInt8:=List.replicate 80 0
def z35(h:HdS):List UInt8:=JN w37 0 h.ver 4
def q05(h:HdS):List UInt8:=JN (z35 h) 68 h.time 4
def IR(h:HdS):List UInt8:=JN (q05 h) 72 h.bits 4
def q04(h:HdS):List UInt8:=JN (IR h) 76 h.nonce 4
def CS(h:HdS):List UInt8:=(q04 h).take 4++h.prev++(q04 h).drop 36
def k43(h:HdS):List UInt8:=(CS h).take 36++h.root++(CS h).drop 68
theorem SW(h:HdS):(z35 h).length=80:=QW _ _ _ _
theorem SV(h:HdS):(q05 h).length=80:=(QW _ _ _ _).trans (SW h)
theorem NB(h:HdS):(IR h).length=80:=(QW _ _ _ _).trans (SV h)
theorem ST(h:HdS):(q04 h).length=80:=(QW _ _ _ _).trans (NB h)
theorem k45(h:HdS)(hw:h.wf):(CS h).length=80:=by simp[CS,ST,hw.1]
theorem FC(h:HdS)(hw:h.wf):(HQ h).length=80:=by simp[HQ,UV,hw.1,hw.2]
theorem x27(v:UInt32)(p r:List UInt8)(a b c d:UInt8)(at_:Nat)(hp:p.length=at_):JN (p++([a,b,c,d]++r)) at_ v 4=p++(UV v++r):=by
 subst hp;simp only[JN,J8];rw[T8,w3 (by omega),L3];simp only[E0,s4];rw[T8,w3 (by omega),show p.length+1-p.length=1 by omega];simp only[List.set_cons_succ,s4];rw[T8,w3 (by omega),show p.length+2-p.length=2 by omega];simp only[List.set_cons_succ,s4];rw[T8,w3 (by omega),show p.length+3-p.length=3 by omega];rfl
theorem w63(h:HdS)(hw:h.wf):k43 h=HQ h:=by
 have e1:z35 h=UV h.ver++List.replicate 76 0:=x27 h.ver [] (List.replicate 76 0) 0 0 0 0 0 rfl
 have e2:q05 h=(UV h.ver++List.replicate 64 0)++(UV h.time++List.replicate 8 0):=by
  unfold q05;rw[e1,show(List.replicate 76 (0:UInt8))=List.replicate 64 0++([0,0,0,0]++List.replicate 8 0) from rfl,<- u5];exact x27 h.time _ _ 0 0 0 0 68 rfl
 have e3:IR h=(UV h.ver++List.replicate 64 0++UV h.time)++(UV h.bits++List.replicate 4 0):=by
  unfold IR;rw[e2,show(List.replicate 8 (0:UInt8))=[0,0,0,0]++List.replicate 4 0 from rfl,<- u5];exact x27 h.bits _ _ 0 0 0 0 72 rfl
 have e4:q04 h=UV h.ver++(List.replicate 64 0++(UV h.time++(UV h.bits++UV h.nonce))):=by
  unfold q04;have:=x27 h.nonce ((UV h.ver++List.replicate 64 0++UV h.time)++UV h.bits) [] 0 0 0 0 76 rfl;rw[e3,show(List.replicate 4 (0:UInt8))=[0,0,0,0]++[] from rfl,<- u5];rw[this];simp only[u5,m6]
 have e5:CS h=UV h.ver++(h.prev++(List.replicate 32 0++(UV h.time++(UV h.bits++UV h.nonce)))):=by
  unfold CS;rw[e4];rw[List.take_left' (show(UV h.ver).length=4 from rfl)];rw[show(36:Nat)=(UV h.ver).length+32 from rfl,<- B4,P2 rfl,show(List.replicate 64 (0:UInt8))=List.replicate 32 0++List.replicate 32 0 from rfl,u5 (List.replicate 32 (0:UInt8)),P2 (show(List.replicate 32 (0:UInt8)).length=32 from rfl),u5]
 unfold k43;rw[e5]
 have h36:(UV h.ver++h.prev).length=36:=by simp[UV,hw.1]
 rw[<- u5 (UV h.ver),List.take_left' h36,show(68:Nat)=36+32 from rfl,<- B4,P2 h36,P2 (show(List.replicate 32 (0:UInt8)).length=32 from rfl)];simp only[HQ,u5]
theorem k44(h:HdS)(hw:h.wf):((q04 h).map D.u8).take 4++(((h.prev.map D.u8).drop 0).take 32).take 32++((q04 h).map D.u8).drop (4+32)=(CS h).map D.u8:=by
 have h1:(h.prev.map D.u8).take 32=h.prev.map D.u8:=m4 (by simp[hw.1]);simp only[K5,X6,Nat.min_self,h1,CS,d5,U8,S8]
theorem k42(h:HdS)(hw:h.wf):((CS h).map D.u8).take 36++(((h.root.map D.u8).drop 0).take 32).take 32++((CS h).map D.u8).drop (36+32)=(k43 h).map D.u8:=by
 have h1:(h.root.map D.u8).take 32=h.root.map D.u8:=m4 (by simp[hw.2]);simp only[K5,X6,Nat.min_self,h1,k43,d5,U8,S8]
theorem LT(h:HdS):Frs (C7 h):=by
 refine .agg _ λx hx=>?_;simp only[w5,M2,QR] at hx
 rcases hx with rfl|rfl|rfl|rfl|rfl|rfl
 ·exact .u32 _
 ·exact G3 _
 ·exact G3 _
 ·exact .u32 _
 ·exact .u32 _
 ·exact .u32 _
theorem CZ(h:HdS):(C7 h).brw=C7 h:=by
 simp only[C7,D.brw,QC,QQ]
def LP(h:HdS):Hs:=CF (HQ h)
def allW(l:List HdS):Prop:=∀ h∈l,h.wf
theorem allW.get{l:List HdS}(h:allW l){i:Nat}(hi:i<l.length):l[i]!.wf:=by
 rw[Z1 l i hi];exact h _ (g6 hi)
theorem w87(v:UInt32):[D.u8 v.toUInt8,.u8 (K6 v 8).toUInt8,.u8 (K6 v 16).toUInt8,.u8 (K6 v 24).toUInt8]=(UV v).map D.u8:=by
 have:K6 v 0=v:=by unfold K6;simp
 simp only[UV,byt,b9,K0,Nat.mul_zero,this]
theorem VV(a b:List UInt8)(n:Nat)(h:b.length=n):a.map D.u8++((b.map D.u8).drop 0).take n=(a++b).map D.u8:=by
 rw[K5,m4 (by simp[h]),d5]
def DF(h:HdS):Hs:=CI (HQ h)
section
open Go.Proofs
theorem MM(v:UInt32):Fn Tryz.prog gl 159 [.u32 v] (.sl (some 5) 1 ((UV v).map D.u8)):=by
 refine Fo 15 Tryz.func159 O λC hC hD=>?_;refine u7 1 (y1 2) (V1 0) ⟨QX O,Zt⟩ ?_;refine M3 13 (u98 3 4 5 6 7 8 9 10 11 12 13 14 2) [(12,14)] [(12,14)] (V1 2) ⟨xM O,aU<|zW O,xM O,aU λ_ _ H K=>R.bin (eU K 5 O) (kW (.int .u64 8) (.u64 8) O) O bV H,aU<|zW O,xM O,aU λ_ _ H K=>R.bin (eU K 8 O) (kW (.int .u64 16) (.u64 16) O) O bV H,aU<|zW O,xM O,aU λ_ _ H K=>R.bin (eU K 11 O) (kW (.int .u64 24) (.u64 24) O) O bV H,aU<|zW O,aU λ_ _ H K=>Z7 (z:=1) (.cons (eU K 4 O) (.cons (eU K 7 O) (.cons (eU K 10 O) (.cons (eU K 13 O) .nil)))) ⟨⟨O,O,O⟩,⟨O,O,O⟩,⟨O,O,O⟩,⟨O,O,O⟩,Zt⟩ O H dU,aU<|zO O,Zt⟩ O (tU O ?_);exact W.ret (En O (g8 (D.sl (some 5) 1) (w87 v)))
theorem k98(h:HdS)(hw:h.wf):Fn Tryz.prog gl 134 [C7 h] (.sl (some 5) 1 ((HQ h).map D.u8)):=by
 refine Fo 30 Tryz.func134 O λC hC hD=>?_;have hw1:=hw.1;have hw2:=hw.2;refine c6 2 [] (V1 0) Zt O (⟨O,_,R.box (gV 0 O) O O nU,⟨O,_,Z3 (kN O) O nU,tW (V1 1) (B8 1) 30 O ?_⟩⟩);refine M3 4 (y4 4 5 6 3) [(3,6)] [(3,6)] (V2 1 3) ⟨aU (xF O),aU (xL O),aU<|zC hC (MM h.ver) O (F1 (.sl _ _ _ (K7 λ_=>.u8 _))),aU<|zO O,Zt⟩ O (tU O ?_);refine M3 5 (y5 7 8 9 10 3) [(3,3),(4,10),(4,7)] [(3,3),(4,10)] (V2 1 3) ⟨aU<|zM O,aU (xF O),aU λ_ B H K=>r9 (0) (32) (32) (K 8 _ O) (B 1 _ O) O O O O O bU bU O H,aU λ_ B H K=>O6 (Or.inr (K 7 _ O)) (K 3 _ O) (SrcO.sc (SC.va (K 9 _ O) (B 1 _ O) O dU) (l4 (λ_=>rfl))) (show _=((UV h.ver++h.prev).map D.u8) from(VV _ h.prev 32 hw1)) (by simp[UV,hw1,hw2]) H dU dU,aU<|zO O,Zt⟩ O (tU O ?_);refine M3 5 (y5 11 12 13 14 3) [(3,3),(4,14),(4,11)] [(3,3),(4,14)] (V2 1 3) ⟨aU<|zM O,aU (xF O),aU λ_ B H K=>r9 (0) (32) (32) (K 12 _ O) (B 1 _ O) O O O O O bU bU O H,aU λ_ B H K=>O6 (Or.inr (K 11 _ O)) (K 3 _ O) (SrcO.sc (SC.va (K 13 _ O) (B 1 _ O) O dU) (l4 (λ_=>rfl))) (show _=((UV h.ver++h.prev++h.root).map D.u8) from(VV _ h.root 32 hw2)) (by simp[UV,hw1,hw2]) H dU dU,aU<|zO O,Zt⟩ O (tU O ?_);refine M3 6 (y6 15 16 17 18 19 3) [(4,3),(5,19),(5,15)] [(4,3),(5,19)] (V2 1 3) ⟨aU<|zM O,aU (xF O),aU (xL O),aU<|zC hC (MM h.time) O (F1 (.sl _ _ _ (K7 λ_=>.u8 _))),aU<|UI O (B0 (λ_=>rfl)) (ML) (by simp[UV,hw1,hw2]),aU<|zO O,Zt⟩ O (tU O ?_);refine M3 6 (y6 20 21 22 23 24 3) [(4,3),(5,24),(5,20)] [(4,3),(5,24)] (V2 1 3) ⟨aU<|zM O,aU (xF O),aU (xL O),aU<|zC hC (MM h.bits) O (F1 (.sl _ _ _ (K7 λ_=>.u8 _))),aU<|UI O (B0 (λ_=>rfl)) (ML) (by simp[UV,hw1,hw2]),aU<|zO O,Zt⟩ O (tU O ?_);refine M3 6 (y6 25 26 27 28 29 2) [(4,3),(5,29)] [(4,3),(5,29)] (V1 2) ⟨aU<|zM O,aU (xF O),aU (xL O),aU<|zC hC (MM h.nonce) O (F1 (.sl _ _ _ (K7 λ_=>.u8 _))),aU<|UI O (B0 (λ_=>rfl)) (ML) (by simp[UV,hw1,hw2]),aU<|zO O,Zt⟩ O (tU O ?_);exact W.ret (Eo O)
theorem q79(h:HdS)(hw:h.wf):Fn Tryz.prog gl 82 [C7 h] (j4 (DF h)):=by
 refine Fo 6 Tryz.func82 O λC hC hD=>?_;refine c6 2 [] (V1 0) Zt O (⟨O,_,R.box (gV 0 O) O O nU,(M7 O (tW (V2 1 2) (M4 2 1) 6 O ?_))⟩);refine c6 4 (y3 3 4 5) (V2 2 5) ⟨xL O,zC hC (k98 h hw) O (F1 (.sl _ _ _ (K7 λ_=>.u8 _))),λ_ _ H K=>o9 hC (CR (HQ h) (by rw[FC h hw];decide)) (Bc (Bor.sc (SC.sl (K 4 _ O)) (X5 (λ_=>rfl))) Bn) (F1 (D4 _)) H,Zt⟩ O (B2 O (tW (V1 2) (M4 2 1) 6 O ?_));exact W.ret (Eo O (iL 23 32))
end
section
open Go.Proofs
theorem k30(a b:Hs)(hx:a.length=32)(hy:b.length=32):Fn Tryz.prog gl 111 [j4 a,j4 b] (j4 (E7 a b)):=by
 refine Fo 13 Tryz.func111 O λC hC hD=>?_;refine c6 3 [] (V2 0 1) Zt O (⟨O,_,R.box (gV 0 O) O O nU,⟨O,_,R.box (gV 1 O) O O nU,(M7 O (tW (V3 2 3 4) (QB 4 3 2) 13 O ?_))⟩⟩);refine M3 4 (y4 6 7 8 5) [(2,6),(3,8)] [(2,6),(3,8)] (V3 3 4 5) ⟨aU λ_ _ H _=>Z7 .nil Zt O H dU,aU λ_ B H K=>r9 (0) (32) (32) (K 2 _ O) (B 2 _ O) O O O O O bU bU O H,aU λ_ B H K=>O6 (Or.inl O) (K 6 _ O) (SrcO.sc (SC.va (K 7 _ O) (B 2 _ O) O dU) (l4 (λ_=>rfl))) (show _=(a.map D.u8) from((U0 _).trans (k48 a hx))) (by simp[hx]) H dU dU,aU<|zO O,Zt⟩ O (tU O ?_);refine M3 5 (y4 9 10 11 12) [(2,5)] [(2,5)] (V2 4 12) ⟨aU<|zM O,aU λ_ B H K=>r9 (0) (32) (32) (K 3 _ O) (B 3 _ O) O O O O O bU bU O H,aU λ_ B H K=>O6 (Or.inr (K 9 _ O)) (K 5 _ O) (SrcO.sc (SC.va (K 10 _ O) (B 3 _ O) O dU) (l4 (λ_=>rfl))) (show _=((a++b).map D.u8) from(by rw[k48 b hy,d5])) (by simp[hx,hy]) H dU dU,aU λ_ _ H K=>o9 hC (CR (a++b) (by simp only[q9,hx,hy];decide)) (Bc (Bor.sc (SC.sl (K 11 _ O)) (X5 (λ_=>rfl))) Bn) (F1 (D4 _)) H,Zt⟩ O (B2 O (tW (V1 4) (QB 4 3 2) 13 O ?_));exact W.ret (Eo O (iL 23 32))
theorem w61(l:List Hs)(k:Nat)(h0:0<l.length)(hl0:l.length<=1000)(hk0:k<=1000000):Fn Tryz.prog gl 158 [.sl none 32 (l.map j4),.int ((k:Nat):Int)] (j4 l[min k (l.length-1)]!):=by
 refine Fo 13 Tryz.func158 O λC hC hD=>?_;refine c6 1 [] (V2 0 1) Zt O (M7 O (tW (V3 0 1 4) (B8 4) 13 O ?_));refine c6 9 (y8 5 6 7 8 9 10 11 12) (V2 4 12) ⟨zV O,zV O,zV O,R2 O,AB 1 O,λ_ _ H K=>R.minI (r:=((min k (l.length-1):Nat):Int)) (eU K 6 O) (eU K 9 O) bO H,zI (min k (l.length-1)) O,zL O (mG l),Zt⟩ O (B2 O (tW (V1 4) (B8 4) 13 O ?_));exact W.ret (Eo O (iL 23 32))
theorem z33(l:List Hs)(hl:allH l)(hl0:l.length<=1000):Fn Tryz.prog gl 130 [.sl none 32 (l.map j4)] (.sl (some 23) 32 ((u99 E7 l).map j4)):=by
 refine Fo 24 Tryz.func130 O λC hC hD=>?_;refine u7 1 (y1 2) (V1 0) ⟨QX O,Zt⟩ ?_;refine u7 1 (y1 3) (V2 0 3) ⟨QX O,Zt⟩ ?_;refine W.seq (u7 1 (y1 4) (V3 0 3 4) ⟨r6 0 O,Zt⟩ ?_);refine W.block ?_;refine P9 (s:=3) 23 32 O ?_;refine P6 ((l.length+1)/2) (λi=>⟨24,[(0,.sl none 32 (l.map j4)),(3,.sl (some 23) 32 ((w45 E7 l i).map j4)),(4,.int ((2*i:Nat):Int))],[]⟩) O λi hi=>?_;have hul:=IB E7 l i;refine W.seq (u7 4 (y4 5 6 7 8) (V4 0 3 4 8) ⟨zV O,zV O,R2 O,zS O,Zt⟩ ?_);refine c4 O (λhc8=>?_) (λhc8=>?_)
 ·refine W.skip (W.seq (W.block ?_));refine KL 13 [0,0,0,6,14,0,0,64,224,510,1022,2047,4095] hP dU (u98 11 12 13 14 15 16 17 18 19 20 21 22 3) [(11,3),(12,22),(12,11)] [(11,3),(12,22)] (V3 0 3 4) ⟨aU<|zM O,xM O,xM O,aU<|zI (2*i) O,aU<|zL O (mG l),xM O,xM O,aU<|N2 1 O,aU<|zD hC (w61 l (2*i+1) bO hl0 bO) O (F1 (D4 _)),aU<|zD hC (k30 _ _ (hl.get bO) (hl.get bO)) O (F1 (D4 _)),aU λ_ _ H K=>Z7 (z:=32) (.cons (eU K 20 O) .nil) ⟨⟨O,O,O⟩,Zt⟩ O H dU,aU<|UI O (Y7 O) (JJ) bU,aU<|zO O,Zt⟩ O (tW (V3 0 3 4) [] 24 O ?_);refine m7 3 (y3 9 10 4) (V3 0 3 4) ⟨zV O,N2 2 O,zA O,Zt⟩ ?_;exact⟨bU,rfl⟩
 ·obtain rfl:i=(l.length+1)/2:=by omega
  refine W.exit (M3 2 (y2 23 2) [(0,3),(1,23)] [(0,3),(1,23)] (V1 2) ⟨aU λ_ _ H K=>KK (K 3 _ O) O H dU,aU<|zO O,Zt⟩ O (tU O ?_));exact W.ret (Eo O)
end
end Go.Sx
