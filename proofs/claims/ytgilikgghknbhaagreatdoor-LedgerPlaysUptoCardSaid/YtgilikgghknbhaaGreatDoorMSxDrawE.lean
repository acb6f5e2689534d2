/- Own texts. -/
import Derived.Test.YtgilikgghknbhaaGreatDoorMSxAl
import Derived.Test.YtgilikgghknbhaaGreatDoorMSxVal4
import Derived.Recover
import Derived.Lib.AppendZerosOnto
import Derived.Test.YtgilikgghknbhaaGreatDoorProg
import Derived.Test.YtgilikgghknbhaaGreatDoorChecked
set_option linter.unusedVariables false
set_option linter.unusedSimpArgs false
set_option linter.unnecessarySimpa false

namespace Go.Sx
variable{v:Value}{aft:Array Edge}{Q:Exit->Sg->Prop}{path q F live:List Nat}{bx' bx bx1:List (Nat×Bx)}{pos:String}{ty rt:TypeId}{gg want:Bool}{env':List (Nat×D)}{d0 dx:D}{tys:Array TypeId}{α:Type}{τ:Sg}{G L:Nat->Prop}{off tg m nn:Nat}
section
variable{P:Program}{C:Ctx}{σ σ' σ1:Sg}{a:Act}{w w':World}{ρ:Nat->Nat}{Fe Fe' Fb:Nat->List Nat}
theorem St.rebox(h:St C σ a w)(hb:∀ id,lk bx' id=σ.box id):St C ⟨σ.n,σ.env,bx'⟩ a w:=by
 obtain⟨ρ,Fe,Fb,st⟩:=h;have hbox:∀ id,(⟨σ.n,σ.env,bx'⟩:Sg).box id=σ.box id:=hb
 have hL:(λid=>((⟨σ.n,σ.env,bx'⟩:Sg).box id).isSome=true)=(λid=>(σ.box id).isSome=true):=by
  funext id;rw[hbox]
 refine⟨ρ,Fe,Fb,{
  size:=st.size
  defs:=st.defs
  pin:=λid b hp=>⟨(st.pin id b hp).1,by rw[hbox];exact(st.pin id b hp).2⟩
  env:=λt d hd=>by rw[hL];exact st.env t d hd
  envN:=λt ht=>st.envN t ht
  bx:=λid d hd=>by rw[hL];exact st.bx id d (by rw[<- hbox];exact hd)
  bxN:=λid hd=>st.bxN id (by rw[<- hbox];exact hd)
  nodE:=st.nodE
  nodB:=st.nodB
  dEE:=st.dEE
  dEB:=st.dEB
  dBB:=st.dBB
  new:=st.new
  kept:=st.kept
  os:=st.os
  tape:=⟨st.tape.tp,st.tape.dr⟩
  output:=st.output
  grown:=st.grown
  gl:=st.gl
  okN:=st.okN
  okO:=st.okO }⟩
abbrev Efs:=List (Nat×List (Nat×Bx))
def bxk(an:List Nat)(i id:Nat):Efs->Option Bx->Option Bx
 | [],cur=>cur
 | (j,l)::r,cur=>match lk l id with
  | none=>bxk an i id r cur
  | some x=>bif tb (nth an i) j then bxk an i id r (some x) else bif Nat.beq i j||tb (nth an j) i then bxk an i id r cur else bxk an i id r none
def TS(f:Nat->Bool)(id:Nat):Efs->Option Bx->Option Bx
 | [],cur=>cur
 | (j,l)::r,cur=>match lk l id with
  | none=>TS f id r cur
  | some x=>bif f j then TS f id r (some x) else TS f id r cur
def touch(l m:List (Nat×Bx)):Bool:=l.any λx=>(lk m x.1).isSome
def k42(an:List Nat)(j:Nat)(l:List (Nat×Bx)):Efs->Bool
 | []=>true
 | (k,m)::r=>(!(Nat.beq j k)&&(!(touch l m)||tb (nth an k) j))&&k42 an j l r
def j24(an:List Nat)(m:Nat):Efs->Bool
 | []=>true
 | (j,l)::r=>Nat.blt j m&&k42 an j l r&&j24 an m r
def k66(an:List Nat)(i id:Nat):Efs->Bool
 | []=>true
 | (k,m)::r=>(Nat.beq k i||(lk m id).isNone||tb (nth an k) i)&&k66 an i id r
def v26(an:List Nat)(bx0:List (Nat×Bx))(efs:Efs)(i id:Nat):Bool:=(lk bx0 id).isNone&&k66 an i id efs
def WG(env:List (Nat×D))(an:List Nat)(ks:List (Nat×Nat))(its:List It):Efs->Bool
 | []=>true
 | (i,l)::r=>(KU (l.map Prod.fst) ks i env&&KX (l.map Prod.fst) an ks i its 0)&&WG env an ks its r
theorem j23{an:List Nat}{j:Nat}{l:List (Nat×Bx)}:∀ {r:Efs},k42 an j l r=true->∀ x∈r,(!(Nat.beq j x.1)&&(!(touch l x.2)||tb (nth an x.1) j))=true:=by
 intro r
 induction r with
 | nil=>intro _ x hx;cases hx
 | cons y r ih=>
  obtain⟨k,m⟩:=y;intro h x hx;simp only[k42] at h;rw[u6] at h
  rcases w8.1 hx with rfl|hx
  ·exact h.1
  ·exact ih h.2 x hx
theorem j50{an:List Nat}{i id:Nat}:∀ {r:Efs},k66 an i id r=true->∀ x∈r,(Nat.beq x.1 i||(lk x.2 id).isNone||tb (nth an x.1) i)=true:=by
 intro r
 induction r with
 | nil=>intro _ x hx;cases hx
 | cons y r ih=>
  obtain⟨k,m⟩:=y;intro h x hx;simp only[k66] at h;rw[u6] at h
  rcases w8.1 hx with rfl|hx
  ·exact h.1
  ·exact ih h.2 x hx
theorem z72{env:List (Nat×D)}{an:List Nat}{ks:List (Nat×Nat)}{its:List It}:∀ {r:Efs},WG env an ks its r=true->∀ x∈r,(KU (x.2.map Prod.fst) ks x.1 env&&KX (x.2.map Prod.fst) an ks x.1 its 0)=true:=by
 intro r
 induction r with
 | nil=>intro _ x hx;cases hx
 | cons y r ih=>
  obtain⟨k,m⟩:=y;intro h x hx;simp only[WG] at h;rw[u6] at h
  rcases w8.1 hx with rfl|hx
  ·exact h.1
  ·exact ih h.2 x hx
def q46:Efs->List (Nat×Bx)->List (Nat×Bx)
 | [],b=>b
 | (_,l)::r,b=>q46 r (l++b)
def g39(k:Nat):List (Nat×Bx)->List (Nat×Bx)
 | []=>[]
 | (j,x)::r=>bif Nat.beq j k then g39 k r else(j,x)::g39 k r
def g71:Nat->List (Nat×Bx)->List (Nat×Bx)
 | 0,l=>l
 | _+1,[]=>[]
 | n+1,(k,x)::r=>(k,x)::g71 n (g39 k r)
theorem y65(k:Nat)(l:List (Nat×Bx))(u:Nat)(h:u≠k):lk (g39 k l) u=lk l u:=by
 induction l with
 | nil=>rfl
 | cons y r ih=>
  obtain⟨j,x⟩:=y;simp only[g39];by_cases hj:j=k
  ·subst hj;simp only[X2,Q6,G4,ih];rw[z8 (λe=>h e.symm)]
  ·simp only[nbeq hj,p6,G4,ih]
theorem y66:∀ (n:Nat) (l:List (Nat×Bx)) (u:Nat),lk (g71 n l) u=lk l u:=by
 intro n
 induction n with
 | zero=>intro l u;rfl
 | succ n ih=>
  intro l u
  cases l with
  | nil=>rfl
  | cons y r=>
   obtain⟨k,x⟩:=y;simp only[g71,G4,ih];by_cases hk:k=u
   ·simp[hk]
   ·simp only[hk,q8];exact y65 k r u (λe=>hk e.symm)
theorem y67(efs:Efs):∀ (b:List (Nat×Bx)) (u:Nat),lk (q46 efs b) u=TS (λ_=>true) u efs (lk b u):=by
 induction efs with
 | nil=>intro b u;rfl
 | cons y r ih=>
  obtain⟨j,l⟩:=y;intro b u;simp only[q46,TS,ih,KN]
  cases lk l u<;>rfl
section
variable{listed:Array Bool}{ops:List Oper}{an:List Nat}{ks kk:List (Nat×Nat)}{its:List It}{Q:Exit->Sg->Prop}
theorem CV{f g:Nat->Bool}{id:Nat}:∀ {efs:Efs} {c:Option Bx},(∀ j l,(j,l)∈efs->(lk l id).isSome=true->f j=g j)->TS f id efs c=TS g id efs c:=by
 intro efs
 induction efs with
 | nil=>intro c _;rfl
 | cons y r ih=>
  obtain⟨j,l⟩:=y;intro c h;simp only[TS]
  cases hl:lk l id with
  | none=>exact ih (λj' l' hm=>h j' l' (j5 _ hm))
  | some x=>
   simp only;rw[h j l (by simp) (by rw[hl];rfl)]
   cases g j<;>exact ih (λj' l' hm=>h j' l' (j5 _ hm))
theorem q22{f:Nat->Bool}{id:Nat}:∀ {efs:Efs} {c:Option Bx},(∀ j l,(j,l)∈efs->(lk l id).isSome=true->f j=false)->TS f id efs c=c:=by
 intro efs
 induction efs with
 | nil=>intro c _;rfl
 | cons y r ih=>
  obtain⟨j,l⟩:=y;intro c h;simp only[TS]
  cases hl:lk l id with
  | none=>exact ih (λj' l' hm=>h j' l' (j5 _ hm))
  | some x=>
   simp only;rw[h j l (by simp) (by rw[hl];rfl)];exact ih (λj' l' hm=>h j' l' (j5 _ hm))
theorem y91{f:Nat->Bool}{i id:Nat}{x:Bx}(hi:f i=false):∀ {efs:Efs} {ck cb:Option Bx},(∀ j l,(j,l)∈efs->tb (nth an i) j=true->f j=true)->(∀ j l,(j,l)∈efs->tb (nth an j) i=true->f j=false) ->
 (∀ x,ck=some x->cb=some x)->bxk an i id efs ck=some x->TS f id efs cb=some x:=by
 intro efs
 induction efs with
 | nil=>intro ck cb _ _ h hx;exact h x hx
 | cons y r ih=>
  obtain⟨j,l⟩:=y;intro ck cb h1 h2 h hx;simp only[bxk] at hx;simp only[TS];have h1':∀ j l,(j,l)∈r->tb (nth an i) j=true->f j=true:=λj' l' hm=>h1 j' l' (j5 _ hm);have h2':∀ j l,(j,l)∈r->tb (nth an j) i=true->f j=false:=λj' l' hm=>h2 j' l' (j5 _ hm)
  cases hl:lk l id with
  | none=>rw[hl] at hx;exact ih h1' h2' h hx
  | some z=>
   rw[hl] at hx;simp only at hx ⊢
   cases ha:tb (nth an i) j with
   | true=>
    rw[ha] at hx;rw[h1 j l (by simp) ha];exact ih h1' h2' (λ_ h=>h) hx
   | false=>
    rw[ha] at hx;simp only[p6] at hx
    cases hb:(Nat.beq i j||tb (nth an j) i) with
    | true=>
     rw[hb] at hx
     have:f j=false:=by
      rcases K5 _ _▸hb with hb|hb
      ·rw[<- Z5 hb];exact hi
      ·exact h2 j l (by simp) hb
     rw[this];exact ih h1' h2' h hx
    | false=>
     rw[hb] at hx;simp only[p6] at hx
     cases f j with
     | true=>exact ih h1' h2' (λ_ h=>by cases h) hx
     | false=>exact ih h1' h2' (λ_ h=>by cases h) hx
theorem j90{l m:List (Nat×Bx)}{id:Nat}(h1:(lk l id).isSome=true)(h2:(lk m id).isSome=true):touch l m=true:=by
 obtain⟨x,hx⟩:=O7.1 h1;exact c6.2 ⟨(id,x),NR hx,h2⟩
theorem v37{f:Nat->Bool}{i id:Nat}{l:List (Nat×Bx)}(hi:f i=false):∀ {efs:Efs} {c:Option Bx},j24 an m efs=true->(i,l)∈efs->(∀ j l,(j,l)∈efs->tb (nth an j) i=true->f j=false) ->
 TS (λj=>f j||Nat.beq j i) id efs c=(match lk l id with|some x=>some x|none=>TS f id efs c):=by
 intro efs
 induction efs with
 | nil=>intro c _ h;cases h
 | cons y r ih=>
  obtain⟨j,l0⟩:=y;intro c hok hm h2;simp only[j24,u6] at hok;obtain⟨⟨_,hr⟩,hok'⟩:=hok
  have hr':∀ j' l',(j',l')∈r->j'≠j/\(touch l0 l'=true->tb (nth an j') j=true):=λj' l' hm'=>by
   have:=j23 hr _ hm';simp only[u6,B0,K5] at this;refine⟨λe=>?_,λht=>?_⟩
   ·subst e;simp at this
   ·rcases this.2 with h|h
    ·rw[ht] at h;cases h
    ·exact h
  by_cases hji:j=i
  ·subst hji
   have hl:l=l0:=by
    rcases w8.1 hm with h|h
    ·cases h;rfl
    ·exact absurd rfl (hr' j l h).1
   subst hl
   have hrest:∀ c,TS (λj'=>f j'||Nat.beq j' j) id r c=TS f id r c:=λc=>CV λj' l' hm' _=>by rw[nbeq (hr' j' l' hm').1,O4]
   simp only[TS]
   cases hl:lk l id with
   | none=>simp only;exact hrest c
   | some x=>
    simp only[X2,Bool.or_true,Q6];rw[hrest];exact q22 λj' l' hm' hs=>h2 j' l' (j5 _ hm') ((hr' j' l' hm').2 (j90 (by rw[hl];rfl) hs))
  ·have hm':(i,l)∈r:=by
    rcases w8.1 hm with h|h
    ·cases h;exact absurd rfl hji
    ·exact h
   have h2':∀ j l,(j,l)∈r->tb (nth an j) i=true->f j=false:=λj' l' hm'=>h2 j' l' (j5 _ hm');simp only[TS,nbeq hji,O4]
   cases lk l0 id with
   | none=>exact ih hok' hm' h2'
   | some x=>cases f j<;>exact ih hok' hm' h2'
theorem k41{efs:Efs}(h:j24 an m efs=true):∀ j l,(j,l)∈efs->j<m:=by
 induction efs with
 | nil=>intro j l hm;cases hm
 | cons y r ih=>
  obtain⟨j0,l0⟩:=y;simp only[j24,u6] at h;intro j l hm
  rcases w8.1 hm with e|e
  ·cases e;exact c8 h.1.1
  ·exact ih h.2 j l e
theorem v04{r:List (Nat×α)}{k:Nat}{x:α}(h:(k,x)∈r):(lk r k).isSome=true:=by
 induction r with
 | nil=>cases h
 | cons y r ih=>
  obtain⟨j,z⟩:=y;rw[G4]
  rcases w8.1 h with e|e
  ·cases e;simp
  ·split
   ·rfl
   ·exact ih e
def SpE(P:Program)(C:Ctx)(σ:Sg)(efs:Efs)(i:Nat)(l:List (Nat×Bx))(an:List Nat)(ks:List (Nat×Nat))(its:List It)(o:Oper)(t:Nat)(d:D):Prop:=
 ∀ τ:Sg,τ.n=σ.n->(∀ id x,bxk an i id efs (lk σ.bx id)=some x->τ.box id=some x)->(∀ id,v26 an σ.bx efs i id=true->τ.box id=none)->(∀ u x,facts an ks σ.env its i u=some x->τ.get u=some x) ->
  ∃ τ':Sg,OpS P C o τ (match o.dst with|some _=>τ'.set t d|none=>τ')/\τ'.n=τ.n/\(∀ id,τ'.box id=match lk l id with|some x=>some x|none=>τ.box id) /\
   ∀ u y,(∀ k s,(k,s)∈ks->s=u->k≠i)->τ.get u=some y->y.albIn (l.map Prod.fst)=false->τ'.get u=some y
def y84(n:Nat)(ks:List (Nat×Nat))(o:Oper)(i t:Nat):Prop:=
 match o.dst with
 | some t'=>t'=t/\t<n
 | none=>has ks i t=true
def AllE(P:Program)(C:Ctx)(σ:Sg)(efs:Efs)(ops:List Oper)(an:List Nat)(ks kk:List (Nat×Nat))(its:List It):List Oper->List It->Nat->Prop
 | o::os,⟨t,d,wt⟩::r,i=>(match lk efs i with
  | some l=>o.guard=none/\wt=true/\y84 σ.n ks o i t/\SpE P C σ efs i l an ks its o t d
  | none=>o.dst=some t/\t<σ.n/\Wt ops (facts an ks σ.env its i) o wt /\
  (wt=true->∀ τ:Sg,(∀ id x,bxk an i id efs (lk σ.bx id)=some x->τ.box id=some x)->t<τ.n->(∀ u x,facts an ks σ.env its i u=some x->τ.get u=some x)->OpS P C o τ ((KV τ kk i).set t d))) /\
  AllE P C σ efs ops an ks kk its os r (i+1)
 | [],_::_,_=>False
 | _,[],_=>True
theorem AllE.at{efs:Efs}:∀ {os:List Oper} {r:List It} {i0:Nat},AllE P C σ efs ops an ks kk its os r i0->∀ {k:Nat} {t:Nat} {d:D} {wt:Bool},r[k]? = some ⟨t,d,wt⟩ ->
 ∃ o,os[k]? = some o/\(match lk efs (i0+k) with
  | some l=>o.guard=none/\wt=true/\y84 σ.n ks o (i0+k) t/\SpE P C σ efs (i0+k) l an ks its o t d
  | none=>o.dst=some t/\t<σ.n/\Wt ops (facts an ks σ.env its (i0+k)) o wt /\
  (wt=true->∀ τ:Sg,(∀ id x,bxk an (i0+k) id efs (lk σ.bx id)=some x->τ.box id=some x)->t<τ.n->(∀ u x,facts an ks σ.env its (i0+k) u=some x->τ.get u=some x)->OpS P C o τ ((KV τ kk (i0+k)).set t d))):=by
 intro os r
 induction r generalizing os with
 | nil=>intro i0 _ k t d wt hk;simp at hk
 | cons y r ih=>
  intro i0 h k t d wt hk;obtain⟨t',d',w'⟩:=y
  cases os with
  | nil=>exact h.elim
  | cons o os=>
   cases k with
   | zero=>
    simp at hk;obtain⟨rfl,rfl,rfl⟩:=hk;exact⟨o,rfl,h.1⟩
   | succ k=>
    obtain⟨o',h1,h2⟩:=ih h.2 (k:=k) (by simpa using hk);rw[show i0+(k+1)=i0+1+k by omega];exact⟨o',by simpa using h1,h2⟩
theorem z26{N:Nat}(H:ItG ⟨N,σ.env,σ.bx⟩ ops an ks its)(hsize:listed.size=ops.length){i t:Nat}{d:D}{wt:Bool}(hit:its[i]? = some ⟨t,d,wt⟩)(hun:listed.getD i true=false)
 (hanc:∀ j,j<ops.length->tb (nth an i) j=true->listed.getD j false=true) (hnot:∀ j,j<ops.length->tb (nth an j) i=true->listed.getD j false=false) {ids:List Nat} (hE:KU ids ks i σ.env=true) (hI:KX ids an ks i its 0=true) (hkt:(i,t)∈ks)
  (hinv:PQ σ an ks its listed τ) (τ2:Sg)
 (hg2:∀ u y,(∀ k s,(k,s)∈ks->s=u->k≠i)->τ.get u=some y->y.albIn ids=false->τ2.get u=some y):PQ σ an ks its (listed.setIfInBounds i true) τ2:=by
 obtain⟨hnd,hlt⟩:=f6 H.ts;obtain⟨hin,hif⟩:=undone hun;intro u y hy;unfold afts at hy
 cases hbd:bads (λj=>(listed.setIfInBounds i true).getD j false&&!(cov an (λj=>(listed.setIfInBounds i true).getD j false) its u j)) ks u with
 | true=>rw[hbd] at hy;cases hy
 | false=>
  rw[hbd] at hy;simp only[p6] at hy;rw[e8] at hbd
  have hii:(listed.setIfInBounds i true).getD i false=true:=by simp[hin]
  have hcov:u≠t->∀ k,cov an (λj=>(listed.setIfInBounds i true).getD j false) its u k=true->cov an (λj=>listed.getD j false) its u k=true/\k≠i:=by
   intro hut k hc;obtain⟨j,dj,wj,h1,h2,h3,h4⟩:=UV hc
   have hji:i≠j:=by
    rintro rfl;rw[hit] at h2;cases h2;exact hut rfl
   rw[getD_set_ne false hji] at h3;refine⟨OH h1 h3 h4, ?_⟩;rintro rfl;have hjl:j<ops.length:=u9 (j4.1 h2).1 H.len;rw[hnot j hjl h4] at h3;cases h3
  by_cases hut:u=t
  ·subst hut;exfalso;have h1:=hbd i u hkt rfl;rw[hii] at h1;simp only[H4,Y9] at h1;obtain⟨j,dj,wj,q1,q2,q3,q4⟩:=UV h1
   have hji:j=i:=by
    have e1:(slots its)[j]? = some u:=by rw[T9,q2];rfl
    have e2:(slots its)[i]? = some u:=by rw[T9,hit];rfl
    obtain⟨l1,e1'⟩:=j4.1 e1;obtain⟨l2,e2'⟩:=j4.1 e2;exact(List.getElem_inj hnd).1 (e1'.trans e2'.symm)
   subst hji;have hjl:j<ops.length:=u9 (j4.1 q2).1 H.len;have:=hanc j hjl q4;rw[hif] at this;cases this
  ·have hki:∀ k s,(k,s)∈ks->s=u->k≠i:=by
    rintro k s hm hsu rfl;have h1:=hbd k s hm hsu;rw[hii] at h1;simp only[H4,Y9] at h1;exact(hcov hut k h1).2 rfl
   have hbd2:bads (λj=>listed.getD j false&&!(cov an (λj=>listed.getD j false) its u j)) ks u=false:=by
    rw[e8];intro k s hm hsu;have h1:=hbd k s hm hsu;have h2:=hki k s hm hsu;rw[getD_set_ne false (λe=>h2 e.symm)] at h1
    cases hd:listed.getD k false with
    | false=>rfl
    | true=>
     rw[hd] at h1;simp only[H4,Y9] at h1 ⊢;exact(hcov hut k h1).1
   have hold:afts an (λj=>listed.getD j false) ks σ.env its u=some y/\y.albIn ids=false:=by
    unfold afts;rw[hbd2];simp only[p6]
    rcases N9 its u with hu|⟨k,dk,wk,hk⟩
    ·rw[O0 hu] at hy ⊢;exact⟨hy,(CL hE hy).resolve_right λh=>hki i u h rfl rfl⟩
    ·rw[L7 hnd hk] at hy ⊢;simp only[m5] at hy ⊢
     have hne:i≠k:=by
      rintro rfl;rw[hit] at hk;cases hk;exact hut rfl
     rw[getD_set_ne false hne] at hy;refine⟨hy, ?_⟩
     cases hd:listed.getD k false with
     | false=>
      rw[hd] at hy;exact(CL hE hy).resolve_right λh=>hki i u h rfl rfl
     | true=>
      rw[hd] at hy;simp only[Q6] at hy
      cases wk with
      | false=>simp at hy;subst hy;simp[D.albIn]
      | true=>
       simp at hy;subst hy
       rcases ST hI hk with h|h|h
       ·exact h
       ·exact absurd rfl (hki i u h rfl)
       ·simp only[m5] at h;rw[hnot k (by rw[<- hsize];exact I6 hd) h] at hd;cases hd
   exact hg2 u y hki (hinv u y hold.1) hold.2
structure ItE(σ:Sg)(efs:Efs)(ops:List Oper)(an:List Nat)(ks:List (Nat×Nat))(its:List It):Prop where
 N:∃ N,q89 N (slots its)=true
 len:its.length<=ops.length
 ref:OL an ks (slots its) its 0=true
 env:OR (slots its) σ.env=true
 ef:j24 an its.length efs=true
 alb:WG σ.env an ks its efs=true
def TT(σ:Sg)(efs:Efs)(listed:Array Bool)(τ:Sg):Prop:=∀ id,τ.box id=TS (λj=>listed.getD j false) id efs (lk σ.bx id)
theorem z96{efs:Efs}(H:ItE σ efs ops an ks its)(hall:AllE P C σ efs ops an ks kk its ops its 0)(hsub:subs kk ks=true)
 (hsize:listed.size=ops.length) {i:Nat} {oi:Oper} (hi:i<its.length) (ho:ops[i]? = some oi) (hun:listed.getD i true=false)
 (hanc:∀ j,j<ops.length->tb (nth an i) j=true->listed.getD j false=true) (hnot:∀ j,j<ops.length->tb (nth an j) i=true->listed.getD j false=false)
  (hs:St C τ a w) (hn:τ.n=σ.n) (hb:TT σ efs listed τ) (hinv:PQ σ an ks its listed τ) {K:Act->World->Prop} {Q:Exit->Act->World->Prop}
 (hK:∀ a' w' τ',St C τ' a' w'->τ'.n=σ.n->TT σ efs (listed.setIfInBounds i true) τ'->PQ σ an ks its (listed.setIfInBounds i true) τ'->K a' w') :
 Region.wanted oi (yielded ops.toArray a.tmps)=true/\oi.wpIn (Fx C) 3 P a w K Q∨Region.wanted oi (yielded ops.toArray a.tmps)=false/\K (a.put oi.dst undef) w:=by
 obtain⟨N,hN⟩:=H.N
 have HG:ItG ⟨N,σ.env,σ.bx⟩ ops an ks its:=⟨H.len,hN,H.ref,H.env⟩
 obtain⟨⟨t,d,wt⟩,hit⟩:∃ it,its[i]? = some it:=⟨its[i],j9 hi⟩
 obtain⟨o,ho',hcl⟩:=hall.at hit;rw[ho] at ho';cases ho';simp only[m5] at hcl;obtain⟨hin,hif⟩:=undone hun
 have hil:i<ops.length:=by rw[<- hsize];exact hin
 have hfact:∀ u x,facts an ks σ.env its i u=some x->τ.get u=some x:=LM HG hsize hi hun hanc hnot hinv;have hefl:∀ j l,(j,l)∈efs->j<ops.length:=λj l hm=>u9 (k41 H.ef j l hm) H.len
 have hbx:∀ id x,bxk an i id efs (lk σ.bx id)=some x->τ.box id=some x:=λid x hx=>by
  rw[hb id];exact y91 hif (λj l hm ht=>hanc j (hefl j l hm) ht) (λj l hm ht=>hnot j (hefl j l hm) ht) (λ_ h=>h) hx
 cases hef:lk efs i with
 | some l=>
  rw[hef] at hcl;simp only at hcl;obtain⟨hg,rfl,hdst,hsp⟩:=hcl;have hm:=TX hef;have halb:=z72 H.alb _ hm;simp only[u6] at halb
  have hfre:∀ id,v26 an σ.bx efs i id=true->τ.box id=none:=λid hf=>by
   unfold v26 at hf;simp only[u6,B5] at hf;rw[hb id,hf.1];refine q22 λj l hm hs=>?_;have:=j50 hf.2 _ hm;simp only[K5,B5] at this
   rcases this with (h|h)|h
   ·rw[Z5 h];exact hif
   ·rw[h] at hs;cases hs
   ·exact hnot j (hefl j l hm) h
  obtain⟨τ',h1,h2,h3,h4⟩:=hsp τ hn hbx hfre hfact
  have hbn:∀ id,τ'.box id=TS (λj=>(listed.setIfInBounds i true).getD j false) id efs (lk σ.bx id):=λid=>by
   rw[h3 id,hb id];rw[<- v37 (f:=λj=>listed.getD j false) hif H.ef hm (λj l hm ht=>hnot j (hefl j l hm) ht)];refine CV λj l hm _=>?_;by_cases hji:j=i
   ·subst hji;simp[hin]
   ·rw[getD_set_ne false (λe=>hji e.symm),nbeq hji,O4]
  refine .inl ⟨YX hg _,h1 a w hs _ _ λa' w' hs'=>?_⟩;unfold y84 at hdst
  cases hd:oi.dst with
  | none=>
   rw[hd] at hdst hs';exact hK a' w' _ hs' (h2.trans hn) hbn (z26 HG hsize hit hun hanc hnot halb.1 halb.2 (BA hdst) hinv τ' h4)
  | some t'=>
   rw[hd] at hdst hs';exact hK a' w' _ hs' (h2.trans hn) hbn (JT HG hsize hit hun hnot halb.1 halb.2 hinv d rfl τ' h4)
 | none=>
  rw[hef] at hcl;simp only at hcl;obtain⟨hdst,htn0,hwt,hop⟩:=hcl
  have htn:t<τ.n:=by rw[hn];exact htn0
  have hEi:KU [] ks i σ.env=true:=IZ _;have hIi:∀ j,KX [] an ks i its j=true:=λj=>IQ _ j
  have hbn:∀ τ':Sg,τ'.bx=τ.bx->TT σ efs (listed.setIfInBounds i true) τ':=λτ' hbb id=>by
   have:τ'.box id=τ.box id:=by simp only[Sg.box,hbb]
   rw[this,hb id];refine CV λj l hm _=>?_;rw[getD_set_ne false];rintro rfl;have:=v04 hm;rw[hef] at this;cases this
  rw[hwt.ok hs hfact];have hkn:=WS τ kk i
  cases hwt2:wt with
  | false=>
   refine .inr ⟨rfl, ?_⟩;rw[hdst];exact hK _ _ _ (hs.unwanted htn) hn (hbn _ rfl) (JT HG hsize hit hun hnot hEi (hIi 0) hinv (.tup []) (by rw[hwt2];rfl) τ (λu y _ h _=>h))
  | true=>
   refine .inl ⟨rfl,hop hwt2 τ hbx htn hfact a w hs _ _ λa' w' hs'=>?_⟩;exact hK _ _ _ hs' (hkn.1.trans hn) (hbn _ hkn.2) (JT HG hsize hit hun hnot hEi (hIi 0) hinv d (by rw[hwt2];rfl) _ (λu y hu hy _=>(NV (λk s hm=>hu k s (VI hsub k s hm))).trans hy))
theorem z98{efs:Efs}(hA:DJ ops an its.length=true)(H:ItE σ efs ops an ks its)(hall:AllE P C σ efs ops an ks kk its ops its 0)(hsub:subs kk ks=true)
   (hE:picks (afts an (λ_=>true) ks σ.env its) live=env') {nd:Nat} (hb1:g71 nd (q46 efs σ.bx)=bx1)
 (hT:TL P C Q (ops.drop its.length) ⟨σ.n,env',bx1⟩):∀ (fuel:Nat) (listed:Array Bool) (a:Act) (w:World) (τ:Sg),Cl ops listed->listed.toList.count false<=fuel ->
 (∀ j,its.length<=j->j<ops.length->listed.getD j true=false)->St C τ a w->τ.n=σ.n->TT σ efs listed τ->PQ σ an ks its listed τ ->
 wpAnyIn (Fx C) 3 P .any ops.toArray (λe a' w'=>∃ σ',St C σ' a' w'/\Q e σ') fuel listed a w:=by
 obtain⟨N,hN⟩:=H.N;have hefl:∀ j l,(j,l)∈efs->j<its.length:=λj l hm=>k41 H.ef j l hm
 have fin:∀ (listed:Array Bool) (a:Act) (w:World) (τ:Sg),(∀ j,j<its.length->listed.getD j false=true)->St C τ a w->τ.n=σ.n->TT σ efs listed τ->PQ σ an ks its listed τ ->
  St C ⟨σ.n,env',bx1⟩ a w:=by
  intro listed a w τ hall' hs hn hb hinv
  have hbb:∀ id,lk bx1 id=τ.box id:=λid=>by
   rw[<- hb1,y66,y67,hb id];exact CV λj l hm _=>(hall' j (hefl j l hm)).symm
  refine(hs.rebox hbb).weaken hn.symm rfl λt d hd=>hinv t d ?_;have:=ZI (f:=afts an (λ_=>true) ks σ.env its) (l:=live) (by rw[hE];exact hd);unfold afts at this ⊢
  cases hb:bads (λk=>true&&!(cov an (λ_=>true) its t k)) ks t with
  | true=>rw[hb] at this;cases this
  | false=>
   rw[hb] at this;rw[CG (λj dj wj hj=>hall' j (j4.1 hj).1) hb];simp only[p6] at this ⊢
   rcases N9 its t with hu|⟨k,dk,wk,hk⟩
   ·rw[O0 hu] at this ⊢;exact this
   ·rw[L7 (f6 hN).1 hk] at this ⊢;simp only[m5] at this ⊢;rw[hall' k (j4.1 hk).1];exact this
 intro fuel
 induction fuel with
 | zero=>
  intro listed a w τ hc hf h2 hs hn hb hinv;by_cases hall':∀ j,j<its.length->listed.getD j false=true
  ·exact UG hA _ its.length 0 listed a w ⟨σ.n,env',bx1⟩ rfl (z5 _) H.len hc hf hall' h2 (fin listed a w τ hall' hs hn hb hinv) hT
  ·exfalso;apply hall';intro j hj;have:=HM (listed:=listed) (by omega) j
   have hjl:j<listed.size:=by rw[hc.size];have:=H.len;omega
   simp[hjl] at this ⊢;exact this
 | succ fuel ih=>
  intro listed a w τ hc hf h2 hs hn hb hinv;by_cases hall':∀ j,j<its.length->listed.getD j false=true
  ·exact UG hA _ its.length (fuel+1) listed a w ⟨σ.n,env',bx1⟩ rfl (z5 _) H.len hc hf hall' h2 (fin listed a w τ hall' hs hn hb hinv) hT
  ·have hsome:∃ j,j<its.length/\listed.getD j true=false:=by
    rcases P9.1 hall' with ⟨j,hj⟩
    rcases D5.1 hj with ⟨hj1,hj2⟩
    refine⟨j,hj1, ?_⟩
    have hjl:j<listed.size:=by rw[hc.size];have:=H.len;omega
    simp[hjl] at hj2 ⊢;exact hj2
   have key:∀ n j,j=n->j<its.length->listed.getD j true=false->∃ k,k∈Region.ready .any ops.toArray listed:=by
    intro n
    induction n using Nat.strongRecOn with
    | _ n ihn=>
     intro j hjn hj hu;have hjl:j<ops.length:=u9 hj H.len;have ho:ops[j]? = some ops[j]:=j9 hjl;by_cases hr:∀ e∈ops[j].after,Region.binds .any e=true->listed.getD e.on false=true
     ·exact⟨j,mem_ready.2 ⟨hu,_,by simp,hr⟩⟩
     ·rcases P9.1 hr with ⟨e,he⟩
      rcases D5.1 he with ⟨he1,he2⟩
      rcases D5.1 he2 with ⟨he3,he4⟩
      have hlt:=(V0 hA ho).1 e he1 he3;refine ihn e.on (by omega) e.on rfl (by omega) ?_
      have hel:e.on<listed.size:=by rw[hc.size];omega
      simp[hel] at he4 ⊢;exact he4
   obtain⟨j0,hj0,hu0⟩:=hsome;refine⟨λhr=>?_,λi hi=>?_⟩
   ·obtain⟨k,hk⟩:=key j0 j0 rfl hj0 hu0;rw[hr] at hk;cases hk
   ·obtain⟨h3,oi,h4,h5⟩:=mem_ready.1 hi
    have ho:ops[i]? = some oi:=by simpa using h4
    have hil:i<ops.length:=(j4.1 ho).1
    have him:i<its.length:=by
     rcases G3 i its.length with h|h
     ·exact h
     ·exfalso;obtain⟨_,h9⟩:=V0 hA ho;have hj0l:j0<ops.length:=u9 hj0 H.len;obtain⟨h10,h11⟩:=h9 j0 hj0l;obtain⟨e,he,hb,h12⟩:=h10 (h11 h (by omega));have hd:=h5 e he hb
      have hkd:listed.getD j0 false=true:=by
       rcases h12 with rfl|h12
       ·exact hd
       ·exact hc.anc hA e.on (by rw[<- hc.size];exact I6 hd) hd j0 hj0l h12
      rw[(undone hu0).2] at hkd;cases hkd
    have hspc:=(V0 hA ho).2;have hif:=(undone h3).2
    have hanc:∀ j,j<ops.length->tb (nth an i) j=true->listed.getD j false=true:=by
     intro j hj ht;obtain⟨e,he,hb,h1⟩:=(hspc j hj).1 ht;have hd:=h5 e he hb
     rcases h1 with rfl|h1
     ·exact hd
     ·exact hc.anc hA e.on (by rw[<- hc.size];exact I6 hd) hd j hj h1
    have hnot:∀ j,j<ops.length->tb (nth an j) i=true->listed.getD j false=false:=by
     intro j hj ht
     cases hd:listed.getD j false with
     | false=>rfl
     | true=>have:=hc.anc hA j hj hd i hil ht;rw[hif] at this;cases this
    suffices hK:∀ a' w' τ',St C τ' a' w'->τ'.n=σ.n->TT σ efs (listed.setIfInBounds i true) τ'->PQ σ an ks its (listed.setIfInBounds i true) τ'->wpAnyIn (Fx C) 3 P .any ops.toArray (λe a' w'=>∃ σ',St C σ' a' w'/\Q e σ') fuel (listed.setIfInBounds i true) a' w' by
     unfold Go.wpOpIn;simp only[h4]
     rcases z96 H hall hsub hc.size him ho h3 hanc hnot hs hn hb hinv hK with ⟨e1,e2⟩|⟨e1,e2⟩
     ·simp only[e1,w5];exact e2
     ·simp only[e1,q7,q8];exact⟨λ_ _=>trivial,e2⟩
    intro a' w' τ' hs' hn' hb' hinv';refine ih _ a' w' τ' (hc.set ho h5) (by have:=count_set h3;omega) (λj hj hjl=>?_) hs' hn' hb' hinv';rw[getD_set_ne true (by omega)];exact h2 j hj hjl
theorem QE{id n' nd:Nat}{efs:Efs}(hm:P.follows .mixedOrders=true)(hA0:DJ ops an m=true)(hlen:its.length=m)
 (H:ItE σ efs ops an ks its) (hall:AllE P C σ efs ops an ks kk its ops its 0) (hsub:subs kk ks=true)
   (hE:picks (afts an (λ_=>true) ks σ.env its) live=env') (hb1:g71 nd (q46 efs σ.bx)=bx1)
 (hn:σ.n=n') (hT:TL P C Q (ops.drop its.length) ⟨n',env',bx1⟩):W P C (.region id ops.toArray true) Q σ:=by
 intro a w hs;refine wpIn_region_any hm ?_
 have hgd:∀ k,(Array.replicate ops.toArray.size false).getD k false=false:=by
  intro k;simp only[n3,P7]
  split<;>rfl
 have hc:Cl ops (Array.replicate ops.toArray.size false):=⟨by simp,λi o _ hd=>by rw[hgd] at hd;cases hd⟩
 have hA:DJ ops an its.length=true:=by rw[hlen];exact hA0
 obtain⟨N,hN⟩:=H.N;subst hn;refine z98 hA H hall hsub hE hb1 hT _ _ a _ σ hc ?_ ?_ (hs.ext (Ext.drew w)) rfl ?_ (λu x hx=>?_)
 ·simp
 ·intro j _ hj;simp[hj]
 ·exact λid=>(q22 λj l _ _=>hgd j).symm
 ·unfold afts at hx;generalize hb:bads _ ks u=bb at hx
  cases bb with
  | true=>cases hx
  | false=>
   simp only[p6] at hx
   rcases N9 its u with hu|⟨k,dk,wk,hk⟩
   ·rw[O0 hu] at hx;exact hx
   ·rw[L7 (f6 hN).1 hk,hgd] at hx;exact hx
theorem SpE.alloc{efs:Efs}{i t:TypeId}{d:D}[hZ:ZrT P ty d](hf:v26 an σ.bx efs i t=true)(ht:t<σ.n) :
 SpE P C σ efs i [(t,.var d)] an ks its ⟨some t,.alloc ty,rt,pos,aft,none⟩ t (.ptr t 0 []):=by
 intro τ hn hb hfr hfa;refine⟨τ.newB t (.var d),R.alloc (hfr t hf) (by rw[hn];exact ht),rfl,λid=>?_,λu y _ hy _=>hy⟩;rw[UW];by_cases hid:t=id
 ·subst hid;simp[lk]
 ·simp[lk,hid,nbeq hid]
theorem TV{id:Nat}{x y:Bx}(h:τ.box id=some y)(i:Nat):(τ.putB id x).box i=match lk [(id,x)] i with|some z=>some z|none=>τ.box i:=by
 rw[GL];by_cases hi:i=id
 ·subst hi;simp[lk,h]
 ·simp[lk,hi,nbeq (show ¬ id=i from λe=>hi e.symm)]
theorem YK{efs:Efs}{i t p id:Nat}{d:D}{x:Operand}{d1 d':D}{n:TypeId}[LdT P ty n gg]
 (hp:facts an ks σ.env its i p=some (.ptr id off path)) (hb:bxk an i id efs (lk σ.bx id)=some (.var d0)) (hl:d0.loc path=some (off,d1))
 (hx:∀ τ:Sg,(∀ u x,facts an ks σ.env its i u=some x->τ.get u=some x)->ev C.gl τ x=some dx) (hpu:dx.pur=true) (hnp:dx.np=true)
 (hn:dx.sz=n) (hz:d1.sz=n) (hu:d0.upd path dx=some d') :
 SpE P C σ efs i [(id,.var d')] an ks its ⟨none,.store ty (.tmp p) x,rt,pos,aft,none⟩ t d:=by
 intro τ hn' hbk hfr hfa;have hbx:=hbk _ _ hb;refine⟨τ.putB id (.var d'),R.st (hfa _ _ hp) hbx hl (hx τ hfa) hpu hnp hn (hn.trans hz.symm) hu,rfl,TV hbx,λu y _ hy ha=>?_⟩;rw[ZQ,hy,D8,UA ha]
theorem u38{efs:Efs}{c:Nat}{s id t e z bytes:Nat}{d0':D}{x:Operand}{l l' l2:List D}[hT:SlT P ty e][hE:ElT P e z bytes]
 (hs:facts an ks σ.env its c s=some (.alb id off path)) (hb:bxk an c id efs (lk σ.bx id)=some (.var d0)) (hl:d0.loc path=some (off,.sl (some e) z l)) (hna:d0.noArr path=true) (hu:d0.upd path .dead=some d0')
 (hx:∀ τ:Sg,(∀ i x,i≠id->bxk an c i efs (lk σ.bx i)=some x->τ.box i=some x)->(∀ u x,facts an ks σ.env its c u=some x->x.albIn [id]=false->Nat.beq u s=false->τ.get u=some x)->SrcO C.gl τ x z l')
 (he:l++l'=l2) (hn:l.length+l'.length<=1073741824) (hst:s≠t) (hby:bytes<=131072) (hk:has ks c s=true) (ht:t<σ.n) :
 SpE P C σ efs c [(id,.var d0')] an ks its ⟨some t,.call { callee:=.builtin .append,args:=#[.tmp s,x],argTypes:=#[ty,ty] },rt,pos,aft,none⟩ t (.sl (some e) z l2):=by
 intro τ hτn hbk hfr hf;have hbτ:=hbk _ _ hb
 have hget:∀ u,((τ.putB id (.var d0')).upd s (.sl (some e) z l)).get u=if u=s then some (.sl (some e) z l) else(τ.get u).map (KJ id):=λu=>by
  rw[ZW,ZQ];by_cases hus:u=s
  ·subst hus;simp[hf _ _ hs]
  ·simp[hus]
 have hbx2:∀ i,((τ.putB id (.var d0')).upd s (.sl (some e) z l)).box i=(τ.putB id (.var d0')).box i:=λi=>rfl;refine⟨((τ.putB id (.var d0')).upd s (.sl (some e) z l)).kill s,NZ (hf _ _ hs) hbτ hl hna hu rfl (by rw[hget];simp) (hx _ (λi x hi hix=>?_) (λu x hux ha hus=>?_)) he hn (by rw[hτn];exact ht) hst hby,rfl,λi=>?_,λu y hk' hy ha=>?_⟩
 ·rw[hbx2,GL,z8 hi];exact hbk i x hix
 ·rw[hget,hf _ _ hux]
  have:¬ u=s:=λe=>by subst e;simp at hus
  simp[this,UA ha]
 ·exact TV hbτ i
 ·rw[XD,hget,hy];have:¬ u=s:=λe=>hk' c s (BA hk) e.symm rfl;have ha':y.albIn [id]=false:=ha;simp[this,UA ha']
end
theorem PY{z:Nat}:∀ (l:List D),(∀ x∈l,x.sz=z)->I2 l=l.length*z:=by
 intro l
 induction l with
 | nil=>intro _;simp
 | cons x r ih=>
  intro h;simp only[S3,j2];rw[h x (by simp),ih (λy hy=>h y (j5 _ hy)),c7,ZU,QD]
theorem DT{z:Nat}(l r:List D)(h:∀ x∈l,x.sz=z)(k:Nat)(hk:k<=l.length):offk (l++r) k=k*z:=by
 unfold offk;rw[U2 hk,PY (l.take k) (λx hx=>h x (Q8 hx)),v8,Z4 hk]
theorem j25{z:Nat}(l:List D)(h:∀ x∈l,x.sz=z)(m j:Nat)(hj:j<=m):offk (l++List.replicate m .dead) (l.length+j)=l.length*z+j:=by
 unfold offk;rw[List.take_append,Q0 (by omega),HK,PY l h]
 have:l.length+j-l.length=j:=by omega
 rw[this,List.take_replicate,Z4 hj,GJ]
theorem Rc.open{e z:Nat}{l:List D}(h:Rc w ρ G L true (.sl (some e) z l) [v] F)(hne:l≠[])(hF:F.Nodup) :
 ∃ b csb cap F1,v=.slice (some ⟨b,0,none⟩) l.length cap/\w.heap[b]? = some (.cells csb e (0,0))/\l.length<=cap/\cap<=maxLen/\(b::F1).Nodup/\(∀ y∈b::F1,y∈F) /\
  Rc w ρ G L true (.agg (l++List.replicate ((cap-l.length)*z) .dead)) csb.toList F1:=by
 generalize hv:[v]=cv at h
 cases h with
 | slN=>exact absurd rfl hne
 | slE=>exact absurd rfl hne
 | slO b cs e cap z l Fs hb hc hm hs ho hr=>
  cases hv;obtain⟨hn1,hn2⟩:=g0.1 hF;obtain⟨hn3,hn4⟩:=S4 hn2
  have hlz:l.length*z<=cs.size:=by rw[hs];exact u0 z hc
  have hsz:∀ x∈l,x.sz=z:=by
   intro x hx;obtain⟨i,hi,rfl⟩:=c9.1 hx;rw[<- (hr i hi).len];have:=u0 z (show i+1<=l.length by omega);rw[c7] at this;simp;omega
  have hcap:(cap-l.length)*z=cap*z-l.length*z:=Nat.sub_mul _ _ _
  let m:=(cap-l.length)*z
  refine⟨b,cs,cap,(List.range (l++List.replicate m D.dead).length).flatMap (λk=>if k<l.length then Fs k else[]),rfl,hb,hc,hm, ?_, ?_, ?_⟩
  ·refine g0.2 ⟨λhm'=>hn1 ?_,A8 (λi hi=>?_) (λi j hi hj hij y hy hy'=>?_)⟩
   ·obtain⟨i,_,hx⟩:=w6.1 hm';by_cases hil:i<l.length
    ·simp only[hil,w5] at hx;exact w6.2 ⟨i,z7.2 hil,hx⟩
    ·simp[hil] at hx
   ·by_cases hil:i<l.length
    ·simp only[hil,w5];exact hn3 i hil
    ·simp[hil]
   ·by_cases hil:i<l.length
    ·by_cases hjl:j<l.length
     ·simp only[hil,hjl,w5] at hy hy';exact hn4 i j hil hjl hij y hy hy'
     ·simp[hjl] at hy'
    ·simp[hil] at hy
  ·intro y hy
   rcases w8.1 hy with rfl|hy
   ·simp
   ·obtain⟨i,_,hx⟩:=w6.1 hy;by_cases hil:i<l.length
    ·simp only[hil,w5] at hx;exact j5 _ (w6.2 ⟨i,z7.2 hil,hx⟩)
    ·simp[hil] at hx
  ·refine .agg _ _ _ ?_ (λk hk=>?_)
   ·rw[HK,PY l hsz,GJ];simp only[n8,m];omega
   ·by_cases hkl:k<l.length
    ·simp only[o0 hkl,hkl,w5];rw[DT l _ hsz k (by omega),hsz _ (d7 hkl)];exact(hr k hkl).flag
    ·have hk':k<l.length+m:=by simpa using hk
     obtain⟨j,rfl⟩:∃ j,k=l.length+j:=⟨k-l.length,by omega⟩
     simp only[hkl,q8];rw[K9 (by omega),T7,j25 l hsz m j (by omega)]
     have hjl:l.length*z+j<cs.toList.length:=by simp only[n8,m] at hk' ⊢;omega
     have:(cs.toList.drop (l.length*z+j)).take 1=[cs.toList[l.length*z+j]]:=by
      rw[o9 hjl];rfl
     show Rc w ρ G L true .dead ((cs.toList.drop (l.length*z+j)).take 1) [];rw[this];exact .dead _ (ho _ (d7 hjl))
theorem u36{id id0 e z:Nat}{l:List D}{d1:D}{d2:Nat->D}(hb0:σ.box id0=some (.var d0))(hl:d0.loc path=some (off,.sl (some e) z l))(hna:d0.noArr path=true)(hu:d0.upd path .dead=some d1)
 (hl1:d1.loc path=some (off,.dead)) (hna1:d1.noArr path=true) (hu1:∀ cap,d1.upd path (.bs id z l.length cap)=some (d2 cap)) (hne:l≠[]) (hid:σ.box id=none) (hs:St C σ a w) :
 ∃ cap,l.length<=cap/\cap<=maxLen/\St C ⟨σ.n,σ.env,(id,.var (.agg (l++List.replicate ((cap-l.length)*z) .dead)))::setb id0 (.var (d2 cap)) σ.bx⟩ a w:=by
 obtain⟨ρ,Fe,Fb,st⟩:=hs;obtain⟨cs,e0,F',q1,q2,q3⟩:=st.bx id0 _ hb0
 have hnd:(ρ id0::F').Nodup:=by have:=st.nodB id0;rw[q3] at this;exact this
 obtain⟨hn1,hn2⟩:=g0.1 hnd;obtain⟨v,F1,F2,t1,t2,t3,t4,t5,t6,t7,t8,t9⟩:=q2.take hl hna hu hn2
 obtain⟨b,csb,cap,F3,rfl,o2,o3,o4,o5,o6,o7⟩:=t2.open hne t6
 have hii:id≠id0:=by rintro rfl;rw[hb0] at hid;cases hid
 have hbox:∀ i,(⟨σ.n,σ.env,(id,.var (.agg (l++List.replicate ((cap-l.length)*z) .dead)))::setb id0 (.var (d2 cap)) σ.bx⟩:Sg).box i=if i=id then some (.var (.agg (l++List.replicate ((cap-l.length)*z) .dead))) else if i=id0 then some (.var (d2 cap)) else σ.box i:=λi=>by
  show lk (_::_) i=_;rw[G4,PV];by_cases h1:i=id
  ·simp[h1]
  ·simp only[h1,show ¬ id=i from λe=>h1 e.symm,q8];by_cases h2:i=id0
   ·subst h2;have:lk σ.bx i=some (.var d0):=hb0;simp[this]
   ·simp[h2];rfl
 have hρ:∀ i,(σ.box i).isSome=true->(((⟨σ.n,σ.env,(id,.var (.agg (l++List.replicate ((cap-l.length)*z) .dead)))::setb id0 (.var (d2 cap)) σ.bx⟩:Sg).box i).isSome=true/\DQ ρ id b i=ρ i):=λi hi=>by
  have h1:i≠id:=by rintro rfl;rw[hid] at hi;cases hi
  refine⟨?_,i9 h1⟩;rw[hbox,z8 h1];by_cases h2:i=id0
  ·simp[h2]
  ·simpa [h2] using hi
 have hmo0:∀ {d:D} {cs:List Value} {F:List Nat},Rc w ρ (gd C Fe Fb) (λi=>(σ.box i).isSome=true) true d cs F ->
  Rc w (DQ ρ id b) (gd C Fe Fb) (λi=>((⟨σ.n,σ.env,(id,.var (.agg (l++List.replicate ((cap-l.length)*z) .dead)))::setb id0 (.var (d2 cap)) σ.bx⟩:Sg).box i).isSome=true) true d cs F:=
  λh=>h.mono (λ_ _ _=>rfl) (λy hy _=>hy) hρ
 have hoff:off<cs.toList.length:=(j4.1 t1).1;have hv:cs.toList[off]=.slice (some ⟨b,0,none⟩) l.length cap:=(j4.1 t1).2
 have hbsv:Rc w (DQ ρ id b) (gd C Fe Fb) (λi'=>((⟨σ.n,σ.env,(id,.var (.agg (l++List.replicate ((cap-l.length)*z) .dead)))::setb id0 (.var (d2 cap)) σ.bx⟩:Sg).box i').isSome=true) true (.bs id z l.length cap) [.slice (some ⟨b,0,none⟩) l.length cap] []:=by
  have:=Rc.bs (w:=w) (ρ:=DQ ρ id b) (G:=gd C Fe Fb) (L:=λi'=>((⟨σ.n,σ.env,(id,.var (.agg (l++List.replicate ((cap-l.length)*z) .dead)))::setb id0 (.var (d2 cap)) σ.bx⟩:Sg).box i').isSome=true) id z l.length cap (by rw[hbox];simp) o3
  rwa [JD] at this
 obtain⟨F4,r1,r2,r3,_,_⟩:=(hmo0 t3).updP hl1 (hu1 cap) rfl hbsv t7 u5 (by simp) hna1
 have hcs:cs.toList.take off++[Value.slice (some ⟨b,0,none⟩) l.length cap]++cs.toList.drop (off+1)=cs.toList:=by
  rw[<- hv,w3,List.singleton_append,<- o9 hoff,K8]
 simp only[n7] at r1;rw[hcs] at r1;have r2':∀ y∈F4,y∈F2:=λy hy=>(r2 y hy).resolve_right (by simp)
 -- who owns what
 let Fb':Nat->List Nat:=upd (upd Fb id0 (ρ id0::F4)) id (b::F3)
 have hF2:∀ y∈ρ id0::F4,y∈Fb id0:=λy hy=>by
  rw[q3];rcases w8.1 hy with rfl|hy
  ·simp
  ·exact j5 _ (t5 y (r2' y hy))
 have hF3:∀ y∈b::F3,y∈Fb id0:=λy hy=>by rw[q3];exact j5 _ (t4 y (o6 y hy))
 have hF23:∀ y∈b::F3,y∉ρ id0::F4:=λy hy hy'=>by
  rcases w8.1 hy' with rfl|hy'
  ·exact hn1 (t4 _ (o6 _ hy))
  ·exact t8 y (o6 y hy) (r2' y hy')
 have hsub:∀ i,∀ y∈Fb' i,(i=id∨i=id0)/\y∈Fb id0∨(i≠id/\i≠id0/\y∈Fb i):=λi y hy=>by
  by_cases h1:i=id
  ·subst h1;simp only[Fb',m7] at hy;exact .inl ⟨.inl rfl,hF3 y hy⟩
  ·simp only[Fb',j6 h1] at hy;by_cases h2:i=id0
   ·subst h2;rw[m7] at hy;exact .inl ⟨.inr rfl,hF2 y hy⟩
   ·rw[j6 h2] at hy;exact .inr ⟨h1,h2,hy⟩
 have hown:∀ y,own Fe Fb' y->own Fe Fb y:=λy hy=>hy.imp (λh=>h) λ⟨i,hi⟩=>by
  rcases hsub i y hi with ⟨_,h⟩|⟨_,_,h⟩
  ·exact⟨id0,h⟩
  ·exact⟨i,h⟩
 have hg:∀ y,gd C Fe Fb y->gd C Fe Fb' y:=λy hy=>⟨hy.1,λhc=>hy.2 (hown y hc)⟩
 have hmo:∀ {d:D} {cs:List Value} {F:List Nat},Rc w ρ (gd C Fe Fb) (λi=>(σ.box i).isSome=true) true d cs F ->
  Rc w (DQ ρ id b) (gd C Fe Fb') (λi=>((⟨σ.n,σ.env,(id,.var (.agg (l++List.replicate ((cap-l.length)*z) .dead)))::setb id0 (.var (d2 cap)) σ.bx⟩:Sg).box i).isSome=true) true d cs F:=
  λh=>h.mono (λ_ _ _=>rfl) (λy hy _=>hg y hy) hρ
 refine⟨cap,o3,o4,DQ ρ id b,Fe,Fb',{
  size:=st.size
  defs:=st.defs
  pin:=λi y hp=>?_
  env:=λu d hd=>q38 (st.env u d hd) (λ_ _ _=>rfl) (λy hy _=>hg y hy) hρ (λ_ _ _ _ _=>rfl)
  envN:=λu hu=>st.envN u hu
  bx:=λi x hx=>?_
  bxN:=λi hx=>?_
  nodE:=st.nodE
  nodB:=λi=>?_
  dEE:=st.dEE
  dEB:=λu i y h1 h2=>?_
  dBB:=λi i' hne y h1 h2=>?_
  new:=λy hy=>st.new y (hown y hy)
  kept:=st.kept
  os:=st.os
  tape:=⟨st.tape.tp,st.tape.dr⟩
  output:=st.output
  grown:=st.grown
  gl:=st.gl
  okN:=st.okN
  okO:=λy hy=>st.okO y (hown y hy) }⟩
 ·have:=hρ i (st.pin i y hp).2;exact⟨this.2.trans (st.pin i y hp).1,this.1⟩
 ·rw[hbox] at hx;by_cases h1:i=id
  ·subst h1;simp only[w5,z9] at hx;subst hx;refine⟨csb,e,F3, ?_,hmo o7, ?_⟩
   ·rw[JD];exact o2
   ·simp only[Fb',m7,JD]
  ·simp only[h1,q8] at hx;by_cases h2:i=id0
   ·subst h2;simp only[w5,z9] at hx;subst hx;refine⟨cs,e0,F4, ?_,r1.mono (λ_ _ _=>rfl) (λy hy _=>hg y hy) (λi hi=>⟨hi,rfl⟩), ?_⟩
    ·rw[i9 h1];exact q1
    ·simp only[Fb',j6 h1,m7,i9 h1]
   ·simp only[h2,q8] at hx;simp only[Fb',j6 h1,j6 h2,i9 h1];exact(st.bx i x hx).mono (λ_ _ _=>rfl) (λy hy _=>hg y hy) hρ
 ·rw[hbox] at hx;by_cases h1:i=id
  ·simp[h1] at hx
  ·simp only[h1,q8] at hx;by_cases h2:i=id0
   ·simp[h2] at hx
   ·simp only[h2,q8] at hx;simp only[Fb',j6 h1,j6 h2];exact st.bxN i hx
 ·by_cases h1:i=id
  ·subst h1;simp only[Fb',m7];exact o5
  ·simp only[Fb',j6 h1];by_cases h2:i=id0
   ·subst h2;rw[m7];exact g0.2 ⟨λhm=>hn1 (t5 _ (r2' _ hm)),r3⟩
   ·rw[j6 h2];exact st.nodB i
 ·rcases hsub i y h2 with ⟨_,h⟩|⟨_,_,h⟩
  ·exact st.dEB u id0 y h1 h
  ·exact st.dEB u i y h1 h
 ·by_cases h3:i=id
  ·subst h3;simp only[Fb',m7] at h1;simp only[Fb',j6 (λe=>hne e.symm)] at h2;by_cases h4:i'=id0
   ·subst h4;rw[m7] at h2;exact hF23 y h1 h2
   ·rw[j6 h4] at h2;exact st.dBB id0 i' (λe=>h4 e.symm) y (hF3 y h1) h2
  ·simp only[Fb',j6 h3] at h1;by_cases h5:i'=id
   ·subst h5;simp only[Fb',m7] at h2;by_cases h4:i=id0
    ·subst h4;rw[m7] at h1;exact hF23 y h2 h1
    ·rw[j6 h4] at h1;exact st.dBB i id0 h4 y h1 (hF3 y h2)
   ·simp only[Fb',j6 h5] at h2;by_cases h4:i=id0
    ·subst h4;rw[m7] at h1;rw[j6 (λe=>hne e.symm)] at h2;exact st.dBB i i' hne y (hF2 y h1) h2
    ·rw[j6 h4] at h1;by_cases h6:i'=id0
     ·subst h6;rw[m7] at h2;exact st.dBB i i' h4 y h1 (hF2 y h2)
     ·rw[j6 h6] at h2;exact st.dBB i i' hne y h1 h2
theorem q36{c:Code}(id id0:Nat)(path:List Nat){e z:Nat}{l:List D}{d1:D}{d2:Nat->D}(hb0:σ.box id0=some (.var d0))(hl:d0.loc path=some (off,.sl (some e) z l))(hna:d0.noArr path=true)(hu:d0.upd path .dead=some d1)
 (hl1:d1.loc path=some (off,.dead)) (hna1:d1.noArr path=true) (hu1:∀ cap,d1.upd path (.bs id z l.length cap)=some (d2 cap)) (hne:l≠[]) (hid:σ.box id=none) {bx':Nat->List (Nat×Bx)} (hbx:∀ cap,setb id0 (.var (d2 cap)) σ.bx=bx' cap)
 (k:∀ cap m:Nat,l.length<=cap->cap<=maxLen->m=(cap-l.length)*z->W P C c Q ⟨σ.n,σ.env,(id,.var (.agg (l++List.replicate m .dead)))::bx' cap⟩):W P C c Q σ:=by
 intro a w hs;obtain⟨cap,h1,h2,h3⟩:=u36 hb0 hl hna hu hl1 hna1 hu1 hne hid hs;rw[hbx] at h3;exact k cap _ h1 h2 rfl a w h3
theorem u34{id id0 z n cap:Nat}{l:List D}{d0':D}{ids:List Nat}(hb0:σ.box id0=some (.var d0))(hb:σ.box id=some (.var (.agg (l++List.replicate m .dead))))(hii:id0≠id)
 (hl:d0.loc path=some (off,.bs id z n cap)) (hna:d0.noArr path=true) (hu:d0.upd path (.sl none z l)=some d0') (hn:l.length=n)
 (hp:∀ x∈l,x.pur=true) (hnp:∀ x∈l,x.np=true) (hz:∀ x∈l,x.sz=z) (hE:QW ids σ.env=true) (hkeep:E1 ids (setb id0 (.var d0') σ.bx)=bx') (hoB:PR ids bx'=true) (hid:J2 ids id=false)
 (hpn:∀ id b,C.pin id=some b->J2 ids id=true) (hs:St C σ a w):St C ⟨σ.n,σ.env,bx'⟩ a w:=by
 subst hn;obtain⟨ρ,Fe,Fb,st⟩:=hs;obtain⟨cs,e0,F',q1,q2,q3⟩:=st.bx id0 _ hb0;obtain⟨csb,e1,F1,p1,p2,p3⟩:=st.bx id _ hb
 have hnd:(ρ id0::F').Nodup:=by have:=st.nodB id0;rw[q3] at this;exact this
 obtain⟨hn1,hn2⟩:=g0.1 hnd
 have hbl:∀ u,lk bx' u=if J2 ids u then(if u=id0 then some (.var d0') else σ.box u) else none:=λu=>by
  rw[<- hkeep,QH];by_cases h1:J2 ids u=true
  ·simp only[h1,w5,PV];by_cases h2:u=id0
   ·subst h2;have:lk σ.bx u=some (.var d0):=hb0;simp[this]
   ·simp[h2];rfl
  ·simp[h1]
 have hLb:∀ i,(J2 ids i=true/\(σ.box i).isSome=true)->(lk bx' i).isSome=true:=λi ⟨h1,h2⟩=>by
  rw[hbl,j7 h1];by_cases h3:i=id0<;>simp[h3,h2]
 -- the block of box id may be read,and what box id0 holds
 let G0:Nat->Prop:=λy=>gd C Fe Fb y∨y=ρ id
 have hid_in:ρ id∈Fb id:=by rw[p3];simp
 obtain⟨F5,u1,u2,u3⟩:=q2.loc hl
 have hval:∃ v,(cs.toList.drop off).take 1=[v]/\v=Value.slice (some ⟨ρ id,0,none⟩) l.length cap/\l.length<=cap:=by
  generalize hcc:(cs.toList.drop off).take (D.bs id z l.length cap).sz=cc at u1
  cases u1 with
  | bs _ _ _ _ hL hc=>exact⟨_,hcc,rfl,hc⟩
 obtain⟨v,hv1,hv2,hcap⟩:=hval;subst hv2
 have hoff:off<cs.toList.length:=by
  have:off+(D.bs id z l.length cap).sz<=cs.toList.length:=u3;simp[D.sz] at this;simp;omega
 have hv:cs.toList[off]=.slice (some ⟨ρ id,0,none⟩) l.length cap:=by
  rw[o9 hoff] at hv1;simpa using hv1
 have hszl:=PY l hz
 have hclen:csb.toList.length=l.length*z+m:=by rw[p2.len,JC,HK,hszl,GJ]
 have hsl:Rc w ρ G0 (λi=>(σ.box i).isSome=true) true (.sl none z l) [.slice (some ⟨ρ id,0,none⟩) l.length cap] []:=by
  refine .slI (ρ id) 0 csb e1 (0,0) cap z l p1 (.inr rfl) hcap (by simp at hclen;omega) (λi hi=>?_);generalize hdd:D.agg (l++List.replicate m D.dead)=dd at p2;generalize hcl:csb.toList=cl at p2
  cases p2 with
  | agg l0 _ Fs hs hr=>
   cases hdd
   have hi':i<(l++List.replicate m D.dead).length:=by simp;omega
   have h1:=hr i hi';rw[o0 hi] at h1;rw[DT l _ hz i (by omega),hz _ (d7 hi)] at h1;have h2:=h1.pur (hp _ (d7 hi));rw[h2] at h1;rw[m5];exact(h1.unflag (hnp _ (d7 hi))).mono (λ_ _ _=>rfl) (λy hy _=>.inl hy) (λi hi=>⟨hi,rfl⟩)
  | _=>cases hdd
 obtain⟨F4,r1,r2,r3,_,_⟩:=(q2.mono (G':=G0) (λ_ _ _=>rfl) (λy hy _=>.inl hy) (λi hi=>⟨hi,rfl⟩)).updP hl hu rfl hsl hn2 u5 (by simp) hna
 have hcs:cs.toList.take off++[Value.slice (some ⟨ρ id,0,none⟩) l.length cap]++cs.toList.drop (off+1)=cs.toList:=by
  rw[<- hv,w3,List.singleton_append,<- o9 hoff,K8]
 simp only[n7] at r1;rw[hcs] at r1;have r2':∀ y∈F4,y∈F':=λy hy=>(r2 y hy).resolve_right (by simp)
 let Fb':Nat->List Nat:=λi=>if J2 ids i then(if i=id0 then ρ id0::F4 else Fb i) else[]
 have hsub:∀ i,∀ y∈Fb' i,J2 ids i=true/\y∈Fb i:=λi y hy=>by
  by_cases h1:J2 ids i=true
  ·refine⟨h1, ?_⟩;simp only[Fb',h1,w5] at hy;by_cases h2:i=id0
   ·subst h2;simp only[w5] at hy;rw[q3]
    rcases w8.1 hy with rfl|hy
    ·simp
    ·exact j5 _ (r2' y hy)
   ·simpa [h2] using hy
  ·simp[Fb',h1] at hy
 have hown:∀ y,own Fe Fb' y->own Fe Fb y:=λy hy=>hy.imp (λh=>h) λ⟨i,hi⟩=>⟨i,(hsub i y hi).2⟩
 have hg:∀ y,gd C Fe Fb y->gd C Fe Fb' y:=λy hy=>⟨hy.1,λhc=>hy.2 (hown y hc)⟩
 have hgb:gd C Fe Fb' (ρ id):=⟨st.okO _ (.inr ⟨id,hid_in⟩),by
  rintro (⟨u,hu'⟩|⟨i,hi⟩)
  ·exact st.dEB u id _ hu' hid_in
  ·obtain⟨h1,h2⟩:=hsub i _ hi
   have:i≠id:=by rintro rfl;rw[hid] at h1;cases h1
   exact st.dBB i id this _ h2 hid_in⟩
 have hg0:∀ y,G0 y->gd C Fe Fb' y:=λy hy=>hy.elim (hg y) (λe=>e▸hgb)
 refine⟨ρ,Fe,Fb',{
  size:=st.size
  defs:=st.defs
  pin:=λi y hp=>⟨(st.pin i y hp).1,hLb i ⟨hpn i y hp,(st.pin i y hp).2⟩⟩
  env:=λu d hd=>(st.env u d hd).okB (QV hE hd) (λy hy _=>hg y hy) hLb
  envN:=st.envN
  bx:=λi x hx=>?_
  bxN:=λi hx=>?_
  nodE:=st.nodE
  nodB:=λi=>?_
  dEE:=st.dEE
  dEB:=λu i y h1 h2=>st.dEB u i y h1 (hsub i y h2).2
  dBB:=λi i' hne y h1 h2=>st.dBB i i' hne y (hsub i y h1).2 (hsub i' y h2).2
  new:=λy hy=>st.new y (hown y hy)
  kept:=st.kept
  os:=st.os
  tape:=⟨st.tape.tp,st.tape.dr⟩
  output:=st.output
  grown:=st.grown
  gl:=st.gl
  okN:=st.okN
  okO:=λy hy=>st.okO y (hown y hy) }⟩
 ·obtain⟨x,rfl,hok⟩:=PL hoB hx;have h1:=hbl i;rw[show lk bx' i=some (.var x) from hx] at h1;by_cases hm:J2 ids i=true
  ·rw[j7 hm] at h1;by_cases h2:i=id0
   ·subst h2;simp only[w5,z9,Bx.var.injEq] at h1;subst h1;exact⟨cs,e0,F4,q1,(r1.okB hok).mono (λ_ _ _=>rfl) (λy hy _=>hg0 y hy) (λj hj=>⟨hLb j hj,rfl⟩),by simp only[Fb',hm,w5]⟩
   ·simp only[h2,q8] at h1;obtain⟨cs',e',F'',h3,h4,h5⟩:=st.bx i _ h1.symm;exact⟨cs',e',F'',h3,(h4.okB hok).mono (λ_ _ _=>rfl) (λy hy _=>hg y hy) (λj hj=>⟨hLb j hj,rfl⟩),by simp only[Fb',hm,h2,w5,q8];exact h5⟩
  ·rw[z8 hm] at h1;cases h1
 ·have h1:=hbl i;rw[show lk bx' i=none from hx] at h1;by_cases hm:J2 ids i=true
  ·rw[j7 hm] at h1;by_cases h2:i=id0
   ·simp[h2] at h1
   ·simp only[h2,q8] at h1;simp only[Fb',hm,h2,w5,q8];exact st.bxN i h1.symm
  ·simp[Fb',hm]
 ·by_cases hm:J2 ids i=true
  ·simp only[Fb',hm,w5];by_cases h2:i=id0
   ·subst h2;simp only[w5];exact g0.2 ⟨λh=>hn1 (r2' _ h),r3⟩
   ·simp only[h2,q8];exact st.nodB i
  ·simp[Fb',hm]
theorem XK{c:Code}(id id0:Nat)(path:List Nat)(ids:List Nat){z n cap:Nat}{l:List D}{d0':D}(hb0:σ.box id0=some (.var d0))(hb:σ.box id=some (.var (.agg (l++List.replicate m .dead))))(hii:id0≠id)
 (hl:d0.loc path=some (off,.bs id z n cap)) (hna:d0.noArr path=true) (hu:d0.upd path (.sl none z l)=some d0') (hn:l.length=n)
 (hp:∀ x∈l,x.pur=true) (hnp:∀ x∈l,x.np=true) (hz:∀ x∈l,x.sz=z) (hE:QW ids σ.env=true) (hkeep:E1 ids (setb id0 (.var d0') σ.bx)=bx') (hoB:PR ids bx'=true) (hid:J2 ids id=false)
 (hpn:∀ id b,C.pin id=some b->J2 ids id=true) (k:W P C c Q ⟨σ.n,σ.env,bx'⟩):W P C c Q σ:=
 λa w hs=>k a w (u34 hb0 hb hii hl hna hu hn hp hnp hz hE hkeep hoB hid hpn hs)
end
section
variable{pos:String}{aft:Array Edge}{g:Option (Nat×Bool)}
variable{P:Program}{C:Ctx}{σ σ' σ1:Sg}{a:Act}{w w':World}{ρ:Nat->Nat}{Fe Fe' Fb:Nat->List Nat}
def l6(σ:Sg):List Nat->Sg
 | []=>σ
 | s::r=>l6 (σ.kill s) r
theorem EU:∀ (S:List Nat) (σ:Sg),(l6 σ S).n=σ.n/\(l6 σ S).bx=σ.bx:=by
 intro S
 induction S with
 | nil=>intro σ;exact⟨rfl,rfl⟩
 | cons s r ih=>intro σ;exact ih (σ.kill s)
theorem JN:∀ (S:List Nat) (σ:Sg) (u:Nat),(l6 σ S).get u=if u∈S then some .dead else σ.get u:=by
 intro S
 induction S with
 | nil=>intro σ u;simp[l6]
 | cons s r ih=>
  intro σ u;simp only[l6];rw[ih,XD];by_cases h1:u∈r
  ·simp[h1]
  ·by_cases h2:u=s
   ·simp[h2]
   ·simp[h1,h2]
theorem StW.takeL{S:List Nat}{t:Nat}{d:D}(h:StW C σ a w ρ Fe Fb)(ht:t<σ.n)(hst:t∉S)(hS:∀ s∈S,∃ d0,σ.get s=some d0)
 (hF:F.Nodup) (hFs:∀ b∈F,∃ s∈S,b∈Fe s)
 (hv:SR w ρ (gd C (upd (λu=>if u∈S then[] else Fe u) t F) Fb) (λid=>(σ.box id).isSome) (a.put (some t) v) t d F) :
 StW C ((l6 σ S).set t d) (a.put (some t) v) w ρ (upd (λu=>if u∈S then[] else Fe u) t F) Fb:=by
 have hsz:t<a.tmps.size:=by rw[h.size];exact ht
 let Fx:Nat->List Nat:=upd (λu=>if u∈S then[] else Fe u) t F
 have hFx:∀ u,u≠t->∀ b∈Fx u,b∈Fe u/\u∉S:=λu hut b hb=>by
  simp only[Fx,j6 hut] at hb;by_cases hus:u∈S
  ·simp[hus] at hb
  ·simp only[hus,q8] at hb;exact⟨hb,hus⟩
 have hFt:Fx t=F:=by simp[Fx]
 have ho:∀ b,own Fx Fb b->own Fe Fb b:=by
  rintro b (⟨u,hu⟩|hid)
  ·by_cases hut:u=t
   ·subst hut;rw[hFt] at hu;obtain⟨s,_,hs⟩:=hFs b hu;exact .inl ⟨s,hs⟩
   ·exact .inl ⟨u,(hFx u hut b hu).1⟩
  ·exact .inr hid
 have hg:∀ b,gd C Fe Fb b->gd C Fx Fb b:=λb hb=>⟨hb.1,λhc=>hb.2 (ho b hc)⟩
 obtain⟨hn,hbx⟩:=EU S σ
 have hbox:∀ id,((l6 σ S).set t d).box id=σ.box id:=λid=>by
  show lk (l6 σ S).bx id=_;rw[hbx];rfl
 have hLf:(λid=>(((l6 σ S).set t d).box id).isSome=true)=λid=>(σ.box id).isSome=true:=by funext id;rw[hbox]
 have hnotF:∀ u,u≠t->∀ b∈Fx u,b∉F:=λu hut b hb hbF=>by
  obtain⟨h1,h2⟩:=hFx u hut b hb;obtain⟨s,hs,h3⟩:=hFs b hbF;exact h.dEE u s (λe=>h2 (e▸hs)) b h1 h3
 refine {
  size:=?_
  defs:=h.defs
  pin:=λid b hp=>by rw[hbox];exact h.pin id b hp
  env:=λu x hx=>?_
  envN:=λu hu=>?_
  bx:=λid x hx=>by rw[hLf];exact(h.bx id x (by rw[<- hbox];exact hx)).mono (λ_ _ _=>rfl) (λb hb _=>hg b hb) (λi hi=>⟨hi,rfl⟩)
  bxN:=λid hx=>h.bxN id (by rw[<- hbox];exact hx)
  nodE:=λu=>?_
  nodB:=h.nodB
  dEE:=λu u' huu b hb hb'=>?_
  dEB:=λu id b hb hb'=>?_
  dBB:=h.dBB
  new:=λb hb=>h.new b (ho b hb)
  kept:=h.kept
  os:=h.os
  tape:=⟨h.tape.tp,h.tape.dr⟩
  output:=h.output
  grown:=h.grown
  gl:=h.gl
  okN:=h.okN
  okO:=λb hb=>h.okO b (ho b hb) }
 ·simp[Act.put,h.size,hn]
 ·rw[hLf];rw[E2] at hx;by_cases hut:u=t
  ·subst hut;simp at hx;subst hx;simp only[m7];exact hv
  ·simp only[hut,q8] at hx;obtain⟨d1,hd1,rfl⟩:=Q3.1 hx;rw[JN] at hd1;by_cases hus:u∈S
   ·simp only[hus,w5,z9] at hd1;subst hd1;obtain⟨d0,hd0⟩:=hS u hus;obtain⟨v0,hv0⟩:=(h.env u d0 hd0).there;refine⟨by simp[j6 hut,hus],v0,by rw[U7 a t v u hsz];simp[hut,hv0]⟩
   ·simp only[hus,q8] at hd1
    have hFu:upd (λu=>if u∈S then[] else Fe u) t F u=Fe u:=by simp[j6 hut,hus]
    rw[hFu];exact YJ hut hsz (h.env u d1 hd1) (λ_ _ _=>rfl) (λb hb _=>hg b hb) (λid hid=>⟨hid,rfl⟩) (λ_ _ _ _ h=>h)
 ·rw[E2] at hu;by_cases hut:u=t
  ·simp[hut] at hu
  ·simp only[hut,q8,Z0] at hu;rw[JN] at hu;by_cases hus:u∈S
   ·simp[hus] at hu
   ·simp only[hus,q8] at hu;simp[j6 hut,hus,h.envN u hu]
 ·by_cases hut:u=t
  ·subst hut;simpa using hF
  ·simp only[j6 hut];split
   ·exact u5
   ·exact h.nodE u
 ·by_cases hut:u=t
  ·subst hut
   have hb1:b∈F:=by rw[<- hFt];exact hb
   exact hnotF u' (λe=>huu e.symm) b hb' hb1
  ·by_cases hut':u'=t
   ·subst hut'
    have hb1:b∈F:=by rw[<- hFt];exact hb'
    exact hnotF u hut b hb hb1
   ·exact h.dEE u u' huu b (hFx u hut b hb).1 (hFx u' hut' b hb').1
 ·by_cases hut:u=t
  ·subst hut
   have hb1:b∈F:=by rw[<- hFt];exact hb
   obtain⟨s,_,hs⟩:=hFs b hb1;exact h.dEB s id b hs hb'
  ·exact h.dEB u id b (hFx u hut b hb).1 hb'
inductive EvO(gl:List (Nat×D))(σ:Sg)(l0:List D):List (Nat×Operand)->List D->List D->List Nat->Prop
 | nil {l l':List D} (h:l=l'):EvO gl σ l0 [] l l' []
 | pur {i:Nat} {x:Operand} {d:D} {ps:List (Nat×Operand)} {l l':List D} {S:List Nat} (h:ev gl σ x=some d) (hp:d.pur=true) (hn:d.np=true) (hz:(l0[i]?).map D.sz=some d.sz) (t:EvO gl σ l0 ps (l.set i d) l' S):EvO gl σ l0 ((i,x)::ps) l l' S
 | own {i s:Nat} {d:D} {ps:List (Nat×Operand)} {l l':List D} {S:List Nat} (h:σ.get s=some d) (hr:d.isRef=false) (hn:d.np=true) (hz:(l0[i]?).map D.sz=some d.sz) (hs:S.contains s=false) (t:EvO gl σ l0 ps (l.set i d) l' S):EvO gl σ l0 ((i,.tmp s)::ps) l l' (s::S)
theorem x21{l l0:List D}{i:Nat}{d:D}(hz:l.map D.sz=l0.map D.sz)(h:(l0[i]?).map D.sz=some d.sz):(l.set i d).map D.sz=l0.map D.sz:=by
 rw[QC,<- hz]
 have h2:(l.map D.sz)[i]? = some d.sz:=by rw[hz,G9];exact h
 apply J8;intro j;rw[W7];split
 ·rename_i hij;subst hij;rw[h2];have:=(j4.1 h2).1;simp only[this,w5]
 ·rfl
theorem z24{l l0:List D}{i:Nat}{d:D}{xc:List Value}{Fx:List Nat}{cs:Array Value}(hxc:v.cells.toList=xc)(hrc:Rc w ρ G L false d xc Fx)(hz:l.map D.sz=l0.map D.sz)(p3:(l0[i]?).map D.sz=some d.sz)
 (hr:Rc w ρ G L false (.agg l) cs.toList F) (hF:F.Nodup) (hFx:Fx.Nodup) (hdis:∀ b∈Fx,b∉F) :
 ∃ out F',(offl l0 0).toArray[i]? = some (offk l i,d.sz)/\v.cells.size=d.sz/\¬ (cs.size<offk l i+d.sz)/\v.cells.zipIdx.foldl (λ(c:Array Value) (p:Value×Nat)=>c.setIfInBounds (offk l i+p.2) p.1) cs=out /\
  Rc w ρ G L false (.agg (l.set i d)) out.toList F'/\F'.Nodup/\∀ b∈F',b∈F∨b∈Fx:=by
 have hlen:=hrc.len
 cases hl0:l0[i]? with
 | none=>rw[hl0] at p3;cases p3
 | some d0=>
  obtain⟨hi,rfl⟩:=j4.1 hl0;rw[hl0] at p3;simp only[D8,z9] at p3
  have hll:l.length=l0.length:=by have:=g6 List.length hz;simpa using this
  have hi2:i<l.length:=by omega
  have hsi:l[i].sz=d.sz:=by
   have:(l.map D.sz)[i]'(by simpa using hi2)=(l0.map D.sz)[i]'(by simpa using hi):=by simp only[hz]
   simp at this;omega
  have hoff:offk l i=offk l0 i:=by
   have hs:∀ (u v:List D),u.map D.sz=v.map D.sz->I2 u=I2 v:=by
    intro u
    induction u with
    | nil=>intro v hv;cases v<;>simp_all
    | cons a u ihu=>intro v hv;cases v with
     | nil=>simp at hv
     | cons b v=>simp at hv;simp[hv.1,ihu v hv.2]
   unfold offk;exact hs _ _ (by rw[U6,U6,hz])
  have hlo:=f7 l i hi2;have hcl:=hr.len;simp only[JC,n8] at hcl
  have hloc:(D.agg l).loc [i]=some (offk l i,l[i]):=by simp[D.loc,j9 hi2]
  have hupd:(D.agg l).upd [i] d=some (.agg (l.set i d)):=by simp[D.upd,j9 hi2]
  have hnoa:(D.agg l).noArr [i]=true:=by simp[D.noArr,j9 hi2]
  obtain⟨F2,g1,g2,g3,_⟩:=hr.upd hloc hupd hsi.symm hrc hF hFx hdis (.inr hnoa);have hfold:=UY cs xc (offk l i) 0 (by omega);simp only[X7] at hfold
  have hcs2:(v.cells.zipIdx.foldl (λ(c:Array Value) (p:Value×Nat)=>c.setIfInBounds (offk l i+p.2) p.1) cs).toList=cs.toList.take (offk l i)++xc++cs.toList.drop (offk l i+xc.length):=by
   rw[<- hfold,<- hxc,<- N2];simp
  rw[<- hcs2] at g1;refine⟨_,F2, ?_, ?_,by omega,rfl,g1,g3,g2⟩
  ·rw[C0,IK l0 0 i hi,hoff,m5,<- p3]
  ·rw[<- n8,hxc,hlen]
theorem q17(st:StW C σ a w ρ Fe Fb){l0:List D}(hG:∀ b,gd C Fe Fb b->G b){ps:List (Nat×Operand)}{l l':List D}{S:List Nat}(h:EvO C.gl σ l0 ps l l' S) :
 ∀ (cs:Array Value) (F:List Nat),l.map D.sz=l0.map D.sz->Rc w ρ G (λid=>(σ.box id).isSome=true) false (.agg l) cs.toList F->F.Nodup->(∀ s∈S,∀ b∈Fe s,b∉F) ->
  ∃ (out:Array Value) (F':List Nat),Instr.fill ((offl l0 0).toArray[·]?) cs (ps.map (λp=>(p.1,a.eval p.2)))=some out/\Rc w ρ G (λid=>(σ.box id).isSome=true) false (.agg l') out.toList F'/\F'.Nodup/\∀ b∈F',b∈F∨∃ s∈S,b∈Fe s:=by
 induction h with
 | nil h=>subst h;intro cs F _ hr hF _;exact⟨cs,F,rfl,hr,hF,λb hb=>.inl hb⟩
 | @pur i x d ps l l' S h hp hn hz t ih=>
  intro cs F hzz hr hF hS;obtain⟨xc,hxc,hrc⟩:=XB st h hp;have hrc2:=(hrc.unflag hn).mono (G':=G) (L':=λid=>(σ.box id).isSome=true) (ρ':=ρ) (λ_ _ _=>rfl) (λb hb _=>hG b hb) (λi hi=>⟨hi,rfl⟩);obtain⟨out,F',e1,e2,e3,e4,e5,e6,e7⟩:=z24 hxc hrc2 hzz hz hr hF u5 (by simp);have e7':∀ b∈F',b∈F:=λb hb=>(e7 b hb).resolve_right (by simp);obtain⟨out2,F2,f1,f2,f3,f4⟩:=ih out F' (x21 hzz hz) e5 e6 (λs hs b hb hb'=>hS s hs b hb (e7' b hb'));refine⟨out2,F2, ?_,f2,f3,λb hb=>(f4 b hb).imp (e7' b) id⟩;simp only[d9,Instr.fill,e1,e2];rw[z8 (by simp;omega),e4];exact f1
 | @own i s d ps l l' S h hr0 hn hz hs t ih=>
  intro cs F hzz hr hF hS;obtain⟨v,hv,hvr⟩:=(m9 hr0).1 (st.env _ _ h)
  have hdead:d≠.dead:=by rintro rfl;simp[D.isRef] at hr0
  have hrc:=hvr.cells hdead;have hrc2:=(hrc.unflag hn).mono (G':=G) (L':=λid=>(σ.box id).isSome=true) (ρ':=ρ) (λ_ _ _=>rfl) (λb hb _=>hG b hb) (λi hi=>⟨hi,rfl⟩);obtain⟨out,F',e1,e2,e3,e4,e5,e6,e7⟩:=z24 (v:=v) rfl hrc2 hzz hz hr hF (st.nodE s) (λb hb=>hS s (by simp) b hb)
  have hs':s∉S:=by intro hm;rw[H0.2 hm] at hs;cases hs
  obtain⟨out2,F2,f1,f2,f3,f4⟩:=ih out F' (x21 hzz hz) e5 e6 (λs' hs1 b hb hb'=>by
   rcases e7 b hb' with h1|h1
   ·exact hS s' (j5 _ hs1) b hb h1
   ·exact st.dEE s' s (λe=>hs' (e▸hs1)) b hb h1)
  refine⟨out2,F2, ?_,f2,f3,λb hb=>?_⟩
  ·simp only[d9,Instr.fill,K1 hv,e1,e2];rw[z8 (by simp;omega),e4];exact f1
  ·rcases f4 b hb with h1|⟨s',hs1,h1⟩
   ·rcases e7 b h1 with h2|h2
    ·exact .inl h2
    ·exact .inr ⟨s,by simp,h2⟩
   ·exact .inr ⟨s',j5 _ hs1,h1⟩
theorem EvO.there{gl:List (Nat×D)}{l0:List D}{ps:List (Nat×Operand)}{l l':List D}{S:List Nat}(h:EvO gl σ l0 ps l l' S):∀ s∈S,∃ d0,σ.get s=some d0:=by
 induction h with
 | nil=>intro s hs;cases hs
 | pur _ _ _ _ _ ih=>exact ih
 | own h _ _ _ _ _ ih=>
  intro s hs
  rcases w8.1 hs with rfl|hs
  ·exact⟨_,h⟩
  ·exact ih s hs
theorem R.bldO{t:Nat}{ps:List (Nat×Operand)}{l l':List D}{S:List Nat}[hT:BsT P ty l]
 (hps:EvO C.gl σ l ps l l' S) (hS:S.contains t=false) (ht:t<σ.n) :
 OpS P C ⟨some t,.build ty ps.toArray,rt,pos,aft,g⟩ σ ((l6 σ S).set t (.agg l')):=by
 refine OpS.value λa w ⟨ρ,Fe,Fb,st⟩=>?_;obtain⟨fs,it,zv,h1,h2,h3,h4,h5⟩:=hT.i
 have htS:t∉S:=by intro hm;rw[H0.2 hm] at hS;cases hS
 obtain⟨out,F,q1,q2,q3,q4⟩:=q17 st (G:=gd C Fe Fb) (λ_ h=>h) hps zv.cells [] rfl (YV _ _ _ _ _ _ h5) u5 (by simp);have q4':∀ b∈F,∃ s∈S,b∈Fe s:=λb hb=>(q4 b hb).resolve_left (by simp)
 have hps2:(ps.toArray.map λx=>(x.1,a.eval x.2)).toList=ps.map (λp=>(p.1,a.eval p.2)):=by simp
 refine⟨.agg out,w, ?_,ρ,_,Fb,st.takeL ht htS hps.there q3 q4' ((m9 rfl).2 ⟨.agg out,by rw[U7 a t _ t (by rw[st.size];exact ht)];simp, ?_⟩)⟩
 ·have:=run_build (P:=P) w ty (ps.toArray.map λx=>(x.1,a.eval x.2)) out (by
   rw[hps2];simp only[Program.built,h1,h2,h3,h4]
   exact q1)
  unfold execOp;simp only[Sem.run_bind,this,Result.andThen_ok,Sem.run_pure]
 ·simp only[VR,D.isAgg,w5];refine⟨out,rfl,(q2.flag).mono (λ_ _ _=>rfl) (λb hb _=>⟨hb.1,λhc=>hb.2 ?_⟩) (λi hi=>⟨hi,rfl⟩)⟩
  rcases hc with ⟨u,hu⟩|hid
  ·by_cases hut:u=t
   ·subst hut;rw[m7] at hu;obtain⟨s,_,hs⟩:=q4' b hu;exact .inl ⟨s,hs⟩
   ·rw[j6 hut] at hu;by_cases hus:u∈S
    ·simp[hus] at hu
    ·simp only[hus,q8] at hu;exact .inl ⟨u,hu⟩
  ·exact .inr hid
theorem R.ldTake{p t id:Nat}{d:D}{n:TypeId}[LdT P ty n gg]
 (h:σ.get p=some (.ptr id 0 [])) (hb:σ.box id=some (.var d)) (hr:d.isRef=false) (hn:d.sz=n) (hg:d.isAgg=gg) (ht:t<σ.n) :
 OpS P C ⟨some t,.load ty (.tmp p),rt,pos,aft,g⟩ σ ((σ.putB id (.var (D.dds n))).set t d):=by
 refine OpS.value λa w ⟨ρ,Fe,Fb,st⟩=>?_;obtain⟨v,hv,hrp⟩:=(m9 rfl).1 (st.env _ _ h);simp only[VR,D.isAgg,q7,q8] at hrp;generalize Fe p=F at hrp;cases hrp;obtain⟨cs,e,F',q1,q2,q3⟩:=st.bx _ _ hb
 have hnd:(ρ id::F').Nodup:=by have:=st.nodB id;rw[q3] at this;exact this
 obtain⟨hn1,hn2⟩:=g0.1 hnd;have hlen:=q2.len
 have htk:(cs.toList.drop 0).take d.sz=cs.toList:=by rw[<- hlen,J0];exact X4
 obtain⟨vv,hrun,hvr⟩:=ZG (P:=P) (ty:=ty) (G:=gd C Fe Fb) (L:=λi=>(σ.box i).isSome=true) (ρ:=ρ) (p:=true) (off:=0) q1 (by rw[htk];exact q2) (by simp at hlen;omega) hn hg
 have hsz:t<a.tmps.size:=by rw[st.size];exact ht
 have hFb:∀ i,∀ b∈upd Fb id [ρ id] i,b∈Fb i:=λi b hb=>by
  by_cases hii:i=id
  ·subst hii;rw[m7] at hb;simp at hb;subst hb;rw[q3];simp
  ·rw[j6 hii] at hb;exact hb
 have hFin:∀ b∈F',b∈Fb id:=λb hb=>by rw[q3];exact j5 _ hb
 have ho:∀ b,own (upd Fe t F') (upd Fb id [ρ id]) b->own Fe Fb b:=by
  rintro b (⟨u,hu⟩|⟨i,hi⟩)
  ·by_cases hut:u=t
   ·subst hut;rw[m7] at hu;exact .inr ⟨id,hFin b hu⟩
   ·rw[j6 hut] at hu;exact .inl ⟨u,hu⟩
  ·exact .inr ⟨i,hFb i b hi⟩
 have hgd:∀ b,gd C Fe Fb b->gd C (upd Fe t F') (upd Fb id [ρ id]) b:=λb hb=>⟨hb.1,λhc=>hb.2 (ho b hc)⟩
 have hbox:∀ i,((σ.putB id (.var (D.dds n))).set t d).box i=if i=id then some (.var (D.dds n)) else σ.box i:=λi=>by
  rw[v40,GL];by_cases hi:i=id
  ·subst hi;simp[hb]
  ·simp[hi]
 have hLf:(λi=>((((σ.putB id (.var (D.dds n))).set t d).box i)).isSome=true)=λi=>(σ.box i).isSome=true:=by
  funext i;rw[hbox]
  by_cases hi:i=id
  ·subst hi;simp[hb]
  ·simp[hi]
 have hFnot:∀ u,∀ b∈Fe u,b∉F':=λu b hb hb'=>st.dEB u id b hb (hFin b hb')
 refine⟨vv,w, ?_,ρ,upd Fe t F',upd Fb id [ρ id],{
  size:=by simp[Act.put,st.size]
  defs:=st.defs
  pin:=λi b hp=>⟨(st.pin i b hp).1,by
   have:=(st.pin i b hp).2;rw[hbox];by_cases hi:i=id
   ·simp[hi]
   ·simpa [hi] using this⟩
  env:=λu x hx=>?_
  envN:=λu hu=>?_
  bx:=λi x hx=>?_
  bxN:=λi hx=>?_
  nodE:=λu=>?_
  nodB:=λi=>?_
  dEE:=λu u' huu b hb hb'=>?_
  dEB:=λu i b hb hb'=>?_
  dBB:=λi i' hne b h1 h2=>st.dBB i i' hne b (hFb i b h1) (hFb i' b h2)
  new:=λb hb=>st.new b (ho b hb)
  kept:=st.kept
  os:=st.os
  tape:=⟨st.tape.tp,st.tape.dr⟩
  output:=st.output
  grown:=st.grown
  gl:=st.gl
  okN:=st.okN
  okO:=λb hb=>st.okO b (ho b hb) }⟩
 ·unfold execOp;simp[K1 hv,Instr.loadAt,Instr.sureAddr,hrun]
 ·rw[hLf];rw[E2] at hx;by_cases hut:u=t
  ·subst hut;simp at hx;subst hx;rw[m7];exact(m9 hr).2 ⟨vv,by rw[U7 a u _ u hsz];simp,hvr.mono (λ_ _ _=>rfl) (λb hb _=>hgd b hb) (λi hi=>⟨hi,rfl⟩)⟩
  ·simp only[hut,q8] at hx;obtain⟨d1,hd1,rfl⟩:=Q3.1 hx;rw[ZQ] at hd1;obtain⟨d2,hd2,rfl⟩:=Q3.1 hd1;rw[j6 hut];have h1:=u41 (id:=id) (st.env u d2 hd2) (w':=w) (λ_ _ _=>rfl) (λb hb _=>hgd b hb) (λi hi=>hi) (λ_ _ _ _ _ h=>h);exact YJ hut hsz h1 (λ_ _ _=>rfl) (λb hb _=>hb) (λid hid=>⟨hid,rfl⟩) (λ_ _ _ _ h=>h)
 ·rw[E2] at hu;by_cases hut:u=t
  ·simp[hut] at hu
  ·simp only[hut,q8,Z0] at hu;rw[ZQ,Z0] at hu;rw[j6 hut];exact st.envN u hu
 ·rw[hLf];rw[hbox] at hx;by_cases hi:i=id
  ·subst hi;simp only[w5,z9] at hx;subst hx;rw[m7,<- hn];exact⟨cs,e,[],q1,q2.dds,rfl⟩
  ·simp only[hi,q8] at hx;rw[j6 hi];exact(st.bx i x hx).mono (λ_ _ _=>rfl) (λb hb _=>hgd b hb) (λj hj=>⟨hj,rfl⟩)
 ·rw[hbox] at hx;by_cases hi:i=id
  ·simp[hi] at hx
  ·simp only[hi,q8] at hx;rw[j6 hi];exact st.bxN i hx
 ·by_cases hut:u=t
  ·subst hut;rw[m7];exact hn2
  ·rw[j6 hut];exact st.nodE u
 ·by_cases hi:i=id
  ·subst hi;rw[m7];simp
  ·rw[j6 hi];exact st.nodB i
 ·by_cases hut:u=t
  ·subst hut;rw[m7] at hb;rw[j6 (λe=>huu e.symm)] at hb';exact hFnot u' b hb' hb
  ·rw[j6 hut] at hb;by_cases hut':u'=t
   ·subst hut';rw[m7] at hb';exact hFnot u b hb hb'
   ·rw[j6 hut'] at hb';exact st.dEE u u' huu b hb hb'
 ·by_cases hut:u=t
  ·subst hut;rw[m7] at hb;by_cases hi:i=id
   ·subst hi;rw[m7] at hb';simp at hb';subst hb';exact hn1 hb
   ·rw[j6 hi] at hb';exact st.dBB id i (λe=>hi e.symm) b (hFin b hb) hb'
  ·rw[j6 hut] at hb;exact st.dEB u i b hb (hFb i b hb')
end
section
variable{P:Program}{C:Ctx}{σ σ' σ1:Sg}{a:Act}{w w':World}{ρ:Nat->Nat}{Fe Fe' Fb:Nat->List Nat}
inductive Wk:D->D->Prop
 | refl (d:D):Wk d d
 | nils (o:Option Nat) (z:Nat):Wk .nils (.sl o z [])
 | agg {l l':List D} (hn:l.length=l'.length) (h:∀ k (h:k<l.length) (h':k<l'.length),Wk l[k] l'[k]):Wk (.agg l) (.agg l')
 | sl {o:Option Nat} {z:Nat} {l l':List D} (hn:l.length=l'.length) (h:∀ k (h:k<l.length) (h':k<l'.length),Wk l[k] l'[k]):Wk (.sl o z l) (.sl o z l')
inductive WkL:List D->List D->Prop
 | nil:WkL [] []
 | cons {d d':D} {l l':List D} (h:Wk d d') (t:WkL l l'):WkL (d::l) (d'::l')
theorem WkL.len{l l':List D}(h:WkL l l'):l.length=l'.length:=by
 induction h with
 | nil=>rfl
 | cons _ _ ih=>simp[ih]
theorem WkL.get{l l':List D}(h:WkL l l'):∀ k (h:k<l.length) (h':k<l'.length),Wk l[k] l'[k]:=by
 induction h with
 | nil=>intro k h;simp at h
 | cons h _ ih=>
  intro k hk hk'
  cases k with
  | zero=>exact h
  | succ k=>exact ih k (by simpa using hk) (by simpa using hk')
theorem Wk.aggL{l l':List D}(h:WkL l l'):Wk (.agg l) (.agg l'):=.agg h.len h.get
theorem Wk.slL{o:Option Nat}{z:Nat}{l l':List D}(h:WkL l l'):Wk (.sl o z l) (.sl o z l'):=.sl h.len h.get
theorem FH{l l':List D}(hn:l.length=l'.length)(h:∀ k (h:k<l.length) (h':k<l'.length),l'[k].sz=l[k].sz):I2 l'=I2 l:=by
 induction l generalizing l' with
 | nil=>cases l' with
  | nil=>rfl
  | cons _ _=>simp at hn
 | cons x r ih=>cases l' with
  | nil=>simp at hn
  | cons x' r'=>
   have h0:=h 0 (by simp) (by simp);simp only[Z1] at h0;simp only[S3,h0];rw[ih (by simpa using hn) (λk h1 h2=>h (k+1) (by simpa using h1) (by simpa using h2))]
theorem k44{l l':List D}(hn:l.length=l'.length)(h:∀ k (h:k<l.length) (h':k<l'.length),l'[k].sz=l[k].sz)(k:Nat):offk l' k=offk l k:=by
 unfold offk;exact FH (by simp[hn]) (λj h1 h2=>by simp only[K4];exact h j (by simp at h1;omega) (by simp at h2;omega))
theorem Wk.sz{d d':D}(h:Wk d d'):d'.sz=d.sz:=by
 induction h with
 | refl=>rfl
 | nils=>rfl
 | agg hn h ih=>simp only[JC];exact FH hn ih
 | sl=>rfl
theorem Rc.wk{d d':D}(hw:Wk d d'):∀ {p:Bool} {cs:List Value} {F:List Nat},Rc w ρ G L p d cs F->Rc w ρ G L p d' cs F:=by
 induction hw with
 | refl=>intro p cs F h;exact h
 | nils o z=>intro p cs F h;cases h;exact .slN o z
 | @agg l l' hn h ih=>
  intro p cs F hr
  cases hr with
  | agg _ _ Fs hs hr=>
   have hz:∀ k (h:k<l.length) (h':k<l'.length),l'[k].sz=l[k].sz:=λk h1 h2=>(h k h1 h2).sz;rw[hn];refine .agg l' cs Fs (by rw[hs,FH hn hz]) (λk hk=>?_);rw[k44 hn hz,hz k (by omega) hk];exact ih k (by omega) hk (hr k (by omega))
 | @sl o z l l' hn h ih=>
  intro p cs F hr
  cases hr with
  | slN=>rw[Q7.1 hn.symm];exact .slN o z
  | slE _ _ a=>rw[Q7.1 hn.symm];exact .slE o z a
  | slI b off cs e fz cap _ _ hb hG hc hs hr=>
   rw[hn];exact .slI b off cs e fz cap z l' hb hG (by omega) (by rw[<- hn];exact hs) (λi hi=>ih i (by omega) hi (hr i (by omega)))
  | slO b cs e cap _ _ Fs hb hc hm hs ho1 hr=>
   rw[hn];exact .slO b cs e cap z l' Fs hb (by omega) hm hs ho1 (λi hi=>ih i (by omega) hi (hr i (by omega)))
theorem z47{c:Code}(id:Nat){d d':D}(hb:σ.box id=some (.var d))(hw:Wk d d')(hbx:setb id (.var d') σ.bx=bx')(k:W P C c Q ⟨σ.n,σ.env,bx'⟩):W P C c Q σ:=by
 subst hbx;exact λa w hs=>k a w (MT hb (λw ρ G L cs F h=>h.wk hw) hs)
theorem Wk.isAgg{d d':D}(h:Wk d d'):d'.isAgg=d.isAgg:=by cases h<;>rfl
end
section
variable{pos:String}{aft:Array Edge}{g:Option (Nat×Bool)}
theorem O{α:Sort _}{a:α}:a=a:=rfl
theorem Zt:True:=trivial
theorem dU{p:Prop}(h:p:=by decide):p:=h
theorem dT{p:Prop}[Decidable p](h:p):decide p=true:=D3 h
theorem dF{p:Prop}[Decidable p](h:¬ p):decide p=false:=K7 h
abbrev Bc:=@Bors.cons
abbrev Bn:=@Bors.nil
abbrev Bp:=@Bor.pur
theorem lN{β:Type}{l:List α}(f:α->β):(l.map f).length=l.length:=z6 f
theorem nU{n:Nat}(h:Nat.ble m n=true:=by rfl):m<=n:=c8 h
theorem bU{p:Prop}(h:p:=by first|omega|(simp only[z6,q9,j2,j3,v8,c5,p7];omega)|(simp;omega)):p:=h
theorem bV{x:Int}(h:0<=x:=by first|omega|(simp only[z6,q9,j2,j3,v8,c5,p7];omega)|(simp;omega)):0<=x:=h
theorem gU{σ:Sg}(n:Nat){d:D}(h:σ.get n=some d):σ.get n=some d:=h
theorem xU{σ:Sg}(n:Nat){d:Bx}(h:σ.box n=some d):σ.box n=some d:=h
theorem gV{gl:List (Nat×D)}{σ:Sg}(n:Nat){d:D}(h:σ.get n=some d):ev gl σ (.tmp n)=some d:=h
theorem eU{gl:List (Nat×D)}{f:Nat->Option D}(K:∀ u x,f u=some x->τ.get u=some x)(n:Nat){d:D}(h:f n=some d):ev gl τ (.tmp n)=some d:=K n d h
theorem kI{gl:List (Nat×D)}{σ:Sg}(n:Nat){i:Int}(h:ev gl σ (.const (.int .i64 i))=some (.int ((n:Nat):Int))):ev gl σ (.const (.int .i64 i))=some (.int ((n:Nat):Int)):=h
theorem kB{gl:List (Nat×D)}{σ:Sg}(b:Bool)(h:ev gl σ (.const (.bool b))=some (.bool b)):ev gl σ (.const (.bool b))=some (.bool b):=h
theorem kN{gl:List (Nat×D)}{σ:Sg}(h:ev gl σ (.const (.slice none 0 0))=some .nils):ev gl σ (.const (.slice none 0 0))=some .nils:=h
@[reducible] def It.y (n:Nat) (d:D):It:=⟨n,d,true⟩
@[reducible] def It.x (n:Nat):It:=⟨n,.dead,false⟩
section
variable{P:Program}{C:Ctx}{σ:Sg}{ops:List Oper}{an:List Nat}{ks kk:List (Nat×Nat)}{its:List It}
abbrev SX(P:Program)(C:Ctx)(σ:Sg)(an:List Nat)(ks kk:List (Nat×Nat))(its:List It)(i:Nat)(o:Oper)(t:Nat)(d:D):Prop:=
 ∀ τ:Sg,(∀ id x,lk σ.bx id=some x->τ.box id=some x)->t<τ.n->(∀ u x,facts an ks σ.env its i u=some x->τ.get u=some x)->OpS P C o τ ((KV τ kk i).set t d)
abbrev Ent(P:Program)(C:Ctx)(σ:Sg)(ops:List Oper)(an:List Nat)(ks kk:List (Nat×Nat))(its:List It)(i:Nat)(o:Oper)(t:Nat)(d:D)(wt:Bool):Prop:=
 o.dst=some t/\Wt ops (facts an ks σ.env its i) o wt/\(wt=true->∀ τ:Sg,(∀ id x,lk σ.bx id=some x->τ.box id=some x)->t<τ.n->(∀ u x,facts an ks σ.env its i u=some x->τ.get u=some x)->OpS P C o τ ((KV τ kk i).set t d))
def XI(kk:List (Nat×Nat))(i:Nat):Bool:=kk.all λx=>!Nat.beq x.1 i
theorem X3{i:Nat}:∀ {kk:List (Nat×Nat)},XI kk i=true->KV τ kk i=τ:=by
 intro kk
 induction kk with
 | nil=>intro _;rfl
 | cons y r ih=>
  obtain⟨k,s⟩:=y;intro h;simp only[XI,I8,u6,B0] at h;rw[KV,h.1];exact ih h.2
theorem aU{i t:Nat}{d:D}{op:Op}(f:SX P C σ an ks kk its i ⟨some t,op,ty,pos,aft,none⟩ t d) :
 Ent P C σ ops an ks kk its i ⟨some t,op,ty,pos,aft,none⟩ t d true:=⟨rfl,rfl,λ_=>f⟩
theorem aW{i t g:Nat}{d:D}{op:Op}{b:Bool}(h1:(ops[g]?).bind (·.dst)=some tg)
 (h3:facts an ks σ.env its i tg=some (.bool b)) (h4:true=(b==want)) (f:SX P C σ an ks kk its i ⟨some t,op,ty,pos,aft,some (g,want)⟩ t d) :
 Ent P C σ ops an ks kk its i ⟨some t,op,ty,pos,aft,some (g,want)⟩ t d true:=by
 obtain⟨og,h1,h2⟩:=Option.bind_eq_some_iff.1 h1;exact⟨rfl,⟨og,tg,h1,h2,.inl ⟨b,h3,h4⟩⟩,λ_=>f⟩
theorem aF{i t g:Nat}{op:Op}{b:Bool}(h1:(ops[g]?).bind (·.dst)=some tg)
 (h3:facts an ks σ.env its i tg=some (.bool b)) (h4:false=(b==want)) :
 Ent P C σ ops an ks kk its i ⟨some t,op,ty,pos,aft,some (g,want)⟩ t .dead false:=by
 obtain⟨og,h1,h2⟩:=Option.bind_eq_some_iff.1 h1;exact⟨rfl,⟨og,tg,h1,h2,.inl ⟨b,h3,h4⟩⟩,λh=>absurd h (by decide)⟩
theorem gT{b wt:Bool}(h:b=true)(hw:wt=(true==want)):wt=(b==want):=gw h hw
theorem gF{b wt:Bool}(h:b=false)(hw:wt=(false==want)):wt=(b==want):=gw h hw
theorem mU{i t:Nat}{d:D}(s:Nat)(h:facts an ks σ.env its i s=some d)(hp:(d.pur&&XI kk i)=true) :
 Ent P C σ ops an ks kk its i ⟨some t,.move (.tmp s),ty,pos,aft,none⟩ t d true:=by
 rw[u6] at hp;exact⟨rfl,rfl,λ_ τ _ H K=>by rw[X3 hp.2];exact R.mov (K s d h) hp.1 H⟩
theorem fU{i t id off':Nat}{s f:Nat}[FdT P s f off'](x:Nat)
 (h:facts an ks σ.env its i x=some (.ptr id off path)) (hk:XI kk i=true):SX P C σ an ks kk its i ⟨some t,.fieldAddr s (.tmp x) f,rt,pos,aft,g⟩ t (.ptr id (off+off') (path++[f])):=
 λτ _ H K=>by rw[X3 hk];exact R.fdP (K _ _ h) H
theorem lU{i t id:Nat}{d:D}{n:TypeId}[LdT P ty n gg](p:Nat)
 (h:facts an ks σ.env its i p=some (.ptr id off path)) (hb:lk σ.bx id=some (.var d0)) (hl:d0.loc path=some (off,d)) (hp:d.pur=true) (hn:d.sz=n) (hg:d.isAgg=gg) (hk:XI kk i=true) :
 SX P C σ an ks kk its i ⟨some t,.load ty (.tmp p),rt,pos,aft,g⟩ t d:=
 λτ B H K=>by rw[X3 hk];exact R.ldP (K _ _ h) (B _ _ hb) hl hp hn hg H
theorem tU(h:picks σ.get (σ.env.map (·.1))=σ.env)(q:Q .normal σ):TL P C Q [] σ:=⟨_,_,_,_,h,rfl,rfl,q⟩
theorem tV(e:List (Nat×D))(b:List (Nat×Bx))(n:Nat)(h:picks σ.get (e.map (·.1))=e)(h1:σ.bx=b)(h2:σ.n=n)(q:Q .normal ⟨n,e,b⟩):TL P C Q [] σ:=⟨_,_,_,_,h,h1,h2,q⟩
end
section
variable{P:Program}{C:Ctx}{σ:Sg}{ops:List Oper}{Q:Exit->Sg->Prop}
def j77(n:Nat)(m:Nat)(ks kk:List (Nat×Nat))(its:List It)(env:List (Nat×D))(l:Nat):Bool:=
 Nat.ble l m&&Nat.ble its.length l&&q89 n (slots its)&&OL (QG m 0) ks (slots its) its 0&&subs kk ks&&OR (slots its) env
theorem BV{id:Nat}(m:Nat)(its:List It)(ks kk:List (Nat×Nat))(env':List (Nat×D))(bx':List (Nat×Bx))(n':Nat)
 (H:AllOps P C σ ops (QG m 0) ks kk its ops its 0) (h:j77 σ.n m ks kk its σ.env ops.length=true) (hE:picks (afts (QG m 0) (λ_=>true) ks σ.env its) (env'.map (·.1))=env')
 (hb:σ.bx=bx') (hn':σ.n=n') (hT:TL P C Q (ops.drop its.length) ⟨n',env',bx'⟩):W P C (.region id ops.toArray false) Q σ:=by
 unfold j77 at h;simp only[u6] at h;exact OP (c8 h.1.1.1.1.1) ⟨c8 h.1.1.1.1.2,h.1.1.1.2,H,h.1.1.2,h.1.2,h.2⟩ hE hb hn' hT
end
end
abbrev y1(a0:Nat){x0:D}:List It:=[.y a0 x0]
abbrev y2(a0 a1:Nat){x0 x1:D}:List It:=[.y a0 x0,.y a1 x1]
abbrev y3(a0 a1 a2:Nat){x0 x1 x2:D}:List It:=[.y a0 x0,.y a1 x1,.y a2 x2]
abbrev y4(a0 a1 a2 a3:Nat){x0 x1 x2 x3:D}:List It:=[.y a0 x0,.y a1 x1,.y a2 x2,.y a3 x3]
abbrev y5(a0 a1 a2 a3 a4:Nat){x0 x1 x2 x3 x4:D}:List It:=[.y a0 x0,.y a1 x1,.y a2 x2,.y a3 x3,.y a4 x4]
abbrev y6(a0 a1 a2 a3 a4 a5:Nat){x0 x1 x2 x3 x4 x5:D}:List It:=[.y a0 x0,.y a1 x1,.y a2 x2,.y a3 x3,.y a4 x4,.y a5 x5]
abbrev y7(a0 a1 a2 a3 a4 a5 a6:Nat){x0 x1 x2 x3 x4 x5 x6:D}:List It:=[.y a0 x0,.y a1 x1,.y a2 x2,.y a3 x3,.y a4 x4,.y a5 x5,.y a6 x6]
abbrev y8(a0 a1 a2 a3 a4 a5 a6 a7:Nat){x0 x1 x2 x3 x4 x5 x6 x7:D}:List It:=[.y a0 x0,.y a1 x1,.y a2 x2,.y a3 x3,.y a4 x4,.y a5 x5,.y a6 x6,.y a7 x7]
abbrev y9(a0 a1 a2 a3 a4 a5 a6 a7 a8:Nat){x0 x1 x2 x3 x4 x5 x6 x7 x8:D}:List It:=[.y a0 x0,.y a1 x1,.y a2 x2,.y a3 x3,.y a4 x4,.y a5 x5,.y a6 x6,.y a7 x7,.y a8 x8]
abbrev VU(a0 a1 a2 a3 a4 a5 a6 a7 a8 a9:Nat){x0 x1 x2 x3 x4 x5 x6 x7 x8 x9:D}:List It:=[.y a0 x0,.y a1 x1,.y a2 x2,.y a3 x3,.y a4 x4,.y a5 x5,.y a6 x6,.y a7 x7,.y a8 x8,.y a9 x9]
abbrev g80(a0 a1 a2 a3 a4 a5 a6 a7 a8 a9 a10:Nat){x0 x1 x2 x3 x4 x5 x6 x7 x8 x9 x10:D}:List It:=[.y a0 x0,.y a1 x1,.y a2 x2,.y a3 x3,.y a4 x4,.y a5 x5,.y a6 x6,.y a7 x7,.y a8 x8,.y a9 x9,.y a10 x10]
abbrev u51(a0 a1 a2 a3 a4 a5 a6 a7 a8 a9 a10 a11:Nat){x0 x1 x2 x3 x4 x5 x6 x7 x8 x9 x10 x11:D}:List It:=[.y a0 x0,.y a1 x1,.y a2 x2,.y a3 x3,.y a4 x4,.y a5 x5,.y a6 x6,.y a7 x7,.y a8 x8,.y a9 x9,.y a10 x10,.y a11 x11]
abbrev v96(a0 a1 a2 a3 a4 a5 a6 a7 a8 a9 a10 a11 a12:Nat){x0 x1 x2 x3 x4 x5 x6 x7 x8 x9 x10 x11 x12:D}:List It:=[.y a0 x0,.y a1 x1,.y a2 x2,.y a3 x3,.y a4 x4,.y a5 x5,.y a6 x6,.y a7 x7,.y a8 x8,.y a9 x9,.y a10 x10,.y a11 x11,.y a12 x12]
abbrev z53(a0 a1 a2 a3 a4 a5 a6 a7 a8 a9 a10 a11 a12 a13:Nat){x0 x1 x2 x3 x4 x5 x6 x7 x8 x9 x10 x11 x12 x13:D}:List It:=[.y a0 x0,.y a1 x1,.y a2 x2,.y a3 x3,.y a4 x4,.y a5 x5,.y a6 x6,.y a7 x7,.y a8 x8,.y a9 x9,.y a10 x10,.y a11 x11,.y a12 x12,.y a13 x13]
abbrev g08(a0 a1 a2 a3 a4 a5 a6 a7 a8 a9 a10 a11 a12 a13 a14:Nat){x0 x1 x2 x3 x4 x5 x6 x7 x8 x9 x10 x11 x12 x13 x14:D}:List It:=[.y a0 x0,.y a1 x1,.y a2 x2,.y a3 x3,.y a4 x4,.y a5 x5,.y a6 x6,.y a7 x7,.y a8 x8,.y a9 x9,.y a10 x10,.y a11 x11,.y a12 x12,.y a13 x13,.y a14 x14]
abbrev g85(a0 a1 a2 a3 a4 a5 a6 a7 a8 a9 a10 a11 a12 a13 a14 a15:Nat){x0 x1 x2 x3 x4 x5 x6 x7 x8 x9 x10 x11 x12 x13 x14 x15:D}:List It:=[.y a0 x0,.y a1 x1,.y a2 x2,.y a3 x3,.y a4 x4,.y a5 x5,.y a6 x6,.y a7 x7,.y a8 x8,.y a9 x9,.y a10 x10,.y a11 x11,.y a12 x12,.y a13 x13,.y a14 x14,.y a15 x15]
abbrev h21(a0 a1 a2 a3 a4 a5 a6 a7 a8 a9 a10 a11 a12 a13 a14 a15 a16:Nat){x0 x1 x2 x3 x4 x5 x6 x7 x8 x9 x10 x11 x12 x13 x14 x15 x16:D}:List It:=[.y a0 x0,.y a1 x1,.y a2 x2,.y a3 x3,.y a4 x4,.y a5 x5,.y a6 x6,.y a7 x7,.y a8 x8,.y a9 x9,.y a10 x10,.y a11 x11,.y a12 x12,.y a13 x13,.y a14 x14,.y a15 x15,.y a16 x16]
abbrev g79(a0 a1 a2 a3 a4 a5 a6 a7 a8 a9 a10 a11 a12 a13 a14 a15 a16 a17:Nat){x0 x1 x2 x3 x4 x5 x6 x7 x8 x9 x10 x11 x12 x13 x14 x15 x16 x17:D}:List It:=[.y a0 x0,.y a1 x1,.y a2 x2,.y a3 x3,.y a4 x4,.y a5 x5,.y a6 x6,.y a7 x7,.y a8 x8,.y a9 x9,.y a10 x10,.y a11 x11,.y a12 x12,.y a13 x13,.y a14 x14,.y a15 x15,.y a16 x16,.y a17 x17]
abbrev g78(a0 a1 a2 a3 a4 a5 a6 a7 a8 a9 a10 a11 a12 a13 a14 a15 a16 a17 a18:Nat){x0 x1 x2 x3 x4 x5 x6 x7 x8 x9 x10 x11 x12 x13 x14 x15 x16 x17 x18:D}:List It:=[.y a0 x0,.y a1 x1,.y a2 x2,.y a3 x3,.y a4 x4,.y a5 x5,.y a6 x6,.y a7 x7,.y a8 x8,.y a9 x9,.y a10 x10,.y a11 x11,.y a12 x12,.y a13 x13,.y a14 x14,.y a15 x15,.y a16 x16,.y a17 x17,.y a18 x18]
abbrev h34(a0 a1 a2 a3 a4 a5 a6 a7 a8 a9 a10 a11 a12 a13 a14 a15 a16 a17 a18 a19:Nat){x0 x1 x2 x3 x4 x5 x6 x7 x8 x9 x10 x11 x12 x13 x14 x15 x16 x17 x18 x19:D}:List It:=[.y a0 x0,.y a1 x1,.y a2 x2,.y a3 x3,.y a4 x4,.y a5 x5,.y a6 x6,.y a7 x7,.y a8 x8,.y a9 x9,.y a10 x10,.y a11 x11,.y a12 x12,.y a13 x13,.y a14 x14,.y a15 x15,.y a16 x16,.y a17 x17,.y a18 x18,.y a19 x19]
abbrev V1(a0:Nat){x0:D}:List (Nat×D):=[(a0,x0)]
abbrev V2(a0 a1:Nat){x0 x1:D}:List (Nat×D):=[(a0,x0),(a1,x1)]
abbrev V3(a0 a1 a2:Nat){x0 x1 x2:D}:List (Nat×D):=[(a0,x0),(a1,x1),(a2,x2)]
abbrev V4(a0 a1 a2 a3:Nat){x0 x1 x2 x3:D}:List (Nat×D):=[(a0,x0),(a1,x1),(a2,x2),(a3,x3)]
abbrev V5(a0 a1 a2 a3 a4:Nat){x0 x1 x2 x3 x4:D}:List (Nat×D):=[(a0,x0),(a1,x1),(a2,x2),(a3,x3),(a4,x4)]
abbrev V6(a0 a1 a2 a3 a4 a5:Nat){x0 x1 x2 x3 x4 x5:D}:List (Nat×D):=[(a0,x0),(a1,x1),(a2,x2),(a3,x3),(a4,x4),(a5,x5)]
abbrev V7(a0 a1 a2 a3 a4 a5 a6:Nat){x0 x1 x2 x3 x4 x5 x6:D}:List (Nat×D):=[(a0,x0),(a1,x1),(a2,x2),(a3,x3),(a4,x4),(a5,x5),(a6,x6)]
abbrev V8(a0 a1 a2 a3 a4 a5 a6 a7:Nat){x0 x1 x2 x3 x4 x5 x6 x7:D}:List (Nat×D):=[(a0,x0),(a1,x1),(a2,x2),(a3,x3),(a4,x4),(a5,x5),(a6,x6),(a7,x7)]
abbrev V9(a0 a1 a2 a3 a4 a5 a6 a7 a8:Nat){x0 x1 x2 x3 x4 x5 x6 x7 x8:D}:List (Nat×D):=[(a0,x0),(a1,x1),(a2,x2),(a3,x3),(a4,x4),(a5,x5),(a6,x6),(a7,x7),(a8,x8)]
abbrev z51(a0 a1 a2 a3 a4 a5 a6 a7 a8 a9:Nat){x0 x1 x2 x3 x4 x5 x6 x7 x8 x9:D}:List (Nat×D):=[(a0,x0),(a1,x1),(a2,x2),(a3,x3),(a4,x4),(a5,x5),(a6,x6),(a7,x7),(a8,x8),(a9,x9)]
abbrev j72(a0 a1 a2 a3 a4 a5 a6 a7 a8 a9 a10:Nat){x0 x1 x2 x3 x4 x5 x6 x7 x8 x9 x10:D}:List (Nat×D):=[(a0,x0),(a1,x1),(a2,x2),(a3,x3),(a4,x4),(a5,x5),(a6,x6),(a7,x7),(a8,x8),(a9,x9),(a10,x10)]
abbrev v94(a0 a1 a2 a3 a4 a5 a6 a7 a8 a9 a10 a11:Nat){x0 x1 x2 x3 x4 x5 x6 x7 x8 x9 x10 x11:D}:List (Nat×D):=[(a0,x0),(a1,x1),(a2,x2),(a3,x3),(a4,x4),(a5,x5),(a6,x6),(a7,x7),(a8,x8),(a9,x9),(a10,x10),(a11,x11)]
abbrev u27(a0 a1 a2 a3 a4 a5 a6 a7 a8 a9 a10 a11 a12:Nat){x0 x1 x2 x3 x4 x5 x6 x7 x8 x9 x10 x11 x12:D}:List (Nat×D):=[(a0,x0),(a1,x1),(a2,x2),(a3,x3),(a4,x4),(a5,x5),(a6,x6),(a7,x7),(a8,x8),(a9,x9),(a10,x10),(a11,x11),(a12,x12)]
abbrev h16(a0 a1 a2 a3 a4 a5 a6 a7 a8 a9 a10 a11 a12 a13:Nat){x0 x1 x2 x3 x4 x5 x6 x7 x8 x9 x10 x11 x12 x13:D}:List (Nat×D):=[(a0,x0),(a1,x1),(a2,x2),(a3,x3),(a4,x4),(a5,x5),(a6,x6),(a7,x7),(a8,x8),(a9,x9),(a10,x10),(a11,x11),(a12,x12),(a13,x13)]
abbrev g07(a0 a1 a2 a3 a4 a5 a6 a7 a8 a9 a10 a11 a12 a13 a14:Nat){x0 x1 x2 x3 x4 x5 x6 x7 x8 x9 x10 x11 x12 x13 x14:D}:List (Nat×D):=[(a0,x0),(a1,x1),(a2,x2),(a3,x3),(a4,x4),(a5,x5),(a6,x6),(a7,x7),(a8,x8),(a9,x9),(a10,x10),(a11,x11),(a12,x12),(a13,x13),(a14,x14)]
abbrev h30(a0 a1 a2 a3 a4 a5 a6 a7 a8 a9 a10 a11 a12 a13 a14 a15:Nat){x0 x1 x2 x3 x4 x5 x6 x7 x8 x9 x10 x11 x12 x13 x14 x15:D}:List (Nat×D):=[(a0,x0),(a1,x1),(a2,x2),(a3,x3),(a4,x4),(a5,x5),(a6,x6),(a7,x7),(a8,x8),(a9,x9),(a10,x10),(a11,x11),(a12,x12),(a13,x13),(a14,x14),(a15,x15)]
abbrev B2(a0:Nat){x0:D}:List (Nat×Bx):=[(a0,.var x0)]
abbrev B7(a0 a1:Nat){x0 x1:D}:List (Nat×Bx):=[(a0,.var x0),(a1,.var x1)]
abbrev i5(a0 a1 a2:Nat){x0 x1 x2:D}:List (Nat×Bx):=[(a0,.var x0),(a1,.var x1),(a2,.var x2)]
abbrev OA(a0 a1 a2 a3:Nat){x0 x1 x2 x3:D}:List (Nat×Bx):=[(a0,.var x0),(a1,.var x1),(a2,.var x2),(a3,.var x3)]
abbrev q47(a0 a1 a2 a3 a4:Nat){x0 x1 x2 x3 x4:D}:List (Nat×Bx):=[(a0,.var x0),(a1,.var x1),(a2,.var x2),(a3,.var x3),(a4,.var x4)]
abbrev j78(a0 a1 a2 a3 a4 a5:Nat){x0 x1 x2 x3 x4 x5:D}:List (Nat×Bx):=[(a0,.var x0),(a1,.var x1),(a2,.var x2),(a3,.var x3),(a4,.var x4),(a5,.var x5)]
abbrev h33(a0 a1 a2 a3 a4 a5 a6:Nat){x0 x1 x2 x3 x4 x5 x6:D}:List (Nat×Bx):=[(a0,.var x0),(a1,.var x1),(a2,.var x2),(a3,.var x3),(a4,.var x4),(a5,.var x5),(a6,.var x6)]
abbrev h42(a0 a1 a2 a3 a4 a5 a6 a7:Nat){x0 x1 x2 x3 x4 x5 x6 x7:D}:List (Nat×Bx):=[(a0,.var x0),(a1,.var x1),(a2,.var x2),(a3,.var x3),(a4,.var x4),(a5,.var x5),(a6,.var x6),(a7,.var x7)]
theorem WX{A0 A1:Type}{a0 b0:A0}{a1 b1:A1}(h:(a0,a1)=(b0,b1)):a0=b0/\a1=b1:=by simpa only[n6] using h
theorem YG{A0 A1 A2:Type}{a0 b0:A0}{a1 b1:A1}{a2 b2:A2}(h:(a0,a1,a2)=(b0,b1,b2)):a0=b0/\a1=b1/\a2=b2:=by simpa only[n6] using h
theorem u48{A0 A1 A2 A3:Type}{a0 b0:A0}{a1 b1:A1}{a2 b2:A2}{a3 b3:A3}(h:(a0,a1,a2,a3)=(b0,b1,b2,b3)):a0=b0/\a1=b1/\a2=b2/\a3=b3:=by simpa only[n6] using h
theorem h26{A0 A1 A2 A3 A4:Type}{a0 b0:A0}{a1 b1:A1}{a2 b2:A2}{a3 b3:A3}{a4 b4:A4}(h:(a0,a1,a2,a3,a4)=(b0,b1,b2,b3,b4)):a0=b0/\a1=b1/\a2=b2/\a3=b3/\a4=b4:=by simpa only[n6] using h
theorem h38{A0 A1 A2 A3 A4 A5:Type}{a0 b0:A0}{a1 b1:A1}{a2 b2:A2}{a3 b3:A3}{a4 b4:A4}{a5 b5:A5}(h:(a0,a1,a2,a3,a4,a5)=(b0,b1,b2,b3,b4,b5)):a0=b0/\a1=b1/\a2=b2/\a3=b3/\a4=b4/\a5=b5:=by simpa only[n6] using h
theorem g90{A0 A1 A2 A3 A4 A5 A6:Type}{a0 b0:A0}{a1 b1:A1}{a2 b2:A2}{a3 b3:A3}{a4 b4:A4}{a5 b5:A5}{a6 b6:A6}(h:(a0,a1,a2,a3,a4,a5,a6)=(b0,b1,b2,b3,b4,b5,b6)):a0=b0/\a1=b1/\a2=b2/\a3=b3/\a4=b4/\a5=b5/\a6=b6:=by simpa only[n6] using h
theorem h37{A0 A1 A2 A3 A4 A5 A6 A7:Type}{a0 b0:A0}{a1 b1:A1}{a2 b2:A2}{a3 b3:A3}{a4 b4:A4}{a5 b5:A5}{a6 b6:A6}{a7 b7:A7}(h:(a0,a1,a2,a3,a4,a5,a6,a7)=(b0,b1,b2,b3,b4,b5,b6,b7)):a0=b0/\a1=b1/\a2=b2/\a3=b3/\a4=b4/\a5=b5/\a6=b6/\a7=b7:=by simpa only[n6] using h
theorem kW{gl:List (Nat×D)}{σ:Sg}(v:Value)(d:D)(h:ev gl σ (.const v)=some d):ev gl σ (.const v)=some d:=h
abbrev F1:=@FrsR.one
theorem mG[Inhabited α]{f:α->D}(l:List α){i:Nat}(h:i<l.length:=by first|omega|(simp only[z6,q9,j2,j3,v8,c5,p7];omega)|(simp;omega)):(l.map f)[i]? = some (f l[i]!):=b8 h
theorem bO{p:Prop}(h:p:=by omega):p:=h
section
variable{P:Program}{C:Ctx}{σ:Sg}{ops:List Oper}{an:List Nat}{ks kk:List (Nat×Nat)}{its:List It}{i t:Nat}{d:D}{ty xt yt rt:TypeId}{pos:String}{aft:Array Edge}{g:Option (Nat×Bool)}{s s' z n m off:Nat}{path:List Nat}{o:Option Nat}{l:List D}
abbrev EO(P:Program)(C:Ctx)(σ:Sg)(an:List Nat)(ks kk:List (Nat×Nat))(its:List It)(i t:Nat)(op:Op)(rt:TypeId)(pos:String)(aft:Array Edge)(g:Option (Nat×Bool))(d:D):Prop:=SX P C σ an ks kk its i ⟨some t,op,rt,pos,aft,g⟩ t d
theorem zA(q__:(facts an ks σ.env its i s,d.pur,XI kk i)=(some d,true,true)):EO P C σ an ks kk its i t (.assign (.tmp s)) rt pos aft g d:=by obtain⟨h,hp,hk⟩:=YG q__;exact λτ _ H K=>by rw[X3 hk];exact J9 (K _ _ h) hp H
theorem zK(h:ev C.gl σ (.const v)=some d)(q__:(d.pur,XI kk i)=(true,true)):EO P C σ an ks kk its i t (.assign (.const v)) rt pos aft g d:=by obtain⟨hp,hk⟩:=WX q__;exact λτ _ H K=>by rw[X3 hk];exact J9 (show ev C.gl τ (.const v)=some d from h) hp H
theorem CP(h:ev C.gl σ (.const v)=some d)(q__:(d.pur,XI kk i)=(true,true)):EO P C σ an ks kk its i t (.move (.const v)) rt pos aft g d:=by obtain⟨hp,hk⟩:=WX q__;exact λτ _ H K=>by rw[X3 hk];exact R.mov (show ev C.gl τ (.const v)=some d from h) hp H
theorem zL{p i0:Nat}{n:TypeId}[LdT P ty n gg](q__:(facts an ks σ.env its i p,facts an ks σ.env its i s,d0.loc path,d.pur,d.sz,d.isAgg,XI kk i)=(some (.ep s z i0 off path),some (.sl o z l),some (off,d),true,n,gg,true))(hi:l[i0]? = some d0):EO P C σ an ks kk its i t (.load ty (.tmp p)) rt pos aft g d:=by obtain⟨h,hs,hl,hp,hn,hg,hk⟩:=g90 q__;exact λτ _ H K=>by rw[X3 hk];exact R.ldE (K _ _ h) (SC.sl (K _ _ hs)) hi hl hp hn hg H
theorem XA{p i0:Nat}{n:TypeId}[LdT P ty n gg](q__:(facts an ks σ.env its i p,facts an ks σ.env its i s,facts an ks σ.env its i s',d0.loc path,d.pur,d.sz,d.isAgg,XI kk i)=(some (.ep s z i0 off path),some (.al s'),some (.sl o z l),some (off,d),true,n,gg,true))(hi:l[i0]? = some d0):EO P C σ an ks kk its i t (.load ty (.tmp p)) rt pos aft g d:=by obtain⟨h,hs,hs',hl,hp,hn,hg,hk⟩:=h37 q__;exact λτ _ H K=>by rw[X3 hk];exact R.ldE (K _ _ h) (SC.al (K _ _ hs) (K _ _ hs')) hi hl hp hn hg H
theorem zI{z:Nat}{n:Int}{x:Nat}{e b:Nat}[hT:SlT P ty e][hE:ElT P e z b](k:Nat)(q__:(facts an ks σ.env its i s,facts an ks σ.env its i x,n,XI kk i)=(some (.sl o z l),some (.int n),(k:Int),true))(h1:k<l.length:=by first|omega|(simp only[z6,q9,j2,j3,v8,c5,p7];omega)|(simp;omega))(hst:s≠t:=by decide):EO P C σ an ks kk its i t (.indexAddr ty (.tmp s) (.tmp x)) rt pos aft g (.ep s z k 0 []):=by obtain⟨h,hi,hk,hk2⟩:=u48 q__;exact λτ _ H K=>by rw[X3 hk2];exact R.idxN k (SC.sl (K _ _ h)) (C4 (evt (K _ _ hi))) hk h1 H hst
theorem YD{z:Nat}{n:Int}{x:Nat}{e b:Nat}[hT:SlT P ty e][hE:ElT P e z b](k:Nat)(q__:(facts an ks σ.env its i s,facts an ks σ.env its i s',facts an ks σ.env its i x,n,XI kk i)=(some (.al s'),some (.sl o z l),some (.int n),(k:Int),true))(h1:k<l.length:=by first|omega|(simp only[z6,q9,j2,j3,v8,c5,p7];omega)|(simp;omega))(hst:s≠t:=by decide):EO P C σ an ks kk its i t (.indexAddr ty (.tmp s) (.tmp x)) rt pos aft g (.ep s z k 0 []):=by obtain⟨h,h',hi,hk,hk2⟩:=h26 q__;exact λτ _ H K=>by rw[X3 hk2];exact R.idxN k (SC.al (K _ _ h) (K _ _ h')) (C4 (evt (K _ _ hi))) hk h1 H hst
theorem q43{e b id z:Nat}{n:Int}{x:Nat}[hT:ArT P ty m e][hE:ElT P e z b](k:Nat)(q__:(facts an ks σ.env its i s,facts an ks σ.env its i x,n,XI kk i)=(some (.ptr id off path),some (.int n),(k:Int),true))(h1:k<m:=by first|omega|(simp only[z6,q9,j2,j3,v8,c5,p7];omega)|(simp;omega)):EO P C σ an ks kk its i t (.indexAddr ty (.tmp s) (.tmp x)) rt pos aft g (.ptr id (off+k*z) (path++[k])):=by obtain⟨h,hi,hk,hk2⟩:=u48 q__;exact λτ _ H K=>by rw[X3 hk2];exact R.idxP k (K _ _ h) (C4 (evt (K _ _ hi))) hk h1 H
theorem zN{e:Nat}[hT:SlT P ty e](q__:(facts an ks σ.env its i s,XI kk i)=(some (.sl o z l),true))(hl:l.length=n):EO P C σ an ks kk its i t (.call { callee:=.builtin .len,args:=#[.tmp s],argTypes:=#[ty] }) rt pos aft g (.int ((n:Nat):Int)):=by obtain⟨h,hk⟩:=WX q__;exact λτ _ H K=>by rw[X3 hk];exact QA (SC.sl (K _ _ h)) hl H
theorem u47{e:Nat}[hT:SlT P ty e](q__:(facts an ks σ.env its i s,facts an ks σ.env its i s',XI kk i)=(some (.al s'),some (.sl o z l),true))(hl:l.length=n):EO P C σ an ks kk its i t (.call { callee:=.builtin .len,args:=#[.tmp s],argTypes:=#[ty] }) rt pos aft g (.int ((n:Nat):Int)):=by obtain⟨h,h',hk⟩:=YG q__;exact λτ _ H K=>by rw[X3 hk];exact QA (SC.al (K _ _ h) (K _ _ h')) hl H
theorem zM{e:Nat}(q__:(facts an ks σ.env its i s,XI kk i)=(some (.sl (some e) z l),true))(hst:s≠t:=by decide):EO P C σ an ks kk its i t (.move (.tmp s)) rt pos aft g (.al s):=by obtain⟨h,hk⟩:=WX q__;exact λτ _ H K=>by rw[X3 hk];exact R.al (K _ _ h) H hst
theorem zP{x y:Nat}(q__:(facts an ks σ.env its i x,facts an ks σ.env its i y,XI kk i)=(some (.int ((m:Nat):Int)),some (.int ((n:Nat):Int)),true))(q0:m+n<9223372036854775808:=by first|omega|(simp only[z6,q9,j2,j3,v8,c5,p7];omega)|(simp;omega)):EO P C σ an ks kk its i t (.binOp .add xt (.tmp x) (.tmp y) yt) rt pos aft g (.int ((m+n:Nat):Int)):=by obtain⟨hx,hy,hk⟩:=YG q__;exact λτ _ H K=>by rw[X3 hk];exact q41 m n (evt (K _ _ hx)) (evt (K _ _ hy)) q0 H
theorem P1{x:Nat}(n:Nat)(q__:(facts an ks σ.env its i x,ev C.gl σ (.const v),XI kk i)=(some (.int ((m:Nat):Int)),some (.int ((n:Nat):Int)),true))(q0:m+n<9223372036854775808:=by first|omega|(simp only[z6,q9,j2,j3,v8,c5,p7];omega)|(simp;omega)):EO P C σ an ks kk its i t (.binOp .add xt (.tmp x) (.const v) yt) rt pos aft g (.int ((m+n:Nat):Int)):=by obtain⟨hx,hy,hk⟩:=YG q__;exact λτ _ H K=>by rw[X3 hk];exact q41 m n (evt (K _ _ hx)) (show ev C.gl τ (.const v)=some _ from hy) q0 H
theorem zQ{x y:Nat}(q__:(facts an ks σ.env its i x,facts an ks σ.env its i y,XI kk i)=(some (.int ((m:Nat):Int)),some (.int ((n:Nat):Int)),true))(q0:n<=m:=by first|omega|(simp only[z6,q9,j2,j3,v8,c5,p7];omega)|(simp;omega))(q1:m<9223372036854775808:=by first|omega|(simp only[z6,q9,j2,j3,v8,c5,p7];omega)|(simp;omega)):EO P C σ an ks kk its i t (.binOp .sub xt (.tmp x) (.tmp y) yt) rt pos aft g (.int ((m-n:Nat):Int)):=by obtain⟨hx,hy,hk⟩:=YG q__;exact λτ _ H K=>by rw[X3 hk];exact BW m n (evt (K _ _ hx)) (evt (K _ _ hy)) q0 q1 H
theorem AD{x:Nat}(n:Nat)(q__:(facts an ks σ.env its i x,ev C.gl σ (.const v),XI kk i)=(some (.int ((m:Nat):Int)),some (.int ((n:Nat):Int)),true))(q0:n<=m:=by first|omega|(simp only[z6,q9,j2,j3,v8,c5,p7];omega)|(simp;omega))(q1:m<9223372036854775808:=by first|omega|(simp only[z6,q9,j2,j3,v8,c5,p7];omega)|(simp;omega)):EO P C σ an ks kk its i t (.binOp .sub xt (.tmp x) (.const v) yt) rt pos aft g (.int ((m-n:Nat):Int)):=by obtain⟨hx,hy,hk⟩:=YG q__;exact λτ _ H K=>by rw[X3 hk];exact BW m n (evt (K _ _ hx)) (show ev C.gl τ (.const v)=some _ from hy) q0 q1 H
theorem zS{x y:Nat}(q__:(facts an ks σ.env its i x,facts an ks σ.env its i y,XI kk i)=(some (.int ((m:Nat):Int)),some (.int ((n:Nat):Int)),true)):EO P C σ an ks kk its i t (.binOp .lss xt (.tmp x) (.tmp y) yt) rt pos aft g (.bool (decide (m<n))):=by obtain⟨hx,hy,hk⟩:=YG q__;exact λτ _ H K=>by rw[X3 hk];exact u43 m n (evt (K _ _ hx)) (evt (K _ _ hy)) H
theorem GV{x:Nat}(n:Nat)(q__:(facts an ks σ.env its i x,ev C.gl σ (.const v),XI kk i)=(some (.int ((m:Nat):Int)),some (.int ((n:Nat):Int)),true)):EO P C σ an ks kk its i t (.binOp .lss xt (.tmp x) (.const v) yt) rt pos aft g (.bool (decide (m<n))):=by obtain⟨hx,hy,hk⟩:=YG q__;exact λτ _ H K=>by rw[X3 hk];exact u43 m n (evt (K _ _ hx)) (show ev C.gl τ (.const v)=some _ from hy) H
theorem OE{x:Nat}(n:Nat)(q__:(facts an ks σ.env its i x,ev C.gl σ (.const v),XI kk i)=(some (.int ((m:Nat):Int)),some (.int ((n:Nat):Int)),true)):EO P C σ an ks kk its i t (.binOp .gtr xt (.tmp x) (.const v) yt) rt pos aft g (.bool (decide (n<m))):=by obtain⟨hx,hy,hk⟩:=YG q__;exact λτ _ H K=>by rw[X3 hk];exact k12 m n (evt (K _ _ hx)) (show ev C.gl τ (.const v)=some _ from hy) H
theorem GZ{x:Nat}(n:Nat)(q__:(facts an ks σ.env its i x,ev C.gl σ (.const v),XI kk i)=(some (.int ((m:Nat):Int)),some (.int ((n:Nat):Int)),true)):EO P C σ an ks kk its i t (.binOp .eql xt (.tmp x) (.const v) yt) rt pos aft g (.bool (decide (m=n))):=by obtain⟨hx,hy,hk⟩:=YG q__;exact λτ _ H K=>by rw[X3 hk];exact HE m n (evt (K _ _ hx)) (show ev C.gl τ (.const v)=some _ from hy) H
theorem g84{x y:Nat}(q__:(facts an ks σ.env its i x,facts an ks σ.env its i y,XI kk i)=(some (.int ((m:Nat):Int)),some (.int ((n:Nat):Int)),true)):EO P C σ an ks kk its i t (.binOp .neq xt (.tmp x) (.tmp y) yt) rt pos aft g (.bool (decide (m≠n))):=by obtain⟨hx,hy,hk⟩:=YG q__;exact λτ _ H K=>by rw[X3 hk];exact u42 m n (evt (K _ _ hx)) (evt (K _ _ hy)) H
theorem v95{x:Nat}(n:Nat)(q__:(facts an ks σ.env its i x,ev C.gl σ (.const v),XI kk i)=(some (.int ((m:Nat):Int)),some (.int ((n:Nat):Int)),true)):EO P C σ an ks kk its i t (.binOp .neq xt (.tmp x) (.const v) yt) rt pos aft g (.bool (decide (m≠n))):=by obtain⟨hx,hy,hk⟩:=YG q__;exact λτ _ H K=>by rw[X3 hk];exact u42 m n (evt (K _ _ hx)) (show ev C.gl τ (.const v)=some _ from hy) H
theorem zB{op:BinOp}{x y:Nat}{dy:D}(q__:(facts an ks σ.env its i x,facts an ks σ.env its i y,arith op dx dy,XI kk i)=(some dx,some dy,some (True,d),true)):EO P C σ an ks kk its i t (.binOp op xt (.tmp x) (.tmp y) yt) rt pos aft g d:=by obtain⟨hx,hy,ha,hk⟩:=u48 q__;exact λτ _ H K=>by rw[X3 hk];exact R.bin (evt (K _ _ hx)) (evt (K _ _ hy)) ha trivial H
theorem ZP{op:BinOp}{x:Nat}{dy:D}(q__:(facts an ks σ.env its i x,arith op dx dy,XI kk i)=(some dx,some (True,d),true))(hy:ev C.gl σ (.const v)=some dy):EO P C σ an ks kk its i t (.binOp op xt (.tmp x) (.const v) yt) rt pos aft g d:=by obtain⟨hx,ha,hk⟩:=YG q__;exact λτ _ H K=>by rw[X3 hk];exact R.bin (evt (K _ _ hx)) (show ev C.gl τ (.const v)=some _ from hy) ha trivial H
theorem zW{src dst:TypeId}{k k0:IntKind}{x:Nat}[h0:IkT P src k0][hT:IkT P dst k](q__:(facts an ks σ.env its i x,TF k dx,XI kk i)=(some dx,some d,true)):EO P C σ an ks kk its i t (.convert src dst (.tmp x)) rt pos aft g d:=by obtain⟨hx,ha,hk⟩:=YG q__;exact λτ _ H K=>by rw[X3 hk];exact R.conv (evt (K _ _ hx)) ha H
theorem BH{op:UnOp}{x:Nat}(q__:(facts an ks σ.env its i x,g17 op dx,XI kk i)=(some dx,some d,true)):EO P C σ an ks kk its i t (.unOp op xt (.tmp x)) rt pos aft g d:=by obtain⟨hx,ha,hk⟩:=YG q__;exact λτ _ H K=>by rw[X3 hk];exact R.un (evt (K _ _ hx)) ha H
theorem zT{c x:Nat}{y:Operand}{b:Bool}(q__:(facts an ks σ.env its i c,facts an ks σ.env its i x,d.pur,XI kk i)=(some (.bool b),some d,true,true))(hb:b=true):EO P C σ an ks kk its i t (.pick (.tmp c) (.tmp x) y) rt pos aft g d:=by obtain⟨hc,hx,hp,hk⟩:=u48 q__;exact λτ _ H K=>by rw[X3 hk];exact BQ (evt (K _ _ hc)) hb (evt (K _ _ hx)) hp H
theorem EW{c:Nat}{y:Operand}{b:Bool}(q__:(facts an ks σ.env its i c,d.pur,XI kk i)=(some (.bool b),true,true))(hb:b=true)(hx:ev C.gl σ (.const v)=some d):EO P C σ an ks kk its i t (.pick (.tmp c) (.const v) y) rt pos aft g d:=by obtain⟨hc,hp,hk⟩:=YG q__;exact λτ _ H K=>by rw[X3 hk];exact BQ (evt (K _ _ hc)) hb (show ev C.gl τ (.const v)=some _ from hx) hp H
theorem zF{c x:Nat}{y:Operand}{b:Bool}(q__:(facts an ks σ.env its i c,facts an ks σ.env its i x,d.pur,XI kk i)=(some (.bool b),some d,true,true))(hb:b=false):EO P C σ an ks kk its i t (.pick (.tmp c) y (.tmp x)) rt pos aft g d:=by obtain⟨hc,hx,hp,hk⟩:=u48 q__;exact λτ _ H K=>by rw[X3 hk];exact ET (evt (K _ _ hc)) hb (evt (K _ _ hx)) hp H
theorem FQ{c:Nat}{y:Operand}{b:Bool}(q__:(facts an ks σ.env its i c,d.pur,XI kk i)=(some (.bool b),true,true))(hb:b=false)(hx:ev C.gl σ (.const v)=some d):EO P C σ an ks kk its i t (.pick (.tmp c) y (.const v)) rt pos aft g d:=by obtain⟨hc,hp,hk⟩:=YG q__;exact λτ _ H K=>by rw[X3 hk];exact ET (evt (K _ _ hc)) hb (show ev C.gl τ (.const v)=some _ from hx) hp H
def w21:List (Nat×Nat)->Nat->Nat->Bool
 | [],_,_=>false
 | (k,x)::r,i,s=>bif Nat.beq k i then Nat.beq x s&&XI r i else w21 r i s
theorem k55{i s:Nat}:∀ {kk:List (Nat×Nat)},w21 kk i s=true->KV τ kk i=τ.kill s:=by
 intro kk
 induction kk with
 | nil=>intro h;cases h
 | cons y r ih=>
  obtain⟨k,x⟩:=y;intro h;rw[w21] at h;rw[KV]
  cases hb:Nat.beq k i with
  | true=>
   rw[hb,Q6,u6] at h;rw[Q6,Z5 h.1];exact X3 h.2
  | false=>rw[hb,p6] at h;rw[p6];exact ih h
theorem zO(q__:(facts an ks σ.env its i s,d.isRef,w21 kk i s)=(some d,false,true))(hst:s≠t:=by decide):EO P C σ an ks kk its i t (.assign (.tmp s)) rt pos aft g d:=by obtain⟨h,hd,hk⟩:=YG q__;exact λτ _ H K=>by rw[k55 hk];exact R.asgO (K _ _ h) hd H hst
theorem zV(q__:(facts an ks σ.env its i s,d.pur,XI kk i)=(some d,true,true)):EO P C σ an ks kk its i t (.move (.tmp s)) rt pos aft g d:=by obtain⟨h,hp,hk⟩:=YG q__;exact λτ _ H K=>by rw[X3 hk];exact R.mov (evt (K _ _ h)) hp H
theorem HW{y:Nat}(m:Nat)(q__:(ev C.gl σ (.const v),facts an ks σ.env its i y,XI kk i)=(some (.int ((m:Nat):Int)),some (.int ((n:Nat):Int)),true))(q0:m*n<9223372036854775808:=by first|omega|(simp only[z6,q9,j2,j3,v8,c5,p7];omega)|(simp;omega)):EO P C σ an ks kk its i t (.binOp .mul xt (.const v) (.tmp y) yt) rt pos aft g (.int ((m*n:Nat):Int)):=by obtain⟨hx,hy,hk⟩:=YG q__;exact λτ _ H K=>by rw[X3 hk];exact RQ m n (show ev C.gl τ (.const v)=some _ from hx) (evt (K _ _ hy)) q0 H
theorem YC{s0 x e z b:Nat}{l l' l2:List D}[hT:SlT P ty e][hE:ElT P e z b](q__:(facts an ks σ.env its i s,facts an ks σ.env its i s0,facts an ks σ.env its i x,w21 kk i s0)=(some (.al s0),some (.sl (some e) z l),some (.sl o z l'),true))(hp:∀ y∈l',y.pur=true)(he:l++l'=l2)(hn:l.length+l'.length<=1073741824)(hst:s0≠t:=by decide)(hby:b<=131072:=by decide):EO P C σ an ks kk its i t (.call { callee:=.builtin .append,args:=#[.tmp s,.tmp x],argTypes:=#[ty,ty] }) rt pos aft g (.sl (some e) z l2):=by obtain⟨ha,hs,hx,hk⟩:=u48 q__;exact λτ _ H K=>by rw[k55 hk];exact R0 (Or.inr (K _ _ ha)) (K _ _ hs) (SrcO.sc (SC.sl (K _ _ hx)) hp) he hn H hst hby
theorem zX{k:Nat}{ds:List D}(q__:(facts an ks σ.env its i s,ds[k]?,d.pur,XI kk i)=(some (.tup ds),some d,true,true)):EO P C σ an ks kk its i t (.extract (.tmp s) k) rt pos aft g d:=by obtain⟨h,hd,hp,hk⟩:=u48 q__;exact λτ _ H K=>by rw[X3 hk];exact R.ext (K _ _ h) hd hp H
theorem zY{ds:List D}(q__:(facts an ks σ.env its i s,PZ ds,XI kk i)=(some (.tup ds),true,true)):EO P C σ an ks kk its i t (.move (.tmp s)) rt pos aft g (.tup ds):=by obtain⟨h,hp,hk⟩:=YG q__;exact λτ _ H K=>by rw[X3 hk];exact R.movT (K _ _ h) hp H
theorem r7{x i0 off' sT f:Nat}[FdT P sT f off'](q__:(facts an ks σ.env its i x,XI kk i)=(some (.ep s' z i0 off path),true))(hst:s'≠t:=by decide):EO P C σ an ks kk its i t (.fieldAddr sT (.tmp x) f) rt pos aft g (.ep s' z i0 (off+off') (path++[f])):=by obtain⟨h,hk⟩:=WX q__;exact λτ _ H K=>by rw[X3 hk];exact R.fdE (K _ _ h) H hst
theorem DY{id:Nat}(q__:(facts an ks σ.env its i s,XI kk i)=(some (.ptr id off path),true)):EO P C σ an ks kk its i t (.nilCheck (.tmp s)) rt pos aft g (.ptr id off path):=by obtain⟨h,hk⟩:=WX q__;exact λτ _ H K=>by rw[X3 hk];exact R.nilcP (K _ _ h) H
theorem zC{f:FuncId}[CaT P f]{gl:List (Nat×D)}{x:Nat}(hC:C.gl=gl)(hF:Fn P gl f [dx] d)(q__:(facts an ks σ.env its i x,dx.pur,dx.np,XI kk i)=(some dx,true,true,true))(hr:FrsR d):EO P C σ an ks kk its i t (.call { callee:=.value (.func f),args:=[Operand.tmp x].toArray,argTypes:=tys }) rt pos aft g d:=by obtain⟨hx,hp,hn,hk⟩:=u48 q__;exact λτ _ H K=>by rw[X3 hk];exact Z7 hC hF (.cons (.pur (evt (K _ _ hx)) hp hn) .nil) hr H
theorem zD{f:FuncId}[CaT P f]{gl:List (Nat×D)}{x y:Nat}{dy:D}(hC:C.gl=gl)(hF:Fn P gl f [dx,dy] d)(q__:(facts an ks σ.env its i x,dx.pur,dx.np,facts an ks σ.env its i y,dy.pur,dy.np,XI kk i)=(some dx,true,true,some dy,true,true,true))(hr:FrsR d):EO P C σ an ks kk its i t (.call { callee:=.value (.func f),args:=[Operand.tmp x,.tmp y].toArray,argTypes:=tys }) rt pos aft g d:=by obtain⟨hx,hp,hn,hy,hp',hn',hk⟩:=g90 q__;exact λτ _ H K=>by rw[X3 hk];exact Z7 hC hF (.cons (.pur (evt (K _ _ hx)) hp hn) (.cons (.pur (evt (K _ _ hy)) hp' hn') .nil)) hr H
theorem CM{f:FuncId}[CaT P f]{gl:List (Nat×D)}{x:Nat}{dy:D}(hC:C.gl=gl)(hF:Fn P gl f [dx,dy] d)(q__:(facts an ks σ.env its i x,dx.pur,dx.np,dy.pur,dy.np,XI kk i)=(some dx,true,true,true,true,true))(hy:ev C.gl σ (.const v)=some dy)(hr:FrsR d):EO P C σ an ks kk its i t (.call { callee:=.value (.func f),args:=[Operand.tmp x,.const v].toArray,argTypes:=tys }) rt pos aft g d:=by obtain⟨hx,hp,hn,hp',hn',hk⟩:=h38 q__;exact λτ _ H K=>by rw[X3 hk];exact Z7 hC hF (.cons (.pur (evt (K _ _ hx)) hp hn) (.cons (.pur (show ev C.gl τ (.const v)=some _ from hy) hp' hn') .nil)) hr H
end
section
variable{P:Program}{C:Ctx}{σ:Sg}{ops:List Oper}{Q:Exit->Sg->Prop}{l:List Oper}{t s:Nat}{d:D}{ty rt:TypeId}{pos:String}{aft:Array Edge}
theorem I9[hZ:ZrT P ty d](q__:(σ.box t,Nat.ble (t+1) σ.n)=(none,true))(k:TL P C Q l ((σ.newB t (.var d)).set t (.ptr t 0 []))):TL P C Q (⟨some t,.alloc ty,rt,pos,aft,none⟩::l) σ:=by obtain⟨hid,ht⟩:=WX q__;exact⟨rfl,_,R.alloc hid (c8 ht),k⟩
theorem GK(q__:(σ.get s,d.pur,Nat.ble (t+1) σ.n)=(some d,true,true))(k:TL P C Q l (σ.set t d)):TL P C Q (⟨some t,.assign (.tmp s),rt,pos,aft,none⟩::l) σ:=by obtain⟨h,hp,ht⟩:=YG q__;exact⟨rfl,_,J9 (evt h) hp (c8 ht),k⟩
theorem M9{p id:Nat}{d1 d':D}{n:TypeId}[LdT P ty n gg]{x:Nat}(q__:(σ.get p,σ.box id,d0.loc path,σ.get x,d0.upd path dx)=(some (.ptr id off path),some (.var d0),some (off,d1),some dx,some d'))(k:TL P C Q l (σ.putB id (.var d')))(hp:dx.pur=true:=by rfl)(hnp:dx.np=true:=by rfl)(hn:dx.sz=n:=by rfl)(hz:d1.sz=n:=by rfl):TL P C Q (⟨none,.store ty (.tmp p) (.tmp x),rt,pos,aft,none⟩::l) σ:=by obtain⟨h,hb,hl,hx,hu⟩:=h26 q__;exact⟨rfl,_,ZV h hb hl (evt hx) hp hnp hn hz hu,k⟩
theorem W.dr{id n':Nat}{an:List Nat}{ks kk:List (Nat×Nat)}{its:List It}{σ:Sg}(hm:P.follows .mixedOrders=true)(hA0:DJ ops an m=true)(hlen:its.length=m)(H:ItOk P C σ ops an ks kk its)(hE:picks (afts an (λ_=>true) ks σ.env its) (env'.map (·.1))=env')
 (hb:σ.bx=bx') (hn:σ.n=n') (hT:TL P C Q (ops.drop its.length) ⟨n',env',bx'⟩):W P C (.region id ops.toArray true) Q σ:=LS hm hA0 hlen H hE hb hn hT
theorem iL{P:Program}(t n:TypeId)[h:LdT P t n true]:LdT P t n true:=h
theorem h15{c:Code}{σ:Sg}(env':List (Nat×D))(bx':List (Nat×Bx))(n':Nat)(hE:picks σ.get (env'.map (·.1))=env')(hb:σ.bx=bx')(hn:σ.n=n')(h:W P C c Q ⟨n',env',bx'⟩):W P C c Q σ:=v59 hE hb hn h
theorem v58{env:List (Nat×D)}{id:Nat}(m:Nat)(its:List It)(ks kk:List (Nat×Nat))(env':List (Nat×D))
 (H:AllOps P C ⟨nn,env,bx⟩ ops (QG m 0) ks kk its ops its 0) (h:j77 nn m ks kk its env ops.length=true) (hE:picks (afts (QG m 0) (λ_=>true) ks env its) (env'.map (·.1))=env')
 (hT:TL P C Q (ops.drop its.length) ⟨nn,env',bx⟩):W P C (.region id ops.toArray false) Q ⟨nn,env,bx⟩:=BV m its ks kk env' bx nn H h hE rfl rfl hT
theorem N0{env:List (Nat×D)}{id:Nat}(m:Nat)(its:List It)(env':List (Nat×D))
 (H:AllOps P C ⟨nn,env,bx⟩ ops (QG m 0) [] [] its ops its 0) (q:Q .normal ⟨nn,env',bx⟩) (h:j77 nn m [] [] its env ops.length=true:=by rfl) (hE:picks (afts (QG m 0) (λ_=>true) [] env its) (env'.map (·.1))=env':=by rfl)
 (hd:ops.drop its.length=[]:=by rfl) (hp:picks (Sg.get ⟨nn,env',bx⟩) (env'.map (·.1))=env':=by rfl):W P C (.region id ops.toArray false) Q ⟨nn,env,bx⟩:=v58 m its [] [] env' H h hE (by rw[hd];exact tU hp q)
theorem j70{y:Code}{env:List (Nat×D)}{id:Nat}(m:Nat)(its:List It)(env':List (Nat×D))
 (H:AllOps P C ⟨nn,env,bx⟩ ops (QG m 0) [] [] its ops its 0) (q:W P C y Q ⟨nn,env',bx⟩) (h:j77 nn m [] [] its env ops.length=true:=by rfl) (hE:picks (afts (QG m 0) (λ_=>true) [] env its) (env'.map (·.1))=env':=by rfl)
 (hd:ops.drop its.length=[]:=by rfl) (hp:picks (Sg.get ⟨nn,env',bx⟩) (env'.map (·.1))=env':=by rfl):W P C (.seq (.region id ops.toArray false) y) Q ⟨nn,env,bx⟩:=W.seq (N0 m its env' H q h hE hd hp)
theorem h14{y:Code}{env:List (Nat×D)}{id:Nat}(m:Nat)(its:List It)(ks kk:List (Nat×Nat))(env':List (Nat×D))
 (H:AllOps P C ⟨nn,env,bx⟩ ops (QG m 0) ks kk its ops its 0) (h:j77 nn m ks kk its env ops.length=true) (hE:picks (afts (QG m 0) (λ_=>true) ks env its) (env'.map (·.1))=env')
 (hT:TL P C (λe s=>match e with | .normal=>W P C y Q s|e=>Q e s) (ops.drop its.length) ⟨nn,env',bx⟩):W P C (.seq (.region id ops.toArray false) y) Q ⟨nn,env,bx⟩:=W.seq (v58 m its ks kk env' H h hE hT)
end
section
variable{P:Program}{C:Ctx}{σ:Sg}{ops:List Oper}{Q:Exit->Sg->Prop}{an:List Nat}{ks kk:List (Nat×Nat)}{its:List It}{i t:Nat}{d:D}{ty rt:TypeId}{pos:String}{aft:Array Edge}{g:Option (Nat×Bool)}{s off id:Nat}{path:List Nat}{nn:Nat}{env:List (Nat×D)}{bx:List (Nat×Bx)}{y:Code}
theorem xM(q:(facts an ks σ.env its i s,d.pur&&XI kk i)=(some d,true)):Ent P C σ ops an ks kk its i ⟨some t,.move (.tmp s),ty,pos,aft,none⟩ t d true:=mU s (WX q).1 (WX q).2
theorem xF{off':Nat}{s f x:Nat}[FdT P s f off'](q:(facts an ks σ.env its i x,XI kk i)=(some (.ptr id off path),true)):SX P C σ an ks kk its i ⟨some t,.fieldAddr s (.tmp x) f,rt,pos,aft,g⟩ t (.ptr id (off+off') (path++[f])):=fU x (WX q).1 (WX q).2
theorem xL{n:TypeId}[LdT P ty n gg]{p:Nat}
 (q:(facts an ks σ.env its i p,lk σ.bx id,d0.loc path,d.pur,d.sz,d.isAgg,XI kk i)=(some (.ptr id off path),some (.var d0),some (off,d),true,n,gg,true)) :
 SX P C σ an ks kk its i ⟨some t,.load ty (.tmp p),rt,pos,aft,g⟩ t d:=by obtain⟨h1,h2,h3,h4,h5,h6,h7⟩:=g90 q;exact lU p h1 h2 h3 h4 h5 h6 h7
theorem aT{op:Op}{b:Bool}{k:Nat}(q:((ops[k]?).bind (·.dst),facts an ks σ.env its i tg,want)=(some tg,some (.bool b),true))(h:b=true)(f:SX P C σ an ks kk its i ⟨some t,op,ty,pos,aft,some (k,want)⟩ t d) :
 Ent P C σ ops an ks kk its i ⟨some t,op,ty,pos,aft,some (k,want)⟩ t d true:=aW (YG q).1 (YG q).2.1 (gT h (by rw[(YG q).2.2];rfl)) f
theorem aN{op:Op}{b:Bool}{k:Nat}(q:((ops[k]?).bind (·.dst),facts an ks σ.env its i tg,want)=(some tg,some (.bool b),false))(h:b=false)(f:SX P C σ an ks kk its i ⟨some t,op,ty,pos,aft,some (k,want)⟩ t d) :
 Ent P C σ ops an ks kk its i ⟨some t,op,ty,pos,aft,some (k,want)⟩ t d true:=aW (YG q).1 (YG q).2.1 (gF h (by rw[(YG q).2.2];rfl)) f
theorem R3{op:Op}{b:Bool}{k:Nat}(q:((ops[k]?).bind (·.dst),facts an ks σ.env its i tg,want)=(some tg,some (.bool b),false))(h:b=true) :
 Ent P C σ ops an ks kk its i ⟨some t,op,ty,pos,aft,some (k,want)⟩ t .dead false:=aF (YG q).1 (YG q).2.1 (gT h (by rw[(YG q).2.2];rfl))
theorem O5{op:Op}{b:Bool}{k:Nat}(q:((ops[k]?).bind (·.dst),facts an ks σ.env its i tg,want)=(some tg,some (.bool b),true))(h:b=false) :
 Ent P C σ ops an ks kk its i ⟨some t,op,ty,pos,aft,some (k,want)⟩ t .dead false:=aF (YG q).1 (YG q).2.1 (gF h (by rw[(YG q).2.2];rfl))
theorem O3(n:Nat){v:Int}(q:(ev C.gl σ (.const (.int .i64 v)),XI kk i)=(some (.int ((n:Nat):Int)),true)):EO P C σ an ks kk its i t (.assign (.const (.int .i64 v))) rt pos aft g (.int ((n:Nat):Int)):=zK (WX q).1 (by rw[(WX q).2];rfl)
theorem i6(q:(ev C.gl σ (.const v),d.pur,XI kk i)=(some d,true,true)):EO P C σ an ks kk its i t (.assign (.const v)) rt pos aft g d:=by obtain⟨h,hp,hk⟩:=YG q;exact zK h (by rw[hp,hk])
theorem q42(d:D)(q:(ev C.gl σ (.const v),d.pur,XI kk i)=(some d,true,true)):EO P C σ an ks kk its i t (.assign (.const v)) rt pos aft g d:=i6 q
theorem P8{f:α->D}{e:Nat}{l:List α}{o:Option Nat}{z:Nat}[hT:SlT P ty e](q:(facts an ks σ.env its i s,XI kk i)=(some (.sl o z (l.map f)),true)):EO P C σ an ks kk its i t (.call { callee:=.builtin .len,args:=#[.tmp s],argTypes:=#[ty] }) rt pos aft g (.int ((l.length:Nat):Int)):=zN q (lN _)
theorem tW{T:Exit->Sg->Prop}(e:List (Nat×D))(b:List (Nat×Bx))(n:Nat)(q:(picks σ.get (e.map (·.1)),σ.bx,σ.n)=(e,b,n))(h:T .normal ⟨n,e,b⟩):TL P C T [] σ:=tV e b n (YG q).1 (YG q).2.1 (YG q).2.2 h
theorem E9{c:Code}{σ:Sg}(e:List (Nat×D))(b:List (Nat×Bx))(n:Nat)(q:(picks σ.get (e.map (·.1)),σ.bx,σ.n)=(e,b,n))(h:W P C c Q ⟨n,e,b⟩):W P C c Q σ:=h15 e b n (YG q).1 (YG q).2.1 (YG q).2.2 h
theorem UZ{id:Nat}(m:Nat)(its:List It)(ks kk:List (Nat×Nat))(env':List (Nat×D))
 (H:AllOps P C ⟨nn,env,bx⟩ ops (QG m 0) ks kk its ops its 0) (q:(j77 nn m ks kk its env ops.length,picks (afts (QG m 0) (λ_=>true) ks env its) (env'.map (·.1)))=(true,env'))
 (hT:TL P C Q (ops.drop its.length) ⟨nn,env',bx⟩):W P C (.region id ops.toArray false) Q ⟨nn,env,bx⟩:=v58 m its ks kk env' H (WX q).1 (WX q).2 hT
theorem P4{id:Nat}(m:Nat)(its:List It)(ks kk:List (Nat×Nat))(env':List (Nat×D))
 (H:AllOps P C ⟨nn,env,bx⟩ ops (QG m 0) ks kk its ops its 0) (q:(j77 nn m ks kk its env ops.length,picks (afts (QG m 0) (λ_=>true) ks env its) (env'.map (·.1)))=(true,env'))
 (hT:TL P C (λe s=>match e with | .normal=>W P C y Q s|e=>Q e s) (ops.drop its.length) ⟨nn,env',bx⟩):W P C (.seq (.region id ops.toArray false) y) Q ⟨nn,env,bx⟩:=h14 m its ks kk env' H (WX q).1 (WX q).2 hT
def k15(P:Program)(C:Ctx)(σ:Sg)(an:List Nat)(ks kk:List (Nat×Nat))(its:List It):List Oper->List It->Nat->Prop
 | o::os,⟨t,d,_⟩::r,i=>SX P C σ an ks kk its i o t d/\k15 P C σ an ks kk its os r (i+1)
 | [],_::_,_=>False
 | _,[],_=>True
def v79:List Oper->List It->Bool
 | o::os,⟨t,_,w⟩::r=>(match o.dst with|some t'=>Nat.beq t' t|none=>false)&&o.guard.isNone&&w&&v79 os r
 | _,[]=>true
 | [],_::_=>false
theorem u18{c:List It}:∀ {os:List Oper} {r:List It} {i:Nat},k15 P C σ an ks kk c os r i->v79 os r=true->AllOps P C σ ops an ks kk c os r i:=by
 intro os
 induction os with
 | nil=>
  intro r i h hu
  cases r with
  | nil=>trivial
  | cons _ _=>exact h
 | cons o os ih=>
  intro r i h hu
  cases r with
  | nil=>trivial
  | cons x r=>
   obtain⟨t,d,w⟩:=x;simp only[v79,u6,B5] at hu;obtain⟨⟨⟨h1,h2⟩,h3⟩,h4⟩:=hu
   have hd:o.dst=some t:=by
    cases hx:o.dst with
    | none=>simp[hx] at h1
    | some t'=>rw[hx] at h1;rw[Z5 h1]
   refine⟨⟨hd, ?_,λ_=>h.1⟩,ih h.2 h4⟩;unfold Wt;rw[h2];exact h3
theorem n4{id:Nat}(m:Nat)(its:List It)(env':List (Nat×D))(H:k15 P C ⟨nn,env,bx⟩ (QG m 0) [] [] its ops its 0)(q:Q .normal ⟨nn,env',bx⟩)
 (h:(j77 nn m [] [] its env ops.length&&v79 ops its,picks (afts (QG m 0) (λ_=>true) [] env its) (env'.map (·.1)),ops.drop its.length,picks (Sg.get ⟨nn,env',bx⟩) (env'.map (·.1)))=(true,env',[],env'):=by rfl):W P C (.region id ops.toArray false) Q ⟨nn,env,bx⟩:=by
 obtain⟨h,hE,hd,hp⟩:=u48 h;rw[u6] at h;exact N0 m its env' (u18 H h.2) q h.1 hE hd hp
theorem u4{id:Nat}(m:Nat)(its:List It)(env':List (Nat×D))(H:k15 P C ⟨nn,env,bx⟩ (QG m 0) [] [] its ops its 0)(q:W P C y Q ⟨nn,env',bx⟩)
 (h:(j77 nn m [] [] its env ops.length&&v79 ops its,picks (afts (QG m 0) (λ_=>true) [] env its) (env'.map (·.1)),ops.drop its.length,picks (Sg.get ⟨nn,env',bx⟩) (env'.map (·.1)))=(true,env',[],env'):=by rfl):W P C (.seq (.region id ops.toArray false) y) Q ⟨nn,env,bx⟩:=W.seq (n4 m its env' H q h)
theorem L8{id:Nat}(m:Nat)(its:List It)(env':List (Nat×D))(H:k15 P C ⟨nn,env,bx⟩ (QG m 0) [] [] its ops its 0)
 (q:(j77 nn m [] [] its env ops.length&&v79 ops its,picks (afts (QG m 0) (λ_=>true) [] env its) (env'.map (·.1)))=(true,env'))
 (hT:TL P C Q (ops.drop its.length) ⟨nn,env',bx⟩):W P C (.region id ops.toArray false) Q ⟨nn,env,bx⟩:=by
 have h:=(WX q).1;rw[u6] at h;exact v58 m its [] [] env' (u18 H h.2) h.1 (WX q).2 hT
theorem n5{id:Nat}(m:Nat)(its:List It)(env':List (Nat×D))(H:k15 P C ⟨nn,env,bx⟩ (QG m 0) [] [] its ops its 0)
 (q:(j77 nn m [] [] its env ops.length&&v79 ops its,picks (afts (QG m 0) (λ_=>true) [] env its) (env'.map (·.1)))=(true,env'))
 (hT:TL P C (λe s=>match e with | .normal=>W P C y Q s|e=>Q e s) (ops.drop its.length) ⟨nn,env',bx⟩):W P C (.seq (.region id ops.toArray false) y) Q ⟨nn,env,bx⟩:=W.seq (L8 m its env' H q hT)
theorem UK{c:Code}(N:Nat)(p:Nat->Prop)(S:Nat->Sg)(hp:0<=N/\p 0)(h0:σ=S 0)(h:∀ i,i<=N/\p i->W P C c (λe s=>match e with | .normal=>(i+1<=N/\p (i+1))/\s=S (i+1)|e=>Q e s) (S i)):W P C (.loop c) Q σ:=
 W.loop (α:={q//q<=N/\p q}) (λq=>S q.1) (λq=>N-q.1) ⟨0,hp⟩ h0 λ⟨i,hi⟩=>W.mono (h i hi) λe s he=>by
  cases e<;>first|exact he|exact⟨⟨i+1,he.1⟩,he.2,by have:=he.1.1;show N-(i+1)<N-i;omega⟩
theorem P2{c:Code}(N:Nat)(S:Nat->Sg)(h0:σ=S 0)(h:∀ i,i<=N->W P C c (λe s=>match e with | .normal=>i+1<=N/\s=S (i+1)|e=>Q e s) (S i)):W P C (.loop c) Q σ:=
 UK N (λ_=>True) S ⟨v6 _,trivial⟩ h0 λi hi=>W.mono (h i hi.1) λe s he=>by cases e<;>first|exact he|exact⟨⟨he.1,trivial⟩,he.2⟩
theorem Fo{gl:List (Nat×D)}{f:FuncId}{fn:Func}{c:Code}{ds:List D}{r:D}(n:Nat)(hf:P.funcs[f]? = some fn)(q:(fn.body,fn.ntmps,ds.all (λd=>!d.isRef),Nat.ble ds.length n)=(some c,n,true,true))
 (h:∀ C:Ctx,C.gl=gl->(∀ id b,C.pin id=some b->L6 [] id=true)->W P C c (Ends fn.results.toList P r) ⟨n,ini 0 ds,[]⟩):Fn P gl f ds r:=by
 obtain⟨h1,h2,h3,h4⟩:=u48 q;exact Fn.of hf h1 h2 h3 (c8 h4) h
theorem En{rv:ResultVar}{r r':D}(q:(DR σ rv,r.isRef,r.np)=(some r',false,true))(hr:r'=r)(h3:z52 P r rv:=by exact trivial):Ends [rv] P r .ret σ:=.one' (.inr rfl) (YG q).1 hr (YG q).2.1 (YG q).2.2 h3
theorem Eo{rv:ResultVar}{r:D}(q:(DR σ rv,r.isRef,r.np)=(some r,false,true))(h3:z52 P r rv:=by exact trivial):Ends [rv] P r .ret σ:=En q rfl h3
def g91(n:Nat)(an:List Nat)(ks kk:List (Nat×Nat))(its:List It)(env:List (Nat×D))(l:Nat):Bool:=
 Nat.ble its.length l&&q89 n (slots its)&&OL an ks (slots its) its 0&&subs kk ks&&OR (slots its) env
theorem KF{id:Nat}(m:Nat)(an:List Nat)(hm:P.follows .mixedOrders=true)(hA:DJ ops an m=true)(its:List It)(ks kk:List (Nat×Nat))(env':List (Nat×D))
 (H:AllOps P C ⟨nn,env,bx⟩ ops an ks kk its ops its 0) (q:(g91 nn an ks kk its env ops.length,its.length,picks (afts an (λ_=>true) ks env its) (env'.map (·.1)))=(true,m,env'))
 (hT:TL P C Q (ops.drop its.length) ⟨nn,env',bx⟩):W P C (.region id ops.toArray true) Q ⟨nn,env,bx⟩:=by
 obtain⟨h1,h2,h3⟩:=YG q;unfold g91 at h1;simp only[u6] at h1;exact LS hm hA h2 ⟨c8 h1.1.1.1.1,h1.1.1.1.2,H,h1.1.1.2,h1.1.2,h1.2⟩ h3 rfl rfl hT
theorem R5{id:Nat}(m:Nat)(an:List Nat)(hm:P.follows .mixedOrders=true)(hA:DJ ops an m=true)(its:List It)(env':List (Nat×D))
 (H:k15 P C ⟨nn,env,bx⟩ an [] [] its ops its 0) (q:(g91 nn an [] [] its env ops.length&&v79 ops its,its.length,picks (afts an (λ_=>true) [] env its) (env'.map (·.1)))=(true,m,env'))
 (hT:TL P C Q (ops.drop its.length) ⟨nn,env',bx⟩):W P C (.region id ops.toArray true) Q ⟨nn,env,bx⟩:=by
 obtain⟨h1,h2,h3⟩:=YG q;rw[u6] at h1;exact KF m an hm hA its [] [] env' (u18 H h1.2) (by rw[h1.1,h2,h3]) hT
end
section
variable{P:Program}{C:Ctx}{σ σ' σ1:Sg}{a:Act}{w w':World}{ρ:Nat->Nat}{Fe Fe' Fb:Nat->List Nat}
theorem AU{e:TypeId}[hk:IkT P e .u64][hL:LdT P e 1 false](w:World)(d:Nat)(xs ys:List UInt64)(n:Nat)(hx:xs.length=n)(hy:ys.length=n)(cx cy:Array Value)
 (h1:cx.toList=xs.map (λb=>Value.int .u64 b.toNat)) (h2:cy.toList=ys.map (λb=>Value.int .u64 b.toNat)):∀ (l:List Nat),(∀ i∈l,i<n) ->
 (Op.eqItems (d+1) e 1 cx cy l).run P w=.ok (l.all λi=>xs[i]? == ys[i]?) w:=by
 intro l
 induction l with
 | nil=>intro _;simp[Op.eqItems]
 | cons i l ih=>
  intro h;have hi:=h i (by simp)
  have hp:∀ (cs:Array Value) (zs:List UInt64) (hz:zs.length=n),cs.toList=zs.map (λb=>Value.int .u64 b.toNat)->(part e cs (i*1)).run P w=.ok (.int .u64 (zs[i]'(by omega)).toNat) w:=by
   intro cs zs hz hc
   have hi':i<cs.size:=by
    have:=g6 List.length hc;simp at this;omega
   have:cs[i]=.int .u64 (zs[i]'(by omega)).toNat:=by
    have e1:cs.toList[i]'(by simpa using hi')=(zs.map (λb=>Value.int .u64 b.toNat))[i]'(by simp;omega):=by simp only[hc]
    simpa using e1
   simp[part,LdT.agg (P:=P) (t:=e),hi',this]
  have e3:=hp cx xs hx h1;have e4:=hp cy ys hy h2
  obtain⟨k,hku⟩:∃ k,P.underlying e=some (.int k):=⟨_,hk.u⟩
  have e5:=run_equalIn_int (P:=P) w d e .u64 k (xs[i]'(by omega)).toNat (ys[i]'(by omega)).toNat hku;have ex:xs[i]? = some (xs[i]'(by omega)):=j9 _;have ey:ys[i]? = some (ys[i]'(by omega)):=j9 _
  have eb:((((xs[i]'(by omega)).toNat:Int))==(((ys[i]'(by omega)).toNat:Int)))=(xs[i]? == ys[i]?):=by
   rw[ex,ey,EF];rfl
  have ih':=ih (λj hj=>h j (j5 _ hj));simp only[Op.eqItems,Sem.run_bind,e3,e4,e5,Result.andThen_ok,eb,I8]
  cases hb:(xs[i]? == ys[i]?) with
  | true=>simpa using ih'
  | false=>simp
theorem u14(n:Nat)(xs ys:List UInt64)(hx:xs.length=n)(hy:ys.length=n):((List.range n).all λi=>xs[i]? == ys[i]?)=(xs==ys):=by
 rw[Q4];simp only[Z3,z7,d5];constructor
 ·intro h;apply J8;intro i;by_cases hi:i<n
  ·exact h i hi
  ·rw[U1 (by omega),U1 (by omega)]
 ·rintro rfl i _;rfl
theorem k86{p:Bool}{n:Nat}{xs:List UInt64}{cs:List Value}(h:Rc w ρ G L p (.arr n 1 (xs.map .u64)) cs F):xs.length=n/\cs=xs.map (λb=>Value.int .u64 b.toNat):=by
 cases h with
 | arr _ _ _ _ hl hs hr=>
  have hl':xs.length=n:=by simpa using hl
  refine⟨hl', ?_⟩;apply J8;intro i;by_cases hi:i<n
  ·have hic:i<cs.length:=by omega
   have:=hr i (by simp;omega);rw[Nat.mul_one,o9 hic,J1,D4] at this;simp only[n9] at this;rw[j9 hic,j9 (by simp;omega)];generalize hc:[cs[i]]=c at this;cases this;simp at hc;simp[hc]
  ·rw[U1 (by omega),U1 (by simp;omega)]
theorem j75{t e:Nat}[hT:ArT P t m e][hk:IkT P e .u64][hL:LdT P e 1 false](xs ys:List UInt64):EqV P 2 t (.arr m 1 (xs.map .u64)) (.arr m 1 (ys.map .u64)) (xs==ys):=by
 intro n w ρ1 ρ2 G1 G2 L1 L2 v1 v2 F1 F2 h1 h2;simp only[VR,D.isAgg,w5] at h1 h2;obtain⟨cx,rfl,h1⟩:=h1;obtain⟨cy,rfl,h2⟩:=h2;obtain⟨hlx,hcx⟩:=k86 h1;obtain⟨hly,hcy⟩:=k86 h2;obtain⟨d,i,_,_,hi,hsz⟩:=hL.i
 have hce:P.cellsOf e=1:=by simp[Program.cellsOf,hi,hsz]
 rw[show n+2=(n+1)+1 from rfl,run_equalIn_array w (n+1) cx cy hT.u hi,hce,AU (P:=P) w n xs ys m hlx hly cx cy hcx hcy _ (λi hi=>z7.1 hi),u14 m xs ys hlx hly]
end
section
variable{P:Program}{C:Ctx}{σ σ' σ1 σ2:Sg}{a:Act}{w w':World}{ρ ρ2:Nat->Nat}{Fe Fe' Fb Fb2:Nat->List Nat}
end
section
variable{P:Program}{C:Ctx}{σ σ':Sg}{a:Act}{w w':World}{ρ:Nat->Nat}{Fe Fb:Nat->List Nat}
end
def q21:Nat->Code->Code
 | 0,c=>c
 | k+1,.seq _ c=>q21 k c
 | _+1,c=>c
theorem k91{P:Program}{C:Ctx}{σ:Sg}{c:Code}(k:Nat)(M:Sg->Prop)(h2:∀ s,M s->W P C (q21 k c) Q s)(h1:(∀ s,M s->W P C (q21 k c) Q s)->W P C c Q σ):W P C c Q σ:=h1 h2
section
variable{P:Program}{C:Ctx}{σ σ' σ1:Sg}{a:Act}{w w':World}{ρ:Nat->Nat}{Fe Fe' Fb:Nat->List Nat}
inductive EvFs(gl:List (Nat×D))(σ:Sg):List Operand->List D->Prop
 | nil:EvFs gl σ [] []
 | cons {x:Operand} {d:D} {xs:List Operand} {ds:List D} (h:ev gl σ x=some d) (hp:d.pur=true) (ha:d.isAgg=false) (t:EvFs gl σ xs ds):EvFs gl σ (x::xs) (d::ds)
theorem EvFs.len{gl:List (Nat×D)}{xs:List Operand}{ds:List D}(h:EvFs gl σ xs ds):xs.length=ds.length:=by
 induction h with
 | nil=>rfl
 | cons _ _ _ _ ih=>simp[ih]
theorem EvFs.at{gl:List (Nat×D)}{xs:List Operand}{ds:List D}(h:EvFs gl σ xs ds):∀ k (h:k<xs.length) (h':k<ds.length),ev gl σ xs[k]=some ds[k]/\ds[k].pur=true/\ds[k].isAgg=false:=by
 induction h with
 | nil=>intro k hk;simp at hk
 | cons h hp ha t ih=>
  intro k hk hk'
  cases k with
  | zero=>exact⟨h,hp,ha⟩
  | succ k=>exact ih k (by simpa using hk) (by simpa using hk')
theorem v68{t f:Nat}{xs:List Operand}{ds:List D}{g:Option (Nat×Bool)}(h:EvFs C.gl σ xs ds)(ht:t<σ.n) :
 OpS P C ⟨some t,.makeFunc (.func f) #[] xs.toArray,rt,pos,aft,g⟩ σ (σ.set t (.fn f ds)):=R.mkfn h.len h.at ht
end
def kTab:List UInt32:=[0x428a2f98,0x71374491,0xb5c0fbcf,0xe9b5dba5,0x3956c25b,0x59f111f1,0x923f82a4,0xab1c5ed5,
 0xd807aa98,0x12835b01,0x243185be,0x550c7dc3,0x72be5d74,0x80deb1fe,0x9bdc06a7,0xc19bf174,
 0xe49b69c1,0xefbe4786,0x0fc19dc6,0x240ca1cc,0x2de92c6f,0x4a7484aa,0x5cb0a9dc,0x76f988da,
 0x983e5152,0xa831c66d,0xb00327c8,0xbf597fc7,0xc6e00bf3,0xd5a79147,0x06ca6351,0x14292967,
 0x27b70a85,0x2e1b2138,0x4d2c6dfc,0x53380d13,0x650a7354,0x766a0abb,0x81c2c92e,0x92722c85,
 0xa2bfe8a1,0xa81a664b,0xc24b8b70,0xc76c51a3,0xd192e819,0xd6990624,0xf40e3585,0x106aa070,
 0x19a4c116,0x1e376c08,0x2748774c,0x34b0bcb5,0x391c0cb3,0x4ed8aa4a,0x5b9cca4f,0x682e6ff3,
 0x748f82ee,0x78a5636f,0x84c87814,0x8cc70208,0x90befffa,0xa4506ceb,0xbef9a3f7,0xc67178f2]
def iv:List UInt32:=[0x6a09e667,0xbb67ae85,0x3c6ef372,0xa54ff53a,0x510e527f,0x9b05688c,0x1f83d9ab,0x5be0cd19]
def YW(b:List UInt8):D:=.sl none 1 (b.map D.u8)
def w7(b:List UInt8):D:=.arr 32 1 (b.map D.u8)
def rotl(x:UInt32)(k:Int):UInt32:=M0 x (UInt64.ofInt k&&&31).toNat|||X8 x (32-(UInt64.ofInt k&&&31)).toNat
def right(x:UInt32)(n:Int):UInt32:=rotl x (wr (0-n))
def w26(p:List UInt8)(t:Nat)(w:List UInt32):Nat->List UInt32
 | 0=>w
 | i+1=>(w26 p t w i).set t (M0 (w26 p t w i)[t]! 8|||(p[4*t+i]!).toUInt32)
def x84(w:List UInt32)(t:Nat):UInt32:=
 w[t-16]!+w[t-7]!+(right w[t-15]! 7^^^right w[t-15]! 18^^^X8 w[t-15]! 3)+(right w[t-2]! 17^^^right w[t-2]! 19^^^X8 w[t-2]! 10)
def sched(p:List UInt8):Nat->List UInt32
 | 0=>List.replicate 64 0
 | t+1=>if t<16 then w26 p t (sched p t) 4 else(sched p t).set t (x84 (sched p t) t)
structure W8 where
 a:UInt32
 b:UInt32
 c:UInt32
 d:UInt32
 e:UInt32
 f:UInt32
 g:UInt32
 l:UInt32
def W8.list(v:W8):List UInt32:=[v.a,v.b,v.c,v.d,v.e,v.f,v.g,v.l]
def W8.of(h:List UInt32):W8:=⟨h[0]!,h[1]!,h[2]!,h[3]!,h[4]!,h[5]!,h[6]!,h[7]!⟩
def one(v:W8)(k w:UInt32):UInt32:=v.l+(right v.e 6^^^right v.e 11^^^right v.e 25)+(v.g^^^(v.e&&&(v.f^^^v.g)))+k+w
def two(v:W8):UInt32:=(right v.a 2^^^right v.a 13^^^right v.a 22)+(v.a&&&v.b|||v.c&&&(v.a|||v.b))
def rnd(v:W8)(k w:UInt32):W8:=⟨one v k w+two v,v.a,v.b,v.c,v.d+one v k w,v.e,v.f,v.g⟩
def rds(h w:List UInt32):Nat->W8
 | 0=>W8.of h
 | t+1=>rnd (rds h w t) kTab[t]! w[t]!
def OB(h l:List UInt32):Nat->List UInt32
 | 0=>h
 | i+1=>(OB h l i).set i ((OB h l i)[i]!+l[i]!)
def comp(h:List UInt32)(p:List UInt8):List UInt32:=OB h (rds h (sched p 64) 64).list 8
structure ShaS where
 begun:Bool
 h:List UInt32
 piece:List UInt8
 n:UInt64
def z49(s:ShaS):D:=.agg [.bool s.begun,.arr 8 1 (s.h.map D.u32),.arr 64 1 (s.piece.map D.u8),.u64 s.n]
def ShaS.zero:ShaS:=⟨false,List.replicate 8 0,List.replicate 64 0,0⟩
def ShaS.start:ShaS:=⟨true,iv,List.replicate 64 0,0⟩
structure ShaS.ok(s:ShaS):Prop where
 h:s.h.length=8
 p:s.piece.length=64
theorem XJ:ShaS.start.ok:=⟨by simp[ShaS.start,iv],by simp[ShaS.start]⟩
theorem OU(s:ShaS):Frs (z49 s):=.agg _ (MD (.bool _) (MD (.arr _ _ _ (J5 λ_=>.u32 _)) (MD (.arr _ _ _ (J5 λ_=>.u8 _)) (MD (.u64 _) v25))))
theorem B4(b:List UInt8):Frs (w7 b):=.arr _ _ _ (J5 λ_=>.u8 _)
theorem k56(p:List UInt8)(t:Nat)(w:List UInt32)(i:Nat):(w26 p t w i).length=w.length:=by
 induction i with
 | zero=>rfl
 | succ i ih=>simp[w26,ih]
theorem SN(p:List UInt8)(t:Nat):(sched p t).length=64:=by
 induction t with
 | zero=>simp[sched]
 | succ t ih=>simp only[sched];split<;>simp[k56,ih]
theorem MS(h l:List UInt32)(i:Nat):(OB h l i).length=h.length:=by
 induction i with
 | zero=>rfl
 | succ i ih=>simp[OB,ih]
theorem u00(h:List UInt32)(p:List UInt8):(comp h p).length=h.length:=MS ..
def mS(s:ShaS):Nat:=(s.n%64).toNat
def kS(s:ShaS)(b:List UInt8):Nat:=min b.length (64-mS s)
def HH(s:ShaS)(b:List UInt8):List UInt8:=s.piece.take (mS s)++b.take (kS s b)++s.piece.drop (mS s+kS s b)
def nS(s:ShaS)(b:List UInt8):UInt64:=s.n+UInt64.ofInt (kS s b:Nat)
def UN(s:ShaS)(b:List UInt8):ShaS:=⟨s.begun,bif nS s b%64==0 then comp s.h (HH s b) else s.h,HH s b,nS s b⟩
theorem OS(s:ShaS):mS s<64:=by
 unfold mS;rw[s7];exact G8 _ (by decide)
theorem w22(s:ShaS)(b:List UInt8):kS s b<=b.length:=Nat.min_le_left _ _
theorem BO(s:ShaS)(b:List UInt8)(h:0<b.length):0<kS s b:=by have:=OS s;unfold kS;omega
theorem WT(s:ShaS)(b:List UInt8):mS s+kS s b<=64:=by have:=OS s;unfold kS;omega
def LL(s:ShaS)(b:List UInt8):ShaS:=
 if h:b.length=0 then s else LL (UN s b) (b.drop (kS s b))
termination_by b.length
decreasing_by
 have:=BO s b (by omega);simp only[c5];omega
theorem CC(s:ShaS)(b:List UInt8)(h:b.length=0):LL s b=s:=by rw[LL];simp[h]
theorem UD(s:ShaS)(b:List UInt8)(h:b.length≠0):LL s b=LL (UN s b) (b.drop (kS s b)):=by rw[LL];simp[h]
def GQ(s:ShaS)(b:List UInt8):ShaS:=LL (bif s.begun then s else ShaS.start) b
theorem FT(s:ShaS)(b:List UInt8)(h:s.ok):(HH s b).length=64:=by
 have h1:=WT s b;have h2:=w22 s b;have h3:=h.p;simp[HH];omega
theorem FP(s:ShaS)(b:List UInt8)(h:s.ok):(UN s b).ok:=by
 refine⟨?_,FT s b h⟩;simp only[UN]
 cases (nS s b%64==0) with
 | true=>simp only[Q6,u00];exact h.h
 | false=>exact h.h
theorem k90(s:ShaS)(b:List UInt8)(h:s.ok):(LL s b).ok:=by
 induction hn:b.length using Nat.strongRecOn generalizing s b with
 | _ n ih=>
  by_cases h0:b.length=0
  ·rw[CC _ _ h0];exact h
  ·rw[UD _ _ h0];have:=BO s b (by omega);exact ih _ (by simp;omega) _ _ (FP s b h) rfl
theorem EL(s:ShaS)(b:List UInt8)(h:s.ok):(GQ s b).ok:=by
 unfold GQ
 cases s.begun with
 | true=>exact k90 _ _ h
 | false=>exact k90 _ _ XJ
def BZ(s:ShaS):Nat:=(120-mS s)%64
def q84:Nat->ShaS->ShaS
 | 0,s=>s
 | k+1,s=>q84 k (GQ s [0])
def GM(n:UInt64):Nat->List UInt8
 | 0=>List.replicate 8 0
 | i+1=>(GM n i).set i (R7 n (56-8*i)).toUInt8
theorem NI(n:UInt64)(i:Nat):(GM n i).length=8:=by
 induction i with
 | zero=>simp[GM]
 | succ i ih=>simp[GM,ih]
def RL(h:List UInt32):Nat->List UInt8
 | 0=>List.replicate 32 0
 | i+1=>(RL h i).set i (X8 h[i/4]! (24-8*(i%4))).toUInt8
theorem q86(h:List UInt32)(i:Nat):(RL h i).length=32:=by
 induction i with
 | zero=>simp[RL]
 | succ i ih=>simp[RL,ih]
def x69(s:ShaS):ShaS:=GQ s [128]
def j18(s:ShaS):ShaS:=q84 (BZ (x69 s)) (x69 s)
def RF(s:ShaS):ShaS:=GQ (j18 s) (GM (s.n*8) 8)
def w90(s:ShaS):List UInt8:=RL (RF s).h 32
def GX(b:List UInt8):List UInt8:=w90 (GQ ShaS.start b)
def DB(b:List UInt8):List UInt8:=GX (GX b)
theorem w89(s:ShaS):(w90 s).length=32:=q86 _ _
theorem FB(b:List UInt8):(GX b).length=32:=w89 _
theorem q56(s:ShaS)(b:List UInt8):(UN s b).begun=s.begun:=rfl
theorem k08(s:ShaS)(b:List UInt8):(LL s b).begun=s.begun:=by
 induction hn:b.length using Nat.strongRecOn generalizing s b with
 | _ n ih=>
  by_cases h0:b.length=0
  ·rw[CC _ _ h0]
  ·rw[UD _ _ h0];have:=BO s b (by omega);rw[ih _ (by simp;omega) _ _ rfl,q56]
theorem LR(s:ShaS)(b:List UInt8):(GQ s b).begun=true:=by
 unfold GQ;rw[k08]
 cases h:s.begun with
 | true=>simpa using h
 | false=>rfl
theorem u23(s:ShaS)(x:UInt8)(h:s.begun=true):GQ s [x]=UN s [x]:=by
 unfold GQ
 have hk:kS s [x]=1:=by have:=OS s;simp only[kS,n7];omega
 rw[h,Q6,UD _ _ (by simp),CC _ _ (by simp[hk])]
theorem w11(s:ShaS)(x:UInt8)(h:s.begun=true):mS (GQ s [x])=(mS s+1)%64:=by
 rw[u23 s x h]
 have hk:kS s [x]=1:=by have:=OS s;simp only[kS,n7];omega
 have e:UInt64.ofInt ((1:Nat):Int)=1:=rfl;have e1:(1:UInt64).toNat=1:=rfl;have e2:(64:UInt64).toNat=64:=rfl;simp only[mS,UN,nS,hk,e,s7,UInt64.toNat_add,e1,e2];omega
theorem v83{s:ShaS}(h:(s.n%64 != 56)=true):mS s≠56:=by
 intro he;have:s.n%64=56:=M6.1 he;simp[this] at h
theorem g50{s:ShaS}(h:(s.n%64 != 56)=false):mS s=56:=by
 have:s.n%64=56:=by simpa using h
 unfold mS;rw[this];rfl
theorem x67(s:ShaS)(hb:s.begun=true)(h:mS s≠56):q84 (BZ s) s=q84 (BZ (GQ s [0])) (GQ s [0]):=by
 have h1:=w11 s 0 hb;have h2:=OS s
 have:BZ s=BZ (GQ s [0])+1:=by unfold BZ;omega
 rw[this];rfl
theorem x68(s:ShaS)(hb:s.begun=true)(h:mS s≠56):BZ (GQ s [0])<BZ s:=by
 have h1:=w11 s 0 hb;have h2:=OS s;unfold BZ;omega
theorem u96(s:ShaS)(h:mS s=56):BZ s=0:=by unfold BZ;omega
def rright(x:UInt32)(n:UInt64):UInt32:=X8 x n.toNat|||M0 x (32-n).toNat
def w4(p:List UInt8)(t:Nat):UInt32:=
 M0 (p[4*t]!).toUInt32 24|||M0 (p[4*t+1]!).toUInt32 16|||M0 (p[4*t+2]!).toUInt32 8|||(p[4*t+3]!).toUInt32
def x85(w:List UInt32)(t:Nat):UInt32:=
 (rright w[t-2]! 17^^^rright w[t-2]! 19^^^X8 w[t-2]! 10)+w[t-7]!+(rright w[t-15]! 7^^^rright w[t-15]! 18^^^X8 w[t-15]! 3)+w[t-16]!
def wR(p:List UInt8):Nat->List UInt32
 | 0=>[]
 | t+1=>wR p t++[if t<16 then w4 p t else x85 (wR p t) t]
theorem VC(p:List UInt8)(t:Nat):(wR p t).length=t:=by
 induction t with
 | zero=>rfl
 | succ t ih=>simp[wR,ih]
def y48(l:List UInt32)(k w:UInt32):UInt32:=
 l[7]!+(rright l[4]! 6^^^rright l[4]! 11^^^rright l[4]! 25)+(l[4]!&&&l[5]! ^^^ ~~~l[4]!&&&l[6]!)+k+w
def g18(l:List UInt32):UInt32:=(rright l[0]! 2^^^rright l[0]! 13^^^rright l[0]! 22)+(l[0]!&&&l[1]!^^^l[0]!&&&l[2]!^^^l[1]!&&&l[2]!)
def y33(l:List UInt32)(k w:UInt32):List UInt32:=[y48 l k w+g18 l,l[0]!,l[1]!,l[2]!,l[3]!+y48 l k w,l[4]!,l[5]!,l[6]!]
def XY(h w:List UInt32):Nat->List UInt32
 | 0=>h
 | t+1=>y33 (XY h w t) kTab[t]! w[t]!
theorem x50(h w:List UInt32)(t:Nat)(hh:h.length=8):(XY h w t).length=8:=by
 cases t with
 | zero=>exact hh
 | succ t=>rfl
def k69(h:List UInt32)(p:List UInt8):List UInt32:=OB h (XY h (wR p 64) 64) 8
theorem j56(h:List UInt32)(p:List UInt8):(k69 h p).length=h.length:=MS ..
def zR(b:List UInt8):Nat:=(119-b.length%64)%64
def DN(n:UInt64):Nat->List UInt8
 | 0=>[]
 | j+1=>DN n j++[(R7 n (UInt64.ofInt (wr (8*(7-((j:Nat):Int))))).toNat).toUInt8]
theorem NY(n:UInt64)(t:Nat):(DN n t).length=t:=by
 induction t with
 | zero=>rfl
 | succ t ih=>simp[DN,ih]
def TW(b:List UInt8):UInt64:=UInt64.ofInt (b.length:Nat)*8
def Y1(b:List UInt8):List UInt8:=b++[128]++List.replicate (zR b) 0++DN (TW b) 8
theorem SH(b:List UInt8):(Y1 b).length=b.length+9+zR b:=by simp[Y1,NY];omega
def pieces(b:List UInt8):Nat:=(b.length+9+zR b)/64
theorem PX(b:List UInt8):(Y1 b).length=64*pieces b:=by rw[SH];unfold pieces zR;omega
def hR(all:List UInt8):Nat->List UInt32
 | 0=>iv
 | m+1=>k69 (hR all m) ((all.drop (64*m)).take 64)
theorem w38(all:List UInt8)(m:Nat):(hR all m).length=8:=by
 induction m with
 | zero=>rfl
 | succ m ih=>simp only[hR,j56,ih]
def RI(h:List UInt32):Nat->List UInt8
 | 0=>List.replicate 32 0
 | i+1=>(RI h i).set i (X8 h[i/4]! (UInt64.ofInt ((24-8*(i%4):Nat):Int)).toNat).toUInt8
theorem q85(h:List UInt32)(i:Nat):(RI h i).length=32:=by
 induction i with
 | zero=>simp[RI]
 | succ i ih=>simp[RI,ih]
def NG(b:List UInt8):List UInt8:=RI (hR (Y1 b) (pieces b)) 32
def DP(b:List UInt8):List UInt8:=NG (NG b)
theorem DO(b:List UInt8):(NG b).length=32:=q85 _ _
section
open Go.Proofs Go.Proofs.Tryz
set_option maxRecDepth 100000
instance:IkT prog 2 .i64:=⟨O⟩
instance:LdT prog 3 1 false:=⟨_,_,O,O,O,O⟩
instance:ElT prog 3 1 8:=⟨_,_,O,O,O,O,O,dU,O⟩
instance:IkT prog 3 .i64:=⟨O⟩
instance:ZrT prog 3 (.int 0):=⟨_,_,O,O,dU,O⟩
instance:LdT prog 4 1 false:=⟨_,_,O,O,O,O⟩
instance:BoT prog 4:=⟨O⟩
instance:LdT prog 5 1 false:=⟨_,_,O,O,O,O⟩
instance:ElT prog 5 1 1:=⟨_,_,O,O,O,O,O,dU,O⟩
instance:IkT prog 5 .u8:=⟨O⟩
instance:ZrT prog 5 (.u8 0):=⟨_,_,O,O,dU,O⟩
instance:LdT prog 23 32 true:=⟨_,_,O,O,O,O⟩
instance:ElT prog 23 32 32:=⟨_,_,O,O,O,O,O,dU,O⟩
instance:ArT prog 23 32 5:=⟨O⟩
instance:EqT prog 23:=⟨by decide +kernel⟩
instance:ZrT prog 23 (.arr 32 1 ((List.replicate 32 0).map D.u8)):=⟨_,_,O,O,dU,O⟩
instance:LdT prog 24 1 false:=⟨_,_,O,O,O,O⟩
instance:ElT prog 24 1 24:=⟨_,_,O,O,O,O,O,dU,O⟩
instance:SlT prog 24 5:=⟨O⟩
instance:LdT prog 25 1 false:=⟨_,_,O,O,O,O⟩
instance:SlT prog 25 23:=⟨O⟩
instance:LdT prog 27 1 false:=⟨_,_,O,O,O,O⟩
instance:ElT prog 27 1 4:=⟨_,_,O,O,O,O,O,dU,O⟩
instance:IkT prog 27 .u32:=⟨O⟩
instance:LdT prog 28 1 false:=⟨_,_,O,O,O,O⟩
instance:SlT prog 28 112:=⟨O⟩
instance:LdT prog 29 1 false:=⟨_,_,O,O,O,O⟩
instance:SlT prog 29 115:=⟨O⟩
instance:LdT prog 31 4 true:=⟨_,_,O,O,O,O⟩
instance:ElT prog 31 4 64:=⟨_,_,O,O,O,O,O,dU,O⟩
instance:FdT prog 31 0 0:=⟨_,_,_,O,O,O,O,dU⟩
instance:FdT prog 31 1 1:=⟨_,_,_,O,O,O,O,dU⟩
instance:FdT prog 31 2 2:=⟨_,_,_,O,O,O,O,dU⟩
instance:FdT prog 31 3 3:=⟨_,_,_,O,O,O,O,dU⟩
instance:ZrT prog 31 (.agg [.u32 0,.nils,.nils,.u32 0]):=⟨_,_,O,O,dU,O⟩
instance:BsT prog 31 ([.u32 0,.nils,.nils,.u32 0]):=⟨_,_,_,O,O,O,O,dU⟩
instance:LdT prog 37 1 false:=⟨_,_,O,O,O,O⟩
instance:ElT prog 37 1 24:=⟨_,_,O,O,O,O,O,dU,O⟩
instance:SlT prog 37 78:=⟨O⟩
instance:SlT prog 38 70:=⟨O⟩
instance:LdT prog 40 5 true:=⟨_,_,O,O,O,O⟩
instance:FdT prog 40 0 0:=⟨_,_,_,O,O,O,O,dU⟩
instance:FdT prog 40 1 1:=⟨_,_,_,O,O,O,O,dU⟩
instance:FdT prog 40 2 2:=⟨_,_,_,O,O,O,O,dU⟩
instance:FdT prog 40 3 3:=⟨_,_,_,O,O,O,O,dU⟩
instance:FdT prog 40 4 4:=⟨_,_,_,O,O,O,O,dU⟩
instance:LdT prog 42 1 false:=⟨_,_,O,O,O,O⟩
instance:SlT prog 42 262:=⟨O⟩
instance:LdT prog 44 68 true:=⟨_,_,O,O,O,O⟩
instance:ElT prog 44 68 80:=⟨_,_,O,O,O,O,O,dU,O⟩
instance:FdT prog 44 0 0:=⟨_,_,_,O,O,O,O,dU⟩
instance:FdT prog 44 1 1:=⟨_,_,_,O,O,O,O,dU⟩
instance:FdT prog 44 2 33:=⟨_,_,_,O,O,O,O,dU⟩
instance:FdT prog 44 3 65:=⟨_,_,_,O,O,O,O,dU⟩
instance:FdT prog 44 4 66:=⟨_,_,_,O,O,O,O,dU⟩
instance:FdT prog 44 5 67:=⟨_,_,_,O,O,O,O,dU⟩
instance:ZrT prog 44 (.agg [.u32 0,.arr 32 1 ((List.replicate 32 0).map D.u8),.arr 32 1 ((List.replicate 32 0).map D.u8),.u32 0,.u32 0,.u32 0]):=⟨_,_,O,O,dU,O⟩
instance:BsT prog 44 ([.u32 0,.arr 32 1 ((List.replicate 32 0).map D.u8),.arr 32 1 ((List.replicate 32 0).map D.u8),.u32 0,.u32 0,.u32 0]):=⟨_,_,_,O,O,O,O,dU⟩
instance:LdT prog 46 72 true:=⟨_,_,O,O,O,O⟩
instance:FdT prog 46 0 0:=⟨_,_,_,O,O,O,O,dU⟩
instance:FdT prog 46 1 1:=⟨_,_,_,O,O,O,O,dU⟩
instance:FdT prog 46 2 2:=⟨_,_,_,O,O,O,O,dU⟩
instance:FdT prog 46 3 3:=⟨_,_,_,O,O,O,O,dU⟩
instance:FdT prog 46 4 4:=⟨_,_,_,O,O,O,O,dU⟩
instance:ZrT prog 46 (.agg [.u32 0,.int 0,.u32 0,.nils,.agg [.u32 0,.arr 32 1 ((List.replicate 32 0).map D.u8),.arr 32 1 ((List.replicate 32 0).map D.u8),.u32 0,.u32 0,.u32 0]]):=⟨_,_,O,O,dU,O⟩
instance:BsT prog 46 ([.u32 0,.int 0,.u32 0,.nils,.agg [.u32 0,.arr 32 1 ((List.replicate 32 0).map D.u8),.arr 32 1 ((List.replicate 32 0).map D.u8),.u32 0,.u32 0,.u32 0]]):=⟨_,_,_,O,O,O,O,dU⟩
instance:SlT prog 50 37:=⟨O⟩
instance:LdT prog 55 1 false:=⟨_,_,O,O,O,O⟩
instance:SlT prog 55 119:=⟨O⟩
instance:ZrT prog 55 (.nils):=⟨_,_,O,O,dU,O⟩
instance:SlT prog 58 121:=⟨O⟩
instance:LdT prog 60 1 false:=⟨_,_,O,O,O,O⟩
instance:ElT prog 60 1 8:=⟨_,_,O,O,O,O,O,dU,O⟩
instance:IkT prog 60 .u64:=⟨O⟩
instance:LdT prog 68 1 false:=⟨_,_,O,O,O,O⟩
instance:SlT prog 68 117:=⟨O⟩
instance:LdT prog 70 3 true:=⟨_,_,O,O,O,O⟩
instance:ElT prog 70 3 40:=⟨_,_,O,O,O,O,O,dU,O⟩
instance:FdT prog 70 0 0:=⟨_,_,_,O,O,O,O,dU⟩
instance:FdT prog 70 1 1:=⟨_,_,_,O,O,O,O,dU⟩
instance:FdT prog 70 2 2:=⟨_,_,_,O,O,O,O,dU⟩
instance:BsT prog 70 ([.u8 0,.nils,.u8 0]):=⟨_,_,_,O,O,O,O,dU⟩
instance:LdT prog 76 1 false:=⟨_,_,O,O,O,O⟩
instance:SlT prog 76 31:=⟨O⟩
instance:LdT prog 78 69 true:=⟨_,_,O,O,O,O⟩
instance:ElT prog 78 69 104:=⟨_,_,O,O,O,O,O,dU,O⟩
instance:FdT prog 78 0 0:=⟨_,_,_,O,O,O,O,dU⟩
instance:FdT prog 78 1 68:=⟨_,_,_,O,O,O,O,dU⟩
instance:ZrT prog 78 (.agg [.agg [.u32 0,.arr 32 1 ((List.replicate 32 0).map D.u8),.arr 32 1 ((List.replicate 32 0).map D.u8),.u32 0,.u32 0,.u32 0],.nils]):=⟨_,_,O,O,dU,O⟩
instance:BsT prog 78 ([.agg [.u32 0,.arr 32 1 ((List.replicate 32 0).map D.u8),.arr 32 1 ((List.replicate 32 0).map D.u8),.u32 0,.u32 0,.u32 0],.nils]):=⟨_,_,_,O,O,O,O,dU⟩
instance:LdT prog 109 33 true:=⟨_,_,O,O,O,O⟩
instance:ElT prog 109 33 36:=⟨_,_,O,O,O,O,O,dU,O⟩
instance:EqT prog 109:=⟨by decide +kernel⟩
instance:FdT prog 109 0 0:=⟨_,_,_,O,O,O,O,dU⟩
instance:FdT prog 109 1 32:=⟨_,_,_,O,O,O,O,dU⟩
instance:ZrT prog 109 (.agg [.arr 32 1 ((List.replicate 32 0).map D.u8),.u32 0]):=⟨_,_,O,O,dU,O⟩
instance:BsT prog 109 ([.arr 32 1 ((List.replicate 32 0).map D.u8),.u32 0]):=⟨_,_,_,O,O,O,O,dU⟩
instance:LdT prog 110 1 false:=⟨_,_,O,O,O,O⟩
instance:SlT prog 110 24:=⟨O⟩
instance:LdT prog 112 36 true:=⟨_,_,O,O,O,O⟩
instance:ElT prog 112 36 96:=⟨_,_,O,O,O,O,O,dU,O⟩
instance:FdT prog 112 0 0:=⟨_,_,_,O,O,O,O,dU⟩
instance:FdT prog 112 1 33:=⟨_,_,_,O,O,O,O,dU⟩
instance:FdT prog 112 2 34:=⟨_,_,_,O,O,O,O,dU⟩
instance:FdT prog 112 3 35:=⟨_,_,_,O,O,O,O,dU⟩
instance:ZrT prog 112 (.agg [.agg [.arr 32 1 ((List.replicate 32 0).map D.u8),.u32 0],.nils,.u32 0,.nils]):=⟨_,_,O,O,dU,O⟩
instance:BsT prog 112 ([.agg [.arr 32 1 ((List.replicate 32 0).map D.u8),.u32 0],.nils,.u32 0,.nils]):=⟨_,_,_,O,O,O,O,dU⟩
instance:LdT prog 115 2 true:=⟨_,_,O,O,O,O⟩
instance:ElT prog 115 2 32:=⟨_,_,O,O,O,O,O,dU,O⟩
instance:FdT prog 115 0 0:=⟨_,_,_,O,O,O,O,dU⟩
instance:FdT prog 115 1 1:=⟨_,_,_,O,O,O,O,dU⟩
instance:ZrT prog 115 (.agg [.u64 0,.nils]):=⟨_,_,O,O,dU,O⟩
instance:BsT prog 115 ([.u64 0,.nils]):=⟨_,_,_,O,O,O,O,dU⟩
instance:LdT prog 117 5 true:=⟨_,_,O,O,O,O⟩
instance:ElT prog 117 5 40:=⟨_,_,O,O,O,O,O,dU,O⟩
instance:FdT prog 117 0 0:=⟨_,_,_,O,O,O,O,dU⟩
instance:FdT prog 117 1 1:=⟨_,_,_,O,O,O,O,dU⟩
instance:FdT prog 117 2 2:=⟨_,_,_,O,O,O,O,dU⟩
instance:FdT prog 117 3 3:=⟨_,_,_,O,O,O,O,dU⟩
instance:FdT prog 117 4 4:=⟨_,_,_,O,O,O,O,dU⟩
instance:BsT prog 117 ([.u8 0,.bool false,.nils,.u8 0,.u8 0]):=⟨_,_,_,O,O,O,O,dU⟩
instance:LdT prog 119 33 true:=⟨_,_,O,O,O,O⟩
instance:ElT prog 119 33 40:=⟨_,_,O,O,O,O,O,dU,O⟩
instance:EqT prog 119:=⟨by decide +kernel⟩
instance:FdT prog 119 0 0:=⟨_,_,_,O,O,O,O,dU⟩
instance:BsT prog 119 ([.int 0,.arr 32 1 ((List.replicate 32 0).map D.u8)]):=⟨_,_,_,O,O,O,O,dU⟩
instance:LdT prog 121 35 true:=⟨_,_,O,O,O,O⟩
instance:ElT prog 121 35 56:=⟨_,_,O,O,O,O,O,dU,O⟩
instance:EqT prog 121:=⟨by decide +kernel⟩
instance:FdT prog 121 0 0:=⟨_,_,_,O,O,O,O,dU⟩
instance:FdT prog 121 1 33:=⟨_,_,_,O,O,O,O,dU⟩
instance:FdT prog 121 2 34:=⟨_,_,_,O,O,O,O,dU⟩
instance:ZrT prog 121 (.agg [.agg [.arr 32 1 ((List.replicate 32 0).map D.u8),.u32 0],.u64 0,.int 0]):=⟨_,_,O,O,dU,O⟩
instance:BsT prog 121 ([.agg [.arr 32 1 ((List.replicate 32 0).map D.u8),.u32 0],.u64 0,.int 0]):=⟨_,_,_,O,O,O,O,dU⟩
instance:SlT prog 134 137:=⟨O⟩
instance:ElT prog 137 38 112:=⟨_,_,O,O,O,O,O,dU,O⟩
instance:FdT prog 137 0 0:=⟨_,_,_,O,O,O,O,dU⟩
instance:FdT prog 137 2 2:=⟨_,_,_,O,O,O,O,dU⟩
instance:FdT prog 137 3 34:=⟨_,_,_,O,O,O,O,dU⟩
instance:BsT prog 137 ([.int 0,.int 0,.arr 32 1 ((List.replicate 32 0).map D.u8),.agg [.u32 0,.nils,.nils,.u32 0]]):=⟨_,_,_,O,O,O,O,dU⟩
instance:IkT prog 154 .u64:=⟨O⟩
instance:SlT prog 155 109:=⟨O⟩
instance:SlT prog 156 60:=⟨O⟩
instance:SlT prog 161 44:=⟨O⟩
instance:FdT prog 186 0 0:=⟨_,_,_,O,O,O,O,dU⟩
instance:BsT prog 186 ([.nils]):=⟨_,_,_,O,O,O,O,dU⟩
instance:SlT prog 199 27:=⟨O⟩
instance:LdT prog 205 33 true:=⟨_,_,O,O,O,O⟩
instance:FdT prog 205 0 0:=⟨_,_,_,O,O,O,O,dU⟩
instance:FdT prog 205 1 1:=⟨_,_,_,O,O,O,O,dU⟩
instance:ZrT prog 205 (.agg [.u64 0,.arr 32 1 ((List.replicate 32 0).map D.u8)]):=⟨_,_,O,O,dU,O⟩
instance:BsT prog 205 ([.u64 0,.arr 32 1 ((List.replicate 32 0).map D.u8)]):=⟨_,_,_,O,O,O,O,dU⟩
instance:LdT prog 208 8 true:=⟨_,_,O,O,O,O⟩
instance:ArT prog 208 8 27:=⟨O⟩
instance:BaT prog 208 8 27 1:=⟨_,_,_,O,O,O,O,O,O⟩
instance:ZrT prog 208 (.arr 8 1 ((List.replicate 8 0).map D.u32)):=⟨_,_,O,O,dU,O⟩
instance:ArT prog 209 64 5:=⟨O⟩
instance:ZrT prog 209 (.arr 64 1 ((List.replicate 64 0).map D.u8)):=⟨_,_,O,O,dU,O⟩
instance:LdT prog 211 74 true:=⟨_,_,O,O,O,O⟩
instance:FdT prog 211 0 0:=⟨_,_,_,O,O,O,O,dU⟩
instance:FdT prog 211 1 1:=⟨_,_,_,O,O,O,O,dU⟩
instance:FdT prog 211 2 9:=⟨_,_,_,O,O,O,O,dU⟩
instance:FdT prog 211 3 73:=⟨_,_,_,O,O,O,O,dU⟩
instance:ZrT prog 211 (.agg [.bool false,.arr 8 1 ((List.replicate 8 0).map D.u32),.arr 64 1 ((List.replicate 64 0).map D.u8),.u64 0]):=⟨_,_,O,O,dU,O⟩
instance:BsT prog 211 ([.bool false,.arr 8 1 ((List.replicate 8 0).map D.u32),.arr 64 1 ((List.replicate 64 0).map D.u8),.u64 0]):=⟨_,_,_,O,O,O,O,dU⟩
instance:LdT prog 217 4 true:=⟨_,_,O,O,O,O⟩
instance:ArT prog 217 4 60:=⟨O⟩
instance:BaT prog 217 4 60 1:=⟨_,_,_,O,O,O,O,O,O⟩
instance:EqT prog 217:=⟨by decide +kernel⟩
instance:ZrT prog 217 (.arr 4 1 ((List.replicate 4 0).map D.u64)):=⟨_,_,O,O,dU,O⟩
instance:ArT prog 241 8 5:=⟨O⟩
instance:ZrT prog 241 (.arr 8 1 ((List.replicate 8 0).map D.u8)):=⟨_,_,O,O,dU,O⟩
instance:LdT prog 252 1 false:=⟨_,_,O,O,O,O⟩
instance:LdT prog 254 2 true:=⟨_,_,O,O,O,O⟩
instance:FdT prog 254 0 0:=⟨_,_,_,O,O,O,O,dU⟩
instance:FdT prog 254 1 1:=⟨_,_,_,O,O,O,O,dU⟩
instance:ZrT prog 254 (.agg [.int 0,.nilp]):=⟨_,_,O,O,dU,O⟩
instance:BsT prog 254 ([.int 0,.nilp]):=⟨_,_,_,O,O,O,O,dU⟩
instance:LdT prog 255 8 true:=⟨_,_,O,O,O,O⟩
instance:ArT prog 255 4 254:=⟨O⟩
instance:BgT prog 255 [.agg [.int 0,.nilp],.agg [.int 0,.nilp],.agg [.int 0,.nilp],.agg [.int 0,.nilp]]:=⟨_,_,_,_,_,_,O,O,O,O,O,O,O⟩
instance:ZrT prog 255 (.arr 4 2 (List.replicate 4 (.agg [.int 0,.nilp]))):=⟨_,_,O,O,dU,O⟩
instance:LdT prog 258 64 true:=⟨_,_,O,O,O,O⟩
instance:ArT prog 258 64 27:=⟨O⟩
instance:ZrT prog 258 (.arr 64 1 ((List.replicate 64 0).map D.u32)):=⟨_,_,O,O,dU,O⟩
instance:SlT prog 268 3:=⟨O⟩
instance:CaT prog 11:=⟨_,Tryz.func11,dU,dU⟩
instance:CaT prog 12:=⟨_,Tryz.func12,dU,dU⟩
instance:CaT prog 13:=⟨_,Tryz.func13,dU,dU⟩
instance:CaT prog 14:=⟨_,Tryz.func14,dU,dU⟩
instance:CaT prog 15:=⟨_,Tryz.func15,dU,dU⟩
instance:CaT prog 16:=⟨_,Tryz.func16,dU,dU⟩
instance:CaT prog 17:=⟨_,Tryz.func17,dU,dU⟩
instance:CaT prog 18:=⟨_,Tryz.func18,dU,dU⟩
instance:CaT prog 19:=⟨_,Tryz.func19,dU,dU⟩
instance:CaT prog 20:=⟨_,Tryz.func20,dU,dU⟩
instance:CaT prog 21:=⟨_,Tryz.func21,dU,dU⟩
instance:CaT prog 22:=⟨_,Tryz.func22,dU,dU⟩
instance:CaT prog 23:=⟨_,Tryz.func23,dU,dU⟩
instance:CaT prog 24:=⟨_,Tryz.func24,dU,dU⟩
instance:CaT prog 25:=⟨_,Tryz.func25,dU,dU⟩
instance:CaT prog 26:=⟨_,Tryz.func26,dU,dU⟩
instance:CaT prog 32:=⟨_,Tryz.func32,dU,dU⟩
instance:CaT prog 43:=⟨_,Tryz.func43,dU,dU⟩
instance:CaT prog 48:=⟨_,Tryz.func48,dU,dU⟩
instance:CaT prog 50:=⟨_,Tryz.func50,dU,dU⟩
instance:CaT prog 55:=⟨_,Tryz.func55,dU,dU⟩
instance:CaT prog 56:=⟨_,Tryz.func56,dU,dU⟩
instance:CaT prog 59:=⟨_,Tryz.func59,dU,dU⟩
instance:CaT prog 60:=⟨_,Tryz.func60,dU,dU⟩
instance:CaT prog 61:=⟨_,Tryz.func61,dU,dU⟩
instance:CaT prog 62:=⟨_,Tryz.func62,dU,dU⟩
instance:CaT prog 63:=⟨_,Tryz.func63,dU,dU⟩
instance:CaT prog 64:=⟨_,Tryz.func64,dU,dU⟩
instance:CaT prog 65:=⟨_,Tryz.func65,dU,dU⟩
instance:CaT prog 66:=⟨_,Tryz.func66,dU,dU⟩
instance:CaT prog 67:=⟨_,Tryz.func67,dU,dU⟩
instance:CaT prog 68:=⟨_,Tryz.func68,dU,dU⟩
instance:CaT prog 69:=⟨_,Tryz.func69,dU,dU⟩
instance:CaT prog 70:=⟨_,Tryz.func70,dU,dU⟩
instance:CaT prog 71:=⟨_,Tryz.func71,dU,dU⟩
instance:CaT prog 72:=⟨_,Tryz.func72,dU,dU⟩
instance:CaT prog 73:=⟨_,Tryz.func73,dU,dU⟩
instance:CaT prog 74:=⟨_,Tryz.func74,dU,dU⟩
instance:CaT prog 75:=⟨_,Tryz.func75,dU,dU⟩
instance:CaT prog 76:=⟨_,Tryz.func76,dU,dU⟩
instance:CaT prog 82:=⟨_,Tryz.func82,dU,dU⟩
instance:CaT prog 87:=⟨_,Tryz.func87,dU,dU⟩
instance:CaT prog 88:=⟨_,Tryz.func88,dU,dU⟩
instance:CaT prog 89:=⟨_,Tryz.func89,dU,dU⟩
instance:CaT prog 90:=⟨_,Tryz.func90,dU,dU⟩
instance:CaT prog 91:=⟨_,Tryz.func91,dU,dU⟩
instance:CaT prog 97:=⟨_,Tryz.func97,dU,dU⟩
instance:CaT prog 99:=⟨_,Tryz.func99,dU,dU⟩
instance:CaT prog 100:=⟨_,Tryz.func100,dU,dU⟩
instance:CaT prog 101:=⟨_,Tryz.func101,dU,dU⟩
instance:CaT prog 102:=⟨_,Tryz.func102,dU,dU⟩
instance:CaT prog 103:=⟨_,Tryz.func103,dU,dU⟩
instance:CaT prog 109:=⟨_,Tryz.func109,dU,dU⟩
instance:CaT prog 110:=⟨_,Tryz.func110,dU,dU⟩
instance:CaT prog 111:=⟨_,Tryz.func111,dU,dU⟩
instance:CaT prog 112:=⟨_,Tryz.func112,dU,dU⟩
instance:CaT prog 113:=⟨_,Tryz.func113,dU,dU⟩
instance:CaT prog 114:=⟨_,Tryz.func114,dU,dU⟩
instance:CaT prog 115:=⟨_,Tryz.func115,dU,dU⟩
instance:CaT prog 116:=⟨_,Tryz.func116,dU,dU⟩
instance:CaT prog 117:=⟨_,Tryz.func117,dU,dU⟩
instance:CaT prog 118:=⟨_,Tryz.func118,dU,dU⟩
instance:CaT prog 119:=⟨_,Tryz.func119,dU,dU⟩
instance:CaT prog 120:=⟨_,Tryz.func120,dU,dU⟩
instance:CaT prog 121:=⟨_,Tryz.func121,dU,dU⟩
instance:CaT prog 122:=⟨_,Tryz.func122,dU,dU⟩
instance:CaT prog 123:=⟨_,Tryz.func123,dU,dU⟩
instance:CaT prog 124:=⟨_,Tryz.func124,dU,dU⟩
instance:CaT prog 125:=⟨_,Tryz.func125,dU,dU⟩
instance:CaT prog 126:=⟨_,Tryz.func126,dU,dU⟩
instance:CaT prog 127:=⟨_,Tryz.func127,dU,dU⟩
instance:CaT prog 128:=⟨_,Tryz.func128,dU,dU⟩
instance:CaT prog 129:=⟨_,Tryz.func129,dU,dU⟩
instance:CaT prog 130:=⟨_,Tryz.func130,dU,dU⟩
instance:CaT prog 134:=⟨_,Tryz.func134,dU,dU⟩
instance:CaT prog 136:=⟨_,Tryz.func136,dU,dU⟩
instance:CaT prog 138:=⟨_,Tryz.func138,dU,dU⟩
instance:CaT prog 141:=⟨_,Tryz.func141,dU,dU⟩
instance:CaT prog 142:=⟨_,Tryz.func142,dU,dU⟩
instance:CaT prog 143:=⟨_,Tryz.func143,dU,dU⟩
instance:CaT prog 145:=⟨_,Tryz.func145,dU,dU⟩
instance:CaT prog 146:=⟨_,Tryz.func146,dU,dU⟩
instance:CaT prog 147:=⟨_,Tryz.func147,dU,dU⟩
instance:CaT prog 148:=⟨_,Tryz.func148,dU,dU⟩
instance:CaT prog 149:=⟨_,Tryz.func149,dU,dU⟩
instance:CaT prog 150:=⟨_,Tryz.func150,dU,dU⟩
instance:CaT prog 151:=⟨_,Tryz.func151,dU,dU⟩
instance:CaT prog 152:=⟨_,Tryz.func152,dU,dU⟩
instance:CaT prog 153:=⟨_,Tryz.func153,dU,dU⟩
instance:CaT prog 154:=⟨_,Tryz.func154,dU,dU⟩
instance:CaT prog 155:=⟨_,Tryz.func155,dU,dU⟩
instance:CaT prog 156:=⟨_,Tryz.func156,dU,dU⟩
instance:CaT prog 157:=⟨_,Tryz.func157,dU,dU⟩
instance:CaT prog 158:=⟨_,Tryz.func158,dU,dU⟩
instance:CaT prog 159:=⟨_,Tryz.func159,dU,dU⟩
instance:CaT prog 160:=⟨_,Tryz.func160,dU,dU⟩
instance:CaT prog 161:=⟨_,Tryz.func161,dU,dU⟩
instance:CaT prog 162:=⟨_,Tryz.func162,dU,dU⟩
instance:CaT prog 163:=⟨_,Tryz.func163,dU,dU⟩
instance:CaT prog 164:=⟨_,Tryz.func164,dU,dU⟩
instance:CaT prog 165:=⟨_,Tryz.func165,dU,dU⟩
instance:CaT prog 166:=⟨_,Tryz.func166,dU,dU⟩
instance:CaT prog 167:=⟨_,Tryz.func167,dU,dU⟩
instance:CaT prog 168:=⟨_,Tryz.func168,dU,dU⟩
instance:CaT prog 169:=⟨_,Tryz.func169,dU,dU⟩
instance:CaT prog 170:=⟨_,Tryz.func170,dU,dU⟩
def gl:List (Nat×D):=[(0,.arr 64 1 (kTab.map D.u32))]
end
section
open Go.Proofs
theorem hP:Tryz.prog.follows .mixedOrders=true:=Tryz.checked.mixed
theorem y32(x:UInt32)(k:Int):Fn Tryz.prog gl 169 [.u32 x,.int (k:Int)] (.u32 (rotl x k)):=by
 refine Fo 17 Tryz.func169 O λC hC hD=>?_;refine u4 1 (y1 4) (V2 0 1) ⟨q42 (.u32 0) O,Zt⟩ ?_;refine u4 4 (y4 6 7 8 5) (V2 0 5) ⟨zV O,zW O,ZP O (kW (.int .u64 31) (.u64 31) O),zA O,Zt⟩ ?_;refine u4 9 (y9 9 10 11 12 13 14 15 16 4) (V1 4) ⟨zV O,zV O,λ_ _ H K=>R.bin (eU K 9 O) (eU K 10 O) O bV H,zV O,zV O,λ_ _ H K=>R.bin (kW (.int .u64 32) (.u64 32) O) (eU K 13 O) O Zt H,λ_ _ H K=>R.bin (eU K 12 O) (eU K 14 O) O bV H,zB O,zA O,Zt⟩ ?_;exact W.ret (Eo O)
theorem ZE(x:UInt32)(k:Int):Fn Tryz.prog gl 163 [.u32 x,.int (k:Int)] (.u32 (right x k)):=by
 refine Fo 9 Tryz.func163 O λC hC hD=>?_;refine u4 1 (y1 4) (V2 0 1) ⟨q42 (.u32 0) O,Zt⟩ ?_;refine u4 5 (y5 5 6 7 8 4) (V1 4) ⟨zV O,zV O,BH O,zD hC (y32 _ _) O (F1 (.u32 _)),zA O,Zt⟩ ?_;exact W.ret (Eo O)
theorem start_ok:Fn Tryz.prog gl 147 [] (.arr 8 1 (iv.map D.u32)):=by
 refine Fo 2 Tryz.func147 O λC hC hD=>?_;refine n5 1 [] [] Zt O (I9 O (tW (V1 0) (B2 0) 2 O ?_));refine n5 2 (y1 1) (V2 0 1) ⟨λ_ _ H _=>k97 (z:=1) (.cons (kW (.int .u32 1779033703) (.u32 1779033703) O) (.cons (kW (.int .u32 3144134277) (.u32 3144134277) O) (.cons (kW (.int .u32 1013904242) (.u32 1013904242) O) (.cons (kW (.int .u32 2773480762) (.u32 2773480762) O) (.cons (kW (.int .u32 1359893119) (.u32 1359893119) O) (.cons (kW (.int .u32 2600822924) (.u32 2600822924) O) (.cons (kW (.int .u32 528734635) (.u32 528734635) O) (.cons (kW (.int .u32 1541459225) (.u32 1541459225) O) .nil)))))))) ⟨⟨O,O,O⟩,⟨O,O,O⟩,⟨O,O,O⟩,⟨O,O,O⟩,⟨O,O,O⟩,⟨O,O,O⟩,⟨O,O,O⟩,⟨O,O,O⟩,Zt⟩ O H,Zt⟩ O (M9 O (tW (V1 0) (B2 0) 2 O ?_));exact W.ret (Eo O (iL 208 8))
theorem z40:Fn Tryz.prog gl 124 [] (z49 ShaS.start):=by
 refine Fo 3 Tryz.func124 O λC hC hD=>?_;refine n5 1 [] [] Zt O (I9 O (tW (V1 0) (B2 0) 3 O ?_));refine n5 3 (y2 1 2) (V2 0 2) ⟨λ_ _ H _=>Z7 hC (start_ok) Bn (F1 (.arr _ _ _ (J5 λ_=>.u32 _))) H,λ_ _ H K=>P5 (l:=[.bool false,.arr 8 1 ((List.replicate 8 0).map D.u32),.arr 64 1 ((List.replicate 64 0).map D.u8),.u64 0]) (l':=[_,_,_,_]) (.cons (kB true O) (.cons (eU K 1 O) (.nil O))) ⟨⟨_,(kB true O),O,O,O⟩,⟨⟨_,(eU K 1 O),O,O,O⟩,Zt⟩⟩ H,Zt⟩ O (M9 O (tW (V1 0) (B2 0) 3 O ?_));exact W.ret (Eo O (iL 211 74))
theorem x24(p:List UInt8)(hp:p.length=64):Fn Tryz.prog gl 162 [.rp (.arr 64 1 (p.map D.u8))] (.arr 64 1 ((sched p 64).map D.u32)):=by
 refine Fo 75 Tryz.func162 O λC hC hD=>?_;refine n5 1 [] (V1 0) Zt O (I9 O (tW (V2 0 2) (B2 2) 75 O ?_));refine W.seq (u4 1 (y1 8) (V3 0 2 8) ⟨CP (kI 0 O) O,Zt⟩ ?_);refine W.block ?_;refine P2 64 (λt=>⟨75,[(0,.rp (.arr 64 1 (p.map D.u8))),(2,.ptr 2 0 []),(8,.int ((t:Nat):Int))],[(2,.var (.arr 64 1 ((sched p t).map D.u32)))]⟩) O λt htl=>?_;have hsl:=SN p t;refine u4 1 (y1 9) (V4 0 2 8 9) ⟨GV 64 O,Zt⟩ ?_;refine W.seq ?_;refine g7 O (λhc9=>?_) (λhc9=>?_)
 ·refine W.skip (W.seq (W.block (u4 2 (y2 10 3) (V4 0 2 3 8) ⟨zV O,zA O,Zt⟩ ?_)));refine W.seq (u4 2 (y2 11 12) (V5 0 2 3 8 12) ⟨zV O,GV 16 O,Zt⟩ ?_);refine g7 O (λhc12=>?_) (λhc12=>?_)
  ·refine W.seq (W.seq ?_);refine BV 10 [.y 13 _,.y 14 _,.y 15 _,.y 16 _,.y 17 _,.y 18 _,.y 19 _,.y 20 _,.y 21 _,.y 22 _] [] [] [(0,_),(2,_),(3,_),(8,_),(20,_),(21,_),(22,_)] [(2,.var _)] 75 ⟨xM O,aU λ_ _ H K=>R.nilc (eU K 13 O) H,xM O,aU λ_ _ H K=>RQ (4) (t) (kI 4 O) (eU K 15 O) bU H,xM O,aU λ_ _ H K=>RQ (4) (t) (kI 4 O) (eU K 17 O) bU H,aU λ_ _ H K=>q41 ((4*t)) (4) (eU K 18 O) (kI 4 O) bU H,aU λ_ _ H K=>y98 ((4*t)) (((4*t)+4)) (4) (eU K 14 O) (C4 (eU K 16 O)) (C4 (eU K 19 O)) O O bU bU bU (FV) H,aU λ_ _ H K=>QA (n:=4) (SC.sl (K 20 _ O)) (by simp;omega) H,aU λ_ _ H _=>R.mov (kI 0 O) O H,Zt⟩ O O O O (tU O ?_);refine W.block ?_;refine P2 4 (λi=>⟨75,[(0,.rp (.arr 64 1 (p.map D.u8))),(2,.ptr 2 0 []),(3,.int ((t:Nat):Int)),(8,.int ((t:Nat):Int)),(20,.sl none 1 (((p.drop (4*t)).take 4).map D.u8)),(21,.int ((4:Nat):Int)),(22,.int ((i:Nat):Int))],[(2,.var (.arr 64 1 ((w26 p t (sched p t) i).map D.u32)))]⟩) O λi hil=>?_;have hil2:=k56 p t (sched p t) i;refine u4 1 (y1 23) (V8 0 2 3 8 20 21 22 23) ⟨zS O,Zt⟩ ?_;refine W.seq ?_;refine g7 O (λhc23=>?_) (λhc23=>?_)
   ·refine W.skip (W.seq (W.block (u4 3 (y3 24 25 5) (V8 0 2 3 5 8 20 21 22) ⟨zI i O,zL O (j17 bO bO),zA O,Zt⟩ ?_)));refine L8 10 (y9 26 27 28 29 30 31 32 33 34) (V9 0 2 3 8 20 21 22 33 34) ⟨zV O,zV O,q43 t O,λ_ B H K=>R.ldP (K 28 _ O) (B 2 _ O) (H5 (mG (w26 p t (sched p t) i)) Q2 bU) O O O H,λ_ _ H K=>R.bin (eU K 29 O) (kW (.int .u64 8) (.u64 8) O) O bV H,zV O,zW O,zB O,q43 t O,Zt⟩ O (⟨O,_,ZV (gU 34 O) (xU 2 O) (H5 (mG (w26 p t (sched p t) i)) Q2 bU) (gV 33 O) (by rfl) (by rfl) (by rfl) (by rfl) (JV (mG (w26 p t (sched p t) i)) L0 L3),tW (V7 0 2 3 8 20 21 22) (B2 2) 75 O ?_⟩);refine n4 2 (y2 35 22) (V7 0 2 3 8 20 21 22) ⟨P1 1 O,zV O,Zt⟩ ?_;exact⟨bU,rfl⟩
   ·obtain rfl:i=4:=by omega
    refine W.exit (W.exit ?_);refine n4 2 (y2 73 8) (V3 0 2 8) ⟨P1 1 O,zV O,Zt⟩ ?_;exact⟨bU,(by simp only[sched];first|rw[j7 hc12]|(rw[z8 hc12];rfl))⟩
  ·refine W.skip (W.seq ?_);refine R5 10 [0,1,3,7,0,16,48,112,15,511] hP dU (VU 36 37 38 39 40 41 42 43 6 7) (V6 0 2 3 6 7 8) ⟨zV O,AD 15 O,q43 ((t-15)) O,λ_ B H K=>R.ldP (K 38 _ O) (B 2 _ O) (H5 (mG (sched p t)) Q2 bU) O O O H,zV O,AD 2 O,q43 ((t-2)) O,λ_ B H K=>R.ldP (K 42 _ O) (B 2 _ O) (H5 (mG (sched p t)) Q2 bU) O O O H,zA O,zA O,Zt⟩ O (tW (V6 0 2 3 6 7 8) (B2 2) 75 O ?_);refine R5 29 (0::0::2::6::14::0::32::96::224::510::0::1024::0::7168::15360::0::32768::130048::262142::0::539648::0::3685376::7879680::0::16777216::66599936::134217726::268435455::536870911::[]) hP dU (.y 44 _::.y 45 _::.y 46 _::.y 47 _::.y 48 _::.y 49 _::.y 50 _::.y 51 _::.y 52 _::.y 53 _::.y 54 _::.y 55 _::.y 56 _::.y 57 _::.y 58 _::.y 59 _::.y 60 _::.y 61 _::.y 62 _::.y 63 _::.y 64 _::.y 65 _::.y 66 _::.y 67 _::.y 68 _::.y 69 _::.y 70 _::.y 71 _::.y 72 _::[]) (V5 0 2 8 71 72) ⟨zV O,zV O,AD 16 O,q43 ((t-16)) O,λ_ B H K=>R.ldP (K 47 _ O) (B 2 _ O) (H5 (mG (sched p t)) Q2 bU) O O O H,zV O,AD 7 O,q43 ((t-7)) O,λ_ B H K=>R.ldP (K 51 _ O) (B 2 _ O) (H5 (mG (sched p t)) Q2 bU) O O O H,zB O,zV O,CM hC (ZE _ _) O (kI 7 O) (F1 (.u32 _)),zV O,CM hC (ZE _ _) O (kI 18 O) (F1 (.u32 _)),zB O,zV O,λ_ _ H K=>R.bin (eU K 59 O) (kW (.int .u64 3) (.u64 3) O) O bV H,zB O,zB O,zV O,CM hC (ZE _ _) O (kI 17 O) (F1 (.u32 _)),zV O,CM hC (ZE _ _) O (kI 19 O) (F1 (.u32 _)),zB O,zV O,λ_ _ H K=>R.bin (eU K 68 O) (kW (.int .u64 10) (.u64 10) O) O bV H,zB O,zB O,q43 t O,Zt⟩ O (⟨O,_,ZV (gU 72 O) (xU 2 O) (H5 (mG (sched p t)) Q2 bU) (gV 71 O) (by rfl) (by rfl) (by rfl) (by rfl) (JV (mG (sched p t)) L0 L3),tW (V3 0 2 8) (B2 2) 75 O ?_⟩);refine n4 2 (y2 73 8) (V3 0 2 8) ⟨P1 1 O,zV O,Zt⟩ ?_;exact⟨bU,(by simp only[sched];first|rw[j7 hc12]|(rw[z8 hc12];rfl))⟩
 ·obtain rfl:t=64:=by omega
  refine W.exit (n5 2 (y1 74) (V2 2 74) ⟨xL O,Zt⟩ O (M9 O (tW (V1 2) (B2 2) 75 O ?_)));exact W.ret (Eo O (iL 258 64))
theorem u59(h:List UInt32)(p:List UInt8)(hh:h.length=8)(hp:p.length=64):Fn Tryz.prog gl 148 [.arr 8 1 (h.map D.u32),.rp (.arr 64 1 (p.map D.u8))] (.arr 8 1 ((comp h p).map D.u32)):=by
 refine Fo 119 Tryz.func148 O λC hC hD=>?_;refine n5 2 [] (V2 0 1) Zt O (⟨O,_,R.box (gV 0 O) O O nU,(I9 O (tW (V3 1 2 4) (B7 4 2) 119 O ?_))⟩);refine W.seq ?_;refine R5 24 [0,1,0,4,0,16,0,64,0,256,0,1024,0,4096,0,16384,3,65551,196671,459007,984063,2035711,4145151,8388607] hP dU [.y 20 _,.y 21 _,.y 22 _,.y 23 _,.y 24 _,.y 25 _,.y 26 _,.y 27 _,.y 28 _,.y 29 _,.y 30 _,.y 31 _,.y 32 _,.y 33 _,.y 34 _,.y 35 _,.y 5 _,.y 6 _,.y 7 _,.y 8 _,.y 9 _,.y 10 _,.y 11 _,.y 12 _] (j72 1 2 4 5 6 7 8 9 10 11 12) ⟨λ_ _ H K=>R.idxP (0) (K 2 _ O) (C4 (kI 0 O)) O bU H,λ_ B H K=>R.ldP (K 20 _ O) (B 2 _ O) (H5 (mG h) Q2 bU) O O O H,λ_ _ H K=>R.idxP (1) (K 2 _ O) (C4 (kI 1 O)) O bU H,λ_ B H K=>R.ldP (K 22 _ O) (B 2 _ O) (H5 (mG h) Q2 bU) O O O H,λ_ _ H K=>R.idxP (2) (K 2 _ O) (C4 (kI 2 O)) O bU H,λ_ B H K=>R.ldP (K 24 _ O) (B 2 _ O) (H5 (mG h) Q2 bU) O O O H,λ_ _ H K=>R.idxP (3) (K 2 _ O) (C4 (kI 3 O)) O bU H,λ_ B H K=>R.ldP (K 26 _ O) (B 2 _ O) (H5 (mG h) Q2 bU) O O O H,λ_ _ H K=>R.idxP (4) (K 2 _ O) (C4 (kI 4 O)) O bU H,λ_ B H K=>R.ldP (K 28 _ O) (B 2 _ O) (H5 (mG h) Q2 bU) O O O H,λ_ _ H K=>R.idxP (5) (K 2 _ O) (C4 (kI 5 O)) O bU H,λ_ B H K=>R.ldP (K 30 _ O) (B 2 _ O) (H5 (mG h) Q2 bU) O O O H,λ_ _ H K=>R.idxP (6) (K 2 _ O) (C4 (kI 6 O)) O bU H,λ_ B H K=>R.ldP (K 32 _ O) (B 2 _ O) (H5 (mG h) Q2 bU) O O O H,λ_ _ H K=>R.idxP (7) (K 2 _ O) (C4 (kI 7 O)) O bU H,λ_ B H K=>R.ldP (K 34 _ O) (B 2 _ O) (H5 (mG h) Q2 bU) O O O H,zA O,zA O,zA O,zA O,zA O,zA O,zA O,zA O,Zt⟩ O (tW (j72 1 2 4 5 6 7 8 9 10 11 12) (B7 4 2) 119 O ?_);refine n5 4 (y2 36 37) (j72 2 4 5 6 7 8 9 10 11 12 37) ⟨zV O,zC hC (x24 _ hp) O (F1 (.arr _ _ _ (J5 λ_=>.u32 _))),Zt⟩ O (I9 O (M9 O (tW (j72 2 4 5 6 7 8 9 10 11 12 13) (i5 13 4 2) 119 O ?_)));refine W.seq (u4 2 (y2 38 39) (u27 2 4 5 6 7 8 9 10 11 12 13 38 39) ⟨λ_ _ H _=>R.ldR (evg hC O) O O O H,CP (kI 0 O) O,Zt⟩ ?_);refine W.block ?_;refine P2 64 (λt=>⟨119,[(2,.ptr 2 0 []),(4,.ptr 4 0 []),(5,.u32 (rds h (sched p 64) t).a),(6,.u32 (rds h (sched p 64) t).b),(7,.u32 (rds h (sched p 64) t).c),(8,.u32 (rds h (sched p 64) t).d),(9,.u32 (rds h (sched p 64) t).e),(10,.u32 (rds h (sched p 64) t).f),(11,.u32 (rds h (sched p 64) t).g),(12,.u32 (rds h (sched p 64) t).l),(13,.ptr 13 0 []),(38,.arr 64 1 (kTab.map D.u32)),(39,.int ((t:Nat):Int))],[(13,.var (.arr 64 1 ((sched p 64).map D.u32))),(4,.var (.arr 8 1 ((List.replicate 8 0).map D.u32))),(2,.var (.arr 8 1 (h.map D.u32)))]⟩) O λt htl=>?_;have hsl:=SN p 64;have hkl:kTab.length=64:=rfl;refine u4 1 (y1 40) (h16 2 4 5 6 7 8 9 10 11 12 13 38 39 40) ⟨GV 64 O,Zt⟩ ?_;refine W.seq ?_;refine g7 O (λhc40=>?_) (λhc40=>?_)
 ·refine W.skip (W.seq (W.block (u4 4 (y4 41 42 14 15) (g07 2 4 5 6 7 8 9 10 11 12 13 14 15 38 39) ⟨zV O,λ_ _ H K=>R.ixA (t) (eU K 38 O) (C4 (eU K 39 O)) O (mG kTab) O O O H,zA O,zA O,Zt⟩ ?_)));refine W.seq ?_;refine R5 25 (0::0::2::0::14::30::0::94::254::511::0::0::0::0::12288::30720::64512::131071::0::524287::0::1048576::3145728::8388607::16777215::[]) hP dU (.y 43 _::.y 44 _::.y 45 _::.y 46 _::.y 47 _::.y 48 _::.y 49 _::.y 50 _::.y 51 _::.y 52 _::.y 53 _::.y 54 _::.y 55 _::.y 56 _::.y 57 _::.y 58 _::.y 59 _::.y 60 _::.y 61 _::.y 62 _::.y 63 _::.y 64 _::.y 65 _::.y 66 _::.y 16 _::[]) (u27 2 4 5 6 7 8 9 10 11 13 16 38 39) ⟨zV O,zV O,CM hC (ZE _ _) O (kI 6 O) (F1 (.u32 _)),zV O,CM hC (ZE _ _) O (kI 11 O) (F1 (.u32 _)),zB O,zV O,CM hC (ZE _ _) O (kI 25 O) (F1 (.u32 _)),zB O,zB O,zV O,zV O,zV O,zV O,zB O,zB O,zB O,zB O,zV O,zB O,zV O,q43 t O,λ_ B H K=>R.ldP (K 64 _ O) (B 13 _ O) (H5 (mG (sched p 64)) Q2 bU) O O O H,zB O,zA O,Zt⟩ O (tW (u27 2 4 5 6 7 8 9 10 11 13 16 38 39) (i5 13 4 2) 119 O ?_);refine u4 19 (g78 67 68 69 70 71 72 73 74 75 76 77 78 79 80 81 82 83 84 17) (h16 2 4 5 6 7 8 9 10 11 13 16 17 38 39) ⟨zV O,CM hC (ZE _ _) O (kI 2 O) (F1 (.u32 _)),zV O,CM hC (ZE _ _) O (kI 13 O) (F1 (.u32 _)),zB O,zV O,CM hC (ZE _ _) O (kI 22 O) (F1 (.u32 _)),zB O,zV O,zV O,zB O,zV O,zV O,zV O,zB O,zB O,zB O,zB O,zA O,Zt⟩ ?_;refine n4 20 (h34 85 86 87 88 89 90 91 92 93 94 95 96 12 11 10 9 8 7 6 5) (u27 2 4 5 6 7 8 9 10 11 12 13 38 39) ⟨zV O,zV O,zV O,zV O,zV O,zB O,zV O,zV O,zV O,zV O,zV O,zB O,zA O,zA O,zA O,zA O,zA O,zA O,zA O,zA O,Zt⟩ ?_;refine n4 2 (y2 97 39) (u27 2 4 5 6 7 8 9 10 11 12 13 38 39) ⟨P1 1 O,zV O,Zt⟩ ?_;exact⟨bU,rfl⟩
 ·obtain rfl:t=64:=by omega
  refine W.exit (W.seq (u4 10 (VU 98 99 100 101 102 103 104 105 106 107) (V4 2 4 106 107) ⟨zV O,zV O,zV O,zV O,zV O,zV O,zV O,zV O,λ_ _ H K=>k97 (z:=1) (.cons (eU K 98 O) (.cons (eU K 99 O) (.cons (eU K 100 O) (.cons (eU K 101 O) (.cons (eU K 102 O) (.cons (eU K 103 O) (.cons (eU K 104 O) (.cons (eU K 105 O) .nil)))))))) ⟨⟨O,O,O⟩,⟨O,O,O⟩,⟨O,O,O⟩,⟨O,O,O⟩,⟨O,O,O⟩,⟨O,O,O⟩,⟨O,O,O⟩,⟨O,O,O⟩,Zt⟩ O H,CP (kI 0 O) O,Zt⟩ ?_));refine W.block ?_;refine P2 8 (λi=>⟨119,[(2,.ptr 2 0 []),(4,.ptr 4 0 []),(106,.arr 8 1 ((rds h (sched p 64) 64).list.map D.u32)),(107,.int ((i:Nat):Int))],[(13,.var (.arr 64 1 ((sched p 64).map D.u32))),(4,.var (.arr 8 1 ((List.replicate 8 0).map D.u32))),(2,.var (.arr 8 1 ((OB h (rds h (sched p 64) 64).list i).map D.u32)))]⟩) O λi hil=>?_;have hll:(rds h (sched p 64) 64).list.length=8:=rfl;have hal:=MS h (rds h (sched p 64) 64).list i;refine u4 1 (y1 108) (V5 2 4 106 107 108) ⟨GV 8 O,Zt⟩ ?_;refine W.seq ?_;refine g7 O (λhc108=>?_) (λhc108=>?_)
  ·refine W.skip (W.seq (W.block (u4 4 (y4 109 110 18 19) (V6 2 4 18 19 106 107) ⟨zV O,λ_ _ H K=>R.ixA (i) (eU K 106 O) (C4 (eU K 107 O)) O (b8 (l:=(rds h (sched p 64) 64).list) bU) O O O H,zA O,zA O,Zt⟩ ?_)));refine L8 7 (y6 111 112 113 114 115 116) (V6 2 4 106 107 115 116) ⟨zV O,q43 i O,λ_ B H K=>R.ldP (K 112 _ O) (B 2 _ O) (H5 (b8 (l:=(OB h (rds h (sched p 64) 64).list i)) bU) Q2 bU) O O O H,zV O,zB O,q43 i O,Zt⟩ O (⟨O,_,ZV (gU 116 O) (xU 2 O) (H5 (b8 (l:=(OB h (rds h (sched p 64) 64).list i)) bU) Q2 bU) (gV 115 O) (by rfl) (by rfl) (by rfl) (by rfl) (JV (b8 (l:=(OB h (rds h (sched p 64) 64).list i)) bU) L0 L3),tW (V4 2 4 106 107) (i5 13 4 2) 119 O ?_⟩);refine n4 2 (y2 117 107) (V4 2 4 106 107) ⟨P1 1 O,zV O,Zt⟩ ?_;exact⟨bU,rfl⟩
  ·obtain rfl:i=8:=by omega
   refine W.exit (n5 2 (y1 118) (V2 4 118) ⟨xL O,Zt⟩ O (M9 O (tW (V1 4) (i5 13 4 2) 119 O ?_)));exact W.ret (Eo O (iL 208 8))
theorem q32(s:ShaS)(b:List UInt8)(hs:s.ok)(hb0:b.length<=1073741824):Fn Tryz.prog gl 125 [z49 s,.sl none 1 (b.map D.u8)] (z49 (GQ s b)):=by
 refine Fo 39 Tryz.func125 O λC hC hD=>?_;refine n5 2 [] (V2 0 1) Zt O (⟨O,_,R.box (gV 0 O) O O nU,(I9 O (tW (V3 1 2 4) (B7 4 2) 39 O ?_))⟩);refine q34 (λs__=>∃ q__:{q__:Unit//True},s__=⟨39,[(1,.sl none 1 (b.map D.u8)),(2,.ptr 2 0 []),(4,.ptr 4 0 [])],[(4,.var (z49 ShaS.zero)),(2,.var (z49 (bif s.begun then s else ShaS.start)))]⟩) ?_ ?_
 ·refine u4 3 (y3 6 7 8) (V4 1 2 4 8) ⟨xF O,xL O,BH O,Zt⟩ ?_;refine W.cond O (λhc8=>?_) (λhc8=>?_)
  ·refine L8 2 (y1 9) (V4 1 2 4 9) ⟨λ_ _ H _=>Z7 hC (z40) Bn (F1 (OU _)) H,Zt⟩ O (M9 O (tW (V3 1 2 4) (B7 4 2) 39 O ?_));exact⟨⟨(()),Zt⟩,(by have h0:s.begun=false:=(by simpa using hc8);rw[h0];rfl)⟩
  ·refine E9 (V3 1 2 4) (B7 4 2) 39 O ?_;refine W.skip ?_;exact⟨⟨(()),Zt⟩,(by have h0:s.begun=true:=(by simpa using hc8);rw[h0];rfl)⟩
 ·rintro s__ ⟨⟨_,_⟩,rfl⟩
  have hs0:(bif s.begun then s else ShaS.start).ok:=by cases s.begun<;>first|exact hs|exact XJ
  refine W.seq (W.block ?_);refine W.loop (α:={q__:ShaS×List UInt8//q__.1.ok/\q__.2.length<=b.length/\LL q__.1 q__.2=GQ s b}) (λq__=>⟨39,[(1,.sl none 1 (q__.1.2.map D.u8)),(2,.ptr 2 0 []),(4,.ptr 4 0 [])],[(4,.var (z49 ShaS.zero)),(2,.var (z49 q__.1.1))]⟩) (λq__=>q__.1.2.length) ⟨((bif s.begun then s else ShaS.start),b),⟨hs0,z5 _,O⟩⟩ O ?_;rintro ⟨⟨u,c⟩,⟨hu,hcb,heq⟩⟩;show W _ _ _ _ ⟨39,[(1,.sl none 1 (c.map D.u8)),(2,.ptr 2 0 []),(4,.ptr 4 0 [])],[(4,.var (z49 ShaS.zero)),(2,.var (z49 u))]⟩;have hcb:c.length<=b.length:=hcb;have hm:=OS u;have hkl:=w22 u c;have hkr:=WT u c;have hpl:=FT u c hu;have hpp:=hu.p;refine W.seq (u4 3 (y3 10 11 12) (V4 1 2 4 12) ⟨zV O,P8 O,OE 0 O,Zt⟩ ?_);refine g7 O (λhc12=>?_) (λhc12=>?_)
  ·refine W.skip (W.block (n5 8 (y6 13 14 15 16 17 18) (V5 1 2 4 17 18) ⟨xF O,xF O,xL O,λ_ _ H K=>R.bin (eU K 15 O) (kW (.int .u64 64) (.u64 64) O) O dU H,λ_ B H K=>QO (mS u) (64) (64-mS u) (K 13 _ O) (B 2 _ O) O (g68 (eU K 16 O)) O O O bO bU bU H,zV O,Zt⟩ O (⟨O,_,k13 (k:=kS u c) (l2:=((HH u c).map D.u8)) (gU 17 O) (xU 2 O) O bO (SrcO.sc (SC.sl (gU 18 O)) (P3 (λ_=>rfl))) (IJ (λ_=>rfl)) nU (by simp only[z6];rfl) (by simp only[HH,d8,U6,l9]) O,(GK O (tW (V4 1 2 4 5) (B7 4 2) 39 O ?_))⟩)));refine u4 4 (y4 20 21 22 1) (V4 1 2 4 5) ⟨zV O,zV O,λ_ _ H K=>k11 (kS u c) (c.length) ((c.length-kS u c)) (eU K 20 O) (C4 (eU K 21 O)) O O (by simp) bO (by first|omega|simp) O (x36) H,zA O,Zt⟩ ?_;refine n5 7 (y6 23 24 25 26 27 28) (V5 1 2 4 27 28) ⟨xF O,xL O,zV O,zW O,zB O,xF O,Zt⟩ O (M9 O (tW (V3 1 2 4) (B7 4 2) 39 O ?_));refine u4 4 (y4 29 30 31 32) (V4 1 2 4 32) ⟨xF O,xL O,λ_ _ H K=>R.bin (eU K 30 O) (kW (.int .u64 64) (.u64 64) O) O dU H,ZP O (kW (.int .u64 0) (.u64 0) O),Zt⟩ ?_;refine W.cond O (λhc32=>?_) (λhc32=>?_)
   ·refine L8 6 (y5 33 34 35 36 37) (V5 1 2 4 36 37) ⟨xF O,xL O,xF O,λ_ B H K=>Z7 hC (u59 _ _ hu.h hpl) (Bc (Bp (eU K 34 O) O O) (Bc (Bor.ptr (K 35 _ O) (B 2 _ O) O (v39 (λ_=>rfl)) O) Bn)) (F1 (.arr _ _ _ (J5 λ_=>.u32 _))) H,xF O,Zt⟩ O (M9 O (tW (V3 1 2 4) (B7 4 2) 39 O ?_));exact⟨⟨(UN u c,c.drop (kS u c)),⟨FP u c hu,by simp only[c5];omega,by rw[<- UD u c (by omega)];exact heq⟩⟩,(by simp only[UN];first|(rw[show(nS u c%64==0)=true from hc32];rfl)|(rw[show(nS u c%64==0)=false from hc32];rfl)),(by have:=BO u c (by omega);show(c.drop (kS u c)).length<c.length;simp only[c5];omega)⟩
   ·refine E9 (V3 1 2 4) (B7 4 2) 39 O ?_;refine W.skip ?_;exact⟨⟨(UN u c,c.drop (kS u c)),⟨FP u c hu,by simp only[c5];omega,by rw[<- UD u c (by omega)];exact heq⟩⟩,(by simp only[UN];first|(rw[show(nS u c%64==0)=true from hc32];rfl)|(rw[show(nS u c%64==0)=false from hc32];rfl)),(by have:=BO u c (by omega);show(c.drop (kS u c)).length<c.length;simp only[c5];omega)⟩
  ·have hw:=CC u c (by omega);rw[hw] at heq;refine W.exit (n5 2 (y1 38) (V2 4 38) ⟨xL O,Zt⟩ O (M9 O (tW (V1 4) (B7 4 2) 39 O ?_)));exact W.ret (En O (g6 z49 heq) (iL 211 74))
theorem y83(s:ShaS)(hs:s.ok):Fn Tryz.prog gl 126 [z49 s] (w7 (w90 s)):=by
 refine Fo 54 Tryz.func126 O λC hC hD=>?_;refine n5 2 [] (V1 0) Zt O (⟨O,_,R.box (gV 0 O) O O nU,(I9 O (tW (V2 1 2) (B7 2 1) 54 O ?_))⟩);refine u4 4 (y4 8 9 10 3) (V3 1 2 3) ⟨xF O,xL O,ZP O (kW (.int .u64 8) (.u64 8) O),zA O,Zt⟩ ?_;refine n5 4 (y3 11 12 13) (V4 1 2 3 13) ⟨xL O,λ_ _ H _=>J3 (z:=1) (.cons (kW (.int .u8 128) (.u8 128) O) .nil) ⟨⟨O,O,O⟩,Zt⟩ O H dU,λ_ _ H K=>Z7 hC (q32 s [128] hs dU) (Bc (Bp (eU K 11 O) O O) (Bc (Bor.sc (SC.sl (K 12 _ O)) O) Bn)) (F1 (OU _)) H,Zt⟩ O (M9 O (tW (V3 1 2 3) (B7 2 1) 54 O ?_));refine W.seq (W.block ?_);refine W.loop (α:={q__:ShaS//q__.ok/\q__.begun=true/\q84 (BZ q__) q__=j18 s}) (λq__=>⟨54,[(1,.ptr 1 0 []),(2,.ptr 2 0 []),(3,.u64 (s.n*8))],[(2,.var (w7 (List.replicate 32 0))),(1,.var (z49 q__.1))]⟩) (λq__=>BZ q__.1) ⟨(x69 s),⟨EL s _ hs,LR s _,O⟩⟩ O ?_;rintro ⟨u,⟨hu,hub,heq⟩⟩;show W _ _ _ _ ⟨54,[(1,.ptr 1 0 []),(2,.ptr 2 0 []),(3,.u64 (s.n*8))],[(2,.var (w7 (List.replicate 32 0))),(1,.var (z49 u))]⟩;refine W.seq (u4 4 (y4 14 15 16 17) (V4 1 2 3 17) ⟨xF O,xL O,λ_ _ H K=>R.bin (eU K 15 O) (kW (.int .u64 64) (.u64 64) O) O dU H,ZP O (kW (.int .u64 56) (.u64 56) O),Zt⟩ ?_);refine W.cond O (λhc17=>?_) (λhc17=>?_)
 ·refine W.skip (W.block ?_);refine L8 4 (y3 18 19 20) (V4 1 2 3 20) ⟨xL O,λ_ _ H _=>J3 (z:=1) (.cons (kW (.int .u8 0) (.u8 0) O) .nil) ⟨⟨O,O,O⟩,Zt⟩ O H dU,λ_ _ H K=>Z7 hC (q32 u [0] hu dU) (Bc (Bp (eU K 18 O) O O) (Bc (Bor.sc (SC.sl (K 19 _ O)) O) Bn)) (F1 (OU _)) H,Zt⟩ O (M9 O (tW (V3 1 2 3) (B7 2 1) 54 O ?_));exact⟨⟨(GQ u [0]),⟨EL u _ hu,LR u _,by rw[x67 u hub (v83 hc17)] at heq;exact heq⟩⟩,rfl,(by have:=x68 u hub (v83 hc17);simp only[];omega)⟩
 ·have hp0:BZ u=0:=u96 u (g50 hc17);rw[hp0] at heq;obtain rfl:u=j18 s:=heq;have hs2:=hu;refine W.exit (n5 1 [] (V3 1 2 3) Zt O (I9 O (tW (V4 1 2 3 4) (i5 4 2 1) 54 O ?_)));refine W.seq (u4 1 (y1 21) (V5 1 2 3 4 21) ⟨CP (kI 0 O) O,Zt⟩ ?_);refine W.block ?_;refine P2 8 (λi=>⟨54,[(1,.ptr 1 0 []),(2,.ptr 2 0 []),(3,.u64 (s.n*8)),(4,.ptr 4 0 []),(21,.int ((i:Nat):Int))],[(4,.var (.arr 8 1 ((GM (s.n*8) i).map D.u8))),(2,.var (w7 (List.replicate 32 0))),(1,.var (z49 (j18 s)))]⟩) O λi hil=>?_;have hll:=NI (s.n*8) i;refine u4 1 (y1 22) (V6 1 2 3 4 21 22) ⟨GV 8 O,Zt⟩ ?_;refine W.seq ?_;refine g7 O (λhc22=>?_) (λhc22=>?_)
  ·refine W.skip (W.seq (W.block (u4 2 (y2 23 5) (V6 1 2 3 4 5 21) ⟨zV O,zA O,Zt⟩ ?_)));refine L8 9 (y8 24 25 26 27 28 29 30 31) (V7 1 2 3 4 21 30 31) ⟨zV O,zV O,zV O,HW 8 O,λ_ _ H K=>BW (56) ((8*i)) (kI 56 O) (eU K 27 O) bU bU H,λ_ _ H K=>R.bin (eU K 25 O) (eU K 28 O) O (show(0:Int)<=_ from H7 _) H,zW O,q43 i O,Zt⟩ O (⟨O,_,ZV (gU 31 O) (xU 4 O) (H5 (mG (GM (s.n*8) i)) Q2 bU) (gV 30 O) (by rfl) (by rfl) (by rfl) (by rfl) (JV (mG (GM (s.n*8) i)) L0 L3),tW (V5 1 2 3 4 21) (i5 4 2 1) 54 O ?_⟩);refine n4 2 (y2 32 21) (V5 1 2 3 4 21) ⟨P1 1 O,zV O,Zt⟩ ?_;exact⟨bU,rfl⟩
  ·obtain rfl:i=8:=by omega
   refine W.exit (W.seq ?_);refine R5 3 [0,0,3,7] hP dU (y3 33 34 35) (V3 1 2 35) ⟨xL O,λ_ B H K=>QO (0) (8) (8) (K 4 _ O) (B 4 _ O) O O O O O bU bU O H,λ_ B H K=>Z7 hC (q32 _ _ hs2 (by simp[NI])) (Bc (Bp (eU K 33 O) O O) (Bc (Bor.sc (SC.va (K 34 _ O) (B 4 _ O) O bU) (EA (λ_=>rfl) (NI _ _))) Bn)) (F1 (OU _)) H,Zt⟩ O (M9 O (tW (V2 1 2) (i5 4 2 1) 54 O ?_));refine n5 1 [] (V2 1 2) Zt O (I9 O (tW (V3 1 2 6) (OA 6 4 2 1) 54 O ?_));refine W.seq (u4 1 (y1 36) (V4 1 2 6 36) ⟨CP (kI 0 O) O,Zt⟩ ?_);refine W.block ?_;refine P2 32 (λi=>⟨54,[(1,.ptr 1 0 []),(2,.ptr 2 0 []),(6,.ptr 6 0 []),(36,.int ((i:Nat):Int))],[(6,.var (w7 (RL (RF s).h i))),(4,.var (.arr 8 1 ((GM (s.n*8) 8).map D.u8))),(2,.var (w7 (List.replicate 32 0))),(1,.var (z49 (RF s)))]⟩) O λi hil=>?_;have hol:=q86 (RF s).h i;have h3:(RF s).ok:=EL _ _ hs2;have h3l:=h3.h;refine u4 1 (y1 37) (V5 1 2 6 36 37) ⟨GV 32 O,Zt⟩ ?_;refine W.seq ?_;refine g7 O (λhc37=>?_) (λhc37=>?_)
   ·refine W.skip (W.seq (W.block (u4 2 (y2 38 7) (V5 1 2 6 7 36) ⟨zV O,zA O,Zt⟩ ?_)));refine L8 14 (v96 39 40 41 42 43 44 45 46 47 48 49 50 51) (V6 1 2 6 36 50 51) ⟨zV O,zV O,λ_ _ H K=>YU (i) (4) (eU K 40 O) (kI 4 O) bU bU H,xF O,q43 ((i/4)) O,λ_ B H K=>R.ldP (K 43 _ O) (B 1 _ O) (Z9 (m:=1) O O (H5 (b8 (l:=(RF s).h) bU) Q2 O) bU) O O O H,zV O,λ_ _ H K=>KH (i) (4) (eU K 45 O) (kI 4 O) bU H,HW 8 O,λ_ _ H K=>BW (24) ((8*(i%4))) (kI 24 O) (eU K 47 O) bU bU H,λ_ _ H K=>R.bin (eU K 44 O) (eU K 48 O) O (show(0:Int)<=_ from H7 _) H,zW O,q43 i O,Zt⟩ O (⟨O,_,ZV (gU 51 O) (xU 6 O) (H5 (mG (RL (RF s).h i)) Q2 bU) (gV 50 O) (by rfl) (by rfl) (by rfl) (by rfl) (JV (mG (RL (RF s).h i)) L0 L3),tW (V4 1 2 6 36) (OA 6 4 2 1) 54 O ?_⟩);refine n4 2 (y2 52 36) (V4 1 2 6 36) ⟨P1 1 O,zV O,Zt⟩ ?_;exact⟨bU,rfl⟩
   ·obtain rfl:i=32:=by omega
    refine W.exit (n5 2 (y1 53) (V2 2 53) ⟨xL O,Zt⟩ O (M9 O (tW (V1 2) (OA 6 4 2 1) 54 O ?_)));exact W.ret (Eo O (iL 23 32))
theorem FC(b:List UInt8)(hb0:b.length<=1073741824):Fn Tryz.prog gl 70 [.sl none 1 (b.map D.u8)] (w7 (GX b)):=by
 refine Fo 7 Tryz.func70 O λC hC hD=>?_;refine n5 1 [] (V1 0) Zt O (I9 O (tW (V2 0 2) (B2 2) 7 O ?_));refine n5 5 (y4 3 4 5 6) (V2 2 6) ⟨λ_ _ H _=>Z7 hC (z40) Bn (F1 (OU _)) H,zV O,zD hC (q32 _ _ XJ hb0) O (F1 (OU _)),zC hC (y83 _ (EL _ _ XJ)) O (F1 (B4 _)),Zt⟩ O (M9 O (tW (V1 2) (B2 2) 7 O ?_));exact W.ret (Eo O (iL 23 32))
theorem FJ(b:List UInt8)(hb0:b.length<=1073741824):Fn Tryz.prog gl 100 [.sl none 1 (b.map D.u8)] (w7 (DB b)):=by
 refine Fo 8 Tryz.func100 O λC hC hD=>?_;refine n5 1 [] (V1 0) Zt O (I9 O (tW (V2 0 2) (B2 2) 8 O ?_));refine n5 4 (y2 4 5) (V2 2 5) ⟨zV O,zC hC (FC _ hb0) O (F1 (B4 _)),Zt⟩ O (I9 O (M9 O (tW (V2 2 3) (B7 3 2) 8 O ?_)));refine n5 3 (y2 6 7) (V2 2 7) ⟨λ_ B H K=>QO (0) (32) (32) (K 3 _ O) (B 3 _ O) O O O O O bU bU O H,λ_ B H K=>Z7 hC (FC (GX b) (by rw[FB];decide)) (Bc (Bor.sc (SC.va (K 6 _ O) (B 3 _ O) O bU) (EA (λ_=>rfl) (FB _))) Bn) (F1 (B4 _)) H,Zt⟩ O (M9 O (tW (V1 2) (B7 3 2) 8 O ?_));exact W.ret (Eo O (iL 23 32))
end
section
open Go.Proofs
theorem h00:Fn Tryz.prog gl 120 [] (.sl (some 27) 1 (kTab.map D.u32)):=by
 refine Fo 2 Tryz.func120 O λC hC hD=>?_;refine u4 1 (y1 0) [] ⟨i6 O,Zt⟩ ?_;refine P4 2 (y2 1 0) [(1,1)] [(1,1)] (V1 0) ⟨aU λ_ _ H _=>J3 (z:=1) (.cons (kW (.int .u32 1116352408) (.u32 1116352408) O) (.cons (kW (.int .u32 1899447441) (.u32 1899447441) O) (.cons (kW (.int .u32 3049323471) (.u32 3049323471) O) (.cons (kW (.int .u32 3921009573) (.u32 3921009573) O) (.cons (kW (.int .u32 961987163) (.u32 961987163) O) (.cons (kW (.int .u32 1508970993) (.u32 1508970993) O) (.cons (kW (.int .u32 2453635748) (.u32 2453635748) O) (.cons (kW (.int .u32 2870763221) (.u32 2870763221) O) (.cons (kW (.int .u32 3624381080) (.u32 3624381080) O) (.cons (kW (.int .u32 310598401) (.u32 310598401) O) (.cons (kW (.int .u32 607225278) (.u32 607225278) O) (.cons (kW (.int .u32 1426881987) (.u32 1426881987) O) (.cons (kW (.int .u32 1925078388) (.u32 1925078388) O) (.cons (kW (.int .u32 2162078206) (.u32 2162078206) O) (.cons (kW (.int .u32 2614888103) (.u32 2614888103) O) (.cons (kW (.int .u32 3248222580) (.u32 3248222580) O) (.cons (kW (.int .u32 3835390401) (.u32 3835390401) O) (.cons (kW (.int .u32 4022224774) (.u32 4022224774) O) (.cons (kW (.int .u32 264347078) (.u32 264347078) O) (.cons (kW (.int .u32 604807628) (.u32 604807628) O) (.cons (kW (.int .u32 770255983) (.u32 770255983) O) (.cons (kW (.int .u32 1249150122) (.u32 1249150122) O) (.cons (kW (.int .u32 1555081692) (.u32 1555081692) O) (.cons (kW (.int .u32 1996064986) (.u32 1996064986) O) (.cons (kW (.int .u32 2554220882) (.u32 2554220882) O) (.cons (kW (.int .u32 2821834349) (.u32 2821834349) O) (.cons (kW (.int .u32 2952996808) (.u32 2952996808) O) (.cons (kW (.int .u32 3210313671) (.u32 3210313671) O) (.cons (kW (.int .u32 3336571891) (.u32 3336571891) O) (.cons (kW (.int .u32 3584528711) (.u32 3584528711) O) (.cons (kW (.int .u32 113926993) (.u32 113926993) O) (.cons (kW (.int .u32 338241895) (.u32 338241895) O) (.cons (kW (.int .u32 666307205) (.u32 666307205) O) (.cons (kW (.int .u32 773529912) (.u32 773529912) O) (.cons (kW (.int .u32 1294757372) (.u32 1294757372) O) (.cons (kW (.int .u32 1396182291) (.u32 1396182291) O) (.cons (kW (.int .u32 1695183700) (.u32 1695183700) O) (.cons (kW (.int .u32 1986661051) (.u32 1986661051) O) (.cons (kW (.int .u32 2177026350) (.u32 2177026350) O) (.cons (kW (.int .u32 2456956037) (.u32 2456956037) O) (.cons (kW (.int .u32 2730485921) (.u32 2730485921) O) (.cons (kW (.int .u32 2820302411) (.u32 2820302411) O) (.cons (kW (.int .u32 3259730800) (.u32 3259730800) O) (.cons (kW (.int .u32 3345764771) (.u32 3345764771) O) (.cons (kW (.int .u32 3516065817) (.u32 3516065817) O) (.cons (kW (.int .u32 3600352804) (.u32 3600352804) O) (.cons (kW (.int .u32 4094571909) (.u32 4094571909) O) (.cons (kW (.int .u32 275423344) (.u32 275423344) O) (.cons (kW (.int .u32 430227734) (.u32 430227734) O) (.cons (kW (.int .u32 506948616) (.u32 506948616) O) (.cons (kW (.int .u32 659060556) (.u32 659060556) O) (.cons (kW (.int .u32 883997877) (.u32 883997877) O) (.cons (kW (.int .u32 958139571) (.u32 958139571) O) (.cons (kW (.int .u32 1322822218) (.u32 1322822218) O) (.cons (kW (.int .u32 1537002063) (.u32 1537002063) O) (.cons (kW (.int .u32 1747873779) (.u32 1747873779) O) (.cons (kW (.int .u32 1955562222) (.u32 1955562222) O) (.cons (kW (.int .u32 2024104815) (.u32 2024104815) O) (.cons (kW (.int .u32 2227730452) (.u32 2227730452) O) (.cons (kW (.int .u32 2361852424) (.u32 2361852424) O) (.cons (kW (.int .u32 2428436474) (.u32 2428436474) O) (.cons (kW (.int .u32 2756734187) (.u32 2756734187) O) (.cons (kW (.int .u32 3204031479) (.u32 3204031479) O) (.cons (kW (.int .u32 3329325298) (.u32 3329325298) O) .nil)))))))))))))))))))))))))))))))))))))))))))))))))))))))))))))))) ⟨⟨O,O,O⟩,⟨O,O,O⟩,⟨O,O,O⟩,⟨O,O,O⟩,⟨O,O,O⟩,⟨O,O,O⟩,⟨O,O,O⟩,⟨O,O,O⟩,⟨O,O,O⟩,⟨O,O,O⟩,⟨O,O,O⟩,⟨O,O,O⟩,⟨O,O,O⟩,⟨O,O,O⟩,⟨O,O,O⟩,⟨O,O,O⟩,⟨O,O,O⟩,⟨O,O,O⟩,⟨O,O,O⟩,⟨O,O,O⟩,⟨O,O,O⟩,⟨O,O,O⟩,⟨O,O,O⟩,⟨O,O,O⟩,⟨O,O,O⟩,⟨O,O,O⟩,⟨O,O,O⟩,⟨O,O,O⟩,⟨O,O,O⟩,⟨O,O,O⟩,⟨O,O,O⟩,⟨O,O,O⟩,⟨O,O,O⟩,⟨O,O,O⟩,⟨O,O,O⟩,⟨O,O,O⟩,⟨O,O,O⟩,⟨O,O,O⟩,⟨O,O,O⟩,⟨O,O,O⟩,⟨O,O,O⟩,⟨O,O,O⟩,⟨O,O,O⟩,⟨O,O,O⟩,⟨O,O,O⟩,⟨O,O,O⟩,⟨O,O,O⟩,⟨O,O,O⟩,⟨O,O,O⟩,⟨O,O,O⟩,⟨O,O,O⟩,⟨O,O,O⟩,⟨O,O,O⟩,⟨O,O,O⟩,⟨O,O,O⟩,⟨O,O,O⟩,⟨O,O,O⟩,⟨O,O,O⟩,⟨O,O,O⟩,⟨O,O,O⟩,⟨O,O,O⟩,⟨O,O,O⟩,⟨O,O,O⟩,⟨O,O,O⟩,Zt⟩ O H dU,aU<|zO O,Zt⟩ O (tU O ?_);exact W.ret (Eo O)
theorem QB(x:UInt32)(n:UInt64):Fn Tryz.prog gl 122 [.u32 x,.u64 n] (.u32 (rright x n)):=by
 refine Fo 13 Tryz.func122 O λC hC hD=>?_;refine u4 1 (y1 4) (V2 0 1) ⟨q42 (.u32 0) O,Zt⟩ ?_;refine u4 9 (y9 5 6 7 8 9 10 11 12 4) (V1 4) ⟨zV O,zV O,λ_ _ H K=>R.bin (eU K 5 O) (eU K 6 O) O bV H,zV O,zV O,λ_ _ H K=>R.bin (kW (.int .u64 32) (.u64 32) O) (eU K 9 O) O Zt H,λ_ _ H K=>R.bin (eU K 8 O) (eU K 10 O) O bV H,zB O,zA O,Zt⟩ ?_;exact W.ret (Eo O)
theorem j83(p:List UInt8)(hp:p.length=64):Fn Tryz.prog gl 121 [.sl none 1 (p.map D.u8)] (.sl (some 27) 1 ((wR p 64).map D.u32)):=by
 refine Fo 99 Tryz.func121 O λC hC hD=>?_;refine u4 1 (y1 2) (V1 0) ⟨i6 O,Zt⟩ ?_;refine u4 1 (y1 3) (V2 0 3) ⟨i6 O,Zt⟩ ?_;refine W.seq (u4 1 (y1 4) (V3 0 3 4) ⟨O3 0 O,Zt⟩ ?_);refine W.block ?_;refine O6 (s:=3) 27 1 O ?_;refine P2 16 (λt=>⟨99,[(0,.sl none 1 (p.map D.u8)),(3,.sl (some 27) 1 ((wR p t).map D.u32)),(4,.int ((t:Nat):Int))],[]⟩) O λt htl=>?_;have hwl:=VC p t;refine W.seq (u4 2 (y2 10 11) (V4 0 3 4 11) ⟨zV O,GV 16 O,Zt⟩ ?_);refine g7 O (λhc11=>?_) (λhc11=>?_)
 ·refine W.skip (W.seq (W.block ?_));refine KF 37 (0::0::0::4::14::30::62::126::0::0::512::1536::3840::7936::16128::32512::65534::0::0::262144::786432::1966080::4063232::8257536::16646144::33554430::0::0::134217728::402653184::1006632960::2080374784::4227858432::8589934590::17179869182::34359738367::68719476735::[]) hP dU (.y 14 _::.y 15 _::.y 16 _::.y 17 _::.y 18 _::.y 19 _::.y 20 _::.y 21 _::.y 22 _::.y 23 _::.y 24 _::.y 25 _::.y 26 _::.y 27 _::.y 28 _::.y 29 _::.y 30 _::.y 31 _::.y 32 _::.y 33 _::.y 34 _::.y 35 _::.y 36 _::.y 37 _::.y 38 _::.y 39 _::.y 40 _::.y 41 _::.y 42 _::.y 43 _::.y 44 _::.y 45 _::.y 46 _::.y 47 _::.y 48 _::.y 49 _::.y 3 _::[]) [(35,3),(36,49),(36,14)] [(35,3),(36,49)] (V3 0 3 4) ⟨aU<|zM O,xM O,xM O,aU<|HW 4 O,aU<|zI ((4*t)) O,aU<|zL O (mG p),aU<|zW O,aU λ_ _ H K=>R.bin (eU K 20 O) (kW (.int .u64 24) (.u64 24) O) O bV H,xM O,xM O,aU<|HW 4 O,aU<|P1 1 O,aU<|zI (((4*t)+1)) O,aU<|zL O (mG p),aU<|zW O,aU λ_ _ H K=>R.bin (eU K 28 O) (kW (.int .u64 16) (.u64 16) O) O bV H,aU<|zB O,xM O,xM O,aU<|HW 4 O,aU<|P1 2 O,aU<|zI (((4*t)+2)) O,aU<|zL O (mG p),aU<|zW O,aU λ_ _ H K=>R.bin (eU K 37 O) (kW (.int .u64 8) (.u64 8) O) O bV H,aU<|zB O,xM O,xM O,aU<|HW 4 O,aU<|P1 3 O,aU<|zI (((4*t)+3)) O,aU<|zL O (mG p),aU<|zW O,aU<|zB O,aU λ_ _ H K=>J3 (z:=1) (.cons (eU K 47 O) .nil) ⟨⟨O,O,O⟩,Zt⟩ O H dU,aU<|YC O (G5 O) (HO) bU,aU<|zO O,Zt⟩ O (tW (V3 0 3 4) [] 99 O ?_);refine n4 3 (y3 12 13 4) (V3 0 3 4) ⟨zV O,P1 1 O,zA O,Zt⟩ ?_;exact⟨bU,(by simp only[wR];rw[j7 hc11];rfl)⟩
 ·obtain rfl:t=16:=by omega
  refine W.exit (W.seq (u4 1 (y1 5) (V2 3 5) ⟨O3 16 O,Zt⟩ ?_));refine W.block ?_;refine W.loop (α:={q__:Nat//16<=q__/\q__<=64}) (λq__=>⟨99,[(3,.sl (some 27) 1 ((wR p q__.1).map D.u32)),(5,.int ((q__.1:Nat):Int))],[]⟩) (λq__=>64-q__.1) ⟨(16),bU⟩ O ?_;rintro ⟨t,⟨ht16,htl⟩⟩;show W _ _ _ _ ⟨99,[(3,.sl (some 27) 1 ((wR p t).map D.u32)),(5,.int ((t:Nat):Int))],[]⟩;have hwl:=VC p t;refine W.seq (u4 2 (y2 50 51) (V3 3 5 51) ⟨zV O,GV 64 O,Zt⟩ ?_);refine g7 O (λhc51=>?_) (λhc51=>?_)
  ·refine W.skip (W.seq (W.block (u4 6 (y6 54 55 56 57 58 6) (V3 3 5 6) ⟨zM O,zV O,AD 15 O,YD ((t-15)) O,XA O (mG (wR p t)),zA O,Zt⟩ ?_)));refine u4 6 (y6 59 60 61 62 63 7) (V4 3 5 6 7) ⟨zM O,zV O,AD 2 O,YD ((t-2)) O,XA O (mG (wR p t)),zA O,Zt⟩ ?_;refine u4 9 (y9 64 65 66 67 68 69 70 71 8) (V4 3 5 7 8) ⟨zV O,CM hC (QB _ _) O (kW (.int .u64 7) (.u64 7) O) (F1 (.u32 _)),zV O,CM hC (QB _ _) O (kW (.int .u64 18) (.u64 18) O) (F1 (.u32 _)),zB O,zV O,λ_ _ H K=>R.bin (eU K 69 O) (kW (.int .u64 3) (.u64 3) O) O bV H,zB O,zA O,Zt⟩ ?_;refine u4 9 (y9 72 73 74 75 76 77 78 79 9) (V4 3 5 8 9) ⟨zV O,CM hC (QB _ _) O (kW (.int .u64 17) (.u64 17) O) (F1 (.u32 _)),zV O,CM hC (QB _ _) O (kW (.int .u64 19) (.u64 19) O) (F1 (.u32 _)),zB O,zV O,λ_ _ H K=>R.bin (eU K 77 O) (kW (.int .u64 10) (.u64 10) O) O bV H,zB O,zA O,Zt⟩ ?_;refine KF 19 [0,0,0,0,8,28,60,126,0,510,0,0,2048,7168,15360,32766,65534,131071,262143] hP dU (g78 80 81 82 83 84 85 86 87 88 89 90 91 92 93 94 95 96 97 3) [(17,3),(18,97),(18,80),(18,82),(18,90)] [(17,3),(18,97)] (V2 3 5) ⟨aU<|zM O,xM O,aU<|zM O,xM O,aU<|AD 7 O,aU<|YD ((t-7)) O,aU<|XA O (mG (wR p t)),aU<|zB O,xM O,aU<|zB O,aU<|zM O,xM O,aU<|AD 16 O,aU<|YD ((t-16)) O,aU<|XA O (mG (wR p t)),aU<|zB O,aU λ_ _ H K=>J3 (z:=1) (.cons (eU K 95 O) .nil) ⟨⟨O,O,O⟩,Zt⟩ O H dU,aU<|YC O (G5 O) (HO) bU,aU<|zO O,Zt⟩ O (tW (V2 3 5) [] 99 O ?_);refine n4 3 (y3 52 53 5) (V2 3 5) ⟨zV O,P1 1 O,zA O,Zt⟩ ?_;exact⟨⟨(t+1),bU⟩,(by simp only[wR];rw[z8 (by omega)];rfl),(by simp only[];omega)⟩
  ·obtain rfl:t=64:=by omega
   refine W.exit (P4 2 (y2 98 2) [(0,3),(1,98)] [(0,3),(1,98)] (V1 2) ⟨aU λ_ _ H K=>ZX (K 3 _ O) O H dU,aU<|zO O,Zt⟩ O (tU O ?_));exact W.ret (Eo O)
theorem u67(b:List UInt8)(hb0:b.length<=1000000000):Fn Tryz.prog gl 119 [.sl none 1 (b.map D.u8)] (.sl (some 5) 1 ((Y1 b).map D.u8)):=by
 refine Fo 37 Tryz.func119 O λC hC hD=>?_;refine u4 1 (y1 2) (V1 0) ⟨i6 O,Zt⟩ ?_;refine P4 4 (y4 6 7 8 3) [(2,6),(3,8)] [(2,6),(3,8)] (V2 0 3) ⟨aU λ_ _ H _=>J3 .nil Zt O H dU,xM O,aU λ_ _ H K=>R0 (Or.inl O) (K 6 _ O) (SrcO.sc (SC.sl (K 7 _ O)) (P3 (λ_=>rfl))) (D9 _) bU H dU dU,aU<|zO O,Zt⟩ O (tU O ?_);refine P4 4 (y4 9 10 11 3) [(2,3),(3,11),(3,9)] [(2,3),(3,11)] (V2 0 3) ⟨aU<|zM O,aU λ_ _ H _=>J3 (z:=1) (.cons (kW (.int .u8 128) (.u8 128) O) .nil) ⟨⟨O,O,O⟩,Zt⟩ O H dU,aU<|YC O (G5 O) (HO) bU,aU<|zO O,Zt⟩ O (tU O ?_);refine W.seq (W.block ?_);refine P2 (zR b) (λz=>⟨37,[(0,.sl none 1 (b.map D.u8)),(3,.sl (some 5) 1 ((b++[128]++List.replicate z 0).map D.u8))],[]⟩) (by simp) λz hz=>?_
 have hz0:zR b<=63:=by unfold zR;omega
 refine W.seq (u4 4 (y4 12 13 14 15) (V3 0 3 15) ⟨zM O,u47 O (lN _),λ_ _ H K=>KH ((b++[128]++List.replicate z 0).length) (64) (eU K 13 O) (kI 64 O) (by(first|decide|omega)) H,v95 56 O,Zt⟩ ?_);refine g7 O (λhc15=>?_) (λhc15=>?_)
 ·refine W.skip (W.block ?_);refine UZ 4 (y4 16 17 18 3) [(2,3),(3,18),(3,16)] [(2,3),(3,18)] (V2 0 3) ⟨aU<|zM O,aU λ_ _ H _=>J3 (z:=1) (.cons (kW (.int .u8 0) (.u8 0) O) .nil) ⟨⟨O,O,O⟩,Zt⟩ O H dU,aU<|YC O (G5 O) (HO) bU,aU<|zO O,Zt⟩ O (tU O ?_);exact⟨(by simp only[q9,p7,n7] at hc15;unfold zR at *;omega),(by rw[List.replicate_succ',<- w3])⟩
 ·obtain rfl:z=zR b:=by simp only[q9,p7,n7,ne_eq,Classical.not_not] at hc15;unfold zR at *;omega
  refine W.exit (u4 5 (y5 19 20 21 22 4) (V2 3 4) ⟨zV O,P8 O,zW O,ZP O (kW (.int .u64 8) (.u64 8) O),zA O,Zt⟩ ?_);refine W.seq (u4 1 (y1 5) (V3 3 4 5) ⟨O3 7 O,Zt⟩ ?_);refine W.block ?_;refine P2 8 (λj=>⟨37,[(3,.sl (some 5) 1 ((b++[128]++List.replicate (zR b) 0++DN (TW b) j).map D.u8)),(4,.u64 (TW b)),(5,.int (7-((j:Nat):Int)))],[]⟩) (by simp[DN];rfl) λj hj=>?_;have htl:=NY (TW b) j
  have hz1:zR b<=63:=by unfold zR;omega
  refine W.seq (u4 2 (y2 23 24) (V4 3 4 5 24) ⟨zV O,ZP O (kI 0 O),Zt⟩ ?_);refine W.cond O (λhc24=>?_) (λhc24=>?_)
  ·refine W.skip (W.seq (W.block ?_));refine UZ 10 (VU 27 28 29 30 31 32 33 34 35 3) [(8,3),(9,35),(9,27)] [(8,3),(9,35)] (V3 3 4 5) ⟨aU<|zM O,xM O,xM O,aU λ_ _ H K=>R.bin (kI 8 O) (eU K 29 O) O Zt H,aU<|zW O,aU λ_ _ H K=>R.bin (eU K 28 O) (eU K 31 O) O bV H,aU<|zW O,aU λ_ _ H K=>J3 (z:=1) (.cons (eU K 33 O) .nil) ⟨⟨O,O,O⟩,Zt⟩ O H dU,aU<|YC O (G5 O) (HO) bU,aU<|zO O,Zt⟩ O (tU O ?_);refine n4 3 (y3 25 26 5) (V3 3 4 5) ⟨zV O,λ_ _ H K=>O1 (d:=.int (7-((j+1:Nat):Int))) (eU K 25 O) (kI 1 O) O Zt (XX bO bO bO) H,zA O,Zt⟩ ?_;exact⟨(by have:=v7 hc24;omega),(by simp only[DN,<- w3];rfl)⟩
  ·obtain rfl:j=8:=by have:=d6 hc24;omega
   refine W.exit (P4 2 (y2 36 2) [(0,3),(1,36)] [(0,3),(1,36)] (V1 2) ⟨aU λ_ _ H K=>ZX (K 3 _ O) O H dU,aU<|zO O,Zt⟩ O (tU O ?_));exact W.ret (Eo O)
theorem PP(b:List UInt8)(hb0:b.length<=1000000000):Fn Tryz.prog gl 63 [.sl none 1 (b.map D.u8)] (w7 (NG b)):=by
 refine Fo 171 Tryz.func63 O λC hC hD=>?_;refine n5 1 [] (V1 0) Zt O (I9 O (tW (V2 0 2) (B2 2) 171 O ?_));refine P4 2 (y2 19 3) [(1,19)] [(1,19)] (V3 0 2 3) ⟨aU λ_ _ H _=>J3 (z:=1) (.cons (kW (.int .u32 1779033703) (.u32 1779033703) O) (.cons (kW (.int .u32 3144134277) (.u32 3144134277) O) (.cons (kW (.int .u32 1013904242) (.u32 1013904242) O) (.cons (kW (.int .u32 2773480762) (.u32 2773480762) O) (.cons (kW (.int .u32 1359893119) (.u32 1359893119) O) (.cons (kW (.int .u32 2600822924) (.u32 2600822924) O) (.cons (kW (.int .u32 528734635) (.u32 528734635) O) (.cons (kW (.int .u32 1541459225) (.u32 1541459225) O) .nil)))))))) ⟨⟨O,O,O⟩,⟨O,O,O⟩,⟨O,O,O⟩,⟨O,O,O⟩,⟨O,O,O⟩,⟨O,O,O⟩,⟨O,O,O⟩,⟨O,O,O⟩,Zt⟩ O H dU,aU<|zO O,Zt⟩ O (tU O ?_);refine P4 3 (y3 20 21 4) [(2,21)] [(2,21)] (V3 2 3 4) ⟨xM O,aU<|zC hC (u67 b hb0) O (F1 (.sl _ _ _ (J5 λ_=>.u8 _))),aU<|zO O,Zt⟩ O (tU O ?_);refine P4 2 (y2 22 5) [(1,22)] [(1,22)] (V4 2 3 4 5) ⟨aU λ_ _ H _=>Z7 hC (h00) Bn (F1 (.sl _ _ _ (J5 λ_=>.u32 _))) H,aU<|zO O,Zt⟩ O (tU O ?_);refine W.seq (u4 1 (y1 6) (V5 2 3 4 5 6) ⟨O3 0 O,Zt⟩ ?_);refine W.block ?_;refine P2 (pieces b) (λm=>⟨171,[(2,.ptr 2 0 []),(3,.sl (some 27) 1 ((hR (Y1 b) m).map D.u32)),(4,.sl (some 5) 1 ((Y1 b).map D.u8)),(5,.sl (some 27) 1 (kTab.map D.u32)),(6,.int ((64*m:Nat):Int))],[(2,.var (w7 (List.replicate 32 0)))]⟩) O λm hm=>?_;have htp:=PX b;have htl:=SH b
 have hz1:zR b<=63:=by unfold zR;omega
 have hhl:=w38 (Y1 b) m;refine W.seq (u4 4 (y4 23 24 25 26) (V6 2 3 4 5 6 26) ⟨zV O,zM O,u47 O (lN _),zS O,Zt⟩ ?_);refine g7 O (λhc26=>?_) (λhc26=>?_)
 ·refine W.skip (W.seq (W.block (P4 7 (y7 29 30 31 32 33 34 7) [(6,34)] [(6,34)] (V6 2 3 4 5 6 7) ⟨aU<|zM O,xM O,xM O,aU<|P1 64 O,aU λ_ _ H K=>k10 (64*m) ((64*m+64)) (64) (SC.al (K 29 _ O) (K 4 _ O)) (C4 (eU K 30 O)) (C4 (eU K 32 O)) O O bU bU bU H dU,aU λ_ _ H K=>Z7 hC (j83 (((Y1 b).drop (64*m)).take 64) (by simp only[v8,c5];omega)) (Bc (Bor.sc (SC.vw (K 33 _ O) (SC.al (K 29 _ O) (K 4 _ O)) (by simp only[z6];omega)) (z32 (λ_=>rfl))) Bn) (F1 (.sl _ _ _ (J5 λ_=>.u32 _))) H,aU<|zO O,Zt⟩ O (tU O ?_))));refine P4 4 (y4 35 36 37 8) [(2,35),(3,37)] [(2,35),(3,37)] (V7 2 3 4 5 6 7 8) ⟨aU λ_ _ H _=>J3 .nil Zt O H dU,aU<|zM O,aU λ_ _ H K=>R0 (Or.inl O) (K 35 _ O) (SrcO.sc (SC.al (K 36 _ O) (K 3 _ O)) (P3 (λ_=>rfl))) (D9 _) bU H dU dU,aU<|zO O,Zt⟩ O (tU O ?_);refine W.seq (u4 1 (y1 9) (V8 2 3 4 5 6 7 8 9) ⟨O3 0 O,Zt⟩ ?_);refine W.block ?_;refine P2 64 (λt=>⟨171,[(2,.ptr 2 0 []),(3,.sl (some 27) 1 ((hR (Y1 b) m).map D.u32)),(4,.sl (some 5) 1 ((Y1 b).map D.u8)),(5,.sl (some 27) 1 (kTab.map D.u32)),(6,.int ((64*m:Nat):Int)),(7,.sl (some 27) 1 ((wR (((Y1 b).drop (64*m)).take 64) 64).map D.u32)),(8,.sl (some 27) 1 ((XY (hR (Y1 b) m) (wR (((Y1 b).drop (64*m)).take 64) 64) t).map D.u32)),(9,.int ((t:Nat):Int))],[(2,.var (w7 (List.replicate 32 0)))]⟩) O λt ht=>?_;have hwl:=VC (((Y1 b).drop (64*m)).take 64) 64;have hkl:kTab.length=64:=rfl;have hrl:=x50 (hR (Y1 b) m) (wR (((Y1 b).drop (64*m)).take 64) 64) t hhl;refine W.seq (u4 2 (y2 38 39) (V9 2 3 4 5 6 7 8 9 39) ⟨zV O,GV 64 O,Zt⟩ ?_);refine g7 O (λhc39=>?_) (λhc39=>?_)
  ·refine W.skip (W.seq (W.block (u4 4 (y4 42 43 44 10) (V9 2 3 4 5 6 7 8 9 10) ⟨zM O,λ_ _ H K=>R.idxN (0) (SC.al (K 42 _ O) (K 8 _ O)) (C4 (kI 0 O)) O bU H dU,XA O (b8 (l:=(XY (hR (Y1 b) m) (wR (((Y1 b).drop (64*m)).take 64) 64) t)) bU),zA O,Zt⟩ ?_)));refine u4 4 (y4 45 46 47 11) (z51 2 3 4 5 6 7 8 9 10 11) ⟨zM O,λ_ _ H K=>R.idxN (4) (SC.al (K 45 _ O) (K 8 _ O)) (C4 (kI 4 O)) O bU H dU,XA O (b8 (l:=(XY (hR (Y1 b) m) (wR (((Y1 b).drop (64*m)).take 64) 64) t)) bU),zA O,Zt⟩ ?_;refine u4 9 (y9 48 49 50 51 52 53 54 55 12) (j72 2 3 4 5 6 7 8 9 10 11 12) ⟨zV O,CM hC (QB _ _) O (kW (.int .u64 6) (.u64 6) O) (F1 (.u32 _)),zV O,CM hC (QB _ _) O (kW (.int .u64 11) (.u64 11) O) (F1 (.u32 _)),zB O,zV O,CM hC (QB _ _) O (kW (.int .u64 25) (.u64 25) O) (F1 (.u32 _)),zB O,zA O,Zt⟩ ?_;refine W.seq ?_;refine R5 29 (0::1::3::0::15::0::0::64::192::480::0::1024::0::4096::12288::31744::65504::131071::0::0::786432::1835008::4194303::0::0::25165824::58720256::134217727::268435455::[]) hP dU (.y 56 _::.y 57 _::.y 58 _::.y 59 _::.y 60 _::.y 61 _::.y 62 _::.y 63 _::.y 64 _::.y 65 _::.y 66 _::.y 67 _::.y 68 _::.y 69 _::.y 70 _::.y 71 _::.y 72 _::.y 73 _::.y 74 _::.y 75 _::.y 76 _::.y 77 _::.y 78 _::.y 79 _::.y 80 _::.y 81 _::.y 82 _::.y 83 _::.y 13 _::[]) (j72 2 3 4 5 6 7 8 9 10 11 13) ⟨zM O,λ_ _ H K=>R.idxN (7) (SC.al (K 56 _ O) (K 8 _ O)) (C4 (kI 7 O)) O bU H dU,XA O (b8 (l:=(XY (hR (Y1 b) m) (wR (((Y1 b).drop (64*m)).take 64) 64) t)) bU),zV O,zB O,zV O,zM O,λ_ _ H K=>R.idxN (5) (SC.al (K 62 _ O) (K 8 _ O)) (C4 (kI 5 O)) O bU H dU,XA O (b8 (l:=(XY (hR (Y1 b) m) (wR (((Y1 b).drop (64*m)).take 64) 64) t)) bU),zB O,zV O,BH O,zM O,λ_ _ H K=>R.idxN (6) (SC.al (K 68 _ O) (K 8 _ O)) (C4 (kI 6 O)) O bU H dU,XA O (b8 (l:=(XY (hR (Y1 b) m) (wR (((Y1 b).drop (64*m)).take 64) 64) t)) bU),zB O,zB O,zB O,zM O,zV O,YD t O,XA O (mG kTab),zB O,zM O,zV O,YD t O,XA O (b8 (l:=(wR (((Y1 b).drop (64*m)).take 64) 64)) bU),zB O,zA O,Zt⟩ O (tW (j72 2 3 4 5 6 7 8 9 10 11 13) (B2 2) 171 O ?_);refine u4 9 (y9 84 85 86 87 88 89 90 91 14) (v94 2 3 4 5 6 7 8 9 10 11 13 14) ⟨zV O,CM hC (QB _ _) O (kW (.int .u64 2) (.u64 2) O) (F1 (.u32 _)),zV O,CM hC (QB _ _) O (kW (.int .u64 13) (.u64 13) O) (F1 (.u32 _)),zB O,zV O,CM hC (QB _ _) O (kW (.int .u64 22) (.u64 22) O) (F1 (.u32 _)),zB O,zA O,Zt⟩ ?_;refine W.seq ?_;refine R5 22 [0,0,0,4,12,30,0,0,128,384,960,2046,0,4096,12288,0,32768,98304,258048,524286,1048575,2097151] hP dU [.y 92 _,.y 93 _,.y 94 _,.y 95 _,.y 96 _,.y 97 _,.y 98 _,.y 99 _,.y 100 _,.y 101 _,.y 102 _,.y 103 _,.y 104 _,.y 105 _,.y 106 _,.y 107 _,.y 108 _,.y 109 _,.y 110 _,.y 111 _,.y 112 _,.y 15 _] (v94 2 3 4 5 6 7 8 9 10 11 13 15) ⟨zV O,zV O,zM O,λ_ _ H K=>R.idxN (1) (SC.al (K 94 _ O) (K 8 _ O)) (C4 (kI 1 O)) O bU H dU,XA O (b8 (l:=(XY (hR (Y1 b) m) (wR (((Y1 b).drop (64*m)).take 64) 64) t)) bU),zB O,zV O,zM O,λ_ _ H K=>R.idxN (2) (SC.al (K 99 _ O) (K 8 _ O)) (C4 (kI 2 O)) O bU H dU,XA O (b8 (l:=(XY (hR (Y1 b) m) (wR (((Y1 b).drop (64*m)).take 64) 64) t)) bU),zB O,zB O,zM O,λ_ _ H K=>R.idxN (1) (SC.al (K 104 _ O) (K 8 _ O)) (C4 (kI 1 O)) O bU H dU,XA O (b8 (l:=(XY (hR (Y1 b) m) (wR (((Y1 b).drop (64*m)).take 64) 64) t)) bU),zM O,λ_ _ H K=>R.idxN (2) (SC.al (K 107 _ O) (K 8 _ O)) (C4 (kI 2 O)) O bU H dU,XA O (b8 (l:=(XY (hR (Y1 b) m) (wR (((Y1 b).drop (64*m)).take 64) 64) t)) bU),zB O,zB O,zB O,zA O,Zt⟩ O (tW (v94 2 3 4 5 6 7 8 9 10 11 13 15) (B2 2) 171 O ?_);refine KF 24 [0,0,3,0,0,16,48,0,128,384,0,1024,3072,0,15360,0,0,65536,196608,0,524288,1572864,4194303,8388607] hP dU [.y 113 _,.y 114 _,.y 115 _,.y 116 _,.y 117 _,.y 118 _,.y 119 _,.y 120 _,.y 121 _,.y 122 _,.y 123 _,.y 124 _,.y 125 _,.y 126 _,.y 127 _,.y 128 _,.y 129 _,.y 130 _,.y 131 _,.y 132 _,.y 133 _,.y 134 _,.y 135 _,.y 8 _] [(23,135),(23,117),(23,120),(23,123),(23,129),(23,132)] [(23,135)] (V8 2 3 4 5 6 7 8 9) ⟨xM O,xM O,aU<|zB O,xM O,aU<|zM O,aU λ_ _ H K=>R.idxN (1) (SC.al (K 117 _ O) (K 8 _ O)) (C4 (kI 1 O)) O bU H dU,aU<|XA O (b8 (l:=(XY (hR (Y1 b) m) (wR (((Y1 b).drop (64*m)).take 64) 64) t)) bU),aU<|zM O,aU λ_ _ H K=>R.idxN (2) (SC.al (K 120 _ O) (K 8 _ O)) (C4 (kI 2 O)) O bU H dU,aU<|XA O (b8 (l:=(XY (hR (Y1 b) m) (wR (((Y1 b).drop (64*m)).take 64) 64) t)) bU),aU<|zM O,aU λ_ _ H K=>R.idxN (3) (SC.al (K 123 _ O) (K 8 _ O)) (C4 (kI 3 O)) O bU H dU,aU<|XA O (b8 (l:=(XY (hR (Y1 b) m) (wR (((Y1 b).drop (64*m)).take 64) 64) t)) bU),xM O,aU<|zB O,xM O,aU<|zM O,aU λ_ _ H K=>R.idxN (5) (SC.al (K 129 _ O) (K 8 _ O)) (C4 (kI 5 O)) O bU H dU,aU<|XA O (b8 (l:=(XY (hR (Y1 b) m) (wR (((Y1 b).drop (64*m)).take 64) 64) t)) bU),aU<|zM O,aU λ_ _ H K=>R.idxN (6) (SC.al (K 132 _ O) (K 8 _ O)) (C4 (kI 6 O)) O bU H dU,aU<|XA O (b8 (l:=(XY (hR (Y1 b) m) (wR (((Y1 b).drop (64*m)).take 64) 64) t)) bU),aU λ_ _ H K=>J3 (z:=1) (.cons (eU K 115 O) (.cons (eU K 116 O) (.cons (eU K 119 O) (.cons (eU K 122 O) (.cons (eU K 127 O) (.cons (eU K 128 O) (.cons (eU K 131 O) (.cons (eU K 134 O) .nil)))))))) ⟨⟨O,O,O⟩,⟨⟨O,O,O⟩,⟨⟨O,O,O⟩,⟨⟨O,O,O⟩,⟨⟨O,O,O⟩,⟨⟨O,O,O⟩,⟨⟨O,O,O⟩,⟨⟨O,O,O⟩,Zt⟩⟩⟩⟩⟩⟩⟩⟩ O H dU,aU<|zO O,Zt⟩ O (tW (V8 2 3 4 5 6 7 8 9) (B2 2) 171 O ?_);refine n4 3 (y3 40 41 9) (V8 2 3 4 5 6 7 8 9) ⟨zV O,P1 1 O,zA O,Zt⟩ ?_;exact⟨bU,rfl⟩
  ·obtain rfl:t=64:=by omega
   refine W.exit (u4 1 (y1 16) (V7 2 3 4 5 6 8 16) ⟨O3 0 O,Zt⟩ ?_);refine W.block ?_;refine P2 8 (λi=>⟨171,[(2,.ptr 2 0 []),(3,.sl (some 27) 1 ((OB (hR (Y1 b) m) (XY (hR (Y1 b) m) (wR (((Y1 b).drop (64*m)).take 64) 64) 64) i).map D.u32)),(4,.sl (some 5) 1 ((Y1 b).map D.u8)),(5,.sl (some 27) 1 (kTab.map D.u32)),(6,.int ((64*m:Nat):Int)),(8,.sl (some 27) 1 ((XY (hR (Y1 b) m) (wR (((Y1 b).drop (64*m)).take 64) 64) 64).map D.u32)),(16,.int ((i:Nat):Int))],[(2,.var (w7 (List.replicate 32 0)))]⟩) O λi hi=>?_;have hal:=MS (hR (Y1 b) m) (XY (hR (Y1 b) m) (wR (((Y1 b).drop (64*m)).take 64) 64) 64) i;refine W.seq (u4 2 (y2 136 137) (V8 2 3 4 5 6 8 16 137) ⟨zV O,GV 8 O,Zt⟩ ?_);refine g7 O (λhc137=>?_) (λhc137=>?_)
   ·refine W.skip (W.seq (W.block ?_));refine R5 12 [0,0,0,0,12,28,0,0,192,448,1020,2047,4095] hP dU (u51 140 141 142 143 144 145 146 147 148 149 150 151) (z51 2 3 4 5 6 8 16 140 150 151) ⟨zM O,zV O,zM O,zV O,YD i O,XA O (b8 (l:=(OB (hR (Y1 b) m) (XY (hR (Y1 b) m) (wR (((Y1 b).drop (64*m)).take 64) 64) 64) i)) bU),zM O,zV O,YD i O,XA O (b8 (l:=(XY (hR (Y1 b) m) (wR (((Y1 b).drop (64*m)).take 64) 64) 64)) bU),zB O,YD i O,Zt⟩ O (⟨O,_,XS (gU 151 O) (Or.inr (gU 140 O)) (gU 3 O) (b8 (l:=(OB (hR (Y1 b) m) (XY (hR (Y1 b) m) (wR (((Y1 b).drop (64*m)).take 64) 64) 64) i)) bU) O (gV 150 O) (by rfl) (by rfl) (by rfl) (by rfl) L0 L3,tW (V7 2 3 4 5 6 8 16) (B2 2) 171 O ?_⟩);refine n4 3 (y3 138 139 16) (V7 2 3 4 5 6 8 16) ⟨zV O,P1 1 O,zA O,Zt⟩ ?_;exact⟨bU,rfl⟩
   ·obtain rfl:i=8:=by omega
    refine W.exit ?_;refine n4 3 (y3 27 28 6) (V5 2 3 4 5 6) ⟨zV O,P1 64 O,zA O,Zt⟩ ?_;exact⟨(by omega),rfl⟩
 ·obtain rfl:m=pieces b:=by omega
  refine W.exit (n5 1 [] (V2 2 3) Zt O (I9 O (tW (V3 2 3 17) (B7 17 2) 171 O ?_)));refine W.seq (u4 1 (y1 18) (V4 2 3 17 18) ⟨O3 0 O,Zt⟩ ?_);refine W.block ?_;refine P2 32 (λi=>⟨171,[(2,.ptr 2 0 []),(3,.sl (some 27) 1 ((hR (Y1 b) (pieces b)).map D.u32)),(17,.ptr 17 0 []),(18,.int ((i:Nat):Int))],[(17,.var (w7 (RI (hR (Y1 b) (pieces b)) i))),(2,.var (w7 (List.replicate 32 0)))]⟩) O λi hi=>?_;have hol:=q85 (hR (Y1 b) (pieces b)) i;refine W.seq (u4 2 (y2 152 153) (V5 2 3 17 18 153) ⟨zV O,GV 32 O,Zt⟩ ?_);refine g7 O (λhc153=>?_) (λhc153=>?_)
  ·refine W.skip (W.seq (W.block ?_));refine L8 15 (z53 156 157 158 159 160 161 162 163 164 165 166 167 168 169) (V6 2 3 17 18 168 169) ⟨zV O,zM O,zV O,λ_ _ H K=>YU (i) (4) (eU K 158 O) (kI 4 O) bU bU H,YD ((i/4)) O,XA O (mG (hR (Y1 b) (pieces b))),zV O,λ_ _ H K=>KH (i) (4) (eU K 162 O) (kI 4 O) bU H,HW 8 O,λ_ _ H K=>BW (24) ((8*(i%4))) (kI 24 O) (eU K 164 O) bU bU H,zW O,λ_ _ H K=>R.bin (eU K 161 O) (eU K 166 O) O bV H,zW O,q43 i O,Zt⟩ O (⟨O,_,ZV (gU 169 O) (xU 17 O) (H5 (b8 (l:=(RI (hR (Y1 b) (pieces b)) i)) bU) Q2 bU) (gV 168 O) (by rfl) (by rfl) (by rfl) (by rfl) (JV (b8 (l:=(RI (hR (Y1 b) (pieces b)) i)) bU) L0 L3),tW (V4 2 3 17 18) (B7 17 2) 171 O ?_⟩);refine n4 3 (y3 154 155 18) (V4 2 3 17 18) ⟨zV O,P1 1 O,zA O,Zt⟩ ?_;exact⟨bU,rfl⟩
  ·obtain rfl:i=32:=by omega
   refine W.exit (n5 2 (y1 170) (V2 2 170) ⟨xL O,Zt⟩ O (M9 O (tW (V1 2) (B7 17 2) 171 O ?_)));exact W.ret (Eo O (iL 23 32))
theorem NH(b:List UInt8)(hb0:b.length<=1000000000):Fn Tryz.prog gl 110 [.sl none 1 (b.map D.u8)] (w7 (DP b)):=by
 refine Fo 8 Tryz.func110 O λC hC hD=>?_;refine n5 1 [] (V1 0) Zt O (I9 O (tW (V2 0 2) (B2 2) 8 O ?_));refine n5 4 (y2 4 5) (V2 2 5) ⟨zV O,zC hC (PP _ hb0) O (F1 (B4 _)),Zt⟩ O (I9 O (M9 O (tW (V2 2 3) (B7 3 2) 8 O ?_)));refine n5 3 (y2 6 7) (V2 2 7) ⟨λ_ B H K=>QO (0) (32) (32) (K 3 _ O) (B 3 _ O) O O O O O bU bU O H,λ_ B H K=>Z7 hC (PP (NG b) (by rw[DO];decide)) (Bc (Bor.sc (SC.va (K 6 _ O) (B 3 _ O) O bU) (EA (λ_=>rfl) (DO _))) Bn) (F1 (B4 _)) H,Zt⟩ O (M9 O (tW (V1 2) (B7 3 2) 8 O ?_));exact W.ret (Eo O (iL 23 32))
end
theorem j21(a b:UInt32):a|||b=b|||a:=by
 apply G7.1;simp[BitVec.or_comm]
theorem AI(x:UInt32):right x 2=rright x 2/\right x 13=rright x 13/\right x 22=rright x 22/\right x 6=rright x 6/\right x 11=rright x 11/\right x 25=rright x 25 /\
 right x 7=rright x 7/\right x 18=rright x 18/\right x 17=rright x 17/\right x 19=rright x 19:=by
 refine⟨?_, ?_, ?_, ?_, ?_, ?_, ?_, ?_, ?_, ?_⟩<;>exact j21 _ _
theorem h07(e f g:UInt32):g^^^(e&&&(f^^^g))=e&&&f ^^^ ~~~e&&&g:=by
 apply G7.1;simp only[UInt32.toBitVec_xor,UInt32.toBitVec_and,UInt32.toBitVec_not]
 ext i hi
 simp only[BitVec.getElem_xor,BitVec.getElem_and,BitVec.getElem_not]
 cases e.toBitVec[i]<;>cases f.toBitVec[i]<;>cases g.toBitVec[i]<;>rfl
theorem g49(a b c:UInt32):a&&&b|||c&&&(a|||b)=a&&&b^^^a&&&c^^^b&&&c:=by
 apply G7.1;simp only[UInt32.toBitVec_xor,UInt32.toBitVec_and,UInt32.toBitVec_or]
 ext i hi
 simp only[BitVec.getElem_xor,BitVec.getElem_and,BitVec.getElem_or]
 cases a.toBitVec[i]<;>cases b.toBitVec[i]<;>cases c.toBitVec[i]<;>rfl
theorem YN[Inhabited α]{l r:List α}{i:Nat}(h:i<l.length):(l++r)[i]! = l[i]!:=by
 simp[U4 h]
theorem SQ[Inhabited α]{l:List α}{i:Nat}{v:α}(h:i<l.length):(l.set i v)[i]! = v:=by simp[h]
theorem y50(w r:List UInt32)(t:Nat)(h:16<=t)(hw:w.length=t):x84 (w++r) t=x85 w t:=by
 unfold x84 x85;rw[YN (by omega),YN (by omega),YN (by omega),YN (by omega)];obtain⟨_,_,_,_,_,_,h7,h18,_,_⟩:=AI w[t-15]!;obtain⟨_,_,_,_,_,_,_,_,h17,h19⟩:=AI w[t-2]!;rw[h7,h18,h17,h19];generalize rright _ 7^^^_^^^_=a;generalize rright _ 17^^^_^^^_=b;generalize w[t-16]! = c;generalize w[t-7]! = d;apply G7.1;simp only[UInt32.toBitVec_add]
 ac_rfl
theorem y28(x y:UInt32):M0 (x|||y) 8=M0 x 8|||M0 y 8:=by
 apply G7.1;simp[M0,BitVec.shiftLeft_or_distrib]
theorem u78(x:UInt32):M0 (M0 x 8) 8=M0 x 16:=by
 apply G7.1;simp[M0,<- BitVec.shiftLeft_add]
theorem x09(x:UInt32):M0 (M0 x 16) 8=M0 x 24:=by
 apply G7.1;simp[M0,<- BitVec.shiftLeft_add]
theorem u82(p:List UInt8)(t:Nat)(ht:t<=64):sched p t=wR p t++List.replicate (64-t) 0:=by
 induction t with
 | zero=>simp[sched,wR]
 | succ t ih=>
  have ih:=ih (by omega);have hl:=VC p t
  have hset:∀ v:UInt32,(wR p t++List.replicate (64-t) 0).set t v=wR p t++[v]++List.replicate (64-(t+1)) 0:=by
   intro v;rw[s4 _ _ (by omega),hl,N5,show 64-t=(64-(t+1))+1 by omega,R9,I4];simp
  simp only[sched,wR];by_cases h:t<16
  ·rw[j7 h,j7 h,ih]
   have h0:(wR p t++List.replicate (64-t) 0)[t]! = 0:=by
    simp only[getElem!_def];rw[U0 (by omega),hl,N5];simp[show 0<64-t by omega]
   have hlen:∀ l:List UInt32,l.length=64->t<l.length:=λl hl=>by omega
   have e0:(wR p t++List.replicate (64-t) 0).length=64:=by simp[hl];omega
   have hins:w26 p t (wR p t++List.replicate (64-t) 0) 4=(wR p t++List.replicate (64-t) 0).set t (w4 p t):=by
    simp only[w26];simp only[List.set_set,SQ (hlen _ e0),h0]
    congr 1
    unfold w4
    have hz:∀ y:UInt32,M0 0 8|||y=y:=λy=>by
     apply G7.1;simp[M0]
    simp only[hz,y28,u78,x09,X7]
   rw[hins,hset]
  ·rw[z8 h,z8 h,ih,y50 _ _ _ (by omega) hl,hset]
theorem x25(p:List UInt8):sched p 64=wR p 64:=by rw[u82 p 64 (z5 _)];simp
theorem W8.list_get(v:W8):v.list[0]! = v.a/\v.list[1]! = v.b/\v.list[2]! = v.c/\v.list[3]! = v.d/\v.list[4]! = v.e/\v.list[5]! = v.f/\v.list[6]! = v.g/\v.list[7]! = v.l:=⟨rfl,rfl,rfl,rfl,rfl,rfl,rfl,rfl⟩
theorem u98(h:List UInt32)(hh:h.length=8):(W8.of h).list=h:=by
 match h,hh with
 | [a,b,c,d,e,f,g,l],_=>rfl
theorem g38(v:W8)(k w:UInt32):(rnd v k w).list=y33 v.list k w:=by
 obtain⟨e0,e1,e2,e3,e4,e5,e6,e7⟩:=W8.list_get v;unfold y33 y48 g18;simp only[e0,e1,e2,e3,e4,e5,e6,e7];obtain⟨h2,h13,h22,_⟩:=AI v.a;obtain⟨_,_,_,h6,h11,h25,_⟩:=AI v.e;simp only[rnd,W8.list,one,two,h07,g49,h2,h13,h22,h6,h11,h25]
theorem g40(h w:List UInt32)(hh:h.length=8)(t:Nat):(rds h w t).list=XY h w t:=by
 induction t with
 | zero=>exact u98 h hh
 | succ t ih=>simp only[rds,XY,g38,ih]
theorem y87(h:List UInt32)(p:List UInt8)(hh:h.length=8):comp h p=k69 h p:=by
 unfold comp k69;rw[x25,g40 _ _ hh]
theorem y46(h:List UInt32)(i:Nat)(hi:i<=32):RL h i=RI h i:=by
 induction i with
 | zero=>rfl
 | succ i ih=>
  simp only[RL,RI,ih (by omega)]
  have:(UInt64.ofInt ((24-8*(i%4):Nat):Int)).toNat=24-8*(i%4):=by
   have h:=GC ((24-8*(i%4):Nat):Int);omega
  rw[this]
theorem j32(n:UInt64)(i:Nat)(hi:i<=8):GM n i=DN n i++List.replicate (8-i) 0:=by
 induction i with
 | zero=>simp[GM,DN]
 | succ i ih=>
  simp only[GM,DN,ih (by omega)];have hl:=NY n i;rw[s4 _ _ (by omega),hl,N5,show 8-i=(8-(i+1))+1 by omega,R9,I4]
  have e:(UInt64.ofInt (wr (8*(7-((i:Nat):Int))))).toNat=56-8*i:=by
   have h:=GC (wr (8*(7-((i:Nat):Int))))
   have h2:wr (8*(7-((i:Nat):Int)))=8*(7-(i:Int)):=by unfold wr;rw[IntKind.wrap_i64];omega
   rw[h2] at h;rw[h2];omega
  rw[e];simp
theorem z78(n:UInt64):GM n 8=DN n 8:=by rw[j32 n 8 (z5 _)];simp
theorem TD(a b:List UInt8)(q:Nat)(h:64*q<=a.length):hR (a++b) q=hR a q:=by
 induction q with
 | zero=>rfl
 | succ q ih=>
  simp only[hR,ih (by omega)];rw[P6 (by omega),U2 (by simp;omega)]
structure Rep(s:ShaS)(b:List UInt8):Prop where
 begun:s.begun=true
 n:s.n=UInt64.ofNat b.length
 h:s.h=hR b (b.length/64)
 len:s.piece.length=64
 piece:s.piece.take (b.length%64)=b.drop (64*(b.length/64))
theorem Rep.mS{s:ShaS}{b:List UInt8}(h:Rep s b):mS s=b.length%64:=by
 unfold Go.Sx.mS;rw[h.n,s7,U9];have:(64:UInt64).toNat=64:=rfl;rw[this];omega
theorem j08:Rep ShaS.start []:=⟨rfl,rfl,rfl,by simp[ShaS.start],by simp⟩
theorem x37{s:ShaS}{b c:List UInt8}(h:Rep s b)(hc:c.length≠0):Rep (UN s c) (b++c.take (kS s c)):=by
 have hm:=h.mS;have hk1:=w22 s c;have hk2:=WT s c;have hk3:=BO s c (by omega);have hmlt:=OS s;generalize hk:kS s c=k at hk1 hk2 hk3
 have hb':(b++c.take k).length=b.length+k:=by simp;omega
 have hp:HH s c=b.drop (64*(b.length/64))++c.take k++s.piece.drop (b.length%64+k):=by
  unfold HH;rw[hk,hm,h.piece]
 have hpl:(b.drop (64*(b.length/64))).length=b.length%64:=by simp;omega
 have hn:nS s c=UInt64.ofNat (b.length+k):=by
  unfold nS;rw[hk,h.n];apply M6.1;have h1:=GC ((k:Nat):Int);simp only[UInt64.toNat_add,U9];omega
 have hmod:(nS s c%64==0)=decide ((b.length+k)%64=0):=by
  rw[hn,Q4,d5,K2,<- M6,s7,U9];have h1:(64:UInt64).toNat=64:=rfl;have h2:(0:UInt64).toNat=0:=rfl;rw[h1,h2];omega
 have hlen:(HH s c).length=64:=by
  rw[hp];simp only[q9,c5,v8,h.len];omega
 refine⟨h.begun,by simp only[UN,hn,hb'], ?_,hlen, ?_⟩
 ·simp only[UN,hmod,hb'];by_cases hd:(b.length+k)%64=0
  ·simp only[hd,decide_true,Q6]
   have hq:(b.length+k)/64=b.length/64+1:=by omega
   have hmk:b.length%64+k=64:=by omega
   rw[hq];simp only[hR];rw[TD b _ _ (by omega),h.h,y87 _ _ (w38 _ _)]
   congr 1
   have e1:(b++c.take k).drop (64*(b.length/64))=b.drop (64*(b.length/64))++c.take k:=P6 (by omega);have e2:s.piece.drop 64=[]:=F9 (by rw[h.len];exact z5 _);rw[hp,hmk,e1,e2,m4];exact(Q0 (by rw[q9,hpl,v8];omega)).symm
  ·simp only[hd,decide_false,p6]
   have hq:(b.length+k)/64=b.length/64:=by omega
   rw[hq,TD b _ _ (by omega),h.h]
 ·simp only[UN,hb'];by_cases hd:(b.length+k)%64=0
  ·rw[hd,D4,F9 (by rw[hb'];omega)]
  ·have hq:(b.length+k)/64=b.length/64:=by omega
   have hr:(b.length+k)%64=b.length%64+k:=by omega
   rw[hq,hr,hp,P6 (by omega)];rw[U2 (by simp;omega),Q0 (by simp;omega)]
theorem x39{s:ShaS}{b c:List UInt8}(h:Rep s b):Rep (LL s c) (b++c):=by
 induction hn:c.length using Nat.strongRecOn generalizing s b c with
 | _ n ih=>
  by_cases h0:c.length=0
  ·rw[CC _ _ h0,Q7.1 h0,m4];exact h
  ·rw[UD _ _ h0];have hk:=BO s c (by omega);have:=ih _ (by rw[<- hn];simp only[c5];omega) (x37 h h0) (c:=c.drop (kS s c)) rfl;rw[w3,K8] at this;exact this
theorem PA{s:ShaS}{b c:List UInt8}(h:Rep s b):Rep (GQ s c) (b++c):=by
 unfold GQ;rw[h.begun];exact x39 h
theorem x38{s:ShaS}{b:List UInt8}(h:Rep s b)(k:Nat):Rep (q84 k s) (b++List.replicate k 0):=by
 induction k generalizing s b with
 | zero=>simpa [q84] using h
 | succ k ih=>
  have:=ih (PA (c:=[0]) h);rw[w3] at this;simpa [q84,R9] using this
theorem g70{s:ShaS}{b:List UInt8}(h:Rep s b):w90 s=NG b:=by
 have h1:Rep (x69 s) (b++[128]):=PA h
 have hz:BZ (x69 s)=zR b:=by
  unfold BZ zR;rw[h1.mS];simp only[q9,n7];omega
 have h2:Rep (j18 s) (b++[128]++List.replicate (zR b) 0):=by
  unfold j18;rw[hz];exact x38 h1 _
 have hn:s.n*8=TW b:=by
  rw[h.n];unfold TW
  congr 1
  apply M6.1;have:=GC ((b.length:Nat):Int);rw[U9];omega
 have h3:Rep (RF s) (Y1 b):=by
  unfold RF Y1;rw[z78,hn];exact PA h2
 unfold w90 NG;rw[y46 _ _ (z5 _),h3.h,PX]
 congr 2
 omega
theorem RA(b:List UInt8):Rep (GQ ShaS.start b) b:=by
 have:=PA (c:=b) j08;simpa using this
theorem SB(b:List UInt8):GX b=NG b:=g70 (RA b)
theorem VA(b:List UInt8):DB b=DP b:=by unfold DB DP;rw[SB,SB]
instance:Inhabited ShaS:=⟨ShaS.zero⟩
abbrev Hs:=List UInt8
def F6(a b:Hs):Hs:=DB (a++b)
def F7(a b:Hs):Hs:=DP (a++b)
theorem y71:F6=F7:=by funext a b;exact VA _
theorem FX(b:Hs):(DB b).length=32:=by unfold DB;exact FB _
theorem BD(b:Hs):(DP b).length=32:=by unfold DP;exact DO _
theorem TY(a b:Hs):(F6 a b).length=32:=FX _
theorem CS(a b:Hs):(F7 a b).length=32:=BD _
theorem g74(a:Hs)(ha:a.length=32):((List.replicate 64 (0:UInt8)).map D.u8).take 0++(((a.map D.u8).drop 0).take 32).take 32++((List.replicate 64 (0:UInt8)).map D.u8).drop (0+32)=(a++List.replicate 32 0).map D.u8:=by
 have h1:((a.map D.u8).take 32)=a.map D.u8:=Q0 (by simp[ha]);simp only[J0,Y8,Nat.min_self,h1,D4,D9,d8];rfl
theorem g73(a b:Hs)(ha:a.length=32)(hb:b.length=32):((a++List.replicate 32 (0:UInt8)).map D.u8).take 32++(((b.map D.u8).drop 0).take 32).take 32++((a++List.replicate 32 (0:UInt8)).map D.u8).drop (32+32)=(a++b).map D.u8:=by
 have h1:((b.map D.u8).take 32)=b.map D.u8:=Q0 (by simp[hb])
 have h2:((a++List.replicate 32 (0:UInt8)).map D.u8).take 32=a.map D.u8:=by rw[d8,U2 (by simp[ha]),Q0 (by simp[ha])]
 have h3:((a++List.replicate 32 (0:UInt8)).map D.u8).drop (32+32)=[]:=F9 (by simp[ha]);rw[h2,h3];simp only[J0,Y8,Nat.min_self,h1,d8,m4]
theorem x66(a:Hs)(ha:a.length=32):((a.map D.u8).drop 0).take 32=a.map D.u8:=by rw[J0,Q0 (by simp[ha])]
def v99(J:Hs->Hs->Hs)(l:List Hs):Nat->List Hs
 | 0=>[]
 | i+1=>v99 J l i++[J l[2*i]! l[min (2*i+1) (l.length-1)]!]
def g81(J:Hs->Hs->Hs)(l:List Hs):List Hs:=v99 J l ((l.length+1)/2)
def R4(J:Hs->Hs->Hs)(l:List Hs):Nat->List Hs
 | 0=>l
 | k+1=>g81 J (R4 J l k)
def W2(n:Nat):Nat:=if n=0 then 0 else if n=1 then 1 else W2 ((n+1)/2)+1
termination_by n
def NS(n:Nat):Nat->Nat
 | 0=>n
 | k+1=>(NS n k+1)/2
theorem VN(J:Hs->Hs->Hs)(l:List Hs)(i:Nat):(v99 J l i).length=i:=by
 induction i with
 | zero=>rfl
 | succ i ih=>simp[v99,ih]
theorem AP(J:Hs->Hs->Hs)(l:List Hs):(g81 J l).length=(l.length+1)/2:=VN _ _ _
theorem PN(J:Hs->Hs->Hs)(l:List Hs)(k:Nat):(R4 J l k).length=NS l.length k:=by
 induction k with
 | zero=>rfl
 | succ k ih=>simp only[R4,NS,AP,ih]
theorem WR(n k:Nat):NS n k<=n:=by
 induction k with
 | zero=>exact z5 _
 | succ k ih=>simp only[NS];omega
theorem EK:W2 0=0:=by unfold W2;rfl
theorem EZ:W2 1=1:=by unfold W2;rfl
theorem EQ{n:Nat}(h:2<=n):W2 n=W2 ((n+1)/2)+1:=by
 rw[W2];simp[show n≠0 by omega,show n≠1 by omega]
theorem NO{n:Nat}(h:1<=n):1<=W2 n:=by
 by_cases h1:n=1
 ·subst h1;rw[EZ];exact z5 _
 ·rw[EQ (by omega)];omega
theorem z75(n k:Nat)(h:k<W2 n):k+W2 (NS n k)=W2 n:=by
 induction k with
 | zero=>simp[NS]
 | succ k ih=>
  have h0:=ih (by omega)
  have h2:2<=NS n k:=by
   apply C6;intro hc
   rcases G3 (NS n k) 1 with h3|h3
   ·rw[show NS n k=0 by omega,EK] at h0;omega
   ·rw[show NS n k=1 by omega,EZ] at h0;omega
  rw[EQ h2] at h0;simp only[NS];omega
theorem q71(J:Hs->Hs->Hs)(l:List Hs)(k:Nat)(h:k<W2 l.length):1<=(R4 J l k).length:=by
 have h0:=z75 _ _ h;rw[PN];apply C6;intro hc;rw[show NS l.length k=0 by omega,EK] at h0;omega
def allH(l:List Hs):Prop:=∀ h∈l,h.length=32
theorem allH.get{l:List Hs}(h:allH l){i:Nat}(hi:i<l.length):l[i]!.length=32:=by
 rw[b9 l i hi];exact h _ (d7 hi)
theorem u61{J:Hs->Hs->Hs}(hJ:∀ a b,(J a b).length=32)(l:List Hs)(i:Nat):allH (v99 J l i):=by
 induction i with
 | zero=>intro h hh;cases hh
 | succ i ih=>
  intro h hh
  rcases p9.1 hh with h1|h1
  ·exact ih h h1
  ·rw[g8.1 h1];exact hJ _ _
theorem PO{J:Hs->Hs->Hs}(hJ:∀ a b,(J a b).length=32){l:List Hs}(h:allH l)(k:Nat):allH (R4 J l k):=by
 cases k with
 | zero=>exact h
 | succ k=>exact u61 hJ _ _
theorem W3(h:Hs):(w7 h).brw=w7 h:=by
 unfold w7;simp only[D.brw,D1];rw[J6 (λ_=>rfl)]
theorem k04(o:Option Nat)(z:Nat)(l:List Hs):(D.sl o z (l.map w7)).brw=.sl none z (l.map w7):=by
 simp only[D.brw,D1];rw[J6 W3]
theorem X6(h:Hs):Frs (w7 h):=.arr _ _ _ (J5 λ_=>.u8 _)
theorem w75(e z:Nat)(l:List Hs):Frs (.sl (some e) z (l.map w7)):=.sl _ _ _ (J5 X6)
def zero32:Hs:=List.replicate 32 0
theorem w87(k:Int)(n:Nat)(h:0<=k)(hn:n<=64):k.fdiv (2^min (n:Int).toNat 64)=((k.toNat/2^n:Nat):Int):=by
 have e:min (n:Int).toNat 64=n:=by omega
 rw[e];obtain⟨m,rfl⟩:=Int.eq_ofNat_of_zero_le h;rw[C9 _ (by exact_mod_cast v6 _)]
 norm_cast
def k34(J:Hs->Hs->Hs)(l:List Hs):Nat->Hs
 | 0=>zero32
 | k+1=>(R4 J l k)[0]!
def KS(J:Hs->Hs->Hs)(l:List Hs):Hs:=k34 J l (W2 l.length)
abbrev Bg:=List UInt64
def QM(x:Bg):D:=.arr 4 1 (x.map .u64)
def f8(n:Nat):D:=.int ((n:Nat):Int)
def Y6:Bg:=[0,0,0,0]
def M4(a:Bg)(i:Nat):Nat:=if 256<=i then 0 else(R7 a[i/64]! (i%64)&&&1).toNat
theorem k88(x:UInt64):(x&&&1).toNat<=1:=by
 rw[UInt64.toNat_and];exact v5 Nat.and_le_right (by decide)
theorem UQ(a:Bg)(i:Nat):M4 a i<=1:=by
 unfold M4;split
 ·exact v6 _
 ·exact k88 _
def JH(l:List Nat):Nat->Bg
 | 0=>Y6
 | i+1=>if l[i]! = 1 then(JH l i).set (i/64) ((JH l i)[i/64]!|||KL 1 (i%64)) else JH l i
def YO(l:List Nat):Bg:=JH l (min l.length 256)
theorem TB(l:List Nat)(i:Nat):(JH l i).length=4:=by
 induction i with
 | zero=>rfl
 | succ i ih=>simp only[JH];split<;>simp[ih]
theorem JR(l:List Nat):(YO l).length=4:=TB _ _
def HR(a b:Bg):Nat->Bool
 | 0=>false
 | i+1=>if M4 a i≠M4 b i then decide (M4 a i<M4 b i) else HR a b i
def DW(a b:Bg):Bool:=HR a b 256
def u49(a:Bg):Nat->Nat
 | 0=>0
 | i+1=>if M4 a i=1 then i+1 else u49 a i
def NN(a:Bg):Nat:=u49 a 256
theorem x93(a:Bg)(i:Nat):u49 a i<=i:=by
 induction i with
 | zero=>exact z5 _
 | succ i ih=>simp only[u49];split<;>omega
theorem x92(a:Bg):NN a<=256:=x93 a 256
def allB(l:List Nat):Prop:=∀ x∈l,x<=1
theorem allB.get{l:List Nat}(h:allB l)(i:Nat):l[i]!<=1:=by
 by_cases hi:i<l.length
 ·rw[b9 l i hi];exact h _ (d7 hi)
 ·rw[getElem!_neg l i hi];exact v6 _
theorem allB.set{l:List Nat}(h:allB l)(i x:Nat)(hx:x<=1):allB (l.set i x):=λy hy=>by
 rcases N6 hy with h1|h1
 ·exact h y h1
 ·exact h1▸hx
def AZ(a b:Bg):Nat->Nat
 | 0=>0
 | i+1=>(M4 a i+M4 b i+AZ a b i)/2
def AK(a b:Bg):Nat->List Nat
 | 0=>[]
 | i+1=>AK a b i++[(M4 a i+M4 b i+AZ a b i)%2]
def SK(a b:Bg):Bg:=YO (AK a b 256)
def j65(a b:Bg):Bool:=decide (AZ a b 256=1)
theorem u10(a b:Bg)(i:Nat):AZ a b i<=1:=by
 induction i with
 | zero=>exact v6 _
 | succ i ih=>have:=UQ a i;have:=UQ b i;simp only[AZ];omega
theorem VK(a b:Bg)(i:Nat):(AK a b i).length=i:=by
 induction i with
 | zero=>rfl
 | succ i ih=>simp[AK,ih]
def KO(a b:Bg):Nat->Nat
 | 0=>0
 | i+1=>if M4 a i<M4 b i+KO a b i then 1 else 0
def YA(a b:Bg):Nat->List Nat
 | 0=>[]
 | i+1=>YA a b i++[if M4 a i<M4 b i+KO a b i then M4 a i+2-(M4 b i+KO a b i) else M4 a i-(M4 b i+KO a b i)]
def j64(a b:Bg):Bg:=YO (YA a b 256)
theorem z41(a b:Bg)(i:Nat):KO a b i<=1:=by
 cases i with
 | zero=>exact v6 _
 | succ i=>simp only[KO];split<;>omega
theorem VQ(a b:Bg)(i:Nat):(YA a b i).length=i:=by
 induction i with
 | zero=>rfl
 | succ i ih=>simp[YA,ih]
theorem u09(a b:Bg):(j64 a b).length=4:=by unfold j64;exact JR _
theorem z43(a b:Bg):(SK a b).length=4:=by unfold SK;exact JR _
def i8(a:Bg)(k:Nat)(l:List Nat):Nat->List Nat×Nat
 | 0=>(l,0)
 | j+1=>((i8 a k l j).1.set (k+j) (((i8 a k l j).1[k+j]!+M4 a j+(i8 a k l j).2)%2),((i8 a k l j).1[k+j]!+M4 a j+(i8 a k l j).2)/2)
def ZF(a:Bg)(n:UInt64):Nat->List Nat
 | 0=>List.replicate 320 0
 | k+1=>if R7 n k&&&1=0 then ZF a n k else(i8 a k (ZF a n k) (320-k)).1
def x70(l:List Nat):Nat->UInt64
 | 0=>0
 | k+1=>x70 l k|||KL (UInt64.ofInt ((l[256+k]!:Nat):Int)) k
def KE(a:Bg)(n:UInt64):Bg:=YO (ZF a n 64)
def VZ(a:Bg)(n:UInt64):UInt64:=x70 (ZF a n 64) 64
theorem TK(a:Bg)(k:Nat)(l:List Nat)(j:Nat):(i8 a k l j).1.length=l.length:=by
 induction j with
 | zero=>rfl
 | succ j ih=>simp[i8,ih]
theorem TJ(a:Bg)(k:Nat)(l:List Nat)(h:allB l)(j:Nat):allB (i8 a k l j).1/\(i8 a k l j).2<=1:=by
 induction j with
 | zero=>exact⟨h,v6 _⟩
 | succ j ih=>
  have h1:=ih.1.get (k+j);have h2:=UQ a j;have h3:=ih.2;exact⟨ih.1.set _ _ (by omega),by simp only[i8];omega⟩
theorem IY(a:Bg)(n:UInt64)(k:Nat):(ZF a n k).length=320:=by
 induction k with
 | zero=>exact p7
 | succ k ih=>
  simp only[ZF];split
  ·exact ih
  ·rw[TK,ih]
theorem x96(a:Bg)(n:UInt64)(k:Nat):allB (ZF a n k):=by
 induction k with
 | zero=>intro x hx;rw[(T2.1 hx).2];exact v6 _
 | succ k ih=>
  simp only[ZF];split
  ·exact ih
  ·exact(TJ a k _ ih _).1
def NU(a:Bg)(n:Nat):Bg:=if n=0 then a else YO ((List.range 256).map λi=>if 256<n∨i<n then 0 else M4 a (i-n))
def ZJ(a:Bg)(n:Nat):Bg:=if n=0 then a else YO ((List.range 256).map λi=>if 256<n then 0 else M4 a (i+n))
def k20(a:Bg)(n i:Nat):List Nat:=(List.range i).map λi=>if 256<n∨i<n then 0 else M4 a (i-n)
def GI(a:Bg)(n i:Nat):List Nat:=(List.range i).map λi=>if 256<n then 0 else M4 a (i+n)
theorem j85(a:Bg)(n i:Nat):k20 a n (i+1)=k20 a n i++[if 256<n∨i<n then 0 else M4 a (i-n)]:=by simp[k20,M3]
theorem k00(a:Bg)(n i:Nat):GI a n (i+1)=GI a n i++[if 256<n then 0 else M4 a (i+n)]:=by simp[GI,M3]
theorem k19(a:Bg)(n i:Nat):(k20 a n i).length=i:=by simp[k20]
theorem TE(a:Bg)(n i:Nat):(GI a n i).length=i:=by simp[GI]
theorem AB{a:Bg}(ha:a.length=4)(n:Nat):(NU a n).length=4:=by
 unfold NU;split
 ·exact ha
 ·exact JR _
theorem UH{a:Bg}(ha:a.length=4)(n:Nat):(ZJ a n).length=4:=by
 unfold ZJ;split
 ·exact ha
 ·exact JR _
theorem z42(a:Bg)(n:UInt64):(KE a n).length=4:=by unfold KE;exact JR _
def z58(a r:Bg)(i:Nat):Bg:=(NU r 1).set 0 ((NU r 1)[0]!|||UInt64.ofInt ((M4 a i:Nat):Int))
theorem AN{a r:Bg}(h:r.length=4)(i:Nat):(z58 a r i).length=4:=by unfold z58;rw[Q9];exact AB h _
def ZR(a b:Bg):Nat->List Nat×Bg
 | 0=>(List.replicate 256 0,Y6)
 | t+1=>
  if M4 (ZR a b t).2 255=1∨DW (z58 a (ZR a b t).2 (255-t)) b=false then
   ((ZR a b t).1.set (255-t) 1,j64 (z58 a (ZR a b t).2 (255-t)) b)
  else((ZR a b t).1,z58 a (ZR a b t).2 (255-t))
def QN(a b:Bg):Bg:=if b=Y6 then Y6 else YO (ZR a b 256).1
def XV(a b:Bg):Bg:=if b=Y6 then Y6 else(ZR a b 256).2
def w96(b:Bg):Nat:=if b=Y6 then 1 else 0
theorem w95(a b:Bg)(h:(ZR a b 256).2.length=4):(XV a b).length=4:=by
 unfold XV;split
 ·rfl
 ·exact h
theorem z28(a b:Bg):(QN a b).length=4:=by
 unfold QN;split
 ·rfl
 ·exact JR _
theorem z29(a b:Bg)(t:Nat):(ZR a b t).1.length=256/\(ZR a b t).2.length=4:=by
 induction t with
 | zero=>rw[ZR];exact⟨p7,rfl⟩
 | succ t ih=>
  rw[ZR];generalize ZR a b t=q at ih ⊢;obtain⟨h1,h2⟩:=ih;split
  ·dsimp only;exact⟨List.length_set.trans h1,u09 _ _⟩
  ·dsimp only;exact⟨h1,AN h2 _⟩
def hbit(h:Hs)(i:Nat):Nat:=(DA h[i/8]! (i%8)&&&1).toNat
def WD(h:Hs)(i:Nat):List Nat:=(List.range i).map (hbit h)
def z73(h:Hs):Bg:=YO (WD h 256)
theorem j29(h:Hs)(i:Nat):WD h (i+1)=WD h i++[hbit h i]:=by simp[WD,M3]
theorem q94(h:Hs)(i:Nat):(WD h i).length=i:=by simp[WD]
theorem WH(n:Nat)(h:n<18446744073709551616):(UInt64.ofInt ((n:Nat):Int)).toNat=n:=by
 have:UInt64.ofInt ((n:Nat):Int)=UInt64.ofNat n:=by
  unfold UInt64.ofInt
  congr 1
  omega
 rw[this];simp[UInt64.toNat_ofNat];omega
theorem x06(x:UInt64)(n:Nat)(h:n<64):R7 x ((((UInt64.ofInt ((n:Nat):Int)).toNat:Nat):Int)).toNat=R7 x n:=by
 rw[WH n (by omega)];rfl
theorem x08(x:UInt64)(n:Nat)(h:n<64):KL x ((((UInt64.ofInt ((n:Nat):Int)).toNat:Nat):Int)).toNat=KL x n:=by
 rw[WH n (by omega)];rfl
theorem u77(x:UInt8)(n:Nat)(h:n<8):DA x ((((UInt64.ofInt ((n:Nat):Int)).toNat:Nat):Int)).toNat=DA x n:=by
 rw[WH n (by omega)];rfl
theorem u53(x:UInt64):D.int (wr ((x&&&1).toNat:Int))=D.int (((x&&&1).toNat:Nat):Int):=by
 have:=k88 x;exact XX rfl (by omega) (by omega)
theorem k64{l:List Nat}{i:Nat}(h:l[i]! = 1):JH l (i+1)=(JH l i).set (i/64) ((JH l i)[i/64]!|||KL 1 (i%64)):=by rw[JH,j7 h]
theorem k65{l:List Nat}{i:Nat}(h:¬ l[i]! = 1):JH l (i+1)=JH l i:=by rw[JH,z8 h]
theorem x01{a b:Bg}{i:Nat}(h:¬ ((M4 a i:Nat):Int)-((M4 b i:Nat):Int)-((KO a b i:Nat):Int)<0) :
 (YA a b i).map f8++[D.int (((M4 a i:Nat):Int)-((M4 b i:Nat):Int)-((KO a b i:Nat):Int))]=(YA a b (i+1)).map f8:=by
 rw[YA,d8,z8 (by omega)]
 congr 1
 simp only[d9,Z8,f8]
 congr 2
 omega
theorem x00{a b:Bg}{i:Nat}(h:((M4 a i:Nat):Int)-((M4 b i:Nat):Int)-((KO a b i:Nat):Int)<0) :
 (YA a b i).map f8++[D.int (((M4 a i:Nat):Int)-((M4 b i:Nat):Int)-((KO a b i:Nat):Int)+2)]=(YA a b (i+1)).map f8:=by
 have h1:=UQ b i;have h2:=z41 a b i;rw[YA,d8,j7 (by omega)]
 congr 1
 simp only[d9,Z8,f8]
 congr 2
 omega
theorem j99{a b:Bg}{i:Nat}(h:¬ ((M4 a i:Nat):Int)-((M4 b i:Nat):Int)-((KO a b i:Nat):Int)<0):KO a b (i+1)=0:=by rw[KO,z8 (by omega)]
theorem j98{a b:Bg}{i:Nat}(h:((M4 a i:Nat):Int)-((M4 b i:Nat):Int)-((KO a b i:Nat):Int)<0):KO a b (i+1)=1:=by rw[KO,j7 (by omega)]
theorem v08{a b:Bg}{i:Nat}(h:¬ M4 a i≠M4 b i):HR a b (i+1)=HR a b i:=by rw[HR,z8 h]
theorem v07{a b:Bg}{i:Nat}(h:M4 a i≠M4 b i):HR a b (i+1)=decide (M4 a i<M4 b i):=by rw[HR,j7 h]
theorem v81{a:Bg}{i:Nat}(h:M4 a i=1):u49 a (i+1)=i+1:=by rw[u49,j7 h]
theorem v82{a:Bg}{i:Nat}(h:¬ M4 a i=1):u49 a (i+1)=u49 a i:=by rw[u49,z8 h]
theorem z57{a:Bg}{n i x:Nat}(h:(if 256<n∨i<n then 0 else M4 a (i-n))=x):(k20 a n i).map f8++[D.int ((x:Nat):Int)]=(k20 a n (i+1)).map f8:=by rw[j85,d8,h];rfl
theorem z27{a:Bg}{n i x:Nat}(h:(if 256<n then 0 else M4 a (i+n))=x):(GI a n i).map f8++[D.int ((x:Nat):Int)]=(GI a n (i+1)).map f8:=by rw[k00,d8,h];rfl
theorem g16(a:Bg):NU a 0=a:=by rw[NU,j7 rfl]
theorem g15{a:Bg}{n:Nat}(h:¬ n<=0):NU a n=YO (k20 a n 256):=by rw[NU,z8 (by omega),k20]
theorem v34(a:Bg):ZJ a 0=a:=by rw[ZJ,j7 rfl]
theorem v33{a:Bg}{n:Nat}(h:¬ n<=0):ZJ a n=YO (GI a n 256):=by rw[ZJ,z8 (by omega),GI]
theorem zl(n:Nat):(List.replicate n 0).map f8=List.replicate n (.int 0):=by rw[I5];rfl
theorem y54(a:Bg)(n:UInt64):ZF a n 0=List.replicate 320 0:=by rw[ZF]
theorem x95{a:Bg}{n:UInt64}{k:Nat}(h:R7 n k&&&1=0):ZF a n (k+1)=ZF a n k:=by rw[ZF,j7 h]
theorem x94{a:Bg}{n:UInt64}{k:Nat}(h:¬ R7 n k&&&1=0):ZF a n (k+1)=(i8 a k (ZF a n k) (320-k)).1:=by rw[ZF,z8 h]
theorem y52(a:Bg)(k:Nat)(l:List Nat)(j:Nat):((i8 a k l j).1[k+j]!+M4 a j+(i8 a k l j).2)/2=(i8 a k l (j+1)).2:=by rw[i8]
theorem y53(a:Bg)(k:Nat)(l:List Nat):i8 a k l 0=(l,0):=by rw[i8]
theorem y85(a b:Bg):ZR a b 0=(List.replicate 256 0,Y6):=by rw[ZR]
theorem OG{a b r:Bg}{k:Nat}(hq:ZR a b k=(q,r))(h:M4 r 255=1∨DW (z58 a r (255-k)) b=false):ZR a b (k+1)=(q.set (255-k) 1,j64 (z58 a r (255-k)) b):=by
 rw[ZR,hq];exact j7 h
theorem k01{a b r:Bg}{k:Nat}(hq:ZR a b k=(q,r))(h:¬ M4 r 255=1)(h2:¬ DW (z58 a r (255-k)) b=false):ZR a b (k+1)=(q,z58 a r (255-k)):=by
 rw[ZR,hq];exact z8 (λh3=>h3.elim h h2)
theorem k68{a b r:Bg}{k:Nat}(hq:ZR a b k=(q,r)):q.length=256/\r.length=4:=by
 have:=z29 a b k;rw[hq] at this;exact this
theorem w93{a b:Bg}(h:(b==Y6)=true):QN a b=Y6/\XV a b=Y6/\w96 b=1:=by
 have h:=eq_of_beq h;exact⟨by rw[QN,j7 h],by rw[XV,j7 h],by rw[w96,j7 h]⟩
theorem w94{a b r:Bg}(h:(b==Y6)=false)(hq:ZR a b 256=(q,r)):QN a b=YO q/\XV a b=r/\w96 b=0:=by
 have h:=S6 h;exact⟨by rw[QN,z8 h,hq],by rw[XV,z8 h,hq],by rw[w96,z8 h]⟩
theorem v35(a b:Bg):(XV a b).length=4:=w95 a b (z29 a b 256).2
theorem O8(x:Bg):Frs (QM x):=.arr _ _ _ (J5 λ_=>.u64 _)
def l5(bits:UInt32):Bg:=[(bits&&&8388607).toUInt64,0,0,0]
def DZ(bits:UInt32):Bg:=
 if(X8 bits 24).toNat<3 then ZJ (l5 bits) (8*(3-(X8 bits 24).toNat)) else NU (l5 bits) (8*((X8 bits 24).toNat-3))
def PK(bits:UInt32):Option Bg:=
 if 3<=(X8 bits 24).toNat/\256<NN (l5 bits)+8*((X8 bits 24).toNat-3)/\l5 bits≠Y6 then none
 else if DZ bits=Y6∨bits&&&8388608≠0 then none else some (DZ bits)
def RR(bits:UInt32):Bg:=(PK bits).getD Y6
def MM(t:Bg):Nat:=(NN t+7)/8
def MP(t:Bg):Bg:=if MM t<3 then NU t (8*(3-MM t)) else ZJ t (8*(MM t-3))
def CJ(t:Bg):UInt32:=
 if t=Y6 then 0
 else if(8388608:UInt64)<=(MP t)[0]! then M0 (UInt32.ofInt ((MM t+1:Nat):Int)) 24|||(ZJ (MP t) 8)[0]!.toUInt32
 else M0 (UInt32.ofInt ((MM t:Nat):Int)) 24|||(MP t)[0]!.toUInt32
def PT(h:Hs)(t:Bg):Bool:=t != Y6&&!DW t (z73 h)
theorem j96(bits:UInt32):(DZ bits).length=4:=by
 unfold DZ;split
 ·exact UH rfl _
 ·exact AB rfl _
theorem PS(bits:UInt32):(RR bits).length=4:=by
 unfold RR PK;split
 ·rfl
 ·split
  ·rfl
  ·exact j96 _
theorem x07(bits:UInt32):(X8 bits 24).toNat<=255:=by
 unfold X8;rw[j7 (by decide),UInt32.toNat_shiftRight];have:=bits.toNat_lt;have e:(UInt32.ofNat 24).toNat%32=24:=rfl;rw[e,B6];omega
theorem x77{bits:UInt32}(h3:¬ (X8 bits 24).toNat<3)(hb:256<NN (l5 bits)+8*((X8 bits 24).toNat-3))(hn:(l5 bits != Y6)=true):PK bits=none:=by
 unfold PK;exact j7 ⟨by omega,hb,U8.1 hn⟩
theorem JG{bits:UInt32}(h:(X8 bits 24).toNat<3∨¬ 256<NN (l5 bits)+8*((X8 bits 24).toNat-3)∨(l5 bits != Y6)=false):PK bits=if DZ bits=Y6∨bits&&&8388608≠0 then none else some (DZ bits):=by
 unfold PK;refine z8 (λhc=>?_)
 rcases h with h|h|h
 ·omega
 ·exact h hc.2.1
 ·exact U8.2 hc.2.2 |>.symm.trans h |> λe=>by cases e
theorem k23{bits:UInt32}(h:(X8 bits 24).toNat<3):DZ bits=ZJ (l5 bits) (8*(3-(X8 bits 24).toNat)):=by unfold DZ;exact j7 h
theorem OF{bits:UInt32}(h:¬ (X8 bits 24).toNat<3):DZ bits=NU (l5 bits) (8*((X8 bits 24).toNat-3)):=by unfold DZ;exact z8 h
theorem TQ{bits:UInt32}{x:Bg}(hg:PK bits=if DZ bits=Y6∨bits&&&8388608≠0 then none else some (DZ bits))(ht:DZ bits=x)(hz:x=Y6):PK bits=none:=by rw[hg,j7 (.inl (ht.trans hz))]
theorem SW{bits:UInt32}(hg:PK bits=if DZ bits=Y6∨bits&&&8388608≠0 then none else some (DZ bits))(h:(bits&&&8388608 != 0)=true):PK bits=none:=by rw[hg,j7 (.inr (U8.1 h))]
theorem SV{bits:UInt32}{x:Bg}(hg:PK bits=if DZ bits=Y6∨bits&&&8388608≠0 then none else some (DZ bits))(ht:DZ bits=x)(hz:¬ x=Y6)(h:(bits&&&8388608 != 0)=false):PK bits=some x:=by
 rw[hg,z8 (λhc=>hc.elim (λe=>hz (ht.symm.trans e)) (λe=>by rw[U8.2 e] at h;cases h)),ht]
theorem BM{bits:UInt32}(h:PK bits=none):RR bits=Y6:=by rw[RR,h];rfl
theorem WC{bits:UInt32}{x:Bg}(h:PK bits=some x):RR bits=x:=by rw[RR,h];rfl
theorem y86{t:Bg}(h:(t==Y6)=true):CJ t=0:=by unfold CJ;exact j7 (eq_of_beq h)
theorem w98{t x:Bg}(h:(t==Y6)=false)(hp:MP t=x)(h2:(8388608:UInt64)<=x[0]!):CJ t=M0 (UInt32.ofInt ((MM t+1:Nat):Int)) 24|||(ZJ x 8)[0]!.toUInt32:=by
 subst hp;unfold CJ;rw[z8 (S6 h),j7 h2]
theorem u01{t x:Bg}(h:(t==Y6)=false)(hp:MP t=x)(h2:¬ (8388608:UInt64)<=x[0]!):CJ t=M0 (UInt32.ofInt ((MM t:Nat):Int)) 24|||x[0]!.toUInt32:=by
 subst hp;unfold CJ;rw[z8 (S6 h),z8 h2]
theorem k70{t:Bg}(h:(NN t+7)/8<3):MP t=NU t (8*(3-(NN t+7)/8)):=by unfold MP MM;exact j7 h
theorem k71{t:Bg}(h:¬ (NN t+7)/8<3):MP t=ZJ t (8*((NN t+7)/8-3)):=by unfold MP MM;exact z8 h
theorem x80(h:Hs):(z73 h).length=4:=by unfold z73;exact JR _
theorem y59{h:Hs}{t:Bg}(hz:t=Y6):PT h t=false:=by unfold PT;rw[hz];rfl
theorem y58{h:Hs}{t:Bg}(hz:¬ t=Y6):PT h t=!DW t (z73 h):=by unfold PT;rw[U8.2 hz,H4]
section
open Go.Proofs
theorem JK(a:Bg)(i:Nat)(ha:a.length=4)(hi0:i<=1000000):Fn Tryz.prog gl 167 [QM a,.int ((i:Nat):Int)] (.int ((M4 a i:Nat):Int)):=by
 refine Fo 21 Tryz.func167 O λC hC hD=>?_;refine n5 2 [] (V2 0 1) Zt O (⟨O,_,R.box (gV 0 O) O O nU,⟨O,_,J9 (kI 0 O) O nU,tW (V2 1 2) (B2 2) 21 O ?_⟩⟩);refine W.seq (j70 6 (y6 5 6 7 8 9 10) (V3 1 2 10) ⟨xM O,aU<|GV 0 O,xM O,aN O (dF (g9 _))<|zV O,aN O (dF (g9 _)) λ_ _ H K=>y99 (i) (256) (eU K 8 O) (kI 256 O) H,aU<|zF O (dF (g9 _)),Zt⟩ ?_);refine g7 O (λhc10=>?_) (λhc10=>?_)
 ·refine u4 1 (y1 4) (V1 4) ⟨O3 0 O,Zt⟩ ?_;exact W.ret (En O (by rw[M4,j7 hc10]))
 ·refine W.skip (u4 11 (g80 11 12 13 14 15 16 17 18 19 20 4) (V1 4) ⟨zV O,λ_ _ H K=>YU (i) (64) (eU K 11 O) (kI 64 O) bU bU H,q43 ((i/64)) O,λ_ B H K=>R.ldP (K 13 _ O) (B 2 _ O) (H5 (mG a) Q2 bU) O O O H,zV O,λ_ _ H K=>KH (i) (64) (eU K 15 O) (kI 64 O) bU H,zW O,λ_ _ H K=>O1 (d:=.u64 (R7 a[i/64]! (i%64))) (eU K 14 O) (eU K 17 O) O bV (g6 D.u64 (x06 _ _ bO)) H,ZP O (kW (.int .u64 1) (.u64 1) O),λ_ _ H K=>W5 (d:=.int (((R7 a[i/64]! (i%64)&&&1).toNat:Nat):Int)) (eU K 19 O) O (u53 _) H,zA O,Zt⟩ ?_);exact W.ret (En O (by rw[M4,z8 hc10]))
theorem v48(a:Bg)(i:Int)(hn:i<0)(hi0:-1000000<=i):Fn Tryz.prog gl 167 [QM a,.int i] (.int ((0:Nat):Int)):=by
 refine Fo 21 Tryz.func167 O λC hC hD=>?_;refine n5 2 [] (V2 0 1) Zt O (⟨O,_,R.box (gV 0 O) O O nU,⟨O,_,J9 (kI 0 O) O nU,tW (V2 1 2) (B2 2) 21 O ?_⟩⟩);refine W.seq (j70 6 [.y 5 _,.y 6 _,.y 7 _,.x 8,.x 9,.y 10 _] (V3 1 2 10) ⟨xM O,aU<|ZP O (kI 0 O),xM O,R3 O (dT hn),R3 O (dT hn),aU<|EW O (dT hn) (kB true O),Zt⟩ ?_);refine G6 O (O) ?_;refine u4 1 (y1 4) (V1 4) ⟨O3 0 O,Zt⟩ ?_;exact W.ret (Eo O)
theorem YZ(l:List Nat)(hl0:l.length<=1000000):Fn Tryz.prog gl 168 [.sl none 1 (l.map f8)] (QM (YO l)):=by
 refine Fo 33 Tryz.func168 O λC hC hD=>?_;refine n5 1 [] (V1 0) Zt O (I9 O (tW (V2 0 2) (B2 2) 33 O ?_));refine n5 1 [] (V2 0 2) Zt O (I9 O (tW (V3 0 2 3) (B7 3 2) 33 O ?_));refine W.seq (u4 1 (y1 4) (V4 0 2 3 4) ⟨O3 0 O,Zt⟩ ?_);refine W.block ?_;refine W.loop (α:={q__:Nat//q__<=l.length/\q__<=256}) (λq__=>⟨33,[(0,.sl none 1 (l.map f8)),(2,.ptr 2 0 []),(3,.ptr 3 0 []),(4,.int ((q__.1:Nat):Int))],[(3,.var (QM (JH l q__.1))),(2,.var (QM Y6))]⟩) (λq__=>256-q__.1) ⟨(0),⟨v6 _,v6 _⟩⟩ O ?_;rintro ⟨i,⟨hi,hi2⟩⟩;show W _ _ _ _ ⟨33,[(0,.sl none 1 (l.map f8)),(2,.ptr 2 0 []),(3,.ptr 3 0 []),(4,.int ((i:Nat):Int))],[(3,.var (QM (JH l i))),(2,.var (QM Y6))]⟩;have hi:i<=l.length:=hi;have hi2:i<=256:=hi2;have hfl:=TB l i;refine W.seq (W.seq ?_);by_cases hs:i<l.length
 ·refine N0 8 (y8 5 6 7 8 9 10 11 12) (V5 0 2 3 4 12) ⟨xM O,xM O,aU<|P8 O,aU<|zS O,xM O,aT O (dT hs)<|zV O,aT O (dT hs)<|GV 256 O,aU<|zT O (dT hs),Zt⟩ ?_;refine g7 O (λhc12=>?_) (λhc12=>?_)
  ·refine W.skip (W.seq (W.block (u4 5 (y5 15 16 17 18 19) (V5 0 2 3 4 19) ⟨zV O,zV O,zI i O,zL O (mG l),GZ 1 O,Zt⟩ ?_)));refine g7 O (λhc19=>?_) (λhc19=>?_)
   ·refine L8 13 (u51 20 21 22 23 24 25 26 27 28 29 30 31) (V6 0 2 3 4 30 31) ⟨zV O,λ_ _ H K=>YU (i) (64) (eU K 20 O) (kI 64 O) bU bU H,zV O,λ_ _ H K=>YU (i) (64) (eU K 22 O) (kI 64 O) bU bU H,q43 ((i/64)) O,λ_ B H K=>R.ldP (K 24 _ O) (B 3 _ O) (H5 (mG (JH l i)) Q2 bU) O O O H,zV O,λ_ _ H K=>KH (i) (64) (eU K 26 O) (kI 64 O) bU H,zW O,λ_ _ H K=>O1 (d:=.u64 (KL 1 (i%64))) (kW (.int .u64 1) (.u64 1) O) (eU K 28 O) O bV (g6 D.u64 (x08 _ _ bO)) H,zB O,q43 ((i/64)) O,Zt⟩ O (⟨O,_,ZV (gU 31 O) (xU 3 O) (H5 (mG (JH l i)) Q2 bU) (gV 30 O) (by rfl) (by rfl) (by rfl) (by rfl) (JV (mG (JH l i)) L0 L3),tW (V4 0 2 3 4) (B7 3 2) 33 O ?_⟩);refine n4 3 (y3 13 14 4) (V4 0 2 3 4) ⟨zV O,P1 1 O,zA O,Zt⟩ ?_;exact⟨⟨(i+1),⟨by omega,by omega⟩⟩,(by first|(rw[k64 hc19]<;>rfl)|(rw[k65 hc19]<;>rfl)),(by simp only[];omega)⟩
   ·refine W.skip ?_;refine n4 3 (y3 13 14 4) (V4 0 2 3 4) ⟨zV O,P1 1 O,zA O,Zt⟩ ?_;exact⟨⟨(i+1),⟨by omega,by omega⟩⟩,(by first|(rw[k64 hc19]<;>rfl)|(rw[k65 hc19]<;>rfl)),(by simp only[];omega)⟩
  ·refine W.exit (n5 2 (y1 32) (V2 2 32) ⟨xL O,Zt⟩ O (M9 O (tW (V1 2) (B7 3 2) 33 O ?_)));exact W.ret (En O (by rw[YO,show min l.length 256=i by omega]) (iL 217 4))
 ·refine N0 8 [.y 5 _,.y 6 _,.y 7 _,.y 8 _,.y 9 _,.x 10,.x 11,.y 12 _] (V5 0 2 3 4 12) ⟨xM O,xM O,aU<|P8 O,aU<|zS O,xM O,O5 O (dF hs),O5 O (dF hs),aU<|FQ O (dF hs) (kB false O),Zt⟩ ?_;refine Y7 O (O) ?_;refine W.exit (n5 2 (y1 32) (V2 2 32) ⟨xL O,Zt⟩ O (M9 O (tW (V1 2) (B7 3 2) 33 O ?_)));exact W.ret (En O (by rw[YO,show min l.length 256=i by omega]) (iL 217 4))
theorem y94(n:UInt64):Fn Tryz.prog gl 152 [.u64 n] (QM [n,0,0,0]):=by
 refine Fo 5 Tryz.func152 O λC hC hD=>?_;refine n5 1 [] (V1 0) Zt O (I9 O (tW (V2 0 2) (B2 2) 5 O ?_));refine n5 3 (y2 3 4) (V2 2 4) ⟨zV O,λ_ _ H K=>R.bldAP (z:=1) (l2:=([n,0,0,0].map D.u64)) (.cons (eU K 3 O) (.nil O)) ⟨⟨_,(eU K 3 O),O,O,O,O⟩,Zt⟩ (O) H,Zt⟩ O (M9 O (tW (V1 2) (B2 2) 5 O ?_));exact W.ret (Eo O (iL 217 4))
end
section
open Go.Proofs
theorem v49(a b:Bg)(ha:a.length=4)(hlb:b.length=4):Fn Tryz.prog gl 166 [QM a,QM b] (.tup [QM (SK a b),.bool (j65 a b)]):=by
 refine Fo 34 Tryz.func166 O λC hC hD=>?_;refine n5 4 [] (V2 0 1) Zt O (⟨O,_,R.box (gV 0 O) O O nU,⟨O,_,R.box (gV 1 O) O O nU,(I9 O ⟨O,_,J9 (kB false O) O nU,tW (V3 2 3 4) (i5 4 3 2) 34 O ?_⟩)⟩⟩);refine u4 1 (y1 6) (V4 2 3 4 6) ⟨i6 O,Zt⟩ ?_;refine u4 1 (y1 7) (V5 2 3 4 6 7) ⟨O3 0 O,Zt⟩ ?_;refine W.seq (u4 1 (y1 8) (V6 2 3 4 6 7 8) ⟨O3 0 O,Zt⟩ ?_);refine W.block ?_;refine O6 (s:=6) 3 1 O ?_;refine P2 256 (λi=>⟨34,[(2,.ptr 2 0 []),(3,.ptr 3 0 []),(4,.ptr 4 0 []),(6,.sl (some 3) 1 ((AK a b i).map f8)),(7,.int ((AZ a b i:Nat):Int)),(8,.int ((i:Nat):Int))],[(4,.var (QM Y6)),(3,.var (QM b)),(2,.var (QM a))]⟩) O λi hi=>?_;have h1:=UQ a i;have h2:=UQ b i;have h3:=u10 a b i;have hll:=VK a b i;refine W.seq (u4 2 (y2 10 11) (V7 2 3 4 6 7 8 11) ⟨zV O,GV 256 O,Zt⟩ ?_);refine g7 O (λhc11=>?_) (λhc11=>?_)
 ·refine W.skip (W.seq (W.block (W.seq ?_)));refine R5 10 [0,0,3,0,0,31,63,0,255,511] hP dU (VU 14 15 16 17 18 19 20 21 22 9) (V6 2 3 4 6 8 9) ⟨xL O,zV O,zD hC (JK a i ha bO) O (F1 (.int _)),xL O,zV O,zD hC (JK b i hlb bO) O (F1 (.int _)),zP O,zV O,zP O,zA O,Zt⟩ O (tW (V6 2 3 4 6 8 9) (i5 4 3 2) 34 O ?_);refine P4 6 (y6 23 24 25 26 27 6) [(4,6),(5,27),(5,23)] [(4,6),(5,27)] (V6 2 3 4 6 8 9) ⟨aU<|zM O,xM O,aU λ_ _ H K=>KH (((M4 a i+M4 b i)+AZ a b i)) (2) (eU K 24 O) (kI 2 O) bU H,aU λ_ _ H K=>J3 (z:=1) (.cons (eU K 25 O) .nil) ⟨⟨O,O,O⟩,Zt⟩ O H dU,aU<|YC O (G5 O) (show _=((AK a b (i+1)).map f8) from(by rw[AK,d8];rfl)) bU,aU<|zO O,Zt⟩ O (tU O ?_);refine n4 3 (y3 28 29 7) (V6 2 3 4 6 7 8) ⟨zV O,λ_ _ H K=>YU (((M4 a i+M4 b i)+AZ a b i)) (2) (eU K 28 O) (kI 2 O) bU bU H,zA O,Zt⟩ ?_;refine n4 3 (y3 12 13 8) (V6 2 3 4 6 7 8) ⟨zV O,P1 1 O,zA O,Zt⟩ ?_;exact⟨bU,rfl⟩
 ·obtain rfl:i=256:=by omega
  refine W.exit (n5 6 (y4 30 31 32 33) (V3 4 31 33) ⟨zM O,λ_ _ H K=>Z7 hC (YZ (AK a b 256) (by rw[VK];decide)) (Bc (Bor.sc (SC.al (K 30 _ O) (K 6 _ O)) (J6 (λ_=>rfl))) Bn) (F1 (O8 _)) H,zV O,GZ 1 O,Zt⟩ O (M9 O (GK O (tW (V2 4 5) (i5 4 3 2) 34 O ?_))));exact W.ret (Ends.many (.inr O) (.cons O O O (iL 217 4) (.cons O O O Zt .nil)) (by unfold SK j65;rfl) (show[(4,false),(5,true)].Nodup by decide))
theorem k75(a b:Bg)(ha:a.length=4)(hlb:b.length=4):Fn Tryz.prog gl 170 [QM a,QM b] (.tup [QM (j64 a b),.bool (decide (KO a b 256=1))]):=by
 refine Fo 35 Tryz.func170 O λC hC hD=>?_;refine n5 4 [] (V2 0 1) Zt O (⟨O,_,R.box (gV 0 O) O O nU,⟨O,_,R.box (gV 1 O) O O nU,(I9 O ⟨O,_,J9 (kB false O) O nU,tW (V3 2 3 4) (i5 4 3 2) 35 O ?_⟩)⟩⟩);refine u4 1 (y1 6) (V4 2 3 4 6) ⟨i6 O,Zt⟩ ?_;refine u4 1 (y1 7) (V5 2 3 4 6 7) ⟨O3 0 O,Zt⟩ ?_;refine W.seq (u4 1 (y1 8) (V6 2 3 4 6 7 8) ⟨O3 0 O,Zt⟩ ?_);refine W.block ?_;refine O6 (s:=6) 3 1 O ?_;refine P2 256 (λi=>⟨35,[(2,.ptr 2 0 []),(3,.ptr 3 0 []),(4,.ptr 4 0 []),(6,.sl (some 3) 1 ((YA a b i).map f8)),(7,.int ((KO a b i:Nat):Int)),(8,.int ((i:Nat):Int))],[(4,.var (QM Y6)),(3,.var (QM b)),(2,.var (QM a))]⟩) O λi hi=>?_;have h1:=UQ a i;have h2:=UQ b i;have h3:=z41 a b i;have hll:=VQ a b i;refine W.seq (u4 2 (y2 10 11) (V7 2 3 4 6 7 8 11) ⟨zV O,GV 256 O,Zt⟩ ?_);refine g7 O (λhc11=>?_) (λhc11=>?_)
 ·refine W.skip (W.seq (W.block (W.seq ?_)));refine R5 10 [0,0,3,0,0,31,63,0,255,511] hP dU (VU 14 15 16 17 18 19 20 21 22 9) (V6 2 3 4 6 8 9) ⟨xL O,zV O,zD hC (JK a i ha bO) O (F1 (.int _)),xL O,zV O,zD hC (JK b i hlb bO) O (F1 (.int _)),λ_ _ H K=>O1 (d:=.int (((M4 a i:Nat):Int)-((M4 b i:Nat):Int))) (eU K 16 O) (eU K 19 O) O Zt (XX bO bO bO) H,zV O,λ_ _ H K=>O1 (d:=.int (((M4 a i:Nat):Int)-((M4 b i:Nat):Int)-((KO a b i:Nat):Int))) (eU K 20 O) (eU K 21 O) O Zt (XX bO bO bO) H,zA O,Zt⟩ O (tW (V6 2 3 4 6 8 9) (i5 4 3 2) 35 O ?_);refine u4 1 (y1 7) (V7 2 3 4 6 7 8 9) ⟨O3 0 O,Zt⟩ ?_;refine W.seq (u4 2 (y2 23 24) (V8 2 3 4 6 7 8 9 24) ⟨zV O,ZP O (kI 0 O),Zt⟩ ?_);refine W.cond O (λhc24=>?_) (λhc24=>?_)
  ·refine u4 3 (y3 25 26 9) (V6 2 3 4 6 8 9) ⟨zV O,λ_ _ H K=>O1 (d:=.int (((M4 a i:Nat):Int)-((M4 b i:Nat):Int)-((KO a b i:Nat):Int)+2)) (eU K 25 O) (kI 2 O) O Zt (XX bO bO bO) H,zA O,Zt⟩ ?_;refine n4 1 (y1 7) (V7 2 3 4 6 7 8 9) ⟨O3 1 O,Zt⟩ ?_;refine UZ 5 (y5 27 28 29 30 6) [(3,6),(4,30),(4,27)] [(3,6),(4,30)] (V6 2 3 4 6 7 8) ⟨aU<|zM O,xM O,aU λ_ _ H K=>J3 (z:=1) (.cons (eU K 28 O) .nil) ⟨⟨O,O,O⟩,Zt⟩ O H dU,aU<|YC O (G5 O) (show _=((YA a b (i+1)).map f8) from(by first|exact x00 (v7 hc24)|exact x01 (d6 hc24))) bU,aU<|zO O,Zt⟩ O (tU O ?_);refine n4 3 (y3 12 13 8) (V6 2 3 4 6 7 8) ⟨zV O,P1 1 O,zA O,Zt⟩ ?_;exact⟨bU,(by first|(rw[j98 (v7 hc24)]<;>rfl)|(rw[j99 (d6 hc24)]<;>rfl))⟩
  ·refine W.skip ?_;refine UZ 5 (y5 27 28 29 30 6) [(3,6),(4,30),(4,27)] [(3,6),(4,30)] (V6 2 3 4 6 7 8) ⟨aU<|zM O,xM O,aU λ_ _ H K=>J3 (z:=1) (.cons (eU K 28 O) .nil) ⟨⟨O,O,O⟩,Zt⟩ O H dU,aU<|YC O (G5 O) (show _=((YA a b (i+1)).map f8) from(by first|exact x00 (v7 hc24)|exact x01 (d6 hc24))) bU,aU<|zO O,Zt⟩ O (tU O ?_);refine n4 3 (y3 12 13 8) (V6 2 3 4 6 7 8) ⟨zV O,P1 1 O,zA O,Zt⟩ ?_;exact⟨bU,(by first|(rw[j98 (v7 hc24)]<;>rfl)|(rw[j99 (d6 hc24)]<;>rfl))⟩
 ·obtain rfl:i=256:=by omega
  refine W.exit (n5 6 (y4 31 32 33 34) (V3 4 32 34) ⟨zM O,λ_ _ H K=>Z7 hC (YZ (YA a b 256) (by rw[VQ];decide)) (Bc (Bor.sc (SC.al (K 31 _ O) (K 6 _ O)) (J6 (λ_=>rfl))) Bn) (F1 (O8 _)) H,zV O,GZ 1 O,Zt⟩ O (M9 O (GK O (tW (V2 4 5) (i5 4 3 2) 35 O ?_))));exact W.ret (Ends.many (.inr O) (.cons O O O (iL 217 4) (.cons O O O Zt .nil)) (by unfold j64;rfl) (show[(4,false),(5,true)].Nodup by decide))
theorem k02(a:Bg)(n:Nat)(ha:a.length=4)(hn:n<=100000):Fn Tryz.prog gl 154 [QM a,.int ((n:Nat):Int)] (QM (NU a n)):=by
 refine Fo 29 Tryz.func154 O λC hC hD=>?_;refine n5 2 [] (V2 0 1) Zt O (⟨O,_,R.box (gV 0 O) O O nU,(I9 O (tW (V3 1 2 4) (B7 4 2) 29 O ?_))⟩);refine W.seq (u4 2 (y2 7 8) (V4 1 2 4 8) ⟨zV O,λ_ _ H K=>RZ (n) (0) (eU K 7 O) (kI 0 O) H,Zt⟩ ?_);refine g7 O (λhc8=>?_) (λhc8=>?_)
 ·refine n5 2 (y1 9) (V2 4 9) ⟨xL O,Zt⟩ O (M9 O (tW (V1 4) (B7 4 2) 29 O ?_));refine W.ret ?_;exact Ends.one' (.inr rfl) rfl (by obtain rfl:n=0:=bO;rw[g16]) rfl rfl (iL 217 4)
 ·refine W.skip (u4 1 (y1 5) (V4 1 2 4 5) ⟨i6 O,Zt⟩ ?_);refine W.seq (u4 1 (y1 6) (V5 1 2 4 5 6) ⟨O3 0 O,Zt⟩ ?_);refine W.block ?_;refine O6 (s:=5) 3 1 O ?_;refine P2 256 (λi=>⟨29,[(1,.int ((n:Nat):Int)),(2,.ptr 2 0 []),(4,.ptr 4 0 []),(5,.sl (some 3) 1 ((k20 a n i).map f8)),(6,.int ((i:Nat):Int))],[(4,.var (QM Y6)),(2,.var (QM a))]⟩) O λi hi=>?_;have hll:=k19 a n i;refine W.seq (u4 2 (y2 10 11) (V6 1 2 4 5 6 11) ⟨zV O,GV 256 O,Zt⟩ ?_);refine g7 O (λhc11=>?_) (λhc11=>?_)
  ·refine W.skip (W.seq (W.block (u4 2 (y2 14 15) (V6 1 2 4 5 6 15) ⟨zV O,OE 256 O,Zt⟩ ?_)));refine g7 O (λhc15=>?_) (λhc15=>?_)
   ·refine UZ 4 (y4 16 17 18 5) [(2,5),(3,18),(3,16)] [(2,5),(3,18)] (V5 1 2 4 5 6) ⟨aU<|zM O,aU λ_ _ H _=>J3 (z:=1) (.cons (kI 0 O) .nil) ⟨⟨O,O,O⟩,Zt⟩ O H dU,aU<|YC O (G5 O) (show _=((k20 a n (i+1)).map f8) from(z57 (j7 (.inl hc15)))) bU,aU<|zO O,Zt⟩ O (tU O ?_);refine n4 3 (y3 12 13 6) (V5 1 2 4 5 6) ⟨zV O,P1 1 O,zA O,Zt⟩ ?_;exact⟨bU,rfl⟩
   ·by_cases hin:i<n
    ·refine UZ 9 (y9 19 20 21 22 23 24 25 26 5) [(7,5),(8,26),(8,19)] [(7,5),(8,26)] (V5 1 2 4 5 6) ⟨aU<|zM O,aU (xL O),xM O,xM O,aU λ_ _ H K=>O1 (d:=.int (((i:Nat):Int)-((n:Nat):Int))) (eU K 21 O) (eU K 22 O) O Zt (XX bO bO bO) H,aU<|zD hC (v48 a (((i:Nat):Int)-((n:Nat):Int)) bO bO) O (F1 (.int _)),aU λ_ _ H K=>J3 (z:=1) (.cons (eU K 24 O) .nil) ⟨⟨O,O,O⟩,Zt⟩ O H dU,aU<|YC O (G5 O) (show _=((k20 a n (i+1)).map f8) from(z57 (j7 (.inr hin)))) bU,aU<|zO O,Zt⟩ O (tU O ?_);refine n4 3 (y3 12 13 6) (V5 1 2 4 5 6) ⟨zV O,P1 1 O,zA O,Zt⟩ ?_;exact⟨bU,rfl⟩
    ·refine UZ 9 (y9 19 20 21 22 23 24 25 26 5) [(7,5),(8,26),(8,19)] [(7,5),(8,26)] (V5 1 2 4 5 6) ⟨aU<|zM O,aU (xL O),xM O,xM O,aU<|zQ O,aU<|zD hC (JK a (i-n) ha bO) O (F1 (.int _)),aU λ_ _ H K=>J3 (z:=1) (.cons (eU K 24 O) .nil) ⟨⟨O,O,O⟩,Zt⟩ O H dU,aU<|YC O (G5 O) (show _=((k20 a n (i+1)).map f8) from(z57 (z8 bO))) bU,aU<|zO O,Zt⟩ O (tU O ?_);refine n4 3 (y3 12 13 6) (V5 1 2 4 5 6) ⟨zV O,P1 1 O,zA O,Zt⟩ ?_;exact⟨bU,rfl⟩
  ·obtain rfl:i=256:=by omega
   refine W.exit (n5 3 (y2 27 28) (V2 4 28) ⟨zM O,λ_ _ H K=>Z7 hC (YZ (k20 a n 256) (by rw[k19];decide)) (Bc (Bor.sc (SC.al (K 27 _ O) (K 5 _ O)) (J6 (λ_=>rfl))) Bn) (F1 (O8 _)) H,Zt⟩ O (M9 O (tW (V1 4) (B7 4 2) 29 O ?_)));exact W.ret (En O (by rw[g15 hc8]) (iL 217 4))
theorem MR(a:Bg)(n:Nat)(ha:a.length=4)(hn:n<=100000):Fn Tryz.prog gl 153 [QM a,.int ((n:Nat):Int)] (QM (ZJ a n)):=by
 refine Fo 29 Tryz.func153 O λC hC hD=>?_;refine n5 2 [] (V2 0 1) Zt O (⟨O,_,R.box (gV 0 O) O O nU,(I9 O (tW (V3 1 2 4) (B7 4 2) 29 O ?_))⟩);refine W.seq (u4 2 (y2 7 8) (V4 1 2 4 8) ⟨zV O,λ_ _ H K=>RZ (n) (0) (eU K 7 O) (kI 0 O) H,Zt⟩ ?_);refine g7 O (λhc8=>?_) (λhc8=>?_)
 ·refine n5 2 (y1 9) (V2 4 9) ⟨xL O,Zt⟩ O (M9 O (tW (V1 4) (B7 4 2) 29 O ?_));refine W.ret ?_;exact Ends.one' (.inr rfl) rfl (by obtain rfl:n=0:=bO;rw[v34]) rfl rfl (iL 217 4)
 ·refine W.skip (u4 1 (y1 5) (V4 1 2 4 5) ⟨i6 O,Zt⟩ ?_);refine W.seq (u4 1 (y1 6) (V5 1 2 4 5 6) ⟨O3 0 O,Zt⟩ ?_);refine W.block ?_;refine O6 (s:=5) 3 1 O ?_;refine P2 256 (λi=>⟨29,[(1,.int ((n:Nat):Int)),(2,.ptr 2 0 []),(4,.ptr 4 0 []),(5,.sl (some 3) 1 ((GI a n i).map f8)),(6,.int ((i:Nat):Int))],[(4,.var (QM Y6)),(2,.var (QM a))]⟩) O λi hi=>?_;have hll:=TE a n i;refine W.seq (u4 2 (y2 10 11) (V6 1 2 4 5 6 11) ⟨zV O,GV 256 O,Zt⟩ ?_);refine g7 O (λhc11=>?_) (λhc11=>?_)
  ·refine W.skip (W.seq (W.block (u4 2 (y2 14 15) (V6 1 2 4 5 6 15) ⟨zV O,OE 256 O,Zt⟩ ?_)));refine g7 O (λhc15=>?_) (λhc15=>?_)
   ·refine UZ 4 (y4 16 17 18 5) [(2,5),(3,18),(3,16)] [(2,5),(3,18)] (V5 1 2 4 5 6) ⟨aU<|zM O,aU λ_ _ H _=>J3 (z:=1) (.cons (kI 0 O) .nil) ⟨⟨O,O,O⟩,Zt⟩ O H dU,aU<|YC O (G5 O) (show _=((GI a n (i+1)).map f8) from(z27 (j7 hc15))) bU,aU<|zO O,Zt⟩ O (tU O ?_);refine n4 3 (y3 12 13 6) (V5 1 2 4 5 6) ⟨zV O,P1 1 O,zA O,Zt⟩ ?_;exact⟨bU,rfl⟩
   ·refine UZ 9 (y9 19 20 21 22 23 24 25 26 5) [(7,5),(8,26),(8,19)] [(7,5),(8,26)] (V5 1 2 4 5 6) ⟨aU<|zM O,aU (xL O),xM O,xM O,aU<|zP O,aU<|zD hC (JK a (i+n) ha bO) O (F1 (.int _)),aU λ_ _ H K=>J3 (z:=1) (.cons (eU K 24 O) .nil) ⟨⟨O,O,O⟩,Zt⟩ O H dU,aU<|YC O (G5 O) (show _=((GI a n (i+1)).map f8) from(z27 (z8 hc15))) bU,aU<|zO O,Zt⟩ O (tU O ?_);refine n4 3 (y3 12 13 6) (V5 1 2 4 5 6) ⟨zV O,P1 1 O,zA O,Zt⟩ ?_;exact⟨bU,rfl⟩
  ·obtain rfl:i=256:=by omega
   refine W.exit (n5 3 (y2 27 28) (V2 4 28) ⟨zM O,λ_ _ H K=>Z7 hC (YZ (GI a n 256) (by rw[TE];decide)) (Bc (Bor.sc (SC.al (K 27 _ O) (K 5 _ O)) (J6 (λ_=>rfl))) Bn) (F1 (O8 _)) H,Zt⟩ O (M9 O (tW (V1 4) (B7 4 2) 29 O ?_)));exact W.ret (En O (by rw[v33 hc8]) (iL 217 4))
theorem v41(h:Hs)(hh:h.length=32):Fn Tryz.prog gl 157 [w7 h] (QM (z73 h)):=by
 refine Fo 24 Tryz.func157 O λC hC hD=>?_;refine n5 2 [] (V1 0) Zt O (⟨O,_,R.box (gV 0 O) O O nU,(I9 O (tW (V2 1 2) (B7 2 1) 24 O ?_))⟩);refine u4 1 (y1 3) (V3 1 2 3) ⟨i6 O,Zt⟩ ?_;refine W.seq (u4 1 (y1 4) (V4 1 2 3 4) ⟨O3 0 O,Zt⟩ ?_);refine W.block ?_;refine O6 (s:=3) 3 1 O ?_;refine P2 256 (λi=>⟨24,[(1,.ptr 1 0 []),(2,.ptr 2 0 []),(3,.sl (some 3) 1 ((WD h i).map f8)),(4,.int ((i:Nat):Int))],[(2,.var (QM Y6)),(1,.var (w7 h))]⟩) O λi hi=>?_;have hll:=q94 h i;refine W.seq (u4 2 (y2 5 6) (V5 1 2 3 4 6) ⟨zV O,GV 256 O,Zt⟩ ?_);refine g7 O (λhc6=>?_) (λhc6=>?_)
 ·refine W.skip (W.seq (W.block ?_));refine UZ 14 (z53 9 10 11 12 13 14 15 16 17 18 19 20 21 3) [(12,3),(13,21),(13,9)] [(12,3),(13,21)] (V4 1 2 3 4) ⟨aU<|zM O,xM O,aU λ_ _ H K=>YU (i) (8) (eU K 10 O) (kI 8 O) bU bU H,aU<|q43 ((i/8)) O,aU λ_ B H K=>R.ldP (K 12 _ O) (B 1 _ O) (H5 (mG h) Q2 bU) O O O H,xM O,aU λ_ _ H K=>KH (i) (8) (eU K 14 O) (kI 8 O) bU H,aU<|zW O,aU λ_ _ H K=>O1 (d:=.u8 (DA h[i/8]! (i%8))) (eU K 13 O) (eU K 16 O) O bV (g6 D.u8 (u77 _ _ bO)) H,aU<|ZP O (kW (.int .u8 1) (.u8 1) O),aU<|zW O,aU λ_ _ H K=>J3 (z:=1) (.cons (eU K 19 O) .nil) ⟨⟨O,O,O⟩,Zt⟩ O H dU,aU<|YC O (G5 O) (show _=((WD h (i+1)).map f8) from(by rw[j29,d8];rfl)) bU,aU<|zO O,Zt⟩ O (tU O ?_);refine n4 3 (y3 7 8 4) (V4 1 2 3 4) ⟨zV O,P1 1 O,zA O,Zt⟩ ?_;exact⟨bU,rfl⟩
 ·obtain rfl:i=256:=by omega
  refine W.exit (n5 3 (y2 22 23) (V2 2 23) ⟨zM O,λ_ _ H K=>Z7 hC (YZ (WD h 256) (by rw[q94];decide)) (Bc (Bor.sc (SC.al (K 22 _ O) (K 3 _ O)) (J6 (λ_=>rfl))) Bn) (F1 (O8 _)) H,Zt⟩ O (M9 O (tW (V1 2) (B7 2 1) 24 O ?_)));exact W.ret (En O (by rw[z73]) (iL 217 4))
theorem IU(a:Bg)(ha:a.length=4):Fn Tryz.prog gl 155 [QM a] (.int ((NN a:Nat):Int)):=by
 refine Fo 16 Tryz.func155 O λC hC hD=>?_;refine n5 2 [] (V1 0) Zt O (⟨O,_,R.box (gV 0 O) O O nU,⟨O,_,J9 (kI 0 O) O nU,tW (V1 1) (B2 1) 16 O ?_⟩⟩);refine u4 1 (y1 3) (V2 1 3) ⟨O3 0 O,Zt⟩ ?_;refine W.seq (u4 1 (y1 4) (V3 1 3 4) ⟨O3 0 O,Zt⟩ ?_);refine W.block ?_;refine P2 256 (λi=>⟨16,[(1,.ptr 1 0 []),(3,.int ((u49 a i:Nat):Int)),(4,.int ((i:Nat):Int))],[(1,.var (QM a))]⟩) O λi hi=>?_;have hnl:=x93 a i;refine W.seq (u4 2 (y2 5 6) (V4 1 3 4 6) ⟨zV O,GV 256 O,Zt⟩ ?_);refine g7 O (λhc6=>?_) (λhc6=>?_)
 ·refine W.skip (W.seq (W.block (u4 4 (y4 9 10 11 12) (V4 1 3 4 12) ⟨xL O,zV O,zD hC (JK a i ha bO) O (F1 (.int _)),GZ 1 O,Zt⟩ ?_)));refine g7 O (λhc12=>?_) (λhc12=>?_)
  ·refine n4 3 (y3 13 14 3) (V3 1 3 4) ⟨zV O,P1 1 O,zA O,Zt⟩ ?_;refine n4 3 (y3 7 8 4) (V3 1 3 4) ⟨zV O,P1 1 O,zA O,Zt⟩ ?_;exact⟨bU,(by first|(rw[v81 hc12]<;>rfl)|(rw[v82 hc12]<;>rfl))⟩
  ·refine W.skip ?_;refine n4 3 (y3 7 8 4) (V3 1 3 4) ⟨zV O,P1 1 O,zA O,Zt⟩ ?_;exact⟨bU,(by first|(rw[v81 hc12]<;>rfl)|(rw[v82 hc12]<;>rfl))⟩
 ·obtain rfl:i=256:=by omega
  refine W.exit (u4 2 (y2 15 2) (V1 2) ⟨zV O,zA O,Zt⟩ ?_);exact W.ret (En O (by rw[NN]))
end
section
open Go.Proofs
theorem JS(a b:Bg):EqV Tryz.prog 2 217 (QM a) (QM b) (a==b):=j75 a b
end
section
open Go.Proofs
theorem LO(a b:Bg)(ha:a.length=4)(hlb:b.length=4):Fn Tryz.prog gl 156 [QM a,QM b] (.bool (DW a b)):=by
 refine Fo 24 Tryz.func156 O λC hC hD=>?_;refine n5 3 [] (V2 0 1) Zt O (⟨O,_,R.box (gV 0 O) O O nU,⟨O,_,R.box (gV 1 O) O O nU,⟨O,_,J9 (kB false O) O nU,tW (V2 2 3) (B7 3 2) 24 O ?_⟩⟩⟩);refine W.seq (u4 1 (y1 5) (V3 2 3 5) ⟨O3 255 O,Zt⟩ ?_);refine W.block ?_;refine UK 256 (λq__=>HR a b (256-q__)=HR a b 256) (λk=>⟨24,[(2,.ptr 2 0 []),(3,.ptr 3 0 []),(5,.int ((255:Int)-((k:Nat):Int)))],[(3,.var (QM b)),(2,.var (QM a))]⟩) ⟨v6 _,by rw[R1]⟩ O λk hinv=>?_;obtain⟨hk,hle⟩:=hinv;have hk:k<=256:=hk;have hle:HR a b (256-k)=HR a b 256:=hle;refine W.seq (u4 2 (y2 6 7) (V4 2 3 5 7) ⟨zV O,ZP O (kI 0 O),Zt⟩ ?_);refine W.cond O (λhc7=>?_) (λhc7=>?_)
 ·refine W.skip (W.seq (W.block (W.seq ?_)));have h7:=v7 hc7;rw[show(255:Int)-((k:Nat):Int)=((255-k:Nat):Int) by omega];refine R5 7 [0,0,3,0,0,31,63] hP dU (y7 10 11 12 13 14 15 16) (V4 2 3 5 16) ⟨xL O,zV O,zD hC (JK a (255-k) ha bO) O (F1 (.int _)),xL O,zV O,zD hC (JK b (255-k) hlb bO) O (F1 (.int _)),g84 O,Zt⟩ O (tW (V4 2 3 5 16) (B7 3 2) 24 O ?_);refine g7 O (λhc16=>?_) (λhc16=>?_)
  ·refine W.seq ?_;refine R5 8 [0,0,3,0,0,31,63,127] hP dU (y8 17 18 19 20 21 22 23 4) (V1 4) ⟨xL O,zV O,zD hC (JK a (255-k) ha bO) O (F1 (.int _)),xL O,zV O,zD hC (JK b (255-k) hlb bO) O (F1 (.int _)),zS O,zA O,Zt⟩ O (tW (V1 4) (B7 3 2) 24 O ?_);exact W.ret (En O (by rw[DW,<- hle,show 256-k=255-k+1 by omega,v07 hc16]))
  ·refine W.skip ?_;refine n4 3 (y3 8 9 5) (V3 2 3 5) ⟨zV O,λ_ _ H K=>O1 (d:=.int ((255:Int)-((k+1:Nat):Int))) (eU K 8 O) (kI 1 O) O Zt (XX bO bO bO) H,zA O,Zt⟩ ?_;exact⟨⟨by omega,by rw[<- hle,show 256-k=255-k+1 by omega,v08 hc16,show 256-(k+1)=255-k by omega]⟩,rfl⟩
 ·have h7:=d6 hc7
  obtain rfl:k=256:=by omega
  refine W.exit (u4 1 (y1 4) (V1 4) ⟨i6 O,Zt⟩ ?_);exact W.ret (En O (by rw[DW,<- hle,N5,HR]))
theorem k79(a:Bg)(n:UInt64)(ha:a.length=4):Fn Tryz.prog gl 165 [QM a,.u64 n] (.tup [QM (KE a n),.u64 (VZ a n)]):=by
 refine Fo 66 Tryz.func165 O λC hC hD=>?_;refine n5 3 [] (V2 0 1) Zt O (⟨O,_,R.box (gV 0 O) O O nU,(I9 O ⟨O,_,J9 (kW (.int .u64 0) (.u64 0) O) O nU,tW (V3 1 2 4) (B7 4 2) 66 O ?_⟩)⟩);refine P4 2 (y2 13 6) [(1,13)] [(1,13)] (V4 1 2 4 6) ⟨aU λ_ _ H _=>R.mk (n:=320) (kI 320 O) (kI 320 O) bU dU H,aU<|zO O,Zt⟩ O (tU O ?_);refine W.seq (u4 1 (y1 7) (V5 1 2 4 6 7) ⟨O3 0 O,Zt⟩ ?_);refine W.block ?_;refine P2 64 (λk=>⟨66,[(1,.u64 n),(2,.ptr 2 0 []),(4,.ptr 4 0 []),(6,.sl (some 3) 1 ((ZF a n k).map f8)),(7,.int ((k:Nat):Int))],[(4,.var (QM Y6)),(2,.var (QM a))]⟩) (by rw[y54,zl];rfl) λk hk=>?_;have hml:=IY a n k;have hmb:=x96 a n k;refine W.seq (u4 2 (y2 14 15) (V6 1 2 4 6 7 15) ⟨zV O,GV 64 O,Zt⟩ ?_);refine g7 O (λhc15=>?_) (λhc15=>?_)
 ·refine W.skip (W.seq (W.block (W.seq (u4 6 (y6 18 19 20 21 22 23) (V6 1 2 4 6 7 23) ⟨zV O,zV O,zW O,λ_ _ H K=>O1 (d:=.u64 (R7 n k)) (eU K 18 O) (eU K 20 O) O bV (g6 D.u64 (x06 _ _ bO)) H,ZP O (kW (.int .u64 1) (.u64 1) O),ZP O (kW (.int .u64 0) (.u64 0) O),Zt⟩ ?_))));refine W.cond O (λhc23=>?_) (λhc23=>?_)
  ·refine W.exit ?_;refine n4 3 (y3 16 17 7) (V5 1 2 4 6 7) ⟨zV O,P1 1 O,zA O,Zt⟩ ?_;exact⟨bU,(by first|(rw[x95 (eq_of_beq hc23)]<;>rfl)|(rw[x94 (S6 hc23)]<;>rfl))⟩
  ·refine W.skip (u4 1 (y1 8) (V6 1 2 4 6 7 8) ⟨O3 0 O,Zt⟩ ?_);refine u4 2 (y2 24 9) (V7 1 2 4 6 7 8 9) ⟨zV O,zA O,Zt⟩ ?_;refine W.block ?_;refine P2 (320-k) (λj=>⟨66,[(1,.u64 n),(2,.ptr 2 0 []),(4,.ptr 4 0 []),(6,.sl (some 3) 1 ((i8 a k (ZF a n k) j).1.map f8)),(7,.int ((k:Nat):Int)),(8,.int (((i8 a k (ZF a n k) j).2:Nat):Int)),(9,.int (((k+j):Nat):Int))],[(4,.var (QM Y6)),(2,.var (QM a))]⟩) (by rw[y53]<;>rfl) λj hj=>?_;have hjl:=TK a k (ZF a n k) j;have hjb:=TJ a k _ hmb j;have hj1:=hjb.1.get (k+j);have hj2:=hjb.2;have hj3:=UQ a j;have hj4:=y52 a k (ZF a n k) j;refine W.seq (u4 2 (y2 25 26) (V8 1 2 4 6 7 8 9 26) ⟨zV O,GV 320 O,Zt⟩ ?_);refine g7 O (λhc26=>?_) (λhc26=>?_)
   ·refine W.skip (W.seq (W.block (W.seq ?_)));refine R5 13 [0,0,3,7,0,0,0,96,240,511,0,2047,4095] hP dU (v96 29 30 31 32 33 34 35 36 37 38 39 40 10) (V7 1 2 4 6 7 9 10) ⟨zM O,zV O,YD ((k+j)) O,XA O (b8 (l:=(i8 a k (ZF a n k) j).1) bU),xL O,zV O,zV O,λ_ _ H K=>O1 (d:=.int ((j:Nat):Int)) (eU K 34 O) (eU K 35 O) O Zt (XX bO bO bO) H,zD hC (JK a j ha bO) O (F1 (.int _)),zP O,zV O,zP O,zA O,Zt⟩ O (tW (V7 1 2 4 6 7 9 10) (B7 4 2) 66 O ?_);refine n5 6 (y5 41 42 43 44 45) (z51 1 2 4 6 7 9 10 41 44 45) ⟨zM O,zV O,zV O,λ_ _ H K=>KH (((((i8 a k (ZF a n k) j).1)[(k+j)]!+M4 a j)+(i8 a k (ZF a n k) j).2)) (2) (eU K 43 O) (kI 2 O) bU H,YD ((k+j)) O,Zt⟩ O (⟨O,_,XS (gU 45 O) (Or.inr (gU 41 O)) (gU 6 O) (b8 (l:=(i8 a k (ZF a n k) j).1) bU) O (gV 44 O) (by rfl) (by rfl) (by rfl) (by rfl) L0 L3,tW (V7 1 2 4 6 7 9 10) (B7 4 2) 66 O ?_⟩);refine n4 3 (y3 46 47 8) (V7 1 2 4 6 7 8 9) ⟨zV O,λ_ _ H K=>YU (((((i8 a k (ZF a n k) j).1)[(k+j)]!+M4 a j)+(i8 a k (ZF a n k) j).2)) (2) (eU K 46 O) (kI 2 O) bU bU H,zA O,Zt⟩ ?_;refine n4 3 (y3 27 28 9) (V7 1 2 4 6 7 8 9) ⟨zV O,P1 1 O,zA O,Zt⟩ ?_;exact⟨bU,(by rw[hj4]<;>rfl)⟩
   ·obtain rfl:j=320-k:=by omega
    refine W.exit ?_;refine n4 3 (y3 16 17 7) (V5 1 2 4 6 7) ⟨zV O,P1 1 O,zA O,Zt⟩ ?_;exact⟨bU,(by first|(rw[x95 (eq_of_beq hc23)]<;>rfl)|(rw[x94 (S6 hc23)]<;>rfl))⟩
 ·obtain rfl:k=64:=by omega
  refine W.exit (u4 1 (y1 11) (V3 4 6 11) ⟨q42 (.u64 0) O,Zt⟩ ?_);refine W.seq (u4 1 (y1 12) (V4 4 6 11 12) ⟨O3 0 O,Zt⟩ ?_);refine W.block ?_;refine P2 64 (λk=>⟨66,[(4,.ptr 4 0 []),(6,.sl (some 3) 1 ((ZF a n 64).map f8)),(11,.u64 (x70 (ZF a n 64) k)),(12,.int ((k:Nat):Int))],[(4,.var (QM Y6)),(2,.var (QM a))]⟩) O λk hk=>?_;have hml:=IY a n 64;refine W.seq (u4 2 (y2 48 49) (V5 4 6 11 12 49) ⟨zV O,GV 64 O,Zt⟩ ?_);refine g7 O (λhc49=>?_) (λhc49=>?_)
  ·refine W.skip (W.seq (W.block ?_));refine n4 12 (u51 52 53 54 55 56 57 58 59 60 61 62 11) (V4 4 6 11 12) ⟨zV O,zM O,zV O,λ_ _ H K=>q41 (256) (k) (kI 256 O) (eU K 54 O) bU H,YD ((256+k)) O,XA O (mG (ZF a n 64)),zW O,zV O,zW O,λ_ _ H K=>O1 (d:=.u64 (KL (UInt64.ofInt (((ZF a n 64)[256+k]!:Nat):Int)) k)) (eU K 58 O) (eU K 60 O) O bV (g6 D.u64 (x08 _ _ bO)) H,zB O,zA O,Zt⟩ ?_;refine n4 3 (y3 50 51 12) (V4 4 6 11 12) ⟨zV O,P1 1 O,zA O,Zt⟩ ?_;exact⟨bU,rfl⟩
  ·obtain rfl:k=64:=by omega
   refine W.exit (n5 5 (y3 63 64 65) (V3 4 64 65) ⟨zM O,λ_ _ H K=>Z7 hC (YZ (ZF a n 64) (by rw[IY];decide)) (Bc (Bor.sc (SC.al (K 63 _ O) (K 6 _ O)) (J6 (λ_=>rfl))) Bn) (F1 (O8 _)) H,zV O,Zt⟩ O (M9 O (GK O (tW (V2 4 5) (B7 4 2) 66 O ?_))));exact W.ret (Ends.many (.inr O) (.cons O O O (iL 217 4) (.cons O O O Zt .nil)) (by rw[KE,VZ]) (show[(4,false),(5,true)].Nodup by decide))
end
section
open Go.Proofs
theorem k84(a b:Bg)(ha:a.length=4)(hlb:b.length=4):Fn Tryz.prog gl 164 [QM a,QM b] (.tup [QM (QN a b),QM (XV a b),.int ((w96 b:Nat):Int)]):=by
 refine Fo 54 Tryz.func164 O λC hC hD=>?_;refine n5 5 [] (V2 0 1) Zt O (⟨O,_,R.box (gV 0 O) O O nU,⟨O,_,R.box (gV 1 O) O O nU,(I9 O (I9 O ⟨O,_,J9 (kI 0 O) O nU,tW (V4 2 3 4 5) (OA 5 4 3 2) 54 O ?_⟩))⟩⟩);refine n5 2 [] (V4 2 3 4 5) Zt O (I9 O (I9 O (tW (V6 2 3 4 5 7 8) (j78 8 7 5 4 3 2) 54 O ?_)));refine W.seq (u4 3 (y3 12 13 14) (V7 2 3 4 5 7 8 14) ⟨xL O,λ_ _ H _=>R.bldAZ O H,λ_ _ H K=>R.eqD (neg:=false) (b':=(b==Y6)) (JS _ _) O (eU K 12 O) (eU K 13 O) O O O O (O) H,Zt⟩ ?_);refine W.cond O (λhc14=>?_) (λhc14=>?_)
 ·refine W.seq ?_;refine QE (m:=3) (an:=[0,0,1,7,15]) (its:=[.y 15 _,.y 16 _,⟨56,.dead,true⟩]) (ks:=[(2,56)]) (kk:=[]) (efs:=[(2,(B2 4))]) (live:=[4,5,16]) (env':=(V3 4 5 16)) (nd:=40) (bx1:=(j78 4 8 7 5 3 2)) hP dU O ⟨⟨64,O⟩,nU O,O,O,O,O⟩ (        ⟨⟨O,nU O,O,λ_ τ hb ht hτ=>R.ldP (hτ 7 _ O) (hb 7 _ O) O O O O ht⟩,⟨⟨O,nU O,O,λ_ τ hb ht hτ=>R.ldP (hτ 8 _ O) (hb 8 _ O) O O O O ht⟩,⟨⟨O,O,O,(YK (p:=4) (id:=4) O O O (λτ hτ=>(evt (hτ 15 _ O))) (by rfl) (by rfl) (by rfl) (by rfl) O)⟩,Zt⟩⟩⟩) O O O (n':=54) O (M9 O ⟨O,_,J9 (kI 1 O) O nU,⟨[4,5,6],(V3 4 5 6),(j78 4 8 7 5 3 2),54,O,O,O, ?_⟩⟩);exact W.ret (Ends.many (.inr O) (.cons O O O (iL 217 4) (.cons O O O (iL 217 4) (.cons O O O Zt .nil))) (by rw[(w93 (a:=a) hc14).1,(w93 (a:=a) hc14).2.1,(w93 (a:=a) hc14).2.2]<;>rfl) (show[(4,false),(5,false),(6,true)].Nodup by decide))
 ·refine W.skip (P4 2 (y2 17 9) [(1,17)] [(1,17)] (V6 2 3 4 5 8 9) ⟨aU λ_ _ H _=>R.mk (n:=256) (kI 256 O) (kI 256 O) bU dU H,aU<|zO O,Zt⟩ O (tU O ?_));refine W.seq (u4 1 (y1 10) (V7 2 3 4 5 8 9 10) ⟨O3 255 O,Zt⟩ ?_);refine W.block ?_;refine W.loop (α:={q__:Nat×List Nat×Bg//q__.1<=256/\ZR a b q__.1=(q__.2.1,q__.2.2)}) (λq__=>⟨54,[(2,.ptr 2 0 []),(3,.ptr 3 0 []),(4,.ptr 4 0 []),(5,.ptr 5 0 []),(8,.ptr 8 0 []),(9,.sl (some 3) 1 (q__.1.2.1.map f8)),(10,.int ((255:Int)-((q__.1.1:Nat):Int)))],[(8,.var (QM q__.1.2.2)),(7,.var (QM Y6)),(5,.var (QM Y6)),(4,.var (QM Y6)),(3,.var (QM b)),(2,.var (QM a))]⟩) (λq__=>256-q__.1.1) ⟨(0,List.replicate 256 0,Y6),⟨v6 _,y85 a b⟩⟩ (by rw[zl];rfl) ?_;rintro ⟨⟨k,q,r⟩,⟨hk,hq⟩⟩;show W _ _ _ _ ⟨54,[(2,.ptr 2 0 []),(3,.ptr 3 0 []),(4,.ptr 4 0 []),(5,.ptr 5 0 []),(8,.ptr 8 0 []),(9,.sl (some 3) 1 (q.map f8)),(10,.int ((255:Int)-((k:Nat):Int)))],[(8,.var (QM r)),(7,.var (QM Y6)),(5,.var (QM Y6)),(4,.var (QM Y6)),(3,.var (QM b)),(2,.var (QM a))]⟩;have hk:k<=256:=hk;have hq:ZR a b k=(q,r):=hq;have hql:=(k68 hq).1;have hr:=(k68 hq).2;have hul:=AB hr 1;refine W.seq (u4 2 (y2 18 19) (V8 2 3 4 5 8 9 10 19) ⟨zV O,ZP O (kI 0 O),Zt⟩ ?_);refine W.cond O (λhc19=>?_) (λhc19=>?_)
  ·refine W.skip (W.seq (W.block (u4 3 (y3 22 23 11) (V8 2 3 4 5 8 9 10 11) ⟨xL O,CM hC (JK r 255 hr bO) O (kI 255 O) (F1 (.int _)),zA O,Zt⟩ ?_)));refine n5 3 (y2 24 25) (V9 2 3 4 5 8 9 10 11 25) ⟨xL O,CM hC (k02 r 1 hr dU) O (kI 1 O) (F1 (O8 _)),Zt⟩ O (M9 O (tW (V8 2 3 4 5 8 9 10 11) (j78 8 7 5 4 3 2) 54 O ?_));refine W.seq ?_;have h7:=v7 hc19;rw[show(255:Int)-((k:Nat):Int)=((255-k:Nat):Int) by omega];refine R5 8 [0,1,0,0,12,28,63,127,255] hP dU (y8 26 27 28 29 30 31 32 33) (z51 2 3 4 5 8 9 10 11 32 33) ⟨λ_ _ H K=>R.idxP (0) (K 8 _ O) (C4 (kI 0 O)) O bU H,λ_ B H K=>R.ldP (K 26 _ O) (B 8 _ O) (H5 (mG (NU r 1)) Q2 bU) O O O H,xL O,zV O,zD hC (JK a (255-k) ha bO) O (F1 (.int _)),zW O,zB O,λ_ _ H K=>R.idxP (0) (K 8 _ O) (C4 (kI 0 O)) O bU H,Zt⟩ O (⟨O,_,ZV (gU 33 O) (xU 8 O) (H5 (mG (NU r 1)) Q2 bU) (gV 32 O) (by rfl) (by rfl) (by rfl) (by rfl) (JV (mG (NU r 1)) L0 L3),tW (V8 2 3 4 5 8 9 10 11) (j78 8 7 5 4 3 2) 54 O ?_⟩);refine W.seq ?_;by_cases h55:M4 r 255=1
   ·refine N0 8 [.y 34 _,.y 35 _,.y 36 _,.x 37,.x 38,.x 39,.x 40,.y 41 _] (V8 2 3 4 5 8 9 10 41) ⟨xM O,aU<|GZ 1 O,xM O,R3 O (dT h55),R3 O (dT h55),R3 O (dT h55),R3 O (dT h55),aU<|EW O (dT h55) (kB true O),Zt⟩ ?_;refine G6 O (O) ?_;refine n5 7 (y6 43 44 45 42 46 47) (V8 2 3 4 5 8 9 10 46) ⟨xL O,xL O,zD hC (k75 (z58 a r (255-k)) b (AN hr _) hlb) O (FrsR.two (O8 _) (.bool _)),zY O,zX O,zX O,Zt⟩ O (M9 O (tW (V7 2 3 4 5 8 9 10) (j78 8 7 5 4 3 2) 54 O ?_));refine L8 4 (y3 48 49 50) (V9 2 3 4 5 8 9 10 48 50) ⟨zM O,zV O,YD ((255-k)) O,Zt⟩ O (⟨O,_,XS (gU 50 O) (Or.inr (gU 48 O)) (gU 9 O) (mG q) O (kI 1 O) (by rfl) (by rfl) (by rfl) (by rfl) L0 L3,tW (V7 2 3 4 5 8 9 10) (j78 8 7 5 4 3 2) 54 O ?_⟩);refine n4 3 (y3 20 21 10) (V7 2 3 4 5 8 9 10) ⟨zV O,λ_ _ H K=>O1 (d:=.int ((255:Int)-((k+1:Nat):Int))) (eU K 20 O) (kI 1 O) O Zt (XX bO bO bO) H,zA O,Zt⟩ ?_;exact⟨⟨(k+1,(ZR a b (k+1)).1,(ZR a b (k+1)).2),⟨by omega,(Prod.eta _).symm⟩⟩,(by first|(simp only[OG hq (.inl h55)];done)|(simp only[OG hq (.inr (by simpa using hc41))];done)|(simp only[k01 hq h55 (by simpa using hc41),QM,z58];done)),(by simp only[];omega)⟩
   ·refine N0 8 (y8 34 35 36 37 38 39 40 41) (V8 2 3 4 5 8 9 10 41) ⟨xM O,aU<|GZ 1 O,xM O,aN O (dF h55) (xL O),aN O (dF h55) (xL O),aN O (dF h55)<|zD hC (LO (z58 a r (255-k)) b (AN hr _) hlb) O (F1 (.bool _)),aN O (dF h55)<|BH O,aU<|zF O (dF h55),Zt⟩ ?_;refine W.cond O (λhc41=>?_) (λhc41=>?_)
    ·refine n5 7 (y6 43 44 45 42 46 47) (V8 2 3 4 5 8 9 10 46) ⟨xL O,xL O,zD hC (k75 (z58 a r (255-k)) b (AN hr _) hlb) O (FrsR.two (O8 _) (.bool _)),zY O,zX O,zX O,Zt⟩ O (M9 O (tW (V7 2 3 4 5 8 9 10) (j78 8 7 5 4 3 2) 54 O ?_));refine L8 4 (y3 48 49 50) (V9 2 3 4 5 8 9 10 48 50) ⟨zM O,zV O,YD ((255-k)) O,Zt⟩ O (⟨O,_,XS (gU 50 O) (Or.inr (gU 48 O)) (gU 9 O) (mG q) O (kI 1 O) (by rfl) (by rfl) (by rfl) (by rfl) L0 L3,tW (V7 2 3 4 5 8 9 10) (j78 8 7 5 4 3 2) 54 O ?_⟩);refine n4 3 (y3 20 21 10) (V7 2 3 4 5 8 9 10) ⟨zV O,λ_ _ H K=>O1 (d:=.int ((255:Int)-((k+1:Nat):Int))) (eU K 20 O) (kI 1 O) O Zt (XX bO bO bO) H,zA O,Zt⟩ ?_;exact⟨⟨(k+1,(ZR a b (k+1)).1,(ZR a b (k+1)).2),⟨by omega,(Prod.eta _).symm⟩⟩,(by first|(simp only[OG hq (.inl h55)];done)|(simp only[OG hq (.inr (by simpa using hc41))];done)|(simp only[k01 hq h55 (by simpa using hc41),QM,z58];done)),(by simp only[];omega)⟩
    ·refine W.skip ?_;refine n4 3 (y3 20 21 10) (V7 2 3 4 5 8 9 10) ⟨zV O,λ_ _ H K=>O1 (d:=.int ((255:Int)-((k+1:Nat):Int))) (eU K 20 O) (kI 1 O) O Zt (XX bO bO bO) H,zA O,Zt⟩ ?_;exact⟨⟨(k+1,(ZR a b (k+1)).1,(ZR a b (k+1)).2),⟨by omega,(Prod.eta _).symm⟩⟩,(by first|(simp only[OG hq (.inl h55)];done)|(simp only[OG hq (.inr (by simpa using hc41))];done)|(simp only[k01 hq h55 (by simpa using hc41),QM,z58];done)),(by simp only[];omega)⟩
  ·have h7:=d6 hc19
   obtain rfl:k=256:=by omega
   refine W.exit (W.seq ?_);refine QE (m:=4) (an:=[0,1,0,3,15,31]) (its:=[.y 51 _,.y 52 _,.y 53 _,⟨57,.dead,true⟩]) (ks:=[(3,57)]) (kk:=[]) (efs:=[(3,(B2 4))]) (live:=[4,5,53]) (env':=(V3 4 5 53)) (nd:=40) (bx1:=(j78 4 8 7 5 3 2)) hP dU O ⟨⟨65,O⟩,nU O,O,O,O,O⟩ (          ⟨⟨O,nU O,O,λ_ τ hb ht hτ=>R.al (hτ 9 _ O) ht dU⟩,⟨⟨O,nU O,O,λ_ τ hb ht hτ=>Z7 hC (YZ q bO) (Bc (Bor.sc (SC.al (hτ 51 _ O) (hτ 9 _ O)) (J6 (λ_=>rfl))) Bn) (F1 (O8 _)) ht⟩,⟨⟨O,nU O,O,λ_ τ hb ht hτ=>R.ldP (hτ 8 _ O) (hb 8 _ O) O O O O ht⟩,⟨⟨O,O,O,(YK (p:=4) (id:=4) O O O (λτ hτ=>(evt (hτ 52 _ O))) (by rfl) (by rfl) (by rfl) (by rfl) O)⟩,Zt⟩⟩⟩⟩) O O O (n':=54) O (M9 O ⟨O,_,J9 (kI 0 O) O nU,⟨[4,5,6],(V3 4 5 6),(j78 4 8 7 5 3 2),54,O,O,O, ?_⟩⟩);exact W.ret (Ends.many (.inr O) (.cons O O O (iL 217 4) (.cons O O O (iL 217 4) (.cons O O O Zt .nil))) (by rw[(w94 hc14 hq).1,(w94 hc14 hq).2.1,(w94 hc14 hq).2.2]<;>rfl) (show[(4,false),(5,false),(6,true)].Nodup by decide))
end
section
open Go.Proofs
theorem z59(bits:UInt32):Fn Tryz.prog gl 128 [.u32 bits] (.tup [QM (RR bits),.bool (PK bits).isSome]):=by
 refine Fo 49 Tryz.func128 O λC hC hD=>?_;have hsz:=x07 bits;have hpl:(l5 bits).length=4:=rfl;have hnb:=x92 (l5 bits);refine n5 2 [] (V1 0) Zt O (I9 O ⟨O,_,J9 (kB false O) O nU,tW (V2 0 2) (B2 2) 49 O ?_⟩);refine u4 4 (y4 7 8 9 4) (V3 0 2 4) ⟨zV O,λ_ _ H K=>O1 (d:=.u32 (X8 bits 24)) (eU K 7 O) (kW (.int .u64 24) (.u64 24) O) O bV (O) H,zW O,zA O,Zt⟩ ?_;refine n5 6 (y4 10 11 12 13) (V4 0 2 4 13) ⟨zV O,ZP O (kW (.int .u32 8388607) (.u32 8388607) O),zW O,zC hC (y94 (bits&&&8388607).toUInt64) O (F1 (O8 _)),Zt⟩ O (I9 O (M9 O (tW (V4 0 2 4 5) (B7 5 2) 49 O ?_)));refine n5 1 [] (V4 0 2 4 5) Zt O (I9 O (tW (V5 0 2 4 5 6) (i5 6 5 2) 49 O ?_));refine W.seq (W.seq ?_);by_cases h3:(X8 bits 24).toNat<3
 ·refine n4 2 (y2 14 15) (V6 0 2 4 5 6 15) ⟨zV O,GV 3 O,Zt⟩ ?_;refine G6 O (dT h3) ?_;refine L8 6 (y5 16 17 18 19 20) (V4 0 2 6 20) ⟨xL O,zV O,λ_ _ H K=>BW (3) ((X8 bits 24).toNat) (kI 3 O) (eU K 17 O) bU bU H,HW 8 O,zD hC (MR (l5 bits) (8*(3-(X8 bits 24).toNat)) O bO) O (F1 (O8 _)),Zt⟩ O (M9 O (tW (V3 0 2 6) (i5 6 5 2) 49 O ?_));refine W.seq (W.seq ?_);by_cases hz:(ZJ (l5 bits) (8*(3-(X8 bits 24).toNat)))=Y6
  ·refine N0 8 [.y 39 _,.y 40 _,.y 41 _,.y 42 _,.x 43,.x 44,.x 45,.y 46 _] (V3 2 6 46) ⟨aU (xL O),aU λ_ _ H _=>R.bldAZ O H,aU λ_ _ H K=>R.eqD (neg:=false) (b':=((ZJ (l5 bits) (8*(3-(X8 bits 24).toNat)))==Y6)) (JS _ _) O (eU K 39 O) (eU K 40 O) O O O O (O) H,xM O,R3 O (d5.2 hz),R3 O (d5.2 hz),R3 O (d5.2 hz),aU<|EW O (d5.2 hz) (kB true O),Zt⟩ ?_;refine G6 O (O) ?_;refine n5 3 (y1 47) (V2 2 47) ⟨λ_ _ H _=>R.bldAZ O H,Zt⟩ O (M9 O ⟨O,_,J9 (kB false O) O nU,tW (V2 2 3) (i5 6 5 2) 49 O ?_⟩);exact W.ret (Ends.many (.inr O) (.cons O O O (iL 217 4) (.cons O O O Zt .nil)) (by rw[BM (TQ (JG (.inl h3)) (k23 h3) hz),TQ (JG (.inl h3)) (k23 h3) hz]<;>rfl) (show[(2,false),(3,true)].Nodup by decide))
  ·refine N0 8 (y8 39 40 41 42 43 44 45 46) (V3 2 6 46) ⟨aU (xL O),aU λ_ _ H _=>R.bldAZ O H,aU λ_ _ H K=>R.eqD (neg:=false) (b':=((ZJ (l5 bits) (8*(3-(X8 bits 24).toNat)))==Y6)) (JS _ _) O (eU K 39 O) (eU K 40 O) O O O O (O) H,xM O,aN O (v9.2 hz)<|zV O,aN O (v9.2 hz)<|ZP O (kW (.int .u32 8388608) (.u32 8388608) O),aN O (v9.2 hz)<|ZP O (kW (.int .u32 0) (.u32 0) O),aU<|zF O (v9.2 hz),Zt⟩ ?_;refine W.cond O (λhc46=>?_) (λhc46=>?_)
   ·refine n5 3 (y1 47) (V2 2 47) ⟨λ_ _ H _=>R.bldAZ O H,Zt⟩ O (M9 O ⟨O,_,J9 (kB false O) O nU,tW (V2 2 3) (i5 6 5 2) 49 O ?_⟩);exact W.ret (Ends.many (.inr O) (.cons O O O (iL 217 4) (.cons O O O Zt .nil)) (by rw[BM (SW (JG (.inl h3)) hc46),SW (JG (.inl h3)) hc46]<;>rfl) (show[(2,false),(3,true)].Nodup by decide))
   ·refine W.skip (n5 3 (y1 48) (V2 2 48) ⟨xL O,Zt⟩ O (M9 O ⟨O,_,J9 (kB true O) O nU,tW (V2 2 3) (i5 6 5 2) 49 O ?_⟩));exact W.ret (Ends.many (.inr O) (.cons O O O (iL 217 4) (.cons O O O Zt .nil)) (by rw[WC (SV (JG (.inl h3)) (k23 h3) hz hc46),SV (JG (.inl h3)) (k23 h3) hz hc46]<;>rfl) (show[(2,false),(3,true)].Nodup by decide))
 ·refine n4 2 (y2 14 15) (V6 0 2 4 5 6 15) ⟨zV O,GV 3 O,Zt⟩ ?_;refine Y7 O (dF h3) ?_;refine n5 6 (y5 21 22 23 24 25) (V6 0 2 4 5 6 25) ⟨xL O,zV O,AD 3 O,HW 8 O,zD hC (k02 (l5 bits) (8*((X8 bits 24).toNat-3)) O bO) O (F1 (O8 _)),Zt⟩ O (M9 O (tW (V5 0 2 4 5 6) (i5 6 5 2) 49 O ?_));refine W.seq ?_;by_cases hb7:256<NN (l5 bits)+8*((X8 bits 24).toNat-3)
  ·refine N0 12 (u51 26 27 28 29 30 31 32 33 34 35 36 37) (V4 0 2 6 37) ⟨aU (xL O),aU<|zC hC (IU (l5 bits) O) O (F1 (.int _)),xM O,aU<|AD 3 O,aU<|HW 8 O,aU<|zP O,aU<|OE 256 O,xM O,aT O (dT hb7) (xL O),aT O (dT hb7) λ_ _ H _=>R.bldAZ O H,aT O (dT hb7) λ_ _ H K=>R.eqD (neg:=true) (b':=((l5 bits) != Y6)) (JS _ _) O (eU K 34 O) (eU K 35 O) O O O O (O) H,aU<|zT O (dT hb7),Zt⟩ ?_;refine W.cond O (λhc37=>?_) (λhc37=>?_)
   ·refine n5 3 (y1 38) (V2 2 38) ⟨λ_ _ H _=>R.bldAZ O H,Zt⟩ O (M9 O ⟨O,_,J9 (kB false O) O nU,tW (V2 2 3) (i5 6 5 2) 49 O ?_⟩);exact W.ret (Ends.many (.inr O) (.cons O O O (iL 217 4) (.cons O O O Zt .nil)) (by rw[BM (x77 h3 hb7 hc37),x77 h3 hb7 hc37]<;>rfl) (show[(2,false),(3,true)].Nodup by decide))
   ·refine W.skip (W.seq (W.seq ?_));by_cases hz:(NU (l5 bits) (8*((X8 bits 24).toNat-3)))=Y6
    ·refine N0 8 [.y 39 _,.y 40 _,.y 41 _,.y 42 _,.x 43,.x 44,.x 45,.y 46 _] (V3 2 6 46) ⟨aU (xL O),aU λ_ _ H _=>R.bldAZ O H,aU λ_ _ H K=>R.eqD (neg:=false) (b':=((NU (l5 bits) (8*((X8 bits 24).toNat-3)))==Y6)) (JS _ _) O (eU K 39 O) (eU K 40 O) O O O O (O) H,xM O,R3 O (d5.2 hz),R3 O (d5.2 hz),R3 O (d5.2 hz),aU<|EW O (d5.2 hz) (kB true O),Zt⟩ ?_;refine G6 O (O) ?_;refine n5 3 (y1 47) (V2 2 47) ⟨λ_ _ H _=>R.bldAZ O H,Zt⟩ O (M9 O ⟨O,_,J9 (kB false O) O nU,tW (V2 2 3) (i5 6 5 2) 49 O ?_⟩);exact W.ret (Ends.many (.inr O) (.cons O O O (iL 217 4) (.cons O O O Zt .nil)) (by rw[BM (TQ (JG (.inr (.inr hc37))) (OF h3) hz),TQ (JG (.inr (.inr hc37))) (OF h3) hz]<;>rfl) (show[(2,false),(3,true)].Nodup by decide))
    ·refine N0 8 (y8 39 40 41 42 43 44 45 46) (V3 2 6 46) ⟨aU (xL O),aU λ_ _ H _=>R.bldAZ O H,aU λ_ _ H K=>R.eqD (neg:=false) (b':=((NU (l5 bits) (8*((X8 bits 24).toNat-3)))==Y6)) (JS _ _) O (eU K 39 O) (eU K 40 O) O O O O (O) H,xM O,aN O (v9.2 hz)<|zV O,aN O (v9.2 hz)<|ZP O (kW (.int .u32 8388608) (.u32 8388608) O),aN O (v9.2 hz)<|ZP O (kW (.int .u32 0) (.u32 0) O),aU<|zF O (v9.2 hz),Zt⟩ ?_;refine W.cond O (λhc46=>?_) (λhc46=>?_)
     ·refine n5 3 (y1 47) (V2 2 47) ⟨λ_ _ H _=>R.bldAZ O H,Zt⟩ O (M9 O ⟨O,_,J9 (kB false O) O nU,tW (V2 2 3) (i5 6 5 2) 49 O ?_⟩);exact W.ret (Ends.many (.inr O) (.cons O O O (iL 217 4) (.cons O O O Zt .nil)) (by rw[BM (SW (JG (.inr (.inr hc37))) hc46),SW (JG (.inr (.inr hc37))) hc46]<;>rfl) (show[(2,false),(3,true)].Nodup by decide))
     ·refine W.skip (n5 3 (y1 48) (V2 2 48) ⟨xL O,Zt⟩ O (M9 O ⟨O,_,J9 (kB true O) O nU,tW (V2 2 3) (i5 6 5 2) 49 O ?_⟩));exact W.ret (Ends.many (.inr O) (.cons O O O (iL 217 4) (.cons O O O Zt .nil)) (by rw[WC (SV (JG (.inr (.inr hc37))) (OF h3) hz hc46),SV (JG (.inr (.inr hc37))) (OF h3) hz hc46]<;>rfl) (show[(2,false),(3,true)].Nodup by decide))
  ·refine N0 12 [.y 26 _,.y 27 _,.y 28 _,.y 29 _,.y 30 _,.y 31 _,.y 32 _,.y 33 _,.x 34,.x 35,.x 36,.y 37 _] (V4 0 2 6 37) ⟨aU (xL O),aU<|zC hC (IU (l5 bits) O) O (F1 (.int _)),xM O,aU<|AD 3 O,aU<|HW 8 O,aU<|zP O,aU<|OE 256 O,xM O,O5 O (dF hb7),O5 O (dF hb7),O5 O (dF hb7),aU<|FQ O (dF hb7) (kB false O),Zt⟩ ?_;refine Y7 O (O) ?_;refine W.skip (W.seq (W.seq ?_));by_cases hz:(NU (l5 bits) (8*((X8 bits 24).toNat-3)))=Y6
   ·refine N0 8 [.y 39 _,.y 40 _,.y 41 _,.y 42 _,.x 43,.x 44,.x 45,.y 46 _] (V3 2 6 46) ⟨aU (xL O),aU λ_ _ H _=>R.bldAZ O H,aU λ_ _ H K=>R.eqD (neg:=false) (b':=((NU (l5 bits) (8*((X8 bits 24).toNat-3)))==Y6)) (JS _ _) O (eU K 39 O) (eU K 40 O) O O O O (O) H,xM O,R3 O (d5.2 hz),R3 O (d5.2 hz),R3 O (d5.2 hz),aU<|EW O (d5.2 hz) (kB true O),Zt⟩ ?_;refine G6 O (O) ?_;refine n5 3 (y1 47) (V2 2 47) ⟨λ_ _ H _=>R.bldAZ O H,Zt⟩ O (M9 O ⟨O,_,J9 (kB false O) O nU,tW (V2 2 3) (i5 6 5 2) 49 O ?_⟩);exact W.ret (Ends.many (.inr O) (.cons O O O (iL 217 4) (.cons O O O Zt .nil)) (by rw[BM (TQ (JG (.inr (.inl hb7))) (OF h3) hz),TQ (JG (.inr (.inl hb7))) (OF h3) hz]<;>rfl) (show[(2,false),(3,true)].Nodup by decide))
   ·refine N0 8 (y8 39 40 41 42 43 44 45 46) (V3 2 6 46) ⟨aU (xL O),aU λ_ _ H _=>R.bldAZ O H,aU λ_ _ H K=>R.eqD (neg:=false) (b':=((NU (l5 bits) (8*((X8 bits 24).toNat-3)))==Y6)) (JS _ _) O (eU K 39 O) (eU K 40 O) O O O O (O) H,xM O,aN O (v9.2 hz)<|zV O,aN O (v9.2 hz)<|ZP O (kW (.int .u32 8388608) (.u32 8388608) O),aN O (v9.2 hz)<|ZP O (kW (.int .u32 0) (.u32 0) O),aU<|zF O (v9.2 hz),Zt⟩ ?_;refine W.cond O (λhc46=>?_) (λhc46=>?_)
    ·refine n5 3 (y1 47) (V2 2 47) ⟨λ_ _ H _=>R.bldAZ O H,Zt⟩ O (M9 O ⟨O,_,J9 (kB false O) O nU,tW (V2 2 3) (i5 6 5 2) 49 O ?_⟩);exact W.ret (Ends.many (.inr O) (.cons O O O (iL 217 4) (.cons O O O Zt .nil)) (by rw[BM (SW (JG (.inr (.inl hb7))) hc46),SW (JG (.inr (.inl hb7))) hc46]<;>rfl) (show[(2,false),(3,true)].Nodup by decide))
    ·refine W.skip (n5 3 (y1 48) (V2 2 48) ⟨xL O,Zt⟩ O (M9 O ⟨O,_,J9 (kB true O) O nU,tW (V2 2 3) (i5 6 5 2) 49 O ?_⟩));exact W.ret (Ends.many (.inr O) (.cons O O O (iL 217 4) (.cons O O O Zt .nil)) (by rw[WC (SV (JG (.inr (.inl hb7))) (OF h3) hz hc46),SV (JG (.inr (.inl hb7))) (OF h3) hz hc46]<;>rfl) (show[(2,false),(3,true)].Nodup by decide))
theorem FY(t:Bg)(htl:t.length=4):Fn Tryz.prog gl 151 [QM t] (.u32 (CJ t)):=by
 refine Fo 38 Tryz.func151 O λC hC hD=>?_;have hnb:=x92 t;refine n5 2 [] (V1 0) Zt O (⟨O,_,R.box (gV 0 O) O O nU,⟨O,_,J9 (kW (.int .u32 0) (.u32 0) O) O nU,tW (V1 1) (B2 1) 38 O ?_⟩⟩);refine W.seq (u4 3 (y3 5 6 7) (V2 1 7) ⟨xL O,λ_ _ H _=>R.bldAZ O H,λ_ _ H K=>R.eqD (neg:=false) (b':=(t==Y6)) (JS _ _) O (eU K 5 O) (eU K 6 O) O O O O (O) H,Zt⟩ ?_);refine W.cond O (λhc7=>?_) (λhc7=>?_)
 ·refine u4 1 (y1 2) (V1 2) ⟨q42 (.u32 0) O,Zt⟩ ?_;exact W.ret (En O (by rw[y86 hc7]))
 ·refine W.skip (u4 5 (y5 8 9 10 11 3) (V2 1 3) ⟨xL O,zC hC (IU t htl) O (F1 (.int _)),P1 7 O,λ_ _ H K=>YU ((NN t+7)) (8) (eU K 10 O) (kI 8 O) bU bU H,zA O,Zt⟩ ?_);refine n5 1 [] (V2 1 3) Zt O (I9 O (tW (V3 1 3 4) (B7 4 1) 38 O ?_));refine W.seq (W.seq ?_);by_cases h3:(NN t+7)/8<3
  ·refine n4 2 (y2 12 13) (V4 1 3 4 13) ⟨zV O,GV 3 O,Zt⟩ ?_;refine G6 O (dT h3) ?_;refine L8 6 (y5 14 15 16 17 18) (V3 3 4 18) ⟨xL O,zV O,λ_ _ H K=>BW (3) (((NN t+7)/8)) (kI 3 O) (eU K 15 O) bU bU H,HW 8 O,zD hC (k02 t (8*(3-(NN t+7)/8)) htl bO) O (F1 (O8 _)),Zt⟩ O (M9 O (tW (V2 3 4) (B7 4 1) 38 O ?_));refine W.seq (W.seq ?_);have hxl:(NU t (8*(3-(NN t+7)/8))).length=4:=AB htl _;refine n4 3 (y3 24 25 26) (V3 3 4 26) ⟨λ_ _ H K=>R.idxP (0) (K 4 _ O) (C4 (kI 0 O)) O bU H,λ_ B H K=>R.ldP (K 24 _ O) (B 4 _ O) (H5 (b8 (l:=(NU t (8*(3-(NN t+7)/8)))) bU) Q2 bU) O O O H,ZP O (kW (.int .u64 8388608) (.u64 8388608) O),Zt⟩ ?_;refine W.cond O (λhc26=>?_) (λhc26=>?_)
   ·refine n5 3 (y2 27 28) (V3 3 4 28) ⟨xL O,CM hC (MR (NU t (8*(3-(NN t+7)/8))) 8 hxl dU) O (kI 8 O) (F1 (O8 _)),Zt⟩ O (M9 O (tW (V2 3 4) (B7 4 1) 38 O ?_));refine n4 3 (y3 29 30 3) (V2 3 4) ⟨zV O,P1 1 O,zA O,Zt⟩ ?_;refine W.seq ?_;have hyl:=UH hxl 8;refine n4 8 (y8 31 32 33 34 35 36 37 2) (V1 2) ⟨zV O,zW O,λ_ _ H K=>R.bin (eU K 32 O) (kW (.int .u64 24) (.u64 24) O) O bV H,λ_ _ H K=>R.idxP (0) (K 4 _ O) (C4 (kI 0 O)) O bU H,λ_ B H K=>R.ldP (K 34 _ O) (B 4 _ O) (H5 (b8 (l:=(ZJ (NU t (8*(3-(NN t+7)/8))) 8)) bU) Q2 bU) O O O H,zW O,zB O,zA O,Zt⟩ ?_;exact W.ret (En O (by rw[w98 hc7 (k70 h3) (v7 hc26)]<;>rfl))
   ·refine W.skip (W.seq ?_);have hyl:=UH hxl 8;refine n4 8 (y8 31 32 33 34 35 36 37 2) (V1 2) ⟨zV O,zW O,λ_ _ H K=>R.bin (eU K 32 O) (kW (.int .u64 24) (.u64 24) O) O bV H,λ_ _ H K=>R.idxP (0) (K 4 _ O) (C4 (kI 0 O)) O bU H,λ_ B H K=>R.ldP (K 34 _ O) (B 4 _ O) (H5 (b8 (l:=(NU t (8*(3-(NN t+7)/8)))) bU) Q2 bU) O O O H,zW O,zB O,zA O,Zt⟩ ?_;exact W.ret (En O (by rw[u01 hc7 (k70 h3) (d6 hc26)]<;>rfl))
  ·refine n4 2 (y2 12 13) (V4 1 3 4 13) ⟨zV O,GV 3 O,Zt⟩ ?_;refine Y7 O (dF h3) ?_;refine L8 6 (y5 19 20 21 22 23) (V3 3 4 23) ⟨xL O,zV O,AD 3 O,HW 8 O,zD hC (MR t (8*((NN t+7)/8-3)) htl bO) O (F1 (O8 _)),Zt⟩ O (M9 O (tW (V2 3 4) (B7 4 1) 38 O ?_));refine W.seq (W.seq ?_);have hxl:(ZJ t (8*((NN t+7)/8-3))).length=4:=UH htl _;refine n4 3 (y3 24 25 26) (V3 3 4 26) ⟨λ_ _ H K=>R.idxP (0) (K 4 _ O) (C4 (kI 0 O)) O bU H,λ_ B H K=>R.ldP (K 24 _ O) (B 4 _ O) (H5 (b8 (l:=(ZJ t (8*((NN t+7)/8-3)))) bU) Q2 bU) O O O H,ZP O (kW (.int .u64 8388608) (.u64 8388608) O),Zt⟩ ?_;refine W.cond O (λhc26=>?_) (λhc26=>?_)
   ·refine n5 3 (y2 27 28) (V3 3 4 28) ⟨xL O,CM hC (MR (ZJ t (8*((NN t+7)/8-3))) 8 hxl dU) O (kI 8 O) (F1 (O8 _)),Zt⟩ O (M9 O (tW (V2 3 4) (B7 4 1) 38 O ?_));refine n4 3 (y3 29 30 3) (V2 3 4) ⟨zV O,P1 1 O,zA O,Zt⟩ ?_;refine W.seq ?_;have hyl:=UH hxl 8;refine n4 8 (y8 31 32 33 34 35 36 37 2) (V1 2) ⟨zV O,zW O,λ_ _ H K=>R.bin (eU K 32 O) (kW (.int .u64 24) (.u64 24) O) O bV H,λ_ _ H K=>R.idxP (0) (K 4 _ O) (C4 (kI 0 O)) O bU H,λ_ B H K=>R.ldP (K 34 _ O) (B 4 _ O) (H5 (b8 (l:=(ZJ (ZJ t (8*((NN t+7)/8-3))) 8)) bU) Q2 bU) O O O H,zW O,zB O,zA O,Zt⟩ ?_;exact W.ret (En O (by rw[w98 hc7 (k71 h3) (v7 hc26)]<;>rfl))
   ·refine W.skip (W.seq ?_);have hyl:=UH hxl 8;refine n4 8 (y8 31 32 33 34 35 36 37 2) (V1 2) ⟨zV O,zW O,λ_ _ H K=>R.bin (eU K 32 O) (kW (.int .u64 24) (.u64 24) O) O bV H,λ_ _ H K=>R.idxP (0) (K 4 _ O) (C4 (kI 0 O)) O bU H,λ_ B H K=>R.ldP (K 34 _ O) (B 4 _ O) (H5 (b8 (l:=(ZJ t (8*((NN t+7)/8-3)))) bU) Q2 bU) O O O H,zW O,zB O,zA O,Zt⟩ ?_;exact W.ret (En O (by rw[u01 hc7 (k71 h3) (d6 hc26)]<;>rfl))
theorem j91(h:Hs)(t:Bg)(hh:h.length=32)(htl:t.length=4):Fn Tryz.prog gl 129 [w7 h,QM t] (.bool (PT h t)):=by
 refine Fo 15 Tryz.func129 O λC hC hD=>?_;refine n5 3 [] (V2 0 1) Zt O (⟨O,_,R.box (gV 0 O) O O nU,⟨O,_,R.box (gV 1 O) O O nU,⟨O,_,J9 (kB false O) O nU,tW (V2 2 3) (B7 3 2) 15 O ?_⟩⟩⟩);refine W.seq ?_;by_cases hz:t=Y6
 ·refine KF 11 [0,0,3,7,15,15,47,127,255,511,1023] hP dU [.y 5 _,.y 6 _,.y 7 _,.y 8 _,.x 9,.x 10,.x 11,.x 12,.x 13,.y 14 _,.y 4 _] [] [] (V1 4) ⟨aU (xL O),aU λ_ _ H _=>R.bldAZ O H,aU λ_ _ H K=>R.eqD (neg:=true) (b':=(t != Y6)) (JS _ _) O (eU K 5 O) (eU K 6 O) O O O O (O) H,xM O,O5 O (by rw[hz];rfl),O5 O (by rw[hz];rfl),O5 O (by rw[hz];rfl),O5 O (by rw[hz];rfl),O5 O (by rw[hz];rfl),aU<|FQ O (by rw[hz];rfl) (kB false O),aU<|zA O,Zt⟩ O (tW (V1 4) (B7 3 2) 15 O ?_);exact W.ret (En O (by rw[y59 hz]))
 ·refine KF 11 [0,0,3,7,15,15,47,127,255,511,1023] hP dU (g80 5 6 7 8 9 10 11 12 13 14 4) [] [] (V1 4) ⟨aU (xL O),aU λ_ _ H _=>R.bldAZ O H,aU λ_ _ H K=>R.eqD (neg:=true) (b':=(t != Y6)) (JS _ _) O (eU K 5 O) (eU K 6 O) O O O O (O) H,xM O,aT O (U8.2 hz) (xL O),aT O (U8.2 hz) (xL O),aT O (U8.2 hz)<|zC hC (v41 h hh) O (F1 (O8 _)),aT O (U8.2 hz)<|zD hC (LO t (z73 h) htl (x80 h)) O (F1 (.bool _)),aT O (U8.2 hz)<|BH O,aU<|zT O (U8.2 hz),aU<|zA O,Zt⟩ O (tW (V1 4) (B7 3 2) 15 O ?_);exact W.ret (En O (by rw[y58 hz]))
end
structure HdS where
 ver:UInt32
 prev:Hs
 root:Hs
 time:UInt32
 bits:UInt32
 nonce:UInt32
 deriving DecidableEq,Inhabited
def M5(h:HdS):D:=.agg [.u32 h.ver,w7 h.prev,w7 h.root,.u32 h.time,.u32 h.bits,.u32 h.nonce]
def HdS.wf(h:HdS):Prop:=h.prev.length=32/\h.root.length=32
def zeroH:HdS:=⟨0,zero32,zero32,0,0,0⟩
def byt(v:UInt32)(i:Nat):UInt8:=(X8 v (8*i)).toUInt8
def HS(v:UInt32):List UInt8:=[byt v 0,byt v 1,byt v 2,byt v 3]
def BU(h:HdS):List UInt8:=HS h.ver++h.prev++h.root++HS h.time++HS h.bits++HS h.nonce
def UO(b:List UInt8)(at_:Nat)(v:UInt32):Nat->List UInt8
 | 0=>b
 | i+1=>(UO b at_ v i).set (at_+i) (byt v i)
theorem KR(b:List UInt8)(at_:Nat)(v:UInt32)(i:Nat):(UO b at_ v i).length=b.length:=by
 induction i with
 | zero=>rfl
 | succ i ih=>simp[UO,ih]
def v92:List UInt8:=List.replicate 80 0
def j13(h:HdS):List UInt8:=UO v92 0 h.ver 4
def z71(h:HdS):List UInt8:=UO (j13 h) 68 h.time 4
def WJ(h:HdS):List UInt8:=UO (z71 h) 72 h.bits 4
def z70(h:HdS):List UInt8:=UO (WJ h) 76 h.nonce 4
def NP(h:HdS):List UInt8:=(z70 h).take 4++h.prev++(z70 h).drop 36
def x60(h:HdS):List UInt8:=(NP h).take 36++h.root++(NP h).drop 68
theorem q81(h:HdS):(j13 h).length=80:=KR _ _ _ _
theorem q80(h:HdS):(z71 h).length=80:=(KR _ _ _ _).trans (q81 h)
theorem FL(h:HdS):(WJ h).length=80:=(KR _ _ _ _).trans (q80 h)
theorem q79(h:HdS):(z70 h).length=80:=(KR _ _ _ _).trans (FL h)
theorem x62(h:HdS)(hw:h.wf):(NP h).length=80:=by simp[NP,q79,hw.1]
theorem TH(h:HdS)(hw:h.wf):(BU h).length=80:=by simp[BU,HS,hw.1,hw.2]
theorem u80(v:UInt32)(p r:List UInt8)(a b c d:UInt8)(at_:Nat)(hp:p.length=at_):UO (p++([a,b,c,d]++r)) at_ v 4=p++(HS v++r):=by
 subst hp;simp only[UO,X7];rw[QZ,z8 (by omega),N5];simp only[E8,I4];rw[QZ,z8 (by omega),show p.length+1-p.length=1 by omega];simp only[List.set_cons_succ,I4];rw[QZ,z8 (by omega),show p.length+2-p.length=2 by omega];simp only[List.set_cons_succ,I4];rw[QZ,z8 (by omega),show p.length+3-p.length=3 by omega];rfl
theorem y44(h:HdS)(hw:h.wf):x60 h=BU h:=by
 have e1:j13 h=HS h.ver++List.replicate 76 0:=u80 h.ver [] (List.replicate 76 0) 0 0 0 0 0 rfl
 have e2:z71 h=(HS h.ver++List.replicate 64 0)++(HS h.time++List.replicate 8 0):=by
  unfold z71;rw[e1,show(List.replicate 76 (0:UInt8))=List.replicate 64 0++([0,0,0,0]++List.replicate 8 0) from rfl,<- w3];exact u80 h.time _ _ 0 0 0 0 68 rfl
 have e3:WJ h=(HS h.ver++List.replicate 64 0++HS h.time)++(HS h.bits++List.replicate 4 0):=by
  unfold WJ;rw[e2,show(List.replicate 8 (0:UInt8))=[0,0,0,0]++List.replicate 4 0 from rfl,<- w3];exact u80 h.bits _ _ 0 0 0 0 72 rfl
 have e4:z70 h=HS h.ver++(List.replicate 64 0++(HS h.time++(HS h.bits++HS h.nonce))):=by
  unfold z70;have:=u80 h.nonce ((HS h.ver++List.replicate 64 0++HS h.time)++HS h.bits) [] 0 0 0 0 76 rfl;rw[e3,show(List.replicate 4 (0:UInt8))=[0,0,0,0]++[] from rfl,<- w3];rw[this];simp only[w3,m4]
 have e5:NP h=HS h.ver++(h.prev++(List.replicate 32 0++(HS h.time++(HS h.bits++HS h.nonce)))):=by
  unfold NP;rw[e4];rw[List.take_left' (show(HS h.ver).length=4 from rfl)];rw[show(36:Nat)=(HS h.ver).length+32 from rfl,<- M7,O2 rfl,show(List.replicate 64 (0:UInt8))=List.replicate 32 0++List.replicate 32 0 from rfl,w3 (List.replicate 32 (0:UInt8)),O2 (show(List.replicate 32 (0:UInt8)).length=32 from rfl),w3]
 unfold x60;rw[e5]
 have h36:(HS h.ver++h.prev).length=36:=by simp[HS,hw.1]
 rw[<- w3 (HS h.ver),List.take_left' h36,show(68:Nat)=36+32 from rfl,<- M7,O2 h36,O2 (show(List.replicate 32 (0:UInt8)).length=32 from rfl)];simp only[BU,w3]
theorem x61(h:HdS)(hw:h.wf):((z70 h).map D.u8).take 4++(((h.prev.map D.u8).drop 0).take 32).take 32++((z70 h).map D.u8).drop (4+32)=(NP h).map D.u8:=by
 have h1:(h.prev.map D.u8).take 32=h.prev.map D.u8:=Q0 (by simp[hw.1]);simp only[J0,Y8,Nat.min_self,h1,NP,d8,U6,l9]
theorem x59(h:HdS)(hw:h.wf):((NP h).map D.u8).take 36++(((h.root.map D.u8).drop 0).take 32).take 32++((NP h).map D.u8).drop (36+32)=(x60 h).map D.u8:=by
 have h1:(h.root.map D.u8).take 32=h.root.map D.u8:=Q0 (by simp[hw.2]);simp only[J0,Y8,Nat.min_self,h1,x60,d8,U6,l9]
theorem k63(h:HdS):Frs (M5 h):=by
 refine .agg _ λx hx=>?_;simp only[w8,E7,or_false] at hx
 rcases hx with rfl|rfl|rfl|rfl|rfl|rfl
 ·exact .u32 _
 ·exact X6 _
 ·exact X6 _
 ·exact .u32 _
 ·exact .u32 _
 ·exact .u32 _
theorem CW(h:HdS):(M5 h).brw=M5 h:=by
 simp only[M5,D.brw,KC,W3]
def RW(h:HdS):Hs:=DB (BU h)
def allW(l:List HdS):Prop:=∀ h∈l,h.wf
theorem allW.get{l:List HdS}(h:allW l){i:Nat}(hi:i<l.length):l[i]!.wf:=by
 rw[b9 l i hi];exact h _ (d7 hi)
theorem y68(v:UInt32):[D.u8 v.toUInt8,.u8 (X8 v 8).toUInt8,.u8 (X8 v 16).toUInt8,.u8 (X8 v 24).toUInt8]=(HS v).map D.u8:=by
 have:X8 v 0=v:=by unfold X8;simp
 simp only[HS,byt,d9,Z8,Nat.mul_zero,this]
theorem z45(a b:List UInt8)(n:Nat)(h:b.length=n):a.map D.u8++((b.map D.u8).drop 0).take n=(a++b).map D.u8:=by
 rw[J0,Q0 (by simp[h]),d8]
def ZB(h:HdS):Hs:=DP (BU h)
theorem h02:ZB=RW:=by funext h;exact(VA _).symm
section
open Go.Proofs
theorem EG(v:UInt32):Fn Tryz.prog gl 159 [.u32 v] (.sl (some 5) 1 ((HS v).map D.u8)):=by
 refine Fo 15 Tryz.func159 O λC hC hD=>?_;refine u4 1 (y1 2) (V1 0) ⟨i6 O,Zt⟩ ?_;refine P4 13 (v96 3 4 5 6 7 8 9 10 11 12 13 14 2) [(12,14)] [(12,14)] (V1 2) ⟨xM O,aU<|zW O,xM O,aU λ_ _ H K=>R.bin (eU K 5 O) (kW (.int .u64 8) (.u64 8) O) O bV H,aU<|zW O,xM O,aU λ_ _ H K=>R.bin (eU K 8 O) (kW (.int .u64 16) (.u64 16) O) O bV H,aU<|zW O,xM O,aU λ_ _ H K=>R.bin (eU K 11 O) (kW (.int .u64 24) (.u64 24) O) O bV H,aU<|zW O,aU λ_ _ H K=>J3 (z:=1) (.cons (eU K 4 O) (.cons (eU K 7 O) (.cons (eU K 10 O) (.cons (eU K 13 O) .nil)))) ⟨⟨O,O,O⟩,⟨O,O,O⟩,⟨O,O,O⟩,⟨O,O,O⟩,Zt⟩ O H dU,aU<|zO O,Zt⟩ O (tU O ?_);exact W.ret (En O (g6 (D.sl (some 5) 1) (y68 v)))
theorem w30(h:HdS)(hw:h.wf):Fn Tryz.prog gl 134 [M5 h] (.sl (some 5) 1 ((BU h).map D.u8)):=by
 refine Fo 30 Tryz.func134 O λC hC hD=>?_;have hw1:=hw.1;have hw2:=hw.2;refine n5 2 [] (V1 0) Zt O (⟨O,_,R.box (gV 0 O) O O nU,⟨O,_,J9 (kN O) O nU,tW (V1 1) (B2 1) 30 O ?_⟩⟩);refine P4 4 (y4 4 5 6 3) [(3,6)] [(3,6)] (V2 1 3) ⟨aU (xF O),aU (xL O),aU<|zC hC (EG h.ver) O (F1 (.sl _ _ _ (J5 λ_=>.u8 _))),aU<|zO O,Zt⟩ O (tU O ?_);refine P4 5 (y5 7 8 9 10 3) [(3,3),(4,10),(4,7)] [(3,3),(4,10)] (V2 1 3) ⟨aU<|zM O,aU (xF O),aU λ_ B H K=>QO (0) (32) (32) (K 8 _ O) (B 1 _ O) O O O O O bU bU O H,aU λ_ B H K=>R0 (Or.inr (K 7 _ O)) (K 3 _ O) (SrcO.sc (SC.va (K 9 _ O) (B 1 _ O) O dU) (QT (λ_=>rfl))) (show _=((HS h.ver++h.prev).map D.u8) from(z45 _ h.prev 32 hw1)) (by simp[HS,hw1,hw2]) H dU dU,aU<|zO O,Zt⟩ O (tU O ?_);refine P4 5 (y5 11 12 13 14 3) [(3,3),(4,14),(4,11)] [(3,3),(4,14)] (V2 1 3) ⟨aU<|zM O,aU (xF O),aU λ_ B H K=>QO (0) (32) (32) (K 12 _ O) (B 1 _ O) O O O O O bU bU O H,aU λ_ B H K=>R0 (Or.inr (K 11 _ O)) (K 3 _ O) (SrcO.sc (SC.va (K 13 _ O) (B 1 _ O) O dU) (QT (λ_=>rfl))) (show _=((HS h.ver++h.prev++h.root).map D.u8) from(z45 _ h.root 32 hw2)) (by simp[HS,hw1,hw2]) H dU dU,aU<|zO O,Zt⟩ O (tU O ?_);refine P4 6 (y6 15 16 17 18 19 3) [(4,3),(5,19),(5,15)] [(4,3),(5,19)] (V2 1 3) ⟨aU<|zM O,aU (xF O),aU (xL O),aU<|zC hC (EG h.time) O (F1 (.sl _ _ _ (J5 λ_=>.u8 _))),aU<|YC O (P3 (λ_=>rfl)) (EI) (by simp[HS,hw1,hw2]),aU<|zO O,Zt⟩ O (tU O ?_);refine P4 6 (y6 20 21 22 23 24 3) [(4,3),(5,24),(5,20)] [(4,3),(5,24)] (V2 1 3) ⟨aU<|zM O,aU (xF O),aU (xL O),aU<|zC hC (EG h.bits) O (F1 (.sl _ _ _ (J5 λ_=>.u8 _))),aU<|YC O (P3 (λ_=>rfl)) (EI) (by simp[HS,hw1,hw2]),aU<|zO O,Zt⟩ O (tU O ?_);refine P4 6 (y6 25 26 27 28 29 2) [(4,3),(5,29)] [(4,3),(5,29)] (V1 2) ⟨aU<|zM O,aU (xF O),aU (xL O),aU<|zC hC (EG h.nonce) O (F1 (.sl _ _ _ (J5 λ_=>.u8 _))),aU<|YC O (P3 (λ_=>rfl)) (EI) (by simp[HS,hw1,hw2]),aU<|zO O,Zt⟩ O (tU O ?_);exact W.ret (Eo O)
theorem EY(h:HdS)(hw:h.wf):Fn Tryz.prog gl 82 [M5 h] (w7 (ZB h)):=by
 refine Fo 6 Tryz.func82 O λC hC hD=>?_;refine n5 2 [] (V1 0) Zt O (⟨O,_,R.box (gV 0 O) O O nU,(I9 O (tW (V2 1 2) (B7 2 1) 6 O ?_))⟩);refine n5 4 (y3 3 4 5) (V2 2 5) ⟨xL O,zC hC (w30 h hw) O (F1 (.sl _ _ _ (J5 λ_=>.u8 _))),λ_ _ H K=>Z7 hC (NH (BU h) (by rw[TH h hw];decide)) (Bc (Bor.sc (SC.sl (K 4 _ O)) (J6 (λ_=>rfl))) Bn) (F1 (B4 _)) H,Zt⟩ O (M9 O (tW (V1 2) (B7 2 1) 6 O ?_));exact W.ret (Eo O (iL 23 32))
end
section
open Go.Proofs
theorem x35(a b:Hs)(hx:a.length=32)(hy:b.length=32):Fn Tryz.prog gl 111 [w7 a,w7 b] (w7 (F7 a b)):=by
 refine Fo 13 Tryz.func111 O λC hC hD=>?_;refine n5 3 [] (V2 0 1) Zt O (⟨O,_,R.box (gV 0 O) O O nU,⟨O,_,R.box (gV 1 O) O O nU,(I9 O (tW (V3 2 3 4) (i5 4 3 2) 13 O ?_))⟩⟩);refine P4 4 (y4 6 7 8 5) [(2,6),(3,8)] [(2,6),(3,8)] (V3 3 4 5) ⟨aU λ_ _ H _=>J3 .nil Zt O H dU,aU λ_ B H K=>QO (0) (32) (32) (K 2 _ O) (B 2 _ O) O O O O O bU bU O H,aU λ_ B H K=>R0 (Or.inl O) (K 6 _ O) (SrcO.sc (SC.va (K 7 _ O) (B 2 _ O) O dU) (QT (λ_=>rfl))) (show _=(a.map D.u8) from((D9 _).trans (x66 a hx))) (by simp[hx]) H dU dU,aU<|zO O,Zt⟩ O (tU O ?_);refine P4 5 (y4 9 10 11 12) [(2,5)] [(2,5)] (V2 4 12) ⟨aU<|zM O,aU λ_ B H K=>QO (0) (32) (32) (K 3 _ O) (B 3 _ O) O O O O O bU bU O H,aU λ_ B H K=>R0 (Or.inr (K 9 _ O)) (K 5 _ O) (SrcO.sc (SC.va (K 10 _ O) (B 3 _ O) O dU) (QT (λ_=>rfl))) (show _=((a++b).map D.u8) from(by rw[x66 b hy,d8])) (by simp[hx,hy]) H dU dU,aU λ_ _ H K=>Z7 hC (NH (a++b) (by simp only[q9,hx,hy];decide)) (Bc (Bor.sc (SC.sl (K 11 _ O)) (J6 (λ_=>rfl))) Bn) (F1 (B4 _)) H,Zt⟩ O (M9 O (tW (V1 4) (i5 4 3 2) 13 O ?_));exact W.ret (Eo O (iL 23 32))
theorem y36(l:List Hs)(k:Nat)(h0:0<l.length)(hl0:l.length<=1000)(hk0:k<=1000000):Fn Tryz.prog gl 158 [.sl none 32 (l.map w7),.int ((k:Nat):Int)] (w7 l[min k (l.length-1)]!):=by
 refine Fo 13 Tryz.func158 O λC hC hD=>?_;refine n5 1 [] (V2 0 1) Zt O (I9 O (tW (V3 0 1 4) (B2 4) 13 O ?_));refine n5 9 (y8 5 6 7 8 9 10 11 12) (V2 4 12) ⟨zV O,zV O,zV O,P8 O,AD 1 O,λ_ _ H K=>R.minI (r:=((min k (l.length-1):Nat):Int)) (eU K 6 O) (eU K 9 O) bO H,zI (min k (l.length-1)) O,zL O (mG l),Zt⟩ O (M9 O (tW (V1 4) (B2 4) 13 O ?_));exact W.ret (Eo O (iL 23 32))
theorem j10(l:List Hs)(hl:allH l)(hl0:l.length<=1000):Fn Tryz.prog gl 130 [.sl none 32 (l.map w7)] (.sl (some 23) 32 ((g81 F7 l).map w7)):=by
 refine Fo 24 Tryz.func130 O λC hC hD=>?_;refine u4 1 (y1 2) (V1 0) ⟨i6 O,Zt⟩ ?_;refine u4 1 (y1 3) (V2 0 3) ⟨i6 O,Zt⟩ ?_;refine W.seq (u4 1 (y1 4) (V3 0 3 4) ⟨O3 0 O,Zt⟩ ?_);refine W.block ?_;refine O6 (s:=3) 23 32 O ?_;refine P2 ((l.length+1)/2) (λi=>⟨24,[(0,.sl none 32 (l.map w7)),(3,.sl (some 23) 32 ((v99 F7 l i).map w7)),(4,.int ((2*i:Nat):Int))],[]⟩) O λi hi=>?_;have hul:=VN F7 l i;refine W.seq (u4 4 (y4 5 6 7 8) (V4 0 3 4 8) ⟨zV O,zV O,P8 O,zS O,Zt⟩ ?_);refine g7 O (λhc8=>?_) (λhc8=>?_)
 ·refine W.skip (W.seq (W.block ?_));refine KF 13 [0,0,0,6,14,0,0,64,224,510,1022,2047,4095] hP dU (v96 11 12 13 14 15 16 17 18 19 20 21 22 3) [(11,3),(12,22),(12,11)] [(11,3),(12,22)] (V3 0 3 4) ⟨aU<|zM O,xM O,xM O,aU<|zI (2*i) O,aU<|zL O (mG l),xM O,xM O,aU<|P1 1 O,aU<|zD hC (y36 l (2*i+1) bO hl0 bO) O (F1 (B4 _)),aU<|zD hC (x35 _ _ (hl.get bO) (hl.get bO)) O (F1 (B4 _)),aU λ_ _ H K=>J3 (z:=32) (.cons (eU K 20 O) .nil) ⟨⟨O,O,O⟩,Zt⟩ O H dU,aU<|YC O (G5 O) (HO) bU,aU<|zO O,Zt⟩ O (tW (V3 0 3 4) [] 24 O ?_);refine n4 3 (y3 9 10 4) (V3 0 3 4) ⟨zV O,P1 2 O,zA O,Zt⟩ ?_;exact⟨bU,rfl⟩
 ·obtain rfl:i=(l.length+1)/2:=by omega
  refine W.exit (P4 2 (y2 23 2) [(0,3),(1,23)] [(0,3),(1,23)] (V1 2) ⟨aU λ_ _ H K=>ZX (K 3 _ O) O H dU,aU<|zO O,Zt⟩ O (tU O ?_));exact W.ret (Eo O)
end
end Go.Sx
