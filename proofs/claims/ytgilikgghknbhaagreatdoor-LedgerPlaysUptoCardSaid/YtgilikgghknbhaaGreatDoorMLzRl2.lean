/- Own texts. -/
import Derived.Test.YtgilikgghknbhaaGreatDoorMSxAl
import Derived.Test.YtgilikgghknbhaaGreatDoorMLdTxDefs
import Derived.Test.YtgilikgghknbhaaGreatDoorMSxDrawE
set_option linter.unusedVariables false
set_option linter.unusedSimpArgs false
set_option linter.unnecessarySimpa false

namespace Go.Sx
variable{α:Type}{i n q:Nat}{ids:List Nat}{bx':List (Nat×Bx)}{Q:Exit->Sg->Prop}{env':List (Nat×D)}{m:Nat->Nat}
theorem u21{b:BlkS}{h:Nat}(hq:q<i):(S1 b h i)[q]! = ⟨h,q,ZM b.txs[q]!,b.txs[q]!⟩:=by
 induction i with
 | zero=>exact absurd hq (g9 _)
 | succ i ih=>
  rw[S1]
  rcases u7.1 hq with h1|rfl
  ·rw[JQ (by rw[W4];exact h1),ih h1]
  ·have:=XH (A:=S1 b h q) (s:=(⟨h,q,ZM b.txs[q]!,b.txs[q]!⟩:StS));rw[W4] at this;exact this
theorem j68(l:List BlkS){h:Nat}(hh:h<=n)(hn:n<=l.length):O9 (l.take n) h=O9 l h:=by
 induction h with
 | zero=>rfl
 | succ h ih=>rw[O9,O9,ih (by omega),DM (by omega) hn]
theorem j67(l:List BlkS){h:Nat}(hh:h<l.length):K6 (l.take (h+1))=O9 l h++S1 l[h]! h l[h]!.txs.length:=by
 unfold K6;rw[v8,show min (h+1) l.length=h+1 by omega,j68 l (z5 _) (by omega),O9]
theorem FG{l:List BlkS}{h:Nat}(hh:h<l.length):(l.take (h+1)).length=h+1:=by rw[v8];omega
theorem x55(l:List BlkS){h:Nat}(hh:h<l.length):WZ (l.take (h+1))=ED l h:=by
 unfold WZ ED;rw[FG hh,Nat.add_sub_cancel,DM (E5 h) (by omega),h02,y71];have e:l[h]!.txs.map ZM=l[h]!.txs.map XR:=QK λt _=>CE t;rw[e,DM (show h-1<h+1 by omega) (by omega)]
section
variable{l:List BlkS}{h:Nat}{b:BkS}
theorem x52(hl:allBl l)(hh:h<l.length)(hi:i<l[h]!.txs.length)(g:Bk (gB b l[h]!.txs i) (O9 l h++S1 l[h]! h i)):ZZ b l[h]!.txs i=q44 (l.take (h+1)) i:=by
 unfold ZZ q44;rw[FG hh,Nat.add_sub_cancel,DM (E5 h) (by omega),j67 l hh]
 have hlen:(O9 l h++S1 l[h]! h l[h]!.txs.length).length-l[h]!.txs.length+i=(O9 l h++S1 l[h]! h i).length:=by
  rw[q9,q9,W4,W4];omega
 by_cases hc:JU l[h]!.txs[i]! = false∨N8 l[h]!.txs[i]!≠decide (i=0)
 ·rw[j7 hc,j7 hc]
 ·rw[z8 hc,z8 hc,hlen]
  have hy:JU l[h]!.txs[i]! = true:=by
   cases hm:JU l[h]!.txs[i]! with
   | true=>rfl
   | false=>exact absurd (.inl hm) hc
  have hs:=g.sums (s:=⟨h,i,ZM l[h]!.txs[i]!,l[h]!.txs[i]!⟩) hy;dsimp only at hs;rw[CE] at hs;rw[<- hs];refine x53 (by simp) (by rw[q9,q9,W4,W4];omega) (λj hj=>?_)
  have e:O9 l h++S1 l[h]! h i++[(⟨h,i,XR l[h]!.txs[i]!,l[h]!.txs[i]!⟩:StS)]=O9 l h++S1 l[h]! h (i+1):=by
   rw[S1,CE,w3]
  rw[e]
  have hj:j<=(O9 l h).length+i:=by rw[q9,W4] at hj;exact hj
  by_cases hj2:j<(O9 l h).length
  ·rw[JQ hj2,JQ hj2]
  ·have ga:∀ n,j<(O9 l h).length+n->(O9 l h++S1 l[h]! h n)[j]! = ⟨h,j-(O9 l h).length,ZM l[h]!.txs[j-(O9 l h).length]!,l[h]!.txs[j-(O9 l h).length]!⟩:=λn hn=>by
    rw[b9 _ j (by rw[q9,W4];exact hn),K9 (by omega)]
    have hq:j-(O9 l h).length<n:=by omega
    have:=u21 (b:=l[h]!) (h:=h) (i:=n) hq;rw[b9 _ _ (by rw[W4];exact hq)] at this;exact this
   rw[ga _ (by omega),ga _ (by omega)]
theorem Bk.txs(hl:allBl l)(hh:h<l.length)(g:Bk b (O9 l h))(i:Nat)(hi:i<=l[h]!.txs.length)(hz:∀ q<i,ZZ b l[h]!.txs q=0):Bk (gB b l[h]!.txs i) (O9 l h++S1 l[h]! h i):=by
 induction i with
 | zero=>rw[S1,m4];exact g
 | succ i ih=>
  have g2:=ih (by omega) (λq hq=>hz q (by omega));have hs:=j47 (hz i (by omega));have hsm:=((hl.get hh).small (show i<l[h]!.txs.length by omega)).2;rw[g66,S1,<- w3,CE];generalize XR l[h]!.txs[i]! = x at hs ⊢;generalize l[h]!.txs[i]! = t at hs hsm ⊢;exact Bk.put (s:=⟨h,i,x,t⟩) g2 (w60 (s:=⟨h,i,x,t⟩) hs g2) hsm
theorem w52(b:BkS)(txs:List TxS):(LJ b txs).1=match fnz txs.length (ZZ b txs) with|some q=>ZZ b txs q|none=>0:=by
 rcases TN txs.length (ZZ b txs) with h0|⟨i,hi,h1,h2⟩
 ·rw[q03 h0,LD h0]
 ·rw[k57 hi h1 h2,LC hi h1 h2]
theorem y77(hl:allBl l)(hh:h<l.length)(g:Bk b (O9 l h)):(DX b l h).1=YF (l.take (h+1)):=by
 unfold DX YF;rw[x55 l hh];by_cases h0:ED l h=0
 ·rw[h0,z8 (by simp),z8 (by simp),w52,FG hh,Nat.add_sub_cancel,DM (E5 h) (by omega)];have key:=TM (n:=l[h]!.txs.length) (f:=ZZ b l[h]!.txs) (g:=q44 (l.take (h+1))) λi hi hz=>x52 hl hh hi (g.txs hl hh i (by omega) hz)
  rcases key with ⟨e1,e2,_⟩|⟨i,_,e1,e2,e3,_⟩
  ·rw[e1,e2]
  ·rw[e1,e2];exact e3
 ·rw[j7 h0,j7 h0]
theorem Bk.all(hl:allBl l)(h:Nat)(hh:h<=l.length)(hz:∀ q<h,gE l q=0):Bk (gH l h) (O9 l h):=by
 induction h with
 | zero=>exact Bk.nil
 | succ h ih=>
  obtain⟨_,h2,h3⟩:=q13 (hz h (by omega));rw[h3,O9];exact(ih (by omega) (λq hq=>hz q (by omega))).txs hl (by omega) _ (z5 _) h2
theorem z85(l:List BlkS):s3 l=match fnz l.length (gE l) with|some h=>(((h:Nat):Int),gE l h)|none=>(0,0):=rfl
theorem FO(hl:allBl l):s3 l=UE l:=by
 rw[z85];unfold UE
 rcases TM (n:=l.length) (f:=gE l) (g:=λh=>YF (l.take (h+1))) (λh hh hz=>y77 hl hh (Bk.all hl h (by omega) hz)) with ⟨e1,e2,_⟩|⟨i,_,e1,e2,e3,_⟩
 ·rw[e1,e2]
 ·rw[e1,e2];dsimp only at e3 ⊢;rw[e3]
theorem Bk.gAll(hl:allBl l)(hr:(s3 l).2=0){h:Nat}(hh:h<l.length)(i:Nat)(hi:i<=l[h]!.txs.length):Bk (gB (gAll l h) l[h]!.txs i) (O9 l h++S1 l[h]! h i):=by
 have hz:=k35 hr;rw[<- w70 h (λq hq=>hz q (by omega))];exact(Bk.all hl h (by omega) (λq hq=>hz q (by omega))).txs hl hh i hi (λq hq=>(q13 (hz h hh)).2.1 q (by omega))
theorem w58{b:BkS}{t:TxS}{sc:Hs}(n:Nat):sc∈JI b t.ins n↔∃ k<n,H3 b.outs (plc t.ins[k]!)=true/\(KW q49 b.outs (plc t.ins[k]!)).2=sc:=by
 induction n with
 | zero=>exact⟨λh=>(by cases h),λ⟨k,hk,_⟩=>absurd hk (g9 _)⟩
 | succ n ih=>
  have hs:(∃ k<n+1,H3 b.outs (plc t.ins[k]!)=true/\(KW q49 b.outs (plc t.ins[k]!)).2=sc)↔(∃ k<n,H3 b.outs (plc t.ins[k]!)=true/\(KW q49 b.outs (plc t.ins[k]!)).2=sc)∨H3 b.outs (plc t.ins[n]!)=true/\(KW q49 b.outs (plc t.ins[n]!)).2=sc:=
   ⟨λ⟨k,hk,h⟩=>(u7.1 hk).elim (λh1=>.inl ⟨k,h1,h⟩) (λe=>.inr (e▸h)),λh=>h.elim (λ⟨k,hk,h⟩=>⟨k,by omega,h⟩) (λh=>⟨n,E5 _,h⟩)⟩
  rw[hs,<- ih,JI];by_cases hk:H3 b.outs (plc t.ins[n]!)=true
  ·rw[j7 hk,p9,g8];exact⟨λh=>h.imp id λe=>⟨hk,e.symm⟩,λh=>h.imp id λe=>e.2.symm⟩
  ·rw[z8 hk];exact⟨.inl,λh=>h.elim id λe=>absurd e.1 hk⟩
theorem w55{os:List OutS}{sc:Hs}(n:Nat):sc∈OK os n↔∃ k<n,GX os[k]!.script=sc:=by
 induction n with
 | zero=>exact⟨λh=>(by cases h),λ⟨k,hk,_⟩=>absurd hk (g9 _)⟩
 | succ n ih=>
  rw[OK,p9,g8,ih];exact⟨λh=>h.elim (λ⟨k,hk,e⟩=>⟨k,by omega,e⟩) (λe=>⟨n,E5 _,e.symm⟩),λ⟨k,hk,e⟩=>(u7.1 hk).elim (λh=>.inl ⟨k,h,e⟩) (λh=>.inr (h▸e.symm))⟩
theorem Bk.tch{A:List StS}(g:Bk b A){all:List StS}{s:StS}(hA:A.length<all.length)(ha:∀ j<A.length,all[j]! = A[j]!)(hs:all[A.length]! = s)(sc:Hs):sc∈JF b s.t↔y72 all A.length sc=true:=by
 unfold JF y72;rw[p9,w58,w55,K5,or_comm,hs];refine or_congr ?_ ?_
 ·unfold j76 UF;rw[c6];exact⟨λ⟨k,hk,e⟩=>⟨k,z7.2 hk,(by rw[<- SB];exact d5.2 e)⟩,λ⟨k,hk,e⟩=>⟨k,z7.1 hk,(by rw[SB];exact d5.1 e)⟩⟩
 ·unfold j22;rw[c6]
  have e:∀ k:Nat,v15 all A.length s.t.ins[k]! sc=true↔H3 b.outs (plc s.t.ins[k]!)=true/\(KW q49 b.outs (plc s.t.ins[k]!)).2=sc:=λk=>by
   cases h:I1 A A.length (plc s.t.ins[k]!) with
   | none=>
    have h2:v15 all A.length s.t.ins[k]! sc=false:=z03 (by rw[XG (l:=all) (l':=A) _ A.length ha,h];rfl)
    have h3:H3 b.outs (plc s.t.ins[k]!)=false:=by rw[g.has,h];rfl
    rw[h2,h3];exact⟨λh=>(by cases h),λh=>(by cases h.1)⟩
   | some o=>
    have h2:v15 all A.length s.t.ins[k]! sc=UF o sc:=by
     rw[z02 (by rw[XG (l:=all) (l':=A) _ A.length ha,h];rfl),XG (l:=all) (l':=A) _ A.length ha,h];rfl
    have h3:H3 b.outs (plc s.t.ins[k]!)=true:=by rw[g.has,h];rfl
    rw[h2,h3,g.get _ _ h,SB];unfold UF;generalize NG o.script=y;exact⟨λh=>⟨rfl,d5.1 h⟩,λh=>d5.2 h.2⟩
  exact⟨λ⟨k,hk,h⟩=>⟨k,z7.2 hk,by rw[hs];exact(e k).2 h⟩,λ⟨k,hk,h⟩=>⟨k,z7.1 hk,(e k).1 (by rw[hs] at h;exact h)⟩⟩
theorem u22(l:List BlkS){h:Nat}(hh:h<=n):∃ r,O9 l n=O9 l h++r:=by
 induction n with
 | zero=>rw[show h=0 by omega];exact⟨[],by simp⟩
 | succ n ih=>
  by_cases he:h=n+1
  ·rw[he];exact⟨[],by simp⟩
  ·obtain⟨r,hr⟩:=ih (by omega);exact⟨r++S1 l[n]! n l[n]!.txs.length,by rw[O9,hr,w3]⟩
theorem u20(b:BlkS)(h:Nat)(hi:i<=n):∃ r,S1 b h n=S1 b h i++r:=by
 induction n with
 | zero=>rw[show i=0 by omega];exact⟨[],by simp⟩
 | succ n ih=>
  by_cases he:i=n+1
  ·rw[he];exact⟨[],by simp⟩
  ·obtain⟨r,hr⟩:=ih (by omega);exact⟨r++[⟨h,n,ZM b.txs[n]!,b.txs[n]!⟩],by rw[S1,hr,w3]⟩
theorem v51(hh:h<l.length)(hi:i<=l[h]!.txs.length):∃ r,K6 l=O9 l h++S1 l[h]! h i++r:=by
 obtain⟨r,hr⟩:=u22 l (show h+1<=l.length by omega);obtain⟨q,hq⟩:=u20 l[h]! h hi;exact⟨q++r,by unfold K6;rw[hr,O9,hq];simp only[w3]⟩
theorem u17(hh:h<l.length)(hi:i<l[h]!.txs.length):(∀ j<(O9 l h++S1 l[h]! h i).length,(K6 l)[j]! = (O9 l h++S1 l[h]! h i)[j]!)/\(K6 l)[(O9 l h++S1 l[h]! h i).length]! = ⟨h,i,ZM l[h]!.txs[i]!,l[h]!.txs[i]!⟩/\(O9 l h++S1 l[h]! h i).length<(K6 l).length:=by
 obtain⟨r,hr⟩:=v51 hh (i:=i+1) hi
 have e:K6 l=(O9 l h++S1 l[h]! h i)++([⟨h,i,ZM l[h]!.txs[i]!,l[h]!.txs[i]!⟩]++r):=by rw[hr,S1];simp only[w3]
 rw[e];refine⟨λj hj=>JQ hj, ?_,by simp⟩;rw[b9 _ _ (by simp),K9 (z5 _)];simp
theorem v18(hl:allBl l)(hr:(s3 l).2=0)(sc:Hs):BY l sc=IW l sc:=by
 have inner:∀ h,h<l.length->∀ i,i<=l[h]!.txs.length->GO (K6 l) sc (O9 l h++S1 l[h]! h i).length=GO (K6 l) sc (O9 l h).length++HB (gAll l h) h l[h]!.txs sc i:=by
  intro h hh i
  induction i with
  | zero=>intro _;rw[S1,m4,HB,m4]
  | succ i ih=>
   intro hi;obtain⟨h1,h2,h3⟩:=u17 hh (show i<l[h]!.txs.length by omega);have ht:=(Bk.gAll hl hr hh i (by omega)).tch h3 h1 h2 sc;dsimp only at ht
   have hlen:(O9 l h++S1 l[h]! h (i+1)).length=(O9 l h++S1 l[h]! h i).length+1:=by simp only[q9,W4];omega
   rw[hlen]
   cases hc:y72 (K6 l) (O9 l h++S1 l[h]! h i).length sc with
   | true=>rw[w28 hc,z87 (ht.2 hc),ih (by omega),w3,h2,CE]
   | false=>rw[z82 hc,z88 (λhn=>by rw[ht.1 hn] at hc;cases hc),ih (by omega)]
 have outer:∀ h,h<=l.length->OJ l sc h=GO (K6 l) sc (O9 l h).length:=by
  intro h
  induction h with
  | zero=>intro _;rfl
  | succ h ih=>
   intro hh;rw[OJ,ih (by omega),O9,inner h (by omega) _ (z5 _)]
 exact outer _ (z5 _)
theorem z11(m:List (Plc×Unit))(u:List LV)(n:Nat)(hn:n<=u.length):BE m u n=(u.take n).filter λx=>!H3 m x.1:=by
 induction n with
 | zero=>rfl
 | succ n ih=>
  rw[BE,N3 (by omega),T3,<- ih (by omega),b9 u n (by omega)]
  cases hk:H3 m u[n].1 with
  | true=>rw[j7 rfl,List.filter_cons_of_neg (by rw[hk];decide)];simp
  | false=>rw[z8 m8,List.filter_cons_of_pos (by rw[hk];rfl)];rfl
theorem q77(all:List StS)(i:Nat)(sc:Hs)(k:Nat):GG all i sc k=(CK all[i]!.h all[i]!.id all[i]!.t.outs sc k).filter λx=>!j51 all x.1:=by
 induction k with
 | zero=>rfl
 | succ k ih=>
  rw[GG,CK,w78]
  have e:UF all[i]!.t.outs[k]! sc=(GX all[i]!.t.outs[k]!.script==sc):=by unfold UF;rw[SB]
  rw[e]
  cases h1:(GX all[i]!.t.outs[k]!.script==sc) with
  | false=>rw[z8 (by simp),z8 m8];exact ih
  | true=>
   rw[j7 rfl,T3,<- ih]
   cases h2:j51 all (all[i]!.id,nK k) with
   | true=>rw[z8 (by simp),List.filter_cons_of_neg (by dsimp only;rw[h2];exact m8)];simp
   | false=>rw[j7 (by simp),List.filter_cons_of_pos (by dsimp only;rw[h2];rfl)];rfl
theorem j86(hl:allBl l)(hr:(s3 l).2=0)(sc:Hs):YR l sc=PE l sc:=by
 have inner:∀ h,h<l.length->∀ i,i<=l[h]!.txs.length->NC (K6 l) sc (O9 l h++S1 l[h]! h i).length=NC (K6 l) sc (O9 l h).length++(OZ h l[h]!.txs sc i).filter λx=>!j51 (K6 l) x.1:=by
  intro h hh i
  induction i with
  | zero=>intro _;rw[S1,m4,OZ];simp
  | succ i ih=>
   intro hi;obtain⟨h1,h2,h3⟩:=u17 hh (show i<l[h]!.txs.length by omega)
   have hlen:(O9 l h++S1 l[h]! h (i+1)).length=(O9 l h++S1 l[h]! h i).length+1:=by simp only[q9,W4];omega
   rw[hlen,NC,ih (by omega),q77,h2];dsimp only;rw[OZ,T3,CE,w3]
 have outer:∀ h,h<=l.length->(US l sc h).filter (λx=>!j51 (K6 l) x.1)=NC (K6 l) sc (O9 l h).length:=by
  intro h
  induction h with
  | zero=>intro _;rfl
  | succ h ih=>
   intro hh;rw[US,T3,ih (by omega),O9,inner h (by omega) _ (z5 _)]
 have hz:=k35 hr
 have hsp:∀ p,H3 (Go.Sx.gAll l l.length).spent p=j51 (K6 l) p:=λp=>by
  rw[<- w70 l.length (λq hq=>hz q hq)];exact(Bk.all hl l.length (z5 _) (λq hq=>hz q hq)).spent p
 unfold YR PE;rw[z11 _ _ _ (z5 _),X4,show NC (K6 l) sc (K6 l).length=_ from(outer l.length (z5 _)).symm]
 congr 1
 funext x
 rw[hsp]
end
structure TnS where
 block:UInt8
 tx:UInt8
 at_:UInt8
 what:UInt8
 mend:Bool
 deriving Inhabited
def g02(x:TnS):D:=.agg [.u8 x.block,.u8 x.tx,.u8 x.at_,.u8 x.what,.bool x.mend]
def HI(o:OutS):OutS:=⟨o.value+100000,o.script⟩
def RT(i:InS):InS:=⟨i.tx,i.n+1,i.script,i.seq,i.wit⟩
def tK(b:BlkS)(x:TnS):Nat:=x.tx.toNat%b.txs.length
def HF(h:Hs)(j:UInt8):Hs:=h.set (j%32).toNat (h[(j%32).toNat]!^^^1)
def u66(t:TxS)(x:TnS):TxS:=
 if x.what%9=1 then⟨t.ver,t.ins,t.outs.set (x.at_.toNat%t.outs.length) (HI t.outs[x.at_.toNat%t.outs.length]!),t.lock⟩
 else if x.what%9=2 then⟨t.ver,t.ins.set (x.at_.toNat%t.ins.length) (RT t.ins[x.at_.toNat%t.ins.length]!),t.outs,t.lock⟩
 else if x.what%9=6 then⟨t.ver,t.ins,[],t.lock⟩
 else if x.what%9=7 then⟨t.ver,t.ins,t.outs,t.lock+1⟩ else t
def AX(b:BlkS)(x:TnS):BlkS:=
 if x.what%9=0 then⟨b.hd,b.txs.take (b.txs.length-1)⟩
 else if x.what%9=3 then⟨b.hd,b.txs++[b.txs[tK b x]!]⟩
 else if x.what%9=4 then⟨{ b.hd with root:=HF b.hd.root x.at_ },b.txs⟩
 else if x.what%9=5 then⟨{ b.hd with prev:=HF b.hd.prev x.at_ },b.txs⟩
 else⟨b.hd,b.txs.set (tK b x) (u66 b.txs[tK b x]! x)⟩
def q72(b:BlkS):BlkS:=⟨{ b.hd with root:=KS F7 (b.txs.map ZM) },b.txs⟩
def SI(b:BlkS)(h:HdS):BlkS:=⟨{ b.hd with prev:=ZB h },b.txs⟩
def UI(l:List BlkS)(n:Nat):Nat->List BlkS
 | 0=>l.set n (q72 l[n]!)
 | j+1=>(UI l n j).set (n+1+j) (SI (UI l n j)[n+1+j]! (UI l n j)[n+j]!.hd)
def IC(l:List BlkS)(n:Nat):List BlkS:=UI l n (l.length-1-n)
def tN(l:List BlkS)(x:TnS):Nat:=x.block.toNat%l.length
def j89(l:List BlkS)(x:TnS):List BlkS:=l.set (tN l x) (AX l[tN l x]! x)
def FU(l:List BlkS)(x:TnS):List BlkS:=
 if l[tN l x]!.txs.length=0 then l else if x.mend=true then IC (j89 l x) (tN l x) else j89 l x
structure BlkS.sml(b:BlkS):Prop where
 hd:b.hd.wf
 txs:∀ t∈b.txs,t.sm
 len:b.txs.length<=50
def smBl(l:List BlkS):Prop:=l.length<=50/\∀ b∈l,b.sml
def y78(b:BlkS):Prop:=∀ t∈b.txs,t.ins.length≠0/\t.outs.length≠0
theorem BlkS.sml.wf{b:BlkS}(h:b.sml):b.wf:=z38 h.hd h.txs (by have:=h.len;omega)
theorem smBl.all{l:List BlkS}(h:smBl l):allBl l:=⟨by have:=h.1;omega,λb hb=>(h.2 b hb).wf⟩
theorem smBl.get{l:List BlkS}(h:smBl l)(hi:i<l.length):l[i]!.sml:=h.2 _ (X0 hi)
theorem smBl.set{l:List BlkS}(h:smBl l)(i:Nat){b:BlkS}(hb:b.sml):smBl (l.set i b):=
 ⟨by rw[Q9];exact h.1,λx hx=>(N6 hx).elim (h.2 x) (λe=>e▸hb)⟩
theorem SY(h:Hs)(j:UInt8):(HF h j).length=h.length:=by unfold HF;rw[Q9]
theorem CA[Inhabited α]{l:List α}{a:α}{p:α->Prop}(hl:∀ x∈l,p x)(ha:p a):∀ x∈l.set i a,p x:=λx hx=>(N6 hx).elim (hl x) (λe=>e▸ha)
theorem j20(o:OutS):(HI o).script.length=o.script.length:=by cases o;rfl
theorem y04{t:TxS}(h:t.sm)(x:TnS)(hi:t.ins.length≠0)(ho:t.outs.length≠0):(u66 t x).sm:=by
 have mi:t.ins[x.at_.toNat%t.ins.length]!∈t.ins:=X0 (G8 _ (Nat.pos_of_ne_zero hi));have mo:t.outs[x.at_.toNat%t.outs.length]!∈t.outs:=X0 (G8 _ (Nat.pos_of_ne_zero ho));have qhash:=h.hash _ mi;have qscr:=h.scr _ mi;have qwit:=h.wit _ mi;have qwiti:=h.witi _ mi;have qoscr:(HI t.outs[x.at_.toNat%t.outs.length]!).script.length<=100:=v5 (Nat.le_of_eq (j20 _)) (h.oscr _ mo);unfold u66;split
 ·exact { ins:=h.ins,outs:=by rw[Q9];exact h.outs,hash:=h.hash,scr:=h.scr,oscr:=CA (p:=λx:OutS=>x.script.length<=100) h.oscr qoscr,wit:=h.wit,witi:=h.witi }
 split
 ·exact { ins:=by rw[Q9];exact h.ins,outs:=h.outs,hash:=CA (p:=λx:InS=>x.tx.length=32) h.hash qhash,scr:=CA (p:=λx:InS=>x.script.length<=100) h.scr qscr,oscr:=h.oscr,wit:=CA (p:=λx:InS=>x.wit.length<=8) h.wit qwit,witi:=CA (p:=λx:InS=>∀ b∈x.wit,b.length<=100) h.witi qwiti }
 split
 ·exact { ins:=h.ins,outs:=v6 _,hash:=h.hash,scr:=h.scr,oscr:=λy hy=>absurd hy E7,wit:=h.wit,witi:=h.witi }
 split
 ·exact { ins:=h.ins,outs:=h.outs,hash:=h.hash,scr:=h.scr,oscr:=h.oscr,wit:=h.wit,witi:=h.witi }
 ·exact h
theorem k22{b:BlkS}(h:b.sml)(hl:b.txs.length<=49)(hf:y78 b)(h0:b.txs.length≠0)(x:TnS):(AX b x).sml:=by
 have mk:b.txs[tK b x]!∈b.txs:=X0 (G8 _ (Nat.pos_of_ne_zero h0));have hh:=h.hd;unfold AX;split
 ·exact⟨hh,λt ht=>h.txs t (Q8 ht),by rw[v8];omega⟩
 split
 ·exact⟨hh,λt ht=>(p9.1 ht).elim (h.txs t) (λe=>by rw[g8.1 e];exact h.txs _ mk),by rw[q9,n7];omega⟩
 split
 ·exact⟨⟨hh.1,(SY _ _).trans hh.2⟩,h.txs,h.len⟩
 split
 ·exact⟨⟨(SY _ _).trans hh.1,hh.2⟩,h.txs,h.len⟩
 ·exact⟨hh,CA h.txs (y04 (h.txs _ mk) x (hf _ mk).1 (hf _ mk).2),by rw[Q9];exact h.len⟩
theorem j06{b:BlkS}(h:b.sml):(q72 b).sml:=⟨⟨h.hd.1,ND CS (HC _)⟩,h.txs,h.len⟩
theorem j16{b:BlkS}(h:b.sml)(x:HdS):(SI b x).sml:=by
 unfold SI;have h2:=OQ x;generalize ZB x=r at h2 ⊢;exact⟨⟨h2,h.hd.2⟩,h.txs,h.len⟩
theorem NA(l:List BlkS)(n j:Nat):(UI l n j).length=l.length:=by
 induction j with
 | zero=>rw[UI,Q9]
 | succ j ih=>rw[UI,Q9,ih]
theorem q96{l:List BlkS}(h:smBl l)(hn:n<l.length)(j:Nat)(hj:n+j<l.length):smBl (UI l n j):=by
 induction j with
 | zero=>exact h.set _ (j06 (h.get hn))
 | succ j ih=>
  rw[UI];exact(ih (by omega)).set _ (j16 ((ih (by omega)).get (by rw[NA];omega)) _)
theorem k24{l:List BlkS}(h1:1<=l.length)(x:TnS):tN l x<l.length:=G8 _ (by omega)
theorem q52(l:List BlkS)(x:TnS):(j89 l x).length=l.length:=by unfold j89;rw[Q9]
def w72(l:List BlkS):Prop:=∀ b∈l,y78 b/\b.txs.length<=49
theorem u65{l:List BlkS}(h:smBl l)(h1:1<=l.length)(hf:w72 l)(x:TnS)(h0:l[tN l x]!.txs.length≠0):smBl (j89 l x):=
 h.set _ (k22 (h.get (k24 h1 x)) (hf _ (X0 (k24 h1 x))).2 (hf _ (X0 (k24 h1 x))).1 h0 x)
theorem u63{l:List BlkS}(h:smBl l)(h1:1<=l.length)(hf:w72 l)(x:TnS):smBl (FU l x):=by
 have hn:=k24 h1 x;unfold FU;split
 ·exact h
 ·rename_i h0;have ht:=u65 h h1 hf x h0;split
  ·unfold IC;exact q96 ht (by rw[q52];exact hn) _ (by rw[q52];omega)
  ·exact ht
theorem x04(s:SpS)(av:List (Plc×UInt64)):(YP s av).length≠0:=by
 unfold YP;dsimp only
 split<;>simp
theorem y25{s:SpS}{av:List (Plc×UInt64)}{mark:UInt32}(h:VS s av=false):(g33 s av mark).ins.length≠0/\(g33 s av mark).outs.length≠0:=by
 refine⟨x04 s av, ?_⟩;unfold VS at h;rw[Bool.or_eq_false_iff] at h;have h2:=d6 h.2;show(KI s (YB s av) (min s.to.length 4)).length≠0;unfold KI;rw[z6,Y3];omega
theorem y76(l:List BlkS)(x:PlS)(mark:UInt32)(j:Nat):∀ t∈GE l x mark j,t.ins.length≠0/\t.outs.length≠0:=by
 induction j with
 | zero=>intro t ht;rw[GE,g8] at ht;rw[ht];exact⟨Nat.one_ne_zero,Nat.one_ne_zero⟩
 | succ j ih=>
  intro t ht;rw[GE] at ht;split at ht
  ·rename_i hc
   rcases p9.1 ht with h|h
   ·exact ih t h
   ·rw[g8.1 h];unfold RD at hc ⊢
    cases hn:VS x.spends[j]! (YE (l++[⟨zeroH,GE l x mark j⟩])) with
    | true=>rw[hn] at hc;cases hc
    | false=>exact y25 hn
  ·exact ih t ht
theorem j42{l:List BlkS}(hl:allBl l)(h99:l.length<=99)(x:PlS)(mark:UInt32):(ZL l x mark).1.sml/\y78 (ZL l x mark).1/\(ZL l x mark).1.txs.length<=49:=by
 obtain⟨h1,h2,h3⟩:=EH hl h99 x mark;exact⟨⟨w41 l x mark,h1,by show(YH l x mark).length<=50;omega⟩,y76 l x mark _,by show(YH l x mark).length<=49;omega⟩
theorem v43(ps:List PlS)(i:Nat)(hi:i<=14):smBl (f9 ps i)/\w72 (f9 ps i):=by
 induction i with
 | zero=>
  refine⟨⟨(by decide:1<=50),λb hb=>?_⟩,λb hb=>?_⟩
  ·rw[f9,g8] at hb;rw[hb];exact⟨⟨rfl,rfl⟩,λt h=>(by cases h),v6 _⟩
  ·rw[f9,g8] at hb;rw[hb];exact⟨λt h=>(by cases h),v6 _⟩
 | succ i ih=>
  obtain⟨h1,h2⟩:=ih (by omega);obtain⟨h3,h4,h5⟩:=ML ps i (by omega)
  have h99:(f9 ps i).length<=99:=by omega
  obtain⟨g1,g2,g3⟩:=j42 h3 h99 ps[i]! (UInt32.ofNat i);rw[f9];split
  ·refine⟨⟨by rw[q9,n7];omega,λb hb=>?_⟩,λb hb=>?_⟩
   ·rcases p9.1 hb with h|h
    ·exact h1.2 b h
    ·rw[g8.1 h];exact g1
   ·rcases p9.1 hb with h|h
    ·exact h2 b h
    ·rw[g8.1 h];exact⟨g2,g3⟩
  ·exact⟨h1,h2⟩
theorem q28(ps:List PlS):smBl (BJ ps)/\w72 (BJ ps):=v43 ps _ (l3 _ _)
section
variable{l:List StS}{i k:Nat}
theorem y41(hk:k<i)(h:(l[k]!.id==l[i]!.id)=true):DK l i=14:=by
 unfold DK;rw[j7 (by unfold q20;rw[c6];exact⟨k,z7.2 hk,h⟩)]
theorem q19(h:∀ q<i,(l[q]!.id==l[i]!.id)=false):¬ q20 l i=true:=λhd=>by
 unfold q20 at hd;rw[c6] at hd;obtain⟨q,hq,e⟩:=hd;rw[h q (z7.1 hq)] at e;cases e
theorem y40(h:∀ q<i,(l[q]!.id==l[i]!.id)=false)(hm:N8 l[i]!.t=true):DK l i=0:=by
 unfold DK;rw[z8 (q19 h),j7 hm]
theorem x54(h:∀ q<i,(l[q]!.id==l[i]!.id)=false)(hm:N8 l[i]!.t=false)(hk:k<l[i]!.t.ins.length)(hb:DU l i k=true):DK l i=14:=by
 unfold DK;rw[z8 (q19 h),z8 (by rw[hm];exact m8),j7 (by unfold SJ;rw[c6];exact⟨k,z7.2 hk,hb⟩)]
theorem u12(h:∀ q<l[i]!.t.ins.length,DU l i q=false):¬ SJ l i l[i]!.t.ins.length=true:=λhd=>by
 unfold SJ at hd;rw[c6] at hd;obtain⟨q,hq,e⟩:=hd;rw[h q (z7.1 hq)] at e;cases e
theorem y39(h:∀ q<i,(l[q]!.id==l[i]!.id)=false)(hm:N8 l[i]!.t=false)(hb:∀ q<l[i]!.t.ins.length,DU l i q=false)(hl:decide (j36 l i l[i]!.t.ins.length<HJ l[i]!.t.outs l[i]!.t.outs.length)=true):DK l i=14:=by
 unfold DK;rw[z8 (q19 h),z8 (by rw[hm];exact m8),z8 (u12 hb),j7 (v7 hl)]
theorem y38(h:∀ q<i,(l[q]!.id==l[i]!.id)=false)(hm:N8 l[i]!.t=false)(hb:∀ q<l[i]!.t.ins.length,DU l i q=false)(hl:decide (j36 l i l[i]!.t.ins.length<HJ l[i]!.t.outs l[i]!.t.outs.length)=false):DK l i=0:=by
 unfold DK;rw[z8 (q19 h),z8 (by rw[hm];exact m8),z8 (u12 hb),z8 (d6 hl)]
theorem g76(h:(I1 l i (plc l[i]!.t.ins[k]!)).isSome=false):DU l i k=true:=by
 unfold DU
 cases hp:I1 l i (plc l[i]!.t.ins[k]!) with
 | none=>rfl
 | some o=>rw[hp] at h;cases h
theorem g75(h:UT l i k (plc l[i]!.t.ins[k]!)=true):DU l i k=true:=by unfold DU;rw[h,Bool.or_true]
theorem g77(h:(I1 l i (plc l[i]!.t.ins[k]!)).isSome=true)(h2:UT l i k (plc l[i]!.t.ins[k]!)=false):DU l i k=false:=by
 unfold DU;rw[h2,O4]
 cases hp:I1 l i (plc l[i]!.t.ins[k]!) with
 | none=>rw[hp] at h;cases h
 | some o=>rfl
end
section
variable{l:List BlkS}{i:Nat}
theorem g41(h1:0<l.length-1)(h2:(l[l.length-1]!.hd.prev != ZB l[l.length-1-1]!.hd)=true):WZ l=9:=by unfold WZ;rw[j7 ⟨h1,U8.1 h2⟩]
theorem q78(hp:¬ 0<l.length-1∨(l[l.length-1]!.hd.prev != ZB l[l.length-1-1]!.hd)=false):¬ (0<l.length-1/\l[l.length-1]!.hd.prev≠ZB l[l.length-1-1]!.hd):=λ⟨h1,h2⟩=>hp.elim (λh=>h h1) (λh=>h2 (X1.1 h))
theorem g42(h1:¬ 0<l.length-1)(hz:l[l.length-1]!.txs.length=0):WZ l=0:=by unfold WZ;rw[z8 (q78 (.inl h1)),j7 hz,j7 (by omega)]
theorem y42(h1:0<l.length-1)(hp:¬ 0<l.length-1∨(l[l.length-1]!.hd.prev != ZB l[l.length-1-1]!.hd)=false)(hz:l[l.length-1]!.txs.length=0):WZ l=6:=by unfold WZ;rw[z8 (q78 hp),j7 hz,z8 (by omega)]
theorem x56(hp:¬ 0<l.length-1∨(l[l.length-1]!.hd.prev != ZB l[l.length-1-1]!.hd)=false)(hz:¬ l[l.length-1]!.txs.length=0)(h2:256<l[l.length-1]!.txs.length):WZ l=6:=by unfold WZ;rw[z8 (q78 hp),z8 hz,j7 h2]
theorem x57(hp:¬ 0<l.length-1∨(l[l.length-1]!.hd.prev != ZB l[l.length-1-1]!.hd)=false)(hz:¬ l[l.length-1]!.txs.length=0)(h2:¬ 256<l[l.length-1]!.txs.length)(hr:(l[l.length-1]!.hd.root != KS F7 (l[l.length-1]!.txs.map ZM))=true):WZ l=15:=by
 unfold WZ;rw[z8 (q78 hp),z8 hz,z8 h2,j7 (U8.1 hr)]
theorem DI(hp:¬ 0<l.length-1∨(l[l.length-1]!.hd.prev != ZB l[l.length-1-1]!.hd)=false)(hz:¬ l[l.length-1]!.txs.length=0)(h2:¬ 256<l[l.length-1]!.txs.length)(hr:(l[l.length-1]!.hd.root != KS F7 (l[l.length-1]!.txs.map ZM))=false):WZ l=0:=by
 unfold WZ;rw[z8 (q78 hp),z8 hz,z8 h2,z8 (λhn=>hn (X1.1 hr))]
theorem CF{e:Int}(he:WZ l=e)(h0:e≠0):YF l=e:=by unfold YF;rw[he,j7 h0]
theorem CI{e:Int}(h0:WZ l=0)(hi:i<l[l.length-1]!.txs.length)(hn:∀ q<i,q44 l q=0)(he:q44 l i=e)(h1:e≠0):YF l=e:=by
 unfold YF;rw[h0,z8 (by simp),LC hi hn (by rw[he];exact h1)];exact he
theorem WK(h0:WZ l=0)(hn:∀ q<l[l.length-1]!.txs.length,q44 l q=0):YF l=0:=by
 unfold YF;rw[h0,z8 (by simp),LD hn]
theorem u92(h1:¬ 0<l.length-1)(hz:l[l.length-1]!.txs.length=0):YF l=0:=WK (g42 h1 hz) (λq hq=>by omega)
theorem v74(hm:JU l[l.length-1]!.txs[i]! = false):q44 l i=1:=by unfold q44;rw[j7 (.inl hm)]
theorem v75(h:(N8 l[l.length-1]!.txs[i]! != decide (i=0))=true):q44 l i=1:=by unfold q44;rw[j7 (.inr (U8.1 h))]
theorem k39(hm:JU l[l.length-1]!.txs[i]! = true)(h:(N8 l[l.length-1]!.txs[i]! != decide (i=0))=false):q44 l i=DK (K6 l) ((K6 l).length-l[l.length-1]!.txs.length+i):=by
 unfold q44;rw[z8 (by rintro (h1|h1);rw[hm] at h1;cases h1;exact h1 (X1.1 h))]
theorem v09(h1:1<=l.length):l[l.length-1]!.txs.length<=(K6 l).length:=by
 have e:K6 l=O9 l (l.length-1+1):=by unfold K6;rw[show l.length-1+1=l.length by omega]
 rw[e,O9,q9,W4];omega
theorem x90{x:Int}(h:(x != 0)=true):x≠0:=U8.1 h
theorem x91{x:Int}(h:(x != 0)=false):x=0:=X1.1 h
theorem k07(hl:allBl l)(h:Nat):allBl (l.take h):=⟨by rw[v8];have:=hl.1;omega,λb hb=>hl.2 b (Q8 hb)⟩
theorem j12{h:Nat}(hh:h<l.length)(h0:∀ q<h,YF (l.take (q+1))=0)(ho:YF (l.take (h+1))≠0):UE l=(((h:Nat):Int),YF (l.take (h+1))):=by
 unfold UE;rw[LC (f:=λh=>YF (l.take (h+1))) hh h0 ho]
theorem j11(h0:∀ q<l.length,YF (l.take (q+1))=0):UE l=(0,0):=by
 unfold UE;rw[LD (f:=λh=>YF (l.take (h+1))) h0]
end
section
variable{all:List StS}{i k:Nat}{sc:Hs}
theorem y37(p:List LV)(h1:UF all[i]!.t.outs[k]! sc=true)(h2:(!UT all all.length 0 (all[i]!.id,nK k))=true):(p++GG all i sc k).map KK++[.agg [.agg [w7 all[i]!.id,.u32 (nK k)],.u64 all[i]!.t.outs[k]!.value,.int ((all[i]!.h:Nat):Int)]]=(p++GG all i sc (k+1)).map KK:=by
 rw[GG,j7 (by rw[h1,h2];rfl),<- w3,d8 (l₁:=p++GG all i sc k)];rfl
theorem z69(h1:UF all[i]!.t.outs[k]! sc=false):GG all i sc (k+1)=GG all i sc k:=by rw[GG,z8 (by rw[h1];exact m8)]
theorem z68(h2:(!UT all all.length 0 (all[i]!.id,nK k))=false):GG all i sc (k+1)=GG all i sc k:=by rw[GG,z8 (by rw[h2,Bool.and_false];exact m8)]
theorem q76(all:List StS)(i:Nat)(sc:Hs)(k:Nat):(GG all i sc k).length<=k:=by
 induction k with
 | zero=>exact z5 _
 | succ k ih=>
  rw[GG];split
  ·rw[q9,n7];omega
  ·omega
theorem FI(hl:allSt all)(sc:Hs)(i:Nat)(hi:i<=all.length):(NC all sc i).length<=1000*i:=by
 induction i with
 | zero=>exact z5 _
 | succ i ih=>
  have h1:=ih (by omega);have h2:=q76 all i sc all[i]!.t.outs.length;have h3:=(hl.get (show i<all.length by omega)).2.2.2;rw[NC,q9];omega
end
def u57:PlS:=⟨1,[],0⟩
def k17:Hs:=[231,155,213,129,128,172,12,181,29,207,96,119,66,81,24,204,218,33,184,163,212,8,183,133,94,163,218,41,212,96,191,191]
def u58:List UInt8:=[0,20,138,240,216,11,215,197,179,88,156,148,224,101,219,16,246,18,123,165,146,36]
def g87:List UInt8:=[0,20,143,101,146,43,117,200,233,178,99,29,243,16,83,232,38,87,125,237,15,141]
def u56:Hs:=[88,128,126,102,154,37,48,62,205,63,43,185,6,163,233,243,86,103,198,107,96,78,127,163,32,14,156,156,58,151,93,141]
def g86:TxS:=⟨1,[⟨zero32,4294967295,[1,0,0],0,[]⟩],[⟨5000,u58⟩],0⟩
def g13:TxS:=⟨1,[⟨zero32,4294967295,[2,0,1],0,[]⟩],[⟨5000,g87⟩],1⟩
def NJ:BlkS:=⟨JZ,[]⟩
def VG:BlkS:=⟨⟨1,[61,203,117,189,137,197,20,104,21,221,192,209,215,49,76,183,70,25,253,247,43,253,106,115,55,132,161,91,255,182,29,187],k17,1001,545259519,0⟩,[g86]⟩
theorem g10:BN 1=u58:=by kernel_rfl
theorem g09:NG u58=u56:=by kernel_rfl
theorem g12:ZL [NJ] u57 0=(VG,true):=by kernel_rfl

def g67(p:PvS):Prop:=p.t.ins.length<=8/\p.t.outs.length<=8/\∀ j<p.t.outs.length,p.t.outs[j]!.script.length<=200
instance(p:PvS):Decidable (g67 p):=by unfold g67;infer_instance
def x03(s:SpS):D:=.agg [.u8 s.from_,.bool s.two,.sl (some 5) 1 (s.to.map .u8),.u8 s.part,.u8 s.extra]
def q83(x:PlS):D:=.agg [.u8 x.pays,.sl (some 117) 5 (x.spends.map x03),.u8 x.step]
theorem j58(s:SpS):(x03 s).brw=x05 s:=by
 simp only[x03,x05,D.brw,D1,d9,Z8];rw[J6 (λ_=>rfl)]
theorem j60(x:PlS):(q83 x).brw=SS x:=by
 simp only[q83,SS,D.brw,D1,d9,Z8];rw[XP j58]
theorem j59(l:List PlS):(D.sl (some 70) 3 (l.map q83)).brw=.sl none 3 (l.map SS):=by
 simp only[D.brw,D1];rw[XP j60]
def v03:PlS:=⟨2,[⟨0,false,[1,3],0,0⟩],0⟩
def lqPs:List PlS:=[u57,v03]
def g97:List UInt8:=[0,20,241,3,30,15,204,120,101,185,91,61,162,200,70,20,78,248,234,9,29,146]
def g57:TxS:=⟨2,[⟨k17,0,[],0,[]⟩],[⟨2500,u58⟩,⟨2500,g97⟩],1⟩
def y64(root:Hs):HdS:=⟨1,[215,61,162,246,93,180,235,194,32,115,90,88,68,108,218,208,148,132,148,23,57,171,154,49,135,88,167,104,231,2,56,86],root,1002,545259519,3⟩
def NF:Hs:=[169,227,53,181,90,41,200,102,251,238,226,218,133,166,201,127,116,54,227,65,41,198,31,250,172,196,52,67,10,228,48,128]
def lqB2:BlkS:=⟨y64 NF,[g13,g57]⟩
def g98:BlkS:=⟨y64 zero32,[g13,g57]⟩
def lqL:List BlkS:=[NJ,VG,lqB2]
def lqM:List BlkS:=[NJ,VG,g98]
def k52:Hs:=[250,141,206,50,89,80,28,207,56,9,240,75,244,243,88,235,236,172,15,144,59,180,206,229,125,19,125,201,237,145,162,147]
def g58:Hs:=[227,80,243,196,215,137,29,233,204,134,10,30,75,249,126,190,6,11,71,113,43,66,34,233,57,177,143,91,54,173,171,115]
theorem g54:ZL [NJ,VG] v03 1=(lqB2,true):=by kernel_rfl
theorem v86:BJ lqPs=lqL:=by
 have h1:f9 lqPs 1=[NJ,VG]:=by
  show(if(ZL [NJ] u57 0).2=true then[NJ]++[(ZL [NJ] u57 0).1] else[NJ])=_;rw[g12];rfl
 show f9 lqPs 2=_;rw[f9,h1];show(if(ZL [NJ,VG] v03 1).2=true then[NJ,VG]++[(ZL [NJ,VG] v03 1).1] else[NJ,VG])=_;rw[g54];rfl
theorem v02:k89 lqPs:=λx hx s hs=>by
 rcases w8.1 hx with rfl|hx
 ·cases hs
 ·rw[g8.1 hx] at hs;rw[g8.1 hs];exact(by decide:2<=140737488355328)
theorem WF:allBl lqL:=by rw[<- v86];exact(MF lqPs).1
theorem w16:allBl lqM:=⟨by decide,λb hb=>by
 have h:=WF.2;have hb3:=h lqB2 (by simp[lqL]);simp only[lqM,w8,E7,or_false] at hb
 rcases hb with rfl|rfl|rfl
 ·exact h _ (by simp[lqL])
 ·exact h _ (by simp[lqL])
 ·exact⟨⟨hb3.hd.1,rfl⟩,hb3.txs,hb3.sm,hb3.len⟩⟩
theorem g55{P:Program}{f:FuncId}{ds:List D}{o:Option Nat}{z:Nat}(h:Fn P gl f ds (.sl o z ((BJ lqPs).map J7))):Fn P gl f ds (.sl o z (lqL.map J7)):=by rw[<- v86];exact h
theorem g52:GU 3=g58:=by kernel_rfl
theorem v85:GU 1=u56:=by unfold GU;rw[g10,g09]
theorem k51:s3 lqL=(0,0):=by kernel_rfl
theorem k50:s3 lqM=(2,15):=by kernel_rfl
theorem g53:BY lqL u56=[(1,k17),(2,k52)]:=by kernel_rfl
theorem g51:YR lqL u56=[((k52,0),2500,2)]:=by kernel_rfl
theorem g56:g05 (YR lqM g58)=2500:=by kernel_rfl
theorem IA:BY lqL (GU 1)=[(1,k17),(2,k52)]:=by rw[v85,g53]
theorem AG:YR lqL (GU 1)=[((k52,0),2500,2)]:=by rw[v85,g51]
theorem y63:g05 (YR lqM (GU 3))=2500:=by rw[g52,g56]
theorem y62:(lqL.map J7).set 2 (.agg [.agg [.u32 (y64 NF).ver,w7 (y64 NF).prev,w7 zero32,.u32 (y64 NF).time,.u32 (y64 NF).bits,.u32 (y64 NF).nonce],.sl none 4 (lqB2.txs.map r8)])=lqM.map J7:=rfl
theorem w15:Wk (.sl (some 70) 3 [.agg [.u8 1,.nils,.u8 0],.agg [.u8 2,.sl (some 117) 5 [.agg [.u8 0,.bool false,.sl (some 5) 1 [.u8 1,.u8 3],.u8 0,.u8 0]],.u8 0]]) (.sl (some 70) 3 (lqPs.map q83)):=
 .slL (.cons (.aggL (.cons (.refl _) (.cons (.nils _ _) (.cons (.refl _) .nil)))) (.cons (.refl _) .nil))
section
open Go.Proofs
set_option maxHeartbeats 1000000 in
theorem z25(l:List BlkS)(hl:u07 l):Fn Tryz.prog gl 11 [.sl none 69 (l.map J7)] (.bool (decide (w85 l))):=by
 refine Fo 119 Tryz.func11 O λC hC hD=>?_;have hl1:=hl.1;refine u4 1 (y1 2) (V1 0) ⟨i6 O,Zt⟩ ?_;refine W.seq (u4 3 (y3 10 11 12) (V2 0 12) ⟨zV O,P8 O,OE 20 O,Zt⟩ ?_);refine g7 O (λhc12=>?_) (λhc12=>?_)
 ·refine u4 1 (y1 2) (V1 2) ⟨i6 O,Zt⟩ ?_;exact W.ret (En O (g6 D.bool (dF (λh=>by have:=h.1;omega)).symm))
 ·refine W.skip (W.seq (u4 1 (y1 3) (V2 0 3) ⟨O3 0 O,Zt⟩ ?_));refine W.block ?_;refine UK l.length (λq__=>∀ a<q__,w86 l[a]!) (λi=>⟨119,[(0,.sl none 69 (l.map J7)),(3,.int ((i:Nat):Int))],[]⟩) ⟨v6 _,λj h=>absurd h (g9 _)⟩ O λi hinv=>?_;obtain⟨hi,hok⟩:=hinv;have hi:i<=l.length:=hi;have hok:∀ a<i,w86 l[a]!:=hok;refine W.seq (u4 4 (y4 13 14 15 16) (V3 0 3 16) ⟨zV O,zV O,P8 O,zS O,Zt⟩ ?_);refine g7 O (λhc16=>?_) (λhc16=>?_)
  ·refine W.skip (W.seq (W.block (W.seq (u4 7 (y7 19 20 21 22 23 24 25) (V3 0 3 25) ⟨zV O,zV O,zI i O,r7 O,zL O (mG l),P8 O,OE 12 O,Zt⟩ ?_))));refine g7 O (λhc25=>?_) (λhc25=>?_)
   ·refine u4 1 (y1 2) (V1 2) ⟨i6 O,Zt⟩ ?_;exact W.ret (En O (g6 D.bool (dF (λh=>by have:=(h.2 i hc16).1;omega)).symm))
   ·refine W.skip (W.seq ?_);have hbi:=hl.2 _ (X0 hc16);have hbi1:=hbi.1;refine n4 1 (y1 4) (V3 0 3 4) ⟨O3 0 O,Zt⟩ ?_;refine W.block ?_;refine UK (l[i]!.txs.length) (λq__=>∀ a<q__,fewT l[i]!.txs[a]!) (λj=>⟨119,[(0,.sl none 69 (l.map J7)),(3,.int ((i:Nat):Int)),(4,.int ((j:Nat):Int))],[]⟩) ⟨v6 _,λj h=>absurd h (g9 _)⟩ O λj hinv=>?_;obtain⟨hj,hok2⟩:=hinv;have hj:j<=l[i]!.txs.length:=hj;have hok2:∀ a<j,fewT l[i]!.txs[a]!:=hok2;refine W.seq (u4 8 (y8 26 27 28 29 30 31 32 33) (V4 0 3 4 33) ⟨zV O,zV O,zV O,zI i O,r7 O,zL O (mG l),P8 O,zS O,Zt⟩ ?_);refine g7 O (λhc33=>?_) (λhc33=>?_)
    ·refine W.skip (W.seq (W.block (n5 10 (y8 36 37 38 39 40 41 42 43) (V4 0 3 4 43) ⟨zV O,zV O,zI i O,r7 O,zL O (mG l),zV O,zI j O,zL O (b8 (l:=l[i]!.txs) bU),Zt⟩ O (I9 O (M9 O (tW (V4 0 3 4 5) (B2 5) 119 O ?_))))));refine W.seq (W.seq ?_);by_cases h8:8<l[i]!.txs[j]!.ins.length
     ·have hth:=hbi.2 _ (X0 (show j<l[i]!.txs.length by omega));have hth1:=hth.ins;have hth2:=hth.outs;refine N0 10 [.y 44 _,.y 45 _,.y 46 _,.y 47 _,.y 48 _,.x 49,.x 50,.x 51,.x 52,.y 53 _] (V5 0 3 4 5 53) ⟨aU (xF O),aU (xL O),aU<|P8 O,aU<|OE 8 O,xM O,R3 O (dT h8),R3 O (dT h8),R3 O (dT h8),R3 O (dT h8),aU<|EW O (dT h8) (kB true O),Zt⟩ ?_;refine G6 O (O) ?_;refine W.seq ?_;refine E9 [] (B2 5) 119 O ?_;refine H6 [] (bx':=[]) O O O (o8 hD O) ?_;refine n4 1 (y1 2) (V1 2) ⟨i6 O,Zt⟩ ?_;exact W.ret (En O (g6 D.bool (dF (λh=>by have:=((h.2 i hc16).2 j hc33).1;omega)).symm))
     ·have hth:=hbi.2 _ (X0 (show j<l[i]!.txs.length by omega));have hth1:=hth.ins;have hth2:=hth.outs;refine N0 10 (VU 44 45 46 47 48 49 50 51 52 53) (V5 0 3 4 5 53) ⟨aU (xF O),aU (xL O),aU<|P8 O,aU<|OE 8 O,xM O,aN O (dF h8) (xF O),aN O (dF h8) (xL O),aN O (dF h8)<|P8 O,aN O (dF h8)<|OE 8 O,aU<|zF O (dF h8),Zt⟩ ?_;refine g7 O (λhc53=>?_) (λhc53=>?_)
      ·refine W.seq ?_;refine E9 [] (B2 5) 119 O ?_;refine H6 [] (bx':=[]) O O O (o8 hD O) ?_;refine n4 1 (y1 2) (V1 2) ⟨i6 O,Zt⟩ ?_;exact W.ret (En O (g6 D.bool (dF (λh=>by have:=((h.2 i hc16).2 j hc33).2.1;omega)).symm))
      ·refine W.skip (u4 1 (y1 6) (V5 0 3 4 5 6) ⟨O3 0 O,Zt⟩ ?_);refine W.seq (u4 1 (y1 7) (V6 0 3 4 5 6 7) ⟨O3 0 O,Zt⟩ ?_);refine W.block ?_;refine P2 (l[i]!.txs[j]!.ins.length) (λq=>⟨119,[(0,.sl none 69 (l.map J7)),(3,.int ((i:Nat):Int)),(4,.int ((j:Nat):Int)),(5,.ptr 5 0 []),(6,.int (((w82 l[i]!.txs[j]! q):Nat):Int)),(7,.int ((q:Nat):Int))],[(5,.var (r8 l[i]!.txs[j]!))]⟩) O λq hq=>?_;refine W.seq (u4 5 (y5 54 55 56 57 58) (V7 0 3 4 5 6 7 58) ⟨zV O,xF O,xL O,P8 O,zS O,Zt⟩ ?_);refine g7 O (λhc58=>?_) (λhc58=>?_)
       ·refine W.skip (W.seq (W.block (W.seq ?_)));have hxq:=hth.inw _ (X0 (show q<l[i]!.txs[j]!.ins.length by omega));have hiq:=w81 hth q (by omega);refine R5 18 [0,0,2,0,14,30,62,126,255,0,512,0,3584,7680,15872,32256,65535,131071] hP dU (g79 61 62 63 64 65 66 67 68 69 70 71 72 73 74 75 76 77 6) (V6 0 3 4 5 6 7) ⟨zV O,xF O,xL O,zV O,zI q O,r7 O,zL O (b8 (l:=l[i]!.txs[j]!.ins) bU),P8 O,zP O,xF O,xL O,zV O,zI q O,r7 O,zL O (b8 (l:=l[i]!.txs[j]!.ins) bU),P8 O,zP O,zA O,Zt⟩ O (tW (V6 0 3 4 5 6 7) (B2 5) 119 O ?_);refine u4 1 (y1 8) (V7 0 3 4 5 6 7 8) ⟨O3 0 O,Zt⟩ ?_;refine W.block ?_;refine P2 (l[i]!.txs[j]!.ins[q]!.wit.length) (λw=>⟨119,[(0,.sl none 69 (l.map J7)),(3,.int ((i:Nat):Int)),(4,.int ((j:Nat):Int)),(5,.ptr 5 0 []),(6,.int (((w82 l[i]!.txs[j]! q+l[i]!.txs[j]!.ins[q]!.script.length+l[i]!.txs[j]!.ins[q]!.wit.length+q45 l[i]!.txs[j]!.ins[q]! w):Nat):Int)),(7,.int ((q:Nat):Int)),(8,.int ((w:Nat):Int))],[(5,.var (r8 l[i]!.txs[j]!))]⟩) O λw hw=>?_;refine W.seq (u4 9 (y9 78 79 80 81 82 83 84 85 86) (V8 0 3 4 5 6 7 8 86) ⟨zV O,xF O,xL O,zV O,zI q O,r7 O,zL O (b8 (l:=l[i]!.txs[j]!.ins) bU),P8 O,zS O,Zt⟩ ?_);refine g7 O (λhc86=>?_) (λhc86=>?_)
        ·refine W.skip (W.seq (W.block ?_));have hww:=z94 l[i]!.txs[j]!.ins[q]! (show w+1<=l[i]!.txs[j]!.ins[q]!.wit.length by omega);rw[q45] at hww;refine n4 13 (v96 89 90 91 92 93 94 95 96 97 98 99 100 6) (V7 0 3 4 5 6 7 8) ⟨zV O,xF O,xL O,zV O,zI q O,r7 O,zL O (b8 (l:=l[i]!.txs[j]!.ins) bU),zV O,zI w O,zL O (b8 (l:=(l[i]!.txs[j]!.ins)[q]!.wit) bU),P8 O,zP O,zA O,Zt⟩ ?_;refine n4 3 (y3 87 88 8) (V7 0 3 4 5 6 7 8) ⟨zV O,P1 1 O,zA O,Zt⟩ ?_;exact⟨bU,(by rw[q45,U5 _ (q45 _ _) _]<;>rfl)⟩
        ·obtain rfl:w=l[i]!.txs[j]!.ins[q]!.wit.length:=by omega
         refine W.exit ?_;refine n4 3 (y3 59 60 7) (V6 0 3 4 5 6 7) ⟨zV O,P1 1 O,zA O,Zt⟩ ?_;exact⟨bU,rfl⟩
       ·obtain rfl:q=l[i]!.txs[j]!.ins.length:=by omega
        refine W.exit (W.seq (u4 1 (y1 9) (V6 0 3 4 5 6 9) ⟨O3 0 O,Zt⟩ ?_));refine W.block ?_;refine P2 (l[i]!.txs[j]!.outs.length) (λk=>⟨119,[(0,.sl none 69 (l.map J7)),(3,.int ((i:Nat):Int)),(4,.int ((j:Nat):Int)),(5,.ptr 5 0 []),(6,.int (((u50 l[i]!.txs[j]! k):Nat):Int)),(9,.int ((k:Nat):Int))],[(5,.var (r8 l[i]!.txs[j]!))]⟩) O λk hk=>?_;refine W.seq (u4 5 (y5 101 102 103 104 105) (V7 0 3 4 5 6 9 105) ⟨zV O,xF O,xL O,P8 O,zS O,Zt⟩ ?_);refine g7 O (λhc105=>?_) (λhc105=>?_)
        ·refine W.skip (W.seq (W.block ?_));have hok_:=hth.outw _ (X0 (show k<l[i]!.txs[j]!.outs.length by omega));have hos:=y81 hth k (by omega);refine n4 10 (VU 108 109 110 111 112 113 114 115 116 6) (V6 0 3 4 5 6 9) ⟨zV O,xF O,xL O,zV O,zI k O,r7 O,zL O (b8 (l:=l[i]!.txs[j]!.outs) bU),P8 O,zP O,zA O,Zt⟩ ?_;refine n4 3 (y3 106 107 9) (V6 0 3 4 5 6 9) ⟨zV O,P1 1 O,zA O,Zt⟩ ?_;exact⟨bU,rfl⟩
        ·obtain rfl:k=l[i]!.txs[j]!.outs.length:=by omega
         refine W.exit (W.seq ?_);refine E9 (V4 0 3 4 6) (B2 5) 119 O ?_;refine H6 [] (bx':=[]) O O O (o8 hD O) ?_;refine n4 2 (y2 117 118) (V4 0 3 4 118) ⟨zV O,OE 1000 O,Zt⟩ ?_;refine g7 O (λhc118=>?_) (λhc118=>?_)
         ·refine u4 1 (y1 2) (V1 2) ⟨i6 O,Zt⟩ ?_;exact W.ret (En O (g6 D.bool (dF (λh=>by have:=((h.2 i hc16).2 j hc33).2.2;omega)).symm))
         ·refine W.skip ?_;refine n4 3 (y3 34 35 4) (V3 0 3 4) ⟨zV O,P1 1 O,zA O,Zt⟩ ?_;exact⟨⟨(by show j+1<=l[i]!.txs.length;omega),v91 hok2 ⟨by omega,by omega,by omega⟩⟩,rfl⟩
    ·obtain rfl:j=l[i]!.txs.length:=by omega
     refine W.exit ?_;refine n4 3 (y3 17 18 3) (V2 0 3) ⟨zV O,P1 1 O,zA O,Zt⟩ ?_;exact⟨⟨(by show i+1<=l.length;omega),v91 hok ⟨by omega,hok2⟩⟩,rfl⟩
  ·obtain rfl:i=l.length:=by omega
   refine W.exit (u4 1 (y1 2) (V1 2) ⟨i6 O,Zt⟩ ?_);exact W.ret (En O (g6 D.bool (dT ⟨by omega,hok⟩).symm))
end
section
open Go.Proofs
theorem E0(b:List UInt8)(x:UInt64)(n:Nat)(hn:n<=8)(hb:b.length<=10000000):FnB Tryz.prog gl 101 [.ptr 0 0 [],.u64 x,.int ((n:Nat):Int)] [(0,.var (.agg [.sl (some 5) 1 (b.map D.u8)]))] (.tup []) [(0,.var (.agg [.sl (some 5) 1 ((b++N4 x n).map D.u8)]))] []:=by
 refine FnB.of (n:=23) (ids:=[0]) Tryz.func101 rfl rfl rfl (nU rfl) λC hC hD=>?_;refine u4 2 (y2 6 7) (V4 0 1 6 7) ⟨zV O,CP (kI 0 O) O,Zt⟩ ?_;refine W.block ?_;refine P2 n (λi=>⟨23,[(0,.ptr 0 0 []),(1,.u64 (x20 x i)),(6,.int ((n:Nat):Int)),(7,.int ((i:Nat):Int))],[(0,.var (.agg [.sl (some 5) 1 ((b++N4 x i).map D.u8)]))]⟩) (by simp only[N4,m4];rfl) λi hi=>?_;have hll:=K0 x i;refine u4 1 (y1 8) (V5 0 1 6 7 8) ⟨zS O,Zt⟩ ?_;refine W.seq ?_;refine g7 O (λhc8=>?_) (λhc8=>?_)
 ·refine W.skip (W.seq (W.block (n5 12 (y8 9 10 11 12 13 14 15 16) (V7 0 1 6 7 9 13 16) ⟨zV O,zV O,DY O,xF O,λ_ B H K=>R.ldO (K 12 _ O) (B 0 _ O) O H,zV O,zW O,λ_ _ H K=>J3 (z:=1) (.cons (eU K 15 O) .nil) ⟨⟨O,O,O⟩,Zt⟩ O H dU,Zt⟩ O (⟨O,_,NZ (gU 13 O) (xU 0 O) O O O O (gU 13 O) (SrcO.sc (SC.sl (gU 16 O)) (G5 O)) (show _=((b++N4 x (i+1)).map D.u8) from(by simp[N4])) bU nU dU dU,⟨O,_,R.nilcP (gU 9 O) nU,⟨O,_,R.fdP (gU 18 O) nU,⟨O,_,e9 (gU 19 O) (xU 0 O) O (gU 17 O) O O (by rfl) (by rfl) O O,tW (V4 0 1 6 7) (B2 0) 23 O ?_⟩⟩⟩⟩))));refine n4 3 (y3 20 21 1) (V4 0 1 6 7) ⟨zV O,λ_ _ H K=>R.bin (eU K 20 O) (kW (.int .u64 8) (.u64 8) O) O bV H,zA O,Zt⟩ ?_;refine n4 2 (y2 22 7) (V4 0 1 6 7) ⟨P1 1 O,zV O,Zt⟩ ?_;exact⟨bU,rfl⟩
 ·obtain rfl:i=n:=by omega
  refine W.exit ?_;exact S0 (r:=.dead) (.inl O) O (O) ⟨O,Zt⟩
theorem CN(b:List UInt8)(n:Nat)(hb:b.length<=9000000):FnB Tryz.prog gl 142 [.ptr 0 0 [],.int ((n:Nat):Int)] [(0,.var (.agg [.sl (some 5) 1 (b.map D.u8)]))] (.tup []) [(0,.var (.agg [.sl (some 5) 1 ((b++D7 n).map D.u8)]))] []:=by
 refine FnB.of (n:=34) (ids:=[0]) Tryz.func142 rfl rfl rfl (nU rfl) λC hC hD=>?_;refine u4 3 (y3 5 6 4) (V2 0 4) ⟨zV O,λ_ _ H K=>W5 (d:=.u64 (cU n)) (eU K 5 O) O (O) H,zA O,Zt⟩ ?_;refine W.block (u4 3 (y3 13 14 12) (V3 0 4 12) ⟨zV O,ZP O (kW (.int .u64 253) (.u64 253) O),zA O,Zt⟩ ?_);refine W.cond O (λhc12=>?_) (λhc12=>?_)
 ·refine L8 3 (y2 15 16) (V2 15 16) ⟨zV O,zV O,Zt⟩ O (⟨O,_,R.callB [(0,0)] hC (E0 b (cU n) 1 dU (by first|omega|(simp only[q9,K0,j2,j3];omega)|simp)) (EvB.cons (gV 15 O) O O O (EvB.cons (gV 16 O) O O O (EvB.cons (kI 1 O) O O O EvB.nil))) O ⟨O,Zt⟩ ⟨O,Zt⟩ O O O O O O nU,tW [] (B2 0) 34 O ?_⟩);exact S0 (r:=.dead) (.inl O) O (by simp only[D7,j7 (v7 hc12)];rfl) ⟨O,Zt⟩
 ·refine u4 3 (y3 19 20 18) (V3 0 4 18) ⟨zV O,ZP O (kW (.int .u64 65535) (.u64 65535) O),zA O,Zt⟩ ?_;refine W.cond O (λhc18=>?_) (λhc18=>?_)
  ·refine n5 2 (y1 21) (V3 0 4 21) ⟨zV O,Zt⟩ O (⟨O,_,R.callB [(0,0)] hC (E0 b 253 1 dU (by first|omega|(simp only[q9,K0,j2,j3];omega)|simp)) (EvB.cons (gV 21 O) O O O (EvB.cons (kW (.int .u64 253) (.u64 253) O) O O O (EvB.cons (kI 1 O) O O O EvB.nil))) O ⟨O,Zt⟩ ⟨O,Zt⟩ O O O O O O nU,tW (V2 0 4) (B2 0) 34 O ?_⟩);refine L8 3 (y2 23 24) (V2 23 24) ⟨zV O,zV O,Zt⟩ O (⟨O,_,R.callB [(0,0)] hC (E0 (b++N4 253 1) (cU n) 2 dU (by first|omega|(simp only[q9,K0,j2,j3];omega)|simp)) (EvB.cons (gV 23 O) O O O (EvB.cons (gV 24 O) O O O (EvB.cons (kI 2 O) O O O EvB.nil))) O ⟨O,Zt⟩ ⟨O,Zt⟩ O O O O O O nU,tW [] (B2 0) 34 O ?_⟩);exact S0 (r:=.dead) (.inl O) O (by simp only[D7,z8 (d6 hc12),j7 (v7 hc18),w3];rfl) ⟨O,Zt⟩
  ·refine u4 3 (y3 27 28 26) (V3 0 4 26) ⟨zV O,ZP O (kW (.int .u64 4294967295) (.u64 4294967295) O),zA O,Zt⟩ ?_;refine W.cond O (λhc26=>?_) (λhc26=>?_)
   ·refine n5 2 (y1 29) (V3 0 4 29) ⟨zV O,Zt⟩ O (⟨O,_,R.callB [(0,0)] hC (E0 b 254 1 dU (by first|omega|(simp only[q9,K0,j2,j3];omega)|simp)) (EvB.cons (gV 29 O) O O O (EvB.cons (kW (.int .u64 254) (.u64 254) O) O O O (EvB.cons (kI 1 O) O O O EvB.nil))) O ⟨O,Zt⟩ ⟨O,Zt⟩ O O O O O O nU,tW (V2 0 4) (B2 0) 34 O ?_⟩);refine L8 3 (y2 31 32) (V2 31 32) ⟨zV O,zV O,Zt⟩ O (⟨O,_,R.callB [(0,0)] hC (E0 (b++N4 254 1) (cU n) 4 dU (by first|omega|(simp only[q9,K0,j2,j3];omega)|simp)) (EvB.cons (gV 31 O) O O O (EvB.cons (gV 32 O) O O O (EvB.cons (kI 4 O) O O O EvB.nil))) O ⟨O,Zt⟩ ⟨O,Zt⟩ O O O O O O nU,tW [] (B2 0) 34 O ?_⟩);exact S0 (r:=.dead) (.inl O) O (by simp only[D7,z8 (d6 hc12),z8 (d6 hc18),j7 (v7 hc26),w3];rfl) ⟨O,Zt⟩
   ·refine n5 2 (y1 7) (V3 0 4 7) ⟨zV O,Zt⟩ O (⟨O,_,R.callB [(0,0)] hC (E0 b 255 1 dU (by first|omega|(simp only[q9,K0,j2,j3];omega)|simp)) (EvB.cons (gV 7 O) O O O (EvB.cons (kW (.int .u64 255) (.u64 255) O) O O O (EvB.cons (kI 1 O) O O O EvB.nil))) O ⟨O,Zt⟩ ⟨O,Zt⟩ O O O O O O nU,tW (V2 0 4) (B2 0) 34 O ?_⟩);refine L8 3 (y2 9 10) (V2 9 10) ⟨zV O,zV O,Zt⟩ O (⟨O,_,R.callB [(0,0)] hC (E0 (b++N4 255 1) (cU n) 8 dU (by first|omega|(simp only[q9,K0,j2,j3];omega)|simp)) (EvB.cons (gV 9 O) O O O (EvB.cons (gV 10 O) O O O (EvB.cons (kI 8 O) O O O EvB.nil))) O ⟨O,Zt⟩ ⟨O,Zt⟩ O O O O O O nU,tW [] (B2 0) 34 O ?_⟩);exact S0 (r:=.dead) (.inl O) O (by simp only[D7,z8 (d6 hc12),z8 (d6 hc18),z8 (d6 hc26),w3];rfl) ⟨O,Zt⟩
theorem FK(b x:List UInt8)(hb:b.length<=8000000)(hx:x.length<=1000000):FnB Tryz.prog gl 143 [.ptr 0 0 [],.sl none 1 (x.map D.u8)] [(0,.var (.agg [.sl (some 5) 1 (b.map D.u8)]))] (.tup []) [(0,.var (.agg [.sl (some 5) 1 ((b++UR x).map D.u8)]))] []:=by
 refine FnB.of (n:=17) (ids:=[0]) Tryz.func143 rfl rfl rfl (nU rfl) λC hC hD=>?_;refine n5 4 (y3 4 5 6) (V4 0 1 4 6) ⟨zV O,zV O,P8 O,Zt⟩ O (⟨O,_,R.callB [(0,0)] hC (CN b x.length bO) (EvB.cons (gV 4 O) O O O (EvB.cons (gV 6 O) O O O EvB.nil)) O ⟨O,Zt⟩ ⟨O,Zt⟩ O O O O O O nU,tW (V2 0 1) (B2 0) 17 O ?_⟩);have hcl:=I7 x.length;refine L8 10 (y6 8 9 10 11 12 13) (V3 8 12 13) ⟨zV O,zV O,DY O,xF O,λ_ B H K=>R.ldO (K 11 _ O) (B 0 _ O) O H,zV O,Zt⟩ O (⟨O,_,NZ (gU 12 O) (xU 0 O) O O O O (gU 12 O) (SrcO.sc (SC.sl (gU 13 O)) (P3 (λ_=>rfl))) (EI) bU nU dU dU,⟨O,_,R.nilcP (gU 8 O) nU,⟨O,_,R.fdP (gU 15 O) nU,⟨O,_,e9 (gU 16 O) (xU 0 O) O (gU 14 O) O O (by rfl) (by rfl) O O,tW [] (B2 0) 17 O ?_⟩⟩⟩⟩);exact S0 (r:=.dead) (.inl O) O (by simp only[UR,w3];rfl) ⟨O,Zt⟩
theorem q51(b:List UInt8)(t:TxS)(hwf:t.wf)(hb:b.length<=100):FnB Tryz.prog gl 102 [.ptr 0 0 [],r8 t] [(0,.var (.agg [.sl (some 5) 1 (b.map D.u8)]))] (.tup []) [(0,.var (.agg [.sl (some 5) 1 ((b++ZT t).map D.u8)]))] []:=by
 refine FnB.of (n:=68) (ids:=[0]) Tryz.func102 rfl rfl rfl (nU rfl) λC hC hD=>?_;have hc1:=I7 t.ins.length;have hc2:=I7 t.outs.length;have h1:=hwf.ins;have h2:=hwf.outs;have h3:=hwf.insb _ (z5 _);have h4:=hwf.outsb _ (z5 _);refine n5 1 [] (V2 0 1) Zt O (⟨O,_,R.box (gV 1 O) O O nU,tW (V2 0 3) (B7 3 0) 68 O ?_⟩);refine n5 5 (y4 8 9 10 11) (V4 0 3 8 11) ⟨zV O,xF O,xL O,P8 O,Zt⟩ O (⟨O,_,R.callB [(0,0)] hC (CN b t.ins.length bO) (EvB.cons (gV 8 O) O O O (EvB.cons (gV 11 O) O O O EvB.nil)) O ⟨O,Zt⟩ ⟨O,Zt⟩ O O O O O O nU,tW (V2 0 3) (B7 3 0) 68 O ?_⟩);refine W.seq (u4 4 (y4 13 14 15 16) (V5 0 3 14 15 16) ⟨xF O,xL O,P8 O,CP (kI 0 O) O,Zt⟩ ?_);refine W.block ?_;refine P2 t.ins.length (λi=>⟨68,[(0,.ptr 0 0 []),(3,.ptr 3 0 []),(14,.sl none 36 (t.ins.map YL)),(15,.int ((t.ins.length:Nat):Int)),(16,.int ((i:Nat):Int))],[(3,.var (.agg [.u32 t.ver,.sl none 36 (t.ins.map YL),.sl none 2 (t.outs.map r9),.u32 t.lock])),(0,.var (.agg [.sl (some 5) 1 ((b++D7 t.ins.length++KG t.ins i).map D.u8)]))]⟩) (by simp only[KG,m4];rfl) λi hi=>?_;have hib:=hwf.insb i hi
 have hx:i<t.ins.length->t.ins[i]!.tx.length=32/\t.ins[i]!.script.length<=1000000:=λh=>⟨hwf.hash _ (X0 h),hwf.insScript h⟩
 have hil:=QP t.ins[i]!.script;refine u4 1 (y1 17) (V6 0 3 14 15 16 17) ⟨zS O,Zt⟩ ?_;refine W.seq ?_;refine g7 O (λhc17=>?_) (λhc17=>?_)
 ·refine W.skip (W.seq (W.block (n5 4 (y2 18 19) (V6 0 3 14 15 16 19) ⟨zI i O,zL O (mG t.ins),Zt⟩ O (I9 O (M9 O (tW (V6 0 3 5 14 15 16) (i5 5 3 0) 68 O ?_))))));refine W.seq ?_;refine QE (m:=9) (an:=[0,0,2,6,14,0,32,96,254,511,1023,2047]) (its:=(y9 20 21 22 23 24 25 26 27 28)) (ks:=[(8,24)]) (kk:=[]) (efs:=[(8,(B2 0))]) (live:=[0,3,5,14,15,16,20,28]) (env':=(V8 0 3 5 14 15 16 20 28)) (nd:=40) (bx1:=(i5 0 5 3)) hP dU O ⟨⟨85,O⟩,nU O,O,O,O,O⟩ (        ⟨⟨O,nU O,O,λ_ τ hb ht hτ=>R.mov (evt (hτ 0 _ O)) O ht⟩,⟨⟨O,nU O,O,λ_ τ hb ht hτ=>R.mov (evt (hτ 0 _ O)) O ht⟩,⟨⟨O,nU O,O,λ_ τ hb ht hτ=>R.nilcP (hτ 21 _ O) ht⟩,⟨⟨O,nU O,O,λ_ τ hb ht hτ=>R.fdP (hτ 22 _ O) ht⟩,⟨⟨O,nU O,O,λ_ τ hb ht hτ=>R.ldO (hτ 23 _ O) (hb 0 _ O) O ht⟩,⟨⟨O,nU O,O,λ_ τ hb ht hτ=>R.fdP (hτ 5 _ O) ht⟩,⟨⟨O,nU O,O,λ_ τ hb ht hτ=>R.fdP (hτ 25 _ O) ht⟩,⟨⟨O,nU O,O,λ_ τ hb ht hτ=>QO (0) (32) (32) (hτ 26 _ O) (hb 5 _ O) O O O O O bU bU O ht⟩,⟨⟨O,O,⟨O,nU O⟩,(u38 (s:=24) (id:=0) O O O O O (λτ hb hτ=>(SrcO.sc (SC.va (hτ 27 _ O O O) (hb 5 _ dU O) O bU) (QT (λ_=>rfl)))) (show _=((((b++D7 t.ins.length++KG t.ins i)++t.ins[i]!.tx)).map D.u8) from(by rw[J0,Q0 (by rw[z6,(hx hc17).1];exact z5 _)];simp)) bU dU dU O nU)⟩,Zt⟩⟩⟩⟩⟩⟩⟩⟩⟩) O O O (n':=68) O (⟨O,_,R.nilcP (gU 20 O) nU,⟨O,_,R.fdP (gU 29 O) nU,⟨O,_,e9 (gU 30 O) (xU 0 O) O (gU 28 O) O O (by rfl) (by rfl) O O,⟨[0,3,5,14,15,16],(V6 0 3 5 14 15 16),(i5 0 5 3),68,O,O,O, ?_⟩⟩⟩⟩);refine n5 6 (y5 31 32 33 34 35) (V8 0 3 5 14 15 16 31 35) ⟨zV O,xF O,xF O,xL O,zW O,Zt⟩ O (⟨O,_,R.callB [(0,0)] hC (E0 ((b++D7 t.ins.length++KG t.ins i)++t.ins[i]!.tx) t.ins[i]!.n.toUInt64 4 dU (by first|omega|(simp only[q9,K0,j2,j3];omega)|simp)) (EvB.cons (gV 31 O) O O O (EvB.cons (gV 35 O) O O O (EvB.cons (kI 4 O) O O O EvB.nil))) O ⟨O,Zt⟩ ⟨O,Zt⟩ O O O O O O nU,tW (V6 0 3 5 14 15 16) (i5 0 5 3) 68 O ?_⟩);refine n5 4 (y3 37 38 39) (V8 0 3 5 14 15 16 37 39) ⟨zV O,xF O,xL O,Zt⟩ O (⟨O,_,R.callB [(0,0)] hC (FK (((b++D7 t.ins.length++KG t.ins i)++t.ins[i]!.tx)++N4 t.ins[i]!.n.toUInt64 4) t.ins[i]!.script (by first|omega|(simp only[q9,K0,j2,j3];omega)|simp) bO) (EvB.cons (gV 37 O) O O O (EvB.cons (gV 39 O) O O O EvB.nil)) O ⟨O,Zt⟩ ⟨O,Zt⟩ O O O O O O nU,tW (V6 0 3 5 14 15 16) (i5 0 5 3) 68 O ?_⟩);refine L8 5 (y4 41 42 43 44) (V7 0 3 14 15 16 41 44) ⟨zV O,xF O,xL O,zW O,Zt⟩ O (⟨O,_,R.callB [(0,0)] hC (E0 ((((b++D7 t.ins.length++KG t.ins i)++t.ins[i]!.tx)++N4 t.ins[i]!.n.toUInt64 4)++UR t.ins[i]!.script) t.ins[i]!.seq.toUInt64 4 dU (by first|omega|(simp only[q9,K0,j2,j3];omega)|simp)) (EvB.cons (gV 41 O) O O O (EvB.cons (gV 44 O) O O O (EvB.cons (kI 4 O) O O O EvB.nil))) O ⟨O,Zt⟩ ⟨O,Zt⟩ O O O O O O nU,tW (V5 0 3 14 15 16) (i5 0 5 3) 68 O ?_⟩);refine H6 [0,3] (bx':=(B7 0 3)) O O O (o8 hD O) ?_;refine q35 (bx':=(B7 3 0)) ⟨O,O,Zt⟩ O ?_;refine n4 2 (y2 46 16) (V5 0 3 14 15 16) ⟨P1 1 O,zV O,Zt⟩ ?_;exact⟨bU,(by simp only[KG,inS,w3];rfl)⟩
 ·obtain rfl:i=t.ins.length:=by omega
  refine W.exit (n5 5 (y4 47 48 49 50) (V4 0 3 47 50) ⟨zV O,xF O,xL O,P8 O,Zt⟩ O (⟨O,_,R.callB [(0,0)] hC (CN (b++D7 t.ins.length++KG t.ins t.ins.length) t.outs.length (by simp only[q9];omega)) (EvB.cons (gV 47 O) O O O (EvB.cons (gV 50 O) O O O EvB.nil)) O ⟨O,Zt⟩ ⟨O,Zt⟩ O O O O O O nU,tW (V2 0 3) (B7 3 0) 68 O ?_⟩));refine u4 4 (y4 52 53 54 55) (V4 0 53 54 55) ⟨xF O,xL O,P8 O,CP (kI 0 O) O,Zt⟩ ?_;refine W.block ?_;refine P2 t.outs.length (λi=>⟨68,[(0,.ptr 0 0 []),(53,.sl none 2 (t.outs.map r9)),(54,.int ((t.outs.length:Nat):Int)),(55,.int ((i:Nat):Int))],[(3,.var (.agg [.u32 t.ver,.sl none 36 (t.ins.map YL),.sl none 2 (t.outs.map r9),.u32 t.lock])),(0,.var (.agg [.sl (some 5) 1 (((b++D7 t.ins.length++KG t.ins t.ins.length)++D7 t.outs.length++ZC t.outs i).map D.u8)]))]⟩) (by simp only[ZC,m4];rfl) λi hi=>?_;have hib:=hwf.outsb i hi;have hx:i<t.outs.length->t.outs[i]!.script.length<=1000000:=λh=>hwf.outScript h;have hil:=QP t.outs[i]!.script;refine u4 1 (y1 56) (V5 0 53 54 55 56) ⟨zS O,Zt⟩ ?_;refine W.seq ?_;refine g7 O (λhc56=>?_) (λhc56=>?_)
  ·refine W.skip (W.seq (W.block (n5 4 (y2 57 58) (V5 0 53 54 55 58) ⟨zI i O,zL O (mG t.outs),Zt⟩ O (I9 O (M9 O (tW (V5 0 7 53 54 55) (i5 7 3 0) 68 O ?_))))));refine n5 4 (y3 59 60 61) (V7 0 7 53 54 55 59 61) ⟨zV O,xF O,xL O,Zt⟩ O (⟨O,_,R.callB [(0,0)] hC (E0 ((b++D7 t.ins.length++KG t.ins t.ins.length)++D7 t.outs.length++ZC t.outs i) t.outs[i]!.value 8 dU (by first|omega|(simp only[q9,K0,j2,j3];omega)|simp)) (EvB.cons (gV 59 O) O O O (EvB.cons (gV 61 O) O O O (EvB.cons (kI 8 O) O O O EvB.nil))) O ⟨O,Zt⟩ ⟨O,Zt⟩ O O O O O O nU,tW (V5 0 7 53 54 55) (i5 7 3 0) 68 O ?_⟩);refine L8 4 (y3 63 64 65) (V6 0 53 54 55 63 65) ⟨zV O,xF O,xL O,Zt⟩ O (⟨O,_,R.callB [(0,0)] hC (FK (((b++D7 t.ins.length++KG t.ins t.ins.length)++D7 t.outs.length++ZC t.outs i)++N4 t.outs[i]!.value 8) t.outs[i]!.script (by first|omega|(simp only[q9,K0,j2,j3];omega)|simp) bO) (EvB.cons (gV 63 O) O O O (EvB.cons (gV 65 O) O O O EvB.nil)) O ⟨O,Zt⟩ ⟨O,Zt⟩ O O O O O O nU,tW (V4 0 53 54 55) (i5 7 3 0) 68 O ?_⟩);refine H6 [0,3] (bx':=(B7 3 0)) O O O (o8 hD O) ?_;refine n4 2 (y2 67 55) (V4 0 53 54 55) ⟨P1 1 O,zV O,Zt⟩ ?_;exact⟨bU,(by simp only[ZC,FW,w3];rfl)⟩
  ·obtain rfl:i=t.outs.length:=by omega
   refine W.exit ?_;exact S0 (r:=.dead) (.inl O) O (by simp only[ZT,w3];rfl) ⟨O,Zt⟩
end
section
open Go.Proofs
theorem k85(t:TxS)(hwf:t.wf):Fn Tryz.prog gl 48 [r8 t] (.sl (some 5) 1 ((HV t).map D.u8)):=by
 refine Fo 23 Tryz.func48 O λC hC hD=>?_;refine n5 2 [] (V1 0) Zt O (⟨O,_,R.box (gV 0 O) O O nU,⟨O,_,J9 (kN O) O nU,tW (V1 1) (B2 1) 23 O ?_⟩⟩);refine n5 3 (y1 4) (V2 1 4) ⟨λ_ _ H _=>P5 (l:=[.nils]) (l':=[_]) (.nil O) Zt H,Zt⟩ O (⟨O,_,R.box (gV 4 O) O O nU,(GK O (tW (V2 1 3) (B7 5 1) 23 O ?_))⟩);refine W.seq ?_;refine LT 5 [0] 5 1 (bx':=(B7 5 1)) O O O O O ?_;have hbl:=hwf.body;refine L8 5 (y4 6 7 8 9) (V4 1 3 6 9) ⟨zV O,xF O,xL O,zW O,Zt⟩ O (⟨O,_,R.callB [(0,5)] hC (E0 [] t.ver.toUInt64 4 dU (by first|omega|(simp only[q9,K0,j2,j3];omega)|simp)) (EvB.cons (gV 6 O) O O O (EvB.cons (gV 9 O) O O O (EvB.cons (kI 4 O) O O O EvB.nil))) O ⟨O,Zt⟩ ⟨O,Zt⟩ O O O O O O nU,tW (V2 1 3) (B7 5 1) 23 O ?_⟩);refine n5 3 (y2 11 12) (V4 1 3 11 12) ⟨zV O,xL O,Zt⟩ O (⟨O,_,R.callB [(0,5)] hC (q51 ([]++N4 t.ver.toUInt64 4) t hwf (by first|omega|(simp only[q9,K0,j2,j3];omega)|simp)) (EvB.cons (gV 11 O) O O O (EvB.cons (gV 12 O) O O O EvB.nil)) O ⟨O,Zt⟩ ⟨O,Zt⟩ O O O O O O nU,tW (V2 1 3) (B7 5 1) 23 O ?_⟩);refine n5 5 (y4 14 15 16 17) (V3 3 14 17) ⟨zV O,xF O,xL O,zW O,Zt⟩ O (⟨O,_,R.callB [(0,5)] hC (E0 (([]++N4 t.ver.toUInt64 4)++ZT t) t.lock.toUInt64 4 dU (by first|omega|(simp only[q9,K0,j2,j3];omega)|simp)) (EvB.cons (gV 14 O) O O O (EvB.cons (gV 17 O) O O O (EvB.cons (kI 4 O) O O O EvB.nil))) O ⟨O,Zt⟩ ⟨O,Zt⟩ O O O O O O nU,tW (V1 3) (B7 5 1) 23 O ?_⟩);refine n5 5 (y4 19 20 21 22) (V1 22) ⟨zV O,DY O,xF O,λ_ B H K=>R.ldO (K 21 _ O) (B 5 _ O) O H,Zt⟩ O (⟨O,_,q40 (gU 22 O) (xU 5 O) O O O O (gU 22 O) nU dU,tW (V1 2) (B7 5 1) 23 O ?_⟩);exact W.ret (En O (by simp only[HV,D9]))
theorem VD(t:TxS)(hwf:t.wf):Fn Tryz.prog gl 141 [r8 t] (.bool (FN t)):=by
 refine Fo 17 Tryz.func141 O λC hC hD=>?_;have h1:=hwf.ins;refine n5 2 [] (V1 0) Zt O (⟨O,_,R.box (gV 0 O) O O nU,⟨O,_,J9 (kB false O) O nU,tW (V1 1) (B2 1) 17 O ?_⟩⟩);refine W.seq (u4 4 (y4 5 6 7 8) (V3 6 7 8) ⟨xF O,xL O,P8 O,CP (kI 0 O) O,Zt⟩ ?_);refine W.block ?_;refine UK t.ins.length (λq__=>∀ k<q__,¬ 0<t.ins[k]!.wit.length) (λi=>⟨17,[(6,.sl none 36 (t.ins.map YL)),(7,.int ((t.ins.length:Nat):Int)),(8,.int ((i:Nat):Int))],[(1,.var (.agg [.u32 t.ver,.sl none 36 (t.ins.map YL),.sl none 2 (t.outs.map r9),.u32 t.lock]))]⟩) ⟨v6 _,λk h=>absurd h (g9 _)⟩ O λi hinv=>?_;obtain⟨hi,hno⟩:=hinv;have hi:i<=t.ins.length:=hi;have hno:∀ k<i,¬ 0<t.ins[k]!.wit.length:=hno;have hwl:i<t.ins.length->t.ins[i]!.wit.length<=1000000:=λh=>(hwf.witl _ (X0 h)).1;refine u4 1 (y1 9) (V4 6 7 8 9) ⟨zS O,Zt⟩ ?_;refine W.seq ?_;refine g7 O (λhc9=>?_) (λhc9=>?_)
 ·refine W.skip (W.seq (W.block (n5 4 (y2 10 11) (V4 6 7 8 11) ⟨zI i O,zL O (mG t.ins),Zt⟩ O (I9 O (M9 O (tW (V4 4 6 7 8) (B7 4 1) 17 O ?_))))));refine u4 4 (y4 12 13 14 15) (V4 6 7 8 15) ⟨xF O,xL O,P8 O,OE 0 O,Zt⟩ ?_;refine g7 O (λhc15=>?_) (λhc15=>?_)
  ·refine W.seq ?_;refine H6 [1] (bx':=(B2 1)) O O O (o8 hD O) ?_;refine n4 1 (y1 2) (V1 2) ⟨i6 O,Zt⟩ ?_;exact W.ret (En O ((g6 D.bool (SP hc9 hc15)).symm))
  ·refine W.skip ?_;refine H6 [1] (bx':=(B2 1)) O O O (o8 hD O) ?_;refine n4 2 (y2 16 8) (V3 6 7 8) ⟨P1 1 O,zV O,Zt⟩ ?_;exact⟨⟨by omega,λk hk=>(u7.1 hk).elim (hno k) (λe=>e▸hc15)⟩,rfl⟩
 ·obtain rfl:i=t.ins.length:=by omega
  refine W.exit (u4 1 (y1 2) (V1 2) ⟨i6 O,Zt⟩ ?_);exact W.ret (En O ((g6 D.bool (FM hno)).symm))
theorem y43(t:TxS)(hwf:t.wf):Fn Tryz.prog gl 99 [r8 t] (.sl (some 5) 1 ((NB t).map D.u8)):=by
 refine Fo 65 Tryz.func99 O λC hC hD=>?_;have h1:=hwf.ins;have hbl:=hwf.body;have hw0:=hwf.witsb _ (z5 _);refine n5 2 [] (V1 0) Zt O (⟨O,_,R.box (gV 0 O) O O nU,⟨O,_,J9 (kN O) O nU,tW (V1 1) (B2 1) 65 O ?_⟩⟩);refine W.seq (u4 3 (y3 8 9 10) (V2 1 10) ⟨xL O,zC hC (VD t hwf) O (F1 (.bool _)),BH O,Zt⟩ ?_);refine W.cond O (λhc10=>?_) (λhc10=>?_)
 ·refine P4 3 (y3 11 12 2) [(2,12)] [(2,12)] (V1 2) ⟨aU (xL O),aU<|zC hC (k85 t hwf) O (F1 (.sl _ _ _ (J5 λ_=>.u8 _))),aU<|zO O,Zt⟩ O (tU O ?_);exact W.ret (En O (by rw[NB,z8 (by simpa using hc10)]))
 ·refine W.skip (n5 3 (y1 13) (V2 1 13) ⟨λ_ _ H _=>P5 (l:=[.nils]) (l':=[_]) (.nil O) Zt H,Zt⟩ O (⟨O,_,R.box (gV 13 O) O O nU,(GK O (tW (V2 1 3) (B7 14 1) 65 O ?_))⟩));refine W.seq ?_;refine LT 14 [0] 5 1 (bx':=(B7 14 1)) O O O O O ?_;refine L8 5 (y4 15 16 17 18) (V4 1 3 15 18) ⟨zV O,xF O,xL O,zW O,Zt⟩ O (⟨O,_,R.callB [(0,14)] hC (E0 [] t.ver.toUInt64 4 dU (by first|omega|(simp only[q9,K0,j2,j3];omega)|simp)) (EvB.cons (gV 15 O) O O O (EvB.cons (gV 18 O) O O O (EvB.cons (kI 4 O) O O O EvB.nil))) O ⟨O,Zt⟩ ⟨O,Zt⟩ O O O O O O nU,tW (V2 1 3) (B7 14 1) 65 O ?_⟩);refine n5 10 (y6 20 21 22 23 24 25) (V5 1 3 20 24 25) ⟨zV O,zV O,DY O,xF O,λ_ B H K=>R.ldO (K 23 _ O) (B 14 _ O) O H,λ_ _ H _=>J3 (z:=1) (.cons (kW (.int .u8 0) (.u8 0) O) (.cons (kW (.int .u8 1) (.u8 1) O) .nil)) ⟨⟨O,O,O⟩,⟨O,O,O⟩,Zt⟩ O H dU,Zt⟩ O (⟨O,_,NZ (gU 24 O) (xU 14 O) O O O O (gU 24 O) (SrcO.sc (SC.sl (gU 25 O)) (G5 O)) (show _=(((([]++N4 t.ver.toUInt64 4)++[0,1])).map D.u8) from(by simp)) (by simp[K0]) nU dU dU,⟨O,_,R.nilcP (gU 20 O) nU,⟨O,_,R.fdP (gU 27 O) nU,⟨O,_,e9 (gU 28 O) (xU 14 O) O (gU 26 O) O O (by rfl) (by rfl) O O,tW (V2 1 3) (B7 14 1) 65 O ?_⟩⟩⟩⟩);refine n5 3 (y2 29 30) (V4 1 3 29 30) ⟨zV O,xL O,Zt⟩ O (⟨O,_,R.callB [(0,14)] hC (q51 (([]++N4 t.ver.toUInt64 4)++[0,1]) t hwf (by first|omega|(simp only[q9,K0,j2,j3];omega)|simp)) (EvB.cons (gV 29 O) O O O (EvB.cons (gV 30 O) O O O EvB.nil)) O ⟨O,Zt⟩ ⟨O,Zt⟩ O O O O O O nU,tW (V2 1 3) (B7 14 1) 65 O ?_⟩);refine W.seq (u4 4 (y4 32 33 34 35) (V5 1 3 33 34 35) ⟨xF O,xL O,P8 O,CP (kI 0 O) O,Zt⟩ ?_);refine W.block ?_;refine P2 t.ins.length (λi=>⟨65,[(1,.ptr 1 0 []),(3,.ptr 14 0 []),(33,.sl none 36 (t.ins.map YL)),(34,.int ((t.ins.length:Nat):Int)),(35,.int ((i:Nat):Int))],[(14,.var (.agg [.sl (some 5) 1 ((((([]++N4 t.ver.toUInt64 4)++[0,1])++ZT t)++ZO t.ins i).map D.u8)])),(1,.var (.agg [.u32 t.ver,.sl none 36 (t.ins.map YL),.sl none 2 (t.outs.map r9),.u32 t.lock]))]⟩) (by simp only[ZO,m4];rfl) λi hi=>?_;have hib:=hwf.witsb i hi;have hx:i<t.ins.length->t.ins[i]!.wit.length<=1000000/\∀ j ≤ t.ins[i]!.wit.length,(UP t.ins[i]!.wit j).length<=1500000:=λh=>hwf.witl _ (X0 h);have hcl:=I7 t.ins[i]!.wit.length;refine u4 1 (y1 36) (V6 1 3 33 34 35 36) ⟨zS O,Zt⟩ ?_;refine W.seq ?_;refine g7 O (λhc36=>?_) (λhc36=>?_)
  ·refine W.skip (W.seq (W.block (n5 4 (y2 37 38) (V6 1 3 33 34 35 38) ⟨zI i O,zL O (mG t.ins),Zt⟩ O (I9 O (M9 O (tW (V6 1 3 5 33 34 35) (i5 5 14 1) 65 O ?_))))));refine n5 5 (y4 39 40 41 42) (V8 1 3 5 33 34 35 39 42) ⟨zV O,xF O,xL O,P8 O,Zt⟩ O (⟨O,_,R.callB [(0,14)] hC (CN (((([]++N4 t.ver.toUInt64 4)++[0,1])++ZT t)++ZO t.ins i) t.ins[i]!.wit.length (by first|omega|(simp only[q9,K0,j2,j3];omega)|simp)) (EvB.cons (gV 39 O) O O O (EvB.cons (gV 42 O) O O O EvB.nil)) O ⟨O,Zt⟩ ⟨O,Zt⟩ O O O O O O nU,tW (V6 1 3 5 33 34 35) (i5 5 14 1) 65 O ?_⟩);refine u4 4 (y4 44 45 46 47) (V8 1 3 33 34 35 45 46 47) ⟨xF O,xL O,P8 O,CP (kI 0 O) O,Zt⟩ ?_;refine W.block ?_;refine P2 (t.ins[i]!.wit.length) (λj=>⟨65,[(1,.ptr 1 0 []),(3,.ptr 14 0 []),(33,.sl none 36 (t.ins.map YL)),(34,.int ((t.ins.length:Nat):Int)),(35,.int ((i:Nat):Int)),(45,.sl none 1 (t.ins[i]!.wit.map YW)),(46,.int ((t.ins[i]!.wit.length:Nat):Int)),(47,.int ((j:Nat):Int))],[(5,.var (YL t.ins[i]!)),(14,.var (.agg [.sl (some 5) 1 ((((((([]++N4 t.ver.toUInt64 4)++[0,1])++ZT t)++ZO t.ins i)++D7 t.ins[i]!.wit.length)++UP t.ins[i]!.wit j).map D.u8)])),(1,.var (.agg [.u32 t.ver,.sl none 36 (t.ins.map YL),.sl none 2 (t.outs.map r9),.u32 t.lock]))]⟩) (by simp only[UP,m4];rfl) λj hj=>?_;have hjb:=(hx (by omega)).2 j hj;have hil:=QP t.ins[i]!.wit[j]!;have hwi:j<t.ins[i]!.wit.length->t.ins[i]!.wit[j]!.length<=1000000:=λh=>hwf.witi _ (X0 (show i<t.ins.length by omega)) _ (X0 h);refine u4 1 (y1 48) (V9 1 3 33 34 35 45 46 47 48) ⟨zS O,Zt⟩ ?_;refine W.seq ?_;refine g7 O (λhc48=>?_) (λhc48=>?_)
   ·refine W.skip (W.seq (W.block (u4 3 (y3 49 50 7) (V9 1 3 7 33 34 35 45 46 47) ⟨zI j O,zL O (b8 (l:=t.ins[i]!.wit) bU),zA O,Zt⟩ ?_)));refine L8 3 (y2 51 52) (z51 1 3 33 34 35 45 46 47 51 52) ⟨zV O,zV O,Zt⟩ O (⟨O,_,R.callB [(0,14)] hC (FK (((((([]++N4 t.ver.toUInt64 4)++[0,1])++ZT t)++ZO t.ins i)++D7 t.ins[i]!.wit.length)++UP t.ins[i]!.wit j) t.ins[i]!.wit[j]! (by first|omega|(simp only[q9,K0,j2,j3];omega)|simp) bO) (EvB.cons (gV 51 O) O O O (EvB.cons (gV 52 O) O O O EvB.nil)) O ⟨O,Zt⟩ ⟨O,Zt⟩ O O O O O O nU,tW (V8 1 3 33 34 35 45 46 47) (i5 5 14 1) 65 O ?_⟩);refine n4 2 (y2 54 47) (V8 1 3 33 34 35 45 46 47) ⟨P1 1 O,zV O,Zt⟩ ?_;exact⟨bU,(by simp only[UP,w3];rfl)⟩
   ·obtain rfl:j=t.ins[i]!.wit.length:=by omega
    refine W.exit ?_;refine H6 [1,14] (bx':=(B7 14 1)) O O O (o8 hD O) ?_;refine n4 2 (y2 55 35) (V5 1 3 33 34 35) ⟨P1 1 O,zV O,Zt⟩ ?_;exact⟨bU,(by simp only[ZO,w3])⟩
  ·obtain rfl:i=t.ins.length:=by omega
   refine W.exit (n5 5 (y4 56 57 58 59) (V3 3 56 59) ⟨zV O,xF O,xL O,zW O,Zt⟩ O (⟨O,_,R.callB [(0,14)] hC (E0 (((([]++N4 t.ver.toUInt64 4)++[0,1])++ZT t)++ZO t.ins t.ins.length) t.lock.toUInt64 4 dU (by first|omega|(simp only[q9,K0,j2,j3];omega)|simp)) (EvB.cons (gV 56 O) O O O (EvB.cons (gV 59 O) O O O (EvB.cons (kI 4 O) O O O EvB.nil))) O ⟨O,Zt⟩ ⟨O,Zt⟩ O O O O O O nU,tW (V1 3) (B7 14 1) 65 O ?_⟩));refine n5 5 (y4 61 62 63 64) (V1 64) ⟨zV O,DY O,xF O,λ_ B H K=>R.ldO (K 63 _ O) (B 14 _ O) O H,Zt⟩ O (⟨O,_,q40 (gU 64 O) (xU 14 O) O O O O (gU 64 O) nU dU,tW (V1 2) (B7 14 1) 65 O ?_⟩);exact W.ret (En O (by rw[NB,j7 (by simpa using hc10)];rfl))
theorem w27(t:TxS)(hwf:t.wf):Fn Tryz.prog gl 50 [r8 t] (w7 (XR t)):=by
 refine Fo 6 Tryz.func50 O λC hC hD=>?_;refine n5 2 [] (V1 0) Zt O (⟨O,_,R.box (gV 0 O) O O nU,(I9 O (tW (V2 1 2) (B7 2 1) 6 O ?_))⟩);refine n5 4 (y3 3 4 5) (V2 2 5) ⟨xL O,zC hC (k85 t hwf) O (F1 (.sl _ _ _ (J5 λ_=>.u8 _))),λ_ _ H K=>Z7 hC (FJ (HV t) (v5 hwf.bareL dU)) (Bc (Bor.sc (SC.sl (K 4 _ O)) (J6 (λ_=>rfl))) Bn) (F1 (B4 _)) H,Zt⟩ O (M9 O (tW (V1 2) (B7 2 1) 6 O ?_));exact W.ret (Eo O (iL 23 32))
end
section
open Go.Proofs
theorem WO(t:TxS)(hwf:t.wf):Fn Tryz.prog gl 97 [r8 t] (.bool (JU t)):=by
 refine Fo 64 Tryz.func97 O λC hC hD=>?_;have h1:=hwf.ins;have h2:=hwf.outs;refine n5 2 [] (V1 0) Zt O (⟨O,_,R.box (gV 0 O) O O nU,⟨O,_,J9 (kB false O) O nU,tW (V1 1) (B2 1) 64 O ?_⟩⟩);refine W.seq (W.seq ?_);by_cases hz:t.ins.length=0
 ·refine N0 10 [.y 11 _,.y 12 _,.y 13 _,.y 14 _,.y 15 _,.x 16,.x 17,.x 18,.x 19,.y 20 _] (V2 1 20) ⟨aU (xF O),aU (xL O),aU<|P8 O,aU<|GZ 0 O,xM O,R3 O (dT hz),R3 O (dT hz),R3 O (dT hz),R3 O (dT hz),aU<|EW O (dT hz) (kB true O),Zt⟩ ?_;refine G6 O (O) ?_;refine u4 1 (y1 2) (V1 2) ⟨i6 O,Zt⟩ ?_;exact W.ret (En O (g6 D.bool (w08 hz).symm))
 ·refine N0 10 (VU 11 12 13 14 15 16 17 18 19 20) (V2 1 20) ⟨aU (xF O),aU (xL O),aU<|P8 O,aU<|GZ 0 O,xM O,aN O (dF hz) (xF O),aN O (dF hz) (xL O),aN O (dF hz)<|P8 O,aN O (dF hz)<|GZ 0 O,aU<|zF O (dF hz),Zt⟩ ?_;refine g7 O (λhc20=>?_) (λhc20=>?_)
  ·refine u4 1 (y1 2) (V1 2) ⟨i6 O,Zt⟩ ?_;exact W.ret (En O (g6 D.bool (w07 hc20).symm))
  ·refine W.skip (n5 2 [] (V1 1) Zt O (⟨O,_,MW j1 D.int O nU,(GK O (tW (V2 1 3) [(21,m6 j1 D.int _),(1,.var _)] 64 O ?_))⟩));refine W.seq (u4 4 (y4 22 23 24 25) (V5 1 3 23 24 25) ⟨xF O,xL O,P8 O,CP (kI 0 O) O,Zt⟩ ?_);refine W.block ?_;refine UK t.ins.length (λq__=>∀ j<q__,H3 (ZA t.ins j) (plc t.ins[j]!)=false) (λi=>⟨64,[(1,.ptr 1 0 []),(3,.map 21),(23,.sl none 36 (t.ins.map YL)),(24,.int ((t.ins.length:Nat):Int)),(25,.int ((i:Nat):Int))],[(21,m6 j1 D.int (ZA t.ins i)),(1,.var (.agg [.u32 t.ver,.sl none 36 (t.ins.map YL),.sl none 2 (t.outs.map r9),.u32 t.lock]))]⟩) ⟨v6 _,λj h=>absurd h (g9 _)⟩ O λi hinv=>?_;obtain⟨hi,hno⟩:=hinv;have hi:i<=t.ins.length:=hi;have hno:∀ j<i,H3 (ZA t.ins j) (plc t.ins[j]!)=false:=hno;refine u4 1 (y1 26) (V6 1 3 23 24 25 26) ⟨zS O,Zt⟩ ?_;refine W.seq ?_;refine g7 O (λhc26=>?_) (λhc26=>?_)
   ·refine W.skip (W.seq (W.block (n5 6 (y3 27 28 29) (V7 1 3 23 24 25 27 29) ⟨zV O,zI i O,zL O (mG t.ins),Zt⟩ O (I9 O (GK O (M9 O (tW (V7 1 3 4 5 23 24 25) [(5,.var _),(21,m6 j1 D.int _),(1,.var _)] 64 O ?_)))))));refine W.seq (u4 9 (y9 31 32 33 34 30 35 36 6 7) (V8 1 3 4 5 7 23 24 25) ⟨zV O,xF O,xL O,λ_ B H K=>R.lookK (k:=plc t.ins[i]!) (z:=0) KM (K 31 _ O) (B 21 _ O) (eU K 33 O) O O (λ_=>rfl) H,zY O,zX O,zX O,zA O,zA O,Zt⟩ ?_);refine u4 1 (y1 37) (V8 1 3 4 5 23 24 25 37) ⟨zV O,Zt⟩ ?_;refine W.cond O (λhc37=>?_) (λhc37=>?_)
    ·refine W.seq ?_;refine E9 [] [(5,.var _),(21,m6 j1 D.int _),(1,.var _)] 64 O ?_;refine Y2 [1,21] (bx':=[(21,m6 j1 D.int _),(1,.var _)]) O O ⟨Z6 (λ_=>rfl) (λ_=>rfl),⟨O,Zt⟩⟩ (o8 hD O) ?_;refine n4 1 (y1 2) (V1 2) ⟨i6 O,Zt⟩ ?_;exact W.ret (En O (g6 D.bool (w06 hc26 hc37).symm))
    ·refine W.skip ?_;refine L8 5 (y4 38 39 40 41) (V8 1 3 23 24 25 38 40 41) ⟨zV O,xF O,xL O,zV O,Zt⟩ O (⟨O,_,R.mupdN (k:=plc t.ins[i]!) (u:=((i:Nat):Int)) KM (gU 38 O) (xU 21 O) (gV 40 O) O (gV 41 O) O O (hc37),tW (V5 1 3 23 24 25) [(5,.var _),(21,m6 j1 D.int _),(1,.var _)] 64 O ?_⟩);refine Y2 [1,21] (bx':=[(21,m6 j1 D.int _),(1,.var _)]) O O ⟨Z6 (λ_=>rfl) (λ_=>rfl),⟨O,Zt⟩⟩ (o8 hD O) ?_;refine n4 2 (y2 42 25) (V5 1 3 23 24 25) ⟨P1 1 O,zV O,Zt⟩ ?_;exact⟨⟨by omega,λj hj=>(u7.1 hj).elim (hno j) (λe=>e▸hc37)⟩,rfl⟩
   ·obtain rfl:i=t.ins.length:=by omega
    refine W.exit (u4 1 (y1 8) (V2 1 8) ⟨q42 (.u64 0) O,Zt⟩ ?_);refine W.seq (u4 4 (y4 43 44 45 46) (V5 1 8 44 45 46) ⟨xF O,xL O,P8 O,CP (kI 0 O) O,Zt⟩ ?_);refine W.block ?_;refine UK t.outs.length (λq__=>∀ j<q__,¬ 2100000000000000<t.outs[j]!.value/\¬ 2100000000000000<HJ t.outs (j+1)) (λi=>⟨64,[(1,.ptr 1 0 []),(8,.u64 (HJ t.outs i)),(44,.sl none 2 (t.outs.map r9)),(45,.int ((t.outs.length:Nat):Int)),(46,.int ((i:Nat):Int))],[(21,m6 j1 D.int (ZA t.ins t.ins.length)),(1,.var (.agg [.u32 t.ver,.sl none 36 (t.ins.map YL),.sl none 2 (t.outs.map r9),.u32 t.lock]))]⟩) ⟨v6 _,λj h=>absurd h (g9 _)⟩ O λi hinv=>?_;obtain⟨hi,hmo⟩:=hinv;have hi:i<=t.outs.length:=hi;have hmo:∀ j<i,¬ 2100000000000000<t.outs[j]!.value/\¬ 2100000000000000<HJ t.outs (j+1):=hmo;refine u4 1 (y1 47) (V6 1 8 44 45 46 47) ⟨zS O,Zt⟩ ?_;refine W.seq ?_;refine g7 O (λhc47=>?_) (λhc47=>?_)
    ·refine W.skip (W.seq (W.block (n5 4 (y2 48 49) (V6 1 8 44 45 46 49) ⟨zI i O,zL O (mG t.outs),Zt⟩ O (I9 O (M9 O (tW (V6 1 8 10 44 45 46) [(10,.var _),(21,m6 j1 D.int _),(1,.var _)] 64 O ?_))))));refine W.seq (u4 3 (y3 50 51 52) (V7 1 8 10 44 45 46 52) ⟨xF O,xL O,ZP O (kW (.int .u64 2100000000000000) (.u64 2100000000000000) O),Zt⟩ ?_);refine W.cond O (λhc52=>?_) (λhc52=>?_)
     ·refine W.seq ?_;refine E9 [] [(10,.var _),(21,m6 j1 D.int _),(1,.var _)] 64 O ?_;refine Y2 [1,21] (bx':=[(21,m6 j1 D.int _),(1,.var _)]) O O ⟨Z6 (λ_=>rfl) (λ_=>rfl),⟨O,Zt⟩⟩ (o8 hD O) ?_;refine n4 1 (y1 2) (V1 2) ⟨i6 O,Zt⟩ ?_;exact W.ret (En O (g6 D.bool (w05 hc47 (v7 hc52)).symm))
     ·refine W.skip (u4 5 (y5 53 54 55 56 8) (V5 1 8 44 45 46) ⟨zV O,xF O,xL O,zB O,zA O,Zt⟩ ?_);refine W.seq ?_;refine Y2 [1,21] (bx':=[(21,m6 j1 D.int _),(1,.var _)]) O O ⟨Z6 (λ_=>rfl) (λ_=>rfl),⟨O,Zt⟩⟩ (o8 hD O) ?_;refine n4 2 (y2 57 58) (V6 1 8 44 45 46 58) ⟨zV O,ZP O (kW (.int .u64 2100000000000000) (.u64 2100000000000000) O),Zt⟩ ?_;refine W.cond O (λhc58=>?_) (λhc58=>?_)
      ·refine u4 1 (y1 2) (V1 2) ⟨i6 O,Zt⟩ ?_;exact W.ret (En O (g6 D.bool (w04 hc47 (v7 hc58)).symm))
      ·refine W.skip ?_;refine n4 2 (y2 59 46) (V5 1 8 44 45 46) ⟨P1 1 O,zV O,Zt⟩ ?_;exact⟨⟨by omega,λj hj=>(u7.1 hj).elim (hmo j) (λe=>e▸⟨d6 hc52,d6 hc58⟩)⟩,rfl⟩
    ·obtain rfl:i=t.outs.length:=by omega
     refine W.exit (u4 5 (y5 60 61 62 63 2) (V1 2) ⟨xL O,zC hC (y43 t hwf) O (F1 (.sl _ _ _ (J5 λ_=>.u8 _))),P8 O,λ_ _ H K=>RZ ((NB t).length) (16384) (eU K 62 O) (kI 16384 O) H,zA O,Zt⟩ ?_);exact W.ret (En O (g6 D.bool (k49 hz hc20 hno hmo).symm))
theorem EJ(t:TxS)(hwf:t.wf):Fn Tryz.prog gl 115 [r8 t] (.bool (N8 t)):=by
 refine Fo 18 Tryz.func115 O λC hC hD=>?_;have h1:=hwf.ins;refine n5 2 [] (V1 0) Zt O (⟨O,_,R.box (gV 0 O) O O nU,⟨O,_,J9 (kB false O) O nU,tW (V1 1) (B2 1) 18 O ?_⟩⟩);refine n5 3 (y1 4) (V2 1 4) ⟨λ_ _ H _=>P5 (l:=[.arr 32 1 ((List.replicate 32 0).map D.u8),.u32 0]) (l':=[_,_]) (.cons (kW (.int .u32 4294967295) (.u32 4294967295) O) (.nil O)) ⟨⟨_,(kW (.int .u32 4294967295) (.u32 4294967295) O),O,O,O⟩,Zt⟩ H,Zt⟩ O (I9 O (M9 O (tW (V2 1 3) (B7 3 1) 18 O ?_)));refine W.seq ?_;by_cases hz:t.ins.length=1
 ·refine KF 14 [0,1,3,7,15,31,63,127,255,511,31,2047,4095,8191] hP dU (z53 5 6 7 8 9 10 11 12 13 14 15 16 17 2) [] [] (V1 2) ⟨aU (xF O),aU (xL O),aU<|P8 O,aU<|GZ 1 O,xM O,aT O (dT hz) (xF O),aT O (dT hz) (xL O),aT O (dT hz) λ_ _ H K=>R.idxN (0) (SC.sl (K 11 _ O)) (C4 (kI 0 O)) O bU H dU,aT O (dT hz)<|r7 O,aT O (dT hz)<|zL O (mG t.ins),aT O (dT hz) (xL O),aT O (dT hz) λ_ _ H K=>R.eqD (neg:=false) (b':=(plc t.ins[0]! == (List.replicate 32 0,4294967295))) (ZH (plc t.ins[0]!) (List.replicate 32 0,4294967295)) O (eU K 14 O) (eU K 15 O) O O O O (O) H,aU<|zT O (dT hz),aU<|zA O,Zt⟩ O (tW (V1 2) (B7 3 1) 18 O ?_);exact W.ret (En O (by rw[N8,dT hz];rfl))
 ·refine KF 14 [0,1,3,7,15,31,63,127,255,511,31,2047,4095,8191] hP dU [.y 5 _,.y 6 _,.y 7 _,.y 8 _,.y 9 _,.x 10,.x 11,.x 12,.x 13,.x 14,.x 15,.x 16,.y 17 _,.y 2 _] [] [] (V1 2) ⟨aU (xF O),aU (xL O),aU<|P8 O,aU<|GZ 1 O,xM O,O5 O (dF hz),O5 O (dF hz),O5 O (dF hz),O5 O (dF hz),O5 O (dF hz),O5 O (dF hz),O5 O (dF hz),aU<|FQ O (dF hz) (kB false O),aU<|zA O,Zt⟩ O (tW (V1 2) (B7 3 1) 18 O ?_);exact W.ret (En O (by rw[N8,dF hz];rfl))
end
section
open Go.Proofs
theorem z74(h:HdS):FnB Tryz.prog gl 161 [.ptr 0 0 []] [(0,.var (M5 h))] (.agg [.agg [.int ((0:Nat):Int),.ptr 0 0 [0]],.agg [.int ((68:Nat):Int),.ptr 0 65 [3]],.agg [.int ((72:Nat):Int),.ptr 0 66 [4]],.agg [.int ((76:Nat):Int),.ptr 0 67 [5]]]) [(0,.var (M5 h))] []:=by
 refine FnB.of (n:=20) (ids:=[0]) Tryz.func161 rfl rfl rfl (nU rfl) λC hC hD=>?_;refine n5 1 [] (V1 0) Zt O (I9 O (tW (V2 0 2) (B7 2 0) 20 O ?_));refine W.seq ?_;refine R5 17 [0,1,3,7,0,16,48,112,0,256,768,1792,0,4096,12288,28672,65535,131071] hP dU (h21 3 4 5 6 7 8 9 10 11 12 13 14 15 16 17 18 19) (V2 2 19) ⟨zV O,DY O,xF O,λ_ _ H K=>R.bldSP (.cons (kI 0 O) (.cons (eU K 5 O) (.nil O))) ⟨⟨_,(kI 0 O),O,O⟩,⟨⟨_,(eU K 5 O),O,O⟩,Zt⟩⟩ H,zV O,DY O,xF O,λ_ _ H K=>R.bldSP (.cons (kI 68 O) (.cons (eU K 9 O) (.nil O))) ⟨⟨_,(kI 68 O),O,O⟩,⟨⟨_,(eU K 9 O),O,O⟩,Zt⟩⟩ H,zV O,DY O,xF O,λ_ _ H K=>R.bldSP (.cons (kI 72 O) (.cons (eU K 13 O) (.nil O))) ⟨⟨_,(kI 72 O),O,O⟩,⟨⟨_,(eU K 13 O),O,O⟩,Zt⟩⟩ H,zV O,DY O,xF O,λ_ _ H K=>R.bldSP (.cons (kI 76 O) (.cons (eU K 17 O) (.nil O))) ⟨⟨_,(kI 76 O),O,O⟩,⟨⟨_,(eU K 17 O),O,O⟩,Zt⟩⟩ H,λ_ _ H K=>R.bldAG (.cons (eU K 6 O) (.cons (eU K 10 O) (.cons (eU K 14 O) (.cons (eU K 18 O) (.nil O))))) ⟨⟨_,(eU K 6 O),O,O⟩,⟨⟨_,(eU K 10 O),O,O⟩,⟨⟨_,(eU K 14 O),O,O⟩,⟨⟨_,(eU K 18 O),O,O⟩,Zt⟩⟩⟩⟩ H,Zt⟩ O (⟨O,_,R.stP (gU 2 O) (xU 2 O) O (gV 19 O) O O (by rfl) (by rfl) O,tW (V1 2) (B7 2 0) 20 O ?_⟩);refine W.ret ?_;exact EndsB.one' (.inr O) O (O) O (iL 255 8) O O (O) ⟨O,Zt⟩ O
theorem v17(h:HdS)(hw:h.wf):Fn Tryz.prog gl 145 [M5 h] (.sl (some 5) 1 ((BU h).map D.u8)):=by
 refine Fo 42 Tryz.func145 O λC hC hD=>?_;have hw1:=hw.1;have hw2:=hw.2;have hp4:=q79 h;have hp5:=x62 h hw;refine n5 2 [] (V1 0) Zt O (⟨O,_,R.box (gV 0 O) O O nU,⟨O,_,J9 (kN O) O nU,tW (V1 1) (B2 1) 42 O ?_⟩⟩);refine P4 2 (y2 7 3) [(1,7)] [(1,7)] (V2 1 3) ⟨aU λ_ _ H _=>R.mk (n:=80) (kI 80 O) (kI 80 O) bU dU H,aU<|zO O,Zt⟩ O (tU O ?_);refine W.seq (n5 2 [] (V2 1 3) Zt O (⟨O,_,R.callB [(0,1)] hC (z74 h) (EvB.cons (gV 1 O) O O O EvB.nil) O ⟨O,Zt⟩ ⟨O,Zt⟩ O O O O O O nU,⟨O,_,R.mov (kI 0 O) O nU,tW (V4 1 3 8 9) (B2 1) 42 O ?_⟩⟩));refine W.block ?_;refine k92 ?_;refine WU.step ?_;show W _ _ _ _ _;refine E9 (V4 1 3 8 9) (B2 1) 42 O ?_;refine u4 1 (y1 10) (V5 1 3 8 9 10) ⟨GV 4 O,Zt⟩ ?_;refine W.seq ?_;refine G6 O (O) ?_;refine W.skip (W.seq (W.block (n5 3 (y1 11) (V5 1 3 8 9 11) ⟨λ_ _ H K=>R.ixG (0) (eU K 8 O) (C4 (eU K 9 O)) O O O O O O O H,Zt⟩ O (I9 O ⟨O,_,R.stP (gU 5 O) (xU 5 O) O (gV 11 O) O O (by rfl) (by rfl) O,tW (V5 1 3 5 8 9) (B7 5 1) 42 O ?_⟩))));refine u4 1 (y1 12) (V6 1 3 5 8 9 12) ⟨CP (kI 0 O) O,Zt⟩ ?_;refine W.block ?_;refine P2 4 (λi=>⟨42,[(1,.ptr 1 0 []),(3,.sl (some 5) 1 ((UO v92 0 h.ver i).map D.u8)),(5,.ptr 5 0 []),(8,.agg [.agg [.int ((0:Nat):Int),.ptr 1 0 [0]],.agg [.int ((68:Nat):Int),.ptr 1 65 [3]],.agg [.int ((72:Nat):Int),.ptr 1 66 [4]],.agg [.int ((76:Nat):Int),.ptr 1 67 [5]]]),(9,.int ((0:Nat):Int)),(12,.int ((i:Nat):Int))],[(5,.var (.agg [.int ((0:Nat):Int),.ptr 1 0 [0]])),(1,.var (M5 h))]⟩) (by first|rfl|(unfold v92;simp only[I5];rfl)) λi hi=>?_;have hsl:(UO v92 0 h.ver i).length=80:=(KR _ _ _ _).trans (rfl);refine u4 1 (y1 13) (V7 1 3 5 8 9 12 13) ⟨GV 4 O,Zt⟩ ?_;refine W.seq ?_;refine g7 O (λhc13=>?_) (λhc13=>?_)
 ·refine W.skip (W.seq (W.block (u4 2 (y2 14 6) (V7 1 3 5 6 8 9 12) ⟨zV O,zA O,Zt⟩ ?_)));refine R5 14 [0,0,2,0,14,0,32,96,224,0,512,2016,4064,8191,16383] hP dU (z53 15 16 17 18 19 20 21 22 23 24 25 26 27 28) (V9 1 3 5 8 9 12 15 27 28) ⟨zM O,xF O,xL O,zV O,zP O,xF O,xL O,DY O,xL O,zV O,HW 8 O,λ_ _ H K=>R.bin (eU K 23 O) (eU K 25 O) O bV H,zW O,YD ((0+i)) O,Zt⟩ O (⟨O,_,XS (gU 28 O) (Or.inr (gU 15 O)) (gU 3 O) (mG (UO v92 0 h.ver i)) O (gV 27 O) (by rfl) (by rfl) (by rfl) (by rfl) L0 L3,tW (V6 1 3 5 8 9 12) (B7 5 1) 42 O ?_⟩);refine n4 2 (y2 29 12) (V6 1 3 5 8 9 12) ⟨P1 1 O,zV O,Zt⟩ ?_;exact⟨bU,rfl⟩
 ·obtain rfl:i=4:=by omega
  refine W.exit ?_;refine E9 (V4 1 3 8 9) (B7 5 1) 42 O ?_;refine H6 [1] (bx':=(B2 1)) O O O (o8 hD O) ?_;refine n4 2 (y2 30 9) (V4 1 3 8 9) ⟨P1 1 O,zV O,Zt⟩ ?_;refine WU.step ?_;show W _ _ _ _ _;refine E9 (V4 1 3 8 9) (B2 1) 42 O ?_;refine u4 1 (y1 10) (V5 1 3 8 9 10) ⟨GV 4 O,Zt⟩ ?_;refine W.seq ?_;refine G6 O (O) ?_;refine W.skip (W.seq (W.block (n5 3 (y1 11) (V5 1 3 8 9 11) ⟨λ_ _ H K=>R.ixG (1) (eU K 8 O) (C4 (eU K 9 O)) O O O O O O O H,Zt⟩ O (I9 O ⟨O,_,R.stP (gU 5 O) (xU 5 O) O (gV 11 O) O O (by rfl) (by rfl) O,tW (V5 1 3 5 8 9) (B7 5 1) 42 O ?_⟩))));refine u4 1 (y1 12) (V6 1 3 5 8 9 12) ⟨CP (kI 0 O) O,Zt⟩ ?_;refine W.block ?_;refine P2 4 (λi=>⟨42,[(1,.ptr 1 0 []),(3,.sl (some 5) 1 ((UO (j13 h) 68 h.time i).map D.u8)),(5,.ptr 5 0 []),(8,.agg [.agg [.int ((0:Nat):Int),.ptr 1 0 [0]],.agg [.int ((68:Nat):Int),.ptr 1 65 [3]],.agg [.int ((72:Nat):Int),.ptr 1 66 [4]],.agg [.int ((76:Nat):Int),.ptr 1 67 [5]]]),(9,.int ((1:Nat):Int)),(12,.int ((i:Nat):Int))],[(5,.var (.agg [.int ((68:Nat):Int),.ptr 1 65 [3]])),(1,.var (M5 h))]⟩) (by first|rfl|(unfold v92;simp only[I5];rfl)) λi hi=>?_;have hsl:(UO (j13 h) 68 h.time i).length=80:=(KR _ _ _ _).trans (q81 h);refine u4 1 (y1 13) (V7 1 3 5 8 9 12 13) ⟨GV 4 O,Zt⟩ ?_;refine W.seq ?_;refine g7 O (λhc13=>?_) (λhc13=>?_)
  ·refine W.skip (W.seq (W.block (u4 2 (y2 14 6) (V7 1 3 5 6 8 9 12) ⟨zV O,zA O,Zt⟩ ?_)));refine R5 14 [0,0,2,0,14,0,32,96,224,0,512,2016,4064,8191,16383] hP dU (z53 15 16 17 18 19 20 21 22 23 24 25 26 27 28) (V9 1 3 5 8 9 12 15 27 28) ⟨zM O,xF O,xL O,zV O,zP O,xF O,xL O,DY O,xL O,zV O,HW 8 O,λ_ _ H K=>R.bin (eU K 23 O) (eU K 25 O) O bV H,zW O,YD ((68+i)) O,Zt⟩ O (⟨O,_,XS (gU 28 O) (Or.inr (gU 15 O)) (gU 3 O) (mG (UO (j13 h) 68 h.time i)) O (gV 27 O) (by rfl) (by rfl) (by rfl) (by rfl) L0 L3,tW (V6 1 3 5 8 9 12) (B7 5 1) 42 O ?_⟩);refine n4 2 (y2 29 12) (V6 1 3 5 8 9 12) ⟨P1 1 O,zV O,Zt⟩ ?_;exact⟨bU,rfl⟩
  ·obtain rfl:i=4:=by omega
   refine W.exit ?_;refine E9 (V4 1 3 8 9) (B7 5 1) 42 O ?_;refine H6 [1] (bx':=(B2 1)) O O O (o8 hD O) ?_;refine n4 2 (y2 30 9) (V4 1 3 8 9) ⟨P1 1 O,zV O,Zt⟩ ?_;refine WU.step ?_;show W _ _ _ _ _;refine E9 (V4 1 3 8 9) (B2 1) 42 O ?_;refine u4 1 (y1 10) (V5 1 3 8 9 10) ⟨GV 4 O,Zt⟩ ?_;refine W.seq ?_;refine G6 O (O) ?_;refine W.skip (W.seq (W.block (n5 3 (y1 11) (V5 1 3 8 9 11) ⟨λ_ _ H K=>R.ixG (2) (eU K 8 O) (C4 (eU K 9 O)) O O O O O O O H,Zt⟩ O (I9 O ⟨O,_,R.stP (gU 5 O) (xU 5 O) O (gV 11 O) O O (by rfl) (by rfl) O,tW (V5 1 3 5 8 9) (B7 5 1) 42 O ?_⟩))));refine u4 1 (y1 12) (V6 1 3 5 8 9 12) ⟨CP (kI 0 O) O,Zt⟩ ?_;refine W.block ?_;refine P2 4 (λi=>⟨42,[(1,.ptr 1 0 []),(3,.sl (some 5) 1 ((UO (z71 h) 72 h.bits i).map D.u8)),(5,.ptr 5 0 []),(8,.agg [.agg [.int ((0:Nat):Int),.ptr 1 0 [0]],.agg [.int ((68:Nat):Int),.ptr 1 65 [3]],.agg [.int ((72:Nat):Int),.ptr 1 66 [4]],.agg [.int ((76:Nat):Int),.ptr 1 67 [5]]]),(9,.int ((2:Nat):Int)),(12,.int ((i:Nat):Int))],[(5,.var (.agg [.int ((72:Nat):Int),.ptr 1 66 [4]])),(1,.var (M5 h))]⟩) (by first|rfl|(unfold v92;simp only[I5];rfl)) λi hi=>?_;have hsl:(UO (z71 h) 72 h.bits i).length=80:=(KR _ _ _ _).trans (q80 h);refine u4 1 (y1 13) (V7 1 3 5 8 9 12 13) ⟨GV 4 O,Zt⟩ ?_;refine W.seq ?_;refine g7 O (λhc13=>?_) (λhc13=>?_)
   ·refine W.skip (W.seq (W.block (u4 2 (y2 14 6) (V7 1 3 5 6 8 9 12) ⟨zV O,zA O,Zt⟩ ?_)));refine R5 14 [0,0,2,0,14,0,32,96,224,0,512,2016,4064,8191,16383] hP dU (z53 15 16 17 18 19 20 21 22 23 24 25 26 27 28) (V9 1 3 5 8 9 12 15 27 28) ⟨zM O,xF O,xL O,zV O,zP O,xF O,xL O,DY O,xL O,zV O,HW 8 O,λ_ _ H K=>R.bin (eU K 23 O) (eU K 25 O) O bV H,zW O,YD ((72+i)) O,Zt⟩ O (⟨O,_,XS (gU 28 O) (Or.inr (gU 15 O)) (gU 3 O) (mG (UO (z71 h) 72 h.bits i)) O (gV 27 O) (by rfl) (by rfl) (by rfl) (by rfl) L0 L3,tW (V6 1 3 5 8 9 12) (B7 5 1) 42 O ?_⟩);refine n4 2 (y2 29 12) (V6 1 3 5 8 9 12) ⟨P1 1 O,zV O,Zt⟩ ?_;exact⟨bU,rfl⟩
   ·obtain rfl:i=4:=by omega
    refine W.exit ?_;refine E9 (V4 1 3 8 9) (B7 5 1) 42 O ?_;refine H6 [1] (bx':=(B2 1)) O O O (o8 hD O) ?_;refine n4 2 (y2 30 9) (V4 1 3 8 9) ⟨P1 1 O,zV O,Zt⟩ ?_;refine WU.step ?_;show W _ _ _ _ _;refine E9 (V4 1 3 8 9) (B2 1) 42 O ?_;refine u4 1 (y1 10) (V5 1 3 8 9 10) ⟨GV 4 O,Zt⟩ ?_;refine W.seq ?_;refine G6 O (O) ?_;refine W.skip (W.seq (W.block (n5 3 (y1 11) (V5 1 3 8 9 11) ⟨λ_ _ H K=>R.ixG (3) (eU K 8 O) (C4 (eU K 9 O)) O O O O O O O H,Zt⟩ O (I9 O ⟨O,_,R.stP (gU 5 O) (xU 5 O) O (gV 11 O) O O (by rfl) (by rfl) O,tW (V5 1 3 5 8 9) (B7 5 1) 42 O ?_⟩))));refine u4 1 (y1 12) (V6 1 3 5 8 9 12) ⟨CP (kI 0 O) O,Zt⟩ ?_;refine W.block ?_;refine P2 4 (λi=>⟨42,[(1,.ptr 1 0 []),(3,.sl (some 5) 1 ((UO (WJ h) 76 h.nonce i).map D.u8)),(5,.ptr 5 0 []),(8,.agg [.agg [.int ((0:Nat):Int),.ptr 1 0 [0]],.agg [.int ((68:Nat):Int),.ptr 1 65 [3]],.agg [.int ((72:Nat):Int),.ptr 1 66 [4]],.agg [.int ((76:Nat):Int),.ptr 1 67 [5]]]),(9,.int ((3:Nat):Int)),(12,.int ((i:Nat):Int))],[(5,.var (.agg [.int ((76:Nat):Int),.ptr 1 67 [5]])),(1,.var (M5 h))]⟩) (by first|rfl|(unfold v92;simp only[I5];rfl)) λi hi=>?_;have hsl:(UO (WJ h) 76 h.nonce i).length=80:=(KR _ _ _ _).trans (FL h);refine u4 1 (y1 13) (V7 1 3 5 8 9 12 13) ⟨GV 4 O,Zt⟩ ?_;refine W.seq ?_;refine g7 O (λhc13=>?_) (λhc13=>?_)
    ·refine W.skip (W.seq (W.block (u4 2 (y2 14 6) (V7 1 3 5 6 8 9 12) ⟨zV O,zA O,Zt⟩ ?_)));refine R5 14 [0,0,2,0,14,0,32,96,224,0,512,2016,4064,8191,16383] hP dU (z53 15 16 17 18 19 20 21 22 23 24 25 26 27 28) (V9 1 3 5 8 9 12 15 27 28) ⟨zM O,xF O,xL O,zV O,zP O,xF O,xL O,DY O,xL O,zV O,HW 8 O,λ_ _ H K=>R.bin (eU K 23 O) (eU K 25 O) O bV H,zW O,YD ((76+i)) O,Zt⟩ O (⟨O,_,XS (gU 28 O) (Or.inr (gU 15 O)) (gU 3 O) (mG (UO (WJ h) 76 h.nonce i)) O (gV 27 O) (by rfl) (by rfl) (by rfl) (by rfl) L0 L3,tW (V6 1 3 5 8 9 12) (B7 5 1) 42 O ?_⟩);refine n4 2 (y2 29 12) (V6 1 3 5 8 9 12) ⟨P1 1 O,zV O,Zt⟩ ?_;exact⟨bU,rfl⟩
    ·obtain rfl:i=4:=by omega
     refine W.exit ?_;refine E9 (V4 1 3 8 9) (B7 5 1) 42 O ?_;refine H6 [1] (bx':=(B2 1)) O O O (o8 hD O) ?_;refine n4 2 (y2 30 9) (V4 1 3 8 9) ⟨P1 1 O,zV O,Zt⟩ ?_;refine WU.step ?_;show W _ _ _ _ _;refine E9 (V4 1 3 8 9) (B2 1) 42 O ?_;refine u4 1 (y1 10) (V5 1 3 8 9 10) ⟨GV 4 O,Zt⟩ ?_;refine W.seq ?_;refine Y7 O (O) ?_;refine W.exit (W.seq ?_);refine R5 4 [0,1,0,4,15] hP dU (y4 31 32 33 34) (V5 1 3 31 32 34) ⟨zM O,λ_ _ H K=>k10 (4) ((UO (WJ h) 76 h.nonce 4).length) (((UO (WJ h) 76 h.nonce 4).length-4)) (SC.al (K 31 _ O) (K 3 _ O)) (C4 (kI 4 O)) O O (by simp) bU bU O H dU,xF O,λ_ B H K=>QO (0) (32) (32) (K 33 _ O) (B 1 _ O) O O O O O bU bU O H,Zt⟩ O (⟨O,_,R.cpV (gU 32 O) (Or.inr (gU 31 O)) (gU 3 O) bU bU (P3 (λ_=>rfl)) (SrcO.sc (SC.va (gU 34 O) (xU 1 O) O bU) (QT (λ_=>rfl))) (λy q=>IJ (λ_=>rfl) y (H8 (Q8 q))) nU dU ((by simp[hw1,KR,FL])) (show _=((NP h).map D.u8) from(x61 h hw)),tW (V2 1 3) (B2 1) 42 O ?_⟩);refine W.seq ?_;refine R5 4 [0,1,0,4,15] hP dU (y4 36 37 38 39) (V4 3 36 37 39) ⟨zM O,λ_ _ H K=>k10 (36) ((NP h).length) (((NP h).length-36)) (SC.al (K 36 _ O) (K 3 _ O)) (C4 (kI 36 O)) O O (by simp) bU bU O H dU,xF O,λ_ B H K=>QO (0) (32) (32) (K 38 _ O) (B 1 _ O) O O O O O bU bU O H,Zt⟩ O (⟨O,_,R.cpV (gU 37 O) (Or.inr (gU 36 O)) (gU 3 O) bU bU (P3 (λ_=>rfl)) (SrcO.sc (SC.va (gU 39 O) (xU 1 O) O bU) (QT (λ_=>rfl))) (λy q=>IJ (λ_=>rfl) y (H8 (Q8 q))) nU dU ((by simp[hw2,hp5])) (show _=((x60 h).map D.u8) from(x59 h hw)),tW (V1 3) (B2 1) 42 O ?_⟩);refine P4 2 (y2 41 2) [(0,3),(1,41)] [(0,3),(1,41)] (V1 2) ⟨aU λ_ _ H K=>ZX (K 3 _ O) O H dU,aU<|zO O,Zt⟩ O (tU O ?_);exact W.ret (En O (by rw[y44 h hw]))
theorem y75(h:HdS)(hw:h.wf):Fn Tryz.prog gl 113 [M5 h] (w7 (RW h)):=by
 refine Fo 6 Tryz.func113 O λC hC hD=>?_;refine n5 2 [] (V1 0) Zt O (⟨O,_,R.box (gV 0 O) O O nU,(I9 O (tW (V2 1 2) (B7 2 1) 6 O ?_))⟩);refine n5 4 (y3 3 4 5) (V2 2 5) ⟨xL O,zC hC (v17 h hw) O (F1 (.sl _ _ _ (J5 λ_=>.u8 _))),λ_ _ H K=>Z7 hC (FJ (BU h) (by rw[TH h hw];decide)) (Bc (Bor.sc (SC.sl (K 4 _ O)) (J6 (λ_=>rfl))) Bn) (F1 (B4 _)) H,Zt⟩ O (M9 O (tW (V1 2) (B7 2 1) 6 O ?_));exact W.ret (Eo O (iL 23 32))
end
section
open Go.Proofs
theorem v11(a b:Hs)(hx:a.length=32)(hy:b.length=32):Fn Tryz.prog gl 103 [w7 a,w7 b] (w7 (F6 a b)):=by
 refine Fo 14 Tryz.func103 O λC hC hD=>?_;refine n5 3 [] (V2 0 1) Zt O (⟨O,_,R.box (gV 0 O) O O nU,⟨O,_,R.box (gV 1 O) O O nU,(I9 O (tW (V3 2 3 4) (i5 4 3 2) 14 O ?_))⟩⟩);refine n5 1 [] (V3 2 3 4) Zt O (I9 O (tW (V4 2 3 4 5) (OA 5 4 3 2) 14 O ?_));refine W.seq ?_;refine R5 2 [0,0,3] hP dU (y2 6 7) (V5 3 4 5 6 7) ⟨λ_ B H K=>QO (0) (64) (64) (K 5 _ O) (B 5 _ O) O O O O O bU bU O H,λ_ B H K=>QO (0) (32) (32) (K 2 _ O) (B 2 _ O) O O O O O bU bU O H,Zt⟩ O (⟨O,_,k13 (k:=32) (l2:=((a++List.replicate 32 0).map D.u8)) (gU 6 O) (xU 5 O) O dU (SrcO.sc (SC.va (gU 7 O) (xU 2 O) O dU) (QT (λ_=>rfl))) (λy q=>IJ (λ_=>rfl) y (H8 (Q8 q))) nU (by simp[hx]) (g74 a hx) O,tW (V3 3 4 5) (OA 5 4 3 2) 14 O ?_⟩);refine W.seq ?_;refine R5 2 [0,0,3] hP dU (y2 9 10) (V4 4 5 9 10) ⟨λ_ B H K=>QO (32) (64) ((64-32)) (K 5 _ O) (B 5 _ O) O (C4 (kI 32 O)) O O O bU bU O H,λ_ B H K=>QO (0) (32) (32) (K 3 _ O) (B 3 _ O) O O O O O bU bU O H,Zt⟩ O (⟨O,_,k13 (k:=32) (l2:=((a++b).map D.u8)) (gU 9 O) (xU 5 O) O dU (SrcO.sc (SC.va (gU 10 O) (xU 3 O) O dU) (QT (λ_=>rfl))) (λy q=>IJ (λ_=>rfl) y (H8 (Q8 q))) nU (by simp[hy]) (g73 a b hx hy) O,tW (V2 4 5) (OA 5 4 3 2) 14 O ?_⟩);refine n5 3 (y2 12 13) (V2 4 13) ⟨λ_ B H K=>QO (0) (64) (64) (K 5 _ O) (B 5 _ O) O O O O O bU bU O H,λ_ B H K=>Z7 hC (FJ (a++b) (by simp only[q9,hx,hy];decide)) (Bc (Bor.sc (SC.va (K 12 _ O) (B 5 _ O) O dU) (EA (λ_=>rfl) (by simp only[q9,hx,hy]))) Bn) (F1 (B4 _)) H,Zt⟩ O (M9 O (tW (V1 4) (OA 5 4 3 2) 14 O ?_));exact W.ret (Eo O (iL 23 32))
theorem u85(l:List Hs):Fn Tryz.prog gl 136 [.sl none 32 (l.map w7)] (.fn 160 [.rp (.sl none 32 (l.map w7))]):=by
 refine Fo 4 Tryz.func136 O λC hC hD=>?_;refine n5 2 [] (V1 0) Zt O (⟨O,_,R.box (gV 0 O) O O nU,⟨O,_,J9 (kW (.nilFunc) (.nilf) O) O nU,tW (V1 1) (B2 1) 4 O ?_⟩⟩);refine W.seq ?_;refine y95 1 [] (d':=.sl none 32 (l.map w7)) (bx':=[]) O (k04 _ _ _) O O O O O O (o8 hD O) ?_;refine n4 2 (y2 3 2) (V1 2) ⟨λ_ _ H K=>v69 (eU K 1 O) O O H,zA O,Zt⟩ ?_;exact W.ret (Eo O)
theorem x30(l:List Hs)(hl:allH l)(hl0:l.length<=1000):Itr Tryz.prog gl 160 [.rp (.sl none 32 (l.map w7))] ((List.range (W2 l.length)).map λk=>.sl none 32 ((R4 F6 l k).map w7)):=by
 refine Itr.of (n:=43) Tryz.func160 rfl rfl rfl rfl (nU rfl) λG Y lo hY hyl=>?_;refine V.scope ?_;refine V.seq ?_;refine V.of λC hC hD=>?_;refine n4 2 (y2 6 3) (V2 0 3) ⟨λ_ _ H K=>R.ldR (eU K 1 O) O O O H,zA O,Zt⟩ ?_;refine V.seq ?_;refine V.label ?_;refine V.block ?_;refine V.loop (α:={q__:Nat//q__+W2 (R4 F6 l q__).length=W2 l.length}) (λq__=>((q__.1,false),(⟨43,[(0,.yld lo),(3,.sl none 32 ((R4 F6 l q__.1).map w7))],[]⟩:Sg))) (λq__=>W2 l.length-q__.1) ⟨(0),(by show 0+_=_;rw[m5];rfl)⟩ rfl ?_;rintro ⟨k,hk⟩;show V _ _ _ _ _ ((k,false),(⟨43,[(0,.yld lo),(3,.sl none 32 ((R4 F6 l k).map w7))],[]⟩:Sg));have hrl:=PN F6 l k;have hle:=WR l.length k;have hra:=PO TY hl k;have hk:k+W2 (R4 F6 l k).length=W2 l.length:=hk;refine V.seq ?_;refine V.of λC hC hD=>?_;refine u4 3 (y3 7 8 9) (V3 0 3 9) ⟨zV O,P8 O,OE 0 O,Zt⟩ ?_;refine g7 O (λhc9=>?_) (λhc9=>?_)
 ·refine W.skip ?_;refine V.block ?_;refine V.seq ?_;refine V.seq ?_;refine V.region ?_;refine VL.step rfl (λC hC=>R.mov (gV 0 rfl) rfl (nU rfl)) ?_;refine VL.step rfl (λC hC=>R.mov (gV 3 rfl) rfl (nU rfl)) ?_;refine VL.yield hY hyl (gU 10 rfl) (gV 11 rfl) rfl rfl (by rw[z6,Y3];have:=NO (n:=(R4 F6 l k).length) (by omega);omega) (by rw[n9,List.getElem_range]) (nU rfl) (λs__=>?_);cases s__
  ·refine VL.step rfl (λC hC=>R.un (gV 12 rfl) rfl (nU rfl)) ?_;refine VL.step rfl (λC hC=>R.mov (gV 13 rfl) rfl (nU rfl)) ?_;refine XO ⟨_,14,rfl,rfl,.inl ⟨_,rfl,gw (v:=false) (rfl) rfl⟩⟩ (λC hC=>R.mov (gV 3 rfl) rfl (nU rfl)) ?_;refine XO ⟨_,14,rfl,rfl,.inl ⟨_,rfl,gw (v:=false) (rfl) rfl⟩⟩ (λC hC=>QA (SC.sl (gU 15 rfl)) (lN _) (nU rfl)) ?_;refine XO ⟨_,14,rfl,rfl,.inl ⟨_,rfl,gw (v:=false) (rfl) rfl⟩⟩ (λC hC=>HE ((R4 F6 l k).length) (1) (gV 16 rfl) (kI 1 rfl) (nU rfl)) ?_;refine VL.step rfl (λC hC=>ET (gV 14 rfl) (rfl) (gV 17 rfl) rfl (nU rfl)) ?_;refine VL.nil ?_;refine UJ (live:=[0,3,18]) (env':=[(0,_),(3,_),(18,_)]) (bx':=[]) (n':=43) rfl rfl rfl ?_;refine V.of λC hC hD=>?_;refine g7 O (λhc18=>?_) (λhc18=>?_)
   ·refine W.exit ?_;exact⟨λ_ h=>(by cases h),.inl rfl,.inr (by rw[z6,Y3];show k+1=_;rw[show(R4 F6 l k).length=1 by omega,EZ] at hk;omega)⟩
   ·refine W.skip ?_;refine V.of λC hC hD=>?_;refine u4 1 (y1 4) (V3 0 3 4) ⟨i6 O,Zt⟩ ?_;refine W.seq (u4 1 (y1 5) (V4 0 3 4 5) ⟨O3 0 O,Zt⟩ ?_);refine W.block ?_;refine O6 (s:=4) 23 32 O ?_;refine P2 (((R4 F6 l k).length+1)/2) (λi=>⟨43,[(0,.yld lo),(3,.sl none 32 ((R4 F6 l k).map w7)),(4,.sl (some 23) 32 ((v99 F6 (R4 F6 l k) i).map w7)),(5,.int ((2*i:Nat):Int))],[]⟩) O λi hi=>?_;have hul:=VN F6 (R4 F6 l k) i;refine W.seq (u4 4 (y4 19 20 21 22) (V5 0 3 4 5 22) ⟨zV O,zV O,P8 O,zS O,Zt⟩ ?_);refine g7 O (λhc22=>?_) (λhc22=>?_)
    ·refine W.skip (W.seq (W.block ?_));refine KF 18 [0,0,0,6,14,0,0,64,0,256,768,1984,4064,8160,16382,32766,65535,131071] hP dU (g79 25 26 27 28 29 30 31 32 33 34 35 36 37 38 39 40 41 4) [(16,4),(17,41),(17,25)] [(16,4),(17,41)] (V4 0 3 4 5) ⟨aU<|zM O,xM O,xM O,aU<|zI (2*i) O,aU<|zL O (mG (R4 F6 l k)),xM O,xM O,aU<|P1 1 O,xM O,aU<|P8 O,aU<|AD 1 O,aU λ_ _ H K=>R.minI (r:=((min (2*i+1) ((R4 F6 l k).length-1):Nat):Int)) (eU K 32 O) (eU K 35 O) bO H,aU<|zI (min (2*i+1) ((R4 F6 l k).length-1)) O,aU<|zL O (mG (R4 F6 l k)),aU<|zD hC (v11 _ _ (hra.get bO) (hra.get bO)) O (F1 (B4 _)),aU λ_ _ H K=>J3 (z:=32) (.cons (eU K 39 O) .nil) ⟨⟨O,O,O⟩,Zt⟩ O H dU,aU<|YC O (G5 O) (HO) bU,aU<|zO O,Zt⟩ O (tW (V4 0 3 4 5) [] 43 O ?_);refine n4 3 (y3 23 24 5) (V4 0 3 4 5) ⟨zV O,P1 2 O,zA O,Zt⟩ ?_;exact⟨bU,rfl⟩
    ·obtain rfl:i=((R4 F6 l k).length+1)/2:=by omega
     refine W.exit ?_;refine CB (s:=4) (d':=.sl none 32 ((R4 F6 l (k+1)).map w7)) O O (k04 _ _ _) ?_;refine n4 2 (y2 42 3) (V2 0 3) ⟨zV O,zA O,Zt⟩ ?_;exact⟨⟨(k+1),(by have h2:=EQ (n:=(R4 F6 l k).length) (by omega);have h3:(R4 F6 l (k+1)).length=((R4 F6 l k).length+1)/2:=AP _ _;rw[h2,<- h3] at hk;show k+1+_=_;omega)⟩,rfl,(by have:=NO (n:=(R4 F6 l k).length) (by omega);simp only[];omega)⟩
  ·refine VL.step rfl (λC hC=>R.un (gV 12 rfl) rfl (nU rfl)) ?_;refine VL.step rfl (λC hC=>R.mov (gV 13 rfl) rfl (nU rfl)) ?_;refine XN ⟨_,14,rfl,rfl,.inl ⟨_,rfl,gw (v:=true) (rfl) rfl⟩⟩ rfl (nU rfl) ?_;refine XN ⟨_,14,rfl,rfl,.inl ⟨_,rfl,gw (v:=true) (rfl) rfl⟩⟩ rfl (nU rfl) ?_;refine XN ⟨_,14,rfl,rfl,.inl ⟨_,rfl,gw (v:=true) (rfl) rfl⟩⟩ rfl (nU rfl) ?_;refine VL.step rfl (λC hC=>BQ (gV 14 rfl) (rfl) (kB true rfl) rfl (nU rfl)) ?_;refine VL.nil ?_;refine UJ (live:=[0,3,18]) (env':=[(0,_),(3,_),(18,_)]) (bx':=[]) (n':=43) rfl rfl rfl ?_;refine V.of λC hC hD=>?_;refine G6 O (O) ?_;refine W.exit ?_;exact⟨λ_ h=>(by cases h),.inl rfl,.inl rfl⟩
 ·refine W.exit ?_;exact⟨λ_ h=>(by cases h),.inl rfl,.inr (by rw[z6,Y3];show k=_;rw[show(R4 F6 l k).length=0 by omega,EK] at hk;omega)⟩
theorem k33(l:List Hs)(hl:allH l)(hl0:l.length<=1000):Fn Tryz.prog gl 114 [.sl none 32 (l.map w7)] (w7 (KS F6 l)):=by
 refine u45 (n:=11) Tryz.func114 rfl rfl rfl (nU rfl) λW0 G hgl=>?_;refine V.seq ?_;refine V.of λC hC hD=>?_;refine L8 1 [] (V1 0) Zt O (I9 O (tW (V2 0 2) (B2 2) 11 O ?_));refine V.seq ?_;refine V.seq ?_;refine V.of λC hC hD=>?_;refine n4 2 (y2 4 5) (V2 2 5) ⟨zV O,λ_ _ H K=>l7 hC (u85 l) (EvP.cons (eU K 4 O) O O EvP.nil) H,Zt⟩ ?_;refine V.block ?_;refine u29 [2] (W2 l.length) (λk=>.sl none 32 ((R4 F6 l k).map w7)) (λk=>[(2,.var (w7 (k34 F6 l k)))]) (λ_ _=>False) (λ_=>True) hgl (x30 l hl hl0) rfl rfl rfl rfl (rfl) rfl ⟨X6 _,rfl,Zt⟩ (λ_=>⟨rfl,rfl⟩) (Zt) (λk hk hJ C hC hD=>?_) ?_ ?_
 ·have hrl:=PN F6 l k;have hle:=WR l.length k;have hra:=PO TY hl k;have hrp:=q71 F6 l k hk;show W _ _ _ _ _;refine E9 (V2 2 6) (B2 2) 11 O ?_;refine n4 1 (y1 3) (V2 2 3) ⟨zA O,Zt⟩ ?_;refine⟨rfl,λC hC hD=>?_⟩;refine W.block ?_;refine L8 4 (y3 7 8 9) (V2 2 9) ⟨zV O,λ_ _ H K=>R.idxN (0) (SC.sl (K 7 _ O)) (C4 (kI 0 O)) O bU H dU,zL O (mG (R4 F6 l k)),Zt⟩ O (M9 O (tW [] (B2 2) 11 O ?_));exact⟨.inl ⟨rfl,rfl,Zt⟩,⟨X6 _,rfl,Zt⟩⟩
 ·intro hJ;refine V.of λC hC hD=>?_;refine n5 2 (y1 10) (V2 2 10) ⟨xL O,Zt⟩ O (M9 O (tW (V1 2) (B2 2) 11 O ?_));exact W.ret (Eo O (iL 23 32))
 ·exact λe bx he hs=>hs.elim
end
section
open Go.Proofs
theorem WY:FnB Tryz.prog gl 60 [] [] (.ptr 5 0 []) [] [(5,.var (.agg [.map 1,.map 2,.map 3])),(3,m6 w7 w9 bk0.ids),(2,m6 j1 w9 bk0.spent),(1,m6 j1 C7 bk0.outs)]:=by
 refine FnB.of (n:=6) (ids:=[5,3,2,1]) Tryz.func60 rfl rfl rfl (nU rfl) λC hC hD=>?_;refine u4 1 (y1 0) [] ⟨q42 (.nilp) O,Zt⟩ ?_;refine n5 6 [] [] Zt O (⟨O,_,MW j1 C7 O nU,⟨O,_,MW j1 w9 O nU,⟨O,_,MW w7 w9 O nU,⟨O,_,R.bldSP (.cons (gV 1 O) (.cons (gV 2 O) (.cons (gV 3 O) (.nil O)))) ⟨⟨_,(gV 1 O),O,O⟩,⟨⟨_,(gV 2 O),O,O⟩,⟨⟨_,(gV 3 O),O,O⟩,Zt⟩⟩⟩ nU,⟨O,_,R.box (gV 4 O) O O nU,(GK O (tW (V1 0) [(5,.var _),(3,m6 w7 w9 _),(2,m6 j1 w9 _),(1,m6 j1 C7 _)] 6 O ?_))⟩⟩⟩⟩⟩);refine W.ret ?_;exact EndsB.one' (.inr O) O (O) O Zt O O (O) ⟨O,QI _ _,QL _ _,QR _ _,Zt⟩ O
theorem y09(b:BkS)(t:TxS):FnB Tryz.prog gl 65 [.ptr 0 0 [],r8 t] [(0,.var (.agg [.map 301,.map 302,.map 303])),(301,m6 j1 C7 b.outs),(302,m6 j1 w9 b.spent),(303,m6 w7 w9 b.ids)] (.fn 123 [.ptr 3 0 [],.ptr 2 0 []]) [(0,.var (.agg [.map 301,.map 302,.map 303])),(301,m6 j1 C7 b.outs),(302,m6 j1 w9 b.spent),(303,m6 w7 w9 b.ids)] [(3,.var (r8 t)),(2,.var (.ptr 0 0 []))]:=by
 refine FnB.of (n:=6) (ids:=[3,2,0,301,302,303]) Tryz.func65 rfl rfl rfl (nU rfl) λC hC hD=>?_;refine n5 3 [] (V2 0 1) Zt O (⟨O,_,R.box (gV 0 O) O O nU,⟨O,_,R.box (gV 1 O) O O nU,⟨O,_,J9 (kW (.nilFunc) (.nilf) O) O nU,tW (V2 2 3) [(3,.var _),(2,.var _),(0,.var _),(301,m6 j1 C7 _),(302,m6 j1 w9 _),(303,m6 w7 w9 _)] 6 O ?_⟩⟩⟩);refine u4 2 (y2 5 4) (V1 4) ⟨λ_ _ H K=>v68 (EvFs.cons (eU K 3 O) O O (EvFs.cons (eU K 2 O) O O EvFs.nil)) H,zA O,Zt⟩ ?_;refine W.ret ?_;exact EndsB.one' (.inr O) O (O) O Zt O O (O) ⟨O,O,O,QR _ _,QL _ _,QI _ _,Zt⟩ O
theorem u69(b:BkS)(t:TxS)(hwf:t.wf):ItrK Tryz.prog gl 123 [.ptr 3 0 [],.ptr 2 0 []] [(3,.var (r8 t)),(2,.var (.ptr 0 0 [])),(0,.var (.agg [.map 301,.map 302,.map 303])),(301,m6 j1 C7 b.outs),(302,m6 j1 w9 b.spent),(303,m6 w7 w9 b.ids)] ((List.range ((JF b t).length)).map λk=>w7 (JF b t)[k]!):=by
 refine ItrK.of (n:=50) Tryz.func123 rfl rfl rfl rfl (nU rfl) (⟨rfl,rfl,rfl,QR _ _,QL _ _,QI _ _,Zt⟩) λG Y lo pn hY hyl=>?_;have h1:=hwf.ins;have h2:=hwf.outs;refine V.seq ?_;refine V.seq ?_;refine V.of λC hC hD=>?_;refine n4 4 (y4 10 11 12 13) (V6 0 1 2 11 12 13) ⟨xF O,xL O,P8 O,CP (kI 0 O) O,Zt⟩ ?_;refine V.block ?_;refine V.loop (α:={q__:Nat//q__<=t.ins.length}) (λq__=>(((JI b t.ins q__.1).length,false),(⟨50,[(0,.yld lo),(1,.ptr 3 0 []),(2,.ptr 2 0 []),(11,.sl none 36 (t.ins.map YL)),(12,.int ((t.ins.length:Nat):Int)),(13,.int ((q__.1:Nat):Int))],[(3,.var (r8 t)),(2,.var (.ptr 0 0 [])),(0,.var (.agg [.map 301,.map 302,.map 303])),(301,m6 j1 C7 b.outs),(302,m6 j1 w9 b.spent),(303,m6 w7 w9 b.ids)]⟩:Sg))) (λq__=>t.ins.length-q__.1) ⟨(0),bU⟩ rfl ?_;rintro ⟨i,hi⟩;show V _ _ _ _ _ (((JI b t.ins i).length,false),(⟨50,[(0,.yld lo),(1,.ptr 3 0 []),(2,.ptr 2 0 []),(11,.sl none 36 (t.ins.map YL)),(12,.int ((t.ins.length:Nat):Int)),(13,.int ((i:Nat):Int))],[(3,.var (r8 t)),(2,.var (.ptr 0 0 [])),(0,.var (.agg [.map 301,.map 302,.map 303])),(301,m6 j1 C7 b.outs),(302,m6 j1 w9 b.spent),(303,m6 w7 w9 b.ids)]⟩:Sg));have hi:i<=t.ins.length:=hi;refine V.seq ?_;refine V.of λC hC hD=>?_;refine n4 1 (y1 14) (V7 0 1 2 11 12 13 14) ⟨zS O,Zt⟩ ?_;refine V.seq ?_;refine V.of λC hC hD=>?_;refine g7 O (λhc14=>?_) (λhc14=>?_)
 ·refine W.skip ?_;refine V.seq ?_;refine V.block ?_;refine V.seq ?_;refine V.of λC hC hD=>?_;refine L8 4 (y2 15 16) (V7 0 1 2 11 12 13 16) ⟨zI i O,zL O (mG t.ins),Zt⟩ O (I9 O (M9 O (tW (V7 0 1 2 5 11 12 13) [(5,.var _),(3,.var _),(2,.var _),(0,.var _),(301,m6 j1 C7 _),(302,m6 j1 w9 _),(303,m6 w7 w9 _)] 50 O ?_)));refine V.seq ?_;refine V.of λC hC hD=>?_;refine QE (m:=12) (an:=[0,1,3,7,0,16,63,127,255,255,0,1535,4095]) (its:=[.y 18 _,.y 19 _,.y 20 _,.y 21 _,.y 22 _,.y 23 _,.y 24 _,.y 17 _,.y 25 _,.y 26 _,.y 6 _,⟨61,.dead,true⟩]) (ks:=[(11,61)]) (kk:=[]) (efs:=[(10,(B2 6)),(11,(B2 6))]) (live:=[0,1,2,6,11,12,13,26]) (env':=(V8 0 1 2 6 11 12 13 26)) (nd:=40) (bx1:=[(6,.var _),(5,.var _),(3,.var _),(2,.var _),(0,.var _),(301,m6 j1 C7 _),(302,m6 j1 w9 _),(303,m6 w7 w9 _)]) hP dU O ⟨⟨68,O⟩,nU O,O,O,O,O⟩ (        ⟨⟨O,nU O,O,λ_ τ hb ht hτ=>R.ldP (hτ 2 _ O) (hb 2 _ O) O O O O ht⟩,⟨⟨O,nU O,O,λ_ τ hb ht hτ=>R.nilcP (hτ 18 _ O) ht⟩,⟨⟨O,nU O,O,λ_ τ hb ht hτ=>R.fdP (hτ 19 _ O) ht⟩,⟨⟨O,nU O,O,λ_ τ hb ht hτ=>R.ldP (hτ 20 _ O) (hb 0 _ O) O O O O ht⟩,⟨⟨O,nU O,O,λ_ τ hb ht hτ=>R.fdP (hτ 5 _ O) ht⟩,⟨⟨O,nU O,O,λ_ τ hb ht hτ=>R.ldP (hτ 22 _ O) (hb 5 _ O) O O O O ht⟩,⟨⟨O,nU O,O,λ_ τ hb ht hτ=>R.lookK (k:=(plc t.ins[i]!)) (z:=q49) KM (hτ 21 _ O) (hb 301 _ O) (evt (hτ 23 _ O)) O O (λ_=>rfl) ht⟩,⟨⟨O,nU O,O,λ_ τ hb ht hτ=>R.movT (hτ 24 _ O) O ht⟩,⟨⟨O,nU O,O,λ_ τ hb ht hτ=>R.ext (hτ 17 _ O) O O ht⟩,⟨⟨O,nU O,O,λ_ τ hb ht hτ=>R.ext (hτ 17 _ O) O O ht⟩,⟨⟨O,O,⟨O,nU O⟩,(SpE.alloc O nU)⟩,⟨⟨O,O,O,(YK (p:=6) (id:=6) O O O (λτ hτ=>(evt (hτ 25 _ O))) (by rfl) (by rfl) (by rfl) (by rfl) O)⟩,Zt⟩⟩⟩⟩⟩⟩⟩⟩⟩⟩⟩⟩) O O O (n':=50) O (GK O ⟨[0,1,2,6,7,11,12,13],(V8 0 1 2 6 7 11 12 13),[(6,.var _),(5,.var _),(3,.var _),(2,.var _),(0,.var _),(301,m6 j1 C7 _),(302,m6 j1 w9 _),(303,m6 w7 w9 _)],50,O,O,O, ?_⟩);refine V.seq ?_;by_cases hk1:H3 b.outs (plc t.ins[i]!)=true
  ·refine V.region ?_;refine VL.step rfl (λC hC=>R.mov (gV 7 rfl) rfl (nU rfl)) ?_;refine VL.step rfl (λC hC=>R.mov (gV 27 rfl) rfl (nU rfl)) ?_;refine XO ⟨_,28,rfl,rfl,.inl ⟨_,rfl,gw (v:=true) (hk1) rfl⟩⟩ (λC hC=>R.mov (gV 0 rfl) rfl (nU rfl)) ?_;refine XO ⟨_,28,rfl,rfl,.inl ⟨_,rfl,gw (v:=true) (hk1) rfl⟩⟩ (λC hC=>R.fdP (gU 6 rfl) (nU rfl)) ?_;refine XO ⟨_,28,rfl,rfl,.inl ⟨_,rfl,gw (v:=true) (hk1) rfl⟩⟩ (λC hC=>R.ldP (gU 30 rfl) (xU 6 rfl) rfl rfl rfl rfl (nU rfl)) ?_;refine j71 ⟨_,28,rfl,rfl,.inl ⟨_,rfl,gw (v:=true) (hk1) rfl⟩⟩ hY hyl (gU 29 rfl) (gV 31 rfl) rfl rfl (by rw[z6,Y3];exact(k58 (by omega) hk1).1) (by rw[n9,List.getElem_range,(k58 (by omega) hk1).2]) (nU rfl) (λs__=>?_);cases s__
   ·refine XO ⟨_,28,rfl,rfl,.inl ⟨_,rfl,gw (v:=true) (hk1) rfl⟩⟩ (λC hC=>R.un (gV 32 rfl) rfl (nU rfl)) ?_;refine VL.step rfl (λC hC=>BQ (gV 28 rfl) (hk1) (gV 33 rfl) rfl (nU rfl)) ?_;refine VL.nil ?_;refine UJ (live:=[0,1,2,11,12,13,34]) (env':=[(0,_),(1,_),(2,_),(11,_),(12,_),(13,_),(34,_)]) (bx':=[(6,.var _),(5,.var _),(3,.var _),(2,.var _),(0,.var _),(301,m6 j1 C7 _),(302,m6 j1 w9 _),(303,m6 w7 w9 _)]) (n':=50) rfl rfl rfl ?_;refine V.of λC hC hD=>?_;refine Y7 O (O) ?_;refine W.skip ?_;refine V.of λC hC hD=>?_;refine Y2 [0,2,3,301,302,303] (bx':=[(3,.var _),(2,.var _),(0,.var _),(301,m6 j1 C7 _),(302,m6 j1 w9 _),(303,m6 w7 w9 _)]) O O ⟨O,⟨O,⟨O,⟨Z6 (λ_=>rfl) (λ_=>rfl),⟨Z6 (λ_=>rfl) (λ_=>rfl),⟨Z6 (λ_=>rfl) (λ_=>rfl),Zt⟩⟩⟩⟩⟩⟩ (o8 hD O) ?_;refine n4 2 (y2 35 13) (V6 0 1 2 11 12 13) ⟨P1 1 O,zV O,Zt⟩ ?_;exact⟨⟨(i+1),bU⟩,(by first|(dsimp only;rw[z84 hk1,q9]<;>rfl)|(dsimp only;rw[w57 (bfalse hk1)]<;>rfl)),(by simp only[];omega)⟩
   ·refine XO ⟨_,28,rfl,rfl,.inl ⟨_,rfl,gw (v:=true) (hk1) rfl⟩⟩ (λC hC=>R.un (gV 32 rfl) rfl (nU rfl)) ?_;refine VL.step rfl (λC hC=>BQ (gV 28 rfl) (hk1) (gV 33 rfl) rfl (nU rfl)) ?_;refine VL.nil ?_;refine UJ (live:=[0,1,2,11,12,13,34]) (env':=[(0,_),(1,_),(2,_),(11,_),(12,_),(13,_),(34,_)]) (bx':=[(6,.var _),(5,.var _),(3,.var _),(2,.var _),(0,.var _),(301,m6 j1 C7 _),(302,m6 j1 w9 _),(303,m6 w7 w9 _)]) (n':=50) rfl rfl rfl ?_;refine V.of λC hC hD=>?_;refine G6 O (O) ?_;refine W.ret ?_;exact⟨.inr rfl,.inl rfl,rfl⟩
  ·refine V.region ?_;refine VL.step rfl (λC hC=>R.mov (gV 7 rfl) rfl (nU rfl)) ?_;refine VL.step rfl (λC hC=>R.mov (gV 27 rfl) rfl (nU rfl)) ?_;refine XN ⟨_,28,rfl,rfl,.inl ⟨_,rfl,gw (v:=false) (bfalse hk1) rfl⟩⟩ rfl (nU rfl) ?_;refine XN ⟨_,28,rfl,rfl,.inl ⟨_,rfl,gw (v:=false) (bfalse hk1) rfl⟩⟩ rfl (nU rfl) ?_;refine XN ⟨_,28,rfl,rfl,.inl ⟨_,rfl,gw (v:=false) (bfalse hk1) rfl⟩⟩ rfl (nU rfl) ?_;refine XN ⟨_,28,rfl,rfl,.inl ⟨_,rfl,gw (v:=false) (bfalse hk1) rfl⟩⟩ rfl (nU rfl) ?_;refine XN ⟨_,28,rfl,rfl,.inl ⟨_,rfl,gw (v:=false) (bfalse hk1) rfl⟩⟩ rfl (nU rfl) ?_;refine VL.step rfl (λC hC=>ET (gV 28 rfl) (bfalse hk1) (kB false rfl) rfl (nU rfl)) ?_;refine VL.nil ?_;refine UJ (live:=[0,1,2,11,12,13,34]) (env':=[(0,_),(1,_),(2,_),(11,_),(12,_),(13,_),(34,_)]) (bx':=[(6,.var _),(5,.var _),(3,.var _),(2,.var _),(0,.var _),(301,m6 j1 C7 _),(302,m6 j1 w9 _),(303,m6 w7 w9 _)]) (n':=50) rfl rfl rfl ?_;refine V.of λC hC hD=>?_;refine Y7 O (O) ?_;refine W.skip ?_;refine V.of λC hC hD=>?_;refine Y2 [0,2,3,301,302,303] (bx':=[(3,.var _),(2,.var _),(0,.var _),(301,m6 j1 C7 _),(302,m6 j1 w9 _),(303,m6 w7 w9 _)]) O O ⟨O,⟨O,⟨O,⟨Z6 (λ_=>rfl) (λ_=>rfl),⟨Z6 (λ_=>rfl) (λ_=>rfl),⟨Z6 (λ_=>rfl) (λ_=>rfl),Zt⟩⟩⟩⟩⟩⟩ (o8 hD O) ?_;refine n4 2 (y2 35 13) (V6 0 1 2 11 12 13) ⟨P1 1 O,zV O,Zt⟩ ?_;exact⟨⟨(i+1),bU⟩,(by first|(dsimp only;rw[z84 hk1,q9]<;>rfl)|(dsimp only;rw[w57 (bfalse hk1)]<;>rfl)),(by simp only[];omega)⟩
 ·obtain rfl:i=t.ins.length:=by omega
  refine W.exit ?_;refine V.seq ?_;refine V.of λC hC hD=>?_;refine n4 4 (y4 36 37 38 39) (V4 0 37 38 39) ⟨xF O,xL O,P8 O,CP (kI 0 O) O,Zt⟩ ?_;refine V.block ?_;refine V.loop (α:={q__:Nat//q__<=t.outs.length}) (λq__=>(((JI b t.ins t.ins.length).length+q__.1,false),(⟨50,[(0,.yld lo),(37,.sl none 2 (t.outs.map r9)),(38,.int ((t.outs.length:Nat):Int)),(39,.int ((q__.1:Nat):Int))],[(3,.var (r8 t)),(2,.var (.ptr 0 0 [])),(0,.var (.agg [.map 301,.map 302,.map 303])),(301,m6 j1 C7 b.outs),(302,m6 j1 w9 b.spent),(303,m6 w7 w9 b.ids)]⟩:Sg))) (λq__=>t.outs.length-q__.1) ⟨(0),bU⟩ rfl ?_;rintro ⟨k,hk⟩;show V _ _ _ _ _ (((JI b t.ins t.ins.length).length+k,false),(⟨50,[(0,.yld lo),(37,.sl none 2 (t.outs.map r9)),(38,.int ((t.outs.length:Nat):Int)),(39,.int ((k:Nat):Int))],[(3,.var (r8 t)),(2,.var (.ptr 0 0 [])),(0,.var (.agg [.map 301,.map 302,.map 303])),(301,m6 j1 C7 b.outs),(302,m6 j1 w9 b.spent),(303,m6 w7 w9 b.ids)]⟩:Sg));have hk:k<=t.outs.length:=hk;refine V.seq ?_;refine V.of λC hC hD=>?_;refine n4 1 (y1 40) (V5 0 37 38 39 40) ⟨zS O,Zt⟩ ?_;refine V.seq ?_;refine V.of λC hC hD=>?_;refine g7 O (λhc40=>?_) (λhc40=>?_)
  ·refine W.skip ?_;refine V.seq ?_;refine V.block ?_;refine V.seq ?_;refine V.of λC hC hD=>?_;refine L8 4 (y2 41 42) (V5 0 37 38 39 42) ⟨zI k O,zL O (mG t.outs),Zt⟩ O (I9 O (M9 O (tW (V5 0 9 37 38 39) [(9,.var _),(3,.var _),(2,.var _),(0,.var _),(301,m6 j1 C7 _),(302,m6 j1 w9 _),(303,m6 w7 w9 _)] 50 O ?_)));refine V.seq ?_;refine V.region ?_;refine VL.step rfl (λC hC=>R.mov (gV 0 rfl) rfl (nU rfl)) ?_;refine VL.step rfl (λC hC=>R.fdP (gU 9 rfl) (nU rfl)) ?_;refine VL.step rfl (λC hC=>R.ldP (gU 44 rfl) (xU 9 rfl) rfl rfl rfl rfl (nU rfl)) ?_;refine VL.step rfl (λC hC=>Z7 hC (FC t.outs[k]!.script (v5 (hwf.outScript (by omega)) dU)) (Bc (Bp (gV 45 rfl) rfl rfl) Bn) (FrsR.one (X6 _)) (nU rfl)) ?_;refine VL.yield hY hyl (gU 43 rfl) (gV 46 rfl) rfl rfl (by rw[z6,Y3];exact(z12 (by omega)).1) (by rw[n9,List.getElem_range,(z12 (by omega)).2]) (nU rfl) (λs__=>?_);cases s__
   ·refine VL.step rfl (λC hC=>R.un (gV 47 rfl) rfl (nU rfl)) ?_;refine VL.nil ?_;refine UJ (live:=[0,37,38,39,48]) (env':=[(0,_),(37,_),(38,_),(39,_),(48,_)]) (bx':=[(9,.var _),(3,.var _),(2,.var _),(0,.var _),(301,m6 j1 C7 _),(302,m6 j1 w9 _),(303,m6 w7 w9 _)]) (n':=50) rfl rfl rfl ?_;refine V.of λC hC hD=>?_;refine Y7 O (O) ?_;refine W.skip ?_;refine V.of λC hC hD=>?_;refine Y2 [0,2,3,301,302,303] (bx':=[(3,.var _),(2,.var _),(0,.var _),(301,m6 j1 C7 _),(302,m6 j1 w9 _),(303,m6 w7 w9 _)]) O O ⟨O,⟨O,⟨O,⟨Z6 (λ_=>rfl) (λ_=>rfl),⟨Z6 (λ_=>rfl) (λ_=>rfl),⟨Z6 (λ_=>rfl) (λ_=>rfl),Zt⟩⟩⟩⟩⟩⟩ (o8 hD O) ?_;refine n4 2 (y2 49 39) (V4 0 37 38 39) ⟨P1 1 O,zV O,Zt⟩ ?_;exact⟨⟨(k+1),bU⟩,rfl,(by simp only[];omega)⟩
   ·refine VL.step rfl (λC hC=>R.un (gV 47 rfl) rfl (nU rfl)) ?_;refine VL.nil ?_;refine UJ (live:=[0,37,38,39,48]) (env':=[(0,_),(37,_),(38,_),(39,_),(48,_)]) (bx':=[(9,.var _),(3,.var _),(2,.var _),(0,.var _),(301,m6 j1 C7 _),(302,m6 j1 w9 _),(303,m6 w7 w9 _)]) (n':=50) rfl rfl rfl ?_;refine V.of λC hC hD=>?_;refine G6 O (O) ?_;refine W.ret ?_;exact⟨.inr rfl,.inl rfl,rfl⟩
  ·obtain rfl:k=t.outs.length:=by omega
   refine W.exit ?_;exact⟨.inl rfl,.inr (by rw[z6,Y3,w53]),rfl⟩
end
section
open Go.Proofs
theorem ME(b:BkS)(id:Hs)(t:TxS)(hwf:t.wf):FnB Tryz.prog gl 66 [.ptr 0 0 [],w7 id,r8 t] [(0,.var (.agg [.map 301,.map 302,.map 303])),(301,m6 j1 C7 b.outs),(302,m6 j1 w9 b.spent),(303,m6 w7 w9 b.ids)] (.tup []) [(0,.var (.agg [.map 301,.map 302,.map 303])),(301,m6 j1 C7 (MY b id t).outs),(302,m6 j1 w9 (MY b id t).spent),(303,m6 w7 w9 (MY b id t).ids)] []:=by
 refine FnB.of (n:=69) (ids:=[0,301,302,303]) Tryz.func66 rfl rfl rfl (nU rfl) λC hC hD=>?_;have h1:=hwf.ins;have h2:=hwf.outs;refine n5 2 [] (V3 0 1 2) Zt O (⟨O,_,R.box (gV 1 O) O O nU,⟨O,_,R.box (gV 2 O) O O nU,tW (V3 0 4 5) [(5,.var _),(4,.var _),(0,.var _),(301,m6 j1 C7 _),(302,m6 j1 w9 _),(303,m6 w7 w9 _)] 69 O ?_⟩⟩);refine q34 (λs__=>∃ q__:{q__:Unit//True},s__=⟨69,[(0,.ptr 0 0 []),(4,.ptr 4 0 []),(5,.ptr 5 0 [])],[(5,.var (r8 t)),(4,.var (w7 id)),(0,.var (.agg [.map 301,.map 302,.map 303])),(301,m6 j1 C7 b.outs),(302,m6 j1 w9 (q05 b t)),(303,m6 w7 w9 b.ids)]⟩) ?_ ?_
 ·refine u4 3 (y3 12 13 14) (V4 0 4 5 14) ⟨xL O,zC hC (EJ t hwf) O (F1 (.bool _)),BH O,Zt⟩ ?_;refine W.cond O (λhc14=>?_) (λhc14=>?_)
  ·refine u4 4 (y4 15 16 17 18) (V6 0 4 5 16 17 18) ⟨xF O,xL O,P8 O,CP (kI 0 O) O,Zt⟩ ?_;refine W.block ?_;refine P2 t.ins.length (λi=>⟨69,[(0,.ptr 0 0 []),(4,.ptr 4 0 []),(5,.ptr 5 0 []),(16,.sl none 36 (t.ins.map YL)),(17,.int ((t.ins.length:Nat):Int)),(18,.int ((i:Nat):Int))],[(5,.var (r8 t)),(4,.var (w7 id)),(0,.var (.agg [.map 301,.map 302,.map 303])),(301,m6 j1 C7 b.outs),(302,m6 j1 w9 (g04 b.spent t.ins i)),(303,m6 w7 w9 b.ids)]⟩) O λi hi=>?_;refine u4 1 (y1 19) (V7 0 4 5 16 17 18 19) ⟨zS O,Zt⟩ ?_;refine W.seq ?_;refine g7 O (λhc19=>?_) (λhc19=>?_)
   ·refine W.skip (W.seq (W.block (n5 4 (y2 20 21) (V7 0 4 5 16 17 18 21) ⟨zI i O,zL O (mG t.ins),Zt⟩ O (I9 O (M9 O (tW (V7 0 4 5 7 16 17 18) [(7,.var _),(5,.var _),(4,.var _),(0,.var _),(301,m6 j1 C7 _),(302,m6 j1 w9 _),(303,m6 w7 w9 _)] 69 O ?_))))));refine R5 7 [0,1,3,7,0,16,0,127] hP dU (y7 22 23 24 25 26 27 28) (V9 0 4 5 16 17 18 25 27 28) ⟨zV O,DY O,xF O,xL O,xF O,xL O,λ_ _ H _=>P5 (l:=[]) (l':=[]) (.nil O) Zt H,Zt⟩ O (⟨O,_,R.mupdU (k:=plc t.ins[i]!) (u:=()) KM FS (gU 25 O) (xU 302 O) (gV 27 O) O (gV 28 O) O O,tW (V6 0 4 5 16 17 18) [(7,.var _),(5,.var _),(4,.var _),(0,.var _),(301,m6 j1 C7 _),(302,m6 j1 w9 _),(303,m6 w7 w9 _)] 69 O ?_⟩);refine Y2 [0,4,5,301,302,303] (bx':=[(5,.var _),(4,.var _),(0,.var _),(301,m6 j1 C7 _),(302,m6 j1 w9 _),(303,m6 w7 w9 _)]) O O ⟨O,⟨O,⟨O,⟨Z6 (λ_=>rfl) (λ_=>rfl),⟨Z6 (λ_=>rfl) (λ_=>rfl),⟨Z6 (λ_=>rfl) (λ_=>rfl),Zt⟩⟩⟩⟩⟩⟩ (o8 hD O) ?_;refine n4 2 (y2 29 18) (V6 0 4 5 16 17 18) ⟨P1 1 O,zV O,Zt⟩ ?_;exact⟨bU,rfl⟩
   ·obtain rfl:i=t.ins.length:=by omega
    refine E9 (V3 0 4 5) [(5,.var _),(4,.var _),(0,.var _),(301,m6 j1 C7 _),(302,m6 j1 w9 _),(303,m6 w7 w9 _)] 69 O ?_;refine W.exit ?_;exact⟨⟨(()),Zt⟩,(by rw[w62 (k45 hc14)]<;>rfl)⟩
  ·refine E9 (V3 0 4 5) [(5,.var _),(4,.var _),(0,.var _),(301,m6 j1 C7 _),(302,m6 j1 w9 _),(303,m6 w7 w9 _)] 69 O ?_;refine W.skip ?_;exact⟨⟨(()),Zt⟩,(by rw[w61 (q95 hc14)]<;>rfl)⟩
 ·rintro s__ ⟨⟨_,_⟩,rfl⟩;refine W.seq (W.seq ?_);refine QE (m:=11) (an:=[0,1,3,7,0,31,63,127,127,0,767,2047]) (its:=[.y 31 _,.y 32 _,.y 33 _,.y 34 _,.y 35 _,.y 36 _,.y 30 _,.y 37 _,.y 38 _,.y 8 _,⟨79,.dead,true⟩]) (ks:=[(10,79)]) (kk:=[]) (efs:=[(9,(B2 8)),(10,(B2 8))]) (live:=[0,4,5,38]) (env':=(V4 0 4 5 38)) (nd:=40) (bx1:=[(8,.var _),(5,.var _),(4,.var _),(0,.var _),(301,m6 j1 C7 _),(302,m6 j1 w9 _),(303,m6 w7 w9 _)]) hP dU O ⟨⟨86,O⟩,nU O,O,O,O,O⟩ (        ⟨⟨O,nU O,O,λ_ τ hb ht hτ=>R.mov (evt (hτ 0 _ O)) O ht⟩,⟨⟨O,nU O,O,λ_ τ hb ht hτ=>R.nilcP (hτ 31 _ O) ht⟩,⟨⟨O,nU O,O,λ_ τ hb ht hτ=>R.fdP (hτ 32 _ O) ht⟩,⟨⟨O,nU O,O,λ_ τ hb ht hτ=>R.ldP (hτ 33 _ O) (hb 0 _ O) O O O O ht⟩,⟨⟨O,nU O,O,λ_ τ hb ht hτ=>R.ldP (hτ 4 _ O) (hb 4 _ O) O O O O ht⟩,⟨⟨O,nU O,O,λ_ τ hb ht hτ=>R.lookK (k:=id) (z:=()) LZ (hτ 34 _ O) (hb 303 _ O) (evt (hτ 35 _ O)) O O (λ_=>rfl) ht⟩,⟨⟨O,nU O,O,λ_ τ hb ht hτ=>R.movT (hτ 36 _ O) O ht⟩,⟨⟨O,nU O,O,λ_ τ hb ht hτ=>R.ext (hτ 30 _ O) O O ht⟩,⟨⟨O,nU O,O,λ_ τ hb ht hτ=>R.ext (hτ 30 _ O) O O ht⟩,⟨⟨O,O,⟨O,nU O⟩,(SpE.alloc O nU)⟩,⟨⟨O,O,O,(YK (p:=8) (id:=8) O O O (λτ hτ=>(evt (hτ 37 _ O))) (by rfl) (by rfl) (by rfl) (by rfl) O)⟩,Zt⟩⟩⟩⟩⟩⟩⟩⟩⟩⟩⟩) O O O (n':=69) O (GK O ⟨[0,4,5,9],(V4 0 4 5 9),[(8,.var _),(5,.var _),(4,.var _),(0,.var _),(301,m6 j1 C7 _),(302,m6 j1 w9 _),(303,m6 w7 w9 _)],69,O,O,O, ?_⟩);refine u4 1 (y1 39) (V4 0 4 5 39) ⟨zV O,Zt⟩ ?_;refine W.cond O (λhc39=>?_) (λhc39=>?_)
  ·refine W.ret ?_;exact S0 (r:=.dead) (.inr O) O (by rw[w63 hc39]<;>rfl) ⟨O,QR _ _,QL _ _,QI _ _,Zt⟩
  ·refine W.skip (W.seq ?_);refine R5 6 [0,1,3,7,0,0,63] hP dU (y6 40 41 42 43 44 45) (V6 0 4 5 43 44 45) ⟨zV O,DY O,xF O,xL O,xL O,λ_ _ H _=>P5 (l:=[]) (l':=[]) (.nil O) Zt H,Zt⟩ O (⟨O,_,R.mupdU (k:=id) (u:=()) LZ j41 (gU 43 O) (xU 303 O) (gV 44 O) O (gV 45 O) O O,tW (V3 0 4 5) [(8,.var _),(5,.var _),(4,.var _),(0,.var _),(301,m6 j1 C7 _),(302,m6 j1 w9 _),(303,m6 w7 w9 _)] 69 O ?_⟩);refine u4 4 (y4 46 47 48 49) (V5 0 4 47 48 49) ⟨xF O,xL O,P8 O,CP (kI 0 O) O,Zt⟩ ?_;refine W.block ?_;refine P2 t.outs.length (λk=>⟨69,[(0,.ptr 0 0 []),(4,.ptr 4 0 []),(47,.sl none 2 (t.outs.map r9)),(48,.int ((t.outs.length:Nat):Int)),(49,.int ((k:Nat):Int))],[(8,.var (.agg [])),(5,.var (r8 t)),(4,.var (w7 id)),(0,.var (.agg [.map 301,.map 302,.map 303])),(301,m6 j1 C7 (BF b.outs id t.outs k)),(302,m6 j1 w9 (q05 b t)),(303,m6 w7 w9 (IR b.ids id ()))]⟩) O λk hk=>?_;refine u4 1 (y1 50) (V6 0 4 47 48 49 50) ⟨zS O,Zt⟩ ?_;refine W.seq ?_;refine g7 O (λhc50=>?_) (λhc50=>?_)
   ·refine W.skip (W.seq (W.block (n5 6 (y3 51 52 53) (V7 0 4 47 48 49 51 53) ⟨zV O,zI k O,zL O (mG t.outs),Zt⟩ O (I9 O (GK O (M9 O (tW (V7 0 4 10 11 47 48 49) [(11,.var _),(8,.var _),(5,.var _),(4,.var _),(0,.var _),(301,m6 j1 C7 _),(302,m6 j1 w9 _),(303,m6 w7 w9 _)] 69 O ?_)))))));refine R5 14 [0,1,3,7,0,0,32,112,0,256,0,1024,3072,7936,16383] hP dU (z53 54 55 56 57 58 59 60 61 62 63 64 65 66 67) (V8 0 4 47 48 49 57 61 67) ⟨zV O,DY O,xF O,xL O,xL O,zV O,λ_ _ H K=>W5 (d:=.u32 (nK k)) (eU K 59 O) O (O) H,λ_ _ H K=>P5 (l:=[.arr 32 1 ((List.replicate 32 0).map D.u8),.u32 0]) (l':=[_,_]) (.cons (eU K 58 O) (.cons (eU K 60 O) (.nil O))) ⟨⟨_,(eU K 58 O),O,O,O⟩,⟨⟨_,(eU K 60 O),O,O,O⟩,Zt⟩⟩ H,xF O,xL O,xF O,xL O,zC hC (FC t.outs[k]!.script (v5 (hwf.outScript bO) dU)) O (F1 (X6 _)),λ_ _ H K=>P5 (l:=[.u64 0,.arr 32 1 ((List.replicate 32 0).map D.u8)]) (l':=[_,_]) (.cons (eU K 63 O) (.cons (eU K 66 O) (.nil O))) ⟨⟨_,(eU K 63 O),O,O,O⟩,⟨⟨_,(eU K 66 O),O,O,y22 O⟩,Zt⟩⟩ H,Zt⟩ O (⟨O,_,R.mupdU (k:=(id,nK k)) (u:=(t.outs[k]!.value,GX t.outs[k]!.script)) KM FS (gU 57 O) (xU 301 O) (gV 61 O) (y45 _ _) (gV 67 O) (y47 _ _) O,tW (V5 0 4 47 48 49) [(11,.var _),(8,.var _),(5,.var _),(4,.var _),(0,.var _),(301,m6 j1 C7 _),(302,m6 j1 w9 _),(303,m6 w7 w9 _)] 69 O ?_⟩);refine Y2 [0,4,5,8,301,302,303] (bx':=[(8,.var _),(5,.var _),(4,.var _),(0,.var _),(301,m6 j1 C7 _),(302,m6 j1 w9 _),(303,m6 w7 w9 _)]) O O ⟨O,⟨O,⟨O,⟨O,⟨Z6 (λ_=>rfl) (λ_=>rfl),⟨Z6 (λ_=>rfl) (λ_=>rfl),⟨Z6 (λ_=>rfl) (λ_=>rfl),Zt⟩⟩⟩⟩⟩⟩⟩ (o8 hD O) ?_;refine n4 2 (y2 68 49) (V5 0 4 47 48 49) ⟨P1 1 O,zV O,Zt⟩ ?_;exact⟨bU,rfl⟩
   ·obtain rfl:k=t.outs.length:=by omega
    refine E9 [] [(8,.var _),(5,.var _),(4,.var _),(0,.var _),(301,m6 j1 C7 _),(302,m6 j1 w9 _),(303,m6 w7 w9 _)] 69 O ?_;refine W.exit ?_;exact S0 (r:=.dead) (.inl O) O (by rw[q06 hc39]<;>rfl) ⟨O,QR _ _,QL _ _,QI _ _,Zt⟩
theorem k25(b:BkS)(id:Hs)(t:TxS)(hwf:t.wf):FnB Tryz.prog gl 116 [.ptr 0 0 [],w7 id,r8 t] [(0,.var (.agg [.map 301,.map 302,.map 303])),(301,m6 j1 C7 b.outs),(302,m6 j1 w9 b.spent),(303,m6 w7 w9 b.ids)] (.bool (XC b id t)) [(0,.var (.agg [.map 301,.map 302,.map 303])),(301,m6 j1 C7 b.outs),(302,m6 j1 w9 b.spent),(303,m6 w7 w9 b.ids)] []:=by
 refine FnB.of (n:=83) (ids:=[0,301,302,303]) Tryz.func116 rfl rfl rfl (nU rfl) λC hC hD=>?_;have h1:=hwf.ins;have h2:=hwf.outs;refine n5 3 [] (V3 0 1 2) Zt O (⟨O,_,R.box (gV 1 O) O O nU,⟨O,_,R.box (gV 2 O) O O nU,⟨O,_,J9 (kB false O) O nU,tW (V3 0 4 5) [(5,.var _),(4,.var _),(0,.var _),(301,m6 j1 C7 _),(302,m6 j1 w9 _),(303,m6 w7 w9 _)] 83 O ?_⟩⟩⟩);refine W.seq (W.seq ?_);refine QE (m:=11) (an:=[0,1,3,7,0,31,63,127,127,0,767,2047]) (its:=[.y 20 _,.y 21 _,.y 22 _,.y 23 _,.y 24 _,.y 25 _,.y 19 _,.y 26 _,.y 27 _,.y 7 _,⟨93,.dead,true⟩]) (ks:=[(10,93)]) (kk:=[]) (efs:=[(9,(B2 7)),(10,(B2 7))]) (live:=[0,5,27]) (env':=(V3 0 5 27)) (nd:=40) (bx1:=[(7,.var _),(5,.var _),(4,.var _),(0,.var _),(301,m6 j1 C7 _),(302,m6 j1 w9 _),(303,m6 w7 w9 _)]) hP dU O ⟨⟨100,O⟩,nU O,O,O,O,O⟩ (      ⟨⟨O,nU O,O,λ_ τ hb ht hτ=>R.mov (evt (hτ 0 _ O)) O ht⟩,⟨⟨O,nU O,O,λ_ τ hb ht hτ=>R.nilcP (hτ 20 _ O) ht⟩,⟨⟨O,nU O,O,λ_ τ hb ht hτ=>R.fdP (hτ 21 _ O) ht⟩,⟨⟨O,nU O,O,λ_ τ hb ht hτ=>R.ldP (hτ 22 _ O) (hb 0 _ O) O O O O ht⟩,⟨⟨O,nU O,O,λ_ τ hb ht hτ=>R.ldP (hτ 4 _ O) (hb 4 _ O) O O O O ht⟩,⟨⟨O,nU O,O,λ_ τ hb ht hτ=>R.lookK (k:=id) (z:=()) LZ (hτ 23 _ O) (hb 303 _ O) (evt (hτ 24 _ O)) O O (λ_=>rfl) ht⟩,⟨⟨O,nU O,O,λ_ τ hb ht hτ=>R.movT (hτ 25 _ O) O ht⟩,⟨⟨O,nU O,O,λ_ τ hb ht hτ=>R.ext (hτ 19 _ O) O O ht⟩,⟨⟨O,nU O,O,λ_ τ hb ht hτ=>R.ext (hτ 19 _ O) O O ht⟩,⟨⟨O,O,⟨O,nU O⟩,(SpE.alloc O nU)⟩,⟨⟨O,O,O,(YK (p:=7) (id:=7) O O O (λτ hτ=>(evt (hτ 26 _ O))) (by rfl) (by rfl) (by rfl) (by rfl) O)⟩,Zt⟩⟩⟩⟩⟩⟩⟩⟩⟩⟩⟩) O O O (n':=83) O (GK O ⟨[0,5,8],(V3 0 5 8),[(7,.var _),(5,.var _),(4,.var _),(0,.var _),(301,m6 j1 C7 _),(302,m6 j1 w9 _),(303,m6 w7 w9 _)],83,O,O,O, ?_⟩);refine u4 1 (y1 28) (V3 0 5 28) ⟨zV O,Zt⟩ ?_;refine W.cond O (λhc28=>?_) (λhc28=>?_)
 ·refine u4 1 (y1 6) (V1 6) ⟨i6 O,Zt⟩ ?_;refine W.ret ?_;exact EndsB.one' (.inr O) O (by rw[k61 hc28]) O Zt O O (O) ⟨O,QR _ _,QL _ _,QI _ _,Zt⟩ O
 ·refine W.skip (W.seq (u4 2 (y2 29 30) (V3 0 5 30) ⟨xL O,zC hC (EJ t hwf) O (F1 (.bool _)),Zt⟩ ?_));refine W.cond O (λhc30=>?_) (λhc30=>?_)
  ·refine u4 1 (y1 6) (V1 6) ⟨i6 O,Zt⟩ ?_;refine W.ret ?_;exact EndsB.one' (.inr O) O (by rw[k60 hc28 hc30]) O Zt O O (O) ⟨O,QR _ _,QL _ _,QI _ _,Zt⟩ O
  ·refine W.skip (u4 2 (y2 9 10) (V4 0 5 9 10) ⟨q42 (.u64 0) O,q42 (.u64 0) O,Zt⟩ ?_);refine W.seq (u4 4 (y4 31 32 33 34) (V7 0 5 9 10 32 33 34) ⟨xF O,xL O,P8 O,CP (kI 0 O) O,Zt⟩ ?_);refine W.block ?_;refine UK t.ins.length (λq__=>(∀ q<q__,z50 b (plc t.ins[q]!)=true)) (λi=>⟨83,[(0,.ptr 0 0 []),(5,.ptr 5 0 []),(9,.u64 (v89 b t.ins i)),(10,.u64 0),(32,.sl none 36 (t.ins.map YL)),(33,.int ((t.ins.length:Nat):Int)),(34,.int ((i:Nat):Int))],[(7,.var (.agg [])),(5,.var (r8 t)),(4,.var (w7 id)),(0,.var (.agg [.map 301,.map 302,.map 303])),(301,m6 j1 C7 b.outs),(302,m6 j1 w9 b.spent),(303,m6 w7 w9 b.ids)]⟩) ⟨v6 _,λq h=>absurd h (g9 _)⟩ O λi hinv=>?_;obtain⟨hi,hno⟩:=hinv;have hi:i<=t.ins.length:=hi;have hno:(∀ q<i,z50 b (plc t.ins[q]!)=true):=hno;refine u4 1 (y1 35) (V8 0 5 9 10 32 33 34 35) ⟨zS O,Zt⟩ ?_;refine W.seq ?_;refine g7 O (λhc35=>?_) (λhc35=>?_)
   ·refine W.skip (W.seq (W.block (n5 4 (y2 36 37) (V8 0 5 9 10 32 33 34 37) ⟨zI i O,zL O (mG t.ins),Zt⟩ O (I9 O (M9 O (tW (V8 0 5 9 10 12 32 33 34) [(12,.var _),(7,.var _),(5,.var _),(4,.var _),(0,.var _),(301,m6 j1 C7 _),(302,m6 j1 w9 _),(303,m6 w7 w9 _)] 83 O ?_))))));refine W.seq ?_;refine QE (m:=12) (an:=[0,1,3,7,0,16,63,127,255,255,0,1535,4095]) (its:=[.y 39 _,.y 40 _,.y 41 _,.y 42 _,.y 43 _,.y 44 _,.y 45 _,.y 38 _,.y 46 _,.y 47 _,.y 13 _,⟨94,.dead,true⟩]) (ks:=[(11,94)]) (kk:=[]) (efs:=[(10,(B2 13)),(11,(B2 13))]) (live:=[0,5,9,10,12,13,32,33,34,47]) (env':=(z51 0 5 9 10 12 13 32 33 34 47)) (nd:=40) (bx1:=[(13,.var _),(12,.var _),(7,.var _),(5,.var _),(4,.var _),(0,.var _),(301,m6 j1 C7 _),(302,m6 j1 w9 _),(303,m6 w7 w9 _)]) hP dU O ⟨⟨101,O⟩,nU O,O,O,O,O⟩ (            ⟨⟨O,nU O,O,λ_ τ hb ht hτ=>R.mov (evt (hτ 0 _ O)) O ht⟩,⟨⟨O,nU O,O,λ_ τ hb ht hτ=>R.nilcP (hτ 39 _ O) ht⟩,⟨⟨O,nU O,O,λ_ τ hb ht hτ=>R.fdP (hτ 40 _ O) ht⟩,⟨⟨O,nU O,O,λ_ τ hb ht hτ=>R.ldP (hτ 41 _ O) (hb 0 _ O) O O O O ht⟩,⟨⟨O,nU O,O,λ_ τ hb ht hτ=>R.fdP (hτ 12 _ O) ht⟩,⟨⟨O,nU O,O,λ_ τ hb ht hτ=>R.ldP (hτ 43 _ O) (hb 12 _ O) O O O O ht⟩,⟨⟨O,nU O,O,λ_ τ hb ht hτ=>R.lookK (k:=(plc t.ins[i]!)) (z:=q49) KM (hτ 42 _ O) (hb 301 _ O) (evt (hτ 44 _ O)) O O (λ_=>rfl) ht⟩,⟨⟨O,nU O,O,λ_ τ hb ht hτ=>R.movT (hτ 45 _ O) O ht⟩,⟨⟨O,nU O,O,λ_ τ hb ht hτ=>R.ext (hτ 38 _ O) O O ht⟩,⟨⟨O,nU O,O,λ_ τ hb ht hτ=>R.ext (hτ 38 _ O) O O ht⟩,⟨⟨O,O,⟨O,nU O⟩,(SpE.alloc O nU)⟩,⟨⟨O,O,O,(YK (p:=13) (id:=13) O O O (λτ hτ=>(evt (hτ 46 _ O))) (by rfl) (by rfl) (by rfl) (by rfl) O)⟩,Zt⟩⟩⟩⟩⟩⟩⟩⟩⟩⟩⟩⟩) O O O (n':=83) O (GK O ⟨[0,5,9,10,12,13,14,32,33,34],(z51 0 5 9 10 12 13 14 32 33 34),[(13,.var _),(12,.var _),(7,.var _),(5,.var _),(4,.var _),(0,.var _),(301,m6 j1 C7 _),(302,m6 j1 w9 _),(303,m6 w7 w9 _)],83,O,O,O, ?_⟩);refine W.seq (W.seq ?_);refine QE (m:=12) (an:=[0,1,3,7,0,16,63,127,255,255,0,1535,4095]) (its:=[.y 49 _,.y 50 _,.y 51 _,.y 52 _,.y 53 _,.y 54 _,.y 55 _,.y 48 _,.y 56 _,.y 57 _,.y 15 _,⟨94,.dead,true⟩]) (ks:=[(11,94)]) (kk:=[]) (efs:=[(10,(B2 15)),(11,(B2 15))]) (live:=[0,5,9,10,13,14,32,33,34,57]) (env':=(z51 0 5 9 10 13 14 32 33 34 57)) (nd:=40) (bx1:=[(15,.var _),(13,.var _),(12,.var _),(7,.var _),(5,.var _),(4,.var _),(0,.var _),(301,m6 j1 C7 _),(302,m6 j1 w9 _),(303,m6 w7 w9 _)]) hP dU O ⟨⟨101,O⟩,nU O,O,O,O,O⟩ (            ⟨⟨O,nU O,O,λ_ τ hb ht hτ=>R.mov (evt (hτ 0 _ O)) O ht⟩,⟨⟨O,nU O,O,λ_ τ hb ht hτ=>R.nilcP (hτ 49 _ O) ht⟩,⟨⟨O,nU O,O,λ_ τ hb ht hτ=>R.fdP (hτ 50 _ O) ht⟩,⟨⟨O,nU O,O,λ_ τ hb ht hτ=>R.ldP (hτ 51 _ O) (hb 0 _ O) O O O O ht⟩,⟨⟨O,nU O,O,λ_ τ hb ht hτ=>R.fdP (hτ 12 _ O) ht⟩,⟨⟨O,nU O,O,λ_ τ hb ht hτ=>R.ldP (hτ 53 _ O) (hb 12 _ O) O O O O ht⟩,⟨⟨O,nU O,O,λ_ τ hb ht hτ=>R.lookK (k:=(plc t.ins[i]!)) (z:=()) KM (hτ 52 _ O) (hb 302 _ O) (evt (hτ 54 _ O)) O O (λ_=>rfl) ht⟩,⟨⟨O,nU O,O,λ_ τ hb ht hτ=>R.movT (hτ 55 _ O) O ht⟩,⟨⟨O,nU O,O,λ_ τ hb ht hτ=>R.ext (hτ 48 _ O) O O ht⟩,⟨⟨O,nU O,O,λ_ τ hb ht hτ=>R.ext (hτ 48 _ O) O O ht⟩,⟨⟨O,O,⟨O,nU O⟩,(SpE.alloc O nU)⟩,⟨⟨O,O,O,(YK (p:=15) (id:=15) O O O (λτ hτ=>(evt (hτ 56 _ O))) (by rfl) (by rfl) (by rfl) (by rfl) O)⟩,Zt⟩⟩⟩⟩⟩⟩⟩⟩⟩⟩⟩⟩) O O O (n':=83) O (GK O ⟨[0,5,9,10,13,14,16,32,33,34],(z51 0 5 9 10 13 14 16 32 33 34),[(15,.var _),(13,.var _),(12,.var _),(7,.var _),(5,.var _),(4,.var _),(0,.var _),(301,m6 j1 C7 _),(302,m6 j1 w9 _),(303,m6 w7 w9 _)],83,O,O,O, ?_⟩);refine W.seq ?_;by_cases hk1:H3 b.outs (plc t.ins[i]!)=true
    ·refine Y2 [0,4,5,7,13,301,302,303] (bx':=[(13,.var _),(7,.var _),(5,.var _),(4,.var _),(0,.var _),(301,m6 j1 C7 _),(302,m6 j1 w9 _),(303,m6 w7 w9 _)]) O O ⟨O,⟨O,⟨O,⟨O,⟨O,⟨Z6 (λ_=>rfl) (λ_=>rfl),⟨Z6 (λ_=>rfl) (λ_=>rfl),⟨Z6 (λ_=>rfl) (λ_=>rfl),Zt⟩⟩⟩⟩⟩⟩⟩⟩ (o8 hD O) ?_;refine N0 5 (y5 58 59 60 61 62) (V9 0 5 9 10 13 32 33 34 62) ⟨xM O,aU<|BH O,xM O,aN O (by rw[hk1];rfl)<|zV O,aU<|zF O (by rw[hk1];rfl),Zt⟩ ?_;refine W.cond O (λhc62=>?_) (λhc62=>?_)
     ·refine W.seq ?_;refine E9 [] [(13,.var _),(7,.var _),(5,.var _),(4,.var _),(0,.var _),(301,m6 j1 C7 _),(302,m6 j1 w9 _),(303,m6 w7 w9 _)] 83 O ?_;refine Y2 [0,4,5,7,301,302,303] (bx':=[(7,.var _),(5,.var _),(4,.var _),(0,.var _),(301,m6 j1 C7 _),(302,m6 j1 w9 _),(303,m6 w7 w9 _)]) O O ⟨O,⟨O,⟨O,⟨O,⟨Z6 (λ_=>rfl) (λ_=>rfl),⟨Z6 (λ_=>rfl) (λ_=>rfl),⟨Z6 (λ_=>rfl) (λ_=>rfl),Zt⟩⟩⟩⟩⟩⟩⟩ (o8 hD O) ?_;refine n4 1 (y1 6) (V1 6) ⟨i6 O,Zt⟩ ?_;refine W.ret ?_;exact EndsB.one' (.inr O) O (by rw[q04 hc28 hc30 hc35 (g63 hk1 hc62)]) O Zt O O (O) ⟨O,QR _ _,QL _ _,QI _ _,Zt⟩ O
     ·refine W.skip ?_;refine n4 5 (y5 63 64 65 66 9) (V7 0 5 9 10 32 33 34) ⟨zV O,xF O,xL O,zB O,zA O,Zt⟩ ?_;refine Y2 [0,4,5,7,301,302,303] (bx':=[(7,.var _),(5,.var _),(4,.var _),(0,.var _),(301,m6 j1 C7 _),(302,m6 j1 w9 _),(303,m6 w7 w9 _)]) O O ⟨O,⟨O,⟨O,⟨O,⟨Z6 (λ_=>rfl) (λ_=>rfl),⟨Z6 (λ_=>rfl) (λ_=>rfl),⟨Z6 (λ_=>rfl) (λ_=>rfl),Zt⟩⟩⟩⟩⟩⟩⟩ (o8 hD O) ?_;refine n4 2 (y2 67 34) (V7 0 5 9 10 32 33 34) ⟨P1 1 O,zV O,Zt⟩ ?_;exact⟨⟨(by show i+1<=t.ins.length;omega),λq hq=>(u7.1 hq).elim (hno q) (λe=>e▸g62 hk1 hc62)⟩,rfl⟩
    ·refine Y2 [0,4,5,7,13,301,302,303] (bx':=[(13,.var _),(7,.var _),(5,.var _),(4,.var _),(0,.var _),(301,m6 j1 C7 _),(302,m6 j1 w9 _),(303,m6 w7 w9 _)]) O O ⟨O,⟨O,⟨O,⟨O,⟨O,⟨Z6 (λ_=>rfl) (λ_=>rfl),⟨Z6 (λ_=>rfl) (λ_=>rfl),⟨Z6 (λ_=>rfl) (λ_=>rfl),Zt⟩⟩⟩⟩⟩⟩⟩⟩ (o8 hD O) ?_;refine N0 5 [.y 58 _,.y 59 _,.y 60 _,.x 61,.y 62 _] (V9 0 5 9 10 13 32 33 34 62) ⟨xM O,aU<|BH O,xM O,R3 O (by rw[bfalse hk1];rfl),aU<|EW O (by rw[bfalse hk1];rfl) (kB true O),Zt⟩ ?_;refine G6 O (O) ?_;refine W.seq ?_;refine E9 [] [(13,.var _),(7,.var _),(5,.var _),(4,.var _),(0,.var _),(301,m6 j1 C7 _),(302,m6 j1 w9 _),(303,m6 w7 w9 _)] 83 O ?_;refine Y2 [0,4,5,7,301,302,303] (bx':=[(7,.var _),(5,.var _),(4,.var _),(0,.var _),(301,m6 j1 C7 _),(302,m6 j1 w9 _),(303,m6 w7 w9 _)]) O O ⟨O,⟨O,⟨O,⟨O,⟨Z6 (λ_=>rfl) (λ_=>rfl),⟨Z6 (λ_=>rfl) (λ_=>rfl),⟨Z6 (λ_=>rfl) (λ_=>rfl),Zt⟩⟩⟩⟩⟩⟩⟩ (o8 hD O) ?_;refine n4 1 (y1 6) (V1 6) ⟨i6 O,Zt⟩ ?_;refine W.ret ?_;exact EndsB.one' (.inr O) O (by rw[q04 hc28 hc30 hc35 (g64 (bfalse hk1))]) O Zt O O (O) ⟨O,QR _ _,QL _ _,QI _ _,Zt⟩ O
   ·obtain rfl:i=t.ins.length:=by omega
    refine W.exit (W.seq (u4 4 (y4 68 69 70 71) (V5 9 10 69 70 71) ⟨xF O,xL O,P8 O,CP (kI 0 O) O,Zt⟩ ?_));refine W.block ?_;refine P2 t.outs.length (λk=>⟨83,[(9,.u64 (v89 b t.ins t.ins.length)),(10,.u64 (HJ t.outs k)),(69,.sl none 2 (t.outs.map r9)),(70,.int ((t.outs.length:Nat):Int)),(71,.int ((k:Nat):Int))],[(7,.var (.agg [])),(5,.var (r8 t)),(4,.var (w7 id)),(0,.var (.agg [.map 301,.map 302,.map 303])),(301,m6 j1 C7 b.outs),(302,m6 j1 w9 b.spent),(303,m6 w7 w9 b.ids)]⟩) O λk hk=>?_;refine u4 1 (y1 72) (V6 9 10 69 70 71 72) ⟨zS O,Zt⟩ ?_;refine W.seq ?_;refine g7 O (λhc72=>?_) (λhc72=>?_)
    ·refine W.skip (W.seq (W.block (n5 4 (y2 73 74) (V6 9 10 69 70 71 74) ⟨zI k O,zL O (mG t.outs),Zt⟩ O (I9 O (M9 O (tW (V6 9 10 18 69 70 71) [(18,.var _),(7,.var _),(5,.var _),(4,.var _),(0,.var _),(301,m6 j1 C7 _),(302,m6 j1 w9 _),(303,m6 w7 w9 _)] 83 O ?_))))));refine n4 5 (y5 75 76 77 78 10) (V5 9 10 69 70 71) ⟨zV O,xF O,xL O,zB O,zA O,Zt⟩ ?_;refine Y2 [0,4,5,7,301,302,303] (bx':=[(7,.var _),(5,.var _),(4,.var _),(0,.var _),(301,m6 j1 C7 _),(302,m6 j1 w9 _),(303,m6 w7 w9 _)]) O O ⟨O,⟨O,⟨O,⟨O,⟨Z6 (λ_=>rfl) (λ_=>rfl),⟨Z6 (λ_=>rfl) (λ_=>rfl),⟨Z6 (λ_=>rfl) (λ_=>rfl),Zt⟩⟩⟩⟩⟩⟩⟩ (o8 hD O) ?_;refine n4 2 (y2 79 71) (V5 9 10 69 70 71) ⟨P1 1 O,zV O,Zt⟩ ?_;exact⟨bU,rfl⟩
    ·obtain rfl:k=t.outs.length:=by omega
     refine W.exit (u4 4 (y4 80 81 82 6) (V1 6) ⟨zV O,zV O,zB O,zA O,Zt⟩ ?_);refine W.ret ?_;exact EndsB.one' (.inr O) O (by rw[k59 hc28 hc30 hno]<;>rfl) O Zt O O (O) ⟨O,QR _ _,QL _ _,QI _ _,Zt⟩ O
theorem v06(l:List TxS)(hl:l.length<=1000)(hw:∀ t∈l,t.wf):Fn Tryz.prog gl 112 [.sl none 4 (l.map r8)] (.sl (some 23) 32 ((l.map XR).map w7)):=by
 refine Fo 19 Tryz.func112 O λC hC hD=>?_;refine u4 1 (y1 2) (V1 0) ⟨i6 O,Zt⟩ ?_;refine u4 1 (y1 3) (V2 0 3) ⟨i6 O,Zt⟩ ?_;refine W.seq (u4 3 (y3 6 7 8) (V4 3 6 7 8) ⟨zV O,P8 O,CP (kI 0 O) O,Zt⟩ ?_);refine W.block ?_;refine O6 (s:=3) 23 32 O ?_;refine P2 l.length (λi=>⟨19,[(3,.sl (some 23) 32 ((LX l i).map w7)),(6,.sl none 4 (l.map r8)),(7,.int ((l.length:Nat):Int)),(8,.int ((i:Nat):Int))],[]⟩) O λi hi=>?_;refine u4 1 (y1 9) (V5 3 6 7 8 9) ⟨zS O,Zt⟩ ?_;refine W.seq ?_;refine g7 O (λhc9=>?_) (λhc9=>?_)
 ·refine W.skip (W.seq (W.block (n5 4 (y2 10 11) (V5 3 6 7 8 11) ⟨zI i O,zL O (mG l),Zt⟩ O (I9 O (M9 O (tW (V5 3 5 6 7 8) (B2 5) 19 O ?_))))));refine UZ 6 (y6 12 13 14 15 16 3) [(4,3),(5,16),(5,12)] [(4,3),(5,16)] (V4 3 6 7 8) ⟨aU<|zM O,aU (xL O),aU<|zC hC (w27 l[i]! (hw _ (X0 bO))) O (F1 (X6 _)),aU λ_ _ H K=>J3 (z:=32) (.cons (eU K 14 O) .nil) ⟨⟨O,O,O⟩,Zt⟩ O H dU,aU<|YC O (G5 O) (show _=((LX l (i+1)).map w7) from(w66)) (by have:=w65 l i;simp only[z6,j2,j3];omega),aU<|zO O,Zt⟩ O (tU O ?_);refine H6 [] (bx':=[]) O O O (o8 hD O) ?_;refine n4 2 (y2 17 8) (V4 3 6 7 8) ⟨P1 1 O,zV O,Zt⟩ ?_;exact⟨bU,rfl⟩
 ·obtain rfl:i=l.length:=by omega
  refine W.exit (P4 2 (y2 18 2) [(0,3),(1,18)] [(0,3),(1,18)] (V1 2) ⟨aU λ_ _ H K=>ZX (K 3 _ O) O H dU,aU<|zO O,Zt⟩ O (tU O ?_));exact W.ret (En O (by rw[w67]))
end
section
open Go.Proofs
set_option maxHeartbeats 1000000 in
theorem u06(b:BkS)(l:List BlkS)(hl:allBl l)(h:Nat)(hh:h<l.length):FnB Tryz.prog gl 61 [.ptr 0 0 [],.sl none 69 (l.map J7),.int ((h:Nat):Int)] [(0,.var (.agg [.map 301,.map 302,.map 303])),(301,m6 j1 C7 b.outs),(302,m6 j1 w9 b.spent),(303,m6 w7 w9 b.ids)] (.int (DX b l h).1) [(0,.var (.agg [.map 301,.map 302,.map 303])),(301,m6 j1 C7 (DX b l h).2.outs),(302,m6 j1 w9 (DX b l h).2.spent),(303,m6 w7 w9 (DX b l h).2.ids)] []:=by
 refine FnB.of (n:=90) (ids:=[0,301,302,303]) Tryz.func61 rfl rfl rfl (nU rfl) λC hC hD=>?_;have hbw:=hl.get hh;have hbl:=hbw.len;have hl0:=hl.1;refine u4 1 (y1 6) (V3 0 1 2) ⟨O3 0 O,Zt⟩ ?_;refine n5 6 (y4 11 12 13 14) (V4 0 1 2 14) ⟨zV O,zV O,zI h O,zL O (mG l),Zt⟩ O (I9 O (M9 O (tW (V4 0 1 2 7) [(7,.var _),(0,.var _),(301,m6 j1 C7 _),(302,m6 j1 w9 _),(303,m6 w7 w9 _)] 90 O ?_)));refine P4 4 (y4 15 16 17 8) [(3,17)] [(3,17)] (V5 0 1 2 7 8) ⟨aU (xF O),aU (xL O),aU<|zC hC (v06 l[h]!.txs hbl hbw.txs) O (F1 (w75 _ _ _)),aU<|zO O,Zt⟩ O (tU O ?_);refine W.seq (W.block (W.seq ?_));by_cases h1:0<h
 ·refine KF 16 [0,1,3,7,15,31,7,7,135,455,967,1991,4039,8191,16383,32767] hP dU (g85 19 20 21 22 23 24 25 26 27 28 29 30 31 32 33 18) [] [] (V5 0 2 7 8 18) ⟨xM O,aU<|OE 0 O,xM O,aT O (dT h1) (xF O),aT O (dT h1) (xF O),aT O (dT h1) (xL O),aT O (dT h1)<|zV O,aT O (dT h1)<|zV O,aT O (dT h1)<|AD 1 O,aT O (dT h1)<|zI ((h-1)) O,aT O (dT h1)<|r7 O,aT O (dT h1)<|zL O (mG l),aT O (dT h1)<|zC hC (y75 l[h-1]!.hd (hl.get (show h-1<l.length by omega)).hd) O (F1 (X6 _)),aT O (dT h1) λ_ _ H K=>ON (eU K 24 O) (eU K 31 O) H,aU<|zT O (dT h1),aU<|zA O,Zt⟩ O (tW (V5 0 2 7 8 18) [(7,.var _),(0,.var _),(301,m6 j1 C7 _),(302,m6 j1 w9 _),(303,m6 w7 w9 _)] 90 O ?_);refine W.cond O (λhc18=>?_) (λhc18=>?_)
  ·refine u4 1 (y1 6) (V1 6) ⟨O3 9 O,Zt⟩ ?_;refine W.ret ?_;exact EndsB.one' (.inr O) O (by rw[KQ (v90 h1 hc18) dU]<;>rfl) O Zt O O (by rw[KQ (v90 h1 hc18) dU]<;>rfl) ⟨O,QR _ _,QL _ _,QI _ _,Zt⟩ O
  ·refine j70 8 [.y 35 _,.y 36 _,.y 37 _,.x 38,.x 39,.x 40,.y 41 _,.y 34 _] (V4 0 7 8 34) ⟨xM O,aU<|GZ 0 O,xM O,O5 O (dF bO),O5 O (dF bO),O5 O (dF bO),aU<|FQ O (dF bO) (kB false O),aU<|zA O,Zt⟩ ?_;refine Y7 O (O) ?_;refine W.seq (W.seq ?_);by_cases hz:l[h]!.txs.length=0
   ·refine BV 4 [.y 43 _,.y 44 _,.y 45 _,.y 42 _] [] [] [(0,_),(7,_),(8,_),(42,_)] [(7,.var _),(0,.var _),(301,m6 j1 C7 _),(302,m6 j1 w9 _),(303,m6 w7 w9 _)] 90 ⟨aU λ_ _ H K=>R.al (K 8 _ O) H dU,aU λ_ _ H K=>QA (n:=l[h]!.txs.length) (SC.al (K 43 _ O) (K 8 _ O)) (by rw[z6,z6]) H,aU λ_ _ H K=>HE (l[h]!.txs.length) (0) (eU K 44 O) (kI 0 O) H,aU λ_ _ H K=>J9 (eU K 45 O) O H,Zt⟩ O O O O (tU O ?_);refine G6 O (dT hz) ?_;refine W.skip ?_;refine G6 O (dT hz) ?_;refine u4 1 (y1 6) (V1 6) ⟨O3 6 O,Zt⟩ ?_;refine W.ret ?_;exact EndsB.one' (.inr O) O (by rw[KQ (w69 h1 (.inr hc18) hz) dU]<;>rfl) O Zt O O (by rw[KQ (w69 h1 (.inr hc18) hz) dU]<;>rfl) ⟨O,QR _ _,QL _ _,QI _ _,Zt⟩ O
   ·refine BV 4 [.y 43 _,.y 44 _,.y 45 _,.y 42 _] [] [] [(0,_),(7,_),(8,_),(42,_)] [(7,.var _),(0,.var _),(301,m6 j1 C7 _),(302,m6 j1 w9 _),(303,m6 w7 w9 _)] 90 ⟨aU λ_ _ H K=>R.al (K 8 _ O) H dU,aU λ_ _ H K=>QA (n:=l[h]!.txs.length) (SC.al (K 43 _ O) (K 8 _ O)) (by rw[z6,z6]) H,aU λ_ _ H K=>HE (l[h]!.txs.length) (0) (eU K 44 O) (kI 0 O) H,aU λ_ _ H K=>J9 (eU K 45 O) O H,Zt⟩ O O O O (tU O ?_);refine Y7 O (dF hz) ?_;refine BV 4 [.y 46 _,.y 47 _,.y 48 _,.y 42 _] [] [] [(0,_),(7,_),(8,_),(42,_)] [(7,.var _),(0,.var _),(301,m6 j1 C7 _),(302,m6 j1 w9 _),(303,m6 w7 w9 _)] 90 ⟨aU λ_ _ H K=>R.al (K 8 _ O) H dU,aU λ_ _ H K=>QA (n:=l[h]!.txs.length) (SC.al (K 46 _ O) (K 8 _ O)) (by rw[z6,z6]) H,aU λ_ _ H K=>k12 (l[h]!.txs.length) (256) (eU K 47 O) (kI 256 O) H,aU λ_ _ H K=>J9 (eU K 48 O) O H,Zt⟩ O O O O (tU O ?_);refine g7 O (λhc42=>?_) (λhc42=>?_)
    ·refine u4 1 (y1 6) (V1 6) ⟨O3 6 O,Zt⟩ ?_;refine W.ret ?_;exact EndsB.one' (.inr O) O (by rw[KQ (q07 (.inr hc18) hz hc42) dU]<;>rfl) O Zt O O (by rw[KQ (q07 (.inr hc18) hz hc42) dU]<;>rfl) ⟨O,QR _ _,QL _ _,QI _ _,Zt⟩ O
    ·refine W.seq ?_;refine R5 7 [0,1,3,0,8,31,63] hP dU (y7 50 51 52 53 54 55 49) (V4 0 7 8 49) ⟨xF O,xF O,xL O,zM O,λ_ _ H K=>Z7 hC (k33 (l[h]!.txs.map XR) (x83 _) (by rw[z6];omega)) (Bc (Bor.sc (SC.al (K 53 _ O) (K 8 _ O)) (J6 W3)) Bn) (F1 (X6 _)) H,λ_ _ H K=>ON (eU K 52 O) (eU K 54 O) H,zA O,Zt⟩ O (tW (V4 0 7 8 49) [(7,.var _),(0,.var _),(301,m6 j1 C7 _),(302,m6 j1 w9 _),(303,m6 w7 w9 _)] 90 O ?_);refine W.cond O (λhc49=>?_) (λhc49=>?_)
     ·refine u4 1 (y1 6) (V1 6) ⟨O3 15 O,Zt⟩ ?_;refine W.ret ?_;exact EndsB.one' (.inr O) O (by rw[KQ (q08 (.inr hc18) hz hc42 hc49) dU]<;>rfl) O Zt O O (by rw[KQ (q08 (.inr hc18) hz hc42 hc49) dU]<;>rfl) ⟨O,QR _ _,QL _ _,QI _ _,Zt⟩ O
     ·refine W.skip (W.seq (u4 4 (y4 56 57 58 59) (V5 0 8 57 58 59) ⟨xF O,xL O,P8 O,CP (kI 0 O) O,Zt⟩ ?_));refine W.block ?_;refine UK (l[h]!.txs.length) (λq__=>(∀ q<q__,ZZ b l[h]!.txs q=0)) (λi=>⟨90,[(0,.ptr 0 0 []),(8,.sl (some 23) 32 ((l[h]!.txs.map XR).map w7)),(57,.sl none 4 (l[h]!.txs.map r8)),(58,.int ((l[h]!.txs.length:Nat):Int)),(59,.int ((i:Nat):Int))],[(7,.var (J7 l[h]!)),(0,.var (.agg [.map 301,.map 302,.map 303])),(301,m6 j1 C7 (gB b l[h]!.txs i).outs),(302,m6 j1 w9 (gB b l[h]!.txs i).spent),(303,m6 w7 w9 (gB b l[h]!.txs i).ids)]⟩) ⟨v6 _,λq h=>absurd h (g9 _)⟩ O λi hinv=>?_;obtain⟨hi,hno⟩:=hinv;have hi:i<=l[h]!.txs.length:=hi;have hno:(∀ q<i,ZZ b l[h]!.txs q=0):=hno;refine u4 1 (y1 60) (V6 0 8 57 58 59 60) ⟨zS O,Zt⟩ ?_;refine W.seq ?_;refine g7 O (λhc60=>?_) (λhc60=>?_)
      ·refine W.skip (W.seq (W.block (n5 6 (y3 61 62 63) (V7 0 8 57 58 59 61 63) ⟨zV O,zI i O,zL O (b8 (l:=l[h]!.txs) bU),Zt⟩ O (I9 O (GK O (M9 O (tW (V7 0 8 9 10 57 58 59) [(10,.var _),(7,.var _),(0,.var _),(301,m6 j1 C7 _),(302,m6 j1 w9 _),(303,m6 w7 w9 _)] 90 O ?_)))))));refine W.seq (W.block (W.seq (W.seq ?_)));by_cases hm:JU l[h]!.txs[i]! = true
       ·refine n4 4 (y4 65 66 67 64) (V8 0 8 9 10 57 58 59 64) ⟨xL O,zC hC (WO l[h]!.txs[i]! (hbw.get bO)) O (F1 (.bool _)),BH O,zA O,Zt⟩ ?_;refine Y7 O (by rw[hm];rfl) ?_;refine n4 6 (y6 68 69 70 71 72 64) (V8 0 8 9 10 57 58 59 64) ⟨xL O,zC hC (EJ l[h]!.txs[i]! (hbw.get bO)) O (F1 (.bool _)),zV O,GZ 0 O,λ_ _ H K=>R.neB (eU K 69 O) (eU K 71 O) H,zA O,Zt⟩ ?_;refine W.cond O (λhc64=>?_) (λhc64=>?_)
        ·refine W.seq ?_;refine E9 [] [(10,.var _),(7,.var _),(0,.var _),(301,m6 j1 C7 _),(302,m6 j1 w9 _),(303,m6 w7 w9 _)] 90 O ?_;refine Y2 [0,7,301,302,303] (bx':=[(7,.var _),(0,.var _),(301,m6 j1 C7 _),(302,m6 j1 w9 _),(303,m6 w7 w9 _)]) O O ⟨O,⟨O,⟨Z6 (λ_=>rfl) (λ_=>rfl),⟨Z6 (λ_=>rfl) (λ_=>rfl),⟨Z6 (λ_=>rfl) (λ_=>rfl),Zt⟩⟩⟩⟩⟩ (o8 hD O) ?_;refine n4 1 (y1 6) (V1 6) ⟨O3 1 O,Zt⟩ ?_;refine W.ret ?_;exact EndsB.one' (.inr O) O (by rw[KZ (ZN (.inr hc18) hz hc42 hc49) hc60 hno (q12 hc64) dU]<;>rfl) O Zt O O (by rw[KZ (ZN (.inr hc18) hz hc42 hc49) hc60 hno (q12 hc64) dU]<;>rfl) ⟨O,QR _ _,QL _ _,QI _ _,Zt⟩ O
        ·refine W.seq ?_;refine R5 6 [0,0,0,6,14,0,63,127,255] hP dU (y6 74 75 76 77 78 79) (z51 0 8 9 10 57 58 59 74 78 79) ⟨zV O,zM O,zV O,YD i O,XA O (WM bO),xL O,Zt⟩ O (⟨O,_,R.callB [(0,0),(301,301),(302,302),(303,303)] hC (k25 (gB b l[h]!.txs i) (XR l[h]!.txs[i]!) l[h]!.txs[i]! (hbw.get bO)) (EvB.cons (gV 74 O) O O O (EvB.cons (gV 78 O) O O O (EvB.cons (gV 79 O) O O O EvB.nil))) (JY _ _ _ _ _ _ _ _) ⟨O,⟨O,⟨O,⟨O,Zt⟩⟩⟩⟩ ⟨O,QR _ _,QL _ _,QI _ _,Zt⟩ (JY _ _ _ _ _ _ _ _) O O O O O nU,⟨O,_,R.un (gV 80 O) O nU,(GK O (tW (V8 0 8 9 10 57 58 59 73) [(10,.var _),(7,.var _),(0,.var _),(301,m6 j1 C7 _),(302,m6 j1 w9 _),(303,m6 w7 w9 _)] 90 O ?_))⟩⟩);refine W.cond O (λhc73=>?_) (λhc73=>?_)
         ·refine W.seq ?_;refine E9 [] [(10,.var _),(7,.var _),(0,.var _),(301,m6 j1 C7 _),(302,m6 j1 w9 _),(303,m6 w7 w9 _)] 90 O ?_;refine Y2 [0,7,301,302,303] (bx':=[(7,.var _),(0,.var _),(301,m6 j1 C7 _),(302,m6 j1 w9 _),(303,m6 w7 w9 _)]) O O ⟨O,⟨O,⟨Z6 (λ_=>rfl) (λ_=>rfl),⟨Z6 (λ_=>rfl) (λ_=>rfl),⟨Z6 (λ_=>rfl) (λ_=>rfl),Zt⟩⟩⟩⟩⟩ (o8 hD O) ?_;refine n4 1 (y1 6) (V1 6) ⟨O3 14 O,Zt⟩ ?_;refine W.ret ?_;exact EndsB.one' (.inr O) O (by rw[KZ (ZN (.inr hc18) hz hc42 hc49) hc60 hno (q10 hm hc64 hc73) dU]<;>rfl) O Zt O O (by rw[KZ (ZN (.inr hc18) hz hc42 hc49) hc60 hno (q10 hm hc64 hc73) dU]<;>rfl) ⟨O,QR _ _,QL _ _,QI _ _,Zt⟩ O
         ·refine W.skip ?_;refine R5 6 [0,0,0,6,14,0,63] hP dU (y6 82 83 84 85 86 87) (V8 0 8 57 58 59 82 86 87) ⟨zV O,zM O,zV O,YD i O,XA O (WM bO),xL O,Zt⟩ O (⟨O,_,R.callB [(0,0),(301,301),(302,302),(303,303)] hC (ME (gB b l[h]!.txs i) (XR l[h]!.txs[i]!) l[h]!.txs[i]! (hbw.get bO)) (EvB.cons (gV 82 O) O O O (EvB.cons (gV 86 O) O O O (EvB.cons (gV 87 O) O O O EvB.nil))) (JY _ _ _ _ _ _ _ _) ⟨O,⟨O,⟨O,⟨O,Zt⟩⟩⟩⟩ ⟨O,QR _ _,QL _ _,QI _ _,Zt⟩ (JY _ _ _ _ _ _ _ _) O O O O O nU,tW (V5 0 8 57 58 59) [(10,.var _),(7,.var _),(0,.var _),(301,m6 j1 C7 _),(302,m6 j1 w9 _),(303,m6 w7 w9 _)] 90 O ?_⟩);refine Y2 [0,7,301,302,303] (bx':=[(7,.var _),(0,.var _),(301,m6 j1 C7 _),(302,m6 j1 w9 _),(303,m6 w7 w9 _)]) O O ⟨O,⟨O,⟨Z6 (λ_=>rfl) (λ_=>rfl),⟨Z6 (λ_=>rfl) (λ_=>rfl),⟨Z6 (λ_=>rfl) (λ_=>rfl),Zt⟩⟩⟩⟩⟩ (o8 hD O) ?_;refine n4 2 (y2 89 59) (V5 0 8 57 58 59) ⟨P1 1 O,zV O,Zt⟩ ?_;exact⟨⟨(by show i+1<=l[h]!.txs.length;omega),λq hq=>(u7.1 hq).elim (hno q) (λe=>e▸w71 hm hc64 hc73)⟩,rfl⟩
       ·refine n4 4 (y4 65 66 67 64) (V8 0 8 9 10 57 58 59 64) ⟨xL O,zC hC (WO l[h]!.txs[i]! (hbw.get bO)) O (F1 (.bool _)),BH O,zA O,Zt⟩ ?_;refine G6 O (by rw[bfalse hm];rfl) ?_;refine W.skip ?_;refine G6 O (by rw[bfalse hm];rfl) ?_;refine W.seq ?_;refine E9 [] [(10,.var _),(7,.var _),(0,.var _),(301,m6 j1 C7 _),(302,m6 j1 w9 _),(303,m6 w7 w9 _)] 90 O ?_;refine Y2 [0,7,301,302,303] (bx':=[(7,.var _),(0,.var _),(301,m6 j1 C7 _),(302,m6 j1 w9 _),(303,m6 w7 w9 _)]) O O ⟨O,⟨O,⟨Z6 (λ_=>rfl) (λ_=>rfl),⟨Z6 (λ_=>rfl) (λ_=>rfl),⟨Z6 (λ_=>rfl) (λ_=>rfl),Zt⟩⟩⟩⟩⟩ (o8 hD O) ?_;refine n4 1 (y1 6) (V1 6) ⟨O3 1 O,Zt⟩ ?_;refine W.ret ?_;exact EndsB.one' (.inr O) O (by rw[KZ (ZN (.inr hc18) hz hc42 hc49) hc60 hno (q11 hm) dU]<;>rfl) O Zt O O (by rw[KZ (ZN (.inr hc18) hz hc42 hc49) hc60 hno (q11 hm) dU]<;>rfl) ⟨O,QR _ _,QL _ _,QI _ _,Zt⟩ O
      ·obtain rfl:i=l[h]!.txs.length:=by omega
       refine E9 [] [(7,.var _),(0,.var _),(301,m6 j1 C7 _),(302,m6 j1 w9 _),(303,m6 w7 w9 _)] 90 O ?_;refine W.exit (u4 1 (y1 6) (V1 6) ⟨O3 0 O,Zt⟩ ?_);refine W.ret ?_;exact EndsB.one' (.inr O) O (by rw[MG (ZN (.inr hc18) hz hc42 hc49) hno]<;>rfl) O Zt O O (by rw[MG (ZN (.inr hc18) hz hc42 hc49) hno]<;>rfl) ⟨O,QR _ _,QL _ _,QI _ _,Zt⟩ O
 ·refine KF 16 [0,1,3,7,15,31,7,7,135,455,967,1991,4039,8191,16383,32767] hP dU [.y 19 _,.y 20 _,.y 21 _,.x 22,.x 23,.x 24,.x 25,.x 26,.x 27,.x 28,.x 29,.x 30,.x 31,.x 32,.y 33 _,.y 18 _] [] [] (V5 0 2 7 8 18) ⟨xM O,aU<|OE 0 O,xM O,O5 O (dF h1),O5 O (dF h1),O5 O (dF h1),O5 O (dF h1),O5 O (dF h1),O5 O (dF h1),O5 O (dF h1),O5 O (dF h1),O5 O (dF h1),O5 O (dF h1),O5 O (dF h1),aU<|FQ O (dF h1) (kB false O),aU<|zA O,Zt⟩ O (tW (V5 0 2 7 8 18) [(7,.var _),(0,.var _),(301,m6 j1 C7 _),(302,m6 j1 w9 _),(303,m6 w7 w9 _)] 90 O ?_);refine Y7 O (O) ?_;refine W.seq ?_;refine BV 8 [.y 35 _,.y 36 _,.y 37 _,.y 38 _,.y 39 _,.y 40 _,.y 41 _,.y 34 _] [] [] [(0,_),(7,_),(8,_),(34,_)] [(7,.var _),(0,.var _),(301,m6 j1 C7 _),(302,m6 j1 w9 _),(303,m6 w7 w9 _)] 90 ⟨xM O,aU λ_ _ H K=>HE (h) (0) (eU K 35 O) (kI 0 O) H,xM O,aT O (dT (by omega)) λ_ _ H K=>R.al (K 8 _ O) H dU,aT O (dT (by omega)) λ_ _ H K=>QA (n:=l[h]!.txs.length) (SC.al (K 38 _ O) (K 8 _ O)) (by rw[z6,z6]) H,aT O (dT (by omega)) λ_ _ H K=>HE (l[h]!.txs.length) (0) (eU K 39 O) (kI 0 O) H,aU λ_ _ H K=>BQ (eU K 37 O) (dT (by omega)) (eU K 40 O) O H,aU λ_ _ H K=>J9 (eU K 41 O) O H,Zt⟩ O O O O (tU O ?_);refine g7 O (λhc34=>?_) (λhc34=>?_)
  ·refine u4 1 (y1 6) (V1 6) ⟨O3 0 O,Zt⟩ ?_;refine W.ret ?_;exact EndsB.one' (.inr O) O (by rw[k62 h1 hc34]<;>rfl) O Zt O O (by rw[k62 h1 hc34]<;>rfl) ⟨O,QR _ _,QL _ _,QI _ _,Zt⟩ O
  ·refine W.seq (W.seq ?_);by_cases hz:l[h]!.txs.length=0
   ·refine BV 4 [.y 43 _,.y 44 _,.y 45 _,.y 42 _] [] [] [(0,_),(7,_),(8,_),(42,_)] [(7,.var _),(0,.var _),(301,m6 j1 C7 _),(302,m6 j1 w9 _),(303,m6 w7 w9 _)] 90 ⟨aU λ_ _ H K=>R.al (K 8 _ O) H dU,aU λ_ _ H K=>QA (n:=l[h]!.txs.length) (SC.al (K 43 _ O) (K 8 _ O)) (by rw[z6,z6]) H,aU λ_ _ H K=>HE (l[h]!.txs.length) (0) (eU K 44 O) (kI 0 O) H,aU λ_ _ H K=>J9 (eU K 45 O) O H,Zt⟩ O O O O (tU O ?_);refine G6 O (dT hz) ?_;refine W.skip ?_;refine G6 O (dT hz) ?_;refine u4 1 (y1 6) (V1 6) ⟨O3 6 O,Zt⟩ ?_;refine W.ret ?_;exact EndsB.one' (.inr O) O (absurd hz hc34) O Zt O O (absurd hz hc34) ⟨O,QR _ _,QL _ _,QI _ _,Zt⟩ O
   ·refine BV 4 [.y 43 _,.y 44 _,.y 45 _,.y 42 _] [] [] [(0,_),(7,_),(8,_),(42,_)] [(7,.var _),(0,.var _),(301,m6 j1 C7 _),(302,m6 j1 w9 _),(303,m6 w7 w9 _)] 90 ⟨aU λ_ _ H K=>R.al (K 8 _ O) H dU,aU λ_ _ H K=>QA (n:=l[h]!.txs.length) (SC.al (K 43 _ O) (K 8 _ O)) (by rw[z6,z6]) H,aU λ_ _ H K=>HE (l[h]!.txs.length) (0) (eU K 44 O) (kI 0 O) H,aU λ_ _ H K=>J9 (eU K 45 O) O H,Zt⟩ O O O O (tU O ?_);refine Y7 O (dF hz) ?_;refine BV 4 [.y 46 _,.y 47 _,.y 48 _,.y 42 _] [] [] [(0,_),(7,_),(8,_),(42,_)] [(7,.var _),(0,.var _),(301,m6 j1 C7 _),(302,m6 j1 w9 _),(303,m6 w7 w9 _)] 90 ⟨aU λ_ _ H K=>R.al (K 8 _ O) H dU,aU λ_ _ H K=>QA (n:=l[h]!.txs.length) (SC.al (K 46 _ O) (K 8 _ O)) (by rw[z6,z6]) H,aU λ_ _ H K=>k12 (l[h]!.txs.length) (256) (eU K 47 O) (kI 256 O) H,aU λ_ _ H K=>J9 (eU K 48 O) O H,Zt⟩ O O O O (tU O ?_);refine g7 O (λhc42=>?_) (λhc42=>?_)
    ·refine u4 1 (y1 6) (V1 6) ⟨O3 6 O,Zt⟩ ?_;refine W.ret ?_;exact EndsB.one' (.inr O) O (by rw[KQ (q07 (.inl h1) hz hc42) dU]<;>rfl) O Zt O O (by rw[KQ (q07 (.inl h1) hz hc42) dU]<;>rfl) ⟨O,QR _ _,QL _ _,QI _ _,Zt⟩ O
    ·refine W.seq ?_;refine R5 7 [0,1,3,0,8,31,63] hP dU (y7 50 51 52 53 54 55 49) (V4 0 7 8 49) ⟨xF O,xF O,xL O,zM O,λ_ _ H K=>Z7 hC (k33 (l[h]!.txs.map XR) (x83 _) (by rw[z6];omega)) (Bc (Bor.sc (SC.al (K 53 _ O) (K 8 _ O)) (J6 W3)) Bn) (F1 (X6 _)) H,λ_ _ H K=>ON (eU K 52 O) (eU K 54 O) H,zA O,Zt⟩ O (tW (V4 0 7 8 49) [(7,.var _),(0,.var _),(301,m6 j1 C7 _),(302,m6 j1 w9 _),(303,m6 w7 w9 _)] 90 O ?_);refine W.cond O (λhc49=>?_) (λhc49=>?_)
     ·refine u4 1 (y1 6) (V1 6) ⟨O3 15 O,Zt⟩ ?_;refine W.ret ?_;exact EndsB.one' (.inr O) O (by rw[KQ (q08 (.inl h1) hz hc42 hc49) dU]<;>rfl) O Zt O O (by rw[KQ (q08 (.inl h1) hz hc42 hc49) dU]<;>rfl) ⟨O,QR _ _,QL _ _,QI _ _,Zt⟩ O
     ·refine W.skip (W.seq (u4 4 (y4 56 57 58 59) (V5 0 8 57 58 59) ⟨xF O,xL O,P8 O,CP (kI 0 O) O,Zt⟩ ?_));refine W.block ?_;refine UK (l[h]!.txs.length) (λq__=>(∀ q<q__,ZZ b l[h]!.txs q=0)) (λi=>⟨90,[(0,.ptr 0 0 []),(8,.sl (some 23) 32 ((l[h]!.txs.map XR).map w7)),(57,.sl none 4 (l[h]!.txs.map r8)),(58,.int ((l[h]!.txs.length:Nat):Int)),(59,.int ((i:Nat):Int))],[(7,.var (J7 l[h]!)),(0,.var (.agg [.map 301,.map 302,.map 303])),(301,m6 j1 C7 (gB b l[h]!.txs i).outs),(302,m6 j1 w9 (gB b l[h]!.txs i).spent),(303,m6 w7 w9 (gB b l[h]!.txs i).ids)]⟩) ⟨v6 _,λq h=>absurd h (g9 _)⟩ O λi hinv=>?_;obtain⟨hi,hno⟩:=hinv;have hi:i<=l[h]!.txs.length:=hi;have hno:(∀ q<i,ZZ b l[h]!.txs q=0):=hno;refine u4 1 (y1 60) (V6 0 8 57 58 59 60) ⟨zS O,Zt⟩ ?_;refine W.seq ?_;refine g7 O (λhc60=>?_) (λhc60=>?_)
      ·refine W.skip (W.seq (W.block (n5 6 (y3 61 62 63) (V7 0 8 57 58 59 61 63) ⟨zV O,zI i O,zL O (b8 (l:=l[h]!.txs) bU),Zt⟩ O (I9 O (GK O (M9 O (tW (V7 0 8 9 10 57 58 59) [(10,.var _),(7,.var _),(0,.var _),(301,m6 j1 C7 _),(302,m6 j1 w9 _),(303,m6 w7 w9 _)] 90 O ?_)))))));refine W.seq (W.block (W.seq (W.seq ?_)));by_cases hm:JU l[h]!.txs[i]! = true
       ·refine n4 4 (y4 65 66 67 64) (V8 0 8 9 10 57 58 59 64) ⟨xL O,zC hC (WO l[h]!.txs[i]! (hbw.get bO)) O (F1 (.bool _)),BH O,zA O,Zt⟩ ?_;refine Y7 O (by rw[hm];rfl) ?_;refine n4 6 (y6 68 69 70 71 72 64) (V8 0 8 9 10 57 58 59 64) ⟨xL O,zC hC (EJ l[h]!.txs[i]! (hbw.get bO)) O (F1 (.bool _)),zV O,GZ 0 O,λ_ _ H K=>R.neB (eU K 69 O) (eU K 71 O) H,zA O,Zt⟩ ?_;refine W.cond O (λhc64=>?_) (λhc64=>?_)
        ·refine W.seq ?_;refine E9 [] [(10,.var _),(7,.var _),(0,.var _),(301,m6 j1 C7 _),(302,m6 j1 w9 _),(303,m6 w7 w9 _)] 90 O ?_;refine Y2 [0,7,301,302,303] (bx':=[(7,.var _),(0,.var _),(301,m6 j1 C7 _),(302,m6 j1 w9 _),(303,m6 w7 w9 _)]) O O ⟨O,⟨O,⟨Z6 (λ_=>rfl) (λ_=>rfl),⟨Z6 (λ_=>rfl) (λ_=>rfl),⟨Z6 (λ_=>rfl) (λ_=>rfl),Zt⟩⟩⟩⟩⟩ (o8 hD O) ?_;refine n4 1 (y1 6) (V1 6) ⟨O3 1 O,Zt⟩ ?_;refine W.ret ?_;exact EndsB.one' (.inr O) O (by rw[KZ (ZN (.inl h1) hz hc42 hc49) hc60 hno (q12 hc64) dU]<;>rfl) O Zt O O (by rw[KZ (ZN (.inl h1) hz hc42 hc49) hc60 hno (q12 hc64) dU]<;>rfl) ⟨O,QR _ _,QL _ _,QI _ _,Zt⟩ O
        ·refine W.seq ?_;refine R5 6 [0,0,0,6,14,0,63,127,255] hP dU (y6 74 75 76 77 78 79) (z51 0 8 9 10 57 58 59 74 78 79) ⟨zV O,zM O,zV O,YD i O,XA O (WM bO),xL O,Zt⟩ O (⟨O,_,R.callB [(0,0),(301,301),(302,302),(303,303)] hC (k25 (gB b l[h]!.txs i) (XR l[h]!.txs[i]!) l[h]!.txs[i]! (hbw.get bO)) (EvB.cons (gV 74 O) O O O (EvB.cons (gV 78 O) O O O (EvB.cons (gV 79 O) O O O EvB.nil))) (JY _ _ _ _ _ _ _ _) ⟨O,⟨O,⟨O,⟨O,Zt⟩⟩⟩⟩ ⟨O,QR _ _,QL _ _,QI _ _,Zt⟩ (JY _ _ _ _ _ _ _ _) O O O O O nU,⟨O,_,R.un (gV 80 O) O nU,(GK O (tW (V8 0 8 9 10 57 58 59 73) [(10,.var _),(7,.var _),(0,.var _),(301,m6 j1 C7 _),(302,m6 j1 w9 _),(303,m6 w7 w9 _)] 90 O ?_))⟩⟩);refine W.cond O (λhc73=>?_) (λhc73=>?_)
         ·refine W.seq ?_;refine E9 [] [(10,.var _),(7,.var _),(0,.var _),(301,m6 j1 C7 _),(302,m6 j1 w9 _),(303,m6 w7 w9 _)] 90 O ?_;refine Y2 [0,7,301,302,303] (bx':=[(7,.var _),(0,.var _),(301,m6 j1 C7 _),(302,m6 j1 w9 _),(303,m6 w7 w9 _)]) O O ⟨O,⟨O,⟨Z6 (λ_=>rfl) (λ_=>rfl),⟨Z6 (λ_=>rfl) (λ_=>rfl),⟨Z6 (λ_=>rfl) (λ_=>rfl),Zt⟩⟩⟩⟩⟩ (o8 hD O) ?_;refine n4 1 (y1 6) (V1 6) ⟨O3 14 O,Zt⟩ ?_;refine W.ret ?_;exact EndsB.one' (.inr O) O (by rw[KZ (ZN (.inl h1) hz hc42 hc49) hc60 hno (q10 hm hc64 hc73) dU]<;>rfl) O Zt O O (by rw[KZ (ZN (.inl h1) hz hc42 hc49) hc60 hno (q10 hm hc64 hc73) dU]<;>rfl) ⟨O,QR _ _,QL _ _,QI _ _,Zt⟩ O
         ·refine W.skip ?_;refine R5 6 [0,0,0,6,14,0,63] hP dU (y6 82 83 84 85 86 87) (V8 0 8 57 58 59 82 86 87) ⟨zV O,zM O,zV O,YD i O,XA O (WM bO),xL O,Zt⟩ O (⟨O,_,R.callB [(0,0),(301,301),(302,302),(303,303)] hC (ME (gB b l[h]!.txs i) (XR l[h]!.txs[i]!) l[h]!.txs[i]! (hbw.get bO)) (EvB.cons (gV 82 O) O O O (EvB.cons (gV 86 O) O O O (EvB.cons (gV 87 O) O O O EvB.nil))) (JY _ _ _ _ _ _ _ _) ⟨O,⟨O,⟨O,⟨O,Zt⟩⟩⟩⟩ ⟨O,QR _ _,QL _ _,QI _ _,Zt⟩ (JY _ _ _ _ _ _ _ _) O O O O O nU,tW (V5 0 8 57 58 59) [(10,.var _),(7,.var _),(0,.var _),(301,m6 j1 C7 _),(302,m6 j1 w9 _),(303,m6 w7 w9 _)] 90 O ?_⟩);refine Y2 [0,7,301,302,303] (bx':=[(7,.var _),(0,.var _),(301,m6 j1 C7 _),(302,m6 j1 w9 _),(303,m6 w7 w9 _)]) O O ⟨O,⟨O,⟨Z6 (λ_=>rfl) (λ_=>rfl),⟨Z6 (λ_=>rfl) (λ_=>rfl),⟨Z6 (λ_=>rfl) (λ_=>rfl),Zt⟩⟩⟩⟩⟩ (o8 hD O) ?_;refine n4 2 (y2 89 59) (V5 0 8 57 58 59) ⟨P1 1 O,zV O,Zt⟩ ?_;exact⟨⟨(by show i+1<=l[h]!.txs.length;omega),λq hq=>(u7.1 hq).elim (hno q) (λe=>e▸w71 hm hc64 hc73)⟩,rfl⟩
       ·refine n4 4 (y4 65 66 67 64) (V8 0 8 9 10 57 58 59 64) ⟨xL O,zC hC (WO l[h]!.txs[i]! (hbw.get bO)) O (F1 (.bool _)),BH O,zA O,Zt⟩ ?_;refine G6 O (by rw[bfalse hm];rfl) ?_;refine W.skip ?_;refine G6 O (by rw[bfalse hm];rfl) ?_;refine W.seq ?_;refine E9 [] [(10,.var _),(7,.var _),(0,.var _),(301,m6 j1 C7 _),(302,m6 j1 w9 _),(303,m6 w7 w9 _)] 90 O ?_;refine Y2 [0,7,301,302,303] (bx':=[(7,.var _),(0,.var _),(301,m6 j1 C7 _),(302,m6 j1 w9 _),(303,m6 w7 w9 _)]) O O ⟨O,⟨O,⟨Z6 (λ_=>rfl) (λ_=>rfl),⟨Z6 (λ_=>rfl) (λ_=>rfl),⟨Z6 (λ_=>rfl) (λ_=>rfl),Zt⟩⟩⟩⟩⟩ (o8 hD O) ?_;refine n4 1 (y1 6) (V1 6) ⟨O3 1 O,Zt⟩ ?_;refine W.ret ?_;exact EndsB.one' (.inr O) O (by rw[KZ (ZN (.inl h1) hz hc42 hc49) hc60 hno (q11 hm) dU]<;>rfl) O Zt O O (by rw[KZ (ZN (.inl h1) hz hc42 hc49) hc60 hno (q11 hm) dU]<;>rfl) ⟨O,QR _ _,QL _ _,QI _ _,Zt⟩ O
      ·obtain rfl:i=l[h]!.txs.length:=by omega
       refine E9 [] [(7,.var _),(0,.var _),(301,m6 j1 C7 _),(302,m6 j1 w9 _),(303,m6 w7 w9 _)] 90 O ?_;refine W.exit (u4 1 (y1 6) (V1 6) ⟨O3 0 O,Zt⟩ ?_);refine W.ret ?_;exact EndsB.one' (.inr O) O (by rw[MG (ZN (.inl h1) hz hc42 hc49) hno]<;>rfl) O Zt O O (by rw[MG (ZN (.inl h1) hz hc42 hc49) hno]<;>rfl) ⟨O,QR _ _,QL _ _,QI _ _,Zt⟩ O
end
section
open Go.Proofs
theorem NE(l:List BlkS)(hl:allBl l):Fn Tryz.prog gl 16 [.sl none 69 (l.map J7)] (.tup [.int (s3 l).1,.int (s3 l).2]):=by
 refine Fo 22 Tryz.func16 O λC hC hD=>?_;have hl0:=hl.1;refine u4 2 (y2 2 3) (V1 0) ⟨O3 0 O,O3 0 O,Zt⟩ ?_;refine n5 2 [] (V1 0) Zt O (⟨O,_,R.callB [(5,300),(1,301),(2,302),(3,303)] hC (WY) EvB.nil O Zt Zt O (x45 _ _ _ _ _ _ _ _) O O O O nU,(GK O (tW (V2 0 4) [(300,.var _),(303,m6 w7 w9 _),(302,m6 j1 w9 _),(301,m6 j1 C7 _)] 22 O ?_))⟩);refine W.seq (u4 3 (y3 8 9 10) (V4 0 4 9 10) ⟨zV O,P8 O,CP (kI 0 O) O,Zt⟩ ?_);refine W.block ?_;refine UK l.length (λq__=>(∀ q<q__,gE l q=0)) (λh=>⟨22,[(0,.sl none 69 (l.map J7)),(4,.ptr 300 0 []),(9,.int ((l.length:Nat):Int)),(10,.int ((h:Nat):Int))],[(300,.var (.agg [.map 301,.map 302,.map 303])),(303,m6 w7 w9 (gH l h).ids),(302,m6 j1 w9 (gH l h).spent),(301,m6 j1 C7 (gH l h).outs)]⟩) ⟨v6 _,λq h=>absurd h (g9 _)⟩ O λh hinv=>?_;obtain⟨hh,hno⟩:=hinv;have hh:h<=l.length:=hh;have hno:(∀ q<h,gE l q=0):=hno;refine u4 1 (y1 11) (V5 0 4 9 10 11) ⟨zS O,Zt⟩ ?_;refine W.seq ?_;refine g7 O (λhc11=>?_) (λhc11=>?_)
 ·refine W.skip (W.seq (W.block (u4 2 (y2 12 5) (V5 0 4 5 9 10) ⟨zV O,zA O,Zt⟩ ?_)));refine n5 5 (y3 13 14 15) (V8 0 4 5 9 10 13 14 15) ⟨zV O,zV O,zV O,Zt⟩ O (⟨O,_,R.callB [(0,300),(301,301),(302,302),(303,303)] hC (u06 (gH l h) l hl h bO) (EvB.cons (gV 13 O) O O O (EvB.cons (gV 14 O) O O O (EvB.cons (gV 15 O) O O O EvB.nil))) (JY _ _ _ _ _ _ _ _) ⟨O,⟨O,⟨O,⟨O,Zt⟩⟩⟩⟩ ⟨O,QR _ _,QL _ _,QI _ _,Zt⟩ (JY _ _ _ _ _ _ _ _) O O O O O nU,(GK O (tW (V6 0 4 5 6 9 10) [(300,.var _),(303,m6 w7 w9 _),(302,m6 j1 w9 _),(301,m6 j1 C7 _)] 22 O ?_))⟩);refine u4 2 (y2 17 18) (V7 0 4 5 6 9 10 18) ⟨zV O,ZP O (kI 0 O),Zt⟩ ?_;refine W.cond O (λhc18=>?_) (λhc18=>?_)
  ·refine u4 4 (y4 19 20 2 3) (V2 2 3) ⟨zV O,zV O,zA O,zA O,Zt⟩ ?_;exact W.ret (Ends.many (.inr O) (.cons O O O Zt (.cons O O O Zt .nil)) (by rw[j45 hc11 hno (h05 hc18)]<;>rfl) (show[(2,true),(3,true)].Nodup by decide))
  ·refine W.skip ?_;refine n4 2 (y2 21 10) (V4 0 4 9 10) ⟨P1 1 O,zV O,Zt⟩ ?_;exact⟨⟨(by show h+1<=l.length;omega),λq hq=>(u7.1 hq).elim (hno q) (λe=>e▸h06 hc18)⟩,rfl⟩
 ·obtain rfl:h=l.length:=by omega
  refine W.exit (u4 2 (y2 2 3) (V2 2 3) ⟨O3 0 O,O3 0 O,Zt⟩ ?_);exact W.ret (Ends.many (.inr O) (.cons O O O Zt (.cons O O O Zt .nil)) (by rw[j44 hno]<;>rfl) (show[(2,true),(3,true)].Nodup by decide))
end
section
open Go.Proofs
set_option maxHeartbeats 1000000 in
theorem WE(l:List BlkS)(hl:allBl l)(sc:Hs):Fn Tryz.prog gl 23 [.sl none 69 (l.map J7),w7 sc] (.sl (some 121) 35 ((YR l sc).map KK)):=by
 refine Fo 91 Tryz.func23 O λC hC hD=>?_;have hl0:=hl.1;refine n5 2 [] (V2 0 1) Zt O (⟨O,_,R.box (gV 1 O) O O nU,⟨O,_,J9 (kN O) O nU,tW (V2 0 3) (B2 3) 91 O ?_⟩⟩);refine u4 2 (y2 5 6) (V4 0 3 5 6) ⟨i6 O,i6 O,Zt⟩ ?_;refine n5 2 [] (V4 0 3 5 6) Zt O (⟨O,_,R.callB [(5,300),(1,301),(2,302),(3,303)] hC (WY) EvB.nil O Zt Zt O (x45 _ _ _ _ _ _ _ _) O O O O nU,(GK O (tW (V5 0 3 5 6 7) [(300,.var _),(303,m6 w7 w9 _),(302,m6 j1 w9 _),(301,m6 j1 C7 _),(3,.var _)] 91 O ?_))⟩);refine W.seq (u4 3 (y3 20 21 22) (V7 3 5 6 7 20 21 22) ⟨zV O,P8 O,CP (kI 0 O) O,Zt⟩ ?_);refine W.block ?_;refine O6 (s:=5) 121 35 O ?_;refine P2 l.length (λh=>⟨91,[(3,.ptr 3 0 []),(5,.sl (some 121) 35 ((US l sc h).map KK)),(6,.nils),(7,.ptr 300 0 []),(20,.sl none 69 (l.map J7)),(21,.int ((l.length:Nat):Int)),(22,.int ((h:Nat):Int))],[(300,.var (.agg [.map 301,.map 302,.map 303])),(303,m6 w7 w9 (gAll l h).ids),(302,m6 j1 w9 (gAll l h).spent),(301,m6 j1 C7 (gAll l h).outs),(3,.var (w7 sc))]⟩) O λh hh=>?_;have hbw:=λ(q:h<l.length)=>hl.get q;have hul:=z09 hl sc h hh;refine u4 1 (y1 23) (V8 3 5 6 7 20 21 22 23) ⟨zS O,Zt⟩ ?_;refine W.seq ?_;refine g7 O (λhc23=>?_) (λhc23=>?_)
 ·refine W.skip (W.seq (W.block (n5 6 (y3 24 25 26) (V9 3 5 6 7 20 21 22 24 26) ⟨zV O,zI h O,zL O (mG l),Zt⟩ O (I9 O (GK O (M9 O (tW (V9 3 5 6 7 8 9 20 21 22) [(9,.var _),(300,.var _),(303,m6 w7 w9 _),(302,m6 j1 w9 _),(301,m6 j1 C7 _),(3,.var _)] 91 O ?_)))))));refine u4 4 (y4 27 28 29 30) (j72 3 5 6 7 8 20 21 22 28 29 30) ⟨xF O,xL O,P8 O,CP (kI 0 O) O,Zt⟩ ?_;refine W.block ?_;refine P2 (l[h]!.txs.length) (λi=>⟨91,[(3,.ptr 3 0 []),(5,.sl (some 121) 35 (((US l sc h)++OZ h l[h]!.txs sc i).map KK)),(6,.nils),(7,.ptr 300 0 []),(8,.int ((h:Nat):Int)),(20,.sl none 69 (l.map J7)),(21,.int ((l.length:Nat):Int)),(22,.int ((h:Nat):Int)),(28,.sl none 4 (l[h]!.txs.map r8)),(29,.int ((l[h]!.txs.length:Nat):Int)),(30,.int ((i:Nat):Int))],[(9,.var (J7 l[h]!)),(300,.var (.agg [.map 301,.map 302,.map 303])),(303,m6 w7 w9 (gB (gAll l h) l[h]!.txs i).ids),(302,m6 j1 w9 (gB (gAll l h) l[h]!.txs i).spent),(301,m6 j1 C7 (gB (gAll l h) l[h]!.txs i).outs),(3,.var (w7 sc))]⟩) (by rw[OZ,m4]<;>rfl) λi hi=>?_;have hbl:=(hbw hc23).len;have hujl:=z08 (hbw hc23) h sc i hi;have hsm:=λ(q:i<l[h]!.txs.length)=>(hbw hc23).small q;refine u4 1 (y1 31) (v94 3 5 6 7 8 20 21 22 28 29 30 31) ⟨zS O,Zt⟩ ?_;refine W.seq ?_;refine g7 O (λhc31=>?_) (λhc31=>?_)
  ·refine W.skip (W.seq (W.block (n5 4 (y2 32 33) (v94 3 5 6 7 8 20 21 22 28 29 30 33) ⟨zI i O,zL O (b8 (l:=l[h]!.txs) bU),Zt⟩ O (I9 O (M9 O (tW (v94 3 5 6 7 8 11 20 21 22 28 29 30) [(11,.var _),(9,.var _),(300,.var _),(303,m6 w7 w9 _),(302,m6 j1 w9 _),(301,m6 j1 C7 _),(3,.var _)] 91 O ?_))))));refine n5 4 (y2 34 35) (u27 3 5 6 7 8 11 20 21 22 28 29 30 35) ⟨xL O,zC hC (w27 l[h]!.txs[i]! ((hbw hc23).get bO)) O (F1 (X6 _)),Zt⟩ O (I9 O (M9 O (tW (u27 3 5 6 7 8 11 12 20 21 22 28 29 30) [(12,.var _),(11,.var _),(9,.var _),(300,.var _),(303,m6 w7 w9 _),(302,m6 j1 w9 _),(301,m6 j1 C7 _),(3,.var _)] 91 O ?_)));refine n5 4 (y3 36 37 38) (h30 3 5 6 7 8 11 12 20 21 22 28 29 30 36 37 38) ⟨zV O,xL O,xL O,Zt⟩ O (⟨O,_,R.callB [(0,300),(301,301),(302,302),(303,303)] hC (ME (gB (gAll l h) l[h]!.txs i) (XR l[h]!.txs[i]!) l[h]!.txs[i]! ((hbw hc23).get bO)) (EvB.cons (gV 36 O) O O O (EvB.cons (gV 37 O) O O O (EvB.cons (gV 38 O) O O O EvB.nil))) (JY _ _ _ _ _ _ _ _) ⟨O,⟨O,⟨O,⟨O,Zt⟩⟩⟩⟩ ⟨O,QR _ _,QL _ _,QI _ _,Zt⟩ (JY _ _ _ _ _ _ _ _) O O O O O nU,tW (u27 3 5 6 7 8 11 12 20 21 22 28 29 30) [(12,.var _),(11,.var _),(9,.var _),(300,.var _),(303,m6 w7 w9 _),(302,m6 j1 w9 _),(301,m6 j1 C7 _),(3,.var _)] 91 O ?_⟩);refine u4 4 (y4 40 41 42 43) (g07 3 5 6 7 8 12 20 21 22 28 29 30 41 42 43) ⟨xF O,xL O,P8 O,CP (kI 0 O) O,Zt⟩ ?_;refine W.block ?_;refine P2 (l[h]!.txs[i]!.outs.length) (λk=>⟨91,[(3,.ptr 3 0 []),(5,.sl (some 121) 35 ((((US l sc h)++OZ h l[h]!.txs sc i)++CK h (XR l[h]!.txs[i]!) l[h]!.txs[i]!.outs sc k).map KK)),(6,.nils),(7,.ptr 300 0 []),(8,.int ((h:Nat):Int)),(12,.ptr 12 0 []),(20,.sl none 69 (l.map J7)),(21,.int ((l.length:Nat):Int)),(22,.int ((h:Nat):Int)),(28,.sl none 4 (l[h]!.txs.map r8)),(29,.int ((l[h]!.txs.length:Nat):Int)),(30,.int ((i:Nat):Int)),(41,.sl none 2 (l[h]!.txs[i]!.outs.map r9)),(42,.int ((l[h]!.txs[i]!.outs.length:Nat):Int)),(43,.int ((k:Nat):Int))],[(12,.var (w7 (XR l[h]!.txs[i]!))),(11,.var (r8 l[h]!.txs[i]!)),(9,.var (J7 l[h]!)),(300,.var (.agg [.map 301,.map 302,.map 303])),(303,m6 w7 w9 (MY (gB (gAll l h) l[h]!.txs i) (XR l[h]!.txs[i]!) l[h]!.txs[i]!).ids),(302,m6 j1 w9 (MY (gB (gAll l h) l[h]!.txs i) (XR l[h]!.txs[i]!) l[h]!.txs[i]!).spent),(301,m6 j1 C7 (MY (gB (gAll l h) l[h]!.txs i) (XR l[h]!.txs[i]!) l[h]!.txs[i]!).outs),(3,.var (w7 sc))]⟩) (by rw[CK,m4]<;>rfl) λk hk=>?_;have hsm:=hsm hc31;refine u4 1 (y1 44) (h30 3 5 6 7 8 12 20 21 22 28 29 30 41 42 43 44) ⟨zS O,Zt⟩ ?_;refine W.seq ?_;refine g7 O (λhc44=>?_) (λhc44=>?_)
   ·refine W.skip (W.seq (W.block (n5 6 (y3 45 46 47) [(3,_),(5,_),(6,_),(7,_),(8,_),(12,_),(20,_),(21,_),(22,_),(28,_),(29,_),(30,_),(41,_),(42,_),(43,_),(45,_),(47,_)] ⟨zV O,zI k O,zL O (b8 (l:=l[h]!.txs[i]!.outs) bU),Zt⟩ O (I9 O (GK O (M9 O (tW [(3,_),(5,_),(6,_),(7,_),(8,_),(12,_),(13,_),(14,_),(20,_),(21,_),(22,_),(28,_),(29,_),(30,_),(41,_),(42,_),(43,_)] [(14,.var _),(12,.var _),(11,.var _),(9,.var _),(300,.var _),(303,m6 w7 w9 _),(302,m6 j1 w9 _),(301,m6 j1 C7 _),(3,.var _)] 91 O ?_)))))));refine W.seq ?_;refine R5 5 [0,1,3,0,15] hP dU (y5 48 49 50 51 52) [(3,_),(5,_),(6,_),(7,_),(8,_),(12,_),(13,_),(14,_),(20,_),(21,_),(22,_),(28,_),(29,_),(30,_),(41,_),(42,_),(43,_),(52,_)] ⟨xF O,xL O,zC hC (FC l[h]!.txs[i]!.outs[k]!.script (v5 (((hbw hc23).get bO).outScript bO) dU)) O (F1 (X6 _)),xL O,λ_ _ H K=>OO (eU K 50 O) (eU K 51 O) H,Zt⟩ O (tW [(3,_),(5,_),(6,_),(7,_),(8,_),(12,_),(13,_),(14,_),(20,_),(21,_),(22,_),(28,_),(29,_),(30,_),(41,_),(42,_),(43,_),(52,_)] [(14,.var _),(12,.var _),(11,.var _),(9,.var _),(300,.var _),(303,m6 w7 w9 _),(302,m6 j1 w9 _),(301,m6 j1 C7 _),(3,.var _)] 91 O ?_);refine W.cond O (λhc52=>?_) (λhc52=>?_)
    ·refine UZ 12 (u51 53 54 55 56 57 58 59 60 61 62 63 5) [(10,5),(11,63),(11,53)] [(10,5),(11,63)] (g07 3 5 6 7 8 12 20 21 22 28 29 30 41 42 43) ⟨aU<|zM O,aU (xL O),xM O,aU λ_ _ H K=>W5 (d:=.u32 (nK k)) (eU K 55 O) O (O) H,aU λ_ _ H K=>P5 (l:=[.arr 32 1 ((List.replicate 32 0).map D.u8),.u32 0]) (l':=[_,_]) (.cons (eU K 54 O) (.cons (eU K 56 O) (.nil O))) ⟨⟨_,(eU K 54 O),O,O,y22 O⟩,⟨⟨_,(eU K 56 O),O,O,O⟩,Zt⟩⟩ H,aU (xF O),aU (xL O),xM O,aU λ_ _ H K=>P5 (l:=[.agg [.arr 32 1 ((List.replicate 32 0).map D.u8),.u32 0],.u64 0,.int 0]) (l':=[_,_,_]) (.cons (eU K 57 O) (.cons (eU K 59 O) (.cons (eU K 60 O) (.nil O)))) ⟨⟨_,(eU K 57 O),O,O,h24 O⟩,⟨⟨_,(eU K 59 O),O,O,O⟩,⟨⟨_,(eU K 60 O),O,O,O⟩,Zt⟩⟩⟩ H,aU λ_ _ H K=>J3 (z:=35) (.cons (eU K 61 O) .nil) ⟨⟨O,O,O⟩,Zt⟩ O H dU,aU<|YC O (G5 O) (show _=((((US l sc h)++OZ h l[h]!.txs sc i)++CK h (XR l[h]!.txs[i]!) l[h]!.txs[i]!.outs sc (k+1)).map KK) from(w49 (h:=h) (id:=(XR l[h]!.txs[i]!)) (o:=l[h]!.txs[i]!.outs) (k:=k) (sc:=sc) ((US l sc h)++OZ h l[h]!.txs sc i) hc52)) (by have:=z07 h (XR l[h]!.txs[i]!) l[h]!.txs[i]!.outs sc k;simp only[z6,q9,j2,j3];omega),aU<|zO O,Zt⟩ O (tU O ?_);refine Y2 [3,9,11,12,300,301,302,303] (bx':=[(12,.var _),(11,.var _),(9,.var _),(300,.var _),(303,m6 w7 w9 _),(302,m6 j1 w9 _),(301,m6 j1 C7 _),(3,.var _)]) O O ⟨O,⟨O,⟨O,⟨O,⟨Z6 (λ_=>rfl) (λ_=>rfl),⟨Z6 (λ_=>rfl) (λ_=>rfl),⟨Z6 (λ_=>rfl) (λ_=>rfl),⟨O,Zt⟩⟩⟩⟩⟩⟩⟩⟩ (o8 hD O) ?_;refine n4 2 (y2 64 43) (g07 3 5 6 7 8 12 20 21 22 28 29 30 41 42 43) ⟨P1 1 O,zV O,Zt⟩ ?_;exact⟨bU,(by first|(rw[w48 hc52]<;>rfl)|rfl)⟩
    ·refine W.skip ?_;refine E9 (g07 3 5 6 7 8 12 20 21 22 28 29 30 41 42 43) [(14,.var _),(12,.var _),(11,.var _),(9,.var _),(300,.var _),(303,m6 w7 w9 _),(302,m6 j1 w9 _),(301,m6 j1 C7 _),(3,.var _)] 91 O ?_;refine Y2 [3,9,11,12,300,301,302,303] (bx':=[(12,.var _),(11,.var _),(9,.var _),(300,.var _),(303,m6 w7 w9 _),(302,m6 j1 w9 _),(301,m6 j1 C7 _),(3,.var _)]) O O ⟨O,⟨O,⟨O,⟨O,⟨Z6 (λ_=>rfl) (λ_=>rfl),⟨Z6 (λ_=>rfl) (λ_=>rfl),⟨Z6 (λ_=>rfl) (λ_=>rfl),⟨O,Zt⟩⟩⟩⟩⟩⟩⟩⟩ (o8 hD O) ?_;refine n4 2 (y2 64 43) (g07 3 5 6 7 8 12 20 21 22 28 29 30 41 42 43) ⟨P1 1 O,zV O,Zt⟩ ?_;exact⟨bU,(by first|(rw[w48 hc52]<;>rfl)|rfl)⟩
   ·obtain rfl:k=l[h]!.txs[i]!.outs.length:=by omega
    refine W.exit ?_;refine E9 (j72 3 5 6 7 8 20 21 22 28 29 30) [(12,.var _),(11,.var _),(9,.var _),(300,.var _),(303,m6 w7 w9 _),(302,m6 j1 w9 _),(301,m6 j1 C7 _),(3,.var _)] 91 O ?_;refine Y2 [3,9,300,301,302,303] (bx':=[(9,.var _),(300,.var _),(303,m6 w7 w9 _),(302,m6 j1 w9 _),(301,m6 j1 C7 _),(3,.var _)]) O O ⟨O,⟨O,⟨Z6 (λ_=>rfl) (λ_=>rfl),⟨Z6 (λ_=>rfl) (λ_=>rfl),⟨Z6 (λ_=>rfl) (λ_=>rfl),⟨O,Zt⟩⟩⟩⟩⟩⟩ (o8 hD O) ?_;refine n4 2 (y2 65 30) (j72 3 5 6 7 8 20 21 22 28 29 30) ⟨P1 1 O,zV O,Zt⟩ ?_;exact⟨bU,(by dsimp only;rw[OZ,<- w3]<;>rfl)⟩
  ·obtain rfl:i=l[h]!.txs.length:=by omega
   refine W.exit ?_;refine Y2 [3,300,301,302,303] (bx':=[(300,.var _),(303,m6 w7 w9 _),(302,m6 j1 w9 _),(301,m6 j1 C7 _),(3,.var _)]) O O ⟨O,⟨Z6 (λ_=>rfl) (λ_=>rfl),⟨Z6 (λ_=>rfl) (λ_=>rfl),⟨Z6 (λ_=>rfl) (λ_=>rfl),⟨O,Zt⟩⟩⟩⟩⟩ (o8 hD O) ?_;refine n4 2 (y2 66 22) (V7 3 5 6 7 20 21 22) ⟨P1 1 O,zV O,Zt⟩ ?_;exact⟨bU,rfl⟩
 ·obtain rfl:h=l.length:=by omega
  refine W.exit (W.seq (u4 3 (y3 67 68 69) (V6 5 6 7 67 68 69) ⟨zM O,u47 O (lN _),CP (kI 0 O) O,Zt⟩ ?_));refine W.block ?_;refine O6 (s:=6) 121 35 O ?_;refine P2 ((US l sc l.length).length) (λj=>⟨91,[(5,.sl (some 121) 35 ((US l sc l.length).map KK)),(6,.sl (some 121) 35 ((BE (gAll l l.length).spent (US l sc l.length) j).map KK)),(7,.ptr 300 0 []),(67,.al 5),(68,.int (((US l sc l.length).length:Nat):Int)),(69,.int ((j:Nat):Int))],[(300,.var (.agg [.map 301,.map 302,.map 303])),(303,m6 w7 w9 (gAll l l.length).ids),(302,m6 j1 w9 (gAll l l.length).spent),(301,m6 j1 C7 (gAll l l.length).outs),(3,.var (w7 sc))]⟩) O λj hj=>?_;refine u4 1 (y1 70) (V7 5 6 7 67 68 69 70) ⟨zS O,Zt⟩ ?_;refine W.seq ?_;refine g7 O (λhc70=>?_) (λhc70=>?_)
  ·refine W.skip (W.seq (W.block (n5 4 (y2 71 72) (V7 5 6 7 67 68 69 72) ⟨YD j O,XA O (mG (US l sc l.length)),Zt⟩ O (I9 O (M9 O (tW (V7 5 6 7 16 67 68 69) [(16,.var _),(300,.var _),(303,m6 w7 w9 _),(302,m6 j1 w9 _),(301,m6 j1 C7 _),(3,.var _)] 91 O ?_))))));refine W.seq ?_;refine QE (m:=12) (an:=[0,1,3,7,0,16,63,127,255,255,0,1535,4095]) (its:=[.y 74 _,.y 75 _,.y 76 _,.y 77 _,.y 78 _,.y 79 _,.y 80 _,.y 73 _,.y 81 _,.y 82 _,.y 17 _,⟨102,.dead,true⟩]) (ks:=[(11,102)]) (kk:=[]) (efs:=[(10,(B2 17)),(11,(B2 17))]) (live:=[5,6,7,16,67,68,69,82]) (env':=(V8 5 6 7 16 67 68 69 82)) (nd:=40) (bx1:=[(17,.var _),(16,.var _),(300,.var _),(303,m6 w7 w9 _),(302,m6 j1 w9 _),(301,m6 j1 C7 _),(3,.var _)]) hP dU O ⟨⟨109,O⟩,nU O,O,O,O,O⟩ (          ⟨⟨O,nU O,O,λ_ τ hb ht hτ=>R.mov (evt (hτ 7 _ O)) O ht⟩,⟨⟨O,nU O,O,λ_ τ hb ht hτ=>R.nilcP (hτ 74 _ O) ht⟩,⟨⟨O,nU O,O,λ_ τ hb ht hτ=>R.fdP (hτ 75 _ O) ht⟩,⟨⟨O,nU O,O,λ_ τ hb ht hτ=>R.ldP (hτ 76 _ O) (hb 300 _ O) O O O O ht⟩,⟨⟨O,nU O,O,λ_ τ hb ht hτ=>R.fdP (hτ 16 _ O) ht⟩,⟨⟨O,nU O,O,λ_ τ hb ht hτ=>R.ldP (hτ 78 _ O) (hb 16 _ O) O O O O ht⟩,⟨⟨O,nU O,O,λ_ τ hb ht hτ=>R.lookK (k:=(US l sc l.length)[j]!.1) (z:=()) KM (hτ 77 _ O) (hb 302 _ O) (evt (hτ 79 _ O)) O O (λ_=>rfl) ht⟩,⟨⟨O,nU O,O,λ_ τ hb ht hτ=>R.movT (hτ 80 _ O) O ht⟩,⟨⟨O,nU O,O,λ_ τ hb ht hτ=>R.ext (hτ 73 _ O) O O ht⟩,⟨⟨O,nU O,O,λ_ τ hb ht hτ=>R.ext (hτ 73 _ O) O O ht⟩,⟨⟨O,O,⟨O,nU O⟩,(SpE.alloc O nU)⟩,⟨⟨O,O,O,(YK (p:=17) (id:=17) O O O (λτ hτ=>(evt (hτ 81 _ O))) (by rfl) (by rfl) (by rfl) (by rfl) O)⟩,Zt⟩⟩⟩⟩⟩⟩⟩⟩⟩⟩⟩⟩) O O O (n':=91) O (GK O ⟨[5,6,7,16,18,67,68,69],(V8 5 6 7 16 18 67 68 69),[(17,.var _),(16,.var _),(300,.var _),(303,m6 w7 w9 _),(302,m6 j1 w9 _),(301,m6 j1 C7 _),(3,.var _)],91,O,O,O, ?_⟩);refine W.seq ?_;refine Y2 [3,16,300,301,302,303] (bx':=[(16,.var _),(300,.var _),(303,m6 w7 w9 _),(302,m6 j1 w9 _),(301,m6 j1 C7 _),(3,.var _)]) O O ⟨O,⟨O,⟨Z6 (λ_=>rfl) (λ_=>rfl),⟨Z6 (λ_=>rfl) (λ_=>rfl),⟨Z6 (λ_=>rfl) (λ_=>rfl),⟨O,Zt⟩⟩⟩⟩⟩⟩ (o8 hD O) ?_;refine n4 2 (y2 83 84) (V8 5 6 7 16 67 68 69 84) ⟨zV O,BH O,Zt⟩ ?_;refine W.cond O (λhc84=>?_) (λhc84=>?_)
   ·refine UZ 5 (y5 85 86 87 88 6) [(3,6),(4,88),(4,85)] [(3,6),(4,88)] (V6 5 6 7 67 68 69) ⟨aU<|zM O,aU (xL O),aU λ_ _ H K=>J3 (z:=35) (.cons (eU K 86 O) .nil) ⟨⟨O,O,O⟩,Zt⟩ O H dU,aU<|YC O (G5 O) (show _=((BE (gAll l l.length).spent (US l sc l.length) (j+1)).map KK) from(w51 (k45 hc84))) (by have:=z10 (gAll l l.length).spent (US l sc l.length) j;simp only[z6,j2,j3];omega),aU<|zO O,Zt⟩ O (tU O ?_);refine Y2 [3,300,301,302,303] (bx':=[(300,.var _),(303,m6 w7 w9 _),(302,m6 j1 w9 _),(301,m6 j1 C7 _),(3,.var _)]) O O ⟨O,⟨Z6 (λ_=>rfl) (λ_=>rfl),⟨Z6 (λ_=>rfl) (λ_=>rfl),⟨Z6 (λ_=>rfl) (λ_=>rfl),⟨O,Zt⟩⟩⟩⟩⟩ (o8 hD O) ?_;refine n4 2 (y2 89 69) (V6 5 6 7 67 68 69) ⟨P1 1 O,zV O,Zt⟩ ?_;exact⟨bU,(by first|(rw[w50 (q95 hc84)]<;>rfl)|rfl)⟩
   ·refine W.skip ?_;refine E9 (V6 5 6 7 67 68 69) [(16,.var _),(300,.var _),(303,m6 w7 w9 _),(302,m6 j1 w9 _),(301,m6 j1 C7 _),(3,.var _)] 91 O ?_;refine Y2 [3,300,301,302,303] (bx':=[(300,.var _),(303,m6 w7 w9 _),(302,m6 j1 w9 _),(301,m6 j1 C7 _),(3,.var _)]) O O ⟨O,⟨Z6 (λ_=>rfl) (λ_=>rfl),⟨Z6 (λ_=>rfl) (λ_=>rfl),⟨Z6 (λ_=>rfl) (λ_=>rfl),⟨O,Zt⟩⟩⟩⟩⟩ (o8 hD O) ?_;refine n4 2 (y2 89 69) (V6 5 6 7 67 68 69) ⟨P1 1 O,zV O,Zt⟩ ?_;exact⟨bU,(by first|(rw[w50 (q95 hc84)]<;>rfl)|rfl)⟩
  ·obtain rfl:j=(US l sc l.length).length:=by omega
   refine W.exit (P4 2 (y2 90 4) [(0,6),(1,90)] [(0,6),(1,90)] (V1 4) ⟨aU λ_ _ H K=>ZX (K 6 _ O) O H dU,aU<|zO O,Zt⟩ O (tU O ?_));exact W.ret (Eo O)
theorem k54(l:List BlkS)(hl:allBl l)(sc:Hs):Fn Tryz.prog gl 25 [.sl none 69 (l.map J7),w7 sc] (.u64 (g05 (YR l sc))):=by
 refine Fo 22 Tryz.func25 O λC hC hD=>?_;have hul:=z06 hl sc;refine n5 2 [] (V2 0 1) Zt O (⟨O,_,R.box (gV 1 O) O O nU,⟨O,_,J9 (kW (.int .u64 0) (.u64 0) O) O nU,tW (V2 0 3) (B2 3) 22 O ?_⟩⟩);refine u4 1 (y1 5) (V3 0 3 5) ⟨q42 (.u64 0) O,Zt⟩ ?_;refine W.seq (u4 5 (y5 8 9 10 11 12) (V4 5 10 11 12) ⟨zV O,xL O,zD hC (WE l hl sc) O (MH _ _ _),P8 O,CP (kI 0 O) O,Zt⟩ ?_);refine W.block ?_;refine P2 ((YR l sc).length) (λi=>⟨22,[(5,.u64 (g06 (YR l sc) i)),(10,.sl (some 121) 35 ((YR l sc).map KK)),(11,.int (((YR l sc).length:Nat):Int)),(12,.int ((i:Nat):Int))],[(3,.var (w7 sc))]⟩) O λi hi=>?_;refine u4 1 (y1 13) (V5 5 10 11 12 13) ⟨zS O,Zt⟩ ?_;refine W.seq ?_;refine g7 O (λhc13=>?_) (λhc13=>?_)
 ·refine W.skip (W.seq (W.block (n5 4 (y2 14 15) (V5 5 10 11 12 15) ⟨zI i O,zL O (mG (YR l sc)),Zt⟩ O (I9 O (M9 O (tW (V5 5 7 10 11 12) (B7 7 3) 22 O ?_))))));refine n4 5 (y5 16 17 18 19 5) (V4 5 10 11 12) ⟨zV O,xF O,xL O,zB O,zA O,Zt⟩ ?_;refine H6 [3] (bx':=(B2 3)) O O O (o8 hD O) ?_;refine n4 2 (y2 20 12) (V4 5 10 11 12) ⟨P1 1 O,zV O,Zt⟩ ?_;exact⟨bU,(by rw[g06]<;>rfl)⟩
 ·obtain rfl:i=(YR l sc).length:=by omega
  refine W.exit (u4 2 (y2 21 4) (V1 4) ⟨zV O,zA O,Zt⟩ ?_);exact W.ret (Eo O)
end
section
open Go.Proofs
set_option maxHeartbeats 1000000 in
theorem z00(l:List BlkS)(hl:allBl l)(sc:Hs):Fn Tryz.prog gl 20 [.sl none 69 (l.map J7),w7 sc] (.sl (some 119) 33 ((BY l sc).map NK)):=by
 refine u45 (n:=50) Tryz.func20 rfl rfl rfl (nU rfl) λW0 G hgl=>?_;refine h20 ?_;have hl0:=hl.1;refine V.seq ?_;refine V.of λC hC hD=>?_;refine L8 2 [] (V2 0 1) Zt O (⟨O,_,R.box (gV 1 O) O O nU,⟨O,_,J9 (kN O) O nU,tW (V2 0 3) (B2 3) 50 O ?_⟩⟩);refine V.seq ?_;refine V.of λC hC hD=>?_;refine L8 1 [] (V2 0 3) Zt O (I9 O (tW (V3 0 3 5) (B7 5 3) 50 O ?_));refine V.seq ?_;refine V.of λC hC hD=>?_;refine L8 2 [] (V3 0 3 5) Zt O (⟨O,_,R.callB [(5,300),(1,301),(2,302),(3,303)] hC (WY) EvB.nil O Zt Zt O (x45 _ _ _ _ _ _ _ _) O O O O nU,(GK O (tW (V4 0 3 5 6) [(300,.var _),(303,m6 w7 w9 _),(302,m6 j1 w9 _),(301,m6 j1 C7 _),(5,.var _),(3,.var _)] 50 O ?_))⟩);refine V.seq ?_;refine V.seq ?_;refine V.of λC hC hD=>?_;refine n4 3 (y3 14 15 16) (V6 3 5 6 14 15 16) ⟨zV O,P8 O,CP (kI 0 O) O,Zt⟩ ?_;refine V.block ?_;refine u30 (id:=5) 119 33 rfl ?_;refine V.loop (α:={q__:Nat//q__<=l.length}) (λq__=>(true,(⟨50,[(3,.ptr 3 0 []),(5,.ptr 5 0 []),(6,.ptr 300 0 []),(14,.sl none 69 (l.map J7)),(15,.int ((l.length:Nat):Int)),(16,.int ((q__.1:Nat):Int))],[(300,.var (.agg [.map 301,.map 302,.map 303])),(303,m6 w7 w9 (gAll l q__.1).ids),(302,m6 j1 w9 (gAll l q__.1).spent),(301,m6 j1 C7 (gAll l q__.1).outs),(5,.var (.sl (some 119) 33 ((OJ l sc q__.1).map NK))),(3,.var (w7 sc))]⟩:Sg))) (λq__=>l.length-q__.1) ⟨(0),bU⟩ rfl ?_;rintro ⟨h,hh⟩;show V _ _ _ _ _ (true,(⟨50,[(3,.ptr 3 0 []),(5,.ptr 5 0 []),(6,.ptr 300 0 []),(14,.sl none 69 (l.map J7)),(15,.int ((l.length:Nat):Int)),(16,.int ((h:Nat):Int))],[(300,.var (.agg [.map 301,.map 302,.map 303])),(303,m6 w7 w9 (gAll l h).ids),(302,m6 j1 w9 (gAll l h).spent),(301,m6 j1 C7 (gAll l h).outs),(5,.var (.sl (some 119) 33 ((OJ l sc h).map NK))),(3,.var (w7 sc))]⟩:Sg));have hh:h<=l.length:=hh;have hbw:=λ(q:h<l.length)=>hl.get q;refine V.seq ?_;refine V.of λC hC hD=>?_;refine n4 1 (y1 17) (V7 3 5 6 14 15 16 17) ⟨zS O,Zt⟩ ?_;refine V.seq ?_;refine V.of λC hC hD=>?_;refine g7 O (λhc17=>?_) (λhc17=>?_)
 ·refine W.skip ?_;refine V.seq ?_;refine V.block ?_;refine V.seq ?_;refine V.of λC hC hD=>?_;refine L8 7 (y3 18 19 20) (V8 3 5 6 14 15 16 18 20) ⟨zV O,zI h O,zL O (mG l),Zt⟩ O (I9 O (I9 O (M9 O (M9 O (tW (V8 3 5 6 7 8 14 15 16) [(8,.var _),(7,.var _),(300,.var _),(303,m6 w7 w9 _),(302,m6 j1 w9 _),(301,m6 j1 C7 _),(5,.var _),(3,.var _)] 50 O ?_)))));refine V.seq ?_;refine V.of λC hC hD=>?_;refine k93 8 [7,300,303,302,301,5,3] (d':=J7 l[h]!) (bx':=[(7,.var _),(300,.var _),(303,m6 w7 w9 _),(302,m6 j1 w9 _),(301,m6 j1 C7 _),(5,.var _),(3,.var _)]) O (ZS _) O O O O O ⟨O,⟨O,⟨Z6 (λ_=>rfl) (λ_=>rfl),⟨Z6 (λ_=>rfl) (λ_=>rfl),⟨Z6 (λ_=>rfl) (λ_=>rfl),⟨O,⟨O,Zt⟩⟩⟩⟩⟩⟩⟩ (o8 hD O) ?_;refine n4 4 (y4 21 22 23 24) (z51 3 5 6 7 14 15 16 22 23 24) ⟨λ_ _ H K=>R.fdR (eU K 8 O) O O H,λ_ _ H K=>R.ldR (eU K 21 O) O O O H,P8 O,CP (kI 0 O) O,Zt⟩ ?_;refine V.block ?_;refine V.loop (α:={q__:Nat//q__<=l[h]!.txs.length}) (λq__=>(true,(⟨50,[(3,.ptr 3 0 []),(5,.ptr 5 0 []),(6,.ptr 300 0 []),(7,.ptr 7 0 []),(14,.sl none 69 (l.map J7)),(15,.int ((l.length:Nat):Int)),(16,.int ((h:Nat):Int)),(22,.sl none 4 (l[h]!.txs.map r8)),(23,.int ((l[h]!.txs.length:Nat):Int)),(24,.int ((q__.1:Nat):Int))],[(7,.var (.int ((h:Nat):Int))),(300,.var (.agg [.map 301,.map 302,.map 303])),(303,m6 w7 w9 (gB (gAll l h) l[h]!.txs q__.1).ids),(302,m6 j1 w9 (gB (gAll l h) l[h]!.txs q__.1).spent),(301,m6 j1 C7 (gB (gAll l h) l[h]!.txs q__.1).outs),(5,.var (.sl (some 119) 33 (((OJ l sc h)++HB (gAll l h) h l[h]!.txs sc q__.1).map NK))),(3,.var (w7 sc))]⟩:Sg))) (λq__=>l[h]!.txs.length-q__.1) ⟨(0),bU⟩ (by rw[HB,m4]<;>rfl) ?_;rintro ⟨i,hi⟩;show V _ _ _ _ _ (true,(⟨50,[(3,.ptr 3 0 []),(5,.ptr 5 0 []),(6,.ptr 300 0 []),(7,.ptr 7 0 []),(14,.sl none 69 (l.map J7)),(15,.int ((l.length:Nat):Int)),(16,.int ((h:Nat):Int)),(22,.sl none 4 (l[h]!.txs.map r8)),(23,.int ((l[h]!.txs.length:Nat):Int)),(24,.int ((i:Nat):Int))],[(7,.var (.int ((h:Nat):Int))),(300,.var (.agg [.map 301,.map 302,.map 303])),(303,m6 w7 w9 (gB (gAll l h) l[h]!.txs i).ids),(302,m6 j1 w9 (gB (gAll l h) l[h]!.txs i).spent),(301,m6 j1 C7 (gB (gAll l h) l[h]!.txs i).outs),(5,.var (.sl (some 119) 33 (((OJ l sc h)++HB (gAll l h) h l[h]!.txs sc i).map NK))),(3,.var (w7 sc))]⟩:Sg));have hi:i<=l[h]!.txs.length:=hi;have hbl:=(hbw hc17).len;refine V.seq ?_;refine V.of λC hC hD=>?_;refine n4 1 (y1 25) (j72 3 5 6 7 14 15 16 22 23 24 25) ⟨zS O,Zt⟩ ?_;refine V.seq ?_;refine V.of λC hC hD=>?_;refine g7 O (λhc25=>?_) (λhc25=>?_)
  ·refine W.skip ?_;refine V.seq ?_;refine V.block ?_;refine V.seq ?_;refine V.of λC hC hD=>?_;refine L8 4 (y2 26 27) (j72 3 5 6 7 14 15 16 22 23 24 27) ⟨zI i O,zL O (b8 (l:=l[h]!.txs) bU),Zt⟩ O (I9 O (M9 O (tW (j72 3 5 6 7 10 14 15 16 22 23 24) [(10,.var _),(7,.var _),(300,.var _),(303,m6 w7 w9 _),(302,m6 j1 w9 _),(301,m6 j1 C7 _),(5,.var _),(3,.var _)] 50 O ?_)));refine V.seq ?_;refine V.of λC hC hD=>?_;refine L8 4 (y2 28 29) (v94 3 5 6 7 10 14 15 16 22 23 24 29) ⟨xL O,zC hC (w27 l[h]!.txs[i]! ((hbw hc17).get bO)) O (F1 (X6 _)),Zt⟩ O (I9 O (M9 O (tW (v94 3 5 6 7 10 11 14 15 16 22 23 24) [(11,.var _),(10,.var _),(7,.var _),(300,.var _),(303,m6 w7 w9 _),(302,m6 j1 w9 _),(301,m6 j1 C7 _),(5,.var _),(3,.var _)] 50 O ?_)));refine V.seq ?_;refine V.seq ?_;refine V.of λC hC hD=>?_;refine k93 10 [11,7,300,303,302,301,5,3] (d':=r8 l[h]!.txs[i]!) (bx':=[(11,.var _),(7,.var _),(300,.var _),(303,m6 w7 w9 _),(302,m6 j1 w9 _),(301,m6 j1 C7 _),(5,.var _),(3,.var _)]) O (EN _) O O O O O ⟨O,⟨O,⟨O,⟨Z6 (λ_=>rfl) (λ_=>rfl),⟨Z6 (λ_=>rfl) (λ_=>rfl),⟨Z6 (λ_=>rfl) (λ_=>rfl),⟨O,⟨O,Zt⟩⟩⟩⟩⟩⟩⟩⟩ (o8 hD O) ?_;refine L8 3 (y2 30 31) (h16 3 5 6 7 10 11 14 15 16 22 23 24 30 31) ⟨zV O,λ_ _ H K=>R.ldR (eU K 10 O) O O O H,Zt⟩ O (⟨O,_,R.callB [(3,403),(2,402),(0,300),(301,301),(302,302),(303,303)] hC (y09 (gB (gAll l h) l[h]!.txs i) l[h]!.txs[i]!) (EvB.cons (gV 30 O) O O O (EvB.cons (gV 31 O) O O O EvB.nil)) (JY _ _ _ _ _ _ _ _) ⟨O,⟨O,⟨O,⟨O,Zt⟩⟩⟩⟩ ⟨O,QR _ _,QL _ _,QI _ _,Zt⟩ (JY _ _ _ _ _ _ _ _) O O O O O nU,tW (u27 3 5 6 7 10 11 14 15 16 22 23 24 32) [(403,.var _),(402,.var _),(11,.var _),(7,.var _),(300,.var _),(303,m6 w7 w9 _),(302,m6 j1 w9 _),(301,m6 j1 C7 _),(5,.var _),(3,.var _)] 50 O ?_⟩);refine V.block ?_;refine j73 (env0:=[(3,_),(5,_),(7,_),(11,_)]) (envZ:=[(3,_),(5,_),(6,_),(7,_),(10,_),(11,_),(14,_),(15,_),(16,_),(22,_),(23,_),(24,_)]) [(3,403),(2,402),(0,300),(301,301),(302,302),(303,303)] [3,5,7,11] [3,5,6,7,10,11,14,15,16,22,23,24] [11,7,5,3] ((JF (gB (gAll l h) l[h]!.txs i) l[h]!.txs[i]!).length) (λk=>w7 (JF (gB (gAll l h) l[h]!.txs i) l[h]!.txs[i]!)[k]!) (λk=>[(11,.var (w7 (XR l[h]!.txs[i]!))),(7,.var (.int ((h:Nat):Int))),(5,.var (.sl (some 119) 33 (((OJ l sc h)++HB (gAll l h) h l[h]!.txs sc i).map NK))),(3,.var (w7 sc))]) (λe bx=>e=.exit 4/\bx=[(11,.var (w7 (XR l[h]!.txs[i]!))),(7,.var (.int ((h:Nat):Int))),(5,.var (.sl (some 119) 33 ((((OJ l sc h)++HB (gAll l h) h l[h]!.txs sc i)++[(((h:Nat):Int),(XR l[h]!.txs[i]!))]).map NK))),(3,.var (w7 sc))]/\sc∈(JF (gB (gAll l h) l[h]!.txs i) l[h]!.txs[i]!)) (λk=>∀ j,j<k->(JF (gB (gAll l h) l[h]!.txs i) l[h]!.txs[i]!)[j]!≠sc) hgl (u69 (gB (gAll l h) l[h]!.txs i) l[h]!.txs[i]! ((hbw hc17).get (by omega))) rfl rfl rfl (by rw[x43];exact⟨rfl,rfl,rfl,rfl,rfl,rfl,Zt⟩) (⟨rfl,rfl,rfl,QR _ _,QL _ _,QI _ _,Zt⟩) rfl rfl rfl rfl rfl rfl rfl (rfl) rfl rfl rfl (⟨B4 _,rfl,.int _,rfl,z91 _ _ _,rfl,B4 _,rfl,Zt⟩) (λ_=>⟨rfl,rfl⟩) (λj hj=>absurd hj (g9 _)) (λk hk hJ C hC hD=>?_) ?_ ?_
   ·show W _ _ _ _ _;refine E9 (V5 3 5 7 11 33) (OA 11 7 5 3) 50 O ?_;refine L8 2 [] (V5 3 5 7 11 33) Zt O (I9 O (M9 O (tW (V5 3 5 7 11 12) (q47 12 11 7 5 3) 50 O ?_)));refine⟨rfl,λC hC hD=>?_⟩;refine W.block (u4 3 (y3 34 35 36) (V4 5 7 11 36) ⟨xL O,xL O,λ_ _ H K=>OO (eU K 34 O) (eU K 35 O) H,Zt⟩ ?_);refine W.cond O (λhc36=>?_) (λhc36=>?_)
    ·refine W.seq ?_;refine H6 [3,5,7,11] (bx':=(OA 11 7 5 3)) O O O (o8 hD O) ?_;refine L8 7 (y5 37 38 39 40 41) (V3 5 37 41) ⟨λ_ B H K=>R.ldO (K 5 _ O) (B 5 _ O) O H,xL O,xL O,λ_ _ H K=>P5 (l:=[.int 0,.arr 32 1 ((List.replicate 32 0).map D.u8)]) (l':=[_,_]) (.cons (eU K 38 O) (.cons (eU K 39 O) (.nil O))) ⟨⟨_,(eU K 38 O),O,O,O⟩,⟨⟨_,(eU K 39 O),O,O,y22 O⟩,Zt⟩⟩ H,λ_ _ H K=>J3 (z:=33) (.cons (eU K 40 O) .nil) ⟨⟨O,O,O⟩,Zt⟩ O H dU,Zt⟩ O (⟨O,_,g00 (gU 37 O) (xU 5 O) O (gU 37 O) (SrcO.sc (SC.sl (gU 41 O)) (G5 O)) (show _=((((OJ l sc h)++HB (gAll l h) h l[h]!.txs sc i)++[(((h:Nat):Int),(XR l[h]!.txs[i]!))]).map NK) from(v32)) (by have:=z16 l hl sc h hh;have:=z15 (gAll l h) h l[h]!.txs sc i;simp only[z6,q9,j2,j3];omega) nU dU dU,⟨O,_,e9 (gU 5 O) (xU 5 O) O (gU 42 O) O O (by rfl) (by rfl) O O,tW [] (OA 11 7 5 3) 50 O ?_⟩⟩);refine W.exit ?_;exact⟨.inr ⟨.inr ⟨_,rfl⟩,⟨rfl,rfl,u68 hk hc36⟩⟩,⟨B4 _,rfl,.int _,rfl,z91 _ _ _,rfl,B4 _,rfl,Zt⟩⟩
    ·refine W.skip ?_;exact⟨.inl ⟨rfl,rfl,λj hj=>(u7.1 hj).elim (hJ j) (λe=>e▸v9.1 hc36)⟩,⟨B4 _,rfl,.int _,rfl,z91 _ _ _,rfl,B4 _,rfl,Zt⟩⟩
   ·intro hJ;have hno:=y21 hJ;rw[x43];refine UJ (live:=[3,5,6,7,10,11,14,15,16,22,23,24]) (env':=[(3,_),(5,_),(6,_),(7,_),(10,_),(11,_),(14,_),(15,_),(16,_),(22,_),(23,_),(24,_)]) (bx':=[(403,.var _),(402,.var _),(300,.var _),(301,m6 j1 C7 _),(302,m6 j1 w9 _),(303,m6 w7 w9 _),(11,.var _),(7,.var _),(5,.var _),(3,.var _)]) (n':=50) rfl rfl rfl ?_;refine V.of λC hC hD=>?_;refine Y2 [3,5,7,11,300,301,302,303] (bx':=[(300,.var _),(301,m6 j1 C7 _),(302,m6 j1 w9 _),(303,m6 w7 w9 _),(11,.var _),(7,.var _),(5,.var _),(3,.var _)]) O O ⟨O,⟨Z6 (λ_=>rfl) (λ_=>rfl),⟨Z6 (λ_=>rfl) (λ_=>rfl),⟨Z6 (λ_=>rfl) (λ_=>rfl),⟨O,⟨O,⟨O,⟨O,Zt⟩⟩⟩⟩⟩⟩⟩⟩ (o8 hD O) ?_;refine L8 4 (y3 43 44 45) (u27 3 5 6 7 14 15 16 22 23 24 43 44 45) ⟨zV O,xL O,λ_ _ H K=>R.ldR (eU K 10 O) O O O H,Zt⟩ O (⟨O,_,R.callB [(0,300),(301,301),(302,302),(303,303)] hC (ME (gB (gAll l h) l[h]!.txs i) (XR l[h]!.txs[i]!) l[h]!.txs[i]! ((hbw hc17).get bO)) (EvB.cons (gV 43 O) O O O (EvB.cons (gV 44 O) O O O (EvB.cons (gV 45 O) O O O EvB.nil))) (JY _ _ _ _ _ _ _ _) ⟨O,⟨O,⟨O,⟨O,Zt⟩⟩⟩⟩ ⟨O,QR _ _,QL _ _,QI _ _,Zt⟩ (JY _ _ _ _ _ _ _ _) O O O O O nU,tW (z51 3 5 6 7 14 15 16 22 23 24) [(300,.var _),(301,m6 j1 C7 _),(302,m6 j1 w9 _),(303,m6 w7 w9 _),(11,.var _),(7,.var _),(5,.var _),(3,.var _)] 50 O ?_⟩);refine V.of λC hC hD=>?_;refine Y2 [3,5,7,300,301,302,303] (bx':=[(300,.var _),(301,m6 j1 C7 _),(302,m6 j1 w9 _),(303,m6 w7 w9 _),(7,.var _),(5,.var _),(3,.var _)]) O O ⟨O,⟨Z6 (λ_=>rfl) (λ_=>rfl),⟨Z6 (λ_=>rfl) (λ_=>rfl),⟨Z6 (λ_=>rfl) (λ_=>rfl),⟨O,⟨O,⟨O,Zt⟩⟩⟩⟩⟩⟩⟩ (o8 hD O) ?_;refine q35 (bx':=[(7,.var _),(300,.var _),(303,m6 w7 w9 _),(302,m6 j1 w9 _),(301,m6 j1 C7 _),(5,.var _),(3,.var _)]) ⟨O,O,O,O,O,O,O,Zt⟩ O ?_;refine n4 2 (y2 47 24) (z51 3 5 6 7 14 15 16 22 23 24) ⟨P1 1 O,zV O,Zt⟩ ?_;exact⟨⟨(i+1),bU⟩,(by first|(dsimp only;rw[z88 hno]<;>rfl)|(dsimp only;rw[z87 hyes,<- w3]<;>rfl)),(by simp only[];omega)⟩
   ·rintro e bx he ⟨rfl,rfl,hyes⟩;rw[x43];refine UJ (live:=[3,5,6,7,10,11,14,15,16,22,23,24]) (env':=[(3,_),(5,_),(6,_),(7,_),(10,_),(11,_),(14,_),(15,_),(16,_),(22,_),(23,_),(24,_)]) (bx':=[(403,.var _),(402,.var _),(300,.var _),(301,m6 j1 C7 _),(302,m6 j1 w9 _),(303,m6 w7 w9 _),(11,.var _),(7,.var _),(5,.var _),(3,.var _)]) (n':=50) rfl rfl rfl ?_;refine V.of λC hC hD=>?_;refine Y2 [3,5,7,11,300,301,302,303] (bx':=[(300,.var _),(301,m6 j1 C7 _),(302,m6 j1 w9 _),(303,m6 w7 w9 _),(11,.var _),(7,.var _),(5,.var _),(3,.var _)]) O O ⟨O,⟨Z6 (λ_=>rfl) (λ_=>rfl),⟨Z6 (λ_=>rfl) (λ_=>rfl),⟨Z6 (λ_=>rfl) (λ_=>rfl),⟨O,⟨O,⟨O,⟨O,Zt⟩⟩⟩⟩⟩⟩⟩⟩ (o8 hD O) ?_;refine L8 4 (y3 43 44 45) (u27 3 5 6 7 14 15 16 22 23 24 43 44 45) ⟨zV O,xL O,λ_ _ H K=>R.ldR (eU K 10 O) O O O H,Zt⟩ O (⟨O,_,R.callB [(0,300),(301,301),(302,302),(303,303)] hC (ME (gB (gAll l h) l[h]!.txs i) (XR l[h]!.txs[i]!) l[h]!.txs[i]! ((hbw hc17).get bO)) (EvB.cons (gV 43 O) O O O (EvB.cons (gV 44 O) O O O (EvB.cons (gV 45 O) O O O EvB.nil))) (JY _ _ _ _ _ _ _ _) ⟨O,⟨O,⟨O,⟨O,Zt⟩⟩⟩⟩ ⟨O,QR _ _,QL _ _,QI _ _,Zt⟩ (JY _ _ _ _ _ _ _ _) O O O O O nU,tW (z51 3 5 6 7 14 15 16 22 23 24) [(300,.var _),(301,m6 j1 C7 _),(302,m6 j1 w9 _),(303,m6 w7 w9 _),(11,.var _),(7,.var _),(5,.var _),(3,.var _)] 50 O ?_⟩);refine V.of λC hC hD=>?_;refine Y2 [3,5,7,300,301,302,303] (bx':=[(300,.var _),(301,m6 j1 C7 _),(302,m6 j1 w9 _),(303,m6 w7 w9 _),(7,.var _),(5,.var _),(3,.var _)]) O O ⟨O,⟨Z6 (λ_=>rfl) (λ_=>rfl),⟨Z6 (λ_=>rfl) (λ_=>rfl),⟨Z6 (λ_=>rfl) (λ_=>rfl),⟨O,⟨O,⟨O,Zt⟩⟩⟩⟩⟩⟩⟩ (o8 hD O) ?_;refine q35 (bx':=[(7,.var _),(300,.var _),(303,m6 w7 w9 _),(302,m6 j1 w9 _),(301,m6 j1 C7 _),(5,.var _),(3,.var _)]) ⟨O,O,O,O,O,O,O,Zt⟩ O ?_;refine n4 2 (y2 47 24) (z51 3 5 6 7 14 15 16 22 23 24) ⟨P1 1 O,zV O,Zt⟩ ?_;exact⟨⟨(i+1),bU⟩,(by first|(dsimp only;rw[z88 hno]<;>rfl)|(dsimp only;rw[z87 hyes,<- w3]<;>rfl)),(by simp only[];omega)⟩
  ·obtain rfl:i=l[h]!.txs.length:=by omega
   refine W.exit ?_;refine V.of λC hC hD=>?_;refine E9 (V6 3 5 6 14 15 16) [(7,.var _),(300,.var _),(303,m6 w7 w9 _),(302,m6 j1 w9 _),(301,m6 j1 C7 _),(5,.var _),(3,.var _)] 50 O ?_;refine Y2 [3,5,300,301,302,303] (bx':=[(300,.var _),(303,m6 w7 w9 _),(302,m6 j1 w9 _),(301,m6 j1 C7 _),(5,.var _),(3,.var _)]) O O ⟨O,⟨Z6 (λ_=>rfl) (λ_=>rfl),⟨Z6 (λ_=>rfl) (λ_=>rfl),⟨Z6 (λ_=>rfl) (λ_=>rfl),⟨O,⟨O,Zt⟩⟩⟩⟩⟩⟩ (o8 hD O) ?_;refine n4 2 (y2 48 16) (V6 3 5 6 14 15 16) ⟨P1 1 O,zV O,Zt⟩ ?_;exact⟨⟨(h+1),bU⟩,rfl,(by simp only[];omega)⟩
 ·obtain rfl:h=l.length:=by omega
  refine W.exit ?_;refine V.of λC hC hD=>?_;refine n5 2 (y1 49) (V1 49) ⟨λ_ B H K=>R.ldO (K 5 _ O) (B 5 _ O) O H,Zt⟩ O (⟨O,_,q40 (gU 49 O) (xU 5 O) O O O O (gU 49 O) nU dU,tW (V1 4) [(300,.var _),(303,m6 w7 w9 _),(302,m6 j1 w9 _),(301,m6 j1 C7 _),(5,.var _),(3,.var _)] 50 O ?_⟩);exact W.ret (Eo O)
end


section
open Go.Proofs
theorem z36(ps:List PlS)(hps:k89 ps):Fn Tryz.prog gl 14 [.agg [.u32 545259519,.int 10,.u32 10,.nils,M5 JZ],.sl none 3 (ps.map SS)] (.sl none 69 ((BJ ps).map J7)):=by
 refine Fo 41 Tryz.func14 O λC hC hD=>?_;refine n5 2 [] (V2 0 1) Zt O (⟨O,_,R.box (gV 0 O) O O nU,⟨O,_,J9 (kN O) O nU,tW (V2 1 2) (B2 2) 41 O ?_⟩⟩);refine P4 5 (y5 9 10 11 12 5) [(4,12)] [(4,12)] (V3 1 2 5) ⟨aU (xF O),aU (xL O),aU λ_ _ H K=>P5 (l:=[.agg [.u32 0,.arr 32 1 ((List.replicate 32 0).map D.u8),.arr 32 1 ((List.replicate 32 0).map D.u8),.u32 0,.u32 0,.u32 0],.nils]) (l':=[_,_]) (.cons (eU K 10 O) (.nil O)) ⟨⟨_,(eU K 10 O),O,O,O⟩,Zt⟩ H,aU λ_ _ H K=>J3 (z:=69) (.cons (eU K 11 O) .nil) ⟨⟨O,O,O⟩,Zt⟩ O H dU,aU<|zO O,Zt⟩ O (tU O ?_);refine W.seq (W.seq ?_);refine v93 (s:=5) (d':=.sl (some 78) 69 ([(⟨JZ,[]⟩:BlkS)].map J7)) O O O (k16 _) ?_;refine n4 1 (y1 6) (V4 1 2 5 6) ⟨O3 0 O,Zt⟩ ?_;refine W.block ?_;refine P2 (min ps.length 14) (λi=>⟨41,[(1,.sl none 3 (ps.map SS)),(2,.ptr 2 0 []),(5,.sl (some 78) 69 ((f9 ps i).map J7)),(6,.int ((i:Nat):Int))],[(2,.var (.agg [.u32 545259519,.int 10,.u32 10,.nils,M5 JZ]))]⟩) O λi hi=>?_;have hbl:=ML ps i (by omega);refine W.seq (W.seq ?_);by_cases h4:i<ps.length
 ·refine N0 8 (y8 13 14 15 16 17 18 19 20) (V5 1 2 5 6 20) ⟨xM O,xM O,aU<|P8 O,aU<|zS O,xM O,aT O (dT h4)<|zV O,aT O (dT h4)<|GV 14 O,aU<|zT O (dT h4),Zt⟩ ?_;refine g7 O (λhc20=>?_) (λhc20=>?_)
  ·refine W.skip (W.seq (W.block (W.seq ?_)));refine QE (m:=14) (an:=[0,0,0,0,12,28,0,64,255,511,1023,1023,0,6143,16383]) (its:=[.y 24 _,.y 25 _,.y 26 _,.y 27 _,.y 28 _,.y 29 _,.y 30 _,.y 31 _,.y 32 _,.y 23 _,.y 33 _,.y 34 _,.y 7 _,⟨54,.dead,true⟩]) (ks:=[(13,54)]) (kk:=[]) (efs:=[(12,(B2 7)),(13,(B2 7))]) (live:=[1,2,5,6,7,34]) (env':=(V6 1 2 5 6 7 34)) (nd:=40) (bx1:=(B7 7 2)) hP dU O ⟨⟨61,O⟩,nU O,O,O,O,O⟩ (          ⟨⟨O,nU O,O,λ_ τ hb ht hτ=>R.ldP (hτ 2 _ O) (hb 2 _ O) O O O O ht⟩,⟨⟨O,nU O,O,λ_ τ hb ht hτ=>R.al (hτ 5 _ O) ht dU⟩,⟨⟨O,nU O,O,λ_ τ hb ht hτ=>R.mov (evt (hτ 1 _ O)) O ht⟩,⟨⟨O,nU O,O,λ_ τ hb ht hτ=>R.mov (evt (hτ 6 _ O)) O ht⟩,⟨⟨O,nU O,O,λ_ τ hb ht hτ=>R.idxN (i) (SC.sl (hτ 26 _ O)) (C4 (evt (hτ 27 _ O))) O bU ht dU⟩,⟨⟨O,nU O,O,λ_ τ hb ht hτ=>R.ldE (hτ 28 _ O) (SC.sl (hτ 26 _ O)) (mG ps) O O O O ht⟩,⟨⟨O,nU O,O,λ_ τ hb ht hτ=>R.mov (evt (hτ 6 _ O)) O ht⟩,⟨⟨O,nU O,O,λ_ τ hb ht hτ=>W5 (d:=.u32 (UInt32.ofNat i)) (evt (hτ 30 _ O)) O (k21 _) ht⟩,⟨⟨O,nU O,O,λ_ τ hb ht hτ=>R.callZ (r':=.tup [J7 (ZL (f9 ps i) ps[i]! (UInt32.ofNat i)).1,.bool (ZL (f9 ps i) ps[i]! (UInt32.ofNat i)).2]) (TC (f9 ps i) ps[i]! (UInt32.ofNat i) hbl.1 hbl.2.1 bO (hps _ (X0 h4))) hC (Bc (Bp (evt (hτ 24 _ O)) O O) (Bc (Bor.sc (SC.al (hτ 25 _ O) (hτ 5 _ O)) (J6 ZS)) (Bc (Bp (evt (hτ 29 _ O)) O O) (Bc (Bp (evt (hτ 31 _ O)) O O) Bn)))) (z19 _ _) (z33 _ _) ht⟩,⟨⟨O,nU O,O,λ_ τ hb ht hτ=>R.movT (hτ 32 _ O) O ht⟩,⟨⟨O,nU O,O,λ_ τ hb ht hτ=>R.ext (hτ 23 _ O) O O ht⟩,⟨⟨O,nU O,O,λ_ τ hb ht hτ=>R.ext (hτ 23 _ O) O O ht⟩,⟨⟨O,O,⟨O,nU O⟩,(SpE.alloc O nU)⟩,⟨⟨O,O,O,(YK (p:=7) (id:=7) O O O (λτ hτ=>(evt (hτ 33 _ O))) (by rfl) (by rfl) (by rfl) (by rfl) O)⟩,Zt⟩⟩⟩⟩⟩⟩⟩⟩⟩⟩⟩⟩⟩⟩) O O O (n':=41) O (GK O ⟨[1,2,5,6,7,8],(V6 1 2 5 6 7 8),(B7 7 2),41,O,O,O, ?_⟩);refine u4 1 (y1 35) (V6 1 2 5 6 7 35) ⟨zV O,Zt⟩ ?_;refine W.cond O (λhc35=>?_) (λhc35=>?_)
   ·refine UZ 5 (y5 36 37 38 39 5) [(3,5),(4,39),(4,36)] [(3,5),(4,39)] (V4 1 2 5 6) ⟨aU<|zM O,aU (xL O),aU λ_ _ H K=>J3 (z:=69) (.cons (eU K 37 O) .nil) ⟨⟨O,O,O⟩,Zt⟩ O H dU,aU<|YC O (G5 O) (show _=((f9 ps (i+1)).map J7) from(z37 hc35)) (by simp only[z6,j2,j3];omega),aU<|zO O,Zt⟩ O (tU O ?_);refine H6 [2] (bx':=(B2 2)) O O O (o8 hD O) ?_;refine n4 3 (y3 21 22 6) (V4 1 2 5 6) ⟨zV O,P1 1 O,zA O,Zt⟩ ?_;exact⟨bU,(by first|(rw[q29 hc35]<;>rfl)|rfl)⟩
   ·refine W.skip ?_;refine E9 (V4 1 2 5 6) (B7 7 2) 41 O ?_;refine H6 [2] (bx':=(B2 2)) O O O (o8 hD O) ?_;refine n4 3 (y3 21 22 6) (V4 1 2 5 6) ⟨zV O,P1 1 O,zA O,Zt⟩ ?_;exact⟨bU,(by first|(rw[q29 hc35]<;>rfl)|rfl)⟩
  ·obtain rfl:i=min ps.length 14:=by omega
   refine W.exit (P4 2 (y2 40 4) [(0,5),(1,40)] [(0,5),(1,40)] (V1 4) ⟨aU λ_ _ H K=>ZX (K 5 _ O) O H dU,aU<|zO O,Zt⟩ O (tU O ?_));refine CB (s:=4) (d':=.sl none 69 ((BJ ps).map J7)) O O (z34 _ _ _) ?_;exact W.ret (Eo O)
 ·refine N0 8 [.y 13 _,.y 14 _,.y 15 _,.y 16 _,.y 17 _,.x 18,.x 19,.y 20 _] (V5 1 2 5 6 20) ⟨xM O,xM O,aU<|P8 O,aU<|zS O,xM O,O5 O (dF h4),O5 O (dF h4),aU<|FQ O (dF h4) (kB false O),Zt⟩ ?_;refine Y7 O (O) ?_
  obtain rfl:i=min ps.length 14:=by omega
  refine W.exit (P4 2 (y2 40 4) [(0,5),(1,40)] [(0,5),(1,40)] (V1 4) ⟨aU λ_ _ H K=>ZX (K 5 _ O) O H dU,aU<|zO O,Zt⟩ O (tU O ?_));refine CB (s:=4) (d':=.sl none 69 ((BJ ps).map J7)) O O (z34 _ _ _) ?_;exact W.ret (Eo O)
end
section
open Go.Proofs
end
section
open Go.Proofs
end
section
open Go.Proofs
end
section
open Go.Proofs
end
section
open Go.Proofs
end
section
open Go.Proofs
end
section
open Go.Proofs
end
section
open Go.Proofs
end
section
open Go.Proofs
end
section
open Go.Proofs
end
section
open Go.Proofs
end
section
open Go.Proofs
end
section
open Go.Proofs
theorem x27(a b:List k14)(ha:a.length<=1000000000)(hb0:b.length<=1000000000):Fn Tryz.prog gl 19 [.sl none 33 (a.map NK),.sl none 33 (b.map NK)] (.bool (a==b)):=by
 refine Fo 26 Tryz.func19 O λC hC hD=>?_;refine u4 1 (y1 4) (V2 0 1) ⟨i6 O,Zt⟩ ?_;refine W.seq (u4 5 (y5 6 7 8 9 10) (V3 0 1 10) ⟨zV O,P8 O,zV O,P8 O,g84 O,Zt⟩ ?_);refine g7 O (λhc10=>?_) (λhc10=>?_)
 ·refine u4 1 (y1 4) (V1 4) ⟨i6 O,Zt⟩ ?_;exact W.ret (En O (by rw[TU hc10]))
 ·refine W.skip (W.seq (u4 1 (y1 5) (V3 0 1 5) ⟨O3 0 O,Zt⟩ ?_));refine W.block ?_;refine UK a.length (λq__=>∀ q<q__,a[q]! = b[q]!) (λi=>⟨26,[(0,.sl none 33 (a.map NK)),(1,.sl none 33 (b.map NK)),(5,.int ((i:Nat):Int))],[]⟩) ⟨v6 _,λq hq=>absurd hq (g9 _)⟩ O λi hinv=>?_;obtain⟨hi,hno⟩:=hinv;have hi:i<=a.length:=hi;have hno:∀ q<i,a[q]! = b[q]!:=hno
  have hlen:a.length=b.length:=by omega
  refine W.seq (u4 4 (y4 11 12 13 14) (V4 0 1 5 14) ⟨zV O,zV O,P8 O,zS O,Zt⟩ ?_);refine g7 O (λhc14=>?_) (λhc14=>?_)
  ·refine W.skip (W.seq (W.block (W.seq ?_)));refine R5 9 [0,0,3,7,0,0,48,112,255] hP dU (y9 17 18 19 20 21 22 23 24 25) (V4 0 1 5 25) ⟨zV O,zV O,zI i O,zL O (mG a),zV O,zV O,zI i O,zL O (mG b),λ_ _ H K=>R.eqD (neg:=true) (b':=(!(a[i]! == b[i]!))) (v31 _ _) O (eU K 20 O) (eU K 24 O) O O O O (O) H,Zt⟩ O (tW (V4 0 1 5 25) [] 26 O ?_);refine W.cond O (λhc25=>?_) (λhc25=>?_)
   ·refine u4 1 (y1 4) (V1 4) ⟨i6 O,Zt⟩ ?_;exact W.ret (En O (by rw[q98 hc14 hlen (k45 hc25)]))
   ·refine W.skip ?_;refine n4 3 (y3 15 16 5) (V3 0 1 5) ⟨zV O,P1 1 O,zA O,Zt⟩ ?_;exact⟨⟨(by show i+1<=a.length;omega),λq hq=>(u7.1 hq).elim (hno q) (λe=>e▸d5.1 (q95 hc25))⟩,rfl⟩
  ·obtain rfl:i=a.length:=by omega
   refine W.exit (u4 1 (y1 4) (V1 4) ⟨i6 O,Zt⟩ ?_);exact W.ret (En O (by rw[q99 hlen hno]))
theorem x26(a b:List LV)(ha:a.length<=1000000000)(hb0:b.length<=1000000000):Fn Tryz.prog gl 22 [.sl none 35 (a.map KK),.sl none 35 (b.map KK)] (.bool (a==b)):=by
 refine Fo 26 Tryz.func22 O λC hC hD=>?_;refine u4 1 (y1 4) (V2 0 1) ⟨i6 O,Zt⟩ ?_;refine W.seq (u4 5 (y5 6 7 8 9 10) (V3 0 1 10) ⟨zV O,P8 O,zV O,P8 O,g84 O,Zt⟩ ?_);refine g7 O (λhc10=>?_) (λhc10=>?_)
 ·refine u4 1 (y1 4) (V1 4) ⟨i6 O,Zt⟩ ?_;exact W.ret (En O (by rw[TU hc10]))
 ·refine W.skip (W.seq (u4 1 (y1 5) (V3 0 1 5) ⟨O3 0 O,Zt⟩ ?_));refine W.block ?_;refine UK a.length (λq__=>∀ q<q__,a[q]! = b[q]!) (λi=>⟨26,[(0,.sl none 35 (a.map KK)),(1,.sl none 35 (b.map KK)),(5,.int ((i:Nat):Int))],[]⟩) ⟨v6 _,λq hq=>absurd hq (g9 _)⟩ O λi hinv=>?_;obtain⟨hi,hno⟩:=hinv;have hi:i<=a.length:=hi;have hno:∀ q<i,a[q]! = b[q]!:=hno
  have hlen:a.length=b.length:=by omega
  refine W.seq (u4 4 (y4 11 12 13 14) (V4 0 1 5 14) ⟨zV O,zV O,P8 O,zS O,Zt⟩ ?_);refine g7 O (λhc14=>?_) (λhc14=>?_)
  ·refine W.skip (W.seq (W.block (W.seq ?_)));refine R5 9 [0,0,3,7,0,0,48,112,255] hP dU (y9 17 18 19 20 21 22 23 24 25) (V4 0 1 5 25) ⟨zV O,zV O,zI i O,zL O (mG a),zV O,zV O,zI i O,zL O (mG b),λ_ _ H K=>R.eqD (neg:=true) (b':=(!(a[i]! == b[i]!))) (v30 _ _) O (eU K 20 O) (eU K 24 O) O O O O (O) H,Zt⟩ O (tW (V4 0 1 5 25) [] 26 O ?_);refine W.cond O (λhc25=>?_) (λhc25=>?_)
   ·refine u4 1 (y1 4) (V1 4) ⟨i6 O,Zt⟩ ?_;exact W.ret (En O (by rw[q98 hc14 hlen (k45 hc25)]))
   ·refine W.skip ?_;refine n4 3 (y3 15 16 5) (V3 0 1 5) ⟨zV O,P1 1 O,zA O,Zt⟩ ?_;exact⟨⟨(by show i+1<=a.length;omega),λq hq=>(u7.1 hq).elim (hno q) (λe=>e▸d5.1 (q95 hc25))⟩,rfl⟩
  ·obtain rfl:i=a.length:=by omega
   refine W.exit (u4 1 (y1 4) (V1 4) ⟨i6 O,Zt⟩ ?_);exact W.ret (En O (by rw[q99 hlen hno]))
end
section
open Go.Proofs
end
section
open Go.Proofs
theorem q27(ps:List PlS)(hps:k89 ps):Fn Tryz.prog gl 14 [.agg [.u32 545259519,.int 10,.u32 10,.nils,M5 JZ],.sl none 3 (ps.map SS)] (.sl (some 78) 69 ((BJ ps).map J7)):=by
 refine Fo 41 Tryz.func14 O λC hC hD=>?_;refine n5 2 [] (V2 0 1) Zt O (⟨O,_,R.box (gV 0 O) O O nU,⟨O,_,J9 (kN O) O nU,tW (V2 1 2) (B2 2) 41 O ?_⟩⟩);refine P4 5 (y5 9 10 11 12 5) [(4,12)] [(4,12)] (V3 1 2 5) ⟨aU (xF O),aU (xL O),aU λ_ _ H K=>P5 (l:=[.agg [.u32 0,.arr 32 1 ((List.replicate 32 0).map D.u8),.arr 32 1 ((List.replicate 32 0).map D.u8),.u32 0,.u32 0,.u32 0],.nils]) (l':=[_,_]) (.cons (eU K 10 O) (.nil O)) ⟨⟨_,(eU K 10 O),O,O,O⟩,Zt⟩ H,aU λ_ _ H K=>J3 (z:=69) (.cons (eU K 11 O) .nil) ⟨⟨O,O,O⟩,Zt⟩ O H dU,aU<|zO O,Zt⟩ O (tU O ?_);refine W.seq (W.seq ?_);refine v93 (s:=5) (d':=.sl (some 78) 69 ([(⟨JZ,[]⟩:BlkS)].map J7)) O O O (k16 _) ?_;refine n4 1 (y1 6) (V4 1 2 5 6) ⟨O3 0 O,Zt⟩ ?_;refine W.block ?_;refine P2 (min ps.length 14) (λi=>⟨41,[(1,.sl none 3 (ps.map SS)),(2,.ptr 2 0 []),(5,.sl (some 78) 69 ((f9 ps i).map J7)),(6,.int ((i:Nat):Int))],[(2,.var (.agg [.u32 545259519,.int 10,.u32 10,.nils,M5 JZ]))]⟩) O λi hi=>?_;have hbl:=ML ps i (by omega);refine W.seq (W.seq ?_);by_cases h4:i<ps.length
 ·refine N0 8 (y8 13 14 15 16 17 18 19 20) (V5 1 2 5 6 20) ⟨xM O,xM O,aU<|P8 O,aU<|zS O,xM O,aT O (dT h4)<|zV O,aT O (dT h4)<|GV 14 O,aU<|zT O (dT h4),Zt⟩ ?_;refine g7 O (λhc20=>?_) (λhc20=>?_)
  ·refine W.skip (W.seq (W.block (W.seq ?_)));refine QE (m:=14) (an:=[0,0,0,0,12,28,0,64,255,511,1023,1023,0,6143,16383]) (its:=[.y 24 _,.y 25 _,.y 26 _,.y 27 _,.y 28 _,.y 29 _,.y 30 _,.y 31 _,.y 32 _,.y 23 _,.y 33 _,.y 34 _,.y 7 _,⟨54,.dead,true⟩]) (ks:=[(13,54)]) (kk:=[]) (efs:=[(12,(B2 7)),(13,(B2 7))]) (live:=[1,2,5,6,7,34]) (env':=(V6 1 2 5 6 7 34)) (nd:=40) (bx1:=(B7 7 2)) hP dU O ⟨⟨61,O⟩,nU O,O,O,O,O⟩ (          ⟨⟨O,nU O,O,λ_ τ hb ht hτ=>R.ldP (hτ 2 _ O) (hb 2 _ O) O O O O ht⟩,⟨⟨O,nU O,O,λ_ τ hb ht hτ=>R.al (hτ 5 _ O) ht dU⟩,⟨⟨O,nU O,O,λ_ τ hb ht hτ=>R.mov (evt (hτ 1 _ O)) O ht⟩,⟨⟨O,nU O,O,λ_ τ hb ht hτ=>R.mov (evt (hτ 6 _ O)) O ht⟩,⟨⟨O,nU O,O,λ_ τ hb ht hτ=>R.idxN (i) (SC.sl (hτ 26 _ O)) (C4 (evt (hτ 27 _ O))) O bU ht dU⟩,⟨⟨O,nU O,O,λ_ τ hb ht hτ=>R.ldE (hτ 28 _ O) (SC.sl (hτ 26 _ O)) (mG ps) O O O O ht⟩,⟨⟨O,nU O,O,λ_ τ hb ht hτ=>R.mov (evt (hτ 6 _ O)) O ht⟩,⟨⟨O,nU O,O,λ_ τ hb ht hτ=>W5 (d:=.u32 (UInt32.ofNat i)) (evt (hτ 30 _ O)) O (k21 _) ht⟩,⟨⟨O,nU O,O,λ_ τ hb ht hτ=>R.callZ (r':=.tup [J7 (ZL (f9 ps i) ps[i]! (UInt32.ofNat i)).1,.bool (ZL (f9 ps i) ps[i]! (UInt32.ofNat i)).2]) (TC (f9 ps i) ps[i]! (UInt32.ofNat i) hbl.1 hbl.2.1 bO (hps _ (X0 h4))) hC (Bc (Bp (evt (hτ 24 _ O)) O O) (Bc (Bor.sc (SC.al (hτ 25 _ O) (hτ 5 _ O)) (J6 ZS)) (Bc (Bp (evt (hτ 29 _ O)) O O) (Bc (Bp (evt (hτ 31 _ O)) O O) Bn)))) (z19 _ _) (z33 _ _) ht⟩,⟨⟨O,nU O,O,λ_ τ hb ht hτ=>R.movT (hτ 32 _ O) O ht⟩,⟨⟨O,nU O,O,λ_ τ hb ht hτ=>R.ext (hτ 23 _ O) O O ht⟩,⟨⟨O,nU O,O,λ_ τ hb ht hτ=>R.ext (hτ 23 _ O) O O ht⟩,⟨⟨O,O,⟨O,nU O⟩,(SpE.alloc O nU)⟩,⟨⟨O,O,O,(YK (p:=7) (id:=7) O O O (λτ hτ=>(evt (hτ 33 _ O))) (by rfl) (by rfl) (by rfl) (by rfl) O)⟩,Zt⟩⟩⟩⟩⟩⟩⟩⟩⟩⟩⟩⟩⟩⟩) O O O (n':=41) O (GK O ⟨[1,2,5,6,7,8],(V6 1 2 5 6 7 8),(B7 7 2),41,O,O,O, ?_⟩);refine u4 1 (y1 35) (V6 1 2 5 6 7 35) ⟨zV O,Zt⟩ ?_;refine W.cond O (λhc35=>?_) (λhc35=>?_)
   ·refine UZ 5 (y5 36 37 38 39 5) [(3,5),(4,39),(4,36)] [(3,5),(4,39)] (V4 1 2 5 6) ⟨aU<|zM O,aU (xL O),aU λ_ _ H K=>J3 (z:=69) (.cons (eU K 37 O) .nil) ⟨⟨O,O,O⟩,Zt⟩ O H dU,aU<|YC O (G5 O) (show _=((f9 ps (i+1)).map J7) from(z37 hc35)) (by simp only[z6,j2,j3];omega),aU<|zO O,Zt⟩ O (tU O ?_);refine H6 [2] (bx':=(B2 2)) O O O (o8 hD O) ?_;refine n4 3 (y3 21 22 6) (V4 1 2 5 6) ⟨zV O,P1 1 O,zA O,Zt⟩ ?_;exact⟨bU,(by first|(rw[q29 hc35]<;>rfl)|rfl)⟩
   ·refine W.skip ?_;refine E9 (V4 1 2 5 6) (B7 7 2) 41 O ?_;refine H6 [2] (bx':=(B2 2)) O O O (o8 hD O) ?_;refine n4 3 (y3 21 22 6) (V4 1 2 5 6) ⟨zV O,P1 1 O,zA O,Zt⟩ ?_;exact⟨bU,(by first|(rw[q29 hc35]<;>rfl)|rfl)⟩
  ·obtain rfl:i=min ps.length 14:=by omega
   refine W.exit (P4 2 (y2 40 4) [(0,5),(1,40)] [(0,5),(1,40)] (V1 4) ⟨aU λ_ _ H K=>ZX (K 5 _ O) O H dU,aU<|zO O,Zt⟩ O (tU O ?_));exact W.ret (Eo O)
 ·refine N0 8 [.y 13 _,.y 14 _,.y 15 _,.y 16 _,.y 17 _,.x 18,.x 19,.y 20 _] (V5 1 2 5 6 20) ⟨xM O,xM O,aU<|P8 O,aU<|zS O,xM O,O5 O (dF h4),O5 O (dF h4),aU<|FQ O (dF h4) (kB false O),Zt⟩ ?_;refine Y7 O (O) ?_
  obtain rfl:i=min ps.length 14:=by omega
  refine W.exit (P4 2 (y2 40 4) [(0,5),(1,40)] [(0,5),(1,40)] (V1 4) ⟨aU λ_ _ H K=>ZX (K 5 _ O) O H dU,aU<|zO O,Zt⟩ O (tU O ?_));exact W.ret (Eo O)
set_option maxHeartbeats 1000000 in
theorem VH:Fn Tryz.prog gl 12 [] (.bool true):=by
 refine Fo 96 Tryz.func12 O λC hC hD=>?_;refine u4 1 (y1 0) [] ⟨i6 O,Zt⟩ ?_;refine n5 3 (y1 9) (V1 9) ⟨λ_ _ H _=>l7 hC (k67) (EvP.cons (kI 10 O) O O (EvP.cons (kW (.int .u32 10) (.u32 10) O) O O EvP.nil)) H,Zt⟩ O (I9 O (M9 O (tW (V1 1) (B2 1) 96 O ?_)));refine P4 9 (y9 10 11 12 13 14 15 16 17 2) [(3,12),(4,13),(5,14),(6,15),(8,17)] [(3,12),(4,13),(5,14),(6,15),(8,17)] (V1 2) ⟨aU (xL O),aU λ_ _ H _=>P5 (l:=[.u8 0,.nils,.u8 0]) (l':=[_,_,_]) (.cons (kW (.int .u8 1) (.u8 1) O) (.nil O)) ⟨⟨_,(kW (.int .u8 1) (.u8 1) O),O,O,O⟩,Zt⟩ H,aU λ_ _ H _=>J3 (z:=1) (.cons (kW (.int .u8 1) (.u8 1) O) (.cons (kW (.int .u8 3) (.u8 3) O) .nil)) ⟨⟨O,O,O⟩,⟨O,O,O⟩,Zt⟩ O H dU,aU λ_ _ H K=>R.bldO (l:=[.u8 0,.bool false,.nils,.u8 0,.u8 0]) (l':=[_,_,_,_,_]) (.own (K 12 _ O) O O O O (.nil O)) O H,aU λ_ _ H K=>R.bslO (z:=5) (.own (K 13 _ O) O O O O .nil) O O H dU,aU λ_ _ H K=>R.bldO (l:=[.u8 0,.nils,.u8 0]) (l':=[_,_,_]) (.pur (kW (.int .u8 2) (.u8 2) O) O O O (.own (K 14 _ O) O O O O (.nil O))) O H,aU λ_ _ H K=>u44 (r':=.sl none 3 (lqPs.map SS)) (R.wkT (r':=.sl (some 70) 3 (lqPs.map q83)) (R.bslO (z:=3) (.pur (eU K 11 O) O O O (.own (K 15 _ O) O O O O .nil)) O O H dU) O O (w15)) O (j59 _),aU λ_ _ H K=>l7 hC (g55 (q27 lqPs v02)) (EvP.cons (eU K 10 O) O O (EvP.cons (eU K 16 O) O O EvP.nil)) H,aU<|zO O,Zt⟩ O (tU O ?_);refine W.seq (u4 3 (y3 18 19 20) (V2 2 20) ⟨zM O,u47 O (lN _),v95 3 O,Zt⟩ ?_);refine Y7 O (dF (λh=>h O)) ?_;refine W.skip (u4 7 (y7 22 23 21 24 25 3 4) (V2 2 4) ⟨zM O,λ_ _ H K=>Z7 hC (NE lqL WF) (Bc (Bor.sc (SC.al (K 22 _ O) (K 2 _ O)) (J6 ZS)) Bn) (FrsR.two (.int _) (.int _)) H,zY O,zX O,zX O,zA O,zA O,Zt⟩ ?_);refine P4 4 (y4 26 27 28 5) [(3,28)] [(3,28)] (V3 2 4 5) ⟨aU<|zM O,aU λ_ _ H _=>Z7 hC (PH 1) (Bc (Bp (kW (.int .u8 1) (.u8 1) O) O O) Bn) (F1 (X6 _)) H,aU λ_ _ H K=>Z7 hC (z00 lqL WF (GU 1)) (Bc (Bor.sc (SC.al (K 26 _ O) (K 2 _ O)) (J6 ZS)) (Bc (Bp (eU K 27 O) O O) Bn)) (q14 _ _ _) H,aU<|zO O,Zt⟩ O (tU O ?_);refine P4 4 (y4 29 30 31 6) [(3,31)] [(3,31)] (V4 2 4 5 6) ⟨aU<|zM O,aU λ_ _ H _=>Z7 hC (PH 1) (Bc (Bp (kW (.int .u8 1) (.u8 1) O) O O) Bn) (F1 (X6 _)) H,aU λ_ _ H K=>Z7 hC (WE lqL WF (GU 1)) (Bc (Bor.sc (SC.al (K 29 _ O) (K 2 _ O)) (J6 ZS)) (Bc (Bp (eU K 30 O) O O) Bn)) (MH _ _ _) H,aU<|zO O,Zt⟩ O (tU O ?_);refine W.seq ?_;have hll:lqL.length=3:=rfl;refine L8 6 (y5 32 33 34 35 36) (V7 2 4 5 6 32 33 36) ⟨zM O,λ_ _ H _=>R.bldAZ O H,λ_ _ H K=>R.idxN (2) (SC.al (K 32 _ O) (K 2 _ O)) (C4 (kI 2 O)) O bU H dU,r7 O,r7 O,Zt⟩ O (⟨O,_,XS (gU 36 O) (Or.inr (gU 32 O)) (gU 2 O) (mG lqL) O (gV 33 O) (by rfl) (by rfl) (by rfl) (by rfl) O (y62),tW (V4 2 4 5 6) (B2 1) 96 O ?_⟩);refine u4 7 (y7 38 39 37 40 41 7 8) (V6 2 4 5 6 7 8) ⟨zM O,λ_ _ H K=>Z7 hC (NE lqM w16) (Bc (Bor.sc (SC.al (K 38 _ O) (K 2 _ O)) (J6 ZS)) Bn) (FrsR.two (.int _) (.int _)) H,zY O,zX O,zX O,zA O,zA O,Zt⟩ ?_;refine W.seq ?_
 have hhl:(BY lqL (GU 1)).length=2:=by rw[IA];rfl
 have hul:(YR lqL (GU 1)).length=1:=by rw[AG];rfl
 refine N0 55 (.y 42 _::.y 43 _::.y 44 _::.y 45 _::.y 46 _::.y 47 _::.y 48 _::.y 49 _::.y 50 _::.y 51 _::.y 52 _::.y 53 _::.y 54 _::.y 55 _::.y 56 _::.y 57 _::.y 58 _::.y 59 _::.y 60 _::.y 61 _::.y 62 _::.y 63 _::.y 64 _::.y 65 _::.y 66 _::.y 67 _::.y 68 _::.y 69 _::.y 70 _::.y 71 _::.y 72 _::.y 73 _::.y 74 _::.y 75 _::.y 76 _::.y 77 _::.y 78 _::.y 79 _::.y 80 _::.y 81 _::.y 82 _::.y 83 _::.y 84 _::.y 85 _::.y 86 _::.y 87 _::.y 88 _::.y 89 _::.y 90 _::.y 91 _::.y 92 _::.y 93 _::.y 94 _::.y 95 _::.y 0 _::[]) (V1 0) ⟨xM O,aU<|ZP O (kI 0 O),xM O,aT O (by rw[k51];rfl)<|zM O,aT O (by rw[k51];rfl)<|u47 O (lN _),aT O (by rw[k51];rfl)<|GZ 2 O,aU<|zT O (by rw[k51];rfl),xM O,aT O (dT hhl)<|zM O,aT O (dT hhl) λ_ _ H K=>R.idxN (0) (SC.al (K 50 _ O) (K 5 _ O)) (C4 (kI 0 O)) O bU H dU,aT O (dT hhl)<|r7 O,aT O (dT hhl)<|XA O (mG (BY lqL (GU 1))),aT O (dT hhl)<|ZP O (kI 1 O),aU<|zT O (dT hhl),xM O,aT O (by rw[IA];rfl)<|zM O,aT O (by rw[IA];rfl) λ_ _ H K=>R.idxN (1) (SC.al (K 57 _ O) (K 5 _ O)) (C4 (kI 1 O)) O bU H dU,aT O (by rw[IA];rfl)<|r7 O,aT O (by rw[IA];rfl)<|XA O (mG (BY lqL (GU 1))),aT O (by rw[IA];rfl)<|ZP O (kI 2 O),aU<|zT O (by rw[IA];rfl),xM O,aT O (by rw[IA];rfl)<|zM O,aT O (by rw[IA];rfl)<|u47 O (lN _),aT O (by rw[IA];rfl)<|GZ 1 O,aU<|zT O (by rw[IA];rfl),xM O,aT O (dT hul)<|zM O,aT O (dT hul) λ_ _ H K=>R.idxN (0) (SC.al (K 69 _ O) (K 6 _ O)) (C4 (kI 0 O)) O bU H dU,aT O (dT hul)<|r7 O,aT O (dT hul)<|XA O (mG (YR lqL (GU 1))),aT O (dT hul)<|ZP O (kI 2 O),aU<|zT O (dT hul),xM O,aT O (by rw[AG];rfl)<|zM O,aT O (by rw[AG];rfl) λ_ _ H K=>R.idxN (0) (SC.al (K 76 _ O) (K 6 _ O)) (C4 (kI 0 O)) O bU H dU,aT O (by rw[AG];rfl)<|r7 O,aT O (by rw[AG];rfl)<|XA O (mG (YR lqL (GU 1))),aT O (by rw[AG];rfl)<|ZP O (kW (.int .u64 2500) (.u64 2500) O),aU<|zT O (by rw[AG];rfl),xM O,aT O (by rw[AG];rfl)<|zM O,aT O (by rw[AG];rfl) λ_ _ H _=>Z7 hC (PH 3) (Bc (Bp (kW (.int .u8 3) (.u8 3) O) O O) Bn) (F1 (X6 _)) H,aT O (by rw[AG];rfl) λ_ _ H K=>Z7 hC (k54 lqM w16 (GU 3)) (Bc (Bor.sc (SC.al (K 83 _ O) (K 2 _ O)) (J6 ZS)) (Bc (Bp (eU K 84 O) O O) Bn)) (F1 (.u64 _)) H,aT O (by rw[AG];rfl)<|ZP O (kW (.int .u64 2500) (.u64 2500) O),aU<|zT O (by rw[AG];rfl),xM O,aT O (by rw[y63];rfl)<|zV O,aT O (by rw[y63];rfl)<|ZP O (kI 2 O),aU<|zT O (by rw[y63];rfl),xM O,aT O (by rw[k50];rfl)<|zV O,aT O (by rw[k50];rfl)<|ZP O (kI 15 O),aU<|zT O (by rw[k50];rfl),aU<|zA O,Zt⟩ ?_;exact W.ret (En O (by rw[k50]<;>rfl))
end
theorem w68{l:List BlkS}(hl:allBl l)(sc:Hs):(BY l sc).length<=1000000:=by
 have h1:=z16 l hl sc l.length (z5 _);have h2:=hl.1;unfold BY;omega
section
variable{a:List k14}{x:k14}{u:List LV}{v:LV}{n:Nat}
end
def y35(l:List BlkS):Prop:=∀ b∈l,b.hd.wf/\∀ t∈b.txs,∀ x∈t.ins,x.tx.length=32
theorem y80(x:InS){w:Nat}(h:w<n):x.wit[w]!.length<=q45 x n:=by
 have:=z94 x (show w+1<=n by omega);rw[q45] at this;omega
theorem w80(t:TxS)(h:i<=n):w82 t i<=w82 t n:=by
 induction n with
 | zero=>rw[show i=0 by omega];exact z5 _
 | succ n ih=>
  by_cases he:i=n+1
  ·rw[he];exact z5 _
  ·have:=ih (by omega);rw[w82];omega
theorem z21(t:TxS)(h:i<=n):u50 t i<=u50 t n:=by
 induction n with
 | zero=>rw[show i=0 by omega];exact z5 _
 | succ n ih=>
  by_cases he:i=n+1
  ·rw[he];exact z5 _
  ·have:=ih (by omega);rw[u50];omega
theorem w24{l:List InS}(h1:∀ x∈l,x.tx.length=32)(h2:∀ x∈l,x.script.length<=1000)(i:Nat)(hi:i<=l.length):(KG l i).length<=1100*i:=by
 induction i with
 | zero=>exact z5 _
 | succ i ih=>
  have:=ih (by omega);have h3:=h1 _ (X0 (show i<l.length by omega));have h4:=h2 _ (X0 (show i<l.length by omega));have h5:=QP l[i]!.script;simp only[KG,inS,q9,K0];omega
theorem j19{l:List OutS}(h2:∀ x∈l,x.script.length<=1000)(i:Nat)(hi:i<=l.length):(ZC l i).length<=1100*i:=by
 induction i with
 | zero=>exact z5 _
 | succ i ih=>
  have:=ih (by omega);have h4:=h2 _ (X0 (show i<l.length by omega));have h5:=QP l[i]!.script;simp only[ZC,FW,q9,K0];omega
theorem k99{l:List InS}(h1:∀ x∈l,x.wit.length<=1000/\(UP x.wit x.wit.length).length<=11000)(i:Nat)(hi:i<=l.length):(ZO l i).length<=11100*i:=by
 induction i with
 | zero=>exact z5 _
 | succ i ih=>
  have:=ih (by omega);obtain⟨h3,h4⟩:=h1 _ (X0 (show i<l.length by omega));have h5:=I7 l[i]!.wit.length;simp only[ZO,q9];omega
theorem u60(x:InS)(n:Nat):(UP x.wit n).length<=9*n+q45 x n:=by
 induction n with
 | zero=>exact v6 _
 | succ n ih=>
  have h5:=QP x.wit[n]!;rw[UP,q45,q9];omega
theorem fewT.in{t:TxS}(h:fewT t)(hi:i<t.ins.length):t.ins[i]!.script.length<=1000/\t.ins[i]!.wit.length<=1000/\q45 t.ins[i]! t.ins[i]!.wit.length<=1000:=by
 have h1:=w80 t (show i+1<=t.ins.length by omega);have h2:w82 t t.ins.length<=u50 t t.outs.length:=z21 t (v6 _);have h3:=h.2.2;rw[w82] at h1;omega
theorem fewT.out{t:TxS}(h:fewT t)(hi:i<t.outs.length):t.outs[i]!.script.length<=1000:=by
 have h1:=z21 t (show i+1<=t.outs.length by omega);have h3:=h.2.2;rw[u50] at h1;omega
theorem fewT.wf{t:TxS}(h:fewT t)(hh:∀ x∈t.ins,x.tx.length=32):t.wf:=by
 have hin:∀ x∈t.ins,x.script.length<=1000/\x.wit.length<=1000/\q45 x x.wit.length<=1000:=λx hx=>by
  obtain⟨i,hi,rfl⟩:=c9.1 hx;have:=h.in hi
  rwa [b9 t.ins i hi] at this
 have hout:∀ x∈t.outs,x.script.length<=1000:=λx hx=>by
  obtain⟨i,hi,rfl⟩:=c9.1 hx;have:=h.out hi
  rwa [b9 t.outs i hi] at this
 have hw:∀ x∈t.ins,∀ i ≤ x.wit.length,(UP x.wit i).length<=10000:=λx hx i hi=>by
  have h1:=u60 x i;have h2:=z94 x hi;have h3:=hin x hx;omega
 have h8:=h.1;have h9:=h.2.1;refine { ins:=by omega,outs:=by omega,hash:=hh,scr:=λx hx=>?_,oscr:=λx hx=>?_,insb:=λi hi=>?_,outsb:=λi hi=>?_,witsb:=λi hi=>?_,witl:=λx hx=>⟨?_,λi hi=>?_⟩,witi:=λx hx b hb=>?_ }
 ·have:=(hin x hx).1;omega
 ·have:=hout x hx;omega
 ·have:=w24 hh (λx hx=>(hin x hx).1) i hi;omega
 ·have:=j19 hout i hi;omega
 ·have:=k99 (λx hx=>⟨(hin x hx).2.1,by have:=hw x hx _ (z5 _);omega⟩) i hi;omega
 ·have:=(hin x hx).2.1;omega
 ·have:=hw x hx i hi;omega
 ·obtain⟨i,hi,rfl⟩:=c9.1 hb;have h1:=y80 x hi;have h2:=(hin x hx).2.2;rw[b9 x.wit i hi] at h1;omega
theorem y82{l:List BlkS}(h:w85 l)(hr:y35 l):allBl l:=by
 have h1:=h.1;refine⟨by omega,λb hb=>?_⟩;obtain⟨i,hi,rfl⟩:=c9.1 hb;have h2:=h.2 i hi;rw[b9 l i hi] at h2;have h3:=h2.1
 have ht:∀ t∈l[i].txs,fewT t:=λt ht=>by
  obtain⟨k,hk,rfl⟩:=c9.1 ht;have:=h2.2 k hk
  rwa [b9 l[i].txs k hk] at this
 have h4:=hr _ hb;exact⟨h4.1,λt h=>(ht t h).wf (h4.2 t h),λt h=>⟨by have:=(ht t h).1;omega,by have:=(ht t h).2.1;omega⟩,by omega⟩
def h09(l:List BlkS):D:=.sl none 69 (l.map J7)
def k82(a b c:List BlkS):List (List BlkS):=[a,b,c]
theorem z39{a b c:List BlkS}(ha:allBl a)(hb:allBl b)(hc:allBl c):∀ i<3,allBl (k82 a b c)[i]!:=λi hi=>by
 match i,hi with
 | 0,_=>exact ha
 | 1,_=>exact hb
 | 2,_=>exact hc
section
variable{l:List BlkS}
theorem k47(hl:allBl l):((s3 l).1 != (UE l).1)=false:=by rw[FO hl];exact bne_self_eq_false _
theorem g46(hl:allBl l):((s3 l).2 != (UE l).2)=false:=by rw[FO hl];exact bne_self_eq_false _
theorem g89(hl:allBl l)(h:((UE l).2 != 0)=false):(s3 l).2=0:=by rw[FO hl];exact X1.1 h
theorem YI(hl:allBl l)(hr:(s3 l).2=0)(sc:Hs):(!(BY l sc==IW l sc))=false:=by rw[v18 hl hr,E3];rfl
theorem GB(hl:allBl l)(hr:(s3 l).2=0)(sc:Hs):(!(YR l sc==PE l sc))=false:=by rw[j86 hl hr,E3];rfl
theorem g93(hl:allBl l)(hr:(s3 l).2=0)(sc:Hs):(g05 (YR l sc) != g05 (PE l sc))=false:=by rw[j86 hl hr];exact bne_self_eq_false _
theorem w31(hl:allBl l)(sc:Hs):(IW l sc).length<=1000000:=by
 have h1:=z05 (K6 l) sc (K6 l).length;have h2:=(JJ hl).1;unfold IW;omega
theorem u91(hl:allBl l)(sc:Hs):(PE l sc).length<=100000000:=by
 have h1:=FI (JJ hl) sc (K6 l).length (z5 _);have h2:=(JJ hl).1;unfold PE;omega
end
section
variable{P:Program}{C:Ctx}{σ σ' σ1:Sg}{a:Act}{w w':World}{ρ:Nat->Nat}{Fe Fe' Fb:Nat->List Nat}
theorem k81[Inhabited α]{f:α->D}{l:List α}{k:Nat}(hk:k<l.length):(l.map f++List.replicate q .dead)[k]? = some (f l[k]!):=by
 rw[U4 (by simpa using hk),G9,j9 hk,b9 l k hk];rfl
theorem XW[Inhabited α]{f:α->D}{l:List α}{z k o off:Nat}{p:List Nat}{d:D}(hz:∀ x,(f x).sz=z)(hk:k<l.length)(h:(f l[k]!).loc p=some (o,d))(ho:k*z+o=off):(D.agg (l.map f++List.replicate q .dead)).loc (k::p)=some (off,d):=by
 simp only[D.loc,k81 hk,h];rw[DT _ _ (λx hx=>by obtain⟨y,_,rfl⟩:=Q5.1 hx;exact hz y) _ (by simp;omega),ho]
theorem EE[Inhabited α]{f:α->D}{l:List α}{k:Nat}{p:List Nat}{v:D}{y:α}(hk:k<l.length)(h:(f l[k]!).upd p v=some (f y)):(D.agg (l.map f++List.replicate q .dead)).upd (k::p) v=some (.agg ((l.set k y).map f++List.replicate q .dead)):=by
 simp only[D.upd,k81 hk,h];rw[List.set_append_left _ _ (by simpa using hk),QC]
def wz(A:List D)(c:D)(B:List D)(q:Nat):D:=.agg (A++c::(B++List.replicate q .dead))
section
variable{A B:List D}{c c' v d:D}{n z q o off:Nat}{p:List Nat}
theorem z54(hn:A.length=n):(A++c::(B++List.replicate q .dead))[n]? = some c:=by
 rw[U0 (by omega)];simp[hn]
theorem D6(hn:A.length=n)(hA:∀ x∈A,x.sz=z)(h:c.loc p=some (o,d))(ho:n*z+o=off):(wz A c B q).loc (n::p)=some (off,d):=by
 simp only[wz,D.loc,z54 hn,h];rw[DT A _ hA n (by omega),ho]
theorem R6(hn:A.length=n)(h:c.upd p v=some c'):(wz A c B q).upd (n::p) v=some (wz A c' B q):=by
 simp only[wz,D.upd,z54 hn,h];rw[s4 _ _ (by omega)];simp[hn]
theorem A9(hn:A.length=n)(h:c.noArr p=true):(wz A c B q).noArr (n::p)=true:=by
 simp only[wz,D.noArr,z54 hn,h]
end
theorem FZ[Inhabited α](f:α->D){l:List α}(hn:n<l.length)(q:Nat):D.agg (l.map f++List.replicate q .dead)=wz ((l.take n).map f) (f l[n]!) ((l.drop (n+1)).map f) q:=by
 have e:l=l.take n++l[n]!::l.drop (n+1):=by rw[b9 l n hn,<- o9 hn,K8]
 unfold wz;rw[<- E8,<- w3,<- d9,<- d8];exact g6 (λx=>D.agg (List.map f x++List.replicate q .dead)) e
theorem v97(f:α->D){l:List α}(hn:n<l.length)(y:α)(q:Nat):wz ((l.take n).map f) (f y) ((l.drop (n+1)).map f) q=.agg ((l.set n y).map f++List.replicate q .dead):=by
 unfold wz;rw[<- E8,<- w3,<- d9,<- d8,List.set_eq_take_append_cons_drop,j7 hn]
theorem SD{f:α->D}{l:List α}(hn:n<l.length):((l.take n).map f).length=n:=by rw[z6,v8];omega
theorem KY{f:α->D}{l:List α}{z:Nat}(h:∀ x,(f x).sz=z):∀ x∈l.map f,x.sz=z:=λx hx=>by obtain⟨y,_,rfl⟩:=Q5.1 hx;exact h y
theorem B1{d:D}{r:List (Nat×Bx)}(h:d.okB ids=true)(hr:PR ids r=true):PR ids ((i,.var d)::r)=true:=by
 simp only[PR,h,hr,Bool.and_self]
theorem q91:∀ {l:List D},(∀ x∈l,x.okB ids=true)->YY ids l=true:=by
 intro l
 induction l with
 | nil=>intro _;simp[YY]
 | cons x r ih=>intro h;simp[YY,h x (by simp),ih (λy hy=>h y (by simp[hy]))]
theorem k43{f:α->D}{l:List α}(h:∀ x,(f x).okB ids=true):(D.agg (l.map f++List.replicate q .dead)).okB ids=true:=by
 simp only[D.okB];refine q91 λx hx=>?_
 rcases p9.1 hx with hx|hx
 ·obtain⟨y,_,rfl⟩:=Q5.1 hx;exact h y
 ·rw[(T2.1 hx).2];rfl
theorem XF{A B:List D}{c:D}(hA:∀ x∈A,x.okB ids=true)(hc:c.okB ids=true)(hB:∀ x∈B,x.okB ids=true):(wz A c B q).okB ids=true:=by
 simp only[wz,D.okB];refine q91 λx hx=>?_
 rcases p9.1 hx with hx|hx
 ·exact hA x hx
 rcases w8.1 hx with rfl|hx
 ·exact hc
 rcases p9.1 hx with hx|hx
 ·exact hB x hx
 ·rw[(T2.1 hx).2];rfl
theorem x40:∀ {l:List D},(∀ x∈l,x.ren m=x)->KD m l=l:=by
 intro l
 induction l with
 | nil=>intro _;simp[KD]
 | cons x r ih=>intro h;simp[KD,h x (by simp),ih (λy hy=>h y (by simp[hy]))]
theorem u86{f:α->D}{l:List α}(h:∀ x,(f x).ren m=f x):(D.agg (l.map f++List.replicate q .dead)).ren m=.agg (l.map f++List.replicate q .dead):=by
 simp only[D.ren];refine g6 D.agg (x40 λx hx=>?_)
 rcases p9.1 hx with hx|hx
 ·obtain⟨y,_,rfl⟩:=Q5.1 hx;exact h y
 ·rw[(T2.1 hx).2];rfl
inductive Fz:D->D->Prop
 | refl (d:D):Fz d d
 | brw (d:D):Fz d d.brw
 | agg {l l':List D} (hn:l.length=l'.length) (h:∀ k (h:k<l.length) (h':k<l'.length),Fz l[k] l'[k]):Fz (.agg l) (.agg l')
 | sl {e z:Nat} {l l':List D} (hn:l.length=l'.length) (h:∀ k (h:k<l.length) (h':k<l'.length),Fz l[k] l'[k]):Fz (.sl (some e) z l) (.sl (some e) z l')
inductive FzL:List D->List D->Prop
 | nil:FzL [] []
 | cons {d d':D} {l l':List D} (h:Fz d d') (t:FzL l l'):FzL (d::l) (d'::l')
theorem FzL.len{l l':List D}(h:FzL l l'):l.length=l'.length:=by
 induction h with
 | nil=>rfl
 | cons _ _ ih=>simp[ih]
theorem FzL.get{l l':List D}(h:FzL l l'):∀ k (h:k<l.length) (h':k<l'.length),Fz l[k] l'[k]:=by
 induction h with
 | nil=>intro k h;simp at h
 | cons h _ ih=>
  intro k hk hk'
  cases k with
  | zero=>exact h
  | succ k=>exact ih k (by simpa using hk) (by simpa using hk')
theorem FzL.refl:∀ l:List D,FzL l l
 | []=>.nil
 | d::r=>.cons (.refl d) (FzL.refl r)
theorem FzL.app{l l' r r':List D}(h:FzL l l')(k:FzL r r'):FzL (l++r) (l'++r'):=by
 induction h with
 | nil=>exact k
 | cons h _ ih=>exact .cons h ih
theorem FzL.map{α:Type}{f g:α->D}(h:∀ x,Fz (f x) (g x)):∀ l:List α,FzL (l.map f) (l.map g)
 | []=>.nil
 | x::r=>.cons (h x) (FzL.map h r)
theorem Fz.aggL{l l':List D}(h:FzL l l'):Fz (.agg l) (.agg l'):=.agg h.len h.get
theorem Fz.slL{e z:Nat}{l l':List D}(h:FzL l l'):Fz (.sl (some e) z l) (.sl (some e) z l'):=.sl h.len h.get
theorem Fz.eq{d d':D}(h:d.brw=d'):Fz d d':=h▸.brw d
theorem Fz.blk{f g:α->D}(h:∀ x,Fz (f x) (g x))(l:List α)(q:Nat):Fz (.agg (l.map f++List.replicate q .dead)) (.agg (l.map g++List.replicate q .dead)):=.aggL ((FzL.map h l).app (FzL.refl _))
theorem Fz.wz{A A' B B':List D}{c c':D}(hA:FzL A A')(hc:Fz c c')(hB:FzL B B')(q:Nat):Fz (Go.Sx.wz A c B q) (Go.Sx.wz A' c' B' q):=.aggL (hA.app (.cons hc (hB.app (FzL.refl _))))
theorem Fz.cell{f g:α->D}(h:∀ x,Fz (f x) (g x)){l:List α}(hn:n<l.length){c:D}{y:α}(hc:Fz c (g y))(q:Nat):Fz (Go.Sx.wz ((l.take n).map f) c ((l.drop (n+1)).map f) q) (.agg ((l.set n y).map g++List.replicate q .dead)):=by
 rw[<- v97 g hn y q];exact .wz (.map h _) hc (.map h _) q
theorem Fz.sz{d d':D}(h:Fz d d'):d'.sz=d.sz:=by
 induction h with
 | refl=>rfl
 | brw=>exact BC _
 | agg hn h ih=>simp only[JC];exact FH hn ih
 | sl=>rfl
theorem OT{Fs Fs':Nat->List Nat}(h1:∀ i,i<n->(Fs' i).Nodup)(h2:∀ i,i<n->∀ y∈Fs' i,y∈Fs i)(hn:((List.range n).flatMap Fs).Nodup) :
 ((List.range n).flatMap Fs').Nodup/\(∀ y∈(List.range n).flatMap Fs',y∈(List.range n).flatMap Fs)/\∀ i,i<n->∀ y∈Fs i,y∉Fs' i->y∉(List.range n).flatMap Fs':=by
 obtain⟨hn3,hn4⟩:=S4 hn;refine⟨A8 h1 λi j hi hj hij y hy hy'=>hn4 i j hi hj hij y (h2 i hi y hy) (h2 j hj y hy'),λy hy=>?_,λi hi y hy hy' hm=>?_⟩
 ·obtain⟨i,hi,hx⟩:=w6.1 hy;exact w6.2 ⟨i,hi,h2 i (z7.1 hi) y hx⟩
 ·obtain⟨j,hj,hx⟩:=w6.1 hm;have hj:=z7.1 hj;by_cases hij:i=j
  ·subst hij;exact hy' hx
  ·exact hn4 i j hi hj hij y hy (h2 j hj y hx)
theorem Rc.fz{G L:Nat->Prop}{d d':D}(hz:Fz d d'):∀ {p:Bool} {cs:List Value} {F:List Nat},Rc w ρ G L p d cs F->F.Nodup ->
 ∃ F':List Nat,F'.Nodup/\(∀ y∈F',y∈F)/\∀ G':Nat->Prop,(∀ b,G b->G' b)->(∀ b∈F,b∉F'->G' b)->Rc w ρ G' L p d' cs F':=by
 induction hz with
 | refl d=>
  intro p cs F h hn;exact⟨F,hn,λy hy=>hy,λG' hg _=>h.mono (λ_ _ _=>rfl) (λb hb _=>hg b hb) (λi hi=>⟨hi,rfl⟩)⟩
 | brw d=>
  intro p cs F h hn;exact⟨[],u5,by simp,λG' hg hf=>h.brw (λb hb=>hf b hb (by simp)) (λb hb _=>hg b hb)⟩
 | @agg l l' hl h ih=>
  intro p cs F hr hn
  cases hr with
  | agg _ _ Fs hs hr=>
   obtain⟨hn3,hn4⟩:=S4 hn
   have hx:∀ k,∃ F':List Nat,∀ (hk:k<l.length),F'.Nodup/\(∀ y∈F',y∈Fs k)/\∀ G':Nat->Prop,(∀ b,G b->G' b)->(∀ b∈Fs k,b∉F'->G' b)->Rc w ρ G' L p (l'[k]'(by omega)) ((cs.drop (offk l k)).take l[k].sz) F':=λk=>by
    by_cases hk:k<l.length
    ·obtain⟨F',h⟩:=ih k hk (by omega) (hr k hk) (hn3 k hk);exact⟨F',λ_=>h⟩
    ·exact⟨[],λh=>absurd h hk⟩
   have hz':∀ k (h:k<l.length) (h':k<l'.length),l'[k].sz=l[k].sz:=λk h1 h2=>(h k h1 h2).sz
   let Fs':=λk=>(hx k).choose
   have hs':=λk (hk:k<l.length)=>(hx k).choose_spec hk;obtain⟨c1,c2,c3⟩:=OT (Fs':=Fs') (λi hi=>(hs' i hi).1) (λi hi=>(hs' i hi).2.1) hn;refine⟨(List.range l.length).flatMap Fs',c1,c2,λG' hg hf=>?_⟩;rw[hl];refine .agg l' cs Fs' (by rw[hs,FH hl hz']) (λk hk=>?_);rw[k44 hl hz',hz' k (by omega) hk];exact(hs' k (by omega)).2.2 G' hg (λb hb hb'=>hf b (w6.2 ⟨k,z7.2 (by omega),hb⟩) (c3 k (by omega) b hb hb'))
 | @sl e z l l' hl h ih=>
  intro p cs F hr hn
  cases hr with
  | slN=>rw[Q7.1 hl.symm];exact⟨[],u5,by simp,λ_ _ _=>.slN _ z⟩
  | slE _ _ a=>rw[Q7.1 hl.symm];exact⟨[],u5,by simp,λ_ _ _=>.slE _ z a⟩
  | slO b cs e cap _ _ Fs hb hc hm hs ho1 hr=>
   obtain⟨hn1,hn2⟩:=g0.1 hn;obtain⟨hn3,hn4⟩:=S4 hn2
   have hx:∀ k,∃ F':List Nat,∀ (hk:k<l.length),F'.Nodup/\(∀ y∈F',y∈Fs k)/\∀ G':Nat->Prop,(∀ b,G b->G' b)->(∀ b∈Fs k,b∉F'->G' b)->Rc w ρ G' L false (l'[k]'(by omega)) ((cs.toList.drop (k*z)).take z) F':=λk=>by
    by_cases hk:k<l.length
    ·obtain⟨F',h⟩:=ih k hk (by omega) (hr k hk) (hn3 k hk);exact⟨F',λ_=>h⟩
    ·exact⟨[],λh=>absurd h hk⟩
   let Fs':=λk=>(hx k).choose
   have hs':=λk (hk:k<l.length)=>(hx k).choose_spec hk;obtain⟨c1,c2,c3⟩:=OT (Fs':=Fs') (λi hi=>(hs' i hi).1) (λi hi=>(hs' i hi).2.1) hn2;refine⟨b::(List.range l.length).flatMap Fs',g0.2 ⟨λhm=>hn1 (c2 _ hm),c1⟩,λy hy=>?_,λG' hg hf=>?_⟩
   ·rcases w8.1 hy with rfl|hy
    ·simp
    ·exact j5 _ (c2 y hy)
   ·rw[hl];refine .slO b cs e cap z l' Fs' hb (by omega) hm hs ho1 (λk hk=>?_);refine(hs' k (by omega)).2.2 G' hg (λy hy hy'=>hf y (j5 _ (w6.2 ⟨k,z7.2 (by omega),hy⟩)) (λhm=>?_))
    rcases w8.1 hm with rfl|hm
    ·exact hn1 (w6.2 ⟨k,z7.2 (by omega),hy⟩)
    ·exact c3 k (by omega) y hy hy' hm
theorem y96{id:Nat}{d d':D}(hb:σ.box id=some (.var d))(hz:Fz d d')(hs:St C σ a w):St C { σ with bx:=setb id (.var d') σ.bx } a w:=by
 obtain⟨ρ,Fe,Fb,st⟩:=hs
 have hbox:∀ i,(({ σ with bx:=setb id (.var d') σ.bx }:Sg).box i)=if i=id then some (.var d') else σ.box i:=λi=>by
  show lk (setb id (.var d') σ.bx) i=_;rw[PV];by_cases hi:i=id
  ·subst hi;have:lk σ.bx i=some (.var d):=hb;simp[this]
  ·simp[hi];rfl
 have hiso:∀ i,(({ σ with bx:=setb id (.var d') σ.bx }:Sg).box i).isSome=(σ.box i).isSome:=λi=>by
  rw[hbox];by_cases hi:i=id
  ·subst hi;simp[hb]
  ·simp[hi]
 have hfun:(λi=>(({ σ with bx:=setb id (.var d') σ.bx }:Sg).box i).isSome=true)=λi=>(σ.box i).isSome=true:=by
  funext i;rw[hiso]
 obtain⟨cs,e,F0,q1,q2,q3⟩:=st.bx id _ hb
 have hnd:(ρ id::F0).Nodup:=by have:=st.nodB id;rw[q3] at this;exact this
 obtain⟨hn1,hn2⟩:=g0.1 hnd;obtain⟨F',r1,r2,r3⟩:=q2.fz hz hn2
 have key:∀ i b,b∈upd Fb id (ρ id::F') i->b∈Fb i:=λi b hb=>by
  by_cases hii:i=id
  ·subst hii;rw[m7] at hb;rw[q3]
   rcases w8.1 hb with rfl|hb
   ·simp
   ·exact j5 _ (r2 b hb)
  ·rw[j6 hii] at hb;exact hb
 have hot:∀ b,own Fe (upd Fb id (ρ id::F')) b->own Fe Fb b:=λb hb=>hb.imp (λh=>h) λ⟨i,hi⟩=>⟨i,key i b hi⟩
 have hg:∀ b,gd C Fe Fb b->gd C Fe (upd Fb id (ρ id::F')) b:=λb hb=>⟨hb.1,λhc=>hb.2 (hot b hc)⟩
 have hgF:∀ b∈F0,b∉F'->gd C Fe (upd Fb id (ρ id::F')) b:=λb hb hb'=>by
  have hbi:b∈Fb id:=by rw[q3];exact j5 _ hb
  refine⟨st.okO b (.inr ⟨id,hbi⟩), ?_⟩;rintro (⟨u,hu⟩|⟨i,hi⟩)
  ·exact st.dEB u id b hu hbi
  ·by_cases hii:i=id
   ·subst hii;rw[m7] at hi
    rcases w8.1 hi with rfl|hi
    ·exact hn1 hb
    ·exact hb' hi
   ·rw[j6 hii] at hi;exact st.dBB i id hii b hi hbi
 refine⟨ρ,Fe,upd Fb id (ρ id::F'),{
  size:=st.size
  defs:=st.defs
  pin:=λi b hp=>⟨(st.pin i b hp).1,by rw[hiso];exact(st.pin i b hp).2⟩
  env:=λu x hx=>by rw[hfun];exact ER (st.env u x hx) (λ_ _ _=>rfl) (λb hb _=>hg b hb) (λ_ h=>h) (λ_ _ _ _ h=>h)
  envN:=st.envN
  bx:=λi b hd=>?_
  bxN:=λi hn=>?_
  nodE:=st.nodE
  nodB:=λi=>?_
  dEE:=st.dEE
  dEB:=λu i b hb1 hb2=>st.dEB u i b hb1 (key i b hb2)
  dBB:=λi i' hne b hb1 hb2=>st.dBB i i' hne b (key i b hb1) (key i' b hb2)
  new:=λb hb=>st.new b (hot b hb)
  kept:=st.kept
  os:=st.os
  tape:=⟨st.tape.tp,st.tape.dr⟩
  output:=st.output
  grown:=st.grown
  gl:=st.gl
  okN:=st.okN
  okO:=λb hb=>st.okO b (hot b hb) }⟩
 ·rw[hfun];rw[hbox] at hd;by_cases hi:i=id
  ·subst hi;simp only[w5,z9] at hd;subst hd;rw[m7];exact⟨cs,e,F',q1,r3 _ (λb hb=>hg b hb) hgF,rfl⟩
  ·simp only[hi,q8] at hd;rw[j6 hi];exact(st.bx i b hd).mono (λ_ _ _=>rfl) (λb hb _=>hg b hb) (λj hj=>⟨hj,rfl⟩)
 ·rw[hbox] at hn;by_cases hi:i=id
  ·simp[hi] at hn
  ·simp only[hi,q8] at hn;rw[j6 hi];exact st.bxN i hn
 ·by_cases hi:i=id
  ·subst hi;rw[m7];exact g0.2 ⟨λhm=>hn1 (r2 _ hm),r1⟩
  ·rw[j6 hi];exact st.nodB i
theorem KA{c:Code}(id:Nat){d d':D}(hb:σ.box id=some (.var d))(hz:Fz d d')(hbx:setb id (.var d') σ.bx=bx')(k:W P C c Q ⟨σ.n,σ.env,bx'⟩):W P C c Q σ:=by
 subst hbx;exact λa w hs=>k a w (y96 hb hz hs)
theorem u35{s id e z:Nat}{l:List D}(hs0:σ.get s=some (.sl (some e) z l))(hne:l≠[])(hid:σ.box id=none)(hs:St C σ a w) :
 ∃ cap,l.length<=cap/\cap<=maxLen/\St C ⟨σ.n,(σ.upd s (.bs id z l.length cap)).env,(id,.var (.agg (l++List.replicate ((cap-l.length)*z) .dead)))::σ.bx⟩ a w:=by
 obtain⟨ρ,Fe,Fb,st⟩:=hs;obtain⟨v,hv,hvr⟩:=(m9 rfl).1 (st.env _ _ hs0);simp only[VR,D.isAgg,q7,q8] at hvr
 obtain⟨b,csb,cap,F3,rfl,o2,o3,o4,o5,o6,o7⟩:=hvr.open hne (st.nodE s)
 have hbox:∀ i,(⟨σ.n,(σ.upd s (.bs id z l.length cap)).env,(id,.var (.agg (l++List.replicate ((cap-l.length)*z) .dead)))::σ.bx⟩:Sg).box i=if i=id then some (.var (.agg (l++List.replicate ((cap-l.length)*z) .dead))) else σ.box i:=λi=>by
  show lk (_::_) i=_;rw[G4];by_cases h1:i=id
  ·simp[h1]
  ·simp only[h1,show ¬ id=i from λe=>h1 e.symm,q8];rfl
 have hget:∀ u,(⟨σ.n,(σ.upd s (.bs id z l.length cap)).env,(id,.var (.agg (l++List.replicate ((cap-l.length)*z) .dead)))::σ.bx⟩:Sg).get u=if u=s then some (.bs id z l.length cap) else σ.get u:=λu=>by
  show(σ.upd s (.bs id z l.length cap)).get u=_;rw[ZW];by_cases h1:u=s
  ·subst h1;simp[hs0]
  ·simp[h1]
 have hρ:∀ i,(σ.box i).isSome=true->(((⟨σ.n,(σ.upd s (.bs id z l.length cap)).env,(id,.var (.agg (l++List.replicate ((cap-l.length)*z) .dead)))::σ.bx⟩:Sg).box i).isSome=true/\DQ ρ id b i=ρ i):=λi hi=>by
  have h1:i≠id:=by rintro rfl;rw[hid] at hi;cases hi
  refine⟨?_,i9 h1⟩;rw[hbox,z8 h1];exact hi
 let Fe':Nat->List Nat:=upd Fe s []
 let Fb':Nat->List Nat:=upd Fb id (b::F3)
 have hE:∀ u,∀ y∈Fe' u,u≠s/\y∈Fe u:=λu y hy=>by
  by_cases h1:u=s
  ·subst h1;simp[Fe'] at hy
  ·simp only[Fe',j6 h1] at hy;exact⟨h1,hy⟩
 have hB:∀ i,∀ y∈Fb' i,(i=id/\y∈Fe s)∨(i≠id/\y∈Fb i):=λi y hy=>by
  by_cases h1:i=id
  ·subst h1;simp only[Fb',m7] at hy;exact .inl ⟨rfl,o6 y hy⟩
  ·simp only[Fb',j6 h1] at hy;exact .inr ⟨h1,hy⟩
 have hown:∀ y,own Fe' Fb' y->own Fe Fb y:=λy hy=>by
  rcases hy with ⟨u,hu⟩|⟨i,hi⟩
  ·exact .inl ⟨u,(hE u y hu).2⟩
  ·rcases hB i y hi with ⟨_,h⟩|⟨_,h⟩
   ·exact .inl ⟨s,h⟩
   ·exact .inr ⟨i,h⟩
 have hg:∀ y,gd C Fe Fb y->gd C Fe' Fb' y:=λy hy=>⟨hy.1,λhc=>hy.2 (hown y hc)⟩
 refine⟨cap,o3,o4,DQ ρ id b,Fe',Fb',{
  size:=st.size
  defs:=st.defs
  pin:=λi y hp=>?_
  env:=λu d hd=>?_
  envN:=λu hu=>?_
  bx:=λi x hx=>?_
  bxN:=λi hx=>?_
  nodE:=λu=>?_
  nodB:=λi=>?_
  dEE:=λu u' hne y h1 h2=>st.dEE u u' hne y (hE u y h1).2 (hE u' y h2).2
  dEB:=λu i y h1 h2=>?_
  dBB:=λi i' hne y h1 h2=>?_
  new:=λy hy=>st.new y (hown y hy)
  kept:=st.kept
  os:=st.os
  tape:=⟨st.tape.tp,st.tape.dr⟩
  output:=st.output
  grown:=st.grown
  gl:=st.gl
  okN:=st.okN
  okO:=λy hy=>st.okO y (hown y hy) }⟩
 ·have:=hρ i (st.pin i y hp).2;exact⟨this.2.trans (st.pin i y hp).1,this.1⟩
 ·rw[hget] at hd;by_cases h1:u=s
  ·subst h1;simp only[w5,z9] at hd;subst hd;simp only[Fe',m7];refine(m9 rfl).2 ⟨_,hv, ?_⟩;simp only[VR,D.isAgg,q7,q8];have:=Rc.bs (w:=w) (ρ:=DQ ρ id b) (G:=gd C Fe' Fb') (L:=λi'=>((⟨σ.n,(σ.upd u (.bs id z l.length cap)).env,(id,.var (.agg (l++List.replicate ((cap-l.length)*z) .dead)))::σ.bx⟩:Sg).box i').isSome=true) id z l.length cap (by rw[hbox];simp) o3
   rwa [JD] at this
  ·simp only[h1,q8] at hd;simp only[Fe',j6 h1];exact q38 (st.env u d hd) (λ_ _ _=>rfl) (λy hy _=>hg y hy) hρ (λ_ _ _ _ _=>rfl)
 ·rw[hget] at hu;by_cases h1:u=s
  ·subst h1;simp at hu
  ·simp only[h1,q8] at hu;simp only[Fe',j6 h1];exact st.envN u hu
 ·rw[hbox] at hx;by_cases h1:i=id
  ·subst h1;simp only[w5,z9] at hx;subst hx;refine⟨csb,e,F3, ?_,o7.mono (λ_ _ _=>rfl) (λy hy _=>hg y hy) hρ, ?_⟩
   ·rw[JD];exact o2
   ·simp only[Fb',m7,JD]
  ·simp only[h1,q8] at hx;simp only[Fb',j6 h1,i9 h1];exact(st.bx i x hx).mono (λ_ _ _=>rfl) (λy hy _=>hg y hy) hρ
 ·rw[hbox] at hx;by_cases h1:i=id
  ·simp[h1] at hx
  ·simp only[h1,q8] at hx;simp only[Fb',j6 h1];exact st.bxN i hx
 ·by_cases h1:u=s
  ·subst h1;simp[Fe']
  ·simp only[Fe',j6 h1];exact st.nodE u
 ·by_cases h1:i=id
  ·subst h1;simp only[Fb',m7];exact o5
  ·simp only[Fb',j6 h1];exact st.nodB i
 ·obtain⟨h3,h4⟩:=hE u y h1
  rcases hB i y h2 with ⟨_,h⟩|⟨_,h⟩
  ·exact st.dEE u s h3 y h4 h
  ·exact st.dEB u i y h4 h
 ·rcases hB i y h1 with ⟨h3,h4⟩|⟨h3,h4⟩
  ·rcases hB i' y h2 with ⟨h5,_⟩|⟨_,h6⟩
   ·exact hne (h3.trans h5.symm)
   ·exact st.dEB s i' y h4 h6
  ·rcases hB i' y h2 with ⟨_,h6⟩|⟨_,h6⟩
   ·exact st.dEB s i y h6 h4
   ·exact st.dBB i i' hne y h4 h6
theorem v57{c:Code}(s id:Nat){e z:Nat}{l:List D}(hs0:σ.get s=some (.sl (some e) z l))(hne:l≠[])(hid:σ.box id=none){env':Nat->List (Nat×D)}(henv:∀ cap,(σ.upd s (.bs id z l.length cap)).env=env' cap)
 (k:∀ cap m:Nat,l.length<=cap->cap<=maxLen->m=(cap-l.length)*z->W P C c Q ⟨σ.n,env' cap,(id,.var (.agg (l++List.replicate m .dead)))::σ.bx⟩):W P C c Q σ:=by
 intro a w hs;obtain⟨cap,h1,h2,h3⟩:=u35 hs0 hne hid hs;rw[henv] at h3;exact k cap _ h1 h2 rfl a w h3
theorem u33{s id z cap m:Nat}{l:List D}(hs0:σ.get s=some (.bs id z n cap))(hb:σ.box id=some (.var (.agg (l++List.replicate m .dead))))(hn:l.length=n)
 (hp:∀ x∈l,x.pur=true) (hnp:∀ x∈l,x.np=true) (hz:∀ x∈l,x.sz=z) (henv:(σ.upd s (.sl none z l)).env=env') (hE:QW ids env'=true) (hkeep:E1 ids σ.bx=bx') (hoB:PR ids bx'=true) (hid:J2 ids id=false)
 (hpn:∀ id b,C.pin id=some b->J2 ids id=true) (hs:St C σ a w):St C ⟨σ.n,env',bx'⟩ a w:=by
 subst hn;obtain⟨ρ,Fe,Fb,st⟩:=hs;obtain⟨csb,e1,F1,p1,p2,p3⟩:=st.bx id _ hb;obtain⟨v,hv,hvr⟩:=(m9 rfl).1 (st.env _ _ hs0);simp only[VR,D.isAgg,q7,q8] at hvr
 have hval:v=Value.slice (some ⟨ρ id,0,none⟩) l.length cap/\l.length<=cap/\Fe s=[]:=by
  generalize hF:Fe s=F at hvr
  cases hvr with
  | bs _ _ _ _ hL hc=>exact⟨rfl,hc,rfl⟩
 obtain⟨rfl,hcap,hFs⟩:=hval
 have hget:∀ u,(⟨σ.n,env',bx'⟩:Sg).get u=if u=s then some (.sl none z l) else σ.get u:=λu=>by
  show lk env' u=_;rw[<- henv];show(σ.upd s (.sl none z l)).get u=_;rw[ZW];by_cases h1:u=s
  ·subst h1;simp[hs0]
  ·simp[h1]
 have hbl:∀ u,lk bx' u=if J2 ids u then σ.box u else none:=λu=>by rw[<- hkeep,QH];rfl
 have hLb:∀ i,(J2 ids i=true/\(σ.box i).isSome=true)->(lk bx' i).isSome=true:=λi ⟨h1,h2⟩=>by
  rw[hbl,j7 h1];exact h2
 have hid_in:ρ id∈Fb id:=by rw[p3];simp
 let Fb':Nat->List Nat:=λi=>if J2 ids i then Fb i else[]
 have hsub:∀ i,∀ y∈Fb' i,J2 ids i=true/\y∈Fb i:=λi y hy=>by
  by_cases h1:J2 ids i=true
  ·simp only[Fb',h1,w5] at hy;exact⟨h1,hy⟩
  ·simp[Fb',h1] at hy
 have hown:∀ y,own Fe Fb' y->own Fe Fb y:=λy hy=>hy.imp (λh=>h) λ⟨i,hi⟩=>⟨i,(hsub i y hi).2⟩
 have hg:∀ y,gd C Fe Fb y->gd C Fe Fb' y:=λy hy=>⟨hy.1,λhc=>hy.2 (hown y hc)⟩
 have hgb:gd C Fe Fb' (ρ id):=⟨st.okO _ (.inr ⟨id,hid_in⟩),by
  rintro (⟨u,hu'⟩|⟨i,hi⟩)
  ·exact st.dEB u id _ hu' hid_in
  ·obtain⟨h1,h2⟩:=hsub i _ hi
   have:i≠id:=by rintro rfl;rw[hid] at h1;cases h1
   exact st.dBB i id this _ h2 hid_in⟩
 have hszl:=PY l hz
 have hclen:csb.toList.length=l.length*z+m:=by rw[p2.len,JC,HK,hszl,GJ]
 have hsl:Rc w ρ (gd C Fe Fb') (λi=>(lk bx' i).isSome=true) true (.sl none z l) [.slice (some ⟨ρ id,0,none⟩) l.length cap] []:=by
  refine .slI (ρ id) 0 csb e1 (0,0) cap z l p1 hgb hcap (by simp at hclen;omega) (λi hi=>?_);generalize hdd:D.agg (l++List.replicate m D.dead)=dd at p2;generalize hcl:csb.toList=cl at p2
  cases p2 with
  | agg l0 _ Fs hs hr=>
   cases hdd
   have hi':i<(l++List.replicate m D.dead).length:=by simp;omega
   have h1:=hr i hi';rw[o0 hi] at h1;rw[DT l _ hz i (by omega),hz _ (d7 hi)] at h1;have h2:=h1.pur (hp _ (d7 hi));rw[h2] at h1;rw[m5];have h3:=h1.unflag (hnp _ (d7 hi));exact(h3.noL (L':=λi=>(lk bx' i).isSome=true)).mono (λ_ _ _=>rfl) (λy hy _=>hg y hy) (λj hj=>⟨hj,rfl⟩)
  | _=>cases hdd
 refine⟨ρ,Fe,Fb',{
  size:=st.size
  defs:=st.defs
  pin:=λi y hp=>⟨(st.pin i y hp).1,hLb i ⟨hpn i y hp,(st.pin i y hp).2⟩⟩
  env:=λu d hd=>?_
  envN:=λu hu=>?_
  bx:=λi x hx=>?_
  bxN:=λi hx=>?_
  nodE:=st.nodE
  nodB:=λi=>?_
  dEE:=st.dEE
  dEB:=λu i y h1 h2=>st.dEB u i y h1 (hsub i y h2).2
  dBB:=λi i' hne y h1 h2=>st.dBB i i' hne y (hsub i y h1).2 (hsub i' y h2).2
  new:=λy hy=>st.new y (hown y hy)
  kept:=st.kept
  os:=st.os
  tape:=⟨st.tape.tp,st.tape.dr⟩
  output:=st.output
  grown:=st.grown
  gl:=st.gl
  okN:=st.okN
  okO:=λy hy=>st.okO y (hown y hy) }⟩
 ·have hd0:=hd;rw[hget] at hd;by_cases h1:u=s
  ·subst h1;simp only[w5,z9] at hd;subst hd;rw[hFs];refine(m9 rfl).2 ⟨_,hv, ?_⟩;simp only[VR,D.isAgg,q7,q8];exact hsl
  ·simp only[h1,q8] at hd;exact(st.env u d hd).okB (QV hE hd0) (λy hy _=>hg y hy) hLb
 ·rw[hget] at hu;by_cases h1:u=s
  ·subst h1;simp at hu
  ·simp only[h1,q8] at hu;exact st.envN u hu
 ·obtain⟨x,rfl,hok⟩:=PL hoB hx;have h1:=hbl i;rw[show lk bx' i=some (.var x) from hx] at h1;by_cases hm:J2 ids i=true
  ·rw[j7 hm] at h1;obtain⟨cs',e',F'',h3,h4,h5⟩:=st.bx i _ h1.symm;exact⟨cs',e',F'',h3,(h4.okB hok).mono (λ_ _ _=>rfl) (λy hy _=>hg y hy) (λj hj=>⟨hLb j hj,rfl⟩),by simp only[Fb',hm,w5];exact h5⟩
  ·rw[z8 hm] at h1;cases h1
 ·have h1:=hbl i;rw[show lk bx' i=none from hx] at h1;by_cases hm:J2 ids i=true
  ·rw[j7 hm] at h1;simp only[Fb',hm,w5];exact st.bxN i h1.symm
  ·simp[Fb',hm]
 ·by_cases hm:J2 ids i=true
  ·simp only[Fb',hm,w5];exact st.nodB i
  ·simp[Fb',hm]
theorem q33{c:Code}(s id:Nat)(ids:List Nat){z cap m:Nat}{l:List D}(hs0:σ.get s=some (.bs id z n cap))(hb:σ.box id=some (.var (.agg (l++List.replicate m .dead))))(hn:l.length=n)
 (hp:∀ x∈l,x.pur=true) (hnp:∀ x∈l,x.np=true) (hz:∀ x∈l,x.sz=z) (henv:(σ.upd s (.sl none z l)).env=env') (hE:QW ids env'=true) (hkeep:E1 ids σ.bx=bx') (hoB:PR ids bx'=true) (hid:J2 ids id=false)
 (hpn:∀ id b,C.pin id=some b->J2 ids id=true) (k:W P C c Q ⟨σ.n,env',bx'⟩):W P C c Q σ:=
 λa w hs=>k a w (u33 hs0 hb hn hp hnp hz henv hE hkeep hoB hid hpn hs)
section
variable{s t s' z i off:Nat}{path:List Nat}{ty rt:TypeId}{pos:String}{aft:Array Edge}{g:Option (Nat×Bool)}
theorem R.movE(h:σ.get s=some (.ep s' z i off path))(ht:t<σ.n)(hst:s'≠t):OpS P C ⟨some t,.move (.tmp s),ty,pos,aft,g⟩ σ (σ.set t (.ep s' z i off path)):=by
 refine OpS.value λa w ⟨ρ,Fe,Fb,st⟩=>?_;obtain⟨_,b,o,len,cap,h1,h2,h3⟩:=st.env _ _ h;have hsz:=st.size;refine⟨.pointer (some ⟨b,o+i*z+off,none⟩),w, ?_,st.putRef ht ⟨rfl,b,o,len,cap, ?_, ?_,h3⟩⟩
 ·unfold execOp;simp[K1 h2]
 ·rw[U7 a t _ s' (by omega)];simp[hst,h1]
 ·rw[U7 a t _ t (by omega)];simp
theorem R.asgE(h:σ.get s=some (.ep s' z i off path))(ht:t<σ.n)(hst:s'≠t):OpS P C ⟨some t,.assign (.tmp s),ty,pos,aft,g⟩ σ (σ.set t (.ep s' z i off path)):=by
 refine OpS.value λa w ⟨ρ,Fe,Fb,st⟩=>?_;obtain⟨_,b,o,len,cap,h1,h2,h3⟩:=st.env _ _ h;have hsz:=st.size;refine⟨.pointer (some ⟨b,o+i*z+off,none⟩),w, ?_,st.putRef ht ⟨rfl,b,o,len,cap, ?_, ?_,h3⟩⟩
 ·unfold execOp;simp[K1 h2]
 ·rw[U7 a t _ s' (by omega)];simp[hst,h1]
 ·rw[U7 a t _ t (by omega)];simp
theorem R.nilcE(h:σ.get s=some (.ep s' z i off path))(ht:t<σ.n)(hst:s'≠t):OpS P C ⟨some t,.nilCheck (.tmp s),rt,pos,aft,g⟩ σ (σ.set t (.ep s' z i off path)):=by
 refine OpS.value λa w ⟨ρ,Fe,Fb,st⟩=>?_;obtain⟨_,b,o,len,cap,h1,h2,h3⟩:=st.env _ _ h;have hsz:=st.size;refine⟨.pointer (some ⟨b,o+i*z+off,none⟩),w, ?_,st.putRef ht ⟨rfl,b,o,len,cap, ?_, ?_,h3⟩⟩
 ·unfold execOp;simp[K1 h2]
 ·rw[U7 a t _ s' (by omega)];simp[hst,h1]
 ·rw[U7 a t _ t (by omega)];simp
end
end
def DC(t:TxS):D:=.agg [.u32 t.ver,.sl (some 112) 36 (t.ins.map YL),.sl (some 115) 2 (t.outs.map r9),.u32 t.lock]
def YQ(b:BlkS):D:=.agg [M5 b.hd,.sl (some 31) 4 (b.txs.map DC)]
theorem z31(t:TxS):(DC t).brw=r8 t:=by
 simp only[DC,r8,D.brw,D1,d9,Z8];rw[J6 q25,J6 LN]
theorem j62(b:BlkS):(YQ b).brw=J7 b:=by
 simp only[YQ,J7,D.brw,D1,d9,Z8,CW];rw[XP z31]
theorem q92(b:BlkS):(J7 b).okB ids=true:=rfl
theorem x41(b:BlkS):(J7 b).ren m=J7 b:=by
 simp only[J7,M5,D.ren,KD,FE]
theorem x65(b:BlkS)(h:HdS):(J7 b).upd [0,1] (w7 (ZB h))=some (J7 (SI b h)):=by
 unfold SI;generalize ZB h=r;rfl
theorem x31(b:BlkS):(J7 b).upd [0,2] (w7 (KS F7 (b.txs.map ZM)))=some (J7 (q72 b)):=by
 unfold q72;generalize KS F7 (b.txs.map ZM)=r;rfl
theorem q24(v:UInt32)(i:List InS)(o:List OutS)(k:UInt32)(a b:Option Nat):(D.agg [.u32 v,.sl a 36 (i.map YL),.sl b 2 (o.map r9),.u32 k]).brw=r8 ⟨v,i,o,k⟩:=by
 simp only[r8,D.brw,D1,d9,Z8];rw[J6 q25,J6 LN]
theorem u05(h:HdS)(t:List TxS)(a:Option Nat):(D.agg [M5 h,.sl a 4 (t.map r8)]).brw=J7 ⟨h,t⟩:=by
 simp only[J7,D.brw,D1,d9,Z8,CW];rw[J6 EN]
theorem x42(m:Nat->Nat)(i q:Nat)(l:List BlkS):X9 m [(i,.var (.agg (l.map J7++List.replicate q .dead)))]=[(m i,.var (.agg (l.map J7++List.replicate q .dead)))]:=by
 show[(m i,Bx.var (D.ren m _))]=_;rw[u86 x41]
theorem BG(t:TxS):Fz (DC t) (r8 t):=.eq (z31 t)
theorem YS(b:BlkS):Fz (YQ b) (J7 b):=.eq (j62 b)
theorem v23(b:BlkS):Fz (YQ b) (.agg [M5 b.hd,.sl (some 31) 4 (b.txs.map r8)]):=.aggL (.cons (.refl _) (.cons (.slL (FzL.map BG _)) .nil))
theorem u97(o:OutS):(r9 o).upd [0] (.u64 (o.value+100000))=some (r9 (HI o)):=by cases o;rfl
theorem y74(i:InS):(YL i).upd [0,1] (.u32 (i.n+1))=some (YL (RT i)):=by cases i;rfl
theorem AW{f:α->D}{l:List α}(h:∀ x,(f x).okB ids=true):∀ x∈l.map f,x.okB ids=true:=λx hx=>by obtain⟨y,_,rfl⟩:=Q5.1 hx;exact h y
theorem XM{f:α->D}{l:List α}{p:D->Prop}(h:∀ x,p (f x)):∀ x∈l.map f,p x:=λx hx=>by obtain⟨y,_,rfl⟩:=Q5.1 hx;exact h y
section
variable{b:BlkS}{x:TnS}
theorem g27(h:x.what%9=0):AX b x=⟨b.hd,b.txs.take (b.txs.length-1)⟩:=by unfold AX;rw[j7 h]
theorem g24(h:x.what%9=3):AX b x=⟨b.hd,b.txs++[b.txs[tK b x]!]⟩:=by unfold AX;rw[h,z8 (by decide),j7 rfl]
theorem g23(h:x.what%9=4):AX b x=⟨{ b.hd with root:=HF b.hd.root x.at_ },b.txs⟩:=by unfold AX;rw[h,z8 (by decide),z8 (by decide),j7 rfl]
theorem g22(h:x.what%9=5):AX b x=⟨{ b.hd with prev:=HF b.hd.prev x.at_ },b.txs⟩:=by unfold AX;rw[h,z8 (by decide),z8 (by decide),z8 (by decide),j7 rfl]
theorem q53{t:TxS}(h0:x.what%9≠0)(h3:x.what%9≠3)(h4:x.what%9≠4)(h5:x.what%9≠5)(ht:u66 b.txs[tK b x]! x=t):AX b x=⟨b.hd,b.txs.set (tK b x) t⟩:=by unfold AX;rw[z8 h0,z8 h3,z8 h4,z8 h5,ht]
theorem g26(h:x.what%9=1):AX b x=⟨b.hd,b.txs.set (tK b x) ⟨b.txs[tK b x]!.ver,b.txs[tK b x]!.ins,b.txs[tK b x]!.outs.set (x.at_.toNat%b.txs[tK b x]!.outs.length) (HI b.txs[tK b x]!.outs[x.at_.toNat%b.txs[tK b x]!.outs.length]!),b.txs[tK b x]!.lock⟩⟩:=
 q53 (by rw[h];decide) (by rw[h];decide) (by rw[h];decide) (by rw[h];decide) (by unfold u66;rw[j7 h])
theorem g25(h:x.what%9=2):AX b x=⟨b.hd,b.txs.set (tK b x) ⟨b.txs[tK b x]!.ver,b.txs[tK b x]!.ins.set (x.at_.toNat%b.txs[tK b x]!.ins.length) (RT b.txs[tK b x]!.ins[x.at_.toNat%b.txs[tK b x]!.ins.length]!),b.txs[tK b x]!.outs,b.txs[tK b x]!.lock⟩⟩:=
 q53 (by rw[h];decide) (by rw[h];decide) (by rw[h];decide) (by rw[h];decide) (by unfold u66;rw[z8 (by rw[h];decide),j7 h])
theorem g21(h:x.what%9=6):AX b x=⟨b.hd,b.txs.set (tK b x) ⟨b.txs[tK b x]!.ver,b.txs[tK b x]!.ins,[],b.txs[tK b x]!.lock⟩⟩:=
 q53 (by rw[h];decide) (by rw[h];decide) (by rw[h];decide) (by rw[h];decide) (by unfold u66;rw[z8 (by rw[h];decide),z8 (by rw[h];decide),j7 h])
theorem g20(h:x.what%9=7):AX b x=⟨b.hd,b.txs.set (tK b x) ⟨b.txs[tK b x]!.ver,b.txs[tK b x]!.ins,b.txs[tK b x]!.outs,b.txs[tK b x]!.lock+1⟩⟩:=
 q53 (by rw[h];decide) (by rw[h];decide) (by rw[h];decide) (by rw[h];decide) (by unfold u66;rw[z8 (by rw[h];decide),z8 (by rw[h];decide),z8 (by rw[h];decide),j7 h])
theorem x22[Inhabited α](l:List α)(k:Nat):l.set k l[k]! = l:=by
 by_cases hk:k<l.length
 ·rw[b9 l k hk,List.set_getElem_self]
 ·rw[List.set_eq_of_length_le (by omega)]
theorem g19(h0:x.what%9≠0)(h1:x.what%9≠1)(h2:x.what%9≠2)(h3:x.what%9≠3)(h4:x.what%9≠4)(h5:x.what%9≠5)(h6:x.what%9≠6)(h7:x.what%9≠7):AX b x=⟨b.hd,b.txs⟩:=by
 rw[q53 h0 h3 h4 h5 (t:=b.txs[tK b x]!) (by unfold u66;rw[z8 h1,z8 h2,z8 h6,z8 h7]),x22]
end
section
variable{l:List BlkS}{x:TnS}{n:Nat}
theorem y03(hn:n=x.block.toNat%l.length)(h:l[n]!.txs.length=0):FU l x=l:=by
 subst hn;unfold FU;exact j7 h
theorem y02(hn:n=x.block.toNat%l.length)(h:¬ l[n]!.txs.length=0)(hm:x.mend=true):FU l x=IC (l.set n (AX l[n]! x)) n:=by
 subst hn;unfold FU;rw[z8 (show ¬ l[tN l x]!.txs.length=0 from h),j7 hm];rfl
theorem y01(hn:n=x.block.toNat%l.length)(h:¬ l[n]!.txs.length=0)(hm:x.mend=false):FU l x=l.set n (AX l[n]! x):=by
 subst hn;unfold FU;rw[z8 (show ¬ l[tN l x]!.txs.length=0 from h),z8 (by rw[hm];exact m8)];rfl
end
section
open Go.Proofs
set_option maxRecDepth 100000
instance:MiT Tryz.prog 32 (.int .i64):=⟨Tryz.underlying32,rfl⟩
end
section
open Go.Proofs
end
section
open Go.Proofs
end
section
open Go.Proofs
theorem x29(t:TxS)(hwf:t.wf):Fn Tryz.prog gl 87 [r8 t] (.bool (FN t)):=by
 refine Fo 19 Tryz.func87 O λC hC hD=>?_;have h1:=hwf.ins;refine n5 2 [] (V1 0) Zt O (⟨O,_,R.box (gV 0 O) O O nU,⟨O,_,J9 (kB false O) O nU,tW (V1 1) (B2 1) 19 O ?_⟩⟩);refine W.seq (u4 1 (y1 3) (V2 1 3) ⟨O3 0 O,Zt⟩ ?_);refine W.block ?_;refine UK t.ins.length (λq__=>∀ k<q__,¬ 0<t.ins[k]!.wit.length) (λi=>⟨19,[(1,.ptr 1 0 []),(3,.int ((i:Nat):Int))],[(1,.var (.agg [.u32 t.ver,.sl none 36 (t.ins.map YL),.sl none 2 (t.outs.map r9),.u32 t.lock]))]⟩) ⟨v6 _,λk h=>absurd h (g9 _)⟩ O λi hinv=>?_;obtain⟨hi,hno⟩:=hinv;have hi:i<=t.ins.length:=hi;have hno:∀ k<i,¬ 0<t.ins[k]!.wit.length:=hno;have hwl:i<t.ins.length->t.ins[i]!.wit.length<=1000000:=λh=>(hwf.witl _ (X0 h)).1;refine W.seq (u4 5 (y5 4 5 6 7 8) (V3 1 3 8) ⟨zV O,xF O,xL O,P8 O,zS O,Zt⟩ ?_);refine g7 O (λhc8=>?_) (λhc8=>?_)
 ·refine W.skip (W.seq (W.block (u4 8 (y8 11 12 13 14 15 16 17 18) (V3 1 3 18) ⟨xF O,xL O,zV O,zI i O,r7 O,zL O (mG t.ins),P8 O,OE 0 O,Zt⟩ ?_)));refine g7 O (λhc18=>?_) (λhc18=>?_)
  ·refine u4 1 (y1 2) (V1 2) ⟨i6 O,Zt⟩ ?_;exact W.ret (En O ((g6 D.bool (SP hc8 hc18)).symm))
  ·refine W.skip ?_;refine n4 3 (y3 9 10 3) (V2 1 3) ⟨zV O,P1 1 O,zA O,Zt⟩ ?_;exact⟨⟨by omega,λk hk=>(u7.1 hk).elim (hno k) (λe=>e▸hc18)⟩,rfl⟩
 ·obtain rfl:i=t.ins.length:=by omega
  refine W.exit (u4 1 (y1 2) (V1 2) ⟨i6 O,Zt⟩ ?_);exact W.ret (En O ((g6 D.bool (FM hno)).symm))
theorem u84(t:TxS)(hwf:t.wf):Fn Tryz.prog gl 43 [r8 t] (.sl (some 5) 1 ((NB t).map D.u8)):=by
 refine Fo 59 Tryz.func43 O λC hC hD=>?_;have h1:=hwf.ins;have hbl:=hwf.body;have hw0:=hwf.witsb _ (z5 _);refine n5 2 [] (V1 0) Zt O (⟨O,_,R.box (gV 0 O) O O nU,⟨O,_,J9 (kN O) O nU,tW (V1 1) (B2 1) 59 O ?_⟩⟩);refine W.seq (u4 3 (y3 7 8 9) (V2 1 9) ⟨xL O,zC hC (x29 t hwf) O (F1 (.bool _)),BH O,Zt⟩ ?_);refine W.cond O (λhc9=>?_) (λhc9=>?_)
 ·refine P4 3 (y3 10 11 2) [(2,11)] [(2,11)] (V1 2) ⟨aU (xL O),aU<|zC hC (q75 t hwf) O (F1 (.sl _ _ _ (J5 λ_=>.u8 _))),aU<|zO O,Zt⟩ O (tU O ?_);exact W.ret (En O (by rw[NB,z8 (by simpa using hc9)]))
 ·refine W.skip (P4 7 (y7 12 13 14 15 16 17 3) [(5,15),(6,17)] [(5,15),(6,17)] (V2 1 3) ⟨aU (xF O),aU (xL O),aU<|zW O,aU<|CM hC (XQ t.ver.toUInt64 4 dU) O (kI 4 O) (F1 (.sl _ _ _ (J5 λ_=>.u8 _))),aU λ_ _ H _=>J3 (z:=1) (.cons (kW (.int .u8 0) (.u8 0) O) (.cons (kW (.int .u8 1) (.u8 1) O) .nil)) ⟨⟨O,O,O⟩,⟨O,O,O⟩,Zt⟩ O H dU,aU λ_ _ H K=>R0 (Or.inl O) (K 15 _ O) (SrcO.sc (SC.sl (K 16 _ O)) (G5 O)) (show _=(((N4 t.ver.toUInt64 4++[0,1])).map D.u8) from(by simp)) (by simp only[z6,q9,K0,j2,j3];omega) H dU dU,aU<|zO O,Zt⟩ O (tU O ?_));refine P4 5 (y5 18 19 20 21 3) [(3,3),(4,21),(4,18)] [(3,3),(4,21)] (V2 1 3) ⟨aU<|zM O,aU (xL O),aU<|zC hC (k38 t hwf) O (F1 (.sl _ _ _ (J5 λ_=>.u8 _))),aU<|YC O (P3 (λ_=>rfl)) (show _=((((N4 t.ver.toUInt64 4++[0,1])++ZT t)).map D.u8) from(by simp)) (by simp only[z6,q9,K0,j2,j3];omega),aU<|zO O,Zt⟩ O (tU O ?_);refine W.seq (u4 1 (y1 4) (V3 1 3 4) ⟨O3 0 O,Zt⟩ ?_);refine W.block ?_;refine P2 t.ins.length (λi=>⟨59,[(1,.ptr 1 0 []),(3,.sl (some 5) 1 ((((N4 t.ver.toUInt64 4++[0,1])++ZT t)++ZO t.ins i).map D.u8)),(4,.int ((i:Nat):Int))],[(1,.var (.agg [.u32 t.ver,.sl none 36 (t.ins.map YL),.sl none 2 (t.outs.map r9),.u32 t.lock]))]⟩) (by simp only[ZO,m4];rfl) λi hi=>?_;have hib:=hwf.witsb i hi;have hx:i<t.ins.length->t.ins[i]!.wit.length<=1000000/\∀ j ≤ t.ins[i]!.wit.length,(UP t.ins[i]!.wit j).length<=1500000:=λh=>hwf.witl _ (X0 h);have hcl:=I7 t.ins[i]!.wit.length;refine W.seq (u4 5 (y5 22 23 24 25 26) (V4 1 3 4 26) ⟨zV O,xF O,xL O,P8 O,zS O,Zt⟩ ?_);refine g7 O (λhc26=>?_) (λhc26=>?_)
  ·refine W.skip (W.seq (W.block (u4 7 (y7 29 30 31 32 33 34 5) (V4 1 3 4 5) ⟨xF O,xL O,zV O,zI i O,r7 O,zL O (mG t.ins),zA O,Zt⟩ ?_)));refine P4 6 (y6 35 36 37 38 39 3) [(4,3),(5,39),(5,35)] [(4,3),(5,39)] (V4 1 3 4 5) ⟨aU<|zM O,xM O,aU<|P8 O,aU<|zC hC (AL t.ins[i]!.wit.length) O (F1 (.sl _ _ _ (J5 λ_=>.u8 _))),aU<|YC O (P3 (λ_=>rfl)) (show _=((((((N4 t.ver.toUInt64 4++[0,1])++ZT t)++ZO t.ins i)++D7 t.ins[i]!.wit.length)).map D.u8) from(by simp)) (by simp only[z6,q9,K0,j2,j3];omega),aU<|zO O,Zt⟩ O (tU O ?_);refine u4 1 (y1 6) (V5 1 3 4 5 6) ⟨O3 0 O,Zt⟩ ?_;refine W.block ?_;refine P2 (t.ins[i]!.wit.length) (λj=>⟨59,[(1,.ptr 1 0 []),(3,.sl (some 5) 1 ((((((N4 t.ver.toUInt64 4++[0,1])++ZT t)++ZO t.ins i)++D7 t.ins[i]!.wit.length)++UP t.ins[i]!.wit j).map D.u8)),(4,.int ((i:Nat):Int)),(5,.sl none 1 (t.ins[i]!.wit.map YW)),(6,.int ((j:Nat):Int))],[(1,.var (.agg [.u32 t.ver,.sl none 36 (t.ins.map YL),.sl none 2 (t.outs.map r9),.u32 t.lock]))]⟩) (by simp only[UP,m4]) λj hj=>?_;have hjb:=(hx (by omega)).2 j hj;have hjb1:j<t.ins[i]!.wit.length->(UP t.ins[i]!.wit (j+1)).length<=1500000:=λh=>(hx (by omega)).2 (j+1) h
   have hjS:(UP t.ins[i]!.wit (j+1)).length=(UP t.ins[i]!.wit j).length+(UR t.ins[i]!.wit[j]!).length:=by simp[UP]
   have hwl:=(hx (by omega)).1;have hwi:j<t.ins[i]!.wit.length->t.ins[i]!.wit[j]!.length<=1000000:=λh=>hwf.witi _ (X0 (show i<t.ins.length by omega)) _ (X0 h);refine W.seq (u4 4 (y4 40 41 42 43) (V6 1 3 4 5 6 43) ⟨zV O,zV O,P8 O,zS O,Zt⟩ ?_);refine g7 O (λhc43=>?_) (λhc43=>?_)
   ·refine W.skip (W.seq (W.block ?_));refine UZ 8 (y8 46 47 48 49 50 51 52 3) [(6,3),(7,52),(7,46)] [(6,3),(7,52)] (V5 1 3 4 5 6) ⟨aU<|zM O,xM O,xM O,aU<|zI j O,aU<|zL O (b8 (l:=t.ins[i]!.wit) bU),aU<|zC hC (WQ t.ins[i]!.wit[j]! (hwi bO)) O (F1 (.sl _ _ _ (J5 λ_=>.u8 _))),aU<|YC O (P3 (λ_=>rfl)) (show _=((((((N4 t.ver.toUInt64 4++[0,1])++ZT t)++ZO t.ins i)++D7 t.ins[i]!.wit.length)++UP t.ins[i]!.wit (j+1)).map D.u8) from(by simp[UP,w3])) (by simp only[z6,q9,K0,j2,j3];omega),aU<|zO O,Zt⟩ O (tU O ?_);refine n4 3 (y3 44 45 6) (V5 1 3 4 5 6) ⟨zV O,P1 1 O,zA O,Zt⟩ ?_;exact⟨bU,rfl⟩
   ·obtain rfl:j=t.ins[i]!.wit.length:=by omega
    refine W.exit ?_;refine n4 3 (y3 27 28 4) (V3 1 3 4) ⟨zV O,P1 1 O,zA O,Zt⟩ ?_;exact⟨bU,(by simp only[ZO,w3])⟩
  ·obtain rfl:i=t.ins.length:=by omega
   refine W.exit (P4 7 (y7 53 54 55 56 57 58 2) [(5,3),(6,58)] [(5,3),(6,58)] (V1 2) ⟨aU<|zM O,aU (xF O),aU (xL O),aU<|zW O,aU<|CM hC (XQ t.lock.toUInt64 4 dU) O (kI 4 O) (F1 (.sl _ _ _ (J5 λ_=>.u8 _))),aU<|YC O (P3 (λ_=>rfl)) (show _=(((((N4 t.ver.toUInt64 4++[0,1])++ZT t)++ZO t.ins t.ins.length)++N4 t.lock.toUInt64 4).map D.u8) from(by simp)) (by simp only[z6,q9,K0,j2,j3];omega),aU<|zO O,Zt⟩ O (tU O ?_));exact W.ret (En O (by rw[NB,j7 (by simpa using hc9)]))
end
section
open Go.Proofs
theorem SM{l:List InS}{p:Plc}:H3 (ZA l i) p=true↔∃ j<i,plc l[j]! = p:=by
 induction i with
 | zero=>simp[ZA,H3]
 | succ i ih=>
  have e:H3 (ZA l (i+1)) p=(H3 (ZA l i) p||decide (plc l[i]! = p)):=by
   simp only[ZA,H3,T0,ZD,List.any_nil,O4];rfl
  rw[e,K5,ih,decide_eq_true_iff];constructor
  ·rintro (⟨j,hj,h⟩|h)
   ·exact⟨j,by omega,h⟩
   ·exact⟨i,by omega,h⟩
  ·rintro ⟨j,hj,h⟩
   rcases u7.1 hj with h1|rfl
   ·exact .inl ⟨j,h1,h⟩
   ·exact .inr h
theorem j05{l:List InS}{j:Nat}(hj:j<i)(h:plc l[j]! = plc l[i]!):H3 (ZA l i) (plc l[i]!)=true:=SM.2 ⟨j,hj,h⟩
theorem x23{l:List InS}(h:∀ k<i,plc l[k]!≠plc l[i]!):H3 (ZA l i) (plc l[i]!)=false:=by
 cases hh:H3 (ZA l i) (plc l[i]!) with
 | false=>rfl
 | true=>obtain⟨j,hj,he⟩:=SM.1 hh;exact absurd he (h j hj)
theorem y61{t:TxS}(h:16384<(NB t).length):JU t=false:=K7 λhm=>by have:=hm.2.2.2.2;omega
theorem w03{t:TxS}(h1:¬ t.ins.length=0)(h2:¬ t.outs.length=0)(h3:∀ i<t.ins.length,H3 (ZA t.ins i) (plc t.ins[i]!)=false)
 (h4:∀ i<t.outs.length,¬ 2100000000000000<t.outs[i]!.value/\¬ 2100000000000000<HJ t.outs (i+1)) (h5:(NB t).length<=16384):JU t=true:=by
 rw[k49 h1 h2 h3 h4];exact D3 h5
theorem x58{t:TxS}(h:t.wf):(NB t).length<=5000000:=by
 have h1:=h.body;have h2:=h.witsb _ (z5 _);have h3:=h.bareL;unfold NB;split
 ·simp only[q9,K0,j2,j3];omega
 ·omega
end
section
open Go.Proofs
theorem AF(t:TxS)(hwf:t.wf):Fn Tryz.prog gl 109 [r8 t] (.bool (JU t)):=by
 refine Fo 72 Tryz.func109 O λC hC hD=>?_;have h1:=hwf.ins;have h2:=hwf.outs;have hpl:=x58 hwf;refine n5 2 [] (V1 0) Zt O (⟨O,_,R.box (gV 0 O) O O nU,⟨O,_,J9 (kB false O) O nU,tW (V1 1) (B2 1) 72 O ?_⟩⟩);refine W.seq (W.seq ?_);by_cases hz:t.ins.length=0
 ·refine N0 16 [.y 7 _,.y 8 _,.y 9 _,.y 10 _,.y 11 _,.x 12,.x 13,.x 14,.x 15,.y 16 _,.y 17 _,.x 18,.x 19,.x 20,.x 21,.y 22 _] (V2 1 22) ⟨aU (xF O),aU (xL O),aU<|P8 O,aU<|GZ 0 O,xM O,R3 O (dT hz),R3 O (dT hz),R3 O (dT hz),R3 O (dT hz),aU<|EW O (dT hz) (kB true O),xM O,R3 O (O),R3 O (O),R3 O (O),R3 O (O),aU<|EW O (O) (kB true O),Zt⟩ ?_;refine G6 O (O) ?_;refine u4 1 (y1 2) (V1 2) ⟨i6 O,Zt⟩ ?_;exact W.ret (En O (g6 D.bool (w08 hz).symm))
 ·by_cases ho:t.outs.length=0
  ·refine N0 16 [.y 7 _,.y 8 _,.y 9 _,.y 10 _,.y 11 _,.y 12 _,.y 13 _,.y 14 _,.y 15 _,.y 16 _,.y 17 _,.x 18,.x 19,.x 20,.x 21,.y 22 _] (V2 1 22) ⟨aU (xF O),aU (xL O),aU<|P8 O,aU<|GZ 0 O,xM O,aN O (dF hz) (xF O),aN O (dF hz) (xL O),aN O (dF hz)<|P8 O,aN O (dF hz)<|GZ 0 O,aU<|zF O (dF hz),xM O,R3 O (dT ho),R3 O (dT ho),R3 O (dT ho),R3 O (dT ho),aU<|EW O (dT ho) (kB true O),Zt⟩ ?_;refine G6 O (O) ?_;refine u4 1 (y1 2) (V1 2) ⟨i6 O,Zt⟩ ?_;exact W.ret (En O (g6 D.bool (w07 ho).symm))
  ·refine N0 16 (g85 7 8 9 10 11 12 13 14 15 16 17 18 19 20 21 22) (V2 1 22) ⟨aU (xF O),aU (xL O),aU<|P8 O,aU<|GZ 0 O,xM O,aN O (dF hz) (xF O),aN O (dF hz) (xL O),aN O (dF hz)<|P8 O,aN O (dF hz)<|GZ 0 O,aU<|zF O (dF hz),xM O,aN O (dF ho) (xL O),aN O (dF ho)<|zC hC (u84 t hwf) O (F1 (.sl _ _ _ (J5 λ_=>.u8 _))),aN O (dF ho)<|P8 O,aN O (dF ho)<|OE 16384 O,aU<|zF O (dF ho),Zt⟩ ?_;refine g7 O (λhc22=>?_) (λhc22=>?_)
   ·refine u4 1 (y1 2) (V1 2) ⟨i6 O,Zt⟩ ?_;exact W.ret (En O (g6 D.bool (y61 hc22).symm))
   ·refine W.skip (W.seq (u4 1 (y1 3) (V2 1 3) ⟨O3 0 O,Zt⟩ ?_));refine W.block ?_;refine UK t.ins.length (λq__=>∀ j<q__,H3 (ZA t.ins j) (plc t.ins[j]!)=false) (λi=>⟨72,[(1,.ptr 1 0 []),(3,.int ((i:Nat):Int))],[(1,.var (.agg [.u32 t.ver,.sl none 36 (t.ins.map YL),.sl none 2 (t.outs.map r9),.u32 t.lock]))]⟩) ⟨v6 _,λj h=>absurd h (g9 _)⟩ O λi hinv=>?_;obtain⟨hi,hno⟩:=hinv;have hi:i<=t.ins.length:=hi;have hno:∀ j<i,H3 (ZA t.ins j) (plc t.ins[j]!)=false:=hno;refine W.seq (u4 5 (y5 23 24 25 26 27) (V3 1 3 27) ⟨zV O,xF O,xL O,P8 O,zS O,Zt⟩ ?_);refine g7 O (λhc27=>?_) (λhc27=>?_)
    ·refine W.skip (W.seq (W.block (u4 1 (y1 4) (V3 1 3 4) ⟨O3 0 O,Zt⟩ ?_)));refine W.block ?_;refine UK i (λq__=>∀ k<q__,plc t.ins[k]!≠plc t.ins[i]!) (λj=>⟨72,[(1,.ptr 1 0 []),(3,.int ((i:Nat):Int)),(4,.int ((j:Nat):Int))],[(1,.var (.agg [.u32 t.ver,.sl none 36 (t.ins.map YL),.sl none 2 (t.outs.map r9),.u32 t.lock]))]⟩) ⟨v6 _,λj h=>absurd h (g9 _)⟩ O λj hinv=>?_;obtain⟨hj,hne⟩:=hinv;have hj:j<=i:=hj;have hne:∀ k<j,plc t.ins[k]!≠plc t.ins[i]!:=hne;refine W.seq (u4 3 (y3 30 31 32) (V4 1 3 4 32) ⟨zV O,zV O,zS O,Zt⟩ ?_);refine g7 O (λhc32=>?_) (λhc32=>?_)
     ·refine W.skip (W.seq (W.block (W.seq ?_)));refine R5 13 [0,1,0,7,15,31,0,64,0,448,960,1984,4095] hP dU (v96 35 36 37 38 39 40 41 42 43 44 45 46 47) (V4 1 3 4 47) ⟨xF O,xL O,zV O,zI i O,r7 O,zL O (mG t.ins),xF O,xL O,zV O,zI j O,r7 O,zL O (mG t.ins),λ_ _ H K=>R.eqD (neg:=false) (b':=(plc t.ins[i]! == plc t.ins[j]!)) (ZH (plc t.ins[i]!) (plc t.ins[j]!)) O (eU K 40 O) (eU K 46 O) O O O O (O) H,Zt⟩ O (tW (V4 1 3 4 47) (B2 1) 72 O ?_);refine W.cond O (λhc47=>?_) (λhc47=>?_)
      ·refine u4 1 (y1 2) (V1 2) ⟨i6 O,Zt⟩ ?_;exact W.ret (En O (g6 D.bool (w06 hc27 (j05 hc32 (d5.1 hc47).symm)).symm))
      ·refine W.skip ?_;refine n4 3 (y3 33 34 4) (V3 1 3 4) ⟨zV O,P1 1 O,zA O,Zt⟩ ?_;exact⟨⟨by omega,λk hk=>(u7.1 hk).elim (hne k) (λe=>by rw[e];exact λhe=>by have:=d5.2 he.symm;rw[hc47] at this;cases this)⟩,rfl⟩
     ·obtain rfl:i=j:=by omega
      refine W.exit ?_;refine n4 3 (y3 28 29 3) (V2 1 3) ⟨zV O,P1 1 O,zA O,Zt⟩ ?_;exact⟨⟨by omega,λk hk=>(u7.1 hk).elim (hno k) (λe=>by rw[e];exact x23 hne)⟩,rfl⟩
    ·obtain rfl:i=t.ins.length:=by omega
     refine W.exit (u4 1 (y1 5) (V2 1 5) ⟨q42 (.u64 0) O,Zt⟩ ?_);refine W.seq (u4 1 (y1 6) (V3 1 5 6) ⟨O3 0 O,Zt⟩ ?_);refine W.block ?_;refine UK t.outs.length (λq__=>∀ j<q__,¬ 2100000000000000<t.outs[j]!.value/\¬ 2100000000000000<HJ t.outs (j+1)) (λi=>⟨72,[(1,.ptr 1 0 []),(5,.u64 (HJ t.outs i)),(6,.int ((i:Nat):Int))],[(1,.var (.agg [.u32 t.ver,.sl none 36 (t.ins.map YL),.sl none 2 (t.outs.map r9),.u32 t.lock]))]⟩) ⟨v6 _,λj h=>absurd h (g9 _)⟩ O λi hinv=>?_;obtain⟨hi,hmo⟩:=hinv;have hi:i<=t.outs.length:=hi;have hmo:∀ j<i,¬ 2100000000000000<t.outs[j]!.value/\¬ 2100000000000000<HJ t.outs (j+1):=hmo;refine W.seq (u4 5 (y5 48 49 50 51 52) (V4 1 5 6 52) ⟨zV O,xF O,xL O,P8 O,zS O,Zt⟩ ?_);refine g7 O (λhc52=>?_) (λhc52=>?_)
     ·refine W.skip (W.seq (W.block (W.seq (u4 7 (y7 55 56 57 58 59 60 61) (V4 1 5 6 61) ⟨xF O,xL O,zV O,zI i O,r7 O,zL O (mG t.outs),ZP O (kW (.int .u64 2100000000000000) (.u64 2100000000000000) O),Zt⟩ ?_))));refine W.cond O (λhc61=>?_) (λhc61=>?_)
      ·refine u4 1 (y1 2) (V1 2) ⟨i6 O,Zt⟩ ?_;exact W.ret (En O (g6 D.bool (w05 hc52 (v7 hc61)).symm))
      ·refine W.skip (u4 9 (y9 62 63 64 65 66 67 68 69 5) (V3 1 5 6) ⟨zV O,xF O,xL O,zV O,zI i O,r7 O,zL O (mG t.outs),zB O,zA O,Zt⟩ ?_);refine u4 2 (y2 70 71) (V4 1 5 6 71) ⟨zV O,ZP O (kW (.int .u64 2100000000000000) (.u64 2100000000000000) O),Zt⟩ ?_;refine W.cond O (λhc71=>?_) (λhc71=>?_)
       ·refine u4 1 (y1 2) (V1 2) ⟨i6 O,Zt⟩ ?_;exact W.ret (En O (g6 D.bool (w04 hc52 (v7 hc71)).symm))
       ·refine W.skip ?_;refine n4 3 (y3 53 54 6) (V3 1 5 6) ⟨zV O,P1 1 O,zA O,Zt⟩ ?_;exact⟨⟨by omega,λj hj=>(u7.1 hj).elim (hmo j) (λe=>e▸⟨d6 hc61,d6 hc71⟩)⟩,rfl⟩
     ·obtain rfl:i=t.outs.length:=by omega
      refine W.exit (u4 1 (y1 2) (V1 2) ⟨i6 O,Zt⟩ ?_);exact W.ret (En O (g6 D.bool (w03 hz ho hno hmo bO).symm))
end
section
open Go.Proofs
theorem HY(o:OutS)(sc:Hs)(ho:o.script.length<=1000000):Fn Tryz.prog gl 68 [r9 o,w7 sc] (.bool (UF o sc)):=by
 refine Fo 10 Tryz.func68 O λC hC hD=>?_;refine n5 3 [] (V2 0 1) Zt O (⟨O,_,R.box (gV 0 O) O O nU,⟨O,_,R.box (gV 1 O) O O nU,⟨O,_,J9 (kB false O) O nU,tW (V2 2 3) (B7 3 2) 10 O ?_⟩⟩⟩);refine W.seq ?_;refine R5 6 [0,1,3,0,15,31] hP dU (y6 5 6 7 8 9 4) (V1 4) ⟨xF O,xL O,zC hC (PP o.script (v5 ho dU)) O (F1 (X6 _)),xL O,λ_ _ H K=>OO (eU K 7 O) (eU K 8 O) H,zA O,Zt⟩ O (tW (V1 4) (B7 3 2) 10 O ?_);exact W.ret (Eo O)
theorem q87(l:List StS)(hl:allSt l)(before:Nat)(p:Plc)(hb0:before<=l.length):Fn Tryz.prog gl 69 [.sl none 38 (l.map ZY),.int ((before:Nat):Int),j1 p] (.tup [r9 ((I1 l before p).getD (⟨0,[]⟩:OutS)),.bool (I1 l before p).isSome]):=by
 refine Fo 47 Tryz.func69 O λC hC hD=>?_;have hl1:=hl.1;refine n5 3 [] (V3 0 1 2) Zt O (⟨O,_,R.box (gV 2 O) O O nU,(I9 O ⟨O,_,J9 (kB false O) O nU,tW (V4 0 1 5 6) (B7 6 5) 47 O ?_⟩)⟩);refine W.seq (u4 1 (y1 8) (V5 0 1 5 6 8) ⟨O3 0 O,Zt⟩ ?_);refine W.block ?_;refine UK before (λq__=>I1 l q__ p=none) (λi=>⟨47,[(0,.sl none 38 (l.map ZY)),(1,.int ((before:Nat):Int)),(5,.ptr 5 0 []),(6,.ptr 6 0 []),(8,.int ((i:Nat):Int))],[(6,.var (.agg [.u64 0,.nils])),(5,.var (j1 p))]⟩) ⟨v6 _,O⟩ O λi hinv=>?_;obtain⟨hi,hno⟩:=hinv;have hi:i<=before:=hi;have hno:I1 l i p=none:=hno;have hsi:=λ(h:i<before)=>hl.get (show i<l.length by omega);refine W.seq (u4 3 (y3 9 10 11) (V6 0 1 5 6 8 11) ⟨zV O,zV O,zS O,Zt⟩ ?_);refine g7 O (λhc11=>?_) (λhc11=>?_)
 ·refine W.skip (W.seq (W.block (W.seq ?_)));by_cases h1:(l[i]!.id==p.1)=true
  ·have hsi:=hsi hc11;refine KF 22 [0,0,3,7,15,0,32,127,255,511,1023,2047,511,511,12799,29183,61951,127487,258559,520703,1048575,2097151] hP dU [.y 14 _,.y 15 _,.y 16 _,.y 17 _,.y 18 _,.y 19 _,.y 20 _,.y 21 _,.y 22 _,.y 23 _,.y 24 _,.y 25 _,.y 26 _,.y 27 _,.y 28 _,.y 29 _,.y 30 _,.y 31 _,.y 32 _,.y 33 _,.y 34 _,.y 35 _] [] [] (V6 0 1 5 6 8 35) ⟨xM O,xM O,aU<|zI i O,aU<|r7 O,aU<|zL O (mG l),aU (xF O),aU (xL O),aU λ_ _ H K=>OO (eU K 18 O) (eU K 20 O) H,xM O,aT O (h1) (xF O),aT O (h1) (xL O),aT O (h1)<|zW O,aT O (h1)<|zV O,aT O (h1)<|zV O,aT O (h1)<|zI i O,aT O (h1)<|r7 O,aT O (h1)<|r7 O,aT O (h1)<|zL O (mG l),aT O (h1)<|P8 O,aT O (h1)<|zW O,aT O (h1)<|zB O,aU<|zT O (h1),Zt⟩ O (tW (V6 0 1 5 6 8 35) (B7 6 5) 47 O ?_);refine W.cond O (λhc35=>?_) (λhc35=>?_)
   ·refine W.seq ?_;have hlt:=(w34 h1 hsi.2.2.2 hc35).2;refine R5 10 [0,0,3,7,15,31,0,64,255,511,1023,2047] hP dU (VU 36 37 38 39 40 41 42 43 44 45) (V2 6 45) ⟨zV O,zV O,zI i O,r7 O,r7 O,zL O (mG l),xF O,xL O,λ_ _ H K=>R.idxN (p.2.toNat) (SC.sl (K 41 _ O)) (g69 (eU K 43 O)) O bU H dU,zL O (b8 (l:=l[i]!.t.outs) bU),Zt⟩ O (M9 O ⟨O,_,J9 (kB true O) O nU,tW (V2 6 7) (B7 6 5) 47 O ?_⟩);exact W.ret (Ends.many (.inr O) (.cons O O O (iL 115 2) (.cons O O O Zt .nil)) (by rw[u94 hno (w34 h1 hsi.2.2.2 hc35).1 hc11]<;>rfl) (show[(6,false),(7,true)].Nodup by decide))
   ·refine W.skip ?_;refine n4 3 (y3 12 13 8) (V5 0 1 5 6 8) ⟨zV O,P1 1 O,zA O,Zt⟩ ?_;exact⟨⟨(by show i+1<=before;omega),(by first|exact AR hno (w37 (bfalse h1))|exact AR hno (w35 h1 hsi.2.2.2 hc35))⟩,rfl⟩
  ·have hsi:=hsi hc11;refine KF 22 [0,0,3,7,15,0,32,127,255,511,1023,2047,511,511,12799,29183,61951,127487,258559,520703,1048575,2097151] hP dU [.y 14 _,.y 15 _,.y 16 _,.y 17 _,.y 18 _,.y 19 _,.y 20 _,.y 21 _,.y 22 _,.x 23,.x 24,.x 25,.x 26,.x 27,.x 28,.x 29,.x 30,.x 31,.x 32,.x 33,.x 34,.y 35 _] [] [] (V6 0 1 5 6 8 35) ⟨xM O,xM O,aU<|zI i O,aU<|r7 O,aU<|zL O (mG l),aU (xF O),aU (xL O),aU λ_ _ H K=>OO (eU K 18 O) (eU K 20 O) H,xM O,O5 O (bfalse h1),O5 O (bfalse h1),O5 O (bfalse h1),O5 O (bfalse h1),O5 O (bfalse h1),O5 O (bfalse h1),O5 O (bfalse h1),O5 O (bfalse h1),O5 O (bfalse h1),O5 O (bfalse h1),O5 O (bfalse h1),O5 O (bfalse h1),aU<|FQ O (bfalse h1) (kB false O),Zt⟩ O (tW (V6 0 1 5 6 8 35) (B7 6 5) 47 O ?_);refine Y7 O (O) ?_;refine W.skip ?_;refine n4 3 (y3 12 13 8) (V5 0 1 5 6 8) ⟨zV O,P1 1 O,zA O,Zt⟩ ?_;exact⟨⟨(by show i+1<=before;omega),(by first|exact AR hno (w37 (bfalse h1))|exact AR hno (w35 h1 hsi.2.2.2 hc35))⟩,rfl⟩
 ·obtain rfl:i=before:=by omega
  refine W.exit (n5 3 (y1 46) (V2 6 46) ⟨λ_ _ H _=>P5 (l:=[.u64 0,.nils]) (l':=[_,_]) (.nil O) Zt H,Zt⟩ O (M9 O ⟨O,_,J9 (kB false O) O nU,tW (V2 6 7) (B7 6 5) 47 O ?_⟩));refine z47 6 (d':=r9 ⟨0,[]⟩) (bx':=(B7 6 5)) O u54 O ?_;exact W.ret (Ends.many (.inr O) (.cons O O O (iL 115 2) (.cons O O O Zt .nil)) (by rw[hno]<;>rfl) (show[(6,false),(7,true)].Nodup by decide))
theorem j38(l:List BlkS)(hl:allBl l)(sc:Hs):Fn Tryz.prog gl 21 [.sl none 69 (l.map J7),w7 sc] (.sl (some 119) 33 ((IW l sc).map NK)):=by
 refine Fo 98 Tryz.func21 O λC hC hD=>?_;have hsa:=JJ hl;have hal:=hsa.1;refine n5 2 [] (V2 0 1) Zt O (⟨O,_,R.box (gV 1 O) O O nU,⟨O,_,J9 (kN O) O nU,tW (V2 0 3) (B2 3) 98 O ?_⟩⟩);refine P4 3 (y3 13 14 5) [(2,14)] [(2,14)] (V2 3 5) ⟨xM O,aU λ_ _ H K=>l7 hC (CD l hl) (EvP.cons (eU K 13 O) O O EvP.nil) H,aU<|zO O,Zt⟩ O (tU O ?_);refine W.seq ?_;refine CB (s:=5) (d':=.sl none 38 ((K6 l).map ZY)) O O (MA _ _ _) ?_;refine n4 1 (y1 6) (V3 3 5 6) ⟨i6 O,Zt⟩ ?_;refine W.seq (u4 1 (y1 7) (V4 3 5 6 7) ⟨O3 0 O,Zt⟩ ?_);refine W.block ?_;refine O6 (s:=6) 119 33 O ?_;refine P2 ((K6 l).length) (λi=>⟨98,[(3,.ptr 3 0 []),(5,.sl none 38 ((K6 l).map ZY)),(6,.sl (some 119) 33 ((GO (K6 l) sc i).map NK)),(7,.int ((i:Nat):Int))],[(3,.var (w7 sc))]⟩) O λi hi=>?_;have hhl:=z05 (K6 l) sc i;have hsi:=λ(h:i<(K6 l).length)=>hsa.get h;refine W.seq (u4 4 (y4 15 16 17 18) (V5 3 5 6 7 18) ⟨zV O,zV O,P8 O,zS O,Zt⟩ ?_);refine g7 O (λhc18=>?_) (λhc18=>?_)
 ·refine W.skip (W.seq (W.block (W.seq ?_)));have hsi:=hsi hc18;have hin:=hsi.2.2.1;have hout:=hsi.2.2.2;refine n4 1 (y1 8) (V5 3 5 6 7 8) ⟨i6 O,Zt⟩ ?_;refine W.seq (u4 1 (y1 9) (V6 3 5 6 7 8 9) ⟨O3 0 O,Zt⟩ ?_);refine W.block ?_;refine P2 ((K6 l)[i]!.t.outs.length) (λk=>⟨98,[(3,.ptr 3 0 []),(5,.sl none 38 ((K6 l).map ZY)),(6,.sl (some 119) 33 ((GO (K6 l) sc i).map NK)),(7,.int ((i:Nat):Int)),(8,.bool (j76 (K6 l)[i]!.t sc k)),(9,.int ((k:Nat):Int))],[(3,.var (w7 sc))]⟩) O λk hk=>?_;refine W.seq (u4 9 (y9 21 22 23 24 25 26 27 28 29) (V7 3 5 6 7 8 9 29) ⟨zV O,zV O,zV O,zI i O,r7 O,r7 O,zL O (mG (K6 l)),P8 O,zS O,Zt⟩ ?_);refine g7 O (λhc29=>?_) (λhc29=>?_)
  ·refine W.skip (W.seq (W.block ?_));by_cases hbo:j76 (K6 l)[i]!.t sc k=true
   ·refine KF 15 [0,1,3,3,15,31,63,127,3,511,1023,3,4095,8191,16383] hP dU [.y 32 _,.y 33 _,.x 34,.x 35,.x 36,.x 37,.x 38,.x 39,.x 40,.x 41,.x 42,.x 43,.x 44,.y 45 _,.y 8 _] [] [] (V6 3 5 6 7 8 9) ⟨xM O,xM O,R3 O (hbo),R3 O (hbo),R3 O (hbo),R3 O (hbo),R3 O (hbo),R3 O (hbo),R3 O (hbo),R3 O (hbo),R3 O (hbo),R3 O (hbo),R3 O (hbo),aU<|EW O (hbo) (kB true O),aU<|zA O,Zt⟩ O (tW (V6 3 5 6 7 8 9) (B2 3) 98 O ?_);refine n4 3 (y3 30 31 9) (V6 3 5 6 7 8 9) ⟨zV O,P1 1 O,zA O,Zt⟩ ?_;exact⟨bU,(by first|(rw[v77 hbo]<;>rfl)|(rw[v78 (bfalse hbo)]<;>rfl))⟩
   ·refine KF 15 [0,1,3,3,15,31,63,127,3,511,1023,3,4095,8191,16383] hP dU (g08 32 33 34 35 36 37 38 39 40 41 42 43 44 45 8) [] [] (V6 3 5 6 7 8 9) ⟨xM O,xM O,aN O (bfalse hbo)<|zV O,aN O (bfalse hbo)<|zV O,aN O (bfalse hbo)<|zI i O,aN O (bfalse hbo)<|r7 O,aN O (bfalse hbo)<|r7 O,aN O (bfalse hbo)<|zL O (mG (K6 l)),aN O (bfalse hbo)<|zV O,aN O (bfalse hbo)<|zI k O,aN O (bfalse hbo)<|zL O (b8 (l:=((K6 l))[i]!.t.outs) bU),aN O (bfalse hbo) (xL O),aN O (bfalse hbo)<|zD hC (HY (K6 l)[i]!.t.outs[k]! sc (hsi.2.1.outScript bO)) O (F1 (.bool _)),aU<|zF O (bfalse hbo),aU<|zA O,Zt⟩ O (tW (V6 3 5 6 7 8 9) (B2 3) 98 O ?_);refine n4 3 (y3 30 31 9) (V6 3 5 6 7 8 9) ⟨zV O,P1 1 O,zA O,Zt⟩ ?_;exact⟨bU,(by first|(rw[v77 hbo]<;>rfl)|(rw[v78 (bfalse hbo)]<;>rfl))⟩
  ·obtain rfl:k=(K6 l)[i]!.t.outs.length:=by omega
   refine W.exit (W.seq (u4 1 (y1 10) (V6 3 5 6 7 8 10) ⟨O3 0 O,Zt⟩ ?_));refine W.block ?_;refine P2 ((K6 l)[i]!.t.ins.length) (λk=>⟨98,[(3,.ptr 3 0 []),(5,.sl none 38 ((K6 l).map ZY)),(6,.sl (some 119) 33 ((GO (K6 l) sc i).map NK)),(7,.int ((i:Nat):Int)),(8,.bool (j76 (K6 l)[i]!.t sc (K6 l)[i]!.t.outs.length||j22 (K6 l) i sc k)),(10,.int ((k:Nat):Int))],[(3,.var (w7 sc))]⟩) (by rw[g45,O4]<;>rfl) λk hk=>?_;refine W.seq (u4 9 (y9 46 47 48 49 50 51 52 53 54) (V7 3 5 6 7 8 10 54) ⟨zV O,zV O,zV O,zI i O,r7 O,r7 O,zL O (mG (K6 l)),P8 O,zS O,Zt⟩ ?_);refine g7 O (λhc54=>?_) (λhc54=>?_)
   ·refine W.skip (W.seq (W.block (n5 19 (g85 58 59 60 61 62 63 64 65 66 67 68 69 70 57 71 72) (V8 3 5 6 7 8 10 71 72) ⟨zV O,zV O,zV O,zV O,zI i O,r7 O,r7 O,zL O (mG (K6 l)),zV O,zI k O,r7 O,zL O (b8 (l:=((K6 l))[i]!.t.ins) bU),λ_ _ H K=>l7 hC (q87 (K6 l) hsa i (plc (K6 l)[i]!.t.ins[k]!) bO) (EvP.cons (eU K 58 O) O O (EvP.cons (eU K 59 O) O O (EvP.cons (eU K 69 O) O O EvP.nil))) H,zY O,zX O,zX O,Zt⟩ O (I9 O (M9 O (GK O (tW (V8 3 5 6 7 8 10 11 12) (B7 11 3) 98 O ?_)))))));by_cases hb3:(j76 (K6 l)[i]!.t sc (K6 l)[i]!.t.outs.length||j22 (K6 l) i sc k)=true
    ·refine N0 10 [.y 73 _,.y 74 _,.x 75,.x 76,.x 77,.x 78,.x 79,.x 80,.y 81 _,.y 8 _] (V6 3 5 6 7 8 10) ⟨xM O,xM O,R3 O (hb3),R3 O (hb3),⟨O,⟨_,76,O,O,.inr ⟨O,O⟩⟩,λh=>absurd h dU⟩,⟨O,⟨_,76,O,O,.inr ⟨O,O⟩⟩,λh=>absurd h dU⟩,⟨O,⟨_,76,O,O,.inr ⟨O,O⟩⟩,λh=>absurd h dU⟩,R3 O (hb3),aU<|EW O (hb3) (kB true O),aU<|zA O,Zt⟩ ?_;refine H6 [3] (bx':=(B2 3)) O O O (o8 hD O) ?_;refine n4 3 (y3 55 56 10) (V6 3 5 6 7 8 10) ⟨zV O,P1 1 O,zA O,Zt⟩ ?_;exact⟨bU,(by first|(rw[x74 hb3]<;>rfl)|(rw[x73 (bfalse hb3) hb4]<;>rfl)|(rw[x75 (bfalse hb3) (bfalse hb4)]<;>rfl))⟩
    ·by_cases hb4:(I1 (K6 l) i (plc (K6 l)[i]!.t.ins[k]!)).isSome=true
     ·refine N0 10 (VU 73 74 75 76 77 78 79 80 81 8) (V6 3 5 6 7 8 10) ⟨xM O,xM O,aN O (bfalse hb3)<|zV O,aN O (bfalse hb3)<|zV O,aT O (hb4) (xL O),aT O (hb4) (xL O),aT O (hb4)<|zD hC (HY ((I1 (K6 l) i (plc (K6 l)[i]!.t.ins[k]!)).getD (⟨0,[]⟩:OutS)) sc (j14 hsa bO)) O (F1 (.bool _)),aN O (bfalse hb3)<|zT O (hb4),aU<|zF O (bfalse hb3),aU<|zA O,Zt⟩ ?_;refine H6 [3] (bx':=(B2 3)) O O O (o8 hD O) ?_;refine n4 3 (y3 55 56 10) (V6 3 5 6 7 8 10) ⟨zV O,P1 1 O,zA O,Zt⟩ ?_;exact⟨bU,(by first|(rw[x74 hb3]<;>rfl)|(rw[x73 (bfalse hb3) hb4]<;>rfl)|(rw[x75 (bfalse hb3) (bfalse hb4)]<;>rfl))⟩
     ·refine N0 10 [.y 73 _,.y 74 _,.y 75 _,.y 76 _,.x 77,.x 78,.x 79,.y 80 _,.y 81 _,.y 8 _] (V6 3 5 6 7 8 10) ⟨xM O,xM O,aN O (bfalse hb3)<|zV O,aN O (bfalse hb3)<|zV O,O5 O (bfalse hb4),O5 O (bfalse hb4),O5 O (bfalse hb4),aN O (bfalse hb3)<|FQ O (bfalse hb4) (kB false O),aU<|zF O (bfalse hb3),aU<|zA O,Zt⟩ ?_;refine H6 [3] (bx':=(B2 3)) O O O (o8 hD O) ?_;refine n4 3 (y3 55 56 10) (V6 3 5 6 7 8 10) ⟨zV O,P1 1 O,zA O,Zt⟩ ?_;exact⟨bU,(by first|(rw[x74 hb3]<;>rfl)|(rw[x73 (bfalse hb3) hb4]<;>rfl)|(rw[x75 (bfalse hb3) (bfalse hb4)]<;>rfl))⟩
   ·obtain rfl:k=(K6 l)[i]!.t.ins.length:=by omega
    refine W.exit (u4 1 (y1 82) (V5 3 5 6 7 82) ⟨zV O,Zt⟩ ?_);refine W.cond O (λhc82=>?_) (λhc82=>?_)
    ·refine LS (m:=15) (an:=[0,0,0,6,14,30,0,0,192,448,960,2046,4094,8191,16383]) hP dU O (its:=[.y 83 _,.y 84 _,.y 85 _,.y 86 _,.y 87 _,.y 88 _,.y 89 _,.y 90 _,.y 91 _,.y 92 _,.y 93 _,.y 94 _,.y 95 _,.y 96 _,.y 6 _]) (ks:=[(13,6),(14,96),(14,83)]) (kk:=[(13,6),(14,96)]) (live:=[3,5,6,7]) (env':=[(3,_),(5,_),(6,_),(7,_)]) (⟨nU O,O,⟨aU λ_ _ H K=>R.al (K 6 _ O) H dU,xM O,xM O,aU λ_ _ H K=>R.idxN (i) (SC.sl (K 84 _ O)) (C4 (eU K 85 O)) O bU H dU,aU λ_ _ H K=>R.fdE (K 86 _ O) H dU,aU λ_ _ H K=>R.ldE (K 87 _ O) (SC.sl (K 84 _ O)) (b8 (l:=(K6 l)) bU) O O O O H,xM O,xM O,aU λ_ _ H K=>R.idxN (i) (SC.sl (K 89 _ O)) (C4 (eU K 90 O)) O bU H dU,aU λ_ _ H K=>R.fdE (K 91 _ O) H dU,aU λ_ _ H K=>R.ldE (K 92 _ O) (SC.sl (K 89 _ O)) (b8 (l:=(K6 l)) bU) O O O O H,aU λ_ _ H K=>P5 (l:=[.int 0,.arr 32 1 ((List.replicate 32 0).map D.u8)]) (l':=[_,_]) (.cons (eU K 88 O) (.cons (eU K 93 O) (.nil O))) ⟨⟨_,(eU K 88 O),O,O,O⟩,⟨⟨_,(eU K 93 O),O,O,y22 O⟩,Zt⟩⟩ H,aU λ_ _ H K=>J3 (z:=33) (.cons (eU K 94 O) .nil) ⟨⟨O,O,O⟩,Zt⟩ O H dU,aU λ_ _ H K=>R0 (Or.inr (K 83 _ O)) (K 6 _ O) (SrcO.sc (SC.sl (K 95 _ O)) (G5 O)) (show _=((GO (K6 l) sc (i+1)).map NK) from(w29 hc82)) (by simp only[z6,j2,j3];omega) H dU dU,aU λ_ _ H K=>R.asgO (K 96 _ O) O H dU,Zt⟩,O,O,O⟩) O (bx':=[(3,.var _)]) O (n':=98) O (tW [(3,_),(5,_),(6,_),(7,_)] [(3,.var _)] 98 O ?_);refine n4 3 (y3 19 20 7) (V4 3 5 6 7) ⟨zV O,P1 1 O,zA O,Zt⟩ ?_;exact⟨bU,(by first|(rw[z82 hc82]<;>rfl)|rfl)⟩
    ·refine W.skip ?_;refine n4 3 (y3 19 20 7) (V4 3 5 6 7) ⟨zV O,P1 1 O,zA O,Zt⟩ ?_;exact⟨bU,(by first|(rw[z82 hc82]<;>rfl)|rfl)⟩
 ·obtain rfl:i=(K6 l).length:=by omega
  refine W.exit (P4 2 (y2 97 4) [(0,6),(1,97)] [(0,6),(1,97)] (V1 4) ⟨aU λ_ _ H K=>ZX (K 6 _ O) O H dU,aU<|zO O,Zt⟩ O (tU O ?_));exact W.ret (Eo O)
end
section
open Go.Proofs
set_option maxHeartbeats 1000000 in
theorem j30(l:List BlkS)(n q cap m:Nat)(hl:smBl l)(hn:n<l.length)(hm:l.length=m):FnB Tryz.prog gl 59 [.bs 0 69 m cap,.int ((n:Nat):Int)] [(0,.var (.agg (l.map J7++List.replicate q .dead)))] (.tup []) [(0,.var (.agg ((IC l n).map J7++List.replicate q .dead)))] []:=by
 refine FnB.of (n:=56) (ids:=[0]) Tryz.func59 rfl rfl rfl (nU rfl) λC hC hD=>?_;have hl0:=hl.1;have hbs:=hl.get hn;have hbw:=hbs.wf;have hbl:=hbw.len;refine u4 1 (y1 4) (V3 0 1 4) ⟨i6 O,Zt⟩ ?_;refine W.seq (u4 1 (y1 5) (V4 0 1 4 5) ⟨O3 0 O,Zt⟩ ?_);refine W.block ?_;refine O6 (s:=4) 23 32 O ?_;refine P2 (l[n]!.txs.length) (λi=>⟨56,[(0,.bs 0 69 m cap),(1,.int ((n:Nat):Int)),(4,.sl (some 23) 32 ((BK l[n]!.txs i).map w7)),(5,.int ((i:Nat):Int))],[(0,.var (.agg (l.map J7++List.replicate q .dead)))]⟩) O λi hi=>?_;refine W.seq (u4 8 (y8 7 8 9 10 11 12 13 14) (V5 0 1 4 5 14) ⟨zV O,zV O,zV O,λ_ _ H K=>R.idxBs (n) (K 8 _ O) (C4 (eU K 9 O)) O bU H,xF O,λ_ B H K=>R.ldP (K 11 _ O) (B 0 _ O) (XW (f:=J7) (z:=69) (λ_=>rfl) bU (Z9 (m:=68) O O Q2 O) bU) O O O H,P8 O,zS O,Zt⟩ ?_);refine g7 O (λhc14=>?_) (λhc14=>?_)
 ·refine W.skip (W.seq (W.block ?_));refine UZ 13 (v96 17 18 19 20 21 22 23 24 25 26 27 28 4) [(11,4),(12,28),(12,17)] [(11,4),(12,28)] (V4 0 1 4 5) ⟨aU<|zM O,xM O,xM O,aU λ_ _ H K=>R.idxBs (n) (K 18 _ O) (C4 (eU K 19 O)) O bU H,aU (xF O),aU λ_ B H K=>R.ldP (K 21 _ O) (B 0 _ O) (XW (f:=J7) (z:=69) (λ_=>rfl) bU (Z9 (m:=68) O O Q2 O) bU) O O O H,xM O,aU<|zI i O,aU<|zL O (b8 (l:=l[n]!.txs) bU),aU<|zC hC (FA l[n]!.txs[i]! (hbw.get bO)) O (F1 (X6 _)),aU λ_ _ H K=>J3 (z:=32) (.cons (eU K 26 O) .nil) ⟨⟨O,O,O⟩,Zt⟩ O H dU,aU<|YC O (G5 O) (show _=((BK l[n]!.txs (i+1)).map w7) from(MK bO)) (by simp only[z6,MZ hi,j2,j3];omega),aU<|zO O,Zt⟩ O (tU O ?_);refine n4 3 (y3 15 16 5) (V4 0 1 4 5) ⟨zV O,P1 1 O,zA O,Zt⟩ ?_;exact⟨bU,rfl⟩
 ·obtain rfl:i=l[n]!.txs.length:=by omega
  rw[MJ];refine W.exit (n5 8 (y7 29 30 31 32 33 34 35) (V4 0 1 32 35) ⟨zV O,zV O,zM O,λ_ _ H K=>Z7 hC (PM (l[n]!.txs.map ZM) (HC _) (by rw[z6];omega)) (Bc (Bor.sc (SC.al (K 31 _ O) (K 4 _ O)) (J6 W3)) Bn) (F1 (X6 _)) H,λ_ _ H K=>R.idxBs (n) (K 29 _ O) (C4 (eU K 30 O)) O bU H,xF O,xF O,Zt⟩ O (⟨O,_,ZV (gU 35 O) (xU 0 O) (XW (f:=J7) (z:=69) (λ_=>rfl) bU (Z9 (m:=0) O O (Z9 (m:=33) O O Q2 O) O) bU) (gV 32 O) (by rfl) (by rfl) (by rfl) (by rfl) (EE (f:=J7) (y:=(q72 l[n]!)) bU (x31 _)),tW (V2 0 1) (B2 0) 56 O ?_⟩));refine u4 3 (y3 36 37 6) (V2 0 6) ⟨zV O,P1 1 O,zA O,Zt⟩ ?_;refine W.block ?_;refine W.loop (α:={q__:Nat//n+1+q__<=l.length}) (λq__=>⟨56,[(0,.bs 0 69 m cap),(6,.int (((n+1+q__.1):Nat):Int))],[(0,.var (.agg ((UI l n q__.1).map J7++List.replicate q .dead)))]⟩) (λq__=>l.length-(n+1+q__.1)) ⟨(0),bU⟩ O ?_;rintro ⟨j,hj⟩;show W _ _ _ _ ⟨56,[(0,.bs 0 69 m cap),(6,.int (((n+1+j):Nat):Int))],[(0,.var (.agg ((UI l n j).map J7++List.replicate q .dead)))]⟩;have hj:n+1+j<=l.length:=hj;have hml:=NA l n j;have hms:=λ(h:n+j<l.length)=>q96 hl hn j h;refine W.seq (u4 4 (y4 38 39 40 41) (V3 0 6 41) ⟨zV O,zV O,λ_ _ H K=>R.lenBs (K 39 _ O) H,zS O,Zt⟩ ?_);refine g7 O (λhc41=>?_) (λhc41=>?_)
  ·refine W.skip (W.seq (W.block ?_));have hms:=hms (by omega);refine L8 13 (u51 44 45 46 47 48 49 50 51 52 53 54 55) (V4 0 6 52 55) ⟨zV O,zV O,zV O,zV O,AD 1 O,λ_ _ H K=>R.idxBs ((n+j)) (K 46 _ O) (C4 (eU K 48 O)) bO bU H,xF O,λ_ B H K=>R.ldP (K 50 _ O) (B 0 _ O) (XW (f:=J7) (z:=69) (λ_=>rfl) bU (Z9 (m:=0) O O Q2 O) bU) O O O H,zC hC (EY (UI l n j)[n+j]!.hd (hms.get bO).hd) O (F1 (X6 _)),λ_ _ H K=>R.idxBs ((n+1+j)) (K 44 _ O) (C4 (eU K 45 O)) O bU H,xF O,xF O,Zt⟩ O (⟨O,_,ZV (gU 55 O) (xU 0 O) (XW (f:=J7) (z:=69) (λ_=>rfl) bU (Z9 (m:=0) O O (Z9 (m:=1) O O Q2 O) O) bU) (gV 52 O) (by rfl) (by rfl) (by rfl) (by rfl) (EE (f:=J7) (y:=(SI (UI l n j)[n+1+j]! (UI l n j)[n+j]!.hd)) bU (x65 _ _)),tW (V2 0 6) (B2 0) 56 O ?_⟩);refine n4 3 (y3 42 43 6) (V2 0 6) ⟨zV O,P1 1 O,zA O,Zt⟩ ?_;exact⟨⟨(j+1),bU⟩,(by dsimp only;rw[UI]<;>rfl),(by show l.length-(n+1+(j+1))<l.length-(n+1+j);omega)⟩
  ·obtain rfl:j=l.length-1-n:=by omega
   refine W.exit ?_;exact S0 (r:=.dead) (.inl O) O (by rw[IC]<;>rfl) ⟨k43 q92,Zt⟩
end
end Go.Sx
