/- Proved: what functions of the given program compute (used by the theorem of this claim). Conditions: none but those that each theorem states. -/
import Derived.Test.YtgilikgghknbhaaDoorMLd21
import Derived.Test.YtgilikgghknbhaaDoorMSxTake
set_option linter.unusedVariables false
set_option linter.unusedSimpArgs false
set_option linter.unnecessarySimpa false

namespace Go.Sx
theorem osum_le{os:List OutS}{v:Nat}(h:∀ o∈os,o.value.toNat<=v)(k:Nat)(hk:k<=os.length):osum os k<=k*v:=by
 induction k with
 | zero=>exact Nat.zero_le _
 | succ k ih=>
  have h1:=ih (by omega);have h2:=h _ (u9 (show k<os.length by omega));rw[osum,Nat.succ_mul];omega
theorem KG(os:List OutS){j k:Nat}(h:j<=k):osum os j<=osum os k:=by
 induction k with
 | zero=>rw[show j=0 by omega];exact Nat.le_refl _
 | succ k ih=>
  by_cases he:j=k+1
  ·rw[he];exact Nat.le_refl _
  ·have:=ih (by omega);rw[osum];omega
theorem sumI_nat{os:List OutS}(h:osum os os.length<18446744073709551616)(k:Nat)(hk:k<=os.length):(QH os k).toNat=osum os k:=by
 induction k with
 | zero=>rfl
 | succ k ih=>
  have h1:=ih (by omega);have h2:=KG os hk;rw[osum] at h2;rw[QH,osum,UInt64.toNat_add,h1];omega
theorem osum_at(os:List OutS){i:Nat}(hi:i<os.length):os[i]!.value.toNat<=osum os os.length:=by
 have:=KG os (show i+1<=os.length by omega);rw[osum] at this;omega
theorem TJ{n:Nat}(h:n<18446744073709551616):(UInt64.ofInt ((n:Nat):Int)).toNat=n:=by
 unfold UInt64.ofInt;rw[UInt64.toNat_ofNat'];omega
theorem FU(a b:UInt64):min a b<=a:=by
 show(if a<=b then a else b)<=a;split
 ·exact UInt64.le_refl a
 ·rename_i h;exact UInt64.le_of_lt (UInt64.not_le.1 h)
theorem spOut_le(s:SpS)(sum:UInt64)(i:Nat)(hn:s.to.length<18446744073709551616):(spOut s sum i).value.toNat<=sum.toNat/s.to.length:=by
 have h0:(sum/UInt64.ofInt ((s.to.length:Nat):Int)).toNat=sum.toNat/s.to.length:=by rw[UInt64.toNat_div,TJ hn]
 unfold spOut;dsimp only;split
 ·rw[UInt64.toNat_sub_of_le _ _ (FU _ _),h0];exact Nat.sub_le _ _
 ·rw[h0];exact Nat.le_refl _
theorem EH(s:SpS)(sum:UInt64)(m:Nat)(hm:m<=s.to.length)(hn:s.to.length<18446744073709551616):osum (Z0 s sum m) (Z0 s sum m).length<=sum.toNat:=by
 have hl:(Z0 s sum m).length=m:=by unfold Z0;rw[List.length_map,List.length_range]
 have h1:=osum_le (os:=Z0 s sum m) (v:=sum.toNat/s.to.length) (fun o ho=>by
  obtain⟨i,_,rfl⟩:=List.mem_map.1 ho
  exact spOut_le s sum i hn) _ (Nat.le_refl _)
 rw[hl] at h1 ⊢;have h2:m*(sum.toNat/s.to.length)<=s.to.length*(sum.toNat/s.to.length):=Nat.mul_le_mul_right _ hm;have h3:=Nat.mul_div_le sum.toNat s.to.length;omega
structure SpdT(A:List StS)(t:TxS):Prop where
 ins:1<=t.ins.length/\t.ins.length<=2
 outs:1<=t.outs.length/\t.outs.length<=4
 sm:t.sm
 at_:∃ k,∃ hk:k<(thr A).length,plc t.ins[0]! = ((thr A)[k]).1/\(t.ins.length=1->osum t.outs t.outs.length<=((thr A)[k]).2.toNat) /\
  (t.ins.length=2->∃ hj:k+1<(thr A).length,plc t.ins[1]! = ((thr A)[k+1]).1/\osum t.outs t.outs.length<=((thr A)[k]).2.toNat+((thr A)[k+1]).2.toNat)
theorem spT_spd{A:List StS}{s:SpS}{mark:UInt32}(g:GoodT A)(hA:A.length<=1000)(hw:∀ x∈thr A,x.1.1.length=32)(h0:UF s (thr A)=false)(hto:s.to.length<=140737488355328):SpdT A (spT s (thr A) mark):=by
 have h1:¬ (thr A).length=0:=fun h=>by unfold UF at h0;rw[decide_eq_true h] at h0;cases h0
 have h2:¬ s.to.length=0:=fun h=>by unfold UF at h0;rw[decide_eq_true h,Bool.or_true] at h0;cases h0
 have hsm:(spT s (thr A) mark).sm:=spT_sm h1 hw;have hk:s.from_.toNat%(thr A).length<(thr A).length:=Nat.mod_lt _ (by omega);have hv:=g.val;have ho:(spT s (thr A) mark).outs=Z0 s (G4 s (thr A)) (min s.to.length 4):=rfl
 have hol:(Z0 s (G4 s (thr A)) (min s.to.length 4)).length=min s.to.length 4:=by unfold Z0;rw[List.length_map,List.length_range]
 have hos:=EH s (G4 s (thr A)) (min s.to.length 4) (Nat.min_le_left _ _) (by omega);have hi:(spT s (thr A) mark).ins=B8 s (thr A):=rfl;refine⟨?_,by rw[ho,hol];omega,hsm,s.from_.toNat%(thr A).length,hk, ?_⟩
 ·rw[hi];unfold B8;dsimp only;split
  ·exact⟨(by decide:1<=2),(by decide:2<=2)⟩
  ·exact⟨(by decide:1<=1),(by decide:1<=2)⟩
 ·rw[ho,hi];by_cases h3:s.two=true/\s.from_.toNat%(thr A).length+1<(thr A).length
  ·have e1:B8 s (thr A)=[⟨(thr A)[s.from_.toNat%(thr A).length]!.1.1,(thr A)[s.from_.toNat%(thr A).length]!.1.2,[],s.extra.toUInt32,[]⟩,⟨(thr A)[s.from_.toNat%(thr A).length+1]!.1.1,(thr A)[s.from_.toNat%(thr A).length+1]!.1.2,[s.extra],0,[[s.part],[]]⟩]:=if_pos h3;have e2:G4 s (thr A)=(thr A)[s.from_.toNat%(thr A).length]!.2+(thr A)[s.from_.toNat%(thr A).length+1]!.2:=if_pos h3;rw[e1];rw[e2] at hos ⊢;rw[getElem!_pos (thr A) _ hk,getElem!_pos (thr A) _ h3.2] at hos ⊢;have hs2:=le_sum2 (fun x:Plc×UInt64=>x.2.toNat) (thr A) _ _ (Nat.lt_succ_self _) h3.2;rw[UInt64.toNat_add] at hos;refine⟨rfl,fun h=>(by cases h),fun _=>⟨h3.2,rfl, ?_⟩⟩;refine Nat.le_trans hos (Nat.mod_le _ _)
  ·have e1:B8 s (thr A)=[⟨(thr A)[s.from_.toNat%(thr A).length]!.1.1,(thr A)[s.from_.toNat%(thr A).length]!.1.2,[],s.extra.toUInt32,[]⟩]:=if_neg h3;have e2:G4 s (thr A)=(thr A)[s.from_.toNat%(thr A).length]!.2:=if_neg h3;rw[e1];rw[e2] at hos ⊢;rw[getElem!_pos (thr A) _ hk] at hos ⊢;exact⟨rfl,fun _=>hos,fun h=>(by cases h)⟩
theorem OL{t:TxS}{j:Nat}(hm:m9 t=false)(hj:j<t.ins.length):KW t (plc t.ins[j]!) t.ins.length=true:=frmJ_t hj rfl (by rw[hm];rfl)
theorem thr_n{A:List StS}(g:GoodT A){x:Plc×UInt64}(hx:x∈thr A):x.1.2.toNat<8:=by
 obtain⟨q,hq,j,hj,rfl⟩:=MH hx;have:=g.outs _ (u9 hq);show(nK j).toNat<8;rw[QI (by omega)];omega
theorem SpdT.mint{A:List StS}{t:TxS}(g:GoodT A)(h:SpdT A t):m9 t=false:=by
 obtain⟨k,hk,h1,_⟩:=h.at_;unfold m9;rw[Bool.and_eq_false_iff];right;rw[beq_eq_false_iff_ne];intro e;rw[h1] at e;have:=thr_n g (List.getElem_mem hk);rw[e] at this;exact absurd this (by decide)
theorem SpdT.vals{A:List StS}{t:TxS}(g:GoodT A)(h:SpdT A t):(((thr A).filter (B9 t)).map fun x=>x.2.toNat).sum+osum t.outs t.outs.length<=((thr A).map fun x=>x.2.toNat).sum:=by
 have hm:=h.mint g;obtain⟨k,hk,h1,h2,h3⟩:=h.at_
 have p0:B9 t ((thr A)[k])=false:=by
  unfold B9;rw[<- h1,OL hm (by have:=h.ins.1;omega)];rfl
 by_cases hl:t.ins.length=1
 ·have:=sf_one (fun x:Plc×UInt64=>x.2.toNat) (B9 t) (thr A) k hk p0;have:=h2 hl;omega
 ·have hl2:t.ins.length=2:=by have:=h.ins;omega
  obtain⟨hj,h4,h5⟩:=h3 hl2
  have p1:B9 t ((thr A)[k+1])=false:=by
   unfold B9;rw[<- h4,OL hm (by omega)];rfl
  have:=sf_two (fun x:Plc×UInt64=>x.2.toNat) (B9 t) (thr A) k (k+1) (Nat.lt_succ_self _) hj p0 p1;omega
theorem SpdT.tot{A:List StS}{t:TxS}(g:GoodT A)(h:SpdT A t):osum t.outs t.outs.length<=5000*A.length:=by
 have:=h.vals g;have:=g.val;omega
theorem TM{t:TxS}(hs:t.sm)(hi:t.ins.length<=2)(ho:t.outs.length<=4):(NG t).length<=16384:=by
 have h1:=n6 t.ins.length;have h2:=n6 t.outs.length;have h3:=RG hs.hash hs.scr _ (Nat.le_refl _);have h4:=NN hs.oscr _ (Nat.le_refl _);have h5:=MU hs.wit hs.witi _ (Nat.le_refl _)
 have hb:(H7 t).length<=1218:=by simp only[H7,List.length_append];omega
 unfold NG;split
 ·simp only[List.length_append,w5,List.length_cons,List.length_nil];omega
 ·simp only[I0,List.length_append,w5];omega
theorem may_of{t:TxS}(hs:t.sm)(hi:1<=t.ins.length/\t.ins.length<=2)(ho:1<=t.outs.length/\t.outs.length<=4)(hv:osum t.outs t.outs.length<=2100000000000000)(hd:t.ins.length=2->plc t.ins[0]!≠plc t.ins[1]!):L8 t=true:=by
 refine decide_eq_true ⟨by omega,by omega,fun i hi'=>?_,fun i hi'=>?_,TM hs hi.2 ho.2⟩
 ·match i,hi' with
  | 0,_=>rfl
  | 1,h=>
   cases hh:c4 (T2 t.ins 1) (plc t.ins[1]!) with
   | false=>rfl
   | true=>
    obtain⟨e,he,h1⟩:=YS.1 hh;rw[List.mem_singleton.1 (show e∈[(plc t.ins[0]!,(((0:Nat)):Int))] from he)] at h1;exact absurd h1 (hd (by omega))
  | i+2,h=>omega
 ·have h1:=osum_at t.outs hi';have h2:=sumI_nat (os:=t.outs) (by omega) (i+1) (by omega);have h3:=KG t.outs (show i+1<=t.outs.length by omega);have e:(2100000000000000:UInt64).toNat=2100000000000000:=rfl;constructor
  ·rw[UInt64.lt_iff_toNat_lt,e];omega
  ·rw[UInt64.lt_iff_toNat_lt,e,h2];omega
theorem SpdT.may{A:List StS}{t:TxS}(g:GoodT A)(hA:A.length<=1000)(h:SpdT A t):L8 t=true:=by
 have:=h.tot g;refine may_of h.sm h.ins h.outs (by omega) fun hl=>?_;obtain⟨k,hk,h1,_,h3⟩:=h.at_;obtain⟨hj,h4,_⟩:=h3 hl;rw[h1,h4];intro e;have h5:=g.keys;have:=(List.getElem_inj (h₀:=by simpa using hk) (h₁:=by simpa using hj) h5).1 (by simpa using e);omega
theorem YC(n:Nat)(x:PlS)(mark:UInt32):m9 (o4 n x mark)=true:=rfl
theorem TV(n:Nat)(x:PlS)(mark:UInt32):L8 (o4 n x mark)=true:=may_of (NT n x mark) ⟨(by decide:1<=1),(by decide:1<=2)⟩ ⟨(by decide:1<=1),(by decide:1<=4)⟩ (by show 0+5000<=_;decide) (fun h=>by cases h)
end Go.Sx

namespace Go.Sx
theorem YT(b:BkS)(id:Hs)(t:TxS)(x:Hs):c4 (R0 b id t).ids x=true↔id=x∨c4 b.ids x=true:=by
 cases h:c4 b.ids id with
 | true=>
  rw[FA h];constructor
  ·exact .inr
  ·rintro (rfl|h1)
   ·exact h
   ·exact h1
 | false=>
  rw[FE h,YR,Bool.or_eq_true,@beq_iff_eq Hs instBEqOfDecidableEq _ id x]
theorem FB(b:BkS)(txs:List TxS)(i:Nat)(x:Hs):c4 (gB b txs i).ids x=true↔c4 b.ids x=true∨∃ q<i,J0 txs[q]! = x:=by
 induction i with
 | zero=>exact⟨.inl,fun h=>h.elim id (fun⟨q,hq,_⟩=>absurd hq (Nat.not_lt_zero _))⟩
 | succ i ih=>
  rw[gB_s,YT,ih];constructor
  ·rintro (h|h|⟨q,hq,h⟩)
   ·exact .inr ⟨i,by omega,h⟩
   ·exact .inl h
   ·exact .inr ⟨q,by omega,h⟩
  ·rintro (h|⟨q,hq,h⟩)
   ·exact .inr (.inl h)
   ·rcases Nat.lt_succ_iff_lt_or_eq.1 hq with h1|rfl
    ·exact .inr (.inr ⟨q,h1,h⟩)
    ·exact .inl h
theorem QL{b:BlkS}{h i:Nat}{s:StS}:s∈U0 b h i↔∃ q<i,s=⟨h,q,O9 b.txs[q]!,b.txs[q]!⟩:=by
 induction i with
 | zero=>exact⟨(fun h=>by cases h),fun⟨q,hq,_⟩=>absurd hq (Nat.not_lt_zero _)⟩
 | succ i ih=>
  rw[U0,List.mem_append,List.mem_singleton,ih];constructor
  ·rintro (⟨q,hq,h⟩|h)
   ·exact⟨q,by omega,h⟩
   ·exact⟨i,by omega,h⟩
  ·rintro ⟨q,hq,h⟩
   rcases Nat.lt_succ_iff_lt_or_eq.1 hq with h1|rfl
   ·exact .inl ⟨q,h1,h⟩
   ·exact .inr h
theorem OX(l:List BlkS)(h:Nat)(x:Hs):c4 (v5 l h).ids x=true↔∃ s∈t8 l h,s.id=x:=by
 induction h with
 | zero=>exact⟨(fun h=>by cases h),fun⟨s,hs,_⟩=>by cases hs⟩
 | succ h ih=>
  rw[v5,FB,ih,I4];constructor
  ·rintro (⟨s,hs,e⟩|⟨q,hq,e⟩)
   ·exact⟨s,List.mem_append_left _ hs,e⟩
   ·exact⟨⟨h,q,O9 l[h]!.txs[q]!,l[h]!.txs[q]!⟩,List.mem_append_right _ (QL.2 ⟨q,hq,rfl⟩),(by show O9 l[h]!.txs[q]! = x;rw[M4];exact e)⟩
  ·rintro ⟨s,hs,e⟩
   rcases List.mem_append.1 hs with h1|h1
   ·exact .inl ⟨s,h1,e⟩
   ·obtain⟨q,hq,rfl⟩:=QL.1 h1;exact .inr ⟨q,hq,by rw[<- M4];exact e⟩
theorem V0(l r:List BlkS)(h:Nat)(hh:h<=l.length):v5 (l++r) h=v5 l h:=by
 induction h with
 | zero=>rfl
 | succ h ih=>rw[v5,v5,ih (by omega),J5 (by omega)]
theorem allI_app(l r:List BlkS)(h:Nat)(hh:h<=l.length):t8 (l++r) h=t8 l h:=by
 induction h with
 | zero=>rfl
 | succ h ih=>rw[I4,I4,ih (by omega),J5 (by omega)]
theorem gHd_app(l r:List BlkS){h:Nat}(hh:h<l.length):JC (l++r) h=JC l h:=by
 unfold JC;rw[J5 hh,J5 (show h-1<l.length by omega)]
theorem OA(b:BkS)(l r:List BlkS){h:Nat}(hh:h<l.length):R1 b (l++r) h=R1 b l h:=by
 unfold R1;rw[gHd_app l r hh,J5 hh]
theorem gH_app(l r:List BlkS)(h:Nat)(hh:h<=l.length):gH (l++r) h=gH l h:=by
 induction h with
 | zero=>rfl
 | succ h ih=>rw[gH,gH,ih (by omega),OA _ _ _ (by omega)]
theorem PX(l r:List BlkS){h:Nat}(hh:h<l.length):gE (l++r) h=gE l h:=by
 unfold gE;rw[gH_app l r h (by omega),OA _ _ _ hh]
theorem VD{b:BkS}{txs:List TxS}(h:(KL b txs).1=0):∀ q<txs.length,X6 b txs q=0:=by
 intro q hq
 cases hf:(List.range txs.length).find? (fun q=>decide (X6 b txs q≠0)) with
 | none=>
  have:=List.find?_eq_none.1 hf q (List.mem_range.2 hq);simpa using this
 | some k=>
  have h1:=List.find?_some hf;have h2:=List.mem_range.1 (List.mem_of_find?_eq_some hf)
  have h3:PZ b txs=k:=by unfold PZ;rw[hf];rfl
  unfold KL at h;rw[h3] at h;dsimp only at h;rw[if_pos h2] at h;exact absurd h (of_decide_eq_true h1)
theorem XF{l:List BlkS}{h:Nat}(hz:gE l h=0):JC l h=0/\(∀ q<l[h]!.txs.length,X6 (gH l h) l[h]!.txs q=0)/\gH l (h+1)=gB (gH l h) l[h]!.txs l[h]!.txs.length:=by
 have h1:JC l h=0:=by
  refine Decidable.byContradiction fun hc=>?_
  have:gE l h=JC l h:=by unfold gE R1;rw[if_pos hc]
  exact hc (by rw[<- this];exact hz)
 have h2:(KL (gH l h) l[h]!.txs).1=0:=by
  have:gE l h=(KL (gH l h) l[h]!.txs).1:=by unfold gE;rw[ZX h1]
  rw[<- this];exact hz
 have h3:=VD h2;exact⟨h1,h3,by rw[gH,ZX h1,BT h3]⟩
theorem FT{l:List BlkS}(h:Nat)(hz:∀ q<h,gE l q=0):gH l h=v5 l h:=by
 induction h with
 | zero=>rfl
 | succ h ih=>rw[(XF (hz h (by omega))).2.2,ih (fun q hq=>hz q (by omega)),v5]
theorem gTxs_14{b:BkS}{txs:List TxS}(h:∀ q<txs.length,(∀ k<q,X6 b txs k=0)->X6 b txs q=0∨X6 b txs q=14):(KL b txs).1=0∨(KL b txs).1=14:=by
 cases hf:(List.range txs.length).find? (fun q=>decide (X6 b txs q≠0)) with
 | none=>
  left;rw[BT fun q hq=>by have:=List.find?_eq_none.1 hf q (List.mem_range.2 hq);simpa using this]
 | some k=>
  obtain⟨h1,h2,h3⟩:=List.find?_range_eq_some.1 hf;have hk:=List.mem_range.1 h2
  have h4:∀ j<k,X6 b txs j=0:=fun j hj=>by have:=h3 j hj;simpa using this
  have h5:=of_decide_eq_true h1;rw[RC hk h4 h5];exact h k hk h4
def E14(l:List BlkS):Prop:=∀ q<l.length,(∀ k<q,gE l k=0)->gE l q=0∨gE l q=14
theorem right_14{l:List BlkS}(h:E14 l):(K3 l).2=0∨(K3 l).2=14:=by
 cases hf:(List.range l.length).find? (fun h=>decide (gE l h≠0)) with
 | none=>left;unfold K3;rw[hf]
 | some k=>
  obtain⟨h1,h2,h3⟩:=List.find?_range_eq_some.1 hf;have hk:=List.mem_range.1 h2
  have h4:∀ j<k,gE l j=0:=fun j hj=>by have:=h3 j hj;simpa using this
  have:=h k hk h4;unfold K3;rw[hf];exact this
theorem right_0{l:List BlkS}(h:(K3 l).2=0):∀ q<l.length,gE l q=0:=by
 intro q hq
 cases hf:(List.range l.length).find? (fun h=>decide (gE l h≠0)) with
 | none=>have:=List.find?_eq_none.1 hf q (List.mem_range.2 hq);simpa using this
 | some k=>
  have h1:=List.find?_some hf;unfold K3 at h;rw[hf] at h;exact absurd h (of_decide_eq_true h1)
theorem allJ_eq{b b':BlkS}{h i:Nat}(hb:∀ q<i,b.txs[q]! = b'.txs[q]!):U0 b h i=U0 b' h i:=by
 induction i with
 | zero=>rfl
 | succ i ih=>rw[U0,U0,ih (fun q hq=>hb q (by omega)),hb i (by omega)]
theorem GO(l:List BlkS)(b:BlkS):b9 (l++[b])=b9 l++U0 b l.length b.txs.length:=by
 unfold b9;rw[List.length_append,List.length_singleton,I4,allI_app l [b] _ (Nat.le_refl _),Q5]
theorem take_get{α:Type}[Inhabited α]{l:List α}{q i:Nat}(hq:q<i)(hi:i<=l.length):(l.take i)[q]! = l[q]!:=by
 rw[getElem!_pos (l.take i) q (by rw[List.length_take];omega),getElem!_pos l q (by omega),List.getElem_take]
theorem grT_el(l:List BlkS)(x:PlS)(mark:UInt32)(j i:Nat)(h1:1<=i)(h2:i<(P6 l x mark j).length) :
 ∃ k<j,UF x.spends[k]! (P7 (l++[⟨zeroH,(P6 l x mark j).take i⟩]))=false/\(P6 l x mark j)[i]! = spT x.spends[k]! (P7 (l++[⟨zeroH,(P6 l x mark j).take i⟩])) mark:=by
 induction j with
 | zero=>rw[P6,List.length_singleton] at h2;omega
 | succ j ih=>
  rw[P6] at h2 ⊢;split at h2
  ·rename_i hc;rw[if_pos hc];rw[List.length_append,List.length_singleton] at h2;by_cases he:i<(P6 l x mark j).length
   ·obtain⟨k,hk,h3,h4⟩:=ih he;rw[List.take_append_of_le_length (by omega),J5 he];exact⟨k,by omega,h3,h4⟩
   ·have:i=(P6 l x mark j).length:=by omega
    subst this;rw[List.take_left,Q5];refine⟨j,by omega, ?_⟩;unfold HY at hc ⊢
    cases hn:UF x.spends[j]! (P7 (l++[⟨zeroH,P6 l x mark j⟩])) with
    | true=>rw[hn] at hc;cases hc
    | false=>exact⟨rfl,rfl⟩
  ·rename_i hc;rw[if_neg hc];obtain⟨k,hk,r⟩:=ih h2;exact⟨k,by omega,r⟩
theorem grT_0(l:List BlkS)(x:PlS)(mark:UInt32)(j:Nat):(P6 l x mark j)[0]! = o4 l.length x mark:=by
 induction j with
 | zero=>rfl
 | succ j ih=>
  have h1:0<(P6 l x mark j).length:=by
   clear ih
   induction j with
   | zero=>exact Nat.one_pos
   | succ j ih=>rw[P6];split;rw[List.length_append];omega;exact ih
  rw[P6];split
  ·rw[J5 h1];exact ih
  ·exact ih
theorem FX(t:Bg)(k:Nat):∀ h:HdS,(F7 h t k).1.prev=h.prev/\(F7 h t k).1.root=h.root:=by
 induction k with
 | zero=>intro h;exact⟨rfl,rfl⟩
 | succ k ih=>
  intro h;rw[F7];split
  ·exact⟨rfl,rfl⟩
  ·exact ih { h with nonce:=UInt32.ofNat (199-k) }
theorem GK(l:List HdS)(time:UInt32)(root:Hs):(A6 l time root).prev=F8 l[l.length-1]!:=by unfold A6;dsimp only
theorem GZ(l:List HdS)(time:UInt32)(root:Hs):(A6 l time root).root=root:=by unfold A6;dsimp only
theorem FJ(l:List HdS)(time:UInt32)(root:Hs):(A5 l time root).1.prev=F8 l[l.length-1]!/\(A5 l time root).1.root=root:=by
 cases h:i8 (Q0 l) with
 | none=>rw[f7 h];exact⟨GK l time root,GZ l time root⟩
 | some t=>rw[f6 h];have h1:=FX t 200 (A6 l time root);exact⟨h1.1.trans (GK l time root),h1.2.trans (GZ l time root)⟩
theorem VU(l:List BlkS){i:Nat}(hi:i<l.length):(heads l)[i]! = l[i]!.hd:=by
 unfold heads;rw[getElem!_pos (l.map BlkS.hd) i (by simpa using hi),getElem!_pos l i hi,List.getElem_map]
section
variable{l:List BlkS}{x:PlS}{mark:UInt32}
theorem grow_hd(hl:allBl l)(h1:1<=l.length)(h99:l.length<=99):JC (l++[(j8 l x mark).1]) l.length=0:=by
 obtain⟨_,h2,h3⟩:=s7 hl h99 x mark;have hs:=FJ (heads l) (NV (heads l)+1+x.step.toUInt32) (M1 n9 ((Y1 l x mark).map O9))
 have hhl:(heads l).length=l.length:=by unfold heads;rw[List.length_map]
 have hp:(j8 l x mark).1.hd.prev=YW l[l.length-1]!.hd:=by
  have:(j8 l x mark).1.hd.prev=F8 (heads l)[(heads l).length-1]!:=hs.1;rw[this,hhl,VU l (by omega),id_r]
 have hr:(j8 l x mark).1.hd.root=M1 p7 ((j8 l x mark).1.txs.map J0):=by
  have:(j8 l x mark).1.hd.root=M1 n9 ((Y1 l x mark).map O9):=hs.2;rw[this,join_r];have e:(Y1 l x mark).map O9=(j8 l x mark).1.txs.map J0:=List.map_congr_left fun t _=>M4 t;rw[e]
 have ht:(j8 l x mark).1.txs.length=(Y1 l x mark).length:=rfl;unfold JC;rw[Q5,J5 (show l.length-1<l.length by omega),if_neg (fun h=>h.2 hp),if_neg (by omega),if_neg (by omega),if_neg (fun h=>h hr)]
theorem thr_at(l:List BlkS)(b:BlkS)(i:Nat)(hi:i<=b.txs.length):P7 (l++[⟨zeroH,b.txs.take i⟩])=thr (b9 l++U0 b l.length i):=by
 have e:b9 (l++[⟨zeroH,b.txs.take i⟩])=b9 l++U0 b l.length i:=by
  have hl:(b.txs.take i).length=i:=by rw[List.length_take];omega
  rw[GO];dsimp only;rw[hl,allJ_eq (b:=⟨zeroH,b.txs.take i⟩) (b':=b) fun q hq=>take_get hq hi]
 unfold P7;rw[e];rfl
theorem FZ{t:TxS}(h:m9 t=true)(l:List (Plc×UInt64)):l.filter (B9 t)=l:=by
 rw[List.filter_eq_self];intro a _;unfold B9;rw[IJ fun q _=>by rw[h];simp];rfl
theorem AG(hl:allBl l)(h1:1<=l.length)(h99:l.length<=99)(hA:(b9 l).length<=900)(hto:∀ s∈x.spends,s.to.length<=140737488355328)(g:GoodT (b9 l))(q:Nat)(hq:q<=(j8 l x mark).1.txs.length)
 (hz:∀ k<q,X6 (v5 l l.length) (j8 l x mark).1.txs k=0):GoodT (b9 l++U0 (j8 l x mark).1 l.length q)/\(q<(j8 l x mark).1.txs.length->(L8 (j8 l x mark).1.txs[q]! = true/\m9 (j8 l x mark).1.txs[q]! = decide (q=0)) /\
  (((thr (b9 l++U0 (j8 l x mark).1 l.length q)).filter (B9 (j8 l x mark).1.txs[q]!)).map fun x=>x.2.toNat).sum+osum (j8 l x mark).1.txs[q]!.outs (j8 l x mark).1.txs[q]!.outs.length<=((thr (b9 l++U0 (j8 l x mark).1 l.length q)).map fun x=>x.2.toNat).sum+5000):=by
 generalize hb:(j8 l x mark).1=b at *
 have hbt:b.txs=P6 l x mark (min x.spends.length 6):=by rw[<- hb];rfl
 obtain⟨hsm,hl1,hl7⟩:=s7 hl h99 x mark
 have hl1':1<=b.txs.length:=by rw[hbt];exact hl1
 have hl7':b.txs.length<=7:=by rw[hbt];exact hl7
 have second:∀ q,q<b.txs.length->GoodT (b9 l++U0 b l.length q)->(L8 b.txs[q]! = true/\m9 b.txs[q]! = decide (q=0)) /\
  (((thr (b9 l++U0 b l.length q)).filter (B9 b.txs[q]!)).map fun x=>x.2.toNat).sum+osum b.txs[q]!.outs b.txs[q]!.outs.length<=((thr (b9 l++U0 b l.length q)).map fun x=>x.2.toNat).sum+5000:=by
  intro q hq gq;by_cases h0:q=0
  ·subst h0
   have e:b.txs[0]! = o4 l.length x mark:=by rw[hbt];exact grT_0 l x mark _
   rw[e];refine⟨⟨TV _ _ _,rfl⟩, ?_⟩;rw[FZ (YC _ _ _)];exact Nat.le_refl _
  ·obtain⟨k,hk,h3,h4⟩:=grT_el l x mark (min x.spends.length 6) q (by omega) (by rw[<- hbt];exact hq);rw[<- hbt,thr_at l b q (by omega)] at h3 h4
   have hlen:(b9 l++U0 b l.length q).length<=1000:=by rw[List.length_append,ZR];omega
   have hw:∀ y∈thr (b9 l++U0 b l.length q),y.1.1.length=32:=by
    rw[<- thr_at l b q (by omega)];refine thrS_h (I5 hl h99 (AD UY (fun t ht=>?_) ?_))
    ·rw[hbt] at ht;exact hsm t (List.mem_of_mem_take ht)
    ·rw[List.length_take];omega
   have sp:=spT_spd (mark:=mark) gq hlen hw h3 (hto _ (u9 (by omega)));rw[<- h4] at sp;refine⟨⟨sp.may gq hlen,by rw[sp.mint gq,decide_eq_false h0]⟩, ?_⟩;have:=sp.vals gq;omega
 refine⟨?_,fun hq'=>?_⟩
 ·induction q with
  | zero=>rw[U0,List.append_nil];exact g
  | succ q ih=>
   have gq:=ih (by omega) (fun k hk=>hz k (by omega));obtain⟨⟨hm,hmi⟩,hv⟩:=second q (by omega) gq;rw[U0,<- List.append_assoc];refine gq.step (fun a ha he=>?_) ?_ hv
   ·have hs:U4 (gB (v5 l l.length) b.txs q) (J0 b.txs[q]!) b.txs[q]! = true:=by
     have h0:=hz q (by omega)
     cases hs:U4 (gB (v5 l l.length) b.txs q) (J0 b.txs[q]!) b.txs[q]! with
     | true=>rfl
     | false=>
      rw[f9 hm (by rw[hmi];exact bne_self_eq_false _) (by rw[hs];rfl)] at h0;cases h0
    have hno:c4 (gB (v5 l l.length) b.txs q).ids (J0 b.txs[q]!)=false:=by
     cases hk:c4 (gB (v5 l l.length) b.txs q).ids (J0 b.txs[q]!) with
     | false=>rfl
     | true=>rw[BV hk] at hs;cases hs
    have hyes:c4 (gB (v5 l l.length) b.txs q).ids (J0 b.txs[q]!)=true:=by
     rw[FB,OX]
     rcases List.mem_append.1 ha with h|h
     ·exact .inl ⟨a,h,by rw[he];exact M4 _⟩
     ·obtain⟨k,hk,rfl⟩:=QL.1 h;exact .inr ⟨k,hk,by rw[<- M4,<- M4];exact he⟩
    rw[hno] at hyes;cases hyes
   ·have:=(hsm b.txs[q]! (by rw[show Y1 l x mark=b.txs from hbt.symm];exact u9 (by omega))).outs;exact this
 ·refine second q hq' ?_;clear hq'
  induction q with
  | zero=>rw[U0,List.append_nil];exact g
  | succ q ih=>
   have gq:=ih (by omega) (fun k hk=>hz k (by omega));obtain⟨⟨hm,hmi⟩,hv⟩:=second q (by omega) gq;rw[U0,<- List.append_assoc];refine gq.step (fun a ha he=>?_) ?_ hv
   ·have hs:U4 (gB (v5 l l.length) b.txs q) (J0 b.txs[q]!) b.txs[q]! = true:=by
     have h0:=hz q (by omega)
     cases hs:U4 (gB (v5 l l.length) b.txs q) (J0 b.txs[q]!) b.txs[q]! with
     | true=>rfl
     | false=>
      rw[f9 hm (by rw[hmi];exact bne_self_eq_false _) (by rw[hs];rfl)] at h0;cases h0
    have hno:c4 (gB (v5 l l.length) b.txs q).ids (J0 b.txs[q]!)=false:=by
     cases hk:c4 (gB (v5 l l.length) b.txs q).ids (J0 b.txs[q]!) with
     | false=>rfl
     | true=>rw[BV hk] at hs;cases hs
    have hyes:c4 (gB (v5 l l.length) b.txs q).ids (J0 b.txs[q]!)=true:=by
     rw[FB,OX]
     rcases List.mem_append.1 ha with h|h
     ·exact .inl ⟨a,h,by rw[he];exact M4 _⟩
     ·obtain⟨k,hk,rfl⟩:=QL.1 h;exact .inr ⟨k,hk,by rw[<- M4,<- M4];exact he⟩
    rw[hno] at hyes;cases hyes
   ·have:=(hsm b.txs[q]! (by rw[show Y1 l x mark=b.txs from hbt.symm];exact u9 (by omega))).outs;exact this
end
inductive Made:List BlkS->Prop
 | base:Made [⟨Z9,[]⟩]
 | grow {l:List BlkS} {x:PlS} {mark:UInt32} (h:Made l) (h99:l.length<=50) (hto:∀ s∈x.spends,s.to.length<=140737488355328):Made (l++[(j8 l x mark).1])
theorem Made.all{l:List BlkS}(h:Made l):(allBl l/\1<=l.length/\l.length<=51/\(b9 l).length<=7*l.length)/\E14 l/\((∀ q<l.length,gE l q=0)->GoodT (b9 l)):=by
 induction h with
 | base=>
  have h0:gE [⟨Z9,[]⟩] 0=0:=rfl;refine⟨⟨(W6 [] 0 (by decide)).1,by decide,by decide,by decide⟩,fun q hq _=>?_,fun _=>GoodT.nil⟩;rw[show q=0 by simpa using hq];exact .inl h0
 | @grow l x mark h h99 hto ih=>
  obtain⟨⟨i1,i2,i3,i4⟩,i5,i6⟩:=ih;obtain⟨hsm,hl1,hl7⟩:=s7 i1 (by omega) x mark
  have hlen:(l++[(j8 l x mark).1]).length=l.length+1:=by rw[List.length_append,List.length_singleton]
  have hbl:(j8 l x mark).1.txs.length=(Y1 l x mark).length:=rfl;have hhd:=grow_hd (x:=x) (mark:=mark) i1 i2 (by omega);have hn:(l++[(j8 l x mark).1])[l.length]! = (j8 l x mark).1:=Q5
  have old:(∀ k<l.length,gE (l++[(j8 l x mark).1]) k=0)->∀ k<l.length,gE l k=0:=fun h k hk=>by rw[<- PX l [(j8 l x mark).1] hk];exact h k hk
  have bk:(∀ k<l.length,gE (l++[(j8 l x mark).1]) k=0)->gH (l++[(j8 l x mark).1]) l.length=v5 l l.length:=fun h=>by
   rw[FT _ h,V0 l _ _ (Nat.le_refl _)]
  refine⟨⟨I5 i1 (by omega) (OY i1 (by omega) x mark),by rw[hlen];omega,by rw[hlen];omega,by rw[hlen,GO,List.length_append,ZR];omega⟩,fun q hq hz=>?_,fun hz=>?_⟩
  ·rw[hlen] at hq
   rcases Nat.lt_succ_iff_lt_or_eq.1 hq with h1|rfl
   ·rw[PX l _ h1]
    exact i5 q h1 fun k hk=>by rw[<- PX l [(j8 l x mark).1] (by omega)];exact hz k hk
   ·have gd:=i6 (old hz)
    have e:gE (l++[(j8 l x mark).1]) l.length=(KL (v5 l l.length) (j8 l x mark).1.txs).1:=by
     unfold gE;rw[bk hz,ZX hhd,hn]
    rw[e];refine gTxs_14 fun q hq hzq=>?_;obtain⟨⟨hm,hmi⟩,_⟩:=(AG i1 i2 (by omega) (by omega) hto gd q (by omega) hzq).2 hq
    cases hs:U4 (gB (v5 l l.length) (j8 l x mark).1.txs q) (J0 (j8 l x mark).1.txs[q]!) (j8 l x mark).1.txs[q]! with
    | true=>left;exact FV hm (by rw[hmi];exact bne_self_eq_false _) (by rw[hs];rfl)
    | false=>right;exact f9 hm (by rw[hmi];exact bne_self_eq_false _) (by rw[hs];rfl)
  ·have hz':∀ k<l.length,gE (l++[(j8 l x mark).1]) k=0:=fun k hk=>hz k (by rw[hlen];omega);have gd:=i6 (old hz');have h2:=(XF (hz l.length (by rw[hlen];omega))).2.1;rw[bk hz',hn] at h2;rw[GO];exact(AG i1 i2 (by omega) (by omega) hto gd _ (Nat.le_refl _) h2).1
theorem WG(ps:List PlS)(hps:CM ps)(i:Nat)(hi:i<=14)(hi2:i<=ps.length):Made (J3 ps i):=by
 induction i with
 | zero=>exact .base
 | succ i ih=>
  rw[J3];split
  ·exact .grow (ih (by omega) (by omega)) (by have:=(W6 ps i (by omega)).2.2;omega) (hps _ (u9 (by omega)))
  ·exact ih (by omega) (by omega)
theorem WY(ps:List PlS)(hps:CM ps):Made (d8 ps):=WG ps hps _ (Nat.min_le_right _ _) (Nat.min_le_left _ _)
end Go.Sx

namespace Go.Sx
theorem keys_ne:((List.range 8).all fun k=>c7 (UInt8.ofNat k) != c7 11)=true:=by kernel_rfl
theorem key_ne(k:UInt8):c7 (k%8)≠c7 11:=by
 have h8:(k%8).toNat<8:=by
  rw[UInt8.toNat_mod];exact Nat.mod_lt _ (by decide)
 have h:=List.all_eq_true.1 keys_ne (k%8).toNat (List.mem_range.2 h8);have e:UInt8.ofNat (k%8).toNat=k%8:=UInt8.ofNat_toNat;rw[e] at h;exact bne_iff_ne.1 h
theorem key_12(k:UInt8):k%8%12=k%8:=by
 apply UInt8.toNat_inj.1
 have h8:(k%8).toNat<8:=by
  rw[UInt8.toNat_mod];exact Nat.mod_lt _ (by decide)
 rw[UInt8.toNat_mod];exact Nat.mod_eq_of_lt (Nat.lt_trans h8 (by decide))
structure InvO(b:BkS):Prop where
 outs:∀ p,c4 b.outs p=true->p.2.toNat<1000/\c4 b.ids p.1=true
theorem gOut_has(m:List (Plc×GR))(id:Hs)(os:List OutS)(k:Nat)(p:Plc):c4 (FI m id os k) p=true↔c4 m p=true∨∃ j<k,p=(id,nK j):=by
 induction k with
 | zero=>exact⟨.inl,fun h=>h.elim (fun h=>h) (fun⟨j,hj,_⟩=>absurd hj (Nat.not_lt_zero _))⟩
 | succ k ih=>
  rw[FI,YR,Bool.or_eq_true,@beq_iff_eq Plc instBEqOfDecidableEq _ (id,nK k) p,ih];constructor
  ·rintro (h|h|⟨j,hj,h⟩)
   ·exact .inr ⟨k,by omega,h.symm⟩
   ·exact .inl h
   ·exact .inr ⟨j,by omega,h⟩
  ·rintro (h|⟨j,hj,h⟩)
   ·exact .inr (.inl h)
   ·rcases Nat.lt_succ_iff_lt_or_eq.1 hj with h1|rfl
    ·exact .inr (.inr ⟨j,h1,h⟩)
    ·exact .inl h.symm
theorem InvO.put{b:BkS}(h:InvO b)(id:Hs){t:TxS}(ht:t.outs.length<=1000):InvO (R0 b id t):=⟨fun p hp=>by
 rw[YT]
 cases hi:c4 b.ids id with
 | true=>
  rw[FA hi] at hp;exact⟨(h.outs p hp).1,.inr (h.outs p hp).2⟩
 | false=>
  rw[FE hi,gOut_has] at hp
  rcases hp with hp|⟨j,hj,rfl⟩
  ·exact⟨(h.outs p hp).1,.inr (h.outs p hp).2⟩
  ·exact⟨by show(nK j).toNat<1000;rw[QI (by omega)];omega,.inl rfl⟩⟩
theorem InvO.gB{b:BkS}(h:InvO b){txs:List TxS}(ht:∀ t∈txs,t.outs.length<=1000)(i:Nat)(hi:i<=txs.length):InvO (gB b txs i):=by
 induction i with
 | zero=>exact h
 | succ i ih=>rw[gB_s];exact(ih (by omega)).put _ (ht _ (u9 (by omega)))
theorem InvO.all{l:List BlkS}(hl:allBl l)(h:Nat)(hh:h<=l.length):InvO (v5 l h):=by
 induction h with
 | zero=>exact⟨fun p hp=>by cases hp⟩
 | succ h ih=>
  rw[v5];exact(ih (by omega)).gB (fun t ht=>((hl.get (show h<l.length by omega)).sm t ht).2) _ (Nat.le_refl _)
def SpnB(b:BkS):Prop:=∀ p,c4 b.spent p=true->c4 b.ids p.1=true
theorem gSp_has(m:List (Plc×Unit))(l:List InS)(i:Nat)(p:Plc):c4 (gSp m l i) p=true↔c4 m p=true∨∃ j<i,p=plc l[j]!:=by
 induction i with
 | zero=>exact⟨.inl,fun h=>h.elim (fun h=>h) (fun⟨j,hj,_⟩=>absurd hj (Nat.not_lt_zero _))⟩
 | succ i ih=>
  rw[gSp,YR,Bool.or_eq_true,@beq_iff_eq Plc instBEqOfDecidableEq _ (plc l[i]!) p,ih];constructor
  ·rintro (h|h|⟨j,hj,h⟩)
   ·exact .inr ⟨i,by omega,h.symm⟩
   ·exact .inl h
   ·exact .inr ⟨j,by omega,h⟩
  ·rintro (h|⟨j,hj,h⟩)
   ·exact .inr (.inl h)
   ·rcases Nat.lt_succ_iff_lt_or_eq.1 hj with h1|rfl
    ·exact .inr (.inr ⟨j,h1,h⟩)
    ·exact .inl h.symm
theorem GY(b:BkS)(id:Hs)(t:TxS):(R0 b id t).spent=HR b t:=by
 unfold R0
 split<;>rfl
theorem MP{b:BkS}{id:Hs}{t:TxS}(h:U4 b id t=true):c4 b.ids id=false/\(m9 t=false->∀ q<t.ins.length,FL b (plc t.ins[q]!)=true):=by
 unfold U4 at h;rw[Bool.and_eq_true] at h;obtain⟨h1,h2⟩:=h;refine⟨by simpa using h1,fun hm q hq=>?_⟩;rw[hm,Bool.false_or,Bool.and_eq_true,List.all_eq_true] at h2;exact h2.1 q (List.mem_range.2 hq)
theorem SpnB.put{b:BkS}(h:SpnB b)(ho:InvO b){id:Hs}{t:TxS}(hs:U4 b id t=true):SpnB (R0 b id t):=fun p hp=>by
 rw[GY] at hp;rw[YT];right
 cases hm:m9 t with
 | true=>rw[FO hm] at hp;exact h p hp
 | false=>
  rw[gSpT_n hm,gSp_has] at hp
  rcases hp with hp|⟨j,hj,rfl⟩
  ·exact h p hp
  ·have:=(MP hs).2 hm j hj;unfold FL at this;rw[Bool.and_eq_true] at this;exact(ho.outs _ this.1).2
theorem spn_no{b:BkS}(h:SpnB b){id:Hs}(hi:c4 b.ids id=false)(n:UInt32):c4 b.spent (id,n)=false:=by
 cases hk:c4 b.spent (id,n) with
 | false=>rfl
 | true=>
  have h1:c4 b.ids id=true:=h (id,n) hk;rw[hi] at h1;cases h1
theorem DW{b:BkS}{txs:List TxS}{i:Nat}(h:X6 b txs i=0):U4 (gB b txs i) (J0 txs[i]!) txs[i]! = true:=by
 unfold X6 at h;split at h
 ·cases h
 ·split at h
  ·cases h
  ·rename_i h2;simpa using h2
theorem SpnB.gB{b:BkS}(h:SpnB b)(ho:InvO b){txs:List TxS}(ht:∀ t∈txs,t.outs.length<=1000)(i:Nat)(hi:i<=txs.length)(hz:∀ q<i,X6 b txs q=0):SpnB (gB b txs i):=by
 induction i with
 | zero=>exact h
 | succ i ih=>rw[gB_s];exact(ih (by omega) (fun q hq=>hz q (by omega))).put (ho.gB ht i (by omega)) (DW (hz i (by omega)))
theorem SpnB.all{l:List BlkS}(hl:allBl l)(hz:∀ q<l.length,gE l q=0)(h:Nat)(hh:h<=l.length):SpnB (v5 l h):=by
 induction h with
 | zero=>exact fun p hp=>by cases hp
 | succ h ih=>
  rw[v5];have h2:=(XF (hz h (by omega))).2.1;rw[FT h (fun q hq=>hz q (by omega))] at h2;exact(ih (by omega)).gB (InvO.all hl h (by omega)) (fun t ht=>((hl.get (show h<l.length by omega)).sm t ht).2) _ (Nat.le_refl _) h2
theorem gHsI_app(l r:List BlkS)(sc:Hs)(h:Nat)(hh:h<=l.length):t7 (l++r) sc h=t7 l sc h:=by
 induction h with
 | zero=>rfl
 | succ h ih=>rw[t7,t7,ih (by omega),V0 l r h (by omega),J5 (by omega)]
theorem gUnI_app(l r:List BlkS)(sc:Hs)(h:Nat)(hh:h<=l.length):J1 (l++r) sc h=J1 l sc h:=by
 induction h with
 | zero=>rfl
 | succ h ih=>rw[J1,J1,ih (by omega),J5 (by omega)]
theorem gUnF_pre(m:List (Plc×Unit))(u r:List HZ)(j:Nat)(hj:j<=u.length):L9 m (u++r) j=L9 m u j:=by
 induction j with
 | zero=>rfl
 | succ j ih=>rw[L9,L9,ih (by omega),J5 (by omega)]
theorem blI_pre(u r:List HZ)(j:Nat)(hj:j<=u.length):blI (u++r) j=blI u j:=by
 induction j with
 | zero=>rfl
 | succ j ih=>rw[blI,blI,ih (by omega),J5 (by omega)]
section
variable{l:List BlkS}{y:UInt8}{mark:UInt32}{sc:Hs}
def u5(y:UInt8):PlS:=⟨y,[],0⟩
theorem ZZ(l:List BlkS)(y:UInt8)(mark:UInt32):(j8 l (u5 y) mark).1.txs=[o4 l.length (u5 y) mark]:=rfl
theorem mint_tch{b:BkS}(h:InvO b)(n:Nat):D0 b (o4 n (u5 y) mark)=[c7 (y%12)]:=by
 have h0:c4 b.outs (plc (o4 n (u5 y) mark).ins[0]!)=false:=by
  cases hk:c4 b.outs (plc (o4 n (u5 y) mark).ins[0]!) with
  | false=>rfl
  | true=>exact absurd (h.outs _ hk).1 (show ¬ (4294967295:UInt32).toNat<1000 by decide)
 have e1:C9 b (o4 n (u5 y) mark).ins 1=[]:=FN h0;have e2:KR (o4 n (u5 y) mark).outs 1=[S9 (t6 (y%12))]:=rfl;show C9 b (o4 n (u5 y) mark).ins 1++KR (o4 n (u5 y) mark).outs 1=_;rw[e1,e2,LY];rfl
theorem OU(hl:allBl l):Z8 (l++[(j8 l (u5 y) mark).1]) sc=Z8 l sc++(if sc=c7 (y%12) then[(((l.length:Nat):Int),J0 (o4 l.length (u5 y) mark))] else[]):=by
 have hlen:(l++[(j8 l (u5 y) mark).1]).length=l.length+1:=by rw[List.length_append,List.length_singleton]
 unfold Z8;rw[hlen,t7,gHsI_app l _ sc _ (Nat.le_refl _),V0 l _ _ (Nat.le_refl _),Q5,ZZ]
 congr 1
 have ht:=mint_tch (y:=y) (mark:=mark) (InvO.all hl l.length (Nat.le_refl _)) l.length;by_cases hs:sc=c7 (y%12)
 ·rw[if_pos hs];have hy:=FR (sc:=sc) (b:=v5 l l.length) (h:=l.length) (i:=0) (txs:=[o4 l.length (u5 y) mark]) (by show sc∈D0 (v5 l l.length) (o4 l.length (u5 y) mark);rw[ht,hs];simp);exact hy
 ·rw[if_neg hs];exact FS (b:=v5 l l.length) (h:=l.length) (i:=0) (txs:=[o4 l.length (u5 y) mark]) (by show sc∉D0 (v5 l l.length) (o4 l.length (u5 y) mark);rw[ht];simpa using hs)
theorem LZ:J1 (l++[(j8 l (u5 y) mark).1]) sc (l.length+1)=J1 l sc l.length++(if sc=c7 (y%12) then[((J0 (o4 l.length (u5 y) mark),nK 0),5000,((l.length:Nat):Int))] else[]):=by
 rw[J1,gUnI_app l _ sc _ (Nat.le_refl _),Q5,ZZ];refine congrArg (fun r=>J1 l sc l.length++r) ?_
 have e:ZJ l.length [o4 l.length (u5 y) mark] sc 1=S2 l.length (J0 (o4 l.length (u5 y) mark)) (o4 l.length (u5 y) mark).outs sc 1:=by
  show[]++_=_;rw[List.nil_append];rfl
 have e2:S9 (o4 l.length (u5 y) mark).outs[0]!.script=c7 (y%12):=by rw[LY];rfl
 show ZJ l.length [o4 l.length (u5 y) mark] sc 1=_;rw[e,S2,e2];by_cases hs:sc=c7 (y%12)
 ·rw[if_pos hs,if_pos (beq_iff_eq.2 hs.symm)];rfl
 ·rw[if_neg hs,if_neg (fun h=>hs (beq_iff_eq.1 h).symm)];rfl
theorem DZ:(v5 (l++[(j8 l (u5 y) mark).1]) (l.length+1)).spent=(v5 l l.length).spent:=by
 rw[v5,V0 l _ _ (Nat.le_refl _),Q5,ZZ];show(R0 (v5 l l.length) (J0 (o4 l.length (u5 y) mark)) (o4 l.length (u5 y) mark)).spent=_;rw[GY,FO (YC _ _ _)]
theorem e11:(11:UInt8)%12=11:=by decide
theorem EA(hl:allBl l)(k:UInt8):Z8 (l++[(j8 l (u5 11) mark).1]) (c7 (k%8))=Z8 l (c7 (k%8)):=by
 rw[OU hl,e11,if_neg (key_ne k),List.append_nil]
theorem TP(k:UInt8):X2 (l++[(j8 l (u5 11) mark).1]) (c7 (k%8))=X2 l (c7 (k%8)):=by
 unfold X2;rw[List.length_append,List.length_singleton,DZ,LZ,e11,if_neg (key_ne k),List.append_nil]
theorem TO(hl:allBl l)(k:UInt8):Z8 (l++[(j8 l (u5 (k%8)) mark).1]) (c7 (k%8))=Z8 l (c7 (k%8))++[(((l.length:Nat):Int),J0 (o4 l.length (u5 (k%8)) mark))]:=by
 rw[OU hl,if_pos (by rw[key_12])]
theorem paid_uns(hl:allBl l)(h99:l.length<=99)(k:UInt8)(hz:(K3 (l++[(j8 l (u5 (k%8)) mark).1])).2=0) :
 X2 (l++[(j8 l (u5 (k%8)) mark).1]) (c7 (k%8))=X2 l (c7 (k%8))++[((J0 (o4 l.length (u5 (k%8)) mark),nK 0),5000,((l.length:Nat):Int))]:=by
 have hlen:(l++[(j8 l (u5 (k%8)) mark).1]).length=l.length+1:=by rw[List.length_append,List.length_singleton]
 have hz1:=right_0 hz;rw[hlen] at hz1
 have hzl:∀ q<l.length,gE l q=0:=fun q hq=>by rw[<- PX l [(j8 l (u5 (k%8)) mark).1] hq];exact hz1 q (by omega)
 have h2:=(XF (hz1 l.length (by omega))).2.1;rw[FT _ (fun q hq=>hz1 q (by omega)),V0 l _ _ (Nat.le_refl _),Q5,ZZ] at h2;have h3:U4 (v5 l l.length) (J0 (o4 l.length (u5 (k%8)) mark)) (o4 l.length (u5 (k%8)) mark)=true:=DW (b:=v5 l l.length) (txs:=[o4 l.length (u5 (k%8)) mark]) (i:=0) (h2 0 (show 0<1 by decide));have hno:=spn_no (SpnB.all hl hzl l.length (Nat.le_refl _)) (MP h3).1 (nK 0);unfold X2;rw[hlen,DZ,LZ,if_pos (by rw[key_12]),List.length_append,List.length_singleton,L9,gUnF_pre _ _ _ _ (Nat.le_refl _),Q5,if_neg (by rw[hno];exact Bool.false_ne_true)]
theorem SB(u:List HZ)(e:HZ):blS (u++[e])=blS u+e.2.1:=by
 unfold blS;rw[List.length_append,List.length_singleton,blI,blI_pre _ _ _ (Nat.le_refl _),Q5]
end
theorem BN{α:Type}(a:List α)(x:α):(a++[x]).length=a.length+1:=by rw[List.length_append,List.length_singleton]
theorem UL{l:List BlkS}(h:Made l)(h99:l.length<=50)(y:UInt8)(mark:UInt32):allBl (l++[(j8 l (u5 y) mark).1])/\((K3 (l++[(j8 l (u5 y) mark).1])).2=0∨(K3 (l++[(j8 l (u5 y) mark).1])).2=14):=by
 have:=(Made.grow (x:=u5 y) (mark:=mark) h h99 (fun s hs=>by cases hs)).all;exact⟨this.1.1,right_14 this.2.1⟩
end Go.Sx

namespace Go.Sx
def wkP1:PlS:=⟨1,[],0⟩
def IV:Hs:=[231,155,213,129,128,172,12,181,29,207,96,119,66,81,24,204,218,33,184,163,212,8,183,133,94,163,218,41,212,96,191,191]
def wkK1:List UInt8:=[0,20,138,240,216,11,215,197,179,88,156,148,224,101,219,16,246,18,123,165,146,36]
def wkK2:List UInt8:=[0,20,143,101,146,43,117,200,233,178,99,29,243,16,83,232,38,87,125,237,15,141]
def wkS1:Hs:=[88,128,126,102,154,37,48,62,205,63,43,185,6,163,233,243,86,103,198,107,96,78,127,163,32,14,156,156,58,151,93,141]
def wkT1:TxS:=⟨1,[⟨zero32,4294967295,[1,0,0],0,[]⟩],[⟨5000,wkK1⟩],0⟩
def wkT2:TxS:=⟨1,[⟨zero32,4294967295,[2,0,1],0,[]⟩],[⟨5000,wkK2⟩],1⟩
def KQ:BlkS:=⟨Z9,[]⟩
def CO:BlkS:=⟨⟨1,[61,203,117,189,137,197,20,104,21,221,192,209,215,49,76,183,70,25,253,247,43,253,106,115,55,132,161,91,255,182,29,187],IV,1001,545259519,0⟩,[wkT1]⟩
theorem wk_k1:t6 1=wkK1:=by kernel_rfl
theorem wk_s1:JA wkK1=wkS1:=by kernel_rfl
theorem wk_g1:j8 [KQ] wkP1 0=(CO,true):=by kernel_rfl
end Go.Sx

namespace Go.Sx
end Go.Sx

namespace Go.Sx
def fewP(p:PvS):Prop:=p.t.ins.length<=8/\p.t.outs.length<=8/\∀ j<p.t.outs.length,p.t.outs[j]!.script.length<=200
instance(p:PvS):Decidable (fewP p):=by unfold fewP;infer_instance
end Go.Sx

namespace Go.Sx
def spOwn(s:SpS):D:=.agg [.u8 s.from_,.bool s.two,.sl (some 5) 1 (s.to.map .u8),.u8 s.part,.u8 s.extra]
def NP(x:PlS):D:=.agg [.u8 x.pays,.sl (some 86) 5 (x.spends.map spOwn),.u8 x.step]
theorem WZ(s:SpS):(spOwn s).brw=WE s:=by
 simp only[spOwn,WE,D.brw,d5,List.map_cons,List.map_nil];rw[j9 (fun _=>rfl)]
theorem WJ(x:PlS):(NP x).brw=QU x:=by
 simp only[NP,QU,D.brw,d5,List.map_cons,List.map_nil];rw[O2 WZ]
theorem WK(l:List PlS):(D.sl (some 77) 3 (l.map NP)).brw=.sl none 3 (l.map QU):=by
 simp only[D.brw,d5];rw[O2 WJ]
end Go.Sx

namespace Go.Sx
def lqP2:PlS:=⟨2,[⟨0,false,[1,3],0,0⟩],0⟩
def lqPs:List PlS:=[wkP1,lqP2]
def lqK3:List UInt8:=[0,20,241,3,30,15,204,120,101,185,91,61,162,200,70,20,78,248,234,9,29,146]
def lqT3:TxS:=⟨2,[⟨IV,0,[],0,[]⟩],[⟨2500,wkK1⟩,⟨2500,lqK3⟩],1⟩
def lqH(root:Hs):HdS:=⟨1,[215,61,162,246,93,180,235,194,32,115,90,88,68,108,218,208,148,132,148,23,57,171,154,49,135,88,167,104,231,2,56,86],root,1002,545259519,3⟩
def KB:Hs:=[169,227,53,181,90,41,200,102,251,238,226,218,133,166,201,127,116,54,227,65,41,198,31,250,172,196,52,67,10,228,48,128]
def lqB2:BlkS:=⟨lqH KB,[wkT2,lqT3]⟩
def lqB3:BlkS:=⟨lqH zero32,[wkT2,lqT3]⟩
def lqL:List BlkS:=[KQ,CO,lqB2]
def lqM:List BlkS:=[KQ,CO,lqB3]
def RK:Hs:=[250,141,206,50,89,80,28,207,56,9,240,75,244,243,88,235,236,172,15,144,59,180,206,229,125,19,125,201,237,145,162,147]
def lqS3:Hs:=[227,80,243,196,215,137,29,233,204,134,10,30,75,249,126,190,6,11,71,113,43,66,34,233,57,177,143,91,54,173,171,115]
theorem lq_g2:j8 [KQ,CO] lqP2 1=(lqB2,true):=by kernel_rfl
theorem lq_bl:d8 lqPs=lqL:=by
 have h1:J3 lqPs 1=[KQ,CO]:=by
  show(if(j8 [KQ] wkP1 0).2=true then[KQ]++[(j8 [KQ] wkP1 0).1] else[KQ])=_;rw[wk_g1];rfl
 show J3 lqPs 2=_;rw[J3,h1];show(if(j8 [KQ,CO] lqP2 1).2=true then[KQ,CO]++[(j8 [KQ,CO] lqP2 1).1] else[KQ,CO])=_;rw[lq_g2];rfl
theorem lqPs_ok:CM lqPs:=fun x hx s hs=>by
 rcases List.mem_cons.1 hx with rfl|hx
 ·cases hs
 ·rw[List.mem_singleton.1 hx] at hs;rw[List.mem_singleton.1 hs];exact(by decide:2<=140737488355328)
theorem BP:allBl lqL:=by rw[<- lq_bl];exact(ZA lqPs).1
theorem lqM_ok:allBl lqM:=⟨by decide,fun b hb=>by
 have h:=BP.2;have hb3:=h lqB2 (by simp[lqL]);simp only[lqM,List.mem_cons,List.not_mem_nil,or_false] at hb
 rcases hb with rfl|rfl|rfl
 ·exact h _ (by simp[lqL])
 ·exact h _ (by simp[lqL])
 ·exact⟨⟨hb3.hd.1,rfl⟩,hb3.txs,hb3.sm,hb3.len⟩⟩
theorem lq_fn{P:Program}{f:FuncId}{ds:List D}{o:Option Nat}{z:Nat}(h:Fn P gl f ds (.sl o z ((d8 lqPs).map v9))):Fn P gl f ds (.sl o z (lqL.map v9)):=by rw[<- lq_bl];exact h
theorem lq_s3:c7 3=lqS3:=by kernel_rfl
theorem lq_s1:c7 1=wkS1:=by unfold c7;rw[wk_k1,wk_s1]
theorem RZ:K3 lqL=(0,0):=by kernel_rfl
theorem RQ:K3 lqM=(2,15):=by kernel_rfl
theorem lq_h0:Z8 lqL wkS1=[(1,IV),(2,RK)]:=by kernel_rfl
theorem lq_u0:X2 lqL wkS1=[((RK,0),2500,2)]:=by kernel_rfl
theorem lq_b0:blS (X2 lqM lqS3)=2500:=by kernel_rfl
theorem YO:Z8 lqL (c7 1)=[(1,IV),(2,RK)]:=by rw[lq_s1,lq_h0]
theorem JR:X2 lqL (c7 1)=[((RK,0),2500,2)]:=by rw[lq_s1,lq_u0]
theorem lq_b:blS (X2 lqM (c7 3))=2500:=by rw[lq_s3,lq_b0]
theorem lq_set:(lqL.map v9).set 2 (.agg [.agg [.u32 (lqH KB).ver,z5 (lqH KB).prev,z5 zero32,.u32 (lqH KB).time,.u32 (lqH KB).bits,.u32 (lqH KB).nonce],.sl none 4 (lqB2.txs.map U7)])=lqM.map v9:=rfl
theorem lq_plans:Wk (.sl (some 77) 3 [.agg [.u8 1,.nils,.u8 0],.agg [.u8 2,.sl (some 86) 5 [.agg [.u8 0,.bool false,.sl (some 5) 1 [.u8 1,.u8 3],.u8 0,.u8 0]],.u8 0]]) (.sl (some 77) 3 (lqPs.map NP)):=
 .slL (.cons (.aggL (.cons (.refl _) (.cons (.nils _ _) (.cons (.refl _) .nil)))) (.cons (.refl _) .nil))
end Go.Sx

namespace Go.Sx
open Go.Proofs
set_option maxHeartbeats 1000000 in
theorem few15_ok(l:List BlkS)(hl:blksH l):Fn Tryd.prog gl 21 [.sl none 69 (l.map v9)] (.bool (decide (fewL l))):=by
 refine Fn.of (n:=119) Tryd.func21 rfl rfl rfl (nU rfl) fun C hC hD=>?_;have hl1:=hl.1;refine z6 1 (y1 2) (V1 0) ⟨aU<|zK (kB false O) O O,Zt⟩ O O O O ?_;refine W.seq (z6 3 (y3 10 11 12) (V2 0 12) ⟨mU 0 O O,aU<|zN O (lN _) O,aU<|HQ 20 O O O,Zt⟩ O O O O ?_);refine z9 O (fun hc12=>?_) (fun hc12=>?_)
 ·refine z6 1 (y1 2) (V1 2) ⟨aU<|zK (kB false O) O O,Zt⟩ O O O O ?_;refine W.ret ?_;exact Ends.one' (.inr O) O (congrArg D.bool (dF (fun h=>by have:=h.1;omega)).symm) O O Zt
 ·refine W.skip (W.seq (z6 1 (y1 3) (V2 0 3) ⟨aU<|zK (kI 0 O) O O,Zt⟩ O O O O ?_));refine W.block ?_;refine W.loop (α:={q__:Nat//q__<=l.length/\∀ a<q__,fewK l[a]!}) (fun q__=>⟨119,[(0,.sl none 69 (l.map v9)),(3,.int ((q__.1:Nat):Int))],[]⟩) (fun q__=>l.length-q__.1) ⟨(0),⟨Nat.zero_le _,fun j h=>absurd h (Nat.not_lt_zero _)⟩⟩ O ?_;rintro ⟨i,⟨hi,hok⟩⟩;show W _ _ _ _ ⟨119,[(0,.sl none 69 (l.map v9)),(3,.int ((i:Nat):Int))],[]⟩;have hi:i<=l.length:=hi;have hok:∀ a<i,fewK l[a]!:=hok;refine W.seq (z6 4 (y4 13 14 15 16) (V3 0 3 16) ⟨mU 3 O O,mU 0 O O,aU<|zN O (lN _) O,aU<|zS O O O,Zt⟩ O O O O ?_);refine z9 O (fun hc16=>?_) (fun hc16=>?_)
  ·refine W.skip (W.seq (W.block (W.seq (z6 7 (y7 19 20 21 22 23 24 25) (V3 0 3 25) ⟨mU 0 O O,mU 3 O O,aU<|zI i O O O bU O,aU<|H9 O O,aU<|zL O O (mG l) O O O O O,aU<|zN O (lN _) O,aU<|HQ 12 O O O,Zt⟩ O O O O ?_))));refine z9 O (fun hc25=>?_) (fun hc25=>?_)
   ·refine z6 1 (y1 2) (V1 2) ⟨aU<|zK (kB false O) O O,Zt⟩ O O O O ?_;refine W.ret ?_;exact Ends.one' (.inr O) O (congrArg D.bool (dF (fun h=>by have:=(h.2 i hc16).1;omega)).symm) O O Zt
   ·refine W.skip (W.seq ?_);have hbi:=hl.2 _ (u9 hc16);have hbi1:=hbi.1;refine j1 1 (y1 4) (V3 0 3 4) ⟨aU<|zK (kI 0 O) O O,Zt⟩ O O O O ?_;refine W.block ?_;refine W.loop (α:={q__:Nat//q__<=l[i]!.txs.length/\∀ a<q__,fewT l[i]!.txs[a]!}) (fun q__=>⟨119,[(0,.sl none 69 (l.map v9)),(3,.int ((i:Nat):Int)),(4,.int ((q__.1:Nat):Int))],[]⟩) (fun q__=>l[i]!.txs.length-q__.1) ⟨(0),⟨Nat.zero_le _,fun j h=>absurd h (Nat.not_lt_zero _)⟩⟩ O ?_;rintro ⟨j,⟨hj,hok2⟩⟩;show W _ _ _ _ ⟨119,[(0,.sl none 69 (l.map v9)),(3,.int ((i:Nat):Int)),(4,.int ((j:Nat):Int))],[]⟩;have hj:j<=l[i]!.txs.length:=hj;have hok2:∀ a<j,fewT l[i]!.txs[a]!:=hok2;refine W.seq (z6 8 (y8 26 27 28 29 30 31 32 33) (V4 0 3 4 33) ⟨mU 4 O O,mU 0 O O,mU 3 O O,aU<|zI i O O O bU O,aU<|H9 O O,aU<|zL O O (mG l) O O O O O,aU<|zN O (lN _) O,aU<|zS O O O,Zt⟩ O O O O ?_);refine z9 O (fun hc33=>?_) (fun hc33=>?_)
    ·refine W.skip (W.seq (W.block (z7 10 (y8 36 37 38 39 40 41 42 43) [] [] (V4 0 3 4 43) ⟨mU 0 O O,mU 3 O O,aU<|zI i O O O bU O,aU<|H9 O O,aU<|zL O O (mG l) O O O O O,mU 4 O O,aU<|zI j O O O bU O,aU<|zL O O (j4 (l:=l[i]!.txs) bU) O O O O O,Zt⟩ O O (o0 O O (m1 O O O O O (tV (V4 0 3 4 5) (b1 5) 119 O O O ?_))))));refine W.seq (W.seq ?_);by_cases h8:8<l[i]!.txs[j]!.ins.length
     ·have hth:=hbi.2 _ (u9 (show j<l[i]!.txs.length by omega));have hth1:=hth.ins;have hth2:=hth.outs;refine j1 10 [.y 44 _,.y 45 _,.y 46 _,.y 47 _,.y 48 _,.x 49,.x 50,.x 51,.x 52,.y 53 _] (V5 0 3 4 5 53) ⟨aU (fU 5 O O),aU (lU 44 O O O O O O O),aU<|zN O (lN _) O,aU<|HQ 8 O O O,mU 47 O O,aF O O (gT (dT h8) O),aF O O (gT (dT h8) O),aF O O (gT (dT h8) O),aF O O (gT (dT h8) O),aU<|AT O (dT h8) (kB true O) O O,Zt⟩ O O O O ?_;refine d6 O (O) ?_;refine W.seq ?_;refine u3 (live:=[]) (env':=[]) (bx':=(b1 5)) (n':=119) O O O ?_;refine p9 [] (bx':=[]) O O O (j7 hD O) ?_;refine j1 1 (y1 2) (V1 2) ⟨aU<|zK (kB false O) O O,Zt⟩ O O O O ?_;refine W.ret ?_;exact Ends.one' (.inr O) O (congrArg D.bool (dF (fun h=>by have:=((h.2 i hc16).2 j hc33).1;omega)).symm) O O Zt
     ·have hth:=hbi.2 _ (u9 (show j<l[i]!.txs.length by omega));have hth1:=hth.ins;have hth2:=hth.outs;refine j1 10 (y10 44 45 46 47 48 49 50 51 52 53) (V5 0 3 4 5 53) ⟨aU (fU 5 O O),aU (lU 44 O O O O O O O),aU<|zN O (lN _) O,aU<|HQ 8 O O O,mU 47 O O,aW O O (gF (dF h8) O) (fU 5 O O),aW O O (gF (dF h8) O) (lU 49 O O O O O O O),aW O O (gF (dF h8) O)<|zN O (lN _) O,aW O O (gF (dF h8) O)<|HQ 8 O O O,aU<|zF O (dF h8) O O O,Zt⟩ O O O O ?_;refine z9 O (fun hc53=>?_) (fun hc53=>?_)
      ·refine W.seq ?_;refine u3 (live:=[]) (env':=[]) (bx':=(b1 5)) (n':=119) O O O ?_;refine p9 [] (bx':=[]) O O O (j7 hD O) ?_;refine j1 1 (y1 2) (V1 2) ⟨aU<|zK (kB false O) O O,Zt⟩ O O O O ?_;refine W.ret ?_;exact Ends.one' (.inr O) O (congrArg D.bool (dF (fun h=>by have:=((h.2 i hc16).2 j hc33).2.1;omega)).symm) O O Zt
      ·refine W.skip (z6 1 (y1 6) (V5 0 3 4 5 6) ⟨aU<|zK (kI 0 O) O O,Zt⟩ O O O O ?_);refine W.seq (z6 1 (y1 7) (V6 0 3 4 5 6 7) ⟨aU<|zK (kI 0 O) O O,Zt⟩ O O O O ?_);refine W.block ?_;refine W.loop (α:={q__:Nat//q__<=l[i]!.txs[j]!.ins.length}) (fun q__=>⟨119,[(0,.sl none 69 (l.map v9)),(3,.int ((i:Nat):Int)),(4,.int ((j:Nat):Int)),(5,.ptr 5 0 []),(6,.int (((fnI l[i]!.txs[j]! q__.1):Nat):Int)),(7,.int ((q__.1:Nat):Int))],[(5,.var (U7 l[i]!.txs[j]!))]⟩) (fun q__=>l[i]!.txs[j]!.ins.length-q__.1) ⟨(0),bU⟩ O ?_;rintro ⟨q,hq⟩;show W _ _ _ _ ⟨119,[(0,.sl none 69 (l.map v9)),(3,.int ((i:Nat):Int)),(4,.int ((j:Nat):Int)),(5,.ptr 5 0 []),(6,.int (((fnI l[i]!.txs[j]! q):Nat):Int)),(7,.int ((q:Nat):Int))],[(5,.var (U7 l[i]!.txs[j]!))]⟩;have hq:q<=l[i]!.txs[j]!.ins.length:=hq;refine W.seq (z6 5 (y5 54 55 56 57 58) (V7 0 3 4 5 6 7 58) ⟨mU 7 O O,aU (fU 5 O O),aU (lU 55 O O O O O O O),aU<|zN O (lN _) O,aU<|zS O O O,Zt⟩ O O O O ?_);refine z9 O (fun hc58=>?_) (fun hc58=>?_)
       ·refine W.skip (W.seq (W.block (W.seq ?_)));have hxq:=hth.inw _ (u9 (show q<l[i]!.txs[j]!.ins.length by omega));have hiq:=fnI_le hth q (by omega);refine w7 (m:=18) (an:=[0,0,2,0,14,30,62,126,255,0,512,0,3584,7680,15872,32256,65535,131071]) hP dU O (its:=[.y 61 _,.y 62 _,.y 63 _,.y 64 _,.y 65 _,.y 66 _,.y 67 _,.y 68 _,.y 69 _,.y 70 _,.y 71 _,.y 72 _,.y 73 _,.y 74 _,.y 75 _,.y 76 _,.y 77 _,.y 6 _]) (ks:=[]) (kk:=[]) (live:=[0,3,4,5,6,7]) (env':=(V6 0 3 4 5 6 7)) (⟨nU O,O,⟨mU 6 O O,aU (fU 5 O O),aU (lU 62 O O O O O O O),mU 7 O O,aU<|zI q O O O bU O,aU<|H9 O O,aU<|zL O O (j4 (l:=l[i]!.txs[j]!.ins) bU) O O O O O,aU<|zN O (lN _) O,aU<|zP O O bU O,aU (fU 5 O O),aU (lU 70 O O O O O O O),mU 7 O O,aU<|zI q O O O bU O,aU<|H9 O O,aU<|zL O O (j4 (l:=l[i]!.txs[j]!.ins) bU) O O O O O,aU<|zN O (lN _) O,aU<|zP O O bU O,aU<|zA O O O,Zt⟩,O,O,O⟩) O (bx':=(b1 5)) O (n':=119) O (tV (V6 0 3 4 5 6 7) (b1 5) 119 O O O ?_);refine z6 1 (y1 8) (V7 0 3 4 5 6 7 8) ⟨aU<|zK (kI 0 O) O O,Zt⟩ O O O O ?_;refine W.block ?_;refine W.loop (α:={q__:Nat//q__<=l[i]!.txs[j]!.ins[q]!.wit.length}) (fun q__=>⟨119,[(0,.sl none 69 (l.map v9)),(3,.int ((i:Nat):Int)),(4,.int ((j:Nat):Int)),(5,.ptr 5 0 []),(6,.int (((fnI l[i]!.txs[j]! q+l[i]!.txs[j]!.ins[q]!.script.length+l[i]!.txs[j]!.ins[q]!.wit.length+VA l[i]!.txs[j]!.ins[q]! q__.1):Nat):Int)),(7,.int ((q:Nat):Int)),(8,.int ((q__.1:Nat):Int))],[(5,.var (U7 l[i]!.txs[j]!))]⟩) (fun q__=>l[i]!.txs[j]!.ins[q]!.wit.length-q__.1) ⟨(0),bU⟩ O ?_;rintro ⟨w,hw⟩;show W _ _ _ _ ⟨119,[(0,.sl none 69 (l.map v9)),(3,.int ((i:Nat):Int)),(4,.int ((j:Nat):Int)),(5,.ptr 5 0 []),(6,.int (((fnI l[i]!.txs[j]! q+l[i]!.txs[j]!.ins[q]!.script.length+l[i]!.txs[j]!.ins[q]!.wit.length+VA l[i]!.txs[j]!.ins[q]! w):Nat):Int)),(7,.int ((q:Nat):Int)),(8,.int ((w:Nat):Int))],[(5,.var (U7 l[i]!.txs[j]!))]⟩;have hw:w<=l[i]!.txs[j]!.ins[q]!.wit.length:=hw;refine W.seq (z6 9 (y9 78 79 80 81 82 83 84 85 86) (V8 0 3 4 5 6 7 8 86) ⟨mU 8 O O,aU (fU 5 O O),aU (lU 79 O O O O O O O),mU 7 O O,aU<|zI q O O O bU O,aU<|H9 O O,aU<|zL O O (j4 (l:=l[i]!.txs[j]!.ins) bU) O O O O O,aU<|zN O (lN _) O,aU<|zS O O O,Zt⟩ O O O O ?_);refine z9 O (fun hc86=>?_) (fun hc86=>?_)
        ·refine W.skip (W.seq (W.block ?_));have hww:=fnW_le l[i]!.txs[j]!.ins[q]! (show w+1<=l[i]!.txs[j]!.ins[q]!.wit.length by omega);rw[VA] at hww;refine j1 13 (y13 89 90 91 92 93 94 95 96 97 98 99 100 6) (V7 0 3 4 5 6 7 8) ⟨mU 6 O O,aU (fU 5 O O),aU (lU 90 O O O O O O O),mU 7 O O,aU<|zI q O O O bU O,aU<|H9 O O,aU<|zL O O (j4 (l:=l[i]!.txs[j]!.ins) bU) O O O O O,mU 8 O O,aU<|zI w O O O bU O,aU<|zL O O (j4 (l:=(l[i]!.txs[j]!.ins)[q]!.wit) bU) O O O O O,aU<|zN O (lN _) O,aU<|zP O O bU O,aU<|zA O O O,Zt⟩ O O O O ?_;refine j1 3 (y3 87 88 8) (V7 0 3 4 5 6 7 8) ⟨mU 8 O O,aU<|m8 1 O O bU O,aU<|zA O O O,Zt⟩ O O O O ?_;exact⟨⟨(w+1),bU⟩,(by rw[VA,Nat.add_assoc _ (VA _ _) _]<;>rfl),(by simp only[];omega)⟩
        ·obtain rfl:w=l[i]!.txs[j]!.ins[q]!.wit.length:=by omega
         refine W.exit ?_;refine j1 3 (y3 59 60 7) (V6 0 3 4 5 6 7) ⟨mU 7 O O,aU<|m8 1 O O bU O,aU<|zA O O O,Zt⟩ O O O O ?_;exact⟨⟨(q+1),bU⟩,rfl,(by simp only[];omega)⟩
       ·obtain rfl:q=l[i]!.txs[j]!.ins.length:=by omega
        refine W.exit (W.seq (z6 1 (y1 9) (V6 0 3 4 5 6 9) ⟨aU<|zK (kI 0 O) O O,Zt⟩ O O O O ?_));refine W.block ?_;refine W.loop (α:={q__:Nat//q__<=l[i]!.txs[j]!.outs.length}) (fun q__=>⟨119,[(0,.sl none 69 (l.map v9)),(3,.int ((i:Nat):Int)),(4,.int ((j:Nat):Int)),(5,.ptr 5 0 []),(6,.int (((fnO l[i]!.txs[j]! q__.1):Nat):Int)),(9,.int ((q__.1:Nat):Int))],[(5,.var (U7 l[i]!.txs[j]!))]⟩) (fun q__=>l[i]!.txs[j]!.outs.length-q__.1) ⟨(0),bU⟩ O ?_;rintro ⟨k,hk⟩;show W _ _ _ _ ⟨119,[(0,.sl none 69 (l.map v9)),(3,.int ((i:Nat):Int)),(4,.int ((j:Nat):Int)),(5,.ptr 5 0 []),(6,.int (((fnO l[i]!.txs[j]! k):Nat):Int)),(9,.int ((k:Nat):Int))],[(5,.var (U7 l[i]!.txs[j]!))]⟩;have hk:k<=l[i]!.txs[j]!.outs.length:=hk;refine W.seq (z6 5 (y5 101 102 103 104 105) (V7 0 3 4 5 6 9 105) ⟨mU 9 O O,aU (fU 5 O O),aU (lU 102 O O O O O O O),aU<|zN O (lN _) O,aU<|zS O O O,Zt⟩ O O O O ?_);refine z9 O (fun hc105=>?_) (fun hc105=>?_)
        ·refine W.skip (W.seq (W.block ?_));have hok_:=hth.outw _ (u9 (show k<l[i]!.txs[j]!.outs.length by omega));have hos:=fnO_le hth k (by omega);refine j1 10 (y10 108 109 110 111 112 113 114 115 116 6) (V6 0 3 4 5 6 9) ⟨mU 6 O O,aU (fU 5 O O),aU (lU 109 O O O O O O O),mU 9 O O,aU<|zI k O O O bU O,aU<|H9 O O,aU<|zL O O (j4 (l:=l[i]!.txs[j]!.outs) bU) O O O O O,aU<|zN O (lN _) O,aU<|zP O O bU O,aU<|zA O O O,Zt⟩ O O O O ?_;refine j1 3 (y3 106 107 9) (V6 0 3 4 5 6 9) ⟨mU 9 O O,aU<|m8 1 O O bU O,aU<|zA O O O,Zt⟩ O O O O ?_;exact⟨⟨(k+1),bU⟩,rfl,(by simp only[];omega)⟩
        ·obtain rfl:k=l[i]!.txs[j]!.outs.length:=by omega
         refine W.exit (W.seq ?_);refine u3 (live:=[0,3,4,6]) (env':=(V4 0 3 4 6)) (bx':=(b1 5)) (n':=119) O O O ?_;refine p9 [] (bx':=[]) O O O (j7 hD O) ?_;refine j1 2 (y2 117 118) (V4 0 3 4 118) ⟨mU 6 O O,aU<|HQ 1000 O O O,Zt⟩ O O O O ?_;refine z9 O (fun hc118=>?_) (fun hc118=>?_)
         ·refine z6 1 (y1 2) (V1 2) ⟨aU<|zK (kB false O) O O,Zt⟩ O O O O ?_;refine W.ret ?_;exact Ends.one' (.inr O) O (congrArg D.bool (dF (fun h=>by have:=((h.2 i hc16).2 j hc33).2.2;omega)).symm) O O Zt
         ·refine W.skip ?_;refine j1 3 (y3 34 35 4) (V3 0 3 4) ⟨mU 4 O O,aU<|m8 1 O O bU O,aU<|zA O O O,Zt⟩ O O O O ?_;exact⟨⟨(j+1),⟨(by show j+1<=l[i]!.txs.length;omega),ext_i hok2 ⟨by omega,by omega,by omega⟩⟩⟩,rfl,(by simp only[];omega)⟩
    ·obtain rfl:j=l[i]!.txs.length:=by omega
     refine W.exit ?_;refine j1 3 (y3 17 18 3) (V2 0 3) ⟨mU 3 O O,aU<|m8 1 O O bU O,aU<|zA O O O,Zt⟩ O O O O ?_;exact⟨⟨(i+1),⟨(by show i+1<=l.length;omega),ext_i hok ⟨by omega,hok2⟩⟩⟩,rfl,(by simp only[];omega)⟩
  ·obtain rfl:i=l.length:=by omega
   refine W.exit (z6 1 (y1 2) (V1 2) ⟨aU<|zK (kB true O) O O,Zt⟩ O O O O ?_);refine W.ret ?_;exact Ends.one' (.inr O) O (congrArg D.bool (dT ⟨by omega,hok⟩).symm) O O Zt
end Go.Sx

namespace Go.Sx
open Go.Proofs
theorem m6(b:List UInt8)(x:UInt64)(n:Nat)(hn:n<=8)(hb:b.length<=10000000):FnB Tryd.prog gl 93 [.ptr 0 0 [],.u64 x,.int ((n:Nat):Int)] [(0,.var (.agg [.sl (some 5) 1 (b.map D.u8)]))] (.tup []) [(0,.var (.agg [.sl (some 5) 1 ((b++m5 x n).map D.u8)]))] []:=by
 refine FnB.of (n:=23) (ids:=[0]) Tryd.func93 rfl rfl rfl (nU rfl) fun C hC hD=>?_;refine z6 2 (y2 6 7) (V4 0 1 6 7) ⟨mU 2 O O,aU<|S3 (kI 0 O) O O,Zt⟩ O O O O ?_;refine W.block ?_;refine W.loop (α:={q__:Nat//q__<=n}) (fun q__=>⟨23,[(0,.ptr 0 0 []),(1,.u64 (WF x q__.1)),(6,.int ((n:Nat):Int)),(7,.int ((q__.1:Nat):Int))],[(0,.var (.agg [.sl (some 5) 1 ((b++m5 x q__.1).map D.u8)]))]⟩) (fun q__=>n-q__.1) ⟨(0),bU⟩ (by simp only[m5,List.append_nil];rfl) ?_;rintro ⟨i,hi⟩;show W _ _ _ _ ⟨23,[(0,.ptr 0 0 []),(1,.u64 (WF x i)),(6,.int ((n:Nat):Int)),(7,.int ((i:Nat):Int))],[(0,.var (.agg [.sl (some 5) 1 ((b++m5 x i).map D.u8)]))]⟩;have hi:i<=n:=hi;have hll:=w5 x i;refine z6 1 (y1 8) (V5 0 1 6 7 8) ⟨aU<|zS O O O,Zt⟩ O O O O ?_;refine W.seq ?_;refine z9 O (fun hc8=>?_) (fun hc8=>?_)
 ·refine W.skip (W.seq (W.block (z7 12 (y8 9 10 11 12 13 14 15 16) [] [] (V7 0 1 6 7 9 13 16) ⟨mU 0 O O,mU 0 O O,aU<|AR O O,aU (fU 11 O O),aU fun _ B H K=>R.ldO (K 12 _ O) (B 0 _ O) O H,mU 1 O O,aU<|zW O O O,aU fun _ _ H K=>w9 (z:=1) (.cons (eU K 15 O) .nil) ⟨⟨O,O,O⟩,Zt⟩ O H dU,Zt⟩ O O (⟨O,_,UX (gU 13 O) (xU 0 O) O O O O (gU 13 O) (SrcO.sc (SC.sl (gU 16 O)) (g6 O)) (show _=((b++m5 x (i+1)).map D.u8) from(by simp[m5])) bU (nU O) dU dU,⟨O,_,R.nilcP (gU 9 O) (nU O),⟨O,_,R.fdP (gU 18 O) (nU O),⟨O,_,G0 (gU 19 O) (xU 0 O) O (gU 17 O) O O (by rfl) (by rfl) O O,tV (V4 0 1 6 7) (b1 0) 23 O O O ?_⟩⟩⟩⟩))));refine j1 3 (y3 20 21 1) (V4 0 1 6 7) ⟨mU 1 O O,aU fun _ _ H K=>R.bin (eU K 20 O) (kW (.int .u64 8) (.u64 8) O) O bV H,aU<|zA O O O,Zt⟩ O O O O ?_;refine j1 2 (y2 22 7) (V4 0 1 6 7) ⟨aU<|m8 1 O O bU O,mU 22 O O,Zt⟩ O O O O ?_;exact⟨⟨(i+1),bU⟩,rfl,(by simp only[];omega)⟩
 ·obtain rfl:i=n:=by omega
  refine W.exit ?_;exact EndsB.none' (r:=.dead) (.inl O) O (O) ⟨O,Zt⟩
theorem r8(b:List UInt8)(n:Nat)(hb:b.length<=9000000):FnB Tryd.prog gl 111 [.ptr 0 0 [],.int ((n:Nat):Int)] [(0,.var (.agg [.sl (some 5) 1 (b.map D.u8)]))] (.tup []) [(0,.var (.agg [.sl (some 5) 1 ((b++v6 n).map D.u8)]))] []:=by
 refine FnB.of (n:=34) (ids:=[0]) Tryd.func111 rfl rfl rfl (nU rfl) fun C hC hD=>?_;refine z6 3 (y3 5 6 4) (V2 0 4) ⟨mU 1 O O,aU fun _ _ H K=>Z3 (d:=.u64 (cU n)) (eU K 5 O) O (O) H,aU<|zA O O O,Zt⟩ O O O O ?_;refine W.block (z6 3 (y3 13 14 12) (V3 0 4 12) ⟨mU 4 O O,aU<|P5 O (kW (.int .u64 253) (.u64 253) O) O O,aU<|zA O O O,Zt⟩ O O O O ?_);refine W.cond O (fun hc12=>?_) (fun hc12=>?_)
 ·refine c9 3 (y2 15 16) [] [] (V2 15 16) ⟨mU 0 O O,mU 4 O O,Zt⟩ O O (⟨O,_,R.callB [(0,0)] hC (m6 b (cU n) 1 dU (by first|omega|(simp only[List.length_append,w5,List.length_cons,List.length_nil];omega)|simp)) (EvB.cons (gV 15 O) O O O (EvB.cons (gV 16 O) O O O (EvB.cons (kI 1 O) O O O EvB.nil))) O ⟨O,Zt⟩ ⟨O,Zt⟩ O O O O O O (nU O),tV [] (b1 0) 34 O O O ?_⟩);exact EndsB.none' (r:=.dead) (.inl O) O (by simp only[v6,if_pos (of_decide_eq_true hc12)];rfl) ⟨O,Zt⟩
 ·refine z6 3 (y3 19 20 18) (V3 0 4 18) ⟨mU 4 O O,aU<|P5 O (kW (.int .u64 65535) (.u64 65535) O) O O,aU<|zA O O O,Zt⟩ O O O O ?_;refine W.cond O (fun hc18=>?_) (fun hc18=>?_)
  ·refine z7 2 (y1 21) [] [] (V3 0 4 21) ⟨mU 0 O O,Zt⟩ O O (⟨O,_,R.callB [(0,0)] hC (m6 b 253 1 dU (by first|omega|(simp only[List.length_append,w5,List.length_cons,List.length_nil];omega)|simp)) (EvB.cons (gV 21 O) O O O (EvB.cons (kW (.int .u64 253) (.u64 253) O) O O O (EvB.cons (kI 1 O) O O O EvB.nil))) O ⟨O,Zt⟩ ⟨O,Zt⟩ O O O O O O (nU O),tV (V2 0 4) (b1 0) 34 O O O ?_⟩);refine c9 3 (y2 23 24) [] [] (V2 23 24) ⟨mU 0 O O,mU 4 O O,Zt⟩ O O (⟨O,_,R.callB [(0,0)] hC (m6 (b++m5 253 1) (cU n) 2 dU (by first|omega|(simp only[List.length_append,w5,List.length_cons,List.length_nil];omega)|simp)) (EvB.cons (gV 23 O) O O O (EvB.cons (gV 24 O) O O O (EvB.cons (kI 2 O) O O O EvB.nil))) O ⟨O,Zt⟩ ⟨O,Zt⟩ O O O O O O (nU O),tV [] (b1 0) 34 O O O ?_⟩);exact EndsB.none' (r:=.dead) (.inl O) O (by simp only[v6,if_neg (of_decide_eq_false hc12),if_pos (of_decide_eq_true hc18),List.append_assoc];rfl) ⟨O,Zt⟩
  ·refine z6 3 (y3 27 28 26) (V3 0 4 26) ⟨mU 4 O O,aU<|P5 O (kW (.int .u64 4294967295) (.u64 4294967295) O) O O,aU<|zA O O O,Zt⟩ O O O O ?_;refine W.cond O (fun hc26=>?_) (fun hc26=>?_)
   ·refine z7 2 (y1 29) [] [] (V3 0 4 29) ⟨mU 0 O O,Zt⟩ O O (⟨O,_,R.callB [(0,0)] hC (m6 b 254 1 dU (by first|omega|(simp only[List.length_append,w5,List.length_cons,List.length_nil];omega)|simp)) (EvB.cons (gV 29 O) O O O (EvB.cons (kW (.int .u64 254) (.u64 254) O) O O O (EvB.cons (kI 1 O) O O O EvB.nil))) O ⟨O,Zt⟩ ⟨O,Zt⟩ O O O O O O (nU O),tV (V2 0 4) (b1 0) 34 O O O ?_⟩);refine c9 3 (y2 31 32) [] [] (V2 31 32) ⟨mU 0 O O,mU 4 O O,Zt⟩ O O (⟨O,_,R.callB [(0,0)] hC (m6 (b++m5 254 1) (cU n) 4 dU (by first|omega|(simp only[List.length_append,w5,List.length_cons,List.length_nil];omega)|simp)) (EvB.cons (gV 31 O) O O O (EvB.cons (gV 32 O) O O O (EvB.cons (kI 4 O) O O O EvB.nil))) O ⟨O,Zt⟩ ⟨O,Zt⟩ O O O O O O (nU O),tV [] (b1 0) 34 O O O ?_⟩);exact EndsB.none' (r:=.dead) (.inl O) O (by simp only[v6,if_neg (of_decide_eq_false hc12),if_neg (of_decide_eq_false hc18),if_pos (of_decide_eq_true hc26),List.append_assoc];rfl) ⟨O,Zt⟩
   ·refine z7 2 (y1 7) [] [] (V3 0 4 7) ⟨mU 0 O O,Zt⟩ O O (⟨O,_,R.callB [(0,0)] hC (m6 b 255 1 dU (by first|omega|(simp only[List.length_append,w5,List.length_cons,List.length_nil];omega)|simp)) (EvB.cons (gV 7 O) O O O (EvB.cons (kW (.int .u64 255) (.u64 255) O) O O O (EvB.cons (kI 1 O) O O O EvB.nil))) O ⟨O,Zt⟩ ⟨O,Zt⟩ O O O O O O (nU O),tV (V2 0 4) (b1 0) 34 O O O ?_⟩);refine c9 3 (y2 9 10) [] [] (V2 9 10) ⟨mU 0 O O,mU 4 O O,Zt⟩ O O (⟨O,_,R.callB [(0,0)] hC (m6 (b++m5 255 1) (cU n) 8 dU (by first|omega|(simp only[List.length_append,w5,List.length_cons,List.length_nil];omega)|simp)) (EvB.cons (gV 9 O) O O O (EvB.cons (gV 10 O) O O O (EvB.cons (kI 8 O) O O O EvB.nil))) O ⟨O,Zt⟩ ⟨O,Zt⟩ O O O O O O (nU O),tV [] (b1 0) 34 O O O ?_⟩);exact EndsB.none' (r:=.dead) (.inl O) O (by simp only[v6,if_neg (of_decide_eq_false hc12),if_neg (of_decide_eq_false hc18),if_neg (of_decide_eq_false hc26),List.append_assoc];rfl) ⟨O,Zt⟩
theorem UH(b x:List UInt8)(hb:b.length<=8000000)(hx:x.length<=1000000):FnB Tryd.prog gl 112 [.ptr 0 0 [],.sl none 1 (x.map D.u8)] [(0,.var (.agg [.sl (some 5) 1 (b.map D.u8)]))] (.tup []) [(0,.var (.agg [.sl (some 5) 1 ((b++M2 x).map D.u8)]))] []:=by
 refine FnB.of (n:=17) (ids:=[0]) Tryd.func112 rfl rfl rfl (nU rfl) fun C hC hD=>?_;refine z7 4 (y3 4 5 6) [] [] (V4 0 1 4 6) ⟨mU 0 O O,mU 1 O O,aU<|zN O (lN _) O,Zt⟩ O O (⟨O,_,R.callB [(0,0)] hC (r8 b x.length bO) (EvB.cons (gV 4 O) O O O (EvB.cons (gV 6 O) O O O EvB.nil)) O ⟨O,Zt⟩ ⟨O,Zt⟩ O O O O O O (nU O),tV (V2 0 1) (b1 0) 17 O O O ?_⟩);have hcl:=n6 x.length;refine c9 10 (y6 8 9 10 11 12 13) [] [] (V3 8 12 13) ⟨mU 0 O O,mU 0 O O,aU<|AR O O,aU (fU 10 O O),aU fun _ B H K=>R.ldO (K 11 _ O) (B 0 _ O) O H,mU 1 O O,Zt⟩ O O (⟨O,_,UX (gU 12 O) (xU 0 O) O O O O (gU 12 O) (SrcO.sc (SC.sl (gU 13 O)) (p8 (fun _=>rfl))) (UQ) bU (nU O) dU dU,⟨O,_,R.nilcP (gU 8 O) (nU O),⟨O,_,R.fdP (gU 15 O) (nU O),⟨O,_,G0 (gU 16 O) (xU 0 O) O (gU 14 O) O O (by rfl) (by rfl) O O,tV [] (b1 0) 17 O O O ?_⟩⟩⟩⟩);exact EndsB.none' (r:=.dead) (.inl O) O (by simp only[M2,List.append_assoc];rfl) ⟨O,Zt⟩
theorem MY(b:List UInt8)(t:TxS)(hwf:t.wf)(hb:b.length<=100):FnB Tryd.prog gl 94 [.ptr 0 0 [],U7 t] [(0,.var (.agg [.sl (some 5) 1 (b.map D.u8)]))] (.tup []) [(0,.var (.agg [.sl (some 5) 1 ((b++H7 t).map D.u8)]))] []:=by
 refine FnB.of (n:=68) (ids:=[0]) Tryd.func94 rfl rfl rfl (nU rfl) fun C hC hD=>?_;have hc1:=n6 t.ins.length;have hc2:=n6 t.outs.length;have h1:=hwf.ins;have h2:=hwf.outs;have h3:=hwf.insb _ (Nat.le_refl _);have h4:=hwf.outsb _ (Nat.le_refl _);refine z7 1 [] [] [] (V2 0 1) Zt O O (⟨O,_,R.box (gV 1 O) O O (nU O),tV (V2 0 3) (b2 3 0) 68 O O O ?_⟩);refine z7 5 (y4 8 9 10 11) [] [] (V4 0 3 8 11) ⟨mU 0 O O,aU (fU 3 O O),aU (lU 9 O O O O O O O),aU<|zN O (lN _) O,Zt⟩ O O (⟨O,_,R.callB [(0,0)] hC (r8 b t.ins.length bO) (EvB.cons (gV 8 O) O O O (EvB.cons (gV 11 O) O O O EvB.nil)) O ⟨O,Zt⟩ ⟨O,Zt⟩ O O O O O O (nU O),tV (V2 0 3) (b2 3 0) 68 O O O ?_⟩);refine W.seq (z6 4 (y4 13 14 15 16) (V5 0 3 14 15 16) ⟨aU (fU 3 O O),aU (lU 13 O O O O O O O),aU<|zN O (lN _) O,aU<|S3 (kI 0 O) O O,Zt⟩ O O O O ?_);refine W.block ?_;refine W.loop (α:={q__:Nat//q__<=t.ins.length}) (fun q__=>⟨68,[(0,.ptr 0 0 []),(3,.ptr 3 0 []),(14,.sl none 36 (t.ins.map E3)),(15,.int ((t.ins.length:Nat):Int)),(16,.int ((q__.1:Nat):Int))],[(3,.var (.agg [.u32 t.ver,.sl none 36 (t.ins.map E3),.sl none 2 (t.outs.map J8),.u32 t.lock])),(0,.var (.agg [.sl (some 5) 1 ((b++v6 t.ins.length++U5 t.ins q__.1).map D.u8)]))]⟩) (fun q__=>t.ins.length-q__.1) ⟨(0),bU⟩ (by simp only[U5,List.append_nil];rfl) ?_;rintro ⟨i,hi⟩;show W _ _ _ _ ⟨68,[(0,.ptr 0 0 []),(3,.ptr 3 0 []),(14,.sl none 36 (t.ins.map E3)),(15,.int ((t.ins.length:Nat):Int)),(16,.int ((i:Nat):Int))],[(3,.var (.agg [.u32 t.ver,.sl none 36 (t.ins.map E3),.sl none 2 (t.outs.map J8),.u32 t.lock])),(0,.var (.agg [.sl (some 5) 1 ((b++v6 t.ins.length++U5 t.ins i).map D.u8)]))]⟩;have hi:i<=t.ins.length:=hi;have hib:=hwf.insb i hi
 have hx:i<t.ins.length->t.ins[i]!.tx.length=32/\t.ins[i]!.script.length<=1000000:=fun h=>⟨hwf.hash _ (u9 h),hwf.insScript h⟩
 have hil:=C6 t.ins[i]!.script;refine z6 1 (y1 17) (V6 0 3 14 15 16 17) ⟨aU<|zS O O O,Zt⟩ O O O O ?_;refine W.seq ?_;refine z9 O (fun hc17=>?_) (fun hc17=>?_)
 ·refine W.skip (W.seq (W.block (z7 4 (y2 18 19) [] [] (V6 0 3 14 15 16 19) ⟨aU<|zI i O O O bU O,aU<|zL O O (mG t.ins) O O O O O,Zt⟩ O O (o0 O O (m1 O O O O O (tV (V6 0 3 5 14 15 16) (b3 5 3 0) 68 O O O ?_))))));refine W.seq ?_;refine J7 (m:=9) (an:=[0,0,2,6,14,0,32,96,254,511,1023,2047]) (its:=[.y 20 _,.y 21 _,.y 22 _,.y 23 _,.y 24 _,.y 25 _,.y 26 _,.y 27 _,.y 28 _]) (ks:=[(8,24)]) (kk:=[]) (efs:=[(8,(b1 0))]) (live:=[0,3,5,14,15,16,20,28]) (env':=(V8 0 3 5 14 15 16 20 28)) (nd:=40) (bx1:=(b3 0 5 3)) hP dU O ⟨⟨85,O⟩,nU O,O,O,O,O⟩ (        ⟨⟨O,nU O,O,fun _ τ hb ht hτ=>R.mov (evt (hτ 0 _ O)) O ht⟩,⟨⟨O,nU O,O,fun _ τ hb ht hτ=>R.mov (evt (hτ 0 _ O)) O ht⟩,⟨⟨O,nU O,O,fun _ τ hb ht hτ=>R.nilcP (hτ 21 _ O) ht⟩,⟨⟨O,nU O,O,fun _ τ hb ht hτ=>R.fdP (hτ 22 _ O) ht⟩,⟨⟨O,nU O,O,fun _ τ hb ht hτ=>R.ldO (hτ 23 _ O) (hb 0 _ O) O ht⟩,⟨⟨O,nU O,O,fun _ τ hb ht hτ=>R.fdP (hτ 5 _ O) ht⟩,⟨⟨O,nU O,O,fun _ τ hb ht hτ=>R.fdP (hτ 25 _ O) ht⟩,⟨⟨O,nU O,O,fun _ τ hb ht hτ=>J4 (0) (32) (32) (hτ 26 _ O) (hb 5 _ O) O O O O O bU bU O ht⟩,⟨⟨O,O,⟨O,nU O⟩,(SpE.appB (s:=24) (id:=0) O O O O O (fun τ hb hτ=>(SrcO.sc (SC.va (hτ 27 _ O O O) (hb 5 _ dU O) O bU) (X5 (fun _=>rfl)))) (show _=((((b++v6 t.ins.length++U5 t.ins i)++t.ins[i]!.tx)).map D.u8) from(by rw[List.drop_zero,List.take_of_length_le (by rw[List.length_map,(hx hc17).1];exact Nat.le_refl _)];simp)) bU dU dU O (nU O))⟩,Zt⟩⟩⟩⟩⟩⟩⟩⟩⟩) O O O (n':=68) O (⟨O,_,R.nilcP (gU 20 O) (nU O),⟨O,_,R.fdP (gU 29 O) (nU O),⟨O,_,G0 (gU 30 O) (xU 0 O) O (gU 28 O) O O (by rfl) (by rfl) O O,⟨[0,3,5,14,15,16],(V6 0 3 5 14 15 16),(b3 0 5 3),68,O,O,O, ?_⟩⟩⟩⟩);refine z7 6 (y5 31 32 33 34 35) [] [] (V8 0 3 5 14 15 16 31 35) ⟨mU 0 O O,aU (fU 5 O O),aU (fU 32 O O),aU (lU 33 O O O O O O O),aU<|zW O O O,Zt⟩ O O (⟨O,_,R.callB [(0,0)] hC (m6 ((b++v6 t.ins.length++U5 t.ins i)++t.ins[i]!.tx) t.ins[i]!.n.toUInt64 4 dU (by first|omega|(simp only[List.length_append,w5,List.length_cons,List.length_nil];omega)|simp)) (EvB.cons (gV 31 O) O O O (EvB.cons (gV 35 O) O O O (EvB.cons (kI 4 O) O O O EvB.nil))) O ⟨O,Zt⟩ ⟨O,Zt⟩ O O O O O O (nU O),tV (V6 0 3 5 14 15 16) (b3 0 5 3) 68 O O O ?_⟩);refine z7 4 (y3 37 38 39) [] [] (V8 0 3 5 14 15 16 37 39) ⟨mU 0 O O,aU (fU 5 O O),aU (lU 38 O O O O O O O),Zt⟩ O O (⟨O,_,R.callB [(0,0)] hC (UH (((b++v6 t.ins.length++U5 t.ins i)++t.ins[i]!.tx)++m5 t.ins[i]!.n.toUInt64 4) t.ins[i]!.script (by first|omega|(simp only[List.length_append,w5,List.length_cons,List.length_nil];omega)|simp) bO) (EvB.cons (gV 37 O) O O O (EvB.cons (gV 39 O) O O O EvB.nil)) O ⟨O,Zt⟩ ⟨O,Zt⟩ O O O O O O (nU O),tV (V6 0 3 5 14 15 16) (b3 0 5 3) 68 O O O ?_⟩);refine c9 5 (y4 41 42 43 44) [] [] (V7 0 3 14 15 16 41 44) ⟨mU 0 O O,aU (fU 5 O O),aU (lU 42 O O O O O O O),aU<|zW O O O,Zt⟩ O O (⟨O,_,R.callB [(0,0)] hC (m6 ((((b++v6 t.ins.length++U5 t.ins i)++t.ins[i]!.tx)++m5 t.ins[i]!.n.toUInt64 4)++M2 t.ins[i]!.script) t.ins[i]!.seq.toUInt64 4 dU (by first|omega|(simp only[List.length_append,w5,List.length_cons,List.length_nil];omega)|simp)) (EvB.cons (gV 41 O) O O O (EvB.cons (gV 44 O) O O O (EvB.cons (kI 4 O) O O O EvB.nil))) O ⟨O,Zt⟩ ⟨O,Zt⟩ O O O O O O (nU O),tV (V5 0 3 14 15 16) (b3 0 5 3) 68 O O O ?_⟩);refine p9 [0,3] (bx':=(b2 0 3)) O O O (j7 hD O) ?_;refine PF (bx':=(b2 3 0)) ⟨O,O,Zt⟩ O ?_;refine j1 2 (y2 46 16) (V5 0 3 14 15 16) ⟨aU<|m8 1 O O bU O,mU 46 O O,Zt⟩ O O O O ?_;exact⟨⟨(i+1),bU⟩,(by simp only[U5,inS,List.append_assoc];rfl),(by simp only[];omega)⟩
 ·obtain rfl:i=t.ins.length:=by omega
  refine W.exit (z7 5 (y4 47 48 49 50) [] [] (V4 0 3 47 50) ⟨mU 0 O O,aU (fU 3 O O),aU (lU 48 O O O O O O O),aU<|zN O (lN _) O,Zt⟩ O O (⟨O,_,R.callB [(0,0)] hC (r8 (b++v6 t.ins.length++U5 t.ins t.ins.length) t.outs.length (by simp only[List.length_append];omega)) (EvB.cons (gV 47 O) O O O (EvB.cons (gV 50 O) O O O EvB.nil)) O ⟨O,Zt⟩ ⟨O,Zt⟩ O O O O O O (nU O),tV (V2 0 3) (b2 3 0) 68 O O O ?_⟩));refine z6 4 (y4 52 53 54 55) (V4 0 53 54 55) ⟨aU (fU 3 O O),aU (lU 52 O O O O O O O),aU<|zN O (lN _) O,aU<|S3 (kI 0 O) O O,Zt⟩ O O O O ?_;refine W.block ?_;refine W.loop (α:={q__:Nat//q__<=t.outs.length}) (fun q__=>⟨68,[(0,.ptr 0 0 []),(53,.sl none 2 (t.outs.map J8)),(54,.int ((t.outs.length:Nat):Int)),(55,.int ((q__.1:Nat):Int))],[(3,.var (.agg [.u32 t.ver,.sl none 36 (t.ins.map E3),.sl none 2 (t.outs.map J8),.u32 t.lock])),(0,.var (.agg [.sl (some 5) 1 (((b++v6 t.ins.length++U5 t.ins t.ins.length)++v6 t.outs.length++U3 t.outs q__.1).map D.u8)]))]⟩) (fun q__=>t.outs.length-q__.1) ⟨(0),bU⟩ (by simp only[U3,List.append_nil];rfl) ?_;rintro ⟨i,hi⟩;show W _ _ _ _ ⟨68,[(0,.ptr 0 0 []),(53,.sl none 2 (t.outs.map J8)),(54,.int ((t.outs.length:Nat):Int)),(55,.int ((i:Nat):Int))],[(3,.var (.agg [.u32 t.ver,.sl none 36 (t.ins.map E3),.sl none 2 (t.outs.map J8),.u32 t.lock])),(0,.var (.agg [.sl (some 5) 1 (((b++v6 t.ins.length++U5 t.ins t.ins.length)++v6 t.outs.length++U3 t.outs i).map D.u8)]))]⟩;have hi:i<=t.outs.length:=hi;have hib:=hwf.outsb i hi;have hx:i<t.outs.length->t.outs[i]!.script.length<=1000000:=fun h=>hwf.outScript h;have hil:=C6 t.outs[i]!.script;refine z6 1 (y1 56) (V5 0 53 54 55 56) ⟨aU<|zS O O O,Zt⟩ O O O O ?_;refine W.seq ?_;refine z9 O (fun hc56=>?_) (fun hc56=>?_)
  ·refine W.skip (W.seq (W.block (z7 4 (y2 57 58) [] [] (V5 0 53 54 55 58) ⟨aU<|zI i O O O bU O,aU<|zL O O (mG t.outs) O O O O O,Zt⟩ O O (o0 O O (m1 O O O O O (tV (V5 0 7 53 54 55) (b3 7 3 0) 68 O O O ?_))))));refine z7 4 (y3 59 60 61) [] [] (V7 0 7 53 54 55 59 61) ⟨mU 0 O O,aU (fU 7 O O),aU (lU 60 O O O O O O O),Zt⟩ O O (⟨O,_,R.callB [(0,0)] hC (m6 ((b++v6 t.ins.length++U5 t.ins t.ins.length)++v6 t.outs.length++U3 t.outs i) t.outs[i]!.value 8 dU (by first|omega|(simp only[List.length_append,w5,List.length_cons,List.length_nil];omega)|simp)) (EvB.cons (gV 59 O) O O O (EvB.cons (gV 61 O) O O O (EvB.cons (kI 8 O) O O O EvB.nil))) O ⟨O,Zt⟩ ⟨O,Zt⟩ O O O O O O (nU O),tV (V5 0 7 53 54 55) (b3 7 3 0) 68 O O O ?_⟩);refine c9 4 (y3 63 64 65) [] [] (V6 0 53 54 55 63 65) ⟨mU 0 O O,aU (fU 7 O O),aU (lU 64 O O O O O O O),Zt⟩ O O (⟨O,_,R.callB [(0,0)] hC (UH (((b++v6 t.ins.length++U5 t.ins t.ins.length)++v6 t.outs.length++U3 t.outs i)++m5 t.outs[i]!.value 8) t.outs[i]!.script (by first|omega|(simp only[List.length_append,w5,List.length_cons,List.length_nil];omega)|simp) bO) (EvB.cons (gV 63 O) O O O (EvB.cons (gV 65 O) O O O EvB.nil)) O ⟨O,Zt⟩ ⟨O,Zt⟩ O O O O O O (nU O),tV (V4 0 53 54 55) (b3 7 3 0) 68 O O O ?_⟩);refine p9 [0,3] (bx':=(b2 3 0)) O O O (j7 hD O) ?_;refine j1 2 (y2 67 55) (V4 0 53 54 55) ⟨aU<|m8 1 O O bU O,mU 67 O O,Zt⟩ O O O O ?_;exact⟨⟨(i+1),bU⟩,(by simp only[U3,DD,List.append_assoc];rfl),(by simp only[];omega)⟩
  ·obtain rfl:i=t.outs.length:=by omega
   refine W.exit ?_;exact EndsB.none' (r:=.dead) (.inl O) O (by simp only[H7,List.append_assoc];rfl) ⟨O,Zt⟩
end Go.Sx

namespace Go.Sx
open Go.Proofs
theorem SN(t:TxS)(hwf:t.wf):Fn Tryd.prog gl 70 [U7 t] (.sl (some 5) 1 ((I0 t).map D.u8)):=by
 refine Fn.of (n:=23) Tryd.func70 rfl rfl rfl (nU rfl) fun C hC hD=>?_;refine z7 2 [] [] [] (V1 0) Zt O O (⟨O,_,R.box (gV 0 O) O O (nU O),⟨O,_,v3 (kN O) O (nU O),tV (V1 1) (b1 1) 23 O O O ?_⟩⟩);refine z7 3 (y1 4) [] [] (V2 1 4) ⟨aU fun _ _ H _=>p6 (l:=[.nils]) (l':=[_]) (.nil O) Zt H,Zt⟩ O O (⟨O,_,R.box (gV 4 O) O O (nU O),(E9 O O O (tV (V2 1 3) (b2 5 1) 23 O O O ?_))⟩);refine W.seq ?_;refine AF 5 [0] 5 1 (bx':=(b2 5 1)) O O O O O ?_;have hbl:=hwf.body;refine c9 5 (y4 6 7 8 9) [] [] (V4 1 3 6 9) ⟨mU 3 O O,aU (fU 1 O O),aU (lU 7 O O O O O O O),aU<|zW O O O,Zt⟩ O O (⟨O,_,R.callB [(0,5)] hC (m6 [] t.ver.toUInt64 4 dU (by first|omega|(simp only[List.length_append,w5,List.length_cons,List.length_nil];omega)|simp)) (EvB.cons (gV 6 O) O O O (EvB.cons (gV 9 O) O O O (EvB.cons (kI 4 O) O O O EvB.nil))) O ⟨O,Zt⟩ ⟨O,Zt⟩ O O O O O O (nU O),tV (V2 1 3) (b2 5 1) 23 O O O ?_⟩);refine z7 3 (y2 11 12) [] [] (V4 1 3 11 12) ⟨mU 3 O O,aU (lU 1 O O O O O O O),Zt⟩ O O (⟨O,_,R.callB [(0,5)] hC (MY ([]++m5 t.ver.toUInt64 4) t hwf (by first|omega|(simp only[List.length_append,w5,List.length_cons,List.length_nil];omega)|simp)) (EvB.cons (gV 11 O) O O O (EvB.cons (gV 12 O) O O O EvB.nil)) O ⟨O,Zt⟩ ⟨O,Zt⟩ O O O O O O (nU O),tV (V2 1 3) (b2 5 1) 23 O O O ?_⟩);refine z7 5 (y4 14 15 16 17) [] [] (V3 3 14 17) ⟨mU 3 O O,aU (fU 1 O O),aU (lU 15 O O O O O O O),aU<|zW O O O,Zt⟩ O O (⟨O,_,R.callB [(0,5)] hC (m6 (([]++m5 t.ver.toUInt64 4)++H7 t) t.lock.toUInt64 4 dU (by first|omega|(simp only[List.length_append,w5,List.length_cons,List.length_nil];omega)|simp)) (EvB.cons (gV 14 O) O O O (EvB.cons (gV 17 O) O O O (EvB.cons (kI 4 O) O O O EvB.nil))) O ⟨O,Zt⟩ ⟨O,Zt⟩ O O O O O O (nU O),tV (V1 3) (b2 5 1) 23 O O O ?_⟩);refine z7 5 (y4 19 20 21 22) [] [] (V1 22) ⟨mU 3 O O,aU<|AR O O,aU (fU 20 O O),aU fun _ B H K=>R.ldO (K 21 _ O) (B 5 _ O) O H,Zt⟩ O O (⟨O,_,PV (gU 22 O) (xU 5 O) O O O O (gU 22 O) (nU O) dU,tV (V1 2) (b2 5 1) 23 O O O ?_⟩);refine W.ret ?_;exact Ends.one' (.inr O) O (by simp only[I0,List.nil_append]) O O Zt
theorem CA(t:TxS)(hwf:t.wf):Fn Tryd.prog gl 110 [U7 t] (.bool (DK t)):=by
 refine Fn.of (n:=17) Tryd.func110 rfl rfl rfl (nU rfl) fun C hC hD=>?_;have h1:=hwf.ins;refine z7 2 [] [] [] (V1 0) Zt O O (⟨O,_,R.box (gV 0 O) O O (nU O),⟨O,_,v3 (kB false O) O (nU O),tV (V1 1) (b1 1) 17 O O O ?_⟩⟩);refine W.seq (z6 4 (y4 5 6 7 8) (V3 6 7 8) ⟨aU (fU 1 O O),aU (lU 5 O O O O O O O),aU<|zN O (lN _) O,aU<|S3 (kI 0 O) O O,Zt⟩ O O O O ?_);refine W.block ?_;refine W.loop (α:={q__:Nat//q__<=t.ins.length/\∀ k<q__,¬ 0<t.ins[k]!.wit.length}) (fun q__=>⟨17,[(6,.sl none 36 (t.ins.map E3)),(7,.int ((t.ins.length:Nat):Int)),(8,.int ((q__.1:Nat):Int))],[(1,.var (.agg [.u32 t.ver,.sl none 36 (t.ins.map E3),.sl none 2 (t.outs.map J8),.u32 t.lock]))]⟩) (fun q__=>t.ins.length-q__.1) ⟨(0),⟨Nat.zero_le _,fun k h=>absurd h (Nat.not_lt_zero _)⟩⟩ O ?_;rintro ⟨i,⟨hi,hno⟩⟩;show W _ _ _ _ ⟨17,[(6,.sl none 36 (t.ins.map E3)),(7,.int ((t.ins.length:Nat):Int)),(8,.int ((i:Nat):Int))],[(1,.var (.agg [.u32 t.ver,.sl none 36 (t.ins.map E3),.sl none 2 (t.outs.map J8),.u32 t.lock]))]⟩;have hi:i<=t.ins.length:=hi;have hno:∀ k<i,¬ 0<t.ins[k]!.wit.length:=hno;have hwl:i<t.ins.length->t.ins[i]!.wit.length<=1000000:=fun h=>(hwf.witl _ (u9 h)).1;refine z6 1 (y1 9) (V4 6 7 8 9) ⟨aU<|zS O O O,Zt⟩ O O O O ?_;refine W.seq ?_;refine z9 O (fun hc9=>?_) (fun hc9=>?_)
 ·refine W.skip (W.seq (W.block (z7 4 (y2 10 11) [] [] (V4 6 7 8 11) ⟨aU<|zI i O O O bU O,aU<|zL O O (mG t.ins) O O O O O,Zt⟩ O O (o0 O O (m1 O O O O O (tV (V4 4 6 7 8) (b2 4 1) 17 O O O ?_))))));refine z6 4 (y4 12 13 14 15) (V4 6 7 8 15) ⟨aU (fU 4 O O),aU (lU 12 O O O O O O O),aU<|zN O (lN _) O,aU<|HQ 0 O O O,Zt⟩ O O O O ?_;refine z9 O (fun hc15=>?_) (fun hc15=>?_)
  ·refine W.seq ?_;refine p9 [1] (bx':=(b1 1)) O O O (j7 hD O) ?_;refine j1 1 (y1 2) (V1 2) ⟨aU<|zK (kB true O) O O,Zt⟩ O O O O ?_;refine W.ret ?_;exact Ends.one' (.inr O) O ((congrArg D.bool (TH hc9 hc15)).symm) O O Zt
  ·refine W.skip ?_;refine p9 [1] (bx':=(b1 1)) O O O (j7 hD O) ?_;refine j1 2 (y2 16 8) (V3 6 7 8) ⟨aU<|m8 1 O O bU O,mU 16 O O,Zt⟩ O O O O ?_;exact⟨⟨(i+1),⟨by omega,fun k hk=>(Nat.lt_succ_iff_lt_or_eq.1 hk).elim (hno k) (fun e=>e▸hc15)⟩⟩,rfl,(by simp only[];omega)⟩
 ·obtain rfl:i=t.ins.length:=by omega
  refine W.exit (z6 1 (y1 2) (V1 2) ⟨aU<|zK (kB false O) O O,Zt⟩ O O O O ?_);refine W.ret ?_;exact Ends.one' (.inr O) O ((congrArg D.bool (EC hno)).symm) O O Zt
theorem put_ok(t:TxS)(hwf:t.wf):Fn Tryd.prog gl 92 [U7 t] (.sl (some 5) 1 ((NG t).map D.u8)):=by
 refine Fn.of (n:=65) Tryd.func92 rfl rfl rfl (nU rfl) fun C hC hD=>?_;have h1:=hwf.ins;have hbl:=hwf.body;have hw0:=hwf.witsb _ (Nat.le_refl _);refine z7 2 [] [] [] (V1 0) Zt O O (⟨O,_,R.box (gV 0 O) O O (nU O),⟨O,_,v3 (kN O) O (nU O),tV (V1 1) (b1 1) 65 O O O ?_⟩⟩);refine W.seq (z6 3 (y3 8 9 10) (V2 1 10) ⟨aU (lU 1 O O O O O O O),aU<|zC hC (CA t hwf) O O O (F1 (.bool _)) O,aU<|JY O O O,Zt⟩ O O O O ?_);refine W.cond O (fun hc10=>?_) (fun hc10=>?_)
 ·refine z7 3 (y3 11 12 2) [(2,12)] [(2,12)] (V1 2) ⟨aU (lU 1 O O O O O O O),aU<|zC hC (SN t hwf) O O O (F1 (.sl _ _ _ (u2 fun _=>.u8 _))) O,aU<|zO O O O,Zt⟩ O O (tU O ?_);refine W.ret ?_;exact Ends.one' (.inr O) O (by rw[NG,if_neg (by simpa using hc10)]) O O Zt
 ·refine W.skip (z7 3 (y1 13) [] [] (V2 1 13) ⟨aU fun _ _ H _=>p6 (l:=[.nils]) (l':=[_]) (.nil O) Zt H,Zt⟩ O O (⟨O,_,R.box (gV 13 O) O O (nU O),(E9 O O O (tV (V2 1 3) (b2 14 1) 65 O O O ?_))⟩));refine W.seq ?_;refine AF 14 [0] 5 1 (bx':=(b2 14 1)) O O O O O ?_;refine c9 5 (y4 15 16 17 18) [] [] (V4 1 3 15 18) ⟨mU 3 O O,aU (fU 1 O O),aU (lU 16 O O O O O O O),aU<|zW O O O,Zt⟩ O O (⟨O,_,R.callB [(0,14)] hC (m6 [] t.ver.toUInt64 4 dU (by first|omega|(simp only[List.length_append,w5,List.length_cons,List.length_nil];omega)|simp)) (EvB.cons (gV 15 O) O O O (EvB.cons (gV 18 O) O O O (EvB.cons (kI 4 O) O O O EvB.nil))) O ⟨O,Zt⟩ ⟨O,Zt⟩ O O O O O O (nU O),tV (V2 1 3) (b2 14 1) 65 O O O ?_⟩);refine z7 10 (y6 20 21 22 23 24 25) [] [] (V5 1 3 20 24 25) ⟨mU 3 O O,mU 3 O O,aU<|AR O O,aU (fU 22 O O),aU fun _ B H K=>R.ldO (K 23 _ O) (B 14 _ O) O H,aU fun _ _ H _=>w9 (z:=1) (.cons (kW (.int .u8 0) (.u8 0) O) (.cons (kW (.int .u8 1) (.u8 1) O) .nil)) ⟨⟨O,O,O⟩,⟨O,O,O⟩,Zt⟩ O H dU,Zt⟩ O O (⟨O,_,UX (gU 24 O) (xU 14 O) O O O O (gU 24 O) (SrcO.sc (SC.sl (gU 25 O)) (g6 O)) (show _=(((([]++m5 t.ver.toUInt64 4)++[0,1])).map D.u8) from(by simp)) (by simp[w5]) (nU O) dU dU,⟨O,_,R.nilcP (gU 20 O) (nU O),⟨O,_,R.fdP (gU 27 O) (nU O),⟨O,_,G0 (gU 28 O) (xU 14 O) O (gU 26 O) O O (by rfl) (by rfl) O O,tV (V2 1 3) (b2 14 1) 65 O O O ?_⟩⟩⟩⟩);refine z7 3 (y2 29 30) [] [] (V4 1 3 29 30) ⟨mU 3 O O,aU (lU 1 O O O O O O O),Zt⟩ O O (⟨O,_,R.callB [(0,14)] hC (MY (([]++m5 t.ver.toUInt64 4)++[0,1]) t hwf (by first|omega|(simp only[List.length_append,w5,List.length_cons,List.length_nil];omega)|simp)) (EvB.cons (gV 29 O) O O O (EvB.cons (gV 30 O) O O O EvB.nil)) O ⟨O,Zt⟩ ⟨O,Zt⟩ O O O O O O (nU O),tV (V2 1 3) (b2 14 1) 65 O O O ?_⟩);refine W.seq (z6 4 (y4 32 33 34 35) (V5 1 3 33 34 35) ⟨aU (fU 1 O O),aU (lU 32 O O O O O O O),aU<|zN O (lN _) O,aU<|S3 (kI 0 O) O O,Zt⟩ O O O O ?_);refine W.block ?_;refine W.loop (α:={q__:Nat//q__<=t.ins.length}) (fun q__=>⟨65,[(1,.ptr 1 0 []),(3,.ptr 14 0 []),(33,.sl none 36 (t.ins.map E3)),(34,.int ((t.ins.length:Nat):Int)),(35,.int ((q__.1:Nat):Int))],[(14,.var (.agg [.sl (some 5) 1 ((((([]++m5 t.ver.toUInt64 4)++[0,1])++H7 t)++A0 t.ins q__.1).map D.u8)])),(1,.var (.agg [.u32 t.ver,.sl none 36 (t.ins.map E3),.sl none 2 (t.outs.map J8),.u32 t.lock]))]⟩) (fun q__=>t.ins.length-q__.1) ⟨(0),bU⟩ (by simp only[A0,List.append_nil];rfl) ?_;rintro ⟨i,hi⟩;show W _ _ _ _ ⟨65,[(1,.ptr 1 0 []),(3,.ptr 14 0 []),(33,.sl none 36 (t.ins.map E3)),(34,.int ((t.ins.length:Nat):Int)),(35,.int ((i:Nat):Int))],[(14,.var (.agg [.sl (some 5) 1 ((((([]++m5 t.ver.toUInt64 4)++[0,1])++H7 t)++A0 t.ins i).map D.u8)])),(1,.var (.agg [.u32 t.ver,.sl none 36 (t.ins.map E3),.sl none 2 (t.outs.map J8),.u32 t.lock]))]⟩;have hi:i<=t.ins.length:=hi;have hib:=hwf.witsb i hi;have hx:i<t.ins.length->t.ins[i]!.wit.length<=1000000/\∀ j ≤ t.ins[i]!.wit.length,(KZ t.ins[i]!.wit j).length<=1500000:=fun h=>hwf.witl _ (u9 h);have hcl:=n6 t.ins[i]!.wit.length;refine z6 1 (y1 36) (V6 1 3 33 34 35 36) ⟨aU<|zS O O O,Zt⟩ O O O O ?_;refine W.seq ?_;refine z9 O (fun hc36=>?_) (fun hc36=>?_)
  ·refine W.skip (W.seq (W.block (z7 4 (y2 37 38) [] [] (V6 1 3 33 34 35 38) ⟨aU<|zI i O O O bU O,aU<|zL O O (mG t.ins) O O O O O,Zt⟩ O O (o0 O O (m1 O O O O O (tV (V6 1 3 5 33 34 35) (b3 5 14 1) 65 O O O ?_))))));refine z7 5 (y4 39 40 41 42) [] [] (V8 1 3 5 33 34 35 39 42) ⟨mU 3 O O,aU (fU 5 O O),aU (lU 40 O O O O O O O),aU<|zN O (lN _) O,Zt⟩ O O (⟨O,_,R.callB [(0,14)] hC (r8 (((([]++m5 t.ver.toUInt64 4)++[0,1])++H7 t)++A0 t.ins i) t.ins[i]!.wit.length (by first|omega|(simp only[List.length_append,w5,List.length_cons,List.length_nil];omega)|simp)) (EvB.cons (gV 39 O) O O O (EvB.cons (gV 42 O) O O O EvB.nil)) O ⟨O,Zt⟩ ⟨O,Zt⟩ O O O O O O (nU O),tV (V6 1 3 5 33 34 35) (b3 5 14 1) 65 O O O ?_⟩);refine z6 4 (y4 44 45 46 47) (V8 1 3 33 34 35 45 46 47) ⟨aU (fU 5 O O),aU (lU 44 O O O O O O O),aU<|zN O (lN _) O,aU<|S3 (kI 0 O) O O,Zt⟩ O O O O ?_;refine W.block ?_;refine W.loop (α:={q__:Nat//q__<=t.ins[i]!.wit.length}) (fun q__=>⟨65,[(1,.ptr 1 0 []),(3,.ptr 14 0 []),(33,.sl none 36 (t.ins.map E3)),(34,.int ((t.ins.length:Nat):Int)),(35,.int ((i:Nat):Int)),(45,.sl none 1 (t.ins[i]!.wit.map E5)),(46,.int ((t.ins[i]!.wit.length:Nat):Int)),(47,.int ((q__.1:Nat):Int))],[(5,.var (E3 t.ins[i]!)),(14,.var (.agg [.sl (some 5) 1 ((((((([]++m5 t.ver.toUInt64 4)++[0,1])++H7 t)++A0 t.ins i)++v6 t.ins[i]!.wit.length)++KZ t.ins[i]!.wit q__.1).map D.u8)])),(1,.var (.agg [.u32 t.ver,.sl none 36 (t.ins.map E3),.sl none 2 (t.outs.map J8),.u32 t.lock]))]⟩) (fun q__=>t.ins[i]!.wit.length-q__.1) ⟨(0),bU⟩ (by simp only[KZ,List.append_nil];rfl) ?_;rintro ⟨j,hj⟩;show W _ _ _ _ ⟨65,[(1,.ptr 1 0 []),(3,.ptr 14 0 []),(33,.sl none 36 (t.ins.map E3)),(34,.int ((t.ins.length:Nat):Int)),(35,.int ((i:Nat):Int)),(45,.sl none 1 (t.ins[i]!.wit.map E5)),(46,.int ((t.ins[i]!.wit.length:Nat):Int)),(47,.int ((j:Nat):Int))],[(5,.var (E3 t.ins[i]!)),(14,.var (.agg [.sl (some 5) 1 ((((((([]++m5 t.ver.toUInt64 4)++[0,1])++H7 t)++A0 t.ins i)++v6 t.ins[i]!.wit.length)++KZ t.ins[i]!.wit j).map D.u8)])),(1,.var (.agg [.u32 t.ver,.sl none 36 (t.ins.map E3),.sl none 2 (t.outs.map J8),.u32 t.lock]))]⟩;have hj:j<=t.ins[i]!.wit.length:=hj;have hjb:=(hx (by omega)).2 j hj;have hil:=C6 t.ins[i]!.wit[j]!;have hwi:j<t.ins[i]!.wit.length->t.ins[i]!.wit[j]!.length<=1000000:=fun h=>hwf.witi _ (u9 (show i<t.ins.length by omega)) _ (u9 h);refine z6 1 (y1 48) (V9 1 3 33 34 35 45 46 47 48) ⟨aU<|zS O O O,Zt⟩ O O O O ?_;refine W.seq ?_;refine z9 O (fun hc48=>?_) (fun hc48=>?_)
   ·refine W.skip (W.seq (W.block (z6 3 (y3 49 50 7) (V9 1 3 7 33 34 35 45 46 47) ⟨aU<|zI j O O O bU O,aU<|zL O O (j4 (l:=t.ins[i]!.wit) bU) O O O O O,aU<|zA O O O,Zt⟩ O O O O ?_)));refine c9 3 (y2 51 52) [] [] (AS 1 3 33 34 35 45 46 47 51 52) ⟨mU 3 O O,mU 7 O O,Zt⟩ O O (⟨O,_,R.callB [(0,14)] hC (UH (((((([]++m5 t.ver.toUInt64 4)++[0,1])++H7 t)++A0 t.ins i)++v6 t.ins[i]!.wit.length)++KZ t.ins[i]!.wit j) t.ins[i]!.wit[j]! (by first|omega|(simp only[List.length_append,w5,List.length_cons,List.length_nil];omega)|simp) bO) (EvB.cons (gV 51 O) O O O (EvB.cons (gV 52 O) O O O EvB.nil)) O ⟨O,Zt⟩ ⟨O,Zt⟩ O O O O O O (nU O),tV (V8 1 3 33 34 35 45 46 47) (b3 5 14 1) 65 O O O ?_⟩);refine j1 2 (y2 54 47) (V8 1 3 33 34 35 45 46 47) ⟨aU<|m8 1 O O bU O,mU 54 O O,Zt⟩ O O O O ?_;exact⟨⟨(j+1),bU⟩,(by simp only[KZ,List.append_assoc];rfl),(by simp only[];omega)⟩
   ·obtain rfl:j=t.ins[i]!.wit.length:=by omega
    refine W.exit ?_;refine p9 [1,14] (bx':=(b2 14 1)) O O O (j7 hD O) ?_;refine j1 2 (y2 55 35) (V5 1 3 33 34 35) ⟨aU<|m8 1 O O bU O,mU 55 O O,Zt⟩ O O O O ?_;exact⟨⟨(i+1),bU⟩,(by simp only[A0,List.append_assoc]),(by simp only[];omega)⟩
  ·obtain rfl:i=t.ins.length:=by omega
   refine W.exit (z7 5 (y4 56 57 58 59) [] [] (V3 3 56 59) ⟨mU 3 O O,aU (fU 1 O O),aU (lU 57 O O O O O O O),aU<|zW O O O,Zt⟩ O O (⟨O,_,R.callB [(0,14)] hC (m6 (((([]++m5 t.ver.toUInt64 4)++[0,1])++H7 t)++A0 t.ins t.ins.length) t.lock.toUInt64 4 dU (by first|omega|(simp only[List.length_append,w5,List.length_cons,List.length_nil];omega)|simp)) (EvB.cons (gV 56 O) O O O (EvB.cons (gV 59 O) O O O (EvB.cons (kI 4 O) O O O EvB.nil))) O ⟨O,Zt⟩ ⟨O,Zt⟩ O O O O O O (nU O),tV (V1 3) (b2 14 1) 65 O O O ?_⟩));refine z7 5 (y4 61 62 63 64) [] [] (V1 64) ⟨mU 3 O O,aU<|AR O O,aU (fU 62 O O),aU fun _ B H K=>R.ldO (K 63 _ O) (B 14 _ O) O H,Zt⟩ O O (⟨O,_,PV (gU 64 O) (xU 14 O) O O O O (gU 64 O) (nU O) dU,tV (V1 2) (b2 14 1) 65 O O O ?_⟩);refine W.ret ?_;exact Ends.one' (.inr O) O (by rw[NG,if_pos (by simpa using hc10)];rfl) O O Zt
theorem id_ok(t:TxS)(hwf:t.wf):Fn Tryd.prog gl 46 [U7 t] (z5 (J0 t)):=by
 refine Fn.of (n:=6) Tryd.func46 rfl rfl rfl (nU rfl) fun C hC hD=>?_;refine z7 2 [] [] [] (V1 0) Zt O O (⟨O,_,R.box (gV 0 O) O O (nU O),(o0 O O (tV (V2 1 2) (b2 2 1) 6 O O O ?_))⟩);refine z7 4 (y3 3 4 5) [] [] (V2 2 5) ⟨aU (lU 1 O O O O O O O),aU<|zC hC (SN t hwf) O O O (F1 (.sl _ _ _ (u2 fun _=>.u8 _))) O,aU fun _ _ H K=>j5 hC (UC (I0 t) (Nat.le_trans hwf.bareL dU)) (Bc (Bor.sc (SC.sl (K 4 _ O)) (j9 (fun _=>rfl))) Bn) (F1 (d9 _)) H,Zt⟩ O O (m1 O O O O O (tV (V1 2) (b2 2 1) 6 O O O ?_));refine W.ret ?_;exact Ends.one' (.inr O) O (O) O O (show LdT _ 26 32 true from inferInstance)
end Go.Sx

namespace Go.Sx
open Go.Proofs
theorem BB(t:TxS)(hwf:t.wf):Fn Tryd.prog gl 66 [U7 t] (.bool (L8 t)):=by
 refine Fn.of (n:=64) Tryd.func66 rfl rfl rfl (nU rfl) fun C hC hD=>?_;have h1:=hwf.ins;have h2:=hwf.outs;refine z7 2 [] [] [] (V1 0) Zt O O (⟨O,_,R.box (gV 0 O) O O (nU O),⟨O,_,v3 (kB false O) O (nU O),tV (V1 1) (b1 1) 64 O O O ?_⟩⟩);refine W.seq (W.seq ?_);by_cases hz:t.ins.length=0
 ·refine j1 10 [.y 11 _,.y 12 _,.y 13 _,.y 14 _,.y 15 _,.x 16,.x 17,.x 18,.x 19,.y 20 _] (V2 1 20) ⟨aU (fU 1 O O),aU (lU 11 O O O O O O O),aU<|zN O (lN _) O,aU<|r7 0 O O O,mU 14 O O,aF O O (gT (dT hz) O),aF O O (gT (dT hz) O),aF O O (gT (dT hz) O),aF O O (gT (dT hz) O),aU<|AT O (dT hz) (kB true O) O O,Zt⟩ O O O O ?_;refine d6 O (O) ?_;refine z6 1 (y1 2) (V1 2) ⟨aU<|zK (kB false O) O O,Zt⟩ O O O O ?_;refine W.ret ?_;exact Ends.one' (.inr O) O (congrArg D.bool (may_f1 hz).symm) O O Zt
 ·refine j1 10 (y10 11 12 13 14 15 16 17 18 19 20) (V2 1 20) ⟨aU (fU 1 O O),aU (lU 11 O O O O O O O),aU<|zN O (lN _) O,aU<|r7 0 O O O,mU 14 O O,aW O O (gF (dF hz) O) (fU 1 O O),aW O O (gF (dF hz) O) (lU 16 O O O O O O O),aW O O (gF (dF hz) O)<|zN O (lN _) O,aW O O (gF (dF hz) O)<|r7 0 O O O,aU<|zF O (dF hz) O O O,Zt⟩ O O O O ?_;refine z9 O (fun hc20=>?_) (fun hc20=>?_)
  ·refine z6 1 (y1 2) (V1 2) ⟨aU<|zK (kB false O) O O,Zt⟩ O O O O ?_;refine W.ret ?_;exact Ends.one' (.inr O) O (congrArg D.bool (may_f2 hc20).symm) O O Zt
  ·refine W.skip (z7 2 [] [] [] (V1 1) Zt O O (⟨O,_,ZW q7 D.int O (nU O),(E9 O O O (tV (V2 1 3) [(21,z8 q7 D.int _),(1,.var _)] 64 O O O ?_))⟩));refine W.seq (z6 4 (y4 22 23 24 25) (V5 1 3 23 24 25) ⟨aU (fU 1 O O),aU (lU 22 O O O O O O O),aU<|zN O (lN _) O,aU<|S3 (kI 0 O) O O,Zt⟩ O O O O ?_);refine W.block ?_;refine W.loop (α:={q__:Nat//q__<=t.ins.length/\∀ j<q__,c4 (T2 t.ins j) (plc t.ins[j]!)=false}) (fun q__=>⟨64,[(1,.ptr 1 0 []),(3,.map 21),(23,.sl none 36 (t.ins.map E3)),(24,.int ((t.ins.length:Nat):Int)),(25,.int ((q__.1:Nat):Int))],[(21,z8 q7 D.int (T2 t.ins q__.1)),(1,.var (.agg [.u32 t.ver,.sl none 36 (t.ins.map E3),.sl none 2 (t.outs.map J8),.u32 t.lock]))]⟩) (fun q__=>t.ins.length-q__.1) ⟨(0),⟨Nat.zero_le _,fun j h=>absurd h (Nat.not_lt_zero _)⟩⟩ O ?_;rintro ⟨i,⟨hi,hno⟩⟩;show W _ _ _ _ ⟨64,[(1,.ptr 1 0 []),(3,.map 21),(23,.sl none 36 (t.ins.map E3)),(24,.int ((t.ins.length:Nat):Int)),(25,.int ((i:Nat):Int))],[(21,z8 q7 D.int (T2 t.ins i)),(1,.var (.agg [.u32 t.ver,.sl none 36 (t.ins.map E3),.sl none 2 (t.outs.map J8),.u32 t.lock]))]⟩;have hi:i<=t.ins.length:=hi;have hno:∀ j<i,c4 (T2 t.ins j) (plc t.ins[j]!)=false:=hno;refine z6 1 (y1 26) (V6 1 3 23 24 25 26) ⟨aU<|zS O O O,Zt⟩ O O O O ?_;refine W.seq ?_;refine z9 O (fun hc26=>?_) (fun hc26=>?_)
   ·refine W.skip (W.seq (W.block (z7 6 (y3 27 28 29) [] [] (V7 1 3 23 24 25 27 29) ⟨mU 25 O O,aU<|zI i O O O bU O,aU<|zL O O (mG t.ins) O O O O O,Zt⟩ O O (o0 O O (E9 O O O (m1 O O O O O (tV (V7 1 3 4 5 23 24 25) [(5,.var _),(21,z8 q7 D.int _),(1,.var _)] 64 O O O ?_)))))));refine W.seq (z6 9 (y9 31 32 33 34 30 35 36 6 7) (V8 1 3 4 5 7 23 24 25) ⟨mU 3 O O,aU (fU 5 O O),aU (lU 32 O O O O O O O),aU fun _ B H K=>R.lookK (k:=plc t.ins[i]!) (z:=0) G6 (K 31 _ O) (B 21 _ O) (eU K 33 O) O O (fun _=>rfl) H,aU<|zY O O O,aU<|zX O O O O,aU<|zX O O O O,aU<|zA O O O,aU<|zA O O O,Zt⟩ O O O O ?_);refine z6 1 (y1 37) (V8 1 3 4 5 23 24 25 37) ⟨mU 7 O O,Zt⟩ O O O O ?_;refine W.cond O (fun hc37=>?_) (fun hc37=>?_)
    ·refine W.seq ?_;refine u3 (live:=[]) (env':=[]) (bx':=[(5,.var _),(21,z8 q7 D.int _),(1,.var _)]) (n':=64) O O O ?_;refine u7 [1,21] (bx':=[(21,z8 q7 D.int _),(1,.var _)]) O O ⟨j6 (fun _=>rfl) (fun _=>rfl),⟨O,Zt⟩⟩ (j7 hD O) ?_;refine j1 1 (y1 2) (V1 2) ⟨aU<|zK (kB false O) O O,Zt⟩ O O O O ?_;refine W.ret ?_;exact Ends.one' (.inr O) O (congrArg D.bool (may_f3 hc26 hc37).symm) O O Zt
    ·refine W.skip ?_;refine c9 5 (y4 38 39 40 41) [] [] (V8 1 3 23 24 25 38 40 41) ⟨mU 3 O O,aU (fU 5 O O),aU (lU 39 O O O O O O O),mU 4 O O,Zt⟩ O O (⟨O,_,R.mupdN (k:=plc t.ins[i]!) (u:=((i:Nat):Int)) G6 (gU 38 O) (xU 21 O) (gV 40 O) O (gV 41 O) O O (hc37),tV (V5 1 3 23 24 25) [(5,.var _),(21,z8 q7 D.int _),(1,.var _)] 64 O O O ?_⟩);refine u7 [1,21] (bx':=[(21,z8 q7 D.int _),(1,.var _)]) O O ⟨j6 (fun _=>rfl) (fun _=>rfl),⟨O,Zt⟩⟩ (j7 hD O) ?_;refine j1 2 (y2 42 25) (V5 1 3 23 24 25) ⟨aU<|m8 1 O O bU O,mU 42 O O,Zt⟩ O O O O ?_;exact⟨⟨(i+1),⟨by omega,fun j hj=>(Nat.lt_succ_iff_lt_or_eq.1 hj).elim (hno j) (fun e=>e▸hc37)⟩⟩,rfl,(by simp only[];omega)⟩
   ·obtain rfl:i=t.ins.length:=by omega
    refine W.exit (z6 1 (y1 8) (V2 1 8) ⟨aU<|zK (kW (.int .u64 0) (.u64 0) O) O O,Zt⟩ O O O O ?_);refine W.seq (z6 4 (y4 43 44 45 46) (V5 1 8 44 45 46) ⟨aU (fU 1 O O),aU (lU 43 O O O O O O O),aU<|zN O (lN _) O,aU<|S3 (kI 0 O) O O,Zt⟩ O O O O ?_);refine W.block ?_;refine W.loop (α:={q__:Nat//q__<=t.outs.length/\∀ j<q__,¬ 2100000000000000<t.outs[j]!.value/\¬ 2100000000000000<QH t.outs (j+1)}) (fun q__=>⟨64,[(1,.ptr 1 0 []),(8,.u64 (QH t.outs q__.1)),(44,.sl none 2 (t.outs.map J8)),(45,.int ((t.outs.length:Nat):Int)),(46,.int ((q__.1:Nat):Int))],[(21,z8 q7 D.int (T2 t.ins t.ins.length)),(1,.var (.agg [.u32 t.ver,.sl none 36 (t.ins.map E3),.sl none 2 (t.outs.map J8),.u32 t.lock]))]⟩) (fun q__=>t.outs.length-q__.1) ⟨(0),⟨Nat.zero_le _,fun j h=>absurd h (Nat.not_lt_zero _)⟩⟩ O ?_;rintro ⟨i,⟨hi,hmo⟩⟩;show W _ _ _ _ ⟨64,[(1,.ptr 1 0 []),(8,.u64 (QH t.outs i)),(44,.sl none 2 (t.outs.map J8)),(45,.int ((t.outs.length:Nat):Int)),(46,.int ((i:Nat):Int))],[(21,z8 q7 D.int (T2 t.ins t.ins.length)),(1,.var (.agg [.u32 t.ver,.sl none 36 (t.ins.map E3),.sl none 2 (t.outs.map J8),.u32 t.lock]))]⟩;have hi:i<=t.outs.length:=hi;have hmo:∀ j<i,¬ 2100000000000000<t.outs[j]!.value/\¬ 2100000000000000<QH t.outs (j+1):=hmo;refine z6 1 (y1 47) (V6 1 8 44 45 46 47) ⟨aU<|zS O O O,Zt⟩ O O O O ?_;refine W.seq ?_;refine z9 O (fun hc47=>?_) (fun hc47=>?_)
    ·refine W.skip (W.seq (W.block (z7 4 (y2 48 49) [] [] (V6 1 8 44 45 46 49) ⟨aU<|zI i O O O bU O,aU<|zL O O (mG t.outs) O O O O O,Zt⟩ O O (o0 O O (m1 O O O O O (tV (V6 1 8 10 44 45 46) [(10,.var _),(21,z8 q7 D.int _),(1,.var _)] 64 O O O ?_))))));refine W.seq (z6 3 (y3 50 51 52) (V7 1 8 10 44 45 46 52) ⟨aU (fU 10 O O),aU (lU 50 O O O O O O O),aU<|P5 O (kW (.int .u64 2100000000000000) (.u64 2100000000000000) O) O O,Zt⟩ O O O O ?_);refine W.cond O (fun hc52=>?_) (fun hc52=>?_)
     ·refine W.seq ?_;refine u3 (live:=[]) (env':=[]) (bx':=[(10,.var _),(21,z8 q7 D.int _),(1,.var _)]) (n':=64) O O O ?_;refine u7 [1,21] (bx':=[(21,z8 q7 D.int _),(1,.var _)]) O O ⟨j6 (fun _=>rfl) (fun _=>rfl),⟨O,Zt⟩⟩ (j7 hD O) ?_;refine j1 1 (y1 2) (V1 2) ⟨aU<|zK (kB false O) O O,Zt⟩ O O O O ?_;refine W.ret ?_;exact Ends.one' (.inr O) O (congrArg D.bool (may_f4 hc47 (of_decide_eq_true hc52)).symm) O O Zt
     ·refine W.skip (z6 5 (y5 53 54 55 56 8) (V5 1 8 44 45 46) ⟨mU 8 O O,aU (fU 10 O O),aU (lU 54 O O O O O O O),aU<|zB O O O O,aU<|zA O O O,Zt⟩ O O O O ?_);refine W.seq ?_;refine u7 [1,21] (bx':=[(21,z8 q7 D.int _),(1,.var _)]) O O ⟨j6 (fun _=>rfl) (fun _=>rfl),⟨O,Zt⟩⟩ (j7 hD O) ?_;refine j1 2 (y2 57 58) (V6 1 8 44 45 46 58) ⟨mU 8 O O,aU<|P5 O (kW (.int .u64 2100000000000000) (.u64 2100000000000000) O) O O,Zt⟩ O O O O ?_;refine W.cond O (fun hc58=>?_) (fun hc58=>?_)
      ·refine z6 1 (y1 2) (V1 2) ⟨aU<|zK (kB false O) O O,Zt⟩ O O O O ?_;refine W.ret ?_;exact Ends.one' (.inr O) O (congrArg D.bool (may_f5 hc47 (of_decide_eq_true hc58)).symm) O O Zt
      ·refine W.skip ?_;refine j1 2 (y2 59 46) (V5 1 8 44 45 46) ⟨aU<|m8 1 O O bU O,mU 59 O O,Zt⟩ O O O O ?_;exact⟨⟨(i+1),⟨by omega,fun j hj=>(Nat.lt_succ_iff_lt_or_eq.1 hj).elim (hmo j) (fun e=>e▸⟨of_decide_eq_false hc52,of_decide_eq_false hc58⟩)⟩⟩,rfl,(by simp only[];omega)⟩
    ·obtain rfl:i=t.outs.length:=by omega
     refine W.exit (z6 5 (y5 60 61 62 63 2) (V1 2) ⟨aU (lU 1 O O O O O O O),aU<|zC hC (put_ok t hwf) O O O (F1 (.sl _ _ _ (u2 fun _=>.u8 _))) O,aU<|zN O (lN _) O,aU fun _ _ H K=>GF ((NG t).length) (16384) (eU K 62 O) (kI 16384 O) H,aU<|zA O O O,Zt⟩ O O O O ?_);refine W.ret ?_;exact Ends.one' (.inr O) O (congrArg D.bool (may_fin hz hc20 hno hmo).symm) O O Zt
theorem XM(t:TxS)(hwf:t.wf):Fn Tryd.prog gl 67 [U7 t] (.bool (m9 t)):=by
 refine Fn.of (n:=18) Tryd.func67 rfl rfl rfl (nU rfl) fun C hC hD=>?_;have h1:=hwf.ins;refine z7 2 [] [] [] (V1 0) Zt O O (⟨O,_,R.box (gV 0 O) O O (nU O),⟨O,_,v3 (kB false O) O (nU O),tV (V1 1) (b1 1) 18 O O O ?_⟩⟩);refine z7 3 (y1 4) [] [] (V2 1 4) ⟨aU fun _ _ H _=>p6 (l:=[.arr 32 1 ((List.replicate 32 0).map D.u8),.u32 0]) (l':=[_,_]) (.cons (kW (.int .u32 4294967295) (.u32 4294967295) O) (.nil O)) ⟨⟨_,(kW (.int .u32 4294967295) (.u32 4294967295) O),O,O,O⟩,Zt⟩ H,Zt⟩ O O (o0 O O (m1 O O O O O (tV (V2 1 3) (b2 3 1) 18 O O O ?_)));refine W.seq ?_;by_cases hz:t.ins.length=1
 ·refine w7 (m:=14) (an:=[0,1,3,7,15,31,63,127,255,511,31,2047,4095,8191]) hP dU O (its:=[.y 5 _,.y 6 _,.y 7 _,.y 8 _,.y 9 _,.y 10 _,.y 11 _,.y 12 _,.y 13 _,.y 14 _,.y 15 _,.y 16 _,.y 17 _,.y 2 _]) (ks:=[]) (kk:=[]) (live:=[2]) (env':=(V1 2)) (⟨nU O,O,⟨aU (fU 1 O O),aU (lU 5 O O O O O O O),aU<|zN O (lN _) O,aU<|r7 1 O O O,mU 8 O O,aW O O (gT (dT hz) O) (fU 1 O O),aW O O (gT (dT hz) O) (lU 10 O O O O O O O),aW O O (gT (dT hz) O) fun _ _ H K=>R.idxN (0) (SC.sl (K 11 _ O)) (m2 (kI 0 O)) O bU H dU,aW O O (gT (dT hz) O)<|H9 O O,aW O O (gT (dT hz) O)<|zL O O (mG t.ins) O O O O O,aW O O (gT (dT hz) O) (lU 3 O O O O O O O),aW O O (gT (dT hz) O) fun _ _ H K=>R.eqD (neg:=false) (b':=(plc t.ins[0]! == (List.replicate 32 0,4294967295))) (G8 (plc t.ins[0]!) (List.replicate 32 0,4294967295)) O (eU K 14 O) (eU K 15 O) O O O O (O) H,aU<|zT O (dT hz) O O O,aU<|zA O O O,Zt⟩,O,O,O⟩) O (bx':=(b2 3 1)) O (n':=18) O (tV (V1 2) (b2 3 1) 18 O O O ?_);refine W.ret ?_;exact Ends.one' (.inr O) O (by rw[m9,dT hz];rfl) O O Zt
 ·refine w7 (m:=14) (an:=[0,1,3,7,15,31,63,127,255,511,31,2047,4095,8191]) hP dU O (its:=[.y 5 _,.y 6 _,.y 7 _,.y 8 _,.y 9 _,.x 10,.x 11,.x 12,.x 13,.x 14,.x 15,.x 16,.y 17 _,.y 2 _]) (ks:=[]) (kk:=[]) (live:=[2]) (env':=(V1 2)) (⟨nU O,O,⟨aU (fU 1 O O),aU (lU 5 O O O O O O O),aU<|zN O (lN _) O,aU<|r7 1 O O O,mU 8 O O,aF O O (gF (dF hz) O),aF O O (gF (dF hz) O),aF O O (gF (dF hz) O),aF O O (gF (dF hz) O),aF O O (gF (dF hz) O),aF O O (gF (dF hz) O),aF O O (gF (dF hz) O),aU<|MQ O (dF hz) (kB false O) O O,aU<|zA O O O,Zt⟩,O,O,O⟩) O (bx':=(b2 3 1)) O (n':=18) O (tV (V1 2) (b2 3 1) 18 O O O ?_);refine W.ret ?_;exact Ends.one' (.inr O) O (by rw[m9,dF hz];rfl) O O Zt
end Go.Sx

namespace Go.Sx
open Go.Proofs
theorem FQ(h:HdS):FnB Tryd.prog gl 107 [.ptr 0 0 []] [(0,.var (d7 h))] (.agg [.agg [.int ((0:Nat):Int),.ptr 0 0 [0]],.agg [.int ((68:Nat):Int),.ptr 0 65 [3]],.agg [.int ((72:Nat):Int),.ptr 0 66 [4]],.agg [.int ((76:Nat):Int),.ptr 0 67 [5]]]) [(0,.var (d7 h))] []:=by
 refine FnB.of (n:=20) (ids:=[0]) Tryd.func107 rfl rfl rfl (nU rfl) fun C hC hD=>?_;refine z7 1 [] [] [] (V1 0) Zt O O (o0 O O (tV (V2 0 2) (b2 2 0) 20 O O O ?_));refine W.seq ?_;refine w7 (m:=17) (an:=[0,1,3,7,0,16,48,112,0,256,768,1792,0,4096,12288,28672,65535,131071]) hP dU O (its:=[.y 3 _,.y 4 _,.y 5 _,.y 6 _,.y 7 _,.y 8 _,.y 9 _,.y 10 _,.y 11 _,.y 12 _,.y 13 _,.y 14 _,.y 15 _,.y 16 _,.y 17 _,.y 18 _,.y 19 _]) (ks:=[]) (kk:=[]) (live:=[2,19]) (env':=(V2 2 19)) (⟨nU O,O,⟨mU 0 O O,aU<|AR O O,aU (fU 4 O O),aU fun _ _ H K=>R.bldSP (.cons (kI 0 O) (.cons (eU K 5 O) (.nil O))) ⟨⟨_,(kI 0 O),O,O⟩,⟨⟨_,(eU K 5 O),O,O⟩,Zt⟩⟩ H,mU 0 O O,aU<|AR O O,aU (fU 8 O O),aU fun _ _ H K=>R.bldSP (.cons (kI 68 O) (.cons (eU K 9 O) (.nil O))) ⟨⟨_,(kI 68 O),O,O⟩,⟨⟨_,(eU K 9 O),O,O⟩,Zt⟩⟩ H,mU 0 O O,aU<|AR O O,aU (fU 12 O O),aU fun _ _ H K=>R.bldSP (.cons (kI 72 O) (.cons (eU K 13 O) (.nil O))) ⟨⟨_,(kI 72 O),O,O⟩,⟨⟨_,(eU K 13 O),O,O⟩,Zt⟩⟩ H,mU 0 O O,aU<|AR O O,aU (fU 16 O O),aU fun _ _ H K=>R.bldSP (.cons (kI 76 O) (.cons (eU K 17 O) (.nil O))) ⟨⟨_,(kI 76 O),O,O⟩,⟨⟨_,(eU K 17 O),O,O⟩,Zt⟩⟩ H,aU fun _ _ H K=>R.bldAG (.cons (eU K 6 O) (.cons (eU K 10 O) (.cons (eU K 14 O) (.cons (eU K 18 O) (.nil O))))) ⟨⟨_,(eU K 6 O),O,O⟩,⟨⟨_,(eU K 10 O),O,O⟩,⟨⟨_,(eU K 14 O),O,O⟩,⟨⟨_,(eU K 18 O),O,O⟩,Zt⟩⟩⟩⟩ H,Zt⟩,O,O,O⟩) O (bx':=(b2 2 0)) O (n':=20) O (⟨O,_,R.stP (gU 2 O) (xU 2 O) O (gV 19 O) O O (by rfl) (by rfl) O,tV (V1 2) (b2 2 0) 20 O O O ?_⟩);refine W.ret ?_;exact EndsB.one' (.inr O) O (O) O (show LdT _ 201 8 true from inferInstance) O O (O) ⟨O,Zt⟩ O
theorem hput_ok(h:HdS)(hw:h.wf):Fn Tryd.prog gl 90 [d7 h] (.sl (some 5) 1 ((l3 h).map D.u8)):=by
 refine Fn.of (n:=42) Tryd.func90 rfl rfl rfl (nU rfl) fun C hC hD=>?_;have hw1:=hw.1;have hw2:=hw.2;have hp4:=NH h;have hp5:=put5_len h hw;refine z7 2 [] [] [] (V1 0) Zt O O (⟨O,_,R.box (gV 0 O) O O (nU O),⟨O,_,v3 (kN O) O (nU O),tV (V1 1) (b1 1) 42 O O O ?_⟩⟩);refine z7 2 (y2 7 3) [(1,7)] [(1,7)] (V2 1 3) ⟨aU fun _ _ H _=>R.mk (n:=80) (kI 80 O) (kI 80 O) bU dU H,aU<|zO O O O,Zt⟩ O O (tU O ?_);refine W.seq (z7 2 [] [] [] (V2 1 3) Zt O O (⟨O,_,R.callB [(0,1)] hC (FQ h) (EvB.cons (gV 1 O) O O O EvB.nil) O ⟨O,Zt⟩ ⟨O,Zt⟩ O O O O O O (nU O),⟨O,_,R.mov (kI 0 O) O (nU O),tV (V4 1 3 8 9) (b1 1) 42 O O O ?_⟩⟩));refine W.block ?_;refine SL ?_;refine WU.step ?_;show W _ _ _ _ _;refine u3 (live:=[1,3,8,9]) (env':=(V4 1 3 8 9)) (bx':=(b1 1)) (n':=42) O O O ?_;refine z6 1 (y1 10) (V5 1 3 8 9 10) ⟨aU<|I7 4 O O O,Zt⟩ O O O O ?_;refine W.seq ?_;refine d6 O (O) ?_;refine W.skip (W.seq (W.block (z7 3 (y1 11) [] [] (V5 1 3 8 9 11) ⟨aU fun _ _ H K=>R.ixG (0) (eU K 8 O) (m2 (eU K 9 O)) O O O O O O O H,Zt⟩ O O (o0 O O ⟨O,_,R.stP (gU 5 O) (xU 5 O) O (gV 11 O) O O (by rfl) (by rfl) O,tV (V5 1 3 5 8 9) (b2 5 1) 42 O O O ?_⟩))));refine z6 1 (y1 12) (V6 1 3 5 8 9 12) ⟨aU<|S3 (kI 0 O) O O,Zt⟩ O O O O ?_;refine W.block ?_;refine W.loop (α:={q__:Nat//q__<=4}) (fun q__=>⟨42,[(1,.ptr 1 0 []),(3,.sl (some 5) 1 ((D4 b80 0 h.ver q__.1).map D.u8)),(5,.ptr 5 0 []),(8,.agg [.agg [.int ((0:Nat):Int),.ptr 1 0 [0]],.agg [.int ((68:Nat):Int),.ptr 1 65 [3]],.agg [.int ((72:Nat):Int),.ptr 1 66 [4]],.agg [.int ((76:Nat):Int),.ptr 1 67 [5]]]),(9,.int ((0:Nat):Int)),(12,.int ((q__.1:Nat):Int))],[(5,.var (.agg [.int ((0:Nat):Int),.ptr 1 0 [0]])),(1,.var (d7 h))]⟩) (fun q__=>4-q__.1) ⟨(0),bU⟩ (by first|rfl|(unfold b80;simp only[List.map_replicate];rfl)) ?_;rintro ⟨i,hi⟩;show W _ _ _ _ ⟨42,[(1,.ptr 1 0 []),(3,.sl (some 5) 1 ((D4 b80 0 h.ver i).map D.u8)),(5,.ptr 5 0 []),(8,.agg [.agg [.int ((0:Nat):Int),.ptr 1 0 [0]],.agg [.int ((68:Nat):Int),.ptr 1 65 [3]],.agg [.int ((72:Nat):Int),.ptr 1 66 [4]],.agg [.int ((76:Nat):Int),.ptr 1 67 [5]]]),(9,.int ((0:Nat):Int)),(12,.int ((i:Nat):Int))],[(5,.var (.agg [.int ((0:Nat):Int),.ptr 1 0 [0]])),(1,.var (d7 h))]⟩;have hi:i<=4:=hi;have hsl:(D4 b80 0 h.ver i).length=80:=(H1 _ _ _ _).trans (rfl);refine z6 1 (y1 13) (V7 1 3 5 8 9 12 13) ⟨aU<|I7 4 O O O,Zt⟩ O O O O ?_;refine W.seq ?_;refine z9 O (fun hc13=>?_) (fun hc13=>?_)
 ·refine W.skip (W.seq (W.block (z6 2 (y2 14 6) (V7 1 3 5 6 8 9 12) ⟨mU 12 O O,aU<|zA O O O,Zt⟩ O O O O ?_)));refine w7 (m:=14) (an:=[0,0,2,0,14,0,32,96,224,0,512,2016,4064,8191,16383]) hP dU O (its:=[.y 15 _,.y 16 _,.y 17 _,.y 18 _,.y 19 _,.y 20 _,.y 21 _,.y 22 _,.y 23 _,.y 24 _,.y 25 _,.y 26 _,.y 27 _,.y 28 _]) (ks:=[]) (kk:=[]) (live:=[1,3,5,8,9,12,15,27,28]) (env':=(V9 1 3 5 8 9 12 15 27 28)) (⟨nU O,O,⟨aU<|zM O O,aU (fU 5 O O),aU (lU 16 O O O O O O O),mU 6 O O,aU<|zP O O bU O,aU (fU 5 O O),aU (lU 20 O O O O O O O),aU<|AR O O,aU (lU 22 O O O O O O O),mU 6 O O,aU<|E8 8 O O bU O,aU fun _ _ H K=>R.bin (eU K 23 O) (eU K 25 O) O bV H,aU<|zW O O O,aU<|t3 ((0+i)) O O O O bU O,Zt⟩,O,O,O⟩) O (bx':=(b2 5 1)) O (n':=42) O (⟨O,_,M0 (gU 28 O) (Or.inr (gU 15 O)) (gU 3 O) (mG (D4 b80 0 h.ver i)) O (gV 27 O) (by rfl) (by rfl) (by rfl) (by rfl) o5 o7,tV (V6 1 3 5 8 9 12) (b2 5 1) 42 O O O ?_⟩);refine j1 2 (y2 29 12) (V6 1 3 5 8 9 12) ⟨aU<|m8 1 O O bU O,mU 29 O O,Zt⟩ O O O O ?_;exact⟨⟨(i+1),bU⟩,rfl,(by simp only[];omega)⟩
 ·obtain rfl:i=4:=by omega
  refine W.exit ?_;refine u3 (live:=[1,3,8,9]) (env':=(V4 1 3 8 9)) (bx':=(b2 5 1)) (n':=42) O O O ?_;refine p9 [1] (bx':=(b1 1)) O O O (j7 hD O) ?_;refine j1 2 (y2 30 9) (V4 1 3 8 9) ⟨aU<|m8 1 O O bU O,mU 30 O O,Zt⟩ O O O O ?_;refine WU.step ?_;show W _ _ _ _ _;refine u3 (live:=[1,3,8,9]) (env':=(V4 1 3 8 9)) (bx':=(b1 1)) (n':=42) O O O ?_;refine z6 1 (y1 10) (V5 1 3 8 9 10) ⟨aU<|I7 4 O O O,Zt⟩ O O O O ?_;refine W.seq ?_;refine d6 O (O) ?_;refine W.skip (W.seq (W.block (z7 3 (y1 11) [] [] (V5 1 3 8 9 11) ⟨aU fun _ _ H K=>R.ixG (1) (eU K 8 O) (m2 (eU K 9 O)) O O O O O O O H,Zt⟩ O O (o0 O O ⟨O,_,R.stP (gU 5 O) (xU 5 O) O (gV 11 O) O O (by rfl) (by rfl) O,tV (V5 1 3 5 8 9) (b2 5 1) 42 O O O ?_⟩))));refine z6 1 (y1 12) (V6 1 3 5 8 9 12) ⟨aU<|S3 (kI 0 O) O O,Zt⟩ O O O O ?_;refine W.block ?_;refine W.loop (α:={q__:Nat//q__<=4}) (fun q__=>⟨42,[(1,.ptr 1 0 []),(3,.sl (some 5) 1 ((D4 (EF h) 68 h.time q__.1).map D.u8)),(5,.ptr 5 0 []),(8,.agg [.agg [.int ((0:Nat):Int),.ptr 1 0 [0]],.agg [.int ((68:Nat):Int),.ptr 1 65 [3]],.agg [.int ((72:Nat):Int),.ptr 1 66 [4]],.agg [.int ((76:Nat):Int),.ptr 1 67 [5]]]),(9,.int ((1:Nat):Int)),(12,.int ((q__.1:Nat):Int))],[(5,.var (.agg [.int ((68:Nat):Int),.ptr 1 65 [3]])),(1,.var (d7 h))]⟩) (fun q__=>4-q__.1) ⟨(0),bU⟩ (by first|rfl|(unfold b80;simp only[List.map_replicate];rfl)) ?_;rintro ⟨i,hi⟩;show W _ _ _ _ ⟨42,[(1,.ptr 1 0 []),(3,.sl (some 5) 1 ((D4 (EF h) 68 h.time i).map D.u8)),(5,.ptr 5 0 []),(8,.agg [.agg [.int ((0:Nat):Int),.ptr 1 0 [0]],.agg [.int ((68:Nat):Int),.ptr 1 65 [3]],.agg [.int ((72:Nat):Int),.ptr 1 66 [4]],.agg [.int ((76:Nat):Int),.ptr 1 67 [5]]]),(9,.int ((1:Nat):Int)),(12,.int ((i:Nat):Int))],[(5,.var (.agg [.int ((68:Nat):Int),.ptr 1 65 [3]])),(1,.var (d7 h))]⟩;have hi:i<=4:=hi;have hsl:(D4 (EF h) 68 h.time i).length=80:=(H1 _ _ _ _).trans (NB h);refine z6 1 (y1 13) (V7 1 3 5 8 9 12 13) ⟨aU<|I7 4 O O O,Zt⟩ O O O O ?_;refine W.seq ?_;refine z9 O (fun hc13=>?_) (fun hc13=>?_)
  ·refine W.skip (W.seq (W.block (z6 2 (y2 14 6) (V7 1 3 5 6 8 9 12) ⟨mU 12 O O,aU<|zA O O O,Zt⟩ O O O O ?_)));refine w7 (m:=14) (an:=[0,0,2,0,14,0,32,96,224,0,512,2016,4064,8191,16383]) hP dU O (its:=[.y 15 _,.y 16 _,.y 17 _,.y 18 _,.y 19 _,.y 20 _,.y 21 _,.y 22 _,.y 23 _,.y 24 _,.y 25 _,.y 26 _,.y 27 _,.y 28 _]) (ks:=[]) (kk:=[]) (live:=[1,3,5,8,9,12,15,27,28]) (env':=(V9 1 3 5 8 9 12 15 27 28)) (⟨nU O,O,⟨aU<|zM O O,aU (fU 5 O O),aU (lU 16 O O O O O O O),mU 6 O O,aU<|zP O O bU O,aU (fU 5 O O),aU (lU 20 O O O O O O O),aU<|AR O O,aU (lU 22 O O O O O O O),mU 6 O O,aU<|E8 8 O O bU O,aU fun _ _ H K=>R.bin (eU K 23 O) (eU K 25 O) O bV H,aU<|zW O O O,aU<|t3 ((68+i)) O O O O bU O,Zt⟩,O,O,O⟩) O (bx':=(b2 5 1)) O (n':=42) O (⟨O,_,M0 (gU 28 O) (Or.inr (gU 15 O)) (gU 3 O) (mG (D4 (EF h) 68 h.time i)) O (gV 27 O) (by rfl) (by rfl) (by rfl) (by rfl) o5 o7,tV (V6 1 3 5 8 9 12) (b2 5 1) 42 O O O ?_⟩);refine j1 2 (y2 29 12) (V6 1 3 5 8 9 12) ⟨aU<|m8 1 O O bU O,mU 29 O O,Zt⟩ O O O O ?_;exact⟨⟨(i+1),bU⟩,rfl,(by simp only[];omega)⟩
  ·obtain rfl:i=4:=by omega
   refine W.exit ?_;refine u3 (live:=[1,3,8,9]) (env':=(V4 1 3 8 9)) (bx':=(b2 5 1)) (n':=42) O O O ?_;refine p9 [1] (bx':=(b1 1)) O O O (j7 hD O) ?_;refine j1 2 (y2 30 9) (V4 1 3 8 9) ⟨aU<|m8 1 O O bU O,mU 30 O O,Zt⟩ O O O O ?_;refine WU.step ?_;show W _ _ _ _ _;refine u3 (live:=[1,3,8,9]) (env':=(V4 1 3 8 9)) (bx':=(b1 1)) (n':=42) O O O ?_;refine z6 1 (y1 10) (V5 1 3 8 9 10) ⟨aU<|I7 4 O O O,Zt⟩ O O O O ?_;refine W.seq ?_;refine d6 O (O) ?_;refine W.skip (W.seq (W.block (z7 3 (y1 11) [] [] (V5 1 3 8 9 11) ⟨aU fun _ _ H K=>R.ixG (2) (eU K 8 O) (m2 (eU K 9 O)) O O O O O O O H,Zt⟩ O O (o0 O O ⟨O,_,R.stP (gU 5 O) (xU 5 O) O (gV 11 O) O O (by rfl) (by rfl) O,tV (V5 1 3 5 8 9) (b2 5 1) 42 O O O ?_⟩))));refine z6 1 (y1 12) (V6 1 3 5 8 9 12) ⟨aU<|S3 (kI 0 O) O O,Zt⟩ O O O O ?_;refine W.block ?_;refine W.loop (α:={q__:Nat//q__<=4}) (fun q__=>⟨42,[(1,.ptr 1 0 []),(3,.sl (some 5) 1 ((D4 (NC h) 72 h.bits q__.1).map D.u8)),(5,.ptr 5 0 []),(8,.agg [.agg [.int ((0:Nat):Int),.ptr 1 0 [0]],.agg [.int ((68:Nat):Int),.ptr 1 65 [3]],.agg [.int ((72:Nat):Int),.ptr 1 66 [4]],.agg [.int ((76:Nat):Int),.ptr 1 67 [5]]]),(9,.int ((2:Nat):Int)),(12,.int ((q__.1:Nat):Int))],[(5,.var (.agg [.int ((72:Nat):Int),.ptr 1 66 [4]])),(1,.var (d7 h))]⟩) (fun q__=>4-q__.1) ⟨(0),bU⟩ (by first|rfl|(unfold b80;simp only[List.map_replicate];rfl)) ?_;rintro ⟨i,hi⟩;show W _ _ _ _ ⟨42,[(1,.ptr 1 0 []),(3,.sl (some 5) 1 ((D4 (NC h) 72 h.bits i).map D.u8)),(5,.ptr 5 0 []),(8,.agg [.agg [.int ((0:Nat):Int),.ptr 1 0 [0]],.agg [.int ((68:Nat):Int),.ptr 1 65 [3]],.agg [.int ((72:Nat):Int),.ptr 1 66 [4]],.agg [.int ((76:Nat):Int),.ptr 1 67 [5]]]),(9,.int ((2:Nat):Int)),(12,.int ((i:Nat):Int))],[(5,.var (.agg [.int ((72:Nat):Int),.ptr 1 66 [4]])),(1,.var (d7 h))]⟩;have hi:i<=4:=hi;have hsl:(D4 (NC h) 72 h.bits i).length=80:=(H1 _ _ _ _).trans (ND h);refine z6 1 (y1 13) (V7 1 3 5 8 9 12 13) ⟨aU<|I7 4 O O O,Zt⟩ O O O O ?_;refine W.seq ?_;refine z9 O (fun hc13=>?_) (fun hc13=>?_)
   ·refine W.skip (W.seq (W.block (z6 2 (y2 14 6) (V7 1 3 5 6 8 9 12) ⟨mU 12 O O,aU<|zA O O O,Zt⟩ O O O O ?_)));refine w7 (m:=14) (an:=[0,0,2,0,14,0,32,96,224,0,512,2016,4064,8191,16383]) hP dU O (its:=[.y 15 _,.y 16 _,.y 17 _,.y 18 _,.y 19 _,.y 20 _,.y 21 _,.y 22 _,.y 23 _,.y 24 _,.y 25 _,.y 26 _,.y 27 _,.y 28 _]) (ks:=[]) (kk:=[]) (live:=[1,3,5,8,9,12,15,27,28]) (env':=(V9 1 3 5 8 9 12 15 27 28)) (⟨nU O,O,⟨aU<|zM O O,aU (fU 5 O O),aU (lU 16 O O O O O O O),mU 6 O O,aU<|zP O O bU O,aU (fU 5 O O),aU (lU 20 O O O O O O O),aU<|AR O O,aU (lU 22 O O O O O O O),mU 6 O O,aU<|E8 8 O O bU O,aU fun _ _ H K=>R.bin (eU K 23 O) (eU K 25 O) O bV H,aU<|zW O O O,aU<|t3 ((72+i)) O O O O bU O,Zt⟩,O,O,O⟩) O (bx':=(b2 5 1)) O (n':=42) O (⟨O,_,M0 (gU 28 O) (Or.inr (gU 15 O)) (gU 3 O) (mG (D4 (NC h) 72 h.bits i)) O (gV 27 O) (by rfl) (by rfl) (by rfl) (by rfl) o5 o7,tV (V6 1 3 5 8 9 12) (b2 5 1) 42 O O O ?_⟩);refine j1 2 (y2 29 12) (V6 1 3 5 8 9 12) ⟨aU<|m8 1 O O bU O,mU 29 O O,Zt⟩ O O O O ?_;exact⟨⟨(i+1),bU⟩,rfl,(by simp only[];omega)⟩
   ·obtain rfl:i=4:=by omega
    refine W.exit ?_;refine u3 (live:=[1,3,8,9]) (env':=(V4 1 3 8 9)) (bx':=(b2 5 1)) (n':=42) O O O ?_;refine p9 [1] (bx':=(b1 1)) O O O (j7 hD O) ?_;refine j1 2 (y2 30 9) (V4 1 3 8 9) ⟨aU<|m8 1 O O bU O,mU 30 O O,Zt⟩ O O O O ?_;refine WU.step ?_;show W _ _ _ _ _;refine u3 (live:=[1,3,8,9]) (env':=(V4 1 3 8 9)) (bx':=(b1 1)) (n':=42) O O O ?_;refine z6 1 (y1 10) (V5 1 3 8 9 10) ⟨aU<|I7 4 O O O,Zt⟩ O O O O ?_;refine W.seq ?_;refine d6 O (O) ?_;refine W.skip (W.seq (W.block (z7 3 (y1 11) [] [] (V5 1 3 8 9 11) ⟨aU fun _ _ H K=>R.ixG (3) (eU K 8 O) (m2 (eU K 9 O)) O O O O O O O H,Zt⟩ O O (o0 O O ⟨O,_,R.stP (gU 5 O) (xU 5 O) O (gV 11 O) O O (by rfl) (by rfl) O,tV (V5 1 3 5 8 9) (b2 5 1) 42 O O O ?_⟩))));refine z6 1 (y1 12) (V6 1 3 5 8 9 12) ⟨aU<|S3 (kI 0 O) O O,Zt⟩ O O O O ?_;refine W.block ?_;refine W.loop (α:={q__:Nat//q__<=4}) (fun q__=>⟨42,[(1,.ptr 1 0 []),(3,.sl (some 5) 1 ((D4 (HO h) 76 h.nonce q__.1).map D.u8)),(5,.ptr 5 0 []),(8,.agg [.agg [.int ((0:Nat):Int),.ptr 1 0 [0]],.agg [.int ((68:Nat):Int),.ptr 1 65 [3]],.agg [.int ((72:Nat):Int),.ptr 1 66 [4]],.agg [.int ((76:Nat):Int),.ptr 1 67 [5]]]),(9,.int ((3:Nat):Int)),(12,.int ((q__.1:Nat):Int))],[(5,.var (.agg [.int ((76:Nat):Int),.ptr 1 67 [5]])),(1,.var (d7 h))]⟩) (fun q__=>4-q__.1) ⟨(0),bU⟩ (by first|rfl|(unfold b80;simp only[List.map_replicate];rfl)) ?_;rintro ⟨i,hi⟩;show W _ _ _ _ ⟨42,[(1,.ptr 1 0 []),(3,.sl (some 5) 1 ((D4 (HO h) 76 h.nonce i).map D.u8)),(5,.ptr 5 0 []),(8,.agg [.agg [.int ((0:Nat):Int),.ptr 1 0 [0]],.agg [.int ((68:Nat):Int),.ptr 1 65 [3]],.agg [.int ((72:Nat):Int),.ptr 1 66 [4]],.agg [.int ((76:Nat):Int),.ptr 1 67 [5]]]),(9,.int ((3:Nat):Int)),(12,.int ((i:Nat):Int))],[(5,.var (.agg [.int ((76:Nat):Int),.ptr 1 67 [5]])),(1,.var (d7 h))]⟩;have hi:i<=4:=hi;have hsl:(D4 (HO h) 76 h.nonce i).length=80:=(H1 _ _ _ _).trans (UR h);refine z6 1 (y1 13) (V7 1 3 5 8 9 12 13) ⟨aU<|I7 4 O O O,Zt⟩ O O O O ?_;refine W.seq ?_;refine z9 O (fun hc13=>?_) (fun hc13=>?_)
    ·refine W.skip (W.seq (W.block (z6 2 (y2 14 6) (V7 1 3 5 6 8 9 12) ⟨mU 12 O O,aU<|zA O O O,Zt⟩ O O O O ?_)));refine w7 (m:=14) (an:=[0,0,2,0,14,0,32,96,224,0,512,2016,4064,8191,16383]) hP dU O (its:=[.y 15 _,.y 16 _,.y 17 _,.y 18 _,.y 19 _,.y 20 _,.y 21 _,.y 22 _,.y 23 _,.y 24 _,.y 25 _,.y 26 _,.y 27 _,.y 28 _]) (ks:=[]) (kk:=[]) (live:=[1,3,5,8,9,12,15,27,28]) (env':=(V9 1 3 5 8 9 12 15 27 28)) (⟨nU O,O,⟨aU<|zM O O,aU (fU 5 O O),aU (lU 16 O O O O O O O),mU 6 O O,aU<|zP O O bU O,aU (fU 5 O O),aU (lU 20 O O O O O O O),aU<|AR O O,aU (lU 22 O O O O O O O),mU 6 O O,aU<|E8 8 O O bU O,aU fun _ _ H K=>R.bin (eU K 23 O) (eU K 25 O) O bV H,aU<|zW O O O,aU<|t3 ((76+i)) O O O O bU O,Zt⟩,O,O,O⟩) O (bx':=(b2 5 1)) O (n':=42) O (⟨O,_,M0 (gU 28 O) (Or.inr (gU 15 O)) (gU 3 O) (mG (D4 (HO h) 76 h.nonce i)) O (gV 27 O) (by rfl) (by rfl) (by rfl) (by rfl) o5 o7,tV (V6 1 3 5 8 9 12) (b2 5 1) 42 O O O ?_⟩);refine j1 2 (y2 29 12) (V6 1 3 5 8 9 12) ⟨aU<|m8 1 O O bU O,mU 29 O O,Zt⟩ O O O O ?_;exact⟨⟨(i+1),bU⟩,rfl,(by simp only[];omega)⟩
    ·obtain rfl:i=4:=by omega
     refine W.exit ?_;refine u3 (live:=[1,3,8,9]) (env':=(V4 1 3 8 9)) (bx':=(b2 5 1)) (n':=42) O O O ?_;refine p9 [1] (bx':=(b1 1)) O O O (j7 hD O) ?_;refine j1 2 (y2 30 9) (V4 1 3 8 9) ⟨aU<|m8 1 O O bU O,mU 30 O O,Zt⟩ O O O O ?_;refine WU.step ?_;show W _ _ _ _ _;refine u3 (live:=[1,3,8,9]) (env':=(V4 1 3 8 9)) (bx':=(b1 1)) (n':=42) O O O ?_;refine z6 1 (y1 10) (V5 1 3 8 9 10) ⟨aU<|I7 4 O O O,Zt⟩ O O O O ?_;refine W.seq ?_;refine g9 O (O) ?_;refine W.exit (W.seq ?_);refine w7 (m:=4) (an:=[0,1,0,4,15]) hP dU O (its:=[.y 31 _,.y 32 _,.y 33 _,.y 34 _]) (ks:=[]) (kk:=[]) (live:=[1,3,31,32,34]) (env':=(V5 1 3 31 32 34)) (⟨nU O,O,⟨aU<|zM O O,aU fun _ _ H K=>PS (4) ((D4 (HO h) 76 h.nonce 4).length) (((D4 (HO h) 76 h.nonce 4).length-4)) (SC.al (K 31 _ O) (K 3 _ O)) (m2 (kI 4 O)) O O (by simp) bU bU O H dU,aU (fU 1 O O),aU fun _ B H K=>J4 (0) (32) (32) (K 33 _ O) (B 1 _ O) O O O O O bU bU O H,Zt⟩,O,O,O⟩) O (bx':=(b1 1)) O (n':=42) O (⟨O,_,R.cpV (gU 32 O) (Or.inr (gU 31 O)) (gU 3 O) bU bU (p8 (fun _=>rfl)) (SrcO.sc (SC.va (gU 34 O) (xU 1 O) O bU) (X5 (fun _=>rfl))) (fun y q=>YY (fun _=>rfl) y (List.mem_of_mem_drop (List.mem_of_mem_take q))) (nU O) dU ((by simp[hw1,H1,UR])) (show _=((KY h).map D.u8) from(put5_map h hw)),tV (V2 1 3) (b1 1) 42 O O O ?_⟩);refine W.seq ?_;refine w7 (m:=4) (an:=[0,1,0,4,15]) hP dU O (its:=[.y 36 _,.y 37 _,.y 38 _,.y 39 _]) (ks:=[]) (kk:=[]) (live:=[3,36,37,39]) (env':=(V4 3 36 37 39)) (⟨nU O,O,⟨aU<|zM O O,aU fun _ _ H K=>PS (36) ((KY h).length) (((KY h).length-36)) (SC.al (K 36 _ O) (K 3 _ O)) (m2 (kI 36 O)) O O (by simp) bU bU O H dU,aU (fU 1 O O),aU fun _ B H K=>J4 (0) (32) (32) (K 38 _ O) (B 1 _ O) O O O O O bU bU O H,Zt⟩,O,O,O⟩) O (bx':=(b1 1)) O (n':=42) O (⟨O,_,R.cpV (gU 37 O) (Or.inr (gU 36 O)) (gU 3 O) bU bU (p8 (fun _=>rfl)) (SrcO.sc (SC.va (gU 39 O) (xU 1 O) O bU) (X5 (fun _=>rfl))) (fun y q=>YY (fun _=>rfl) y (List.mem_of_mem_drop (List.mem_of_mem_take q))) (nU O) dU ((by simp[hw2,hp5])) (show _=((put6 h).map D.u8) from(put6_map h hw)),tV (V1 3) (b1 1) 42 O O O ?_⟩);refine z7 2 (y2 41 2) [(0,3),(1,41)] [(0,3),(1,41)] (V1 2) ⟨aU fun _ _ H K=>G3 (K 3 _ O) O H dU,aU<|zO O O O,Zt⟩ O O (tU O ?_);refine W.ret ?_;exact Ends.one' (.inr O) O (by rw[put_eq h hw]) O O Zt
theorem hid_ok(h:HdS)(hw:h.wf):Fn Tryd.prog gl 64 [d7 h] (z5 (YW h)):=by
 refine Fn.of (n:=6) Tryd.func64 rfl rfl rfl (nU rfl) fun C hC hD=>?_;refine z7 2 [] [] [] (V1 0) Zt O O (⟨O,_,R.box (gV 0 O) O O (nU O),(o0 O O (tV (V2 1 2) (b2 2 1) 6 O O O ?_))⟩);refine z7 4 (y3 3 4 5) [] [] (V2 2 5) ⟨aU (lU 1 O O O O O O O),aU<|zC hC (hput_ok h hw) O O O (F1 (.sl _ _ _ (u2 fun _=>.u8 _))) O,aU fun _ _ H K=>j5 hC (UC (l3 h) (by rw[DT h hw];decide)) (Bc (Bor.sc (SC.sl (K 4 _ O)) (j9 (fun _=>rfl))) Bn) (F1 (d9 _)) H,Zt⟩ O O (m1 O O O O O (tV (V1 2) (b2 2 1) 6 O O O ?_));refine W.ret ?_;exact Ends.one' (.inr O) O (O) O O (show LdT _ 26 32 true from inferInstance)
end Go.Sx

namespace Go.Sx
open Go.Proofs
theorem join_ok(a b:Hs)(hx:a.length=32)(hy:b.length=32):Fn Tryd.prog gl 109 [z5 a,z5 b] (z5 (p7 a b)):=by
 refine Fn.of (n:=14) Tryd.func109 rfl rfl rfl (nU rfl) fun C hC hD=>?_;refine z7 3 [] [] [] (V2 0 1) Zt O O (⟨O,_,R.box (gV 0 O) O O (nU O),⟨O,_,R.box (gV 1 O) O O (nU O),(o0 O O (tV (V3 2 3 4) (b3 4 3 2) 14 O O O ?_))⟩⟩);refine z7 1 [] [] [] (V3 2 3 4) Zt O O (o0 O O (tV (V4 2 3 4 5) (b4 5 4 3 2) 14 O O O ?_));refine W.seq ?_;refine w7 (m:=2) (an:=[0,0,3]) hP dU O (its:=[.y 6 _,.y 7 _]) (ks:=[]) (kk:=[]) (live:=[3,4,5,6,7]) (env':=(V5 3 4 5 6 7)) (⟨nU O,O,⟨aU fun _ B H K=>J4 (0) (64) (64) (K 5 _ O) (B 5 _ O) O O O O O bU bU O H,aU fun _ B H K=>J4 (0) (32) (32) (K 2 _ O) (B 2 _ O) O O O O O bU bU O H,Zt⟩,O,O,O⟩) O (bx':=(b4 5 4 3 2)) O (n':=14) O (⟨O,_,IR (k:=32) (l2:=((a++List.replicate 32 0).map D.u8)) (gU 6 O) (xU 5 O) O dU (SrcO.sc (SC.va (gU 7 O) (xU 2 O) O dU) (X5 (fun _=>rfl))) (fun y q=>YY (fun _=>rfl) y (List.mem_of_mem_drop (List.mem_of_mem_take q))) (nU O) (by simp[hx]) (both1 a hx) O,tV (V3 3 4 5) (b4 5 4 3 2) 14 O O O ?_⟩);refine W.seq ?_;refine w7 (m:=2) (an:=[0,0,3]) hP dU O (its:=[.y 9 _,.y 10 _]) (ks:=[]) (kk:=[]) (live:=[4,5,9,10]) (env':=(V4 4 5 9 10)) (⟨nU O,O,⟨aU fun _ B H K=>J4 (32) (64) ((64-32)) (K 5 _ O) (B 5 _ O) O (m2 (kI 32 O)) O O O bU bU O H,aU fun _ B H K=>J4 (0) (32) (32) (K 3 _ O) (B 3 _ O) O O O O O bU bU O H,Zt⟩,O,O,O⟩) O (bx':=(b4 5 4 3 2)) O (n':=14) O (⟨O,_,IR (k:=32) (l2:=((a++b).map D.u8)) (gU 9 O) (xU 5 O) O dU (SrcO.sc (SC.va (gU 10 O) (xU 3 O) O dU) (X5 (fun _=>rfl))) (fun y q=>YY (fun _=>rfl) y (List.mem_of_mem_drop (List.mem_of_mem_take q))) (nU O) (by simp[hy]) (both2 a b hx hy) O,tV (V2 4 5) (b4 5 4 3 2) 14 O O O ?_⟩);refine z7 3 (y2 12 13) [] [] (V2 4 13) ⟨aU fun _ B H K=>J4 (0) (64) (64) (K 5 _ O) (B 5 _ O) O O O O O bU bU O H,aU fun _ B H K=>j5 hC (UC (a++b) (by simp only[List.length_append,hx,hy];decide)) (Bc (Bor.sc (SC.va (K 12 _ O) (B 5 _ O) O dU) (XV (fun _=>rfl) (by simp only[List.length_append,hx,hy]))) Bn) (F1 (d9 _)) H,Zt⟩ O O (m1 O O O O O (tV (V1 4) (b4 5 4 3 2) 14 O O O ?_));refine W.ret ?_;exact Ends.one' (.inr O) O (O) O O (show LdT _ 26 32 true from inferInstance)
theorem rows_ok(l:List Hs):Fn Tryd.prog gl 91 [.sl none 32 (l.map z5)] (.fn 108 [.rp (.sl none 32 (l.map z5))]):=by
 refine Fn.of (n:=4) Tryd.func91 rfl rfl rfl (nU rfl) fun C hC hD=>?_;refine z7 2 [] [] [] (V1 0) Zt O O (⟨O,_,R.box (gV 0 O) O O (nU O),⟨O,_,v3 (kW (.nilFunc) (.nilf) O) O (nU O),tV (V1 1) (b1 1) 4 O O O ?_⟩⟩);refine W.seq ?_;refine W.frzB 1 [] (d':=.sl none 32 (l.map z5)) (bx':=[]) O (IN _ _ _) O O O O O O (j7 hD O) ?_;refine j1 2 (y2 3 2) (V1 2) ⟨aU fun _ _ H K=>R.mkfn1 (eU K 1 O) O O H,aU<|zA O O O,Zt⟩ O O O O ?_;refine W.ret ?_;exact Ends.one' (.inr O) O (O) O O Zt
theorem rows_itr(l:List Hs)(hl:allH l)(hl0:l.length<=1000):Itr Tryd.prog gl 108 [.rp (.sl none 32 (l.map z5))] ((List.range (Q9 l.length)).map fun k=>.sl none 32 ((n7 p7 l k).map z5)):=by
 refine Itr.of (n:=43) Tryd.func108 rfl rfl rfl rfl (nU rfl) fun G Y lo hY hyl=>?_;refine V.scope ?_;refine V.seq ?_;refine V.of fun C hC hD=>?_;refine j1 2 (y2 6 3) (V2 0 3) ⟨aU fun _ _ H K=>R.ldR (eU K 1 O) O O O H,aU<|zA O O O,Zt⟩ O O O O ?_;refine V.seq ?_;refine V.label ?_;refine V.block ?_;refine V.loop (α:={q__:Nat//q__+Q9 (n7 p7 l q__).length=Q9 l.length}) (fun q__=>((q__.1,false),(⟨43,[(0,.yld lo),(3,.sl none 32 ((n7 p7 l q__.1).map z5))],[]⟩:Sg))) (fun q__=>Q9 l.length-q__.1) ⟨(0),(by show 0+_=_;rw[Nat.zero_add];rfl)⟩ rfl ?_;rintro ⟨k,hk⟩;show V _ _ _ _ _ ((k,false),(⟨43,[(0,.yld lo),(3,.sl none 32 ((n7 p7 l k).map z5))],[]⟩:Sg));have hrl:=QM p7 l k;have hle:=BO l.length k;have hra:=QN DL hl k;have hk:k+Q9 (n7 p7 l k).length=Q9 l.length:=hk;refine V.seq ?_;refine V.of fun C hC hD=>?_;refine z6 3 (y3 7 8 9) (V3 0 3 9) ⟨mU 3 O O,aU<|zN O (lN _) O,aU<|HQ 0 O O O,Zt⟩ O O O O ?_;refine z9 O (fun hc9=>?_) (fun hc9=>?_)
 ·refine W.skip ?_;refine V.block ?_;refine V.seq ?_;refine V.seq ?_;refine V.region ?_;refine VL.step rfl (fun C hC=>R.mov (gV 0 rfl) rfl (nU rfl)) ?_;refine VL.step rfl (fun C hC=>R.mov (gV 3 rfl) rfl (nU rfl)) ?_;refine VL.yield hY hyl (gU 10 rfl) (gV 11 rfl) rfl rfl (by rw[List.length_map,List.length_range];have:=KC (n:=(n7 p7 l k).length) (by omega);omega) (by rw[List.getElem_map,List.getElem_range]) (nU rfl) (fun s__=>?_);cases s__
  ·refine VL.step rfl (fun C hC=>R.un (gV 12 rfl) rfl (nU rfl)) ?_;refine VL.step rfl (fun C hC=>R.mov (gV 13 rfl) rfl (nU rfl)) ?_;refine P4 ⟨_,14,rfl,rfl,.inl ⟨_,rfl,gw (v:=false) (rfl) rfl⟩⟩ (fun C hC=>R.mov (gV 3 rfl) rfl (nU rfl)) ?_;refine P4 ⟨_,14,rfl,rfl,.inl ⟨_,rfl,gw (v:=false) (rfl) rfl⟩⟩ (fun C hC=>GI (SC.sl (gU 15 rfl)) (lN _) (nU rfl)) ?_;refine P4 ⟨_,14,rfl,rfl,.inl ⟨_,rfl,gw (v:=false) (rfl) rfl⟩⟩ (fun C hC=>R.eqlN ((n7 p7 l k).length) (1) (gV 16 rfl) (kI 1 rfl) (nU rfl)) ?_;refine VL.step rfl (fun C hC=>UJ (gV 14 rfl) (rfl) (gV 17 rfl) rfl (nU rfl)) ?_;refine VL.nil ?_;refine M8 (live:=[0,3,18]) (env':=[(0,_),(3,_),(18,_)]) (bx':=[]) (n':=43) rfl rfl rfl ?_;refine V.of fun C hC hD=>?_;refine z9 O (fun hc18=>?_) (fun hc18=>?_)
   ·refine W.exit ?_;exact⟨fun _ h=>(by cases h),.inl rfl,.inr (by rw[List.length_map,List.length_range];show k+1=_;rw[show(n7 p7 l k).length=1 by omega,XB] at hk;omega)⟩
   ·refine W.skip ?_;refine V.of fun C hC hD=>?_;refine z6 1 (y1 4) (V3 0 3 4) ⟨aU<|zK (kN O) O O,Zt⟩ O O O O ?_;refine W.seq (z6 1 (y1 5) (V4 0 3 4 5) ⟨aU<|zK (kI 0 O) O O,Zt⟩ O O O O ?_);refine W.block ?_;refine Q7 (s:=4) 26 32 O ?_;refine W.loop (α:={q__:Nat//q__<=((n7 p7 l k).length+1)/2}) (fun q__=>⟨43,[(0,.yld lo),(3,.sl none 32 ((n7 p7 l k).map z5)),(4,.sl (some 26) 32 ((upI p7 (n7 p7 l k) q__.1).map z5)),(5,.int ((2*q__.1:Nat):Int))],[]⟩) (fun q__=>((n7 p7 l k).length+1)/2-q__.1) ⟨(0),bU⟩ O ?_;rintro ⟨i,hi⟩;show W _ _ _ _ ⟨43,[(0,.yld lo),(3,.sl none 32 ((n7 p7 l k).map z5)),(4,.sl (some 26) 32 ((upI p7 (n7 p7 l k) i).map z5)),(5,.int ((2*i:Nat):Int))],[]⟩;have hul:=CS p7 (n7 p7 l k) i;refine W.seq (z6 4 (y4 19 20 21 22) (V5 0 3 4 5 22) ⟨mU 5 O O,mU 3 O O,aU<|zN O (lN _) O,aU<|zS O O O,Zt⟩ O O O O ?_);refine z9 O (fun hc22=>?_) (fun hc22=>?_)
    ·refine W.skip (W.seq (W.block ?_));refine w7 (m:=18) (an:=[0,0,0,6,14,0,0,64,0,256,768,1984,4064,8160,16382,32766,65535,131071]) hP dU O (its:=[.y 25 _,.y 26 _,.y 27 _,.y 28 _,.y 29 _,.y 30 _,.y 31 _,.y 32 _,.y 33 _,.y 34 _,.y 35 _,.y 36 _,.y 37 _,.y 38 _,.y 39 _,.y 40 _,.y 41 _,.y 4 _]) (ks:=[(16,4),(17,41),(17,25)]) (kk:=[(16,4),(17,41)]) (live:=[0,3,4,5]) (env':=(V4 0 3 4 5)) (⟨nU O,O,⟨aU<|zM O O,mU 3 O O,mU 5 O O,aU<|zI (2*i) O O O bU O,aU<|zL O O (mG (n7 p7 l k)) O O O O O,mU 3 O O,mU 5 O O,aU<|m8 1 O O bU O,mU 3 O O,aU<|zN O (lN _) O,aU<|GW 1 O O bU bU O,aU fun _ _ H K=>R.minI (r:=((min (2*i+1) ((n7 p7 l k).length-1):Nat):Int)) (eU K 32 O) (eU K 35 O) bO H,aU<|zI (min (2*i+1) ((n7 p7 l k).length-1)) O O O bU O,aU<|zL O O (mG (n7 p7 l k)) O O O O O,aU<|zD hC (join_ok _ _ (hra.get bO) (hra.get bO)) O O O O O O (F1 (d9 _)) O,aU fun _ _ H K=>w9 (z:=32) (.cons (eU K 39 O) .nil) ⟨⟨O,O,O⟩,Zt⟩ O H dU,aU<|R5 O O O (g6 O) (R3) bU O,aU<|zO O O O,Zt⟩,O,O,O⟩) O (bx':=[]) O (n':=43) O (tV (V4 0 3 4 5) [] 43 O O O ?_);refine j1 3 (y3 23 24 5) (V4 0 3 4 5) ⟨mU 5 O O,aU<|m8 2 O O bU O,aU<|zA O O O,Zt⟩ O O O O ?_;exact⟨⟨(i+1),bU⟩,rfl,(by simp only[];omega)⟩
    ·obtain rfl:i=((n7 p7 l k).length+1)/2:=by omega
     refine W.exit ?_;refine PI (s:=4) (d':=.sl none 32 ((n7 p7 l (k+1)).map z5)) O O (IN _ _ _) ?_;refine j1 2 (y2 42 3) (V2 0 3) ⟨mU 4 O O,aU<|zA O O O,Zt⟩ O O O O ?_;exact⟨⟨(k+1),(by have h2:=XC (n:=(n7 p7 l k).length) (by omega);have h3:(n7 p7 l (k+1)).length=((n7 p7 l k).length+1)/2:=XQ _ _;rw[h2,<- h3] at hk;show k+1+_=_;omega)⟩,rfl,(by have:=KC (n:=(n7 p7 l k).length) (by omega);simp only[];omega)⟩
  ·refine VL.step rfl (fun C hC=>R.un (gV 12 rfl) rfl (nU rfl)) ?_;refine VL.step rfl (fun C hC=>R.mov (gV 13 rfl) rfl (nU rfl)) ?_;refine P3 ⟨_,14,rfl,rfl,.inl ⟨_,rfl,gw (v:=true) (rfl) rfl⟩⟩ rfl (nU rfl) ?_;refine P3 ⟨_,14,rfl,rfl,.inl ⟨_,rfl,gw (v:=true) (rfl) rfl⟩⟩ rfl (nU rfl) ?_;refine P3 ⟨_,14,rfl,rfl,.inl ⟨_,rfl,gw (v:=true) (rfl) rfl⟩⟩ rfl (nU rfl) ?_;refine VL.step rfl (fun C hC=>ZV (gV 14 rfl) (rfl) (kB true rfl) rfl (nU rfl)) ?_;refine VL.nil ?_;refine M8 (live:=[0,3,18]) (env':=[(0,_),(3,_),(18,_)]) (bx':=[]) (n':=43) rfl rfl rfl ?_;refine V.of fun C hC hD=>?_;refine d6 O (O) ?_;refine W.exit ?_;exact⟨fun _ h=>(by cases h),.inl rfl,.inl rfl⟩
 ·refine W.exit ?_;exact⟨fun _ h=>(by cases h),.inl rfl,.inr (by rw[List.length_map,List.length_range];show k=_;rw[show(n7 p7 l k).length=0 by omega,XP] at hk;omega)⟩
theorem LO(l:List Hs)(hl:allH l)(hl0:l.length<=1000):Fn Tryd.prog gl 65 [.sl none 32 (l.map z5)] (z5 (M1 p7 l)):=by
 refine Fn.ofR (n:=11) Tryd.func65 rfl rfl rfl (nU rfl) fun W0 G hgl=>?_;refine V.seq ?_;refine V.of fun C hC hD=>?_;refine c9 1 [] [] [] (V1 0) Zt O O (o0 O O (tV (V2 0 2) (b1 2) 11 O O O ?_));refine V.seq ?_;refine V.seq ?_;refine V.of fun C hC hD=>?_;refine j1 2 (y2 4 5) (V2 2 5) ⟨mU 0 O O,aU fun _ _ H K=>I6 hC (rows_ok l) (EvP.cons (eU K 4 O) O O EvP.nil) H,Zt⟩ O O O O ?_;refine V.block ?_;refine V.rangeE [2] (Q9 l.length) (fun k=>.sl none 32 ((n7 p7 l k).map z5)) (fun k=>[(2,.var (z5 (LA p7 l k)))]) (fun _ _=>False) (fun _=>True) hgl (rows_itr l hl hl0) rfl rfl rfl rfl (rfl) rfl ⟨v8 _,rfl,Zt⟩ (fun _=>⟨rfl,rfl⟩) (Zt) (fun k hk hJ C hC hD=>?_) ?_ ?_
 ·have hrl:=QM p7 l k;have hle:=BO l.length k;have hra:=QN DL hl k;have hrp:=NJ p7 l k hk;show W _ _ _ _ _;refine u3 (live:=[2,6]) (env':=(V2 2 6)) (bx':=(b1 2)) (n':=11) O O O ?_;refine j1 1 (y1 3) (V2 2 3) ⟨aU<|zA O O O,Zt⟩ O O O O ?_;refine⟨rfl,fun C hC hD=>?_⟩;refine W.block ?_;refine c9 4 (y3 7 8 9) [] [] (V2 2 9) ⟨mU 3 O O,aU fun _ _ H K=>R.idxN (0) (SC.sl (K 7 _ O)) (m2 (kI 0 O)) O bU H dU,aU<|zL O O (mG (n7 p7 l k)) O O O O O,Zt⟩ O O (m1 O O O O O (tV [] (b1 2) 11 O O O ?_));exact⟨.inl ⟨rfl,rfl,Zt⟩,⟨v8 _,rfl,Zt⟩⟩
 ·intro hJ;refine V.of fun C hC hD=>?_;refine z7 2 (y1 10) [] [] (V2 2 10) ⟨aU (lU 2 O O O O O O O),Zt⟩ O O (m1 O O O O O (tV (V1 2) (b1 2) 11 O O O ?_));refine W.ret ?_;exact Ends.one' (.inr O) O (O) O O (show LdT _ 26 32 true from inferInstance)
 ·exact fun e bx he hs=>hs.elim
end Go.Sx
