/- Own texts. -/
import Derived.Test.YtgilikgghknbhaaGreatDoorMLzT8
import Derived.Test.YtgilikgghknbhaaGreatDoorMSxBldO
import Derived.Test.YtgilikgghknbhaaGreatDoorMSxVal2
import Derived.Test.YtgilikgghknbhaaGreatDoorMLdTxDefs
import Derived.OpenShut
import Derived.Carry
import Derived.Deep.Slices
import Derived.Deep.DeepHandedRow
import Derived.Lib.LaidTab
set_option linter.unusedVariables false
set_option linter.unusedSimpArgs false
set_option linter.unnecessarySimpa false

namespace Go.Sx
open Go.Proofs
theorem x20(t:TxS)(hwf:t.wf)(br:List Hs)(k:Int)(hbr:allH br)(hb0:br.length<=1000)(hk0:-9223372036854775808<=k/\k<=9223372036854775807):FnB Tryz.prog gl 49 [.ptr 0 0 [],.ptr 1 0 [],.ptr 2 0 [],.ptr 3 0 [],.ptr 4 0 []] [(0,.var (D1 t)),(1,.var (z7 zero32)),(2,.var (.sl none 32 (br.map z7))),(3,.var (.int k)),(4,.var (z7 zero32))] (.int (Z0 X0 (LH t) br k).2) [(0,.var (D1 t)),(1,.var (z7 (LH t))),(2,.var (.sl none 32 (br.map z7))),(3,.var (.int k)),(4,.var (z7 (Z0 X0 (LH t) br k).1))] []:=by
 refine FnB.of (n:=16) (ids:=[0,1,2,3,4]) Tryz.func49 rfl rfl rfl (Nat.le_of_ble_eq_true rfl) fun C hC hD=>?_;refine W.seq ?_;refine D4 (n:=1) (by decide) (its:=[⟨5,_,true⟩]) (ks:=[]) (kk:=[]) (live:=[0,1,2,3,4]) (env':=[(0,_),(1,_),(2,_),(3,_),(4,_)])
  (⟨Nat.le_of_ble_eq_true rfl,rfl,
   ⟨⟨rfl,rfl,fun _ τ hb ht hτ=>j4 (show ev _ _ (.const (.int .i64 0))=some (.int ((0:Nat):Int)) from rfl) rfl ht⟩,
   trivial⟩,rfl,rfl,rfl⟩)
  rfl (bx':=[(0,.var _),(1,.var _),(2,.var _),(3,.var _),(4,.var _)]) rfl (n':=16) rfl (⟨[0,1,2,3,4],[(0,_),(1,_),(2,_),(3,_),(4,_)],[(0,.var _),(1,.var _),(2,.var _),(3,.var _),(4,.var _)],16,rfl,rfl,rfl, ?_⟩)
 refine W.seq ?_;refine D4 (n:=3) (by decide) (its:=[⟨6,_,true⟩,⟨7,_,true⟩]) (ks:=[]) (kk:=[]) (live:=[1,2,3,4,7]) (env':=[(1,_),(2,_),(3,_),(4,_),(7,_)])
  (⟨Nat.le_of_ble_eq_true rfl,rfl,
   ⟨⟨rfl,rfl,fun _ τ hb ht hτ=>R.ldP (hτ 0 _ rfl) (hb 0 _ rfl) rfl rfl rfl rfl ht⟩,
   ⟨⟨rfl,rfl,fun _ τ hb ht hτ=>w6 hC (w28 t hwf) (Bors.cons (Bor.pur (evt (hτ 6 _ rfl)) rfl rfl) Bors.nil) (FrsR.one (m4 _)) ht⟩,
   trivial⟩⟩,rfl,rfl,rfl⟩)
  rfl (bx':=[(0,.var _),(1,.var _),(2,.var _),(3,.var _),(4,.var _)]) rfl (n':=16) rfl (⟨rfl,_,Z7 (show Sg.get _ 1=some _ from rfl) (show Sg.box _ 1=some _ from rfl) rfl (evt (show Sg.get _ 7=some _ from rfl)) (by rfl) (by rfl) (by rfl) (by rfl) rfl,⟨[1,2,3,4],[(1,_),(2,_),(3,_),(4,_)],[(0,.var _),(1,.var _),(2,.var _),(3,.var _),(4,.var _)],16,rfl,rfl,rfl, ?_⟩⟩)
 refine W.seq ?_;refine D4 (n:=9) (by decide) (its:=[⟨9,_,true⟩,⟨10,_,true⟩,⟨11,_,true⟩,⟨12,_,true⟩,⟨8,_,true⟩,⟨13,_,true⟩,⟨14,_,true⟩]) (ks:=[]) (kk:=[]) (live:=[4,13,14]) (env':=[(4,_),(13,_),(14,_)])
  (⟨Nat.le_of_ble_eq_true rfl,rfl,
   ⟨⟨rfl,rfl,fun _ τ hb ht hτ=>R.ldP (hτ 1 _ rfl) (hb 1 _ rfl) rfl rfl rfl rfl ht⟩,
   ⟨⟨rfl,rfl,fun _ τ hb ht hτ=>R.ldP (hτ 2 _ rfl) (hb 2 _ rfl) rfl rfl rfl rfl ht⟩,
   ⟨⟨rfl,rfl,fun _ τ hb ht hτ=>R.ldP (hτ 3 _ rfl) (hb 3 _ rfl) rfl rfl rfl rfl ht⟩,
   ⟨⟨rfl,rfl,fun _ τ hb ht hτ=>Y5 hC (j22 (LH t) br k (by unfold LH;exact HZ _) hbr hb0 hk0) (EvP.cons (evt (hτ 9 _ rfl)) rfl rfl (EvP.cons (evt (hτ 10 _ rfl)) rfl rfl (EvP.cons (evt (hτ 11 _ rfl)) rfl rfl EvP.nil))) ht⟩,
   ⟨⟨rfl,rfl,fun _ τ hb ht hτ=>R.movT (hτ 12 _ rfl) rfl ht⟩,
   ⟨⟨rfl,rfl,fun _ τ hb ht hτ=>R.ext (hτ 8 _ rfl) rfl rfl ht⟩,
   ⟨⟨rfl,rfl,fun _ τ hb ht hτ=>R.ext (hτ 8 _ rfl) rfl rfl ht⟩,
   trivial⟩⟩⟩⟩⟩⟩⟩,rfl,rfl,rfl⟩)
  rfl (bx':=[(0,.var _),(1,.var _),(2,.var _),(3,.var _),(4,.var _)]) rfl (n':=16) rfl (⟨rfl,_,Z7 (show Sg.get _ 4=some _ from rfl) (show Sg.box _ 4=some _ from rfl) rfl (evt (show Sg.get _ 13=some _ from rfl)) (by rfl) (by rfl) (by rfl) (by rfl) rfl,⟨rfl,_,j4 (evt (show Sg.get _ 14=some _ from rfl)) rfl (Nat.le_of_ble_eq_true rfl),⟨[5],[(5,_)],[(0,.var _),(1,.var _),(2,.var _),(3,.var _),(4,.var _)],16,rfl,rfl,rfl, ?_⟩⟩⟩)
 refine W.seq ?_;refine D4 (n:=2) (by decide) (its:=[⟨15,_,true⟩,⟨5,_,true⟩]) (ks:=[]) (kk:=[]) (live:=[5]) (env':=[(5,_)])
  (⟨Nat.le_of_ble_eq_true rfl,rfl,
   ⟨⟨rfl,rfl,fun _ τ hb ht hτ=>R.mov (evt (hτ 5 _ rfl)) rfl ht⟩,
   ⟨⟨rfl,rfl,fun _ τ hb ht hτ=>j4 (evt (hτ 15 _ rfl)) rfl ht⟩,
   trivial⟩⟩,rfl,rfl,rfl⟩)
  rfl (bx':=[(0,.var _),(1,.var _),(2,.var _),(3,.var _),(4,.var _)]) rfl (n':=16) rfl (⟨[5],[(5,_)],[(0,.var _),(1,.var _),(2,.var _),(3,.var _),(4,.var _)],16,rfl,rfl,rfl, ?_⟩)
 refine W.ret ?_;exact u0 (.inr rfl) rfl (rfl) rfl trivial rfl rfl (rfl) ⟨rfl,⟨rfl,⟨rfl,⟨rfl,⟨rfl,trivial⟩⟩⟩⟩⟩ rfl
end Go.Sx

namespace Go.Sx
open Go.Proofs
theorem x09(x y:Hs):FnB Tryz.prog gl 52 [.ptr 0 0 [],.ptr 1 0 []] [(0,.var (z7 x)),(1,.var (z7 y))] (.int (if(x==y)=true then 0 else 15)) [(0,.var (z7 x)),(1,.var (z7 y))] []:=by
 refine FnB.of (n:=6) (ids:=[0,1]) Tryz.func52 rfl rfl rfl (nU rfl) fun C hC hD=>?_;refine q9 1 (y1 2) (V2 0 1) ⟨aU<|zK (kI 0 O) O O,Zt⟩ ?_;refine W.seq (q9 3 (y3 3 4 5) (V1 5) ⟨aU (lU 0 O O O O O O O),aU (lU 1 O O O O O O O),aU fun _ _ H K=>OU (eU K 3 O) (eU K 4 O) H,Zt⟩ ?_);refine W.cond O (fun hc5=>?_) (fun hc5=>?_)
 ·refine q9 1 (y1 2) (V1 2) ⟨aU<|zK (kI 15 O) O O,Zt⟩ ?_;refine W.ret ?_;exact u0 (.inr O) O (congrArg D.int (by simp_all)) O Zt O O (O) ⟨O,⟨O,Zt⟩⟩ O
 ·refine W.skip (q9 1 (y1 2) (V1 2) ⟨aU<|zK (kI 0 O) O O,Zt⟩ ?_);refine W.ret ?_;exact u0 (.inr O) O (congrArg D.int (by simp_all)) O Zt O O (O) ⟨O,⟨O,Zt⟩⟩ O
end Go.Sx

namespace Go.Sx
variable{P:Program}{C:Ctx}{σ:Sg}{a:Act}{w:World}{ρ:Nat->Nat}{Fe Fb:Nat->List Nat}
def PurY(z:Nat):List D->Prop
 | []=>True
 | d::r=>(d.pur=true/\d.sz=z)/\PurY z r
theorem PurY.sz{z:Nat}:∀ {l:List D},PurY z l->∀ x∈l,x.sz=z
 | [],_,x,h=>nomatch h
 | d::r,h,x,hx=>by
  rcases List.mem_cons.1 hx with rfl|hx
  ·exact h.1.2
  ·exact h.2.sz x hx
theorem q22{G L:Nat->Prop}{gl:List (Nat×D)}{z:Nat}(hv:∀ x d,ev gl σ x=some d->d.pur=true->∃ cs:List Value,(a.eval x).cells.toList=cs/\Rc w ρ G L true d cs []) :
 ∀ (ps:List (Nat×Operand)) (k:Nat) (ds:List D) (cs:Array Value),evs gl σ ps k=some ds->PurY z ds->(k+ds.length)*z<=cs.size ->
  ∃ out:Array Value,Instr.fill (fun i=>some (i*z,z)) cs (ps.map (fun p=>(p.1,a.eval p.2)))=some out/\out.size=cs.size/\out.toList.take (k*z)=cs.toList.take (k*z) /\
   ∀ i (h:i<ds.length),Rc w ρ G L true ds[i] ((out.toList.drop ((k+i)*z)).take z) []:=by
 intro ps
 induction ps with
 | nil=>
  intro k ds cs h hp hs;simp only[evs,Option.some.injEq] at h;subst h;exact⟨cs,rfl,rfl,rfl,fun i hi=>by simp at hi⟩
 | cons p ps ih=>
  intro k ds cs h hp hs;obtain⟨i0,x⟩:=p;simp only[evs] at h;by_cases hik:i0=k
  ·subst hik;simp only[Nat.beq_refl,cond_true] at h
   cases hx:ev gl σ x with
   | none=>rw[hx] at h;cases h
   | some d=>
    rw[hx] at h
    cases hr:evs gl σ ps (i0+1) with
    | none=>simp only[hr] at h;cases h
    | some ds'=>
     simp only[hr,Option.some.injEq] at h;subst h;obtain⟨⟨p1,p3⟩,p4⟩:=hp;obtain⟨xc,hxc,hrc⟩:=hv x d hx p1;have hlen:=hrc.len
     have hsz:(a.eval x).cells.size=z:=by rw[<- Array.length_toList,hxc,hlen,p3]
     have hkz:(i0+1)*z<=cs.size:=Nat.le_trans (Nat.mul_le_mul_right z (by simp)) hs;rw[Nat.add_mul,Nat.one_mul] at hkz;have hfold:=F9 cs xc (i0*z) 0 (by omega);simp only[Nat.add_zero] at hfold
     have hcs2:((a.eval x).cells.zipIdx.foldl (fun(c:Array Value) (p:Value×Nat)=>c.setIfInBounds (i0*z+p.2) p.1) cs).toList=cs.toList.take (i0*z)++xc++cs.toList.drop (i0*z+xc.length):=by
      rw[<- hfold,<- hxc,<- Array.foldl_toList];simp
     generalize hc2:((a.eval x).cells.zipIdx.foldl (fun(c:Array Value) (p:Value×Nat)=>c.setIfInBounds (i0*z+p.2) p.1) cs)=cs2 at hcs2
     have hs2:cs2.size=cs.size:=by
      have:=congrArg List.length hcs2;rw[U5 _ _ _ (by simp;omega)] at this;simpa using this
     obtain⟨out,q1,q2,q3,q4⟩:=ih (i0+1) ds' cs2 hr p4 (by rw[hs2];simp at hs ⊢;rw[show i0+1+ds'.length=i0+(ds'.length+1) by omega];exact hs)
     have hmid:(cs2.toList.drop (i0*z)).take z=xc:=by
      rw[hcs2,List.append_assoc,List.drop_left' (by simp;omega),List.take_append_of_le_length (by omega),List.take_of_length_le (by omega)]
     have q3':∀ j:Nat,(out.toList.take ((i0+1)*z))[j]? = (cs2.toList.take ((i0+1)*z))[j]?:=fun j=>by rw[q3]
     refine⟨out, ?_,q2.trans hs2, ?_,fun i hi=>?_⟩
     ·simp only[List.map_cons,Instr.fill]
      have hcond:¬ ((a.eval x).cells.size≠z∨i0*z+(a.eval x).cells.size>cs.size):=by rw[hsz];simp;omega
      simp only[ne_eq,Bool.or_eq_true,decide_eq_true_eq];rw[if_neg (by simpa using hcond)];rw[hc2];exact q1
     ·apply List.ext_getElem?;intro j;by_cases hj:j<i0*z
      ·have:=q3' j
       have hj2:j<(i0+1)*z:=by rw[Nat.add_mul];omega
       simp only[List.getElem?_take,hj2,if_true] at this;simp only[List.getElem?_take,hj,if_true,this,hcs2];rw[List.append_assoc,List.getElem?_append_left (by simp;omega),List.getElem?_take,if_pos hj]
      ·simp[List.getElem?_take,hj]
     ·cases i with
      | zero=>
       simp only[Nat.add_zero,List.getElem_cons_zero]
       have:(out.toList.drop (i0*z)).take z=(cs2.toList.drop (i0*z)).take z:=by
        apply List.ext_getElem?;intro j;by_cases hj:j<z
        ·have:=q3' (i0*z+j)
         have hj2:i0*z+j<(i0+1)*z:=by rw[Nat.add_mul];omega
         simp only[List.getElem?_take,hj2,if_true] at this;simp only[List.getElem?_take,hj,if_true,List.getElem?_drop,this]
        ·simp[List.getElem?_take,hj]
       rw[this,hmid];exact hrc
      | succ i=>
       have:=q4 i (by simpa using hi);rw[show i0+(i+1)=i0+1+i by omega];simpa using this
  ·rw[nbeq hik] at h;cases h
theorem k82(a:Act)(t:Nat)(v v':Value):(a.put (some t) v).put (some t) v'=a.put (some t) v':=by
 simp[Act.put]
theorem R.bslB{t e bytes k:Nat}{ps:List (Nat×Operand)}{ds:List D}{ty rt:TypeId}{pos:String}{aft:Array Edge}{g:Option (Nat×Bool)}[hT:SlT P ty e][hE:ElT P e 1 bytes]
 (hps:evs C.gl σ ps 0=some ds) (hp:PurY 1 ds) (hk:ds.length=k) (hid:σ.box t=none) (ht:t<σ.n) (h0:0<k) (hsm:k<=16777216) :
 OpS P C ⟨some t,.buildSlice ty k ps.toArray,rt,pos,aft,g⟩ σ (((σ.newB t (.var (.agg ds))).set t (.ptr t 0 [])).set t (.bs t 1 k k)):=by
 refine OpS.value fun a w ⟨ρ,Fe,Fb,st⟩=>?_;obtain⟨i,zv,hi,hsz,hby,hz,hzs,hpos,hone⟩:=hE.i;subst hk;obtain⟨out,q1,q2,q3,q4⟩:=q22 (w:=w) (ρ:=ρ) (z:=1) (fun x d h hp=>L9 st h hp) ps 0 ds ((Array.range (ds.length*1)).map (zv.cells[·%zv.cells.size]!)) hps hp (by simp);simp only[Nat.zero_add] at q4
 have hol:out.toList.length=ds.length:=by rw[Array.length_toList,q2];simp
 have hag:Rc w ρ (gd C Fe Fb) (fun id=>(σ.box id).isSome) true (.agg ds) out.toList []:=by
  have h:=Rc.agg (w:=w) (ρ:=ρ) (G:=gd C Fe Fb) (L:=fun id=>(σ.box id).isSome) (p:=true) ds out.toList (fun _=>[]) (by rw[hol,JE ds hp.sz,Nat.mul_one]) (fun k hk=>by
   have e1:offk ds k=k:=by have:=XK ds [] hp.sz k (by omega);rwa [List.append_nil,Nat.mul_one] at this
   have:=q4 k hk;rw[Nat.mul_one] at this;rw[e1,hp.sz _ (List.getElem_mem hk)]
   exact this)
  have hf:(List.range ds.length).flatMap (fun _=>([]:List Nat))=[]:=by simp
  rwa [hf] at h
 obtain⟨ρ1,Fe1,Fb1,st1⟩:=YU (e:=e) (cs:=out) st hid ht hag
 have hb1:((σ.newB t (.var (.agg ds))).set t (.ptr t 0 [])).box t=some (.var (.agg ds)):=by rw[KZ,A7,if_pos rfl]
 have hg1:((σ.newB t (.var (.agg ds))).set t (.ptr t 0 [])).get t=some (.ptr t 0 []):=by rw[m9,if_pos rfl]
 obtain⟨v,hv,hr⟩:=(z9 rfl).1 (st1.env _ _ hg1)
 have hv2:v=.pointer (some ⟨w.heap.size,0,none⟩):=by
  simp[Act.put,Array.getElem?_setIfInBounds] at hv;exact hv.2.symm
 subst hv2;simp only[VR,D.isAgg,Bool.false_eq_true,if_false] at hr;generalize Fe1 t=F1 at hr
 have hρ:ρ1 t=w.heap.size/\(((σ.newB t (.var (.agg ds))).set t (.ptr t 0 [])).box t).isSome=true:=by
  generalize hx:Value.pointer (some ⟨w.heap.size,0,none⟩)=x at hr
  cases hr with
  | ptr id off path hL=>simp at hx;exact⟨hx.symm,hL⟩
 have st2:=st1.put (t:=t) (d:=.bs t 1 ds.length ds.length) (v:=.slice (some ⟨w.heap.size,0,none⟩) ds.length ds.length) ht rfl (by
  simp only[VR,D.isAgg,Bool.false_eq_true,if_false];rw[<- hρ.1]
  exact .bs t 1 ds.length ds.length hρ.2 (Nat.le_refl _))
 rw[k82] at st2;refine⟨_,_, ?_,st2⟩;unfold execOp
 have hps2:(ps.toArray.map fun x=>(x.1,a.eval x.2)).toList=ps.map (fun p=>(p.1,a.eval p.2)):=by simp
 have h1:ds.length*1≠0:=by omega
 have hne:ds≠[]:=by rintro rfl;simp at h0
 simp only[Nat.mul_one] at q1;simp[Instr.buildSlice,hne,run_underlying hT.u,ElT.size (P:=P) (e:=e),h1,hps2,q1,newRow,newObj,Sem.run,zeroValue,typeInfo,hi,hz,show ¬ (16777216<ds.length) by omega]
end Go.Sx

namespace Go.Sx
open Go.Proofs
theorem j18{b:List UInt8}{t:TxS}(hb:b.length<=100000)(h:T3 b=some t):t.wf/\i7 t=true/\H8 t=b:=by
 cases k1:m0 b 4 with
 | none=>rw[x54 k1] at h;cases h
 | some q=>
  obtain⟨p,r⟩:=q;have hr:=K3 k1
  cases k2:W4 r with
  | none=>rw[x53 k1 k2] at h;cases h
  | some r1=>
   cases k3:U2 r1 with
   | none=>rw[z93 k1 k2 k3] at h;cases h
   | some q=>
    obtain⟨⟨ins,outs⟩,r2⟩:=q
    cases k4:KJ (Q9 r) ins r2 with
    | none=>rw[x52 k1 k2 k3 k4] at h;cases h
    | some q=>
     obtain⟨l,r3⟩:=q
     cases k5:m0 r3 4 with
     | none=>rw[z92 k1 k2 k3 k4 k5] at h;cases h
     | some q=>
      obtain⟨k,r4⟩:=q;rw[XC k1 k2 k3 k4 k5] at h;unfold EE at h;split at h
      ·rename_i hc;cases h;exact⟨L6 (by omega) k2 k3 k4,hc.2.1,hc.2.2⟩
      ·cases h
theorem ZC:zeroT.wf:=OO (by decide) (by intro x hx;cases hx)
theorem LB(b:List UInt8):(Q3 b=(zeroT,6)/\16384<b.length)∨(Q3 b=(zeroT,5)/\T3 b=none)∨∃ t,Q3 b=(t,0)/\T3 b=some t/\b.length<=16384:=by
 by_cases h:16384<b.length
 ·exact .inl ⟨LD h,h⟩
 ·cases hg:T3 b with
  | none=>exact .inr (.inl ⟨n8 h hg,rfl⟩)
  | some t=>exact .inr (.inr ⟨t,XD h hg,rfl,by omega⟩)
theorem NP{b:List UInt8}(hb:b.length<=100000):(Q3 b).1.wf:=by
 rcases LB b with ⟨h,_⟩|⟨h,_⟩|⟨t,h,hg,_⟩
 ·rw[h];exact ZC
 ·rw[h];exact ZC
 ·rw[h];exact(j18 hb hg).1
theorem q23(x:InS):ZQ x x=true:=by simp[ZQ,DN]
theorem LA(x:OutS):r9 x x=true:=by simp[r9]
theorem i5(t:TxS):E4 t t=true:=w04 rfl rfl rfl rfl (fun j _=>q23 _) (fun j _=>LA _)
@[irreducible] def CY (J:Hs->Hs->Hs) (T:List UInt8->Hs) (I:TxS->Hs) (root:Hs) (b:List UInt8) (br:List Hs) (k:Int):TxS×Hs×Int:=
 if(Q3 b).2=0 then
  if(Y1 T (Z1 (Q3 b).1)).2=0 then
   if(Z0 J (I (Q3 b).1) br k).2=0 then
    if(Z0 J (I (Q3 b).1) br k).1=root then((Q3 b).1,I (Q3 b).1,0) else(zeroT,zero32,15)
   else(zeroT,zero32,(Z0 J (I (Q3 b).1) br k).2)
  else(zeroT,zero32,(Y1 T (Z1 (Q3 b).1)).2)
 else(zeroT,zero32,(((Q3 b).2:Nat):Int))
section
variable{J:Hs->Hs->Hs}{T:List UInt8->Hs}{I:TxS->Hs}{root:Hs}{b:List UInt8}{br:List Hs}{k:Int}
theorem w70(h:(Q3 b).2≠0):CY J T I root b br k=(zeroT,zero32,(((Q3 b).2:Nat):Int)):=by unfold CY;rw[if_neg h]
theorem w69(h:(Q3 b).2=0)(h2:(Y1 T (Z1 (Q3 b).1)).2≠0):CY J T I root b br k=(zeroT,zero32,(Y1 T (Z1 (Q3 b).1)).2):=by unfold CY;rw[if_pos h,if_neg h2]
theorem w68(h:(Q3 b).2=0)(h2:(Y1 T (Z1 (Q3 b).1)).2=0)(h3:(Z0 J (I (Q3 b).1) br k).2≠0):CY J T I root b br k=(zeroT,zero32,(Z0 J (I (Q3 b).1) br k).2):=by
 unfold CY;rw[if_pos h,if_pos h2,if_neg h3]
theorem w67(h:(Q3 b).2=0)(h2:(Y1 T (Z1 (Q3 b).1)).2=0)(h3:(Z0 J (I (Q3 b).1) br k).2=0)(h4:(Z0 J (I (Q3 b).1) br k).1≠root):CY J T I root b br k=(zeroT,zero32,15):=by
 unfold CY;rw[if_pos h,if_pos h2,if_pos h3,if_neg h4]
theorem w66(h:(Q3 b).2=0)(h2:(Y1 T (Z1 (Q3 b).1)).2=0)(h3:(Z0 J (I (Q3 b).1) br k).2=0)(h4:(Z0 J (I (Q3 b).1) br k).1=root):CY J T I root b br k=((Q3 b).1,I (Q3 b).1,0):=by
 unfold CY;rw[if_pos h,if_pos h2,if_pos h3,if_pos h4]
end
section
variable{J:Hs->Hs->Hs}{T:List UInt8->Hs}{I:TxS->Hs}{root:Hs}{b:List UInt8}{br:List Hs}{k:Int}{t:TxS}{e:Nat}{l1 i f1:Hs}{l2 f2:Int}
theorem w22(hg:Q3 b=(t,e))(h:e≠0):CY J T I root b br k=(zeroT,zero32,((e:Nat):Int)):=by have:=w70 (J:=J) (T:=T) (I:=I) (root:=root) (br:=br) (k:=k) (b:=b) (by rw[hg];exact h);rw[hg] at this;exact this
theorem w21(hg:Q3 b=(t,e))(hl:Y1 T (Z1 t)=(l1,l2))(h:e=0)(h2:l2≠0):CY J T I root b br k=(zeroT,zero32,l2):=by
 have:=w69 (J:=J) (T:=T) (I:=I) (root:=root) (br:=br) (k:=k) (b:=b) (by rw[hg];exact h) (by rw[hg];simp only[];rw[hl];exact h2);rw[hg] at this;simp only[] at this;rw[hl] at this;exact this
theorem x25(hg:Q3 b=(t,e))(hl:Y1 T (Z1 t)=(l1,l2))(hi:I t=i)(hf:Z0 J i br k=(f1,f2))(h:e=0)(h2:l2=0)(h3:f2≠0):CY J T I root b br k=(zeroT,zero32,f2):=by
 have:=w68 (J:=J) (T:=T) (I:=I) (root:=root) (br:=br) (k:=k) (b:=b) (by rw[hg];exact h) (by rw[hg];simp only[];rw[hl];exact h2) (by rw[hg];simp only[];rw[hi,hf];exact h3);rw[hg] at this;simp only[] at this;rw[hi,hf] at this;exact this
theorem x24(hg:Q3 b=(t,e))(hl:Y1 T (Z1 t)=(l1,l2))(hi:I t=i)(hf:Z0 J i br k=(f1,f2))(h:e=0)(h2:l2=0)(h3:f2=0)(h4:f1≠root):CY J T I root b br k=(zeroT,zero32,15):=
 w67 (by rw[hg];exact h) (by rw[hg];simp only[];rw[hl];exact h2) (by rw[hg];simp only[];rw[hi,hf];exact h3) (by rw[hg];simp only[];rw[hi,hf];exact h4)
theorem x23(hg:Q3 b=(t,e))(hl:Y1 T (Z1 t)=(l1,l2))(hi:I t=i)(hf:Z0 J i br k=(f1,f2))(h:e=0)(h2:l2=0)(h3:f2=0)(h4:f1=root):CY J T I root b br k=(t,i,0):=by
 have:=w66 (J:=J) (T:=T) (I:=I) (root:=root) (br:=br) (k:=k) (b:=b) (by rw[hg];exact h) (by rw[hg];simp only[];rw[hl];exact h2) (by rw[hg];simp only[];rw[hi,hf];exact h3) (by rw[hg];simp only[];rw[hi,hf];exact h4);rw[hg] at this;simp only[] at this;rw[hi] at this;exact this
end
section
variable{b:List UInt8}{br:List Hs}{k:Int}{t:TxS}{e:Nat}{l1 i f1:Hs}{l2 f2:Int}
theorem w73(hb0:b.length<=100000)(hg:Q3 b=(t,e)):FnB Tryz.prog gl 44 [.ptr 0 0 [],.ptr 1 0 []] [(0,.var (.sl none 1 (b.map D.u8))),(1,.var (D1 zeroT))] (.int ((e:Nat):Int)) [(0,.var (.sl none 1 (b.map D.u8))),(1,.var (D1 t))] []:=by
 have:=x22 b hb0;rw[hg] at this;exact this
theorem w72(hwf:t.wf)(hl:Y1 Y8 (Z1 t)=(l1,l2)):FnB Tryz.prog gl 46 [.ptr 0 0 []] [(0,.var (D1 t))] (.int l2) [(0,.var (D1 t))] []:=by
 have:=x21 t hwf;rw[hl] at this;exact this
theorem w71(hwf:t.wf)(hbr:allH br)(hb0:br.length<=1000)(hk0:-9223372036854775808<=k/\k<=9223372036854775807)(hi:LH t=i)(hf:Z0 X0 i br k=(f1,f2)):FnB Tryz.prog gl 49 [.ptr 0 0 [],.ptr 1 0 [],.ptr 2 0 [],.ptr 3 0 [],.ptr 4 0 []]
 [(0,.var (D1 t)),(1,.var (z7 zero32)),(2,.var (.sl none 32 (br.map z7))),(3,.var (.int k)),(4,.var (z7 zero32))] (.int f2) [(0,.var (D1 t)),(1,.var (z7 i)),(2,.var (.sl none 32 (br.map z7))),(3,.var (.int k)),(4,.var (z7 f1))] []:=by
 have:=x20 t hwf br k hbr hb0 hk0;rw[hi,hf] at this;exact this
end
theorem w65:CY d9 D2 E9=CY X0 Y8 LH:=by
 have e1:D2=Y8:=funext fun b=>(MY b).symm;have e2:E9=LH:=funext SD;rw[<- x45,e1,e2]
abbrev IB:=CY X0 Y8 LH
abbrev k84:=CY d9 D2 E9
end Go.Sx

namespace Go.Sx
open Go.Proofs
theorem ZA(root:Hs)(b:List UInt8)(br:List Hs)(k:Int)(hro:root.length=32)(hb0:b.length<=100000)(hbr:allH br)(hb1:br.length<=1000)(hk0:-9223372036854775808<=k/\k<=9223372036854775807):Fn Tryz.prog gl 8 [z7 root,.sl none 1 (b.map D.u8),.sl none 32 (br.map z7),.int k] (.tup [D1 (IB root b br k).1,z7 (IB root b br k).2.1,.int (IB root b br k).2.2]):=by
 refine Fn.of (n:=37) Tryz.func8 rfl rfl rfl (nU rfl) fun C hC hD=>?_;refine W.seq ?_
 obtain⟨⟨t,e⟩,hg⟩:∃ g,Q3 b=g:=⟨_,rfl⟩
 have hwf:t.wf:=by have:=NP hb0;rw[hg] at this;exact this
 obtain⟨⟨l1,l2⟩,hl⟩:∃ g,Y1 Y8 (Z1 t)=g:=⟨_,rfl⟩
 obtain⟨i,hi⟩:∃ g,LH t=g:=⟨_,rfl⟩
 obtain⟨⟨f1,f2⟩,hf⟩:∃ g,Z0 X0 i br k=g:=⟨_,rfl⟩
 refine u4 7 [] [] [] (V4 0 1 2 3) Zt O O (⟨O,_,R.box (gV 0 O) O O (nU O),⟨O,_,R.box (gV 1 O) O O (nU O),⟨O,_,R.box (gV 2 O) O O (nU O),⟨O,_,R.box (gV 3 O) O O (nU O),(Q7 O O (Q7 O O ⟨O,_,j4 (kI 0 O) O (nU O),tV (V6 4 5 6 7 8 9) (OH 9 8 7 6 5 4) 37 O O O ?_⟩))⟩⟩⟩⟩);refine W.seq ?_;refine U3 8 (d':=D1 zeroT) (bx':=(OH 9 8 7 6 5 4)) O c5 O ?_;refine u4 1 [] [] [] (V6 4 5 6 7 8 9) Zt O O (Q7 O O (tV (V7 4 5 6 7 8 9 11) (j82 11 9 8 7 6 5 4) 37 O O O ?_));refine z5 6 (y4 16 17 18 19) [] [] (V6 8 9 16 17 18 19) ⟨aU fun _ _ H K=>OX (EvFs.cons (eU K 5 O) O O (EvFs.cons (eU K 8 O) O O EvFs.nil)) H,aU fun _ _ H K=>j54 (eU K 8 O) O O H,aU fun _ _ H K=>OX (EvFs.cons (eU K 8 O) O O (EvFs.cons (eU K 9 O) O O (EvFs.cons (eU K 6 O) O O (EvFs.cons (eU K 7 O) O O (EvFs.cons (eU K 11 O) O O EvFs.nil))))) H,aU fun _ _ H K=>OX (EvFs.cons (eU K 11 O) O O (EvFs.cons (eU K 4 O) O O EvFs.nil)) H,Zt⟩ O O (⟨O,_,R.bslB O ⟨⟨O,O⟩,⟨⟨O,O⟩,⟨⟨O,O⟩,⟨⟨O,O⟩,Zt⟩⟩⟩⟩ O O (nU O) dU dU,(P8 O O O (tV (V3 8 9 12) (FA 20 11 9 8 7 6 5 4) 37 O O O ?_))⟩);refine W.seq (q9 3 (y3 21 22 23) (V5 8 9 21 22 23) ⟨mU 12 O O,aU fun _ _ H K=>R.lenBs (K 21 _ O) H,aU<|OP (kI 0 O) O O,Zt⟩ ?_);refine W.block ?_;refine VH ?_;refine WU.step ?_;show W _ _ _ _ _;refine C6 (V5 8 9 21 22 23) (FA 20 11 9 8 7 6 5 4) 37 O O O ?_;refine q9 1 (y1 24) (V6 8 9 21 22 23 24) ⟨aU<|zS O O O,Zt⟩ ?_;refine W.seq ?_;refine u7 O (O) ?_;refine W.skip (W.seq (W.block (q9 3 (y3 25 26 14) (V6 8 9 14 21 22 23) ⟨aU fun _ _ H K=>R.idxBs (0) (K 21 _ O) (b4 (eU K 23 O)) O bU H,aU (lU 25 O O O O O O O),aU<|zA O O O,Zt⟩ ?_)));refine z5 3 (y1 27) [] [] (V6 8 9 21 22 23 27) ⟨mU 14 O O,Zt⟩ O O (⟨O,_,R.callVB (ds:=[]) (caps:=[.ptr 0 0 [],.ptr 1 0 []]) [(0,5),(1,8)] hC (gU 27 O) O O (w73 hb0 hg) EvB.nil O ⟨O,⟨O,Zt⟩⟩ ⟨O,⟨O,Zt⟩⟩ O O O O O O (nU O),(P8 O O O (tV (V6 8 9 15 21 22 23) (FA 20 11 9 8 7 6 5 4) 37 O O O ?_))⟩);refine q9 2 (y2 29 30) (V7 8 9 15 21 22 23 30) ⟨mU 15 O O,aU<|q47 0 O O O,Zt⟩ ?_;refine z6 O (fun hc30=>?_) (fun hc30=>?_)
 ·refine W.seq ?_;refine C6 (V3 8 9 15) (FA 20 11 9 8 7 6 5 4) 37 O O O ?_;refine b7 [8,9] (bx':=(p7 9 8)) O O O (g7 hD O) ?_;refine u4 6 (y3 31 32 33) [] [] (V5 8 9 31 32 33) ⟨aU fun _ _ H _=>c9 (l:=[.u32 0,.nils,.nils,.u32 0]) (l':=[_,_,_,_]) (.nil O) Zt H,aU fun _ _ H _=>R.bldAZ O H,mU 15 O O,Zt⟩ O O (d5 O O O O O (d5 O O O O O (P8 O O O (tV (V3 8 9 10) (p7 9 8) 37 O O O ?_))));refine U3 8 (d':=D1 zeroT) (bx':=(p7 9 8)) O c5 O ?_;refine W.ret ?_;exact Ends.many (.inr O) (.cons O O O (iL 31 4) (.cons O O O (iL 23 32) (.cons O O O Zt .nil))) (by rw[show IB root b br k=(zeroT,zero32,((e:Nat):Int)) from w22 hg hc30]<;>rfl) (show[(8,false),(9,false),(10,true)].Nodup by decide)
 ·refine W.skip ?_;refine z8 2 (y2 34 23) (V5 8 9 21 22 23) ⟨aU<|Q6 1 O O bU O,mU 34 O O,Zt⟩ ?_;refine WU.step ?_;show W _ _ _ _ _;refine C6 (V5 8 9 21 22 23) (FA 20 11 9 8 7 6 5 4) 37 O O O ?_;refine q9 1 (y1 24) (V6 8 9 21 22 23 24) ⟨aU<|zS O O O,Zt⟩ ?_;refine W.seq ?_;refine u7 O (O) ?_;refine W.skip (W.seq (W.block (q9 3 (y3 25 26 14) (V6 8 9 14 21 22 23) ⟨aU fun _ _ H K=>R.idxBs (1) (K 21 _ O) (b4 (eU K 23 O)) O bU H,aU (lU 25 O O O O O O O),aU<|zA O O O,Zt⟩ ?_)));refine W.seq ?_;have he1:=hc30;refine u4 3 (y1 27) [] [] (V6 8 9 21 22 23 27) ⟨mU 14 O O,Zt⟩ O O (⟨O,_,R.callVB (ds:=[]) (caps:=[.ptr 0 0 []]) [(0,8)] hC (gU 27 O) O O (w72 hwf hl) EvB.nil O ⟨O,Zt⟩ ⟨O,Zt⟩ O O O O O O (nU O),(P8 O O O (tV (V6 8 9 15 21 22 23) (FA 20 11 9 8 7 6 5 4) 37 O O O ?_))⟩);refine q9 2 (y2 29 30) (V7 8 9 15 21 22 23 30) ⟨mU 15 O O,aU<|B6 O (kI 0 O) O O,Zt⟩ ?_;refine W.cond O (fun hc30=>?_) (fun hc30=>?_)
  ·refine W.seq ?_;refine C6 (V3 8 9 15) (FA 20 11 9 8 7 6 5 4) 37 O O O ?_;refine b7 [8,9] (bx':=(p7 9 8)) O O O (g7 hD O) ?_;refine u4 6 (y3 31 32 33) [] [] (V5 8 9 31 32 33) ⟨aU fun _ _ H _=>c9 (l:=[.u32 0,.nils,.nils,.u32 0]) (l':=[_,_,_,_]) (.nil O) Zt H,aU fun _ _ H _=>R.bldAZ O H,mU 15 O O,Zt⟩ O O (d5 O O O O O (d5 O O O O O (P8 O O O (tV (V3 8 9 10) (p7 9 8) 37 O O O ?_))));refine U3 8 (d':=D1 zeroT) (bx':=(p7 9 8)) O c5 O ?_;refine W.ret ?_;exact Ends.many (.inr O) (.cons O O O (iL 31 4) (.cons O O O (iL 23 32) (.cons O O O Zt .nil))) (by rw[show IB root b br k=(zeroT,zero32,l2) from w21 hg hl (by simpa using he1) (by simpa using hc30)]<;>rfl) (show[(8,false),(9,false),(10,true)].Nodup by decide)
  ·refine W.skip ?_;refine z8 2 (y2 34 23) (V5 8 9 21 22 23) ⟨aU<|Q6 1 O O bU O,mU 34 O O,Zt⟩ ?_;refine WU.step ?_;show W _ _ _ _ _;refine C6 (V5 8 9 21 22 23) (FA 20 11 9 8 7 6 5 4) 37 O O O ?_;refine q9 1 (y1 24) (V6 8 9 21 22 23 24) ⟨aU<|zS O O O,Zt⟩ ?_;refine W.seq ?_;refine u7 O (O) ?_;refine W.skip (W.seq (W.block (q9 3 (y3 25 26 14) (V6 8 9 14 21 22 23) ⟨aU fun _ _ H K=>R.idxBs (2) (K 21 _ O) (b4 (eU K 23 O)) O bU H,aU (lU 25 O O O O O O O),aU<|zA O O O,Zt⟩ ?_)));refine W.seq ?_;have he2:=hc30;refine u4 3 (y1 27) [] [] (V6 8 9 21 22 23 27) ⟨mU 14 O O,Zt⟩ O O (⟨O,_,R.callVB (ds:=[]) (caps:=[.ptr 0 0 [],.ptr 1 0 [],.ptr 2 0 [],.ptr 3 0 [],.ptr 4 0 []]) [(0,8),(1,9),(2,6),(3,7),(4,11)] hC (gU 27 O) O O (w71 hwf hbr hb1 hk0 hi hf) EvB.nil O ⟨O,⟨O,⟨O,⟨O,⟨O,Zt⟩⟩⟩⟩⟩ ⟨O,⟨O,⟨O,⟨O,⟨O,Zt⟩⟩⟩⟩⟩ O O O O O O (nU O),(P8 O O O (tV (V6 8 9 15 21 22 23) (FA 20 11 9 8 7 6 5 4) 37 O O O ?_))⟩);refine q9 2 (y2 29 30) (V7 8 9 15 21 22 23 30) ⟨mU 15 O O,aU<|B6 O (kI 0 O) O O,Zt⟩ ?_;refine W.cond O (fun hc30=>?_) (fun hc30=>?_)
   ·refine W.seq ?_;refine C6 (V3 8 9 15) (FA 20 11 9 8 7 6 5 4) 37 O O O ?_;refine b7 [8,9] (bx':=(p7 9 8)) O O O (g7 hD O) ?_;refine u4 6 (y3 31 32 33) [] [] (V5 8 9 31 32 33) ⟨aU fun _ _ H _=>c9 (l:=[.u32 0,.nils,.nils,.u32 0]) (l':=[_,_,_,_]) (.nil O) Zt H,aU fun _ _ H _=>R.bldAZ O H,mU 15 O O,Zt⟩ O O (d5 O O O O O (d5 O O O O O (P8 O O O (tV (V3 8 9 10) (p7 9 8) 37 O O O ?_))));refine U3 8 (d':=D1 zeroT) (bx':=(p7 9 8)) O c5 O ?_;refine W.ret ?_;exact Ends.many (.inr O) (.cons O O O (iL 31 4) (.cons O O O (iL 23 32) (.cons O O O Zt .nil))) (by rw[show IB root b br k=(zeroT,zero32,f2) from x25 hg hl hi hf (by simpa using he1) (by simpa using he2) (by simpa using hc30)]<;>rfl) (show[(8,false),(9,false),(10,true)].Nodup by decide)
   ·refine W.skip ?_;refine z8 2 (y2 34 23) (V5 8 9 21 22 23) ⟨aU<|Q6 1 O O bU O,mU 34 O O,Zt⟩ ?_;refine WU.step ?_;show W _ _ _ _ _;refine C6 (V5 8 9 21 22 23) (FA 20 11 9 8 7 6 5 4) 37 O O O ?_;refine q9 1 (y1 24) (V6 8 9 21 22 23 24) ⟨aU<|zS O O O,Zt⟩ ?_;refine W.seq ?_;refine u7 O (O) ?_;refine W.skip (W.seq (W.block (q9 3 (y3 25 26 14) (V6 8 9 14 21 22 23) ⟨aU fun _ _ H K=>R.idxBs (3) (K 21 _ O) (b4 (eU K 23 O)) O bU H,aU (lU 25 O O O O O O O),aU<|zA O O O,Zt⟩ ?_)));refine W.seq ?_;have he3:=hc30;refine u4 3 (y1 27) [] [] (V6 8 9 21 22 23 27) ⟨mU 14 O O,Zt⟩ O O (⟨O,_,R.callVB (ds:=[]) (caps:=[.ptr 0 0 [],.ptr 1 0 []]) [(0,11),(1,4)] hC (gU 27 O) O O (x09 f1 root) EvB.nil O ⟨O,⟨O,Zt⟩⟩ ⟨O,⟨O,Zt⟩⟩ O O O O O O (nU O),(P8 O O O (tV (V6 8 9 15 21 22 23) (FA 20 11 9 8 7 6 5 4) 37 O O O ?_))⟩);refine q9 2 (y2 29 30) (V7 8 9 15 21 22 23 30) ⟨mU 15 O O,aU<|B6 O (kI 0 O) O O,Zt⟩ ?_;refine W.cond O (fun hc30=>?_) (fun hc30=>?_)
    ·refine W.seq ?_;refine C6 (V3 8 9 15) (FA 20 11 9 8 7 6 5 4) 37 O O O ?_;refine b7 [8,9] (bx':=(p7 9 8)) O O O (g7 hD O) ?_;refine u4 6 (y3 31 32 33) [] [] (V5 8 9 31 32 33) ⟨aU fun _ _ H _=>c9 (l:=[.u32 0,.nils,.nils,.u32 0]) (l':=[_,_,_,_]) (.nil O) Zt H,aU fun _ _ H _=>R.bldAZ O H,mU 15 O O,Zt⟩ O O (d5 O O O O O (d5 O O O O O (P8 O O O (tV (V3 8 9 10) (p7 9 8) 37 O O O ?_))));refine U3 8 (d':=D1 zeroT) (bx':=(p7 9 8)) O c5 O ?_;refine W.ret ?_;exact Ends.many (.inr O) (.cons O O O (iL 31 4) (.cons O O O (iL 23 32) (.cons O O O Zt .nil))) (by rw[show IB root b br k=(zeroT,zero32,15) from x24 hg hl hi hf (by simpa using he1) (by simpa using he2) (by simpa using he3) (by simpa using hc30),show(if(f1==root)=true then(0:Int) else 15)=15 from if_neg (by have hn:¬ f1=root:=(by simpa using hc30);simpa using hn)]<;>rfl) (show[(8,false),(9,false),(10,true)].Nodup by decide)
    ·refine W.skip ?_;refine z8 2 (y2 34 23) (V5 8 9 21 22 23) ⟨aU<|Q6 1 O O bU O,mU 34 O O,Zt⟩ ?_;refine WU.step ?_;show W _ _ _ _ _;refine C6 (V5 8 9 21 22 23) (FA 20 11 9 8 7 6 5 4) 37 O O O ?_;refine q9 1 (y1 24) (V6 8 9 21 22 23 24) ⟨aU<|zS O O O,Zt⟩ ?_;refine W.seq ?_;refine v4 O (O) ?_;refine W.exit (W.seq ?_);have he4:=hc30;refine U9 (m:=3) (an:=[0,0,1,7,15]) (its:=[.y 35 _,.y 36 _,⟨39,.dead,true⟩]) (ks:=[(2,39)]) (kk:=[]) (efs:=[(2,(p6 8))]) (live:=[8,9,36]) (env':=(V3 8 9 36)) (nd:=40) (bx1:=(FA 8 20 11 9 7 6 5 4)) hP dU O ⟨⟨47,O⟩,nU O,O,O,O,O⟩ (              ⟨⟨O,nU O,O,fun _ τ hb ht hτ=>R.ldP (hτ 8 _ O) (hb 8 _ O) O O O O ht⟩,⟨⟨O,nU O,O,fun _ τ hb ht hτ=>R.ldP (hτ 9 _ O) (hb 9 _ O) O O O O ht⟩,⟨⟨O,O,O,(JD (p:=8) (id:=8) O O O (fun τ hτ=>(evt (hτ 35 _ O))) (by rfl) (by rfl) (by rfl) (by rfl) O)⟩,Zt⟩⟩⟩) O O O (n':=37) O (d5 O O O O O ⟨O,_,j4 (kI 0 O) O (nU O),⟨[8,9,10],(V3 8 9 10),(FA 8 20 11 9 7 6 5 4),37,O,O,O, ?_⟩⟩);refine W.ret ?_;exact Ends.many (.inr O) (.cons O O O (iL 31 4) (.cons O O O (iL 23 32) (.cons O O O Zt .nil))) (by rw[show IB root b br k=(t,i,0) from x23 hg hl hi hf (by simpa using he1) (by simpa using he2) (by simpa using he3) (by simpa using he4)]<;>rfl) (show[(8,false),(9,false),(10,true)].Nodup by decide)
end Go.Sx

namespace Go.Sx
open Go.Proofs
theorem x05(b:List UInt8)(hb0:b.length<=100000){t:TxS}{e:Nat}(hg:Q3 b=(t,e)):Fn Tryz.prog gl 53 [.sl none 1 (b.map D.u8)] (.tup [D1 t,.int ((e:Nat):Int)]):=by
 have:=k78 b hb0;rw[hg] at this;exact this
theorem k77(t:TxS)(hwf:t.wf){l1:Hs}{l2:Int}(hl:Y1 D2 (Z1 t)=(l1,l2)):Fn Tryz.prog gl 54 [.sl none 1 ((Z1 t).map D.u8)] (.tup [z7 l1,.int l2]):=by
 have:=q97 (Z1 t) hwf.bareL;rw[hl] at this;exact this
theorem w12(t:TxS)(hwf:t.wf){i:Hs}(hi:E9 t=i):Fn Tryz.prog gl 56 [D1 t] (z7 i):=by
 have:=IH t hwf;rw[hi] at this;exact this
theorem k79{t:TxS}{i f1:Hs}{f2 k:Int}{br:List Hs}(hwf:t.wf)(hi:E9 t=i)(hf:Z0 d9 i br k=(f1,f2))(hbr:allH br)(hb0:br.length<=1000)(hk0:-9223372036854775808<=k/\k<=9223372036854775807) :
 Fn Tryz.prog gl 57 [z7 i,.sl none 32 (br.map z7),.int k] (.tup [z7 f1,.int f2]):=by
 have:=q98 i br k (by rw[<- hi];exact HC t) hbr hb0 hk0;rw[hf] at this;exact this
end Go.Sx

namespace Go.Sx
open Go.Proofs
theorem AG(root:Hs)(b:List UInt8)(br:List Hs)(k:Int)(hro:root.length=32)(hb0:b.length<=100000)(hbr:allH br)(hb1:br.length<=1000)(hk0:-9223372036854775808<=k/\k<=9223372036854775807):Fn Tryz.prog gl 9 [z7 root,.sl none 1 (b.map D.u8),.sl none 32 (br.map z7),.int k] (.tup [D1 (k84 root b br k).1,z7 (k84 root b br k).2.1,.int (k84 root b br k).2.2]):=by
 refine Fn.of (n:=58) Tryz.func9 rfl rfl rfl (nU rfl) fun C hC hD=>?_;refine W.seq ?_
 obtain⟨⟨t,e⟩,hg⟩:∃ g,Q3 b=g:=⟨_,rfl⟩
 have hwf:t.wf:=by have:=NP hb0;rw[hg] at this;exact this
 have hge:=hg
 obtain⟨⟨l1,l2⟩,hl⟩:∃ g,Y1 D2 (Z1 t)=g:=⟨_,rfl⟩
 obtain⟨i,hi⟩:∃ g,E9 t=g:=⟨_,rfl⟩
 obtain⟨⟨f1,f2⟩,hf⟩:∃ g,Z0 d9 i br k=g:=⟨_,rfl⟩
 refine u4 4 [] [] [] (V4 0 1 2 3) Zt O O (⟨O,_,R.box (gV 0 O) O O (nU O),(Q7 O O (Q7 O O ⟨O,_,j4 (kI 0 O) O (nU O),tV (V6 1 2 3 4 8 9) (d7 9 8 4) 58 O O O ?_⟩))⟩);refine W.seq ?_;refine U3 8 (d':=D1 zeroT) (bx':=(d7 9 8 4)) O c5 O ?_;refine u4 1 [] [] [] (V6 1 2 3 4 8 9) Zt O O (Q7 O O (tV (V7 1 2 3 4 8 9 11) (T6 11 9 8 4) 58 O O O ?_));refine W.seq ?_;refine U3 11 (d':=D1 zeroT) (bx':=(T6 11 9 8 4)) O c5 O ?_;refine u4 8 (y5 17 18 16 19 20) [] [] (V8 2 3 4 8 9 11 19 20) ⟨mU 1 O O,aU fun _ _ H K=>Y5 hC (x05 b hb0 hg) (EvP.cons (eU K 17 O) O O EvP.nil) H,aU<|zY O O O,aU<|zX O O O O,aU<|zX O O O O,Zt⟩ O O (Q7 O O (d5 O O O O O (P8 O O O (tV (V8 2 3 4 8 9 11 12 13) (CU 12 11 9 8 4) 58 O O O ?_))));refine W.seq (q9 2 (y2 21 22) (V9 2 3 4 8 9 11 12 13 22) ⟨mU 13 O O,aU<|q47 0 O O O,Zt⟩ ?_);refine z6 O (fun hc22=>?_) (fun hc22=>?_)
 ·refine z5 6 (y3 23 24 25) [] [] (V5 8 9 23 24 25) ⟨aU (lU 11 O O O O O O O),aU fun _ _ H _=>R.bldAZ O H,mU 13 O O,Zt⟩ O O (d5 O O O O O (d5 O O O O O (P8 O O O (tV (V3 8 9 10) (CU 12 11 9 8 4) 58 O O O ?_))));refine W.ret ?_;exact Ends.many (.inr O) (.cons O O O (iL 31 4) (.cons O O O (iL 23 32) (.cons O O O Zt .nil))) (by rw[show k84 root b br k=(zeroT,zero32,((e:Nat):Int)) from w22 hg hc22]<;>rfl) (show[(8,false),(9,false),(10,true)].Nodup by decide)
 ·refine W.skip (q9 7 (y7 27 28 29 26 30 31 13) (V8 2 3 4 8 9 11 12 13) ⟨aU (lU 12 O O O O O O O),aU<|zC hC (HB t hwf) O O O (F1 (.sl _ _ _ (j6 fun _=>.u8 _))) O,aU fun _ _ H K=>w6 hC (k77 t hwf hl) (Bc (Bor.sc (SC.sl (K 28 _ O)) (j2 (fun _=>rfl))) Bn) (FrsR.two (J0 _) (.int _)) H,aU<|zY O O O,aU<|zX O O O O,aU<|zX O O O O,aU<|zA O O O,Zt⟩ ?_);refine W.seq (q9 2 (y2 32 33) (V9 2 3 4 8 9 11 12 13 33) ⟨mU 13 O O,aU<|B6 O (kI 0 O) O O,Zt⟩ ?_);refine W.cond O (fun hc33=>?_) (fun hc33=>?_)
  ·refine z5 6 (y3 34 35 36) [] [] (V5 8 9 34 35 36) ⟨aU (lU 11 O O O O O O O),aU fun _ _ H _=>R.bldAZ O H,mU 13 O O,Zt⟩ O O (d5 O O O O O (d5 O O O O O (P8 O O O (tV (V3 8 9 10) (CU 12 11 9 8 4) 58 O O O ?_))));refine W.ret ?_;exact Ends.many (.inr O) (.cons O O O (iL 31 4) (.cons O O O (iL 23 32) (.cons O O O Zt .nil))) (by rw[show k84 root b br k=(zeroT,zero32,l2) from w21 hg hl (by simpa using hc22) (by simpa using hc33)]<;>rfl) (show[(8,false),(9,false),(10,true)].Nodup by decide)
  ·refine W.skip (z5 4 (y2 37 38) [] [] (V8 2 3 4 8 9 11 12 38) ⟨aU (lU 12 O O O O O O O),aU<|zC hC (w12 t hwf hi) O O O (F1 (m4 _)) O,Zt⟩ O O (Q7 O O (d5 O O O O O (tV (V8 2 3 4 8 9 11 12 14) (OH 14 12 11 9 8 4) 58 O O O ?_))));refine z5 10 (y7 40 41 42 43 39 44 45) [] [] (V8 4 8 9 11 12 14 44 45) ⟨aU (lU 14 O O O O O O O),mU 2 O O,mU 3 O O,aU fun _ _ H K=>Y5 hC (k79 hwf hi hf hbr hb1 hk0) (EvP.cons (eU K 40 O) O O (EvP.cons (eU K 41 O) O O (EvP.cons (eU K 42 O) O O EvP.nil))) H,aU<|zY O O O,aU<|zX O O O O,aU<|zX O O O O,Zt⟩ O O (Q7 O O (d5 O O O O O (P8 O O O (tV (V8 4 8 9 11 12 13 14 15) (j82 15 14 12 11 9 8 4) 58 O O O ?_))));refine W.seq (q9 2 (y2 46 47) (V9 4 8 9 11 12 13 14 15 47) ⟨mU 13 O O,aU<|B6 O (kI 0 O) O O,Zt⟩ ?_);refine W.cond O (fun hc47=>?_) (fun hc47=>?_)
   ·refine z5 6 (y3 48 49 50) [] [] (V5 8 9 48 49 50) ⟨aU (lU 11 O O O O O O O),aU fun _ _ H _=>R.bldAZ O H,mU 13 O O,Zt⟩ O O (d5 O O O O O (d5 O O O O O (P8 O O O (tV (V3 8 9 10) (j82 15 14 12 11 9 8 4) 58 O O O ?_))));refine W.ret ?_;exact Ends.many (.inr O) (.cons O O O (iL 31 4) (.cons O O O (iL 23 32) (.cons O O O Zt .nil))) (by rw[show k84 root b br k=(zeroT,zero32,f2) from x25 hg hl hi hf (by simpa using hc22) (by simpa using hc33) (by simpa using hc47)]<;>rfl) (show[(8,false),(9,false),(10,true)].Nodup by decide)
   ·refine W.skip (W.seq (q9 3 (y3 51 52 53) (V6 8 9 11 12 14 53) ⟨aU (lU 15 O O O O O O O),aU (lU 4 O O O O O O O),aU fun _ _ H K=>OU (eU K 51 O) (eU K 52 O) H,Zt⟩ ?_));refine W.cond O (fun hc53=>?_) (fun hc53=>?_)
    ·refine z5 5 (y2 54 55) [] [] (V4 8 9 54 55) ⟨aU (lU 11 O O O O O O O),aU fun _ _ H _=>R.bldAZ O H,Zt⟩ O O (d5 O O O O O (d5 O O O O O ⟨O,_,j4 (kI 15 O) O (nU O),tV (V3 8 9 10) (j82 15 14 12 11 9 8 4) 58 O O O ?_⟩));refine W.ret ?_;exact Ends.many (.inr O) (.cons O O O (iL 31 4) (.cons O O O (iL 23 32) (.cons O O O Zt .nil))) (by rw[show k84 root b br k=(zeroT,zero32,15) from x24 hg hl hi hf (by simpa using hc22) (by simpa using hc33) (by simpa using hc47) (by simpa using hc53)]<;>rfl) (show[(8,false),(9,false),(10,true)].Nodup by decide)
    ·refine W.skip (W.seq ?_);refine U9 (m:=3) (an:=[0,0,1,7,15]) (its:=[.y 56 _,.y 57 _,⟨60,.dead,true⟩]) (ks:=[(2,60)]) (kk:=[]) (efs:=[(2,(p6 8))]) (live:=[8,9,57]) (env':=(V3 8 9 57)) (nd:=40) (bx1:=(j82 8 15 14 12 11 9 4)) hP dU O ⟨⟨68,O⟩,nU O,O,O,O,O⟩ (              ⟨⟨O,nU O,O,fun _ τ hb ht hτ=>R.ldP (hτ 12 _ O) (hb 12 _ O) O O O O ht⟩,⟨⟨O,nU O,O,fun _ τ hb ht hτ=>R.ldP (hτ 14 _ O) (hb 14 _ O) O O O O ht⟩,⟨⟨O,O,O,(JD (p:=8) (id:=8) O O O (fun τ hτ=>(evt (hτ 56 _ O))) (by rfl) (by rfl) (by rfl) (by rfl) O)⟩,Zt⟩⟩⟩) O O O (n':=58) O (d5 O O O O O ⟨O,_,j4 (kI 0 O) O (nU O),⟨[8,9,10],(V3 8 9 10),(j82 8 15 14 12 11 9 4),58,O,O,O, ?_⟩⟩);refine W.ret ?_;exact Ends.many (.inr O) (.cons O O O (iL 31 4) (.cons O O O (iL 23 32) (.cons O O O Zt .nil))) (by rw[show k84 root b br k=(t,i,0) from x23 hg hl hi hf (by simpa using hc22) (by simpa using hc33) (by simpa using hc47) (by simpa using hc53)]<;>rfl) (show[(8,false),(9,false),(10,true)].Nodup by decide)
end Go.Sx

namespace Go.Sx
def k51:PlS:=⟨1,[],0⟩
def R9:Hs:=[231,155,213,129,128,172,12,181,29,207,96,119,66,81,24,204,218,33,184,163,212,8,183,133,94,163,218,41,212,96,191,191]
def w59:List UInt8:=[0,20,138,240,216,11,215,197,179,88,156,148,224,101,219,16,246,18,123,165,146,36]
def wkT1:TxS:=⟨1,[⟨zero32,4294967295,[1,0,0],0,[]⟩],[⟨5000,w59⟩],0⟩
def VT:BlkS:=⟨B4,[]⟩
def k52:BlkS:=⟨⟨1,[61,203,117,189,137,197,20,104,21,221,192,209,215,49,76,183,70,25,253,247,43,253,106,115,55,132,161,91,255,182,29,187],R9,1001,545259519,0⟩,[wkT1]⟩
theorem x91:r8 [VT] k51 0=(k52,true):=by kernel_rfl
end Go.Sx

namespace Go.Sx
end Go.Sx

namespace Go.Sx
def w33(p:PvS):Prop:=p.t.ins.length<=8/\p.t.outs.length<=8/\∀ j<p.t.outs.length,p.t.outs[j]!.script.length<=200
instance(p:PvS):Decidable (w33 p):=by unfold w33;infer_instance
end Go.Sx

namespace Go.Sx
def q77(s:SpS):D:=.agg [.u8 s.from_,.bool s.two,.sl (some 5) 1 (s.to.map .u8),.u8 s.part,.u8 s.extra]
def AP(x:PlS):D:=.agg [.u8 x.pays,.sl (some 117) 5 (x.spends.map q77),.u8 x.step]
theorem q31(s:SpS):(q77 s).brw=q78 s:=by
 simp only[q77,q78,D.brw,j7,List.map_cons,List.map_nil];rw[j2 (fun _=>rfl)]
theorem q33(x:PlS):(AP x).brw=BO x:=by
 simp only[AP,BO,D.brw,j7,List.map_cons,List.map_nil];rw[R1 q31]
theorem q32(l:List PlS):(D.sl (some 70) 3 (l.map AP)).brw=.sl none 3 (l.map BO):=by
 simp only[D.brw,j7];rw[R1 q33]
end Go.Sx

namespace Go.Sx
open Go.Proofs
end Go.Sx

namespace Go.Sx
def w97(x:InS):Nat->Nat
 | 0=>0
 | w+1=>w97 x w+x.wit[w]!.length
def w99(t:TxS):Nat->Nat
 | 0=>0
 | i+1=>w99 t i+t.ins[i]!.script.length+t.ins[i]!.wit.length+w97 t.ins[i]! t.ins[i]!.wit.length
def w98(t:TxS):Nat->Nat
 | 0=>w99 t t.ins.length
 | k+1=>w98 t k+t.outs[k]!.script.length
def x58(t:TxS):Prop:=t.ins.length<=8/\t.outs.length<=8/\w98 t t.outs.length<=1000
instance(t:TxS):Decidable (x58 t):=by unfold x58;infer_instance
def x59(b:BlkS):Prop:=b.txs.length<=12/\∀ k<b.txs.length,x58 b.txs[k]!
instance(b:BlkS):Decidable (x59 b):=by unfold x59;infer_instance
def w34(l:List BlkS):Prop:=l.length<=20/\∀ i<l.length,x59 l[i]!
instance(l:List BlkS):Decidable (w34 l):=by unfold w34;infer_instance
end Go.Sx

namespace Go.Sx
end Go.Sx

namespace Go.Sx
open Go.Proofs
end Go.Sx

namespace Go.Sx
open Go.Proofs
end Go.Sx

namespace Go.Sx
open Go.Proofs
end Go.Sx

namespace Go.Sx
open Go.Proofs
end Go.Sx

namespace Go.Sx
open Go.Proofs
end Go.Sx

namespace Go.Sx
open Go.Proofs
end Go.Sx

namespace Go.Sx
open Go.Proofs
end Go.Sx

namespace Go.Sx
open Go.Proofs
end Go.Sx

namespace Go.Sx
end Go.Sx

namespace Go.Sx
end Go.Sx

namespace Go.Sx
open Go.Proofs
end Go.Sx

namespace Go.Sx
open Go.Proofs
end Go.Sx

namespace Go.Sx
open Go.Proofs
end Go.Sx

namespace Go.Sx
open Go.Proofs
end Go.Sx

namespace Go.Sx
open Go.Proofs
end Go.Sx

namespace Go.Sx
open Go.Proofs
end Go.Sx

namespace Go.Sx
open Go.Proofs
end Go.Sx

namespace Go.Sx
open Go.Proofs
end Go.Sx

namespace Go.Sx
open Go.Proofs
end Go.Sx

namespace Go.Sx
open Go.Proofs
end Go.Sx

namespace Go.Sx
open Go.Proofs
end Go.Sx

namespace Go.Sx
open Go.Proofs
end Go.Sx

namespace Go.Sx
open Go.Proofs
end Go.Sx

namespace Go.Sx
open Go.Proofs
end Go.Sx

namespace Go.Sx
open Go.Proofs
end Go.Sx

namespace Go.Sx
open Go.Proofs
theorem NI(ps:List PlS)(hps:j79 ps):Fn Tryz.prog gl 14 [.agg [.u32 545259519,.int 10,.u32 10,.nils,m7 B4],.sl none 3 (ps.map BO)] (.sl (some 78) 69 ((q35 ps).map D3)):=by
 refine Fn.of (n:=41) Tryz.func14 rfl rfl rfl (nU rfl) fun C hC hD=>?_;refine z5 2 [] [] [] (V2 0 1) Zt O O (⟨O,_,R.box (gV 0 O) O O (nU O),⟨O,_,j4 (kN O) O (nU O),tV (V2 1 2) (p6 2) 41 O O O ?_⟩⟩);refine z5 5 (y5 9 10 11 12 5) [(4,12)] [(4,12)] (V3 1 2 5) ⟨aU (fU 2 O O),aU (lU 9 O O O O O O O),aU fun _ _ H K=>c9 (l:=[.agg [.u32 0,.arr 32 1 ((List.replicate 32 0).map D.u8),.arr 32 1 ((List.replicate 32 0).map D.u8),.u32 0,.u32 0,.u32 0],.nils]) (l':=[_,_]) (.cons (eU K 10 O) (.nil O)) ⟨⟨_,(eU K 10 O),O,O,O⟩,Zt⟩ H,aU fun _ _ H K=>w8 (z:=69) (.cons (eU K 11 O) .nil) ⟨⟨O,O,O⟩,Zt⟩ O H dU,aU<|zO O O O,Zt⟩ O O (tU O ?_);refine W.seq (W.seq ?_);refine w49 (s:=5) (d':=.sl (some 78) 69 ([(⟨B4,[]⟩:BlkS)].map D3)) O O O (k50 _) ?_;refine z8 1 (y1 6) (V4 1 2 5 6) ⟨aU<|zK (kI 0 O) O O,Zt⟩ ?_;refine W.block ?_;refine W.loop (α:={q__:Nat//q__<=min ps.length 14}) (fun q__=>⟨41,[(1,.sl none 3 (ps.map BO)),(2,.ptr 2 0 []),(5,.sl (some 78) 69 ((A8 ps q__.1).map D3)),(6,.int ((q__.1:Nat):Int))],[(2,.var (.agg [.u32 545259519,.int 10,.u32 10,.nils,m7 B4]))]⟩) (fun q__=>min ps.length 14-q__.1) ⟨(0),bU⟩ O ?_;rintro ⟨i,hi⟩;show W _ _ _ _ ⟨41,[(1,.sl none 3 (ps.map BO)),(2,.ptr 2 0 []),(5,.sl (some 78) 69 ((A8 ps i).map D3)),(6,.int ((i:Nat):Int))],[(2,.var (.agg [.u32 545259519,.int 10,.u32 10,.nils,m7 B4]))]⟩;have hi:i<=min ps.length 14:=hi;have hbl:=FU ps i (by omega);refine W.seq (W.seq ?_);by_cases h4:i<ps.length
 ·refine z8 8 (y8 13 14 15 16 17 18 19 20) (V5 1 2 5 6 20) ⟨mU 6 O O,mU 1 O O,aU<|zN O (lN _) O,aU<|zS O O O,mU 16 O O,aW O O (gT (dT h4) O)<|zV O O O,aW O O (gT (dT h4) O)<|KO 14 O O O,aU<|zT O (dT h4) O O O,Zt⟩ ?_;refine z6 O (fun hc20=>?_) (fun hc20=>?_)
  ·refine W.skip (W.seq (W.block (W.seq ?_)));refine U9 (m:=14) (an:=[0,0,0,0,12,28,0,64,255,511,1023,1023,0,6143,16383]) (its:=[.y 24 _,.y 25 _,.y 26 _,.y 27 _,.y 28 _,.y 29 _,.y 30 _,.y 31 _,.y 32 _,.y 23 _,.y 33 _,.y 34 _,.y 7 _,⟨54,.dead,true⟩]) (ks:=[(13,54)]) (kk:=[]) (efs:=[(12,(p6 7)),(13,(p6 7))]) (live:=[1,2,5,6,7,34]) (env':=(V6 1 2 5 6 7 34)) (nd:=40) (bx1:=(p7 7 2)) hP dU O ⟨⟨61,O⟩,nU O,O,O,O,O⟩ (          ⟨⟨O,nU O,O,fun _ τ hb ht hτ=>R.ldP (hτ 2 _ O) (hb 2 _ O) O O O O ht⟩,⟨⟨O,nU O,O,fun _ τ hb ht hτ=>R.al (hτ 5 _ O) ht dU⟩,⟨⟨O,nU O,O,fun _ τ hb ht hτ=>R.mov (evt (hτ 1 _ O)) O ht⟩,⟨⟨O,nU O,O,fun _ τ hb ht hτ=>R.mov (evt (hτ 6 _ O)) O ht⟩,⟨⟨O,nU O,O,fun _ τ hb ht hτ=>R.idxN (i) (SC.sl (hτ 26 _ O)) (b4 (evt (hτ 27 _ O))) O bU ht dU⟩,⟨⟨O,nU O,O,fun _ τ hb ht hτ=>R.ldE (hτ 28 _ O) (SC.sl (hτ 26 _ O)) (mG ps) O O O O ht⟩,⟨⟨O,nU O,O,fun _ τ hb ht hτ=>R.mov (evt (hτ 6 _ O)) O ht⟩,⟨⟨O,nU O,O,fun _ τ hb ht hτ=>Q5 (d:=.u32 (UInt32.ofNat i)) (evt (hτ 30 _ O)) O (k59 _) ht⟩,⟨⟨O,nU O,O,fun _ τ hb ht hτ=>R.callZ (r':=.tup [D3 (r8 (A8 ps i) ps[i]! (UInt32.ofNat i)).1,.bool (r8 (A8 ps i) ps[i]! (UInt32.ofNat i)).2]) (q16 (A8 ps i) ps[i]! (UInt32.ofNat i) hbl.1 hbl.2.1 bO (hps _ (m1 h4))) hC (Bc (Bp (evt (hτ 24 _ O)) O O) (Bc (Bor.sc (SC.al (hτ 25 _ O) (hτ 5 _ O)) (j2 FZ)) (Bc (Bp (evt (hτ 29 _ O)) O O) (Bc (Bp (evt (hτ 31 _ O)) O O) Bn)))) (z98 _ _) (k22 _ _) ht⟩,⟨⟨O,nU O,O,fun _ τ hb ht hτ=>R.movT (hτ 32 _ O) O ht⟩,⟨⟨O,nU O,O,fun _ τ hb ht hτ=>R.ext (hτ 23 _ O) O O ht⟩,⟨⟨O,nU O,O,fun _ τ hb ht hτ=>R.ext (hτ 23 _ O) O O ht⟩,⟨⟨O,O,⟨O,nU O⟩,(SpE.alloc O (nU O))⟩,⟨⟨O,O,O,(JD (p:=7) (id:=7) O O O (fun τ hτ=>(evt (hτ 33 _ O))) (by rfl) (by rfl) (by rfl) (by rfl) O)⟩,Zt⟩⟩⟩⟩⟩⟩⟩⟩⟩⟩⟩⟩⟩⟩) O O O (n':=41) O (P8 O O O ⟨[1,2,5,6,7,8],(V6 1 2 5 6 7 8),(p7 7 2),41,O,O,O, ?_⟩);refine q9 1 (y1 35) (V6 1 2 5 6 7 35) ⟨mU 8 O O,Zt⟩ ?_;refine W.cond O (fun hc35=>?_) (fun hc35=>?_)
   ·refine u4 5 (y5 36 37 38 39 5) [(3,5),(4,39),(4,36)] [(3,5),(4,39)] (V4 1 2 5 6) ⟨aU<|zM O O,aU (lU 7 O O O O O O O),aU fun _ _ H K=>w8 (z:=69) (.cons (eU K 37 O) .nil) ⟨⟨O,O,O⟩,Zt⟩ O H dU,aU<|QH O O O (g6 O) (show _=((A8 ps (i+1)).map D3) from(k25 hc35)) (by simp only[List.length_map,List.length_cons,List.length_nil];omega) O,aU<|zO O O O,Zt⟩ O O (tU O ?_);refine b7 [2] (bx':=(p6 2)) O O O (g7 hD O) ?_;refine z8 3 (y3 21 22 6) (V4 1 2 5 6) ⟨mU 6 O O,aU<|Q6 1 O O bU O,aU<|zA O O O,Zt⟩ ?_;exact⟨⟨(i+1),bU⟩,(by first|(dsimp only;rw[k24 hc35])|rfl),(by show min ps.length 14-(i+1)<min ps.length 14-i;omega)⟩
   ·refine W.skip ?_;refine C6 (V4 1 2 5 6) (p7 7 2) 41 O O O ?_;refine b7 [2] (bx':=(p6 2)) O O O (g7 hD O) ?_;refine z8 3 (y3 21 22 6) (V4 1 2 5 6) ⟨mU 6 O O,aU<|Q6 1 O O bU O,aU<|zA O O O,Zt⟩ ?_;exact⟨⟨(i+1),bU⟩,(by first|(dsimp only;rw[k24 hc35])|rfl),(by show min ps.length 14-(i+1)<min ps.length 14-i;omega)⟩
  ·obtain rfl:i=min ps.length 14:=by omega
   refine W.exit (z5 2 (y2 40 4) [(0,5),(1,40)] [(0,5),(1,40)] (V1 4) ⟨aU fun _ _ H K=>T5 (K 5 _ O) O H dU,aU<|zO O O O,Zt⟩ O O (tU O ?_));refine W.ret ?_;exact q8 (.inr O) O (O) O O Zt
 ·refine z8 8 [.y 13 _,.y 14 _,.y 15 _,.y 16 _,.y 17 _,.x 18,.x 19,.y 20 _] (V5 1 2 5 6 20) ⟨mU 6 O O,mU 1 O O,aU<|zN O (lN _) O,aU<|zS O O O,mU 16 O O,aF O O (gF (dF h4) O),aF O O (gF (dF h4) O),aU<|YL O (dF h4) (kB false O) O O,Zt⟩ ?_;refine v4 O (O) ?_
  obtain rfl:i=min ps.length 14:=by omega
  refine W.exit (z5 2 (y2 40 4) [(0,5),(1,40)] [(0,5),(1,40)] (V1 4) ⟨aU fun _ _ H K=>T5 (K 5 _ O) O H dU,aU<|zO O O O,Zt⟩ O O (tU O ?_));refine W.ret ?_;exact q8 (.inr O) O (O) O O Zt
end Go.Sx

namespace Go.Sx
open Go.Proofs
def pwPs:List PlS:=[k51]
theorem k81:j79 pwPs:=fun x hx s hs=>by
 rw[List.mem_singleton.1 hx] at hs;cases hs
def pwL:List BlkS:=[VT,k52]
theorem j64:q35 pwPs=pwL:=by
 show(if(r8 [VT] k51 0).2=true then[VT]++[(r8 [VT] k51 0).1] else[VT])=_;rw[x91];rfl
theorem w16{P:Program}{f:FuncId}{ds:List D}{o:Option Nat}{z:Nat}(h:Fn P gl f ds (.sl o z ((q35 pwPs).map D3))):Fn P gl f ds (.sl o z (pwL.map D3)):=by rw[<- j64];exact h
theorem z06:Wk (.sl (some 70) 3 [.agg [.u8 1,.nils,.u8 0]]) (.sl (some 70) 3 (pwPs.map AP)):=
 .slL (.cons (.aggL (.cons (.refl _) (.cons (.nils _ _) (.cons (.refl _) .nil)))) .nil)
theorem x08:allBl pwL:=by rw[<- j64];exact(k23 pwPs).1
theorem w15:wkT1.wf:=x08.2 k52 (by simp[pwL]) |>.txs _ (by simp[k52])
theorem IC:Q3 (H8 wkT1)=(wkT1,0):=by kernel_rfl
theorem z07:LH wkT1=R9:=by
 have h:E9 wkT1=R9:=by kernel_rfl
 rw[<- SD];exact h
theorem x07:(Z1 wkT1).length=85:=by kernel_rfl
theorem ME:∃ h,Y1 Y8 (Z1 wkT1)=(h,0):=⟨Y8 (Z1 wkT1),if_neg (by rw[x07];decide)⟩
theorem j63:Z0 X0 R9 [] ((0:Nat):Int)=(R9,0):=rfl
theorem w17:Z0 X0 R9 [] ((1:Nat):Int)=(zero32,1):=rfl
def pwH:Hs:=1::List.replicate 31 0
theorem k80:(H8 wkT1).length=85:=by kernel_rfl
theorem ID:(H8 wkT1).length<=100000:=by rw[k80];decide
theorem w64:Fn Tryz.prog gl 8 [z7 R9,.sl none 1 ((H8 wkT1).map D.u8),.nils,.int ((0:Nat):Int)] (.tup [D1 wkT1,z7 R9,.int 0]):=by
 refine RM (.cons (.refl _) (.cons (.refl _) (.cons (.nils none 32) (.cons (.refl _) .nil)))) ?_;obtain⟨h,hl⟩:=ME;have:=ZA R9 (H8 wkT1) [] ((0:Nat):Int) rfl ID (fun _ h=>nomatch h) (by decide) (by decide);rw[show IB R9 (H8 wkT1) [] ((0:Nat):Int)=(wkT1,R9,0) from x23 IC hl z07 j63 rfl rfl rfl rfl] at this;exact this
theorem w63:Fn Tryz.prog gl 8 [z7 R9,.sl none 1 ((H8 wkT1).map D.u8),.nils,.int ((1:Nat):Int)] (.tup [D1 zeroT,z7 zero32,.int 1]):=by
 refine RM (.cons (.refl _) (.cons (.refl _) (.cons (.nils none 32) (.cons (.refl _) .nil)))) ?_;obtain⟨h,hl⟩:=ME;have:=ZA R9 (H8 wkT1) [] ((1:Nat):Int) rfl ID (fun _ h=>nomatch h) (by decide) (by decide);rw[show IB R9 (H8 wkT1) [] ((1:Nat):Int)=(zeroT,zero32,1) from x25 IC hl z07 w17 rfl rfl (by decide)] at this;exact this
theorem w62:Fn Tryz.prog gl 8 [z7 pwH,.sl none 1 ((H8 wkT1).map D.u8),.nils,.int ((0:Nat):Int)] (.tup [D1 zeroT,z7 zero32,.int 15]):=by
 refine RM (.cons (.refl _) (.cons (.refl _) (.cons (.nils none 32) (.cons (.refl _) .nil)))) ?_;obtain⟨h,hl⟩:=ME;have:=ZA pwH (H8 wkT1) [] ((0:Nat):Int) rfl ID (fun _ h=>nomatch h) (by decide) (by decide);rw[show IB pwH (H8 wkT1) [] ((0:Nat):Int)=(zeroT,zero32,15) from x24 IC hl z07 j63 rfl rfl rfl (by decide)] at this;exact this
end Go.Sx

namespace Go.Sx
open Go.Proofs
set_option maxHeartbeats 1000000 in
theorem YR:Fn Tryz.prog gl 7 [] (.bool true):=by
 refine Fn.of (n:=74) Tryz.func7 rfl rfl rfl (nU rfl) fun C hC hD=>?_;refine q9 1 (y1 0) [] ⟨aU<|zK (kB false O) O O,Zt⟩ ?_;refine z5 5 (y5 12 13 14 15 1) [(4,15)] [(4,15)] (V1 1) ⟨aU fun _ _ H _=>Y5 hC (j23) (EvP.cons (kI 10 O) O O (EvP.cons (kW (.int .u32 10) (.u32 10) O) O O EvP.nil)) H,aU fun _ _ H _=>c9 (l:=[.u8 0,.nils,.u8 0]) (l':=[_,_,_]) (.cons (kW (.int .u8 1) (.u8 1) O) (.nil O)) ⟨⟨_,(kW (.int .u8 1) (.u8 1) O),O,O,O⟩,Zt⟩ H,aU fun _ _ H K=>e9 (r':=.sl none 3 (pwPs.map BO)) (R.wkT (r':=.sl (some 70) 3 (pwPs.map AP)) (w8 (z:=3) (.cons (eU K 13 O) .nil) ⟨⟨O,O,O⟩,Zt⟩ O H dU) O O (z06)) O (q32 _),aU fun _ _ H K=>Y5 hC (w16 (NI pwPs k81)) (EvP.cons (eU K 12 O) O O (EvP.cons (eU K 14 O) O O EvP.nil)) H,aU<|zO O O O,Zt⟩ O O (tU O ?_);refine W.seq (q9 3 (y3 16 17 18) (V2 1 18) ⟨aU<|zM O O,aU<|x83 O O (lN _) O,aU<|q47 2 O O O,Zt⟩ ?_);refine v4 O (dF (fun h=>h O)) ?_;refine W.skip (W.seq ?_);have hll:pwL.length=2:=rfl;have hlt:pwL[1]!.txs.length=1:=rfl;refine u4 8 (y8 19 20 21 22 23 24 25 2) [(7,25)] [(7,25)] (V2 1 2) ⟨aU<|zM O O,aU fun _ _ H K=>R.idxN (1) (SC.al (K 19 _ O) (K 1 _ O)) (b4 (kI 1 O)) O bU H dU,aU<|P9 O O,aU<|KH O O O (mG pwL) O O O O O,aU fun _ _ H K=>R.idxN (0) (SC.sl (K 22 _ O)) (b4 (kI 0 O)) O bU H dU,aU<|zL O O (j5 (l:=pwL[1]!.txs) bU) O O O O O,aU<|zC hC (MO wkT1 w15) O O O (F1 (.sl _ _ _ (j6 fun _=>.u8 _))) O,aU<|zO O O O,Zt⟩ O O (tU O ?_);refine W.seq ?_;refine YX (s:=2) (d':=.sl none 1 ((H8 wkT1).map D.u8)) O O (by simp only[D.brw];rw[j7,j2 (fun _=>rfl)]) ?_;refine u4 16 (w52 27 28 29 30 31 32 33 26 34 35 36) [] [] (V5 1 2 34 35 36) ⟨aU<|zM O O,aU fun _ _ H K=>R.idxN (1) (SC.al (K 27 _ O) (K 1 _ O)) (b4 (kI 1 O)) O bU H dU,aU<|P9 O O,aU<|P9 O O,aU<|KH O O O (mG pwL) O O O O O,mU 2 O O,aU fun _ _ H K=>Y5 hC (w64) (EvP.cons (eU K 31 O) O O (EvP.cons (eU K 32 O) O O (EvP.cons (kN O) O O (EvP.cons (kI 0 O) O O EvP.nil)))) H,aU<|zY O O O,aU<|zX O O O O,aU<|zX O O O O,aU<|zX O O O O,Zt⟩ O O (Q7 O O (Q7 O O (d5 O O O O O (d5 O O O O O (P8 O O O (tV (V4 1 2 4 5) (p7 4 3) 74 O O O ?_))))));refine z5 16 (w52 38 39 40 41 42 43 44 37 45 46 47) [] [] (V7 1 2 4 5 45 46 47) ⟨aU<|zM O O,aU fun _ _ H K=>R.idxN (1) (SC.al (K 38 _ O) (K 1 _ O)) (b4 (kI 1 O)) O bU H dU,aU<|P9 O O,aU<|P9 O O,aU<|KH O O O (mG pwL) O O O O O,mU 2 O O,aU fun _ _ H K=>Y5 hC (w63) (EvP.cons (eU K 42 O) O O (EvP.cons (eU K 43 O) O O (EvP.cons (kN O) O O (EvP.cons (kI 1 O) O O EvP.nil)))) H,aU<|zY O O O,aU<|zX O O O O,aU<|zX O O O O,aU<|zX O O O O,Zt⟩ O O (Q7 O O (Q7 O O (d5 O O O O O (d5 O O O O O (P8 O O O (tV (V5 1 2 4 5 8) (T6 7 6 4 3) 74 O O O ?_))))));refine z5 12 (y7 49 50 51 48 52 53 54) [] [] (V7 1 4 5 8 52 53 54) ⟨aU fun _ _ H _=>R.bldAP (z:=1) (l2:=(pwH.map D.u8)) (.cons (kW (.int .u8 1) (.u8 1) O) (.nil O)) ⟨⟨_,(kW (.int .u8 1) (.u8 1) O),O,O,O,O⟩,Zt⟩ (O) H,mU 2 O O,aU fun _ _ H K=>Y5 hC (w62) (EvP.cons (eU K 49 O) O O (EvP.cons (eU K 50 O) O O (EvP.cons (kN O) O O (EvP.cons (kI 0 O) O O EvP.nil)))) H,aU<|zY O O O,aU<|zX O O O O,aU<|zX O O O O,aU<|zX O O O O,Zt⟩ O O (Q7 O O (Q7 O O (d5 O O O O O (d5 O O O O O (P8 O O O (tV (V5 1 4 5 8 11) (OH 10 9 7 6 4 3) 74 O O O ?_))))));refine W.seq ?_;refine W.dr (m:=20) (an:=[0,1,3,7,7,23,55,119,247,511,1023,2047,4095,8191,16383,32767,65535,131071,262143,524287]) hP dU O (its:=[.y 55 _,.y 56 _,.y 57 _,.y 58 _,.y 59 _,.y 60 _,.y 61 _,.y 62 _,.y 63 _,.y 64 _,.y 65 _,.y 66 _,.y 67 _,.y 68 _,.y 69 _,.y 70 _,.y 71 _,.y 72 _,.y 73 _,.y 0 _]) (ks:=[]) (kk:=[]) (env':=(V1 0)) (⟨nU O,O,⟨mU 5 O O,aU<|KD 0 O O O,mU 56 O O,aW O O (gT (O) O) (lU 4 O O O O O O O),aW O O (gT (O) O)<|zM O O,aW O O (gT (O) O) fun _ _ H K=>R.idxN (1) (SC.al (K 59 _ O) (K 1 _ O)) (b4 (kI 1 O)) O bU H dU,aW O O (gT (O) O)<|P9 O O,aW O O (gT (O) O)<|P9 O O,aW O O (gT (O) O)<|KH O O O (mG pwL) O O O O O,aW O O (gT (O) O) fun _ _ H K=>RB (eU K 58 O) (eU K 63 O) H,aU<|zT O (O) O O O,mU 65 O O,aW O O (gT (O) O)<|zV O O O,aW O O (gT (O) O)<|KD 1 O O O,aU<|zT O (O) O O O,mU 69 O O,aW O O (gT (O) O)<|zV O O O,aW O O (gT (O) O)<|KD 15 O O O,aU<|zT O (O) O O O,aU<|zA O O O,Zt⟩,O,O,O⟩) O (bx':=(OH 10 9 7 6 4 3)) O (n':=74) O (tV (V1 0) (OH 10 9 7 6 4 3) 74 O O O ?_);refine W.ret ?_;exact q8 (.inr O) O (O) O O Zt
end Go.Sx

namespace Go.Sx
open Go.Proofs
theorem w20{root:Hs}{b:List UInt8}{br:List Hs}{k:Int}{t:TxS}{i:Hs}{e:Int}(hb0:b.length<=100000)(h:IB root b br k=(t,i,e)):t.wf:=by
 have e1:(IB root b br k).1.wf:=by
  show(CY X0 Y8 LH root b br k).1.wf;unfold CY;split
  ·split
   ·split
    ·split
     ·exact NP hb0
     ·exact ZC
    ·exact ZC
   ·exact ZC
  ·exact ZC
 rw[h] at e1;exact e1
section
variable{root:Hs}{b:List UInt8}{br:List Hs}{k:Int}{t:TxS}{i:Hs}{e:Int}(hro:root.length=32)(hb0:b.length<=100000)(hbr:allH br)(hb1:br.length<=1000)(hk0:-9223372036854775808<=k/\k<=9223372036854775807)(h:IB root b br k=(t,i,e))
include hro hb0 hbr hb1 hk0 h
theorem w75:Fn Tryz.prog gl 8 [z7 root,.sl none 1 (b.map D.u8),.sl none 32 (br.map z7),.int k] (.tup [D1 t,z7 i,.int e]):=by
 have:=ZA root b br k hro hb0 hbr hb1 hk0;rw[h] at this;exact this
theorem w74:Fn Tryz.prog gl 9 [z7 root,.sl none 1 (b.map D.u8),.sl none 32 (br.map z7),.int k] (.tup [D1 t,z7 i,.int e]):=by
 have:=AG root b br k hro hb0 hbr hb1 hk0;rw[show k84 root b br k=(t,i,e) from by show CY d9 D2 E9 root b br k=_;rw[w65];exact h] at this;exact this
end
theorem x71(o:Option Nat)(z:Nat)(b:List UInt8):(D.sl o z (b.map D.u8)).brw=.sl none z (b.map D.u8):=by simp only[D.brw];rw[j7,j2 (fun _=>rfl)]
end Go.Sx

namespace Go.Sx
open Go.Proofs
theorem CR(root:Hs)(b:List UInt8)(br:List Hs)(k:Int)(hro:root.length=32)(hbl:b.length<=140737488355328)(hbr:allH br)(hb2:br.length<=140737488355328)(hk0:-9223372036854775808<=k/\k<=9223372036854775807):Fn Tryz.prog gl 3 [z7 root,.sl none 1 (b.map D.u8),.sl none 32 (br.map z7),.int k] (.bool true):=by
 refine Fn.of (n:=91) Tryz.func3 rfl rfl rfl (nU rfl) fun C hC hD=>?_;refine z5 2 [] [] [] (V4 0 1 2 3) Zt O O (⟨O,_,R.box (gV 0 O) O O (nU O),⟨O,_,j4 (kB false O) O (nU O),tV (V4 1 2 3 4) (p6 4) 91 O O O ?_⟩⟩);refine W.seq (W.seq ?_);by_cases h1:20000<b.length
 ·refine z8 8 [.y 18 _,.y 19 _,.y 20 _,.y 21 _,.x 22,.x 23,.x 24,.y 25 _] (V5 1 2 3 4 25) ⟨mU 1 O O,aU<|zN O (lN _) O,aU<|l5 20000 O O O,mU 20 O O,aF O O (gT (dT h1) O),aF O O (gT (dT h1) O),aF O O (gT (dT h1) O),aU<|I4 O (dT h1) (kB true O) O O,Zt⟩ ?_;refine u7 O (O) ?_;refine q9 2 (y2 26 8) (V1 8) ⟨aU fun _ _ H _=>w6 hC (YR) Bn (F1 (.bool _)) H,aU<|zA O O O,Zt⟩ ?_;refine W.ret ?_;exact q8 (.inr O) O (O) O O Zt
 ·refine z8 8 (y8 18 19 20 21 22 23 24 25) (V5 1 2 3 4 25) ⟨mU 1 O O,aU<|zN O (lN _) O,aU<|l5 20000 O O O,mU 20 O O,aW O O (gF (dF h1) O)<|zV O O O,aW O O (gF (dF h1) O)<|zN O (lN _) O,aW O O (gF (dF h1) O)<|l5 40 O O O,aU<|zF O (dF h1) O O O,Zt⟩ ?_;refine z6 O (fun hc25=>?_) (fun hc25=>?_)
  ·refine q9 2 (y2 26 8) (V1 8) ⟨aU fun _ _ H _=>w6 hC (YR) Bn (F1 (.bool _)) H,aU<|zA O O O,Zt⟩ ?_;refine W.ret ?_;exact q8 (.inr O) O (O) O O Zt
  ·refine W.skip (W.seq ?_)
   have hb0:b.length<=100000:=by omega
   have hb1:br.length<=1000:=by omega
   obtain⟨⟨t,i,e⟩,hA⟩:∃ q,IB root b br k=q:=⟨_,rfl⟩
   have hwf:t.wf:=w20 hb0 hA;refine u4 4 (y4 27 28 29 9) [(2,27),(3,29)] [(2,27),(3,29)] (V5 1 2 3 4 9) ⟨aU fun _ _ H _=>w8 .nil Zt O H dU,mU 1 O O,aU fun _ _ H K=>J8 (Or.inl O) (K 27 _ O) (SrcO.sc (SC.sl (K 28 _ O)) (c6 (fun _=>rfl))) (show _=(b.map D.u8) from(List.nil_append _)) bU H dU dU,aU<|zO O O O,Zt⟩ O O (tU O ?_);refine z5 4 (y4 30 31 32 10) [(2,30),(3,32)] [(2,30),(3,32)] (V6 1 2 3 4 9 10) ⟨aU fun _ _ H _=>w8 .nil Zt O H dU,mU 2 O O,aU fun _ _ H K=>J8 (Or.inl O) (K 30 _ O) (SrcO.sc (SC.sl (K 31 _ O)) (c6 (fun _=>rfl))) (show _=(br.map z7) from(List.nil_append _)) bU H dU dU,aU<|zO O O O,Zt⟩ O O (tU O ?_);refine W.seq ?_;refine YX (s:=9) (d':=.sl none 1 (b.map D.u8)) O O (x71 _ _ _) ?_;refine YX (s:=10) (d':=.sl none 32 (br.map z7)) O O (k21 _ _ _) ?_;refine u4 14 (y9 34 35 36 37 38 33 39 40 41) [] [] (V9 1 2 3 4 9 10 39 40 41) ⟨aU (lU 4 O O O O O O O),mU 9 O O,mU 10 O O,mU 3 O O,aU fun _ _ H K=>Y5 hC (w75 hro hb0 hbr hb1 hk0 hA) (EvP.cons (eU K 34 O) O O (EvP.cons (eU K 35 O) O O (EvP.cons (eU K 36 O) O O (EvP.cons (eU K 37 O) O O EvP.nil)))) H,aU<|zY O O O,aU<|zX O O O O,aU<|zX O O O O,aU<|zX O O O O,Zt⟩ O O (Q7 O O (Q7 O O (d5 O O O O O (d5 O O O O O (P8 O O O (tV (V9 1 2 3 4 9 10 11 12 13) (d7 12 11 4) 91 O O O ?_))))));refine z5 14 (y9 43 44 45 46 47 42 48 49 50) [] [] (j81 1 2 9 10 11 12 13 48 49 50) ⟨aU (lU 4 O O O O O O O),mU 1 O O,mU 2 O O,mU 3 O O,aU fun _ _ H K=>Y5 hC (w74 hro hb0 hbr hb1 hk0 hA) (EvP.cons (eU K 43 O) O O (EvP.cons (eU K 44 O) O O (EvP.cons (eU K 45 O) O O (EvP.cons (eU K 46 O) O O EvP.nil)))) H,aU<|zY O O O,aU<|zX O O O O,aU<|zX O O O O,aU<|zX O O O O,Zt⟩ O O (Q7 O O (Q7 O O (d5 O O O O O (d5 O O O O O (P8 O O O (tV (j81 1 2 9 10 11 12 13 14 15 16) (CU 15 14 12 11 4) 91 O O O ?_))))));refine W.seq (q9 15 (u04 51 52 53 54 55 56 57 58 59 60 61 62 63 64 65) (V6 2 10 11 14 16 65) ⟨mU 13 O O,mU 16 O O,aU<|zB O O O O,mU 53 O O,aW O O (gF (by simp) O) (lU 12 O O O O O O O),aW O O (gF (by simp) O) (lU 15 O O O O O O O),aW O O (gF (by simp) O) fun _ _ H K=>OU (eU K 55 O) (eU K 56 O) H,aU<|zF O (by simp) O O O,mU 58 O O,aW O O (gF (by simp) O)<|zV O O O,aW O O (gF (by simp) O) fun _ _ H K=>R.cvS (xs:=b) (SC.sl (K 60 _ O)) H,aW O O (gF (by simp) O)<|zV O O O,aW O O (gF (by simp) O) fun _ _ H K=>R.cvS (xs:=b) (SC.sl (K 62 _ O)) H,aW O O (gF (by simp) O)<|zB O O O O,aU<|zF O (by simp) O O O,Zt⟩ ?_);refine v4 O (by simp) ?_;refine W.skip (W.seq (q9 1 (y1 17) (V6 2 10 11 14 16 17) ⟨aU<|zK (kI 0 O) O O,Zt⟩ ?_));refine W.block ?_;refine W.loop (α:={q__:Nat//q__<=br.length}) (fun q__=>⟨91,[(2,.sl none 32 (br.map z7)),(10,.sl none 32 (br.map z7)),(11,.ptr 11 0 []),(14,.ptr 14 0 []),(16,.int e),(17,.int ((q__.1:Nat):Int))],[(15,.var (z7 i)),(14,.var (D1 t)),(12,.var (z7 i)),(11,.var (D1 t)),(4,.var (z7 root))]⟩) (fun q__=>br.length-q__.1) ⟨(0),bU⟩ O ?_;rintro ⟨j,hj⟩;show W _ _ _ _ ⟨91,[(2,.sl none 32 (br.map z7)),(10,.sl none 32 (br.map z7)),(11,.ptr 11 0 []),(14,.ptr 14 0 []),(16,.int e),(17,.int ((j:Nat):Int))],[(15,.var (z7 i)),(14,.var (D1 t)),(12,.var (z7 i)),(11,.var (D1 t)),(4,.var (z7 root))]⟩;have hj:j<=br.length:=hj;refine W.seq (q9 4 (y4 66 67 68 69) (V7 2 10 11 14 16 17 69) ⟨mU 17 O O,mU 10 O O,aU<|zN O (lN _) O,aU<|zS O O O,Zt⟩ ?_);refine z6 O (fun hc69=>?_) (fun hc69=>?_)
   ·refine W.skip (W.seq (W.block (W.seq ?_)));refine W.dr (m:=9) (an:=[0,0,3,7,0,0,48,112,255]) hP dU O (its:=[.y 72 _,.y 73 _,.y 74 _,.y 75 _,.y 76 _,.y 77 _,.y 78 _,.y 79 _,.y 80 _]) (ks:=[]) (kk:=[]) (env':=(V7 2 10 11 14 16 17 80)) (⟨nU O,O,⟨mU 10 O O,mU 17 O O,aU<|zI j O O O bU O,aU<|zL O O (mG br) O O O O O,mU 2 O O,mU 17 O O,aU<|zI j O O O bU O,aU<|zL O O (mG br) O O O O O,aU fun _ _ H K=>OU (eU K 75 O) (eU K 79 O) H,Zt⟩,O,O,O⟩) O (bx':=(CU 15 14 12 11 4)) O (n':=91) O (tV (V7 2 10 11 14 16 17 80) (CU 15 14 12 11 4) 91 O O O ?_);refine v4 O (by simp) ?_;refine W.skip ?_;refine z8 3 (y3 70 71 17) (V6 2 10 11 14 16 17) ⟨mU 17 O O,aU<|Q6 1 O O bU O,aU<|zA O O O,Zt⟩ ?_;exact⟨⟨(j+1),bU⟩,rfl,(by simp only[];omega)⟩
   ·obtain rfl:j=br.length:=by omega
    refine W.exit (W.seq ?_);by_cases h2:e≠0
    ·refine z8 11 [.y 81 _,.y 82 _,.y 83 _,.x 84,.x 85,.x 86,.y 87 _,.y 88 _,.y 89 _,.y 90 _,.y 8 _] (V1 8) ⟨mU 16 O O,aU<|B6 O (kI 0 O) O O,mU 82 O O,aF O O (gT (by simpa using h2) O),aF O O (gT (by simpa using h2) O),aF O O (gT (by simpa using h2) O),aU<|I4 O (by simpa using h2) (kB true O) O O,mU 87 O O,aW O O (gT (by simp[i5]) O) fun _ _ H _=>w6 hC (YR) Bn (F1 (.bool _)) H,aU<|zT O (by simp[i5]) O O O,aU<|zA O O O,Zt⟩ ?_;refine W.ret ?_;exact q8 (.inr O) O (O) O O Zt
    ·refine z8 11 (w52 81 82 83 84 85 86 87 88 89 90 8) (V1 8) ⟨mU 16 O O,aU<|B6 O (kI 0 O) O O,mU 82 O O,aW O O (gF (by simpa using h2) O) (lU 11 O O O O O O O),aW O O (gF (by simpa using h2) O) (lU 14 O O O O O O O),aW O O (gF (by simpa using h2) O)<|zD hC (q90 t t hwf hwf) O O O O O O (F1 (.bool _)) O,aU<|zF O (by simpa using h2) O O O,mU 87 O O,aW O O (gT (by simp[i5]) O) fun _ _ H _=>w6 hC (YR) Bn (F1 (.bool _)) H,aU<|zT O (by simp[i5]) O O O,aU<|zA O O O,Zt⟩ ?_;refine W.ret ?_;exact q8 (.inr O) O (O) O O Zt
end Go.Sx

namespace Go.Sx
open Go.ChangeShapes Go.WideShapes
structure Rd(P:Program)(t:TypeId)(z:Nat){α:Type}(f:α->D)(q:α->Prop):Prop where
 cells:P.cellsOf t=z
 sz:∀ a,q a->(f a).sz=z
 rd:∀ {H:Type} {enc:TypeId×Value->H} {w:World} {n:Nat} {cs:List Value} {x:DataW H×List MemPlace},DataW.trod enc P w 0 (fun _=>true) true n t cs=some x ->
  (x.1.weights P t).all (·<=reachBytes)=true->∃ a,q a/\Rc w (fun x=>x) (fun b=>b<w.heap.size) (fun _=>False) false (f a) cs []
variable{P:Program}{t e z:Nat}
theorem Rd.int(ht:P.underlying t=some (.int .i64))(hz:P.cellsOf t=1):Rd P t 1 D.int (fun n=>-9223372036854775808<=n/\n<=9223372036854775807):=
 ⟨hz,fun _ _=>rfl,fun h _=>by
  obtain⟨n,rfl,_,hw⟩:=DataW.trod_int ht h;refine⟨n, ?_,.int n⟩;simp[Lit.wf,IntKind.min,IntKind.max,IntKind.signed,IntKind.bits] at hw
  omega⟩
theorem Rd.u8(ht:P.underlying t=some (.int .u8))(hz:P.cellsOf t=1):Rd P t 1 D.u8 (fun _=>True):=
 ⟨hz,fun _ _=>rfl,fun h _=>by
  obtain⟨n,rfl,_,hw⟩:=DataW.trod_int ht h;simp[Lit.wf,IntKind.min,IntKind.max,IntKind.signed,IntKind.bits] at hw;refine⟨UInt8.ofNat n.toNat,trivial, ?_⟩
  have:((UInt8.ofNat n.toNat).toNat:Int)=n:=by simp[UInt8.toNat_ofNat'];omega
  have h1:=Rc.u8 (w:=‹World›) (ρ:=fun x=>x) (G:=fun b=>b<(‹World›).heap.size) (L:=fun _=>False) (p:=false) (UInt8.ofNat n.toNat);rw[this] at h1
  exact h1⟩
theorem QO{H:Type}{p:Nat->Bool}{l:List (DataW H)}(h:(DataW.weightsAll P e l).all p=true):∀ d∈l,(d.weights P e).all p=true:=by
 induction l with
 | nil=>intro d hd;cases hd
 | cons x r ih=>
  simp only[DataW.weightsAll,List.all_append,Bool.and_eq_true] at h;intro d hd
  rcases List.mem_cons.1 hd with rfl|hd
  ·exact h.1
  ·exact ih h.2 d hd
theorem C2{H:Type}{p:Nat->Bool}:∀ {ts:List TypeId} {l:List (DataW H)},(DataW.weightsEach P ts l).all p=true->∀ (i:Nat) (t:TypeId) (d:DataW H),ts[i]? = some t->l[i]? = some d->(d.weights P t).all p=true:=by
 intro ts
 induction ts with
 | nil=>intro l _ i t d ht;simp at ht
 | cons t0 ts ih=>
  intro l h i t d ht hd
  cases l with
  | nil=>simp at hd
  | cons x r=>
   simp only[DataW.weightsEach,List.all_append,Bool.and_eq_true] at h
   cases i with
   | zero=>simp at ht hd;subst ht;subst hd;exact h.1
   | succ i=>exact ih h.2 i t d (by simpa using ht) (by simpa using hd)
theorem SW{α:Type}{n:Nat}{p:Nat->α->Prop}(h:∀ i,i<n->∃ a,p i a):∃ l:List α,l.length=n/\∀ i (hi:i<l.length),p i l[i]:=by
 induction n with
 | zero=>exact⟨[],rfl,fun i hi=>by simp at hi⟩
 | succ n ih=>
  obtain⟨l,hl,hp⟩:=ih (fun i hi=>h i (by omega));obtain⟨a,ha⟩:=h n (by omega);refine⟨l++[a],by simp[hl],fun i hi=>?_⟩
  rcases Nat.lt_or_ge i l.length with h1|h1
  ·rw[List.getElem_append_left h1];exact hp i h1
  ·have:i=n:=by simp at hi;omega
   subst this;rw[List.getElem_append_right h1];simpa [hl] using ha
theorem q28{w:World}{b off n:Nat}{c:Array Value}{ty:TypeId}{fz:Nat×Nat}{cs:List Value}(hb:w.heap[b]? = some (.cells c ty fz))(h:w.cells? 0 ⟨b,off,none⟩ n=some cs)(hn:0<n) :
 off+n<=c.size/\cs=(c.toList.drop off).take n:=by
 obtain⟨_,hl,hc⟩:=World.cells?_some h
 have hc':∀ i,i<n->c[off+i]? = cs[i]?:=fun i hi=>by
  have:=hc i hi;rw[X4,cell_of_row w b _ c ty fz hb] at this;exact this
 have h1:=hc' (n-1) (by omega)
 have h2:off+(n-1)<c.size:=by
  rw[List.getElem?_eq_getElem (by omega)] at h1;exact(Array.getElem?_eq_some_iff.1 h1).1
 refine⟨by omega, ?_⟩;apply List.ext_getElem?;intro i;rw[List.getElem?_take];split
 ·rw[List.getElem?_drop];rw[<- hc' i (by assumption)];simp
 ·rw[List.getElem?_eq_none (by omega)]
theorem Rd.sl{α:Type}{f:α->D}{q:α->Prop}(ht:P.underlying t=some (.slice e))(hz:P.cellsOf t=1)(h0:0<z)(hby:0<P.bytesOf e)(he:Rd P e z f q) :
 Rd P t 1 (fun l:List α=>.sl none z (l.map f)) (fun l=>l.length<=140737488355328/\∀ x∈l,q x):=
 ⟨hz,fun _ _=>rfl,fun {H enc w n cs x} h hwt=>by
  rcases Go.Deep.open_slice ht h with ⟨rfl,_⟩|⟨a,len,cap,m,n',Dd,Pl,rfl,_,hlc,hcm,hm,rfl,hx⟩
  ·exact⟨[],⟨by simp,by simp⟩,.slN none z⟩
  ·simp only[if_true] at hm;have hx:=fun i (hi:i<cap)=>hx i (by omega);simp only[DataW.weights,ht,List.all_cons,List.all_append,Bool.and_eq_true,decide_eq_true_eq,List.length_map,List.length_range] at hwt;obtain⟨hw1,hw2,hw3⟩:=hwt;have hw4:∀ i,i<len->((Dd i).weights P e).all (·<=reachBytes)=true:=fun i hi=>QO hw2 _ (List.mem_map.2 ⟨i,List.mem_range.2 hi,rfl⟩)
   have hlen:len<=140737488355328:=by
    have h6:len*1<=(len+(m-len))*P.bytesOf e:=Nat.mul_le_mul (by omega) hby
    simp only[reachBytes] at hw1;omega
   rcases Nat.eq_zero_or_pos cap with rfl|hcap
   ·have:len=0:=by omega
    subst this;exact⟨[],⟨by simp,by simp⟩,.slE none z a⟩
   ·rw[he.cells] at hx;obtain⟨b,off,sp⟩:=a;obtain⟨cs0,hc0,_⟩:=hx 0 hcap;obtain⟨_,hl0,hv0⟩:=World.cells?_some hc0;have h1:=hv0 0 h0;rw[List.getElem?_eq_getElem (by omega)] at h1
    have hblk:∃ c ty fz,w.heap[b]? = some (.cells c ty fz)/\sp=none:=by
     have e0:((⟨b,off,sp⟩:Addr).add (0*z)).add 0=⟨b,off,sp⟩:=by simp[Addr.add]
     rw[e0] at h1;unfold World.cell? at h1;simp only at h1;split at h1
     ·rename_i c ty fz hh
      cases sp with
      | none=>exact⟨c,ty,fz,hh,rfl⟩
      | some s=>simp at h1
     ·cases h1
    obtain⟨c,ty,fz,hb,rfl⟩:=hblk
    have hrow:∀ i,i<cap->off+i*z+z<=c.size/\(i<len->∃ a,q a/\Rc w (fun x=>x) (fun b=>b<w.heap.size) (fun _=>False) false (f a) ((c.toList.drop (off+i*z)).take z) []):=fun i hi=>by
     obtain⟨cs',h2,h3⟩:=hx i hi;rw[X4] at h2;obtain⟨h4,rfl⟩:=q28 hb h2 h0;exact⟨h4,fun hi=>he.rd h3 (hw4 i hi)⟩
    obtain⟨l,hl,hp⟩:=SW (fun i hi=>(hrow i (by omega:i<cap)).2 hi:∀ i,i<len->_)
    have hsz:off+cap*z<=c.size:=by
     have h5:=(hrow (cap-1) (by omega)).1
     have:(cap-1)*z+z=cap*z:=by rw[<- Nat.succ_mul];congr 1;omega
     omega
    have hlz:len*z<=cap*z:=Nat.mul_le_mul_right z hlc;refine⟨l,⟨by omega,fun y hy=>?_⟩, ?_⟩
    ·obtain⟨i,hi,rfl⟩:=List.mem_iff_getElem.1 hy;exact(hp i hi).1
    ·have:=Rc.slI (w:=w) (ρ:=fun x=>x) (G:=fun b=>b<w.heap.size) (L:=fun _=>False) (p:=false) b off c ty fz cap z (l.map f) hb (Array.getElem?_eq_some_iff.1 hb).1 (by simp;omega) (by simp[hl];omega)
      (fun i hi=>by simp only[List.getElem_map];exact(hp i (by simpa using hi)).2)
     simpa [hl] using this⟩
theorem Rd.arr{α:Type}{f:α->D}{q:α->Prop}{n zz:Nat}(ht:P.underlying t=some (.array n e))(hz:P.cellsOf t=zz)(hzz:zz=n*z)(he:Rd P e z f q) :
 Rd P t zz (fun l:List α=>.arr n z (l.map f)) (fun l=>l.length=n/\∀ x∈l,q x):=
 ⟨hz,fun _ _=>by simp[hzz],fun {H enc w m cs x} h hwt=>by
  obtain⟨xs,m',_,rfl,hlen,hxl,hx⟩:=DataW.trod_array ht h;rw[hz] at hlen;rw[he.cells] at hx
  obtain⟨l,hl,hp⟩:=SW (p:=fun i a=>q a/\Rc w (fun x=>x) (fun b=>b<w.heap.size) (fun _=>False) false (f a) ((cs.drop (i*z)).take z) []) (n:=n) (fun i hi=>by
   have:=hx i hi;rw[List.getElem?_eq_getElem (by omega)] at this;simp only[DataW.weights,ht] at hwt
   exact he.rd this (QO hwt _ (List.mem_map.2 ⟨_,List.getElem_mem _,rfl⟩)))
  refine⟨l,⟨hl,fun y hy=>?_⟩,.arr n z _ cs (by simpa using hl) (by omega) (fun i hi=>by simp only[List.getElem_map];exact(hp i (by simpa using hi)).2)⟩;obtain⟨i,hi,rfl⟩:=List.mem_iff_getElem.1 hy
  exact(hp i hi).1⟩
def NY(P:Program)(t:TypeId):Bool:=match P.underlying t with
 | some (.struct _)=>true
 | some (.array _ _)=>true
 | _=>false
theorem q29{r:Reach}{W:World}{base:Nat}{v:Value}(hu:NY P t=false)(hv:Value.okWide P W r base t v):v.cells=#[v]:=by
 cases v with
 | agg cs=>
  exfalso;unfold NY at hu;unfold Value.okWide at hv;split at hv
  ·rename_i h;simp[h] at hu
  ·rename_i h;simp[h] at hu
  ·unfold Cell.okWide Cell.ok at hv
   split at hv<;>simp_all
 | _=>rfl
theorem OJ{H:Type}{enc:TypeId×Value->H}{α:Type}{f:α->D}{q:α->Prop}{g:Bool}{r:Reach}{W:World}{base:Nat}{v:Value}{d:DataW H}{ps:List MemPlace}(h:Rd P t z f q)(hu:NY P t=g)(hg:∀ a,q a->(f a).isAgg=g)
 (hv:Value.okWide P W r base t v) (hd:DataW.Trod enc P W 0 (fun _=>true) true t v d ps) (hw:(d.weights P t).all (·<=reachBytes)=true) :
 ∃ a,q a/\VR W (fun x=>x) (fun b=>b<W.heap.size) (fun _=>False) (f a) v []:=by
 obtain⟨fuel,hd⟩:=hd;obtain⟨a,ha,hr⟩:=h.rd hd hw;refine⟨a,ha, ?_⟩;have hga:=hg a ha
 cases g with
 | true=>
  have:∃ cs,v=.agg cs:=by
   unfold NY at hu;unfold Value.okWide at hv;split at hv
   ·exact⟨_,hv.choose_spec.1⟩
   ·exact⟨_,hv.choose_spec.1⟩
   ·split at hu<;>simp_all
  obtain⟨cs,rfl⟩:=this;simp only[VR,hga,if_true];exact⟨cs,rfl,hr.flag⟩
 | false=>
  rw[q29 hu hv] at hr;simp only[VR,hga,if_false,Bool.false_eq_true];exact hr.flag
theorem CB{H:Type}{enc:TypeId×Value->H}{W W':World}{sp:Nat->Bool}(hl:laidOutB P=true)(hb:∀ b,b<W.heap.size->W'.heap[b]? = W.heap[b]?) :
 ∀ {ts:List TypeId} {vs:List Value} {ds:List (DataW H)} {ps:List MemPlace},(ts.all fun t=>P.readableRec t&&decide (t<P.types.size))=true->(∀ x∈ps,x.block<W.heap.size)->(∀ x∈ps,sp x.block=true) ->
  DataW.TrodAll enc P W 0 (fun _=>true) true ts vs ds ps->DataW.TrodAll enc P W' 0 sp true ts vs ds ps:=by
 intro ts
 induction ts with
 | nil=>intro vs ds ps _ _ _ h;obtain⟨rfl,rfl,rfl⟩:=trodAll_nil h;exact trodAll_mk0
 | cons t ts ih=>
  intro vs ds ps ht hlt hs h;obtain⟨v,vs1,d,ds1,a,b,rfl,rfl,rfl,h1,h2⟩:=trodAll_cons h;simp only[List.all_cons,Bool.and_eq_true,decide_eq_true_eq] at ht;refine trodAll_cons_mk (Go.WideElems.Trod_stays hl ht.1.1 ht.1.2 h1 (fun x hx=>?_) (fun x hx=>hs x (List.mem_append.2 (.inl hx)))) (ih ht.2 (fun x hx=>hlt x (List.mem_append.2 (.inr hx))) (fun x hx=>hs x (List.mem_append.2 (.inr hx))) h2);have hx':=hlt x (List.mem_append.2 (.inl hx))
  cases x with
  | cell b o=>exact World.cell?_of_block (w:=W) (hb b hx')
  | map b=>exact hb b hx'
theorem EW{H:Type}{enc:TypeId×Value->H}{fn:Func}{f:FuncId}{s:ChangeSpec}{W:World}{args:Array Value}{ds gs:List (DataW H)}{before:List MemPlace}{tb:TypeId}{gl:List (Nat×D)}{Ds:List D}
 (hl:laidOutB P=true) (hpar:(fn.params.toList.all fun t=>P.readableRec t&&decide (t<P.types.size))=true) (hres:fn.resultTypes=#[tb]) (htb:P.underlying tb=some .bool) (hsv:s.vars=[])
 (hfn:s.fn H ds={ results:=[.lit (.bool true)],args:=ds }) (hW:DataW.Whole enc P fn.params.toList s.vars false W args.toList ds gs before)
 (hgl:∀ g d,(g,d)∈gl->g<W.heap.size/\∃ cs e fz,W.heap[g]? = some (.cells cs e fz)/\Rc W (fun x=>x) (fun _=>False) (fun _=>False) false d cs.toList [])
 (hlen:args.toList.length=Ds.length) (hargs:∀ k (h:k<Ds.length),VR W (fun x=>x) (fun b=>b<W.heap.size) (fun _=>False) Ds[k] (args.toList.getD k undef) [])
 (hf:Fn P gl f Ds (.bool true)):Calls P f args W fun e W'=>∃ v,e=.returned v/\s.post enc P fn false true false false W args v W':=by
 have hrun:=hf W (fun b=>b<W.heap.size) args.toList hgl hlen hargs;rw[Array.toArray_toList] at hrun
 refine hrun.mono fun ex W' ⟨v,F,he,hext,_,_,hrv⟩=>⟨v,he, ?_⟩
 have hv:v=.bool true:=by
  obtain⟨_,h2⟩:=hrv;simp only[VR,D.isAgg,Bool.false_eq_true,if_false] at h2;cases h2;rfl
 subst hv;have hlt:=hW.lt;have hW0:=hW;obtain⟨p,q',hA,hV,rfl,hfz,hnd⟩:=hW;rw[hsv] at hV;obtain⟨rfl,rfl⟩:=trodVars_none hV;simp only[List.append_nil] at hlt hW0;have hst:∀ sp:Nat->Bool,(∀ x∈p,sp x.block=true)->DataW.TrodAll enc P W' 0 sp true fn.params.toList args.toList ds p:=fun sp hs=>CB hl (fun b hb=>hext.block b hb) hpar hlt hs hA;refine⟨ds,[],p,[],p,[],hW0, ?_, ?_, ?_,⟨hext.os,hext.output,fun i hi=>?_⟩,fun h=>by cases h⟩
 ·rw[hres];simp only[List.append_nil,hfn];exact trodAll_cons_mk (Go.RowKit.shut_bool htb true) trodAll_mk0
 ·simp only[List.append_nil,hfn];exact hst _ (fun x hx=>by simpa using hlt x hx)
 ·simp only[List.append_nil,hfn,hsv];rfl
 ·rw[hext.block i hi]
  cases hh:W.heap[i]? with
  | none=>simp
  | some o=>cases o<;>simp
theorem z05{w:World}{ρ:Nat->Nat}{G L:Nat->Prop}(l:List UInt32){n:Nat}(hn:l.length=n):Rc w ρ G L false (.arr n 1 (l.map D.u32)) (l.map fun x=>Value.int .u32 x.toNat) []:=by
 refine .arr n 1 _ _ (by simpa using hn) (by simp[hn]) (fun i hi=>?_)
 have hi':i<l.length:=by simpa using hi
 simp only[Nat.mul_one,List.getElem_map];rw[List.drop_eq_getElem_cons (by simpa using hi'),List.take_succ_cons,List.take_zero,List.getElem_map];exact .u32 _
theorem z94{W:World}{name:String}{g n:Nat}(l:List UInt32)(hg:P.globalNamed name=some g)(hn:l.length=n)(h:Lib.TabIs P W name .u32 (l.map fun x=>((x.toNat:Nat):Int))) :
 g<W.heap.size/\∃ cs e fz,W.heap[g]? = some (.cells cs e fz)/\Rc W (fun x=>x) (fun _=>False) (fun _=>False) false (.arr n 1 (l.map D.u32)) cs.toList []:=by
 unfold Lib.TabIs World.var? at h;simp only[hg,Option.bind_some,List.map_map] at h;split at h
 ·rename_i cs e fz hh;simp only[Option.some.injEq] at h;refine⟨(Array.getElem?_eq_some_iff.1 hh).1,cs,e,fz,hh, ?_⟩;rw[h];exact z05 l hn
 ·cases h
end Go.Sx
