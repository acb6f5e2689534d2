/- Own texts. -/
import Derived.Test.YtgilikgghknbhaaGreatDoorMSxCore
import Derived.MapKept
import Derived.Laws.IdiomStrings
import Derived.RangeFuncIn
import Derived.RangeFuncRecord
import Derived.RangeFuncLeaves
import Derived.Laws.StructEq
set_option linter.unusedVariables false
set_option linter.unusedSimpArgs false
set_option linter.unnecessarySimpa false

namespace Go.Sx
variable{pos:String}{aft:Array Edge}{g:Option (Nat×Bool)}
variable{P:Program}{C:Ctx}{σ σ' σ1:Sg}{a:Act}{w w':World}{ρ:Nat->Nat}{Fe Fe' Fb:Nat->List Nat}
theorem NG(st:StW C σ a w ρ Fe Fb){x:Operand}{n:Int}(h:evo C.gl σ (some x) 0=some n):∃ k,a.eval x=.int k n:=FK st h
theorem R.idxP{s t e z b m id off:Nat}{path:List Nat}{ix:Operand}{n:Int}{ty rt:TypeId}[hT:ArT P ty m e][hE:ElT P e z b](k:Nat)
 (h:σ.get s=some (.ptr id off path)) (hi:evo C.gl σ (some ix) 0=some n) (hk:n=(k:Int)) (h1:k<m) (ht:t<σ.n) :
 OpS P C ⟨some t,.indexAddr ty (.tmp s) ix,rt,pos,aft,g⟩ σ (σ.set t (.ptr id (off+k*z) (path++[k]))):=by
 subst hk;refine OpS.value fun a w ⟨ρ,Fe,Fb,st⟩=>?_;obtain⟨v,hv,hr⟩:=(z9 rfl).1 (st.env _ _ h);simp only[VR,D.isAgg,Bool.false_eq_true,if_false] at hr;generalize Fe s=F at hr
 cases hr with
 | ptr _ _ _ hL=>
 obtain⟨kk,he⟩:=NG st hi;refine⟨.pointer (some ⟨ρ id,off+k*z,none⟩),w, ?_,st.put ht rfl ?_⟩
 ·unfold execOp;simp[Instr.indexAt,Instr.sureAddr,asIntOf,run_underlying hT.u,j8 hv,he,h1,ElT.size (P:=P) (e:=e),X4]
 ·simp only[VR,D.isAgg,Bool.false_eq_true,if_false];exact .ptr _ _ _ hL
theorem R.idxN{s t z:Nat}{l:List D}{ix:Operand}{n:Int}{ty e b rt:TypeId}[hT:SlT P ty e][hE:ElT P e z b](k:Nat)
 (h:SC σ s z l) (hi:evo C.gl σ (some ix) 0=some n) (hk:n=(k:Int)) (h1:k<l.length) (ht:t<σ.n) (hst:s≠t) :
 OpS P C ⟨some t,.indexAddr ty (.tmp s) ix,rt,pos,aft,g⟩ σ (σ.set t (.ep s z k 0 [])):=by
 subst hk;refine OpS.value fun a w ⟨ρ,Fe,Fb,st⟩=>?_;obtain⟨base,len,cap,hv,rfl,hd⟩:=XT st h;obtain⟨kk,he⟩:=NG st hi
 rcases hd with ⟨h2,_⟩|⟨b,o,cs,e',fz,rfl,hb,hc,hsz,hr⟩
 ·omega
 have hsz':=st.size;refine⟨.pointer (some ⟨b,o+k*z,none⟩),w, ?_,st.putRef ht ?_⟩
 ·unfold execOp;simp[Instr.indexAt,asIntOf,run_underlying hT.u,j8 hv,he,h1,ElT.size (P:=P) (e:=e),X4]
 ·refine⟨rfl,b,o,l.length,cap, ?_, ?_,by omega⟩
  ·rw[v5 a t _ s (by omega)];simp[hst,hv]
  ·rw[v5 a t _ t (by omega)];simp
theorem QI{e z off:Nat}{gg:Bool}[hL:LdT P e z gg]{G L:Nat->Prop}{p:Bool}{d:D}{cs:Array Value}{F:List Nat}(hr:Rc w ρ G L p d ((cs.toList.drop off).take z) F)(hz:d.sz=z)(hg:d.isAgg=gg)(hs:off+z<=cs.size) :
 ∃ v,(part e cs off).run P w=.ok v w/\VR w ρ G L d v F:=by
 have hr':Rc w ρ G L true d ((cs.toList.drop off).take z) F:=by
  cases p with
  | true=>exact hr
  | false=>exact hr.flag
 cases gg with
 | true=>
  refine⟨.agg (cs.extract off (off+z)), ?_, ?_⟩
  ·simp[part,LdT.agg (P:=P) (t:=e),LdT.size (P:=P) (t:=e)]
  ·simp only[VR,hg,if_true];refine⟨_,rfl, ?_⟩
   have e1:(cs.extract off (off+z)).toList=(cs.toList.drop off).take z:=by
    rw[Array.toList_extract];simp[List.extract_eq_take_drop]
   rw[e1];exact hr'
 | false=>
  have h1:d.sz=1:=by cases d<;>simp_all [D.sz,D.isAgg]
  have hz1:z=1:=by omega
  subst hz1
  have hlt:off<cs.size:=by omega
  refine⟨cs[off], ?_, ?_⟩
  ·simp[part,LdT.agg (P:=P) (t:=e),hlt]
  ·simp only[VR,hg,Bool.false_eq_true,if_false];rw[List.drop_eq_getElem_cons (by simpa using hlt),List.take_succ_cons,List.take_zero,Array.getElem_toList] at hr';exact hr'
theorem R.ixA{x ix:Operand}{t e z m:Nat}{gg:Bool}{l:List D}{d:D}{n:Int}{ty rt:TypeId}[hT:ArT P ty m e][hL:LdT P e z gg](k:Nat)
 (hx:ev C.gl σ x=some (.arr m z l)) (hi:evo C.gl σ (some ix) 0=some n) (hk:n=(k:Int)) (h1:l[k]? = some d) (hp:d.pur=true) (hz:d.sz=z) (hg:d.isAgg=gg) (ht:t<σ.n) :
 OpS P C ⟨some t,.index ty x ix,rt,pos,aft,g⟩ σ (σ.set t d):=by
 subst hk;refine OpS.value fun a w ⟨ρ,Fe,Fb,st⟩=>?_;obtain⟨F,hv,_⟩:=m5 st hx rfl;simp only[VR,D.isAgg,if_true] at hv;obtain⟨cs,hex,hv⟩:=hv;obtain⟨kk,he⟩:=NG st hi;obtain⟨hkl,rfl⟩:=List.getElem?_eq_some_iff.1 h1
 cases hv with
 | arr _ _ _ _ hl hsz hrr=>
  have hkm:k<m:=by omega
  have hkz:k*z+z<=m*z:=by
   have:=Nat.mul_le_mul_right z (show k+1<=m by omega);rw[Nat.add_mul] at this;omega
  obtain⟨v,hrun,hvr⟩:=QI (P:=P) (e:=e) (hrr k hkl) hz hg (by simp at hsz;omega);refine⟨v,w, ?_,st.put ht (m8 hp) hvr⟩;unfold execOp;simp[Instr.index,asIntOf,run_underlying hT.u,hex,he,hkm,LdT.size (P:=P) (t:=e),hrun]
class FtT(P:Program)(s f:Nat)(ty off:outParam Nat):Prop where
 i:∃ fs fld,P.underlying s=some (.struct fs)/\fs[f]? = some fld/\fld.offset=off/\fld.type=ty
theorem R.pick{c x y:Operand}{t:Nat}{d:D}{b:Bool}{rt:TypeId}
 (hc:ev C.gl σ c=some (.bool b)) (hx:(bif b then ev C.gl σ x else ev C.gl σ y)=some d) (hp:d.pur=true) (ht:t<σ.n) :
 OpS P C ⟨some t,.pick c x y,rt,pos,aft,g⟩ σ (σ.set t d):=by
 refine OpS.value fun a w ⟨ρ,Fe,Fb,st⟩=>?_;obtain⟨Fc,hvc,_⟩:=m5 st hc rfl;simp only[VR,D.isAgg,Bool.false_eq_true,if_false] at hvc;generalize hec:a.eval c=vc at hvc;cases hvc
 cases b with
 | true=>
  simp only[cond_true] at hx;obtain⟨F,hv,_⟩:=m5 st hx (m8 hp);have hF:=hv.pur hp;subst hF;refine⟨a.eval x,w, ?_,st.put ht (m8 hp) hv⟩;unfold execOp;simp[hec,asBool]
 | false=>
  simp only[cond_false] at hx;obtain⟨F,hv,_⟩:=m5 st hx (m8 hp);have hF:=hv.pur hp;subst hF;refine⟨a.eval y,w, ?_,st.put ht (m8 hp) hv⟩;unfold execOp;simp[hec,asBool]
theorem VA{c x y:Operand}{t:Nat}{d:D}{b:Bool}{rt:TypeId}
 (hc:ev C.gl σ c=some (.bool b)) (hb:b=true) (hx:ev C.gl σ x=some d) (hp:d.pur=true) (ht:t<σ.n) :
 OpS P C ⟨some t,.pick c x y,rt,pos,aft,g⟩ σ (σ.set t d):=R.pick hc (by rw[hb];exact hx) hp ht
theorem VE{c x y:Operand}{t:Nat}{d:D}{b:Bool}{rt:TypeId}
 (hc:ev C.gl σ c=some (.bool b)) (hb:b=false) (hx:ev C.gl σ y=some d) (hp:d.pur=true) (ht:t<σ.n) :
 OpS P C ⟨some t,.pick c x y,rt,pos,aft,g⟩ σ (σ.set t d):=R.pick hc (by rw[hb];exact hx) hp ht
theorem c8{op:BinOp}{xt yt ty:TypeId}{x y:Operand}{t:Nat}{dx dy d d':D}{s:Prop}
 (hx:ev C.gl σ x=some dx) (hy:ev C.gl σ y=some dy) (ha:arith op dx dy=some (s,d')) (hs:s) (he:d'=d) (ht:t<σ.n) :
 OpS P C ⟨some t,.binOp op xt x y yt,ty,pos,aft,g⟩ σ (σ.set t d):=by subst he;exact R.bin hx hy ha hs ht
theorem Q5{src dst ty:TypeId}{k k0:IntKind}{x:Operand}{t:Nat}{dx d d':D}[h0:IkT P src k0][hT:IkT P dst k]
 (hx:ev C.gl σ x=some dx) (hc:PM k dx=some d') (he:d'=d) (ht:t<σ.n):OpS P C ⟨some t,.convert src dst x,ty,pos,aft,g⟩ σ (σ.set t d):=by subst he;exact R.conv hx hc ht
theorem C9{a c:Int}(h:a=c)(h0:-9223372036854775808<=c)(h1:c<9223372036854775808):D.int (wr a)=D.int c:=by
 subst h
 have:wr a=a:=by unfold wr;rw[IntKind.wrap_i64];omega
 rw[this]
class EqT(P:Program)(t:TypeId):Prop where
 i:P.eqGuardType P.depth t=false
theorem QR{e:TypeId}[hk:IkT P e .u8][hL:LdT P e 1 false](w:World)(d:Nat)(xs ys:List UInt8)(n:Nat)(hx:xs.length=n)(hy:ys.length=n)(cx cy:Array Value)
 (h1:cx.toList=xs.map (fun b=>Value.int .u8 b.toNat)) (h2:cy.toList=ys.map (fun b=>Value.int .u8 b.toNat)):∀ (l:List Nat),(∀ i∈l,i<n) ->
 (Op.eqItems (d+1) e 1 cx cy l).run P w=.ok (l.all fun i=>xs[i]? == ys[i]?) w:=by
 intro l
 induction l with
 | nil=>intro _;simp[Op.eqItems]
 | cons i l ih=>
  intro h;have hi:=h i (by simp)
  have hp:∀ (cs:Array Value) (zs:List UInt8) (hz:zs.length=n),cs.toList=zs.map (fun b=>Value.int .u8 b.toNat)->(part e cs (i*1)).run P w=.ok (.int .u8 (zs[i]'(by omega)).toNat) w:=by
   intro cs zs hz hc
   have hi':i<cs.size:=by
    have:=congrArg List.length hc;simp at this;omega
   have:cs[i]=.int .u8 (zs[i]'(by omega)).toNat:=by
    have e1:cs.toList[i]'(by simpa using hi')=(zs.map (fun b=>Value.int .u8 b.toNat))[i]'(by simp;omega):=by simp only[hc]
    simpa using e1
   simp[part,LdT.agg (P:=P) (t:=e),hi',this]
  have e3:=hp cx xs hx h1;have e4:=hp cy ys hy h2
  obtain⟨k,hku⟩:∃ k,P.underlying e=some (.int k):=⟨_,hk.u⟩
  have e5:=run_equalIn_int (P:=P) w d e .u8 k (xs[i]'(by omega)).toNat (ys[i]'(by omega)).toNat hku;have ex:xs[i]? = some (xs[i]'(by omega)):=List.getElem?_eq_getElem _;have ey:ys[i]? = some (ys[i]'(by omega)):=List.getElem?_eq_getElem _
  have eb:((((xs[i]'(by omega)).toNat:Int))==(((ys[i]'(by omega)).toNat:Int)))=(xs[i]? == ys[i]?):=by
   rw[ex,ey,RZ];rfl
  have ih':=ih (fun j hj=>h j (List.mem_cons_of_mem _ hj));simp only[Op.eqItems,Sem.run_bind,e3,e4,e5,Result.andThen_ok,eb,List.all_cons]
  cases hb:(xs[i]? == ys[i]?) with
  | true=>simpa using ih'
  | false=>simp
theorem k29(n:Nat)(xs ys:List UInt8)(hx:xs.length=n)(hy:ys.length=n):((List.range n).all fun i=>xs[i]? == ys[i]?)=(xs==ys):=by
 rw[Bool.eq_iff_iff];simp only[List.all_eq_true,List.mem_range,beq_iff_eq];constructor
 ·intro h;apply List.ext_getElem?;intro i;by_cases hi:i<n
  ·exact h i hi
  ·rw[List.getElem?_eq_none (by omega),List.getElem?_eq_none (by omega)]
 ·rintro rfl i _;rfl
theorem NT{G L:Nat->Prop}{p:Bool}{n:Nat}{xs:List UInt8}{cs:List Value}{F:List Nat}(h:Rc w ρ G L p (.arr n 1 (xs.map .u8)) cs F):xs.length=n/\cs=xs.map (fun b=>Value.int .u8 b.toNat):=by
 cases h with
 | arr _ _ _ _ hl hs hr=>
  have hl':xs.length=n:=by simpa using hl
  refine⟨hl', ?_⟩;apply List.ext_getElem?;intro i;by_cases hi:i<n
  ·have hic:i<cs.length:=by omega
   have:=hr i (by simp;omega);rw[Nat.mul_one,List.drop_eq_getElem_cons hic,List.take_succ_cons,List.take_zero] at this;simp only[List.getElem_map] at this;rw[List.getElem?_eq_getElem hic,List.getElem?_eq_getElem (by simp;omega)];generalize hc:[cs[i]]=c at this;cases this;simp at hc;simp[hc]
  ·rw[List.getElem?_eq_none (by omega),List.getElem?_eq_none (by simp;omega)]
theorem R.eqA{neg:Bool}{x y:Operand}{t e n:Nat}{xs ys:List UInt8}{xt yt ty:TypeId}[hT:ArT P xt n e][hk:IkT P e .u8][hL:LdT P e 1 false][hE:EqT P xt]
 (hx:ev C.gl σ x=some (.arr n 1 (xs.map .u8))) (hy:ev C.gl σ y=some (.arr n 1 (ys.map .u8))) (ht:t<σ.n) :
 OpS P C ⟨some t,.binOp (bif neg then .neq else .eql) xt x y yt,ty,pos,aft,g⟩ σ (σ.set t (.bool (bif neg then xs != ys else xs==ys))):=by
 refine OpS.value fun a w ⟨ρ,Fe,Fb,st⟩=>?_;obtain⟨Fx,hvx,_⟩:=m5 st hx rfl;obtain⟨Fy,hvy,_⟩:=m5 st hy rfl;simp only[VR,D.isAgg,if_true] at hvx hvy;obtain⟨cx,hex,hvx⟩:=hvx;obtain⟨cy,hey,hvy⟩:=hvy;obtain⟨hlx,hcx⟩:=NT hvx;obtain⟨hly,hcy⟩:=NT hvy;obtain⟨d,i,_,_,hi,hsz⟩:=hL.i
 have hce:P.cellsOf e=1:=by simp[Program.cellsOf,hi,hsz]
 have heq:(Op.equalIn 10000 xt (.agg cx) (.agg cy)).run P w=.ok (xs==ys) w:=by
  rw[show(10000:Nat)=9999+1 from rfl,run_equalIn_array w 9999 cx cy hT.u hi,hce,show(9999:Nat)=9998+1 from rfl,
   QR (P:=P) w 9998 xs ys n hlx hly cx cy hcx hcy _ (fun i hi=>List.mem_range.1 hi),k29 n xs ys hlx hly]
 refine⟨.bool (bif neg then xs != ys else xs==ys),w, ?_,st.put ht rfl ?_⟩
 ·unfold execOp
  cases neg with
  | false=>simp only[cond_false,hex,hey,Sem.run_bind,run_eqGuard_agg w .eql xt x y cx cy hE.i,run_eql_struct,heq,Result.andThen_ok,Sem.run_pure]
  | true=>simp only[cond_true,hex,hey,Sem.run_bind,run_eqGuard_agg w .neq xt x y cx cy hE.i,run_neq_struct,heq,Result.andThen_ok,Sem.run_pure];rfl
 ·simp only[VR,D.isAgg,Bool.false_eq_true,if_false];exact .bool _
end Go.Sx

namespace Go.Sx
variable{P:Program}{C:Ctx}{σ σ' σ1:Sg}{a:Act}{w w':World}{ρ:Nat->Nat}{Fe Fe' Fb:Nat->List Nat}
theorem OT(cs xs:List Value)(off M p:Nat)(h1:off+M<=cs.length)(h2:p+xs.length<=M) :
 cs.take off++(((cs.drop off).take M).take p++xs++((cs.drop off).take M).drop (p+xs.length))++cs.drop (off+M)=cs.take (off+p)++xs++cs.drop (off+p+xs.length):=by
 have e1:cs.take off++((cs.drop off).take M).take p=cs.take (off+p):=by
  rw[List.take_take,Nat.min_eq_left (by omega),<- List.take_add]
 have e2:((cs.drop off).take M).drop (p+xs.length)++cs.drop (off+M)=cs.drop (off+p+xs.length):=by
  rw[List.drop_take,List.drop_drop];have:=List.take_append_drop (M-(p+xs.length)) (cs.drop (off+(p+xs.length)));rw[List.drop_drop,show off+(p+xs.length)+(M-(p+xs.length))=off+M by omega] at this;rw[this,Nat.add_assoc]
 rw[<- e1,<- e2];simp only[List.append_assoc]
theorem R.cpA{s t e z bytes id off n lo m:Nat}{path:List Nat}{d0 d':D}{l l':List D}{x:Operand}{ty ty2 rt:TypeId}{pos:String}{aft:Array Edge}{g:Option (Nat×Bool)}[hT:SlT P ty e][hE:ElT P e z bytes]
 (h:σ.get s=some (.va id off z n path lo)) (hb:σ.box id=some (.var d0)) (hl:d0.loc path=some (off,.arr m z l)) (hlo:lo+n<=m) (hx:SrcO C.gl σ x z l') (hnp:∀ y∈l',y.np=true) (ht:t<σ.n)
 (hu:d0.upd path (.arr m z (l.take lo++l'.take (min l'.length n)++l.drop (lo+min l'.length n)))=some d') :
 OpS P C ⟨some t,.call { callee:=.builtin .copy,args:=#[.tmp s,x],argTypes:=#[ty,ty2] },rt,pos,aft,g⟩ σ ((σ.putB id (.var d')).set t (.int (min l'.length n:Nat))):=by
 refine OpS.value fun a w ⟨ρ,Fe,Fb,st⟩=>?_;obtain⟨_,hid,cap,o',hcap,ho',hv⟩:=st.env _ _ h;obtain⟨cs,e',F',hb',hr,hFb⟩:=st.bx _ _ hb;obtain⟨base,cap2,hxe,hsr,hp⟩:=hx.ok st;obtain⟨_,news,q1,q2,q3,q4⟩:=FW hsr hp;obtain⟨Fa,h1,h2,h3⟩:=hr.loc hl;have hFa:=h1.pur rfl;subst hFa
 have hnd:F'.Nodup:=by have:=st.nodB id;rw[hFb] at this;exact(List.nodup_cons.1 this).2
 generalize hk:min l'.length n=k at hu
 have hkn:k<=n:=by omega
 have hkl:k<=l'.length:=by omega
 have hkz:k*z<=l'.length*z:=Nat.mul_le_mul_right z hkl
 have hxl:(news.take (k*z)).length=k*z:=by simp;omega
 have hlm:lo*z+k*z<=m*z:=by rw[<- Nat.add_mul];exact Nat.mul_le_mul_right z (by omega)
 cases h1 with
 | arr _ _ _ A hlm' hA hrA=>
 simp only[HJ] at h3 hA hrA
 -- the array behind
 have hrc:Rc w ρ (gd C Fe Fb) (fun id=>(σ.box id).isSome) false (.arr m z (l.take lo++l'.take k++l.drop (lo+k)))
  (((cs.toList.drop off).take (m*z)).take (lo*z)++news.take (k*z)++((cs.toList.drop off).take (m*z)).drop (lo*z+(news.take (k*z)).length)) []:=by
  have hp0:lo*z+(news.take (k*z)).length<=((cs.toList.drop off).take (m*z)).length:=by rw[hxl,hA];exact hlm
  refine .arr m z _ _ (by simp;omega) (by rw[U5 _ _ _ hp0,hA]) (fun i hi=>?_)
  have hi':i<m:=by simp at hi;omega
  have hiz:i*z+z<=m*z:=by
   have:=Nat.mul_le_mul_right z (show i+1<=m by omega);rw[Nat.add_mul] at this;omega
  rcases Nat.lt_or_ge i lo with h5|h5
  ·have e1:(l.take lo++l'.take k++l.drop (lo+k))[i]=l[i]'(by omega):=by
    rw[List.getElem_append_left (by simp;omega),List.getElem_append_left (by simp;omega),List.getElem_take]
   have h6:(i+1)*z<=lo*z:=Nat.mul_le_mul_right z h5;rw[Nat.add_mul] at h6;rw[e1,M7 _ _ _ _ _ hp0 (.inl (by omega))];exact hrA i (by omega)
  ·rcases Nat.lt_or_ge i (lo+k) with h6|h6
   ·have e1:(l.take lo++l'.take k++l.drop (lo+k))[i]=l'[i-lo]'(by omega):=by
     have h7:(l.take lo).length=lo:=by simp;omega
     rw[List.getElem_append_left (by simp;omega),List.getElem_append_right (by omega),List.getElem_take];simp only[h7]
    have h8:=HO (((cs.toList.drop off).take (m*z)).take (lo*z)) (news.take (k*z)) (((cs.toList.drop off).take (m*z)).drop (lo*z+(news.take (k*z)).length)) (i-lo) lo k z (by rw[List.length_take,hA];omega) hxl (by omega);rw[show lo+(i-lo)=i by omega,<- List.append_assoc] at h8;rw[e1,h8];have h9:=ZE (news.take (k*z)) (news.drop (k*z)) (i-lo) k z hxl (by omega);rw[List.take_append_drop] at h9;rw[<- h9];exact q4 (i-lo) (by omega)
   ·have e1:(l.take lo++l'.take k++l.drop (lo+k))[i]=l[i]'(by omega):=by
     have h7:(l.take lo++l'.take k).length=lo+k:=by simp;omega
     rw[List.getElem_append_right (by omega),List.getElem_drop];simp only[h7,show lo+k+(i-(lo+k))=i by omega]
    have h7:(lo+k)*z<=i*z:=Nat.mul_le_mul_right z h6;rw[Nat.add_mul] at h7;rw[e1,M7 _ _ _ _ _ hp0 (.inr (by rw[hxl];exact h7))];exact hrA i (by omega)
 obtain⟨F2,g1,g2,g3,g4,g5⟩:=hr.upd hl hu (by simp) hrc hnd List.nodup_nil (by simp) (.inl rfl)
 have hsp:(((cs.toList.drop off).take (m*z)).take (lo*z)++news.take (k*z)++((cs.toList.drop off).take (m*z)).drop (lo*z+(news.take (k*z)).length)).length=m*z:=by
  rw[U5 _ _ _ (by rw[hxl,hA];exact hlm),hA]
 rw[hsp,OT _ _ _ _ _ h3 (by rw[hxl];exact hlm)] at g1
 have hnode:ρ id∉F2:=fun hm=>by
  have:=st.nodB id;rw[hFb] at this;exact(List.nodup_cons.1 this).1 ((g2 _ hm).resolve_right (by simp))
 have st2:=st.putB (x:=.var d') (Fe':=Fe) (σ1:=σ) (F':=ρ id::F2) (w':=w.setRow (ρ id) (cs.toList.take (off+lo*z)++news.take (k*z)++cs.toList.drop (off+lo*z+(news.take (k*z)).length)).toArray)
  hb rfl rfl (fun u d hd=>.inl ⟨hd,rfl⟩) st.envN (fun u=>.inl rfl) rfl ⟨rfl,Nat.le_refl _⟩ rfl (by simp) (fun b hbne=>setRow_other w (ρ id) b _ hbne) (List.nodup_cons.2 ⟨hnode,g3⟩) (by simp)
  (fun b hbm=>.inl (by
   rw[hFb]
   rcases List.mem_cons.1 hbm with rfl|hm
   ·simp
   ·exact List.mem_cons_of_mem _ ((g2 b hm).resolve_right (by simp))))
  ⟨_,e',F2,setRow_heap w (ρ id) cs _ e' (0,0) hb',by
   simp only;refine g1.mono (fun b hbb _=>setRow_other w (ρ id) b _ ?_) (fun b hbb _=>⟨hbb.1,fun ho=>hbb.2 ?_⟩) (fun i hi=>⟨hi,rfl⟩)
   ·rintro rfl
    rcases hbb with hbb|hbb
    ·exact hbb.2 (.inr ⟨id,by rw[hFb];simp⟩)
    ·exact hnode hbb
   ·rcases ho with ⟨u,hu⟩|⟨i,hi⟩
    ·exact .inl ⟨u,hu⟩
    ·by_cases hid:i=id
     ·subst hid;rw[j1] at hi;refine .inr ⟨i, ?_⟩;rw[hFb]
      rcases List.mem_cons.1 hi with rfl|hm
      ·simp
      ·exact List.mem_cons_of_mem _ ((g2 b hm).resolve_right (by simp))
     ·rw[q7 hid] at hi;exact .inr ⟨i,hi⟩,rfl⟩
 refine⟨.int .i64 (k:Nat),w.setRow (ρ id) (cs.toList.take (off+lo*z)++news.take (k*z)++cs.toList.drop (off+lo*z+(news.take (k*z)).length)).toArray, ?_, ?_⟩
 rotate_left
 ·exact st2.put (t:=t) (d:=.int (k:Nat)) (v:=.int .i64 (k:Nat)) (by simpa using ht) rfl (by simp only[VR,D.isAgg,Bool.false_eq_true,if_false];exact .int _)
 ·have hfc:(Builtin.firstCells z k (.slice base l'.length cap2)).run P w=.ok (news.take (k*z)).toArray w:=by
   rcases q1 with ⟨rfl,rfl,rfl⟩|⟨ad,rfl,hn⟩
   ·have:k=0:=by simp at hkl;exact hkl
    subst this;simp[Builtin.firstCells]
   ·refine run_firstCells_some w z k ad l'.length cap2 _ hxl (fun j u hu=>hn j u ?_);rw[List.getElem?_take] at hu;split at hu
    ·exact hu
    ·cases hu
  have hst:(storeCells ⟨ρ id,o',none⟩ (news.take (k*z)) 0).run P w=.ok () (w.setRow (ρ id) (cs.toList.take (off+lo*z)++news.take (k*z)++cs.toList.drop (off+lo*z+(news.take (k*z)).length)).toArray):=by
   rcases ho' with rfl|⟨rfl,rfl⟩
   ·have:=run_storeCells_at P (ρ id) (off+lo*z) e' (news.take (k*z)) 0 cs w hb' (by
     rw[hxl];simp only[Array.length_toList] at h3
     omega) (fun u hu=>q3 u (List.mem_of_mem_take hu))
    simpa using this
   ·have hk0:k=0:=by omega
    subst hk0;simp only[Nat.zero_mul,List.take_zero,List.append_nil,List.length_nil,Nat.add_zero,List.take_append_drop,Array.toArray_toList];rw[setRow_self w (ρ id) cs e' (0,0) hb'];rfl
  unfold execOp;have hmin:Nat.min l'.length n=k:=hk;simp[resolve,invoke,builtin,Builtin.copy_,run_underlying hT.u,j8 hv,hxe,Builtin.lenOf,ElT.size (P:=P) (e:=e),hmin,hfc,hst,goInt]
end Go.Sx

namespace Go.Sx
variable{pos:String}{aft:Array Edge}{g:Option (Nat×Bool)}
variable{P:Program}{C:Ctx}{σ σ' σ1:Sg}{a:Act}{w w':World}{ρ:Nat->Nat}{Fe Fe' Fb:Nat->List Nat}
class BaT(P:Program)(t:TypeId)(n e z:outParam Nat):Prop where
 i:∃ it zv ie,P.underlying t=some (.array n e)/\P.info? t=some it/\it.zero=some zv/\P.info? e=some ie/\ie.size=z/\zv.cells.size=n*z
theorem R.bldA{t n e z:Nat}{ps:List (Nat×Operand)}{ds:List D}{ty rt:TypeId}[hT:BaT P ty n e z]
 (hps:evs C.gl σ ps 0=some ds) (hp:q41 z ds) (hk:ds.length=n) (ht:t<σ.n) :
 OpS P C ⟨some t,.build ty ps.toArray,rt,pos,aft,g⟩ σ (σ.set t (.arr n z ds)):=by
 refine OpS.value fun a w ⟨ρ,Fe,Fb,st⟩=>?_;obtain⟨it,zv,ie,h1,h2,h3,h4,h5,h6⟩:=hT.i;subst hk;obtain⟨out,q1,q2,q3,q4⟩:=EI (w:=w) (ρ:=ρ) (z:=z) (fun x d h hp=>L9 st h hp) ps 0 ds zv.cells hps hp (by rw[h6];simp);simp only[Nat.zero_add] at q4
 have hps2:(ps.toArray.map fun x=>(x.1,a.eval x.2)).toList=ps.map (fun p=>(p.1,a.eval p.2)):=by simp
 have hpur:(D.arr ds.length z ds).pur=true:=rfl;refine⟨.agg out,w, ?_,st.put ht rfl ?_⟩
 ·have:=run_build (P:=P) w ty (ps.toArray.map fun x=>(x.1,a.eval x.2)) out (by
   rw[hps2];simp only[Program.built,h1,h2,h3,h4,h5]
   exact q1)
  unfold execOp;simp only[Sem.run_bind,this,Result.andThen_ok,Sem.run_pure]
 ·simp only[VR,D.isAgg,if_true];exact⟨out,rfl,.arr _ _ _ _ rfl (by simp[q2,h6]) q4⟩
def offl:List D->Nat->List (Nat×Nat)
 | [],_=>[]
 | d::r,o=>(o,d.sz)::offl r (o+d.sz)
theorem AR(l:List D)(o i:Nat)(h:i<l.length):(offl l o)[i]? = some (o+offk l i,l[i].sz):=by
 induction l generalizing o i with
 | nil=>simp at h
 | cons d r ih=>
  cases i with
  | zero=>simp[offl,offk]
  | succ i=>
   simp only[offl,List.getElem?_cons_succ];rw[ih (o+d.sz) i (by simpa using h)];simp[W5,Nat.add_assoc]
class BsT(P:Program)(t:TypeId)(l:outParam (List D)):Prop where
 i:∃ fs it zv,P.underlying t=some (.struct fs)/\P.info? t=some it/\it.zero=some zv/\fs.toList.mapM (fun f=>(P.info? f.type).map fun i=>(f.offset,i.size))=some (offl l 0)/\chk (.agg l) zv.cells.toList=true
def BZ(gl:List (Nat×D))(σ:Sg):List (Nat×Operand)->List D->Option (List D)
 | [],l=>some l
 | (i,x)::r,l=>match ev gl σ x with
  | some d=>BZ gl σ r (l.set i d)
  | none=>none
def j55(gl:List (Nat×D))(σ:Sg)(l:List D):List (Nat×Operand)->Prop
 | []=>True
 | (i,x)::r=>(∃ d,ev gl σ x=some d/\d.pur=true/\d.np=true/\(l[i]?).map D.sz=some d.sz)/\j55 gl σ l r
theorem EF{G L:Nat->Prop}{gl:List (Nat×D)}{l0:List D}(hv:∀ x d,ev gl σ x=some d->d.pur=true->∃ cs:List Value,(a.eval x).cells.toList=cs/\Rc w ρ G L true d cs []) :
 ∀ (ps:List (Nat×Operand)) (l l':List D) (cs:Array Value),BZ gl σ ps l=some l'->j55 gl σ l0 ps->l.map D.sz=l0.map D.sz->Rc w ρ G L false (.agg l) cs.toList [] ->
  ∃ out:Array Value,Instr.fill ((offl l0 0).toArray[·]?) cs (ps.map (fun p=>(p.1,a.eval p.2)))=some out/\Rc w ρ G L false (.agg l') out.toList []:=by
 intro ps
 induction ps with
 | nil=>intro l l' cs h _ _ hr;simp only[BZ,Option.some.injEq] at h;subst h;exact⟨cs,rfl,hr⟩
 | cons p ps ih=>
  intro l l' cs h hp hz hr;obtain⟨i,x⟩:=p;obtain⟨⟨d,hx,p1,p2,p3⟩,p4⟩:=hp;simp only[BZ,hx] at h;obtain⟨xc,hxc,hrc⟩:=hv x d hx p1;have hlen:=hrc.len
  cases hl0:l0[i]? with
  | none=>rw[hl0] at p3;cases p3
  | some d0=>
   obtain⟨hi,rfl⟩:=List.getElem?_eq_some_iff.1 hl0;rw[hl0] at p3;simp only[Option.map_some,Option.some.injEq] at p3
   have hll:l.length=l0.length:=by have:=congrArg List.length hz;simpa using this
   have hi2:i<l.length:=by omega
   have hsi:l[i].sz=d.sz:=by
    have:(l.map D.sz)[i]'(by simpa using hi2)=(l0.map D.sz)[i]'(by simpa using hi):=by simp only[hz]
    simp at this;omega
   have hoff:offk l i=offk l0 i:=by
    have hs:∀ (u v:List D),u.map D.sz=v.map D.sz->Z5 u=Z5 v:=by
     intro u
     induction u with
     | nil=>intro v hv;cases v<;>simp_all
     | cons a u ihu=>intro v hv;cases v with
      | nil=>simp at hv
      | cons b v=>simp at hv;simp[hv.1,ihu v hv.2]
    unfold offk;exact hs _ _ (by rw[List.map_take,List.map_take,hz])
   have hlo:=H9 l i hi2;have hcl:=hr.len;simp only[S9,Array.length_toList] at hcl
   have hloc:(D.agg l).loc [i]=some (offk l i,l[i]):=by simp[D.loc,List.getElem?_eq_getElem hi2]
   have hupd:(D.agg l).upd [i] d=some (.agg (l.set i d)):=by simp[D.upd,List.getElem?_eq_getElem hi2]
   obtain⟨F2,g1,g2,_⟩:=hr.upd hloc hupd hsi.symm (hrc.unflag p2) List.nodup_nil List.nodup_nil (by simp) (.inl rfl)
   have hF2:F2=[]:=by
    cases F2 with
    | nil=>rfl
    | cons b r=>have:=g2 b (by simp);simp at this
   subst hF2;have hfold:=F9 cs xc (offk l i) 0 (by omega);simp only[Nat.add_zero] at hfold
   have hcs2:((a.eval x).cells.zipIdx.foldl (fun(c:Array Value) (p:Value×Nat)=>c.setIfInBounds (offk l i+p.2) p.1) cs).toList=cs.toList.take (offk l i)++xc++cs.toList.drop (offk l i+xc.length):=by
    rw[<- hfold,<- hxc,<- Array.foldl_toList];simp
   rw[<- hcs2] at g1
   obtain⟨out,q1,q2⟩:=ih (l.set i d) l' _ h p4 (by
    rw[List.map_set,<- hsi];rw[<- hz];apply List.ext_getElem?;intro j;rw[List.getElem?_set];split
    ·rename_i hij;subst hij;simp[hi2]
    ·rfl) g1
   refine⟨out, ?_,q2⟩;simp only[List.map_cons,Instr.fill]
   have hpl:(offl l0 0).toArray[i]? = some (offk l i,d.sz):=by
    rw[List.getElem?_toArray,AR l0 0 i hi,hoff,Nat.zero_add,<- p3]
   have hsz:(a.eval x).cells.size=d.sz:=by rw[<- Array.length_toList,hxc,hlen]
   simp only[hpl,hsz];rw[if_neg (by simp;omega)];exact q1
theorem R.bldS{t:Nat}{ps:List (Nat×Operand)}{l l':List D}{ty rt:TypeId}[hT:BsT P ty l]
 (hps:BZ C.gl σ ps l=some l') (hp:j55 C.gl σ l ps) (ht:t<σ.n) :
 OpS P C ⟨some t,.build ty ps.toArray,rt,pos,aft,g⟩ σ (σ.set t (.agg l')):=by
 refine OpS.value fun a w ⟨ρ,Fe,Fb,st⟩=>?_;obtain⟨fs,it,zv,h1,h2,h3,h4,h5⟩:=hT.i;obtain⟨out,q1,q2⟩:=EF (w:=w) (ρ:=ρ) (l0:=l) (fun x d h hp=>L9 st h hp) ps l l' zv.cells hps hp rfl (f9 _ _ _ _ _ _ h5)
 have hps2:(ps.toArray.map fun x=>(x.1,a.eval x.2)).toList=ps.map (fun p=>(p.1,a.eval p.2)):=by simp
 refine⟨.agg out,w, ?_,st.put ht rfl ?_⟩
 ·have:=run_build (P:=P) w ty (ps.toArray.map fun x=>(x.1,a.eval x.2)) out (by
   rw[hps2];simp only[Program.built,h1,h2,h3,h4]
   exact q1)
  unfold execOp;simp only[Sem.run_bind,this,Result.andThen_ok,Sem.run_pure]
 ·simp only[VR,D.isAgg,if_true];exact⟨out,rfl,q2.flag⟩
end Go.Sx

namespace Go.Sx
variable{P:Program}{C:Ctx}{σ σ' σ1:Sg}{xt yt ty:TypeId}{x y:Operand}{t:Nat}{pos:String}{aft:Array Edge}{g:Option (Nat×Bool)}
theorem evt{gl:List (Nat×D)}{σ:Sg}{s:Nat}{d:D}(h:σ.get s=some d):ev gl σ (.tmp s)=some d:=h
theorem RP(m n:Nat)(hx:ev C.gl σ x=some (.int (m:Int)))(hy:ev C.gl σ y=some (.int (n:Int)))(h:m+n<9223372036854775808)(ht:t<σ.n) :
 OpS P C ⟨some t,.binOp .add xt x y yt,ty,pos,aft,g⟩ σ (σ.set t (.int ((m+n:Nat):Int))):=
 c8 hx hy rfl trivial (C9 (by omega) (by omega) (by omega)) ht
theorem JC(m n:Nat)(hx:ev C.gl σ x=some (.int (m:Int)))(hy:ev C.gl σ y=some (.int (n:Int)))(h:n<=m)(h2:m<9223372036854775808)(ht:t<σ.n) :
 OpS P C ⟨some t,.binOp .sub xt x y yt,ty,pos,aft,g⟩ σ (σ.set t (.int ((m-n:Nat):Int))):=
 c8 hx hy rfl trivial (C9 (by omega) (by omega) (by omega)) ht
theorem RH(m n:Nat)(hx:ev C.gl σ x=some (.int (m:Int)))(hy:ev C.gl σ y=some (.int (n:Int)))(h:m*n<9223372036854775808)(ht:t<σ.n) :
 OpS P C ⟨some t,.binOp .mul xt x y yt,ty,pos,aft,g⟩ σ (σ.set t (.int ((m*n:Nat):Int))):=
 c8 hx hy rfl trivial (C9 (by rw[Int.natCast_mul]) (by have:(0:Int)<=((m*n:Nat):Int):=Int.natCast_nonneg _;omega) (by omega)) ht
theorem C7(m n:Nat)(hx:ev C.gl σ x=some (.int (m:Int)))(hy:ev C.gl σ y=some (.int (n:Int)))(h:0<n)(h2:m<9223372036854775808)(ht:t<σ.n) :
 OpS P C ⟨some t,.binOp .quo xt x y yt,ty,pos,aft,g⟩ σ (σ.set t (.int ((m/n:Nat):Int))):=
 c8 hx hy rfl (show(n:Int)≠0 by omega) (C9 (by rw[Int.ofNat_tdiv]) (by have:(0:Int)<=((m/n:Nat):Int):=Int.natCast_nonneg _;omega) (by have:=Nat.div_le_self m n;omega)) ht
theorem E3(m n:Nat)(hx:ev C.gl σ x=some (.int (m:Int)))(hy:ev C.gl σ y=some (.int (n:Int)))(h:0<n)(ht:t<σ.n) :
 OpS P C ⟨some t,.binOp .rem xt x y yt,ty,pos,aft,g⟩ σ (σ.set t (.int ((m%n:Nat):Int))):=
 c8 hx hy rfl (show(n:Int)≠0 by omega) (congrArg D.int (by rw[Int.ofNat_tmod])) ht
theorem RD(m n:Nat)(hx:ev C.gl σ x=some (.int (m:Int)))(hy:ev C.gl σ y=some (.int (n:Int)))(ht:t<σ.n) :
 OpS P C ⟨some t,.binOp .lss xt x y yt,ty,pos,aft,g⟩ σ (σ.set t (.bool (decide (m<n)))):=c8 hx hy rfl trivial (congrArg D.bool (by rw[Bool.eq_iff_iff];simp)) ht
theorem DW(m n:Nat)(hx:ev C.gl σ x=some (.int (m:Int)))(hy:ev C.gl σ y=some (.int (n:Int)))(ht:t<σ.n) :
 OpS P C ⟨some t,.binOp .leq xt x y yt,ty,pos,aft,g⟩ σ (σ.set t (.bool (decide (m<=n)))):=c8 hx hy rfl trivial (congrArg D.bool (by rw[Bool.eq_iff_iff];simp)) ht
theorem k41(m n:Nat)(hx:ev C.gl σ x=some (.int (m:Int)))(hy:ev C.gl σ y=some (.int (n:Int)))(ht:t<σ.n) :
 OpS P C ⟨some t,.binOp .gtr xt x y yt,ty,pos,aft,g⟩ σ (σ.set t (.bool (decide (n<m)))):=c8 hx hy rfl trivial (congrArg D.bool (by rw[Bool.eq_iff_iff];simp)) ht
theorem x79(m n:Nat)(hx:ev C.gl σ x=some (.int (m:Int)))(hy:ev C.gl σ y=some (.int (n:Int)))(ht:t<σ.n) :
 OpS P C ⟨some t,.binOp .geq xt x y yt,ty,pos,aft,g⟩ σ (σ.set t (.bool (decide (n<=m)))):=c8 hx hy rfl trivial (congrArg D.bool (by rw[Bool.eq_iff_iff];simp)) ht
theorem x80(m n:Nat)(hx:ev C.gl σ x=some (.int (m:Int)))(hy:ev C.gl σ y=some (.int (n:Int)))(ht:t<σ.n) :
 OpS P C ⟨some t,.binOp .eql xt x y yt,ty,pos,aft,g⟩ σ (σ.set t (.bool (decide (m=n)))):=c8 hx hy rfl trivial (congrArg D.bool (by rw[Bool.eq_iff_iff];simp;omega)) ht
theorem k39(m n:Nat)(hx:ev C.gl σ x=some (.int (m:Int)))(hy:ev C.gl σ y=some (.int (n:Int)))(ht:t<σ.n) :
 OpS P C ⟨some t,.binOp .neq xt x y yt,ty,pos,aft,g⟩ σ (σ.set t (.bool (decide (m≠n)))):=c8 hx hy rfl trivial (congrArg D.bool (by rw[Bool.eq_iff_iff];simp;omega)) ht
theorem j5{α:Type}[Inhabited α]{f:α->D}{l:List α}{i:Nat}(h:i<l.length):(l.map f)[i]? = some (f l[i]!):=by
 rw[List.getElem?_map,List.getElem?_eq_getElem h];simp[h]
theorem z6{Q:Exit->Sg->Prop}{x y:Code}{t:Nat}{p:Prop}[Decidable p](ht:σ.get t=some (.bool (decide p)))(h1:p->W P C x Q σ)(h2:¬ p->W P C y Q σ):W P C (.cond (.tmp t) x y) Q σ:=
 W.cond ht (fun h=>h1 (of_decide_eq_true h)) (fun h=>h2 (of_decide_eq_false h))
theorem u7{Q:Exit->Sg->Prop}{x y:Code}{t:Nat}{b:Bool}(ht:σ.get t=some (.bool b))(hb:b=true)(h1:W P C x Q σ):W P C (.cond (.tmp t) x y) Q σ:=
 W.cond ht (fun _=>h1) (fun h=>by rw[hb] at h;cases h)
theorem v4{Q:Exit->Sg->Prop}{x y:Code}{t:Nat}{b:Bool}(ht:σ.get t=some (.bool b))(hb:b=false)(h1:W P C y Q σ):W P C (.cond (.tmp t) x y) Q σ:=
 W.cond ht (fun h=>by rw[hb] at h;cases h) (fun _=>h1)
theorem RY{Q:Exit->Sg->Prop}{x y:Code}(M:Sg->Prop)(h1:W P C x (fun e s=>match e with | .normal=>M s|e=>Q e s) σ)(h2:∀ s,M s->W P C y Q s):W P C (.seq x y) Q σ:=
 W.seq (h1.mono (fun e s h=>by cases e<;>first|exact h2 s h|exact h))
theorem q8{rv:ResultVar}{r r':D}{e:Exit}{σ:Sg}(he:e=.normal∨e=.ret)(h:KT σ rv=some r')(hr:r'=r)(h1:r.isRef=false)(h2:r.np=true)(h3:VO P r rv):Ends [rv] P r e σ:=by
 subst hr;exact⟨he,h,h1,h2,h3⟩
theorem evg{gl:List (Nat×D)}{gg:Nat}{d:D}(hC:C.gl=gl)(h:lk gl gg=some d):ev C.gl σ (.global gg)=some (.rp d):=by
 rw[hC];simp only[ev,h,Option.map_some]
theorem b4{gl:List (Nat×D)}{n m:Int}(h:ev gl σ x=some (.int n)):evo gl σ (some x) m=some n:=by simp only[evo,h,D.cnt]
theorem w35{gl:List (Nat×D)}{n:UInt64}{m:Int}(h:ev gl σ x=some (.u64 n)):evo gl σ (some x) m=some (n.toNat:Int):=by simp only[evo,h,D.cnt]
theorem j2{α:Type}{f:α->D}{l:List α}(h:∀ x,(f x).brw=f x):(l.map f).map D.brw=l.map f:=by simp[Function.comp_def,h]
theorem j6{α:Type}{f:α->D}{l:List α}(h:∀ x,Frs (f x)):∀ x∈l.map f,Frs x:=by
 intro x hx;obtain⟨y,_,rfl⟩:=List.mem_map.1 hx;exact h y
theorem c6{α:Type}{f:α->D}{l:List α}(h:∀ x,(f x).pur=true):∀ x∈l.map f,x.pur=true:=by
 intro x hx;obtain⟨y,_,rfl⟩:=List.mem_map.1 hx;exact h y
theorem MV{α:Type}{f:α->D}{l:List α}(h:∀ x,(f x).np=true):∀ x∈l.map f,x.np=true:=by
 intro x hx;obtain⟨y,_,rfl⟩:=List.mem_map.1 hx;exact h y
theorem j20:∀ x∈([]:List D),Frs x:=fun _ h=>by cases h
theorem XB{d:D}{l:List D}(h:Frs d)(hl:∀ x∈l,Frs x):∀ x∈d::l,Frs x:=fun x hx=>by
 rcases List.mem_cons.1 hx with rfl|hx
 ·exact h
 ·exact hl x hx
theorem FrsR.one{r:D}(h:Frs r):FrsR r:=.inr ⟨fun ds e=>(by rw[e] at h;cases h),h⟩
theorem w6{f:FuncId}[CaT P f]{gl:List (Nat×D)}{args:List Operand}{tys:Array TypeId}{rt:TypeId}{ds:List D}{r:D}
 (hC:C.gl=gl) (hF:Fn P gl f ds r) (hb:Bors C.gl σ args ds) (hr:FrsR r) (ht:t<σ.n) :
 OpS P C ⟨some t,.call { callee:=.value (.func f),args:=args.toArray,argTypes:=tys },rt,pos,aft,g⟩ σ (σ.set t r):=by
 subst hC;exact R.call hF hb hr ht
theorem X5{c:Code}{Q:Exit->Sg->Prop}{s:Nat}(e z:Nat)(h:σ.get s=some .nils)(k:W P C c Q (σ.upd s (.sl (some e) z []))):W P C c Q σ:=by
 intro a w ⟨ρ,Fe,Fb,st⟩;refine k a w ⟨ρ,_,Fb,st.turn (F:=[]) h rfl ⟨rfl,Nat.le_refl _⟩ rfl (Nat.le_refl _) (fun _ _ _=>rfl) List.nodup_nil (by simp) ?_⟩;obtain⟨v,hv,hr⟩:=(z9 rfl).1 (st.env _ _ h);simp only[VR,D.isAgg,Bool.false_eq_true,if_false] at hr;refine(z9 rfl).2 ⟨v,hv, ?_⟩;simp only[VR,D.isAgg,Bool.false_eq_true,if_false];rw[hr.nil_val];exact .slN _ _
inductive Evs(gl:List (Nat×D))(σ:Sg):List (Nat×Operand)->Nat->List D->Prop
 | nil {k:Nat}:Evs gl σ [] k []
 | cons {k:Nat} {x:Operand} {d:D} {ps:List (Nat×Operand)} {ds:List D} (h:ev gl σ x=some d) (t:Evs gl σ ps (k+1) ds):Evs gl σ ((k,x)::ps) k (d::ds)
theorem Evs.ok{gl:List (Nat×D)}{ps:List (Nat×Operand)}{k:Nat}{ds:List D}(h:Evs gl σ ps k ds):evs gl σ ps k=some ds:=by
 induction h with
 | nil=>rfl
 | cons h t ih=>simp[evs,h,ih]
inductive EvS(gl:List (Nat×D))(σ:Sg):List (Nat×Operand)->List D->List D->Prop
 | nil {l l':List D} (h:l=l'):EvS gl σ [] l l'
 | cons {i:Nat} {x:Operand} {d:D} {ps:List (Nat×Operand)} {l l':List D} (h:ev gl σ x=some d) (t:EvS gl σ ps (l.set i d) l'):EvS gl σ ((i,x)::ps) l l'
theorem EvS.ok{gl:List (Nat×D)}{ps:List (Nat×Operand)}{l l':List D}(h:EvS gl σ ps l l'):BZ gl σ ps l=some l':=by
 induction h with
 | nil h=>subst h;rfl
 | cons h t ih=>simp[BZ,h,ih]
theorem w8{t e z bytes k:Nat}{ps:List (Nat×Operand)}{ds:List D}{ty rt:TypeId}{pos:String}{aft:Array Edge}{g:Option (Nat×Bool)}[hT:SlT P ty e][hE:ElT P e z bytes]
 (hps:Evs C.gl σ ps 0 ds) (hp:q41 z ds) (hk:ds.length=k) (ht:t<σ.n) (hsm:k*z<=16777216) :
 OpS P C ⟨some t,.buildSlice ty k ps.toArray,rt,pos,aft,g⟩ σ (σ.set t (.sl (some e) z ds)):=R.bsl hps.ok hp hk ht hsm
theorem VF{t n e z:Nat}{ps:List (Nat×Operand)}{ds:List D}{ty rt:TypeId}{pos:String}{aft:Array Edge}{g:Option (Nat×Bool)}[hT:BaT P ty n e z]
 (hps:Evs C.gl σ ps 0 ds) (hp:q41 z ds) (hk:ds.length=n) (ht:t<σ.n) :
 OpS P C ⟨some t,.build ty ps.toArray,rt,pos,aft,g⟩ σ (σ.set t (.arr n z ds)):=R.bldA hps.ok hp hk ht
theorem c9{t:Nat}{ps:List (Nat×Operand)}{l l':List D}{ty rt:TypeId}{pos:String}{aft:Array Edge}{g:Option (Nat×Bool)}[hT:BsT P ty l]
 (hps:EvS C.gl σ ps l l') (hp:j55 C.gl σ l ps) (ht:t<σ.n) :
 OpS P C ⟨some t,.build ty ps.toArray,rt,pos,aft,g⟩ σ (σ.set t (.agg l')):=R.bldS hps.ok hp ht
theorem R6{s t z n:Nat}{l:List D}{ty e rt:TypeId}[hT:SlT P ty e](h:SC σ s z l)(hl:l.length=n)(ht:t<σ.n) :
 OpS P C ⟨some t,.call { callee:=.builtin .len,args:=#[.tmp s],argTypes:=#[ty] },rt,pos,aft,g⟩ σ (σ.set t (.int ((n:Nat):Int))):=by
 subst hl;exact R.len h ht
theorem v8{d:D}:d.loc []=some (0,d):=by cases d<;>rfl
theorem NK{l:List D}{k o o' m:Nat}{p:List Nat}{d d':D}(h:l[k]? = some d)(hm:offk l k=m)(hp:d.loc p=some (o',d'))(ho:o=m+o'):(D.agg l).loc (k::p)=some (o,d'):=by
 subst ho;subst hm;simp only[D.loc,h,hp]
theorem v9{n z:Nat}{l:List D}{k o o':Nat}{p:List Nat}{d d':D}(h:l[k]? = some d)(hp:d.loc p=some (o',d'))(ho:o=k*z+o'):(D.arr n z l).loc (k::p)=some (o,d'):=by
 subst ho;simp only[D.loc,h,hp]
theorem X2{d x:D}:d.upd [] x=some x:=by cases d<;>rfl
theorem RI{l l':List D}{k:Nat}{p:List Nat}{d d' x:D}(h:l[k]? = some d)(hp:d.upd p x=some d')(he:l.set k d'=l'):(D.agg l).upd (k::p) x=some (.agg l'):=by
 subst he;simp only[D.upd,h,hp]
theorem E7{n z:Nat}{l l':List D}{k:Nat}{p:List Nat}{d d' x:D}(h:l[k]? = some d)(hp:d.upd p x=some d')(he:l.set k d'=l'):(D.arr n z l).upd (k::p) x=some (.arr n z l'):=by
 subst he;simp only[D.upd,h,hp]
theorem X3{α:Type}{f:α->D}{l:List α}{i:Nat}{v:α}:(l.map f).set i (f v)=(l.set i v).map f:=(List.map_set ..).symm
theorem j34{α:Type}{f:α->D}{l:List α}{n z:Nat}(h:∀ x,(f x).brw=f x):(D.arr n z (l.map f)).brw=.arr n z (l.map f):=by
 simp only[D.brw,j7,j2 h]
theorem R.nilc{d:D}{rt:TypeId}(hx:ev C.gl σ x=some (.rp d))(ht:t<σ.n):OpS P C ⟨some t,.nilCheck x,rt,pos,aft,g⟩ σ (σ.set t (.rp d)):=by
 refine OpS.value fun a w ⟨ρ,Fe,Fb,st⟩=>?_;obtain⟨F,hv,_⟩:=m5 st hx rfl;have hF:=hv.pur rfl;subst hF;have hv0:=hv;simp only[VR,D.isAgg,Bool.false_eq_true,if_false] at hv;generalize hex:a.eval x=v at hv
 cases hv with
 | rp _ b off cs e fz hb hG hs hr=>
  refine⟨a.eval x,w, ?_,st.put ht rfl hv0⟩;unfold execOp;simp[hex]
theorem R.nilcP{s id off:Nat}{path:List Nat}{rt:TypeId}(hx:σ.get s=some (.ptr id off path))(ht:t<σ.n):OpS P C ⟨some t,.nilCheck (.tmp s),rt,pos,aft,g⟩ σ (σ.set t (.ptr id off path)):=by
 refine OpS.value fun a w ⟨ρ,Fe,Fb,st⟩=>?_;obtain⟨v,hv,hr⟩:=(z9 rfl).1 (st.env _ _ hx);have hr0:=hr;have hF:=hr.pur rfl;simp only[VR,D.isAgg,Bool.false_eq_true,if_false] at hr;generalize Fe s=F at hr
 cases hr with
 | ptr _ _ _ hL=>
  rw[hF] at hr0;refine⟨_,w, ?_,st.put ht rfl hr0⟩;unfold execOp;simp[j8 hv]
theorem R.slR{t e z bytes m:Nat}{l:List D}{lo hi:Option Operand}{i j:Int}{ty rt:TypeId}[hT:ArT P ty m e][hE:ElT P e z bytes]
 (hx:ev C.gl σ x=some (.rp (.arr m z l))) (hl:evo C.gl σ lo 0=some i) (hh:evo C.gl σ hi m=some j) (h0:0<=i) (h1:i<=j) (h2:j<=m) (ht:t<σ.n) :
 OpS P C ⟨some t,.slice ty x lo hi none,rt,pos,aft,g⟩ σ (σ.set t (.sl none z ((l.drop i.toNat).take (j-i).toNat))):=by
 refine OpS.value fun a w ⟨ρ,Fe,Fb,st⟩=>?_;obtain⟨F,hv,_⟩:=m5 st hx rfl;have hF:=hv.pur rfl;subst hF;simp only[VR,D.isAgg,Bool.false_eq_true,if_false] at hv;generalize hex:a.eval x=vx at hv
 cases hv with
 | rp _ b off cs e' fz hb hG hs hr=>
  cases hr with
  | arr _ _ _ _ hlm hsz hrr=>
   simp only[HJ] at hs hsz hrr
   have hlen:((l.drop i.toNat).take (j-i).toNat).length=(j-i).toNat:=by simp;omega
   have e1:j.toNat-i.toNat=(j-i).toNat:=by omega
   have hbd:=N0 (P:=P) st (b:=false) (len:=m) (cap:=m) hl hh h0 h1 h2 (Nat.le_refl _);refine⟨.slice (some (if m=i.toNat then⟨b,off,none⟩ else⟨b,off+i.toNat*z,none⟩)) (j-i).toNat (m-i.toNat),w, ?_,st.put ht rfl ?_⟩
   ·unfold execOp
    cases lo<;>cases hi<;>simp_all [Instr.sliceAt,Instr.sureAddr,run_underlying hT.u,ElT.size (P:=P) (e:=e),X4]<;>split<;>simp_all
   ·simp only[VR,D.isAgg,Bool.false_eq_true,if_false]
    have hjz:((j-i).toNat)*z+i.toNat*z<=m*z:=by
     rw[<- Nat.add_mul];exact Nat.mul_le_mul_right z (by omega)
    by_cases hci:m=i.toNat
    ·simp only[hci,if_true,Nat.sub_self]
     have h3:(j-i).toNat=0:=by omega
     have:=Rc.slI (w:=w) (ρ:=ρ) (G:=gd C Fe Fb) (L:=fun id=>(σ.box id).isSome) (p:=true) b off cs e' fz 0 z [] hb hG (Nat.zero_le _) (by simp;omega) (fun k hk=>by simp at hk);simpa [h3] using this
    ·simp only[hci,if_false];have:=Rc.slI (w:=w) (ρ:=ρ) (G:=gd C Fe Fb) (L:=fun id=>(σ.box id).isSome) (p:=true) b (off+i.toNat*z) cs e' fz (m-i.toNat) z ((l.drop i.toNat).take (j-i).toNat) hb hG (by rw[hlen];omega)
      (by rw[hlen];omega) (fun k hk=>by
       rw[hlen] at hk;simp only[List.getElem_take,List.getElem_drop];have h5:=hrr (i.toNat+k) (by omega)
       have h6:(i.toNat+k)*z+z<=m*z:=by
        have:=Nat.mul_le_mul_right z (show i.toNat+k+1<=m by omega);rw[Nat.add_mul (i.toNat+k) 1 z] at this;omega
       rw[l9 _ _ _ _ _ h6,Nat.add_mul,<- Nat.add_assoc] at h5
       exact h5)
     rw[hlen] at this;exact this
theorem VV{α:Type}[Inhabited α]{f:α->D}{l:List α}{lo n i:Nat}(h:lo+i<l.length)(hn:i<n):(((l.map f).drop lo).take n)[i]? = some (f l[lo+i]!):=by
 rw[List.getElem?_take,if_pos hn,List.getElem?_drop];exact j5 h
theorem x78{t e z bytes m:Nat}{l l':List D}{lo hi:Option Operand}{i j:Int}{ty rt:TypeId}[hT:ArT P ty m e][hE:ElT P e z bytes](a b n:Nat)
 (hx:ev C.gl σ x=some (.rp (.arr m z l))) (hl:evo C.gl σ lo 0=some i) (hh:evo C.gl σ hi m=some j) (hi':i=a) (hj:j=b) (h1:a<=b) (h2:b<=m) (hn:b-a=n) (he:(l.drop a).take n=l') (ht:t<σ.n) :
 OpS P C ⟨some t,.slice ty x lo hi none,rt,pos,aft,g⟩ σ (σ.set t (.sl none z l')):=by
 subst hi';subst hj;subst he;have:=R.slR (P:=P) (C:=C) (e:=e) (ty:=ty) (pos:=pos) (aft:=aft) (g:=g) (rt:=rt) hx hl hh (by omega) (by omega) (by omega) ht
 have e1:((b:Int)-(a:Int)).toNat=n:=by omega
 have e2:((a:Int)).toNat=a:=rfl;rw[e1,e2] at this;exact this
theorem DV{t e z bytes:Nat}{l l':List D}{lo hi:Option Operand}{i j:Int}{ty rt:TypeId}[hT:SlT P ty e][hE:ElT P e z bytes](a b n:Nat)
 (hx:ev C.gl σ x=some (.sl none z l)) (hl:evo C.gl σ lo 0=some i) (hh:evo C.gl σ hi l.length=some j) (hi':i=a) (hj:j=b) (h1:a<=b) (h2:b<=l.length) (hn:b-a=n) (he:(l.drop a).take n=l') (ht:t<σ.n) :
 OpS P C ⟨some t,.slice ty x lo hi none,rt,pos,aft,g⟩ σ (σ.set t (.sl none z l')):=by
 subst hi';subst hj;subst he;have:=R.slI (P:=P) (C:=C) (e:=e) (ty:=ty) (pos:=pos) (aft:=aft) (g:=g) (rt:=rt) hx hl hh (by omega) (by omega) (by omega) ht
 have e1:((b:Int)-(a:Int)).toNat=n:=by omega
 have e2:((a:Int)).toNat=a:=rfl;rw[e1,e2] at this;exact this
theorem x77{s t e z bytes:Nat}{l:List D}{lo hi:Option Operand}{i j:Int}{ty rt:TypeId}[hT:SlT P ty e][hE:ElT P e z bytes](a b n:Nat)
 (hx:SC σ s z l) (hl:evo C.gl σ lo 0=some i) (hh:evo C.gl σ hi l.length=some j) (hi':i=a) (hj:j=b) (h1:a<=b) (h2:b<=l.length) (hn:b-a=n) (ht:t<σ.n) (hst:s≠t) :
 OpS P C ⟨some t,.slice ty (.tmp s) lo hi none,rt,pos,aft,g⟩ σ (σ.set t (.vw s z a n)):=by
 subst hi';subst hj;have:=R.slV (P:=P) (C:=C) (e:=e) (ty:=ty) (pos:=pos) (aft:=aft) (g:=g) (rt:=rt) hx hl hh (by omega) (by omega) (by omega) ht hst
 have e1:((b:Int)-(a:Int)).toNat=n:=by omega
 have e2:((a:Int)).toNat=a:=rfl;rw[e1,e2] at this;exact this
theorem G5{s t e z bytes m id off:Nat}{path:List Nat}{d0:D}{l:List D}{lo hi:Option Operand}{i j:Int}{ty rt:TypeId}[hT:ArT P ty m e][hE:ElT P e z bytes](a b n:Nat)
 (hx:σ.get s=some (.ptr id off path)) (hb:σ.box id=some (.var d0)) (hloc:d0.loc path=some (off,.arr m z l)) (hl:evo C.gl σ lo 0=some i) (hh:evo C.gl σ hi m=some j) (hi':i=a) (hj:j=b) (h1:a<=b) (h2:b<=m) (hn:b-a=n) (ht:t<σ.n) :
 OpS P C ⟨some t,.slice ty (.tmp s) lo hi none,rt,pos,aft,g⟩ σ (σ.set t (.va id off z n path a)):=by
 subst hi';subst hj;have:=R.slA (P:=P) (C:=C) (e:=e) (ty:=ty) (pos:=pos) (aft:=aft) (g:=g) (rt:=rt) hx hb hloc hl hh (by omega) (by omega) (by omega) ht
 have e1:((b:Int)-(a:Int)).toNat=n:=by omega
 have e2:((a:Int)).toNat=a:=rfl;rw[e1,e2] at this;exact this
theorem HA{α:Type}{f:α->D}{l:List α}{a n:Nat}:((l.map f).drop a).take n=((l.drop a).take n).map f:=by rw[List.map_take,List.map_drop]
theorem WO{α:Type}[Inhabited α]{f:α->D}{l:List α}{lo n i:Nat}(h:lo+i<l.length)(hn:i<n):(((l.drop lo).take n).map f)[i]? = some (f l[lo+i]!):=by
 rw[<- HA];exact VV h hn
theorem q99{α:Type}{f:α->D}{l:List α}{a:Nat}:((l.map f).drop a).take (l.length-a)=(l.drop a).map f:=by
 rw[<- List.map_drop,List.take_of_length_le (by simp)]
theorem OY{s t e z bytes id off n lo m k:Nat}{path:List Nat}{d0 d':D}{l l' l2:List D}{ty ty2 rt:TypeId}[hT:SlT P ty e][hE:ElT P e z bytes]
 (h:σ.get s=some (.va id off z n path lo)) (hb:σ.box id=some (.var d0)) (hl:d0.loc path=some (off,.arr m z l)) (hlo:lo+n<=m) (hx:SrcO C.gl σ x z l') (hnp:∀ y∈l',y.np=true) (ht:t<σ.n)
 (hk:min l'.length n=k) (he:l.take lo++l'.take k++l.drop (lo+k)=l2) (hu:d0.upd path (.arr m z l2)=some d') :
 OpS P C ⟨some t,.call { callee:=.builtin .copy,args:=#[.tmp s,x],argTypes:=#[ty,ty2] },rt,pos,aft,g⟩ σ ((σ.putB id (.var d')).set t (.int ((k:Nat):Int))):=by
 subst hk;subst he;exact R.cpA h hb hl hlo hx hnp ht hu
theorem VD{c:Code}{Q:Exit->Sg->Prop}{live:List Nat}{env':List (Nat×D)}{bx':List (Nat×Bx)}{n':Nat}(hE:picks σ.get live=env')(hb:σ.bx=bx')(hn:σ.n=n')(h:W P C c Q ⟨n',env',bx'⟩):W P C c Q σ:=W.drop hE hb hn h
theorem FQ{α:Type}{f:α->D}{l:List α}{a n:Nat}(h:∀ x,(f x).brw=f x):(((l.map f).drop a).take n).map D.brw=((l.drop a).take n).map f:=by
 rw[HA,j2 h]
theorem GL{α:Type}{f:α->D}{l:List α}{n:Nat}(h:∀ x,(f x).brw=f x)(hn:l.length=n):(((l.map f).drop 0).take n).map D.brw=l.map f:=by
 rw[FQ h,List.drop_zero,List.take_of_length_le (by omega)]
theorem Z7{p id off:Nat}{path:List Nat}{d0 d1 d' dx:D}{n rt:TypeId}{gg:Bool}[LdT P ty n gg]
 (h:σ.get p=some (.ptr id off path)) (hb:σ.box id=some (.var d0)) (hl:d0.loc path=some (off,d1)) (hx:ev C.gl σ x=some dx) (hp:dx.pur=true) (hnp:dx.np=true)
 (hn:dx.sz=n) (hz:d1.sz=n) (hu:d0.upd path dx=some d') :
 OpS P C ⟨none,.store ty (.tmp p) x,rt,pos,aft,g⟩ σ (σ.putB id (.var d')):=R.st h hb hl hx hp hnp hn (hn.trans hz.symm) hu
theorem x76{p s s0 e z i off:Nat}{path:List Nat}{l:List D}{d0 d1 d' dx:D}{n rt:TypeId}{gg:Bool}[LdT P ty n gg]
 (h:σ.get p=some (.ep s z i off path)) (ho:ownr σ s s0) (hs:σ.get s0=some (.sl (some e) z l)) (hi:l[i]? = some d0) (hl:d0.loc path=some (off,d1))
 (hx:ev C.gl σ x=some dx) (hxp:dx.pur=true) (hxn:dx.np=true) (hz:dx.sz=n) (hz1:d1.sz=n) (hu:d0.upd path dx=some d') :
 OpS P C ⟨none,.store ty (.tmp p) x,rt,pos,aft,g⟩ σ (σ.upd s0 (.sl (some e) z (l.set i d'))):=R.stE h ho hs hi hl hx hxp hxn hz (hz.trans hz1.symm) hu
theorem GR{α β:Type}{f:α->β}{l l':List α}:l.map f++l'.map f=(l++l').map f:=List.map_append.symm
theorem KK{α β:Type}{f:α->β}{l:List α}{v:α}:l.map f++[f v]=(l++[v]).map f:=by simp
theorem J8{s s0 t e z bytes:Nat}{l l' l2:List D}{ty rt:TypeId}[hT:SlT P ty e][hE:ElT P e z bytes]
 (ho:ownr σ s s0) (hs:σ.get s0=some (.sl (some e) z l)) (hx:SrcO C.gl σ x z l') (he:l++l'=l2) (hn:l.length+l'.length<=1073741824) (ht:t<σ.n) (hst:s0≠t) (hby:bytes<=131072) :
 OpS P C ⟨some t,.call { callee:=.builtin .append,args:=#[.tmp s,x],argTypes:=#[ty,ty] },rt,pos,aft,g⟩ σ ((σ.kill s0).set t (.sl (some e) z l2)):=by
 subst he;exact R.app ho hs hx hn ht hst hby
theorem JB{p s s0 e z i off:Nat}{path:List Nat}{l l2:List D}{d0 d1 d' dx:D}{n rt:TypeId}{gg:Bool}[LdT P ty n gg]
 (h:σ.get p=some (.ep s z i off path)) (ho:ownr σ s s0) (hs:σ.get s0=some (.sl (some e) z l)) (hi:l[i]? = some d0) (hl:d0.loc path=some (off,d1))
 (hx:ev C.gl σ x=some dx) (hxp:dx.pur=true) (hxn:dx.np=true) (hz:dx.sz=n) (hz1:d1.sz=n) (hu:d0.upd path dx=some d') (he:l.set i d'=l2) :
 OpS P C ⟨none,.store ty (.tmp p) x,rt,pos,aft,g⟩ σ (σ.upd s0 (.sl (some e) z l2)):=by
 subst he;exact x76 h ho hs hi hl hx hxp hxn hz hz1 hu
theorem gw{b v wt want:Bool}(h:b=v)(hw:wt=(v==want)):wt=(b==want):=by subst h;exact hw
theorem g6{l:List D}(h:JM l=true):∀ y∈l,y.pur=true:=fun y hy=>by
 obtain⟨k,hk,rfl⟩:=List.mem_iff_getElem.1 hy;exact HM l h k hk
theorem RB{x y:Operand}{t e n:Nat}{xs ys:List UInt8}{xt yt ty:TypeId}{pos:String}{aft:Array Edge}{g:Option (Nat×Bool)}[hT:ArT P xt n e][hk:IkT P e .u8][hL:LdT P e 1 false][hE:EqT P xt]
 (hx:ev C.gl σ x=some (.arr n 1 (xs.map .u8))) (hy:ev C.gl σ y=some (.arr n 1 (ys.map .u8))) (ht:t<σ.n) :
 OpS P C ⟨some t,.binOp .eql xt x y yt,ty,pos,aft,g⟩ σ (σ.set t (.bool (xs==ys))):=R.eqA (neg:=false) hx hy ht
theorem OU{x y:Operand}{t e n:Nat}{xs ys:List UInt8}{xt yt ty:TypeId}{pos:String}{aft:Array Edge}{g:Option (Nat×Bool)}[hT:ArT P xt n e][hk:IkT P e .u8][hL:LdT P e 1 false][hE:EqT P xt]
 (hx:ev C.gl σ x=some (.arr n 1 (xs.map .u8))) (hy:ev C.gl σ y=some (.arr n 1 (ys.map .u8))) (ht:t<σ.n) :
 OpS P C ⟨some t,.binOp .neq xt x y yt,ty,pos,aft,g⟩ σ (σ.set t (.bool (xs != ys))):=R.eqA (neg:=true) hx hy ht
end Go.Sx

namespace Go.Sx
variable{P:Program}{C:Ctx}{σ:Sg}{w:World}{ρ:Nat->Nat}
def d8(ids:List Nat)(i:Nat):Bool:=ids.any (Nat.beq i)
mutual
def D.okB(ids:List Nat):D->Bool
 | .ptr id _ _=>d8 ids id
 | .bs id _ _ _=>d8 ids id
 | .map id=>d8 ids id
 | .alb id _ _=>d8 ids id
 | .va id _ _ _ _ _=>d8 ids id
 | .agg l=>JN ids l
 | .fn _ l=>JN ids l
 | .tup l=>JN ids l
 | .ifc _ d=>D.okB ids d
 | _=>true
def JN(ids:List Nat):List D->Bool
 | []=>true
 | d::r=>D.okB ids d&&JN ids r
end
theorem QS{ids:List Nat}(l:List D)(h:JN ids l=true):∀ k (hk:k<l.length),l[k].okB ids=true:=by
 induction l with
 | nil=>intro k hk;simp at hk
 | cons d r ih=>
  simp only[JN,Bool.and_eq_true] at h;intro k hk
  cases k with
  | zero=>exact h.1
  | succ k=>simpa using ih h.2 k (by simpa using hk)
theorem Rc.okB{ids:List Nat}{G L:Nat->Prop}{p:Bool}{d:D}{cs:List Value}{F:List Nat}(h:Rc w ρ G L p d cs F)(hd:d.okB ids=true):Rc w ρ G (fun id=>d8 ids id=true/\L id) p d cs F:=by
 induction h with
 | bool b=>exact .bool b
 | int n=>exact .int n
 | u8 x=>exact .u8 x
 | u16 x=>exact .u16 x
 | u32 x=>exact .u32 x
 | u64 x=>exact .u64 x
 | ik k n=>exact .ik k n
 | str s=>exact .str s
 | nils=>exact .nils
 | slN o z=>exact .slN o z
 | slE o z a=>exact .slE o z a
 | slI b off cs e fz cap z l hb hG hc hs hr ih=>exact .slI b off cs e fz cap z l hb hG hc hs (fun i hi=>(hr i hi).noL)
 | slO b cs e cap z l Fs hb hc hm hs ho1 hr ih=>exact .slO b cs e cap z l Fs hb hc hm hs ho1 (fun i hi=>(hr i hi).noL)
 | agg l cs Fs hs hr ih=>exact .agg l cs Fs hs (fun k hk=>ih k hk (QS l (by simpa [D.okB] using hd) k hk))
 | arr n z l cs hl hs hr ih=>exact .arr n z l cs hl hs (fun i hi=>(hr i hi).noL)
 | ptr id off path hid=>exact .ptr id off path ⟨by simpa [D.okB] using hd,hid⟩
 | bs id z n cap hid hcap=>exact .bs id z n cap ⟨by simpa [D.okB] using hd,hid⟩ hcap
 | nilp=>exact .nilp
 | rp d b off cs e fz hb hG hs hr ih=>exact .rp d b off cs e fz hb hG hs hr.noL
 | map id hid=>exact .map id ⟨by simpa [D.okB] using hd,hid⟩
 | nilmap=>exact .nilmap
 | fn f caps vs hl ha hr ih=>exact .fn f caps vs hl ha (fun k hk=>ih k hk (QS caps (by simpa [D.okB] using hd) k hk))
 | nilf=>exact .nilf
 | yld l=>exact .yld l
 | ifc t d v ha hr ih=>exact .ifc t d v ha (ih (by simpa [D.okB] using hd))
 | nili=>exact .nili
 | dead v h=>exact .dead v h
theorem VR.okB{ids:List Nat}{G L:Nat->Prop}{d:D}{v:Value}{F:List Nat}(h:VR w ρ G L d v F)(hd:d.okB ids=true):VR w ρ G (fun id=>d8 ids id=true/\L id) d v F:=by
 unfold VR at *
 cases hg:d.isAgg<;>simp only[hg,if_true,if_false,Bool.false_eq_true] at h ⊢
 ·exact h.okB hd
 ·obtain⟨cs,rfl,h⟩:=h;exact⟨cs,rfl,h.okB hd⟩
theorem SR.okB{ids:List Nat}{G L G' L':Nat->Prop}{a:Act}{t:Nat}{d:D}{F:List Nat}(h:SR w ρ G L a t d F)(hd:d.okB ids=true)
 (hg:∀ b,G b->b<w.heap.size->G' b) (hL:∀ id,(d8 ids id=true/\L id)->L' id):SR w ρ G' L' a t d F:=by
 have key:∀ (d:D) (v:Value) (F:List Nat),d.okB ids=true->VR w ρ G L d v F->VR w ρ G' L' d v F:=fun d v F h1 h2=>
  (h2.okB h1).mono (fun _ _ _=>rfl) hg (fun id hid=>⟨hL id hid,rfl⟩)
 cases d with
 | alb id off path=>obtain⟨h1,h2,h3⟩:=h;exact⟨h1,hL _ ⟨by simpa [D.okB] using hd,h2⟩,h3⟩
 | va id off z n path lo=>obtain⟨h1,h2,h3⟩:=h;exact⟨h1,hL _ ⟨by simpa [D.okB] using hd,h2⟩,h3⟩
 | tup ds=>
  obtain⟨vs,Fs,h1,h2,h3,h4⟩:=h;refine⟨vs,Fs,h1,h2,h3,fun k hk=>(h4 k hk).imp id fun⟨h5,h6⟩=>⟨h5,key _ _ _ (QS ds (by simpa [D.okB] using hd) k hk) h6⟩⟩
 | al s=>exact h
 | vw s z lo n=>exact h
 | ep s z i off path=>exact h
 | dead=>exact h
 | _=>obtain⟨v,h1,h2⟩:=h;exact⟨v,h1,key _ _ _ hd h2⟩
def W7(ids:List Nat):List (Nat×Bx)->List (Nat×Bx)
 | []=>[]
 | (k,b)::r=>bif d8 ids k then(k,b)::W7 ids r else W7 ids r
theorem QV(ids:List Nat)(l:List (Nat×Bx))(u:Nat):lk (W7 ids l) u=if d8 ids u then lk l u else none:=by
 induction l with
 | nil=>simp[W7,lk]
 | cons x r ih=>
  obtain⟨k,d⟩:=x;simp only[W7,y0];by_cases hk:d8 ids k=true
  ·simp only[hk,cond_true,y0,ih];by_cases hku:k=u
   ·subst hku;simp[hk]
   ·simp[hku]
  ·have hk':d8 ids k=false:=by simpa using hk
   simp only[hk',cond_false,ih];by_cases hku:k=u
   ·subst hku;simp[hk']
   ·simp[hku]
def KW(ids:List Nat):List (Nat×D)->Bool
 | []=>true
 | (_,d)::r=>d.okB ids&&KW ids r
def IE(ids:List Nat):List (Nat×Bx)->Bool
 | []=>true
 | (_,.var d)::r=>d.okB ids&&IE ids r
 | (_,.mp _)::_=>false
theorem KV{ids:List Nat}{l:List (Nat×D)}(h:KW ids l=true){t:Nat}{d:D}(hd:lk l t=some d):d.okB ids=true:=by
 induction l with
 | nil=>simp[lk] at hd
 | cons x r ih=>
  obtain⟨k,e⟩:=x;simp only[KW,Bool.and_eq_true] at h;rw[y0] at hd;by_cases hk:k=t
  ·simp only[hk,if_true,Option.some.injEq] at hd;subst hd;exact h.1
  ·simp only[hk,if_false] at hd;exact ih h.2 hd
theorem AL{ids:List Nat}{l:List (Nat×Bx)}(h:IE ids l=true){t:Nat}{b:Bx}(hd:lk l t=some b):∃ d,b=.var d/\d.okB ids=true:=by
 induction l with
 | nil=>simp[lk] at hd
 | cons x r ih=>
  obtain⟨k,e⟩:=x
  cases e with
  | mp=>simp[IE] at h
  | var e=>
   simp only[IE,Bool.and_eq_true] at h;rw[y0] at hd;by_cases hk:k=t
   ·simp only[hk,if_true,Option.some.injEq] at hd;subst hd;exact⟨e,rfl,h.1⟩
   ·simp only[hk,if_false] at hd;exact ih h.2 hd
theorem b7{c:Code}{Q:Exit->Sg->Prop}(ids:List Nat){bx':List (Nat×Bx)}(hb:W7 ids σ.bx=bx')(he:KW ids σ.env=true)(hx:IE ids bx'=true)(hpn:∀ id b,C.pin id=some b->d8 ids id=true)(h:W P C c Q ⟨σ.n,σ.env,bx'⟩):W P C c Q σ:=by
 intro a w ⟨ρ,Fe,Fb,st⟩;refine h a w ?_
 have hl:∀ u,lk bx' u=if d8 ids u then σ.box u else none:=fun u=>by rw[<- hb];exact QV ids σ.bx u
 have hsub:∀ id,∀ b∈(if d8 ids id then Fb id else[]),b∈Fb id:=fun id b hm=>by split at hm;exact hm;cases hm
 have hown:∀ b,own Fe (fun id=>if d8 ids id then Fb id else[]) b->own Fe Fb b:=fun b hb=>hb.imp id fun⟨i,hi⟩=>⟨i,hsub i b hi⟩
 have hgd:∀ b,gd C Fe Fb b->gd C Fe (fun id=>if d8 ids id then Fb id else[]) b:=fun b hb=>⟨hb.1,fun hc=>hb.2 (hown b hc)⟩
 have hL:∀ id,(d8 ids id=true/\(σ.box id).isSome)->(lk bx' id).isSome:=fun id ⟨h1,h2⟩=>by rw[hl,if_pos h1];exact h2
 exact⟨ρ,Fe,(fun id=>if d8 ids id then Fb id else[]),{
  size:=st.size
  defs:=st.defs
  pin:=fun id b hp=>⟨(st.pin id b hp).1,hL id ⟨hpn id b hp,(st.pin id b hp).2⟩⟩
  env:=fun t d hd=>(st.env t d hd).okB (KV he hd) (fun b hb _=>hgd b hb) hL
  envN:=st.envN
  bx:=fun id b hd=>by
   obtain⟨d,rfl,hok⟩:=AL hx hd;have h1:=hl id;by_cases hm:d8 ids id=true
   ·rw[if_pos hm] at h1
    have h2:σ.box id=some (.var d):=by rw[<- h1];exact hd
    obtain⟨cs,e,F',h3,h4,h5⟩:=st.bx id _ h2;refine⟨cs,e,F',h3,(h4.okB hok).mono (fun _ _ _=>rfl) (fun b hb _=>hgd b hb) (fun id hid=>⟨hL id hid,rfl⟩),by simp only[hm,if_true];exact h5⟩
   ·rw[if_neg hm] at h1;rw[show lk bx' id=some (.var d) from hd] at h1;cases h1
  bxN:=fun id hn=>by
   have h1:=hl id;by_cases hm:d8 ids id=true
   ·rw[if_pos hm] at h1;simp only[hm,if_true];exact st.bxN id (by rw[<- h1];exact hn)
   ·simp[hm]
  nodE:=st.nodE
  nodB:=fun id=>by show(if d8 ids id then Fb id else[]).Nodup;split;exact st.nodB id;exact List.nodup_nil
  dEE:=st.dEE
  dEB:=fun t id b hb hm=>st.dEB t id b hb (hsub id b hm)
  dBB:=fun id id' hne b hb hm=>st.dBB id id' hne b (hsub id b hb) (hsub id' b hm)
  new:=fun b hb=>st.new b (hown b hb)
  kept:=st.kept
  os:=st.os
  tape:=⟨st.tape.tp,st.tape.dr⟩
  output:=st.output
  grown:=st.grown
  gl:=st.gl
  okN:=st.okN
  okO:=fun b hb=>st.okO b (hown b hb) }⟩
theorem g7{C:Ctx}{pins ids:List Nat}(h:∀ id b,C.pin id=some b->T2 pins id=true)(hs:pins.all (d8 ids)=true):∀ id b,C.pin id=some b->d8 ids id=true:=fun id b hp=>by
 have h1:=h id b hp;simp only[T2,List.any_eq_true] at h1;obtain⟨x,hx,he⟩:=h1;have:=List.all_eq_true.1 hs x hx;rw[Nat.eq_of_beq_eq_true he];exact this
end Go.Sx

namespace Go.Sx
variable{P:Program}{C:Ctx}{σ σ' σ1:Sg}{a:Act}{w w':World}{ρ:Nat->Nat}{Fe Fe' Fb:Nat->List Nat}
theorem OZ{G L:Nat->Prop}{n:Int}{v:Value}{F:List Nat}(h:VR w ρ G L (.int n) v F):v=.int .i64 n:=by
 simp only[VR,D.isAgg,Bool.false_eq_true,if_false] at h;cases h;rfl
theorem R.mkmap{t ty rt:TypeId}{pos:String}{aft:Array Edge}{g:Option (Nat×Bool)}(hid:σ.box t=none)(ht:t<σ.n) :
 OpS P C ⟨some t,.makeMap ty none,rt,pos,aft,g⟩ σ ((σ.newB t (.mp [])).set t (.map t)):=by
 refine OpS.value fun a w ⟨ρ,Fe,Fb,st⟩=>?_;refine⟨.map (some w.heap.size),w.alloc (.map #[] 0), ?_, ?_⟩
 ·unfold execOp;simp[Instr.makeMap,newObj,Sem.run]
 ·have h1:=st.newB (id:=t) (x:=.mp []) (o:=.map #[] 0) hid ⟨rfl,#[],0,heap_alloc_new w _,⟨rfl,rfl⟩,fun k hk=>by simp at hk⟩
  have h2:=h1.put (t:=t) (d:=.map t) (v:=.map (some w.heap.size)) (by simpa using ht) rfl (by
   simp only[VR,D.isAgg,Bool.false_eq_true,if_false];have:=Rc.map (w:=w.alloc (.map #[] 0)) (ρ:=KI ρ t w.heap.size) (G:=gd C Fe (upd Fb t [w.heap.size])) (L:=fun i=>((σ.newB t (.mp [])).box i).isSome) t (by simp[A7])
   simpa using this)
  exact h2
theorem EZ{p id:Nat}(st:StW C σ a w ρ Fe Fb)(h:σ.get p=some (.map id)):a.tmps[p]? = some (.map (some (ρ id))):=by
 obtain⟨v,hv,hr⟩:=(z9 rfl).1 (st.env _ _ h);simp only[VR,D.isAgg,Bool.false_eq_true,if_false] at hr;generalize Fe p=F at hr;cases hr;exact hv
end Go.Sx

namespace Go.Sx
variable{P:Program}{C:Ctx}{σ σ' σ1:Sg}{a:Act}{w w':World}{ρ:Nat->Nat}{Fe Fe' Fb:Nat->List Nat}
variable{pos:String}{aft:Array Edge}{g:Option (Nat×Bool)}{t ty xt yt rt:TypeId}
theorem BK(P:Program)(w:World)(op:BinOp)(t:TypeId)(x y:Operand)(b:Option Addr)(n c:Nat)(v:Value):(eqGuard op t x y (.slice b n c) v).run P w=.ok () w:=by
 cases op<;>rfl
theorem IY{e:TypeId}(hT:P.underlying xt=some (.slice e))(b:Option Addr)(n c:Nat)(w:World) :
 (binOp .eql xt (.slice b n c) (.slice none 0 0)).run P w=.ok (.bool b.isNone) w:=by
 have h1:∀ d,(Op.equalIn (d+1) xt (.slice b n c) (.slice none 0 0)).run P w=.ok b.isNone w:=fun d=>by
  cases b<;>simp[Op.equalIn,run_underlying hT]
 have h2:(Op.equal xt (.slice b n c) (.slice none 0 0)).run P w=.ok b.isNone w:=h1 9999;simp only[binOp,Sem.run_bind,h2,Result.andThen_ok,Sem.run_pure]
theorem CE{e:TypeId}(hT:P.underlying xt=some (.slice e)){s:Nat}{b:Option Addr}{n c:Nat}(hv:a.tmps[s]? = some (.slice b n c)) :
 (execOp a.eval ⟨some t,.binOp .eql xt (.tmp s) (.const (.slice none 0 0)) yt,rt,pos,aft,g⟩).run P w=.ok (.value (.bool b.isNone)) w:=by
 unfold execOp;simp only[Sem.run_bind,j8 hv,BK,Result.andThen_ok,Sem.run_pure];have:a.eval (.const (.slice none 0 0))=.slice none 0 0:=rfl;simp only[this,IY hT,Result.andThen_ok]
theorem j52(st:StW C σ a w ρ Fe Fb){s z:Nat}{l:List D}(h:SC σ s z l)(hl:l≠[]):∃ b n c,a.tmps[s]? = some (.slice (some b) n c):=by
 obtain⟨base,len,cap,hv,hlen,hd⟩:=XT st h
 rcases hd with ⟨h3,h4⟩|⟨b,o,cs,e',fz,rfl,_⟩
 ·exact absurd (List.length_eq_zero_iff.1 (by omega)) hl
 ·exact⟨_,_,_,hv⟩
theorem R.eqNilF{s z e:Nat}{l:List D}[hT:SlT P xt e](h:SC σ s z l)(hl:l≠[])(ht:t<σ.n) :
 OpS P C ⟨some t,.binOp .eql xt (.tmp s) (.const (.slice none 0 0)) yt,rt,pos,aft,g⟩ σ (σ.set t (.bool false)):=by
 refine OpS.value fun a w ⟨ρ,Fe,Fb,st⟩=>?_;obtain⟨b,n,c,hv⟩:=j52 st h hl;exact⟨_,w,CE hT.u hv,st.put ht rfl (by simp only[VR,D.isAgg,Bool.false_eq_true,if_false];exact .bool _)⟩
theorem VB{G L:Nat->Prop}{n:Int}:VR w ρ G L (.int n) (.int .i64 n) []:=by
 simp only[VR,D.isAgg,Bool.false_eq_true,if_false];exact .int _
theorem R.minI{x y:Operand}{m n r:Int}{ta tb:TypeId}(hx:ev C.gl σ x=some (.int m))(hy:ev C.gl σ y=some (.int n))(hr:min m n=r)(ht:t<σ.n) :
 OpS P C ⟨some t,.call { callee:=.builtin .min,args:=#[x,y],argTypes:=#[ta,tb] },rt,pos,aft,g⟩ σ (σ.set t (.int r)):=by
 refine OpS.value fun a w ⟨ρ,Fe,Fb,st⟩=>?_;obtain⟨_,hvx,_⟩:=m5 st hx rfl;obtain⟨_,hvy,_⟩:=m5 st hy rfl;have hvx:=OZ hvx;have hvy:=OZ hvy
 have e:(if n<m then n else m)=r:=by rw[<- hr];split<;>omega
 refine⟨.int .i64 r,w, ?_,st.put ht rfl VB⟩;unfold execOp;simp[resolve,invoke,builtin,hvx,hvy,Builtin.min_,Builtin.min2,e]
theorem R.maxI{x y:Operand}{m n r:Int}{ta tb:TypeId}(hx:ev C.gl σ x=some (.int m))(hy:ev C.gl σ y=some (.int n))(hr:max m n=r)(ht:t<σ.n) :
 OpS P C ⟨some t,.call { callee:=.builtin .max,args:=#[x,y],argTypes:=#[ta,tb] },rt,pos,aft,g⟩ σ (σ.set t (.int r)):=by
 refine OpS.value fun a w ⟨ρ,Fe,Fb,st⟩=>?_;obtain⟨_,hvx,_⟩:=m5 st hx rfl;obtain⟨_,hvy,_⟩:=m5 st hy rfl;have hvx:=OZ hvx;have hvy:=OZ hvy
 have e:(if m<n then n else m)=r:=by rw[<- hr];split<;>omega
 refine⟨.int .i64 r,w, ?_,st.put ht rfl VB⟩;unfold execOp;simp[resolve,invoke,builtin,hvx,hvy,Builtin.max_,Builtin.max2,e]
theorem R.cvS{s e:Nat}{xs:List UInt8}{src dst:TypeId}[hT:SlT P src e][hk:IkT P e .u8][hS:StT P dst](h:SC σ s 1 (xs.map D.u8))(ht:t<σ.n) :
 OpS P C ⟨some t,.convert src dst (.tmp s),rt,pos,aft,g⟩ σ (σ.set t (.str xs)):=by
 refine OpS.value fun a w ⟨ρ,Fe,Fb,st⟩=>?_;obtain⟨base,len,cap,hv,hlen,hd⟩:=XT st h
 have hlen':len=xs.length:=by simpa using hlen
 subst hlen'
 have key:(convert src dst (.slice base xs.length cap)).run P w=.ok (.string ⟨xs.toArray⟩) w:=by
  have hcell:∀ ad,base=some ad->∀ j (hj:j<xs.length),w.cell? (ad.add j)=some (.int .u8 (xs[j].toNat:Int)):=by
   rintro ad rfl j hj
   rcases hd with ⟨h3,h4⟩|⟨b,o,cs,e',fz,hba,hb,hc,hs,hr⟩
   ·omega
   ·simp only[Option.some.injEq] at hba;subst hba;rw[X4,cell_of_row w b _ cs e' fz hb];obtain⟨F,hF⟩:=hr j (by simpa using hj);simp only[List.getElem_map,Nat.mul_one] at hF hs
    have hlt:o+j<cs.size:=by omega
    rw[List.drop_eq_getElem_cons (by simpa using hlt),List.take_succ_cons,List.take_zero] at hF;rw[Array.getElem?_eq_getElem hlt,<- Array.getElem_toList];generalize cs.toList[o+j]=vv at hF;cases hF;rfl
  cases base with
  | some ad=>exact run_convert_bytes_back w src dst e ad cap xs hT.u hk.u hS.u (hcell ad rfl)
  | none=>
   have h0:xs=[]:=by
    rcases hd with ⟨h3,h4⟩|⟨b,o,cs,e',fz,hba,_⟩
    ·exact List.length_eq_zero_iff.1 h3
    ·cases hba
   subst h0;simp[convert,run_underlying hT.u,run_underlying hS.u,run_underlying hk.u,Conv.bytesToString];rfl
 refine⟨.string ⟨xs.toArray⟩,w, ?_,st.put ht rfl (by simp only[VR,D.isAgg,Bool.false_eq_true,if_false];exact .str xs)⟩;unfold execOp;simp[j8 hv,key]
theorem P0{α:Type}{f:α->D}{l:List α}{a n:Nat}(h:∀ x,(f x).pur=true):∀ y∈((l.map f).drop a).take n,y.pur=true:=fun y hy=>by
 obtain⟨x,_,rfl⟩:=List.mem_map.1 (List.mem_of_mem_drop (List.mem_of_mem_take hy));exact h x
theorem R.bldAZ{n e z bytes:Nat}{d:D}[hT:ArT P ty n e][hE:ElT P e z bytes][hZ:ZrT P ty d](hd:d.isAgg=true)(ht:t<σ.n) :
 OpS P C ⟨some t,.build ty #[],rt,pos,aft,g⟩ σ (σ.set t d):=by
 refine OpS.value fun a w ⟨ρ,Fe,Fb,st⟩=>?_;obtain⟨i,v,h1,h2,h3,h4⟩:=hZ.i;obtain⟨ie,zv,hi,_⟩:=hE.i;have hv:VR w ρ (gd C Fe Fb) (fun i=>(σ.box i).isSome) d v []:=k16 h3 h4;rw[hd] at h4
 cases v with
 | agg cs=>
  refine⟨.agg cs,w, ?_,st.put ht (by cases d<;>first|rfl|cases hd) hv⟩;unfold execOp;simp[Instr.build,zeroValue,typeInfo,h1,h2,run_underlying hT.u,sizeOf,hi,Instr.fill,Value.cells]
 | _=>simp[P6] at h4
class BoT(P:Program)(t:TypeId):Prop where
 u:P.underlying t=some .bool
end Go.Sx

namespace Go.Sx
variable{P:Program}{C:Ctx}{σ σ' σ1:Sg}{a:Act}{w w':World}{ρ:Nat->Nat}{Fe Fe' Fb:Nat->List Nat}
def Fr(rd:Option Nat):Fence:={ Fence.wide with round:=rd }
def V(P:Program)(rd:Option Nat){ι:Type}(A:ι->Act->World->Prop)(c:Code)(Q:Exit->ι->Prop)(i:ι):Prop:=
 ∀ a w,A i a w->c.wpIn (Fr rd) 3 P (fun e a' w'=>∃ j,A j a' w'/\Q e j) a w
section
variable{rd:Option Nat}{ι:Type}{A:ι->Act->World->Prop}{Q:Exit->ι->Prop}{i:ι}
end
abbrev Yt:=Nat->Bool->(Nat->Prop)->World->Prop
structure Apart(O O':Nat->Prop)(w w':World):Prop where
 same:∀ b,b<w.heap.size->¬ O b->w'.heap[b]? = w.heap[b]?
 size:w.heap.size<=w'.heap.size
 sub:∀ b,O' b->O b∨w.heap.size<=b
 lt:∀ b,O' b->b<w'.heap.size
 os:w'.os=w.os
 tape:TpR w' w
 output:w'.output=w.output
def Stable(Y:Yt):Prop:=∀ k s O O' w w',Y k s O w->Apart O O' w w'->Y k s O' w'
def VX(P:Program)(l:Nat)(v:Value)(w:World)(R:World->Bool->Prop):Prop:=
 ∃ f tmps assign body,(Instr.yield l #[v]).run P w=.ok (.round l f tmps assign body) w /\
  RoundIn (Fr none) 2 P l f tmps assign body w (fun e w'=>∃ s,e=.returned (.bool (!s))/\R w' s)
structure Rnd(Y:Yt)(G O:Nat->Prop)(k:Nat)(w w':World)(s:Bool):Prop where
 y:Y (k+1) s O w'
 same:∀ b,(G b∨O b)->b<w.heap.size->w'.heap[b]? = w.heap[b]?
 size:w.heap.size<=w'.heap.size
structure Rel(gl:List (Nat×D))(κ:Type) where
 ids:List Nat
 r:κ->Ctx->Prop
 gl:∀ {m C},r m C->C.gl=gl
 rd:∀ {m C},r m C->C.rd=none
 pin:∀ {m C},r m C->∀ id b,C.pin id=some b->T2 ids id=true
def AM{gl:List (Nat×D)}{κ:Type}(R:Rel gl κ)(i:κ×Sg)(a:Act)(w:World):Prop:=∃ C:Ctx,R.r i.1 C/\St C i.2 a w
section
variable{gl:List (Nat×D)}{κ:Type}{R:Rel gl κ}{m:κ}
end
def w13(gl:List (Nat×D))(G:Nat->Prop)(Y:Yt)(ids:List Nat)(pn:Nat->Option Nat):Rel gl (Nat×Bool) where
 ids:=ids
 r i C:=C.gl=gl/\C.rd=none/\C.df=[]/\(C.pin=pn/\∀ id b,C.pin id=some b->T2 ids id=true)/\∃ O:Nat->Prop,(∀ b,C.keep b↔b<C.w0.heap.size/\¬ O b)/\(∀ b,C.ok b↔G b∨O b∨C.w0.heap.size<=b) /\
  (∀ b,G b->b<C.w0.heap.size/\¬ O b)/\(∀ b,O b->b<C.w0.heap.size)/\Y i.1 i.2 O C.w0
 gl h:=h.1
 rd h:=h.2.1
 pin h:=h.2.2.2.1.2
section
variable{gl:List (Nat×D)}{G:Nat->Prop}{Y:Yt}{k:Nat}{s:Bool}{ids:List Nat}{pn:Nat->Option Nat}
end
end Go.Sx

namespace Go.Sx
variable{P:Program}{C:Ctx}{σ σ' σ1:Sg}{a:Act}{w w':World}{ρ:Nat->Nat}{Fe Fe' Fb:Nat->List Nat}
section
variable{gl:List (Nat×D)}{W0:World}{G:Nat->Prop}{m:Bool}
end
end Go.Sx

namespace Go.Sx
variable{P:Program}{C:Ctx}{σ σ' σ1:Sg}{a:Act}{w w':World}{ρ:Nat->Nat}{Fe Fe' Fb:Nat->List Nat}
variable{gl:List (Nat×D)}{W0:World}{G:Nat->Prop}
end Go.Sx

namespace Go.Sx
variable{pos:String}{aft:Array Edge}{g:Option (Nat×Bool)}
variable{P:Program}{C:Ctx}{σ σ' σ1:Sg}{a:Act}{w w':World}{ρ:Nat->Nat}{Fe Fe' Fb:Nat->List Nat}
theorem R.ext{s t k:Nat}{ds:List D}{d:D}{rt:TypeId}
 (h:σ.get s=some (.tup ds)) (hk:ds[k]? = some d) (hp:d.pur=true) (ht:t<σ.n):OpS P C ⟨some t,.extract (.tmp s) k,rt,pos,aft,g⟩ σ (σ.set t d):=by
 refine OpS.value fun a w ⟨ρ,Fe,Fb,st⟩=>?_;obtain⟨vs,Fs,h1,h2,h3,h4⟩:=st.env s _ h;obtain⟨hkl,hkd⟩:=List.getElem?_eq_some_iff.1 hk
 rcases h4 k hkl with ⟨h5,_⟩|⟨h5,h6⟩
 ·rw[hkd] at h5;subst h5;simp[D.pur] at hp
 ·rw[hkd] at h5 h6;have hF:=h6.pur hp;rw[hF] at h6
  have hv:vs[k]? = some (vs.getD k undef):=by
   have:k<vs.length:=by omega
   rw[List.getD_eq_getElem?_getD,List.getElem?_eq_getElem this];rfl
  refine⟨vs.getD k undef,w, ?_,st.put ht h5 h6⟩;generalize vs.getD k undef=x at hv
  have hx:vs.toArray[k]? = some x:=by rw[List.getElem?_toArray];exact hv
  unfold execOp;simp only[Instr.extract,j8 h1,hx,Sem.run_bind,Sem.run_pure,Result.andThen_ok]
theorem R.movT{s t:Nat}{ds:List D}{rt:TypeId}
 (h:σ.get s=some (.tup ds)) (hp:JM ds=true) (ht:t<σ.n):OpS P C ⟨some t,.move (.tmp s),rt,pos,aft,g⟩ σ (σ.set t (.tup ds)):=by
 refine OpS.value fun a w ⟨ρ,Fe,Fb,st⟩=>?_;obtain⟨vs,Fs,h1,h2,h3,h4⟩:=st.env s _ h;refine⟨_,w,rfl,st.putRef ht ?_⟩;rw[j8 h1];refine⟨vs,fun _=>[], ?_,h2, ?_,fun k hk=>?_⟩
 ·rw[v5 a t _ t (by rw[st.size];exact ht)];simp
 ·symm;rw[List.flatMap_eq_nil_iff];intros;rfl
 ·have hpk:=HM ds hp k hk
  rcases h4 k hk with ⟨h5,_⟩|⟨h5,h6⟩
  ·rw[h5] at hpk;simp[D.pur] at hpk
  ·have hF:=h6.pur hpk;rw[hF] at h6;exact .inr ⟨h5,h6.mono (fun _ _ _=>rfl) (fun b hb _=>⟨hb.1,fun ho=>hb.2 (GD ho)⟩) (fun id hid=>⟨hid,rfl⟩)⟩
theorem R.mkfn{t f:Nat}{xs:List Operand}{ds:List D}{rt:TypeId}(hl:xs.length=ds.length)
 (h:∀ k (h:k<xs.length) (h':k<ds.length),ev C.gl σ xs[k]=some ds[k]/\ds[k].pur=true/\ds[k].isAgg=false) (ht:t<σ.n) :
 OpS P C ⟨some t,.makeFunc (.func f) #[] xs.toArray,rt,pos,aft,g⟩ σ (σ.set t (.fn f ds)):=by
 refine OpS.value fun a w ⟨ρ,Fe,Fb,st⟩=>?_;refine⟨.func (.func f) #[] (xs.map a.eval).toArray,w, ?_,st.put ht rfl ?_⟩
 ·unfold execOp;simp[Instr.makeFunc]
 ·simp only[VR,D.isAgg,Bool.false_eq_true,if_false];refine .fn f ds (xs.map a.eval) (by simp[hl]) (fun k hk=>(h k (by omega) hk).2.2) (fun k hk=>?_);obtain⟨h1,h2,h3⟩:=h k (by omega) hk;obtain⟨F,hv,_⟩:=m5 st h1 (m8 h2);have hF:=hv.pur h2;rw[hF] at hv;simp only[VR,h3,Bool.false_eq_true,if_false] at hv
  have e:(xs.map a.eval).getD k undef=a.eval xs[k]:=by
   have:k<xs.length:=by omega
   simp[List.getD_eq_getElem?_getD,this]
  rw[e];exact hv
theorem j54{t f:Nat}{x:Operand}{d:D}{rt:TypeId}(h:ev C.gl σ x=some d)(hp:d.pur=true)(ha:d.isAgg=false)(ht:t<σ.n) :
 OpS P C ⟨some t,.makeFunc (.func f) #[] #[x],rt,pos,aft,g⟩ σ (σ.set t (.fn f [d])):=by
 refine R.mkfn (xs:=[x]) rfl (fun k h1 h2=>?_) ht
 have:k=0:=by simp at h1;omega
 subst this;exact⟨h,hp,ha⟩
theorem VM{s:Nat}{d d':D}(h:σ.get s=some d)(hr:d.isRef=false)(he:d.brw=d')(hs:St C σ a w):St C (σ.upd s d') a w:=by
 obtain⟨ρ,Fe,Fb,st⟩:=hs;subst he;obtain⟨v,hv,hvr⟩:=(z9 hr).1 (st.env _ _ h);refine⟨ρ,_,Fb,st.turn (F:=[]) h rfl ⟨rfl,Nat.le_refl _⟩ rfl (Nat.le_refl _) (fun _ _ _=>rfl) List.nodup_nil (by simp) ((z9 (by rw[UP];exact hr)).2 ⟨v,hv, ?_⟩)⟩
 have hno:∀ b,Go.Sx.own (Go.Sx.upd Fe s []) Fb b->Go.Sx.own Fe Fb b/\b∉Fe s:=by
  rintro b (⟨u,hu⟩|⟨i,hi⟩)
  ·by_cases hus:u=s
   ·subst hus;simp at hu
   ·rw[q7 hus] at hu;exact⟨.inl ⟨u,hu⟩,st.dEE u s hus b hu⟩
  ·exact⟨.inr ⟨i,hi⟩,fun hm=>st.dEB s i b hm hi⟩
 exact hvr.brw (fun b hb=>⟨st.okO b (.inl ⟨s,hb⟩),fun ho=>(hno b ho).2 hb⟩) (fun b hb _=>⟨hb.1,fun ho=>hb.2 (hno b ho).1⟩)
theorem YX{c:Code}{Q:Exit->Sg->Prop}{s:Nat}{d d':D}(h:σ.get s=some d)(hr:d.isRef=false)(he:d.brw=d')(k:W P C c Q (σ.upd s d')):W P C c Q σ:=
 fun a w hs=>k a w (VM h hr he hs)
def D.brwR:D->D
 | .tup ds=>.tup (ds.map D.brw)
 | d=>d.brw
theorem RV.brwR{G G' L:Nat->Prop}{r:D}{v:Value}{F:List Nat}(h:RV w ρ G L r v F)(hF:∀ b∈F,G' b)(hG:∀ b,G b->b<w.heap.size->G' b):RV w ρ G' L r.brwR v []:=by
 cases r with
 | tup ds=>
  obtain⟨vs,Fs,h1,h2,h3,h4⟩:=h;refine⟨vs,fun _=>[],h1,by simp[h2], ?_,fun k hk=>?_⟩
  ·symm;rw[List.flatMap_eq_nil_iff];intros;rfl
  ·have hk':k<ds.length:=by simpa using hk
   obtain⟨h5,h6⟩:=h4 k hk'
   have e:(ds.map D.brw)[k]=ds[k].brw:=by simp
   rw[e];exact⟨by rw[UP];exact h5,h6.brw (fun b hb=>hF b (by rw[h3];exact List.mem_flatMap.2 ⟨k,List.mem_range.2 hk',hb⟩)) hG⟩
 | _=>
  have h1:=h.1;have h2:=(XV h1).1 h;exact(XV (by rw[D.brwR,UP];exact h1;all_goals (intro ds hc;cases hc))).2 (by rw[D.brwR];exact h2.brw hF hG;all_goals (intro ds hc;cases hc))
theorem R.callZ{f:FuncId}[CaT P f]{t:Nat}{args:List Operand}{tys:Array TypeId}{rt:TypeId}{gl:List (Nat×D)}{ds:List D}{r r':D}
 (hF:Fn P gl f ds r) (hgl:C.gl=gl) (hb:Bors C.gl σ args ds) (hr:FrsR r) (hr':r.brwR=r') (ht:t<σ.n) :
 OpS P C ⟨some t,.call { callee:=.value (.func f),args:=args.toArray,argTypes:=tys },rt,pos,aft,g⟩ σ (σ.set t r'):=by
 subst hgl;subst hr';intro a w ⟨ρ,Fe,Fb,st⟩ K Q hK;refine J1 (V0 a w) (by simp) ?_;rw[Oper.uponIn_enter]
 have hc:=hF w (fun b=>b<w.heap.size) (args.map a.eval) (fun g d hg=>by
  obtain⟨_,cs,e,fz,h1,h2⟩:=YD st g d hg
  exact⟨(Array.getElem?_eq_some_iff.1 h1).1,cs,e,fz,h1,h2⟩) (by simp[hb.len]) (hb.ok st)
 simp only[List.map_toArray];refine⟨(fun h=>by cases h),(C5 (Calls.mono hc ?_))⟩;rintro e w' ⟨v,F,rfl,hext,hnd,hnew,hv⟩;have hlt:=st.lt
 have hput:(a.put (some t) v).tmps[t]? = some v:=by rw[v5 a t v t (by rw[st.size];exact ht)];simp
 refine hK _ _ ⟨ρ,upd Fe t [],Fb,st.ext ht hext List.nodup_nil (by simp) (XW ?_ hput)⟩
 have h0:RV w' ρ (fun _=>False) (fun id=>(σ.box id).isSome) r v F:=by
  refine hv.map Frs hr (fun d v F' hF' hd hx=>?_);have h1:=hx.frs (G':=fun _=>False) hd;exact h1.mono (fun _ _ _=>rfl) (fun b hb _=>hb.elim) (fun id hid=>hid.elim)
 exact h0.brwR (fun b hb=>⟨st.okN b (hnew b hb),fun ho=>by have:=hlt b (GD ho);have:=hnew b hb;omega⟩) (fun _ h _=>h.elim)
theorem OG{o:Oper}{σ0:Sg}(h:∀ a w,St C σ a w->St C σ0 a w)(k:OpS P C o σ0 σ'):OpS P C o σ σ':=fun a w hs=>k a w (h a w hs)
theorem FN{id:Nat}{d d':D}(hb:σ.box id=some (.var d))(h:∀ (w:World) (ρ:Nat->Nat) (G L:Nat->Prop) (cs:List Value) (F:List Nat),Rc w ρ G L true d cs F->Rc w ρ G L true d' cs F)(hs:St C σ a w) :
 St C { σ with bx:=setb id (.var d') σ.bx } a w:=by
 obtain⟨ρ,Fe,Fb,st⟩:=hs
 have hbox:∀ i,(({ σ with bx:=setb id (.var d') σ.bx }:Sg).box i)=if i=id then some (.var d') else σ.box i:=fun i=>by
  show lk (setb id (.var d') σ.bx) i=_;rw[XU];by_cases hi:i=id
  ·subst hi;have:lk σ.bx i=some (.var d):=hb;simp[this]
  ·simp[hi];rfl
 have hiso:∀ i,(({ σ with bx:=setb id (.var d') σ.bx }:Sg).box i).isSome=(σ.box i).isSome:=fun i=>by
  rw[hbox];by_cases hi:i=id
  ·subst hi;simp[hb]
  ·simp[hi]
 have hfun:(fun i=>(({ σ with bx:=setb id (.var d') σ.bx }:Sg).box i).isSome=true)=fun i=>(σ.box i).isSome=true:=by
  funext i;rw[hiso]
 refine⟨ρ,Fe,Fb,{
  size:=st.size
  defs:=st.defs
  pin:=fun i b hp=>⟨(st.pin i b hp).1,by rw[hiso];exact(st.pin i b hp).2⟩
  env:=fun u x hx=>by rw[hfun];exact st.env u x hx
  envN:=st.envN
  bx:=fun i b hd=>?_
  bxN:=fun i hn=>st.bxN i (by have:=hiso i;rw[hn] at this;simpa using this.symm)
  nodE:=st.nodE
  nodB:=st.nodB
  dEE:=st.dEE
  dEB:=st.dEB
  dBB:=st.dBB
  new:=st.new
  kept:=st.kept
  os:=st.os
  tape:=⟨st.tape.tp,st.tape.dr⟩
  output:=st.output
  grown:=st.grown
  gl:=st.gl
  okN:=st.okN
  okO:=st.okO }⟩
 rw[hfun];rw[hbox] at hd;by_cases hi:i=id
 ·subst hi;simp only[if_true,Option.some.injEq] at hd;subst hd;obtain⟨cs,e,F',q1,q2,q3⟩:=st.bx i _ hb;exact⟨cs,e,F',q1,h _ _ _ _ _ _ q2,q3⟩
 ·simp only[hi,if_false] at hd;exact st.bx i b hd
end Go.Sx

namespace Go.Sx
variable{pos:String}{aft:Array Edge}{g:Option (Nat×Bool)}
variable{P:Program}{C:Ctx}{σ σ' σ1:Sg}{a:Act}{w w':World}{ρ:Nat->Nat}{Fe Fe' Fb:Nat->List Nat}
theorem o8{p s id off:Nat}{path:List Nat}{d0 d1 d' dx:D}{ty n rt:TypeId}{gg:Bool}[LdT P ty n gg]
 (h:σ.get p=some (.ptr id off path)) (hb:σ.box id=some (.var d0)) (hl:d0.loc path=some (off,d1)) (hx:σ.get s=some dx) (hrf:dx.isRef=false) (hnp:dx.np=true)
 (hn:dx.sz=n) (hz:d1.sz=n) (hu:d0.upd path dx=some d') (hna:d0.noArr path=true) :
 OpS P C ⟨none,.store ty (.tmp p) (.tmp s),rt,pos,aft,g⟩ σ ((σ.kill s).putB id (.var d')):=R.stO h hb hl hx hrf hnp hn (hn.trans hz.symm) hu hna
inductive EvP(gl:List (Nat×D))(σ:Sg):List Operand->List D->Prop
 | nil:EvP gl σ [] []
 | cons {x:Operand} {d:D} {xs:List Operand} {ds:List D} (h:ev gl σ x=some d) (hp:d.pur=true) (hn:d.np=true) (t:EvP gl σ xs ds):EvP gl σ (x::xs) (d::ds)
theorem EvP.len{gl:List (Nat×D)}{xs:List Operand}{ds:List D}(h:EvP gl σ xs ds):xs.length=ds.length:=by
 induction h with
 | nil=>rfl
 | cons _ _ _ _ ih=>simp[ih]
theorem EvP.ok{gl:List (Nat×D)}{xs:List Operand}{ds:List D}(h:EvP gl σ xs ds):∀ k (h:k<xs.length) (h':k<ds.length),ev gl σ xs[k]=some ds[k]/\ds[k].pur=true/\ds[k].np=true:=by
 induction h with
 | nil=>intro k hk;simp at hk
 | cons h hp hn t ih=>
  intro k hk hk'
  cases k with
  | zero=>exact⟨h,hp,hn⟩
  | succ k=>simpa using ih k (by simpa using hk) (by simpa using hk')
theorem Y5{f:FuncId}[CaT P f]{t:Nat}{args:List Operand}{tys:Array TypeId}{rt:TypeId}{gl:List (Nat×D)}{ds:List D}{r:D}
 (hC:C.gl=gl) (hF:Fn P gl f ds r) (hb:EvP C.gl σ args ds) (ht:t<σ.n) :
 OpS P C ⟨some t,.call { callee:=.value (.func f),args:=args.toArray,argTypes:=tys },rt,pos,aft,g⟩ σ (σ.set t r):=by
 subst hC;exact R.callP hF hb.len hb.ok ht
theorem FrsR.two{x y:D}(h1:Frs x)(h2:Frs y):FrsR (.tup [x,y]):=.inl ⟨_,rfl,fun d hd=>by
 rcases List.mem_cons.1 hd with rfl|hd
 ·exact h1
 ·rw[List.mem_singleton.1 hd];exact h2⟩
inductive EndL(P:Program)(σ:Sg):List ResultVar->List D->Prop
 | nil:EndL P σ [] []
 | cons {rv:ResultVar} {d:D} {rs:List ResultVar} {ds:List D} (h:KT σ rv=some d) (h1:d.isRef=false) (h2:d.np=true) (h3:VO P d rv) (t:EndL P σ rs ds):EndL P σ (rv::rs) (d::ds)
theorem EndL.len{rs:List ResultVar}{ds:List D}(h:EndL P σ rs ds):ds.length=rs.length:=by
 induction h with
 | nil=>rfl
 | cons _ _ _ _ _ ih=>simp[ih]
theorem EndL.ok{rs:List ResultVar}{ds:List D}(h:EndL P σ rs ds):∀ k (h:k<rs.length) (h':k<ds.length),KT σ rs[k]=some ds[k]/\ds[k].isRef=false/\ds[k].np=true/\VO P ds[k] rs[k]:=by
 induction h with
 | nil=>intro k hk;simp at hk
 | cons h h1 h2 h3 t ih=>
  intro k hk hk'
  cases k with
  | zero=>exact⟨h,h1,h2,h3⟩
  | succ k=>simpa using ih k (by simpa using hk) (by simpa using hk')
theorem Ends.many{r1 r2:ResultVar}{rs:List ResultVar}{ds ds':List D}{e:Exit}(he:e=.normal∨e=.ret)(h:EndL P σ (r1::r2::rs) ds')(hd:ds'=ds)(hn:((r1::r2::rs).map (X1 σ)).Nodup):Ends (r1::r2::rs) P (.tup ds) e σ:=by
 subst hd;exact⟨he,_,rfl,h.len,hn,h.ok⟩
end Go.Sx

namespace Go.Sx
variable{P:Program}{C:Ctx}{σ σ' σ1 σ2:Sg}{a:Act}{w w':World}{ρ ρ2:Nat->Nat}{Fe Fe' Fb Fb2:Nat->List Nat}
structure ExtO(O:Nat->Prop)(w w':World):Prop where
 os:w'.os=w.os
 tape:TpR w' w
 output:w'.output=w.output
 size:w.heap.size<=w'.heap.size
 block:∀ b,b<w.heap.size->¬ O b->w'.heap[b]? = w.heap[b]?
def Ctx.less(C:Ctx)(F:List Nat):Ctx:={ C with ok:=fun b=>C.ok b/\b∉F }
theorem VN{G G' L L':Nat->Prop}{u:Nat}{d:D}{F:List Nat}(h:SR w ρ G L a u d F)
 (hh:∀ b,(G b∨b∈F)->b<w.heap.size->w'.heap[b]? = w.heap[b]?) (hg:∀ b,G b->b<w.heap.size->G' b) (hL:∀ i,L i->L' i/\ρ2 i=ρ i)
 (hc:∀ i off path,d=.alb i off path->L i->w'.heap[ρ i]? = w.heap[ρ i]?):SR w' ρ2 G' L' a u d F:=by
 cases d with
 | al s=>exact h
 | alb i off path=>
  obtain⟨hF,hid,x,hx,hs⟩:=h;obtain⟨q1,q2⟩:=hL i hid;exact⟨hF,q1,x,hx,by rw[q2,<- hs];exact World.cell?_of_block (hc i off path rfl hid)⟩
 | vw s z lo n=>exact h
 | va i off z n path lo=>
  obtain⟨hF,hid,h3⟩:=h;obtain⟨q1,q2⟩:=hL i hid;exact⟨hF,q1,by rw[q2];exact h3⟩
 | ep s z i off path=>exact h
 | tup ds=>
  obtain⟨vs,Fs,h1,h2,h3,h4⟩:=h;refine⟨vs,Fs,h1,h2,h3,fun k hk=>(h4 k hk).imp (fun hx=>hx) fun hx=>⟨hx.1,hx.2.mono (fun b hb=>hh b (hb.imp (fun hx=>hx) fun hm=>?_)) hg hL⟩⟩;rw[h3];exact List.mem_flatMap.2 ⟨k,List.mem_range.2 hk,hm⟩
 | dead=>exact h
 | _=>obtain⟨x,hx,hr⟩:=h;exact⟨x,hx,hr.mono hh hg hL⟩
theorem StW.lend(st:StW C σ a w ρ Fe Fb){F:List Nat}{lent new:Nat->Prop}(hw:ExtO (fun b=>∃ id,lent id/\b∈Fb id) w w')
 (hn:σ2.n=σ.n) (hρ:∀ id,(σ.box id).isSome=true->ρ2 id=ρ id) (hlent:∀ id,lent id->(σ.box id).isSome=true)
 (hget:∀ u d,σ2.get u=some d->∃ d0,σ.get u=some d0/\(d=d0/\(∀ id off path,d0=.alb id off path->¬ lent id)∨d=.dead/\∃ id off path,d0=.alb id off path))
 (hgetN:∀ u,σ2.get u=none->σ.get u=none)
 (hbox:∀ id,¬ (lent id∨new id)->σ2.box id=σ.box id/\Fb2 id=Fb id) (hboxS:∀ id,(lent id∨new id)->(σ2.box id).isSome=true)
 (hbx:∀ id x,σ2.box id=some x->(lent id∨new id)->BR w' ρ2 (gd (C.less F) Fe Fb2) (fun i=>(σ2.box i).isSome) (ρ2 id) x (Fb2 id))
 (hnod:∀ id,(lent id∨new id)->(Fb2 id).Nodup) (hdis:∀ id id',(lent id∨new id)->(lent id'∨new id')->id≠id'->∀ b,b∈Fb2 id->b∉Fb2 id')
 (hsrc:∀ id b,(lent id∨new id)->b∈Fb2 id->(w.heap.size<=b∨∃ i,lent i/\b∈Fb i)/\b∉F)
 (hF:∀ b∈F,w.heap.size<=b∨∃ i,lent i/\b∈Fb i) (hFl:∀ b∈F,b<w'.heap.size):StW (C.less F) σ2 a w' ρ2 Fe Fb2:=by
 have hlt:=st.lt;have hlo:∀ b,(∃ i,lent i/\b∈Fb i)->own Fe Fb b:=fun b ⟨i,_,hi⟩=>.inr ⟨i,hi⟩
 have hown:∀ b,own Fe Fb2 b->(own Fe Fb b∨w.heap.size<=b):=by
  rintro b (h|⟨id,hid⟩)
  ·exact .inl (.inl h)
  ·by_cases ht:lent id∨new id
   ·rcases(hsrc id b ht hid).1 with h|h
    ·exact .inr h
    ·exact .inl (hlo b h)
   ·rw[(hbox id ht).2] at hid;exact .inl (.inr ⟨id,hid⟩)
 have hunF:∀ u b,b∈Fe u->b<w.heap.size->w'.heap[b]? = w.heap[b]?:=fun u b hb hl=>hw.block b hl (fun⟨i,_,hi⟩=>st.dEB u i b hb hi);have hung:∀ b,gd C Fe Fb b->b<w.heap.size->w'.heap[b]? = w.heap[b]?:=fun b hb hl=>hw.block b hl (fun h=>hb.2 (hlo b h));have hunB:∀ id b,¬ lent id->b∈Fb id->b<w.heap.size->w'.heap[b]? = w.heap[b]?:=fun id b hn hb hl=>hw.block b hl (fun⟨i,hi,hb'⟩=>st.dBB i id (fun e=>hn (e▸hi)) b hb' hb)
 have hg:∀ b,gd C Fe Fb b->b<w.heap.size->gd (C.less F) Fe Fb2 b:=fun b hb hl=>by
  refine⟨⟨hb.1,fun hm=>?_⟩,fun ho=>?_⟩
  ·rcases hF b hm with h|h
   ·omega
   ·exact hb.2 (hlo b h)
  ·rcases hown b ho with h|h
   ·exact hb.2 h
   ·omega
 have hL:∀ i,(σ.box i).isSome=true->(σ2.box i).isSome=true/\ρ2 i=ρ i:=fun i hi=>by
  refine⟨?_,hρ i hi⟩;by_cases ht:lent i∨new i
  ·exact hboxS i ht
  ·rw[(hbox i ht).1];exact hi
 refine { size:=by rw[hn];exact st.size,defs:=st.defs,pin:=fun id b hp=>?_,env:=fun u d hd=>?_,envN:=fun u hu=>st.envN u (hgetN u hu),bx:=fun id x hx=>?_,bxN:=fun id hx=>?_,nodE:=st.nodE,nodB:=fun id=>?_,dEE:=st.dEE,dEB:=fun u id b hb hb'=>?_,dBB:=fun id id' hne b hb hb'=>?_,new:=fun b hb hk=>?_,kept:=fun b hk=>?_,os:=hw.os.trans st.os,tape:=hw.tape.trans st.tape,output:=hw.output.trans st.output,grown:=Nat.le_trans st.grown hw.size,gl:=fun g d hgd=>?_,okN:=fun b hb=>?_,okO:=fun b hb=>?_ }
 ·obtain⟨h1,h2⟩:=st.pin id b hp;obtain⟨h3,h4⟩:=hL id h2;exact⟨h4.trans h1,h3⟩
 ·obtain⟨d0,h0,h1⟩:=hget u d hd;have hs:=st.env u d0 h0
  rcases h1 with ⟨rfl,h1⟩|⟨rfl,id,off,path,rfl⟩
  ·refine VN hs (fun b hb hl=>hb.elim (fun h=>hung b h hl) (fun h=>hunF u b h hl)) hg hL (fun i off path he hi=>?_)
   cases hbi:σ.box i with
   | none=>rw[hbi] at hi;cases hi
   | some x=>
    have hm:=(st.bx i x hbi).mem;exact hunB i _ (h1 i off path he) hm (hlt _ (.inr ⟨i,hm⟩))
  ·obtain⟨hF0,hid,v,hv,_⟩:=hs;exact⟨hF0,v,hv⟩
 ·by_cases ht:lent id∨new id
  ·exact hbx id x hx ht
  ·obtain⟨q1,q2⟩:=hbox id ht;rw[q1] at hx;rw[q2,hρ id (by rw[hx];rfl)];exact(st.bx id x hx).mono (fun b hb hl=>hb.elim (fun h=>hung b h hl) (fun h=>hunB id b (fun hl'=>ht (.inl hl')) h hl)) hg hL
 ·by_cases ht:lent id∨new id
  ·have:=hboxS id ht;rw[hx] at this;cases this
  ·obtain⟨q1,q2⟩:=hbox id ht;rw[q2];exact st.bxN id (by rw[<- q1];exact hx)
 ·by_cases ht:lent id∨new id
  ·exact hnod id ht
  ·rw[(hbox id ht).2];exact st.nodB id
 ·by_cases ht:lent id∨new id
  ·rcases(hsrc id b ht hb').1 with h|⟨i,hi,hbi⟩
   ·have:=hlt b (.inl ⟨u,hb⟩);omega
   ·exact st.dEB u i b hb hbi
  ·rw[(hbox id ht).2] at hb';exact st.dEB u id b hb hb'
 ·by_cases ht:lent id∨new id
  ·by_cases ht':lent id'∨new id'
   ·exact hdis id id' ht ht' hne b hb hb'
   ·rw[(hbox id' ht').2] at hb'
    rcases(hsrc id b ht hb).1 with h|⟨i,hi,hbi⟩
    ·have:=hlt b (.inr ⟨id',hb'⟩);omega
    ·exact st.dBB i id' (fun e=>ht' (.inl (e▸hi))) b hbi hb'
  ·rw[(hbox id ht).2] at hb;by_cases ht':lent id'∨new id'
   ·rcases(hsrc id' b ht' hb').1 with h|⟨i,hi,hbi⟩
    ·have:=hlt b (.inr ⟨id,hb⟩);omega
    ·exact st.dBB i id (fun e=>ht (.inl (e▸hi))) b hbi hb
   ·rw[(hbox id' ht').2] at hb';exact st.dBB id id' hne b hb hb'
 ·rcases hown b hb with h|h
  ·exact st.new b h hk
  ·have:=(st.kept b hk).2;have:=st.grown;omega
 ·obtain⟨h1,h2⟩:=st.kept b hk;exact⟨(hw.block b (Nat.lt_of_lt_of_le h2 st.grown) (fun h=>st.new b (hlo b h) hk)).trans h1,h2⟩
 ·obtain⟨h1,h2,h3⟩:=st.gl g d hgd;refine⟨h1,⟨h2,fun hm=>?_⟩,h3⟩
  rcases hF g hm with h|h
  ·have:=(st.kept g h1).2;have:=st.grown;omega
  ·exact st.new g (hlo g h) h1
 ·refine⟨st.okN b (Nat.le_trans hw.size hb),fun hm=>?_⟩;have:=hFl b hm;omega
 ·have hk:C.ok b:=by
   rcases hown b hb with h|h
   ·exact st.okO b h
   ·exact st.okN b h
  refine⟨hk,fun hm=>?_⟩
  rcases hb with ⟨u,hu⟩|⟨id,hid⟩
  ·rcases hF b hm with h|⟨i,hi,hbi⟩
   ·have:=hlt b (.inl ⟨u,hu⟩);omega
   ·exact st.dEB u i b hu hbi
  ·by_cases ht:lent id∨new id
   ·exact(hsrc id b ht hid).2 hm
   ·rw[(hbox id ht).2] at hid
    rcases hF b hm with h|⟨i,hi,hbi⟩
    ·have:=hlt b (.inr ⟨id,hid⟩);omega
    ·exact st.dBB i id (fun e=>ht (.inl (e▸hi))) b hbi hid
theorem StW.adopt{t:Nat}{d:D}{v:Value}{F:List Nat}(h:StW (C.less F) σ a w ρ Fe Fb)(ht:t<σ.n)(hF:F.Nodup)(hdE:∀ u,∀ b∈F,b∉Fe u)(hdB:∀ id,∀ b∈F,b∉Fb id)
 (hk:∀ b∈F,¬ C.keep b) (hok:∀ b∈F,C.ok b) (hv:SR w ρ (gd C (upd Fe t F) Fb) (fun id=>(σ.box id).isSome) (a.put (some t) v) t d F) :
 StW C (σ.set t d) (a.put (some t) v) w ρ (upd Fe t F) Fb:=by
 have hsz:t<a.tmps.size:=by rw[h.size];exact ht
 have hlt:=h.lt
 have hg:∀ b,gd (C.less F) Fe Fb b->b<w.heap.size->gd C (upd Fe t F) Fb b:=by
  rintro b ⟨⟨hok,hnF⟩,hb⟩ hlt';refine⟨hok, ?_⟩;rintro (⟨u,hu⟩|⟨id,hid⟩)
  ·by_cases hut:u=t
   ·subst hut;simp at hu;exact hnF hu
   ·rw[q7 hut] at hu;exact hb (.inl ⟨u,hu⟩)
  ·exact hb (.inr ⟨id,hid⟩)
 have hL:∀ id,(fun id=>(σ.box id).isSome=true) id->(fun id=>((σ.set t d).box id).isSome=true) id/\ρ id=ρ id:=fun id hid=>⟨hid,rfl⟩
 refine⟨?_,h.defs,h.pin, ?_, ?_, ?_,h.bxN, ?_,h.nodB, ?_, ?_,h.dBB, ?_,h.kept,h.os,⟨h.tape.tp,h.tape.dr⟩,h.output,h.grown,fun g d hgd=>⟨(h.gl g d hgd).1,(h.gl g d hgd).2.1.1,(h.gl g d hgd).2.2⟩,fun b hb=>(h.okN b hb).1, ?_⟩
 ·simp[Act.put,h.size]
 ·intro u x hx;rw[m9] at hx;by_cases hut:u=t
  ·subst hut;simp at hx;subst hx;simp only[j1];exact hv
  ·simp only[hut,if_false] at hx;obtain⟨d0,hd0,rfl⟩:=Option.map_eq_some_iff.1 hx;rw[q7 hut];exact R4 hut hsz (h.env u d0 hd0) (fun b _ hb=>rfl) hg hL (fun id off v _ hc=>hc)
 ·intro u hu;rw[m9] at hu;by_cases hut:u=t
  ·simp[hut] at hu
  ·simp only[hut,if_false,Option.map_eq_none_iff] at hu;rw[q7 hut];exact h.envN u hu
 ·intro id x hx;exact(h.bx id x hx).mono (fun b _ hb=>rfl) hg hL
 ·intro u;by_cases hut:u=t
  ·subst hut;simpa using hF
  ·rw[q7 hut];exact h.nodE u
 ·intro u u' huu b hb hb';by_cases hut:u=t
  ·subst hut;rw[q7 (fun e=>huu e.symm)] at hb';simp at hb;exact hdE u' b hb hb'
  ·rw[q7 hut] at hb;by_cases hut':u'=t
   ·subst hut';simp at hb';exact hdE u b hb' hb
   ·rw[q7 hut'] at hb';exact h.dEE u u' huu b hb hb'
 ·intro u id b hb hb';by_cases hut:u=t
  ·subst hut;simp at hb;exact hdB id b hb hb'
  ·rw[q7 hut] at hb;exact h.dEB u id b hb hb'
 ·rintro b (⟨u,hu⟩|⟨id,hid⟩) hkb
  ·by_cases hut:u=t
   ·subst hut;simp at hu;exact hk b hu hkb
   ·rw[q7 hut] at hu;exact h.new b (.inl ⟨u,hu⟩) hkb
  ·exact h.new b (.inr ⟨id,hid⟩) hkb
 ·rintro b (⟨u,hu⟩|⟨id,hid⟩)
  ·by_cases hut:u=t
   ·subst hut;simp at hu;exact hok b hu
   ·rw[q7 hut] at hu;exact(h.okO b (.inl ⟨u,hu⟩)).1
  ·exact(h.okO b (.inr ⟨id,hid⟩)).1
mutual
def D.ren(m:Nat->Nat):D->D
 | .ptr id off path=>.ptr (m id) off path
 | .bs id z n cap=>.bs (m id) z n cap
 | .map id=>.map (m id)
 | .agg l=>.agg (QZ m l)
 | .fn f l=>.fn f (QZ m l)
 | .tup l=>.tup (QZ m l)
 | .ifc t d=>.ifc t (D.ren m d)
 | d=>d
def QZ(m:Nat->Nat):List D->List D
 | []=>[]
 | d::r=>D.ren m d::QZ m r
end
theorem O6(m:Nat->Nat)(l:List D):QZ m l=l.map (D.ren m):=by
 induction l with
 | nil=>rfl
 | cons d r ih=>simp[QZ,ih]
mutual
theorem m6(m:Nat->Nat)(d:D):(d.ren m).sz=d.sz:=by
 cases d with
 | agg l=>simp only[D.ren,S9];exact JF m l
 | _=>simp[D.ren,D.sz]
theorem JF(m:Nat->Nat)(l:List D):Z5 (QZ m l)=Z5 l:=by
 cases l with
 | nil=>rfl
 | cons d r=>simp only[QZ,H0,m6 m d,JF m r]
end
theorem AS(m:Nat->Nat)(l:List D)(k:Nat):offk (l.map (D.ren m)) k=offk l k:=by
 unfold offk;rw[<- List.map_take,<- O6,JF]
theorem N5(m:Nat->Nat)(d:D):(d.ren m).isAgg=d.isAgg:=by cases d<;>rfl
theorem PJ(m:Nat->Nat)(d:D)(h:d.isRef=false):(d.ren m).isRef=false:=by cases d<;>first|rfl|simp[D.isRef] at h
theorem Rc.ren{G L L':Nat->Prop}{m:Nat->Nat}{p:Bool}{d:D}{cs:List Value}{F:List Nat}(h:Rc w ρ G L p d cs F)(hL:∀ i,L i->L' (m i)/\ρ2 (m i)=ρ i):Rc w ρ2 G L' p (d.ren m) cs F:=by
 induction h with
 | bool b=>exact .bool b
 | int n=>exact .int n
 | u8 x=>exact .u8 x
 | u16 x=>exact .u16 x
 | u32 x=>exact .u32 x
 | u64 x=>exact .u64 x
 | ik k n=>exact .ik k n
 | str s=>exact .str s
 | nils=>exact .nils
 | slN o z=>exact .slN o z
 | slE o z a=>exact .slE o z a
 | slI b off cs e fz cap z l hb hG hc hs hr ih=>exact .slI b off cs e fz cap z l hb hG hc hs (fun i hi=>(hr i hi).noL)
 | slO b cs e cap z l Fs hb hc hm hs ho1 hr ih=>exact .slO b cs e cap z l Fs hb hc hm hs ho1 (fun i hi=>(hr i hi).noL)
 | agg l cs Fs hs hr ih=>
  simp only[D.ren,O6]
  have:=Rc.agg (w:=w) (ρ:=ρ2) (G:=G) (L:=L') (p:=‹Bool›) (l.map (D.ren m)) cs Fs (by rw[<- O6,JF];exact hs) (fun k hk=>by
   have hk':k<l.length:=by simpa using hk
   have:=ih k hk';simp only[List.getElem_map,AS,m6]
   exact this)
  simpa using this
 | arr n z l cs hl hs hr ih=>exact .arr n z l cs hl hs (fun i hi=>(hr i hi).noL)
 | ptr id off path hid=>
  obtain⟨h1,h2⟩:=hL id hid;simp only[D.ren];rw[<- h2];exact .ptr (m id) off path h1
 | bs id z n cap hid hcap=>
  obtain⟨h1,h2⟩:=hL id hid;simp only[D.ren];rw[<- h2];exact .bs (m id) z n cap h1 hcap
 | nilp=>exact .nilp
 | rp d b off cs e fz hb hG hs hr ih=>exact .rp d b off cs e fz hb hG hs hr.noL
 | map id hid=>
  obtain⟨h1,h2⟩:=hL id hid;simp only[D.ren];rw[<- h2];exact .map (m id) h1
 | nilmap=>exact .nilmap
 | fn f caps vs hl ha hr ih=>
  simp only[D.ren,O6]
  exact .fn f (caps.map (D.ren m)) vs (by simpa using hl) (fun k hk=>by
   have hk':k<caps.length:=by simpa using hk
   rw[List.getElem_map,N5];exact ha k hk') (fun k hk=>by
   have hk':k<caps.length:=by simpa using hk
   rw[List.getElem_map];exact ih k hk')
 | nilf=>exact .nilf
 | yld l=>exact .yld l
 | ifc t d v ha hr ih=>simp only[D.ren];exact .ifc t (d.ren m) v (by rw[N5];exact ha) ih
 | nili=>exact .nili
 | dead v h=>exact .dead v h
theorem Rc.unren{G L L':Nat->Prop}{m:Nat->Nat}{p:Bool}{d:D}{d':D}{cs:List Value}{F:List Nat}(h:Rc w ρ G L p d' cs F)(hd:d'=d.ren m)(hL:∀ i,L (m i)->L' i/\ρ2 i=ρ (m i)):Rc w ρ2 G L' p d cs F:=by
 induction h generalizing d with
 | bool b=>cases d<;>simp only[D.ren,reduceCtorEq] at hd;cases hd;exact .bool b
 | int n=>cases d<;>simp only[D.ren,reduceCtorEq] at hd;cases hd;exact .int n
 | u8 x=>cases d<;>simp only[D.ren,reduceCtorEq] at hd;cases hd;exact .u8 x
 | u16 x=>cases d<;>simp only[D.ren,reduceCtorEq] at hd;cases hd;exact .u16 x
 | u32 x=>cases d<;>simp only[D.ren,reduceCtorEq] at hd;cases hd;exact .u32 x
 | u64 x=>cases d<;>simp only[D.ren,reduceCtorEq] at hd;cases hd;exact .u64 x
 | ik k n=>cases d<;>simp only[D.ren,reduceCtorEq] at hd;cases hd;exact .ik k n
 | str s=>cases d<;>simp only[D.ren,reduceCtorEq] at hd;cases hd;exact .str s
 | nils=>cases d<;>simp only[D.ren,reduceCtorEq] at hd;exact .nils
 | slN o z=>cases d<;>simp only[D.ren,reduceCtorEq] at hd;cases hd;exact .slN o z
 | slE o z a=>cases d<;>simp only[D.ren,reduceCtorEq] at hd;cases hd;exact .slE o z a
 | slI b off cs e fz cap z l hb hG hc hs hr ih=>cases d<;>simp only[D.ren,reduceCtorEq] at hd;cases hd;exact .slI b off cs e fz cap z l hb hG hc hs (fun i hi=>(hr i hi).noL)
 | slO b cs e cap z l Fs hb hc hm hs ho1 hr ih=>cases d<;>simp only[D.ren,reduceCtorEq] at hd;cases hd;exact .slO b cs e cap z l Fs hb hc hm hs ho1 (fun i hi=>(hr i hi).noL)
 | agg l cs Fs hs hr ih=>
  cases d with
  | agg l0=>
   simp only[D.ren,D.agg.injEq,O6] at hd;subst hd
   have:=Rc.agg (w:=w) (ρ:=ρ2) (G:=G) (L:=L') (p:=‹Bool›) l0 cs Fs (by rw[<- O6,JF] at hs;exact hs) (fun k hk=>by
    have:=ih k (by simpa using hk) (d:=l0[k]) (by simp);simp only[List.getElem_map,AS,m6] at this
    exact this)
   simpa using this
  | _=>simp only[D.ren,reduceCtorEq] at hd
 | arr n z l cs hl hs hr ih=>cases d<;>simp only[D.ren,reduceCtorEq] at hd;cases hd;exact .arr n z l cs hl hs (fun i hi=>(hr i hi).noL)
 | ptr id off path hid=>
  cases d with
  | ptr id0 off0 path0=>
   simp only[D.ren,D.ptr.injEq] at hd;obtain⟨rfl,rfl,rfl⟩:=hd;obtain⟨h1,h2⟩:=hL id0 hid;rw[<- h2];exact .ptr id0 _ _ h1
  | _=>simp only[D.ren,reduceCtorEq] at hd
 | bs id z n cap hid hcap=>
  cases d with
  | bs id0 z0 n0 cap0=>
   simp only[D.ren,D.bs.injEq] at hd;obtain⟨rfl,rfl,rfl,rfl⟩:=hd;obtain⟨h1,h2⟩:=hL id0 hid;rw[<- h2];exact .bs id0 _ _ _ h1 hcap
  | _=>simp only[D.ren,reduceCtorEq] at hd
 | nilp=>cases d<;>simp only[D.ren,reduceCtorEq] at hd;exact .nilp
 | rp d0 b off cs e fz hb hG hs hr ih=>cases d<;>simp only[D.ren,reduceCtorEq] at hd;cases hd;exact .rp d0 b off cs e fz hb hG hs hr.noL
 | map id hid=>
  cases d with
  | map id0=>
   simp only[D.ren,D.map.injEq] at hd;subst hd;obtain⟨h1,h2⟩:=hL id0 hid;rw[<- h2];exact .map id0 h1
  | _=>simp only[D.ren,reduceCtorEq] at hd
 | nilmap=>cases d<;>simp only[D.ren,reduceCtorEq] at hd;exact .nilmap
 | fn f caps vs hl ha hr ih=>
  cases d with
  | fn f0 caps0=>
   simp only[D.ren,D.fn.injEq,O6] at hd;obtain⟨rfl,rfl⟩:=hd;exact .fn f caps0 vs (by simpa using hl) (fun k hk=>by have:=ha k (by simpa using hk);rw[List.getElem_map,N5] at this;exact this) (fun k hk=>ih k (by simpa using hk) (by simp))
  | _=>simp only[D.ren,reduceCtorEq] at hd
 | nilf=>cases d<;>simp only[D.ren,reduceCtorEq] at hd;exact .nilf
 | yld l=>cases d<;>simp only[D.ren,reduceCtorEq] at hd;cases hd;exact .yld l
 | ifc t d0 v ha hr ih=>
  cases d with
  | ifc t1 d1=>
   simp only[D.ren,D.ifc.injEq] at hd;obtain⟨rfl,rfl⟩:=hd;exact .ifc t d1 v (by rw[N5] at ha;exact ha) (ih rfl)
  | _=>simp only[D.ren,reduceCtorEq] at hd
 | nili=>cases d<;>simp only[D.ren,reduceCtorEq] at hd;exact .nili
 | dead v h=>cases d<;>simp only[D.ren,reduceCtorEq] at hd;exact .dead v h
theorem VR.ren{G L L':Nat->Prop}{m:Nat->Nat}{d:D}{v:Value}{F:List Nat}(h:VR w ρ G L d v F)(hL:∀ i,L i->L' (m i)/\ρ2 (m i)=ρ i):VR w ρ2 G L' (d.ren m) v F:=by
 unfold VR at *;rw[N5]
 cases hd:d.isAgg<;>simp only[hd,if_true,if_false,Bool.false_eq_true] at h ⊢
 ·exact h.ren hL
 ·obtain⟨cs,rfl,h⟩:=h;exact⟨cs,rfl,h.ren hL⟩
theorem VR.unren{G L L':Nat->Prop}{m:Nat->Nat}{d:D}{v:Value}{F:List Nat}(h:VR w ρ G L (d.ren m) v F)(hL:∀ i,L (m i)->L' i/\ρ2 i=ρ (m i)):VR w ρ2 G L' d v F:=by
 unfold VR at *;rw[N5] at h
 cases hd:d.isAgg<;>simp only[hd,if_true,if_false,Bool.false_eq_true] at h ⊢
 ·exact h.unren rfl hL
 ·obtain⟨cs,rfl,h⟩:=h;exact⟨cs,rfl,h.unren rfl hL⟩
theorem RV.ren{G L L':Nat->Prop}{m:Nat->Nat}{d:D}{v:Value}{F:List Nat}(h:RV w ρ G L d v F)(hL:∀ i,L i->L' (m i)/\ρ2 (m i)=ρ i):RV w ρ2 G L' (d.ren m) v F:=by
 cases d with
 | tup ds=>
  obtain⟨vs,Fs,h1,h2,h3,h4⟩:=h;simp only[D.ren,O6];refine⟨vs,Fs,h1,by simpa using h2,by simpa using h3,fun k hk=>?_⟩
  have hk':k<ds.length:=by simpa using hk
  rw[List.getElem_map];exact⟨PJ m _ (h4 k hk').1,(h4 k hk').2.ren hL⟩
 | _=>exact⟨PJ m _ h.1,h.2.ren hL⟩
end Go.Sx

namespace Go.Sx
variable{P:Program}{C:Ctx}{σ σ' σ1 σ2:Sg}{a:Act}{w w':World}{ρ ρ2:Nat->Nat}{Fe Fe' Fb Fb2:Nat->List Nat}
structure Hand(bx:List (Nat×Bx))(w:World)(ρ:Nat->Nat)(G:Nat->Prop)(Fb:Nat->List Nat):Prop where
 box:∀ id x,lk bx id=some x->BR w ρ G (fun i=>(lk bx i).isSome=true) (ρ id) x (Fb id)
 boxN:∀ id,lk bx id=none->Fb id=[]
 nodB:∀ id,(Fb id).Nodup
 dBB:∀ id id',id≠id'->∀ b,b∈Fb id->b∉Fb id'
 out:∀ id b,b∈Fb id->¬ G b
def FnB(P:Program)(gl:List (Nat×D))(f:FuncId)(ds:List D)(bx:List (Nat×Bx))(r:D)(bx' nw:List (Nat×Bx)):Prop:=
 ∀ (w:World) (G:Nat->Prop) (ρ:Nat->Nat) (Fb:Nat->List Nat) (vs:List Value),
  (∀ g d,(g,d)∈gl->G g/\∃ cs e fz,w.heap[g]? = some (.cells cs e fz)/\Rc w (fun x=>x) (fun _=>False) (fun _=>False) false d cs.toList []) ->
  (∀ b,G b->b<w.heap.size) ->
  vs.length=ds.length->(∀ k (h:k<ds.length),VR w ρ G (fun i=>(lk bx i).isSome=true) ds[k] (vs.getD k undef) [])->Hand bx w ρ G Fb ->
  Calls P f vs.toArray w (fun e w'=>∃ v F ρ' Fb',e=.returned v/\ExtO (fun b=>∃ id,b∈Fb id) w w'/\(∀ id,(lk bx id).isSome=true->ρ' id=ρ id)/\F.Nodup /\
   (∀ b,(b∈F∨∃ id,b∈Fb' id)->w.heap.size<=b∨∃ id,b∈Fb id)/\(∀ id,∀ b∈F,b∉Fb' id)/\(∀ b∈F,b<w'.heap.size) /\
   Hand (nw++bx') w' ρ' (fun b=>(G b∨w.heap.size<=b∨∃ id,b∈Fb id)/\b∉F/\¬ ∃ id,b∈Fb' id) Fb' /\
   RV w' ρ' (fun b=>(G b∨w.heap.size<=b∨∃ id,b∈Fb id)/\b∉F/\¬ ∃ id,b∈Fb' id) (fun i=>(lk (nw++bx') i).isSome=true) r v F)
def EndR(rs:List ResultVar)(P:Program)(r:D)(σ:Sg):Prop:=
 match rs with
 | [rv]=>KT σ rv=some r/\r.isRef=false/\VO P r rv
 | rs=>∃ ds,r=.tup ds/\ds.length=rs.length/\(rs.map (X1 σ)).Nodup/\∀ k (h:k<rs.length) (h':k<ds.length),KT σ rs[k]=some ds[k]/\ds[k].isRef=false/\VO P ds[k] rs[k]
theorem EndR.out{fn:Func}{r:D}(st:StW C σ a w ρ Fe Fb)(hend:EndR fn.results.toList P r σ) :
 ∃ v,(results fn a.tmps).run P w=.ok v w/\∃ F,F.Nodup/\(∀ b∈F,∃ rv∈fn.results.toList,b∈(if(X1 σ rv).2 then Fe (X1 σ rv).1 else Fb (X1 σ rv).1))/\RV w ρ (gd C Fe Fb) (fun id=>(σ.box id).isSome=true) r v F:=by
 have one:∀ rv,fn.results.toList=[rv]->KT σ rv=some r/\r.isRef=false/\VO P r rv ->
  ∃ v,(results fn a.tmps).run P w=.ok v w/\∃ F,F.Nodup/\(∀ b∈F,∃ rv∈fn.results.toList,b∈(if(X1 σ rv).2 then Fe (X1 σ rv).1 else Fb (X1 σ rv).1))/\RV w ρ (gd C Fe Fb) (fun id=>(σ.box id).isSome=true) r v F:=by
  rintro rv hrs ⟨h1,h2,h4⟩;obtain⟨v,F,hv1,hv2,hv3,hv4⟩:=GC (P:=P) st h1 h2 h4;refine⟨v, ?_,F,hv3,fun b hb=>⟨rv,by rw[hrs];simp,hv4 b hb⟩,(XV h2).2 hv2⟩
  rw[B1 hrs (fun _=>v) w (fun k hk=>by
   have:k=0:=by simp at hk;omega
   subst this;exact hv1)]
  rfl
 have many:∀ rs,fn.results.toList=rs->rs.length≠1->(∃ ds,r=.tup ds/\ds.length=rs.length/\(rs.map (X1 σ)).Nodup/\∀ k (h:k<rs.length) (h':k<ds.length),KT σ rs[k]=some ds[k]/\ds[k].isRef=false/\VO P ds[k] rs[k]) ->
  ∃ v,(results fn a.tmps).run P w=.ok v w/\∃ F,F.Nodup/\(∀ b∈F,∃ rv∈fn.results.toList,b∈(if(X1 σ rv).2 then Fe (X1 σ rv).1 else Fb (X1 σ rv).1))/\RV w ρ (gd C Fe Fb) (fun id=>(σ.box id).isSome=true) r v F:=by
  rintro rs hrs hne ⟨ds',rfl,hl',hnd,hall⟩
  have hk:∀ k,∃ vF:Value×List Nat,k<rs.length->∃ (h:k<rs.length) (h':k<ds'.length),
   (CF a.tmps rs[k]).run P w=.ok vF.1 w /\
   VR w ρ (gd C Fe Fb) (fun id=>(σ.box id).isSome) ds'[k] vF.1 vF.2/\vF.2.Nodup/\(∀ b∈vF.2,b∈(if(X1 σ rs[k]).2 then Fe (X1 σ rs[k]).1 else Fb (X1 σ rs[k]).1)):=by
   intro k;by_cases hk:k<rs.length
   ·have hk':k<ds'.length:=by omega
    obtain⟨h1,h2,h4⟩:=hall k hk hk';obtain⟨v,F,q⟩:=GC (P:=P) st h1 h2 h4;exact⟨(v,F),fun _=>⟨hk,hk',q⟩⟩
   ·exact⟨(undef,[]),fun h=>absurd h hk⟩
  obtain⟨vF,hk⟩:=Classical.skolem.1 hk
  have hdis:∀ j k,j<rs.length->k<rs.length->j≠k->∀ b,b∈(vF j).2->b∉(vF k).2:=by
   intro j k hj hkk hjk b hb hb';obtain⟨h,h',q1,q2,q3,q4⟩:=hk j hj;obtain⟨g,g',p1,p2,p3,p4⟩:=hk k hkk;have e1:=q4 b hb;have e2:=p4 b hb'
   have hne:X1 σ rs[j]≠X1 σ rs[k]:=by
    intro he;have:=(List.getElem_inj (h₀:=by simpa using hj) (h₁:=by simpa using hkk) hnd).1 (by simpa using he);exact hjk this
   generalize X1 σ rs[j]=x at e1 hne;generalize X1 σ rs[k]=y at e2 hne;obtain⟨x1,x2⟩:=x;obtain⟨y1,y2⟩:=y
   cases x2<;>cases y2<;>simp at e1 e2 hne
   ·exact st.dBB x1 y1 hne b e1 e2
   ·exact st.dEB y1 x1 b e2 e1
   ·exact st.dEB x1 y1 b e1 e2
   ·exact st.dEE x1 y1 hne b e1 e2
  refine⟨.tuple ((List.range rs.length).map (fun k=>(vF k).1)).toArray, ?_,(List.range ds'.length).flatMap (fun k=>(vF k).2), ?_, ?_,_,(fun k=>(vF k).2),rfl,by simp[hl'],rfl, ?_⟩
  ·rw[B1 hrs (fun k=>(vF k).1) w (fun k hk'=>by obtain⟨_,_,q,_⟩:=hk k hk';exact q),if_neg hne]
  ·refine Q4 (fun k hkk=>?_) (fun j k hj hkk=>hdis j k (by omega) (by omega));obtain⟨h,h',q1,q2,q3,q4⟩:=hk k (by omega);exact q3
  ·intro b hb;obtain⟨k,hk1,hk2⟩:=List.mem_flatMap.1 hb
   have hkl:k<rs.length:=by have:=List.mem_range.1 hk1;omega
   obtain⟨h,h',q1,q2,q3,q4⟩:=hk k hkl;exact⟨rs[k],by rw[hrs];exact List.getElem_mem hkl,q4 b hk2⟩
  ·intro k hkk;obtain⟨h,h',q1,q2,q3,q4⟩:=hk k (by omega);obtain⟨h1,h2,h4⟩:=hall k (by omega) hkk;refine⟨h2, ?_⟩
   have e:((List.range rs.length).map (fun k=>(vF k).1)).getD k undef=(vF k).1:=by
    have:k<rs.length:=by omega
    simp[List.getD_eq_getElem?_getD,List.getElem?_map,List.getElem?_range this]
   rw[e];exact q2
 cases hrs:fn.results.toList with
 | nil=>rw[hrs] at hend;rw[<- hrs];exact many [] hrs (by simp) hend
 | cons rv rest=>
  cases rest with
  | nil=>rw[hrs] at hend;rw[<- hrs];exact one rv hrs hend
  | cons rv2 rest=>rw[hrs] at hend;rw[<- hrs];exact many _ hrs (by simp) hend
def L3(ids:List Nat):List (Nat×Bx)->Prop
 | []=>True
 | (_,.var d)::r=>d.okB ids=true/\L3 ids r
 | (_,.mp l)::r=>(∀ kv∈l,kv.1.okB ids=true/\kv.2.okB ids=true)/\L3 ids r
theorem ZI{ids:List Nat}{l:List (Nat×Bx)}(h:L3 ids l){t:Nat}{b:Bx}(hd:lk l t=some b):(∃ d,b=.var d/\d.okB ids=true)∨∃ m,b=.mp m/\∀ kv∈m,kv.1.okB ids=true/\kv.2.okB ids=true:=by
 induction l with
 | nil=>simp[lk] at hd
 | cons x r ih=>
  obtain⟨k,e⟩:=x;rw[y0] at hd
  cases e with
  | mp e=>
   by_cases hk:k=t
   ·simp only[hk,if_true,Option.some.injEq] at hd;subst hd;exact .inr ⟨e,rfl,h.1⟩
   ·simp only[hk,if_false] at hd;exact ih h.2 hd
  | var e=>
   by_cases hk:k=t
   ·simp only[hk,if_true,Option.some.injEq] at hd;subst hd;exact .inl ⟨e,rfl,h.1⟩
   ·simp only[hk,if_false] at hd;exact ih h.2 hd
theorem BR.okB{ids:List Nat}{G L:Nat->Prop}{b:Nat}{x:Bx}{F:List Nat}(h:BR w ρ G L b x F)(hx:(∃ d,x=.var d/\d.okB ids=true)∨∃ m,x=.mp m/\∀ kv∈m,kv.1.okB ids=true/\kv.2.okB ids=true):BR w ρ G (fun id=>d8 ids id=true/\L id) b x F:=by
 rcases hx with ⟨d,rfl,hd⟩|⟨m,rfl,hm⟩
 ·obtain⟨cs,e,F',h1,h2,h3⟩:=h;exact⟨cs,e,F',h1,h2.okB hd,h3⟩
 ·obtain⟨h1,es,clock,h2,h3,h4⟩:=h;refine⟨h1,es,clock,h2,h3,fun k hk=>?_⟩;obtain⟨q1,q2,q3⟩:=h4 k hk;obtain⟨o1,o2⟩:=hm _ (List.getElem_mem hk);exact⟨q1.okB o1,q2.okB o2,q3⟩
theorem RV.okB{ids:List Nat}{G L:Nat->Prop}{r:D}{v:Value}{F:List Nat}(h:RV w ρ G L r v F)(hr:r.okB ids=true):RV w ρ G (fun id=>d8 ids id=true/\L id) r v F:=by
 cases r with
 | tup ds=>
  obtain⟨vs,Fs,h1,h2,h3,h4⟩:=h;exact⟨vs,Fs,h1,h2,h3,fun k hk=>⟨(h4 k hk).1,(h4 k hk).2.okB (QS ds (by simpa [D.okB] using hr) k hk)⟩⟩
 | _=>exact⟨h.1,h.2.okB hr⟩
def EndsB(rs:List ResultVar)(P:Program)(r:D)(ids:List Nat)(bx':List (Nat×Bx))(e:Exit)(σ:Sg):Prop:=
 (e=.normal∨e=.ret)/\EndR rs P r σ/\r.okB ids=true/\W7 ids σ.bx=bx'/\L3 ids bx'/\(∀ rv∈rs,(X1 σ rv).2=false->d8 ids (X1 σ rv).1=false)
theorem ZT{α:Type}(l r:List (Nat×α))(t:Nat):lk (l++r) t=(match lk l t with|some x=>some x|none=>lk r t):=by
 induction l with
 | nil=>simp[lk]
 | cons x l ih=>
  obtain⟨k,d⟩:=x;simp only[List.cons_append,y0,ih]
  split<;>simp_all
theorem EQ{bx:List (Nat×Bx)}{id:Nat}(h:(lk bx id).isSome=true):T2 (bx.map Prod.fst) id=true:=by
 induction bx with
 | nil=>cases h
 | cons x r ih=>
  obtain⟨k,b⟩:=x;rw[y0] at h;simp only[T2,List.map_cons,List.any_cons,Bool.or_eq_true];by_cases hk:k=id
  ·subst hk;left;simp
  ·simp only[hk,if_false] at h;exact .inr (ih h)
theorem FnB.of{gl:List (Nat×D)}{f:FuncId}{fn:Func}{c:Code}{ds:List D}{bx bx' nw:List (Nat×Bx)}{r:D}{n:Nat}{ids:List Nat}(hf:P.funcs[f]? = some fn)(hb:fn.body=some c)(hnn:fn.ntmps=n)
 (hd:ds.all (fun d=>!d.isRef)=true) (hn:ds.length<=n)
 (h:∀ C:Ctx,C.gl=gl->(∀ id b,C.pin id=some b->T2 (bx.map Prod.fst) id=true)->W P C c (EndsB fn.results.toList P r ids (nw++bx')) ⟨n,ini 0 ds,bx⟩):FnB P gl f ds bx r bx' nw:=by
 subst hnn;intro w G ρ0 Fb0 vs hgl hGlt hl hv hand;refine calls_of_wp hf hb ?_
 let C:Ctx:=⟨w,fun b=>b<w.heap.size/\¬ ∃ id,b∈Fb0 id,fun b=>G b∨w.heap.size<=b∨∃ id,b∈Fb0 id,gl,none,fun id=>if(lk bx id).isSome then some (ρ0 id) else none,[]⟩
 have hget:∀ t d,(⟨fn.ntmps,ini 0 ds,bx⟩:Sg).get t=some d->∃ h:t<ds.length,ds[t]=d:=by
  intro t d hd;simp only[Sg.get,DG,Nat.zero_le,if_true,Nat.sub_zero] at hd;obtain⟨h,e⟩:=List.getElem?_eq_some_iff.1 hd;exact⟨h,e⟩
 have hown:∀ b,own (fun _=>[]) Fb0 b->∃ id,b∈Fb0 id:=by
  rintro b (⟨_,h⟩|h)
  ·cases h
  ·exact h
 have hbx:∀ id,(⟨fn.ntmps,ini 0 ds,bx⟩:Sg).box id=lk bx id:=fun id=>rfl
 have hFlt:∀ id b,b∈Fb0 id->b<w.heap.size:=fun id b hb=>by
  cases hx:lk bx id with
  | none=>rw[hand.boxN id hx] at hb;cases hb
  | some x=>exact(hand.box id x hx).lt b hb
 have hG2:∀ b,G b->gd C (fun _=>[]) Fb0 b:=fun b hb=>⟨.inl hb,fun ho=>by obtain⟨id,hid⟩:=hown b ho;exact hand.out id b hid hb⟩
 have hpin0:∀ id b,C.pin id=some b->ρ0 id=b/\(lk bx id).isSome=true:=fun id b hp=>by
  by_cases hx:(lk bx id).isSome=true
  ·simp only[C,hx,if_true,Option.some.injEq] at hp;exact⟨hp,hx⟩
  ·simp[C,hx] at hp
 have st:StW C ⟨fn.ntmps,ini 0 ds,bx⟩ { tmps:=vs.toArray++Array.replicate (fn.ntmps-vs.toArray.size) undef,defers:=[] } w ρ0 (fun _=>[]) Fb0:=by
  refine⟨?_,rfl,(fun id b hp=>hpin0 id b hp), ?_,fun _ _=>rfl, ?_,hand.boxN,fun _=>List.nodup_nil,hand.nodB,(fun _ _ _ _ h=>by cases h),(fun _ _ _ h=>by cases h),hand.dBB,fun b hb hc=>hc.2 (hown b hb), ?_,rfl,⟨rfl,Nat.le_refl _⟩,rfl,Nat.le_refl _, ?_,fun b hb=>.inr (.inl hb),fun b hb=>.inr (.inr (hown b hb))⟩
  ·simp[hl];omega
  ·intro t d hd';obtain⟨ht,rfl⟩:=hget t d hd'
   have hr:ds[t].isRef=false:=by
    have:=List.all_eq_true.1 hd ds[t] (List.getElem_mem ht);simpa using this
   refine(z9 hr).2 ⟨vs.getD t undef, ?_,(hv t ht).mono (fun _ _ _=>rfl) (fun b hb _=>hG2 b hb) (fun id hid=>⟨hid,rfl⟩)⟩
   have htv:t<vs.length:=by omega
   rw[Array.getElem?_append_left (by simpa using htv)];simp[htv]
  ·intro id x hx;exact(hand.box id x hx).mono (fun _ _ _=>rfl) (fun b hb _=>hG2 b hb) (fun id hid=>⟨hid,rfl⟩)
  ·intro b hb;exact⟨rfl,hb.1⟩
  ·intro g d hg;obtain⟨h1,cs,e,fz,h2,h3⟩:=hgl g d hg;exact⟨⟨(Array.getElem?_eq_some_iff.1 h2).1,fun⟨id,hid⟩=>hand.out id g hid h1⟩,.inl h1,cs,e,fz,h2,h3⟩
 refine Go.Code.wp_mono ?_ (wpIn_wide.1 (h C rfl (fun id b hp=>EQ (hpin0 id b hp).2) _ w ⟨_,_,_,st⟩));rintro e a' w' ⟨σ',⟨ρ,Fe,Fb,st'⟩,he,hend,hokr,hkeep,hokb,hsrc⟩;have hlt':=st'.lt
 have hl':∀ u,lk (nw++bx') u=if d8 ids u then σ'.box u else none:=fun u=>by rw[<- hkeep];exact QV ids σ'.bx u
 obtain⟨v,h1,F,h2,h3,h4⟩:=EndR.out st' hend
 let Fb':Nat->List Nat:=fun id=>if d8 ids id then Fb id else[]
 have hsub:∀ id,∀ b∈Fb' id,d8 ids id=true/\b∈Fb id:=fun id b hm=>by
  by_cases hi:d8 ids id=true
  ·exact⟨hi,by simpa [Fb',hi] using hm⟩
  ·simp[Fb',hi] at hm
 have hFo:∀ b∈F,own Fe Fb b:=fun b hb=>by
  obtain⟨rv,_,hx⟩:=h3 b hb;split at hx
  ·exact .inl ⟨_,hx⟩
  ·exact .inr ⟨_,hx⟩
 have hnew:∀ b,own Fe Fb b->w.heap.size<=b∨∃ id,b∈Fb0 id:=fun b hb=>by
  by_cases hbl:w.heap.size<=b
  ·exact .inl hbl
  ·right;by_cases hx:∃ id,b∈Fb0 id
   ·exact hx
   ·exact absurd ⟨by omega,hx⟩ (st'.new b hb)
 have hFd:∀ id,∀ b∈F,b∉Fb' id:=fun id b hb hb'=>by
  obtain⟨hi,hb'⟩:=hsub id b hb';obtain⟨rv,hrv,hx⟩:=h3 b hb;split at hx
  ·exact st'.dEB _ id b hx hb'
  ·rename_i hs;have:=hsrc rv hrv (by simpa using hs);by_cases hii:(X1 σ' rv).1=id
   ·rw[hii] at this;rw[this] at hi;cases hi
   ·exact st'.dBB _ _ hii b hx hb'
 have hgd:∀ b,gd C Fe Fb b->(G b∨w.heap.size<=b∨∃ id,b∈Fb0 id)/\b∉F/\¬ ∃ id,b∈Fb' id:=fun b hb=>
  ⟨hb.1,fun hm=>hb.2 (hFo b hm),fun⟨id,hid⟩=>hb.2 (.inr ⟨id,(hsub id b hid).2⟩)⟩
 have hL:∀ id,(d8 ids id=true/\(σ'.box id).isSome=true)->(lk (nw++bx') id).isSome=true:=fun id ⟨q1,q2⟩=>by rw[hl',if_pos q1];exact q2
 have hρ:∀ id,(lk bx id).isSome=true->ρ id=ρ0 id:=fun id hx=>(st'.pin id (ρ0 id) (by simp[C,hx])).1
 have hext:ExtO (fun b=>∃ id,b∈Fb0 id) w w':=⟨st'.os,⟨st'.tape.tp,st'.tape.dr⟩,st'.output,st'.grown,fun b hb hn=>(st'.kept b ⟨hb,hn⟩).1⟩
 have hhand:Hand (nw++bx') w' ρ (fun b=>(G b∨w.heap.size<=b∨∃ id,b∈Fb0 id)/\b∉F/\¬ ∃ id,b∈Fb' id) Fb':=by
  refine⟨fun id x hx=>?_,fun id hx=>?_,fun id=>?_,fun id id' hne b hb hb'=>st'.dBB id id' hne b (hsub id b hb).2 (hsub id' b hb').2,fun id b hb hc=>hc.2.2 ⟨id,hb⟩⟩
  ·have hx':=hl' id;rw[hx] at hx';by_cases hm:d8 ids id=true
   ·rw[if_pos hm] at hx'
    have hF':Fb' id=Fb id:=by simp[Fb',hm]
    rw[hF'];exact((st'.bx id x hx'.symm).okB (ZI hokb hx)).mono (fun _ _ _=>rfl) (fun b hb _=>hgd b hb) (fun i hi=>⟨hL i hi,rfl⟩)
   ·rw[if_neg hm] at hx';cases hx'
  ·by_cases hm:d8 ids id=true
   ·have hx':=hl' id;rw[hx,if_pos hm] at hx';simp only[Fb',hm,if_true];exact st'.bxN id hx'.symm
   ·simp[Fb',hm]
  ·show(if d8 ids id then Fb id else[]).Nodup;split
   ·exact st'.nodB id
   ·exact List.nodup_nil
 have hall:∃ v' F ρ' Fb',(Ending.returned v)=.returned v'/\ExtO (fun b=>∃ id,b∈Fb0 id) w w'/\(∀ id,(lk bx id).isSome=true->ρ' id=ρ0 id)/\F.Nodup /\
  (∀ b,(b∈F∨∃ id,b∈Fb' id)->w.heap.size<=b∨∃ id,b∈Fb0 id)/\(∀ id,∀ b∈F,b∉Fb' id)/\(∀ b∈F,b<w'.heap.size) /\
  Hand (nw++bx') w' ρ' (fun b=>(G b∨w.heap.size<=b∨∃ id,b∈Fb0 id)/\b∉F/\¬ ∃ id,b∈Fb' id) Fb' /\
  RV w' ρ' (fun b=>(G b∨w.heap.size<=b∨∃ id,b∈Fb0 id)/\b∉F/\¬ ∃ id,b∈Fb' id) (fun i=>(lk (nw++bx') i).isSome=true) r v' F:=
  ⟨v,F,ρ,Fb',rfl,hext,hρ,h2,fun b hb=>hnew b (hb.elim (hFo b) (fun⟨id,hid⟩=>.inr ⟨id,(hsub id b hid).2⟩)),hFd,fun b hb=>hlt' b (hFo b hb),hhand,
   (h4.okB hokr).mono (fun _ _ _=>rfl) (fun b hb _=>hgd b hb) (fun i hi=>⟨hL i hi,rfl⟩)⟩
 rcases he with rfl|rfl
 ·exact⟨st'.defs,v,h1,hall⟩
 ·exact⟨st'.defs,v,h1,hall⟩
end Go.Sx

namespace Go.Sx
variable{P:Program}{C:Ctx}{σ σ' σ1 σ2:Sg}{a:Act}{w w':World}{ρ ρ2:Nat->Nat}{Fe Fe' Fb Fb2:Nat->List Nat}
def mlk(ml:List (Nat×Nat))(i:Nat):Nat:=match lk ml i with
 | some k=>k
 | none=>i
def Bx.ren(m:Nat->Nat):Bx->Bx
 | .var d=>.var (d.ren m)
 | .mp l=>.mp (l.map fun kv=>(kv.1.ren m,kv.2.ren m))
def v6(m:Nat->Nat):List (Nat×Bx)->List (Nat×Bx)
 | []=>[]
 | (k,x)::r=>(m k,x.ren m)::v6 m r
def KB(l:List (Nat×Bx)):List (Nat×Bx)->Prop
 | []=>True
 | (k,y)::r=>lk l k=some y/\KB l r
def UI(l:List (Nat×Bx)):List (Nat×Bx)->Bool
 | []=>true
 | (k,_)::r=>(lk l k).isNone&&UI l r
def ED(m:Nat->Nat)(ks:List Nat):Bool:=ks.all fun i=>ks.all fun j=>!(Nat.beq (m i) (m j))||Nat.beq i j
def H1(c:List (Nat×Bx)):List (Nat×Bx)->List (Nat×Bx)
 | []=>[]
 | (k,x)::r=>(k,match lk c k with|some y=>y|none=>x)::H1 c r
def A9:List Nat->List (Nat×D)->List (Nat×D)
 | [],l=>l
 | id::r,l=>A9 r (scrubs id l)
theorem JL(id:Nat)(d:D):(M9 id d=d/\∀ off path,d≠.alb id off path)∨(M9 id d=.dead/\∃ off path,d=.alb id off path):=by
 cases d with
 | alb i off path=>
  by_cases h:i=id
  ·subst h;right;simp[M9]
  ·left;simp[M9,nbeq h,h]
 | _=>left;exact⟨rfl,fun _ _ h=>by cases h⟩
theorem IK(ids:List Nat):∀ (l:List (Nat×D)) (u:Nat) (d:D),lk (A9 ids l) u=some d ->
 ∃ d0,lk l u=some d0/\(d=d0/\(∀ id off path,d0=.alb id off path->id∉ids)∨d=.dead/\∃ id off path,d0=.alb id off path):=by
 induction ids with
 | nil=>intro l u d h;exact⟨d,h,.inl ⟨rfl,fun _ _ _ _=>by simp⟩⟩
 | cons id r ih=>
  intro l u d h;obtain⟨d1,h1,h2⟩:=ih (scrubs id l) u d h;rw[ZS,Option.map_eq_some_iff] at h1;obtain⟨d0,h0,rfl⟩:=h1;refine⟨d0,h0, ?_⟩
  rcases JL id d0 with ⟨he,hn⟩|⟨he,off,path,rfl⟩
  ·rw[he] at h2
   rcases h2 with ⟨rfl,h2⟩|h2
   ·refine .inl ⟨rfl,fun i off path hd=>?_⟩;have:=h2 i off path hd;intro hm
    rcases List.mem_cons.1 hm with rfl|hm
    ·exact hn off path hd
    ·exact this hm
   ·exact .inr h2
  ·right;refine⟨?_,id,off,path,rfl⟩;rw[he] at h2
   rcases h2 with ⟨rfl,_⟩|⟨_,_,_,_,h2⟩
   ·rfl
   ·cases h2
theorem AQ(ids:List Nat):∀ (l:List (Nat×D)) (u:Nat),lk (A9 ids l) u=none->lk l u=none:=by
 induction ids with
 | nil=>intro l u h;exact h
 | cons id r ih=>
  intro l u h;have:=ih _ _ h;rw[ZS,Option.map_eq_none_iff] at this;exact this
theorem DY(c l:List (Nat×Bx))(u:Nat):lk (H1 c l) u=(lk l u).map fun x=>(match lk c u with|some y=>y|none=>x):=by
 induction l with
 | nil=>rfl
 | cons x r ih=>
  obtain⟨k,d⟩:=x;simp only[H1,y0,ih];by_cases hk:k=u
  ·subst hk;simp
  ·simp[hk]
theorem LQ{l:List (Nat×Bx)}{k:Nat}{x:Bx}(h:lk l k=some x):(k,x)∈l:=by
 induction l with
 | nil=>cases h
 | cons y r ih=>
  obtain⟨k',d⟩:=y;rw[y0] at h;by_cases hk:k'=k
  ·subst hk;simp at h;subst h;simp
  ·simp only[hk,if_false] at h;exact List.mem_cons_of_mem _ (ih h)
theorem X7{l:List (Nat×Bx)}{k:Nat}:(lk l k).isSome=true↔k∈l.map Prod.fst:=by
 induction l with
 | nil=>simp[lk]
 | cons y r ih=>
  obtain⟨k',d⟩:=y;rw[y0];by_cases hk:k'=k
  ·subst hk;simp
  ·simp only[hk,if_false,ih,List.map_cons,List.mem_cons];exact⟨.inr,fun h=>h.resolve_left (fun e=>hk e.symm)⟩
theorem EK{m:Nat->Nat}{l:List (Nat×Bx)}{i:Nat}(h:∀ j∈l.map Prod.fst,m j=m i->j=i):lk (v6 m l) (m i)=(lk l i).map (Bx.ren m):=by
 induction l with
 | nil=>rfl
 | cons y r ih=>
  obtain⟨k',d⟩:=y;simp only[v6,y0];by_cases hk:k'=i
  ·subst hk;simp
  ·have hm:m k'≠m i:=fun e=>hk (h k' (by simp) e);simp only[hm,hk,if_false];exact ih (fun j hj=>h j (by simp at hj ⊢;exact .inr hj))
theorem N3(m:Nat->Nat)(l:List (Nat×Bx)):(v6 m l).map Prod.fst=(l.map Prod.fst).map m:=by
 induction l with
 | nil=>rfl
 | cons y r ih=>obtain⟨k',d⟩:=y;simp[v6,ih]
theorem UN{l c:List (Nat×Bx)}(h:KB l c):∀ k y,(k,y)∈c->lk l k=some y:=by
 induction c with
 | nil=>intro k y hm;cases hm
 | cons x r ih=>
  obtain⟨k',d⟩:=x;intro k y hm
  rcases List.mem_cons.1 hm with he|hm
  ·cases he;exact h.1
  ·exact ih h.2 k y hm
theorem WP{m:Nat->Nat}{l:List (Nat×Bx)}{k:Nat}{x:Bx}(h:(k,x)∈l):(m k,x.ren m)∈v6 m l:=by
 induction l with
 | nil=>cases h
 | cons y r ih=>
  obtain⟨k',d⟩:=y;simp only[v6]
  rcases List.mem_cons.1 h with he|hm
  ·cases he;simp
  ·exact List.mem_cons_of_mem _ (ih hm)
theorem LN{l c:List (Nat×Bx)}(h:UI l c=true):∀ k,k∈c.map Prod.fst->lk l k=none:=by
 induction c with
 | nil=>intro k hm;cases hm
 | cons x r ih=>
  obtain⟨k',d⟩:=x;simp only[UI,Bool.and_eq_true,Option.isNone_iff_eq_none] at h;intro k hm;simp only[List.map_cons,List.mem_cons] at hm
  rcases hm with rfl|hm
  ·exact h.1
  ·exact ih h.2 k hm
theorem z72{m:Nat->Nat}{ks:List Nat}(h:ED m ks=true):∀ i∈ks,∀ j∈ks,m i=m j->i=j:=by
 intro i hi j hj he;have h1:=List.all_eq_true.1 (List.all_eq_true.1 h i hi) j hj;simp only[Bool.or_eq_true,Bool.not_eq_true'] at h1
 rcases h1 with h1|h1
 ·rw[he] at h1;simp at h1
 ·exact Nat.eq_of_beq_eq_true h1
theorem BR.ren{G L L':Nat->Prop}{m:Nat->Nat}{b:Nat}{x:Bx}{F:List Nat}(h:BR w ρ G L b x F)(hL:∀ i,L i->L' (m i)/\ρ2 (m i)=ρ i):BR w ρ2 G L' b (x.ren m) F:=by
 cases x with
 | var d=>obtain⟨cs,e,F',h1,h2,h3⟩:=h;exact⟨cs,e,F',h1,h2.ren hL,h3⟩
 | mp l=>
  obtain⟨h1,es,clock,h2,h3,h4⟩:=h;refine⟨h1,es,clock,h2,by simpa using h3,fun k hk=>?_⟩
  have hk':k<l.length:=by simpa using hk
  obtain⟨q1,q2,q3⟩:=h4 k hk';simp only[List.getElem_map];exact⟨q1.ren hL,q2.ren hL,q3⟩
theorem BR.unren{G L L':Nat->Prop}{m:Nat->Nat}{b:Nat}{x:Bx}{F:List Nat}(h:BR w ρ G L b (x.ren m) F)(hL:∀ i,L (m i)->L' i/\ρ2 i=ρ (m i)):BR w ρ2 G L' b x F:=by
 cases x with
 | var d=>obtain⟨cs,e,F',h1,h2,h3⟩:=h;exact⟨cs,e,F',h1,h2.unren rfl hL,h3⟩
 | mp l=>
  obtain⟨h1,es,clock,h2,h3,h4⟩:=h;refine⟨h1,es,clock,h2,by simpa using h3,fun k hk=>?_⟩;obtain⟨q1,q2,q3⟩:=h4 k (by simpa using hk);simp only[List.getElem_map] at q1 q2;exact⟨q1.unren hL,q2.unren hL,q3⟩
inductive EvB(gl:List (Nat×D))(σ:Sg)(m:Nat->Nat)(ids:List Nat):List Operand->List D->Prop
 | nil:EvB gl σ m ids [] []
 | cons {x:Operand} {d d':D} {xs:List Operand} {ds:List D} (h:ev gl σ x=some d') (hp:d'.pur=true) (he:d.ren m=d') (ho:d.okB ids=true) (t:EvB gl σ m ids xs ds):EvB gl σ m ids (x::xs) (d::ds)
 | nils {x:Operand} {z:Nat} {xs:List Operand} {ds:List D} (h:ev gl σ x=some .nils) (t:EvB gl σ m ids xs ds):EvB gl σ m ids (x::xs) (.sl none z []::ds)
theorem EvB.len{gl:List (Nat×D)}{m:Nat->Nat}{ids:List Nat}{xs:List Operand}{ds:List D}(h:EvB gl σ m ids xs ds):xs.length=ds.length:=by
 induction h with
 | nil=>rfl
 | cons _ _ _ _ _ ih=>simp[ih]
 | nils _ _ ih=>simp[ih]
theorem EvB.ok(st:StW C σ a w ρ Fe Fb){m:Nat->Nat}{ids:List Nat}{xs:List Operand}{ds:List D}(h:EvB C.gl σ m ids xs ds) :
 ∀ k (hk:k<ds.length),VR w (fun i=>ρ (m i)) (gd C Fe Fb) (fun i=>d8 ids i=true/\(σ.box (m i)).isSome=true) ds[k] ((xs.map a.eval).getD k undef) []:=by
 induction h with
 | nil=>intro k hk;simp at hk
 | cons h hp he ho t ih=>
  intro k hk
  cases k with
  | zero=>
   obtain⟨F,hv,_⟩:=m5 st h (m8 hp);have hF:=hv.pur hp;rw[hF] at hv;subst he;have h1:VR w (fun i=>ρ (m i)) (gd C Fe Fb) (fun i=>(σ.box (m i)).isSome=true) _ (a.eval _) []:=hv.unren (fun i hi=>⟨hi,rfl⟩);simpa using h1.okB ho
  | succ k=>simpa using ih k (by simpa using hk)
 | nils h t ih=>
  intro k hk
  cases k with
  | zero=>
   obtain⟨F,hv,_⟩:=m5 st h rfl;simp only[VR,D.isAgg,Bool.false_eq_true,if_false] at hv;have:=hv.nil_val;simp only[List.map_cons,List.getD_cons_zero,List.getElem_cons_zero,VR,D.isAgg,Bool.false_eq_true,if_false];rw[this];exact .slN none _
  | succ k=>simpa using ih k (by simpa using hk)
open Classical in
theorem StW.callB(st:StW C σ a w ρ Fe Fb){m:Nat->Nat}{bx bx' nw:List (Nat×Bx)}(hlk:KB σ.bx (v6 m bx))(hob:L3 (bx.map Prod.fst) bx)
 (hk:bx'.map Prod.fst=bx.map Prod.fst) (hfr:UI σ.bx (v6 m nw)=true) (hinj:ED m ((nw++bx').map Prod.fst)=true) :
 Hand bx w (fun i=>ρ (m i)) (gd C Fe Fb) (fun i=>if(lk bx i).isSome then Fb (m i) else[]) /\
 ∀ (w':World) (F:List Nat) (ρ':Nat->Nat) (Fb':Nat->List Nat),ExtO (fun b=>∃ id,b∈(if(lk bx id).isSome then Fb (m id) else[])) w w'->(∀ id,(lk bx id).isSome=true->ρ' id=ρ (m id))->F.Nodup ->
  (∀ b,(b∈F∨∃ id,b∈Fb' id)->w.heap.size<=b∨∃ id,b∈(if(lk bx id).isSome then Fb (m id) else[]))->(∀ id,∀ b∈F,b∉Fb' id)->(∀ b∈F,b<w'.heap.size) ->
  Hand (nw++bx') w' ρ' (fun b=>(gd C Fe Fb b∨w.heap.size<=b∨∃ id,b∈(if(lk bx id).isSome then Fb (m id) else[]))/\b∉F/\¬ ∃ id,b∈Fb' id) Fb' ->
  ∃ ρ2 Fb2,StW (C.less F) ⟨σ.n,A9 ((v6 m bx).map Prod.fst) σ.env,v6 m nw++H1 (v6 m bx') σ.bx⟩ a w' ρ2 Fe Fb2 /\
   (∀ r v,RV w' ρ' (fun b=>(gd C Fe Fb b∨w.heap.size<=b∨∃ id,b∈(if(lk bx id).isSome then Fb (m id) else[]))/\b∉F/\¬ ∃ id,b∈Fb' id) (fun i=>(lk (nw++bx') i).isSome=true) r v F ->
    RV w' ρ2 (fun b=>gd C Fe Fb2 b/\b∉F) (fun i=>(lk (v6 m nw++H1 (v6 m bx') σ.bx) i).isSome=true) (r.ren m) v F) /\
   (∀ u,∀ b∈F,b∉Fe u)/\(∀ id,∀ b∈F,b∉Fb2 id)/\(∀ b∈F,¬ C.keep b)/\(∀ b∈F,C.ok b):=by
 have hlt:=st.lt;have hij:=z72 hinj
 have hkey2:∀ i,i∈(nw++bx').map Prod.fst↔i∈nw.map Prod.fst∨i∈bx.map Prod.fst:=fun i=>by rw[List.map_append,List.mem_append,hk]
 have hb1:∀ i x,lk bx i=some x->σ.box (m i)=some (x.ren m):=fun i x hx=>UN hlk _ _ (WP (LQ hx))
 have hbS:∀ i,i∈bx.map Prod.fst->(σ.box (m i)).isSome=true:=fun i hi=>by
  obtain⟨x,hx⟩:=Option.isSome_iff_exists.1 (X7.2 hi);rw[hb1 i x hx];rfl
 have hnS:∀ i,i∈nw.map Prod.fst->σ.box (m i)=none:=fun i hi=>LN hfr _ (by rw[N3];exact List.mem_map_of_mem hi)
 have hFc:∀ i b,b∈(if(lk bx i).isSome then Fb (m i) else[])->i∈bx.map Prod.fst/\b∈Fb (m i):=fun i b hb=>by
  by_cases h:(lk bx i).isSome=true
  ·rw[if_pos h] at hb;exact⟨X7.1 h,hb⟩
  ·rw[if_neg h] at hb;cases hb
 have hmem:∀ i,d8 (bx.map Prod.fst) i=true->(lk bx i).isSome=true:=fun i hi=>by
  rw[X7];simp only[d8,List.any_eq_true] at hi;obtain⟨j,hj,he⟩:=hi;rw[Nat.eq_of_beq_eq_true he];exact hj
 refine⟨⟨fun id x hx=>?_,fun id hx=>by simp[hx],fun id=>?_,fun id id' hne b hb hb'=>?_,fun id b hb hg=>hg.2 (.inr ⟨m id,(hFc id b hb).2⟩)⟩, ?_⟩
 ·have h1:=st.bx _ _ (hb1 id x hx);have h2:BR w (fun i=>ρ (m i)) (gd C Fe Fb) (fun i=>(σ.box (m i)).isSome=true) (ρ (m id)) x (Fb (m id)):=h1.unren (fun i hi=>⟨hi,rfl⟩);have h3:=(h2.okB (ZI hob hx)).mono (w':=w) (G':=gd C Fe Fb) (L':=fun i=>(lk bx i).isSome=true) (ρ':=fun i=>ρ (m i)) (fun _ _ _=>rfl) (fun b hb _=>hb) (fun i hi=>⟨hmem i hi.1,rfl⟩);rw[if_pos (by rw[hx];rfl)];exact h3
 ·show(if(lk bx id).isSome then Fb (m id) else[]).Nodup;split
  ·exact st.nodB _
  ·exact List.nodup_nil
 ·obtain⟨h1,h2⟩:=hFc id b hb;obtain⟨h3,h4⟩:=hFc id' b hb';exact st.dBB (m id) (m id') (fun e=>hne (hij id ((hkey2 id).2 (.inr h1)) id' ((hkey2 id').2 (.inr h3)) e)) b h2 h4
 intro w' F ρ' Fb' hw hρ hnd hsrc hFB hFl hand
 let inv:Nat->Option Nat:=fun k=>if h:∃ i,i∈(nw++bx').map Prod.fst/\m i=k then some (Classical.choose h) else none
 have hinv:∀ i,i∈(nw++bx').map Prod.fst->inv (m i)=some i:=fun i hi=>by
  have h:∃ j,j∈(nw++bx').map Prod.fst/\m j=m i:=⟨i,hi,rfl⟩
  simp only[inv,dif_pos h];obtain⟨q1,q2⟩:=Classical.choose_spec h;rw[hij _ q1 i hi q2]
 have hinvS:∀ k i,inv k=some i->i∈(nw++bx').map Prod.fst/\m i=k:=fun k i hi=>by
  by_cases h:∃ j,j∈(nw++bx').map Prod.fst/\m j=k
  ·simp only[inv,dif_pos h,Option.some.injEq] at hi;rw[<- hi];exact Classical.choose_spec h
  ·simp only[inv,dif_neg h] at hi;cases hi
 let lent:Nat->Prop:=fun k=>∃ i,i∈bx.map Prod.fst/\m i=k
 let new:Nat->Prop:=fun k=>∃ i,i∈nw.map Prod.fst/\m i=k
 have htouch:∀ k,(lent k∨new k)↔∃ i,inv k=some i:=fun k=>by
  constructor
  ·rintro (⟨i,hi,rfl⟩|⟨i,hi,rfl⟩)
   ·exact⟨i,hinv i ((hkey2 i).2 (.inr hi))⟩
   ·exact⟨i,hinv i ((hkey2 i).2 (.inl hi))⟩
  ·rintro ⟨i,hi⟩;obtain⟨h1,h2⟩:=hinvS k i hi
   rcases(hkey2 i).1 h1 with h|h
   ·exact .inr ⟨i,h,h2⟩
   ·exact .inl ⟨i,h,h2⟩
 let ρ2:Nat->Nat:=fun k=>match inv k with|some i=>ρ' i|none=>ρ k
 let Fb2:Nat->List Nat:=fun k=>match inv k with|some i=>Fb' i|none=>Fb k
 have hlo:∀ b,(∃ id,b∈(if(lk bx id).isSome then Fb (m id) else[]))↔∃ k,lent k/\b∈Fb k:=fun b=>by
  constructor
  ·rintro ⟨i,hi⟩;obtain⟨h1,h2⟩:=hFc i b hi;exact⟨m i,⟨i,h1,rfl⟩,h2⟩
  ·rintro ⟨k,⟨i,hi,rfl⟩,hb⟩;exact⟨i,by rw[if_pos (X7.2 hi)];exact hb⟩
 have hlentO:∀ b,(∃ k,lent k/\b∈Fb k)->own Fe Fb b:=fun b ⟨k,_,hb⟩=>.inr ⟨k,hb⟩;have hsrc':∀ b,(b∈F∨∃ id,b∈Fb' id)->w.heap.size<=b∨∃ k,lent k/\b∈Fb k:=fun b hb=>(hsrc b hb).imp (fun h=>h) (hlo b).1
 have hFb2:∀ k i,inv k=some i->Fb2 k=Fb' i:=fun k i h=>by simp[Fb2,h]
 have hρ2:∀ k i,inv k=some i->ρ2 k=ρ' i:=fun k i h=>by simp[ρ2,h]
 have hnone:∀ k,¬ (lent k∨new k)->inv k=none:=fun k h=>by
  cases hi:inv k with
  | none=>rfl
  | some i=>exact absurd ((htouch k).2 ⟨i,hi⟩) h
 have hbox2:∀ k,(⟨σ.n,A9 ((v6 m bx).map Prod.fst) σ.env,v6 m nw++H1 (v6 m bx') σ.bx⟩:Sg).box k=lk (v6 m nw++H1 (v6 m bx') σ.bx) k:=fun k=>rfl
 have hlk2:∀ i,i∈(nw++bx').map Prod.fst->lk (v6 m nw++H1 (v6 m bx') σ.bx) (m i)=(lk (nw++bx') i).map (Bx.ren m):=fun i hi=>by
  rw[ZT,ZT,EK (fun j hj he=>hij j ((hkey2 j).2 (.inl hj)) i hi he)]
  cases hn:lk nw i with
  | some x=>rfl
  | none=>
   simp only[Option.map_none];rw[DY,EK (fun j hj he=>hij j ((hkey2 j).2 (.inr (hk▸hj))) i hi he)];have hib:i∈bx.map Prod.fst:=((hkey2 i).1 hi).resolve_left (fun h=>by have:=X7.2 h;rw[hn] at this;cases this);obtain⟨x,hx⟩:=Option.isSome_iff_exists.1 (hbS i hib);obtain⟨y,hy⟩:=Option.isSome_iff_exists.1 (X7.2 (hk▸hib:i∈bx'.map Prod.fst));rw[show lk σ.bx (m i)=some x from hx,hy];rfl
 have hS2:∀ i,i∈(nw++bx').map Prod.fst->(lk (v6 m nw++H1 (v6 m bx') σ.bx) (m i)).isSome=true:=fun i hi=>by
  rw[hlk2 i hi,Option.isSome_map];exact X7.2 hi
 have hgd2:∀ b,((gd C Fe Fb b∨w.heap.size<=b∨∃ id,b∈(if(lk bx id).isSome then Fb (m id) else[]))/\b∉F/\¬ ∃ id,b∈Fb' id)->gd C Fe Fb2 b/\b∉F:=by
  rintro b ⟨h1,h2,h3⟩;rw[hlo] at h1;refine⟨⟨?_, ?_⟩,h2⟩
  ·rcases h1 with h|h|h
   ·exact h.1
   ·exact st.okN b h
   ·exact st.okO b (hlentO b h)
  ·rintro (⟨u,hu⟩|⟨k,hb⟩)
   ·rcases h1 with h|h|⟨k,_,h⟩
    ·exact h.2 (.inl ⟨u,hu⟩)
    ·have:=hlt b (.inl ⟨u,hu⟩);omega
    ·exact st.dEB u k b hu h
   ·cases hi:inv k with
    | some i=>rw[hFb2 k i hi] at hb;exact h3 ⟨i,hb⟩
    | none=>
     have hb':b∈Fb k:=by simpa [Fb2,hi] using hb
     rcases h1 with h|h|⟨k',hk',h⟩
     ·exact h.2 (.inr ⟨k,hb'⟩)
     ·have:=hlt b (.inr ⟨k,hb'⟩);omega
     ·refine st.dBB k' k (fun e=>?_) b h hb';subst e;obtain⟨i,hi'⟩:=(htouch k').1 (.inl hk');rw[hi] at hi';cases hi'
 have hLL:∀ i,(lk (nw++bx') i).isSome=true->(lk (v6 m nw++H1 (v6 m bx') σ.bx) (m i)).isSome=true/\ρ2 (m i)=ρ' i:=fun i hi=>by
  have hi':=X7.1 hi;exact⟨hS2 i hi',hρ2 _ _ (hinv i hi')⟩
 refine⟨ρ2,Fb2, ?_, ?_, ?_, ?_, ?_, ?_⟩
 ·refine st.lend (σ2:=⟨σ.n,A9 ((v6 m bx).map Prod.fst) σ.env,v6 m nw++H1 (v6 m bx') σ.bx⟩) (ρ2:=ρ2) (Fb2:=Fb2) (lent:=lent) (new:=new) ⟨hw.os,hw.tape,hw.output,hw.size,fun b hb hn=>hw.block b hb (fun h=>hn ((hlo b).1 h))⟩ rfl (fun k hkS=>?_) (fun k ⟨i,hi,he⟩=>he▸hbS i hi)
   (fun u d hd=>?_) (fun u hu=>AQ _ _ _ hu) (fun k hn=>?_) (fun k ht=>?_) (fun k x hx ht=>?_) (fun k ht=>?_) (fun k k' ht ht' hne b hb hb'=>?_) (fun k b ht hb=>?_) (fun b hb=>hsrc' b (.inl hb)) hFl
  ·cases hi:inv k with
   | none=>simp[ρ2,hi]
   | some i=>
    obtain⟨h1,rfl⟩:=hinvS k i hi
    rcases(hkey2 i).1 h1 with h|h
    ·rw[hnS i h] at hkS;cases hkS
    ·rw[hρ2 _ _ hi];exact hρ i (X7.2 h)
  ·obtain⟨d0,h0,h1⟩:=IK _ _ _ _ hd;refine⟨d0,h0,h1.imp (fun⟨q1,q2⟩=>⟨q1,fun id off path he hl=>q2 id off path he ?_⟩) (fun h=>h)⟩;obtain⟨i,hi,rfl⟩:=hl;rw[N3];exact List.mem_map_of_mem hi
  ·refine⟨?_,by simp[Fb2,hnone k hn]⟩;show lk (v6 m nw++H1 (v6 m bx') σ.bx) k=lk σ.bx k
   have h1:lk (v6 m nw) k=none:=by
    cases hx:lk (v6 m nw) k with
    | none=>rfl
    | some x=>
     have:=X7.1 (show(lk (v6 m nw) k).isSome=true by rw[hx];rfl);rw[N3] at this;obtain⟨i,hi,he⟩:=List.mem_map.1 this;exact absurd (.inr ⟨i,hi,he⟩) hn
   have h2:lk (v6 m bx') k=none:=by
    cases hx:lk (v6 m bx') k with
    | none=>rfl
    | some x=>
     have:=X7.1 (show(lk (v6 m bx') k).isSome=true by rw[hx];rfl);rw[N3,hk] at this;obtain⟨i,hi,he⟩:=List.mem_map.1 this;exact absurd (.inl ⟨i,hi,he⟩) hn
   rw[ZT,h1,DY,h2];simp
  ·obtain⟨i,hi⟩:=(htouch k).1 ht;obtain⟨h1,rfl⟩:=hinvS k i hi;exact hS2 i h1
  ·obtain⟨i,hi⟩:=(htouch k).1 ht;obtain⟨h1,rfl⟩:=hinvS k i hi;rw[hbox2,hlk2 i h1,Option.map_eq_some_iff] at hx;obtain⟨y,hy,rfl⟩:=hx;rw[hρ2 _ _ hi,hFb2 _ _ hi];have h4:=(hand.box i y hy).ren (ρ2:=ρ2) (L':=fun k=>(lk (v6 m nw++H1 (v6 m bx') σ.bx) k).isSome=true) hLL;exact h4.mono (fun _ _ _=>rfl) (fun b hb _=>⟨⟨(hgd2 b hb).1.1,(hgd2 b hb).2⟩,(hgd2 b hb).1.2⟩) (fun j hj=>⟨hj,rfl⟩)
  ·obtain⟨i,hi⟩:=(htouch k).1 ht;rw[hFb2 _ _ hi];exact hand.nodB i
  ·obtain⟨i,hi⟩:=(htouch k).1 ht;obtain⟨i',hi'⟩:=(htouch k').1 ht';rw[hFb2 _ _ hi] at hb;rw[hFb2 _ _ hi'] at hb';refine hand.dBB i i' (fun e=>?_) b hb hb';subst e;exact hne ((hinvS k i hi).2.symm.trans (hinvS k' i hi').2)
  ·obtain⟨i,hi⟩:=(htouch k).1 ht;rw[hFb2 _ _ hi] at hb;exact⟨hsrc' b (.inr ⟨i,hb⟩),fun hm=>hFB i b hm hb⟩
 ·intro r v hr;exact(hr.ren (ρ2:=ρ2) (L':=fun k=>(lk (v6 m nw++H1 (v6 m bx') σ.bx) k).isSome=true) hLL).mono (fun _ _ _=>rfl) (fun b hb _=>hgd2 b hb) (fun j hj=>⟨hj,rfl⟩)
 ·intro u b hb hbu
  rcases hsrc' b (.inl hb) with h|⟨k,_,h⟩
  ·have:=hlt b (.inl ⟨u,hbu⟩);omega
  ·exact st.dEB u k b hbu h
 ·intro k b hb hbk
  cases hi:inv k with
  | some i=>rw[hFb2 _ _ hi] at hbk;exact hFB i b hb hbk
  | none=>
   have hbk':b∈Fb k:=by simpa [Fb2,hi] using hbk
   rcases hsrc' b (.inl hb) with h|⟨k',hk',h⟩
   ·have:=hlt b (.inr ⟨k,hbk'⟩);omega
   ·refine st.dBB k' k (fun e=>?_) b h hbk';subst e;obtain⟨i,hi'⟩:=(htouch k').1 (.inl hk');rw[hi] at hi';cases hi'
 ·intro b hb hkb
  rcases hsrc' b (.inl hb) with h|h
  ·have:=(st.kept b hkb).2;have:=st.grown;omega
  ·exact st.new b (hlentO b h) hkb
 ·intro b hb
  rcases hsrc' b (.inl hb) with h|h
  ·exact st.okN b h
  ·exact st.okO b (hlentO b h)
theorem R.callB{f:FuncId}[CaT P f]{t:Nat}{args:List Operand}{tys:Array TypeId}{rt:TypeId}{pos:String}{aft:Array Edge}{g:Option (Nat×Bool)}{gl:List (Nat×D)}{ds:List D}{r r':D}{bx bx' nw cx cx' nwc:List (Nat×Bx)}
 (ml:List (Nat×Nat)) (hC:C.gl=gl) (hF:FnB P gl f ds bx r bx' nw) (ha:EvB C.gl σ (mlk ml) (bx.map Prod.fst) args ds)
 (hcx:v6 (mlk ml) bx=cx) (hlk:KB σ.bx cx) (hob:L3 (bx.map Prod.fst) bx) (hcx':v6 (mlk ml) bx'=cx') (hnw:v6 (mlk ml) nw=nwc) (hr:r.ren (mlk ml)=r')
 (hk:bx'.map Prod.fst=bx.map Prod.fst) (hfr:UI σ.bx nwc=true) (hinj:ED (mlk ml) ((nw++bx').map Prod.fst)=true) (ht:t<σ.n) :
 OpS P C ⟨some t,.call { callee:=.value (.func f),args:=args.toArray,argTypes:=tys },rt,pos,aft,g⟩ σ ((⟨σ.n,A9 (cx.map Prod.fst) σ.env,nwc++H1 cx' σ.bx⟩:Sg).set t r'):=by
 subst hC;subst hcx;subst hcx';subst hnw;subst hr;intro a w ⟨ρ,Fe,Fb,st⟩ K Q hK;refine J1 (V0 a w) (by simp) ?_;rw[Oper.uponIn_enter];obtain⟨hhand,hback⟩:=st.callB (m:=mlk ml) hlk hob hk hfr hinj
 have hmem:∀ i,d8 (bx.map Prod.fst) i=true->(lk bx i).isSome=true:=fun i hi=>by
  rw[X7];simp only[d8,List.any_eq_true] at hi;obtain⟨j,hj,he⟩:=hi;rw[Nat.eq_of_beq_eq_true he];exact hj
 have hc:=hF w (fun b=>gd C Fe Fb b/\b<w.heap.size) (fun i=>ρ (mlk ml i)) (fun i=>if(lk bx i).isSome then Fb (mlk ml i) else[]) (args.map a.eval)
  (fun g d hg=>by obtain⟨h1,h2⟩:=YD st g d hg;obtain⟨cs,e,fz,h3,h4⟩:=h2;exact⟨⟨h1,(Array.getElem?_eq_some_iff.1 h3).1⟩,cs,e,fz,h3,h4⟩) (fun b hb=>hb.2) (by simp[ha.len])
  (fun k hk=>(ha.ok st k hk).mono (fun _ _ _=>rfl) (fun b hb hl=>⟨hb,hl⟩) (fun i hi=>⟨hmem i hi.1,rfl⟩))
  ⟨fun id x hx=>(hhand.box id x hx).mono (fun _ _ _=>rfl) (fun b hb hl=>⟨hb,hl⟩) (fun i hi=>⟨hi,rfl⟩),hhand.boxN,hhand.nodB,hhand.dBB,fun id b hb hc=>hhand.out id b hb hc.1⟩
 simp only[List.map_toArray];refine⟨(fun h=>by cases h),(C5 (Calls.mono hc ?_))⟩;rintro e w' ⟨v,F,ρ',Fb',rfl,hext,hρ',hnd,hsrc,hFB,hFl,hand,hrv⟩
 have hGG:∀ b,(((gd C Fe Fb b/\b<w.heap.size)∨w.heap.size<=b∨∃ id,b∈(if(lk bx id).isSome then Fb (mlk ml id) else[]))/\b∉F/\¬ ∃ id,b∈Fb' id) ->
  ((gd C Fe Fb b∨w.heap.size<=b∨∃ id,b∈(if(lk bx id).isSome then Fb (mlk ml id) else[]))/\b∉F/\¬ ∃ id,b∈Fb' id):=fun b hb=>⟨hb.1.imp (fun h=>h.1) (fun h=>h),hb.2⟩
 obtain⟨ρ2,Fb2,st2,hrv2,hdE,hdB,hkp,hok⟩:=hback w' F ρ' Fb' hext hρ' hnd hsrc hFB hFl
  ⟨fun id x hx=>(hand.box id x hx).mono (fun _ _ _=>rfl) (fun b hb _=>hGG b hb) (fun i hi=>⟨hi,rfl⟩),hand.boxN,hand.nodB,hand.dBB,fun id b hb hc=>hc.2.2 ⟨id,hb⟩⟩
 have hrv3:=hrv2 r v (hrv.mono (fun _ _ _=>rfl) (fun b hb _=>hGG b hb) (fun i hi=>⟨hi,rfl⟩))
 have hput:(a.put (some t) v).tmps[t]? = some v:=by rw[v5 a t v t (by rw[st.size];exact ht)];simp
 refine hK _ _ ⟨ρ2,upd Fe t F,Fb2,st2.adopt ht hnd hdE hdB hkp hok (XW (hrv3.mono (fun _ _ _=>rfl) (fun b hb _=>⟨hb.1.1, ?_⟩) (fun i hi=>⟨hi,rfl⟩)) hput)⟩;rintro (⟨u,hu⟩|ho)
 ·by_cases hut:u=t
  ·subst hut;simp at hu;exact hb.2 hu
  ·rw[q7 hut] at hu;exact hb.1.2 (.inl ⟨u,hu⟩)
 ·exact hb.1.2 (.inr ho)
end Go.Sx

namespace Go.Sx
variable{P:Program}{C:Ctx}{σ σ' σ1:Sg}{a:Act}{w w':World}{ρ:Nat->Nat}{Fe Fe' Fb:Nat->List Nat}
def x81(gl:List (Nat×D))(σ:Sg)(n z:Nat):List (Nat×Operand)->Prop
 | []=>True
 | (i,x)::r=>(∃ d,ev gl σ x=some d/\d.pur=true/\d.np=true/\d.sz=z/\Nat.blt i n=true)/\x81 gl σ n z r
theorem k01{G L:Nat->Prop}{gl:List (Nat×D)}{n z:Nat}(hv:∀ x d,ev gl σ x=some d->d.pur=true->∃ cs:List Value,(a.eval x).cells.toList=cs/\Rc w ρ G L true d cs []) :
 ∀ (ps:List (Nat×Operand)) (l l':List D) (cs:Array Value),BZ gl σ ps l=some l'->x81 gl σ n z ps->Rc w ρ G L false (.arr n z l) cs.toList [] ->
  ∃ out:Array Value,Instr.fill (fun i=>some (i*z,z)) cs (ps.map (fun p=>(p.1,a.eval p.2)))=some out/\Rc w ρ G L false (.arr n z l') out.toList []:=by
 intro ps
 induction ps with
 | nil=>intro l l' cs h _ hr;simp only[BZ,Option.some.injEq] at h;subst h;exact⟨cs,rfl,hr⟩
 | cons p ps ih=>
  intro l l' cs h hp hr;obtain⟨i,x⟩:=p;obtain⟨⟨d,hx,p1,p2,p3,p5⟩,p4⟩:=hp;have p5:i<n:=Nat.le_of_ble_eq_true p5;simp only[BZ,hx] at h;obtain⟨xc,hxc,hrc⟩:=hv x d hx p1;have hlen:=hrc.len
  have hll:l.length=n:=by cases hr;assumption
  have hi2:i<l.length:=by omega
  have hcl:=hr.len;simp only[HJ,Array.length_toList] at hcl
  have hsi:l[i].sz=z:=by
   have hii:Rc w ρ G L false l[i] ((cs.toList.drop (i*z)).take z) []:=by
    cases hr with
    | arr _ _ _ _ _ _ hh=>exact hh i hi2
   have hl:=hii.len;rw[<- hl,List.length_take,List.length_drop,Array.length_toList,hcl];have:=Nat.mul_le_mul_right z (show i+1<=n from p5);rw[Nat.add_mul] at this;omega
  have hlo:i*z+z<=n*z:=by
   have:=Nat.mul_le_mul_right z (show i+1<=n from p5);rw[Nat.add_mul] at this;omega
  have hloc:(D.arr n z l).loc [i]=some (i*z,l[i]):=by simp[D.loc,List.getElem?_eq_getElem hi2]
  have hupd:(D.arr n z l).upd [i] d=some (.arr n z (l.set i d)):=by simp[D.upd,List.getElem?_eq_getElem hi2]
  obtain⟨F2,g1,g2,_⟩:=hr.upd hloc hupd (p3.trans hsi.symm) (hrc.unflag p2) List.nodup_nil List.nodup_nil (by simp) (.inl rfl)
  have hF2:F2=[]:=by
   cases F2 with
   | nil=>rfl
   | cons b r=>have:=g2 b (by simp);simp at this
  subst hF2
  have hxl:xc.length=z:=by rw[hlen,p3]
  have hfold:=F9 cs xc (i*z) 0 (by omega);simp only[Nat.add_zero] at hfold
  have hcs2:((a.eval x).cells.zipIdx.foldl (fun(c:Array Value) (p:Value×Nat)=>c.setIfInBounds (i*z+p.2) p.1) cs).toList=cs.toList.take (i*z)++xc++cs.toList.drop (i*z+xc.length):=by
   rw[<- hfold,<- hxc,<- Array.foldl_toList];simp
  rw[<- hcs2] at g1;obtain⟨out,q1,q2⟩:=ih (l.set i d) l' _ h p4 g1;refine⟨out, ?_,q2⟩;simp only[List.map_cons,Instr.fill]
  have hsz:(a.eval x).cells.size=z:=by rw[<- Array.length_toList,hxc,hxl]
  simp only[hsz];rw[if_neg (by simp;omega)];exact q1
theorem R.bldAP{t n e z:Nat}{ps:List (Nat×Operand)}{l l' l2:List D}{ty rt:TypeId}{pos:String}{aft:Array Edge}{g:Option (Nat×Bool)}[hT:BaT P ty n e z][hZ:ZrT P ty (.arr n z l)]
 (hps:EvS C.gl σ ps l l') (hp:x81 C.gl σ n z ps) (he:l'=l2) (ht:t<σ.n) :
 OpS P C ⟨some t,.build ty ps.toArray,rt,pos,aft,g⟩ σ (σ.set t (.arr n z l2)):=by
 subst he;refine OpS.value fun a w ⟨ρ,Fe,Fb,st⟩=>?_;obtain⟨it,zv,ie,h1,h2,h3,h4,h5,h6⟩:=hT.i;obtain⟨i',v',k1,k2,k3,k4⟩:=hZ.i;rw[h2] at k1;cases k1;rw[h3] at k2;cases k2;obtain⟨out,q1,q2⟩:=k01 (w:=w) (ρ:=ρ) (fun x d h hp=>L9 st h hp) ps l l' zv.cells hps.ok hp (f9 _ _ _ _ _ _ k3)
 have hps2:(ps.toArray.map fun x=>(x.1,a.eval x.2)).toList=ps.map (fun p=>(p.1,a.eval p.2)):=by simp
 refine⟨.agg out,w, ?_,st.put ht rfl ?_⟩
 ·have:=run_build (P:=P) w ty (ps.toArray.map fun x=>(x.1,a.eval x.2)) out (by
   rw[hps2];simp only[Program.built,h1,h2,h3,h4,h5]
   exact q1)
  unfold execOp;simp only[Sem.run_bind,this,Result.andThen_ok,Sem.run_pure]
 ·simp only[VR,D.isAgg,if_true];exact⟨out,rfl,q2.flag⟩
end Go.Sx

namespace Go.Sx
variable{pos:String}{aft:Array Edge}{g:Option (Nat×Bool)}
variable{P:Program}{C:Ctx}{σ σ' σ1:Sg}{a:Act}{w w':World}{ρ:Nat->Nat}{Fe Fe' Fb:Nat->List Nat}
theorem Rc.updP{G L:Nat->Prop}{d d1 d' x:D}{cs xs:List Value}{F Fx:List Nat}(h:Rc w ρ G L true d cs F){path:List Nat}{off:Nat}
 (hl:d.loc path=some (off,d1)) (hu:d.upd path x=some d') (hz:x.sz=d1.sz) (hx:Rc w ρ G L true x xs Fx) (hF:F.Nodup) (hFx:Fx.Nodup) (hdis:∀ b∈Fx,b∉F)
 (harr:d.noArr path=true) :
 ∃ F',Rc w ρ G L true d' (cs.take off++xs++cs.drop (off+xs.length)) F'/\(∀ b∈F',b∈F∨b∈Fx)/\F'.Nodup/\d'.sz=d.sz/\d'.isAgg=(if path=[] then x.isAgg else d.isAgg):=by
 induction path generalizing d cs F off d1 d' with
 | nil=>
  simp only[D.loc,Option.some.injEq,Prod.mk.injEq] at hl;simp only[D.upd,Option.some.injEq] at hu;obtain⟨rfl,rfl⟩:=hl;subst hu;have h1:=h.len;have h2:=hx.len
  have e:cs.take 0++xs++cs.drop (0+xs.length)=xs:=by simp;omega
  rw[e];exact⟨Fx,hx,fun _ h=>.inr h,hFx,hz,by simp⟩
 | cons k path ih=>
  cases h with
  | agg l cs Fs hs hr=>
   simp only[D.loc] at hl;simp only[D.upd] at hu
   cases hk:l[k]? with
   | none=>simp[hk] at hl
   | some d2=>
    obtain⟨hklt,rfl⟩:=List.getElem?_eq_some_iff.1 hk;simp only[hk] at hl hu
    cases hd:D.loc l[k] path with
    | none=>simp[hd] at hl
    | some od=>
     obtain⟨o,d3⟩:=od;simp only[hd,Option.some.injEq,Prod.mk.injEq] at hl;obtain⟨rfl,rfl⟩:=hl
     cases hud:D.upd l[k] path x with
     | none=>simp[hud] at hu
     | some d4=>
      simp only[hud,Option.some.injEq] at hu;subst hu;obtain⟨hn1,hn2⟩:=H2 hF;have hkm:∀ b∈Fs k,b∈(List.range l.length).flatMap Fs:=fun b hb=>List.mem_flatMap.2 ⟨k,List.mem_range.2 hklt,hb⟩;obtain⟨F',h1,h2,h3,h4,h5⟩:=ih (hr k hklt) hd hud hz (hn1 k hklt) (fun b hb hb'=>hdis b hb (hkm b hb')) (by simp only[D.noArr,hk] at harr;exact harr);obtain⟨_,_,_,hl3⟩:=(hr k hklt).loc hd;have hlen:=(hr k hklt).len;have hxl:=hx.len;have hlo:=H9 l k hklt
      have hxo:o+xs.length<=l[k].sz:=by omega
      refine⟨(List.range (l.set k d4).length).flatMap (fun j=>if j=k then F' else Fs j), ?_, ?_, ?_, ?_, ?_⟩
      ·refine .agg (l.set k d4) _ _ ?_ (fun j hj=>?_)
       ·rw[U5 _ _ _ (by omega),hs,l8 l k d4 hklt h4]
       ·have hj':j<l.length:=by simpa using hj
        rw[QT l k j d4 hklt h4];by_cases hjk:j=k
        ·subst hjk;simp only[List.getElem_set_self,if_true,h4];rw[ZN _ _ _ _ _ (by omega) (by omega)];exact h1
        ·have hjj:(l.set k d4)[j]=l[j]:=by rw[List.getElem_set_ne (fun e=>hjk e.symm)]
         simp only[hjj,hjk,if_false];rw[M7 _ _ _ _ _ (by omega) ?_]
         ·exact hr j hj'
         ·have h6:=H9 l j hj'
          rcases Nat.lt_or_gt_of_ne hjk with hlt|hlt
          ·left
           have:offk l j+l[j].sz<=offk l k:=by
            have:=H9 (l.take k) j (by simp;omega);simp only[List.getElem_take] at this;unfold offk at this ⊢;rw[List.take_take,Nat.min_eq_left (by omega)] at this;exact this
           omega
          ·right
           have:offk l k+l[k].sz<=offk l j:=by
            have:=H9 (l.take j) k (by simp;omega);simp only[List.getElem_take] at this;unfold offk at this ⊢;rw[List.take_take,Nat.min_eq_left (by omega)] at this;exact this
           omega
      ·intro b hb;obtain⟨j,hj,hm⟩:=List.mem_flatMap.1 hb
       have hj':j<l.length:=by simpa using List.mem_range.1 hj
       by_cases hjk:j=k
       ·subst hjk;simp at hm;exact(h2 b hm).imp (hkm b) id
       ·simp only[hjk,if_false] at hm;exact .inl (List.mem_flatMap.2 ⟨j,List.mem_range.2 hj',hm⟩)
      ·refine Q4 (fun j hj=>?_) (fun i j hi hj hij b hb hb'=>?_)
       ·have hj':j<l.length:=by simpa using hj
        by_cases hjk:j=k
        ·simp[hjk,h3]
        ·simp only[hjk,if_false];exact hn1 j hj'
       ·have hi':i<l.length:=by simpa using hi
        have hj':j<l.length:=by simpa using hj
        have key:∀ m,m<l.length->m≠k->b∈Fs m->b∈F'->False:=fun m hm hmk h6 h7=>by
         rcases h2 b h7 with h8|h8
         ·exact hn2 m k hm hklt hmk b h6 h8
         ·exact hdis b h8 (List.mem_flatMap.2 ⟨m,List.mem_range.2 hm,h6⟩)
        by_cases hik:i=k
        ·subst hik;simp only[if_true] at hb;simp only[show ¬ j=i from fun e=>hij e.symm,if_false] at hb';exact key j hj' (fun e=>hij e.symm) hb' hb
        ·simp only[hik,if_false] at hb;by_cases hjk:j=k
         ·simp only[hjk,if_true] at hb';exact key i hi' hik hb hb'
         ·simp only[hjk,if_false] at hb';exact hn2 i j hi' hj' hij b hb hb'
      ·simp only[S9];exact l8 l k d4 hklt h4
      ·simp[D.isAgg]
  | arr n z l cs hn hs hr=>simp[D.noArr] at harr
  | _=>simp[D.loc] at hl
theorem R.stP{p id off:Nat}{path:List Nat}{x:Operand}{d0 d1 d' dx:D}{ty n rt:TypeId}{gg:Bool}[LdT P ty n gg]
 (h:σ.get p=some (.ptr id off path)) (hb:σ.box id=some (.var d0)) (hl:d0.loc path=some (off,d1)) (hx:ev C.gl σ x=some dx) (hp:dx.pur=true) (hna:d0.noArr path=true)
 (hn:dx.sz=n) (hz:d1.sz=n) (hu:d0.upd path dx=some d') :
 OpS P C ⟨none,.store ty (.tmp p) x,rt,pos,aft,g⟩ σ (σ.putB id (.var d')):=by
 refine OpS.skip rfl fun a w ⟨ρ,Fe,Fb,st⟩=>?_;obtain⟨v,hv,hr⟩:=(z9 rfl).1 (st.env _ _ h);simp only[VR,D.isAgg,Bool.false_eq_true,if_false] at hr;have hz':dx.sz=d1.sz:=hn.trans hz.symm;generalize Fe p=F at hr;cases hr;obtain⟨cs,e,F',hb',hr,hFb⟩:=st.bx _ _ hb;obtain⟨Fx,hvx,_⟩:=m5 st hx (m8 hp);have hFx:=hvx.pur hp;subst hFx
 have hdead:dx≠.dead:=by rintro rfl;simp[D.pur] at hp
 have hxc:=hvx.cells hdead;obtain⟨_,_,_,h3⟩:=hr.loc hl
 have hnd:F'.Nodup:=by have:=st.nodB id;rw[hFb] at this;exact(List.nodup_cons.1 this).2
 obtain⟨F2,g1,g2,g3,g4,g5⟩:=hr.updP hl hu (hn.trans hz.symm) hxc hnd List.nodup_nil (by simp) hna;have hlen:=hxc.len
 have hvs:(a.eval x).cells.size=n:=by simp at hlen;omega
 have hbnd:off+n<=cs.size:=by simp at h3;omega
 refine⟨w.setRow (ρ id) (cs.toList.take off++(a.eval x).cells.toList++cs.toList.drop (off+(a.eval x).cells.toList.length)).toArray, ?_,ρ,Fe,_,st.putB (Fe':=Fe) (σ1:=σ) (F':=ρ id::F2) hb rfl rfl (fun u d hd=>.inl ⟨hd,rfl⟩) st.envN (fun u=>.inl rfl) rfl ⟨rfl,Nat.le_refl _⟩ rfl (by simp)
  (fun b hbne=>setRow_other w (ρ id) b _ hbne) ?_ (by simp) ?_ ?_⟩
 ·unfold execOp;simp only[Instr.storeAt,Instr.sureAddr,j8 hv,Sem.run_bind,Sem.run_pure,Result.andThen_ok,H6 (P:=P) (ty:=ty) hb' hvs hbnd hxc.one]
 ·refine List.nodup_cons.2 ⟨fun hm=>?_,g3⟩;have:=st.nodB id;rw[hFb] at this
  rcases g2 _ hm with h4|h4
  ·exact(List.nodup_cons.1 this).1 h4
  ·cases h4
 ·intro b hbm
  rcases List.mem_cons.1 hbm with rfl|hm
  ·exact .inl (by rw[hFb];simp)
  ·rcases g2 b hm with h4|h4
   ·exact .inl (by rw[hFb];exact List.mem_cons_of_mem _ h4)
   ·cases h4
 ·refine⟨_,e,F2,setRow_heap w (ρ id) cs _ e (0,0) hb', ?_,rfl⟩;simp only;refine g1.mono (fun b hbb _=>setRow_other w (ρ id) b _ ?_) (fun b hbb _=>⟨hbb.1,fun ho=>hbb.2 ?_⟩) (fun i hi=>⟨hi,rfl⟩)
  ·rintro rfl
   rcases hbb with hbb|hbb
   ·exact hbb.2 (.inr ⟨id,by rw[hFb];simp⟩)
   ·have:=st.nodB id;rw[hFb] at this
    rcases g2 _ hbb with h4|h4
    ·exact(List.nodup_cons.1 this).1 h4
    ·cases h4
  ·rcases ho with ⟨u,hu⟩|⟨i,hi⟩
   ·exact .inl ⟨u,hu⟩
   ·by_cases hid:i=id
    ·subst hid;rw[j1] at hi;refine .inr ⟨i, ?_⟩;rw[hFb]
     rcases List.mem_cons.1 hi with rfl|hm
     ·simp
     ·rcases g2 b hm with h4|h4
      ·exact List.mem_cons_of_mem _ h4
      ·cases h4
    ·rw[q7 hid] at hi;exact .inr ⟨i,hi⟩
class BgT(P:Program)(t:TypeId)(l:outParam (List D)):Prop where
 i:∃ n e it zv ie z,P.underlying t=some (.array n e)/\P.info? t=some it/\it.zero=some zv/\P.info? e=some ie/\ie.size=z/\chk (.agg l) zv.cells.toList=true/\offl l 0=(List.range n).map (fun i=>(i*z,z))
def WU(P:Program)(C:Ctx)(c:Code)(Q:Exit->Sg->Prop)(σ:Sg):Prop:=
 ∀ a w,St C σ a w->∀ (b:Frame) (k:List Item) (cs:List Frame),b.roundOf=(Fx C).round->(Fx C).fn b.fn->(Fx C).room (cs.length+1+3) ->
  ∃ e a' w',(∃ s,St C s a' w'/\Q e s)/\ArrivesIn (Machine.fenced P (Fx C)) P (lone (b.atR a (.code c::.inLoop c::k)) cs w) b k cs e a' w'
theorem VH{c:Code}{Q:Exit->Sg->Prop}(h:WU P C c Q σ):W P C (.loop c) Q σ:=by
 intro a w hs b k cs hro hbf hr;obtain⟨e,a',w',hq,harr⟩:=h a w hs b k cs hro hbf hr;exact⟨e,a',w',hq,.of_steps (.one (fenced_calm hbf hr rfl) stepR_loop) harr⟩
theorem WU.step{c:Code}{Q:Exit->Sg->Prop}(h:W P C c (fun e s=>match e with | .normal=>WU P C c Q s|e=>Q e s) σ):WU P C c Q σ:=by
 intro a w hs b k cs hro hbf hr;obtain⟨e,a₁,w₁,⟨s,hs1,hq⟩,harr⟩:=h a w hs b (.inLoop c::k) cs hro hbf hr
 cases e with
 | normal=>
  obtain⟨e₂,a₂,w₂,hq₂,harr₂⟩:=hq a₁ w₁ hs1 b k cs hro hbf hr;exact⟨e₂,a₂,w₂,hq₂,.of_steps (StepsIn.trans harr (.one (fenced_calm hbf hr rfl) stepR_inLoop)) harr₂⟩
 | exit id=>exact⟨_,a₁,w₁,⟨s,hs1,hq⟩,.pass (x:=.inLoop c) rfl (fun _ _=>.inl (by simp)) harr⟩
 | goto l=>exact⟨_,a₁,w₁,⟨s,hs1,hq⟩,.pass (x:=.inLoop c) rfl (fun _ _=>.inl (by simp)) harr⟩
 | ret=>exact⟨_,a₁,w₁,⟨s,hs1,hq⟩,.pass (x:=.inLoop c) rfl (fun _ _=>.inl (by simp)) harr⟩
 | panic ch=>exact⟨_,a₁,w₁,⟨s,hs1,hq⟩,.pass (x:=.inLoop c) rfl (fun _ _=>.inl (by simp)) harr⟩
 | outgrown=>exact⟨_,a₁,w₁,⟨s,hs1,hq⟩,.pass (x:=.inLoop c) rfl (fun _ _=>.inl (by simp)) harr⟩
def EqV(P:Program)(k:Nat)(t:TypeId)(d1 d2:D)(b:Bool):Prop:=
 ∀ (n:Nat) (w:World) (ρ1 ρ2:Nat->Nat) (G1 G2 L1 L2:Nat->Prop) (v1 v2:Value) (F1 F2:List Nat),VR w ρ1 G1 L1 d1 v1 F1->VR w ρ2 G2 L2 d2 v2 F2->(Op.equalIn (n+k) t v1 v2).run P w=.ok b w
theorem EqV.u32{t:TypeId}{k:IntKind}(ht:P.underlying t=some (.int k))(a b:UInt32):EqV P 1 t (.u32 a) (.u32 b) (a==b):=by
 intro n w ρ1 ρ2 G1 G2 L1 L2 v1 v2 F1 F2 h1 h2;simp only[VR,D.isAgg,Bool.false_eq_true,if_false] at h1 h2;cases h1;cases h2;rw[run_equalIn_int w n t .u32 k _ _ ht,NR]
theorem EqV.arr{t e m:Nat}[hT:ArT P t m e][hk:IkT P e .u8][hL:LdT P e 1 false](xs ys:List UInt8):EqV P 2 t (.arr m 1 (xs.map .u8)) (.arr m 1 (ys.map .u8)) (xs==ys):=by
 intro n w ρ1 ρ2 G1 G2 L1 L2 v1 v2 F1 F2 h1 h2;simp only[VR,D.isAgg,if_true] at h1 h2;obtain⟨cx,rfl,h1⟩:=h1;obtain⟨cy,rfl,h2⟩:=h2;obtain⟨hlx,hcx⟩:=NT h1;obtain⟨hly,hcy⟩:=NT h2;obtain⟨d,i,_,_,hi,hsz⟩:=hL.i
 have hce:P.cellsOf e=1:=by simp[Program.cellsOf,hi,hsz]
 rw[show n+2=(n+1)+1 from rfl,run_equalIn_array w (n+1) cx cy hT.u hi,hce,QR (P:=P) w n xs ys m hlx hly cx cy hcx hcy _ (fun i hi=>List.mem_range.1 hi),k29 m xs ys hlx hly]
inductive EqFs(P:Program)(k:Nat):Nat->List Field->List D->List D->Bool->Prop
 | nil {o:Nat}:EqFs P k o [] [] [] true
 | cons {o z:Nat} {gg:Bool} {f:Field} {fs:List Field} {d1 d2:D} {ds1 ds2:List D} {b bs:Bool} (hn:(f.name != "_")=true) (ho:f.offset=o) (hL:LdT P f.type z gg) (hz1:d1.sz=z) (hz2:d2.sz=z) (hg1:d1.isAgg=gg) (hg2:d2.isAgg=gg)
  (h:EqV P k f.type d1 d2 b) (t:EqFs P k (o+z) fs ds1 ds2 bs):EqFs P k o (f::fs) (d1::ds1) (d2::ds2) (b&&bs)
theorem EqFs.run{k o:Nat}{fs:List Field}{ds1 ds2:List D}{b:Bool}(h:EqFs P k o fs ds1 ds2 b)(n:Nat)(w:World)(ρ1 ρ2:Nat->Nat)(G1 G2 L1 L2:Nat->Prop)(cs1 cs2:Array Value)(Fs1 Fs2:Nat->List Nat)
 (hc1:o+Z5 ds1<=cs1.size) (hc2:o+Z5 ds2<=cs2.size)
 (h1:∀ i (hi:i<ds1.length),Rc w ρ1 G1 L1 true ds1[i] ((cs1.toList.drop (o+offk ds1 i)).take ds1[i].sz) (Fs1 i)) (h2:∀ i (hi:i<ds2.length),Rc w ρ2 G2 L2 true ds2[i] ((cs2.toList.drop (o+offk ds2 i)).take ds2[i].sz) (Fs2 i)) :
 (Op.eqFields (n+k) cs1 cs2 fs).run P w=.ok b w:=by
 induction h generalizing Fs1 Fs2 with
 | nil=>simp[Op.eqFields]
 | @cons o z gg f fs d1 d2 ds1 ds2 b bs hn ho hL hz1 hz2 hg1 hg2 h t ih=>
  subst ho;simp only[H0] at hc1 hc2;have a1:=h1 0 (by simp);have a2:=h2 0 (by simp);simp only[List.getElem_cons_zero,ZR,Nat.add_zero,hz1] at a1;simp only[List.getElem_cons_zero,ZR,Nat.add_zero,hz2] at a2;obtain⟨v1,r1,q1⟩:=QI (P:=P) (e:=f.type) (hL:=hL) a1 hz1 hg1 (by omega);obtain⟨v2,r2,q2⟩:=QI (P:=P) (e:=f.type) (hL:=hL) a2 hz2 hg2 (by omega);have hb:=h n w _ _ _ _ _ _ _ _ _ _ q1 q2
  have ih':=ih (fun i=>Fs1 (i+1)) (fun i=>Fs2 (i+1)) (by omega) (by omega) (fun i hi=>by
   have:=h1 (i+1) (by simpa using hi);simp only[List.getElem_cons_succ,W5,hz1] at this
   rw[Nat.add_assoc];exact this) (fun i hi=>by
   have:=h2 (i+1) (by simpa using hi);simp only[List.getElem_cons_succ,W5,hz2] at this
   rw[Nat.add_assoc];exact this)
  have hne:f.name ≠ "_":=by simpa using hn
  simp only[Op.eqFields,hne,ne_eq,not_false_eq_true,if_true,Sem.run_bind,r1,r2,hb,Result.andThen_ok]
  cases b with
  | true=>simpa using ih'
  | false=>simp
theorem EqV.struct{t:TypeId}{k:Nat}{fs:Array Field}{ds1 ds2:List D}{b:Bool}(ht:P.underlying t=some (.struct fs))(hp:P.stoodInHeld t=false)(h:EqFs P k 0 fs.toList ds1 ds2 b):EqV P (k+1) t (.agg ds1) (.agg ds2) b:=by
 intro n w ρ1 ρ2 G1 G2 L1 L2 v1 v2 F1 F2 h1 h2;simp only[VR,D.isAgg,if_true] at h1 h2;obtain⟨cx,rfl,h1⟩:=h1;obtain⟨cy,rfl,h2⟩:=h2
 have hf:P.fieldsOf t=fs:=by simp[Program.fieldsOf,ht]
 rw[show n+(k+1)=(n+k)+1 from rfl,run_equalIn_struct w (n+k) t cx cy (by rw[hf];exact ht) hp,hf]
 cases h1 with
 | agg _ _ Fs1 hs1 hr1=>
  cases h2 with
  | agg _ _ Fs2 hs2 hr2=>
   simp only[Array.length_toList] at hs1 hs2;exact h.run n w ρ1 ρ2 G1 G2 L1 L2 cx cy Fs1 Fs2 (by omega) (by omega) (fun i hi=>by rw[Nat.zero_add];exact hr1 i hi) (fun i hi=>by rw[Nat.zero_add];exact hr2 i hi)
theorem R.eqD{neg:Bool}{x y:Operand}{t k:Nat}{d1 d2:D}{b b':Bool}{xt yt ty:TypeId}[hE:EqT P xt](he:EqV P k xt d1 d2 b)(hk:Nat.ble k 10000=true)
 (hx:ev C.gl σ x=some d1) (hy:ev C.gl σ y=some d2) (ha1:d1.isAgg=true) (ha2:d2.isAgg=true) (hr1:d1.isRef=false) (hr2:d2.isRef=false) (hb:(bif neg then !b else b)=b') (ht:t<σ.n) :
 OpS P C ⟨some t,.binOp (bif neg then .neq else .eql) xt x y yt,ty,pos,aft,g⟩ σ (σ.set t (.bool b')):=by
 subst hb;have hk:k<=10000:=Nat.le_of_ble_eq_true hk;refine OpS.value fun a w ⟨ρ,Fe,Fb,st⟩=>?_;obtain⟨Fx,hvx,_⟩:=m5 st hx hr1;obtain⟨Fy,hvy,_⟩:=m5 st hy hr2;have heq:=he (10000-k) w _ _ _ _ _ _ _ _ _ _ hvx hvy;rw[show 10000-k+k=10000 by omega] at heq;simp only[VR,ha1,if_true] at hvx;simp only[VR,ha2,if_true] at hvy;obtain⟨cx,hex,hvx⟩:=hvx;obtain⟨cy,hey,hvy⟩:=hvy;rw[hex,hey] at heq;refine⟨.bool (bif neg then !b else b),w, ?_,st.put ht rfl ?_⟩
 ·unfold execOp
  cases neg with
  | false=>simp only[cond_false,hex,hey,Sem.run_bind,run_eqGuard_agg w .eql xt x y cx cy hE.i,run_eql_struct,heq,Result.andThen_ok,Sem.run_pure]
  | true=>simp only[cond_true,hex,hey,Sem.run_bind,run_eqGuard_agg w .neq xt x y cx cy hE.i,run_neq_struct,heq,Result.andThen_ok,Sem.run_pure]
 ·simp only[VR,D.isAgg,Bool.false_eq_true,if_false];exact .bool _
end Go.Sx

namespace Go.Sx
variable{P:Program}{C:Ctx}{σ σ' σ1:Sg}{a:Act}{w w':World}{ρ:Nat->Nat}{Fe Fe' Fb:Nat->List Nat}
variable{gl:List (Nat×D)}{W0:World}{G:Nat->Prop}
end Go.Sx

namespace Go.Sx
variable{P:Program}{C:Ctx}{σ σ' σ1:Sg}{a:Act}{w w':World}{ρ:Nat->Nat}{Fe Fe' Fb:Nat->List Nat}
theorem Rc.take{G L:Nat->Prop}{d d':D}{cs:List Value}{F:List Nat}(h:Rc w ρ G L true d cs F){path:List Nat}{off e z:Nat}{l:List D}
 (hl:d.loc path=some (off,.sl (some e) z l)) (hna:d.noArr path=true) (hu:d.upd path .dead=some d') (hF:F.Nodup) :
 ∃ v F1 F2,cs[off]? = some v/\Rc w ρ G L true (.sl (some e) z l) [v] F1/\Rc w ρ G L true d' cs F2/\(∀ b∈F1,b∈F)/\(∀ b∈F2,b∈F)/\F1.Nodup/\F2.Nodup/\(∀ b∈F1,b∉F2)/\d'.sz=d.sz:=by
 induction path generalizing d cs F off d' with
 | nil=>
  simp only[D.loc,Option.some.injEq,Prod.mk.injEq] at hl;simp only[D.upd,Option.some.injEq] at hu;obtain⟨rfl,rfl⟩:=hl;subst hu;have h1:=h.len
  obtain⟨v,rfl⟩:∃ v,cs=[v]:=by
   match cs,h1 with
   | [x],_=>exact⟨x,rfl⟩
  exact⟨v,F,[],rfl,h,.dead v (h.one v (by simp)),fun _ h=>h,by simp,hF,List.nodup_nil,by simp,rfl⟩
 | cons k path ih=>
  cases h with
  | agg l0 cs Fs hs hr=>
   simp only[D.loc] at hl;simp only[D.upd] at hu
   cases hk:l0[k]? with
   | none=>simp[hk] at hl
   | some d2=>
    obtain⟨hklt,rfl⟩:=List.getElem?_eq_some_iff.1 hk;simp only[hk] at hl hu
    cases hd:D.loc l0[k] path with
    | none=>simp[hd] at hl
    | some od=>
     obtain⟨o,d3⟩:=od;simp only[hd,Option.some.injEq,Prod.mk.injEq] at hl;obtain⟨rfl,rfl⟩:=hl
     cases hud:D.upd l0[k] path .dead with
     | none=>simp[hud] at hu
     | some d4=>
      simp only[hud,Option.some.injEq] at hu;subst hu;obtain⟨hn1,hn2⟩:=H2 hF;have hkm:∀ b∈Fs k,b∈(List.range l0.length).flatMap Fs:=fun b hb=>List.mem_flatMap.2 ⟨k,List.mem_range.2 hklt,hb⟩;simp only[D.noArr,hk] at hna;obtain⟨v,F1,F2,h1,h2,h3,h4,h5,h6,h7,h8,h9⟩:=ih (hr k hklt) hd hna hud (hn1 k hklt);have hlen:=(hr k hklt).len;have hlo:=H9 l0 k hklt
      have hol:o<l0[k].sz:=by
       have:=(List.getElem?_eq_some_iff.1 h1).1;omega
      refine⟨v,F1,(List.range (l0.set k d4).length).flatMap (fun j=>if j=k then F2 else Fs j), ?_,h2, ?_,fun b hb=>hkm b (h4 b hb), ?_,h6, ?_, ?_, ?_⟩
      ·rw[List.getElem?_take,if_pos hol,List.getElem?_drop] at h1;exact h1
      ·refine .agg (l0.set k d4) _ _ ?_ (fun j hj=>?_)
       ·rw[hs,l8 l0 k d4 hklt h9]
       ·have hj':j<l0.length:=by simpa using hj
        rw[QT l0 k j d4 hklt h9];by_cases hjk:j=k
        ·subst hjk;simp only[List.getElem_set_self,if_true,h9];exact h3
        ·have hjj:(l0.set k d4)[j]=l0[j]:=by rw[List.getElem_set_ne (fun e=>hjk e.symm)]
         simp only[hjj,hjk,if_false];exact hr j hj'
      ·intro b hb;obtain⟨j,hj,hm⟩:=List.mem_flatMap.1 hb
       have hj':j<l0.length:=by simpa using List.mem_range.1 hj
       by_cases hjk:j=k
       ·subst hjk;simp at hm;exact hkm b (h5 b hm)
       ·simp only[hjk,if_false] at hm;exact List.mem_flatMap.2 ⟨j,List.mem_range.2 hj',hm⟩
      ·refine Q4 (fun j hj=>?_) (fun i j hi hj hij b hb hb'=>?_)
       ·have hj':j<l0.length:=by simpa using hj
        by_cases hjk:j=k
        ·simp[hjk,h7]
        ·simp only[hjk,if_false];exact hn1 j hj'
       ·have hi':i<l0.length:=by simpa using hi
        have hj':j<l0.length:=by simpa using hj
        by_cases hik:i=k
        ·subst hik;simp only[if_true] at hb;simp only[show ¬ j=i from fun e=>hij e.symm,if_false] at hb';exact hn2 j i hj' hi' (fun e=>hij e.symm) b hb' (h5 b hb)
        ·simp only[hik,if_false] at hb;by_cases hjk:j=k
         ·simp only[hjk,if_true] at hb';exact hn2 i k hi' hklt hik b hb (h5 b hb')
         ·simp only[hjk,if_false] at hb';exact hn2 i j hi' hj' hij b hb hb'
      ·intro b hb hb';obtain⟨j,hj,hm⟩:=List.mem_flatMap.1 hb'
       have hj':j<l0.length:=by simpa using List.mem_range.1 hj
       by_cases hjk:j=k
       ·subst hjk;simp at hm;exact h8 b hb hm
       ·simp only[hjk,if_false] at hm;exact hn2 j k hj' hklt hjk b hm (h4 b hb)
      ·simp only[D.sz];rw[l8 l0 k d4 hklt h9]
  | arr n z l cs hn hs hr=>simp[D.noArr] at hna
  | _=>simp[D.loc] at hl
theorem DT{id t off e z:Nat}{path:List Nat}{l:List D}{d0 d0':D}(h:σ.get t=some (.alb id off path))(hb:σ.box id=some (.var d0))(hl:d0.loc path=some (off,.sl (some e) z l))
 (hna:d0.noArr path=true) (hu:d0.upd path .dead=some d0') (hs:St C σ a w) :
 St C ((σ.putB id (.var d0')).upd t (.sl (some e) z l)) a w:=by
 obtain⟨ρ,Fe,Fb,st⟩:=hs;obtain⟨hFt,hid,v,hv,hcell⟩:=st.env t _ h;obtain⟨cs,e0,F',q1,q2,q3⟩:=st.bx id _ hb
 have hnd:(ρ id::F').Nodup:=by have:=st.nodB id;rw[q3] at this;exact this
 obtain⟨v0,F1,F2,k1,k2,k3,k4,k5,k6,k7,k8,k9⟩:=q2.take hl hna hu (List.nodup_cons.1 hnd).2
 have hvv:v0=v:=by
  have:cs[off]? = some v0:=by rw[<- Array.getElem?_toList];exact k1
  simp only[World.cell?,q1] at hcell;rw[this] at hcell;cases hcell;rfl
 subst hvv
 have hmem:∀ b,b∈F1->b∈Fb id:=fun b hb=>by rw[q3];exact List.mem_cons_of_mem _ (k4 b hb)
 have hmem2:∀ b,b∈ρ id::F2->b∈Fb id:=fun b hb=>by
  rw[q3]
  rcases List.mem_cons.1 hb with rfl|hb
  ·simp
  ·exact List.mem_cons_of_mem _ (k5 b hb)
 have hot:∀ b,own (upd Fe t F1) (upd Fb id (ρ id::F2)) b->own Fe Fb b:=by
  rintro b (⟨u,hu⟩|⟨i,hi⟩)
  ·by_cases hut:u=t
   ·subst hut;rw[j1] at hu;exact .inr ⟨id,hmem b hu⟩
   ·rw[q7 hut] at hu;exact .inl ⟨u,hu⟩
  ·by_cases hii:i=id
   ·subst hii;rw[j1] at hi;exact .inr ⟨i,hmem2 b hi⟩
   ·rw[q7 hii] at hi;exact .inr ⟨i,hi⟩
 have hg:∀ b,gd C Fe Fb b->gd C (upd Fe t F1) (upd Fb id (ρ id::F2)) b:=fun b hb=>⟨hb.1,fun hc=>hb.2 (hot b hc)⟩
 have hbox:∀ i,((σ.putB id (.var d0')).upd t (.sl (some e) z l)).box i=if i=id then some (.var d0') else σ.box i:=fun i=>by
  rw[j35,ZU];by_cases hi:i=id
  ·subst hi;simp[hb]
  ·simp[hi]
 have hL:∀ i,(σ.box i).isSome=true->(((σ.putB id (.var d0')).upd t (.sl (some e) z l)).box i).isSome=true:=fun i hi=>by
  rw[hbox];by_cases hii:i=id
  ·simp[hii]
  ·simpa [hii] using hi
 refine⟨ρ,upd Fe t F1,upd Fb id (ρ id::F2),{
  size:=st.size
  defs:=st.defs
  pin:=fun i b hp=>⟨(st.pin i b hp).1,hL i (st.pin i b hp).2⟩
  env:=fun u x hx=>?_
  envN:=fun u hu=>?_
  bx:=fun i b hd=>?_
  bxN:=fun i hn=>?_
  nodE:=fun u=>?_
  nodB:=fun i=>?_
  dEE:=fun u u' hne b hb1 hb2=>?_
  dEB:=fun u i b hb1 hb2=>?_
  dBB:=fun i i' hne b hb1 hb2=>?_
  new:=fun b hb=>st.new b (hot b hb)
  kept:=st.kept
  os:=st.os
  tape:=⟨st.tape.tp,st.tape.dr⟩
  output:=st.output
  grown:=st.grown
  gl:=st.gl
  okN:=st.okN
  okO:=fun b hb=>st.okO b (hot b hb) }⟩
 ·rw[i9,A2] at hx;by_cases hut:u=t
  ·subst hut;simp only[if_true,h,Option.map_some] at hx;cases hx;rw[j1];refine(z9 rfl).2 ⟨v0,hv, ?_⟩;simp only[VR,D.isAgg,Bool.false_eq_true,if_false];exact k2.mono (fun _ _ _=>rfl) (fun b hb _=>hg b hb) (fun i hi=>⟨hL i hi,rfl⟩)
  ·simp only[hut,if_false,Option.map_eq_some_iff] at hx;obtain⟨x0,hx0,rfl⟩:=hx;rw[q7 hut];have hsr:=st.env u x0 hx0
   have hkeep:SR w ρ (gd C (upd Fe t F1) (upd Fb id (ρ id::F2))) (fun i=>(((σ.putB id (.var d0')).upd t (.sl (some e) z l)).box i).isSome) a u x0 (Fe u):=
    OK hsr (fun _ _ _=>rfl) (fun b hb _=>hg b hb) hL (fun _ _ _ _ h=>h)
   cases x0 with
   | alb i off path=>
    simp only[M9];by_cases hii:i=id
    ·subst hii;simp only[Nat.beq_refl,cond_true];obtain⟨h1,_,v1,h2,_⟩:=hsr;exact⟨h1,v1,h2⟩
    ·simp only[nbeq hii,cond_false];exact hkeep
   | _=>exact hkeep
 ·rw[i9,A2] at hu;by_cases hut:u=t
  ·subst hut;simp[h] at hu
  ·simp only[hut,if_false,Option.map_eq_none_iff] at hu;rw[q7 hut];exact st.envN u hu
 ·rw[hbox] at hd;by_cases hii:i=id
  ·subst hii;simp only[if_true,Option.some.injEq] at hd;subst hd;rw[j1];exact⟨cs,e0,F2,q1,k3.mono (fun _ _ _=>rfl) (fun b hb _=>hg b hb) (fun i hi=>⟨hL i hi,rfl⟩),rfl⟩
  ·simp only[hii,if_false] at hd;rw[q7 hii];exact(st.bx i b hd).mono (fun _ _ _=>rfl) (fun b hb _=>hg b hb) (fun i hi=>⟨hL i hi,rfl⟩)
 ·rw[hbox] at hn;by_cases hii:i=id
  ·simp[hii] at hn
  ·simp only[hii,if_false] at hn;rw[q7 hii];exact st.bxN i hn
 ·by_cases hut:u=t
  ·subst hut;rw[j1];exact k6
  ·rw[q7 hut];exact st.nodE u
 ·by_cases hii:i=id
  ·subst hii;rw[j1];exact List.nodup_cons.2 ⟨fun hm=>(List.nodup_cons.1 hnd).1 (k5 _ hm),k7⟩
  ·rw[q7 hii];exact st.nodB i
 ·by_cases hut:u=t
  ·subst hut;rw[j1] at hb1;rw[q7 (fun h=>hne h.symm)] at hb2;exact st.dEB u' id b hb2 (hmem b hb1)
  ·rw[q7 hut] at hb1;by_cases hut':u'=t
   ·subst hut';rw[j1] at hb2;exact st.dEB u id b hb1 (hmem b hb2)
   ·rw[q7 hut'] at hb2;exact st.dEE u u' hne b hb1 hb2
 ·by_cases hii:i=id
  ·subst hii;rw[j1] at hb2;by_cases hut:u=t
   ·subst hut;rw[j1] at hb1
    rcases List.mem_cons.1 hb2 with rfl|hb2
    ·exact(List.nodup_cons.1 hnd).1 (k4 _ hb1)
    ·exact k8 b hb1 hb2
   ·rw[q7 hut] at hb1;exact st.dEB u i _ hb1 (hmem2 b hb2)
  ·rw[q7 hii] at hb2;by_cases hut:u=t
   ·subst hut;rw[j1] at hb1;exact st.dBB id i (fun h=>hii h.symm) b (hmem b hb1) hb2
   ·rw[q7 hut] at hb1;exact st.dEB u i b hb1 hb2
 ·have key:∀ i b,b∈upd Fb id (ρ id::F2) i->b∈Fb i:=fun i b hb=>by
   by_cases hii:i=id
   ·subst hii;rw[j1] at hb;exact hmem2 b hb
   ·rw[q7 hii] at hb;exact hb
  exact st.dBB i i' hne b (key i b hb1) (key i' b hb2)
theorem QQ{s id off t e z bytes:Nat}{path:List Nat}{d0 d0':D}{x:Operand}{l l' l2:List D}{ty rt:TypeId}{pos:String}{aft:Array Edge}{g:Option (Nat×Bool)}[hT:SlT P ty e][hE:ElT P e z bytes]
 (h:σ.get s=some (.alb id off path)) (hb:σ.box id=some (.var d0)) (hl:d0.loc path=some (off,.sl (some e) z l)) (hna:d0.noArr path=true) (hu:d0.upd path .dead=some d0')
 {τ:Sg} (hτ:(σ.putB id (.var d0')).upd s (.sl (some e) z l)=τ) (hs:τ.get s=some (.sl (some e) z l))
 (hx:SrcO C.gl τ x z l') (he:l++l'=l2) (hn:l.length+l'.length<=1073741824) (ht:t<σ.n) (hst:s≠t) (hby:bytes<=131072) :
 OpS P C ⟨some t,.call { callee:=.builtin .append,args:=#[.tmp s,x],argTypes:=#[ty,ty] },rt,pos,aft,g⟩ σ ((τ.kill s).set t (.sl (some e) z l2)):=by
 subst hτ;exact OG (fun a w hs=>DT h hb hl hna hu hs) (J8 (.inl rfl) hs hx he hn ht hst hby)
end Go.Sx

namespace Go.Sx
variable{P:Program}{C:Ctx}{σ σ' σ1:Sg}{a:Act}{w w':World}{ρ:Nat->Nat}{Fe Fe' Fb:Nat->List Nat}
theorem k67{ids:List Nat}{rs:List ResultVar}(h:(rs.all fun rv=>(X1 σ rv).2||!d8 ids (X1 σ rv).1)=true):∀ rv∈rs,(X1 σ rv).2=false->d8 ids (X1 σ rv).1=false:=by
 intro rv hrv h2;have:=List.all_eq_true.1 h rv hrv;rw[h2] at this;simpa using this
theorem Z8{r:D}{ids:List Nat}{b0 bx':List (Nat×Bx)}{e:Exit}(he:e=.normal∨e=.ret)(hb:W7 ids σ.bx=b0)(hb':b0=bx')(hok:L3 ids b0):EndsB [] P (.tup []) ids bx' e σ:=by
 subst hb';exact⟨he,⟨[],rfl,rfl,List.nodup_nil,fun k hk=>by simp at hk⟩,rfl,hb,hok,fun rv hrv=>by cases hrv⟩
theorem u0{rv:ResultVar}{r d:D}{ids:List Nat}{b0 bx':List (Nat×Bx)}{e:Exit}(he:e=.normal∨e=.ret)(h:KT σ rv=some d)(hd:d=r)(h1:d.isRef=false)(h3:VO P d rv)(hokr:d.okB ids=true)
 (hb:W7 ids σ.bx=b0) (hb':b0=bx') (hok:L3 ids b0) (hs:([rv].all fun rv=>(X1 σ rv).2||!d8 ids (X1 σ rv).1)=true):EndsB [rv] P r ids bx' e σ:=by
 subst hb';subst hd;exact⟨he,⟨h,h1,h3⟩,hokr,hb,hok,k67 hs⟩
end Go.Sx

namespace Go.Sx
variable{P:Program}{C:Ctx}{σ σ' σ1:Sg}{a:Act}{w w':World}{ρ:Nat->Nat}{Fe Fe' Fb:Nat->List Nat}
def x85(P:Program)(C:Ctx)(o:Oper)(σ:Sg)(E:Exit->Sg->Prop):Prop:=
 ∀ a w,St C σ a w->∀ (K:Act->World->Prop) (Q:Exit->Act->World->Prop),(∀ e a' w' σ',St C σ' a' w'->E e σ'->Q e a' w')->o.wpIn (Fx C) 3 P a w K Q
theorem k33{ops:Array Oper}{o:Oper}{l:List Oper}{Q:Exit->Sg->Prop}(hg:o.guard=none)(h:x85 P C o σ Q):WL P C ops (o::l) Q σ:=
 fun a w hs=>wpListIn_plain hg fun K hK=>h a w hs K _ (fun e a' w' σ' hs' hq=>⟨σ',hs',hq⟩)
def D.albIn(ids:List Nat):D->Bool
 | .alb id _ _=>d8 ids id
 | _=>false
def P2(ids:List Nat)(ks:List (Nat×Nat))(c:Nat):List (Nat×D)->Bool
 | []=>true
 | (u,d)::r=>(!(d.albIn ids)||has ks c u)&&P2 ids ks c r
def P1(ids:List Nat)(an:List Nat)(ks:List (Nat×Nat))(c:Nat):List It->Nat->Bool
 | [],_=>true
 | ⟨t,d,_⟩::r,j=>(!(d.albIn ids)||has ks c t||tb (nth an j) c)&&P1 ids an ks c r (j+1)
theorem ZL{ids:List Nat}{ks:List (Nat×Nat)}{c:Nat}{env:List (Nat×D)}(h:P2 ids ks c env=true){u:Nat}{x:D}(hx:lk env u=some x):x.albIn ids=false∨(c,u)∈ks:=by
 induction env with
 | nil=>cases hx
 | cons y r ih=>
  obtain⟨k,d⟩:=y;simp only[P2,Bool.and_eq_true,Bool.or_eq_true,Bool.not_eq_true'] at h;rw[y0] at hx;split at hx
  ·rename_i hk;subst hk;cases hx;exact h.1.imp id UM
  ·exact ih h.2 hx
theorem BF{ids an:List Nat}{ks:List (Nat×Nat)}{c:Nat}{its:List It}{j0:Nat}(h:P1 ids an ks c its j0=true){k t:Nat}{d:D}{wt:Bool}(hk:its[k]? = some ⟨t,d,wt⟩) :
 d.albIn ids=false∨(c,t)∈ks∨tb (nth an (j0+k)) c=true:=by
 induction its generalizing j0 k with
 | nil=>simp at hk
 | cons y r ih=>
  obtain⟨t',d',w'⟩:=y;simp only[P1,Bool.and_eq_true,Bool.or_eq_true,Bool.not_eq_true'] at h
  cases k with
  | zero=>
   simp at hk;obtain⟨rfl,rfl,rfl⟩:=hk
   rcases h.1 with (h1|h1)|h1
   ·exact .inl h1
   ·exact .inr (.inl (UM h1))
   ·exact .inr (.inr h1)
  | succ k=>
   have:=ih h.2 (k:=k) (by simpa using hk)
   rwa [show j0+(k+1)=j0+1+k by omega]
theorem JZ{ks:List (Nat×Nat)}{c:Nat}(env:List (Nat×D)):P2 [] ks c env=true:=by
 induction env with
 | nil=>rfl
 | cons y r ih=>obtain⟨u,d⟩:=y;simp only[P2,ih,Bool.and_true];cases d<;>simp[D.albIn,d8]
theorem JQ{an:List Nat}{ks:List (Nat×Nat)}{c:Nat}(its:List It)(j:Nat):P1 [] an ks c its j=true:=by
 induction its generalizing j with
 | nil=>rfl
 | cons y r ih=>obtain⟨u,d,x⟩:=y;simp only[P1,ih,Bool.and_true];cases d<;>simp[D.albIn,d8]
structure ItG(σ:Sg)(ops:List Oper)(an:List Nat)(ks:List (Nat×Nat))(its:List It):Prop where
 len:its.length<=ops.length
 ts:IA σ.n (slots its)=true
 ref:HS an ks (slots its) its 0=true
 env:HT (slots its) σ.env=true
section
variable{listed:Array Bool}{ops:List Oper}{an:List Nat}{ks kk:List (Nat×Nat)}{its:List It}{Q:Exit->Sg->Prop}
def JP(σ:Sg)(an:List Nat)(ks:List (Nat×Nat))(its:List It)(listed:Array Bool)(τ:Sg):Prop:=
 ∀ u x,afts an (fun j=>listed.getD j false) ks σ.env its u=some x->τ.get u=some x
theorem DO(H:ItG σ ops an ks its)(hsize:listed.size=ops.length){i:Nat}(hi:i<its.length)(hun:listed.getD i true=false)
 (hanc:∀ j,j<ops.length->tb (nth an i) j=true->listed.getD j false=true) (hnot:∀ j,j<ops.length->tb (nth an j) i=true->listed.getD j false=false)
 {τ:Sg} (hinv:JP σ an ks its listed τ):∀ u x,facts an ks σ.env its i u=some x->τ.get u=some x:=by
 obtain⟨hnd,hlt⟩:=J4 H.ts;obtain⟨hin,hif⟩:=undone hun;intro u x hx;refine hinv u x ?_;unfold facts at hx;unfold afts
 cases hb:bads (fun k=>!(Nat.beq k i)&&!(tb (nth an k) i)&&!(cov an (fun j=>tb (nth an i) j) its u k)) ks u with
 | true=>rw[hb] at hx;cases hx
 | false=>
  rw[hb] at hx;simp only[cond_false] at hx
  have hb2:bads (fun j=>listed.getD j false&&!(cov an (fun j=>listed.getD j false) its u j)) ks u=false:=by
   rw[U8] at hb ⊢;intro k s hm hsu;have:=hb k s hm hsu
   cases hd:listed.getD k false with
   | false=>rfl
   | true=>
    have hk:k<ops.length:=by rw[<- hsize];exact o9 hd
    have hki:k≠i:=by rintro rfl;rw[hif] at hd;cases hd
    rw[nbeq hki] at this
    cases ht:tb (nth an k) i with
    | true=>rw[hnot k hk ht] at hd;cases hd
    | false=>
     rw[ht] at this;simp only[Bool.not_false,Bool.true_and,Bool.not_eq_false'] at this;obtain⟨j,dj,wj,h1,h2,h3,h4⟩:=R0 this;have hjl:j<ops.length:=Nat.lt_of_lt_of_le (List.getElem?_eq_some_iff.1 h2).1 H.len;rw[UW (g:=fun j=>listed.getD j false) h1 (hanc j hjl h3) h4];rfl
  rw[hb2];simp only[cond_false]
  rcases b8 its u with hu|⟨k,dk,wk,hk⟩
  ·rw[b9 hu] at hx ⊢;exact hx
  ·rw[n6 hnd hk] at hx ⊢;simp only[Nat.zero_add] at hx ⊢;have hkl:k<ops.length:=Nat.lt_of_lt_of_le (List.getElem?_eq_some_iff.1 hk).1 H.len
   cases h1:tb (nth an i) k with
   | true=>rw[h1] at hx;rw[hanc k hkl h1];exact hx
   | false=>
    rw[h1] at hx
    cases h2:tb (nth an k) i with
    | true=>rw[h2] at hx;rw[hnot k hkl h2];exact hx
    | false=>rw[h2] at hx;cases hx
theorem O1(H:ItG σ ops an ks its)(hsize:listed.size=ops.length){i t:Nat}{d:D}{wt:Bool}(hit:its[i]? = some ⟨t,d,wt⟩)(hun:listed.getD i true=false)
 (hnot:∀ j,j<ops.length->tb (nth an j) i=true->listed.getD j false=false) {ids:List Nat} (hE:P2 ids ks i σ.env=true) (hI:P1 ids an ks i its 0=true)
 {τ:Sg} (hinv:JP σ an ks its listed τ) (x:D) (hx:x=(bif wt then d else .tup [])) (τ2:Sg)
 (hg2:∀ u y,(∀ k s,(k,s)∈ks->s=u->k≠i)->τ.get u=some y->y.albIn ids=false->τ2.get u=some y):JP σ an ks its (listed.setIfInBounds i true) (τ2.set t x):=by
 obtain⟨hnd,hlt⟩:=J4 H.ts;obtain⟨hin,hif⟩:=undone hun;intro u y hy;unfold afts at hy
 cases hbd:bads (fun j=>(listed.setIfInBounds i true).getD j false&&!(cov an (fun j=>(listed.setIfInBounds i true).getD j false) its u j)) ks u with
 | true=>rw[hbd] at hy;cases hy
 | false=>
  rw[hbd] at hy;simp only[cond_false] at hy;rw[U8] at hbd;rw[m9]
  have hcov:u≠t->∀ k,cov an (fun j=>(listed.setIfInBounds i true).getD j false) its u k=true->cov an (fun j=>listed.getD j false) its u k=true/\k≠i:=by
   intro hut k hc;obtain⟨j,dj,wj,h1,h2,h3,h4⟩:=R0 hc
   have hji:i≠j:=by
    rintro rfl;rw[hit] at h2;cases h2;exact hut rfl
   rw[getD_set_ne false hji] at h3;refine⟨UW h1 h3 h4, ?_⟩;rintro rfl;have hjl:j<ops.length:=Nat.lt_of_lt_of_le (List.getElem?_eq_some_iff.1 h2).1 H.len;rw[hnot j hjl h4] at h3;cases h3
  have hki:u≠t->∀ k s,(k,s)∈ks->s=u->k≠i:=by
   rintro hut k s hm hsu rfl;have h1:=hbd k s hm hsu
   have h2:(listed.setIfInBounds k true).getD k false=true:=by simp[hin]
   rw[h2] at h1;simp only[Bool.true_and,Bool.not_eq_false'] at h1;exact(hcov hut k h1).2 rfl
  have hbd2:u≠t->bads (fun j=>listed.getD j false&&!(cov an (fun j=>listed.getD j false) its u j)) ks u=false:=by
   intro hut;rw[U8];intro k s hm hsu;have h1:=hbd k s hm hsu;have h2:=hki hut k s hm hsu;rw[getD_set_ne false (fun e=>h2 e.symm)] at h1
   cases hd:listed.getD k false with
   | false=>rfl
   | true=>
    rw[hd] at h1;simp only[Bool.true_and,Bool.not_eq_false'] at h1 ⊢;exact(hcov hut k h1).1
  by_cases hut:u=t
  ·subst hut;rw[n6 hnd hit] at hy
   have e:(listed.setIfInBounds i true).getD (0+i) false=true:=by simp[hin]
   rw[e] at hy;simp only[cond_true] at hy;simp only[if_true,hx]
   cases wt<;>exact hy
  ·have hki:=hki hut;have hbd2:=hbd2 hut;simp only[hut,if_false]
   have hold:afts an (fun j=>listed.getD j false) ks σ.env its u=some y/\y.rf≠some t/\y.albIn ids=false:=by
    unfold afts;rw[hbd2];simp only[cond_false]
    rcases b8 its u with hu|⟨k,dk,wk,hk⟩
    ·rw[b9 hu] at hy ⊢;exact⟨hy,XZ H.env hy (List.mem_of_getElem? (i:=i) (by rw[K8,hit];rfl)),(ZL hE hy).resolve_right fun h=>hki i u h rfl rfl⟩
    ·rw[n6 hnd hk] at hy ⊢;simp only[Nat.zero_add] at hy ⊢
     have hne:i≠k:=by
      rintro rfl;rw[hit] at hk;cases hk;exact hut rfl
     rw[getD_set_ne false hne] at hy;refine⟨hy, ?_⟩
     cases hd:listed.getD k false with
     | false=>
      rw[hd] at hy;exact⟨XZ H.env hy (List.mem_of_getElem? (i:=i) (by rw[K8,hit];rfl)),(ZL hE hy).resolve_right fun h=>hki i u h rfl rfl⟩
     | true=>
      rw[hd] at hy;simp only[cond_true] at hy
      cases wk with
      | false=>simp at hy;subst hy;simp[D.rf,D.albIn]
      | true=>
       simp at hy;subst hy;refine⟨fun hrf=>?_, ?_⟩
       ·have:=AI H.ref hk hrf (i:=i) (by rw[K8,hit];rfl);simp only[Nat.zero_add] at this
        rcases this with this|this
        ·rw[hnot k (by rw[<- hsize];exact o9 hd) this] at hd;cases hd
        ·exact hki i u this rfl rfl
       ·rcases BF hI hk with h|h|h
        ·exact h
        ·exact absurd rfl (hki i u h rfl)
        ·simp only[Nat.zero_add] at h;rw[hnot k (by rw[<- hsize];exact o9 hd) h] at hd;cases hd
   rw[hg2 u y hki (hinv u y hold.1) hold.2.2];simp only[Option.map_some,OW hold.2.1]
def w81(an:List Nat)(c i:Nat)(bx0 bx1 bxc:List (Nat×Bx)):List (Nat×Bx):=
 bif tb (nth an i) c then bx1 else bif tb (nth an c) i then bx0 else bxc
structure KnC(an:List Nat)(c i:Nat)(bx0 bx1 bxc:List (Nat×Bx))(τ:Sg):Prop where
 f:∀ id x,lk (w81 an c i bx0 bx1 bxc) id=some x->τ.box id=some x
 or:τ.bx=bx0∨τ.bx=bx1
instance(an:List Nat)(c i:Nat)(bx0 bx1 bxc:List (Nat×Bx))(τ:Sg):CoeFun (KnC an c i bx0 bx1 bxc τ) (fun _=>∀ id x,lk (w81 an c i bx0 bx1 bxc) id=some x->τ.box id=some x):=⟨KnC.f⟩
def u01(P:Program)(C:Ctx)(σ:Sg)(bx1:List (Nat×Bx))(c:Nat)(ids:List Nat)(an:List Nat)(ks:List (Nat×Nat))(its:List It)(o:Oper)(t:Nat)(d:D):Prop:=
 ∀ τ:Sg,τ.bx=σ.bx->τ.n=σ.n->t<τ.n->(∀ u x,facts an ks σ.env its c u=some x->τ.get u=some x) ->
  ∃ τ':Sg,OpS P C o τ (τ'.set t d)/\τ'.n=τ.n/\τ'.bx=bx1/\∀ u y,(∀ k s,(k,s)∈ks->s=u->k≠c)->τ.get u=some y->y.albIn ids=false->τ'.get u=some y
def SpX(P:Program)(C:Ctx)(σ:Sg)(c:Nat)(an:List Nat)(ks:List (Nat×Nat))(its:List It)(o:Oper)(Q:Exit->Sg->Prop):Prop:=
 ∀ τ:Sg,τ.bx=σ.bx->τ.n=σ.n->(∀ u x,facts an ks σ.env its c u=some x->τ.get u=some x)->x85 P C o τ Q
def AllC(P:Program)(C:Ctx)(Q:Exit->Sg->Prop)(σ:Sg)(bx1 bxc:List (Nat×Bx))(c:Nat)(ids:List Nat)(pan:Bool)(ops:List Oper)(an:List Nat)(ks kk:List (Nat×Nat))(its:List It):List Oper->List It->Nat->Prop
 | o::os,⟨t,d,wt⟩::r,i=>(bif Nat.beq i c then(o.guard=none/\wt=true/\bif pan then SpX P C σ c an ks its o Q else o.dst=some t/\u01 P C σ bx1 c ids an ks its o t d)
  else bif pan&&tb (nth an i) c then True
  else o.dst=some t/\Wt ops (facts an ks σ.env its i) o wt /\
  (wt=true->∀ τ:Sg,KnC an c i σ.bx bx1 bxc τ->t<τ.n->(∀ u x,facts an ks σ.env its i u=some x->τ.get u=some x)->OpS P C o τ ((P3 τ kk i).set t d))) /\
  AllC P C Q σ bx1 bxc c ids pan ops an ks kk its os r (i+1)
 | [],_::_,_=>False
 | _,[],_=>True
theorem AllC.at{bx1 bxc:List (Nat×Bx)}{c:Nat}{ids:List Nat}{pan:Bool}:∀ {os:List Oper} {r:List It} {i0:Nat},AllC P C Q σ bx1 bxc c ids pan ops an ks kk its os r i0->∀ {k:Nat} {t:Nat} {d:D} {wt:Bool},r[k]? = some ⟨t,d,wt⟩ ->
 ∃ o,os[k]? = some o/\(bif Nat.beq (i0+k) c then(o.guard=none/\wt=true/\bif pan then SpX P C σ c an ks its o Q else o.dst=some t/\u01 P C σ bx1 c ids an ks its o t d)
  else bif pan&&tb (nth an (i0+k)) c then True
  else o.dst=some t/\Wt ops (facts an ks σ.env its (i0+k)) o wt /\
  (wt=true->∀ τ:Sg,KnC an c (i0+k) σ.bx bx1 bxc τ->t<τ.n->(∀ u x,facts an ks σ.env its (i0+k) u=some x->τ.get u=some x)->OpS P C o τ ((P3 τ kk (i0+k)).set t d))):=by
 intro os r
 induction r generalizing os with
 | nil=>intro i0 _ k t d wt hk;simp at hk
 | cons y r ih=>
  intro i0 h k t d wt hk;obtain⟨t',d',w'⟩:=y
  cases os with
  | nil=>exact h.elim
  | cons o os=>
   cases k with
   | zero=>
    simp at hk;obtain⟨rfl,rfl,rfl⟩:=hk;exact⟨o,rfl,h.1⟩
   | succ k=>
    obtain⟨o',h1,h2⟩:=ih h.2 (k:=k) (by simpa using hk);rw[show i0+(k+1)=i0+1+k by omega];exact⟨o',by simpa using h1,h2⟩
theorem R5{o:Oper}(h:o.guard=none)(y:Nat->Option Bool):Region.wanted o y=true:=by
 unfold Region.wanted;rw[h]
def XO(c:Nat)(bx0 bx1:List (Nat×Bx))(listed:Array Bool):List (Nat×Bx):=bif listed.getD c false then bx1 else bx0
theorem LL{bx1 bxc:List (Nat×Bx)}{c:Nat}{pan:Bool}{ids:List Nat}(H:ItG σ ops an ks its)(hall:AllC P C Q σ bx1 bxc c ids pan ops an ks kk its ops its 0)(hsub:subs kk ks=true)
 (hE:P2 ids ks c σ.env=true) (hI:P1 ids an ks c its 0=true) (hclt:c<its.length)
 (hbc:∀ id x,lk bxc id=some x->lk σ.bx id=some x/\lk bx1 id=some x)
 (hsize:listed.size=ops.length) {i:Nat} {oi:Oper} (hi:i<its.length) (ho:ops[i]? = some oi) (hun:listed.getD i true=false)
 (hanc:∀ j,j<ops.length->tb (nth an i) j=true->listed.getD j false=true) (hnot:∀ j,j<ops.length->tb (nth an j) i=true->listed.getD j false=false)
 (hpc:pan=true->listed.getD c false=false)
 {τ:Sg} (hs:St C τ a w) (hn:τ.n=σ.n) (hb:τ.bx=XO c σ.bx bx1 listed) (hinv:JP σ an ks its listed τ) {K:Act->World->Prop}
 (hK:∀ a' w' τ',St C τ' a' w'->τ'.n=σ.n->τ'.bx=XO c σ.bx bx1 (listed.setIfInBounds i true)->JP σ an ks its (listed.setIfInBounds i true) τ'->(pan=true->i≠c)->K a' w') :
 Region.wanted oi (yielded ops.toArray a.tmps)=true/\oi.wpIn (Fx C) 3 P a w K (fun e a' w'=>∃ σ',St C σ' a' w'/\Q e σ')∨Region.wanted oi (yielded ops.toArray a.tmps)=false/\K (a.put oi.dst undef) w:=by
 obtain⟨hnd,hlt⟩:=J4 H.ts
 obtain⟨⟨t,d,wt⟩,hit⟩:∃ it,its[i]? = some it:=⟨its[i],List.getElem?_eq_getElem hi⟩
 obtain⟨o,ho',hcl⟩:=hall.at hit;rw[ho] at ho';cases ho';simp only[Nat.zero_add] at hcl;obtain⟨hin,hif⟩:=undone hun
 have hil:i<ops.length:=by rw[<- hsize];exact hin
 have hfact:=DO H hsize hi hun hanc hnot hinv
 have htn:t<τ.n:=by
  rw[hn];exact hlt t (List.mem_of_getElem? (i:=i) (by rw[K8,hit];rfl))
 by_cases hic':i=c
 ·subst hic';simp only[Nat.beq_refl,cond_true] at hcl;obtain⟨hg,rfl,hsp⟩:=hcl
  have hb0:τ.bx=σ.bx:=by rw[hb];unfold XO;rw[hif];rfl
  refine .inl ⟨R5 hg _, ?_⟩
  cases pan with
  | true=>
   exact hsp τ hb0 hn hfact a w hs _ _ fun e a' w' σ' hs' hq=>⟨σ',hs',hq⟩
  | false=>
   obtain⟨hdst,hsp⟩:=hsp;obtain⟨τ',h1,h2,h3,h4⟩:=hsp τ hb0 hn htn hfact;refine h1 a w hs _ _ fun a' w' hs'=>?_;refine hK a' w' _ hs' (h2.trans hn) ?_ (O1 H hsize hit hun hnot hE hI hinv d rfl τ' h4) (fun h=>by cases h);show τ'.bx=_;rw[h3];unfold XO
   have:(listed.setIfInBounds i true).getD i false=true:=by simp[hin]
   rw[this];rfl
 ·rw[nbeq hic'] at hcl;simp only[cond_false] at hcl
  have hbxn:XO c σ.bx bx1 (listed.setIfInBounds i true)=XO c σ.bx bx1 listed:=by
   unfold XO;rw[getD_set_ne false hic']
  have hcl2:(pan&&tb (nth an i) c)=false:=by
   cases pan with
   | false=>rfl
   | true=>
    cases ht:tb (nth an i) c with
    | false=>rfl
    | true=>
     have:=hanc c (Nat.lt_of_lt_of_le hclt H.len) ht;rw[hpc rfl] at this;cases this
  rw[hcl2] at hcl;simp only[cond_false] at hcl;obtain⟨hdst,hwt,hop⟩:=hcl;have hEi:P2 [] ks i σ.env=true:=JZ _;have hIi:∀ j,P1 [] an ks i its j=true:=fun j=>JQ _ j;rw[hwt.ok hs hfact];have hkn:=NJ τ kk i
  cases hwt2:wt with
  | false=>
   refine .inr ⟨rfl, ?_⟩;rw[hdst];exact hK _ _ _ (hs.unwanted htn) hn (hb.trans hbxn.symm) (O1 H hsize hit hun hnot hEi (hIi 0) hinv (.tup []) (by rw[hwt2];rfl) τ (fun u y _ h _=>h)) (fun _=>hic')
  | true=>
   refine .inl ⟨rfl,hop hwt2 τ ⟨fun id x hx=>?_,by rw[hb];unfold XO;cases listed.getD c false;exact .inl rfl;exact .inr rfl⟩ htn hfact a w hs _ _ fun a' w' hs'=>?_⟩
   ·simp only[Sg.box,hb]
    have hcl':c<ops.length:=(Nat.lt_of_lt_of_le hclt H.len)
    unfold w81 at hx;unfold XO
    cases h1:tb (nth an i) c with
    | true=>rw[h1] at hx;rw[hanc c hcl' h1];exact hx
    | false=>
     rw[h1] at hx
     cases h2:tb (nth an c) i with
     | true=>rw[h2] at hx;rw[hnot c hcl' h2];exact hx
     | false=>
      rw[h2] at hx
      cases hd:listed.getD c false with
      | true=>exact(hbc id x hx).2
      | false=>exact(hbc id x hx).1
   ·exact hK _ _ _ hs' (hkn.1.trans hn) (hkn.2.trans (hb.trans hbxn.symm)) (O1 H hsize hit hun hnot hEi (hIi 0) hinv d (by rw[hwt2];rfl) _ (fun u y hu hy _=>(UB (fun k s hm=>hu k s (MC hsub k s hm))).trans hy)) (fun _=>hic')
theorem LS{bx1 bxc:List (Nat×Bx)}{c:Nat}{pan:Bool}{ids:List Nat}(hA:KY ops an its.length=true)(H:ItG σ ops an ks its)(hall:AllC P C Q σ bx1 bxc c ids pan ops an ks kk its ops its 0)(hsub:subs kk ks=true)
 (hE0:P2 ids ks c σ.env=true) (hI0:P1 ids an ks c its 0=true) (hclt:c<its.length)
 (hbc:∀ id x,lk bxc id=some x->lk σ.bx id=some x/\lk bx1 id=some x)
 {live:List Nat} {env':List (Nat×D)} (hE:picks (afts an (fun _=>true) ks σ.env its) live=env')
 (hT:pan=false->TL P C Q (ops.drop its.length) ⟨σ.n,env',bx1⟩):∀ (fuel:Nat) (listed:Array Bool) (a:Act) (w:World) (τ:Sg),Cl ops listed->listed.toList.count false<=fuel ->
 (∀ j,its.length<=j->j<ops.length->listed.getD j true=false)->(pan=true->listed.getD c false=false)->St C τ a w->τ.n=σ.n->τ.bx=XO c σ.bx bx1 listed->JP σ an ks its listed τ ->
 wpAnyIn (Fx C) 3 P .any ops.toArray (fun e a' w'=>∃ σ',St C σ' a' w'/\Q e σ') fuel listed a w:=by
 have fin:∀ (listed:Array Bool) (a:Act) (w:World) (τ:Sg),(∀ j,j<its.length->listed.getD j false=true)->(pan=true->listed.getD c false=false)->St C τ a w->τ.n=σ.n->τ.bx=XO c σ.bx bx1 listed->JP σ an ks its listed τ ->
  pan=false/\St C ⟨σ.n,env',bx1⟩ a w:=by
  intro listed a w τ hall' hpc hs hn hb hinv;refine⟨?_, ?_⟩
  ·cases pan with
   | false=>rfl
   | true=>have:=hall' c hclt;rw[hpc rfl] at this;cases this
  ·refine hs.weaken hn.symm ?_ fun t d hd=>hinv t d ?_
   ·rw[hb];unfold XO;rw[hall' c hclt];rfl
   ·have:=A0 (f:=afts an (fun _=>true) ks σ.env its) (l:=live) (by rw[hE];exact hd);unfold afts at this ⊢
    cases hb:bads (fun k=>true&&!(cov an (fun _=>true) its t k)) ks t with
    | true=>rw[hb] at this;cases this
    | false=>
     rw[hb] at this;rw[s6 (fun j dj wj hj=>hall' j (List.getElem?_eq_some_iff.1 hj).1) hb];simp only[cond_false] at this ⊢
     rcases b8 its t with hu|⟨k,dk,wk,hk⟩
     ·rw[b9 hu] at this ⊢;exact this
     ·rw[n6 (J4 H.ts).1 hk] at this ⊢;simp only[Nat.zero_add] at this ⊢;rw[hall' k (List.getElem?_eq_some_iff.1 hk).1];exact this
 intro fuel
 induction fuel with
 | zero=>
  intro listed a w τ hc hf h2 hpc hs hn hb hinv;by_cases hall':∀ j,j<its.length->listed.getD j false=true
  ·obtain⟨hp,hs'⟩:=fin listed a w τ hall' hpc hs hn hb hinv;exact I0 hA _ its.length 0 listed a w ⟨σ.n,env',bx1⟩ rfl (Nat.le_refl _) H.len hc hf hall' h2 hs' (hT hp)
  ·exfalso;apply hall';intro j hj;have:=f7 (listed:=listed) (by omega) j
   have hjl:j<listed.size:=by rw[hc.size];have:=H.len;omega
   simp[hjl] at this ⊢;exact this
 | succ fuel ih=>
  intro listed a w τ hc hf h2 hpc hs hn hb hinv;by_cases hall':∀ j,j<its.length->listed.getD j false=true
  ·obtain⟨hp,hs'⟩:=fin listed a w τ hall' hpc hs hn hb hinv;exact I0 hA _ its.length (fuel+1) listed a w ⟨σ.n,env',bx1⟩ rfl (Nat.le_refl _) H.len hc hf hall' h2 hs' (hT hp)
  ·have hsome:∃ j,j<its.length/\listed.getD j true=false:=by
    rcases Classical.not_forall.1 hall' with ⟨j,hj⟩
    rcases Classical.not_imp.1 hj with ⟨hj1,hj2⟩
    refine⟨j,hj1, ?_⟩
    have hjl:j<listed.size:=by rw[hc.size];have:=H.len;omega
    simp[hjl] at hj2 ⊢;exact hj2
   have key:∀ n j,j=n->j<its.length->listed.getD j true=false->∃ k,k∈Region.ready .any ops.toArray listed:=by
    intro n
    induction n using Nat.strongRecOn with
    | _ n ihn=>
     intro j hjn hj hu;have hjl:j<ops.length:=Nat.lt_of_lt_of_le hj H.len;have ho:ops[j]? = some ops[j]:=List.getElem?_eq_getElem hjl;by_cases hr:∀ e∈ops[j].after,Region.binds .any e=true->listed.getD e.on false=true
     ·exact⟨j,mem_ready.2 ⟨hu,_,by simp,hr⟩⟩
     ·rcases Classical.not_forall.1 hr with ⟨e,he⟩
      rcases Classical.not_imp.1 he with ⟨he1,he2⟩
      rcases Classical.not_imp.1 he2 with ⟨he3,he4⟩
      have hlt:=(K9 hA ho).1 e he1 he3;refine ihn e.on (by omega) e.on rfl (by omega) ?_
      have hel:e.on<listed.size:=by rw[hc.size];omega
      simp[hel] at he4 ⊢;exact he4
   obtain⟨j0,hj0,hu0⟩:=hsome;refine⟨fun hr=>?_,fun i hi=>?_⟩
   ·obtain⟨k,hk⟩:=key j0 j0 rfl hj0 hu0;rw[hr] at hk;cases hk
   ·obtain⟨h3,oi,h4,h5⟩:=mem_ready.1 hi
    have ho:ops[i]? = some oi:=by simpa using h4
    have hil:i<ops.length:=(List.getElem?_eq_some_iff.1 ho).1
    have him:i<its.length:=by
     rcases Nat.lt_or_ge i its.length with h|h
     ·exact h
     ·exfalso;obtain⟨_,h9⟩:=K9 hA ho;have hj0l:j0<ops.length:=Nat.lt_of_lt_of_le hj0 H.len;obtain⟨h10,h11⟩:=h9 j0 hj0l;obtain⟨e,he,hb,h12⟩:=h10 (h11 h (by omega));have hd:=h5 e he hb
      have hkd:listed.getD j0 false=true:=by
       rcases h12 with rfl|h12
       ·exact hd
       ·exact hc.anc hA e.on (by rw[<- hc.size];exact o9 hd) hd j0 hj0l h12
      rw[(undone hu0).2] at hkd;cases hkd
    have hspc:=(K9 hA ho).2;have hif:=(undone h3).2
    have hanc:∀ j,j<ops.length->tb (nth an i) j=true->listed.getD j false=true:=by
     intro j hj ht;obtain⟨e,he,hb,h1⟩:=(hspc j hj).1 ht;have hd:=h5 e he hb
     rcases h1 with rfl|h1
     ·exact hd
     ·exact hc.anc hA e.on (by rw[<- hc.size];exact o9 hd) hd j hj h1
    have hnot:∀ j,j<ops.length->tb (nth an j) i=true->listed.getD j false=false:=by
     intro j hj ht
     cases hd:listed.getD j false with
     | false=>rfl
     | true=>have:=hc.anc hA j hj hd i hil ht;rw[hif] at this;cases this
    suffices hK:∀ a' w' τ',St C τ' a' w'->τ'.n=σ.n->τ'.bx=XO c σ.bx bx1 (listed.setIfInBounds i true)->JP σ an ks its (listed.setIfInBounds i true) τ'->(pan=true->i≠c)->wpAnyIn (Fx C) 3 P .any ops.toArray (fun e a' w'=>∃ σ',St C σ' a' w'/\Q e σ') fuel (listed.setIfInBounds i true) a' w' by
     unfold Go.wpOpIn;simp only[h4]
     rcases LL H hall hsub hE0 hI0 hclt hbc hc.size him ho h3 hanc hnot hpc hs hn hb hinv hK with ⟨e1,e2⟩|⟨e1,e2⟩
     ·simp only[e1,if_true];exact e2
     ·simp only[e1,Bool.false_eq_true,if_false];exact⟨fun _ _=>trivial,e2⟩
    intro a' w' τ' hs' hn' hb' hinv' hic';refine ih _ a' w' τ' (hc.set ho h5) (by have:=count_set h3;omega) (fun j hj hjl=>?_) (fun hp=>?_) hs' hn' hb' hinv'
    ·rw[getD_set_ne true (by omega)];exact h2 j hj hjl
    ·rw[getD_set_ne false (hic' hp)];exact hpc hp
theorem j48{id m n':Nat}{bx' bx1 bxc:List (Nat×Bx)}{c:Nat}{pan:Bool}{ids:List Nat}(hm:P.follows .mixedOrders=true)(hA0:KY ops an m=true)(hlen:its.length=m)
 (H:ItG σ ops an ks its) (hall:AllC P C Q σ bx1 bxc c ids pan ops an ks kk its ops its 0) (hsub:subs kk ks=true)
 (hE0:P2 ids ks c σ.env=true) (hI0:P1 ids an ks c its 0=true) (hclt:c<its.length)
 (hbc:∀ id x,lk bxc id=some x->lk σ.bx id=some x/\lk bx1 id=some x)
 {live:List Nat} {env':List (Nat×D)} (hE:picks (afts an (fun _=>true) ks σ.env its) live=env')
 (hb:bx1=bx') (hn:σ.n=n') (hT:pan=false->TL P C Q (ops.drop its.length) ⟨n',env',bx'⟩):W P C (.region id ops.toArray true) Q σ:=by
 intro a w hs;refine wpIn_region_any hm ?_
 have hgd:∀ k,(Array.replicate ops.toArray.size false).getD k false=false:=by
  intro k;simp only[Array.getD_eq_getD_getElem?,Array.getElem?_replicate]
  split<;>rfl
 have hc:Cl ops (Array.replicate ops.toArray.size false):=⟨by simp,fun i o _ hd=>by rw[hgd] at hd;cases hd⟩
 have hA:KY ops an its.length=true:=by rw[hlen];exact hA0
 subst hb;subst hn;refine LS hA H hall hsub hE0 hI0 hclt hbc hE hT _ _ a _ σ hc ?_ ?_ (fun _=>hgd c) (hs.ext (Ext.drew w)) rfl ?_ (fun u x hx=>?_)
 ·simp
 ·intro j _ hj;simp[hj]
 ·unfold XO;rw[hgd];rfl
 ·unfold afts at hx;generalize hb:bads _ ks u=bb at hx
  cases bb with
  | true=>cases hx
  | false=>
   simp only[cond_false] at hx
   rcases b8 its u with hu|⟨k,dk,wk,hk⟩
   ·rw[b9 hu] at hx;exact hx
   ·rw[n6 (J4 H.ts).1 hk,hgd] at hx;exact hx
theorem VC{id m:Nat}(c:Nat)(hm:P.follows .mixedOrders=true)(hA0:KY ops an m=true)(hlen:its.length=m)
 (H:ItG σ ops an ks its) (hall:AllC P C Q σ σ.bx σ.bx c [] true ops an ks kk its ops its 0) (hsub:subs kk ks=true)
 (hclt:c<its.length):W P C (.region id ops.toArray true) Q σ:=
 j48 (pan:=true) (ids:=[]) (bxc:=σ.bx) (bx1:=σ.bx) (live:=[]) hm hA0 hlen H hall hsub (JZ _) (JQ _ _) hclt (fun _ _ h=>⟨h,h⟩) rfl rfl rfl (fun h=>by cases h)
end
end Go.Sx

namespace Go.Sx
variable{pos:String}{aft:Array Edge}{g:Option (Nat×Bool)}
variable{P:Program}{C:Ctx}{σ σ' σ1:Sg}{a:Act}{w w':World}{ρ:Nat->Nat}{Fe Fe' Fb:Nat->List Nat}
class MiT(P:Program)(t:TypeId)(u:outParam TypeDesc):Prop where
 d:P.underlying t=some u
 n:(match u with | .interface _=>false|_=>true)=true
theorem WG{t:TypeId}{u:TypeDesc}[h:MiT P t u](v:Value)(w:World):(Instr.makeInterface t v).run P w=.ok (.iface t v) w:=by
 have h1:=h.d;have h2:=h.n;unfold Instr.makeInterface;simp only[Sem.run_bind,run_underlying h1,Result.andThen_ok]
 cases u<;>first|rfl|(simp at h2)
theorem R.mkifc{x:Operand}{t ty:Nat}{u:TypeDesc}[hT:MiT P ty u]{d:D}{rt:TypeId}
 (h:ev C.gl σ x=some d) (hp:d.pur=true) (ha:d.isAgg=false) (ht:t<σ.n):OpS P C ⟨some t,.makeInterface ty x,rt,pos,aft,g⟩ σ (σ.set t (.ifc ty d)):=by
 refine OpS.value fun a w ⟨ρ,Fe,Fb,st⟩=>?_;obtain⟨F,hv,_⟩:=m5 st h (m8 hp);have hF:=hv.pur hp;rw[hF] at hv;refine⟨.iface ty (a.eval x),w, ?_,st.put ht rfl ?_⟩
 ·unfold execOp;simp[WG]
 unfold VR at hv ⊢;rw[ha] at hv;exact .ifc ty d _ ha hv
def k90(ch:List PanicEntry):Prop:=∃ t x,ch=[{ v:=.iface t x,recovered:=false }]
def q43(e:Exit):Prop:=∃ ch,e=.panic ch/\k90 ch
theorem R.panic{s ty:Nat}{d:D}{rt:TypeId}{E:Exit->Sg->Prop}(h:σ.get s=some (.ifc ty d))(hE:∀ e,q43 e->E e σ) :
 x85 P C ⟨none,.panic (.tmp s),rt,pos,aft,g⟩ σ E:=by
 intro a w ⟨ρ,Fe,Fb,st⟩ K Q hK;obtain⟨v,hv,hr⟩:=(z9 rfl).1 (st.env _ _ h);simp only[VR,D.isAgg,Bool.false_eq_true,if_false] at hr;generalize hF:Fe s=F at hr
 cases hr with
 | ifc _ _ x ha hr=>
 refine⟨fun _ _=>trivial, ?_⟩
 have h0:(execOp a.eval ⟨none,.panic (.tmp s),rt,pos,aft,g⟩).run P w=.halt (.panic (.iface ty x)) w:=by
  unfold execOp;simp only[j8 hv,Sem.run_bind,run_panic_iface];rfl
 have h1:((⟨none,.panic (.tmp s),rt,pos,aft,g⟩:Oper).semAt (Fx C).round a.eval).run P w=.halt (.panic (.iface ty x)) w:=by
  cases hro:(Fx C).round with
  | none=>exact h0
  | some l=>rw[Oper.semAt_some l a.eval _ (fun c hc=>by cases hc)];exact h0
 rw[h1,Oper.uponIn_panic];exact hK _ _ _ _ ⟨ρ,Fe,Fb,st⟩ (hE _ ⟨_,rfl,_,_,rfl⟩)
def D.dds(n:Nat):D:=.agg (List.replicate n .dead)
theorem T8(n:Nat):Z5 (List.replicate n .dead)=n:=by
 induction n with
 | zero=>rfl
 | succ n ih=>simp[List.replicate_succ,ih,D.sz];omega
theorem WV(n k:Nat)(h:k<=n):offk (List.replicate n .dead) k=k:=by
 unfold offk;rw[List.take_replicate,Nat.min_eq_left h,T8]
theorem Rc.dds{G L G' L':Nat->Prop}{ρ':Nat->Nat}{d:D}{cs:List Value}{F:List Nat}(h:Rc w ρ G L true d cs F):Rc w' ρ' G' L' true (D.dds d.sz) cs []:=by
 have hl:=h.len
 have:=Rc.agg (w:=w') (ρ:=ρ') (G:=G') (L:=L') (p:=true) (List.replicate d.sz .dead) cs (fun _=>[]) (by rw[T8];exact hl) (fun k hk=>by
  have hk':k<d.sz:=by simpa using hk
  rw[WV _ _ (by omega)];simp only[List.getElem_replicate,D.sz];rw[List.drop_eq_getElem_cons (by omega),List.take_succ_cons,List.take_zero]
  exact .dead _ (h.one _ (List.getElem_mem _)))
 rwa [EA] at this
def U0:List (Nat×Bx)->List (Nat×Bx)
 | []=>[]
 | (k,.var d)::r=>(k,.var (D.dds d.sz))::U0 r
 | (k,x)::r=>(k,x)::U0 r
def BU:List (Nat×Bx)->Bool
 | []=>true
 | (_,.var _)::r=>BU r
 | _=>false
theorem PZ{l:List (Nat×Bx)}(hv:BU l=true)(u:Nat):(∀ x,lk l u=some x->∃ d,x=.var d/\lk (U0 l) u=some (.var (D.dds d.sz)))/\(lk l u=none->lk (U0 l) u=none):=by
 induction l with
 | nil=>exact⟨fun x h=>(by cases h),fun _=>rfl⟩
 | cons y r ih=>
  obtain⟨k,b⟩:=y
  cases b with
  | var d=>
   simp only[BU] at hv;simp only[U0,y0];by_cases hk:k=u
   ·subst hk;simp only[if_true];exact⟨fun x hx=>(by cases hx;exact⟨d,rfl,rfl⟩),fun h=>(by cases h)⟩
   ·simp only[hk,if_false];exact ih hv
  | _=>simp[BU] at hv
theorem YB{l:List (Nat×Bx)}(hv:BU l=true)(u:Nat):(lk (U0 l) u).isSome=(lk l u).isSome:=by
 obtain⟨h1,h2⟩:=PZ hv u
 cases h:lk l u with
 | none=>rw[h2 h]
 | some x=>obtain⟨d,_,h3⟩:=h1 x h;rw[h3];rfl
theorem S3(l:List (Nat×Bx)):(U0 l).map Prod.fst=l.map Prod.fst:=by
 induction l with
 | nil=>rfl
 | cons y r ih=>obtain⟨k,b⟩:=y;cases b<;>simp[U0,ih]
theorem WB(m:Nat->Nat)(n:Nat):(D.dds n).ren m=D.dds n:=by
 unfold D.dds;simp only[D.ren,O6,List.map_replicate]
theorem JT(m:Nat->Nat)(l:List (Nat×Bx)):v6 m (U0 l)=U0 (v6 m l):=by
 induction l with
 | nil=>rfl
 | cons y r ih=>
  obtain⟨k,b⟩:=y
  cases b with
  | var d=>simp[U0,v6,Bx.ren,ih,WB,m6]
  | _=>simp[U0,v6,Bx.ren,ih]
def FnX(P:Program)(gl:List (Nat×D))(f:FuncId)(ds:List D)(bx:List (Nat×Bx)):Prop:=
 ∀ (w:World) (G:Nat->Prop) (ρ:Nat->Nat) (Fb:Nat->List Nat) (vs:List Value),
  (∀ g d,(g,d)∈gl->G g/\∃ cs e fz,w.heap[g]? = some (.cells cs e fz)/\Rc w (fun x=>x) (fun _=>False) (fun _=>False) false d cs.toList []) ->
  (∀ b,G b->b<w.heap.size) ->
  vs.length=ds.length->(∀ k (h:k<ds.length),VR w ρ G (fun i=>(lk bx i).isSome=true) ds[k] (vs.getD k undef) [])->Hand bx w ρ G Fb ->
  Calls P f vs.toArray w (fun e w'=>∃ ch ρ' Fb',e=.panicked ch/\k90 ch/\ExtO (fun b=>∃ id,b∈Fb id) w w'/\(∀ id,(lk bx id).isSome=true->ρ' id=ρ id) /\
   (∀ b,(∃ id,b∈Fb' id)->w.heap.size<=b∨∃ id,b∈Fb id) /\
   Hand (U0 bx) w' ρ' (fun b=>(G b∨w.heap.size<=b∨∃ id,b∈Fb id)/\¬ ∃ id,b∈Fb' id) Fb')
def SzB(σ:Sg):List (Nat×Bx)->Prop
 | []=>True
 | (k,.var d)::r=>(∃ d',σ.box k=some (.var d')/\d'.sz=d.sz)/\SzB σ r
 | _=>False
theorem VP{l:List (Nat×Bx)}(h:SzB σ l){k:Nat}{x:Bx}(hk:lk l k=some x):∃ d d',x=.var d/\σ.box k=some (.var d')/\d'.sz=d.sz:=by
 induction l with
 | nil=>cases hk
 | cons y r ih=>
  obtain⟨j,b⟩:=y
  cases b with
  | var d=>
   rw[y0] at hk;by_cases hj:j=k
   ·subst hj;simp only[if_true,Option.some.injEq] at hk;obtain⟨d',h1,h2⟩:=h.1;exact⟨d,d',hk.symm,h1,h2⟩
   ·simp only[hj,if_false] at hk;exact ih h.2 hk
  | _=>exact h.elim
theorem SzB.vars{l:List (Nat×Bx)}(h:SzB σ l):BU l=true:=by
 induction l with
 | nil=>rfl
 | cons y r ih=>
  obtain⟨j,b⟩:=y
  cases b with
  | var d=>exact ih h.2
  | _=>exact h.elim
def k43(bx:List (Nat×Bx))(e:Exit)(σ:Sg):Prop:=q43 e/\SzB σ bx
theorem FnX.of{gl:List (Nat×D)}{f:FuncId}{fn:Func}{c:Code}{ds:List D}{bx:List (Nat×Bx)}{n:Nat}(hf:P.funcs[f]? = some fn)(hb:fn.body=some c)(hnn:fn.ntmps=n)
 (hd:ds.all (fun d=>!d.isRef)=true) (hn:ds.length<=n)
 (h:∀ C:Ctx,C.gl=gl->(∀ id b,C.pin id=some b->T2 (bx.map Prod.fst) id=true)->W P C c (k43 bx) ⟨n,ini 0 ds,bx⟩):FnX P gl f ds bx:=by
 subst hnn;intro w G ρ0 Fb0 vs hgl hGlt hl hv hand;refine calls_of_wp hf hb ?_
 let C:Ctx:=⟨w,fun b=>b<w.heap.size/\¬ ∃ id,b∈Fb0 id,fun b=>G b∨w.heap.size<=b∨∃ id,b∈Fb0 id,gl,none,fun id=>if(lk bx id).isSome then some (ρ0 id) else none,[]⟩
 have hget:∀ t d,(⟨fn.ntmps,ini 0 ds,bx⟩:Sg).get t=some d->∃ h:t<ds.length,ds[t]=d:=by
  intro t d hd;simp only[Sg.get,DG,Nat.zero_le,if_true,Nat.sub_zero] at hd;obtain⟨h,e⟩:=List.getElem?_eq_some_iff.1 hd;exact⟨h,e⟩
 have hown:∀ b,own (fun _=>[]) Fb0 b->∃ id,b∈Fb0 id:=by
  rintro b (⟨_,h⟩|h)
  ·cases h
  ·exact h
 have hFlt:∀ id b,b∈Fb0 id->b<w.heap.size:=fun id b hb=>by
  cases hx:lk bx id with
  | none=>rw[hand.boxN id hx] at hb;cases hb
  | some x=>exact(hand.box id x hx).lt b hb
 have hG2:∀ b,G b->gd C (fun _=>[]) Fb0 b:=fun b hb=>⟨.inl hb,fun ho=>by obtain⟨id,hid⟩:=hown b ho;exact hand.out id b hid hb⟩
 have hpin0:∀ id b,C.pin id=some b->ρ0 id=b/\(lk bx id).isSome=true:=fun id b hp=>by
  by_cases hx:(lk bx id).isSome=true
  ·simp only[C,hx,if_true,Option.some.injEq] at hp;exact⟨hp,hx⟩
  ·simp[C,hx] at hp
 have st:StW C ⟨fn.ntmps,ini 0 ds,bx⟩ { tmps:=vs.toArray++Array.replicate (fn.ntmps-vs.toArray.size) undef,defers:=[] } w ρ0 (fun _=>[]) Fb0:=by
  refine⟨?_,rfl,(fun id b hp=>hpin0 id b hp), ?_,fun _ _=>rfl, ?_,hand.boxN,fun _=>List.nodup_nil,hand.nodB,(fun _ _ _ _ h=>by cases h),(fun _ _ _ h=>by cases h),hand.dBB,fun b hb hc=>hc.2 (hown b hb), ?_,rfl,⟨rfl,Nat.le_refl _⟩,rfl,Nat.le_refl _, ?_,fun b hb=>.inr (.inl hb),fun b hb=>.inr (.inr (hown b hb))⟩
  ·simp[hl];omega
  ·intro t d hd';obtain⟨ht,rfl⟩:=hget t d hd'
   have hr:ds[t].isRef=false:=by
    have:=List.all_eq_true.1 hd ds[t] (List.getElem_mem ht);simpa using this
   refine(z9 hr).2 ⟨vs.getD t undef, ?_,(hv t ht).mono (fun _ _ _=>rfl) (fun b hb _=>hG2 b hb) (fun id hid=>⟨hid,rfl⟩)⟩
   have htv:t<vs.length:=by omega
   rw[Array.getElem?_append_left (by simpa using htv)];simp[htv]
  ·intro id x hx;exact(hand.box id x hx).mono (fun _ _ _=>rfl) (fun b hb _=>hG2 b hb) (fun id hid=>⟨hid,rfl⟩)
  ·intro b hb;exact⟨rfl,hb.1⟩
  ·intro g d hg;obtain⟨h1,cs,e,fz,h2,h3⟩:=hgl g d hg;exact⟨⟨(Array.getElem?_eq_some_iff.1 h2).1,fun⟨id,hid⟩=>hand.out id g hid h1⟩,.inl h1,cs,e,fz,h2,h3⟩
 refine Go.Code.wp_mono ?_ (wpIn_wide.1 (h C rfl (fun id b hp=>EQ (hpin0 id b hp).2) _ w ⟨_,_,_,st⟩));rintro e a' w' ⟨σ',⟨ρ,Fe,Fb,st'⟩,⟨ch,rfl,hch⟩,hsz⟩;have hvar:=hsz.vars;have hρ:∀ id,(lk bx id).isSome=true->ρ id=ρ0 id:=fun id hx=>(st'.pin id (ρ0 id) (by simp[C,hx])).1
 let Fb':Nat->List Nat:=fun id=>if(lk bx id).isSome then[ρ id] else[]
 have hsub:∀ id,∀ b∈Fb' id,b∈Fb id/\(lk bx id).isSome=true:=fun id b hb=>by
  by_cases hx:(lk bx id).isSome=true
  ·simp only[Fb',hx,if_true,List.mem_singleton] at hb;subst hb;obtain⟨x,hx'⟩:=Option.isSome_iff_exists.1 hx;obtain⟨d,d',_,h2,_⟩:=VP hsz hx';obtain⟨cs,e,F',q1,q2,q3⟩:=st'.bx id _ h2;exact⟨by rw[q3];simp,hx⟩
  ·simp[Fb',hx] at hb
 have hnew:∀ b,own Fe Fb b->w.heap.size<=b∨∃ id,b∈Fb0 id:=fun b hb=>by
  by_cases hbl:w.heap.size<=b
  ·exact .inl hbl
  ·right;by_cases hx:∃ id,b∈Fb0 id
   ·exact hx
   ·exact absurd ⟨by omega,hx⟩ (st'.new b hb)
 have hext:ExtO (fun b=>∃ id,b∈Fb0 id) w w':=⟨st'.os,⟨st'.tape.tp,st'.tape.dr⟩,st'.output,st'.grown,fun b hb hn=>(st'.kept b ⟨hb,hn⟩).1⟩
 refine⟨st'.defs,ch,ρ,Fb',rfl,hch,hext,hρ,fun b ⟨id,hid⟩=>hnew b (.inr ⟨id,(hsub id b hid).1⟩),fun id x hx=>?_,fun id hx=>?_,fun id=>?_,fun id id' hne b hb hb'=>st'.dBB id id' hne b (hsub id b hb).1 (hsub id' b hb').1,fun id b hb hc=>hc.2 ⟨id,hb⟩⟩
 ·have hs:(lk bx id).isSome=true:=by rw[<- YB hvar,hx];rfl
  obtain⟨y,hy⟩:=Option.isSome_iff_exists.1 hs;obtain⟨d,hyd,hy2⟩:=(PZ hvar id).1 y hy;rw[hx] at hy2;cases hy2;obtain⟨d1,d',h1,h2,h3⟩:=VP hsz hy;rw[hyd] at h1;cases h1;obtain⟨cs,e,F',q1,q2,q3⟩:=st'.bx id _ h2;refine⟨cs,e,[],q1, ?_,by simp[Fb',hs]⟩;rw[<- h3];exact q2.dds
 ·have hs:(lk bx id).isSome=false:=by rw[<- YB hvar,hx];rfl
  simp[Fb',hs]
 ·show(if(lk bx id).isSome then[ρ id] else[]).Nodup
  split<;>simp
theorem R.callX{f:FuncId}[CaT P f]{t:Option Nat}{args:List Operand}{tys:Array TypeId}{rt:TypeId}{gl:List (Nat×D)}{ds:List D}{bx cx:List (Nat×Bx)}{E:Exit->Sg->Prop}
 (ml:List (Nat×Nat)) (hC:C.gl=gl) (hF:FnX P gl f ds bx) (ha:EvB C.gl σ (mlk ml) (bx.map Prod.fst) args ds)
 (hcx:v6 (mlk ml) bx=cx) (hlk:KB σ.bx cx) (hob:L3 (bx.map Prod.fst) bx) (hinj:ED (mlk ml) (bx.map Prod.fst)=true)
 (hE:∀ e,q43 e->E e ⟨σ.n,[],H1 (U0 cx) σ.bx⟩) :
 x85 P C ⟨t,.call { callee:=.value (.func f),args:=args.toArray,argTypes:=tys },rt,pos,aft,g⟩ σ E:=by
 subst hC;subst hcx;intro a w ⟨ρ,Fe,Fb,st⟩ K Q hK;refine J1 (V0 a w) (by simp) ?_;rw[Oper.uponIn_enter];obtain⟨hhand,hback⟩:=st.callB (m:=mlk ml) (bx':=U0 bx) (nw:=[]) hlk hob (S3 bx) rfl (by simpa [S3] using hinj)
 have hmem:∀ i,d8 (bx.map Prod.fst) i=true->(lk bx i).isSome=true:=fun i hi=>by
  rw[X7];simp only[d8,List.any_eq_true] at hi;obtain⟨j,hj,he⟩:=hi;rw[Nat.eq_of_beq_eq_true he];exact hj
 have hc:=hF w (fun b=>gd C Fe Fb b/\b<w.heap.size) (fun i=>ρ (mlk ml i)) (fun i=>if(lk bx i).isSome then Fb (mlk ml i) else[]) (args.map a.eval)
  (fun g d hg=>by obtain⟨h1,h2⟩:=YD st g d hg;obtain⟨cs,e,fz,h3,h4⟩:=h2;exact⟨⟨h1,(Array.getElem?_eq_some_iff.1 h3).1⟩,cs,e,fz,h3,h4⟩) (fun b hb=>hb.2) (by simp[ha.len])
  (fun k hk=>(ha.ok st k hk).mono (fun _ _ _=>rfl) (fun b hb hl=>⟨hb,hl⟩) (fun i hi=>⟨hmem i hi.1,rfl⟩))
  ⟨fun id x hx=>(hhand.box id x hx).mono (fun _ _ _=>rfl) (fun b hb hl=>⟨hb,hl⟩) (fun i hi=>⟨hi,rfl⟩),hhand.boxN,hhand.nodB,hhand.dBB,fun id b hb hc=>hhand.out id b hb hc.1⟩
 simp only[List.map_toArray];refine⟨(fun h=>by cases h),(C5 (Calls.mono hc ?_))⟩;rintro e w' ⟨ch,ρ',Fb',rfl,hch,hext,hρ',hsrc,hand⟩
 have hGG:∀ b,(((gd C Fe Fb b/\b<w.heap.size)∨w.heap.size<=b∨∃ id,b∈(if(lk bx id).isSome then Fb (mlk ml id) else[]))/\¬ ∃ id,b∈Fb' id) ->
  ((gd C Fe Fb b∨w.heap.size<=b∨∃ id,b∈(if(lk bx id).isSome then Fb (mlk ml id) else[]))/\b∉([]:List Nat)/\¬ ∃ id,b∈Fb' id):=fun b hb=>⟨hb.1.imp (fun h=>h.1) (fun h=>h),by simp,hb.2⟩
 obtain⟨ρ2,Fb2,st2,_⟩:=hback w' [] ρ' Fb' hext hρ' List.nodup_nil (fun b hb=>hsrc b (hb.resolve_left (by simp))) (fun _ _ h=>by cases h) (fun _ h=>by cases h)
  ⟨fun id x hx=>(hand.box id x hx).mono (fun _ _ _=>rfl) (fun b hb _=>hGG b hb) (fun i hi=>⟨hi,rfl⟩),hand.boxN,hand.nodB,hand.dBB,fun id b hb hc=>hc.2.2 ⟨id,hb⟩⟩
 have hless:C.less []=C:=by
  unfold Ctx.less;cases C;simp
 rw[hless] at st2;refine hK _ _ _ ⟨σ.n,[],H1 (U0 (v6 (mlk ml) bx)) σ.bx⟩ (St.weaken ⟨ρ2,Fe,Fb2,st2⟩ rfl ?_ (fun t d h=>by cases h)) (hE _ ⟨_,rfl,hch⟩);simp[JT,v6]
end Go.Sx

namespace Go.Sx
variable{pos:String}{aft:Array Edge}{g:Option (Nat×Bool)}
variable{P:Program}{C:Ctx}{σ σ' σ1:Sg}{a:Act}{w w':World}{ρ:Nat->Nat}{Fe Fe' Fb:Nat->List Nat}
section
variable{ops:List Oper}{an:List Nat}{ks kk:List (Nat×Nat)}{its:List It}{Q:Exit->Sg->Prop}
theorem i4{id:Nat}{d:D}(h:d.albIn [id]=false):M9 id d=d:=by
 rcases JL id d with ⟨h1,_⟩|⟨_,off,path,rfl⟩
 ·exact h1
 ·simp[D.albIn,d8] at h
theorem IJ{d:D}:∀ (ids:List Nat) (l:List (Nat×D)) (u:Nat),lk l u=some d->d.albIn ids=false->lk (A9 ids l) u=some d:=by
 intro ids
 induction ids with
 | nil=>intro l u h _;exact h
 | cons id r ih=>
  intro l u h ha
  have h1:d.albIn [id]=false/\d.albIn r=false:=by
   cases d<;>simp_all [D.albIn,d8]
  refine ih _ _ ?_ h1.2;rw[ZS,h,Option.map_some,i4 h1.1]
theorem PS{c:Nat}{f:FuncId}[CaT P f]{t:Option Nat}{args:List Operand}{tys:Array TypeId}{rt:TypeId}{gl:List (Nat×D)}{ds:List D}{bx cx:List (Nat×Bx)}
 (ml:List (Nat×Nat)) (hC:C.gl=gl) (hF:FnX P gl f ds bx) (ha:∀ τ:Sg,(∀ u x,facts an ks σ.env its c u=some x->τ.get u=some x)->EvB C.gl τ (mlk ml) (bx.map Prod.fst) args ds)
 (hcx:v6 (mlk ml) bx=cx) (hlk:KB σ.bx cx) (hob:L3 (bx.map Prod.fst) bx) (hinj:ED (mlk ml) (bx.map Prod.fst)=true)
 (hE:∀ e,q43 e->Q e ⟨σ.n,[],H1 (U0 cx) σ.bx⟩) :
 SpX P C σ c an ks its ⟨t,.call { callee:=.value (.func f),args:=args.toArray,argTypes:=tys },rt,pos,aft,g⟩ Q:=by
 intro τ hτb hτn hf;refine R.callX ml hC hF (ha τ hf) hcx (by rw[hτb];exact hlk) hob hinj ?_;rw[hτn,hτb];exact hE
def TX(P:Program)(C:Ctx)(Q:Exit->Sg->Prop):List Oper->Sg->Prop
 | [],_=>False
 | o::r,σ=>o.guard=none/\((∃ σ',OpS P C o σ σ'/\TX P C Q r σ')∨x85 P C o σ Q)
theorem TX.wpList{l:List Oper}{ops:Array Oper}(h:TX P C Q l σ):WL P C ops l Q σ:=by
 induction l generalizing σ with
 | nil=>exact h.elim
 | cons o l ih=>
  obtain⟨h1,⟨σ',h2,h3⟩|h2⟩:=h
  ·exact WL.cons h1 h2 (ih h3)
  ·exact k33 h1 h2
variable{listed:Array Bool}
theorem LZ{n:Nat}(hn:ops.length<=n)(H:ItOk P C σ ops (G8 n 0) ks kk its){live:List Nat}{env':List (Nat×D)}(hE:picks (afts (G8 n 0) (fun _=>true) ks σ.env its) live=env')
 (hT:WL P C ops.toArray (ops.drop its.length) Q ⟨σ.n,env',σ.bx⟩):∀ (l:List Oper) (k:Nat) (listed:Array Bool) (a:Act) (w:World) (τ:Sg),ops.drop k=l->k<=its.length->listed.size=ops.length ->
 (∀ j,j<k->listed.getD j false=true)->(∀ j,k<=j->j<ops.length->listed.getD j true=false)->St C τ a w->CJ σ (G8 n 0) ks its listed τ ->
 wpListIn (Fx C) 3 P ops.toArray (fun e a' w'=>∃ σ',St C σ' a' w'/\Q e σ') l a w:=by
 intro l
 have fin:∀ (listed:Array Bool) (τ:Sg) (a:Act) (w:World),(∀ j,j<its.length->listed.getD j false=true)->St C τ a w->CJ σ (G8 n 0) ks its listed τ->St C ⟨σ.n,env',σ.bx⟩ a w:=by
  intro listed τ a w hall hs hinv;refine hs.weaken hinv.1.symm hinv.2.1.symm fun t d hd=>hinv.2.2 t d ?_;have:=A0 (f:=afts (G8 n 0) (fun _=>true) ks σ.env its) (l:=live) (by rw[hE];exact hd);unfold afts at this ⊢
  cases hb:bads (fun k=>true&&!(cov (G8 n 0) (fun _=>true) its t k)) ks t with
  | true=>rw[hb] at this;cases this
  | false=>
   rw[hb] at this;rw[s6 (fun j dj wj hj=>hall j (List.getElem?_eq_some_iff.1 hj).1) hb];simp only[cond_false] at this ⊢
   rcases b8 its t with hu|⟨k,dk,wk,hk⟩
   ·rw[b9 hu] at this ⊢;exact this
   ·rw[n6 (J4 H.ts).1 hk] at this ⊢;simp only[Nat.zero_add] at this ⊢;rw[hall k (List.getElem?_eq_some_iff.1 hk).1];exact this
 induction l with
 | nil=>
  intro k listed a w τ hl hk hsz h1 h2 hs hinv
  have hkl:ops.length<=k:=by
   have:=congrArg List.length hl;simp at this;omega
  have hke:k=its.length:=by have:=H.len;omega
  subst hke;rw[hl] at hT;exact hT a w (fin listed τ a w h1 hs hinv)
 | cons o l ih=>
  intro k listed a w τ hl hk hsz h1 h2 hs hinv;by_cases hke:k=its.length
  ·subst hke;rw[<- hl];exact hT a w (fin listed τ a w h1 hs hinv)
  ·have hki:k<its.length:=by omega
   have hkl:k<ops.length:=Nat.lt_of_lt_of_le hki H.len;have hd:=List.drop_eq_getElem_cons hkl;rw[hd] at hl;obtain⟨ho,hl'⟩:=List.cons.inj hl
   have ho':ops[k]? = some o:=by rw[List.getElem?_eq_getElem hkl,ho]
   have hun:=h2 k (Nat.le_refl _) hkl
   have hK:∀ a' w' τ',St C τ' a' w'->CJ σ (G8 n 0) ks its (listed.setIfInBounds k true) τ'->wpListIn (Fx C) 3 P ops.toArray (fun e a' w'=>∃ σ',St C σ' a' w'/\Q e σ') l a' w':=by
    intro a' w' τ' hs' hinv';refine ih (k+1) _ a' w' τ' hl' (by omega) (by simp[hsz]) (fun j hj=>?_) (fun j hj hjl=>?_) hs' hinv'
    ·by_cases hjk:k=j
     ·subst hjk;simp[hsz,hkl]
     ·rw[getD_set_ne false hjk];exact h1 j (by omega)
    ·rw[getD_set_ne true (by omega)];exact h2 j (by omega) hjl
   have hst:=UL H hsz hki ho' hun (fun j hj ht=>h1 j (S0.1 ht).1) (fun j hj ht=>by
    have:=(S0.1 ht).1
    exact(undone (h2 j (by omega) hj)).2) hs hinv hK (Q':=fun e a' w'=>∃ σ',St C σ' a' w'/\Q e σ')
   simp only[wpListIn]
   rcases hst with ⟨e1,e2⟩|⟨e1,e2⟩
   ·simp only[e1,if_true];exact e2
   ·simp only[e1,Bool.false_eq_true,if_false];exact⟨fun _ _=>trivial,e2⟩
theorem g8{id n n':Nat}{bx':List (Nat×Bx)}(hn:ops.length<=n)(H:ItOk P C σ ops (G8 n 0) ks kk its){live:List Nat}{env':List (Nat×D)}(hE:picks (afts (G8 n 0) (fun _=>true) ks σ.env its) live=env')
 (hb:σ.bx=bx') (hn':σ.n=n') (hT:TX P C Q (ops.drop its.length) ⟨n',env',bx'⟩):W P C (.region id ops.toArray false) Q σ:=by
 subst hb;subst hn';intro a w hs;refine wpIn_region_lit ?_;refine LZ hn H hE hT.wpList ops 0 (Array.replicate ops.length false) a w σ rfl (Nat.zero_le _) (by simp) (fun j hj=>absurd hj (Nat.not_lt_zero _)) (fun j _ hj=>by simp[hj]) hs ⟨rfl,rfl,fun u x hx=>?_⟩;unfold afts at hx;generalize hb:bads _ ks u=bb at hx
 cases bb with
 | true=>cases hx
 | false=>
  simp only[cond_false] at hx
  rcases b8 its u with hu|⟨k,dk,wk,hk⟩
  ·rw[b9 hu] at hx;exact hx
  ·rw[n6 (J4 H.ts).1 hk] at hx
   have e:(Array.replicate ops.length false).getD (0+k) false=false:=by
    simp only[Array.getD_eq_getD_getElem?,Array.getElem?_replicate]
    split<;>rfl
   rw[e] at hx;exact hx
end
theorem VI{s id off t e z:Nat}{path:List Nat}{d0 d0':D}{l:List D}{rt:TypeId}
 (h:σ.get s=some (.alb id off path)) (hb:σ.box id=some (.var d0)) (hl:d0.loc path=some (off,.sl (some e) z l)) (hna:d0.noArr path=true) (hu:d0.upd path .dead=some d0')
 {τ:Sg} (hτ:(σ.putB id (.var d0')).upd s (.sl (some e) z l)=τ) (hs:τ.get s=some (.sl (some e) z l)) (ht:t<σ.n) (hst:s≠t) :
 OpS P C ⟨some t,.assign (.tmp s),rt,pos,aft,g⟩ σ ((τ.kill s).set t (.sl (some e) z l)):=by
 subst hτ;exact OG (fun a w hs=>DT h hb hl hna hu hs) (R.asgO hs rfl ht hst)
theorem Rc.ownAt{G L:Nat->Prop}{d d':D}{cs:List Value}{F:List Nat}(h:Rc w ρ G L true d cs F){path:List Nat}{off z:Nat}{o:Option Nat}
 (hl:d.loc path=some (off,.nils)) (hna:d.noArr path=true) (hu:d.upd path (.sl o z [])=some d'):Rc w ρ G L true d' cs F:=by
 induction path generalizing d cs F off d' with
 | nil=>
  simp only[D.loc,Option.some.injEq,Prod.mk.injEq] at hl;simp only[D.upd,Option.some.injEq] at hu;obtain⟨rfl,rfl⟩:=hl;subst hu;cases h;exact .slN _ _
 | cons k path ih=>
  cases h with
  | agg l0 cs Fs hs hr=>
   simp only[D.loc] at hl;simp only[D.upd] at hu
   cases hk:l0[k]? with
   | none=>simp[hk] at hl
   | some d2=>
    obtain⟨hklt,rfl⟩:=List.getElem?_eq_some_iff.1 hk;simp only[hk] at hl hu
    cases hd:D.loc l0[k] path with
    | none=>simp[hd] at hl
    | some od=>
     obtain⟨oo,d3⟩:=od;simp only[hd,Option.some.injEq,Prod.mk.injEq] at hl;obtain⟨rfl,rfl⟩:=hl
     cases hud:D.upd l0[k] path (.sl o z []) with
     | none=>simp[hud] at hu
     | some d4=>
      simp only[hud,Option.some.injEq] at hu;subst hu;simp only[D.noArr,hk] at hna;have h1:=ih (hr k hklt) hd hna hud
      have hz:d4.sz=l0[k].sz:=by rw[<- h1.len,(hr k hklt).len]
      have:=Rc.agg (w:=w) (ρ:=ρ) (G:=G) (L:=L) (p:=true) (l0.set k d4) cs Fs (by rw[hs,l8 l0 k d4 hklt hz]) (fun j hj=>by
       have hj':j<l0.length:=by simpa using hj
       rw[QT l0 k j d4 hklt hz];by_cases hjk:j=k
       ·subst hjk;simp only[List.getElem_set_self,hz];exact h1
       ·have hjj:(l0.set k d4)[j]=l0[j]:=by rw[List.getElem_set_ne (fun e=>hjk e.symm)]
        simp only[hjj]
        exact hr j hj')
      rwa [List.length_set] at this
  | arr n z l cs hn hs hr=>simp[D.noArr] at hna
  | _=>simp[D.loc] at hl
theorem e9{o:Oper}{τ:Sg}{t:Nat}{r r':D}(h:OpS P C o σ (τ.set t r))(hr:r.isRef=false)(he:r.brw=r'):OpS P C o σ (τ.set t r'):=by
 intro a w hs K Q hK;refine h a w hs K Q fun a' w' hs'=>hK a' w' ?_
 have h1:(τ.set t r).get t=some r:=by rw[m9];simp
 refine(VM h1 hr he hs').weaken rfl rfl fun u d hd=>?_;rw[i9,m9];rw[m9] at hd;by_cases hu:u=t
 ·subst hu;simpa using hd
 ·simpa [hu] using hd
theorem n9{c:Code}{Q:Exit->Sg->Prop}(id:Nat)(path:List Nat)(e z:Nat){off:Nat}{d d':D}{bx':List (Nat×Bx)}(hb:σ.box id=some (.var d))(hl:d.loc path=some (off,.nils))(hna:d.noArr path=true)(hu:d.upd path (.sl (some e) z [])=some d')
 (hbx:setb id (.var d') σ.bx=bx') (k:W P C c Q ⟨σ.n,σ.env,bx'⟩):W P C c Q σ:=by
 subst hbx;exact fun a w hs=>k a w (FN hb (fun w ρ G L cs F h=>h.ownAt hl hna hu) hs)
theorem j49{id:Nat}{d d':D}(hb:σ.box id=some (.var d))(he:d.brw=d')(hs:St C σ a w):St C { σ with bx:=setb id (.var d') σ.bx } a w:=by
 subst he;obtain⟨ρ,Fe,Fb,st⟩:=hs
 have hbox:∀ i,(({ σ with bx:=setb id (.var d.brw) σ.bx }:Sg).box i)=if i=id then some (.var d.brw) else σ.box i:=fun i=>by
  show lk (setb id (.var d.brw) σ.bx) i=_;rw[XU];by_cases hi:i=id
  ·subst hi;have:lk σ.bx i=some (.var d):=hb;simp[this]
  ·simp[hi];rfl
 have hiso:∀ i,(({ σ with bx:=setb id (.var d.brw) σ.bx }:Sg).box i).isSome=(σ.box i).isSome:=fun i=>by
  rw[hbox];by_cases hi:i=id
  ·subst hi;simp[hb]
  ·simp[hi]
 have hfun:(fun i=>(({ σ with bx:=setb id (.var d.brw) σ.bx }:Sg).box i).isSome=true)=fun i=>(σ.box i).isSome=true:=by
  funext i;rw[hiso]
 obtain⟨cs,e,F',q1,q2,q3⟩:=st.bx id _ hb
 have hnd:(ρ id::F').Nodup:=by have:=st.nodB id;rw[q3] at this;exact this
 have key:∀ i b,b∈upd Fb id [ρ id] i->b∈Fb i:=fun i b hb=>by
  by_cases hii:i=id
  ·subst hii;rw[j1] at hb;simp at hb;subst hb;rw[q3];simp
  ·rw[q7 hii] at hb;exact hb
 have hot:∀ b,own Fe (upd Fb id [ρ id]) b->own Fe Fb b:=fun b hb=>hb.imp (fun h=>h) fun⟨i,hi⟩=>⟨i,key i b hi⟩
 have hg:∀ b,gd C Fe Fb b->gd C Fe (upd Fb id [ρ id]) b:=fun b hb=>⟨hb.1,fun hc=>hb.2 (hot b hc)⟩
 have hgF:∀ b∈F',gd C Fe (upd Fb id [ρ id]) b:=fun b hb=>by
  have hbi:b∈Fb id:=by rw[q3];exact List.mem_cons_of_mem _ hb
  refine⟨st.okO b (.inr ⟨id,hbi⟩), ?_⟩;rintro (⟨u,hu⟩|⟨i,hi⟩)
  ·exact st.dEB u id b hu hbi
  ·by_cases hii:i=id
   ·subst hii;rw[j1] at hi;simp at hi;subst hi;exact(List.nodup_cons.1 hnd).1 hb
   ·rw[q7 hii] at hi;exact st.dBB i id hii b hi hbi
 refine⟨ρ,Fe,upd Fb id [ρ id],{
  size:=st.size
  defs:=st.defs
  pin:=fun i b hp=>⟨(st.pin i b hp).1,by rw[hiso];exact(st.pin i b hp).2⟩
  env:=fun u x hx=>by rw[hfun];exact OK (st.env u x hx) (fun _ _ _=>rfl) (fun b hb _=>hg b hb) (fun _ h=>h) (fun _ _ _ _ h=>h)
  envN:=st.envN
  bx:=fun i b hd=>?_
  bxN:=fun i hn=>?_
  nodE:=st.nodE
  nodB:=fun i=>?_
  dEE:=st.dEE
  dEB:=fun u i b hb1 hb2=>st.dEB u i b hb1 (key i b hb2)
  dBB:=fun i i' hne b hb1 hb2=>st.dBB i i' hne b (key i b hb1) (key i' b hb2)
  new:=fun b hb=>st.new b (hot b hb)
  kept:=st.kept
  os:=st.os
  tape:=⟨st.tape.tp,st.tape.dr⟩
  output:=st.output
  grown:=st.grown
  gl:=st.gl
  okN:=st.okN
  okO:=fun b hb=>st.okO b (hot b hb) }⟩
 ·rw[hfun];rw[hbox] at hd;by_cases hi:i=id
  ·subst hi;simp only[if_true,Option.some.injEq] at hd;subst hd;rw[j1];exact⟨cs,e,[],q1,q2.brw (fun b hb=>hgF b hb) (fun b hb _=>hg b hb),rfl⟩
  ·simp only[hi,if_false] at hd;rw[q7 hi];exact(st.bx i b hd).mono (fun _ _ _=>rfl) (fun b hb _=>hg b hb) (fun j hj=>⟨hj,rfl⟩)
 ·rw[hbox] at hn;by_cases hi:i=id
  ·simp[hi] at hn
  ·simp only[hi,if_false] at hn;rw[q7 hi];exact st.bxN i hn
 ·by_cases hi:i=id
  ·subst hi;rw[j1];simp
  ·rw[q7 hi];exact st.nodB i
theorem H5{c:Code}{Q:Exit->Sg->Prop}(id:Nat){d d':D}{bx':List (Nat×Bx)}(hb:σ.box id=some (.var d))(he:d.brw=d')(hbx:setb id (.var d') σ.bx=bx')(k:W P C c Q ⟨σ.n,σ.env,bx'⟩):W P C c Q σ:=by
 subst hbx;exact fun a w hs=>k a w (j49 hb he hs)
def FnO(P:Program)(gl:List (Nat×D))(f:FuncId)(ds:List D)(bx:List (Nat×Bx))(o:Option (D×List (Nat×Bx)×List (Nat×Bx))):Prop:=
 match o with
 | some x=>FnB P gl f ds bx x.1 x.2.1 x.2.2
 | none=>FnX P gl f ds bx
theorem v7{gl:List (Nat×D)}{f:FuncId}{ds:List D}{bx:List (Nat×Bx)}{o:Option (D×List (Nat×Bx)×List (Nat×Bx))}{r:D}{bx' nw:List (Nat×Bx)}(h:FnO P gl f ds bx o)(ho:o=some (r,bx',nw)):FnB P gl f ds bx r bx' nw:=by
 subst ho;exact h
theorem g9{gl:List (Nat×D)}{f:FuncId}{ds:List D}{bx:List (Nat×Bx)}{o:Option (D×List (Nat×Bx)×List (Nat×Bx))}(h:FnO P gl f ds bx o)(ho:o=none):FnX P gl f ds bx:=by
 subst ho;exact h
def EndsO(rs:List ResultVar)(P:Program)(ids:List Nat)(bx:List (Nat×Bx))(o:Option (D×List (Nat×Bx)×List (Nat×Bx)))(e:Exit)(σ:Sg):Prop:=
 match o with
 | some x=>EndsB rs P x.1 ids (x.2.2++x.2.1) e σ
 | none=>k43 bx e σ
theorem U4{rs:List ResultVar}{ids:List Nat}{bx:List (Nat×Bx)}{o:Option (D×List (Nat×Bx)×List (Nat×Bx))}{e:Exit}{r:D}{bx' nw:List (Nat×Bx)}(ho:o=some (r,bx',nw))(h:EndsB rs P r ids (nw++bx') e σ):EndsO rs P ids bx o e σ:=by
 subst ho;exact h
theorem d6{rs:List ResultVar}{ids:List Nat}{bx:List (Nat×Bx)}{o:Option (D×List (Nat×Bx)×List (Nat×Bx))}{e:Exit}(ho:o=none)(h:k43 bx e σ):EndsO rs P ids bx o e σ:=by
 subst ho;exact h
theorem FnO.of{gl:List (Nat×D)}{f:FuncId}{fn:Func}{c:Code}{ds:List D}{bx:List (Nat×Bx)}{o:Option (D×List (Nat×Bx)×List (Nat×Bx))}{n:Nat}{ids:List Nat}(hf:P.funcs[f]? = some fn)(hb:fn.body=some c)(hnn:fn.ntmps=n)
 (hd:ds.all (fun d=>!d.isRef)=true) (hn:ds.length<=n)
 (h:∀ C:Ctx,C.gl=gl->(∀ id b,C.pin id=some b->T2 (bx.map Prod.fst) id=true)->W P C c (EndsO fn.results.toList P ids bx o) ⟨n,ini 0 ds,bx⟩):FnO P gl f ds bx o:=by
 cases o with
 | none=>exact FnX.of hf hb hnn hd hn h
 | some x=>exact FnB.of hf hb hnn hd hn h
theorem o0(n:Nat):(D.dds n).sz=n:=by unfold D.dds;simp[T8]
end Go.Sx

namespace Go.Sx
variable{pos:String}{aft:Array Edge}{g:Option (Nat×Bool)}
variable{P:Program}{C:Ctx}{σ σ' σ1:Sg}{a:Act}{w w':World}{ρ:Nat->Nat}{Fe Fe' Fb:Nat->List Nat}
def CkV(P:Program)(k:Nat)(t:TypeId)(d:D):Prop:=
 ∀ (em:Bool) (n:Nat) (w:World) (ρ:Nat->Nat) (G L:Nat->Prop) (v:Value) (F:List Nat),VR w ρ G L d v F->(Instr.checkKey em (n+k) t v).run P w=.ok () w
theorem VL{t:TypeId}{k:IntKind}{d:D}(ht:P.underlying t=some (.int k))(hd:d.isAgg=false)(hs:∀ (w:World) (ρ:Nat->Nat) (G L:Nat->Prop) v F,Rc w ρ G L true d [v] F->∃ j x,v=.int j x):CkV P 1 t d:=by
 intro em n w ρ G L v F h;unfold VR at h;rw[hd] at h;obtain⟨j,x,rfl⟩:=hs _ _ _ _ _ _ h;simp[Instr.checkKey,run_underlying ht]
theorem CkV.u8{t:TypeId}{k:IntKind}(ht:P.underlying t=some (.int k))(x:UInt8):CkV P 1 t (.u8 x):=VL ht rfl fun _ _ _ _ _ _ h=>by cases h;exact⟨_,_,rfl⟩
theorem CkV.u32{t:TypeId}{k:IntKind}(ht:P.underlying t=some (.int k))(x:UInt32):CkV P 1 t (.u32 x):=VL ht rfl fun _ _ _ _ _ _ h=>by cases h;exact⟨_,_,rfl⟩
theorem CkV.arr{t e m:Nat}[hT:ArT P t m e][hk:IkT P e .u8][hL:LdT P e 1 false](xs:List UInt8):CkV P 2 t (.arr m 1 (xs.map .u8)):=by
 intro em n w ρ G L v F h;simp only[VR,D.isAgg,if_true] at h;obtain⟨cx,rfl,h⟩:=h
 cases h with
 | arr _ _ _ _ hl hs hr=>
 rw[show n+2=(n+1)+1 from rfl,Instr.checkKey];simp only[Sem.run_bind,run_underlying hT.u,Result.andThen_ok];simp only[Std.Legacy.Range.forIn_eq_forIn_range',Std.Legacy.Range.size,Nat.sub_zero,Nat.add_one_sub_one,Nat.div_one]
 have each:∀ j∈List.range' 0 m,j<m:=fun j hj=>by
  rw[List.mem_range'_1] at hj;omega
 generalize List.range' 0 m=is at each
 induction is with
 | nil=>simp
 | cons j is ih=>
  have hj:=each j (by simp)
  have hsz:cx.toList.length=m:=by rw[hs];omega
  have hcl:cx.size=m:=by simpa using hsz
  obtain⟨v,p1,p2⟩:=QI (P:=P) (e:=e) (hL:=hL) (cs:=cx) (off:=j*1) (hr j (by omega)) (by simp[D.sz]) (by simp[D.isAgg]) (by omega)
  have p3:(Instr.checkKey em (n+1) e v).run P w=.ok () w:=by
   have:(List.map D.u8 xs)[j]'(by omega)=.u8 (xs[j]'(by simp at hl;omega)):=by simp
   rw[this] at p2;exact CkV.u8 hk.u _ em n _ _ _ _ _ _ p2
  simp only[List.forIn_cons,Sem.run_bind,LdT.size (P:=P) (t:=e),Result.andThen_ok,p1,p3,Sem.run_pure];exact ih (fun y hy=>each y (by simp[hy]))
inductive CkFs(P:Program)(k:Nat):Nat->List Field->List D->Prop
 | nil {o:Nat}:CkFs P k o [] []
 | cons {o z:Nat} {gg:Bool} {f:Field} {fs:List Field} {d:D} {ds:List D} (hn:(f.name != "_")=true) (ho:f.offset=o) (hL:LdT P f.type z gg) (hz:d.sz=z) (hg:d.isAgg=gg)
  (h:CkV P k f.type d) (t:CkFs P k (o+z) fs ds):CkFs P k o (f::fs) (d::ds)
theorem k44{k:Nat}{t:TypeId}{d:D}(h:CkV P k t d):CkV P (k+1) t d:=fun em n w ρ G L v F hv=>by
 have:=h em (n+1) w ρ G L v F hv
 rwa [show n+(k+1)=n+1+k by omega]
theorem CkV.struct{t:TypeId}{k:Nat}{fs:Array Field}{ds:List D}(ht:P.underlying t=some (.struct fs))(h:CkFs P k 0 fs.toList ds):CkV P (k+1) t (.agg ds):=by
 intro em n w ρ G L v F hv;simp only[VR,D.isAgg,if_true] at hv;obtain⟨cx,rfl,hv⟩:=hv
 cases hv with
 | agg _ _ Fs hs hr=>
 rw[show n+(k+1)=(n+k)+1 from rfl,Instr.checkKey];simp only[Sem.run_bind,run_underlying ht,Result.andThen_ok];rw[<- Array.forIn_toList]
 have hc:0+Z5 ds<=cx.size:=by simp at hs;omega
 have hr':∀ i (hi:i<ds.length),Rc w ρ G L true ds[i] ((cx.toList.drop (0+offk ds i)).take ds[i].sz) (Fs i):=fun i hi=>by rw[Nat.zero_add];exact hr i hi
 clear hs hr ht;revert hc hr';generalize (0:Nat)=o at h;generalize fs.toList=fl at h;intro hc hr'
 induction h generalizing Fs with
 | nil=>simp
 | @cons o z gg f fs d ds hn ho hL hz hg h t ih=>
  subst ho;simp only[H0] at hc;have a1:=hr' 0 (by simp);simp only[List.getElem_cons_zero,ZR,Nat.add_zero,hz] at a1;obtain⟨v1,r1,q1⟩:=QI (P:=P) (e:=f.type) (hL:=hL) a1 hz hg (by omega);have hb:=h em n w _ _ _ _ _ q1
  have ih':=ih (fun i=>Fs (i+1)) (by omega) (fun i hi=>by
   have:=hr' (i+1) (by simpa using hi);simp only[List.getElem_cons_succ,W5,hz] at this
   rw[Nat.add_assoc];exact this)
  have hne:f.name ≠ "_":=by simpa using hn
  simp only[List.forIn_cons,Sem.run_bind,hne,ne_eq,not_false_eq_true,if_true,Result.andThen_ok,r1,hb,Sem.run_pure];exact ih'
variable{κ α:Type}[DecidableEq κ]
def E1(m:List (κ×α))(k:κ):Nat:=m.findIdx (fun e=>e.1==k)
def N4(m:List (κ×α))(k:κ):Bool:=m.any fun e=>e.1==k
def EU(z:α)(m:List (κ×α))(k:κ):α:=((m[E1 m k]?).map (·.2)).getD z
def CG(kd:κ->D)(f:α->D)(m:List (κ×α)):Bx:=.mp (m.map fun e=>(kd e.1,f e.2))
theorem NU(m:List (κ×α))(k:κ):E1 m k<m.length↔N4 m k=true:=by
 unfold E1 N4;rw[List.findIdx_lt_length,List.any_eq_true]
class MkT(P:Program)(t:TypeId)(k e:outParam TypeId):Prop where
 u:P.underlying t=some (.map k e)
def Deep:TypeDesc->Prop
 | .struct _=>True
 | .array _ _=>True
 | _=>False
theorem Deep.now{d:TypeDesc}(h:Deep d)(a b:Value):Instr.sameNow d a b=none:=by
 cases d<;>first|rfl|exact h.elim
structure KeyC(P:Program)(kt:TypeId)(kd:κ->D)(n:Nat):Prop where
 s:∃ d,P.underlying kt=some d/\Deep d
 eq:∀ a b:κ,EqV P n kt (kd a) (kd b) (a==b)
 ck:∀ a:κ,CkV P n kt (kd a)
 n:Nat.ble n 10000=true
 p:∀ a,(kd a).pur=true
theorem KeyC.find{kt:TypeId}{kd:κ->D}{n:Nat}(H:KeyC P kt kd n){G L:Nat->Prop}{k:κ}{kv:Value}{F:List Nat}(hk:VR w ρ G L (kd k) kv F):∀ (es:List MapEntry) (m:List (κ×α)) (i:Nat),es.length=m.length ->
 (∀ j (h:j<m.length),VR w ρ G L (kd m[j].1) (es.getD j default).key []) ->
 (Instr.findAsking kt kv es i).run P w=.ok (if E1 m k<m.length then some (i+E1 m k,(es.getD (E1 m k) default).val) else none) w:=by
 have hn:n<=10000:=Nat.le_of_ble_eq_true H.n;intro es
 induction es with
 | nil=>intro m i hl _;cases m with
  | nil=>simp[Instr.findAsking,E1]
  | cons x r=>simp at hl
 | cons e es ih=>
  intro m i hl hks
  cases m with
  | nil=>simp at hl
  | cons x r=>
   have h0:=hks 0 (by simp);simp only[List.getD_cons_zero,List.getElem_cons_zero] at h0;have hih:=ih r (i+1) (by simpa using hl) (fun j hj=>by have:=hks (j+1) (by simpa using hj);simpa using this);have he:=H.eq k x.1 (10000-n) w _ _ _ _ _ _ _ _ _ _ hk h0;rw[show 10000-n+n=10000 by omega] at he;have he':(Op.equal kt kv e.key).run P w=.ok (k==x.1) w:=he;simp only[Instr.findAsking,Sem.run_bind,he',Result.andThen_ok];by_cases hx:x.1=k
   ·have:E1 (x::r) k=0:=by simp[E1,List.findIdx_cons,hx]
    simp[this,hx]
   ·have hx':(x.1==k)=false:=by simpa using hx
    have h1:E1 (x::r) k=E1 r k+1:=by simp[E1,List.findIdx_cons,hx']
    have hx2:(k==x.1)=false:=by simpa using fun e=>hx e.symm
    simp only[hx2,Bool.false_eq_true,if_false,hih,h1,List.length_cons,Nat.add_lt_add_iff_right,List.getD_cons_succ]
    split<;>simp[Nat.add_assoc,Nat.add_comm,Nat.add_left_comm]
theorem KeyC.findKey{kt:TypeId}{kd:κ->D}{n:Nat}(H:KeyC P kt kd n){G L:Nat->Prop}{k:κ}{kv:Value}{F:List Nat}(hk:VR w ρ G L (kd k) kv F)(es:List MapEntry)(m:List (κ×α))(hl:es.length=m.length)
 (hks:∀ j (h:j<m.length),VR w ρ G L (kd m[j].1) (es.getD j default).key []) :
 (Instr.findKey kt kv es).run P w=.ok (if E1 m k<m.length then some (0+E1 m k,(es.getD (E1 m k) default).val) else none) w:=by
 obtain⟨d,hs,hd⟩:=H.s;have h1:=H.find hk es m 0 hl hks;unfold Instr.findKey;simp only[Sem.run_bind,run_underlying hs,Result.andThen_ok]
 cases es with
 | nil=>
  cases m with
  | nil=>simp[Instr.findNow,E1]
  | cons x r=>simp at hl
 | cons e es=>simpa [Instr.findNow,hd.now] using h1
theorem KeyC.check{kt:TypeId}{kd:κ->D}{n:Nat}(H:KeyC P kt kd n){G L:Nat->Prop}{k:κ}{kv:Value}{F:List Nat}(hk:VR w ρ G L (kd k) kv F)(em:Bool):(Instr.checkKey em 10000 kt kv).run P w=.ok () w:=by
 have hn:n<=10000:=Nat.le_of_ble_eq_true H.n;have:=H.ck k em (10000-n) w _ _ _ _ _ hk
 rwa [show 10000-n+n=10000 by omega] at this
omit [DecidableEq κ] in
theorem IS{G L:Nat->Prop}{kd:κ->D}{f:α->D}{m:List (κ×α)}{b:Nat}{F:List Nat}(h:BR w ρ G L b (CG kd f m) F) :
 F=[b]/\∃ es:Array MapEntry,w.heap[b]? = some (.map es m.length)/\es.size=m.length/\(∀ j (hj:j<m.length),VR w ρ G L (kd m[j].1) (es.getD j default).key []/\VR w ρ G L (f m[j].2) (es.getD j default).val []/\(es.getD j default).born=j):=by
 obtain⟨h1,es,clock,h2,⟨h3,h4⟩,h5⟩:=h;simp only[List.length_map] at h3 h4;subst h4;refine⟨h1,es,h2,h3,fun j hj=>?_⟩;obtain⟨h6,h7,h8⟩:=h5 j (by simpa using hj);simp only[List.getElem_map] at h6 h7;exact⟨h6,h7,h8⟩
omit [DecidableEq κ] in
theorem x34{G L:Nat->Prop}{kd:κ->D}{f:α->D}{m:List (κ×α)}{b:Nat}{es:Array MapEntry}(h2:w.heap[b]? = some (.map es m.length))(h3:es.size=m.length)
 (h5:∀ j (hj:j<m.length),VR w ρ G L (kd m[j].1) (es.getD j default).key []/\VR w ρ G L (f m[j].2) (es.getD j default).val []/\(es.getD j default).born=j):BR w ρ G L b (CG kd f m) [b]:=by
 refine⟨rfl,es,m.length,h2,⟨by simpa using h3,by simp⟩,fun j hj=>?_⟩;obtain⟨h6,h7,h8⟩:=h5 j (by simpa using hj);simp only[List.getElem_map];exact⟨h6,h7,h8⟩
omit [DecidableEq κ] in
theorem StW.putMk{kd:κ->D}{f:α->D}{m m':List (κ×α)}{id:Nat}{es:Array MapEntry}(st:StW C σ a w ρ Fe Fb)(hb:σ.box id=some (CG kd f m))(hs:es.size=m'.length)
 (h5:∀ j (hj:j<m'.length),VR w ρ (gd C Fe Fb) (fun i=>(σ.box i).isSome) (kd m'[j].1) (es.getD j default).key []/\VR w ρ (gd C Fe Fb) (fun i=>(σ.box i).isSome) (f m'[j].2) (es.getD j default).val []/\(es.getD j default).born=j) :
 StW C (σ.putB id (CG kd f m')) a { w with heap:=w.heap.setIfInBounds (ρ id) (.map es m'.length) } ρ Fe (upd Fb id [ρ id]):=by
 obtain⟨hF,es0,h2,h3,h4⟩:=IS (st.bx _ _ hb);have hlt:ρ id<w.heap.size:=(Array.getElem?_eq_some_iff.1 h2).1
 have hblk:∀ b,b≠ρ id->(w.heap.setIfInBounds (ρ id) (.map es m'.length))[b]? = w.heap[b]?:=fun b hne=>by
  rw[Array.getElem?_setIfInBounds];simp[show ¬ ρ id=b from fun e=>hne e.symm]
 have hnot:∀ b,gd C Fe Fb b->b≠ρ id:=fun b hg he=>hg.2 (.inr ⟨id,by rw[hF,he];simp⟩)
 have hg:∀ b,gd C Fe Fb b->gd C Fe (upd Fb id [ρ id]) b:=fun b hb'=>⟨hb'.1,fun hc=>hb'.2 (hc.imp (fun h=>h) (fun⟨i,hi⟩=>by
  by_cases hii:i=id
  ·subst hii;simp at hi;exact⟨i,by rw[hF,hi];simp⟩
  ·rw[q7 hii] at hi;exact⟨i,hi⟩))⟩
 refine st.putB (Fe':=Fe) (σ1:=σ) (F':=[ρ id]) (w':={ w with heap:=w.heap.setIfInBounds (ρ id) (.map es m'.length) }) hb rfl rfl (fun u d hd=>.inl ⟨hd,rfl⟩) st.envN (fun u=>.inl rfl) rfl ⟨rfl,Nat.le_refl _⟩ rfl (by simp)
  hblk (by simp) (by simp) (fun b hb'=>.inl (by rw[hF];exact hb')) ?_
 refine x34 (es:=es) ?_ hs (fun j hj=>?_)
 ·simp[hlt]
 ·obtain⟨q1,q2,q3⟩:=h5 j hj;exact⟨q1.mono (fun b hb' _=>hblk b (hnot b (hb'.resolve_right (by simp)))) (fun b hb' _=>hg b hb') (fun i hi=>⟨hi,rfl⟩),q2.mono (fun b hb' _=>hblk b (hnot b (hb'.resolve_right (by simp)))) (fun b hb' _=>hg b hb') (fun i hi=>⟨hi,rfl⟩),q3⟩
theorem R.lookK{kd:κ->D}{f:α->D}{m:List (κ×α)}{z:α}{n:Nat}{p t id:Nat}{x:Operand}{k:κ}{dk:D}{ty kt et rt:TypeId}[hT:MkT P ty kt et]{zd:D}[hZ:ZrT P et zd]
 (H:KeyC P kt kd n) (h:σ.get p=some (.map id)) (hb:σ.box id=some (CG kd f m)) (hx:ev C.gl σ x=some dk) (hdk:dk=kd k) (hz:zd=f z) (hr:∀ v,(f v).isRef=false) (ht:t<σ.n) :
 OpS P C ⟨some t,.lookup ty (.tmp p) x true,rt,pos,aft,g⟩ σ (σ.set t (.tup [f (EU z m k),.bool (N4 m k)])):=by
 subst hdk;refine OpS.value fun a w ⟨ρ,Fe,Fb,st⟩=>?_;have hp:=EZ st h;obtain⟨Fx,hvx,_⟩:=m5 st hx (m8 (H.p k));have hF0:=hvx.pur (H.p k);rw[hF0] at hvx;obtain⟨hF,es,h2,h3,h4⟩:=IS (st.bx _ _ hb);obtain⟨zi,zv,z1,z2,z3,z4⟩:=hZ.i;have hfk:=H.findKey hvx es.toList m (by simpa using h3) (fun j hj=>by have:=(h4 j hj).1;simpa [Array.getD_eq_getD_getElem?] using this)
 have hzv:VR w ρ (gd C Fe Fb) (fun i=>(σ.box i).isSome) (f z) zv []:=by rw[<- hz];exact k16 z3 z4
 have hck:=fun b=>H.check hvx b
 have fin:∀ v ok,VR w ρ (gd C Fe Fb) (fun i=>(σ.box i).isSome) (f (EU z m k)) v []->ok=N4 m k->St C (σ.set t (.tup [f (EU z m k),.bool (N4 m k)])) (a.put (some t) (.tuple #[v,.bool ok])) w:=by
  rintro v ok hv rfl;refine st.putRef (d:=.tup [f (EU z m k),.bool (N4 m k)]) (v:=.tuple #[v,.bool (N4 m k)]) ht ⟨[v,.bool (N4 m k)],fun _=>[],by rw[v5 a t _ t (by rw[st.size];exact ht)];simp,rfl,(EA _).symm,fun j hj=>.inr ?_⟩
  have hup:∀ d v,VR w ρ (gd C Fe Fb) (fun i=>(σ.box i).isSome) d v []->VR w ρ (gd C (upd Fe t []) Fb) (fun i=>(σ.box i).isSome) d v []:=
   fun d v h=>h.mono (fun _ _ _=>rfl) (fun b hb _=>⟨hb.1,fun ho=>hb.2 (GD ho)⟩) (fun i hi=>⟨hi,rfl⟩)
  match j,hj with
  | 0,_=>exact⟨hr _,hup _ _ hv⟩
  | 1,_=>exact⟨rfl,hup _ _ (by simp only[List.getElem_cons_succ,List.getElem_cons_zero,VR,D.isAgg,Bool.false_eq_true,if_false];exact .bool _)⟩
 by_cases hin:E1 m k<m.length
 ·have hgv:EU z m k=m[E1 m k].2:=by simp[EU,hin]
  obtain⟨q1,q2,q3⟩:=h4 _ hin
  have hsz:E1 m k<es.size:=by omega
  have hgd:es.getD (E1 m k) default=es[E1 m k]:=by simp[Array.getD_eq_getD_getElem?,hsz]
  rw[hgd] at q2;refine⟨.tuple #[es[E1 m k].val,.bool true],w, ?_,fin _ _ (by rw[hgv];exact q2) ((NU m k).1 hin).symm⟩;unfold execOp;simp[Instr.lookup,run_underlying hT.u,j8 hp,MapKept.run_getObj_map h2,hck,hfk,hin,hsz]
 ·have hle:E1 m k<=m.length:=List.findIdx_le_length
  have hgv:EU z m k=z:=by simp[EU,show E1 m k=m.length by omega]
  have hno:N4 m k=false:=by
   cases hh:N4 m k with
   | false=>rfl
   | true=>exact absurd ((NU m k).2 hh) hin
  refine⟨.tuple #[zv,.bool false],w, ?_,fin _ _ (by rw[hgv];exact hzv) hno.symm⟩;unfold execOp;simp[Instr.lookup,run_underlying hT.u,j8 hp,MapKept.run_getObj_map h2,hck,hfk,hin,zeroValue,typeInfo,z1,z2]
theorem R.mupdN{kd:κ->D}{f:α->D}{m:List (κ×α)}{n:Nat}{p id:Nat}{x y:Operand}{k:κ}{u:α}{dk dv:D}{ty kt et rt:TypeId}[hT:MkT P ty kt et]
 (H:KeyC P kt kd n) (h:σ.get p=some (.map id)) (hb:σ.box id=some (CG kd f m)) (hx:ev C.gl σ x=some dk) (hdk:dk=kd k) (hy:ev C.gl σ y=some dv) (hd:dv=f u) (hp:dv.pur=true) (hno:N4 m k=false) :
 OpS P C ⟨none,.mapUpdate ty (.tmp p) x y,rt,pos,aft,g⟩ σ (σ.putB id (CG kd f (m++[(k,u)]))):=by
 subst hdk;subst hd;refine OpS.skip rfl fun a w ⟨ρ,Fe,Fb,st⟩=>?_;have hpm:=EZ st h;obtain⟨Fx,hvx,_⟩:=m5 st hx (m8 (H.p k));have hF0:=hvx.pur (H.p k);rw[hF0] at hvx;obtain⟨Fy,hvy,_⟩:=m5 st hy (m8 hp);have hFy:=hvy.pur hp;rw[hFy] at hvy;obtain⟨hF,es,h2,h3,h4⟩:=IS (st.bx _ _ hb);have hfk:=H.findKey hvx es.toList m (by simpa using h3) (fun j hj=>by have:=(h4 j hj).1;simpa [Array.getD_eq_getD_getElem?] using this)
 have hin:¬ E1 m k<m.length:=fun hc=>by rw[NU,hno] at hc;cases hc
 have st2:=st.putMk (es:=es.push { key:=a.eval x,val:=a.eval y,born:=m.length }) (m':=m++[(k,u)]) hb (by simp[h3]) (fun j hj=>by
  rcases Nat.lt_or_ge j m.length with hjm|hjm
  ·obtain⟨r1,r2,r3⟩:=h4 j hjm
   have hgj:(es.push { key:=a.eval x,val:=a.eval y,born:=m.length }).getD j default=es.getD j default:=by
    simp only[Array.getD_eq_getD_getElem?,Array.getElem?_push];rw[if_neg (by omega)]
   rw[hgj,List.getElem_append_left hjm];exact⟨r1,r2,r3⟩
  ·have hje:j=m.length:=by simp at hj;omega
   subst hje
   have hgj:(es.push { key:=a.eval x,val:=a.eval y,born:=m.length }).getD m.length default={ key:=a.eval x,val:=a.eval y,born:=m.length }:=by
    simp only[Array.getD_eq_getD_getElem?,Array.getElem?_push,h3,if_true,Option.getD_some]
   rw[hgj];simp only[List.getElem_append_right (Nat.le_refl _),Nat.sub_self,List.getElem_cons_zero]
   exact⟨hvx,hvy,trivial⟩)
 refine⟨_, ?_,ρ,Fe,_,st2⟩;unfold execOp;simp[Instr.mapUpdate,run_underlying hT.u,j8 hpm,MapKept.run_getObj_map h2,H.check hvx,hfk,hin,MapKept.run_setObj_map _ h2]
omit [DecidableEq κ] in
theorem k40{t ty rt:TypeId}(kd:κ->D)(f:α->D)(hid:σ.box t=none)(ht:t<σ.n):OpS P C ⟨some t,.makeMap ty none,rt,pos,aft,g⟩ σ ((σ.newB t (CG kd f [])).set t (.map t)):=R.mkmap hid ht
theorem XS{c:Code}{Q:Exit->Sg->Prop}(ids:List Nat){bx':List (Nat×Bx)}(hb:W7 ids σ.bx=bx')(he:KW ids σ.env=true)(hx:L3 ids bx')(hpn:∀ id b,C.pin id=some b->d8 ids id=true)(h:W P C c Q ⟨σ.n,σ.env,bx'⟩):W P C c Q σ:=by
 intro a w ⟨ρ,Fe,Fb,st⟩;refine h a w ?_
 have hl:∀ u,lk bx' u=if d8 ids u then σ.box u else none:=fun u=>by rw[<- hb];exact QV ids σ.bx u
 have hsub:∀ id,∀ b∈(if d8 ids id then Fb id else[]),b∈Fb id:=fun id b hm=>by split at hm;exact hm;cases hm
 have hown:∀ b,own Fe (fun id=>if d8 ids id then Fb id else[]) b->own Fe Fb b:=fun b hb=>hb.imp id fun⟨i,hi⟩=>⟨i,hsub i b hi⟩
 have hgd:∀ b,gd C Fe Fb b->gd C Fe (fun id=>if d8 ids id then Fb id else[]) b:=fun b hb=>⟨hb.1,fun hc=>hb.2 (hown b hc)⟩
 have hL:∀ id,(d8 ids id=true/\(σ.box id).isSome)->(lk bx' id).isSome:=fun id ⟨h1,h2⟩=>by rw[hl,if_pos h1];exact h2
 exact⟨ρ,Fe,(fun id=>if d8 ids id then Fb id else[]),{
  size:=st.size
  defs:=st.defs
  pin:=fun id b hp=>⟨(st.pin id b hp).1,hL id ⟨hpn id b hp,(st.pin id b hp).2⟩⟩
  env:=fun t d hd=>(st.env t d hd).okB (KV he hd) (fun b hb _=>hgd b hb) hL
  envN:=st.envN
  bx:=fun id b hd=>by
   have hok:=ZI hx hd;have h1:=hl id;by_cases hm:d8 ids id=true
   ·rw[if_pos hm] at h1
    have h2:σ.box id=some b:=by rw[<- h1];exact hd
    have hF':(if d8 ids id then Fb id else[])=Fb id:=if_pos hm;show BR w ρ _ _ (ρ id) b (if d8 ids id then Fb id else[]);rw[hF'];exact((st.bx id b h2).okB hok).mono (fun _ _ _=>rfl) (fun b hb _=>hgd b hb) (fun id hid=>⟨hL id hid,rfl⟩)
   ·rw[if_neg hm] at h1;rw[show lk bx' id=some b from hd] at h1;cases h1
  bxN:=fun id hn=>by
   have h1:=hl id;by_cases hm:d8 ids id=true
   ·rw[if_pos hm] at h1;simp only[hm,if_true];exact st.bxN id (by rw[<- h1];exact hn)
   ·simp[hm]
  nodE:=st.nodE
  nodB:=fun id=>by show(if d8 ids id then Fb id else[]).Nodup;split;exact st.nodB id;exact List.nodup_nil
  dEE:=st.dEE
  dEB:=fun t id b hb hm=>st.dEB t id b hb (hsub id b hm)
  dBB:=fun id id' hne b hb hm=>st.dBB id id' hne b (hsub id b hb) (hsub id' b hm)
  new:=fun b hb=>st.new b (hown b hb)
  kept:=st.kept
  os:=st.os
  tape:=⟨st.tape.tp,st.tape.dr⟩
  output:=st.output
  grown:=st.grown
  gl:=st.gl
  okN:=st.okN
  okO:=fun b hb=>st.okO b (hown b hb) }⟩
omit [DecidableEq κ] in
theorem SE{ids:List Nat}{kd:κ->D}{f:α->D}{m:List (κ×α)}(h1:∀ a,(kd a).okB ids=true)(h2:∀ u,(f u).okB ids=true):∀ kv∈m.map (fun e=>(kd e.1,f e.2)),kv.1.okB ids=true/\kv.2.okB ids=true:=fun kv hkv=>by
 obtain⟨e,_,rfl⟩:=List.mem_map.1 hkv;exact⟨h1 _,h2 _⟩
end Go.Sx

namespace Go.Sx
variable{pos:String}{aft:Array Edge}{g:Option (Nat×Bool)}
variable{P:Program}{C:Ctx}{σ σ' σ1:Sg}{a:Act}{w w':World}{ρ:Nat->Nat}{Fe Fe' Fb:Nat->List Nat}
theorem k17{s id z n cap:Nat}(st:StW C σ a w ρ Fe Fb)(h:σ.get s=some (.bs id z n cap)):a.tmps[s]? = some (.slice (some ⟨ρ id,0,none⟩) n cap)/\(σ.box id).isSome=true/\n<=cap:=by
 obtain⟨v,hv,hr⟩:=(z9 rfl).1 (st.env _ _ h);simp only[VR,D.isAgg,Bool.false_eq_true,if_false] at hr;generalize Fe s=F at hr
 cases hr with
 | bs _ _ _ _ hL hc=>exact⟨hv,hL,hc⟩
theorem R.lenBs{s t id z n cap:Nat}{ty e rt:TypeId}[hT:SlT P ty e]
 (h:σ.get s=some (.bs id z n cap)) (ht:t<σ.n):OpS P C ⟨some t,.call { callee:=.builtin .len,args:=#[.tmp s],argTypes:=#[ty] },rt,pos,aft,g⟩ σ (σ.set t (.int ((n:Nat):Int))):=by
 refine OpS.value fun a w ⟨ρ,Fe,Fb,st⟩=>?_;obtain⟨hv,_,_⟩:=k17 st h;refine⟨.int .i64 n,w, ?_,st.put ht rfl ?_⟩
 ·unfold execOp;simp[resolve,invoke,builtin,Builtin.len_,run_underlying hT.u,j8 hv,goInt]
 ·simp only[VR,D.isAgg,Bool.false_eq_true,if_false];exact .int _
theorem R.idxBs{s t id z m cap:Nat}{ix:Operand}{n:Int}{ty e b rt:TypeId}[hT:SlT P ty e][hE:ElT P e z b](k:Nat)
 (h:σ.get s=some (.bs id z m cap)) (hi:evo C.gl σ (some ix) 0=some n) (hk:n=(k:Int)) (h1:k<m) (ht:t<σ.n) :
 OpS P C ⟨some t,.indexAddr ty (.tmp s) ix,rt,pos,aft,g⟩ σ (σ.set t (.ptr id (k*z) [k])):=by
 subst hk;refine OpS.value fun a w ⟨ρ,Fe,Fb,st⟩=>?_;obtain⟨hv,hL,hc⟩:=k17 st h;obtain⟨kk,he⟩:=NG st hi;refine⟨.pointer (some ⟨ρ id,k*z,none⟩),w, ?_,st.put ht rfl ?_⟩
 ·unfold execOp;simp[Instr.indexAt,asIntOf,run_underlying hT.u,j8 hv,he,h1,ElT.size (P:=P) (e:=e),X4]
 ·simp only[VR,D.isAgg,Bool.false_eq_true,if_false];exact .ptr _ _ _ hL
end Go.Sx

namespace Go.Sx
variable{P:Program}{C:Ctx}{σ σ' σ1:Sg}{a:Act}{w w':World}{ρ:Nat->Nat}{Fe Fe' Fb:Nat->List Nat}
theorem St.rebox{bx':List (Nat×Bx)}(h:St C σ a w)(hb:∀ id,lk bx' id=σ.box id):St C ⟨σ.n,σ.env,bx'⟩ a w:=by
 obtain⟨ρ,Fe,Fb,st⟩:=h;have hbox:∀ id,(⟨σ.n,σ.env,bx'⟩:Sg).box id=σ.box id:=hb
 have hL:(fun id=>((⟨σ.n,σ.env,bx'⟩:Sg).box id).isSome=true)=(fun id=>(σ.box id).isSome=true):=by
  funext id;rw[hbox]
 refine⟨ρ,Fe,Fb,{
  size:=st.size
  defs:=st.defs
  pin:=fun id b hp=>⟨(st.pin id b hp).1,by rw[hbox];exact(st.pin id b hp).2⟩
  env:=fun t d hd=>by rw[hL];exact st.env t d hd
  envN:=fun t ht=>st.envN t ht
  bx:=fun id d hd=>by rw[hL];exact st.bx id d (by rw[<- hbox];exact hd)
  bxN:=fun id hd=>st.bxN id (by rw[<- hbox];exact hd)
  nodE:=st.nodE
  nodB:=st.nodB
  dEE:=st.dEE
  dEB:=st.dEB
  dBB:=st.dBB
  new:=st.new
  kept:=st.kept
  os:=st.os
  tape:=⟨st.tape.tp,st.tape.dr⟩
  output:=st.output
  grown:=st.grown
  gl:=st.gl
  okN:=st.okN
  okO:=st.okO }⟩
abbrev Efs:=List (Nat×List (Nat×Bx))
def bxk(an:List Nat)(i id:Nat):Efs->Option Bx->Option Bx
 | [],cur=>cur
 | (j,l)::r,cur=>match lk l id with
  | none=>bxk an i id r cur
  | some x=>bif tb (nth an i) j then bxk an i id r (some x) else bif Nat.beq i j||tb (nth an j) i then bxk an i id r cur else bxk an i id r none
def PN(f:Nat->Bool)(id:Nat):Efs->Option Bx->Option Bx
 | [],cur=>cur
 | (j,l)::r,cur=>match lk l id with
  | none=>PN f id r cur
  | some x=>bif f j then PN f id r (some x) else PN f id r cur
def touch(l m:List (Nat×Bx)):Bool:=l.any fun x=>(lk m x.1).isSome
def SI(an:List Nat)(j:Nat)(l:List (Nat×Bx)):Efs->Bool
 | []=>true
 | (k,m)::r=>(!(Nat.beq j k)&&(!(touch l m)||tb (nth an k) j))&&SI an j l r
def WS(an:List Nat)(m:Nat):Efs->Bool
 | []=>true
 | (j,l)::r=>Nat.blt j m&&SI an j l r&&WS an m r
def TC(an:List Nat)(i id:Nat):Efs->Bool
 | []=>true
 | (k,m)::r=>(Nat.beq k i||(lk m id).isNone||tb (nth an k) i)&&TC an i id r
def j21(an:List Nat)(bx0:List (Nat×Bx))(efs:Efs)(i id:Nat):Bool:=(lk bx0 id).isNone&&TC an i id efs
def ML(env:List (Nat×D))(an:List Nat)(ks:List (Nat×Nat))(its:List It):Efs->Bool
 | []=>true
 | (i,l)::r=>(P2 (l.map Prod.fst) ks i env&&P1 (l.map Prod.fst) an ks i its 0)&&ML env an ks its r
theorem WR{an:List Nat}{j:Nat}{l:List (Nat×Bx)}:∀ {r:Efs},SI an j l r=true->∀ x∈r,(!(Nat.beq j x.1)&&(!(touch l x.2)||tb (nth an x.1) j))=true:=by
 intro r
 induction r with
 | nil=>intro _ x hx;cases hx
 | cons y r ih=>
  obtain⟨k,m⟩:=y;intro h x hx;simp only[SI] at h;rw[Bool.and_eq_true] at h
  rcases List.mem_cons.1 hx with rfl|hx
  ·exact h.1
  ·exact ih h.2 x hx
theorem q19{an:List Nat}{i id:Nat}:∀ {r:Efs},TC an i id r=true->∀ x∈r,(Nat.beq x.1 i||(lk x.2 id).isNone||tb (nth an x.1) i)=true:=by
 intro r
 induction r with
 | nil=>intro _ x hx;cases hx
 | cons y r ih=>
  obtain⟨k,m⟩:=y;intro h x hx;simp only[TC] at h;rw[Bool.and_eq_true] at h
  rcases List.mem_cons.1 hx with rfl|hx
  ·exact h.1
  ·exact ih h.2 x hx
theorem IF{env:List (Nat×D)}{an:List Nat}{ks:List (Nat×Nat)}{its:List It}:∀ {r:Efs},ML env an ks its r=true->∀ x∈r,(P2 (x.2.map Prod.fst) ks x.1 env&&P1 (x.2.map Prod.fst) an ks x.1 its 0)=true:=by
 intro r
 induction r with
 | nil=>intro _ x hx;cases hx
 | cons y r ih=>
  obtain⟨k,m⟩:=y;intro h x hx;simp only[ML] at h;rw[Bool.and_eq_true] at h
  rcases List.mem_cons.1 hx with rfl|hx
  ·exact h.1
  ·exact ih h.2 x hx
def w45:Efs->List (Nat×Bx)->List (Nat×Bx)
 | [],b=>b
 | (_,l)::r,b=>w45 r (l++b)
def w11(k:Nat):List (Nat×Bx)->List (Nat×Bx)
 | []=>[]
 | (j,x)::r=>bif Nat.beq j k then w11 k r else(j,x)::w11 k r
def w43:Nat->List (Nat×Bx)->List (Nat×Bx)
 | 0,l=>l
 | _+1,[]=>[]
 | n+1,(k,x)::r=>(k,x)::w43 n (w11 k r)
theorem x38(k:Nat)(l:List (Nat×Bx))(u:Nat)(h:u≠k):lk (w11 k l) u=lk l u:=by
 induction l with
 | nil=>rfl
 | cons y r ih=>
  obtain⟨j,x⟩:=y;simp only[w11];by_cases hj:j=k
  ·subst hj;simp only[Nat.beq_refl,cond_true,y0,ih];rw[if_neg (fun e=>h e.symm)]
  ·simp only[nbeq hj,cond_false,y0,ih]
theorem x39:∀ (n:Nat) (l:List (Nat×Bx)) (u:Nat),lk (w43 n l) u=lk l u:=by
 intro n
 induction n with
 | zero=>intro l u;rfl
 | succ n ih=>
  intro l u
  cases l with
  | nil=>rfl
  | cons y r=>
   obtain⟨k,x⟩:=y;simp only[w43,y0,ih];by_cases hk:k=u
   ·simp[hk]
   ·simp only[hk,if_false];exact x38 k r u (fun e=>hk e.symm)
theorem x40(efs:Efs):∀ (b:List (Nat×Bx)) (u:Nat),lk (w45 efs b) u=PN (fun _=>true) u efs (lk b u):=by
 induction efs with
 | nil=>intro b u;rfl
 | cons y r ih=>
  obtain⟨j,l⟩:=y;intro b u;simp only[w45,PN,ih,ZT]
  cases lk l u<;>rfl
section
variable{listed:Array Bool}{ops:List Oper}{an:List Nat}{ks kk:List (Nat×Nat)}{its:List It}{Q:Exit->Sg->Prop}
theorem KQ{f g:Nat->Bool}{id:Nat}:∀ {efs:Efs} {c:Option Bx},(∀ j l,(j,l)∈efs->(lk l id).isSome=true->f j=g j)->PN f id efs c=PN g id efs c:=by
 intro efs
 induction efs with
 | nil=>intro c _;rfl
 | cons y r ih=>
  obtain⟨j,l⟩:=y;intro c h;simp only[PN]
  cases hl:lk l id with
  | none=>exact ih (fun j' l' hm=>h j' l' (List.mem_cons_of_mem _ hm))
  | some x=>
   simp only;rw[h j l (by simp) (by rw[hl];rfl)]
   cases g j<;>exact ih (fun j' l' hm=>h j' l' (List.mem_cons_of_mem _ hm))
theorem NO{f:Nat->Bool}{id:Nat}:∀ {efs:Efs} {c:Option Bx},(∀ j l,(j,l)∈efs->(lk l id).isSome=true->f j=false)->PN f id efs c=c:=by
 intro efs
 induction efs with
 | nil=>intro c _;rfl
 | cons y r ih=>
  obtain⟨j,l⟩:=y;intro c h;simp only[PN]
  cases hl:lk l id with
  | none=>exact ih (fun j' l' hm=>h j' l' (List.mem_cons_of_mem _ hm))
  | some x=>
   simp only;rw[h j l (by simp) (by rw[hl];rfl)];exact ih (fun j' l' hm=>h j' l' (List.mem_cons_of_mem _ hm))
theorem x70{f:Nat->Bool}{i id:Nat}{x:Bx}(hi:f i=false):∀ {efs:Efs} {ck cb:Option Bx},(∀ j l,(j,l)∈efs->tb (nth an i) j=true->f j=true)->(∀ j l,(j,l)∈efs->tb (nth an j) i=true->f j=false) ->
 (∀ x,ck=some x->cb=some x)->bxk an i id efs ck=some x->PN f id efs cb=some x:=by
 intro efs
 induction efs with
 | nil=>intro ck cb _ _ h hx;exact h x hx
 | cons y r ih=>
  obtain⟨j,l⟩:=y;intro ck cb h1 h2 h hx;simp only[bxk] at hx;simp only[PN];have h1':∀ j l,(j,l)∈r->tb (nth an i) j=true->f j=true:=fun j' l' hm=>h1 j' l' (List.mem_cons_of_mem _ hm);have h2':∀ j l,(j,l)∈r->tb (nth an j) i=true->f j=false:=fun j' l' hm=>h2 j' l' (List.mem_cons_of_mem _ hm)
  cases hl:lk l id with
  | none=>rw[hl] at hx;exact ih h1' h2' h hx
  | some z=>
   rw[hl] at hx;simp only at hx ⊢
   cases ha:tb (nth an i) j with
   | true=>
    rw[ha] at hx;rw[h1 j l (by simp) ha];exact ih h1' h2' (fun _ h=>h) hx
   | false=>
    rw[ha] at hx;simp only[cond_false] at hx
    cases hb:(Nat.beq i j||tb (nth an j) i) with
    | true=>
     rw[hb] at hx
     have:f j=false:=by
      rcases Bool.or_eq_true _ _▸hb with hb|hb
      ·rw[<- Nat.eq_of_beq_eq_true hb];exact hi
      ·exact h2 j l (by simp) hb
     rw[this];exact ih h1' h2' h hx
    | false=>
     rw[hb] at hx;simp only[cond_false] at hx
     cases f j with
     | true=>exact ih h1' h2' (fun _ h=>by cases h) hx
     | false=>exact ih h1' h2' (fun _ h=>by cases h) hx
theorem q62{l m:List (Nat×Bx)}{id:Nat}(h1:(lk l id).isSome=true)(h2:(lk m id).isSome=true):touch l m=true:=by
 obtain⟨x,hx⟩:=Option.isSome_iff_exists.1 h1;exact List.any_eq_true.2 ⟨(id,x),LQ hx,h2⟩
theorem j30{f:Nat->Bool}{m i id:Nat}{l:List (Nat×Bx)}(hi:f i=false):∀ {efs:Efs} {c:Option Bx},WS an m efs=true->(i,l)∈efs->(∀ j l,(j,l)∈efs->tb (nth an j) i=true->f j=false) ->
 PN (fun j=>f j||Nat.beq j i) id efs c=(match lk l id with|some x=>some x|none=>PN f id efs c):=by
 intro efs
 induction efs with
 | nil=>intro c _ h;cases h
 | cons y r ih=>
  obtain⟨j,l0⟩:=y;intro c hok hm h2;simp only[WS,Bool.and_eq_true] at hok;obtain⟨⟨_,hr⟩,hok'⟩:=hok
  have hr':∀ j' l',(j',l')∈r->j'≠j/\(touch l0 l'=true->tb (nth an j') j=true):=fun j' l' hm'=>by
   have:=WR hr _ hm';simp only[Bool.and_eq_true,Bool.not_eq_true',Bool.or_eq_true] at this;refine⟨fun e=>?_,fun ht=>?_⟩
   ·subst e;simp at this
   ·rcases this.2 with h|h
    ·rw[ht] at h;cases h
    ·exact h
  by_cases hji:j=i
  ·subst hji
   have hl:l=l0:=by
    rcases List.mem_cons.1 hm with h|h
    ·cases h;rfl
    ·exact absurd rfl (hr' j l h).1
   subst hl
   have hrest:∀ c,PN (fun j'=>f j'||Nat.beq j' j) id r c=PN f id r c:=fun c=>KQ fun j' l' hm' _=>by rw[nbeq (hr' j' l' hm').1,Bool.or_false]
   simp only[PN]
   cases hl:lk l id with
   | none=>simp only;exact hrest c
   | some x=>
    simp only[Nat.beq_refl,Bool.or_true,cond_true];rw[hrest];exact NO fun j' l' hm' hs=>h2 j' l' (List.mem_cons_of_mem _ hm') ((hr' j' l' hm').2 (q62 (by rw[hl];rfl) hs))
  ·have hm':(i,l)∈r:=by
    rcases List.mem_cons.1 hm with h|h
    ·cases h;exact absurd rfl hji
    ·exact h
   have h2':∀ j l,(j,l)∈r->tb (nth an j) i=true->f j=false:=fun j' l' hm'=>h2 j' l' (List.mem_cons_of_mem _ hm');simp only[PN,nbeq hji,Bool.or_false]
   cases lk l0 id with
   | none=>exact ih hok' hm' h2'
   | some x=>cases f j<;>exact ih hok' hm' h2'
theorem SF{m:Nat}{efs:Efs}(h:WS an m efs=true):∀ j l,(j,l)∈efs->j<m:=by
 induction efs with
 | nil=>intro j l hm;cases hm
 | cons y r ih=>
  obtain⟨j0,l0⟩:=y;simp only[WS,Bool.and_eq_true] at h;intro j l hm
  rcases List.mem_cons.1 hm with e|e
  ·cases e;exact Nat.le_of_ble_eq_true h.1.1
  ·exact ih h.2 j l e
theorem k98{α:Type}{r:List (Nat×α)}{k:Nat}{x:α}(h:(k,x)∈r):(lk r k).isSome=true:=by
 induction r with
 | nil=>cases h
 | cons y r ih=>
  obtain⟨j,z⟩:=y;rw[y0]
  rcases List.mem_cons.1 h with e|e
  ·cases e;simp
  ·split
   ·rfl
   ·exact ih e
def SpE(P:Program)(C:Ctx)(σ:Sg)(efs:Efs)(i:Nat)(l:List (Nat×Bx))(an:List Nat)(ks:List (Nat×Nat))(its:List It)(o:Oper)(t:Nat)(d:D):Prop:=
 ∀ τ:Sg,τ.n=σ.n->(∀ id x,bxk an i id efs (lk σ.bx id)=some x->τ.box id=some x)->(∀ id,j21 an σ.bx efs i id=true->τ.box id=none)->(∀ u x,facts an ks σ.env its i u=some x->τ.get u=some x) ->
  ∃ τ':Sg,OpS P C o τ (match o.dst with|some _=>τ'.set t d|none=>τ')/\τ'.n=τ.n/\(∀ id,τ'.box id=match lk l id with|some x=>some x|none=>τ.box id) /\
   ∀ u y,(∀ k s,(k,s)∈ks->s=u->k≠i)->τ.get u=some y->y.albIn (l.map Prod.fst)=false->τ'.get u=some y
def x62(n:Nat)(ks:List (Nat×Nat))(o:Oper)(i t:Nat):Prop:=
 match o.dst with
 | some t'=>t'=t/\t<n
 | none=>has ks i t=true
def AllE(P:Program)(C:Ctx)(σ:Sg)(efs:Efs)(ops:List Oper)(an:List Nat)(ks kk:List (Nat×Nat))(its:List It):List Oper->List It->Nat->Prop
 | o::os,⟨t,d,wt⟩::r,i=>(match lk efs i with
  | some l=>o.guard=none/\wt=true/\x62 σ.n ks o i t/\SpE P C σ efs i l an ks its o t d
  | none=>o.dst=some t/\t<σ.n/\Wt ops (facts an ks σ.env its i) o wt /\
  (wt=true->∀ τ:Sg,(∀ id x,bxk an i id efs (lk σ.bx id)=some x->τ.box id=some x)->t<τ.n->(∀ u x,facts an ks σ.env its i u=some x->τ.get u=some x)->OpS P C o τ ((P3 τ kk i).set t d))) /\
  AllE P C σ efs ops an ks kk its os r (i+1)
 | [],_::_,_=>False
 | _,[],_=>True
theorem AllE.at{efs:Efs}:∀ {os:List Oper} {r:List It} {i0:Nat},AllE P C σ efs ops an ks kk its os r i0->∀ {k:Nat} {t:Nat} {d:D} {wt:Bool},r[k]? = some ⟨t,d,wt⟩ ->
 ∃ o,os[k]? = some o/\(match lk efs (i0+k) with
  | some l=>o.guard=none/\wt=true/\x62 σ.n ks o (i0+k) t/\SpE P C σ efs (i0+k) l an ks its o t d
  | none=>o.dst=some t/\t<σ.n/\Wt ops (facts an ks σ.env its (i0+k)) o wt /\
  (wt=true->∀ τ:Sg,(∀ id x,bxk an (i0+k) id efs (lk σ.bx id)=some x->τ.box id=some x)->t<τ.n->(∀ u x,facts an ks σ.env its (i0+k) u=some x->τ.get u=some x)->OpS P C o τ ((P3 τ kk (i0+k)).set t d))):=by
 intro os r
 induction r generalizing os with
 | nil=>intro i0 _ k t d wt hk;simp at hk
 | cons y r ih=>
  intro i0 h k t d wt hk;obtain⟨t',d',w'⟩:=y
  cases os with
  | nil=>exact h.elim
  | cons o os=>
   cases k with
   | zero=>
    simp at hk;obtain⟨rfl,rfl,rfl⟩:=hk;exact⟨o,rfl,h.1⟩
   | succ k=>
    obtain⟨o',h1,h2⟩:=ih h.2 (k:=k) (by simpa using hk);rw[show i0+(k+1)=i0+1+k by omega];exact⟨o',by simpa using h1,h2⟩
theorem ER{N:Nat}(H:ItG ⟨N,σ.env,σ.bx⟩ ops an ks its)(hsize:listed.size=ops.length){i t:Nat}{d:D}{wt:Bool}(hit:its[i]? = some ⟨t,d,wt⟩)(hun:listed.getD i true=false)
 (hanc:∀ j,j<ops.length->tb (nth an i) j=true->listed.getD j false=true) (hnot:∀ j,j<ops.length->tb (nth an j) i=true->listed.getD j false=false) {ids:List Nat} (hE:P2 ids ks i σ.env=true) (hI:P1 ids an ks i its 0=true) (hkt:(i,t)∈ks)
 {τ:Sg} (hinv:JP σ an ks its listed τ) (τ2:Sg)
 (hg2:∀ u y,(∀ k s,(k,s)∈ks->s=u->k≠i)->τ.get u=some y->y.albIn ids=false->τ2.get u=some y):JP σ an ks its (listed.setIfInBounds i true) τ2:=by
 obtain⟨hnd,hlt⟩:=J4 H.ts;obtain⟨hin,hif⟩:=undone hun;intro u y hy;unfold afts at hy
 cases hbd:bads (fun j=>(listed.setIfInBounds i true).getD j false&&!(cov an (fun j=>(listed.setIfInBounds i true).getD j false) its u j)) ks u with
 | true=>rw[hbd] at hy;cases hy
 | false=>
  rw[hbd] at hy;simp only[cond_false] at hy;rw[U8] at hbd
  have hii:(listed.setIfInBounds i true).getD i false=true:=by simp[hin]
  have hcov:u≠t->∀ k,cov an (fun j=>(listed.setIfInBounds i true).getD j false) its u k=true->cov an (fun j=>listed.getD j false) its u k=true/\k≠i:=by
   intro hut k hc;obtain⟨j,dj,wj,h1,h2,h3,h4⟩:=R0 hc
   have hji:i≠j:=by
    rintro rfl;rw[hit] at h2;cases h2;exact hut rfl
   rw[getD_set_ne false hji] at h3;refine⟨UW h1 h3 h4, ?_⟩;rintro rfl;have hjl:j<ops.length:=Nat.lt_of_lt_of_le (List.getElem?_eq_some_iff.1 h2).1 H.len;rw[hnot j hjl h4] at h3;cases h3
  by_cases hut:u=t
  ·subst hut;exfalso;have h1:=hbd i u hkt rfl;rw[hii] at h1;simp only[Bool.true_and,Bool.not_eq_false'] at h1;obtain⟨j,dj,wj,q1,q2,q3,q4⟩:=R0 h1
   have hji:j=i:=by
    have e1:(slots its)[j]? = some u:=by rw[K8,q2];rfl
    have e2:(slots its)[i]? = some u:=by rw[K8,hit];rfl
    obtain⟨l1,e1'⟩:=List.getElem?_eq_some_iff.1 e1;obtain⟨l2,e2'⟩:=List.getElem?_eq_some_iff.1 e2;exact(List.getElem_inj hnd).1 (e1'.trans e2'.symm)
   subst hji;have hjl:j<ops.length:=Nat.lt_of_lt_of_le (List.getElem?_eq_some_iff.1 q2).1 H.len;have:=hanc j hjl q4;rw[hif] at this;cases this
  ·have hki:∀ k s,(k,s)∈ks->s=u->k≠i:=by
    rintro k s hm hsu rfl;have h1:=hbd k s hm hsu;rw[hii] at h1;simp only[Bool.true_and,Bool.not_eq_false'] at h1;exact(hcov hut k h1).2 rfl
   have hbd2:bads (fun j=>listed.getD j false&&!(cov an (fun j=>listed.getD j false) its u j)) ks u=false:=by
    rw[U8];intro k s hm hsu;have h1:=hbd k s hm hsu;have h2:=hki k s hm hsu;rw[getD_set_ne false (fun e=>h2 e.symm)] at h1
    cases hd:listed.getD k false with
    | false=>rfl
    | true=>
     rw[hd] at h1;simp only[Bool.true_and,Bool.not_eq_false'] at h1 ⊢;exact(hcov hut k h1).1
   have hold:afts an (fun j=>listed.getD j false) ks σ.env its u=some y/\y.albIn ids=false:=by
    unfold afts;rw[hbd2];simp only[cond_false]
    rcases b8 its u with hu|⟨k,dk,wk,hk⟩
    ·rw[b9 hu] at hy ⊢;exact⟨hy,(ZL hE hy).resolve_right fun h=>hki i u h rfl rfl⟩
    ·rw[n6 hnd hk] at hy ⊢;simp only[Nat.zero_add] at hy ⊢
     have hne:i≠k:=by
      rintro rfl;rw[hit] at hk;cases hk;exact hut rfl
     rw[getD_set_ne false hne] at hy;refine⟨hy, ?_⟩
     cases hd:listed.getD k false with
     | false=>
      rw[hd] at hy;exact(ZL hE hy).resolve_right fun h=>hki i u h rfl rfl
     | true=>
      rw[hd] at hy;simp only[cond_true] at hy
      cases wk with
      | false=>simp at hy;subst hy;simp[D.albIn]
      | true=>
       simp at hy;subst hy
       rcases BF hI hk with h|h|h
       ·exact h
       ·exact absurd rfl (hki i u h rfl)
       ·simp only[Nat.zero_add] at h;rw[hnot k (by rw[<- hsize];exact o9 hd) h] at hd;cases hd
   exact hg2 u y hki (hinv u y hold.1) hold.2
structure ItE(σ:Sg)(efs:Efs)(ops:List Oper)(an:List Nat)(ks:List (Nat×Nat))(its:List It):Prop where
 N:∃ N,IA N (slots its)=true
 len:its.length<=ops.length
 ref:HS an ks (slots its) its 0=true
 env:HT (slots its) σ.env=true
 ef:WS an its.length efs=true
 alb:ML σ.env an ks its efs=true
def PO(σ:Sg)(efs:Efs)(listed:Array Bool)(τ:Sg):Prop:=∀ id,τ.box id=PN (fun j=>listed.getD j false) id efs (lk σ.bx id)
theorem LI{efs:Efs}(H:ItE σ efs ops an ks its)(hall:AllE P C σ efs ops an ks kk its ops its 0)(hsub:subs kk ks=true)
 (hsize:listed.size=ops.length) {i:Nat} {oi:Oper} (hi:i<its.length) (ho:ops[i]? = some oi) (hun:listed.getD i true=false)
 (hanc:∀ j,j<ops.length->tb (nth an i) j=true->listed.getD j false=true) (hnot:∀ j,j<ops.length->tb (nth an j) i=true->listed.getD j false=false)
 {τ:Sg} (hs:St C τ a w) (hn:τ.n=σ.n) (hb:PO σ efs listed τ) (hinv:JP σ an ks its listed τ) {K:Act->World->Prop} {Q:Exit->Act->World->Prop}
 (hK:∀ a' w' τ',St C τ' a' w'->τ'.n=σ.n->PO σ efs (listed.setIfInBounds i true) τ'->JP σ an ks its (listed.setIfInBounds i true) τ'->K a' w') :
 Region.wanted oi (yielded ops.toArray a.tmps)=true/\oi.wpIn (Fx C) 3 P a w K Q∨Region.wanted oi (yielded ops.toArray a.tmps)=false/\K (a.put oi.dst undef) w:=by
 obtain⟨N,hN⟩:=H.N
 have HG:ItG ⟨N,σ.env,σ.bx⟩ ops an ks its:=⟨H.len,hN,H.ref,H.env⟩
 obtain⟨⟨t,d,wt⟩,hit⟩:∃ it,its[i]? = some it:=⟨its[i],List.getElem?_eq_getElem hi⟩
 obtain⟨o,ho',hcl⟩:=hall.at hit;rw[ho] at ho';cases ho';simp only[Nat.zero_add] at hcl;obtain⟨hin,hif⟩:=undone hun
 have hil:i<ops.length:=by rw[<- hsize];exact hin
 have hfact:∀ u x,facts an ks σ.env its i u=some x->τ.get u=some x:=DO HG hsize hi hun hanc hnot hinv;have hefl:∀ j l,(j,l)∈efs->j<ops.length:=fun j l hm=>Nat.lt_of_lt_of_le (SF H.ef j l hm) H.len
 have hbx:∀ id x,bxk an i id efs (lk σ.bx id)=some x->τ.box id=some x:=fun id x hx=>by
  rw[hb id];exact x70 hif (fun j l hm ht=>hanc j (hefl j l hm) ht) (fun j l hm ht=>hnot j (hefl j l hm) ht) (fun _ h=>h) hx
 cases hef:lk efs i with
 | some l=>
  rw[hef] at hcl;simp only at hcl;obtain⟨hg,rfl,hdst,hsp⟩:=hcl;have hm:=PQ hef;have halb:=IF H.alb _ hm;simp only[Bool.and_eq_true] at halb
  have hfre:∀ id,j21 an σ.bx efs i id=true->τ.box id=none:=fun id hf=>by
   unfold j21 at hf;simp only[Bool.and_eq_true,Option.isNone_iff_eq_none] at hf;rw[hb id,hf.1];refine NO fun j l hm hs=>?_;have:=q19 hf.2 _ hm;simp only[Bool.or_eq_true,Option.isNone_iff_eq_none] at this
   rcases this with (h|h)|h
   ·rw[Nat.eq_of_beq_eq_true h];exact hif
   ·rw[h] at hs;cases hs
   ·exact hnot j (hefl j l hm) h
  obtain⟨τ',h1,h2,h3,h4⟩:=hsp τ hn hbx hfre hfact
  have hbn:∀ id,τ'.box id=PN (fun j=>(listed.setIfInBounds i true).getD j false) id efs (lk σ.bx id):=fun id=>by
   rw[h3 id,hb id];rw[<- j30 (f:=fun j=>listed.getD j false) hif H.ef hm (fun j l hm ht=>hnot j (hefl j l hm) ht)];refine KQ fun j l hm _=>?_;by_cases hji:j=i
   ·subst hji;simp[hin]
   ·rw[getD_set_ne false (fun e=>hji e.symm),nbeq hji,Bool.or_false]
  refine .inl ⟨R5 hg _,h1 a w hs _ _ fun a' w' hs'=>?_⟩;unfold x62 at hdst
  cases hd:oi.dst with
  | none=>
   rw[hd] at hdst hs';exact hK a' w' _ hs' (h2.trans hn) hbn (ER HG hsize hit hun hanc hnot halb.1 halb.2 (UM hdst) hinv τ' h4)
  | some t'=>
   rw[hd] at hdst hs';exact hK a' w' _ hs' (h2.trans hn) hbn (O1 HG hsize hit hun hnot halb.1 halb.2 hinv d rfl τ' h4)
 | none=>
  rw[hef] at hcl;simp only at hcl;obtain⟨hdst,htn0,hwt,hop⟩:=hcl
  have htn:t<τ.n:=by rw[hn];exact htn0
  have hEi:P2 [] ks i σ.env=true:=JZ _;have hIi:∀ j,P1 [] an ks i its j=true:=fun j=>JQ _ j
  have hbn:∀ τ':Sg,τ'.bx=τ.bx->PO σ efs (listed.setIfInBounds i true) τ':=fun τ' hbb id=>by
   have:τ'.box id=τ.box id:=by simp only[Sg.box,hbb]
   rw[this,hb id];refine KQ fun j l hm _=>?_;rw[getD_set_ne false];rintro rfl;have:=k98 hm;rw[hef] at this;cases this
  rw[hwt.ok hs hfact];have hkn:=NJ τ kk i
  cases hwt2:wt with
  | false=>
   refine .inr ⟨rfl, ?_⟩;rw[hdst];exact hK _ _ _ (hs.unwanted htn) hn (hbn _ rfl) (O1 HG hsize hit hun hnot hEi (hIi 0) hinv (.tup []) (by rw[hwt2];rfl) τ (fun u y _ h _=>h))
  | true=>
   refine .inl ⟨rfl,hop hwt2 τ hbx htn hfact a w hs _ _ fun a' w' hs'=>?_⟩;exact hK _ _ _ hs' (hkn.1.trans hn) (hbn _ hkn.2) (O1 HG hsize hit hun hnot hEi (hIi 0) hinv d (by rw[hwt2];rfl) _ (fun u y hu hy _=>(UB (fun k s hm=>hu k s (MC hsub k s hm))).trans hy))
theorem LR{efs:Efs}{bx1:List (Nat×Bx)}(hA:KY ops an its.length=true)(H:ItE σ efs ops an ks its)(hall:AllE P C σ efs ops an ks kk its ops its 0)(hsub:subs kk ks=true)
 {live:List Nat} {env':List (Nat×D)} (hE:picks (afts an (fun _=>true) ks σ.env its) live=env') {nd:Nat} (hb1:w43 nd (w45 efs σ.bx)=bx1)
 (hT:TL P C Q (ops.drop its.length) ⟨σ.n,env',bx1⟩):∀ (fuel:Nat) (listed:Array Bool) (a:Act) (w:World) (τ:Sg),Cl ops listed->listed.toList.count false<=fuel ->
 (∀ j,its.length<=j->j<ops.length->listed.getD j true=false)->St C τ a w->τ.n=σ.n->PO σ efs listed τ->JP σ an ks its listed τ ->
 wpAnyIn (Fx C) 3 P .any ops.toArray (fun e a' w'=>∃ σ',St C σ' a' w'/\Q e σ') fuel listed a w:=by
 obtain⟨N,hN⟩:=H.N;have hefl:∀ j l,(j,l)∈efs->j<its.length:=fun j l hm=>SF H.ef j l hm
 have fin:∀ (listed:Array Bool) (a:Act) (w:World) (τ:Sg),(∀ j,j<its.length->listed.getD j false=true)->St C τ a w->τ.n=σ.n->PO σ efs listed τ->JP σ an ks its listed τ ->
  St C ⟨σ.n,env',bx1⟩ a w:=by
  intro listed a w τ hall' hs hn hb hinv
  have hbb:∀ id,lk bx1 id=τ.box id:=fun id=>by
   rw[<- hb1,x39,x40,hb id];exact KQ fun j l hm _=>(hall' j (hefl j l hm)).symm
  refine(hs.rebox hbb).weaken hn.symm rfl fun t d hd=>hinv t d ?_;have:=A0 (f:=afts an (fun _=>true) ks σ.env its) (l:=live) (by rw[hE];exact hd);unfold afts at this ⊢
  cases hb:bads (fun k=>true&&!(cov an (fun _=>true) its t k)) ks t with
  | true=>rw[hb] at this;cases this
  | false=>
   rw[hb] at this;rw[s6 (fun j dj wj hj=>hall' j (List.getElem?_eq_some_iff.1 hj).1) hb];simp only[cond_false] at this ⊢
   rcases b8 its t with hu|⟨k,dk,wk,hk⟩
   ·rw[b9 hu] at this ⊢;exact this
   ·rw[n6 (J4 hN).1 hk] at this ⊢;simp only[Nat.zero_add] at this ⊢;rw[hall' k (List.getElem?_eq_some_iff.1 hk).1];exact this
 intro fuel
 induction fuel with
 | zero=>
  intro listed a w τ hc hf h2 hs hn hb hinv;by_cases hall':∀ j,j<its.length->listed.getD j false=true
  ·exact I0 hA _ its.length 0 listed a w ⟨σ.n,env',bx1⟩ rfl (Nat.le_refl _) H.len hc hf hall' h2 (fin listed a w τ hall' hs hn hb hinv) hT
  ·exfalso;apply hall';intro j hj;have:=f7 (listed:=listed) (by omega) j
   have hjl:j<listed.size:=by rw[hc.size];have:=H.len;omega
   simp[hjl] at this ⊢;exact this
 | succ fuel ih=>
  intro listed a w τ hc hf h2 hs hn hb hinv;by_cases hall':∀ j,j<its.length->listed.getD j false=true
  ·exact I0 hA _ its.length (fuel+1) listed a w ⟨σ.n,env',bx1⟩ rfl (Nat.le_refl _) H.len hc hf hall' h2 (fin listed a w τ hall' hs hn hb hinv) hT
  ·have hsome:∃ j,j<its.length/\listed.getD j true=false:=by
    rcases Classical.not_forall.1 hall' with ⟨j,hj⟩
    rcases Classical.not_imp.1 hj with ⟨hj1,hj2⟩
    refine⟨j,hj1, ?_⟩
    have hjl:j<listed.size:=by rw[hc.size];have:=H.len;omega
    simp[hjl] at hj2 ⊢;exact hj2
   have key:∀ n j,j=n->j<its.length->listed.getD j true=false->∃ k,k∈Region.ready .any ops.toArray listed:=by
    intro n
    induction n using Nat.strongRecOn with
    | _ n ihn=>
     intro j hjn hj hu;have hjl:j<ops.length:=Nat.lt_of_lt_of_le hj H.len;have ho:ops[j]? = some ops[j]:=List.getElem?_eq_getElem hjl;by_cases hr:∀ e∈ops[j].after,Region.binds .any e=true->listed.getD e.on false=true
     ·exact⟨j,mem_ready.2 ⟨hu,_,by simp,hr⟩⟩
     ·rcases Classical.not_forall.1 hr with ⟨e,he⟩
      rcases Classical.not_imp.1 he with ⟨he1,he2⟩
      rcases Classical.not_imp.1 he2 with ⟨he3,he4⟩
      have hlt:=(K9 hA ho).1 e he1 he3;refine ihn e.on (by omega) e.on rfl (by omega) ?_
      have hel:e.on<listed.size:=by rw[hc.size];omega
      simp[hel] at he4 ⊢;exact he4
   obtain⟨j0,hj0,hu0⟩:=hsome;refine⟨fun hr=>?_,fun i hi=>?_⟩
   ·obtain⟨k,hk⟩:=key j0 j0 rfl hj0 hu0;rw[hr] at hk;cases hk
   ·obtain⟨h3,oi,h4,h5⟩:=mem_ready.1 hi
    have ho:ops[i]? = some oi:=by simpa using h4
    have hil:i<ops.length:=(List.getElem?_eq_some_iff.1 ho).1
    have him:i<its.length:=by
     rcases Nat.lt_or_ge i its.length with h|h
     ·exact h
     ·exfalso;obtain⟨_,h9⟩:=K9 hA ho;have hj0l:j0<ops.length:=Nat.lt_of_lt_of_le hj0 H.len;obtain⟨h10,h11⟩:=h9 j0 hj0l;obtain⟨e,he,hb,h12⟩:=h10 (h11 h (by omega));have hd:=h5 e he hb
      have hkd:listed.getD j0 false=true:=by
       rcases h12 with rfl|h12
       ·exact hd
       ·exact hc.anc hA e.on (by rw[<- hc.size];exact o9 hd) hd j0 hj0l h12
      rw[(undone hu0).2] at hkd;cases hkd
    have hspc:=(K9 hA ho).2;have hif:=(undone h3).2
    have hanc:∀ j,j<ops.length->tb (nth an i) j=true->listed.getD j false=true:=by
     intro j hj ht;obtain⟨e,he,hb,h1⟩:=(hspc j hj).1 ht;have hd:=h5 e he hb
     rcases h1 with rfl|h1
     ·exact hd
     ·exact hc.anc hA e.on (by rw[<- hc.size];exact o9 hd) hd j hj h1
    have hnot:∀ j,j<ops.length->tb (nth an j) i=true->listed.getD j false=false:=by
     intro j hj ht
     cases hd:listed.getD j false with
     | false=>rfl
     | true=>have:=hc.anc hA j hj hd i hil ht;rw[hif] at this;cases this
    suffices hK:∀ a' w' τ',St C τ' a' w'->τ'.n=σ.n->PO σ efs (listed.setIfInBounds i true) τ'->JP σ an ks its (listed.setIfInBounds i true) τ'->wpAnyIn (Fx C) 3 P .any ops.toArray (fun e a' w'=>∃ σ',St C σ' a' w'/\Q e σ') fuel (listed.setIfInBounds i true) a' w' by
     unfold Go.wpOpIn;simp only[h4]
     rcases LI H hall hsub hc.size him ho h3 hanc hnot hs hn hb hinv hK with ⟨e1,e2⟩|⟨e1,e2⟩
     ·simp only[e1,if_true];exact e2
     ·simp only[e1,Bool.false_eq_true,if_false];exact⟨fun _ _=>trivial,e2⟩
    intro a' w' τ' hs' hn' hb' hinv';refine ih _ a' w' τ' (hc.set ho h5) (by have:=count_set h3;omega) (fun j hj hjl=>?_) hs' hn' hb' hinv';rw[getD_set_ne true (by omega)];exact h2 j hj hjl
theorem U9{id m n' nd:Nat}{efs:Efs}{bx1:List (Nat×Bx)}(hm:P.follows .mixedOrders=true)(hA0:KY ops an m=true)(hlen:its.length=m)
 (H:ItE σ efs ops an ks its) (hall:AllE P C σ efs ops an ks kk its ops its 0) (hsub:subs kk ks=true)
 {live:List Nat} {env':List (Nat×D)} (hE:picks (afts an (fun _=>true) ks σ.env its) live=env') (hb1:w43 nd (w45 efs σ.bx)=bx1)
 (hn:σ.n=n') (hT:TL P C Q (ops.drop its.length) ⟨n',env',bx1⟩):W P C (.region id ops.toArray true) Q σ:=by
 intro a w hs;refine wpIn_region_any hm ?_
 have hgd:∀ k,(Array.replicate ops.toArray.size false).getD k false=false:=by
  intro k;simp only[Array.getD_eq_getD_getElem?,Array.getElem?_replicate]
  split<;>rfl
 have hc:Cl ops (Array.replicate ops.toArray.size false):=⟨by simp,fun i o _ hd=>by rw[hgd] at hd;cases hd⟩
 have hA:KY ops an its.length=true:=by rw[hlen];exact hA0
 obtain⟨N,hN⟩:=H.N;subst hn;refine LR hA H hall hsub hE hb1 hT _ _ a _ σ hc ?_ ?_ (hs.ext (Ext.drew w)) rfl ?_ (fun u x hx=>?_)
 ·simp
 ·intro j _ hj;simp[hj]
 ·exact fun id=>(NO fun j l _ _=>hgd j).symm
 ·unfold afts at hx;generalize hb:bads _ ks u=bb at hx
  cases bb with
  | true=>cases hx
  | false=>
   simp only[cond_false] at hx
   rcases b8 its u with hu|⟨k,dk,wk,hk⟩
   ·rw[b9 hu] at hx;exact hx
   ·rw[n6 (J4 hN).1 hk,hgd] at hx;exact hx
theorem SpE.alloc{efs:Efs}{i t ty rt:TypeId}{d:D}{pos:String}{aft:Array Edge}[hZ:ZrT P ty d](hf:j21 an σ.bx efs i t=true)(ht:t<σ.n) :
 SpE P C σ efs i [(t,.var d)] an ks its ⟨some t,.alloc ty,rt,pos,aft,none⟩ t (.ptr t 0 []):=by
 intro τ hn hb hfr hfa;refine⟨τ.newB t (.var d),R.alloc (hfr t hf) (by rw[hn];exact ht),rfl,fun id=>?_,fun u y _ hy _=>hy⟩;rw[A7];by_cases hid:t=id
 ·subst hid;simp[lk]
 ·simp[lk,hid,nbeq hid]
theorem PE{τ:Sg}{id:Nat}{x y:Bx}(h:τ.box id=some y)(i:Nat):(τ.putB id x).box i=match lk [(id,x)] i with|some z=>some z|none=>τ.box i:=by
 rw[ZU];by_cases hi:i=id
 ·subst hi;simp[lk,h]
 ·simp[lk,hi,nbeq (show ¬ id=i from fun e=>hi e.symm)]
theorem JD{efs:Efs}{i t p id off:Nat}{d:D}{path:List Nat}{x:Operand}{d0 d1 d' dx:D}{ty n rt:TypeId}{gg:Bool}{pos:String}{aft:Array Edge}[LdT P ty n gg]
 (hp:facts an ks σ.env its i p=some (.ptr id off path)) (hb:bxk an i id efs (lk σ.bx id)=some (.var d0)) (hl:d0.loc path=some (off,d1))
 (hx:∀ τ:Sg,(∀ u x,facts an ks σ.env its i u=some x->τ.get u=some x)->ev C.gl τ x=some dx) (hpu:dx.pur=true) (hnp:dx.np=true)
 (hn:dx.sz=n) (hz:d1.sz=n) (hu:d0.upd path dx=some d') :
 SpE P C σ efs i [(id,.var d')] an ks its ⟨none,.store ty (.tmp p) x,rt,pos,aft,none⟩ t d:=by
 intro τ hn' hbk hfr hfa;have hbx:=hbk _ _ hb;refine⟨τ.putB id (.var d'),R.st (hfa _ _ hp) hbx hl (hx τ hfa) hpu hnp hn (hn.trans hz.symm) hu,rfl,PE hbx,fun u y _ hy ha=>?_⟩;rw[A2,hy,Option.map_some,i4 ha]
theorem ZD{efs:Efs}{c:Nat}{s id off t e z bytes:Nat}{path:List Nat}{d0 d0':D}{x:Operand}{l l' l2:List D}{ty rt:TypeId}{pos:String}{aft:Array Edge}[hT:SlT P ty e][hE:ElT P e z bytes]
 (hs:facts an ks σ.env its c s=some (.alb id off path)) (hb:bxk an c id efs (lk σ.bx id)=some (.var d0)) (hl:d0.loc path=some (off,.sl (some e) z l)) (hna:d0.noArr path=true) (hu:d0.upd path .dead=some d0')
 (hx:∀ τ:Sg,(∀ i x,i≠id->bxk an c i efs (lk σ.bx i)=some x->τ.box i=some x)->(∀ u x,facts an ks σ.env its c u=some x->x.albIn [id]=false->Nat.beq u s=false->τ.get u=some x)->SrcO C.gl τ x z l')
 (he:l++l'=l2) (hn:l.length+l'.length<=1073741824) (hst:s≠t) (hby:bytes<=131072) (hk:has ks c s=true) (ht:t<σ.n) :
 SpE P C σ efs c [(id,.var d0')] an ks its ⟨some t,.call { callee:=.builtin .append,args:=#[.tmp s,x],argTypes:=#[ty,ty] },rt,pos,aft,none⟩ t (.sl (some e) z l2):=by
 intro τ hτn hbk hfr hf;have hbτ:=hbk _ _ hb
 have hget:∀ u,((τ.putB id (.var d0')).upd s (.sl (some e) z l)).get u=if u=s then some (.sl (some e) z l) else(τ.get u).map (M9 id):=fun u=>by
  rw[i9,A2];by_cases hus:u=s
  ·subst hus;simp[hf _ _ hs]
  ·simp[hus]
 have hbx2:∀ i,((τ.putB id (.var d0')).upd s (.sl (some e) z l)).box i=(τ.putB id (.var d0')).box i:=fun i=>rfl;refine⟨((τ.putB id (.var d0')).upd s (.sl (some e) z l)).kill s,QQ (hf _ _ hs) hbτ hl hna hu rfl (by rw[hget];simp) (hx _ (fun i x hi hix=>?_) (fun u x hux ha hus=>?_)) he hn (by rw[hτn];exact ht) hst hby,rfl,fun i=>?_,fun u y hk' hy ha=>?_⟩
 ·rw[hbx2,ZU,if_neg hi];exact hbk i x hix
 ·rw[hget,hf _ _ hux]
  have:¬ u=s:=fun e=>by subst e;simp at hus
  simp[this,i4 ha]
 ·exact PE hbτ i
 ·rw[L7,hget,hy];have:¬ u=s:=fun e=>hk' c s (UM hk) e.symm rfl;have ha':y.albIn [id]=false:=ha;simp[this,i4 ha']
theorem j50{efs:Efs}{i t:Nat}{l:List (Nat×Bx)}{o:Oper}{d d':D}(h:SpE P C σ efs i l an ks its o t d)(hd:o.dst=some t)(hr:d.isRef=false)(he:d.brw=d'):SpE P C σ efs i l an ks its o t d':=by
 intro τ hn hb hfr hfa;obtain⟨τ',h1,h2,h3,h4⟩:=h τ hn hb hfr hfa;refine⟨τ', ?_,h2,h3,h4⟩;rw[hd] at h1 ⊢;exact e9 h1 hr he
def x44(an:List Nat)(c:Nat)(efs:Efs)(bx:List (Nat×Bx)):List (Nat×Bx)->Prop
 | []=>True
 | (k,y)::r=>bxk an c k efs (lk bx k)=some y/\x44 an c efs bx r
theorem z63{c:Nat}{efs:Efs}{bx:List (Nat×Bx)}{τ:Sg}(hb:∀ id x,bxk an c id efs (lk bx id)=some x->τ.box id=some x):∀ {l:List (Nat×Bx)},x44 an c efs bx l->KB τ.bx l:=by
 intro l
 induction l with
 | nil=>intro _;trivial
 | cons y r ih=>
  obtain⟨k,y⟩:=y;intro h;exact⟨hb k y h.1,ih h.2⟩
theorem SpE.callB{efs:Efs}{c:Nat}{f:FuncId}[CaT P f]{t:Nat}{args:List Operand}{tys:Array TypeId}{rt:TypeId}{pos:String}{aft:Array Edge}{gl:List (Nat×D)}{ds:List D}{r r':D}{bx bx' cx cx':List (Nat×Bx)}
 (ml:List (Nat×Nat)) (hC:C.gl=gl) (hF:FnB P gl f ds bx r bx' []) (ha:∀ τ:Sg,(∀ u x,facts an ks σ.env its c u=some x->τ.get u=some x)->EvB C.gl τ (mlk ml) (bx.map Prod.fst) args ds)
 (hcx:v6 (mlk ml) bx=cx) (hlk:x44 an c efs σ.bx cx) (hob:L3 (bx.map Prod.fst) bx) (hcx':v6 (mlk ml) bx'=cx') (hr:r.ren (mlk ml)=r')
 (hk:bx'.map Prod.fst=bx.map Prod.fst) (hinj:ED (mlk ml) (bx'.map Prod.fst)=true) (ht:t<σ.n) :
 SpE P C σ efs c cx' an ks its ⟨some t,.call { callee:=.value (.func f),args:=args.toArray,argTypes:=tys },rt,pos,aft,none⟩ t r':=by
 intro τ hτn hbk hfr hf;have hhas:=z63 hbk hlk
 have hkeys:cx'.map Prod.fst=cx.map Prod.fst:=by rw[<- hcx',<- hcx,N3,N3,hk]
 refine⟨⟨τ.n,A9 (cx.map Prod.fst) τ.env,[]++H1 cx' τ.bx⟩,R.callB (nw:=[]) ml hC hF (ha τ hf) hcx hhas hob hcx' rfl hr hk rfl (by simpa using hinj) (by rw[hτn];exact ht),rfl,fun id=>?_,fun u y _ hy hal=>?_⟩
 ·show lk ([]++H1 cx' τ.bx) id=_;rw[List.nil_append,DY];show Option.map _ (τ.box id)=_
  cases hb:τ.box id with
  | some x=>cases lk cx' id<;>simp
  | none=>
   have:lk cx' id=none:=by
    cases hc:lk cx' id with
    | none=>rfl
    | some y=>
     have h1:id∈cx.map Prod.fst:=by rw[<- hkeys];exact X7.1 (by rw[hc];rfl)
     obtain⟨⟨k,z⟩,hm,rfl⟩:=List.mem_map.1 h1;have:=UN hhas k z hm;rw[show lk τ.bx k=τ.box k from rfl,hb] at this;cases this
   rw[this];rfl
 ·rw[hkeys] at hal;exact IJ _ _ u hy hal
end
end Go.Sx

namespace Go.Sx
variable{P:Program}{C:Ctx}{σ σ' σ1:Sg}{a:Act}{w w':World}{ρ:Nat->Nat}{Fe Fe' Fb:Nat->List Nat}
theorem JE{z:Nat}:∀ (l:List D),(∀ x∈l,x.sz=z)->Z5 l=l.length*z:=by
 intro l
 induction l with
 | nil=>intro _;simp
 | cons x r ih=>
  intro h;simp only[H0,List.length_cons];rw[h x (by simp),ih (fun y hy=>h y (List.mem_cons_of_mem _ hy)),Nat.add_mul,Nat.one_mul,Nat.add_comm]
theorem XK{z:Nat}(l r:List D)(h:∀ x∈l,x.sz=z)(k:Nat)(hk:k<=l.length):offk (l++r) k=k*z:=by
 unfold offk;rw[List.take_append_of_le_length hk,JE (l.take k) (fun x hx=>h x (List.mem_of_mem_take hx)),List.length_take,Nat.min_eq_left hk]
theorem WT{z:Nat}(l:List D)(h:∀ x∈l,x.sz=z)(m j:Nat)(hj:j<=m):offk (l++List.replicate m .dead) (l.length+j)=l.length*z+j:=by
 unfold offk;rw[List.take_append,List.take_of_length_le (by omega),KR,JE l h]
 have:l.length+j-l.length=j:=by omega
 rw[this,List.take_replicate,Nat.min_eq_left hj,T8]
theorem Rc.open{G L:Nat->Prop}{e z:Nat}{l:List D}{v:Value}{F:List Nat}(h:Rc w ρ G L true (.sl (some e) z l) [v] F)(hne:l≠[])(hF:F.Nodup) :
 ∃ b csb cap F1,v=.slice (some ⟨b,0,none⟩) l.length cap/\w.heap[b]? = some (.cells csb e (0,0))/\l.length<=cap/\cap<=maxLen/\(b::F1).Nodup/\(∀ y∈b::F1,y∈F) /\
  Rc w ρ G L true (.agg (l++List.replicate ((cap-l.length)*z) .dead)) csb.toList F1:=by
 generalize hv:[v]=cv at h
 cases h with
 | slN=>exact absurd rfl hne
 | slE=>exact absurd rfl hne
 | slO b cs e cap z l Fs hb hc hm hs ho hr=>
  cases hv;obtain⟨hn1,hn2⟩:=List.nodup_cons.1 hF;obtain⟨hn3,hn4⟩:=H2 hn2
  have hlz:l.length*z<=cs.size:=by rw[hs];exact Nat.mul_le_mul_right z hc
  have hsz:∀ x∈l,x.sz=z:=by
   intro x hx;obtain⟨i,hi,rfl⟩:=List.mem_iff_getElem.1 hx;rw[<- (hr i hi).len];have:=Nat.mul_le_mul_right z (show i+1<=l.length by omega);rw[Nat.add_mul] at this;simp;omega
  have hcap:(cap-l.length)*z=cap*z-l.length*z:=Nat.sub_mul _ _ _
  let m:=(cap-l.length)*z
  refine⟨b,cs,cap,(List.range (l++List.replicate m D.dead).length).flatMap (fun k=>if k<l.length then Fs k else[]),rfl,hb,hc,hm, ?_, ?_, ?_⟩
  ·refine List.nodup_cons.2 ⟨fun hm'=>hn1 ?_,Q4 (fun i hi=>?_) (fun i j hi hj hij y hy hy'=>?_)⟩
   ·obtain⟨i,_,hx⟩:=List.mem_flatMap.1 hm';by_cases hil:i<l.length
    ·simp only[hil,if_true] at hx;exact List.mem_flatMap.2 ⟨i,List.mem_range.2 hil,hx⟩
    ·simp[hil] at hx
   ·by_cases hil:i<l.length
    ·simp only[hil,if_true];exact hn3 i hil
    ·simp[hil]
   ·by_cases hil:i<l.length
    ·by_cases hjl:j<l.length
     ·simp only[hil,hjl,if_true] at hy hy';exact hn4 i j hil hjl hij y hy hy'
     ·simp[hjl] at hy'
    ·simp[hil] at hy
  ·intro y hy
   rcases List.mem_cons.1 hy with rfl|hy
   ·simp
   ·obtain⟨i,_,hx⟩:=List.mem_flatMap.1 hy;by_cases hil:i<l.length
    ·simp only[hil,if_true] at hx;exact List.mem_cons_of_mem _ (List.mem_flatMap.2 ⟨i,List.mem_range.2 hil,hx⟩)
    ·simp[hil] at hx
  ·refine .agg _ _ _ ?_ (fun k hk=>?_)
   ·rw[KR,JE l hsz,T8];simp only[Array.length_toList,m];omega
   ·by_cases hkl:k<l.length
    ·simp only[List.getElem_append_left hkl,hkl,if_true];rw[XK l _ hsz k (by omega),hsz _ (List.getElem_mem hkl)];exact(hr k hkl).flag
    ·have hk':k<l.length+m:=by simpa using hk
     obtain⟨j,rfl⟩:∃ j,k=l.length+j:=⟨k-l.length,by omega⟩
     simp only[hkl,if_false];rw[List.getElem_append_right (by omega),List.getElem_replicate,WT l hsz m j (by omega)]
     have hjl:l.length*z+j<cs.toList.length:=by simp only[Array.length_toList,m] at hk' ⊢;omega
     have:(cs.toList.drop (l.length*z+j)).take 1=[cs.toList[l.length*z+j]]:=by
      rw[List.drop_eq_getElem_cons hjl];rfl
     show Rc w ρ G L true .dead ((cs.toList.drop (l.length*z+j)).take 1) [];rw[this];exact .dead _ (ho _ (List.getElem_mem hjl))
theorem k37{id id0 off e z:Nat}{path:List Nat}{l:List D}{d0 d1:D}{d2:Nat->D}(hb0:σ.box id0=some (.var d0))(hl:d0.loc path=some (off,.sl (some e) z l))(hna:d0.noArr path=true)(hu:d0.upd path .dead=some d1)
 (hl1:d1.loc path=some (off,.dead)) (hna1:d1.noArr path=true) (hu1:∀ cap,d1.upd path (.bs id z l.length cap)=some (d2 cap)) (hne:l≠[]) (hid:σ.box id=none) (hs:St C σ a w) :
 ∃ cap,l.length<=cap/\cap<=maxLen/\St C ⟨σ.n,σ.env,(id,.var (.agg (l++List.replicate ((cap-l.length)*z) .dead)))::setb id0 (.var (d2 cap)) σ.bx⟩ a w:=by
 obtain⟨ρ,Fe,Fb,st⟩:=hs;obtain⟨cs,e0,F',q1,q2,q3⟩:=st.bx id0 _ hb0
 have hnd:(ρ id0::F').Nodup:=by have:=st.nodB id0;rw[q3] at this;exact this
 obtain⟨hn1,hn2⟩:=List.nodup_cons.1 hnd;obtain⟨v,F1,F2,t1,t2,t3,t4,t5,t6,t7,t8,t9⟩:=q2.take hl hna hu hn2
 obtain⟨b,csb,cap,F3,rfl,o2,o3,o4,o5,o6,o7⟩:=t2.open hne t6
 have hii:id≠id0:=by rintro rfl;rw[hb0] at hid;cases hid
 have hbox:∀ i,(⟨σ.n,σ.env,(id,.var (.agg (l++List.replicate ((cap-l.length)*z) .dead)))::setb id0 (.var (d2 cap)) σ.bx⟩:Sg).box i=if i=id then some (.var (.agg (l++List.replicate ((cap-l.length)*z) .dead))) else if i=id0 then some (.var (d2 cap)) else σ.box i:=fun i=>by
  show lk (_::_) i=_;rw[y0,XU];by_cases h1:i=id
  ·simp[h1]
  ·simp only[h1,show ¬ id=i from fun e=>h1 e.symm,if_false];by_cases h2:i=id0
   ·subst h2;have:lk σ.bx i=some (.var d0):=hb0;simp[this]
   ·simp[h2];rfl
 have hρ:∀ i,(σ.box i).isSome=true->(((⟨σ.n,σ.env,(id,.var (.agg (l++List.replicate ((cap-l.length)*z) .dead)))::setb id0 (.var (d2 cap)) σ.bx⟩:Sg).box i).isSome=true/\KI ρ id b i=ρ i):=fun i hi=>by
  have h1:i≠id:=by rintro rfl;rw[hid] at hi;cases hi
  refine⟨?_,C3 h1⟩;rw[hbox,if_neg h1];by_cases h2:i=id0
  ·simp[h2]
  ·simpa [h2] using hi
 have hmo0:∀ {d:D} {cs:List Value} {F:List Nat},Rc w ρ (gd C Fe Fb) (fun i=>(σ.box i).isSome=true) true d cs F ->
  Rc w (KI ρ id b) (gd C Fe Fb) (fun i=>((⟨σ.n,σ.env,(id,.var (.agg (l++List.replicate ((cap-l.length)*z) .dead)))::setb id0 (.var (d2 cap)) σ.bx⟩:Sg).box i).isSome=true) true d cs F:=
  fun h=>h.mono (fun _ _ _=>rfl) (fun y hy _=>hy) hρ
 have hoff:off<cs.toList.length:=(List.getElem?_eq_some_iff.1 t1).1;have hv:cs.toList[off]=.slice (some ⟨b,0,none⟩) l.length cap:=(List.getElem?_eq_some_iff.1 t1).2
 have hbsv:Rc w (KI ρ id b) (gd C Fe Fb) (fun i'=>((⟨σ.n,σ.env,(id,.var (.agg (l++List.replicate ((cap-l.length)*z) .dead)))::setb id0 (.var (d2 cap)) σ.bx⟩:Sg).box i').isSome=true) true (.bs id z l.length cap) [.slice (some ⟨b,0,none⟩) l.length cap] []:=by
  have:=Rc.bs (w:=w) (ρ:=KI ρ id b) (G:=gd C Fe Fb) (L:=fun i'=>((⟨σ.n,σ.env,(id,.var (.agg (l++List.replicate ((cap-l.length)*z) .dead)))::setb id0 (.var (d2 cap)) σ.bx⟩:Sg).box i').isSome=true) id z l.length cap (by rw[hbox];simp) o3
  rwa [ZM] at this
 obtain⟨F4,r1,r2,r3,_,_⟩:=(hmo0 t3).updP hl1 (hu1 cap) rfl hbsv t7 List.nodup_nil (by simp) hna1
 have hcs:cs.toList.take off++[Value.slice (some ⟨b,0,none⟩) l.length cap]++cs.toList.drop (off+1)=cs.toList:=by
  rw[<- hv,List.append_assoc,List.singleton_append,<- List.drop_eq_getElem_cons hoff,List.take_append_drop]
 simp only[List.length_singleton] at r1;rw[hcs] at r1;have r2':∀ y∈F4,y∈F2:=fun y hy=>(r2 y hy).resolve_right (by simp)
 -- who owns what
 let Fb':Nat->List Nat:=upd (upd Fb id0 (ρ id0::F4)) id (b::F3)
 have hF2:∀ y∈ρ id0::F4,y∈Fb id0:=fun y hy=>by
  rw[q3];rcases List.mem_cons.1 hy with rfl|hy
  ·simp
  ·exact List.mem_cons_of_mem _ (t5 y (r2' y hy))
 have hF3:∀ y∈b::F3,y∈Fb id0:=fun y hy=>by rw[q3];exact List.mem_cons_of_mem _ (t4 y (o6 y hy))
 have hF23:∀ y∈b::F3,y∉ρ id0::F4:=fun y hy hy'=>by
  rcases List.mem_cons.1 hy' with rfl|hy'
  ·exact hn1 (t4 _ (o6 _ hy))
  ·exact t8 y (o6 y hy) (r2' y hy')
 have hsub:∀ i,∀ y∈Fb' i,(i=id∨i=id0)/\y∈Fb id0∨(i≠id/\i≠id0/\y∈Fb i):=fun i y hy=>by
  by_cases h1:i=id
  ·subst h1;simp only[Fb',j1] at hy;exact .inl ⟨.inl rfl,hF3 y hy⟩
  ·simp only[Fb',q7 h1] at hy;by_cases h2:i=id0
   ·subst h2;rw[j1] at hy;exact .inl ⟨.inr rfl,hF2 y hy⟩
   ·rw[q7 h2] at hy;exact .inr ⟨h1,h2,hy⟩
 have hown:∀ y,own Fe Fb' y->own Fe Fb y:=fun y hy=>hy.imp (fun h=>h) fun⟨i,hi⟩=>by
  rcases hsub i y hi with ⟨_,h⟩|⟨_,_,h⟩
  ·exact⟨id0,h⟩
  ·exact⟨i,h⟩
 have hg:∀ y,gd C Fe Fb y->gd C Fe Fb' y:=fun y hy=>⟨hy.1,fun hc=>hy.2 (hown y hc)⟩
 have hmo:∀ {d:D} {cs:List Value} {F:List Nat},Rc w ρ (gd C Fe Fb) (fun i=>(σ.box i).isSome=true) true d cs F ->
  Rc w (KI ρ id b) (gd C Fe Fb') (fun i=>((⟨σ.n,σ.env,(id,.var (.agg (l++List.replicate ((cap-l.length)*z) .dead)))::setb id0 (.var (d2 cap)) σ.bx⟩:Sg).box i).isSome=true) true d cs F:=
  fun h=>h.mono (fun _ _ _=>rfl) (fun y hy _=>hg y hy) hρ
 refine⟨cap,o3,o4,KI ρ id b,Fe,Fb',{
  size:=st.size
  defs:=st.defs
  pin:=fun i y hp=>?_
  env:=fun u d hd=>VN (st.env u d hd) (fun _ _ _=>rfl) (fun y hy _=>hg y hy) hρ (fun _ _ _ _ _=>rfl)
  envN:=fun u hu=>st.envN u hu
  bx:=fun i x hx=>?_
  bxN:=fun i hx=>?_
  nodE:=st.nodE
  nodB:=fun i=>?_
  dEE:=st.dEE
  dEB:=fun u i y h1 h2=>?_
  dBB:=fun i i' hne y h1 h2=>?_
  new:=fun y hy=>st.new y (hown y hy)
  kept:=st.kept
  os:=st.os
  tape:=⟨st.tape.tp,st.tape.dr⟩
  output:=st.output
  grown:=st.grown
  gl:=st.gl
  okN:=st.okN
  okO:=fun y hy=>st.okO y (hown y hy) }⟩
 ·have:=hρ i (st.pin i y hp).2;exact⟨this.2.trans (st.pin i y hp).1,this.1⟩
 ·rw[hbox] at hx;by_cases h1:i=id
  ·subst h1;simp only[if_true,Option.some.injEq] at hx;subst hx;refine⟨csb,e,F3, ?_,hmo o7, ?_⟩
   ·rw[ZM];exact o2
   ·simp only[Fb',j1,ZM]
  ·simp only[h1,if_false] at hx;by_cases h2:i=id0
   ·subst h2;simp only[if_true,Option.some.injEq] at hx;subst hx;refine⟨cs,e0,F4, ?_,r1.mono (fun _ _ _=>rfl) (fun y hy _=>hg y hy) (fun i hi=>⟨hi,rfl⟩), ?_⟩
    ·rw[C3 h1];exact q1
    ·simp only[Fb',q7 h1,j1,C3 h1]
   ·simp only[h2,if_false] at hx;simp only[Fb',q7 h1,q7 h2,C3 h1];exact(st.bx i x hx).mono (fun _ _ _=>rfl) (fun y hy _=>hg y hy) hρ
 ·rw[hbox] at hx;by_cases h1:i=id
  ·simp[h1] at hx
  ·simp only[h1,if_false] at hx;by_cases h2:i=id0
   ·simp[h2] at hx
   ·simp only[h2,if_false] at hx;simp only[Fb',q7 h1,q7 h2];exact st.bxN i hx
 ·by_cases h1:i=id
  ·subst h1;simp only[Fb',j1];exact o5
  ·simp only[Fb',q7 h1];by_cases h2:i=id0
   ·subst h2;rw[j1];exact List.nodup_cons.2 ⟨fun hm=>hn1 (t5 _ (r2' _ hm)),r3⟩
   ·rw[q7 h2];exact st.nodB i
 ·rcases hsub i y h2 with ⟨_,h⟩|⟨_,_,h⟩
  ·exact st.dEB u id0 y h1 h
  ·exact st.dEB u i y h1 h
 ·by_cases h3:i=id
  ·subst h3;simp only[Fb',j1] at h1;simp only[Fb',q7 (fun e=>hne e.symm)] at h2;by_cases h4:i'=id0
   ·subst h4;rw[j1] at h2;exact hF23 y h1 h2
   ·rw[q7 h4] at h2;exact st.dBB id0 i' (fun e=>h4 e.symm) y (hF3 y h1) h2
  ·simp only[Fb',q7 h3] at h1;by_cases h5:i'=id
   ·subst h5;simp only[Fb',j1] at h2;by_cases h4:i=id0
    ·subst h4;rw[j1] at h1;exact hF23 y h2 h1
    ·rw[q7 h4] at h1;exact st.dBB i id0 h4 y h1 (hF3 y h2)
   ·simp only[Fb',q7 h5] at h2;by_cases h4:i=id0
    ·subst h4;rw[j1] at h1;rw[q7 (fun e=>hne e.symm)] at h2;exact st.dBB i i' hne y (hF2 y h1) h2
    ·rw[q7 h4] at h1;by_cases h6:i'=id0
     ·subst h6;rw[j1] at h2;exact st.dBB i i' h4 y h1 (hF2 y h2)
     ·rw[q7 h6] at h2;exact st.dBB i i' hne y h1 h2
theorem VG{c:Code}{Q:Exit->Sg->Prop}(id id0:Nat)(path:List Nat){off e z:Nat}{l:List D}{d0 d1:D}{d2:Nat->D}(hb0:σ.box id0=some (.var d0))(hl:d0.loc path=some (off,.sl (some e) z l))(hna:d0.noArr path=true)(hu:d0.upd path .dead=some d1)
 (hl1:d1.loc path=some (off,.dead)) (hna1:d1.noArr path=true) (hu1:∀ cap,d1.upd path (.bs id z l.length cap)=some (d2 cap)) (hne:l≠[]) (hid:σ.box id=none) {bx':Nat->List (Nat×Bx)} (hbx:∀ cap,setb id0 (.var (d2 cap)) σ.bx=bx' cap)
 (k:∀ cap m:Nat,l.length<=cap->cap<=maxLen->m=(cap-l.length)*z->W P C c Q ⟨σ.n,σ.env,(id,.var (.agg (l++List.replicate m .dead)))::bx' cap⟩):W P C c Q σ:=by
 intro a w hs;obtain⟨cap,h1,h2,h3⟩:=k37 hb0 hl hna hu hl1 hna1 hu1 hne hid hs;rw[hbx] at h3;exact k cap _ h1 h2 rfl a w h3
theorem k36{id id0 off z n cap m:Nat}{path:List Nat}{l:List D}{d0 d0':D}{ids:List Nat}{bx':List (Nat×Bx)}(hb0:σ.box id0=some (.var d0))(hb:σ.box id=some (.var (.agg (l++List.replicate m .dead))))(hii:id0≠id)
 (hl:d0.loc path=some (off,.bs id z n cap)) (hna:d0.noArr path=true) (hu:d0.upd path (.sl none z l)=some d0') (hn:l.length=n)
 (hp:∀ x∈l,x.pur=true) (hnp:∀ x∈l,x.np=true) (hz:∀ x∈l,x.sz=z) (hE:KW ids σ.env=true) (hkeep:W7 ids (setb id0 (.var d0') σ.bx)=bx') (hoB:IE ids bx'=true) (hid:d8 ids id=false)
 (hpn:∀ id b,C.pin id=some b->d8 ids id=true) (hs:St C σ a w):St C ⟨σ.n,σ.env,bx'⟩ a w:=by
 subst hn;obtain⟨ρ,Fe,Fb,st⟩:=hs;obtain⟨cs,e0,F',q1,q2,q3⟩:=st.bx id0 _ hb0;obtain⟨csb,e1,F1,p1,p2,p3⟩:=st.bx id _ hb
 have hnd:(ρ id0::F').Nodup:=by have:=st.nodB id0;rw[q3] at this;exact this
 obtain⟨hn1,hn2⟩:=List.nodup_cons.1 hnd
 have hbl:∀ u,lk bx' u=if d8 ids u then(if u=id0 then some (.var d0') else σ.box u) else none:=fun u=>by
  rw[<- hkeep,QV];by_cases h1:d8 ids u=true
  ·simp only[h1,if_true,XU];by_cases h2:u=id0
   ·subst h2;have:lk σ.bx u=some (.var d0):=hb0;simp[this]
   ·simp[h2];rfl
  ·simp[h1]
 have hLb:∀ i,(d8 ids i=true/\(σ.box i).isSome=true)->(lk bx' i).isSome=true:=fun i ⟨h1,h2⟩=>by
  rw[hbl,if_pos h1];by_cases h3:i=id0<;>simp[h3,h2]
 -- the block of box id may be read,and what box id0 holds
 let G0:Nat->Prop:=fun y=>gd C Fe Fb y∨y=ρ id
 have hid_in:ρ id∈Fb id:=by rw[p3];simp
 obtain⟨F5,u1,u2,u3⟩:=q2.loc hl
 have hval:∃ v,(cs.toList.drop off).take 1=[v]/\v=Value.slice (some ⟨ρ id,0,none⟩) l.length cap/\l.length<=cap:=by
  generalize hcc:(cs.toList.drop off).take (D.bs id z l.length cap).sz=cc at u1
  cases u1 with
  | bs _ _ _ _ hL hc=>exact⟨_,hcc,rfl,hc⟩
 obtain⟨v,hv1,hv2,hcap⟩:=hval;subst hv2
 have hoff:off<cs.toList.length:=by
  have:off+(D.bs id z l.length cap).sz<=cs.toList.length:=u3;simp[D.sz] at this;simp;omega
 have hv:cs.toList[off]=.slice (some ⟨ρ id,0,none⟩) l.length cap:=by
  rw[List.drop_eq_getElem_cons hoff] at hv1;simpa using hv1
 have hszl:=JE l hz
 have hclen:csb.toList.length=l.length*z+m:=by rw[p2.len,S9,KR,hszl,T8]
 have hsl:Rc w ρ G0 (fun i=>(σ.box i).isSome=true) true (.sl none z l) [.slice (some ⟨ρ id,0,none⟩) l.length cap] []:=by
  refine .slI (ρ id) 0 csb e1 (0,0) cap z l p1 (.inr rfl) hcap (by simp at hclen;omega) (fun i hi=>?_);generalize hdd:D.agg (l++List.replicate m D.dead)=dd at p2;generalize hcl:csb.toList=cl at p2
  cases p2 with
  | agg l0 _ Fs hs hr=>
   cases hdd
   have hi':i<(l++List.replicate m D.dead).length:=by simp;omega
   have h1:=hr i hi';rw[List.getElem_append_left hi] at h1;rw[XK l _ hz i (by omega),hz _ (List.getElem_mem hi)] at h1;have h2:=h1.pur (hp _ (List.getElem_mem hi));rw[h2] at h1;rw[Nat.zero_add];exact(h1.unflag (hnp _ (List.getElem_mem hi))).mono (fun _ _ _=>rfl) (fun y hy _=>.inl hy) (fun i hi=>⟨hi,rfl⟩)
  | _=>cases hdd
 obtain⟨F4,r1,r2,r3,_,_⟩:=(q2.mono (G':=G0) (fun _ _ _=>rfl) (fun y hy _=>.inl hy) (fun i hi=>⟨hi,rfl⟩)).updP hl hu rfl hsl hn2 List.nodup_nil (by simp) hna
 have hcs:cs.toList.take off++[Value.slice (some ⟨ρ id,0,none⟩) l.length cap]++cs.toList.drop (off+1)=cs.toList:=by
  rw[<- hv,List.append_assoc,List.singleton_append,<- List.drop_eq_getElem_cons hoff,List.take_append_drop]
 simp only[List.length_singleton] at r1;rw[hcs] at r1;have r2':∀ y∈F4,y∈F':=fun y hy=>(r2 y hy).resolve_right (by simp)
 let Fb':Nat->List Nat:=fun i=>if d8 ids i then(if i=id0 then ρ id0::F4 else Fb i) else[]
 have hsub:∀ i,∀ y∈Fb' i,d8 ids i=true/\y∈Fb i:=fun i y hy=>by
  by_cases h1:d8 ids i=true
  ·refine⟨h1, ?_⟩;simp only[Fb',h1,if_true] at hy;by_cases h2:i=id0
   ·subst h2;simp only[if_true] at hy;rw[q3]
    rcases List.mem_cons.1 hy with rfl|hy
    ·simp
    ·exact List.mem_cons_of_mem _ (r2' y hy)
   ·simpa [h2] using hy
  ·simp[Fb',h1] at hy
 have hown:∀ y,own Fe Fb' y->own Fe Fb y:=fun y hy=>hy.imp (fun h=>h) fun⟨i,hi⟩=>⟨i,(hsub i y hi).2⟩
 have hg:∀ y,gd C Fe Fb y->gd C Fe Fb' y:=fun y hy=>⟨hy.1,fun hc=>hy.2 (hown y hc)⟩
 have hgb:gd C Fe Fb' (ρ id):=⟨st.okO _ (.inr ⟨id,hid_in⟩),by
  rintro (⟨u,hu'⟩|⟨i,hi⟩)
  ·exact st.dEB u id _ hu' hid_in
  ·obtain⟨h1,h2⟩:=hsub i _ hi
   have:i≠id:=by rintro rfl;rw[hid] at h1;cases h1
   exact st.dBB i id this _ h2 hid_in⟩
 have hg0:∀ y,G0 y->gd C Fe Fb' y:=fun y hy=>hy.elim (hg y) (fun e=>e▸hgb)
 refine⟨ρ,Fe,Fb',{
  size:=st.size
  defs:=st.defs
  pin:=fun i y hp=>⟨(st.pin i y hp).1,hLb i ⟨hpn i y hp,(st.pin i y hp).2⟩⟩
  env:=fun u d hd=>(st.env u d hd).okB (KV hE hd) (fun y hy _=>hg y hy) hLb
  envN:=st.envN
  bx:=fun i x hx=>?_
  bxN:=fun i hx=>?_
  nodE:=st.nodE
  nodB:=fun i=>?_
  dEE:=st.dEE
  dEB:=fun u i y h1 h2=>st.dEB u i y h1 (hsub i y h2).2
  dBB:=fun i i' hne y h1 h2=>st.dBB i i' hne y (hsub i y h1).2 (hsub i' y h2).2
  new:=fun y hy=>st.new y (hown y hy)
  kept:=st.kept
  os:=st.os
  tape:=⟨st.tape.tp,st.tape.dr⟩
  output:=st.output
  grown:=st.grown
  gl:=st.gl
  okN:=st.okN
  okO:=fun y hy=>st.okO y (hown y hy) }⟩
 ·obtain⟨x,rfl,hok⟩:=AL hoB hx;have h1:=hbl i;rw[show lk bx' i=some (.var x) from hx] at h1;by_cases hm:d8 ids i=true
  ·rw[if_pos hm] at h1;by_cases h2:i=id0
   ·subst h2;simp only[if_true,Option.some.injEq,Bx.var.injEq] at h1;subst h1;exact⟨cs,e0,F4,q1,(r1.okB hok).mono (fun _ _ _=>rfl) (fun y hy _=>hg0 y hy) (fun j hj=>⟨hLb j hj,rfl⟩),by simp only[Fb',hm,if_true]⟩
   ·simp only[h2,if_false] at h1;obtain⟨cs',e',F'',h3,h4,h5⟩:=st.bx i _ h1.symm;exact⟨cs',e',F'',h3,(h4.okB hok).mono (fun _ _ _=>rfl) (fun y hy _=>hg y hy) (fun j hj=>⟨hLb j hj,rfl⟩),by simp only[Fb',hm,h2,if_true,if_false];exact h5⟩
  ·rw[if_neg hm] at h1;cases h1
 ·have h1:=hbl i;rw[show lk bx' i=none from hx] at h1;by_cases hm:d8 ids i=true
  ·rw[if_pos hm] at h1;by_cases h2:i=id0
   ·simp[h2] at h1
   ·simp only[h2,if_false] at h1;simp only[Fb',hm,h2,if_true,if_false];exact st.bxN i h1.symm
  ·simp[Fb',hm]
 ·by_cases hm:d8 ids i=true
  ·simp only[Fb',hm,if_true];by_cases h2:i=id0
   ·subst h2;simp only[if_true];exact List.nodup_cons.2 ⟨fun h=>hn1 (r2' _ h),r3⟩
   ·simp only[h2,if_false];exact st.nodB i
  ·simp[Fb',hm]
theorem VY{c:Code}{Q:Exit->Sg->Prop}(id id0:Nat)(path:List Nat)(ids:List Nat){off z n cap m:Nat}{l:List D}{d0 d0':D}{bx':List (Nat×Bx)}(hb0:σ.box id0=some (.var d0))(hb:σ.box id=some (.var (.agg (l++List.replicate m .dead))))(hii:id0≠id)
 (hl:d0.loc path=some (off,.bs id z n cap)) (hna:d0.noArr path=true) (hu:d0.upd path (.sl none z l)=some d0') (hn:l.length=n)
 (hp:∀ x∈l,x.pur=true) (hnp:∀ x∈l,x.np=true) (hz:∀ x∈l,x.sz=z) (hE:KW ids σ.env=true) (hkeep:W7 ids (setb id0 (.var d0') σ.bx)=bx') (hoB:IE ids bx'=true) (hid:d8 ids id=false)
 (hpn:∀ id b,C.pin id=some b->d8 ids id=true) (k:W P C c Q ⟨σ.n,σ.env,bx'⟩):W P C c Q σ:=
 fun a w hs=>k a w (k36 hb0 hb hii hl hna hu hn hp hnp hz hE hkeep hoB hid hpn hs)
end Go.Sx
