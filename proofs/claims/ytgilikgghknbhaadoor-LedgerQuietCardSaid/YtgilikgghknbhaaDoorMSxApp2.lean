/- Proved: what functions of the given program compute (used by the theorem of this claim). Conditions: none but those that each theorem states. -/
import Derived.Test.YtgilikgghknbhaaDoorMSxStore
import Derived.Laws.CopyRow
import Derived.ChangeKeysEq
import Derived.MapKept
import Derived.Laws.IdiomStrings
import Derived.RangeFuncIn
import Derived.RangeFuncRecord
import Derived.RangeFuncLeaves
set_option linter.unusedVariables false
set_option linter.unusedSimpArgs false
set_option linter.unnecessarySimpa false

namespace Go.Sx
variable{pos:String}{aft:Array Edge}{g:Option (Nat×Bool)}
variable{P:Program}{C:Ctx}{σ σ' σ1:Sg}{a:Act}{w w':World}{ρ:Nat->Nat}{Fe Fe' Fb:Nat->List Nat}
theorem in_part{news:List Value}{m z:Nat}(hl:news.length=m*z){u:Value}(hu:u∈news):∃ j,j<m/\u∈(news.drop (j*z)).take z:=by
 obtain⟨k,hk,rfl⟩:=List.mem_iff_getElem.1 hu
 have hz:0<z:=by
  rcases Nat.eq_zero_or_pos z with rfl|h
  ·simp at hl;subst hl;simp at hk
  ·exact h
 have h1:k<m*z:=by omega
 have h2:k/z<m:=Nat.div_lt_of_lt_mul (by rw[Nat.mul_comm];exact h1);refine⟨k/z,h2, ?_⟩;have h3:=Nat.div_add_mod k z;have h4:=Nat.mod_lt k hz;rw[Nat.mul_comm] at h3;refine List.mem_iff_getElem?.2 ⟨k%z, ?_⟩;rw[List.getElem?_take,if_pos h4,List.getElem?_drop,show k/z*z+k%z=k by omega];exact List.getElem?_eq_getElem hk
theorem CK(n:Nat):(List.range n).flatMap (fun _=>([]:List Nat))=[]:=by rw[List.flatMap_eq_nil_iff];intros;rfl
theorem flat0_nd(n:Nat):((List.range n).flatMap (fun _=>([]:List Nat))).Nodup:=by rw[CK];exact List.nodup_nil
theorem VE(n:Nat)(F:List Nat):∀ b∈(List.range n).flatMap (fun _=>([]:List Nat)),b∉F:=by rw[CK];intro b hb;cases hb
theorem EY{G L:Nat->Prop}{base:Option Addr}{len cap z:Nat}{l:List D}(h:SlR w ρ G L base len cap z l)(hp:∀ y∈l,y.pur=true) :
 len=l.length/\∃ news:List Value,((base=none/\l=[]/\cap=0)∨∃ a,base=some a/\∀ j u,news[j]? = some u->w.cell? (a.add j)=some u)/\news.length=l.length*z/\(∀ u∈news,u.oneCell'=true) /\
  ∀ j (h:j<l.length),Rc w ρ G L false l[j] ((news.drop (j*z)).take z) []:=by
 obtain⟨rfl,h⟩:=h;refine⟨rfl, ?_⟩
 rcases h with ⟨h1,rfl⟩|⟨b,o,cs,e,fz,rfl,hb,hc,hs,hr⟩
 ·have:l=[]:=List.length_eq_zero_iff.1 h1;subst this
  cases base with
  | none=>exact⟨[],.inl ⟨rfl,rfl,rfl⟩,by simp,by simp,fun j hj=>by simp at hj⟩
  | some a=>exact⟨[],.inr ⟨a,rfl,by simp⟩,by simp,by simp,fun j hj=>by simp at hj⟩
 ·have hl:((cs.toList.drop o).take (l.length*z)).length=l.length*z:=by simp;omega
  have hr2:∀ j (h:j<l.length),Rc w ρ G L false l[j] ((((cs.toList.drop o).take (l.length*z)).drop (j*z)).take z) []:=by
   intro j hj;obtain⟨F,hF⟩:=hr j hj;have hFn:=hF.pur (hp _ (List.getElem_mem hj));subst hFn
   have:j*z+z<=l.length*z:=by
    have:=Nat.mul_le_mul_right z (show j+1<=l.length by omega);rw[Nat.add_mul] at this;omega
   rw[L5 _ _ _ _ _ this];exact hF
  refine⟨(cs.toList.drop o).take (l.length*z),.inr ⟨_,rfl,fun j u hu=>?_⟩,hl,fun u hu=>?_,hr2⟩
  ·rw[J6,cell_of_row w b _ cs e fz hb];rw[List.getElem?_take] at hu;split at hu
   ·rw[List.getElem?_drop] at hu;simpa using hu
   ·cases hu
  ·obtain⟨j,hj,hm⟩:=in_part hl hu;exact(hr2 j hj).one u hm
inductive SrcO(gl:List (Nat×D))(σ:Sg):Operand->Nat->List D->Prop
 | sc {t z:Nat} {l:List D} (h:SC σ t z l) (hp:∀ y∈l,y.pur=true):SrcO gl σ (.tmp t) z l
 | nil {x:Operand} {z:Nat} (h:ev gl σ x=some .nils):SrcO gl σ x z []
theorem SrcO.ok(st:StW C σ a w ρ Fe Fb){x:Operand}{z:Nat}{l:List D}(h:SrcO C.gl σ x z l) :
 ∃ base cap,a.eval x=.slice base l.length cap/\SlR w ρ (gd C Fe Fb) (fun id=>(σ.box id).isSome) base l.length cap z l/\∀ y∈l,y.pur=true:=by
 cases h with
 | sc h hp=>
  obtain⟨base,len,cap,hv,hr⟩:=JO st h;have:=hr.1;subst this;exact⟨base,cap,w3 hv,hr,hp⟩
 | nil h=>
  obtain⟨F,hv,_⟩:=c3 st h rfl;simp only[VR,D.isAgg,Bool.false_eq_true,if_false] at hv;refine⟨none,0,hv.nil_val,⟨rfl,.inl ⟨rfl,rfl⟩⟩,by simp⟩
theorem fits{n bytes:Nat}(hby:bytes<=131072)(hn:n<=1073741824):n*bytes<=140737488355328/\n<=maxLen:=by
 refine⟨?_,by simp only[maxLen];omega⟩
 calc n*bytes<=1073741824*131072:=Nat.mul_le_mul hn hby
  _<=140737488355328:=by decide
theorem R.app{s s0 t e z bytes:Nat}{x:Operand}{l l':List D}{ty rt:TypeId}[hT:SlT P ty e][hE:ElT P e z bytes]
 (ho:ownr σ s s0) (hs:σ.get s0=some (.sl (some e) z l)) (hx:SrcO C.gl σ x z l') (hn:l.length+l'.length<=1073741824) (ht:t<σ.n) (hst:s0≠t) (hby:bytes<=131072) :
 OpS P C ⟨some t,.call { callee:=.builtin .append,args:=#[.tmp s,x],argTypes:=#[ty,ty] },rt,pos,aft,g⟩ σ ((σ.kill s0).set t (.sl (some e) z (l++l'))):=by
 refine OpS.value fun a w ⟨ρ,Fe,Fb,st⟩=>?_;obtain⟨v,hv,hv0,hr⟩:=T5 st ho hs;obtain⟨base,cap,hxe,hsr,hp⟩:=hx.ok st;obtain⟨_,news,q1,q2,q3,q4⟩:=EY hsr hp;obtain⟨f1,f2⟩:=fits hby hn;obtain⟨v',w',F',hrun,ht',hnd,hsub,hres⟩:=SA (P:=P) (t:=ty) (e:=e) (bytes:=bytes) (ty:=rt) (Fs2:=fun _=>[]) hr (.inr rfl) (st.nodE s0) q1 q2 q3 q4 (flat0_nd _) (VE _ _) (fun b hb hm=>hb.2 (.inl ⟨s0,hm⟩)) f1 f2;refine⟨v',w', ?_,ρ,_,Fb,st.take (F:=F') ht hst hs ht'.os ht'.tape ht'.output ht'.size ht'.blk hnd (fun b hb=>?_) ((j2 rfl).2 ⟨v',by rw[v7 a t _ t (by rw[st.size];exact ht)];simp, ?_⟩)⟩
 ·unfold execOp;simp[resolve,invoke,builtin,w3 hv,hxe,hrun]
 ·rcases hsub b hb with h|h|h
  ·exact .inl h
  ·simp at h
  ·exact .inr h
 ·simp only[VR,D.isAgg,Bool.false_eq_true,if_false];refine hres _ (fun b hb hl=>⟨hb.1,fun hc=>?_⟩)
  rcases hc with ⟨u,hu⟩|hid
  ·by_cases hut:u=t
   ·subst hut;simp at hu
    rcases hsub b hu with h|h|h
    ·exact hb.2 (.inl ⟨s0,h⟩)
    ·simp at h
    ·omega
   ·rw[q8 hut] at hu;by_cases hus:u=s0
    ·subst hus;simp at hu
    ·rw[q8 hus] at hu;exact hb.2 (.inl ⟨u,hu⟩)
  ·exact hb.2 (.inr hid)
theorem StW.newSl{t e z:Nat}{l:List D}{cs:Array Value}(st:StW C σ a w ρ Fe Fb)(ht:t<σ.n)(hl:l.length<=maxLen)(hs:cs.size=l.length*z)
 (hr:∀ i (h:i<l.length),Rc w ρ (gd C Fe Fb) (fun id=>(σ.box id).isSome) false l[i] ((cs.toList.drop (i*z)).take z) []) :
 St C (σ.set t (.sl (some e) z l)) (a.put (some t) (.slice (some ⟨w.heap.size,0,none⟩) l.length l.length)) (w.alloc (.cells cs e)):=by
 have hlt:=st.lt;refine⟨ρ,upd Fe t [w.heap.size],Fb,st.ext ht (Ext.alloc w _) (by simp) (by simp) ((j2 rfl).2 ⟨.slice (some ⟨w.heap.size,0,none⟩) l.length l.length,by rw[v7 a t _ t (by rw[st.size];exact ht)];simp, ?_⟩)⟩;simp only[VR,D.isAgg,Bool.false_eq_true,if_false];have hone:=(Rc.arr (p:=false) l.length z l cs.toList rfl (by simpa using hs) hr).one;have:=Rc.slO (w:=w.alloc (.cells cs e)) (ρ:=ρ) (G:=gd C (upd Fe t [w.heap.size]) Fb) (L:=fun id=>(σ.box id).isSome) (p:=true) w.heap.size cs e l.length z l (fun _=>[]) (heap_alloc_new w _) (Nat.le_refl _) hl hs hone
  (fun i hi=>(hr i hi).mono (fun b _ hb=>heap_alloc_old w _ hb) (fun b hb hbl=>⟨hb.1,fun hc=>by
   rcases hc with ⟨u,hu⟩|hid
   ·by_cases hut:u=t
    ·subst hut;simp at hu;omega
    ·rw[q8 hut] at hu;exact hb.2 (.inl ⟨u,hu⟩)
   ·exact hb.2 (.inr hid)⟩) (fun id hid=>⟨hid,rfl⟩))
 have e0:(List.range l.length).flatMap (fun _=>([]:List Nat))=[]:=by rw[List.flatMap_eq_nil_iff];intros;rfl
 rw[e0] at this;exact this
def evs(gl:List (Nat×D))(σ:Sg):List (Nat×Operand)->Nat->Option (List D)
 | [],_=>some []
 | (i,x)::r,k=>bif Nat.beq i k then(match ev gl σ x with
  | some d=>match evs gl σ r (k+1) with
   | some ds=>some (d::ds)
   | none=>none
  | none=>none) else none
def WO(z:Nat):List D->Prop
 | []=>True
 | d::r=>(d.pur=true/\d.np=true/\d.sz=z)/\WO z r
theorem N1(cs:Array Value)(vs:List Value)(off k:Nat)(h:off+k+vs.length<=cs.size) :
 ((vs.zipIdx k).foldl (fun(c:Array Value) (p:Value×Nat)=>c.setIfInBounds (off+p.2) p.1) cs).toList=cs.toList.take (off+k)++vs++cs.toList.drop (off+k+vs.length):=by
 induction vs generalizing cs k with
 | nil=>simp
 | cons v vs ih=>
  simp only[List.zipIdx_cons,List.foldl_cons];simp only[List.length_cons] at h;rw[ih _ _ (by simp;omega)];simp only[Array.toList_setIfInBounds];apply List.ext_getElem?;intro j;simp only[List.append_assoc,List.getElem?_append,List.length_take,List.length_set,Array.length_toList,List.getElem?_take,List.getElem?_set,List.length_cons,List.getElem?_drop,List.cons_append]
  have e1:min (off+(k+1)) cs.size=off+k+1:=by omega
  have e2:min (off+k) cs.size=off+k:=by omega
  rw[e1,e2]
  rcases Nat.lt_trichotomy j (off+k) with h1|h1|h1
  ·simp[h1,show j<off+k+1 by omega,show ¬ off+k=j by omega,show j<off+(k+1) by omega]
  ·subst h1;simp[show off+k<off+k+1 by omega,show off+k<off+(k+1) by omega,show off+k<cs.size by omega]
  ·simp only[show ¬ j<off+k+1 by omega,show ¬ j<off+k by omega,if_false]
   have e3:j-(off+k)=(j-(off+k+1))+1:=by omega
   rw[e3];simp only[List.getElem?_cons_succ];rw[List.getElem?_append];by_cases h2:j-(off+k+1)<vs.length
   ·simp[h2]
   ·simp only[h2,if_false,List.getElem?_drop];rw[if_neg (by omega)]
    congr 1
    omega
theorem OS{G L:Nat->Prop}{gl:List (Nat×D)}{z:Nat}(hv:∀ x d,ev gl σ x=some d->d.pur=true->∃ cs:List Value,(a.eval x).cells.toList=cs/\Rc w ρ G L true d cs []) :
 ∀ (ps:List (Nat×Operand)) (k:Nat) (ds:List D) (cs:Array Value),evs gl σ ps k=some ds->WO z ds->(k+ds.length)*z<=cs.size ->
  ∃ out:Array Value,Instr.fill (fun i=>some (i*z,z)) cs (ps.map (fun p=>(p.1,a.eval p.2)))=some out/\out.size=cs.size/\out.toList.take (k*z)=cs.toList.take (k*z) /\
   ∀ i (h:i<ds.length),Rc w ρ G L false ds[i] ((out.toList.drop ((k+i)*z)).take z) []:=by
 intro ps
 induction ps with
 | nil=>
  intro k ds cs h hp hs;simp only[evs,Option.some.injEq] at h;subst h;exact⟨cs,rfl,rfl,rfl,fun i hi=>by simp at hi⟩
 | cons p ps ih=>
  intro k ds cs h hp hs;obtain⟨i0,x⟩:=p;simp only[evs] at h;by_cases hik:i0=k
  ·subst hik;simp only[Nat.beq_refl,cond_true] at h
   cases hx:ev gl σ x with
   | none=>rw[hx] at h;cases h
   | some d=>
    rw[hx] at h
    cases hr:evs gl σ ps (i0+1) with
    | none=>simp only[hr] at h;cases h
    | some ds'=>
     simp only[hr,Option.some.injEq] at h;subst h;obtain⟨⟨p1,p2,p3⟩,p4⟩:=hp;obtain⟨xc,hxc,hrc⟩:=hv x d hx p1;have hlen:=hrc.len
     have hsz:(a.eval x).cells.size=z:=by rw[<- Array.length_toList,hxc,hlen,p3]
     have hkz:(i0+1)*z<=cs.size:=Nat.le_trans (Nat.mul_le_mul_right z (by simp)) hs;rw[Nat.add_mul,Nat.one_mul] at hkz;have hfold:=N1 cs xc (i0*z) 0 (by omega);simp only[Nat.add_zero] at hfold
     have hcs2:((a.eval x).cells.zipIdx.foldl (fun(c:Array Value) (p:Value×Nat)=>c.setIfInBounds (i0*z+p.2) p.1) cs).toList=cs.toList.take (i0*z)++xc++cs.toList.drop (i0*z+xc.length):=by
      rw[<- hfold,<- hxc,<- Array.foldl_toList];simp
     generalize hc2:((a.eval x).cells.zipIdx.foldl (fun(c:Array Value) (p:Value×Nat)=>c.setIfInBounds (i0*z+p.2) p.1) cs)=cs2 at hcs2
     have hs2:cs2.size=cs.size:=by
      have:=congrArg List.length hcs2;rw[K1 _ _ _ (by simp;omega)] at this;simpa using this
     obtain⟨out,q1,q2,q3,q4⟩:=ih (i0+1) ds' cs2 hr p4 (by rw[hs2];simp at hs ⊢;rw[show i0+1+ds'.length=i0+(ds'.length+1) by omega];exact hs)
     have hmid:(cs2.toList.drop (i0*z)).take z=xc:=by
      rw[hcs2,List.append_assoc,List.drop_left' (by simp;omega),List.take_append_of_le_length (by omega),List.take_of_length_le (by omega)]
     have q3':∀ j:Nat,(out.toList.take ((i0+1)*z))[j]? = (cs2.toList.take ((i0+1)*z))[j]?:=fun j=>by rw[q3]
     refine⟨out, ?_,q2.trans hs2, ?_,fun i hi=>?_⟩
     ·simp only[List.map_cons,Instr.fill]
      have hcond:¬ ((a.eval x).cells.size≠z∨i0*z+(a.eval x).cells.size>cs.size):=by rw[hsz];simp;omega
      simp only[ne_eq,Bool.or_eq_true,decide_eq_true_eq];rw[if_neg (by simpa using hcond)];rw[hc2];exact q1
     ·apply List.ext_getElem?;intro j;by_cases hj:j<i0*z
      ·have:=q3' j
       have hj2:j<(i0+1)*z:=by rw[Nat.add_mul];omega
       simp only[List.getElem?_take,hj2,if_true] at this;simp only[List.getElem?_take,hj,if_true,this,hcs2];rw[List.append_assoc,List.getElem?_append_left (by simp;omega),List.getElem?_take,if_pos hj]
      ·simp[List.getElem?_take,hj]
     ·cases i with
      | zero=>
       simp only[Nat.add_zero,List.getElem_cons_zero]
       have:(out.toList.drop (i0*z)).take z=(cs2.toList.drop (i0*z)).take z:=by
        apply List.ext_getElem?;intro j;by_cases hj:j<z
        ·have:=q3' (i0*z+j)
         have hj2:i0*z+j<(i0+1)*z:=by rw[Nat.add_mul];omega
         simp only[List.getElem?_take,hj2,if_true] at this;simp only[List.getElem?_take,hj,if_true,List.getElem?_drop,this]
        ·simp[List.getElem?_take,hj]
       rw[this,hmid];exact hrc.unflag p2
      | succ i=>
       have:=q4 i (by simpa using hi);rw[show i0+(i+1)=i0+1+i by omega];simpa using this
  ·rw[nbeq hik] at h;cases h
theorem P2(st:StW C σ a w ρ Fe Fb){x:Operand}{d:D}(h:ev C.gl σ x=some d)(hp:d.pur=true) :
 ∃ cs:List Value,(a.eval x).cells.toList=cs/\Rc w ρ (gd C Fe Fb) (fun id=>(σ.box id).isSome) true d cs []:=by
 obtain⟨F,hv,_⟩:=c3 st h (c6 hp);have:=hv.pur hp;subst this;exact⟨_,rfl,hv.cells (by rintro rfl;simp[D.pur] at hp)⟩
theorem R.bsl{t e z bytes k:Nat}{ps:List (Nat×Operand)}{ds:List D}{ty rt:TypeId}[hT:SlT P ty e][hE:ElT P e z bytes]
 (hps:evs C.gl σ ps 0=some ds) (hp:WO z ds) (hk:ds.length=k) (ht:t<σ.n) (hsm:k*z<=16777216) :
 OpS P C ⟨some t,.buildSlice ty k ps.toArray,rt,pos,aft,g⟩ σ (σ.set t (.sl (some e) z ds)):=by
 refine OpS.value fun a w ⟨ρ,Fe,Fb,st⟩=>?_;obtain⟨i,zv,hi,hsz,hby,hz,hzs,hpos,hone⟩:=hE.i;subst hk;obtain⟨out,q1,q2,q3,q4⟩:=OS (w:=w) (ρ:=ρ) (z:=z) (fun x d h hp=>P2 st h hp) ps 0 ds ((Array.range (ds.length*z)).map (zv.cells[·%zv.cells.size]!)) hps hp (by simp);simp only[Nat.zero_add] at q4
 have hml:ds.length<=maxLen:=by
  have:ds.length*1<=ds.length*z:=Nat.mul_le_mul_left _ hpos;simp only[maxLen];omega
 refine⟨_,_, ?_,st.newSl (e:=e) (cs:=out) ht hml (by rw[q2];simp) q4⟩;unfold execOp
 have hps2:(ps.toArray.map fun x=>(x.1,a.eval x.2)).toList=ps.map (fun p=>(p.1,a.eval p.2)):=by simp
 by_cases h0:ds.length*z=0
 ·have q1':=q1;simp only[h0] at q1'
  have e0:(Array.range 0).map (fun x=>zv.cells[x%zv.cells.size]!)=(#[]:Array Value):=by simp[Array.range_zero']
  rw[e0] at q1';have e1:Array.range 0=#[]:=rfl;simp[Instr.buildSlice,run_underlying hT.u,ElT.size (P:=P) (e:=e),h0,hps2,e1,q1',newRow,newObj,Sem.run]
 ·simp[Instr.buildSlice,run_underlying hT.u,ElT.size (P:=P) (e:=e),h0,hps2,q1,newRow,newObj,Sem.run,zeroValue,typeInfo,hi,hz,show ¬ (16777216<ds.length*z) by omega]
end Go.Sx

namespace Go.Sx
variable{pos:String}{aft:Array Edge}{g:Option (Nat×Bool)}
variable{P:Program}{C:Ctx}{σ σ' σ1:Sg}{a:Act}{w w':World}{ρ:Nat->Nat}{Fe Fe' Fb:Nat->List Nat}
theorem YM(z:Array Value)(n i:Nat)(hi:i<n):((madeCells z (n*z.size)).toList.drop (i*z.size)).take z.size=z.toList:=by
 have h1:i*z.size+z.size<=n*z.size:=by
  have:=Nat.mul_le_mul_right z.size (show i+1<=n by omega);rw[Nat.add_mul] at this;omega
 apply List.ext_getElem?;intro j;by_cases hj:j<z.size
 ·rw[List.getElem?_take,if_pos hj,List.getElem?_drop]
  have h2:i*z.size+j<n*z.size:=by omega
  have h3:(i*z.size+j)%z.size=j:=by rw[Nat.add_comm,Nat.add_mul_mod_self_right,Nat.mod_eq_of_lt hj]
  simp[madeCells,h2,h3,hj]
 ·rw[List.getElem?_take,if_neg hj];simp;omega
theorem R.mk{t e z bytes:Nat}{x y:Operand}{n:Nat}{d:D}{ty rt:TypeId}[hT:SlT P ty e][hE:ElT P e z bytes][hZ:ZrT P e d]
 (hx:ev C.gl σ x=some (.int (n:Int))) (hy:ev C.gl σ y=some (.int (n:Int))) (hn:n<=1073741824) (hby:bytes<=131072) (ht:t<σ.n) :
 OpS P C ⟨some t,.makeSlice ty x y,rt,pos,aft,g⟩ σ (σ.set t (.sl (some e) z (List.replicate n d))):=by
 refine OpS.value fun a w ⟨ρ,Fe,Fb,st⟩=>?_;obtain⟨i,zv,hi,hsz,hbyt,hz,hzs,hpos,hone⟩:=hE.i;obtain⟨i',zv',hi',hz',hchk,hag⟩:=hZ.i;rw[hi] at hi';cases hi';rw[hz] at hz';cases hz';obtain⟨Fx,hvx,_⟩:=c3 st hx rfl;obtain⟨Fy,hvy,_⟩:=c3 st hy rfl;simp only[VR,D.isAgg,Bool.false_eq_true,if_false] at hvx hvy;generalize hex:a.eval x=vx at hvx;generalize hey:a.eval y=vy at hvy;cases hvx;cases hvy
 have hb:(i.bytes:Int)*(n:Int)<=281474976710656:=by
  rw[hbyt];have:bytes*n<=131072*1073741824:=Nat.mul_le_mul hby hn
  have h2:((bytes*n:Nat):Int)<=281474976710656:=by omega
  rwa [Int.natCast_mul] at h2
 have hrun:=run_make (P:=P) w ty e i zv hT.u hi hz .i64 .i64 n n (by omega) (Int.le_refl _) hb (by omega);simp only[Int.toNat_natCast,hsz] at hrun
 have hst:=st.newSl (e:=e) (z:=z) (l:=List.replicate n d) (cs:=madeCells zv.cells (n*z)) ht (by simp only[List.length_replicate,maxLen];omega) (by simp[size_madeCells]) (fun j hj=>by
  have hj':j<n:=by simpa using hj
  rw[<- hzs,YM _ _ _ hj'];simp only[List.getElem_replicate]
  exact E4 _ _ _ _ d _ hchk)
 simp only[List.length_replicate] at hst;refine⟨_,_, ?_,hst⟩;unfold execOp;simp[hex,hey,hrun]
def evo(gl:List (Nat×D))(σ:Sg)(x:Option Operand)(n:Int):Option Int:=
 match x with
 | none=>some n
 | some x=>match ev gl σ x with
  | some d=>d.cnt
  | none=>none
theorem AU(st:StW C σ a w ρ Fe Fb){x:Operand}{n:Int}(h:(match ev C.gl σ x with|some d=>d.cnt|none=>none)=some n):∃ k,a.eval x=.int k n:=by
 cases hx:ev C.gl σ x with
 | none=>rw[hx] at h;cases h
 | some d=>
  rw[hx] at h
  have hr:d.isRef=false/\d.isAgg=false:=by cases d<;>simp_all [D.cnt,D.isRef,D.isAgg]
  obtain⟨F,hv,_⟩:=c3 st hx hr.1;simp only[VR,hr.2,Bool.false_eq_true,if_false] at hv;exact SZ h hv
theorem D5(st:StW C σ a w ρ Fe Fb){b:Bool}{lo hi:Option Operand}{i j:Int}{len cap:Nat}(hl:evo C.gl σ lo 0=some i)(hh:evo C.gl σ hi len=some j)(h0:0<=i)(h1:i<=j)(h2:j<=len)(hc:len<=cap) :
 (Instr.sliceBounds b len cap (lo.map a.eval) (hi.map a.eval) none).run P w=.ok (i.toNat,j.toNat,cap) w:=by
 have hb:∀ (x:Operand) (n:Int) (y:Nat) (code:BoundsCode),(match ev C.gl σ x with|some d=>d.cnt|none=>none)=some n->0<=n->n<=y->(Instr.sliceBound (a.eval x) y code).run P w=.ok n.toNat w:=by
  intro x n y code hx h0 h1;obtain⟨k,hk⟩:=AU st hx;rw[hk];exact run_sliceBound w k n y code h0 h1
 cases lo with
 | none=>
  simp only[evo,Option.some.injEq] at hl;subst hl
  cases hi with
  | none=>
   simp only[evo,Option.some.injEq] at hh;subst hh;simp[Instr.sliceBounds]
  | some y=>
   simp only[evo] at hh;simp[Instr.sliceBounds,hb y j cap _ hh (by omega) (by omega)]
 | some x=>
  simp only[evo] at hl
  cases hi with
  | none=>
   simp only[evo,Option.some.injEq] at hh;subst hh;simp[Instr.sliceBounds,hb x i len _ hl (by omega) (by omega)]
  | some y=>
   simp only[evo] at hh;simp[Instr.sliceBounds,hb y j cap _ hh (by omega) (by omega),hb x i j.toNat _ hl (by omega) (by omega)]
theorem R.slI{t e z bytes:Nat}{x:Operand}{l:List D}{lo hi:Option Operand}{i j:Int}{ty rt:TypeId}[hT:SlT P ty e][hE:ElT P e z bytes]
 (hx:ev C.gl σ x=some (.sl none z l)) (hl:evo C.gl σ lo 0=some i) (hh:evo C.gl σ hi l.length=some j) (h0:0<=i) (h1:i<=j) (h2:j<=l.length) (ht:t<σ.n) :
 OpS P C ⟨some t,.slice ty x lo hi none,rt,pos,aft,g⟩ σ (σ.set t (.sl none z ((l.drop i.toNat).take (j-i).toNat))):=by
 refine OpS.value fun a w ⟨ρ,Fe,Fb,st⟩=>?_;obtain⟨F,hv,_⟩:=c3 st hx rfl;have hF:=hv.pur rfl;subst hF;simp only[VR,D.isAgg,Bool.false_eq_true,if_false] at hv;generalize hex:a.eval x=vx at hv
 have hlen:((l.drop i.toNat).take (j-i).toNat).length=(j-i).toNat:=by simp;omega
 cases hv with
 | slN=>
  simp only[List.length_nil] at hh h2;have hb:=D5 (P:=P) st (b:=true) (len:=0) (cap:=0) hl hh h0 h1 h2 (Nat.le_refl _)
  have hj:j=0:=by omega
  have hi0:i=0:=by omega
  subst hj;subst hi0;refine⟨.slice none 0 0,w, ?_,st.put ht rfl ?_⟩
  ·unfold execOp
   cases lo<;>cases hi<;>simp_all [Instr.sliceAt,Instr.slice,run_underlying hT.u,ElT.size (P:=P) (e:=e)]
  ·simp only[VR,D.isAgg,Bool.false_eq_true,if_false];exact .slN none z
 | slE _ _ aa=>
  simp only[List.length_nil] at hh h2;have hb:=D5 (P:=P) st (b:=true) (len:=0) (cap:=0) hl hh h0 h1 h2 (Nat.le_refl _)
  have hj:j=0:=by omega
  have hi0:i=0:=by omega
  subst hj;subst hi0;refine⟨.slice (some aa) 0 0,w, ?_,st.put ht rfl ?_⟩
  ·unfold execOp
   cases lo<;>cases hi<;>simp_all [Instr.sliceAt,Instr.slice,run_underlying hT.u,ElT.size (P:=P) (e:=e)]
  ·simp only[VR,D.isAgg,Bool.false_eq_true,if_false];exact .slE none z aa
 | slI b off cs e' fz cap _ _ hb hG hc hs hr=>
  have hbd:=D5 (P:=P) st (b:=true) (len:=l.length) (cap:=cap) hl hh h0 h1 h2 hc;refine⟨.slice (some (if cap=i.toNat then⟨b,off,none⟩ else⟨b,off+i.toNat*z,none⟩)) (j-i).toNat (cap-i.toNat),w, ?_,st.put ht rfl ?_⟩
  ·unfold execOp
   have e1:j.toNat-i.toNat=(j-i).toNat:=by omega
   have hA:(fun x=>(⟨b,off,none⟩:Addr).add (i.toNat*z)) ()=⟨b,off+i.toNat*z,none⟩:=J6 _ _ _
   cases lo<;>cases hi<;>simp_all [Instr.sliceAt,Instr.slice,run_underlying hT.u,ElT.size (P:=P) (e:=e),J6]<;>split<;>simp_all
  ·simp only[VR,D.isAgg,Bool.false_eq_true,if_false]
   have hjz:((j-i).toNat)*z+i.toNat*z<=l.length*z:=by
    rw[<- Nat.add_mul];exact Nat.mul_le_mul_right z (by omega)
   by_cases hci:cap=i.toNat
   ·simp only[hci,if_true,Nat.sub_self]
    have h3:(j-i).toNat=0:=by omega
    have:=Rc.slI (w:=w) (ρ:=ρ) (G:=gd C Fe Fb) (L:=fun id=>(σ.box id).isSome) (p:=true) b off cs e' fz 0 z [] hb hG (Nat.zero_le _) (by simp;omega) (fun k hk=>by simp at hk);simpa [h3] using this
   ·simp only[hci,if_false];have:=Rc.slI (w:=w) (ρ:=ρ) (G:=gd C Fe Fb) (L:=fun id=>(σ.box id).isSome) (p:=true) b (off+i.toNat*z) cs e' fz (cap-i.toNat) z ((l.drop i.toNat).take (j-i).toNat) hb hG (by rw[hlen];omega)
     (by rw[hlen];omega) (fun k hk=>by
      rw[hlen] at hk;simp only[List.getElem_take,List.getElem_drop];have:=hr (i.toNat+k) (by omega);rw[Nat.add_mul,<- Nat.add_assoc] at this
      exact this)
    rw[hlen] at this;exact this
theorem R.slV{s t e z bytes:Nat}{l:List D}{lo hi:Option Operand}{i j:Int}{ty rt:TypeId}[hT:SlT P ty e][hE:ElT P e z bytes]
 (hx:SC σ s z l) (hl:evo C.gl σ lo 0=some i) (hh:evo C.gl σ hi l.length=some j) (h0:0<=i) (h1:i<=j) (h2:j<=l.length) (ht:t<σ.n) (hst:s≠t) :
 OpS P C ⟨some t,.slice ty (.tmp s) lo hi none,rt,pos,aft,g⟩ σ (σ.set t (.vw s z i.toNat (j-i).toNat)):=by
 refine OpS.value fun a w ⟨ρ,Fe,Fb,st⟩=>?_;obtain⟨base,len,cap,hv,rfl,hd⟩:=JO st hx;have hsz:=st.size
 have e1:j.toNat-i.toNat=(j-i).toNat:=by omega
 have hcap:l.length<=cap:=by
  rcases hd with ⟨h3,h4⟩|⟨b,o,cs,e',fz,_,_,h3,_⟩<;>omega
 have hbd:=D5 (P:=P) st (b:=true) (len:=l.length) (cap:=cap) hl hh h0 h1 h2 hcap
 rcases hd with ⟨h3,rfl⟩|⟨b,o,cs,e',fz,rfl,hb,hc,hs,hr⟩
 ·have hj:j=0:=by omega
  have hi0:i=0:=by omega
  subst hj;subst hi0;refine⟨.slice base 0 0,w, ?_,st.putRef ht ⟨rfl,.slice base l.length 0,.slice base 0 0,by rw[v7 a t _ s (by omega)];simp[hst,hv],by rw[v7 a t _ t (by omega)];simp, ?_⟩⟩
  ·unfold execOp
   cases base<;>cases lo<;>cases hi<;>simp_all [Instr.sliceAt,Instr.slice,run_underlying hT.u,ElT.size (P:=P) (e:=e),w3 hv]
  ·exact⟨_,_,_,_,_,rfl,rfl,Nat.le_refl _,by simp,Nat.le_refl _,.inr ⟨by omega,rfl⟩⟩
 ·refine⟨.slice (some (if cap=i.toNat then⟨b,o,none⟩ else⟨b,o+i.toNat*z,none⟩)) (j-i).toNat (cap-i.toNat),w, ?_,st.putRef ht ⟨rfl,.slice (some ⟨b,o,none⟩) l.length cap,.slice (some (if cap=i.toNat then⟨b,o,none⟩ else⟨b,o+i.toNat*z,none⟩)) (j-i).toNat (cap-i.toNat),by rw[v7 a t _ s (by omega)];simp[hst,hv],by rw[v7 a t _ t (by omega)];simp, ?_⟩⟩
  ·unfold execOp
   cases lo<;>cases hi<;>simp_all [Instr.sliceAt,Instr.slice,run_underlying hT.u,ElT.size (P:=P) (e:=e),w3 hv,J6]<;>split<;>simp_all
  ·refine⟨_,_,_,_,_,rfl,rfl,by omega,by omega,by omega,.inl ?_⟩;by_cases hci:cap=i.toNat
   ·exact⟨b,o,o,rfl,by simp[hci],.inr ⟨rfl,by omega⟩⟩
   ·exact⟨b,o,_,rfl,by simp[hci],.inl rfl⟩
theorem R.slA{s t e z bytes m id off:Nat}{path:List Nat}{d0:D}{l:List D}{lo hi:Option Operand}{i j:Int}{ty rt:TypeId}[hT:ArT P ty m e][hE:ElT P e z bytes]
 (hx:σ.get s=some (.ptr id off path)) (hb:σ.box id=some (.var d0)) (hloc:d0.loc path=some (off,.arr m z l)) (hl:evo C.gl σ lo 0=some i) (hh:evo C.gl σ hi m=some j) (h0:0<=i) (h1:i<=j) (h2:j<=m) (ht:t<σ.n) :
 OpS P C ⟨some t,.slice ty (.tmp s) lo hi none,rt,pos,aft,g⟩ σ (σ.set t (.va id off z (j-i).toNat path i.toNat)):=by
 refine OpS.value fun a w ⟨ρ,Fe,Fb,st⟩=>?_;obtain⟨v,hv,hr⟩:=(j2 rfl).1 (st.env _ _ hx);simp only[VR,D.isAgg,Bool.false_eq_true,if_false] at hr;generalize Fe s=F at hr;cases hr;have hsz:=st.size
 have e1:j.toNat-i.toNat=(j-i).toNat:=by omega
 have hbd:=D5 (P:=P) st (b:=false) (len:=m) (cap:=m) hl hh h0 h1 h2 (Nat.le_refl _);refine⟨.slice (some (if m=i.toNat then⟨ρ id,off,none⟩ else⟨ρ id,off+i.toNat*z,none⟩)) (j-i).toNat (m-i.toNat),w, ?_,st.putRef ht ⟨rfl,by simp[hb],m-i.toNat,if m=i.toNat then off else off+i.toNat*z,by omega, ?_, ?_⟩⟩
 ·unfold execOp
  cases lo<;>cases hi<;>simp_all [Instr.sliceAt,Instr.sureAddr,run_underlying hT.u,ElT.size (P:=P) (e:=e),w3 hv,J6]<;>split<;>simp_all
 ·by_cases hm:m=i.toNat
  ·simp[hm];omega
  ·simp[hm]
 ·rw[v7 a t _ t (by omega)]
  by_cases hm:m=i.toNat<;>simp[hm]
end Go.Sx

namespace Go.Sx
variable{pos:String}{aft:Array Edge}{g:Option (Nat×Bool)}
variable{P:Program}{C:Ctx}{σ σ' σ1:Sg}{a:Act}{w w':World}{ρ:Nat->Nat}{Fe Fe' Fb:Nat->List Nat}
theorem BF(st:StW C σ a w ρ Fe Fb){x:Operand}{n:Int}(h:evo C.gl σ (some x) 0=some n):∃ k,a.eval x=.int k n:=AU st h
theorem R.idxP{s t e z b m id off:Nat}{path:List Nat}{ix:Operand}{n:Int}{ty rt:TypeId}[hT:ArT P ty m e][hE:ElT P e z b](k:Nat)
 (h:σ.get s=some (.ptr id off path)) (hi:evo C.gl σ (some ix) 0=some n) (hk:n=(k:Int)) (h1:k<m) (ht:t<σ.n) :
 OpS P C ⟨some t,.indexAddr ty (.tmp s) ix,rt,pos,aft,g⟩ σ (σ.set t (.ptr id (off+k*z) (path++[k]))):=by
 subst hk;refine OpS.value fun a w ⟨ρ,Fe,Fb,st⟩=>?_;obtain⟨v,hv,hr⟩:=(j2 rfl).1 (st.env _ _ h);simp only[VR,D.isAgg,Bool.false_eq_true,if_false] at hr;generalize Fe s=F at hr
 cases hr with
 | ptr _ _ _ hL=>
 obtain⟨kk,he⟩:=BF st hi;refine⟨.pointer (some ⟨ρ id,off+k*z,none⟩),w, ?_,st.put ht rfl ?_⟩
 ·unfold execOp;simp[Instr.indexAt,Instr.sureAddr,asIntOf,run_underlying hT.u,w3 hv,he,h1,ElT.size (P:=P) (e:=e),J6]
 ·simp only[VR,D.isAgg,Bool.false_eq_true,if_false];exact .ptr _ _ _ hL
theorem R.idxN{s t z:Nat}{l:List D}{ix:Operand}{n:Int}{ty e b rt:TypeId}[hT:SlT P ty e][hE:ElT P e z b](k:Nat)
 (h:SC σ s z l) (hi:evo C.gl σ (some ix) 0=some n) (hk:n=(k:Int)) (h1:k<l.length) (ht:t<σ.n) (hst:s≠t) :
 OpS P C ⟨some t,.indexAddr ty (.tmp s) ix,rt,pos,aft,g⟩ σ (σ.set t (.ep s z k 0 [])):=by
 subst hk;refine OpS.value fun a w ⟨ρ,Fe,Fb,st⟩=>?_;obtain⟨base,len,cap,hv,rfl,hd⟩:=JO st h;obtain⟨kk,he⟩:=BF st hi
 rcases hd with ⟨h2,_⟩|⟨b,o,cs,e',fz,rfl,hb,hc,hsz,hr⟩
 ·omega
 have hsz':=st.size;refine⟨.pointer (some ⟨b,o+k*z,none⟩),w, ?_,st.putRef ht ?_⟩
 ·unfold execOp;simp[Instr.indexAt,asIntOf,run_underlying hT.u,w3 hv,he,h1,ElT.size (P:=P) (e:=e),J6]
 ·refine⟨rfl,b,o,l.length,cap, ?_, ?_,by omega⟩
  ·rw[v7 a t _ s (by omega)];simp[hst,hv]
  ·rw[v7 a t _ t (by omega)];simp
theorem F3{e z off:Nat}{gg:Bool}[hL:LdT P e z gg]{G L:Nat->Prop}{p:Bool}{d:D}{cs:Array Value}{F:List Nat}(hr:Rc w ρ G L p d ((cs.toList.drop off).take z) F)(hz:d.sz=z)(hg:d.isAgg=gg)(hs:off+z<=cs.size) :
 ∃ v,(part e cs off).run P w=.ok v w/\VR w ρ G L d v F:=by
 have hr':Rc w ρ G L true d ((cs.toList.drop off).take z) F:=by
  cases p with
  | true=>exact hr
  | false=>exact hr.flag
 cases gg with
 | true=>
  refine⟨.agg (cs.extract off (off+z)), ?_, ?_⟩
  ·simp[part,LdT.agg (P:=P) (t:=e),LdT.size (P:=P) (t:=e)]
  ·simp only[VR,hg,if_true];refine⟨_,rfl, ?_⟩
   have e1:(cs.extract off (off+z)).toList=(cs.toList.drop off).take z:=by
    rw[Array.toList_extract];simp[List.extract_eq_take_drop]
   rw[e1];exact hr'
 | false=>
  have h1:d.sz=1:=by cases d<;>simp_all [D.sz,D.isAgg]
  have hz1:z=1:=by omega
  subst hz1
  have hlt:off<cs.size:=by omega
  refine⟨cs[off], ?_, ?_⟩
  ·simp[part,LdT.agg (P:=P) (t:=e),hlt]
  ·simp only[VR,hg,Bool.false_eq_true,if_false];rw[List.drop_eq_getElem_cons (by simpa using hlt),List.take_succ_cons,List.take_zero,Array.getElem_toList] at hr';exact hr'
theorem R.ixA{x ix:Operand}{t e z m:Nat}{gg:Bool}{l:List D}{d:D}{n:Int}{ty rt:TypeId}[hT:ArT P ty m e][hL:LdT P e z gg](k:Nat)
 (hx:ev C.gl σ x=some (.arr m z l)) (hi:evo C.gl σ (some ix) 0=some n) (hk:n=(k:Int)) (h1:l[k]? = some d) (hp:d.pur=true) (hz:d.sz=z) (hg:d.isAgg=gg) (ht:t<σ.n) :
 OpS P C ⟨some t,.index ty x ix,rt,pos,aft,g⟩ σ (σ.set t d):=by
 subst hk;refine OpS.value fun a w ⟨ρ,Fe,Fb,st⟩=>?_;obtain⟨F,hv,_⟩:=c3 st hx rfl;simp only[VR,D.isAgg,if_true] at hv;obtain⟨cs,hex,hv⟩:=hv;obtain⟨kk,he⟩:=BF st hi;obtain⟨hkl,rfl⟩:=List.getElem?_eq_some_iff.1 h1
 cases hv with
 | arr _ _ _ _ hl hsz hrr=>
  have hkm:k<m:=by omega
  have hkz:k*z+z<=m*z:=by
   have:=Nat.mul_le_mul_right z (show k+1<=m by omega);rw[Nat.add_mul] at this;omega
  obtain⟨v,hrun,hvr⟩:=F3 (P:=P) (e:=e) (hrr k hkl) hz hg (by simp at hsz;omega);refine⟨v,w, ?_,st.put ht (c6 hp) hvr⟩;unfold execOp;simp[Instr.index,asIntOf,run_underlying hT.u,hex,he,hkm,LdT.size (P:=P) (t:=e),hrun]
class FtT(P:Program)(s f:Nat)(ty off:outParam Nat):Prop where
 i:∃ fs fld,P.underlying s=some (.struct fs)/\fs[f]? = some fld/\fld.offset=off/\fld.type=ty
theorem R.pick{c x y:Operand}{t:Nat}{d:D}{b:Bool}{rt:TypeId}
 (hc:ev C.gl σ c=some (.bool b)) (hx:(bif b then ev C.gl σ x else ev C.gl σ y)=some d) (hp:d.pur=true) (ht:t<σ.n) :
 OpS P C ⟨some t,.pick c x y,rt,pos,aft,g⟩ σ (σ.set t d):=by
 refine OpS.value fun a w ⟨ρ,Fe,Fb,st⟩=>?_;obtain⟨Fc,hvc,_⟩:=c3 st hc rfl;simp only[VR,D.isAgg,Bool.false_eq_true,if_false] at hvc;generalize hec:a.eval c=vc at hvc;cases hvc
 cases b with
 | true=>
  simp only[cond_true] at hx;obtain⟨F,hv,_⟩:=c3 st hx (c6 hp);have hF:=hv.pur hp;subst hF;refine⟨a.eval x,w, ?_,st.put ht (c6 hp) hv⟩;unfold execOp;simp[hec,asBool]
 | false=>
  simp only[cond_false] at hx;obtain⟨F,hv,_⟩:=c3 st hx (c6 hp);have hF:=hv.pur hp;subst hF;refine⟨a.eval y,w, ?_,st.put ht (c6 hp) hv⟩;unfold execOp;simp[hec,asBool]
theorem ZV{c x y:Operand}{t:Nat}{d:D}{b:Bool}{rt:TypeId}
 (hc:ev C.gl σ c=some (.bool b)) (hb:b=true) (hx:ev C.gl σ x=some d) (hp:d.pur=true) (ht:t<σ.n) :
 OpS P C ⟨some t,.pick c x y,rt,pos,aft,g⟩ σ (σ.set t d):=R.pick hc (by rw[hb];exact hx) hp ht
theorem UJ{c x y:Operand}{t:Nat}{d:D}{b:Bool}{rt:TypeId}
 (hc:ev C.gl σ c=some (.bool b)) (hb:b=false) (hx:ev C.gl σ y=some d) (hp:d.pur=true) (ht:t<σ.n) :
 OpS P C ⟨some t,.pick c x y,rt,pos,aft,g⟩ σ (σ.set t d):=R.pick hc (by rw[hb];exact hx) hp ht
theorem m3{op:BinOp}{xt yt ty:TypeId}{x y:Operand}{t:Nat}{dx dy d d':D}{s:Prop}
 (hx:ev C.gl σ x=some dx) (hy:ev C.gl σ y=some dy) (ha:arith op dx dy=some (s,d')) (hs:s) (he:d'=d) (ht:t<σ.n) :
 OpS P C ⟨some t,.binOp op xt x y yt,ty,pos,aft,g⟩ σ (σ.set t d):=by subst he;exact R.bin hx hy ha hs ht
theorem Z3{src dst ty:TypeId}{k k0:IntKind}{x:Operand}{t:Nat}{dx d d':D}[h0:IkT P src k0][hT:IkT P dst k]
 (hx:ev C.gl σ x=some dx) (hc:CY k dx=some d') (he:d'=d) (ht:t<σ.n):OpS P C ⟨some t,.convert src dst x,ty,pos,aft,g⟩ σ (σ.set t d):=by subst he;exact R.conv hx hc ht
theorem B6{a c:Int}(h:a=c)(h0:-9223372036854775808<=c)(h1:c<9223372036854775808):D.int (wr a)=D.int c:=by
 subst h
 have:wr a=a:=by unfold wr;rw[IntKind.wrap_i64];omega
 rw[this]
class EqT(P:Program)(t:TypeId):Prop where
 i:P.eqGuardType P.depth t=false
theorem T4{e:TypeId}[hk:IkT P e .u8][hL:LdT P e 1 false](w:World)(d:Nat)(xs ys:List UInt8)(n:Nat)(hx:xs.length=n)(hy:ys.length=n)(cx cy:Array Value)
 (h1:cx.toList=xs.map (fun b=>Value.int .u8 b.toNat)) (h2:cy.toList=ys.map (fun b=>Value.int .u8 b.toNat)):∀ (l:List Nat),(∀ i∈l,i<n) ->
 (Op.eqItems (d+1) e 1 cx cy l).run P w=.ok (l.all fun i=>xs[i]? == ys[i]?) w:=by
 intro l
 induction l with
 | nil=>intro _;simp[Op.eqItems]
 | cons i l ih=>
  intro h;have hi:=h i (by simp)
  have hp:∀ (cs:Array Value) (zs:List UInt8) (hz:zs.length=n),cs.toList=zs.map (fun b=>Value.int .u8 b.toNat)->(part e cs (i*1)).run P w=.ok (.int .u8 (zs[i]'(by omega)).toNat) w:=by
   intro cs zs hz hc
   have hi':i<cs.size:=by
    have:=congrArg List.length hc;simp at this;omega
   have:cs[i]=.int .u8 (zs[i]'(by omega)).toNat:=by
    have e1:cs.toList[i]'(by simpa using hi')=(zs.map (fun b=>Value.int .u8 b.toNat))[i]'(by simp;omega):=by simp only[hc]
    simpa using e1
   simp[part,LdT.agg (P:=P) (t:=e),hi',this]
  have e3:=hp cx xs hx h1;have e4:=hp cy ys hy h2
  obtain⟨k,hku⟩:∃ k,P.underlying e=some (.int k):=⟨_,hk.u⟩
  have e5:=run_equalIn_int (P:=P) w d e .u8 k (xs[i]'(by omega)).toNat (ys[i]'(by omega)).toNat hku;have ex:xs[i]? = some (xs[i]'(by omega)):=List.getElem?_eq_getElem _;have ey:ys[i]? = some (ys[i]'(by omega)):=List.getElem?_eq_getElem _
  have eb:((((xs[i]'(by omega)).toNat:Int))==(((ys[i]'(by omega)).toNat:Int)))=(xs[i]? == ys[i]?):=by
   rw[ex,ey,IA];rfl
  have ih':=ih (fun j hj=>h j (List.mem_cons_of_mem _ hj));simp only[Op.eqItems,Sem.run_bind,e3,e4,e5,Result.andThen_ok,eb,List.all_cons]
  cases hb:(xs[i]? == ys[i]?) with
  | true=>simpa using ih'
  | false=>simp
theorem all_eq(n:Nat)(xs ys:List UInt8)(hx:xs.length=n)(hy:ys.length=n):((List.range n).all fun i=>xs[i]? == ys[i]?)=(xs==ys):=by
 rw[Bool.eq_iff_iff];simp only[List.all_eq_true,List.mem_range,beq_iff_eq];constructor
 ·intro h;apply List.ext_getElem?;intro i;by_cases hi:i<n
  ·exact h i hi
  ·rw[List.getElem?_eq_none (by omega),List.getElem?_eq_none (by omega)]
 ·rintro rfl i _;rfl
theorem PO{G L:Nat->Prop}{p:Bool}{n:Nat}{xs:List UInt8}{cs:List Value}{F:List Nat}(h:Rc w ρ G L p (.arr n 1 (xs.map .u8)) cs F):xs.length=n/\cs=xs.map (fun b=>Value.int .u8 b.toNat):=by
 cases h with
 | arr _ _ _ _ hl hs hr=>
  have hl':xs.length=n:=by simpa using hl
  refine⟨hl', ?_⟩;apply List.ext_getElem?;intro i;by_cases hi:i<n
  ·have hic:i<cs.length:=by omega
   have:=hr i (by simp;omega);rw[Nat.mul_one,List.drop_eq_getElem_cons hic,List.take_succ_cons,List.take_zero] at this;simp only[List.getElem_map] at this;rw[List.getElem?_eq_getElem hic,List.getElem?_eq_getElem (by simp;omega)];generalize hc:[cs[i]]=c at this;cases this;simp at hc;simp[hc]
  ·rw[List.getElem?_eq_none (by omega),List.getElem?_eq_none (by simp;omega)]
theorem R.eqA{neg:Bool}{x y:Operand}{t e n:Nat}{xs ys:List UInt8}{xt yt ty:TypeId}[hT:ArT P xt n e][hk:IkT P e .u8][hL:LdT P e 1 false][hE:EqT P xt]
 (hx:ev C.gl σ x=some (.arr n 1 (xs.map .u8))) (hy:ev C.gl σ y=some (.arr n 1 (ys.map .u8))) (ht:t<σ.n) :
 OpS P C ⟨some t,.binOp (bif neg then .neq else .eql) xt x y yt,ty,pos,aft,g⟩ σ (σ.set t (.bool (bif neg then xs != ys else xs==ys))):=by
 refine OpS.value fun a w ⟨ρ,Fe,Fb,st⟩=>?_;obtain⟨Fx,hvx,_⟩:=c3 st hx rfl;obtain⟨Fy,hvy,_⟩:=c3 st hy rfl;simp only[VR,D.isAgg,if_true] at hvx hvy;obtain⟨cx,hex,hvx⟩:=hvx;obtain⟨cy,hey,hvy⟩:=hvy;obtain⟨hlx,hcx⟩:=PO hvx;obtain⟨hly,hcy⟩:=PO hvy;obtain⟨d,i,_,_,hi,hsz⟩:=hL.i
 have hce:P.cellsOf e=1:=by simp[Program.cellsOf,hi,hsz]
 have heq:(Op.equalIn 10000 xt (.agg cx) (.agg cy)).run P w=.ok (xs==ys) w:=by
  rw[show(10000:Nat)=9999+1 from rfl,run_equalIn_array w 9999 cx cy hT.u hi,hce,show(9999:Nat)=9998+1 from rfl,
   T4 (P:=P) w 9998 xs ys n hlx hly cx cy hcx hcy _ (fun i hi=>List.mem_range.1 hi),all_eq n xs ys hlx hly]
 refine⟨.bool (bif neg then xs != ys else xs==ys),w, ?_,st.put ht rfl ?_⟩
 ·unfold execOp
  cases neg with
  | false=>simp only[cond_false,hex,hey,Sem.run_bind,run_eqGuard_agg w .eql xt x y cx cy hE.i,run_eql_struct,heq,Result.andThen_ok,Sem.run_pure]
  | true=>simp only[cond_true,hex,hey,Sem.run_bind,run_eqGuard_agg w .neq xt x y cx cy hE.i,run_neq_struct,heq,Result.andThen_ok,Sem.run_pure];rfl
 ·simp only[VR,D.isAgg,Bool.false_eq_true,if_false];exact .bool _
end Go.Sx

namespace Go.Sx
variable{P:Program}{C:Ctx}{σ σ' σ1:Sg}{a:Act}{w w':World}{ρ:Nat->Nat}{Fe Fe' Fb:Nat->List Nat}
theorem MA(cs xs:List Value)(off M p:Nat)(h1:off+M<=cs.length)(h2:p+xs.length<=M) :
 cs.take off++(((cs.drop off).take M).take p++xs++((cs.drop off).take M).drop (p+xs.length))++cs.drop (off+M)=cs.take (off+p)++xs++cs.drop (off+p+xs.length):=by
 have e1:cs.take off++((cs.drop off).take M).take p=cs.take (off+p):=by
  rw[List.take_take,Nat.min_eq_left (by omega),<- List.take_add]
 have e2:((cs.drop off).take M).drop (p+xs.length)++cs.drop (off+M)=cs.drop (off+p+xs.length):=by
  rw[List.drop_take,List.drop_drop];have:=List.take_append_drop (M-(p+xs.length)) (cs.drop (off+(p+xs.length)));rw[List.drop_drop,show off+(p+xs.length)+(M-(p+xs.length))=off+M by omega] at this;rw[this,Nat.add_assoc]
 rw[<- e1,<- e2];simp only[List.append_assoc]
theorem R.cpA{s t e z bytes id off n lo m:Nat}{path:List Nat}{d0 d':D}{l l':List D}{x:Operand}{ty ty2 rt:TypeId}{pos:String}{aft:Array Edge}{g:Option (Nat×Bool)}[hT:SlT P ty e][hE:ElT P e z bytes]
 (h:σ.get s=some (.va id off z n path lo)) (hb:σ.box id=some (.var d0)) (hl:d0.loc path=some (off,.arr m z l)) (hlo:lo+n<=m) (hx:SrcO C.gl σ x z l') (hnp:∀ y∈l',y.np=true) (ht:t<σ.n)
 (hu:d0.upd path (.arr m z (l.take lo++l'.take (min l'.length n)++l.drop (lo+min l'.length n)))=some d') :
 OpS P C ⟨some t,.call { callee:=.builtin .copy,args:=#[.tmp s,x],argTypes:=#[ty,ty2] },rt,pos,aft,g⟩ σ ((σ.putB id (.var d')).set t (.int (min l'.length n:Nat))):=by
 refine OpS.value fun a w ⟨ρ,Fe,Fb,st⟩=>?_;obtain⟨_,hid,cap,o',hcap,ho',hv⟩:=st.env _ _ h;obtain⟨cs,e',F',hb',hr,hFb⟩:=st.bx _ _ hb;obtain⟨base,cap2,hxe,hsr,hp⟩:=hx.ok st;obtain⟨_,news,q1,q2,q3,q4⟩:=EY hsr hp;obtain⟨Fa,h1,h2,h3⟩:=hr.loc hl;have hFa:=h1.pur rfl;subst hFa
 have hnd:F'.Nodup:=by have:=st.nodB id;rw[hFb] at this;exact(List.nodup_cons.1 this).2
 generalize hk:min l'.length n=k at hu
 have hkn:k<=n:=by omega
 have hkl:k<=l'.length:=by omega
 have hkz:k*z<=l'.length*z:=Nat.mul_le_mul_right z hkl
 have hxl:(news.take (k*z)).length=k*z:=by simp;omega
 have hlm:lo*z+k*z<=m*z:=by rw[<- Nat.add_mul];exact Nat.mul_le_mul_right z (by omega)
 cases h1 with
 | arr _ _ _ A hlm' hA hrA=>
 simp only[UN] at h3 hA hrA
 -- the array behind
 have hrc:Rc w ρ (gd C Fe Fb) (fun id=>(σ.box id).isSome) false (.arr m z (l.take lo++l'.take k++l.drop (lo+k)))
  (((cs.toList.drop off).take (m*z)).take (lo*z)++news.take (k*z)++((cs.toList.drop off).take (m*z)).drop (lo*z+(news.take (k*z)).length)) []:=by
  have hp0:lo*z+(news.take (k*z)).length<=((cs.toList.drop off).take (m*z)).length:=by rw[hxl,hA];exact hlm
  refine .arr m z _ _ (by simp;omega) (by rw[K1 _ _ _ hp0,hA]) (fun i hi=>?_)
  have hi':i<m:=by simp at hi;omega
  have hiz:i*z+z<=m*z:=by
   have:=Nat.mul_le_mul_right z (show i+1<=m by omega);rw[Nat.add_mul] at this;omega
  rcases Nat.lt_or_ge i lo with h5|h5
  ·have e1:(l.take lo++l'.take k++l.drop (lo+k))[i]=l[i]'(by omega):=by
    rw[List.getElem_append_left (by simp;omega),List.getElem_append_left (by simp;omega),List.getElem_take]
   have h6:(i+1)*z<=lo*z:=Nat.mul_le_mul_right z h5;rw[Nat.add_mul] at h6;rw[e1,X4 _ _ _ _ _ hp0 (.inl (by omega))];exact hrA i (by omega)
  ·rcases Nat.lt_or_ge i (lo+k) with h6|h6
   ·have e1:(l.take lo++l'.take k++l.drop (lo+k))[i]=l'[i-lo]'(by omega):=by
     have h7:(l.take lo).length=lo:=by simp;omega
     rw[List.getElem_append_left (by simp;omega),List.getElem_append_right (by omega),List.getElem_take];simp only[h7]
    have h8:=l9 (((cs.toList.drop off).take (m*z)).take (lo*z)) (news.take (k*z)) (((cs.toList.drop off).take (m*z)).drop (lo*z+(news.take (k*z)).length)) (i-lo) lo k z (by rw[List.length_take,hA];omega) hxl (by omega);rw[show lo+(i-lo)=i by omega,<- List.append_assoc] at h8;rw[e1,h8];have h9:=F4 (news.take (k*z)) (news.drop (k*z)) (i-lo) k z hxl (by omega);rw[List.take_append_drop] at h9;rw[<- h9];exact q4 (i-lo) (by omega)
   ·have e1:(l.take lo++l'.take k++l.drop (lo+k))[i]=l[i]'(by omega):=by
     have h7:(l.take lo++l'.take k).length=lo+k:=by simp;omega
     rw[List.getElem_append_right (by omega),List.getElem_drop];simp only[h7,show lo+k+(i-(lo+k))=i by omega]
    have h7:(lo+k)*z<=i*z:=Nat.mul_le_mul_right z h6;rw[Nat.add_mul] at h7;rw[e1,X4 _ _ _ _ _ hp0 (.inr (by rw[hxl];exact h7))];exact hrA i (by omega)
 obtain⟨F2,g1,g2,g3,g4,g5⟩:=hr.upd hl hu (by simp) hrc hnd List.nodup_nil (by simp) (.inl rfl)
 have hsp:(((cs.toList.drop off).take (m*z)).take (lo*z)++news.take (k*z)++((cs.toList.drop off).take (m*z)).drop (lo*z+(news.take (k*z)).length)).length=m*z:=by
  rw[K1 _ _ _ (by rw[hxl,hA];exact hlm),hA]
 rw[hsp,MA _ _ _ _ _ h3 (by rw[hxl];exact hlm)] at g1
 have hnode:ρ id∉F2:=fun hm=>by
  have:=st.nodB id;rw[hFb] at this;exact(List.nodup_cons.1 this).1 ((g2 _ hm).resolve_right (by simp))
 have st2:=st.putB (x:=.var d') (Fe':=Fe) (σ1:=σ) (F':=ρ id::F2) (w':=w.setRow (ρ id) (cs.toList.take (off+lo*z)++news.take (k*z)++cs.toList.drop (off+lo*z+(news.take (k*z)).length)).toArray)
  hb rfl rfl (fun u d hd=>.inl ⟨hd,rfl⟩) st.envN (fun u=>.inl rfl) rfl ⟨rfl,Nat.le_refl _⟩ rfl (by simp) (fun b hbne=>setRow_other w (ρ id) b _ hbne) (List.nodup_cons.2 ⟨hnode,g3⟩) (by simp)
  (fun b hbm=>.inl (by
   rw[hFb]
   rcases List.mem_cons.1 hbm with rfl|hm
   ·simp
   ·exact List.mem_cons_of_mem _ ((g2 b hm).resolve_right (by simp))))
  ⟨_,e',F2,setRow_heap w (ρ id) cs _ e' (0,0) hb',by
   simp only;refine g1.mono (fun b hbb _=>setRow_other w (ρ id) b _ ?_) (fun b hbb _=>⟨hbb.1,fun ho=>hbb.2 ?_⟩) (fun i hi=>⟨hi,rfl⟩)
   ·rintro rfl
    rcases hbb with hbb|hbb
    ·exact hbb.2 (.inr ⟨id,by rw[hFb];simp⟩)
    ·exact hnode hbb
   ·rcases ho with ⟨u,hu⟩|⟨i,hi⟩
    ·exact .inl ⟨u,hu⟩
    ·by_cases hid:i=id
     ·subst hid;rw[j3] at hi;refine .inr ⟨i, ?_⟩;rw[hFb]
      rcases List.mem_cons.1 hi with rfl|hm
      ·simp
      ·exact List.mem_cons_of_mem _ ((g2 b hm).resolve_right (by simp))
     ·rw[q8 hid] at hi;exact .inr ⟨i,hi⟩,rfl⟩
 refine⟨.int .i64 (k:Nat),w.setRow (ρ id) (cs.toList.take (off+lo*z)++news.take (k*z)++cs.toList.drop (off+lo*z+(news.take (k*z)).length)).toArray, ?_, ?_⟩
 rotate_left
 ·exact st2.put (t:=t) (d:=.int (k:Nat)) (v:=.int .i64 (k:Nat)) (by simpa using ht) rfl (by simp only[VR,D.isAgg,Bool.false_eq_true,if_false];exact .int _)
 ·have hfc:(Builtin.firstCells z k (.slice base l'.length cap2)).run P w=.ok (news.take (k*z)).toArray w:=by
   rcases q1 with ⟨rfl,rfl,rfl⟩|⟨ad,rfl,hn⟩
   ·have:k=0:=by simp at hkl;exact hkl
    subst this;simp[Builtin.firstCells]
   ·refine run_firstCells_some w z k ad l'.length cap2 _ hxl (fun j u hu=>hn j u ?_);rw[List.getElem?_take] at hu;split at hu
    ·exact hu
    ·cases hu
  have hst:(storeCells ⟨ρ id,o',none⟩ (news.take (k*z)) 0).run P w=.ok () (w.setRow (ρ id) (cs.toList.take (off+lo*z)++news.take (k*z)++cs.toList.drop (off+lo*z+(news.take (k*z)).length)).toArray):=by
   rcases ho' with rfl|⟨rfl,rfl⟩
   ·have:=run_storeCells_at P (ρ id) (off+lo*z) e' (news.take (k*z)) 0 cs w hb' (by
     rw[hxl];simp only[Array.length_toList] at h3
     omega) (fun u hu=>q3 u (List.mem_of_mem_take hu))
    simpa using this
   ·have hk0:k=0:=by omega
    subst hk0;simp only[Nat.zero_mul,List.take_zero,List.append_nil,List.length_nil,Nat.add_zero,List.take_append_drop,Array.toArray_toList];rw[setRow_self w (ρ id) cs e' (0,0) hb'];rfl
  unfold execOp;have hmin:Nat.min l'.length n=k:=hk;simp[resolve,invoke,builtin,Builtin.copy_,run_underlying hT.u,w3 hv,hxe,Builtin.lenOf,ElT.size (P:=P) (e:=e),hmin,hfc,hst,goInt]
end Go.Sx

namespace Go.Sx
variable{pos:String}{aft:Array Edge}{g:Option (Nat×Bool)}
variable{P:Program}{C:Ctx}{σ σ' σ1:Sg}{a:Act}{w w':World}{ρ:Nat->Nat}{Fe Fe' Fb:Nat->List Nat}
class BaT(P:Program)(t:TypeId)(n e z:outParam Nat):Prop where
 i:∃ it zv ie,P.underlying t=some (.array n e)/\P.info? t=some it/\it.zero=some zv/\P.info? e=some ie/\ie.size=z/\zv.cells.size=n*z
theorem R.bldA{t n e z:Nat}{ps:List (Nat×Operand)}{ds:List D}{ty rt:TypeId}[hT:BaT P ty n e z]
 (hps:evs C.gl σ ps 0=some ds) (hp:WO z ds) (hk:ds.length=n) (ht:t<σ.n) :
 OpS P C ⟨some t,.build ty ps.toArray,rt,pos,aft,g⟩ σ (σ.set t (.arr n z ds)):=by
 refine OpS.value fun a w ⟨ρ,Fe,Fb,st⟩=>?_;obtain⟨it,zv,ie,h1,h2,h3,h4,h5,h6⟩:=hT.i;subst hk;obtain⟨out,q1,q2,q3,q4⟩:=OS (w:=w) (ρ:=ρ) (z:=z) (fun x d h hp=>P2 st h hp) ps 0 ds zv.cells hps hp (by rw[h6];simp);simp only[Nat.zero_add] at q4
 have hps2:(ps.toArray.map fun x=>(x.1,a.eval x.2)).toList=ps.map (fun p=>(p.1,a.eval p.2)):=by simp
 have hpur:(D.arr ds.length z ds).pur=true:=rfl;refine⟨.agg out,w, ?_,st.put ht rfl ?_⟩
 ·have:=run_build (P:=P) w ty (ps.toArray.map fun x=>(x.1,a.eval x.2)) out (by
   rw[hps2];simp only[Program.built,h1,h2,h3,h4,h5]
   exact q1)
  unfold execOp;simp only[Sem.run_bind,this,Result.andThen_ok,Sem.run_pure]
 ·simp only[VR,D.isAgg,if_true];exact⟨out,rfl,.arr _ _ _ _ rfl (by simp[q2,h6]) q4⟩
def offl:List D->Nat->List (Nat×Nat)
 | [],_=>[]
 | d::r,o=>(o,d.sz)::offl r (o+d.sz)
theorem YU(l:List D)(o i:Nat)(h:i<l.length):(offl l o)[i]? = some (o+offk l i,l[i].sz):=by
 induction l generalizing o i with
 | nil=>simp at h
 | cons d r ih=>
  cases i with
  | zero=>simp[offl,offk]
  | succ i=>
   simp only[offl,List.getElem?_cons_succ];rw[ih (o+d.sz) i (by simpa using h)];simp[F5,Nat.add_assoc]
class BsT(P:Program)(t:TypeId)(l:outParam (List D)):Prop where
 i:∃ fs it zv,P.underlying t=some (.struct fs)/\P.info? t=some it/\it.zero=some zv/\fs.toList.mapM (fun f=>(P.info? f.type).map fun i=>(f.offset,i.size))=some (offl l 0)/\chk (.agg l) zv.cells.toList=true
def JQ(gl:List (Nat×D))(σ:Sg):List (Nat×Operand)->List D->Option (List D)
 | [],l=>some l
 | (i,x)::r,l=>match ev gl σ x with
  | some d=>JQ gl σ r (l.set i d)
  | none=>none
def PurS(gl:List (Nat×D))(σ:Sg)(l:List D):List (Nat×Operand)->Prop
 | []=>True
 | (i,x)::r=>(∃ d,ev gl σ x=some d/\d.pur=true/\d.np=true/\(l[i]?).map D.sz=some d.sz)/\PurS gl σ l r
theorem OR{G L:Nat->Prop}{gl:List (Nat×D)}{l0:List D}(hv:∀ x d,ev gl σ x=some d->d.pur=true->∃ cs:List Value,(a.eval x).cells.toList=cs/\Rc w ρ G L true d cs []) :
 ∀ (ps:List (Nat×Operand)) (l l':List D) (cs:Array Value),JQ gl σ ps l=some l'->PurS gl σ l0 ps->l.map D.sz=l0.map D.sz->Rc w ρ G L false (.agg l) cs.toList [] ->
  ∃ out:Array Value,Instr.fill ((offl l0 0).toArray[·]?) cs (ps.map (fun p=>(p.1,a.eval p.2)))=some out/\Rc w ρ G L false (.agg l') out.toList []:=by
 intro ps
 induction ps with
 | nil=>intro l l' cs h _ _ hr;simp only[JQ,Option.some.injEq] at h;subst h;exact⟨cs,rfl,hr⟩
 | cons p ps ih=>
  intro l l' cs h hp hz hr;obtain⟨i,x⟩:=p;obtain⟨⟨d,hx,p1,p2,p3⟩,p4⟩:=hp;simp only[JQ,hx] at h;obtain⟨xc,hxc,hrc⟩:=hv x d hx p1;have hlen:=hrc.len
  cases hl0:l0[i]? with
  | none=>rw[hl0] at p3;cases p3
  | some d0=>
   obtain⟨hi,rfl⟩:=List.getElem?_eq_some_iff.1 hl0;rw[hl0] at p3;simp only[Option.map_some,Option.some.injEq] at p3
   have hll:l.length=l0.length:=by have:=congrArg List.length hz;simpa using this
   have hi2:i<l.length:=by omega
   have hsi:l[i].sz=d.sz:=by
    have:(l.map D.sz)[i]'(by simpa using hi2)=(l0.map D.sz)[i]'(by simpa using hi):=by simp only[hz]
    simp at this;omega
   have hoff:offk l i=offk l0 i:=by
    have hs:∀ (u v:List D),u.map D.sz=v.map D.sz->D.szs u=D.szs v:=by
     intro u
     induction u with
     | nil=>intro v hv;cases v<;>simp_all
     | cons a u ihu=>intro v hv;cases v with
      | nil=>simp at hv
      | cons b v=>simp at hv;simp[hv.1,ihu v hv.2]
    unfold offk;exact hs _ _ (by rw[List.map_take,List.map_take,hz])
   have hlo:=K2 l i hi2;have hcl:=hr.len;simp only[E0,Array.length_toList] at hcl
   have hloc:(D.agg l).loc [i]=some (offk l i,l[i]):=by simp[D.loc,List.getElem?_eq_getElem hi2]
   have hupd:(D.agg l).upd [i] d=some (.agg (l.set i d)):=by simp[D.upd,List.getElem?_eq_getElem hi2]
   obtain⟨F2,g1,g2,_⟩:=hr.upd hloc hupd hsi.symm (hrc.unflag p2) List.nodup_nil List.nodup_nil (by simp) (.inl rfl)
   have hF2:F2=[]:=by
    cases F2 with
    | nil=>rfl
    | cons b r=>have:=g2 b (by simp);simp at this
   subst hF2;have hfold:=N1 cs xc (offk l i) 0 (by omega);simp only[Nat.add_zero] at hfold
   have hcs2:((a.eval x).cells.zipIdx.foldl (fun(c:Array Value) (p:Value×Nat)=>c.setIfInBounds (offk l i+p.2) p.1) cs).toList=cs.toList.take (offk l i)++xc++cs.toList.drop (offk l i+xc.length):=by
    rw[<- hfold,<- hxc,<- Array.foldl_toList];simp
   rw[<- hcs2] at g1
   obtain⟨out,q1,q2⟩:=ih (l.set i d) l' _ h p4 (by
    rw[List.map_set,<- hsi];rw[<- hz];apply List.ext_getElem?;intro j;rw[List.getElem?_set];split
    ·rename_i hij;subst hij;simp[hi2]
    ·rfl) g1
   refine⟨out, ?_,q2⟩;simp only[List.map_cons,Instr.fill]
   have hpl:(offl l0 0).toArray[i]? = some (offk l i,d.sz):=by
    rw[List.getElem?_toArray,YU l0 0 i hi,hoff,Nat.zero_add,<- p3]
   have hsz:(a.eval x).cells.size=d.sz:=by rw[<- Array.length_toList,hxc,hlen]
   simp only[hpl,hsz];rw[if_neg (by simp;omega)];exact q1
theorem R.bldS{t:Nat}{ps:List (Nat×Operand)}{l l':List D}{ty rt:TypeId}[hT:BsT P ty l]
 (hps:JQ C.gl σ ps l=some l') (hp:PurS C.gl σ l ps) (ht:t<σ.n) :
 OpS P C ⟨some t,.build ty ps.toArray,rt,pos,aft,g⟩ σ (σ.set t (.agg l')):=by
 refine OpS.value fun a w ⟨ρ,Fe,Fb,st⟩=>?_;obtain⟨fs,it,zv,h1,h2,h3,h4,h5⟩:=hT.i;obtain⟨out,q1,q2⟩:=OR (w:=w) (ρ:=ρ) (l0:=l) (fun x d h hp=>P2 st h hp) ps l l' zv.cells hps hp rfl (E4 _ _ _ _ _ _ h5)
 have hps2:(ps.toArray.map fun x=>(x.1,a.eval x.2)).toList=ps.map (fun p=>(p.1,a.eval p.2)):=by simp
 refine⟨.agg out,w, ?_,st.put ht rfl ?_⟩
 ·have:=run_build (P:=P) w ty (ps.toArray.map fun x=>(x.1,a.eval x.2)) out (by
   rw[hps2];simp only[Program.built,h1,h2,h3,h4]
   exact q1)
  unfold execOp;simp only[Sem.run_bind,this,Result.andThen_ok,Sem.run_pure]
 ·simp only[VR,D.isAgg,if_true];exact⟨out,rfl,q2.flag⟩
end Go.Sx

namespace Go.Sx
variable{P:Program}{C:Ctx}{σ σ' σ1:Sg}{xt yt ty:TypeId}{x y:Operand}{t:Nat}{pos:String}{aft:Array Edge}{g:Option (Nat×Bool)}
theorem evt{gl:List (Nat×D)}{σ:Sg}{s:Nat}{d:D}(h:σ.get s=some d):ev gl σ (.tmp s)=some d:=h
theorem IS(m n:Nat)(hx:ev C.gl σ x=some (.int (m:Int)))(hy:ev C.gl σ y=some (.int (n:Int)))(h:m+n<9223372036854775808)(ht:t<σ.n) :
 OpS P C ⟨some t,.binOp .add xt x y yt,ty,pos,aft,g⟩ σ (σ.set t (.int ((m+n:Nat):Int))):=
 m3 hx hy rfl trivial (B6 (by omega) (by omega) (by omega)) ht
theorem QX(m n:Nat)(hx:ev C.gl σ x=some (.int (m:Int)))(hy:ev C.gl σ y=some (.int (n:Int)))(h:n<=m)(h2:m<9223372036854775808)(ht:t<σ.n) :
 OpS P C ⟨some t,.binOp .sub xt x y yt,ty,pos,aft,g⟩ σ (σ.set t (.int ((m-n:Nat):Int))):=
 m3 hx hy rfl trivial (B6 (by omega) (by omega) (by omega)) ht
theorem II(m n:Nat)(hx:ev C.gl σ x=some (.int (m:Int)))(hy:ev C.gl σ y=some (.int (n:Int)))(h:m*n<9223372036854775808)(ht:t<σ.n) :
 OpS P C ⟨some t,.binOp .mul xt x y yt,ty,pos,aft,g⟩ σ (σ.set t (.int ((m*n:Nat):Int))):=
 m3 hx hy rfl trivial (B6 (by rw[Int.natCast_mul]) (by have:(0:Int)<=((m*n:Nat):Int):=Int.natCast_nonneg _;omega) (by omega)) ht
theorem O8(m n:Nat)(hx:ev C.gl σ x=some (.int (m:Int)))(hy:ev C.gl σ y=some (.int (n:Int)))(h:0<n)(h2:m<9223372036854775808)(ht:t<σ.n) :
 OpS P C ⟨some t,.binOp .quo xt x y yt,ty,pos,aft,g⟩ σ (σ.set t (.int ((m/n:Nat):Int))):=
 m3 hx hy rfl (show(n:Int)≠0 by omega) (B6 (by rw[Int.ofNat_tdiv]) (by have:(0:Int)<=((m/n:Nat):Int):=Int.natCast_nonneg _;omega) (by have:=Nat.div_le_self m n;omega)) ht
theorem E7(m n:Nat)(hx:ev C.gl σ x=some (.int (m:Int)))(hy:ev C.gl σ y=some (.int (n:Int)))(h:0<n)(ht:t<σ.n) :
 OpS P C ⟨some t,.binOp .rem xt x y yt,ty,pos,aft,g⟩ σ (σ.set t (.int ((m%n:Nat):Int))):=
 m3 hx hy rfl (show(n:Int)≠0 by omega) (congrArg D.int (by rw[Int.ofNat_tmod])) ht
theorem R.lssN(m n:Nat)(hx:ev C.gl σ x=some (.int (m:Int)))(hy:ev C.gl σ y=some (.int (n:Int)))(ht:t<σ.n) :
 OpS P C ⟨some t,.binOp .lss xt x y yt,ty,pos,aft,g⟩ σ (σ.set t (.bool (decide (m<n)))):=m3 hx hy rfl trivial (congrArg D.bool (by rw[Bool.eq_iff_iff];simp)) ht
theorem GF(m n:Nat)(hx:ev C.gl σ x=some (.int (m:Int)))(hy:ev C.gl σ y=some (.int (n:Int)))(ht:t<σ.n) :
 OpS P C ⟨some t,.binOp .leq xt x y yt,ty,pos,aft,g⟩ σ (σ.set t (.bool (decide (m<=n)))):=m3 hx hy rfl trivial (congrArg D.bool (by rw[Bool.eq_iff_iff];simp)) ht
theorem R.gtrN(m n:Nat)(hx:ev C.gl σ x=some (.int (m:Int)))(hy:ev C.gl σ y=some (.int (n:Int)))(ht:t<σ.n) :
 OpS P C ⟨some t,.binOp .gtr xt x y yt,ty,pos,aft,g⟩ σ (σ.set t (.bool (decide (n<m)))):=m3 hx hy rfl trivial (congrArg D.bool (by rw[Bool.eq_iff_iff];simp)) ht
theorem R.geqN(m n:Nat)(hx:ev C.gl σ x=some (.int (m:Int)))(hy:ev C.gl σ y=some (.int (n:Int)))(ht:t<σ.n) :
 OpS P C ⟨some t,.binOp .geq xt x y yt,ty,pos,aft,g⟩ σ (σ.set t (.bool (decide (n<=m)))):=m3 hx hy rfl trivial (congrArg D.bool (by rw[Bool.eq_iff_iff];simp)) ht
theorem R.eqlN(m n:Nat)(hx:ev C.gl σ x=some (.int (m:Int)))(hy:ev C.gl σ y=some (.int (n:Int)))(ht:t<σ.n) :
 OpS P C ⟨some t,.binOp .eql xt x y yt,ty,pos,aft,g⟩ σ (σ.set t (.bool (decide (m=n)))):=m3 hx hy rfl trivial (congrArg D.bool (by rw[Bool.eq_iff_iff];simp;omega)) ht
theorem R.neqN(m n:Nat)(hx:ev C.gl σ x=some (.int (m:Int)))(hy:ev C.gl σ y=some (.int (n:Int)))(ht:t<σ.n) :
 OpS P C ⟨some t,.binOp .neq xt x y yt,ty,pos,aft,g⟩ σ (σ.set t (.bool (decide (m≠n)))):=m3 hx hy rfl trivial (congrArg D.bool (by rw[Bool.eq_iff_iff];simp;omega)) ht
theorem j4{α:Type}[Inhabited α]{f:α->D}{l:List α}{i:Nat}(h:i<l.length):(l.map f)[i]? = some (f l[i]!):=by
 rw[List.getElem?_map,List.getElem?_eq_getElem h];simp[h]
theorem z9{Q:Exit->Sg->Prop}{x y:Code}{t:Nat}{p:Prop}[Decidable p](ht:σ.get t=some (.bool (decide p)))(h1:p->W P C x Q σ)(h2:¬ p->W P C y Q σ):W P C (.cond (.tmp t) x y) Q σ:=
 W.cond ht (fun h=>h1 (of_decide_eq_true h)) (fun h=>h2 (of_decide_eq_false h))
theorem d6{Q:Exit->Sg->Prop}{x y:Code}{t:Nat}{b:Bool}(ht:σ.get t=some (.bool b))(hb:b=true)(h1:W P C x Q σ):W P C (.cond (.tmp t) x y) Q σ:=
 W.cond ht (fun _=>h1) (fun h=>by rw[hb] at h;cases h)
theorem g9{Q:Exit->Sg->Prop}{x y:Code}{t:Nat}{b:Bool}(ht:σ.get t=some (.bool b))(hb:b=false)(h1:W P C y Q σ):W P C (.cond (.tmp t) x y) Q σ:=
 W.cond ht (fun h=>by rw[hb] at h;cases h) (fun _=>h1)
theorem PE{Q:Exit->Sg->Prop}{x y:Code}(M:Sg->Prop)(h1:W P C x (fun e s=>match e with | .normal=>M s|e=>Q e s) σ)(h2:∀ s,M s->W P C y Q s):W P C (.seq x y) Q σ:=
 W.seq (h1.mono (fun e s h=>by cases e<;>first|exact h2 s h|exact h))
theorem Ends.one'{rv:ResultVar}{r r':D}{e:Exit}{σ:Sg}(he:e=.normal∨e=.ret)(h:i7 σ rv=some r')(hr:r'=r)(h1:r.isRef=false)(h2:r.np=true)(h3:SW P r rv):Ends [rv] P r e σ:=by
 subst hr;exact⟨he,h,h1,h2,h3⟩
theorem evg{gl:List (Nat×D)}{gg:Nat}{d:D}(hC:C.gl=gl)(h:lk gl gg=some d):ev C.gl σ (.global gg)=some (.rp d):=by
 rw[hC];simp only[ev,h,Option.map_some]
theorem m2{gl:List (Nat×D)}{n m:Int}(h:ev gl σ x=some (.int n)):evo gl σ (some x) m=some n:=by simp only[evo,h,D.cnt]
theorem evo64{gl:List (Nat×D)}{n:UInt64}{m:Int}(h:ev gl σ x=some (.u64 n)):evo gl σ (some x) m=some (n.toNat:Int):=by simp only[evo,h,D.cnt]
theorem j9{α:Type}{f:α->D}{l:List α}(h:∀ x,(f x).brw=f x):(l.map f).map D.brw=l.map f:=by simp[Function.comp_def,h]
theorem u2{α:Type}{f:α->D}{l:List α}(h:∀ x,Frs (f x)):∀ x∈l.map f,Frs x:=by
 intro x hx;obtain⟨y,_,rfl⟩:=List.mem_map.1 hx;exact h y
theorem p8{α:Type}{f:α->D}{l:List α}(h:∀ x,(f x).pur=true):∀ x∈l.map f,x.pur=true:=by
 intro x hx;obtain⟨y,_,rfl⟩:=List.mem_map.1 hx;exact h y
theorem YY{α:Type}{f:α->D}{l:List α}(h:∀ x,(f x).np=true):∀ x∈l.map f,x.np=true:=by
 intro x hx;obtain⟨y,_,rfl⟩:=List.mem_map.1 hx;exact h y
theorem frs_nil:∀ x∈([]:List D),Frs x:=fun _ h=>by cases h
theorem ZH{d:D}{l:List D}(h:Frs d)(hl:∀ x∈l,Frs x):∀ x∈d::l,Frs x:=fun x hx=>by
 rcases List.mem_cons.1 hx with rfl|hx
 ·exact h
 ·exact hl x hx
theorem FrsR.one{r:D}(h:Frs r):FrsR r:=.inr ⟨fun ds e=>(by rw[e] at h;cases h),h⟩
theorem j5{f:FuncId}[CaT P f]{gl:List (Nat×D)}{args:List Operand}{tys:Array TypeId}{rt:TypeId}{ds:List D}{r:D}
 (hC:C.gl=gl) (hF:Fn P gl f ds r) (hb:Bors C.gl σ args ds) (hr:FrsR r) (ht:t<σ.n) :
 OpS P C ⟨some t,.call { callee:=.value (.func f),args:=args.toArray,argTypes:=tys },rt,pos,aft,g⟩ σ (σ.set t r):=by
 subst hC;exact R.call hF hb hr ht
theorem Q7{c:Code}{Q:Exit->Sg->Prop}{s:Nat}(e z:Nat)(h:σ.get s=some .nils)(k:W P C c Q (σ.upd s (.sl (some e) z []))):W P C c Q σ:=by
 intro a w ⟨ρ,Fe,Fb,st⟩;refine k a w ⟨ρ,_,Fb,st.turn (F:=[]) h rfl ⟨rfl,Nat.le_refl _⟩ rfl (Nat.le_refl _) (fun _ _ _=>rfl) List.nodup_nil (by simp) ?_⟩;obtain⟨v,hv,hr⟩:=(j2 rfl).1 (st.env _ _ h);simp only[VR,D.isAgg,Bool.false_eq_true,if_false] at hr;refine(j2 rfl).2 ⟨v,hv, ?_⟩;simp only[VR,D.isAgg,Bool.false_eq_true,if_false];rw[hr.nil_val];exact .slN _ _
inductive Evs(gl:List (Nat×D))(σ:Sg):List (Nat×Operand)->Nat->List D->Prop
 | nil {k:Nat}:Evs gl σ [] k []
 | cons {k:Nat} {x:Operand} {d:D} {ps:List (Nat×Operand)} {ds:List D} (h:ev gl σ x=some d) (t:Evs gl σ ps (k+1) ds):Evs gl σ ((k,x)::ps) k (d::ds)
theorem Evs.ok{gl:List (Nat×D)}{ps:List (Nat×Operand)}{k:Nat}{ds:List D}(h:Evs gl σ ps k ds):evs gl σ ps k=some ds:=by
 induction h with
 | nil=>rfl
 | cons h t ih=>simp[evs,h,ih]
inductive EvS(gl:List (Nat×D))(σ:Sg):List (Nat×Operand)->List D->List D->Prop
 | nil {l l':List D} (h:l=l'):EvS gl σ [] l l'
 | cons {i:Nat} {x:Operand} {d:D} {ps:List (Nat×Operand)} {l l':List D} (h:ev gl σ x=some d) (t:EvS gl σ ps (l.set i d) l'):EvS gl σ ((i,x)::ps) l l'
theorem EvS.ok{gl:List (Nat×D)}{ps:List (Nat×Operand)}{l l':List D}(h:EvS gl σ ps l l'):JQ gl σ ps l=some l':=by
 induction h with
 | nil h=>subst h;rfl
 | cons h t ih=>simp[JQ,h,ih]
theorem w9{t e z bytes k:Nat}{ps:List (Nat×Operand)}{ds:List D}{ty rt:TypeId}{pos:String}{aft:Array Edge}{g:Option (Nat×Bool)}[hT:SlT P ty e][hE:ElT P e z bytes]
 (hps:Evs C.gl σ ps 0 ds) (hp:WO z ds) (hk:ds.length=k) (ht:t<σ.n) (hsm:k*z<=16777216) :
 OpS P C ⟨some t,.buildSlice ty k ps.toArray,rt,pos,aft,g⟩ σ (σ.set t (.sl (some e) z ds)):=R.bsl hps.ok hp hk ht hsm
theorem TQ{t n e z:Nat}{ps:List (Nat×Operand)}{ds:List D}{ty rt:TypeId}{pos:String}{aft:Array Edge}{g:Option (Nat×Bool)}[hT:BaT P ty n e z]
 (hps:Evs C.gl σ ps 0 ds) (hp:WO z ds) (hk:ds.length=n) (ht:t<σ.n) :
 OpS P C ⟨some t,.build ty ps.toArray,rt,pos,aft,g⟩ σ (σ.set t (.arr n z ds)):=R.bldA hps.ok hp hk ht
theorem p6{t:Nat}{ps:List (Nat×Operand)}{l l':List D}{ty rt:TypeId}{pos:String}{aft:Array Edge}{g:Option (Nat×Bool)}[hT:BsT P ty l]
 (hps:EvS C.gl σ ps l l') (hp:PurS C.gl σ l ps) (ht:t<σ.n) :
 OpS P C ⟨some t,.build ty ps.toArray,rt,pos,aft,g⟩ σ (σ.set t (.agg l')):=R.bldS hps.ok hp ht
theorem GI{s t z n:Nat}{l:List D}{ty e rt:TypeId}[hT:SlT P ty e](h:SC σ s z l)(hl:l.length=n)(ht:t<σ.n) :
 OpS P C ⟨some t,.call { callee:=.builtin .len,args:=#[.tmp s],argTypes:=#[ty] },rt,pos,aft,g⟩ σ (σ.set t (.int ((n:Nat):Int))):=by
 subst hl;exact R.len h ht
theorem g7{d:D}:d.loc []=some (0,d):=by cases d<;>rfl
theorem loc_agg{l:List D}{k o o' m:Nat}{p:List Nat}{d d':D}(h:l[k]? = some d)(hm:offk l k=m)(hp:d.loc p=some (o',d'))(ho:o=m+o'):(D.agg l).loc (k::p)=some (o,d'):=by
 subst ho;subst hm;simp only[D.loc,h,hp]
theorem g8{n z:Nat}{l:List D}{k o o':Nat}{p:List Nat}{d d':D}(h:l[k]? = some d)(hp:d.loc p=some (o',d'))(ho:o=k*z+o'):(D.arr n z l).loc (k::p)=some (o,d'):=by
 subst ho;simp only[D.loc,h,hp]
theorem o5{d x:D}:d.upd [] x=some x:=by cases d<;>rfl
theorem A1{n z:Nat}{l l':List D}{k:Nat}{p:List Nat}{d d' x:D}(h:l[k]? = some d)(hp:d.upd p x=some d')(he:l.set k d'=l'):(D.arr n z l).upd (k::p) x=some (.arr n z l'):=by
 subst he;simp only[D.upd,h,hp]
theorem o7{α:Type}{f:α->D}{l:List α}{i:Nat}{v:α}:(l.map f).set i (f v)=(l.set i v).map f:=(List.map_set ..).symm
theorem brw_arr{α:Type}{f:α->D}{l:List α}{n z:Nat}(h:∀ x,(f x).brw=f x):(D.arr n z (l.map f)).brw=.arr n z (l.map f):=by
 simp only[D.brw,d5,j9 h]
theorem R.nilc{d:D}{rt:TypeId}(hx:ev C.gl σ x=some (.rp d))(ht:t<σ.n):OpS P C ⟨some t,.nilCheck x,rt,pos,aft,g⟩ σ (σ.set t (.rp d)):=by
 refine OpS.value fun a w ⟨ρ,Fe,Fb,st⟩=>?_;obtain⟨F,hv,_⟩:=c3 st hx rfl;have hF:=hv.pur rfl;subst hF;have hv0:=hv;simp only[VR,D.isAgg,Bool.false_eq_true,if_false] at hv;generalize hex:a.eval x=v at hv
 cases hv with
 | rp _ b off cs e fz hb hG hs hr=>
  refine⟨a.eval x,w, ?_,st.put ht rfl hv0⟩;unfold execOp;simp[hex]
theorem R.nilcP{s id off:Nat}{path:List Nat}{rt:TypeId}(hx:σ.get s=some (.ptr id off path))(ht:t<σ.n):OpS P C ⟨some t,.nilCheck (.tmp s),rt,pos,aft,g⟩ σ (σ.set t (.ptr id off path)):=by
 refine OpS.value fun a w ⟨ρ,Fe,Fb,st⟩=>?_;obtain⟨v,hv,hr⟩:=(j2 rfl).1 (st.env _ _ hx);have hr0:=hr;have hF:=hr.pur rfl;simp only[VR,D.isAgg,Bool.false_eq_true,if_false] at hr;generalize Fe s=F at hr
 cases hr with
 | ptr _ _ _ hL=>
  rw[hF] at hr0;refine⟨_,w, ?_,st.put ht rfl hr0⟩;unfold execOp;simp[w3 hv]
theorem R.slR{t e z bytes m:Nat}{l:List D}{lo hi:Option Operand}{i j:Int}{ty rt:TypeId}[hT:ArT P ty m e][hE:ElT P e z bytes]
 (hx:ev C.gl σ x=some (.rp (.arr m z l))) (hl:evo C.gl σ lo 0=some i) (hh:evo C.gl σ hi m=some j) (h0:0<=i) (h1:i<=j) (h2:j<=m) (ht:t<σ.n) :
 OpS P C ⟨some t,.slice ty x lo hi none,rt,pos,aft,g⟩ σ (σ.set t (.sl none z ((l.drop i.toNat).take (j-i).toNat))):=by
 refine OpS.value fun a w ⟨ρ,Fe,Fb,st⟩=>?_;obtain⟨F,hv,_⟩:=c3 st hx rfl;have hF:=hv.pur rfl;subst hF;simp only[VR,D.isAgg,Bool.false_eq_true,if_false] at hv;generalize hex:a.eval x=vx at hv
 cases hv with
 | rp _ b off cs e' fz hb hG hs hr=>
  cases hr with
  | arr _ _ _ _ hlm hsz hrr=>
   simp only[UN] at hs hsz hrr
   have hlen:((l.drop i.toNat).take (j-i).toNat).length=(j-i).toNat:=by simp;omega
   have e1:j.toNat-i.toNat=(j-i).toNat:=by omega
   have hbd:=D5 (P:=P) st (b:=false) (len:=m) (cap:=m) hl hh h0 h1 h2 (Nat.le_refl _);refine⟨.slice (some (if m=i.toNat then⟨b,off,none⟩ else⟨b,off+i.toNat*z,none⟩)) (j-i).toNat (m-i.toNat),w, ?_,st.put ht rfl ?_⟩
   ·unfold execOp
    cases lo<;>cases hi<;>simp_all [Instr.sliceAt,Instr.sureAddr,run_underlying hT.u,ElT.size (P:=P) (e:=e),J6]<;>split<;>simp_all
   ·simp only[VR,D.isAgg,Bool.false_eq_true,if_false]
    have hjz:((j-i).toNat)*z+i.toNat*z<=m*z:=by
     rw[<- Nat.add_mul];exact Nat.mul_le_mul_right z (by omega)
    by_cases hci:m=i.toNat
    ·simp only[hci,if_true,Nat.sub_self]
     have h3:(j-i).toNat=0:=by omega
     have:=Rc.slI (w:=w) (ρ:=ρ) (G:=gd C Fe Fb) (L:=fun id=>(σ.box id).isSome) (p:=true) b off cs e' fz 0 z [] hb hG (Nat.zero_le _) (by simp;omega) (fun k hk=>by simp at hk);simpa [h3] using this
    ·simp only[hci,if_false];have:=Rc.slI (w:=w) (ρ:=ρ) (G:=gd C Fe Fb) (L:=fun id=>(σ.box id).isSome) (p:=true) b (off+i.toNat*z) cs e' fz (m-i.toNat) z ((l.drop i.toNat).take (j-i).toNat) hb hG (by rw[hlen];omega)
      (by rw[hlen];omega) (fun k hk=>by
       rw[hlen] at hk;simp only[List.getElem_take,List.getElem_drop];have h5:=hrr (i.toNat+k) (by omega)
       have h6:(i.toNat+k)*z+z<=m*z:=by
        have:=Nat.mul_le_mul_right z (show i.toNat+k+1<=m by omega);rw[Nat.add_mul (i.toNat+k) 1 z] at this;omega
       rw[L5 _ _ _ _ _ h6,Nat.add_mul,<- Nat.add_assoc] at h5
       exact h5)
     rw[hlen] at this;exact this
theorem TZ{α:Type}[Inhabited α]{f:α->D}{l:List α}{lo n i:Nat}(h:lo+i<l.length)(hn:i<n):(((l.map f).drop lo).take n)[i]? = some (f l[lo+i]!):=by
 rw[List.getElem?_take,if_pos hn,List.getElem?_drop];exact j4 h
theorem R.slRN{t e z bytes m:Nat}{l l':List D}{lo hi:Option Operand}{i j:Int}{ty rt:TypeId}[hT:ArT P ty m e][hE:ElT P e z bytes](a b n:Nat)
 (hx:ev C.gl σ x=some (.rp (.arr m z l))) (hl:evo C.gl σ lo 0=some i) (hh:evo C.gl σ hi m=some j) (hi':i=a) (hj:j=b) (h1:a<=b) (h2:b<=m) (hn:b-a=n) (he:(l.drop a).take n=l') (ht:t<σ.n) :
 OpS P C ⟨some t,.slice ty x lo hi none,rt,pos,aft,g⟩ σ (σ.set t (.sl none z l')):=by
 subst hi';subst hj;subst he;have:=R.slR (P:=P) (C:=C) (e:=e) (ty:=ty) (pos:=pos) (aft:=aft) (g:=g) (rt:=rt) hx hl hh (by omega) (by omega) (by omega) ht
 have e1:((b:Int)-(a:Int)).toNat=n:=by omega
 have e2:((a:Int)).toNat=a:=rfl;rw[e1,e2] at this;exact this
theorem R.slIN{t e z bytes:Nat}{l l':List D}{lo hi:Option Operand}{i j:Int}{ty rt:TypeId}[hT:SlT P ty e][hE:ElT P e z bytes](a b n:Nat)
 (hx:ev C.gl σ x=some (.sl none z l)) (hl:evo C.gl σ lo 0=some i) (hh:evo C.gl σ hi l.length=some j) (hi':i=a) (hj:j=b) (h1:a<=b) (h2:b<=l.length) (hn:b-a=n) (he:(l.drop a).take n=l') (ht:t<σ.n) :
 OpS P C ⟨some t,.slice ty x lo hi none,rt,pos,aft,g⟩ σ (σ.set t (.sl none z l')):=by
 subst hi';subst hj;subst he;have:=R.slI (P:=P) (C:=C) (e:=e) (ty:=ty) (pos:=pos) (aft:=aft) (g:=g) (rt:=rt) hx hl hh (by omega) (by omega) (by omega) ht
 have e1:((b:Int)-(a:Int)).toNat=n:=by omega
 have e2:((a:Int)).toNat=a:=rfl;rw[e1,e2] at this;exact this
theorem PS{s t e z bytes:Nat}{l:List D}{lo hi:Option Operand}{i j:Int}{ty rt:TypeId}[hT:SlT P ty e][hE:ElT P e z bytes](a b n:Nat)
 (hx:SC σ s z l) (hl:evo C.gl σ lo 0=some i) (hh:evo C.gl σ hi l.length=some j) (hi':i=a) (hj:j=b) (h1:a<=b) (h2:b<=l.length) (hn:b-a=n) (ht:t<σ.n) (hst:s≠t) :
 OpS P C ⟨some t,.slice ty (.tmp s) lo hi none,rt,pos,aft,g⟩ σ (σ.set t (.vw s z a n)):=by
 subst hi';subst hj;have:=R.slV (P:=P) (C:=C) (e:=e) (ty:=ty) (pos:=pos) (aft:=aft) (g:=g) (rt:=rt) hx hl hh (by omega) (by omega) (by omega) ht hst
 have e1:((b:Int)-(a:Int)).toNat=n:=by omega
 have e2:((a:Int)).toNat=a:=rfl;rw[e1,e2] at this;exact this
theorem J4{s t e z bytes m id off:Nat}{path:List Nat}{d0:D}{l:List D}{lo hi:Option Operand}{i j:Int}{ty rt:TypeId}[hT:ArT P ty m e][hE:ElT P e z bytes](a b n:Nat)
 (hx:σ.get s=some (.ptr id off path)) (hb:σ.box id=some (.var d0)) (hloc:d0.loc path=some (off,.arr m z l)) (hl:evo C.gl σ lo 0=some i) (hh:evo C.gl σ hi m=some j) (hi':i=a) (hj:j=b) (h1:a<=b) (h2:b<=m) (hn:b-a=n) (ht:t<σ.n) :
 OpS P C ⟨some t,.slice ty (.tmp s) lo hi none,rt,pos,aft,g⟩ σ (σ.set t (.va id off z n path a)):=by
 subst hi';subst hj;have:=R.slA (P:=P) (C:=C) (e:=e) (ty:=ty) (pos:=pos) (aft:=aft) (g:=g) (rt:=rt) hx hb hloc hl hh (by omega) (by omega) (by omega) ht
 have e1:((b:Int)-(a:Int)).toNat=n:=by omega
 have e2:((a:Int)).toNat=a:=rfl;rw[e1,e2] at this;exact this
theorem UW{α:Type}{f:α->D}{l:List α}{a n:Nat}:((l.map f).drop a).take n=((l.drop a).take n).map f:=by rw[List.map_take,List.map_drop]
theorem TN{α:Type}[Inhabited α]{f:α->D}{l:List α}{lo n i:Nat}(h:lo+i<l.length)(hn:i<n):(((l.drop lo).take n).map f)[i]? = some (f l[lo+i]!):=by
 rw[<- UW];exact TZ h hn
theorem rest_map{α:Type}{f:α->D}{l:List α}{a:Nat}:((l.map f).drop a).take (l.length-a)=(l.drop a).map f:=by
 rw[<- List.map_drop,List.take_of_length_le (by simp)]
theorem IR{s t e z bytes id off n lo m k:Nat}{path:List Nat}{d0 d':D}{l l' l2:List D}{ty ty2 rt:TypeId}[hT:SlT P ty e][hE:ElT P e z bytes]
 (h:σ.get s=some (.va id off z n path lo)) (hb:σ.box id=some (.var d0)) (hl:d0.loc path=some (off,.arr m z l)) (hlo:lo+n<=m) (hx:SrcO C.gl σ x z l') (hnp:∀ y∈l',y.np=true) (ht:t<σ.n)
 (hk:min l'.length n=k) (he:l.take lo++l'.take k++l.drop (lo+k)=l2) (hu:d0.upd path (.arr m z l2)=some d') :
 OpS P C ⟨some t,.call { callee:=.builtin .copy,args:=#[.tmp s,x],argTypes:=#[ty,ty2] },rt,pos,aft,g⟩ σ ((σ.putB id (.var d')).set t (.int ((k:Nat):Int))):=by
 subst hk;subst he;exact R.cpA h hb hl hlo hx hnp ht hu
theorem u3{c:Code}{Q:Exit->Sg->Prop}{live:List Nat}{env':List (Nat×D)}{bx':List (Nat×Bx)}{n':Nat}(hE:picks σ.get live=env')(hb:σ.bx=bx')(hn:σ.n=n')(h:W P C c Q ⟨n',env',bx'⟩):W P C c Q σ:=W.drop hE hb hn h
theorem AJ{α:Type}{f:α->D}{l:List α}{a n:Nat}(h:∀ x,(f x).brw=f x):(((l.map f).drop a).take n).map D.brw=((l.drop a).take n).map f:=by
 rw[UW,j9 h]
theorem XV{α:Type}{f:α->D}{l:List α}{n:Nat}(h:∀ x,(f x).brw=f x)(hn:l.length=n):(((l.map f).drop 0).take n).map D.brw=l.map f:=by
 rw[AJ h,List.drop_zero,List.take_of_length_le (by omega)]
theorem r6{p id off:Nat}{path:List Nat}{d0 d1 d' dx:D}{n rt:TypeId}{gg:Bool}[LdT P ty n gg]
 (h:σ.get p=some (.ptr id off path)) (hb:σ.box id=some (.var d0)) (hl:d0.loc path=some (off,d1)) (hx:ev C.gl σ x=some dx) (hp:dx.pur=true) (hnp:dx.np=true)
 (hn:dx.sz=n) (hz:d1.sz=n) (hu:d0.upd path dx=some d') :
 OpS P C ⟨none,.store ty (.tmp p) x,rt,pos,aft,g⟩ σ (σ.putB id (.var d')):=R.st h hb hl hx hp hnp hn (hn.trans hz.symm) hu
theorem R.stEZ{p s s0 e z i off:Nat}{path:List Nat}{l:List D}{d0 d1 d' dx:D}{n rt:TypeId}{gg:Bool}[LdT P ty n gg]
 (h:σ.get p=some (.ep s z i off path)) (ho:ownr σ s s0) (hs:σ.get s0=some (.sl (some e) z l)) (hi:l[i]? = some d0) (hl:d0.loc path=some (off,d1))
 (hx:ev C.gl σ x=some dx) (hxp:dx.pur=true) (hxn:dx.np=true) (hz:dx.sz=n) (hz1:d1.sz=n) (hu:d0.upd path dx=some d') :
 OpS P C ⟨none,.store ty (.tmp p) x,rt,pos,aft,g⟩ σ (σ.upd s0 (.sl (some e) z (l.set i d'))):=R.stE h ho hs hi hl hx hxp hxn hz (hz.trans hz1.symm) hu
theorem UQ{α β:Type}{f:α->β}{l l':List α}:l.map f++l'.map f=(l++l').map f:=List.map_append.symm
theorem R3{α β:Type}{f:α->β}{l:List α}{v:α}:l.map f++[f v]=(l++[v]).map f:=by simp
theorem Q6{s s0 t e z bytes:Nat}{l l' l2:List D}{ty rt:TypeId}[hT:SlT P ty e][hE:ElT P e z bytes]
 (ho:ownr σ s s0) (hs:σ.get s0=some (.sl (some e) z l)) (hx:SrcO C.gl σ x z l') (he:l++l'=l2) (hn:l.length+l'.length<=1073741824) (ht:t<σ.n) (hst:s0≠t) (hby:bytes<=131072) :
 OpS P C ⟨some t,.call { callee:=.builtin .append,args:=#[.tmp s,x],argTypes:=#[ty,ty] },rt,pos,aft,g⟩ σ ((σ.kill s0).set t (.sl (some e) z l2)):=by
 subst he;exact R.app ho hs hx hn ht hst hby
theorem M0{p s s0 e z i off:Nat}{path:List Nat}{l l2:List D}{d0 d1 d' dx:D}{n rt:TypeId}{gg:Bool}[LdT P ty n gg]
 (h:σ.get p=some (.ep s z i off path)) (ho:ownr σ s s0) (hs:σ.get s0=some (.sl (some e) z l)) (hi:l[i]? = some d0) (hl:d0.loc path=some (off,d1))
 (hx:ev C.gl σ x=some dx) (hxp:dx.pur=true) (hxn:dx.np=true) (hz:dx.sz=n) (hz1:d1.sz=n) (hu:d0.upd path dx=some d') (he:l.set i d'=l2) :
 OpS P C ⟨none,.store ty (.tmp p) x,rt,pos,aft,g⟩ σ (σ.upd s0 (.sl (some e) z l2)):=by
 subst he;exact R.stEZ h ho hs hi hl hx hxp hxn hz hz1 hu
theorem gw{b v wt want:Bool}(h:b=v)(hw:wt=(v==want)):wt=(b==want):=by subst h;exact hw
theorem g6{l:List D}(h:D.purs l=true):∀ y∈l,y.pur=true:=fun y hy=>by
 obtain⟨k,hk,rfl⟩:=List.mem_iff_getElem.1 hy;exact US l h k hk
theorem R.eqAE{x y:Operand}{t e n:Nat}{xs ys:List UInt8}{xt yt ty:TypeId}{pos:String}{aft:Array Edge}{g:Option (Nat×Bool)}[hT:ArT P xt n e][hk:IkT P e .u8][hL:LdT P e 1 false][hE:EqT P xt]
 (hx:ev C.gl σ x=some (.arr n 1 (xs.map .u8))) (hy:ev C.gl σ y=some (.arr n 1 (ys.map .u8))) (ht:t<σ.n) :
 OpS P C ⟨some t,.binOp .eql xt x y yt,ty,pos,aft,g⟩ σ (σ.set t (.bool (xs==ys))):=R.eqA (neg:=false) hx hy ht
theorem IL{x y:Operand}{t e n:Nat}{xs ys:List UInt8}{xt yt ty:TypeId}{pos:String}{aft:Array Edge}{g:Option (Nat×Bool)}[hT:ArT P xt n e][hk:IkT P e .u8][hL:LdT P e 1 false][hE:EqT P xt]
 (hx:ev C.gl σ x=some (.arr n 1 (xs.map .u8))) (hy:ev C.gl σ y=some (.arr n 1 (ys.map .u8))) (ht:t<σ.n) :
 OpS P C ⟨some t,.binOp .neq xt x y yt,ty,pos,aft,g⟩ σ (σ.set t (.bool (xs != ys))):=R.eqA (neg:=true) hx hy ht
end Go.Sx

namespace Go.Sx
variable{P:Program}{C:Ctx}{σ:Sg}{w:World}{ρ:Nat->Nat}
def u6(ids:List Nat)(i:Nat):Bool:=ids.any (Nat.beq i)
mutual
def D.okB(ids:List Nat):D->Bool
 | .ptr id _ _=>u6 ids id
 | .bs id _ _ _=>u6 ids id
 | .map id=>u6 ids id
 | .alb id _ _=>u6 ids id
 | .va id _ _ _ _ _=>u6 ids id
 | .agg l=>D.okBs ids l
 | .fn _ l=>D.okBs ids l
 | .tup l=>D.okBs ids l
 | .ifc _ d=>D.okB ids d
 | _=>true
def D.okBs(ids:List Nat):List D->Bool
 | []=>true
 | d::r=>D.okB ids d&&D.okBs ids r
end
theorem T6{ids:List Nat}(l:List D)(h:D.okBs ids l=true):∀ k (hk:k<l.length),l[k].okB ids=true:=by
 induction l with
 | nil=>intro k hk;simp at hk
 | cons d r ih=>
  simp only[D.okBs,Bool.and_eq_true] at h;intro k hk
  cases k with
  | zero=>exact h.1
  | succ k=>simpa using ih h.2 k (by simpa using hk)
theorem Rc.okB{ids:List Nat}{G L:Nat->Prop}{p:Bool}{d:D}{cs:List Value}{F:List Nat}(h:Rc w ρ G L p d cs F)(hd:d.okB ids=true):Rc w ρ G (fun id=>u6 ids id=true/\L id) p d cs F:=by
 induction h with
 | bool b=>exact .bool b
 | int n=>exact .int n
 | u8 x=>exact .u8 x
 | u16 x=>exact .u16 x
 | u32 x=>exact .u32 x
 | u64 x=>exact .u64 x
 | ik k n=>exact .ik k n
 | str s=>exact .str s
 | nils=>exact .nils
 | slN o z=>exact .slN o z
 | slE o z a=>exact .slE o z a
 | slI b off cs e fz cap z l hb hG hc hs hr ih=>exact .slI b off cs e fz cap z l hb hG hc hs (fun i hi=>(hr i hi).noL)
 | slO b cs e cap z l Fs hb hc hm hs ho1 hr ih=>exact .slO b cs e cap z l Fs hb hc hm hs ho1 (fun i hi=>(hr i hi).noL)
 | agg l cs Fs hs hr ih=>exact .agg l cs Fs hs (fun k hk=>ih k hk (T6 l (by simpa [D.okB] using hd) k hk))
 | arr n z l cs hl hs hr ih=>exact .arr n z l cs hl hs (fun i hi=>(hr i hi).noL)
 | ptr id off path hid=>exact .ptr id off path ⟨by simpa [D.okB] using hd,hid⟩
 | bs id z n cap hid hcap=>exact .bs id z n cap ⟨by simpa [D.okB] using hd,hid⟩ hcap
 | nilp=>exact .nilp
 | rp d b off cs e fz hb hG hs hr ih=>exact .rp d b off cs e fz hb hG hs hr.noL
 | map id hid=>exact .map id ⟨by simpa [D.okB] using hd,hid⟩
 | nilmap=>exact .nilmap
 | fn f caps vs hl ha hr ih=>exact .fn f caps vs hl ha (fun k hk=>ih k hk (T6 caps (by simpa [D.okB] using hd) k hk))
 | nilf=>exact .nilf
 | yld l=>exact .yld l
 | ifc t d v ha hr ih=>exact .ifc t d v ha (ih (by simpa [D.okB] using hd))
 | nili=>exact .nili
 | dead v h=>exact .dead v h
theorem VR.okB{ids:List Nat}{G L:Nat->Prop}{d:D}{v:Value}{F:List Nat}(h:VR w ρ G L d v F)(hd:d.okB ids=true):VR w ρ G (fun id=>u6 ids id=true/\L id) d v F:=by
 unfold VR at *
 cases hg:d.isAgg<;>simp only[hg,if_true,if_false,Bool.false_eq_true] at h ⊢
 ·exact h.okB hd
 ·obtain⟨cs,rfl,h⟩:=h;exact⟨cs,rfl,h.okB hd⟩
theorem SR.okB{ids:List Nat}{G L G' L':Nat->Prop}{a:Act}{t:Nat}{d:D}{F:List Nat}(h:SR w ρ G L a t d F)(hd:d.okB ids=true)
 (hg:∀ b,G b->b<w.heap.size->G' b) (hL:∀ id,(u6 ids id=true/\L id)->L' id):SR w ρ G' L' a t d F:=by
 have key:∀ (d:D) (v:Value) (F:List Nat),d.okB ids=true->VR w ρ G L d v F->VR w ρ G' L' d v F:=fun d v F h1 h2=>
  (h2.okB h1).mono (fun _ _ _=>rfl) hg (fun id hid=>⟨hL id hid,rfl⟩)
 cases d with
 | alb id off path=>obtain⟨h1,h2,h3⟩:=h;exact⟨h1,hL _ ⟨by simpa [D.okB] using hd,h2⟩,h3⟩
 | va id off z n path lo=>obtain⟨h1,h2,h3⟩:=h;exact⟨h1,hL _ ⟨by simpa [D.okB] using hd,h2⟩,h3⟩
 | tup ds=>
  obtain⟨vs,Fs,h1,h2,h3,h4⟩:=h;refine⟨vs,Fs,h1,h2,h3,fun k hk=>(h4 k hk).imp id fun⟨h5,h6⟩=>⟨h5,key _ _ _ (T6 ds (by simpa [D.okB] using hd) k hk) h6⟩⟩
 | al s=>exact h
 | vw s z lo n=>exact h
 | ep s z i off path=>exact h
 | dead=>exact h
 | _=>obtain⟨v,h1,h2⟩:=h;exact⟨v,h1,key _ _ _ hd h2⟩
def n8(ids:List Nat):List (Nat×Bx)->List (Nat×Bx)
 | []=>[]
 | (k,b)::r=>bif u6 ids k then(k,b)::n8 ids r else n8 ids r
theorem Y0(ids:List Nat)(l:List (Nat×Bx))(u:Nat):lk (n8 ids l) u=if u6 ids u then lk l u else none:=by
 induction l with
 | nil=>simp[n8,lk]
 | cons x r ih=>
  obtain⟨k,d⟩:=x;simp only[n8,v4];by_cases hk:u6 ids k=true
  ·simp only[hk,cond_true,v4,ih];by_cases hku:k=u
   ·subst hku;simp[hk]
   ·simp[hku]
  ·have hk':u6 ids k=false:=by simpa using hk
   simp only[hk',cond_false,ih];by_cases hku:k=u
   ·subst hku;simp[hk']
   ·simp[hku]
def C0(ids:List Nat):List (Nat×D)->Bool
 | []=>true
 | (_,d)::r=>d.okB ids&&C0 ids r
def ER(ids:List Nat):List (Nat×Bx)->Bool
 | []=>true
 | (_,.var d)::r=>d.okB ids&&ER ids r
 | (_,.mp _)::_=>false
theorem D9{ids:List Nat}{l:List (Nat×D)}(h:C0 ids l=true){t:Nat}{d:D}(hd:lk l t=some d):d.okB ids=true:=by
 induction l with
 | nil=>simp[lk] at hd
 | cons x r ih=>
  obtain⟨k,e⟩:=x;simp only[C0,Bool.and_eq_true] at h;rw[v4] at hd;by_cases hk:k=t
  ·simp only[hk,if_true,Option.some.injEq] at hd;subst hd;exact h.1
  ·simp only[hk,if_false] at hd;exact ih h.2 hd
theorem NI{ids:List Nat}{l:List (Nat×Bx)}(h:ER ids l=true){t:Nat}{b:Bx}(hd:lk l t=some b):∃ d,b=.var d/\d.okB ids=true:=by
 induction l with
 | nil=>simp[lk] at hd
 | cons x r ih=>
  obtain⟨k,e⟩:=x
  cases e with
  | mp=>simp[ER] at h
  | var e=>
   simp only[ER,Bool.and_eq_true] at h;rw[v4] at hd;by_cases hk:k=t
   ·simp only[hk,if_true,Option.some.injEq] at hd;subst hd;exact⟨e,rfl,h.1⟩
   ·simp only[hk,if_false] at hd;exact ih h.2 hd
theorem p9{c:Code}{Q:Exit->Sg->Prop}(ids:List Nat){bx':List (Nat×Bx)}(hb:n8 ids σ.bx=bx')(he:C0 ids σ.env=true)(hx:ER ids bx'=true)(hpn:∀ id b,C.pin id=some b->u6 ids id=true)(h:W P C c Q ⟨σ.n,σ.env,bx'⟩):W P C c Q σ:=by
 intro a w ⟨ρ,Fe,Fb,st⟩;refine h a w ?_
 have hl:∀ u,lk bx' u=if u6 ids u then σ.box u else none:=fun u=>by rw[<- hb];exact Y0 ids σ.bx u
 have hsub:∀ id,∀ b∈(if u6 ids id then Fb id else[]),b∈Fb id:=fun id b hm=>by split at hm;exact hm;cases hm
 have hown:∀ b,own Fe (fun id=>if u6 ids id then Fb id else[]) b->own Fe Fb b:=fun b hb=>hb.imp id fun⟨i,hi⟩=>⟨i,hsub i b hi⟩
 have hgd:∀ b,gd C Fe Fb b->gd C Fe (fun id=>if u6 ids id then Fb id else[]) b:=fun b hb=>⟨hb.1,fun hc=>hb.2 (hown b hc)⟩
 have hL:∀ id,(u6 ids id=true/\(σ.box id).isSome)->(lk bx' id).isSome:=fun id ⟨h1,h2⟩=>by rw[hl,if_pos h1];exact h2
 exact⟨ρ,Fe,(fun id=>if u6 ids id then Fb id else[]),{
  size:=st.size
  defs:=st.defs
  pin:=fun id b hp=>⟨(st.pin id b hp).1,hL id ⟨hpn id b hp,(st.pin id b hp).2⟩⟩
  env:=fun t d hd=>(st.env t d hd).okB (D9 he hd) (fun b hb _=>hgd b hb) hL
  envN:=st.envN
  bx:=fun id b hd=>by
   obtain⟨d,rfl,hok⟩:=NI hx hd;have h1:=hl id;by_cases hm:u6 ids id=true
   ·rw[if_pos hm] at h1
    have h2:σ.box id=some (.var d):=by rw[<- h1];exact hd
    obtain⟨cs,e,F',h3,h4,h5⟩:=st.bx id _ h2;refine⟨cs,e,F',h3,(h4.okB hok).mono (fun _ _ _=>rfl) (fun b hb _=>hgd b hb) (fun id hid=>⟨hL id hid,rfl⟩),by simp only[hm,if_true];exact h5⟩
   ·rw[if_neg hm] at h1;rw[show lk bx' id=some (.var d) from hd] at h1;cases h1
  bxN:=fun id hn=>by
   have h1:=hl id;by_cases hm:u6 ids id=true
   ·rw[if_pos hm] at h1;simp only[hm,if_true];exact st.bxN id (by rw[<- h1];exact hn)
   ·simp[hm]
  nodE:=st.nodE
  nodB:=fun id=>by show(if u6 ids id then Fb id else[]).Nodup;split;exact st.nodB id;exact List.nodup_nil
  dEE:=st.dEE
  dEB:=fun t id b hb hm=>st.dEB t id b hb (hsub id b hm)
  dBB:=fun id id' hne b hb hm=>st.dBB id id' hne b (hsub id b hb) (hsub id' b hm)
  new:=fun b hb=>st.new b (hown b hb)
  kept:=st.kept
  os:=st.os
  tape:=⟨st.tape.tp,st.tape.dr⟩
  output:=st.output
  grown:=st.grown
  gl:=st.gl
  okN:=st.okN
  okO:=fun b hb=>st.okO b (hown b hb) }⟩
theorem j7{C:Ctx}{pins ids:List Nat}(h:∀ id b,C.pin id=some b->o3 pins id=true)(hs:pins.all (u6 ids)=true):∀ id b,C.pin id=some b->u6 ids id=true:=fun id b hp=>by
 have h1:=h id b hp;simp only[o3,List.any_eq_true] at h1;obtain⟨x,hx,he⟩:=h1;have:=List.all_eq_true.1 hs x hx;rw[Nat.eq_of_beq_eq_true he];exact this
end Go.Sx

namespace Go.Sx
variable{P:Program}{C:Ctx}{σ σ' σ1:Sg}{a:Act}{w w':World}{ρ:Nat->Nat}{Fe Fe' Fb:Nat->List Nat}
theorem PL{G L:Nat->Prop}{n:Int}{v:Value}{F:List Nat}(h:VR w ρ G L (.int n) v F):v=.int .i64 n:=by
 simp only[VR,D.isAgg,Bool.false_eq_true,if_false] at h;cases h;rfl
theorem R.mkmap{t ty rt:TypeId}{pos:String}{aft:Array Edge}{g:Option (Nat×Bool)}(hid:σ.box t=none)(ht:t<σ.n) :
 OpS P C ⟨some t,.makeMap ty none,rt,pos,aft,g⟩ σ ((σ.newB t (.mp [])).set t (.map t)):=by
 refine OpS.value fun a w ⟨ρ,Fe,Fb,st⟩=>?_;refine⟨.map (some w.heap.size),w.alloc (.map #[] 0), ?_, ?_⟩
 ·unfold execOp;simp[Instr.makeMap,newObj,Sem.run]
 ·have h1:=st.newB (id:=t) (x:=.mp []) (o:=.map #[] 0) hid ⟨rfl,#[],0,heap_alloc_new w _,⟨rfl,rfl⟩,fun k hk=>by simp at hk⟩
  have h2:=h1.put (t:=t) (d:=.map t) (v:=.map (some w.heap.size)) (by simpa using ht) rfl (by
   simp only[VR,D.isAgg,Bool.false_eq_true,if_false];have:=Rc.map (w:=w.alloc (.map #[] 0)) (ρ:=CR ρ t w.heap.size) (G:=gd C Fe (upd Fb t [w.heap.size])) (L:=fun i=>((σ.newB t (.mp [])).box i).isSome) t (by simp[O3])
   simpa using this)
  exact h2
theorem YP{p id:Nat}(st:StW C σ a w ρ Fe Fb)(h:σ.get p=some (.map id)):a.tmps[p]? = some (.map (some (ρ id))):=by
 obtain⟨v,hv,hr⟩:=(j2 rfl).1 (st.env _ _ h);simp only[VR,D.isAgg,Bool.false_eq_true,if_false] at hr;generalize Fe p=F at hr;cases hr;exact hv
end Go.Sx

namespace Go.Sx
variable{P:Program}{C:Ctx}{σ σ' σ1:Sg}{a:Act}{w w':World}{ρ:Nat->Nat}{Fe Fe' Fb:Nat->List Nat}
variable{pos:String}{aft:Array Edge}{g:Option (Nat×Bool)}{t ty xt yt rt:TypeId}
theorem HS(P:Program)(w:World)(op:BinOp)(t:TypeId)(x y:Operand)(b:Option Addr)(n c:Nat)(v:Value):(eqGuard op t x y (.slice b n c) v).run P w=.ok () w:=by
 cases op<;>rfl
theorem EN{e:TypeId}(hT:P.underlying xt=some (.slice e))(b:Option Addr)(n c:Nat)(w:World) :
 (binOp .eql xt (.slice b n c) (.slice none 0 0)).run P w=.ok (.bool b.isNone) w:=by
 have h1:∀ d,(Op.equalIn (d+1) xt (.slice b n c) (.slice none 0 0)).run P w=.ok b.isNone w:=fun d=>by
  cases b<;>simp[Op.equalIn,run_underlying hT]
 have h2:(Op.equal xt (.slice b n c) (.slice none 0 0)).run P w=.ok b.isNone w:=h1 9999;simp only[binOp,Sem.run_bind,h2,Result.andThen_ok,Sem.run_pure]
theorem HM{e:TypeId}(hT:P.underlying xt=some (.slice e)){s:Nat}{b:Option Addr}{n c:Nat}(hv:a.tmps[s]? = some (.slice b n c)) :
 (execOp a.eval ⟨some t,.binOp .eql xt (.tmp s) (.const (.slice none 0 0)) yt,rt,pos,aft,g⟩).run P w=.ok (.value (.bool b.isNone)) w:=by
 unfold execOp;simp only[Sem.run_bind,w3 hv,HS,Result.andThen_ok,Sem.run_pure];have:a.eval (.const (.slice none 0 0))=.slice none 0 0:=rfl;simp only[this,EN hT,Result.andThen_ok]
theorem SC_some(st:StW C σ a w ρ Fe Fb){s z:Nat}{l:List D}(h:SC σ s z l)(hl:l≠[]):∃ b n c,a.tmps[s]? = some (.slice (some b) n c):=by
 obtain⟨base,len,cap,hv,hlen,hd⟩:=JO st h
 rcases hd with ⟨h3,h4⟩|⟨b,o,cs,e',fz,rfl,_⟩
 ·exact absurd (List.length_eq_zero_iff.1 (by omega)) hl
 ·exact⟨_,_,_,hv⟩
theorem R.eqNilF{s z e:Nat}{l:List D}[hT:SlT P xt e](h:SC σ s z l)(hl:l≠[])(ht:t<σ.n) :
 OpS P C ⟨some t,.binOp .eql xt (.tmp s) (.const (.slice none 0 0)) yt,rt,pos,aft,g⟩ σ (σ.set t (.bool false)):=by
 refine OpS.value fun a w ⟨ρ,Fe,Fb,st⟩=>?_;obtain⟨b,n,c,hv⟩:=SC_some st h hl;exact⟨_,w,HM hT.u hv,st.put ht rfl (by simp only[VR,D.isAgg,Bool.false_eq_true,if_false];exact .bool _)⟩
theorem ST{G L:Nat->Prop}{n:Int}:VR w ρ G L (.int n) (.int .i64 n) []:=by
 simp only[VR,D.isAgg,Bool.false_eq_true,if_false];exact .int _
theorem R.minI{x y:Operand}{m n r:Int}{ta tb:TypeId}(hx:ev C.gl σ x=some (.int m))(hy:ev C.gl σ y=some (.int n))(hr:min m n=r)(ht:t<σ.n) :
 OpS P C ⟨some t,.call { callee:=.builtin .min,args:=#[x,y],argTypes:=#[ta,tb] },rt,pos,aft,g⟩ σ (σ.set t (.int r)):=by
 refine OpS.value fun a w ⟨ρ,Fe,Fb,st⟩=>?_;obtain⟨_,hvx,_⟩:=c3 st hx rfl;obtain⟨_,hvy,_⟩:=c3 st hy rfl;have hvx:=PL hvx;have hvy:=PL hvy
 have e:(if n<m then n else m)=r:=by rw[<- hr];split<;>omega
 refine⟨.int .i64 r,w, ?_,st.put ht rfl ST⟩;unfold execOp;simp[resolve,invoke,builtin,hvx,hvy,Builtin.min_,Builtin.min2,e]
theorem R.maxI{x y:Operand}{m n r:Int}{ta tb:TypeId}(hx:ev C.gl σ x=some (.int m))(hy:ev C.gl σ y=some (.int n))(hr:max m n=r)(ht:t<σ.n) :
 OpS P C ⟨some t,.call { callee:=.builtin .max,args:=#[x,y],argTypes:=#[ta,tb] },rt,pos,aft,g⟩ σ (σ.set t (.int r)):=by
 refine OpS.value fun a w ⟨ρ,Fe,Fb,st⟩=>?_;obtain⟨_,hvx,_⟩:=c3 st hx rfl;obtain⟨_,hvy,_⟩:=c3 st hy rfl;have hvx:=PL hvx;have hvy:=PL hvy
 have e:(if m<n then n else m)=r:=by rw[<- hr];split<;>omega
 refine⟨.int .i64 r,w, ?_,st.put ht rfl ST⟩;unfold execOp;simp[resolve,invoke,builtin,hvx,hvy,Builtin.max_,Builtin.max2,e]
theorem X5{α:Type}{f:α->D}{l:List α}{a n:Nat}(h:∀ x,(f x).pur=true):∀ y∈((l.map f).drop a).take n,y.pur=true:=fun y hy=>by
 obtain⟨x,_,rfl⟩:=List.mem_map.1 (List.mem_of_mem_drop (List.mem_of_mem_take hy));exact h x
theorem R.bldAZ{n e z bytes:Nat}{d:D}[hT:ArT P ty n e][hE:ElT P e z bytes][hZ:ZrT P ty d](hd:d.isAgg=true)(ht:t<σ.n) :
 OpS P C ⟨some t,.build ty #[],rt,pos,aft,g⟩ σ (σ.set t d):=by
 refine OpS.value fun a w ⟨ρ,Fe,Fb,st⟩=>?_;obtain⟨i,v,h1,h2,h3,h4⟩:=hZ.i;obtain⟨ie,zv,hi,_⟩:=hE.i;have hv:VR w ρ (gd C Fe Fb) (fun i=>(σ.box i).isSome) d v []:=chk_VR h3 h4;rw[hd] at h4
 cases v with
 | agg cs=>
  refine⟨.agg cs,w, ?_,st.put ht (by cases d<;>first|rfl|cases hd) hv⟩;unfold execOp;simp[Instr.build,zeroValue,typeInfo,h1,h2,run_underlying hT.u,sizeOf,hi,Instr.fill,Value.cells]
 | _=>simp[Value.isAgg'] at h4
class BoT(P:Program)(t:TypeId):Prop where
 u:P.underlying t=some .bool
theorem PY(P:Program)(w:World)(op:BinOp)(t:TypeId)(x y:Operand)(b:Bool)(v:Value):(eqGuard op t x y (.bool b) v).run P w=.ok () w:=by
 cases op<;>rfl
theorem NK[hT:BoT P xt](a b:Bool)(w:World):(Op.equal xt (.bool a) (.bool b)).run P w=.ok (a==b) w:=by
 have h1:∀ d,(Op.equalIn (d+1) xt (.bool a) (.bool b)).run P w=.ok (a==b) w:=fun d=>by
  simp[Op.equalIn,run_underlying hT.u]
 exact h1 9999
theorem SV{G L:Nat->Prop}{b:Bool}{v:Value}{F:List Nat}(h:VR w ρ G L (.bool b) v F):v=.bool b:=by
 simp only[VR,D.isAgg,Bool.false_eq_true,if_false] at h;cases h;rfl
theorem R.neB{x y:Operand}{b c:Bool}[hT:BoT P xt](hx:ev C.gl σ x=some (.bool b))(hy:ev C.gl σ y=some (.bool c))(ht:t<σ.n) :
 OpS P C ⟨some t,.binOp .neq xt x y yt,rt,pos,aft,g⟩ σ (σ.set t (.bool (b != c))):=by
 refine OpS.value fun a w ⟨ρ,Fe,Fb,st⟩=>?_;obtain⟨_,vx,_⟩:=c3 st hx rfl;obtain⟨_,vy,_⟩:=c3 st hy rfl;have vx:=SV vx;have vy:=SV vy;refine⟨.bool (b != c),w, ?_,st.put ht rfl (by simp only[VR,D.isAgg,Bool.false_eq_true,if_false];exact .bool _)⟩;unfold execOp;simp only[Sem.run_bind,vx,vy,PY,Result.andThen_ok,binOp,NK,Sem.run_pure];rfl
end Go.Sx

namespace Go.Sx
variable{P:Program}{C:Ctx}{σ σ' σ1:Sg}{a:Act}{w w':World}{ρ:Nat->Nat}{Fe Fe' Fb:Nat->List Nat}
def Fr(rd:Option Nat):Fence:={ Fence.wide with round:=rd }
def V(P:Program)(rd:Option Nat){ι:Type}(A:ι->Act->World->Prop)(c:Code)(Q:Exit->ι->Prop)(i:ι):Prop:=
 ∀ a w,A i a w->c.wpIn (Fr rd) 3 P (fun e a' w'=>∃ j,A j a' w'/\Q e j) a w
def VL(P:Program)(rd:Option Nat){ι:Type}(A:ι->Act->World->Prop)(ops:Array Oper)(l:List Oper)(Q:Exit->ι->Prop)(i:ι):Prop:=
 ∀ a w,A i a w->wpListIn (Fr rd) 3 P ops (fun e a' w'=>∃ j,A j a' w'/\Q e j) l a w
section
variable{rd:Option Nat}{ι:Type}{A:ι->Act->World->Prop}{Q:Exit->ι->Prop}{i:ι}
theorem V.region{id:Nat}{l:List Oper}(h:VL P rd A l.toArray l Q i):V P rd A (.region id l.toArray false) Q i:=fun a w hs=>wpIn_region_lit (h a w hs)
theorem V.seq{x y:Code}(h:V P rd A x (fun e s=>match e with | .normal=>V P rd A y Q s|e=>Q e s) i):V P rd A (.seq x y) Q i:=by
 intro a w hs;refine wpIn_seq ?_;refine Go.Code.wpIn_mono ?_ (h a w hs);intro e a' w' ⟨s,hs',hq⟩
 cases e<;>first|exact hq a' w' hs'|exact⟨s,hs',hq⟩
theorem V.label{l:Nat}(h:Q .normal i):V P rd A (.label l) Q i:=fun a w hs=>wpIn_label ⟨i,hs,h⟩
theorem V.block{id:Nat}{c:Code}(h:V P rd A c (fun e s=>match e with | .exit j=>if j=id then Q .normal s else Q (.exit j) s|e=>Q e s) i):V P rd A (.block id c) Q i:=by
 intro a w hs;refine wpIn_block ?_;refine Go.Code.wpIn_mono ?_ (h a w hs);intro e a' w' ⟨s,hs',hq⟩
 cases e with
 | exit j=>
  simp only[Exit.inBlock];split
  ·rename_i hi;exact⟨s,hs',by simpa [hi] using hq⟩
  ·rename_i hi;exact⟨s,hs',by simpa [hi] using hq⟩
 | _=>exact⟨s,hs',hq⟩
theorem V.loop{α:Type}{c:Code}(I:α->ι)(μ:α->Nat)(x0:α)(h0:i=I x0)
 (h:∀ x,V P rd A c (fun e s=>match e with | .normal=>∃ y,s=I y/\μ y<μ x|e=>Q e s) (I x)):V P rd A (.loop c) Q i:=by
 subst h0;intro a w hs b k cs hro hbf hr
 have key:∀ n x a w,μ x=n->A (I x) a w ->
  ∃ e a' w',(∃ s,A s a' w'/\Q e s)/\ArrivesIn (Machine.fenced P (Fr rd)) P (lone (b.atR a (.code c::.inLoop c::k)) cs w) b k cs e a' w':=by
  intro n
  induction n using Nat.strongRecOn with
  | _ n ih=>
   intro x a w hx hs;obtain⟨e,a₁,w₁,⟨s,hs1,hq⟩,harr⟩:=h x a w hs b (.inLoop c::k) cs hro hbf hr
   cases e with
   | normal=>
    obtain⟨y,rfl,hlt⟩:=hq;obtain⟨e₂,a₂,w₂,hq₂,harr₂⟩:=ih (μ y) (hx▸hlt) y a₁ w₁ rfl hs1;exact⟨e₂,a₂,w₂,hq₂,.of_steps (StepsIn.trans harr (.one (fenced_calm hbf hr rfl) stepR_inLoop)) harr₂⟩
   | exit id=>exact⟨_,a₁,w₁,⟨s,hs1,hq⟩,.pass (x:=.inLoop c) rfl (fun _ _=>.inl (by simp)) harr⟩
   | goto l=>exact⟨_,a₁,w₁,⟨s,hs1,hq⟩,.pass (x:=.inLoop c) rfl (fun _ _=>.inl (by simp)) harr⟩
   | ret=>exact⟨_,a₁,w₁,⟨s,hs1,hq⟩,.pass (x:=.inLoop c) rfl (fun _ _=>.inl (by simp)) harr⟩
   | panic ch=>exact⟨_,a₁,w₁,⟨s,hs1,hq⟩,.pass (x:=.inLoop c) rfl (fun _ _=>.inl (by simp)) harr⟩
   | outgrown=>exact⟨_,a₁,w₁,⟨s,hs1,hq⟩,.pass (x:=.inLoop c) rfl (fun _ _=>.inl (by simp)) harr⟩
 obtain⟨e,a',w',hq,harr⟩:=key _ x0 a w rfl hs;exact⟨e,a',w',hq,.of_steps (.one (fenced_calm hbf hr rfl) stepR_loop) harr⟩
end
theorem SR_keepR{G G' L:Nat->Prop}{u:Nat}{d:D}{F:List Nat}(h:SR w ρ G L a u d F)
 (hh:∀ b,(G b∨b∈F)->b<w.heap.size->w'.heap[b]? = w.heap[b]?) (hg:∀ b,G b->b<w.heap.size->G' b)
 (hc:∀ i,L i->ρ i<w.heap.size->w'.heap[ρ i]? = w.heap[ρ i]?):SR w' ρ G' L a u d F:=by
 have hL2:∀ i,L i->L i/\ρ i=ρ i:=fun i hi=>⟨hi,rfl⟩
 cases d with
 | al s=>exact h
 | alb i off path=>
  obtain⟨hF,hid,x,hx,hs⟩:=h;exact⟨hF,hid,x,hx,by rw[<- hs];exact World.cell?_of_block (hc i hid (block_lt_of_cell hs))⟩
 | vw s z lo n=>exact h
 | va i off z n path lo=>exact h
 | ep s z i off path=>exact h
 | tup ds=>
  obtain⟨vs,Fs,h1,h2,h3,h4⟩:=h;refine⟨vs,Fs,h1,h2,h3,fun k hk=>(h4 k hk).imp (fun hx=>hx) fun hx=>⟨hx.1,hx.2.mono (fun b hb=>hh b (hb.imp (fun hx=>hx) fun hm=>?_)) hg hL2⟩⟩;rw[h3];exact List.mem_flatMap.2 ⟨k,List.mem_range.2 hk,hm⟩
 | dead=>exact h
 | _=>obtain⟨x,hx,hr⟩:=h;exact⟨x,hx,hr.mono hh hg hL2⟩
theorem StW.rebase(st:StW C σ a w ρ Fe Fb)(C':Ctx)(hpin:C'.pin=C.pin)(hdf:C'.df=C.df)
 (hsame:∀ b,(gd C Fe Fb b∨own Fe Fb b)->b<w.heap.size->w'.heap[b]? = w.heap[b]?) (hok:∀ b,gd C Fe Fb b->b<w.heap.size->C'.ok b)
 (hnew:∀ b,own Fe Fb b->¬ C'.keep b) (hkept:∀ b,C'.keep b->w'.heap[b]? = C'.w0.heap[b]?/\b<C'.w0.heap.size)
 (hos:w'.os=C'.w0.os) (htape:TpR w' C'.w0) (hout:w'.output=C'.w0.output) (hgrown:C'.w0.heap.size<=w'.heap.size)
 (hgl:∀ g d,(g,d)∈C'.gl->C'.keep g/\C'.ok g/\∃ cs e fz,C'.w0.heap[g]? = some (.cells cs e fz)/\Rc C'.w0 (fun x=>x) (fun _=>False) (fun _=>False) false d cs.toList [])
 (hokN:∀ b,w'.heap.size<=b->C'.ok b) (hokO:∀ b,own Fe Fb b->C'.ok b):StW C' σ a w' ρ Fe Fb:=by
 have hlt:=st.lt
 have hg:∀ b,gd C Fe Fb b->b<w.heap.size->gd C' Fe Fb b:=fun b hb hl=>⟨hok b hb hl,hb.2⟩
 refine { size:=st.size,defs:=by rw[hdf];exact st.defs,pin:=by rw[hpin];exact st.pin,env:=?_,envN:=st.envN,bx:=?_,bxN:=st.bxN,nodE:=st.nodE,nodB:=st.nodB,dEE:=st.dEE,dEB:=st.dEB,dBB:=st.dBB,new:=hnew,kept:=hkept,os:=hos,tape:=htape,output:=hout,grown:=hgrown,gl:=hgl,okN:=hokN,okO:=hokO }
 ·intro t d hd;refine SR_keepR (st.env t d hd) (fun b hb hl=>hsame b (hb.imp (fun h=>h) (fun h=>.inl ⟨t,h⟩)) hl) hg (fun i hi hl=>?_)
  cases hbx:σ.box i with
  | none=>simp[hbx] at hi
  | some x=>exact hsame _ (.inr (.inr ⟨i,(st.bx i x hbx).mem⟩)) hl
 ·intro id x hx;exact(st.bx id x hx).mono (fun b hb hl=>hsame b (hb.imp (fun h=>h) (fun h=>.inr ⟨id,h⟩)) hl) hg (fun i hi=>⟨hi,rfl⟩)
abbrev Yt:=Nat->Bool->(Nat->Prop)->World->Prop
structure Apart(O O':Nat->Prop)(w w':World):Prop where
 same:∀ b,b<w.heap.size->¬ O b->w'.heap[b]? = w.heap[b]?
 size:w.heap.size<=w'.heap.size
 sub:∀ b,O' b->O b∨w.heap.size<=b
 lt:∀ b,O' b->b<w'.heap.size
 os:w'.os=w.os
 tape:TpR w' w
 output:w'.output=w.output
def Stable(Y:Yt):Prop:=∀ k s O O' w w',Y k s O w->Apart O O' w w'->Y k s O' w'
def R4(P:Program)(l:Nat)(v:Value)(w:World)(R:World->Bool->Prop):Prop:=
 ∃ f tmps assign body,(Instr.yield l #[v]).run P w=.ok (.round l f tmps assign body) w /\
  RoundIn (Fr none) 2 P l f tmps assign body w (fun e w'=>∃ s,e=.returned (.bool (!s))/\R w' s)
structure Rnd(Y:Yt)(G O:Nat->Prop)(k:Nat)(w w':World)(s:Bool):Prop where
 y:Y (k+1) s O w'
 same:∀ b,(G b∨O b)->b<w.heap.size->w'.heap[b]? = w.heap[b]?
 size:w.heap.size<=w'.heap.size
def Itr(P:Program)(gl:List (Nat×D))(f:FuncId)(caps:List D)(xs:List D):Prop:=
 ∀ (w:World) (G:Nat->Prop) (vs:List Value) (l:Nat) (Y:Yt),
  (∀ b,G b->b<w.heap.size) ->
  (∀ g d,(g,d)∈gl->G g/\∃ cs e fz,w.heap[g]? = some (.cells cs e fz)/\Rc w (fun x=>x) (fun _=>False) (fun _=>False) false d cs.toList []) ->
  vs.length=caps.length->(∀ k (h:k<caps.length),VR w (fun x=>x) G (fun _=>False) caps[k] (vs.getD k undef) []) ->
  Stable Y ->
  (∀ k O w v,(h:k<xs.length)->Y k false O w->(∀ b,O b->b<w.heap.size)->VR w (fun x=>x) (fun b=>G b∨O b) (fun _=>False) xs[k] v []->R4 P l v w (Rnd Y G O k w)) ->
  Y 0 false (fun _=>False) w ->
  Calls P f (#[.func (.yield l) #[] #[]]++vs.toArray) w (fun e w'=>(∃ v,e=.returned v)/\∃ k s O,Y k s O w'/\(s=true∨k=xs.length))
structure Rel(gl:List (Nat×D))(κ:Type) where
 ids:List Nat
 r:κ->Ctx->Prop
 gl:∀ {m C},r m C->C.gl=gl
 rd:∀ {m C},r m C->C.rd=none
 pin:∀ {m C},r m C->∀ id b,C.pin id=some b->o3 ids id=true
def AM{gl:List (Nat×D)}{κ:Type}(R:Rel gl κ)(i:κ×Sg)(a:Act)(w:World):Prop:=∃ C:Ctx,R.r i.1 C/\St C i.2 a w
section
variable{gl:List (Nat×D)}{κ:Type}{R:Rel gl κ}{m:κ}
theorem V.of{c:Code}{Q:Exit->κ×Sg->Prop}(h:∀ C:Ctx,C.gl=gl->(∀ id b,C.pin id=some b->o3 R.ids id=true)->W P C c (fun e σ'=>Q e (m,σ')) σ):V P none (AM R) c Q (m,σ):=by
 intro a w ⟨C,hC,hs⟩
 have hF:Fx C=Fr none:=by unfold Fx Fr;rw[R.rd hC]
 have:=h C (R.gl hC) (R.pin hC) a w hs;rw[hF] at this;exact Go.Code.wpIn_mono (fun e a' w' ⟨σ',hs,hq⟩=>⟨(m,σ'),⟨C,hC,hs⟩,hq⟩) this
theorem V.wk{c:Code}{Q:Exit->κ×Sg->Prop}(h:∀ C:Ctx,C.gl=gl->(∀ id b,C.pin id=some b->o3 R.ids id=true)->∀ a w,St C σ a w->St C σ' a w)(k:V P none (AM R) c Q (m,σ')):V P none (AM R) c Q (m,σ):=by
 intro a w ⟨C,hC,hs⟩;exact k a w ⟨C,hC,h C (R.gl hC) (R.pin hC) a w hs⟩
theorem VL.step{ops:Array Oper}{o:Oper}{l:List Oper}{Q:Exit->κ×Sg->Prop}(hg:o.guard=none)(h:∀ C:Ctx,C.gl=gl->OpS P C o σ σ')(kk:VL P none (AM R) ops l Q (m,σ')):VL P none (AM R) ops (o::l) Q (m,σ):=by
 intro a w ⟨C,hC,hs⟩
 have hF:Fx C=Fr none:=by unfold Fx Fr;rw[R.rd hC]
 refine wpListIn_plain hg fun K hK=>?_;have:=h C (R.gl hC) a w hs K (fun e a' w'=>∃ j,AM R j a' w'/\Q e j) (fun a' w' hs'=>hK a' w' (kk a' w' ⟨C,hC,hs'⟩));rw[hF] at this;exact this
theorem P4{ops:List Oper}{o:Oper}{l:List Oper}{Q:Exit->κ×Sg->Prop}(hw:Wt ops σ.get o true)(h:∀ C:Ctx,C.gl=gl->OpS P C o σ σ')(kk:VL P none (AM R) ops.toArray l Q (m,σ')) :
 VL P none (AM R) ops.toArray (o::l) Q (m,σ):=by
 intro a w ⟨C,hC,hs⟩
 have hF:Fx C=Fr none:=by unfold Fx Fr;rw[R.rd hC]
 simp only[wpListIn,hw.ok hs (fun _ _ h=>h),if_true];have:=h C (R.gl hC) a w hs (wpListIn (Fr none) 3 P ops.toArray (fun e a' w'=>∃ j,AM R j a' w'/\Q e j) l) (fun e a' w'=>∃ j,AM R j a' w'/\Q e j)
  (fun a' w' hs'=>kk a' w' ⟨C,hC,hs'⟩)
 rw[hF] at this;exact this
theorem P3{ops:List Oper}{o:Oper}{l:List Oper}{Q:Exit->κ×Sg->Prop}{t:Nat}(hw:Wt ops σ.get o false)(hd:o.dst=some t)(ht:t<σ.n)(kk:VL P none (AM R) ops.toArray l Q (m,σ.set t (.tup []))) :
 VL P none (AM R) ops.toArray (o::l) Q (m,σ):=by
 intro a w ⟨C,hC,hs⟩;simp only[wpListIn,hw.ok hs (fun _ _ h=>h),Bool.false_eq_true,if_false];rw[hd];exact⟨fun _ _=>trivial,kk _ _ ⟨C,hC,hs.unwanted ht⟩⟩
theorem VL.nil{ops:Array Oper}{Q:Exit->κ×Sg->Prop}(h:Q .normal (m,σ)):VL P none (AM R) ops [] Q (m,σ):=fun a w hs=>⟨_,hs,h⟩
end
def UI(gl:List (Nat×D))(G:Nat->Prop)(Y:Yt)(ids:List Nat)(pn:Nat->Option Nat):Rel gl (Nat×Bool) where
 ids:=ids
 r i C:=C.gl=gl/\C.rd=none/\C.df=[]/\(C.pin=pn/\∀ id b,C.pin id=some b->o3 ids id=true)/\∃ O:Nat->Prop,(∀ b,C.keep b↔b<C.w0.heap.size/\¬ O b)/\(∀ b,C.ok b↔G b∨O b∨C.w0.heap.size<=b) /\
  (∀ b,G b->b<C.w0.heap.size/\¬ O b)/\(∀ b,O b->b<C.w0.heap.size)/\Y i.1 i.2 O C.w0
 gl h:=h.1
 rd h:=h.2.1
 pin h:=h.2.2.2.1.2
section
variable{gl:List (Nat×D)}{G:Nat->Prop}{Y:Yt}{k:Nat}{s:Bool}{ids:List Nat}{pn:Nat->Option Nat}
theorem VL.yield{ops:Array Oper}{l:List Oper}{Q:Exit->(Nat×Bool)×Sg->Prop}{y t lo:Nat}{x:Operand}{d:D}{xs:List D}{tys:Array TypeId}{rt:TypeId}{pos:String}{aft:Array Edge}
 (hY:Stable Y) (hyl:∀ k O w v,(h:k<xs.length)->Y k false O w->(∀ b,O b->b<w.heap.size)->VR w (fun x=>x) (fun b=>G b∨O b) (fun _=>False) xs[k] v []->R4 P lo v w (Rnd Y G O k w))
 (hg:σ.get y=some (.yld lo)) (hx:ev gl σ x=some d) (hp:d.pur=true) (hn:d.np=true) (hk:k<xs.length) (hd:xs[k]=d) (ht:t<σ.n)
 (kk:∀ s,VL P none (AM (UI gl G Y ids pn)) ops l Q ((k+1,s),σ.set t (.bool (!s)))) :
 VL P none (AM (UI gl G Y ids pn)) ops (⟨some t,.call { callee:=.value (.tmp y),args:=#[x],argTypes:=tys },rt,pos,aft,none⟩::l) Q ((k,false),σ):=by
 intro a w ⟨C,⟨h1,h2,h3,h4,O,hkeep,hok,hG,hO,hYk⟩,ρ,Fe,Fb,st⟩;refine wpListIn_plain rfl fun K hK=>?_;obtain⟨vy,hvy,hry⟩:=(j2 rfl).1 (st.env y _ hg);simp only[VR,D.isAgg,Bool.false_eq_true,if_false] at hry;generalize Fe y=Fy at hry;cases hry
 -- what it owns by now
 let O':Nat->Prop:=fun b=>(O b∨C.w0.heap.size<=b)/\b<w.heap.size
 have hap:Apart O O' C.w0 w:={
  same:=fun b hb hn=>(st.kept b ((hkeep b).2 ⟨hb,hn⟩)).1
  size:=st.grown
  sub:=fun b hb=>hb.1
  lt:=fun b hb=>hb.2
  os:=st.os
  tape:=⟨st.tape.tp,st.tape.dr⟩
  output:=st.output }
 have hY1:Y k false O' w:=hY _ _ _ _ _ _ hYk hap;have hlt:=st.lt
 have hownO:∀ b,own Fe Fb b->O' b:=fun b hb=>by
  refine⟨?_,hlt b hb⟩;by_cases h0:C.w0.heap.size<=b
  ·exact .inr h0
  ·left;by_cases hOb:O b
   ·exact hOb
   ·exact absurd ((hkeep b).2 ⟨by omega,hOb⟩) (st.new b hb)
 have hgdO:∀ b,gd C Fe Fb b->b<w.heap.size->G b∨O' b:=fun b hb hl=>by
  rcases(hok b).1 hb.1 with h|h|h
  ·exact .inl h
  ·exact .inr ⟨.inl h,hl⟩
  ·exact .inr ⟨.inr h,hl⟩
 have hv:VR w (fun x=>x) (fun b=>G b∨O' b) (fun _=>False) xs[k] (a.eval x) []:=by
  rw[hd];obtain⟨F,hvx,_⟩:=c3 st (by rw[h1];exact hx) (c6 hp);have hFx:=hvx.pur hp;subst hFx;exact(hvx.noL (ρ':=fun x=>x) (L':=fun _=>False) hn).mono (fun _ _ _=>rfl) hgdO (fun _ h=>h.elim)
 obtain⟨f,tmps,assign,body,hrun,hround⟩:=hyl k O' w (a.eval x) hk hY1 (fun b hb=>hb.2) hv
 have hexec:(execOp a.eval ⟨some t,.call { callee:=.value (.tmp y),args:=#[x],argTypes:=tys },rt,pos,aft,none⟩).run P w=.ok (.round lo f tmps assign body) w:=by
  unfold execOp;simp[resolve,w3 hvy,Deferred.ofValue,invoke,hrun]
 have hF:Fx C=Fr none:=by unfold Fx Fr;rw[h2]
 have hgoal:Oper.wpIn (Fx C) 3 P ⟨some t,.call { callee:=.value (.tmp y),args:=#[x],argTypes:=tys },rt,pos,aft,none⟩ a w K (fun e a' w'=>∃ j,AM (UI gl G Y ids pn) j a' w'/\Q e j):=by
  refine Z7 hexec (by simp) ?_;rw[Oper.uponIn_round,hF];refine⟨(fun h=>by cases h),hround.mono fun e w' ⟨s',he,hr⟩=>?_⟩;subst he;refine hK _ _ (kk s' _ _ ?_)
  let C':Ctx:=⟨w',fun b=>b<w'.heap.size/\¬ O' b,fun b=>G b∨O' b∨w'.heap.size<=b,gl,none,C.pin,C.df⟩
  have hGs:∀ b,G b->b<w.heap.size:=fun b hb=>Nat.lt_of_lt_of_le (hG b hb).1 st.grown
  have hGO:∀ b,G b->¬ O' b:=fun b hb hc=>by
   rcases hc.1 with h|h
   ·exact(hG b hb).2 h
   ·have:=(hG b hb).1;omega
  have hgd2:∀ b,(gd C Fe Fb b∨own Fe Fb b)->b<w.heap.size->w'.heap[b]? = w.heap[b]?:=fun b hb hl=>hr.same b (hb.elim (fun h=>hgdO b h hl) (fun h=>.inr (hownO b h))) hl;have st':StW C' σ a w' ρ Fe Fb:=st.rebase C' rfl rfl hgd2 (fun b hb hl=>(hgdO b hb hl).imp (fun h=>h) (fun h=>.inl h)) (fun b hb hc=>hc.2 (hownO b hb)) (fun b hb=>⟨rfl,hb.1⟩) rfl ⟨rfl,Nat.le_refl _⟩ rfl (Nat.le_refl _)
   (fun g d hgd=>by
    obtain⟨q1,q2,cs,e,fz,q3,q4⟩:=st.gl g d (by rw[h1];exact hgd);have q1':=(hkeep g).1 q1
    have hGg:G g:=by
     rcases(hok g).1 q2 with h|h|h
     ·exact h
     ·exact absurd h q1'.2
     ·omega
    have hsz:g<w.heap.size:=hGs g hGg;refine⟨⟨Nat.lt_of_lt_of_le hsz hr.size,hGO g hGg⟩,.inl hGg,cs,e,fz, ?_,q4.mono (fun b hb=>?_) (fun _ h=>h.elim) (fun _ h=>h.elim)⟩
    ·show w'.heap[g]? = _;rw[hr.same g (.inl hGg) hsz,(st.kept g q1).1,q3]
    ·rcases hb with hb|hb
     ·exact hb.elim
     ·cases hb)
   (fun b hb=>.inr (.inr hb)) (fun b hb=>.inr (.inl (hownO b hb)))
  refine⟨C',⟨rfl,rfl,h3,h4,O',fun b=>Iff.rfl,fun b=>Iff.rfl,fun b hb=>⟨Nat.lt_of_lt_of_le (hGs b hb) hr.size,hGO b hb⟩,fun b hb=>Nat.lt_of_lt_of_le hb.2 hr.size,hr.y⟩, ?_⟩;exact st'.put ht rfl (by simp only[VR,D.isAgg,Bool.false_eq_true,if_false];exact .bool _)
 rw[hF] at hgoal;exact hgoal
end
theorem Itr.of{gl:List (Nat×D)}{f:FuncId}{fn:Func}{c:Code}{caps xs:List D}{n:Nat}(hf:P.funcs[f]? = some fn)(hb:fn.body=some c)(hnn:fn.ntmps=n)(hres:fn.results=#[])
 (hd:caps.all (fun d=>!d.isRef)=true) (hn:caps.length+1<=n)
 (h:∀ (G:Nat->Prop) (Y:Yt) (l:Nat),Stable Y->(∀ k O w v,(h:k<xs.length)->Y k false O w->(∀ b,O b->b<w.heap.size)->VR w (fun x=>x) (fun b=>G b∨O b) (fun _=>False) xs[k] v []->R4 P l v w (Rnd Y G O k w)) ->
  V P none (AM (UI gl G Y [] (fun _=>none))) c (fun e i=>(e=.normal∨e=.ret)/\(i.1.2=true∨i.1.1=xs.length)) ((0,false),⟨n,ini 0 (.yld l::caps),[]⟩)):Itr P gl f caps xs:=by
 subst hnn;intro w G vs l Y hG hgl hl hv hY hyl h0;refine calls_of_wp hf hb ?_
 let C:Ctx:=⟨w,fun b=>b<w.heap.size/\¬ False,fun b=>G b∨False∨w.heap.size<=b,gl,none,fun _=>none,[]⟩
 let ds:List D:=.yld l::caps
 have hget:∀ t d,(⟨fn.ntmps,ini 0 ds,[]⟩:Sg).get t=some d->∃ h:t<ds.length,ds[t]=d:=by
  intro t d hd;simp only[Sg.get,YE,Nat.zero_le,if_true,Nat.sub_zero] at hd;obtain⟨h,e⟩:=List.getElem?_eq_some_iff.1 hd;exact⟨h,e⟩
 have hown:∀ b,¬ own (fun _=>[]) (fun _=>[]) b:=by rintro b (⟨_,h⟩|⟨_,h⟩)<;>cases h
 have st:StW C ⟨fn.ntmps,ini 0 ds,[]⟩ { tmps:=(#[Value.func (.yield l) #[] #[]]++vs.toArray)++Array.replicate (fn.ntmps-(#[Value.func (.yield l) #[] #[]]++vs.toArray).size) undef,defers:=[] } w (fun x=>x) (fun _=>[]) (fun _=>[]):=by
  refine⟨?_,rfl,(fun _ _ hp=>by cases hp), ?_,fun _ _=>rfl, ?_,fun _ _=>rfl,fun _=>List.nodup_nil,fun _=>List.nodup_nil,(fun _ _ _ _ h=>by cases h),(fun _ _ _ h=>by cases h),(fun _ _ _ _ h=>by cases h),fun b hb=>absurd hb (hown b), ?_,rfl,⟨rfl,Nat.le_refl _⟩,rfl,Nat.le_refl _, ?_,fun b hb=>.inr (.inr hb),fun b hb=>absurd hb (hown b)⟩
  ·simp[hl];omega
  ·intro t d hd';obtain⟨ht,rfl⟩:=hget t d hd'
   cases t with
   | zero=>
    refine(j2 rfl).2 ⟨.func (.yield l) #[] #[], ?_, ?_⟩
    ·rw[Array.getElem?_append_left (by simp)];simp
    ·show VR w _ _ _ (D.yld l) _ _;simp only[VR,D.isAgg,Bool.false_eq_true,if_false];exact .yld l
   | succ t=>
    have ht':t<caps.length:=by simpa [ds] using ht
    have hr:caps[t].isRef=false:=by
     have:=List.all_eq_true.1 hd caps[t] (List.getElem_mem ht');simpa using this
    refine(j2 hr).2 ⟨vs.getD t undef, ?_,(hv t ht').mono (fun _ _ _=>rfl) (fun b hb _=>⟨.inl hb,hown b⟩) (fun id hid=>hid.elim)⟩
    have htv:t<vs.length:=by omega
    rw[Array.getElem?_append_left (by simp;omega)];simp[htv,Array.getElem?_append]
  ·intro id d hd';cases hd'
  ·intro b hb;exact⟨rfl,hb.1⟩
  ·intro g d hg;obtain⟨h1,cs,e,fz,h2,h3⟩:=hgl g d hg;exact⟨⟨(Array.getElem?_eq_some_iff.1 h2).1,fun h=>h⟩,.inl h1,cs,e,fz,h2,h3⟩
 have hAI:AM (UI gl G Y [] (fun _=>none)) ((0,false),⟨fn.ntmps,ini 0 ds,[]⟩) { tmps:=(#[Value.func (.yield l) #[] #[]]++vs.toArray)++Array.replicate (fn.ntmps-(#[Value.func (.yield l) #[] #[]]++vs.toArray).size) undef,defers:=[] } w:=
  ⟨C,⟨rfl,rfl,rfl,⟨rfl,fun _ _ h=>by cases h⟩,fun _=>False,fun _=>Iff.rfl,fun _=>Iff.rfl,fun b hb=>⟨hG b hb,fun h=>h⟩,fun b hb=>hb.elim,h0⟩,_,_,_,st⟩
 refine Go.Code.wp_mono ?_ (wpIn_wide.1 (h G Y l hY hyl _ w hAI));rintro e a' w' ⟨⟨⟨k,s⟩,σ'⟩,⟨C',⟨h1,h2,h3,h4,O,hkeep,hok,hG',hO,hYk⟩,ρ,Fe,Fb,st'⟩,he,hend⟩;have hrun:=G5 (P:=P) (tmps:=a'.tmps) (rs:=[]) (fn:=fn) (by rw[hres]) (fun _=>undef) w' (fun k hk=>absurd hk (Nat.not_lt_zero _))
 let O':Nat->Prop:=fun b=>(O b∨C'.w0.heap.size<=b)/\b<w'.heap.size
 have hY1:Y k s O' w':=hY _ _ _ _ _ _ hYk {
  same:=fun b hb hn=>(st'.kept b ((hkeep b).2 ⟨hb,hn⟩)).1
  size:=st'.grown
  sub:=fun b hb=>hb.1
  lt:=fun b hb=>hb.2
  os:=st'.os
  tape:=⟨st'.tape.tp,st'.tape.dr⟩
  output:=st'.output }
 have hdf:a'.defers=[]:=by rw[st'.defs,h3]
 rcases he with rfl|rfl
 ·exact⟨hdf,_,hrun,⟨_,rfl⟩,k,s,O',hY1,hend⟩
 ·exact⟨hdf,_,hrun,⟨_,rfl⟩,k,s,O',hY1,hend⟩
end Go.Sx

namespace Go.Sx
variable{P:Program}{C:Ctx}{σ σ' σ1:Sg}{a:Act}{w w':World}{ρ:Nat->Nat}{Fe Fe' Fb:Nat->List Nat}
theorem Rc.frsAll{G G' L L':Nat->Prop}{ρ':Nat->Nat}{p:Bool}{d:D}{cs:List Value}{F:List Nat}(h:Rc w ρ G L p d cs F)(hf:Frs d)(hn:d.np=true)(hh:∀ b∈F,b<w.heap.size->w'.heap[b]? = w.heap[b]?):Rc w' ρ' G' L' true d cs F:=by
 have h1:=(h.frs (G':=fun _=>False) hf).unflag hn;have h2:=(h1.noL (ρ':=ρ') (L':=L')).flag;exact h2.mono (fun b hb hl=>hh b (hb.resolve_left (fun h=>h)) hl) (fun _ h=>h.elim) (fun id hid=>⟨hid,rfl⟩)
def S0:List (Nat×Bx)->Prop
 | []=>True
 | (_,.var d)::r=>Frs d/\d.np=true/\S0 r
 | (_,.mp _)::_=>False
theorem N0{l:List (Nat×Bx)}(h:S0 l){id:Nat}{x:Bx}(hx:lk l id=some x):∃ d,x=.var d/\Frs d/\d.np=true:=by
 induction l with
 | nil=>simp[lk] at hx
 | cons y r ih=>
  obtain⟨k,b⟩:=y
  cases b with
  | mp=>exact h.elim
  | var d=>
   rw[v4] at hx;by_cases hk:k=id
   ·simp only[hk,if_true,Option.some.injEq] at hx;exact⟨d,hx.symm,h.1,h.2.1⟩
   ·simp only[hk,if_false] at hx;exact ih h.2.2 hx
def D7:List (Nat×D)->Bool
 | []=>true
 | (_,d)::r=>d.pur&&!d.isRef&&D7 r
theorem D6{l:List (Nat×D)}(h:D7 l=true){t:Nat}{d:D}(hd:lk l t=some d):d.pur=true/\d.isRef=false:=by
 induction l with
 | nil=>simp[lk] at hd
 | cons x r ih=>
  obtain⟨k,e⟩:=x;simp only[D7,Bool.and_eq_true,Bool.not_eq_true'] at h;rw[v4] at hd;by_cases hk:k=t
  ·simp only[hk,if_true,Option.some.injEq] at hd;subst hd;exact h.1
  ·simp only[hk,if_false] at hd;exact ih h.2 hd
structure Last(C:Ctx)(n:Nat)(a:Act)(env0:List (Nat×D))(ids:List Nat)(ρ0:Nat->Nat)(G1:Nat->Prop)(sz:Nat)(l dd:Nat)(bx:List (Nat×Bx))(Fb:Nat->List Nat)(O:Nat->Prop)(w:World):Prop where
 keys:∀ id,(lk bx id).isSome=o3 ids id
 frs:S0 bx
 env:∀ t d,lk env0 t=some d->∃ v,a.tmps[t]? = some v/\VR w ρ0 G1 (fun id=>o3 ids id=true) d v []
 box:∀ id d,lk bx id=some (.var d)->∃ cs e F',w.heap[ρ0 id]? = some (.cells cs e (0,0))/\Rc w ρ0 (fun _=>False) (fun _=>False) true d cs.toList F'/\Fb id=ρ0 id::F'
 boxN:∀ id,lk bx id=none->Fb id=[]
 nodB:∀ id,(Fb id).Nodup
 dBB:∀ id id',id≠id'->∀ b,b∈Fb id->b∉Fb id'
 own:∀ id b,b∈Fb id->¬ C.keep b/\¬ O b/\¬ G1 b/\b≠l/\b≠dd/\b<w.heap.size
 O_ge:∀ b,O b->(¬ C.keep b/\¬ G1 b)/\b≠l/\b≠dd
 G1_lt:∀ b,G1 b->b<sz/\b≠l/\b≠dd
 keep:∀ b,C.keep b->w.heap[b]? = C.w0.heap[b]?/\b<sz/\b≠l/\b≠dd
 os:w.os=C.w0.os
 tape:TpR w C.w0
 output:w.output=C.w0.output
 size:sz<=w.heap.size
 l_lt:l<w.heap.size
 d_lt:dd<w.heap.size
 ld:l≠dd
 def_:w.heap[dd]? = some (.deferred (some []))
theorem Last.apart{n:Nat}{env0:List (Nat×D)}{ids:List Nat}{ρ0:Nat->Nat}{G1:Nat->Prop}{sz l dd:Nat}{bx:List (Nat×Bx)}{O O':Nat->Prop}(h:Last C n a env0 ids ρ0 G1 sz l dd bx Fb O w)(hz:∀ b,sz<=b->¬ C.keep b)(ha:Apart O O' w w') :
 Last C n a env0 ids ρ0 G1 sz l dd bx Fb O' w':=by
 have hO':∀ b,O' b->(¬ C.keep b/\¬ G1 b)/\b≠l/\b≠dd:=fun b hb=>by
  rcases ha.sub b hb with h1|h1
  ·exact h.O_ge b h1
  ·have:=h.l_lt;have:=h.d_lt;have:=h.size;exact⟨⟨hz b (by omega),fun hc=>by have:=(h.G1_lt b hc).1;omega⟩,by omega,by omega⟩
 have hFO:∀ id b,b∈Fb id->b<w.heap.size->w'.heap[b]? = w.heap[b]?:=fun id b hb hl=>ha.same b hl (h.own id b hb).2.1;have hG:∀ b,G1 b->¬ O b:=fun b hb hc=>(h.O_ge b hc).1.2 hb;refine Last.mk h.keys h.frs (fun t d hd=>?_) (fun id d hd=>?_) h.boxN h.nodB h.dBB (fun id b hb=>?_) hO' h.G1_lt (fun b hb=>?_)
  (ha.os.trans h.os) (ha.tape.trans h.tape) (ha.output.trans h.output) (Nat.le_trans h.size ha.size) (Nat.lt_of_lt_of_le h.l_lt ha.size) (Nat.lt_of_lt_of_le h.d_lt ha.size) h.ld ?_
 ·obtain⟨v,h1,h2⟩:=h.env t d hd;exact⟨v,h1,h2.mono (fun b hb hl=>ha.same b hl (hb.elim (hG b) (fun hm=>by cases hm))) (fun b hb _=>hb) (fun id hid=>⟨hid,rfl⟩)⟩
 ·obtain⟨cs,e,F',h1,h2,h3⟩:=h.box id d hd;have hlt:ρ0 id<w.heap.size:=(Array.getElem?_eq_some_iff.1 h1).1;refine⟨cs,e,F',(hFO id _ (by rw[h3];simp) hlt).trans h1,h2.mono (fun b hb hl=>hFO id b (by rw[h3];exact List.mem_cons_of_mem _ (hb.resolve_left (fun h=>h))) hl) (fun _ h=>h.elim) (fun _ h=>h.elim),h3⟩
 ·obtain⟨q1,q2,q3,q4,q5,q6⟩:=h.own id b hb;refine⟨q1,fun hc=>?_,q3,q4,q5,Nat.lt_of_lt_of_le q6 ha.size⟩
  rcases ha.sub b hc with h1|h1
  ·exact q2 h1
  ·omega
 ·obtain⟨q1,q2,q3,q4⟩:=h.keep b hb;refine⟨?_,q2,q3,q4⟩;have:=h.size;rw[ha.same b (by omega) (fun hc=>(h.O_ge b hc).1.1 hb)];exact q1
 ·rw[ha.same dd h.d_lt (fun hc=>(h.O_ge dd hc).2.2 rfl)];exact h.def_
theorem WV{F:Fence}{n m:Nat}{c:Code}{Q:Exit->Act->World->Prop}(hd:F.depth=none)(h:c.wpIn F n P Q a w):c.wpIn F m P Q a w:=
 fun b k cs h1 h2 _=>h b k cs h1 h2 (fun d hd'=>by rw[hd] at hd';cases hd')
theorem Last.start{n:Nat}{env0:List (Nat×D)}{ids:List Nat}{ρ0:Nat->Nat}{G1:Nat->Prop}{sz l dd:Nat}{bx:List (Nat×Bx)}{O:Nat->Prop}(h:Last C n a env0 ids ρ0 G1 sz l dd bx Fb O w)
 (hsz:a.tmps.size=n) (hO:∀ b,O b->b<w.heap.size) {p:Nat} {v:Value} {d:D} (hp:p<n) (hv:VR w (fun x=>x) (fun b=>G1 b∨O b) (fun _=>False) d v []) (hdp:d.pur=true) (hdn:d.np=true) (hpe:D7 env0=true)
 (hgl:∀ g d,(g,d)∈C.gl->C.keep g/\G1 g/\∃ cs e fz,C.w0.heap[g]? = some (.cells cs e fz)/\Rc C.w0 (fun x=>x) (fun _=>False) (fun _=>False) false d cs.toList []) :
 StW ⟨w,fun b=>b<w.heap.size/\¬ ∃ id,b∈Fb id,fun b=>G1 b∨O b∨w.heap.size<=b∨∃ id,b∈Fb id,C.gl,some l,fun id=>if o3 ids id then some (ρ0 id) else none,[]⟩
  ((⟨n,env0,bx⟩:Sg).set p d) { tmps:=a.tmps.setIfInBounds p v,defers:=[] } w ρ0 (fun _=>[]) Fb:=by
 have hown:∀ b,Go.Sx.own (fun _=>[]) Fb b->∃ id,b∈Fb id:=by
  rintro b (⟨_,h⟩|h)
  ·cases h
  ·exact h
 have hkeys:∀ id,((⟨n,env0,bx⟩:Sg).box id).isSome=o3 ids id:=h.keys;refine StW.mk (by simp[hsz]) rfl (fun id b hb=>?_) (fun t x hx=>?_) (fun _ _=>rfl) (fun id x hx=>?_) (fun id hid=>h.boxN id hid) (fun _=>List.nodup_nil) h.nodB (fun _ _ _ _ h=>by cases h) (fun _ _ _ h=>by cases h) h.dBB
  (fun b hb hc=>hc.2 (hown b hb)) (fun b hb=>⟨rfl,hb.1⟩) rfl ⟨rfl,Nat.le_refl _⟩ rfl (Nat.le_refl _) (fun g d hg=>?_) (fun b hb=>.inr (.inr (.inl hb))) (fun b hb=>.inr (.inr (.inr (hown b hb))))
 ·by_cases hm:o3 ids id=true
  ·simp only[hm,if_true,Option.some.injEq] at hb;exact⟨hb,by show((⟨n,env0,bx⟩:Sg).box id).isSome=true;rw[hkeys];exact hm⟩
  ·simp[hm] at hb
 ·have hgd:∀ b,(G1 b∨O b)->b<w.heap.size->gd ⟨w,fun b=>b<w.heap.size/\¬ ∃ id,b∈Fb id,fun b=>G1 b∨O b∨w.heap.size<=b∨∃ id,b∈Fb id,C.gl,some l,fun id=>if o3 ids id then some (ρ0 id) else none,[]⟩ (fun _=>[]) Fb b:=by
   intro b hb _;refine⟨hb.elim (fun h=>.inl h) (fun h=>.inr (.inl h)),fun hc=>?_⟩;obtain⟨id,hid⟩:=hown b hc;obtain⟨_,q2,q3,_⟩:=h.own id b hid;exact hb.elim q3 q2
  simp only[Sg.get,Sg.set,v4,RJ] at hx;by_cases hpt:p=t
  ·subst hpt;simp only[if_true,Option.some.injEq] at hx;subst hx;refine(j2 (c6 hdp)).2 ⟨v,by simp[hsz,hp],(hv.noL (ρ':=ρ0) hdn).mono (fun _ _ _=>rfl) hgd (fun id hid=>⟨hid,rfl⟩)⟩
  ·simp only[hpt,if_false,show ¬ t=p from fun e=>hpt e.symm,Option.map_eq_some_iff] at hx;obtain⟨x0,hx0,rfl⟩:=hx;obtain⟨hp1,hp2⟩:=D6 hpe hx0
   have hsc:scrub p x0=x0:=by cases x0<;>first|rfl|simp[D.isRef] at hp2
   rw[hsc];obtain⟨v0,hv0,hr0⟩:=h.env t x0 hx0;refine(j2 hp2).2 ⟨v0, ?_,hr0.mono (fun _ _ _=>rfl) (fun b hb hl=>hgd b (.inl hb) hl) (fun id hid=>⟨by show((⟨n,env0,bx⟩:Sg).box id).isSome=true;rw[hkeys];exact hid,rfl⟩)⟩;show(a.tmps.setIfInBounds p v)[t]? = some v0;rw[Array.getElem?_setIfInBounds_ne hpt];exact hv0
 ·obtain⟨d0,rfl,hf,hn0⟩:=N0 h.frs (show lk bx id=some x from hx);obtain⟨cs,e,F',h1,h2,h3⟩:=h.box id d0 hx;exact⟨cs,e,F',h1,h2.mono (fun _ _ _=>rfl) (fun _ hb=>hb.elim) (fun _ hb=>hb.elim),h3⟩
 ·obtain⟨q1,q2,cs,e,fz,q3,q4⟩:=hgl g d hg;obtain⟨k1,k2,_⟩:=h.keep g q1;have:=h.size;refine⟨⟨by omega,fun⟨id,hid⟩=>(h.own id g hid).1 q1⟩,.inl q2,cs,e,fz,k1.trans q3,q4.mono (fun b hb _=>?_) (fun _ h=>h.elim) (fun _ h=>h.elim)⟩
  rcases hb with hb|hb
  ·exact hb.elim
  ·cases hb
def jmp:Exit->Option Code
 | .ret=>some .ret
 | .exit id=>some (.exit id)
 | _=>none
theorem Last.round{n:Nat}{env0:List (Nat×D)}{ids:List Nat}{ρ0:Nat->Nat}{G1:Nat->Prop}{sz l dd:Nat}{bx:List (Nat×Bx)}{O:Nat->Prop}(h:Last C n a env0 ids ρ0 G1 sz l dd bx Fb O w)
 {r:Loop} (hrec:w.heap[l]? = some (.loop r)) (hst:r.state=.ready) (htm:r.tmps=a.tmps) {p:Nat} (hpar:r.params=#[p]) {asg body:Code} (hra:r.assign=asg) (hrb:r.body=body)
 (hsz:a.tmps.size=n) (hO:∀ b,O b->b<w.heap.size) {v:Value} {d:D} (hp:p<n) (hv:VR w (fun x=>x) (fun b=>G1 b∨O b) (fun _=>False) d v []) (hdp:d.pur=true) (hdn:d.np=true) (hpe:D7 env0=true)
 (hgl:∀ g d,(g,d)∈C.gl->C.keep g/\G1 g/\∃ cs e fz,C.w0.heap[g]? = some (.cells cs e fz)/\Rc C.w0 (fun x=>x) (fun _=>False) (fun _=>False) false d cs.toList [])
 {E:Exit->List (Nat×Bx)->Prop}
 (hround:∀ C':Ctx,C'.gl=C.gl->(∀ id b,C'.pin id=some b->o3 ids id=true)->W P C' asg (fun e σ'=>e=.normal/\∀ C':Ctx,C'.gl=C.gl->(∀ id b,C'.pin id=some b->o3 ids id=true) ->
  W P C' body (fun e σ'=>E e (n8 ids σ'.bx)/\S0 (n8 ids σ'.bx)) σ') ((⟨n,env0,bx⟩:Sg).set p d))
 (hE:∀ e bx',E e bx'->e=.normal∨e=.ret∨∃ id,e=.exit id) :
 R4 P l v w (fun w' s=>∃ e bx' Fb',E e bx'/\s=(jmp e).isSome/\w'.heap[l]? = some (.loop { r with state:=if(jmp e).isNone then .ready else .done,pending:=jmp e }) /\
  Last C n a env0 ids ρ0 G1 sz l dd bx' Fb' O w'/\(∀ b,b<w.heap.size->(¬ ∃ id,b∈Fb id)->b≠l->w'.heap[b]? = w.heap[b]?)/\w.heap.size<=w'.heap.size):=by
 have hst0:=h.start hsz hO hp hv hdp hdn hpe hgl;have hlF:¬ ∃ id,l∈Fb id:=fun⟨id,hid⟩=>(h.own id l hid).2.2.2.1 rfl;have hll:=h.l_lt
 have hrun:(Instr.yield l #[v]).run P w=.ok (.round l r.fn (a.tmps.setIfInBounds p v) asg body) w:=by
  have:=run_yield (P:=P) (w:=w) (args:=#[v]) hrec (by rw[hpar];rfl);rw[hra,hrb] at this;rw[this,hpar,htm]
  have hz:(#[p]:Array Nat).zip (#[v]:Array Value)=#[(p,v)]:=by
   rw[show(#[p]:Array Nat)=[p].toArray from rfl,show(#[v]:Array Value)=[v].toArray from rfl];simp
  rw[hz];rfl
 refine⟨r.fn,a.tmps.setIfInBounds p v,asg,body,hrun, ?_⟩;refine roundIn_of_wpIn trivial ?_
 have hfr:∀ C':Ctx,C'.rd=some l->Fx C'=(Fr none).inRound l:=fun C' hC=>by unfold Fx;rw[hC];rfl
 let C1:Ctx:=⟨w,fun b=>b<w.heap.size/\¬ ∃ id,b∈Fb id,fun b=>G1 b∨O b∨w.heap.size<=b∨∃ id,b∈Fb id,C.gl,some l,fun id=>if o3 ids id then some (ρ0 id) else none,[]⟩
 have h1:=hround C1 rfl (fun id b hb=>by
  by_cases hm:o3 ids id=true
  ·exact hm
  ·simp[C1,hm] at hb) _ _ ⟨_,_,_,hst0⟩
 rw[hfr _ rfl] at h1;refine WV (n:=3) rfl (Go.Code.wpIn_mono ?_ h1);rintro e a₁ w₁ ⟨σ2,⟨ρ₁,Fe₁,Fb₁,st₁⟩,rfl,hbody⟩;show ∃ w₂,_
 have hrec1:w₁.heap[l]? = some (.loop r):=by rw[(st₁.kept l ⟨hll,hlF⟩).1];exact hrec
 have hl1:l<w₁.heap.size:=(Array.getElem?_eq_some_iff.1 hrec1).1;refine⟨_,run_beginRound hrec1 hst, ?_⟩
 -- behind 'beginRound'
 have hown1:∀ b,Go.Sx.own Fe₁ Fb₁ b->w.heap.size<=b∨∃ id,b∈Fb id:=fun b hb=>by
  have:=st₁.new b hb;by_cases hlt:b<w.heap.size
  ·right;by_cases hx:∃ id,b∈Fb id
   ·exact hx
   ·exact absurd ⟨hlt,hx⟩ this
  ·left;omega
 have hlown1:¬ Go.Sx.own Fe₁ Fb₁ l:=fun hc=>(hown1 l hc).elim (fun h=>by omega) hlF
 have hlgd1:¬ (G1 l∨O l∨w.heap.size<=l∨∃ id,l∈Fb id):=by
  rintro (hc|hc|hc|hc)
  ·exact(h.G1_lt l hc).2.1 rfl
  ·exact(h.O_ge l hc).2.1 rfl
  ·omega
  ·exact hlF hc
 let C2:Ctx:=⟨w₁.putObj l (.loop { r with state:=.busy }),fun b=>b<w₁.heap.size/\¬ Go.Sx.own Fe₁ Fb₁ b,fun b=>G1 b∨O b∨w.heap.size<=b∨∃ id,b∈Fb id,C.gl,some l,fun id=>if o3 ids id then some (ρ0 id) else none,[]⟩
 have st₂:StW C2 σ2 a₁ (w₁.putObj l (.loop { r with state:=.busy })) ρ₁ Fe₁ Fb₁:=by
  refine st₁.rebase C2 rfl rfl (fun b hb hl=>?_) (fun b hb hl=>hb.1) (fun b hb hc=>hc.2 hb) (fun b hb=>⟨rfl,show b<(w₁.putObj l _).heap.size by rw[World.putObj_size];exact hb.1⟩) rfl ⟨rfl,Nat.le_refl _⟩ rfl (Nat.le_refl _) (fun g d0 hg=>?_) (fun b hb=>.inr (.inr (.inl (Nat.le_trans st₁.grown (by rw[World.putObj_size] at hb;exact hb))))) (fun b hb=>st₁.okO b hb)
  ·refine World.putObj_heap_other (fun hbl=>?_);subst hbl
   rcases hb with hb|hb
   ·exact hlgd1 hb.1
   ·exact hlown1 hb
  ·obtain⟨q1,q2,cs,e,fz,q3,q4⟩:=st₁.gl g d0 hg
   have hgl':g≠l:=fun hc=>by subst hc;exact hlgd1 q2
   refine⟨⟨Nat.lt_of_lt_of_le q1.1 st₁.grown,fun hc=>st₁.new g hc q1⟩,q2,cs,e,fz, ?_,q4.mono (fun b hb _=>?_) (fun _ h=>h.elim) (fun _ h=>h.elim)⟩
   ·show(w₁.putObj l _).heap[g]? = _;rw[World.putObj_heap_other hgl',(st₁.kept g q1).1];exact q3
   ·rcases hb with hb|hb
    ·exact hb.elim
    ·cases hb
 have h2:=hbody C2 rfl (fun id b hb=>by
  by_cases hm:o3 ids id=true
  ·exact hm
  ·simp[C2,hm] at hb) _ _ ⟨_,_,_,st₂⟩
 rw[hfr _ rfl] at h2;refine WV (n:=3) rfl (Go.Code.wpIn_mono ?_ h2);rintro e a₃ w₃ ⟨σ3,⟨ρ₃,Fe₃,Fb₃,st₃⟩,hEe,hfrs⟩
 have hrec3:w₃.heap[l]? = some (.loop { r with state:=.busy }):=by
  rw[(st₃.kept l ⟨hl1,hlown1⟩).1];exact World.putObj_heap_same hl1
 have hl3:l<w₃.heap.size:=(Array.getElem?_eq_some_iff.1 hrec3).1;have hs1:w.heap.size<=w₁.heap.size:=st₁.grown
 have hs3:w₁.heap.size<=w₃.heap.size:=by have:=st₃.grown;simpa [C2] using this
 have hown3:∀ b,Go.Sx.own Fe₃ Fb₃ b->w.heap.size<=b∨∃ id,b∈Fb id:=fun b hb=>by
  have:=st₃.new b hb;by_cases hlt:b<w₁.heap.size
  ·by_cases hx:Go.Sx.own Fe₁ Fb₁ b
   ·exact hown1 b hx
   ·exact absurd ⟨hlt,hx⟩ this
  ·left;omega
 -- the world behind the round
 have key:∀ j:Option Code,j=jmp e->∃ bx' Fb',bx'=n8 ids σ3.bx/\(w₃.putObj l (.loop { r with state:=if j.isNone then .ready else .done,pending:=j })).heap[l]? = some (.loop { r with state:=if j.isNone then .ready else .done,pending:=j }) /\
  Last C n a env0 ids ρ0 G1 sz l dd bx' Fb' O (w₃.putObj l (.loop { r with state:=if j.isNone then .ready else .done,pending:=j })) /\
  (∀ b,b<w.heap.size->(¬ ∃ id,b∈Fb id)->b≠l->(w₃.putObj l (.loop { r with state:=if j.isNone then .ready else .done,pending:=j })).heap[b]? = w.heap[b]?):=by
  intro j hj;generalize hw4:w₃.putObj l (.loop { r with state:=if j.isNone then .ready else .done,pending:=j })=w₄
  have h4l:w₄.heap[l]? = some (.loop { r with state:=if j.isNone then .ready else .done,pending:=j }):=by rw[<- hw4];exact World.putObj_heap_same hl3
  have h4o:∀ b,b≠l->w₄.heap[b]? = w₃.heap[b]?:=fun b hb=>by rw[<- hw4];exact World.putObj_heap_other hb
  have h4s:w₄.heap.size=w₃.heap.size:=by rw[<- hw4];simp
  have hsame:∀ b,b<w.heap.size->(¬ ∃ id,b∈Fb id)->b≠l->w₄.heap[b]? = w.heap[b]?:=fun b hb hn hbl=>by
   have hn1:¬ Go.Sx.own Fe₁ Fb₁ b:=fun hc=>(hown1 b hc).elim (fun h=>by omega) hn;rw[h4o b hbl,(st₃.kept b ⟨by omega,hn1⟩).1];show(w₁.putObj l _).heap[b]? = _;rw[World.putObj_heap_other hbl,(st₁.kept b ⟨hb,hn⟩).1]
  have hkeys:∀ id,(lk (n8 ids σ3.bx) id).isSome=o3 ids id:=fun id=>by
   rw[Y0];have hmm:u6 ids id=o3 ids id:=rfl;by_cases hm:o3 ids id=true
   ·rw[hmm,hm,if_pos rfl];have:=(st₃.pin id (ρ0 id) (by simp[C2,hm])).2;exact this
   ·rw[hmm,if_neg hm];simpa using hm
  have hG1:∀ b,G1 b->b<w.heap.size/\(¬ ∃ id,b∈Fb id)/\b≠l:=fun b hb=>by
   have:=(h.G1_lt b hb).1;have:=h.size;exact⟨by omega,fun⟨id,hid⟩=>(h.own id b hid).2.2.1 hb,(h.G1_lt b hb).2.1⟩
  refine⟨n8 ids σ3.bx,fun id=>if o3 ids id then Fb₃ id else[],rfl,h4l, ?_,hsame⟩;have hos:w₃.os=w.os:=st₃.os.trans st₁.os
  have htp:TpR w₃ w:=⟨st₃.tape.tp.trans st₁.tape.tp,Nat.le_trans st₁.tape.dr st₃.tape.dr⟩
  have hou:w₃.output=w.output:=st₃.output.trans st₁.output;refine Last.mk hkeys hfrs (fun t d0 hd0=>?_) (fun id d0 hd0=>?_) (fun id hid=>?_) (fun id=>?_) (fun id id' hne b hb hb'=>?_) (fun id b hb=>?_) h.O_ge h.G1_lt (fun b hb=>?_)
   (by rw[<- hw4];exact hos.trans h.os) (by rw[<- hw4];exact⟨htp.tp.trans h.tape.tp,Nat.le_trans h.tape.dr htp.dr⟩) (by rw[<- hw4];exact hou.trans h.output) (by have:=h.size;omega) (by omega) (by have:=h.d_lt;omega) h.ld ?_
  ·obtain⟨v0,k1,k2⟩:=h.env t d0 hd0;refine⟨v0,k1,k2.mono (fun b hb hl=>?_) (fun b hb _=>hb) (fun id hid=>⟨hid,rfl⟩)⟩;obtain⟨q1,q2,q3⟩:=hG1 b (hb.resolve_right (by simp));exact hsame b q1 q2 q3
  ·have hm:o3 ids id=true:=by rw[<- hkeys id,hd0];rfl
   rw[Y0] at hd0;have hmm:u6 ids id=true:=hm;rw[if_pos hmm] at hd0;obtain⟨dx,hdx,hf1,hf2⟩:=N0 hfrs (show lk (n8 ids σ3.bx) id=some (.var d0) by rw[Y0,if_pos hmm];exact hd0);cases hdx;obtain⟨cs,e',F',k1,k2,k3⟩:=st₃.bx id _ hd0;have hρ:ρ₃ id=ρ0 id:=(st₃.pin id (ρ0 id) (by simp[C2,hm])).1;rw[hρ] at k1 k3
   have hnl:∀ b∈Fb₃ id,b≠l:=fun b hb hbl=>by
    subst hbl;exact(hown3 b (.inr ⟨id,hb⟩)).elim (fun h=>by omega) hlF
   refine⟨cs,e',F', ?_,k2.frsAll hf1 hf2 (fun b hb _=>h4o b (hnl b (by rw[k3];exact List.mem_cons_of_mem _ hb))),by simp only[hm,if_true];exact k3⟩;rw[h4o _ (hnl _ (by rw[k3];simp))];exact k1
  ·have hm:¬ o3 ids id=true:=fun hm=>by have:=hkeys id;rw[hid,hm] at this;cases this
   simp[hm]
  ·show(if o3 ids id then Fb₃ id else[]).Nodup;split
   ·exact st₃.nodB id
   ·exact List.nodup_nil
  ·have e1:b∈Fb₃ id:=by split at hb;exact hb;cases hb
   have e2:b∈Fb₃ id':=by split at hb';exact hb';cases hb'
   exact st₃.dBB id id' hne b e1 e2
  ·have e1:b∈Fb₃ id:=by split at hb;exact hb;cases hb
   have hlt:b<w₄.heap.size:=by rw[h4s];exact st₃.lt b (.inr ⟨id,e1⟩)
   rcases hown3 b (.inr ⟨id,e1⟩) with hge|⟨id0,hid0⟩
   ·refine⟨fun hc=>?_,fun hc=>?_,fun hc=>?_, ?_, ?_,hlt⟩
    ·have:=(h.keep b hc).2.1;have:=h.size;omega
    ·have:=hO b hc;omega
    ·have:=(hG1 b hc).1;omega
    ·omega
    ·have:=h.d_lt;omega
   ·obtain⟨q1,q2,q3,q4,q5,q6⟩:=h.own id0 b hid0;exact⟨q1,q2,q3,q4,q5,hlt⟩
  ·obtain⟨q1,q2,q3,q4⟩:=h.keep b hb;have:=h.size;refine⟨?_,q2,q3,q4⟩;rw[hsame b (by omega) (fun⟨id,hid⟩=>(h.own id b hid).1 hb) q3];exact q1
  ·rw[hsame dd h.d_lt (fun⟨id,hid⟩=>(h.own id dd hid).2.2.2.2.1 rfl) (fun hc=>h.ld hc.symm)];exact h.def_
 have fin:∀ j:Option Code,j=jmp e->∃ v' w',(Instr.endRound l j).run P w₃=.ok v' w'/\(∃ s,(Ending.returned v')=.returned (.bool (!s))/\∃ e bx' Fb',E e bx'/\s=(jmp e).isSome/\w'.heap[l]? = some (.loop { r with state:=if(jmp e).isNone then .ready else .done,pending:=jmp e }) /\
  Last C n a env0 ids ρ0 G1 sz l dd bx' Fb' O w'/\(∀ b,b<w.heap.size->(¬ ∃ id,b∈Fb id)->b≠l->w'.heap[b]? = w.heap[b]?)/\w.heap.size<=w'.heap.size):=by
  intro j hj;obtain⟨bx',Fb',hb',k1,k2,k3⟩:=key j hj;refine⟨_,_,run_endRound j hrec3,j.isSome,by cases j<;>rfl,e,bx',Fb',by rw[hb'];exact hEe,by rw[hj], ?_, ?_, ?_, ?_⟩
  ·rw[<- hj];exact k1
  ·exact k2
  ·exact k3
  ·simp;omega
 rcases hE e _ hEe with rfl|rfl|⟨id,rfl⟩
 ·exact fin none rfl
 ·exact fin (some .ret) rfl
 ·exact fin (some (.exit id)) rfl
def H5(dd:Nat):Deferred:={ target:=.collected dd,args:=#[] }
def Glw(gl:List (Nat×D))(W0:World)(G:Nat->Prop):Prop:=
 ∀ g d,(g,d)∈gl->g<W0.heap.size/\G g/\∃ cs e fz,W0.heap[g]? = some (.cells cs e fz)/\Rc W0 (fun x=>x) (fun _=>False) (fun _=>False) false d cs.toList []
def Marks(W0:World)(C:Ctx):Bool->Prop
 | false=>C.df=[]
 | true=>∃ dds:List Nat,C.df=dds.map H5/\dds.Nodup/\∀ d∈dds,W0.heap.size<=d/\C.keep d/\C.w0.heap[d]? = some (.deferred (some []))/\¬ C.ok d
theorem Marks.l{W0:World}{m:Bool}(h:Marks W0 C m):∃ dds:List Nat,C.df=dds.map H5/\dds.Nodup/\∀ d∈dds,W0.heap.size<=d/\C.keep d/\C.w0.heap[d]? = some (.deferred (some []))/\¬ C.ok d:=by
 cases m with
 | false=>exact⟨[],h,List.nodup_nil,fun _ h=>by cases h⟩
 | true=>exact h
def JF(gl:List (Nat×D))(W0:World)(G:Nat->Prop):Rel gl Bool where
 ids:=[]
 r m C:=C.gl=gl/\C.rd=none/\(∀ id,C.pin id=none)/\(∀ b,b<W0.heap.size->C.keep b)/\Ext W0 C.w0/\(∀ b,C.ok b->G b∨W0.heap.size<=b) /\
  Marks W0 C m
 gl h:=h.1
 rd h:=h.2.1
 pin h:=fun id b hp=>by rw[h.2.2.1 id] at hp;cases hp
section
variable{gl:List (Nat×D)}{W0:World}{G:Nat->Prop}{m:Bool}
theorem Last.finish{n:Nat}{env0:List (Nat×D)}{ids:List Nat}{G1:Nat->Prop}{sz l dd:Nat}{bx:List (Nat×Bx)}{O:Nat->Prop}(h:Last C n a env0 ids ρ G1 sz l dd bx Fb O w)(hsz:a.tmps.size=n)(hpe:D7 env0=true)
 (hk:∀ b,b<W0.heap.size->C.keep b) (hG1:∀ b,G1 b->G b∨W0.heap.size<=b) (hx:Ext W0 C.w0) (hdd:W0.heap.size<=dd)
 (hgl:Glw gl W0 G) (o:Obj) {dds:List Nat} (hnd:dds.Nodup) (hdds:∀ d∈dds,W0.heap.size<=d/\C.keep d/\C.w0.heap[d]? = some (.deferred (some []))) (hGd:∀ b,G1 b->b∉dds):AM (JF gl W0 G) (true,⟨n,env0,bx⟩) { a with defers:=(dd::dds).map H5 } (w.putObj l o):=by
 have h4o:∀ b,b≠l->(w.putObj l o).heap[b]? = w.heap[b]?:=fun b hb=>World.putObj_heap_other hb
 have hW0:∀ b,b<W0.heap.size->(w.putObj l o).heap[b]? = W0.heap[b]?:=fun b hb=>by
  obtain⟨q1,q2,q3,q4⟩:=h.keep b (hk b hb);rw[h4o b q3,q1,hx.block b hb]
 have hd4:(w.putObj l o).heap[dd]? = some (.deferred (some [])):=by rw[h4o dd (fun hc=>h.ld hc.symm)];exact h.def_
 have hddw:dd<(w.putObj l o).heap.size:=by rw[World.putObj_size];exact h.d_lt
 have hWs:W0.heap.size<=(w.putObj l o).heap.size:=Nat.le_trans hdd (Nat.le_of_lt hddw)
 have hall:∀ d∈dd::dds,W0.heap.size<=d/\d<(w.putObj l o).heap.size/\(w.putObj l o).heap[d]? = some (.deferred (some [])):=fun d hd=>by
  rcases List.mem_cons.1 hd with rfl|hd
  ·exact⟨hdd,hddw,hd4⟩
  ·obtain⟨q1,q2,q3⟩:=hdds d hd;obtain⟨k1,k2,k3,k4⟩:=h.keep d q2;have:=h.size;exact⟨q1,by rw[World.putObj_size];omega,by rw[h4o d k3,k1,q3]⟩
 have hndd:(dd::dds).Nodup:=List.nodup_cons.2 ⟨fun hc=>(h.keep dd (hdds dd hc).2.1).2.2.2 rfl,hnd⟩
 have hod:∀ b,¬ C.keep b->b≠dd->b∉dd::dds:=fun b hb hn hc=>by
  rcases List.mem_cons.1 hc with rfl|hc
  ·exact hn rfl
  ·exact hb (hdds b hc).2.1
 let C':Ctx:=⟨w.putObj l o,fun b=>b<W0.heap.size∨b∈dd::dds,fun b=>(G b∨W0.heap.size<=b)/\b∉dd::dds,gl,none,fun _=>none,(dd::dds).map H5⟩
 have hown:∀ b,Go.Sx.own (fun _=>[]) Fb b->∃ id,b∈Fb id:=by
  rintro b (⟨_,h⟩|h)
  ·cases h
  ·exact h
 refine⟨C',⟨rfl,rfl,fun _=>rfl,fun b hb=>.inl hb,⟨h.os.trans hx.os,⟨h.tape.tp.trans hx.tape.tp,Nat.le_trans hx.tape.dr h.tape.dr⟩,h.output.trans hx.output,hWs,hW0⟩,fun b hb=>hb.1,⟨dd::dds,rfl,hndd,fun d hd=>⟨(hall d hd).1,.inr hd,(hall d hd).2.2,fun hc=>hc.2 hd⟩⟩⟩,ρ,fun _=>[],Fb, ?_⟩;refine StW.mk (by simpa using hsz) rfl (fun _ _ hp=>by cases hp) (fun t x hx'=>?_) (fun _ _=>rfl) (fun id x hx'=>?_) (fun id hid=>h.boxN id hid) (fun _=>List.nodup_nil) h.nodB (fun _ _ _ _ h=>by cases h) (fun _ _ _ h=>by cases h) h.dBB
  (fun b hb hc=>?_) (fun b hb=>⟨rfl, ?_⟩) rfl ⟨rfl,Nat.le_refl _⟩ rfl (Nat.le_refl _) (fun g d hg=>?_) (fun b hb=>⟨.inr (Nat.le_trans hWs hb),fun hc=>by have:=(hall b hc).2.1;omega⟩) (fun b hb=>?_)
 ·obtain⟨hp1,hp2⟩:=D6 hpe (show lk env0 t=some x from hx');obtain⟨v0,k1,k2⟩:=h.env t x hx';refine(j2 hp2).2 ⟨v0,k1,k2.mono (fun b hb hl=>h4o b (h.G1_lt b (hb.resolve_right (by simp))).2.1) (fun b hb hl=>⟨⟨hG1 b hb,fun hc=>(List.mem_cons.1 hc).elim (h.G1_lt b hb).2.2 (hGd b hb)⟩,fun hc=>?_⟩) (fun id hid=>⟨by show(lk bx id).isSome=true;rw[h.keys];exact hid,rfl⟩)⟩;obtain⟨id,hid⟩:=hown b hc;exact(h.own id b hid).2.2.1 hb
 ·obtain⟨d0,rfl,hf,hn0⟩:=N0 h.frs (show lk bx id=some x from hx');obtain⟨cs,e,F',k1,k2,k3⟩:=h.box id d0 hx';have hnl:∀ b∈Fb id,b≠l:=fun b hb=>(h.own id b hb).2.2.2.1;refine⟨cs,e,F', ?_,k2.frsAll hf hn0 (fun b hb _=>h4o b (hnl b (by rw[k3];exact List.mem_cons_of_mem _ hb))),k3⟩;rw[h4o _ (hnl _ (by rw[k3];simp))];exact k1
 ·obtain⟨id,hid⟩:=hown b hb;obtain⟨q1,_,_,_,q5,_⟩:=h.own id b hid
  rcases hc with hc|hc
  ·exact q1 (hk b hc)
  ·exact hod b q1 q5 hc
 ·rcases hb with hb|hb
  ·show b<(w.putObj l o).heap.size;omega
  ·exact(hall b hb).2.1
 ·obtain⟨q1,q2,cs,e,fz,q3,q4⟩:=hgl g d hg;refine⟨.inl q1,⟨.inl q2,fun hc=>by have:=(hall g hc).1;omega⟩,cs,e,fz,(hW0 g q1).trans q3,q4.mono (fun b hb _=>?_) (fun _ h=>h.elim) (fun _ h=>h.elim)⟩
  rcases hb with hb|hb
  ·exact hb.elim
  ·cases hb
 ·obtain⟨id,hid⟩:=hown b hb;obtain⟨q1,_,_,_,q5,_⟩:=h.own id b hid;exact⟨.inr (Nat.le_of_not_lt (fun hc=>q1 (hk b hc))),hod b q1 q5⟩
end
end Go.Sx
