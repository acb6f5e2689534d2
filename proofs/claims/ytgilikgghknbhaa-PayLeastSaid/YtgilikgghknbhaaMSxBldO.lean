/-
 Own library: structs of parts that own; a box's content,owning,is loaded.
-/
import Derived.Test.YtgilikgghknbhaaMSxFnB
import Derived.Recover
import Derived.Test.YtgilikgghknbhaaMSxApp
import Derived.Test.YtgilikgghknbhaaProg
import Derived.Test.YtgilikgghknbhaaChecked
import Derived.Shelf.SlSortCmp.NoneTotal
import Derived.Lib.Bytealg
set_option linter.unusedVariables false
set_option linter.unusedSimpArgs false
set_option linter.unnecessarySimpa false

namespace Go.Sx
variable {P : Program} {C : Ctx} {σ σ' σ1 : Sg} {a : Act} {w w' : World} {ρ : Nat -> Nat} {Fe Fe' Fb : Nat -> List Nat}
def killL (σ : Sg) : List Nat -> Sg
 | []=>σ
 | s :: r=>killL (σ.kill s) r
theorem killL_n : ∀ (S : List Nat) (σ : Sg),(killL σ S).n = σ.n /\ (killL σ S).bx = σ.bx:=by
 intro S
 induction S with
 | nil=>intro σ; exact ⟨rfl,rfl⟩
 | cons s r ih=>intro σ; exact ih (σ.kill s)
theorem killL_get : ∀ (S : List Nat) (σ : Sg) (u : Nat),(killL σ S).get u = if u ∈ S then some .dead else σ.get u:=by
 intro S
 induction S with
 | nil=>intro σ u; simp [killL]
 | cons s r ih=>
  intro σ u
  simp only [killL]
  rw [ih,get_kill]
  by_cases h1 : u ∈ r
  · simp [h1]
  · by_cases h2 : u = s
    · simp [h2]
    · simp [h1,h2]
theorem StW.takeL {S : List Nat} {t : Nat} {d : D} {v : Value} {F : List Nat} (h : StW C σ a w ρ Fe Fb) (ht : t < σ.n) (hst : t ∉ S) (hS : ∀ s ∈ S,∃ d0,σ.get s = some d0)
 (hF : F.Nodup) (hFs : ∀ b ∈ F,∃ s ∈ S,b ∈ Fe s)
 (hv : SR w ρ (gd C (upd (fun u=>if u ∈ S then [] else Fe u) t F) Fb) (fun id=>(σ.box id).isSome) (a.put (some t) v) t d F) :
 StW C ((killL σ S).set t d) (a.put (some t) v) w ρ (upd (fun u=>if u ∈ S then [] else Fe u) t F) Fb:=by
 have hsz : t < a.tmps.size:=by rw [h.size]; exact ht
 let Fx : Nat -> List Nat:=upd (fun u=>if u ∈ S then [] else Fe u) t F
 have hFx : ∀ u,u ≠ t -> ∀ b ∈ Fx u,b ∈ Fe u /\ u ∉ S:=fun u hut b hb=>by
  simp only [Fx,upd_other hut] at hb
  by_cases hus : u ∈ S
  · simp [hus] at hb
  · simp only [hus,if_false] at hb; exact ⟨hb,hus⟩
 have hFt : Fx t = F:=by simp [Fx]
 have ho : ∀ b,own Fx Fb b -> own Fe Fb b:=by
  rintro b (⟨u,hu⟩ | hid)
  · by_cases hut : u = t
    · subst hut; rw [hFt] at hu
      obtain ⟨s,_,hs⟩:=hFs b hu
      exact .inl ⟨s,hs⟩
    · exact .inl ⟨u,(hFx u hut b hu).1⟩
  · exact .inr hid
 have hg : ∀ b,gd C Fe Fb b -> gd C Fx Fb b:=fun b hb=>⟨hb.1,fun hc=>hb.2 (ho b hc)⟩
 obtain ⟨hn,hbx⟩:=killL_n S σ
 have hbox : ∀ id,((killL σ S).set t d).box id = σ.box id:=fun id=>by
  show lk (killL σ S).bx id = _
  rw [hbx]; rfl
 have hLf : (fun id=>(((killL σ S).set t d).box id).isSome = true) = fun id=>(σ.box id).isSome = true:=by funext id; rw [hbox]
 have hnotF : ∀ u,u ≠ t -> ∀ b ∈ Fx u,b ∉ F:=fun u hut b hb hbF=>by
  obtain ⟨h1,h2⟩:=hFx u hut b hb
  obtain ⟨s,hs,h3⟩:=hFs b hbF
  exact h.dEE u s (fun e=>h2 (e ▸ hs)) b h1 h3
 refine {
  size:=?_
  defs:=h.defs
  pin:=fun id b hp=>by rw [hbox]; exact h.pin id b hp
  env:=fun u x hx=>?_
  envN:=fun u hu=>?_
  bx:=fun id x hx=>by rw [hLf]; exact (h.bx id x (by rw [<- hbox]; exact hx)).mono (fun _ _ _=>rfl) (fun b hb _=>hg b hb) (fun i hi=>⟨hi,rfl⟩)
  bxN:=fun id hx=>h.bxN id (by rw [<- hbox]; exact hx)
  nodE:=fun u=>?_
  nodB:=h.nodB
  dEE:=fun u u' huu b hb hb'=>?_
  dEB:=fun u id b hb hb'=>?_
  dBB:=h.dBB
  new:=fun b hb=>h.new b (ho b hb)
  kept:=h.kept
  os:=h.os
  tape:=⟨h.tape.tp,h.tape.dr⟩
  output:=h.output
  grown:=h.grown
  gl:=h.gl
  okN:=h.okN
  okO:=fun b hb=>h.okO b (ho b hb) }
 · simp [Act.put,h.size,hn]
 · rw [hLf]
   rw [get_set] at hx
   by_cases hut : u = t
   · subst hut; simp at hx; subst hx
     simp only [upd_same]; exact hv
   · simp only [hut,if_false] at hx
     obtain ⟨d1,hd1,rfl⟩:=Option.map_eq_some_iff.1 hx
     rw [killL_get] at hd1
     by_cases hus : u ∈ S
     · simp only [hus,if_true,Option.some.injEq] at hd1
       subst hd1
       obtain ⟨d0,hd0⟩:=hS u hus
       obtain ⟨v0,hv0⟩:=(h.env u d0 hd0).there
       refine ⟨by simp [upd_other hut,hus],v0,by rw [put_get a t v u hsz]; simp [hut,hv0]⟩
     · simp only [hus,if_false] at hd1
       have hFu : upd (fun u=>if u ∈ S then [] else Fe u) t F u = Fe u:=by simp [upd_other hut,hus]
       rw [hFu]
       exact SR_other hut hsz (h.env u d1 hd1) (fun _ _ _=>rfl) (fun b hb _=>hg b hb) (fun id hid=>⟨hid,rfl⟩) (fun _ _ _ _ h=>h)
 · rw [get_set] at hu
   by_cases hut : u = t
   · simp [hut] at hu
   · simp only [hut,if_false,Option.map_eq_none_iff] at hu
     rw [killL_get] at hu
     by_cases hus : u ∈ S
     · simp [hus] at hu
     · simp only [hus,if_false] at hu
       simp [upd_other hut,hus,h.envN u hu]
 · by_cases hut : u = t
   · subst hut; simpa using hF
   · simp only [upd_other hut]
     split
     · exact List.nodup_nil
     · exact h.nodE u
 · by_cases hut : u = t
   · subst hut
     have hb1 : b ∈ F:=by rw [<- hFt]; exact hb
     exact hnotF u' (fun e=>huu e.symm) b hb' hb1
   · by_cases hut' : u' = t
     · subst hut'
       have hb1 : b ∈ F:=by rw [<- hFt]; exact hb'
       exact hnotF u hut b hb hb1
     · exact h.dEE u u' huu b (hFx u hut b hb).1 (hFx u' hut' b hb').1
 · by_cases hut : u = t
   · subst hut
     have hb1 : b ∈ F:=by rw [<- hFt]; exact hb
     obtain ⟨s,_,hs⟩:=hFs b hb1
     exact h.dEB s id b hs hb'
   · exact h.dEB u id b (hFx u hut b hb).1 hb'
inductive EvO (gl : List (Nat × D)) (σ : Sg) (l0 : List D) : List (Nat × Operand) -> List D -> List D -> List Nat -> Prop
 | nil {l l' : List D} (h : l = l') : EvO gl σ l0 [] l l' []
 | pur {i : Nat} {x : Operand} {d : D} {ps : List (Nat × Operand)} {l l' : List D} {S : List Nat} (h : ev gl σ x = some d) (hp : d.pur = true) (hn : d.np = true) (hz : (l0[i]?).map D.sz = some d.sz) (t : EvO gl σ l0 ps (l.set i d) l' S) : EvO gl σ l0 ((i,x) :: ps) l l' S
 | own {i s : Nat} {d : D} {ps : List (Nat × Operand)} {l l' : List D} {S : List Nat} (h : σ.get s = some d) (hr : d.isRef = false) (hn : d.np = true) (hz : (l0[i]?).map D.sz = some d.sz) (hs : S.contains s = false) (t : EvO gl σ l0 ps (l.set i d) l' S) : EvO gl σ l0 ((i,.tmp s) :: ps) l l' (s :: S)
theorem set_sz {l l0 : List D} {i : Nat} {d : D} (hz : l.map D.sz = l0.map D.sz) (h : (l0[i]?).map D.sz = some d.sz) : (l.set i d).map D.sz = l0.map D.sz:=by
 rw [List.map_set,<- hz]
 have h2 : (l.map D.sz)[i]? = some d.sz:=by rw [hz,List.getElem?_map]; exact h
 apply List.ext_getElem?
 intro j
 rw [List.getElem?_set]
 split
 · rename_i hij
   subst hij
   rw [h2]
   have:=(List.getElem?_eq_some_iff.1 h2).1
   simp only [this,if_true]
 · rfl
theorem fill_one {G L : Nat -> Prop} {l l0 : List D} {i : Nat} {d : D} {xc : List Value} {Fx F : List Nat} {cs : Array Value} {v : Value} (hxc : v.cells.toList = xc) (hrc : Rc w ρ G L false d xc Fx) (hz : l.map D.sz = l0.map D.sz) (p3 : (l0[i]?).map D.sz = some d.sz)
 (hr : Rc w ρ G L false (.agg l) cs.toList F) (hF : F.Nodup) (hFx : Fx.Nodup) (hdis : ∀ b ∈ Fx,b ∉ F) :
 ∃ out F',(offl l0 0).toArray[i]? = some (offk l i,d.sz) /\ v.cells.size = d.sz /\ ¬ (cs.size < offk l i + d.sz) /\ v.cells.zipIdx.foldl (fun (c : Array Value) (p : Value × Nat)=>c.setIfInBounds (offk l i + p.2) p.1) cs = out /\
  Rc w ρ G L false (.agg (l.set i d)) out.toList F' /\ F'.Nodup /\ ∀ b ∈ F',b ∈ F ∨ b ∈ Fx:=by
 have hlen:=hrc.len
 cases hl0 : l0[i]? with
 | none=>rw [hl0] at p3; cases p3
 | some d0=>
  obtain ⟨hi,rfl⟩:=List.getElem?_eq_some_iff.1 hl0
  rw [hl0] at p3
  simp only [Option.map_some,Option.some.injEq] at p3
  have hll : l.length = l0.length:=by have:=congrArg List.length hz; simpa using this
  have hi2 : i < l.length:=by omega
  have hsi : l[i].sz = d.sz:=by
   have : (l.map D.sz)[i]'(by simpa using hi2) = (l0.map D.sz)[i]'(by simpa using hi):=by simp only [hz]
   simp at this
   omega
  have hoff : offk l i = offk l0 i:=by
   have hs : ∀ (u v : List D),u.map D.sz = v.map D.sz -> D.szs u = D.szs v:=by
    intro u
    induction u with
    | nil=>intro v hv; cases v <;> simp_all
    | cons a u ihu=>intro v hv; cases v with
     | nil=>simp at hv
     | cons b v=>simp at hv; simp [hv.1,ihu v hv.2]
   unfold offk
   exact hs _ _ (by rw [List.map_take,List.map_take,hz])
  have hlo:=offk_lt l i hi2
  have hcl:=hr.len
  simp only [sz_agg,Array.length_toList] at hcl
  have hloc : (D.agg l).loc [i] = some (offk l i,l[i]):=by simp [D.loc,List.getElem?_eq_getElem hi2]
  have hupd : (D.agg l).upd [i] d = some (.agg (l.set i d)):=by simp [D.upd,List.getElem?_eq_getElem hi2]
  have hnoa : (D.agg l).noArr [i] = true:=by simp [D.noArr,List.getElem?_eq_getElem hi2]
  obtain ⟨F2,g1,g2,g3,_⟩:=hr.upd hloc hupd hsi.symm hrc hF hFx hdis (.inr hnoa)
  have hfold:=foldl_set cs xc (offk l i) 0 (by omega)
  simp only [Nat.add_zero] at hfold
  have hcs2 : (v.cells.zipIdx.foldl (fun (c : Array Value) (p : Value × Nat)=>c.setIfInBounds (offk l i + p.2) p.1) cs).toList = cs.toList.take (offk l i) ++ xc ++ cs.toList.drop (offk l i + xc.length):=by
   rw [<- hfold,<- hxc,<- Array.foldl_toList]
   simp
  rw [<- hcs2] at g1
  refine ⟨_,F2, ?_, ?_,by omega,rfl,g1,g3,g2⟩
  · rw [List.getElem?_toArray,offl_get l0 0 i hi,hoff,Nat.zero_add,<- p3]
  · rw [<- Array.length_toList,hxc,hlen]
theorem fill_structO (st : StW C σ a w ρ Fe Fb) {G : Nat -> Prop} {l0 : List D} (hG : ∀ b,gd C Fe Fb b -> G b) {ps : List (Nat × Operand)} {l l' : List D} {S : List Nat} (h : EvO C.gl σ l0 ps l l' S) :
 ∀ (cs : Array Value) (F : List Nat),l.map D.sz = l0.map D.sz -> Rc w ρ G (fun id=>(σ.box id).isSome = true) false (.agg l) cs.toList F -> F.Nodup -> (∀ s ∈ S,∀ b ∈ Fe s,b ∉ F) ->
  ∃ (out : Array Value) (F' : List Nat),Instr.fill ((offl l0 0).toArray[·]?) cs (ps.map (fun p=>(p.1,a.eval p.2))) = some out /\ Rc w ρ G (fun id=>(σ.box id).isSome = true) false (.agg l') out.toList F' /\ F'.Nodup /\ ∀ b ∈ F',b ∈ F ∨ ∃ s ∈ S,b ∈ Fe s:=by
 induction h with
 | nil h=>subst h; intro cs F _ hr hF _; exact ⟨cs,F,rfl,hr,hF,fun b hb=>.inl hb⟩
 | @pur i x d ps l l' S h hp hn hz t ih=>
  intro cs F hzz hr hF hS
  obtain ⟨xc,hxc,hrc⟩:=ev_cells st h hp
  have hrc2:=(hrc.unflag hn).mono (G':=G) (L':=fun id=>(σ.box id).isSome = true) (ρ':=ρ) (fun _ _ _=>rfl) (fun b hb _=>hG b hb) (fun i hi=>⟨hi,rfl⟩)
  obtain ⟨out,F',e1,e2,e3,e4,e5,e6,e7⟩:=fill_one hxc hrc2 hzz hz hr hF List.nodup_nil (by simp)
  have e7' : ∀ b ∈ F',b ∈ F:=fun b hb=>(e7 b hb).resolve_right (by simp)
  obtain ⟨out2,F2,f1,f2,f3,f4⟩:=ih out F' (set_sz hzz hz) e5 e6 (fun s hs b hb hb'=>hS s hs b hb (e7' b hb'))
  refine ⟨out2,F2, ?_,f2,f3,fun b hb=>(f4 b hb).imp (e7' b) id⟩
  simp only [List.map_cons,Instr.fill,e1,e2]
  rw [if_neg (by simp; omega),e4]
  exact f1
 | @own i s d ps l l' S h hr0 hn hz hs t ih=>
  intro cs F hzz hr hF hS
  obtain ⟨v,hv,hvr⟩:=(SR_plain hr0).1 (st.env _ _ h)
  have hdead : d ≠ .dead:=by rintro rfl; simp [D.isRef] at hr0
  have hrc:=hvr.cells hdead
  have hrc2:=(hrc.unflag hn).mono (G':=G) (L':=fun id=>(σ.box id).isSome = true) (ρ':=ρ) (fun _ _ _=>rfl) (fun b hb _=>hG b hb) (fun i hi=>⟨hi,rfl⟩)
  obtain ⟨out,F',e1,e2,e3,e4,e5,e6,e7⟩:=fill_one (v:=v) rfl hrc2 hzz hz hr hF (st.nodE s) (fun b hb=>hS s (by simp) b hb)
  have hs' : s ∉ S:=by intro hm; rw [List.contains_iff_mem.2 hm] at hs; cases hs
  obtain ⟨out2,F2,f1,f2,f3,f4⟩:=ih out F' (set_sz hzz hz) e5 e6 (fun s' hs1 b hb hb'=>by
   rcases e7 b hb' with h1 | h1
   · exact hS s' (List.mem_cons_of_mem _ hs1) b hb h1
   · exact st.dEE s' s (fun e=>hs' (e ▸ hs1)) b hb h1)
  refine ⟨out2,F2, ?_,f2,f3,fun b hb=>?_⟩
  · simp only [List.map_cons,Instr.fill,eval_tmp hv,e1,e2]
    rw [if_neg (by simp; omega),e4]
    exact f1
  · rcases f4 b hb with h1 | ⟨s',hs1,h1⟩
    · rcases e7 b h1 with h2 | h2
      · exact .inl h2
      · exact .inr ⟨s,by simp,h2⟩
    · exact .inr ⟨s',List.mem_cons_of_mem _ hs1,h1⟩
theorem EvO.there {gl : List (Nat × D)} {l0 : List D} {ps : List (Nat × Operand)} {l l' : List D} {S : List Nat} (h : EvO gl σ l0 ps l l' S) : ∀ s ∈ S,∃ d0,σ.get s = some d0:=by
 induction h with
 | nil=>intro s hs; cases hs
 | pur _ _ _ _ _ ih=>exact ih
 | own h _ _ _ _ _ ih=>
  intro s hs
  rcases List.mem_cons.1 hs with rfl | hs
  · exact ⟨_,h⟩
  · exact ih s hs
theorem R.bldO {t : Nat} {ps : List (Nat × Operand)} {l l' : List D} {S : List Nat} {ty rt : TypeId} {pos : String} {aft : Array Edge} {g : Option (Nat × Bool)} [hT : BsT P ty l]
 (hps : EvO C.gl σ l ps l l' S) (hS : S.contains t = false) (ht : t < σ.n) :
 OpS P C ⟨some t,.build ty ps.toArray,rt,pos,aft,g⟩ σ ((killL σ S).set t (.agg l')):=by
 refine OpS.value fun a w ⟨ρ,Fe,Fb,st⟩=>?_
 obtain ⟨fs,it,zv,h1,h2,h3,h4,h5⟩:=hT.i
 have htS : t ∉ S:=by intro hm; rw [List.contains_iff_mem.2 hm] at hS; cases hS
 obtain ⟨out,F,q1,q2,q3,q4⟩:=fill_structO st (G:=gd C Fe Fb) (fun _ h=>h) hps zv.cells [] rfl (chk_ok _ _ _ _ _ _ h5) List.nodup_nil (by simp)
 have q4' : ∀ b ∈ F,∃ s ∈ S,b ∈ Fe s:=fun b hb=>(q4 b hb).resolve_left (by simp)
 have hps2 : (ps.toArray.map fun x=>(x.1,a.eval x.2)).toList = ps.map (fun p=>(p.1,a.eval p.2)):=by simp
 refine ⟨.agg out,w, ?_,ρ,_,Fb,st.takeL ht htS hps.there q3 q4' ((SR_plain rfl).2 ⟨.agg out,by rw [put_get a t _ t (by rw [st.size]; exact ht)]; simp, ?_⟩)⟩
 · have:=run_build (P:=P) w ty (ps.toArray.map fun x=>(x.1,a.eval x.2)) out (by
    rw [hps2]
    simp only [Program.built,h1,h2,h3,h4]
    exact q1)
   unfold execOp
   simp only [Sem.run_bind,this,Result.andThen_ok,Sem.run_pure]
 · simp only [VR,D.isAgg,if_true]
   refine ⟨out,rfl,(q2.flag).mono (fun _ _ _=>rfl) (fun b hb _=>⟨hb.1,fun hc=>hb.2 ?_⟩) (fun i hi=>⟨hi,rfl⟩)⟩
   rcases hc with ⟨u,hu⟩ | hid
   · by_cases hut : u = t
     · subst hut
       rw [upd_same] at hu
       obtain ⟨s,_,hs⟩:=q4' b hu
       exact .inl ⟨s,hs⟩
     · rw [upd_other hut] at hu
       by_cases hus : u ∈ S
       · simp [hus] at hu
       · simp only [hus,if_false] at hu; exact .inl ⟨u,hu⟩
   · exact .inr hid
end Go.Sx

namespace Go.Sx
variable {P : Program} {C : Ctx} {σ σ' σ1 : Sg} {a : Act} {w w' : World} {ρ : Nat -> Nat} {Fe Fe' Fb : Nat -> List Nat}
inductive Wk : D -> D -> Prop
 | refl (d : D) : Wk d d
 | nils (o : Option Nat) (z : Nat) : Wk .nils (.sl o z [])
 | agg {l l' : List D} (hn : l.length = l'.length) (h : ∀ k (h : k < l.length) (h' : k < l'.length),Wk l[k] l'[k]) : Wk (.agg l) (.agg l')
 | sl {o : Option Nat} {z : Nat} {l l' : List D} (hn : l.length = l'.length) (h : ∀ k (h : k < l.length) (h' : k < l'.length),Wk l[k] l'[k]) : Wk (.sl o z l) (.sl o z l')
inductive WkL : List D -> List D -> Prop
 | nil : WkL [] []
 | cons {d d' : D} {l l' : List D} (h : Wk d d') (t : WkL l l') : WkL (d :: l) (d' :: l')
theorem WkL.len {l l' : List D} (h : WkL l l') : l.length = l'.length:=by
 induction h with
 | nil=>rfl
 | cons _ _ ih=>simp [ih]
theorem WkL.get {l l' : List D} (h : WkL l l') : ∀ k (h : k < l.length) (h' : k < l'.length),Wk l[k] l'[k]:=by
 induction h with
 | nil=>intro k h; simp at h
 | cons h _ ih=>
  intro k hk hk'
  cases k with
  | zero=>exact h
  | succ k=>exact ih k (by simpa using hk) (by simpa using hk')
theorem Wk.aggL {l l' : List D} (h : WkL l l') : Wk (.agg l) (.agg l'):=.agg h.len h.get
theorem Wk.slL {o : Option Nat} {z : Nat} {l l' : List D} (h : WkL l l') : Wk (.sl o z l) (.sl o z l'):=.sl h.len h.get
theorem Wk.slM {α : Type} {o : Option Nat} {z : Nat} {l : List α} {f g : α -> D} (h : ∀ x ∈ l,Wk (f x) (g x)) : Wk (.sl o z (l.map f)) (.sl o z (l.map g)):=
 .sl (by simp) (fun k h1 h2=>by simp only [List.getElem_map]; exact h _ (List.getElem_mem _))
theorem szs_eq {l l' : List D} (hn : l.length = l'.length) (h : ∀ k (h : k < l.length) (h' : k < l'.length),l'[k].sz = l[k].sz) : D.szs l' = D.szs l:=by
 induction l generalizing l' with
 | nil=>cases l' with
  | nil=>rfl
  | cons _ _=>simp at hn
 | cons x r ih=>cases l' with
  | nil=>simp at hn
  | cons x' r'=>
   have h0:=h 0 (by simp) (by simp)
   simp only [List.getElem_cons_zero] at h0
   simp only [szs_cons,h0]
   rw [ih (by simpa using hn) (fun k h1 h2=>h (k + 1) (by simpa using h1) (by simpa using h2))]
theorem offk_eq {l l' : List D} (hn : l.length = l'.length) (h : ∀ k (h : k < l.length) (h' : k < l'.length),l'[k].sz = l[k].sz) (k : Nat) : offk l' k = offk l k:=by
 unfold offk
 exact szs_eq (by simp [hn]) (fun j h1 h2=>by simp only [List.getElem_take]; exact h j (by simp at h1; omega) (by simp at h2; omega))
theorem Wk.sz {d d' : D} (h : Wk d d') : d'.sz = d.sz:=by
 induction h with
 | refl=>rfl
 | nils=>rfl
 | agg hn h ih=>simp only [sz_agg]; exact szs_eq hn ih
 | sl=>rfl
theorem Rc.wk {G L : Nat -> Prop} {d d' : D} (hw : Wk d d') : ∀ {p : Bool} {cs : List Value} {F : List Nat},Rc w ρ G L p d cs F -> Rc w ρ G L p d' cs F:=by
 induction hw with
 | refl=>intro p cs F h; exact h
 | nils o z=>intro p cs F h; cases h; exact .slN o z
 | @agg l l' hn h ih=>
  intro p cs F hr
  cases hr with
  | agg _ _ Fs hs hr=>
   have hz : ∀ k (h : k < l.length) (h' : k < l'.length),l'[k].sz = l[k].sz:=fun k h1 h2=>(h k h1 h2).sz
   rw [hn]
   refine .agg l' cs Fs (by rw [hs,szs_eq hn hz]) (fun k hk=>?_)
   rw [offk_eq hn hz,hz k (by omega) hk]
   exact ih k (by omega) hk (hr k (by omega))
 | @sl o z l l' hn h ih=>
  intro p cs F hr
  cases hr with
  | slN=>rw [List.length_eq_zero_iff.1 hn.symm]; exact .slN o z
  | slE _ _ a=>rw [List.length_eq_zero_iff.1 hn.symm]; exact .slE o z a
  | slI b off cs e fz cap _ _ hb hG hc hs hr=>
   rw [hn]
   exact .slI b off cs e fz cap z l' hb hG (by omega) (by rw [<- hn]; exact hs) (fun i hi=>ih i (by omega) hi (hr i (by omega)))
  | slO b cs e cap _ _ Fs hb hc hm hs ho1 hr=>
   rw [hn]
   exact .slO b cs e cap z l' Fs hb (by omega) hm hs ho1 (fun i hi=>ih i (by omega) hi (hr i (by omega)))
theorem W.wkB {c : Code} {Q : Exit -> Sg -> Prop} (id : Nat) {d d' : D} {bx' : List (Nat × Bx)} (hb : σ.box id = some (.var d)) (hw : Wk d d') (hbx : setb id (.var d') σ.bx = bx') (k : W P C c Q ⟨σ.n,σ.env,bx'⟩) : W P C c Q σ:=by
 subst hbx
 exact fun a w hs=>k a w (St.viewB hb (fun w ρ G L cs F h=>h.wk hw) hs)
theorem Wk.isAgg {d d' : D} (h : Wk d d') : d'.isAgg = d.isAgg:=by cases h <;> rfl
end Go.Sx

namespace Go.Sx
variable {P : Program} {C : Ctx} {σ σ' σ1 : Sg} {a : Act} {w w' : World} {ρ : Nat -> Nat} {Fe Fe' Fb : Nat -> List Nat}
theorem VR.wk {G L : Nat -> Prop} {d d' : D} {v : Value} {F : List Nat} (h : VR w ρ G L d v F) (hw : Wk d d') : VR w ρ G L d' v F:=by
 unfold VR at h ⊢
 rw [hw.isAgg]
 cases hag : d.isAgg with
 | true=>simp only [hag,if_true] at h ⊢; obtain ⟨cs,e,h⟩:=h; exact ⟨cs,e,h.wk hw⟩
 | false=>simp only [hag,if_false,Bool.false_eq_true] at h ⊢; exact h.wk hw
end Go.Sx

namespace Go.Sx
variable {pos : String} {aft : Array Edge} {g : Option (Nat × Bool)}
theorem O {α : Sort _} {a : α} : a = a:=rfl
theorem Zt : True:=trivial
theorem dU {p : Prop} (h : p:=by decide) : p:=h
theorem dT {p : Prop} [Decidable p] (h : p) : decide p = true:=decide_eq_true h
theorem dF {p : Prop} [Decidable p] (h : ¬ p) : decide p = false:=decide_eq_false h
abbrev Bc:=@Bors.cons
abbrev Bn:=@Bors.nil
abbrev Bp:=@Bor.pur
theorem lN {α β : Type} {l : List α} (f : α -> β) : (l.map f).length = l.length:=List.length_map f
theorem nU {m n : Nat} (h : Nat.ble m n = true) : m <= n:=Nat.le_of_ble_eq_true h
theorem bU {p : Prop} (h : p:=by first | omega | (simp only [List.length_map,List.length_append,List.length_cons,List.length_nil,List.length_take,List.length_drop,List.length_replicate]; omega) | (simp; omega)) : p:=h
theorem bV {x : Int} (h : 0 <= x:=by first | omega | (simp only [List.length_map,List.length_append,List.length_cons,List.length_nil,List.length_take,List.length_drop,List.length_replicate]; omega) | (simp; omega)) : 0 <= x:=h
theorem gU {σ : Sg} (n : Nat) {d : D} (h : σ.get n = some d) : σ.get n = some d:=h
theorem xU {σ : Sg} (n : Nat) {d : Bx} (h : σ.box n = some d) : σ.box n = some d:=h
theorem gV {gl : List (Nat × D)} {σ : Sg} (n : Nat) {d : D} (h : σ.get n = some d) : ev gl σ (.tmp n) = some d:=h
theorem eU {gl : List (Nat × D)} {τ : Sg} {f : Nat -> Option D} (K : ∀ u x,f u = some x -> τ.get u = some x) (n : Nat) {d : D} (h : f n = some d) : ev gl τ (.tmp n) = some d:=K n d h
theorem kI {gl : List (Nat × D)} {σ : Sg} (n : Nat) {i : Int} (h : ev gl σ (.const (.int .i64 i)) = some (.int ((n : Nat) : Int))) : ev gl σ (.const (.int .i64 i)) = some (.int ((n : Nat) : Int)):=h
theorem kB {gl : List (Nat × D)} {σ : Sg} (b : Bool) (h : ev gl σ (.const (.bool b)) = some (.bool b)) : ev gl σ (.const (.bool b)) = some (.bool b):=h
theorem kN {gl : List (Nat × D)} {σ : Sg} (h : ev gl σ (.const (.slice none 0 0)) = some .nils) : ev gl σ (.const (.slice none 0 0)) = some .nils:=h
@[reducible] def It.y (n : Nat) (d : D) : It:=⟨n,d,true⟩
@[reducible] def It.x (n : Nat) : It:=⟨n,.dead,false⟩
section
variable {P : Program} {C : Ctx} {σ : Sg} {ops : List Oper} {an : List Nat} {ks kk : List (Nat × Nat)} {its : List It}
abbrev EntP (P : Program) (C : Ctx) (σ : Sg) (an : List Nat) (ks kk : List (Nat × Nat)) (its : List It) (i : Nat) (o : Oper) (t : Nat) (d : D) : Prop:=
 ∀ τ : Sg,(∀ id x,lk σ.bx id = some x -> τ.box id = some x) -> t < τ.n -> (∀ u x,facts an ks σ.env its i u = some x -> τ.get u = some x) -> OpS P C o τ ((killS τ kk i).set t d)
abbrev Ent (P : Program) (C : Ctx) (σ : Sg) (ops : List Oper) (an : List Nat) (ks kk : List (Nat × Nat)) (its : List It) (i : Nat) (o : Oper) (t : Nat) (d : D) (wt : Bool) : Prop:=
 o.dst = some t /\ Wt ops (facts an ks σ.env its i) o wt /\ (wt = true -> ∀ τ : Sg,(∀ id x,lk σ.bx id = some x -> τ.box id = some x) -> t < τ.n -> (∀ u x,facts an ks σ.env its i u = some x -> τ.get u = some x) -> OpS P C o τ ((killS τ kk i).set t d))
def noK (kk : List (Nat × Nat)) (i : Nat) : Bool:=kk.all fun x=>!Nat.beq x.1 i
theorem killS_no {τ : Sg} {i : Nat} : ∀ {kk : List (Nat × Nat)},noK kk i = true -> killS τ kk i = τ:=by
 intro kk
 induction kk with
 | nil=>intro _; rfl
 | cons y r ih=>
  obtain ⟨k,s⟩:=y
  intro h
  simp only [noK,List.all_cons,Bool.and_eq_true,Bool.not_eq_true'] at h
  rw [killS,h.1]
  exact ih h.2
theorem aU {i t : Nat} {d : D} {op : Op} {ty : TypeId} {pos : String} {aft : Array Edge} (f : EntP P C σ an ks kk its i ⟨some t,op,ty,pos,aft,none⟩ t d) :
 Ent P C σ ops an ks kk its i ⟨some t,op,ty,pos,aft,none⟩ t d true:=⟨rfl,rfl,fun _=>f⟩
theorem aW {i t g : Nat} {d : D} {op : Op} {ty : TypeId} {pos : String} {aft : Array Edge} {want b : Bool} {tg : Nat} (h1 : (ops[g]?).bind (·.dst) = some tg)
 (h3 : facts an ks σ.env its i tg = some (.bool b)) (h4 : true = (b == want)) (f : EntP P C σ an ks kk its i ⟨some t,op,ty,pos,aft,some (g,want)⟩ t d) :
 Ent P C σ ops an ks kk its i ⟨some t,op,ty,pos,aft,some (g,want)⟩ t d true:=by
 obtain ⟨og,h1,h2⟩:=Option.bind_eq_some_iff.1 h1
 exact ⟨rfl,⟨og,tg,h1,h2,.inl ⟨b,h3,h4⟩⟩,fun _=>f⟩
theorem aF {i t g : Nat} {op : Op} {ty : TypeId} {pos : String} {aft : Array Edge} {want b : Bool} {tg : Nat} (h1 : (ops[g]?).bind (·.dst) = some tg)
 (h3 : facts an ks σ.env its i tg = some (.bool b)) (h4 : false = (b == want)) :
 Ent P C σ ops an ks kk its i ⟨some t,op,ty,pos,aft,some (g,want)⟩ t .dead false:=by
 obtain ⟨og,h1,h2⟩:=Option.bind_eq_some_iff.1 h1
 exact ⟨rfl,⟨og,tg,h1,h2,.inl ⟨b,h3,h4⟩⟩,fun h=>absurd h (by decide)⟩
theorem gT {b wt want : Bool} (h : b = true) (hw : wt = (true == want)) : wt = (b == want):=gw h hw
theorem gF {b wt want : Bool} (h : b = false) (hw : wt = (false == want)) : wt = (b == want):=gw h hw
theorem mU {i t : Nat} {d : D} {ty : TypeId} {pos : String} {aft : Array Edge} (s : Nat) (h : facts an ks σ.env its i s = some d) (hp : (d.pur && noK kk i) = true) :
 Ent P C σ ops an ks kk its i ⟨some t,.move (.tmp s),ty,pos,aft,none⟩ t d true:=by
 rw [Bool.and_eq_true] at hp
 exact ⟨rfl,rfl,fun _ τ _ H K=>by rw [killS_no hp.2]; exact R.mov (K s d h) hp.1 H⟩
theorem fU {i t id off off' : Nat} {path : List Nat} {s f : Nat} {rt : TypeId} [FdT P s f off'] (x : Nat)
 (h : facts an ks σ.env its i x = some (.ptr id off path)) (hk : noK kk i = true) : EntP P C σ an ks kk its i ⟨some t,.fieldAddr s (.tmp x) f,rt,pos,aft,g⟩ t (.ptr id (off + off') (path ++ [f])):=
 fun τ _ H K=>by rw [killS_no hk]; exact R.fdP (K _ _ h) H
theorem lU {i t id off : Nat} {path : List Nat} {d0 d : D} {ty n rt : TypeId} {gg : Bool} [LdT P ty n gg] (p : Nat)
 (h : facts an ks σ.env its i p = some (.ptr id off path)) (hb : lk σ.bx id = some (.var d0)) (hl : d0.loc path = some (off,d)) (hp : d.pur = true) (hn : d.sz = n) (hg : d.isAgg = gg) (hk : noK kk i = true) :
 EntP P C σ an ks kk its i ⟨some t,.load ty (.tmp p),rt,pos,aft,g⟩ t d:=
 fun τ B H K=>by rw [killS_no hk]; exact R.ldP (K _ _ h) (B _ _ hb) hl hp hn hg H
theorem tU {Q : Exit -> Sg -> Prop} (h : picks σ.get (σ.env.map (·.1)) = σ.env) (q : Q .normal σ) : TL P C Q [] σ:=⟨_,_,_,_,h,rfl,rfl,q⟩
theorem tV {Q : Exit -> Sg -> Prop} (e : List (Nat × D)) (b : List (Nat × Bx)) (n : Nat) (h : picks σ.get (e.map (·.1)) = e) (h1 : σ.bx = b) (h2 : σ.n = n) (q : Q .normal ⟨n,e,b⟩) : TL P C Q [] σ:=⟨_,_,_,_,h,h1,h2,q⟩
end
section
variable {P : Program} {C : Ctx} {σ : Sg} {ops : List Oper} {Q : Exit -> Sg -> Prop}
def okL (n : Nat) (m : Nat) (ks kk : List (Nat × Nat)) (its : List It) (env : List (Nat × D)) (l : Nat) : Bool:=
 Nat.ble l m && Nat.ble its.length l && okTs n (slots its) && okRef (upTo m 0) ks (slots its) its 0 && subs kk ks && okEnv (slots its) env
theorem W.l0 {id : Nat} (m : Nat) (its : List It) (ks kk : List (Nat × Nat)) (env' : List (Nat × D)) (bx' : List (Nat × Bx)) (n' : Nat)
 (H : AllOps P C σ ops (upTo m 0) ks kk its ops its 0) (h : okL σ.n m ks kk its σ.env ops.length = true) (hE : picks (afts (upTo m 0) (fun _=>true) ks σ.env its) (env'.map (·.1)) = env')
 (hb : σ.bx = bx') (hn' : σ.n = n') (hT : TL P C Q (ops.drop its.length) ⟨n',env',bx'⟩) : W P C (.region id ops.toArray false) Q σ:=by
 unfold okL at h
 simp only [Bool.and_eq_true] at h
 exact W.line (Nat.le_of_ble_eq_true h.1.1.1.1.1) ⟨Nat.le_of_ble_eq_true h.1.1.1.1.2,h.1.1.1.2,H,h.1.1.2,h.1.2,h.2⟩ hE hb hn' hT
end
end Go.Sx

namespace Go.Sx
def bytesD (b : List UInt8) : D:=.sl none 1 (b.map D.u8)
def hashD (b : List UInt8) : D:=.arr 32 1 (b.map D.u8)
def rotl (x : UInt32) (k : Int) : UInt32:=shl_u32 x (UInt64.ofInt k &&& 31).toNat ||| shr_u32 x (32 - (UInt64.ofInt k &&& 31)).toNat
def right (x : UInt32) (n : Int) : UInt32:=rotl x (wr (0 - n))
structure W8 where
 a : UInt32
 b : UInt32
 c : UInt32
 d : UInt32
 e : UInt32
 f : UInt32
 g : UInt32
 l : UInt32
def one (v : W8) (k w : UInt32) : UInt32:=v.l + (right v.e 6 ^^^ right v.e 11 ^^^ right v.e 25) + (v.g ^^^ (v.e &&& (v.f ^^^ v.g))) + k + w
structure ShaS where
 begun : Bool
 h : List UInt32
 piece : List UInt8
 n : UInt64
def ShaS.zero : ShaS:=⟨false,List.replicate 8 0,List.replicate 64 0,0⟩
end Go.Sx

namespace Go.Sx
variable {P : Program} {C : Ctx} {σ σ' σ1 : Sg} {a : Act} {w w' : World} {ρ : Nat -> Nat} {Fe Fe' Fb : Nat -> List Nat}
variable {κ α : Type} [DecidableEq κ]
section
variable {ops : List Oper} {an : List Nat} {ks kk : List (Nat × Nat)} {its : List It}
end
omit [DecidableEq κ] in
theorem renMp {m : Nat -> Nat} {kd : κ -> D} {f : α -> D} (h1 : ∀ a,(kd a).ren m = kd a) (h2 : ∀ u,(f u).ren m = f u) (M : List (κ × α)) (i : Nat) (r : List (Nat × Bx)) : renBx m ((i,mpK kd f M) :: r) = (m i,mpK kd f M) :: renBx m r:=by
 have e : (M.map fun e=>(kd e.1,f e.2)).map (fun kv=>(kv.1.ren m,kv.2.ren m)) = M.map fun e=>(kd e.1,f e.2):=by
  rw [List.map_map]
  exact List.map_congr_left fun e _=>by simp [h1,h2]
 simp only [renBx,mpK,Bx.ren,e]
end Go.Sx

namespace Go.Sx
variable {pos : String} {aft : Array Edge} {g : Option (Nat × Bool)}
variable {P : Program} {C : Ctx} {σ σ' σ1 : Sg} {a : Act} {w w' : World} {ρ : Nat -> Nat} {Fe Fe' Fb : Nat -> List Nat}
theorem run_callVC {f : FuncId} [h : CaT P f] {s : Nat} {t : Option Nat} {args : Array Operand} {vs : List Value} {tys : Array TypeId} {rt : TypeId} (a : Act) (w : World) (hs : a.tmps[s]? = some (.func (.func f) #[] vs.toArray)) :
 (execOp a.eval ⟨t,.call { callee:=.value (.tmp s),args:=args,argTypes:=tys },rt,pos,aft,g⟩).run P w = .ok (.enter f (args.map a.eval ++ vs.toArray)) w:=by
 obtain ⟨fn,h1,h2,h3⟩:=h.i
 unfold execOp
 simp [resolve,eval_tmp hs,Deferred.ofValue,invoke,run_callFunc h1 h2 h3]
theorem R.callVB {f : FuncId} [CaT P f] {s t : Nat} {args : List Operand} {tys : Array TypeId} {rt : TypeId} {gl : List (Nat × D)} {ds caps capsA : List D} {r r' : D} {bx bx' nw cx cx' nwc : List (Nat × Bx)}
 (ml : List (Nat × Nat)) (hC : C.gl = gl) (hs : σ.get s = some (.fn f capsA)) (hca : D.rens (mlk ml) caps = capsA) (hcp : D.okBs (bx.map Prod.fst) caps = true) (hF : FnB P gl f (ds ++ caps) bx r bx' nw) (ha : EvB C.gl σ (mlk ml) (bx.map Prod.fst) args ds)
 (hcx : renBx (mlk ml) bx = cx) (hlk : hasBx σ.bx cx) (hob : okBxP (bx.map Prod.fst) bx) (hcx' : renBx (mlk ml) bx' = cx') (hnw : renBx (mlk ml) nw = nwc) (hr : r.ren (mlk ml) = r')
 (hk : bx'.map Prod.fst = bx.map Prod.fst) (hfr : freshB σ.bx nwc = true) (hinj : injB (mlk ml) ((nw ++ bx').map Prod.fst) = true) (ht : t < σ.n) :
 OpS P C ⟨some t,.call { callee:=.value (.tmp s),args:=args.toArray,argTypes:=tys },rt,pos,aft,g⟩ σ ((⟨σ.n,scrubL (cx.map Prod.fst) σ.env,nwc ++ lendB cx' σ.bx⟩ : Sg).set t r'):=by
 subst hC; subst hcx; subst hcx'; subst hnw; subst hr
 intro a w ⟨ρ,Fe,Fb,st⟩ K Q hK
 obtain ⟨hhand,hback⟩:=st.callB (m:=mlk ml) hlk hob hk hfr hinj
 have hmem : ∀ i,memB (bx.map Prod.fst) i = true -> (lk bx i).isSome = true:=fun i hi=>by
  rw [lk_key]
  simp only [memB,List.any_eq_true] at hi
  obtain ⟨j,hj,he⟩:=hi
  rw [Nat.eq_of_beq_eq_true he]; exact hj
 obtain ⟨vs,hvs,hvl,hva,hvr⟩ : ∃ vs : List Value,a.tmps[s]? = some (.func (.func f) #[] vs.toArray) /\ vs.length = caps.length /\ (∀ k (h : k < caps.length),caps[k].isAgg = false) /\
  ∀ k (h : k < caps.length),Rc w (fun i=>ρ (mlk ml i)) (gd C Fe Fb) (fun i=>(lk bx i).isSome = true) true caps[k] [vs.getD k undef] []:=by
  obtain ⟨vg,hvg,hrg⟩:=(SR_plain rfl).1 (st.env s _ hs)
  simp only [VR,D.isAgg,Bool.false_eq_true,if_false] at hrg
  rw [rens_eq] at hca
  subst hca
  generalize Fe s = Fg at hrg
  cases hrg with
  | fn _ _ vs hl ha hr=>
   refine ⟨vs,hvg,by simpa using hl,fun k hk=>?_,fun k hk=>?_⟩
   · have:=ha k (by simpa using hk); rw [List.getElem_map,isAgg_ren] at this; exact this
   · have h1:=hr k (by simpa using hk)
     rw [List.getElem_map] at h1
     have h2 : Rc w (fun i=>ρ (mlk ml i)) (gd C Fe Fb) (fun i=>(σ.box (mlk ml i)).isSome = true) true caps[k] [vs.getD k undef] []:=h1.unren rfl (fun i hi=>⟨hi,rfl⟩)
     exact (h2.okB (okBs_get caps hcp k hk)).mono (fun _ _ _=>rfl) (fun _ h _=>h) (fun i hi=>⟨hmem i hi.1,rfl⟩)
 refine wpIn_of_run (run_callVC a w hvs) (by simp) ?_
 rw [Oper.uponIn_enter]
 have hlen : (args.map a.eval).length = ds.length:=by simp [ha.len]
 have hc:=hF w (fun b=>gd C Fe Fb b /\ b < w.heap.size) (fun i=>ρ (mlk ml i)) (fun i=>if (lk bx i).isSome then Fb (mlk ml i) else []) (args.map a.eval ++ vs)
  (fun g d hg=>by obtain ⟨h1,h2⟩:=gl_ok st g d hg; obtain ⟨cs,e,fz,h3,h4⟩:=h2; exact ⟨⟨h1,(Array.getElem?_eq_some_iff.1 h3).1⟩,cs,e,fz,h3,h4⟩) (fun b hb=>hb.2) (by simp [ha.len,hvl])
  (fun k hk=>by
   by_cases hkd : k < ds.length
   · have h1:=(ha.ok st k hkd).mono (fun _ _ _=>rfl) (fun b (hb : gd C Fe Fb b) hl=>(⟨hb,hl⟩ : gd C Fe Fb b /\ b < w.heap.size)) (fun i hi=>⟨hmem i hi.1,rfl⟩)
     have e1 : (ds ++ caps)[k] = ds[k]:=List.getElem_append_left hkd
     have e2 : (args.map a.eval ++ vs).getD k undef = (args.map a.eval).getD k undef:=by
      simp only [List.getD_eq_getElem?_getD]
      rw [List.getElem?_append_left (by rw [hlen]; exact hkd)]
     rw [e1,e2]
     exact h1
   · have hk' : k - ds.length < caps.length:=by simp only [List.length_append] at hk; omega
     have e1 : (ds ++ caps)[k] = caps[k - ds.length]:=List.getElem_append_right (by omega)
     have e2 : (args.map a.eval ++ vs).getD k undef = vs.getD (k - ds.length) undef:=by
      simp only [List.getD_eq_getElem?_getD]
      rw [List.getElem?_append_right (by rw [hlen]; omega),hlen]
     rw [e1,e2]
     simp only [VR,hva _ hk',Bool.false_eq_true,if_false]
     exact (hvr _ hk').mono (fun _ _ _=>rfl) (fun b hb hl=>⟨hb,hl⟩) (fun i hi=>⟨hi,rfl⟩))
  ⟨fun id x hx=>(hhand.box id x hx).mono (fun _ _ _=>rfl) (fun b hb hl=>⟨hb,hl⟩) (fun i hi=>⟨hi,rfl⟩),hhand.boxN,hhand.nodB,hhand.dBB,fun id b hb hc=>hhand.out id b hb hc.1⟩
 simp only [List.map_toArray,List.append_toArray]
 refine ⟨(fun h=>by cases h),(callsIn_fx (Calls.mono hc ?_))⟩
 rintro e w' ⟨v,F,ρ',Fb',rfl,hext,hρ',hnd,hsrc,hFB,hFl,hand,hrv⟩
 have hGG : ∀ b,(((gd C Fe Fb b /\ b < w.heap.size) ∨ w.heap.size <= b ∨ ∃ id,b ∈ (if (lk bx id).isSome then Fb (mlk ml id) else [])) /\ b ∉ F /\ ¬ ∃ id,b ∈ Fb' id) ->
  ((gd C Fe Fb b ∨ w.heap.size <= b ∨ ∃ id,b ∈ (if (lk bx id).isSome then Fb (mlk ml id) else [])) /\ b ∉ F /\ ¬ ∃ id,b ∈ Fb' id):=fun b hb=>⟨hb.1.imp (fun h=>h.1) (fun h=>h),hb.2⟩
 obtain ⟨ρ2,Fb2,st2,hrv2,hdE,hdB,hkp,hok⟩:=hback w' F ρ' Fb' hext hρ' hnd hsrc hFB hFl
  ⟨fun id x hx=>(hand.box id x hx).mono (fun _ _ _=>rfl) (fun b hb _=>hGG b hb) (fun i hi=>⟨hi,rfl⟩),hand.boxN,hand.nodB,hand.dBB,fun id b hb hc=>hc.2.2 ⟨id,hb⟩⟩
 have hrv3:=hrv2 r v (hrv.mono (fun _ _ _=>rfl) (fun b hb _=>hGG b hb) (fun i hi=>⟨hi,rfl⟩))
 have hput : (a.put (some t) v).tmps[t]? = some v:=by rw [put_get a t v t (by rw [st.size]; exact ht)]; simp
 refine hK _ _ ⟨ρ2,upd Fe t F,Fb2,st2.adopt ht hnd hdE hdB hkp hok (RV.slot (hrv3.mono (fun _ _ _=>rfl) (fun b hb _=>⟨hb.1.1, ?_⟩) (fun i hi=>⟨hi,rfl⟩)) hput)⟩
 rintro (⟨u,hu⟩ | ho)
 · by_cases hut : u = t
   · subst hut; simp at hu; exact hb.2 hu
   · rw [upd_other hut] at hu; exact hb.1.2 (.inl ⟨u,hu⟩)
 · exact hb.1.2 (.inr ho)
end Go.Sx

namespace Go.Sx
variable {P : Program} {C : Ctx} {σ σ' σ1 σ2 : Sg} {a : Act} {w w' : World} {ρ ρ2 : Nat -> Nat} {Fe Fe' Fb Fb2 : Nat -> List Nat}
end Go.Sx

namespace Go.Sx
variable {P : Program} {C : Ctx} {σ σ' : Sg} {a : Act} {w w' : World} {ρ : Nat -> Nat} {Fe Fb : Nat -> List Nat}
theorem Fn.wkA {gl : List (Nat × D)} {f : FuncId} {ds ds' : List D} {r : D} (hw : WkL ds ds') (hF : Fn P gl f ds' r) : Fn P gl f ds r:=by
 intro w G vs h1 h2 h3
 have hl:=hw.len
 refine hF w G vs h1 (by omega) (fun k hk=>?_)
 have hk' : k < ds.length:=by omega
 exact (h3 k hk').wk (hw.get k hk' hk)
end Go.Sx

namespace Go.Sx
variable {P : Program} {C : Ctx} {σ σ' σ1 : Sg} {a : Act} {w w' : World} {ρ : Nat -> Nat} {Fe Fe' Fb : Nat -> List Nat}
end Go.Sx

namespace Go.Sx
variable {P : Program} {C : Ctx} {σ σ' σ1 : Sg} {a : Act} {w w' : World} {ρ : Nat -> Nat} {Fe Fe' Fb : Nat -> List Nat}
theorem StW.takeX {S : List Nat} {t : Nat} {d : D} {v : Value} {F : List Nat} (h : StW C σ a w ρ Fe Fb) (ht : t < σ.n) (hst : t ∉ S) (hS : ∀ s ∈ S,∃ d0,σ.get s = some d0)
 (hw : Ext w w') (hF : F.Nodup) (hFs : ∀ b ∈ F,(∃ s ∈ S,b ∈ Fe s) ∨ w.heap.size <= b)
 (hv : SR w' ρ (gd C (upd (fun u=>if u ∈ S then [] else Fe u) t F) Fb) (fun id=>(σ.box id).isSome) (a.put (some t) v) t d F) :
 StW C ((killL σ S).set t d) (a.put (some t) v) w' ρ (upd (fun u=>if u ∈ S then [] else Fe u) t F) Fb:=by
 have hsz : t < a.tmps.size:=by rw [h.size]; exact ht
 let Fx : Nat -> List Nat:=upd (fun u=>if u ∈ S then [] else Fe u) t F
 have hFx : ∀ u,u ≠ t -> ∀ b ∈ Fx u,b ∈ Fe u /\ u ∉ S:=fun u hut b hb=>by
  simp only [Fx,upd_other hut] at hb
  by_cases hus : u ∈ S
  · simp [hus] at hb
  · simp only [hus,if_false] at hb; exact ⟨hb,hus⟩
 have hFt : Fx t = F:=by simp [Fx]
 have hlt:=h.lt
 have hh : ∀ b,b < w.heap.size -> w'.heap[b]? = w.heap[b]?:=hw.block
 have ho : ∀ b,own Fx Fb b -> own Fe Fb b ∨ w.heap.size <= b:=by
  rintro b (⟨u,hu⟩ | hid)
  · by_cases hut : u = t
    · subst hut; rw [hFt] at hu
      rcases hFs b hu with ⟨s,_,hs⟩ | hn
      · exact .inl (.inl ⟨s,hs⟩)
      · exact .inr hn
    · exact .inl (.inl ⟨u,(hFx u hut b hu).1⟩)
  · exact .inl (.inr hid)
 have hg : ∀ b,gd C Fe Fb b -> b < w.heap.size -> gd C Fx Fb b:=fun b hb hbl=>⟨hb.1,fun hc=>(ho b hc).elim hb.2 (fun h2=>by omega)⟩
 obtain ⟨hn,hbx⟩:=killL_n S σ
 have hbox : ∀ id,((killL σ S).set t d).box id = σ.box id:=fun id=>by
  show lk (killL σ S).bx id = _
  rw [hbx]; rfl
 have hLf : (fun id=>(((killL σ S).set t d).box id).isSome = true) = fun id=>(σ.box id).isSome = true:=by funext id; rw [hbox]
 have hnotF : ∀ u,u ≠ t -> ∀ b ∈ Fx u,b ∉ F:=fun u hut b hb hbF=>by
  obtain ⟨h1,h2⟩:=hFx u hut b hb
  rcases hFs b hbF with ⟨s,hs,h3⟩ | hn
  · exact h.dEE u s (fun e=>h2 (e ▸ hs)) b h1 h3
  · have:=hlt b (.inl ⟨u,h1⟩); omega
 refine {
  size:=?_
  defs:=h.defs
  pin:=fun id b hp=>by rw [hbox]; exact h.pin id b hp
  env:=fun u x hx=>?_
  envN:=fun u hu=>?_
  bx:=fun id x hx=>by rw [hLf]; exact (h.bx id x (by rw [<- hbox]; exact hx)).mono (fun b _ hb=>hh b hb) hg (fun i hi=>⟨hi,rfl⟩)
  bxN:=fun id hx=>h.bxN id (by rw [<- hbox]; exact hx)
  nodE:=fun u=>?_
  nodB:=h.nodB
  dEE:=fun u u' huu b hb hb'=>?_
  dEB:=fun u id b hb hb'=>?_
  dBB:=h.dBB
  new:=fun b hb=>?_
  kept:=fun b hb=>?_
  os:=hw.os.trans h.os
  tape:=hw.tape.trans h.tape
  output:=hw.output.trans h.output
  grown:=Nat.le_trans h.grown hw.size
  gl:=h.gl
  okN:=fun b hb=>h.okN b (Nat.le_trans hw.size hb)
  okO:=fun b hb=>(ho b hb).elim (h.okO b) (h.okN b) }
 · simp [Act.put,h.size,hn]
 · rw [hLf]
   rw [get_set] at hx
   by_cases hut : u = t
   · subst hut; simp at hx; subst hx
     simp only [upd_same]; exact hv
   · simp only [hut,if_false] at hx
     obtain ⟨d1,hd1,rfl⟩:=Option.map_eq_some_iff.1 hx
     rw [killL_get] at hd1
     by_cases hus : u ∈ S
     · simp only [hus,if_true,Option.some.injEq] at hd1
       subst hd1
       obtain ⟨d0,hd0⟩:=hS u hus
       obtain ⟨v0,hv0⟩:=(h.env u d0 hd0).there
       refine ⟨by simp [upd_other hut,hus],v0,by rw [put_get a t v u hsz]; simp [hut,hv0]⟩
     · simp only [hus,if_false] at hd1
       have hFu : upd (fun u=>if u ∈ S then [] else Fe u) t F u = Fe u:=by simp [upd_other hut,hus]
       rw [hFu]
       exact SR_other hut hsz (h.env u d1 hd1) (fun b _ hb=>hh b hb) hg (fun id hid=>⟨hid,rfl⟩) (fun id off v _ hc=>hw.cell hc)
 · rw [get_set] at hu
   by_cases hut : u = t
   · simp [hut] at hu
   · simp only [hut,if_false,Option.map_eq_none_iff] at hu
     rw [killL_get] at hu
     by_cases hus : u ∈ S
     · simp [hus] at hu
     · simp only [hus,if_false] at hu
       simp [upd_other hut,hus,h.envN u hu]
 · by_cases hut : u = t
   · subst hut; simpa using hF
   · simp only [upd_other hut]
     split
     · exact List.nodup_nil
     · exact h.nodE u
 · by_cases hut : u = t
   · subst hut
     have hb1 : b ∈ F:=by rw [<- hFt]; exact hb
     exact hnotF u' (fun e=>huu e.symm) b hb' hb1
   · by_cases hut' : u' = t
     · subst hut'
       have hb1 : b ∈ F:=by rw [<- hFt]; exact hb'
       exact hnotF u hut b hb hb1
     · exact h.dEE u u' huu b (hFx u hut b hb).1 (hFx u' hut' b hb').1
 · by_cases hut : u = t
   · subst hut
     have hb1 : b ∈ F:=by rw [<- hFt]; exact hb
     rcases hFs b hb1 with ⟨s,_,hs⟩ | hn
     · exact h.dEB s id b hs hb'
     · have:=hlt b (.inr ⟨id,hb'⟩); omega
   · exact h.dEB u id b (hFx u hut b hb).1 hb'
 · rcases ho b hb with h1 | h1
   · exact h.new b h1
   · intro hk
     have h2:=(h.kept b hk).2
     have h3:=h.grown
     omega
 · obtain ⟨h1,h2⟩:=h.kept b hb
   exact ⟨(hh b (Nat.lt_of_lt_of_le h2 h.grown)).trans h1,h2⟩
theorem fill_step {z i0 : Nat} {cs : Array Value} {v : Value} {xc : List Value} (hxc : v.cells.toList = xc) (hl : xc.length = z) (hk : i0 * z + z <= cs.size) :
 ∃ cs2 : Array Value,(∀ rest,Instr.fill (fun i=>some (i * z,z)) cs ((i0,v) :: rest) = Instr.fill (fun i=>some (i * z,z)) cs2 rest) /\ cs2.size = cs.size /\ (cs2.toList.drop (i0 * z)).take z = xc /\ cs2.toList.take (i0 * z) = cs.toList.take (i0 * z):=by
 have hsz : v.cells.size = z:=by rw [<- Array.length_toList,hxc,hl]
 have hfold:=foldl_set cs xc (i0 * z) 0 (by omega)
 simp only [Nat.add_zero] at hfold
 have hcs2 : (v.cells.zipIdx.foldl (fun (c : Array Value) (p : Value × Nat)=>c.setIfInBounds (i0 * z + p.2) p.1) cs).toList = cs.toList.take (i0 * z) ++ xc ++ cs.toList.drop (i0 * z + xc.length):=by
  rw [<- hfold,<- hxc,<- Array.foldl_toList]
  simp
 generalize hc2 : (v.cells.zipIdx.foldl (fun (c : Array Value) (p : Value × Nat)=>c.setIfInBounds (i0 * z + p.2) p.1) cs) = cs2 at hcs2
 refine ⟨cs2,fun rest=>?_, ?_, ?_, ?_⟩
 · simp only [Instr.fill]
   have hcond : ¬ (v.cells.size ≠ z ∨ i0 * z + v.cells.size > cs.size):=by rw [hsz]; simp; omega
   simp only [ne_eq,Bool.or_eq_true,decide_eq_true_eq]
   rw [if_neg (by simpa using hcond)]
   rw [hc2]
 · have:=congrArg List.length hcs2
   rw [splice_len _ _ _ (by simp; omega)] at this
   simpa using this
 · rw [hcs2,List.append_assoc,List.drop_left' (by simp; omega),List.take_append_of_le_length (by omega),List.take_of_length_le (by omega)]
 · rw [hcs2,List.append_assoc,List.take_left' (by simp; omega)]
inductive EvL (gl : List (Nat × D)) (σ : Sg) (z : Nat) : Nat -> List (Nat × Operand) -> List D -> List Nat -> Prop
 | nil {k : Nat} : EvL gl σ z k [] [] []
 | pur {k : Nat} {x : Operand} {d : D} {ps : List (Nat × Operand)} {ds : List D} {S : List Nat} (h : ev gl σ x = some d) (hp : d.pur = true) (hn : d.np = true) (hz : d.sz = z) (t : EvL gl σ z (k + 1) ps ds S) : EvL gl σ z k ((k,x) :: ps) (d :: ds) S
 | own {k s : Nat} {d : D} {ps : List (Nat × Operand)} {ds : List D} {S : List Nat} (h : σ.get s = some d) (hr : d.isRef = false) (hn : d.np = true) (hz : d.sz = z) (hs : S.contains s = false) (t : EvL gl σ z (k + 1) ps ds S) : EvL gl σ z k ((k,.tmp s) :: ps) (d :: ds) (s :: S)
theorem EvL.there {gl : List (Nat × D)} {z k : Nat} {ps : List (Nat × Operand)} {ds : List D} {S : List Nat} (h : EvL gl σ z k ps ds S) : ∀ s ∈ S,∃ d0,σ.get s = some d0:=by
 induction h with
 | nil=>intro s hs; cases hs
 | pur _ _ _ _ _ ih=>exact ih
 | own h _ _ _ _ _ ih=>
  intro s hs
  rcases List.mem_cons.1 hs with rfl | hs
  · exact ⟨_,h⟩
  · exact ih s hs
theorem EvL.fill (st : StW C σ a w ρ Fe Fb) {z k : Nat} {ps : List (Nat × Operand)} {ds : List D} {S : List Nat} (h : EvL C.gl σ z k ps ds S) :
 ∀ cs : Array Value,(k + ds.length) * z <= cs.size ->
  ∃ (out : Array Value) (Fs : Nat -> List Nat),Instr.fill (fun i=>some (i * z,z)) cs (ps.map (fun p=>(p.1,a.eval p.2))) = some out /\ out.size = cs.size /\ out.toList.take (k * z) = cs.toList.take (k * z) /\
   (∀ i (h : i < ds.length),Rc w ρ (gd C Fe Fb) (fun id=>(σ.box id).isSome = true) false ds[i] ((out.toList.drop ((k + i) * z)).take z) (Fs i)) /\
   (∀ i,i < ds.length -> (Fs i).Nodup /\ ∀ b ∈ Fs i,∃ s ∈ S,b ∈ Fe s) /\ (∀ i j,i < ds.length -> j < ds.length -> i ≠ j -> ∀ b,b ∈ Fs i -> b ∉ Fs j):=by
 have step : ∀ {k : Nat} {x : Operand} {d : D} {ps : List (Nat × Operand)} {ds : List D} {S : List Nat} {xc : List Value} {Fx : List Nat},(a.eval x).cells.toList = xc -> Rc w ρ (gd C Fe Fb) (fun id=>(σ.box id).isSome = true) false d xc Fx -> d.sz = z -> Fx.Nodup -> ∀ (T : List Nat),(∀ b ∈ Fx,∃ s ∈ T,b ∈ Fe s) -> (∀ s ∈ S,s ∈ T) -> (∀ b ∈ Fx,∀ s ∈ S,b ∉ Fe s) ->
  (∀ cs : Array Value,(k + 1 + ds.length) * z <= cs.size -> ∃ (out : Array Value) (Fs : Nat -> List Nat),Instr.fill (fun i=>some (i * z,z)) cs (ps.map (fun p=>(p.1,a.eval p.2))) = some out /\ out.size = cs.size /\ out.toList.take ((k + 1) * z) = cs.toList.take ((k + 1) * z) /\
   (∀ i (h : i < ds.length),Rc w ρ (gd C Fe Fb) (fun id=>(σ.box id).isSome = true) false ds[i] ((out.toList.drop ((k + 1 + i) * z)).take z) (Fs i)) /\
   (∀ i,i < ds.length -> (Fs i).Nodup /\ ∀ b ∈ Fs i,∃ s ∈ S,b ∈ Fe s) /\ (∀ i j,i < ds.length -> j < ds.length -> i ≠ j -> ∀ b,b ∈ Fs i -> b ∉ Fs j)) ->
  ∀ cs : Array Value,(k + (d :: ds).length) * z <= cs.size -> ∃ (out : Array Value) (Fs : Nat -> List Nat),Instr.fill (fun i=>some (i * z,z)) cs (((k,x) :: ps).map (fun p=>(p.1,a.eval p.2))) = some out /\ out.size = cs.size /\ out.toList.take (k * z) = cs.toList.take (k * z) /\
   (∀ i (h : i < (d :: ds).length),Rc w ρ (gd C Fe Fb) (fun id=>(σ.box id).isSome = true) false (d :: ds)[i] ((out.toList.drop ((k + i) * z)).take z) (Fs i)) /\
   (∀ i,i < (d :: ds).length -> (Fs i).Nodup /\ ∀ b ∈ Fs i,∃ s ∈ T,b ∈ Fe s) /\ (∀ i j,i < (d :: ds).length -> j < (d :: ds).length -> i ≠ j -> ∀ b,b ∈ Fs i -> b ∉ Fs j):=by
  intro k x d ps ds S xc Fx hxc hrc hz hnd T hFx hST hdis ih cs hs
  have hs1 : (k + 1 + ds.length) * z <= cs.size:=by
   rw [List.length_cons] at hs
   rw [show k + 1 + ds.length = k + (ds.length + 1) by omega]; exact hs
  have hkz : k * z + z <= cs.size:=by
   have:=Nat.le_trans (Nat.mul_le_mul_right z (show k + 1 <= k + 1 + ds.length by omega)) hs1
   rw [Nat.add_mul,Nat.one_mul] at this; exact this
  obtain ⟨cs2,e1,e2,e3,e4⟩:=fill_step (i0:=k) hxc (hrc.len.trans hz) hkz
  obtain ⟨out,Fs,q1,q2,q3,q4,q5,q6⟩:=ih cs2 (by rw [e2]; exact hs1)
  have hz1 : (k + 1) * z = k * z + z:=by rw [Nat.add_mul,Nat.one_mul]
  have hmid : (out.toList.drop (k * z)).take z = xc:=by
   have:=congrArg (List.drop (k * z)) q3
   rw [hz1,List.drop_take,List.drop_take,Nat.add_sub_cancel_left] at this
   rw [this]; exact e3
  have hpre : out.toList.take (k * z) = cs.toList.take (k * z):=by
   have:=congrArg (List.take (k * z)) q3
   rw [hz1,List.take_take,List.take_take,Nat.min_eq_left (by omega)] at this
   rw [this]; exact e4
  refine ⟨out,fun i=>match i with | 0=>Fx | i + 1=>Fs i, ?_,q2.trans e2,hpre, ?_, ?_, ?_⟩
  · rw [List.map_cons,e1]; exact q1
  · intro i hi
    cases i with
    | zero=>simp only [Nat.add_zero,List.getElem_cons_zero,hmid]; exact hrc
    | succ i=>
     simp only [List.getElem_cons_succ]
     have:=q4 i (by simpa using hi)
     rw [show k + 1 + i = k + (i + 1) by omega] at this
     exact this
  · intro i hi
    cases i with
    | zero=>exact ⟨hnd,hFx⟩
    | succ i=>
     obtain ⟨h1,h2⟩:=q5 i (by simpa using hi)
     exact ⟨h1,fun b hb=>by obtain ⟨s,hs,hb'⟩:=h2 b hb; exact ⟨s,hST s hs,hb'⟩⟩
  · intro i j hi hj hij b hb
    cases i with
    | zero=>cases j with
     | zero=>exact absurd rfl hij
     | succ j=>
      intro hb'
      obtain ⟨s,hs,h3⟩:=(q5 j (by simpa using hj)).2 b hb'
      exact hdis b hb s hs h3
    | succ i=>cases j with
     | zero=>
      intro hb'
      obtain ⟨s,hs,h3⟩:=(q5 i (by simpa using hi)).2 b hb
      exact hdis b hb' s hs h3
     | succ j=>exact q6 i j (by simpa using hi) (by simpa using hj) (by omega) b hb
 induction h with
 | nil=>intro cs _; exact ⟨cs,fun _=>[],rfl,rfl,rfl,fun i hi=>by simp at hi,fun i hi=>by simp at hi,fun i j hi=>by simp at hi⟩
 | @pur k x d ps ds S h hp hn hz t ih=>
  obtain ⟨xc,hxc,hrc⟩:=ev_cells st h hp
  exact step hxc (hrc.unflag hn) hz List.nodup_nil S (by simp) (fun s hs=>hs) (by simp) ih
 | @own k s d ps ds S h hr hn hz hs t ih=>
  obtain ⟨v,hv,hvr⟩:=(SR_plain hr).1 (st.env _ _ h)
  have hdead : d ≠ .dead:=by rintro rfl; simp [D.isRef] at hr
  have hrc:=(hvr.cells hdead).unflag hn
  have hs' : s ∉ S:=by intro hm; rw [List.contains_iff_mem.2 hm] at hs; cases hs
  exact step (x:=.tmp s) (by rw [eval_tmp hv]) hrc hz (st.nodE s) (s :: S) (fun b hb=>⟨s,by simp,hb⟩) (fun s' h'=>List.mem_cons_of_mem _ h') (fun b hb s' h'=>st.dEE s s' (fun e=>hs' (e ▸ h')) b hb) ih
theorem R.bslO {t e z bytes k : Nat} {ps : List (Nat × Operand)} {ds : List D} {S : List Nat} {ty rt : TypeId} {pos : String} {aft : Array Edge} {g : Option (Nat × Bool)} [hT : SlT P ty e] [hE : ElT P e z bytes]
 (hps : EvL C.gl σ z 0 ps ds S) (hk : ds.length = k) (hS : S.contains t = false) (ht : t < σ.n) (hsm : k * z <= 16777216) :
 OpS P C ⟨some t,.buildSlice ty k ps.toArray,rt,pos,aft,g⟩ σ ((killL σ S).set t (.sl (some e) z ds)):=by
 refine OpS.value fun a w ⟨ρ,Fe,Fb,st⟩=>?_
 obtain ⟨i,zv,hi,hsz,hby,hz,hzs,hpos,hone⟩:=hE.i
 subst hk
 have htS : t ∉ S:=by intro hm; rw [List.contains_iff_mem.2 hm] at hS; cases hS
 obtain ⟨out,Fs,q1,q2,_,q4,q5,q6⟩:=hps.fill st ((Array.range (ds.length * z)).map (zv.cells[· % zv.cells.size]!)) (by simp)
 simp only [Nat.zero_add] at q4
 have hml : ds.length <= maxLen:=by
  have : ds.length * 1 <= ds.length * z:=Nat.mul_le_mul_left _ hpos
  simp only [maxLen]; omega
 have hos : out.size = ds.length * z:=by rw [q2]; simp
 let F : List Nat:=w.heap.size :: (List.range ds.length).flatMap Fs
 have hin : ∀ b ∈ (List.range ds.length).flatMap Fs,∃ s ∈ S,b ∈ Fe s:=fun b hb=>by
  obtain ⟨j,hj,hx⟩:=List.mem_flatMap.1 hb
  exact (q5 j (List.mem_range.1 hj)).2 b hx
 have hlt:=st.lt
 have hF : F.Nodup:=by
  refine List.nodup_cons.2 ⟨fun hm=>?_,flat_nodup_mk (fun j hj=>(q5 j hj).1) (fun i j hi hj hij=>q6 i j hi hj hij)⟩
  obtain ⟨s,_,h2⟩:=hin _ hm
  have:=hlt _ (.inl ⟨s,h2⟩)
  omega
 have hFs : ∀ b ∈ F,(∃ s ∈ S,b ∈ Fe s) ∨ w.heap.size <= b:=fun b hb=>by
  rcases List.mem_cons.1 hb with rfl | hb
  · exact .inr (Nat.le_refl _)
  · exact .inl (hin b hb)
 have hgd : ∀ b,gd C Fe Fb b -> b < w.heap.size -> gd C (upd (fun u=>if u ∈ S then [] else Fe u) t F) Fb b:=fun b hb hbl=>⟨hb.1,fun hc=>hb.2 (by
  rcases hc with ⟨u,hu⟩ | hid
  · by_cases hut : u = t
    · subst hut
      rw [upd_same] at hu
      rcases hFs b hu with ⟨s,_,hs⟩ | hn
      · exact .inl ⟨s,hs⟩
      · omega
    · rw [upd_other hut] at hu
      by_cases hus : u ∈ S
      · simp [hus] at hu
      · simp only [hus,if_false] at hu; exact .inl ⟨u,hu⟩
  · exact .inr hid)⟩
 refine ⟨.slice (some ⟨w.heap.size,0,none⟩) ds.length ds.length,w.alloc (.cells out e), ?_,ρ,_,Fb,st.takeX ht htS hps.there (Ext.alloc w _) hF hFs ((SR_plain rfl).2 ⟨.slice (some ⟨w.heap.size,0,none⟩) ds.length ds.length,by rw [put_get a t _ t (by rw [st.size]; exact ht)]; simp, ?_⟩)⟩
 · unfold execOp
   have hps2 : (ps.toArray.map fun x=>(x.1,a.eval x.2)).toList = ps.map (fun p=>(p.1,a.eval p.2)):=by simp
   by_cases h0 : ds.length * z = 0
   · have q1':=q1
     simp only [h0] at q1'
     have e0 : (Array.range 0).map (fun x=>zv.cells[x % zv.cells.size]!) = (#[] : Array Value):=by simp [Array.range_zero']
     rw [e0] at q1'
     have e1 : Array.range 0 = #[]:=rfl
     simp [Instr.buildSlice,run_underlying hT.u,ElT.size (P:=P) (e:=e),h0,hps2,e1,q1',newRow,newObj,Sem.run]
   · simp [Instr.buildSlice,run_underlying hT.u,ElT.size (P:=P) (e:=e),h0,hps2,q1,newRow,newObj,Sem.run,zeroValue,typeInfo,hi,hz,show ¬ (16777216 < ds.length * z) by omega]
 · simp only [VR,D.isAgg,Bool.false_eq_true,if_false]
   have hcell : ∀ u ∈ out.toList,u.oneCell' = true:=by
    intro u hu
    obtain ⟨j,hj,rfl⟩:=List.mem_iff_getElem.1 hu
    have hj1 : j < ds.length * z:=by simpa [hos] using hj
    have hjz : j / z < ds.length:=Nat.div_lt_of_lt_mul (by rw [Nat.mul_comm]; exact hj1)
    have hdm:=Nat.div_add_mod j z
    have hmod:=Nat.mod_lt j hpos
    rw [Nat.mul_comm] at hdm
    refine (q4 (j / z) hjz).one _ (List.mem_iff_getElem?.2 ⟨j % z, ?_⟩)
    rw [List.getElem?_take,if_pos hmod,List.getElem?_drop,hdm,List.getElem?_eq_getElem hj]
   exact .slO w.heap.size out e ds.length z ds Fs (heap_alloc_new w _) (Nat.le_refl _) hml hos hcell (fun i hi=>(q4 i hi).mono (fun b hb hbl=>heap_alloc_old w _ hbl) hgd (fun id hid=>⟨hid,rfl⟩))
end Go.Sx

namespace Go.Sx
variable {pos : String} {aft : Array Edge} {g : Option (Nat × Bool)}
variable {P : Program} {C : Ctx} {σ σ' σ1 : Sg} {a : Act} {w w' : World} {ρ : Nat -> Nat} {Fe Fe' Fb : Nat -> List Nat}
theorem StW.takeY {S : List Nat} {t : Nat} {d : D} {v : Value} {F : List Nat} (h : StW C σ a w ρ Fe Fb) (ht : t < σ.n) (hst : t ∉ S) (hS : ∀ s ∈ S,∃ d0,σ.get s = some d0)
 (hos : w'.os = w.os) (htape : TpR w' w) (hout : w'.output = w.output) (hsize : w.heap.size <= w'.heap.size)
 (hblk : ∀ b,b < w.heap.size -> (∀ s ∈ S,b ∉ Fe s) -> w'.heap[b]? = w.heap[b]?) (hF : F.Nodup) (hFs : ∀ b ∈ F,(∃ s ∈ S,b ∈ Fe s) ∨ w.heap.size <= b)
 (hv : SR w' ρ (gd C (upd (fun u=>if u ∈ S then [] else Fe u) t F) Fb) (fun id=>(σ.box id).isSome) (a.put (some t) v) t d F) :
 StW C ((killL σ S).set t d) (a.put (some t) v) w' ρ (upd (fun u=>if u ∈ S then [] else Fe u) t F) Fb:=by
 have hsz : t < a.tmps.size:=by rw [h.size]; exact ht
 let Fx : Nat -> List Nat:=upd (fun u=>if u ∈ S then [] else Fe u) t F
 have hFx : ∀ u,u ≠ t -> ∀ b ∈ Fx u,b ∈ Fe u /\ u ∉ S:=fun u hut b hb=>by
  simp only [Fx,upd_other hut] at hb
  by_cases hus : u ∈ S
  · simp [hus] at hb
  · simp only [hus,if_false] at hb; exact ⟨hb,hus⟩
 have hFt : Fx t = F:=by simp [Fx]
 have hlt:=h.lt
 have hh : ∀ b,gd C Fe Fb b -> b < w.heap.size -> w'.heap[b]? = w.heap[b]?:=fun b hb hl=>hblk b hl (fun s _ hm=>hb.2 (.inl ⟨s,hm⟩))
 have hcc : ∀ id off v,(σ.box id).isSome = true -> w.cell? ⟨ρ id,off,none⟩ = some v -> w'.cell? ⟨ρ id,off,none⟩ = some v:=by
  intro id off v hid hc
  have hl:=block_lt_of_cell hc
  rw [<- hc]
  refine World.cell?_of_block (hblk _ hl ?_)
  intro s _ hm
  cases hb : σ.box id with
  | none=>simp [hb] at hid
  | some x=>exact h.dEB s id _ hm (h.bx id x hb).mem
 have ho : ∀ b,own Fx Fb b -> own Fe Fb b ∨ w.heap.size <= b:=by
  rintro b (⟨u,hu⟩ | hid)
  · by_cases hut : u = t
    · subst hut; rw [hFt] at hu
      rcases hFs b hu with ⟨s,_,hs⟩ | hn
      · exact .inl (.inl ⟨s,hs⟩)
      · exact .inr hn
    · exact .inl (.inl ⟨u,(hFx u hut b hu).1⟩)
  · exact .inl (.inr hid)
 have hg : ∀ b,gd C Fe Fb b -> b < w.heap.size -> gd C Fx Fb b:=fun b hb hbl=>⟨hb.1,fun hc=>(ho b hc).elim hb.2 (fun h2=>by omega)⟩
 obtain ⟨hn,hbx⟩:=killL_n S σ
 have hbox : ∀ id,((killL σ S).set t d).box id = σ.box id:=fun id=>by
  show lk (killL σ S).bx id = _
  rw [hbx]; rfl
 have hLf : (fun id=>(((killL σ S).set t d).box id).isSome = true) = fun id=>(σ.box id).isSome = true:=by funext id; rw [hbox]
 have hnotF : ∀ u,u ≠ t -> ∀ b ∈ Fx u,b ∉ F:=fun u hut b hb hbF=>by
  obtain ⟨h1,h2⟩:=hFx u hut b hb
  rcases hFs b hbF with ⟨s,hs,h3⟩ | hn
  · exact h.dEE u s (fun e=>h2 (e ▸ hs)) b h1 h3
  · have:=hlt b (.inl ⟨u,h1⟩); omega
 refine {
  size:=?_
  defs:=h.defs
  pin:=fun id b hp=>by rw [hbox]; exact h.pin id b hp
  env:=fun u x hx=>?_
  envN:=fun u hu=>?_
  bx:=fun id x hx=>by rw [hLf]; exact (h.bx id x (by rw [<- hbox]; exact hx)).mono (fun b hb hl=>hb.elim (fun hb=>hh b hb hl) (fun hb=>hblk b hl (fun s _ hm=>h.dEB s id b hm hb))) hg (fun i hi=>⟨hi,rfl⟩)
  bxN:=fun id hx=>h.bxN id (by rw [<- hbox]; exact hx)
  nodE:=fun u=>?_
  nodB:=h.nodB
  dEE:=fun u u' huu b hb hb'=>?_
  dEB:=fun u id b hb hb'=>?_
  dBB:=h.dBB
  new:=fun b hb=>?_
  kept:=fun b hb=>?_
  os:=hos.trans h.os
  tape:=htape.trans h.tape
  output:=hout.trans h.output
  grown:=Nat.le_trans h.grown hsize
  gl:=h.gl
  okN:=fun b hb=>h.okN b (Nat.le_trans hsize hb)
  okO:=fun b hb=>(ho b hb).elim (h.okO b) (h.okN b) }
 · simp [Act.put,h.size,hn]
 · rw [hLf]
   rw [get_set] at hx
   by_cases hut : u = t
   · subst hut; simp at hx; subst hx
     simp only [upd_same]; exact hv
   · simp only [hut,if_false] at hx
     obtain ⟨d1,hd1,rfl⟩:=Option.map_eq_some_iff.1 hx
     rw [killL_get] at hd1
     by_cases hus : u ∈ S
     · simp only [hus,if_true,Option.some.injEq] at hd1
       subst hd1
       obtain ⟨d0,hd0⟩:=hS u hus
       obtain ⟨v0,hv0⟩:=(h.env u d0 hd0).there
       refine ⟨by simp [upd_other hut,hus],v0,by rw [put_get a t v u hsz]; simp [hut,hv0]⟩
     · simp only [hus,if_false] at hd1
       have hFu : upd (fun u=>if u ∈ S then [] else Fe u) t F u = Fe u:=by simp [upd_other hut,hus]
       rw [hFu]
       exact SR_other hut hsz (h.env u d1 hd1) (fun b hb hl=>hb.elim (fun hb=>hh b hb hl) (fun hb=>hblk b hl (fun s hs hm=>h.dEE u s (fun e=>hus (e ▸ hs)) b hb hm))) hg (fun id hid=>⟨hid,rfl⟩) hcc
 · rw [get_set] at hu
   by_cases hut : u = t
   · simp [hut] at hu
   · simp only [hut,if_false,Option.map_eq_none_iff] at hu
     rw [killL_get] at hu
     by_cases hus : u ∈ S
     · simp [hus] at hu
     · simp only [hus,if_false] at hu
       simp [upd_other hut,hus,h.envN u hu]
 · by_cases hut : u = t
   · subst hut; simpa using hF
   · simp only [upd_other hut]
     split
     · exact List.nodup_nil
     · exact h.nodE u
 · by_cases hut : u = t
   · subst hut
     have hb1 : b ∈ F:=by rw [<- hFt]; exact hb
     exact hnotF u' (fun e=>huu e.symm) b hb' hb1
   · by_cases hut' : u' = t
     · subst hut'
       have hb1 : b ∈ F:=by rw [<- hFt]; exact hb'
       exact hnotF u hut b hb hb1
     · exact h.dEE u u' huu b (hFx u hut b hb).1 (hFx u' hut' b hb').1
 · by_cases hut : u = t
   · subst hut
     have hb1 : b ∈ F:=by rw [<- hFt]; exact hb
     rcases hFs b hb1 with ⟨s,_,hs⟩ | hn
     · exact h.dEB s id b hs hb'
     · have:=hlt b (.inr ⟨id,hb'⟩); omega
   · exact h.dEB u id b (hFx u hut b hb).1 hb'
 · rcases ho b hb with h1 | h1
   · exact h.new b h1
   · intro hk
     have h2:=(h.kept b hk).2
     have h3:=h.grown
     omega
 · obtain ⟨h1,h2⟩:=h.kept b hb
   exact ⟨(hblk b (Nat.lt_of_lt_of_le h2 h.grown) (fun s _ hm=>h.new b (.inl ⟨s,hm⟩) hb)).trans h1,h2⟩
theorem src_own {G L : Nat -> Prop} {e z : Nat} {l : List D} {v : Value} {F : List Nat} (h : Rc w ρ G L true (.sl (some e) z l) [v] F) (hF : F.Nodup) :
 ∃ (base : Option Addr) (cap : Nat) (news : List Value) (Fs2 : Nat -> List Nat),v = .slice base l.length cap /\ ((base = none /\ l = [] /\ cap = 0) ∨ ∃ a,base = some a /\ ∀ j u,news[j]? = some u -> w.cell? (a.add j) = some u) /\ news.length = l.length * z /\ (∀ u ∈ news,u.oneCell' = true) /\
  (∀ j (h : j < l.length),Rc w ρ G L false l[j] ((news.drop (j * z)).take z) (Fs2 j)) /\ ((List.range l.length).flatMap Fs2).Nodup /\ ∀ b ∈ (List.range l.length).flatMap Fs2,b ∈ F:=by
 generalize hv : [v] = cv at h
 cases h with
 | slN=>cases hv; exact ⟨none,0,[],fun _=>[],rfl,.inl ⟨rfl,rfl,rfl⟩,by simp,by simp,fun j hj=>by simp at hj,by simp,by simp⟩
 | slE _ _ a=>cases hv; exact ⟨some a,0,[],fun _=>[],rfl,.inr ⟨a,rfl,by simp⟩,by simp,by simp,fun j hj=>by simp at hj,by simp,by simp⟩
 | slO b cs e cap z l Fs hb hc hm hs ho hr=>
  cases hv
  have hsz : l.length * z <= cs.size:=by rw [hs]; exact Nat.mul_le_mul_right z hc
  have hl : (cs.toList.take (l.length * z)).length = l.length * z:=by simp; omega
  refine ⟨some ⟨b,0,none⟩,cap,cs.toList.take (l.length * z),Fs,rfl,.inr ⟨_,rfl,fun j u hu=>?_⟩,hl,fun u hu=>ho u (List.mem_of_mem_take hu),fun j hj=>?_,(List.nodup_cons.1 hF).2,fun b' hb'=>List.mem_cons_of_mem _ hb'⟩
  · rw [add_lit,cell_of_row w b _ cs e _ hb]
    rw [List.getElem?_take] at hu
    split at hu
    · simpa using hu
    · cases hu
  · have h1 : j * z + z <= l.length * z:=by
     have:=Nat.mul_le_mul_right z (show j + 1 <= l.length by omega)
     rw [Nat.add_mul] at this; omega
    have h2 : ((cs.toList.take (l.length * z)).drop (j * z)).take z = (cs.toList.drop (j * z)).take z:=by
     rw [List.drop_take,List.take_take,Nat.min_eq_left (by omega)]
    rw [h2]
    exact hr j hj
theorem R.appO2 {s s0 s1 t e e1 z bytes : Nat} {l l' l2 : List D} {ty rt : TypeId} [hT : SlT P ty e] [hE : ElT P e z bytes]
 (ho : ownr σ s s0) (hs : σ.get s0 = some (.sl (some e) z l)) (hs1 : σ.get s1 = some (.sl (some e1) z l')) (hne : Nat.beq s0 s1 = false) (he : l ++ l' = l2) (hn : l.length + l'.length <= 1073741824) (ht : t < σ.n) (hst : [s0,s1].contains t = false) (hby : bytes <= 131072) :
 OpS P C ⟨some t,.call { callee:=.builtin .append,args:=#[.tmp s,.tmp s1],argTypes:=#[ty,ty] },rt,pos,aft,g⟩ σ ((killL σ [s0,s1]).set t (.sl (some e) z l2)):=by
 subst he
 have hne' : s0 ≠ s1:=fun e=>by rw [e] at hne; simp at hne
 have htS : t ∉ [s0,s1]:=by intro hm; rw [List.contains_iff_mem.2 hm] at hst; cases hst
 refine OpS.value fun a w ⟨ρ,Fe,Fb,st⟩=>?_
 obtain ⟨v,hv,hv0,hr⟩:=ownr_val st ho hs
 obtain ⟨v1,hv1,_,hr1⟩:=ownr_val st (.inl rfl) hs1
 obtain ⟨base,cap,news,Fs2,rfl,q1,q2,q3,q4,q5,q6⟩:=src_own hr1 (st.nodE s1)
 obtain ⟨f1,f2⟩:=fits hby hn
 obtain ⟨v',w',F',hrun,ht',hnd,hsub,hres⟩:=app_run (P:=P) (t:=ty) (e:=e) (bytes:=bytes) (ty:=rt) (Fs2:=Fs2) hr (.inr rfl) (st.nodE s0) q1 q2 q3 q4 q5 (fun b hb hb'=>st.dEE s1 s0 (fun e=>hne' e.symm) b (q6 b hb) hb') (fun b hb hm=>hb.2 (.inl ⟨s0,hm⟩)) f1 f2
 have hFs : ∀ b ∈ F',(∃ s ∈ [s0,s1],b ∈ Fe s) ∨ w.heap.size <= b:=fun b hb=>by
  rcases hsub b hb with h | h | h
  · exact .inl ⟨s0,by simp,h⟩
  · exact .inl ⟨s1,by simp,q6 b h⟩
  · exact .inr h
 have hthere : ∀ u ∈ [s0,s1],∃ d0,σ.get u = some d0:=fun u hu=>by
  rcases List.mem_cons.1 hu with rfl | hu
  · exact ⟨_,hs⟩
  · rw [List.mem_singleton.1 hu]; exact ⟨_,hs1⟩
 refine ⟨v',w', ?_,ρ,_,Fb,st.takeY ht htS hthere ht'.os ht'.tape ht'.output ht'.size (fun b hb hnb=>ht'.blk b hb (hnb s0 (by simp))) hnd hFs ((SR_plain rfl).2 ⟨v',by rw [put_get a t _ t (by rw [st.size]; exact ht)]; simp, ?_⟩)⟩
 · unfold execOp
   simp [resolve,invoke,builtin,eval_tmp hv,eval_tmp hv1,hrun]
 · simp only [VR,D.isAgg,Bool.false_eq_true,if_false]
   refine hres _ (fun b hb hl=>⟨hb.1,fun hc=>?_⟩)
   rcases hc with ⟨u,hu⟩ | hid
   · by_cases hut : u = t
     · subst hut
       rw [upd_same] at hu
       rcases hFs b hu with ⟨s',_,h⟩ | h
       · exact hb.2 (.inl ⟨s',h⟩)
       · omega
     · rw [upd_other hut] at hu
       by_cases hus : u ∈ [s0,s1]
       · simp only [hus,if_true] at hu; cases hu
       · simp only [hus,if_false] at hu; exact hb.2 (.inl ⟨u,hu⟩)
   · exact hb.2 (.inr hid)
theorem R.appBP2 {s s1 id off t e e1 z bytes : Nat} {path : List Nat} {d0 d0' : D} {l l' l2 : List D} {ty rt : TypeId} [hT : SlT P ty e] [hE : ElT P e z bytes]
 (h : σ.get s = some (.alb id off path)) (hb : σ.box id = some (.var d0)) (hl : d0.loc path = some (off,.sl (some e) z l)) (hna : d0.noArr path = true) (hu : d0.upd path .dead = some d0')
 {τ : Sg} (hτ : (σ.putB id (.var d0')).upd s (.sl (some e) z l) = τ) (hs : τ.get s = some (.sl (some e) z l)) (hs1 : τ.get s1 = some (.sl (some e1) z l')) (hne : Nat.beq s s1 = false)
 (he : l ++ l' = l2) (hn : l.length + l'.length <= 1073741824) (ht : t < σ.n) (hst : [s,s1].contains t = false) (hby : bytes <= 131072) :
 OpS P C ⟨some t,.call { callee:=.builtin .append,args:=#[.tmp s,.tmp s1],argTypes:=#[ty,ty] },rt,pos,aft,g⟩ σ ((killL τ [s,s1]).set t (.sl (some e) z l2)):=by
 subst hτ
 exact OpS.pre (fun a w hs=>St.takeP h hb hl hna hu hs) (R.appO2 (.inl rfl) hs hs1 hne he hn ht hst hby)
end Go.Sx

namespace Go.Sx
variable {P : Program} {C : Ctx} {Q : Exit -> Sg -> Prop} {σ σ' σ1 : Sg} {a : Act} {w w' : World} {ρ : Nat -> Nat} {Fe Fe' Fb : Nat -> List Nat} {ops : Array Oper}
theorem R.extO {s t k : Nat} {ds ds' : List D} {d : D} {rt : TypeId} {pos : String} {aft : Array Edge} {g : Option (Nat × Bool)}
 (h : σ.get s = some (.tup ds)) (hk : ds[k]? = some d) (hr : d.isRef = false) (hds : ds.set k .dead = ds') (hp : ds'.all (fun x=>x.pur || x.isRef) = true) (hst : Nat.beq t s = false) (ht : t < σ.n) :
 OpS P C ⟨some t,.extract (.tmp s) k,rt,pos,aft,g⟩ σ (((killL σ [s]).set t d).upd s (.tup ds')):=by
 subst hds
 have hne : t ≠ s:=fun e=>by rw [e] at hst; simp at hst
 refine OpS.value fun a w ⟨ρ,Fe,Fb,st⟩=>?_
 obtain ⟨vs,Fs,h1,h2,h3,h4⟩:=st.env s _ h
 obtain ⟨hkl,hkd⟩:=List.getElem?_eq_some_iff.1 hk
 have hv : vs[k]? = some (vs.getD k undef):=by
  have : k < vs.length:=by omega
  rw [List.getD_eq_getElem?_getD,List.getElem?_eq_getElem this]; rfl
 rcases h4 k hkl with ⟨h5,_⟩ | ⟨h5,h6⟩
 · rw [hkd] at h5; rw [h5] at hr; cases hr
 · rw [hkd] at h6
   have hsub : ∀ b ∈ Fs k,b ∈ Fe s:=fun b hb=>by rw [h3]; exact List.mem_flatMap.2 ⟨k,List.mem_range.2 hkl,hb⟩
   have hnd : (Fs k).Nodup:=by
    have:=st.nodE s
    rw [h3] at this
    exact (flat_nodup this).1 k hkl
   have hgd : ∀ b,gd C Fe Fb b -> gd C (upd (fun u=>if u ∈ [s] then [] else Fe u) t (Fs k)) Fb b:=fun b hb=>⟨hb.1,fun hc=>hb.2 (by
    rcases hc with ⟨u,hu⟩ | hid
    · by_cases hut : u = t
      · subst hut; rw [upd_same] at hu; exact .inl ⟨s,hsub b hu⟩
      · rw [upd_other hut] at hu
        by_cases hus : u ∈ [s]
        · simp only [hus,if_true] at hu; cases hu
        · simp only [hus,if_false] at hu; exact .inl ⟨u,hu⟩
    · exact .inr hid)⟩
   have hput : (a.put (some t) (vs.getD k undef)).tmps[t]? = some (vs.getD k undef):=by rw [put_get a t _ t (by rw [st.size]; exact ht)]; simp
   have st2:=st.takeL (S:=[s]) (t:=t) (d:=d) (v:=vs.getD k undef) (F:=Fs k) ht (by simpa using hne) (fun u hu=>by rw [List.mem_singleton.1 hu]; exact ⟨_,h⟩) hnd (fun b hb=>⟨s,by simp,hsub b hb⟩)
    ((SR_plain hr).2 ⟨_,hput,h6.mono (fun _ _ _=>rfl) (fun b hb _=>hgd b hb) (fun id hid=>⟨hid,rfl⟩)⟩)
   have hgs : ((killL σ [s]).set t d).get s = some .dead:=by
    rw [get_set,if_neg (fun e=>hne e.symm),killL_get]
    simp [scrub]
   have hFs0 : upd (fun u=>if u ∈ [s] then [] else Fe u) t (Fs k) s = []:=by rw [upd_other (fun e=>hne e.symm)]; simp
   have st3:=st2.turn (s:=s) (d':=.tup (ds.set k .dead)) (F:=[]) hgs rfl ⟨rfl,Nat.le_refl _⟩ rfl (Nat.le_refl _) (fun _ _ _=>rfl) List.nodup_nil (by simp) (by
    refine ⟨vs,fun _=>[],by rw [put_get a t _ s (by rw [st.size]; exact ht)]; simp [show ¬ s = t from fun e=>hne e.symm,h1],by rw [h2]; simp,(flat0 _).symm,fun j hj=>?_⟩
    have hj0 : j < ds.length:=by simpa using hj
    by_cases hjk : k = j
    · subst hjk; left; exact ⟨by simp,rfl⟩
    · have e1 : (ds.set k .dead)[j] = ds[j]:=by rw [List.getElem_set]; simp [hjk]
      have e2:=List.all_eq_true.1 hp _ (List.getElem_mem hj)
      rw [e1] at e2 ⊢
      rcases h4 j hj0 with h7 | ⟨h7,h8⟩
      · exact .inl ⟨h7.1,rfl⟩
      · right
        have hpj : ds[j].pur = true:=by simpa [h7] using e2
        have hF:=h8.pur hpj
        rw [hF] at h8
        refine ⟨h7,h8.mono (fun _ _ _=>rfl) (fun b hb _=>⟨hb.1,fun hc=>(hgd b hb).2 ?_⟩) (fun id hid=>⟨?_,rfl⟩)⟩
        · rcases hc with ⟨u,hu⟩ | hid
          · by_cases hus : u = s
            · subst hus; rw [upd_same] at hu; cases hu
            · rw [upd_other hus] at hu; exact .inl ⟨u,hu⟩
          · exact .inr hid
        · have : ((killL σ [s]).set t d).box id = σ.box id:=by
           show lk (killL σ [s]).bx id = _
           rw [(killL_n [s] σ).2]; rfl
          rw [this]; exact hid)
   refine ⟨vs.getD k undef,w, ?_,ρ,_,Fb,st3⟩
   clear st3 st2 hput h6
   generalize vs.getD k undef = x at hv
   have hx : vs.toArray[k]? = some x:=by rw [List.getElem?_toArray]; exact hv
   unfold execOp
   simp only [Instr.extract,eval_tmp h1,hx,Sem.run_bind,Sem.run_pure,Result.andThen_ok]
theorem W.wkS {c : Code} {s : Nat} {d d' : D} (h : σ.get s = some d) (hr : d.isRef = false) (hr' : d'.isRef = false) (hw : Wk d d') (k : W P C c Q (σ.upd s d')) : W P C c Q σ:=by
 intro a w ⟨ρ,Fe,Fb,st⟩
 obtain ⟨v,hv,hvr⟩:=(SR_plain hr).1 (st.env _ _ h)
 have hgd : ∀ b,gd C Fe Fb b -> gd C (Go.Sx.upd Fe s (Fe s)) Fb b:=fun b hb=>⟨hb.1,fun hc=>hb.2 (hc.imp (fun ⟨u,hu⟩=>⟨u,by
  by_cases hus : u = s
  · subst hus; rwa [upd_same] at hu
  · rwa [upd_other hus] at hu⟩) id)⟩
 refine k a w ⟨ρ,_,Fb,st.turn (F:=Fe s) h rfl ⟨rfl,Nat.le_refl _⟩ rfl (Nat.le_refl _) (fun _ _ _=>rfl) (st.nodE s) (fun b hb=>.inl hb) ((SR_plain hr').2 ⟨v,hv, ?_⟩)⟩
 have h2:=hvr.mono (w':=w) (ρ':=ρ) (G':=gd C (Go.Sx.upd Fe s (Fe s)) Fb) (L':=fun id=>(σ.box id).isSome) (fun _ _ _=>rfl) (fun b hb _=>hgd b hb) (fun id hid=>⟨hid,rfl⟩)
 unfold VR at h2 ⊢
 rw [hw.isAgg]
 cases hd : d.isAgg <;> simp only [hd,if_true,if_false,Bool.false_eq_true] at h2 ⊢
 · exact h2.wk hw
 · obtain ⟨cs,rfl,h2⟩:=h2; exact ⟨cs,rfl,h2.wk hw⟩
theorem R.wkT {o : Oper} {τ : Sg} {t : Nat} {r r' : D} (h : OpS P C o σ (τ.set t r)) (hr : r.isRef = false) (hr' : r'.isRef = false) (he : Wk r r') : OpS P C o σ (τ.set t r'):=by
 intro a w hs K Q hK
 refine h a w hs K Q fun a' w' hs'=>hK a' w' ?_
 have h1 : (τ.set t r).get t = some r:=by rw [get_set]; simp
 obtain ⟨ρ,Fe,Fb,st⟩:=hs'
 obtain ⟨v,hv,hvr⟩:=(SR_plain hr).1 (st.env _ _ h1)
 have hgd : ∀ b,gd C Fe Fb b -> gd C (Go.Sx.upd Fe t (Fe t)) Fb b:=fun b hb=>⟨hb.1,fun hc=>hb.2 (hc.imp (fun ⟨u,hu⟩=>⟨u,by
  by_cases hus : u = t
  · subst hus; rwa [upd_same] at hu
  · rwa [upd_other hus] at hu⟩) id)⟩
 have st2 : St C ((τ.set t r).upd t r') a' w':=by
  refine ⟨ρ,_,Fb,st.turn (F:=Fe t) h1 rfl ⟨rfl,Nat.le_refl _⟩ rfl (Nat.le_refl _) (fun _ _ _=>rfl) (st.nodE t) (fun b hb=>.inl hb) ((SR_plain hr').2 ⟨v,hv, ?_⟩)⟩
  have h2:=hvr.mono (w':=w') (ρ':=ρ) (G':=gd C (Go.Sx.upd Fe t (Fe t)) Fb) (L':=fun id=>((τ.set t r).box id).isSome) (fun _ _ _=>rfl) (fun b hb _=>hgd b hb) (fun id hid=>⟨hid,rfl⟩)
  unfold VR at h2 ⊢
  rw [he.isAgg]
  cases hd : r.isAgg <;> simp only [hd,if_true,if_false,Bool.false_eq_true] at h2 ⊢
  · exact h2.wk he
  · obtain ⟨cs,rfl,h2⟩:=h2; exact ⟨cs,rfl,h2.wk he⟩
 refine st2.weaken rfl rfl fun u d hd=>?_
 rw [get_upd,get_set]
 rw [get_set] at hd
 by_cases hu : u = t
 · subst hu; simpa using hd
 · simpa [hu] using hd
end Go.Sx

namespace Go.Sx
open Go.Proofs Go.Proofs.Try
set_option maxRecDepth 100000
instance : ZrT prog 1 (.nilf):=⟨_,_,O,O,by decide,O⟩
instance : IkT prog 2 .i64:=⟨O⟩
instance : ZrT prog 2 (.int 0):=⟨_,_,O,O,by decide,O⟩
instance : LdT prog 3 1 false:=⟨_,_,O,O,O,O⟩
instance : ElT prog 3 1 8:=⟨_,_,O,O,O,O,O,by decide,O⟩
instance : IkT prog 3 .i64:=⟨O⟩
instance : ZrT prog 3 (.int 0):=⟨_,_,O,O,by decide,O⟩
instance : BoT prog 4:=⟨O⟩
instance : ZrT prog 4 (.bool false):=⟨_,_,O,O,by decide,O⟩
instance : LdT prog 5 1 false:=⟨_,_,O,O,O,O⟩
instance : ElT prog 5 1 1:=⟨_,_,O,O,O,O,O,by decide,O⟩
instance : IkT prog 5 .u8:=⟨O⟩
instance : ZrT prog 5 (.u8 0):=⟨_,_,O,O,by decide,O⟩
instance : IkT prog 6 .u8:=⟨O⟩
instance : ZrT prog 6 (.u8 0):=⟨_,_,O,O,by decide,O⟩
instance : ZrT prog 7 (.agg [.int 0,.int 0,.bool false,.u8 0]):=⟨_,_,O,O,by decide,O⟩
instance : BsT prog 7 ([.int 0,.int 0,.bool false,.u8 0]):=⟨_,_,_,O,O,O,O,by decide⟩
instance : ZrT prog 8 (.agg [.int 0,.int 0,.bool false,.u8 0]):=⟨_,_,O,O,by decide,O⟩
instance : BsT prog 8 ([.int 0,.int 0,.bool false,.u8 0]):=⟨_,_,_,O,O,O,O,by decide⟩
instance : StT prog 9:=⟨O⟩
instance : ZrT prog 9 (.str []):=⟨_,_,O,O,by decide,O⟩
instance : StT prog 10:=⟨O⟩
instance : ZrT prog 10 (.str []):=⟨_,_,O,O,by decide,O⟩
instance : StT prog 11:=⟨O⟩
instance : ZrT prog 11 (.str []):=⟨_,_,O,O,by decide,O⟩
instance : IkT prog 12 .u64:=⟨O⟩
instance : ZrT prog 12 (.u64 0):=⟨_,_,O,O,by decide,O⟩
instance : ZrT prog 13 (.agg [.str [],.u64 0]):=⟨_,_,O,O,by decide,O⟩
instance : BsT prog 13 ([.str [],.u64 0]):=⟨_,_,_,O,O,O,O,by decide⟩
instance : ZrT prog 14 (.agg [.str [],.u64 0]):=⟨_,_,O,O,by decide,O⟩
instance : BsT prog 14 ([.str [],.u64 0]):=⟨_,_,_,O,O,O,O,by decide⟩
instance : ZrT prog 15 (.nilp):=⟨_,_,O,O,by decide,O⟩
instance : ZrT prog 17 (.nilp):=⟨_,_,O,O,by decide,O⟩
instance : ZrT prog 18 (.agg [.nilp]):=⟨_,_,O,O,by decide,O⟩
instance : BsT prog 18 ([.nilp]):=⟨_,_,_,O,O,O,O,by decide⟩
instance : ZrT prog 19 (.agg [.nilp]):=⟨_,_,O,O,by decide,O⟩
instance : BsT prog 19 ([.nilp]):=⟨_,_,_,O,O,O,O,by decide⟩
instance : IkT prog 21 .i32:=⟨O⟩
instance : ZrT prog 21 (.ik .i32 0):=⟨_,_,O,O,by decide,O⟩
instance : SlT prog 22 67:=⟨O⟩
instance : ZrT prog 22 (.nils):=⟨_,_,O,O,by decide,O⟩
instance : SlT prog 23 70:=⟨O⟩
instance : ZrT prog 23 (.nils):=⟨_,_,O,O,by decide,O⟩
instance : LdT prog 24 1 false:=⟨_,_,O,O,O,O⟩
instance : ElT prog 24 1 24:=⟨_,_,O,O,O,O,O,by decide,O⟩
instance : SlT prog 24 5:=⟨O⟩
instance : ZrT prog 24 (.nils):=⟨_,_,O,O,by decide,O⟩
instance : LdT prog 25 1 false:=⟨_,_,O,O,O,O⟩
instance : IkT prog 25 .u64:=⟨O⟩
instance : ZrT prog 25 (.u64 0):=⟨_,_,O,O,by decide,O⟩
instance : LdT prog 26 1 false:=⟨_,_,O,O,O,O⟩
instance : ElT prog 26 1 4:=⟨_,_,O,O,O,O,O,by decide,O⟩
instance : IkT prog 26 .u32:=⟨O⟩
instance : ZrT prog 26 (.u32 0):=⟨_,_,O,O,by decide,O⟩
instance : LdT prog 27 1 false:=⟨_,_,O,O,O,O⟩
instance : SlT prog 27 46:=⟨O⟩
instance : ZrT prog 27 (.nils):=⟨_,_,O,O,by decide,O⟩
instance : LdT prog 28 1 false:=⟨_,_,O,O,O,O⟩
instance : SlT prog 28 48:=⟨O⟩
instance : ZrT prog 28 (.nils):=⟨_,_,O,O,by decide,O⟩
instance : ZrT prog 29 (.agg [.u32 0,.nils,.nils,.u32 0]):=⟨_,_,O,O,by decide,O⟩
instance : BsT prog 29 ([.u32 0,.nils,.nils,.u32 0]):=⟨_,_,_,O,O,O,O,by decide⟩
instance : LdT prog 30 4 true:=⟨_,_,O,O,O,O⟩
instance : FdT prog 30 0 0:=⟨_,_,_,O,O,O,O,by decide⟩
instance : FdT prog 30 1 1:=⟨_,_,_,O,O,O,O,by decide⟩
instance : FdT prog 30 2 2:=⟨_,_,_,O,O,O,O,by decide⟩
instance : FdT prog 30 3 3:=⟨_,_,_,O,O,O,O,by decide⟩
instance : ZrT prog 30 (.agg [.u32 0,.nils,.nils,.u32 0]):=⟨_,_,O,O,by decide,O⟩
instance : BsT prog 30 ([.u32 0,.nils,.nils,.u32 0]):=⟨_,_,_,O,O,O,O,by decide⟩
instance : ZrT prog 31 (.nilf):=⟨_,_,O,O,by decide,O⟩
instance : ZrT prog 32 (.nilf):=⟨_,_,O,O,by decide,O⟩
instance : ZrT prog 33 (.nils):=⟨_,_,O,O,by decide,O⟩
instance : EqT prog 34:=⟨by decide +kernel⟩
instance : ZrT prog 34 (.arr 32 1 ((List.replicate 32 0).map D.u8)):=⟨_,_,O,O,by decide,O⟩
instance : LdT prog 35 32 true:=⟨_,_,O,O,O,O⟩
instance : ArT prog 35 32 5:=⟨O⟩
instance : BaT prog 35 32 5 1:=⟨_,_,_,O,O,O,O,O,O⟩
instance : EqT prog 35:=⟨by decide +kernel⟩
instance : ZrT prog 35 (.arr 32 1 ((List.replicate 32 0).map D.u8)):=⟨_,_,O,O,by decide,O⟩
instance : ZrT prog 36 (.agg [.u32 0,.arr 32 1 ((List.replicate 32 0).map D.u8),.arr 32 1 ((List.replicate 32 0).map D.u8),.u32 0,.u32 0,.u32 0]):=⟨_,_,O,O,by decide,O⟩
instance : BsT prog 36 ([.u32 0,.arr 32 1 ((List.replicate 32 0).map D.u8),.arr 32 1 ((List.replicate 32 0).map D.u8),.u32 0,.u32 0,.u32 0]):=⟨_,_,_,O,O,O,O,by decide⟩
instance : ZrT prog 37 (.agg [.u32 0,.arr 32 1 ((List.replicate 32 0).map D.u8),.arr 32 1 ((List.replicate 32 0).map D.u8),.u32 0,.u32 0,.u32 0]):=⟨_,_,O,O,by decide,O⟩
instance : BsT prog 37 ([.u32 0,.arr 32 1 ((List.replicate 32 0).map D.u8),.arr 32 1 ((List.replicate 32 0).map D.u8),.u32 0,.u32 0,.u32 0]):=⟨_,_,_,O,O,O,O,by decide⟩
instance : ZrT prog 38 (.agg [.agg [.u32 0,.arr 32 1 ((List.replicate 32 0).map D.u8),.arr 32 1 ((List.replicate 32 0).map D.u8),.u32 0,.u32 0,.u32 0],.nils]):=⟨_,_,O,O,by decide,O⟩
instance : BsT prog 38 ([.agg [.u32 0,.arr 32 1 ((List.replicate 32 0).map D.u8),.arr 32 1 ((List.replicate 32 0).map D.u8),.u32 0,.u32 0,.u32 0],.nils]):=⟨_,_,_,O,O,O,O,by decide⟩
instance : ZrT prog 39 (.agg [.agg [.u32 0,.arr 32 1 ((List.replicate 32 0).map D.u8),.arr 32 1 ((List.replicate 32 0).map D.u8),.u32 0,.u32 0,.u32 0],.nils]):=⟨_,_,O,O,by decide,O⟩
instance : BsT prog 39 ([.agg [.u32 0,.arr 32 1 ((List.replicate 32 0).map D.u8),.arr 32 1 ((List.replicate 32 0).map D.u8),.u32 0,.u32 0,.u32 0],.nils]):=⟨_,_,_,O,O,O,O,by decide⟩
instance : ZrT prog 40 (.nils):=⟨_,_,O,O,by decide,O⟩
instance : ZrT prog 41 (.nilf):=⟨_,_,O,O,by decide,O⟩
instance : EqT prog 42:=⟨by decide +kernel⟩
instance : ZrT prog 42 (.agg [.arr 32 1 ((List.replicate 32 0).map D.u8),.u32 0]):=⟨_,_,O,O,by decide,O⟩
instance : BsT prog 42 ([.arr 32 1 ((List.replicate 32 0).map D.u8),.u32 0]):=⟨_,_,_,O,O,O,O,by decide⟩
instance : LdT prog 43 33 true:=⟨_,_,O,O,O,O⟩
instance : EqT prog 43:=⟨by decide +kernel⟩
instance : FdT prog 43 0 0:=⟨_,_,_,O,O,O,O,by decide⟩
instance : FdT prog 43 1 32:=⟨_,_,_,O,O,O,O,by decide⟩
instance : ZrT prog 43 (.agg [.arr 32 1 ((List.replicate 32 0).map D.u8),.u32 0]):=⟨_,_,O,O,by decide,O⟩
instance : BsT prog 43 ([.arr 32 1 ((List.replicate 32 0).map D.u8),.u32 0]):=⟨_,_,_,O,O,O,O,by decide⟩
instance : LdT prog 44 1 false:=⟨_,_,O,O,O,O⟩
instance : SlT prog 44 24:=⟨O⟩
instance : ZrT prog 44 (.nils):=⟨_,_,O,O,by decide,O⟩
instance : ZrT prog 45 (.agg [.agg [.arr 32 1 ((List.replicate 32 0).map D.u8),.u32 0],.nils,.u32 0,.nils]):=⟨_,_,O,O,by decide,O⟩
instance : BsT prog 45 ([.agg [.arr 32 1 ((List.replicate 32 0).map D.u8),.u32 0],.nils,.u32 0,.nils]):=⟨_,_,_,O,O,O,O,by decide⟩
instance : LdT prog 46 36 true:=⟨_,_,O,O,O,O⟩
instance : ElT prog 46 36 96:=⟨_,_,O,O,O,O,O,by decide,O⟩
instance : FdT prog 46 0 0:=⟨_,_,_,O,O,O,O,by decide⟩
instance : FdT prog 46 1 33:=⟨_,_,_,O,O,O,O,by decide⟩
instance : FdT prog 46 2 34:=⟨_,_,_,O,O,O,O,by decide⟩
instance : FdT prog 46 3 35:=⟨_,_,_,O,O,O,O,by decide⟩
instance : ZrT prog 46 (.agg [.agg [.arr 32 1 ((List.replicate 32 0).map D.u8),.u32 0],.nils,.u32 0,.nils]):=⟨_,_,O,O,by decide,O⟩
instance : BsT prog 46 ([.agg [.arr 32 1 ((List.replicate 32 0).map D.u8),.u32 0],.nils,.u32 0,.nils]):=⟨_,_,_,O,O,O,O,by decide⟩
instance : ZrT prog 47 (.agg [.u64 0,.nils]):=⟨_,_,O,O,by decide,O⟩
instance : BsT prog 47 ([.u64 0,.nils]):=⟨_,_,_,O,O,O,O,by decide⟩
instance : LdT prog 48 2 true:=⟨_,_,O,O,O,O⟩
instance : ElT prog 48 2 32:=⟨_,_,O,O,O,O,O,by decide,O⟩
instance : FdT prog 48 0 0:=⟨_,_,_,O,O,O,O,by decide⟩
instance : FdT prog 48 1 1:=⟨_,_,_,O,O,O,O,by decide⟩
instance : ZrT prog 48 (.agg [.u64 0,.nils]):=⟨_,_,O,O,by decide,O⟩
instance : BsT prog 48 ([.u64 0,.nils]):=⟨_,_,_,O,O,O,O,by decide⟩
instance : IkT prog 49 .i64:=⟨O⟩
instance : ZrT prog 49 (.int 0):=⟨_,_,O,O,by decide,O⟩
instance : ZrT prog 51 (.nilf):=⟨_,_,O,O,by decide,O⟩
instance : ZrT prog 53 (.nilf):=⟨_,_,O,O,by decide,O⟩
instance : ZrT prog 54 (.nilf):=⟨_,_,O,O,by decide,O⟩
instance : ZrT prog 55 (.nils):=⟨_,_,O,O,by decide,O⟩
instance : ZrT prog 56 (.nilf):=⟨_,_,O,O,by decide,O⟩
instance : ZrT prog 57 (.nilf):=⟨_,_,O,O,by decide,O⟩
instance : ZrT prog 59 (.nilf):=⟨_,_,O,O,by decide,O⟩
instance : ZrT prog 60 (.nilf):=⟨_,_,O,O,by decide,O⟩
instance : ZrT prog 61 (.nilf):=⟨_,_,O,O,by decide,O⟩
instance : ZrT prog 62 (.nilf):=⟨_,_,O,O,by decide,O⟩
instance : ZrT prog 63 (.nilf):=⟨_,_,O,O,by decide,O⟩
instance : SlT prog 64 26:=⟨O⟩
instance : ZrT prog 64 (.nils):=⟨_,_,O,O,by decide,O⟩
instance : IkT prog 65 .u16:=⟨O⟩
instance : ZrT prog 65 (.u16 0):=⟨_,_,O,O,by decide,O⟩
instance : EqT prog 66:=⟨by decide +kernel⟩
instance : ZrT prog 66 (.agg [.agg [.arr 32 1 ((List.replicate 32 0).map D.u8),.u32 0],.u64 0,.int 0]):=⟨_,_,O,O,by decide,O⟩
instance : BsT prog 66 ([.agg [.arr 32 1 ((List.replicate 32 0).map D.u8),.u32 0],.u64 0,.int 0]):=⟨_,_,_,O,O,O,O,by decide⟩
instance : LdT prog 67 35 true:=⟨_,_,O,O,O,O⟩
instance : ElT prog 67 35 56:=⟨_,_,O,O,O,O,O,by decide,O⟩
instance : EqT prog 67:=⟨by decide +kernel⟩
instance : FdT prog 67 0 0:=⟨_,_,_,O,O,O,O,by decide⟩
instance : FdT prog 67 1 33:=⟨_,_,_,O,O,O,O,by decide⟩
instance : ZrT prog 67 (.agg [.agg [.arr 32 1 ((List.replicate 32 0).map D.u8),.u32 0],.u64 0,.int 0]):=⟨_,_,O,O,by decide,O⟩
instance : BsT prog 67 ([.agg [.arr 32 1 ((List.replicate 32 0).map D.u8),.u32 0],.u64 0,.int 0]):=⟨_,_,_,O,O,O,O,by decide⟩
instance : ZrT prog 68 (.nilf):=⟨_,_,O,O,by decide,O⟩
instance : ZrT prog 69 (.agg [.nils,.u64 0]):=⟨_,_,O,O,by decide,O⟩
instance : BsT prog 69 ([.nils,.u64 0]):=⟨_,_,_,O,O,O,O,by decide⟩
instance : LdT prog 70 2 true:=⟨_,_,O,O,O,O⟩
instance : ElT prog 70 2 32:=⟨_,_,O,O,O,O,O,by decide,O⟩
instance : FdT prog 70 0 0:=⟨_,_,_,O,O,O,O,by decide⟩
instance : FdT prog 70 1 1:=⟨_,_,_,O,O,O,O,by decide⟩
instance : ZrT prog 70 (.agg [.nils,.u64 0]):=⟨_,_,O,O,by decide,O⟩
instance : BsT prog 70 ([.nils,.u64 0]):=⟨_,_,_,O,O,O,O,by decide⟩
instance : ZrT prog 71 (.nilf):=⟨_,_,O,O,by decide,O⟩
instance : ZrT prog 72 (.nilf):=⟨_,_,O,O,by decide,O⟩
instance : ZrT prog 74 (.nilf):=⟨_,_,O,O,by decide,O⟩
instance : ZrT prog 77 (.nilf):=⟨_,_,O,O,by decide,O⟩
instance : ZrT prog 78 (.nilf):=⟨_,_,O,O,by decide,O⟩
instance : ZrT prog 79 (.nilf):=⟨_,_,O,O,by decide,O⟩
instance : ZrT prog 80 (.nilf):=⟨_,_,O,O,by decide,O⟩
instance : ZrT prog 81 (.nilf):=⟨_,_,O,O,by decide,O⟩
instance : ZrT prog 82 (.nilf):=⟨_,_,O,O,by decide,O⟩
instance : ZrT prog 83 (.nilf):=⟨_,_,O,O,by decide,O⟩
instance : ZrT prog 84 (.nilf):=⟨_,_,O,O,by decide,O⟩
instance : ZrT prog 85 (.agg [.nils,.u64 0]):=⟨_,_,O,O,by decide,O⟩
instance : BsT prog 85 ([.nils,.u64 0]):=⟨_,_,_,O,O,O,O,by decide⟩
instance : ZrT prog 86 (.nilf):=⟨_,_,O,O,by decide,O⟩
instance : ZrT prog 87 (.nilf):=⟨_,_,O,O,by decide,O⟩
instance : ZrT prog 88 (.nilf):=⟨_,_,O,O,by decide,O⟩
instance : ZrT prog 89 (.nilf):=⟨_,_,O,O,by decide,O⟩
instance : ZrT prog 90 (.nilf):=⟨_,_,O,O,by decide,O⟩
instance : ZrT prog 91 (.nilf):=⟨_,_,O,O,by decide,O⟩
instance : IkT prog 92 .u64:=⟨O⟩
instance : ZrT prog 92 (.u64 0):=⟨_,_,O,O,by decide,O⟩
instance : ZrT prog 93 (.nilf):=⟨_,_,O,O,by decide,O⟩
instance : ZrT prog 94 (.nilf):=⟨_,_,O,O,by decide,O⟩
instance : ZrT prog 95 (.nilf):=⟨_,_,O,O,by decide,O⟩
instance : ZrT prog 96 (.nilf):=⟨_,_,O,O,by decide,O⟩
instance : ZrT prog 99 (.nilf):=⟨_,_,O,O,by decide,O⟩
instance : ZrT prog 100 (.nilf):=⟨_,_,O,O,by decide,O⟩
instance : IkT prog 101 .i64:=⟨O⟩
instance : ZrT prog 101 (.int 0):=⟨_,_,O,O,by decide,O⟩
instance : ZrT prog 103 (.nilf):=⟨_,_,O,O,by decide,O⟩
instance : ZrT prog 104 (.nilf):=⟨_,_,O,O,by decide,O⟩
instance : ZrT prog 105 (.nilf):=⟨_,_,O,O,by decide,O⟩
instance : ZrT prog 106 (.nilf):=⟨_,_,O,O,by decide,O⟩
instance : ZrT prog 107 (.nilf):=⟨_,_,O,O,by decide,O⟩
instance : ZrT prog 108 (.nilf):=⟨_,_,O,O,by decide,O⟩
instance : SlT prog 109 3:=⟨O⟩
instance : ZrT prog 109 (.nils):=⟨_,_,O,O,by decide,O⟩
instance : ZrT prog 110 (.nilf):=⟨_,_,O,O,by decide,O⟩
instance : ZrT prog 111 (.nilf):=⟨_,_,O,O,by decide,O⟩
instance : ZrT prog 112 (.nilp):=⟨_,_,O,O,by decide,O⟩
instance : ZrT prog 113 (.agg [.nils]):=⟨_,_,O,O,by decide,O⟩
instance : BsT prog 113 ([.nils]):=⟨_,_,_,O,O,O,O,by decide⟩
instance : FdT prog 114 0 0:=⟨_,_,_,O,O,O,O,by decide⟩
instance : ZrT prog 114 (.agg [.nils]):=⟨_,_,O,O,by decide,O⟩
instance : BsT prog 114 ([.nils]):=⟨_,_,_,O,O,O,O,by decide⟩
instance : ZrT prog 115 (.nilf):=⟨_,_,O,O,by decide,O⟩
instance : ZrT prog 116 (.nilf):=⟨_,_,O,O,by decide,O⟩
instance : ZrT prog 117 (.nilf):=⟨_,_,O,O,by decide,O⟩
instance : ZrT prog 118 (.nilf):=⟨_,_,O,O,by decide,O⟩
instance : ZrT prog 119 (.nilf):=⟨_,_,O,O,by decide,O⟩
instance : ZrT prog 120 (.nilf):=⟨_,_,O,O,by decide,O⟩
instance : IkT prog 121 .u64:=⟨O⟩
instance : ZrT prog 121 (.u64 0):=⟨_,_,O,O,by decide,O⟩
instance : ZrT prog 122 (.nilf):=⟨_,_,O,O,by decide,O⟩
instance : ZrT prog 123 (.nilf):=⟨_,_,O,O,by decide,O⟩
instance : ZrT prog 124 (.nilf):=⟨_,_,O,O,by decide,O⟩
instance : ZrT prog 125 (.nilp):=⟨_,_,O,O,by decide,O⟩
instance : ZrT prog 126 (.nilf):=⟨_,_,O,O,by decide,O⟩
instance : ZrT prog 127 (.nilf):=⟨_,_,O,O,by decide,O⟩
instance : ZrT prog 128 (.nilp):=⟨_,_,O,O,by decide,O⟩
instance : ZrT prog 130 (.nilf):=⟨_,_,O,O,by decide,O⟩
instance : ZrT prog 131 (.nilf):=⟨_,_,O,O,by decide,O⟩
instance : ZrT prog 132 (.agg [.nilp,.nilp,.nilp,.str []]):=⟨_,_,O,O,by decide,O⟩
instance : BsT prog 132 ([.nilp,.nilp,.nilp,.str []]):=⟨_,_,_,O,O,O,O,by decide⟩
instance : ZrT prog 133 (.agg [.nilp,.nilp,.nilp,.str []]):=⟨_,_,O,O,by decide,O⟩
instance : BsT prog 133 ([.nilp,.nilp,.nilp,.str []]):=⟨_,_,_,O,O,O,O,by decide⟩
instance : ZrT prog 137 (.nilf):=⟨_,_,O,O,by decide,O⟩
instance : IkT prog 138 .u8:=⟨O⟩
instance : ZrT prog 138 (.u8 0):=⟨_,_,O,O,by decide,O⟩
instance : IkT prog 139 .u8:=⟨O⟩
instance : ZrT prog 139 (.u8 0):=⟨_,_,O,O,by decide,O⟩
instance : ZrT prog 140 (.nilf):=⟨_,_,O,O,by decide,O⟩
instance : ZrT prog 141 (.nilp):=⟨_,_,O,O,by decide,O⟩
instance : IkT prog 142 .i32:=⟨O⟩
instance : ZrT prog 142 (.ik .i32 0):=⟨_,_,O,O,by decide,O⟩
instance : IkT prog 143 .i32:=⟨O⟩
instance : ZrT prog 143 (.ik .i32 0):=⟨_,_,O,O,by decide,O⟩
instance : ZrT prog 144 (.agg [.u64 0,.u64 0,.u32 0,.u8 0,.u8 0,.u8 0,.u8 0,.nilf,.nilp,.ik .i32 0,.ik .i32 0]):=⟨_,_,O,O,by decide,O⟩
instance : BsT prog 144 ([.u64 0,.u64 0,.u32 0,.u8 0,.u8 0,.u8 0,.u8 0,.nilf,.nilp,.ik .i32 0,.ik .i32 0]):=⟨_,_,_,O,O,O,O,by decide⟩
instance : ZrT prog 145 (.agg [.u64 0,.u64 0,.u32 0,.u8 0,.u8 0,.u8 0,.u8 0,.nilf,.nilp,.ik .i32 0,.ik .i32 0]):=⟨_,_,O,O,by decide,O⟩
instance : BsT prog 145 ([.u64 0,.u64 0,.u32 0,.u8 0,.u8 0,.u8 0,.u8 0,.nilf,.nilp,.ik .i32 0,.ik .i32 0]):=⟨_,_,_,O,O,O,O,by decide⟩
instance : CaT prog 8:=⟨_,Try.func8,by decide,by decide⟩
instance : CaT prog 9:=⟨_,Try.func9,by decide,by decide⟩
instance : CaT prog 11:=⟨_,Try.func11,by decide,by decide⟩
instance : CaT prog 15:=⟨_,Try.func15,by decide,by decide⟩
instance : CaT prog 18:=⟨_,Try.func18,by decide,by decide⟩
instance : CaT prog 20:=⟨_,Try.func20,by decide,by decide⟩
instance : CaT prog 21:=⟨_,Try.func21,by decide,by decide⟩
instance : CaT prog 22:=⟨_,Try.func22,by decide,by decide⟩
instance : CaT prog 23:=⟨_,Try.func23,by decide,by decide⟩
instance : CaT prog 24:=⟨_,Try.func24,by decide,by decide⟩
instance : CaT prog 25:=⟨_,Try.func25,by decide,by decide⟩
instance : CaT prog 27:=⟨_,Try.func27,by decide,by decide⟩
instance : CaT prog 31:=⟨_,Try.func31,by decide,by decide⟩
instance : CaT prog 32:=⟨_,Try.func32,by decide,by decide⟩
instance : CaT prog 33:=⟨_,Try.func33,by decide,by decide⟩
instance : CaT prog 38:=⟨_,Try.func38,by decide,by decide⟩
instance : CaT prog 39:=⟨_,Try.func39,by decide,by decide⟩
instance : CaT prog 40:=⟨_,Try.func40,by decide,by decide⟩
instance : CaT prog 41:=⟨_,Try.func41,by decide,by decide⟩
instance : CaT prog 42:=⟨_,Try.func42,by decide,by decide⟩
instance : CaT prog 54:=⟨_,Try.func54,by decide,by decide⟩
instance : CaT prog 56:=⟨_,Try.func56,by decide,by decide⟩
instance : CaT prog 57:=⟨_,Try.func57,by decide,by decide⟩
instance : CaT prog 58:=⟨_,Try.func58,by decide,by decide⟩
instance : CaT prog 59:=⟨_,Try.func59,by decide,by decide⟩
instance : CaT prog 60:=⟨_,Try.func60,by decide,by decide⟩
instance : CaT prog 61:=⟨_,Try.func61,by decide,by decide⟩
instance : CaT prog 62:=⟨_,Try.func62,by decide,by decide⟩
instance : MkT prog 75 43 25:=⟨Try.underlying75⟩
instance : MkT prog 97 43 3:=⟨Try.underlying97⟩
def gl : List (Nat × D):=[]
theorem hP : Try.prog.follows .mixedOrders = true:=Try.checked.mixed
end Go.Sx

namespace Go.Sx
end Go.Sx

namespace Go.Sx
instance : Inhabited ShaS:=⟨ShaS.zero⟩
end Go.Sx

namespace Go.Sx
abbrev Hs:=List UInt8
structure InS where
 tx : Hs
 n : UInt32
 script : List UInt8
 seq : UInt32
 wit : List (List UInt8)
 deriving Inhabited
structure OutS where
 value : UInt64
 script : List UInt8
 deriving Inhabited
structure TxS where
 ver : UInt32
 ins : List InS
 outs : List OutS
 lock : UInt32
 deriving Inhabited
def inD (x : InS) : D:=.agg [.agg [hashD x.tx,.u32 x.n],bytesD x.script,.u32 x.seq,.sl none 1 (x.wit.map bytesD)]
def outD (o : OutS) : D:=.agg [.u64 o.value,bytesD o.script]
def txD (t : TxS) : D:=.agg [.u32 t.ver,.sl none 36 (t.ins.map inD),.sl none 2 (t.outs.map outD),.u32 t.lock]
def shN (x : UInt64) : Nat -> UInt64
 | 0=>x
 | i + 1=>shr_u64 (shN x i) 8
def lowI (x : UInt64) : Nat -> List UInt8
 | 0=>[]
 | i + 1=>lowI x i ++ [(shN x i).toUInt8]
theorem lowI_len (x : UInt64) (i : Nat) : (lowI x i).length = i:=by induction i with
 | zero=>rfl
 | succ i ih=>simp [lowI,ih]
def cU (n : Nat) : UInt64:=UInt64.ofInt ((n : Nat) : Int)
def countS (n : Nat) : List UInt8:=
 if cU n < 253 then lowI (cU n) 1 else if cU n <= 65535 then lowI 253 1 ++ lowI (cU n) 2 else if cU n <= 4294967295 then lowI 254 1 ++ lowI (cU n) 4 else lowI 255 1 ++ lowI (cU n) 8
theorem countS_len (n : Nat) : (countS n).length <= 9:=by
 unfold countS
 split
 · simp [lowI_len]
 · split
   · simp [lowI_len]
   · split <;> simp [lowI_len]
def itemS (b : List UInt8) : List UInt8:=countS b.length ++ b
theorem itemS_len (b : List UInt8) : (itemS b).length <= 9 + b.length:=by
 have:=countS_len b.length
 simp [itemS]; omega
def inS (x : InS) : List UInt8:=x.tx ++ lowI x.n.toUInt64 4 ++ itemS x.script ++ lowI x.seq.toUInt64 4
def outS' (o : OutS) : List UInt8:=lowI o.value 8 ++ itemS o.script
def insS (l : List InS) : Nat -> List UInt8
 | 0=>[]
 | i + 1=>insS l i ++ inS l[i]!
def outsS (l : List OutS) : Nat -> List UInt8
 | 0=>[]
 | i + 1=>outsS l i ++ outS' l[i]!
def bodyS (t : TxS) : List UInt8:=countS t.ins.length ++ insS t.ins t.ins.length ++ countS t.outs.length ++ outsS t.outs t.outs.length
def bareS (t : TxS) : List UInt8:=lowI t.ver.toUInt64 4 ++ bodyS t ++ lowI t.lock.toUInt64 4
def witS (l : List (List UInt8)) : Nat -> List UInt8
 | 0=>[]
 | i + 1=>witS l i ++ itemS l[i]!
def witsS (l : List InS) : Nat -> List UInt8
 | 0=>[]
 | i + 1=>witsS l i ++ countS l[i]!.wit.length ++ witS l[i]!.wit l[i]!.wit.length
def seenS (t : TxS) : Bool:=t.ins.any fun x=>decide (0 < x.wit.length)
def putS (t : TxS) : List UInt8:=if seenS t then lowI t.ver.toUInt64 4 ++ [0,1] ++ bodyS t ++ witsS t.ins t.ins.length ++ lowI t.lock.toUInt64 4 else bareS t
structure TxS.wf (t : TxS) : Prop where
 ins : t.ins.length <= 1000000
 outs : t.outs.length <= 1000000
 hash : ∀ x ∈ t.ins,x.tx.length = 32
 scr : ∀ x ∈ t.ins,x.script.length <= 1000000
 oscr : ∀ x ∈ t.outs,x.script.length <= 1000000
 insb : ∀ i ≤ t.ins.length,(insS t.ins i).length <= 1500000
 outsb : ∀ i ≤ t.outs.length,(outsS t.outs i).length <= 1500000
 witsb : ∀ i ≤ t.ins.length,(witsS t.ins i).length <= 1500000
 witl : ∀ x ∈ t.ins,x.wit.length <= 1000000 /\ ∀ i ≤ x.wit.length,(witS x.wit i).length <= 1500000
 witi : ∀ x ∈ t.ins,∀ b ∈ x.wit,b.length <= 1000000
theorem get_mem {α : Type} [Inhabited α] {l : List α} {i : Nat} (h : i < l.length) : l[i]! ∈ l:=by
 rw [getElem!_pos l i h]; exact List.getElem_mem h
theorem TxS.wf.insScript {t : TxS} (h : t.wf) {i : Nat} (hi : i < t.ins.length) : t.ins[i]!.script.length <= 1000000:=h.scr _ (get_mem hi)
theorem TxS.wf.outScript {t : TxS} (h : t.wf) {i : Nat} (hi : i < t.outs.length) : t.outs[i]!.script.length <= 1000000:=h.oscr _ (get_mem hi)
theorem TxS.wf.body {t : TxS} (h : t.wf) : (bodyS t).length <= 3000018:=by
 have h1:=countS_len t.ins.length
 have h2:=countS_len t.outs.length
 have h3:=h.insb _ (Nat.le_refl _)
 have h4:=h.outsb _ (Nat.le_refl _)
 simp only [bodyS,List.length_append]
 omega
theorem seen_true {t : TxS} {i : Nat} (hi : i < t.ins.length) (h : 0 < t.ins[i]!.wit.length) : seenS t = true:=by
 unfold seenS
 rw [List.any_eq_true]
 exact ⟨_,get_mem hi,by simpa using h⟩
theorem seen_false {t : TxS} (h : ∀ k < t.ins.length,¬ 0 < t.ins[k]!.wit.length) : seenS t = false:=by
 unfold seenS
 rw [List.any_eq_false]
 intro x hx
 obtain ⟨k,hk,rfl⟩:=List.mem_iff_getElem.1 hx
 have:=h k hk
 rw [getElem!_pos t.ins k hk] at this
 simpa using this
section
variable {b r r0 r1 r2 r3 r4 r5 x s u : List UInt8} {p q : UInt64} {i j n m : Nat} {l : List InS} {o : List OutS}
end
end Go.Sx

namespace Go.Sx
open Go.Proofs
abbrev Plc:=Hs × UInt32
def placeK (p : Plc) : D:=.agg [hashD p.1,.u32 p.2]
def plc (x : InS) : Plc:=(x.tx,x.n)
theorem EqV.up {P : Program} {k : Nat} {t : TypeId} {d1 d2 : D} {b : Bool} (h : EqV P k t d1 d2 b) (j : Nat) : EqV P (k + j) t d1 d2 b:=by
 intro n w ρ1 ρ2 G1 G2 L1 L2 v1 v2 F1 F2 h1 h2
 have:=h (n + j) w ρ1 ρ2 G1 G2 L1 L2 v1 v2 F1 F2 h1 h2
 rwa [show n + (k + j) = n + j + k by omega]
theorem eqv_place (a b : Plc) : EqV Try.prog 3 43 (placeK a) (placeK b) (a == b):=by
 have h32 : ∀ x y : UInt32,EqV Try.prog 2 26 (.u32 x) (.u32 y) (x == y):=fun x y=>(EqV.u32 Try.underlying26 x y).up 1
 have hh : ∀ x y : Hs,EqV Try.prog 2 35 (hashD x) (hashD y) (x == y):=fun x y=>EqV.arr x y
 have:=EqV.struct (k:=2) Try.underlying43 (by kernel_rfl) (.cons rfl rfl inferInstance rfl rfl rfl rfl (hh a.1 b.1) (.cons rfl rfl inferInstance rfl rfl rfl rfl (h32 a.2 b.2) .nil))
 rw [Bool.and_true] at this
 exact this
theorem place_key : KeyC Try.prog 43 placeK 3 where
 s:=⟨_,Try.underlying43⟩
 eq:=fun a b=>by
  have h:=eqv_place a b
  have e : (@BEq.beq Plc instBEqProd a b) = (@BEq.beq Plc instBEqOfDecidableEq a b):=by
   rw [Bool.eq_iff_iff,@beq_iff_eq Plc instBEqProd _ a b,@beq_iff_eq Plc instBEqOfDecidableEq _ a b]
  rw [<- e]
  exact h
 ck:=fun a=>CkV.struct (k:=2) Try.underlying43 (.cons rfl rfl inferInstance rfl rfl (CkV.arr a.1) (.cons rfl rfl inferInstance rfl rfl (CkV.more (CkV.u32 Try.underlying26 a.2)) .nil))
 n:=rfl
 p:=fun _=>rfl
def seenM (l : List InS) : Nat -> List (Plc × Int)
 | 0=>[]
 | i + 1=>seenM l i ++ [(plc l[i]!,((i : Nat) : Int))]
def sumI (l : List OutS) : Nat -> UInt64
 | 0=>0
 | i + 1=>sumI l i + l[i]!.value
def mayP (t : TxS) : Prop:=
 t.ins.length ≠ 0 /\ t.outs.length ≠ 0 /\ (∀ i < t.ins.length,kHas (seenM t.ins i) (plc t.ins[i]!) = false) /\ (∀ i < t.outs.length,¬ 2100000000000000 < t.outs[i]!.value /\ ¬ 2100000000000000 < sumI t.outs (i + 1)) /\ (putS t).length <= 16384
instance (t : TxS) : Decidable (mayP t):=by unfold mayP; infer_instance
def mayS (t : TxS) : Bool:=decide (mayP t)
theorem may_f1 {t : TxS} (h : t.ins.length = 0) : mayS t = false:=decide_eq_false fun hm=>hm.1 h
theorem may_f2 {t : TxS} (h : t.outs.length = 0) : mayS t = false:=decide_eq_false fun hm=>hm.2.1 h
theorem may_f3 {t : TxS} {i : Nat} (hi : i < t.ins.length) (h : kHas (seenM t.ins i) (plc t.ins[i]!) = true) : mayS t = false:=decide_eq_false fun hm=>by have:=hm.2.2.1 i hi; rw [h] at this; cases this
theorem may_f4 {t : TxS} {i : Nat} (hi : i < t.outs.length) (h : 2100000000000000 < t.outs[i]!.value) : mayS t = false:=decide_eq_false fun hm=>(hm.2.2.2.1 i hi).1 h
theorem may_f5 {t : TxS} {i : Nat} (hi : i < t.outs.length) (h : 2100000000000000 < sumI t.outs (i + 1)) : mayS t = false:=decide_eq_false fun hm=>(hm.2.2.2.1 i hi).2 h
theorem may_fin {t : TxS} (h1 : ¬ t.ins.length = 0) (h2 : ¬ t.outs.length = 0) (h3 : ∀ i < t.ins.length,kHas (seenM t.ins i) (plc t.ins[i]!) = false)
 (h4 : ∀ i < t.outs.length,¬ 2100000000000000 < t.outs[i]!.value /\ ¬ 2100000000000000 < sumI t.outs (i + 1)) : mayS t = decide ((putS t).length <= 16384):=by
 unfold mayS mayP
 simp only [ne_eq,h1,h2,not_false_eq_true,true_and,decide_eq_decide]
 exact ⟨fun h=>h.2.2,fun h=>⟨h3,h4,h⟩⟩
end Go.Sx

namespace Go.Sx
open Go.Proofs
end Go.Sx

namespace Go.Sx
open Go.Proofs
end Go.Sx
namespace Go.Sx
open Go.Proofs
end Go.Sx
namespace Go.Sx
open Go.Proofs
theorem ext_i {P : Nat -> Prop} {i : Nat} (h : ∀ j < i,P j) (hi : P i) : ∀ j < i + 1,P j:=fun j hj=>by
 rcases Nat.lt_succ_iff_lt_or_eq.1 hj with h1 | h1
 · exact h j h1
 · rw [h1]; exact hi
theorem brw_bytes (l : List UInt8) : (bytesD l).brw = bytesD l:=by simp only [bytesD,D.brw,brws_eq]; rw [brw_map (fun _=>rfl)]
theorem brw_hash (l : List UInt8) : (hashD l).brw = hashD l:=by simp only [hashD,D.brw,brws_eq]; rw [brw_map (fun _=>rfl)]
end Go.Sx

namespace Go.Sx
open Go.Proofs
end Go.Sx

namespace Go.Sx
open Go.Proofs
end Go.Sx

namespace Go.Sx
open Go.Proofs
end Go.Sx

namespace Go.Sx
open Go.Proofs
end Go.Sx

namespace Go.Sx
variable {pos : String} {aft : Array Edge} {g : Option (Nat × Bool)}
open Go.Proofs Go.Shelf Go.RowKit Go.Sort
variable {P : Program} {C : Ctx} {σ σ' σ1 : Sg} {a : Act} {w w' : World} {ρ : Nat -> Nat} {Fe Fe' Fb : Nat -> List Nat}
theorem Ext.grown (h : Ext w w') : ∃ q os',w' = grow (w.drewN q) os':=by
 refine ⟨w'.drawn - w.drawn,w'.heap.extract w.heap.size w'.heap.size, ?_⟩
 obtain ⟨ho,⟨htp,hdr⟩,hout,hs,hb⟩:=h
 obtain ⟨hp,tp,dr,os,out⟩:=w
 obtain ⟨hp',tp',dr',os',out'⟩:=w'
 simp only at ho htp hdr hout hs hb
 subst ho htp hout
 have e1 : dr + (dr' - dr) = dr':=by omega
 have e2 : hp ++ hp'.extract hp.size hp'.size = hp':=by
  apply Array.ext_getElem?
  intro i
  by_cases hi : i < hp.size
  · rw [Array.getElem?_append_left hi,hb i hi]
  · rw [Array.getElem?_append_right (by omega),Array.getElem?_extract]
    by_cases h2 : i < hp'.size
    · rw [if_pos (by omega)]; congr 1; omega
    · rw [if_neg (by omega)]; exact (Array.getElem?_eq_none (by omega)).symm
 show _ = World.mk (hp ++ hp'.extract hp.size hp'.size) tp' (dr + (dr' - dr)) os' out'
 rw [e1,e2]
theorem cmpLays_of {α : Type} [Inhabited α] {g k blk off size : Nat} {enc : α -> List Value} {el : α -> D} {cf : α -> α -> Int} {W : World}
 (hagg : ∀ x,(el x).isAgg = true) (hel : ∀ w ρ G L x,Rc w ρ G L true (el x) (enc x) [])
 (hF : ∀ x y,Fn P [] g [el x,el y] (.int (cf x y))) : CmpLays P g #[] enc k cf blk off size W:=by
 intro m os dk _ x y
 have h:=hF x y (sortWorldK enc k W blk off m dk os) (fun _=>False) [.agg (enc x).toArray,.agg (enc y).toArray] (fun g d h=>by cases h) rfl (fun j hj=>by
  have e : ∀ z : α,VR (sortWorldK enc k W blk off m dk os) (fun x=>x) (fun _=>False) (fun _=>False) (el z) (.agg (enc z).toArray) []:=fun z=>by
   unfold VR
   rw [if_pos (hagg z)]
   exact ⟨_,rfl,hel _ _ _ _ z⟩
  match j,hj with
  | 0,_=>exact e x
  | 1,_=>exact e y)
 refine Calls.mono h ?_
 rintro e w' ⟨v,F,rfl,hext,_,_,hv⟩
 have hv':=hv.2
 simp only [VR,D.isAgg,Bool.false_eq_true,if_false] at hv'
 cases hv'
 exact ⟨rfl,hext.grown⟩
structure SrtC (P : Program) (f g : FuncId) (k : Nat) {α : Type} [Inhabited α] (enc : α -> List Value) (d d' : Array α) : Prop where
 none : ∀ p cap w,Calls P f #[.slice p 0 cap,.func (.func g) #[] #[]] w fun e w'=>e = .returned (.tuple #[]) /\ w' = w
 some : ∀ blk cap w,HoldsK enc k w blk 0 d -> blk < w.heap.size -> Calls P f #[.slice (Option.some ⟨blk,0,Option.none⟩) d.size cap,.func (.func g) #[] #[]] w fun e w'=>e = .returned (.tuple #[]) /\ ∃ n os,w' = sortWorldK enc k w blk 0 n d' os
 sz : d'.size = d.size
theorem R.sortS {α : Type} [Inhabited α] {enc : α -> List Value} {el : α -> D} {d d' : Array α} {k : Nat} {s s0 e t : Nat} {f g : FuncId} [CaT P f] {ls ls' : List D} {tys : Array TypeId} {rt : TypeId} {pos : String} {aft : Array Edge} {gd_ : Option (Nat × Bool)}
 (hS : SrtC P f g k enc d d') (hk : ∀ x,(enc x).length = k) (h1 : ∀ x,∀ v ∈ enc x,v.oneCell' = true)
 (hel : ∀ w ρ G L x,Rc w ρ G L false (el x) (enc x) []) (hel' : ∀ w ρ G L cs F x,Rc w ρ G L false (el x) cs F -> cs = enc x /\ F = [])
 (hls : ls = d.toList.map el) (hls' : ls' = d'.toList.map el)
 (ho : ownr σ s s0) (hs : σ.get s0 = some (.sl (some e) k ls)) (ht : t < σ.n) :
 OpS P C ⟨some t,.call { callee:=.value (.func f),args:=#[.tmp s,.func g],argTypes:=tys },rt,pos,aft,gd_⟩ σ ((σ.upd s0 (.sl (some e) k ls')).set t (.tup [])):=by
 subst hls hls'
 intro a w ⟨ρ,Fe,Fb,st⟩ K Q hK
 refine wpIn_of_run (run_call a w) (by simp) ?_
 rw [Oper.uponIn_enter]
 obtain ⟨v,hv,hv0,hr⟩:=ownr_val st ho hs
 have harg : (#[Operand.tmp s,Operand.func g] : Array Operand).map a.eval = #[v,.func (.func g) #[] #[]]:=by
  rw [List.map_toArray,List.map_cons,List.map_cons,eval_tmp hv]; rfl
 rw [harg]
 have fin : ∀ w' F',StW C (σ.upd s0 (.sl (some e) k (d'.toList.map el))) a w' ρ (Go.Sx.upd Fe s0 F') Fb -> K (a.put (some t) (.tuple #[])) w':=by
  intro w' F' st'
  refine hK _ _ ⟨ρ,_,Fb,st'.ext (F:=[]) (v:=.tuple #[]) (by simpa using ht) (Ext.refl w') List.nodup_nil (by simp) ?_⟩
  refine ⟨[],fun _=>[], ?_,rfl,rfl,fun k hk=>by cases hk⟩
  rw [put_get a t _ t (by rw [st.size]; exact ht)]; simp
 have nil : ∀ p cap,v = .slice p 0 cap -> d.toList.map el = [] -> K (a.put (some t) (.tuple #[])) w:=by
  intro p cap _ he
  have hd0 : d.size = 0:=by have:=congrArg List.length he; simpa using this
  have hd' : d'.toList.map el = []:=by
   have : d'.size = 0:=hS.sz.trans hd0
   rw [Array.toList_eq_nil_iff.2 (Array.eq_empty_of_size_eq_zero this)]; rfl
  rw [hd'] at fin
  refine fin w (Fe s0) ?_
  rw [he] at hs hr
  exact st.turn (F:=Fe s0) hs rfl ⟨rfl,Nat.le_refl _⟩ rfl (Nat.le_refl _) (fun _ _ _=>rfl) (st.nodE s0) (fun b hb=>.inl hb) ((SR_plain rfl).2 ⟨v,hv0,by
   simp only [VR,D.isAgg,Bool.false_eq_true,if_false]
   have e0 : Go.Sx.upd Fe s0 (Fe s0) = Fe:=by funext u; by_cases hu : u = s0 <;> simp [Go.Sx.upd,hu]
   rw [e0]; exact hr⟩)
 generalize hFe : Fe s0 = F0 at hr
 generalize hll : d.toList.map el = l0 at hr
 cases hr with
 | slN=>exact ⟨(fun h=>by cases h),callsIn_fx (Calls.mono (hS.none none 0 w) (by rintro e w' ⟨rfl,rfl⟩; exact nil none 0 rfl hll))⟩
 | slE _ _ ad=>exact ⟨(fun h=>by cases h),callsIn_fx (Calls.mono (hS.none (some ad) 0 w) (by rintro e w' ⟨rfl,rfl⟩; exact nil (some ad) 0 rfl hll))⟩
 | slO b cs e cap z l Fs hb hc hm hsz ho1 hr=>
 subst hll
 have hlen : (d.toList.map el).length = d.size:=by simp
 rw [hlen] at hc ⊢
 have hbl : b < w.heap.size:=(Array.getElem?_eq_some_iff.1 hb).1
 have hpart : ∀ i (hi : i < d.size),(cs.toList.drop (i * k)).take k = enc d[i] /\ Fs i = []:=fun i hi=>by
  have:=hr i (by simpa using hi)
  rw [List.getElem_map] at this
  exact hel' _ _ _ _ _ _ _ this
 have hcap : ∀ j,j < d.size * k -> j < cs.size:=fun j hj=>by
  have:=Nat.mul_le_mul_right k hc; omega
 have hcell : ∀ j (hj : j < d.size * k),cs[j]'(hcap j hj) = (flatK enc k d)[j]!:=fun j hj=>by
  have k0 : 0 < k:=Nat.pos_of_ne_zero fun h=>by subst h; simp at hj
  have hq : j / k < d.size:=Nat.div_lt_of_lt_mul (by rw [Nat.mul_comm]; exact hj)
  have hm' : j % k < k:=Nat.mod_lt _ k0
  have e:=(hpart (j / k) hq).1
  have e2 : ((cs.toList.drop (j / k * k)).take k)[j % k]? = some (cs[j]'(hcap j hj)):=by
   rw [List.getElem?_take,if_pos hm',List.getElem?_drop]
   have : j / k * k + j % k = j:=by rw [Nat.mul_comm]; exact Nat.div_add_mod j k
   rw [this,Array.getElem?_toList,Array.getElem?_eq_getElem (hcap j hj)]
  rw [e] at e2
  rw [get_flatK _ _ _ _ hj]
  have e3 : d[j / k]! = d[j / k]:=getElem!_pos d _ hq
  rw [e3]
  have e4:=List.getElem?_eq_some_iff.1 e2
  obtain ⟨h5,h6⟩:=e4
  rw [getElem!_pos (enc d[j / k]) (j % k) h5,h6]
 have hH : HoldsK enc k w b 0 d:=by
  intro j hj
  rw [size_flatK] at hj
  have hc0:=hcap j hj
  refine ⟨?_, ?_⟩
  · simp only [World.cell?,hb,Nat.zero_add,id]
    rw [<- hcell j hj]
    simp [hc0]
  · simp [World.frozen?,hb]
 refine ⟨(fun h=>by cases h),callsIn_fx (Calls.mono (hS.some b cap w hH hbl) ?_)⟩
 rintro e' w' ⟨rfl,n,os,rfl⟩
 have hheap : (sortWorldK enc k w b 0 n d' os).heap[b]? = some (.cells (putCells id 0 (flatK enc k d') cs) e (0,0)):=by
  unfold sortWorldK putRowK putRow mapBlock grow
  simp only
  rw [Array.getElem?_append_left (by simpa using hbl),Array.getElem?_modify,if_pos rfl]
  show Option.map _ (w.heap[b]?) = _
  rw [hb]; rfl
 have hother : ∀ b',b' < w.heap.size -> b' ≠ b -> (sortWorldK enc k w b 0 n d' os).heap[b']? = w.heap[b']?:=fun b' hb' hne=>by
  unfold sortWorldK putRowK putRow mapBlock grow
  simp only
  rw [Array.getElem?_append_left (by simpa using hb'),Array.getElem?_modify,if_neg (fun h=>hne h.symm)]
  rfl
 have hsize : w.heap.size <= (sortWorldK enc k w b 0 n d' os).heap.size:=by
  unfold sortWorldK; rw [size_grow]; unfold putRowK; rw [Go.Sort.size_putRow]; exact Nat.le_add_right _ _
 have hnd:=st.nodE s0
 have hFnil : (List.range (d.toList.map el).length).flatMap Fs = []:=by
  rw [List.flatMap_eq_nil_iff]
  intro i hi
  exact (hpart i (by simpa using hi)).2
 rw [hFnil] at hFe
 refine fin _ [b] (st.turn (F:=[b]) hs rfl ⟨rfl, ?_⟩ rfl hsize (fun b' hb' hn=>hother b' hb' (fun h=>hn (by rw [hFe,h]; simp))) (by simp) (fun x hx=>.inl (by rw [hFe]; exact hx)) ?_)
 · show w.drawn <= w.drawn + n; omega
 refine (SR_plain rfl).2 ⟨_,hv0, ?_⟩
 simp only [VR,D.isAgg,Bool.false_eq_true,if_false]
 have hsz' : (putCells id 0 (flatK enc k d') cs).size = cs.size:=by simp [putCells]
 have hget : ∀ j (hj : j < cs.size),(putCells id 0 (flatK enc k d') cs)[j]'(by rw [hsz']; exact hj) = if j < d'.size * k then (flatK enc k d')[j]! else cs[j]:=fun j hj=>by
  simp only [putCells,Array.getElem_mapIdx,Nat.zero_le,true_and,Nat.zero_add,size_flatK,Nat.sub_zero,id]
 have hdk : d'.size * k <= cs.size:=by rw [hS.sz,hsz]; exact Nat.mul_le_mul_right k hc
 have key:=Rc.slO (w:=sortWorldK enc k w b 0 n d' os) (ρ:=ρ) (G:=gd C (Go.Sx.upd Fe s0 [b]) Fb) (L:=fun id=>(σ.box id).isSome) (p:=true) b (putCells id 0 (flatK enc k d') cs) e cap k (d'.toList.map el) (fun _=>[]) hheap
  (by simp [hS.sz,hc]) hm (by rw [hsz',hsz]) (fun u hu=>by
   obtain ⟨j,hj,rfl⟩:=List.getElem_of_mem hu
   have hj' : j < cs.size:=by simpa [hsz'] using hj
   rw [Array.getElem_toList,hget j hj']
   split
   · rename_i hlt
     have k0 : 0 < k:=Nat.pos_of_ne_zero fun h=>by subst h; simp at hlt
     rw [get_flatK _ _ _ _ hlt]
     refine h1 d'[j / k]! _ ?_
     have hm' : j % k < (enc d'[j / k]!).length:=by rw [hk]; exact Nat.mod_lt _ k0
     rw [getElem!_pos (enc d'[j / k]!) (j % k) hm']
     exact List.getElem_mem _
   · exact ho1 _ (by simp)) (fun i hi=>by
   have hi' : i < d'.size:=by simpa using hi
   rw [List.getElem_map]
   have e1 : ((putCells id 0 (flatK enc k d') cs).toList.drop (i * k)).take k = enc d'[i]:=by
    have hik : i * k + k <= d'.size * k:=by
     have:=Nat.mul_le_mul_right k (show i + 1 <= d'.size from hi'); rwa [Nat.add_mul,Nat.one_mul] at this
    refine List.ext_getElem (by rw [List.length_take,List.length_drop,Array.length_toList,hsz',hk]; omega) fun j h2 h3=>?_
    rw [hk] at h3
    rw [List.getElem_take,List.getElem_drop,Array.getElem_toList,hget _ (by omega),if_pos (by omega),get_flatK _ _ _ _ (by omega)]
    have q1 : (i * k + j) / k = i:=by
     rw [Nat.mul_comm,Nat.mul_add_div (by omega),Nat.div_eq_of_lt h3,Nat.add_zero]
    have q2 : (i * k + j) % k = j:=by
     rw [Nat.mul_comm,Nat.mul_add_mod,Nat.mod_eq_of_lt h3]
    rw [q1,q2,getElem!_pos d' i hi',getElem!_pos (enc d'[i]) j (by rw [hk]; exact h3)]
   show Rc _ _ _ _ false _ (((putCells id 0 (flatK enc k d') cs).toList.drop (i * k)).take k) _
   rw [e1]
   exact hel _ _ _ _ _)
 have e5 : (List.range (d'.toList.map el).length).flatMap (fun _ : Nat=>([] : List Nat)) = []:=by
  rw [List.flatMap_eq_nil_iff]; intro _ _; rfl
 rw [e5] at key
 have e6 : (d'.toList.map el).length = d.size:=by simp [hS.sz]
 rw [e6] at key
 simpa using key
theorem R.slM {t e z bytes : Nat} {x yh ym : Operand} {l : List D} {ty rt : TypeId} [hT : SlT P ty e] [hE : ElT P e z bytes]
 (hx : ev C.gl σ x = some (.sl none z l)) {j1 j2 : Int} (hh : ev C.gl σ yh = some (.int j1)) (hm : ev C.gl σ ym = some (.int j2)) (e1 : j1 = l.length) (e2 : j2 = l.length) (ht : t < σ.n) :
 OpS P C ⟨some t,.slice ty x none (some yh) (some ym),rt,pos,aft,g⟩ σ (σ.set t (.sl none z l)):=by
 subst e1; subst e2
 refine OpS.value fun a w ⟨ρ,Fe,Fb,st⟩=>?_
 obtain ⟨F,hv,_⟩:=ev_ok st hx rfl
 have hF:=hv.pur rfl
 subst hF
 simp only [VR,D.isAgg,Bool.false_eq_true,if_false] at hv
 generalize hex : a.eval x = vx at hv
 obtain ⟨k1,g1⟩:=bound_ok st (x:=yh) (n:=l.length) (by rw [hh]; rfl)
 obtain ⟨k2,g2⟩:=bound_ok st (x:=ym) (n:=l.length) (by rw [hm]; rfl)
 have hb : ∀ cap,l.length <= cap -> (Instr.sliceBounds true l.length cap none (some (a.eval yh)) (some (a.eval ym))).run P w = .ok (0,l.length,l.length) w:=fun cap hc=>by
  have q1:=run_sliceBound (P:=P) w k2 (l.length : Int) cap .slice3Acap (by omega) (by omega)
  have q2:=run_sliceBound (P:=P) w k1 (l.length : Int) l.length .slice3B (by omega) (by omega)
  rw [g1,g2]
  simp [Instr.sliceBounds,q1,q2]
 have key : ∀ base cap,l.length <= cap -> vx = .slice base l.length cap -> (execOp a.eval ⟨some t,.slice ty x none (some yh) (some ym),rt,pos,aft,g⟩).run P w = .ok (.value (.slice base l.length l.length)) w:=by
  rintro base cap hc rfl
  have q:=hb cap hc
  unfold execOp
  have e0 : (base.map fun p : Addr=>p.add 0) = base:=by cases base <;> simp [Addr.add]
  simp [Instr.sliceAt,Instr.slice,run_underlying hT.u,ElT.size (P:=P) (e:=e),hex,q,e0]
 cases hv with
 | slN=>exact ⟨.slice none 0 0,w,key none 0 (Nat.le_refl _) rfl,st.put ht rfl (by simp only [VR,D.isAgg,Bool.false_eq_true,if_false]; exact .slN none z)⟩
 | slE _ _ aa=>exact ⟨.slice (some aa) 0 0,w,key (some aa) 0 (Nat.le_refl _) rfl,st.put ht rfl (by simp only [VR,D.isAgg,Bool.false_eq_true,if_false]; exact .slE none z aa)⟩
 | slI b off cs e' fz cap _ _ hb' hG hc hs hr=>exact ⟨_,w,key _ cap hc rfl,st.put ht rfl (by simp only [VR,D.isAgg,Bool.false_eq_true,if_false]; exact .slI b off cs e' fz l.length z l hb' hG (Nat.le_refl _) hs hr)⟩
theorem run_loadB : ∀ (xs : List UInt8) (ad : Addr) (acc : ByteArray),(∀ j (hj : j < xs.length),w.cell? (ad.add j) = some (.int .u8 (xs[j].toNat : Int))) ->
 (Extern.Bytes.loadBytes ad xs.length acc).run P w = .ok ⟨acc.data ++ xs.toArray⟩ w
 | [],ad,acc,_=>by simp [Extern.Bytes.loadBytes]
 | x :: l,ad,acc,h=>by
  have h0 : w.cell? ad = some (.int .u8 (x.toNat : Int)):=by
   have:=h 0 (by simp)
   simpa [Addr.add] using this
  have ih:=run_loadB l (ad.add 1) (acc.push x) (fun j hj=>by
   have:=h (j + 1) (by simpa using hj)
   simp only [List.getElem_cons_succ] at this
   rw [<- this]
   have ea : (ad.add 1).add j = ad.add (j + 1):=by simp [Addr.add,Nat.add_assoc,Nat.add_comm 1 j]
   rw [ea])
  have e : ((x.toNat : Int)).toNat.toUInt8 = x:=by simp
  simp only [List.length_cons,Extern.Bytes.loadBytes,Sem.run_bind,run_load,h0,Result.andThen,e]
  rw [ih]
  congr 2
  simp [ByteArray.push]
theorem run_bytesOfS (st : StW C σ a w ρ Fe Fb) {s : Nat} {xs : List UInt8} (h : SC σ s 1 (xs.map D.u8)) :
 ∃ v,a.eval (.tmp s) = v /\ (Extern.Bytes.bytesOf v).run P w = .ok ⟨xs.toArray⟩ w:=by
 obtain ⟨base,len,cap,hv,hlen,hd⟩:=SC_ok st h
 have hlen' : len = xs.length:=by simpa using hlen
 subst hlen'
 refine ⟨_,eval_tmp hv, ?_⟩
 have hcell : ∀ ad,base = some ad -> ∀ j (hj : j < xs.length),w.cell? (ad.add j) = some (.int .u8 (xs[j].toNat : Int)):=by
  rintro ad rfl j hj
  rcases hd with ⟨h3,h4⟩ | ⟨b,o,cs,e',fz,hba,hb,hc,hs,hr⟩
  · omega
  · simp only [Option.some.injEq] at hba
    subst hba
    rw [add_lit,cell_of_row w b _ cs e' fz hb]
    obtain ⟨F,hF⟩:=hr j (by simpa using hj)
    simp only [List.getElem_map,Nat.mul_one] at hF hs
    have hlt : o + j < cs.size:=by omega
    rw [List.drop_eq_getElem_cons (by simpa using hlt),List.take_succ_cons,List.take_zero] at hF
    rw [Array.getElem?_eq_getElem hlt,<- Array.getElem_toList]
    generalize cs.toList[o + j] = vv at hF
    cases hF
    rfl
 cases base with
 | some ad=>
  have:=run_loadB (P:=P) xs ad .empty (hcell ad rfl)
  simp only [Extern.Bytes.bytesOf,this]
  simp
 | none=>
  have h0 : xs = []:=by
   rcases hd with ⟨h3,h4⟩ | ⟨b,o,cs,e',fz,hba,_⟩
   · exact List.length_eq_zero_iff.1 h3
   · cases hba
  subst h0
  rfl
theorem run_cmpB {va vb : Value} {x y : ByteArray} (ha : (Extern.Bytes.bytesOf va).run P w = .ok x w) (hb : (Extern.Bytes.bytesOf vb).run P w = .ok y w) :
 (Extern.BytealgCompare.compare #[va,vb]).run P w = .ok (.int .i64 (Lib.compareBytes x.data.toList y.data.toList)) w:=by
 have h:=Lib.run_compareString (P:=P) x y w
 have e : ∀ u v : Value,(Extern.BytealgCompare.compare #[u,v]) = (Extern.Bytes.bytesOf u >>= fun p=>Extern.Bytes.bytesOf v >>= fun q=>pure (goInt (Extern.BytealgCompare.cmp p q))):=fun _ _=>rfl
 rw [e] at h ⊢
 simp only [Sem.run_bind,ha,hb,Result.andThen_ok] at h ⊢
 simpa [Extern.Bytes.bytesOf] using h
class ExC (P : Program) (f : FuncId) : Prop where
 i : ∃ fn,P.funcs[f]? = some fn /\ (fn.name == "runtime.NumGoroutine") = false /\ fn.body.isNone = true /\ Extern.findNext fn = none /\ Extern.find fn = some Extern.BytealgCompare.compare
theorem R.cmpB {s s' t : Nat} {xs ys : List UInt8} {f : FuncId} [hX : ExC P f] {tys : Array TypeId} {rt : TypeId}
 (h : SC σ s 1 (xs.map D.u8)) (h' : SC σ s' 1 (ys.map D.u8)) (ht : t < σ.n) :
 OpS P C ⟨some t,.call { callee:=.value (.func f),args:=#[.tmp s,.tmp s'],argTypes:=tys },rt,pos,aft,g⟩ σ (σ.set t (.int (Lib.compareBytes xs ys))):=by
 refine OpS.value fun a w ⟨ρ,Fe,Fb,st⟩=>?_
 obtain ⟨fn,h1,h2,h3,h4,h5⟩:=hX.i
 obtain ⟨v,hv,hb⟩:=run_bytesOfS (P:=P) st h
 obtain ⟨v',hv',hb'⟩:=run_bytesOfS (P:=P) st h'
 refine ⟨.int .i64 (Lib.compareBytes xs ys),w, ?_,st.put ht rfl (by simp only [VR,D.isAgg,Bool.false_eq_true,if_false]; exact .int _)⟩
 have hc:=run_callFunc_extern h1 h2 h3 h4 h5 #[v,v'] w
 rw [run_cmpB hb hb'] at hc
 unfold execOp
 simp [resolve,Act.eval,Deferred.ofValue,invoke] at hv hv' ⊢
 simp [hv,hv',hc,Result.andThen]
end Go.Sx

namespace Go.Sx
open Go.Proofs
structure Un where
 tx : Hs
 n : UInt32
 value : UInt64
 ht : Int
 deriving Inhabited,DecidableEq
structure Wnt where
 script : List UInt8
 value : UInt64
 deriving Inhabited
def coD (c : Un) : D:=.agg [.agg [hashD c.tx,.u32 c.n],.u64 c.value,.int c.ht]
def wntD (c : Wnt) : D:=.agg [bytesD c.script,.u64 c.value]
def upl (c : Un) : Plc:=(c.tx,c.n)
def c64 (a b : UInt64) : Int:=if a < b then -1 else if b < a then 1 else 0
def c32 (a b : UInt32) : Int:=if a < b then -1 else if b < a then 1 else 0
def orS : List Int -> Int
 | []=>0
 | x :: r=>if x = 0 then orS r else x
def ordS (a b : Un) : Int:=orS [c64 b.value a.value,Lib.compareBytes a.tx b.tx,c32 a.n b.n]
theorem orS_z {l : List Int} (h : ∀ j < l.length,l[j]! = 0) : orS l = 0:=by
 induction l with
 | nil=>rfl
 | cons x r ih=>
  have h0:=h 0 (by simp)
  simp only [List.getElem!_cons_zero] at h0
  rw [orS,if_pos h0]
  exact ih fun j hj=>by have:=h (j + 1) (by simpa using hj); simpa using this
theorem orS_at {l : List Int} {i : Nat} (hi : i < l.length) (h : ∀ j < i,l[j]! = 0) (hx : l[i]! ≠ 0) : orS l = l[i]!:=by
 induction l generalizing i with
 | nil=>exact absurd hi (Nat.not_lt_zero _)
 | cons x r ih=>
  cases i with
  | zero=>simp only [List.getElem!_cons_zero] at hx ⊢; rw [orS,if_neg hx]
  | succ i=>
   have h0:=h 0 (by omega)
   simp only [List.getElem!_cons_zero] at h0
   rw [orS,if_pos h0]
   have:=ih (i:=i) (by simpa using hi) (fun j hj=>by have:=h (j + 1) (by omega); simpa using this) (by simpa using hx)
   simpa using this
theorem c64_1 {a b : UInt64} (h : a < b) : c64 a b = -1:=if_pos h
theorem c64_2 {a b : UInt64} (h : ¬ a < b) (h' : b < a) : c64 a b = 1:=by rw [c64,if_neg h,if_pos h']
theorem c64_3 {a b : UInt64} (h : ¬ a < b) (h' : ¬ b < a) : c64 a b = 0:=by rw [c64,if_neg h,if_neg h']
theorem c32_1 {a b : UInt32} (h : a < b) : c32 a b = -1:=if_pos h
theorem c32_2 {a b : UInt32} (h : ¬ a < b) (h' : b < a) : c32 a b = 1:=by rw [c32,if_neg h,if_pos h']
theorem c32_3 {a b : UInt32} (h : ¬ a < b) (h' : ¬ b < a) : c32 a b = 0:=by rw [c32,if_neg h,if_neg h']
instance : ExC Try.prog 55:=⟨_,Try.func55,by kernel_rfl,by kernel_rfl,by kernel_rfl,by kernel_rfl⟩
def feeP (ins outs : Int) (rate : UInt64) : Prop:=ins < 0 ∨ 4096 < ins ∨ outs < 0 ∨ 4096 < outs ∨ 1000000 < rate
instance (i o : Int) (r : UInt64) : Decidable (feeP i o r):=by unfold feeP; infer_instance
def feeV (ins outs : Int) (rate : UInt64) : UInt64:=if feeP ins outs rate then 0 else UInt64.ofInt (10 + 148 * ins + 34 * outs) * rate
def feeE (ins outs : Int) (rate : UInt64) : Int:=if feeP ins outs rate then 1 else 0
theorem fee_t {i o : Int} {r : UInt64} (h : feeP i o r) : D.tup [.u64 0,.int 1] = D.tup [.u64 (feeV i o r),.int (feeE i o r)]:=by rw [feeV,feeE,if_pos h,if_pos h]
theorem fee_f {i o : Int} {r : UInt64} (h : ¬ feeP i o r) : D.tup [.u64 (UInt64.ofInt (10 + 148 * i + 34 * o) * r),.int 0] = D.tup [.u64 (feeV i o r),.int (feeE i o r)]:=by rw [feeV,feeE,if_neg h,if_neg h]
def lftI (l : List Wnt) : Nat -> UInt64
 | 0=>2100000000000000
 | i + 1=>lftI l i - l[i]!.value
def totP (l : List Wnt) : Prop:=l.length ≠ 0 /\ l.length <= 64 /\ ∀ i < l.length,l[i]!.value ≠ 0 /\ ¬ lftI l i < l[i]!.value /\ l[i]!.script.length <= 1000
instance (l : List Wnt) : Decidable (totP l):=by unfold totP; infer_instance
def totV (l : List Wnt) : UInt64:=if totP l then 2100000000000000 - lftI l l.length else 0
def totB (l : List Wnt) : Bool:=decide (totP l)
def purI (l : List Un) : Nat -> List (Plc × UInt64)
 | 0=>[]
 | i + 1=>purI l i ++ [(upl l[i]!,l[i]!.value)]
def purA (l : List Un) (i : Nat) : Prop:=kHas (purI l i) (upl l[i]!) = false /\ ¬ 2100000000000000 < l[i]!.value
def purP (l : List Un) : Prop:=∀ i < l.length,purA l i
instance (l : List Un) (i : Nat) : Decidable (purA l i):=by unfold purA; infer_instance
instance (l : List Un) : Decidable (purP l):=by unfold purP; infer_instance
theorem pur_lt {l : List Un} {i : Nat} (hf : ¬ purP l) (hi : i <= l.length) (h : ∀ j < i,purA l j) : i < l.length:=by
 rcases Nat.lt_or_eq_of_le hi with h1 | h1
 · exact h1
 · subst h1; exact absurd h hf
end Go.Sx

namespace Go.Sx
open Go.Proofs
theorem nan64_ok (x : UInt64) : Fn Try.prog gl 54 [.u64 x] (.bool false):=by
 refine Fn.of (n:=6) Try.func54 rfl rfl rfl (nU rfl) fun C hC hD=>?_
 refine W.seq ?_
 refine W.l0 1 [.y 2 _] [] [] [(0,_)] [] 6 ⟨aU fun _ _ H _=>R.asg (kB false O) O H,Zt⟩ O O O O (tU O ?_)
 refine W.seq ?_
 refine W.l0 4 [.y 3 _,.y 4 _,.y 5 _,.y 2 _] [] [] [(2,_)] [] 6 ⟨mU 0 O O,mU 0 O O,aU fun _ _ H K=>R.bin (eU K 3 O) (eU K 4 O) O Zt H,aU fun _ _ H K=>R.asg (eU K 5 O) O H,Zt⟩ O O O O (tU O ?_)
 refine W.ret ?_
 exact Ends.one' (.inr O) O (by simp) O O Zt
theorem nan32_ok (x : UInt32) : Fn Try.prog gl 56 [.u32 x] (.bool false):=by
 refine Fn.of (n:=6) Try.func56 rfl rfl rfl (nU rfl) fun C hC hD=>?_
 refine W.seq ?_
 refine W.l0 1 [.y 2 _] [] [] [(0,_)] [] 6 ⟨aU fun _ _ H _=>R.asg (kB false O) O H,Zt⟩ O O O O (tU O ?_)
 refine W.seq ?_
 refine W.l0 4 [.y 3 _,.y 4 _,.y 5 _,.y 2 _] [] [] [(2,_)] [] 6 ⟨mU 0 O O,mU 0 O O,aU fun _ _ H K=>R.bin (eU K 3 O) (eU K 4 O) O Zt H,aU fun _ _ H K=>R.asg (eU K 5 O) O H,Zt⟩ O O O O (tU O ?_)
 refine W.ret ?_
 exact Ends.one' (.inr O) O (by simp) O O Zt
theorem cmp64_ok (x y : UInt64) : Fn Try.prog gl 39 [.u64 x,.u64 y] (.int (c64 x y)):=by
 refine Fn.of (n:=20) Try.func39 rfl rfl rfl (nU rfl) fun C hC hD=>?_
 refine W.seq ?_
 refine W.l0 1 [.y 4 _] [] [] [(0,_),(1,_)] [] 20 ⟨aU fun _ _ H _=>R.asg (kI 0 O) O H,Zt⟩ O O O O (tU O ?_)
 refine W.seq ?_
 refine W.l0 3 [.y 7 _,.y 8 _,.y 5 _] [] [] [(0,_),(1,_),(5,_)] [] 20 ⟨mU 0 O O,aU fun _ _ H K=>R.callG hC (nan64_ok x) (Bc (Bp (eU K 7 O) O O) Bn) (FrsR.one (.bool _)) H,aU fun _ _ H K=>R.asg (eU K 8 O) O H,Zt⟩ O O O O (tU O ?_)
 refine W.seq ?_
 refine W.l0 3 [.y 9 _,.y 10 _,.y 6 _] [] [] [(0,_),(1,_),(5,_),(6,_)] [] 20 ⟨mU 1 O O,aU fun _ _ H K=>R.callG hC (nan64_ok y) (Bc (Bp (eU K 9 O) O O) Bn) (FrsR.one (.bool _)) H,aU fun _ _ H K=>R.asg (eU K 10 O) O H,Zt⟩ O O O O (tU O ?_)
 refine W.seq (W.seq ?_)
 refine W.l0 1 [.y 11 _] [] [] [(0,_),(1,_),(6,_),(11,_)] [] 20 ⟨mU 5 O O,Zt⟩ O O O O (tU O ?_)
 refine W.condF O (O) ?_
 refine W.skip (W.seq (W.seq ?_))
 refine W.l0 1 [.y 13 _] [] [] [(0,_),(1,_),(13,_)] [] 20 ⟨mU 6 O O,Zt⟩ O O O O (tU O ?_)
 refine W.condF O (O) ?_
 refine W.skip (W.seq (W.seq ?_))
 refine W.l0 3 [.y 14 _,.y 15 _,.y 16 _] [] [] [(0,_),(1,_),(16,_)] [] 20 ⟨mU 0 O O,mU 1 O O,aU fun _ _ H K=>R.bin (eU K 14 O) (eU K 15 O) O Zt H,Zt⟩ O O O O (tU O ?_)
 refine W.cond O (fun hc16=>?_) (fun hc16=>?_)
 · refine W.seq ?_
   refine W.l0 1 [.y 4 _] [] [] [(4,_)] [] 20 ⟨aU fun _ _ H _=>R.asg (show ev _ _ (.const (.int .i64 (-1))) = some (.int (-1)) from O) O H,Zt⟩ O O O O (tU O ?_)
   refine W.ret ?_
   exact Ends.one' (.inr O) O (by rw [c64_1 (of_decide_eq_true hc16)]) O O Zt
 · refine W.skip (W.seq (W.seq ?_))
   refine W.l0 3 [.y 17 _,.y 18 _,.y 19 _] [] [] [(19,_)] [] 20 ⟨mU 0 O O,mU 1 O O,aU fun _ _ H K=>R.bin (eU K 17 O) (eU K 18 O) O Zt H,Zt⟩ O O O O (tU O ?_)
   refine W.cond O (fun hc19=>?_) (fun hc19=>?_)
   · refine W.seq ?_
     refine W.l0 1 [.y 4 _] [] [] [(4,_)] [] 20 ⟨aU fun _ _ H _=>R.asg (kI 1 O) O H,Zt⟩ O O O O (tU O ?_)
     refine W.ret ?_
     exact Ends.one' (.inr O) O (by rw [c64_2 (of_decide_eq_false hc16) (of_decide_eq_true hc19)] <;> rfl) O O Zt
   · refine W.skip (W.seq ?_)
     refine W.l0 1 [.y 4 _] [] [] [(4,_)] [] 20 ⟨aU fun _ _ H _=>R.asg (kI 0 O) O H,Zt⟩ O O O O (tU O ?_)
     refine W.ret ?_
     exact Ends.one' (.inr O) O (by rw [c64_3 (of_decide_eq_false hc16) (of_decide_eq_false hc19)] <;> rfl) O O Zt
theorem cmp32_ok (x y : UInt32) : Fn Try.prog gl 41 [.u32 x,.u32 y] (.int (c32 x y)):=by
 refine Fn.of (n:=20) Try.func41 rfl rfl rfl (nU rfl) fun C hC hD=>?_
 refine W.seq ?_
 refine W.l0 1 [.y 4 _] [] [] [(0,_),(1,_)] [] 20 ⟨aU fun _ _ H _=>R.asg (kI 0 O) O H,Zt⟩ O O O O (tU O ?_)
 refine W.seq ?_
 refine W.l0 3 [.y 7 _,.y 8 _,.y 5 _] [] [] [(0,_),(1,_),(5,_)] [] 20 ⟨mU 0 O O,aU fun _ _ H K=>R.callG hC (nan32_ok x) (Bc (Bp (eU K 7 O) O O) Bn) (FrsR.one (.bool _)) H,aU fun _ _ H K=>R.asg (eU K 8 O) O H,Zt⟩ O O O O (tU O ?_)
 refine W.seq ?_
 refine W.l0 3 [.y 9 _,.y 10 _,.y 6 _] [] [] [(0,_),(1,_),(5,_),(6,_)] [] 20 ⟨mU 1 O O,aU fun _ _ H K=>R.callG hC (nan32_ok y) (Bc (Bp (eU K 9 O) O O) Bn) (FrsR.one (.bool _)) H,aU fun _ _ H K=>R.asg (eU K 10 O) O H,Zt⟩ O O O O (tU O ?_)
 refine W.seq (W.seq ?_)
 refine W.l0 1 [.y 11 _] [] [] [(0,_),(1,_),(6,_),(11,_)] [] 20 ⟨mU 5 O O,Zt⟩ O O O O (tU O ?_)
 refine W.condF O (O) ?_
 refine W.skip (W.seq (W.seq ?_))
 refine W.l0 1 [.y 13 _] [] [] [(0,_),(1,_),(13,_)] [] 20 ⟨mU 6 O O,Zt⟩ O O O O (tU O ?_)
 refine W.condF O (O) ?_
 refine W.skip (W.seq (W.seq ?_))
 refine W.l0 3 [.y 14 _,.y 15 _,.y 16 _] [] [] [(0,_),(1,_),(16,_)] [] 20 ⟨mU 0 O O,mU 1 O O,aU fun _ _ H K=>R.bin (eU K 14 O) (eU K 15 O) O Zt H,Zt⟩ O O O O (tU O ?_)
 refine W.cond O (fun hc16=>?_) (fun hc16=>?_)
 · refine W.seq ?_
   refine W.l0 1 [.y 4 _] [] [] [(4,_)] [] 20 ⟨aU fun _ _ H _=>R.asg (show ev _ _ (.const (.int .i64 (-1))) = some (.int (-1)) from O) O H,Zt⟩ O O O O (tU O ?_)
   refine W.ret ?_
   exact Ends.one' (.inr O) O (by rw [c32_1 (of_decide_eq_true hc16)]) O O Zt
 · refine W.skip (W.seq (W.seq ?_))
   refine W.l0 3 [.y 17 _,.y 18 _,.y 19 _] [] [] [(19,_)] [] 20 ⟨mU 0 O O,mU 1 O O,aU fun _ _ H K=>R.bin (eU K 17 O) (eU K 18 O) O Zt H,Zt⟩ O O O O (tU O ?_)
   refine W.cond O (fun hc19=>?_) (fun hc19=>?_)
   · refine W.seq ?_
     refine W.l0 1 [.y 4 _] [] [] [(4,_)] [] 20 ⟨aU fun _ _ H _=>R.asg (kI 1 O) O H,Zt⟩ O O O O (tU O ?_)
     refine W.ret ?_
     exact Ends.one' (.inr O) O (by rw [c32_2 (of_decide_eq_false hc16) (of_decide_eq_true hc19)] <;> rfl) O O Zt
   · refine W.skip (W.seq ?_)
     refine W.l0 1 [.y 4 _] [] [] [(4,_)] [] 20 ⟨aU fun _ _ H _=>R.asg (kI 0 O) O H,Zt⟩ O O O O (tU O ?_)
     refine W.ret ?_
     exact Ends.one' (.inr O) O (by rw [c32_3 (of_decide_eq_false hc16) (of_decide_eq_false hc19)] <;> rfl) O O Zt
theorem or_ok (l : List Int) (hl : l.length <= 1000) : Fn Try.prog gl 38 [.sl none 1 (l.map D.int)] (.int (orS l)):=by
 refine Fn.of (n:=18) Try.func38 rfl rfl rfl (nU rfl) fun C hC hD=>?_
 refine W.seq ?_
 refine W.l0 1 [.y 2 _] [] [] [(0,_)] [] 18 ⟨aU fun _ _ H _=>R.asg (kI 0 O) O H,Zt⟩ O O O O (tU O ?_)
 refine W.seq ?_
 refine W.l0 1 [.y 3 _] [] [] [(0,_),(3,_)] [] 18 ⟨aU fun _ _ H _=>R.asg (kI 0 O) O H,Zt⟩ O O O O (tU O ?_)
 refine W.seq (W.seq ?_)
 refine W.l0 3 [.y 6 _,.y 7 _,.y 8 _] [] [] [(3,_),(6,_),(7,_),(8,_)] [] 18 ⟨mU 0 O O,aU fun _ _ H K=>R.lenE (SC.sl (K 6 _ O)) (lN _) H,aU fun _ _ H _=>R.mov (kI 0 O) O H,Zt⟩ O O O O (tU O ?_)
 refine W.block ?_
 refine W.loop (α:={q__ : Nat // q__ <= l.length /\ ∀ j < q__,l[j]! = 0}) (fun q__=>⟨18,[(3,.int 0),(6,.sl none 1 (l.map D.int)),(7,.int ((l.length : Nat) : Int)),(8,.int ((q__.1 : Nat) : Int))],[]⟩) (fun q__=>l.length - q__.1) ⟨(0),⟨Nat.zero_le _,fun j h=>absurd h (Nat.not_lt_zero _)⟩⟩ O ?_
 rintro ⟨i,⟨hi,hz⟩⟩
 show W _ _ _ _ ⟨18,[(3,.int 0),(6,.sl none 1 (l.map D.int)),(7,.int ((l.length : Nat) : Int)),(8,.int ((i : Nat) : Int))],[]⟩
 have hi : i <= l.length:=hi
 have hz : ∀ j < i,l[j]! = 0:=hz
 refine W.seq ?_
 refine W.l0 1 [.y 9 _] [] [] [(3,_),(6,_),(7,_),(8,_),(9,_)] [] 18 ⟨aU fun _ _ H K=>R.lssN (i) (l.length) (eU K 8 O) (eU K 7 O) H,Zt⟩ O O O O (tU O ?_)
 refine W.seq ?_
 refine W.condD O (fun hc9=>?_) (fun hc9=>?_)
 · refine W.skip (W.seq (W.block (W.seq ?_)))
   refine W.l0 3 [.y 10 _,.y 11 _,.y 5 _] [] [] [(3,_),(5,_),(6,_),(7,_),(8,_)] [] 18 ⟨aU fun _ _ H K=>R.idxN (i) (SC.sl (K 6 _ O)) (evoI (eU K 8 O)) O bU H dU,aU fun _ _ H K=>R.ldE (K 10 _ O) (SC.sl (K 6 _ O)) (map_get! (l:=l) bU) O O O O H,aU fun _ _ H K=>R.asg (eU K 11 O) O H,Zt⟩ O O O O (tU O ?_)
   refine W.seq ?_
   refine W.l0 3 [.y 12 _,.y 13 _,.y 14 _] [] [] [(3,_),(5,_),(6,_),(7,_),(8,_),(14,_)] [] 18 ⟨mU 5 O O,mU 3 O O,aU fun _ _ H K=>R.bin (eU K 12 O) (eU K 13 O) O Zt H,Zt⟩ O O O O (tU O ?_)
   refine W.cond O (fun hc14=>?_) (fun hc14=>?_)
   · refine W.seq ?_
     refine W.l0 2 [.y 15 _,.y 2 _] [] [] [(2,_)] [] 18 ⟨mU 5 O O,aU fun _ _ H K=>R.asg (eU K 15 O) O H,Zt⟩ O O O O (tU O ?_)
     refine W.ret ?_
     exact Ends.one' (.inr O) O (by rw [orS_at hc9 hz (by simpa using hc14)]) O O Zt
   · refine W.skip ?_
     refine W.l0 2 [.y 16 _,.y 8 _] [] [] [(3,_),(6,_),(7,_),(8,_)] [] 18 ⟨aU fun _ _ H K=>R.addN (i) (1) (eU K 8 O) (kI 1 O) bU H,mU 16 O O,Zt⟩ O O O O (tU O ?_)
     exact ⟨⟨(i + 1),⟨by omega,ext_i hz (by simpa using hc14)⟩⟩,rfl,(by simp only []; omega)⟩
 · obtain rfl : i = l.length:=by omega
   refine W.exit (W.seq ?_)
   refine W.l0 2 [.y 17 _,.y 2 _] [] [] [(2,_)] [] 18 ⟨mU 3 O O,aU fun _ _ H K=>R.asg (eU K 17 O) O H,Zt⟩ O O O O (tU O ?_)
   refine W.ret ?_
   exact Ends.one' (.inr O) O (by rw [orS_z hz]) O O Zt
theorem bcmp_ok (a b : List UInt8) : Fn Try.prog gl 40 [.sl none 1 (a.map D.u8),.sl none 1 (b.map D.u8)] (.int (Lib.compareBytes a b)):=by
 refine Fn.of (n:=8) Try.func40 rfl rfl rfl (nU rfl) fun C hC hD=>?_
 refine W.seq ?_
 refine W.l0 1 [.y 4 _] [] [] [(0,_),(1,_)] [] 8 ⟨aU fun _ _ H _=>R.asg (kI 0 O) O H,Zt⟩ O O O O (tU O ?_)
 refine W.seq ?_
 refine W.l0 4 [.y 5 _,.y 6 _,.y 7 _,.y 4 _] [] [] [(4,_)] [] 8 ⟨mU 0 O O,mU 1 O O,aU fun _ _ H K=>R.cmpB (SC.sl (K 5 _ O)) (SC.sl (K 6 _ O)) H,aU fun _ _ H K=>R.asg (eU K 7 O) O H,Zt⟩ O O O O (tU O ?_)
 refine W.ret ?_
 exact Ends.one' (.inr O) O (O) O O Zt
end Go.Sx

namespace Go.Sx
open Go.Proofs
theorem take32 {a : List UInt8} (h : a.length = 32) : (a.drop 0).take 32 = a:=by
 rw [List.drop_zero,List.take_of_length_le (by rw [h]; exact Nat.le_refl _)]
theorem bcmp32 (a b : List UInt8) (ha : a.length = 32) (hb : b.length = 32) : Fn Try.prog gl 40 [.sl none 1 (((a.drop 0).take 32).map D.u8),.sl none 1 (((b.drop 0).take 32).map D.u8)] (.int (Lib.compareBytes a b)):=by
 rw [take32 ha,take32 hb]; exact bcmp_ok a b
end Go.Sx
