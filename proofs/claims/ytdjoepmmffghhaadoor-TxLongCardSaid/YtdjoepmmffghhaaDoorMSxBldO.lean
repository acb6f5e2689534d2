/-
 Own library: structs of parts that own; a box's content,owning,is loaded.
-/
import Derived.Test.YtdjoepmmffghhaaDoorMSxPanic
import Derived.Recover
import Derived.Test.YtdjoepmmffghhaaDoorMSxOwn
import Derived.Test.YtdjoepmmffghhaaDoorProg
set_option linter.unusedVariables false
set_option linter.unusedSimpArgs false
set_option linter.unnecessarySimpa false

namespace Go.Sx

variable {P : Program} {C : Ctx} {σ σ' σ1 : Sg} {a : Act} {w w' : World} {ρ : Nat → Nat} {Fe Fe' Fb : Nat → List Nat}

def killL (σ : Sg) : List Nat → Sg
 | [] => σ
 | s :: r => killL (σ.kill s) r
theorem killL_n : ∀ (S : List Nat) (σ : Sg),(killL σ S).n = σ.n ∧ (killL σ S).bx = σ.bx := by
 intro S
 induction S with
 | nil => intro σ; exact ⟨rfl,rfl⟩
 | cons s r ih => intro σ; exact ih (σ.kill s)
theorem killL_get : ∀ (S : List Nat) (σ : Sg) (u : Nat),(killL σ S).get u = if u ∈ S then some .dead else σ.get u := by
 intro S
 induction S with
 | nil => intro σ u; simp [killL]
 | cons s r ih =>
  intro σ u
  simp only [killL]
  rw [ih,get_kill]
  by_cases h1 : u ∈ r
  · simp [h1]
  · by_cases h2 : u = s
    · simp [h2]
    · simp [h1,h2]

theorem StW.takeL {S : List Nat} {t : Nat} {d : D} {v : Value} {F : List Nat} (h : StW C σ a w ρ Fe Fb) (ht : t < σ.n) (hst : t ∉ S) (hS : ∀ s ∈ S,∃ d0,σ.get s = some d0)
 (hF : F.Nodup) (hFs : ∀ b ∈ F,∃ s ∈ S,b ∈ Fe s)
 (hv : SR w ρ (gd C (upd (fun u => if u ∈ S then [] else Fe u) t F) Fb) (fun id => (σ.box id).isSome) (a.put (some t) v) t d F) :
 StW C ((killL σ S).set t d) (a.put (some t) v) w ρ (upd (fun u => if u ∈ S then [] else Fe u) t F) Fb := by
 have hsz : t < a.tmps.size := by rw [h.size]; exact ht
 let Fx : Nat → List Nat := upd (fun u => if u ∈ S then [] else Fe u) t F
 have hFx : ∀ u,u ≠ t → ∀ b ∈ Fx u,b ∈ Fe u ∧ u ∉ S := fun u hut b hb => by
  simp only [Fx,upd_other hut] at hb
  by_cases hus : u ∈ S
  · simp [hus] at hb
  · simp only [hus,if_false] at hb; exact ⟨hb,hus⟩
 have hFt : Fx t = F := by simp [Fx]
 have ho : ∀ b,own Fx Fb b → own Fe Fb b := by
  rintro b (⟨u,hu⟩ | hid)
  · by_cases hut : u = t
    · subst hut; rw [hFt] at hu
      obtain ⟨s,_,hs⟩ := hFs b hu
      exact .inl ⟨s,hs⟩
    · exact .inl ⟨u,(hFx u hut b hu).1⟩
  · exact .inr hid
 have hg : ∀ b,gd C Fe Fb b → gd C Fx Fb b := fun b hb => ⟨hb.1,fun hc => hb.2 (ho b hc)⟩
 obtain ⟨hn,hbx⟩ := killL_n S σ
 have hbox : ∀ id,((killL σ S).set t d).box id = σ.box id := fun id => by
  show lk (killL σ S).bx id = _
  rw [hbx]; rfl
 have hLf : (fun id => (((killL σ S).set t d).box id).isSome = true) = fun id => (σ.box id).isSome = true := by funext id; rw [hbox]
 have hnotF : ∀ u,u ≠ t → ∀ b ∈ Fx u,b ∉ F := fun u hut b hb hbF => by
  obtain ⟨h1,h2⟩ := hFx u hut b hb
  obtain ⟨s,hs,h3⟩ := hFs b hbF
  exact h.dEE u s (fun e => h2 (e ▸ hs)) b h1 h3
 refine {
  size := ?_
  defs := h.defs
  pin := fun id b hp => by rw [hbox]; exact h.pin id b hp
  env := fun u x hx => ?_
  envN := fun u hu => ?_
  bx := fun id x hx => by rw [hLf]; exact (h.bx id x (by rw [← hbox]; exact hx)).mono (fun _ _ _ => rfl) (fun b hb _ => hg b hb) (fun i hi => ⟨hi,rfl⟩)
  bxN := fun id hx => h.bxN id (by rw [← hbox]; exact hx)
  nodE := fun u => ?_
  nodB := h.nodB
  dEE := fun u u' huu b hb hb' => ?_
  dEB := fun u id b hb hb' => ?_
  dBB := h.dBB
  new := fun b hb => h.new b (ho b hb)
  kept := h.kept
  os := h.os
  tape := h.tape
  output := h.output
  grown := h.grown
  gl := h.gl
  okN := h.okN
  okO := fun b hb => h.okO b (ho b hb) }
 · simp [Act.put,h.size,hn]
 · rw [hLf]
   rw [get_set] at hx
   by_cases hut : u = t
   · subst hut; simp at hx; subst hx
     simp only [upd_same]; exact hv
   · simp only [hut,if_false] at hx
     obtain ⟨d1,hd1,rfl⟩ := Option.map_eq_some_iff.1 hx
     rw [killL_get] at hd1
     by_cases hus : u ∈ S
     · simp only [hus,if_true,Option.some.injEq] at hd1
       subst hd1
       obtain ⟨d0,hd0⟩ := hS u hus
       obtain ⟨v0,hv0⟩ := (h.env u d0 hd0).there
       refine ⟨by simp [upd_other hut,hus],v0,by rw [put_get a t v u hsz]; simp [hut,hv0]⟩
     · simp only [hus,if_false] at hd1
       have hFu : upd (fun u => if u ∈ S then [] else Fe u) t F u = Fe u := by simp [upd_other hut,hus]
       rw [hFu]
       exact SR_other hut hsz (h.env u d1 hd1) (fun _ _ _ => rfl) (fun b hb _ => hg b hb) (fun id hid => ⟨hid,rfl⟩) (fun _ _ _ _ h => h)
 · rw [get_set] at hu
   by_cases hut : u = t
   · simp [hut] at hu
   · simp only [hut,if_false,Option.map_eq_none_iff] at hu
     rw [killL_get] at hu
     by_cases hus : u ∈ S
     · simp [hus] at hu
     · simp only [hus,if_false] at hu
       simp [upd_other hut,hus,h.envN u hu]
 · by_cases hut : u = t
   · subst hut; simpa using hF
   · simp only [upd_other hut]
     split
     · exact List.nodup_nil
     · exact h.nodE u
 · by_cases hut : u = t
   · subst hut
     have hb1 : b ∈ F := by rw [← hFt]; exact hb
     exact hnotF u' (fun e => huu e.symm) b hb' hb1
   · by_cases hut' : u' = t
     · subst hut'
       have hb1 : b ∈ F := by rw [← hFt]; exact hb'
       exact hnotF u hut b hb hb1
     · exact h.dEE u u' huu b (hFx u hut b hb).1 (hFx u' hut' b hb').1
 · by_cases hut : u = t
   · subst hut
     have hb1 : b ∈ F := by rw [← hFt]; exact hb
     obtain ⟨s,_,hs⟩ := hFs b hb1
     exact h.dEB s id b hs hb'
   · exact h.dEB u id b (hFx u hut b hb).1 hb'

inductive EvO (gl : List (Nat × D)) (σ : Sg) (l0 : List D) : List (Nat × Operand) → List D → List D → List Nat → Prop
 | nil {l l' : List D} (h : l = l') : EvO gl σ l0 [] l l' []
 | pur {i : Nat} {x : Operand} {d : D} {ps : List (Nat × Operand)} {l l' : List D} {S : List Nat} (h : ev gl σ x = some d) (hp : d.pur = true) (hn : d.np = true) (hz : (l0[i]?).map D.sz = some d.sz) (t : EvO gl σ l0 ps (l.set i d) l' S) : EvO gl σ l0 ((i,x) :: ps) l l' S
 | own {i s : Nat} {d : D} {ps : List (Nat × Operand)} {l l' : List D} {S : List Nat} (h : σ.get s = some d) (hr : d.isRef = false) (hn : d.np = true) (hz : (l0[i]?).map D.sz = some d.sz) (hs : S.contains s = false) (t : EvO gl σ l0 ps (l.set i d) l' S) : EvO gl σ l0 ((i,.tmp s) :: ps) l l' (s :: S)

theorem set_sz {l l0 : List D} {i : Nat} {d : D} (hz : l.map D.sz = l0.map D.sz) (h : (l0[i]?).map D.sz = some d.sz) : (l.set i d).map D.sz = l0.map D.sz := by
 rw [List.map_set,← hz]
 have h2 : (l.map D.sz)[i]? = some d.sz := by rw [hz,List.getElem?_map]; exact h
 apply List.ext_getElem?
 intro j
 rw [List.getElem?_set]
 split
 · rename_i hij
   subst hij
   rw [h2]
   have := (List.getElem?_eq_some_iff.1 h2).1
   simp only [this,if_true]
 · rfl

theorem fill_one {G L : Nat → Prop} {l l0 : List D} {i : Nat} {d : D} {xc : List Value} {Fx F : List Nat} {cs : Array Value} {v : Value} (hxc : v.cells.toList = xc) (hrc : Rc w ρ G L false d xc Fx) (hz : l.map D.sz = l0.map D.sz) (p3 : (l0[i]?).map D.sz = some d.sz)
 (hr : Rc w ρ G L false (.agg l) cs.toList F) (hF : F.Nodup) (hFx : Fx.Nodup) (hdis : ∀ b ∈ Fx,b ∉ F) :
 ∃ out F',(offl l0 0).toArray[i]? = some (offk l i,d.sz) ∧ v.cells.size = d.sz ∧ ¬ (cs.size < offk l i + d.sz) ∧ v.cells.zipIdx.foldl (fun (c : Array Value) (p : Value × Nat) => c.setIfInBounds (offk l i + p.2) p.1) cs = out ∧
  Rc w ρ G L false (.agg (l.set i d)) out.toList F' ∧ F'.Nodup ∧ ∀ b ∈ F',b ∈ F ∨ b ∈ Fx := by
 have hlen := hrc.len
 cases hl0 : l0[i]? with
 | none => rw [hl0] at p3; cases p3
 | some d0 =>
  obtain ⟨hi,rfl⟩ := List.getElem?_eq_some_iff.1 hl0
  rw [hl0] at p3
  simp only [Option.map_some,Option.some.injEq] at p3
  have hll : l.length = l0.length := by have := congrArg List.length hz; simpa using this
  have hi2 : i < l.length := by omega
  have hsi : l[i].sz = d.sz := by
   have : (l.map D.sz)[i]'(by simpa using hi2) = (l0.map D.sz)[i]'(by simpa using hi) := by simp only [hz]
   simp at this
   omega
  have hoff : offk l i = offk l0 i := by
   have hs : ∀ (u v : List D),u.map D.sz = v.map D.sz → D.szs u = D.szs v := by
    intro u
    induction u with
    | nil => intro v hv; cases v <;> simp_all
    | cons a u ihu => intro v hv; cases v with
     | nil => simp at hv
     | cons b v => simp at hv; simp [hv.1,ihu v hv.2]
   unfold offk
   exact hs _ _ (by rw [List.map_take,List.map_take,hz])
  have hlo := offk_lt l i hi2
  have hcl := hr.len
  simp only [sz_agg,Array.length_toList] at hcl
  have hloc : (D.agg l).loc [i] = some (offk l i,l[i]) := by simp [D.loc,List.getElem?_eq_getElem hi2]
  have hupd : (D.agg l).upd [i] d = some (.agg (l.set i d)) := by simp [D.upd,List.getElem?_eq_getElem hi2]
  have hnoa : (D.agg l).noArr [i] = true := by simp [D.noArr,List.getElem?_eq_getElem hi2]
  obtain ⟨F2,g1,g2,g3,_⟩ := hr.upd hloc hupd hsi.symm hrc hF hFx hdis (.inr hnoa)
  have hfold := foldl_set cs xc (offk l i) 0 (by omega)
  simp only [Nat.add_zero] at hfold
  have hcs2 : (v.cells.zipIdx.foldl (fun (c : Array Value) (p : Value × Nat) => c.setIfInBounds (offk l i + p.2) p.1) cs).toList = cs.toList.take (offk l i) ++ xc ++ cs.toList.drop (offk l i + xc.length) := by
   rw [← hfold,← hxc,← Array.foldl_toList]
   simp
  rw [← hcs2] at g1
  refine ⟨_,F2, ?_, ?_,by omega,rfl,g1,g3,g2⟩
  · rw [List.getElem?_toArray,offl_get l0 0 i hi,hoff,Nat.zero_add,← p3]
  · rw [← Array.length_toList,hxc,hlen]

theorem fill_structO (st : StW C σ a w ρ Fe Fb) {G : Nat → Prop} {l0 : List D} (hG : ∀ b,gd C Fe Fb b → G b) {ps : List (Nat × Operand)} {l l' : List D} {S : List Nat} (h : EvO C.gl σ l0 ps l l' S) :
 ∀ (cs : Array Value) (F : List Nat),l.map D.sz = l0.map D.sz → Rc w ρ G (fun id => (σ.box id).isSome = true) false (.agg l) cs.toList F → F.Nodup → (∀ s ∈ S,∀ b ∈ Fe s,b ∉ F) →
  ∃ (out : Array Value) (F' : List Nat),Instr.fill ((offl l0 0).toArray[·]?) cs (ps.map (fun p => (p.1,a.eval p.2))) = some out ∧ Rc w ρ G (fun id => (σ.box id).isSome = true) false (.agg l') out.toList F' ∧ F'.Nodup ∧ ∀ b ∈ F',b ∈ F ∨ ∃ s ∈ S,b ∈ Fe s := by
 induction h with
 | nil h => subst h; intro cs F _ hr hF _; exact ⟨cs,F,rfl,hr,hF,fun b hb => .inl hb⟩
 | @pur i x d ps l l' S h hp hn hz t ih =>
  intro cs F hzz hr hF hS
  obtain ⟨xc,hxc,hrc⟩ := ev_cells st h hp
  have hrc2 := (hrc.unflag hn).mono (G' := G) (L' := fun id => (σ.box id).isSome = true) (ρ' := ρ) (fun _ _ _ => rfl) (fun b hb _ => hG b hb) (fun i hi => ⟨hi,rfl⟩)
  obtain ⟨out,F',e1,e2,e3,e4,e5,e6,e7⟩ := fill_one hxc hrc2 hzz hz hr hF List.nodup_nil (by simp)
  have e7' : ∀ b ∈ F',b ∈ F := fun b hb => (e7 b hb).resolve_right (by simp)
  obtain ⟨out2,F2,f1,f2,f3,f4⟩ := ih out F' (set_sz hzz hz) e5 e6 (fun s hs b hb hb' => hS s hs b hb (e7' b hb'))
  refine ⟨out2,F2, ?_,f2,f3,fun b hb => (f4 b hb).imp (e7' b) id⟩
  simp only [List.map_cons,Instr.fill,e1,e2]
  rw [if_neg (by simp; omega),e4]
  exact f1
 | @own i s d ps l l' S h hr0 hn hz hs t ih =>
  intro cs F hzz hr hF hS
  obtain ⟨v,hv,hvr⟩ := (SR_plain hr0).1 (st.env _ _ h)
  have hdead : d ≠ .dead := by rintro rfl; simp [D.isRef] at hr0
  have hrc := hvr.cells hdead
  have hrc2 := (hrc.unflag hn).mono (G' := G) (L' := fun id => (σ.box id).isSome = true) (ρ' := ρ) (fun _ _ _ => rfl) (fun b hb _ => hG b hb) (fun i hi => ⟨hi,rfl⟩)
  obtain ⟨out,F',e1,e2,e3,e4,e5,e6,e7⟩ := fill_one (v := v) rfl hrc2 hzz hz hr hF (st.nodE s) (fun b hb => hS s (by simp) b hb)
  have hs' : s ∉ S := by intro hm; rw [List.contains_iff_mem.2 hm] at hs; cases hs
  obtain ⟨out2,F2,f1,f2,f3,f4⟩ := ih out F' (set_sz hzz hz) e5 e6 (fun s' hs1 b hb hb' => by
   rcases e7 b hb' with h1 | h1
   · exact hS s' (List.mem_cons_of_mem _ hs1) b hb h1
   · exact st.dEE s' s (fun e => hs' (e ▸ hs1)) b hb h1)
  refine ⟨out2,F2, ?_,f2,f3,fun b hb => ?_⟩
  · simp only [List.map_cons,Instr.fill,eval_tmp hv,e1,e2]
    rw [if_neg (by simp; omega),e4]
    exact f1
  · rcases f4 b hb with h1 | ⟨s',hs1,h1⟩
    · rcases e7 b h1 with h2 | h2
      · exact .inl h2
      · exact .inr ⟨s,by simp,h2⟩
    · exact .inr ⟨s',List.mem_cons_of_mem _ hs1,h1⟩

theorem EvO.there {gl : List (Nat × D)} {l0 : List D} {ps : List (Nat × Operand)} {l l' : List D} {S : List Nat} (h : EvO gl σ l0 ps l l' S) : ∀ s ∈ S,∃ d0,σ.get s = some d0 := by
 induction h with
 | nil => intro s hs; cases hs
 | pur _ _ _ _ _ ih => exact ih
 | own h _ _ _ _ _ ih =>
  intro s hs
  rcases List.mem_cons.1 hs with rfl | hs
  · exact ⟨_,h⟩
  · exact ih s hs

theorem R.bldO {t : Nat} {ps : List (Nat × Operand)} {l l' : List D} {S : List Nat} {ty rt : TypeId} {pos : String} {aft : Array Edge} {g : Option (Nat × Bool)} [hT : BsT P ty l]
 (hps : EvO C.gl σ l ps l l' S) (hS : S.contains t = false) (ht : t < σ.n) :
 OpS P C ⟨some t,.build ty ps.toArray,rt,pos,aft,g⟩ σ ((killL σ S).set t (.agg l')) := by
 refine OpS.value fun a w ⟨ρ,Fe,Fb,st⟩ => ?_
 obtain ⟨fs,it,zv,h1,h2,h3,h4,h5⟩ := hT.i
 have htS : t ∉ S := by intro hm; rw [List.contains_iff_mem.2 hm] at hS; cases hS
 obtain ⟨out,F,q1,q2,q3,q4⟩ := fill_structO st (G := gd C Fe Fb) (fun _ h => h) hps zv.cells [] rfl (chk_ok _ _ _ _ _ _ h5) List.nodup_nil (by simp)
 have q4' : ∀ b ∈ F,∃ s ∈ S,b ∈ Fe s := fun b hb => (q4 b hb).resolve_left (by simp)
 have hps2 : (ps.toArray.map fun x => (x.1,a.eval x.2)).toList = ps.map (fun p => (p.1,a.eval p.2)) := by simp
 refine ⟨.agg out,w, ?_,ρ,_,Fb,st.takeL ht htS hps.there q3 q4' ((SR_plain rfl).2 ⟨.agg out,by rw [put_get a t _ t (by rw [st.size]; exact ht)]; simp, ?_⟩)⟩
 · have := run_build (P := P) w ty (ps.toArray.map fun x => (x.1,a.eval x.2)) out (by
    rw [hps2]
    simp only [Program.built,h1,h2,h3,h4]
    exact q1)
   unfold execOp
   simp only [Sem.run_bind,this,Result.andThen_ok,Sem.run_pure]
 · simp only [VR,D.isAgg,if_true]
   refine ⟨out,rfl,(q2.flag).mono (fun _ _ _ => rfl) (fun b hb _ => ⟨hb.1,fun hc => hb.2 ?_⟩) (fun i hi => ⟨hi,rfl⟩)⟩
   rcases hc with ⟨u,hu⟩ | hid
   · by_cases hut : u = t
     · subst hut
       rw [upd_same] at hu
       obtain ⟨s,_,hs⟩ := q4' b hu
       exact .inl ⟨s,hs⟩
     · rw [upd_other hut] at hu
       by_cases hus : u ∈ S
       · simp [hus] at hu
       · simp only [hus,if_false] at hu; exact .inl ⟨u,hu⟩
   · exact .inr hid

end Go.Sx

namespace Go.Sx

variable {P : Program} {C : Ctx} {σ σ' σ1 : Sg} {a : Act} {w w' : World} {ρ : Nat → Nat} {Fe Fe' Fb : Nat → List Nat}

inductive Wk : D → D → Prop
 | refl (d : D) : Wk d d
 | nils (o : Option Nat) (z : Nat) : Wk .nils (.sl o z [])
 | agg {l l' : List D} (hn : l.length = l'.length) (h : ∀ k (h : k < l.length) (h' : k < l'.length),Wk l[k] l'[k]) : Wk (.agg l) (.agg l')
 | sl {o : Option Nat} {z : Nat} {l l' : List D} (hn : l.length = l'.length) (h : ∀ k (h : k < l.length) (h' : k < l'.length),Wk l[k] l'[k]) : Wk (.sl o z l) (.sl o z l')
inductive WkL : List D → List D → Prop
 | nil : WkL [] []
 | cons {d d' : D} {l l' : List D} (h : Wk d d') (t : WkL l l') : WkL (d :: l) (d' :: l')
theorem WkL.len {l l' : List D} (h : WkL l l') : l.length = l'.length := by
 induction h with
 | nil => rfl
 | cons _ _ ih => simp [ih]
theorem WkL.get {l l' : List D} (h : WkL l l') : ∀ k (h : k < l.length) (h' : k < l'.length),Wk l[k] l'[k] := by
 induction h with
 | nil => intro k h; simp at h
 | cons h _ ih =>
  intro k hk hk'
  cases k with
  | zero => exact h
  | succ k => exact ih k (by simpa using hk) (by simpa using hk')
theorem Wk.aggL {l l' : List D} (h : WkL l l') : Wk (.agg l) (.agg l') := .agg h.len h.get
theorem Wk.slL {o : Option Nat} {z : Nat} {l l' : List D} (h : WkL l l') : Wk (.sl o z l) (.sl o z l') := .sl h.len h.get
theorem Wk.slM {α : Type} {o : Option Nat} {z : Nat} {l : List α} {f g : α → D} (h : ∀ x ∈ l,Wk (f x) (g x)) : Wk (.sl o z (l.map f)) (.sl o z (l.map g)) :=
 .sl (by simp) (fun k h1 h2 => by simp only [List.getElem_map]; exact h _ (List.getElem_mem _))
theorem szs_eq {l l' : List D} (hn : l.length = l'.length) (h : ∀ k (h : k < l.length) (h' : k < l'.length),l'[k].sz = l[k].sz) : D.szs l' = D.szs l := by
 induction l generalizing l' with
 | nil => cases l' with
  | nil => rfl
  | cons _ _ => simp at hn
 | cons x r ih => cases l' with
  | nil => simp at hn
  | cons x' r' =>
   have h0 := h 0 (by simp) (by simp)
   simp only [List.getElem_cons_zero] at h0
   simp only [szs_cons,h0]
   rw [ih (by simpa using hn) (fun k h1 h2 => h (k + 1) (by simpa using h1) (by simpa using h2))]
theorem offk_eq {l l' : List D} (hn : l.length = l'.length) (h : ∀ k (h : k < l.length) (h' : k < l'.length),l'[k].sz = l[k].sz) (k : Nat) : offk l' k = offk l k := by
 unfold offk
 exact szs_eq (by simp [hn]) (fun j h1 h2 => by simp only [List.getElem_take]; exact h j (by simp at h1; omega) (by simp at h2; omega))
theorem Wk.sz {d d' : D} (h : Wk d d') : d'.sz = d.sz := by
 induction h with
 | refl => rfl
 | nils => rfl
 | agg hn h ih => simp only [sz_agg]; exact szs_eq hn ih
 | sl => rfl
theorem Rc.wk {G L : Nat → Prop} {d d' : D} (hw : Wk d d') : ∀ {p : Bool} {cs : List Value} {F : List Nat},Rc w ρ G L p d cs F → Rc w ρ G L p d' cs F := by
 induction hw with
 | refl => intro p cs F h; exact h
 | nils o z => intro p cs F h; cases h; exact .slN o z
 | @agg l l' hn h ih =>
  intro p cs F hr
  cases hr with
  | agg _ _ Fs hs hr =>
   have hz : ∀ k (h : k < l.length) (h' : k < l'.length),l'[k].sz = l[k].sz := fun k h1 h2 => (h k h1 h2).sz
   rw [hn]
   refine .agg l' cs Fs (by rw [hs,szs_eq hn hz]) (fun k hk => ?_)
   rw [offk_eq hn hz,hz k (by omega) hk]
   exact ih k (by omega) hk (hr k (by omega))
 | @sl o z l l' hn h ih =>
  intro p cs F hr
  cases hr with
  | slN => rw [List.length_eq_zero_iff.1 hn.symm]; exact .slN o z
  | slE _ _ a => rw [List.length_eq_zero_iff.1 hn.symm]; exact .slE o z a
  | slI b off cs e fz cap _ _ hb hG hc hs hr =>
   rw [hn]
   exact .slI b off cs e fz cap z l' hb hG (by omega) (by rw [← hn]; exact hs) (fun i hi => ih i (by omega) hi (hr i (by omega)))
  | slO b cs e cap _ _ Fs hb hc hm hs ho1 hr =>
   rw [hn]
   exact .slO b cs e cap z l' Fs hb (by omega) hm hs ho1 (fun i hi => ih i (by omega) hi (hr i (by omega)))
theorem W.wkB {c : Code} {Q : Exit → Sg → Prop} (id : Nat) {d d' : D} {bx' : List (Nat × Bx)} (hb : σ.box id = some (.var d)) (hw : Wk d d') (hbx : setb id (.var d') σ.bx = bx') (k : W P C c Q ⟨σ.n,σ.env,bx'⟩) : W P C c Q σ := by
 subst hbx
 exact fun a w hs => k a w (St.viewB hb (fun w ρ G L cs F h => h.wk hw) hs)

inductive Bw (σ : Sg) : D → D → Prop
 | pur {d d' : D} (he : d.brw = d') (hn : d'.np = true) : Bw σ d d'
 | bs {id z n cap m : Nat} {l l' : List D} (hb : σ.box id = some (.var (.agg (l ++ List.replicate m .dead)))) (hn : l.length = n) (hz : ∀ x ∈ l,x.sz = z) (he : l.map D.brw = l') (hnp : ∀ x ∈ l',x.np = true) : Bw σ (.bs id z n cap) (.sl none z l')
 | agg {l l' : List D} (hn : l.length = l'.length) (h : ∀ k (h : k < l.length) (h' : k < l'.length),Bw σ l[k] l'[k]) : Bw σ (.agg l) (.agg l')
inductive BwL (σ : Sg) : List D → List D → Prop
 | nil : BwL σ [] []
 | cons {d d' : D} {l l' : List D} (h : Bw σ d d') (t : BwL σ l l') : BwL σ (d :: l) (d' :: l')
theorem BwL.len {l l' : List D} (h : BwL σ l l') : l.length = l'.length := by
 induction h with
 | nil => rfl
 | cons _ _ ih => simp [ih]
theorem BwL.get {l l' : List D} (h : BwL σ l l') : ∀ k (h : k < l.length) (h' : k < l'.length),Bw σ l[k] l'[k] := by
 induction h with
 | nil => intro k h; simp at h
 | cons h _ ih =>
  intro k hk hk'
  cases k with
  | zero => exact h
  | succ k => exact ih k (by simpa using hk) (by simpa using hk')
theorem Bw.aggL {l l' : List D} (h : BwL σ l l') : Bw σ (.agg l) (.agg l') := .agg h.len h.get
theorem Bw.sz {d d' : D} (h : Bw σ d d') : d'.sz = d.sz := by
 induction h with
 | pur he => subst he; exact sz_brw _
 | bs => rfl
 | agg hn h ih => simp only [sz_agg]; exact szs_eq hn ih
theorem Bw.isAgg {d d' : D} (h : Bw σ d d') : d'.isAgg = d.isAgg := by
 cases h with
 | pur he => subst he; exact isAgg_brw _
 | bs => rfl
 | agg => rfl
theorem Wk.isAgg {d d' : D} (h : Wk d d') : d'.isAgg = d.isAgg := by cases h <;> rfl
theorem Bw.ok (st : StW C σ a w ρ Fe Fb) {d d' : D} (hb : Bw σ d d') : ∀ {p : Bool} {cs : List Value} {F : List Nat},Rc w ρ (gd C Fe Fb) (fun id => (σ.box id).isSome = true) p d cs F → (∀ b ∈ F,b < w.heap.size) →
 Rc w (fun x => x) (fun b => b < w.heap.size) (fun _ => False) false d' cs [] := by
 induction hb with
 | pur he hn =>
  subst he
  intro p cs F h hF
  exact ((h.brw (G' := fun b => b < w.heap.size) hF (fun b _ hl => hl)).unflag hn).noL
 | @bs id z n cap m l l' hb hn hz he hnp =>
  intro p cs F h hF
  subst hn; subst he
  obtain ⟨csb,e1,F1,p1,p2,p3⟩ := st.bx id _ hb
  have hszl := szs_uni l hz
  have hclen : csb.toList.length = l.length * z + m := by rw [p2.len,sz_agg,szs_append,hszl,szs_dead]
  have hF1 : ∀ b ∈ F1,b < w.heap.size := fun b hb => st.lt b (.inr ⟨id,by rw [p3]; exact List.mem_cons_of_mem _ hb⟩)
  cases h with
  | bs _ _ _ _ hL hcap =>
   have := Rc.slI (w := w) (ρ := fun x => x) (G := fun b => b < w.heap.size) (L := fun _ => False) (p := false) (ρ id) 0 csb e1 (0,0) cap z (l.map D.brw) p1 (st.lt _ (.inr ⟨id,by rw [p3]; simp⟩)) (by simpa using hcap) (by simp at hclen ⊢; omega) (fun i hi => by
    have hi0 : i < l.length := by simpa using hi
    generalize hdd : D.agg (l ++ List.replicate m D.dead) = dd at p2
    generalize hcl : csb.toList = cl at p2
    cases p2 with
    | agg l0 _ Fs hs hr =>
     cases hdd
     have hi' : i < (l ++ List.replicate m D.dead).length := by simp; omega
     have h1 := hr i hi'
     rw [List.getElem_append_left hi0] at h1
     rw [offk_uni l _ hz i (by omega),hz _ (List.getElem_mem hi0)] at h1
     rw [Nat.zero_add]
     have h2 := (h1.brw (G' := fun b => b < w.heap.size) (fun b hb => hF1 b (List.mem_flatMap.2 ⟨i,List.mem_range.2 hi',hb⟩)) (fun b _ hl => hl))
     have h3 : (l.map D.brw)[i] = l[i].brw := by simp
     rw [h3]
     exact (h2.unflag (hnp _ (List.mem_map_of_mem (List.getElem_mem hi0)))).noL
    | _ => cases hdd)
   simpa using this
 | @agg l l' hn h ih =>
  intro p cs F hr hF
  cases hr with
  | agg _ _ Fs hs hr =>
   have hz : ∀ k (h : k < l.length) (h' : k < l'.length),l'[k].sz = l[k].sz := fun k h1 h2 => (h k h1 h2).sz
   have := Rc.agg (w := w) (ρ := fun x => x) (G := fun b => b < w.heap.size) (L := fun _ => False) (p := false) l' cs (fun _ => []) (by rw [hs,szs_eq hn hz]) (fun k hk => by
    rw [offk_eq hn hz,hz k (by omega) hk]
    exact ih k (by omega) hk (hr k (by omega)) (fun b hb => hF b (List.mem_flatMap.2 ⟨k,List.mem_range.2 (by omega),hb⟩)))
   have e0 : (List.range l'.length).flatMap (fun _ => ([] : List Nat)) = [] := by rw [List.flatMap_eq_nil_iff]; intros; rfl
   rwa [e0] at this

inductive Bors2 (gl : List (Nat × D)) (σ : Sg) : List Operand → List D → Prop
 | nil : Bors2 gl σ [] []
 | cons {x : Operand} {d d1 d' : D} {xs : List Operand} {ds : List D} (h : ev gl σ x = some d) (hr : d.isRef = false) (hb : Bw σ d d1) (hw : Wk d1 d') (t : Bors2 gl σ xs ds) : Bors2 gl σ (x :: xs) (d' :: ds)
 | old {x : Operand} {d : D} {xs : List Operand} {ds : List D} (h : Bor gl σ x d) (t : Bors2 gl σ xs ds) : Bors2 gl σ (x :: xs) (d :: ds)
theorem Bors2.len {gl : List (Nat × D)} {xs : List Operand} {ds : List D} (h : Bors2 gl σ xs ds) : xs.length = ds.length := by
 induction h with
 | nil => rfl
 | cons _ _ _ _ _ ih => simp [ih]
 | old _ _ ih => simp [ih]
theorem Bors2.ok (st : StW C σ a w ρ Fe Fb) {xs : List Operand} {ds : List D} (h : Bors2 C.gl σ xs ds) : ∀ k (hk : k < ds.length),VR w (fun x => x) (fun b => b < w.heap.size) (fun _ => False) ds[k] ((xs.map a.eval).getD k undef) [] := by
 induction h with
 | nil => intro k hk; simp at hk
 | @cons x d d1 d' xs ds h hr hb hw t ih =>
  intro k hk
  cases k with
  | zero =>
   obtain ⟨F,hv,hF⟩ := ev_ok st h hr
   simp only [List.map_cons,List.getD_cons_zero,List.getElem_cons_zero]
   have hFl : ∀ b ∈ F,b < w.heap.size := fun b hb => st.lt b (hF b hb)
   unfold VR at hv ⊢
   rw [hw.isAgg,hb.isAgg]
   cases hag : d.isAgg with
   | true =>
    simp only [hag,if_true] at hv ⊢
    obtain ⟨cs,hcs,hv⟩ := hv
    exact ⟨cs,hcs,((hb.ok st hv hFl).wk hw).flag⟩
   | false =>
    simp only [hag,if_false,Bool.false_eq_true] at hv ⊢
    exact ((hb.ok st hv hFl).wk hw).flag
  | succ k =>
   have := ih k (by simpa using hk)
   simpa using this
 | @old x d xs ds h t ih =>
  intro k hk
  cases k with
  | zero =>
   simp only [List.map_cons,List.getD_cons_zero,List.getElem_cons_zero]
   exact h.ok st
  | succ k =>
   have := ih k (by simpa using hk)
   simpa using this

theorem R.callL {f : FuncId} [CaT P f] {gl : List (Nat × D)} {t : Nat} {args : List Operand} {tys : Array TypeId} {rt : TypeId} {pos : String} {aft : Array Edge} {g : Option (Nat × Bool)} {ds : List D} {r : D}
 (hC : C.gl = gl) (hF : Fn P gl f ds r) (hb : Bors2 C.gl σ args ds) (hr : FrsR r) (ht : t < σ.n) :
 OpS P C ⟨some t,.call { callee := .value (.func f),args := args.toArray,argTypes := tys },rt,pos,aft,g⟩ σ (σ.set t r) := by
 subst hC
 intro a w ⟨ρ,Fe,Fb,st⟩ K Q hK
 refine wpIn_of_run (run_call a w) (by simp) ?_
 rw [Oper.uponIn_enter]
 have hc := hF w (fun b => b < w.heap.size) (args.map a.eval) (fun g d hg => by
  obtain ⟨_,cs,e,fz,h1,h2⟩ := gl_ok st g d hg
  exact ⟨(Array.getElem?_eq_some_iff.1 h1).1,cs,e,fz,h1,h2⟩) (by simp [hb.len]) (hb.ok st)
 simp only [List.map_toArray]
 refine ⟨(fun h => by cases h),(callsIn_fx (Calls.mono hc ?_))⟩
 rintro e w' ⟨v,F,rfl,hext,hnd,hnew,hv⟩
 refine hK _ _ ⟨ρ,upd Fe t F,Fb,st.ext ht hext hnd hnew ?_⟩
 have hput : (a.put (some t) v).tmps[t]? = some v := by rw [put_get a t v t (by rw [st.size]; exact ht)]; simp
 refine RV.slot ?_ hput
 refine hv.map Frs hr (fun d v F' hF' hd hx => ?_)
 have h1 := hx.frs (G' := fun _ => False) hd
 exact h1.mono (fun _ _ _ => rfl) (fun b hb _ => hb.elim) (fun id hid => hid.elim)
end Go.Sx

namespace Go.Sx

variable {P : Program} {C : Ctx} {σ σ' σ1 : Sg} {a : Act} {w w' : World} {ρ : Nat → Nat} {Fe Fe' Fb : Nat → List Nat}

theorem R.callXk {f : FuncId} [CaT P f] {t : Option Nat} {args : List Operand} {tys : Array TypeId} {rt : TypeId} {pos : String} {aft : Array Edge} {g : Option (Nat × Bool)} {gl : List (Nat × D)} {ds : List D} {bx cx : List (Nat × Bx)} {E : Exit → Sg → Prop}
 (ml : List (Nat × Nat)) (hC : C.gl = gl) (hF : FnX P gl f ds bx) (ha : EvB C.gl σ (mlk ml) (bx.map Prod.fst) args ds)
 (hcx : renBx (mlk ml) bx = cx) (hlk : hasBx σ.bx cx) (hob : okBxP (bx.map Prod.fst) bx) (hinj : injB (mlk ml) (bx.map Prod.fst) = true)
 (hE : ∀ e,EndP e → E e ⟨σ.n,scrubL (cx.map Prod.fst) σ.env,lendB (deadsB cx) σ.bx⟩) :
 OpX P C ⟨t,.call { callee := .value (.func f),args := args.toArray,argTypes := tys },rt,pos,aft,g⟩ σ E := by
 subst hC; subst hcx
 intro a w ⟨ρ,Fe,Fb,st⟩ K Q hK
 refine wpIn_of_run (run_call a w) (by simp) ?_
 rw [Oper.uponIn_enter]
 obtain ⟨hhand,hback⟩ := st.callB (m := mlk ml) (bx' := deadsB bx) (nw := []) hlk hob (keys_deadsB bx) rfl (by simpa [keys_deadsB] using hinj)
 have hmem : ∀ i,memB (bx.map Prod.fst) i = true → (lk bx i).isSome = true := fun i hi => by
  rw [lk_key]
  simp only [memB,List.any_eq_true] at hi
  obtain ⟨j,hj,he⟩ := hi
  rw [Nat.eq_of_beq_eq_true he]; exact hj
 have hc := hF w (fun b => gd C Fe Fb b ∧ b < w.heap.size) (fun i => ρ (mlk ml i)) (fun i => if (lk bx i).isSome then Fb (mlk ml i) else []) (args.map a.eval)
  (fun g d hg => by obtain ⟨h1,h2⟩ := gl_ok st g d hg; obtain ⟨cs,e,fz,h3,h4⟩ := h2; exact ⟨⟨h1,(Array.getElem?_eq_some_iff.1 h3).1⟩,cs,e,fz,h3,h4⟩) (fun b hb => hb.2) (by simp [ha.len])
  (fun k hk => (ha.ok st k hk).mono (fun _ _ _ => rfl) (fun b hb hl => ⟨hb,hl⟩) (fun i hi => ⟨hmem i hi.1,rfl⟩))
  ⟨fun id x hx => (hhand.box id x hx).mono (fun _ _ _ => rfl) (fun b hb hl => ⟨hb,hl⟩) (fun i hi => ⟨hi,rfl⟩),hhand.boxN,hhand.nodB,hhand.dBB,fun id b hb hc => hhand.out id b hb hc.1⟩
 simp only [List.map_toArray]
 refine ⟨(fun h => by cases h),(callsIn_fx (Calls.mono hc ?_))⟩
 rintro e w' ⟨ch,ρ',Fb',rfl,hch,hext,hρ',hsrc,hand⟩
 have hGG : ∀ b,(((gd C Fe Fb b ∧ b < w.heap.size) ∨ w.heap.size ≤ b ∨ ∃ id,b ∈ (if (lk bx id).isSome then Fb (mlk ml id) else [])) ∧ ¬ ∃ id,b ∈ Fb' id) →
  ((gd C Fe Fb b ∨ w.heap.size ≤ b ∨ ∃ id,b ∈ (if (lk bx id).isSome then Fb (mlk ml id) else [])) ∧ b ∉ ([] : List Nat) ∧ ¬ ∃ id,b ∈ Fb' id) := fun b hb => ⟨hb.1.imp (fun h => h.1) (fun h => h),by simp,hb.2⟩
 obtain ⟨ρ2,Fb2,st2,_⟩ := hback w' [] ρ' Fb' hext hρ' List.nodup_nil (fun b hb => hsrc b (hb.resolve_left (by simp))) (fun _ _ h => by cases h) (fun _ h => by cases h)
  ⟨fun id x hx => (hand.box id x hx).mono (fun _ _ _ => rfl) (fun b hb _ => hGG b hb) (fun i hi => ⟨hi,rfl⟩),hand.boxN,hand.nodB,hand.dBB,fun id b hb hc => hc.2.2 ⟨id,hb⟩⟩
 have hless : C.less [] = C := by
  unfold Ctx.less
  cases C
  simp
 rw [hless] at st2
 refine hK _ _ _ ⟨σ.n,scrubL ((renBx (mlk ml) bx).map Prod.fst) σ.env,lendB (deadsB (renBx (mlk ml) bx)) σ.bx⟩ (St.weaken ⟨ρ2,Fe,Fb2,st2⟩ rfl ?_ (fun t d h => h)) (hE _ ⟨_,rfl,hch⟩)
 simp [renBx_deadsB,renBx]

def RC (C : Ctx) (r : D) (e : Ending) (w' : World) : Prop :=
 ∃ v F,e = .returned v ∧ Ext C.w0 w' ∧ F.Nodup ∧ (∀ b ∈ F,C.w0.heap.size ≤ b) ∧ RV w' (fun x => x) (fun b => C.ok b ∧ b ∉ F) (fun _ => False) r v F
def WD (P : Program) (C : Ctx) (c : Code) (Q : Exit → Act → World → Prop) (σ : Sg) : Prop := ∀ a w,St C σ a w → c.wpIn (Fx C) 3 P Q a w

theorem WD.of {c : Code} {Q : Exit → Act → World → Prop} (h : W P C c (fun e s => ∀ a w,St C s a w → Q e a w) σ) : WD P C c Q σ :=
 fun a w hs => Go.Code.wpIn_mono (fun _ _ _ ⟨_,hs',h'⟩ => h' _ _ hs') (h a w hs)
theorem WD.seq {x y : Code} {Q : Exit → Act → World → Prop} (h : W P C x (fun e s => match e with | .normal => WD P C y Q s | e => ∀ a w,St C s a w → Q e a w) σ) : WD P C (.seq x y) Q σ := by
 intro a w hs
 refine wpIn_seq ?_
 refine Go.Code.wpIn_mono ?_ (h a w hs)
 intro e a' w' ⟨s,hs',hq⟩
 cases e <;> exact hq a' w' hs'

def dfr (g b2 b3 : Nat) : Deferred := ⟨.fn (.func g) #[.pointer (some ⟨b2,0,none⟩),.pointer (some ⟨b3,0,none⟩)],#[]⟩
def Ctx.put (C : Ctx) (d : Deferred) (id2 id3 b2 b3 : Nat) : Ctx := { C with df := d :: C.df,pin := fun i => if i = id2 then some b2 else if i = id3 then some b3 else C.pin i }

theorem put_pin {d : Deferred} {id2 id3 b2 b3 : Nat} (h : ∀ id b,C.pin id = some b → memN [] id = true) : ∀ id b,(C.put d id2 id3 b2 b3).pin id = some b → memN [id2,id3] id = true := by
 intro id b hp
 simp only [Ctx.put] at hp
 split at hp
 · rename_i e; subst e; simp [memN]
 · split at hp
   · rename_i e; subst e; simp [memN]
   · have := h _ _ hp; simp [memN] at this
theorem WD.defer {id g t1 s2 s3 id2 id3 : Nat} {y : Code} {Q : Exit → Act → World → Prop} {d2 d3 : Bx} {rt rt2 : TypeId} {pos pos2 : String} {aft aft2 : Array Edge} {tys : Array TypeId} (hrd : C.rd = none)
 (h2 : σ.get s2 = some (.ptr id2 0 [])) (h3 : σ.get s3 = some (.ptr id3 0 [])) (hb2 : σ.box id2 = some d2) (hb3 : σ.box id3 = some d3) (ht : t1 < σ.n)
 (k : ∀ b2 b3,(id2 ≠ id3 → b2 ≠ b3) → WD P (C.put (dfr g b2 b3) id2 id3 b2 b3) y Q (σ.set t1 (.fn g [.ptr id2 0 [],.ptr id3 0 []]))) :
 WD P C (.seq (.region id #[⟨some t1,.makeFunc (.func g) #[] #[.tmp s2,.tmp s3],rt,pos,aft,none⟩,⟨none,.defer { callee := .value (.tmp t1),args := #[],argTypes := tys },rt2,pos2,aft2,none⟩] false) y) Q σ := by
 intro a w hs
 refine wpIn_seq (wpIn_region_lit (l := [_,_]) (wpListIn_plain rfl fun K hK => ?_))
 have hmk := R.mkfn (P := P) (C := C) (σ := σ) (t := t1) (f := g) (xs := [.tmp s2,.tmp s3]) (ds := [.ptr id2 0 [],.ptr id3 0 []]) (rt := rt) (pos := pos) (aft := aft) (g := none) rfl (fun k h1 h2' => by
  match k,h1 with
  | 0,_ => exact ⟨h2,rfl,rfl⟩
  | 1,_ => exact ⟨h3,rfl,rfl⟩) ht
 refine hmk a w hs K _ fun a1 w1 hs1 => hK a1 w1 ?_
 obtain ⟨ρ,Fe,Fb,st⟩ := hs1
 obtain ⟨v,hv,hr⟩ := (SR_plain rfl).1 (st.env t1 (.fn g [.ptr id2 0 [],.ptr id3 0 []]) (by rw [get_set]; simp))
 simp only [VR,D.isAgg,Bool.false_eq_true,if_false] at hr
 have hvv : v = .func (.func g) #[] #[.pointer (some ⟨ρ id2,0,none⟩),.pointer (some ⟨ρ id3,0,none⟩)] := by
  generalize Fe t1 = F at hr
  cases hr with
  | fn _ _ vs hl ha hrr =>
   match vs,hl with
   | [v0,v1],_ =>
    have r0 := hrr 0 (by simp)
    have r1 := hrr 1 (by simp)
    simp only [List.getElem_cons_zero,List.getElem_cons_succ,List.getD_cons_zero,List.getD_cons_succ] at r0 r1
    cases r0
    cases r1
    rfl
 subst hvv
 have hpins : ∀ i b,(C.put (dfr g (ρ id2) (ρ id3)) id2 id3 (ρ id2) (ρ id3)).pin i = some b → ρ i = b ∧ ((σ.set t1 (.fn g [.ptr id2 0 [],.ptr id3 0 []])).box i).isSome = true := by
  intro i b hp
  simp only [Ctx.put] at hp
  split at hp
  · rename_i hi; subst hi; cases hp; exact ⟨rfl,by rw [box_set,hb2]; rfl⟩
  · split at hp
    · rename_i hi; subst hi; cases hp; exact ⟨rfl,by rw [box_set,hb3]; rfl⟩
    · exact st.pin i b hp
 have hne : id2 ≠ id3 → ρ id2 ≠ ρ id3 := fun hne he => by
  have m2 := (st.bx id2 d2 (by rw [box_set]; exact hb2)).mem
  have m3 := (st.bx id3 d3 (by rw [box_set]; exact hb3)).mem
  rw [← he] at m3
  exact st.dBB id2 id3 hne _ m2 m3
 have hk := k (ρ id2) (ρ id3) hne
 have hst2 : St (C.put (dfr g (ρ id2) (ρ id3)) id2 id3 (ρ id2) (ρ id3)) (σ.set t1 (.fn g [.ptr id2 0 [],.ptr id3 0 []])) { a1 with defers := dfr g (ρ id2) (ρ id3) :: a1.defers } w1 :=
  ⟨ρ,Fe,Fb,{
   size := st.size
   defs := by show _ :: a1.defers = _ :: C.df; rw [st.defs]
   pin := hpins
   env := fun t d hd => st.env t d hd
   envN := st.envN
   bx := fun i d hd => st.bx i d hd
   bxN := st.bxN
   nodE := st.nodE
   nodB := st.nodB
   dEE := st.dEE
   dEB := st.dEB
   dBB := st.dBB
   new := st.new
   kept := st.kept
   os := st.os
   tape := st.tape
   output := st.output
   grown := st.grown
   gl := st.gl
   okN := st.okN
   okO := st.okO }⟩
 have hfin := hk _ w1 hst2
 refine wpListIn_plain rfl fun K2 hK2 => ?_
 refine ⟨fun _ _ => trivial, ?_⟩
 have hsem : (Oper.semAt (Fx C).round a1.eval ⟨none,.defer { callee := .value (.tmp t1),args := #[],argTypes := tys },rt2,pos2,aft2,none⟩).run P w1 = .ok (.defer (dfr g (ρ id2) (ρ id3))) w1 := by
  show (Oper.semAt C.rd a1.eval _).run P w1 = _
  rw [hrd]
  simp only [Oper.semAt]
  unfold execOp
  simp [resolve,eval_tmp hv,dfr,Deferred.ofValue]
 rw [hsem,Oper.uponIn_defer]
 refine hK2 _ _ ?_
 exact hfin

theorem Fn.ofD {gl : List (Nat × D)} {f : FuncId} {fn : Func} {c : Code} {ds : List D} {r : D} {n : Nat} (hf : P.funcs[f]? = some fn) (hb : fn.body = some c) (hnn : fn.ntmps = n)
 (hd : ds.all (fun d => !d.isRef) = true) (hn : ds.length ≤ n)
 (h : ∀ C : Ctx,C.gl = gl → (∀ id b,C.pin id = some b → memN [] id = true) → C.df = [] → C.rd = none → (∀ b,b < C.w0.heap.size → C.keep b) → WD P C c (bodyPostD P fn (RC C r)) ⟨n,ini 0 ds,[]⟩) : Fn P gl f ds r := by
 subst hnn
 intro w G vs hgl hl hv
 refine Calls.mono (R := RC ⟨w,fun b => b < w.heap.size,fun b => G b ∨ w.heap.size ≤ b,gl,none,fun _ => none,[]⟩ r) (calls_of_wp_defers hf hb ?_) (fun e w' h => h)
 let C : Ctx := ⟨w,fun b => b < w.heap.size,fun b => G b ∨ w.heap.size ≤ b,gl,none,fun _ => none,[]⟩
 have hget : ∀ t d,(⟨fn.ntmps,ini 0 ds,[]⟩ : Sg).get t = some d → ∃ h : t < ds.length,ds[t] = d := by
  intro t d hd
  simp only [Sg.get,lk_ini,Nat.zero_le,if_true,Nat.sub_zero] at hd
  obtain ⟨h,e⟩ := List.getElem?_eq_some_iff.1 hd
  exact ⟨h,e⟩
 have hown : ∀ b,¬ own (fun _ => []) (fun _ => []) b := by rintro b (⟨_,h⟩ | ⟨_,h⟩) <;> cases h
 have hbox : ∀ id,(⟨fn.ntmps,ini 0 ds,[]⟩ : Sg).box id = none := fun id => rfl
 have st : StW C ⟨fn.ntmps,ini 0 ds,[]⟩ { tmps := vs.toArray ++ Array.replicate (fn.ntmps - vs.toArray.size) undef,defers := [] } w (fun x => x) (fun _ => []) (fun _ => []) := by
  refine ⟨?_,rfl,(fun _ _ hp => by cases hp), ?_,fun _ _ => rfl, ?_,fun _ _ => rfl,fun _ => List.nodup_nil,fun _ => List.nodup_nil,(fun _ _ _ _ h => by cases h),(fun _ _ _ h => by cases h),(fun _ _ _ _ h => by cases h),fun b hb => absurd hb (hown b), ?_,rfl,rfl,rfl,Nat.le_refl _, ?_,fun b hb => .inr hb,fun b hb => absurd hb (hown b)⟩
  · simp [hl]; omega
  · intro t d hd'
    obtain ⟨ht,rfl⟩ := hget t d hd'
    have hr : ds[t].isRef = false := by
     have := List.all_eq_true.1 hd ds[t] (List.getElem_mem ht)
     simpa using this
    refine (SR_plain hr).2 ⟨vs.getD t undef, ?_,(hv t ht).mono (fun _ _ _ => rfl) (fun b hb _ => ⟨.inl hb,hown b⟩) (fun id hid => hid.elim)⟩
    have htv : t < vs.length := by omega
    rw [Array.getElem?_append_left (by simpa using htv)]
    simp [htv]
  · intro id d hd'; rw [hbox] at hd'; cases hd'
  · intro b hb; exact ⟨rfl,hb⟩
  · intro g d hg
    obtain ⟨h1,cs,e,fz,h2,h3⟩ := hgl g d hg
    exact ⟨(Array.getElem?_eq_some_iff.1 h2).1,.inl h1,cs,e,fz,h2,h3⟩
 exact wpIn_wide.1 (h C rfl (fun _ _ hp => by cases hp) rfl rfl (fun b hb => hb) _ w ⟨_,_,_,st⟩)

theorem VR.wk {G L : Nat → Prop} {d d' : D} {v : Value} {F : List Nat} (h : VR w ρ G L d v F) (hw : Wk d d') : VR w ρ G L d' v F := by
 unfold VR at h ⊢
 rw [hw.isAgg]
 cases hag : d.isAgg with
 | true => simp only [hag,if_true] at h ⊢; obtain ⟨cs,e,h⟩ := h; exact ⟨cs,e,h.wk hw⟩
 | false => simp only [hag,if_false,Bool.false_eq_true] at h ⊢; exact h.wk hw
theorem StW.ext0 (st : StW C σ a w ρ Fe Fb) (hk : ∀ b,b < C.w0.heap.size → C.keep b) : Ext C.w0 w := ⟨st.os,st.tape,st.output,st.grown,fun b hb => (st.kept b (hk b hb)).1⟩

theorem end0 {fn : Func} {r : D} {e : Exit} (hdf : C.df = []) (hk : ∀ b,b < C.w0.heap.size → C.keep b) (hs : St C σ a w) (hends : Ends fn.results.toList P r e σ) : bodyPostD P fn (RC C r) e a w := by
 obtain ⟨ρ,Fe,Fb,st⟩ := hs
 have hnew : ∀ b,own Fe Fb b → C.w0.heap.size ≤ b := fun b hb => Nat.le_of_not_lt (fun h => st.new b hb (hk b h))
 have he := hends.1
 obtain ⟨v,h1,F,h2,h3,h4⟩ := Ends.out st hends
 have hd : a.defers = [] := st.defs.trans hdf
 have hrc : RC C r (.returned v) w := ⟨v,F,rfl,st.ext0 hk,h2,fun b hb => hnew b (h3 b hb),h4⟩
 rcases he with rfl | rfl
 · show Leaves P fn a.tmps (RC C r) a.defers .returning w
   rw [hd]; exact ⟨v,h1,hrc⟩
 · show Leaves P fn a.tmps (RC C r) a.defers .returning w
   rw [hd]; exact ⟨v,h1,hrc⟩

theorem results2 {fn : Func} {s2 s3 ty2 ty3 : Nat} (hfr : fn.results.toList = [.cell s2 ty2,.cell s3 ty3]) {tmps : Array Value} {b2 b3 : Nat} (h2 : tmps[s2]? = some (.pointer (some ⟨b2,0,none⟩))) (h3 : tmps[s3]? = some (.pointer (some ⟨b3,0,none⟩))) {v2 v3 : Value}
 (l2 : (loadVar ty2 ⟨b2,0,none⟩).run P w = .ok v2 w) (l3 : (loadVar ty3 ⟨b3,0,none⟩).run P w = .ok v3 w) : (results fn tmps).run P w = .ok (.tuple #[v2,v3]) w := by
 have := results_run (P := P) (fn := fn) (tmps := tmps) hfr (fun k => if k = 0 then v2 else v3) w (fun k hk => by
  match k,hk with
  | 0,_ => simp [resV,Array.getD_eq_getD_getElem?,h2,l2,asAddr]
  | 1,_ => simp [resV,Array.getD_eq_getD_getElem?,h3,l3,asAddr])
 rw [this]
 rfl

theorem endD {fn : Func} {r2 r3 : D} {e : Exit} {g b2 b3 s2 s3 id2 id3 ty2 ty3 n2 n3 : Nat} {g2 g3 : Bool} {C0 : Ctx} [LdT P ty2 n2 g2] [LdT P ty3 n3 g3] (hC : C = C0.put (dfr g b2 b3) id2 id3 b2 b3) (hdf : C0.df = []) (hk : ∀ b,b < C0.w0.heap.size → C0.keep b) (hne : id2 ≠ id3)
 (hfr : fn.results.toList = [.cell s2 ty2,.cell s3 ty3]) (hg : CaT P g)
 (hD : ∀ w,CallsD P g #[.pointer (some ⟨b2,0,none⟩),.pointer (some ⟨b3,0,none⟩)] .returning w (fun e u' w' => (∃ v,e = .returned v) ∧ u' = .returning ∧ w' = w))
 (he : e = .normal ∨ e = .ret) (h2 : σ.get s2 = some (.ptr id2 0 [])) (h3 : σ.get s3 = some (.ptr id3 0 [])) (hb2 : σ.box id2 = some (.var r2)) (hb3 : σ.box id3 = some (.var r3))
 (hp2 : r2.pur = true) (hp3 : r3.pur = true) (hn2 : r2.np = true) (hn3 : r3.np = true) (hz2 : r2.sz = n2) (hz3 : r3.sz = n3) (ha2 : r2.isAgg = g2) (ha3 : r3.isAgg = g3) (hs : St C σ a w) :
 bodyPostD P fn (RC C0 (.tup [r2,r3])) e a w := by
 subst hC
 obtain ⟨ρ,Fe,Fb,st⟩ := hs
 have hρ2 : ρ id2 = b2 := (st.pin id2 b2 (by simp [Ctx.put])).1
 have hρ3 : ρ id3 = b3 := (st.pin id3 b3 (by simp [Ctx.put,show ¬ id3 = id2 from fun e => hne e.symm])).1
 have htm : ∀ s id,σ.get s = some (.ptr id 0 []) → a.tmps[s]? = some (.pointer (some ⟨ρ id,0,none⟩)) := fun s id h => by
  obtain ⟨v,hv,hr⟩ := (SR_plain rfl).1 (st.env _ _ h)
  simp only [VR,D.isAgg,Bool.false_eq_true,if_false] at hr
  generalize Fe s = F at hr
  cases hr
  exact hv
 have hld : ∀ id d ty n gg,[LdT P ty n gg] → σ.box id = some (.var d) → d.pur = true → d.np = true → d.sz = n → d.isAgg = gg → ∃ v,(loadVar ty ⟨ρ id,0,none⟩).run P w = .ok v w ∧ VR w (fun x => x) (fun b => C0.ok b ∧ b ∉ ([] : List Nat)) (fun _ => False) d v [] := by
  intro id d ty n gg _ hb hp hn hz hag
  obtain ⟨cs,e,F',q1,q2,q3⟩ := st.bx _ _ hb
  have hlen := q2.len
  have hF' := q2.pur hp
  subst hF'
  have htk : (cs.toList.drop 0).take d.sz = cs.toList := by rw [← hlen,List.drop_zero]; exact List.take_length
  obtain ⟨vv,hrun,hvr⟩ := run_loadVar' (P := P) (ty := ty) (G := fun b => C0.ok b ∧ b ∉ ([] : List Nat)) (L := fun i => (σ.box i).isSome = true) (ρ := ρ) (p := true) (off := 0) q1 (by rw [htk]; exact q2.mono (fun _ _ _ => rfl) (fun b hb _ => ⟨hb.1,by simp⟩) (fun i hi => ⟨hi,rfl⟩)) (by simp at hlen; omega) hz hag
  exact ⟨vv,hrun,hvr.noL hn⟩
 obtain ⟨v2,l2,r2v⟩ := hld id2 r2 ty2 n2 g2 hb2 hp2 hn2 hz2 ha2
 obtain ⟨v3,l3,r3v⟩ := hld id3 r3 ty3 n3 g3 hb3 hp3 hn3 hz3 ha3
 have hres := results2 (P := P) (w := w) hfr (htm _ _ h2) (htm _ _ h3) l2 l3
 have hrc : RC C0 (.tup [r2,r3]) (.returned (.tuple #[v2,v3])) w := by
  refine ⟨_,[],rfl,⟨st.os,st.tape,st.output,st.grown,fun b hb => (st.kept b (hk b hb)).1⟩,List.nodup_nil,by simp,[v2,v3],fun _ => [],rfl,rfl,by simp,fun k hk => ?_⟩
  match k,hk with
  | 0,_ => exact ⟨pur_ref hp2,r2v⟩
  | 1,_ => exact ⟨pur_ref hp3,r3v⟩
 have hd : a.defers = [dfr g b2 b3] := by rw [st.defs]; simp [Ctx.put,hdf]
 have hlv : Leaves P fn a.tmps (RC C0 (.tup [r2,r3])) a.defers .returning w := by
  rw [hd]
  obtain ⟨fg,hf1,hf2,hf3⟩ := hg.i
  refine leaves_cons (by simp) (f := g) (args := #[.pointer (some ⟨b2,0,none⟩),.pointer (some ⟨b3,0,none⟩)]) ?_ ((hD w).mono ?_)
  · simp [invoke,run_callFunc hf1 hf2 hf3]
  · rintro e u' w' ⟨⟨v,rfl⟩,rfl,rfl⟩
    exact ⟨_,hres,hrc⟩
 rcases he with rfl | rfl <;> exact hlv

theorem endDP {fn : Func} {r2 r3 : D} {e : Exit} {g b2 b3 s2 s3 id2 id3 ty2 ty3 n2 n3 : Nat} {g2 g3 : Bool} {z2 z3 : Array Value} {C0 : Ctx} [LdT P ty2 n2 g2] [LdT P ty3 n3 g3] (hC : C = C0.put (dfr g b2 b3) id2 id3 b2 b3) (hdf : C0.df = []) (hk : ∀ b,b < C0.w0.heap.size → C0.keep b) (hne : id2 ≠ id3) (hb23 : b2 ≠ b3)
 (hfr : fn.results.toList = [.cell s2 ty2,.cell s3 ty3]) (hg : CaT P g)
 (hD : ∀ w ch,okCh ch → ∀ (cs2 cs3 : Array Value) (e2 e3 : TypeId),w.heap[b2]? = some (.cells cs2 e2 (0,0)) → cs2.size = n2 → w.heap[b3]? = some (.cells cs3 e3 (0,0)) → cs3.size = n3 →
  CallsD P g #[.pointer (some ⟨b2,0,none⟩),.pointer (some ⟨b3,0,none⟩)] (.panicking ch) w (fun e u' w' => (∃ v,e = .returned v) ∧ settle u' = .returning ∧ w' = (w.setRow b2 z2).setRow b3 z3))
 (he : EndP e) (h2 : σ.get s2 = some (.ptr id2 0 [])) (h3 : σ.get s3 = some (.ptr id3 0 [])) {d2 d3 : D} (hb2 : σ.box id2 = some (.var d2)) (hb3 : σ.box id3 = some (.var d3)) (hz2 : d2.sz = n2) (hz3 : d3.sz = n3)
 (hc2 : chk r2 z2.toList = true) (hc3 : chk r3 z3.toList = true) (hr2 : r2.sz = n2) (hr3 : r3.sz = n3) (ha2 : r2.isAgg = g2) (ha3 : r3.isAgg = g3) (hf2 : r2.isRef = false) (hf3 : r3.isRef = false) {r2' : D} (hwk : Wk r2 r2') (hf2' : r2'.isRef = false) (hs : St C σ a w) :
 bodyPostD P fn (RC C0 (.tup [r2',r3])) e a w := by
 subst hC
 obtain ⟨ch,rfl,hch⟩ := he
 obtain ⟨ρ,Fe,Fb,st⟩ := hs
 have hρ2 : ρ id2 = b2 := (st.pin id2 b2 (by simp [Ctx.put])).1
 have hρ3 : ρ id3 = b3 := (st.pin id3 b3 (by simp [Ctx.put,show ¬ id3 = id2 from fun e => hne e.symm])).1
 have htm : ∀ s id,σ.get s = some (.ptr id 0 []) → a.tmps[s]? = some (.pointer (some ⟨ρ id,0,none⟩)) := fun s id h => by
  obtain ⟨v,hv,hr⟩ := (SR_plain rfl).1 (st.env _ _ h)
  simp only [VR,D.isAgg,Bool.false_eq_true,if_false] at hr
  generalize Fe s = F at hr
  cases hr
  exact hv
 have hm2 := htm _ _ h2
 have hm3 := htm _ _ h3
 obtain ⟨cs2,e2,F2,q1,q2,q3⟩ := st.bx _ _ hb2
 obtain ⟨cs3,e3,F3,p1,p2,p3⟩ := st.bx _ _ hb3
 rw [hρ2] at q1 q3 hm2
 rw [hρ3] at p1 p3 hm3
 have hl2 : cs2.size = n2 := by rw [← hz2,← q2.len]; simp
 have hl3 : cs3.size = n3 := by rw [← hz3,← p2.len]; simp
 have hnew2 : C0.w0.heap.size ≤ b2 := Nat.le_of_not_lt (fun h => st.new b2 (.inr ⟨id2,by rw [q3]; simp⟩) (hk b2 h))
 have hnew3 : C0.w0.heap.size ≤ b3 := Nat.le_of_not_lt (fun h => st.new b3 (.inr ⟨id3,by rw [p3]; simp⟩) (hk b3 h))
 let w2 := (w.setRow b2 z2).setRow b3 z3
 have hw2 : w2.heap[b2]? = some (.cells z2 e2 (0,0)) := (setRow_other _ b3 b2 _ hb23).trans (setRow_heap w b2 cs2 _ e2 (0,0) q1)
 have hw3 : w2.heap[b3]? = some (.cells z3 e3 (0,0)) := setRow_heap _ b3 cs3 _ e3 (0,0) ((setRow_other w b2 b3 _ (fun e => hb23 e.symm)).trans p1)
 have hld : ∀ (b : Nat) (d : D) ty n gg (z : Array Value) e',[LdT P ty n gg] → w2.heap[b]? = some (.cells z e' (0,0)) → chk d z.toList = true → d.sz = n → d.isAgg = gg → ∃ v,(loadVar ty ⟨b,0,none⟩).run P w2 = .ok v w2 ∧ VR w2 (fun x => x) (fun b => C0.ok b ∧ b ∉ ([] : List Nat)) (fun _ => False) d v [] := by
  intro b d ty n gg z e' _ hb hc hz hag
  have hrc := chk_ok w2 (fun x => x) (fun b => C0.ok b ∧ b ∉ ([] : List Nat)) (fun _ => False) d z.toList hc
  have hlen := hrc.len
  have htk : (z.toList.drop 0).take d.sz = z.toList := by rw [← hlen,List.drop_zero]; exact List.take_length
  obtain ⟨vv,hrun,hvr⟩ := run_loadVar' (P := P) (ty := ty) (p := true) (off := 0) hb (by rw [htk]; exact hrc.flag) (by simp at hlen; omega) hz hag
  exact ⟨vv,hrun,hvr⟩
 obtain ⟨v2,l2,r2v⟩ := hld b2 r2 ty2 n2 g2 z2 e2 hw2 hc2 hr2 ha2
 obtain ⟨v3,l3,r3v⟩ := hld b3 r3 ty3 n3 g3 z3 e3 hw3 hc3 hr3 ha3
 have hres := results2 (P := P) (w := w2) hfr hm2 hm3 l2 l3
 have hext : Ext C0.w0 w2 := ⟨st.os,st.tape,st.output,by show _ ≤ ((w.setRow b2 z2).setRow b3 z3).heap.size; simp; exact st.grown,fun b hb => by
  have n2 : b ≠ b2 := by omega
  have n3 : b ≠ b3 := by omega
  exact (setRow_other _ b3 b _ n3).trans ((setRow_other w b2 b _ n2).trans (st.kept b (hk b hb)).1)⟩
 have hrc : RC C0 (.tup [r2',r3]) (.returned (.tuple #[v2,v3])) w2 := by
  refine ⟨_,[],rfl,hext,List.nodup_nil,by simp,[v2,v3],fun _ => [],rfl,rfl,by simp,fun k hk => ?_⟩
  match k,hk with
  | 0,_ => exact ⟨hf2',r2v.wk hwk⟩
  | 1,_ => exact ⟨hf3,r3v⟩
 have hd : a.defers = [dfr g b2 b3] := by rw [st.defs]; simp [Ctx.put,hdf]
 show Leaves P fn a.tmps (RC C0 (.tup [r2',r3])) a.defers (.panicking ch) w
 rw [hd]
 obtain ⟨fg,hf1,hf2,hf3⟩ := hg.i
 refine leaves_cons (by simp) (f := g) (args := #[.pointer (some ⟨b2,0,none⟩),.pointer (some ⟨b3,0,none⟩)]) ?_ ((hD w ch hch cs2 cs3 e2 e3 q1 hl2 p1 hl3).mono ?_)
 · simp [invoke,run_callFunc hf1 hf2 hf3]
 · rintro e u' w' ⟨⟨v,rfl⟩,hu,rfl⟩
   show Leaves P fn a.tmps (RC C0 (.tup [r2',r3])) [] (settle u') _
   rw [hu]
   exact ⟨_,hres,hrc⟩
end Go.Sx

namespace Go.Sx
theorem nU {m n : Nat} (h : Nat.ble m n = true) : m ≤ n := Nat.le_of_ble_eq_true h
theorem bU {p : Prop} (h : p := by first | omega | (simp only [List.length_map,List.length_append,List.length_cons,List.length_nil,List.length_take,List.length_drop,List.length_replicate]; omega) | (simp; omega)) : p := h
theorem bV {x : Int} (h : 0 ≤ x := by first | omega | (simp only [List.length_map,List.length_append,List.length_cons,List.length_nil,List.length_take,List.length_drop,List.length_replicate]; omega) | (simp; omega)) : 0 ≤ x := h
theorem gU {σ : Sg} (n : Nat) {d : D} (h : σ.get n = some d) : σ.get n = some d := h
theorem xU {σ : Sg} (n : Nat) {d : Bx} (h : σ.box n = some d) : σ.box n = some d := h
theorem gV {gl : List (Nat × D)} {σ : Sg} (n : Nat) {d : D} (h : σ.get n = some d) : ev gl σ (.tmp n) = some d := h
theorem eU {gl : List (Nat × D)} {τ : Sg} {f : Nat → Option D} (K : ∀ u x,f u = some x → τ.get u = some x) (n : Nat) {d : D} (h : f n = some d) : ev gl τ (.tmp n) = some d := K n d h
theorem kI {gl : List (Nat × D)} {σ : Sg} (n : Nat) {i : Int} (h : ev gl σ (.const (.int .i64 i)) = some (.int ((n : Nat) : Int))) : ev gl σ (.const (.int .i64 i)) = some (.int ((n : Nat) : Int)) := h
theorem kB {gl : List (Nat × D)} {σ : Sg} (b : Bool) (h : ev gl σ (.const (.bool b)) = some (.bool b)) : ev gl σ (.const (.bool b)) = some (.bool b) := h
theorem kN {gl : List (Nat × D)} {σ : Sg} (h : ev gl σ (.const (.slice none 0 0)) = some .nils) : ev gl σ (.const (.slice none 0 0)) = some .nils := h
@[reducible] def It.y (n : Nat) (d : D) : It := ⟨n,d,true⟩
@[reducible] def It.x (n : Nat) : It := ⟨n,.dead,false⟩
section
variable {P : Program} {C : Ctx} {σ : Sg} {ops : List Oper} {an : List Nat} {ks kk : List (Nat × Nat)} {its : List It}
abbrev EntP (P : Program) (C : Ctx) (σ : Sg) (an : List Nat) (ks kk : List (Nat × Nat)) (its : List It) (i : Nat) (o : Oper) (t : Nat) (d : D) : Prop :=
 ∀ τ : Sg,(∀ id x,lk σ.bx id = some x → τ.box id = some x) → t < τ.n → (∀ u x,facts an ks σ.env its i u = some x → τ.get u = some x) → OpS P C o τ ((killS τ kk i).set t d)
abbrev Ent (P : Program) (C : Ctx) (σ : Sg) (ops : List Oper) (an : List Nat) (ks kk : List (Nat × Nat)) (its : List It) (i : Nat) (o : Oper) (t : Nat) (d : D) (wt : Bool) : Prop :=
 o.dst = some t ∧ Wt ops (facts an ks σ.env its i) o wt ∧ (wt = true → ∀ τ : Sg,(∀ id x,lk σ.bx id = some x → τ.box id = some x) → t < τ.n → (∀ u x,facts an ks σ.env its i u = some x → τ.get u = some x) → OpS P C o τ ((killS τ kk i).set t d))
def noK (kk : List (Nat × Nat)) (i : Nat) : Bool := kk.all fun x => !Nat.beq x.1 i
theorem killS_no {τ : Sg} {i : Nat} : ∀ {kk : List (Nat × Nat)},noK kk i = true → killS τ kk i = τ := by
 intro kk
 induction kk with
 | nil => intro _; rfl
 | cons y r ih =>
  obtain ⟨k,s⟩ := y
  intro h
  simp only [noK,List.all_cons,Bool.and_eq_true,Bool.not_eq_true'] at h
  rw [killS,h.1]
  exact ih h.2
theorem aU {i t : Nat} {d : D} {op : Op} {ty : TypeId} {pos : String} {aft : Array Edge} (f : EntP P C σ an ks kk its i ⟨some t,op,ty,pos,aft,none⟩ t d) :
 Ent P C σ ops an ks kk its i ⟨some t,op,ty,pos,aft,none⟩ t d true := ⟨rfl,rfl,fun _ => f⟩
theorem aW {i t g : Nat} {d : D} {op : Op} {ty : TypeId} {pos : String} {aft : Array Edge} {want b : Bool} {tg : Nat} (h1 : (ops[g]?).bind (·.dst) = some tg)
 (h3 : facts an ks σ.env its i tg = some (.bool b)) (h4 : true = (b == want)) (f : EntP P C σ an ks kk its i ⟨some t,op,ty,pos,aft,some (g,want)⟩ t d) :
 Ent P C σ ops an ks kk its i ⟨some t,op,ty,pos,aft,some (g,want)⟩ t d true := by
 obtain ⟨og,h1,h2⟩ := Option.bind_eq_some_iff.1 h1
 exact ⟨rfl,⟨og,tg,h1,h2,.inl ⟨b,h3,h4⟩⟩,fun _ => f⟩
theorem aF {i t g : Nat} {op : Op} {ty : TypeId} {pos : String} {aft : Array Edge} {want b : Bool} {tg : Nat} (h1 : (ops[g]?).bind (·.dst) = some tg)
 (h3 : facts an ks σ.env its i tg = some (.bool b)) (h4 : false = (b == want)) :
 Ent P C σ ops an ks kk its i ⟨some t,op,ty,pos,aft,some (g,want)⟩ t .dead false := by
 obtain ⟨og,h1,h2⟩ := Option.bind_eq_some_iff.1 h1
 exact ⟨rfl,⟨og,tg,h1,h2,.inl ⟨b,h3,h4⟩⟩,fun h => absurd h (by decide)⟩
theorem gT {b wt want : Bool} (h : b = true) (hw : wt = (true == want)) : wt = (b == want) := gw h hw
theorem gF {b wt want : Bool} (h : b = false) (hw : wt = (false == want)) : wt = (b == want) := gw h hw
theorem mU {i t : Nat} {d : D} {ty : TypeId} {pos : String} {aft : Array Edge} (s : Nat) (h : facts an ks σ.env its i s = some d) (hp : (d.pur && noK kk i) = true) :
 Ent P C σ ops an ks kk its i ⟨some t,.move (.tmp s),ty,pos,aft,none⟩ t d true := by
 rw [Bool.and_eq_true] at hp
 exact ⟨rfl,rfl,fun _ τ _ H K => by rw [killS_no hp.2]; exact R.mov (K s d h) hp.1 H⟩
theorem fU {i t id off off' : Nat} {path : List Nat} {s f : Nat} {rt : TypeId} {pos : String} {aft : Array Edge} {g : Option (Nat × Bool)} [FdT P s f off'] (x : Nat)
 (h : facts an ks σ.env its i x = some (.ptr id off path)) (hk : noK kk i = true) : EntP P C σ an ks kk its i ⟨some t,.fieldAddr s (.tmp x) f,rt,pos,aft,g⟩ t (.ptr id (off + off') (path ++ [f])) :=
 fun τ _ H K => by rw [killS_no hk]; exact R.fdP (K _ _ h) H
theorem lU {i t id off : Nat} {path : List Nat} {d0 d : D} {ty n rt : TypeId} {gg : Bool} {pos : String} {aft : Array Edge} {g : Option (Nat × Bool)} [LdT P ty n gg] (p : Nat)
 (h : facts an ks σ.env its i p = some (.ptr id off path)) (hb : lk σ.bx id = some (.var d0)) (hl : d0.loc path = some (off,d)) (hp : d.pur = true) (hn : d.sz = n) (hg : d.isAgg = gg) (hk : noK kk i = true) :
 EntP P C σ an ks kk its i ⟨some t,.load ty (.tmp p),rt,pos,aft,g⟩ t d :=
 fun τ B H K => by rw [killS_no hk]; exact R.ldP (K _ _ h) (B _ _ hb) hl hp hn hg H
theorem tU {Q : Exit → Sg → Prop} (h : picks σ.get (σ.env.map (·.1)) = σ.env) (q : Q .normal σ) : TL P C Q [] σ := ⟨_,_,_,_,h,rfl,rfl,q⟩
theorem tV {Q : Exit → Sg → Prop} (e : List (Nat × D)) (b : List (Nat × Bx)) (n : Nat) (h : picks σ.get (e.map (·.1)) = e) (h1 : σ.bx = b) (h2 : σ.n = n) (q : Q .normal ⟨n,e,b⟩) : TL P C Q [] σ := ⟨_,_,_,_,h,h1,h2,q⟩
end
section
variable {P : Program} {C : Ctx} {σ : Sg} {ops : List Oper} {Q : Exit → Sg → Prop}
def okL (n : Nat) (m : Nat) (ks kk : List (Nat × Nat)) (its : List It) (env : List (Nat × D)) (l : Nat) : Bool :=
 Nat.ble l m && Nat.ble its.length l && okTs n (slots its) && okRef (upTo m 0) ks (slots its) its 0 && subs kk ks && okEnv (slots its) env
theorem W.l0 {id : Nat} (m : Nat) (its : List It) (ks kk : List (Nat × Nat)) (env' : List (Nat × D)) (bx' : List (Nat × Bx)) (n' : Nat)
 (H : AllOps P C σ ops (upTo m 0) ks kk its ops its 0) (h : okL σ.n m ks kk its σ.env ops.length = true) (hE : picks (afts (upTo m 0) (fun _ => true) ks σ.env its) (env'.map (·.1)) = env')
 (hb : σ.bx = bx') (hn' : σ.n = n') (hT : TL P C Q (ops.drop its.length) ⟨n',env',bx'⟩) : W P C (.region id ops.toArray false) Q σ := by
 unfold okL at h
 simp only [Bool.and_eq_true] at h
 exact W.line (Nat.le_of_ble_eq_true h.1.1.1.1.1) ⟨Nat.le_of_ble_eq_true h.1.1.1.1.2,h.1.1.1.2,H,h.1.1.2,h.1.2,h.2⟩ hE hb hn' hT
end
end Go.Sx

namespace Go.Sx

def kTab : List UInt32 := [0x428a2f98,0x71374491,0xb5c0fbcf,0xe9b5dba5,0x3956c25b,0x59f111f1,0x923f82a4,0xab1c5ed5,
 0xd807aa98,0x12835b01,0x243185be,0x550c7dc3,0x72be5d74,0x80deb1fe,0x9bdc06a7,0xc19bf174,
 0xe49b69c1,0xefbe4786,0x0fc19dc6,0x240ca1cc,0x2de92c6f,0x4a7484aa,0x5cb0a9dc,0x76f988da,
 0x983e5152,0xa831c66d,0xb00327c8,0xbf597fc7,0xc6e00bf3,0xd5a79147,0x06ca6351,0x14292967,
 0x27b70a85,0x2e1b2138,0x4d2c6dfc,0x53380d13,0x650a7354,0x766a0abb,0x81c2c92e,0x92722c85,
 0xa2bfe8a1,0xa81a664b,0xc24b8b70,0xc76c51a3,0xd192e819,0xd6990624,0xf40e3585,0x106aa070,
 0x19a4c116,0x1e376c08,0x2748774c,0x34b0bcb5,0x391c0cb3,0x4ed8aa4a,0x5b9cca4f,0x682e6ff3,
 0x748f82ee,0x78a5636f,0x84c87814,0x8cc70208,0x90befffa,0xa4506ceb,0xbef9a3f7,0xc67178f2]
def iv : List UInt32 := [0x6a09e667,0xbb67ae85,0x3c6ef372,0xa54ff53a,0x510e527f,0x9b05688c,0x1f83d9ab,0x5be0cd19]

def bytesD (b : List UInt8) : D := .sl none 1 (b.map D.u8)
def hashD (b : List UInt8) : D := .arr 32 1 (b.map D.u8)

def rotl (x : UInt32) (k : Int) : UInt32 := shl_u32 x (UInt64.ofInt k &&& 31).toNat ||| shr_u32 x (32 - (UInt64.ofInt k &&& 31)).toNat
def right (x : UInt32) (n : Int) : UInt32 := rotl x (wr (0 - n))
def inW (p : List UInt8) (t : Nat) (w : List UInt32) : Nat → List UInt32
 | 0 => w
 | i + 1 => (inW p t w i).set t (shl_u32 (inW p t w i)[t]! 8 ||| (p[4 * t + i]!).toUInt32)
def nextW (w : List UInt32) (t : Nat) : UInt32 :=
 w[t - 16]! + w[t - 7]! + (right w[t - 15]! 7 ^^^ right w[t - 15]! 18 ^^^ shr_u32 w[t - 15]! 3) + (right w[t - 2]! 17 ^^^ right w[t - 2]! 19 ^^^ shr_u32 w[t - 2]! 10)
def sched (p : List UInt8) : Nat → List UInt32
 | 0 => List.replicate 64 0
 | t + 1 => if t < 16 then inW p t (sched p t) 4 else (sched p t).set t (nextW (sched p t) t)

structure W8 where
 a : UInt32
 b : UInt32
 c : UInt32
 d : UInt32
 e : UInt32
 f : UInt32
 g : UInt32
 l : UInt32
def W8.list (v : W8) : List UInt32 := [v.a,v.b,v.c,v.d,v.e,v.f,v.g,v.l]
def W8.of (h : List UInt32) : W8 := ⟨h[0]!,h[1]!,h[2]!,h[3]!,h[4]!,h[5]!,h[6]!,h[7]!⟩
def one (v : W8) (k w : UInt32) : UInt32 := v.l + (right v.e 6 ^^^ right v.e 11 ^^^ right v.e 25) + (v.g ^^^ (v.e &&& (v.f ^^^ v.g))) + k + w
def two (v : W8) : UInt32 := (right v.a 2 ^^^ right v.a 13 ^^^ right v.a 22) + (v.a &&& v.b ||| v.c &&& (v.a ||| v.b))
def rnd (v : W8) (k w : UInt32) : W8 := ⟨one v k w + two v,v.a,v.b,v.c,v.d + one v k w,v.e,v.f,v.g⟩
def rds (h w : List UInt32) : Nat → W8
 | 0 => W8.of h
 | t + 1 => rnd (rds h w t) kTab[t]! w[t]!
def addH (h l : List UInt32) : Nat → List UInt32
 | 0 => h
 | i + 1 => (addH h l i).set i ((addH h l i)[i]! + l[i]!)
def comp (h : List UInt32) (p : List UInt8) : List UInt32 := addH h (rds h (sched p 64) 64).list 8

structure ShaS where
 begun : Bool
 h : List UInt32
 piece : List UInt8
 n : UInt64
def stD (s : ShaS) : D := .agg [.bool s.begun,.arr 8 1 (s.h.map D.u32),.arr 64 1 (s.piece.map D.u8),.u64 s.n]
def ShaS.zero : ShaS := ⟨false,List.replicate 8 0,List.replicate 64 0,0⟩
def ShaS.start : ShaS := ⟨true,iv,List.replicate 64 0,0⟩
structure ShaS.ok (s : ShaS) : Prop where
 h : s.h.length = 8
 p : s.piece.length = 64
theorem ShaS.start_ok : ShaS.start.ok := ⟨by simp [ShaS.start,iv],by simp [ShaS.start]⟩

theorem frs_st (s : ShaS) : Frs (stD s) := .agg _ (frs_cons (.bool _) (frs_cons (.arr _ _ _ (frs_map fun _ => .u32 _)) (frs_cons (.arr _ _ _ (frs_map fun _ => .u8 _)) (frs_cons (.u64 _) frs_nil))))
theorem frs_hash (b : List UInt8) : Frs (hashD b) := .arr _ _ _ (frs_map fun _ => .u8 _)

theorem inW_len (p : List UInt8) (t : Nat) (w : List UInt32) (i : Nat) : (inW p t w i).length = w.length := by
 induction i with
 | zero => rfl
 | succ i ih => simp [inW,ih]
theorem sched_len (p : List UInt8) (t : Nat) : (sched p t).length = 64 := by
 induction t with
 | zero => simp [sched]
 | succ t ih => simp only [sched]; split <;> simp [inW_len,ih]
theorem addH_len (h l : List UInt32) (i : Nat) : (addH h l i).length = h.length := by
 induction i with
 | zero => rfl
 | succ i ih => simp [addH,ih]
theorem comp_len (h : List UInt32) (p : List UInt8) : (comp h p).length = h.length := addH_len ..

def mS (s : ShaS) : Nat := (s.n % 64).toNat
def kS (s : ShaS) (b : List UInt8) : Nat := min b.length (64 - mS s)
def pieceS (s : ShaS) (b : List UInt8) : List UInt8 := s.piece.take (mS s) ++ b.take (kS s b) ++ s.piece.drop (mS s + kS s b)
def nS (s : ShaS) (b : List UInt8) : UInt64 := s.n + UInt64.ofInt (kS s b : Nat)
def stepS (s : ShaS) (b : List UInt8) : ShaS := ⟨s.begun,bif nS s b % 64 == 0 then comp s.h (pieceS s b) else s.h,pieceS s b,nS s b⟩
theorem mS_lt (s : ShaS) : mS s < 64 := by
 unfold mS
 rw [UInt64.toNat_mod]
 exact Nat.mod_lt _ (by decide)
theorem kS_le (s : ShaS) (b : List UInt8) : kS s b ≤ b.length := Nat.min_le_left _ _
theorem kS_pos (s : ShaS) (b : List UInt8) (h : 0 < b.length) : 0 < kS s b := by have := mS_lt s; unfold kS; omega
theorem kS_room (s : ShaS) (b : List UInt8) : mS s + kS s b ≤ 64 := by have := mS_lt s; unfold kS; omega
def addW (s : ShaS) (b : List UInt8) : ShaS :=
 if h : b.length = 0 then s else addW (stepS s b) (b.drop (kS s b))
termination_by b.length
decreasing_by
 have := kS_pos s b (by omega)
 simp only [List.length_drop]; omega
theorem addW_nil (s : ShaS) (b : List UInt8) (h : b.length = 0) : addW s b = s := by rw [addW]; simp [h]
theorem addW_step (s : ShaS) (b : List UInt8) (h : b.length ≠ 0) : addW s b = addW (stepS s b) (b.drop (kS s b)) := by rw [addW]; simp [h]
def addS (s : ShaS) (b : List UInt8) : ShaS := addW (bif s.begun then s else ShaS.start) b
theorem pieceS_len (s : ShaS) (b : List UInt8) (h : s.ok) : (pieceS s b).length = 64 := by
 have h1 := kS_room s b
 have h2 := kS_le s b
 have h3 := h.p
 simp [pieceS]; omega
theorem stepS_ok (s : ShaS) (b : List UInt8) (h : s.ok) : (stepS s b).ok := by
 refine ⟨?_,pieceS_len s b h⟩
 simp only [stepS]
 cases (nS s b % 64 == 0) with
 | true => simp only [cond_true,comp_len]; exact h.h
 | false => exact h.h
theorem addW_ok (s : ShaS) (b : List UInt8) (h : s.ok) : (addW s b).ok := by
 induction hn : b.length using Nat.strongRecOn generalizing s b with
 | _ n ih =>
  by_cases h0 : b.length = 0
  · rw [addW_nil _ _ h0]; exact h
  · rw [addW_step _ _ h0]
    have := kS_pos s b (by omega)
    exact ih _ (by simp; omega) _ _ (stepS_ok s b h) rfl
theorem addS_ok (s : ShaS) (b : List UInt8) (h : s.ok) : (addS s b).ok := by
 unfold addS
 cases s.begun with
 | true => exact addW_ok _ _ h
 | false => exact addW_ok _ _ ShaS.start_ok

def padN (s : ShaS) : Nat := (120 - mS s) % 64
def padS : Nat → ShaS → ShaS
 | 0,s => s
 | k + 1,s => padS k (addS s [0])
def longB (n : UInt64) : Nat → List UInt8
 | 0 => List.replicate 8 0
 | i + 1 => (longB n i).set i (shr_u64 n (56 - 8 * i)).toUInt8
theorem longB_len (n : UInt64) (i : Nat) : (longB n i).length = 8 := by
 induction i with
 | zero => simp [longB]
 | succ i ih => simp [longB,ih]
def outB (h : List UInt32) : Nat → List UInt8
 | 0 => List.replicate 32 0
 | i + 1 => (outB h i).set i (shr_u32 h[i / 4]! (24 - 8 * (i % 4))).toUInt8
theorem outB_len (h : List UInt32) (i : Nat) : (outB h i).length = 32 := by
 induction i with
 | zero => simp [outB]
 | succ i ih => simp [outB,ih]
def pad1 (s : ShaS) : ShaS := addS s [128]
def pad2 (s : ShaS) : ShaS := padS (padN (pad1 s)) (pad1 s)
def pad3 (s : ShaS) : ShaS := addS (pad2 s) (longB (s.n * 8) 8)
def endS (s : ShaS) : List UInt8 := outB (pad3 s).h 32
def sumS (b : List UInt8) : List UInt8 := endS (addS ShaS.start b)
def twiceS (b : List UInt8) : List UInt8 := sumS (sumS b)
theorem endS_len (s : ShaS) : (endS s).length = 32 := outB_len _ _
theorem sumS_len (b : List UInt8) : (sumS b).length = 32 := endS_len _

theorem stepS_begun (s : ShaS) (b : List UInt8) : (stepS s b).begun = s.begun := rfl
theorem addW_begun (s : ShaS) (b : List UInt8) : (addW s b).begun = s.begun := by
 induction hn : b.length using Nat.strongRecOn generalizing s b with
 | _ n ih =>
  by_cases h0 : b.length = 0
  · rw [addW_nil _ _ h0]
  · rw [addW_step _ _ h0]
    have := kS_pos s b (by omega)
    rw [ih _ (by simp; omega) _ _ rfl,stepS_begun]
theorem addS_begun (s : ShaS) (b : List UInt8) : (addS s b).begun = true := by
 unfold addS
 rw [addW_begun]
 cases h : s.begun with
 | true => simpa using h
 | false => rfl
theorem addS_one (s : ShaS) (x : UInt8) (h : s.begun = true) : addS s [x] = stepS s [x] := by
 unfold addS
 have hk : kS s [x] = 1 := by have := mS_lt s; simp only [kS,List.length_singleton]; omega
 rw [h,cond_true,addW_step _ _ (by simp),addW_nil _ _ (by simp [hk])]
theorem mS_one (s : ShaS) (x : UInt8) (h : s.begun = true) : mS (addS s [x]) = (mS s + 1) % 64 := by
 rw [addS_one s x h]
 have hk : kS s [x] = 1 := by have := mS_lt s; simp only [kS,List.length_singleton]; omega
 have e : UInt64.ofInt ((1 : Nat) : Int) = 1 := rfl
 have e1 : (1 : UInt64).toNat = 1 := rfl
 have e2 : (64 : UInt64).toNat = 64 := rfl
 simp only [mS,stepS,nS,hk,e,UInt64.toNat_mod,UInt64.toNat_add,e1,e2]
 omega
theorem mS_ne {s : ShaS} (h : (s.n % 64 != 56) = true) : mS s ≠ 56 := by
 intro he
 have : s.n % 64 = 56 := UInt64.toNat_inj.1 he
 simp [this] at h
theorem mS_eq {s : ShaS} (h : (s.n % 64 != 56) = false) : mS s = 56 := by
 have : s.n % 64 = 56 := by simpa using h
 unfold mS; rw [this]; rfl
theorem pad_step (s : ShaS) (hb : s.begun = true) (h : mS s ≠ 56) : padS (padN s) s = padS (padN (addS s [0])) (addS s [0]) := by
 have h1 := mS_one s 0 hb
 have h2 := mS_lt s
 have : padN s = padN (addS s [0]) + 1 := by unfold padN; omega
 rw [this]; rfl
theorem pad_less (s : ShaS) (hb : s.begun = true) (h : mS s ≠ 56) : padN (addS s [0]) < padN s := by
 have h1 := mS_one s 0 hb
 have h2 := mS_lt s
 unfold padN; omega
theorem pad_end (s : ShaS) (h : mS s = 56) : padN s = 0 := by unfold padN; omega

def rright (x : UInt32) (n : UInt64) : UInt32 := shr_u32 x n.toNat ||| shl_u32 x (32 - n).toNat
def w4 (p : List UInt8) (t : Nat) : UInt32 :=
 shl_u32 (p[4 * t]!).toUInt32 24 ||| shl_u32 (p[4 * t + 1]!).toUInt32 16 ||| shl_u32 (p[4 * t + 2]!).toUInt32 8 ||| (p[4 * t + 3]!).toUInt32
def nextR (w : List UInt32) (t : Nat) : UInt32 :=
 (rright w[t - 2]! 17 ^^^ rright w[t - 2]! 19 ^^^ shr_u32 w[t - 2]! 10) + w[t - 7]! + (rright w[t - 15]! 7 ^^^ rright w[t - 15]! 18 ^^^ shr_u32 w[t - 15]! 3) + w[t - 16]!
def wR (p : List UInt8) : Nat → List UInt32
 | 0 => []
 | t + 1 => wR p t ++ [if t < 16 then w4 p t else nextR (wR p t) t]
theorem wR_len (p : List UInt8) (t : Nat) : (wR p t).length = t := by
 induction t with
 | zero => rfl
 | succ t ih => simp [wR,ih]
def oneR (l : List UInt32) (k w : UInt32) : UInt32 :=
 l[7]! + (rright l[4]! 6 ^^^ rright l[4]! 11 ^^^ rright l[4]! 25) + (l[4]! &&& l[5]! ^^^ ~~~l[4]! &&& l[6]!) + k + w
def twoR (l : List UInt32) : UInt32 := (rright l[0]! 2 ^^^ rright l[0]! 13 ^^^ rright l[0]! 22) + (l[0]! &&& l[1]! ^^^ l[0]! &&& l[2]! ^^^ l[1]! &&& l[2]!)
def rndR (l : List UInt32) (k w : UInt32) : List UInt32 := [oneR l k w + twoR l,l[0]!,l[1]!,l[2]!,l[3]! + oneR l k w,l[4]!,l[5]!,l[6]!]
def rdsR (h w : List UInt32) : Nat → List UInt32
 | 0 => h
 | t + 1 => rndR (rdsR h w t) kTab[t]! w[t]!
theorem rdsR_len (h w : List UInt32) (t : Nat) (hh : h.length = 8) : (rdsR h w t).length = 8 := by
 cases t with
 | zero => exact hh
 | succ t => rfl
def compR (h : List UInt32) (p : List UInt8) : List UInt32 := addH h (rdsR h (wR p 64) 64) 8
theorem compR_len (h : List UInt32) (p : List UInt8) : (compR h p).length = h.length := addH_len ..
def zR (b : List UInt8) : Nat := (119 - b.length % 64) % 64
def tailR (n : UInt64) : Nat → List UInt8
 | 0 => []
 | j + 1 => tailR n j ++ [(shr_u64 n (UInt64.ofInt (wr (8 * (7 - ((j : Nat) : Int))))).toNat).toUInt8]
theorem tailR_len (n : UInt64) (t : Nat) : (tailR n t).length = t := by
 induction t with
 | zero => rfl
 | succ t ih => simp [tailR,ih]
def bitsR (b : List UInt8) : UInt64 := UInt64.ofInt (b.length : Nat) * 8
def textR (b : List UInt8) : List UInt8 := b ++ [128] ++ List.replicate (zR b) 0 ++ tailR (bitsR b) 8
theorem textR_len (b : List UInt8) : (textR b).length = b.length + 9 + zR b := by simp [textR,tailR_len]; omega
def pieces (b : List UInt8) : Nat := (b.length + 9 + zR b) / 64
theorem textR_pieces (b : List UInt8) : (textR b).length = 64 * pieces b := by rw [textR_len]; unfold pieces zR; omega
def hR (all : List UInt8) : Nat → List UInt32
 | 0 => iv
 | m + 1 => compR (hR all m) ((all.drop (64 * m)).take 64)
theorem hR_len (all : List UInt8) (m : Nat) : (hR all m).length = 8 := by
 induction m with
 | zero => rfl
 | succ m ih => simp only [hR,compR_len,ih]
def outR (h : List UInt32) : Nat → List UInt8
 | 0 => List.replicate 32 0
 | i + 1 => (outR h i).set i (shr_u32 h[i / 4]! (UInt64.ofInt ((24 - 8 * (i % 4) : Nat) : Int)).toNat).toUInt8
theorem outR_len (h : List UInt32) (i : Nat) : (outR h i).length = 32 := by
 induction i with
 | zero => simp [outR]
 | succ i ih => simp [outR,ih]
def sumR (b : List UInt8) : List UInt8 := outR (hR (textR b) (pieces b)) 32
def twiceR (b : List UInt8) : List UInt8 := sumR (sumR b)
theorem sumR_len (b : List UInt8) : (sumR b).length = 32 := outR_len _ _
end Go.Sx

namespace Go.Sx
open Go.Proofs
set_option maxRecDepth 100000
instance : LdT Tryd.prog 2 1 false := ⟨_,_,rfl,rfl,rfl,rfl⟩
instance : ElT Tryd.prog 2 1 8 := ⟨_,_,rfl,rfl,rfl,rfl,rfl,by decide,rfl⟩
instance : IkT Tryd.prog 2 .i64 := ⟨rfl⟩
instance : ZrT Tryd.prog 2 (.int 0) := ⟨_,_,rfl,rfl,by decide,rfl⟩
instance : LdT Tryd.prog 3 1 false := ⟨_,_,rfl,rfl,rfl,rfl⟩
instance : ElT Tryd.prog 3 1 8 := ⟨_,_,rfl,rfl,rfl,rfl,rfl,by decide,rfl⟩
instance : IkT Tryd.prog 3 .i64 := ⟨rfl⟩
instance : ZrT Tryd.prog 3 (.int 0) := ⟨_,_,rfl,rfl,by decide,rfl⟩
instance : LdT Tryd.prog 4 1 false := ⟨_,_,rfl,rfl,rfl,rfl⟩
instance : ElT Tryd.prog 4 1 1 := ⟨_,_,rfl,rfl,rfl,rfl,rfl,by decide,rfl⟩
instance : BoT Tryd.prog 4 := ⟨rfl⟩
instance : ZrT Tryd.prog 4 (.bool false) := ⟨_,_,rfl,rfl,by decide,rfl⟩
instance : LdT Tryd.prog 5 1 false := ⟨_,_,rfl,rfl,rfl,rfl⟩
instance : ElT Tryd.prog 5 1 1 := ⟨_,_,rfl,rfl,rfl,rfl,rfl,by decide,rfl⟩
instance : IkT Tryd.prog 5 .u8 := ⟨rfl⟩
instance : ZrT Tryd.prog 5 (.u8 0) := ⟨_,_,rfl,rfl,by decide,rfl⟩
instance : LdT Tryd.prog 6 1 false := ⟨_,_,rfl,rfl,rfl,rfl⟩
instance : ElT Tryd.prog 6 1 1 := ⟨_,_,rfl,rfl,rfl,rfl,rfl,by decide,rfl⟩
instance : IkT Tryd.prog 6 .u8 := ⟨rfl⟩
instance : ZrT Tryd.prog 6 (.u8 0) := ⟨_,_,rfl,rfl,by decide,rfl⟩
instance : LdT Tryd.prog 7 4 true := ⟨_,_,rfl,rfl,rfl,rfl⟩
instance : ElT Tryd.prog 7 4 24 := ⟨_,_,rfl,rfl,rfl,rfl,rfl,by decide,rfl⟩
instance : FtT Tryd.prog 7 0 2 0 := ⟨_,_,rfl,rfl,rfl,rfl⟩
instance : FdT Tryd.prog 7 0 0 := ⟨_,_,_,rfl,rfl,rfl,rfl,by decide⟩
instance : FtT Tryd.prog 7 1 3 1 := ⟨_,_,rfl,rfl,rfl,rfl⟩
instance : FdT Tryd.prog 7 1 1 := ⟨_,_,_,rfl,rfl,rfl,rfl,by decide⟩
instance : FtT Tryd.prog 7 2 4 2 := ⟨_,_,rfl,rfl,rfl,rfl⟩
instance : FdT Tryd.prog 7 2 2 := ⟨_,_,_,rfl,rfl,rfl,rfl,by decide⟩
instance : FtT Tryd.prog 7 3 6 3 := ⟨_,_,rfl,rfl,rfl,rfl⟩
instance : FdT Tryd.prog 7 3 3 := ⟨_,_,_,rfl,rfl,rfl,rfl,by decide⟩
instance : ZrT Tryd.prog 7 (.agg [.int 0,.int 0,.bool false,.u8 0]) := ⟨_,_,rfl,rfl,by decide,rfl⟩
instance : BsT Tryd.prog 7 ([.int 0,.int 0,.bool false,.u8 0]) := ⟨_,_,_,rfl,rfl,rfl,rfl,by decide⟩
instance : LdT Tryd.prog 8 4 true := ⟨_,_,rfl,rfl,rfl,rfl⟩
instance : ElT Tryd.prog 8 4 24 := ⟨_,_,rfl,rfl,rfl,rfl,rfl,by decide,rfl⟩
instance : FtT Tryd.prog 8 0 2 0 := ⟨_,_,rfl,rfl,rfl,rfl⟩
instance : FdT Tryd.prog 8 0 0 := ⟨_,_,_,rfl,rfl,rfl,rfl,by decide⟩
instance : FtT Tryd.prog 8 1 3 1 := ⟨_,_,rfl,rfl,rfl,rfl⟩
instance : FdT Tryd.prog 8 1 1 := ⟨_,_,_,rfl,rfl,rfl,rfl,by decide⟩
instance : FtT Tryd.prog 8 2 4 2 := ⟨_,_,rfl,rfl,rfl,rfl⟩
instance : FdT Tryd.prog 8 2 2 := ⟨_,_,_,rfl,rfl,rfl,rfl,by decide⟩
instance : FtT Tryd.prog 8 3 6 3 := ⟨_,_,rfl,rfl,rfl,rfl⟩
instance : FdT Tryd.prog 8 3 3 := ⟨_,_,_,rfl,rfl,rfl,rfl,by decide⟩
instance : ZrT Tryd.prog 8 (.agg [.int 0,.int 0,.bool false,.u8 0]) := ⟨_,_,rfl,rfl,by decide,rfl⟩
instance : BsT Tryd.prog 8 ([.int 0,.int 0,.bool false,.u8 0]) := ⟨_,_,_,rfl,rfl,rfl,rfl,by decide⟩
instance : LdT Tryd.prog 9 1 false := ⟨_,_,rfl,rfl,rfl,rfl⟩
instance : ElT Tryd.prog 9 1 16 := ⟨_,_,rfl,rfl,rfl,rfl,rfl,by decide,rfl⟩
instance : StT Tryd.prog 9 := ⟨rfl⟩
instance : ZrT Tryd.prog 9 (.str []) := ⟨_,_,rfl,rfl,by decide,rfl⟩
instance : LdT Tryd.prog 10 1 false := ⟨_,_,rfl,rfl,rfl,rfl⟩
instance : ElT Tryd.prog 10 1 16 := ⟨_,_,rfl,rfl,rfl,rfl,rfl,by decide,rfl⟩
instance : StT Tryd.prog 10 := ⟨rfl⟩
instance : ZrT Tryd.prog 10 (.str []) := ⟨_,_,rfl,rfl,by decide,rfl⟩
instance : LdT Tryd.prog 11 1 false := ⟨_,_,rfl,rfl,rfl,rfl⟩
instance : ElT Tryd.prog 11 1 16 := ⟨_,_,rfl,rfl,rfl,rfl,rfl,by decide,rfl⟩
instance : StT Tryd.prog 11 := ⟨rfl⟩
instance : ZrT Tryd.prog 11 (.str []) := ⟨_,_,rfl,rfl,by decide,rfl⟩
instance : LdT Tryd.prog 12 1 false := ⟨_,_,rfl,rfl,rfl,rfl⟩
instance : ElT Tryd.prog 12 1 8 := ⟨_,_,rfl,rfl,rfl,rfl,rfl,by decide,rfl⟩
instance : IkT Tryd.prog 12 .u64 := ⟨rfl⟩
instance : ZrT Tryd.prog 12 (.u64 0) := ⟨_,_,rfl,rfl,by decide,rfl⟩
instance : LdT Tryd.prog 13 2 true := ⟨_,_,rfl,rfl,rfl,rfl⟩
instance : ElT Tryd.prog 13 2 24 := ⟨_,_,rfl,rfl,rfl,rfl,rfl,by decide,rfl⟩
instance : FtT Tryd.prog 13 0 9 0 := ⟨_,_,rfl,rfl,rfl,rfl⟩
instance : FdT Tryd.prog 13 0 0 := ⟨_,_,_,rfl,rfl,rfl,rfl,by decide⟩
instance : FtT Tryd.prog 13 1 12 1 := ⟨_,_,rfl,rfl,rfl,rfl⟩
instance : FdT Tryd.prog 13 1 1 := ⟨_,_,_,rfl,rfl,rfl,rfl,by decide⟩
instance : ZrT Tryd.prog 13 (.agg [.str [],.u64 0]) := ⟨_,_,rfl,rfl,by decide,rfl⟩
instance : BsT Tryd.prog 13 ([.str [],.u64 0]) := ⟨_,_,_,rfl,rfl,rfl,rfl,by decide⟩
instance : LdT Tryd.prog 14 2 true := ⟨_,_,rfl,rfl,rfl,rfl⟩
instance : ElT Tryd.prog 14 2 24 := ⟨_,_,rfl,rfl,rfl,rfl,rfl,by decide,rfl⟩
instance : FtT Tryd.prog 14 0 9 0 := ⟨_,_,rfl,rfl,rfl,rfl⟩
instance : FdT Tryd.prog 14 0 0 := ⟨_,_,_,rfl,rfl,rfl,rfl,by decide⟩
instance : FtT Tryd.prog 14 1 12 1 := ⟨_,_,rfl,rfl,rfl,rfl⟩
instance : FdT Tryd.prog 14 1 1 := ⟨_,_,_,rfl,rfl,rfl,rfl,by decide⟩
instance : ZrT Tryd.prog 14 (.agg [.str [],.u64 0]) := ⟨_,_,rfl,rfl,by decide,rfl⟩
instance : BsT Tryd.prog 14 ([.str [],.u64 0]) := ⟨_,_,_,rfl,rfl,rfl,rfl,by decide⟩
instance : LdT Tryd.prog 21 1 false := ⟨_,_,rfl,rfl,rfl,rfl⟩
instance : ElT Tryd.prog 21 1 4 := ⟨_,_,rfl,rfl,rfl,rfl,rfl,by decide,rfl⟩
instance : IkT Tryd.prog 21 .i32 := ⟨rfl⟩
instance : ZrT Tryd.prog 21 (.ik .i32 0) := ⟨_,_,rfl,rfl,by decide,rfl⟩
instance : LdT Tryd.prog 22 1 false := ⟨_,_,rfl,rfl,rfl,rfl⟩
instance : ElT Tryd.prog 22 1 4 := ⟨_,_,rfl,rfl,rfl,rfl,rfl,by decide,rfl⟩
instance : IkT Tryd.prog 22 .u32 := ⟨rfl⟩
instance : ZrT Tryd.prog 22 (.u32 0) := ⟨_,_,rfl,rfl,by decide,rfl⟩
instance : LdT Tryd.prog 23 1 false := ⟨_,_,rfl,rfl,rfl,rfl⟩
instance : ElT Tryd.prog 23 1 24 := ⟨_,_,rfl,rfl,rfl,rfl,rfl,by decide,rfl⟩
instance : SlT Tryd.prog 23 56 := ⟨rfl⟩
instance : ZrT Tryd.prog 23 (.nils) := ⟨_,_,rfl,rfl,by decide,rfl⟩
instance : LdT Tryd.prog 24 1 false := ⟨_,_,rfl,rfl,rfl,rfl⟩
instance : ElT Tryd.prog 24 1 24 := ⟨_,_,rfl,rfl,rfl,rfl,rfl,by decide,rfl⟩
instance : SlT Tryd.prog 24 46 := ⟨rfl⟩
instance : ZrT Tryd.prog 24 (.nils) := ⟨_,_,rfl,rfl,by decide,rfl⟩
instance : LdT Tryd.prog 25 4 true := ⟨_,_,rfl,rfl,rfl,rfl⟩
instance : ElT Tryd.prog 25 4 64 := ⟨_,_,rfl,rfl,rfl,rfl,rfl,by decide,rfl⟩
instance : FtT Tryd.prog 25 0 22 0 := ⟨_,_,rfl,rfl,rfl,rfl⟩
instance : FdT Tryd.prog 25 0 0 := ⟨_,_,_,rfl,rfl,rfl,rfl,by decide⟩
instance : FtT Tryd.prog 25 1 23 1 := ⟨_,_,rfl,rfl,rfl,rfl⟩
instance : FdT Tryd.prog 25 1 1 := ⟨_,_,_,rfl,rfl,rfl,rfl,by decide⟩
instance : FtT Tryd.prog 25 2 24 2 := ⟨_,_,rfl,rfl,rfl,rfl⟩
instance : FdT Tryd.prog 25 2 2 := ⟨_,_,_,rfl,rfl,rfl,rfl,by decide⟩
instance : FtT Tryd.prog 25 3 22 3 := ⟨_,_,rfl,rfl,rfl,rfl⟩
instance : FdT Tryd.prog 25 3 3 := ⟨_,_,_,rfl,rfl,rfl,rfl,by decide⟩
instance : ZrT Tryd.prog 25 (.agg [.u32 0,.nils,.nils,.u32 0]) := ⟨_,_,rfl,rfl,by decide,rfl⟩
instance : BsT Tryd.prog 25 ([.u32 0,.nils,.nils,.u32 0]) := ⟨_,_,_,rfl,rfl,rfl,rfl,by decide⟩
instance : LdT Tryd.prog 26 4 true := ⟨_,_,rfl,rfl,rfl,rfl⟩
instance : ElT Tryd.prog 26 4 64 := ⟨_,_,rfl,rfl,rfl,rfl,rfl,by decide,rfl⟩
instance : FtT Tryd.prog 26 0 22 0 := ⟨_,_,rfl,rfl,rfl,rfl⟩
instance : FdT Tryd.prog 26 0 0 := ⟨_,_,_,rfl,rfl,rfl,rfl,by decide⟩
instance : FtT Tryd.prog 26 1 23 1 := ⟨_,_,rfl,rfl,rfl,rfl⟩
instance : FdT Tryd.prog 26 1 1 := ⟨_,_,_,rfl,rfl,rfl,rfl,by decide⟩
instance : FtT Tryd.prog 26 2 24 2 := ⟨_,_,rfl,rfl,rfl,rfl⟩
instance : FdT Tryd.prog 26 2 2 := ⟨_,_,_,rfl,rfl,rfl,rfl,by decide⟩
instance : FtT Tryd.prog 26 3 22 3 := ⟨_,_,rfl,rfl,rfl,rfl⟩
instance : FdT Tryd.prog 26 3 3 := ⟨_,_,_,rfl,rfl,rfl,rfl,by decide⟩
instance : ZrT Tryd.prog 26 (.agg [.u32 0,.nils,.nils,.u32 0]) := ⟨_,_,rfl,rfl,by decide,rfl⟩
instance : BsT Tryd.prog 26 ([.u32 0,.nils,.nils,.u32 0]) := ⟨_,_,_,rfl,rfl,rfl,rfl,by decide⟩
instance : LdT Tryd.prog 29 1 false := ⟨_,_,rfl,rfl,rfl,rfl⟩
instance : ElT Tryd.prog 29 1 24 := ⟨_,_,rfl,rfl,rfl,rfl,rfl,by decide,rfl⟩
instance : SlT Tryd.prog 29 5 := ⟨rfl⟩
instance : ZrT Tryd.prog 29 (.nils) := ⟨_,_,rfl,rfl,by decide,rfl⟩
instance : LdT Tryd.prog 31 32 true := ⟨_,_,rfl,rfl,rfl,rfl⟩
instance : ElT Tryd.prog 31 32 32 := ⟨_,_,rfl,rfl,rfl,rfl,rfl,by decide,rfl⟩
instance : ArT Tryd.prog 31 32 5 := ⟨rfl⟩
instance : BaT Tryd.prog 31 32 5 1 := ⟨_,_,_,rfl,rfl,rfl,rfl,rfl,rfl⟩
instance : EqT Tryd.prog 31 := ⟨by decide +kernel⟩
instance : ZrT Tryd.prog 31 (.arr 32 1 ((List.replicate 32 0).map D.u8)) := ⟨_,_,rfl,rfl,by decide,rfl⟩
instance : LdT Tryd.prog 32 32 true := ⟨_,_,rfl,rfl,rfl,rfl⟩
instance : ElT Tryd.prog 32 32 32 := ⟨_,_,rfl,rfl,rfl,rfl,rfl,by decide,rfl⟩
instance : ArT Tryd.prog 32 32 5 := ⟨rfl⟩
instance : BaT Tryd.prog 32 32 5 1 := ⟨_,_,_,rfl,rfl,rfl,rfl,rfl,rfl⟩
instance : EqT Tryd.prog 32 := ⟨by decide +kernel⟩
instance : ZrT Tryd.prog 32 (.arr 32 1 ((List.replicate 32 0).map D.u8)) := ⟨_,_,rfl,rfl,by decide,rfl⟩
instance : LdT Tryd.prog 34 1 false := ⟨_,_,rfl,rfl,rfl,rfl⟩
instance : ElT Tryd.prog 34 1 8 := ⟨_,_,rfl,rfl,rfl,rfl,rfl,by decide,rfl⟩
instance : IkT Tryd.prog 34 .i64 := ⟨rfl⟩
instance : ZrT Tryd.prog 34 (.int 0) := ⟨_,_,rfl,rfl,by decide,rfl⟩
instance : LdT Tryd.prog 44 1 false := ⟨_,_,rfl,rfl,rfl,rfl⟩
instance : ElT Tryd.prog 44 1 8 := ⟨_,_,rfl,rfl,rfl,rfl,rfl,by decide,rfl⟩
instance : IkT Tryd.prog 44 .u64 := ⟨rfl⟩
instance : ZrT Tryd.prog 44 (.u64 0) := ⟨_,_,rfl,rfl,by decide,rfl⟩
instance : LdT Tryd.prog 45 2 true := ⟨_,_,rfl,rfl,rfl,rfl⟩
instance : ElT Tryd.prog 45 2 32 := ⟨_,_,rfl,rfl,rfl,rfl,rfl,by decide,rfl⟩
instance : FtT Tryd.prog 45 0 44 0 := ⟨_,_,rfl,rfl,rfl,rfl⟩
instance : FdT Tryd.prog 45 0 0 := ⟨_,_,_,rfl,rfl,rfl,rfl,by decide⟩
instance : FtT Tryd.prog 45 1 29 1 := ⟨_,_,rfl,rfl,rfl,rfl⟩
instance : FdT Tryd.prog 45 1 1 := ⟨_,_,_,rfl,rfl,rfl,rfl,by decide⟩
instance : ZrT Tryd.prog 45 (.agg [.u64 0,.nils]) := ⟨_,_,rfl,rfl,by decide,rfl⟩
instance : BsT Tryd.prog 45 ([.u64 0,.nils]) := ⟨_,_,_,rfl,rfl,rfl,rfl,by decide⟩
instance : LdT Tryd.prog 46 2 true := ⟨_,_,rfl,rfl,rfl,rfl⟩
instance : ElT Tryd.prog 46 2 32 := ⟨_,_,rfl,rfl,rfl,rfl,rfl,by decide,rfl⟩
instance : FtT Tryd.prog 46 0 44 0 := ⟨_,_,rfl,rfl,rfl,rfl⟩
instance : FdT Tryd.prog 46 0 0 := ⟨_,_,_,rfl,rfl,rfl,rfl,by decide⟩
instance : FtT Tryd.prog 46 1 29 1 := ⟨_,_,rfl,rfl,rfl,rfl⟩
instance : FdT Tryd.prog 46 1 1 := ⟨_,_,_,rfl,rfl,rfl,rfl,by decide⟩
instance : ZrT Tryd.prog 46 (.agg [.u64 0,.nils]) := ⟨_,_,rfl,rfl,by decide,rfl⟩
instance : BsT Tryd.prog 46 ([.u64 0,.nils]) := ⟨_,_,_,rfl,rfl,rfl,rfl,by decide⟩
instance : LdT Tryd.prog 47 1 false := ⟨_,_,rfl,rfl,rfl,rfl⟩
instance : ElT Tryd.prog 47 1 8 := ⟨_,_,rfl,rfl,rfl,rfl,rfl,by decide,rfl⟩
instance : IkT Tryd.prog 47 .u64 := ⟨rfl⟩
instance : ZrT Tryd.prog 47 (.u64 0) := ⟨_,_,rfl,rfl,by decide,rfl⟩
instance : LdT Tryd.prog 49 1 false := ⟨_,_,rfl,rfl,rfl,rfl⟩
instance : ElT Tryd.prog 49 1 1 := ⟨_,_,rfl,rfl,rfl,rfl,rfl,by decide,rfl⟩
instance : IkT Tryd.prog 49 .i8 := ⟨rfl⟩
instance : ZrT Tryd.prog 49 (.ik .i8 0) := ⟨_,_,rfl,rfl,by decide,rfl⟩
instance : LdT Tryd.prog 52 33 true := ⟨_,_,rfl,rfl,rfl,rfl⟩
instance : ElT Tryd.prog 52 33 36 := ⟨_,_,rfl,rfl,rfl,rfl,rfl,by decide,rfl⟩
instance : EqT Tryd.prog 52 := ⟨by decide +kernel⟩
instance : FtT Tryd.prog 52 0 32 0 := ⟨_,_,rfl,rfl,rfl,rfl⟩
instance : FdT Tryd.prog 52 0 0 := ⟨_,_,_,rfl,rfl,rfl,rfl,by decide⟩
instance : FtT Tryd.prog 52 1 22 32 := ⟨_,_,rfl,rfl,rfl,rfl⟩
instance : FdT Tryd.prog 52 1 32 := ⟨_,_,_,rfl,rfl,rfl,rfl,by decide⟩
instance : ZrT Tryd.prog 52 (.agg [.arr 32 1 ((List.replicate 32 0).map D.u8),.u32 0]) := ⟨_,_,rfl,rfl,by decide,rfl⟩
instance : BsT Tryd.prog 52 ([.arr 32 1 ((List.replicate 32 0).map D.u8),.u32 0]) := ⟨_,_,_,rfl,rfl,rfl,rfl,by decide⟩
instance : LdT Tryd.prog 53 33 true := ⟨_,_,rfl,rfl,rfl,rfl⟩
instance : ElT Tryd.prog 53 33 36 := ⟨_,_,rfl,rfl,rfl,rfl,rfl,by decide,rfl⟩
instance : EqT Tryd.prog 53 := ⟨by decide +kernel⟩
instance : FtT Tryd.prog 53 0 32 0 := ⟨_,_,rfl,rfl,rfl,rfl⟩
instance : FdT Tryd.prog 53 0 0 := ⟨_,_,_,rfl,rfl,rfl,rfl,by decide⟩
instance : FtT Tryd.prog 53 1 22 32 := ⟨_,_,rfl,rfl,rfl,rfl⟩
instance : FdT Tryd.prog 53 1 32 := ⟨_,_,_,rfl,rfl,rfl,rfl,by decide⟩
instance : ZrT Tryd.prog 53 (.agg [.arr 32 1 ((List.replicate 32 0).map D.u8),.u32 0]) := ⟨_,_,rfl,rfl,by decide,rfl⟩
instance : BsT Tryd.prog 53 ([.arr 32 1 ((List.replicate 32 0).map D.u8),.u32 0]) := ⟨_,_,_,rfl,rfl,rfl,rfl,by decide⟩
instance : LdT Tryd.prog 54 1 false := ⟨_,_,rfl,rfl,rfl,rfl⟩
instance : ElT Tryd.prog 54 1 24 := ⟨_,_,rfl,rfl,rfl,rfl,rfl,by decide,rfl⟩
instance : SlT Tryd.prog 54 29 := ⟨rfl⟩
instance : ZrT Tryd.prog 54 (.nils) := ⟨_,_,rfl,rfl,by decide,rfl⟩
instance : LdT Tryd.prog 55 36 true := ⟨_,_,rfl,rfl,rfl,rfl⟩
instance : ElT Tryd.prog 55 36 96 := ⟨_,_,rfl,rfl,rfl,rfl,rfl,by decide,rfl⟩
instance : FtT Tryd.prog 55 0 53 0 := ⟨_,_,rfl,rfl,rfl,rfl⟩
instance : FdT Tryd.prog 55 0 0 := ⟨_,_,_,rfl,rfl,rfl,rfl,by decide⟩
instance : FtT Tryd.prog 55 1 29 33 := ⟨_,_,rfl,rfl,rfl,rfl⟩
instance : FdT Tryd.prog 55 1 33 := ⟨_,_,_,rfl,rfl,rfl,rfl,by decide⟩
instance : FtT Tryd.prog 55 2 22 34 := ⟨_,_,rfl,rfl,rfl,rfl⟩
instance : FdT Tryd.prog 55 2 34 := ⟨_,_,_,rfl,rfl,rfl,rfl,by decide⟩
instance : FtT Tryd.prog 55 3 54 35 := ⟨_,_,rfl,rfl,rfl,rfl⟩
instance : FdT Tryd.prog 55 3 35 := ⟨_,_,_,rfl,rfl,rfl,rfl,by decide⟩
instance : ZrT Tryd.prog 55 (.agg [.agg [.arr 32 1 ((List.replicate 32 0).map D.u8),.u32 0],.nils,.u32 0,.nils]) := ⟨_,_,rfl,rfl,by decide,rfl⟩
instance : BsT Tryd.prog 55 ([.agg [.arr 32 1 ((List.replicate 32 0).map D.u8),.u32 0],.nils,.u32 0,.nils]) := ⟨_,_,_,rfl,rfl,rfl,rfl,by decide⟩
instance : LdT Tryd.prog 56 36 true := ⟨_,_,rfl,rfl,rfl,rfl⟩
instance : ElT Tryd.prog 56 36 96 := ⟨_,_,rfl,rfl,rfl,rfl,rfl,by decide,rfl⟩
instance : FtT Tryd.prog 56 0 53 0 := ⟨_,_,rfl,rfl,rfl,rfl⟩
instance : FdT Tryd.prog 56 0 0 := ⟨_,_,_,rfl,rfl,rfl,rfl,by decide⟩
instance : FtT Tryd.prog 56 1 29 33 := ⟨_,_,rfl,rfl,rfl,rfl⟩
instance : FdT Tryd.prog 56 1 33 := ⟨_,_,_,rfl,rfl,rfl,rfl,by decide⟩
instance : FtT Tryd.prog 56 2 22 34 := ⟨_,_,rfl,rfl,rfl,rfl⟩
instance : FdT Tryd.prog 56 2 34 := ⟨_,_,_,rfl,rfl,rfl,rfl,by decide⟩
instance : FtT Tryd.prog 56 3 54 35 := ⟨_,_,rfl,rfl,rfl,rfl⟩
instance : FdT Tryd.prog 56 3 35 := ⟨_,_,_,rfl,rfl,rfl,rfl,by decide⟩
instance : ZrT Tryd.prog 56 (.agg [.agg [.arr 32 1 ((List.replicate 32 0).map D.u8),.u32 0],.nils,.u32 0,.nils]) := ⟨_,_,rfl,rfl,by decide,rfl⟩
instance : BsT Tryd.prog 56 ([.agg [.arr 32 1 ((List.replicate 32 0).map D.u8),.u32 0],.nils,.u32 0,.nils]) := ⟨_,_,_,rfl,rfl,rfl,rfl,by decide⟩
instance : LdT Tryd.prog 57 1 false := ⟨_,_,rfl,rfl,rfl,rfl⟩
instance : ElT Tryd.prog 57 1 8 := ⟨_,_,rfl,rfl,rfl,rfl,rfl,by decide,rfl⟩
instance : ZrT Tryd.prog 57 (.nilp) := ⟨_,_,rfl,rfl,by decide,rfl⟩
instance : LdT Tryd.prog 58 1 true := ⟨_,_,rfl,rfl,rfl,rfl⟩
instance : ElT Tryd.prog 58 1 24 := ⟨_,_,rfl,rfl,rfl,rfl,rfl,by decide,rfl⟩
instance : FtT Tryd.prog 58 0 29 0 := ⟨_,_,rfl,rfl,rfl,rfl⟩
instance : FdT Tryd.prog 58 0 0 := ⟨_,_,_,rfl,rfl,rfl,rfl,by decide⟩
instance : ZrT Tryd.prog 58 (.agg [.nils]) := ⟨_,_,rfl,rfl,by decide,rfl⟩
instance : BsT Tryd.prog 58 ([.nils]) := ⟨_,_,_,rfl,rfl,rfl,rfl,by decide⟩
instance : LdT Tryd.prog 59 1 true := ⟨_,_,rfl,rfl,rfl,rfl⟩
instance : ElT Tryd.prog 59 1 24 := ⟨_,_,rfl,rfl,rfl,rfl,rfl,by decide,rfl⟩
instance : FtT Tryd.prog 59 0 29 0 := ⟨_,_,rfl,rfl,rfl,rfl⟩
instance : FdT Tryd.prog 59 0 0 := ⟨_,_,_,rfl,rfl,rfl,rfl,by decide⟩
instance : ZrT Tryd.prog 59 (.agg [.nils]) := ⟨_,_,rfl,rfl,by decide,rfl⟩
instance : BsT Tryd.prog 59 ([.nils]) := ⟨_,_,_,rfl,rfl,rfl,rfl,by decide⟩
instance : LdT Tryd.prog 70 1 false := ⟨_,_,rfl,rfl,rfl,rfl⟩
instance : ElT Tryd.prog 70 1 8 := ⟨_,_,rfl,rfl,rfl,rfl,rfl,by decide,rfl⟩
instance : ZrT Tryd.prog 70 (.nilp) := ⟨_,_,rfl,rfl,by decide,rfl⟩
instance : LdT Tryd.prog 71 1 true := ⟨_,_,rfl,rfl,rfl,rfl⟩
instance : ElT Tryd.prog 71 1 24 := ⟨_,_,rfl,rfl,rfl,rfl,rfl,by decide,rfl⟩
instance : FtT Tryd.prog 71 0 29 0 := ⟨_,_,rfl,rfl,rfl,rfl⟩
instance : FdT Tryd.prog 71 0 0 := ⟨_,_,_,rfl,rfl,rfl,rfl,by decide⟩
instance : ZrT Tryd.prog 71 (.agg [.nils]) := ⟨_,_,rfl,rfl,by decide,rfl⟩
instance : BsT Tryd.prog 71 ([.nils]) := ⟨_,_,_,rfl,rfl,rfl,rfl,by decide⟩
instance : LdT Tryd.prog 74 1 false := ⟨_,_,rfl,rfl,rfl,rfl⟩
instance : ElT Tryd.prog 74 1 8 := ⟨_,_,rfl,rfl,rfl,rfl,rfl,by decide,rfl⟩
instance : ZrT Tryd.prog 74 (.nilp) := ⟨_,_,rfl,rfl,by decide,rfl⟩
instance : LdT Tryd.prog 76 1 false := ⟨_,_,rfl,rfl,rfl,rfl⟩
instance : ElT Tryd.prog 76 1 8 := ⟨_,_,rfl,rfl,rfl,rfl,rfl,by decide,rfl⟩
instance : ZrT Tryd.prog 76 (.nilp) := ⟨_,_,rfl,rfl,by decide,rfl⟩
instance : LdT Tryd.prog 77 2 true := ⟨_,_,rfl,rfl,rfl,rfl⟩
instance : ElT Tryd.prog 77 2 32 := ⟨_,_,rfl,rfl,rfl,rfl,rfl,by decide,rfl⟩
instance : FtT Tryd.prog 77 0 29 0 := ⟨_,_,rfl,rfl,rfl,rfl⟩
instance : FdT Tryd.prog 77 0 0 := ⟨_,_,_,rfl,rfl,rfl,rfl,by decide⟩
instance : FtT Tryd.prog 77 1 4 1 := ⟨_,_,rfl,rfl,rfl,rfl⟩
instance : FdT Tryd.prog 77 1 1 := ⟨_,_,_,rfl,rfl,rfl,rfl,by decide⟩
instance : ZrT Tryd.prog 77 (.agg [.nils,.bool false]) := ⟨_,_,rfl,rfl,by decide,rfl⟩
instance : BsT Tryd.prog 77 ([.nils,.bool false]) := ⟨_,_,_,rfl,rfl,rfl,rfl,by decide⟩
instance : LdT Tryd.prog 78 2 true := ⟨_,_,rfl,rfl,rfl,rfl⟩
instance : ElT Tryd.prog 78 2 32 := ⟨_,_,rfl,rfl,rfl,rfl,rfl,by decide,rfl⟩
instance : FtT Tryd.prog 78 0 29 0 := ⟨_,_,rfl,rfl,rfl,rfl⟩
instance : FdT Tryd.prog 78 0 0 := ⟨_,_,_,rfl,rfl,rfl,rfl,by decide⟩
instance : FtT Tryd.prog 78 1 4 1 := ⟨_,_,rfl,rfl,rfl,rfl⟩
instance : FdT Tryd.prog 78 1 1 := ⟨_,_,_,rfl,rfl,rfl,rfl,by decide⟩
instance : ZrT Tryd.prog 78 (.agg [.nils,.bool false]) := ⟨_,_,rfl,rfl,by decide,rfl⟩
instance : BsT Tryd.prog 78 ([.nils,.bool false]) := ⟨_,_,_,rfl,rfl,rfl,rfl,by decide⟩
instance : LdT Tryd.prog 89 8 true := ⟨_,_,rfl,rfl,rfl,rfl⟩
instance : ElT Tryd.prog 89 8 32 := ⟨_,_,rfl,rfl,rfl,rfl,rfl,by decide,rfl⟩
instance : ArT Tryd.prog 89 8 22 := ⟨rfl⟩
instance : BaT Tryd.prog 89 8 22 1 := ⟨_,_,_,rfl,rfl,rfl,rfl,rfl,rfl⟩
instance : EqT Tryd.prog 89 := ⟨by decide +kernel⟩
instance : ZrT Tryd.prog 89 (.arr 8 1 ((List.replicate 8 0).map D.u32)) := ⟨_,_,rfl,rfl,by decide,rfl⟩
instance : LdT Tryd.prog 90 8 true := ⟨_,_,rfl,rfl,rfl,rfl⟩
instance : ElT Tryd.prog 90 8 32 := ⟨_,_,rfl,rfl,rfl,rfl,rfl,by decide,rfl⟩
instance : ArT Tryd.prog 90 8 22 := ⟨rfl⟩
instance : BaT Tryd.prog 90 8 22 1 := ⟨_,_,_,rfl,rfl,rfl,rfl,rfl,rfl⟩
instance : EqT Tryd.prog 90 := ⟨by decide +kernel⟩
instance : ZrT Tryd.prog 90 (.arr 8 1 ((List.replicate 8 0).map D.u32)) := ⟨_,_,rfl,rfl,by decide,rfl⟩
instance : LdT Tryd.prog 91 64 true := ⟨_,_,rfl,rfl,rfl,rfl⟩
instance : ElT Tryd.prog 91 64 64 := ⟨_,_,rfl,rfl,rfl,rfl,rfl,by decide,rfl⟩
instance : ArT Tryd.prog 91 64 5 := ⟨rfl⟩
instance : BaT Tryd.prog 91 64 5 1 := ⟨_,_,_,rfl,rfl,rfl,rfl,rfl,rfl⟩
instance : EqT Tryd.prog 91 := ⟨by decide +kernel⟩
instance : ZrT Tryd.prog 91 (.arr 64 1 ((List.replicate 64 0).map D.u8)) := ⟨_,_,rfl,rfl,by decide,rfl⟩
instance : LdT Tryd.prog 92 74 true := ⟨_,_,rfl,rfl,rfl,rfl⟩
instance : ElT Tryd.prog 92 74 112 := ⟨_,_,rfl,rfl,rfl,rfl,rfl,by decide,rfl⟩
instance : FtT Tryd.prog 92 0 4 0 := ⟨_,_,rfl,rfl,rfl,rfl⟩
instance : FdT Tryd.prog 92 0 0 := ⟨_,_,_,rfl,rfl,rfl,rfl,by decide⟩
instance : FtT Tryd.prog 92 1 90 1 := ⟨_,_,rfl,rfl,rfl,rfl⟩
instance : FdT Tryd.prog 92 1 1 := ⟨_,_,_,rfl,rfl,rfl,rfl,by decide⟩
instance : FtT Tryd.prog 92 2 91 9 := ⟨_,_,rfl,rfl,rfl,rfl⟩
instance : FdT Tryd.prog 92 2 9 := ⟨_,_,_,rfl,rfl,rfl,rfl,by decide⟩
instance : FtT Tryd.prog 92 3 44 73 := ⟨_,_,rfl,rfl,rfl,rfl⟩
instance : FdT Tryd.prog 92 3 73 := ⟨_,_,_,rfl,rfl,rfl,rfl,by decide⟩
instance : ZrT Tryd.prog 92 (.agg [.bool false,.arr 8 1 ((List.replicate 8 0).map D.u32),.arr 64 1 ((List.replicate 64 0).map D.u8),.u64 0]) := ⟨_,_,rfl,rfl,by decide,rfl⟩
instance : BsT Tryd.prog 92 ([.bool false,.arr 8 1 ((List.replicate 8 0).map D.u32),.arr 64 1 ((List.replicate 64 0).map D.u8),.u64 0]) := ⟨_,_,_,rfl,rfl,rfl,rfl,by decide⟩
instance : LdT Tryd.prog 93 74 true := ⟨_,_,rfl,rfl,rfl,rfl⟩
instance : ElT Tryd.prog 93 74 112 := ⟨_,_,rfl,rfl,rfl,rfl,rfl,by decide,rfl⟩
instance : FtT Tryd.prog 93 0 4 0 := ⟨_,_,rfl,rfl,rfl,rfl⟩
instance : FdT Tryd.prog 93 0 0 := ⟨_,_,_,rfl,rfl,rfl,rfl,by decide⟩
instance : FtT Tryd.prog 93 1 90 1 := ⟨_,_,rfl,rfl,rfl,rfl⟩
instance : FdT Tryd.prog 93 1 1 := ⟨_,_,_,rfl,rfl,rfl,rfl,by decide⟩
instance : FtT Tryd.prog 93 2 91 9 := ⟨_,_,rfl,rfl,rfl,rfl⟩
instance : FdT Tryd.prog 93 2 9 := ⟨_,_,_,rfl,rfl,rfl,rfl,by decide⟩
instance : FtT Tryd.prog 93 3 44 73 := ⟨_,_,rfl,rfl,rfl,rfl⟩
instance : FdT Tryd.prog 93 3 73 := ⟨_,_,_,rfl,rfl,rfl,rfl,by decide⟩
instance : ZrT Tryd.prog 93 (.agg [.bool false,.arr 8 1 ((List.replicate 8 0).map D.u32),.arr 64 1 ((List.replicate 64 0).map D.u8),.u64 0]) := ⟨_,_,rfl,rfl,by decide,rfl⟩
instance : BsT Tryd.prog 93 ([.bool false,.arr 8 1 ((List.replicate 8 0).map D.u32),.arr 64 1 ((List.replicate 64 0).map D.u8),.u64 0]) := ⟨_,_,_,rfl,rfl,rfl,rfl,by decide⟩
instance : LdT Tryd.prog 97 1 false := ⟨_,_,rfl,rfl,rfl,rfl⟩
instance : ElT Tryd.prog 97 1 24 := ⟨_,_,rfl,rfl,rfl,rfl,rfl,by decide,rfl⟩
instance : SlT Tryd.prog 97 22 := ⟨rfl⟩
instance : ZrT Tryd.prog 97 (.nils) := ⟨_,_,rfl,rfl,by decide,rfl⟩
instance : LdT Tryd.prog 103 1 false := ⟨_,_,rfl,rfl,rfl,rfl⟩
instance : ElT Tryd.prog 103 1 8 := ⟨_,_,rfl,rfl,rfl,rfl,rfl,by decide,rfl⟩
instance : ZrT Tryd.prog 103 (.nilp) := ⟨_,_,rfl,rfl,by decide,rfl⟩
instance : LdT Tryd.prog 104 8 true := ⟨_,_,rfl,rfl,rfl,rfl⟩
instance : ElT Tryd.prog 104 8 8 := ⟨_,_,rfl,rfl,rfl,rfl,rfl,by decide,rfl⟩
instance : ArT Tryd.prog 104 8 5 := ⟨rfl⟩
instance : BaT Tryd.prog 104 8 5 1 := ⟨_,_,_,rfl,rfl,rfl,rfl,rfl,rfl⟩
instance : EqT Tryd.prog 104 := ⟨by decide +kernel⟩
instance : ZrT Tryd.prog 104 (.arr 8 1 ((List.replicate 8 0).map D.u8)) := ⟨_,_,rfl,rfl,by decide,rfl⟩
instance : LdT Tryd.prog 105 64 true := ⟨_,_,rfl,rfl,rfl,rfl⟩
instance : ElT Tryd.prog 105 64 256 := ⟨_,_,rfl,rfl,rfl,rfl,rfl,by decide,rfl⟩
instance : ArT Tryd.prog 105 64 22 := ⟨rfl⟩
instance : BaT Tryd.prog 105 64 22 1 := ⟨_,_,_,rfl,rfl,rfl,rfl,rfl,rfl⟩
instance : EqT Tryd.prog 105 := ⟨by decide +kernel⟩
instance : ZrT Tryd.prog 105 (.arr 64 1 ((List.replicate 64 0).map D.u32)) := ⟨_,_,rfl,rfl,by decide,rfl⟩
instance : LdT Tryd.prog 114 1 false := ⟨_,_,rfl,rfl,rfl,rfl⟩
instance : ElT Tryd.prog 114 1 1 := ⟨_,_,rfl,rfl,rfl,rfl,rfl,by decide,rfl⟩
instance : IkT Tryd.prog 114 .u8 := ⟨rfl⟩
instance : ZrT Tryd.prog 114 (.u8 0) := ⟨_,_,rfl,rfl,by decide,rfl⟩
instance : LdT Tryd.prog 115 1 false := ⟨_,_,rfl,rfl,rfl,rfl⟩
instance : ElT Tryd.prog 115 1 1 := ⟨_,_,rfl,rfl,rfl,rfl,rfl,by decide,rfl⟩
instance : IkT Tryd.prog 115 .u8 := ⟨rfl⟩
instance : ZrT Tryd.prog 115 (.u8 0) := ⟨_,_,rfl,rfl,by decide,rfl⟩
instance : LdT Tryd.prog 117 1 false := ⟨_,_,rfl,rfl,rfl,rfl⟩
instance : ElT Tryd.prog 117 1 8 := ⟨_,_,rfl,rfl,rfl,rfl,rfl,by decide,rfl⟩
instance : ZrT Tryd.prog 117 (.nilp) := ⟨_,_,rfl,rfl,by decide,rfl⟩
instance : LdT Tryd.prog 118 1 false := ⟨_,_,rfl,rfl,rfl,rfl⟩
instance : ElT Tryd.prog 118 1 4 := ⟨_,_,rfl,rfl,rfl,rfl,rfl,by decide,rfl⟩
instance : IkT Tryd.prog 118 .i32 := ⟨rfl⟩
instance : ZrT Tryd.prog 118 (.ik .i32 0) := ⟨_,_,rfl,rfl,by decide,rfl⟩
instance : LdT Tryd.prog 119 1 false := ⟨_,_,rfl,rfl,rfl,rfl⟩
instance : ElT Tryd.prog 119 1 4 := ⟨_,_,rfl,rfl,rfl,rfl,rfl,by decide,rfl⟩
instance : IkT Tryd.prog 119 .i32 := ⟨rfl⟩
instance : ZrT Tryd.prog 119 (.ik .i32 0) := ⟨_,_,rfl,rfl,by decide,rfl⟩
instance : CaT Tryd.prog 3 := ⟨_,Tryd.func3,by decide,by decide⟩
instance : CaT Tryd.prog 4 := ⟨_,Tryd.func4,by decide,by decide⟩
instance : CaT Tryd.prog 5 := ⟨_,Tryd.func5,by decide,by decide⟩
instance : CaT Tryd.prog 6 := ⟨_,Tryd.func6,by decide,by decide⟩
instance : CaT Tryd.prog 7 := ⟨_,Tryd.func7,by decide,by decide⟩
instance : CaT Tryd.prog 8 := ⟨_,Tryd.func8,by decide,by decide⟩
instance : CaT Tryd.prog 9 := ⟨_,Tryd.func9,by decide,by decide⟩
instance : CaT Tryd.prog 10 := ⟨_,Tryd.func10,by decide,by decide⟩
instance : CaT Tryd.prog 11 := ⟨_,Tryd.func11,by decide,by decide⟩
instance : CaT Tryd.prog 12 := ⟨_,Tryd.func12,by decide,by decide⟩
instance : CaT Tryd.prog 13 := ⟨_,Tryd.func13,by decide,by decide⟩
instance : CaT Tryd.prog 14 := ⟨_,Tryd.func14,by decide,by decide⟩
instance : CaT Tryd.prog 15 := ⟨_,Tryd.func15,by decide,by decide⟩
instance : CaT Tryd.prog 16 := ⟨_,Tryd.func16,by decide,by decide⟩
instance : CaT Tryd.prog 17 := ⟨_,Tryd.func17,by decide,by decide⟩
instance : CaT Tryd.prog 18 := ⟨_,Tryd.func18,by decide,by decide⟩
instance : CaT Tryd.prog 19 := ⟨_,Tryd.func19,by decide,by decide⟩
instance : CaT Tryd.prog 20 := ⟨_,Tryd.func20,by decide,by decide⟩
instance : CaT Tryd.prog 21 := ⟨_,Tryd.func21,by decide,by decide⟩
instance : CaT Tryd.prog 22 := ⟨_,Tryd.func22,by decide,by decide⟩
instance : CaT Tryd.prog 23 := ⟨_,Tryd.func23,by decide,by decide⟩
instance : CaT Tryd.prog 24 := ⟨_,Tryd.func24,by decide,by decide⟩
instance : CaT Tryd.prog 25 := ⟨_,Tryd.func25,by decide,by decide⟩
instance : CaT Tryd.prog 26 := ⟨_,Tryd.func26,by decide,by decide⟩
instance : CaT Tryd.prog 27 := ⟨_,Tryd.func27,by decide,by decide⟩
instance : CaT Tryd.prog 28 := ⟨_,Tryd.func28,by decide,by decide⟩
instance : CaT Tryd.prog 29 := ⟨_,Tryd.func29,by decide,by decide⟩
instance : CaT Tryd.prog 30 := ⟨_,Tryd.func30,by decide,by decide⟩
instance : CaT Tryd.prog 31 := ⟨_,Tryd.func31,by decide,by decide⟩
instance : CaT Tryd.prog 32 := ⟨_,Tryd.func32,by decide,by decide⟩
instance : CaT Tryd.prog 33 := ⟨_,Tryd.func33,by decide,by decide⟩
instance : CaT Tryd.prog 34 := ⟨_,Tryd.func34,by decide,by decide⟩
instance : CaT Tryd.prog 35 := ⟨_,Tryd.func35,by decide,by decide⟩
instance : CaT Tryd.prog 36 := ⟨_,Tryd.func36,by decide,by decide⟩
instance : CaT Tryd.prog 37 := ⟨_,Tryd.func37,by decide,by decide⟩
instance : CaT Tryd.prog 38 := ⟨_,Tryd.func38,by decide,by decide⟩
instance : CaT Tryd.prog 39 := ⟨_,Tryd.func39,by decide,by decide⟩
instance : CaT Tryd.prog 40 := ⟨_,Tryd.func40,by decide,by decide⟩
instance : CaT Tryd.prog 41 := ⟨_,Tryd.func41,by decide,by decide⟩
instance : CaT Tryd.prog 42 := ⟨_,Tryd.func42,by decide,by decide⟩
instance : CaT Tryd.prog 43 := ⟨_,Tryd.func43,by decide,by decide⟩
instance : CaT Tryd.prog 44 := ⟨_,Tryd.func44,by decide,by decide⟩
instance : CaT Tryd.prog 45 := ⟨_,Tryd.func45,by decide,by decide⟩
instance : CaT Tryd.prog 46 := ⟨_,Tryd.func46,by decide,by decide⟩
instance : CaT Tryd.prog 47 := ⟨_,Tryd.func47,by decide,by decide⟩
instance : CaT Tryd.prog 48 := ⟨_,Tryd.func48,by decide,by decide⟩
instance : CaT Tryd.prog 49 := ⟨_,Tryd.func49,by decide,by decide⟩
instance : CaT Tryd.prog 50 := ⟨_,Tryd.func50,by decide,by decide⟩
instance : CaT Tryd.prog 51 := ⟨_,Tryd.func51,by decide,by decide⟩
instance : CaT Tryd.prog 52 := ⟨_,Tryd.func52,by decide,by decide⟩
instance : CaT Tryd.prog 53 := ⟨_,Tryd.func53,by decide,by decide⟩
instance : CaT Tryd.prog 54 := ⟨_,Tryd.func54,by decide,by decide⟩
instance : CaT Tryd.prog 55 := ⟨_,Tryd.func55,by decide,by decide⟩
instance : CaT Tryd.prog 56 := ⟨_,Tryd.func56,by decide,by decide⟩
instance : CaT Tryd.prog 57 := ⟨_,Tryd.func57,by decide,by decide⟩
instance : CaT Tryd.prog 58 := ⟨_,Tryd.func58,by decide,by decide⟩
instance : CaT Tryd.prog 59 := ⟨_,Tryd.func59,by decide,by decide⟩
instance : CaT Tryd.prog 60 := ⟨_,Tryd.func60,by decide,by decide⟩
instance : CaT Tryd.prog 61 := ⟨_,Tryd.func61,by decide,by decide⟩
instance : CaT Tryd.prog 62 := ⟨_,Tryd.func62,by decide,by decide⟩
instance : CaT Tryd.prog 63 := ⟨_,Tryd.func63,by decide,by decide⟩
instance : CaT Tryd.prog 64 := ⟨_,Tryd.func64,by decide,by decide⟩
instance : CaT Tryd.prog 65 := ⟨_,Tryd.func65,by decide,by decide⟩
instance : CaT Tryd.prog 66 := ⟨_,Tryd.func66,by decide,by decide⟩
instance : CaT Tryd.prog 67 := ⟨_,Tryd.func67,by decide,by decide⟩
instance : CaT Tryd.prog 68 := ⟨_,Tryd.func68,by decide,by decide⟩
instance : CaT Tryd.prog 69 := ⟨_,Tryd.func69,by decide,by decide⟩
instance : CaT Tryd.prog 70 := ⟨_,Tryd.func70,by decide,by decide⟩
instance : CaT Tryd.prog 71 := ⟨_,Tryd.func71,by decide,by decide⟩
instance : CaT Tryd.prog 72 := ⟨_,Tryd.func72,by decide,by decide⟩
instance : CaT Tryd.prog 73 := ⟨_,Tryd.func73,by decide,by decide⟩
instance : CaT Tryd.prog 74 := ⟨_,Tryd.func74,by decide,by decide⟩
instance : CaT Tryd.prog 75 := ⟨_,Tryd.func75,by decide,by decide⟩
instance : MiT Tryd.prog 34 (.int .i64) := ⟨rfl,rfl⟩
instance : MkT Tryd.prog 68 53 3 := ⟨rfl⟩
def gl : List (Nat × D) := [(0,.arr 64 1 (kTab.map D.u32))]
end Go.Sx
