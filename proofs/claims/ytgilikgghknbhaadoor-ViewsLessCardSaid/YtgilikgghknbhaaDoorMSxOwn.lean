/-
 Own library,part 15: slices of its own are written,grow,are made.
-/
import Derived.Test.YtgilikgghknbhaaDoorMSxWrite
import Derived.Laws.AppendOwn
import Derived.Laws.OwnMore
import Derived.Laws.MakeOwn
import Derived.Laws.CopyRow
import Derived.ChangeKeysEq
import Derived.MapKept
import Derived.Laws.IdiomStrings
import Derived.RangeFuncIn
import Derived.RangeFuncRecord
import Derived.RangeFuncLeaves
set_option linter.unusedVariables false
set_option linter.unusedSimpArgs false
set_option linter.unnecessarySimpa false

namespace Go.Sx
variable {P : Program} {C : Ctx} {σ σ' σ1 : Sg} {a : Act} {w w' : World} {ρ : Nat -> Nat} {Fe Fe' Fb : Nat -> List Nat}
def seta {α : Type} (id : Nat) (b : α) : List (Nat × α) -> List (Nat × α)
 | []=>[]
 | (k,x) :: r=>bif Nat.beq k id then (k,b) :: r else (k,x) :: seta id b r
theorem lk_seta {α : Type} (id : Nat) (b : α) (l : List (Nat × α)) (u : Nat) : lk (seta id b l) u = if u = id then (lk l u).map (fun _=>b) else lk l u:=by
 induction l with
 | nil=>simp [seta,lk]
 | cons x r ih=>
  obtain ⟨k,d⟩:=x
  simp only [seta]
  by_cases hk : k = id
  · subst hk
    simp only [Nat.beq_refl,cond_true,lk_cons]
    by_cases hu : k = u
    · subst hu; simp
    · simp [hu,show ¬ u = k from fun e=>hu e.symm]
  · simp only [nbeq hk,cond_false,lk_cons,ih]
    by_cases hku : k = u
    · subst hku; simp [hk]
    · simp [hku]
def Sg.upd (σ : Sg) (s : Nat) (d : D) : Sg:={ σ with env:=seta s d σ.env }
theorem get_upd (σ : Sg) (s : Nat) (d : D) (u : Nat) : (σ.upd s d).get u = if u = s then (σ.get u).map (fun _=>d) else σ.get u:=by simp [Sg.get,Sg.upd,lk_seta]
@[simp] theorem box_upd (σ : Sg) (s : Nat) (d : D) (id : Nat) : (σ.upd s d).box id = σ.box id:=rfl
@[simp] theorem n_upd (σ : Sg) (s : Nat) (d : D) : (σ.upd s d).n = σ.n:=rfl
theorem SR_keep {G G' L L' : Nat -> Prop} {u : Nat} {d : D} {F : List Nat} (h : SR w ρ G L a u d F)
 (hh : ∀ b,(G b ∨ b ∈ F) -> b < w.heap.size -> w'.heap[b]? = w.heap[b]?) (hg : ∀ b,G b -> b < w.heap.size -> G' b) (hL : ∀ i,L i -> L' i)
 (hc : ∀ i off v,L i -> w.cell? ⟨ρ i,off,none⟩ = some v -> w'.cell? ⟨ρ i,off,none⟩ = some v) : SR w' ρ G' L' a u d F:=by
 have hL2 : ∀ i,L i -> L' i /\ ρ i = ρ i:=fun i hi=>⟨hL i hi,rfl⟩
 cases d with
 | al s=>exact h
 | alb i off path=>
  obtain ⟨hF,hid,x,hx,hs⟩:=h
  exact ⟨hF,hL i hid,x,hx,hc i off x hid hs⟩
 | vw s z lo n=>exact h
 | va i off z n path lo=>exact ⟨h.1,hL i h.2.1,h.2.2⟩
 | ep s z i off path=>exact h
 | tup ds=>
  obtain ⟨vs,Fs,h1,h2,h3,h4⟩:=h
  refine ⟨vs,Fs,h1,h2,h3,fun k hk=>(h4 k hk).imp (fun hx=>hx) fun hx=>⟨hx.1,hx.2.mono (fun b hb=>hh b (hb.imp (fun hx=>hx) fun hm=>?_)) hg hL2⟩⟩
  rw [h3]; exact List.mem_flatMap.2 ⟨k,List.mem_range.2 hk,hm⟩
 | dead=>exact h
 | _=>obtain ⟨x,hx,hr⟩:=h; exact ⟨x,hx,hr.mono hh hg hL2⟩
theorem StW.turn {s : Nat} {d d' : D} {F : List Nat} (h : StW C σ a w ρ Fe Fb) (hg0 : σ.get s = some d)
 (hos : w'.os = w.os) (htape : w'.tape = w.tape) (hout : w'.output = w.output) (hsize : w.heap.size <= w'.heap.size)
 (hblk : ∀ b,b < w.heap.size -> b ∉ Fe s -> w'.heap[b]? = w.heap[b]?)
 (hF : F.Nodup) (hFs : ∀ b ∈ F,b ∈ Fe s ∨ w.heap.size <= b)
 (hv : SR w' ρ (gd C (Go.Sx.upd Fe s F) Fb) (fun id=>(σ.box id).isSome) a s d' F) :
 StW C (σ.upd s d') a w' ρ (Go.Sx.upd Fe s F) Fb:=by
 have hlt:=h.lt
 have hso : ∀ b,b ∈ Fe s -> own Fe Fb b:=fun b hb=>.inl ⟨s,hb⟩
 have ho : ∀ b,own (Go.Sx.upd Fe s F) Fb b -> own Fe Fb b ∨ w.heap.size <= b:=by
  rintro b (⟨u,hu⟩ | hid)
  · by_cases hus : u = s
    · subst hus; simp at hu; exact (hFs b hu).imp (hso b) id
    · rw [upd_other hus] at hu; exact .inl (.inl ⟨u,hu⟩)
  · exact .inl (.inr hid)
 have hg : ∀ b,gd C Fe Fb b -> b < w.heap.size -> gd C (Go.Sx.upd Fe s F) Fb b:=fun b hb hl=>⟨hb.1,fun hc=>by
  rcases ho b hc with h1 | h1
  · exact hb.2 h1
  · omega⟩
 have hh : ∀ b,gd C Fe Fb b -> b < w.heap.size -> w'.heap[b]? = w.heap[b]?:=fun b hb hl=>hblk b hl (fun hm=>hb.2 (hso b hm))
 have hc : ∀ id off v,(σ.box id).isSome = true -> w.cell? ⟨ρ id,off,none⟩ = some v -> w'.cell? ⟨ρ id,off,none⟩ = some v:=by
  intro id off v hid hc
  have hl:=block_lt_of_cell hc
  rw [<- hc]
  refine World.cell?_of_block (hblk _ hl ?_)
  intro hm
  cases hb : σ.box id with
  | none=>simp [hb] at hid
  | some x=>exact h.dEB s id _ hm (h.bx id x hb).mem
 refine ⟨h.size,h.defs,h.pin, ?_, ?_, ?_,h.bxN, ?_,h.nodB, ?_, ?_,h.dBB, ?_, ?_,hos.trans h.os,htape.trans h.tape,hout.trans h.output,Nat.le_trans h.grown hsize,h.gl,fun b hb=>h.okN b (Nat.le_trans hsize hb),fun b hb=>(ho b hb).elim (h.okO b) (fun h1=>h.okN b h1)⟩
 · intro u x hx
   rw [get_upd] at hx
   by_cases hus : u = s
   · subst hus
     simp [hg0] at hx
     subst hx
     rw [upd_same]; exact hv
   · simp only [hus,if_false] at hx
     rw [upd_other hus]
     exact SR_keep (h.env u x hx) (fun b hb hl=>by
      rcases hb with hb | hb
      · exact hh b hb hl
      · exact hblk b hl (fun hm=>h.dEE u s hus b hb hm)) hg (fun _ hi=>hi) hc
 · intro u hu
   rw [get_upd] at hu
   by_cases hus : u = s
   · subst hus; simp [hg0] at hu
   · simp only [hus,if_false] at hu; rw [upd_other hus]; exact h.envN u hu
 · intro id x hx
   refine (h.bx id x hx).mono (fun b hb hl=>?_) hg (fun _ hi=>⟨hi,rfl⟩)
   rcases hb with hb | hb
   · exact hh b hb hl
   · exact hblk b hl (fun hm=>h.dEB s id b hm hb)
 · intro u
   by_cases hus : u = s
   · subst hus; simpa using hF
   · rw [upd_other hus]; exact h.nodE u
 · intro u u' huu b hb hb'
   have key : ∀ u,u ≠ s -> b ∈ Fe u -> b ∈ F -> False:=by
    intro u hus hb hbF
    rcases hFs b hbF with h1 | h1
    · exact h.dEE u s hus b hb h1
    · have:=hlt b (.inl ⟨u,hb⟩); omega
   by_cases hus : u = s
   · subst hus
     simp at hb
     rw [upd_other (fun e=>huu e.symm)] at hb'
     exact key u' (fun e=>huu e.symm) hb' hb
   · rw [upd_other hus] at hb
     by_cases hus' : u' = s
     · subst hus'; simp at hb'; exact key u hus hb hb'
     · rw [upd_other hus'] at hb'; exact h.dEE u u' huu b hb hb'
 · intro u id b hb hb'
   by_cases hus : u = s
   · subst hus; simp at hb
     rcases hFs b hb with h1 | h1
     · exact h.dEB u id b h1 hb'
     · have:=hlt b (.inr ⟨id,hb'⟩); omega
   · rw [upd_other hus] at hb; exact h.dEB u id b hb hb'
 · intro b hb hk
   rcases ho b hb with h1 | h1
   · exact h.new b h1 hk
   · have:=(h.kept b hk).2; have:=h.grown; omega
 · intro b hk
   have hkb:=h.kept b hk
   exact ⟨(hblk b (Nat.lt_of_lt_of_le hkb.2 h.grown) (fun hm=>h.new b (hso b hm) hk)).trans hkb.1,hkb.2⟩
def ownr (σ : Sg) (s s0 : Nat) : Prop:=s = s0 ∨ σ.get s = some (.al s0)
theorem ownr_val (st : StW C σ a w ρ Fe Fb) {s s0 e z : Nat} {l : List D} (h : ownr σ s s0) (hs : σ.get s0 = some (.sl (some e) z l)) :
 ∃ v,a.tmps[s]? = some v /\ a.tmps[s0]? = some v /\ Rc w ρ (gd C Fe Fb) (fun id=>(σ.box id).isSome) true (.sl (some e) z l) [v] (Fe s0):=by
 obtain ⟨v,hv,hr⟩:=(SR_plain rfl).1 (st.env _ _ hs)
 simp only [VR,D.isAgg,Bool.false_eq_true,if_false] at hr
 rcases h with rfl | h
 · exact ⟨v,hv,hv,hr⟩
 · obtain ⟨_,x,h1,h2⟩:=st.env _ _ h
   rw [hv] at h2
   cases h2
   exact ⟨v,h1,hv,hr⟩
theorem Rc.updE {G L : Nat -> Prop} {z i off : Nat} {path : List Nat} {l : List D} {d1 d' x : D} {cs xs : List Value} {Fs : Nat -> List Nat} {Fx : List Nat}
 (hr : ∀ j (h : j < l.length),Rc w ρ G L false l[j] ((cs.drop (j * z)).take z) (Fs j)) (hF : ((List.range l.length).flatMap Fs).Nodup) (hlen : l.length * z <= cs.length) (hi : i < l.length)
 (hl : l[i].loc path = some (off,d1)) (hu : l[i].upd path x = some d') (hz : x.sz = d1.sz) (hx : Rc w ρ G L false x xs Fx) (hFx : Fx.Nodup) (hdis : ∀ b ∈ Fx,b ∉ (List.range l.length).flatMap Fs)
 (harr : Fx = [] ∨ l[i].noArr path = true) :
 i * z + off + xs.length <= cs.length /\ ∃ Fs' : Nat -> List Nat,(∀ j (h : j < (l.set i d').length),Rc w ρ G L false (l.set i d')[j] (((cs.take (i * z + off) ++ xs ++ cs.drop (i * z + off + xs.length)).drop (j * z)).take z) (Fs' j)) /\
  (∀ b ∈ (List.range l.length).flatMap Fs',b ∈ (List.range l.length).flatMap Fs ∨ b ∈ Fx) /\ ((List.range l.length).flatMap Fs').Nodup:=by
 obtain ⟨hn1,hn2⟩:=flat_nodup hF
 have him : ∀ b ∈ Fs i,b ∈ (List.range l.length).flatMap Fs:=fun b hb=>List.mem_flatMap.2 ⟨i,List.mem_range.2 hi,hb⟩
 obtain ⟨F',h1,h2,h3,h4,h5⟩:=(hr i hi).upd hl hu hz hx (hn1 i hi) hFx (fun b hb hb'=>hdis b hb (him b hb')) harr
 obtain ⟨_,_,_,hl3⟩:=(hr i hi).loc hl
 have hxl:=hx.len
 have hkz : i * z + z <= l.length * z:=by
  have:=Nat.mul_le_mul_right z (show i + 1 <= l.length by omega)
  rw [Nat.add_mul] at this; omega
 have hel : ((cs.drop (i * z)).take z).length = z:=by simp; omega
 have hxo : off + xs.length <= z:=by omega
 refine ⟨by omega,fun j=>if j = i then F' else Fs j,fun j hj=>?_,fun b hb=>?_, ?_⟩
 · have hj' : j < l.length:=by simpa using hj
   by_cases hji : j = i
   · subst hji
     simp only [List.getElem_set_self,if_true]
     rw [splice_in _ _ _ _ _ (by omega) (by omega)]
     exact h1
   · simp only [List.getElem_set_ne (fun e=>hji e.symm),hji,if_false]
     rw [splice_out _ _ _ _ _ (by omega) ?_]
     · exact hr j hj'
     · rcases Nat.lt_or_gt_of_ne hji with hlt | hlt
       · left
         have : (j + 1) * z <= i * z:=Nat.mul_le_mul_right z hlt
         rw [Nat.add_mul] at this; omega
       · right
         have : (i + 1) * z <= j * z:=Nat.mul_le_mul_right z hlt
         rw [Nat.add_mul] at this; omega
 · obtain ⟨j,hj,hm⟩:=List.mem_flatMap.1 hb
   by_cases hji : j = i
   · subst hji; simp at hm; exact (h2 b hm).imp (him b) id
   · simp only [hji,if_false] at hm
     exact .inl (List.mem_flatMap.2 ⟨j,hj,hm⟩)
 · refine flat_nodup_mk (fun j hj=>?_) (fun j k hj hk hjk b hb hb'=>?_)
   · by_cases hji : j = i
     · simp [hji,h3]
     · simp only [hji,if_false]; exact hn1 j hj
   · have key : ∀ m,m < l.length -> m ≠ i -> b ∈ Fs m -> b ∈ F' -> False:=fun m hm hmi h6 h7=>by
      rcases h2 b h7 with h8 | h8
      · exact hn2 m i hm hi hmi b h6 h8
      · exact hdis b h8 (List.mem_flatMap.2 ⟨m,List.mem_range.2 hm,h6⟩)
     by_cases hji : j = i
     · subst hji
       simp only [if_true] at hb
       simp only [show ¬ k = j from fun e=>hjk e.symm,if_false] at hb'
       exact key k hk (fun e=>hjk e.symm) hb' hb
     · simp only [hji,if_false] at hb
       by_cases hki : k = i
       · simp only [hki,if_true] at hb'; exact key j hj hji hb hb'
       · simp only [hki,if_false] at hb'; exact hn2 j k hj hk hjk b hb hb'
theorem R.stE {p s s0 e z i off : Nat} {path : List Nat} {x : Operand} {l : List D} {d0 d1 d' dx : D} {ty n rt : TypeId} {gg : Bool} {pos : String} {aft : Array Edge} {g : Option (Nat × Bool)} [LdT P ty n gg]
 (h : σ.get p = some (.ep s z i off path)) (ho : ownr σ s s0) (hs : σ.get s0 = some (.sl (some e) z l)) (hi : l[i]? = some d0) (hl : d0.loc path = some (off,d1))
 (hx : ev C.gl σ x = some dx) (hxp : dx.pur = true) (hxn : dx.np = true) (hz : dx.sz = n) (hz1 : dx.sz = d1.sz) (hu : d0.upd path dx = some d') :
 OpS P C ⟨none,.store ty (.tmp p) x,rt,pos,aft,g⟩ σ (σ.upd s0 (.sl (some e) z (l.set i d'))):=by
 refine OpS.skip rfl fun a w ⟨ρ,Fe,Fb,st⟩=>?_
 obtain ⟨v,hv,hv0,hr⟩:=ownr_val st ho hs
 obtain ⟨_,b,o,len,cap,h1,h2,h3⟩:=st.env _ _ h
 rw [hv] at h1
 cases h1
 obtain ⟨hilt,rfl⟩:=List.getElem?_eq_some_iff.1 hi
 generalize hFe : Fe s0 = F0 at hr
 have hnd:=st.nodE s0
 rw [hFe] at hnd
 cases hr with
 | slE=>exact absurd hilt (Nat.not_lt_zero _)
 | slO b cs e cap z l Fs hb hc hm hsz ho1 hr=>
 obtain ⟨hn1,hn2⟩:=List.nodup_cons.1 hnd
 obtain ⟨Fx,hvx,_⟩:=ev_ok st hx (pur_ref hxp)
 have hFx:=hvx.pur hxp
 subst hFx
 have hdead : dx ≠ .dead:=by rintro rfl; simp [D.pur] at hxp
 have hxc:=hvx.cells hdead
 have hcl : l.length * z <= cs.toList.length:=by
  have:=Nat.mul_le_mul_right z hc
  simp; omega
 obtain ⟨hb1,Fs',g1,g2,g3⟩:=Rc.updE hr hn2 hcl hilt hl hu hz1 (hxc.unflag hxn) List.nodup_nil (by simp) (.inl rfl)
 have hlen:=hxc.len
 have hvs : (a.eval x).cells.size = n:=by simp at hlen; omega
 have hbl : b < w.heap.size:=(Array.getElem?_eq_some_iff.1 hb).1
 simp only [Nat.zero_add] at h2
 have hin : ∀ y ∈ (List.range l.length).flatMap Fs',y ∈ (List.range l.length).flatMap Fs:=fun y hy=>(g2 y hy).resolve_right (by simp)
 refine ⟨w.setRow b (cs.toList.take (i * z + off) ++ (a.eval x).cells.toList ++ cs.toList.drop (i * z + off + (a.eval x).cells.toList.length)).toArray, ?_,ρ,_,Fb,
  st.turn (F:=b :: (List.range l.length).flatMap Fs') hs rfl rfl rfl (by simp) (fun b' _ hb'=>setRow_other w b b' _ (fun e=>hb' (by rw [hFe,e]; simp))) ?_ ?_ ?_⟩
 · unfold execOp
   have hbnd : i * z + off + n <= cs.size:=by simp at hb1; omega
   simp only [Instr.storeAt,Instr.sureAddr,eval_tmp h2,Sem.run_bind,Sem.run_pure,Result.andThen_ok,run_storeVar (P:=P) (ty:=ty) hb hvs hbnd hxc.one]
 · exact List.nodup_cons.2 ⟨fun hm'=>hn1 (hin b hm'),g3⟩
 · intro y hy
   left
   rw [hFe]
   rcases List.mem_cons.1 hy with rfl | hy
   · simp
   · exact List.mem_cons_of_mem _ (hin y hy)
 · refine (SR_plain rfl).2 ⟨_,hv0, ?_⟩
   simp only [VR,D.isAgg,Bool.false_eq_true,if_false]
   have:=Rc.slO (w:=w.setRow b (cs.toList.take (i * z + off) ++ (a.eval x).cells.toList ++ cs.toList.drop (i * z + off + (a.eval x).cells.toList.length)).toArray) (ρ:=ρ)
    (G:=gd C (Go.Sx.upd Fe s0 (b :: (List.range l.length).flatMap Fs')) Fb) (L:=fun id=>(σ.box id).isSome) (p:=true) b _ e cap z (l.set i d') Fs' (setRow_heap w b cs _ e (0,0) hb) (by simpa using hc) hm
    (by
     simp only [List.size_toArray]
     rw [splice_len _ _ _ (by omega)]; simp [hsz]) (fun u hu=>by
     simp only [List.mem_append] at hu
     rcases hu with (hu | hu) | hu
     · exact ho1 u (List.mem_of_mem_take hu)
     · exact hxc.one u hu
     · exact ho1 u (List.mem_of_mem_drop hu)) (fun j hj=>by
     have hj' : j < l.length:=by simpa using hj
     refine (g1 j hj).mono (fun y hy hyl=>setRow_other w b y _ ?_) (fun y hy _=>⟨hy.1,fun ho'=>hy.2 ?_⟩) (fun id hid=>⟨hid,rfl⟩)
     · rintro rfl
       rcases hy with hy | hy
       · exact hy.2 (.inl ⟨s0,by rw [hFe]; simp⟩)
       · exact hn1 (hin _ (List.mem_flatMap.2 ⟨j,List.mem_range.2 hj',hy⟩))
     · rcases ho' with ⟨u,hu'⟩ | hid
       · by_cases hus : u = s0
         · subst hus
           rw [upd_same] at hu'
           refine .inl ⟨u, ?_⟩
           rw [hFe]
           rcases List.mem_cons.1 hu' with rfl | hu'
           · simp
           · exact List.mem_cons_of_mem _ (hin y hu')
         · rw [upd_other hus] at hu'; exact .inl ⟨u,hu'⟩
       · exact .inr hid)
   simpa using this
end Go.Sx

namespace Go.Sx
variable {P : Program} {C : Ctx} {σ σ' σ1 : Sg} {a : Act} {w w' : World} {ρ : Nat -> Nat} {Fe Fe' Fb : Nat -> List Nat}
theorem part_left (xs r : List Value) (i n z : Nat) (hx : xs.length = n * z) (hi : i < n) : ((xs ++ r).drop (i * z)).take z = (xs.drop (i * z)).take z:=by
 have : (i + 1) * z <= n * z:=Nat.mul_le_mul_right z hi
 rw [Nat.add_mul] at this
 rw [List.drop_append_of_le_length (by omega),List.take_append_of_le_length (by simp; omega)]
theorem part_right (xs news r : List Value) (j n m z : Nat) (hx : xs.length = n * z) (hn : news.length = m * z) (hj : j < m) :
 ((xs ++ (news ++ r)).drop ((n + j) * z)).take z = (news.drop (j * z)).take z:=by
 rw [show (n + j) * z = n * z + j * z from Nat.add_mul _ _ _,<- List.drop_drop,List.drop_left' hx]
 exact part_left news r j m z hn hj
def fjoin (n : Nat) (Fs Fs2 : Nat -> List Nat) (i : Nat) : List Nat:=if i < n then Fs i else Fs2 (i - n)
theorem fjoin_mem {n m : Nat} {Fs Fs2 : Nat -> List Nat} {b : Nat} (h : b ∈ (List.range (n + m)).flatMap (fjoin n Fs Fs2)) : b ∈ (List.range n).flatMap Fs ∨ b ∈ (List.range m).flatMap Fs2:=by
 obtain ⟨i,hi,hm⟩:=List.mem_flatMap.1 h
 have hi':=List.mem_range.1 hi
 unfold fjoin at hm
 split at hm
 · rename_i h1; exact .inl (List.mem_flatMap.2 ⟨i,List.mem_range.2 h1,hm⟩)
 · exact .inr (List.mem_flatMap.2 ⟨i - n,List.mem_range.2 (by omega),hm⟩)
theorem fjoin_nodup {n m : Nat} {Fs Fs2 : Nat -> List Nat} (h1 : ((List.range n).flatMap Fs).Nodup) (h2 : ((List.range m).flatMap Fs2).Nodup) (hd : ∀ b ∈ (List.range m).flatMap Fs2,b ∉ (List.range n).flatMap Fs) :
 ((List.range (n + m)).flatMap (fjoin n Fs Fs2)).Nodup:=by
 obtain ⟨a1,a2⟩:=flat_nodup h1
 obtain ⟨b1,b2⟩:=flat_nodup h2
 refine flat_nodup_mk (fun i hi=>?_) (fun i j hi hj hij b hb hb'=>?_)
 · unfold fjoin; split
   · rename_i h; exact a1 i h
   · exact b1 (i - n) (by omega)
 · unfold fjoin at hb hb'
   split at hb <;> split at hb'
   · rename_i h h'; exact a2 i j h h' hij b hb hb'
   · rename_i h h'; exact hd b (List.mem_flatMap.2 ⟨_,List.mem_range.2 (by omega),hb'⟩) (List.mem_flatMap.2 ⟨_,List.mem_range.2 h,hb⟩)
   · rename_i h h'; exact hd b (List.mem_flatMap.2 ⟨_,List.mem_range.2 (by omega),hb⟩) (List.mem_flatMap.2 ⟨_,List.mem_range.2 h',hb'⟩)
   · rename_i h h'; exact b2 (i - n) (j - n) (by omega) (by omega) (by omega) b hb hb'
theorem slO_app {G L : Nat -> Prop} {p : Bool} {b e z cap : Nat} {cur : Array Value} {xs news rest : List Value} {l l' : List D} {Fs Fs2 : Nat -> List Nat} (hb : w.heap[b]? = some (.cells cur e (0,0)))
 (hcur : cur.toList = xs ++ (news ++ rest)) (hx : xs.length = l.length * z) (hn : news.length = l'.length * z) (hsz : cur.size = cap * z) (hc : l.length + l'.length <= cap) (hm : cap <= maxLen) (ho : ∀ u ∈ cur.toList,u.oneCell' = true)
 (hr1 : ∀ i (h : i < l.length),Rc w ρ G L false l[i] ((xs.drop (i * z)).take z) (Fs i)) (hr2 : ∀ j (h : j < l'.length),Rc w ρ G L false l'[j] ((news.drop (j * z)).take z) (Fs2 j)) :
 Rc w ρ G L p (.sl (some e) z (l ++ l')) [.slice (some ⟨b,0,none⟩) (l.length + l'.length : Nat) cap] (b :: (List.range (l.length + l'.length)).flatMap (fjoin l.length Fs Fs2)):=by
 have:=Rc.slO (w:=w) (ρ:=ρ) (G:=G) (L:=L) (p:=p) b cur e cap z (l ++ l') (fjoin l.length Fs Fs2) hb (by simpa using hc) hm hsz ho (fun i hi=>by
  rw [hcur]
  by_cases hil : i < l.length
  · simp only [List.getElem_append_left hil,fjoin,hil,if_true]
    rw [part_left _ _ _ _ _ hx hil]
    exact hr1 i hil
  · have hi' : i < l.length + l'.length:=by simpa using hi
    simp only [List.getElem_append_right (Nat.le_of_not_lt hil),fjoin,hil,if_false]
    have e1:=part_right xs news rest (i - l.length) l.length l'.length z hx hn (by omega)
    rw [show l.length + (i - l.length) = i by omega] at e1
    rw [e1]
    exact hr2 (i - l.length) (by omega))
 simpa using this
structure Turn (F : List Nat) (w w' : World) : Prop where
 os : w'.os = w.os
 tape : w'.tape = w.tape
 output : w'.output = w.output
 size : w.heap.size <= w'.heap.size
 blk : ∀ b,b < w.heap.size -> b ∉ F -> w'.heap[b]? = w.heap[b]?
theorem Turn.refl (F : List Nat) (w : World) : Turn F w w:=⟨rfl,rfl,rfl,Nat.le_refl _,fun _ _ _=>rfl⟩
theorem Turn.ofExt {F : List Nat} (h : Ext w w') : Turn F w w':=⟨h.os,h.tape,h.output,h.size,fun b hb _=>h.block b hb⟩
theorem zeroCells_one {zv : Array Value} {n : Nat} (h : zv.toList.all Value.oneCell' = true) : ∀ u ∈ (Builtin.zeroCells zv n).toList,u.oneCell' = true:=by
 intro u hu
 simp only [Builtin.zeroCells,Array.toList_map,List.mem_map,Array.mem_toList_iff,Array.mem_range] at hu
 obtain ⟨i,hi,rfl⟩:=hu
 have hpos : 0 < zv.size:=by
  rcases Nat.eq_zero_or_pos zv.size with h0 | h0
  · rw [h0] at hi; omega
  · exact h0
 have hlt:=Nat.mod_lt i hpos
 rw [getElem!_pos zv (i % zv.size) hlt]
 exact List.all_eq_true.1 h _ (by simp)
theorem app_run {G L : Nat -> Prop} {t e z bytes ty : Nat} [hT : SlT P t e] [hE : ElT P e z bytes] {d : D} {l l' : List D} {v : Value} {F : List Nat} {base : Option Addr} {cap2 : Nat} {news : List Value} {Fs2 : Nat -> List Nat}
 (hd : Rc w ρ G L true d [v] F) (hdd : (d = .nils /\ l = []) ∨ d = .sl (some e) z l) (hFn : F.Nodup)
 (hs : (base = none /\ l' = [] /\ cap2 = 0) ∨ ∃ a,base = some a /\ ∀ j u,news[j]? = some u -> w.cell? (a.add j) = some u) (hnl : news.length = l'.length * z) (h1 : ∀ u ∈ news,u.oneCell' = true)
 (hr2 : ∀ j (h : j < l'.length),Rc w ρ G L false l'[j] ((news.drop (j * z)).take z) (Fs2 j)) (hF2 : ((List.range l'.length).flatMap Fs2).Nodup) (hdis : ∀ b ∈ (List.range l'.length).flatMap Fs2,b ∉ F) (hGF : ∀ b,G b -> b ∉ F)
 (hbytes : (l.length + l'.length) * bytes <= 140737488355328) (hmax : l.length + l'.length <= maxLen) :
 ∃ v' w' F',(Builtin.append_ #[t,t] ty #[v,.slice base l'.length cap2]).run P w = .ok v' w' /\ Turn F w w' /\ F'.Nodup /\ (∀ b ∈ F',b ∈ F ∨ b ∈ (List.range l'.length).flatMap Fs2 ∨ w.heap.size <= b) /\
  ∀ G',(∀ b,G b -> b < w.heap.size -> G' b) -> Rc w' ρ G' L true (.sl (some e) z (l ++ l')) [v'] F':=by
 obtain ⟨i,zv,hi,hsz,hby,hz,hzs,hpos,hone⟩:=hE.i
 have h63 : l.length + l'.length <= 9223372036854775807:=by simp only [maxLen] at hmax; omega
 -- the new block,when one is made
 have grow : ∀ (old : Nat) (xs : List Value) (Fs : Nat -> List Nat),(∀ u ∈ xs,u.oneCell' = true) -> xs.length = l.length * z -> (∀ j (h : j < l.length),Rc w ρ G L false l[j] ((xs.drop (j * z)).take z) (Fs j)) ->
  ((List.range l.length).flatMap Fs).Nodup -> (∀ b ∈ (List.range l.length).flatMap Fs,b ∈ F) ->
  ∃ F',Turn F w (w.drew.alloc (.cells (xs.toArray ++ news.toArray ++ Builtin.zeroCells zv.cells (grownCap w (l.length + l'.length) old e - (l.length + l'.length))) e)) /\ F'.Nodup /\
   (∀ b ∈ F',b ∈ F ∨ b ∈ (List.range l'.length).flatMap Fs2 ∨ w.heap.size <= b) /\
   ∀ G',(∀ b,G b -> b < w.heap.size -> G' b) -> Rc (w.drew.alloc (.cells (xs.toArray ++ news.toArray ++ Builtin.zeroCells zv.cells (grownCap w (l.length + l'.length) old e - (l.length + l'.length))) e)) ρ G' L true
    (.sl (some e) z (l ++ l')) [.slice (some ⟨w.heap.size,0,none⟩) (l.length + l'.length : Nat) (grownCap w (l.length + l'.length) old e)] F':=by
  intro old xs Fs hxo hx hr hnd hsub
  have hge:=grownCap_ge w (l.length + l'.length) old e
  have hcm : grownCap w (l.length + l'.length) old e <= maxLen:=grownCap_le_maxLen w (l.length + l'.length) old e hmax
  have hext : Ext w (w.drew.alloc (.cells (xs.toArray ++ news.toArray ++ Builtin.zeroCells zv.cells (grownCap w (l.length + l'.length) old e - (l.length + l'.length))) e)):=(Ext.drew w).trans (Ext.alloc _ _)
  have hnew : ∀ b ∈ (List.range (l.length + l'.length)).flatMap (fjoin l.length Fs Fs2),b < w.heap.size:=by
   intro b hb
   rcases fjoin_mem hb with h2 | h2
   · obtain ⟨j,hj,hm⟩:=List.mem_flatMap.1 h2
     exact (hr j (List.mem_range.1 hj)).lt b hm
   · obtain ⟨j,hj,hm⟩:=List.mem_flatMap.1 h2
     exact (hr2 j (List.mem_range.1 hj)).lt b hm
  refine ⟨w.heap.size :: (List.range (l.length + l'.length)).flatMap (fjoin l.length Fs Fs2),Turn.ofExt hext, ?_, ?_,fun G' hG'=>?_⟩
  · refine List.nodup_cons.2 ⟨fun hm=>?_,fjoin_nodup hnd hF2 (fun b hb hb'=>hdis b hb (hsub b hb'))⟩
    have:=hnew _ hm; omega
  · intro b hb
    rcases List.mem_cons.1 hb with rfl | hb
    · exact .inr (.inr (Nat.le_refl _))
    · rcases fjoin_mem hb with h2 | h2
      · exact .inl (hsub b h2)
      · exact .inr (.inl h2)
  · refine slO_app (xs:=xs) (news:=news) (rest:=(Builtin.zeroCells zv.cells (grownCap w (l.length + l'.length) old e - (l.length + l'.length))).toList) (heap_alloc_new w.drew _) ?_ hx hnl ?_ hge hcm ?_ ?_ ?_
    · simp
    · simp only [Array.size_append,List.size_toArray,size_zeroCells,hzs,hx,hnl,<- Nat.add_mul]
      congr 1
      omega
    · intro u hu
      simp only [Array.toList_append,List.mem_append] at hu
      rcases hu with (hu | hu) | hu
      · exact hxo u hu
      · exact h1 u hu
      · exact zeroCells_one hone u hu
    · exact fun j hj=>(hr j hj).mono (fun b _ hl=>hext.block b hl) hG' (fun id hid=>⟨hid,rfl⟩)
    · exact fun j hj=>(hr2 j hj).mono (fun b _ hl=>hext.block b hl) hG' (fun id hid=>⟨hid,rfl⟩)
 -- nothing is added
 have stay : ∀ (b cap : Nat) (cs : Array Value) (Fs : Nat -> List Nat),l' = [] -> True:=fun _ _ _ _ _=>trivial
 have nilcase : v = .slice none 0 0 -> l = [] -> F = [] ->
  ∃ v' w' F',(Builtin.append_ #[t,t] ty #[v,.slice base l'.length cap2]).run P w = .ok v' w' /\ Turn F w w' /\ F'.Nodup /\ (∀ b ∈ F',b ∈ F ∨ b ∈ (List.range l'.length).flatMap Fs2 ∨ w.heap.size <= b) /\
  ∀ G',(∀ b,G b -> b < w.heap.size -> G' b) -> Rc w' ρ G' L true (.sl (some e) z (l ++ l')) [v'] F':=by
  rintro rfl rfl rfl
  by_cases hm : l'.length = 0
  · have hl0 : l' = []:=List.length_eq_zero_iff.1 hm
    subst hl0
    have hn0 : news = []:=List.length_eq_zero_iff.1 (by simpa using hnl)
    subst hn0
    refine ⟨.slice none 0 0,w,[], ?_,Turn.refl _ _,List.nodup_nil,by simp,fun G' _=>?_⟩
    · rcases hs with ⟨rfl,_,rfl⟩ | ⟨a,rfl,_⟩ <;>
       simp [Builtin.append_,run_underlying hT.u,sizeOf,typeInfo,hi,Builtin.lenOf,Builtin.firstCells,loadCells,loadCellsFrom]
    · exact .slN (some e) z
  · rcases hs with ⟨_,rfl,_⟩ | ⟨a,rfl,hnews⟩
    · simp at hm
    · have hr:=run_append_nil (P:=P) w t ty e i zv hT.u hi hz a l'.length cap2 news (by rw [hsz]; exact hnl) hnews (by omega) (by simp at h63; omega) (by rw [hby]; simp at hbytes; omega)
      obtain ⟨F',q1,q2,q3,q4⟩:=grow 0 [] (fun _=>[]) (by simp) (by simp) (fun j hj=>by simp at hj) (by simp) (by simp)
      simp only [List.length_nil,Nat.zero_add,List.nil_append] at q1 q2 q3 q4 ⊢
      have e0 : (#[] : Array Value) ++ news.toArray = news.toArray:=by simp
      simp only [e0] at q1 q4
      exact ⟨_,_,F',hr,q1,q2,q3,q4⟩
 have empcase : ∀ a0 : Addr,v = .slice (some a0) 0 0 -> l = [] -> F = [] ->
  ∃ v' w' F',(Builtin.append_ #[t,t] ty #[v,.slice base l'.length cap2]).run P w = .ok v' w' /\ Turn F w w' /\ F'.Nodup /\ (∀ b ∈ F',b ∈ F ∨ b ∈ (List.range l'.length).flatMap Fs2 ∨ w.heap.size <= b) /\
  ∀ G',(∀ b,G b -> b < w.heap.size -> G' b) -> Rc w' ρ G' L true (.sl (some e) z (l ++ l')) [v'] F':=by
  rintro a0 rfl rfl rfl
  by_cases hm : l'.length = 0
  · have hl0 : l' = []:=List.length_eq_zero_iff.1 hm
    subst hl0
    have hn0 : news = []:=List.length_eq_zero_iff.1 (by simpa using hnl)
    subst hn0
    refine ⟨.slice (some a0) 0 0,w,[], ?_,Turn.refl _ _,List.nodup_nil,by simp,fun G' _=>?_⟩
    · rcases hs with ⟨rfl,_,rfl⟩ | ⟨a,rfl,_⟩ <;>
       simp [Builtin.append_,run_underlying hT.u,sizeOf,typeInfo,hi,Builtin.lenOf,Builtin.firstCells,loadCells,loadCellsFrom,storeCells]
    · exact .slE (some e) z a0
  · rcases hs with ⟨_,rfl,_⟩ | ⟨a,rfl,hnews⟩
    · simp at hm
    · have hgz : Builtin.nextslicecap (0 + l'.length) 0 * i.bytes <= 281474976710656:=by
       rw [Nat.zero_add,nextslicecap_zero (by omega)]; rw [hby]; simp at hbytes; omega
      have hr:=run_append_grow (P:=P) (w:=w) t ty e i zv hT.u hi hz a0 0 0 [] (by simp) (by simp) a l'.length cap2 news (by rw [hsz]; exact hnl) hnews (by omega) (by simp at h63; omega) hgz
      obtain ⟨F',q1,q2,q3,q4⟩:=grow 0 [] (fun _=>[]) (by simp) (by simp) (fun j hj=>by simp at hj) (by simp) (by simp)
      simp only [List.length_nil,Nat.zero_add,List.nil_append] at hr q1 q2 q3 q4 ⊢
      exact ⟨_,_,F',hr,q1,q2,q3,q4⟩
 rcases hdd with ⟨rfl,rfl⟩ | rfl
 · have hv:=hd.nil_val
   subst hv
   have hF:=hd.pur rfl
   exact nilcase rfl rfl hF
 · generalize hvv : [v] = cv at hd
   cases hd with
   | slN o z=>
    cases hvv
    exact nilcase rfl rfl rfl
   | slE o z a0=>
    cases hvv
    exact empcase a0 rfl rfl rfl
   | slO b cs e cap z l Fs hb hc hcm hcs ho1 hr=>
    cases hvv
    obtain ⟨hn1,hn2⟩:=List.nodup_cons.1 hFn
    have hbl : b < w.heap.size:=(Array.getElem?_eq_some_iff.1 hb).1
    have hxl : (cs.toList.take (l.length * z)).length = l.length * z:=by
     have:=Nat.mul_le_mul_right z hc
     simp; omega
    have hrx : ∀ j (h : j < l.length),Rc w ρ G L false l[j] (((cs.toList.take (l.length * z)).drop (j * z)).take z) (Fs j):=fun j hj=>by
     have e1:=part_left (cs.toList.take (l.length * z)) (cs.toList.drop (l.length * z)) j l.length z hxl hj
     rw [List.take_append_drop] at e1
     rw [<- e1]; exact hr j hj
    rcases hs with ⟨rfl,rfl,rfl⟩ | ⟨a,rfl,hnews⟩
    · refine ⟨_,w,b :: (List.range l.length).flatMap Fs,run_append_owned_none (P:=P) (w:=w) 0 t ty e i z hT.u hi _ l.length (cs.toList.take (l.length * z)) ⟨hxl,.inr ⟨b,cap,cs,rfl,Nat.zero_le _,hb,hc,hcm,hcs,rfl⟩⟩,
       Turn.refl _ _,hFn,fun b hb=>.inl hb,fun G' hG'=>?_⟩
      rw [List.append_nil]
      exact (Rc.slO (w:=w) (ρ:=ρ) (G:=G) (L:=L) (p:=true) b cs e cap z l Fs hb hc hcm hcs ho1 hr).mono (fun _ _ _=>rfl) hG' (fun id hid=>⟨hid,rfl⟩)
    · by_cases hroom : l.length + l'.length <= cap
      · have hfit : l.length * i.size + news.length <= cs.size:=by rw [hnl,hcs,hsz,<- Nat.add_mul]; exact Nat.mul_le_mul_right _ hroom
        have hrun:=run_append_room (P:=P) w t ty e i hT.u hi b l.length cap cs hb a l'.length cap2 news (by rw [hsz]; exact hnl) hnews h1 hroom hfit
        rw [hsz] at hrun hfit
        have hdb : ∀ b',b' ∈ (List.range l'.length).flatMap Fs2 -> b' ≠ b:=fun b' hb' he=>hdis b' hb' (by simp [he])
        refine ⟨_,_,b :: (List.range (l.length + l'.length)).flatMap (fjoin l.length Fs Fs2),hrun,⟨rfl,rfl,rfl,by simp,fun b' _ hb'=>setRow_other w b b' _ (fun e=>hb' (by simp [e]))⟩, ?_, ?_,fun G' hG'=>?_⟩
        · refine List.nodup_cons.2 ⟨fun hm=>?_,fjoin_nodup hn2 hF2 (fun b hb hb'=>hdis b hb (List.mem_cons_of_mem _ hb'))⟩
          rcases fjoin_mem hm with h2 | h2
          · exact hn1 h2
          · exact hdb _ h2 rfl
        · intro b' hb'
          rcases List.mem_cons.1 hb' with rfl | hb'
          · exact .inl (by simp)
          · rcases fjoin_mem hb' with h2 | h2
            · exact .inl (List.mem_cons_of_mem _ h2)
            · exact .inr (.inl h2)
        · refine slO_app (xs:=cs.toList.take (l.length * z)) (news:=news) (rest:=cs.toList.drop (l.length * z + news.length)) (setRow_heap w b cs _ e (0,0) hb) (by simp) hxl hnl ?_ hroom hcm ?_ ?_ ?_
          · simp only [List.size_toArray,List.length_append,List.length_take,List.length_drop,Array.length_toList]
            omega
          · intro u hu
            simp only [List.mem_append] at hu
            rcases hu with (hu | hu) | hu
            · exact ho1 u (List.mem_of_mem_take hu)
            · exact h1 u hu
            · exact ho1 u (List.mem_of_mem_drop hu)
          · exact fun j hj=>(hrx j hj).mono (fun b' hb' _=>setRow_other w b b' _ (by
             rintro rfl
             rcases hb' with hb' | hb'
             · exact hGF _ hb' (by simp)
             · exact hn1 (List.mem_flatMap.2 ⟨j,List.mem_range.2 hj,hb'⟩))) hG' (fun id hid=>⟨hid,rfl⟩)
          · exact fun j hj=>(hr2 j hj).mono (fun b' hb' _=>setRow_other w b b' _ (by
             rintro rfl
             rcases hb' with hb' | hb'
             · exact hGF _ hb' (by simp)
             · exact hdb _ (List.mem_flatMap.2 ⟨j,List.mem_range.2 hj,hb'⟩) rfl)) hG' (fun id hid=>⟨hid,rfl⟩)
      · have holds : ∀ j u,(cs.toList.take (l.length * z))[j]? = some u -> w.cell? ((⟨b,0,none⟩ : Addr).add j) = some u:=by
         intro j u hu
         rw [add_lit,cell_of_row w b _ cs e (0,0) hb]
         rw [List.getElem?_take] at hu
         split at hu
         · simpa using hu
         · cases hu
        have hrun:=run_append_grow (P:=P) w t ty e i zv hT.u hi hz ⟨b,0,none⟩ l.length cap (cs.toList.take (l.length * z)) (by rw [hsz]; exact hxl) holds a l'.length cap2 news (by rw [hsz]; exact hnl) hnews (by omega) (by omega)
         (growslice_fits (by omega) (by rw [hby]; exact hbytes))
        obtain ⟨F',q1,q2,q3,q4⟩:=grow cap (cs.toList.take (l.length * z)) Fs (fun u hu=>ho1 u (List.mem_of_mem_take hu)) hxl hrx hn2 (fun b' hb'=>List.mem_cons_of_mem _ hb')
        exact ⟨_,_,F',hrun,q1,q2,q3,q4⟩
end Go.Sx

namespace Go.Sx
variable {pos : String} {aft : Array Edge} {g : Option (Nat × Bool)}
variable {P : Program} {C : Ctx} {σ σ' σ1 : Sg} {a : Act} {w w' : World} {ρ : Nat -> Nat} {Fe Fe' Fb : Nat -> List Nat}
theorem in_part {news : List Value} {m z : Nat} (hl : news.length = m * z) {u : Value} (hu : u ∈ news) : ∃ j,j < m /\ u ∈ (news.drop (j * z)).take z:=by
 obtain ⟨k,hk,rfl⟩:=List.mem_iff_getElem.1 hu
 have hz : 0 < z:=by
  rcases Nat.eq_zero_or_pos z with rfl | h
  · simp at hl; subst hl; simp at hk
  · exact h
 have h1 : k < m * z:=by omega
 have h2 : k / z < m:=Nat.div_lt_of_lt_mul (by rw [Nat.mul_comm]; exact h1)
 refine ⟨k / z,h2, ?_⟩
 have h3:=Nat.div_add_mod k z
 have h4:=Nat.mod_lt k hz
 rw [Nat.mul_comm] at h3
 refine List.mem_iff_getElem?.2 ⟨k % z, ?_⟩
 rw [List.getElem?_take,if_pos h4,List.getElem?_drop,show k / z * z + k % z = k by omega]
 exact List.getElem?_eq_getElem hk
theorem flat0 (n : Nat) : (List.range n).flatMap (fun _=>([] : List Nat)) = []:=by rw [List.flatMap_eq_nil_iff]; intros; rfl
theorem flat0_nd (n : Nat) : ((List.range n).flatMap (fun _=>([] : List Nat))).Nodup:=by rw [flat0]; exact List.nodup_nil
theorem flat0_dis (n : Nat) (F : List Nat) : ∀ b ∈ (List.range n).flatMap (fun _=>([] : List Nat)),b ∉ F:=by rw [flat0]; intro b hb; cases hb
theorem src_ok {G L : Nat -> Prop} {base : Option Addr} {len cap z : Nat} {l : List D} (h : SlR w ρ G L base len cap z l) (hp : ∀ y ∈ l,y.pur = true) :
 len = l.length /\ ∃ news : List Value,((base = none /\ l = [] /\ cap = 0) ∨ ∃ a,base = some a /\ ∀ j u,news[j]? = some u -> w.cell? (a.add j) = some u) /\ news.length = l.length * z /\ (∀ u ∈ news,u.oneCell' = true) /\
  ∀ j (h : j < l.length),Rc w ρ G L false l[j] ((news.drop (j * z)).take z) []:=by
 obtain ⟨rfl,h⟩:=h
 refine ⟨rfl, ?_⟩
 rcases h with ⟨h1,rfl⟩ | ⟨b,o,cs,e,fz,rfl,hb,hc,hs,hr⟩
 · have : l = []:=List.length_eq_zero_iff.1 h1
   subst this
   cases base with
   | none=>exact ⟨[],.inl ⟨rfl,rfl,rfl⟩,by simp,by simp,fun j hj=>by simp at hj⟩
   | some a=>exact ⟨[],.inr ⟨a,rfl,by simp⟩,by simp,by simp,fun j hj=>by simp at hj⟩
 · have hl : ((cs.toList.drop o).take (l.length * z)).length = l.length * z:=by simp; omega
   have hr2 : ∀ j (h : j < l.length),Rc w ρ G L false l[j] ((((cs.toList.drop o).take (l.length * z)).drop (j * z)).take z) []:=by
    intro j hj
    obtain ⟨F,hF⟩:=hr j hj
    have hFn:=hF.pur (hp _ (List.getElem_mem hj))
    subst hFn
    have : j * z + z <= l.length * z:=by
     have:=Nat.mul_le_mul_right z (show j + 1 <= l.length by omega)
     rw [Nat.add_mul] at this; omega
    rw [sub_sub _ _ _ _ _ this]
    exact hF
   refine ⟨(cs.toList.drop o).take (l.length * z),.inr ⟨_,rfl,fun j u hu=>?_⟩,hl,fun u hu=>?_,hr2⟩
   · rw [add_lit,cell_of_row w b _ cs e fz hb]
     rw [List.getElem?_take] at hu
     split at hu
     · rw [List.getElem?_drop] at hu; simpa using hu
     · cases hu
   · obtain ⟨j,hj,hm⟩:=in_part hl hu
     exact (hr2 j hj).one u hm
inductive SrcO (gl : List (Nat × D)) (σ : Sg) : Operand -> Nat -> List D -> Prop
 | sc {t z : Nat} {l : List D} (h : SC σ t z l) (hp : ∀ y ∈ l,y.pur = true) : SrcO gl σ (.tmp t) z l
 | nil {x : Operand} {z : Nat} (h : ev gl σ x = some .nils) : SrcO gl σ x z []
theorem SrcO.ok (st : StW C σ a w ρ Fe Fb) {x : Operand} {z : Nat} {l : List D} (h : SrcO C.gl σ x z l) :
 ∃ base cap,a.eval x = .slice base l.length cap /\ SlR w ρ (gd C Fe Fb) (fun id=>(σ.box id).isSome) base l.length cap z l /\ ∀ y ∈ l,y.pur = true:=by
 cases h with
 | sc h hp=>
  obtain ⟨base,len,cap,hv,hr⟩:=SC_ok st h
  have:=hr.1
  subst this
  exact ⟨base,cap,eval_tmp hv,hr,hp⟩
 | nil h=>
  obtain ⟨F,hv,_⟩:=ev_ok st h rfl
  simp only [VR,D.isAgg,Bool.false_eq_true,if_false] at hv
  refine ⟨none,0,hv.nil_val,⟨rfl,.inl ⟨rfl,rfl⟩⟩,by simp⟩
theorem fits {n bytes : Nat} (hby : bytes <= 131072) (hn : n <= 1073741824) : n * bytes <= 140737488355328 /\ n <= maxLen:=by
 refine ⟨?_,by simp only [maxLen]; omega⟩
 calc n * bytes <= 1073741824 * 131072:=Nat.mul_le_mul hn hby
  _ <= 140737488355328:=by decide
theorem R.app {s s0 t e z bytes : Nat} {x : Operand} {l l' : List D} {ty rt : TypeId} [hT : SlT P ty e] [hE : ElT P e z bytes]
 (ho : ownr σ s s0) (hs : σ.get s0 = some (.sl (some e) z l)) (hx : SrcO C.gl σ x z l') (hn : l.length + l'.length <= 1073741824) (ht : t < σ.n) (hst : s0 ≠ t) (hby : bytes <= 131072) :
 OpS P C ⟨some t,.call { callee:=.builtin .append,args:=#[.tmp s,x],argTypes:=#[ty,ty] },rt,pos,aft,g⟩ σ ((σ.kill s0).set t (.sl (some e) z (l ++ l'))):=by
 refine OpS.value fun a w ⟨ρ,Fe,Fb,st⟩=>?_
 obtain ⟨v,hv,hv0,hr⟩:=ownr_val st ho hs
 obtain ⟨base,cap,hxe,hsr,hp⟩:=hx.ok st
 obtain ⟨_,news,q1,q2,q3,q4⟩:=src_ok hsr hp
 obtain ⟨f1,f2⟩:=fits hby hn
 obtain ⟨v',w',F',hrun,ht',hnd,hsub,hres⟩:=app_run (P:=P) (t:=ty) (e:=e) (bytes:=bytes) (ty:=rt) (Fs2:=fun _=>[]) hr (.inr rfl) (st.nodE s0) q1 q2 q3 q4 (flat0_nd _) (flat0_dis _ _) (fun b hb hm=>hb.2 (.inl ⟨s0,hm⟩)) f1 f2
 refine ⟨v',w', ?_,ρ,_,Fb,st.take (F:=F') ht hst hs ht'.os ht'.tape ht'.output ht'.size ht'.blk hnd (fun b hb=>?_) ((SR_plain rfl).2 ⟨v',by rw [put_get a t _ t (by rw [st.size]; exact ht)]; simp, ?_⟩)⟩
 · unfold execOp
   simp [resolve,invoke,builtin,eval_tmp hv,hxe,hrun]
 · rcases hsub b hb with h | h | h
   · exact .inl h
   · simp at h
   · exact .inr h
 · simp only [VR,D.isAgg,Bool.false_eq_true,if_false]
   refine hres _ (fun b hb hl=>⟨hb.1,fun hc=>?_⟩)
   rcases hc with ⟨u,hu⟩ | hid
   · by_cases hut : u = t
     · subst hut
       simp at hu
       rcases hsub b hu with h | h | h
       · exact hb.2 (.inl ⟨s0,h⟩)
       · simp at h
       · omega
     · rw [upd_other hut] at hu
       by_cases hus : u = s0
       · subst hus; simp at hu
       · rw [upd_other hus] at hu; exact hb.2 (.inl ⟨u,hu⟩)
   · exact hb.2 (.inr hid)
theorem StW.newSl {t e z : Nat} {l : List D} {cs : Array Value} (st : StW C σ a w ρ Fe Fb) (ht : t < σ.n) (hl : l.length <= maxLen) (hs : cs.size = l.length * z)
 (hr : ∀ i (h : i < l.length),Rc w ρ (gd C Fe Fb) (fun id=>(σ.box id).isSome) false l[i] ((cs.toList.drop (i * z)).take z) []) :
 St C (σ.set t (.sl (some e) z l)) (a.put (some t) (.slice (some ⟨w.heap.size,0,none⟩) l.length l.length)) (w.alloc (.cells cs e)):=by
 have hlt:=st.lt
 refine ⟨ρ,upd Fe t [w.heap.size],Fb,st.ext ht (Ext.alloc w _) (by simp) (by simp) ((SR_plain rfl).2 ⟨.slice (some ⟨w.heap.size,0,none⟩) l.length l.length,by rw [put_get a t _ t (by rw [st.size]; exact ht)]; simp, ?_⟩)⟩
 simp only [VR,D.isAgg,Bool.false_eq_true,if_false]
 have hone:=(Rc.arr (p:=false) l.length z l cs.toList rfl (by simpa using hs) hr).one
 have:=Rc.slO (w:=w.alloc (.cells cs e)) (ρ:=ρ) (G:=gd C (upd Fe t [w.heap.size]) Fb) (L:=fun id=>(σ.box id).isSome) (p:=true) w.heap.size cs e l.length z l (fun _=>[]) (heap_alloc_new w _) (Nat.le_refl _) hl hs hone
  (fun i hi=>(hr i hi).mono (fun b _ hb=>heap_alloc_old w _ hb) (fun b hb hbl=>⟨hb.1,fun hc=>by
   rcases hc with ⟨u,hu⟩ | hid
   · by_cases hut : u = t
     · subst hut; simp at hu; omega
     · rw [upd_other hut] at hu; exact hb.2 (.inl ⟨u,hu⟩)
   · exact hb.2 (.inr hid)⟩) (fun id hid=>⟨hid,rfl⟩))
 have e0 : (List.range l.length).flatMap (fun _=>([] : List Nat)) = []:=by rw [List.flatMap_eq_nil_iff]; intros; rfl
 rw [e0] at this
 exact this
def evs (gl : List (Nat × D)) (σ : Sg) : List (Nat × Operand) -> Nat -> Option (List D)
 | [],_=>some []
 | (i,x) :: r,k=>bif Nat.beq i k then (match ev gl σ x with
  | some d=>match evs gl σ r (k + 1) with
   | some ds=>some (d :: ds)
   | none=>none
  | none=>none) else none
def PurZ (z : Nat) : List D -> Prop
 | []=>True
 | d :: r=>(d.pur = true /\ d.np = true /\ d.sz = z) /\ PurZ z r
theorem foldl_set (cs : Array Value) (vs : List Value) (off k : Nat) (h : off + k + vs.length <= cs.size) :
 ((vs.zipIdx k).foldl (fun (c : Array Value) (p : Value × Nat)=>c.setIfInBounds (off + p.2) p.1) cs).toList = cs.toList.take (off + k) ++ vs ++ cs.toList.drop (off + k + vs.length):=by
 induction vs generalizing cs k with
 | nil=>simp
 | cons v vs ih=>
  simp only [List.zipIdx_cons,List.foldl_cons]
  simp only [List.length_cons] at h
  rw [ih _ _ (by simp; omega)]
  simp only [Array.toList_setIfInBounds]
  apply List.ext_getElem?
  intro j
  simp only [List.append_assoc,List.getElem?_append,List.length_take,List.length_set,Array.length_toList,List.getElem?_take,List.getElem?_set,List.length_cons,List.getElem?_drop,List.cons_append]
  have e1 : min (off + (k + 1)) cs.size = off + k + 1:=by omega
  have e2 : min (off + k) cs.size = off + k:=by omega
  rw [e1,e2]
  rcases Nat.lt_trichotomy j (off + k) with h1 | h1 | h1
  · simp [h1,show j < off + k + 1 by omega,show ¬ off + k = j by omega,show j < off + (k + 1) by omega]
  · subst h1
    simp [show off + k < off + k + 1 by omega,show off + k < off + (k + 1) by omega,show off + k < cs.size by omega]
  · simp only [show ¬ j < off + k + 1 by omega,show ¬ j < off + k by omega,if_false]
    have e3 : j - (off + k) = (j - (off + k + 1)) + 1:=by omega
    rw [e3]
    simp only [List.getElem?_cons_succ]
    rw [List.getElem?_append]
    by_cases h2 : j - (off + k + 1) < vs.length
    · simp [h2]
    · simp only [h2,if_false,List.getElem?_drop]
      rw [if_neg (by omega)]
      congr 1
      omega
theorem fill_run {G L : Nat -> Prop} {gl : List (Nat × D)} {z : Nat} (hv : ∀ x d,ev gl σ x = some d -> d.pur = true -> ∃ cs : List Value,(a.eval x).cells.toList = cs /\ Rc w ρ G L true d cs []) :
 ∀ (ps : List (Nat × Operand)) (k : Nat) (ds : List D) (cs : Array Value),evs gl σ ps k = some ds -> PurZ z ds -> (k + ds.length) * z <= cs.size ->
  ∃ out : Array Value,Instr.fill (fun i=>some (i * z,z)) cs (ps.map (fun p=>(p.1,a.eval p.2))) = some out /\ out.size = cs.size /\ out.toList.take (k * z) = cs.toList.take (k * z) /\
   ∀ i (h : i < ds.length),Rc w ρ G L false ds[i] ((out.toList.drop ((k + i) * z)).take z) []:=by
 intro ps
 induction ps with
 | nil=>
  intro k ds cs h hp hs
  simp only [evs,Option.some.injEq] at h
  subst h
  exact ⟨cs,rfl,rfl,rfl,fun i hi=>by simp at hi⟩
 | cons p ps ih=>
  intro k ds cs h hp hs
  obtain ⟨i0,x⟩:=p
  simp only [evs] at h
  by_cases hik : i0 = k
  · subst hik
    simp only [Nat.beq_refl,cond_true] at h
    cases hx : ev gl σ x with
    | none=>rw [hx] at h; cases h
    | some d=>
     rw [hx] at h
     cases hr : evs gl σ ps (i0 + 1) with
     | none=>simp only [hr] at h; cases h
     | some ds'=>
      simp only [hr,Option.some.injEq] at h
      subst h
      obtain ⟨⟨p1,p2,p3⟩,p4⟩:=hp
      obtain ⟨xc,hxc,hrc⟩:=hv x d hx p1
      have hlen:=hrc.len
      have hsz : (a.eval x).cells.size = z:=by rw [<- Array.length_toList,hxc,hlen,p3]
      have hkz : (i0 + 1) * z <= cs.size:=Nat.le_trans (Nat.mul_le_mul_right z (by simp)) hs
      rw [Nat.add_mul,Nat.one_mul] at hkz
      have hfold:=foldl_set cs xc (i0 * z) 0 (by omega)
      simp only [Nat.add_zero] at hfold
      have hcs2 : ((a.eval x).cells.zipIdx.foldl (fun (c : Array Value) (p : Value × Nat)=>c.setIfInBounds (i0 * z + p.2) p.1) cs).toList = cs.toList.take (i0 * z) ++ xc ++ cs.toList.drop (i0 * z + xc.length):=by
       rw [<- hfold,<- hxc,<- Array.foldl_toList]
       simp
      generalize hc2 : ((a.eval x).cells.zipIdx.foldl (fun (c : Array Value) (p : Value × Nat)=>c.setIfInBounds (i0 * z + p.2) p.1) cs) = cs2 at hcs2
      have hs2 : cs2.size = cs.size:=by
       have:=congrArg List.length hcs2
       rw [splice_len _ _ _ (by simp; omega)] at this
       simpa using this
      obtain ⟨out,q1,q2,q3,q4⟩:=ih (i0 + 1) ds' cs2 hr p4 (by rw [hs2]; simp at hs ⊢; rw [show i0 + 1 + ds'.length = i0 + (ds'.length + 1) by omega]; exact hs)
      have hmid : (cs2.toList.drop (i0 * z)).take z = xc:=by
       rw [hcs2,List.append_assoc,List.drop_left' (by simp; omega),List.take_append_of_le_length (by omega),List.take_of_length_le (by omega)]
      have q3' : ∀ j : Nat,(out.toList.take ((i0 + 1) * z))[j]? = (cs2.toList.take ((i0 + 1) * z))[j]?:=fun j=>by rw [q3]
      refine ⟨out, ?_,q2.trans hs2, ?_,fun i hi=>?_⟩
      · simp only [List.map_cons,Instr.fill]
        have hcond : ¬ ((a.eval x).cells.size ≠ z ∨ i0 * z + (a.eval x).cells.size > cs.size):=by rw [hsz]; simp; omega
        simp only [ne_eq,Bool.or_eq_true,decide_eq_true_eq]
        rw [if_neg (by simpa using hcond)]
        rw [hc2]
        exact q1
      · apply List.ext_getElem?
        intro j
        by_cases hj : j < i0 * z
        · have:=q3' j
          have hj2 : j < (i0 + 1) * z:=by rw [Nat.add_mul]; omega
          simp only [List.getElem?_take,hj2,if_true] at this
          simp only [List.getElem?_take,hj,if_true,this,hcs2]
          rw [List.append_assoc,List.getElem?_append_left (by simp; omega),List.getElem?_take,if_pos hj]
        · simp [List.getElem?_take,hj]
      · cases i with
        | zero=>
         simp only [Nat.add_zero,List.getElem_cons_zero]
         have : (out.toList.drop (i0 * z)).take z = (cs2.toList.drop (i0 * z)).take z:=by
          apply List.ext_getElem?
          intro j
          by_cases hj : j < z
          · have:=q3' (i0 * z + j)
            have hj2 : i0 * z + j < (i0 + 1) * z:=by rw [Nat.add_mul]; omega
            simp only [List.getElem?_take,hj2,if_true] at this
            simp only [List.getElem?_take,hj,if_true,List.getElem?_drop,this]
          · simp [List.getElem?_take,hj]
         rw [this,hmid]
         exact hrc.unflag p2
        | succ i=>
         have:=q4 i (by simpa using hi)
         rw [show i0 + (i + 1) = i0 + 1 + i by omega]
         simpa using this
  · rw [nbeq hik] at h
    cases h
theorem ev_cells (st : StW C σ a w ρ Fe Fb) {x : Operand} {d : D} (h : ev C.gl σ x = some d) (hp : d.pur = true) :
 ∃ cs : List Value,(a.eval x).cells.toList = cs /\ Rc w ρ (gd C Fe Fb) (fun id=>(σ.box id).isSome) true d cs []:=by
 obtain ⟨F,hv,_⟩:=ev_ok st h (pur_ref hp)
 have:=hv.pur hp
 subst this
 exact ⟨_,rfl,hv.cells (by rintro rfl; simp [D.pur] at hp)⟩
theorem R.bsl {t e z bytes k : Nat} {ps : List (Nat × Operand)} {ds : List D} {ty rt : TypeId} [hT : SlT P ty e] [hE : ElT P e z bytes]
 (hps : evs C.gl σ ps 0 = some ds) (hp : PurZ z ds) (hk : ds.length = k) (ht : t < σ.n) (hsm : k * z <= 16777216) :
 OpS P C ⟨some t,.buildSlice ty k ps.toArray,rt,pos,aft,g⟩ σ (σ.set t (.sl (some e) z ds)):=by
 refine OpS.value fun a w ⟨ρ,Fe,Fb,st⟩=>?_
 obtain ⟨i,zv,hi,hsz,hby,hz,hzs,hpos,hone⟩:=hE.i
 subst hk
 obtain ⟨out,q1,q2,q3,q4⟩:=fill_run (w:=w) (ρ:=ρ) (z:=z) (fun x d h hp=>ev_cells st h hp) ps 0 ds ((Array.range (ds.length * z)).map (zv.cells[· % zv.cells.size]!)) hps hp (by simp)
 simp only [Nat.zero_add] at q4
 have hml : ds.length <= maxLen:=by
  have : ds.length * 1 <= ds.length * z:=Nat.mul_le_mul_left _ hpos
  simp only [maxLen]; omega
 refine ⟨_,_, ?_,st.newSl (e:=e) (cs:=out) ht hml (by rw [q2]; simp) q4⟩
 unfold execOp
 have hps2 : (ps.toArray.map fun x=>(x.1,a.eval x.2)).toList = ps.map (fun p=>(p.1,a.eval p.2)):=by simp
 by_cases h0 : ds.length * z = 0
 · have q1':=q1
   simp only [h0] at q1'
   have e0 : (Array.range 0).map (fun x=>zv.cells[x % zv.cells.size]!) = (#[] : Array Value):=by simp [Array.range_zero']
   rw [e0] at q1'
   have e1 : Array.range 0 = #[]:=rfl
   simp [Instr.buildSlice,run_underlying hT.u,ElT.size (P:=P) (e:=e),h0,hps2,e1,q1',newRow,newObj,Sem.run]
 · simp [Instr.buildSlice,run_underlying hT.u,ElT.size (P:=P) (e:=e),h0,hps2,q1,newRow,newObj,Sem.run,zeroValue,typeInfo,hi,hz,show ¬ (16777216 < ds.length * z) by omega]
end Go.Sx

namespace Go.Sx
variable {pos : String} {aft : Array Edge} {g : Option (Nat × Bool)}
variable {P : Program} {C : Ctx} {σ σ' σ1 : Sg} {a : Act} {w w' : World} {ρ : Nat -> Nat} {Fe Fe' Fb : Nat -> List Nat}
theorem madeCells_part (z : Array Value) (n i : Nat) (hi : i < n) : ((madeCells z (n * z.size)).toList.drop (i * z.size)).take z.size = z.toList:=by
 have h1 : i * z.size + z.size <= n * z.size:=by
  have:=Nat.mul_le_mul_right z.size (show i + 1 <= n by omega)
  rw [Nat.add_mul] at this; omega
 apply List.ext_getElem?
 intro j
 by_cases hj : j < z.size
 · rw [List.getElem?_take,if_pos hj,List.getElem?_drop]
   have h2 : i * z.size + j < n * z.size:=by omega
   have h3 : (i * z.size + j) % z.size = j:=by rw [Nat.add_comm,Nat.add_mul_mod_self_right,Nat.mod_eq_of_lt hj]
   simp [madeCells,h2,h3,hj]
 · rw [List.getElem?_take,if_neg hj]
   simp; omega
theorem R.mk {t e z bytes : Nat} {x y : Operand} {n : Nat} {d : D} {ty rt : TypeId} [hT : SlT P ty e] [hE : ElT P e z bytes] [hZ : ZrT P e d]
 (hx : ev C.gl σ x = some (.int (n : Int))) (hy : ev C.gl σ y = some (.int (n : Int))) (hn : n <= 1073741824) (hby : bytes <= 131072) (ht : t < σ.n) :
 OpS P C ⟨some t,.makeSlice ty x y,rt,pos,aft,g⟩ σ (σ.set t (.sl (some e) z (List.replicate n d))):=by
 refine OpS.value fun a w ⟨ρ,Fe,Fb,st⟩=>?_
 obtain ⟨i,zv,hi,hsz,hbyt,hz,hzs,hpos,hone⟩:=hE.i
 obtain ⟨i',zv',hi',hz',hchk,hag⟩:=hZ.i
 rw [hi] at hi'
 cases hi'
 rw [hz] at hz'
 cases hz'
 obtain ⟨Fx,hvx,_⟩:=ev_ok st hx rfl
 obtain ⟨Fy,hvy,_⟩:=ev_ok st hy rfl
 simp only [VR,D.isAgg,Bool.false_eq_true,if_false] at hvx hvy
 generalize hex : a.eval x = vx at hvx
 generalize hey : a.eval y = vy at hvy
 cases hvx
 cases hvy
 have hb : (i.bytes : Int) * (n : Int) <= 281474976710656:=by
  rw [hbyt]
  have : bytes * n <= 131072 * 1073741824:=Nat.mul_le_mul hby hn
  have h2 : ((bytes * n : Nat) : Int) <= 281474976710656:=by omega
  rwa [Int.natCast_mul] at h2
 have hrun:=run_make (P:=P) w ty e i zv hT.u hi hz .i64 .i64 n n (by omega) (Int.le_refl _) hb (by omega)
 simp only [Int.toNat_natCast,hsz] at hrun
 have hst:=st.newSl (e:=e) (z:=z) (l:=List.replicate n d) (cs:=madeCells zv.cells (n * z)) ht (by simp only [List.length_replicate,maxLen]; omega) (by simp [size_madeCells]) (fun j hj=>by
  have hj' : j < n:=by simpa using hj
  rw [<- hzs,madeCells_part _ _ _ hj']
  simp only [List.getElem_replicate]
  exact chk_ok _ _ _ _ d _ hchk)
 simp only [List.length_replicate] at hst
 refine ⟨_,_, ?_,hst⟩
 unfold execOp
 simp [hex,hey,hrun]
def evo (gl : List (Nat × D)) (σ : Sg) (x : Option Operand) (n : Int) : Option Int:=
 match x with
 | none=>some n
 | some x=>match ev gl σ x with
  | some d=>d.cnt
  | none=>none
theorem bound_ok (st : StW C σ a w ρ Fe Fb) {x : Operand} {n : Int} (h : (match ev C.gl σ x with | some d=>d.cnt | none=>none) = some n) : ∃ k,a.eval x = .int k n:=by
 cases hx : ev C.gl σ x with
 | none=>rw [hx] at h; cases h
 | some d=>
  rw [hx] at h
  have hr : d.isRef = false /\ d.isAgg = false:=by cases d <;> simp_all [D.cnt,D.isRef,D.isAgg]
  obtain ⟨F,hv,_⟩:=ev_ok st hx hr.1
  simp only [VR,hr.2,Bool.false_eq_true,if_false] at hv
  exact cnt_val h hv
theorem run_bounds (st : StW C σ a w ρ Fe Fb) {b : Bool} {lo hi : Option Operand} {i j : Int} {len cap : Nat} (hl : evo C.gl σ lo 0 = some i) (hh : evo C.gl σ hi len = some j) (h0 : 0 <= i) (h1 : i <= j) (h2 : j <= len) (hc : len <= cap) :
 (Instr.sliceBounds b len cap (lo.map a.eval) (hi.map a.eval) none).run P w = .ok (i.toNat,j.toNat,cap) w:=by
 have hb : ∀ (x : Operand) (n : Int) (y : Nat) (code : BoundsCode),(match ev C.gl σ x with | some d=>d.cnt | none=>none) = some n -> 0 <= n -> n <= y -> (Instr.sliceBound (a.eval x) y code).run P w = .ok n.toNat w:=by
  intro x n y code hx h0 h1
  obtain ⟨k,hk⟩:=bound_ok st hx
  rw [hk]
  exact run_sliceBound w k n y code h0 h1
 cases lo with
 | none=>
  simp only [evo,Option.some.injEq] at hl
  subst hl
  cases hi with
  | none=>
   simp only [evo,Option.some.injEq] at hh
   subst hh
   simp [Instr.sliceBounds]
  | some y=>
   simp only [evo] at hh
   simp [Instr.sliceBounds,hb y j cap _ hh (by omega) (by omega)]
 | some x=>
  simp only [evo] at hl
  cases hi with
  | none=>
   simp only [evo,Option.some.injEq] at hh
   subst hh
   simp [Instr.sliceBounds,hb x i len _ hl (by omega) (by omega)]
  | some y=>
   simp only [evo] at hh
   simp [Instr.sliceBounds,hb y j cap _ hh (by omega) (by omega),hb x i j.toNat _ hl (by omega) (by omega)]
theorem R.slI {t e z bytes : Nat} {x : Operand} {l : List D} {lo hi : Option Operand} {i j : Int} {ty rt : TypeId} [hT : SlT P ty e] [hE : ElT P e z bytes]
 (hx : ev C.gl σ x = some (.sl none z l)) (hl : evo C.gl σ lo 0 = some i) (hh : evo C.gl σ hi l.length = some j) (h0 : 0 <= i) (h1 : i <= j) (h2 : j <= l.length) (ht : t < σ.n) :
 OpS P C ⟨some t,.slice ty x lo hi none,rt,pos,aft,g⟩ σ (σ.set t (.sl none z ((l.drop i.toNat).take (j - i).toNat))):=by
 refine OpS.value fun a w ⟨ρ,Fe,Fb,st⟩=>?_
 obtain ⟨F,hv,_⟩:=ev_ok st hx rfl
 have hF:=hv.pur rfl
 subst hF
 simp only [VR,D.isAgg,Bool.false_eq_true,if_false] at hv
 generalize hex : a.eval x = vx at hv
 have hlen : ((l.drop i.toNat).take (j - i).toNat).length = (j - i).toNat:=by simp; omega
 cases hv with
 | slN=>
  simp only [List.length_nil] at hh h2
  have hb:=run_bounds (P:=P) st (b:=true) (len:=0) (cap:=0) hl hh h0 h1 h2 (Nat.le_refl _)
  have hj : j = 0:=by omega
  have hi0 : i = 0:=by omega
  subst hj; subst hi0
  refine ⟨.slice none 0 0,w, ?_,st.put ht rfl ?_⟩
  · unfold execOp
    cases lo <;> cases hi <;> simp_all [Instr.sliceAt,Instr.slice,run_underlying hT.u,ElT.size (P:=P) (e:=e)]
  · simp only [VR,D.isAgg,Bool.false_eq_true,if_false]; exact .slN none z
 | slE _ _ aa=>
  simp only [List.length_nil] at hh h2
  have hb:=run_bounds (P:=P) st (b:=true) (len:=0) (cap:=0) hl hh h0 h1 h2 (Nat.le_refl _)
  have hj : j = 0:=by omega
  have hi0 : i = 0:=by omega
  subst hj; subst hi0
  refine ⟨.slice (some aa) 0 0,w, ?_,st.put ht rfl ?_⟩
  · unfold execOp
    cases lo <;> cases hi <;> simp_all [Instr.sliceAt,Instr.slice,run_underlying hT.u,ElT.size (P:=P) (e:=e)]
  · simp only [VR,D.isAgg,Bool.false_eq_true,if_false]; exact .slE none z aa
 | slI b off cs e' fz cap _ _ hb hG hc hs hr=>
  have hbd:=run_bounds (P:=P) st (b:=true) (len:=l.length) (cap:=cap) hl hh h0 h1 h2 hc
  refine ⟨.slice (some (if cap = i.toNat then ⟨b,off,none⟩ else ⟨b,off + i.toNat * z,none⟩)) (j - i).toNat (cap - i.toNat),w, ?_,st.put ht rfl ?_⟩
  · unfold execOp
    have e1 : j.toNat - i.toNat = (j - i).toNat:=by omega
    have hA : (fun x=>(⟨b,off,none⟩ : Addr).add (i.toNat * z)) () = ⟨b,off + i.toNat * z,none⟩:=add_lit _ _ _
    cases lo <;> cases hi <;> simp_all [Instr.sliceAt,Instr.slice,run_underlying hT.u,ElT.size (P:=P) (e:=e),add_lit] <;> split <;> simp_all
  · simp only [VR,D.isAgg,Bool.false_eq_true,if_false]
    have hjz : ((j - i).toNat) * z + i.toNat * z <= l.length * z:=by
     rw [<- Nat.add_mul]; exact Nat.mul_le_mul_right z (by omega)
    by_cases hci : cap = i.toNat
    · simp only [hci,if_true,Nat.sub_self]
      have h3 : (j - i).toNat = 0:=by omega
      have:=Rc.slI (w:=w) (ρ:=ρ) (G:=gd C Fe Fb) (L:=fun id=>(σ.box id).isSome) (p:=true) b off cs e' fz 0 z [] hb hG (Nat.zero_le _) (by simp; omega) (fun k hk=>by simp at hk)
      simpa [h3] using this
    · simp only [hci,if_false]
      have:=Rc.slI (w:=w) (ρ:=ρ) (G:=gd C Fe Fb) (L:=fun id=>(σ.box id).isSome) (p:=true) b (off + i.toNat * z) cs e' fz (cap - i.toNat) z ((l.drop i.toNat).take (j - i).toNat) hb hG (by rw [hlen]; omega)
       (by rw [hlen]; omega) (fun k hk=>by
        rw [hlen] at hk
        simp only [List.getElem_take,List.getElem_drop]
        have:=hr (i.toNat + k) (by omega)
        rw [Nat.add_mul,<- Nat.add_assoc] at this
        exact this)
      rw [hlen] at this
      exact this
theorem R.slV {s t e z bytes : Nat} {l : List D} {lo hi : Option Operand} {i j : Int} {ty rt : TypeId} [hT : SlT P ty e] [hE : ElT P e z bytes]
 (hx : SC σ s z l) (hl : evo C.gl σ lo 0 = some i) (hh : evo C.gl σ hi l.length = some j) (h0 : 0 <= i) (h1 : i <= j) (h2 : j <= l.length) (ht : t < σ.n) (hst : s ≠ t) :
 OpS P C ⟨some t,.slice ty (.tmp s) lo hi none,rt,pos,aft,g⟩ σ (σ.set t (.vw s z i.toNat (j - i).toNat)):=by
 refine OpS.value fun a w ⟨ρ,Fe,Fb,st⟩=>?_
 obtain ⟨base,len,cap,hv,rfl,hd⟩:=SC_ok st hx
 have hsz:=st.size
 have e1 : j.toNat - i.toNat = (j - i).toNat:=by omega
 have hcap : l.length <= cap:=by
  rcases hd with ⟨h3,h4⟩ | ⟨b,o,cs,e',fz,_,_,h3,_⟩ <;> omega
 have hbd:=run_bounds (P:=P) st (b:=true) (len:=l.length) (cap:=cap) hl hh h0 h1 h2 hcap
 rcases hd with ⟨h3,rfl⟩ | ⟨b,o,cs,e',fz,rfl,hb,hc,hs,hr⟩
 · have hj : j = 0:=by omega
   have hi0 : i = 0:=by omega
   subst hj; subst hi0
   refine ⟨.slice base 0 0,w, ?_,st.putRef ht ⟨rfl,.slice base l.length 0,.slice base 0 0,by rw [put_get a t _ s (by omega)]; simp [hst,hv],by rw [put_get a t _ t (by omega)]; simp, ?_⟩⟩
   · unfold execOp
     cases base <;> cases lo <;> cases hi <;> simp_all [Instr.sliceAt,Instr.slice,run_underlying hT.u,ElT.size (P:=P) (e:=e),eval_tmp hv]
   · exact ⟨_,_,_,_,_,rfl,rfl,Nat.le_refl _,by simp,Nat.le_refl _,.inr ⟨by omega,rfl⟩⟩
 · refine ⟨.slice (some (if cap = i.toNat then ⟨b,o,none⟩ else ⟨b,o + i.toNat * z,none⟩)) (j - i).toNat (cap - i.toNat),w, ?_,st.putRef ht ⟨rfl,.slice (some ⟨b,o,none⟩) l.length cap,.slice (some (if cap = i.toNat then ⟨b,o,none⟩ else ⟨b,o + i.toNat * z,none⟩)) (j - i).toNat (cap - i.toNat),by rw [put_get a t _ s (by omega)]; simp [hst,hv],by rw [put_get a t _ t (by omega)]; simp, ?_⟩⟩
   · unfold execOp
     cases lo <;> cases hi <;> simp_all [Instr.sliceAt,Instr.slice,run_underlying hT.u,ElT.size (P:=P) (e:=e),eval_tmp hv,add_lit] <;> split <;> simp_all
   · refine ⟨_,_,_,_,_,rfl,rfl,by omega,by omega,by omega,.inl ?_⟩
     by_cases hci : cap = i.toNat
     · exact ⟨b,o,o,rfl,by simp [hci],.inr ⟨rfl,by omega⟩⟩
     · exact ⟨b,o,_,rfl,by simp [hci],.inl rfl⟩
theorem R.slA {s t e z bytes m id off : Nat} {path : List Nat} {d0 : D} {l : List D} {lo hi : Option Operand} {i j : Int} {ty rt : TypeId} [hT : ArT P ty m e] [hE : ElT P e z bytes]
 (hx : σ.get s = some (.ptr id off path)) (hb : σ.box id = some (.var d0)) (hloc : d0.loc path = some (off,.arr m z l)) (hl : evo C.gl σ lo 0 = some i) (hh : evo C.gl σ hi m = some j) (h0 : 0 <= i) (h1 : i <= j) (h2 : j <= m) (ht : t < σ.n) :
 OpS P C ⟨some t,.slice ty (.tmp s) lo hi none,rt,pos,aft,g⟩ σ (σ.set t (.va id off z (j - i).toNat path i.toNat)):=by
 refine OpS.value fun a w ⟨ρ,Fe,Fb,st⟩=>?_
 obtain ⟨v,hv,hr⟩:=(SR_plain rfl).1 (st.env _ _ hx)
 simp only [VR,D.isAgg,Bool.false_eq_true,if_false] at hr
 generalize Fe s = F at hr
 cases hr
 have hsz:=st.size
 have e1 : j.toNat - i.toNat = (j - i).toNat:=by omega
 have hbd:=run_bounds (P:=P) st (b:=false) (len:=m) (cap:=m) hl hh h0 h1 h2 (Nat.le_refl _)
 refine ⟨.slice (some (if m = i.toNat then ⟨ρ id,off,none⟩ else ⟨ρ id,off + i.toNat * z,none⟩)) (j - i).toNat (m - i.toNat),w, ?_,st.putRef ht ⟨rfl,by simp [hb],m - i.toNat,if m = i.toNat then off else off + i.toNat * z,by omega, ?_, ?_⟩⟩
 · unfold execOp
   cases lo <;> cases hi <;> simp_all [Instr.sliceAt,Instr.sureAddr,run_underlying hT.u,ElT.size (P:=P) (e:=e),eval_tmp hv,add_lit] <;> split <;> simp_all
 · by_cases hm : m = i.toNat
   · simp [hm]; omega
   · simp [hm]
 · rw [put_get a t _ t (by omega)]
   by_cases hm : m = i.toNat <;> simp [hm]
end Go.Sx

namespace Go.Sx
variable {pos : String} {aft : Array Edge} {g : Option (Nat × Bool)}
variable {P : Program} {C : Ctx} {σ σ' σ1 : Sg} {a : Act} {w w' : World} {ρ : Nat -> Nat} {Fe Fe' Fb : Nat -> List Nat}
theorem int_ok (st : StW C σ a w ρ Fe Fb) {x : Operand} {n : Int} (h : evo C.gl σ (some x) 0 = some n) : ∃ k,a.eval x = .int k n:=bound_ok st h
theorem R.idxP {s t e z b m id off : Nat} {path : List Nat} {ix : Operand} {n : Int} {ty rt : TypeId} [hT : ArT P ty m e] [hE : ElT P e z b] (k : Nat)
 (h : σ.get s = some (.ptr id off path)) (hi : evo C.gl σ (some ix) 0 = some n) (hk : n = (k : Int)) (h1 : k < m) (ht : t < σ.n) :
 OpS P C ⟨some t,.indexAddr ty (.tmp s) ix,rt,pos,aft,g⟩ σ (σ.set t (.ptr id (off + k * z) (path ++ [k]))):=by
 subst hk
 refine OpS.value fun a w ⟨ρ,Fe,Fb,st⟩=>?_
 obtain ⟨v,hv,hr⟩:=(SR_plain rfl).1 (st.env _ _ h)
 simp only [VR,D.isAgg,Bool.false_eq_true,if_false] at hr
 generalize Fe s = F at hr
 cases hr with
 | ptr _ _ _ hL=>
 obtain ⟨kk,he⟩:=int_ok st hi
 refine ⟨.pointer (some ⟨ρ id,off + k * z,none⟩),w, ?_,st.put ht rfl ?_⟩
 · unfold execOp
   simp [Instr.indexAt,Instr.sureAddr,asIntOf,run_underlying hT.u,eval_tmp hv,he,h1,ElT.size (P:=P) (e:=e),add_lit]
 · simp only [VR,D.isAgg,Bool.false_eq_true,if_false]; exact .ptr _ _ _ hL
theorem R.idxN {s t z : Nat} {l : List D} {ix : Operand} {n : Int} {ty e b rt : TypeId} [hT : SlT P ty e] [hE : ElT P e z b] (k : Nat)
 (h : SC σ s z l) (hi : evo C.gl σ (some ix) 0 = some n) (hk : n = (k : Int)) (h1 : k < l.length) (ht : t < σ.n) (hst : s ≠ t) :
 OpS P C ⟨some t,.indexAddr ty (.tmp s) ix,rt,pos,aft,g⟩ σ (σ.set t (.ep s z k 0 [])):=by
 subst hk
 refine OpS.value fun a w ⟨ρ,Fe,Fb,st⟩=>?_
 obtain ⟨base,len,cap,hv,rfl,hd⟩:=SC_ok st h
 obtain ⟨kk,he⟩:=int_ok st hi
 rcases hd with ⟨h2,_⟩ | ⟨b,o,cs,e',fz,rfl,hb,hc,hsz,hr⟩
 · omega
 have hsz':=st.size
 refine ⟨.pointer (some ⟨b,o + k * z,none⟩),w, ?_,st.putRef ht ?_⟩
 · unfold execOp
   simp [Instr.indexAt,asIntOf,run_underlying hT.u,eval_tmp hv,he,h1,ElT.size (P:=P) (e:=e),add_lit]
 · refine ⟨rfl,b,o,l.length,cap, ?_, ?_,by omega⟩
   · rw [put_get a t _ s (by omega)]; simp [hst,hv]
   · rw [put_get a t _ t (by omega)]; simp
theorem run_part {e z off : Nat} {gg : Bool} [hL : LdT P e z gg] {G L : Nat -> Prop} {p : Bool} {d : D} {cs : Array Value} {F : List Nat} (hr : Rc w ρ G L p d ((cs.toList.drop off).take z) F) (hz : d.sz = z) (hg : d.isAgg = gg) (hs : off + z <= cs.size) :
 ∃ v,(part e cs off).run P w = .ok v w /\ VR w ρ G L d v F:=by
 have hr' : Rc w ρ G L true d ((cs.toList.drop off).take z) F:=by
  cases p with
  | true=>exact hr
  | false=>exact hr.flag
 cases gg with
 | true=>
  refine ⟨.agg (cs.extract off (off + z)), ?_, ?_⟩
  · simp [part,LdT.agg (P:=P) (t:=e),LdT.size (P:=P) (t:=e)]
  · simp only [VR,hg,if_true]
    refine ⟨_,rfl, ?_⟩
    have e1 : (cs.extract off (off + z)).toList = (cs.toList.drop off).take z:=by
     rw [Array.toList_extract]
     simp [List.extract_eq_take_drop]
    rw [e1]; exact hr'
 | false=>
  have h1 : d.sz = 1:=by cases d <;> simp_all [D.sz,D.isAgg]
  have hz1 : z = 1:=by omega
  subst hz1
  have hlt : off < cs.size:=by omega
  refine ⟨cs[off], ?_, ?_⟩
  · simp [part,LdT.agg (P:=P) (t:=e),hlt]
  · simp only [VR,hg,Bool.false_eq_true,if_false]
    rw [List.drop_eq_getElem_cons (by simpa using hlt),List.take_succ_cons,List.take_zero,Array.getElem_toList] at hr'
    exact hr'
theorem R.ixA {x ix : Operand} {t e z m : Nat} {gg : Bool} {l : List D} {d : D} {n : Int} {ty rt : TypeId} [hT : ArT P ty m e] [hL : LdT P e z gg] (k : Nat)
 (hx : ev C.gl σ x = some (.arr m z l)) (hi : evo C.gl σ (some ix) 0 = some n) (hk : n = (k : Int)) (h1 : l[k]? = some d) (hp : d.pur = true) (hz : d.sz = z) (hg : d.isAgg = gg) (ht : t < σ.n) :
 OpS P C ⟨some t,.index ty x ix,rt,pos,aft,g⟩ σ (σ.set t d):=by
 subst hk
 refine OpS.value fun a w ⟨ρ,Fe,Fb,st⟩=>?_
 obtain ⟨F,hv,_⟩:=ev_ok st hx rfl
 simp only [VR,D.isAgg,if_true] at hv
 obtain ⟨cs,hex,hv⟩:=hv
 obtain ⟨kk,he⟩:=int_ok st hi
 obtain ⟨hkl,rfl⟩:=List.getElem?_eq_some_iff.1 h1
 cases hv with
 | arr _ _ _ _ hl hsz hrr=>
  have hkm : k < m:=by omega
  have hkz : k * z + z <= m * z:=by
   have:=Nat.mul_le_mul_right z (show k + 1 <= m by omega)
   rw [Nat.add_mul] at this; omega
  obtain ⟨v,hrun,hvr⟩:=run_part (P:=P) (e:=e) (hrr k hkl) hz hg (by simp at hsz; omega)
  refine ⟨v,w, ?_,st.put ht (pur_ref hp) hvr⟩
  unfold execOp
  simp [Instr.index,asIntOf,run_underlying hT.u,hex,he,hkm,LdT.size (P:=P) (t:=e),hrun]
theorem R.pick {c x y : Operand} {t : Nat} {d : D} {b : Bool} {rt : TypeId}
 (hc : ev C.gl σ c = some (.bool b)) (hx : (bif b then ev C.gl σ x else ev C.gl σ y) = some d) (hp : d.pur = true) (ht : t < σ.n) :
 OpS P C ⟨some t,.pick c x y,rt,pos,aft,g⟩ σ (σ.set t d):=by
 refine OpS.value fun a w ⟨ρ,Fe,Fb,st⟩=>?_
 obtain ⟨Fc,hvc,_⟩:=ev_ok st hc rfl
 simp only [VR,D.isAgg,Bool.false_eq_true,if_false] at hvc
 generalize hec : a.eval c = vc at hvc
 cases hvc
 cases b with
 | true=>
  simp only [cond_true] at hx
  obtain ⟨F,hv,_⟩:=ev_ok st hx (pur_ref hp)
  have hF:=hv.pur hp
  subst hF
  refine ⟨a.eval x,w, ?_,st.put ht (pur_ref hp) hv⟩
  unfold execOp
  simp [hec,asBool]
 | false=>
  simp only [cond_false] at hx
  obtain ⟨F,hv,_⟩:=ev_ok st hx (pur_ref hp)
  have hF:=hv.pur hp
  subst hF
  refine ⟨a.eval y,w, ?_,st.put ht (pur_ref hp) hv⟩
  unfold execOp
  simp [hec,asBool]
theorem R.pickT {c x y : Operand} {t : Nat} {d : D} {b : Bool} {rt : TypeId}
 (hc : ev C.gl σ c = some (.bool b)) (hb : b = true) (hx : ev C.gl σ x = some d) (hp : d.pur = true) (ht : t < σ.n) :
 OpS P C ⟨some t,.pick c x y,rt,pos,aft,g⟩ σ (σ.set t d):=R.pick hc (by rw [hb]; exact hx) hp ht
theorem R.pickF {c x y : Operand} {t : Nat} {d : D} {b : Bool} {rt : TypeId}
 (hc : ev C.gl σ c = some (.bool b)) (hb : b = false) (hx : ev C.gl σ y = some d) (hp : d.pur = true) (ht : t < σ.n) :
 OpS P C ⟨some t,.pick c x y,rt,pos,aft,g⟩ σ (σ.set t d):=R.pick hc (by rw [hb]; exact hx) hp ht
theorem R.binE {op : BinOp} {xt yt ty : TypeId} {x y : Operand} {t : Nat} {dx dy d d' : D} {s : Prop}
 (hx : ev C.gl σ x = some dx) (hy : ev C.gl σ y = some dy) (ha : arith op dx dy = some (s,d')) (hs : s) (he : d' = d) (ht : t < σ.n) :
 OpS P C ⟨some t,.binOp op xt x y yt,ty,pos,aft,g⟩ σ (σ.set t d):=by subst he; exact R.bin hx hy ha hs ht
theorem R.convE {src dst ty : TypeId} {k k0 : IntKind} {x : Operand} {t : Nat} {dx d d' : D} [h0 : IkT P src k0] [hT : IkT P dst k]
 (hx : ev C.gl σ x = some dx) (hc : convD k dx = some d') (he : d' = d) (ht : t < σ.n) : OpS P C ⟨some t,.convert src dst x,ty,pos,aft,g⟩ σ (σ.set t d):=by subst he; exact R.conv hx hc ht
theorem wr_eq {a c : Int} (h : a = c) (h0 : -9223372036854775808 <= c) (h1 : c < 9223372036854775808) : D.int (wr a) = D.int c:=by
 subst h
 have : wr a = a:=by unfold wr; rw [IntKind.wrap_i64]; omega
 rw [this]
class EqT (P : Program) (t : TypeId) : Prop where
 i : P.eqGuardType P.depth t = false
theorem run_eqItems_u8 {e : TypeId} [hk : IkT P e .u8] [hL : LdT P e 1 false] (w : World) (d : Nat) (xs ys : List UInt8) (n : Nat) (hx : xs.length = n) (hy : ys.length = n) (cx cy : Array Value)
 (h1 : cx.toList = xs.map (fun b=>Value.int .u8 b.toNat)) (h2 : cy.toList = ys.map (fun b=>Value.int .u8 b.toNat)) : ∀ (l : List Nat),(∀ i ∈ l,i < n) ->
 (Op.eqItems (d + 1) e 1 cx cy l).run P w = .ok (l.all fun i=>xs[i]? == ys[i]?) w:=by
 intro l
 induction l with
 | nil=>intro _; simp [Op.eqItems]
 | cons i l ih=>
  intro h
  have hi:=h i (by simp)
  have hp : ∀ (cs : Array Value) (zs : List UInt8) (hz : zs.length = n),cs.toList = zs.map (fun b=>Value.int .u8 b.toNat) -> (part e cs (i * 1)).run P w = .ok (.int .u8 (zs[i]'(by omega)).toNat) w:=by
   intro cs zs hz hc
   have hi' : i < cs.size:=by
    have:=congrArg List.length hc
    simp at this; omega
   have : cs[i] = .int .u8 (zs[i]'(by omega)).toNat:=by
    have e1 : cs.toList[i]'(by simpa using hi') = (zs.map (fun b=>Value.int .u8 b.toNat))[i]'(by simp; omega):=by simp only [hc]
    simpa using e1
   simp [part,LdT.agg (P:=P) (t:=e),hi',this]
  have e3:=hp cx xs hx h1
  have e4:=hp cy ys hy h2
  obtain ⟨k,hku⟩ : ∃ k,P.underlying e = some (.int k):=⟨_,hk.u⟩
  have e5:=run_equalIn_int (P:=P) w d e .u8 k (xs[i]'(by omega)).toNat (ys[i]'(by omega)).toNat hku
  have ex : xs[i]? = some (xs[i]'(by omega)):=List.getElem?_eq_getElem _
  have ey : ys[i]? = some (ys[i]'(by omega)):=List.getElem?_eq_getElem _
  have eb : ((((xs[i]'(by omega)).toNat : Int)) == (((ys[i]'(by omega)).toNat : Int))) = (xs[i]? == ys[i]?):=by
   rw [ex,ey,beq_u8]; rfl
  have ih':=ih (fun j hj=>h j (List.mem_cons_of_mem _ hj))
  simp only [Op.eqItems,Sem.run_bind,e3,e4,e5,Result.andThen_ok,eb,List.all_cons]
  cases hb : (xs[i]? == ys[i]?) with
  | true=>simpa using ih'
  | false=>simp
theorem all_eq (n : Nat) (xs ys : List UInt8) (hx : xs.length = n) (hy : ys.length = n) : ((List.range n).all fun i=>xs[i]? == ys[i]?) = (xs == ys):=by
 rw [Bool.eq_iff_iff]
 simp only [List.all_eq_true,List.mem_range,beq_iff_eq]
 constructor
 · intro h
   apply List.ext_getElem?
   intro i
   by_cases hi : i < n
   · exact h i hi
   · rw [List.getElem?_eq_none (by omega),List.getElem?_eq_none (by omega)]
 · rintro rfl i _; rfl
theorem arr_u8 {G L : Nat -> Prop} {p : Bool} {n : Nat} {xs : List UInt8} {cs : List Value} {F : List Nat} (h : Rc w ρ G L p (.arr n 1 (xs.map .u8)) cs F) : xs.length = n /\ cs = xs.map (fun b=>Value.int .u8 b.toNat):=by
 cases h with
 | arr _ _ _ _ hl hs hr=>
  have hl' : xs.length = n:=by simpa using hl
  refine ⟨hl', ?_⟩
  apply List.ext_getElem?
  intro i
  by_cases hi : i < n
  · have hic : i < cs.length:=by omega
    have:=hr i (by simp; omega)
    rw [Nat.mul_one,List.drop_eq_getElem_cons hic,List.take_succ_cons,List.take_zero] at this
    simp only [List.getElem_map] at this
    rw [List.getElem?_eq_getElem hic,List.getElem?_eq_getElem (by simp; omega)]
    generalize hc : [cs[i]] = c at this
    cases this
    simp at hc
    simp [hc]
  · rw [List.getElem?_eq_none (by omega),List.getElem?_eq_none (by simp; omega)]
theorem R.eqA {neg : Bool} {x y : Operand} {t e n : Nat} {xs ys : List UInt8} {xt yt ty : TypeId} [hT : ArT P xt n e] [hk : IkT P e .u8] [hL : LdT P e 1 false] [hE : EqT P xt]
 (hx : ev C.gl σ x = some (.arr n 1 (xs.map .u8))) (hy : ev C.gl σ y = some (.arr n 1 (ys.map .u8))) (ht : t < σ.n) :
 OpS P C ⟨some t,.binOp (bif neg then .neq else .eql) xt x y yt,ty,pos,aft,g⟩ σ (σ.set t (.bool (bif neg then xs != ys else xs == ys))):=by
 refine OpS.value fun a w ⟨ρ,Fe,Fb,st⟩=>?_
 obtain ⟨Fx,hvx,_⟩:=ev_ok st hx rfl
 obtain ⟨Fy,hvy,_⟩:=ev_ok st hy rfl
 simp only [VR,D.isAgg,if_true] at hvx hvy
 obtain ⟨cx,hex,hvx⟩:=hvx
 obtain ⟨cy,hey,hvy⟩:=hvy
 obtain ⟨hlx,hcx⟩:=arr_u8 hvx
 obtain ⟨hly,hcy⟩:=arr_u8 hvy
 obtain ⟨d,i,_,_,hi,hsz⟩:=hL.i
 have hce : P.cellsOf e = 1:=by simp [Program.cellsOf,hi,hsz]
 have heq : (Op.equalIn 10000 xt (.agg cx) (.agg cy)).run P w = .ok (xs == ys) w:=by
  rw [show (10000 : Nat) = 9999 + 1 from rfl,run_equalIn_array w 9999 cx cy hT.u hi,hce,show (9999 : Nat) = 9998 + 1 from rfl,
   run_eqItems_u8 (P:=P) w 9998 xs ys n hlx hly cx cy hcx hcy _ (fun i hi=>List.mem_range.1 hi),all_eq n xs ys hlx hly]
 refine ⟨.bool (bif neg then xs != ys else xs == ys),w, ?_,st.put ht rfl ?_⟩
 · unfold execOp
   cases neg with
   | false=>simp only [cond_false,hex,hey,Sem.run_bind,run_eqGuard_agg w .eql xt x y cx cy hE.i,run_eql_struct,heq,Result.andThen_ok,Sem.run_pure]
   | true=>simp only [cond_true,hex,hey,Sem.run_bind,run_eqGuard_agg w .neq xt x y cx cy hE.i,run_neq_struct,heq,Result.andThen_ok,Sem.run_pure]; rfl
 · simp only [VR,D.isAgg,Bool.false_eq_true,if_false]; exact .bool _
end Go.Sx

namespace Go.Sx
variable {P : Program} {C : Ctx} {σ σ' σ1 : Sg} {a : Act} {w w' : World} {ρ : Nat -> Nat} {Fe Fe' Fb : Nat -> List Nat}
theorem splice_nest (cs xs : List Value) (off M p : Nat) (h1 : off + M <= cs.length) (h2 : p + xs.length <= M) :
 cs.take off ++ (((cs.drop off).take M).take p ++ xs ++ ((cs.drop off).take M).drop (p + xs.length)) ++ cs.drop (off + M) = cs.take (off + p) ++ xs ++ cs.drop (off + p + xs.length):=by
 have e1 : cs.take off ++ ((cs.drop off).take M).take p = cs.take (off + p):=by
  rw [List.take_take,Nat.min_eq_left (by omega),<- List.take_add]
 have e2 : ((cs.drop off).take M).drop (p + xs.length) ++ cs.drop (off + M) = cs.drop (off + p + xs.length):=by
  rw [List.drop_take,List.drop_drop]
  have:=List.take_append_drop (M - (p + xs.length)) (cs.drop (off + (p + xs.length)))
  rw [List.drop_drop,show off + (p + xs.length) + (M - (p + xs.length)) = off + M by omega] at this
  rw [this,Nat.add_assoc]
 rw [<- e1,<- e2]
 simp only [List.append_assoc]
theorem R.cpA {s t e z bytes id off n lo m : Nat} {path : List Nat} {d0 d' : D} {l l' : List D} {x : Operand} {ty ty2 rt : TypeId} {pos : String} {aft : Array Edge} {g : Option (Nat × Bool)} [hT : SlT P ty e] [hE : ElT P e z bytes]
 (h : σ.get s = some (.va id off z n path lo)) (hb : σ.box id = some (.var d0)) (hl : d0.loc path = some (off,.arr m z l)) (hlo : lo + n <= m) (hx : SrcO C.gl σ x z l') (hnp : ∀ y ∈ l',y.np = true) (ht : t < σ.n)
 (hu : d0.upd path (.arr m z (l.take lo ++ l'.take (min l'.length n) ++ l.drop (lo + min l'.length n))) = some d') :
 OpS P C ⟨some t,.call { callee:=.builtin .copy,args:=#[.tmp s,x],argTypes:=#[ty,ty2] },rt,pos,aft,g⟩ σ ((σ.putB id (.var d')).set t (.int (min l'.length n : Nat))):=by
 refine OpS.value fun a w ⟨ρ,Fe,Fb,st⟩=>?_
 obtain ⟨_,hid,cap,o',hcap,ho',hv⟩:=st.env _ _ h
 obtain ⟨cs,e',F',hb',hr,hFb⟩:=st.bx _ _ hb
 obtain ⟨base,cap2,hxe,hsr,hp⟩:=hx.ok st
 obtain ⟨_,news,q1,q2,q3,q4⟩:=src_ok hsr hp
 obtain ⟨Fa,h1,h2,h3⟩:=hr.loc hl
 have hFa:=h1.pur rfl
 subst hFa
 have hnd : F'.Nodup:=by have:=st.nodB id; rw [hFb] at this; exact (List.nodup_cons.1 this).2
 generalize hk : min l'.length n = k at hu
 have hkn : k <= n:=by omega
 have hkl : k <= l'.length:=by omega
 have hkz : k * z <= l'.length * z:=Nat.mul_le_mul_right z hkl
 have hxl : (news.take (k * z)).length = k * z:=by simp; omega
 have hlm : lo * z + k * z <= m * z:=by rw [<- Nat.add_mul]; exact Nat.mul_le_mul_right z (by omega)
 cases h1 with
 | arr _ _ _ A hlm' hA hrA=>
 simp only [sz_arr] at h3 hA hrA
 -- the array behind
 have hrc : Rc w ρ (gd C Fe Fb) (fun id=>(σ.box id).isSome) false (.arr m z (l.take lo ++ l'.take k ++ l.drop (lo + k)))
  (((cs.toList.drop off).take (m * z)).take (lo * z) ++ news.take (k * z) ++ ((cs.toList.drop off).take (m * z)).drop (lo * z + (news.take (k * z)).length)) []:=by
  have hp0 : lo * z + (news.take (k * z)).length <= ((cs.toList.drop off).take (m * z)).length:=by rw [hxl,hA]; exact hlm
  refine .arr m z _ _ (by simp; omega) (by rw [splice_len _ _ _ hp0,hA]) (fun i hi=>?_)
  have hi' : i < m:=by simp at hi; omega
  have hiz : i * z + z <= m * z:=by
   have:=Nat.mul_le_mul_right z (show i + 1 <= m by omega)
   rw [Nat.add_mul] at this; omega
  rcases Nat.lt_or_ge i lo with h5 | h5
  · have e1 : (l.take lo ++ l'.take k ++ l.drop (lo + k))[i] = l[i]'(by omega):=by
     rw [List.getElem_append_left (by simp; omega),List.getElem_append_left (by simp; omega),List.getElem_take]
    have h6 : (i + 1) * z <= lo * z:=Nat.mul_le_mul_right z h5
    rw [Nat.add_mul] at h6
    rw [e1,splice_out _ _ _ _ _ hp0 (.inl (by omega))]
    exact hrA i (by omega)
  · rcases Nat.lt_or_ge i (lo + k) with h6 | h6
    · have e1 : (l.take lo ++ l'.take k ++ l.drop (lo + k))[i] = l'[i - lo]'(by omega):=by
       have h7 : (l.take lo).length = lo:=by simp; omega
       rw [List.getElem_append_left (by simp; omega),List.getElem_append_right (by omega),List.getElem_take]
       simp only [h7]
      have h8:=part_right (((cs.toList.drop off).take (m * z)).take (lo * z)) (news.take (k * z)) (((cs.toList.drop off).take (m * z)).drop (lo * z + (news.take (k * z)).length)) (i - lo) lo k z (by rw [List.length_take,hA]; omega) hxl (by omega)
      rw [show lo + (i - lo) = i by omega,<- List.append_assoc] at h8
      rw [e1,h8]
      have h9:=part_left (news.take (k * z)) (news.drop (k * z)) (i - lo) k z hxl (by omega)
      rw [List.take_append_drop] at h9
      rw [<- h9]
      exact q4 (i - lo) (by omega)
    · have e1 : (l.take lo ++ l'.take k ++ l.drop (lo + k))[i] = l[i]'(by omega):=by
       have h7 : (l.take lo ++ l'.take k).length = lo + k:=by simp; omega
       rw [List.getElem_append_right (by omega),List.getElem_drop]
       simp only [h7,show lo + k + (i - (lo + k)) = i by omega]
      have h7 : (lo + k) * z <= i * z:=Nat.mul_le_mul_right z h6
      rw [Nat.add_mul] at h7
      rw [e1,splice_out _ _ _ _ _ hp0 (.inr (by rw [hxl]; exact h7))]
      exact hrA i (by omega)
 obtain ⟨F2,g1,g2,g3,g4,g5⟩:=hr.upd hl hu (by simp) hrc hnd List.nodup_nil (by simp) (.inl rfl)
 have hsp : (((cs.toList.drop off).take (m * z)).take (lo * z) ++ news.take (k * z) ++ ((cs.toList.drop off).take (m * z)).drop (lo * z + (news.take (k * z)).length)).length = m * z:=by
  rw [splice_len _ _ _ (by rw [hxl,hA]; exact hlm),hA]
 rw [hsp,splice_nest _ _ _ _ _ h3 (by rw [hxl]; exact hlm)] at g1
 have hnode : ρ id ∉ F2:=fun hm=>by
  have:=st.nodB id
  rw [hFb] at this
  exact (List.nodup_cons.1 this).1 ((g2 _ hm).resolve_right (by simp))
 have st2:=st.putB (x:=.var d') (Fe':=Fe) (σ1:=σ) (F':=ρ id :: F2) (w':=w.setRow (ρ id) (cs.toList.take (off + lo * z) ++ news.take (k * z) ++ cs.toList.drop (off + lo * z + (news.take (k * z)).length)).toArray)
  hb rfl rfl (fun u d hd=>.inl ⟨hd,rfl⟩) st.envN (fun u=>.inl rfl) rfl rfl rfl (by simp) (fun b hbne=>setRow_other w (ρ id) b _ hbne) (List.nodup_cons.2 ⟨hnode,g3⟩) (by simp)
  (fun b hbm=>.inl (by
   rw [hFb]
   rcases List.mem_cons.1 hbm with rfl | hm
   · simp
   · exact List.mem_cons_of_mem _ ((g2 b hm).resolve_right (by simp))))
  ⟨_,e',F2,setRow_heap w (ρ id) cs _ e' (0,0) hb',by
   simp only
   refine g1.mono (fun b hbb _=>setRow_other w (ρ id) b _ ?_) (fun b hbb _=>⟨hbb.1,fun ho=>hbb.2 ?_⟩) (fun i hi=>⟨hi,rfl⟩)
   · rintro rfl
     rcases hbb with hbb | hbb
     · exact hbb.2 (.inr ⟨id,by rw [hFb]; simp⟩)
     · exact hnode hbb
   · rcases ho with ⟨u,hu⟩ | ⟨i,hi⟩
     · exact .inl ⟨u,hu⟩
     · by_cases hid : i = id
       · subst hid
         rw [upd_same] at hi
         refine .inr ⟨i, ?_⟩
         rw [hFb]
         rcases List.mem_cons.1 hi with rfl | hm
         · simp
         · exact List.mem_cons_of_mem _ ((g2 b hm).resolve_right (by simp))
       · rw [upd_other hid] at hi; exact .inr ⟨i,hi⟩,rfl⟩
 refine ⟨.int .i64 (k : Nat),w.setRow (ρ id) (cs.toList.take (off + lo * z) ++ news.take (k * z) ++ cs.toList.drop (off + lo * z + (news.take (k * z)).length)).toArray, ?_, ?_⟩
 rotate_left
 · exact st2.put (t:=t) (d:=.int (k : Nat)) (v:=.int .i64 (k : Nat)) (by simpa using ht) rfl (by simp only [VR,D.isAgg,Bool.false_eq_true,if_false]; exact .int _)
 · have hfc : (Builtin.firstCells z k (.slice base l'.length cap2)).run P w = .ok (news.take (k * z)).toArray w:=by
    rcases q1 with ⟨rfl,rfl,rfl⟩ | ⟨ad,rfl,hn⟩
    · have : k = 0:=by simp at hkl; exact hkl
      subst this
      simp [Builtin.firstCells]
    · refine run_firstCells_some w z k ad l'.length cap2 _ hxl (fun j u hu=>hn j u ?_)
      rw [List.getElem?_take] at hu
      split at hu
      · exact hu
      · cases hu
   have hst : (storeCells ⟨ρ id,o',none⟩ (news.take (k * z)) 0).run P w = .ok () (w.setRow (ρ id) (cs.toList.take (off + lo * z) ++ news.take (k * z) ++ cs.toList.drop (off + lo * z + (news.take (k * z)).length)).toArray):=by
    rcases ho' with rfl | ⟨rfl,rfl⟩
    · have:=run_storeCells_at P (ρ id) (off + lo * z) e' (news.take (k * z)) 0 cs w hb' (by
       rw [hxl]
       simp only [Array.length_toList] at h3
       omega) (fun u hu=>q3 u (List.mem_of_mem_take hu))
      simpa using this
    · have hk0 : k = 0:=by omega
      subst hk0
      simp only [Nat.zero_mul,List.take_zero,List.append_nil,List.length_nil,Nat.add_zero,List.take_append_drop,Array.toArray_toList]
      rw [setRow_self w (ρ id) cs e' (0,0) hb']
      rfl
   unfold execOp
   have hmin : Nat.min l'.length n = k:=hk
   simp [resolve,invoke,builtin,Builtin.copy_,run_underlying hT.u,eval_tmp hv,hxe,Builtin.lenOf,ElT.size (P:=P) (e:=e),hmin,hfc,hst,goInt]
end Go.Sx

namespace Go.Sx
variable {pos : String} {aft : Array Edge} {g : Option (Nat × Bool)}
variable {P : Program} {C : Ctx} {σ σ' σ1 : Sg} {a : Act} {w w' : World} {ρ : Nat -> Nat} {Fe Fe' Fb : Nat -> List Nat}
class BaT (P : Program) (t : TypeId) (n e z : outParam Nat) : Prop where
 i : ∃ it zv ie,P.underlying t = some (.array n e) /\ P.info? t = some it /\ it.zero = some zv /\ P.info? e = some ie /\ ie.size = z /\ zv.cells.size = n * z
theorem R.bldA {t n e z : Nat} {ps : List (Nat × Operand)} {ds : List D} {ty rt : TypeId} [hT : BaT P ty n e z]
 (hps : evs C.gl σ ps 0 = some ds) (hp : PurZ z ds) (hk : ds.length = n) (ht : t < σ.n) :
 OpS P C ⟨some t,.build ty ps.toArray,rt,pos,aft,g⟩ σ (σ.set t (.arr n z ds)):=by
 refine OpS.value fun a w ⟨ρ,Fe,Fb,st⟩=>?_
 obtain ⟨it,zv,ie,h1,h2,h3,h4,h5,h6⟩:=hT.i
 subst hk
 obtain ⟨out,q1,q2,q3,q4⟩:=fill_run (w:=w) (ρ:=ρ) (z:=z) (fun x d h hp=>ev_cells st h hp) ps 0 ds zv.cells hps hp (by rw [h6]; simp)
 simp only [Nat.zero_add] at q4
 have hps2 : (ps.toArray.map fun x=>(x.1,a.eval x.2)).toList = ps.map (fun p=>(p.1,a.eval p.2)):=by simp
 have hpur : (D.arr ds.length z ds).pur = true:=rfl
 refine ⟨.agg out,w, ?_,st.put ht rfl ?_⟩
 · have:=run_build (P:=P) w ty (ps.toArray.map fun x=>(x.1,a.eval x.2)) out (by
    rw [hps2]
    simp only [Program.built,h1,h2,h3,h4,h5]
    exact q1)
   unfold execOp
   simp only [Sem.run_bind,this,Result.andThen_ok,Sem.run_pure]
 · simp only [VR,D.isAgg,if_true]
   exact ⟨out,rfl,.arr _ _ _ _ rfl (by simp [q2,h6]) q4⟩
def offl : List D -> Nat -> List (Nat × Nat)
 | [],_=>[]
 | d :: r,o=>(o,d.sz) :: offl r (o + d.sz)
theorem offl_get (l : List D) (o i : Nat) (h : i < l.length) : (offl l o)[i]? = some (o + offk l i,l[i].sz):=by
 induction l generalizing o i with
 | nil=>simp at h
 | cons d r ih=>
  cases i with
  | zero=>simp [offl,offk]
  | succ i=>
   simp only [offl,List.getElem?_cons_succ]
   rw [ih (o + d.sz) i (by simpa using h)]
   simp [offk_succ,Nat.add_assoc]
class BsT (P : Program) (t : TypeId) (l : outParam (List D)) : Prop where
 i : ∃ fs it zv,P.underlying t = some (.struct fs) /\ P.info? t = some it /\ it.zero = some zv /\ fs.toList.mapM (fun f=>(P.info? f.type).map fun i=>(f.offset,i.size)) = some (offl l 0) /\ chk (.agg l) zv.cells.toList = true
def evsS (gl : List (Nat × D)) (σ : Sg) : List (Nat × Operand) -> List D -> Option (List D)
 | [],l=>some l
 | (i,x) :: r,l=>match ev gl σ x with
  | some d=>evsS gl σ r (l.set i d)
  | none=>none
def PurS (gl : List (Nat × D)) (σ : Sg) (l : List D) : List (Nat × Operand) -> Prop
 | []=>True
 | (i,x) :: r=>(∃ d,ev gl σ x = some d /\ d.pur = true /\ d.np = true /\ (l[i]?).map D.sz = some d.sz) /\ PurS gl σ l r
theorem fill_struct {G L : Nat -> Prop} {gl : List (Nat × D)} {l0 : List D} (hv : ∀ x d,ev gl σ x = some d -> d.pur = true -> ∃ cs : List Value,(a.eval x).cells.toList = cs /\ Rc w ρ G L true d cs []) :
 ∀ (ps : List (Nat × Operand)) (l l' : List D) (cs : Array Value),evsS gl σ ps l = some l' -> PurS gl σ l0 ps -> l.map D.sz = l0.map D.sz -> Rc w ρ G L false (.agg l) cs.toList [] ->
  ∃ out : Array Value,Instr.fill ((offl l0 0).toArray[·]?) cs (ps.map (fun p=>(p.1,a.eval p.2))) = some out /\ Rc w ρ G L false (.agg l') out.toList []:=by
 intro ps
 induction ps with
 | nil=>intro l l' cs h _ _ hr; simp only [evsS,Option.some.injEq] at h; subst h; exact ⟨cs,rfl,hr⟩
 | cons p ps ih=>
  intro l l' cs h hp hz hr
  obtain ⟨i,x⟩:=p
  obtain ⟨⟨d,hx,p1,p2,p3⟩,p4⟩:=hp
  simp only [evsS,hx] at h
  obtain ⟨xc,hxc,hrc⟩:=hv x d hx p1
  have hlen:=hrc.len
  cases hl0 : l0[i]? with
  | none=>rw [hl0] at p3; cases p3
  | some d0=>
   obtain ⟨hi,rfl⟩:=List.getElem?_eq_some_iff.1 hl0
   rw [hl0] at p3
   simp only [Option.map_some,Option.some.injEq] at p3
   have hll : l.length = l0.length:=by have:=congrArg List.length hz; simpa using this
   have hi2 : i < l.length:=by omega
   have hsi : l[i].sz = d.sz:=by
    have : (l.map D.sz)[i]'(by simpa using hi2) = (l0.map D.sz)[i]'(by simpa using hi):=by simp only [hz]
    simp at this
    omega
   have hoff : offk l i = offk l0 i:=by
    have hs : ∀ (u v : List D),u.map D.sz = v.map D.sz -> D.szs u = D.szs v:=by
     intro u
     induction u with
     | nil=>intro v hv; cases v <;> simp_all
     | cons a u ihu=>intro v hv; cases v with
      | nil=>simp at hv
      | cons b v=>simp at hv; simp [hv.1,ihu v hv.2]
    unfold offk
    exact hs _ _ (by rw [List.map_take,List.map_take,hz])
   have hlo:=offk_lt l i hi2
   have hcl:=hr.len
   simp only [sz_agg,Array.length_toList] at hcl
   have hloc : (D.agg l).loc [i] = some (offk l i,l[i]):=by simp [D.loc,List.getElem?_eq_getElem hi2]
   have hupd : (D.agg l).upd [i] d = some (.agg (l.set i d)):=by simp [D.upd,List.getElem?_eq_getElem hi2]
   obtain ⟨F2,g1,g2,_⟩:=hr.upd hloc hupd hsi.symm (hrc.unflag p2) List.nodup_nil List.nodup_nil (by simp) (.inl rfl)
   have hF2 : F2 = []:=by
    cases F2 with
    | nil=>rfl
    | cons b r=>have:=g2 b (by simp); simp at this
   subst hF2
   have hfold:=foldl_set cs xc (offk l i) 0 (by omega)
   simp only [Nat.add_zero] at hfold
   have hcs2 : ((a.eval x).cells.zipIdx.foldl (fun (c : Array Value) (p : Value × Nat)=>c.setIfInBounds (offk l i + p.2) p.1) cs).toList = cs.toList.take (offk l i) ++ xc ++ cs.toList.drop (offk l i + xc.length):=by
    rw [<- hfold,<- hxc,<- Array.foldl_toList]
    simp
   rw [<- hcs2] at g1
   obtain ⟨out,q1,q2⟩:=ih (l.set i d) l' _ h p4 (by
    rw [List.map_set,<- hsi]
    rw [<- hz]
    apply List.ext_getElem?
    intro j
    rw [List.getElem?_set]
    split
    · rename_i hij
      subst hij
      simp [hi2]
    · rfl) g1
   refine ⟨out, ?_,q2⟩
   simp only [List.map_cons,Instr.fill]
   have hpl : (offl l0 0).toArray[i]? = some (offk l i,d.sz):=by
    rw [List.getElem?_toArray,offl_get l0 0 i hi,hoff,Nat.zero_add,<- p3]
   have hsz : (a.eval x).cells.size = d.sz:=by rw [<- Array.length_toList,hxc,hlen]
   simp only [hpl,hsz]
   rw [if_neg (by simp; omega)]
   exact q1
theorem R.bldS {t : Nat} {ps : List (Nat × Operand)} {l l' : List D} {ty rt : TypeId} [hT : BsT P ty l]
 (hps : evsS C.gl σ ps l = some l') (hp : PurS C.gl σ l ps) (ht : t < σ.n) :
 OpS P C ⟨some t,.build ty ps.toArray,rt,pos,aft,g⟩ σ (σ.set t (.agg l')):=by
 refine OpS.value fun a w ⟨ρ,Fe,Fb,st⟩=>?_
 obtain ⟨fs,it,zv,h1,h2,h3,h4,h5⟩:=hT.i
 obtain ⟨out,q1,q2⟩:=fill_struct (w:=w) (ρ:=ρ) (l0:=l) (fun x d h hp=>ev_cells st h hp) ps l l' zv.cells hps hp rfl (chk_ok _ _ _ _ _ _ h5)
 have hps2 : (ps.toArray.map fun x=>(x.1,a.eval x.2)).toList = ps.map (fun p=>(p.1,a.eval p.2)):=by simp
 refine ⟨.agg out,w, ?_,st.put ht rfl ?_⟩
 · have:=run_build (P:=P) w ty (ps.toArray.map fun x=>(x.1,a.eval x.2)) out (by
    rw [hps2]
    simp only [Program.built,h1,h2,h3,h4]
    exact q1)
   unfold execOp
   simp only [Sem.run_bind,this,Result.andThen_ok,Sem.run_pure]
 · simp only [VR,D.isAgg,if_true]
   exact ⟨out,rfl,q2.flag⟩
end Go.Sx

namespace Go.Sx
variable {P : Program} {C : Ctx} {σ σ' σ1 : Sg} {xt yt ty : TypeId} {x y : Operand} {t : Nat} {pos : String} {aft : Array Edge} {g : Option (Nat × Bool)}
theorem evt {gl : List (Nat × D)} {σ : Sg} {s : Nat} {d : D} (h : σ.get s = some d) : ev gl σ (.tmp s) = some d:=h
theorem R.addN (m n : Nat) (hx : ev C.gl σ x = some (.int (m : Int))) (hy : ev C.gl σ y = some (.int (n : Int))) (h : m + n < 9223372036854775808) (ht : t < σ.n) :
 OpS P C ⟨some t,.binOp .add xt x y yt,ty,pos,aft,g⟩ σ (σ.set t (.int ((m + n : Nat) : Int))):=
 R.binE hx hy rfl trivial (wr_eq (by omega) (by omega) (by omega)) ht
theorem R.subN (m n : Nat) (hx : ev C.gl σ x = some (.int (m : Int))) (hy : ev C.gl σ y = some (.int (n : Int))) (h : n <= m) (h2 : m < 9223372036854775808) (ht : t < σ.n) :
 OpS P C ⟨some t,.binOp .sub xt x y yt,ty,pos,aft,g⟩ σ (σ.set t (.int ((m - n : Nat) : Int))):=
 R.binE hx hy rfl trivial (wr_eq (by omega) (by omega) (by omega)) ht
theorem R.mulN (m n : Nat) (hx : ev C.gl σ x = some (.int (m : Int))) (hy : ev C.gl σ y = some (.int (n : Int))) (h : m * n < 9223372036854775808) (ht : t < σ.n) :
 OpS P C ⟨some t,.binOp .mul xt x y yt,ty,pos,aft,g⟩ σ (σ.set t (.int ((m * n : Nat) : Int))):=
 R.binE hx hy rfl trivial (wr_eq (by rw [Int.natCast_mul]) (by have : (0 : Int) <= ((m * n : Nat) : Int):=Int.natCast_nonneg _; omega) (by omega)) ht
theorem R.quoN (m n : Nat) (hx : ev C.gl σ x = some (.int (m : Int))) (hy : ev C.gl σ y = some (.int (n : Int))) (h : 0 < n) (h2 : m < 9223372036854775808) (ht : t < σ.n) :
 OpS P C ⟨some t,.binOp .quo xt x y yt,ty,pos,aft,g⟩ σ (σ.set t (.int ((m / n : Nat) : Int))):=
 R.binE hx hy rfl (show (n : Int) ≠ 0 by omega) (wr_eq (by rw [Int.ofNat_tdiv]) (by have : (0 : Int) <= ((m / n : Nat) : Int):=Int.natCast_nonneg _; omega) (by have:=Nat.div_le_self m n; omega)) ht
theorem R.remN (m n : Nat) (hx : ev C.gl σ x = some (.int (m : Int))) (hy : ev C.gl σ y = some (.int (n : Int))) (h : 0 < n) (ht : t < σ.n) :
 OpS P C ⟨some t,.binOp .rem xt x y yt,ty,pos,aft,g⟩ σ (σ.set t (.int ((m % n : Nat) : Int))):=
 R.binE hx hy rfl (show (n : Int) ≠ 0 by omega) (congrArg D.int (by rw [Int.ofNat_tmod])) ht
theorem R.lssN (m n : Nat) (hx : ev C.gl σ x = some (.int (m : Int))) (hy : ev C.gl σ y = some (.int (n : Int))) (ht : t < σ.n) :
 OpS P C ⟨some t,.binOp .lss xt x y yt,ty,pos,aft,g⟩ σ (σ.set t (.bool (decide (m < n)))):=R.binE hx hy rfl trivial (congrArg D.bool (by rw [Bool.eq_iff_iff]; simp)) ht
theorem R.leqN (m n : Nat) (hx : ev C.gl σ x = some (.int (m : Int))) (hy : ev C.gl σ y = some (.int (n : Int))) (ht : t < σ.n) :
 OpS P C ⟨some t,.binOp .leq xt x y yt,ty,pos,aft,g⟩ σ (σ.set t (.bool (decide (m <= n)))):=R.binE hx hy rfl trivial (congrArg D.bool (by rw [Bool.eq_iff_iff]; simp)) ht
theorem R.gtrN (m n : Nat) (hx : ev C.gl σ x = some (.int (m : Int))) (hy : ev C.gl σ y = some (.int (n : Int))) (ht : t < σ.n) :
 OpS P C ⟨some t,.binOp .gtr xt x y yt,ty,pos,aft,g⟩ σ (σ.set t (.bool (decide (n < m)))):=R.binE hx hy rfl trivial (congrArg D.bool (by rw [Bool.eq_iff_iff]; simp)) ht
theorem R.geqN (m n : Nat) (hx : ev C.gl σ x = some (.int (m : Int))) (hy : ev C.gl σ y = some (.int (n : Int))) (ht : t < σ.n) :
 OpS P C ⟨some t,.binOp .geq xt x y yt,ty,pos,aft,g⟩ σ (σ.set t (.bool (decide (n <= m)))):=R.binE hx hy rfl trivial (congrArg D.bool (by rw [Bool.eq_iff_iff]; simp)) ht
theorem R.eqlN (m n : Nat) (hx : ev C.gl σ x = some (.int (m : Int))) (hy : ev C.gl σ y = some (.int (n : Int))) (ht : t < σ.n) :
 OpS P C ⟨some t,.binOp .eql xt x y yt,ty,pos,aft,g⟩ σ (σ.set t (.bool (decide (m = n)))):=R.binE hx hy rfl trivial (congrArg D.bool (by rw [Bool.eq_iff_iff]; simp; omega)) ht
theorem R.neqN (m n : Nat) (hx : ev C.gl σ x = some (.int (m : Int))) (hy : ev C.gl σ y = some (.int (n : Int))) (ht : t < σ.n) :
 OpS P C ⟨some t,.binOp .neq xt x y yt,ty,pos,aft,g⟩ σ (σ.set t (.bool (decide (m ≠ n)))):=R.binE hx hy rfl trivial (congrArg D.bool (by rw [Bool.eq_iff_iff]; simp; omega)) ht
theorem map_get! {α : Type} [Inhabited α] {f : α -> D} {l : List α} {i : Nat} (h : i < l.length) : (l.map f)[i]? = some (f l[i]!):=by
 rw [List.getElem?_map,List.getElem?_eq_getElem h]
 simp [h]
theorem W.condD {Q : Exit -> Sg -> Prop} {x y : Code} {t : Nat} {p : Prop} [Decidable p] (ht : σ.get t = some (.bool (decide p))) (h1 : p -> W P C x Q σ) (h2 : ¬ p -> W P C y Q σ) : W P C (.cond (.tmp t) x y) Q σ:=
 W.cond ht (fun h=>h1 (of_decide_eq_true h)) (fun h=>h2 (of_decide_eq_false h))
theorem W.condT {Q : Exit -> Sg -> Prop} {x y : Code} {t : Nat} {b : Bool} (ht : σ.get t = some (.bool b)) (hb : b = true) (h1 : W P C x Q σ) : W P C (.cond (.tmp t) x y) Q σ:=
 W.cond ht (fun _=>h1) (fun h=>by rw [hb] at h; cases h)
theorem W.condF {Q : Exit -> Sg -> Prop} {x y : Code} {t : Nat} {b : Bool} (ht : σ.get t = some (.bool b)) (hb : b = false) (h1 : W P C y Q σ) : W P C (.cond (.tmp t) x y) Q σ:=
 W.cond ht (fun h=>by rw [hb] at h; cases h) (fun _=>h1)
theorem W.seqM {Q : Exit -> Sg -> Prop} {x y : Code} (M : Sg -> Prop) (h1 : W P C x (fun e s=>match e with | .normal=>M s | e=>Q e s) σ) (h2 : ∀ s,M s -> W P C y Q s) : W P C (.seq x y) Q σ:=
 W.seq (h1.mono (fun e s h=>by cases e <;> first | exact h2 s h | exact h))
theorem Ends.one' {rv : ResultVar} {r r' : D} {e : Exit} {σ : Sg} (he : e = .normal ∨ e = .ret) (h : outS σ rv = some r') (hr : r' = r) (h1 : r.isRef = false) (h2 : r.np = true) (h3 : RtT P r rv) : Ends [rv] P r e σ:=by
 subst hr; exact ⟨he,h,h1,h2,h3⟩
theorem evg {gl : List (Nat × D)} {gg : Nat} {d : D} (hC : C.gl = gl) (h : lk gl gg = some d) : ev C.gl σ (.global gg) = some (.rp d):=by
 rw [hC]; simp only [ev,h,Option.map_some]
theorem evoI {gl : List (Nat × D)} {n m : Int} (h : ev gl σ x = some (.int n)) : evo gl σ (some x) m = some n:=by simp only [evo,h,D.cnt]
theorem evo32 {gl : List (Nat × D)} {n : UInt32} {m : Int} (h : ev gl σ x = some (.u32 n)) : evo gl σ (some x) m = some (n.toNat : Int):=by simp only [evo,h,D.cnt]
theorem evo64 {gl : List (Nat × D)} {n : UInt64} {m : Int} (h : ev gl σ x = some (.u64 n)) : evo gl σ (some x) m = some (n.toNat : Int):=by simp only [evo,h,D.cnt]
theorem brw_map {α : Type} {f : α -> D} {l : List α} (h : ∀ x,(f x).brw = f x) : (l.map f).map D.brw = l.map f:=by simp [Function.comp_def,h]
theorem frs_map {α : Type} {f : α -> D} {l : List α} (h : ∀ x,Frs (f x)) : ∀ x ∈ l.map f,Frs x:=by
 intro x hx
 obtain ⟨y,_,rfl⟩:=List.mem_map.1 hx
 exact h y
theorem pur_map {α : Type} {f : α -> D} {l : List α} (h : ∀ x,(f x).pur = true) : ∀ x ∈ l.map f,x.pur = true:=by
 intro x hx
 obtain ⟨y,_,rfl⟩:=List.mem_map.1 hx
 exact h y
theorem np_map {α : Type} {f : α -> D} {l : List α} (h : ∀ x,(f x).np = true) : ∀ x ∈ l.map f,x.np = true:=by
 intro x hx
 obtain ⟨y,_,rfl⟩:=List.mem_map.1 hx
 exact h y
theorem frs_nil : ∀ x ∈ ([] : List D),Frs x:=fun _ h=>by cases h
theorem frs_cons {d : D} {l : List D} (h : Frs d) (hl : ∀ x ∈ l,Frs x) : ∀ x ∈ d :: l,Frs x:=fun x hx=>by
 rcases List.mem_cons.1 hx with rfl | hx
 · exact h
 · exact hl x hx
theorem FrsR.one {r : D} (h : Frs r) : FrsR r:=.inr ⟨fun ds e=>(by rw [e] at h; cases h),h⟩
theorem R.callG {f : FuncId} [CaT P f] {gl : List (Nat × D)} {args : List Operand} {tys : Array TypeId} {rt : TypeId} {ds : List D} {r : D}
 (hC : C.gl = gl) (hF : Fn P gl f ds r) (hb : Bors C.gl σ args ds) (hr : FrsR r) (ht : t < σ.n) :
 OpS P C ⟨some t,.call { callee:=.value (.func f),args:=args.toArray,argTypes:=tys },rt,pos,aft,g⟩ σ (σ.set t r):=by
 subst hC; exact R.call hF hb hr ht
theorem W.asOwn {c : Code} {Q : Exit -> Sg -> Prop} {s : Nat} (e z : Nat) (h : σ.get s = some .nils) (k : W P C c Q (σ.upd s (.sl (some e) z []))) : W P C c Q σ:=by
 intro a w ⟨ρ,Fe,Fb,st⟩
 refine k a w ⟨ρ,_,Fb,st.turn (F:=[]) h rfl rfl rfl (Nat.le_refl _) (fun _ _ _=>rfl) List.nodup_nil (by simp) ?_⟩
 obtain ⟨v,hv,hr⟩:=(SR_plain rfl).1 (st.env _ _ h)
 simp only [VR,D.isAgg,Bool.false_eq_true,if_false] at hr
 refine (SR_plain rfl).2 ⟨v,hv, ?_⟩
 simp only [VR,D.isAgg,Bool.false_eq_true,if_false]
 rw [hr.nil_val]
 exact .slN _ _
inductive Evs (gl : List (Nat × D)) (σ : Sg) : List (Nat × Operand) -> Nat -> List D -> Prop
 | nil {k : Nat} : Evs gl σ [] k []
 | cons {k : Nat} {x : Operand} {d : D} {ps : List (Nat × Operand)} {ds : List D} (h : ev gl σ x = some d) (t : Evs gl σ ps (k + 1) ds) : Evs gl σ ((k,x) :: ps) k (d :: ds)
theorem Evs.ok {gl : List (Nat × D)} {ps : List (Nat × Operand)} {k : Nat} {ds : List D} (h : Evs gl σ ps k ds) : evs gl σ ps k = some ds:=by
 induction h with
 | nil=>rfl
 | cons h t ih=>simp [evs,h,ih]
inductive EvS (gl : List (Nat × D)) (σ : Sg) : List (Nat × Operand) -> List D -> List D -> Prop
 | nil {l l' : List D} (h : l = l') : EvS gl σ [] l l'
 | cons {i : Nat} {x : Operand} {d : D} {ps : List (Nat × Operand)} {l l' : List D} (h : ev gl σ x = some d) (t : EvS gl σ ps (l.set i d) l') : EvS gl σ ((i,x) :: ps) l l'
theorem EvS.ok {gl : List (Nat × D)} {ps : List (Nat × Operand)} {l l' : List D} (h : EvS gl σ ps l l') : evsS gl σ ps l = some l':=by
 induction h with
 | nil h=>subst h; rfl
 | cons h t ih=>simp [evsS,h,ih]
theorem R.bslE {t e z bytes k : Nat} {ps : List (Nat × Operand)} {ds : List D} {ty rt : TypeId} {pos : String} {aft : Array Edge} {g : Option (Nat × Bool)} [hT : SlT P ty e] [hE : ElT P e z bytes]
 (hps : Evs C.gl σ ps 0 ds) (hp : PurZ z ds) (hk : ds.length = k) (ht : t < σ.n) (hsm : k * z <= 16777216) :
 OpS P C ⟨some t,.buildSlice ty k ps.toArray,rt,pos,aft,g⟩ σ (σ.set t (.sl (some e) z ds)):=R.bsl hps.ok hp hk ht hsm
theorem R.bldAE {t n e z : Nat} {ps : List (Nat × Operand)} {ds : List D} {ty rt : TypeId} {pos : String} {aft : Array Edge} {g : Option (Nat × Bool)} [hT : BaT P ty n e z]
 (hps : Evs C.gl σ ps 0 ds) (hp : PurZ z ds) (hk : ds.length = n) (ht : t < σ.n) :
 OpS P C ⟨some t,.build ty ps.toArray,rt,pos,aft,g⟩ σ (σ.set t (.arr n z ds)):=R.bldA hps.ok hp hk ht
theorem R.bldSE {t : Nat} {ps : List (Nat × Operand)} {l l' : List D} {ty rt : TypeId} {pos : String} {aft : Array Edge} {g : Option (Nat × Bool)} [hT : BsT P ty l]
 (hps : EvS C.gl σ ps l l') (hp : PurS C.gl σ l ps) (ht : t < σ.n) :
 OpS P C ⟨some t,.build ty ps.toArray,rt,pos,aft,g⟩ σ (σ.set t (.agg l')):=R.bldS hps.ok hp ht
theorem R.lenE {s t z n : Nat} {l : List D} {ty e rt : TypeId} [hT : SlT P ty e] (h : SC σ s z l) (hl : l.length = n) (ht : t < σ.n) :
 OpS P C ⟨some t,.call { callee:=.builtin .len,args:=#[.tmp s],argTypes:=#[ty] },rt,pos,aft,g⟩ σ (σ.set t (.int ((n : Nat) : Int))):=by
 subst hl; exact R.len h ht
theorem loc_nil {d : D} : d.loc [] = some (0,d):=by cases d <;> rfl
theorem loc_agg {l : List D} {k o o' m : Nat} {p : List Nat} {d d' : D} (h : l[k]? = some d) (hm : offk l k = m) (hp : d.loc p = some (o',d')) (ho : o = m + o') : (D.agg l).loc (k :: p) = some (o,d'):=by
 subst ho; subst hm; simp only [D.loc,h,hp]
theorem loc_arr {n z : Nat} {l : List D} {k o o' : Nat} {p : List Nat} {d d' : D} (h : l[k]? = some d) (hp : d.loc p = some (o',d')) (ho : o = k * z + o') : (D.arr n z l).loc (k :: p) = some (o,d'):=by
 subst ho; simp only [D.loc,h,hp]
theorem upd_nil {d x : D} : d.upd [] x = some x:=by cases d <;> rfl
theorem upd_arr {n z : Nat} {l l' : List D} {k : Nat} {p : List Nat} {d d' x : D} (h : l[k]? = some d) (hp : d.upd p x = some d') (he : l.set k d' = l') : (D.arr n z l).upd (k :: p) x = some (.arr n z l'):=by
 subst he; simp only [D.upd,h,hp]
theorem set_map {α : Type} {f : α -> D} {l : List α} {i : Nat} {v : α} : (l.map f).set i (f v) = (l.set i v).map f:=(List.map_set ..).symm
theorem brw_arr {α : Type} {f : α -> D} {l : List α} {n z : Nat} (h : ∀ x,(f x).brw = f x) : (D.arr n z (l.map f)).brw = .arr n z (l.map f):=by
 simp only [D.brw,brws_eq,brw_map h]
theorem R.nilc {d : D} {rt : TypeId} (hx : ev C.gl σ x = some (.rp d)) (ht : t < σ.n) : OpS P C ⟨some t,.nilCheck x,rt,pos,aft,g⟩ σ (σ.set t (.rp d)):=by
 refine OpS.value fun a w ⟨ρ,Fe,Fb,st⟩=>?_
 obtain ⟨F,hv,_⟩:=ev_ok st hx rfl
 have hF:=hv.pur rfl
 subst hF
 have hv0:=hv
 simp only [VR,D.isAgg,Bool.false_eq_true,if_false] at hv
 generalize hex : a.eval x = v at hv
 cases hv with
 | rp _ b off cs e fz hb hG hs hr=>
  refine ⟨a.eval x,w, ?_,st.put ht rfl hv0⟩
  unfold execOp
  simp [hex]
theorem R.slR {t e z bytes m : Nat} {l : List D} {lo hi : Option Operand} {i j : Int} {ty rt : TypeId} [hT : ArT P ty m e] [hE : ElT P e z bytes]
 (hx : ev C.gl σ x = some (.rp (.arr m z l))) (hl : evo C.gl σ lo 0 = some i) (hh : evo C.gl σ hi m = some j) (h0 : 0 <= i) (h1 : i <= j) (h2 : j <= m) (ht : t < σ.n) :
 OpS P C ⟨some t,.slice ty x lo hi none,rt,pos,aft,g⟩ σ (σ.set t (.sl none z ((l.drop i.toNat).take (j - i).toNat))):=by
 refine OpS.value fun a w ⟨ρ,Fe,Fb,st⟩=>?_
 obtain ⟨F,hv,_⟩:=ev_ok st hx rfl
 have hF:=hv.pur rfl
 subst hF
 simp only [VR,D.isAgg,Bool.false_eq_true,if_false] at hv
 generalize hex : a.eval x = vx at hv
 cases hv with
 | rp _ b off cs e' fz hb hG hs hr=>
  cases hr with
  | arr _ _ _ _ hlm hsz hrr=>
   simp only [sz_arr] at hs hsz hrr
   have hlen : ((l.drop i.toNat).take (j - i).toNat).length = (j - i).toNat:=by simp; omega
   have e1 : j.toNat - i.toNat = (j - i).toNat:=by omega
   have hbd:=run_bounds (P:=P) st (b:=false) (len:=m) (cap:=m) hl hh h0 h1 h2 (Nat.le_refl _)
   refine ⟨.slice (some (if m = i.toNat then ⟨b,off,none⟩ else ⟨b,off + i.toNat * z,none⟩)) (j - i).toNat (m - i.toNat),w, ?_,st.put ht rfl ?_⟩
   · unfold execOp
     cases lo <;> cases hi <;> simp_all [Instr.sliceAt,Instr.sureAddr,run_underlying hT.u,ElT.size (P:=P) (e:=e),add_lit] <;> split <;> simp_all
   · simp only [VR,D.isAgg,Bool.false_eq_true,if_false]
     have hjz : ((j - i).toNat) * z + i.toNat * z <= m * z:=by
      rw [<- Nat.add_mul]; exact Nat.mul_le_mul_right z (by omega)
     by_cases hci : m = i.toNat
     · simp only [hci,if_true,Nat.sub_self]
       have h3 : (j - i).toNat = 0:=by omega
       have:=Rc.slI (w:=w) (ρ:=ρ) (G:=gd C Fe Fb) (L:=fun id=>(σ.box id).isSome) (p:=true) b off cs e' fz 0 z [] hb hG (Nat.zero_le _) (by simp; omega) (fun k hk=>by simp at hk)
       simpa [h3] using this
     · simp only [hci,if_false]
       have:=Rc.slI (w:=w) (ρ:=ρ) (G:=gd C Fe Fb) (L:=fun id=>(σ.box id).isSome) (p:=true) b (off + i.toNat * z) cs e' fz (m - i.toNat) z ((l.drop i.toNat).take (j - i).toNat) hb hG (by rw [hlen]; omega)
        (by rw [hlen]; omega) (fun k hk=>by
         rw [hlen] at hk
         simp only [List.getElem_take,List.getElem_drop]
         have h5:=hrr (i.toNat + k) (by omega)
         have h6 : (i.toNat + k) * z + z <= m * z:=by
          have:=Nat.mul_le_mul_right z (show i.toNat + k + 1 <= m by omega)
          rw [Nat.add_mul (i.toNat + k) 1 z] at this; omega
         rw [sub_sub _ _ _ _ _ h6,Nat.add_mul,<- Nat.add_assoc] at h5
         exact h5)
       rw [hlen] at this
       exact this
theorem view_get! {α : Type} [Inhabited α] {f : α -> D} {l : List α} {lo n i : Nat} (h : lo + i < l.length) (hn : i < n) : (((l.map f).drop lo).take n)[i]? = some (f l[lo + i]!):=by
 rw [List.getElem?_take,if_pos hn,List.getElem?_drop]
 exact map_get! h
theorem R.slRN {t e z bytes m : Nat} {l l' : List D} {lo hi : Option Operand} {i j : Int} {ty rt : TypeId} [hT : ArT P ty m e] [hE : ElT P e z bytes] (a b n : Nat)
 (hx : ev C.gl σ x = some (.rp (.arr m z l))) (hl : evo C.gl σ lo 0 = some i) (hh : evo C.gl σ hi m = some j) (hi' : i = a) (hj : j = b) (h1 : a <= b) (h2 : b <= m) (hn : b - a = n) (he : (l.drop a).take n = l') (ht : t < σ.n) :
 OpS P C ⟨some t,.slice ty x lo hi none,rt,pos,aft,g⟩ σ (σ.set t (.sl none z l')):=by
 subst hi'; subst hj; subst he
 have:=R.slR (P:=P) (C:=C) (e:=e) (ty:=ty) (pos:=pos) (aft:=aft) (g:=g) (rt:=rt) hx hl hh (by omega) (by omega) (by omega) ht
 have e1 : ((b : Int) - (a : Int)).toNat = n:=by omega
 have e2 : ((a : Int)).toNat = a:=rfl
 rw [e1,e2] at this
 exact this
theorem R.slIN {t e z bytes : Nat} {l l' : List D} {lo hi : Option Operand} {i j : Int} {ty rt : TypeId} [hT : SlT P ty e] [hE : ElT P e z bytes] (a b n : Nat)
 (hx : ev C.gl σ x = some (.sl none z l)) (hl : evo C.gl σ lo 0 = some i) (hh : evo C.gl σ hi l.length = some j) (hi' : i = a) (hj : j = b) (h1 : a <= b) (h2 : b <= l.length) (hn : b - a = n) (he : (l.drop a).take n = l') (ht : t < σ.n) :
 OpS P C ⟨some t,.slice ty x lo hi none,rt,pos,aft,g⟩ σ (σ.set t (.sl none z l')):=by
 subst hi'; subst hj; subst he
 have:=R.slI (P:=P) (C:=C) (e:=e) (ty:=ty) (pos:=pos) (aft:=aft) (g:=g) (rt:=rt) hx hl hh (by omega) (by omega) (by omega) ht
 have e1 : ((b : Int) - (a : Int)).toNat = n:=by omega
 have e2 : ((a : Int)).toNat = a:=rfl
 rw [e1,e2] at this
 exact this
theorem R.slVN {s t e z bytes : Nat} {l : List D} {lo hi : Option Operand} {i j : Int} {ty rt : TypeId} [hT : SlT P ty e] [hE : ElT P e z bytes] (a b n : Nat)
 (hx : SC σ s z l) (hl : evo C.gl σ lo 0 = some i) (hh : evo C.gl σ hi l.length = some j) (hi' : i = a) (hj : j = b) (h1 : a <= b) (h2 : b <= l.length) (hn : b - a = n) (ht : t < σ.n) (hst : s ≠ t) :
 OpS P C ⟨some t,.slice ty (.tmp s) lo hi none,rt,pos,aft,g⟩ σ (σ.set t (.vw s z a n)):=by
 subst hi'; subst hj
 have:=R.slV (P:=P) (C:=C) (e:=e) (ty:=ty) (pos:=pos) (aft:=aft) (g:=g) (rt:=rt) hx hl hh (by omega) (by omega) (by omega) ht hst
 have e1 : ((b : Int) - (a : Int)).toNat = n:=by omega
 have e2 : ((a : Int)).toNat = a:=rfl
 rw [e1,e2] at this
 exact this
theorem R.slAN {s t e z bytes m id off : Nat} {path : List Nat} {d0 : D} {l : List D} {lo hi : Option Operand} {i j : Int} {ty rt : TypeId} [hT : ArT P ty m e] [hE : ElT P e z bytes] (a b n : Nat)
 (hx : σ.get s = some (.ptr id off path)) (hb : σ.box id = some (.var d0)) (hloc : d0.loc path = some (off,.arr m z l)) (hl : evo C.gl σ lo 0 = some i) (hh : evo C.gl σ hi m = some j) (hi' : i = a) (hj : j = b) (h1 : a <= b) (h2 : b <= m) (hn : b - a = n) (ht : t < σ.n) :
 OpS P C ⟨some t,.slice ty (.tmp s) lo hi none,rt,pos,aft,g⟩ σ (σ.set t (.va id off z n path a)):=by
 subst hi'; subst hj
 have:=R.slA (P:=P) (C:=C) (e:=e) (ty:=ty) (pos:=pos) (aft:=aft) (g:=g) (rt:=rt) hx hb hloc hl hh (by omega) (by omega) (by omega) ht
 have e1 : ((b : Int) - (a : Int)).toNat = n:=by omega
 have e2 : ((a : Int)).toNat = a:=rfl
 rw [e1,e2] at this
 exact this
theorem part_map {α : Type} {f : α -> D} {l : List α} {a n : Nat} : ((l.map f).drop a).take n = ((l.drop a).take n).map f:=by rw [List.map_take,List.map_drop]
theorem part_get! {α : Type} [Inhabited α] {f : α -> D} {l : List α} {lo n i : Nat} (h : lo + i < l.length) (hn : i < n) : (((l.drop lo).take n).map f)[i]? = some (f l[lo + i]!):=by
 rw [<- part_map]; exact view_get! h hn
theorem rest_map {α : Type} {f : α -> D} {l : List α} {a : Nat} : ((l.map f).drop a).take (l.length - a) = (l.drop a).map f:=by
 rw [<- List.map_drop,List.take_of_length_le (by simp)]
theorem R.cpAE {s t e z bytes id off n lo m k : Nat} {path : List Nat} {d0 d' : D} {l l' l2 : List D} {ty ty2 rt : TypeId} [hT : SlT P ty e] [hE : ElT P e z bytes]
 (h : σ.get s = some (.va id off z n path lo)) (hb : σ.box id = some (.var d0)) (hl : d0.loc path = some (off,.arr m z l)) (hlo : lo + n <= m) (hx : SrcO C.gl σ x z l') (hnp : ∀ y ∈ l',y.np = true) (ht : t < σ.n)
 (hk : min l'.length n = k) (he : l.take lo ++ l'.take k ++ l.drop (lo + k) = l2) (hu : d0.upd path (.arr m z l2) = some d') :
 OpS P C ⟨some t,.call { callee:=.builtin .copy,args:=#[.tmp s,x],argTypes:=#[ty,ty2] },rt,pos,aft,g⟩ σ ((σ.putB id (.var d')).set t (.int ((k : Nat) : Int))):=by
 subst hk; subst he
 exact R.cpA h hb hl hlo hx hnp ht hu
theorem W.dropS {c : Code} {Q : Exit -> Sg -> Prop} {live : List Nat} {env' : List (Nat × D)} {bx' : List (Nat × Bx)} {n' : Nat} (hE : picks σ.get live = env') (hb : σ.bx = bx') (hn : σ.n = n') (h : W P C c Q ⟨n',env',bx'⟩) : W P C c Q σ:=W.drop hE hb hn h
theorem brw_part {α : Type} {f : α -> D} {l : List α} {a n : Nat} (h : ∀ x,(f x).brw = f x) : (((l.map f).drop a).take n).map D.brw = ((l.drop a).take n).map f:=by
 rw [part_map,brw_map h]
theorem brw_all {α : Type} {f : α -> D} {l : List α} {n : Nat} (h : ∀ x,(f x).brw = f x) (hn : l.length = n) : (((l.map f).drop 0).take n).map D.brw = l.map f:=by
 rw [brw_part h,List.drop_zero,List.take_of_length_le (by omega)]
theorem R.stZ {p id off : Nat} {path : List Nat} {d0 d1 d' dx : D} {n rt : TypeId} {gg : Bool} [LdT P ty n gg]
 (h : σ.get p = some (.ptr id off path)) (hb : σ.box id = some (.var d0)) (hl : d0.loc path = some (off,d1)) (hx : ev C.gl σ x = some dx) (hp : dx.pur = true) (hnp : dx.np = true)
 (hn : dx.sz = n) (hz : d1.sz = n) (hu : d0.upd path dx = some d') :
 OpS P C ⟨none,.store ty (.tmp p) x,rt,pos,aft,g⟩ σ (σ.putB id (.var d')):=R.st h hb hl hx hp hnp hn (hn.trans hz.symm) hu
theorem R.stEZ {p s s0 e z i off : Nat} {path : List Nat} {l : List D} {d0 d1 d' dx : D} {n rt : TypeId} {gg : Bool} [LdT P ty n gg]
 (h : σ.get p = some (.ep s z i off path)) (ho : ownr σ s s0) (hs : σ.get s0 = some (.sl (some e) z l)) (hi : l[i]? = some d0) (hl : d0.loc path = some (off,d1))
 (hx : ev C.gl σ x = some dx) (hxp : dx.pur = true) (hxn : dx.np = true) (hz : dx.sz = n) (hz1 : d1.sz = n) (hu : d0.upd path dx = some d') :
 OpS P C ⟨none,.store ty (.tmp p) x,rt,pos,aft,g⟩ σ (σ.upd s0 (.sl (some e) z (l.set i d'))):=R.stE h ho hs hi hl hx hxp hxn hz (hz.trans hz1.symm) hu
theorem app_map {α β : Type} {f : α -> β} {l l' : List α} : l.map f ++ l'.map f = (l ++ l').map f:=List.map_append.symm
theorem app_one {α β : Type} {f : α -> β} {l : List α} {v : α} : l.map f ++ [f v] = (l ++ [v]).map f:=by simp
theorem R.appE {s s0 t e z bytes : Nat} {l l' l2 : List D} {ty rt : TypeId} [hT : SlT P ty e] [hE : ElT P e z bytes]
 (ho : ownr σ s s0) (hs : σ.get s0 = some (.sl (some e) z l)) (hx : SrcO C.gl σ x z l') (he : l ++ l' = l2) (hn : l.length + l'.length <= 1073741824) (ht : t < σ.n) (hst : s0 ≠ t) (hby : bytes <= 131072) :
 OpS P C ⟨some t,.call { callee:=.builtin .append,args:=#[.tmp s,x],argTypes:=#[ty,ty] },rt,pos,aft,g⟩ σ ((σ.kill s0).set t (.sl (some e) z l2)):=by
 subst he; exact R.app ho hs hx hn ht hst hby
theorem R.stEY {p s s0 e z i off : Nat} {path : List Nat} {l l2 : List D} {d0 d1 d' dx : D} {n rt : TypeId} {gg : Bool} [LdT P ty n gg]
 (h : σ.get p = some (.ep s z i off path)) (ho : ownr σ s s0) (hs : σ.get s0 = some (.sl (some e) z l)) (hi : l[i]? = some d0) (hl : d0.loc path = some (off,d1))
 (hx : ev C.gl σ x = some dx) (hxp : dx.pur = true) (hxn : dx.np = true) (hz : dx.sz = n) (hz1 : d1.sz = n) (hu : d0.upd path dx = some d') (he : l.set i d' = l2) :
 OpS P C ⟨none,.store ty (.tmp p) x,rt,pos,aft,g⟩ σ (σ.upd s0 (.sl (some e) z l2)):=by
 subst he; exact R.stEZ h ho hs hi hl hx hxp hxn hz hz1 hu
theorem gw {b v wt want : Bool} (h : b = v) (hw : wt = (v == want)) : wt = (b == want):=by subst h; exact hw
theorem pur_lit {l : List D} (h : D.purs l = true) : ∀ y ∈ l,y.pur = true:=fun y hy=>by
 obtain ⟨k,hk,rfl⟩:=List.mem_iff_getElem.1 hy
 exact purs_get l h k hk
theorem R.eqAE {x y : Operand} {t e n : Nat} {xs ys : List UInt8} {xt yt ty : TypeId} {pos : String} {aft : Array Edge} {g : Option (Nat × Bool)} [hT : ArT P xt n e] [hk : IkT P e .u8] [hL : LdT P e 1 false] [hE : EqT P xt]
 (hx : ev C.gl σ x = some (.arr n 1 (xs.map .u8))) (hy : ev C.gl σ y = some (.arr n 1 (ys.map .u8))) (ht : t < σ.n) :
 OpS P C ⟨some t,.binOp .eql xt x y yt,ty,pos,aft,g⟩ σ (σ.set t (.bool (xs == ys))):=R.eqA (neg:=false) hx hy ht
end Go.Sx

namespace Go.Sx
variable {P : Program} {C : Ctx} {σ : Sg} {w : World} {ρ : Nat -> Nat}
def memB (ids : List Nat) (i : Nat) : Bool:=ids.any (Nat.beq i)
mutual
def D.okB (ids : List Nat) : D -> Bool
 | .ptr id _ _=>memB ids id
 | .bs id _ _ _=>memB ids id
 | .map id=>memB ids id
 | .alb id _ _=>memB ids id
 | .va id _ _ _ _ _=>memB ids id
 | .agg l=>D.okBs ids l
 | .fn _ l=>D.okBs ids l
 | .tup l=>D.okBs ids l
 | .ifc _ d=>D.okB ids d
 | _=>true
def D.okBs (ids : List Nat) : List D -> Bool
 | []=>true
 | d :: r=>D.okB ids d && D.okBs ids r
end
theorem okBs_get {ids : List Nat} (l : List D) (h : D.okBs ids l = true) : ∀ k (hk : k < l.length),l[k].okB ids = true:=by
 induction l with
 | nil=>intro k hk; simp at hk
 | cons d r ih=>
  simp only [D.okBs,Bool.and_eq_true] at h
  intro k hk
  cases k with
  | zero=>exact h.1
  | succ k=>simpa using ih h.2 k (by simpa using hk)
theorem Rc.okB {ids : List Nat} {G L : Nat -> Prop} {p : Bool} {d : D} {cs : List Value} {F : List Nat} (h : Rc w ρ G L p d cs F) (hd : d.okB ids = true) : Rc w ρ G (fun id=>memB ids id = true /\ L id) p d cs F:=by
 induction h with
 | bool b=>exact .bool b
 | int n=>exact .int n
 | u8 x=>exact .u8 x
 | u16 x=>exact .u16 x
 | u32 x=>exact .u32 x
 | u64 x=>exact .u64 x
 | ik k n=>exact .ik k n
 | str s=>exact .str s
 | nils=>exact .nils
 | slN o z=>exact .slN o z
 | slE o z a=>exact .slE o z a
 | slI b off cs e fz cap z l hb hG hc hs hr ih=>exact .slI b off cs e fz cap z l hb hG hc hs (fun i hi=>(hr i hi).noL)
 | slO b cs e cap z l Fs hb hc hm hs ho1 hr ih=>exact .slO b cs e cap z l Fs hb hc hm hs ho1 (fun i hi=>(hr i hi).noL)
 | agg l cs Fs hs hr ih=>exact .agg l cs Fs hs (fun k hk=>ih k hk (okBs_get l (by simpa [D.okB] using hd) k hk))
 | arr n z l cs hl hs hr ih=>exact .arr n z l cs hl hs (fun i hi=>(hr i hi).noL)
 | ptr id off path hid=>exact .ptr id off path ⟨by simpa [D.okB] using hd,hid⟩
 | bs id z n cap hid hcap=>exact .bs id z n cap ⟨by simpa [D.okB] using hd,hid⟩ hcap
 | nilp=>exact .nilp
 | rp d b off cs e fz hb hG hs hr ih=>exact .rp d b off cs e fz hb hG hs hr.noL
 | map id hid=>exact .map id ⟨by simpa [D.okB] using hd,hid⟩
 | nilmap=>exact .nilmap
 | fn f caps vs hl ha hr ih=>exact .fn f caps vs hl ha (fun k hk=>ih k hk (okBs_get caps (by simpa [D.okB] using hd) k hk))
 | nilf=>exact .nilf
 | yld l=>exact .yld l
 | ifc t d v ha hr ih=>exact .ifc t d v ha (ih (by simpa [D.okB] using hd))
 | nili=>exact .nili
 | dead v h=>exact .dead v h
theorem VR.okB {ids : List Nat} {G L : Nat -> Prop} {d : D} {v : Value} {F : List Nat} (h : VR w ρ G L d v F) (hd : d.okB ids = true) : VR w ρ G (fun id=>memB ids id = true /\ L id) d v F:=by
 unfold VR at *
 cases hg : d.isAgg <;> simp only [hg,if_true,if_false,Bool.false_eq_true] at h ⊢
 · exact h.okB hd
 · obtain ⟨cs,rfl,h⟩:=h; exact ⟨cs,rfl,h.okB hd⟩
theorem SR.okB {ids : List Nat} {G L G' L' : Nat -> Prop} {a : Act} {t : Nat} {d : D} {F : List Nat} (h : SR w ρ G L a t d F) (hd : d.okB ids = true)
 (hg : ∀ b,G b -> b < w.heap.size -> G' b) (hL : ∀ id,(memB ids id = true /\ L id) -> L' id) : SR w ρ G' L' a t d F:=by
 have key : ∀ (d : D) (v : Value) (F : List Nat),d.okB ids = true -> VR w ρ G L d v F -> VR w ρ G' L' d v F:=fun d v F h1 h2=>
  (h2.okB h1).mono (fun _ _ _=>rfl) hg (fun id hid=>⟨hL id hid,rfl⟩)
 cases d with
 | alb id off path=>obtain ⟨h1,h2,h3⟩:=h; exact ⟨h1,hL _ ⟨by simpa [D.okB] using hd,h2⟩,h3⟩
 | va id off z n path lo=>obtain ⟨h1,h2,h3⟩:=h; exact ⟨h1,hL _ ⟨by simpa [D.okB] using hd,h2⟩,h3⟩
 | tup ds=>
  obtain ⟨vs,Fs,h1,h2,h3,h4⟩:=h
  refine ⟨vs,Fs,h1,h2,h3,fun k hk=>(h4 k hk).imp id fun ⟨h5,h6⟩=>⟨h5,key _ _ _ (okBs_get ds (by simpa [D.okB] using hd) k hk) h6⟩⟩
 | al s=>exact h
 | vw s z lo n=>exact h
 | ep s z i off path=>exact h
 | dead=>exact h
 | _=>obtain ⟨v,h1,h2⟩:=h; exact ⟨v,h1,key _ _ _ hd h2⟩
def keepB (ids : List Nat) : List (Nat × Bx) -> List (Nat × Bx)
 | []=>[]
 | (k,b) :: r=>bif memB ids k then (k,b) :: keepB ids r else keepB ids r
theorem lk_keepB (ids : List Nat) (l : List (Nat × Bx)) (u : Nat) : lk (keepB ids l) u = if memB ids u then lk l u else none:=by
 induction l with
 | nil=>simp [keepB,lk]
 | cons x r ih=>
  obtain ⟨k,d⟩:=x
  simp only [keepB,lk_cons]
  by_cases hk : memB ids k = true
  · simp only [hk,cond_true,lk_cons,ih]
    by_cases hku : k = u
    · subst hku; simp [hk]
    · simp [hku]
  · have hk' : memB ids k = false:=by simpa using hk
    simp only [hk',cond_false,ih]
    by_cases hku : k = u
    · subst hku; simp [hk']
    · simp [hku]
def okEnvB (ids : List Nat) : List (Nat × D) -> Bool
 | []=>true
 | (_,d) :: r=>d.okB ids && okEnvB ids r
def okBx (ids : List Nat) : List (Nat × Bx) -> Bool
 | []=>true
 | (_,.var d) :: r=>d.okB ids && okBx ids r
 | (_,.mp _) :: _=>false
theorem okEnvB_get {ids : List Nat} {l : List (Nat × D)} (h : okEnvB ids l = true) {t : Nat} {d : D} (hd : lk l t = some d) : d.okB ids = true:=by
 induction l with
 | nil=>simp [lk] at hd
 | cons x r ih=>
  obtain ⟨k,e⟩:=x
  simp only [okEnvB,Bool.and_eq_true] at h
  rw [lk_cons] at hd
  by_cases hk : k = t
  · simp only [hk,if_true,Option.some.injEq] at hd; subst hd; exact h.1
  · simp only [hk,if_false] at hd; exact ih h.2 hd
theorem okBx_get {ids : List Nat} {l : List (Nat × Bx)} (h : okBx ids l = true) {t : Nat} {b : Bx} (hd : lk l t = some b) : ∃ d,b = .var d /\ d.okB ids = true:=by
 induction l with
 | nil=>simp [lk] at hd
 | cons x r ih=>
  obtain ⟨k,e⟩:=x
  cases e with
  | mp=>simp [okBx] at h
  | var e=>
   simp only [okBx,Bool.and_eq_true] at h
   rw [lk_cons] at hd
   by_cases hk : k = t
   · simp only [hk,if_true,Option.some.injEq] at hd; subst hd; exact ⟨e,rfl,h.1⟩
   · simp only [hk,if_false] at hd; exact ih h.2 hd
theorem W.dropB {c : Code} {Q : Exit -> Sg -> Prop} (ids : List Nat) {bx' : List (Nat × Bx)} (hb : keepB ids σ.bx = bx') (he : okEnvB ids σ.env = true) (hx : okBx ids bx' = true) (hpn : ∀ id b,C.pin id = some b -> memB ids id = true) (h : W P C c Q ⟨σ.n,σ.env,bx'⟩) : W P C c Q σ:=by
 intro a w ⟨ρ,Fe,Fb,st⟩
 refine h a w ?_
 have hl : ∀ u,lk bx' u = if memB ids u then σ.box u else none:=fun u=>by rw [<- hb]; exact lk_keepB ids σ.bx u
 have hsub : ∀ id,∀ b ∈ (if memB ids id then Fb id else []),b ∈ Fb id:=fun id b hm=>by split at hm; exact hm; cases hm
 have hown : ∀ b,own Fe (fun id=>if memB ids id then Fb id else []) b -> own Fe Fb b:=fun b hb=>hb.imp id fun ⟨i,hi⟩=>⟨i,hsub i b hi⟩
 have hgd : ∀ b,gd C Fe Fb b -> gd C Fe (fun id=>if memB ids id then Fb id else []) b:=fun b hb=>⟨hb.1,fun hc=>hb.2 (hown b hc)⟩
 have hL : ∀ id,(memB ids id = true /\ (σ.box id).isSome) -> (lk bx' id).isSome:=fun id ⟨h1,h2⟩=>by rw [hl,if_pos h1]; exact h2
 exact ⟨ρ,Fe,(fun id=>if memB ids id then Fb id else []),{
  size:=st.size
  defs:=st.defs
  pin:=fun id b hp=>⟨(st.pin id b hp).1,hL id ⟨hpn id b hp,(st.pin id b hp).2⟩⟩
  env:=fun t d hd=>(st.env t d hd).okB (okEnvB_get he hd) (fun b hb _=>hgd b hb) hL
  envN:=st.envN
  bx:=fun id b hd=>by
   obtain ⟨d,rfl,hok⟩:=okBx_get hx hd
   have h1:=hl id
   by_cases hm : memB ids id = true
   · rw [if_pos hm] at h1
     have h2 : σ.box id = some (.var d):=by rw [<- h1]; exact hd
     obtain ⟨cs,e,F',h3,h4,h5⟩:=st.bx id _ h2
     refine ⟨cs,e,F',h3,(h4.okB hok).mono (fun _ _ _=>rfl) (fun b hb _=>hgd b hb) (fun id hid=>⟨hL id hid,rfl⟩),by simp only [hm,if_true]; exact h5⟩
   · rw [if_neg hm] at h1
     rw [show lk bx' id = some (.var d) from hd] at h1
     cases h1
  bxN:=fun id hn=>by
   have h1:=hl id
   by_cases hm : memB ids id = true
   · rw [if_pos hm] at h1
     simp only [hm,if_true]
     exact st.bxN id (by rw [<- h1]; exact hn)
   · simp [hm]
  nodE:=st.nodE
  nodB:=fun id=>by show (if memB ids id then Fb id else []).Nodup; split; exact st.nodB id; exact List.nodup_nil
  dEE:=st.dEE
  dEB:=fun t id b hb hm=>st.dEB t id b hb (hsub id b hm)
  dBB:=fun id id' hne b hb hm=>st.dBB id id' hne b (hsub id b hb) (hsub id' b hm)
  new:=fun b hb=>st.new b (hown b hb)
  kept:=st.kept
  os:=st.os
  tape:=st.tape
  output:=st.output
  grown:=st.grown
  gl:=st.gl
  okN:=st.okN
  okO:=fun b hb=>st.okO b (hown b hb) }⟩
theorem pin_sub {C : Ctx} {pins ids : List Nat} (h : ∀ id b,C.pin id = some b -> memN pins id = true) (hs : pins.all (memB ids) = true) : ∀ id b,C.pin id = some b -> memB ids id = true:=fun id b hp=>by
 have h1:=h id b hp
 simp only [memN,List.any_eq_true] at h1
 obtain ⟨x,hx,he⟩:=h1
 have:=List.all_eq_true.1 hs x hx
 rw [Nat.eq_of_beq_eq_true he]
 exact this
end Go.Sx

namespace Go.Sx
variable {P : Program} {C : Ctx} {σ σ' σ1 : Sg} {a : Act} {w w' : World} {ρ : Nat -> Nat} {Fe Fe' Fb : Nat -> List Nat}
theorem VR_int {G L : Nat -> Prop} {n : Int} {v : Value} {F : List Nat} (h : VR w ρ G L (.int n) v F) : v = .int .i64 n:=by
 simp only [VR,D.isAgg,Bool.false_eq_true,if_false] at h
 cases h
 rfl
theorem R.mkmap {t ty rt : TypeId} {pos : String} {aft : Array Edge} {g : Option (Nat × Bool)} (hid : σ.box t = none) (ht : t < σ.n) :
 OpS P C ⟨some t,.makeMap ty none,rt,pos,aft,g⟩ σ ((σ.newB t (.mp [])).set t (.map t)):=by
 refine OpS.value fun a w ⟨ρ,Fe,Fb,st⟩=>?_
 refine ⟨.map (some w.heap.size),w.alloc (.map #[] 0), ?_, ?_⟩
 · unfold execOp
   simp [Instr.makeMap,newObj,Sem.run]
 · have h1:=st.newB (id:=t) (x:=.mp []) (o:=.map #[] 0) hid ⟨rfl,#[],0,heap_alloc_new w _,⟨rfl,rfl⟩,fun k hk=>by simp at hk⟩
   have h2:=h1.put (t:=t) (d:=.map t) (v:=.map (some w.heap.size)) (by simpa using ht) rfl (by
    simp only [VR,D.isAgg,Bool.false_eq_true,if_false]
    have:=Rc.map (w:=w.alloc (.map #[] 0)) (ρ:=updR ρ t w.heap.size) (G:=gd C Fe (upd Fb t [w.heap.size])) (L:=fun i=>((σ.newB t (.mp [])).box i).isSome) t (by simp [box_newB])
    simpa using this)
   exact h2
theorem map_slot {p id : Nat} (st : StW C σ a w ρ Fe Fb) (h : σ.get p = some (.map id)) : a.tmps[p]? = some (.map (some (ρ id))):=by
 obtain ⟨v,hv,hr⟩:=(SR_plain rfl).1 (st.env _ _ h)
 simp only [VR,D.isAgg,Bool.false_eq_true,if_false] at hr
 generalize Fe p = F at hr
 cases hr
 exact hv
end Go.Sx

namespace Go.Sx
variable {P : Program} {C : Ctx} {σ σ' σ1 : Sg} {a : Act} {w w' : World} {ρ : Nat -> Nat} {Fe Fe' Fb : Nat -> List Nat}
variable {pos : String} {aft : Array Edge} {g : Option (Nat × Bool)} {t ty xt yt rt : TypeId}
theorem eqGuard_slice (P : Program) (w : World) (op : BinOp) (t : TypeId) (x y : Operand) (b : Option Addr) (n c : Nat) (v : Value) : (eqGuard op t x y (.slice b n c) v).run P w = .ok () w:=by
 cases op <;> rfl
theorem run_eq_nil {e : TypeId} (hT : P.underlying xt = some (.slice e)) (b : Option Addr) (n c : Nat) (w : World) :
 (binOp .eql xt (.slice b n c) (.slice none 0 0)).run P w = .ok (.bool b.isNone) w:=by
 have h1 : ∀ d,(Op.equalIn (d + 1) xt (.slice b n c) (.slice none 0 0)).run P w = .ok b.isNone w:=fun d=>by
  cases b <;> simp [Op.equalIn,run_underlying hT]
 have h2 : (Op.equal xt (.slice b n c) (.slice none 0 0)).run P w = .ok b.isNone w:=h1 9999
 simp only [binOp,Sem.run_bind,h2,Result.andThen_ok,Sem.run_pure]
theorem run_eq_nil_op {e : TypeId} (hT : P.underlying xt = some (.slice e)) {s : Nat} {b : Option Addr} {n c : Nat} (hv : a.tmps[s]? = some (.slice b n c)) :
 (execOp a.eval ⟨some t,.binOp .eql xt (.tmp s) (.const (.slice none 0 0)) yt,rt,pos,aft,g⟩).run P w = .ok (.value (.bool b.isNone)) w:=by
 unfold execOp
 simp only [Sem.run_bind,eval_tmp hv,eqGuard_slice,Result.andThen_ok,Sem.run_pure]
 have : a.eval (.const (.slice none 0 0)) = .slice none 0 0:=rfl
 simp only [this,run_eq_nil hT,Result.andThen_ok]
theorem SC_some (st : StW C σ a w ρ Fe Fb) {s z : Nat} {l : List D} (h : SC σ s z l) (hl : l ≠ []) : ∃ b n c,a.tmps[s]? = some (.slice (some b) n c):=by
 obtain ⟨base,len,cap,hv,hlen,hd⟩:=SC_ok st h
 rcases hd with ⟨h3,h4⟩ | ⟨b,o,cs,e',fz,rfl,_⟩
 · exact absurd (List.length_eq_zero_iff.1 (by omega)) hl
 · exact ⟨_,_,_,hv⟩
theorem R.eqNilF {s z e : Nat} {l : List D} [hT : SlT P xt e] (h : SC σ s z l) (hl : l ≠ []) (ht : t < σ.n) :
 OpS P C ⟨some t,.binOp .eql xt (.tmp s) (.const (.slice none 0 0)) yt,rt,pos,aft,g⟩ σ (σ.set t (.bool false)):=by
 refine OpS.value fun a w ⟨ρ,Fe,Fb,st⟩=>?_
 obtain ⟨b,n,c,hv⟩:=SC_some st h hl
 exact ⟨_,w,run_eq_nil_op hT.u hv,st.put ht rfl (by simp only [VR,D.isAgg,Bool.false_eq_true,if_false]; exact .bool _)⟩
theorem VR_int' {G L : Nat -> Prop} {n : Int} : VR w ρ G L (.int n) (.int .i64 n) []:=by
 simp only [VR,D.isAgg,Bool.false_eq_true,if_false]; exact .int _
theorem R.minI {x y : Operand} {m n r : Int} {ta tb : TypeId} (hx : ev C.gl σ x = some (.int m)) (hy : ev C.gl σ y = some (.int n)) (hr : min m n = r) (ht : t < σ.n) :
 OpS P C ⟨some t,.call { callee:=.builtin .min,args:=#[x,y],argTypes:=#[ta,tb] },rt,pos,aft,g⟩ σ (σ.set t (.int r)):=by
 refine OpS.value fun a w ⟨ρ,Fe,Fb,st⟩=>?_
 obtain ⟨_,hvx,_⟩:=ev_ok st hx rfl
 obtain ⟨_,hvy,_⟩:=ev_ok st hy rfl
 have hvx:=VR_int hvx
 have hvy:=VR_int hvy
 have e : (if n < m then n else m) = r:=by rw [<- hr]; split <;> omega
 refine ⟨.int .i64 r,w, ?_,st.put ht rfl VR_int'⟩
 unfold execOp
 simp [resolve,invoke,builtin,hvx,hvy,Builtin.min_,Builtin.min2,e]
theorem R.maxI {x y : Operand} {m n r : Int} {ta tb : TypeId} (hx : ev C.gl σ x = some (.int m)) (hy : ev C.gl σ y = some (.int n)) (hr : max m n = r) (ht : t < σ.n) :
 OpS P C ⟨some t,.call { callee:=.builtin .max,args:=#[x,y],argTypes:=#[ta,tb] },rt,pos,aft,g⟩ σ (σ.set t (.int r)):=by
 refine OpS.value fun a w ⟨ρ,Fe,Fb,st⟩=>?_
 obtain ⟨_,hvx,_⟩:=ev_ok st hx rfl
 obtain ⟨_,hvy,_⟩:=ev_ok st hy rfl
 have hvx:=VR_int hvx
 have hvy:=VR_int hvy
 have e : (if m < n then n else m) = r:=by rw [<- hr]; split <;> omega
 refine ⟨.int .i64 r,w, ?_,st.put ht rfl VR_int'⟩
 unfold execOp
 simp [resolve,invoke,builtin,hvx,hvy,Builtin.max_,Builtin.max2,e]
theorem pur_part {α : Type} {f : α -> D} {l : List α} {a n : Nat} (h : ∀ x,(f x).pur = true) : ∀ y ∈ ((l.map f).drop a).take n,y.pur = true:=fun y hy=>by
 obtain ⟨x,_,rfl⟩:=List.mem_map.1 (List.mem_of_mem_drop (List.mem_of_mem_take hy))
 exact h x
theorem R.bldAZ {n e z bytes : Nat} {d : D} [hT : ArT P ty n e] [hE : ElT P e z bytes] [hZ : ZrT P ty d] (hd : d.isAgg = true) (ht : t < σ.n) :
 OpS P C ⟨some t,.build ty #[],rt,pos,aft,g⟩ σ (σ.set t d):=by
 refine OpS.value fun a w ⟨ρ,Fe,Fb,st⟩=>?_
 obtain ⟨i,v,h1,h2,h3,h4⟩:=hZ.i
 obtain ⟨ie,zv,hi,_⟩:=hE.i
 have hv : VR w ρ (gd C Fe Fb) (fun i=>(σ.box i).isSome) d v []:=chk_VR h3 h4
 rw [hd] at h4
 cases v with
 | agg cs=>
  refine ⟨.agg cs,w, ?_,st.put ht (by cases d <;> first | rfl | cases hd) hv⟩
  unfold execOp
  simp [Instr.build,zeroValue,typeInfo,h1,h2,run_underlying hT.u,sizeOf,hi,Instr.fill,Value.cells]
 | _=>simp [Value.isAgg'] at h4
class BoT (P : Program) (t : TypeId) : Prop where
 u : P.underlying t = some .bool
end Go.Sx

namespace Go.Sx
variable {P : Program} {C : Ctx} {σ σ' σ1 : Sg} {a : Act} {w w' : World} {ρ : Nat -> Nat} {Fe Fe' Fb : Nat -> List Nat}
section
variable {rd : Option Nat} {ι : Type} {A : ι -> Act -> World -> Prop} {Q : Exit -> ι -> Prop} {i : ι}
end
abbrev Yt:=Nat -> Bool -> (Nat -> Prop) -> World -> Prop
structure Rel (gl : List (Nat × D)) (κ : Type) where
 r : κ -> Ctx -> Prop
 gl : ∀ {m C},r m C -> C.gl = gl
 rd : ∀ {m C},r m C -> C.rd = none
 pin : ∀ {m C},r m C -> ∀ id,C.pin id = none
section
variable {gl : List (Nat × D)} {κ : Type} {R : Rel gl κ} {m : κ}
end
section
variable {gl : List (Nat × D)} {G : Nat -> Prop} {Y : Yt} {k : Nat} {s : Bool}
end
end Go.Sx

namespace Go.Sx
variable {P : Program} {C : Ctx} {σ σ' σ1 : Sg} {a : Act} {w w' : World} {ρ : Nat -> Nat} {Fe Fe' Fb : Nat -> List Nat}
section
variable {gl : List (Nat × D)} {W0 : World} {G : Nat -> Prop} {m : Bool}
end
end Go.Sx

namespace Go.Sx
variable {P : Program} {C : Ctx} {σ σ' σ1 : Sg} {a : Act} {w w' : World} {ρ : Nat -> Nat} {Fe Fe' Fb : Nat -> List Nat}
variable {gl : List (Nat × D)} {W0 : World} {G : Nat -> Prop}
end Go.Sx
