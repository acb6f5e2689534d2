/-
 Own library: what ends by a panic.
-/
import Derived.Test.YtgilikgghknbhaaDoorMSxTup
import Derived.Recover
import Derived.Test.YtgilikgghknbhaaDoorMSxOwn
import Derived.Lib.AppendZerosOnto
set_option linter.unusedVariables false
set_option linter.unusedSimpArgs false
set_option linter.unnecessarySimpa false

namespace Go.Sx
variable {P : Program} {C : Ctx} {σ σ' σ1 : Sg} {a : Act} {w w' : World} {ρ : Nat -> Nat} {Fe Fe' Fb : Nat -> List Nat}
def D.dds (n : Nat) : D:=.agg (List.replicate n .dead)
theorem szs_dead (n : Nat) : D.szs (List.replicate n .dead) = n:=by
 induction n with
 | zero=>rfl
 | succ n ih=>simp [List.replicate_succ,ih,D.sz]; omega
theorem offk_dead (n k : Nat) (h : k <= n) : offk (List.replicate n .dead) k = k:=by
 unfold offk
 rw [List.take_replicate,Nat.min_eq_left h,szs_dead]
theorem Rc.dds {G L G' L' : Nat -> Prop} {ρ' : Nat -> Nat} {d : D} {cs : List Value} {F : List Nat} (h : Rc w ρ G L true d cs F) : Rc w' ρ' G' L' true (D.dds d.sz) cs []:=by
 have hl:=h.len
 have:=Rc.agg (w:=w') (ρ:=ρ') (G:=G') (L:=L') (p:=true) (List.replicate d.sz .dead) cs (fun _=>[]) (by rw [szs_dead]; exact hl) (fun k hk=>by
  have hk' : k < d.sz:=by simpa using hk
  rw [offk_dead _ _ (by omega)]
  simp only [List.getElem_replicate,D.sz]
  rw [List.drop_eq_getElem_cons (by omega),List.take_succ_cons,List.take_zero]
  exact .dead _ (h.one _ (List.getElem_mem _)))
 rwa [flat0] at this
end Go.Sx

namespace Go.Sx
variable {P : Program} {C : Ctx} {σ σ' σ1 : Sg} {a : Act} {w w' : World} {ρ : Nat -> Nat} {Fe Fe' Fb : Nat -> List Nat}
section
variable {ops : List Oper} {an : List Nat} {ks kk : List (Nat × Nat)} {its : List It} {Q : Exit -> Sg -> Prop}
theorem scrubB_alb {id : Nat} {d : D} (h : d.albIn [id] = false) : scrubB id d = d:=by
 rcases scrubB_cases id d with ⟨h1,_⟩ | ⟨_,off,path,rfl⟩
 · exact h1
 · simp [D.albIn,memB] at h
variable {listed : Array Bool}
end
theorem R.frzT {o : Oper} {τ : Sg} {t : Nat} {r r' : D} (h : OpS P C o σ (τ.set t r)) (hr : r.isRef = false) (he : r.brw = r') : OpS P C o σ (τ.set t r'):=by
 intro a w hs K Q hK
 refine h a w hs K Q fun a' w' hs'=>hK a' w' ?_
 have h1 : (τ.set t r).get t = some r:=by rw [get_set]; simp
 refine (St.frzS h1 hr he hs').weaken rfl rfl fun u d hd=>?_
 rw [get_upd,get_set]
 rw [get_set] at hd
 by_cases hu : u = t
 · subst hu; simpa using hd
 · simpa [hu] using hd
end Go.Sx

namespace Go.Sx
variable {pos : String} {aft : Array Edge} {g : Option (Nat × Bool)}
variable {P : Program} {C : Ctx} {σ σ' σ1 : Sg} {a : Act} {w w' : World} {ρ : Nat -> Nat} {Fe Fe' Fb : Nat -> List Nat}
def CkV (P : Program) (k : Nat) (t : TypeId) (d : D) : Prop:=
 ∀ (em : Bool) (n : Nat) (w : World) (ρ : Nat -> Nat) (G L : Nat -> Prop) (v : Value) (F : List Nat),VR w ρ G L d v F -> (Instr.checkKey em (n + k) t v).run P w = .ok () w
theorem CkV.num {t : TypeId} {k : IntKind} {d : D} (ht : P.underlying t = some (.int k)) (hd : d.isAgg = false) (hs : ∀ (w : World) (ρ : Nat -> Nat) (G L : Nat -> Prop) v F,Rc w ρ G L true d [v] F -> ∃ j x,v = .int j x) : CkV P 1 t d:=by
 intro em n w ρ G L v F h
 unfold VR at h
 rw [hd] at h
 obtain ⟨j,x,rfl⟩:=hs _ _ _ _ _ _ h
 simp [Instr.checkKey,run_underlying ht]
theorem CkV.u8 {t : TypeId} {k : IntKind} (ht : P.underlying t = some (.int k)) (x : UInt8) : CkV P 1 t (.u8 x):=CkV.num ht rfl fun _ _ _ _ _ _ h=>by cases h; exact ⟨_,_,rfl⟩
theorem CkV.u32 {t : TypeId} {k : IntKind} (ht : P.underlying t = some (.int k)) (x : UInt32) : CkV P 1 t (.u32 x):=CkV.num ht rfl fun _ _ _ _ _ _ h=>by cases h; exact ⟨_,_,rfl⟩
theorem CkV.arr {t e m : Nat} [hT : ArT P t m e] [hk : IkT P e .u8] [hL : LdT P e 1 false] (xs : List UInt8) : CkV P 2 t (.arr m 1 (xs.map .u8)):=by
 intro em n w ρ G L v F h
 simp only [VR,D.isAgg,if_true] at h
 obtain ⟨cx,rfl,h⟩:=h
 cases h with
 | arr _ _ _ _ hl hs hr=>
 rw [show n + 2 = (n + 1) + 1 from rfl,Instr.checkKey]
 simp only [Sem.run_bind,run_underlying hT.u,Result.andThen_ok]
 simp only [Std.Legacy.Range.forIn_eq_forIn_range',Std.Legacy.Range.size,Nat.sub_zero,Nat.add_one_sub_one,Nat.div_one]
 have each : ∀ j ∈ List.range' 0 m,j < m:=fun j hj=>by
  rw [List.mem_range'_1] at hj; omega
 generalize List.range' 0 m = is at each
 induction is with
 | nil=>simp
 | cons j is ih=>
  have hj:=each j (by simp)
  have hsz : cx.toList.length = m:=by rw [hs]; omega
  have hcl : cx.size = m:=by simpa using hsz
  obtain ⟨v,p1,p2⟩:=run_part (P:=P) (e:=e) (hL:=hL) (cs:=cx) (off:=j * 1) (hr j (by omega)) (by simp [D.sz]) (by simp [D.isAgg]) (by omega)
  have p3 : (Instr.checkKey em (n + 1) e v).run P w = .ok () w:=by
   have : (List.map D.u8 xs)[j]'(by omega) = .u8 (xs[j]'(by simp at hl; omega)):=by simp
   rw [this] at p2
   exact CkV.u8 hk.u _ em n _ _ _ _ _ _ p2
  simp only [List.forIn_cons,Sem.run_bind,LdT.size (P:=P) (t:=e),Result.andThen_ok,p1,p3,Sem.run_pure]
  exact ih (fun y hy=>each y (by simp [hy]))
inductive CkFs (P : Program) (k : Nat) : Nat -> List Field -> List D -> Prop
 | nil {o : Nat} : CkFs P k o [] []
 | cons {o z : Nat} {gg : Bool} {f : Field} {fs : List Field} {d : D} {ds : List D} (hn : (f.name != "_") = true) (ho : f.offset = o) (hL : LdT P f.type z gg) (hz : d.sz = z) (hg : d.isAgg = gg)
  (h : CkV P k f.type d) (t : CkFs P k (o + z) fs ds) : CkFs P k o (f :: fs) (d :: ds)
theorem CkV.more {k : Nat} {t : TypeId} {d : D} (h : CkV P k t d) : CkV P (k + 1) t d:=fun em n w ρ G L v F hv=>by
 have:=h em (n + 1) w ρ G L v F hv
 rwa [show n + (k + 1) = n + 1 + k by omega]
theorem CkV.struct {t : TypeId} {k : Nat} {fs : Array Field} {ds : List D} (ht : P.underlying t = some (.struct fs)) (h : CkFs P k 0 fs.toList ds) : CkV P (k + 1) t (.agg ds):=by
 intro em n w ρ G L v F hv
 simp only [VR,D.isAgg,if_true] at hv
 obtain ⟨cx,rfl,hv⟩:=hv
 cases hv with
 | agg _ _ Fs hs hr=>
 rw [show n + (k + 1) = (n + k) + 1 from rfl,Instr.checkKey]
 simp only [Sem.run_bind,run_underlying ht,Result.andThen_ok]
 rw [<- Array.forIn_toList]
 have hc : 0 + D.szs ds <= cx.size:=by simp at hs; omega
 have hr' : ∀ i (hi : i < ds.length),Rc w ρ G L true ds[i] ((cx.toList.drop (0 + offk ds i)).take ds[i].sz) (Fs i):=fun i hi=>by rw [Nat.zero_add]; exact hr i hi
 clear hs hr ht
 revert hc hr'
 generalize (0 : Nat) = o at h
 generalize fs.toList = fl at h
 intro hc hr'
 induction h generalizing Fs with
 | nil=>simp
 | @cons o z gg f fs d ds hn ho hL hz hg h t ih=>
  subst ho
  simp only [szs_cons] at hc
  have a1:=hr' 0 (by simp)
  simp only [List.getElem_cons_zero,offk_zero,Nat.add_zero,hz] at a1
  obtain ⟨v1,r1,q1⟩:=run_part (P:=P) (e:=f.type) (hL:=hL) a1 hz hg (by omega)
  have hb:=h em n w _ _ _ _ _ q1
  have ih':=ih (fun i=>Fs (i + 1)) (by omega) (fun i hi=>by
   have:=hr' (i + 1) (by simpa using hi)
   simp only [List.getElem_cons_succ,offk_succ,hz] at this
   rw [Nat.add_assoc]; exact this)
  have hne : f.name ≠ "_":=by simpa using hn
  simp only [List.forIn_cons,Sem.run_bind,hne,ne_eq,not_false_eq_true,if_true,Result.andThen_ok,r1,hb,Sem.run_pure]
  exact ih'
variable {κ α : Type} [DecidableEq κ]
def kIdx (m : List (κ × α)) (k : κ) : Nat:=m.findIdx (fun e=>e.1 == k)
def kHas (m : List (κ × α)) (k : κ) : Bool:=m.any fun e=>e.1 == k
def kGet (z : α) (m : List (κ × α)) (k : κ) : α:=((m[kIdx m k]?).map (·.2)).getD z
def mpK (kd : κ -> D) (f : α -> D) (m : List (κ × α)) : Bx:=.mp (m.map fun e=>(kd e.1,f e.2))
theorem kIdx_lt (m : List (κ × α)) (k : κ) : kIdx m k < m.length ↔ kHas m k = true:=by
 unfold kIdx kHas
 rw [List.findIdx_lt_length,List.any_eq_true]
class MkT (P : Program) (t : TypeId) (k e : outParam TypeId) : Prop where
 u : P.underlying t = some (.map k e)
structure KeyC (P : Program) (kt : TypeId) (kd : κ -> D) (n : Nat) : Prop where
 s : ∃ fs,P.underlying kt = some (.struct fs)
 eq : ∀ a b : κ,EqV P n kt (kd a) (kd b) (a == b)
 ck : ∀ a : κ,CkV P n kt (kd a)
 n : Nat.ble n 10000 = true
 p : ∀ a,(kd a).pur = true
theorem KeyC.find {kt : TypeId} {kd : κ -> D} {n : Nat} (H : KeyC P kt kd n) {G L : Nat -> Prop} {k : κ} {kv : Value} {F : List Nat} (hk : VR w ρ G L (kd k) kv F) : ∀ (es : List MapEntry) (m : List (κ × α)) (i : Nat),es.length = m.length ->
 (∀ j (h : j < m.length),VR w ρ G L (kd m[j].1) (es.getD j default).key []) ->
 (Instr.findAsking kt kv es i).run P w = .ok (if kIdx m k < m.length then some (i + kIdx m k,(es.getD (kIdx m k) default).val) else none) w:=by
 have hn : n <= 10000:=Nat.le_of_ble_eq_true H.n
 intro es
 induction es with
 | nil=>intro m i hl _; cases m with
  | nil=>simp [Instr.findAsking,kIdx]
  | cons x r=>simp at hl
 | cons e es ih=>
  intro m i hl hks
  cases m with
  | nil=>simp at hl
  | cons x r=>
   have h0:=hks 0 (by simp)
   simp only [List.getD_cons_zero,List.getElem_cons_zero] at h0
   have hih:=ih r (i + 1) (by simpa using hl) (fun j hj=>by have:=hks (j + 1) (by simpa using hj); simpa using this)
   have he:=H.eq k x.1 (10000 - n) w _ _ _ _ _ _ _ _ _ _ hk h0
   rw [show 10000 - n + n = 10000 by omega] at he
   have he' : (Op.equal kt kv e.key).run P w = .ok (k == x.1) w:=he
   simp only [Instr.findAsking,Sem.run_bind,he',Result.andThen_ok]
   by_cases hx : x.1 = k
   · have : kIdx (x :: r) k = 0:=by simp [kIdx,List.findIdx_cons,hx]
     simp [this,hx]
   · have hx' : (x.1 == k) = false:=by simpa using hx
     have h1 : kIdx (x :: r) k = kIdx r k + 1:=by simp [kIdx,List.findIdx_cons,hx']
     have hx2 : (k == x.1) = false:=by simpa using fun e=>hx e.symm
     simp only [hx2,Bool.false_eq_true,if_false,hih,h1,List.length_cons,Nat.add_lt_add_iff_right,List.getD_cons_succ]
     split <;> simp [Nat.add_assoc,Nat.add_comm,Nat.add_left_comm]
theorem KeyC.findKey {kt : TypeId} {kd : κ -> D} {n : Nat} (H : KeyC P kt kd n) {G L : Nat -> Prop} {k : κ} {kv : Value} {F : List Nat} (hk : VR w ρ G L (kd k) kv F) (es : List MapEntry) (m : List (κ × α)) (hl : es.length = m.length)
 (hks : ∀ j (h : j < m.length),VR w ρ G L (kd m[j].1) (es.getD j default).key []) :
 (Instr.findKey kt kv es).run P w = .ok (if kIdx m k < m.length then some (0 + kIdx m k,(es.getD (kIdx m k) default).val) else none) w:=by
 obtain ⟨fs,hs⟩:=H.s
 have h1:=H.find hk es m 0 hl hks
 unfold Instr.findKey
 simp only [Sem.run_bind,run_underlying hs,Result.andThen_ok]
 cases es with
 | nil=>
  cases m with
  | nil=>simp [Instr.findNow,kIdx]
  | cons x r=>simp at hl
 | cons e es=>simpa [Instr.findNow,Instr.sameNow] using h1
theorem KeyC.check {kt : TypeId} {kd : κ -> D} {n : Nat} (H : KeyC P kt kd n) {G L : Nat -> Prop} {k : κ} {kv : Value} {F : List Nat} (hk : VR w ρ G L (kd k) kv F) (em : Bool) : (Instr.checkKey em 10000 kt kv).run P w = .ok () w:=by
 have hn : n <= 10000:=Nat.le_of_ble_eq_true H.n
 have:=H.ck k em (10000 - n) w _ _ _ _ _ hk
 rwa [show 10000 - n + n = 10000 by omega] at this
omit [DecidableEq κ] in
theorem mpK_at {G L : Nat -> Prop} {kd : κ -> D} {f : α -> D} {m : List (κ × α)} {b : Nat} {F : List Nat} (h : BR w ρ G L b (mpK kd f m) F) :
 F = [b] /\ ∃ es : Array MapEntry,w.heap[b]? = some (.map es m.length) /\ es.size = m.length /\ (∀ j (hj : j < m.length),VR w ρ G L (kd m[j].1) (es.getD j default).key [] /\ VR w ρ G L (f m[j].2) (es.getD j default).val [] /\ (es.getD j default).born = j):=by
 obtain ⟨h1,es,clock,h2,⟨h3,h4⟩,h5⟩:=h
 simp only [List.length_map] at h3 h4
 subst h4
 refine ⟨h1,es,h2,h3,fun j hj=>?_⟩
 obtain ⟨h6,h7,h8⟩:=h5 j (by simpa using hj)
 simp only [List.getElem_map] at h6 h7
 exact ⟨h6,h7,h8⟩
omit [DecidableEq κ] in
theorem mpK_mk {G L : Nat -> Prop} {kd : κ -> D} {f : α -> D} {m : List (κ × α)} {b : Nat} {es : Array MapEntry} (h2 : w.heap[b]? = some (.map es m.length)) (h3 : es.size = m.length)
 (h5 : ∀ j (hj : j < m.length),VR w ρ G L (kd m[j].1) (es.getD j default).key [] /\ VR w ρ G L (f m[j].2) (es.getD j default).val [] /\ (es.getD j default).born = j) : BR w ρ G L b (mpK kd f m) [b]:=by
 refine ⟨rfl,es,m.length,h2,⟨by simpa using h3,by simp⟩,fun j hj=>?_⟩
 obtain ⟨h6,h7,h8⟩:=h5 j (by simpa using hj)
 simp only [List.getElem_map]
 exact ⟨h6,h7,h8⟩
omit [DecidableEq κ] in
theorem StW.putMk {kd : κ -> D} {f : α -> D} {m m' : List (κ × α)} {id : Nat} {es : Array MapEntry} (st : StW C σ a w ρ Fe Fb) (hb : σ.box id = some (mpK kd f m)) (hs : es.size = m'.length)
 (h5 : ∀ j (hj : j < m'.length),VR w ρ (gd C Fe Fb) (fun i=>(σ.box i).isSome) (kd m'[j].1) (es.getD j default).key [] /\ VR w ρ (gd C Fe Fb) (fun i=>(σ.box i).isSome) (f m'[j].2) (es.getD j default).val [] /\ (es.getD j default).born = j) :
 StW C (σ.putB id (mpK kd f m')) a { w with heap:=w.heap.setIfInBounds (ρ id) (.map es m'.length) } ρ Fe (upd Fb id [ρ id]):=by
 obtain ⟨hF,es0,h2,h3,h4⟩:=mpK_at (st.bx _ _ hb)
 have hlt : ρ id < w.heap.size:=(Array.getElem?_eq_some_iff.1 h2).1
 have hblk : ∀ b,b ≠ ρ id -> (w.heap.setIfInBounds (ρ id) (.map es m'.length))[b]? = w.heap[b]?:=fun b hne=>by
  rw [Array.getElem?_setIfInBounds]; simp [show ¬ ρ id = b from fun e=>hne e.symm]
 have hnot : ∀ b,gd C Fe Fb b -> b ≠ ρ id:=fun b hg he=>hg.2 (.inr ⟨id,by rw [hF,he]; simp⟩)
 have hg : ∀ b,gd C Fe Fb b -> gd C Fe (upd Fb id [ρ id]) b:=fun b hb'=>⟨hb'.1,fun hc=>hb'.2 (hc.imp (fun h=>h) (fun ⟨i,hi⟩=>by
  by_cases hii : i = id
  · subst hii; simp at hi; exact ⟨i,by rw [hF,hi]; simp⟩
  · rw [upd_other hii] at hi; exact ⟨i,hi⟩))⟩
 refine st.putB (Fe':=Fe) (σ1:=σ) (F':=[ρ id]) (w':={ w with heap:=w.heap.setIfInBounds (ρ id) (.map es m'.length) }) hb rfl rfl (fun u d hd=>.inl ⟨hd,rfl⟩) st.envN (fun u=>.inl rfl) rfl rfl rfl (by simp)
  hblk (by simp) (by simp) (fun b hb'=>.inl (by rw [hF]; exact hb')) ?_
 refine mpK_mk (es:=es) ?_ hs (fun j hj=>?_)
 · simp [hlt]
 · obtain ⟨q1,q2,q3⟩:=h5 j hj
   exact ⟨q1.mono (fun b hb' _=>hblk b (hnot b (hb'.resolve_right (by simp)))) (fun b hb' _=>hg b hb') (fun i hi=>⟨hi,rfl⟩),q2.mono (fun b hb' _=>hblk b (hnot b (hb'.resolve_right (by simp)))) (fun b hb' _=>hg b hb') (fun i hi=>⟨hi,rfl⟩),q3⟩
theorem R.lookK {kd : κ -> D} {f : α -> D} {m : List (κ × α)} {z : α} {n : Nat} {p t id : Nat} {x : Operand} {k : κ} {dk : D} {ty kt et rt : TypeId} [hT : MkT P ty kt et] {zd : D} [hZ : ZrT P et zd]
 (H : KeyC P kt kd n) (h : σ.get p = some (.map id)) (hb : σ.box id = some (mpK kd f m)) (hx : ev C.gl σ x = some dk) (hdk : dk = kd k) (hz : zd = f z) (hr : ∀ v,(f v).isRef = false) (ht : t < σ.n) :
 OpS P C ⟨some t,.lookup ty (.tmp p) x true,rt,pos,aft,g⟩ σ (σ.set t (.tup [f (kGet z m k),.bool (kHas m k)])):=by
 subst hdk
 refine OpS.value fun a w ⟨ρ,Fe,Fb,st⟩=>?_
 have hp:=map_slot st h
 obtain ⟨Fx,hvx,_⟩:=ev_ok st hx (pur_ref (H.p k))
 have hF0:=hvx.pur (H.p k)
 rw [hF0] at hvx
 obtain ⟨hF,es,h2,h3,h4⟩:=mpK_at (st.bx _ _ hb)
 obtain ⟨zi,zv,z1,z2,z3,z4⟩:=hZ.i
 have hfk:=H.findKey hvx es.toList m (by simpa using h3) (fun j hj=>by have:=(h4 j hj).1; simpa [Array.getD_eq_getD_getElem?] using this)
 have hzv : VR w ρ (gd C Fe Fb) (fun i=>(σ.box i).isSome) (f z) zv []:=by rw [<- hz]; exact chk_VR z3 z4
 have hck:=fun b=>H.check hvx b
 have fin : ∀ v ok,VR w ρ (gd C Fe Fb) (fun i=>(σ.box i).isSome) (f (kGet z m k)) v [] -> ok = kHas m k -> St C (σ.set t (.tup [f (kGet z m k),.bool (kHas m k)])) (a.put (some t) (.tuple #[v,.bool ok])) w:=by
  rintro v ok hv rfl
  refine st.putRef (d:=.tup [f (kGet z m k),.bool (kHas m k)]) (v:=.tuple #[v,.bool (kHas m k)]) ht ⟨[v,.bool (kHas m k)],fun _=>[],by rw [put_get a t _ t (by rw [st.size]; exact ht)]; simp,rfl,(flat0 _).symm,fun j hj=>.inr ?_⟩
  have hup : ∀ d v,VR w ρ (gd C Fe Fb) (fun i=>(σ.box i).isSome) d v [] -> VR w ρ (gd C (upd Fe t []) Fb) (fun i=>(σ.box i).isSome) d v []:=
   fun d v h=>h.mono (fun _ _ _=>rfl) (fun b hb _=>⟨hb.1,fun ho=>hb.2 (own_upd ho)⟩) (fun i hi=>⟨hi,rfl⟩)
  match j,hj with
  | 0,_=>exact ⟨hr _,hup _ _ hv⟩
  | 1,_=>exact ⟨rfl,hup _ _ (by simp only [List.getElem_cons_succ,List.getElem_cons_zero,VR,D.isAgg,Bool.false_eq_true,if_false]; exact .bool _)⟩
 by_cases hin : kIdx m k < m.length
 · have hgv : kGet z m k = m[kIdx m k].2:=by simp [kGet,hin]
   obtain ⟨q1,q2,q3⟩:=h4 _ hin
   have hsz : kIdx m k < es.size:=by omega
   have hgd : es.getD (kIdx m k) default = es[kIdx m k]:=by simp [Array.getD_eq_getD_getElem?,hsz]
   rw [hgd] at q2
   refine ⟨.tuple #[es[kIdx m k].val,.bool true],w, ?_,fin _ _ (by rw [hgv]; exact q2) ((kIdx_lt m k).1 hin).symm⟩
   unfold execOp
   simp [Instr.lookup,run_underlying hT.u,eval_tmp hp,MapKept.run_getObj_map h2,hck,hfk,hin,hsz]
 · have hle : kIdx m k <= m.length:=List.findIdx_le_length
   have hgv : kGet z m k = z:=by simp [kGet,show kIdx m k = m.length by omega]
   have hno : kHas m k = false:=by
    cases hh : kHas m k with
    | false=>rfl
    | true=>exact absurd ((kIdx_lt m k).2 hh) hin
   refine ⟨.tuple #[zv,.bool false],w, ?_,fin _ _ (by rw [hgv]; exact hzv) hno.symm⟩
   unfold execOp
   simp [Instr.lookup,run_underlying hT.u,eval_tmp hp,MapKept.run_getObj_map h2,hck,hfk,hin,zeroValue,typeInfo,z1,z2]
omit [DecidableEq κ] in
theorem R.mkmapK {t ty rt : TypeId} (kd : κ -> D) (f : α -> D) (hid : σ.box t = none) (ht : t < σ.n) : OpS P C ⟨some t,.makeMap ty none,rt,pos,aft,g⟩ σ ((σ.newB t (mpK kd f [])).set t (.map t)):=R.mkmap hid ht
theorem W.dropBP {c : Code} {Q : Exit -> Sg -> Prop} (ids : List Nat) {bx' : List (Nat × Bx)} (hb : keepB ids σ.bx = bx') (he : okEnvB ids σ.env = true) (hx : okBxP ids bx') (hpn : ∀ id b,C.pin id = some b -> memB ids id = true) (h : W P C c Q ⟨σ.n,σ.env,bx'⟩) : W P C c Q σ:=by
 intro a w ⟨ρ,Fe,Fb,st⟩
 refine h a w ?_
 have hl : ∀ u,lk bx' u = if memB ids u then σ.box u else none:=fun u=>by rw [<- hb]; exact lk_keepB ids σ.bx u
 have hsub : ∀ id,∀ b ∈ (if memB ids id then Fb id else []),b ∈ Fb id:=fun id b hm=>by split at hm; exact hm; cases hm
 have hown : ∀ b,own Fe (fun id=>if memB ids id then Fb id else []) b -> own Fe Fb b:=fun b hb=>hb.imp id fun ⟨i,hi⟩=>⟨i,hsub i b hi⟩
 have hgd : ∀ b,gd C Fe Fb b -> gd C Fe (fun id=>if memB ids id then Fb id else []) b:=fun b hb=>⟨hb.1,fun hc=>hb.2 (hown b hc)⟩
 have hL : ∀ id,(memB ids id = true /\ (σ.box id).isSome) -> (lk bx' id).isSome:=fun id ⟨h1,h2⟩=>by rw [hl,if_pos h1]; exact h2
 exact ⟨ρ,Fe,(fun id=>if memB ids id then Fb id else []),{
  size:=st.size
  defs:=st.defs
  pin:=fun id b hp=>⟨(st.pin id b hp).1,hL id ⟨hpn id b hp,(st.pin id b hp).2⟩⟩
  env:=fun t d hd=>(st.env t d hd).okB (okEnvB_get he hd) (fun b hb _=>hgd b hb) hL
  envN:=st.envN
  bx:=fun id b hd=>by
   have hok:=okBxP_get hx hd
   have h1:=hl id
   by_cases hm : memB ids id = true
   · rw [if_pos hm] at h1
     have h2 : σ.box id = some b:=by rw [<- h1]; exact hd
     have hF' : (if memB ids id then Fb id else []) = Fb id:=if_pos hm
     show BR w ρ _ _ (ρ id) b (if memB ids id then Fb id else [])
     rw [hF']
     exact ((st.bx id b h2).okB hok).mono (fun _ _ _=>rfl) (fun b hb _=>hgd b hb) (fun id hid=>⟨hL id hid,rfl⟩)
   · rw [if_neg hm] at h1
     rw [show lk bx' id = some b from hd] at h1
     cases h1
  bxN:=fun id hn=>by
   have h1:=hl id
   by_cases hm : memB ids id = true
   · rw [if_pos hm] at h1
     simp only [hm,if_true]
     exact st.bxN id (by rw [<- h1]; exact hn)
   · simp [hm]
  nodE:=st.nodE
  nodB:=fun id=>by show (if memB ids id then Fb id else []).Nodup; split; exact st.nodB id; exact List.nodup_nil
  dEE:=st.dEE
  dEB:=fun t id b hb hm=>st.dEB t id b hb (hsub id b hm)
  dBB:=fun id id' hne b hb hm=>st.dBB id id' hne b (hsub id b hb) (hsub id' b hm)
  new:=fun b hb=>st.new b (hown b hb)
  kept:=st.kept
  os:=st.os
  tape:=st.tape
  output:=st.output
  grown:=st.grown
  gl:=st.gl
  okN:=st.okN
  okO:=fun b hb=>st.okO b (hown b hb) }⟩
omit [DecidableEq κ] in
theorem okMpK {ids : List Nat} {kd : κ -> D} {f : α -> D} {m : List (κ × α)} (h1 : ∀ a,(kd a).okB ids = true) (h2 : ∀ u,(f u).okB ids = true) : ∀ kv ∈ m.map (fun e=>(kd e.1,f e.2)),kv.1.okB ids = true /\ kv.2.okB ids = true:=fun kv hkv=>by
 obtain ⟨e,_,rfl⟩:=List.mem_map.1 hkv
 exact ⟨h1 _,h2 _⟩
end Go.Sx

namespace Go.Sx
variable {P : Program} {C : Ctx} {σ σ' σ1 : Sg} {a : Act} {w w' : World} {ρ : Nat -> Nat} {Fe Fe' Fb : Nat -> List Nat}
end Go.Sx

namespace Go.Sx
variable {P : Program} {C : Ctx} {σ σ' σ1 : Sg} {a : Act} {w w' : World} {ρ : Nat -> Nat} {Fe Fe' Fb : Nat -> List Nat}
theorem St.rebox {bx' : List (Nat × Bx)} (h : St C σ a w) (hb : ∀ id,lk bx' id = σ.box id) : St C ⟨σ.n,σ.env,bx'⟩ a w:=by
 obtain ⟨ρ,Fe,Fb,st⟩:=h
 have hbox : ∀ id,(⟨σ.n,σ.env,bx'⟩ : Sg).box id = σ.box id:=hb
 have hL : (fun id=>((⟨σ.n,σ.env,bx'⟩ : Sg).box id).isSome = true) = (fun id=>(σ.box id).isSome = true):=by
  funext id; rw [hbox]
 refine ⟨ρ,Fe,Fb,{
  size:=st.size
  defs:=st.defs
  pin:=fun id b hp=>⟨(st.pin id b hp).1,by rw [hbox]; exact (st.pin id b hp).2⟩
  env:=fun t d hd=>by rw [hL]; exact st.env t d hd
  envN:=fun t ht=>st.envN t ht
  bx:=fun id d hd=>by rw [hL]; exact st.bx id d (by rw [<- hbox]; exact hd)
  bxN:=fun id hd=>st.bxN id (by rw [<- hbox]; exact hd)
  nodE:=st.nodE
  nodB:=st.nodB
  dEE:=st.dEE
  dEB:=st.dEB
  dBB:=st.dBB
  new:=st.new
  kept:=st.kept
  os:=st.os
  tape:=st.tape
  output:=st.output
  grown:=st.grown
  gl:=st.gl
  okN:=st.okN
  okO:=st.okO }⟩
abbrev Efs:=List (Nat × List (Nat × Bx))
def bxk (an : List Nat) (i id : Nat) : Efs -> Option Bx -> Option Bx
 | [],cur=>cur
 | (j,l) :: r,cur=>match lk l id with
  | none=>bxk an i id r cur
  | some x=>bif tb (nth an i) j then bxk an i id r (some x) else bif Nat.beq i j || tb (nth an j) i then bxk an i id r cur else bxk an i id r none
def bxL (f : Nat -> Bool) (id : Nat) : Efs -> Option Bx -> Option Bx
 | [],cur=>cur
 | (j,l) :: r,cur=>match lk l id with
  | none=>bxL f id r cur
  | some x=>bif f j then bxL f id r (some x) else bxL f id r cur
def touch (l m : List (Nat × Bx)) : Bool:=l.any fun x=>(lk m x.1).isSome
def okEf1 (an : List Nat) (j : Nat) (l : List (Nat × Bx)) : Efs -> Bool
 | []=>true
 | (k,m) :: r=>(!(Nat.beq j k) && (!(touch l m) || tb (nth an k) j)) && okEf1 an j l r
def okEf (an : List Nat) (m : Nat) : Efs -> Bool
 | []=>true
 | (j,l) :: r=>Nat.blt j m && okEf1 an j l r && okEf an m r
def freB1 (an : List Nat) (i id : Nat) : Efs -> Bool
 | []=>true
 | (k,m) :: r=>(Nat.beq k i || (lk m id).isNone || tb (nth an k) i) && freB1 an i id r
def freB (an : List Nat) (bx0 : List (Nat × Bx)) (efs : Efs) (i id : Nat) : Bool:=(lk bx0 id).isNone && freB1 an i id efs
def okAlbs (env : List (Nat × D)) (an : List Nat) (ks : List (Nat × Nat)) (its : List It) : Efs -> Bool
 | []=>true
 | (i,l) :: r=>(okAlbE (l.map Prod.fst) ks i env && okAlbI (l.map Prod.fst) an ks i its 0) && okAlbs env an ks its r
theorem okEf1_all {an : List Nat} {j : Nat} {l : List (Nat × Bx)} : ∀ {r : Efs},okEf1 an j l r = true -> ∀ x ∈ r,(!(Nat.beq j x.1) && (!(touch l x.2) || tb (nth an x.1) j)) = true:=by
 intro r
 induction r with
 | nil=>intro _ x hx; cases hx
 | cons y r ih=>
  obtain ⟨k,m⟩:=y
  intro h x hx
  simp only [okEf1] at h
  rw [Bool.and_eq_true] at h
  rcases List.mem_cons.1 hx with rfl | hx
  · exact h.1
  · exact ih h.2 x hx
theorem freB1_all {an : List Nat} {i id : Nat} : ∀ {r : Efs},freB1 an i id r = true -> ∀ x ∈ r,(Nat.beq x.1 i || (lk x.2 id).isNone || tb (nth an x.1) i) = true:=by
 intro r
 induction r with
 | nil=>intro _ x hx; cases hx
 | cons y r ih=>
  obtain ⟨k,m⟩:=y
  intro h x hx
  simp only [freB1] at h
  rw [Bool.and_eq_true] at h
  rcases List.mem_cons.1 hx with rfl | hx
  · exact h.1
  · exact ih h.2 x hx
theorem okAlbs_all {env : List (Nat × D)} {an : List Nat} {ks : List (Nat × Nat)} {its : List It} : ∀ {r : Efs},okAlbs env an ks its r = true -> ∀ x ∈ r,(okAlbE (x.2.map Prod.fst) ks x.1 env && okAlbI (x.2.map Prod.fst) an ks x.1 its 0) = true:=by
 intro r
 induction r with
 | nil=>intro _ x hx; cases hx
 | cons y r ih=>
  obtain ⟨k,m⟩:=y
  intro h x hx
  simp only [okAlbs] at h
  rw [Bool.and_eq_true] at h
  rcases List.mem_cons.1 hx with rfl | hx
  · exact h.1
  · exact ih h.2 x hx
def bxA : Efs -> List (Nat × Bx) -> List (Nat × Bx)
 | [],b=>b
 | (_,l) :: r,b=>bxA r (l ++ b)
def rmB (k : Nat) : List (Nat × Bx) -> List (Nat × Bx)
 | []=>[]
 | (j,x) :: r=>bif Nat.beq j k then rmB k r else (j,x) :: rmB k r
def ddB : Nat -> List (Nat × Bx) -> List (Nat × Bx)
 | 0,l=>l
 | _ + 1,[]=>[]
 | n + 1,(k,x) :: r=>(k,x) :: ddB n (rmB k r)
theorem lk_rmB (k : Nat) (l : List (Nat × Bx)) (u : Nat) (h : u ≠ k) : lk (rmB k l) u = lk l u:=by
 induction l with
 | nil=>rfl
 | cons y r ih=>
  obtain ⟨j,x⟩:=y
  simp only [rmB]
  by_cases hj : j = k
  · subst hj
    simp only [Nat.beq_refl,cond_true,lk_cons,ih]
    rw [if_neg (fun e=>h e.symm)]
  · simp only [nbeq hj,cond_false,lk_cons,ih]
theorem lk_ddB : ∀ (n : Nat) (l : List (Nat × Bx)) (u : Nat),lk (ddB n l) u = lk l u:=by
 intro n
 induction n with
 | zero=>intro l u; rfl
 | succ n ih=>
  intro l u
  cases l with
  | nil=>rfl
  | cons y r=>
   obtain ⟨k,x⟩:=y
   simp only [ddB,lk_cons,ih]
   by_cases hk : k = u
   · simp [hk]
   · simp only [hk,if_false]; exact lk_rmB k r u (fun e=>hk e.symm)
theorem lk_bxA (efs : Efs) : ∀ (b : List (Nat × Bx)) (u : Nat),lk (bxA efs b) u = bxL (fun _=>true) u efs (lk b u):=by
 induction efs with
 | nil=>intro b u; rfl
 | cons y r ih=>
  obtain ⟨j,l⟩:=y
  intro b u
  simp only [bxA,bxL,ih,lk_append]
  cases lk l u <;> rfl
section
variable {listed : Array Bool} {ops : List Oper} {an : List Nat} {ks kk : List (Nat × Nat)} {its : List It} {Q : Exit -> Sg -> Prop}
theorem bxL_congr {f g : Nat -> Bool} {id : Nat} : ∀ {efs : Efs} {c : Option Bx},(∀ j l,(j,l) ∈ efs -> (lk l id).isSome = true -> f j = g j) -> bxL f id efs c = bxL g id efs c:=by
 intro efs
 induction efs with
 | nil=>intro c _; rfl
 | cons y r ih=>
  obtain ⟨j,l⟩:=y
  intro c h
  simp only [bxL]
  cases hl : lk l id with
  | none=>exact ih (fun j' l' hm=>h j' l' (List.mem_cons_of_mem _ hm))
  | some x=>
   simp only
   rw [h j l (by simp) (by rw [hl]; rfl)]
   cases g j <;> exact ih (fun j' l' hm=>h j' l' (List.mem_cons_of_mem _ hm))
theorem bxL_off {f : Nat -> Bool} {id : Nat} : ∀ {efs : Efs} {c : Option Bx},(∀ j l,(j,l) ∈ efs -> (lk l id).isSome = true -> f j = false) -> bxL f id efs c = c:=by
 intro efs
 induction efs with
 | nil=>intro c _; rfl
 | cons y r ih=>
  obtain ⟨j,l⟩:=y
  intro c h
  simp only [bxL]
  cases hl : lk l id with
  | none=>exact ih (fun j' l' hm=>h j' l' (List.mem_cons_of_mem _ hm))
  | some x=>
   simp only
   rw [h j l (by simp) (by rw [hl]; rfl)]
   exact ih (fun j' l' hm=>h j' l' (List.mem_cons_of_mem _ hm))
theorem bxk_ok {f : Nat -> Bool} {i id : Nat} {x : Bx} (hi : f i = false) : ∀ {efs : Efs} {ck cb : Option Bx},(∀ j l,(j,l) ∈ efs -> tb (nth an i) j = true -> f j = true) -> (∀ j l,(j,l) ∈ efs -> tb (nth an j) i = true -> f j = false) ->
 (∀ x,ck = some x -> cb = some x) -> bxk an i id efs ck = some x -> bxL f id efs cb = some x:=by
 intro efs
 induction efs with
 | nil=>intro ck cb _ _ h hx; exact h x hx
 | cons y r ih=>
  obtain ⟨j,l⟩:=y
  intro ck cb h1 h2 h hx
  simp only [bxk] at hx
  simp only [bxL]
  have h1' : ∀ j l,(j,l) ∈ r -> tb (nth an i) j = true -> f j = true:=fun j' l' hm=>h1 j' l' (List.mem_cons_of_mem _ hm)
  have h2' : ∀ j l,(j,l) ∈ r -> tb (nth an j) i = true -> f j = false:=fun j' l' hm=>h2 j' l' (List.mem_cons_of_mem _ hm)
  cases hl : lk l id with
  | none=>rw [hl] at hx; exact ih h1' h2' h hx
  | some z=>
   rw [hl] at hx
   simp only at hx ⊢
   cases ha : tb (nth an i) j with
   | true=>
    rw [ha] at hx
    rw [h1 j l (by simp) ha]
    exact ih h1' h2' (fun _ h=>h) hx
   | false=>
    rw [ha] at hx
    simp only [cond_false] at hx
    cases hb : (Nat.beq i j || tb (nth an j) i) with
    | true=>
     rw [hb] at hx
     have : f j = false:=by
      rcases Bool.or_eq_true _ _ ▸ hb with hb | hb
      · rw [<- Nat.eq_of_beq_eq_true hb]; exact hi
      · exact h2 j l (by simp) hb
     rw [this]
     exact ih h1' h2' h hx
    | false=>
     rw [hb] at hx
     simp only [cond_false] at hx
     cases f j with
     | true=>exact ih h1' h2' (fun _ h=>by cases h) hx
     | false=>exact ih h1' h2' (fun _ h=>by cases h) hx
theorem touch_mk {l m : List (Nat × Bx)} {id : Nat} (h1 : (lk l id).isSome = true) (h2 : (lk m id).isSome = true) : touch l m = true:=by
 obtain ⟨x,hx⟩:=Option.isSome_iff_exists.1 h1
 exact List.any_eq_true.2 ⟨(id,x),lk_mem hx,h2⟩
theorem bxL_set {f : Nat -> Bool} {m i id : Nat} {l : List (Nat × Bx)} (hi : f i = false) : ∀ {efs : Efs} {c : Option Bx},okEf an m efs = true -> (i,l) ∈ efs -> (∀ j l,(j,l) ∈ efs -> tb (nth an j) i = true -> f j = false) ->
 bxL (fun j=>f j || Nat.beq j i) id efs c = (match lk l id with | some x=>some x | none=>bxL f id efs c):=by
 intro efs
 induction efs with
 | nil=>intro c _ h; cases h
 | cons y r ih=>
  obtain ⟨j,l0⟩:=y
  intro c hok hm h2
  simp only [okEf,Bool.and_eq_true] at hok
  obtain ⟨⟨_,hr⟩,hok'⟩:=hok
  have hr' : ∀ j' l',(j',l') ∈ r -> j' ≠ j /\ (touch l0 l' = true -> tb (nth an j') j = true):=fun j' l' hm'=>by
   have:=okEf1_all hr _ hm'
   simp only [Bool.and_eq_true,Bool.not_eq_true',Bool.or_eq_true] at this
   refine ⟨fun e=>?_,fun ht=>?_⟩
   · subst e; simp at this
   · rcases this.2 with h | h
     · rw [ht] at h; cases h
     · exact h
  by_cases hji : j = i
  · subst hji
    have hl : l = l0:=by
     rcases List.mem_cons.1 hm with h | h
     · cases h; rfl
     · exact absurd rfl (hr' j l h).1
    subst hl
    have hrest : ∀ c,bxL (fun j'=>f j' || Nat.beq j' j) id r c = bxL f id r c:=fun c=>bxL_congr fun j' l' hm' _=>by rw [nbeq (hr' j' l' hm').1,Bool.or_false]
    simp only [bxL]
    cases hl : lk l id with
    | none=>simp only; exact hrest c
    | some x=>
     simp only [Nat.beq_refl,Bool.or_true,cond_true]
     rw [hrest]
     exact bxL_off fun j' l' hm' hs=>h2 j' l' (List.mem_cons_of_mem _ hm') ((hr' j' l' hm').2 (touch_mk (by rw [hl]; rfl) hs))
  · have hm' : (i,l) ∈ r:=by
     rcases List.mem_cons.1 hm with h | h
     · cases h; exact absurd rfl hji
     · exact h
    have h2' : ∀ j l,(j,l) ∈ r -> tb (nth an j) i = true -> f j = false:=fun j' l' hm'=>h2 j' l' (List.mem_cons_of_mem _ hm')
    simp only [bxL,nbeq hji,Bool.or_false]
    cases lk l0 id with
    | none=>exact ih hok' hm' h2'
    | some x=>cases f j <;> exact ih hok' hm' h2'
theorem okEf_lt {m : Nat} {efs : Efs} (h : okEf an m efs = true) : ∀ j l,(j,l) ∈ efs -> j < m:=by
 induction efs with
 | nil=>intro j l hm; cases hm
 | cons y r ih=>
  obtain ⟨j0,l0⟩:=y
  simp only [okEf,Bool.and_eq_true] at h
  intro j l hm
  rcases List.mem_cons.1 hm with e | e
  · cases e; exact Nat.le_of_ble_eq_true h.1.1
  · exact ih h.2 j l e
theorem lk_some {α : Type} {r : List (Nat × α)} {k : Nat} {x : α} (h : (k,x) ∈ r) : (lk r k).isSome = true:=by
 induction r with
 | nil=>cases h
 | cons y r ih=>
  obtain ⟨j,z⟩:=y
  rw [lk_cons]
  rcases List.mem_cons.1 h with e | e
  · cases e; simp
  · split
    · rfl
    · exact ih e
def SpE (P : Program) (C : Ctx) (σ : Sg) (efs : Efs) (i : Nat) (l : List (Nat × Bx)) (an : List Nat) (ks : List (Nat × Nat)) (its : List It) (o : Oper) (t : Nat) (d : D) : Prop:=
 ∀ τ : Sg,τ.n = σ.n -> (∀ id x,bxk an i id efs (lk σ.bx id) = some x -> τ.box id = some x) -> (∀ id,freB an σ.bx efs i id = true -> τ.box id = none) -> (∀ u x,facts an ks σ.env its i u = some x -> τ.get u = some x) ->
  ∃ τ' : Sg,OpS P C o τ (match o.dst with | some _=>τ'.set t d | none=>τ') /\ τ'.n = τ.n /\ (∀ id,τ'.box id = match lk l id with | some x=>some x | none=>τ.box id) /\
   ∀ u y,(∀ k s,(k,s) ∈ ks -> s = u -> k ≠ i) -> τ.get u = some y -> y.albIn (l.map Prod.fst) = false -> τ'.get u = some y
def dstE (n : Nat) (ks : List (Nat × Nat)) (o : Oper) (i t : Nat) : Prop:=
 match o.dst with
 | some t'=>t' = t /\ t < n
 | none=>has ks i t = true
def AllE (P : Program) (C : Ctx) (σ : Sg) (efs : Efs) (ops : List Oper) (an : List Nat) (ks kk : List (Nat × Nat)) (its : List It) : List Oper -> List It -> Nat -> Prop
 | o :: os,⟨t,d,wt⟩ :: r,i=>(match lk efs i with
  | some l=>o.guard = none /\ wt = true /\ dstE σ.n ks o i t /\ SpE P C σ efs i l an ks its o t d
  | none=>o.dst = some t /\ t < σ.n /\ Wt ops (facts an ks σ.env its i) o wt /\
  (wt = true -> ∀ τ : Sg,(∀ id x,bxk an i id efs (lk σ.bx id) = some x -> τ.box id = some x) -> t < τ.n -> (∀ u x,facts an ks σ.env its i u = some x -> τ.get u = some x) -> OpS P C o τ ((killS τ kk i).set t d))) /\
  AllE P C σ efs ops an ks kk its os r (i + 1)
 | [],_ :: _,_=>False
 | _,[],_=>True
theorem AllE.at {efs : Efs} : ∀ {os : List Oper} {r : List It} {i0 : Nat},AllE P C σ efs ops an ks kk its os r i0 -> ∀ {k : Nat} {t : Nat} {d : D} {wt : Bool},r[k]? = some ⟨t,d,wt⟩ ->
 ∃ o,os[k]? = some o /\ (match lk efs (i0 + k) with
  | some l=>o.guard = none /\ wt = true /\ dstE σ.n ks o (i0 + k) t /\ SpE P C σ efs (i0 + k) l an ks its o t d
  | none=>o.dst = some t /\ t < σ.n /\ Wt ops (facts an ks σ.env its (i0 + k)) o wt /\
  (wt = true -> ∀ τ : Sg,(∀ id x,bxk an (i0 + k) id efs (lk σ.bx id) = some x -> τ.box id = some x) -> t < τ.n -> (∀ u x,facts an ks σ.env its (i0 + k) u = some x -> τ.get u = some x) -> OpS P C o τ ((killS τ kk (i0 + k)).set t d))):=by
 intro os r
 induction r generalizing os with
 | nil=>intro i0 _ k t d wt hk; simp at hk
 | cons y r ih=>
  intro i0 h k t d wt hk
  obtain ⟨t',d',w'⟩:=y
  cases os with
  | nil=>exact h.elim
  | cons o os=>
   cases k with
   | zero=>
    simp at hk
    obtain ⟨rfl,rfl,rfl⟩:=hk
    exact ⟨o,rfl,h.1⟩
   | succ k=>
    obtain ⟨o',h1,h2⟩:=ih h.2 (k:=k) (by simpa using hk)
    rw [show i0 + (k + 1) = i0 + 1 + k by omega]
    exact ⟨o',by simpa using h1,h2⟩
theorem draw_after0 {N : Nat} (H : ItG ⟨N,σ.env,σ.bx⟩ ops an ks its) (hsize : listed.size = ops.length) {i t : Nat} {d : D} {wt : Bool} (hit : its[i]? = some ⟨t,d,wt⟩) (hun : listed.getD i true = false)
 (hanc : ∀ j,j < ops.length -> tb (nth an i) j = true -> listed.getD j false = true) (hnot : ∀ j,j < ops.length -> tb (nth an j) i = true -> listed.getD j false = false) {ids : List Nat} (hE : okAlbE ids ks i σ.env = true) (hI : okAlbI ids an ks i its 0 = true) (hkt : (i,t) ∈ ks)
 {τ : Sg} (hinv : InvG σ an ks its listed τ) (τ2 : Sg)
 (hg2 : ∀ u y,(∀ k s,(k,s) ∈ ks -> s = u -> k ≠ i) -> τ.get u = some y -> y.albIn ids = false -> τ2.get u = some y) : InvG σ an ks its (listed.setIfInBounds i true) τ2:=by
 obtain ⟨hnd,hlt⟩:=okTs_ok H.ts
 obtain ⟨hin,hif⟩:=undone hun
 intro u y hy
 unfold afts at hy
 cases hbd : bads (fun j=>(listed.setIfInBounds i true).getD j false && !(cov an (fun j=>(listed.setIfInBounds i true).getD j false) its u j)) ks u with
 | true=>rw [hbd] at hy; cases hy
 | false=>
  rw [hbd] at hy
  simp only [cond_false] at hy
  rw [bads_false] at hbd
  have hii : (listed.setIfInBounds i true).getD i false = true:=by simp [hin]
  have hcov : u ≠ t -> ∀ k,cov an (fun j=>(listed.setIfInBounds i true).getD j false) its u k = true -> cov an (fun j=>listed.getD j false) its u k = true /\ k ≠ i:=by
   intro hut k hc
   obtain ⟨j,dj,wj,h1,h2,h3,h4⟩:=cov_true hc
   have hji : i ≠ j:=by
    rintro rfl
    rw [hit] at h2
    cases h2
    exact hut rfl
   rw [getD_set_ne false hji] at h3
   refine ⟨cov_mk h1 h3 h4, ?_⟩
   rintro rfl
   have hjl : j < ops.length:=Nat.lt_of_lt_of_le (List.getElem?_eq_some_iff.1 h2).1 H.len
   rw [hnot j hjl h4] at h3
   cases h3
  by_cases hut : u = t
  · subst hut
    exfalso
    have h1:=hbd i u hkt rfl
    rw [hii] at h1
    simp only [Bool.true_and,Bool.not_eq_false'] at h1
    obtain ⟨j,dj,wj,q1,q2,q3,q4⟩:=cov_true h1
    have hji : j = i:=by
     have e1 : (slots its)[j]? = some u:=by rw [slots_get,q2]; rfl
     have e2 : (slots its)[i]? = some u:=by rw [slots_get,hit]; rfl
     obtain ⟨l1,e1'⟩:=List.getElem?_eq_some_iff.1 e1
     obtain ⟨l2,e2'⟩:=List.getElem?_eq_some_iff.1 e2
     exact (List.getElem_inj hnd).1 (e1'.trans e2'.symm)
    subst hji
    have hjl : j < ops.length:=Nat.lt_of_lt_of_le (List.getElem?_eq_some_iff.1 q2).1 H.len
    have:=hanc j hjl q4
    rw [hif] at this
    cases this
  · have hki : ∀ k s,(k,s) ∈ ks -> s = u -> k ≠ i:=by
     rintro k s hm hsu rfl
     have h1:=hbd k s hm hsu
     rw [hii] at h1
     simp only [Bool.true_and,Bool.not_eq_false'] at h1
     exact (hcov hut k h1).2 rfl
    have hbd2 : bads (fun j=>listed.getD j false && !(cov an (fun j=>listed.getD j false) its u j)) ks u = false:=by
     rw [bads_false]
     intro k s hm hsu
     have h1:=hbd k s hm hsu
     have h2:=hki k s hm hsu
     rw [getD_set_ne false (fun e=>h2 e.symm)] at h1
     cases hd : listed.getD k false with
     | false=>rfl
     | true=>
      rw [hd] at h1
      simp only [Bool.true_and,Bool.not_eq_false'] at h1 ⊢
      exact (hcov hut k h1).1
    have hold : afts an (fun j=>listed.getD j false) ks σ.env its u = some y /\ y.albIn ids = false:=by
     unfold afts
     rw [hbd2]
     simp only [cond_false]
     rcases slot_cases its u with hu | ⟨k,dk,wk,hk⟩
     · rw [looks_none hu] at hy ⊢
       exact ⟨hy,(okAlbE_ok hE hy).resolve_right fun h=>hki i u h rfl rfl⟩
     · rw [looks_at hnd hk] at hy ⊢
       simp only [Nat.zero_add] at hy ⊢
       have hne : i ≠ k:=by
        rintro rfl
        rw [hit] at hk
        cases hk
        exact hut rfl
       rw [getD_set_ne false hne] at hy
       refine ⟨hy, ?_⟩
       cases hd : listed.getD k false with
       | false=>
        rw [hd] at hy
        exact (okAlbE_ok hE hy).resolve_right fun h=>hki i u h rfl rfl
       | true=>
        rw [hd] at hy
        simp only [cond_true] at hy
        cases wk with
        | false=>simp at hy; subst hy; simp [D.albIn]
        | true=>
         simp at hy
         subst hy
         rcases okAlbI_ok hI hk with h | h | h
         · exact h
         · exact absurd rfl (hki i u h rfl)
         · simp only [Nat.zero_add] at h
           rw [hnot k (by rw [<- hsize]; exact getD_true hd) h] at hd
           cases hd
    exact hg2 u y hki (hinv u y hold.1) hold.2
structure ItE (σ : Sg) (efs : Efs) (ops : List Oper) (an : List Nat) (ks : List (Nat × Nat)) (its : List It) : Prop where
 N : ∃ N,okTs N (slots its) = true
 len : its.length <= ops.length
 ref : okRef an ks (slots its) its 0 = true
 env : okEnv (slots its) σ.env = true
 ef : okEf an its.length efs = true
 alb : okAlbs σ.env an ks its efs = true
def bxAtE (σ : Sg) (efs : Efs) (listed : Array Bool) (τ : Sg) : Prop:=∀ id,τ.box id = bxL (fun j=>listed.getD j false) id efs (lk σ.bx id)
theorem draw_stepE {efs : Efs} (H : ItE σ efs ops an ks its) (hall : AllE P C σ efs ops an ks kk its ops its 0) (hsub : subs kk ks = true)
 (hsize : listed.size = ops.length) {i : Nat} {oi : Oper} (hi : i < its.length) (ho : ops[i]? = some oi) (hun : listed.getD i true = false)
 (hanc : ∀ j,j < ops.length -> tb (nth an i) j = true -> listed.getD j false = true) (hnot : ∀ j,j < ops.length -> tb (nth an j) i = true -> listed.getD j false = false)
 {τ : Sg} (hs : St C τ a w) (hn : τ.n = σ.n) (hb : bxAtE σ efs listed τ) (hinv : InvG σ an ks its listed τ) {K : Act -> World -> Prop} {Q : Exit -> Act -> World -> Prop}
 (hK : ∀ a' w' τ',St C τ' a' w' -> τ'.n = σ.n -> bxAtE σ efs (listed.setIfInBounds i true) τ' -> InvG σ an ks its (listed.setIfInBounds i true) τ' -> K a' w') :
 Region.wanted oi (yielded ops.toArray a.tmps) = true /\ oi.wpIn (Fx C) 3 P a w K Q ∨ Region.wanted oi (yielded ops.toArray a.tmps) = false /\ K (a.put oi.dst undef) w:=by
 obtain ⟨N,hN⟩:=H.N
 have HG : ItG ⟨N,σ.env,σ.bx⟩ ops an ks its:=⟨H.len,hN,H.ref,H.env⟩
 obtain ⟨⟨t,d,wt⟩,hit⟩ : ∃ it,its[i]? = some it:=⟨its[i],List.getElem?_eq_getElem hi⟩
 obtain ⟨o,ho',hcl⟩:=hall.at hit
 rw [ho] at ho'
 cases ho'
 simp only [Nat.zero_add] at hcl
 obtain ⟨hin,hif⟩:=undone hun
 have hil : i < ops.length:=by rw [<- hsize]; exact hin
 have hfact : ∀ u x,facts an ks σ.env its i u = some x -> τ.get u = some x:=draw_facts HG hsize hi hun hanc hnot hinv
 have hefl : ∀ j l,(j,l) ∈ efs -> j < ops.length:=fun j l hm=>Nat.lt_of_lt_of_le (okEf_lt H.ef j l hm) H.len
 have hbx : ∀ id x,bxk an i id efs (lk σ.bx id) = some x -> τ.box id = some x:=fun id x hx=>by
  rw [hb id]
  exact bxk_ok hif (fun j l hm ht=>hanc j (hefl j l hm) ht) (fun j l hm ht=>hnot j (hefl j l hm) ht) (fun _ h=>h) hx
 cases hef : lk efs i with
 | some l=>
  rw [hef] at hcl
  simp only at hcl
  obtain ⟨hg,rfl,hdst,hsp⟩:=hcl
  have hm:=mem_of_lk hef
  have halb:=okAlbs_all H.alb _ hm
  simp only [Bool.and_eq_true] at halb
  have hfre : ∀ id,freB an σ.bx efs i id = true -> τ.box id = none:=fun id hf=>by
   unfold freB at hf
   simp only [Bool.and_eq_true,Option.isNone_iff_eq_none] at hf
   rw [hb id,hf.1]
   refine bxL_off fun j l hm hs=>?_
   have:=freB1_all hf.2 _ hm
   simp only [Bool.or_eq_true,Option.isNone_iff_eq_none] at this
   rcases this with (h | h) | h
   · rw [Nat.eq_of_beq_eq_true h]; exact hif
   · rw [h] at hs; cases hs
   · exact hnot j (hefl j l hm) h
  obtain ⟨τ',h1,h2,h3,h4⟩:=hsp τ hn hbx hfre hfact
  have hbn : ∀ id,τ'.box id = bxL (fun j=>(listed.setIfInBounds i true).getD j false) id efs (lk σ.bx id):=fun id=>by
   rw [h3 id,hb id]
   rw [<- bxL_set (f:=fun j=>listed.getD j false) hif H.ef hm (fun j l hm ht=>hnot j (hefl j l hm) ht)]
   refine bxL_congr fun j l hm _=>?_
   by_cases hji : j = i
   · subst hji; simp [hin]
   · rw [getD_set_ne false (fun e=>hji e.symm),nbeq hji,Bool.or_false]
  refine .inl ⟨Region.wanted_none hg _,h1 a w hs _ _ fun a' w' hs'=>?_⟩
  unfold dstE at hdst
  cases hd : oi.dst with
  | none=>
   rw [hd] at hdst hs'
   exact hK a' w' _ hs' (h2.trans hn) hbn (draw_after0 HG hsize hit hun hanc hnot halb.1 halb.2 (has_ok hdst) hinv τ' h4)
  | some t'=>
   rw [hd] at hdst hs'
   exact hK a' w' _ hs' (h2.trans hn) hbn (draw_after HG hsize hit hun hnot halb.1 halb.2 hinv d rfl τ' h4)
 | none=>
  rw [hef] at hcl
  simp only at hcl
  obtain ⟨hdst,htn0,hwt,hop⟩:=hcl
  have htn : t < τ.n:=by rw [hn]; exact htn0
  have hEi : okAlbE [] ks i σ.env = true:=okAlbE_nil _
  have hIi : ∀ j,okAlbI [] an ks i its j = true:=fun j=>okAlbI_nil _ j
  have hbn : ∀ τ' : Sg,τ'.bx = τ.bx -> bxAtE σ efs (listed.setIfInBounds i true) τ':=fun τ' hbb id=>by
   have : τ'.box id = τ.box id:=by simp only [Sg.box,hbb]
   rw [this,hb id]
   refine bxL_congr fun j l hm _=>?_
   rw [getD_set_ne false]
   rintro rfl
   have:=lk_some hm
   rw [hef] at this
   cases this
  rw [hwt.ok hs hfact]
  have hkn:=killS_n τ kk i
  cases hwt2 : wt with
  | false=>
   refine .inr ⟨rfl, ?_⟩
   rw [hdst]
   exact hK _ _ _ (hs.unwanted htn) hn (hbn _ rfl) (draw_after HG hsize hit hun hnot hEi (hIi 0) hinv (.tup []) (by rw [hwt2]; rfl) τ (fun u y _ h _=>h))
  | true=>
   refine .inl ⟨rfl,hop hwt2 τ hbx htn hfact a w hs _ _ fun a' w' hs'=>?_⟩
   exact hK _ _ _ hs' (hkn.1.trans hn) (hbn _ hkn.2) (draw_after HG hsize hit hun hnot hEi (hIi 0) hinv d (by rw [hwt2]; rfl) _ (fun u y hu hy _=>(killS_get (fun k s hm=>hu k s (subs_ok hsub k s hm))).trans hy))
theorem draw_mainE {efs : Efs} {bx1 : List (Nat × Bx)} (hA : okAn ops an its.length = true) (H : ItE σ efs ops an ks its) (hall : AllE P C σ efs ops an ks kk its ops its 0) (hsub : subs kk ks = true)
 {live : List Nat} {env' : List (Nat × D)} (hE : picks (afts an (fun _=>true) ks σ.env its) live = env') {nd : Nat} (hb1 : ddB nd (bxA efs σ.bx) = bx1)
 (hT : TL P C Q (ops.drop its.length) ⟨σ.n,env',bx1⟩) : ∀ (fuel : Nat) (listed : Array Bool) (a : Act) (w : World) (τ : Sg),Cl ops listed -> listed.toList.count false <= fuel ->
 (∀ j,its.length <= j -> j < ops.length -> listed.getD j true = false) -> St C τ a w -> τ.n = σ.n -> bxAtE σ efs listed τ -> InvG σ an ks its listed τ ->
 wpAnyIn (Fx C) 3 P .any ops.toArray (fun e a' w'=>∃ σ',St C σ' a' w' /\ Q e σ') fuel listed a w:=by
 obtain ⟨N,hN⟩:=H.N
 have hefl : ∀ j l,(j,l) ∈ efs -> j < its.length:=fun j l hm=>okEf_lt H.ef j l hm
 have fin : ∀ (listed : Array Bool) (a : Act) (w : World) (τ : Sg),(∀ j,j < its.length -> listed.getD j false = true) -> St C τ a w -> τ.n = σ.n -> bxAtE σ efs listed τ -> InvG σ an ks its listed τ ->
  St C ⟨σ.n,env',bx1⟩ a w:=by
  intro listed a w τ hall' hs hn hb hinv
  have hbb : ∀ id,lk bx1 id = τ.box id:=fun id=>by
   rw [<- hb1,lk_ddB,lk_bxA,hb id]
   exact bxL_congr fun j l hm _=>(hall' j (hefl j l hm)).symm
  refine (hs.rebox hbb).weaken hn.symm rfl fun t d hd=>hinv t d ?_
  have:=lk_picks (f:=afts an (fun _=>true) ks σ.env its) (l:=live) (by rw [hE]; exact hd)
  unfold afts at this ⊢
  cases hb : bads (fun k=>true && !(cov an (fun _=>true) its t k)) ks t with
  | true=>rw [hb] at this; cases this
  | false=>
   rw [hb] at this
   rw [bads_fin (fun j dj wj hj=>hall' j (List.getElem?_eq_some_iff.1 hj).1) hb]
   simp only [cond_false] at this ⊢
   rcases slot_cases its t with hu | ⟨k,dk,wk,hk⟩
   · rw [looks_none hu] at this ⊢; exact this
   · rw [looks_at (okTs_ok hN).1 hk] at this ⊢
     simp only [Nat.zero_add] at this ⊢
     rw [hall' k (List.getElem?_eq_some_iff.1 hk).1]; exact this
 intro fuel
 induction fuel with
 | zero=>
  intro listed a w τ hc hf h2 hs hn hb hinv
  by_cases hall' : ∀ j,j < its.length -> listed.getD j false = true
  · exact draw_tail hA _ its.length 0 listed a w ⟨σ.n,env',bx1⟩ rfl (Nat.le_refl _) H.len hc hf hall' h2 (fin listed a w τ hall' hs hn hb hinv) hT
  · exfalso
    apply hall'
    intro j hj
    have:=count_zero (listed:=listed) (by omega) j
    have hjl : j < listed.size:=by rw [hc.size]; have:=H.len; omega
    simp [hjl] at this ⊢
    exact this
 | succ fuel ih=>
  intro listed a w τ hc hf h2 hs hn hb hinv
  by_cases hall' : ∀ j,j < its.length -> listed.getD j false = true
  · exact draw_tail hA _ its.length (fuel + 1) listed a w ⟨σ.n,env',bx1⟩ rfl (Nat.le_refl _) H.len hc hf hall' h2 (fin listed a w τ hall' hs hn hb hinv) hT
  · have hsome : ∃ j,j < its.length /\ listed.getD j true = false:=by
     rcases Classical.not_forall.1 hall' with ⟨j,hj⟩
     rcases Classical.not_imp.1 hj with ⟨hj1,hj2⟩
     refine ⟨j,hj1, ?_⟩
     have hjl : j < listed.size:=by rw [hc.size]; have:=H.len; omega
     simp [hjl] at hj2 ⊢
     exact hj2
    have key : ∀ n j,j = n -> j < its.length -> listed.getD j true = false -> ∃ k,k ∈ Region.ready .any ops.toArray listed:=by
     intro n
     induction n using Nat.strongRecOn with
     | _ n ihn=>
      intro j hjn hj hu
      have hjl : j < ops.length:=Nat.lt_of_lt_of_le hj H.len
      have ho : ops[j]? = some ops[j]:=List.getElem?_eq_getElem hjl
      by_cases hr : ∀ e ∈ ops[j].after,Region.binds .any e = true -> listed.getD e.on false = true
      · exact ⟨j,mem_ready.2 ⟨hu,_,by simp,hr⟩⟩
      · rcases Classical.not_forall.1 hr with ⟨e,he⟩
        rcases Classical.not_imp.1 he with ⟨he1,he2⟩
        rcases Classical.not_imp.1 he2 with ⟨he3,he4⟩
        have hlt:=(okAn_spec hA ho).1 e he1 he3
        refine ihn e.on (by omega) e.on rfl (by omega) ?_
        have hel : e.on < listed.size:=by rw [hc.size]; omega
        simp [hel] at he4 ⊢
        exact he4
    obtain ⟨j0,hj0,hu0⟩:=hsome
    refine ⟨fun hr=>?_,fun i hi=>?_⟩
    · obtain ⟨k,hk⟩:=key j0 j0 rfl hj0 hu0
      rw [hr] at hk
      cases hk
    · obtain ⟨h3,oi,h4,h5⟩:=mem_ready.1 hi
      have ho : ops[i]? = some oi:=by simpa using h4
      have hil : i < ops.length:=(List.getElem?_eq_some_iff.1 ho).1
      have him : i < its.length:=by
       rcases Nat.lt_or_ge i its.length with h | h
       · exact h
       · exfalso
         obtain ⟨_,h9⟩:=okAn_spec hA ho
         have hj0l : j0 < ops.length:=Nat.lt_of_lt_of_le hj0 H.len
         obtain ⟨h10,h11⟩:=h9 j0 hj0l
         obtain ⟨e,he,hb,h12⟩:=h10 (h11 h (by omega))
         have hd:=h5 e he hb
         have hkd : listed.getD j0 false = true:=by
          rcases h12 with rfl | h12
          · exact hd
          · exact hc.anc hA e.on (by rw [<- hc.size]; exact getD_true hd) hd j0 hj0l h12
         rw [(undone hu0).2] at hkd
         cases hkd
      have hspc:=(okAn_spec hA ho).2
      have hif:=(undone h3).2
      have hanc : ∀ j,j < ops.length -> tb (nth an i) j = true -> listed.getD j false = true:=by
       intro j hj ht
       obtain ⟨e,he,hb,h1⟩:=(hspc j hj).1 ht
       have hd:=h5 e he hb
       rcases h1 with rfl | h1
       · exact hd
       · exact hc.anc hA e.on (by rw [<- hc.size]; exact getD_true hd) hd j hj h1
      have hnot : ∀ j,j < ops.length -> tb (nth an j) i = true -> listed.getD j false = false:=by
       intro j hj ht
       cases hd : listed.getD j false with
       | false=>rfl
       | true=>have:=hc.anc hA j hj hd i hil ht; rw [hif] at this; cases this
      suffices hK : ∀ a' w' τ',St C τ' a' w' -> τ'.n = σ.n -> bxAtE σ efs (listed.setIfInBounds i true) τ' -> InvG σ an ks its (listed.setIfInBounds i true) τ' -> wpAnyIn (Fx C) 3 P .any ops.toArray (fun e a' w'=>∃ σ',St C σ' a' w' /\ Q e σ') fuel (listed.setIfInBounds i true) a' w' by
       unfold Go.wpOpIn
       simp only [h4]
       rcases draw_stepE H hall hsub hc.size him ho h3 hanc hnot hs hn hb hinv hK with ⟨e1,e2⟩ | ⟨e1,e2⟩
       · simp only [e1,if_true]; exact e2
       · simp only [e1,Bool.false_eq_true,if_false]; exact ⟨fun _ _=>trivial,e2⟩
      intro a' w' τ' hs' hn' hb' hinv'
      refine ih _ a' w' τ' (hc.set ho h5) (by have:=count_set h3; omega) (fun j hj hjl=>?_) hs' hn' hb' hinv'
      rw [getD_set_ne true (by omega)]
      exact h2 j hj hjl
theorem W.drawE {id m n' nd : Nat} {efs : Efs} {bx1 : List (Nat × Bx)} (hm : P.follows .mixedOrders = true) (hA0 : okAn ops an m = true) (hlen : its.length = m)
 (H : ItE σ efs ops an ks its) (hall : AllE P C σ efs ops an ks kk its ops its 0) (hsub : subs kk ks = true)
 {live : List Nat} {env' : List (Nat × D)} (hE : picks (afts an (fun _=>true) ks σ.env its) live = env') (hb1 : ddB nd (bxA efs σ.bx) = bx1)
 (hn : σ.n = n') (hT : TL P C Q (ops.drop its.length) ⟨n',env',bx1⟩) : W P C (.region id ops.toArray true) Q σ:=by
 intro a w hs
 refine wpIn_region_any hm ?_
 have hgd : ∀ k,(Array.replicate ops.toArray.size false).getD k false = false:=by
  intro k
  simp only [Array.getD_eq_getD_getElem?,Array.getElem?_replicate]
  split <;> rfl
 have hc : Cl ops (Array.replicate ops.toArray.size false):=⟨by simp,fun i o _ hd=>by rw [hgd] at hd; cases hd⟩
 have hA : okAn ops an its.length = true:=by rw [hlen]; exact hA0
 obtain ⟨N,hN⟩:=H.N
 subst hn
 refine draw_mainE hA H hall hsub hE hb1 hT _ _ a _ σ hc ?_ ?_ (hs.ext (Ext.drew w)) rfl ?_ (fun u x hx=>?_)
 · simp
 · intro j _ hj; simp [hj]
 · exact fun id=>(bxL_off fun j l _ _=>hgd j).symm
 · unfold afts at hx
   generalize hb : bads _ ks u = bb at hx
   cases bb with
   | true=>cases hx
   | false=>
    simp only [cond_false] at hx
    rcases slot_cases its u with hu | ⟨k,dk,wk,hk⟩
    · rw [looks_none hu] at hx; exact hx
    · rw [looks_at (okTs_ok hN).1 hk,hgd] at hx
      exact hx
theorem SpE.alloc {efs : Efs} {i t ty rt : TypeId} {d : D} {pos : String} {aft : Array Edge} [hZ : ZrT P ty d] (hf : freB an σ.bx efs i t = true) (ht : t < σ.n) :
 SpE P C σ efs i [(t,.var d)] an ks its ⟨some t,.alloc ty,rt,pos,aft,none⟩ t (.ptr t 0 []):=by
 intro τ hn hb hfr hfa
 refine ⟨τ.newB t (.var d),R.alloc (hfr t hf) (by rw [hn]; exact ht),rfl,fun id=>?_,fun u y _ hy _=>hy⟩
 rw [box_newB]
 by_cases hid : t = id
 · subst hid; simp [lk]
 · simp [lk,hid,nbeq hid]
theorem box_putB' {τ : Sg} {id : Nat} {x y : Bx} (h : τ.box id = some y) (i : Nat) : (τ.putB id x).box i = match lk [(id,x)] i with | some z=>some z | none=>τ.box i:=by
 rw [box_putB]
 by_cases hi : i = id
 · subst hi; simp [lk,h]
 · simp [lk,hi,nbeq (show ¬ id = i from fun e=>hi e.symm)]
theorem SpE.st {efs : Efs} {i t p id off : Nat} {d : D} {path : List Nat} {x : Operand} {d0 d1 d' dx : D} {ty n rt : TypeId} {gg : Bool} {pos : String} {aft : Array Edge} [LdT P ty n gg]
 (hp : facts an ks σ.env its i p = some (.ptr id off path)) (hb : bxk an i id efs (lk σ.bx id) = some (.var d0)) (hl : d0.loc path = some (off,d1))
 (hx : ∀ τ : Sg,(∀ u x,facts an ks σ.env its i u = some x -> τ.get u = some x) -> ev C.gl τ x = some dx) (hpu : dx.pur = true) (hnp : dx.np = true)
 (hn : dx.sz = n) (hz : d1.sz = n) (hu : d0.upd path dx = some d') :
 SpE P C σ efs i [(id,.var d')] an ks its ⟨none,.store ty (.tmp p) x,rt,pos,aft,none⟩ t d:=by
 intro τ hn' hbk hfr hfa
 have hbx:=hbk _ _ hb
 refine ⟨τ.putB id (.var d'),R.st (hfa _ _ hp) hbx hl (hx τ hfa) hpu hnp hn (hn.trans hz.symm) hu,rfl,box_putB' hbx,fun u y _ hy ha=>?_⟩
 rw [get_putB,hy,Option.map_some,scrubB_alb ha]
end
end Go.Sx

namespace Go.Sx
variable {P : Program} {C : Ctx} {σ σ' σ1 : Sg} {a : Act} {w w' : World} {ρ : Nat -> Nat} {Fe Fe' Fb : Nat -> List Nat}
end Go.Sx

namespace Go.Sx
variable {pos : String} {aft : Array Edge} {g : Option (Nat × Bool)}
variable {P : Program} {C : Ctx} {σ σ' σ1 : Sg} {a : Act} {w w' : World} {ρ : Nat -> Nat} {Fe Fe' Fb : Nat -> List Nat}
def killL (σ : Sg) : List Nat -> Sg
 | []=>σ
 | s :: r=>killL (σ.kill s) r
theorem killL_n : ∀ (S : List Nat) (σ : Sg),(killL σ S).n = σ.n /\ (killL σ S).bx = σ.bx:=by
 intro S
 induction S with
 | nil=>intro σ; exact ⟨rfl,rfl⟩
 | cons s r ih=>intro σ; exact ih (σ.kill s)
theorem killL_get : ∀ (S : List Nat) (σ : Sg) (u : Nat),(killL σ S).get u = if u ∈ S then some .dead else σ.get u:=by
 intro S
 induction S with
 | nil=>intro σ u; simp [killL]
 | cons s r ih=>
  intro σ u
  simp only [killL]
  rw [ih,get_kill]
  by_cases h1 : u ∈ r
  · simp [h1]
  · by_cases h2 : u = s
    · simp [h2]
    · simp [h1,h2]
theorem StW.takeL {S : List Nat} {t : Nat} {d : D} {v : Value} {F : List Nat} (h : StW C σ a w ρ Fe Fb) (ht : t < σ.n) (hst : t ∉ S) (hS : ∀ s ∈ S,∃ d0,σ.get s = some d0)
 (hF : F.Nodup) (hFs : ∀ b ∈ F,∃ s ∈ S,b ∈ Fe s)
 (hv : SR w ρ (gd C (upd (fun u=>if u ∈ S then [] else Fe u) t F) Fb) (fun id=>(σ.box id).isSome) (a.put (some t) v) t d F) :
 StW C ((killL σ S).set t d) (a.put (some t) v) w ρ (upd (fun u=>if u ∈ S then [] else Fe u) t F) Fb:=by
 have hsz : t < a.tmps.size:=by rw [h.size]; exact ht
 let Fx : Nat -> List Nat:=upd (fun u=>if u ∈ S then [] else Fe u) t F
 have hFx : ∀ u,u ≠ t -> ∀ b ∈ Fx u,b ∈ Fe u /\ u ∉ S:=fun u hut b hb=>by
  simp only [Fx,upd_other hut] at hb
  by_cases hus : u ∈ S
  · simp [hus] at hb
  · simp only [hus,if_false] at hb; exact ⟨hb,hus⟩
 have hFt : Fx t = F:=by simp [Fx]
 have ho : ∀ b,own Fx Fb b -> own Fe Fb b:=by
  rintro b (⟨u,hu⟩ | hid)
  · by_cases hut : u = t
    · subst hut; rw [hFt] at hu
      obtain ⟨s,_,hs⟩:=hFs b hu
      exact .inl ⟨s,hs⟩
    · exact .inl ⟨u,(hFx u hut b hu).1⟩
  · exact .inr hid
 have hg : ∀ b,gd C Fe Fb b -> gd C Fx Fb b:=fun b hb=>⟨hb.1,fun hc=>hb.2 (ho b hc)⟩
 obtain ⟨hn,hbx⟩:=killL_n S σ
 have hbox : ∀ id,((killL σ S).set t d).box id = σ.box id:=fun id=>by
  show lk (killL σ S).bx id = _
  rw [hbx]; rfl
 have hLf : (fun id=>(((killL σ S).set t d).box id).isSome = true) = fun id=>(σ.box id).isSome = true:=by funext id; rw [hbox]
 have hnotF : ∀ u,u ≠ t -> ∀ b ∈ Fx u,b ∉ F:=fun u hut b hb hbF=>by
  obtain ⟨h1,h2⟩:=hFx u hut b hb
  obtain ⟨s,hs,h3⟩:=hFs b hbF
  exact h.dEE u s (fun e=>h2 (e ▸ hs)) b h1 h3
 refine {
  size:=?_
  defs:=h.defs
  pin:=fun id b hp=>by rw [hbox]; exact h.pin id b hp
  env:=fun u x hx=>?_
  envN:=fun u hu=>?_
  bx:=fun id x hx=>by rw [hLf]; exact (h.bx id x (by rw [<- hbox]; exact hx)).mono (fun _ _ _=>rfl) (fun b hb _=>hg b hb) (fun i hi=>⟨hi,rfl⟩)
  bxN:=fun id hx=>h.bxN id (by rw [<- hbox]; exact hx)
  nodE:=fun u=>?_
  nodB:=h.nodB
  dEE:=fun u u' huu b hb hb'=>?_
  dEB:=fun u id b hb hb'=>?_
  dBB:=h.dBB
  new:=fun b hb=>h.new b (ho b hb)
  kept:=h.kept
  os:=h.os
  tape:=h.tape
  output:=h.output
  grown:=h.grown
  gl:=h.gl
  okN:=h.okN
  okO:=fun b hb=>h.okO b (ho b hb) }
 · simp [Act.put,h.size,hn]
 · rw [hLf]
   rw [get_set] at hx
   by_cases hut : u = t
   · subst hut; simp at hx; subst hx
     simp only [upd_same]; exact hv
   · simp only [hut,if_false] at hx
     obtain ⟨d1,hd1,rfl⟩:=Option.map_eq_some_iff.1 hx
     rw [killL_get] at hd1
     by_cases hus : u ∈ S
     · simp only [hus,if_true,Option.some.injEq] at hd1
       subst hd1
       obtain ⟨d0,hd0⟩:=hS u hus
       obtain ⟨v0,hv0⟩:=(h.env u d0 hd0).there
       refine ⟨by simp [upd_other hut,hus],v0,by rw [put_get a t v u hsz]; simp [hut,hv0]⟩
     · simp only [hus,if_false] at hd1
       have hFu : upd (fun u=>if u ∈ S then [] else Fe u) t F u = Fe u:=by simp [upd_other hut,hus]
       rw [hFu]
       exact SR_other hut hsz (h.env u d1 hd1) (fun _ _ _=>rfl) (fun b hb _=>hg b hb) (fun id hid=>⟨hid,rfl⟩) (fun _ _ _ _ h=>h)
 · rw [get_set] at hu
   by_cases hut : u = t
   · simp [hut] at hu
   · simp only [hut,if_false,Option.map_eq_none_iff] at hu
     rw [killL_get] at hu
     by_cases hus : u ∈ S
     · simp [hus] at hu
     · simp only [hus,if_false] at hu
       simp [upd_other hut,hus,h.envN u hu]
 · by_cases hut : u = t
   · subst hut; simpa using hF
   · simp only [upd_other hut]
     split
     · exact List.nodup_nil
     · exact h.nodE u
 · by_cases hut : u = t
   · subst hut
     have hb1 : b ∈ F:=by rw [<- hFt]; exact hb
     exact hnotF u' (fun e=>huu e.symm) b hb' hb1
   · by_cases hut' : u' = t
     · subst hut'
       have hb1 : b ∈ F:=by rw [<- hFt]; exact hb'
       exact hnotF u hut b hb hb1
     · exact h.dEE u u' huu b (hFx u hut b hb).1 (hFx u' hut' b hb').1
 · by_cases hut : u = t
   · subst hut
     have hb1 : b ∈ F:=by rw [<- hFt]; exact hb
     obtain ⟨s,_,hs⟩:=hFs b hb1
     exact h.dEB s id b hs hb'
   · exact h.dEB u id b (hFx u hut b hb).1 hb'
inductive EvO (gl : List (Nat × D)) (σ : Sg) (l0 : List D) : List (Nat × Operand) -> List D -> List D -> List Nat -> Prop
 | nil {l l' : List D} (h : l = l') : EvO gl σ l0 [] l l' []
 | pur {i : Nat} {x : Operand} {d : D} {ps : List (Nat × Operand)} {l l' : List D} {S : List Nat} (h : ev gl σ x = some d) (hp : d.pur = true) (hn : d.np = true) (hz : (l0[i]?).map D.sz = some d.sz) (t : EvO gl σ l0 ps (l.set i d) l' S) : EvO gl σ l0 ((i,x) :: ps) l l' S
 | own {i s : Nat} {d : D} {ps : List (Nat × Operand)} {l l' : List D} {S : List Nat} (h : σ.get s = some d) (hr : d.isRef = false) (hn : d.np = true) (hz : (l0[i]?).map D.sz = some d.sz) (hs : S.contains s = false) (t : EvO gl σ l0 ps (l.set i d) l' S) : EvO gl σ l0 ((i,.tmp s) :: ps) l l' (s :: S)
theorem set_sz {l l0 : List D} {i : Nat} {d : D} (hz : l.map D.sz = l0.map D.sz) (h : (l0[i]?).map D.sz = some d.sz) : (l.set i d).map D.sz = l0.map D.sz:=by
 rw [List.map_set,<- hz]
 have h2 : (l.map D.sz)[i]? = some d.sz:=by rw [hz,List.getElem?_map]; exact h
 apply List.ext_getElem?
 intro j
 rw [List.getElem?_set]
 split
 · rename_i hij
   subst hij
   rw [h2]
   have:=(List.getElem?_eq_some_iff.1 h2).1
   simp only [this,if_true]
 · rfl
theorem fill_one {G L : Nat -> Prop} {l l0 : List D} {i : Nat} {d : D} {xc : List Value} {Fx F : List Nat} {cs : Array Value} {v : Value} (hxc : v.cells.toList = xc) (hrc : Rc w ρ G L false d xc Fx) (hz : l.map D.sz = l0.map D.sz) (p3 : (l0[i]?).map D.sz = some d.sz)
 (hr : Rc w ρ G L false (.agg l) cs.toList F) (hF : F.Nodup) (hFx : Fx.Nodup) (hdis : ∀ b ∈ Fx,b ∉ F) :
 ∃ out F',(offl l0 0).toArray[i]? = some (offk l i,d.sz) /\ v.cells.size = d.sz /\ ¬ (cs.size < offk l i + d.sz) /\ v.cells.zipIdx.foldl (fun (c : Array Value) (p : Value × Nat)=>c.setIfInBounds (offk l i + p.2) p.1) cs = out /\
  Rc w ρ G L false (.agg (l.set i d)) out.toList F' /\ F'.Nodup /\ ∀ b ∈ F',b ∈ F ∨ b ∈ Fx:=by
 have hlen:=hrc.len
 cases hl0 : l0[i]? with
 | none=>rw [hl0] at p3; cases p3
 | some d0=>
  obtain ⟨hi,rfl⟩:=List.getElem?_eq_some_iff.1 hl0
  rw [hl0] at p3
  simp only [Option.map_some,Option.some.injEq] at p3
  have hll : l.length = l0.length:=by have:=congrArg List.length hz; simpa using this
  have hi2 : i < l.length:=by omega
  have hsi : l[i].sz = d.sz:=by
   have : (l.map D.sz)[i]'(by simpa using hi2) = (l0.map D.sz)[i]'(by simpa using hi):=by simp only [hz]
   simp at this
   omega
  have hoff : offk l i = offk l0 i:=by
   have hs : ∀ (u v : List D),u.map D.sz = v.map D.sz -> D.szs u = D.szs v:=by
    intro u
    induction u with
    | nil=>intro v hv; cases v <;> simp_all
    | cons a u ihu=>intro v hv; cases v with
     | nil=>simp at hv
     | cons b v=>simp at hv; simp [hv.1,ihu v hv.2]
   unfold offk
   exact hs _ _ (by rw [List.map_take,List.map_take,hz])
  have hlo:=offk_lt l i hi2
  have hcl:=hr.len
  simp only [sz_agg,Array.length_toList] at hcl
  have hloc : (D.agg l).loc [i] = some (offk l i,l[i]):=by simp [D.loc,List.getElem?_eq_getElem hi2]
  have hupd : (D.agg l).upd [i] d = some (.agg (l.set i d)):=by simp [D.upd,List.getElem?_eq_getElem hi2]
  have hnoa : (D.agg l).noArr [i] = true:=by simp [D.noArr,List.getElem?_eq_getElem hi2]
  obtain ⟨F2,g1,g2,g3,_⟩:=hr.upd hloc hupd hsi.symm hrc hF hFx hdis (.inr hnoa)
  have hfold:=foldl_set cs xc (offk l i) 0 (by omega)
  simp only [Nat.add_zero] at hfold
  have hcs2 : (v.cells.zipIdx.foldl (fun (c : Array Value) (p : Value × Nat)=>c.setIfInBounds (offk l i + p.2) p.1) cs).toList = cs.toList.take (offk l i) ++ xc ++ cs.toList.drop (offk l i + xc.length):=by
   rw [<- hfold,<- hxc,<- Array.foldl_toList]
   simp
  rw [<- hcs2] at g1
  refine ⟨_,F2, ?_, ?_,by omega,rfl,g1,g3,g2⟩
  · rw [List.getElem?_toArray,offl_get l0 0 i hi,hoff,Nat.zero_add,<- p3]
  · rw [<- Array.length_toList,hxc,hlen]
theorem fill_structO (st : StW C σ a w ρ Fe Fb) {G : Nat -> Prop} {l0 : List D} (hG : ∀ b,gd C Fe Fb b -> G b) {ps : List (Nat × Operand)} {l l' : List D} {S : List Nat} (h : EvO C.gl σ l0 ps l l' S) :
 ∀ (cs : Array Value) (F : List Nat),l.map D.sz = l0.map D.sz -> Rc w ρ G (fun id=>(σ.box id).isSome = true) false (.agg l) cs.toList F -> F.Nodup -> (∀ s ∈ S,∀ b ∈ Fe s,b ∉ F) ->
  ∃ (out : Array Value) (F' : List Nat),Instr.fill ((offl l0 0).toArray[·]?) cs (ps.map (fun p=>(p.1,a.eval p.2))) = some out /\ Rc w ρ G (fun id=>(σ.box id).isSome = true) false (.agg l') out.toList F' /\ F'.Nodup /\ ∀ b ∈ F',b ∈ F ∨ ∃ s ∈ S,b ∈ Fe s:=by
 induction h with
 | nil h=>subst h; intro cs F _ hr hF _; exact ⟨cs,F,rfl,hr,hF,fun b hb=>.inl hb⟩
 | @pur i x d ps l l' S h hp hn hz t ih=>
  intro cs F hzz hr hF hS
  obtain ⟨xc,hxc,hrc⟩:=ev_cells st h hp
  have hrc2:=(hrc.unflag hn).mono (G':=G) (L':=fun id=>(σ.box id).isSome = true) (ρ':=ρ) (fun _ _ _=>rfl) (fun b hb _=>hG b hb) (fun i hi=>⟨hi,rfl⟩)
  obtain ⟨out,F',e1,e2,e3,e4,e5,e6,e7⟩:=fill_one hxc hrc2 hzz hz hr hF List.nodup_nil (by simp)
  have e7' : ∀ b ∈ F',b ∈ F:=fun b hb=>(e7 b hb).resolve_right (by simp)
  obtain ⟨out2,F2,f1,f2,f3,f4⟩:=ih out F' (set_sz hzz hz) e5 e6 (fun s hs b hb hb'=>hS s hs b hb (e7' b hb'))
  refine ⟨out2,F2, ?_,f2,f3,fun b hb=>(f4 b hb).imp (e7' b) id⟩
  simp only [List.map_cons,Instr.fill,e1,e2]
  rw [if_neg (by simp; omega),e4]
  exact f1
 | @own i s d ps l l' S h hr0 hn hz hs t ih=>
  intro cs F hzz hr hF hS
  obtain ⟨v,hv,hvr⟩:=(SR_plain hr0).1 (st.env _ _ h)
  have hdead : d ≠ .dead:=by rintro rfl; simp [D.isRef] at hr0
  have hrc:=hvr.cells hdead
  have hrc2:=(hrc.unflag hn).mono (G':=G) (L':=fun id=>(σ.box id).isSome = true) (ρ':=ρ) (fun _ _ _=>rfl) (fun b hb _=>hG b hb) (fun i hi=>⟨hi,rfl⟩)
  obtain ⟨out,F',e1,e2,e3,e4,e5,e6,e7⟩:=fill_one (v:=v) rfl hrc2 hzz hz hr hF (st.nodE s) (fun b hb=>hS s (by simp) b hb)
  have hs' : s ∉ S:=by intro hm; rw [List.contains_iff_mem.2 hm] at hs; cases hs
  obtain ⟨out2,F2,f1,f2,f3,f4⟩:=ih out F' (set_sz hzz hz) e5 e6 (fun s' hs1 b hb hb'=>by
   rcases e7 b hb' with h1 | h1
   · exact hS s' (List.mem_cons_of_mem _ hs1) b hb h1
   · exact st.dEE s' s (fun e=>hs' (e ▸ hs1)) b hb h1)
  refine ⟨out2,F2, ?_,f2,f3,fun b hb=>?_⟩
  · simp only [List.map_cons,Instr.fill,eval_tmp hv,e1,e2]
    rw [if_neg (by simp; omega),e4]
    exact f1
  · rcases f4 b hb with h1 | ⟨s',hs1,h1⟩
    · rcases e7 b h1 with h2 | h2
      · exact .inl h2
      · exact .inr ⟨s,by simp,h2⟩
    · exact .inr ⟨s',List.mem_cons_of_mem _ hs1,h1⟩
theorem EvO.there {gl : List (Nat × D)} {l0 : List D} {ps : List (Nat × Operand)} {l l' : List D} {S : List Nat} (h : EvO gl σ l0 ps l l' S) : ∀ s ∈ S,∃ d0,σ.get s = some d0:=by
 induction h with
 | nil=>intro s hs; cases hs
 | pur _ _ _ _ _ ih=>exact ih
 | own h _ _ _ _ _ ih=>
  intro s hs
  rcases List.mem_cons.1 hs with rfl | hs
  · exact ⟨_,h⟩
  · exact ih s hs
theorem R.bldO {t : Nat} {ps : List (Nat × Operand)} {l l' : List D} {S : List Nat} {ty rt : TypeId} [hT : BsT P ty l]
 (hps : EvO C.gl σ l ps l l' S) (hS : S.contains t = false) (ht : t < σ.n) :
 OpS P C ⟨some t,.build ty ps.toArray,rt,pos,aft,g⟩ σ ((killL σ S).set t (.agg l')):=by
 refine OpS.value fun a w ⟨ρ,Fe,Fb,st⟩=>?_
 obtain ⟨fs,it,zv,h1,h2,h3,h4,h5⟩:=hT.i
 have htS : t ∉ S:=by intro hm; rw [List.contains_iff_mem.2 hm] at hS; cases hS
 obtain ⟨out,F,q1,q2,q3,q4⟩:=fill_structO st (G:=gd C Fe Fb) (fun _ h=>h) hps zv.cells [] rfl (chk_ok _ _ _ _ _ _ h5) List.nodup_nil (by simp)
 have q4' : ∀ b ∈ F,∃ s ∈ S,b ∈ Fe s:=fun b hb=>(q4 b hb).resolve_left (by simp)
 have hps2 : (ps.toArray.map fun x=>(x.1,a.eval x.2)).toList = ps.map (fun p=>(p.1,a.eval p.2)):=by simp
 refine ⟨.agg out,w, ?_,ρ,_,Fb,st.takeL ht htS hps.there q3 q4' ((SR_plain rfl).2 ⟨.agg out,by rw [put_get a t _ t (by rw [st.size]; exact ht)]; simp, ?_⟩)⟩
 · have:=run_build (P:=P) w ty (ps.toArray.map fun x=>(x.1,a.eval x.2)) out (by
    rw [hps2]
    simp only [Program.built,h1,h2,h3,h4]
    exact q1)
   unfold execOp
   simp only [Sem.run_bind,this,Result.andThen_ok,Sem.run_pure]
 · simp only [VR,D.isAgg,if_true]
   refine ⟨out,rfl,(q2.flag).mono (fun _ _ _=>rfl) (fun b hb _=>⟨hb.1,fun hc=>hb.2 ?_⟩) (fun i hi=>⟨hi,rfl⟩)⟩
   rcases hc with ⟨u,hu⟩ | hid
   · by_cases hut : u = t
     · subst hut
       rw [upd_same] at hu
       obtain ⟨s,_,hs⟩:=q4' b hu
       exact .inl ⟨s,hs⟩
     · rw [upd_other hut] at hu
       by_cases hus : u ∈ S
       · simp [hus] at hu
       · simp only [hus,if_false] at hu; exact .inl ⟨u,hu⟩
   · exact .inr hid
theorem R.ldTake {p t id : Nat} {d : D} {ty n rt : TypeId} {gg : Bool} [LdT P ty n gg]
 (h : σ.get p = some (.ptr id 0 [])) (hb : σ.box id = some (.var d)) (hr : d.isRef = false) (hn : d.sz = n) (hg : d.isAgg = gg) (ht : t < σ.n) :
 OpS P C ⟨some t,.load ty (.tmp p),rt,pos,aft,g⟩ σ ((σ.putB id (.var (D.dds n))).set t d):=by
 refine OpS.value fun a w ⟨ρ,Fe,Fb,st⟩=>?_
 obtain ⟨v,hv,hrp⟩:=(SR_plain rfl).1 (st.env _ _ h)
 simp only [VR,D.isAgg,Bool.false_eq_true,if_false] at hrp
 generalize Fe p = F at hrp
 cases hrp
 obtain ⟨cs,e,F',q1,q2,q3⟩:=st.bx _ _ hb
 have hnd : (ρ id :: F').Nodup:=by have:=st.nodB id; rw [q3] at this; exact this
 obtain ⟨hn1,hn2⟩:=List.nodup_cons.1 hnd
 have hlen:=q2.len
 have htk : (cs.toList.drop 0).take d.sz = cs.toList:=by rw [<- hlen,List.drop_zero]; exact List.take_length
 obtain ⟨vv,hrun,hvr⟩:=run_loadVar' (P:=P) (ty:=ty) (G:=gd C Fe Fb) (L:=fun i=>(σ.box i).isSome = true) (ρ:=ρ) (p:=true) (off:=0) q1 (by rw [htk]; exact q2) (by simp at hlen; omega) hn hg
 have hsz : t < a.tmps.size:=by rw [st.size]; exact ht
 have hFb : ∀ i,∀ b ∈ upd Fb id [ρ id] i,b ∈ Fb i:=fun i b hb=>by
  by_cases hii : i = id
  · subst hii; rw [upd_same] at hb; simp at hb; subst hb; rw [q3]; simp
  · rw [upd_other hii] at hb; exact hb
 have hFin : ∀ b ∈ F',b ∈ Fb id:=fun b hb=>by rw [q3]; exact List.mem_cons_of_mem _ hb
 have ho : ∀ b,own (upd Fe t F') (upd Fb id [ρ id]) b -> own Fe Fb b:=by
  rintro b (⟨u,hu⟩ | ⟨i,hi⟩)
  · by_cases hut : u = t
    · subst hut; rw [upd_same] at hu; exact .inr ⟨id,hFin b hu⟩
    · rw [upd_other hut] at hu; exact .inl ⟨u,hu⟩
  · exact .inr ⟨i,hFb i b hi⟩
 have hgd : ∀ b,gd C Fe Fb b -> gd C (upd Fe t F') (upd Fb id [ρ id]) b:=fun b hb=>⟨hb.1,fun hc=>hb.2 (ho b hc)⟩
 have hbox : ∀ i,((σ.putB id (.var (D.dds n))).set t d).box i = if i = id then some (.var (D.dds n)) else σ.box i:=fun i=>by
  rw [box_set,box_putB]
  by_cases hi : i = id
  · subst hi; simp [hb]
  · simp [hi]
 have hLf : (fun i=>((((σ.putB id (.var (D.dds n))).set t d).box i)).isSome = true) = fun i=>(σ.box i).isSome = true:=by
  funext i; rw [hbox]
  by_cases hi : i = id
  · subst hi; simp [hb]
  · simp [hi]
 have hFnot : ∀ u,∀ b ∈ Fe u,b ∉ F':=fun u b hb hb'=>st.dEB u id b hb (hFin b hb')
 refine ⟨vv,w, ?_,ρ,upd Fe t F',upd Fb id [ρ id],{
  size:=by simp [Act.put,st.size]
  defs:=st.defs
  pin:=fun i b hp=>⟨(st.pin i b hp).1,by
   have:=(st.pin i b hp).2
   rw [hbox]
   by_cases hi : i = id
   · simp [hi]
   · simpa [hi] using this⟩
  env:=fun u x hx=>?_
  envN:=fun u hu=>?_
  bx:=fun i x hx=>?_
  bxN:=fun i hx=>?_
  nodE:=fun u=>?_
  nodB:=fun i=>?_
  dEE:=fun u u' huu b hb hb'=>?_
  dEB:=fun u i b hb hb'=>?_
  dBB:=fun i i' hne b h1 h2=>st.dBB i i' hne b (hFb i b h1) (hFb i' b h2)
  new:=fun b hb=>st.new b (ho b hb)
  kept:=st.kept
  os:=st.os
  tape:=st.tape
  output:=st.output
  grown:=st.grown
  gl:=st.gl
  okN:=st.okN
  okO:=fun b hb=>st.okO b (ho b hb) }⟩
 · unfold execOp
   simp [eval_tmp hv,Instr.loadAt,Instr.sureAddr,hrun]
 · rw [hLf]
   rw [get_set] at hx
   by_cases hut : u = t
   · subst hut; simp at hx; subst hx
     rw [upd_same]
     exact (SR_plain hr).2 ⟨vv,by rw [put_get a u _ u hsz]; simp,hvr.mono (fun _ _ _=>rfl) (fun b hb _=>hgd b hb) (fun i hi=>⟨hi,rfl⟩)⟩
   · simp only [hut,if_false] at hx
     obtain ⟨d1,hd1,rfl⟩:=Option.map_eq_some_iff.1 hx
     rw [get_putB] at hd1
     obtain ⟨d2,hd2,rfl⟩:=Option.map_eq_some_iff.1 hd1
     rw [upd_other hut]
     have h1:=SR_box (id:=id) (st.env u d2 hd2) (w':=w) (fun _ _ _=>rfl) (fun b hb _=>hgd b hb) (fun i hi=>hi) (fun _ _ _ _ _ h=>h)
     exact SR_other hut hsz h1 (fun _ _ _=>rfl) (fun b hb _=>hb) (fun id hid=>⟨hid,rfl⟩) (fun _ _ _ _ h=>h)
 · rw [get_set] at hu
   by_cases hut : u = t
   · simp [hut] at hu
   · simp only [hut,if_false,Option.map_eq_none_iff] at hu
     rw [get_putB,Option.map_eq_none_iff] at hu
     rw [upd_other hut]; exact st.envN u hu
 · rw [hLf]
   rw [hbox] at hx
   by_cases hi : i = id
   · subst hi
     simp only [if_true,Option.some.injEq] at hx
     subst hx
     rw [upd_same,<- hn]
     exact ⟨cs,e,[],q1,q2.dds,rfl⟩
   · simp only [hi,if_false] at hx
     rw [upd_other hi]
     exact (st.bx i x hx).mono (fun _ _ _=>rfl) (fun b hb _=>hgd b hb) (fun j hj=>⟨hj,rfl⟩)
 · rw [hbox] at hx
   by_cases hi : i = id
   · simp [hi] at hx
   · simp only [hi,if_false] at hx
     rw [upd_other hi]; exact st.bxN i hx
 · by_cases hut : u = t
   · subst hut; rw [upd_same]; exact hn2
   · rw [upd_other hut]; exact st.nodE u
 · by_cases hi : i = id
   · subst hi; rw [upd_same]; simp
   · rw [upd_other hi]; exact st.nodB i
 · by_cases hut : u = t
   · subst hut
     rw [upd_same] at hb
     rw [upd_other (fun e=>huu e.symm)] at hb'
     exact hFnot u' b hb' hb
   · rw [upd_other hut] at hb
     by_cases hut' : u' = t
     · subst hut'; rw [upd_same] at hb'; exact hFnot u b hb hb'
     · rw [upd_other hut'] at hb'; exact st.dEE u u' huu b hb hb'
 · by_cases hut : u = t
   · subst hut
     rw [upd_same] at hb
     by_cases hi : i = id
     · subst hi; rw [upd_same] at hb'; simp at hb'; subst hb'; exact hn1 hb
     · rw [upd_other hi] at hb'; exact st.dBB id i (fun e=>hi e.symm) b (hFin b hb) hb'
   · rw [upd_other hut] at hb; exact st.dEB u i b hb (hFb i b hb')
end Go.Sx

namespace Go.Sx
variable {P : Program} {C : Ctx} {σ σ' σ1 : Sg} {a : Act} {w w' : World} {ρ : Nat -> Nat} {Fe Fe' Fb : Nat -> List Nat}
inductive Wk : D -> D -> Prop
 | refl (d : D) : Wk d d
 | nils (o : Option Nat) (z : Nat) : Wk .nils (.sl o z [])
 | agg {l l' : List D} (hn : l.length = l'.length) (h : ∀ k (h : k < l.length) (h' : k < l'.length),Wk l[k] l'[k]) : Wk (.agg l) (.agg l')
 | sl {o : Option Nat} {z : Nat} {l l' : List D} (hn : l.length = l'.length) (h : ∀ k (h : k < l.length) (h' : k < l'.length),Wk l[k] l'[k]) : Wk (.sl o z l) (.sl o z l')
inductive WkL : List D -> List D -> Prop
 | nil : WkL [] []
 | cons {d d' : D} {l l' : List D} (h : Wk d d') (t : WkL l l') : WkL (d :: l) (d' :: l')
theorem WkL.len {l l' : List D} (h : WkL l l') : l.length = l'.length:=by
 induction h with
 | nil=>rfl
 | cons _ _ ih=>simp [ih]
theorem WkL.get {l l' : List D} (h : WkL l l') : ∀ k (h : k < l.length) (h' : k < l'.length),Wk l[k] l'[k]:=by
 induction h with
 | nil=>intro k h; simp at h
 | cons h _ ih=>
  intro k hk hk'
  cases k with
  | zero=>exact h
  | succ k=>exact ih k (by simpa using hk) (by simpa using hk')
theorem Wk.aggL {l l' : List D} (h : WkL l l') : Wk (.agg l) (.agg l'):=.agg h.len h.get
theorem Wk.slL {o : Option Nat} {z : Nat} {l l' : List D} (h : WkL l l') : Wk (.sl o z l) (.sl o z l'):=.sl h.len h.get
theorem Wk.slM {α : Type} {o : Option Nat} {z : Nat} {l : List α} {f g : α -> D} (h : ∀ x ∈ l,Wk (f x) (g x)) : Wk (.sl o z (l.map f)) (.sl o z (l.map g)):=
 .sl (by simp) (fun k h1 h2=>by simp only [List.getElem_map]; exact h _ (List.getElem_mem _))
theorem szs_eq {l l' : List D} (hn : l.length = l'.length) (h : ∀ k (h : k < l.length) (h' : k < l'.length),l'[k].sz = l[k].sz) : D.szs l' = D.szs l:=by
 induction l generalizing l' with
 | nil=>cases l' with
  | nil=>rfl
  | cons _ _=>simp at hn
 | cons x r ih=>cases l' with
  | nil=>simp at hn
  | cons x' r'=>
   have h0:=h 0 (by simp) (by simp)
   simp only [List.getElem_cons_zero] at h0
   simp only [szs_cons,h0]
   rw [ih (by simpa using hn) (fun k h1 h2=>h (k + 1) (by simpa using h1) (by simpa using h2))]
theorem offk_eq {l l' : List D} (hn : l.length = l'.length) (h : ∀ k (h : k < l.length) (h' : k < l'.length),l'[k].sz = l[k].sz) (k : Nat) : offk l' k = offk l k:=by
 unfold offk
 exact szs_eq (by simp [hn]) (fun j h1 h2=>by simp only [List.getElem_take]; exact h j (by simp at h1; omega) (by simp at h2; omega))
theorem Wk.sz {d d' : D} (h : Wk d d') : d'.sz = d.sz:=by
 induction h with
 | refl=>rfl
 | nils=>rfl
 | agg hn h ih=>simp only [sz_agg]; exact szs_eq hn ih
 | sl=>rfl
theorem Rc.wk {G L : Nat -> Prop} {d d' : D} (hw : Wk d d') : ∀ {p : Bool} {cs : List Value} {F : List Nat},Rc w ρ G L p d cs F -> Rc w ρ G L p d' cs F:=by
 induction hw with
 | refl=>intro p cs F h; exact h
 | nils o z=>intro p cs F h; cases h; exact .slN o z
 | @agg l l' hn h ih=>
  intro p cs F hr
  cases hr with
  | agg _ _ Fs hs hr=>
   have hz : ∀ k (h : k < l.length) (h' : k < l'.length),l'[k].sz = l[k].sz:=fun k h1 h2=>(h k h1 h2).sz
   rw [hn]
   refine .agg l' cs Fs (by rw [hs,szs_eq hn hz]) (fun k hk=>?_)
   rw [offk_eq hn hz,hz k (by omega) hk]
   exact ih k (by omega) hk (hr k (by omega))
 | @sl o z l l' hn h ih=>
  intro p cs F hr
  cases hr with
  | slN=>rw [List.length_eq_zero_iff.1 hn.symm]; exact .slN o z
  | slE _ _ a=>rw [List.length_eq_zero_iff.1 hn.symm]; exact .slE o z a
  | slI b off cs e fz cap _ _ hb hG hc hs hr=>
   rw [hn]
   exact .slI b off cs e fz cap z l' hb hG (by omega) (by rw [<- hn]; exact hs) (fun i hi=>ih i (by omega) hi (hr i (by omega)))
  | slO b cs e cap _ _ Fs hb hc hm hs ho1 hr=>
   rw [hn]
   exact .slO b cs e cap z l' Fs hb (by omega) hm hs ho1 (fun i hi=>ih i (by omega) hi (hr i (by omega)))
theorem W.wkB {c : Code} {Q : Exit -> Sg -> Prop} (id : Nat) {d d' : D} {bx' : List (Nat × Bx)} (hb : σ.box id = some (.var d)) (hw : Wk d d') (hbx : setb id (.var d') σ.bx = bx') (k : W P C c Q ⟨σ.n,σ.env,bx'⟩) : W P C c Q σ:=by
 subst hbx
 exact fun a w hs=>k a w (St.viewB hb (fun w ρ G L cs F h=>h.wk hw) hs)
theorem Wk.isAgg {d d' : D} (h : Wk d d') : d'.isAgg = d.isAgg:=by cases h <;> rfl
end Go.Sx

namespace Go.Sx
variable {P : Program} {C : Ctx} {σ σ' σ1 : Sg} {a : Act} {w w' : World} {ρ : Nat -> Nat} {Fe Fe' Fb : Nat -> List Nat}
end Go.Sx

namespace Go.Sx
variable {pos : String} {aft : Array Edge} {g : Option (Nat × Bool)}
theorem O {α : Sort _} {a : α} : a = a:=rfl
theorem Zt : True:=trivial
theorem dU {p : Prop} (h : p:=by decide) : p:=h
theorem dT {p : Prop} [Decidable p] (h : p) : decide p = true:=decide_eq_true h
theorem dF {p : Prop} [Decidable p] (h : ¬ p) : decide p = false:=decide_eq_false h
abbrev Bc:=@Bors.cons
abbrev Bn:=@Bors.nil
abbrev Bp:=@Bor.pur
theorem lN {α β : Type} {l : List α} (f : α -> β) : (l.map f).length = l.length:=List.length_map f
theorem nU {m n : Nat} (h : Nat.ble m n = true) : m <= n:=Nat.le_of_ble_eq_true h
theorem bU {p : Prop} (h : p:=by first | omega | (simp only [List.length_map,List.length_append,List.length_cons,List.length_nil,List.length_take,List.length_drop,List.length_replicate]; omega) | (simp; omega)) : p:=h
theorem bV {x : Int} (h : 0 <= x:=by first | omega | (simp only [List.length_map,List.length_append,List.length_cons,List.length_nil,List.length_take,List.length_drop,List.length_replicate]; omega) | (simp; omega)) : 0 <= x:=h
theorem gU {σ : Sg} (n : Nat) {d : D} (h : σ.get n = some d) : σ.get n = some d:=h
theorem xU {σ : Sg} (n : Nat) {d : Bx} (h : σ.box n = some d) : σ.box n = some d:=h
theorem gV {gl : List (Nat × D)} {σ : Sg} (n : Nat) {d : D} (h : σ.get n = some d) : ev gl σ (.tmp n) = some d:=h
theorem eU {gl : List (Nat × D)} {τ : Sg} {f : Nat -> Option D} (K : ∀ u x,f u = some x -> τ.get u = some x) (n : Nat) {d : D} (h : f n = some d) : ev gl τ (.tmp n) = some d:=K n d h
theorem kI {gl : List (Nat × D)} {σ : Sg} (n : Nat) {i : Int} (h : ev gl σ (.const (.int .i64 i)) = some (.int ((n : Nat) : Int))) : ev gl σ (.const (.int .i64 i)) = some (.int ((n : Nat) : Int)):=h
theorem kB {gl : List (Nat × D)} {σ : Sg} (b : Bool) (h : ev gl σ (.const (.bool b)) = some (.bool b)) : ev gl σ (.const (.bool b)) = some (.bool b):=h
theorem kN {gl : List (Nat × D)} {σ : Sg} (h : ev gl σ (.const (.slice none 0 0)) = some .nils) : ev gl σ (.const (.slice none 0 0)) = some .nils:=h
@[reducible] def It.y (n : Nat) (d : D) : It:=⟨n,d,true⟩
@[reducible] def It.x (n : Nat) : It:=⟨n,.dead,false⟩
section
variable {P : Program} {C : Ctx} {σ : Sg} {ops : List Oper} {an : List Nat} {ks kk : List (Nat × Nat)} {its : List It}
abbrev EntP (P : Program) (C : Ctx) (σ : Sg) (an : List Nat) (ks kk : List (Nat × Nat)) (its : List It) (i : Nat) (o : Oper) (t : Nat) (d : D) : Prop:=
 ∀ τ : Sg,(∀ id x,lk σ.bx id = some x -> τ.box id = some x) -> t < τ.n -> (∀ u x,facts an ks σ.env its i u = some x -> τ.get u = some x) -> OpS P C o τ ((killS τ kk i).set t d)
abbrev Ent (P : Program) (C : Ctx) (σ : Sg) (ops : List Oper) (an : List Nat) (ks kk : List (Nat × Nat)) (its : List It) (i : Nat) (o : Oper) (t : Nat) (d : D) (wt : Bool) : Prop:=
 o.dst = some t /\ Wt ops (facts an ks σ.env its i) o wt /\ (wt = true -> ∀ τ : Sg,(∀ id x,lk σ.bx id = some x -> τ.box id = some x) -> t < τ.n -> (∀ u x,facts an ks σ.env its i u = some x -> τ.get u = some x) -> OpS P C o τ ((killS τ kk i).set t d))
def noK (kk : List (Nat × Nat)) (i : Nat) : Bool:=kk.all fun x=>!Nat.beq x.1 i
theorem killS_no {τ : Sg} {i : Nat} : ∀ {kk : List (Nat × Nat)},noK kk i = true -> killS τ kk i = τ:=by
 intro kk
 induction kk with
 | nil=>intro _; rfl
 | cons y r ih=>
  obtain ⟨k,s⟩:=y
  intro h
  simp only [noK,List.all_cons,Bool.and_eq_true,Bool.not_eq_true'] at h
  rw [killS,h.1]
  exact ih h.2
theorem aU {i t : Nat} {d : D} {op : Op} {ty : TypeId} {pos : String} {aft : Array Edge} (f : EntP P C σ an ks kk its i ⟨some t,op,ty,pos,aft,none⟩ t d) :
 Ent P C σ ops an ks kk its i ⟨some t,op,ty,pos,aft,none⟩ t d true:=⟨rfl,rfl,fun _=>f⟩
theorem aW {i t g : Nat} {d : D} {op : Op} {ty : TypeId} {pos : String} {aft : Array Edge} {want b : Bool} {tg : Nat} (h1 : (ops[g]?).bind (·.dst) = some tg)
 (h3 : facts an ks σ.env its i tg = some (.bool b)) (h4 : true = (b == want)) (f : EntP P C σ an ks kk its i ⟨some t,op,ty,pos,aft,some (g,want)⟩ t d) :
 Ent P C σ ops an ks kk its i ⟨some t,op,ty,pos,aft,some (g,want)⟩ t d true:=by
 obtain ⟨og,h1,h2⟩:=Option.bind_eq_some_iff.1 h1
 exact ⟨rfl,⟨og,tg,h1,h2,.inl ⟨b,h3,h4⟩⟩,fun _=>f⟩
theorem aF {i t g : Nat} {op : Op} {ty : TypeId} {pos : String} {aft : Array Edge} {want b : Bool} {tg : Nat} (h1 : (ops[g]?).bind (·.dst) = some tg)
 (h3 : facts an ks σ.env its i tg = some (.bool b)) (h4 : false = (b == want)) :
 Ent P C σ ops an ks kk its i ⟨some t,op,ty,pos,aft,some (g,want)⟩ t .dead false:=by
 obtain ⟨og,h1,h2⟩:=Option.bind_eq_some_iff.1 h1
 exact ⟨rfl,⟨og,tg,h1,h2,.inl ⟨b,h3,h4⟩⟩,fun h=>absurd h (by decide)⟩
theorem gT {b wt want : Bool} (h : b = true) (hw : wt = (true == want)) : wt = (b == want):=gw h hw
theorem gF {b wt want : Bool} (h : b = false) (hw : wt = (false == want)) : wt = (b == want):=gw h hw
theorem mU {i t : Nat} {d : D} {ty : TypeId} {pos : String} {aft : Array Edge} (s : Nat) (h : facts an ks σ.env its i s = some d) (hp : (d.pur && noK kk i) = true) :
 Ent P C σ ops an ks kk its i ⟨some t,.move (.tmp s),ty,pos,aft,none⟩ t d true:=by
 rw [Bool.and_eq_true] at hp
 exact ⟨rfl,rfl,fun _ τ _ H K=>by rw [killS_no hp.2]; exact R.mov (K s d h) hp.1 H⟩
theorem fU {i t id off off' : Nat} {path : List Nat} {s f : Nat} {rt : TypeId} [FdT P s f off'] (x : Nat)
 (h : facts an ks σ.env its i x = some (.ptr id off path)) (hk : noK kk i = true) : EntP P C σ an ks kk its i ⟨some t,.fieldAddr s (.tmp x) f,rt,pos,aft,g⟩ t (.ptr id (off + off') (path ++ [f])):=
 fun τ _ H K=>by rw [killS_no hk]; exact R.fdP (K _ _ h) H
theorem lU {i t id off : Nat} {path : List Nat} {d0 d : D} {ty n rt : TypeId} {gg : Bool} [LdT P ty n gg] (p : Nat)
 (h : facts an ks σ.env its i p = some (.ptr id off path)) (hb : lk σ.bx id = some (.var d0)) (hl : d0.loc path = some (off,d)) (hp : d.pur = true) (hn : d.sz = n) (hg : d.isAgg = gg) (hk : noK kk i = true) :
 EntP P C σ an ks kk its i ⟨some t,.load ty (.tmp p),rt,pos,aft,g⟩ t d:=
 fun τ B H K=>by rw [killS_no hk]; exact R.ldP (K _ _ h) (B _ _ hb) hl hp hn hg H
theorem tU {Q : Exit -> Sg -> Prop} (h : picks σ.get (σ.env.map (·.1)) = σ.env) (q : Q .normal σ) : TL P C Q [] σ:=⟨_,_,_,_,h,rfl,rfl,q⟩
theorem tV {Q : Exit -> Sg -> Prop} (e : List (Nat × D)) (b : List (Nat × Bx)) (n : Nat) (h : picks σ.get (e.map (·.1)) = e) (h1 : σ.bx = b) (h2 : σ.n = n) (q : Q .normal ⟨n,e,b⟩) : TL P C Q [] σ:=⟨_,_,_,_,h,h1,h2,q⟩
end
section
variable {P : Program} {C : Ctx} {σ : Sg} {ops : List Oper} {Q : Exit -> Sg -> Prop}
def okL (n : Nat) (m : Nat) (ks kk : List (Nat × Nat)) (its : List It) (env : List (Nat × D)) (l : Nat) : Bool:=
 Nat.ble l m && Nat.ble its.length l && okTs n (slots its) && okRef (upTo m 0) ks (slots its) its 0 && subs kk ks && okEnv (slots its) env
theorem W.l0 {id : Nat} (m : Nat) (its : List It) (ks kk : List (Nat × Nat)) (env' : List (Nat × D)) (bx' : List (Nat × Bx)) (n' : Nat)
 (H : AllOps P C σ ops (upTo m 0) ks kk its ops its 0) (h : okL σ.n m ks kk its σ.env ops.length = true) (hE : picks (afts (upTo m 0) (fun _=>true) ks σ.env its) (env'.map (·.1)) = env')
 (hb : σ.bx = bx') (hn' : σ.n = n') (hT : TL P C Q (ops.drop its.length) ⟨n',env',bx'⟩) : W P C (.region id ops.toArray false) Q σ:=by
 unfold okL at h
 simp only [Bool.and_eq_true] at h
 exact W.line (Nat.le_of_ble_eq_true h.1.1.1.1.1) ⟨Nat.le_of_ble_eq_true h.1.1.1.1.2,h.1.1.1.2,H,h.1.1.2,h.1.2,h.2⟩ hE hb hn' hT
end
end Go.Sx

namespace Go.Sx
variable {P : Program} {C : Ctx} {σ σ' σ1 : Sg} {a : Act} {w w' : World} {ρ : Nat -> Nat} {Fe Fe' Fb : Nat -> List Nat}
theorem run_eqItems_u64 {e : TypeId} [hk : IkT P e .u64] [hL : LdT P e 1 false] (w : World) (d : Nat) (xs ys : List UInt64) (n : Nat) (hx : xs.length = n) (hy : ys.length = n) (cx cy : Array Value)
 (h1 : cx.toList = xs.map (fun b=>Value.int .u64 b.toNat)) (h2 : cy.toList = ys.map (fun b=>Value.int .u64 b.toNat)) : ∀ (l : List Nat),(∀ i ∈ l,i < n) ->
 (Op.eqItems (d + 1) e 1 cx cy l).run P w = .ok (l.all fun i=>xs[i]? == ys[i]?) w:=by
 intro l
 induction l with
 | nil=>intro _; simp [Op.eqItems]
 | cons i l ih=>
  intro h
  have hi:=h i (by simp)
  have hp : ∀ (cs : Array Value) (zs : List UInt64) (hz : zs.length = n),cs.toList = zs.map (fun b=>Value.int .u64 b.toNat) -> (part e cs (i * 1)).run P w = .ok (.int .u64 (zs[i]'(by omega)).toNat) w:=by
   intro cs zs hz hc
   have hi' : i < cs.size:=by
    have:=congrArg List.length hc
    simp at this; omega
   have : cs[i] = .int .u64 (zs[i]'(by omega)).toNat:=by
    have e1 : cs.toList[i]'(by simpa using hi') = (zs.map (fun b=>Value.int .u64 b.toNat))[i]'(by simp; omega):=by simp only [hc]
    simpa using e1
   simp [part,LdT.agg (P:=P) (t:=e),hi',this]
  have e3:=hp cx xs hx h1
  have e4:=hp cy ys hy h2
  obtain ⟨k,hku⟩ : ∃ k,P.underlying e = some (.int k):=⟨_,hk.u⟩
  have e5:=run_equalIn_int (P:=P) w d e .u64 k (xs[i]'(by omega)).toNat (ys[i]'(by omega)).toNat hku
  have ex : xs[i]? = some (xs[i]'(by omega)):=List.getElem?_eq_getElem _
  have ey : ys[i]? = some (ys[i]'(by omega)):=List.getElem?_eq_getElem _
  have eb : ((((xs[i]'(by omega)).toNat : Int)) == (((ys[i]'(by omega)).toNat : Int))) = (xs[i]? == ys[i]?):=by
   rw [ex,ey,beq_u64]; rfl
  have ih':=ih (fun j hj=>h j (List.mem_cons_of_mem _ hj))
  simp only [Op.eqItems,Sem.run_bind,e3,e4,e5,Result.andThen_ok,eb,List.all_cons]
  cases hb : (xs[i]? == ys[i]?) with
  | true=>simpa using ih'
  | false=>simp
theorem all_eq64 (n : Nat) (xs ys : List UInt64) (hx : xs.length = n) (hy : ys.length = n) : ((List.range n).all fun i=>xs[i]? == ys[i]?) = (xs == ys):=by
 rw [Bool.eq_iff_iff]
 simp only [List.all_eq_true,List.mem_range,beq_iff_eq]
 constructor
 · intro h
   apply List.ext_getElem?
   intro i
   by_cases hi : i < n
   · exact h i hi
   · rw [List.getElem?_eq_none (by omega),List.getElem?_eq_none (by omega)]
 · rintro rfl i _; rfl
theorem arr_u64 {G L : Nat -> Prop} {p : Bool} {n : Nat} {xs : List UInt64} {cs : List Value} {F : List Nat} (h : Rc w ρ G L p (.arr n 1 (xs.map .u64)) cs F) : xs.length = n /\ cs = xs.map (fun b=>Value.int .u64 b.toNat):=by
 cases h with
 | arr _ _ _ _ hl hs hr=>
  have hl' : xs.length = n:=by simpa using hl
  refine ⟨hl', ?_⟩
  apply List.ext_getElem?
  intro i
  by_cases hi : i < n
  · have hic : i < cs.length:=by omega
    have:=hr i (by simp; omega)
    rw [Nat.mul_one,List.drop_eq_getElem_cons hic,List.take_succ_cons,List.take_zero] at this
    simp only [List.getElem_map] at this
    rw [List.getElem?_eq_getElem hic,List.getElem?_eq_getElem (by simp; omega)]
    generalize hc : [cs[i]] = c at this
    cases this
    simp at hc
    simp [hc]
  · rw [List.getElem?_eq_none (by omega),List.getElem?_eq_none (by simp; omega)]
theorem EqV.arr64 {t e m : Nat} [hT : ArT P t m e] [hk : IkT P e .u64] [hL : LdT P e 1 false] (xs ys : List UInt64) : EqV P 2 t (.arr m 1 (xs.map .u64)) (.arr m 1 (ys.map .u64)) (xs == ys):=by
 intro n w ρ1 ρ2 G1 G2 L1 L2 v1 v2 F1 F2 h1 h2
 simp only [VR,D.isAgg,if_true] at h1 h2
 obtain ⟨cx,rfl,h1⟩:=h1
 obtain ⟨cy,rfl,h2⟩:=h2
 obtain ⟨hlx,hcx⟩:=arr_u64 h1
 obtain ⟨hly,hcy⟩:=arr_u64 h2
 obtain ⟨d,i,_,_,hi,hsz⟩:=hL.i
 have hce : P.cellsOf e = 1:=by simp [Program.cellsOf,hi,hsz]
 rw [show n + 2 = (n + 1) + 1 from rfl,run_equalIn_array w (n + 1) cx cy hT.u hi,hce,run_eqItems_u64 (P:=P) w n xs ys m hlx hly cx cy hcx hcy _ (fun i hi=>List.mem_range.1 hi),all_eq64 m xs ys hlx hly]
end Go.Sx

namespace Go.Sx
variable {P : Program} {C : Ctx} {σ σ' σ1 σ2 : Sg} {a : Act} {w w' : World} {ρ ρ2 : Nat -> Nat} {Fe Fe' Fb Fb2 : Nat -> List Nat}
end Go.Sx

namespace Go.Sx
variable {P : Program} {C : Ctx} {σ σ' : Sg} {a : Act} {w w' : World} {ρ : Nat -> Nat} {Fe Fb : Nat -> List Nat}
end Go.Sx

namespace Go.Sx
def dropSeq : Nat -> Code -> Code
 | 0,c=>c
 | k + 1,.seq _ c=>dropSeq k c
 | _ + 1,c=>c
theorem W.tailS {P : Program} {C : Ctx} {Q : Exit -> Sg -> Prop} {σ : Sg} {c : Code} (k : Nat) (M : Sg -> Prop) (h2 : ∀ s,M s -> W P C (dropSeq k c) Q s) (h1 : (∀ s,M s -> W P C (dropSeq k c) Q s) -> W P C c Q σ) : W P C c Q σ:=h1 h2
end Go.Sx

namespace Go.Sx
variable {P : Program} {C : Ctx} {σ σ' σ1 : Sg} {a : Act} {w w' : World} {ρ : Nat -> Nat} {Fe Fe' Fb : Nat -> List Nat}
end Go.Sx

namespace Go.Sx
variable {P : Program} {C : Ctx} {σ σ' σ1 : Sg} {a : Act} {w w' : World} {ρ : Nat -> Nat} {Fe Fe' Fb : Nat -> List Nat}
end Go.Sx

namespace Go.Sx
def kTab : List UInt32:=[0x428a2f98,0x71374491,0xb5c0fbcf,0xe9b5dba5,0x3956c25b,0x59f111f1,0x923f82a4,0xab1c5ed5,
 0xd807aa98,0x12835b01,0x243185be,0x550c7dc3,0x72be5d74,0x80deb1fe,0x9bdc06a7,0xc19bf174,
 0xe49b69c1,0xefbe4786,0x0fc19dc6,0x240ca1cc,0x2de92c6f,0x4a7484aa,0x5cb0a9dc,0x76f988da,
 0x983e5152,0xa831c66d,0xb00327c8,0xbf597fc7,0xc6e00bf3,0xd5a79147,0x06ca6351,0x14292967,
 0x27b70a85,0x2e1b2138,0x4d2c6dfc,0x53380d13,0x650a7354,0x766a0abb,0x81c2c92e,0x92722c85,
 0xa2bfe8a1,0xa81a664b,0xc24b8b70,0xc76c51a3,0xd192e819,0xd6990624,0xf40e3585,0x106aa070,
 0x19a4c116,0x1e376c08,0x2748774c,0x34b0bcb5,0x391c0cb3,0x4ed8aa4a,0x5b9cca4f,0x682e6ff3,
 0x748f82ee,0x78a5636f,0x84c87814,0x8cc70208,0x90befffa,0xa4506ceb,0xbef9a3f7,0xc67178f2]
def iv : List UInt32:=[0x6a09e667,0xbb67ae85,0x3c6ef372,0xa54ff53a,0x510e527f,0x9b05688c,0x1f83d9ab,0x5be0cd19]
def bytesD (b : List UInt8) : D:=.sl none 1 (b.map D.u8)
def hashD (b : List UInt8) : D:=.arr 32 1 (b.map D.u8)
def rotl (x : UInt32) (k : Int) : UInt32:=shl_u32 x (UInt64.ofInt k &&& 31).toNat ||| shr_u32 x (32 - (UInt64.ofInt k &&& 31)).toNat
def right (x : UInt32) (n : Int) : UInt32:=rotl x (wr (0 - n))
def inW (p : List UInt8) (t : Nat) (w : List UInt32) : Nat -> List UInt32
 | 0=>w
 | i + 1=>(inW p t w i).set t (shl_u32 (inW p t w i)[t]! 8 ||| (p[4 * t + i]!).toUInt32)
def nextW (w : List UInt32) (t : Nat) : UInt32:=
 w[t - 16]! + w[t - 7]! + (right w[t - 15]! 7 ^^^ right w[t - 15]! 18 ^^^ shr_u32 w[t - 15]! 3) + (right w[t - 2]! 17 ^^^ right w[t - 2]! 19 ^^^ shr_u32 w[t - 2]! 10)
def sched (p : List UInt8) : Nat -> List UInt32
 | 0=>List.replicate 64 0
 | t + 1=>if t < 16 then inW p t (sched p t) 4 else (sched p t).set t (nextW (sched p t) t)
structure W8 where
 a : UInt32
 b : UInt32
 c : UInt32
 d : UInt32
 e : UInt32
 f : UInt32
 g : UInt32
 l : UInt32
def W8.list (v : W8) : List UInt32:=[v.a,v.b,v.c,v.d,v.e,v.f,v.g,v.l]
def W8.of (h : List UInt32) : W8:=⟨h[0]!,h[1]!,h[2]!,h[3]!,h[4]!,h[5]!,h[6]!,h[7]!⟩
def one (v : W8) (k w : UInt32) : UInt32:=v.l + (right v.e 6 ^^^ right v.e 11 ^^^ right v.e 25) + (v.g ^^^ (v.e &&& (v.f ^^^ v.g))) + k + w
def two (v : W8) : UInt32:=(right v.a 2 ^^^ right v.a 13 ^^^ right v.a 22) + (v.a &&& v.b ||| v.c &&& (v.a ||| v.b))
def rnd (v : W8) (k w : UInt32) : W8:=⟨one v k w + two v,v.a,v.b,v.c,v.d + one v k w,v.e,v.f,v.g⟩
def rds (h w : List UInt32) : Nat -> W8
 | 0=>W8.of h
 | t + 1=>rnd (rds h w t) kTab[t]! w[t]!
def addH (h l : List UInt32) : Nat -> List UInt32
 | 0=>h
 | i + 1=>(addH h l i).set i ((addH h l i)[i]! + l[i]!)
def comp (h : List UInt32) (p : List UInt8) : List UInt32:=addH h (rds h (sched p 64) 64).list 8
structure ShaS where
 begun : Bool
 h : List UInt32
 piece : List UInt8
 n : UInt64
def stD (s : ShaS) : D:=.agg [.bool s.begun,.arr 8 1 (s.h.map D.u32),.arr 64 1 (s.piece.map D.u8),.u64 s.n]
def ShaS.zero : ShaS:=⟨false,List.replicate 8 0,List.replicate 64 0,0⟩
def ShaS.start : ShaS:=⟨true,iv,List.replicate 64 0,0⟩
structure ShaS.ok (s : ShaS) : Prop where
 h : s.h.length = 8
 p : s.piece.length = 64
theorem ShaS.start_ok : ShaS.start.ok:=⟨by simp [ShaS.start,iv],by simp [ShaS.start]⟩
theorem frs_st (s : ShaS) : Frs (stD s):=.agg _ (frs_cons (.bool _) (frs_cons (.arr _ _ _ (frs_map fun _=>.u32 _)) (frs_cons (.arr _ _ _ (frs_map fun _=>.u8 _)) (frs_cons (.u64 _) frs_nil))))
theorem frs_hash (b : List UInt8) : Frs (hashD b):=.arr _ _ _ (frs_map fun _=>.u8 _)
theorem inW_len (p : List UInt8) (t : Nat) (w : List UInt32) (i : Nat) : (inW p t w i).length = w.length:=by
 induction i with
 | zero=>rfl
 | succ i ih=>simp [inW,ih]
theorem sched_len (p : List UInt8) (t : Nat) : (sched p t).length = 64:=by
 induction t with
 | zero=>simp [sched]
 | succ t ih=>simp only [sched]; split <;> simp [inW_len,ih]
theorem addH_len (h l : List UInt32) (i : Nat) : (addH h l i).length = h.length:=by
 induction i with
 | zero=>rfl
 | succ i ih=>simp [addH,ih]
theorem comp_len (h : List UInt32) (p : List UInt8) : (comp h p).length = h.length:=addH_len ..
def mS (s : ShaS) : Nat:=(s.n % 64).toNat
def kS (s : ShaS) (b : List UInt8) : Nat:=min b.length (64 - mS s)
def pieceS (s : ShaS) (b : List UInt8) : List UInt8:=s.piece.take (mS s) ++ b.take (kS s b) ++ s.piece.drop (mS s + kS s b)
def nS (s : ShaS) (b : List UInt8) : UInt64:=s.n + UInt64.ofInt (kS s b : Nat)
def stepS (s : ShaS) (b : List UInt8) : ShaS:=⟨s.begun,bif nS s b % 64 == 0 then comp s.h (pieceS s b) else s.h,pieceS s b,nS s b⟩
theorem mS_lt (s : ShaS) : mS s < 64:=by
 unfold mS
 rw [UInt64.toNat_mod]
 exact Nat.mod_lt _ (by decide)
theorem kS_le (s : ShaS) (b : List UInt8) : kS s b <= b.length:=Nat.min_le_left _ _
theorem kS_pos (s : ShaS) (b : List UInt8) (h : 0 < b.length) : 0 < kS s b:=by have:=mS_lt s; unfold kS; omega
theorem kS_room (s : ShaS) (b : List UInt8) : mS s + kS s b <= 64:=by have:=mS_lt s; unfold kS; omega
def addW (s : ShaS) (b : List UInt8) : ShaS:=
 if h : b.length = 0 then s else addW (stepS s b) (b.drop (kS s b))
termination_by b.length
decreasing_by
 have:=kS_pos s b (by omega)
 simp only [List.length_drop]; omega
theorem addW_nil (s : ShaS) (b : List UInt8) (h : b.length = 0) : addW s b = s:=by rw [addW]; simp [h]
theorem addW_step (s : ShaS) (b : List UInt8) (h : b.length ≠ 0) : addW s b = addW (stepS s b) (b.drop (kS s b)):=by rw [addW]; simp [h]
def addS (s : ShaS) (b : List UInt8) : ShaS:=addW (bif s.begun then s else ShaS.start) b
theorem pieceS_len (s : ShaS) (b : List UInt8) (h : s.ok) : (pieceS s b).length = 64:=by
 have h1:=kS_room s b
 have h2:=kS_le s b
 have h3:=h.p
 simp [pieceS]; omega
theorem stepS_ok (s : ShaS) (b : List UInt8) (h : s.ok) : (stepS s b).ok:=by
 refine ⟨?_,pieceS_len s b h⟩
 simp only [stepS]
 cases (nS s b % 64 == 0) with
 | true=>simp only [cond_true,comp_len]; exact h.h
 | false=>exact h.h
theorem addW_ok (s : ShaS) (b : List UInt8) (h : s.ok) : (addW s b).ok:=by
 induction hn : b.length using Nat.strongRecOn generalizing s b with
 | _ n ih=>
  by_cases h0 : b.length = 0
  · rw [addW_nil _ _ h0]; exact h
  · rw [addW_step _ _ h0]
    have:=kS_pos s b (by omega)
    exact ih _ (by simp; omega) _ _ (stepS_ok s b h) rfl
theorem addS_ok (s : ShaS) (b : List UInt8) (h : s.ok) : (addS s b).ok:=by
 unfold addS
 cases s.begun with
 | true=>exact addW_ok _ _ h
 | false=>exact addW_ok _ _ ShaS.start_ok
def padN (s : ShaS) : Nat:=(120 - mS s) % 64
def padS : Nat -> ShaS -> ShaS
 | 0,s=>s
 | k + 1,s=>padS k (addS s [0])
def longB (n : UInt64) : Nat -> List UInt8
 | 0=>List.replicate 8 0
 | i + 1=>(longB n i).set i (shr_u64 n (56 - 8 * i)).toUInt8
theorem longB_len (n : UInt64) (i : Nat) : (longB n i).length = 8:=by
 induction i with
 | zero=>simp [longB]
 | succ i ih=>simp [longB,ih]
def outB (h : List UInt32) : Nat -> List UInt8
 | 0=>List.replicate 32 0
 | i + 1=>(outB h i).set i (shr_u32 h[i / 4]! (24 - 8 * (i % 4))).toUInt8
theorem outB_len (h : List UInt32) (i : Nat) : (outB h i).length = 32:=by
 induction i with
 | zero=>simp [outB]
 | succ i ih=>simp [outB,ih]
def pad1 (s : ShaS) : ShaS:=addS s [128]
def pad2 (s : ShaS) : ShaS:=padS (padN (pad1 s)) (pad1 s)
def pad3 (s : ShaS) : ShaS:=addS (pad2 s) (longB (s.n * 8) 8)
def endS (s : ShaS) : List UInt8:=outB (pad3 s).h 32
def sumS (b : List UInt8) : List UInt8:=endS (addS ShaS.start b)
theorem stepS_begun (s : ShaS) (b : List UInt8) : (stepS s b).begun = s.begun:=rfl
theorem addW_begun (s : ShaS) (b : List UInt8) : (addW s b).begun = s.begun:=by
 induction hn : b.length using Nat.strongRecOn generalizing s b with
 | _ n ih=>
  by_cases h0 : b.length = 0
  · rw [addW_nil _ _ h0]
  · rw [addW_step _ _ h0]
    have:=kS_pos s b (by omega)
    rw [ih _ (by simp; omega) _ _ rfl,stepS_begun]
theorem addS_begun (s : ShaS) (b : List UInt8) : (addS s b).begun = true:=by
 unfold addS
 rw [addW_begun]
 cases h : s.begun with
 | true=>simpa using h
 | false=>rfl
theorem addS_one (s : ShaS) (x : UInt8) (h : s.begun = true) : addS s [x] = stepS s [x]:=by
 unfold addS
 have hk : kS s [x] = 1:=by have:=mS_lt s; simp only [kS,List.length_singleton]; omega
 rw [h,cond_true,addW_step _ _ (by simp),addW_nil _ _ (by simp [hk])]
theorem mS_one (s : ShaS) (x : UInt8) (h : s.begun = true) : mS (addS s [x]) = (mS s + 1) % 64:=by
 rw [addS_one s x h]
 have hk : kS s [x] = 1:=by have:=mS_lt s; simp only [kS,List.length_singleton]; omega
 have e : UInt64.ofInt ((1 : Nat) : Int) = 1:=rfl
 have e1 : (1 : UInt64).toNat = 1:=rfl
 have e2 : (64 : UInt64).toNat = 64:=rfl
 simp only [mS,stepS,nS,hk,e,UInt64.toNat_mod,UInt64.toNat_add,e1,e2]
 omega
theorem mS_ne {s : ShaS} (h : (s.n % 64 != 56) = true) : mS s ≠ 56:=by
 intro he
 have : s.n % 64 = 56:=UInt64.toNat_inj.1 he
 simp [this] at h
theorem mS_eq {s : ShaS} (h : (s.n % 64 != 56) = false) : mS s = 56:=by
 have : s.n % 64 = 56:=by simpa using h
 unfold mS; rw [this]; rfl
theorem pad_step (s : ShaS) (hb : s.begun = true) (h : mS s ≠ 56) : padS (padN s) s = padS (padN (addS s [0])) (addS s [0]):=by
 have h1:=mS_one s 0 hb
 have h2:=mS_lt s
 have : padN s = padN (addS s [0]) + 1:=by unfold padN; omega
 rw [this]; rfl
theorem pad_less (s : ShaS) (hb : s.begun = true) (h : mS s ≠ 56) : padN (addS s [0]) < padN s:=by
 have h1:=mS_one s 0 hb
 have h2:=mS_lt s
 unfold padN; omega
theorem pad_end (s : ShaS) (h : mS s = 56) : padN s = 0:=by unfold padN; omega
def rright (x : UInt32) (n : UInt64) : UInt32:=shr_u32 x n.toNat ||| shl_u32 x (32 - n).toNat
def w4 (p : List UInt8) (t : Nat) : UInt32:=
 shl_u32 (p[4 * t]!).toUInt32 24 ||| shl_u32 (p[4 * t + 1]!).toUInt32 16 ||| shl_u32 (p[4 * t + 2]!).toUInt32 8 ||| (p[4 * t + 3]!).toUInt32
def nextR (w : List UInt32) (t : Nat) : UInt32:=
 (rright w[t - 2]! 17 ^^^ rright w[t - 2]! 19 ^^^ shr_u32 w[t - 2]! 10) + w[t - 7]! + (rright w[t - 15]! 7 ^^^ rright w[t - 15]! 18 ^^^ shr_u32 w[t - 15]! 3) + w[t - 16]!
def wR (p : List UInt8) : Nat -> List UInt32
 | 0=>[]
 | t + 1=>wR p t ++ [if t < 16 then w4 p t else nextR (wR p t) t]
theorem wR_len (p : List UInt8) (t : Nat) : (wR p t).length = t:=by
 induction t with
 | zero=>rfl
 | succ t ih=>simp [wR,ih]
def oneR (l : List UInt32) (k w : UInt32) : UInt32:=
 l[7]! + (rright l[4]! 6 ^^^ rright l[4]! 11 ^^^ rright l[4]! 25) + (l[4]! &&& l[5]! ^^^ ~~~l[4]! &&& l[6]!) + k + w
def twoR (l : List UInt32) : UInt32:=(rright l[0]! 2 ^^^ rright l[0]! 13 ^^^ rright l[0]! 22) + (l[0]! &&& l[1]! ^^^ l[0]! &&& l[2]! ^^^ l[1]! &&& l[2]!)
def rndR (l : List UInt32) (k w : UInt32) : List UInt32:=[oneR l k w + twoR l,l[0]!,l[1]!,l[2]!,l[3]! + oneR l k w,l[4]!,l[5]!,l[6]!]
def rdsR (h w : List UInt32) : Nat -> List UInt32
 | 0=>h
 | t + 1=>rndR (rdsR h w t) kTab[t]! w[t]!
theorem rdsR_len (h w : List UInt32) (t : Nat) (hh : h.length = 8) : (rdsR h w t).length = 8:=by
 cases t with
 | zero=>exact hh
 | succ t=>rfl
def compR (h : List UInt32) (p : List UInt8) : List UInt32:=addH h (rdsR h (wR p 64) 64) 8
theorem compR_len (h : List UInt32) (p : List UInt8) : (compR h p).length = h.length:=addH_len ..
def zR (b : List UInt8) : Nat:=(119 - b.length % 64) % 64
def tailR (n : UInt64) : Nat -> List UInt8
 | 0=>[]
 | j + 1=>tailR n j ++ [(shr_u64 n (UInt64.ofInt (wr (8 * (7 - ((j : Nat) : Int))))).toNat).toUInt8]
theorem tailR_len (n : UInt64) (t : Nat) : (tailR n t).length = t:=by
 induction t with
 | zero=>rfl
 | succ t ih=>simp [tailR,ih]
def bitsR (b : List UInt8) : UInt64:=UInt64.ofInt (b.length : Nat) * 8
def textR (b : List UInt8) : List UInt8:=b ++ [128] ++ List.replicate (zR b) 0 ++ tailR (bitsR b) 8
theorem textR_len (b : List UInt8) : (textR b).length = b.length + 9 + zR b:=by simp [textR,tailR_len]; omega
def pieces (b : List UInt8) : Nat:=(b.length + 9 + zR b) / 64
theorem textR_pieces (b : List UInt8) : (textR b).length = 64 * pieces b:=by rw [textR_len]; unfold pieces zR; omega
def hR (all : List UInt8) : Nat -> List UInt32
 | 0=>iv
 | m + 1=>compR (hR all m) ((all.drop (64 * m)).take 64)
theorem hR_len (all : List UInt8) (m : Nat) : (hR all m).length = 8:=by
 induction m with
 | zero=>rfl
 | succ m ih=>simp only [hR,compR_len,ih]
def outR (h : List UInt32) : Nat -> List UInt8
 | 0=>List.replicate 32 0
 | i + 1=>(outR h i).set i (shr_u32 h[i / 4]! (UInt64.ofInt ((24 - 8 * (i % 4) : Nat) : Int)).toNat).toUInt8
theorem outR_len (h : List UInt32) (i : Nat) : (outR h i).length = 32:=by
 induction i with
 | zero=>simp [outR]
 | succ i ih=>simp [outR,ih]
def sumR (b : List UInt8) : List UInt8:=outR (hR (textR b) (pieces b)) 32
def twiceR (b : List UInt8) : List UInt8:=sumR (sumR b)
theorem sumR_len (b : List UInt8) : (sumR b).length = 32:=outR_len _ _
end Go.Sx
