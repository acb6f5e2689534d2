/-
 Own library: what ends by a panic.
-/
import Derived.Test.YtdjoepmmffghhaaDoorMSxTup
set_option linter.unusedVariables false
set_option linter.unusedSimpArgs false
set_option linter.unnecessarySimpa false

namespace Go.Sx

variable {P : Program} {C : Ctx} {σ σ' σ1 : Sg} {a : Act} {w w' : World} {ρ : Nat → Nat} {Fe Fe' Fb : Nat → List Nat}

class MiT (P : Program) (t : TypeId) (u : outParam TypeDesc) : Prop where
 d : P.underlying t = some u
 n : (match u with | .interface _ => false | _ => true) = true
theorem run_mkifc {t : TypeId} {u : TypeDesc} [h : MiT P t u] (v : Value) (w : World) : (Instr.makeInterface t v).run P w = .ok (.iface t v) w := by
 have h1 := h.d
 have h2 := h.n
 unfold Instr.makeInterface
 simp only [Sem.run_bind,run_underlying h1,Result.andThen_ok]
 cases u <;> first | rfl | (simp at h2)
theorem R.mkifc {x : Operand} {t ty : Nat} {u : TypeDesc} [hT : MiT P ty u] {d : D} {rt : TypeId} {pos : String} {aft : Array Edge} {g : Option (Nat × Bool)}
 (h : ev C.gl σ x = some d) (hp : d.pur = true) (ha : d.isAgg = false) (ht : t < σ.n) : OpS P C ⟨some t,.makeInterface ty x,rt,pos,aft,g⟩ σ (σ.set t (.ifc ty d)) := by
 refine OpS.value fun a w ⟨ρ,Fe,Fb,st⟩ => ?_
 obtain ⟨F,hv,_⟩ := ev_ok st h (pur_ref hp)
 have hF := hv.pur hp
 rw [hF] at hv
 refine ⟨.iface ty (a.eval x),w, ?_,st.put ht rfl ?_⟩
 · unfold execOp
   simp [run_mkifc]
 unfold VR at hv ⊢
 rw [ha] at hv
 exact .ifc ty d _ ha hv

def okCh (ch : List PanicEntry) : Prop := ∃ t x,ch = [{ v := .iface t x,recovered := false }]
def EndP (e : Exit) : Prop := ∃ ch,e = .panic ch ∧ okCh ch

theorem R.panic {s ty : Nat} {d : D} {rt : TypeId} {pos : String} {aft : Array Edge} {g : Option (Nat × Bool)} {E : Exit → Sg → Prop} (h : σ.get s = some (.ifc ty d)) (hE : ∀ e,EndP e → E e σ) :
 OpX P C ⟨none,.panic (.tmp s),rt,pos,aft,g⟩ σ E := by
 intro a w ⟨ρ,Fe,Fb,st⟩ K Q hK
 obtain ⟨v,hv,hr⟩ := (SR_plain rfl).1 (st.env _ _ h)
 simp only [VR,D.isAgg,Bool.false_eq_true,if_false] at hr
 generalize hF : Fe s = F at hr
 cases hr with
 | ifc _ _ x ha hr =>
 refine ⟨fun _ _ => trivial, ?_⟩
 have h0 : (execOp a.eval ⟨none,.panic (.tmp s),rt,pos,aft,g⟩).run P w = .halt (.panic (.iface ty x)) w := by
  unfold execOp
  simp only [eval_tmp hv,Sem.run_bind,run_panic_iface]
  rfl
 have h1 : ((⟨none,.panic (.tmp s),rt,pos,aft,g⟩ : Oper).semAt (Fx C).round a.eval).run P w = .halt (.panic (.iface ty x)) w := by
  cases hro : (Fx C).round with
  | none => exact h0
  | some l => rw [Oper.semAt_some l a.eval _ (fun c hc => by cases hc)]; exact h0
 rw [h1,Oper.uponIn_panic]
 exact hK _ _ _ _ ⟨ρ,Fe,Fb,st⟩ (hE _ ⟨_,rfl,_,_,rfl⟩)

def D.dds (n : Nat) : D := .agg (List.replicate n .dead)
theorem szs_dead (n : Nat) : D.szs (List.replicate n .dead) = n := by
 induction n with
 | zero => rfl
 | succ n ih => simp [List.replicate_succ,ih,D.sz]; omega
theorem offk_dead (n k : Nat) (h : k ≤ n) : offk (List.replicate n .dead) k = k := by
 unfold offk
 rw [List.take_replicate,Nat.min_eq_left h,szs_dead]
theorem Rc.dds {G L G' L' : Nat → Prop} {ρ' : Nat → Nat} {d : D} {cs : List Value} {F : List Nat} (h : Rc w ρ G L true d cs F) : Rc w' ρ' G' L' true (D.dds d.sz) cs [] := by
 have hl := h.len
 have := Rc.agg (w := w') (ρ := ρ') (G := G') (L := L') (p := true) (List.replicate d.sz .dead) cs (fun _ => []) (by rw [szs_dead]; exact hl) (fun k hk => by
  have hk' : k < d.sz := by simpa using hk
  rw [offk_dead _ _ (by omega)]
  simp only [List.getElem_replicate,D.sz]
  rw [List.drop_eq_getElem_cons (by omega),List.take_succ_cons,List.take_zero]
  exact .dead _ (h.one _ (List.getElem_mem _)))
 rwa [flat0] at this

def deadsB : List (Nat × Bx) → List (Nat × Bx)
 | [] => []
 | (k,.var d) :: r => (k,.var (D.dds d.sz)) :: deadsB r
 | (k,x) :: r => (k,x) :: deadsB r
def varsB : List (Nat × Bx) → Bool
 | [] => true
 | (_,.var _) :: r => varsB r
 | _ => false
theorem lk_deadsB {l : List (Nat × Bx)} (hv : varsB l = true) (u : Nat) : (∀ x,lk l u = some x → ∃ d,x = .var d ∧ lk (deadsB l) u = some (.var (D.dds d.sz))) ∧ (lk l u = none → lk (deadsB l) u = none) := by
 induction l with
 | nil => exact ⟨fun x h => (by cases h),fun _ => rfl⟩
 | cons y r ih =>
  obtain ⟨k,b⟩ := y
  cases b with
  | var d =>
   simp only [varsB] at hv
   simp only [deadsB,lk_cons]
   by_cases hk : k = u
   · subst hk
     simp only [if_true]
     exact ⟨fun x hx => (by cases hx; exact ⟨d,rfl,rfl⟩),fun h => (by cases h)⟩
   · simp only [hk,if_false]
     exact ih hv
  | _ => simp [varsB] at hv
theorem deadsB_some {l : List (Nat × Bx)} (hv : varsB l = true) (u : Nat) : (lk (deadsB l) u).isSome = (lk l u).isSome := by
 obtain ⟨h1,h2⟩ := lk_deadsB hv u
 cases h : lk l u with
 | none => rw [h2 h]
 | some x => obtain ⟨d,_,h3⟩ := h1 x h; rw [h3]; rfl
theorem keys_deadsB (l : List (Nat × Bx)) : (deadsB l).map Prod.fst = l.map Prod.fst := by
 induction l with
 | nil => rfl
 | cons y r ih => obtain ⟨k,b⟩ := y; cases b <;> simp [deadsB,ih]
theorem ren_deads (m : Nat → Nat) (n : Nat) : (D.dds n).ren m = D.dds n := by
 unfold D.dds
 simp only [D.ren,rens_eq,List.map_replicate]
theorem renBx_deadsB (m : Nat → Nat) (l : List (Nat × Bx)) : renBx m (deadsB l) = deadsB (renBx m l) := by
 induction l with
 | nil => rfl
 | cons y r ih =>
  obtain ⟨k,b⟩ := y
  cases b with
  | var d => simp [deadsB,renBx,Bx.ren,ih,ren_deads,sz_ren]
  | _ => simp [deadsB,renBx,Bx.ren,ih]

def FnX (P : Program) (gl : List (Nat × D)) (f : FuncId) (ds : List D) (bx : List (Nat × Bx)) : Prop :=
 ∀ (w : World) (G : Nat → Prop) (ρ : Nat → Nat) (Fb : Nat → List Nat) (vs : List Value),
  (∀ g d,(g,d) ∈ gl → G g ∧ ∃ cs e fz,w.heap[g]? = some (.cells cs e fz) ∧ Rc w (fun x => x) (fun _ => False) (fun _ => False) false d cs.toList []) →
  (∀ b,G b → b < w.heap.size) →
  vs.length = ds.length → (∀ k (h : k < ds.length),VR w ρ G (fun i => (lk bx i).isSome = true) ds[k] (vs.getD k undef) []) → Hand bx w ρ G Fb →
  Calls P f vs.toArray w (fun e w' => ∃ ch ρ' Fb',e = .panicked ch ∧ okCh ch ∧ ExtO (fun b => ∃ id,b ∈ Fb id) w w' ∧ (∀ id,(lk bx id).isSome = true → ρ' id = ρ id) ∧
   (∀ b,(∃ id,b ∈ Fb' id) → w.heap.size ≤ b ∨ ∃ id,b ∈ Fb id) ∧
   Hand (deadsB bx) w' ρ' (fun b => (G b ∨ w.heap.size ≤ b ∨ ∃ id,b ∈ Fb id) ∧ ¬ ∃ id,b ∈ Fb' id) Fb')

def SzB (σ : Sg) : List (Nat × Bx) → Prop
 | [] => True
 | (k,.var d) :: r => (∃ d',σ.box k = some (.var d') ∧ d'.sz = d.sz) ∧ SzB σ r
 | _ => False
theorem SzB_get {l : List (Nat × Bx)} (h : SzB σ l) {k : Nat} {x : Bx} (hk : lk l k = some x) : ∃ d d',x = .var d ∧ σ.box k = some (.var d') ∧ d'.sz = d.sz := by
 induction l with
 | nil => cases hk
 | cons y r ih =>
  obtain ⟨j,b⟩ := y
  cases b with
  | var d =>
   rw [lk_cons] at hk
   by_cases hj : j = k
   · subst hj
     simp only [if_true,Option.some.injEq] at hk
     obtain ⟨d',h1,h2⟩ := h.1
     exact ⟨d,d',hk.symm,h1,h2⟩
   · simp only [hj,if_false] at hk
     exact ih h.2 hk
  | _ => exact h.elim
theorem SzB.vars {l : List (Nat × Bx)} (h : SzB σ l) : varsB l = true := by
 induction l with
 | nil => rfl
 | cons y r ih =>
  obtain ⟨j,b⟩ := y
  cases b with
  | var d => exact ih h.2
  | _ => exact h.elim
def EndsX (bx : List (Nat × Bx)) (e : Exit) (σ : Sg) : Prop := EndP e ∧ SzB σ bx

theorem FnX.of {gl : List (Nat × D)} {f : FuncId} {fn : Func} {c : Code} {ds : List D} {bx : List (Nat × Bx)} {n : Nat} (hf : P.funcs[f]? = some fn) (hb : fn.body = some c) (hnn : fn.ntmps = n)
 (hd : ds.all (fun d => !d.isRef) = true) (hn : ds.length ≤ n)
 (h : ∀ C : Ctx,C.gl = gl → (∀ id b,C.pin id = some b → memN (bx.map Prod.fst) id = true) → W P C c (EndsX bx) ⟨n,ini 0 ds,bx⟩) : FnX P gl f ds bx := by
 subst hnn
 intro w G ρ0 Fb0 vs hgl hGlt hl hv hand
 refine calls_of_wp hf hb ?_
 let C : Ctx := ⟨w,fun b => b < w.heap.size ∧ ¬ ∃ id,b ∈ Fb0 id,fun b => G b ∨ w.heap.size ≤ b ∨ ∃ id,b ∈ Fb0 id,gl,none,fun id => if (lk bx id).isSome then some (ρ0 id) else none,[]⟩
 have hget : ∀ t d,(⟨fn.ntmps,ini 0 ds,bx⟩ : Sg).get t = some d → ∃ h : t < ds.length,ds[t] = d := by
  intro t d hd
  simp only [Sg.get,lk_ini,Nat.zero_le,if_true,Nat.sub_zero] at hd
  obtain ⟨h,e⟩ := List.getElem?_eq_some_iff.1 hd
  exact ⟨h,e⟩
 have hown : ∀ b,own (fun _ => []) Fb0 b → ∃ id,b ∈ Fb0 id := by
  rintro b (⟨_,h⟩ | h)
  · cases h
  · exact h
 have hFlt : ∀ id b,b ∈ Fb0 id → b < w.heap.size := fun id b hb => by
  cases hx : lk bx id with
  | none => rw [hand.boxN id hx] at hb; cases hb
  | some x => exact (hand.box id x hx).lt b hb
 have hG2 : ∀ b,G b → gd C (fun _ => []) Fb0 b := fun b hb => ⟨.inl hb,fun ho => by obtain ⟨id,hid⟩ := hown b ho; exact hand.out id b hid hb⟩
 have hpin0 : ∀ id b,C.pin id = some b → ρ0 id = b ∧ (lk bx id).isSome = true := fun id b hp => by
  by_cases hx : (lk bx id).isSome = true
  · simp only [C,hx,if_true,Option.some.injEq] at hp; exact ⟨hp,hx⟩
  · simp [C,hx] at hp
 have st : StW C ⟨fn.ntmps,ini 0 ds,bx⟩ { tmps := vs.toArray ++ Array.replicate (fn.ntmps - vs.toArray.size) undef,defers := [] } w ρ0 (fun _ => []) Fb0 := by
  refine ⟨?_,rfl,(fun id b hp => hpin0 id b hp), ?_,fun _ _ => rfl, ?_,hand.boxN,fun _ => List.nodup_nil,hand.nodB,(fun _ _ _ _ h => by cases h),(fun _ _ _ h => by cases h),hand.dBB,fun b hb hc => hc.2 (hown b hb), ?_,rfl,rfl,rfl,Nat.le_refl _, ?_,fun b hb => .inr (.inl hb),fun b hb => .inr (.inr (hown b hb))⟩
  · simp [hl]; omega
  · intro t d hd'
    obtain ⟨ht,rfl⟩ := hget t d hd'
    have hr : ds[t].isRef = false := by
     have := List.all_eq_true.1 hd ds[t] (List.getElem_mem ht)
     simpa using this
    refine (SR_plain hr).2 ⟨vs.getD t undef, ?_,(hv t ht).mono (fun _ _ _ => rfl) (fun b hb _ => hG2 b hb) (fun id hid => ⟨hid,rfl⟩)⟩
    have htv : t < vs.length := by omega
    rw [Array.getElem?_append_left (by simpa using htv)]
    simp [htv]
  · intro id x hx
    exact (hand.box id x hx).mono (fun _ _ _ => rfl) (fun b hb _ => hG2 b hb) (fun id hid => ⟨hid,rfl⟩)
  · intro b hb; exact ⟨rfl,hb.1⟩
  · intro g d hg
    obtain ⟨h1,cs,e,fz,h2,h3⟩ := hgl g d hg
    exact ⟨⟨(Array.getElem?_eq_some_iff.1 h2).1,fun ⟨id,hid⟩ => hand.out id g hid h1⟩,.inl h1,cs,e,fz,h2,h3⟩
 refine Go.Code.wp_mono ?_ (wpIn_wide.1 (h C rfl (fun id b hp => memN_fst (hpin0 id b hp).2) _ w ⟨_,_,_,st⟩))
 rintro e a' w' ⟨σ',⟨ρ,Fe,Fb,st'⟩,⟨ch,rfl,hch⟩,hsz⟩
 have hvar := hsz.vars
 have hρ : ∀ id,(lk bx id).isSome = true → ρ id = ρ0 id := fun id hx => (st'.pin id (ρ0 id) (by simp [C,hx])).1
 let Fb' : Nat → List Nat := fun id => if (lk bx id).isSome then [ρ id] else []
 have hsub : ∀ id,∀ b ∈ Fb' id,b ∈ Fb id ∧ (lk bx id).isSome = true := fun id b hb => by
  by_cases hx : (lk bx id).isSome = true
  · simp only [Fb',hx,if_true,List.mem_singleton] at hb
    subst hb
    obtain ⟨x,hx'⟩ := Option.isSome_iff_exists.1 hx
    obtain ⟨d,d',_,h2,_⟩ := SzB_get hsz hx'
    obtain ⟨cs,e,F',q1,q2,q3⟩ := st'.bx id _ h2
    exact ⟨by rw [q3]; simp,hx⟩
  · simp [Fb',hx] at hb
 have hnew : ∀ b,own Fe Fb b → w.heap.size ≤ b ∨ ∃ id,b ∈ Fb0 id := fun b hb => by
  by_cases hbl : w.heap.size ≤ b
  · exact .inl hbl
  · right
    by_cases hx : ∃ id,b ∈ Fb0 id
    · exact hx
    · exact absurd ⟨by omega,hx⟩ (st'.new b hb)
 have hext : ExtO (fun b => ∃ id,b ∈ Fb0 id) w w' := ⟨st'.os,st'.tape,st'.output,st'.grown,fun b hb hn => (st'.kept b ⟨hb,hn⟩).1⟩
 refine ⟨st'.defs,ch,ρ,Fb',rfl,hch,hext,hρ,fun b ⟨id,hid⟩ => hnew b (.inr ⟨id,(hsub id b hid).1⟩),fun id x hx => ?_,fun id hx => ?_,fun id => ?_,fun id id' hne b hb hb' => st'.dBB id id' hne b (hsub id b hb).1 (hsub id' b hb').1,fun id b hb hc => hc.2 ⟨id,hb⟩⟩
 · have hs : (lk bx id).isSome = true := by rw [← deadsB_some hvar,hx]; rfl
   obtain ⟨y,hy⟩ := Option.isSome_iff_exists.1 hs
   obtain ⟨d,hyd,hy2⟩ := (lk_deadsB hvar id).1 y hy
   rw [hx] at hy2
   cases hy2
   obtain ⟨d1,d',h1,h2,h3⟩ := SzB_get hsz hy
   rw [hyd] at h1
   cases h1
   obtain ⟨cs,e,F',q1,q2,q3⟩ := st'.bx id _ h2
   refine ⟨cs,e,[],q1, ?_,by simp [Fb',hs]⟩
   rw [← h3]
   exact q2.dds
 · have hs : (lk bx id).isSome = false := by rw [← deadsB_some hvar,hx]; rfl
   simp [Fb',hs]
 · show (if (lk bx id).isSome then [ρ id] else []).Nodup
   split <;> simp

theorem R.callX {f : FuncId} [CaT P f] {t : Option Nat} {args : List Operand} {tys : Array TypeId} {rt : TypeId} {pos : String} {aft : Array Edge} {g : Option (Nat × Bool)} {gl : List (Nat × D)} {ds : List D} {bx cx : List (Nat × Bx)} {E : Exit → Sg → Prop}
 (ml : List (Nat × Nat)) (hC : C.gl = gl) (hF : FnX P gl f ds bx) (ha : EvB C.gl σ (mlk ml) (bx.map Prod.fst) args ds)
 (hcx : renBx (mlk ml) bx = cx) (hlk : hasBx σ.bx cx) (hob : okBxP (bx.map Prod.fst) bx) (hinj : injB (mlk ml) (bx.map Prod.fst) = true)
 (hE : ∀ e,EndP e → E e ⟨σ.n,[],lendB (deadsB cx) σ.bx⟩) :
 OpX P C ⟨t,.call { callee := .value (.func f),args := args.toArray,argTypes := tys },rt,pos,aft,g⟩ σ E := by
 subst hC; subst hcx
 intro a w ⟨ρ,Fe,Fb,st⟩ K Q hK
 refine wpIn_of_run (run_call a w) (by simp) ?_
 rw [Oper.uponIn_enter]
 obtain ⟨hhand,hback⟩ := st.callB (m := mlk ml) (bx' := deadsB bx) (nw := []) hlk hob (keys_deadsB bx) rfl (by simpa [keys_deadsB] using hinj)
 have hmem : ∀ i,memB (bx.map Prod.fst) i = true → (lk bx i).isSome = true := fun i hi => by
  rw [lk_key]
  simp only [memB,List.any_eq_true] at hi
  obtain ⟨j,hj,he⟩ := hi
  rw [Nat.eq_of_beq_eq_true he]; exact hj
 have hc := hF w (fun b => gd C Fe Fb b ∧ b < w.heap.size) (fun i => ρ (mlk ml i)) (fun i => if (lk bx i).isSome then Fb (mlk ml i) else []) (args.map a.eval)
  (fun g d hg => by obtain ⟨h1,h2⟩ := gl_ok st g d hg; obtain ⟨cs,e,fz,h3,h4⟩ := h2; exact ⟨⟨h1,(Array.getElem?_eq_some_iff.1 h3).1⟩,cs,e,fz,h3,h4⟩) (fun b hb => hb.2) (by simp [ha.len])
  (fun k hk => (ha.ok st k hk).mono (fun _ _ _ => rfl) (fun b hb hl => ⟨hb,hl⟩) (fun i hi => ⟨hmem i hi.1,rfl⟩))
  ⟨fun id x hx => (hhand.box id x hx).mono (fun _ _ _ => rfl) (fun b hb hl => ⟨hb,hl⟩) (fun i hi => ⟨hi,rfl⟩),hhand.boxN,hhand.nodB,hhand.dBB,fun id b hb hc => hhand.out id b hb hc.1⟩
 simp only [List.map_toArray]
 refine ⟨(fun h => by cases h),(callsIn_fx (Calls.mono hc ?_))⟩
 rintro e w' ⟨ch,ρ',Fb',rfl,hch,hext,hρ',hsrc,hand⟩
 have hGG : ∀ b,(((gd C Fe Fb b ∧ b < w.heap.size) ∨ w.heap.size ≤ b ∨ ∃ id,b ∈ (if (lk bx id).isSome then Fb (mlk ml id) else [])) ∧ ¬ ∃ id,b ∈ Fb' id) →
  ((gd C Fe Fb b ∨ w.heap.size ≤ b ∨ ∃ id,b ∈ (if (lk bx id).isSome then Fb (mlk ml id) else [])) ∧ b ∉ ([] : List Nat) ∧ ¬ ∃ id,b ∈ Fb' id) := fun b hb => ⟨hb.1.imp (fun h => h.1) (fun h => h),by simp,hb.2⟩
 obtain ⟨ρ2,Fb2,st2,_⟩ := hback w' [] ρ' Fb' hext hρ' List.nodup_nil (fun b hb => hsrc b (hb.resolve_left (by simp))) (fun _ _ h => by cases h) (fun _ h => by cases h)
  ⟨fun id x hx => (hand.box id x hx).mono (fun _ _ _ => rfl) (fun b hb _ => hGG b hb) (fun i hi => ⟨hi,rfl⟩),hand.boxN,hand.nodB,hand.dBB,fun id b hb hc => hc.2.2 ⟨id,hb⟩⟩
 have hless : C.less [] = C := by
  unfold Ctx.less
  cases C
  simp
 rw [hless] at st2
 refine hK _ _ _ ⟨σ.n,[],lendB (deadsB (renBx (mlk ml) bx)) σ.bx⟩ (St.weaken ⟨ρ2,Fe,Fb2,st2⟩ rfl ?_ (fun t d h => by cases h)) (hE _ ⟨_,rfl,hch⟩)
 simp [renBx_deadsB,renBx]
end Go.Sx

namespace Go.Sx

variable {P : Program} {C : Ctx} {σ σ' σ1 : Sg} {a : Act} {w w' : World} {ρ : Nat → Nat} {Fe Fe' Fb : Nat → List Nat}

section
variable {ops : List Oper} {an : List Nat} {ks kk : List (Nat × Nat)} {its : List It} {Q : Exit → Sg → Prop}

theorem scrubB_alb {id : Nat} {d : D} (h : d.albIn [id] = false) : scrubB id d = d := by
 rcases scrubB_cases id d with ⟨h1,_⟩ | ⟨_,off,path,rfl⟩
 · exact h1
 · simp [D.albIn,memB] at h

theorem SpC.appB {c : Nat} {s id off t e z bytes : Nat} {path : List Nat} {d0 d0' : D} {x : Operand} {l l' l2 : List D} {ty rt : TypeId} {pos : String} {aft : Array Edge} {g : Option (Nat × Bool)} {bx1 : List (Nat × Bx)} [hT : SlT P ty e] [hE : ElT P e z bytes]
 (hs : facts an ks σ.env its c s = some (.alb id off path)) (hb : lk σ.bx id = some (.var d0)) (hl : d0.loc path = some (off,.sl (some e) z l)) (hna : d0.noArr path = true) (hu : d0.upd path .dead = some d0')
 (hbx : setb id (.var d0') σ.bx = bx1)
 (hx : ∀ τ : Sg,(∀ i x,lk bx1 i = some x → τ.box i = some x) → (∀ u x,facts an ks σ.env its c u = some x → x.albIn [id] = false → Nat.beq u s = false → τ.get u = some x) → SrcO C.gl τ x z l')
 (he : l ++ l' = l2) (hn : l.length + l'.length ≤ 1073741824) (hst : s ≠ t) (hby : bytes ≤ 131072) (hk : has ks c s = true) :
 SpC P C σ bx1 c [id] an ks its ⟨some t,.call { callee := .builtin .append,args := #[.tmp s,x],argTypes := #[ty,ty] },rt,pos,aft,g⟩ t (.sl (some e) z l2) := by
 intro τ hτb hτn ht hf
 have hbτ : τ.box id = some (.var d0) := by simp only [Sg.box,hτb]; exact hb
 have hget : ∀ u,((τ.putB id (.var d0')).upd s (.sl (some e) z l)).get u = if u = s then some (.sl (some e) z l) else (τ.get u).map (scrubB id) := fun u => by
  rw [get_upd,get_putB]
  by_cases hus : u = s
  · subst hus; simp [hf _ _ hs]
  · simp [hus]
 have hbx2 : ((τ.putB id (.var d0')).upd s (.sl (some e) z l)).bx = bx1 := by rw [← hbx,← hτb]; rfl
 refine ⟨((τ.putB id (.var d0')).upd s (.sl (some e) z l)).kill s,R.appBP (hf _ _ hs) hbτ hl hna hu rfl (by rw [hget]; simp) (hx _ (fun i x hi => ?_) (fun u x hux ha hus => ?_)) he hn ht hst hby,rfl,hbx2,fun u y hk' hy ha => ?_⟩
 · simp only [Sg.box,hbx2]; exact hi
 · rw [hget,hf _ _ hux]
   have : ¬ u = s := fun e => by subst e; simp at hus
   simp [this,scrubB_alb ha]
 · rw [get_kill,hget,hy]
   have : ¬ u = s := fun e => hk' c s (has_ok hk) e.symm rfl
   simp [this,scrubB_alb ha]

theorem scrubL_alb {d : D} : ∀ (ids : List Nat) (l : List (Nat × D)) (u : Nat),lk l u = some d → d.albIn ids = false → lk (scrubL ids l) u = some d := by
 intro ids
 induction ids with
 | nil => intro l u h _; exact h
 | cons id r ih =>
  intro l u h ha
  have h1 : d.albIn [id] = false ∧ d.albIn r = false := by
   cases d <;> simp_all [D.albIn,memB]
  refine ih _ _ ?_ h1.2
  rw [lk_scrubs,h,Option.map_some,scrubB_alb h1.1]

theorem SpC.callB {c : Nat} {f : FuncId} [CaT P f] {t : Nat} {args : List Operand} {tys : Array TypeId} {rt : TypeId} {pos : String} {aft : Array Edge} {g : Option (Nat × Bool)} {gl : List (Nat × D)} {ds : List D} {r r' : D} {bx bx' nw cx cx' nwc bx1 : List (Nat × Bx)} {ids : List Nat}
 (ml : List (Nat × Nat)) (hC : C.gl = gl) (hF : FnB P gl f ds bx r bx' nw) (ha : ∀ τ : Sg,(∀ u x,facts an ks σ.env its c u = some x → τ.get u = some x) → EvB C.gl τ (mlk ml) (bx.map Prod.fst) args ds)
 (hcx : renBx (mlk ml) bx = cx) (hlk : hasBx σ.bx cx) (hob : okBxP (bx.map Prod.fst) bx) (hcx' : renBx (mlk ml) bx' = cx') (hnw : renBx (mlk ml) nw = nwc) (hr : r.ren (mlk ml) = r')
 (hk : bx'.map Prod.fst = bx.map Prod.fst) (hfr : freshB σ.bx nwc = true) (hinj : injB (mlk ml) ((nw ++ bx').map Prod.fst) = true)
 (hids : cx.map Prod.fst = ids) (hbx : nwc ++ lendB cx' σ.bx = bx1) :
 SpC P C σ bx1 c ids an ks its ⟨some t,.call { callee := .value (.func f),args := args.toArray,argTypes := tys },rt,pos,aft,g⟩ t r' := by
 intro τ hτb hτn ht hf
 refine ⟨⟨τ.n,scrubL (cx.map Prod.fst) τ.env,nwc ++ lendB cx' τ.bx⟩,R.callB ml hC hF (ha τ hf) hcx (by rw [hτb]; exact hlk) hob hcx' hnw hr hk (by rw [hτb]; exact hfr) hinj ht,rfl,by rw [hτb]; exact hbx,fun u y _ hy hal => ?_⟩
 rw [hids]
 exact scrubL_alb ids _ u hy hal

theorem SpX.callX {c : Nat} {f : FuncId} [CaT P f] {t : Option Nat} {args : List Operand} {tys : Array TypeId} {rt : TypeId} {pos : String} {aft : Array Edge} {g : Option (Nat × Bool)} {gl : List (Nat × D)} {ds : List D} {bx cx : List (Nat × Bx)}
 (ml : List (Nat × Nat)) (hC : C.gl = gl) (hF : FnX P gl f ds bx) (ha : ∀ τ : Sg,(∀ u x,facts an ks σ.env its c u = some x → τ.get u = some x) → EvB C.gl τ (mlk ml) (bx.map Prod.fst) args ds)
 (hcx : renBx (mlk ml) bx = cx) (hlk : hasBx σ.bx cx) (hob : okBxP (bx.map Prod.fst) bx) (hinj : injB (mlk ml) (bx.map Prod.fst) = true)
 (hE : ∀ e,EndP e → Q e ⟨σ.n,[],lendB (deadsB cx) σ.bx⟩) :
 SpX P C σ c an ks its ⟨t,.call { callee := .value (.func f),args := args.toArray,argTypes := tys },rt,pos,aft,g⟩ Q := by
 intro τ hτb hτn hf
 refine R.callX ml hC hF (ha τ hf) hcx (by rw [hτb]; exact hlk) hob hinj ?_
 rw [hτn,hτb]
 exact hE

def TX (P : Program) (C : Ctx) (Q : Exit → Sg → Prop) : List Oper → Sg → Prop
 | [],_ => False
 | o :: r,σ => o.guard = none ∧ ((∃ σ',OpS P C o σ σ' ∧ TX P C Q r σ') ∨ OpX P C o σ Q)
theorem TX.wpList {l : List Oper} {ops : Array Oper} (h : TX P C Q l σ) : WL P C ops l Q σ := by
 induction l generalizing σ with
 | nil => exact h.elim
 | cons o l ih =>
  obtain ⟨h1,⟨σ',h2,h3⟩ | h2⟩ := h
  · exact WL.cons h1 h2 (ih h3)
  · exact WL.consX h1 h2

variable {listed : Array Bool}
theorem line_mainW {n : Nat} (hn : ops.length ≤ n) (H : ItOk P C σ ops (upTo n 0) ks kk its) {live : List Nat} {env' : List (Nat × D)} (hE : picks (afts (upTo n 0) (fun _ => true) ks σ.env its) live = env')
 (hT : WL P C ops.toArray (ops.drop its.length) Q ⟨σ.n,env',σ.bx⟩) : ∀ (l : List Oper) (k : Nat) (listed : Array Bool) (a : Act) (w : World) (τ : Sg),ops.drop k = l → k ≤ its.length → listed.size = ops.length →
 (∀ j,j < k → listed.getD j false = true) → (∀ j,k ≤ j → j < ops.length → listed.getD j true = false) → St C τ a w → InvS σ (upTo n 0) ks its listed τ →
 wpListIn (Fx C) 3 P ops.toArray (fun e a' w' => ∃ σ',St C σ' a' w' ∧ Q e σ') l a w := by
 intro l
 have fin : ∀ (listed : Array Bool) (τ : Sg) (a : Act) (w : World),(∀ j,j < its.length → listed.getD j false = true) → St C τ a w → InvS σ (upTo n 0) ks its listed τ → St C ⟨σ.n,env',σ.bx⟩ a w := by
  intro listed τ a w hall hs hinv
  refine hs.weaken hinv.1.symm hinv.2.1.symm fun t d hd => hinv.2.2 t d ?_
  have := lk_picks (f := afts (upTo n 0) (fun _ => true) ks σ.env its) (l := live) (by rw [hE]; exact hd)
  unfold afts at this ⊢
  cases hb : bads (fun k => true && !(cov (upTo n 0) (fun _ => true) its t k)) ks t with
  | true => rw [hb] at this; cases this
  | false =>
   rw [hb] at this
   rw [bads_fin (fun j dj wj hj => hall j (List.getElem?_eq_some_iff.1 hj).1) hb]
   simp only [cond_false] at this ⊢
   rcases slot_cases its t with hu | ⟨k,dk,wk,hk⟩
   · rw [looks_none hu] at this ⊢; exact this
   · rw [looks_at (okTs_ok H.ts).1 hk] at this ⊢
     simp only [Nat.zero_add] at this ⊢
     rw [hall k (List.getElem?_eq_some_iff.1 hk).1]; exact this
 induction l with
 | nil =>
  intro k listed a w τ hl hk hsz h1 h2 hs hinv
  have hkl : ops.length ≤ k := by
   have := congrArg List.length hl
   simp at this; omega
  have hke : k = its.length := by have := H.len; omega
  subst hke
  rw [hl] at hT
  exact hT a w (fin listed τ a w h1 hs hinv)
 | cons o l ih =>
  intro k listed a w τ hl hk hsz h1 h2 hs hinv
  by_cases hke : k = its.length
  · subst hke
    rw [← hl]
    exact hT a w (fin listed τ a w h1 hs hinv)
  · have hki : k < its.length := by omega
    have hkl : k < ops.length := Nat.lt_of_lt_of_le hki H.len
    have hd := List.drop_eq_getElem_cons hkl
    rw [hd] at hl
    obtain ⟨ho,hl'⟩ := List.cons.inj hl
    have ho' : ops[k]? = some o := by rw [List.getElem?_eq_getElem hkl,ho]
    have hun := h2 k (Nat.le_refl _) hkl
    have hK : ∀ a' w' τ',St C τ' a' w' → InvS σ (upTo n 0) ks its (listed.setIfInBounds k true) τ' → wpListIn (Fx C) 3 P ops.toArray (fun e a' w' => ∃ σ',St C σ' a' w' ∧ Q e σ') l a' w' := by
     intro a' w' τ' hs' hinv'
     refine ih (k + 1) _ a' w' τ' hl' (by omega) (by simp [hsz]) (fun j hj => ?_) (fun j hj hjl => ?_) hs' hinv'
     · by_cases hjk : k = j
       · subst hjk; simp [hsz,hkl]
       · rw [getD_set_ne false hjk]; exact h1 j (by omega)
     · rw [getD_set_ne true (by omega)]; exact h2 j (by omega) hjl
    have hst := draw_step H hsz hki ho' hun (fun j hj ht => h1 j (tb_nth_upTo.1 ht).1) (fun j hj ht => by
     have := (tb_nth_upTo.1 ht).1
     exact (undone (h2 j (by omega) hj)).2) hs hinv hK (Q' := fun e a' w' => ∃ σ',St C σ' a' w' ∧ Q e σ')
    simp only [wpListIn]
    rcases hst with ⟨e1,e2⟩ | ⟨e1,e2⟩
    · simp only [e1,if_true]; exact e2
    · simp only [e1,Bool.false_eq_true,if_false]; exact ⟨fun _ _ => trivial,e2⟩

theorem W.lineX {id n n' : Nat} {bx' : List (Nat × Bx)} (hn : ops.length ≤ n) (H : ItOk P C σ ops (upTo n 0) ks kk its) {live : List Nat} {env' : List (Nat × D)} (hE : picks (afts (upTo n 0) (fun _ => true) ks σ.env its) live = env')
 (hb : σ.bx = bx') (hn' : σ.n = n') (hT : TX P C Q (ops.drop its.length) ⟨n',env',bx'⟩) : W P C (.region id ops.toArray false) Q σ := by
 subst hb; subst hn'
 intro a w hs
 refine wpIn_region_lit ?_
 refine line_mainW hn H hE hT.wpList ops 0 (Array.replicate ops.length false) a w σ rfl (Nat.zero_le _) (by simp) (fun j hj => absurd hj (Nat.not_lt_zero _)) (fun j _ hj => by simp [hj]) hs ⟨rfl,rfl,fun u x hx => ?_⟩
 unfold afts at hx
 generalize hb : bads _ ks u = bb at hx
 cases bb with
 | true => cases hx
 | false =>
  simp only [cond_false] at hx
  rcases slot_cases its u with hu | ⟨k,dk,wk,hk⟩
  · rw [looks_none hu] at hx; exact hx
  · rw [looks_at (okTs_ok H.ts).1 hk] at hx
    have e : (Array.replicate ops.length false).getD (0 + k) false = false := by
     simp only [Array.getD_eq_getD_getElem?,Array.getElem?_replicate]
     split <;> rfl
    rw [e] at hx
    exact hx

end

theorem R.asgBP {s id off t e z : Nat} {path : List Nat} {d0 d0' : D} {l : List D} {rt : TypeId} {pos : String} {aft : Array Edge} {g : Option (Nat × Bool)}
 (h : σ.get s = some (.alb id off path)) (hb : σ.box id = some (.var d0)) (hl : d0.loc path = some (off,.sl (some e) z l)) (hna : d0.noArr path = true) (hu : d0.upd path .dead = some d0')
 {τ : Sg} (hτ : (σ.putB id (.var d0')).upd s (.sl (some e) z l) = τ) (hs : τ.get s = some (.sl (some e) z l)) (ht : t < σ.n) (hst : s ≠ t) :
 OpS P C ⟨some t,.assign (.tmp s),rt,pos,aft,g⟩ σ ((τ.kill s).set t (.sl (some e) z l)) := by
 subst hτ
 exact OpS.pre (fun a w hs => St.takeP h hb hl hna hu hs) (R.asgO hs rfl ht hst)

theorem Rc.ownAt {G L : Nat → Prop} {d d' : D} {cs : List Value} {F : List Nat} (h : Rc w ρ G L true d cs F) {path : List Nat} {off z : Nat} {o : Option Nat}
 (hl : d.loc path = some (off,.nils)) (hna : d.noArr path = true) (hu : d.upd path (.sl o z []) = some d') : Rc w ρ G L true d' cs F := by
 induction path generalizing d cs F off d' with
 | nil =>
  simp only [D.loc,Option.some.injEq,Prod.mk.injEq] at hl
  simp only [D.upd,Option.some.injEq] at hu
  obtain ⟨rfl,rfl⟩ := hl
  subst hu
  cases h
  exact .slN _ _
 | cons k path ih =>
  cases h with
  | agg l0 cs Fs hs hr =>
   simp only [D.loc] at hl
   simp only [D.upd] at hu
   cases hk : l0[k]? with
   | none => simp [hk] at hl
   | some d2 =>
    obtain ⟨hklt,rfl⟩ := List.getElem?_eq_some_iff.1 hk
    simp only [hk] at hl hu
    cases hd : D.loc l0[k] path with
    | none => simp [hd] at hl
    | some od =>
     obtain ⟨oo,d3⟩ := od
     simp only [hd,Option.some.injEq,Prod.mk.injEq] at hl
     obtain ⟨rfl,rfl⟩ := hl
     cases hud : D.upd l0[k] path (.sl o z []) with
     | none => simp [hud] at hu
     | some d4 =>
      simp only [hud,Option.some.injEq] at hu
      subst hu
      simp only [D.noArr,hk] at hna
      have h1 := ih (hr k hklt) hd hna hud
      have hz : d4.sz = l0[k].sz := by rw [← h1.len,(hr k hklt).len]
      have := Rc.agg (w := w) (ρ := ρ) (G := G) (L := L) (p := true) (l0.set k d4) cs Fs (by rw [hs,szs_set l0 k d4 hklt hz]) (fun j hj => by
       have hj' : j < l0.length := by simpa using hj
       rw [offk_set l0 k j d4 hklt hz]
       by_cases hjk : j = k
       · subst hjk
         simp only [List.getElem_set_self,hz]
         exact h1
       · have hjj : (l0.set k d4)[j] = l0[j] := by rw [List.getElem_set_ne (fun e => hjk e.symm)]
         simp only [hjj]
         exact hr j hj')
      rwa [List.length_set] at this
  | arr n z l cs hn hs hr => simp [D.noArr] at hna
  | _ => simp [D.loc] at hl
theorem R.frzT {o : Oper} {τ : Sg} {t : Nat} {r r' : D} (h : OpS P C o σ (τ.set t r)) (hr : r.isRef = false) (he : r.brw = r') : OpS P C o σ (τ.set t r') := by
 intro a w hs K Q hK
 refine h a w hs K Q fun a' w' hs' => hK a' w' ?_
 have h1 : (τ.set t r).get t = some r := by rw [get_set]; simp
 refine (St.frzS h1 hr he hs').weaken rfl rfl fun u d hd => ?_
 rw [get_upd,get_set]
 rw [get_set] at hd
 by_cases hu : u = t
 · subst hu; simpa using hd
 · simpa [hu] using hd
theorem W.asOwnP {c : Code} {Q : Exit → Sg → Prop} (id : Nat) (path : List Nat) (e z : Nat) {off : Nat} {d d' : D} {bx' : List (Nat × Bx)} (hb : σ.box id = some (.var d)) (hl : d.loc path = some (off,.nils)) (hna : d.noArr path = true) (hu : d.upd path (.sl (some e) z []) = some d')
 (hbx : setb id (.var d') σ.bx = bx') (k : W P C c Q ⟨σ.n,σ.env,bx'⟩) : W P C c Q σ := by
 subst hbx
 exact fun a w hs => k a w (St.viewB hb (fun w ρ G L cs F h => h.ownAt hl hna hu) hs)

theorem St.brwB {id : Nat} {d d' : D} (hb : σ.box id = some (.var d)) (he : d.brw = d') (hs : St C σ a w) : St C { σ with bx := setb id (.var d') σ.bx } a w := by
 subst he
 obtain ⟨ρ,Fe,Fb,st⟩ := hs
 have hbox : ∀ i,(({ σ with bx := setb id (.var d.brw) σ.bx } : Sg).box i) = if i = id then some (.var d.brw) else σ.box i := fun i => by
  show lk (setb id (.var d.brw) σ.bx) i = _
  rw [lk_setb]
  by_cases hi : i = id
  · subst hi
    have : lk σ.bx i = some (.var d) := hb
    simp [this]
  · simp [hi]; rfl
 have hiso : ∀ i,(({ σ with bx := setb id (.var d.brw) σ.bx } : Sg).box i).isSome = (σ.box i).isSome := fun i => by
  rw [hbox]; by_cases hi : i = id
  · subst hi; simp [hb]
  · simp [hi]
 have hfun : (fun i => (({ σ with bx := setb id (.var d.brw) σ.bx } : Sg).box i).isSome = true) = fun i => (σ.box i).isSome = true := by
  funext i; rw [hiso]
 obtain ⟨cs,e,F',q1,q2,q3⟩ := st.bx id _ hb
 have hnd : (ρ id :: F').Nodup := by have := st.nodB id; rw [q3] at this; exact this
 have key : ∀ i b,b ∈ upd Fb id [ρ id] i → b ∈ Fb i := fun i b hb => by
  by_cases hii : i = id
  · subst hii; rw [upd_same] at hb; simp at hb; subst hb; rw [q3]; simp
  · rw [upd_other hii] at hb; exact hb
 have hot : ∀ b,own Fe (upd Fb id [ρ id]) b → own Fe Fb b := fun b hb => hb.imp (fun h => h) fun ⟨i,hi⟩ => ⟨i,key i b hi⟩
 have hg : ∀ b,gd C Fe Fb b → gd C Fe (upd Fb id [ρ id]) b := fun b hb => ⟨hb.1,fun hc => hb.2 (hot b hc)⟩
 have hgF : ∀ b ∈ F',gd C Fe (upd Fb id [ρ id]) b := fun b hb => by
  have hbi : b ∈ Fb id := by rw [q3]; exact List.mem_cons_of_mem _ hb
  refine ⟨st.okO b (.inr ⟨id,hbi⟩), ?_⟩
  rintro (⟨u,hu⟩ | ⟨i,hi⟩)
  · exact st.dEB u id b hu hbi
  · by_cases hii : i = id
    · subst hii; rw [upd_same] at hi; simp at hi; subst hi; exact (List.nodup_cons.1 hnd).1 hb
    · rw [upd_other hii] at hi; exact st.dBB i id hii b hi hbi
 refine ⟨ρ,Fe,upd Fb id [ρ id],{
  size := st.size
  defs := st.defs
  pin := fun i b hp => ⟨(st.pin i b hp).1,by rw [hiso]; exact (st.pin i b hp).2⟩
  env := fun u x hx => by rw [hfun]; exact SR_keep (st.env u x hx) (fun _ _ _ => rfl) (fun b hb _ => hg b hb) (fun _ h => h) (fun _ _ _ _ h => h)
  envN := st.envN
  bx := fun i b hd => ?_
  bxN := fun i hn => ?_
  nodE := st.nodE
  nodB := fun i => ?_
  dEE := st.dEE
  dEB := fun u i b hb1 hb2 => st.dEB u i b hb1 (key i b hb2)
  dBB := fun i i' hne b hb1 hb2 => st.dBB i i' hne b (key i b hb1) (key i' b hb2)
  new := fun b hb => st.new b (hot b hb)
  kept := st.kept
  os := st.os
  tape := st.tape
  output := st.output
  grown := st.grown
  gl := st.gl
  okN := st.okN
  okO := fun b hb => st.okO b (hot b hb) }⟩
 · rw [hfun]
   rw [hbox] at hd
   by_cases hi : i = id
   · subst hi
     simp only [if_true,Option.some.injEq] at hd
     subst hd
     rw [upd_same]
     exact ⟨cs,e,[],q1,q2.brw (fun b hb => hgF b hb) (fun b hb _ => hg b hb),rfl⟩
   · simp only [hi,if_false] at hd
     rw [upd_other hi]
     exact (st.bx i b hd).mono (fun _ _ _ => rfl) (fun b hb _ => hg b hb) (fun j hj => ⟨hj,rfl⟩)
 · rw [hbox] at hn
   by_cases hi : i = id
   · simp [hi] at hn
   · simp only [hi,if_false] at hn
     rw [upd_other hi]
     exact st.bxN i hn
 · by_cases hi : i = id
   · subst hi; rw [upd_same]; simp
   · rw [upd_other hi]; exact st.nodB i
theorem W.brwB {c : Code} {Q : Exit → Sg → Prop} (id : Nat) {d d' : D} {bx' : List (Nat × Bx)} (hb : σ.box id = some (.var d)) (he : d.brw = d') (hbx : setb id (.var d') σ.bx = bx') (k : W P C c Q ⟨σ.n,σ.env,bx'⟩) : W P C c Q σ := by
 subst hbx
 exact fun a w hs => k a w (St.brwB hb he hs)

def FnO (P : Program) (gl : List (Nat × D)) (f : FuncId) (ds : List D) (bx : List (Nat × Bx)) (o : Option (D × List (Nat × Bx) × List (Nat × Bx))) : Prop :=
 match o with
 | some x => FnB P gl f ds bx x.1 x.2.1 x.2.2
 | none => FnX P gl f ds bx
theorem FnO.some' {gl : List (Nat × D)} {f : FuncId} {ds : List D} {bx : List (Nat × Bx)} {o : Option (D × List (Nat × Bx) × List (Nat × Bx))} {r : D} {bx' nw : List (Nat × Bx)} (h : FnO P gl f ds bx o) (ho : o = some (r,bx',nw)) : FnB P gl f ds bx r bx' nw := by
 subst ho; exact h
theorem FnO.none' {gl : List (Nat × D)} {f : FuncId} {ds : List D} {bx : List (Nat × Bx)} {o : Option (D × List (Nat × Bx) × List (Nat × Bx))} (h : FnO P gl f ds bx o) (ho : o = none) : FnX P gl f ds bx := by
 subst ho; exact h
def EndsO (rs : List ResultVar) (P : Program) (ids : List Nat) (bx : List (Nat × Bx)) (o : Option (D × List (Nat × Bx) × List (Nat × Bx))) (e : Exit) (σ : Sg) : Prop :=
 match o with
 | some x => EndsB rs P x.1 ids (x.2.2 ++ x.2.1) e σ
 | none => EndsX bx e σ
theorem EndsO.some' {rs : List ResultVar} {ids : List Nat} {bx : List (Nat × Bx)} {o : Option (D × List (Nat × Bx) × List (Nat × Bx))} {e : Exit} {r : D} {bx' nw : List (Nat × Bx)} (ho : o = some (r,bx',nw)) (h : EndsB rs P r ids (nw ++ bx') e σ) : EndsO rs P ids bx o e σ := by
 subst ho; exact h
theorem EndsO.none' {rs : List ResultVar} {ids : List Nat} {bx : List (Nat × Bx)} {o : Option (D × List (Nat × Bx) × List (Nat × Bx))} {e : Exit} (ho : o = none) (h : EndsX bx e σ) : EndsO rs P ids bx o e σ := by
 subst ho; exact h
theorem FnO.of {gl : List (Nat × D)} {f : FuncId} {fn : Func} {c : Code} {ds : List D} {bx : List (Nat × Bx)} {o : Option (D × List (Nat × Bx) × List (Nat × Bx))} {n : Nat} {ids : List Nat} (hf : P.funcs[f]? = some fn) (hb : fn.body = some c) (hnn : fn.ntmps = n)
 (hd : ds.all (fun d => !d.isRef) = true) (hn : ds.length ≤ n)
 (h : ∀ C : Ctx,C.gl = gl → (∀ id b,C.pin id = some b → memN (bx.map Prod.fst) id = true) → W P C c (EndsO fn.results.toList P ids bx o) ⟨n,ini 0 ds,bx⟩) : FnO P gl f ds bx o := by
 cases o with
 | none => exact FnX.of hf hb hnn hd hn h
 | some x => exact FnB.of hf hb hnn hd hn h
theorem dds_sz (n : Nat) : (D.dds n).sz = n := by unfold D.dds; simp [szs_dead]
end Go.Sx

namespace Go.Sx

variable {P : Program} {C : Ctx} {σ σ' σ1 : Sg} {a : Act} {w w' : World} {ρ : Nat → Nat} {Fe Fe' Fb : Nat → List Nat}

def CkV (P : Program) (k : Nat) (t : TypeId) (d : D) : Prop :=
 ∀ (em : Bool) (n : Nat) (w : World) (ρ : Nat → Nat) (G L : Nat → Prop) (v : Value) (F : List Nat),VR w ρ G L d v F → (Instr.checkKey em (n + k) t v).run P w = .ok () w
theorem CkV.num {t : TypeId} {k : IntKind} {d : D} (ht : P.underlying t = some (.int k)) (hd : d.isAgg = false) (hs : ∀ (w : World) (ρ : Nat → Nat) (G L : Nat → Prop) v F,Rc w ρ G L true d [v] F → ∃ j x,v = .int j x) : CkV P 1 t d := by
 intro em n w ρ G L v F h
 unfold VR at h
 rw [hd] at h
 obtain ⟨j,x,rfl⟩ := hs _ _ _ _ _ _ h
 simp [Instr.checkKey,run_underlying ht]
theorem CkV.u8 {t : TypeId} {k : IntKind} (ht : P.underlying t = some (.int k)) (x : UInt8) : CkV P 1 t (.u8 x) := CkV.num ht rfl fun _ _ _ _ _ _ h => by cases h; exact ⟨_,_,rfl⟩
theorem CkV.u32 {t : TypeId} {k : IntKind} (ht : P.underlying t = some (.int k)) (x : UInt32) : CkV P 1 t (.u32 x) := CkV.num ht rfl fun _ _ _ _ _ _ h => by cases h; exact ⟨_,_,rfl⟩
theorem CkV.arr {t e m : Nat} [hT : ArT P t m e] [hk : IkT P e .u8] [hL : LdT P e 1 false] (xs : List UInt8) : CkV P 2 t (.arr m 1 (xs.map .u8)) := by
 intro em n w ρ G L v F h
 simp only [VR,D.isAgg,if_true] at h
 obtain ⟨cx,rfl,h⟩ := h
 cases h with
 | arr _ _ _ _ hl hs hr =>
 rw [show n + 2 = (n + 1) + 1 from rfl,Instr.checkKey]
 simp only [Sem.run_bind,run_underlying hT.u,Result.andThen_ok]
 simp only [Std.Legacy.Range.forIn_eq_forIn_range',Std.Legacy.Range.size,Nat.sub_zero,Nat.add_one_sub_one,Nat.div_one]
 have each : ∀ j ∈ List.range' 0 m,j < m := fun j hj => by
  rw [List.mem_range'_1] at hj; omega
 generalize List.range' 0 m = is at each
 induction is with
 | nil => simp
 | cons j is ih =>
  have hj := each j (by simp)
  have hsz : cx.toList.length = m := by rw [hs]; omega
  have hcl : cx.size = m := by simpa using hsz
  obtain ⟨v,p1,p2⟩ := run_part (P := P) (e := e) (hL := hL) (cs := cx) (off := j * 1) (hr j (by omega)) (by simp [D.sz]) (by simp [D.isAgg]) (by omega)
  have p3 : (Instr.checkKey em (n + 1) e v).run P w = .ok () w := by
   have : (List.map D.u8 xs)[j]'(by omega) = .u8 (xs[j]'(by simp at hl; omega)) := by simp
   rw [this] at p2
   exact CkV.u8 hk.u _ em n _ _ _ _ _ _ p2
  simp only [List.forIn_cons,Sem.run_bind,LdT.size (P := P) (t := e),Result.andThen_ok,p1,p3,Sem.run_pure]
  exact ih (fun y hy => each y (by simp [hy]))
inductive CkFs (P : Program) (k : Nat) : Nat → List Field → List D → Prop
 | nil {o : Nat} : CkFs P k o [] []
 | cons {o z : Nat} {gg : Bool} {f : Field} {fs : List Field} {d : D} {ds : List D} (hn : (f.name != "_") = true) (ho : f.offset = o) (hL : LdT P f.type z gg) (hz : d.sz = z) (hg : d.isAgg = gg)
  (h : CkV P k f.type d) (t : CkFs P k (o + z) fs ds) : CkFs P k o (f :: fs) (d :: ds)
theorem CkV.more {k : Nat} {t : TypeId} {d : D} (h : CkV P k t d) : CkV P (k + 1) t d := fun em n w ρ G L v F hv => by
 have := h em (n + 1) w ρ G L v F hv
 rwa [show n + (k + 1) = n + 1 + k by omega]
theorem CkV.struct {t : TypeId} {k : Nat} {fs : Array Field} {ds : List D} (ht : P.underlying t = some (.struct fs)) (h : CkFs P k 0 fs.toList ds) : CkV P (k + 1) t (.agg ds) := by
 intro em n w ρ G L v F hv
 simp only [VR,D.isAgg,if_true] at hv
 obtain ⟨cx,rfl,hv⟩ := hv
 cases hv with
 | agg _ _ Fs hs hr =>
 rw [show n + (k + 1) = (n + k) + 1 from rfl,Instr.checkKey]
 simp only [Sem.run_bind,run_underlying ht,Result.andThen_ok]
 rw [← Array.forIn_toList]
 have hc : 0 + D.szs ds ≤ cx.size := by simp at hs; omega
 have hr' : ∀ i (hi : i < ds.length),Rc w ρ G L true ds[i] ((cx.toList.drop (0 + offk ds i)).take ds[i].sz) (Fs i) := fun i hi => by rw [Nat.zero_add]; exact hr i hi
 clear hs hr ht
 revert hc hr'
 generalize (0 : Nat) = o at h
 generalize fs.toList = fl at h
 intro hc hr'
 induction h generalizing Fs with
 | nil => simp
 | @cons o z gg f fs d ds hn ho hL hz hg h t ih =>
  subst ho
  simp only [szs_cons] at hc
  have a1 := hr' 0 (by simp)
  simp only [List.getElem_cons_zero,offk_zero,Nat.add_zero,hz] at a1
  obtain ⟨v1,r1,q1⟩ := run_part (P := P) (e := f.type) (hL := hL) a1 hz hg (by omega)
  have hb := h em n w _ _ _ _ _ q1
  have ih' := ih (fun i => Fs (i + 1)) (by omega) (fun i hi => by
   have := hr' (i + 1) (by simpa using hi)
   simp only [List.getElem_cons_succ,offk_succ,hz] at this
   rw [Nat.add_assoc]; exact this)
  have hne : f.name ≠ "_" := by simpa using hn
  simp only [List.forIn_cons,Sem.run_bind,hne,ne_eq,not_false_eq_true,if_true,Result.andThen_ok,r1,hb,Sem.run_pure]
  exact ih'

variable {κ α : Type} [DecidableEq κ]
def kIdx (m : List (κ × α)) (k : κ) : Nat := m.findIdx (fun e => e.1 == k)
def kHas (m : List (κ × α)) (k : κ) : Bool := m.any fun e => e.1 == k
def kGet (z : α) (m : List (κ × α)) (k : κ) : α := ((m[kIdx m k]?).map (·.2)).getD z
def mpK (kd : κ → D) (f : α → D) (m : List (κ × α)) : Bx := .mp (m.map fun e => (kd e.1,f e.2))
theorem kIdx_lt (m : List (κ × α)) (k : κ) : kIdx m k < m.length ↔ kHas m k = true := by
 unfold kIdx kHas
 rw [List.findIdx_lt_length,List.any_eq_true]

class MkT (P : Program) (t : TypeId) (k e : outParam TypeId) : Prop where
 u : P.underlying t = some (.map k e)
structure KeyC (P : Program) (kt : TypeId) (kd : κ → D) (n : Nat) : Prop where
 s : ∃ fs,P.underlying kt = some (.struct fs)
 eq : ∀ a b : κ,EqV P n kt (kd a) (kd b) (a == b)
 ck : ∀ a : κ,CkV P n kt (kd a)
 n : Nat.ble n 10000 = true
 p : ∀ a,(kd a).pur = true

theorem KeyC.find {kt : TypeId} {kd : κ → D} {n : Nat} (H : KeyC P kt kd n) {G L : Nat → Prop} {k : κ} {kv : Value} {F : List Nat} (hk : VR w ρ G L (kd k) kv F) : ∀ (es : List MapEntry) (m : List (κ × α)) (i : Nat),es.length = m.length →
 (∀ j (h : j < m.length),VR w ρ G L (kd m[j].1) (es.getD j default).key []) →
 (Instr.findAsking kt kv es i).run P w = .ok (if kIdx m k < m.length then some (i + kIdx m k,(es.getD (kIdx m k) default).val) else none) w := by
 have hn : n ≤ 10000 := Nat.le_of_ble_eq_true H.n
 intro es
 induction es with
 | nil => intro m i hl _; cases m with
  | nil => simp [Instr.findAsking,kIdx]
  | cons x r => simp at hl
 | cons e es ih =>
  intro m i hl hks
  cases m with
  | nil => simp at hl
  | cons x r =>
   have h0 := hks 0 (by simp)
   simp only [List.getD_cons_zero,List.getElem_cons_zero] at h0
   have hih := ih r (i + 1) (by simpa using hl) (fun j hj => by have := hks (j + 1) (by simpa using hj); simpa using this)
   have he := H.eq k x.1 (10000 - n) w _ _ _ _ _ _ _ _ _ _ hk h0
   rw [show 10000 - n + n = 10000 by omega] at he
   have he' : (Op.equal kt kv e.key).run P w = .ok (k == x.1) w := he
   simp only [Instr.findAsking,Sem.run_bind,he',Result.andThen_ok]
   by_cases hx : x.1 = k
   · have : kIdx (x :: r) k = 0 := by simp [kIdx,List.findIdx_cons,hx]
     simp [this,hx]
   · have hx' : (x.1 == k) = false := by simpa using hx
     have h1 : kIdx (x :: r) k = kIdx r k + 1 := by simp [kIdx,List.findIdx_cons,hx']
     have hx2 : (k == x.1) = false := by simpa using fun e => hx e.symm
     simp only [hx2,Bool.false_eq_true,if_false,hih,h1,List.length_cons,Nat.add_lt_add_iff_right,List.getD_cons_succ]
     split <;> simp [Nat.add_assoc,Nat.add_comm,Nat.add_left_comm]
theorem KeyC.findKey {kt : TypeId} {kd : κ → D} {n : Nat} (H : KeyC P kt kd n) {G L : Nat → Prop} {k : κ} {kv : Value} {F : List Nat} (hk : VR w ρ G L (kd k) kv F) (es : List MapEntry) (m : List (κ × α)) (hl : es.length = m.length)
 (hks : ∀ j (h : j < m.length),VR w ρ G L (kd m[j].1) (es.getD j default).key []) :
 (Instr.findKey kt kv es).run P w = .ok (if kIdx m k < m.length then some (0 + kIdx m k,(es.getD (kIdx m k) default).val) else none) w := by
 obtain ⟨fs,hs⟩ := H.s
 have h1 := H.find hk es m 0 hl hks
 unfold Instr.findKey
 simp only [Sem.run_bind,run_underlying hs,Result.andThen_ok]
 cases es with
 | nil =>
  cases m with
  | nil => simp [Instr.findNow,kIdx]
  | cons x r => simp at hl
 | cons e es => simpa [Instr.findNow,Instr.sameNow] using h1
theorem KeyC.check {kt : TypeId} {kd : κ → D} {n : Nat} (H : KeyC P kt kd n) {G L : Nat → Prop} {k : κ} {kv : Value} {F : List Nat} (hk : VR w ρ G L (kd k) kv F) (em : Bool) : (Instr.checkKey em 10000 kt kv).run P w = .ok () w := by
 have hn : n ≤ 10000 := Nat.le_of_ble_eq_true H.n
 have := H.ck k em (10000 - n) w _ _ _ _ _ hk
 rwa [show 10000 - n + n = 10000 by omega] at this

omit [DecidableEq κ] in
theorem mpK_at {G L : Nat → Prop} {kd : κ → D} {f : α → D} {m : List (κ × α)} {b : Nat} {F : List Nat} (h : BR w ρ G L b (mpK kd f m) F) :
 F = [b] ∧ ∃ es : Array MapEntry,w.heap[b]? = some (.map es m.length) ∧ es.size = m.length ∧ (∀ j (hj : j < m.length),VR w ρ G L (kd m[j].1) (es.getD j default).key [] ∧ VR w ρ G L (f m[j].2) (es.getD j default).val [] ∧ (es.getD j default).born = j) := by
 obtain ⟨h1,es,clock,h2,⟨h3,h4⟩,h5⟩ := h
 simp only [List.length_map] at h3 h4
 subst h4
 refine ⟨h1,es,h2,h3,fun j hj => ?_⟩
 obtain ⟨h6,h7,h8⟩ := h5 j (by simpa using hj)
 simp only [List.getElem_map] at h6 h7
 exact ⟨h6,h7,h8⟩
omit [DecidableEq κ] in
theorem mpK_mk {G L : Nat → Prop} {kd : κ → D} {f : α → D} {m : List (κ × α)} {b : Nat} {es : Array MapEntry} (h2 : w.heap[b]? = some (.map es m.length)) (h3 : es.size = m.length)
 (h5 : ∀ j (hj : j < m.length),VR w ρ G L (kd m[j].1) (es.getD j default).key [] ∧ VR w ρ G L (f m[j].2) (es.getD j default).val [] ∧ (es.getD j default).born = j) : BR w ρ G L b (mpK kd f m) [b] := by
 refine ⟨rfl,es,m.length,h2,⟨by simpa using h3,by simp⟩,fun j hj => ?_⟩
 obtain ⟨h6,h7,h8⟩ := h5 j (by simpa using hj)
 simp only [List.getElem_map]
 exact ⟨h6,h7,h8⟩
omit [DecidableEq κ] in
theorem StW.putMk {kd : κ → D} {f : α → D} {m m' : List (κ × α)} {id : Nat} {es : Array MapEntry} (st : StW C σ a w ρ Fe Fb) (hb : σ.box id = some (mpK kd f m)) (hs : es.size = m'.length)
 (h5 : ∀ j (hj : j < m'.length),VR w ρ (gd C Fe Fb) (fun i => (σ.box i).isSome) (kd m'[j].1) (es.getD j default).key [] ∧ VR w ρ (gd C Fe Fb) (fun i => (σ.box i).isSome) (f m'[j].2) (es.getD j default).val [] ∧ (es.getD j default).born = j) :
 StW C (σ.putB id (mpK kd f m')) a { w with heap := w.heap.setIfInBounds (ρ id) (.map es m'.length) } ρ Fe (upd Fb id [ρ id]) := by
 obtain ⟨hF,es0,h2,h3,h4⟩ := mpK_at (st.bx _ _ hb)
 have hlt : ρ id < w.heap.size := (Array.getElem?_eq_some_iff.1 h2).1
 have hblk : ∀ b,b ≠ ρ id → (w.heap.setIfInBounds (ρ id) (.map es m'.length))[b]? = w.heap[b]? := fun b hne => by
  rw [Array.getElem?_setIfInBounds]; simp [show ¬ ρ id = b from fun e => hne e.symm]
 have hnot : ∀ b,gd C Fe Fb b → b ≠ ρ id := fun b hg he => hg.2 (.inr ⟨id,by rw [hF,he]; simp⟩)
 have hg : ∀ b,gd C Fe Fb b → gd C Fe (upd Fb id [ρ id]) b := fun b hb' => ⟨hb'.1,fun hc => hb'.2 (hc.imp (fun h => h) (fun ⟨i,hi⟩ => by
  by_cases hii : i = id
  · subst hii; simp at hi; exact ⟨i,by rw [hF,hi]; simp⟩
  · rw [upd_other hii] at hi; exact ⟨i,hi⟩))⟩
 refine st.putB (Fe' := Fe) (σ1 := σ) (F' := [ρ id]) (w' := { w with heap := w.heap.setIfInBounds (ρ id) (.map es m'.length) }) hb rfl rfl (fun u d hd => .inl ⟨hd,rfl⟩) st.envN (fun u => .inl rfl) rfl rfl rfl (by simp)
  hblk (by simp) (by simp) (fun b hb' => .inl (by rw [hF]; exact hb')) ?_
 refine mpK_mk (es := es) ?_ hs (fun j hj => ?_)
 · simp [hlt]
 · obtain ⟨q1,q2,q3⟩ := h5 j hj
   exact ⟨q1.mono (fun b hb' _ => hblk b (hnot b (hb'.resolve_right (by simp)))) (fun b hb' _ => hg b hb') (fun i hi => ⟨hi,rfl⟩),q2.mono (fun b hb' _ => hblk b (hnot b (hb'.resolve_right (by simp)))) (fun b hb' _ => hg b hb') (fun i hi => ⟨hi,rfl⟩),q3⟩

theorem R.lookK {kd : κ → D} {f : α → D} {m : List (κ × α)} {z : α} {n : Nat} {p t id : Nat} {x : Operand} {k : κ} {dk : D} {ty kt et rt : TypeId} {pos : String} {aft : Array Edge} {g : Option (Nat × Bool)} [hT : MkT P ty kt et] {zd : D} [hZ : ZrT P et zd]
 (H : KeyC P kt kd n) (h : σ.get p = some (.map id)) (hb : σ.box id = some (mpK kd f m)) (hx : ev C.gl σ x = some dk) (hdk : dk = kd k) (hz : zd = f z) (hr : ∀ v,(f v).isRef = false) (ht : t < σ.n) :
 OpS P C ⟨some t,.lookup ty (.tmp p) x true,rt,pos,aft,g⟩ σ (σ.set t (.tup [f (kGet z m k),.bool (kHas m k)])) := by
 subst hdk
 refine OpS.value fun a w ⟨ρ,Fe,Fb,st⟩ => ?_
 have hp := map_slot st h
 obtain ⟨Fx,hvx,_⟩ := ev_ok st hx (pur_ref (H.p k))
 have hF0 := hvx.pur (H.p k)
 rw [hF0] at hvx
 obtain ⟨hF,es,h2,h3,h4⟩ := mpK_at (st.bx _ _ hb)
 obtain ⟨zi,zv,z1,z2,z3,z4⟩ := hZ.i
 have hfk := H.findKey hvx es.toList m (by simpa using h3) (fun j hj => by have := (h4 j hj).1; simpa [Array.getD_eq_getD_getElem?] using this)
 have hzv : VR w ρ (gd C Fe Fb) (fun i => (σ.box i).isSome) (f z) zv [] := by rw [← hz]; exact chk_VR z3 z4
 have hck := fun b => H.check hvx b
 have fin : ∀ v ok,VR w ρ (gd C Fe Fb) (fun i => (σ.box i).isSome) (f (kGet z m k)) v [] → ok = kHas m k → St C (σ.set t (.tup [f (kGet z m k),.bool (kHas m k)])) (a.put (some t) (.tuple #[v,.bool ok])) w := by
  rintro v ok hv rfl
  refine st.putRef (d := .tup [f (kGet z m k),.bool (kHas m k)]) (v := .tuple #[v,.bool (kHas m k)]) ht ⟨[v,.bool (kHas m k)],fun _ => [],by rw [put_get a t _ t (by rw [st.size]; exact ht)]; simp,rfl,(flat0 _).symm,fun j hj => .inr ?_⟩
  have hup : ∀ d v,VR w ρ (gd C Fe Fb) (fun i => (σ.box i).isSome) d v [] → VR w ρ (gd C (upd Fe t []) Fb) (fun i => (σ.box i).isSome) d v [] :=
   fun d v h => h.mono (fun _ _ _ => rfl) (fun b hb _ => ⟨hb.1,fun ho => hb.2 (own_upd ho)⟩) (fun i hi => ⟨hi,rfl⟩)
  match j,hj with
  | 0,_ => exact ⟨hr _,hup _ _ hv⟩
  | 1,_ => exact ⟨rfl,hup _ _ (by simp only [List.getElem_cons_succ,List.getElem_cons_zero,VR,D.isAgg,Bool.false_eq_true,if_false]; exact .bool _)⟩
 by_cases hin : kIdx m k < m.length
 · have hgv : kGet z m k = m[kIdx m k].2 := by simp [kGet,hin]
   obtain ⟨q1,q2,q3⟩ := h4 _ hin
   have hsz : kIdx m k < es.size := by omega
   have hgd : es.getD (kIdx m k) default = es[kIdx m k] := by simp [Array.getD_eq_getD_getElem?,hsz]
   rw [hgd] at q2
   refine ⟨.tuple #[es[kIdx m k].val,.bool true],w, ?_,fin _ _ (by rw [hgv]; exact q2) ((kIdx_lt m k).1 hin).symm⟩
   unfold execOp
   simp [Instr.lookup,run_underlying hT.u,eval_tmp hp,MapKept.run_getObj_map h2,hck,hfk,hin,hsz]
 · have hle : kIdx m k ≤ m.length := List.findIdx_le_length
   have hgv : kGet z m k = z := by simp [kGet,show kIdx m k = m.length by omega]
   have hno : kHas m k = false := by
    cases hh : kHas m k with
    | false => rfl
    | true => exact absurd ((kIdx_lt m k).2 hh) hin
   refine ⟨.tuple #[zv,.bool false],w, ?_,fin _ _ (by rw [hgv]; exact hzv) hno.symm⟩
   unfold execOp
   simp [Instr.lookup,run_underlying hT.u,eval_tmp hp,MapKept.run_getObj_map h2,hck,hfk,hin,zeroValue,typeInfo,z1,z2]

theorem R.mupdN {kd : κ → D} {f : α → D} {m : List (κ × α)} {n : Nat} {p id : Nat} {x y : Operand} {k : κ} {u : α} {dk dv : D} {ty kt et rt : TypeId} {pos : String} {aft : Array Edge} {g : Option (Nat × Bool)} [hT : MkT P ty kt et]
 (H : KeyC P kt kd n) (h : σ.get p = some (.map id)) (hb : σ.box id = some (mpK kd f m)) (hx : ev C.gl σ x = some dk) (hdk : dk = kd k) (hy : ev C.gl σ y = some dv) (hd : dv = f u) (hp : dv.pur = true) (hno : kHas m k = false) :
 OpS P C ⟨none,.mapUpdate ty (.tmp p) x y,rt,pos,aft,g⟩ σ (σ.putB id (mpK kd f (m ++ [(k,u)]))) := by
 subst hdk; subst hd
 refine OpS.skip rfl fun a w ⟨ρ,Fe,Fb,st⟩ => ?_
 have hpm := map_slot st h
 obtain ⟨Fx,hvx,_⟩ := ev_ok st hx (pur_ref (H.p k))
 have hF0 := hvx.pur (H.p k)
 rw [hF0] at hvx
 obtain ⟨Fy,hvy,_⟩ := ev_ok st hy (pur_ref hp)
 have hFy := hvy.pur hp
 rw [hFy] at hvy
 obtain ⟨hF,es,h2,h3,h4⟩ := mpK_at (st.bx _ _ hb)
 have hfk := H.findKey hvx es.toList m (by simpa using h3) (fun j hj => by have := (h4 j hj).1; simpa [Array.getD_eq_getD_getElem?] using this)
 have hin : ¬ kIdx m k < m.length := fun hc => by rw [kIdx_lt,hno] at hc; cases hc
 have st2 := st.putMk (es := es.push { key := a.eval x,val := a.eval y,born := m.length }) (m' := m ++ [(k,u)]) hb (by simp [h3]) (fun j hj => by
  rcases Nat.lt_or_ge j m.length with hjm | hjm
  · obtain ⟨r1,r2,r3⟩ := h4 j hjm
    have hgj : (es.push { key := a.eval x,val := a.eval y,born := m.length }).getD j default = es.getD j default := by
     simp only [Array.getD_eq_getD_getElem?,Array.getElem?_push]
     rw [if_neg (by omega)]
    rw [hgj,List.getElem_append_left hjm]
    exact ⟨r1,r2,r3⟩
  · have hje : j = m.length := by simp at hj; omega
    subst hje
    have hgj : (es.push { key := a.eval x,val := a.eval y,born := m.length }).getD m.length default = { key := a.eval x,val := a.eval y,born := m.length } := by
     simp only [Array.getD_eq_getD_getElem?,Array.getElem?_push,h3,if_true,Option.getD_some]
    rw [hgj]
    simp only [List.getElem_append_right (Nat.le_refl _),Nat.sub_self,List.getElem_cons_zero]
    exact ⟨hvx,hvy,trivial⟩)
 refine ⟨_, ?_,ρ,Fe,_,st2⟩
 unfold execOp
 simp [Instr.mapUpdate,run_underlying hT.u,eval_tmp hpm,MapKept.run_getObj_map h2,H.check hvx,hfk,hin,MapKept.run_setObj_map _ h2]
omit [DecidableEq κ] in
theorem R.mkmapK {t ty rt : TypeId} {pos : String} {aft : Array Edge} {g : Option (Nat × Bool)} (kd : κ → D) (f : α → D) (hid : σ.box t = none) (ht : t < σ.n) : OpS P C ⟨some t,.makeMap ty none,rt,pos,aft,g⟩ σ ((σ.newB t (mpK kd f [])).set t (.map t)) := R.mkmap hid ht
theorem W.dropBP {c : Code} {Q : Exit → Sg → Prop} (ids : List Nat) {bx' : List (Nat × Bx)} (hb : keepB ids σ.bx = bx') (he : okEnvB ids σ.env = true) (hx : okBxP ids bx') (hpn : ∀ id b,C.pin id = some b → memB ids id = true) (h : W P C c Q ⟨σ.n,σ.env,bx'⟩) : W P C c Q σ := by
 intro a w ⟨ρ,Fe,Fb,st⟩
 refine h a w ?_
 have hl : ∀ u,lk bx' u = if memB ids u then σ.box u else none := fun u => by rw [← hb]; exact lk_keepB ids σ.bx u
 have hsub : ∀ id,∀ b ∈ (if memB ids id then Fb id else []),b ∈ Fb id := fun id b hm => by split at hm; exact hm; cases hm
 have hown : ∀ b,own Fe (fun id => if memB ids id then Fb id else []) b → own Fe Fb b := fun b hb => hb.imp id fun ⟨i,hi⟩ => ⟨i,hsub i b hi⟩
 have hgd : ∀ b,gd C Fe Fb b → gd C Fe (fun id => if memB ids id then Fb id else []) b := fun b hb => ⟨hb.1,fun hc => hb.2 (hown b hc)⟩
 have hL : ∀ id,(memB ids id = true ∧ (σ.box id).isSome) → (lk bx' id).isSome := fun id ⟨h1,h2⟩ => by rw [hl,if_pos h1]; exact h2
 exact ⟨ρ,Fe,(fun id => if memB ids id then Fb id else []),{
  size := st.size
  defs := st.defs
  pin := fun id b hp => ⟨(st.pin id b hp).1,hL id ⟨hpn id b hp,(st.pin id b hp).2⟩⟩
  env := fun t d hd => (st.env t d hd).okB (okEnvB_get he hd) (fun b hb _ => hgd b hb) hL
  envN := st.envN
  bx := fun id b hd => by
   have hok := okBxP_get hx hd
   have h1 := hl id
   by_cases hm : memB ids id = true
   · rw [if_pos hm] at h1
     have h2 : σ.box id = some b := by rw [← h1]; exact hd
     have hF' : (if memB ids id then Fb id else []) = Fb id := if_pos hm
     show BR w ρ _ _ (ρ id) b (if memB ids id then Fb id else [])
     rw [hF']
     exact ((st.bx id b h2).okB hok).mono (fun _ _ _ => rfl) (fun b hb _ => hgd b hb) (fun id hid => ⟨hL id hid,rfl⟩)
   · rw [if_neg hm] at h1
     rw [show lk bx' id = some b from hd] at h1
     cases h1
  bxN := fun id hn => by
   have h1 := hl id
   by_cases hm : memB ids id = true
   · rw [if_pos hm] at h1
     simp only [hm,if_true]
     exact st.bxN id (by rw [← h1]; exact hn)
   · simp [hm]
  nodE := st.nodE
  nodB := fun id => by show (if memB ids id then Fb id else []).Nodup; split; exact st.nodB id; exact List.nodup_nil
  dEE := st.dEE
  dEB := fun t id b hb hm => st.dEB t id b hb (hsub id b hm)
  dBB := fun id id' hne b hb hm => st.dBB id id' hne b (hsub id b hb) (hsub id' b hm)
  new := fun b hb => st.new b (hown b hb)
  kept := st.kept
  os := st.os
  tape := st.tape
  output := st.output
  grown := st.grown
  gl := st.gl
  okN := st.okN
  okO := fun b hb => st.okO b (hown b hb) }⟩

omit [DecidableEq κ] in
theorem okMpK {ids : List Nat} {kd : κ → D} {f : α → D} {m : List (κ × α)} (h1 : ∀ a,(kd a).okB ids = true) (h2 : ∀ u,(f u).okB ids = true) : ∀ kv ∈ m.map (fun e => (kd e.1,f e.2)),kv.1.okB ids = true ∧ kv.2.okB ids = true := fun kv hkv => by
 obtain ⟨e,_,rfl⟩ := List.mem_map.1 hkv
 exact ⟨h1 _,h2 _⟩

theorem run_callV {f : FuncId} [h : CaT P f] {s : Nat} {t : Option Nat} {args : Array Operand} {tys : Array TypeId} {rt : TypeId} {pos : String} {aft : Array Edge} {g : Option (Nat × Bool)} (a : Act) (w : World) (hs : a.tmps[s]? = some (.func (.func f) #[] #[])) :
 (execOp a.eval ⟨t,.call { callee := .value (.tmp s),args := args,argTypes := tys },rt,pos,aft,g⟩).run P w = .ok (.enter f (args.map a.eval)) w := by
 obtain ⟨fn,h1,h2,h3⟩ := h.i
 unfold execOp
 simp [resolve,eval_tmp hs,Deferred.ofValue,invoke,run_callFunc h1 h2 h3]
theorem R.callV {f : FuncId} [CaT P f] {s t : Nat} {args : List Operand} {tys : Array TypeId} {rt : TypeId} {pos : String} {aft : Array Edge} {g : Option (Nat × Bool)} {gl : List (Nat × D)} {ds : List D} {r : D}
 (hC : C.gl = gl) (hs : σ.get s = some (.fn f [])) (hF : Fn P gl f ds r) (hb : Bors C.gl σ args ds) (hr : FrsR r) (ht : t < σ.n) :
 OpS P C ⟨some t,.call { callee := .value (.tmp s),args := args.toArray,argTypes := tys },rt,pos,aft,g⟩ σ (σ.set t r) := by
 subst hC
 intro a w ⟨ρ,Fe,Fb,st⟩ K Q hK
 have hsv : a.tmps[s]? = some (.func (.func f) #[] #[]) := by
  obtain ⟨v,hv,hr⟩ := (SR_plain rfl).1 (st.env _ _ hs)
  simp only [VR,D.isAgg,Bool.false_eq_true,if_false] at hr
  generalize hFe : Fe s = F at hr
  cases hr with
  | fn _ _ vs hl ha hr =>
   have : vs = [] := List.length_eq_zero_iff.1 (by simpa using hl)
   subst this
   exact hv
 refine wpIn_of_run (run_callV a w hsv) (by simp) ?_
 rw [Oper.uponIn_enter]
 have hc := hF w (fun b => b < w.heap.size) (args.map a.eval) (fun g d hg => by
  obtain ⟨_,cs,e,fz,h1,h2⟩ := gl_ok st g d hg
  exact ⟨(Array.getElem?_eq_some_iff.1 h1).1,cs,e,fz,h1,h2⟩) (by simp [hb.len]) (hb.ok st)
 simp only [List.map_toArray]
 refine ⟨(fun h => by cases h),(callsIn_fx (Calls.mono hc ?_))⟩
 rintro e w' ⟨v,F,rfl,hext,hnd,hnew,hv⟩
 refine hK _ _ ⟨ρ,upd Fe t F,Fb,st.ext ht hext hnd hnew ?_⟩
 have hput : (a.put (some t) v).tmps[t]? = some v := by rw [put_get a t v t (by rw [st.size]; exact ht)]; simp
 refine RV.slot ?_ hput
 refine hv.map Frs hr (fun d v F' hF' hd hx => ?_)
 have h1 := hx.frs (G' := fun _ => False) hd
 exact h1.mono (fun _ _ _ => rfl) (fun b hb _ => hb.elim) (fun id hid => hid.elim)
end Go.Sx

namespace Go.Sx

variable {P : Program} {C : Ctx} {σ σ' σ1 : Sg} {a : Act} {w w' : World} {ρ : Nat → Nat} {Fe Fe' Fb : Nat → List Nat}

theorem bs_val {s id z n cap : Nat} (st : StW C σ a w ρ Fe Fb) (h : σ.get s = some (.bs id z n cap)) : a.tmps[s]? = some (.slice (some ⟨ρ id,0,none⟩) n cap) ∧ (σ.box id).isSome = true ∧ n ≤ cap := by
 obtain ⟨v,hv,hr⟩ := (SR_plain rfl).1 (st.env _ _ h)
 simp only [VR,D.isAgg,Bool.false_eq_true,if_false] at hr
 generalize Fe s = F at hr
 cases hr with
 | bs _ _ _ _ hL hc => exact ⟨hv,hL,hc⟩
theorem R.lenBs {s t id z n cap : Nat} {ty e rt : TypeId} {pos : String} {aft : Array Edge} {g : Option (Nat × Bool)} [hT : SlT P ty e]
 (h : σ.get s = some (.bs id z n cap)) (ht : t < σ.n) : OpS P C ⟨some t,.call { callee := .builtin .len,args := #[.tmp s],argTypes := #[ty] },rt,pos,aft,g⟩ σ (σ.set t (.int ((n : Nat) : Int))) := by
 refine OpS.value fun a w ⟨ρ,Fe,Fb,st⟩ => ?_
 obtain ⟨hv,_,_⟩ := bs_val st h
 refine ⟨.int .i64 n,w, ?_,st.put ht rfl ?_⟩
 · unfold execOp
   simp [resolve,invoke,builtin,Builtin.len_,run_underlying hT.u,eval_tmp hv,goInt]
 · simp only [VR,D.isAgg,Bool.false_eq_true,if_false]; exact .int _
theorem R.idxBs {s t id z m cap : Nat} {ix : Operand} {n : Int} {ty e b rt : TypeId} {pos : String} {aft : Array Edge} {g : Option (Nat × Bool)} [hT : SlT P ty e] [hE : ElT P e z b] (k : Nat)
 (h : σ.get s = some (.bs id z m cap)) (hi : evo C.gl σ (some ix) 0 = some n) (hk : n = (k : Int)) (h1 : k < m) (ht : t < σ.n) :
 OpS P C ⟨some t,.indexAddr ty (.tmp s) ix,rt,pos,aft,g⟩ σ (σ.set t (.ptr id (k * z) [k])) := by
 subst hk
 refine OpS.value fun a w ⟨ρ,Fe,Fb,st⟩ => ?_
 obtain ⟨hv,hL,hc⟩ := bs_val st h
 obtain ⟨kk,he⟩ := int_ok st hi
 refine ⟨.pointer (some ⟨ρ id,k * z,none⟩),w, ?_,st.put ht rfl ?_⟩
 · unfold execOp
   simp [Instr.indexAt,asIntOf,run_underlying hT.u,eval_tmp hv,he,h1,ElT.size (P := P) (e := e),add_lit]
 · simp only [VR,D.isAgg,Bool.false_eq_true,if_false]; exact .ptr _ _ _ hL
end Go.Sx

namespace Go.Sx

variable {P : Program} {C : Ctx} {σ σ' σ1 : Sg} {a : Act} {w w' : World} {ρ : Nat → Nat} {Fe Fe' Fb : Nat → List Nat}

theorem St.rebox {bx' : List (Nat × Bx)} (h : St C σ a w) (hb : ∀ id,lk bx' id = σ.box id) : St C ⟨σ.n,σ.env,bx'⟩ a w := by
 obtain ⟨ρ,Fe,Fb,st⟩ := h
 have hbox : ∀ id,(⟨σ.n,σ.env,bx'⟩ : Sg).box id = σ.box id := hb
 have hL : (fun id => ((⟨σ.n,σ.env,bx'⟩ : Sg).box id).isSome = true) = (fun id => (σ.box id).isSome = true) := by
  funext id; rw [hbox]
 refine ⟨ρ,Fe,Fb,{
  size := st.size
  defs := st.defs
  pin := fun id b hp => ⟨(st.pin id b hp).1,by rw [hbox]; exact (st.pin id b hp).2⟩
  env := fun t d hd => by rw [hL]; exact st.env t d hd
  envN := fun t ht => st.envN t ht
  bx := fun id d hd => by rw [hL]; exact st.bx id d (by rw [← hbox]; exact hd)
  bxN := fun id hd => st.bxN id (by rw [← hbox]; exact hd)
  nodE := st.nodE
  nodB := st.nodB
  dEE := st.dEE
  dEB := st.dEB
  dBB := st.dBB
  new := st.new
  kept := st.kept
  os := st.os
  tape := st.tape
  output := st.output
  grown := st.grown
  gl := st.gl
  okN := st.okN
  okO := st.okO }⟩

abbrev Efs := List (Nat × List (Nat × Bx))
def bxk (an : List Nat) (i id : Nat) : Efs → Option Bx → Option Bx
 | [],cur => cur
 | (j,l) :: r,cur => match lk l id with
  | none => bxk an i id r cur
  | some x => bif tb (nth an i) j then bxk an i id r (some x) else bif Nat.beq i j || tb (nth an j) i then bxk an i id r cur else bxk an i id r none
def bxL (f : Nat → Bool) (id : Nat) : Efs → Option Bx → Option Bx
 | [],cur => cur
 | (j,l) :: r,cur => match lk l id with
  | none => bxL f id r cur
  | some x => bif f j then bxL f id r (some x) else bxL f id r cur
def touch (l m : List (Nat × Bx)) : Bool := l.any fun x => (lk m x.1).isSome
def okEf1 (an : List Nat) (j : Nat) (l : List (Nat × Bx)) : Efs → Bool
 | [] => true
 | (k,m) :: r => (!(Nat.beq j k) && (!(touch l m) || tb (nth an k) j)) && okEf1 an j l r
def okEf (an : List Nat) (m : Nat) : Efs → Bool
 | [] => true
 | (j,l) :: r => Nat.blt j m && okEf1 an j l r && okEf an m r
def freB1 (an : List Nat) (i id : Nat) : Efs → Bool
 | [] => true
 | (k,m) :: r => (Nat.beq k i || (lk m id).isNone || tb (nth an k) i) && freB1 an i id r
def freB (an : List Nat) (bx0 : List (Nat × Bx)) (efs : Efs) (i id : Nat) : Bool := (lk bx0 id).isNone && freB1 an i id efs
def okAlbs (env : List (Nat × D)) (an : List Nat) (ks : List (Nat × Nat)) (its : List It) : Efs → Bool
 | [] => true
 | (i,l) :: r => (okAlbE (l.map Prod.fst) ks i env && okAlbI (l.map Prod.fst) an ks i its 0) && okAlbs env an ks its r
theorem okEf1_all {an : List Nat} {j : Nat} {l : List (Nat × Bx)} : ∀ {r : Efs},okEf1 an j l r = true → ∀ x ∈ r,(!(Nat.beq j x.1) && (!(touch l x.2) || tb (nth an x.1) j)) = true := by
 intro r
 induction r with
 | nil => intro _ x hx; cases hx
 | cons y r ih =>
  obtain ⟨k,m⟩ := y
  intro h x hx
  simp only [okEf1] at h
  rw [Bool.and_eq_true] at h
  rcases List.mem_cons.1 hx with rfl | hx
  · exact h.1
  · exact ih h.2 x hx
theorem freB1_all {an : List Nat} {i id : Nat} : ∀ {r : Efs},freB1 an i id r = true → ∀ x ∈ r,(Nat.beq x.1 i || (lk x.2 id).isNone || tb (nth an x.1) i) = true := by
 intro r
 induction r with
 | nil => intro _ x hx; cases hx
 | cons y r ih =>
  obtain ⟨k,m⟩ := y
  intro h x hx
  simp only [freB1] at h
  rw [Bool.and_eq_true] at h
  rcases List.mem_cons.1 hx with rfl | hx
  · exact h.1
  · exact ih h.2 x hx
theorem okAlbs_all {env : List (Nat × D)} {an : List Nat} {ks : List (Nat × Nat)} {its : List It} : ∀ {r : Efs},okAlbs env an ks its r = true → ∀ x ∈ r,(okAlbE (x.2.map Prod.fst) ks x.1 env && okAlbI (x.2.map Prod.fst) an ks x.1 its 0) = true := by
 intro r
 induction r with
 | nil => intro _ x hx; cases hx
 | cons y r ih =>
  obtain ⟨k,m⟩ := y
  intro h x hx
  simp only [okAlbs] at h
  rw [Bool.and_eq_true] at h
  rcases List.mem_cons.1 hx with rfl | hx
  · exact h.1
  · exact ih h.2 x hx
def bxA : Efs → List (Nat × Bx) → List (Nat × Bx)
 | [],b => b
 | (_,l) :: r,b => bxA r (l ++ b)
def rmB (k : Nat) : List (Nat × Bx) → List (Nat × Bx)
 | [] => []
 | (j,x) :: r => bif Nat.beq j k then rmB k r else (j,x) :: rmB k r
def ddB : Nat → List (Nat × Bx) → List (Nat × Bx)
 | 0,l => l
 | _ + 1,[] => []
 | n + 1,(k,x) :: r => (k,x) :: ddB n (rmB k r)

theorem lk_rmB (k : Nat) (l : List (Nat × Bx)) (u : Nat) (h : u ≠ k) : lk (rmB k l) u = lk l u := by
 induction l with
 | nil => rfl
 | cons y r ih =>
  obtain ⟨j,x⟩ := y
  simp only [rmB]
  by_cases hj : j = k
  · subst hj
    simp only [Nat.beq_refl,cond_true,lk_cons,ih]
    rw [if_neg (fun e => h e.symm)]
  · simp only [nbeq hj,cond_false,lk_cons,ih]
theorem lk_ddB : ∀ (n : Nat) (l : List (Nat × Bx)) (u : Nat),lk (ddB n l) u = lk l u := by
 intro n
 induction n with
 | zero => intro l u; rfl
 | succ n ih =>
  intro l u
  cases l with
  | nil => rfl
  | cons y r =>
   obtain ⟨k,x⟩ := y
   simp only [ddB,lk_cons,ih]
   by_cases hk : k = u
   · simp [hk]
   · simp only [hk,if_false]; exact lk_rmB k r u (fun e => hk e.symm)
theorem lk_bxA (efs : Efs) : ∀ (b : List (Nat × Bx)) (u : Nat),lk (bxA efs b) u = bxL (fun _ => true) u efs (lk b u) := by
 induction efs with
 | nil => intro b u; rfl
 | cons y r ih =>
  obtain ⟨j,l⟩ := y
  intro b u
  simp only [bxA,bxL,ih,lk_append]
  cases lk l u <;> rfl

section
variable {listed : Array Bool} {ops : List Oper} {an : List Nat} {ks kk : List (Nat × Nat)} {its : List It} {Q : Exit → Sg → Prop}

theorem bxL_congr {f g : Nat → Bool} {id : Nat} : ∀ {efs : Efs} {c : Option Bx},(∀ j l,(j,l) ∈ efs → (lk l id).isSome = true → f j = g j) → bxL f id efs c = bxL g id efs c := by
 intro efs
 induction efs with
 | nil => intro c _; rfl
 | cons y r ih =>
  obtain ⟨j,l⟩ := y
  intro c h
  simp only [bxL]
  cases hl : lk l id with
  | none => exact ih (fun j' l' hm => h j' l' (List.mem_cons_of_mem _ hm))
  | some x =>
   simp only
   rw [h j l (by simp) (by rw [hl]; rfl)]
   cases g j <;> exact ih (fun j' l' hm => h j' l' (List.mem_cons_of_mem _ hm))
theorem bxL_off {f : Nat → Bool} {id : Nat} : ∀ {efs : Efs} {c : Option Bx},(∀ j l,(j,l) ∈ efs → (lk l id).isSome = true → f j = false) → bxL f id efs c = c := by
 intro efs
 induction efs with
 | nil => intro c _; rfl
 | cons y r ih =>
  obtain ⟨j,l⟩ := y
  intro c h
  simp only [bxL]
  cases hl : lk l id with
  | none => exact ih (fun j' l' hm => h j' l' (List.mem_cons_of_mem _ hm))
  | some x =>
   simp only
   rw [h j l (by simp) (by rw [hl]; rfl)]
   exact ih (fun j' l' hm => h j' l' (List.mem_cons_of_mem _ hm))
theorem bxk_ok {f : Nat → Bool} {i id : Nat} {x : Bx} (hi : f i = false) : ∀ {efs : Efs} {ck cb : Option Bx},(∀ j l,(j,l) ∈ efs → tb (nth an i) j = true → f j = true) → (∀ j l,(j,l) ∈ efs → tb (nth an j) i = true → f j = false) →
 (∀ x,ck = some x → cb = some x) → bxk an i id efs ck = some x → bxL f id efs cb = some x := by
 intro efs
 induction efs with
 | nil => intro ck cb _ _ h hx; exact h x hx
 | cons y r ih =>
  obtain ⟨j,l⟩ := y
  intro ck cb h1 h2 h hx
  simp only [bxk] at hx
  simp only [bxL]
  have h1' : ∀ j l,(j,l) ∈ r → tb (nth an i) j = true → f j = true := fun j' l' hm => h1 j' l' (List.mem_cons_of_mem _ hm)
  have h2' : ∀ j l,(j,l) ∈ r → tb (nth an j) i = true → f j = false := fun j' l' hm => h2 j' l' (List.mem_cons_of_mem _ hm)
  cases hl : lk l id with
  | none => rw [hl] at hx; exact ih h1' h2' h hx
  | some z =>
   rw [hl] at hx
   simp only at hx ⊢
   cases ha : tb (nth an i) j with
   | true =>
    rw [ha] at hx
    rw [h1 j l (by simp) ha]
    exact ih h1' h2' (fun _ h => h) hx
   | false =>
    rw [ha] at hx
    simp only [cond_false] at hx
    cases hb : (Nat.beq i j || tb (nth an j) i) with
    | true =>
     rw [hb] at hx
     have : f j = false := by
      rcases Bool.or_eq_true _ _ ▸ hb with hb | hb
      · rw [← Nat.eq_of_beq_eq_true hb]; exact hi
      · exact h2 j l (by simp) hb
     rw [this]
     exact ih h1' h2' h hx
    | false =>
     rw [hb] at hx
     simp only [cond_false] at hx
     cases f j with
     | true => exact ih h1' h2' (fun _ h => by cases h) hx
     | false => exact ih h1' h2' (fun _ h => by cases h) hx

theorem touch_mk {l m : List (Nat × Bx)} {id : Nat} (h1 : (lk l id).isSome = true) (h2 : (lk m id).isSome = true) : touch l m = true := by
 obtain ⟨x,hx⟩ := Option.isSome_iff_exists.1 h1
 exact List.any_eq_true.2 ⟨(id,x),lk_mem hx,h2⟩

theorem bxL_set {f : Nat → Bool} {m i id : Nat} {l : List (Nat × Bx)} (hi : f i = false) : ∀ {efs : Efs} {c : Option Bx},okEf an m efs = true → (i,l) ∈ efs → (∀ j l,(j,l) ∈ efs → tb (nth an j) i = true → f j = false) →
 bxL (fun j => f j || Nat.beq j i) id efs c = (match lk l id with | some x => some x | none => bxL f id efs c) := by
 intro efs
 induction efs with
 | nil => intro c _ h; cases h
 | cons y r ih =>
  obtain ⟨j,l0⟩ := y
  intro c hok hm h2
  simp only [okEf,Bool.and_eq_true] at hok
  obtain ⟨⟨_,hr⟩,hok'⟩ := hok
  have hr' : ∀ j' l',(j',l') ∈ r → j' ≠ j ∧ (touch l0 l' = true → tb (nth an j') j = true) := fun j' l' hm' => by
   have := okEf1_all hr _ hm'
   simp only [Bool.and_eq_true,Bool.not_eq_true',Bool.or_eq_true] at this
   refine ⟨fun e => ?_,fun ht => ?_⟩
   · subst e; simp at this
   · rcases this.2 with h | h
     · rw [ht] at h; cases h
     · exact h
  by_cases hji : j = i
  · subst hji
    have hl : l = l0 := by
     rcases List.mem_cons.1 hm with h | h
     · cases h; rfl
     · exact absurd rfl (hr' j l h).1
    subst hl
    have hrest : ∀ c,bxL (fun j' => f j' || Nat.beq j' j) id r c = bxL f id r c := fun c => bxL_congr fun j' l' hm' _ => by rw [nbeq (hr' j' l' hm').1,Bool.or_false]
    simp only [bxL]
    cases hl : lk l id with
    | none => simp only; exact hrest c
    | some x =>
     simp only [Nat.beq_refl,Bool.or_true,cond_true]
     rw [hrest]
     exact bxL_off fun j' l' hm' hs => h2 j' l' (List.mem_cons_of_mem _ hm') ((hr' j' l' hm').2 (touch_mk (by rw [hl]; rfl) hs))
  · have hm' : (i,l) ∈ r := by
     rcases List.mem_cons.1 hm with h | h
     · cases h; exact absurd rfl hji
     · exact h
    have h2' : ∀ j l,(j,l) ∈ r → tb (nth an j) i = true → f j = false := fun j' l' hm' => h2 j' l' (List.mem_cons_of_mem _ hm')
    simp only [bxL,nbeq hji,Bool.or_false]
    cases lk l0 id with
    | none => exact ih hok' hm' h2'
    | some x => cases f j <;> exact ih hok' hm' h2'

theorem okEf_lt {m : Nat} {efs : Efs} (h : okEf an m efs = true) : ∀ j l,(j,l) ∈ efs → j < m := by
 induction efs with
 | nil => intro j l hm; cases hm
 | cons y r ih =>
  obtain ⟨j0,l0⟩ := y
  simp only [okEf,Bool.and_eq_true] at h
  intro j l hm
  rcases List.mem_cons.1 hm with e | e
  · cases e; exact Nat.le_of_ble_eq_true h.1.1
  · exact ih h.2 j l e

theorem lk_some {α : Type} {r : List (Nat × α)} {k : Nat} {x : α} (h : (k,x) ∈ r) : (lk r k).isSome = true := by
 induction r with
 | nil => cases h
 | cons y r ih =>
  obtain ⟨j,z⟩ := y
  rw [lk_cons]
  rcases List.mem_cons.1 h with e | e
  · cases e; simp
  · split
    · rfl
    · exact ih e
def SpE (P : Program) (C : Ctx) (σ : Sg) (efs : Efs) (i : Nat) (l : List (Nat × Bx)) (an : List Nat) (ks : List (Nat × Nat)) (its : List It) (o : Oper) (t : Nat) (d : D) : Prop :=
 ∀ τ : Sg,τ.n = σ.n → (∀ id x,bxk an i id efs (lk σ.bx id) = some x → τ.box id = some x) → (∀ id,freB an σ.bx efs i id = true → τ.box id = none) → (∀ u x,facts an ks σ.env its i u = some x → τ.get u = some x) →
  ∃ τ' : Sg,OpS P C o τ (match o.dst with | some _ => τ'.set t d | none => τ') ∧ τ'.n = τ.n ∧ (∀ id,τ'.box id = match lk l id with | some x => some x | none => τ.box id) ∧
   ∀ u y,(∀ k s,(k,s) ∈ ks → s = u → k ≠ i) → τ.get u = some y → y.albIn (l.map Prod.fst) = false → τ'.get u = some y
def dstE (n : Nat) (ks : List (Nat × Nat)) (o : Oper) (i t : Nat) : Prop :=
 match o.dst with
 | some t' => t' = t ∧ t < n
 | none => has ks i t = true

def AllE (P : Program) (C : Ctx) (σ : Sg) (efs : Efs) (ops : List Oper) (an : List Nat) (ks kk : List (Nat × Nat)) (its : List It) : List Oper → List It → Nat → Prop
 | o :: os,⟨t,d,wt⟩ :: r,i => (match lk efs i with
  | some l => o.guard = none ∧ wt = true ∧ dstE σ.n ks o i t ∧ SpE P C σ efs i l an ks its o t d
  | none => o.dst = some t ∧ t < σ.n ∧ Wt ops (facts an ks σ.env its i) o wt ∧
  (wt = true → ∀ τ : Sg,(∀ id x,bxk an i id efs (lk σ.bx id) = some x → τ.box id = some x) → t < τ.n → (∀ u x,facts an ks σ.env its i u = some x → τ.get u = some x) → OpS P C o τ ((killS τ kk i).set t d))) ∧
  AllE P C σ efs ops an ks kk its os r (i + 1)
 | [],_ :: _,_ => False
 | _,[],_ => True

theorem AllE.at {efs : Efs} : ∀ {os : List Oper} {r : List It} {i0 : Nat},AllE P C σ efs ops an ks kk its os r i0 → ∀ {k : Nat} {t : Nat} {d : D} {wt : Bool},r[k]? = some ⟨t,d,wt⟩ →
 ∃ o,os[k]? = some o ∧ (match lk efs (i0 + k) with
  | some l => o.guard = none ∧ wt = true ∧ dstE σ.n ks o (i0 + k) t ∧ SpE P C σ efs (i0 + k) l an ks its o t d
  | none => o.dst = some t ∧ t < σ.n ∧ Wt ops (facts an ks σ.env its (i0 + k)) o wt ∧
  (wt = true → ∀ τ : Sg,(∀ id x,bxk an (i0 + k) id efs (lk σ.bx id) = some x → τ.box id = some x) → t < τ.n → (∀ u x,facts an ks σ.env its (i0 + k) u = some x → τ.get u = some x) → OpS P C o τ ((killS τ kk (i0 + k)).set t d))) := by
 intro os r
 induction r generalizing os with
 | nil => intro i0 _ k t d wt hk; simp at hk
 | cons y r ih =>
  intro i0 h k t d wt hk
  obtain ⟨t',d',w'⟩ := y
  cases os with
  | nil => exact h.elim
  | cons o os =>
   cases k with
   | zero =>
    simp at hk
    obtain ⟨rfl,rfl,rfl⟩ := hk
    exact ⟨o,rfl,h.1⟩
   | succ k =>
    obtain ⟨o',h1,h2⟩ := ih h.2 (k := k) (by simpa using hk)
    rw [show i0 + (k + 1) = i0 + 1 + k by omega]
    exact ⟨o',by simpa using h1,h2⟩

theorem draw_after0 {N : Nat} (H : ItG ⟨N,σ.env,σ.bx⟩ ops an ks its) (hsize : listed.size = ops.length) {i t : Nat} {d : D} {wt : Bool} (hit : its[i]? = some ⟨t,d,wt⟩) (hun : listed.getD i true = false)
 (hanc : ∀ j,j < ops.length → tb (nth an i) j = true → listed.getD j false = true) (hnot : ∀ j,j < ops.length → tb (nth an j) i = true → listed.getD j false = false) {ids : List Nat} (hE : okAlbE ids ks i σ.env = true) (hI : okAlbI ids an ks i its 0 = true) (hkt : (i,t) ∈ ks)
 {τ : Sg} (hinv : InvG σ an ks its listed τ) (τ2 : Sg)
 (hg2 : ∀ u y,(∀ k s,(k,s) ∈ ks → s = u → k ≠ i) → τ.get u = some y → y.albIn ids = false → τ2.get u = some y) : InvG σ an ks its (listed.setIfInBounds i true) τ2 := by
 obtain ⟨hnd,hlt⟩ := okTs_ok H.ts
 obtain ⟨hin,hif⟩ := undone hun
 intro u y hy
 unfold afts at hy
 cases hbd : bads (fun j => (listed.setIfInBounds i true).getD j false && !(cov an (fun j => (listed.setIfInBounds i true).getD j false) its u j)) ks u with
 | true => rw [hbd] at hy; cases hy
 | false =>
  rw [hbd] at hy
  simp only [cond_false] at hy
  rw [bads_false] at hbd
  have hii : (listed.setIfInBounds i true).getD i false = true := by simp [hin]
  have hcov : u ≠ t → ∀ k,cov an (fun j => (listed.setIfInBounds i true).getD j false) its u k = true → cov an (fun j => listed.getD j false) its u k = true ∧ k ≠ i := by
   intro hut k hc
   obtain ⟨j,dj,wj,h1,h2,h3,h4⟩ := cov_true hc
   have hji : i ≠ j := by
    rintro rfl
    rw [hit] at h2
    cases h2
    exact hut rfl
   rw [getD_set_ne false hji] at h3
   refine ⟨cov_mk h1 h3 h4, ?_⟩
   rintro rfl
   have hjl : j < ops.length := Nat.lt_of_lt_of_le (List.getElem?_eq_some_iff.1 h2).1 H.len
   rw [hnot j hjl h4] at h3
   cases h3
  by_cases hut : u = t
  · subst hut
    exfalso
    have h1 := hbd i u hkt rfl
    rw [hii] at h1
    simp only [Bool.true_and,Bool.not_eq_false'] at h1
    obtain ⟨j,dj,wj,q1,q2,q3,q4⟩ := cov_true h1
    have hji : j = i := by
     have e1 : (slots its)[j]? = some u := by rw [slots_get,q2]; rfl
     have e2 : (slots its)[i]? = some u := by rw [slots_get,hit]; rfl
     obtain ⟨l1,e1'⟩ := List.getElem?_eq_some_iff.1 e1
     obtain ⟨l2,e2'⟩ := List.getElem?_eq_some_iff.1 e2
     exact (List.getElem_inj hnd).1 (e1'.trans e2'.symm)
    subst hji
    have hjl : j < ops.length := Nat.lt_of_lt_of_le (List.getElem?_eq_some_iff.1 q2).1 H.len
    have := hanc j hjl q4
    rw [hif] at this
    cases this
  · have hki : ∀ k s,(k,s) ∈ ks → s = u → k ≠ i := by
     rintro k s hm hsu rfl
     have h1 := hbd k s hm hsu
     rw [hii] at h1
     simp only [Bool.true_and,Bool.not_eq_false'] at h1
     exact (hcov hut k h1).2 rfl
    have hbd2 : bads (fun j => listed.getD j false && !(cov an (fun j => listed.getD j false) its u j)) ks u = false := by
     rw [bads_false]
     intro k s hm hsu
     have h1 := hbd k s hm hsu
     have h2 := hki k s hm hsu
     rw [getD_set_ne false (fun e => h2 e.symm)] at h1
     cases hd : listed.getD k false with
     | false => rfl
     | true =>
      rw [hd] at h1
      simp only [Bool.true_and,Bool.not_eq_false'] at h1 ⊢
      exact (hcov hut k h1).1
    have hold : afts an (fun j => listed.getD j false) ks σ.env its u = some y ∧ y.albIn ids = false := by
     unfold afts
     rw [hbd2]
     simp only [cond_false]
     rcases slot_cases its u with hu | ⟨k,dk,wk,hk⟩
     · rw [looks_none hu] at hy ⊢
       exact ⟨hy,(okAlbE_ok hE hy).resolve_right fun h => hki i u h rfl rfl⟩
     · rw [looks_at hnd hk] at hy ⊢
       simp only [Nat.zero_add] at hy ⊢
       have hne : i ≠ k := by
        rintro rfl
        rw [hit] at hk
        cases hk
        exact hut rfl
       rw [getD_set_ne false hne] at hy
       refine ⟨hy, ?_⟩
       cases hd : listed.getD k false with
       | false =>
        rw [hd] at hy
        exact (okAlbE_ok hE hy).resolve_right fun h => hki i u h rfl rfl
       | true =>
        rw [hd] at hy
        simp only [cond_true] at hy
        cases wk with
        | false => simp at hy; subst hy; simp [D.albIn]
        | true =>
         simp at hy
         subst hy
         rcases okAlbI_ok hI hk with h | h | h
         · exact h
         · exact absurd rfl (hki i u h rfl)
         · simp only [Nat.zero_add] at h
           rw [hnot k (by rw [← hsize]; exact getD_true hd) h] at hd
           cases hd
    exact hg2 u y hki (hinv u y hold.1) hold.2

structure ItE (σ : Sg) (efs : Efs) (ops : List Oper) (an : List Nat) (ks : List (Nat × Nat)) (its : List It) : Prop where
 N : ∃ N,okTs N (slots its) = true
 len : its.length ≤ ops.length
 ref : okRef an ks (slots its) its 0 = true
 env : okEnv (slots its) σ.env = true
 ef : okEf an its.length efs = true
 alb : okAlbs σ.env an ks its efs = true

def bxAtE (σ : Sg) (efs : Efs) (listed : Array Bool) (τ : Sg) : Prop := ∀ id,τ.box id = bxL (fun j => listed.getD j false) id efs (lk σ.bx id)

theorem draw_stepE {efs : Efs} (H : ItE σ efs ops an ks its) (hall : AllE P C σ efs ops an ks kk its ops its 0) (hsub : subs kk ks = true)
 (hsize : listed.size = ops.length) {i : Nat} {oi : Oper} (hi : i < its.length) (ho : ops[i]? = some oi) (hun : listed.getD i true = false)
 (hanc : ∀ j,j < ops.length → tb (nth an i) j = true → listed.getD j false = true) (hnot : ∀ j,j < ops.length → tb (nth an j) i = true → listed.getD j false = false)
 {τ : Sg} (hs : St C τ a w) (hn : τ.n = σ.n) (hb : bxAtE σ efs listed τ) (hinv : InvG σ an ks its listed τ) {K : Act → World → Prop} {Q : Exit → Act → World → Prop}
 (hK : ∀ a' w' τ',St C τ' a' w' → τ'.n = σ.n → bxAtE σ efs (listed.setIfInBounds i true) τ' → InvG σ an ks its (listed.setIfInBounds i true) τ' → K a' w') :
 Region.wanted oi (yielded ops.toArray a.tmps) = true ∧ oi.wpIn (Fx C) 3 P a w K Q ∨ Region.wanted oi (yielded ops.toArray a.tmps) = false ∧ K (a.put oi.dst undef) w := by
 obtain ⟨N,hN⟩ := H.N
 have HG : ItG ⟨N,σ.env,σ.bx⟩ ops an ks its := ⟨H.len,hN,H.ref,H.env⟩
 obtain ⟨⟨t,d,wt⟩,hit⟩ : ∃ it,its[i]? = some it := ⟨its[i],List.getElem?_eq_getElem hi⟩
 obtain ⟨o,ho',hcl⟩ := hall.at hit
 rw [ho] at ho'
 cases ho'
 simp only [Nat.zero_add] at hcl
 obtain ⟨hin,hif⟩ := undone hun
 have hil : i < ops.length := by rw [← hsize]; exact hin
 have hfact : ∀ u x,facts an ks σ.env its i u = some x → τ.get u = some x := draw_facts HG hsize hi hun hanc hnot hinv
 have hefl : ∀ j l,(j,l) ∈ efs → j < ops.length := fun j l hm => Nat.lt_of_lt_of_le (okEf_lt H.ef j l hm) H.len
 have hbx : ∀ id x,bxk an i id efs (lk σ.bx id) = some x → τ.box id = some x := fun id x hx => by
  rw [hb id]
  exact bxk_ok hif (fun j l hm ht => hanc j (hefl j l hm) ht) (fun j l hm ht => hnot j (hefl j l hm) ht) (fun _ h => h) hx
 cases hef : lk efs i with
 | some l =>
  rw [hef] at hcl
  simp only at hcl
  obtain ⟨hg,rfl,hdst,hsp⟩ := hcl
  have hm := mem_of_lk hef
  have halb := okAlbs_all H.alb _ hm
  simp only [Bool.and_eq_true] at halb
  have hfre : ∀ id,freB an σ.bx efs i id = true → τ.box id = none := fun id hf => by
   unfold freB at hf
   simp only [Bool.and_eq_true,Option.isNone_iff_eq_none] at hf
   rw [hb id,hf.1]
   refine bxL_off fun j l hm hs => ?_
   have := freB1_all hf.2 _ hm
   simp only [Bool.or_eq_true,Option.isNone_iff_eq_none] at this
   rcases this with (h | h) | h
   · rw [Nat.eq_of_beq_eq_true h]; exact hif
   · rw [h] at hs; cases hs
   · exact hnot j (hefl j l hm) h
  obtain ⟨τ',h1,h2,h3,h4⟩ := hsp τ hn hbx hfre hfact
  have hbn : ∀ id,τ'.box id = bxL (fun j => (listed.setIfInBounds i true).getD j false) id efs (lk σ.bx id) := fun id => by
   rw [h3 id,hb id]
   rw [← bxL_set (f := fun j => listed.getD j false) hif H.ef hm (fun j l hm ht => hnot j (hefl j l hm) ht)]
   refine bxL_congr fun j l hm _ => ?_
   by_cases hji : j = i
   · subst hji; simp [hin]
   · rw [getD_set_ne false (fun e => hji e.symm),nbeq hji,Bool.or_false]
  refine .inl ⟨Region.wanted_none hg _,h1 a w hs _ _ fun a' w' hs' => ?_⟩
  unfold dstE at hdst
  cases hd : oi.dst with
  | none =>
   rw [hd] at hdst hs'
   exact hK a' w' _ hs' (h2.trans hn) hbn (draw_after0 HG hsize hit hun hanc hnot halb.1 halb.2 (has_ok hdst) hinv τ' h4)
  | some t' =>
   rw [hd] at hdst hs'
   exact hK a' w' _ hs' (h2.trans hn) hbn (draw_after HG hsize hit hun hnot halb.1 halb.2 hinv d rfl τ' h4)
 | none =>
  rw [hef] at hcl
  simp only at hcl
  obtain ⟨hdst,htn0,hwt,hop⟩ := hcl
  have htn : t < τ.n := by rw [hn]; exact htn0
  have hEi : okAlbE [] ks i σ.env = true := okAlbE_nil _
  have hIi : ∀ j,okAlbI [] an ks i its j = true := fun j => okAlbI_nil _ j
  have hbn : ∀ τ' : Sg,τ'.bx = τ.bx → bxAtE σ efs (listed.setIfInBounds i true) τ' := fun τ' hbb id => by
   have : τ'.box id = τ.box id := by simp only [Sg.box,hbb]
   rw [this,hb id]
   refine bxL_congr fun j l hm _ => ?_
   rw [getD_set_ne false]
   rintro rfl
   have := lk_some hm
   rw [hef] at this
   cases this
  rw [hwt.ok hs hfact]
  have hkn := killS_n τ kk i
  cases hwt2 : wt with
  | false =>
   refine .inr ⟨rfl, ?_⟩
   rw [hdst]
   exact hK _ _ _ (hs.unwanted htn) hn (hbn _ rfl) (draw_after HG hsize hit hun hnot hEi (hIi 0) hinv (.tup []) (by rw [hwt2]; rfl) τ (fun u y _ h _ => h))
  | true =>
   refine .inl ⟨rfl,hop hwt2 τ hbx htn hfact a w hs _ _ fun a' w' hs' => ?_⟩
   exact hK _ _ _ hs' (hkn.1.trans hn) (hbn _ hkn.2) (draw_after HG hsize hit hun hnot hEi (hIi 0) hinv d (by rw [hwt2]; rfl) _ (fun u y hu hy _ => (killS_get (fun k s hm => hu k s (subs_ok hsub k s hm))).trans hy))

theorem draw_mainE {efs : Efs} {bx1 : List (Nat × Bx)} (hA : okAn ops an its.length = true) (H : ItE σ efs ops an ks its) (hall : AllE P C σ efs ops an ks kk its ops its 0) (hsub : subs kk ks = true)
 {live : List Nat} {env' : List (Nat × D)} (hE : picks (afts an (fun _ => true) ks σ.env its) live = env') {nd : Nat} (hb1 : ddB nd (bxA efs σ.bx) = bx1)
 (hT : TL P C Q (ops.drop its.length) ⟨σ.n,env',bx1⟩) : ∀ (fuel : Nat) (listed : Array Bool) (a : Act) (w : World) (τ : Sg),Cl ops listed → listed.toList.count false ≤ fuel →
 (∀ j,its.length ≤ j → j < ops.length → listed.getD j true = false) → St C τ a w → τ.n = σ.n → bxAtE σ efs listed τ → InvG σ an ks its listed τ →
 wpAnyIn (Fx C) 3 P .any ops.toArray (fun e a' w' => ∃ σ',St C σ' a' w' ∧ Q e σ') fuel listed a w := by
 obtain ⟨N,hN⟩ := H.N
 have hefl : ∀ j l,(j,l) ∈ efs → j < its.length := fun j l hm => okEf_lt H.ef j l hm
 have fin : ∀ (listed : Array Bool) (a : Act) (w : World) (τ : Sg),(∀ j,j < its.length → listed.getD j false = true) → St C τ a w → τ.n = σ.n → bxAtE σ efs listed τ → InvG σ an ks its listed τ →
  St C ⟨σ.n,env',bx1⟩ a w := by
  intro listed a w τ hall' hs hn hb hinv
  have hbb : ∀ id,lk bx1 id = τ.box id := fun id => by
   rw [← hb1,lk_ddB,lk_bxA,hb id]
   exact bxL_congr fun j l hm _ => (hall' j (hefl j l hm)).symm
  refine (hs.rebox hbb).weaken hn.symm rfl fun t d hd => hinv t d ?_
  have := lk_picks (f := afts an (fun _ => true) ks σ.env its) (l := live) (by rw [hE]; exact hd)
  unfold afts at this ⊢
  cases hb : bads (fun k => true && !(cov an (fun _ => true) its t k)) ks t with
  | true => rw [hb] at this; cases this
  | false =>
   rw [hb] at this
   rw [bads_fin (fun j dj wj hj => hall' j (List.getElem?_eq_some_iff.1 hj).1) hb]
   simp only [cond_false] at this ⊢
   rcases slot_cases its t with hu | ⟨k,dk,wk,hk⟩
   · rw [looks_none hu] at this ⊢; exact this
   · rw [looks_at (okTs_ok hN).1 hk] at this ⊢
     simp only [Nat.zero_add] at this ⊢
     rw [hall' k (List.getElem?_eq_some_iff.1 hk).1]; exact this
 intro fuel
 induction fuel with
 | zero =>
  intro listed a w τ hc hf h2 hs hn hb hinv
  by_cases hall' : ∀ j,j < its.length → listed.getD j false = true
  · exact draw_tail hA _ its.length 0 listed a w ⟨σ.n,env',bx1⟩ rfl (Nat.le_refl _) H.len hc hf hall' h2 (fin listed a w τ hall' hs hn hb hinv) hT
  · exfalso
    apply hall'
    intro j hj
    have := count_zero (listed := listed) (by omega) j
    have hjl : j < listed.size := by rw [hc.size]; have := H.len; omega
    simp [hjl] at this ⊢
    exact this
 | succ fuel ih =>
  intro listed a w τ hc hf h2 hs hn hb hinv
  by_cases hall' : ∀ j,j < its.length → listed.getD j false = true
  · exact draw_tail hA _ its.length (fuel + 1) listed a w ⟨σ.n,env',bx1⟩ rfl (Nat.le_refl _) H.len hc hf hall' h2 (fin listed a w τ hall' hs hn hb hinv) hT
  · have hsome : ∃ j,j < its.length ∧ listed.getD j true = false := by
     rcases Classical.not_forall.1 hall' with ⟨j,hj⟩
     rcases Classical.not_imp.1 hj with ⟨hj1,hj2⟩
     refine ⟨j,hj1, ?_⟩
     have hjl : j < listed.size := by rw [hc.size]; have := H.len; omega
     simp [hjl] at hj2 ⊢
     exact hj2
    have key : ∀ n j,j = n → j < its.length → listed.getD j true = false → ∃ k,k ∈ Region.ready .any ops.toArray listed := by
     intro n
     induction n using Nat.strongRecOn with
     | _ n ihn =>
      intro j hjn hj hu
      have hjl : j < ops.length := Nat.lt_of_lt_of_le hj H.len
      have ho : ops[j]? = some ops[j] := List.getElem?_eq_getElem hjl
      by_cases hr : ∀ e ∈ ops[j].after,Region.binds .any e = true → listed.getD e.on false = true
      · exact ⟨j,mem_ready.2 ⟨hu,_,by simp,hr⟩⟩
      · rcases Classical.not_forall.1 hr with ⟨e,he⟩
        rcases Classical.not_imp.1 he with ⟨he1,he2⟩
        rcases Classical.not_imp.1 he2 with ⟨he3,he4⟩
        have hlt := (okAn_spec hA ho).1 e he1 he3
        refine ihn e.on (by omega) e.on rfl (by omega) ?_
        have hel : e.on < listed.size := by rw [hc.size]; omega
        simp [hel] at he4 ⊢
        exact he4
    obtain ⟨j0,hj0,hu0⟩ := hsome
    refine ⟨fun hr => ?_,fun i hi => ?_⟩
    · obtain ⟨k,hk⟩ := key j0 j0 rfl hj0 hu0
      rw [hr] at hk
      cases hk
    · obtain ⟨h3,oi,h4,h5⟩ := mem_ready.1 hi
      have ho : ops[i]? = some oi := by simpa using h4
      have hil : i < ops.length := (List.getElem?_eq_some_iff.1 ho).1
      have him : i < its.length := by
       rcases Nat.lt_or_ge i its.length with h | h
       · exact h
       · exfalso
         obtain ⟨_,h9⟩ := okAn_spec hA ho
         have hj0l : j0 < ops.length := Nat.lt_of_lt_of_le hj0 H.len
         obtain ⟨h10,h11⟩ := h9 j0 hj0l
         obtain ⟨e,he,hb,h12⟩ := h10 (h11 h (by omega))
         have hd := h5 e he hb
         have hkd : listed.getD j0 false = true := by
          rcases h12 with rfl | h12
          · exact hd
          · exact hc.anc hA e.on (by rw [← hc.size]; exact getD_true hd) hd j0 hj0l h12
         rw [(undone hu0).2] at hkd
         cases hkd
      have hspc := (okAn_spec hA ho).2
      have hif := (undone h3).2
      have hanc : ∀ j,j < ops.length → tb (nth an i) j = true → listed.getD j false = true := by
       intro j hj ht
       obtain ⟨e,he,hb,h1⟩ := (hspc j hj).1 ht
       have hd := h5 e he hb
       rcases h1 with rfl | h1
       · exact hd
       · exact hc.anc hA e.on (by rw [← hc.size]; exact getD_true hd) hd j hj h1
      have hnot : ∀ j,j < ops.length → tb (nth an j) i = true → listed.getD j false = false := by
       intro j hj ht
       cases hd : listed.getD j false with
       | false => rfl
       | true => have := hc.anc hA j hj hd i hil ht; rw [hif] at this; cases this
      suffices hK : ∀ a' w' τ',St C τ' a' w' → τ'.n = σ.n → bxAtE σ efs (listed.setIfInBounds i true) τ' → InvG σ an ks its (listed.setIfInBounds i true) τ' → wpAnyIn (Fx C) 3 P .any ops.toArray (fun e a' w' => ∃ σ',St C σ' a' w' ∧ Q e σ') fuel (listed.setIfInBounds i true) a' w' by
       unfold Go.wpOpIn
       simp only [h4]
       rcases draw_stepE H hall hsub hc.size him ho h3 hanc hnot hs hn hb hinv hK with ⟨e1,e2⟩ | ⟨e1,e2⟩
       · simp only [e1,if_true]; exact e2
       · simp only [e1,Bool.false_eq_true,if_false]; exact ⟨fun _ _ => trivial,e2⟩
      intro a' w' τ' hs' hn' hb' hinv'
      refine ih _ a' w' τ' (hc.set ho h5) (by have := count_set h3; omega) (fun j hj hjl => ?_) hs' hn' hb' hinv'
      rw [getD_set_ne true (by omega)]
      exact h2 j hj hjl

theorem W.drawE {id m n' nd : Nat} {efs : Efs} {bx1 : List (Nat × Bx)} (hm : P.follows .mixedOrders = true) (hA0 : okAn ops an m = true) (hlen : its.length = m)
 (H : ItE σ efs ops an ks its) (hall : AllE P C σ efs ops an ks kk its ops its 0) (hsub : subs kk ks = true)
 {live : List Nat} {env' : List (Nat × D)} (hE : picks (afts an (fun _ => true) ks σ.env its) live = env') (hb1 : ddB nd (bxA efs σ.bx) = bx1)
 (hn : σ.n = n') (hT : TL P C Q (ops.drop its.length) ⟨n',env',bx1⟩) : W P C (.region id ops.toArray true) Q σ := by
 intro a w hs
 refine wpIn_region_any hm ?_
 have hgd : ∀ k,(Array.replicate ops.toArray.size false).getD k false = false := by
  intro k
  simp only [Array.getD_eq_getD_getElem?,Array.getElem?_replicate]
  split <;> rfl
 have hc : Cl ops (Array.replicate ops.toArray.size false) := ⟨by simp,fun i o _ hd => by rw [hgd] at hd; cases hd⟩
 have hA : okAn ops an its.length = true := by rw [hlen]; exact hA0
 obtain ⟨N,hN⟩ := H.N
 subst hn
 refine draw_mainE hA H hall hsub hE hb1 hT _ _ a _ σ hc ?_ ?_ (hs.ext (Ext.drew w)) rfl ?_ (fun u x hx => ?_)
 · simp
 · intro j _ hj; simp [hj]
 · exact fun id => (bxL_off fun j l _ _ => hgd j).symm
 · unfold afts at hx
   generalize hb : bads _ ks u = bb at hx
   cases bb with
   | true => cases hx
   | false =>
    simp only [cond_false] at hx
    rcases slot_cases its u with hu | ⟨k,dk,wk,hk⟩
    · rw [looks_none hu] at hx; exact hx
    · rw [looks_at (okTs_ok hN).1 hk,hgd] at hx
      exact hx

theorem SpE.alloc {efs : Efs} {i t ty rt : TypeId} {d : D} {pos : String} {aft : Array Edge} [hZ : ZrT P ty d] (hf : freB an σ.bx efs i t = true) (ht : t < σ.n) :
 SpE P C σ efs i [(t,.var d)] an ks its ⟨some t,.alloc ty,rt,pos,aft,none⟩ t (.ptr t 0 []) := by
 intro τ hn hb hfr hfa
 refine ⟨τ.newB t (.var d),R.alloc (hfr t hf) (by rw [hn]; exact ht),rfl,fun id => ?_,fun u y _ hy _ => hy⟩
 rw [box_newB]
 by_cases hid : t = id
 · subst hid; simp [lk]
 · simp [lk,hid,nbeq hid]

theorem box_putB' {τ : Sg} {id : Nat} {x y : Bx} (h : τ.box id = some y) (i : Nat) : (τ.putB id x).box i = match lk [(id,x)] i with | some z => some z | none => τ.box i := by
 rw [box_putB]
 by_cases hi : i = id
 · subst hi; simp [lk,h]
 · simp [lk,hi,nbeq (show ¬ id = i from fun e => hi e.symm)]

theorem SpE.st {efs : Efs} {i t p id off : Nat} {d : D} {path : List Nat} {x : Operand} {d0 d1 d' dx : D} {ty n rt : TypeId} {gg : Bool} {pos : String} {aft : Array Edge} [LdT P ty n gg]
 (hp : facts an ks σ.env its i p = some (.ptr id off path)) (hb : bxk an i id efs (lk σ.bx id) = some (.var d0)) (hl : d0.loc path = some (off,d1))
 (hx : ∀ τ : Sg,(∀ u x,facts an ks σ.env its i u = some x → τ.get u = some x) → ev C.gl τ x = some dx) (hpu : dx.pur = true) (hnp : dx.np = true)
 (hn : dx.sz = n) (hz : d1.sz = n) (hu : d0.upd path dx = some d') :
 SpE P C σ efs i [(id,.var d')] an ks its ⟨none,.store ty (.tmp p) x,rt,pos,aft,none⟩ t d := by
 intro τ hn' hbk hfr hfa
 have hbx := hbk _ _ hb
 refine ⟨τ.putB id (.var d'),R.st (hfa _ _ hp) hbx hl (hx τ hfa) hpu hnp hn (hn.trans hz.symm) hu,rfl,box_putB' hbx,fun u y _ hy ha => ?_⟩
 rw [get_putB,hy,Option.map_some,scrubB_alb ha]

theorem SpE.appB {efs : Efs} {c : Nat} {s id off t e z bytes : Nat} {path : List Nat} {d0 d0' : D} {x : Operand} {l l' l2 : List D} {ty rt : TypeId} {pos : String} {aft : Array Edge} [hT : SlT P ty e] [hE : ElT P e z bytes]
 (hs : facts an ks σ.env its c s = some (.alb id off path)) (hb : bxk an c id efs (lk σ.bx id) = some (.var d0)) (hl : d0.loc path = some (off,.sl (some e) z l)) (hna : d0.noArr path = true) (hu : d0.upd path .dead = some d0')
 (hx : ∀ τ : Sg,(∀ i x,i ≠ id → bxk an c i efs (lk σ.bx i) = some x → τ.box i = some x) → (∀ u x,facts an ks σ.env its c u = some x → x.albIn [id] = false → Nat.beq u s = false → τ.get u = some x) → SrcO C.gl τ x z l')
 (he : l ++ l' = l2) (hn : l.length + l'.length ≤ 1073741824) (hst : s ≠ t) (hby : bytes ≤ 131072) (hk : has ks c s = true) (ht : t < σ.n) :
 SpE P C σ efs c [(id,.var d0')] an ks its ⟨some t,.call { callee := .builtin .append,args := #[.tmp s,x],argTypes := #[ty,ty] },rt,pos,aft,none⟩ t (.sl (some e) z l2) := by
 intro τ hτn hbk hfr hf
 have hbτ := hbk _ _ hb
 have hget : ∀ u,((τ.putB id (.var d0')).upd s (.sl (some e) z l)).get u = if u = s then some (.sl (some e) z l) else (τ.get u).map (scrubB id) := fun u => by
  rw [get_upd,get_putB]
  by_cases hus : u = s
  · subst hus; simp [hf _ _ hs]
  · simp [hus]
 have hbx2 : ∀ i,((τ.putB id (.var d0')).upd s (.sl (some e) z l)).box i = (τ.putB id (.var d0')).box i := fun i => rfl
 refine ⟨((τ.putB id (.var d0')).upd s (.sl (some e) z l)).kill s,R.appBP (hf _ _ hs) hbτ hl hna hu rfl (by rw [hget]; simp) (hx _ (fun i x hi hix => ?_) (fun u x hux ha hus => ?_)) he hn (by rw [hτn]; exact ht) hst hby,rfl,fun i => ?_,fun u y hk' hy ha => ?_⟩
 · rw [hbx2,box_putB,if_neg hi]; exact hbk i x hix
 · rw [hget,hf _ _ hux]
   have : ¬ u = s := fun e => by subst e; simp at hus
   simp [this,scrubB_alb ha]
 · exact box_putB' hbτ i
 · rw [get_kill,hget,hy]
   have : ¬ u = s := fun e => hk' c s (has_ok hk) e.symm rfl
   have ha' : y.albIn [id] = false := ha
   simp [this,scrubB_alb ha']

theorem SpE.frz {efs : Efs} {i t : Nat} {l : List (Nat × Bx)} {o : Oper} {d d' : D} (h : SpE P C σ efs i l an ks its o t d) (hd : o.dst = some t) (hr : d.isRef = false) (he : d.brw = d') : SpE P C σ efs i l an ks its o t d' := by
 intro τ hn hb hfr hfa
 obtain ⟨τ',h1,h2,h3,h4⟩ := h τ hn hb hfr hfa
 refine ⟨τ', ?_,h2,h3,h4⟩
 rw [hd] at h1 ⊢
 exact R.frzT h1 hr he

def knBx (an : List Nat) (c : Nat) (efs : Efs) (bx : List (Nat × Bx)) : List (Nat × Bx) → Prop
 | [] => True
 | (k,y) :: r => bxk an c k efs (lk bx k) = some y ∧ knBx an c efs bx r
theorem knBx_has {c : Nat} {efs : Efs} {bx : List (Nat × Bx)} {τ : Sg} (hb : ∀ id x,bxk an c id efs (lk bx id) = some x → τ.box id = some x) : ∀ {l : List (Nat × Bx)},knBx an c efs bx l → hasBx τ.bx l := by
 intro l
 induction l with
 | nil => intro _; trivial
 | cons y r ih =>
  obtain ⟨k,y⟩ := y
  intro h
  exact ⟨hb k y h.1,ih h.2⟩

theorem SpE.callB {efs : Efs} {c : Nat} {f : FuncId} [CaT P f] {t : Nat} {args : List Operand} {tys : Array TypeId} {rt : TypeId} {pos : String} {aft : Array Edge} {gl : List (Nat × D)} {ds : List D} {r r' : D} {bx bx' cx cx' : List (Nat × Bx)}
 (ml : List (Nat × Nat)) (hC : C.gl = gl) (hF : FnB P gl f ds bx r bx' []) (ha : ∀ τ : Sg,(∀ u x,facts an ks σ.env its c u = some x → τ.get u = some x) → EvB C.gl τ (mlk ml) (bx.map Prod.fst) args ds)
 (hcx : renBx (mlk ml) bx = cx) (hlk : knBx an c efs σ.bx cx) (hob : okBxP (bx.map Prod.fst) bx) (hcx' : renBx (mlk ml) bx' = cx') (hr : r.ren (mlk ml) = r')
 (hk : bx'.map Prod.fst = bx.map Prod.fst) (hinj : injB (mlk ml) (bx'.map Prod.fst) = true) (ht : t < σ.n) :
 SpE P C σ efs c cx' an ks its ⟨some t,.call { callee := .value (.func f),args := args.toArray,argTypes := tys },rt,pos,aft,none⟩ t r' := by
 intro τ hτn hbk hfr hf
 have hhas := knBx_has hbk hlk
 have hkeys : cx'.map Prod.fst = cx.map Prod.fst := by rw [← hcx',← hcx,keys_renBx,keys_renBx,hk]
 refine ⟨⟨τ.n,scrubL (cx.map Prod.fst) τ.env,[] ++ lendB cx' τ.bx⟩,R.callB (nw := []) ml hC hF (ha τ hf) hcx hhas hob hcx' rfl hr hk rfl (by simpa using hinj) (by rw [hτn]; exact ht),rfl,fun id => ?_,fun u y _ hy hal => ?_⟩
 · show lk ([] ++ lendB cx' τ.bx) id = _
   rw [List.nil_append,lk_lendB]
   show Option.map _ (τ.box id) = _
   cases hb : τ.box id with
   | some x => cases lk cx' id <;> simp
   | none =>
    have : lk cx' id = none := by
     cases hc : lk cx' id with
     | none => rfl
     | some y =>
      have h1 : id ∈ cx.map Prod.fst := by rw [← hkeys]; exact lk_key.1 (by rw [hc]; rfl)
      obtain ⟨⟨k,z⟩,hm,rfl⟩ := List.mem_map.1 h1
      have := hasBx_get hhas k z hm
      rw [show lk τ.bx k = τ.box k from rfl,hb] at this
      cases this
    rw [this]; rfl
 · rw [hkeys] at hal
   exact scrubL_alb _ _ u hy hal
end
end Go.Sx

namespace Go.Sx

variable {P : Program} {C : Ctx} {σ σ' σ1 : Sg} {a : Act} {w w' : World} {ρ : Nat → Nat} {Fe Fe' Fb : Nat → List Nat}

theorem szs_uni {z : Nat} : ∀ (l : List D),(∀ x ∈ l,x.sz = z) → D.szs l = l.length * z := by
 intro l
 induction l with
 | nil => intro _; simp
 | cons x r ih =>
  intro h
  simp only [szs_cons,List.length_cons]
  rw [h x (by simp),ih (fun y hy => h y (List.mem_cons_of_mem _ hy)),Nat.add_mul,Nat.one_mul,Nat.add_comm]
theorem offk_uni {z : Nat} (l r : List D) (h : ∀ x ∈ l,x.sz = z) (k : Nat) (hk : k ≤ l.length) : offk (l ++ r) k = k * z := by
 unfold offk
 rw [List.take_append_of_le_length hk,szs_uni (l.take k) (fun x hx => h x (List.mem_of_mem_take hx)),List.length_take,Nat.min_eq_left hk]
theorem offk_tail {z : Nat} (l : List D) (h : ∀ x ∈ l,x.sz = z) (m j : Nat) (hj : j ≤ m) : offk (l ++ List.replicate m .dead) (l.length + j) = l.length * z + j := by
 unfold offk
 rw [List.take_append,List.take_of_length_le (by omega),szs_append,szs_uni l h]
 have : l.length + j - l.length = j := by omega
 rw [this,List.take_replicate,Nat.min_eq_left hj,szs_dead]

theorem Rc.open {G L : Nat → Prop} {e z : Nat} {l : List D} {v : Value} {F : List Nat} (h : Rc w ρ G L true (.sl (some e) z l) [v] F) (hne : l ≠ []) (hF : F.Nodup) :
 ∃ b csb cap F1,v = .slice (some ⟨b,0,none⟩) l.length cap ∧ w.heap[b]? = some (.cells csb e (0,0)) ∧ l.length ≤ cap ∧ cap ≤ maxLen ∧ (b :: F1).Nodup ∧ (∀ y ∈ b :: F1,y ∈ F) ∧
  Rc w ρ G L true (.agg (l ++ List.replicate ((cap - l.length) * z) .dead)) csb.toList F1 := by
 generalize hv : [v] = cv at h
 cases h with
 | slN => exact absurd rfl hne
 | slE => exact absurd rfl hne
 | slO b cs e cap z l Fs hb hc hm hs ho hr =>
  cases hv
  obtain ⟨hn1,hn2⟩ := List.nodup_cons.1 hF
  obtain ⟨hn3,hn4⟩ := flat_nodup hn2
  have hlz : l.length * z ≤ cs.size := by rw [hs]; exact Nat.mul_le_mul_right z hc
  have hsz : ∀ x ∈ l,x.sz = z := by
   intro x hx
   obtain ⟨i,hi,rfl⟩ := List.mem_iff_getElem.1 hx
   rw [← (hr i hi).len]
   have := Nat.mul_le_mul_right z (show i + 1 ≤ l.length by omega)
   rw [Nat.add_mul] at this
   simp; omega
  have hcap : (cap - l.length) * z = cap * z - l.length * z := Nat.sub_mul _ _ _
  let m := (cap - l.length) * z
  refine ⟨b,cs,cap,(List.range (l ++ List.replicate m D.dead).length).flatMap (fun k => if k < l.length then Fs k else []),rfl,hb,hc,hm, ?_, ?_, ?_⟩
  · refine List.nodup_cons.2 ⟨fun hm' => hn1 ?_,flat_nodup_mk (fun i hi => ?_) (fun i j hi hj hij y hy hy' => ?_)⟩
    · obtain ⟨i,_,hx⟩ := List.mem_flatMap.1 hm'
      by_cases hil : i < l.length
      · simp only [hil,if_true] at hx; exact List.mem_flatMap.2 ⟨i,List.mem_range.2 hil,hx⟩
      · simp [hil] at hx
    · by_cases hil : i < l.length
      · simp only [hil,if_true]; exact hn3 i hil
      · simp [hil]
    · by_cases hil : i < l.length
      · by_cases hjl : j < l.length
        · simp only [hil,hjl,if_true] at hy hy'; exact hn4 i j hil hjl hij y hy hy'
        · simp [hjl] at hy'
      · simp [hil] at hy
  · intro y hy
    rcases List.mem_cons.1 hy with rfl | hy
    · simp
    · obtain ⟨i,_,hx⟩ := List.mem_flatMap.1 hy
      by_cases hil : i < l.length
      · simp only [hil,if_true] at hx; exact List.mem_cons_of_mem _ (List.mem_flatMap.2 ⟨i,List.mem_range.2 hil,hx⟩)
      · simp [hil] at hx
  · refine .agg _ _ _ ?_ (fun k hk => ?_)
    · rw [szs_append,szs_uni l hsz,szs_dead]
      simp only [Array.length_toList,m]; omega
    · by_cases hkl : k < l.length
      · simp only [List.getElem_append_left hkl,hkl,if_true]
        rw [offk_uni l _ hsz k (by omega),hsz _ (List.getElem_mem hkl)]
        exact (hr k hkl).flag
      · have hk' : k < l.length + m := by simpa using hk
        obtain ⟨j,rfl⟩ : ∃ j,k = l.length + j := ⟨k - l.length,by omega⟩
        simp only [hkl,if_false]
        rw [List.getElem_append_right (by omega),List.getElem_replicate,offk_tail l hsz m j (by omega)]
        have hjl : l.length * z + j < cs.toList.length := by simp only [Array.length_toList,m] at hk' ⊢; omega
        have : (cs.toList.drop (l.length * z + j)).take 1 = [cs.toList[l.length * z + j]] := by
         rw [List.drop_eq_getElem_cons hjl]; rfl
        show Rc w ρ G L true .dead ((cs.toList.drop (l.length * z + j)).take 1) []
        rw [this]
        exact .dead _ (ho _ (List.getElem_mem hjl))

theorem St.openB {id id0 off e z : Nat} {path : List Nat} {l : List D} {d0 d1 : D} {d2 : Nat → D} (hb0 : σ.box id0 = some (.var d0)) (hl : d0.loc path = some (off,.sl (some e) z l)) (hna : d0.noArr path = true) (hu : d0.upd path .dead = some d1)
 (hl1 : d1.loc path = some (off,.dead)) (hna1 : d1.noArr path = true) (hu1 : ∀ cap,d1.upd path (.bs id z l.length cap) = some (d2 cap)) (hne : l ≠ []) (hid : σ.box id = none) (hs : St C σ a w) :
 ∃ cap,l.length ≤ cap ∧ cap ≤ maxLen ∧ St C ⟨σ.n,σ.env,(id,.var (.agg (l ++ List.replicate ((cap - l.length) * z) .dead))) :: setb id0 (.var (d2 cap)) σ.bx⟩ a w := by
 obtain ⟨ρ,Fe,Fb,st⟩ := hs
 obtain ⟨cs,e0,F',q1,q2,q3⟩ := st.bx id0 _ hb0
 have hnd : (ρ id0 :: F').Nodup := by have := st.nodB id0; rw [q3] at this; exact this
 obtain ⟨hn1,hn2⟩ := List.nodup_cons.1 hnd
 obtain ⟨v,F1,F2,t1,t2,t3,t4,t5,t6,t7,t8,t9⟩ := q2.take hl hna hu hn2
 obtain ⟨b,csb,cap,F3,rfl,o2,o3,o4,o5,o6,o7⟩ := t2.open hne t6
 have hii : id ≠ id0 := by rintro rfl; rw [hb0] at hid; cases hid
 have hbox : ∀ i,(⟨σ.n,σ.env,(id,.var (.agg (l ++ List.replicate ((cap - l.length) * z) .dead))) :: setb id0 (.var (d2 cap)) σ.bx⟩ : Sg).box i = if i = id then some (.var (.agg (l ++ List.replicate ((cap - l.length) * z) .dead))) else if i = id0 then some (.var (d2 cap)) else σ.box i := fun i => by
  show lk (_ :: _) i = _
  rw [lk_cons,lk_setb]
  by_cases h1 : i = id
  · simp [h1]
  · simp only [h1,show ¬ id = i from fun e => h1 e.symm,if_false]
    by_cases h2 : i = id0
    · subst h2
      have : lk σ.bx i = some (.var d0) := hb0
      simp [this]
    · simp [h2]; rfl
 have hρ : ∀ i,(σ.box i).isSome = true → (((⟨σ.n,σ.env,(id,.var (.agg (l ++ List.replicate ((cap - l.length) * z) .dead))) :: setb id0 (.var (d2 cap)) σ.bx⟩ : Sg).box i).isSome = true ∧ updR ρ id b i = ρ i) := fun i hi => by
  have h1 : i ≠ id := by rintro rfl; rw [hid] at hi; cases hi
  refine ⟨?_,updR_other h1⟩
  rw [hbox,if_neg h1]
  by_cases h2 : i = id0
  · simp [h2]
  · simpa [h2] using hi
 have hmo0 : ∀ {d : D} {cs : List Value} {F : List Nat},Rc w ρ (gd C Fe Fb) (fun i => (σ.box i).isSome = true) true d cs F →
  Rc w (updR ρ id b) (gd C Fe Fb) (fun i => ((⟨σ.n,σ.env,(id,.var (.agg (l ++ List.replicate ((cap - l.length) * z) .dead))) :: setb id0 (.var (d2 cap)) σ.bx⟩ : Sg).box i).isSome = true) true d cs F :=
  fun h => h.mono (fun _ _ _ => rfl) (fun y hy _ => hy) hρ
 have hoff : off < cs.toList.length := (List.getElem?_eq_some_iff.1 t1).1
 have hv : cs.toList[off] = .slice (some ⟨b,0,none⟩) l.length cap := (List.getElem?_eq_some_iff.1 t1).2
 have hbsv : Rc w (updR ρ id b) (gd C Fe Fb) (fun i' => ((⟨σ.n,σ.env,(id,.var (.agg (l ++ List.replicate ((cap - l.length) * z) .dead))) :: setb id0 (.var (d2 cap)) σ.bx⟩ : Sg).box i').isSome = true) true (.bs id z l.length cap) [.slice (some ⟨b,0,none⟩) l.length cap] [] := by
  have := Rc.bs (w := w) (ρ := updR ρ id b) (G := gd C Fe Fb) (L := fun i' => ((⟨σ.n,σ.env,(id,.var (.agg (l ++ List.replicate ((cap - l.length) * z) .dead))) :: setb id0 (.var (d2 cap)) σ.bx⟩ : Sg).box i').isSome = true) id z l.length cap (by rw [hbox]; simp) o3
  rwa [updR_same] at this
 obtain ⟨F4,r1,r2,r3,_,_⟩ := (hmo0 t3).updP hl1 (hu1 cap) rfl hbsv t7 List.nodup_nil (by simp) hna1
 have hcs : cs.toList.take off ++ [Value.slice (some ⟨b,0,none⟩) l.length cap] ++ cs.toList.drop (off + 1) = cs.toList := by
  rw [← hv,List.append_assoc,List.singleton_append,← List.drop_eq_getElem_cons hoff,List.take_append_drop]
 simp only [List.length_singleton] at r1
 rw [hcs] at r1
 have r2' : ∀ y ∈ F4,y ∈ F2 := fun y hy => (r2 y hy).resolve_right (by simp)
 -- who owns what
 let Fb' : Nat → List Nat := upd (upd Fb id0 (ρ id0 :: F4)) id (b :: F3)
 have hF2 : ∀ y ∈ ρ id0 :: F4,y ∈ Fb id0 := fun y hy => by
  rw [q3]; rcases List.mem_cons.1 hy with rfl | hy
  · simp
  · exact List.mem_cons_of_mem _ (t5 y (r2' y hy))
 have hF3 : ∀ y ∈ b :: F3,y ∈ Fb id0 := fun y hy => by rw [q3]; exact List.mem_cons_of_mem _ (t4 y (o6 y hy))
 have hF23 : ∀ y ∈ b :: F3,y ∉ ρ id0 :: F4 := fun y hy hy' => by
  rcases List.mem_cons.1 hy' with rfl | hy'
  · exact hn1 (t4 _ (o6 _ hy))
  · exact t8 y (o6 y hy) (r2' y hy')
 have hsub : ∀ i,∀ y ∈ Fb' i,(i = id ∨ i = id0) ∧ y ∈ Fb id0 ∨ (i ≠ id ∧ i ≠ id0 ∧ y ∈ Fb i) := fun i y hy => by
  by_cases h1 : i = id
  · subst h1; simp only [Fb',upd_same] at hy; exact .inl ⟨.inl rfl,hF3 y hy⟩
  · simp only [Fb',upd_other h1] at hy
    by_cases h2 : i = id0
    · subst h2; rw [upd_same] at hy; exact .inl ⟨.inr rfl,hF2 y hy⟩
    · rw [upd_other h2] at hy; exact .inr ⟨h1,h2,hy⟩
 have hown : ∀ y,own Fe Fb' y → own Fe Fb y := fun y hy => hy.imp (fun h => h) fun ⟨i,hi⟩ => by
  rcases hsub i y hi with ⟨_,h⟩ | ⟨_,_,h⟩
  · exact ⟨id0,h⟩
  · exact ⟨i,h⟩
 have hg : ∀ y,gd C Fe Fb y → gd C Fe Fb' y := fun y hy => ⟨hy.1,fun hc => hy.2 (hown y hc)⟩
 have hmo : ∀ {d : D} {cs : List Value} {F : List Nat},Rc w ρ (gd C Fe Fb) (fun i => (σ.box i).isSome = true) true d cs F →
  Rc w (updR ρ id b) (gd C Fe Fb') (fun i => ((⟨σ.n,σ.env,(id,.var (.agg (l ++ List.replicate ((cap - l.length) * z) .dead))) :: setb id0 (.var (d2 cap)) σ.bx⟩ : Sg).box i).isSome = true) true d cs F :=
  fun h => h.mono (fun _ _ _ => rfl) (fun y hy _ => hg y hy) hρ
 refine ⟨cap,o3,o4,updR ρ id b,Fe,Fb',{
  size := st.size
  defs := st.defs
  pin := fun i y hp => ?_
  env := fun u d hd => SR_lend (st.env u d hd) (fun _ _ _ => rfl) (fun y hy _ => hg y hy) hρ (fun _ _ _ _ _ => rfl)
  envN := fun u hu => st.envN u hu
  bx := fun i x hx => ?_
  bxN := fun i hx => ?_
  nodE := st.nodE
  nodB := fun i => ?_
  dEE := st.dEE
  dEB := fun u i y h1 h2 => ?_
  dBB := fun i i' hne y h1 h2 => ?_
  new := fun y hy => st.new y (hown y hy)
  kept := st.kept
  os := st.os
  tape := st.tape
  output := st.output
  grown := st.grown
  gl := st.gl
  okN := st.okN
  okO := fun y hy => st.okO y (hown y hy) }⟩
 · have := hρ i (st.pin i y hp).2
   exact ⟨this.2.trans (st.pin i y hp).1,this.1⟩
 · rw [hbox] at hx
   by_cases h1 : i = id
   · subst h1
     simp only [if_true,Option.some.injEq] at hx
     subst hx
     refine ⟨csb,e,F3, ?_,hmo o7, ?_⟩
     · rw [updR_same]; exact o2
     · simp only [Fb',upd_same,updR_same]
   · simp only [h1,if_false] at hx
     by_cases h2 : i = id0
     · subst h2
       simp only [if_true,Option.some.injEq] at hx
       subst hx
       refine ⟨cs,e0,F4, ?_,r1.mono (fun _ _ _ => rfl) (fun y hy _ => hg y hy) (fun i hi => ⟨hi,rfl⟩), ?_⟩
       · rw [updR_other h1]; exact q1
       · simp only [Fb',upd_other h1,upd_same,updR_other h1]
     · simp only [h2,if_false] at hx
       simp only [Fb',upd_other h1,upd_other h2,updR_other h1]
       exact (st.bx i x hx).mono (fun _ _ _ => rfl) (fun y hy _ => hg y hy) hρ
 · rw [hbox] at hx
   by_cases h1 : i = id
   · simp [h1] at hx
   · simp only [h1,if_false] at hx
     by_cases h2 : i = id0
     · simp [h2] at hx
     · simp only [h2,if_false] at hx
       simp only [Fb',upd_other h1,upd_other h2]
       exact st.bxN i hx
 · by_cases h1 : i = id
   · subst h1; simp only [Fb',upd_same]; exact o5
   · simp only [Fb',upd_other h1]
     by_cases h2 : i = id0
     · subst h2; rw [upd_same]; exact List.nodup_cons.2 ⟨fun hm => hn1 (t5 _ (r2' _ hm)),r3⟩
     · rw [upd_other h2]; exact st.nodB i
 · rcases hsub i y h2 with ⟨_,h⟩ | ⟨_,_,h⟩
   · exact st.dEB u id0 y h1 h
   · exact st.dEB u i y h1 h
 · by_cases h3 : i = id
   · subst h3
     simp only [Fb',upd_same] at h1
     simp only [Fb',upd_other (fun e => hne e.symm)] at h2
     by_cases h4 : i' = id0
     · subst h4; rw [upd_same] at h2; exact hF23 y h1 h2
     · rw [upd_other h4] at h2; exact st.dBB id0 i' (fun e => h4 e.symm) y (hF3 y h1) h2
   · simp only [Fb',upd_other h3] at h1
     by_cases h5 : i' = id
     · subst h5
       simp only [Fb',upd_same] at h2
       by_cases h4 : i = id0
       · subst h4; rw [upd_same] at h1; exact hF23 y h2 h1
       · rw [upd_other h4] at h1; exact st.dBB i id0 h4 y h1 (hF3 y h2)
     · simp only [Fb',upd_other h5] at h2
       by_cases h4 : i = id0
       · subst h4
         rw [upd_same] at h1
         rw [upd_other (fun e => hne e.symm)] at h2
         exact st.dBB i i' hne y (hF2 y h1) h2
       · rw [upd_other h4] at h1
         by_cases h6 : i' = id0
         · subst h6; rw [upd_same] at h2; exact st.dBB i i' h4 y h1 (hF2 y h2)
         · rw [upd_other h6] at h2; exact st.dBB i i' hne y h1 h2
theorem W.openB {c : Code} {Q : Exit → Sg → Prop} (id id0 : Nat) (path : List Nat) {off e z : Nat} {l : List D} {d0 d1 : D} {d2 : Nat → D} (hb0 : σ.box id0 = some (.var d0)) (hl : d0.loc path = some (off,.sl (some e) z l)) (hna : d0.noArr path = true) (hu : d0.upd path .dead = some d1)
 (hl1 : d1.loc path = some (off,.dead)) (hna1 : d1.noArr path = true) (hu1 : ∀ cap,d1.upd path (.bs id z l.length cap) = some (d2 cap)) (hne : l ≠ []) (hid : σ.box id = none) {bx' : Nat → List (Nat × Bx)} (hbx : ∀ cap,setb id0 (.var (d2 cap)) σ.bx = bx' cap)
 (k : ∀ cap m : Nat,l.length ≤ cap → cap ≤ maxLen → m = (cap - l.length) * z → W P C c Q ⟨σ.n,σ.env,(id,.var (.agg (l ++ List.replicate m .dead))) :: bx' cap⟩) : W P C c Q σ := by
 intro a w hs
 obtain ⟨cap,h1,h2,h3⟩ := St.openB hb0 hl hna hu hl1 hna1 hu1 hne hid hs
 rw [hbx] at h3
 exact k cap _ h1 h2 rfl a w h3

theorem St.shutB {id id0 off z n cap m : Nat} {path : List Nat} {l : List D} {d0 d0' : D} {ids : List Nat} {bx' : List (Nat × Bx)} (hb0 : σ.box id0 = some (.var d0)) (hb : σ.box id = some (.var (.agg (l ++ List.replicate m .dead)))) (hii : id0 ≠ id)
 (hl : d0.loc path = some (off,.bs id z n cap)) (hna : d0.noArr path = true) (hu : d0.upd path (.sl none z l) = some d0') (hn : l.length = n)
 (hp : ∀ x ∈ l,x.pur = true) (hnp : ∀ x ∈ l,x.np = true) (hz : ∀ x ∈ l,x.sz = z) (hE : okEnvB ids σ.env = true) (hkeep : keepB ids (setb id0 (.var d0') σ.bx) = bx') (hoB : okBx ids bx' = true) (hid : memB ids id = false)
 (hpn : ∀ id b,C.pin id = some b → memB ids id = true) (hs : St C σ a w) : St C ⟨σ.n,σ.env,bx'⟩ a w := by
 subst hn
 obtain ⟨ρ,Fe,Fb,st⟩ := hs
 obtain ⟨cs,e0,F',q1,q2,q3⟩ := st.bx id0 _ hb0
 obtain ⟨csb,e1,F1,p1,p2,p3⟩ := st.bx id _ hb
 have hnd : (ρ id0 :: F').Nodup := by have := st.nodB id0; rw [q3] at this; exact this
 obtain ⟨hn1,hn2⟩ := List.nodup_cons.1 hnd
 have hbl : ∀ u,lk bx' u = if memB ids u then (if u = id0 then some (.var d0') else σ.box u) else none := fun u => by
  rw [← hkeep,lk_keepB]
  by_cases h1 : memB ids u = true
  · simp only [h1,if_true,lk_setb]
    by_cases h2 : u = id0
    · subst h2
      have : lk σ.bx u = some (.var d0) := hb0
      simp [this]
    · simp [h2]; rfl
  · simp [h1]
 have hLb : ∀ i,(memB ids i = true ∧ (σ.box i).isSome = true) → (lk bx' i).isSome = true := fun i ⟨h1,h2⟩ => by
  rw [hbl,if_pos h1]; by_cases h3 : i = id0 <;> simp [h3,h2]
 -- the block of box id may be read,and what box id0 holds
 let G0 : Nat → Prop := fun y => gd C Fe Fb y ∨ y = ρ id
 have hid_in : ρ id ∈ Fb id := by rw [p3]; simp
 obtain ⟨F5,u1,u2,u3⟩ := q2.loc hl
 have hval : ∃ v,(cs.toList.drop off).take 1 = [v] ∧ v = Value.slice (some ⟨ρ id,0,none⟩) l.length cap ∧ l.length ≤ cap := by
  generalize hcc : (cs.toList.drop off).take (D.bs id z l.length cap).sz = cc at u1
  cases u1 with
  | bs _ _ _ _ hL hc => exact ⟨_,hcc,rfl,hc⟩
 obtain ⟨v,hv1,hv2,hcap⟩ := hval
 subst hv2
 have hoff : off < cs.toList.length := by
  have : off + (D.bs id z l.length cap).sz ≤ cs.toList.length := u3
  simp [D.sz] at this; simp; omega
 have hv : cs.toList[off] = .slice (some ⟨ρ id,0,none⟩) l.length cap := by
  rw [List.drop_eq_getElem_cons hoff] at hv1
  simpa using hv1
 have hszl := szs_uni l hz
 have hclen : csb.toList.length = l.length * z + m := by rw [p2.len,sz_agg,szs_append,hszl,szs_dead]
 have hsl : Rc w ρ G0 (fun i => (σ.box i).isSome = true) true (.sl none z l) [.slice (some ⟨ρ id,0,none⟩) l.length cap] [] := by
  refine .slI (ρ id) 0 csb e1 (0,0) cap z l p1 (.inr rfl) hcap (by simp at hclen; omega) (fun i hi => ?_)
  generalize hdd : D.agg (l ++ List.replicate m D.dead) = dd at p2
  generalize hcl : csb.toList = cl at p2
  cases p2 with
  | agg l0 _ Fs hs hr =>
   cases hdd
   have hi' : i < (l ++ List.replicate m D.dead).length := by simp; omega
   have h1 := hr i hi'
   rw [List.getElem_append_left hi] at h1
   rw [offk_uni l _ hz i (by omega),hz _ (List.getElem_mem hi)] at h1
   have h2 := h1.pur (hp _ (List.getElem_mem hi))
   rw [h2] at h1
   rw [Nat.zero_add]
   exact (h1.unflag (hnp _ (List.getElem_mem hi))).mono (fun _ _ _ => rfl) (fun y hy _ => .inl hy) (fun i hi => ⟨hi,rfl⟩)
  | _ => cases hdd
 obtain ⟨F4,r1,r2,r3,_,_⟩ := (q2.mono (G' := G0) (fun _ _ _ => rfl) (fun y hy _ => .inl hy) (fun i hi => ⟨hi,rfl⟩)).updP hl hu rfl hsl hn2 List.nodup_nil (by simp) hna
 have hcs : cs.toList.take off ++ [Value.slice (some ⟨ρ id,0,none⟩) l.length cap] ++ cs.toList.drop (off + 1) = cs.toList := by
  rw [← hv,List.append_assoc,List.singleton_append,← List.drop_eq_getElem_cons hoff,List.take_append_drop]
 simp only [List.length_singleton] at r1
 rw [hcs] at r1
 have r2' : ∀ y ∈ F4,y ∈ F' := fun y hy => (r2 y hy).resolve_right (by simp)
 let Fb' : Nat → List Nat := fun i => if memB ids i then (if i = id0 then ρ id0 :: F4 else Fb i) else []
 have hsub : ∀ i,∀ y ∈ Fb' i,memB ids i = true ∧ y ∈ Fb i := fun i y hy => by
  by_cases h1 : memB ids i = true
  · refine ⟨h1, ?_⟩
    simp only [Fb',h1,if_true] at hy
    by_cases h2 : i = id0
    · subst h2
      simp only [if_true] at hy
      rw [q3]
      rcases List.mem_cons.1 hy with rfl | hy
      · simp
      · exact List.mem_cons_of_mem _ (r2' y hy)
    · simpa [h2] using hy
  · simp [Fb',h1] at hy
 have hown : ∀ y,own Fe Fb' y → own Fe Fb y := fun y hy => hy.imp (fun h => h) fun ⟨i,hi⟩ => ⟨i,(hsub i y hi).2⟩
 have hg : ∀ y,gd C Fe Fb y → gd C Fe Fb' y := fun y hy => ⟨hy.1,fun hc => hy.2 (hown y hc)⟩
 have hgb : gd C Fe Fb' (ρ id) := ⟨st.okO _ (.inr ⟨id,hid_in⟩),by
  rintro (⟨u,hu'⟩ | ⟨i,hi⟩)
  · exact st.dEB u id _ hu' hid_in
  · obtain ⟨h1,h2⟩ := hsub i _ hi
    have : i ≠ id := by rintro rfl; rw [hid] at h1; cases h1
    exact st.dBB i id this _ h2 hid_in⟩
 have hg0 : ∀ y,G0 y → gd C Fe Fb' y := fun y hy => hy.elim (hg y) (fun e => e ▸ hgb)
 refine ⟨ρ,Fe,Fb',{
  size := st.size
  defs := st.defs
  pin := fun i y hp => ⟨(st.pin i y hp).1,hLb i ⟨hpn i y hp,(st.pin i y hp).2⟩⟩
  env := fun u d hd => (st.env u d hd).okB (okEnvB_get hE hd) (fun y hy _ => hg y hy) hLb
  envN := st.envN
  bx := fun i x hx => ?_
  bxN := fun i hx => ?_
  nodE := st.nodE
  nodB := fun i => ?_
  dEE := st.dEE
  dEB := fun u i y h1 h2 => st.dEB u i y h1 (hsub i y h2).2
  dBB := fun i i' hne y h1 h2 => st.dBB i i' hne y (hsub i y h1).2 (hsub i' y h2).2
  new := fun y hy => st.new y (hown y hy)
  kept := st.kept
  os := st.os
  tape := st.tape
  output := st.output
  grown := st.grown
  gl := st.gl
  okN := st.okN
  okO := fun y hy => st.okO y (hown y hy) }⟩
 · obtain ⟨x,rfl,hok⟩ := okBx_get hoB hx
   have h1 := hbl i
   rw [show lk bx' i = some (.var x) from hx] at h1
   by_cases hm : memB ids i = true
   · rw [if_pos hm] at h1
     by_cases h2 : i = id0
     · subst h2
       simp only [if_true,Option.some.injEq,Bx.var.injEq] at h1
       subst h1
       exact ⟨cs,e0,F4,q1,(r1.okB hok).mono (fun _ _ _ => rfl) (fun y hy _ => hg0 y hy) (fun j hj => ⟨hLb j hj,rfl⟩),by simp only [Fb',hm,if_true]⟩
     · simp only [h2,if_false] at h1
       obtain ⟨cs',e',F'',h3,h4,h5⟩ := st.bx i _ h1.symm
       exact ⟨cs',e',F'',h3,(h4.okB hok).mono (fun _ _ _ => rfl) (fun y hy _ => hg y hy) (fun j hj => ⟨hLb j hj,rfl⟩),by simp only [Fb',hm,h2,if_true,if_false]; exact h5⟩
   · rw [if_neg hm] at h1; cases h1
 · have h1 := hbl i
   rw [show lk bx' i = none from hx] at h1
   by_cases hm : memB ids i = true
   · rw [if_pos hm] at h1
     by_cases h2 : i = id0
     · simp [h2] at h1
     · simp only [h2,if_false] at h1
       simp only [Fb',hm,h2,if_true,if_false]
       exact st.bxN i h1.symm
   · simp [Fb',hm]
 · by_cases hm : memB ids i = true
   · simp only [Fb',hm,if_true]
     by_cases h2 : i = id0
     · subst h2; simp only [if_true]; exact List.nodup_cons.2 ⟨fun h => hn1 (r2' _ h),r3⟩
     · simp only [h2,if_false]; exact st.nodB i
   · simp [Fb',hm]
theorem W.shutB {c : Code} {Q : Exit → Sg → Prop} (id id0 : Nat) (path : List Nat) (ids : List Nat) {off z n cap m : Nat} {l : List D} {d0 d0' : D} {bx' : List (Nat × Bx)} (hb0 : σ.box id0 = some (.var d0)) (hb : σ.box id = some (.var (.agg (l ++ List.replicate m .dead)))) (hii : id0 ≠ id)
 (hl : d0.loc path = some (off,.bs id z n cap)) (hna : d0.noArr path = true) (hu : d0.upd path (.sl none z l) = some d0') (hn : l.length = n)
 (hp : ∀ x ∈ l,x.pur = true) (hnp : ∀ x ∈ l,x.np = true) (hz : ∀ x ∈ l,x.sz = z) (hE : okEnvB ids σ.env = true) (hkeep : keepB ids (setb id0 (.var d0') σ.bx) = bx') (hoB : okBx ids bx' = true) (hid : memB ids id = false)
 (hpn : ∀ id b,C.pin id = some b → memB ids id = true) (k : W P C c Q ⟨σ.n,σ.env,bx'⟩) : W P C c Q σ :=
 fun a w hs => k a w (St.shutB hb0 hb hii hl hna hu hn hp hnp hz hE hkeep hoB hid hpn hs)
end Go.Sx
