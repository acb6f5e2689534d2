/-
 Own library: ranges over functions,the function that is ranged over.
-/
import Derived.Test.YthhliikibffhjaaDoorMSxOwn
import Derived.RangeFuncIn
import Derived.RangeFuncRecord
import Derived.RangeFuncLeaves
set_option linter.unusedVariables false
set_option linter.unusedSimpArgs false
set_option linter.unnecessarySimpa false

namespace Go.Sx

variable {P : Program} {C : Ctx} {σ σ' σ1 : Sg} {a : Act} {w w' : World} {ρ : Nat → Nat} {Fe Fe' Fb : Nat → List Nat}

def Fr (rd : Option Nat) : Fence := { Fence.wide with round := rd }
def V (P : Program) (rd : Option Nat) {ι : Type} (A : ι → Act → World → Prop) (c : Code) (Q : Exit → ι → Prop) (i : ι) : Prop :=
 ∀ a w,A i a w → c.wpIn (Fr rd) 3 P (fun e a' w' => ∃ j,A j a' w' ∧ Q e j) a w
def VL (P : Program) (rd : Option Nat) {ι : Type} (A : ι → Act → World → Prop) (ops : Array Oper) (l : List Oper) (Q : Exit → ι → Prop) (i : ι) : Prop :=
 ∀ a w,A i a w → wpListIn (Fr rd) 3 P ops (fun e a' w' => ∃ j,A j a' w' ∧ Q e j) l a w

section
variable {rd : Option Nat} {ι : Type} {A : ι → Act → World → Prop} {Q : Exit → ι → Prop} {i : ι}
theorem V.region {id : Nat} {l : List Oper} (h : VL P rd A l.toArray l Q i) : V P rd A (.region id l.toArray false) Q i := fun a w hs => wpIn_region_lit (h a w hs)
theorem V.seq {x y : Code} (h : V P rd A x (fun e s => match e with | .normal => V P rd A y Q s | e => Q e s) i) : V P rd A (.seq x y) Q i := by
 intro a w hs
 refine wpIn_seq ?_
 refine Go.Code.wpIn_mono ?_ (h a w hs)
 intro e a' w' ⟨s,hs',hq⟩
 cases e <;> first | exact hq a' w' hs' | exact ⟨s,hs',hq⟩
theorem V.label {l : Nat} (h : Q .normal i) : V P rd A (.label l) Q i := fun a w hs => wpIn_label ⟨i,hs,h⟩
theorem V.block {id : Nat} {c : Code} (h : V P rd A c (fun e s => match e with | .exit j => if j = id then Q .normal s else Q (.exit j) s | e => Q e s) i) : V P rd A (.block id c) Q i := by
 intro a w hs
 refine wpIn_block ?_
 refine Go.Code.wpIn_mono ?_ (h a w hs)
 intro e a' w' ⟨s,hs',hq⟩
 cases e with
 | exit j =>
  simp only [Exit.inBlock]
  split
  · rename_i hi; exact ⟨s,hs',by simpa [hi] using hq⟩
  · rename_i hi; exact ⟨s,hs',by simpa [hi] using hq⟩
 | _ => exact ⟨s,hs',hq⟩
theorem V.loop {α : Type} {c : Code} (I : α → ι) (μ : α → Nat) (x0 : α) (h0 : i = I x0)
 (h : ∀ x,V P rd A c (fun e s => match e with | .normal => ∃ y,s = I y ∧ μ y < μ x | e => Q e s) (I x)) : V P rd A (.loop c) Q i := by
 subst h0
 intro a w hs b k cs hro hbf hr
 have key : ∀ n x a w,μ x = n → A (I x) a w →
  ∃ e a' w',(∃ s,A s a' w' ∧ Q e s) ∧ ArrivesIn (Machine.fenced P (Fr rd)) P (lone (b.atR a (.code c :: .inLoop c :: k)) cs w) b k cs e a' w' := by
  intro n
  induction n using Nat.strongRecOn with
  | _ n ih =>
   intro x a w hx hs
   obtain ⟨e,a₁,w₁,⟨s,hs1,hq⟩,harr⟩ := h x a w hs b (.inLoop c :: k) cs hro hbf hr
   cases e with
   | normal =>
    obtain ⟨y,rfl,hlt⟩ := hq
    obtain ⟨e₂,a₂,w₂,hq₂,harr₂⟩ := ih (μ y) (hx ▸ hlt) y a₁ w₁ rfl hs1
    exact ⟨e₂,a₂,w₂,hq₂,.of_steps (StepsIn.trans harr (.one (fenced_calm hbf hr rfl) stepR_inLoop)) harr₂⟩
   | exit id => exact ⟨_,a₁,w₁,⟨s,hs1,hq⟩,.pass (x := .inLoop c) rfl (fun _ _ => .inl (by simp)) harr⟩
   | goto l => exact ⟨_,a₁,w₁,⟨s,hs1,hq⟩,.pass (x := .inLoop c) rfl (fun _ _ => .inl (by simp)) harr⟩
   | ret => exact ⟨_,a₁,w₁,⟨s,hs1,hq⟩,.pass (x := .inLoop c) rfl (fun _ _ => .inl (by simp)) harr⟩
   | panic ch => exact ⟨_,a₁,w₁,⟨s,hs1,hq⟩,.pass (x := .inLoop c) rfl (fun _ _ => .inl (by simp)) harr⟩
   | outgrown => exact ⟨_,a₁,w₁,⟨s,hs1,hq⟩,.pass (x := .inLoop c) rfl (fun _ _ => .inl (by simp)) harr⟩
 obtain ⟨e,a',w',hq,harr⟩ := key _ x0 a w rfl hs
 exact ⟨e,a',w',hq,.of_steps (.one (fenced_calm hbf hr rfl) stepR_loop) harr⟩
end

theorem SR_keepR {G G' L : Nat → Prop} {u : Nat} {d : D} {F : List Nat} (h : SR w ρ G L a u d F)
 (hh : ∀ b,(G b ∨ b ∈ F) → b < w.heap.size → w'.heap[b]? = w.heap[b]?) (hg : ∀ b,G b → b < w.heap.size → G' b)
 (hc : ∀ i,L i → ρ i < w.heap.size → w'.heap[ρ i]? = w.heap[ρ i]?) : SR w' ρ G' L a u d F := by
 have hL2 : ∀ i,L i → L i ∧ ρ i = ρ i := fun i hi => ⟨hi,rfl⟩
 cases d with
 | al s => exact h
 | alb i off path =>
  obtain ⟨hF,hid,x,hx,hs⟩ := h
  exact ⟨hF,hid,x,hx,by rw [← hs]; exact World.cell?_of_block (hc i hid (block_lt_of_cell hs))⟩
 | vw s z lo n => exact h
 | va i off z n path lo => exact h
 | ep s z i off path => exact h
 | tup ds =>
  obtain ⟨vs,Fs,h1,h2,h3,h4⟩ := h
  refine ⟨vs,Fs,h1,h2,h3,fun k hk => (h4 k hk).imp (fun hx => hx) fun hx => ⟨hx.1,hx.2.mono (fun b hb => hh b (hb.imp (fun hx => hx) fun hm => ?_)) hg hL2⟩⟩
  rw [h3]; exact List.mem_flatMap.2 ⟨k,List.mem_range.2 hk,hm⟩
 | dead => exact h
 | _ => obtain ⟨x,hx,hr⟩ := h; exact ⟨x,hx,hr.mono hh hg hL2⟩

theorem StW.rebase (st : StW C σ a w ρ Fe Fb) (C' : Ctx) (hpin : C'.pin = C.pin) (hdf : C'.df = C.df)
 (hsame : ∀ b,(gd C Fe Fb b ∨ own Fe Fb b) → b < w.heap.size → w'.heap[b]? = w.heap[b]?) (hok : ∀ b,gd C Fe Fb b → b < w.heap.size → C'.ok b)
 (hnew : ∀ b,own Fe Fb b → ¬ C'.keep b) (hkept : ∀ b,C'.keep b → w'.heap[b]? = C'.w0.heap[b]? ∧ b < C'.w0.heap.size)
 (hos : w'.os = C'.w0.os) (htape : w'.tape = C'.w0.tape) (hout : w'.output = C'.w0.output) (hgrown : C'.w0.heap.size ≤ w'.heap.size)
 (hgl : ∀ g d,(g,d) ∈ C'.gl → C'.keep g ∧ C'.ok g ∧ ∃ cs e fz,C'.w0.heap[g]? = some (.cells cs e fz) ∧ Rc C'.w0 (fun x => x) (fun _ => False) (fun _ => False) false d cs.toList [])
 (hokN : ∀ b,w'.heap.size ≤ b → C'.ok b) (hokO : ∀ b,own Fe Fb b → C'.ok b) : StW C' σ a w' ρ Fe Fb := by
 have hlt := st.lt
 have hg : ∀ b,gd C Fe Fb b → b < w.heap.size → gd C' Fe Fb b := fun b hb hl => ⟨hok b hb hl,hb.2⟩
 refine { size := st.size,defs := by rw [hdf]; exact st.defs,pin := by rw [hpin]; exact st.pin,env := ?_,envN := st.envN,bx := ?_,bxN := st.bxN,nodE := st.nodE,nodB := st.nodB,dEE := st.dEE,dEB := st.dEB,dBB := st.dBB,new := hnew,kept := hkept,os := hos,tape := htape,output := hout,grown := hgrown,gl := hgl,okN := hokN,okO := hokO }
 · intro t d hd
   refine SR_keepR (st.env t d hd) (fun b hb hl => hsame b (hb.imp (fun h => h) (fun h => .inl ⟨t,h⟩)) hl) hg (fun i hi hl => ?_)
   cases hbx : σ.box i with
   | none => simp [hbx] at hi
   | some x => exact hsame _ (.inr (.inr ⟨i,(st.bx i x hbx).mem⟩)) hl
 · intro id x hx
   exact (st.bx id x hx).mono (fun b hb hl => hsame b (hb.imp (fun h => h) (fun h => .inr ⟨id,h⟩)) hl) hg (fun i hi => ⟨hi,rfl⟩)

abbrev Yt := Nat → Bool → (Nat → Prop) → World → Prop
structure Apart (O O' : Nat → Prop) (w w' : World) : Prop where
 same : ∀ b,b < w.heap.size → ¬ O b → w'.heap[b]? = w.heap[b]?
 size : w.heap.size ≤ w'.heap.size
 sub : ∀ b,O' b → O b ∨ w.heap.size ≤ b
 lt : ∀ b,O' b → b < w'.heap.size
 os : w'.os = w.os
 tape : w'.tape = w.tape
 output : w'.output = w.output
def Stable (Y : Yt) : Prop := ∀ k s O O' w w',Y k s O w → Apart O O' w w' → Y k s O' w'

def YieldTo (P : Program) (l : Nat) (v : Value) (w : World) (R : World → Bool → Prop) : Prop :=
 ∃ f tmps assign body,(Instr.yield l #[v]).run P w = .ok (.round l f tmps assign body) w ∧
  RoundIn (Fr none) 2 P l f tmps assign body w (fun e w' => ∃ s,e = .returned (.bool (!s)) ∧ R w' s)

structure Rnd (Y : Yt) (G O : Nat → Prop) (k : Nat) (w w' : World) (s : Bool) : Prop where
 y : Y (k + 1) s O w'
 same : ∀ b,(G b ∨ O b) → b < w.heap.size → w'.heap[b]? = w.heap[b]?
 size : w.heap.size ≤ w'.heap.size

def Itr (P : Program) (gl : List (Nat × D)) (f : FuncId) (caps : List D) (xs : List D) : Prop :=
 ∀ (w : World) (G : Nat → Prop) (vs : List Value) (l : Nat) (Y : Yt),
  (∀ b,G b → b < w.heap.size) →
  (∀ g d,(g,d) ∈ gl → G g ∧ ∃ cs e fz,w.heap[g]? = some (.cells cs e fz) ∧ Rc w (fun x => x) (fun _ => False) (fun _ => False) false d cs.toList []) →
  vs.length = caps.length → (∀ k (h : k < caps.length),VR w (fun x => x) G (fun _ => False) caps[k] (vs.getD k undef) []) →
  Stable Y →
  (∀ k O w v,(h : k < xs.length) → Y k false O w → (∀ b,O b → b < w.heap.size) → VR w (fun x => x) (fun b => G b ∨ O b) (fun _ => False) xs[k] v [] → YieldTo P l v w (Rnd Y G O k w)) →
  Y 0 false (fun _ => False) w →
  Calls P f (#[.func (.yield l) #[] #[]] ++ vs.toArray) w (fun e w' => (∃ v,e = .returned v) ∧ ∃ k s O,Y k s O w' ∧ (s = true ∨ k = xs.length))

structure Rel (gl : List (Nat × D)) (κ : Type) where
 r : κ → Ctx → Prop
 gl : ∀ {m C},r m C → C.gl = gl
 rd : ∀ {m C},r m C → C.rd = none
 pin : ∀ {m C},r m C → ∀ id,C.pin id = none
def AM {gl : List (Nat × D)} {κ : Type} (R : Rel gl κ) (i : κ × Sg) (a : Act) (w : World) : Prop := ∃ C : Ctx,R.r i.1 C ∧ St C i.2 a w

section
variable {gl : List (Nat × D)} {κ : Type} {R : Rel gl κ} {m : κ}
theorem V.of {c : Code} {Q : Exit → κ × Sg → Prop} (h : ∀ C : Ctx,C.gl = gl → (∀ id b,C.pin id = some b → memN [] id = true) → W P C c (fun e σ' => Q e (m,σ')) σ) : V P none (AM R) c Q (m,σ) := by
 intro a w ⟨C,hC,hs⟩
 have hF : Fx C = Fr none := by unfold Fx Fr; rw [R.rd hC]
 have := h C (R.gl hC) (fun id b hp => by rw [R.pin hC] at hp; cases hp) a w hs
 rw [hF] at this
 exact Go.Code.wpIn_mono (fun e a' w' ⟨σ',hs,hq⟩ => ⟨(m,σ'),⟨C,hC,hs⟩,hq⟩) this
theorem V.wk {c : Code} {Q : Exit → κ × Sg → Prop} (h : ∀ C : Ctx,C.gl = gl → (∀ id b,C.pin id = some b → memN [] id = true) → ∀ a w,St C σ a w → St C σ' a w) (k : V P none (AM R) c Q (m,σ')) : V P none (AM R) c Q (m,σ) := by
 intro a w ⟨C,hC,hs⟩
 exact k a w ⟨C,hC,h C (R.gl hC) (fun id b hp => by rw [R.pin hC] at hp; cases hp) a w hs⟩
theorem VL.step {ops : Array Oper} {o : Oper} {l : List Oper} {Q : Exit → κ × Sg → Prop} (hg : o.guard = none) (h : ∀ C : Ctx,C.gl = gl → OpS P C o σ σ') (kk : VL P none (AM R) ops l Q (m,σ')) : VL P none (AM R) ops (o :: l) Q (m,σ) := by
 intro a w ⟨C,hC,hs⟩
 have hF : Fx C = Fr none := by unfold Fx Fr; rw [R.rd hC]
 refine wpListIn_plain hg fun K hK => ?_
 have := h C (R.gl hC) a w hs K (fun e a' w' => ∃ j,AM R j a' w' ∧ Q e j) (fun a' w' hs' => hK a' w' (kk a' w' ⟨C,hC,hs'⟩))
 rw [hF] at this
 exact this
theorem VL.stepG {ops : List Oper} {o : Oper} {l : List Oper} {Q : Exit → κ × Sg → Prop} (hw : Wt ops σ.get o true) (h : ∀ C : Ctx,C.gl = gl → OpS P C o σ σ') (kk : VL P none (AM R) ops.toArray l Q (m,σ')) :
 VL P none (AM R) ops.toArray (o :: l) Q (m,σ) := by
 intro a w ⟨C,hC,hs⟩
 have hF : Fx C = Fr none := by unfold Fx Fr; rw [R.rd hC]
 simp only [wpListIn,hw.ok hs (fun _ _ h => h),if_true]
 have := h C (R.gl hC) a w hs (wpListIn (Fr none) 3 P ops.toArray (fun e a' w' => ∃ j,AM R j a' w' ∧ Q e j) l) (fun e a' w' => ∃ j,AM R j a' w' ∧ Q e j)
  (fun a' w' hs' => kk a' w' ⟨C,hC,hs'⟩)
 rw [hF] at this
 exact this
theorem VL.stepU {ops : List Oper} {o : Oper} {l : List Oper} {Q : Exit → κ × Sg → Prop} {t : Nat} (hw : Wt ops σ.get o false) (hd : o.dst = some t) (ht : t < σ.n) (kk : VL P none (AM R) ops.toArray l Q (m,σ.set t (.tup []))) :
 VL P none (AM R) ops.toArray (o :: l) Q (m,σ) := by
 intro a w ⟨C,hC,hs⟩
 simp only [wpListIn,hw.ok hs (fun _ _ h => h),Bool.false_eq_true,if_false]
 rw [hd]
 exact ⟨fun _ _ => trivial,kk _ _ ⟨C,hC,hs.unwanted ht⟩⟩
theorem VL.nil {ops : Array Oper} {Q : Exit → κ × Sg → Prop} (h : Q .normal (m,σ)) : VL P none (AM R) ops [] Q (m,σ) := fun a w hs => ⟨_,hs,h⟩
end

def relI (gl : List (Nat × D)) (G : Nat → Prop) (Y : Yt) : Rel gl (Nat × Bool) where
 r i C := C.gl = gl ∧ C.rd = none ∧ C.df = [] ∧ (∀ id,C.pin id = none) ∧ ∃ O : Nat → Prop,(∀ b,C.keep b ↔ b < C.w0.heap.size ∧ ¬ O b) ∧ (∀ b,C.ok b ↔ G b ∨ O b ∨ C.w0.heap.size ≤ b) ∧
  (∀ b,G b → b < C.w0.heap.size ∧ ¬ O b) ∧ (∀ b,O b → b < C.w0.heap.size) ∧ Y i.1 i.2 O C.w0
 gl h := h.1
 rd h := h.2.1
 pin h := h.2.2.2.1

section
variable {gl : List (Nat × D)} {G : Nat → Prop} {Y : Yt} {k : Nat} {s : Bool}
theorem VL.yield {ops : Array Oper} {l : List Oper} {Q : Exit → (Nat × Bool) × Sg → Prop} {y t lo : Nat} {x : Operand} {d : D} {xs : List D} {tys : Array TypeId} {rt : TypeId} {pos : String} {aft : Array Edge}
 (hY : Stable Y) (hyl : ∀ k O w v,(h : k < xs.length) → Y k false O w → (∀ b,O b → b < w.heap.size) → VR w (fun x => x) (fun b => G b ∨ O b) (fun _ => False) xs[k] v [] → YieldTo P lo v w (Rnd Y G O k w))
 (hg : σ.get y = some (.yld lo)) (hx : ev gl σ x = some d) (hp : d.pur = true) (hn : d.np = true) (hk : k < xs.length) (hd : xs[k] = d) (ht : t < σ.n)
 (kk : ∀ s,VL P none (AM (relI gl G Y)) ops l Q ((k + 1,s),σ.set t (.bool (!s)))) :
 VL P none (AM (relI gl G Y)) ops (⟨some t,.call { callee := .value (.tmp y),args := #[x],argTypes := tys },rt,pos,aft,none⟩ :: l) Q ((k,false),σ) := by
 intro a w ⟨C,⟨h1,h2,h3,h4,O,hkeep,hok,hG,hO,hYk⟩,ρ,Fe,Fb,st⟩
 refine wpListIn_plain rfl fun K hK => ?_
 obtain ⟨vy,hvy,hry⟩ := (SR_plain rfl).1 (st.env y _ hg)
 simp only [VR,D.isAgg,Bool.false_eq_true,if_false] at hry
 generalize Fe y = Fy at hry
 cases hry
 -- what it owns by now
 let O' : Nat → Prop := fun b => (O b ∨ C.w0.heap.size ≤ b) ∧ b < w.heap.size
 have hap : Apart O O' C.w0 w := {
  same := fun b hb hn => (st.kept b ((hkeep b).2 ⟨hb,hn⟩)).1
  size := st.grown
  sub := fun b hb => hb.1
  lt := fun b hb => hb.2
  os := st.os
  tape := st.tape
  output := st.output }
 have hY1 : Y k false O' w := hY _ _ _ _ _ _ hYk hap
 have hlt := st.lt
 have hownO : ∀ b,own Fe Fb b → O' b := fun b hb => by
  refine ⟨?_,hlt b hb⟩
  by_cases h0 : C.w0.heap.size ≤ b
  · exact .inr h0
  · left
    by_cases hOb : O b
    · exact hOb
    · exact absurd ((hkeep b).2 ⟨by omega,hOb⟩) (st.new b hb)
 have hgdO : ∀ b,gd C Fe Fb b → b < w.heap.size → G b ∨ O' b := fun b hb hl => by
  rcases (hok b).1 hb.1 with h | h | h
  · exact .inl h
  · exact .inr ⟨.inl h,hl⟩
  · exact .inr ⟨.inr h,hl⟩
 have hv : VR w (fun x => x) (fun b => G b ∨ O' b) (fun _ => False) xs[k] (a.eval x) [] := by
  rw [hd]
  obtain ⟨F,hvx,_⟩ := ev_ok st (by rw [h1]; exact hx) (pur_ref hp)
  have hFx := hvx.pur hp
  subst hFx
  exact (hvx.noL (ρ' := fun x => x) (L' := fun _ => False) hn).mono (fun _ _ _ => rfl) hgdO (fun _ h => h.elim)
 obtain ⟨f,tmps,assign,body,hrun,hround⟩ := hyl k O' w (a.eval x) hk hY1 (fun b hb => hb.2) hv
 have hexec : (execOp a.eval ⟨some t,.call { callee := .value (.tmp y),args := #[x],argTypes := tys },rt,pos,aft,none⟩).run P w = .ok (.round lo f tmps assign body) w := by
  unfold execOp
  simp [resolve,eval_tmp hvy,Deferred.ofValue,invoke,hrun]
 have hF : Fx C = Fr none := by unfold Fx Fr; rw [h2]
 have hgoal : Oper.wpIn (Fx C) 3 P ⟨some t,.call { callee := .value (.tmp y),args := #[x],argTypes := tys },rt,pos,aft,none⟩ a w K (fun e a' w' => ∃ j,AM (relI gl G Y) j a' w' ∧ Q e j) := by
  refine wpIn_of_run hexec (by simp) ?_
  rw [Oper.uponIn_round,hF]
  refine ⟨(fun h => by cases h),hround.mono fun e w' ⟨s',he,hr⟩ => ?_⟩
  subst he
  refine hK _ _ (kk s' _ _ ?_)
  let C' : Ctx := ⟨w',fun b => b < w'.heap.size ∧ ¬ O' b,fun b => G b ∨ O' b ∨ w'.heap.size ≤ b,gl,none,C.pin,C.df⟩
  have hGs : ∀ b,G b → b < w.heap.size := fun b hb => Nat.lt_of_lt_of_le (hG b hb).1 st.grown
  have hGO : ∀ b,G b → ¬ O' b := fun b hb hc => by
   rcases hc.1 with h | h
   · exact (hG b hb).2 h
   · have := (hG b hb).1; omega
  have hgd2 : ∀ b,(gd C Fe Fb b ∨ own Fe Fb b) → b < w.heap.size → w'.heap[b]? = w.heap[b]? := fun b hb hl => hr.same b (hb.elim (fun h => hgdO b h hl) (fun h => .inr (hownO b h))) hl
  have st' : StW C' σ a w' ρ Fe Fb := st.rebase C' rfl rfl hgd2 (fun b hb hl => (hgdO b hb hl).imp (fun h => h) (fun h => .inl h)) (fun b hb hc => hc.2 (hownO b hb)) (fun b hb => ⟨rfl,hb.1⟩) rfl rfl rfl (Nat.le_refl _)
   (fun g d hgd => by
    obtain ⟨q1,q2,cs,e,fz,q3,q4⟩ := st.gl g d (by rw [h1]; exact hgd)
    have q1' := (hkeep g).1 q1
    have hGg : G g := by
     rcases (hok g).1 q2 with h | h | h
     · exact h
     · exact absurd h q1'.2
     · omega
    have hsz : g < w.heap.size := hGs g hGg
    refine ⟨⟨Nat.lt_of_lt_of_le hsz hr.size,hGO g hGg⟩,.inl hGg,cs,e,fz, ?_,q4.mono (fun b hb => ?_) (fun _ h => h.elim) (fun _ h => h.elim)⟩
    · show w'.heap[g]? = _
      rw [hr.same g (.inl hGg) hsz,(st.kept g q1).1,q3]
    · rcases hb with hb | hb
      · exact hb.elim
      · cases hb)
   (fun b hb => .inr (.inr hb)) (fun b hb => .inr (.inl (hownO b hb)))
  refine ⟨C',⟨rfl,rfl,h3,h4,O',fun b => Iff.rfl,fun b => Iff.rfl,fun b hb => ⟨Nat.lt_of_lt_of_le (hGs b hb) hr.size,hGO b hb⟩,fun b hb => Nat.lt_of_lt_of_le hb.2 hr.size,hr.y⟩, ?_⟩
  exact st'.put ht rfl (by simp only [VR,D.isAgg,Bool.false_eq_true,if_false]; exact .bool _)
 rw [hF] at hgoal
 exact hgoal
end

theorem Itr.of {gl : List (Nat × D)} {f : FuncId} {fn : Func} {c : Code} {caps xs : List D} {n : Nat} (hf : P.funcs[f]? = some fn) (hb : fn.body = some c) (hnn : fn.ntmps = n) (hres : fn.results = #[])
 (hd : caps.all (fun d => !d.isRef) = true) (hn : caps.length + 1 ≤ n)
 (h : ∀ (G : Nat → Prop) (Y : Yt) (l : Nat),Stable Y → (∀ k O w v,(h : k < xs.length) → Y k false O w → (∀ b,O b → b < w.heap.size) → VR w (fun x => x) (fun b => G b ∨ O b) (fun _ => False) xs[k] v [] → YieldTo P l v w (Rnd Y G O k w)) →
  V P none (AM (relI gl G Y)) c (fun e i => (e = .normal ∨ e = .ret) ∧ (i.1.2 = true ∨ i.1.1 = xs.length)) ((0,false),⟨n,ini 0 (.yld l :: caps),[]⟩)) : Itr P gl f caps xs := by
 subst hnn
 intro w G vs l Y hG hgl hl hv hY hyl h0
 refine calls_of_wp hf hb ?_
 let C : Ctx := ⟨w,fun b => b < w.heap.size ∧ ¬ False,fun b => G b ∨ False ∨ w.heap.size ≤ b,gl,none,fun _ => none,[]⟩
 let ds : List D := .yld l :: caps
 have hget : ∀ t d,(⟨fn.ntmps,ini 0 ds,[]⟩ : Sg).get t = some d → ∃ h : t < ds.length,ds[t] = d := by
  intro t d hd
  simp only [Sg.get,lk_ini,Nat.zero_le,if_true,Nat.sub_zero] at hd
  obtain ⟨h,e⟩ := List.getElem?_eq_some_iff.1 hd
  exact ⟨h,e⟩
 have hown : ∀ b,¬ own (fun _ => []) (fun _ => []) b := by rintro b (⟨_,h⟩ | ⟨_,h⟩) <;> cases h
 have st : StW C ⟨fn.ntmps,ini 0 ds,[]⟩ { tmps := (#[Value.func (.yield l) #[] #[]] ++ vs.toArray) ++ Array.replicate (fn.ntmps - (#[Value.func (.yield l) #[] #[]] ++ vs.toArray).size) undef,defers := [] } w (fun x => x) (fun _ => []) (fun _ => []) := by
  refine ⟨?_,rfl,(fun _ _ hp => by cases hp), ?_,fun _ _ => rfl, ?_,fun _ _ => rfl,fun _ => List.nodup_nil,fun _ => List.nodup_nil,(fun _ _ _ _ h => by cases h),(fun _ _ _ h => by cases h),(fun _ _ _ _ h => by cases h),fun b hb => absurd hb (hown b), ?_,rfl,rfl,rfl,Nat.le_refl _, ?_,fun b hb => .inr (.inr hb),fun b hb => absurd hb (hown b)⟩
  · simp [hl]; omega
  · intro t d hd'
    obtain ⟨ht,rfl⟩ := hget t d hd'
    cases t with
    | zero =>
     refine (SR_plain rfl).2 ⟨.func (.yield l) #[] #[], ?_, ?_⟩
     · rw [Array.getElem?_append_left (by simp)]
       simp
     · show VR w _ _ _ (D.yld l) _ _
       simp only [VR,D.isAgg,Bool.false_eq_true,if_false]
       exact .yld l
    | succ t =>
     have ht' : t < caps.length := by simpa [ds] using ht
     have hr : caps[t].isRef = false := by
      have := List.all_eq_true.1 hd caps[t] (List.getElem_mem ht')
      simpa using this
     refine (SR_plain hr).2 ⟨vs.getD t undef, ?_,(hv t ht').mono (fun _ _ _ => rfl) (fun b hb _ => ⟨.inl hb,hown b⟩) (fun id hid => hid.elim)⟩
     have htv : t < vs.length := by omega
     rw [Array.getElem?_append_left (by simp; omega)]
     simp [htv,Array.getElem?_append]
  · intro id d hd'; cases hd'
  · intro b hb; exact ⟨rfl,hb.1⟩
  · intro g d hg
    obtain ⟨h1,cs,e,fz,h2,h3⟩ := hgl g d hg
    exact ⟨⟨(Array.getElem?_eq_some_iff.1 h2).1,fun h => h⟩,.inl h1,cs,e,fz,h2,h3⟩
 have hAI : AM (relI gl G Y) ((0,false),⟨fn.ntmps,ini 0 ds,[]⟩) { tmps := (#[Value.func (.yield l) #[] #[]] ++ vs.toArray) ++ Array.replicate (fn.ntmps - (#[Value.func (.yield l) #[] #[]] ++ vs.toArray).size) undef,defers := [] } w :=
  ⟨C,⟨rfl,rfl,rfl,fun _ => rfl,fun _ => False,fun _ => Iff.rfl,fun _ => Iff.rfl,fun b hb => ⟨hG b hb,fun h => h⟩,fun b hb => hb.elim,h0⟩,_,_,_,st⟩
 refine Go.Code.wp_mono ?_ (wpIn_wide.1 (h G Y l hY hyl _ w hAI))
 rintro e a' w' ⟨⟨⟨k,s⟩,σ'⟩,⟨C',⟨h1,h2,h3,h4,O,hkeep,hok,hG',hO,hYk⟩,ρ,Fe,Fb,st'⟩,he,hend⟩
 have hrun := results_run (P := P) (tmps := a'.tmps) (rs := []) (fn := fn) (by rw [hres]) (fun _ => undef) w' (fun k hk => absurd hk (Nat.not_lt_zero _))
 let O' : Nat → Prop := fun b => (O b ∨ C'.w0.heap.size ≤ b) ∧ b < w'.heap.size
 have hY1 : Y k s O' w' := hY _ _ _ _ _ _ hYk {
  same := fun b hb hn => (st'.kept b ((hkeep b).2 ⟨hb,hn⟩)).1
  size := st'.grown
  sub := fun b hb => hb.1
  lt := fun b hb => hb.2
  os := st'.os
  tape := st'.tape
  output := st'.output }
 have hdf : a'.defers = [] := by rw [st'.defs,h3]
 rcases he with rfl | rfl
 · exact ⟨hdf,_,hrun,⟨_,rfl⟩,k,s,O',hY1,hend⟩
 · exact ⟨hdf,_,hrun,⟨_,rfl⟩,k,s,O',hY1,hend⟩
end Go.Sx

namespace Go.Sx

variable {P : Program} {C : Ctx} {σ σ' σ1 : Sg} {a : Act} {w w' : World} {ρ : Nat → Nat} {Fe Fe' Fb : Nat → List Nat}

theorem Rc.frsAll {G G' L L' : Nat → Prop} {ρ' : Nat → Nat} {p : Bool} {d : D} {cs : List Value} {F : List Nat} (h : Rc w ρ G L p d cs F) (hf : Frs d) (hn : d.np = true) (hh : ∀ b ∈ F,b < w.heap.size → w'.heap[b]? = w.heap[b]?) : Rc w' ρ' G' L' true d cs F := by
 have h1 := (h.frs (G' := fun _ => False) hf).unflag hn
 have h2 := (h1.noL (ρ' := ρ') (L' := L')).flag
 exact h2.mono (fun b hb hl => hh b (hb.resolve_left (fun h => h)) hl) (fun _ h => h.elim) (fun id hid => ⟨hid,rfl⟩)

def frsBx : List (Nat × Bx) → Prop
 | [] => True
 | (_,.var d) :: r => Frs d ∧ d.np = true ∧ frsBx r
 | (_,.mp _) :: _ => False
theorem frsBx_get {l : List (Nat × Bx)} (h : frsBx l) {id : Nat} {x : Bx} (hx : lk l id = some x) : ∃ d,x = .var d ∧ Frs d ∧ d.np = true := by
 induction l with
 | nil => simp [lk] at hx
 | cons y r ih =>
  obtain ⟨k,b⟩ := y
  cases b with
  | mp => exact h.elim
  | var d =>
   rw [lk_cons] at hx
   by_cases hk : k = id
   · simp only [hk,if_true,Option.some.injEq] at hx
     exact ⟨d,hx.symm,h.1,h.2.1⟩
   · simp only [hk,if_false] at hx
     exact ih h.2.2 hx

def purEnv : List (Nat × D) → Bool
 | [] => true
 | (_,d) :: r => d.pur && !d.isRef && purEnv r
theorem purEnv_get {l : List (Nat × D)} (h : purEnv l = true) {t : Nat} {d : D} (hd : lk l t = some d) : d.pur = true ∧ d.isRef = false := by
 induction l with
 | nil => simp [lk] at hd
 | cons x r ih =>
  obtain ⟨k,e⟩ := x
  simp only [purEnv,Bool.and_eq_true,Bool.not_eq_true'] at h
  rw [lk_cons] at hd
  by_cases hk : k = t
  · simp only [hk,if_true,Option.some.injEq] at hd; subst hd; exact h.1
  · simp only [hk,if_false] at hd; exact ih h.2 hd

structure Last (C : Ctx) (n : Nat) (a : Act) (env0 : List (Nat × D)) (ids : List Nat) (ρ0 : Nat → Nat) (G1 : Nat → Prop) (sz : Nat) (l dd : Nat) (bx : List (Nat × Bx)) (Fb : Nat → List Nat) (O : Nat → Prop) (w : World) : Prop where
 keys : ∀ id,(lk bx id).isSome = memN ids id
 frs : frsBx bx
 env : ∀ t d,lk env0 t = some d → ∃ v,a.tmps[t]? = some v ∧ VR w ρ0 G1 (fun id => memN ids id = true) d v []
 box : ∀ id d,lk bx id = some (.var d) → ∃ cs e F',w.heap[ρ0 id]? = some (.cells cs e (0,0)) ∧ Rc w ρ0 (fun _ => False) (fun _ => False) true d cs.toList F' ∧ Fb id = ρ0 id :: F'
 boxN : ∀ id,lk bx id = none → Fb id = []
 nodB : ∀ id,(Fb id).Nodup
 dBB : ∀ id id',id ≠ id' → ∀ b,b ∈ Fb id → b ∉ Fb id'
 own : ∀ id b,b ∈ Fb id → ¬ C.keep b ∧ ¬ O b ∧ ¬ G1 b ∧ b ≠ l ∧ b ≠ dd ∧ b < w.heap.size
 O_ge : ∀ b,O b → (¬ C.keep b ∧ ¬ G1 b) ∧ b ≠ l ∧ b ≠ dd
 G1_lt : ∀ b,G1 b → b < sz ∧ b ≠ l ∧ b ≠ dd
 keep : ∀ b,C.keep b → w.heap[b]? = C.w0.heap[b]? ∧ b < sz ∧ b ≠ l ∧ b ≠ dd
 os : w.os = C.w0.os
 tape : w.tape = C.w0.tape
 output : w.output = C.w0.output
 size : sz ≤ w.heap.size
 l_lt : l < w.heap.size
 d_lt : dd < w.heap.size
 ld : l ≠ dd
 def_ : w.heap[dd]? = some (.deferred (some []))

theorem Last.apart {n : Nat} {env0 : List (Nat × D)} {ids : List Nat} {ρ0 : Nat → Nat} {G1 : Nat → Prop} {sz l dd : Nat} {bx : List (Nat × Bx)} {O O' : Nat → Prop} (h : Last C n a env0 ids ρ0 G1 sz l dd bx Fb O w) (hz : ∀ b,sz ≤ b → ¬ C.keep b) (ha : Apart O O' w w') :
 Last C n a env0 ids ρ0 G1 sz l dd bx Fb O' w' := by
 have hO' : ∀ b,O' b → (¬ C.keep b ∧ ¬ G1 b) ∧ b ≠ l ∧ b ≠ dd := fun b hb => by
  rcases ha.sub b hb with h1 | h1
  · exact h.O_ge b h1
  · have := h.l_lt; have := h.d_lt; have := h.size
    exact ⟨⟨hz b (by omega),fun hc => by have := (h.G1_lt b hc).1; omega⟩,by omega,by omega⟩
 have hFO : ∀ id b,b ∈ Fb id → b < w.heap.size → w'.heap[b]? = w.heap[b]? := fun id b hb hl => ha.same b hl (h.own id b hb).2.1
 have hG : ∀ b,G1 b → ¬ O b := fun b hb hc => (h.O_ge b hc).1.2 hb
 refine Last.mk h.keys h.frs (fun t d hd => ?_) (fun id d hd => ?_) h.boxN h.nodB h.dBB (fun id b hb => ?_) hO' h.G1_lt (fun b hb => ?_)
  (ha.os.trans h.os) (ha.tape.trans h.tape) (ha.output.trans h.output) (Nat.le_trans h.size ha.size) (Nat.lt_of_lt_of_le h.l_lt ha.size) (Nat.lt_of_lt_of_le h.d_lt ha.size) h.ld ?_
 · obtain ⟨v,h1,h2⟩ := h.env t d hd
   exact ⟨v,h1,h2.mono (fun b hb hl => ha.same b hl (hb.elim (hG b) (fun hm => by cases hm))) (fun b hb _ => hb) (fun id hid => ⟨hid,rfl⟩)⟩
 · obtain ⟨cs,e,F',h1,h2,h3⟩ := h.box id d hd
   have hlt : ρ0 id < w.heap.size := (Array.getElem?_eq_some_iff.1 h1).1
   refine ⟨cs,e,F',(hFO id _ (by rw [h3]; simp) hlt).trans h1,h2.mono (fun b hb hl => hFO id b (by rw [h3]; exact List.mem_cons_of_mem _ (hb.resolve_left (fun h => h))) hl) (fun _ h => h.elim) (fun _ h => h.elim),h3⟩
 · obtain ⟨q1,q2,q3,q4,q5,q6⟩ := h.own id b hb
   refine ⟨q1,fun hc => ?_,q3,q4,q5,Nat.lt_of_lt_of_le q6 ha.size⟩
   rcases ha.sub b hc with h1 | h1
   · exact q2 h1
   · omega
 · obtain ⟨q1,q2,q3,q4⟩ := h.keep b hb
   refine ⟨?_,q2,q3,q4⟩
   have := h.size
   rw [ha.same b (by omega) (fun hc => (h.O_ge b hc).1.1 hb)]
   exact q1
 · rw [ha.same dd h.d_lt (fun hc => (h.O_ge dd hc).2.2 rfl)]
   exact h.def_

theorem wpIn_n {F : Fence} {n m : Nat} {c : Code} {Q : Exit → Act → World → Prop} (hd : F.depth = none) (h : c.wpIn F n P Q a w) : c.wpIn F m P Q a w :=
 fun b k cs h1 h2 _ => h b k cs h1 h2 (fun d hd' => by rw [hd] at hd'; cases hd')

theorem Last.start {n : Nat} {env0 : List (Nat × D)} {ids : List Nat} {ρ0 : Nat → Nat} {G1 : Nat → Prop} {sz l dd : Nat} {bx : List (Nat × Bx)} {O : Nat → Prop} (h : Last C n a env0 ids ρ0 G1 sz l dd bx Fb O w)
 (hsz : a.tmps.size = n) (hO : ∀ b,O b → b < w.heap.size) {p : Nat} {v : Value} {d : D} (hp : p < n) (hv : VR w (fun x => x) (fun b => G1 b ∨ O b) (fun _ => False) d v []) (hdp : d.pur = true) (hdn : d.np = true) (hpe : purEnv env0 = true)
 (hgl : ∀ g d,(g,d) ∈ C.gl → C.keep g ∧ G1 g ∧ ∃ cs e fz,C.w0.heap[g]? = some (.cells cs e fz) ∧ Rc C.w0 (fun x => x) (fun _ => False) (fun _ => False) false d cs.toList []) :
 StW ⟨w,fun b => b < w.heap.size ∧ ¬ ∃ id,b ∈ Fb id,fun b => G1 b ∨ O b ∨ w.heap.size ≤ b ∨ ∃ id,b ∈ Fb id,C.gl,some l,fun id => if memN ids id then some (ρ0 id) else none,[]⟩
  ((⟨n,env0,bx⟩ : Sg).set p d) { tmps := a.tmps.setIfInBounds p v,defers := [] } w ρ0 (fun _ => []) Fb := by
 have hown : ∀ b,Go.Sx.own (fun _ => []) Fb b → ∃ id,b ∈ Fb id := by
  rintro b (⟨_,h⟩ | h)
  · cases h
  · exact h
 have hkeys : ∀ id,((⟨n,env0,bx⟩ : Sg).box id).isSome = memN ids id := h.keys
 refine StW.mk (by simp [hsz]) rfl (fun id b hb => ?_) (fun t x hx => ?_) (fun _ _ => rfl) (fun id x hx => ?_) (fun id hid => h.boxN id hid) (fun _ => List.nodup_nil) h.nodB (fun _ _ _ _ h => by cases h) (fun _ _ _ h => by cases h) h.dBB
  (fun b hb hc => hc.2 (hown b hb)) (fun b hb => ⟨rfl,hb.1⟩) rfl rfl rfl (Nat.le_refl _) (fun g d hg => ?_) (fun b hb => .inr (.inr (.inl hb))) (fun b hb => .inr (.inr (.inr (hown b hb))))
 · by_cases hm : memN ids id = true
   · simp only [hm,if_true,Option.some.injEq] at hb
     exact ⟨hb,by show ((⟨n,env0,bx⟩ : Sg).box id).isSome = true; rw [hkeys]; exact hm⟩
   · simp [hm] at hb
 · have hgd : ∀ b,(G1 b ∨ O b) → b < w.heap.size → gd ⟨w,fun b => b < w.heap.size ∧ ¬ ∃ id,b ∈ Fb id,fun b => G1 b ∨ O b ∨ w.heap.size ≤ b ∨ ∃ id,b ∈ Fb id,C.gl,some l,fun id => if memN ids id then some (ρ0 id) else none,[]⟩ (fun _ => []) Fb b := by
    intro b hb _
    refine ⟨hb.elim (fun h => .inl h) (fun h => .inr (.inl h)),fun hc => ?_⟩
    obtain ⟨id,hid⟩ := hown b hc
    obtain ⟨_,q2,q3,_⟩ := h.own id b hid
    exact hb.elim q3 q2
   simp only [Sg.get,Sg.set,lk_cons,lk_sets] at hx
   by_cases hpt : p = t
   · subst hpt
     simp only [if_true,Option.some.injEq] at hx
     subst hx
     refine (SR_plain (pur_ref hdp)).2 ⟨v,by simp [hsz,hp],(hv.noL (ρ' := ρ0) hdn).mono (fun _ _ _ => rfl) hgd (fun id hid => ⟨hid,rfl⟩)⟩
   · simp only [hpt,if_false,show ¬ t = p from fun e => hpt e.symm,Option.map_eq_some_iff] at hx
     obtain ⟨x0,hx0,rfl⟩ := hx
     obtain ⟨hp1,hp2⟩ := purEnv_get hpe hx0
     have hsc : scrub p x0 = x0 := by cases x0 <;> first | rfl | simp [D.isRef] at hp2
     rw [hsc]
     obtain ⟨v0,hv0,hr0⟩ := h.env t x0 hx0
     refine (SR_plain hp2).2 ⟨v0, ?_,hr0.mono (fun _ _ _ => rfl) (fun b hb hl => hgd b (.inl hb) hl) (fun id hid => ⟨by show ((⟨n,env0,bx⟩ : Sg).box id).isSome = true; rw [hkeys]; exact hid,rfl⟩)⟩
     show (a.tmps.setIfInBounds p v)[t]? = some v0
     rw [Array.getElem?_setIfInBounds_ne hpt]
     exact hv0
 · obtain ⟨d0,rfl,hf,hn0⟩ := frsBx_get h.frs (show lk bx id = some x from hx)
   obtain ⟨cs,e,F',h1,h2,h3⟩ := h.box id d0 hx
   exact ⟨cs,e,F',h1,h2.mono (fun _ _ _ => rfl) (fun _ hb => hb.elim) (fun _ hb => hb.elim),h3⟩
 · obtain ⟨q1,q2,cs,e,fz,q3,q4⟩ := hgl g d hg
   obtain ⟨k1,k2,_⟩ := h.keep g q1
   have := h.size
   refine ⟨⟨by omega,fun ⟨id,hid⟩ => (h.own id g hid).1 q1⟩,.inl q2,cs,e,fz,k1.trans q3,q4.mono (fun b hb _ => ?_) (fun _ h => h.elim) (fun _ h => h.elim)⟩
   rcases hb with hb | hb
   · exact hb.elim
   · cases hb

def jmp : Exit → Option Code
 | .ret => some .ret
 | .exit id => some (.exit id)
 | _ => none

theorem Last.round {n : Nat} {env0 : List (Nat × D)} {ids : List Nat} {ρ0 : Nat → Nat} {G1 : Nat → Prop} {sz l dd : Nat} {bx : List (Nat × Bx)} {O : Nat → Prop} (h : Last C n a env0 ids ρ0 G1 sz l dd bx Fb O w)
 {r : Loop} (hrec : w.heap[l]? = some (.loop r)) (hst : r.state = .ready) (htm : r.tmps = a.tmps) {p : Nat} (hpar : r.params = #[p]) {asg body : Code} (hra : r.assign = asg) (hrb : r.body = body)
 (hsz : a.tmps.size = n) (hO : ∀ b,O b → b < w.heap.size) {v : Value} {d : D} (hp : p < n) (hv : VR w (fun x => x) (fun b => G1 b ∨ O b) (fun _ => False) d v []) (hdp : d.pur = true) (hdn : d.np = true) (hpe : purEnv env0 = true)
 (hgl : ∀ g d,(g,d) ∈ C.gl → C.keep g ∧ G1 g ∧ ∃ cs e fz,C.w0.heap[g]? = some (.cells cs e fz) ∧ Rc C.w0 (fun x => x) (fun _ => False) (fun _ => False) false d cs.toList [])
 {E : Exit → List (Nat × Bx) → Prop}
 (hround : ∀ C' : Ctx,C'.gl = C.gl → (∀ id b,C'.pin id = some b → memN ids id = true) → W P C' asg (fun e σ' => e = .normal ∧ ∀ C' : Ctx,C'.gl = C.gl → (∀ id b,C'.pin id = some b → memN ids id = true) →
  W P C' body (fun e σ' => E e (keepB ids σ'.bx) ∧ frsBx (keepB ids σ'.bx)) σ') ((⟨n,env0,bx⟩ : Sg).set p d))
 (hE : ∀ e bx',E e bx' → e = .normal ∨ e = .ret ∨ ∃ id,e = .exit id) :
 YieldTo P l v w (fun w' s => ∃ e bx' Fb',E e bx' ∧ s = (jmp e).isSome ∧ w'.heap[l]? = some (.loop { r with state := if (jmp e).isNone then .ready else .done,pending := jmp e }) ∧
  Last C n a env0 ids ρ0 G1 sz l dd bx' Fb' O w' ∧ (∀ b,b < w.heap.size → (¬ ∃ id,b ∈ Fb id) → b ≠ l → w'.heap[b]? = w.heap[b]?) ∧ w.heap.size ≤ w'.heap.size) := by
 have hst0 := h.start hsz hO hp hv hdp hdn hpe hgl
 have hlF : ¬ ∃ id,l ∈ Fb id := fun ⟨id,hid⟩ => (h.own id l hid).2.2.2.1 rfl
 have hll := h.l_lt
 have hrun : (Instr.yield l #[v]).run P w = .ok (.round l r.fn (a.tmps.setIfInBounds p v) asg body) w := by
  have := run_yield (P := P) (w := w) (args := #[v]) hrec (by rw [hpar]; rfl)
  rw [hra,hrb] at this
  rw [this,hpar,htm]
  have hz : (#[p] : Array Nat).zip (#[v] : Array Value) = #[(p,v)] := by
   rw [show (#[p] : Array Nat) = [p].toArray from rfl,show (#[v] : Array Value) = [v].toArray from rfl]
   simp
  rw [hz]
  rfl
 refine ⟨r.fn,a.tmps.setIfInBounds p v,asg,body,hrun, ?_⟩
 refine roundIn_of_wpIn trivial ?_
 have hfr : ∀ C' : Ctx,C'.rd = some l → Fx C' = (Fr none).inRound l := fun C' hC => by unfold Fx; rw [hC]; rfl
 let C1 : Ctx := ⟨w,fun b => b < w.heap.size ∧ ¬ ∃ id,b ∈ Fb id,fun b => G1 b ∨ O b ∨ w.heap.size ≤ b ∨ ∃ id,b ∈ Fb id,C.gl,some l,fun id => if memN ids id then some (ρ0 id) else none,[]⟩
 have h1 := hround C1 rfl (fun id b hb => by
  by_cases hm : memN ids id = true
  · exact hm
  · simp [C1,hm] at hb) _ _ ⟨_,_,_,hst0⟩
 rw [hfr _ rfl] at h1
 refine wpIn_n (n := 3) rfl (Go.Code.wpIn_mono ?_ h1)
 rintro e a₁ w₁ ⟨σ2,⟨ρ₁,Fe₁,Fb₁,st₁⟩,rfl,hbody⟩
 show ∃ w₂,_
 have hrec1 : w₁.heap[l]? = some (.loop r) := by rw [(st₁.kept l ⟨hll,hlF⟩).1]; exact hrec
 have hl1 : l < w₁.heap.size := (Array.getElem?_eq_some_iff.1 hrec1).1
 refine ⟨_,run_beginRound hrec1 hst, ?_⟩
 -- behind 'beginRound'
 have hown1 : ∀ b,Go.Sx.own Fe₁ Fb₁ b → w.heap.size ≤ b ∨ ∃ id,b ∈ Fb id := fun b hb => by
  have := st₁.new b hb
  by_cases hlt : b < w.heap.size
  · right
    by_cases hx : ∃ id,b ∈ Fb id
    · exact hx
    · exact absurd ⟨hlt,hx⟩ this
  · left; omega
 have hlown1 : ¬ Go.Sx.own Fe₁ Fb₁ l := fun hc => (hown1 l hc).elim (fun h => by omega) hlF
 have hlgd1 : ¬ (G1 l ∨ O l ∨ w.heap.size ≤ l ∨ ∃ id,l ∈ Fb id) := by
  rintro (hc | hc | hc | hc)
  · exact (h.G1_lt l hc).2.1 rfl
  · exact (h.O_ge l hc).2.1 rfl
  · omega
  · exact hlF hc
 let C2 : Ctx := ⟨w₁.putObj l (.loop { r with state := .busy }),fun b => b < w₁.heap.size ∧ ¬ Go.Sx.own Fe₁ Fb₁ b,fun b => G1 b ∨ O b ∨ w.heap.size ≤ b ∨ ∃ id,b ∈ Fb id,C.gl,some l,fun id => if memN ids id then some (ρ0 id) else none,[]⟩
 have st₂ : StW C2 σ2 a₁ (w₁.putObj l (.loop { r with state := .busy })) ρ₁ Fe₁ Fb₁ := by
  refine st₁.rebase C2 rfl rfl (fun b hb hl => ?_) (fun b hb hl => hb.1) (fun b hb hc => hc.2 hb) (fun b hb => ⟨rfl,show b < (w₁.putObj l _).heap.size by rw [World.putObj_size]; exact hb.1⟩) rfl rfl rfl (Nat.le_refl _) (fun g d0 hg => ?_) (fun b hb => .inr (.inr (.inl (Nat.le_trans st₁.grown (by rw [World.putObj_size] at hb; exact hb))))) (fun b hb => st₁.okO b hb)
  · refine World.putObj_heap_other (fun hbl => ?_)
    subst hbl
    rcases hb with hb | hb
    · exact hlgd1 hb.1
    · exact hlown1 hb
  · obtain ⟨q1,q2,cs,e,fz,q3,q4⟩ := st₁.gl g d0 hg
    have hgl' : g ≠ l := fun hc => by subst hc; exact hlgd1 q2
    refine ⟨⟨Nat.lt_of_lt_of_le q1.1 st₁.grown,fun hc => st₁.new g hc q1⟩,q2,cs,e,fz, ?_,q4.mono (fun b hb _ => ?_) (fun _ h => h.elim) (fun _ h => h.elim)⟩
    · show (w₁.putObj l _).heap[g]? = _
      rw [World.putObj_heap_other hgl',(st₁.kept g q1).1]
      exact q3
    · rcases hb with hb | hb
      · exact hb.elim
      · cases hb
 have h2 := hbody C2 rfl (fun id b hb => by
  by_cases hm : memN ids id = true
  · exact hm
  · simp [C2,hm] at hb) _ _ ⟨_,_,_,st₂⟩
 rw [hfr _ rfl] at h2
 refine wpIn_n (n := 3) rfl (Go.Code.wpIn_mono ?_ h2)
 rintro e a₃ w₃ ⟨σ3,⟨ρ₃,Fe₃,Fb₃,st₃⟩,hEe,hfrs⟩
 have hrec3 : w₃.heap[l]? = some (.loop { r with state := .busy }) := by
  rw [(st₃.kept l ⟨hl1,hlown1⟩).1]
  exact World.putObj_heap_same hl1
 have hl3 : l < w₃.heap.size := (Array.getElem?_eq_some_iff.1 hrec3).1
 have hs1 : w.heap.size ≤ w₁.heap.size := st₁.grown
 have hs3 : w₁.heap.size ≤ w₃.heap.size := by have := st₃.grown; simpa [C2] using this
 have hown3 : ∀ b,Go.Sx.own Fe₃ Fb₃ b → w.heap.size ≤ b ∨ ∃ id,b ∈ Fb id := fun b hb => by
  have := st₃.new b hb
  by_cases hlt : b < w₁.heap.size
  · by_cases hx : Go.Sx.own Fe₁ Fb₁ b
    · exact hown1 b hx
    · exact absurd ⟨hlt,hx⟩ this
  · left; omega
 -- the world behind the round
 have key : ∀ j : Option Code,j = jmp e → ∃ bx' Fb',bx' = keepB ids σ3.bx ∧ (w₃.putObj l (.loop { r with state := if j.isNone then .ready else .done,pending := j })).heap[l]? = some (.loop { r with state := if j.isNone then .ready else .done,pending := j }) ∧
  Last C n a env0 ids ρ0 G1 sz l dd bx' Fb' O (w₃.putObj l (.loop { r with state := if j.isNone then .ready else .done,pending := j })) ∧
  (∀ b,b < w.heap.size → (¬ ∃ id,b ∈ Fb id) → b ≠ l → (w₃.putObj l (.loop { r with state := if j.isNone then .ready else .done,pending := j })).heap[b]? = w.heap[b]?) := by
  intro j hj
  generalize hw4 : w₃.putObj l (.loop { r with state := if j.isNone then .ready else .done,pending := j }) = w₄
  have h4l : w₄.heap[l]? = some (.loop { r with state := if j.isNone then .ready else .done,pending := j }) := by rw [← hw4]; exact World.putObj_heap_same hl3
  have h4o : ∀ b,b ≠ l → w₄.heap[b]? = w₃.heap[b]? := fun b hb => by rw [← hw4]; exact World.putObj_heap_other hb
  have h4s : w₄.heap.size = w₃.heap.size := by rw [← hw4]; simp
  have hsame : ∀ b,b < w.heap.size → (¬ ∃ id,b ∈ Fb id) → b ≠ l → w₄.heap[b]? = w.heap[b]? := fun b hb hn hbl => by
   have hn1 : ¬ Go.Sx.own Fe₁ Fb₁ b := fun hc => (hown1 b hc).elim (fun h => by omega) hn
   rw [h4o b hbl,(st₃.kept b ⟨by omega,hn1⟩).1]
   show (w₁.putObj l _).heap[b]? = _
   rw [World.putObj_heap_other hbl,(st₁.kept b ⟨hb,hn⟩).1]
  have hkeys : ∀ id,(lk (keepB ids σ3.bx) id).isSome = memN ids id := fun id => by
   rw [lk_keepB]
   have hmm : memB ids id = memN ids id := rfl
   by_cases hm : memN ids id = true
   · rw [hmm,hm,if_pos rfl]
     have := (st₃.pin id (ρ0 id) (by simp [C2,hm])).2
     exact this
   · rw [hmm,if_neg hm]
     simpa using hm
  have hG1 : ∀ b,G1 b → b < w.heap.size ∧ (¬ ∃ id,b ∈ Fb id) ∧ b ≠ l := fun b hb => by
   have := (h.G1_lt b hb).1; have := h.size
   exact ⟨by omega,fun ⟨id,hid⟩ => (h.own id b hid).2.2.1 hb,(h.G1_lt b hb).2.1⟩
  refine ⟨keepB ids σ3.bx,fun id => if memN ids id then Fb₃ id else [],rfl,h4l, ?_,hsame⟩
  have hos : w₃.os = w.os := st₃.os.trans st₁.os
  have htp : w₃.tape = w.tape := st₃.tape.trans st₁.tape
  have hou : w₃.output = w.output := st₃.output.trans st₁.output
  refine Last.mk hkeys hfrs (fun t d0 hd0 => ?_) (fun id d0 hd0 => ?_) (fun id hid => ?_) (fun id => ?_) (fun id id' hne b hb hb' => ?_) (fun id b hb => ?_) h.O_ge h.G1_lt (fun b hb => ?_)
   (by rw [← hw4]; exact hos.trans h.os) (by rw [← hw4]; exact htp.trans h.tape) (by rw [← hw4]; exact hou.trans h.output) (by have := h.size; omega) (by omega) (by have := h.d_lt; omega) h.ld ?_
  · obtain ⟨v0,k1,k2⟩ := h.env t d0 hd0
    refine ⟨v0,k1,k2.mono (fun b hb hl => ?_) (fun b hb _ => hb) (fun id hid => ⟨hid,rfl⟩)⟩
    obtain ⟨q1,q2,q3⟩ := hG1 b (hb.resolve_right (by simp))
    exact hsame b q1 q2 q3
  · have hm : memN ids id = true := by rw [← hkeys id,hd0]; rfl
    rw [lk_keepB] at hd0
    have hmm : memB ids id = true := hm
    rw [if_pos hmm] at hd0
    obtain ⟨dx,hdx,hf1,hf2⟩ := frsBx_get hfrs (show lk (keepB ids σ3.bx) id = some (.var d0) by rw [lk_keepB,if_pos hmm]; exact hd0)
    cases hdx
    obtain ⟨cs,e',F',k1,k2,k3⟩ := st₃.bx id _ hd0
    have hρ : ρ₃ id = ρ0 id := (st₃.pin id (ρ0 id) (by simp [C2,hm])).1
    rw [hρ] at k1 k3
    have hnl : ∀ b ∈ Fb₃ id,b ≠ l := fun b hb hbl => by
     subst hbl
     exact (hown3 b (.inr ⟨id,hb⟩)).elim (fun h => by omega) hlF
    refine ⟨cs,e',F', ?_,k2.frsAll hf1 hf2 (fun b hb _ => h4o b (hnl b (by rw [k3]; exact List.mem_cons_of_mem _ hb))),by simp only [hm,if_true]; exact k3⟩
    rw [h4o _ (hnl _ (by rw [k3]; simp))]
    exact k1
  · have hm : ¬ memN ids id = true := fun hm => by have := hkeys id; rw [hid,hm] at this; cases this
    simp [hm]
  · show (if memN ids id then Fb₃ id else []).Nodup
    split
    · exact st₃.nodB id
    · exact List.nodup_nil
  · have e1 : b ∈ Fb₃ id := by split at hb; exact hb; cases hb
    have e2 : b ∈ Fb₃ id' := by split at hb'; exact hb'; cases hb'
    exact st₃.dBB id id' hne b e1 e2
  · have e1 : b ∈ Fb₃ id := by split at hb; exact hb; cases hb
    have hlt : b < w₄.heap.size := by rw [h4s]; exact st₃.lt b (.inr ⟨id,e1⟩)
    rcases hown3 b (.inr ⟨id,e1⟩) with hge | ⟨id0,hid0⟩
    · refine ⟨fun hc => ?_,fun hc => ?_,fun hc => ?_, ?_, ?_,hlt⟩
      · have := (h.keep b hc).2.1; have := h.size; omega
      · have := hO b hc; omega
      · have := (hG1 b hc).1; omega
      · omega
      · have := h.d_lt; omega
    · obtain ⟨q1,q2,q3,q4,q5,q6⟩ := h.own id0 b hid0
      exact ⟨q1,q2,q3,q4,q5,hlt⟩
  · obtain ⟨q1,q2,q3,q4⟩ := h.keep b hb
    have := h.size
    refine ⟨?_,q2,q3,q4⟩
    rw [hsame b (by omega) (fun ⟨id,hid⟩ => (h.own id b hid).1 hb) q3]
    exact q1
  · rw [hsame dd h.d_lt (fun ⟨id,hid⟩ => (h.own id dd hid).2.2.2.2.1 rfl) (fun hc => h.ld hc.symm)]
    exact h.def_
 have fin : ∀ j : Option Code,j = jmp e → ∃ v' w',(Instr.endRound l j).run P w₃ = .ok v' w' ∧ (∃ s,(Ending.returned v') = .returned (.bool (!s)) ∧ ∃ e bx' Fb',E e bx' ∧ s = (jmp e).isSome ∧ w'.heap[l]? = some (.loop { r with state := if (jmp e).isNone then .ready else .done,pending := jmp e }) ∧
  Last C n a env0 ids ρ0 G1 sz l dd bx' Fb' O w' ∧ (∀ b,b < w.heap.size → (¬ ∃ id,b ∈ Fb id) → b ≠ l → w'.heap[b]? = w.heap[b]?) ∧ w.heap.size ≤ w'.heap.size) := by
  intro j hj
  obtain ⟨bx',Fb',hb',k1,k2,k3⟩ := key j hj
  refine ⟨_,_,run_endRound j hrec3,j.isSome,by cases j <;> rfl,e,bx',Fb',by rw [hb']; exact hEe,by rw [hj], ?_, ?_, ?_, ?_⟩
  · rw [← hj]; exact k1
  · exact k2
  · exact k3
  · simp; omega
 rcases hE e _ hEe with rfl | rfl | ⟨id,rfl⟩
 · exact fin none rfl
 · exact fin (some .ret) rfl
 · exact fin (some (.exit id)) rfl

def markOf (dd : Nat) : Deferred := { target := .collected dd,args := #[] }
def Glw (gl : List (Nat × D)) (W0 : World) (G : Nat → Prop) : Prop :=
 ∀ g d,(g,d) ∈ gl → g < W0.heap.size ∧ G g ∧ ∃ cs e fz,W0.heap[g]? = some (.cells cs e fz) ∧ Rc W0 (fun x => x) (fun _ => False) (fun _ => False) false d cs.toList []
def relF (gl : List (Nat × D)) (W0 : World) (G : Nat → Prop) : Rel gl Bool where
 r m C := C.gl = gl ∧ C.rd = none ∧ (∀ id,C.pin id = none) ∧ (∀ b,b < W0.heap.size → C.keep b) ∧ Ext W0 C.w0 ∧ (∀ b,C.ok b → G b ∨ W0.heap.size ≤ b) ∧
  (match m with
   | false => C.df = []
   | true => ∃ dd,C.df = [markOf dd] ∧ W0.heap.size ≤ dd ∧ C.keep dd ∧ C.w0.heap[dd]? = some (.deferred (some [])) ∧ ¬ C.ok dd)
 gl h := h.1
 rd h := h.2.1
 pin h := h.2.2.1

section
variable {gl : List (Nat × D)} {W0 : World} {G : Nat → Prop} {m : Bool}
theorem Last.finish {n : Nat} {env0 : List (Nat × D)} {ids : List Nat} {G1 : Nat → Prop} {sz l dd : Nat} {bx : List (Nat × Bx)} {O : Nat → Prop} (h : Last C n a env0 ids ρ G1 sz l dd bx Fb O w) (hsz : a.tmps.size = n) (hpe : purEnv env0 = true)
 (hk : ∀ b,b < W0.heap.size → C.keep b) (hG1 : ∀ b,G1 b → G b ∨ W0.heap.size ≤ b) (hx : Ext W0 C.w0) (hdd : W0.heap.size ≤ dd)
 (hgl : Glw gl W0 G) (o : Obj) : AM (relF gl W0 G) (true,⟨n,env0,bx⟩) { a with defers := [markOf dd] } (w.putObj l o) := by
 have h4o : ∀ b,b ≠ l → (w.putObj l o).heap[b]? = w.heap[b]? := fun b hb => World.putObj_heap_other hb
 have hW0 : ∀ b,b < W0.heap.size → (w.putObj l o).heap[b]? = W0.heap[b]? := fun b hb => by
  obtain ⟨q1,q2,q3,q4⟩ := h.keep b (hk b hb)
  rw [h4o b q3,q1,hx.block b hb]
 have hd4 : (w.putObj l o).heap[dd]? = some (.deferred (some [])) := by rw [h4o dd (fun hc => h.ld hc.symm)]; exact h.def_
 have hddw : dd < (w.putObj l o).heap.size := by rw [World.putObj_size]; exact h.d_lt
 have hWs : W0.heap.size ≤ (w.putObj l o).heap.size := Nat.le_trans hdd (Nat.le_of_lt hddw)
 let C' : Ctx := ⟨w.putObj l o,fun b => b < W0.heap.size ∨ b = dd,fun b => (G b ∨ W0.heap.size ≤ b) ∧ b ≠ dd,gl,none,fun _ => none,[markOf dd]⟩
 have hown : ∀ b,Go.Sx.own (fun _ => []) Fb b → ∃ id,b ∈ Fb id := by
  rintro b (⟨_,h⟩ | h)
  · cases h
  · exact h
 refine ⟨C',⟨rfl,rfl,fun _ => rfl,fun b hb => .inl hb,⟨h.os.trans hx.os,h.tape.trans hx.tape,h.output.trans hx.output,hWs,hW0⟩,fun b hb => hb.1,⟨dd,rfl,hdd,.inr rfl,hd4,fun hc => hc.2 rfl⟩⟩,ρ,fun _ => [],Fb, ?_⟩
 refine StW.mk (by simpa using hsz) rfl (fun _ _ hp => by cases hp) (fun t x hx' => ?_) (fun _ _ => rfl) (fun id x hx' => ?_) (fun id hid => h.boxN id hid) (fun _ => List.nodup_nil) h.nodB (fun _ _ _ _ h => by cases h) (fun _ _ _ h => by cases h) h.dBB
  (fun b hb hc => ?_) (fun b hb => ⟨rfl, ?_⟩) rfl rfl rfl (Nat.le_refl _) (fun g d hg => ?_) (fun b hb => ⟨.inr (Nat.le_trans hWs hb),fun hc => by subst hc; omega⟩) (fun b hb => ?_)
 · obtain ⟨hp1,hp2⟩ := purEnv_get hpe (show lk env0 t = some x from hx')
   obtain ⟨v0,k1,k2⟩ := h.env t x hx'
   refine (SR_plain hp2).2 ⟨v0,k1,k2.mono (fun b hb hl => h4o b (h.G1_lt b (hb.resolve_right (by simp))).2.1) (fun b hb hl => ⟨⟨hG1 b hb,(h.G1_lt b hb).2.2⟩,fun hc => ?_⟩) (fun id hid => ⟨by show (lk bx id).isSome = true; rw [h.keys]; exact hid,rfl⟩)⟩
   obtain ⟨id,hid⟩ := hown b hc
   exact (h.own id b hid).2.2.1 hb
 · obtain ⟨d0,rfl,hf,hn0⟩ := frsBx_get h.frs (show lk bx id = some x from hx')
   obtain ⟨cs,e,F',k1,k2,k3⟩ := h.box id d0 hx'
   have hnl : ∀ b ∈ Fb id,b ≠ l := fun b hb => (h.own id b hb).2.2.2.1
   refine ⟨cs,e,F', ?_,k2.frsAll hf hn0 (fun b hb _ => h4o b (hnl b (by rw [k3]; exact List.mem_cons_of_mem _ hb))),k3⟩
   rw [h4o _ (hnl _ (by rw [k3]; simp))]
   exact k1
 · obtain ⟨id,hid⟩ := hown b hb
   obtain ⟨q1,_,_,_,q5,_⟩ := h.own id b hid
   rcases hc with hc | hc
   · exact q1 (hk b hc)
   · exact q5 hc
 · rcases hb with hb | hb
   · show b < (w.putObj l o).heap.size; omega
   · subst hb; exact hddw
 · obtain ⟨q1,q2,cs,e,fz,q3,q4⟩ := hgl g d hg
   refine ⟨.inl q1,⟨.inl q2,by omega⟩,cs,e,fz,(hW0 g q1).trans q3,q4.mono (fun b hb _ => ?_) (fun _ h => h.elim) (fun _ h => h.elim)⟩
   rcases hb with hb | hb
   · exact hb.elim
   · cases hb
 · obtain ⟨id,hid⟩ := hown b hb
   obtain ⟨q1,_,_,_,q5,_⟩ := h.own id b hid
   refine ⟨.inr (Nat.le_of_not_lt (fun hc => q1 (hk b hc))),q5⟩
end
end Go.Sx

namespace Go.Sx

variable {P : Program} {C : Ctx} {σ σ' σ1 : Sg} {a : Act} {w w' : World} {ρ : Nat → Nat} {Fe Fe' Fb : Nat → List Nat}
variable {gl : List (Nat × D)} {W0 : World} {G : Nat → Prop}

def rec0 (fn : FuncId) (tmps : Array Value) (p : Nat) (asg body : Code) (dd : Nat) : Loop :=
 { state := .ready,pending := none,fn := fn,tmps := tmps,params := #[p],assign := asg,body := body,defers := dd }

theorem V.range {g p n : Nat} {asg body : Code} {env0 : List (Nat × D)} {ids : List Nat} {f : FuncId} [hf : CaT P f] {caps xs : List D} {bxs : Nat → List (Nat × Bx)} {Stop : Exit → List (Nat × Bx) → Prop} (J : Nat → Prop)
 {Q : Exit → Bool × Sg → Prop} (hgl : Glw gl W0 G) (hI : Itr P gl f caps xs) (hg : lk env0 g = some (.fn f caps)) (hnp : ∀ d ∈ caps,d.np = true) (hp : p < n) (hpe : purEnv env0 = true)
 (hkeys : ∀ id,(lk (bxs 0) id).isSome = memN ids id) (hf0 : frsBx (bxs 0)) (hxs : ∀ k (h : k < xs.length),xs[k].pur = true ∧ xs[k].np = true)
 (hJ : J 0)
 (hround : ∀ k (h : k < xs.length),J k → ∀ C' : Ctx,C'.gl = gl → (∀ id b,C'.pin id = some b → memN ids id = true) → W P C' asg (fun e σ' => e = .normal ∧ ∀ C' : Ctx,C'.gl = gl → (∀ id b,C'.pin id = some b → memN ids id = true) →
  W P C' body (fun e σ' => (e = .normal ∧ (keepB ids σ'.bx = bxs (k + 1) ∧ J (k + 1)) ∨ (e = .ret ∨ ∃ id,e = .exit id) ∧ Stop e (keepB ids σ'.bx)) ∧ frsBx (keepB ids σ'.bx)) σ') ((⟨n,env0,bxs k⟩ : Sg).set p xs[k]))
 (hN : J xs.length → Q .normal (true,⟨n,env0,bxs xs.length⟩)) (hS : ∀ e bx,(e = .ret ∨ ∃ id,e = .exit id) → Stop e bx → Q e (true,⟨n,env0,bx⟩)) :
 V P none (AM (relF gl W0 G)) (.rangeFunc (.tmp g) #[p] asg body) Q (false,⟨n,env0,bxs 0⟩) := by
 intro a w ⟨C,⟨h1,h2,h3,h4,h5,h6,h7⟩,ρ,Fe,Fb,st⟩
 have hlt := st.lt
 have hpure : ∀ t d,lk env0 t = some d → ∃ v,a.tmps[t]? = some v ∧ VR w ρ (gd C Fe Fb) (fun id => memN ids id = true) d v [] := by
  intro t d hd
  obtain ⟨hp1,hp2⟩ := purEnv_get hpe hd
  obtain ⟨v,hv,hr⟩ := (SR_plain hp2).1 (st.env t d hd)
  have := hr.pur hp1
  rw [this] at hr
  exact ⟨v,hv,hr.mono (fun _ _ _ => rfl) (fun _ h _ => h) (fun id hid => ⟨by rw [← hkeys]; exact hid,rfl⟩)⟩
 obtain ⟨vg,hvg,hrg⟩ := hpure g _ hg
 simp only [VR,D.isAgg,Bool.false_eq_true,if_false] at hrg
 obtain ⟨vs,rfl,hvl,hva,hvr⟩ : ∃ vs : List Value,vg = .func (.func f) #[] vs.toArray ∧ vs.length = caps.length ∧ (∀ k (h : k < caps.length),caps[k].isAgg = false) ∧ ∀ k (h : k < caps.length),Rc w ρ (gd C Fe Fb) (fun id => memN ids id = true) true caps[k] [vs.getD k undef] [] := by
  cases hrg
  exact ⟨_,rfl,‹_›,‹_›,‹_›⟩
 refine wpIn_rangeFunc fun fn _ => ?_
 let r0 := rec0 fn a.tmps p asg body w.heap.size
 let w2 : World := (w.alloc (.deferred (some []))).alloc (.loop r0)
 have hw2 : ∀ b,b < w.heap.size → w2.heap[b]? = w.heap[b]? := fun b hb => by
  show ((w.heap.push _).push _)[b]? = _
  rw [Array.getElem?_push_lt (by simp; omega),Array.getElem_push_lt hb,Array.getElem?_eq_getElem hb]
 have hw2d : w2.heap[w.heap.size]? = some (.deferred (some [])) := by
  show ((w.heap.push _).push _)[w.heap.size]? = _
  rw [Array.getElem?_push_lt (by simp)]
  simp
 have hw2l : w2.heap[w.heap.size + 1]? = some (.loop r0) := by
  show ((w.heap.push (.deferred (some []))).push _)[w.heap.size + 1]? = _
  have e : w.heap.size + 1 = (w.heap.push (Obj.deferred (some []))).size := by simp
  rw [e,Array.getElem?_push_size]
 have hw2s : w2.heap.size = w.heap.size + 2 := by
  show ((w.heap.push _).push _).size = _
  simp
 have hevg : a.eval (.tmp g) = .func (.func f) #[] vs.toArray := eval_tmp hvg
 obtain ⟨ff,hff1,hff2,hff3⟩ := hf.i
 refine ⟨w.heap.size + 1,[markOf w.heap.size],w2,{ target := .fn (.func f) vs.toArray,args := #[.func (.yield (w.heap.size + 1)) #[] #[]] },w2,f,#[.func (.yield (w.heap.size + 1)) #[] #[]] ++ vs.toArray,w2, ?_, ?_,(fun _ _ => trivial), ?_,(fun h => by cases h), ?_⟩
 · exact run_enterLoop_outer fn a.tmps #[p] asg body
 · simp [resolve,rangeCall,hvg,Deferred.ofValue,Act.eval]
 · simp [invoke,run_callFunc hff1 hff2 hff3]
 let sz := w.heap.size
 let l := w.heap.size + 1
 let dd := w.heap.size
 let G1 : Nat → Prop := fun b => gd C Fe Fb b ∧ b < w.heap.size
 let Y : Yt := fun k s O w' => (s = false → (k ≤ xs.length ∧ J k) ∧ w'.heap[l]? = some (.loop r0) ∧ ∃ Fb',Last C n a env0 ids ρ G1 sz l dd (bxs k) Fb' O w') ∧
  (s = true → ∃ e c bx Fb',(e = .ret ∨ ∃ id,e = .exit id) ∧ Stop e bx ∧ jmp e = some c ∧ w'.heap[l]? = some (.loop { r0 with state := .done,pending := some c }) ∧ Last C n a env0 ids ρ G1 sz l dd bx Fb' O w')
 have hkl : ∀ b,C.keep b → b < w.heap.size := fun b hb => Nat.lt_of_lt_of_le (st.kept b hb).2 st.grown
 have hz : ∀ b,sz ≤ b → ¬ C.keep b := fun b hb hc => by have := hkl b hc; have : sz = w.heap.size := rfl; omega
 have hY : Stable Y := by
  intro k s O O' w₁ w₂ ⟨y1,y2⟩ ha
  have hrec : ∀ bx Fb' o,Last C n a env0 ids ρ G1 sz l dd bx Fb' O w₁ → w₁.heap[l]? = some o → w₂.heap[l]? = some o := fun bx Fb' o hL ho => by
   rw [ha.same l (Array.getElem?_eq_some_iff.1 ho).1 (fun hc => (hL.O_ge l hc).2.1 rfl)]
   exact ho
  refine ⟨fun hs => ?_,fun hs => ?_⟩
  · obtain ⟨q1,q2,Fb',q3⟩ := y1 hs
    exact ⟨q1,hrec _ _ _ q3 q2,Fb',q3.apart hz ha⟩
  · obtain ⟨e,c,bx,Fb',q1,q2,q3,q4,q5⟩ := y2 hs
    exact ⟨e,c,bx,Fb',q1,q2,q3,hrec _ _ _ q5 q4,q5.apart hz ha⟩
 have hgC : ∀ g' d,(g',d) ∈ C.gl → C.keep g' ∧ G1 g' ∧ ∃ cs e fz,C.w0.heap[g']? = some (.cells cs e fz) ∧ Rc C.w0 (fun x => x) (fun _ => False) (fun _ => False) false d cs.toList [] := fun g' d hgd => by
  obtain ⟨q1,q2,q3⟩ := st.gl g' d hgd
  exact ⟨q1,⟨⟨q2,fun ho => st.new g' ho q1⟩,hkl g' q1⟩,q3⟩
 have hL0 : Last C n a env0 ids ρ G1 sz l dd (bxs 0) Fb (fun _ => False) w2 := by
  refine Last.mk hkeys hf0 (fun t d hd => ?_) (fun id d hd => ?_) (fun id hid => st.bxN id hid) st.nodB st.dBB (fun id b hb => ?_) (fun b hb => hb.elim) (fun b hb => ?_) (fun b hb => ?_) st.os st.tape st.output (by rw [hw2s]; show w.heap.size ≤ _; omega) (by rw [hw2s]; show w.heap.size + 1 < _; omega) (by rw [hw2s]; show w.heap.size < _; omega) (by show w.heap.size + 1 ≠ w.heap.size; omega) hw2d
  · obtain ⟨v,q1,q2⟩ := hpure t d hd
    exact ⟨v,q1,q2.mono (fun b hb hl => hw2 b hl) (fun b hb hl => ⟨hb,hl⟩) (fun _ h => ⟨h,rfl⟩)⟩
  · obtain ⟨d0,hd0,hfr,hn0⟩ := frsBx_get hf0 hd
    cases hd0
    obtain ⟨cs,e,F',q1,q2,q3⟩ := st.bx id _ hd
    have hbl : ρ id < w.heap.size := (Array.getElem?_eq_some_iff.1 q1).1
    exact ⟨cs,e,F',(hw2 _ hbl).trans q1,q2.frsAll hfr hn0 (fun b hb hl => hw2 b hl),q3⟩
  · have hbl : b < w.heap.size := hlt b (.inr ⟨id,hb⟩)
    exact ⟨st.new b (.inr ⟨id,hb⟩),(fun h => h),(fun hc => hc.1.2 (.inr ⟨id,hb⟩)),by show b ≠ w.heap.size + 1; omega,by show b ≠ w.heap.size; omega,by rw [hw2s]; omega⟩
  · have hbl : b < w.heap.size := hb.2
    exact ⟨hb.2,by show b ≠ w.heap.size + 1; omega,by show b ≠ w.heap.size; omega⟩
  · have hbl := hkl b hb
    exact ⟨(hw2 b hbl).trans (st.kept b hb).1,hbl,by show b ≠ w.heap.size + 1; omega,by show b ≠ w.heap.size; omega⟩
 have hcalls := hI w2 G1 vs l Y (fun b hb => by rw [hw2s]; have : b < w.heap.size := hb.2; omega) (fun g' d hgd => by
  obtain ⟨q1,cs,e,fz,q2,q3⟩ := gl_ok st g' d (by rw [h1]; exact hgd)
  have hbl := (Array.getElem?_eq_some_iff.1 q2).1
  exact ⟨⟨q1,hbl⟩,cs,e,fz,(hw2 g' hbl).trans q2,q3.mono (fun b hb _ => by rcases hb with hb | hb; exact hb.elim; cases hb) (fun _ h => h.elim) (fun _ h => h.elim)⟩) hvl (fun k hk => by
  have hn := hnp _ (List.getElem_mem hk)
  have hv : VR w ρ (gd C Fe Fb) (fun id => memN ids id = true) caps[k] (vs.getD k undef) [] := by
   simp only [VR,hva k hk,Bool.false_eq_true,if_false]
   exact hvr k hk
  exact (hv.noL (ρ' := fun x => x) (L' := fun _ => False) hn).mono (fun b hb hl => hw2 b hl) (fun b hb hl => ⟨hb,hl⟩) (fun _ h => h.elim)) hY
  (fun k O w₁ v hk hYk hO hv => by
   obtain ⟨⟨_,hJk⟩,hrec,Fb',hL⟩ := hYk.1 rfl
   have ha := hround k hk hJk
   have hround' := hL.round (r := r0) hrec rfl rfl rfl rfl rfl st.size hO hp hv (hxs k hk).1 (hxs k hk).2 hpe hgC (E := fun e bx' => e = .normal ∧ (bx' = bxs (k + 1) ∧ J (k + 1)) ∨ (e = .ret ∨ ∃ id,e = .exit id) ∧ Stop e bx')
    (fun C' hC' hD' => (ha C' (hC'.trans h1) hD').mono (fun e s h => ⟨h.1,fun C'' hC'' hD'' => h.2 C'' (hC''.trans h1) hD''⟩)) (fun e bx' he => he.elim (fun h => .inl h.1) (fun h => .inr h.1))
   obtain ⟨f',tm,as',bd,hrun,hR⟩ := hround'
   refine ⟨f',tm,as',bd,hrun,hR.mono ?_⟩
   rintro e' w₂ ⟨s,he',e,bx',Fb'',hE,hs,hrec',hL',hsame,hsz⟩
   refine ⟨s,he', ?_,fun b hb hl => ?_,hsz⟩
   · rcases hE with ⟨rfl,rfl,hJ1⟩ | ⟨hee,hst⟩
     · have : s = false := hs
       subst this
       exact ⟨fun _ => ⟨⟨hk,hJ1⟩,hrec',Fb'',hL'⟩,fun h => by cases h⟩
     · obtain ⟨c,hc⟩ : ∃ c,jmp e = some c := by rcases hee with rfl | ⟨id,rfl⟩ <;> exact ⟨_,rfl⟩
       rw [hc] at hs hrec'
       have : s = true := hs
       subst this
       exact ⟨fun h => (by cases h),fun _ => ⟨e,c,bx',Fb'',hee,hst,hc,hrec',hL'⟩⟩
   · refine hsame b hl (fun ⟨id,hid⟩ => ?_) (fun hbl => ?_)
     · obtain ⟨q1,q2,q3,q4,q5,q6⟩ := hL.own id b hid
       exact hb.elim q3 q2
     · rcases hb with hb | hb
       · exact (hL.G1_lt b hb).2.1 hbl
       · exact (hL.O_ge b hb).2.1 hbl)
  ⟨fun _ => ⟨⟨Nat.zero_le _,hJ⟩,hw2l,Fb,hL0⟩,fun h => by cases h⟩
 refine callsIn_wide.2 (Calls.mono hcalls ?_)
 rintro e w₃ ⟨⟨v,rfl⟩,k,s,O,hYk,hend⟩
 have hdfs : a.defers = [] := by rw [st.defs,h7]
 have hfin : ∀ bx Fb' (o : Obj),Last C n a env0 ids ρ G1 sz l dd bx Fb' O w₃ → AM (relF gl W0 G) (true,⟨n,env0,bx⟩) { a with defers := [markOf w.heap.size] ++ a.defers } (w₃.putObj l o) := fun bx Fb' o hL => by
  rw [hdfs]
  exact hL.finish st.size hpe h4 (fun b hb => h6 b hb.1.1) h5 (Nat.le_trans h5.size st.grown) hgl o
 cases s with
 | false =>
  have hke : k = xs.length := hend.resolve_left (by simp)
  subst hke
  obtain ⟨⟨_,hJk⟩,hrec,Fb',hL⟩ := hYk.1 rfl
  refine ⟨_,_,run_endLoop hrec (by simp [r0,rec0]), ?_⟩
  exact ⟨_,hfin _ Fb' _ hL,hN hJk⟩
 | true =>
  obtain ⟨e,c,bx,Fb',hee,hst,hc,hrec,hL⟩ := hYk.2 rfl
  refine ⟨_,_,run_endLoop hrec (by simp), ?_⟩
  rcases hee with rfl | ⟨id,rfl⟩
  · cases hc
    exact wpIn_ret ⟨_,hfin _ Fb' _ hL,hS _ _ (.inl rfl) hst⟩
  · cases hc
    exact wpIn_exit ⟨_,hfin _ Fb' _ hL,hS _ _ (.inr ⟨_,rfl⟩) hst⟩

theorem Fn.ofR {f : FuncId} {fn : Func} {c : Code} {ds : List D} {r : D} {n : Nat} (hf : P.funcs[f]? = some fn) (hb : fn.body = some c) (hnn : fn.ntmps = n)
 (hd : ds.all (fun d => !d.isRef) = true) (hn : ds.length ≤ n)
 (h : ∀ (W0 : World) (G : Nat → Prop),Glw gl W0 G → V P none (AM (relF gl W0 G)) c (fun e i => Ends fn.results.toList P r e i.2) (false,⟨n,ini 0 ds,[]⟩)) : Fn P gl f ds r := by
 subst hnn
 intro w G vs hgl hl hv
 refine callsIn_wide.1 (callsIn_of_wp_marks (n := 3) hf hb trivial ?_)
 have hglw : Glw gl w G := fun g d hg => by
  obtain ⟨h1,cs,e,fz,h2,h3⟩ := hgl g d hg
  exact ⟨(Array.getElem?_eq_some_iff.1 h2).1,h1,cs,e,fz,h2,h3⟩
 let C : Ctx := ⟨w,fun b => b < w.heap.size,fun b => G b ∨ w.heap.size ≤ b,gl,none,fun _ => none,[]⟩
 have hget : ∀ t d,(⟨fn.ntmps,ini 0 ds,[]⟩ : Sg).get t = some d → ∃ h : t < ds.length,ds[t] = d := by
  intro t d hd
  simp only [Sg.get,lk_ini,Nat.zero_le,if_true,Nat.sub_zero] at hd
  obtain ⟨h,e⟩ := List.getElem?_eq_some_iff.1 hd
  exact ⟨h,e⟩
 have hown : ∀ b,¬ own (fun _ => []) (fun _ => []) b := by rintro b (⟨_,h⟩ | ⟨_,h⟩) <;> cases h
 have st : StW C ⟨fn.ntmps,ini 0 ds,[]⟩ { tmps := vs.toArray ++ Array.replicate (fn.ntmps - vs.toArray.size) undef,defers := [] } w (fun x => x) (fun _ => []) (fun _ => []) := by
  refine ⟨?_,rfl,(fun _ _ hp => by cases hp), ?_,fun _ _ => rfl, ?_,fun _ _ => rfl,fun _ => List.nodup_nil,fun _ => List.nodup_nil,(fun _ _ _ _ h => by cases h),(fun _ _ _ h => by cases h),(fun _ _ _ _ h => by cases h),fun b hb => absurd hb (hown b), ?_,rfl,rfl,rfl,Nat.le_refl _, ?_,fun b hb => .inr hb,fun b hb => absurd hb (hown b)⟩
  · simp [hl]; omega
  · intro t d hd'
    obtain ⟨ht,rfl⟩ := hget t d hd'
    have hr : ds[t].isRef = false := by
     have := List.all_eq_true.1 hd ds[t] (List.getElem_mem ht)
     simpa using this
    refine (SR_plain hr).2 ⟨vs.getD t undef, ?_,(hv t ht).mono (fun _ _ _ => rfl) (fun b hb _ => ⟨.inl hb,hown b⟩) (fun id hid => hid.elim)⟩
    have htv : t < vs.length := by omega
    rw [Array.getElem?_append_left (by simpa using htv)]
    simp [htv]
  · intro id d hd'; cases hd'
  · intro b hb; exact ⟨rfl,hb⟩
  · intro g d hg
    obtain ⟨h1,cs,e,fz,h2,h3⟩ := hgl g d hg
    exact ⟨(Array.getElem?_eq_some_iff.1 h2).1,.inl h1,cs,e,fz,h2,h3⟩
 have hstart : AM (relF gl w G) (false,⟨fn.ntmps,ini 0 ds,[]⟩) { tmps := vs.toArray ++ Array.replicate (fn.ntmps - vs.toArray.size) undef,defers := [] } w :=
  ⟨C,⟨rfl,rfl,fun _ => rfl,fun b hb => hb,⟨rfl,rfl,rfl,Nat.le_refl _,fun _ _ => rfl⟩,fun b hb => hb,rfl⟩,_,_,_,st⟩
 refine Go.Code.wpIn_mono ?_ (h w G hglw _ w hstart)
 rintro e a' w' ⟨⟨m,σ'⟩,⟨C',⟨h1,h2,h3,h4,h5,h6,h7⟩,ρ,Fe,Fb,st'⟩,hends⟩
 have he := hends.1
 have hleave : LeavesInM (Fr none) 3 P fn a'.tmps (fun e w' => ∃ v F,e = .returned v ∧ Ext w w' ∧ F.Nodup ∧ (∀ b ∈ F,w.heap.size ≤ b) ∧
  RV w' (fun x => x) (fun b => (G b ∨ w.heap.size ≤ b) ∧ b ∉ F) (fun _ => False) r v F) a'.defers .returning w' := by
  cases m with
  | false =>
   obtain ⟨v,k1,F,k2,k3,k4⟩ := Ends.out st' hends
   rw [st'.defs,h7]
   refine ⟨v,k1,v,F,rfl,⟨st'.os.trans h5.os,st'.tape.trans h5.tape,st'.output.trans h5.output,Nat.le_trans h5.size st'.grown,fun b hb => ?_⟩,k2,fun b hb => Nat.le_of_not_lt (fun hc => st'.new b (k3 b hb) (h4 b hc)),k4.mono (fun _ _ _ => rfl) (fun b hb _ => ⟨h6 b hb.1,hb.2⟩) (fun _ h => h.elim)⟩
   rw [(st'.kept b (h4 b hb)).1,h5.block b hb]
  | true =>
   obtain ⟨dd,hd1,hd2,hd3,hd4,hd5⟩ := h7
   have hd6 : w'.heap[dd]? = some (.deferred (some [])) := by rw [(st'.kept dd hd3).1]; exact hd4
   let C2 : Ctx := ⟨w'.putObj dd (.deferred none),fun _ => False,C'.ok,[],none,C'.pin,C'.df⟩
   have hput : ∀ b,b ≠ dd → (w'.putObj dd (.deferred none)).heap[b]? = w'.heap[b]? := fun b hb => World.putObj_heap_other hb
   have st2 : StW C2 σ' a' (w'.putObj dd (.deferred none)) ρ Fe Fb := by
    refine st'.rebase C2 rfl rfl (fun b hb hl => hput b (fun hc => ?_)) (fun b hb _ => hb.1) (fun b hb hc => hc) (fun b hb => hb.elim) rfl rfl rfl (Nat.le_refl _) (fun g d hg => by cases hg) (fun b hb => st'.okN b (by rw [World.putObj_size] at hb; exact hb)) (fun b hb => st'.okO b hb)
    subst hc
    exact hd5 (hb.elim (fun h => h.1) (fun h => st'.okO _ h))
   obtain ⟨v,k1,F,k2,k3,k4⟩ := Ends.out st2 hends
   rw [st'.defs,hd1]
   refine ⟨by simp,.inl ⟨dd,_,rfl,run_takeDeferred hd6,v,k1,v,F,rfl,⟨?_, ?_, ?_, ?_,fun b hb => ?_⟩,k2,fun b hb => Nat.le_of_not_lt (fun hc => st'.new b (k3 b hb) (h4 b hc)),k4.mono (fun _ _ _ => rfl) (fun b hb _ => ⟨h6 b hb.1,hb.2⟩) (fun _ h => h.elim)⟩⟩
   · exact st'.os.trans h5.os
   · exact st'.tape.trans h5.tape
   · exact st'.output.trans h5.output
   · rw [World.putObj_size]; exact Nat.le_trans h5.size st'.grown
   · rw [hput b (by omega),(st'.kept b (h4 b hb)).1,h5.block b hb]
 rcases he with rfl | rfl <;> exact hleave
end Go.Sx

namespace Go.Sx

variable {P : Program} {C : Ctx} {σ σ' σ1 : Sg} {a : Act} {w w' : World} {ρ : Nat → Nat} {Fe Fe' Fb : Nat → List Nat}

theorem R.ext {s t k : Nat} {ds : List D} {d : D} {rt : TypeId} {pos : String} {aft : Array Edge} {g : Option (Nat × Bool)}
 (h : σ.get s = some (.tup ds)) (hk : ds[k]? = some d) (hp : d.pur = true) (ht : t < σ.n) : OpS P C ⟨some t,.extract (.tmp s) k,rt,pos,aft,g⟩ σ (σ.set t d) := by
 refine OpS.value fun a w ⟨ρ,Fe,Fb,st⟩ => ?_
 obtain ⟨vs,Fs,h1,h2,h3,h4⟩ := st.env s _ h
 obtain ⟨hkl,hkd⟩ := List.getElem?_eq_some_iff.1 hk
 rcases h4 k hkl with ⟨h5,_⟩ | ⟨h5,h6⟩
 · rw [hkd] at h5; subst h5; simp [D.pur] at hp
 · rw [hkd] at h5 h6
   have hF := h6.pur hp
   rw [hF] at h6
   have hv : vs[k]? = some (vs.getD k undef) := by
    have : k < vs.length := by omega
    rw [List.getD_eq_getElem?_getD,List.getElem?_eq_getElem this]; rfl
   refine ⟨vs.getD k undef,w, ?_,st.put ht h5 h6⟩
   generalize vs.getD k undef = x at hv
   have hx : vs.toArray[k]? = some x := by rw [List.getElem?_toArray]; exact hv
   unfold execOp
   simp only [Instr.extract,eval_tmp h1,hx,Sem.run_bind,Sem.run_pure,Result.andThen_ok]
theorem R.movT {s t : Nat} {ds : List D} {rt : TypeId} {pos : String} {aft : Array Edge} {g : Option (Nat × Bool)}
 (h : σ.get s = some (.tup ds)) (hp : D.purs ds = true) (ht : t < σ.n) : OpS P C ⟨some t,.move (.tmp s),rt,pos,aft,g⟩ σ (σ.set t (.tup ds)) := by
 refine OpS.value fun a w ⟨ρ,Fe,Fb,st⟩ => ?_
 obtain ⟨vs,Fs,h1,h2,h3,h4⟩ := st.env s _ h
 refine ⟨_,w,rfl,st.putRef ht ?_⟩
 rw [eval_tmp h1]
 refine ⟨vs,fun _ => [], ?_,h2, ?_,fun k hk => ?_⟩
 · rw [put_get a t _ t (by rw [st.size]; exact ht)]; simp
 · symm; rw [List.flatMap_eq_nil_iff]; intros; rfl
 · have hpk := purs_get ds hp k hk
   rcases h4 k hk with ⟨h5,_⟩ | ⟨h5,h6⟩
   · rw [h5] at hpk; simp [D.pur] at hpk
   · have hF := h6.pur hpk
     rw [hF] at h6
     exact .inr ⟨h5,h6.mono (fun _ _ _ => rfl) (fun b hb _ => ⟨hb.1,fun ho => hb.2 (own_upd ho)⟩) (fun id hid => ⟨hid,rfl⟩)⟩
theorem R.mkfn {t f : Nat} {xs : List Operand} {ds : List D} {rt : TypeId} {pos : String} {aft : Array Edge} {g : Option (Nat × Bool)} (hl : xs.length = ds.length)
 (h : ∀ k (h : k < xs.length) (h' : k < ds.length),ev C.gl σ xs[k] = some ds[k] ∧ ds[k].pur = true ∧ ds[k].isAgg = false) (ht : t < σ.n) :
 OpS P C ⟨some t,.makeFunc (.func f) #[] xs.toArray,rt,pos,aft,g⟩ σ (σ.set t (.fn f ds)) := by
 refine OpS.value fun a w ⟨ρ,Fe,Fb,st⟩ => ?_
 refine ⟨.func (.func f) #[] (xs.map a.eval).toArray,w, ?_,st.put ht rfl ?_⟩
 · unfold execOp
   simp [Instr.makeFunc]
 · simp only [VR,D.isAgg,Bool.false_eq_true,if_false]
   refine .fn f ds (xs.map a.eval) (by simp [hl]) (fun k hk => (h k (by omega) hk).2.2) (fun k hk => ?_)
   obtain ⟨h1,h2,h3⟩ := h k (by omega) hk
   obtain ⟨F,hv,_⟩ := ev_ok st h1 (pur_ref h2)
   have hF := hv.pur h2
   rw [hF] at hv
   simp only [VR,h3,Bool.false_eq_true,if_false] at hv
   have e : (xs.map a.eval).getD k undef = a.eval xs[k] := by
    have : k < xs.length := by omega
    simp [List.getD_eq_getElem?_getD,this]
   rw [e]
   exact hv
theorem R.mkfn1 {t f : Nat} {x : Operand} {d : D} {rt : TypeId} {pos : String} {aft : Array Edge} {g : Option (Nat × Bool)} (h : ev C.gl σ x = some d) (hp : d.pur = true) (ha : d.isAgg = false) (ht : t < σ.n) :
 OpS P C ⟨some t,.makeFunc (.func f) #[] #[x],rt,pos,aft,g⟩ σ (σ.set t (.fn f [d])) := by
 refine R.mkfn (xs := [x]) rfl (fun k h1 h2 => ?_) ht
 have : k = 0 := by simp at h1; omega
 subst this
 exact ⟨h,hp,ha⟩

theorem St.frzS {s : Nat} {d d' : D} (h : σ.get s = some d) (hr : d.isRef = false) (he : d.brw = d') (hs : St C σ a w) : St C (σ.upd s d') a w := by
 obtain ⟨ρ,Fe,Fb,st⟩ := hs
 subst he
 obtain ⟨v,hv,hvr⟩ := (SR_plain hr).1 (st.env _ _ h)
 refine ⟨ρ,_,Fb,st.turn (F := []) h rfl rfl rfl (Nat.le_refl _) (fun _ _ _ => rfl) List.nodup_nil (by simp) ((SR_plain (by rw [isRef_brw]; exact hr)).2 ⟨v,hv, ?_⟩)⟩
 have hno : ∀ b,Go.Sx.own (Go.Sx.upd Fe s []) Fb b → Go.Sx.own Fe Fb b ∧ b ∉ Fe s := by
  rintro b (⟨u,hu⟩ | ⟨i,hi⟩)
  · by_cases hus : u = s
    · subst hus; simp at hu
    · rw [upd_other hus] at hu; exact ⟨.inl ⟨u,hu⟩,st.dEE u s hus b hu⟩
  · exact ⟨.inr ⟨i,hi⟩,fun hm => st.dEB s i b hm hi⟩
 exact hvr.brw (fun b hb => ⟨st.okO b (.inl ⟨s,hb⟩),fun ho => (hno b ho).2 hb⟩) (fun b hb _ => ⟨hb.1,fun ho => hb.2 (hno b ho).1⟩)
theorem W.frzS {c : Code} {Q : Exit → Sg → Prop} {s : Nat} {d d' : D} (h : σ.get s = some d) (hr : d.isRef = false) (he : d.brw = d') (k : W P C c Q (σ.upd s d')) : W P C c Q σ :=
 fun a w hs => k a w (St.frzS h hr he hs)

def frz1 (id : Nat) (d : D) (x : D) : D :=
 match x with
 | .ptr i 0 [] => bif Nat.beq i id then .rp d else .ptr i 0 []
 | x => x
def frzE (id : Nat) (d : D) : List (Nat × D) → List (Nat × D)
 | [] => []
 | (k,x) :: r => (k,frz1 id d x) :: frzE id d r
theorem lk_frzE (id : Nat) (d : D) (l : List (Nat × D)) (u : Nat) : lk (frzE id d l) u = (lk l u).map (frz1 id d) := by
 induction l with
 | nil => rfl
 | cons x r ih =>
  obtain ⟨k,x⟩ := x
  simp only [frzE,lk_cons,ih]
  split <;> rfl
theorem frz1_cases (id : Nat) (d x : D) : (x = .ptr id 0 [] ∧ frz1 id d x = .rp d) ∨ frz1 id d x = x := by
 unfold frz1
 split
 · rename_i i
   by_cases hi : i = id
   · subst hi; exact .inl ⟨rfl,by simp⟩
   · right; simp [nbeq hi]
 · exact .inr rfl
theorem St.frzB {id : Nat} {d d' : D} {ids : List Nat} {bx' : List (Nat × Bx)} {env' : List (Nat × D)} (hb0 : σ.box id = some (.var d)) (he : d.brw = d') (hnp : d'.np = true) (hid : memB ids id = false) (hb : keepB ids σ.bx = bx')
 (hE : frzE id d' σ.env = env') (hoE : okEnvB ids env' = true) (hoB : okBx ids bx' = true) (hpn : ∀ id b,C.pin id = some b → memB ids id = true) (hs : St C σ a w) : St C ⟨σ.n,env',bx'⟩ a w := by
 obtain ⟨ρ,Fe,Fb,st⟩ := hs
 have hl : ∀ u,lk bx' u = if memB ids u then σ.box u else none := fun u => by rw [← hb]; exact lk_keepB ids σ.bx u
 have hsub : ∀ id,∀ b ∈ (if memB ids id then Fb id else []),b ∈ Fb id := fun id b hm => by split at hm; exact hm; cases hm
 have hown : ∀ b,own Fe (fun id => if memB ids id then Fb id else []) b → own Fe Fb b := fun b hb => hb.imp (fun h => h) fun ⟨i,hi⟩ => ⟨i,hsub i b hi⟩
 have hgd : ∀ b,gd C Fe Fb b → gd C Fe (fun id => if memB ids id then Fb id else []) b := fun b hb => ⟨hb.1,fun hc => hb.2 (hown b hc)⟩
 have hgd2 : ∀ b ∈ Fb id,gd C Fe (fun id => if memB ids id then Fb id else []) b := fun b hb => ⟨st.okO b (.inr ⟨id,hb⟩),by
  rintro (⟨u,hu⟩ | ⟨i,hi⟩)
  · exact st.dEB u id b hu hb
  · by_cases hii : i = id
    · subst hii; simp [hid] at hi
    · exact st.dBB i id hii b (hsub i b hi) hb⟩
 have hL : ∀ i,(memB ids i = true ∧ (σ.box i).isSome) → (lk bx' i).isSome := fun i ⟨h1,h2⟩ => by rw [hl,if_pos h1]; exact h2
 refine ⟨ρ,Fe,(fun id => if memB ids id then Fb id else []),{
  size := st.size
  defs := st.defs
  pin := fun id b hp => ⟨(st.pin id b hp).1,hL id ⟨hpn id b hp,(st.pin id b hp).2⟩⟩
  env := fun t x hx => ?_
  envN := fun t ht => ?_
  bx := fun i b hd => ?_
  bxN := fun i hn => ?_
  nodE := st.nodE
  nodB := fun id => by show (if memB ids id then Fb id else []).Nodup; split; exact st.nodB id; exact List.nodup_nil
  dEE := st.dEE
  dEB := fun t i b hb hm => st.dEB t i b hb (hsub i b hm)
  dBB := fun i i' hne b hb hm => st.dBB i i' hne b (hsub i b hb) (hsub i' b hm)
  new := fun b hb => st.new b (hown b hb)
  kept := st.kept
  os := st.os
  tape := st.tape
  output := st.output
  grown := st.grown
  gl := st.gl
  okN := st.okN
  okO := fun b hb => st.okO b (hown b hb) }⟩
 · have hx0 : lk env' t = some x := hx
   have hok := okEnvB_get hoE hx0
   rw [← hE,lk_frzE,Option.map_eq_some_iff] at hx0
   obtain ⟨x0,hx1,hx2⟩ := hx0
   rcases frz1_cases id d' x0 with ⟨rfl,hf⟩ | hf
   · rw [hf] at hx2
     subst hx2
     obtain ⟨v,hv,hr⟩ := (SR_plain rfl).1 (st.env t _ hx1)
     refine (SR_plain rfl).2 ⟨v,hv, ?_⟩
     simp only [VR,D.isAgg,Bool.false_eq_true,if_false] at hr ⊢
     generalize Fe t = F at hr ⊢
     cases hr
     obtain ⟨cs,e,F',q1,q2,q3⟩ := st.bx id _ hb0
     have h4 := q2.brw (G' := gd C Fe (fun id => if memB ids id then Fb id else [])) (fun b hb => hgd2 b (by rw [q3]; exact List.mem_cons_of_mem _ hb)) (fun b hb _ => hgd b hb)
     have hlen := q2.len
     rw [he] at h4
     have hsz : d'.sz = d.sz := by rw [← he,sz_brw]
     refine .rp d' (ρ id) 0 cs e (0,0) q1 (hgd2 _ (by rw [q3]; simp)) (by rw [hsz]; simp at hlen; omega) ?_
     have hcs : (cs.toList.drop 0).take d'.sz = cs.toList := by rw [hsz,← hlen,List.drop_zero]; exact List.take_length
     rw [hcs]
     exact (h4.unflag hnp).noL
   · rw [hf] at hx2
     subst hx2
     exact (st.env t _ hx1).okB hok (fun b hb _ => hgd b hb) hL
 · have ht' : lk env' t = none := ht
   rw [← hE,lk_frzE,Option.map_eq_none_iff] at ht'
   exact st.envN t ht'
 · obtain ⟨x,rfl,hok⟩ := okBx_get hoB hd
   have h1 := hl i
   by_cases hm : memB ids i = true
   · rw [if_pos hm] at h1
     have h2 : σ.box i = some (.var x) := by rw [← h1]; exact hd
     obtain ⟨cs,e,F',h3,h4,h5⟩ := st.bx i _ h2
     refine ⟨cs,e,F',h3,(h4.okB hok).mono (fun _ _ _ => rfl) (fun b hb _ => hgd b hb) (fun i hi => ⟨hL i hi,rfl⟩),by simp only [hm,if_true]; exact h5⟩
   · rw [if_neg hm] at h1
     rw [show lk bx' i = some (.var x) from hd] at h1
     cases h1
 · have h1 := hl i
   by_cases hm : memB ids i = true
   · rw [if_pos hm] at h1
     simp only [hm,if_true]
     exact st.bxN i (by rw [← h1]; exact hn)
   · simp [hm]
theorem W.frzB {c : Code} {Q : Exit → Sg → Prop} (id : Nat) {d d' : D} (ids : List Nat) {bx' : List (Nat × Bx)} {env' : List (Nat × D)} (hb0 : σ.box id = some (.var d)) (he : d.brw = d') (hnp : d'.np = true) (hid : memB ids id = false) (hb : keepB ids σ.bx = bx')
 (hE : frzE id d' σ.env = env') (hoE : okEnvB ids env' = true) (hoB : okBx ids bx' = true) (hpn : ∀ id b,C.pin id = some b → memB ids id = true) (h : W P C c Q ⟨σ.n,env',bx'⟩) : W P C c Q σ :=
 fun a w hs => h a w (St.frzB hb0 he hnp hid hb hE hoE hoB hpn hs)

def D.brwR : D → D
 | .tup ds => .tup (ds.map D.brw)
 | d => d.brw
theorem RV.brwR {G G' L : Nat → Prop} {r : D} {v : Value} {F : List Nat} (h : RV w ρ G L r v F) (hF : ∀ b ∈ F,G' b) (hG : ∀ b,G b → b < w.heap.size → G' b) : RV w ρ G' L r.brwR v [] := by
 cases r with
 | tup ds =>
  obtain ⟨vs,Fs,h1,h2,h3,h4⟩ := h
  refine ⟨vs,fun _ => [],h1,by simp [h2], ?_,fun k hk => ?_⟩
  · symm; rw [List.flatMap_eq_nil_iff]; intros; rfl
  · have hk' : k < ds.length := by simpa using hk
    obtain ⟨h5,h6⟩ := h4 k hk'
    have e : (ds.map D.brw)[k] = ds[k].brw := by simp
    rw [e]
    exact ⟨by rw [isRef_brw]; exact h5,h6.brw (fun b hb => hF b (by rw [h3]; exact List.mem_flatMap.2 ⟨k,List.mem_range.2 hk',hb⟩)) hG⟩
 | _ =>
  have h1 := h.1
  have h2 := (RV_plain h1).1 h
  exact (RV_plain (by rw [D.brwR,isRef_brw]; exact h1; all_goals (intro ds hc; cases hc))).2 (by rw [D.brwR]; exact h2.brw hF hG; all_goals (intro ds hc; cases hc))
theorem R.callZ {f : FuncId} [CaT P f] {t : Nat} {args : List Operand} {tys : Array TypeId} {rt : TypeId} {pos : String} {aft : Array Edge} {g : Option (Nat × Bool)} {gl : List (Nat × D)} {ds : List D} {r r' : D}
 (hF : Fn P gl f ds r) (hgl : C.gl = gl) (hb : Bors C.gl σ args ds) (hr : FrsR r) (hr' : r.brwR = r') (ht : t < σ.n) :
 OpS P C ⟨some t,.call { callee := .value (.func f),args := args.toArray,argTypes := tys },rt,pos,aft,g⟩ σ (σ.set t r') := by
 subst hgl; subst hr'
 intro a w ⟨ρ,Fe,Fb,st⟩ K Q hK
 refine wpIn_of_run (run_call a w) (by simp) ?_
 rw [Oper.uponIn_enter]
 have hc := hF w (fun b => b < w.heap.size) (args.map a.eval) (fun g d hg => by
  obtain ⟨_,cs,e,fz,h1,h2⟩ := gl_ok st g d hg
  exact ⟨(Array.getElem?_eq_some_iff.1 h1).1,cs,e,fz,h1,h2⟩) (by simp [hb.len]) (hb.ok st)
 simp only [List.map_toArray]
 refine ⟨(fun h => by cases h),(callsIn_fx (Calls.mono hc ?_))⟩
 rintro e w' ⟨v,F,rfl,hext,hnd,hnew,hv⟩
 have hlt := st.lt
 have hput : (a.put (some t) v).tmps[t]? = some v := by rw [put_get a t v t (by rw [st.size]; exact ht)]; simp
 refine hK _ _ ⟨ρ,upd Fe t [],Fb,st.ext ht hext List.nodup_nil (by simp) (RV.slot ?_ hput)⟩
 have h0 : RV w' ρ (fun _ => False) (fun id => (σ.box id).isSome) r v F := by
  refine hv.map Frs hr (fun d v F' hF' hd hx => ?_)
  have h1 := hx.frs (G' := fun _ => False) hd
  exact h1.mono (fun _ _ _ => rfl) (fun b hb _ => hb.elim) (fun id hid => hid.elim)
 exact h0.brwR (fun b hb => ⟨st.okN b (hnew b hb),fun ho => by have := hlt b (own_upd ho); have := hnew b hb; omega⟩) (fun _ h _ => h.elim)

theorem St.takeB {id t e z : Nat} {l : List D} (h : σ.get t = some (.alb id 0 [])) (hb : σ.box id = some (.var (.sl (some e) z l))) (hs : St C σ a w) :
 St C ((σ.putB id (.var .dead)).upd t (.sl (some e) z l)) a w := by
 obtain ⟨ρ,Fe,Fb,st⟩ := hs
 obtain ⟨hFt,hid,v,hv,hcell⟩ := st.env t _ h
 obtain ⟨cs,e0,F',q1,q2,q3⟩ := st.bx id _ hb
 have hlen := q2.len
 obtain ⟨v0,hv0⟩ : ∃ v0,cs.toList = [v0] := by
  have : cs.toList.length = 1 := hlen
  match hcs : cs.toList,this with
  | [x],_ => exact ⟨x,rfl⟩
 have hvv : v0 = v := by
  have : cs[0]? = some v0 := by rw [← Array.getElem?_toList,hv0]; rfl
  simp only [World.cell?,q1] at hcell
  rw [this] at hcell
  cases hcell; rfl
 subst hvv
 have hnd : (ρ id :: F').Nodup := by have := st.nodB id; rw [q3] at this; exact this
 have hmem : ∀ b,b ∈ F' → b ∈ Fb id := fun b hb => by rw [q3]; exact List.mem_cons_of_mem _ hb
 have hin : ρ id ∈ Fb id := by rw [q3]; simp
 have hot : ∀ b,own (upd Fe t F') (upd Fb id [ρ id]) b → own Fe Fb b := by
  rintro b (⟨u,hu⟩ | ⟨i,hi⟩)
  · by_cases hut : u = t
    · subst hut; rw [upd_same] at hu; exact .inr ⟨id,hmem b hu⟩
    · rw [upd_other hut] at hu; exact .inl ⟨u,hu⟩
  · by_cases hii : i = id
    · subst hii; rw [upd_same] at hi; simp at hi; subst hi; exact .inr ⟨i,hin⟩
    · rw [upd_other hii] at hi; exact .inr ⟨i,hi⟩
 have hg : ∀ b,gd C Fe Fb b → gd C (upd Fe t F') (upd Fb id [ρ id]) b := fun b hb => ⟨hb.1,fun hc => hb.2 (hot b hc)⟩
 have hbox : ∀ i,((σ.putB id (.var .dead)).upd t (.sl (some e) z l)).box i = if i = id then some (.var .dead) else σ.box i := fun i => by
  rw [box_upd,box_putB]
  by_cases hi : i = id
  · subst hi; simp [hb]
  · simp [hi]
 have hL : ∀ i,(σ.box i).isSome = true → (((σ.putB id (.var .dead)).upd t (.sl (some e) z l)).box i).isSome = true := fun i hi => by
  rw [hbox]; by_cases hii : i = id
  · simp [hii]
  · simpa [hii] using hi
 refine ⟨ρ,upd Fe t F',upd Fb id [ρ id],{
  size := st.size
  defs := st.defs
  pin := fun i b hp => ⟨(st.pin i b hp).1,hL i (st.pin i b hp).2⟩
  env := fun u x hx => ?_
  envN := fun u hu => ?_
  bx := fun i b hd => ?_
  bxN := fun i hn => ?_
  nodE := fun u => ?_
  nodB := fun i => ?_
  dEE := fun u u' hne b hb1 hb2 => ?_
  dEB := fun u i b hb1 hb2 => ?_
  dBB := fun i i' hne b hb1 hb2 => ?_
  new := fun b hb => st.new b (hot b hb)
  kept := st.kept
  os := st.os
  tape := st.tape
  output := st.output
  grown := st.grown
  gl := st.gl
  okN := st.okN
  okO := fun b hb => st.okO b (hot b hb) }⟩
 · rw [get_upd,get_putB] at hx
   by_cases hut : u = t
   · subst hut
     simp only [if_true,h,Option.map_some] at hx
     cases hx
     rw [upd_same]
     refine (SR_plain rfl).2 ⟨v0,hv, ?_⟩
     simp only [VR,D.isAgg,Bool.false_eq_true,if_false]
     rw [hv0] at q2
     exact q2.mono (fun _ _ _ => rfl) (fun b hb _ => hg b hb) (fun i hi => ⟨hL i hi,rfl⟩)
   · simp only [hut,if_false,Option.map_eq_some_iff] at hx
     obtain ⟨x0,hx0,rfl⟩ := hx
     rw [upd_other hut]
     have hsr := st.env u x0 hx0
     have hkeep : SR w ρ (gd C (upd Fe t F') (upd Fb id [ρ id])) (fun i => (((σ.putB id (.var .dead)).upd t (.sl (some e) z l)).box i).isSome) a u x0 (Fe u) :=
      SR_keep hsr (fun _ _ _ => rfl) (fun b hb _ => hg b hb) hL (fun _ _ _ _ h => h)
     cases x0 with
     | alb i off path =>
      simp only [scrubB]
      by_cases hii : i = id
      · subst hii
        simp only [Nat.beq_refl,cond_true]
        obtain ⟨h1,_,v1,h2,_⟩ := hsr
        exact ⟨h1,v1,h2⟩
      · simp only [nbeq hii,cond_false]
        exact hkeep
     | _ => exact hkeep
 · rw [get_upd,get_putB] at hu
   by_cases hut : u = t
   · subst hut; simp [h] at hu
   · simp only [hut,if_false,Option.map_eq_none_iff] at hu
     rw [upd_other hut]
     exact st.envN u hu
 · rw [hbox] at hd
   by_cases hii : i = id
   · subst hii
     simp only [if_true,Option.some.injEq] at hd
     subst hd
     rw [upd_same]
     refine ⟨cs,e0,[],q1, ?_,rfl⟩
     rw [hv0]
     refine .dead v0 ?_
     rw [hv0] at q2
     exact q2.one v0 (by simp)
   · simp only [hii,if_false] at hd
     rw [upd_other hii]
     exact (st.bx i b hd).mono (fun _ _ _ => rfl) (fun b hb _ => hg b hb) (fun i hi => ⟨hL i hi,rfl⟩)
 · rw [hbox] at hn
   by_cases hii : i = id
   · simp [hii] at hn
   · simp only [hii,if_false] at hn
     rw [upd_other hii]
     exact st.bxN i hn
 · by_cases hut : u = t
   · subst hut; rw [upd_same]; exact (List.nodup_cons.1 hnd).2
   · rw [upd_other hut]; exact st.nodE u
 · by_cases hii : i = id
   · subst hii; rw [upd_same]; simp
   · rw [upd_other hii]; exact st.nodB i
 · by_cases hut : u = t
   · subst hut
     rw [upd_same] at hb1
     rw [upd_other (fun h => hne h.symm)] at hb2
     exact st.dEB u' id b hb2 (hmem b hb1)
   · rw [upd_other hut] at hb1
     by_cases hut' : u' = t
     · subst hut'
       rw [upd_same] at hb2
       exact st.dEB u id b hb1 (hmem b hb2)
     · rw [upd_other hut'] at hb2
       exact st.dEE u u' hne b hb1 hb2
 · by_cases hii : i = id
   · subst hii
     rw [upd_same] at hb2
     simp at hb2
     subst hb2
     by_cases hut : u = t
     · subst hut; rw [upd_same] at hb1; exact (List.nodup_cons.1 hnd).1 hb1
     · rw [upd_other hut] at hb1; exact st.dEB u i _ hb1 hin
   · rw [upd_other hii] at hb2
     by_cases hut : u = t
     · subst hut; rw [upd_same] at hb1; exact st.dBB id i (fun h => hii h.symm) b (hmem b hb1) hb2
     · rw [upd_other hut] at hb1; exact st.dEB u i b hb1 hb2
 · have key : ∀ i b,b ∈ upd Fb id [ρ id] i → b ∈ Fb i := fun i b hb => by
    by_cases hii : i = id
    · subst hii; rw [upd_same] at hb; simp at hb; subst hb; exact hin
    · rw [upd_other hii] at hb; exact hb
   exact st.dBB i i' hne b (key i b hb1) (key i' b hb2)
theorem OpS.pre {o : Oper} {σ0 : Sg} (h : ∀ a w,St C σ a w → St C σ0 a w) (k : OpS P C o σ0 σ') : OpS P C o σ σ' := fun a w hs => k a w (h a w hs)

theorem St.viewB {id : Nat} {d d' : D} (hb : σ.box id = some (.var d)) (h : ∀ (w : World) (ρ : Nat → Nat) (G L : Nat → Prop) (cs : List Value) (F : List Nat),Rc w ρ G L true d cs F → Rc w ρ G L true d' cs F) (hs : St C σ a w) :
 St C { σ with bx := setb id (.var d') σ.bx } a w := by
 obtain ⟨ρ,Fe,Fb,st⟩ := hs
 have hbox : ∀ i,(({ σ with bx := setb id (.var d') σ.bx } : Sg).box i) = if i = id then some (.var d') else σ.box i := fun i => by
  show lk (setb id (.var d') σ.bx) i = _
  rw [lk_setb]
  by_cases hi : i = id
  · subst hi
    have : lk σ.bx i = some (.var d) := hb
    simp [this]
  · simp [hi]; rfl
 have hiso : ∀ i,(({ σ with bx := setb id (.var d') σ.bx } : Sg).box i).isSome = (σ.box i).isSome := fun i => by
  rw [hbox]; by_cases hi : i = id
  · subst hi; simp [hb]
  · simp [hi]
 have hfun : (fun i => (({ σ with bx := setb id (.var d') σ.bx } : Sg).box i).isSome = true) = fun i => (σ.box i).isSome = true := by
  funext i; rw [hiso]
 refine ⟨ρ,Fe,Fb,{
  size := st.size
  defs := st.defs
  pin := fun i b hp => ⟨(st.pin i b hp).1,by rw [hiso]; exact (st.pin i b hp).2⟩
  env := fun u x hx => by rw [hfun]; exact st.env u x hx
  envN := st.envN
  bx := fun i b hd => ?_
  bxN := fun i hn => st.bxN i (by have := hiso i; rw [hn] at this; simpa using this.symm)
  nodE := st.nodE
  nodB := st.nodB
  dEE := st.dEE
  dEB := st.dEB
  dBB := st.dBB
  new := st.new
  kept := st.kept
  os := st.os
  tape := st.tape
  output := st.output
  grown := st.grown
  gl := st.gl
  okN := st.okN
  okO := st.okO }⟩
 rw [hfun]
 rw [hbox] at hd
 by_cases hi : i = id
 · subst hi
   simp only [if_true,Option.some.injEq] at hd
   subst hd
   obtain ⟨cs,e,F',q1,q2,q3⟩ := st.bx i _ hb
   exact ⟨cs,e,F',q1,h _ _ _ _ _ _ q2,q3⟩
 · simp only [hi,if_false] at hd
   exact st.bx i b hd
end Go.Sx

namespace Go.Sx

variable {P : Program} {C : Ctx} {σ σ' σ1 : Sg} {a : Act} {w w' : World} {ρ : Nat → Nat} {Fe Fe' Fb : Nat → List Nat}

theorem stepR_scope {c : Code} {b : Frame} {k : List Item} {cs : List Frame} : step P (lone (b.atR a (.code (.scope c) :: k)) cs w) = .next (lone (b.atR a (.code c :: .inScope c :: k)) cs w) :=
 step_lone_go (by simp [stepG,stepG.exec,Frame.atR])
theorem stepR_inScope {c : Code} {b : Frame} {k : List Item} {cs : List Frame} : step P (lone (b.atR a (.inScope c :: k)) cs w) = .next (lone (b.atR a k) cs w) :=
 step_lone_go (by simp [stepG,stepG.exec,Frame.atR])
theorem exitTo_scope {c : Code} {id : Nat} {k : List Item} : exitTo id (.inScope c :: k) = exitTo id k := by simp [exitTo]
theorem wpIn_scope {F : Fence} {n : Nat} {c : Code} {Q : Exit → Act → World → Prop} (h : c.wpIn F n P (fun e a w => (∀ l,e ≠ .goto l) ∧ Q e a w) a w) : (Code.scope c).wpIn F n P Q a w := by
 intro b k cs hro hbf hr
 obtain ⟨e,a₁,w₁,⟨hg,hq⟩,harr⟩ := h b (.inScope c :: k) cs hro hbf hr
 have s1 : StepsIn (Machine.fenced P F) P (lone (b.atR a (.code (.scope c) :: k)) cs w) (lone (b.atR a (.code c :: .inScope c :: k)) cs w) := .one (fenced_calm hbf hr rfl) stepR_scope
 cases e with
 | normal => exact ⟨.normal,a₁,w₁,hq,StepsIn.trans s1 (StepsIn.trans harr (.one (fenced_calm hbf hr rfl) stepR_inScope))⟩
 | exit id =>
  refine ⟨.exit id,a₁,w₁,hq,.of_steps s1 ⟨fun k' hk => harr.1 k' (by rw [exitTo_scope]; exact hk),fun h1 hk => harr.2 h1 (by rw [exitTo_scope]; exact hk)⟩⟩
 | goto l => exact absurd rfl (hg l)
 | ret => exact ⟨_,a₁,w₁,hq,.of_steps s1 harr⟩
 | panic ch => exact ⟨_,a₁,w₁,hq,.of_steps s1 harr⟩
 | outgrown => exact ⟨_,a₁,w₁,hq,.of_steps s1 harr⟩

theorem V.scope {rd : Option Nat} {ι : Type} {A : ι → Act → World → Prop} {Q : Exit → ι → Prop} {i : ι} {c : Code} (h : V P rd A c (fun e s => (∀ l,e ≠ .goto l) ∧ Q e s) i) : V P rd A (.scope c) Q i := by
 intro a w hs
 refine wpIn_scope (Go.Code.wpIn_mono ?_ (h a w hs))
 rintro e a' w' ⟨s,hs',h1,h2⟩
 exact ⟨h1,s,hs',h2⟩

theorem V.rangeE {gl : List (Nat × D)} {W0 : World} {G : Nat → Prop} {g p n : Nat} {asg body : Code} {env0 : List (Nat × D)} {bx0 : List (Nat × Bx)} {f : FuncId} [hf : CaT P f] {caps : List D}
 (ids : List Nat) (N : Nat) (xd : Nat → D) (bxs : Nat → List (Nat × Bx)) (Stop : Exit → List (Nat × Bx) → Prop) (J : Nat → Prop)
 {Q : Exit → Bool × Sg → Prop} (hgl : Glw gl W0 G) (hI : Itr P gl f caps ((List.range N).map xd)) (hg : lk env0 g = some (.fn f caps)) (hnp : D.nps caps = true) (hp : Nat.blt p n = true) (hpe : purEnv env0 = true) (hb0 : bx0 = bxs 0)
 (hkeys : (bxs 0).map Prod.fst = ids) (hf0 : frsBx (bxs 0)) (hxs : ∀ k,(xd k).pur = true ∧ (xd k).np = true) (hJ : J 0)
 (hround : ∀ k,k < N → J k → ∀ C' : Ctx,C'.gl = gl → (∀ id b,C'.pin id = some b → memN ids id = true) → W P C' asg (fun e σ' => e = .normal ∧ ∀ C' : Ctx,C'.gl = gl → (∀ id b,C'.pin id = some b → memN ids id = true) →
  W P C' body (fun e σ' => (e = .normal ∧ (keepB ids σ'.bx = bxs (k + 1) ∧ J (k + 1)) ∨ (e = .ret ∨ ∃ id,e = .exit id) ∧ Stop e (keepB ids σ'.bx)) ∧ frsBx (keepB ids σ'.bx)) σ') ((⟨n,env0,bxs k⟩ : Sg).set p (xd k)))
 (hN : J N → Q .normal (true,⟨n,env0,bxs N⟩)) (hS : ∀ e bx,(e = .ret ∨ ∃ id,e = .exit id) → Stop e bx → Q e (true,⟨n,env0,bx⟩)) :
 V P none (AM (relF gl W0 G)) (.rangeFunc (.tmp g) #[p] asg body) Q (false,⟨n,env0,bx0⟩) := by
 subst hb0
 have hlen : ((List.range N).map xd).length = N := by simp
 have hkeys' : ∀ id,(lk (bxs 0) id).isSome = memN ids id := by
  intro id
  rw [← hkeys]
  generalize bxs 0 = l
  induction l with
  | nil => rfl
  | cons x r ih =>
   obtain ⟨k,b⟩ := x
   rw [lk_cons]
   simp only [memN,List.map_cons,List.any_cons] at ih ⊢
   by_cases hk : k = id
   · subst hk; simp
   · simp only [hk,if_false,ih]
     rw [nbeq (fun h => hk h.symm)]
     simp
 have hnp' : ∀ d ∈ caps,d.np = true := fun d hd => by
  obtain ⟨k,hk,rfl⟩ := List.mem_iff_getElem.1 hd
  exact nps_get caps hnp k hk
 have e : ∀ k (h : k < ((List.range N).map xd).length),((List.range N).map xd)[k] = xd k := fun k h => by simp
 refine V.range (ids := ids) (bxs := bxs) (Stop := Stop) J hgl hI hg hnp' (Nat.le_of_ble_eq_true hp) hpe hkeys' hf0 (fun k hk => by rw [e]; exact hxs k) hJ (fun k hk hJk => ?_) (by rw [hlen]; exact hN) hS
 rw [e]
 exact hround k (by simpa using hk) hJk

theorem R.appB {s id t e z bytes : Nat} {x : Operand} {l l' l2 : List D} {ty rt : TypeId} {pos : String} {aft : Array Edge} {g : Option (Nat × Bool)} [hT : SlT P ty e] [hE : ElT P e z bytes]
 (h : σ.get s = some (.alb id 0 [])) (hb : σ.box id = some (.var (.sl (some e) z l))) {τ : Sg} (hτ : (σ.putB id (.var .dead)).upd s (.sl (some e) z l) = τ) (hs : τ.get s = some (.sl (some e) z l))
 (hx : SrcO C.gl τ x z l') (he : l ++ l' = l2) (hn : l.length + l'.length ≤ 1073741824) (ht : t < σ.n) (hst : s ≠ t) (hby : bytes ≤ 131072) :
 OpS P C ⟨some t,.call { callee := .builtin .append,args := #[.tmp s,x],argTypes := #[ty,ty] },rt,pos,aft,g⟩ σ ((τ.kill s).set t (.sl (some e) z l2)) := by
 subst hτ
 exact OpS.pre (fun a w hs => St.takeB h hb hs) (R.appE (.inl rfl) hs hx he hn ht hst hby)
theorem R.stOZ {p s id off : Nat} {path : List Nat} {d0 d1 d' dx : D} {ty n rt : TypeId} {gg : Bool} {pos : String} {aft : Array Edge} {g : Option (Nat × Bool)} [LdT P ty n gg]
 (h : σ.get p = some (.ptr id off path)) (hb : σ.box id = some (.var d0)) (hl : d0.loc path = some (off,d1)) (hx : σ.get s = some dx) (hrf : dx.isRef = false) (hnp : dx.np = true)
 (hn : dx.sz = n) (hz : d1.sz = n) (hu : d0.upd path dx = some d') (hna : d0.noArr path = true) :
 OpS P C ⟨none,.store ty (.tmp p) (.tmp s),rt,pos,aft,g⟩ σ ((σ.kill s).putB id (.var d')) := R.stO h hb hl hx hrf hnp hn (hn.trans hz.symm) hu hna

theorem V.dropS {gl : List (Nat × D)} {κ : Type} {R : Rel gl κ} {m : κ} {c : Code} {Q : Exit → κ × Sg → Prop} {live : List Nat} {env' : List (Nat × D)} {bx' : List (Nat × Bx)} {n' : Nat} (hE : picks σ.get live = env') (hb : σ.bx = bx') (hn : σ.n = n')
 (h : V P none (AM R) c Q (m,⟨n',env',bx'⟩)) : V P none (AM R) c Q (m,σ) :=
 V.wk (fun C _ _ a w hs => hs.weaken hn.symm hb.symm fun t d hd => lk_picks (f := σ.get) (l := live) (by rw [hE]; exact hd)) h

inductive EvP (gl : List (Nat × D)) (σ : Sg) : List Operand → List D → Prop
 | nil : EvP gl σ [] []
 | cons {x : Operand} {d : D} {xs : List Operand} {ds : List D} (h : ev gl σ x = some d) (hp : d.pur = true) (hn : d.np = true) (t : EvP gl σ xs ds) : EvP gl σ (x :: xs) (d :: ds)
theorem EvP.len {gl : List (Nat × D)} {xs : List Operand} {ds : List D} (h : EvP gl σ xs ds) : xs.length = ds.length := by
 induction h with
 | nil => rfl
 | cons _ _ _ _ ih => simp [ih]
theorem EvP.ok {gl : List (Nat × D)} {xs : List Operand} {ds : List D} (h : EvP gl σ xs ds) : ∀ k (h : k < xs.length) (h' : k < ds.length),ev gl σ xs[k] = some ds[k] ∧ ds[k].pur = true ∧ ds[k].np = true := by
 induction h with
 | nil => intro k hk; simp at hk
 | cons h hp hn t ih =>
  intro k hk hk'
  cases k with
  | zero => exact ⟨h,hp,hn⟩
  | succ k => simpa using ih k (by simpa using hk) (by simpa using hk')
theorem R.callPE {f : FuncId} [CaT P f] {t : Nat} {args : List Operand} {tys : Array TypeId} {rt : TypeId} {pos : String} {aft : Array Edge} {g : Option (Nat × Bool)} {gl : List (Nat × D)} {ds : List D} {r : D}
 (hC : C.gl = gl) (hF : Fn P gl f ds r) (hb : EvP C.gl σ args ds) (ht : t < σ.n) :
 OpS P C ⟨some t,.call { callee := .value (.func f),args := args.toArray,argTypes := tys },rt,pos,aft,g⟩ σ (σ.set t r) := by
 subst hC
 exact R.callP hF hb.len hb.ok ht
theorem FrsR.two {x y : D} (h1 : Frs x) (h2 : Frs y) : FrsR (.tup [x,y]) := .inl ⟨_,rfl,fun d hd => by
 rcases List.mem_cons.1 hd with rfl | hd
 · exact h1
 · rw [List.mem_singleton.1 hd]; exact h2⟩

inductive EndL (P : Program) (σ : Sg) : List ResultVar → List D → Prop
 | nil : EndL P σ [] []
 | cons {rv : ResultVar} {d : D} {rs : List ResultVar} {ds : List D} (h : outS σ rv = some d) (h1 : d.isRef = false) (h2 : d.np = true) (h3 : RtT P d rv) (t : EndL P σ rs ds) : EndL P σ (rv :: rs) (d :: ds)
theorem EndL.len {rs : List ResultVar} {ds : List D} (h : EndL P σ rs ds) : ds.length = rs.length := by
 induction h with
 | nil => rfl
 | cons _ _ _ _ _ ih => simp [ih]
theorem EndL.ok {rs : List ResultVar} {ds : List D} (h : EndL P σ rs ds) : ∀ k (h : k < rs.length) (h' : k < ds.length),outS σ rs[k] = some ds[k] ∧ ds[k].isRef = false ∧ ds[k].np = true ∧ RtT P ds[k] rs[k] := by
 induction h with
 | nil => intro k hk; simp at hk
 | cons h h1 h2 h3 t ih =>
  intro k hk hk'
  cases k with
  | zero => exact ⟨h,h1,h2,h3⟩
  | succ k => simpa using ih k (by simpa using hk) (by simpa using hk')
theorem Ends.many {r1 r2 : ResultVar} {rs : List ResultVar} {ds ds' : List D} {e : Exit} (he : e = .normal ∨ e = .ret) (h : EndL P σ (r1 :: r2 :: rs) ds') (hd : ds' = ds) (hn : ((r1 :: r2 :: rs).map (srcS σ)).Nodup) : Ends (r1 :: r2 :: rs) P (.tup ds) e σ := by
 subst hd
 exact ⟨he,_,rfl,h.len,hn,h.ok⟩
end Go.Sx

namespace Go.Sx

variable {P : Program} {C : Ctx} {σ σ' σ1 σ2 : Sg} {a : Act} {w w' : World} {ρ ρ2 : Nat → Nat} {Fe Fe' Fb Fb2 : Nat → List Nat}

structure ExtO (O : Nat → Prop) (w w' : World) : Prop where
 os : w'.os = w.os
 tape : w'.tape = w.tape
 output : w'.output = w.output
 size : w.heap.size ≤ w'.heap.size
 block : ∀ b,b < w.heap.size → ¬ O b → w'.heap[b]? = w.heap[b]?

def Ctx.less (C : Ctx) (F : List Nat) : Ctx := { C with ok := fun b => C.ok b ∧ b ∉ F }

theorem SR_lend {G G' L L' : Nat → Prop} {u : Nat} {d : D} {F : List Nat} (h : SR w ρ G L a u d F)
 (hh : ∀ b,(G b ∨ b ∈ F) → b < w.heap.size → w'.heap[b]? = w.heap[b]?) (hg : ∀ b,G b → b < w.heap.size → G' b) (hL : ∀ i,L i → L' i ∧ ρ2 i = ρ i)
 (hc : ∀ i off path,d = .alb i off path → L i → w'.heap[ρ i]? = w.heap[ρ i]?) : SR w' ρ2 G' L' a u d F := by
 cases d with
 | al s => exact h
 | alb i off path =>
  obtain ⟨hF,hid,x,hx,hs⟩ := h
  obtain ⟨q1,q2⟩ := hL i hid
  exact ⟨hF,q1,x,hx,by rw [q2,← hs]; exact World.cell?_of_block (hc i off path rfl hid)⟩
 | vw s z lo n => exact h
 | va i off z n path lo =>
  obtain ⟨hF,hid,h3⟩ := h
  obtain ⟨q1,q2⟩ := hL i hid
  exact ⟨hF,q1,by rw [q2]; exact h3⟩
 | ep s z i off path => exact h
 | tup ds =>
  obtain ⟨vs,Fs,h1,h2,h3,h4⟩ := h
  refine ⟨vs,Fs,h1,h2,h3,fun k hk => (h4 k hk).imp (fun hx => hx) fun hx => ⟨hx.1,hx.2.mono (fun b hb => hh b (hb.imp (fun hx => hx) fun hm => ?_)) hg hL⟩⟩
  rw [h3]; exact List.mem_flatMap.2 ⟨k,List.mem_range.2 hk,hm⟩
 | dead => exact h
 | _ => obtain ⟨x,hx,hr⟩ := h; exact ⟨x,hx,hr.mono hh hg hL⟩

theorem StW.lend (st : StW C σ a w ρ Fe Fb) {F : List Nat} {lent new : Nat → Prop} (hw : ExtO (fun b => ∃ id,lent id ∧ b ∈ Fb id) w w')
 (hn : σ2.n = σ.n) (hρ : ∀ id,(σ.box id).isSome = true → ρ2 id = ρ id) (hlent : ∀ id,lent id → (σ.box id).isSome = true)
 (hget : ∀ u d,σ2.get u = some d → ∃ d0,σ.get u = some d0 ∧ (d = d0 ∧ (∀ id off path,d0 = .alb id off path → ¬ lent id) ∨ d = .dead ∧ ∃ id off path,d0 = .alb id off path))
 (hgetN : ∀ u,σ2.get u = none → σ.get u = none)
 (hbox : ∀ id,¬ (lent id ∨ new id) → σ2.box id = σ.box id ∧ Fb2 id = Fb id) (hboxS : ∀ id,(lent id ∨ new id) → (σ2.box id).isSome = true)
 (hbx : ∀ id x,σ2.box id = some x → (lent id ∨ new id) → BR w' ρ2 (gd (C.less F) Fe Fb2) (fun i => (σ2.box i).isSome) (ρ2 id) x (Fb2 id))
 (hnod : ∀ id,(lent id ∨ new id) → (Fb2 id).Nodup) (hdis : ∀ id id',(lent id ∨ new id) → (lent id' ∨ new id') → id ≠ id' → ∀ b,b ∈ Fb2 id → b ∉ Fb2 id')
 (hsrc : ∀ id b,(lent id ∨ new id) → b ∈ Fb2 id → (w.heap.size ≤ b ∨ ∃ i,lent i ∧ b ∈ Fb i) ∧ b ∉ F)
 (hF : ∀ b ∈ F,w.heap.size ≤ b ∨ ∃ i,lent i ∧ b ∈ Fb i) (hFl : ∀ b ∈ F,b < w'.heap.size) : StW (C.less F) σ2 a w' ρ2 Fe Fb2 := by
 have hlt := st.lt
 have hlo : ∀ b,(∃ i,lent i ∧ b ∈ Fb i) → own Fe Fb b := fun b ⟨i,_,hi⟩ => .inr ⟨i,hi⟩
 have hown : ∀ b,own Fe Fb2 b → (own Fe Fb b ∨ w.heap.size ≤ b) := by
  rintro b (h | ⟨id,hid⟩)
  · exact .inl (.inl h)
  · by_cases ht : lent id ∨ new id
    · rcases (hsrc id b ht hid).1 with h | h
      · exact .inr h
      · exact .inl (hlo b h)
    · rw [(hbox id ht).2] at hid; exact .inl (.inr ⟨id,hid⟩)
 have hunF : ∀ u b,b ∈ Fe u → b < w.heap.size → w'.heap[b]? = w.heap[b]? := fun u b hb hl => hw.block b hl (fun ⟨i,_,hi⟩ => st.dEB u i b hb hi)
 have hung : ∀ b,gd C Fe Fb b → b < w.heap.size → w'.heap[b]? = w.heap[b]? := fun b hb hl => hw.block b hl (fun h => hb.2 (hlo b h))
 have hunB : ∀ id b,¬ lent id → b ∈ Fb id → b < w.heap.size → w'.heap[b]? = w.heap[b]? := fun id b hn hb hl => hw.block b hl (fun ⟨i,hi,hb'⟩ => st.dBB i id (fun e => hn (e ▸ hi)) b hb' hb)
 have hg : ∀ b,gd C Fe Fb b → b < w.heap.size → gd (C.less F) Fe Fb2 b := fun b hb hl => by
  refine ⟨⟨hb.1,fun hm => ?_⟩,fun ho => ?_⟩
  · rcases hF b hm with h | h
    · omega
    · exact hb.2 (hlo b h)
  · rcases hown b ho with h | h
    · exact hb.2 h
    · omega
 have hL : ∀ i,(σ.box i).isSome = true → (σ2.box i).isSome = true ∧ ρ2 i = ρ i := fun i hi => by
  refine ⟨?_,hρ i hi⟩
  by_cases ht : lent i ∨ new i
  · exact hboxS i ht
  · rw [(hbox i ht).1]; exact hi
 refine { size := by rw [hn]; exact st.size,defs := st.defs,pin := fun id b hp => ?_,env := fun u d hd => ?_,envN := fun u hu => st.envN u (hgetN u hu),bx := fun id x hx => ?_,bxN := fun id hx => ?_,nodE := st.nodE,nodB := fun id => ?_,dEE := st.dEE,dEB := fun u id b hb hb' => ?_,dBB := fun id id' hne b hb hb' => ?_,new := fun b hb hk => ?_,kept := fun b hk => ?_,os := hw.os.trans st.os,tape := hw.tape.trans st.tape,output := hw.output.trans st.output,grown := Nat.le_trans st.grown hw.size,gl := fun g d hgd => ?_,okN := fun b hb => ?_,okO := fun b hb => ?_ }
 · obtain ⟨h1,h2⟩ := st.pin id b hp
   obtain ⟨h3,h4⟩ := hL id h2
   exact ⟨h4.trans h1,h3⟩
 · obtain ⟨d0,h0,h1⟩ := hget u d hd
   have hs := st.env u d0 h0
   rcases h1 with ⟨rfl,h1⟩ | ⟨rfl,id,off,path,rfl⟩
   · refine SR_lend hs (fun b hb hl => hb.elim (fun h => hung b h hl) (fun h => hunF u b h hl)) hg hL (fun i off path he hi => ?_)
     cases hbi : σ.box i with
     | none => rw [hbi] at hi; cases hi
     | some x =>
      have hm := (st.bx i x hbi).mem
      exact hunB i _ (h1 i off path he) hm (hlt _ (.inr ⟨i,hm⟩))
   · obtain ⟨hF0,hid,v,hv,_⟩ := hs
     exact ⟨hF0,v,hv⟩
 · by_cases ht : lent id ∨ new id
   · exact hbx id x hx ht
   · obtain ⟨q1,q2⟩ := hbox id ht
     rw [q1] at hx
     rw [q2,hρ id (by rw [hx]; rfl)]
     exact (st.bx id x hx).mono (fun b hb hl => hb.elim (fun h => hung b h hl) (fun h => hunB id b (fun hl' => ht (.inl hl')) h hl)) hg hL
 · by_cases ht : lent id ∨ new id
   · have := hboxS id ht; rw [hx] at this; cases this
   · obtain ⟨q1,q2⟩ := hbox id ht
     rw [q2]; exact st.bxN id (by rw [← q1]; exact hx)
 · by_cases ht : lent id ∨ new id
   · exact hnod id ht
   · rw [(hbox id ht).2]; exact st.nodB id
 · by_cases ht : lent id ∨ new id
   · rcases (hsrc id b ht hb').1 with h | ⟨i,hi,hbi⟩
     · have := hlt b (.inl ⟨u,hb⟩); omega
     · exact st.dEB u i b hb hbi
   · rw [(hbox id ht).2] at hb'; exact st.dEB u id b hb hb'
 · by_cases ht : lent id ∨ new id
   · by_cases ht' : lent id' ∨ new id'
     · exact hdis id id' ht ht' hne b hb hb'
     · rw [(hbox id' ht').2] at hb'
       rcases (hsrc id b ht hb).1 with h | ⟨i,hi,hbi⟩
       · have := hlt b (.inr ⟨id',hb'⟩); omega
       · exact st.dBB i id' (fun e => ht' (.inl (e ▸ hi))) b hbi hb'
   · rw [(hbox id ht).2] at hb
     by_cases ht' : lent id' ∨ new id'
     · rcases (hsrc id' b ht' hb').1 with h | ⟨i,hi,hbi⟩
       · have := hlt b (.inr ⟨id,hb⟩); omega
       · exact st.dBB i id (fun e => ht (.inl (e ▸ hi))) b hbi hb
     · rw [(hbox id' ht').2] at hb'
       exact st.dBB id id' hne b hb hb'
 · rcases hown b hb with h | h
   · exact st.new b h hk
   · have := (st.kept b hk).2; have := st.grown; omega
 · obtain ⟨h1,h2⟩ := st.kept b hk
   exact ⟨(hw.block b (Nat.lt_of_lt_of_le h2 st.grown) (fun h => st.new b (hlo b h) hk)).trans h1,h2⟩
 · obtain ⟨h1,h2,h3⟩ := st.gl g d hgd
   refine ⟨h1,⟨h2,fun hm => ?_⟩,h3⟩
   rcases hF g hm with h | h
   · have := (st.kept g h1).2; have := st.grown; omega
   · exact st.new g (hlo g h) h1
 · refine ⟨st.okN b (Nat.le_trans hw.size hb),fun hm => ?_⟩
   have := hFl b hm; omega
 · have hk : C.ok b := by
    rcases hown b hb with h | h
    · exact st.okO b h
    · exact st.okN b h
   refine ⟨hk,fun hm => ?_⟩
   rcases hb with ⟨u,hu⟩ | ⟨id,hid⟩
   · rcases hF b hm with h | ⟨i,hi,hbi⟩
     · have := hlt b (.inl ⟨u,hu⟩); omega
     · exact st.dEB u i b hu hbi
   · by_cases ht : lent id ∨ new id
     · exact (hsrc id b ht hid).2 hm
     · rw [(hbox id ht).2] at hid
       rcases hF b hm with h | ⟨i,hi,hbi⟩
       · have := hlt b (.inr ⟨id,hid⟩); omega
       · exact st.dBB i id (fun e => ht (.inl (e ▸ hi))) b hbi hid

theorem StW.adopt {t : Nat} {d : D} {v : Value} {F : List Nat} (h : StW (C.less F) σ a w ρ Fe Fb) (ht : t < σ.n) (hF : F.Nodup) (hdE : ∀ u,∀ b ∈ F,b ∉ Fe u) (hdB : ∀ id,∀ b ∈ F,b ∉ Fb id)
 (hk : ∀ b ∈ F,¬ C.keep b) (hok : ∀ b ∈ F,C.ok b) (hv : SR w ρ (gd C (upd Fe t F) Fb) (fun id => (σ.box id).isSome) (a.put (some t) v) t d F) :
 StW C (σ.set t d) (a.put (some t) v) w ρ (upd Fe t F) Fb := by
 have hsz : t < a.tmps.size := by rw [h.size]; exact ht
 have hlt := h.lt
 have hg : ∀ b,gd (C.less F) Fe Fb b → b < w.heap.size → gd C (upd Fe t F) Fb b := by
  rintro b ⟨⟨hok,hnF⟩,hb⟩ hlt'
  refine ⟨hok, ?_⟩
  rintro (⟨u,hu⟩ | ⟨id,hid⟩)
  · by_cases hut : u = t
    · subst hut; simp at hu; exact hnF hu
    · rw [upd_other hut] at hu; exact hb (.inl ⟨u,hu⟩)
  · exact hb (.inr ⟨id,hid⟩)
 have hL : ∀ id,(fun id => (σ.box id).isSome = true) id → (fun id => ((σ.set t d).box id).isSome = true) id ∧ ρ id = ρ id := fun id hid => ⟨hid,rfl⟩
 refine ⟨?_,h.defs,h.pin, ?_, ?_, ?_,h.bxN, ?_,h.nodB, ?_, ?_,h.dBB, ?_,h.kept,h.os,h.tape,h.output,h.grown,fun g d hgd => ⟨(h.gl g d hgd).1,(h.gl g d hgd).2.1.1,(h.gl g d hgd).2.2⟩,fun b hb => (h.okN b hb).1, ?_⟩
 · simp [Act.put,h.size]
 · intro u x hx
   rw [get_set] at hx
   by_cases hut : u = t
   · subst hut; simp at hx; subst hx; simp only [upd_same]; exact hv
   · simp only [hut,if_false] at hx
     obtain ⟨d0,hd0,rfl⟩ := Option.map_eq_some_iff.1 hx
     rw [upd_other hut]
     exact SR_other hut hsz (h.env u d0 hd0) (fun b _ hb => rfl) hg hL (fun id off v _ hc => hc)
 · intro u hu
   rw [get_set] at hu
   by_cases hut : u = t
   · simp [hut] at hu
   · simp only [hut,if_false,Option.map_eq_none_iff] at hu
     rw [upd_other hut]; exact h.envN u hu
 · intro id x hx
   exact (h.bx id x hx).mono (fun b _ hb => rfl) hg hL
 · intro u
   by_cases hut : u = t
   · subst hut; simpa using hF
   · rw [upd_other hut]; exact h.nodE u
 · intro u u' huu b hb hb'
   by_cases hut : u = t
   · subst hut
     rw [upd_other (fun e => huu e.symm)] at hb'
     simp at hb
     exact hdE u' b hb hb'
   · rw [upd_other hut] at hb
     by_cases hut' : u' = t
     · subst hut'; simp at hb'; exact hdE u b hb' hb
     · rw [upd_other hut'] at hb'; exact h.dEE u u' huu b hb hb'
 · intro u id b hb hb'
   by_cases hut : u = t
   · subst hut; simp at hb; exact hdB id b hb hb'
   · rw [upd_other hut] at hb; exact h.dEB u id b hb hb'
 · rintro b (⟨u,hu⟩ | ⟨id,hid⟩) hkb
   · by_cases hut : u = t
     · subst hut; simp at hu; exact hk b hu hkb
     · rw [upd_other hut] at hu; exact h.new b (.inl ⟨u,hu⟩) hkb
   · exact h.new b (.inr ⟨id,hid⟩) hkb
 · rintro b (⟨u,hu⟩ | ⟨id,hid⟩)
   · by_cases hut : u = t
     · subst hut; simp at hu; exact hok b hu
     · rw [upd_other hut] at hu; exact (h.okO b (.inl ⟨u,hu⟩)).1
   · exact (h.okO b (.inr ⟨id,hid⟩)).1

mutual
def D.ren (m : Nat → Nat) : D → D
 | .ptr id off path => .ptr (m id) off path
 | .bs id z n cap => .bs (m id) z n cap
 | .map id => .map (m id)
 | .agg l => .agg (D.rens m l)
 | .fn f l => .fn f (D.rens m l)
 | .tup l => .tup (D.rens m l)
 | .ifc t d => .ifc t (D.ren m d)
 | d => d
def D.rens (m : Nat → Nat) : List D → List D
 | [] => []
 | d :: r => D.ren m d :: D.rens m r
end
theorem rens_eq (m : Nat → Nat) (l : List D) : D.rens m l = l.map (D.ren m) := by
 induction l with
 | nil => rfl
 | cons d r ih => simp [D.rens,ih]
mutual
theorem sz_ren (m : Nat → Nat) (d : D) : (d.ren m).sz = d.sz := by
 cases d with
 | agg l => simp only [D.ren,sz_agg]; exact szs_ren m l
 | _ => simp [D.ren,D.sz]
theorem szs_ren (m : Nat → Nat) (l : List D) : D.szs (D.rens m l) = D.szs l := by
 cases l with
 | nil => rfl
 | cons d r => simp only [D.rens,szs_cons,sz_ren m d,szs_ren m r]
end
theorem offk_ren (m : Nat → Nat) (l : List D) (k : Nat) : offk (l.map (D.ren m)) k = offk l k := by
 unfold offk
 rw [← List.map_take,← rens_eq,szs_ren]
theorem isAgg_ren (m : Nat → Nat) (d : D) : (d.ren m).isAgg = d.isAgg := by cases d <;> rfl
theorem isRef_ren (m : Nat → Nat) (d : D) (h : d.isRef = false) : (d.ren m).isRef = false := by cases d <;> first | rfl | simp [D.isRef] at h

theorem Rc.ren {G L L' : Nat → Prop} {m : Nat → Nat} {p : Bool} {d : D} {cs : List Value} {F : List Nat} (h : Rc w ρ G L p d cs F) (hL : ∀ i,L i → L' (m i) ∧ ρ2 (m i) = ρ i) : Rc w ρ2 G L' p (d.ren m) cs F := by
 induction h with
 | bool b => exact .bool b
 | int n => exact .int n
 | u8 x => exact .u8 x
 | u16 x => exact .u16 x
 | u32 x => exact .u32 x
 | u64 x => exact .u64 x
 | ik k n => exact .ik k n
 | str s => exact .str s
 | nils => exact .nils
 | slN o z => exact .slN o z
 | slE o z a => exact .slE o z a
 | slI b off cs e fz cap z l hb hG hc hs hr ih => exact .slI b off cs e fz cap z l hb hG hc hs (fun i hi => (hr i hi).noL)
 | slO b cs e cap z l Fs hb hc hm hs ho1 hr ih => exact .slO b cs e cap z l Fs hb hc hm hs ho1 (fun i hi => (hr i hi).noL)
 | agg l cs Fs hs hr ih =>
  simp only [D.ren,rens_eq]
  have := Rc.agg (w := w) (ρ := ρ2) (G := G) (L := L') (p := ‹Bool›) (l.map (D.ren m)) cs Fs (by rw [← rens_eq,szs_ren]; exact hs) (fun k hk => by
   have hk' : k < l.length := by simpa using hk
   have := ih k hk'
   simp only [List.getElem_map,offk_ren,sz_ren]
   exact this)
  simpa using this
 | arr n z l cs hl hs hr ih => exact .arr n z l cs hl hs (fun i hi => (hr i hi).noL)
 | ptr id off path hid =>
  obtain ⟨h1,h2⟩ := hL id hid
  simp only [D.ren]
  rw [← h2]
  exact .ptr (m id) off path h1
 | bs id z n cap hid hcap =>
  obtain ⟨h1,h2⟩ := hL id hid
  simp only [D.ren]
  rw [← h2]
  exact .bs (m id) z n cap h1 hcap
 | nilp => exact .nilp
 | rp d b off cs e fz hb hG hs hr ih => exact .rp d b off cs e fz hb hG hs hr.noL
 | map id hid =>
  obtain ⟨h1,h2⟩ := hL id hid
  simp only [D.ren]
  rw [← h2]
  exact .map (m id) h1
 | nilmap => exact .nilmap
 | fn f caps vs hl ha hr ih =>
  simp only [D.ren,rens_eq]
  exact .fn f (caps.map (D.ren m)) vs (by simpa using hl) (fun k hk => by
   have hk' : k < caps.length := by simpa using hk
   rw [List.getElem_map,isAgg_ren]; exact ha k hk') (fun k hk => by
   have hk' : k < caps.length := by simpa using hk
   rw [List.getElem_map]; exact ih k hk')
 | nilf => exact .nilf
 | yld l => exact .yld l
 | ifc t d v ha hr ih => simp only [D.ren]; exact .ifc t (d.ren m) v (by rw [isAgg_ren]; exact ha) ih
 | nili => exact .nili
 | dead v h => exact .dead v h

theorem Rc.unren {G L L' : Nat → Prop} {m : Nat → Nat} {p : Bool} {d : D} {d' : D} {cs : List Value} {F : List Nat} (h : Rc w ρ G L p d' cs F) (hd : d' = d.ren m) (hL : ∀ i,L (m i) → L' i ∧ ρ2 i = ρ (m i)) : Rc w ρ2 G L' p d cs F := by
 induction h generalizing d with
 | bool b => cases d <;> simp only [D.ren,reduceCtorEq] at hd; cases hd; exact .bool b
 | int n => cases d <;> simp only [D.ren,reduceCtorEq] at hd; cases hd; exact .int n
 | u8 x => cases d <;> simp only [D.ren,reduceCtorEq] at hd; cases hd; exact .u8 x
 | u16 x => cases d <;> simp only [D.ren,reduceCtorEq] at hd; cases hd; exact .u16 x
 | u32 x => cases d <;> simp only [D.ren,reduceCtorEq] at hd; cases hd; exact .u32 x
 | u64 x => cases d <;> simp only [D.ren,reduceCtorEq] at hd; cases hd; exact .u64 x
 | ik k n => cases d <;> simp only [D.ren,reduceCtorEq] at hd; cases hd; exact .ik k n
 | str s => cases d <;> simp only [D.ren,reduceCtorEq] at hd; cases hd; exact .str s
 | nils => cases d <;> simp only [D.ren,reduceCtorEq] at hd; exact .nils
 | slN o z => cases d <;> simp only [D.ren,reduceCtorEq] at hd; cases hd; exact .slN o z
 | slE o z a => cases d <;> simp only [D.ren,reduceCtorEq] at hd; cases hd; exact .slE o z a
 | slI b off cs e fz cap z l hb hG hc hs hr ih => cases d <;> simp only [D.ren,reduceCtorEq] at hd; cases hd; exact .slI b off cs e fz cap z l hb hG hc hs (fun i hi => (hr i hi).noL)
 | slO b cs e cap z l Fs hb hc hm hs ho1 hr ih => cases d <;> simp only [D.ren,reduceCtorEq] at hd; cases hd; exact .slO b cs e cap z l Fs hb hc hm hs ho1 (fun i hi => (hr i hi).noL)
 | agg l cs Fs hs hr ih =>
  cases d with
  | agg l0 =>
   simp only [D.ren,D.agg.injEq,rens_eq] at hd
   subst hd
   have := Rc.agg (w := w) (ρ := ρ2) (G := G) (L := L') (p := ‹Bool›) l0 cs Fs (by rw [← rens_eq,szs_ren] at hs; exact hs) (fun k hk => by
    have := ih k (by simpa using hk) (d := l0[k]) (by simp)
    simp only [List.getElem_map,offk_ren,sz_ren] at this
    exact this)
   simpa using this
  | _ => simp only [D.ren,reduceCtorEq] at hd
 | arr n z l cs hl hs hr ih => cases d <;> simp only [D.ren,reduceCtorEq] at hd; cases hd; exact .arr n z l cs hl hs (fun i hi => (hr i hi).noL)
 | ptr id off path hid =>
  cases d with
  | ptr id0 off0 path0 =>
   simp only [D.ren,D.ptr.injEq] at hd
   obtain ⟨rfl,rfl,rfl⟩ := hd
   obtain ⟨h1,h2⟩ := hL id0 hid
   rw [← h2]
   exact .ptr id0 _ _ h1
  | _ => simp only [D.ren,reduceCtorEq] at hd
 | bs id z n cap hid hcap =>
  cases d with
  | bs id0 z0 n0 cap0 =>
   simp only [D.ren,D.bs.injEq] at hd
   obtain ⟨rfl,rfl,rfl,rfl⟩ := hd
   obtain ⟨h1,h2⟩ := hL id0 hid
   rw [← h2]
   exact .bs id0 _ _ _ h1 hcap
  | _ => simp only [D.ren,reduceCtorEq] at hd
 | nilp => cases d <;> simp only [D.ren,reduceCtorEq] at hd; exact .nilp
 | rp d0 b off cs e fz hb hG hs hr ih => cases d <;> simp only [D.ren,reduceCtorEq] at hd; cases hd; exact .rp d0 b off cs e fz hb hG hs hr.noL
 | map id hid =>
  cases d with
  | map id0 =>
   simp only [D.ren,D.map.injEq] at hd
   subst hd
   obtain ⟨h1,h2⟩ := hL id0 hid
   rw [← h2]
   exact .map id0 h1
  | _ => simp only [D.ren,reduceCtorEq] at hd
 | nilmap => cases d <;> simp only [D.ren,reduceCtorEq] at hd; exact .nilmap
 | fn f caps vs hl ha hr ih =>
  cases d with
  | fn f0 caps0 =>
   simp only [D.ren,D.fn.injEq,rens_eq] at hd
   obtain ⟨rfl,rfl⟩ := hd
   exact .fn f caps0 vs (by simpa using hl) (fun k hk => by have := ha k (by simpa using hk); rw [List.getElem_map,isAgg_ren] at this; exact this) (fun k hk => ih k (by simpa using hk) (by simp))
  | _ => simp only [D.ren,reduceCtorEq] at hd
 | nilf => cases d <;> simp only [D.ren,reduceCtorEq] at hd; exact .nilf
 | yld l => cases d <;> simp only [D.ren,reduceCtorEq] at hd; cases hd; exact .yld l
 | ifc t d0 v ha hr ih =>
  cases d with
  | ifc t1 d1 =>
   simp only [D.ren,D.ifc.injEq] at hd
   obtain ⟨rfl,rfl⟩ := hd
   exact .ifc t d1 v (by rw [isAgg_ren] at ha; exact ha) (ih rfl)
  | _ => simp only [D.ren,reduceCtorEq] at hd
 | nili => cases d <;> simp only [D.ren,reduceCtorEq] at hd; exact .nili
 | dead v h => cases d <;> simp only [D.ren,reduceCtorEq] at hd; exact .dead v h

theorem VR.ren {G L L' : Nat → Prop} {m : Nat → Nat} {d : D} {v : Value} {F : List Nat} (h : VR w ρ G L d v F) (hL : ∀ i,L i → L' (m i) ∧ ρ2 (m i) = ρ i) : VR w ρ2 G L' (d.ren m) v F := by
 unfold VR at *
 rw [isAgg_ren]
 cases hd : d.isAgg <;> simp only [hd,if_true,if_false,Bool.false_eq_true] at h ⊢
 · exact h.ren hL
 · obtain ⟨cs,rfl,h⟩ := h; exact ⟨cs,rfl,h.ren hL⟩
theorem VR.unren {G L L' : Nat → Prop} {m : Nat → Nat} {d : D} {v : Value} {F : List Nat} (h : VR w ρ G L (d.ren m) v F) (hL : ∀ i,L (m i) → L' i ∧ ρ2 i = ρ (m i)) : VR w ρ2 G L' d v F := by
 unfold VR at *
 rw [isAgg_ren] at h
 cases hd : d.isAgg <;> simp only [hd,if_true,if_false,Bool.false_eq_true] at h ⊢
 · exact h.unren rfl hL
 · obtain ⟨cs,rfl,h⟩ := h; exact ⟨cs,rfl,h.unren rfl hL⟩
theorem RV.ren {G L L' : Nat → Prop} {m : Nat → Nat} {d : D} {v : Value} {F : List Nat} (h : RV w ρ G L d v F) (hL : ∀ i,L i → L' (m i) ∧ ρ2 (m i) = ρ i) : RV w ρ2 G L' (d.ren m) v F := by
 cases d with
 | tup ds =>
  obtain ⟨vs,Fs,h1,h2,h3,h4⟩ := h
  simp only [D.ren,rens_eq]
  refine ⟨vs,Fs,h1,by simpa using h2,by simpa using h3,fun k hk => ?_⟩
  have hk' : k < ds.length := by simpa using hk
  rw [List.getElem_map]
  exact ⟨isRef_ren m _ (h4 k hk').1,(h4 k hk').2.ren hL⟩
 | _ => exact ⟨isRef_ren m _ h.1,h.2.ren hL⟩
end Go.Sx

namespace Go.Sx

variable {P : Program} {C : Ctx} {σ σ' σ1 σ2 : Sg} {a : Act} {w w' : World} {ρ ρ2 : Nat → Nat} {Fe Fe' Fb Fb2 : Nat → List Nat}

structure Hand (bx : List (Nat × Bx)) (w : World) (ρ : Nat → Nat) (G : Nat → Prop) (Fb : Nat → List Nat) : Prop where
 box : ∀ id x,lk bx id = some x → BR w ρ G (fun i => (lk bx i).isSome = true) (ρ id) x (Fb id)
 boxN : ∀ id,lk bx id = none → Fb id = []
 nodB : ∀ id,(Fb id).Nodup
 dBB : ∀ id id',id ≠ id' → ∀ b,b ∈ Fb id → b ∉ Fb id'
 out : ∀ id b,b ∈ Fb id → ¬ G b

def FnB (P : Program) (gl : List (Nat × D)) (f : FuncId) (ds : List D) (bx : List (Nat × Bx)) (r : D) (bx' nw : List (Nat × Bx)) : Prop :=
 ∀ (w : World) (G : Nat → Prop) (ρ : Nat → Nat) (Fb : Nat → List Nat) (vs : List Value),
  (∀ g d,(g,d) ∈ gl → G g ∧ ∃ cs e fz,w.heap[g]? = some (.cells cs e fz) ∧ Rc w (fun x => x) (fun _ => False) (fun _ => False) false d cs.toList []) →
  (∀ b,G b → b < w.heap.size) →
  vs.length = ds.length → (∀ k (h : k < ds.length),VR w ρ G (fun i => (lk bx i).isSome = true) ds[k] (vs.getD k undef) []) → Hand bx w ρ G Fb →
  Calls P f vs.toArray w (fun e w' => ∃ v F ρ' Fb',e = .returned v ∧ ExtO (fun b => ∃ id,b ∈ Fb id) w w' ∧ (∀ id,(lk bx id).isSome = true → ρ' id = ρ id) ∧ F.Nodup ∧
   (∀ b,(b ∈ F ∨ ∃ id,b ∈ Fb' id) → w.heap.size ≤ b ∨ ∃ id,b ∈ Fb id) ∧ (∀ id,∀ b ∈ F,b ∉ Fb' id) ∧ (∀ b ∈ F,b < w'.heap.size) ∧
   Hand (nw ++ bx') w' ρ' (fun b => (G b ∨ w.heap.size ≤ b ∨ ∃ id,b ∈ Fb id) ∧ b ∉ F ∧ ¬ ∃ id,b ∈ Fb' id) Fb' ∧
   RV w' ρ' (fun b => (G b ∨ w.heap.size ≤ b ∨ ∃ id,b ∈ Fb id) ∧ b ∉ F ∧ ¬ ∃ id,b ∈ Fb' id) (fun i => (lk (nw ++ bx') i).isSome = true) r v F)

def EndR (rs : List ResultVar) (P : Program) (r : D) (σ : Sg) : Prop :=
 match rs with
 | [rv] => outS σ rv = some r ∧ r.isRef = false ∧ RtT P r rv
 | rs => ∃ ds,r = .tup ds ∧ ds.length = rs.length ∧ (rs.map (srcS σ)).Nodup ∧ ∀ k (h : k < rs.length) (h' : k < ds.length),outS σ rs[k] = some ds[k] ∧ ds[k].isRef = false ∧ RtT P ds[k] rs[k]

theorem EndR.out {fn : Func} {r : D} (st : StW C σ a w ρ Fe Fb) (hend : EndR fn.results.toList P r σ) :
 ∃ v,(results fn a.tmps).run P w = .ok v w ∧ ∃ F,F.Nodup ∧ (∀ b ∈ F,∃ rv ∈ fn.results.toList,b ∈ (if (srcS σ rv).2 then Fe (srcS σ rv).1 else Fb (srcS σ rv).1)) ∧ RV w ρ (gd C Fe Fb) (fun id => (σ.box id).isSome = true) r v F := by
 have one : ∀ rv,fn.results.toList = [rv] → outS σ rv = some r ∧ r.isRef = false ∧ RtT P r rv →
  ∃ v,(results fn a.tmps).run P w = .ok v w ∧ ∃ F,F.Nodup ∧ (∀ b ∈ F,∃ rv ∈ fn.results.toList,b ∈ (if (srcS σ rv).2 then Fe (srcS σ rv).1 else Fb (srcS σ rv).1)) ∧ RV w ρ (gd C Fe Fb) (fun id => (σ.box id).isSome = true) r v F := by
  rintro rv hrs ⟨h1,h2,h4⟩
  obtain ⟨v,F,hv1,hv2,hv3,hv4⟩ := outS_ok (P := P) st h1 h2 h4
  refine ⟨v, ?_,F,hv3,fun b hb => ⟨rv,by rw [hrs]; simp,hv4 b hb⟩,(RV_plain h2).2 hv2⟩
  rw [results_run hrs (fun _ => v) w (fun k hk => by
   have : k = 0 := by simp at hk; omega
   subst this; exact hv1)]
  rfl
 have many : ∀ rs,fn.results.toList = rs → rs.length ≠ 1 → (∃ ds,r = .tup ds ∧ ds.length = rs.length ∧ (rs.map (srcS σ)).Nodup ∧ ∀ k (h : k < rs.length) (h' : k < ds.length),outS σ rs[k] = some ds[k] ∧ ds[k].isRef = false ∧ RtT P ds[k] rs[k]) →
  ∃ v,(results fn a.tmps).run P w = .ok v w ∧ ∃ F,F.Nodup ∧ (∀ b ∈ F,∃ rv ∈ fn.results.toList,b ∈ (if (srcS σ rv).2 then Fe (srcS σ rv).1 else Fb (srcS σ rv).1)) ∧ RV w ρ (gd C Fe Fb) (fun id => (σ.box id).isSome = true) r v F := by
  rintro rs hrs hne ⟨ds',rfl,hl',hnd,hall⟩
  have hk : ∀ k,∃ vF : Value × List Nat,k < rs.length → ∃ (h : k < rs.length) (h' : k < ds'.length),
   (resV a.tmps rs[k]).run P w = .ok vF.1 w ∧
   VR w ρ (gd C Fe Fb) (fun id => (σ.box id).isSome) ds'[k] vF.1 vF.2 ∧ vF.2.Nodup ∧ (∀ b ∈ vF.2,b ∈ (if (srcS σ rs[k]).2 then Fe (srcS σ rs[k]).1 else Fb (srcS σ rs[k]).1)) := by
   intro k
   by_cases hk : k < rs.length
   · have hk' : k < ds'.length := by omega
     obtain ⟨h1,h2,h4⟩ := hall k hk hk'
     obtain ⟨v,F,q⟩ := outS_ok (P := P) st h1 h2 h4
     exact ⟨(v,F),fun _ => ⟨hk,hk',q⟩⟩
   · exact ⟨(undef,[]),fun h => absurd h hk⟩
  obtain ⟨vF,hk⟩ := Classical.skolem.1 hk
  have hdis : ∀ j k,j < rs.length → k < rs.length → j ≠ k → ∀ b,b ∈ (vF j).2 → b ∉ (vF k).2 := by
   intro j k hj hkk hjk b hb hb'
   obtain ⟨h,h',q1,q2,q3,q4⟩ := hk j hj
   obtain ⟨g,g',p1,p2,p3,p4⟩ := hk k hkk
   have e1 := q4 b hb
   have e2 := p4 b hb'
   have hne : srcS σ rs[j] ≠ srcS σ rs[k] := by
    intro he
    have := (List.getElem_inj (h₀ := by simpa using hj) (h₁ := by simpa using hkk) hnd).1 (by simpa using he)
    exact hjk this
   generalize srcS σ rs[j] = x at e1 hne
   generalize srcS σ rs[k] = y at e2 hne
   obtain ⟨x1,x2⟩ := x
   obtain ⟨y1,y2⟩ := y
   cases x2 <;> cases y2 <;> simp at e1 e2 hne
   · exact st.dBB x1 y1 hne b e1 e2
   · exact st.dEB y1 x1 b e2 e1
   · exact st.dEB x1 y1 b e1 e2
   · exact st.dEE x1 y1 hne b e1 e2
  refine ⟨.tuple ((List.range rs.length).map (fun k => (vF k).1)).toArray, ?_,(List.range ds'.length).flatMap (fun k => (vF k).2), ?_, ?_,_,(fun k => (vF k).2),rfl,by simp [hl'],rfl, ?_⟩
  · rw [results_run hrs (fun k => (vF k).1) w (fun k hk' => by obtain ⟨_,_,q,_⟩ := hk k hk'; exact q),if_neg hne]
  · refine flat_nodup_mk (fun k hkk => ?_) (fun j k hj hkk => hdis j k (by omega) (by omega))
    obtain ⟨h,h',q1,q2,q3,q4⟩ := hk k (by omega)
    exact q3
  · intro b hb
    obtain ⟨k,hk1,hk2⟩ := List.mem_flatMap.1 hb
    have hkl : k < rs.length := by have := List.mem_range.1 hk1; omega
    obtain ⟨h,h',q1,q2,q3,q4⟩ := hk k hkl
    exact ⟨rs[k],by rw [hrs]; exact List.getElem_mem hkl,q4 b hk2⟩
  · intro k hkk
    obtain ⟨h,h',q1,q2,q3,q4⟩ := hk k (by omega)
    obtain ⟨h1,h2,h4⟩ := hall k (by omega) hkk
    refine ⟨h2, ?_⟩
    have e : ((List.range rs.length).map (fun k => (vF k).1)).getD k undef = (vF k).1 := by
     have : k < rs.length := by omega
     simp [List.getD_eq_getElem?_getD,List.getElem?_map,List.getElem?_range this]
    rw [e]
    exact q2
 cases hrs : fn.results.toList with
 | nil => rw [hrs] at hend; rw [← hrs]; exact many [] hrs (by simp) hend
 | cons rv rest =>
  cases rest with
  | nil => rw [hrs] at hend; rw [← hrs]; exact one rv hrs hend
  | cons rv2 rest => rw [hrs] at hend; rw [← hrs]; exact many _ hrs (by simp) hend

def okBxP (ids : List Nat) : List (Nat × Bx) → Prop
 | [] => True
 | (_,.var d) :: r => d.okB ids = true ∧ okBxP ids r
 | (_,.mp l) :: r => (∀ kv ∈ l,kv.1.okB ids = true ∧ kv.2.okB ids = true) ∧ okBxP ids r
theorem okBxP_get {ids : List Nat} {l : List (Nat × Bx)} (h : okBxP ids l) {t : Nat} {b : Bx} (hd : lk l t = some b) : (∃ d,b = .var d ∧ d.okB ids = true) ∨ ∃ m,b = .mp m ∧ ∀ kv ∈ m,kv.1.okB ids = true ∧ kv.2.okB ids = true := by
 induction l with
 | nil => simp [lk] at hd
 | cons x r ih =>
  obtain ⟨k,e⟩ := x
  rw [lk_cons] at hd
  cases e with
  | mp e =>
   by_cases hk : k = t
   · simp only [hk,if_true,Option.some.injEq] at hd; subst hd; exact .inr ⟨e,rfl,h.1⟩
   · simp only [hk,if_false] at hd; exact ih h.2 hd
  | var e =>
   by_cases hk : k = t
   · simp only [hk,if_true,Option.some.injEq] at hd; subst hd; exact .inl ⟨e,rfl,h.1⟩
   · simp only [hk,if_false] at hd; exact ih h.2 hd
theorem BR.okB {ids : List Nat} {G L : Nat → Prop} {b : Nat} {x : Bx} {F : List Nat} (h : BR w ρ G L b x F) (hx : (∃ d,x = .var d ∧ d.okB ids = true) ∨ ∃ m,x = .mp m ∧ ∀ kv ∈ m,kv.1.okB ids = true ∧ kv.2.okB ids = true) : BR w ρ G (fun id => memB ids id = true ∧ L id) b x F := by
 rcases hx with ⟨d,rfl,hd⟩ | ⟨m,rfl,hm⟩
 · obtain ⟨cs,e,F',h1,h2,h3⟩ := h
   exact ⟨cs,e,F',h1,h2.okB hd,h3⟩
 · obtain ⟨h1,es,clock,h2,h3,h4⟩ := h
   refine ⟨h1,es,clock,h2,h3,fun k hk => ?_⟩
   obtain ⟨q1,q2,q3⟩ := h4 k hk
   obtain ⟨o1,o2⟩ := hm _ (List.getElem_mem hk)
   exact ⟨q1.okB o1,q2.okB o2,q3⟩
theorem RV.okB {ids : List Nat} {G L : Nat → Prop} {r : D} {v : Value} {F : List Nat} (h : RV w ρ G L r v F) (hr : r.okB ids = true) : RV w ρ G (fun id => memB ids id = true ∧ L id) r v F := by
 cases r with
 | tup ds =>
  obtain ⟨vs,Fs,h1,h2,h3,h4⟩ := h
  exact ⟨vs,Fs,h1,h2,h3,fun k hk => ⟨(h4 k hk).1,(h4 k hk).2.okB (okBs_get ds (by simpa [D.okB] using hr) k hk)⟩⟩
 | _ => exact ⟨h.1,h.2.okB hr⟩

def EndsB (rs : List ResultVar) (P : Program) (r : D) (ids : List Nat) (bx' : List (Nat × Bx)) (e : Exit) (σ : Sg) : Prop :=
 (e = .normal ∨ e = .ret) ∧ EndR rs P r σ ∧ r.okB ids = true ∧ keepB ids σ.bx = bx' ∧ okBxP ids bx' ∧ (∀ rv ∈ rs,(srcS σ rv).2 = false → memB ids (srcS σ rv).1 = false)

theorem lk_append {α : Type} (l r : List (Nat × α)) (t : Nat) : lk (l ++ r) t = (match lk l t with | some x => some x | none => lk r t) := by
 induction l with
 | nil => simp [lk]
 | cons x l ih =>
  obtain ⟨k,d⟩ := x
  simp only [List.cons_append,lk_cons,ih]
  split <;> simp_all

theorem memN_fst {bx : List (Nat × Bx)} {id : Nat} (h : (lk bx id).isSome = true) : memN (bx.map Prod.fst) id = true := by
 induction bx with
 | nil => cases h
 | cons x r ih =>
  obtain ⟨k,b⟩ := x
  rw [lk_cons] at h
  simp only [memN,List.map_cons,List.any_cons,Bool.or_eq_true]
  by_cases hk : k = id
  · subst hk; left; simp
  · simp only [hk,if_false] at h; exact .inr (ih h)

theorem FnB.of {gl : List (Nat × D)} {f : FuncId} {fn : Func} {c : Code} {ds : List D} {bx bx' nw : List (Nat × Bx)} {r : D} {n : Nat} {ids : List Nat} (hf : P.funcs[f]? = some fn) (hb : fn.body = some c) (hnn : fn.ntmps = n)
 (hd : ds.all (fun d => !d.isRef) = true) (hn : ds.length ≤ n)
 (h : ∀ C : Ctx,C.gl = gl → (∀ id b,C.pin id = some b → memN (bx.map Prod.fst) id = true) → W P C c (EndsB fn.results.toList P r ids (nw ++ bx')) ⟨n,ini 0 ds,bx⟩) : FnB P gl f ds bx r bx' nw := by
 subst hnn
 intro w G ρ0 Fb0 vs hgl hGlt hl hv hand
 refine calls_of_wp hf hb ?_
 let C : Ctx := ⟨w,fun b => b < w.heap.size ∧ ¬ ∃ id,b ∈ Fb0 id,fun b => G b ∨ w.heap.size ≤ b ∨ ∃ id,b ∈ Fb0 id,gl,none,fun id => if (lk bx id).isSome then some (ρ0 id) else none,[]⟩
 have hget : ∀ t d,(⟨fn.ntmps,ini 0 ds,bx⟩ : Sg).get t = some d → ∃ h : t < ds.length,ds[t] = d := by
  intro t d hd
  simp only [Sg.get,lk_ini,Nat.zero_le,if_true,Nat.sub_zero] at hd
  obtain ⟨h,e⟩ := List.getElem?_eq_some_iff.1 hd
  exact ⟨h,e⟩
 have hown : ∀ b,own (fun _ => []) Fb0 b → ∃ id,b ∈ Fb0 id := by
  rintro b (⟨_,h⟩ | h)
  · cases h
  · exact h
 have hbx : ∀ id,(⟨fn.ntmps,ini 0 ds,bx⟩ : Sg).box id = lk bx id := fun id => rfl
 have hFlt : ∀ id b,b ∈ Fb0 id → b < w.heap.size := fun id b hb => by
  cases hx : lk bx id with
  | none => rw [hand.boxN id hx] at hb; cases hb
  | some x => exact (hand.box id x hx).lt b hb
 have hG2 : ∀ b,G b → gd C (fun _ => []) Fb0 b := fun b hb => ⟨.inl hb,fun ho => by obtain ⟨id,hid⟩ := hown b ho; exact hand.out id b hid hb⟩
 have hpin0 : ∀ id b,C.pin id = some b → ρ0 id = b ∧ (lk bx id).isSome = true := fun id b hp => by
  by_cases hx : (lk bx id).isSome = true
  · simp only [C,hx,if_true,Option.some.injEq] at hp; exact ⟨hp,hx⟩
  · simp [C,hx] at hp
 have st : StW C ⟨fn.ntmps,ini 0 ds,bx⟩ { tmps := vs.toArray ++ Array.replicate (fn.ntmps - vs.toArray.size) undef,defers := [] } w ρ0 (fun _ => []) Fb0 := by
  refine ⟨?_,rfl,(fun id b hp => hpin0 id b hp), ?_,fun _ _ => rfl, ?_,hand.boxN,fun _ => List.nodup_nil,hand.nodB,(fun _ _ _ _ h => by cases h),(fun _ _ _ h => by cases h),hand.dBB,fun b hb hc => hc.2 (hown b hb), ?_,rfl,rfl,rfl,Nat.le_refl _, ?_,fun b hb => .inr (.inl hb),fun b hb => .inr (.inr (hown b hb))⟩
  · simp [hl]; omega
  · intro t d hd'
    obtain ⟨ht,rfl⟩ := hget t d hd'
    have hr : ds[t].isRef = false := by
     have := List.all_eq_true.1 hd ds[t] (List.getElem_mem ht)
     simpa using this
    refine (SR_plain hr).2 ⟨vs.getD t undef, ?_,(hv t ht).mono (fun _ _ _ => rfl) (fun b hb _ => hG2 b hb) (fun id hid => ⟨hid,rfl⟩)⟩
    have htv : t < vs.length := by omega
    rw [Array.getElem?_append_left (by simpa using htv)]
    simp [htv]
  · intro id x hx
    exact (hand.box id x hx).mono (fun _ _ _ => rfl) (fun b hb _ => hG2 b hb) (fun id hid => ⟨hid,rfl⟩)
  · intro b hb; exact ⟨rfl,hb.1⟩
  · intro g d hg
    obtain ⟨h1,cs,e,fz,h2,h3⟩ := hgl g d hg
    exact ⟨⟨(Array.getElem?_eq_some_iff.1 h2).1,fun ⟨id,hid⟩ => hand.out id g hid h1⟩,.inl h1,cs,e,fz,h2,h3⟩
 refine Go.Code.wp_mono ?_ (wpIn_wide.1 (h C rfl (fun id b hp => memN_fst (hpin0 id b hp).2) _ w ⟨_,_,_,st⟩))
 rintro e a' w' ⟨σ',⟨ρ,Fe,Fb,st'⟩,he,hend,hokr,hkeep,hokb,hsrc⟩
 have hlt' := st'.lt
 have hl' : ∀ u,lk (nw ++ bx') u = if memB ids u then σ'.box u else none := fun u => by rw [← hkeep]; exact lk_keepB ids σ'.bx u
 obtain ⟨v,h1,F,h2,h3,h4⟩ := EndR.out st' hend
 let Fb' : Nat → List Nat := fun id => if memB ids id then Fb id else []
 have hsub : ∀ id,∀ b ∈ Fb' id,memB ids id = true ∧ b ∈ Fb id := fun id b hm => by
  by_cases hi : memB ids id = true
  · exact ⟨hi,by simpa [Fb',hi] using hm⟩
  · simp [Fb',hi] at hm
 have hFo : ∀ b ∈ F,own Fe Fb b := fun b hb => by
  obtain ⟨rv,_,hx⟩ := h3 b hb
  split at hx
  · exact .inl ⟨_,hx⟩
  · exact .inr ⟨_,hx⟩
 have hnew : ∀ b,own Fe Fb b → w.heap.size ≤ b ∨ ∃ id,b ∈ Fb0 id := fun b hb => by
  by_cases hbl : w.heap.size ≤ b
  · exact .inl hbl
  · right
    by_cases hx : ∃ id,b ∈ Fb0 id
    · exact hx
    · exact absurd ⟨by omega,hx⟩ (st'.new b hb)
 have hFd : ∀ id,∀ b ∈ F,b ∉ Fb' id := fun id b hb hb' => by
  obtain ⟨hi,hb'⟩ := hsub id b hb'
  obtain ⟨rv,hrv,hx⟩ := h3 b hb
  split at hx
  · exact st'.dEB _ id b hx hb'
  · rename_i hs
    have := hsrc rv hrv (by simpa using hs)
    by_cases hii : (srcS σ' rv).1 = id
    · rw [hii] at this; rw [this] at hi; cases hi
    · exact st'.dBB _ _ hii b hx hb'
 have hgd : ∀ b,gd C Fe Fb b → (G b ∨ w.heap.size ≤ b ∨ ∃ id,b ∈ Fb0 id) ∧ b ∉ F ∧ ¬ ∃ id,b ∈ Fb' id := fun b hb =>
  ⟨hb.1,fun hm => hb.2 (hFo b hm),fun ⟨id,hid⟩ => hb.2 (.inr ⟨id,(hsub id b hid).2⟩)⟩
 have hL : ∀ id,(memB ids id = true ∧ (σ'.box id).isSome = true) → (lk (nw ++ bx') id).isSome = true := fun id ⟨q1,q2⟩ => by rw [hl',if_pos q1]; exact q2
 have hρ : ∀ id,(lk bx id).isSome = true → ρ id = ρ0 id := fun id hx => (st'.pin id (ρ0 id) (by simp [C,hx])).1
 have hext : ExtO (fun b => ∃ id,b ∈ Fb0 id) w w' := ⟨st'.os,st'.tape,st'.output,st'.grown,fun b hb hn => (st'.kept b ⟨hb,hn⟩).1⟩
 have hhand : Hand (nw ++ bx') w' ρ (fun b => (G b ∨ w.heap.size ≤ b ∨ ∃ id,b ∈ Fb0 id) ∧ b ∉ F ∧ ¬ ∃ id,b ∈ Fb' id) Fb' := by
  refine ⟨fun id x hx => ?_,fun id hx => ?_,fun id => ?_,fun id id' hne b hb hb' => st'.dBB id id' hne b (hsub id b hb).2 (hsub id' b hb').2,fun id b hb hc => hc.2.2 ⟨id,hb⟩⟩
  · have hx' := hl' id
    rw [hx] at hx'
    by_cases hm : memB ids id = true
    · rw [if_pos hm] at hx'
      have hF' : Fb' id = Fb id := by simp [Fb',hm]
      rw [hF']
      exact ((st'.bx id x hx'.symm).okB (okBxP_get hokb hx)).mono (fun _ _ _ => rfl) (fun b hb _ => hgd b hb) (fun i hi => ⟨hL i hi,rfl⟩)
    · rw [if_neg hm] at hx'; cases hx'
  · by_cases hm : memB ids id = true
    · have hx' := hl' id
      rw [hx,if_pos hm] at hx'
      simp only [Fb',hm,if_true]
      exact st'.bxN id hx'.symm
    · simp [Fb',hm]
  · show (if memB ids id then Fb id else []).Nodup
    split
    · exact st'.nodB id
    · exact List.nodup_nil
 have hall : ∃ v' F ρ' Fb',(Ending.returned v) = .returned v' ∧ ExtO (fun b => ∃ id,b ∈ Fb0 id) w w' ∧ (∀ id,(lk bx id).isSome = true → ρ' id = ρ0 id) ∧ F.Nodup ∧
  (∀ b,(b ∈ F ∨ ∃ id,b ∈ Fb' id) → w.heap.size ≤ b ∨ ∃ id,b ∈ Fb0 id) ∧ (∀ id,∀ b ∈ F,b ∉ Fb' id) ∧ (∀ b ∈ F,b < w'.heap.size) ∧
  Hand (nw ++ bx') w' ρ' (fun b => (G b ∨ w.heap.size ≤ b ∨ ∃ id,b ∈ Fb0 id) ∧ b ∉ F ∧ ¬ ∃ id,b ∈ Fb' id) Fb' ∧
  RV w' ρ' (fun b => (G b ∨ w.heap.size ≤ b ∨ ∃ id,b ∈ Fb0 id) ∧ b ∉ F ∧ ¬ ∃ id,b ∈ Fb' id) (fun i => (lk (nw ++ bx') i).isSome = true) r v' F :=
  ⟨v,F,ρ,Fb',rfl,hext,hρ,h2,fun b hb => hnew b (hb.elim (hFo b) (fun ⟨id,hid⟩ => .inr ⟨id,(hsub id b hid).2⟩)),hFd,fun b hb => hlt' b (hFo b hb),hhand,
   (h4.okB hokr).mono (fun _ _ _ => rfl) (fun b hb _ => hgd b hb) (fun i hi => ⟨hL i hi,rfl⟩)⟩
 rcases he with rfl | rfl
 · exact ⟨st'.defs,v,h1,hall⟩
 · exact ⟨st'.defs,v,h1,hall⟩
end Go.Sx
