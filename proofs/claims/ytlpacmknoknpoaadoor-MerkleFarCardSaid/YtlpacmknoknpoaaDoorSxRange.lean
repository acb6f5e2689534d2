/-
  Own library: ranges over functions, the function that is ranged over.
-/
import Derived.Test.YtlpacmknoknpoaaDoorSxNil
import Derived.RangeFuncIn
import Derived.RangeFuncRecord
set_option linter.unusedVariables false
set_option linter.unusedSimpArgs false
set_option linter.unnecessarySimpa false
namespace Go.Sx

variable {P : Program} {C : Ctx} {σ σ' σ1 : Sg} {a : Act} {w w' : World} {ρ : Nat → Nat} {Fe Fe' Fb : Nat → List Nat}

/-! ### triples over any assertions -/
def Fr (rd : Option Nat) : Fence := { Fence.wide with round := rd }
def V (P : Program) (rd : Option Nat) {ι : Type} (A : ι → Act → World → Prop) (c : Code) (Q : Exit → ι → Prop) (i : ι) : Prop :=
  ∀ a w, A i a w → c.wpIn (Fr rd) 3 P (fun e a' w' => ∃ j, A j a' w' ∧ Q e j) a w
def VL (P : Program) (rd : Option Nat) {ι : Type} (A : ι → Act → World → Prop) (ops : Array Oper) (l : List Oper) (Q : Exit → ι → Prop) (i : ι) : Prop :=
  ∀ a w, A i a w → wpListIn (Fr rd) 3 P ops (fun e a' w' => ∃ j, A j a' w' ∧ Q e j) l a w

section
variable {rd : Option Nat} {ι : Type} {A : ι → Act → World → Prop} {Q : Exit → ι → Prop} {i : ι}
theorem V.region {id : Nat} {l : List Oper} (h : VL P rd A l.toArray l Q i) : V P rd A (.region id l.toArray false) Q i := fun a w hs => wpIn_region_lit (h a w hs)
theorem V.seq {x y : Code} (h : V P rd A x (fun e s => match e with | .normal => V P rd A y Q s | e => Q e s) i) : V P rd A (.seq x y) Q i := by
  intro a w hs
  refine wpIn_seq ?_
  refine Go.Code.wpIn_mono ?_ (h a w hs)
  intro e a' w' ⟨s, hs', hq⟩
  cases e <;> first | exact hq a' w' hs' | exact ⟨s, hs', hq⟩
theorem V.skip (h : Q .normal i) : V P rd A .skip Q i := fun a w hs => wpIn_skip ⟨i, hs, h⟩
theorem V.ret (h : Q .ret i) : V P rd A .ret Q i := fun a w hs => wpIn_ret ⟨i, hs, h⟩
theorem V.exit {id : Nat} (h : Q (.exit id) i) : V P rd A (.exit id) Q i := fun a w hs => wpIn_exit ⟨i, hs, h⟩
theorem V.label {l : Nat} (h : Q .normal i) : V P rd A (.label l) Q i := fun a w hs => wpIn_label ⟨i, hs, h⟩
theorem V.mono {c : Code} {Q' : Exit → ι → Prop} (h : V P rd A c Q i) (hq : ∀ e s, Q e s → Q' e s) : V P rd A c Q' i :=
  fun a w hs => Go.Code.wpIn_mono (fun _ _ _ ⟨s, hs', h'⟩ => ⟨s, hs', hq _ _ h'⟩) (h a w hs)
theorem V.block {id : Nat} {c : Code} (h : V P rd A c (fun e s => match e with | .exit j => if j = id then Q .normal s else Q (.exit j) s | e => Q e s) i) : V P rd A (.block id c) Q i := by
  intro a w hs
  refine wpIn_block ?_
  refine Go.Code.wpIn_mono ?_ (h a w hs)
  intro e a' w' ⟨s, hs', hq⟩
  cases e with
  | exit j =>
    simp only [Exit.inBlock]
    split
    · rename_i hi; exact ⟨s, hs', by simpa [hi] using hq⟩
    · rename_i hi; exact ⟨s, hs', by simpa [hi] using hq⟩
  | _ => exact ⟨s, hs', hq⟩
theorem V.loop {α : Type} {c : Code} (I : α → ι) (μ : α → Nat) (x0 : α) (h0 : i = I x0)
    (h : ∀ x, V P rd A c (fun e s => match e with | .normal => ∃ y, s = I y ∧ μ y < μ x | e => Q e s) (I x)) : V P rd A (.loop c) Q i := by
  subst h0
  intro a w hs b k cs hro hbf hr
  have key : ∀ n x a w, μ x = n → A (I x) a w →
      ∃ e a' w', (∃ s, A s a' w' ∧ Q e s) ∧ ArrivesIn (Machine.fenced P (Fr rd)) P (lone (b.atR a (.code c :: .inLoop c :: k)) cs w) b k cs e a' w' := by
    intro n
    induction n using Nat.strongRecOn with
    | _ n ih =>
      intro x a w hx hs
      obtain ⟨e, a₁, w₁, ⟨s, hs1, hq⟩, harr⟩ := h x a w hs b (.inLoop c :: k) cs hro hbf hr
      cases e with
      | normal =>
        obtain ⟨y, rfl, hlt⟩ := hq
        obtain ⟨e₂, a₂, w₂, hq₂, harr₂⟩ := ih (μ y) (hx ▸ hlt) y a₁ w₁ rfl hs1
        exact ⟨e₂, a₂, w₂, hq₂, .of_steps (StepsIn.trans harr (.one (fenced_calm hbf hr rfl) stepR_inLoop)) harr₂⟩
      | exit id => exact ⟨_, a₁, w₁, ⟨s, hs1, hq⟩, .pass (x := .inLoop c) rfl (fun _ _ => .inl (by simp)) harr⟩
      | goto l => exact ⟨_, a₁, w₁, ⟨s, hs1, hq⟩, .pass (x := .inLoop c) rfl (fun _ _ => .inl (by simp)) harr⟩
      | ret => exact ⟨_, a₁, w₁, ⟨s, hs1, hq⟩, .pass (x := .inLoop c) rfl (fun _ _ => .inl (by simp)) harr⟩
      | panic ch => exact ⟨_, a₁, w₁, ⟨s, hs1, hq⟩, .pass (x := .inLoop c) rfl (fun _ _ => .inl (by simp)) harr⟩
      | outgrown => exact ⟨_, a₁, w₁, ⟨s, hs1, hq⟩, .pass (x := .inLoop c) rfl (fun _ _ => .inl (by simp)) harr⟩
  obtain ⟨e, a', w', hq, harr⟩ := key _ x0 a w rfl hs
  exact ⟨e, a', w', hq, .of_steps (.one (fenced_calm hbf hr rfl) stepR_loop) harr⟩
end

/-! ### a state in a world that others have turned -/
theorem SR_keepR {G G' L : Nat → Prop} {u : Nat} {d : D} {F : List Nat} (h : SR w ρ G L a u d F)
    (hh : ∀ b, (G b ∨ b ∈ F) → b < w.heap.size → w'.heap[b]? = w.heap[b]?) (hg : ∀ b, G b → b < w.heap.size → G' b)
    (hc : ∀ i, L i → ρ i < w.heap.size → w'.heap[ρ i]? = w.heap[ρ i]?) : SR w' ρ G' L a u d F := by
  have hL2 : ∀ i, L i → L i ∧ ρ i = ρ i := fun i hi => ⟨hi, rfl⟩
  cases d with
  | al s => exact h
  | alb i off path =>
    obtain ⟨hF, hid, x, hx, hs⟩ := h
    exact ⟨hF, hid, x, hx, by rw [← hs]; exact World.cell?_of_block (hc i hid (block_lt_of_cell hs))⟩
  | vw s z lo n => exact h
  | va i off z n path lo => exact h
  | ep s z i off path => exact h
  | tup ds =>
    obtain ⟨vs, Fs, h1, h2, h3, h4⟩ := h
    refine ⟨vs, Fs, h1, h2, h3, fun k hk => (h4 k hk).imp (fun hx => hx) fun hx => ⟨hx.1, hx.2.mono (fun b hb => hh b (hb.imp (fun hx => hx) fun hm => ?_)) hg hL2⟩⟩
    rw [h3]; exact List.mem_flatMap.2 ⟨k, List.mem_range.2 hk, hm⟩
  | dead => exact h
  | _ => obtain ⟨x, hx, hr⟩ := h; exact ⟨x, hx, hr.mono hh hg hL2⟩

theorem StW.rebase (st : StW C σ a w ρ Fe Fb) (C' : Ctx) (hpin : C'.pin = C.pin) (hdf : C'.df = C.df)
    (hsame : ∀ b, (gd C Fe Fb b ∨ own Fe Fb b) → b < w.heap.size → w'.heap[b]? = w.heap[b]?) (hok : ∀ b, gd C Fe Fb b → b < w.heap.size → C'.ok b)
    (hnew : ∀ b, own Fe Fb b → ¬ C'.keep b) (hkept : ∀ b, C'.keep b → w'.heap[b]? = C'.w0.heap[b]? ∧ b < C'.w0.heap.size)
    (hos : w'.os = C'.w0.os) (htape : w'.tape = C'.w0.tape) (hout : w'.output = C'.w0.output) (hgrown : C'.w0.heap.size ≤ w'.heap.size)
    (hgl : ∀ g d, (g, d) ∈ C'.gl → C'.keep g ∧ C'.ok g ∧ ∃ cs e fz, C'.w0.heap[g]? = some (.cells cs e fz) ∧ Rc C'.w0 (fun x => x) (fun _ => False) (fun _ => False) false d cs.toList [])
    (hokN : ∀ b, w'.heap.size ≤ b → C'.ok b) (hokO : ∀ b, own Fe Fb b → C'.ok b) : StW C' σ a w' ρ Fe Fb := by
  have hlt := st.lt
  have hg : ∀ b, gd C Fe Fb b → b < w.heap.size → gd C' Fe Fb b := fun b hb hl => ⟨hok b hb hl, hb.2⟩
  refine { size := st.size, defs := by rw [hdf]; exact st.defs, pin := by rw [hpin]; exact st.pin, env := ?_, envN := st.envN, bx := ?_, bxN := st.bxN, nodE := st.nodE, nodB := st.nodB, dEE := st.dEE, dEB := st.dEB, dBB := st.dBB, new := hnew, kept := hkept, os := hos, tape := htape, output := hout, grown := hgrown, gl := hgl, okN := hokN, okO := hokO }
  · intro t d hd
    refine SR_keepR (st.env t d hd) (fun b hb hl => hsame b (hb.imp (fun h => h) (fun h => .inl ⟨t, h⟩)) hl) hg (fun i hi hl => ?_)
    cases hbx : σ.box i with
    | none => simp [hbx] at hi
    | some x => exact hsame _ (.inr (.inr ⟨i, (st.bx i x hbx).mem⟩)) hl
  · intro id x hx
    exact (st.bx id x hx).mono (fun b hb hl => hsame b (hb.imp (fun h => h) (fun h => .inr ⟨id, h⟩)) hl) hg (fun i hi => ⟨hi, rfl⟩)

/-! ### the function that is ranged over -/
/-- Y k s O w: the caller, after k rounds, stopped (s) or not, where the blocks O are the iterator's -/
abbrev Yt := Nat → Bool → (Nat → Prop) → World → Prop
/-- what leaves all but O alone -/
structure Apart (O O' : Nat → Prop) (w w' : World) : Prop where
  same : ∀ b, b < w.heap.size → ¬ O b → w'.heap[b]? = w.heap[b]?
  size : w.heap.size ≤ w'.heap.size
  sub : ∀ b, O' b → O b ∨ w.heap.size ≤ b
  lt : ∀ b, O' b → b < w'.heap.size
  os : w'.os = w.os
  tape : w'.tape = w.tape
  output : w'.output = w.output
def Stable (Y : Yt) : Prop := ∀ k s O O' w w', Y k s O w → Apart O O' w w' → Y k s O' w'

/-- a call of yield with one value -/
def YieldTo (P : Program) (l : Nat) (v : Value) (w : World) (R : World → Bool → Prop) : Prop :=
  ∃ f tmps assign body, (Instr.yield l #[v]).run P w = .ok (.round l f tmps assign body) w ∧
    RoundIn (Fr none) 2 P l f tmps assign body w (fun e w' => ∃ s, e = .returned (.bool (!s)) ∧ R w' s)

/-- what a round keeps and does -/
structure Rnd (Y : Yt) (G O : Nat → Prop) (k : Nat) (w w' : World) (s : Bool) : Prop where
  y : Y (k + 1) s O w'
  same : ∀ b, (G b ∨ O b) → b < w.heap.size → w'.heap[b]? = w.heap[b]?
  size : w.heap.size ≤ w'.heap.size

/-- f, called with yield, hands over xs one by one, until a round says stop -/
def Itr (P : Program) (gl : List (Nat × D)) (f : FuncId) (caps : List D) (xs : List D) : Prop :=
  ∀ (w : World) (G : Nat → Prop) (vs : List Value) (l : Nat) (Y : Yt),
    (∀ b, G b → b < w.heap.size) →
    (∀ g d, (g, d) ∈ gl → G g ∧ ∃ cs e fz, w.heap[g]? = some (.cells cs e fz) ∧ Rc w (fun x => x) (fun _ => False) (fun _ => False) false d cs.toList []) →
    vs.length = caps.length → (∀ k (h : k < caps.length), VR w (fun x => x) G (fun _ => False) caps[k] (vs.getD k undef) []) →
    Stable Y →
    (∀ k O w v, (h : k < xs.length) → Y k false O w → (∀ b, O b → b < w.heap.size) → VR w (fun x => x) (fun b => G b ∨ O b) (fun _ => False) xs[k] v [] → YieldTo P l v w (Rnd Y G O k w)) →
    Y 0 false (fun _ => False) w →
    Calls P f (#[.func (.yield l) #[] #[]] ++ vs.toArray) w (fun e w' => (∃ v, e = .returned v) ∧ ∃ k s O, Y k s O w' ∧ (s = true ∨ k = xs.length))

/-- assertions that speak of a state under a context that is somehow there -/
structure Rel (gl : List (Nat × D)) (κ : Type) where
  r : κ → Ctx → Prop
  gl : ∀ {m C}, r m C → C.gl = gl
  rd : ∀ {m C}, r m C → C.rd = none
  pin : ∀ {m C}, r m C → ∀ id, C.pin id = none
def AM {gl : List (Nat × D)} {κ : Type} (R : Rel gl κ) (i : κ × Sg) (a : Act) (w : World) : Prop := ∃ C : Ctx, R.r i.1 C ∧ St C i.2 a w

section
variable {gl : List (Nat × D)} {κ : Type} {R : Rel gl κ} {m : κ}
/-- what holds under any context holds here -/
theorem V.of {c : Code} {Q : Exit → κ × Sg → Prop} (h : ∀ C : Ctx, C.gl = gl → (∀ id b, C.pin id = some b → memN [] id = true) → W P C c (fun e σ' => Q e (m, σ')) σ) : V P none (AM R) c Q (m, σ) := by
  intro a w ⟨C, hC, hs⟩
  have hF : Fx C = Fr none := by unfold Fx Fr; rw [R.rd hC]
  have := h C (R.gl hC) (fun id b hp => by rw [R.pin hC] at hp; cases hp) a w hs
  rw [hF] at this
  exact Go.Code.wpIn_mono (fun e a' w' ⟨σ', hs, hq⟩ => ⟨(m, σ'), ⟨C, hC, hs⟩, hq⟩) this
theorem V.wk {c : Code} {Q : Exit → κ × Sg → Prop} (h : ∀ C : Ctx, C.gl = gl → (∀ id b, C.pin id = some b → memN [] id = true) → ∀ a w, St C σ a w → St C σ' a w) (k : V P none (AM R) c Q (m, σ')) : V P none (AM R) c Q (m, σ) := by
  intro a w ⟨C, hC, hs⟩
  exact k a w ⟨C, hC, h C (R.gl hC) (fun id b hp => by rw [R.pin hC] at hp; cases hp) a w hs⟩
theorem V.cond {x y : Code} {t : Nat} {b : Bool} {Q : Exit → κ × Sg → Prop} (ht : σ.get t = some (.bool b)) (h1 : b = true → V P none (AM R) x Q (m, σ)) (h2 : b = false → V P none (AM R) y Q (m, σ)) :
    V P none (AM R) (.cond (.tmp t) x y) Q (m, σ) := by
  intro a w hs
  have hb : a.eval (.tmp t) = .bool b := by
    obtain ⟨C, _, ρ, Fe, Fb, st⟩ := hs
    obtain ⟨v, hv, hr⟩ := (SR_plain rfl).1 (st.env t _ ht)
    rw [eval_tmp hv]
    exact VR_bool hr
  exact wpIn_cond_split hb (fun e => h1 e a w hs) (fun e => h2 e a w hs)
/-- one operation -/
theorem VL.step {ops : Array Oper} {o : Oper} {l : List Oper} {Q : Exit → κ × Sg → Prop} (hg : o.guard = none) (h : ∀ C : Ctx, C.gl = gl → OpS P C o σ σ') (kk : VL P none (AM R) ops l Q (m, σ')) : VL P none (AM R) ops (o :: l) Q (m, σ) := by
  intro a w ⟨C, hC, hs⟩
  have hF : Fx C = Fr none := by unfold Fx Fr; rw [R.rd hC]
  refine wpListIn_plain hg fun K hK => ?_
  have := h C (R.gl hC) a w hs K (fun e a' w' => ∃ j, AM R j a' w' ∧ Q e j) (fun a' w' hs' => hK a' w' (kk a' w' ⟨C, hC, hs'⟩))
  rw [hF] at this
  exact this
theorem VL.stepG {ops : List Oper} {o : Oper} {l : List Oper} {Q : Exit → κ × Sg → Prop} (hw : Wt ops σ.get o true) (h : ∀ C : Ctx, C.gl = gl → OpS P C o σ σ') (kk : VL P none (AM R) ops.toArray l Q (m, σ')) :
    VL P none (AM R) ops.toArray (o :: l) Q (m, σ) := by
  intro a w ⟨C, hC, hs⟩
  have hF : Fx C = Fr none := by unfold Fx Fr; rw [R.rd hC]
  simp only [wpListIn, hw.ok hs (fun _ _ h => h), if_true]
  have := h C (R.gl hC) a w hs (wpListIn (Fr none) 3 P ops.toArray (fun e a' w' => ∃ j, AM R j a' w' ∧ Q e j) l) (fun e a' w' => ∃ j, AM R j a' w' ∧ Q e j)
    (fun a' w' hs' => kk a' w' ⟨C, hC, hs'⟩)
  rw [hF] at this
  exact this
theorem VL.stepU {ops : List Oper} {o : Oper} {l : List Oper} {Q : Exit → κ × Sg → Prop} {t : Nat} (hw : Wt ops σ.get o false) (hd : o.dst = some t) (ht : t < σ.n) (kk : VL P none (AM R) ops.toArray l Q (m, σ.set t (.tup []))) :
    VL P none (AM R) ops.toArray (o :: l) Q (m, σ) := by
  intro a w ⟨C, hC, hs⟩
  simp only [wpListIn, hw.ok hs (fun _ _ h => h), Bool.false_eq_true, if_false]
  rw [hd]
  exact ⟨fun _ _ => trivial, kk _ _ ⟨C, hC, hs.unwanted ht⟩⟩
theorem VL.nil {ops : Array Oper} {Q : Exit → κ × Sg → Prop} (h : Q .normal (m, σ)) : VL P none (AM R) ops [] Q (m, σ) := fun a w hs => ⟨_, hs, h⟩
end

/-- within an iterator: how many rounds there were, and whether it was stopped -/
def relI (gl : List (Nat × D)) (G : Nat → Prop) (Y : Yt) : Rel gl (Nat × Bool) where
  r i C := C.gl = gl ∧ C.rd = none ∧ C.df = [] ∧ (∀ id, C.pin id = none) ∧ ∃ O : Nat → Prop, (∀ b, C.keep b ↔ b < C.w0.heap.size ∧ ¬ O b) ∧ (∀ b, C.ok b ↔ G b ∨ O b ∨ C.w0.heap.size ≤ b) ∧
    (∀ b, G b → b < C.w0.heap.size ∧ ¬ O b) ∧ (∀ b, O b → b < C.w0.heap.size) ∧ Y i.1 i.2 O C.w0
  gl h := h.1
  rd h := h.2.1
  pin h := h.2.2.2.1

section
variable {gl : List (Nat × D)} {G : Nat → Prop} {Y : Yt} {k : Nat} {s : Bool}
/-- a round -/
theorem VL.yield {ops : Array Oper} {l : List Oper} {Q : Exit → (Nat × Bool) × Sg → Prop} {y t lo : Nat} {x : Operand} {d : D} {xs : List D} {tys : Array TypeId} {rt : TypeId} {pos : String} {aft : Array Edge}
    (hY : Stable Y) (hyl : ∀ k O w v, (h : k < xs.length) → Y k false O w → (∀ b, O b → b < w.heap.size) → VR w (fun x => x) (fun b => G b ∨ O b) (fun _ => False) xs[k] v [] → YieldTo P lo v w (Rnd Y G O k w))
    (hg : σ.get y = some (.yld lo)) (hx : ev gl σ x = some d) (hp : d.pur = true) (hn : d.np = true) (hk : k < xs.length) (hd : xs[k] = d) (ht : t < σ.n)
    (kk : ∀ s, VL P none (AM (relI gl G Y)) ops l Q ((k + 1, s), σ.set t (.bool (!s)))) :
    VL P none (AM (relI gl G Y)) ops (⟨some t, .call { callee := .value (.tmp y), args := #[x], argTypes := tys }, rt, pos, aft, none⟩ :: l) Q ((k, false), σ) := by
  intro a w ⟨C, ⟨h1, h2, h3, h4, O, hkeep, hok, hG, hO, hYk⟩, ρ, Fe, Fb, st⟩
  refine wpListIn_plain rfl fun K hK => ?_
  obtain ⟨vy, hvy, hry⟩ := (SR_plain rfl).1 (st.env y _ hg)
  simp only [VR, D.isAgg, Bool.false_eq_true, if_false] at hry
  generalize Fe y = Fy at hry
  cases hry
  -- what it owns by now
  let O' : Nat → Prop := fun b => (O b ∨ C.w0.heap.size ≤ b) ∧ b < w.heap.size
  have hap : Apart O O' C.w0 w := {
    same := fun b hb hn => (st.kept b ((hkeep b).2 ⟨hb, hn⟩)).1
    size := st.grown
    sub := fun b hb => hb.1
    lt := fun b hb => hb.2
    os := st.os
    tape := st.tape
    output := st.output }
  have hY1 : Y k false O' w := hY _ _ _ _ _ _ hYk hap
  have hlt := st.lt
  have hownO : ∀ b, own Fe Fb b → O' b := fun b hb => by
    refine ⟨?_, hlt b hb⟩
    by_cases h0 : C.w0.heap.size ≤ b
    · exact .inr h0
    · left
      by_cases hOb : O b
      · exact hOb
      · exact absurd ((hkeep b).2 ⟨by omega, hOb⟩) (st.new b hb)
  have hgdO : ∀ b, gd C Fe Fb b → b < w.heap.size → G b ∨ O' b := fun b hb hl => by
    rcases (hok b).1 hb.1 with h | h | h
    · exact .inl h
    · exact .inr ⟨.inl h, hl⟩
    · exact .inr ⟨.inr h, hl⟩
  have hv : VR w (fun x => x) (fun b => G b ∨ O' b) (fun _ => False) xs[k] (a.eval x) [] := by
    rw [hd]
    obtain ⟨F, hvx, _⟩ := ev_ok st (by rw [h1]; exact hx) (pur_ref hp)
    have hFx := hvx.pur hp
    subst hFx
    exact (hvx.noL (ρ' := fun x => x) (L' := fun _ => False) hn).mono (fun _ _ _ => rfl) hgdO (fun _ h => h.elim)
  obtain ⟨f, tmps, assign, body, hrun, hround⟩ := hyl k O' w (a.eval x) hk hY1 (fun b hb => hb.2) hv
  have hexec : (execOp a.eval ⟨some t, .call { callee := .value (.tmp y), args := #[x], argTypes := tys }, rt, pos, aft, none⟩).run P w = .ok (.round lo f tmps assign body) w := by
    unfold execOp
    simp [resolve, eval_tmp hvy, Deferred.ofValue, invoke, hrun]
  have hF : Fx C = Fr none := by unfold Fx Fr; rw [h2]
  have hgoal : Oper.wpIn (Fx C) 3 P ⟨some t, .call { callee := .value (.tmp y), args := #[x], argTypes := tys }, rt, pos, aft, none⟩ a w K (fun e a' w' => ∃ j, AM (relI gl G Y) j a' w' ∧ Q e j) := by
    refine wpIn_of_run hexec (by simp) ?_
    rw [Oper.uponIn_round, hF]
    refine ⟨(fun h => by cases h), hround.mono fun e w' ⟨s', he, hr⟩ => ?_⟩
    subst he
    refine hK _ _ (kk s' _ _ ?_)
    let C' : Ctx := ⟨w', fun b => b < w'.heap.size ∧ ¬ O' b, fun b => G b ∨ O' b ∨ w'.heap.size ≤ b, gl, none, C.pin, C.df⟩
    have hGs : ∀ b, G b → b < w.heap.size := fun b hb => Nat.lt_of_lt_of_le (hG b hb).1 st.grown
    have hGO : ∀ b, G b → ¬ O' b := fun b hb hc => by
      rcases hc.1 with h | h
      · exact (hG b hb).2 h
      · have := (hG b hb).1; omega
    have hgd2 : ∀ b, (gd C Fe Fb b ∨ own Fe Fb b) → b < w.heap.size → w'.heap[b]? = w.heap[b]? := fun b hb hl => hr.same b (hb.elim (fun h => hgdO b h hl) (fun h => .inr (hownO b h))) hl
    have st' : StW C' σ a w' ρ Fe Fb := st.rebase C' rfl rfl hgd2 (fun b hb hl => (hgdO b hb hl).imp (fun h => h) (fun h => .inl h)) (fun b hb hc => hc.2 (hownO b hb)) (fun b hb => ⟨rfl, hb.1⟩) rfl rfl rfl (Nat.le_refl _)
      (fun g d hgd => by
        obtain ⟨q1, q2, cs, e, fz, q3, q4⟩ := st.gl g d (by rw [h1]; exact hgd)
        have q1' := (hkeep g).1 q1
        have hGg : G g := by
          rcases (hok g).1 q2 with h | h | h
          · exact h
          · exact absurd h q1'.2
          · omega
        have hsz : g < w.heap.size := hGs g hGg
        refine ⟨⟨Nat.lt_of_lt_of_le hsz hr.size, hGO g hGg⟩, .inl hGg, cs, e, fz, ?_, q4.mono (fun b hb => ?_) (fun _ h => h.elim) (fun _ h => h.elim)⟩
        · show w'.heap[g]? = _
          rw [hr.same g (.inl hGg) hsz, (st.kept g q1).1, q3]
        · rcases hb with hb | hb
          · exact hb.elim
          · cases hb)
      (fun b hb => .inr (.inr hb)) (fun b hb => .inr (.inl (hownO b hb)))
    refine ⟨C', ⟨rfl, rfl, h3, h4, O', fun b => Iff.rfl, fun b => Iff.rfl, fun b hb => ⟨Nat.lt_of_lt_of_le (hGs b hb) hr.size, hGO b hb⟩, fun b hb => Nat.lt_of_lt_of_le hb.2 hr.size, hr.y⟩, ?_⟩
    exact st'.put ht rfl (by simp only [VR, D.isAgg, Bool.false_eq_true, if_false]; exact .bool _)
  rw [hF] at hgoal
  exact hgoal
end

/-- from the walk of an iterator's code -/
theorem Itr.of {gl : List (Nat × D)} {f : FuncId} {fn : Func} {c : Code} {caps xs : List D} {n : Nat} (hf : P.funcs[f]? = some fn) (hb : fn.body = some c) (hnn : fn.ntmps = n) (hres : fn.results = #[])
    (hd : caps.all (fun d => !d.isRef) = true) (hn : caps.length + 1 ≤ n)
    (h : ∀ (G : Nat → Prop) (Y : Yt) (l : Nat), Stable Y → (∀ k O w v, (h : k < xs.length) → Y k false O w → (∀ b, O b → b < w.heap.size) → VR w (fun x => x) (fun b => G b ∨ O b) (fun _ => False) xs[k] v [] → YieldTo P l v w (Rnd Y G O k w)) →
      V P none (AM (relI gl G Y)) c (fun e i => (e = .normal ∨ e = .ret) ∧ (i.1.2 = true ∨ i.1.1 = xs.length)) ((0, false), ⟨n, ini 0 (.yld l :: caps), []⟩)) : Itr P gl f caps xs := by
  subst hnn
  intro w G vs l Y hG hgl hl hv hY hyl h0
  refine calls_of_wp hf hb ?_
  let C : Ctx := ⟨w, fun b => b < w.heap.size ∧ ¬ False, fun b => G b ∨ False ∨ w.heap.size ≤ b, gl, none, fun _ => none, []⟩
  let ds : List D := .yld l :: caps
  have hget : ∀ t d, (⟨fn.ntmps, ini 0 ds, []⟩ : Sg).get t = some d → ∃ h : t < ds.length, ds[t] = d := by
    intro t d hd
    simp only [Sg.get, lk_ini, Nat.zero_le, if_true, Nat.sub_zero] at hd
    obtain ⟨h, e⟩ := List.getElem?_eq_some_iff.1 hd
    exact ⟨h, e⟩
  have hown : ∀ b, ¬ own (fun _ => []) (fun _ => []) b := by rintro b (⟨_, h⟩ | ⟨_, h⟩) <;> cases h
  have st : StW C ⟨fn.ntmps, ini 0 ds, []⟩ { tmps := (#[Value.func (.yield l) #[] #[]] ++ vs.toArray) ++ Array.replicate (fn.ntmps - (#[Value.func (.yield l) #[] #[]] ++ vs.toArray).size) undef, defers := [] } w (fun x => x) (fun _ => []) (fun _ => []) := by
    refine ⟨?_, rfl, (fun _ _ hp => by cases hp), ?_, fun _ _ => rfl, ?_, fun _ _ => rfl, fun _ => List.nodup_nil, fun _ => List.nodup_nil, (fun _ _ _ _ h => by cases h), (fun _ _ _ h => by cases h), (fun _ _ _ _ h => by cases h), fun b hb => absurd hb (hown b), ?_, rfl, rfl, rfl, Nat.le_refl _, ?_, fun b hb => .inr (.inr hb), fun b hb => absurd hb (hown b)⟩
    · simp [hl]; omega
    · intro t d hd'
      obtain ⟨ht, rfl⟩ := hget t d hd'
      cases t with
      | zero =>
        refine (SR_plain rfl).2 ⟨.func (.yield l) #[] #[], ?_, ?_⟩
        · rw [Array.getElem?_append_left (by simp)]
          simp
        · show VR w _ _ _ (D.yld l) _ _
          simp only [VR, D.isAgg, Bool.false_eq_true, if_false]
          exact .yld l
      | succ t =>
        have ht' : t < caps.length := by simpa [ds] using ht
        have hr : caps[t].isRef = false := by
          have := List.all_eq_true.1 hd caps[t] (List.getElem_mem ht')
          simpa using this
        refine (SR_plain hr).2 ⟨vs.getD t undef, ?_, (hv t ht').mono (fun _ _ _ => rfl) (fun b hb _ => ⟨.inl hb, hown b⟩) (fun id hid => hid.elim)⟩
        have htv : t < vs.length := by omega
        rw [Array.getElem?_append_left (by simp; omega)]
        simp [htv, Array.getElem?_append]
    · intro id d hd'; cases hd'
    · intro b hb; exact ⟨rfl, hb.1⟩
    · intro g d hg
      obtain ⟨h1, cs, e, fz, h2, h3⟩ := hgl g d hg
      exact ⟨⟨(Array.getElem?_eq_some_iff.1 h2).1, fun h => h⟩, .inl h1, cs, e, fz, h2, h3⟩
  have hAI : AM (relI gl G Y) ((0, false), ⟨fn.ntmps, ini 0 ds, []⟩) { tmps := (#[Value.func (.yield l) #[] #[]] ++ vs.toArray) ++ Array.replicate (fn.ntmps - (#[Value.func (.yield l) #[] #[]] ++ vs.toArray).size) undef, defers := [] } w :=
    ⟨C, ⟨rfl, rfl, rfl, fun _ => rfl, fun _ => False, fun _ => Iff.rfl, fun _ => Iff.rfl, fun b hb => ⟨hG b hb, fun h => h⟩, fun b hb => hb.elim, h0⟩, _, _, _, st⟩
  refine Go.Code.wp_mono ?_ (wpIn_wide.1 (h G Y l hY hyl _ w hAI))
  rintro e a' w' ⟨⟨⟨k, s⟩, σ'⟩, ⟨C', ⟨h1, h2, h3, h4, O, hkeep, hok, hG', hO, hYk⟩, ρ, Fe, Fb, st'⟩, he, hend⟩
  have hrun := results_run (P := P) (tmps := a'.tmps) (rs := []) (fn := fn) (by rw [hres]) (fun _ => undef) w' (fun k hk => absurd hk (Nat.not_lt_zero _))
  let O' : Nat → Prop := fun b => (O b ∨ C'.w0.heap.size ≤ b) ∧ b < w'.heap.size
  have hY1 : Y k s O' w' := hY _ _ _ _ _ _ hYk {
    same := fun b hb hn => (st'.kept b ((hkeep b).2 ⟨hb, hn⟩)).1
    size := st'.grown
    sub := fun b hb => hb.1
    lt := fun b hb => hb.2
    os := st'.os
    tape := st'.tape
    output := st'.output }
  have hdf : a'.defers = [] := by rw [st'.defs, h3]
  rcases he with rfl | rfl
  · exact ⟨hdf, _, hrun, ⟨_, rfl⟩, k, s, O', hY1, hend⟩
  · exact ⟨hdf, _, hrun, ⟨_, rfl⟩, k, s, O', hY1, hend⟩
end Go.Sx
