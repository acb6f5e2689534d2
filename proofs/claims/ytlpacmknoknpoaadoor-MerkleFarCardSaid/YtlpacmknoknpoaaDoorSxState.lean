/-
  Own library, part 2: abstract states, what it is for a frame and a world to be in one, triples.
-/
import Derived.Test.YtlpacmknoknpoaaDoorSxCore
import Derived.OrdersIn
import Derived.TacticsIn
import Derived.LoopIn
set_option linter.unusedVariables false
set_option linter.unusedSimpArgs false
set_option linter.unnecessarySimpa false
namespace Go.Sx

def lk {α : Type} : List (Nat × α) → Nat → Option α
  | [], _ => none
  | (k, d) :: r, t => bif Nat.beq k t then some d else lk r t

/-- a reference into slot t is struck -/
def scrub (t : Nat) (d : D) : D :=
  match d with
  | .al s => bif Nat.beq s t then .dead else d
  | .vw s _ _ _ => bif Nat.beq s t then .dead else d
  | .ep s _ _ _ _ => bif Nat.beq s t then .dead else d
  | d => d
/-- a reference to what lies in box id is struck -/
def scrubB (id : Nat) (d : D) : D :=
  match d with
  | .alb i _ _ => bif Nat.beq i id then .dead else d
  | d => d

/-- the same, so that what is no reference stays as it is written -/
def scr (t k : Nat) (x : D) : Nat × D :=
  match x with
  | .al s => bif Nat.beq s t then (k, .dead) else (k, x)
  | .vw s _ _ _ => bif Nat.beq s t then (k, .dead) else (k, x)
  | .ep s _ _ _ _ => bif Nat.beq s t then (k, .dead) else (k, x)
  | _ => (k, x)
def scrB (id k : Nat) (x : D) : Nat × D :=
  match x with
  | .alb i _ _ => bif Nat.beq i id then (k, .dead) else (k, x)
  | _ => (k, x)
theorem scr_eq (t k : Nat) (x : D) : scr t k x = (k, scrub t x) := by
  cases x with
  | al s => simp only [scr, scrub]; cases Nat.beq s t <;> rfl
  | vw s _ _ _ => simp only [scr, scrub]; cases Nat.beq s t <;> rfl
  | ep s _ _ _ _ => simp only [scr, scrub]; cases Nat.beq s t <;> rfl
  | _ => rfl
theorem scrB_eq (t k : Nat) (x : D) : scrB t k x = (k, scrubB t x) := by
  cases x with
  | alb i _ _ => simp only [scrB, scrubB]; cases Nat.beq i t <;> rfl
  | _ => rfl

def sets (t : Nat) : List (Nat × D) → List (Nat × D)
  | [] => []
  | (k, x) :: r => bif Nat.beq k t then sets t r else scr t k x :: sets t r
def scrubs (id : Nat) : List (Nat × D) → List (Nat × D)
  | [] => []
  | (k, x) :: r => scrB id k x :: scrubs id r

/-- what a box holds: a variable, or a map's entries, the first one first -/
inductive Bx where
  | var (d : D)
  | mp (l : List (D × D))
  deriving Inhabited

structure Sg where
  n : Nat
  env : List (Nat × D)
  bx : List (Nat × Bx)

def Sg.get (σ : Sg) (t : Nat) : Option D := lk σ.env t
def Sg.box (σ : Sg) (id : Nat) : Option Bx := lk σ.bx id
def Sg.set (σ : Sg) (t : Nat) (d : D) : Sg := { σ with env := (t, d) :: sets t σ.env }
def setb (id : Nat) (b : Bx) : List (Nat × Bx) → List (Nat × Bx)
  | [] => []
  | (k, x) :: r => bif Nat.beq k id then (k, b) :: r else (k, x) :: setb id b r
/-- another content of a box that is there -/
def Sg.putB (σ : Sg) (id : Nat) (b : Bx) : Sg := { σ with env := scrubs id σ.env, bx := setb id b σ.bx }
/-- one box more -/
def Sg.newB (σ : Sg) (id : Nat) (b : Bx) : Sg := { σ with bx := (id, b) :: σ.bx }

theorem nbeq {a b : Nat} (h : ¬ a = b) : Nat.beq a b = false := by
  cases h' : Nat.beq a b with
  | false => rfl
  | true => exact absurd (Nat.eq_of_beq_eq_true h') h

theorem lk_cons {α : Type} (k : Nat) (d : α) (r : List (Nat × α)) (t : Nat) : lk ((k, d) :: r) t = if k = t then some d else lk r t := by
  simp only [lk]
  by_cases h : k = t
  · subst h; simp
  · simp [h, nbeq h]

theorem lk_sets (t : Nat) (l : List (Nat × D)) (u : Nat) : lk (sets t l) u = if u = t then none else (lk l u).map (scrub t) := by
  induction l with
  | nil => simp [sets, lk]
  | cons x r ih =>
    obtain ⟨k, d⟩ := x
    simp only [sets, scr_eq]
    by_cases hk : k = t
    · subst hk
      simp only [Nat.beq_refl, cond_true, ih, lk_cons]
      by_cases hu : u = k
      · simp [hu]
      · simp [hu, show ¬ k = u from fun e => hu e.symm]
    · simp only [nbeq hk, cond_false, lk_cons, ih]
      by_cases hku : k = u
      · subst hku; simp [hk]
      · simp [hku]

theorem lk_scrubs (id : Nat) (l : List (Nat × D)) (u : Nat) : lk (scrubs id l) u = (lk l u).map (scrubB id) := by
  induction l with
  | nil => simp [scrubs, lk]
  | cons x r ih =>
    obtain ⟨k, d⟩ := x
    simp only [scrubs, scrB_eq, lk_cons, ih]
    split <;> simp

theorem lk_setb (id : Nat) (b : Bx) (l : List (Nat × Bx)) (u : Nat) : lk (setb id b l) u = if u = id then (lk l u).map (fun _ => b) else lk l u := by
  induction l with
  | nil => simp [setb, lk]
  | cons x r ih =>
    obtain ⟨k, d⟩ := x
    simp only [setb]
    by_cases hk : k = id
    · subst hk
      simp only [Nat.beq_refl, cond_true, lk_cons]
      by_cases hu : k = u
      · subst hu; simp
      · simp [hu, show ¬ u = k from fun e => hu e.symm]
    · simp only [nbeq hk, cond_false, lk_cons, ih]
      by_cases hku : k = u
      · subst hku; simp [hk]
      · simp [hku]

theorem get_set (σ : Sg) (t : Nat) (d : D) (u : Nat) : (σ.set t d).get u = if u = t then some d else (σ.get u).map (scrub t) := by
  simp only [Sg.get, Sg.set, lk_cons, lk_sets]
  by_cases h : u = t
  · simp [h]
  · simp [h, show ¬ t = u from fun e => h e.symm]
@[simp] theorem box_set (σ : Sg) (t : Nat) (d : D) (id : Nat) : (σ.set t d).box id = σ.box id := rfl
@[simp] theorem n_set (σ : Sg) (t : Nat) (d : D) : (σ.set t d).n = σ.n := rfl
theorem get_putB (σ : Sg) (id : Nat) (b : Bx) (u : Nat) : (σ.putB id b).get u = (σ.get u).map (scrubB id) := by
  simp [Sg.get, Sg.putB, lk_scrubs]
theorem box_putB (σ : Sg) (id : Nat) (b : Bx) (u : Nat) : (σ.putB id b).box u = if u = id then (σ.box u).map (fun _ => b) else σ.box u := by
  simp [Sg.box, Sg.putB, lk_setb]
@[simp] theorem n_putB (σ : Sg) (id : Nat) (b : Bx) : (σ.putB id b).n = σ.n := rfl
@[simp] theorem get_newB (σ : Sg) (id : Nat) (b : Bx) (u : Nat) : (σ.newB id b).get u = σ.get u := rfl
theorem box_newB (σ : Sg) (id : Nat) (b : Bx) (u : Nat) : (σ.newB id b).box u = if id = u then some b else σ.box u := by
  simp [Sg.box, Sg.newB, lk_cons]
@[simp] theorem n_newB (σ : Sg) (id : Nat) (b : Bx) : (σ.newB id b).n = σ.n := rfl

/-! ### paths -/
def D.at : D → List Nat → Option D
  | d, [] => some d
  | .agg l, k :: p => match l[k]? with
    | some d => D.at d p
    | none => none
  | .arr _ _ l, k :: p => match l[k]? with
    | some d => D.at d p
    | none => none
  | _, _ :: _ => none

/-! ### slots -/

/-- a part of a slice -/
def VwR (z lo n : Nat) (v0 v1 : Value) : Prop :=
  ∃ b0 len cap b1 cap', v0 = .slice b0 len cap ∧ v1 = .slice b1 n cap' ∧ n ≤ cap' ∧ lo + n ≤ len ∧ cap' ≤ cap ∧
    ((∃ b o o', b0 = some ⟨b, o, none⟩ ∧ b1 = some ⟨b, o', none⟩ ∧ (o' = o + lo * z ∨ (o' = o ∧ n = 0))) ∨ (len = 0 ∧ cap' = 0))

/-- what slot t holds -/
def SR (w : World) (ρ : Nat → Nat) (G L : Nat → Prop) (a : Act) (t : Nat) (d : D) (F : List Nat) : Prop :=
  match d with
  | .al s => F = [] ∧ ∃ v, a.tmps[t]? = some v ∧ a.tmps[s]? = some v
  | .alb id off _ => F = [] ∧ L id ∧ ∃ v, a.tmps[t]? = some v ∧ w.cell? ⟨ρ id, off, none⟩ = some v
  | .vw s z lo n => F = [] ∧ ∃ v0 v1, a.tmps[s]? = some v0 ∧ a.tmps[t]? = some v1 ∧ VwR z lo n v0 v1
  | .va id off z n _ lo => F = [] ∧ L id ∧ ∃ cap o', n ≤ cap ∧ (o' = off + lo * z ∨ (o' = off ∧ n = 0)) ∧ a.tmps[t]? = some (.slice (some ⟨ρ id, o', none⟩) n cap)
  | .ep s z i off _ => F = [] ∧ ∃ b o len cap, a.tmps[s]? = some (.slice (some ⟨b, o, none⟩) len cap) ∧ a.tmps[t]? = some (.pointer (some ⟨b, o + i * z + off, none⟩)) ∧ i < len
  | .tup ds => ∃ (vs : List Value) (Fs : Nat → List Nat), a.tmps[t]? = some (.tuple vs.toArray) ∧ vs.length = ds.length ∧ F = (List.range ds.length).flatMap Fs ∧
      ∀ k (h : k < ds.length), (ds[k] = .dead ∧ Fs k = []) ∨ (ds[k].isRef = false ∧ VR w ρ G L ds[k] (vs.getD k undef) (Fs k))
  | .dead => F = [] ∧ ∃ v, a.tmps[t]? = some v
  | d => ∃ v, a.tmps[t]? = some v ∧ VR w ρ G L d v F

theorem SR_plain {w : World} {ρ : Nat → Nat} {G L : Nat → Prop} {a : Act} {t : Nat} {d : D} {F : List Nat} (hd : d.isRef = false) :
    SR w ρ G L a t d F ↔ ∃ v, a.tmps[t]? = some v ∧ VR w ρ G L d v F := by
  cases d <;> first | (exact Iff.rfl) | (simp [D.isRef] at hd)

/-- what a box holds in its block b -/
def BR (w : World) (ρ : Nat → Nat) (G L : Nat → Prop) (b : Nat) (x : Bx) (F : List Nat) : Prop :=
  match x with
  | .var d => ∃ cs e F', w.heap[b]? = some (.cells cs e (0, 0)) ∧ Rc w ρ G L true d cs.toList F' ∧ F = b :: F'
  | .mp l => F = [b] ∧ ∃ (es : Array MapEntry) (clock : Nat), w.heap[b]? = some (.map es clock) ∧ (es.size = l.length ∧ clock = l.length) ∧
      (∀ k (h : k < l.length), VR w ρ G L l[k].1 (es.getD k default).key [] ∧ VR w ρ G L l[k].2 (es.getD k default).val [] ∧ (es.getD k default).born = k)

/-- what stays the same in a call: the world at its beginning, the blocks that it leaves alone, those that read-only data may lie in, the package variables; whether it is a round, where boxes lie that stay, the calls that are put off -/
structure Ctx where
  w0 : World
  keep : Nat → Prop
  ok : Nat → Prop
  gl : List (Nat × D)
  rd : Option Nat
  pin : Nat → Option Nat
  df : List Deferred

/-- in a round of a range over a function, or not -/
def Fx (C : Ctx) : Fence := { Fence.wide with round := C.rd }

def own (Fe Fb : Nat → List Nat) (b : Nat) : Prop := (∃ t, b ∈ Fe t) ∨ ∃ id, b ∈ Fb id

/-- where read-only data lies -/
def gd (C : Ctx) (Fe Fb : Nat → List Nat) (b : Nat) : Prop := C.ok b ∧ ¬ own Fe Fb b

structure StW (C : Ctx) (σ : Sg) (a : Act) (w : World) (ρ : Nat → Nat) (Fe Fb : Nat → List Nat) : Prop where
  size : a.tmps.size = σ.n
  defs : a.defers = C.df
  pin : ∀ id b, C.pin id = some b → ρ id = b ∧ (σ.box id).isSome = true
  env : ∀ t d, σ.get t = some d → SR w ρ (gd C Fe Fb) (fun id => (σ.box id).isSome) a t d (Fe t)
  envN : ∀ t, σ.get t = none → Fe t = []
  bx : ∀ id d, σ.box id = some d → BR w ρ (gd C Fe Fb) (fun id => (σ.box id).isSome) (ρ id) d (Fb id)
  bxN : ∀ id, σ.box id = none → Fb id = []
  nodE : ∀ t, (Fe t).Nodup
  nodB : ∀ id, (Fb id).Nodup
  dEE : ∀ t t', t ≠ t' → ∀ b, b ∈ Fe t → b ∉ Fe t'
  dEB : ∀ t id b, b ∈ Fe t → b ∉ Fb id
  dBB : ∀ id id', id ≠ id' → ∀ b, b ∈ Fb id → b ∉ Fb id'
  new : ∀ b, own Fe Fb b → ¬ C.keep b
  kept : ∀ b, C.keep b → w.heap[b]? = C.w0.heap[b]? ∧ b < C.w0.heap.size
  os : w.os = C.w0.os
  tape : w.tape = C.w0.tape
  output : w.output = C.w0.output
  grown : C.w0.heap.size ≤ w.heap.size
  gl : ∀ g d, (g, d) ∈ C.gl → C.keep g ∧ C.ok g ∧ ∃ cs e fz, C.w0.heap[g]? = some (.cells cs e fz) ∧ Rc C.w0 (fun x => x) (fun _ => False) (fun _ => False) false d cs.toList []
  okN : ∀ b, w.heap.size ≤ b → C.ok b
  okO : ∀ b, own Fe Fb b → C.ok b

def St (C : Ctx) (σ : Sg) (a : Act) (w : World) : Prop := ∃ ρ Fe Fb, StW C σ a w ρ Fe Fb

/-- code run in state σ ends so that Q -/
def W (P : Program) (C : Ctx) (c : Code) (Q : Exit → Sg → Prop) (σ : Sg) : Prop :=
  ∀ a w, St C σ a w → c.wpIn (Fx C) 3 P (fun e a' w' => ∃ σ', St C σ' a' w' ∧ Q e σ') a w

/-- operations, one behind the other -/
def WL (P : Program) (C : Ctx) (ops : Array Oper) (l : List Oper) (Q : Exit → Sg → Prop) (σ : Sg) : Prop :=
  ∀ a w, St C σ a w → wpListIn (Fx C) 3 P ops (fun e a' w' => ∃ σ', St C σ' a' w' ∧ Q e σ') l a w

/-- one operation, that goes on -/
def OpS (P : Program) (C : Ctx) (o : Oper) (σ σ' : Sg) : Prop :=
  ∀ a w, St C σ a w → ∀ (K : Act → World → Prop) (Q : Exit → Act → World → Prop), (∀ a' w', St C σ' a' w' → K a' w') → o.wpIn (Fx C) 3 P a w K Q

variable {P : Program} {C : Ctx} {Q : Exit → Sg → Prop} {σ σ' : Sg} {ops : Array Oper}

theorem WL.nil (h : Q .normal σ) : WL P C ops [] Q σ := fun a w hs => ⟨σ, hs, h⟩
theorem WL.cons {o : Oper} {l : List Oper} (hg : o.guard = none) (h : OpS P C o σ σ') (k : WL P C ops l Q σ') : WL P C ops (o :: l) Q σ :=
  fun a w hs => wpListIn_plain hg fun K hK => h a w hs K _ (fun a' w' hs' => hK a' w' (k a' w' hs'))
theorem W.region {id : Nat} {l : List Oper} (h : WL P C l.toArray l Q σ) : W P C (.region id l.toArray false) Q σ :=
  fun a w hs => wpIn_region_lit (h a w hs)
theorem W.seq {x y : Code} (h : W P C x (fun e s => match e with | .normal => W P C y Q s | e => Q e s) σ) : W P C (.seq x y) Q σ := by
  intro a w hs
  refine wpIn_seq ?_
  refine Go.Code.wpIn_mono ?_ (h a w hs)
  intro e a' w' ⟨s, hs', hq⟩
  cases e <;> first | exact hq a' w' hs' | exact ⟨s, hs', hq⟩
theorem W.skip (h : Q .normal σ) : W P C .skip Q σ := fun a w hs => wpIn_skip ⟨σ, hs, h⟩
theorem W.ret (h : Q .ret σ) : W P C .ret Q σ := fun a w hs => wpIn_ret ⟨σ, hs, h⟩
theorem W.exit {id : Nat} (h : Q (.exit id) σ) : W P C (.exit id) Q σ := fun a w hs => wpIn_exit ⟨σ, hs, h⟩
theorem W.label {l : Nat} (h : Q .normal σ) : W P C (.label l) Q σ := fun a w hs => wpIn_label ⟨σ, hs, h⟩
theorem W.mono {c : Code} {Q' : Exit → Sg → Prop} (h : W P C c Q σ) (hq : ∀ e s, Q e s → Q' e s) : W P C c Q' σ :=
  fun a w hs => Go.Code.wpIn_mono (fun _ _ _ ⟨s, hs', h'⟩ => ⟨s, hs', hq _ _ h'⟩) (h a w hs)
theorem W.block {id : Nat} {c : Code} (h : W P C c (fun e s => match e with | .exit i => if i = id then Q .normal s else Q (.exit i) s | e => Q e s) σ) : W P C (.block id c) Q σ := by
  intro a w hs
  refine wpIn_block ?_
  refine Go.Code.wpIn_mono ?_ (h a w hs)
  intro e a' w' ⟨s, hs', hq⟩
  cases e with
  | exit i =>
    simp only [Exit.inBlock]
    split
    · rename_i hi; exact ⟨s, hs', by simpa [hi] using hq⟩
    · rename_i hi; exact ⟨s, hs', by simpa [hi] using hq⟩
  | _ => exact ⟨s, hs', hq⟩
theorem W.cond {x y : Code} {t : Nat} {b : Bool} (ht : σ.get t = some (.bool b)) (h1 : b = true → W P C x Q σ) (h2 : b = false → W P C y Q σ) : W P C (.cond (.tmp t) x y) Q σ := by
  intro a w hs
  have hb : a.eval (.tmp t) = .bool b := by
    obtain ⟨ρ, Fe, Fb, s⟩ := hs
    obtain ⟨v, hv, hr⟩ := (SR_plain rfl).1 (s.env t _ ht)
    have : v = .bool b := by
      simp only [VR, D.isAgg, Bool.false_eq_true, if_false] at hr
      generalize Fe t = F at hr
      cases hr; rfl
    subst this
    simp [Act.eval, hv]
  exact wpIn_cond_split hb (fun e => h1 e a w hs) (fun e => h2 e a w hs)
/-- a loop: I says what holds at its head, μ goes down -/
theorem W.loop {α : Type} {c : Code} (I : α → Sg) (μ : α → Nat) (x0 : α) (h0 : σ = I x0)
    (h : ∀ x, W P C c (fun e s => match e with | .normal => ∃ y, s = I y ∧ μ y < μ x | e => Q e s) (I x)) : W P C (.loop c) Q σ := by
  subst h0
  intro a w hs
  intro b k cs hro hbf hr
  have key : ∀ n x a w, μ x = n → St C (I x) a w →
      ∃ e a' w', (∃ s, St C s a' w' ∧ Q e s) ∧ ArrivesIn (Machine.fenced P (Fx C)) P (lone (b.atR a (.code c :: .inLoop c :: k)) cs w) b k cs e a' w' := by
    intro n
    induction n using Nat.strongRecOn with
    | _ n ih =>
      intro x a w hx hs
      obtain ⟨e, a₁, w₁, ⟨s, hs1, hq⟩, harr⟩ := h x a w hs b (.inLoop c :: k) cs hro hbf hr
      cases e with
      | normal =>
        obtain ⟨y, rfl, hlt⟩ := hq
        obtain ⟨e₂, a₂, w₂, hq₂, harr₂⟩ := ih (μ y) (hx ▸ hlt) y a₁ w₁ rfl hs1
        exact ⟨e₂, a₂, w₂, hq₂, .of_steps (StepsIn.trans harr (.one (fenced_calm hbf hr rfl) stepR_inLoop)) harr₂⟩
      | exit id => exact ⟨_, a₁, w₁, ⟨s, hs1, hq⟩, .pass (x := .inLoop c) rfl (fun _ _ => .inl (by simp)) harr⟩
      | goto l => exact ⟨_, a₁, w₁, ⟨s, hs1, hq⟩, .pass (x := .inLoop c) rfl (fun _ _ => .inl (by simp)) harr⟩
      | ret => exact ⟨_, a₁, w₁, ⟨s, hs1, hq⟩, .pass (x := .inLoop c) rfl (fun _ _ => .inl (by simp)) harr⟩
      | panic ch => exact ⟨_, a₁, w₁, ⟨s, hs1, hq⟩, .pass (x := .inLoop c) rfl (fun _ _ => .inl (by simp)) harr⟩
      | outgrown => exact ⟨_, a₁, w₁, ⟨s, hs1, hq⟩, .pass (x := .inLoop c) rfl (fun _ _ => .inl (by simp)) harr⟩
  obtain ⟨e, a', w', hq, harr⟩ := key _ x0 a w rfl hs
  exact ⟨e, a', w', hq, .of_steps (.one (fenced_calm hbf hr rfl) stepR_loop) harr⟩

/-- an operation whose run ends in no deferred call runs in a round as everywhere -/
theorem semAt_run {o : Oper} {ρ : Operand → Value} {ro : Option Nat} {w w' : World} {r : Next} (h : (execOp ρ o).run P w = .ok r w') (hd : ∀ d, r ≠ .defer d) : (o.semAt ro ρ).run P w = .ok r w' := by
  cases ro with
  | none => exact h
  | some l =>
    by_cases hx : ∃ c, o.op = .defer c
    · exfalso
      obtain ⟨c, hc⟩ := hx
      unfold execOp at h
      simp only [hc, Sem.run_bind] at h
      cases hres : (resolve ρ c o.type).run P w with
      | ok d w1 =>
        rw [hres] at h
        simp only [Result.andThen_ok, Sem.run_pure] at h
        cases h
        exact hd _ rfl
      | halt x w1 =>
        rw [hres] at h
        simp [Result.andThen] at h
    · rw [Oper.semAt_some l ρ o (fun c hc => hx ⟨c, hc⟩)]
      exact h
/-- one operation, from its run -/
theorem wpIn_of_run {o : Oper} {a : Act} {w w' : World} {r : Next} {K : Act → World → Prop} {Q : Exit → Act → World → Prop} (h : (execOp a.eval o).run P w = .ok r w') (hd : ∀ d, r ≠ .defer d) (hu : o.uponIn (Fx C) 3 P a K Q (.ok r w')) :
    o.wpIn (Fx C) 3 P a w K Q := by
  refine ⟨fun _ _ => trivial, ?_⟩
  show o.uponIn (Fx C) 3 P a K Q ((o.semAt C.rd a.eval).run P w)
  rw [semAt_run h hd]
  exact hu
end Go.Sx
