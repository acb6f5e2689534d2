/-
  Own library, part 14: regions that draw their order; guards.
-/
import Derived.Test.YtlpacmknoknpoaaDoorSxCall
import Derived.Orders
set_option linter.unusedVariables false
set_option linter.unusedSimpArgs false
set_option linter.unnecessarySimpa false
namespace Go.Sx

variable {P : Program} {C : Ctx} {σ σ' σ1 : Sg} {a : Act} {w w' : World} {ρ : Nat → Nat} {Fe Fe' Fb : Nat → List Nat}

/-! ### small steps of the state -/
theorem SR_same {G G' L L' : Nat → Prop} {u : Nat} {d : D} {F : List Nat} (h : SR w ρ G L a u d F)
    (hh : ∀ b, b < w.heap.size → w'.heap[b]? = w.heap[b]?) (hg : ∀ b, G b → b < w.heap.size → G' b) (hL : ∀ i, L i → L' i) : SR w' ρ G' L' a u d F := by
  have hL2 : ∀ i, L i → L' i ∧ ρ i = ρ i := fun i hi => ⟨hL i hi, rfl⟩
  cases d with
  | al s => exact h
  | alb i off path =>
    obtain ⟨hF, hid, x, hx, hs⟩ := h
    exact ⟨hF, hL i hid, x, hx, by rw [← hs]; exact World.cell?_of_block (hh _ (block_lt_of_cell hs))⟩
  | vw s z lo n => exact h
  | va i off z n path lo => exact ⟨h.1, hL i h.2.1, h.2.2⟩
  | ep s z i off path => exact h
  | tup ds =>
    obtain ⟨vs, Fs, h1, h2, h3, h4⟩ := h
    exact ⟨vs, Fs, h1, h2, h3, fun k hk => (h4 k hk).imp (fun hx => hx) fun hx => ⟨hx.1, hx.2.mono (fun b _ => hh b) hg hL2⟩⟩
  | dead => exact h
  | _ => obtain ⟨x, hx, hr⟩ := h; exact ⟨x, hx, hr.mono (fun b _ => hh b) hg hL2⟩

theorem St.ext (h : St C σ a w) (hw : Ext w w') : St C σ a w' := by
  obtain ⟨ρ, Fe, Fb, h⟩ := h
  exact ⟨ρ, Fe, Fb, h.size, h.defs, h.pin, fun t d hd => SR_same (h.env t d hd) hw.block (fun _ hb _ => hb) (fun _ hi => hi), h.envN,
    fun id d hd => (h.bx id d hd).mono (fun b _ => hw.block b) (fun _ hb _ => hb) (fun _ hi => ⟨hi, rfl⟩), h.bxN, h.nodE, h.nodB, h.dEE, h.dEB, h.dBB, h.new,
    fun b hb => ⟨(hw.block b (Nat.lt_of_lt_of_le (h.kept b hb).2 h.grown)).trans (h.kept b hb).1, (h.kept b hb).2⟩, hw.os.trans h.os, hw.tape.trans h.tape, hw.output.trans h.output, Nat.le_trans h.grown hw.size, h.gl, fun b hb => h.okN b (Nat.le_trans hw.size hb), h.okO⟩

theorem St.unwanted {t : Nat} (h : St C σ a w) (ht : t < σ.n) : St C (σ.set t (.tup [])) (a.put (some t) undef) w := by
  obtain ⟨ρ, Fe, Fb, h⟩ := h
  refine h.putRef ht ⟨[], fun _ => [], ?_, rfl, rfl, fun k hk => absurd hk (Nat.not_lt_zero _)⟩
  rw [put_get a t _ t (by rw [h.size]; exact ht)]; simp [undef]

theorem St.bool {t : Nat} {b : Bool} (h : St C σ a w) (hg : σ.get t = some (.bool b)) : a.tmps[t]? = some (.bool b) := by
  obtain ⟨ρ, Fe, Fb, h⟩ := h
  obtain ⟨v, hv, hr⟩ := (SR_plain rfl).1 (h.env t _ hg)
  simp only [VR, D.isAgg, Bool.false_eq_true, if_false] at hr
  generalize Fe t = F at hr
  cases hr
  exact hv

theorem St.tup0 {t : Nat} (h : St C σ a w) (hg : σ.get t = some (.tup [])) : a.tmps[t]? = some (.tuple #[]) := by
  obtain ⟨ρ, Fe, Fb, h⟩ := h
  obtain ⟨vs, Fs, h1, h2, _⟩ := h.env t _ hg
  have : vs = [] := List.length_eq_zero_iff.1 h2
  subst this
  exact h1

/-- is it wanted? -/
def Wt (ops : List Oper) (look : Nat → Option D) (o : Oper) (wt : Bool) : Prop :=
  match o.guard with
  | none => wt = true
  | some (g, want) => ∃ og tg, ops[g]? = some og ∧ og.dst = some tg ∧ ((∃ b, look tg = some (.bool b) ∧ wt = (b == want)) ∨ (look tg = some (.tup []) ∧ wt = false))

theorem Wt.ok {ops : List Oper} {look : Nat → Option D} {o : Oper} {wt : Bool} (h : Wt ops look o wt) (hs : St C σ a w) (hl : ∀ u x, look u = some x → σ.get u = some x) :
    Region.wanted o (yielded ops.toArray a.tmps) = wt := by
  unfold Wt at h
  unfold Region.wanted
  cases hg : o.guard with
  | none => rw [hg] at h; exact h.symm
  | some gw =>
    obtain ⟨g, want⟩ := gw
    rw [hg] at h
    obtain ⟨og, tg, h1, h2, h3⟩ := h
    simp only [yielded, List.getElem?_toArray, h1, Option.bind_some, h2]
    rcases h3 with ⟨b, h4, rfl⟩ | ⟨h4, rfl⟩
    · rw [hs.bool (hl _ _ h4)]
      cases b <;> cases want <;> rfl
    · rw [hs.tup0 (hl _ _ h4)]
      cases want <;> rfl

theorem WL.consG {ops : List Oper} {o : Oper} {l : List Oper} {Q : Exit → Sg → Prop} (hw : Wt ops σ.get o true) (h : OpS P C o σ σ') (k : WL P C ops.toArray l Q σ') : WL P C ops.toArray (o :: l) Q σ := by
  intro a w hs
  simp only [wpListIn, hw.ok hs (fun _ _ h => h), if_true]
  exact h a w hs _ _ (fun a' w' hs' => k a' w' hs')
theorem WL.consU {ops : List Oper} {o : Oper} {l : List Oper} {Q : Exit → Sg → Prop} {t : Nat} (hw : Wt ops σ.get o false) (hd : o.dst = some t) (ht : t < σ.n)
    (k : WL P C ops.toArray l Q (σ.set t (.tup []))) : WL P C ops.toArray (o :: l) Q σ := by
  intro a w hs
  simp only [wpListIn, hw.ok hs (fun _ _ h => h), Bool.false_eq_true, if_false]
  rw [hd]
  exact ⟨fun _ _ => trivial, k _ _ (hs.unwanted ht)⟩

/-! ### any order -/
def tb (m n : Nat) : Bool := Nat.beq (Nat.mod (Nat.div m (Nat.pow 2 n)) 2) 1
def nth (an : List Nat) (i : Nat) : Nat :=
  match an, i with
  | [], _ => 0
  | x :: _, 0 => x
  | _ :: r, i + 1 => nth r i

/-- an operation's outcome: the slot, what it holds, whether the operation is wanted -/
structure It where
  t : Nat
  d : D
  w : Bool

def looks (f : Nat → Nat) (env : List (Nat × D)) : List It → Nat → Nat → Option D
  | [], _, u => lk env u
  | ⟨t, d, w⟩ :: r, j, u => bif Nat.beq t u then
      (match f j with
      | 0 => none
      | 1 => lk env u
      | _ => bif w then some d else some (.tup []))
    else looks f env r (j + 1) u

def bads (f : Nat → Bool) : List (Nat × Nat) → Nat → Bool
  | [], _ => false
  | (k, s) :: r, u => bif Nat.beq s u then (bif f k then true else bads f r u) else bads f r u

def idxT : List It → Nat → Nat → Option Nat
  | [], _, _ => none
  | ⟨t, _, _⟩ :: r, j, u => bif Nat.beq t u then some j else idxT r (j + 1) u
/-- what operation k took from slot u is made good: the slot was written behind it -/
def cov (an : List Nat) (g : Nat → Bool) (its : List It) (u k : Nat) : Bool :=
  match idxT its 0 u with
  | some j => g j && tb (nth an j) k
  | none => false

/-- what operation i finds, whatever ran ahead of it -/
def facts (an : List Nat) (ks : List (Nat × Nat)) (env : List (Nat × D)) (its : List It) (i u : Nat) : Option D :=
  bif bads (fun k => !(Nat.beq k i) && !(tb (nth an k) i) && !(cov an (fun j => tb (nth an i) j) its u k)) ks u then none
  else looks (fun j => bif tb (nth an i) j then 2 else bif tb (nth an j) i then 1 else 0) env its 0 u

def afts (an : List Nat) (dn : Nat → Bool) (ks : List (Nat × Nat)) (env : List (Nat × D)) (its : List It) (u : Nat) : Option D :=
  bif bads (fun k => dn k && !(cov an dn its u k)) ks u then none else looks (fun j => bif dn j then 2 else 1) env its 0 u

def killS (σ : Sg) : List (Nat × Nat) → Nat → Sg
  | [], _ => σ
  | (k, s) :: r, i => bif Nat.beq k i then killS (σ.kill s) r i else killS σ r i

def AllOps (P : Program) (C : Ctx) (σ : Sg) (ops : List Oper) (an : List Nat) (ks kk : List (Nat × Nat)) (its : List It) : List Oper → List It → Nat → Prop
  | o :: os, ⟨t, d, wt⟩ :: r, i => (o.dst = some t ∧ Wt ops (facts an ks σ.env its i) o wt ∧
      (wt = true → ∀ τ : Sg, (∀ id x, lk σ.bx id = some x → τ.box id = some x) → t < τ.n → (∀ u x, facts an ks σ.env its i u = some x → τ.get u = some x) → OpS P C o τ ((killS τ kk i).set t d))) ∧ AllOps P C σ ops an ks kk its os r (i + 1)
  | [], _ :: _, _ => False
  | _, [], _ => True

def picks (f : Nat → Option D) : List Nat → List (Nat × D)
  | [] => []
  | u :: r => match f u with
    | some d => (u, d) :: picks f r
    | none => picks f r

theorem lk_picks {f : Nat → Option D} {l : List Nat} {u : Nat} {x : D} (h : lk (picks f l) u = some x) : f u = some x := by
  induction l with
  | nil => cases h
  | cons v r ih =>
    simp only [picks] at h
    cases hf : f v with
    | none => rw [hf] at h; exact ih h
    | some d =>
      rw [hf] at h
      rw [lk_cons] at h
      split at h
      · rename_i hv; subst hv; rw [hf]; exact h
      · exact ih h

theorem St.picks {live : List Nat} {env' : List (Nat × D)} {bx' : List (Nat × Bx)} {n' : Nat} (hs : St C σ a w) (hE : picks σ.get live = env') (hb : σ.bx = bx') (hn : σ.n = n') : St C ⟨n', env', bx'⟩ a w :=
  hs.weaken hn.symm hb.symm fun t d hd => lk_picks (f := σ.get) (l := live) (by rw [hE]; exact hd)

/-- the last ones, each behind all -/
def TL (P : Program) (C : Ctx) (Q : Exit → Sg → Prop) : List Oper → Sg → Prop
  | [], σ => ∃ (live : List Nat) (env' : List (Nat × D)) (bx' : List (Nat × Bx)) (n' : Nat), picks σ.get live = env' ∧ σ.bx = bx' ∧ σ.n = n' ∧ Q .normal ⟨n', env', bx'⟩
  | o :: r, σ => o.guard = none ∧ ∃ σ', OpS P C o σ σ' ∧ TL P C Q r σ'

def okAn (ops : List Oper) (an : List Nat) (m : Nat) : Bool :=
  (List.range ops.length).all fun i => match ops[i]? with
    | none => true
    | some o => (o.after.toList.all fun e => !Region.binds .any e || Nat.blt e.on i) &&
        (List.range ops.length).all fun j => (!tb (nth an i) j || o.after.toList.any fun e => Region.binds .any e && (Nat.beq e.on j || tb (nth an e.on) j)) && (Nat.blt i m || !Nat.blt j i || tb (nth an i) j)
def okTs (n : Nat) : List Nat → Bool
  | [] => true
  | t :: r => Nat.blt t n && !(r.contains t) && okTs n r
def slots : List It → List Nat
  | [] => []
  | ⟨t, _, _⟩ :: r => t :: slots r

def D.rf : D → Option Nat
  | .al s => some s
  | .vw s _ _ _ => some s
  | .ep s _ _ _ _ => some s
  | _ => none
def has : List (Nat × Nat) → Nat → Nat → Bool
  | [], _, _ => false
  | (a, b) :: r, x, y => bif Nat.beq a x then (bif Nat.beq b y then true else has r x y) else has r x y
def subs : List (Nat × Nat) → List (Nat × Nat) → Bool
  | [], _ => true
  | (a, b) :: r, l => has l a b && subs r l
theorem has_ok {l : List (Nat × Nat)} {x y : Nat} (h : has l x y = true) : (x, y) ∈ l := by
  induction l with
  | nil => cases h
  | cons p r ih =>
    obtain ⟨a, b⟩ := p
    simp only [has] at h
    by_cases h1 : a = x
    · subst h1
      simp only [Nat.beq_refl, cond_true] at h
      by_cases h2 : b = y
      · subst h2; simp
      · rw [nbeq h2] at h; exact List.mem_cons_of_mem _ (ih h)
    · rw [nbeq h1] at h; exact List.mem_cons_of_mem _ (ih h)
theorem subs_ok {l m : List (Nat × Nat)} (h : subs l m = true) : ∀ k s, (k, s) ∈ l → (k, s) ∈ m := by
  induction l with
  | nil => intro k s hm; cases hm
  | cons p r ih =>
    obtain ⟨a, b⟩ := p
    simp only [subs, Bool.and_eq_true] at h
    intro k s hm
    rcases List.mem_cons.1 hm with he | hm
    · cases he; exact has_ok h.1
    · exact ih h.2 k s hm
def refOk (an : List Nat) (ks : List (Nat × Nat)) (j tj s : Nat) : List Nat → Nat → Bool
  | [], _ => true
  | t :: r, i => (bif Nat.beq t s then (bif tb (nth an j) i then true else has ks i tj) else true) && refOk an ks j tj s r (i + 1)
/-- a reference to a slot is made behind the slot's writing -/
def okRef (an : List Nat) (ks : List (Nat × Nat)) (ts : List Nat) : List It → Nat → Bool
  | [], _ => true
  | ⟨t, d, _⟩ :: r, j => (match d.rf with
      | none => true
      | some s => refOk an ks j t s ts 0) && okRef an ks ts r (j + 1)
def notIn (s : Nat) : List Nat → Bool
  | [] => true
  | t :: r => !(Nat.beq t s) && notIn s r
def okEnv (ts : List Nat) : List (Nat × D) → Bool
  | [] => true
  | (_, d) :: r => (match d.rf with
      | none => true
      | some s => notIn s ts) && okEnv ts r

theorem scrub_id {t : Nat} {d : D} (h : d.rf ≠ some t) : scrub t d = d := by
  cases d with
  | al s => simp only [scrub]; rw [nbeq (fun e => h (by simp [D.rf, e]))]; rfl
  | vw s _ _ _ => simp only [scrub]; rw [nbeq (fun e => h (by simp [D.rf, e]))]; rfl
  | ep s _ _ _ _ => simp only [scrub]; rw [nbeq (fun e => h (by simp [D.rf, e]))]; rfl
  | _ => rfl

theorem notIn_ok {s : Nat} {ts : List Nat} (h : notIn s ts = true) : s ∉ ts := by
  induction ts with
  | nil => simp
  | cons t r ih =>
    simp only [notIn, Bool.and_eq_true, Bool.not_eq_true'] at h
    intro hm
    rcases List.mem_cons.1 hm with rfl | hm
    · simp at h
    · exact ih h.2 hm

theorem okEnv_ok {ts : List Nat} {env : List (Nat × D)} (h : okEnv ts env = true) {u : Nat} {x : D} (hx : lk env u = some x) {t : Nat} (ht : t ∈ ts) : x.rf ≠ some t := by
  induction env with
  | nil => cases hx
  | cons y r ih =>
    obtain ⟨k, d⟩ := y
    simp only [okEnv, Bool.and_eq_true] at h
    rw [lk_cons] at hx
    split at hx
    · cases hx
      intro he
      rw [he] at h
      exact notIn_ok h.1 ht
    · exact ih h.2 hx

theorem refOk_ok {an : List Nat} {ks : List (Nat × Nat)} {j tj s : Nat} {ts : List Nat} {i0 : Nat} (h : refOk an ks j tj s ts i0 = true) {i : Nat} (hi : ts[i]? = some s) : tb (nth an j) (i0 + i) = true ∨ (i0 + i, tj) ∈ ks := by
  induction ts generalizing i0 i with
  | nil => simp at hi
  | cons t r ih =>
    simp only [refOk, Bool.and_eq_true] at h
    cases i with
    | zero =>
      simp at hi
      subst hi
      have h1 := h.1
      simp only [Nat.beq_refl, cond_true] at h1
      cases ht : tb (nth an j) i0 with
      | true => exact .inl (by simp)
      | false => rw [ht] at h1; exact .inr (by simpa using has_ok h1)
    | succ i => have := ih h.2 (i := i) (by simpa using hi); rw [show i0 + (i + 1) = i0 + 1 + i by omega]; exact this

theorem okRef_ok {an : List Nat} {ks : List (Nat × Nat)} {ts : List Nat} {its : List It} {j0 : Nat} (h : okRef an ks ts its j0 = true) {k t i s : Nat} {d : D} {wt : Bool} (hk : its[k]? = some ⟨t, d, wt⟩) (hs : d.rf = some s) (hi : ts[i]? = some s) :
    tb (nth an (j0 + k)) i = true ∨ (i, t) ∈ ks := by
  induction its generalizing j0 k with
  | nil => simp at hk
  | cons y r ih =>
    obtain ⟨t', d', w'⟩ := y
    simp only [okRef, Bool.and_eq_true] at h
    cases k with
    | zero =>
      simp at hk
      obtain ⟨rfl, rfl, rfl⟩ := hk
      rw [hs] at h
      have := refOk_ok h.1 hi
      simpa using this
    | succ k => have := ih h.2 (k := k) (by simpa using hk); rw [show j0 + (k + 1) = j0 + 1 + k by omega]; exact this

theorem slots_get (its : List It) (k : Nat) : (slots its)[k]? = (its[k]?).map (·.t) := by
  induction its generalizing k with
  | nil => simp [slots]
  | cons y r ih =>
    obtain ⟨t, d, wt⟩ := y
    cases k with
    | zero => simp [slots]
    | succ k => simp [slots, ih]

theorem okTs_ok {n : Nat} {ts : List Nat} (h : okTs n ts = true) : ts.Nodup ∧ ∀ t ∈ ts, t < n := by
  induction ts with
  | nil => simp
  | cons t r ih =>
    simp only [okTs, Bool.and_eq_true, Bool.not_eq_true'] at h
    have h1 := ih h.2
    have h2 : t < n := by simpa [Nat.blt_eq] using h.1.1
    refine ⟨List.nodup_cons.2 ⟨by simpa using h.1.2, h1.1⟩, fun x hx => ?_⟩
    rcases List.mem_cons.1 hx with rfl | hx
    · exact h2
    · exact h1.2 x hx

theorem looks_none {f : Nat → Nat} {env : List (Nat × D)} {its : List It} {j u : Nat} (h : u ∉ slots its) : looks f env its j u = lk env u := by
  induction its generalizing j with
  | nil => rfl
  | cons y r ih =>
    obtain ⟨t, d, wt⟩ := y
    simp only [slots, List.mem_cons, not_or] at h
    simp only [looks]
    rw [nbeq (fun e => h.1 e.symm)]
    exact ih h.2

theorem looks_at {f : Nat → Nat} {env : List (Nat × D)} {its : List It} {j u k : Nat} {d : D} {wt : Bool} (hn : (slots its).Nodup) (hk : its[k]? = some ⟨u, d, wt⟩) :
    looks f env its j u = (match f (j + k) with
      | 0 => none
      | 1 => lk env u
      | _ => bif wt then some d else some (.tup [])) := by
  induction its generalizing j k with
  | nil => simp at hk
  | cons y r ih =>
    obtain ⟨t, d', wt'⟩ := y
    simp only [slots, List.nodup_cons] at hn
    cases k with
    | zero =>
      simp at hk
      obtain ⟨rfl, rfl, rfl⟩ := hk
      simp [looks]
    | succ k =>
      have hk' : r[k]? = some ⟨u, d, wt⟩ := by simpa using hk
      have hm : u ∈ slots r := by
        have := slots_get r k
        rw [hk'] at this
        exact List.mem_of_getElem? this
      simp only [looks]
      rw [nbeq (show ¬ t = u from fun e => hn.1 (by rw [e]; exact hm))]
      simp only [cond_false]
      rw [ih hn.2 hk', show j + (k + 1) = j + 1 + k by omega]

theorem slot_cases (its : List It) (u : Nat) : u ∉ slots its ∨ ∃ (k : Nat) (d : D) (wt : Bool), its[k]? = some (⟨u, d, wt⟩ : It) := by
  by_cases h : u ∈ slots its
  · obtain ⟨k, hk⟩ := List.getElem?_of_mem h
    rw [slots_get] at hk
    cases hi : its[k]? with
    | none => rw [hi] at hk; simp at hk
    | some it =>
      rw [hi] at hk
      obtain ⟨t, d, wt⟩ := it
      simp at hk
      subst hk
      exact .inr ⟨k, d, wt, hi⟩
  · exact .inl h

theorem bads_false {f : Nat → Bool} {ks : List (Nat × Nat)} {u : Nat} : bads f ks u = false ↔ ∀ k s, (k, s) ∈ ks → s = u → f k = false := by
  induction ks with
  | nil => simp [bads]
  | cons y r ih =>
    obtain ⟨k, s⟩ := y
    simp only [bads]
    by_cases hs : s = u
    · subst hs
      simp only [Nat.beq_refl, cond_true]
      cases hf : f k with
      | true => simp only [cond_true]; constructor; · intro h; cases h
                · intro h; have := h k s (by simp) rfl; rw [hf] at this; exact this
      | false =>
        simp only [cond_false, ih]
        constructor
        · intro h k' s' hm hs'
          rcases List.mem_cons.1 hm with he | hm
          · cases he; exact hf
          · exact h k' s' hm hs'
        · intro h k' s' hm hs'; exact h k' s' (List.mem_cons_of_mem _ hm) hs'
    · simp only [nbeq hs, cond_false, ih]
      constructor
      · intro h k' s' hm hs'
        rcases List.mem_cons.1 hm with he | hm
        · cases he; exact absurd hs' hs
        · exact h k' s' hm hs'
      · intro h k' s' hm hs'; exact h k' s' (List.mem_cons_of_mem _ hm) hs'

theorem killS_get {σ : Sg} {ks : List (Nat × Nat)} {i u : Nat} (h : ∀ k s, (k, s) ∈ ks → s = u → k ≠ i) : (killS σ ks i).get u = σ.get u := by
  induction ks generalizing σ with
  | nil => rfl
  | cons y r ih =>
    obtain ⟨k, s⟩ := y
    simp only [killS]
    by_cases hk : k = i
    · subst hk
      simp only [Nat.beq_refl, cond_true]
      rw [ih (fun k' s' hm hs' => h k' s' (List.mem_cons_of_mem _ hm) hs'), get_kill]
      have : ¬ u = s := fun e => h k s (by simp) e.symm rfl
      simp [this]
    · simp only [nbeq hk, cond_false]
      exact ih (fun k' s' hm hs' => h k' s' (List.mem_cons_of_mem _ hm) hs')
theorem killS_n (σ : Sg) (ks : List (Nat × Nat)) (i : Nat) : (killS σ ks i).n = σ.n ∧ (killS σ ks i).bx = σ.bx := by
  induction ks generalizing σ with
  | nil => exact ⟨rfl, rfl⟩
  | cons y r ih =>
    obtain ⟨k, s⟩ := y
    simp only [killS]
    by_cases hk : k = i
    · subst hk; simp only [Nat.beq_refl, cond_true]; exact ih _
    · simp only [nbeq hk, cond_false]; exact ih _

theorem AllOps.at {ops : List Oper} {an : List Nat} {ks kk : List (Nat × Nat)} {its : List It} : ∀ {os : List Oper} {r : List It} {i0 : Nat}, AllOps P C σ ops an ks kk its os r i0 → ∀ {k : Nat} {t : Nat} {d : D} {wt : Bool}, r[k]? = some ⟨t, d, wt⟩ →
    ∃ o, os[k]? = some o ∧ o.dst = some t ∧ Wt ops (facts an ks σ.env its (i0 + k)) o wt ∧
      (wt = true → ∀ τ : Sg, (∀ id x, lk σ.bx id = some x → τ.box id = some x) → t < τ.n → (∀ u x, facts an ks σ.env its (i0 + k) u = some x → τ.get u = some x) → OpS P C o τ ((killS τ kk (i0 + k)).set t d)) := by
  intro os r
  induction r generalizing os with
  | nil => intro i0 _ k t d wt hk; simp at hk
  | cons y r ih =>
    intro i0 h k t d wt hk
    obtain ⟨t', d', w'⟩ := y
    cases os with
    | nil => exact h.elim
    | cons o os =>
      cases k with
      | zero =>
        simp at hk
        obtain ⟨rfl, rfl, rfl⟩ := hk
        exact ⟨o, rfl, h.1⟩
      | succ k =>
        obtain ⟨o', h1, h2⟩ := ih h.2 (k := k) (by simpa using hk)
        rw [show i0 + (k + 1) = i0 + 1 + k by omega]
        exact ⟨o', by simpa using h1, h2⟩

structure ItOk (P : Program) (C : Ctx) (σ : Sg) (ops : List Oper) (an : List Nat) (ks kk : List (Nat × Nat)) (its : List It) : Prop where
  len : its.length ≤ ops.length
  ts : okTs σ.n (slots its) = true
  all : AllOps P C σ ops an ks kk its ops its 0
  ref : okRef an ks (slots its) its 0 = true
  sub : subs kk ks = true
  env : okEnv (slots its) σ.env = true

section
variable {listed : Array Bool} {ops : List Oper} {an : List Nat} {ks kk : List (Nat × Nat)} {its : List It} {Q : Exit → Sg → Prop}

theorem okAn_spec {m : Nat} (h : okAn ops an m = true) {i : Nat} {o : Oper} (ho : ops[i]? = some o) :
    (∀ e ∈ o.after, Region.binds .any e = true → e.on < i) ∧
    ∀ j, j < ops.length → (tb (nth an i) j = true → ∃ e ∈ o.after, Region.binds .any e = true ∧ (e.on = j ∨ tb (nth an e.on) j = true)) ∧ (m ≤ i → j < i → tb (nth an i) j = true) := by
  have hi : i < ops.length := (List.getElem?_eq_some_iff.1 ho).1
  have := List.all_eq_true.1 h i (List.mem_range.2 hi)
  rw [ho] at this
  simp only [Bool.and_eq_true, List.all_eq_true, List.mem_range] at this
  obtain ⟨h1, h2⟩ := this
  refine ⟨fun e he hb => ?_, fun j hj => ?_⟩
  · have := h1 e (by simpa using he)
    simpa [hb, Nat.blt_eq] using this
  · obtain ⟨h3, h4⟩ := h2 j hj
    refine ⟨fun ht => ?_, fun hm hj' => ?_⟩
    · rw [ht] at h3
      simp only [Bool.not_true, Bool.false_or, List.any_eq_true, Bool.and_eq_true, Bool.or_eq_true] at h3
      obtain ⟨e, he, hb, h5⟩ := h3
      exact ⟨e, by simpa using he, hb, h5.imp (fun h => Nat.eq_of_beq_eq_true h) id⟩
    · have e1 : Nat.blt i m = false := by
        cases hb : Nat.blt i m with
        | false => rfl
        | true => rw [Nat.blt_eq] at hb; omega
      have e2 : Nat.blt j i = true := by rw [Nat.blt_eq]; exact hj'
      simpa [e1, e2] using h4

/-- which ones ran -/
structure Cl (ops : List Oper) (listed : Array Bool) : Prop where
  size : listed.size = ops.length
  cl : ∀ i o, ops[i]? = some o → listed.getD i false = true → ∀ e ∈ o.after, Region.binds .any e = true → listed.getD e.on false = true

theorem Cl.anc {m : Nat} (hc : Cl ops listed) (h : okAn ops an m = true) : ∀ i, i < ops.length → listed.getD i false = true → ∀ j, j < ops.length → tb (nth an i) j = true → listed.getD j false = true := by
  intro i
  induction i using Nat.strongRecOn with
  | _ i ih =>
    intro hi hd j hj ht
    have ho : ops[i]? = some ops[i] := List.getElem?_eq_getElem hi
    obtain ⟨h1, h2⟩ := okAn_spec h ho
    obtain ⟨e, he, hb, h3⟩ := (h2 j hj).1 ht
    have hd' := hc.cl i _ ho hd e he hb
    rcases h3 with rfl | h3
    · exact hd'
    · have := h1 e he hb
      exact ih e.on this (by omega) hd' j hj h3

theorem getD_true {listed : Array Bool} {i : Nat} (h : listed.getD i false = true) : i < listed.size := by
  rcases Nat.lt_or_ge i listed.size with h' | h'
  · exact h'
  · simp [Array.getElem?_eq_none h'] at h

theorem undone {listed : Array Bool} {i : Nat} (h : listed.getD i true = false) : i < listed.size ∧ listed.getD i false = false := by
  rcases Nat.lt_or_ge i listed.size with h' | h'
  · simp [h'] at h ⊢; exact h
  · simp [Array.getElem?_eq_none h'] at h

theorem Cl.set (hc : Cl ops listed) {i : Nat} {o : Oper} (ho : ops[i]? = some o) (hr : ∀ e ∈ o.after, Region.binds .any e = true → listed.getD e.on false = true) : Cl ops (listed.setIfInBounds i true) := by
  refine ⟨by simp [hc.size], fun j oj hj hd e he hb => ?_⟩
  by_cases hji : i = j
  · subst hji
    rw [ho] at hj
    cases hj
    exact getD_set_true (hr e he hb)
  · rw [getD_set_ne false hji] at hd
    exact getD_set_true (hc.cl j oj hj hd e he hb)

theorem count_set {listed : Array Bool} {i : Nat} (h : listed.getD i true = false) : (listed.setIfInBounds i true).toList.count false + 1 = listed.toList.count false := by
  obtain ⟨h1, h2⟩ := undone h
  simp only [Array.toList_setIfInBounds]
  rw [List.count_set (by simpa using h1)]
  have h3 : listed.toList[i]'(by simpa using h1) = false := by simp [h1] at h2; simpa using h2
  have h4 : 0 < listed.toList.count false := List.count_pos_iff.2 (by rw [← h3]; exact List.getElem_mem _)
  have e1 : (false == false) = true := rfl
  have e2 : (true == false) = false := rfl
  simp only [h3, e1, e2, if_true, Bool.false_eq_true, if_false]
  omega

theorem count_zero {listed : Array Bool} (h : listed.toList.count false = 0) (i : Nat) : listed.getD i true = true := by
  rcases Nat.lt_or_ge i listed.size with h' | h'
  · cases hb : listed[i] with
    | true => simp [h', hb]
    | false =>
      have := List.count_eq_zero.1 h
      exact absurd (by rw [← hb]; simp) this
  · simp [Array.getElem?_eq_none h']

theorem ready_zero {listed : Array Bool} (h : listed.toList.count false = 0) : Region.ready .any ops.toArray listed = [] := by
  rw [List.eq_nil_iff_forall_not_mem]
  intro i hi
  have := (mem_ready.1 hi).1
  rw [count_zero h i] at this
  cases this

/-- the last ones -/
theorem draw_tail {m : Nat} (hok : okAn ops an m = true) : ∀ (l : List Oper) (k : Nat) (fuel : Nat) (listed : Array Bool) (a : Act) (w : World) (σ : Sg), ops.drop k = l → m ≤ k → k ≤ ops.length → Cl ops listed → listed.toList.count false ≤ fuel →
    (∀ j, j < k → listed.getD j false = true) → (∀ j, k ≤ j → j < ops.length → listed.getD j true = false) → St C σ a w → TL P C Q l σ →
    wpAnyIn (Fx C) 3 P .any ops.toArray (fun e a' w' => ∃ σ', St C σ' a' w' ∧ Q e σ') fuel listed a w := by
  intro l
  induction l with
  | nil =>
    intro k fuel listed a w σ hl hmk hkl hc hf h1 h2 hs ht
    have hk : k = ops.length := by
      have := congrArg List.length hl
      simp at this; omega
    have hr : Region.ready .any ops.toArray listed = [] := by
      rw [List.eq_nil_iff_forall_not_mem]
      intro i hi
      obtain ⟨h3, o, h4, h5⟩ := mem_ready.1 hi
      obtain ⟨h6, h7⟩ := undone h3
      rw [hc.size] at h6
      rw [h1 i (by omega)] at h7
      cases h7
    obtain ⟨live, env', bx', n', p1, p2, p4, p3⟩ := ht
    exact wpAnyIn_done hr ⟨_, hs.picks p1 p2 p4, p3⟩ fuel
  | cons o l ih =>
    intro k fuel listed a w σ hl hmk hkl hc hf h1 h2 hs ⟨hg, σ', hop, ht⟩
    have hk : k < ops.length := by
      rcases Nat.lt_or_ge k ops.length with h | h
      · exact h
      · rw [List.drop_eq_nil_of_le h] at hl; cases hl
    have ho : ops[k]? = some o := by
      have := List.drop_eq_getElem_cons hk
      rw [this] at hl
      rw [List.getElem?_eq_getElem hk]
      exact congrArg some (List.cons.inj hl).1
    have hl' : ops.drop (k + 1) = l := by
      have := List.drop_eq_getElem_cons hk
      rw [this] at hl
      exact (List.cons.inj hl).2
    have hun := h2 k (Nat.le_refl _) hk
    have hpos : 0 < listed.toList.count false := by have := count_set hun; omega
    obtain ⟨fuel, rfl⟩ : ∃ n, fuel = n + 1 := ⟨fuel - 1, by omega⟩
    refine ⟨fun hr => ?_, fun i hi => ?_⟩
    · exfalso
      have : k ∈ Region.ready .any ops.toArray listed := mem_ready.2 ⟨hun, o, by simpa using ho, fun e he hb => h1 e.on ((okAn_spec hok ho).1 e he hb)⟩
      rw [hr] at this
      cases this
    · obtain ⟨h3, oi, h4, h5⟩ := mem_ready.1 hi
      have hi4 : ops[i]? = some oi := by simpa using h4
      obtain ⟨h6, h7⟩ := undone h3
      rw [hc.size] at h6
      have hik : i = k := by
        rcases Nat.lt_trichotomy i k with h | h | h
        · rw [h1 i h] at h7; cases h7
        · exact h
        · exfalso
          obtain ⟨_, h9⟩ := okAn_spec hok hi4
          obtain ⟨h10, h11⟩ := h9 k hk
          obtain ⟨e, he, hb, h12⟩ := h10 (h11 (by omega) h)
          have hd := h5 e he hb
          have hkd : listed.getD k false = true := by
            rcases h12 with rfl | h12
            · exact hd
            · exact hc.anc hok e.on (by rw [← hc.size]; exact getD_true hd) hd k hk h12
          rw [(undone hun).2] at hkd
          cases hkd
      subst hik
      rw [ho] at hi4
      cases hi4
      unfold Go.wpOpIn
      simp only [h4, Region.wanted, hg, if_true]
      refine (hop a w hs _ _ fun a' w' hs' => ?_)
      refine ih (i + 1) fuel _ a' w' σ' hl' (by omega) (by omega) (hc.set ho h5) (by have := count_set h3; omega) ?_ ?_ hs' ht
      · intro j hj
        by_cases hji : i = j
        · subst hji; simp [hc.size, hk]
        · rw [getD_set_ne false hji]; exact h1 j (by omega)
      · intro j hj hj2
        rw [getD_set_ne true (by omega)]
        exact h2 j (by omega) hj2

theorem idxT_some {its : List It} {j0 u j : Nat} (h : idxT its j0 u = some j) : ∃ (k : Nat) (d : D) (wt : Bool), j = j0 + k ∧ its[k]? = some (⟨u, d, wt⟩ : It) := by
  induction its generalizing j0 with
  | nil => cases h
  | cons y r ih =>
    obtain ⟨t, d, wt⟩ := y
    simp only [idxT] at h
    by_cases ht : t = u
    · subst ht
      simp only [Nat.beq_refl, cond_true, Option.some.injEq] at h
      exact ⟨0, d, wt, by omega, rfl⟩
    · rw [nbeq ht] at h
      obtain ⟨k, d', w', h1, h2⟩ := ih h
      exact ⟨k + 1, d', w', by omega, by simpa using h2⟩
theorem cov_true {an : List Nat} {g : Nat → Bool} {its : List It} {u k : Nat} (h : cov an g its u k = true) : ∃ (j : Nat) (d : D) (wt : Bool), idxT its 0 u = some j ∧ its[j]? = some (⟨u, d, wt⟩ : It) ∧ g j = true ∧ tb (nth an j) k = true := by
  unfold cov at h
  cases hi : idxT its 0 u with
  | none => rw [hi] at h; cases h
  | some j =>
    rw [hi] at h
    simp only [Bool.and_eq_true] at h
    obtain ⟨k', d, wt, h1, h2⟩ := idxT_some hi
    have : j = k' := by omega
    subst this
    exact ⟨j, d, wt, rfl, h2, h.1, h.2⟩
theorem cov_mk {an : List Nat} {g : Nat → Bool} {its : List It} {u k j : Nat} (hi : idxT its 0 u = some j) (h1 : g j = true) (h2 : tb (nth an j) k = true) : cov an g its u k = true := by
  unfold cov; rw [hi]; simp [h1, h2]

def InvS (σ : Sg) (an : List Nat) (ks : List (Nat × Nat)) (its : List It) (listed : Array Bool) (τ : Sg) : Prop :=
  τ.n = σ.n ∧ τ.bx = σ.bx ∧ ∀ u x, afts an (fun j => listed.getD j false) ks σ.env its u = some x → τ.get u = some x

theorem draw_step (H : ItOk P C σ ops an ks kk its) (hsize : listed.size = ops.length) {i : Nat} {oi : Oper} (hi : i < its.length) (ho : ops[i]? = some oi) (hun : listed.getD i true = false)
    (hanc : ∀ j, j < ops.length → tb (nth an i) j = true → listed.getD j false = true) (hnot : ∀ j, j < ops.length → tb (nth an j) i = true → listed.getD j false = false)
    {τ : Sg} (hs : St C τ a w) (hinv : InvS σ an ks its listed τ) {K : Act → World → Prop} {Q' : Exit → Act → World → Prop}
    (hK : ∀ a' w' τ', St C τ' a' w' → InvS σ an ks its (listed.setIfInBounds i true) τ' → K a' w') :
    Region.wanted oi (yielded ops.toArray a.tmps) = true ∧ oi.wpIn (Fx C) 3 P a w K Q' ∨ Region.wanted oi (yielded ops.toArray a.tmps) = false ∧ K (a.put oi.dst undef) w := by
  obtain ⟨hnd, hlt⟩ := okTs_ok H.ts
  obtain ⟨⟨t, d, wt⟩, hit⟩ : ∃ it, its[i]? = some it := ⟨its[i], List.getElem?_eq_getElem hi⟩
  obtain ⟨o, ho', hdst, hwt, hop⟩ := H.all.at hit
  rw [ho] at ho'
  cases ho'
  simp only [Nat.zero_add] at hwt hop
  obtain ⟨hin, hif⟩ := undone hun
  have hil : i < ops.length := by rw [← hsize]; exact hin
  have hfact : ∀ u x, facts an ks σ.env its i u = some x → τ.get u = some x := by
    intro u x hx
    refine hinv.2.2 u x ?_
    unfold facts at hx
    unfold afts
    cases hb : bads (fun k => !(Nat.beq k i) && !(tb (nth an k) i) && !(cov an (fun j => tb (nth an i) j) its u k)) ks u with
    | true => rw [hb] at hx; cases hx
    | false =>
      rw [hb] at hx
      simp only [cond_false] at hx
      have hb2 : bads (fun j => listed.getD j false && !(cov an (fun j => listed.getD j false) its u j)) ks u = false := by
        rw [bads_false] at hb ⊢
        intro k s hm hsu
        have := hb k s hm hsu
        cases hd : listed.getD k false with
        | false => rfl
        | true =>
          have hk : k < ops.length := by rw [← hsize]; exact getD_true hd
          have hki : k ≠ i := by rintro rfl; rw [hif] at hd; cases hd
          rw [nbeq hki] at this
          cases ht : tb (nth an k) i with
          | true => rw [hnot k hk ht] at hd; cases hd
          | false =>
            rw [ht] at this
            simp only [Bool.not_false, Bool.true_and, Bool.not_eq_false'] at this
            obtain ⟨j, dj, wj, h1, h2, h3, h4⟩ := cov_true this
            have hjl : j < ops.length := Nat.lt_of_lt_of_le (List.getElem?_eq_some_iff.1 h2).1 H.len
            rw [cov_mk (g := fun j => listed.getD j false) h1 (hanc j hjl h3) h4]
            rfl
      rw [hb2]
      simp only [cond_false]
      rcases slot_cases its u with hu | ⟨k, dk, wk, hk⟩
      · rw [looks_none hu] at hx ⊢; exact hx
      · rw [looks_at hnd hk] at hx ⊢
        simp only [Nat.zero_add] at hx ⊢
        have hkl : k < ops.length := Nat.lt_of_lt_of_le (List.getElem?_eq_some_iff.1 hk).1 H.len
        cases h1 : tb (nth an i) k with
        | true => rw [h1] at hx; rw [hanc k hkl h1]; exact hx
        | false =>
          rw [h1] at hx
          cases h2 : tb (nth an k) i with
          | true => rw [h2] at hx; rw [hnot k hkl h2]; exact hx
          | false => rw [h2] at hx; cases hx
  have htn : t < τ.n := by
    rw [hinv.1]
    exact hlt t (List.mem_of_getElem? (i := i) (by rw [slots_get, hit]; rfl))
  -- what holds afterwards
  have hafter : ∀ (x : D), x = (bif wt then d else .tup []) → ∀ τ2 : Sg, τ2.n = τ.n → τ2.bx = τ.bx → (∀ u, (∀ k s, (k, s) ∈ ks → s = u → k ≠ i) → τ2.get u = τ.get u) → InvS σ an ks its (listed.setIfInBounds i true) (τ2.set t x) := by
    intro x hx τ2 hn2 hb2 hg2
    refine ⟨hn2.trans hinv.1, hb2.trans hinv.2.1, fun u y hy => ?_⟩
    unfold afts at hy
    cases hbd : bads (fun j => (listed.setIfInBounds i true).getD j false && !(cov an (fun j => (listed.setIfInBounds i true).getD j false) its u j)) ks u with
    | true => rw [hbd] at hy; cases hy
    | false =>
      rw [hbd] at hy
      simp only [cond_false] at hy
      rw [bads_false] at hbd
      rw [get_set]
      have hcov : u ≠ t → ∀ k, cov an (fun j => (listed.setIfInBounds i true).getD j false) its u k = true → cov an (fun j => listed.getD j false) its u k = true ∧ k ≠ i := by
        intro hut k hc
        obtain ⟨j, dj, wj, h1, h2, h3, h4⟩ := cov_true hc
        have hji : i ≠ j := by
          rintro rfl
          rw [hit] at h2
          cases h2
          exact hut rfl
        rw [getD_set_ne false hji] at h3
        refine ⟨cov_mk h1 h3 h4, ?_⟩
        rintro rfl
        have hjl : j < ops.length := Nat.lt_of_lt_of_le (List.getElem?_eq_some_iff.1 h2).1 H.len
        rw [hnot j hjl h4] at h3
        cases h3
      have hki : u ≠ t → ∀ k s, (k, s) ∈ ks → s = u → k ≠ i := by
        rintro hut k s hm hsu rfl
        have h1 := hbd k s hm hsu
        have h2 : (listed.setIfInBounds k true).getD k false = true := by simp [hin]
        rw [h2] at h1
        simp only [Bool.true_and, Bool.not_eq_false'] at h1
        exact (hcov hut k h1).2 rfl
      have hbd2 : u ≠ t → bads (fun j => listed.getD j false && !(cov an (fun j => listed.getD j false) its u j)) ks u = false := by
        intro hut
        rw [bads_false]
        intro k s hm hsu
        have h1 := hbd k s hm hsu
        have h2 := hki hut k s hm hsu
        rw [getD_set_ne false (fun e => h2 e.symm)] at h1
        cases hd : listed.getD k false with
        | false => rfl
        | true =>
          rw [hd] at h1
          simp only [Bool.true_and, Bool.not_eq_false'] at h1 ⊢
          exact (hcov hut k h1).1
      by_cases hut : u = t
      · subst hut
        rw [looks_at hnd hit] at hy
        have e : (listed.setIfInBounds i true).getD (0 + i) false = true := by simp [hin]
        rw [e] at hy
        simp only [cond_true] at hy
        simp only [if_true, hx]
        cases wt <;> exact hy
      · have hki := hki hut
        have hbd2 := hbd2 hut
        simp only [hut, if_false, hg2 u hki]
        have hold : afts an (fun j => listed.getD j false) ks σ.env its u = some y ∧ y.rf ≠ some t := by
          unfold afts
          rw [hbd2]
          simp only [cond_false]
          rcases slot_cases its u with hu | ⟨k, dk, wk, hk⟩
          · rw [looks_none hu] at hy ⊢
            exact ⟨hy, okEnv_ok H.env hy (List.mem_of_getElem? (i := i) (by rw [slots_get, hit]; rfl))⟩
          · rw [looks_at hnd hk] at hy ⊢
            simp only [Nat.zero_add] at hy ⊢
            have hne : i ≠ k := by
              rintro rfl
              rw [hit] at hk
              cases hk
              exact hut rfl
            rw [getD_set_ne false hne] at hy
            refine ⟨hy, ?_⟩
            cases hd : listed.getD k false with
            | false =>
              rw [hd] at hy
              exact okEnv_ok H.env hy (List.mem_of_getElem? (i := i) (by rw [slots_get, hit]; rfl))
            | true =>
              rw [hd] at hy
              simp only [cond_true] at hy
              cases wk with
              | false => simp at hy; subst hy; simp [D.rf]
              | true =>
                simp at hy
                subst hy
                intro hrf
                have := okRef_ok H.ref hk hrf (i := i) (by rw [slots_get, hit]; rfl)
                simp only [Nat.zero_add] at this
                rcases this with this | this
                · rw [hnot k (by rw [← hsize]; exact getD_true hd) this] at hd
                  cases hd
                · exact hki i u this rfl rfl
        rw [hinv.2.2 u y hold.1]
        simp only [Option.map_some, scrub_id hold.2]
  rw [hwt.ok hs hfact]
  cases hwt2 : wt with
  | false =>
    refine .inr ⟨rfl, ?_⟩
    rw [hdst]
    exact hK _ _ _ (hs.unwanted htn) (hafter (.tup []) (by rw [hwt2]; rfl) τ rfl rfl (fun _ _ => rfl))
  | true =>
    refine .inl ⟨rfl, hop hwt2 τ (fun id x hx => by simp only [Sg.box, hinv.2.1]; exact hx) htn hfact a w hs _ _ fun a' w' hs' => ?_⟩
    have hkn := killS_n τ kk i
    exact hK _ _ _ hs' (hafter d (by rw [hwt2]; rfl) _ hkn.1 hkn.2 (fun u hu => killS_get (fun k s hm => hu k s (subs_ok H.sub k s hm))))

theorem bads_fin {t : Nat} (hall : ∀ j d wt, its[j]? = some (⟨t, d, wt⟩ : It) → listed.getD j false = true) (hb : bads (fun k => true && !(cov an (fun _ => true) its t k)) ks t = false) :
    bads (fun j => listed.getD j false && !(cov an (fun j => listed.getD j false) its t j)) ks t = false := by
  rw [bads_false] at hb ⊢
  intro k s hm hsu
  have := hb k s hm hsu
  simp only [Bool.true_and, Bool.not_eq_false'] at this
  obtain ⟨j, dj, wj, h1, h2, _, h4⟩ := cov_true this
  rw [cov_mk (g := fun j => listed.getD j false) h1 (hall j dj wj h2) h4]
  simp

theorem draw_main (hA : okAn ops an its.length = true) (H : ItOk P C σ ops an ks kk its) {live : List Nat} {env' : List (Nat × D)} (hE : picks (afts an (fun _ => true) ks σ.env its) live = env')
    (hT : TL P C Q (ops.drop its.length) ⟨σ.n, env', σ.bx⟩) : ∀ (fuel : Nat) (listed : Array Bool) (a : Act) (w : World) (τ : Sg), Cl ops listed → listed.toList.count false ≤ fuel →
    (∀ j, its.length ≤ j → j < ops.length → listed.getD j true = false) → St C τ a w → InvS σ an ks its listed τ →
    wpAnyIn (Fx C) 3 P .any ops.toArray (fun e a' w' => ∃ σ', St C σ' a' w' ∧ Q e σ') fuel listed a w := by
  intro fuel
  induction fuel with
  | zero =>
    intro listed a w τ hc hf h2 hs hinv
    by_cases hall : ∀ j, j < its.length → listed.getD j false = true
    · refine draw_tail hA _ its.length 0 listed a w ⟨σ.n, env', σ.bx⟩ rfl (Nat.le_refl _) H.len hc hf hall h2 (hs.weaken hinv.1.symm hinv.2.1.symm fun t d hd => hinv.2.2 t d ?_) hT
      have := lk_picks (f := afts an (fun _ => true) ks σ.env its) (l := live) (by rw [hE]; exact hd)
      have hz : ∀ j, listed.getD j true = true := count_zero (by omega)
      unfold afts at this ⊢
      cases hb : bads (fun k => true && !(cov an (fun _ => true) its t k)) ks t with
      | true => rw [hb] at this; cases this
      | false =>
        rw [hb] at this
        rw [bads_fin (fun j dj wj hj => hall j (List.getElem?_eq_some_iff.1 hj).1) hb]
        simp only [cond_false] at this ⊢
        rcases slot_cases its t with hu | ⟨k, dk, wk, hk⟩
        · rw [looks_none hu] at this ⊢; exact this
        · rw [looks_at (okTs_ok H.ts).1 hk] at this ⊢
          simp only [Nat.zero_add] at this ⊢
          rw [hall k (List.getElem?_eq_some_iff.1 hk).1]; exact this
    · exfalso
      apply hall
      intro j hj
      have := count_zero (listed := listed) (by omega) j
      have hjl : j < listed.size := by rw [hc.size]; have := H.len; omega
      simp [hjl] at this ⊢
      exact this
  | succ fuel ih =>
    intro listed a w τ hc hf h2 hs hinv
    by_cases hall : ∀ j, j < its.length → listed.getD j false = true
    · refine draw_tail hA _ its.length (fuel + 1) listed a w ⟨σ.n, env', σ.bx⟩ rfl (Nat.le_refl _) H.len hc hf hall h2 (hs.weaken hinv.1.symm hinv.2.1.symm fun t d hd => hinv.2.2 t d ?_) hT
      have := lk_picks (f := afts an (fun _ => true) ks σ.env its) (l := live) (by rw [hE]; exact hd)
      unfold afts at this ⊢
      cases hb : bads (fun k => true && !(cov an (fun _ => true) its t k)) ks t with
      | true => rw [hb] at this; cases this
      | false =>
        rw [hb] at this
        rw [bads_fin (fun j dj wj hj => hall j (List.getElem?_eq_some_iff.1 hj).1) hb]
        simp only [cond_false] at this ⊢
        rcases slot_cases its t with hu | ⟨k, dk, wk, hk⟩
        · rw [looks_none hu] at this ⊢; exact this
        · rw [looks_at (okTs_ok H.ts).1 hk] at this ⊢
          simp only [Nat.zero_add] at this ⊢
          rw [hall k (List.getElem?_eq_some_iff.1 hk).1]; exact this
    · -- some one is not yet done
      have hsome : ∃ j, j < its.length ∧ listed.getD j true = false := by
        rcases Classical.not_forall.1 hall with ⟨j, hj⟩
        rcases Classical.not_imp.1 hj with ⟨hj1, hj2⟩
        refine ⟨j, hj1, ?_⟩
        have hjl : j < listed.size := by rw [hc.size]; have := H.len; omega
        simp [hjl] at hj2 ⊢
        exact hj2
      have key : ∀ n j, j = n → j < its.length → listed.getD j true = false → ∃ k, k ∈ Region.ready .any ops.toArray listed := by
        intro n
        induction n using Nat.strongRecOn with
        | _ n ihn =>
          intro j hjn hj hu
          have hjl : j < ops.length := Nat.lt_of_lt_of_le hj H.len
          have ho : ops[j]? = some ops[j] := List.getElem?_eq_getElem hjl
          by_cases hr : ∀ e ∈ ops[j].after, Region.binds .any e = true → listed.getD e.on false = true
          · exact ⟨j, mem_ready.2 ⟨hu, _, by simp, hr⟩⟩
          · rcases Classical.not_forall.1 hr with ⟨e, he⟩
            rcases Classical.not_imp.1 he with ⟨he1, he2⟩
            rcases Classical.not_imp.1 he2 with ⟨he3, he4⟩
            have hlt := (okAn_spec hA ho).1 e he1 he3
            refine ihn e.on (by omega) e.on rfl (by omega) ?_
            have hel : e.on < listed.size := by rw [hc.size]; omega
            simp [hel] at he4 ⊢
            exact he4
      obtain ⟨j0, hj0, hu0⟩ := hsome
      refine ⟨fun hr => ?_, fun i hi => ?_⟩
      · obtain ⟨k, hk⟩ := key j0 j0 rfl hj0 hu0
        rw [hr] at hk
        cases hk
      · obtain ⟨h3, oi, h4, h5⟩ := mem_ready.1 hi
        have ho : ops[i]? = some oi := by simpa using h4
        have hil : i < ops.length := (List.getElem?_eq_some_iff.1 ho).1
        have him : i < its.length := by
          rcases Nat.lt_or_ge i its.length with h | h
          · exact h
          · exfalso
            obtain ⟨_, h9⟩ := okAn_spec hA ho
            have hj0l : j0 < ops.length := Nat.lt_of_lt_of_le hj0 H.len
            obtain ⟨h10, h11⟩ := h9 j0 hj0l
            obtain ⟨e, he, hb, h12⟩ := h10 (h11 h (by omega))
            have hd := h5 e he hb
            have hkd : listed.getD j0 false = true := by
              rcases h12 with rfl | h12
              · exact hd
              · exact hc.anc hA e.on (by rw [← hc.size]; exact getD_true hd) hd j0 hj0l h12
            rw [(undone hu0).2] at hkd
            cases hkd
        have hsp := (okAn_spec hA ho).2
        have hif := (undone h3).2
        have hanc : ∀ j, j < ops.length → tb (nth an i) j = true → listed.getD j false = true := by
          intro j hj ht
          obtain ⟨e, he, hb, h1⟩ := (hsp j hj).1 ht
          have hd := h5 e he hb
          rcases h1 with rfl | h1
          · exact hd
          · exact hc.anc hA e.on (by rw [← hc.size]; exact getD_true hd) hd j hj h1
        have hnot : ∀ j, j < ops.length → tb (nth an j) i = true → listed.getD j false = false := by
          intro j hj ht
          cases hd : listed.getD j false with
          | false => rfl
          | true => have := hc.anc hA j hj hd i hil ht; rw [hif] at this; cases this
        suffices hK : ∀ a' w' τ', St C τ' a' w' → InvS σ an ks its (listed.setIfInBounds i true) τ' → wpAnyIn (Fx C) 3 P .any ops.toArray (fun e a' w' => ∃ σ', St C σ' a' w' ∧ Q e σ') fuel (listed.setIfInBounds i true) a' w' by
          unfold Go.wpOpIn
          simp only [h4]
          rcases draw_step H hc.size him ho h3 hanc hnot hs hinv hK with ⟨e1, e2⟩ | ⟨e1, e2⟩
          · simp only [e1, if_true]; exact e2
          · simp only [e1, Bool.false_eq_true, if_false]; exact ⟨fun _ _ => trivial, e2⟩
        intro a' w' τ' hs' hinv'
        refine ih _ a' w' τ' (hc.set ho h5) (by have := count_set h3; omega) (fun j hj hjl => ?_) hs' hinv'
        rw [getD_set_ne true (by omega)]
        exact h2 j hj hjl

theorem W.draw {id m n' : Nat} {bx' : List (Nat × Bx)} (hm : P.follows .mixedOrders = true) (hA0 : okAn ops an m = true) (hlen : its.length = m) (H : ItOk P C σ ops an ks kk its) {live : List Nat} {env' : List (Nat × D)} (hE : picks (afts an (fun _ => true) ks σ.env its) live = env')
    (hb : σ.bx = bx') (hn : σ.n = n') (hT : TL P C Q (ops.drop its.length) ⟨n', env', bx'⟩) : W P C (.region id ops.toArray true) Q σ := by
  intro a w hs
  refine wpIn_region_any hm ?_
  have hc : Cl ops (Array.replicate ops.toArray.size false) := ⟨by simp, fun i o _ hd => by
    have := getD_true hd
    simp at this
    simp [this] at hd⟩
  have hA : okAn ops an its.length = true := by rw [hlen]; exact hA0
  subst hb; subst hn
  refine draw_main hA H hE hT _ _ a _ σ hc ?_ ?_ (hs.ext (Ext.drew w)) ⟨rfl, rfl, fun u x hx => ?_⟩
  · simp
  · intro j _ hj; simp [hj]
  · unfold afts at hx
    generalize hb : bads _ ks u = bb at hx
    cases bb with
    | true => cases hx
    | false =>
      simp only [cond_false] at hx
      rcases slot_cases its u with hu | ⟨k, dk, wk, hk⟩
      · rw [looks_none hu] at hx; exact hx
      · rw [looks_at (okTs_ok H.ts).1 hk] at hx
        have e : (Array.replicate ops.toArray.size false).getD (0 + k) false = false := by
          simp only [Array.getD_eq_getD_getElem?, Array.getElem?_replicate]
          split <;> rfl
        rw [e] at hx
        exact hx

/-! ### the text's order -/
def upTo : Nat → Nat → List Nat
  | 0, _ => []
  | n + 1, m => m :: upTo n (2 * m + 1)

theorem nth_upTo (n m i : Nat) (h : i < n) : nth (upTo n (2 ^ m - 1)) i = 2 ^ (m + i) - 1 := by
  induction n generalizing m i with
  | zero => omega
  | succ n ih =>
    simp only [upTo]
    have e : 2 * (2 ^ m - 1) + 1 = 2 ^ (m + 1) - 1 := by
      have := Nat.two_pow_pos m
      rw [Nat.pow_succ]; omega
    cases i with
    | zero => rfl
    | succ i =>
      simp only [nth]
      rw [e, ih (m + 1) i (by omega), show m + 1 + i = m + (i + 1) by omega]
theorem nth_upTo_out (n m i : Nat) (h : n ≤ i) : nth (upTo n m) i = 0 := by
  induction n generalizing m i with
  | zero => cases i <;> rfl
  | succ n ih =>
    cases i with
    | zero => omega
    | succ i => simp only [upTo, nth]; exact ih _ _ (by omega)

theorem tb_full (i j : Nat) : tb (2 ^ i - 1) j = true ↔ j < i := by
  unfold tb
  have e : Nat.mod (Nat.div (2 ^ i - 1) (Nat.pow 2 j)) 2 = (2 ^ i - 1) / 2 ^ j % 2 := rfl
  rw [e, Nat.beq_eq]
  constructor
  · intro h
    rcases Nat.lt_or_ge j i with h1 | h1
    · exact h1
    · exfalso
      have h2 : (2 ^ i - 1) / 2 ^ j = 0 := Nat.div_eq_of_lt (by
        have := Nat.pow_le_pow_right (show 0 < 2 by omega) h1
        have := Nat.two_pow_pos i
        omega)
      rw [h2] at h; omega
  · intro h
    obtain ⟨k, rfl⟩ : ∃ k, i = j + (k + 1) := ⟨i - j - 1, by omega⟩
    have h2 : (2 ^ (j + (k + 1)) - 1) / 2 ^ j = 2 ^ (k + 1) - 1 := by
      rw [Nat.pow_add]
      have hp := Nat.two_pow_pos j
      have hq := Nat.two_pow_pos (k + 1)
      obtain ⟨q, hq'⟩ : ∃ q, 2 ^ (k + 1) = q + 1 := ⟨2 ^ (k + 1) - 1, by omega⟩
      rw [hq']
      have : 2 ^ j * (q + 1) - 1 = (2 ^ j - 1) + 2 ^ j * q := by rw [Nat.mul_add]; omega
      rw [this, Nat.add_mul_div_left _ _ hp, Nat.div_eq_of_lt (by omega)]
      omega
    rw [h2, Nat.pow_succ]
    have hq := Nat.two_pow_pos k
    omega

theorem tb_nth_upTo {n i j : Nat} : tb (nth (upTo n 0) i) j = true ↔ j < i ∧ i < n := by
  by_cases h : i < n
  · have := nth_upTo n 0 i h
    simp only [Nat.pow_zero, Nat.sub_self, Nat.zero_add] at this
    rw [this, tb_full]
    exact ⟨fun h1 => ⟨h1, h⟩, fun h1 => h1.1⟩
  · rw [nth_upTo_out n 0 i (by omega)]
    constructor
    · intro h1
      exfalso
      unfold tb at h1
      have e : Nat.mod (Nat.div 0 (Nat.pow 2 j)) 2 = 0 / 2 ^ j % 2 := rfl
      rw [e] at h1
      simp at h1
    · intro h1; omega

theorem TL.wpList {l : List Oper} (h : TL P C Q l σ) : WL P C ops.toArray l Q σ := by
  induction l generalizing σ with
  | nil =>
    obtain ⟨live, env', bx', n', p1, p2, p4, p3⟩ := h
    exact fun a w hs => ⟨_, hs.picks p1 p2 p4, p3⟩
  | cons o l ih =>
    obtain ⟨h1, σ', h2, h3⟩ := h
    exact WL.cons h1 h2 (ih h3)

theorem line_main {n : Nat} (hn : ops.length ≤ n) (H : ItOk P C σ ops (upTo n 0) ks kk its) {live : List Nat} {env' : List (Nat × D)} (hE : picks (afts (upTo n 0) (fun _ => true) ks σ.env its) live = env')
    (hT : TL P C Q (ops.drop its.length) ⟨σ.n, env', σ.bx⟩) : ∀ (l : List Oper) (k : Nat) (listed : Array Bool) (a : Act) (w : World) (τ : Sg), ops.drop k = l → k ≤ its.length → listed.size = ops.length →
    (∀ j, j < k → listed.getD j false = true) → (∀ j, k ≤ j → j < ops.length → listed.getD j true = false) → St C τ a w → InvS σ (upTo n 0) ks its listed τ →
    wpListIn (Fx C) 3 P ops.toArray (fun e a' w' => ∃ σ', St C σ' a' w' ∧ Q e σ') l a w := by
  intro l
  have fin : ∀ (listed : Array Bool) (τ : Sg) (a : Act) (w : World), (∀ j, j < its.length → listed.getD j false = true) → St C τ a w → InvS σ (upTo n 0) ks its listed τ → St C ⟨σ.n, env', σ.bx⟩ a w := by
    intro listed τ a w hall hs hinv
    refine hs.weaken hinv.1.symm hinv.2.1.symm fun t d hd => hinv.2.2 t d ?_
    have := lk_picks (f := afts (upTo n 0) (fun _ => true) ks σ.env its) (l := live) (by rw [hE]; exact hd)
    unfold afts at this ⊢
    cases hb : bads (fun k => true && !(cov (upTo n 0) (fun _ => true) its t k)) ks t with
    | true => rw [hb] at this; cases this
    | false =>
      rw [hb] at this
      rw [bads_fin (fun j dj wj hj => hall j (List.getElem?_eq_some_iff.1 hj).1) hb]
      simp only [cond_false] at this ⊢
      rcases slot_cases its t with hu | ⟨k, dk, wk, hk⟩
      · rw [looks_none hu] at this ⊢; exact this
      · rw [looks_at (okTs_ok H.ts).1 hk] at this ⊢
        simp only [Nat.zero_add] at this ⊢
        rw [hall k (List.getElem?_eq_some_iff.1 hk).1]; exact this
  induction l with
  | nil =>
    intro k listed a w τ hl hk hsz h1 h2 hs hinv
    have hkl : ops.length ≤ k := by
      have := congrArg List.length hl
      simp at this; omega
    have hke : k = its.length := by have := H.len; omega
    subst hke
    rw [hl] at hT
    obtain ⟨live, env', bx', n', p1, p2, p4, p3⟩ := hT
    exact ⟨_, (fin listed τ a w h1 hs hinv).picks p1 p2 p4, p3⟩
  | cons o l ih =>
    intro k listed a w τ hl hk hsz h1 h2 hs hinv
    by_cases hke : k = its.length
    · subst hke
      rw [← hl]
      exact hT.wpList (ops := ops) a w (fin listed τ a w h1 hs hinv)
    · have hki : k < its.length := by omega
      have hkl : k < ops.length := Nat.lt_of_lt_of_le hki H.len
      have hd := List.drop_eq_getElem_cons hkl
      rw [hd] at hl
      obtain ⟨ho, hl'⟩ := List.cons.inj hl
      have ho' : ops[k]? = some o := by rw [List.getElem?_eq_getElem hkl, ho]
      have hun := h2 k (Nat.le_refl _) hkl
      have hK : ∀ a' w' τ', St C τ' a' w' → InvS σ (upTo n 0) ks its (listed.setIfInBounds k true) τ' → wpListIn (Fx C) 3 P ops.toArray (fun e a' w' => ∃ σ', St C σ' a' w' ∧ Q e σ') l a' w' := by
        intro a' w' τ' hs' hinv'
        refine ih (k + 1) _ a' w' τ' hl' (by omega) (by simp [hsz]) (fun j hj => ?_) (fun j hj hjl => ?_) hs' hinv'
        · by_cases hjk : k = j
          · subst hjk; simp [hsz, hkl]
          · rw [getD_set_ne false hjk]; exact h1 j (by omega)
        · rw [getD_set_ne true (by omega)]; exact h2 j (by omega) hjl
      have hst := draw_step H hsz hki ho' hun (fun j hj ht => h1 j (tb_nth_upTo.1 ht).1) (fun j hj ht => by
        have := (tb_nth_upTo.1 ht).1
        exact (undone (h2 j (by omega) hj)).2) hs hinv hK (Q' := fun e a' w' => ∃ σ', St C σ' a' w' ∧ Q e σ')
      simp only [wpListIn]
      rcases hst with ⟨e1, e2⟩ | ⟨e1, e2⟩
      · simp only [e1, if_true]; exact e2
      · simp only [e1, Bool.false_eq_true, if_false]; exact ⟨fun _ _ => trivial, e2⟩

theorem W.line {id n n' : Nat} {bx' : List (Nat × Bx)} (hn : ops.length ≤ n) (H : ItOk P C σ ops (upTo n 0) ks kk its) {live : List Nat} {env' : List (Nat × D)} (hE : picks (afts (upTo n 0) (fun _ => true) ks σ.env its) live = env')
    (hb : σ.bx = bx') (hn' : σ.n = n') (hT : TL P C Q (ops.drop its.length) ⟨n', env', bx'⟩) : W P C (.region id ops.toArray false) Q σ := by
  subst hb; subst hn'
  intro a w hs
  refine wpIn_region_lit ?_
  refine line_main hn H hE hT ops 0 (Array.replicate ops.length false) a w σ rfl (Nat.zero_le _) (by simp) (fun j hj => absurd hj (Nat.not_lt_zero _)) (fun j _ hj => by simp [hj]) hs ⟨rfl, rfl, fun u x hx => ?_⟩
  unfold afts at hx
  generalize hb : bads _ ks u = bb at hx
  cases bb with
  | true => cases hx
  | false =>
    simp only [cond_false] at hx
    rcases slot_cases its u with hu | ⟨k, dk, wk, hk⟩
    · rw [looks_none hu] at hx; exact hx
    · rw [looks_at (okTs_ok H.ts).1 hk] at hx
      have e : (Array.replicate ops.length false).getD (0 + k) false = false := by
        simp only [Array.getD_eq_getD_getElem?, Array.getElem?_replicate]
        split <;> rfl
      rw [e] at hx
      exact hx

/-- fewer slots, said plainly -/
theorem W.drop {c : Code} {live : List Nat} {env' : List (Nat × D)} {bx' : List (Nat × Bx)} {n' : Nat} (hE : picks σ.get live = env') (hb : σ.bx = bx') (hn : σ.n = n') (h : W P C c Q ⟨n', env', bx'⟩) : W P C c Q σ := by
  intro a w hs
  refine h a w (hs.weaken hn.symm hb.symm fun t d hd => ?_)
  exact lk_picks (f := σ.get) (l := live) (by rw [hE]; exact hd)
end
end Go.Sx
