/-
  Own library, part 14: regions that draw their order; guards.
-/
import Derived.Test.YtggoegenobhanaaDoorMSxMove
import Derived.Orders
import Derived.Laws.AppendOwn
import Derived.Laws.OwnMore
import Derived.Laws.MakeOwn
import Derived.Laws.CopyRow
import Derived.ChangeKeysEq
set_option linter.unusedVariables false
set_option linter.unusedSimpArgs false
set_option linter.unnecessarySimpa false

namespace Go.Sx

variable {P : Program} {C : Ctx} {σ σ' σ1 : Sg} {a : Act} {w w' : World} {ρ : Nat → Nat} {Fe Fe' Fb : Nat → List Nat}

/-! ### small steps of the state -/
theorem SR_same {G G' L L' : Nat → Prop} {u : Nat} {d : D} {F : List Nat} (h : SR w ρ G L a u d F)
    (hh : ∀ b, b < w.heap.size → w'.heap[b]? = w.heap[b]?) (hg : ∀ b, G b → b < w.heap.size → G' b) (hL : ∀ i, L i → L' i) : SR w' ρ G' L' a u d F := by
  have hL2 : ∀ i, L i → L' i ∧ ρ i = ρ i := fun i hi => ⟨hL i hi, rfl⟩
  cases d with
  | al s => exact h
  | alb i off path =>
    obtain ⟨hF, hid, x, hx, hs⟩ := h
    exact ⟨hF, hL i hid, x, hx, by rw [← hs]; exact World.cell?_of_block (hh _ (block_lt_of_cell hs))⟩
  | vw s z lo n => exact h
  | va i off z n path lo => exact ⟨h.1, hL i h.2.1, h.2.2⟩
  | ep s z i off path => exact h
  | tup ds =>
    obtain ⟨vs, Fs, h1, h2, h3, h4⟩ := h
    exact ⟨vs, Fs, h1, h2, h3, fun k hk => (h4 k hk).imp (fun hx => hx) fun hx => ⟨hx.1, hx.2.mono (fun b _ => hh b) hg hL2⟩⟩
  | dead => exact h
  | _ => obtain ⟨x, hx, hr⟩ := h; exact ⟨x, hx, hr.mono (fun b _ => hh b) hg hL2⟩

theorem St.ext (h : St C σ a w) (hw : Ext w w') : St C σ a w' := by
  obtain ⟨ρ, Fe, Fb, h⟩ := h
  exact ⟨ρ, Fe, Fb, h.size, h.defs, h.pin, fun t d hd => SR_same (h.env t d hd) hw.block (fun _ hb _ => hb) (fun _ hi => hi), h.envN,
    fun id d hd => (h.bx id d hd).mono (fun b _ => hw.block b) (fun _ hb _ => hb) (fun _ hi => ⟨hi, rfl⟩), h.bxN, h.nodE, h.nodB, h.dEE, h.dEB, h.dBB, h.new,
    fun b hb => ⟨(hw.block b (Nat.lt_of_lt_of_le (h.kept b hb).2 h.grown)).trans (h.kept b hb).1, (h.kept b hb).2⟩, hw.os.trans h.os, hw.tape.trans h.tape, hw.output.trans h.output, Nat.le_trans h.grown hw.size, h.gl, fun b hb => h.okN b (Nat.le_trans hw.size hb), h.okO⟩

theorem St.unwanted {t : Nat} (h : St C σ a w) (ht : t < σ.n) : St C (σ.set t (.tup [])) (a.put (some t) undef) w := by
  obtain ⟨ρ, Fe, Fb, h⟩ := h
  refine h.putRef ht ⟨[], fun _ => [], ?_, rfl, rfl, fun k hk => absurd hk (Nat.not_lt_zero _)⟩
  rw [put_get a t _ t (by rw [h.size]; exact ht)]; simp [undef]

theorem St.bool {t : Nat} {b : Bool} (h : St C σ a w) (hg : σ.get t = some (.bool b)) : a.tmps[t]? = some (.bool b) := by
  obtain ⟨ρ, Fe, Fb, h⟩ := h
  obtain ⟨v, hv, hr⟩ := (SR_plain rfl).1 (h.env t _ hg)
  simp only [VR, D.isAgg, Bool.false_eq_true, if_false] at hr
  generalize Fe t = F at hr
  cases hr
  exact hv

theorem St.tup0 {t : Nat} (h : St C σ a w) (hg : σ.get t = some (.tup [])) : a.tmps[t]? = some (.tuple #[]) := by
  obtain ⟨ρ, Fe, Fb, h⟩ := h
  obtain ⟨vs, Fs, h1, h2, _⟩ := h.env t _ hg
  have : vs = [] := List.length_eq_zero_iff.1 h2
  subst this
  exact h1

/-- is it wanted? -/
def Wt (ops : List Oper) (look : Nat → Option D) (o : Oper) (wt : Bool) : Prop :=
  match o.guard with
  | none => wt = true
  | some (g, want) => ∃ og tg, ops[g]? = some og ∧ og.dst = some tg ∧ ((∃ b, look tg = some (.bool b) ∧ wt = (b == want)) ∨ (look tg = some (.tup []) ∧ wt = false))

theorem Wt.ok {ops : List Oper} {look : Nat → Option D} {o : Oper} {wt : Bool} (h : Wt ops look o wt) (hs : St C σ a w) (hl : ∀ u x, look u = some x → σ.get u = some x) :
    Region.wanted o (yielded ops.toArray a.tmps) = wt := by
  unfold Wt at h
  unfold Region.wanted
  cases hg : o.guard with
  | none => rw [hg] at h; exact h.symm
  | some gw =>
    obtain ⟨g, want⟩ := gw
    rw [hg] at h
    obtain ⟨og, tg, h1, h2, h3⟩ := h
    simp only [yielded, List.getElem?_toArray, h1, Option.bind_some, h2]
    rcases h3 with ⟨b, h4, rfl⟩ | ⟨h4, rfl⟩
    · rw [hs.bool (hl _ _ h4)]
      cases b <;> cases want <;> rfl
    · rw [hs.tup0 (hl _ _ h4)]
      cases want <;> rfl

theorem WL.consG {ops : List Oper} {o : Oper} {l : List Oper} {Q : Exit → Sg → Prop} (hw : Wt ops σ.get o true) (h : OpS P C o σ σ') (k : WL P C ops.toArray l Q σ') : WL P C ops.toArray (o :: l) Q σ := by
  intro a w hs
  simp only [wpListIn, hw.ok hs (fun _ _ h => h), if_true]
  exact h a w hs _ _ (fun a' w' hs' => k a' w' hs')
theorem WL.consU {ops : List Oper} {o : Oper} {l : List Oper} {Q : Exit → Sg → Prop} {t : Nat} (hw : Wt ops σ.get o false) (hd : o.dst = some t) (ht : t < σ.n)
    (k : WL P C ops.toArray l Q (σ.set t (.tup []))) : WL P C ops.toArray (o :: l) Q σ := by
  intro a w hs
  simp only [wpListIn, hw.ok hs (fun _ _ h => h), Bool.false_eq_true, if_false]
  rw [hd]
  exact ⟨fun _ _ => trivial, k _ _ (hs.unwanted ht)⟩

/-! ### any order -/
def tb (m n : Nat) : Bool := Nat.beq (Nat.mod (Nat.div m (Nat.pow 2 n)) 2) 1
def nth (an : List Nat) (i : Nat) : Nat :=
  match an, i with
  | [], _ => 0
  | x :: _, 0 => x
  | _ :: r, i + 1 => nth r i

/-- an operation's outcome: the slot, what it holds, whether the operation is wanted -/
structure It where
  t : Nat
  d : D
  w : Bool

def looks (f : Nat → Nat) (env : List (Nat × D)) : List It → Nat → Nat → Option D
  | [], _, u => lk env u
  | ⟨t, d, w⟩ :: r, j, u => bif Nat.beq t u then
      (match f j with
      | 0 => none
      | 1 => lk env u
      | _ => bif w then some d else some (.tup []))
    else looks f env r (j + 1) u

def bads (f : Nat → Bool) : List (Nat × Nat) → Nat → Bool
  | [], _ => false
  | (k, s) :: r, u => bif Nat.beq s u then (bif f k then true else bads f r u) else bads f r u

def idxT : List It → Nat → Nat → Option Nat
  | [], _, _ => none
  | ⟨t, _, _⟩ :: r, j, u => bif Nat.beq t u then some j else idxT r (j + 1) u
/-- what operation k took from slot u is made good: the slot was written behind it -/
def cov (an : List Nat) (g : Nat → Bool) (its : List It) (u k : Nat) : Bool :=
  match idxT its 0 u with
  | some j => g j && tb (nth an j) k
  | none => false

/-- what operation i finds, whatever ran ahead of it -/
def facts (an : List Nat) (ks : List (Nat × Nat)) (env : List (Nat × D)) (its : List It) (i u : Nat) : Option D :=
  bif bads (fun k => !(Nat.beq k i) && !(tb (nth an k) i) && !(cov an (fun j => tb (nth an i) j) its u k)) ks u then none
  else looks (fun j => bif tb (nth an i) j then 2 else bif tb (nth an j) i then 1 else 0) env its 0 u

def afts (an : List Nat) (dn : Nat → Bool) (ks : List (Nat × Nat)) (env : List (Nat × D)) (its : List It) (u : Nat) : Option D :=
  bif bads (fun k => dn k && !(cov an dn its u k)) ks u then none else looks (fun j => bif dn j then 2 else 1) env its 0 u

def killS (σ : Sg) : List (Nat × Nat) → Nat → Sg
  | [], _ => σ
  | (k, s) :: r, i => bif Nat.beq k i then killS (σ.kill s) r i else killS σ r i

def AllOps (P : Program) (C : Ctx) (σ : Sg) (ops : List Oper) (an : List Nat) (ks kk : List (Nat × Nat)) (its : List It) : List Oper → List It → Nat → Prop
  | o :: os, ⟨t, d, wt⟩ :: r, i => (o.dst = some t ∧ Wt ops (facts an ks σ.env its i) o wt ∧
      (wt = true → ∀ τ : Sg, (∀ id x, lk σ.bx id = some x → τ.box id = some x) → t < τ.n → (∀ u x, facts an ks σ.env its i u = some x → τ.get u = some x) → OpS P C o τ ((killS τ kk i).set t d))) ∧ AllOps P C σ ops an ks kk its os r (i + 1)
  | [], _ :: _, _ => False
  | _, [], _ => True

def picks (f : Nat → Option D) : List Nat → List (Nat × D)
  | [] => []
  | u :: r => match f u with
    | some d => (u, d) :: picks f r
    | none => picks f r

theorem lk_picks {f : Nat → Option D} {l : List Nat} {u : Nat} {x : D} (h : lk (picks f l) u = some x) : f u = some x := by
  induction l with
  | nil => cases h
  | cons v r ih =>
    simp only [picks] at h
    cases hf : f v with
    | none => rw [hf] at h; exact ih h
    | some d =>
      rw [hf] at h
      rw [lk_cons] at h
      split at h
      · rename_i hv; subst hv; rw [hf]; exact h
      · exact ih h

theorem St.picks {live : List Nat} {env' : List (Nat × D)} {bx' : List (Nat × Bx)} {n' : Nat} (hs : St C σ a w) (hE : picks σ.get live = env') (hb : σ.bx = bx') (hn : σ.n = n') : St C ⟨n', env', bx'⟩ a w :=
  hs.weaken hn.symm hb.symm fun t d hd => lk_picks (f := σ.get) (l := live) (by rw [hE]; exact hd)

/-- the last ones, each behind all -/
def TL (P : Program) (C : Ctx) (Q : Exit → Sg → Prop) : List Oper → Sg → Prop
  | [], σ => ∃ (live : List Nat) (env' : List (Nat × D)) (bx' : List (Nat × Bx)) (n' : Nat), picks σ.get live = env' ∧ σ.bx = bx' ∧ σ.n = n' ∧ Q .normal ⟨n', env', bx'⟩
  | o :: r, σ => o.guard = none ∧ ∃ σ', OpS P C o σ σ' ∧ TL P C Q r σ'

def okAn (ops : List Oper) (an : List Nat) (m : Nat) : Bool :=
  (List.range ops.length).all fun i => match ops[i]? with
    | none => true
    | some o => (o.after.toList.all fun e => !Region.binds .any e || Nat.blt e.on i) &&
        (List.range ops.length).all fun j => (!tb (nth an i) j || o.after.toList.any fun e => Region.binds .any e && (Nat.beq e.on j || tb (nth an e.on) j)) && (Nat.blt i m || !Nat.blt j i || tb (nth an i) j)
def okTs (n : Nat) : List Nat → Bool
  | [] => true
  | t :: r => Nat.blt t n && !(r.contains t) && okTs n r
def slots : List It → List Nat
  | [] => []
  | ⟨t, _, _⟩ :: r => t :: slots r

def D.rf : D → Option Nat
  | .al s => some s
  | .vw s _ _ _ => some s
  | .ep s _ _ _ _ => some s
  | _ => none
def has : List (Nat × Nat) → Nat → Nat → Bool
  | [], _, _ => false
  | (a, b) :: r, x, y => bif Nat.beq a x then (bif Nat.beq b y then true else has r x y) else has r x y
def subs : List (Nat × Nat) → List (Nat × Nat) → Bool
  | [], _ => true
  | (a, b) :: r, l => has l a b && subs r l
theorem has_ok {l : List (Nat × Nat)} {x y : Nat} (h : has l x y = true) : (x, y) ∈ l := by
  induction l with
  | nil => cases h
  | cons p r ih =>
    obtain ⟨a, b⟩ := p
    simp only [has] at h
    by_cases h1 : a = x
    · subst h1
      simp only [Nat.beq_refl, cond_true] at h
      by_cases h2 : b = y
      · subst h2; simp
      · rw [nbeq h2] at h; exact List.mem_cons_of_mem _ (ih h)
    · rw [nbeq h1] at h; exact List.mem_cons_of_mem _ (ih h)
theorem subs_ok {l m : List (Nat × Nat)} (h : subs l m = true) : ∀ k s, (k, s) ∈ l → (k, s) ∈ m := by
  induction l with
  | nil => intro k s hm; cases hm
  | cons p r ih =>
    obtain ⟨a, b⟩ := p
    simp only [subs, Bool.and_eq_true] at h
    intro k s hm
    rcases List.mem_cons.1 hm with he | hm
    · cases he; exact has_ok h.1
    · exact ih h.2 k s hm
def refOk (an : List Nat) (ks : List (Nat × Nat)) (j tj s : Nat) : List Nat → Nat → Bool
  | [], _ => true
  | t :: r, i => (bif Nat.beq t s then (bif tb (nth an j) i then true else has ks i tj) else true) && refOk an ks j tj s r (i + 1)
/-- a reference to a slot is made behind the slot's writing -/
def okRef (an : List Nat) (ks : List (Nat × Nat)) (ts : List Nat) : List It → Nat → Bool
  | [], _ => true
  | ⟨t, d, _⟩ :: r, j => (match d.rf with
      | none => true
      | some s => refOk an ks j t s ts 0) && okRef an ks ts r (j + 1)
def notIn (s : Nat) : List Nat → Bool
  | [] => true
  | t :: r => !(Nat.beq t s) && notIn s r
def okEnv (ts : List Nat) : List (Nat × D) → Bool
  | [] => true
  | (_, d) :: r => (match d.rf with
      | none => true
      | some s => notIn s ts) && okEnv ts r

theorem scrub_id {t : Nat} {d : D} (h : d.rf ≠ some t) : scrub t d = d := by
  cases d with
  | al s => simp only [scrub]; rw [nbeq (fun e => h (by simp [D.rf, e]))]; rfl
  | vw s _ _ _ => simp only [scrub]; rw [nbeq (fun e => h (by simp [D.rf, e]))]; rfl
  | ep s _ _ _ _ => simp only [scrub]; rw [nbeq (fun e => h (by simp [D.rf, e]))]; rfl
  | _ => rfl

theorem notIn_ok {s : Nat} {ts : List Nat} (h : notIn s ts = true) : s ∉ ts := by
  induction ts with
  | nil => simp
  | cons t r ih =>
    simp only [notIn, Bool.and_eq_true, Bool.not_eq_true'] at h
    intro hm
    rcases List.mem_cons.1 hm with rfl | hm
    · simp at h
    · exact ih h.2 hm

theorem okEnv_ok {ts : List Nat} {env : List (Nat × D)} (h : okEnv ts env = true) {u : Nat} {x : D} (hx : lk env u = some x) {t : Nat} (ht : t ∈ ts) : x.rf ≠ some t := by
  induction env with
  | nil => cases hx
  | cons y r ih =>
    obtain ⟨k, d⟩ := y
    simp only [okEnv, Bool.and_eq_true] at h
    rw [lk_cons] at hx
    split at hx
    · cases hx
      intro he
      rw [he] at h
      exact notIn_ok h.1 ht
    · exact ih h.2 hx

theorem refOk_ok {an : List Nat} {ks : List (Nat × Nat)} {j tj s : Nat} {ts : List Nat} {i0 : Nat} (h : refOk an ks j tj s ts i0 = true) {i : Nat} (hi : ts[i]? = some s) : tb (nth an j) (i0 + i) = true ∨ (i0 + i, tj) ∈ ks := by
  induction ts generalizing i0 i with
  | nil => simp at hi
  | cons t r ih =>
    simp only [refOk, Bool.and_eq_true] at h
    cases i with
    | zero =>
      simp at hi
      subst hi
      have h1 := h.1
      simp only [Nat.beq_refl, cond_true] at h1
      cases ht : tb (nth an j) i0 with
      | true => exact .inl (by simp)
      | false => rw [ht] at h1; exact .inr (by simpa using has_ok h1)
    | succ i => have := ih h.2 (i := i) (by simpa using hi); rw [show i0 + (i + 1) = i0 + 1 + i by omega]; exact this

theorem okRef_ok {an : List Nat} {ks : List (Nat × Nat)} {ts : List Nat} {its : List It} {j0 : Nat} (h : okRef an ks ts its j0 = true) {k t i s : Nat} {d : D} {wt : Bool} (hk : its[k]? = some ⟨t, d, wt⟩) (hs : d.rf = some s) (hi : ts[i]? = some s) :
    tb (nth an (j0 + k)) i = true ∨ (i, t) ∈ ks := by
  induction its generalizing j0 k with
  | nil => simp at hk
  | cons y r ih =>
    obtain ⟨t', d', w'⟩ := y
    simp only [okRef, Bool.and_eq_true] at h
    cases k with
    | zero =>
      simp at hk
      obtain ⟨rfl, rfl, rfl⟩ := hk
      rw [hs] at h
      have := refOk_ok h.1 hi
      simpa using this
    | succ k => have := ih h.2 (k := k) (by simpa using hk); rw [show j0 + (k + 1) = j0 + 1 + k by omega]; exact this

theorem slots_get (its : List It) (k : Nat) : (slots its)[k]? = (its[k]?).map (·.t) := by
  induction its generalizing k with
  | nil => simp [slots]
  | cons y r ih =>
    obtain ⟨t, d, wt⟩ := y
    cases k with
    | zero => simp [slots]
    | succ k => simp [slots, ih]

theorem okTs_ok {n : Nat} {ts : List Nat} (h : okTs n ts = true) : ts.Nodup ∧ ∀ t ∈ ts, t < n := by
  induction ts with
  | nil => simp
  | cons t r ih =>
    simp only [okTs, Bool.and_eq_true, Bool.not_eq_true'] at h
    have h1 := ih h.2
    have h2 : t < n := by simpa [Nat.blt_eq] using h.1.1
    refine ⟨List.nodup_cons.2 ⟨by simpa using h.1.2, h1.1⟩, fun x hx => ?_⟩
    rcases List.mem_cons.1 hx with rfl | hx
    · exact h2
    · exact h1.2 x hx

theorem looks_none {f : Nat → Nat} {env : List (Nat × D)} {its : List It} {j u : Nat} (h : u ∉ slots its) : looks f env its j u = lk env u := by
  induction its generalizing j with
  | nil => rfl
  | cons y r ih =>
    obtain ⟨t, d, wt⟩ := y
    simp only [slots, List.mem_cons, not_or] at h
    simp only [looks]
    rw [nbeq (fun e => h.1 e.symm)]
    exact ih h.2

theorem looks_at {f : Nat → Nat} {env : List (Nat × D)} {its : List It} {j u k : Nat} {d : D} {wt : Bool} (hn : (slots its).Nodup) (hk : its[k]? = some ⟨u, d, wt⟩) :
    looks f env its j u = (match f (j + k) with
      | 0 => none
      | 1 => lk env u
      | _ => bif wt then some d else some (.tup [])) := by
  induction its generalizing j k with
  | nil => simp at hk
  | cons y r ih =>
    obtain ⟨t, d', wt'⟩ := y
    simp only [slots, List.nodup_cons] at hn
    cases k with
    | zero =>
      simp at hk
      obtain ⟨rfl, rfl, rfl⟩ := hk
      simp [looks]
    | succ k =>
      have hk' : r[k]? = some ⟨u, d, wt⟩ := by simpa using hk
      have hm : u ∈ slots r := by
        have := slots_get r k
        rw [hk'] at this
        exact List.mem_of_getElem? this
      simp only [looks]
      rw [nbeq (show ¬ t = u from fun e => hn.1 (by rw [e]; exact hm))]
      simp only [cond_false]
      rw [ih hn.2 hk', show j + (k + 1) = j + 1 + k by omega]

theorem slot_cases (its : List It) (u : Nat) : u ∉ slots its ∨ ∃ (k : Nat) (d : D) (wt : Bool), its[k]? = some (⟨u, d, wt⟩ : It) := by
  by_cases h : u ∈ slots its
  · obtain ⟨k, hk⟩ := List.getElem?_of_mem h
    rw [slots_get] at hk
    cases hi : its[k]? with
    | none => rw [hi] at hk; simp at hk
    | some it =>
      rw [hi] at hk
      obtain ⟨t, d, wt⟩ := it
      simp at hk
      subst hk
      exact .inr ⟨k, d, wt, hi⟩
  · exact .inl h

theorem bads_false {f : Nat → Bool} {ks : List (Nat × Nat)} {u : Nat} : bads f ks u = false ↔ ∀ k s, (k, s) ∈ ks → s = u → f k = false := by
  induction ks with
  | nil => simp [bads]
  | cons y r ih =>
    obtain ⟨k, s⟩ := y
    simp only [bads]
    by_cases hs : s = u
    · subst hs
      simp only [Nat.beq_refl, cond_true]
      cases hf : f k with
      | true => simp only [cond_true]; constructor; · intro h; cases h
                · intro h; have := h k s (by simp) rfl; rw [hf] at this; exact this
      | false =>
        simp only [cond_false, ih]
        constructor
        · intro h k' s' hm hs'
          rcases List.mem_cons.1 hm with he | hm
          · cases he; exact hf
          · exact h k' s' hm hs'
        · intro h k' s' hm hs'; exact h k' s' (List.mem_cons_of_mem _ hm) hs'
    · simp only [nbeq hs, cond_false, ih]
      constructor
      · intro h k' s' hm hs'
        rcases List.mem_cons.1 hm with he | hm
        · cases he; exact absurd hs' hs
        · exact h k' s' hm hs'
      · intro h k' s' hm hs'; exact h k' s' (List.mem_cons_of_mem _ hm) hs'

theorem killS_get {σ : Sg} {ks : List (Nat × Nat)} {i u : Nat} (h : ∀ k s, (k, s) ∈ ks → s = u → k ≠ i) : (killS σ ks i).get u = σ.get u := by
  induction ks generalizing σ with
  | nil => rfl
  | cons y r ih =>
    obtain ⟨k, s⟩ := y
    simp only [killS]
    by_cases hk : k = i
    · subst hk
      simp only [Nat.beq_refl, cond_true]
      rw [ih (fun k' s' hm hs' => h k' s' (List.mem_cons_of_mem _ hm) hs'), get_kill]
      have : ¬ u = s := fun e => h k s (by simp) e.symm rfl
      simp [this]
    · simp only [nbeq hk, cond_false]
      exact ih (fun k' s' hm hs' => h k' s' (List.mem_cons_of_mem _ hm) hs')
theorem killS_n (σ : Sg) (ks : List (Nat × Nat)) (i : Nat) : (killS σ ks i).n = σ.n ∧ (killS σ ks i).bx = σ.bx := by
  induction ks generalizing σ with
  | nil => exact ⟨rfl, rfl⟩
  | cons y r ih =>
    obtain ⟨k, s⟩ := y
    simp only [killS]
    by_cases hk : k = i
    · subst hk; simp only [Nat.beq_refl, cond_true]; exact ih _
    · simp only [nbeq hk, cond_false]; exact ih _

theorem AllOps.at {ops : List Oper} {an : List Nat} {ks kk : List (Nat × Nat)} {its : List It} : ∀ {os : List Oper} {r : List It} {i0 : Nat}, AllOps P C σ ops an ks kk its os r i0 → ∀ {k : Nat} {t : Nat} {d : D} {wt : Bool}, r[k]? = some ⟨t, d, wt⟩ →
    ∃ o, os[k]? = some o ∧ o.dst = some t ∧ Wt ops (facts an ks σ.env its (i0 + k)) o wt ∧
      (wt = true → ∀ τ : Sg, (∀ id x, lk σ.bx id = some x → τ.box id = some x) → t < τ.n → (∀ u x, facts an ks σ.env its (i0 + k) u = some x → τ.get u = some x) → OpS P C o τ ((killS τ kk (i0 + k)).set t d)) := by
  intro os r
  induction r generalizing os with
  | nil => intro i0 _ k t d wt hk; simp at hk
  | cons y r ih =>
    intro i0 h k t d wt hk
    obtain ⟨t', d', w'⟩ := y
    cases os with
    | nil => exact h.elim
    | cons o os =>
      cases k with
      | zero =>
        simp at hk
        obtain ⟨rfl, rfl, rfl⟩ := hk
        exact ⟨o, rfl, h.1⟩
      | succ k =>
        obtain ⟨o', h1, h2⟩ := ih h.2 (k := k) (by simpa using hk)
        rw [show i0 + (k + 1) = i0 + 1 + k by omega]
        exact ⟨o', by simpa using h1, h2⟩

structure ItOk (P : Program) (C : Ctx) (σ : Sg) (ops : List Oper) (an : List Nat) (ks kk : List (Nat × Nat)) (its : List It) : Prop where
  len : its.length ≤ ops.length
  ts : okTs σ.n (slots its) = true
  all : AllOps P C σ ops an ks kk its ops its 0
  ref : okRef an ks (slots its) its 0 = true
  sub : subs kk ks = true
  env : okEnv (slots its) σ.env = true

section
variable {listed : Array Bool} {ops : List Oper} {an : List Nat} {ks kk : List (Nat × Nat)} {its : List It} {Q : Exit → Sg → Prop}

theorem okAn_spec {m : Nat} (h : okAn ops an m = true) {i : Nat} {o : Oper} (ho : ops[i]? = some o) :
    (∀ e ∈ o.after, Region.binds .any e = true → e.on < i) ∧
    ∀ j, j < ops.length → (tb (nth an i) j = true → ∃ e ∈ o.after, Region.binds .any e = true ∧ (e.on = j ∨ tb (nth an e.on) j = true)) ∧ (m ≤ i → j < i → tb (nth an i) j = true) := by
  have hi : i < ops.length := (List.getElem?_eq_some_iff.1 ho).1
  have := List.all_eq_true.1 h i (List.mem_range.2 hi)
  rw [ho] at this
  simp only [Bool.and_eq_true, List.all_eq_true, List.mem_range] at this
  obtain ⟨h1, h2⟩ := this
  refine ⟨fun e he hb => ?_, fun j hj => ?_⟩
  · have := h1 e (by simpa using he)
    simpa [hb, Nat.blt_eq] using this
  · obtain ⟨h3, h4⟩ := h2 j hj
    refine ⟨fun ht => ?_, fun hm hj' => ?_⟩
    · rw [ht] at h3
      simp only [Bool.not_true, Bool.false_or, List.any_eq_true, Bool.and_eq_true, Bool.or_eq_true] at h3
      obtain ⟨e, he, hb, h5⟩ := h3
      exact ⟨e, by simpa using he, hb, h5.imp (fun h => Nat.eq_of_beq_eq_true h) id⟩
    · have e1 : Nat.blt i m = false := by
        cases hb : Nat.blt i m with
        | false => rfl
        | true => rw [Nat.blt_eq] at hb; omega
      have e2 : Nat.blt j i = true := by rw [Nat.blt_eq]; exact hj'
      simpa [e1, e2] using h4

/-- which ones ran -/
structure Cl (ops : List Oper) (listed : Array Bool) : Prop where
  size : listed.size = ops.length
  cl : ∀ i o, ops[i]? = some o → listed.getD i false = true → ∀ e ∈ o.after, Region.binds .any e = true → listed.getD e.on false = true

theorem Cl.anc {m : Nat} (hc : Cl ops listed) (h : okAn ops an m = true) : ∀ i, i < ops.length → listed.getD i false = true → ∀ j, j < ops.length → tb (nth an i) j = true → listed.getD j false = true := by
  intro i
  induction i using Nat.strongRecOn with
  | _ i ih =>
    intro hi hd j hj ht
    have ho : ops[i]? = some ops[i] := List.getElem?_eq_getElem hi
    obtain ⟨h1, h2⟩ := okAn_spec h ho
    obtain ⟨e, he, hb, h3⟩ := (h2 j hj).1 ht
    have hd' := hc.cl i _ ho hd e he hb
    rcases h3 with rfl | h3
    · exact hd'
    · have := h1 e he hb
      exact ih e.on this (by omega) hd' j hj h3

theorem getD_true {listed : Array Bool} {i : Nat} (h : listed.getD i false = true) : i < listed.size := by
  rcases Nat.lt_or_ge i listed.size with h' | h'
  · exact h'
  · simp [Array.getElem?_eq_none h'] at h

theorem undone {listed : Array Bool} {i : Nat} (h : listed.getD i true = false) : i < listed.size ∧ listed.getD i false = false := by
  rcases Nat.lt_or_ge i listed.size with h' | h'
  · simp [h'] at h ⊢; exact h
  · simp [Array.getElem?_eq_none h'] at h

theorem Cl.set (hc : Cl ops listed) {i : Nat} {o : Oper} (ho : ops[i]? = some o) (hr : ∀ e ∈ o.after, Region.binds .any e = true → listed.getD e.on false = true) : Cl ops (listed.setIfInBounds i true) := by
  refine ⟨by simp [hc.size], fun j oj hj hd e he hb => ?_⟩
  by_cases hji : i = j
  · subst hji
    rw [ho] at hj
    cases hj
    exact getD_set_true (hr e he hb)
  · rw [getD_set_ne false hji] at hd
    exact getD_set_true (hc.cl j oj hj hd e he hb)

theorem count_set {listed : Array Bool} {i : Nat} (h : listed.getD i true = false) : (listed.setIfInBounds i true).toList.count false + 1 = listed.toList.count false := by
  obtain ⟨h1, h2⟩ := undone h
  simp only [Array.toList_setIfInBounds]
  rw [List.count_set (by simpa using h1)]
  have h3 : listed.toList[i]'(by simpa using h1) = false := by simp [h1] at h2; simpa using h2
  have h4 : 0 < listed.toList.count false := List.count_pos_iff.2 (by rw [← h3]; exact List.getElem_mem _)
  have e1 : (false == false) = true := rfl
  have e2 : (true == false) = false := rfl
  simp only [h3, e1, e2, if_true, Bool.false_eq_true, if_false]
  omega

theorem count_zero {listed : Array Bool} (h : listed.toList.count false = 0) (i : Nat) : listed.getD i true = true := by
  rcases Nat.lt_or_ge i listed.size with h' | h'
  · cases hb : listed[i] with
    | true => simp [h', hb]
    | false =>
      have := List.count_eq_zero.1 h
      exact absurd (by rw [← hb]; simp) this
  · simp [Array.getElem?_eq_none h']

theorem ready_zero {listed : Array Bool} (h : listed.toList.count false = 0) : Region.ready .any ops.toArray listed = [] := by
  rw [List.eq_nil_iff_forall_not_mem]
  intro i hi
  have := (mem_ready.1 hi).1
  rw [count_zero h i] at this
  cases this

/-- the last ones -/
theorem draw_tail {m : Nat} (hok : okAn ops an m = true) : ∀ (l : List Oper) (k : Nat) (fuel : Nat) (listed : Array Bool) (a : Act) (w : World) (σ : Sg), ops.drop k = l → m ≤ k → k ≤ ops.length → Cl ops listed → listed.toList.count false ≤ fuel →
    (∀ j, j < k → listed.getD j false = true) → (∀ j, k ≤ j → j < ops.length → listed.getD j true = false) → St C σ a w → TL P C Q l σ →
    wpAnyIn (Fx C) 3 P .any ops.toArray (fun e a' w' => ∃ σ', St C σ' a' w' ∧ Q e σ') fuel listed a w := by
  intro l
  induction l with
  | nil =>
    intro k fuel listed a w σ hl hmk hkl hc hf h1 h2 hs ht
    have hk : k = ops.length := by
      have := congrArg List.length hl
      simp at this; omega
    have hr : Region.ready .any ops.toArray listed = [] := by
      rw [List.eq_nil_iff_forall_not_mem]
      intro i hi
      obtain ⟨h3, o, h4, h5⟩ := mem_ready.1 hi
      obtain ⟨h6, h7⟩ := undone h3
      rw [hc.size] at h6
      rw [h1 i (by omega)] at h7
      cases h7
    obtain ⟨live, env', bx', n', p1, p2, p4, p3⟩ := ht
    exact wpAnyIn_done hr ⟨_, hs.picks p1 p2 p4, p3⟩ fuel
  | cons o l ih =>
    intro k fuel listed a w σ hl hmk hkl hc hf h1 h2 hs ⟨hg, σ', hop, ht⟩
    have hk : k < ops.length := by
      rcases Nat.lt_or_ge k ops.length with h | h
      · exact h
      · rw [List.drop_eq_nil_of_le h] at hl; cases hl
    have ho : ops[k]? = some o := by
      have := List.drop_eq_getElem_cons hk
      rw [this] at hl
      rw [List.getElem?_eq_getElem hk]
      exact congrArg some (List.cons.inj hl).1
    have hl' : ops.drop (k + 1) = l := by
      have := List.drop_eq_getElem_cons hk
      rw [this] at hl
      exact (List.cons.inj hl).2
    have hun := h2 k (Nat.le_refl _) hk
    have hpos : 0 < listed.toList.count false := by have := count_set hun; omega
    obtain ⟨fuel, rfl⟩ : ∃ n, fuel = n + 1 := ⟨fuel - 1, by omega⟩
    refine ⟨fun hr => ?_, fun i hi => ?_⟩
    · exfalso
      have : k ∈ Region.ready .any ops.toArray listed := mem_ready.2 ⟨hun, o, by simpa using ho, fun e he hb => h1 e.on ((okAn_spec hok ho).1 e he hb)⟩
      rw [hr] at this
      cases this
    · obtain ⟨h3, oi, h4, h5⟩ := mem_ready.1 hi
      have hi4 : ops[i]? = some oi := by simpa using h4
      obtain ⟨h6, h7⟩ := undone h3
      rw [hc.size] at h6
      have hik : i = k := by
        rcases Nat.lt_trichotomy i k with h | h | h
        · rw [h1 i h] at h7; cases h7
        · exact h
        · exfalso
          obtain ⟨_, h9⟩ := okAn_spec hok hi4
          obtain ⟨h10, h11⟩ := h9 k hk
          obtain ⟨e, he, hb, h12⟩ := h10 (h11 (by omega) h)
          have hd := h5 e he hb
          have hkd : listed.getD k false = true := by
            rcases h12 with rfl | h12
            · exact hd
            · exact hc.anc hok e.on (by rw [← hc.size]; exact getD_true hd) hd k hk h12
          rw [(undone hun).2] at hkd
          cases hkd
      subst hik
      rw [ho] at hi4
      cases hi4
      unfold Go.wpOpIn
      simp only [h4, Region.wanted, hg, if_true]
      refine (hop a w hs _ _ fun a' w' hs' => ?_)
      refine ih (i + 1) fuel _ a' w' σ' hl' (by omega) (by omega) (hc.set ho h5) (by have := count_set h3; omega) ?_ ?_ hs' ht
      · intro j hj
        by_cases hji : i = j
        · subst hji; simp [hc.size, hk]
        · rw [getD_set_ne false hji]; exact h1 j (by omega)
      · intro j hj hj2
        rw [getD_set_ne true (by omega)]
        exact h2 j (by omega) hj2

theorem idxT_some {its : List It} {j0 u j : Nat} (h : idxT its j0 u = some j) : ∃ (k : Nat) (d : D) (wt : Bool), j = j0 + k ∧ its[k]? = some (⟨u, d, wt⟩ : It) := by
  induction its generalizing j0 with
  | nil => cases h
  | cons y r ih =>
    obtain ⟨t, d, wt⟩ := y
    simp only [idxT] at h
    by_cases ht : t = u
    · subst ht
      simp only [Nat.beq_refl, cond_true, Option.some.injEq] at h
      exact ⟨0, d, wt, by omega, rfl⟩
    · rw [nbeq ht] at h
      obtain ⟨k, d', w', h1, h2⟩ := ih h
      exact ⟨k + 1, d', w', by omega, by simpa using h2⟩
theorem cov_true {an : List Nat} {g : Nat → Bool} {its : List It} {u k : Nat} (h : cov an g its u k = true) : ∃ (j : Nat) (d : D) (wt : Bool), idxT its 0 u = some j ∧ its[j]? = some (⟨u, d, wt⟩ : It) ∧ g j = true ∧ tb (nth an j) k = true := by
  unfold cov at h
  cases hi : idxT its 0 u with
  | none => rw [hi] at h; cases h
  | some j =>
    rw [hi] at h
    simp only [Bool.and_eq_true] at h
    obtain ⟨k', d, wt, h1, h2⟩ := idxT_some hi
    have : j = k' := by omega
    subst this
    exact ⟨j, d, wt, rfl, h2, h.1, h.2⟩
theorem cov_mk {an : List Nat} {g : Nat → Bool} {its : List It} {u k j : Nat} (hi : idxT its 0 u = some j) (h1 : g j = true) (h2 : tb (nth an j) k = true) : cov an g its u k = true := by
  unfold cov; rw [hi]; simp [h1, h2]

def InvS (σ : Sg) (an : List Nat) (ks : List (Nat × Nat)) (its : List It) (listed : Array Bool) (τ : Sg) : Prop :=
  τ.n = σ.n ∧ τ.bx = σ.bx ∧ ∀ u x, afts an (fun j => listed.getD j false) ks σ.env its u = some x → τ.get u = some x

theorem draw_step (H : ItOk P C σ ops an ks kk its) (hsize : listed.size = ops.length) {i : Nat} {oi : Oper} (hi : i < its.length) (ho : ops[i]? = some oi) (hun : listed.getD i true = false)
    (hanc : ∀ j, j < ops.length → tb (nth an i) j = true → listed.getD j false = true) (hnot : ∀ j, j < ops.length → tb (nth an j) i = true → listed.getD j false = false)
    {τ : Sg} (hs : St C τ a w) (hinv : InvS σ an ks its listed τ) {K : Act → World → Prop} {Q' : Exit → Act → World → Prop}
    (hK : ∀ a' w' τ', St C τ' a' w' → InvS σ an ks its (listed.setIfInBounds i true) τ' → K a' w') :
    Region.wanted oi (yielded ops.toArray a.tmps) = true ∧ oi.wpIn (Fx C) 3 P a w K Q' ∨ Region.wanted oi (yielded ops.toArray a.tmps) = false ∧ K (a.put oi.dst undef) w := by
  obtain ⟨hnd, hlt⟩ := okTs_ok H.ts
  obtain ⟨⟨t, d, wt⟩, hit⟩ : ∃ it, its[i]? = some it := ⟨its[i], List.getElem?_eq_getElem hi⟩
  obtain ⟨o, ho', hdst, hwt, hop⟩ := H.all.at hit
  rw [ho] at ho'
  cases ho'
  simp only [Nat.zero_add] at hwt hop
  obtain ⟨hin, hif⟩ := undone hun
  have hil : i < ops.length := by rw [← hsize]; exact hin
  have hfact : ∀ u x, facts an ks σ.env its i u = some x → τ.get u = some x := by
    intro u x hx
    refine hinv.2.2 u x ?_
    unfold facts at hx
    unfold afts
    cases hb : bads (fun k => !(Nat.beq k i) && !(tb (nth an k) i) && !(cov an (fun j => tb (nth an i) j) its u k)) ks u with
    | true => rw [hb] at hx; cases hx
    | false =>
      rw [hb] at hx
      simp only [cond_false] at hx
      have hb2 : bads (fun j => listed.getD j false && !(cov an (fun j => listed.getD j false) its u j)) ks u = false := by
        rw [bads_false] at hb ⊢
        intro k s hm hsu
        have := hb k s hm hsu
        cases hd : listed.getD k false with
        | false => rfl
        | true =>
          have hk : k < ops.length := by rw [← hsize]; exact getD_true hd
          have hki : k ≠ i := by rintro rfl; rw [hif] at hd; cases hd
          rw [nbeq hki] at this
          cases ht : tb (nth an k) i with
          | true => rw [hnot k hk ht] at hd; cases hd
          | false =>
            rw [ht] at this
            simp only [Bool.not_false, Bool.true_and, Bool.not_eq_false'] at this
            obtain ⟨j, dj, wj, h1, h2, h3, h4⟩ := cov_true this
            have hjl : j < ops.length := Nat.lt_of_lt_of_le (List.getElem?_eq_some_iff.1 h2).1 H.len
            rw [cov_mk (g := fun j => listed.getD j false) h1 (hanc j hjl h3) h4]
            rfl
      rw [hb2]
      simp only [cond_false]
      rcases slot_cases its u with hu | ⟨k, dk, wk, hk⟩
      · rw [looks_none hu] at hx ⊢; exact hx
      · rw [looks_at hnd hk] at hx ⊢
        simp only [Nat.zero_add] at hx ⊢
        have hkl : k < ops.length := Nat.lt_of_lt_of_le (List.getElem?_eq_some_iff.1 hk).1 H.len
        cases h1 : tb (nth an i) k with
        | true => rw [h1] at hx; rw [hanc k hkl h1]; exact hx
        | false =>
          rw [h1] at hx
          cases h2 : tb (nth an k) i with
          | true => rw [h2] at hx; rw [hnot k hkl h2]; exact hx
          | false => rw [h2] at hx; cases hx
  have htn : t < τ.n := by
    rw [hinv.1]
    exact hlt t (List.mem_of_getElem? (i := i) (by rw [slots_get, hit]; rfl))
  -- what holds afterwards
  have hafter : ∀ (x : D), x = (bif wt then d else .tup []) → ∀ τ2 : Sg, τ2.n = τ.n → τ2.bx = τ.bx → (∀ u, (∀ k s, (k, s) ∈ ks → s = u → k ≠ i) → τ2.get u = τ.get u) → InvS σ an ks its (listed.setIfInBounds i true) (τ2.set t x) := by
    intro x hx τ2 hn2 hb2 hg2
    refine ⟨hn2.trans hinv.1, hb2.trans hinv.2.1, fun u y hy => ?_⟩
    unfold afts at hy
    cases hbd : bads (fun j => (listed.setIfInBounds i true).getD j false && !(cov an (fun j => (listed.setIfInBounds i true).getD j false) its u j)) ks u with
    | true => rw [hbd] at hy; cases hy
    | false =>
      rw [hbd] at hy
      simp only [cond_false] at hy
      rw [bads_false] at hbd
      rw [get_set]
      have hcov : u ≠ t → ∀ k, cov an (fun j => (listed.setIfInBounds i true).getD j false) its u k = true → cov an (fun j => listed.getD j false) its u k = true ∧ k ≠ i := by
        intro hut k hc
        obtain ⟨j, dj, wj, h1, h2, h3, h4⟩ := cov_true hc
        have hji : i ≠ j := by
          rintro rfl
          rw [hit] at h2
          cases h2
          exact hut rfl
        rw [getD_set_ne false hji] at h3
        refine ⟨cov_mk h1 h3 h4, ?_⟩
        rintro rfl
        have hjl : j < ops.length := Nat.lt_of_lt_of_le (List.getElem?_eq_some_iff.1 h2).1 H.len
        rw [hnot j hjl h4] at h3
        cases h3
      have hki : u ≠ t → ∀ k s, (k, s) ∈ ks → s = u → k ≠ i := by
        rintro hut k s hm hsu rfl
        have h1 := hbd k s hm hsu
        have h2 : (listed.setIfInBounds k true).getD k false = true := by simp [hin]
        rw [h2] at h1
        simp only [Bool.true_and, Bool.not_eq_false'] at h1
        exact (hcov hut k h1).2 rfl
      have hbd2 : u ≠ t → bads (fun j => listed.getD j false && !(cov an (fun j => listed.getD j false) its u j)) ks u = false := by
        intro hut
        rw [bads_false]
        intro k s hm hsu
        have h1 := hbd k s hm hsu
        have h2 := hki hut k s hm hsu
        rw [getD_set_ne false (fun e => h2 e.symm)] at h1
        cases hd : listed.getD k false with
        | false => rfl
        | true =>
          rw [hd] at h1
          simp only [Bool.true_and, Bool.not_eq_false'] at h1 ⊢
          exact (hcov hut k h1).1
      by_cases hut : u = t
      · subst hut
        rw [looks_at hnd hit] at hy
        have e : (listed.setIfInBounds i true).getD (0 + i) false = true := by simp [hin]
        rw [e] at hy
        simp only [cond_true] at hy
        simp only [if_true, hx]
        cases wt <;> exact hy
      · have hki := hki hut
        have hbd2 := hbd2 hut
        simp only [hut, if_false, hg2 u hki]
        have hold : afts an (fun j => listed.getD j false) ks σ.env its u = some y ∧ y.rf ≠ some t := by
          unfold afts
          rw [hbd2]
          simp only [cond_false]
          rcases slot_cases its u with hu | ⟨k, dk, wk, hk⟩
          · rw [looks_none hu] at hy ⊢
            exact ⟨hy, okEnv_ok H.env hy (List.mem_of_getElem? (i := i) (by rw [slots_get, hit]; rfl))⟩
          · rw [looks_at hnd hk] at hy ⊢
            simp only [Nat.zero_add] at hy ⊢
            have hne : i ≠ k := by
              rintro rfl
              rw [hit] at hk
              cases hk
              exact hut rfl
            rw [getD_set_ne false hne] at hy
            refine ⟨hy, ?_⟩
            cases hd : listed.getD k false with
            | false =>
              rw [hd] at hy
              exact okEnv_ok H.env hy (List.mem_of_getElem? (i := i) (by rw [slots_get, hit]; rfl))
            | true =>
              rw [hd] at hy
              simp only [cond_true] at hy
              cases wk with
              | false => simp at hy; subst hy; simp [D.rf]
              | true =>
                simp at hy
                subst hy
                intro hrf
                have := okRef_ok H.ref hk hrf (i := i) (by rw [slots_get, hit]; rfl)
                simp only [Nat.zero_add] at this
                rcases this with this | this
                · rw [hnot k (by rw [← hsize]; exact getD_true hd) this] at hd
                  cases hd
                · exact hki i u this rfl rfl
        rw [hinv.2.2 u y hold.1]
        simp only [Option.map_some, scrub_id hold.2]
  rw [hwt.ok hs hfact]
  cases hwt2 : wt with
  | false =>
    refine .inr ⟨rfl, ?_⟩
    rw [hdst]
    exact hK _ _ _ (hs.unwanted htn) (hafter (.tup []) (by rw [hwt2]; rfl) τ rfl rfl (fun _ _ => rfl))
  | true =>
    refine .inl ⟨rfl, hop hwt2 τ (fun id x hx => by simp only [Sg.box, hinv.2.1]; exact hx) htn hfact a w hs _ _ fun a' w' hs' => ?_⟩
    have hkn := killS_n τ kk i
    exact hK _ _ _ hs' (hafter d (by rw [hwt2]; rfl) _ hkn.1 hkn.2 (fun u hu => killS_get (fun k s hm => hu k s (subs_ok H.sub k s hm))))

theorem bads_fin {t : Nat} (hall : ∀ j d wt, its[j]? = some (⟨t, d, wt⟩ : It) → listed.getD j false = true) (hb : bads (fun k => true && !(cov an (fun _ => true) its t k)) ks t = false) :
    bads (fun j => listed.getD j false && !(cov an (fun j => listed.getD j false) its t j)) ks t = false := by
  rw [bads_false] at hb ⊢
  intro k s hm hsu
  have := hb k s hm hsu
  simp only [Bool.true_and, Bool.not_eq_false'] at this
  obtain ⟨j, dj, wj, h1, h2, _, h4⟩ := cov_true this
  rw [cov_mk (g := fun j => listed.getD j false) h1 (hall j dj wj h2) h4]
  simp

theorem draw_main (hA : okAn ops an its.length = true) (H : ItOk P C σ ops an ks kk its) {live : List Nat} {env' : List (Nat × D)} (hE : picks (afts an (fun _ => true) ks σ.env its) live = env')
    (hT : TL P C Q (ops.drop its.length) ⟨σ.n, env', σ.bx⟩) : ∀ (fuel : Nat) (listed : Array Bool) (a : Act) (w : World) (τ : Sg), Cl ops listed → listed.toList.count false ≤ fuel →
    (∀ j, its.length ≤ j → j < ops.length → listed.getD j true = false) → St C τ a w → InvS σ an ks its listed τ →
    wpAnyIn (Fx C) 3 P .any ops.toArray (fun e a' w' => ∃ σ', St C σ' a' w' ∧ Q e σ') fuel listed a w := by
  intro fuel
  induction fuel with
  | zero =>
    intro listed a w τ hc hf h2 hs hinv
    by_cases hall : ∀ j, j < its.length → listed.getD j false = true
    · refine draw_tail hA _ its.length 0 listed a w ⟨σ.n, env', σ.bx⟩ rfl (Nat.le_refl _) H.len hc hf hall h2 (hs.weaken hinv.1.symm hinv.2.1.symm fun t d hd => hinv.2.2 t d ?_) hT
      have := lk_picks (f := afts an (fun _ => true) ks σ.env its) (l := live) (by rw [hE]; exact hd)
      have hz : ∀ j, listed.getD j true = true := count_zero (by omega)
      unfold afts at this ⊢
      cases hb : bads (fun k => true && !(cov an (fun _ => true) its t k)) ks t with
      | true => rw [hb] at this; cases this
      | false =>
        rw [hb] at this
        rw [bads_fin (fun j dj wj hj => hall j (List.getElem?_eq_some_iff.1 hj).1) hb]
        simp only [cond_false] at this ⊢
        rcases slot_cases its t with hu | ⟨k, dk, wk, hk⟩
        · rw [looks_none hu] at this ⊢; exact this
        · rw [looks_at (okTs_ok H.ts).1 hk] at this ⊢
          simp only [Nat.zero_add] at this ⊢
          rw [hall k (List.getElem?_eq_some_iff.1 hk).1]; exact this
    · exfalso
      apply hall
      intro j hj
      have := count_zero (listed := listed) (by omega) j
      have hjl : j < listed.size := by rw [hc.size]; have := H.len; omega
      simp [hjl] at this ⊢
      exact this
  | succ fuel ih =>
    intro listed a w τ hc hf h2 hs hinv
    by_cases hall : ∀ j, j < its.length → listed.getD j false = true
    · refine draw_tail hA _ its.length (fuel + 1) listed a w ⟨σ.n, env', σ.bx⟩ rfl (Nat.le_refl _) H.len hc hf hall h2 (hs.weaken hinv.1.symm hinv.2.1.symm fun t d hd => hinv.2.2 t d ?_) hT
      have := lk_picks (f := afts an (fun _ => true) ks σ.env its) (l := live) (by rw [hE]; exact hd)
      unfold afts at this ⊢
      cases hb : bads (fun k => true && !(cov an (fun _ => true) its t k)) ks t with
      | true => rw [hb] at this; cases this
      | false =>
        rw [hb] at this
        rw [bads_fin (fun j dj wj hj => hall j (List.getElem?_eq_some_iff.1 hj).1) hb]
        simp only [cond_false] at this ⊢
        rcases slot_cases its t with hu | ⟨k, dk, wk, hk⟩
        · rw [looks_none hu] at this ⊢; exact this
        · rw [looks_at (okTs_ok H.ts).1 hk] at this ⊢
          simp only [Nat.zero_add] at this ⊢
          rw [hall k (List.getElem?_eq_some_iff.1 hk).1]; exact this
    · -- some one is not yet done
      have hsome : ∃ j, j < its.length ∧ listed.getD j true = false := by
        rcases Classical.not_forall.1 hall with ⟨j, hj⟩
        rcases Classical.not_imp.1 hj with ⟨hj1, hj2⟩
        refine ⟨j, hj1, ?_⟩
        have hjl : j < listed.size := by rw [hc.size]; have := H.len; omega
        simp [hjl] at hj2 ⊢
        exact hj2
      have key : ∀ n j, j = n → j < its.length → listed.getD j true = false → ∃ k, k ∈ Region.ready .any ops.toArray listed := by
        intro n
        induction n using Nat.strongRecOn with
        | _ n ihn =>
          intro j hjn hj hu
          have hjl : j < ops.length := Nat.lt_of_lt_of_le hj H.len
          have ho : ops[j]? = some ops[j] := List.getElem?_eq_getElem hjl
          by_cases hr : ∀ e ∈ ops[j].after, Region.binds .any e = true → listed.getD e.on false = true
          · exact ⟨j, mem_ready.2 ⟨hu, _, by simp, hr⟩⟩
          · rcases Classical.not_forall.1 hr with ⟨e, he⟩
            rcases Classical.not_imp.1 he with ⟨he1, he2⟩
            rcases Classical.not_imp.1 he2 with ⟨he3, he4⟩
            have hlt := (okAn_spec hA ho).1 e he1 he3
            refine ihn e.on (by omega) e.on rfl (by omega) ?_
            have hel : e.on < listed.size := by rw [hc.size]; omega
            simp [hel] at he4 ⊢
            exact he4
      obtain ⟨j0, hj0, hu0⟩ := hsome
      refine ⟨fun hr => ?_, fun i hi => ?_⟩
      · obtain ⟨k, hk⟩ := key j0 j0 rfl hj0 hu0
        rw [hr] at hk
        cases hk
      · obtain ⟨h3, oi, h4, h5⟩ := mem_ready.1 hi
        have ho : ops[i]? = some oi := by simpa using h4
        have hil : i < ops.length := (List.getElem?_eq_some_iff.1 ho).1
        have him : i < its.length := by
          rcases Nat.lt_or_ge i its.length with h | h
          · exact h
          · exfalso
            obtain ⟨_, h9⟩ := okAn_spec hA ho
            have hj0l : j0 < ops.length := Nat.lt_of_lt_of_le hj0 H.len
            obtain ⟨h10, h11⟩ := h9 j0 hj0l
            obtain ⟨e, he, hb, h12⟩ := h10 (h11 h (by omega))
            have hd := h5 e he hb
            have hkd : listed.getD j0 false = true := by
              rcases h12 with rfl | h12
              · exact hd
              · exact hc.anc hA e.on (by rw [← hc.size]; exact getD_true hd) hd j0 hj0l h12
            rw [(undone hu0).2] at hkd
            cases hkd
        have hsp := (okAn_spec hA ho).2
        have hif := (undone h3).2
        have hanc : ∀ j, j < ops.length → tb (nth an i) j = true → listed.getD j false = true := by
          intro j hj ht
          obtain ⟨e, he, hb, h1⟩ := (hsp j hj).1 ht
          have hd := h5 e he hb
          rcases h1 with rfl | h1
          · exact hd
          · exact hc.anc hA e.on (by rw [← hc.size]; exact getD_true hd) hd j hj h1
        have hnot : ∀ j, j < ops.length → tb (nth an j) i = true → listed.getD j false = false := by
          intro j hj ht
          cases hd : listed.getD j false with
          | false => rfl
          | true => have := hc.anc hA j hj hd i hil ht; rw [hif] at this; cases this
        suffices hK : ∀ a' w' τ', St C τ' a' w' → InvS σ an ks its (listed.setIfInBounds i true) τ' → wpAnyIn (Fx C) 3 P .any ops.toArray (fun e a' w' => ∃ σ', St C σ' a' w' ∧ Q e σ') fuel (listed.setIfInBounds i true) a' w' by
          unfold Go.wpOpIn
          simp only [h4]
          rcases draw_step H hc.size him ho h3 hanc hnot hs hinv hK with ⟨e1, e2⟩ | ⟨e1, e2⟩
          · simp only [e1, if_true]; exact e2
          · simp only [e1, Bool.false_eq_true, if_false]; exact ⟨fun _ _ => trivial, e2⟩
        intro a' w' τ' hs' hinv'
        refine ih _ a' w' τ' (hc.set ho h5) (by have := count_set h3; omega) (fun j hj hjl => ?_) hs' hinv'
        rw [getD_set_ne true (by omega)]
        exact h2 j hj hjl

theorem W.draw {id m n' : Nat} {bx' : List (Nat × Bx)} (hm : P.follows .mixedOrders = true) (hA0 : okAn ops an m = true) (hlen : its.length = m) (H : ItOk P C σ ops an ks kk its) {live : List Nat} {env' : List (Nat × D)} (hE : picks (afts an (fun _ => true) ks σ.env its) live = env')
    (hb : σ.bx = bx') (hn : σ.n = n') (hT : TL P C Q (ops.drop its.length) ⟨n', env', bx'⟩) : W P C (.region id ops.toArray true) Q σ := by
  intro a w hs
  refine wpIn_region_any hm ?_
  have hc : Cl ops (Array.replicate ops.toArray.size false) := ⟨by simp, fun i o _ hd => by
    have := getD_true hd
    simp at this
    simp [this] at hd⟩
  have hA : okAn ops an its.length = true := by rw [hlen]; exact hA0
  subst hb; subst hn
  refine draw_main hA H hE hT _ _ a _ σ hc ?_ ?_ (hs.ext (Ext.drew w)) ⟨rfl, rfl, fun u x hx => ?_⟩
  · simp
  · intro j _ hj; simp [hj]
  · unfold afts at hx
    generalize hb : bads _ ks u = bb at hx
    cases bb with
    | true => cases hx
    | false =>
      simp only [cond_false] at hx
      rcases slot_cases its u with hu | ⟨k, dk, wk, hk⟩
      · rw [looks_none hu] at hx; exact hx
      · rw [looks_at (okTs_ok H.ts).1 hk] at hx
        have e : (Array.replicate ops.toArray.size false).getD (0 + k) false = false := by
          simp only [Array.getD_eq_getD_getElem?, Array.getElem?_replicate]
          split <;> rfl
        rw [e] at hx
        exact hx

/-! ### the text's order -/
def upTo : Nat → Nat → List Nat
  | 0, _ => []
  | n + 1, m => m :: upTo n (2 * m + 1)

theorem nth_upTo (n m i : Nat) (h : i < n) : nth (upTo n (2 ^ m - 1)) i = 2 ^ (m + i) - 1 := by
  induction n generalizing m i with
  | zero => omega
  | succ n ih =>
    simp only [upTo]
    have e : 2 * (2 ^ m - 1) + 1 = 2 ^ (m + 1) - 1 := by
      have := Nat.two_pow_pos m
      rw [Nat.pow_succ]; omega
    cases i with
    | zero => rfl
    | succ i =>
      simp only [nth]
      rw [e, ih (m + 1) i (by omega), show m + 1 + i = m + (i + 1) by omega]
theorem nth_upTo_out (n m i : Nat) (h : n ≤ i) : nth (upTo n m) i = 0 := by
  induction n generalizing m i with
  | zero => cases i <;> rfl
  | succ n ih =>
    cases i with
    | zero => omega
    | succ i => simp only [upTo, nth]; exact ih _ _ (by omega)

theorem tb_full (i j : Nat) : tb (2 ^ i - 1) j = true ↔ j < i := by
  unfold tb
  have e : Nat.mod (Nat.div (2 ^ i - 1) (Nat.pow 2 j)) 2 = (2 ^ i - 1) / 2 ^ j % 2 := rfl
  rw [e, Nat.beq_eq]
  constructor
  · intro h
    rcases Nat.lt_or_ge j i with h1 | h1
    · exact h1
    · exfalso
      have h2 : (2 ^ i - 1) / 2 ^ j = 0 := Nat.div_eq_of_lt (by
        have := Nat.pow_le_pow_right (show 0 < 2 by omega) h1
        have := Nat.two_pow_pos i
        omega)
      rw [h2] at h; omega
  · intro h
    obtain ⟨k, rfl⟩ : ∃ k, i = j + (k + 1) := ⟨i - j - 1, by omega⟩
    have h2 : (2 ^ (j + (k + 1)) - 1) / 2 ^ j = 2 ^ (k + 1) - 1 := by
      rw [Nat.pow_add]
      have hp := Nat.two_pow_pos j
      have hq := Nat.two_pow_pos (k + 1)
      obtain ⟨q, hq'⟩ : ∃ q, 2 ^ (k + 1) = q + 1 := ⟨2 ^ (k + 1) - 1, by omega⟩
      rw [hq']
      have : 2 ^ j * (q + 1) - 1 = (2 ^ j - 1) + 2 ^ j * q := by rw [Nat.mul_add]; omega
      rw [this, Nat.add_mul_div_left _ _ hp, Nat.div_eq_of_lt (by omega)]
      omega
    rw [h2, Nat.pow_succ]
    have hq := Nat.two_pow_pos k
    omega

theorem tb_nth_upTo {n i j : Nat} : tb (nth (upTo n 0) i) j = true ↔ j < i ∧ i < n := by
  by_cases h : i < n
  · have := nth_upTo n 0 i h
    simp only [Nat.pow_zero, Nat.sub_self, Nat.zero_add] at this
    rw [this, tb_full]
    exact ⟨fun h1 => ⟨h1, h⟩, fun h1 => h1.1⟩
  · rw [nth_upTo_out n 0 i (by omega)]
    constructor
    · intro h1
      exfalso
      unfold tb at h1
      have e : Nat.mod (Nat.div 0 (Nat.pow 2 j)) 2 = 0 / 2 ^ j % 2 := rfl
      rw [e] at h1
      simp at h1
    · intro h1; omega

theorem TL.wpList {l : List Oper} (h : TL P C Q l σ) : WL P C ops.toArray l Q σ := by
  induction l generalizing σ with
  | nil =>
    obtain ⟨live, env', bx', n', p1, p2, p4, p3⟩ := h
    exact fun a w hs => ⟨_, hs.picks p1 p2 p4, p3⟩
  | cons o l ih =>
    obtain ⟨h1, σ', h2, h3⟩ := h
    exact WL.cons h1 h2 (ih h3)

theorem line_main {n : Nat} (hn : ops.length ≤ n) (H : ItOk P C σ ops (upTo n 0) ks kk its) {live : List Nat} {env' : List (Nat × D)} (hE : picks (afts (upTo n 0) (fun _ => true) ks σ.env its) live = env')
    (hT : TL P C Q (ops.drop its.length) ⟨σ.n, env', σ.bx⟩) : ∀ (l : List Oper) (k : Nat) (listed : Array Bool) (a : Act) (w : World) (τ : Sg), ops.drop k = l → k ≤ its.length → listed.size = ops.length →
    (∀ j, j < k → listed.getD j false = true) → (∀ j, k ≤ j → j < ops.length → listed.getD j true = false) → St C τ a w → InvS σ (upTo n 0) ks its listed τ →
    wpListIn (Fx C) 3 P ops.toArray (fun e a' w' => ∃ σ', St C σ' a' w' ∧ Q e σ') l a w := by
  intro l
  have fin : ∀ (listed : Array Bool) (τ : Sg) (a : Act) (w : World), (∀ j, j < its.length → listed.getD j false = true) → St C τ a w → InvS σ (upTo n 0) ks its listed τ → St C ⟨σ.n, env', σ.bx⟩ a w := by
    intro listed τ a w hall hs hinv
    refine hs.weaken hinv.1.symm hinv.2.1.symm fun t d hd => hinv.2.2 t d ?_
    have := lk_picks (f := afts (upTo n 0) (fun _ => true) ks σ.env its) (l := live) (by rw [hE]; exact hd)
    unfold afts at this ⊢
    cases hb : bads (fun k => true && !(cov (upTo n 0) (fun _ => true) its t k)) ks t with
    | true => rw [hb] at this; cases this
    | false =>
      rw [hb] at this
      rw [bads_fin (fun j dj wj hj => hall j (List.getElem?_eq_some_iff.1 hj).1) hb]
      simp only [cond_false] at this ⊢
      rcases slot_cases its t with hu | ⟨k, dk, wk, hk⟩
      · rw [looks_none hu] at this ⊢; exact this
      · rw [looks_at (okTs_ok H.ts).1 hk] at this ⊢
        simp only [Nat.zero_add] at this ⊢
        rw [hall k (List.getElem?_eq_some_iff.1 hk).1]; exact this
  induction l with
  | nil =>
    intro k listed a w τ hl hk hsz h1 h2 hs hinv
    have hkl : ops.length ≤ k := by
      have := congrArg List.length hl
      simp at this; omega
    have hke : k = its.length := by have := H.len; omega
    subst hke
    rw [hl] at hT
    obtain ⟨live, env', bx', n', p1, p2, p4, p3⟩ := hT
    exact ⟨_, (fin listed τ a w h1 hs hinv).picks p1 p2 p4, p3⟩
  | cons o l ih =>
    intro k listed a w τ hl hk hsz h1 h2 hs hinv
    by_cases hke : k = its.length
    · subst hke
      rw [← hl]
      exact hT.wpList (ops := ops) a w (fin listed τ a w h1 hs hinv)
    · have hki : k < its.length := by omega
      have hkl : k < ops.length := Nat.lt_of_lt_of_le hki H.len
      have hd := List.drop_eq_getElem_cons hkl
      rw [hd] at hl
      obtain ⟨ho, hl'⟩ := List.cons.inj hl
      have ho' : ops[k]? = some o := by rw [List.getElem?_eq_getElem hkl, ho]
      have hun := h2 k (Nat.le_refl _) hkl
      have hK : ∀ a' w' τ', St C τ' a' w' → InvS σ (upTo n 0) ks its (listed.setIfInBounds k true) τ' → wpListIn (Fx C) 3 P ops.toArray (fun e a' w' => ∃ σ', St C σ' a' w' ∧ Q e σ') l a' w' := by
        intro a' w' τ' hs' hinv'
        refine ih (k + 1) _ a' w' τ' hl' (by omega) (by simp [hsz]) (fun j hj => ?_) (fun j hj hjl => ?_) hs' hinv'
        · by_cases hjk : k = j
          · subst hjk; simp [hsz, hkl]
          · rw [getD_set_ne false hjk]; exact h1 j (by omega)
        · rw [getD_set_ne true (by omega)]; exact h2 j (by omega) hjl
      have hst := draw_step H hsz hki ho' hun (fun j hj ht => h1 j (tb_nth_upTo.1 ht).1) (fun j hj ht => by
        have := (tb_nth_upTo.1 ht).1
        exact (undone (h2 j (by omega) hj)).2) hs hinv hK (Q' := fun e a' w' => ∃ σ', St C σ' a' w' ∧ Q e σ')
      simp only [wpListIn]
      rcases hst with ⟨e1, e2⟩ | ⟨e1, e2⟩
      · simp only [e1, if_true]; exact e2
      · simp only [e1, Bool.false_eq_true, if_false]; exact ⟨fun _ _ => trivial, e2⟩

theorem W.line {id n n' : Nat} {bx' : List (Nat × Bx)} (hn : ops.length ≤ n) (H : ItOk P C σ ops (upTo n 0) ks kk its) {live : List Nat} {env' : List (Nat × D)} (hE : picks (afts (upTo n 0) (fun _ => true) ks σ.env its) live = env')
    (hb : σ.bx = bx') (hn' : σ.n = n') (hT : TL P C Q (ops.drop its.length) ⟨n', env', bx'⟩) : W P C (.region id ops.toArray false) Q σ := by
  subst hb; subst hn'
  intro a w hs
  refine wpIn_region_lit ?_
  refine line_main hn H hE hT ops 0 (Array.replicate ops.length false) a w σ rfl (Nat.zero_le _) (by simp) (fun j hj => absurd hj (Nat.not_lt_zero _)) (fun j _ hj => by simp [hj]) hs ⟨rfl, rfl, fun u x hx => ?_⟩
  unfold afts at hx
  generalize hb : bads _ ks u = bb at hx
  cases bb with
  | true => cases hx
  | false =>
    simp only [cond_false] at hx
    rcases slot_cases its u with hu | ⟨k, dk, wk, hk⟩
    · rw [looks_none hu] at hx; exact hx
    · rw [looks_at (okTs_ok H.ts).1 hk] at hx
      have e : (Array.replicate ops.length false).getD (0 + k) false = false := by
        simp only [Array.getD_eq_getD_getElem?, Array.getElem?_replicate]
        split <;> rfl
      rw [e] at hx
      exact hx

/-- fewer slots, said plainly -/
theorem W.drop {c : Code} {live : List Nat} {env' : List (Nat × D)} {bx' : List (Nat × Bx)} {n' : Nat} (hE : picks σ.get live = env') (hb : σ.bx = bx') (hn : σ.n = n') (h : W P C c Q ⟨n', env', bx'⟩) : W P C c Q σ := by
  intro a w hs
  refine h a w (hs.weaken hn.symm hb.symm fun t d hd => ?_)
  exact lk_picks (f := σ.get) (l := live) (by rw [hE]; exact hd)
end
end Go.Sx

namespace Go.Sx

variable {P : Program} {C : Ctx} {σ σ' σ1 : Sg} {a : Act} {w w' : World} {ρ : Nat → Nat} {Fe Fe' Fb : Nat → List Nat}

def seta {α : Type} (id : Nat) (b : α) : List (Nat × α) → List (Nat × α)
  | [] => []
  | (k, x) :: r => bif Nat.beq k id then (k, b) :: r else (k, x) :: seta id b r
theorem lk_seta {α : Type} (id : Nat) (b : α) (l : List (Nat × α)) (u : Nat) : lk (seta id b l) u = if u = id then (lk l u).map (fun _ => b) else lk l u := by
  induction l with
  | nil => simp [seta, lk]
  | cons x r ih =>
    obtain ⟨k, d⟩ := x
    simp only [seta]
    by_cases hk : k = id
    · subst hk
      simp only [Nat.beq_refl, cond_true, lk_cons]
      by_cases hu : k = u
      · subst hu; simp
      · simp [hu, show ¬ u = k from fun e => hu e.symm]
    · simp only [nbeq hk, cond_false, lk_cons, ih]
      by_cases hku : k = u
      · subst hku; simp [hk]
      · simp [hku]
/-- the same value, that stands for something else now -/
def Sg.upd (σ : Sg) (s : Nat) (d : D) : Sg := { σ with env := seta s d σ.env }
theorem get_upd (σ : Sg) (s : Nat) (d : D) (u : Nat) : (σ.upd s d).get u = if u = s then (σ.get u).map (fun _ => d) else σ.get u := by simp [Sg.get, Sg.upd, lk_seta]
@[simp] theorem box_upd (σ : Sg) (s : Nat) (d : D) (id : Nat) : (σ.upd s d).box id = σ.box id := rfl
@[simp] theorem n_upd (σ : Sg) (s : Nat) (d : D) : (σ.upd s d).n = σ.n := rfl

theorem SR_keep {G G' L L' : Nat → Prop} {u : Nat} {d : D} {F : List Nat} (h : SR w ρ G L a u d F)
    (hh : ∀ b, (G b ∨ b ∈ F) → b < w.heap.size → w'.heap[b]? = w.heap[b]?) (hg : ∀ b, G b → b < w.heap.size → G' b) (hL : ∀ i, L i → L' i)
    (hc : ∀ i off v, L i → w.cell? ⟨ρ i, off, none⟩ = some v → w'.cell? ⟨ρ i, off, none⟩ = some v) : SR w' ρ G' L' a u d F := by
  have hL2 : ∀ i, L i → L' i ∧ ρ i = ρ i := fun i hi => ⟨hL i hi, rfl⟩
  cases d with
  | al s => exact h
  | alb i off path =>
    obtain ⟨hF, hid, x, hx, hs⟩ := h
    exact ⟨hF, hL i hid, x, hx, hc i off x hid hs⟩
  | vw s z lo n => exact h
  | va i off z n path lo => exact ⟨h.1, hL i h.2.1, h.2.2⟩
  | ep s z i off path => exact h
  | tup ds =>
    obtain ⟨vs, Fs, h1, h2, h3, h4⟩ := h
    refine ⟨vs, Fs, h1, h2, h3, fun k hk => (h4 k hk).imp (fun hx => hx) fun hx => ⟨hx.1, hx.2.mono (fun b hb => hh b (hb.imp (fun hx => hx) fun hm => ?_)) hg hL2⟩⟩
    rw [h3]; exact List.mem_flatMap.2 ⟨k, List.mem_range.2 hk, hm⟩
  | dead => exact h
  | _ => obtain ⟨x, hx, hr⟩ := h; exact ⟨x, hx, hr.mono hh hg hL2⟩

/-- What slot s owns turns; its value stays. -/
theorem StW.turn {s : Nat} {d d' : D} {F : List Nat} (h : StW C σ a w ρ Fe Fb) (hg0 : σ.get s = some d)
    (hos : w'.os = w.os) (htape : w'.tape = w.tape) (hout : w'.output = w.output) (hsize : w.heap.size ≤ w'.heap.size)
    (hblk : ∀ b, b < w.heap.size → b ∉ Fe s → w'.heap[b]? = w.heap[b]?)
    (hF : F.Nodup) (hFs : ∀ b ∈ F, b ∈ Fe s ∨ w.heap.size ≤ b)
    (hv : SR w' ρ (gd C (Go.Sx.upd Fe s F) Fb) (fun id => (σ.box id).isSome) a s d' F) :
    StW C (σ.upd s d') a w' ρ (Go.Sx.upd Fe s F) Fb := by
  have hlt := h.lt
  have hso : ∀ b, b ∈ Fe s → own Fe Fb b := fun b hb => .inl ⟨s, hb⟩
  have ho : ∀ b, own (Go.Sx.upd Fe s F) Fb b → own Fe Fb b ∨ w.heap.size ≤ b := by
    rintro b (⟨u, hu⟩ | hid)
    · by_cases hus : u = s
      · subst hus; simp at hu; exact (hFs b hu).imp (hso b) id
      · rw [upd_other hus] at hu; exact .inl (.inl ⟨u, hu⟩)
    · exact .inl (.inr hid)
  have hg : ∀ b, gd C Fe Fb b → b < w.heap.size → gd C (Go.Sx.upd Fe s F) Fb b := fun b hb hl => ⟨hb.1, fun hc => by
    rcases ho b hc with h1 | h1
    · exact hb.2 h1
    · omega⟩
  have hh : ∀ b, gd C Fe Fb b → b < w.heap.size → w'.heap[b]? = w.heap[b]? := fun b hb hl => hblk b hl (fun hm => hb.2 (hso b hm))
  have hc : ∀ id off v, (σ.box id).isSome = true → w.cell? ⟨ρ id, off, none⟩ = some v → w'.cell? ⟨ρ id, off, none⟩ = some v := by
    intro id off v hid hc
    have hl := block_lt_of_cell hc
    rw [← hc]
    refine World.cell?_of_block (hblk _ hl ?_)
    intro hm
    cases hb : σ.box id with
    | none => simp [hb] at hid
    | some x => exact h.dEB s id _ hm (h.bx id x hb).mem
  refine ⟨h.size, h.defs, h.pin, ?_, ?_, ?_, h.bxN, ?_, h.nodB, ?_, ?_, h.dBB, ?_, ?_, hos.trans h.os, htape.trans h.tape, hout.trans h.output, Nat.le_trans h.grown hsize, h.gl, fun b hb => h.okN b (Nat.le_trans hsize hb), fun b hb => (ho b hb).elim (h.okO b) (fun h1 => h.okN b h1)⟩
  · intro u x hx
    rw [get_upd] at hx
    by_cases hus : u = s
    · subst hus
      simp [hg0] at hx
      subst hx
      rw [upd_same]; exact hv
    · simp only [hus, if_false] at hx
      rw [upd_other hus]
      exact SR_keep (h.env u x hx) (fun b hb hl => by
        rcases hb with hb | hb
        · exact hh b hb hl
        · exact hblk b hl (fun hm => h.dEE u s hus b hb hm)) hg (fun _ hi => hi) hc
  · intro u hu
    rw [get_upd] at hu
    by_cases hus : u = s
    · subst hus; simp [hg0] at hu
    · simp only [hus, if_false] at hu; rw [upd_other hus]; exact h.envN u hu
  · intro id x hx
    refine (h.bx id x hx).mono (fun b hb hl => ?_) hg (fun _ hi => ⟨hi, rfl⟩)
    rcases hb with hb | hb
    · exact hh b hb hl
    · exact hblk b hl (fun hm => h.dEB s id b hm hb)
  · intro u
    by_cases hus : u = s
    · subst hus; simpa using hF
    · rw [upd_other hus]; exact h.nodE u
  · intro u u' huu b hb hb'
    have key : ∀ u, u ≠ s → b ∈ Fe u → b ∈ F → False := by
      intro u hus hb hbF
      rcases hFs b hbF with h1 | h1
      · exact h.dEE u s hus b hb h1
      · have := hlt b (.inl ⟨u, hb⟩); omega
    by_cases hus : u = s
    · subst hus
      simp at hb
      rw [upd_other (fun e => huu e.symm)] at hb'
      exact key u' (fun e => huu e.symm) hb' hb
    · rw [upd_other hus] at hb
      by_cases hus' : u' = s
      · subst hus'; simp at hb'; exact key u hus hb hb'
      · rw [upd_other hus'] at hb'; exact h.dEE u u' huu b hb hb'
  · intro u id b hb hb'
    by_cases hus : u = s
    · subst hus; simp at hb
      rcases hFs b hb with h1 | h1
      · exact h.dEB u id b h1 hb'
      · have := hlt b (.inr ⟨id, hb'⟩); omega
    · rw [upd_other hus] at hb; exact h.dEB u id b hb hb'
  · intro b hb hk
    rcases ho b hb with h1 | h1
    · exact h.new b h1 hk
    · have := (h.kept b hk).2; have := h.grown; omega
  · intro b hk
    have hkb := h.kept b hk
    exact ⟨(hblk b (Nat.lt_of_lt_of_le hkb.2 h.grown) (fun hm => h.new b (hso b hm) hk)).trans hkb.1, hkb.2⟩

/-- whose slice slot s is -/
def ownr (σ : Sg) (s s0 : Nat) : Prop := s = s0 ∨ σ.get s = some (.al s0)

theorem ownr_val (st : StW C σ a w ρ Fe Fb) {s s0 e z : Nat} {l : List D} (h : ownr σ s s0) (hs : σ.get s0 = some (.sl (some e) z l)) :
    ∃ v, a.tmps[s]? = some v ∧ a.tmps[s0]? = some v ∧ Rc w ρ (gd C Fe Fb) (fun id => (σ.box id).isSome) true (.sl (some e) z l) [v] (Fe s0) := by
  obtain ⟨v, hv, hr⟩ := (SR_plain rfl).1 (st.env _ _ hs)
  simp only [VR, D.isAgg, Bool.false_eq_true, if_false] at hr
  rcases h with rfl | h
  · exact ⟨v, hv, hv, hr⟩
  · obtain ⟨_, x, h1, h2⟩ := st.env _ _ h
    rw [hv] at h2
    cases h2
    exact ⟨v, h1, hv, hr⟩

/-- an element is written -/
theorem Rc.updE {G L : Nat → Prop} {z i off : Nat} {path : List Nat} {l : List D} {d1 d' x : D} {cs xs : List Value} {Fs : Nat → List Nat} {Fx : List Nat}
    (hr : ∀ j (h : j < l.length), Rc w ρ G L false l[j] ((cs.drop (j * z)).take z) (Fs j)) (hF : ((List.range l.length).flatMap Fs).Nodup) (hlen : l.length * z ≤ cs.length) (hi : i < l.length)
    (hl : l[i].loc path = some (off, d1)) (hu : l[i].upd path x = some d') (hz : x.sz = d1.sz) (hx : Rc w ρ G L false x xs Fx) (hFx : Fx.Nodup) (hdis : ∀ b ∈ Fx, b ∉ (List.range l.length).flatMap Fs)
    (harr : Fx = [] ∨ l[i].noArr path = true) :
    i * z + off + xs.length ≤ cs.length ∧ ∃ Fs' : Nat → List Nat, (∀ j (h : j < (l.set i d').length), Rc w ρ G L false (l.set i d')[j] (((cs.take (i * z + off) ++ xs ++ cs.drop (i * z + off + xs.length)).drop (j * z)).take z) (Fs' j)) ∧
      (∀ b ∈ (List.range l.length).flatMap Fs', b ∈ (List.range l.length).flatMap Fs ∨ b ∈ Fx) ∧ ((List.range l.length).flatMap Fs').Nodup := by
  obtain ⟨hn1, hn2⟩ := flat_nodup hF
  have him : ∀ b ∈ Fs i, b ∈ (List.range l.length).flatMap Fs := fun b hb => List.mem_flatMap.2 ⟨i, List.mem_range.2 hi, hb⟩
  obtain ⟨F', h1, h2, h3, h4, h5⟩ := (hr i hi).upd hl hu hz hx (hn1 i hi) hFx (fun b hb hb' => hdis b hb (him b hb')) harr
  obtain ⟨_, _, _, hl3⟩ := (hr i hi).loc hl
  have hxl := hx.len
  have hkz : i * z + z ≤ l.length * z := by
    have := Nat.mul_le_mul_right z (show i + 1 ≤ l.length by omega)
    rw [Nat.add_mul] at this; omega
  have hel : ((cs.drop (i * z)).take z).length = z := by simp; omega
  have hxo : off + xs.length ≤ z := by omega
  refine ⟨by omega, fun j => if j = i then F' else Fs j, fun j hj => ?_, fun b hb => ?_, ?_⟩
  · have hj' : j < l.length := by simpa using hj
    by_cases hji : j = i
    · subst hji
      simp only [List.getElem_set_self, if_true]
      rw [splice_in _ _ _ _ _ (by omega) (by omega)]
      exact h1
    · simp only [List.getElem_set_ne (fun e => hji e.symm), hji, if_false]
      rw [splice_out _ _ _ _ _ (by omega) ?_]
      · exact hr j hj'
      · rcases Nat.lt_or_gt_of_ne hji with hlt | hlt
        · left
          have : (j + 1) * z ≤ i * z := Nat.mul_le_mul_right z hlt
          rw [Nat.add_mul] at this; omega
        · right
          have : (i + 1) * z ≤ j * z := Nat.mul_le_mul_right z hlt
          rw [Nat.add_mul] at this; omega
  · obtain ⟨j, hj, hm⟩ := List.mem_flatMap.1 hb
    by_cases hji : j = i
    · subst hji; simp at hm; exact (h2 b hm).imp (him b) id
    · simp only [hji, if_false] at hm
      exact .inl (List.mem_flatMap.2 ⟨j, hj, hm⟩)
  · refine flat_nodup_mk (fun j hj => ?_) (fun j k hj hk hjk b hb hb' => ?_)
    · by_cases hji : j = i
      · simp [hji, h3]
      · simp only [hji, if_false]; exact hn1 j hj
    · have key : ∀ m, m < l.length → m ≠ i → b ∈ Fs m → b ∈ F' → False := fun m hm hmi h6 h7 => by
        rcases h2 b h7 with h8 | h8
        · exact hn2 m i hm hi hmi b h6 h8
        · exact hdis b h8 (List.mem_flatMap.2 ⟨m, List.mem_range.2 hm, h6⟩)
      by_cases hji : j = i
      · subst hji
        simp only [if_true] at hb
        simp only [show ¬ k = j from fun e => hjk e.symm, if_false] at hb'
        exact key k hk (fun e => hjk e.symm) hb' hb
      · simp only [hji, if_false] at hb
        by_cases hki : k = i
        · simp only [hki, if_true] at hb'; exact key j hj hji hb hb'
        · simp only [hki, if_false] at hb'; exact hn2 j k hj hk hjk b hb hb'

/-- a store into an element of a slice of its own -/
theorem R.stE {p s s0 e z i off : Nat} {path : List Nat} {x : Operand} {l : List D} {d0 d1 d' dx : D} {ty n rt : TypeId} {gg : Bool} {pos : String} {aft : Array Edge} {g : Option (Nat × Bool)} [LdT P ty n gg]
    (h : σ.get p = some (.ep s z i off path)) (ho : ownr σ s s0) (hs : σ.get s0 = some (.sl (some e) z l)) (hi : l[i]? = some d0) (hl : d0.loc path = some (off, d1))
    (hx : ev C.gl σ x = some dx) (hxp : dx.pur = true) (hxn : dx.np = true) (hz : dx.sz = n) (hz1 : dx.sz = d1.sz) (hu : d0.upd path dx = some d') :
    OpS P C ⟨none, .store ty (.tmp p) x, rt, pos, aft, g⟩ σ (σ.upd s0 (.sl (some e) z (l.set i d'))) := by
  refine OpS.skip rfl fun a w ⟨ρ, Fe, Fb, st⟩ => ?_
  obtain ⟨v, hv, hv0, hr⟩ := ownr_val st ho hs
  obtain ⟨_, b, o, len, cap, h1, h2, h3⟩ := st.env _ _ h
  rw [hv] at h1
  cases h1
  obtain ⟨hilt, rfl⟩ := List.getElem?_eq_some_iff.1 hi
  generalize hFe : Fe s0 = F0 at hr
  have hnd := st.nodE s0
  rw [hFe] at hnd
  cases hr with
  | slE => exact absurd hilt (Nat.not_lt_zero _)
  | slO b cs e cap z l Fs hb hc hm hsz hr =>
  obtain ⟨hn1, hn2⟩ := List.nodup_cons.1 hnd
  obtain ⟨Fx, hvx, _⟩ := ev_ok st hx (pur_ref hxp)
  have hFx := hvx.pur hxp
  subst hFx
  have hdead : dx ≠ .dead := by rintro rfl; simp [D.pur] at hxp
  have hxc := hvx.cells hdead
  have hcl : l.length * z ≤ cs.toList.length := by
    have := Nat.mul_le_mul_right z hc
    simp; omega
  obtain ⟨hb1, Fs', g1, g2, g3⟩ := Rc.updE hr hn2 hcl hilt hl hu hz1 (hxc.unflag hxn) List.nodup_nil (by simp) (.inl rfl)
  have hlen := hxc.len
  have hvs : (a.eval x).cells.size = n := by simp at hlen; omega
  have hbl : b < w.heap.size := (Array.getElem?_eq_some_iff.1 hb).1
  simp only [Nat.zero_add] at h2
  have hin : ∀ y ∈ (List.range l.length).flatMap Fs', y ∈ (List.range l.length).flatMap Fs := fun y hy => (g2 y hy).resolve_right (by simp)
  refine ⟨w.setRow b (cs.toList.take (i * z + off) ++ (a.eval x).cells.toList ++ cs.toList.drop (i * z + off + (a.eval x).cells.toList.length)).toArray, ?_, ρ, _, Fb,
    st.turn (F := b :: (List.range l.length).flatMap Fs') hs rfl rfl rfl (by simp) (fun b' _ hb' => setRow_other w b b' _ (fun e => hb' (by rw [hFe, e]; simp))) ?_ ?_ ?_⟩
  · unfold execOp
    have hbnd : i * z + off + n ≤ cs.size := by simp at hb1; omega
    simp only [Instr.storeAt, Instr.sureAddr, eval_tmp h2, Sem.run_bind, Sem.run_pure, Result.andThen_ok, run_storeVar (P := P) (ty := ty) hb hvs hbnd hxc.one]
  · exact List.nodup_cons.2 ⟨fun hm' => hn1 (hin b hm'), g3⟩
  · intro y hy
    left
    rw [hFe]
    rcases List.mem_cons.1 hy with rfl | hy
    · simp
    · exact List.mem_cons_of_mem _ (hin y hy)
  · refine (SR_plain rfl).2 ⟨_, hv0, ?_⟩
    simp only [VR, D.isAgg, Bool.false_eq_true, if_false]
    have := Rc.slO (w := w.setRow b (cs.toList.take (i * z + off) ++ (a.eval x).cells.toList ++ cs.toList.drop (i * z + off + (a.eval x).cells.toList.length)).toArray) (ρ := ρ)
      (G := gd C (Go.Sx.upd Fe s0 (b :: (List.range l.length).flatMap Fs')) Fb) (L := fun id => (σ.box id).isSome) (p := true) b _ e cap z (l.set i d') Fs' (setRow_heap w b cs _ e (0, 0) hb) (by simpa using hc) hm
      (by
        simp only [List.size_toArray]
        rw [splice_len _ _ _ (by omega)]; simp [hsz]) (fun j hj => by
        have hj' : j < l.length := by simpa using hj
        refine (g1 j hj).mono (fun y hy hyl => setRow_other w b y _ ?_) (fun y hy _ => ⟨hy.1, fun ho' => hy.2 ?_⟩) (fun id hid => ⟨hid, rfl⟩)
        · rintro rfl
          rcases hy with hy | hy
          · exact hy.2 (.inl ⟨s0, by rw [hFe]; simp⟩)
          · exact hn1 (hin _ (List.mem_flatMap.2 ⟨j, List.mem_range.2 hj', hy⟩))
        · rcases ho' with ⟨u, hu'⟩ | hid
          · by_cases hus : u = s0
            · subst hus
              rw [upd_same] at hu'
              refine .inl ⟨u, ?_⟩
              rw [hFe]
              rcases List.mem_cons.1 hu' with rfl | hu'
              · simp
              · exact List.mem_cons_of_mem _ (hin y hu')
            · rw [upd_other hus] at hu'; exact .inl ⟨u, hu'⟩
          · exact .inr hid)
    simpa using this
end Go.Sx

namespace Go.Sx

variable {P : Program} {C : Ctx} {σ σ' σ1 : Sg} {a : Act} {w w' : World} {ρ : Nat → Nat} {Fe Fe' Fb : Nat → List Nat}

theorem part_left (xs r : List Value) (i n z : Nat) (hx : xs.length = n * z) (hi : i < n) : ((xs ++ r).drop (i * z)).take z = (xs.drop (i * z)).take z := by
  have : (i + 1) * z ≤ n * z := Nat.mul_le_mul_right z hi
  rw [Nat.add_mul] at this
  rw [List.drop_append_of_le_length (by omega), List.take_append_of_le_length (by simp; omega)]
theorem part_right (xs news r : List Value) (j n m z : Nat) (hx : xs.length = n * z) (hn : news.length = m * z) (hj : j < m) :
    ((xs ++ (news ++ r)).drop ((n + j) * z)).take z = (news.drop (j * z)).take z := by
  rw [show (n + j) * z = n * z + j * z from Nat.add_mul _ _ _, ← List.drop_drop, List.drop_left' hx]
  exact part_left news r j m z hn hj

def fjoin (n : Nat) (Fs Fs2 : Nat → List Nat) (i : Nat) : List Nat := if i < n then Fs i else Fs2 (i - n)

theorem fjoin_mem {n m : Nat} {Fs Fs2 : Nat → List Nat} {b : Nat} (h : b ∈ (List.range (n + m)).flatMap (fjoin n Fs Fs2)) : b ∈ (List.range n).flatMap Fs ∨ b ∈ (List.range m).flatMap Fs2 := by
  obtain ⟨i, hi, hm⟩ := List.mem_flatMap.1 h
  have hi' := List.mem_range.1 hi
  unfold fjoin at hm
  split at hm
  · rename_i h1; exact .inl (List.mem_flatMap.2 ⟨i, List.mem_range.2 h1, hm⟩)
  · exact .inr (List.mem_flatMap.2 ⟨i - n, List.mem_range.2 (by omega), hm⟩)

theorem fjoin_nodup {n m : Nat} {Fs Fs2 : Nat → List Nat} (h1 : ((List.range n).flatMap Fs).Nodup) (h2 : ((List.range m).flatMap Fs2).Nodup) (hd : ∀ b ∈ (List.range m).flatMap Fs2, b ∉ (List.range n).flatMap Fs) :
    ((List.range (n + m)).flatMap (fjoin n Fs Fs2)).Nodup := by
  obtain ⟨a1, a2⟩ := flat_nodup h1
  obtain ⟨b1, b2⟩ := flat_nodup h2
  refine flat_nodup_mk (fun i hi => ?_) (fun i j hi hj hij b hb hb' => ?_)
  · unfold fjoin; split
    · rename_i h; exact a1 i h
    · exact b1 (i - n) (by omega)
  · unfold fjoin at hb hb'
    split at hb <;> split at hb'
    · rename_i h h'; exact a2 i j h h' hij b hb hb'
    · rename_i h h'; exact hd b (List.mem_flatMap.2 ⟨_, List.mem_range.2 (by omega), hb'⟩) (List.mem_flatMap.2 ⟨_, List.mem_range.2 h, hb⟩)
    · rename_i h h'; exact hd b (List.mem_flatMap.2 ⟨_, List.mem_range.2 (by omega), hb⟩) (List.mem_flatMap.2 ⟨_, List.mem_range.2 h', hb'⟩)
    · rename_i h h'; exact b2 (i - n) (j - n) (by omega) (by omega) (by omega) b hb hb'

theorem slO_app {G L : Nat → Prop} {p : Bool} {b e z cap : Nat} {cur : Array Value} {xs news rest : List Value} {l l' : List D} {Fs Fs2 : Nat → List Nat} (hb : w.heap[b]? = some (.cells cur e (0, 0)))
    (hcur : cur.toList = xs ++ (news ++ rest)) (hx : xs.length = l.length * z) (hn : news.length = l'.length * z) (hsz : cur.size = cap * z) (hc : l.length + l'.length ≤ cap) (hm : cap ≤ maxLen)
    (hr1 : ∀ i (h : i < l.length), Rc w ρ G L false l[i] ((xs.drop (i * z)).take z) (Fs i)) (hr2 : ∀ j (h : j < l'.length), Rc w ρ G L false l'[j] ((news.drop (j * z)).take z) (Fs2 j)) :
    Rc w ρ G L p (.sl (some e) z (l ++ l')) [.slice (some ⟨b, 0, none⟩) (l.length + l'.length : Nat) cap] (b :: (List.range (l.length + l'.length)).flatMap (fjoin l.length Fs Fs2)) := by
  have := Rc.slO (w := w) (ρ := ρ) (G := G) (L := L) (p := p) b cur e cap z (l ++ l') (fjoin l.length Fs Fs2) hb (by simpa using hc) hm hsz (fun i hi => by
    rw [hcur]
    by_cases hil : i < l.length
    · simp only [List.getElem_append_left hil, fjoin, hil, if_true]
      rw [part_left _ _ _ _ _ hx hil]
      exact hr1 i hil
    · have hi' : i < l.length + l'.length := by simpa using hi
      simp only [List.getElem_append_right (Nat.le_of_not_lt hil), fjoin, hil, if_false]
      have e1 := part_right xs news rest (i - l.length) l.length l'.length z hx hn (by omega)
      rw [show l.length + (i - l.length) = i by omega] at e1
      rw [e1]
      exact hr2 (i - l.length) (by omega))
  simpa using this

/-- the world after own blocks turned -/
structure Turn (F : List Nat) (w w' : World) : Prop where
  os : w'.os = w.os
  tape : w'.tape = w.tape
  output : w'.output = w.output
  size : w.heap.size ≤ w'.heap.size
  blk : ∀ b, b < w.heap.size → b ∉ F → w'.heap[b]? = w.heap[b]?

theorem Turn.refl (F : List Nat) (w : World) : Turn F w w := ⟨rfl, rfl, rfl, Nat.le_refl _, fun _ _ _ => rfl⟩
theorem Turn.ofExt {F : List Nat} (h : Ext w w') : Turn F w w' := ⟨h.os, h.tape, h.output, h.size, fun b hb _ => h.block b hb⟩

theorem app_run {G L : Nat → Prop} {t e z bytes ty : Nat} [hT : SlT P t e] [hE : ElT P e z bytes] {d : D} {l l' : List D} {v : Value} {F : List Nat} {base : Option Addr} {cap2 : Nat} {news : List Value} {Fs2 : Nat → List Nat}
    (hd : Rc w ρ G L true d [v] F) (hdd : (d = .nils ∧ l = []) ∨ d = .sl (some e) z l) (hFn : F.Nodup)
    (hs : (base = none ∧ l' = [] ∧ cap2 = 0) ∨ ∃ a, base = some a ∧ ∀ j u, news[j]? = some u → w.cell? (a.add j) = some u) (hnl : news.length = l'.length * z) (h1 : ∀ u ∈ news, u.oneCell' = true)
    (hr2 : ∀ j (h : j < l'.length), Rc w ρ G L false l'[j] ((news.drop (j * z)).take z) (Fs2 j)) (hF2 : ((List.range l'.length).flatMap Fs2).Nodup) (hdis : ∀ b ∈ (List.range l'.length).flatMap Fs2, b ∉ F) (hGF : ∀ b, G b → b ∉ F)
    (hbytes : (l.length + l'.length) * bytes ≤ 140737488355328) (hmax : l.length + l'.length ≤ maxLen) :
    ∃ v' w' F', (Builtin.append_ #[t, t] ty #[v, .slice base l'.length cap2]).run P w = .ok v' w' ∧ Turn F w w' ∧ F'.Nodup ∧ (∀ b ∈ F', b ∈ F ∨ b ∈ (List.range l'.length).flatMap Fs2 ∨ w.heap.size ≤ b) ∧
      ∀ G', (∀ b, G b → b < w.heap.size → G' b) → Rc w' ρ G' L true (.sl (some e) z (l ++ l')) [v'] F' := by
  obtain ⟨i, zv, hi, hsz, hby, hz, hzs, hpos⟩ := hE.i
  have h63 : l.length + l'.length ≤ 9223372036854775807 := by simp only [maxLen] at hmax; omega
  -- the new block, when one is made
  have grow : ∀ (old : Nat) (xs : List Value) (Fs : Nat → List Nat), xs.length = l.length * z → (∀ j (h : j < l.length), Rc w ρ G L false l[j] ((xs.drop (j * z)).take z) (Fs j)) →
      ((List.range l.length).flatMap Fs).Nodup → (∀ b ∈ (List.range l.length).flatMap Fs, b ∈ F) →
      ∃ F', Turn F w (w.drew.alloc (.cells (xs.toArray ++ news.toArray ++ Builtin.zeroCells zv.cells (grownCap w (l.length + l'.length) old e - (l.length + l'.length))) e)) ∧ F'.Nodup ∧
        (∀ b ∈ F', b ∈ F ∨ b ∈ (List.range l'.length).flatMap Fs2 ∨ w.heap.size ≤ b) ∧
        ∀ G', (∀ b, G b → b < w.heap.size → G' b) → Rc (w.drew.alloc (.cells (xs.toArray ++ news.toArray ++ Builtin.zeroCells zv.cells (grownCap w (l.length + l'.length) old e - (l.length + l'.length))) e)) ρ G' L true
          (.sl (some e) z (l ++ l')) [.slice (some ⟨w.heap.size, 0, none⟩) (l.length + l'.length : Nat) (grownCap w (l.length + l'.length) old e)] F' := by
    intro old xs Fs hx hr hnd hsub
    have hge := grownCap_ge w (l.length + l'.length) old e
    have hcm : grownCap w (l.length + l'.length) old e ≤ maxLen := grownCap_le_maxLen w (l.length + l'.length) old e hmax
    have hext : Ext w (w.drew.alloc (.cells (xs.toArray ++ news.toArray ++ Builtin.zeroCells zv.cells (grownCap w (l.length + l'.length) old e - (l.length + l'.length))) e)) := (Ext.drew w).trans (Ext.alloc _ _)
    have hnew : ∀ b ∈ (List.range (l.length + l'.length)).flatMap (fjoin l.length Fs Fs2), b < w.heap.size := by
      intro b hb
      rcases fjoin_mem hb with h2 | h2
      · obtain ⟨j, hj, hm⟩ := List.mem_flatMap.1 h2
        exact (hr j (List.mem_range.1 hj)).lt b hm
      · obtain ⟨j, hj, hm⟩ := List.mem_flatMap.1 h2
        exact (hr2 j (List.mem_range.1 hj)).lt b hm
    refine ⟨w.heap.size :: (List.range (l.length + l'.length)).flatMap (fjoin l.length Fs Fs2), Turn.ofExt hext, ?_, ?_, fun G' hG' => ?_⟩
    · refine List.nodup_cons.2 ⟨fun hm => ?_, fjoin_nodup hnd hF2 (fun b hb hb' => hdis b hb (hsub b hb'))⟩
      have := hnew _ hm; omega
    · intro b hb
      rcases List.mem_cons.1 hb with rfl | hb
      · exact .inr (.inr (Nat.le_refl _))
      · rcases fjoin_mem hb with h2 | h2
        · exact .inl (hsub b h2)
        · exact .inr (.inl h2)
    · refine slO_app (xs := xs) (news := news) (rest := (Builtin.zeroCells zv.cells (grownCap w (l.length + l'.length) old e - (l.length + l'.length))).toList) (heap_alloc_new w.drew _) ?_ hx hnl ?_ hge hcm ?_ ?_
      · simp
      · simp only [Array.size_append, List.size_toArray, size_zeroCells, hzs, hx, hnl, ← Nat.add_mul]
        congr 1
        omega
      · exact fun j hj => (hr j hj).mono (fun b _ hl => hext.block b hl) hG' (fun id hid => ⟨hid, rfl⟩)
      · exact fun j hj => (hr2 j hj).mono (fun b _ hl => hext.block b hl) hG' (fun id hid => ⟨hid, rfl⟩)
  -- nothing is added
  have stay : ∀ (b cap : Nat) (cs : Array Value) (Fs : Nat → List Nat), l' = [] → True := fun _ _ _ _ _ => trivial
  have nilcase : v = .slice none 0 0 → l = [] → F = [] →
      ∃ v' w' F', (Builtin.append_ #[t, t] ty #[v, .slice base l'.length cap2]).run P w = .ok v' w' ∧ Turn F w w' ∧ F'.Nodup ∧ (∀ b ∈ F', b ∈ F ∨ b ∈ (List.range l'.length).flatMap Fs2 ∨ w.heap.size ≤ b) ∧
      ∀ G', (∀ b, G b → b < w.heap.size → G' b) → Rc w' ρ G' L true (.sl (some e) z (l ++ l')) [v'] F' := by
    rintro rfl rfl rfl
    by_cases hm : l'.length = 0
    · have hl0 : l' = [] := List.length_eq_zero_iff.1 hm
      subst hl0
      have hn0 : news = [] := List.length_eq_zero_iff.1 (by simpa using hnl)
      subst hn0
      refine ⟨.slice none 0 0, w, [], ?_, Turn.refl _ _, List.nodup_nil, by simp, fun G' _ => ?_⟩
      · rcases hs with ⟨rfl, _, rfl⟩ | ⟨a, rfl, _⟩ <;>
          simp [Builtin.append_, run_underlying hT.u, sizeOf, typeInfo, hi, Builtin.lenOf, Builtin.firstCells, loadCells, loadCellsFrom]
      · exact .slN (some e) z
    · rcases hs with ⟨_, rfl, _⟩ | ⟨a, rfl, hnews⟩
      · simp at hm
      · have hr := run_append_nil (P := P) w t ty e i zv hT.u hi hz a l'.length cap2 news (by rw [hsz]; exact hnl) hnews (by omega) (by simp at h63; omega) (by rw [hby]; simp at hbytes; omega)
        obtain ⟨F', q1, q2, q3, q4⟩ := grow 0 [] (fun _ => []) (by simp) (fun j hj => by simp at hj) (by simp) (by simp)
        simp only [List.length_nil, Nat.zero_add, List.nil_append] at q1 q2 q3 q4 ⊢
        have e0 : (#[] : Array Value) ++ news.toArray = news.toArray := by simp
        simp only [e0] at q1 q4
        exact ⟨_, _, F', hr, q1, q2, q3, q4⟩
  have empcase : ∀ a0 : Addr, v = .slice (some a0) 0 0 → l = [] → F = [] →
      ∃ v' w' F', (Builtin.append_ #[t, t] ty #[v, .slice base l'.length cap2]).run P w = .ok v' w' ∧ Turn F w w' ∧ F'.Nodup ∧ (∀ b ∈ F', b ∈ F ∨ b ∈ (List.range l'.length).flatMap Fs2 ∨ w.heap.size ≤ b) ∧
      ∀ G', (∀ b, G b → b < w.heap.size → G' b) → Rc w' ρ G' L true (.sl (some e) z (l ++ l')) [v'] F' := by
    rintro a0 rfl rfl rfl
    by_cases hm : l'.length = 0
    · have hl0 : l' = [] := List.length_eq_zero_iff.1 hm
      subst hl0
      have hn0 : news = [] := List.length_eq_zero_iff.1 (by simpa using hnl)
      subst hn0
      refine ⟨.slice (some a0) 0 0, w, [], ?_, Turn.refl _ _, List.nodup_nil, by simp, fun G' _ => ?_⟩
      · rcases hs with ⟨rfl, _, rfl⟩ | ⟨a, rfl, _⟩ <;>
          simp [Builtin.append_, run_underlying hT.u, sizeOf, typeInfo, hi, Builtin.lenOf, Builtin.firstCells, loadCells, loadCellsFrom, storeCells]
      · exact .slE (some e) z a0
    · rcases hs with ⟨_, rfl, _⟩ | ⟨a, rfl, hnews⟩
      · simp at hm
      · have hgz : Builtin.nextslicecap (0 + l'.length) 0 * i.bytes ≤ 281474976710656 := by
          rw [Nat.zero_add, nextslicecap_zero (by omega)]; rw [hby]; simp at hbytes; omega
        have hr := run_append_grow (P := P) (w := w) t ty e i zv hT.u hi hz a0 0 0 [] (by simp) (by simp) a l'.length cap2 news (by rw [hsz]; exact hnl) hnews (by omega) (by simp at h63; omega) hgz
        obtain ⟨F', q1, q2, q3, q4⟩ := grow 0 [] (fun _ => []) (by simp) (fun j hj => by simp at hj) (by simp) (by simp)
        simp only [List.length_nil, Nat.zero_add, List.nil_append] at hr q1 q2 q3 q4 ⊢
        exact ⟨_, _, F', hr, q1, q2, q3, q4⟩
  rcases hdd with ⟨rfl, rfl⟩ | rfl
  · have hv := hd.nil_val
    subst hv
    have hF := hd.pur rfl
    exact nilcase rfl rfl hF
  · generalize hvv : [v] = cv at hd
    cases hd with
    | slN o z =>
      cases hvv
      exact nilcase rfl rfl rfl
    | slE o z a0 =>
      cases hvv
      exact empcase a0 rfl rfl rfl
    | slO b cs e cap z l Fs hb hc hcm hcs hr =>
      cases hvv
      obtain ⟨hn1, hn2⟩ := List.nodup_cons.1 hFn
      have hbl : b < w.heap.size := (Array.getElem?_eq_some_iff.1 hb).1
      have hxl : (cs.toList.take (l.length * z)).length = l.length * z := by
        have := Nat.mul_le_mul_right z hc
        simp; omega
      have hrx : ∀ j (h : j < l.length), Rc w ρ G L false l[j] (((cs.toList.take (l.length * z)).drop (j * z)).take z) (Fs j) := fun j hj => by
        have e1 := part_left (cs.toList.take (l.length * z)) (cs.toList.drop (l.length * z)) j l.length z hxl hj
        rw [List.take_append_drop] at e1
        rw [← e1]; exact hr j hj
      rcases hs with ⟨rfl, rfl, rfl⟩ | ⟨a, rfl, hnews⟩
      · refine ⟨_, w, b :: (List.range l.length).flatMap Fs, run_append_owned_none (P := P) (w := w) 0 t ty e i z hT.u hi _ l.length (cs.toList.take (l.length * z)) ⟨hxl, .inr ⟨b, cap, cs, rfl, Nat.zero_le _, hb, hc, hcm, hcs, rfl⟩⟩,
          Turn.refl _ _, hFn, fun b hb => .inl hb, fun G' hG' => ?_⟩
        rw [List.append_nil]
        exact (Rc.slO (w := w) (ρ := ρ) (G := G) (L := L) (p := true) b cs e cap z l Fs hb hc hcm hcs hr).mono (fun _ _ _ => rfl) hG' (fun id hid => ⟨hid, rfl⟩)
      · by_cases hroom : l.length + l'.length ≤ cap
        · have hfit : l.length * i.size + news.length ≤ cs.size := by rw [hnl, hcs, hsz, ← Nat.add_mul]; exact Nat.mul_le_mul_right _ hroom
          have hrun := run_append_room (P := P) w t ty e i hT.u hi b l.length cap cs hb a l'.length cap2 news (by rw [hsz]; exact hnl) hnews h1 hroom hfit
          rw [hsz] at hrun hfit
          have hdb : ∀ b', b' ∈ (List.range l'.length).flatMap Fs2 → b' ≠ b := fun b' hb' he => hdis b' hb' (by simp [he])
          refine ⟨_, _, b :: (List.range (l.length + l'.length)).flatMap (fjoin l.length Fs Fs2), hrun, ⟨rfl, rfl, rfl, by simp, fun b' _ hb' => setRow_other w b b' _ (fun e => hb' (by simp [e]))⟩, ?_, ?_, fun G' hG' => ?_⟩
          · refine List.nodup_cons.2 ⟨fun hm => ?_, fjoin_nodup hn2 hF2 (fun b hb hb' => hdis b hb (List.mem_cons_of_mem _ hb'))⟩
            rcases fjoin_mem hm with h2 | h2
            · exact hn1 h2
            · exact hdb _ h2 rfl
          · intro b' hb'
            rcases List.mem_cons.1 hb' with rfl | hb'
            · exact .inl (by simp)
            · rcases fjoin_mem hb' with h2 | h2
              · exact .inl (List.mem_cons_of_mem _ h2)
              · exact .inr (.inl h2)
          · refine slO_app (xs := cs.toList.take (l.length * z)) (news := news) (rest := cs.toList.drop (l.length * z + news.length)) (setRow_heap w b cs _ e (0, 0) hb) (by simp) hxl hnl ?_ hroom hcm ?_ ?_
            · simp only [List.size_toArray, List.length_append, List.length_take, List.length_drop, Array.length_toList]
              omega
            · exact fun j hj => (hrx j hj).mono (fun b' hb' _ => setRow_other w b b' _ (by
                rintro rfl
                rcases hb' with hb' | hb'
                · exact hGF _ hb' (by simp)
                · exact hn1 (List.mem_flatMap.2 ⟨j, List.mem_range.2 hj, hb'⟩))) hG' (fun id hid => ⟨hid, rfl⟩)
            · exact fun j hj => (hr2 j hj).mono (fun b' hb' _ => setRow_other w b b' _ (by
                rintro rfl
                rcases hb' with hb' | hb'
                · exact hGF _ hb' (by simp)
                · exact hdb _ (List.mem_flatMap.2 ⟨j, List.mem_range.2 hj, hb'⟩) rfl)) hG' (fun id hid => ⟨hid, rfl⟩)
        · have holds : ∀ j u, (cs.toList.take (l.length * z))[j]? = some u → w.cell? ((⟨b, 0, none⟩ : Addr).add j) = some u := by
            intro j u hu
            rw [add_lit, cell_of_row w b _ cs e (0, 0) hb]
            rw [List.getElem?_take] at hu
            split at hu
            · simpa using hu
            · cases hu
          have hrun := run_append_grow (P := P) w t ty e i zv hT.u hi hz ⟨b, 0, none⟩ l.length cap (cs.toList.take (l.length * z)) (by rw [hsz]; exact hxl) holds a l'.length cap2 news (by rw [hsz]; exact hnl) hnews (by omega) (by omega)
            (growslice_fits (by omega) (by rw [hby]; exact hbytes))
          obtain ⟨F', q1, q2, q3, q4⟩ := grow cap (cs.toList.take (l.length * z)) Fs hxl hrx hn2 (fun b' hb' => List.mem_cons_of_mem _ hb')
          exact ⟨_, _, F', hrun, q1, q2, q3, q4⟩
end Go.Sx

namespace Go.Sx

variable {P : Program} {C : Ctx} {σ σ' σ1 : Sg} {a : Act} {w w' : World} {ρ : Nat → Nat} {Fe Fe' Fb : Nat → List Nat}

theorem in_part {news : List Value} {m z : Nat} (hl : news.length = m * z) {u : Value} (hu : u ∈ news) : ∃ j, j < m ∧ u ∈ (news.drop (j * z)).take z := by
  obtain ⟨k, hk, rfl⟩ := List.mem_iff_getElem.1 hu
  have hz : 0 < z := by
    rcases Nat.eq_zero_or_pos z with rfl | h
    · simp at hl; subst hl; simp at hk
    · exact h
  have h1 : k < m * z := by omega
  have h2 : k / z < m := Nat.div_lt_of_lt_mul (by rw [Nat.mul_comm]; exact h1)
  refine ⟨k / z, h2, ?_⟩
  have h3 := Nat.div_add_mod k z
  have h4 := Nat.mod_lt k hz
  rw [Nat.mul_comm] at h3
  refine List.mem_iff_getElem?.2 ⟨k % z, ?_⟩
  rw [List.getElem?_take, if_pos h4, List.getElem?_drop, show k / z * z + k % z = k by omega]
  exact List.getElem?_eq_getElem hk

theorem flat0 (n : Nat) : (List.range n).flatMap (fun _ => ([] : List Nat)) = [] := by rw [List.flatMap_eq_nil_iff]; intros; rfl
theorem flat0_nd (n : Nat) : ((List.range n).flatMap (fun _ => ([] : List Nat))).Nodup := by rw [flat0]; exact List.nodup_nil
theorem flat0_dis (n : Nat) (F : List Nat) : ∀ b ∈ (List.range n).flatMap (fun _ => ([] : List Nat)), b ∉ F := by rw [flat0]; intro b hb; cases hb

/-- what is read from a slice -/
theorem src_ok {G L : Nat → Prop} {base : Option Addr} {len cap z : Nat} {l : List D} (h : SlR w ρ G L base len cap z l) (hp : ∀ y ∈ l, y.pur = true) :
    len = l.length ∧ ∃ news : List Value, ((base = none ∧ l = [] ∧ cap = 0) ∨ ∃ a, base = some a ∧ ∀ j u, news[j]? = some u → w.cell? (a.add j) = some u) ∧ news.length = l.length * z ∧ (∀ u ∈ news, u.oneCell' = true) ∧
      ∀ j (h : j < l.length), Rc w ρ G L false l[j] ((news.drop (j * z)).take z) [] := by
  obtain ⟨rfl, h⟩ := h
  refine ⟨rfl, ?_⟩
  rcases h with ⟨h1, rfl⟩ | ⟨b, o, cs, e, fz, rfl, hb, hc, hs, hr⟩
  · have : l = [] := List.length_eq_zero_iff.1 h1
    subst this
    cases base with
    | none => exact ⟨[], .inl ⟨rfl, rfl, rfl⟩, by simp, by simp, fun j hj => by simp at hj⟩
    | some a => exact ⟨[], .inr ⟨a, rfl, by simp⟩, by simp, by simp, fun j hj => by simp at hj⟩
  · have hl : ((cs.toList.drop o).take (l.length * z)).length = l.length * z := by simp; omega
    have hr2 : ∀ j (h : j < l.length), Rc w ρ G L false l[j] ((((cs.toList.drop o).take (l.length * z)).drop (j * z)).take z) [] := by
      intro j hj
      obtain ⟨F, hF⟩ := hr j hj
      have hFn := hF.pur (hp _ (List.getElem_mem hj))
      subst hFn
      have : j * z + z ≤ l.length * z := by
        have := Nat.mul_le_mul_right z (show j + 1 ≤ l.length by omega)
        rw [Nat.add_mul] at this; omega
      rw [sub_sub _ _ _ _ _ this]
      exact hF
    refine ⟨(cs.toList.drop o).take (l.length * z), .inr ⟨_, rfl, fun j u hu => ?_⟩, hl, fun u hu => ?_, hr2⟩
    · rw [add_lit, cell_of_row w b _ cs e fz hb]
      rw [List.getElem?_take] at hu
      split at hu
      · rw [List.getElem?_drop] at hu; simpa using hu
      · cases hu
    · obtain ⟨j, hj, hm⟩ := in_part hl hu
      exact (hr2 j hj).one u hm

/-- an operand that is a slice of what owns nothing -/
inductive SrcO (gl : List (Nat × D)) (σ : Sg) : Operand → Nat → List D → Prop
  | sc {t z : Nat} {l : List D} (h : SC σ t z l) (hp : ∀ y ∈ l, y.pur = true) : SrcO gl σ (.tmp t) z l
  | nil {x : Operand} {z : Nat} (h : ev gl σ x = some .nils) : SrcO gl σ x z []

theorem SrcO.ok (st : StW C σ a w ρ Fe Fb) {x : Operand} {z : Nat} {l : List D} (h : SrcO C.gl σ x z l) :
    ∃ base cap, a.eval x = .slice base l.length cap ∧ SlR w ρ (gd C Fe Fb) (fun id => (σ.box id).isSome) base l.length cap z l ∧ ∀ y ∈ l, y.pur = true := by
  cases h with
  | sc h hp =>
    obtain ⟨base, len, cap, hv, hr⟩ := SC_ok st h
    have := hr.1
    subst this
    exact ⟨base, cap, eval_tmp hv, hr, hp⟩
  | nil h =>
    obtain ⟨F, hv, _⟩ := ev_ok st h rfl
    simp only [VR, D.isAgg, Bool.false_eq_true, if_false] at hv
    refine ⟨none, 0, hv.nil_val, ⟨rfl, .inl ⟨rfl, rfl⟩⟩, by simp⟩

theorem fits {n bytes : Nat} (hby : bytes ≤ 131072) (hn : n ≤ 1073741824) : n * bytes ≤ 140737488355328 ∧ n ≤ maxLen := by
  refine ⟨?_, by simp only [maxLen]; omega⟩
  calc n * bytes ≤ 1073741824 * 131072 := Nat.mul_le_mul hn hby
    _ ≤ 140737488355328 := by decide

/-- append to a slice of its own -/
theorem R.app {s s0 t e z bytes : Nat} {x : Operand} {l l' : List D} {ty rt : TypeId} {pos : String} {aft : Array Edge} {g : Option (Nat × Bool)} [hT : SlT P ty e] [hE : ElT P e z bytes]
    (ho : ownr σ s s0) (hs : σ.get s0 = some (.sl (some e) z l)) (hx : SrcO C.gl σ x z l') (hn : l.length + l'.length ≤ 1073741824) (ht : t < σ.n) (hst : s0 ≠ t) (hby : bytes ≤ 131072) :
    OpS P C ⟨some t, .call { callee := .builtin .append, args := #[.tmp s, x], argTypes := #[ty, ty] }, rt, pos, aft, g⟩ σ ((σ.kill s0).set t (.sl (some e) z (l ++ l'))) := by
  refine OpS.value fun a w ⟨ρ, Fe, Fb, st⟩ => ?_
  obtain ⟨v, hv, hv0, hr⟩ := ownr_val st ho hs
  obtain ⟨base, cap, hxe, hsr, hp⟩ := hx.ok st
  obtain ⟨_, news, q1, q2, q3, q4⟩ := src_ok hsr hp
  obtain ⟨f1, f2⟩ := fits hby hn
  obtain ⟨v', w', F', hrun, ht', hnd, hsub, hres⟩ := app_run (P := P) (t := ty) (e := e) (bytes := bytes) (ty := rt) (Fs2 := fun _ => []) hr (.inr rfl) (st.nodE s0) q1 q2 q3 q4 (flat0_nd _) (flat0_dis _ _) (fun b hb hm => hb.2 (.inl ⟨s0, hm⟩)) f1 f2
  refine ⟨v', w', ?_, ρ, _, Fb, st.take (F := F') ht hst hs ht'.os ht'.tape ht'.output ht'.size ht'.blk hnd (fun b hb => ?_) ((SR_plain rfl).2 ⟨v', by rw [put_get a t _ t (by rw [st.size]; exact ht)]; simp, ?_⟩)⟩
  · unfold execOp
    simp [resolve, invoke, builtin, eval_tmp hv, hxe, hrun]
  · rcases hsub b hb with h | h | h
    · exact .inl h
    · simp at h
    · exact .inr h
  · simp only [VR, D.isAgg, Bool.false_eq_true, if_false]
    refine hres _ (fun b hb hl => ⟨hb.1, fun hc => ?_⟩)
    rcases hc with ⟨u, hu⟩ | hid
    · by_cases hut : u = t
      · subst hut
        simp at hu
        rcases hsub b hu with h | h | h
        · exact hb.2 (.inl ⟨s0, h⟩)
        · simp at h
        · omega
      · rw [upd_other hut] at hu
        by_cases hus : u = s0
        · subst hus; simp at hu
        · rw [upd_other hus] at hu; exact hb.2 (.inl ⟨u, hu⟩)
    · exact hb.2 (.inr hid)

/-- append to no slice -/
theorem R.appN {t e z bytes : Nat} {d x : Operand} {l' : List D} {ty rt : TypeId} {pos : String} {aft : Array Edge} {g : Option (Nat × Bool)} [hT : SlT P ty e] [hE : ElT P e z bytes]
    (hd : ev C.gl σ d = some .nils) (hx : SrcO C.gl σ x z l') (hn : l'.length ≤ 1073741824) (ht : t < σ.n) (hby : bytes ≤ 131072) :
    OpS P C ⟨some t, .call { callee := .builtin .append, args := #[d, x], argTypes := #[ty, ty] }, rt, pos, aft, g⟩ σ (σ.set t (.sl (some e) z l')) := by
  refine OpS.value fun a w ⟨ρ, Fe, Fb, st⟩ => ?_
  obtain ⟨Fd, hdv, _⟩ := ev_ok st hd rfl
  have hFd := hdv.pur rfl
  subst hFd
  simp only [VR, D.isAgg, Bool.false_eq_true, if_false] at hdv
  obtain ⟨base, cap, hxe, hsr, hp⟩ := hx.ok st
  obtain ⟨_, news, q1, q2, q3, q4⟩ := src_ok hsr hp
  obtain ⟨f1, f2⟩ := fits (n := ([] : List D).length + l'.length) hby (by simpa using hn)
  obtain ⟨v', w', F', hrun, ht', hnd, hsub, hres⟩ := app_run (P := P) (t := ty) (e := e) (bytes := bytes) (ty := rt) (Fs2 := fun _ => []) hdv (.inl ⟨rfl, rfl⟩) List.nodup_nil q1 q2 q3 q4 (flat0_nd _) (flat0_dis _ _) (fun _ _ h => by cases h) f1 f2
  have hnew : ∀ b ∈ F', w.heap.size ≤ b := fun b hb => by
    rcases hsub b hb with h | h | h
    · cases h
    · simp at h
    · exact h
  have hext : Ext w w' := ⟨ht'.os, ht'.tape, ht'.output, ht'.size, fun b hb => ht'.blk b hb (by simp)⟩
  refine ⟨v', w', ?_, ρ, _, Fb, st.ext (F := F') ht hext hnd hnew ((SR_plain rfl).2 ⟨v', by rw [put_get a t _ t (by rw [st.size]; exact ht)]; simp, ?_⟩)⟩
  · unfold execOp
    simp [resolve, invoke, builtin, hxe, hrun]
  · simp only [VR, D.isAgg, Bool.false_eq_true, if_false]
    refine hres _ (fun b hb hl => ⟨hb.1, fun hc => ?_⟩)
    rcases hc with ⟨u, hu⟩ | hid
    · by_cases hut : u = t
      · subst hut
        simp at hu
        have := hnew b hu
        omega
      · rw [upd_other hut] at hu; exact hb.2 (.inl ⟨u, hu⟩)
    · exact hb.2 (.inr hid)

/-! ### new slices -/
theorem StW.newSl {t e z : Nat} {l : List D} {cs : Array Value} (st : StW C σ a w ρ Fe Fb) (ht : t < σ.n) (hl : l.length ≤ maxLen) (hs : cs.size = l.length * z)
    (hr : ∀ i (h : i < l.length), Rc w ρ (gd C Fe Fb) (fun id => (σ.box id).isSome) false l[i] ((cs.toList.drop (i * z)).take z) []) :
    St C (σ.set t (.sl (some e) z l)) (a.put (some t) (.slice (some ⟨w.heap.size, 0, none⟩) l.length l.length)) (w.alloc (.cells cs e)) := by
  have hlt := st.lt
  refine ⟨ρ, upd Fe t [w.heap.size], Fb, st.ext ht (Ext.alloc w _) (by simp) (by simp) ((SR_plain rfl).2 ⟨.slice (some ⟨w.heap.size, 0, none⟩) l.length l.length, by rw [put_get a t _ t (by rw [st.size]; exact ht)]; simp, ?_⟩)⟩
  simp only [VR, D.isAgg, Bool.false_eq_true, if_false]
  have := Rc.slO (w := w.alloc (.cells cs e)) (ρ := ρ) (G := gd C (upd Fe t [w.heap.size]) Fb) (L := fun id => (σ.box id).isSome) (p := true) w.heap.size cs e l.length z l (fun _ => []) (heap_alloc_new w _) (Nat.le_refl _) hl hs
    (fun i hi => (hr i hi).mono (fun b _ hb => heap_alloc_old w _ hb) (fun b hb hbl => ⟨hb.1, fun hc => by
      rcases hc with ⟨u, hu⟩ | hid
      · by_cases hut : u = t
        · subst hut; simp at hu; omega
        · rw [upd_other hut] at hu; exact hb.2 (.inl ⟨u, hu⟩)
      · exact hb.2 (.inr hid)⟩) (fun id hid => ⟨hid, rfl⟩))
  have e0 : (List.range l.length).flatMap (fun _ => ([] : List Nat)) = [] := by rw [List.flatMap_eq_nil_iff]; intros; rfl
  rw [e0] at this
  exact this

/-- the parts' values -/
def evs (gl : List (Nat × D)) (σ : Sg) : List (Nat × Operand) → Nat → Option (List D)
  | [], _ => some []
  | (i, x) :: r, k => bif Nat.beq i k then (match ev gl σ x with
    | some d => match evs gl σ r (k + 1) with
      | some ds => some (d :: ds)
      | none => none
    | none => none) else none

def PurZ (z : Nat) : List D → Prop
  | [] => True
  | d :: r => (d.pur = true ∧ d.np = true ∧ d.sz = z) ∧ PurZ z r

theorem foldl_set (cs : Array Value) (vs : List Value) (off k : Nat) (h : off + k + vs.length ≤ cs.size) :
    ((vs.zipIdx k).foldl (fun (c : Array Value) (p : Value × Nat) => c.setIfInBounds (off + p.2) p.1) cs).toList = cs.toList.take (off + k) ++ vs ++ cs.toList.drop (off + k + vs.length) := by
  induction vs generalizing cs k with
  | nil => simp
  | cons v vs ih =>
    simp only [List.zipIdx_cons, List.foldl_cons]
    simp only [List.length_cons] at h
    rw [ih _ _ (by simp; omega)]
    simp only [Array.toList_setIfInBounds]
    apply List.ext_getElem?
    intro j
    simp only [List.append_assoc, List.getElem?_append, List.length_take, List.length_set, Array.length_toList, List.getElem?_take, List.getElem?_set, List.length_cons, List.getElem?_drop, List.cons_append]
    have e1 : min (off + (k + 1)) cs.size = off + k + 1 := by omega
    have e2 : min (off + k) cs.size = off + k := by omega
    rw [e1, e2]
    rcases Nat.lt_trichotomy j (off + k) with h1 | h1 | h1
    · simp [h1, show j < off + k + 1 by omega, show ¬ off + k = j by omega, show j < off + (k + 1) by omega]
    · subst h1
      simp [show off + k < off + k + 1 by omega, show off + k < off + (k + 1) by omega, show off + k < cs.size by omega]
    · simp only [show ¬ j < off + k + 1 by omega, show ¬ j < off + k by omega, if_false]
      have e3 : j - (off + k) = (j - (off + k + 1)) + 1 := by omega
      rw [e3]
      simp only [List.getElem?_cons_succ]
      rw [List.getElem?_append]
      by_cases h2 : j - (off + k + 1) < vs.length
      · simp [h2]
      · simp only [h2, if_false, List.getElem?_drop]
        rw [if_neg (by omega)]
        congr 1
        omega

theorem fill_run {G L : Nat → Prop} {gl : List (Nat × D)} {z : Nat} (hv : ∀ x d, ev gl σ x = some d → d.pur = true → ∃ cs : List Value, (a.eval x).cells.toList = cs ∧ Rc w ρ G L true d cs []) :
    ∀ (ps : List (Nat × Operand)) (k : Nat) (ds : List D) (cs : Array Value), evs gl σ ps k = some ds → PurZ z ds → (k + ds.length) * z ≤ cs.size →
      ∃ out : Array Value, Instr.fill (fun i => some (i * z, z)) cs (ps.map (fun p => (p.1, a.eval p.2))) = some out ∧ out.size = cs.size ∧ out.toList.take (k * z) = cs.toList.take (k * z) ∧
        ∀ i (h : i < ds.length), Rc w ρ G L false ds[i] ((out.toList.drop ((k + i) * z)).take z) [] := by
  intro ps
  induction ps with
  | nil =>
    intro k ds cs h hp hs
    simp only [evs, Option.some.injEq] at h
    subst h
    exact ⟨cs, rfl, rfl, rfl, fun i hi => by simp at hi⟩
  | cons p ps ih =>
    intro k ds cs h hp hs
    obtain ⟨i0, x⟩ := p
    simp only [evs] at h
    by_cases hik : i0 = k
    · subst hik
      simp only [Nat.beq_refl, cond_true] at h
      cases hx : ev gl σ x with
      | none => rw [hx] at h; cases h
      | some d =>
        rw [hx] at h
        cases hr : evs gl σ ps (i0 + 1) with
        | none => simp only [hr] at h; cases h
        | some ds' =>
          simp only [hr, Option.some.injEq] at h
          subst h
          obtain ⟨⟨p1, p2, p3⟩, p4⟩ := hp
          obtain ⟨xc, hxc, hrc⟩ := hv x d hx p1
          have hlen := hrc.len
          have hsz : (a.eval x).cells.size = z := by rw [← Array.length_toList, hxc, hlen, p3]
          have hkz : (i0 + 1) * z ≤ cs.size := Nat.le_trans (Nat.mul_le_mul_right z (by simp)) hs
          rw [Nat.add_mul, Nat.one_mul] at hkz
          have hfold := foldl_set cs xc (i0 * z) 0 (by omega)
          simp only [Nat.add_zero] at hfold
          have hcs2 : ((a.eval x).cells.zipIdx.foldl (fun (c : Array Value) (p : Value × Nat) => c.setIfInBounds (i0 * z + p.2) p.1) cs).toList = cs.toList.take (i0 * z) ++ xc ++ cs.toList.drop (i0 * z + xc.length) := by
            rw [← hfold, ← hxc, ← Array.foldl_toList]
            simp
          generalize hc2 : ((a.eval x).cells.zipIdx.foldl (fun (c : Array Value) (p : Value × Nat) => c.setIfInBounds (i0 * z + p.2) p.1) cs) = cs2 at hcs2
          have hs2 : cs2.size = cs.size := by
            have := congrArg List.length hcs2
            rw [splice_len _ _ _ (by simp; omega)] at this
            simpa using this
          obtain ⟨out, q1, q2, q3, q4⟩ := ih (i0 + 1) ds' cs2 hr p4 (by rw [hs2]; simp at hs ⊢; rw [show i0 + 1 + ds'.length = i0 + (ds'.length + 1) by omega]; exact hs)
          have hmid : (cs2.toList.drop (i0 * z)).take z = xc := by
            rw [hcs2, List.append_assoc, List.drop_left' (by simp; omega), List.take_append_of_le_length (by omega), List.take_of_length_le (by omega)]
          have q3' : ∀ j : Nat, (out.toList.take ((i0 + 1) * z))[j]? = (cs2.toList.take ((i0 + 1) * z))[j]? := fun j => by rw [q3]
          refine ⟨out, ?_, q2.trans hs2, ?_, fun i hi => ?_⟩
          · simp only [List.map_cons, Instr.fill]
            have hcond : ¬ ((a.eval x).cells.size ≠ z ∨ i0 * z + (a.eval x).cells.size > cs.size) := by rw [hsz]; simp; omega
            simp only [ne_eq, Bool.or_eq_true, decide_eq_true_eq]
            rw [if_neg (by simpa using hcond)]
            rw [hc2]
            exact q1
          · apply List.ext_getElem?
            intro j
            by_cases hj : j < i0 * z
            · have := q3' j
              have hj2 : j < (i0 + 1) * z := by rw [Nat.add_mul]; omega
              simp only [List.getElem?_take, hj2, if_true] at this
              simp only [List.getElem?_take, hj, if_true, this, hcs2]
              rw [List.append_assoc, List.getElem?_append_left (by simp; omega), List.getElem?_take, if_pos hj]
            · simp [List.getElem?_take, hj]
          · cases i with
            | zero =>
              simp only [Nat.add_zero, List.getElem_cons_zero]
              have : (out.toList.drop (i0 * z)).take z = (cs2.toList.drop (i0 * z)).take z := by
                apply List.ext_getElem?
                intro j
                by_cases hj : j < z
                · have := q3' (i0 * z + j)
                  have hj2 : i0 * z + j < (i0 + 1) * z := by rw [Nat.add_mul]; omega
                  simp only [List.getElem?_take, hj2, if_true] at this
                  simp only [List.getElem?_take, hj, if_true, List.getElem?_drop, this]
                · simp [List.getElem?_take, hj]
              rw [this, hmid]
              exact hrc.unflag p2
            | succ i =>
              have := q4 i (by simpa using hi)
              rw [show i0 + (i + 1) = i0 + 1 + i by omega]
              simpa using this
    · rw [nbeq hik] at h
      cases h

theorem ev_cells (st : StW C σ a w ρ Fe Fb) {x : Operand} {d : D} (h : ev C.gl σ x = some d) (hp : d.pur = true) :
    ∃ cs : List Value, (a.eval x).cells.toList = cs ∧ Rc w ρ (gd C Fe Fb) (fun id => (σ.box id).isSome) true d cs [] := by
  obtain ⟨F, hv, _⟩ := ev_ok st h (pur_ref hp)
  have := hv.pur hp
  subst this
  exact ⟨_, rfl, hv.cells (by rintro rfl; simp [D.pur] at hp)⟩

theorem R.bsl {t e z bytes k : Nat} {ps : List (Nat × Operand)} {ds : List D} {ty rt : TypeId} {pos : String} {aft : Array Edge} {g : Option (Nat × Bool)} [hT : SlT P ty e] [hE : ElT P e z bytes]
    (hps : evs C.gl σ ps 0 = some ds) (hp : PurZ z ds) (hk : ds.length = k) (ht : t < σ.n) (hsm : k * z ≤ 16777216) :
    OpS P C ⟨some t, .buildSlice ty k ps.toArray, rt, pos, aft, g⟩ σ (σ.set t (.sl (some e) z ds)) := by
  refine OpS.value fun a w ⟨ρ, Fe, Fb, st⟩ => ?_
  obtain ⟨i, zv, hi, hsz, hby, hz, hzs, hpos⟩ := hE.i
  subst hk
  obtain ⟨out, q1, q2, q3, q4⟩ := fill_run (w := w) (ρ := ρ) (z := z) (fun x d h hp => ev_cells st h hp) ps 0 ds ((Array.range (ds.length * z)).map (zv.cells[· % zv.cells.size]!)) hps hp (by simp)
  simp only [Nat.zero_add] at q4
  have hml : ds.length ≤ maxLen := by
    have : ds.length * 1 ≤ ds.length * z := Nat.mul_le_mul_left _ hpos
    simp only [maxLen]; omega
  refine ⟨_, _, ?_, st.newSl (e := e) (cs := out) ht hml (by rw [q2]; simp) q4⟩
  unfold execOp
  have hps2 : (ps.toArray.map fun x => (x.1, a.eval x.2)).toList = ps.map (fun p => (p.1, a.eval p.2)) := by simp
  by_cases h0 : ds.length * z = 0
  · have q1' := q1
    simp only [h0] at q1'
    have e0 : (Array.range 0).map (fun x => zv.cells[x % zv.cells.size]!) = (#[] : Array Value) := by simp [Array.range_zero']
    rw [e0] at q1'
    have e1 : Array.range 0 = #[] := rfl
    simp [Instr.buildSlice, run_underlying hT.u, ElT.size (P := P) (e := e), h0, hps2, e1, q1', newRow, newObj, Sem.run]
  · simp [Instr.buildSlice, run_underlying hT.u, ElT.size (P := P) (e := e), h0, hps2, q1, newRow, newObj, Sem.run, zeroValue, typeInfo, hi, hz, show ¬ (16777216 < ds.length * z) by omega]
end Go.Sx

namespace Go.Sx

variable {P : Program} {C : Ctx} {σ σ' σ1 : Sg} {a : Act} {w w' : World} {ρ : Nat → Nat} {Fe Fe' Fb : Nat → List Nat}

/-! ### by length -/
theorem madeCells_part (z : Array Value) (n i : Nat) (hi : i < n) : ((madeCells z (n * z.size)).toList.drop (i * z.size)).take z.size = z.toList := by
  have h1 : i * z.size + z.size ≤ n * z.size := by
    have := Nat.mul_le_mul_right z.size (show i + 1 ≤ n by omega)
    rw [Nat.add_mul] at this; omega
  apply List.ext_getElem?
  intro j
  by_cases hj : j < z.size
  · rw [List.getElem?_take, if_pos hj, List.getElem?_drop]
    have h2 : i * z.size + j < n * z.size := by omega
    have h3 : (i * z.size + j) % z.size = j := by rw [Nat.add_comm, Nat.add_mul_mod_self_right, Nat.mod_eq_of_lt hj]
    simp [madeCells, h2, h3, hj]
  · rw [List.getElem?_take, if_neg hj]
    simp; omega

theorem R.mk {t e z bytes : Nat} {x y : Operand} {n : Nat} {d : D} {ty rt : TypeId} {pos : String} {aft : Array Edge} {g : Option (Nat × Bool)} [hT : SlT P ty e] [hE : ElT P e z bytes] [hZ : ZrT P e d]
    (hx : ev C.gl σ x = some (.int (n : Int))) (hy : ev C.gl σ y = some (.int (n : Int))) (hn : n ≤ 1073741824) (hby : bytes ≤ 131072) (ht : t < σ.n) :
    OpS P C ⟨some t, .makeSlice ty x y, rt, pos, aft, g⟩ σ (σ.set t (.sl (some e) z (List.replicate n d))) := by
  refine OpS.value fun a w ⟨ρ, Fe, Fb, st⟩ => ?_
  obtain ⟨i, zv, hi, hsz, hbyt, hz, hzs, hpos⟩ := hE.i
  obtain ⟨i', zv', hi', hz', hchk, hag⟩ := hZ.i
  rw [hi] at hi'
  cases hi'
  rw [hz] at hz'
  cases hz'
  obtain ⟨Fx, hvx, _⟩ := ev_ok st hx rfl
  obtain ⟨Fy, hvy, _⟩ := ev_ok st hy rfl
  simp only [VR, D.isAgg, Bool.false_eq_true, if_false] at hvx hvy
  generalize hex : a.eval x = vx at hvx
  generalize hey : a.eval y = vy at hvy
  cases hvx
  cases hvy
  have hb : (i.bytes : Int) * (n : Int) ≤ 281474976710656 := by
    rw [hbyt]
    have : bytes * n ≤ 131072 * 1073741824 := Nat.mul_le_mul hby hn
    have h2 : ((bytes * n : Nat) : Int) ≤ 281474976710656 := by omega
    rwa [Int.natCast_mul] at h2
  have hrun := run_make (P := P) w ty e i zv hT.u hi hz .i64 .i64 n n (by omega) (Int.le_refl _) hb (by omega)
  simp only [Int.toNat_natCast, hsz] at hrun
  have hst := st.newSl (e := e) (z := z) (l := List.replicate n d) (cs := madeCells zv.cells (n * z)) ht (by simp only [List.length_replicate, maxLen]; omega) (by simp [size_madeCells]) (fun j hj => by
    have hj' : j < n := by simpa using hj
    rw [← hzs, madeCells_part _ _ _ hj']
    simp only [List.getElem_replicate]
    exact chk_ok _ _ _ _ d _ hchk)
  simp only [List.length_replicate] at hst
  refine ⟨_, _, ?_, hst⟩
  unfold execOp
  simp [hex, hey, hrun]

/-! ### parts of slices -/
/-- a bound -/
def evo (gl : List (Nat × D)) (σ : Sg) (x : Option Operand) (n : Int) : Option Int :=
  match x with
  | none => some n
  | some x => match ev gl σ x with
    | some d => d.cnt
    | none => none

theorem bound_ok (st : StW C σ a w ρ Fe Fb) {x : Operand} {n : Int} (h : (match ev C.gl σ x with | some d => d.cnt | none => none) = some n) : ∃ k, a.eval x = .int k n := by
  cases hx : ev C.gl σ x with
  | none => rw [hx] at h; cases h
  | some d =>
    rw [hx] at h
    have hr : d.isRef = false ∧ d.isAgg = false := by cases d <;> simp_all [D.cnt, D.isRef, D.isAgg]
    obtain ⟨F, hv, _⟩ := ev_ok st hx hr.1
    simp only [VR, hr.2, Bool.false_eq_true, if_false] at hv
    exact cnt_val h hv

theorem run_bounds (st : StW C σ a w ρ Fe Fb) {b : Bool} {lo hi : Option Operand} {i j : Int} {len cap : Nat} (hl : evo C.gl σ lo 0 = some i) (hh : evo C.gl σ hi len = some j) (h0 : 0 ≤ i) (h1 : i ≤ j) (h2 : j ≤ len) (hc : len ≤ cap) :
    (Instr.sliceBounds b len cap (lo.map a.eval) (hi.map a.eval) none).run P w = .ok (i.toNat, j.toNat, cap) w := by
  have hb : ∀ (x : Operand) (n : Int) (y : Nat) (code : BoundsCode), (match ev C.gl σ x with | some d => d.cnt | none => none) = some n → 0 ≤ n → n ≤ y → (Instr.sliceBound (a.eval x) y code).run P w = .ok n.toNat w := by
    intro x n y code hx h0 h1
    obtain ⟨k, hk⟩ := bound_ok st hx
    rw [hk]
    exact run_sliceBound w k n y code h0 h1
  cases lo with
  | none =>
    simp only [evo, Option.some.injEq] at hl
    subst hl
    cases hi with
    | none =>
      simp only [evo, Option.some.injEq] at hh
      subst hh
      simp [Instr.sliceBounds]
    | some y =>
      simp only [evo] at hh
      simp [Instr.sliceBounds, hb y j cap _ hh (by omega) (by omega)]
  | some x =>
    simp only [evo] at hl
    cases hi with
    | none =>
      simp only [evo, Option.some.injEq] at hh
      subst hh
      simp [Instr.sliceBounds, hb x i len _ hl (by omega) (by omega)]
    | some y =>
      simp only [evo] at hh
      simp [Instr.sliceBounds, hb y j cap _ hh (by omega) (by omega), hb x i j.toNat _ hl (by omega) (by omega)]

/-- of a slice that is only read -/
theorem R.slI {t e z bytes : Nat} {x : Operand} {l : List D} {lo hi : Option Operand} {i j : Int} {ty rt : TypeId} {pos : String} {aft : Array Edge} {g : Option (Nat × Bool)} [hT : SlT P ty e] [hE : ElT P e z bytes]
    (hx : ev C.gl σ x = some (.sl none z l)) (hl : evo C.gl σ lo 0 = some i) (hh : evo C.gl σ hi l.length = some j) (h0 : 0 ≤ i) (h1 : i ≤ j) (h2 : j ≤ l.length) (ht : t < σ.n) :
    OpS P C ⟨some t, .slice ty x lo hi none, rt, pos, aft, g⟩ σ (σ.set t (.sl none z ((l.drop i.toNat).take (j - i).toNat))) := by
  refine OpS.value fun a w ⟨ρ, Fe, Fb, st⟩ => ?_
  obtain ⟨F, hv, _⟩ := ev_ok st hx rfl
  have hF := hv.pur rfl
  subst hF
  simp only [VR, D.isAgg, Bool.false_eq_true, if_false] at hv
  generalize hex : a.eval x = vx at hv
  have hlen : ((l.drop i.toNat).take (j - i).toNat).length = (j - i).toNat := by simp; omega
  cases hv with
  | slN =>
    simp only [List.length_nil] at hh h2
    have hb := run_bounds (P := P) st (b := true) (len := 0) (cap := 0) hl hh h0 h1 h2 (Nat.le_refl _)
    have hj : j = 0 := by omega
    have hi0 : i = 0 := by omega
    subst hj; subst hi0
    refine ⟨.slice none 0 0, w, ?_, st.put ht rfl ?_⟩
    · unfold execOp
      cases lo <;> cases hi <;> simp_all [Instr.sliceAt, Instr.slice, run_underlying hT.u, ElT.size (P := P) (e := e)]
    · simp only [VR, D.isAgg, Bool.false_eq_true, if_false]; exact .slN none z
  | slE _ _ aa =>
    simp only [List.length_nil] at hh h2
    have hb := run_bounds (P := P) st (b := true) (len := 0) (cap := 0) hl hh h0 h1 h2 (Nat.le_refl _)
    have hj : j = 0 := by omega
    have hi0 : i = 0 := by omega
    subst hj; subst hi0
    refine ⟨.slice (some aa) 0 0, w, ?_, st.put ht rfl ?_⟩
    · unfold execOp
      cases lo <;> cases hi <;> simp_all [Instr.sliceAt, Instr.slice, run_underlying hT.u, ElT.size (P := P) (e := e)]
    · simp only [VR, D.isAgg, Bool.false_eq_true, if_false]; exact .slE none z aa
  | slI b off cs e' fz cap _ _ hb hG hc hs hr =>
    have hbd := run_bounds (P := P) st (b := true) (len := l.length) (cap := cap) hl hh h0 h1 h2 hc
    refine ⟨.slice (some (if cap = i.toNat then ⟨b, off, none⟩ else ⟨b, off + i.toNat * z, none⟩)) (j - i).toNat (cap - i.toNat), w, ?_, st.put ht rfl ?_⟩
    · unfold execOp
      have e1 : j.toNat - i.toNat = (j - i).toNat := by omega
      have hA : (fun x => (⟨b, off, none⟩ : Addr).add (i.toNat * z)) () = ⟨b, off + i.toNat * z, none⟩ := add_lit _ _ _
      cases lo <;> cases hi <;> simp_all [Instr.sliceAt, Instr.slice, run_underlying hT.u, ElT.size (P := P) (e := e), add_lit] <;> split <;> simp_all
    · simp only [VR, D.isAgg, Bool.false_eq_true, if_false]
      have hjz : ((j - i).toNat) * z + i.toNat * z ≤ l.length * z := by
        rw [← Nat.add_mul]; exact Nat.mul_le_mul_right z (by omega)
      by_cases hci : cap = i.toNat
      · simp only [hci, if_true, Nat.sub_self]
        have h3 : (j - i).toNat = 0 := by omega
        have := Rc.slI (w := w) (ρ := ρ) (G := gd C Fe Fb) (L := fun id => (σ.box id).isSome) (p := true) b off cs e' fz 0 z [] hb hG (Nat.zero_le _) (by simp; omega) (fun k hk => by simp at hk)
        simpa [h3] using this
      · simp only [hci, if_false]
        have := Rc.slI (w := w) (ρ := ρ) (G := gd C Fe Fb) (L := fun id => (σ.box id).isSome) (p := true) b (off + i.toNat * z) cs e' fz (cap - i.toNat) z ((l.drop i.toNat).take (j - i).toNat) hb hG (by rw [hlen]; omega)
          (by rw [hlen]; omega) (fun k hk => by
            rw [hlen] at hk
            simp only [List.getElem_take, List.getElem_drop]
            have := hr (i.toNat + k) (by omega)
            rw [Nat.add_mul, ← Nat.add_assoc] at this
            exact this)
        rw [hlen] at this
        exact this

/-- of any slice that lies in a slot -/
theorem R.slV {s t e z bytes : Nat} {l : List D} {lo hi : Option Operand} {i j : Int} {ty rt : TypeId} {pos : String} {aft : Array Edge} {g : Option (Nat × Bool)} [hT : SlT P ty e] [hE : ElT P e z bytes]
    (hx : SC σ s z l) (hl : evo C.gl σ lo 0 = some i) (hh : evo C.gl σ hi l.length = some j) (h0 : 0 ≤ i) (h1 : i ≤ j) (h2 : j ≤ l.length) (ht : t < σ.n) (hst : s ≠ t) :
    OpS P C ⟨some t, .slice ty (.tmp s) lo hi none, rt, pos, aft, g⟩ σ (σ.set t (.vw s z i.toNat (j - i).toNat)) := by
  refine OpS.value fun a w ⟨ρ, Fe, Fb, st⟩ => ?_
  obtain ⟨base, len, cap, hv, rfl, hd⟩ := SC_ok st hx
  have hsz := st.size
  have e1 : j.toNat - i.toNat = (j - i).toNat := by omega
  have hcap : l.length ≤ cap := by
    rcases hd with ⟨h3, h4⟩ | ⟨b, o, cs, e', fz, _, _, h3, _⟩ <;> omega
  have hbd := run_bounds (P := P) st (b := true) (len := l.length) (cap := cap) hl hh h0 h1 h2 hcap
  rcases hd with ⟨h3, rfl⟩ | ⟨b, o, cs, e', fz, rfl, hb, hc, hs, hr⟩
  · have hj : j = 0 := by omega
    have hi0 : i = 0 := by omega
    subst hj; subst hi0
    refine ⟨.slice base 0 0, w, ?_, st.putRef ht ⟨rfl, .slice base l.length 0, .slice base 0 0, by rw [put_get a t _ s (by omega)]; simp [hst, hv], by rw [put_get a t _ t (by omega)]; simp, ?_⟩⟩
    · unfold execOp
      cases base <;> cases lo <;> cases hi <;> simp_all [Instr.sliceAt, Instr.slice, run_underlying hT.u, ElT.size (P := P) (e := e), eval_tmp hv]
    · exact ⟨_, _, _, _, _, rfl, rfl, Nat.le_refl _, by simp, Nat.le_refl _, .inr ⟨by omega, rfl⟩⟩
  · refine ⟨.slice (some (if cap = i.toNat then ⟨b, o, none⟩ else ⟨b, o + i.toNat * z, none⟩)) (j - i).toNat (cap - i.toNat), w, ?_, st.putRef ht ⟨rfl, .slice (some ⟨b, o, none⟩) l.length cap, .slice (some (if cap = i.toNat then ⟨b, o, none⟩ else ⟨b, o + i.toNat * z, none⟩)) (j - i).toNat (cap - i.toNat), by rw [put_get a t _ s (by omega)]; simp [hst, hv], by rw [put_get a t _ t (by omega)]; simp, ?_⟩⟩
    · unfold execOp
      cases lo <;> cases hi <;> simp_all [Instr.sliceAt, Instr.slice, run_underlying hT.u, ElT.size (P := P) (e := e), eval_tmp hv, add_lit] <;> split <;> simp_all
    · refine ⟨_, _, _, _, _, rfl, rfl, by omega, by omega, by omega, .inl ?_⟩
      by_cases hci : cap = i.toNat
      · exact ⟨b, o, o, rfl, by simp [hci], .inr ⟨rfl, by omega⟩⟩
      · exact ⟨b, o, _, rfl, by simp [hci], .inl rfl⟩

/-- of an array in a box -/
theorem R.slA {s t e z bytes m id off : Nat} {path : List Nat} {d0 : D} {l : List D} {lo hi : Option Operand} {i j : Int} {ty rt : TypeId} {pos : String} {aft : Array Edge} {g : Option (Nat × Bool)} [hT : ArT P ty m e] [hE : ElT P e z bytes]
    (hx : σ.get s = some (.ptr id off path)) (hb : σ.box id = some (.var d0)) (hloc : d0.loc path = some (off, .arr m z l)) (hl : evo C.gl σ lo 0 = some i) (hh : evo C.gl σ hi m = some j) (h0 : 0 ≤ i) (h1 : i ≤ j) (h2 : j ≤ m) (ht : t < σ.n) :
    OpS P C ⟨some t, .slice ty (.tmp s) lo hi none, rt, pos, aft, g⟩ σ (σ.set t (.va id off z (j - i).toNat path i.toNat)) := by
  refine OpS.value fun a w ⟨ρ, Fe, Fb, st⟩ => ?_
  obtain ⟨v, hv, hr⟩ := (SR_plain rfl).1 (st.env _ _ hx)
  simp only [VR, D.isAgg, Bool.false_eq_true, if_false] at hr
  generalize Fe s = F at hr
  cases hr
  have hsz := st.size
  have e1 : j.toNat - i.toNat = (j - i).toNat := by omega
  have hbd := run_bounds (P := P) st (b := false) (len := m) (cap := m) hl hh h0 h1 h2 (Nat.le_refl _)
  refine ⟨.slice (some (if m = i.toNat then ⟨ρ id, off, none⟩ else ⟨ρ id, off + i.toNat * z, none⟩)) (j - i).toNat (m - i.toNat), w, ?_, st.putRef ht ⟨rfl, by simp [hb], m - i.toNat, if m = i.toNat then off else off + i.toNat * z, by omega, ?_, ?_⟩⟩
  · unfold execOp
    cases lo <;> cases hi <;> simp_all [Instr.sliceAt, Instr.sureAddr, run_underlying hT.u, ElT.size (P := P) (e := e), eval_tmp hv, add_lit] <;> split <;> simp_all
  · by_cases hm : m = i.toNat
    · simp [hm]; omega
    · simp [hm]
  · rw [put_get a t _ t (by omega)]
    by_cases hm : m = i.toNat <;> simp [hm]
end Go.Sx
