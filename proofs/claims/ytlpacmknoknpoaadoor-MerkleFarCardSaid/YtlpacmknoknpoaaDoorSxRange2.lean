/-
  Own library: ranges over functions, the statement.
-/
import Derived.Test.YtlpacmknoknpoaaDoorSxRange
import Derived.RangeFuncLeaves
set_option linter.unusedVariables false
set_option linter.unusedSimpArgs false
set_option linter.unnecessarySimpa false
namespace Go.Sx

variable {P : Program} {C : Ctx} {σ σ' σ1 : Sg} {a : Act} {w w' : World} {ρ : Nat → Nat} {Fe Fe' Fb : Nat → List Nat}

/-- what is all its own lies as well whatever else is kept -/
theorem Rc.frsAll {G G' L L' : Nat → Prop} {ρ' : Nat → Nat} {p : Bool} {d : D} {cs : List Value} {F : List Nat} (h : Rc w ρ G L p d cs F) (hf : Frs d) (hn : d.np = true) (hh : ∀ b ∈ F, b < w.heap.size → w'.heap[b]? = w.heap[b]?) : Rc w' ρ' G' L' true d cs F := by
  have h1 := (h.frs (G' := fun _ => False) hf).unflag hn
  have h2 := (h1.noL (ρ' := ρ') (L' := L')).flag
  exact h2.mono (fun b hb hl => hh b (hb.resolve_left (fun h => h)) hl) (fun _ h => h.elim) (fun id hid => ⟨hid, rfl⟩)

/-- boxes that own all that is in them -/
def frsBx : List (Nat × Bx) → Prop
  | [] => True
  | (_, .var d) :: r => Frs d ∧ d.np = true ∧ frsBx r
  | (_, .mp _) :: _ => False
theorem frsBx_get {l : List (Nat × Bx)} (h : frsBx l) {id : Nat} {x : Bx} (hx : lk l id = some x) : ∃ d, x = .var d ∧ Frs d ∧ d.np = true := by
  induction l with
  | nil => simp [lk] at hx
  | cons y r ih =>
    obtain ⟨k, b⟩ := y
    cases b with
    | mp => exact h.elim
    | var d =>
      rw [lk_cons] at hx
      by_cases hk : k = id
      · simp only [hk, if_true, Option.some.injEq] at hx
        exact ⟨d, hx.symm, h.1, h.2.1⟩
      · simp only [hk, if_false] at hx
        exact ih h.2.2 hx

/-- slots that hold what owns nothing -/
def purEnv : List (Nat × D) → Bool
  | [] => true
  | (_, d) :: r => d.pur && !d.isRef && purEnv r
theorem purEnv_get {l : List (Nat × D)} (h : purEnv l = true) {t : Nat} {d : D} (hd : lk l t = some d) : d.pur = true ∧ d.isRef = false := by
  induction l with
  | nil => simp [lk] at hd
  | cons x r ih =>
    obtain ⟨k, e⟩ := x
    simp only [purEnv, Bool.and_eq_true, Bool.not_eq_true'] at h
    rw [lk_cons] at hd
    by_cases hk : k = t
    · simp only [hk, if_true, Option.some.injEq] at hd; subst hd; exact h.1
    · simp only [hk, if_false] at hd; exact ih h.2 hd

/-- what lasts of the caller while its loop goes round -/
structure Last (C : Ctx) (n : Nat) (a : Act) (env0 : List (Nat × D)) (ids : List Nat) (ρ0 : Nat → Nat) (G1 : Nat → Prop) (sz : Nat) (l dd : Nat) (bx : List (Nat × Bx)) (Fb : Nat → List Nat) (O : Nat → Prop) (w : World) : Prop where
  keys : ∀ id, (lk bx id).isSome = memN ids id
  frs : frsBx bx
  env : ∀ t d, lk env0 t = some d → ∃ v, a.tmps[t]? = some v ∧ VR w ρ0 G1 (fun id => memN ids id = true) d v []
  box : ∀ id d, lk bx id = some (.var d) → ∃ cs e F', w.heap[ρ0 id]? = some (.cells cs e (0, 0)) ∧ Rc w ρ0 (fun _ => False) (fun _ => False) true d cs.toList F' ∧ Fb id = ρ0 id :: F'
  boxN : ∀ id, lk bx id = none → Fb id = []
  nodB : ∀ id, (Fb id).Nodup
  dBB : ∀ id id', id ≠ id' → ∀ b, b ∈ Fb id → b ∉ Fb id'
  own : ∀ id b, b ∈ Fb id → ¬ C.keep b ∧ ¬ O b ∧ ¬ G1 b ∧ b ≠ l ∧ b ≠ dd ∧ b < w.heap.size
  O_ge : ∀ b, O b → sz ≤ b ∧ b ≠ l ∧ b ≠ dd
  G1_lt : ∀ b, G1 b → b < sz ∧ b ≠ l ∧ b ≠ dd
  keep : ∀ b, C.keep b → w.heap[b]? = C.w0.heap[b]? ∧ b < sz ∧ b ≠ l ∧ b ≠ dd
  os : w.os = C.w0.os
  tape : w.tape = C.w0.tape
  output : w.output = C.w0.output
  size : sz ≤ w.heap.size
  l_lt : l < w.heap.size
  d_lt : dd < w.heap.size
  ld : l ≠ dd
  def_ : w.heap[dd]? = some (.deferred (some []))

/-- it lasts when the iterator turns its own -/
theorem Last.apart {n : Nat} {env0 : List (Nat × D)} {ids : List Nat} {ρ0 : Nat → Nat} {G1 : Nat → Prop} {sz l dd : Nat} {bx : List (Nat × Bx)} {O O' : Nat → Prop} (h : Last C n a env0 ids ρ0 G1 sz l dd bx Fb O w) (hz : ∀ b, sz ≤ b → ¬ C.keep b) (ha : Apart O O' w w') :
    Last C n a env0 ids ρ0 G1 sz l dd bx Fb O' w' := by
  have hO' : ∀ b, O' b → sz ≤ b ∧ b ≠ l ∧ b ≠ dd := fun b hb => by
    rcases ha.sub b hb with h1 | h1
    · exact h.O_ge b h1
    · have := h.l_lt; have := h.d_lt; have := h.size
      exact ⟨by omega, by omega, by omega⟩
  have hFO : ∀ id b, b ∈ Fb id → b < w.heap.size → w'.heap[b]? = w.heap[b]? := fun id b hb hl => ha.same b hl (h.own id b hb).2.1
  have hG : ∀ b, G1 b → ¬ O b := fun b hb hc => by have := (h.G1_lt b hb).1; have := (h.O_ge b hc).1; omega
  refine Last.mk h.keys h.frs (fun t d hd => ?_) (fun id d hd => ?_) h.boxN h.nodB h.dBB (fun id b hb => ?_) hO' h.G1_lt (fun b hb => ?_)
    (ha.os.trans h.os) (ha.tape.trans h.tape) (ha.output.trans h.output) (Nat.le_trans h.size ha.size) (Nat.lt_of_lt_of_le h.l_lt ha.size) (Nat.lt_of_lt_of_le h.d_lt ha.size) h.ld ?_
  · obtain ⟨v, h1, h2⟩ := h.env t d hd
    exact ⟨v, h1, h2.mono (fun b hb hl => ha.same b hl (hb.elim (hG b) (fun hm => by cases hm))) (fun b hb _ => hb) (fun id hid => ⟨hid, rfl⟩)⟩
  · obtain ⟨cs, e, F', h1, h2, h3⟩ := h.box id d hd
    have hlt : ρ0 id < w.heap.size := (Array.getElem?_eq_some_iff.1 h1).1
    refine ⟨cs, e, F', (hFO id _ (by rw [h3]; simp) hlt).trans h1, h2.mono (fun b hb hl => hFO id b (by rw [h3]; exact List.mem_cons_of_mem _ (hb.resolve_left (fun h => h))) hl) (fun _ h => h.elim) (fun _ h => h.elim), h3⟩
  · obtain ⟨q1, q2, q3, q4, q5, q6⟩ := h.own id b hb
    refine ⟨q1, fun hc => ?_, q3, q4, q5, Nat.lt_of_lt_of_le q6 ha.size⟩
    rcases ha.sub b hc with h1 | h1
    · exact q2 h1
    · omega
  · obtain ⟨q1, q2, q3, q4⟩ := h.keep b hb
    refine ⟨?_, q2, q3, q4⟩
    have := h.size
    rw [ha.same b (by omega) (fun hc => by have := (h.O_ge b hc).1; omega)]
    exact q1
  · rw [ha.same dd h.d_lt (fun hc => (h.O_ge dd hc).2.2 rfl)]
    exact h.def_

theorem wpIn_n {F : Fence} {n m : Nat} {c : Code} {Q : Exit → Act → World → Prop} (hd : F.depth = none) (h : c.wpIn F n P Q a w) : c.wpIn F m P Q a w :=
  fun b k cs h1 h2 _ => h b k cs h1 h2 (fun d hd' => by rw [hd] at hd'; cases hd')

/-- the frame of a round -/
theorem Last.start {n : Nat} {env0 : List (Nat × D)} {ids : List Nat} {ρ0 : Nat → Nat} {G1 : Nat → Prop} {sz l dd : Nat} {bx : List (Nat × Bx)} {O : Nat → Prop} (h : Last C n a env0 ids ρ0 G1 sz l dd bx Fb O w)
    (hsz : a.tmps.size = n) (hO : ∀ b, O b → b < w.heap.size) {p : Nat} {v : Value} {d : D} (hp : p < n) (hv : VR w (fun x => x) (fun b => G1 b ∨ O b) (fun _ => False) d v []) (hdp : d.pur = true) (hdn : d.np = true) (hpe : purEnv env0 = true)
    (hgl : ∀ g d, (g, d) ∈ C.gl → C.keep g ∧ G1 g ∧ ∃ cs e fz, C.w0.heap[g]? = some (.cells cs e fz) ∧ Rc C.w0 (fun x => x) (fun _ => False) (fun _ => False) false d cs.toList []) :
    StW ⟨w, fun b => b < w.heap.size ∧ ¬ ∃ id, b ∈ Fb id, fun b => G1 b ∨ O b ∨ w.heap.size ≤ b ∨ ∃ id, b ∈ Fb id, C.gl, some l, fun id => if memN ids id then some (ρ0 id) else none, []⟩
      ((⟨n, env0, bx⟩ : Sg).set p d) { tmps := a.tmps.setIfInBounds p v, defers := [] } w ρ0 (fun _ => []) Fb := by
  have hown : ∀ b, Go.Sx.own (fun _ => []) Fb b → ∃ id, b ∈ Fb id := by
    rintro b (⟨_, h⟩ | h)
    · cases h
    · exact h
  have hkeys : ∀ id, ((⟨n, env0, bx⟩ : Sg).box id).isSome = memN ids id := h.keys
  refine StW.mk (by simp [hsz]) rfl (fun id b hb => ?_) (fun t x hx => ?_) (fun _ _ => rfl) (fun id x hx => ?_) (fun id hid => h.boxN id hid) (fun _ => List.nodup_nil) h.nodB (fun _ _ _ _ h => by cases h) (fun _ _ _ h => by cases h) h.dBB
    (fun b hb hc => hc.2 (hown b hb)) (fun b hb => ⟨rfl, hb.1⟩) rfl rfl rfl (Nat.le_refl _) (fun g d hg => ?_) (fun b hb => .inr (.inr (.inl hb))) (fun b hb => .inr (.inr (.inr (hown b hb))))
  · by_cases hm : memN ids id = true
    · simp only [hm, if_true, Option.some.injEq] at hb
      exact ⟨hb, by show ((⟨n, env0, bx⟩ : Sg).box id).isSome = true; rw [hkeys]; exact hm⟩
    · simp [hm] at hb
  · have hgd : ∀ b, (G1 b ∨ O b) → b < w.heap.size → gd ⟨w, fun b => b < w.heap.size ∧ ¬ ∃ id, b ∈ Fb id, fun b => G1 b ∨ O b ∨ w.heap.size ≤ b ∨ ∃ id, b ∈ Fb id, C.gl, some l, fun id => if memN ids id then some (ρ0 id) else none, []⟩ (fun _ => []) Fb b := by
      intro b hb _
      refine ⟨hb.elim (fun h => .inl h) (fun h => .inr (.inl h)), fun hc => ?_⟩
      obtain ⟨id, hid⟩ := hown b hc
      obtain ⟨_, q2, q3, _⟩ := h.own id b hid
      exact hb.elim q3 q2
    simp only [Sg.get, Sg.set, lk_cons, lk_sets] at hx
    by_cases hpt : p = t
    · subst hpt
      simp only [if_true, Option.some.injEq] at hx
      subst hx
      refine (SR_plain (pur_ref hdp)).2 ⟨v, by simp [hsz, hp], (hv.noL (ρ' := ρ0) hdn).mono (fun _ _ _ => rfl) hgd (fun id hid => ⟨hid, rfl⟩)⟩
    · simp only [hpt, if_false, show ¬ t = p from fun e => hpt e.symm, Option.map_eq_some_iff] at hx
      obtain ⟨x0, hx0, rfl⟩ := hx
      obtain ⟨hp1, hp2⟩ := purEnv_get hpe hx0
      have hsc : scrub p x0 = x0 := by cases x0 <;> first | rfl | simp [D.isRef] at hp2
      rw [hsc]
      obtain ⟨v0, hv0, hr0⟩ := h.env t x0 hx0
      refine (SR_plain hp2).2 ⟨v0, ?_, hr0.mono (fun _ _ _ => rfl) (fun b hb hl => hgd b (.inl hb) hl) (fun id hid => ⟨by show ((⟨n, env0, bx⟩ : Sg).box id).isSome = true; rw [hkeys]; exact hid, rfl⟩)⟩
      show (a.tmps.setIfInBounds p v)[t]? = some v0
      rw [Array.getElem?_setIfInBounds_ne hpt]
      exact hv0
  · obtain ⟨d0, rfl, hf, hn0⟩ := frsBx_get h.frs (show lk bx id = some x from hx)
    obtain ⟨cs, e, F', h1, h2, h3⟩ := h.box id d0 hx
    exact ⟨cs, e, F', h1, h2.mono (fun _ _ _ => rfl) (fun _ hb => hb.elim) (fun _ hb => hb.elim), h3⟩
  · obtain ⟨q1, q2, cs, e, fz, q3, q4⟩ := hgl g d hg
    obtain ⟨k1, k2, _⟩ := h.keep g q1
    have := h.size
    refine ⟨⟨by omega, fun ⟨id, hid⟩ => (h.own id g hid).1 q1⟩, .inl q2, cs, e, fz, k1.trans q3, q4.mono (fun b hb _ => ?_) (fun _ h => h.elim) (fun _ h => h.elim)⟩
    rcases hb with hb | hb
    · exact hb.elim
    · cases hb

/-- what a round leaves to be done behind the loop -/
def jmp : Exit → Option Code
  | .ret => some .ret
  | .exit id => some (.exit id)
  | _ => none

theorem Last.round {n : Nat} {env0 : List (Nat × D)} {ids : List Nat} {ρ0 : Nat → Nat} {G1 : Nat → Prop} {sz l dd : Nat} {bx : List (Nat × Bx)} {O : Nat → Prop} (h : Last C n a env0 ids ρ0 G1 sz l dd bx Fb O w)
    {r : Loop} (hrec : w.heap[l]? = some (.loop r)) (hst : r.state = .ready) (htm : r.tmps = a.tmps) {p : Nat} (hpar : r.params = #[p]) {asg body : Code} (hra : r.assign = asg) (hrb : r.body = body)
    (hsz : a.tmps.size = n) (hO : ∀ b, O b → b < w.heap.size) {v : Value} {d : D} (hp : p < n) (hv : VR w (fun x => x) (fun b => G1 b ∨ O b) (fun _ => False) d v []) (hdp : d.pur = true) (hdn : d.np = true) (hpe : purEnv env0 = true)
    (hgl : ∀ g d, (g, d) ∈ C.gl → C.keep g ∧ G1 g ∧ ∃ cs e fz, C.w0.heap[g]? = some (.cells cs e fz) ∧ Rc C.w0 (fun x => x) (fun _ => False) (fun _ => False) false d cs.toList [])
    {E : Exit → List (Nat × Bx) → Prop}
    (hround : ∀ C' : Ctx, C'.gl = C.gl → (∀ id b, C'.pin id = some b → memN ids id = true) → W P C' asg (fun e σ' => e = .normal ∧ ∀ C' : Ctx, C'.gl = C.gl → (∀ id b, C'.pin id = some b → memN ids id = true) →
      W P C' body (fun e σ' => E e (keepB ids σ'.bx) ∧ frsBx (keepB ids σ'.bx)) σ') ((⟨n, env0, bx⟩ : Sg).set p d))
    (hE : ∀ e bx', E e bx' → e = .normal ∨ e = .ret ∨ ∃ id, e = .exit id) :
    YieldTo P l v w (fun w' s => ∃ e bx' Fb', E e bx' ∧ s = (jmp e).isSome ∧ w'.heap[l]? = some (.loop { r with state := if (jmp e).isNone then .ready else .done, pending := jmp e }) ∧
      Last C n a env0 ids ρ0 G1 sz l dd bx' Fb' O w' ∧ (∀ b, b < w.heap.size → (¬ ∃ id, b ∈ Fb id) → b ≠ l → w'.heap[b]? = w.heap[b]?) ∧ w.heap.size ≤ w'.heap.size) := by
  have hst0 := h.start hsz hO hp hv hdp hdn hpe hgl
  have hlF : ¬ ∃ id, l ∈ Fb id := fun ⟨id, hid⟩ => (h.own id l hid).2.2.2.1 rfl
  have hll := h.l_lt
  have hrun : (Instr.yield l #[v]).run P w = .ok (.round l r.fn (a.tmps.setIfInBounds p v) asg body) w := by
    have := run_yield (P := P) (w := w) (args := #[v]) hrec (by rw [hpar]; rfl)
    rw [hra, hrb] at this
    rw [this, hpar, htm]
    have hz : (#[p] : Array Nat).zip (#[v] : Array Value) = #[(p, v)] := by
      rw [show (#[p] : Array Nat) = [p].toArray from rfl, show (#[v] : Array Value) = [v].toArray from rfl]
      simp
    rw [hz]
    rfl
  refine ⟨r.fn, a.tmps.setIfInBounds p v, asg, body, hrun, ?_⟩
  refine roundIn_of_wpIn trivial ?_
  have hfr : ∀ C' : Ctx, C'.rd = some l → Fx C' = (Fr none).inRound l := fun C' hC => by unfold Fx; rw [hC]; rfl
  let C1 : Ctx := ⟨w, fun b => b < w.heap.size ∧ ¬ ∃ id, b ∈ Fb id, fun b => G1 b ∨ O b ∨ w.heap.size ≤ b ∨ ∃ id, b ∈ Fb id, C.gl, some l, fun id => if memN ids id then some (ρ0 id) else none, []⟩
  have h1 := hround C1 rfl (fun id b hb => by
    by_cases hm : memN ids id = true
    · exact hm
    · simp [C1, hm] at hb) _ _ ⟨_, _, _, hst0⟩
  rw [hfr _ rfl] at h1
  refine wpIn_n (n := 3) rfl (Go.Code.wpIn_mono ?_ h1)
  rintro e a₁ w₁ ⟨σ2, ⟨ρ₁, Fe₁, Fb₁, st₁⟩, rfl, hbody⟩
  show ∃ w₂, _
  have hrec1 : w₁.heap[l]? = some (.loop r) := by rw [(st₁.kept l ⟨hll, hlF⟩).1]; exact hrec
  have hl1 : l < w₁.heap.size := (Array.getElem?_eq_some_iff.1 hrec1).1
  refine ⟨_, run_beginRound hrec1 hst, ?_⟩
  -- behind 'beginRound'
  have hown1 : ∀ b, Go.Sx.own Fe₁ Fb₁ b → w.heap.size ≤ b ∨ ∃ id, b ∈ Fb id := fun b hb => by
    have := st₁.new b hb
    by_cases hlt : b < w.heap.size
    · right
      by_cases hx : ∃ id, b ∈ Fb id
      · exact hx
      · exact absurd ⟨hlt, hx⟩ this
    · left; omega
  have hlown1 : ¬ Go.Sx.own Fe₁ Fb₁ l := fun hc => (hown1 l hc).elim (fun h => by omega) hlF
  have hlgd1 : ¬ (G1 l ∨ O l ∨ w.heap.size ≤ l ∨ ∃ id, l ∈ Fb id) := by
    rintro (hc | hc | hc | hc)
    · exact (h.G1_lt l hc).2.1 rfl
    · exact (h.O_ge l hc).2.1 rfl
    · omega
    · exact hlF hc
  let C2 : Ctx := ⟨w₁.putObj l (.loop { r with state := .busy }), fun b => b < w₁.heap.size ∧ ¬ Go.Sx.own Fe₁ Fb₁ b, fun b => G1 b ∨ O b ∨ w.heap.size ≤ b ∨ ∃ id, b ∈ Fb id, C.gl, some l, fun id => if memN ids id then some (ρ0 id) else none, []⟩
  have st₂ : StW C2 σ2 a₁ (w₁.putObj l (.loop { r with state := .busy })) ρ₁ Fe₁ Fb₁ := by
    refine st₁.rebase C2 rfl rfl (fun b hb hl => ?_) (fun b hb hl => hb.1) (fun b hb hc => hc.2 hb) (fun b hb => ⟨rfl, show b < (w₁.putObj l _).heap.size by rw [World.putObj_size]; exact hb.1⟩) rfl rfl rfl (Nat.le_refl _) (fun g d0 hg => ?_) (fun b hb => .inr (.inr (.inl (Nat.le_trans st₁.grown (by rw [World.putObj_size] at hb; exact hb))))) (fun b hb => st₁.okO b hb)
    · refine World.putObj_heap_other (fun hbl => ?_)
      subst hbl
      rcases hb with hb | hb
      · exact hlgd1 hb.1
      · exact hlown1 hb
    · obtain ⟨q1, q2, cs, e, fz, q3, q4⟩ := st₁.gl g d0 hg
      have hgl' : g ≠ l := fun hc => by subst hc; exact hlgd1 q2
      refine ⟨⟨Nat.lt_of_lt_of_le q1.1 st₁.grown, fun hc => st₁.new g hc q1⟩, q2, cs, e, fz, ?_, q4.mono (fun b hb _ => ?_) (fun _ h => h.elim) (fun _ h => h.elim)⟩
      · show (w₁.putObj l _).heap[g]? = _
        rw [World.putObj_heap_other hgl', (st₁.kept g q1).1]
        exact q3
      · rcases hb with hb | hb
        · exact hb.elim
        · cases hb
  have h2 := hbody C2 rfl (fun id b hb => by
    by_cases hm : memN ids id = true
    · exact hm
    · simp [C2, hm] at hb) _ _ ⟨_, _, _, st₂⟩
  rw [hfr _ rfl] at h2
  refine wpIn_n (n := 3) rfl (Go.Code.wpIn_mono ?_ h2)
  rintro e a₃ w₃ ⟨σ3, ⟨ρ₃, Fe₃, Fb₃, st₃⟩, hEe, hfrs⟩
  have hrec3 : w₃.heap[l]? = some (.loop { r with state := .busy }) := by
    rw [(st₃.kept l ⟨hl1, hlown1⟩).1]
    exact World.putObj_heap_same hl1
  have hl3 : l < w₃.heap.size := (Array.getElem?_eq_some_iff.1 hrec3).1
  have hs1 : w.heap.size ≤ w₁.heap.size := st₁.grown
  have hs3 : w₁.heap.size ≤ w₃.heap.size := by have := st₃.grown; simpa [C2] using this
  have hown3 : ∀ b, Go.Sx.own Fe₃ Fb₃ b → w.heap.size ≤ b ∨ ∃ id, b ∈ Fb id := fun b hb => by
    have := st₃.new b hb
    by_cases hlt : b < w₁.heap.size
    · by_cases hx : Go.Sx.own Fe₁ Fb₁ b
      · exact hown1 b hx
      · exact absurd ⟨hlt, hx⟩ this
    · left; omega
  -- the world behind the round
  have key : ∀ j : Option Code, j = jmp e → ∃ bx' Fb', bx' = keepB ids σ3.bx ∧ (w₃.putObj l (.loop { r with state := if j.isNone then .ready else .done, pending := j })).heap[l]? = some (.loop { r with state := if j.isNone then .ready else .done, pending := j }) ∧
      Last C n a env0 ids ρ0 G1 sz l dd bx' Fb' O (w₃.putObj l (.loop { r with state := if j.isNone then .ready else .done, pending := j })) ∧
      (∀ b, b < w.heap.size → (¬ ∃ id, b ∈ Fb id) → b ≠ l → (w₃.putObj l (.loop { r with state := if j.isNone then .ready else .done, pending := j })).heap[b]? = w.heap[b]?) := by
    intro j hj
    generalize hw4 : w₃.putObj l (.loop { r with state := if j.isNone then .ready else .done, pending := j }) = w₄
    have h4l : w₄.heap[l]? = some (.loop { r with state := if j.isNone then .ready else .done, pending := j }) := by rw [← hw4]; exact World.putObj_heap_same hl3
    have h4o : ∀ b, b ≠ l → w₄.heap[b]? = w₃.heap[b]? := fun b hb => by rw [← hw4]; exact World.putObj_heap_other hb
    have h4s : w₄.heap.size = w₃.heap.size := by rw [← hw4]; simp
    have hsame : ∀ b, b < w.heap.size → (¬ ∃ id, b ∈ Fb id) → b ≠ l → w₄.heap[b]? = w.heap[b]? := fun b hb hn hbl => by
      have hn1 : ¬ Go.Sx.own Fe₁ Fb₁ b := fun hc => (hown1 b hc).elim (fun h => by omega) hn
      rw [h4o b hbl, (st₃.kept b ⟨by omega, hn1⟩).1]
      show (w₁.putObj l _).heap[b]? = _
      rw [World.putObj_heap_other hbl, (st₁.kept b ⟨hb, hn⟩).1]
    have hkeys : ∀ id, (lk (keepB ids σ3.bx) id).isSome = memN ids id := fun id => by
      rw [lk_keepB]
      have hmm : memB ids id = memN ids id := rfl
      by_cases hm : memN ids id = true
      · rw [hmm, hm, if_pos rfl]
        have := (st₃.pin id (ρ0 id) (by simp [C2, hm])).2
        exact this
      · rw [hmm, if_neg hm]
        simpa using hm
    have hG1 : ∀ b, G1 b → b < w.heap.size ∧ (¬ ∃ id, b ∈ Fb id) ∧ b ≠ l := fun b hb => by
      have := (h.G1_lt b hb).1; have := h.size
      exact ⟨by omega, fun ⟨id, hid⟩ => (h.own id b hid).2.2.1 hb, (h.G1_lt b hb).2.1⟩
    refine ⟨keepB ids σ3.bx, fun id => if memN ids id then Fb₃ id else [], rfl, h4l, ?_, hsame⟩
    have hos : w₃.os = w.os := st₃.os.trans st₁.os
    have htp : w₃.tape = w.tape := st₃.tape.trans st₁.tape
    have hou : w₃.output = w.output := st₃.output.trans st₁.output
    refine Last.mk hkeys hfrs (fun t d0 hd0 => ?_) (fun id d0 hd0 => ?_) (fun id hid => ?_) (fun id => ?_) (fun id id' hne b hb hb' => ?_) (fun id b hb => ?_) h.O_ge h.G1_lt (fun b hb => ?_)
      (by rw [← hw4]; exact hos.trans h.os) (by rw [← hw4]; exact htp.trans h.tape) (by rw [← hw4]; exact hou.trans h.output) (by have := h.size; omega) (by omega) (by have := h.d_lt; omega) h.ld ?_
    · obtain ⟨v0, k1, k2⟩ := h.env t d0 hd0
      refine ⟨v0, k1, k2.mono (fun b hb hl => ?_) (fun b hb _ => hb) (fun id hid => ⟨hid, rfl⟩)⟩
      obtain ⟨q1, q2, q3⟩ := hG1 b (hb.resolve_right (by simp))
      exact hsame b q1 q2 q3
    · have hm : memN ids id = true := by rw [← hkeys id, hd0]; rfl
      rw [lk_keepB] at hd0
      have hmm : memB ids id = true := hm
      rw [if_pos hmm] at hd0
      obtain ⟨dx, hdx, hf1, hf2⟩ := frsBx_get hfrs (show lk (keepB ids σ3.bx) id = some (.var d0) by rw [lk_keepB, if_pos hmm]; exact hd0)
      cases hdx
      obtain ⟨cs, e', F', k1, k2, k3⟩ := st₃.bx id _ hd0
      have hρ : ρ₃ id = ρ0 id := (st₃.pin id (ρ0 id) (by simp [C2, hm])).1
      rw [hρ] at k1 k3
      have hnl : ∀ b ∈ Fb₃ id, b ≠ l := fun b hb hbl => by
        subst hbl
        exact (hown3 b (.inr ⟨id, hb⟩)).elim (fun h => by omega) hlF
      refine ⟨cs, e', F', ?_, k2.frsAll hf1 hf2 (fun b hb _ => h4o b (hnl b (by rw [k3]; exact List.mem_cons_of_mem _ hb))), by simp only [hm, if_true]; exact k3⟩
      rw [h4o _ (hnl _ (by rw [k3]; simp))]
      exact k1
    · have hm : ¬ memN ids id = true := fun hm => by have := hkeys id; rw [hid, hm] at this; cases this
      simp [hm]
    · show (if memN ids id then Fb₃ id else []).Nodup
      split
      · exact st₃.nodB id
      · exact List.nodup_nil
    · have e1 : b ∈ Fb₃ id := by split at hb; exact hb; cases hb
      have e2 : b ∈ Fb₃ id' := by split at hb'; exact hb'; cases hb'
      exact st₃.dBB id id' hne b e1 e2
    · have e1 : b ∈ Fb₃ id := by split at hb; exact hb; cases hb
      have hlt : b < w₄.heap.size := by rw [h4s]; exact st₃.lt b (.inr ⟨id, e1⟩)
      rcases hown3 b (.inr ⟨id, e1⟩) with hge | ⟨id0, hid0⟩
      · refine ⟨fun hc => ?_, fun hc => ?_, fun hc => ?_, ?_, ?_, hlt⟩
        · have := (h.keep b hc).2.1; have := h.size; omega
        · have := hO b hc; omega
        · have := (hG1 b hc).1; omega
        · omega
        · have := h.d_lt; omega
      · obtain ⟨q1, q2, q3, q4, q5, q6⟩ := h.own id0 b hid0
        exact ⟨q1, q2, q3, q4, q5, hlt⟩
    · obtain ⟨q1, q2, q3, q4⟩ := h.keep b hb
      have := h.size
      refine ⟨?_, q2, q3, q4⟩
      rw [hsame b (by omega) (fun ⟨id, hid⟩ => (h.own id b hid).1 hb) q3]
      exact q1
    · rw [hsame dd h.d_lt (fun ⟨id, hid⟩ => (h.own id dd hid).2.2.2.2.1 rfl) (fun hc => h.ld hc.symm)]
      exact h.def_
  have fin : ∀ j : Option Code, j = jmp e → ∃ v' w', (Instr.endRound l j).run P w₃ = .ok v' w' ∧ (∃ s, (Ending.returned v') = .returned (.bool (!s)) ∧ ∃ e bx' Fb', E e bx' ∧ s = (jmp e).isSome ∧ w'.heap[l]? = some (.loop { r with state := if (jmp e).isNone then .ready else .done, pending := jmp e }) ∧
      Last C n a env0 ids ρ0 G1 sz l dd bx' Fb' O w' ∧ (∀ b, b < w.heap.size → (¬ ∃ id, b ∈ Fb id) → b ≠ l → w'.heap[b]? = w.heap[b]?) ∧ w.heap.size ≤ w'.heap.size) := by
    intro j hj
    obtain ⟨bx', Fb', hb', k1, k2, k3⟩ := key j hj
    refine ⟨_, _, run_endRound j hrec3, j.isSome, by cases j <;> rfl, e, bx', Fb', by rw [hb']; exact hEe, by rw [hj], ?_, ?_, ?_, ?_⟩
    · rw [← hj]; exact k1
    · exact k2
    · exact k3
    · simp; omega
  rcases hE e _ hEe with rfl | rfl | ⟨id, rfl⟩
  · exact fin none rfl
  · exact fin (some .ret) rfl
  · exact fin (some (.exit id)) rfl

/-! ### the function that holds the loop -/
def markOf (dd : Nat) : Deferred := { target := .collected dd, args := #[] }
/-- package variables, as they lie when a function is entered -/
def Glw (gl : List (Nat × D)) (W0 : World) (G : Nat → Prop) : Prop :=
  ∀ g d, (g, d) ∈ gl → g < W0.heap.size ∧ G g ∧ ∃ cs e fz, W0.heap[g]? = some (.cells cs e fz) ∧ Rc W0 (fun x => x) (fun _ => False) (fun _ => False) false d cs.toList []
/-- within a function that ranges over another one: ahead of the loop (false), behind it (true) -/
def relF (gl : List (Nat × D)) (W0 : World) (G : Nat → Prop) : Rel gl Bool where
  r m C := C.gl = gl ∧ C.rd = none ∧ (∀ id, C.pin id = none) ∧ (∀ b, b < W0.heap.size → C.keep b) ∧ Ext W0 C.w0 ∧ (∀ b, C.ok b → G b ∨ W0.heap.size ≤ b) ∧
    (match m with
     | false => C.df = []
     | true => ∃ dd, C.df = [markOf dd] ∧ W0.heap.size ≤ dd ∧ C.keep dd ∧ C.w0.heap[dd]? = some (.deferred (some [])) ∧ ¬ C.ok dd)
  gl h := h.1
  rd h := h.2.1
  pin h := h.2.2.1

section
variable {gl : List (Nat × D)} {W0 : World} {G : Nat → Prop} {m : Bool}
/-- behind the loop -/
theorem Last.finish {n : Nat} {env0 : List (Nat × D)} {ids : List Nat} {G1 : Nat → Prop} {sz l dd : Nat} {bx : List (Nat × Bx)} {O : Nat → Prop} (h : Last C n a env0 ids ρ G1 sz l dd bx Fb O w) (hsz : a.tmps.size = n) (hpe : purEnv env0 = true)
    (hk : ∀ b, b < W0.heap.size → C.keep b) (hG1 : ∀ b, G1 b → G b ∨ W0.heap.size ≤ b) (hx : Ext W0 C.w0) (hdd : W0.heap.size ≤ dd)
    (hgl : Glw gl W0 G) (o : Obj) : AM (relF gl W0 G) (true, ⟨n, env0, bx⟩) { a with defers := [markOf dd] } (w.putObj l o) := by
  have h4o : ∀ b, b ≠ l → (w.putObj l o).heap[b]? = w.heap[b]? := fun b hb => World.putObj_heap_other hb
  have hW0 : ∀ b, b < W0.heap.size → (w.putObj l o).heap[b]? = W0.heap[b]? := fun b hb => by
    obtain ⟨q1, q2, q3, q4⟩ := h.keep b (hk b hb)
    rw [h4o b q3, q1, hx.block b hb]
  have hd4 : (w.putObj l o).heap[dd]? = some (.deferred (some [])) := by rw [h4o dd (fun hc => h.ld hc.symm)]; exact h.def_
  have hddw : dd < (w.putObj l o).heap.size := by rw [World.putObj_size]; exact h.d_lt
  have hWs : W0.heap.size ≤ (w.putObj l o).heap.size := Nat.le_trans hdd (Nat.le_of_lt hddw)
  let C' : Ctx := ⟨w.putObj l o, fun b => b < W0.heap.size ∨ b = dd, fun b => (G b ∨ W0.heap.size ≤ b) ∧ b ≠ dd, gl, none, fun _ => none, [markOf dd]⟩
  have hown : ∀ b, Go.Sx.own (fun _ => []) Fb b → ∃ id, b ∈ Fb id := by
    rintro b (⟨_, h⟩ | h)
    · cases h
    · exact h
  refine ⟨C', ⟨rfl, rfl, fun _ => rfl, fun b hb => .inl hb, ⟨h.os.trans hx.os, h.tape.trans hx.tape, h.output.trans hx.output, hWs, hW0⟩, fun b hb => hb.1, ⟨dd, rfl, hdd, .inr rfl, hd4, fun hc => hc.2 rfl⟩⟩, ρ, fun _ => [], Fb, ?_⟩
  refine StW.mk (by simpa using hsz) rfl (fun _ _ hp => by cases hp) (fun t x hx' => ?_) (fun _ _ => rfl) (fun id x hx' => ?_) (fun id hid => h.boxN id hid) (fun _ => List.nodup_nil) h.nodB (fun _ _ _ _ h => by cases h) (fun _ _ _ h => by cases h) h.dBB
    (fun b hb hc => ?_) (fun b hb => ⟨rfl, ?_⟩) rfl rfl rfl (Nat.le_refl _) (fun g d hg => ?_) (fun b hb => ⟨.inr (Nat.le_trans hWs hb), fun hc => by subst hc; omega⟩) (fun b hb => ?_)
  · obtain ⟨hp1, hp2⟩ := purEnv_get hpe (show lk env0 t = some x from hx')
    obtain ⟨v0, k1, k2⟩ := h.env t x hx'
    refine (SR_plain hp2).2 ⟨v0, k1, k2.mono (fun b hb hl => h4o b (h.G1_lt b (hb.resolve_right (by simp))).2.1) (fun b hb hl => ⟨⟨hG1 b hb, (h.G1_lt b hb).2.2⟩, fun hc => ?_⟩) (fun id hid => ⟨by show (lk bx id).isSome = true; rw [h.keys]; exact hid, rfl⟩)⟩
    obtain ⟨id, hid⟩ := hown b hc
    exact (h.own id b hid).2.2.1 hb
  · obtain ⟨d0, rfl, hf, hn0⟩ := frsBx_get h.frs (show lk bx id = some x from hx')
    obtain ⟨cs, e, F', k1, k2, k3⟩ := h.box id d0 hx'
    have hnl : ∀ b ∈ Fb id, b ≠ l := fun b hb => (h.own id b hb).2.2.2.1
    refine ⟨cs, e, F', ?_, k2.frsAll hf hn0 (fun b hb _ => h4o b (hnl b (by rw [k3]; exact List.mem_cons_of_mem _ hb))), k3⟩
    rw [h4o _ (hnl _ (by rw [k3]; simp))]
    exact k1
  · obtain ⟨id, hid⟩ := hown b hb
    obtain ⟨q1, _, _, _, q5, _⟩ := h.own id b hid
    rcases hc with hc | hc
    · exact q1 (hk b hc)
    · exact q5 hc
  · rcases hb with hb | hb
    · show b < (w.putObj l o).heap.size; omega
    · subst hb; exact hddw
  · obtain ⟨q1, q2, cs, e, fz, q3, q4⟩ := hgl g d hg
    refine ⟨.inl q1, ⟨.inl q2, by omega⟩, cs, e, fz, (hW0 g q1).trans q3, q4.mono (fun b hb _ => ?_) (fun _ h => h.elim) (fun _ h => h.elim)⟩
    rcases hb with hb | hb
    · exact hb.elim
    · cases hb
  · obtain ⟨id, hid⟩ := hown b hb
    obtain ⟨q1, _, _, _, q5, _⟩ := h.own id b hid
    refine ⟨.inr (Nat.le_of_not_lt (fun hc => q1 (hk b hc))), q5⟩
end
end Go.Sx
