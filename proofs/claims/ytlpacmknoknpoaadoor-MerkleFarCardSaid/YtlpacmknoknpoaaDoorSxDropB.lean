/-
  Own library: boxes that nothing leads to any more are forgotten.
-/
import Derived.Test.YtlpacmknoknpoaaDoorSxPlus
set_option linter.unusedVariables false
set_option linter.unusedSimpArgs false
set_option linter.unnecessarySimpa false
namespace Go.Sx
variable {P : Program} {C : Ctx} {σ : Sg} {w : World} {ρ : Nat → Nat}

/-! ### boxes that nothing leads to any more -/
def memB (ids : List Nat) (i : Nat) : Bool := ids.any (Nat.beq i)
mutual
def D.okB (ids : List Nat) : D → Bool
  | .ptr id _ _ => memB ids id
  | .map id => memB ids id
  | .alb id _ _ => memB ids id
  | .va id _ _ _ _ _ => memB ids id
  | .agg l => D.okBs ids l
  | .fn _ l => D.okBs ids l
  | .tup l => D.okBs ids l
  | .ifc _ d => D.okB ids d
  | _ => true
def D.okBs (ids : List Nat) : List D → Bool
  | [] => true
  | d :: r => D.okB ids d && D.okBs ids r
end
theorem okBs_get {ids : List Nat} (l : List D) (h : D.okBs ids l = true) : ∀ k (hk : k < l.length), l[k].okB ids = true := by
  induction l with
  | nil => intro k hk; simp at hk
  | cons d r ih =>
    simp only [D.okBs, Bool.and_eq_true] at h
    intro k hk
    cases k with
    | zero => exact h.1
    | succ k => simpa using ih h.2 k (by simpa using hk)
theorem Rc.okB {ids : List Nat} {G L : Nat → Prop} {p : Bool} {d : D} {cs : List Value} {F : List Nat} (h : Rc w ρ G L p d cs F) (hd : d.okB ids = true) : Rc w ρ G (fun id => memB ids id = true ∧ L id) p d cs F := by
  induction h with
  | bool b => exact .bool b
  | int n => exact .int n
  | u8 x => exact .u8 x
  | u16 x => exact .u16 x
  | u32 x => exact .u32 x
  | u64 x => exact .u64 x
  | ik k n => exact .ik k n
  | str s => exact .str s
  | nils => exact .nils
  | slN o z => exact .slN o z
  | slE o z a => exact .slE o z a
  | slI b off cs e fz cap z l hb hG hc hs hr ih => exact .slI b off cs e fz cap z l hb hG hc hs (fun i hi => (hr i hi).noL)
  | slO b cs e cap z l Fs hb hc hm hs hr ih => exact .slO b cs e cap z l Fs hb hc hm hs (fun i hi => (hr i hi).noL)
  | agg l cs Fs hs hr ih => exact .agg l cs Fs hs (fun k hk => ih k hk (okBs_get l (by simpa [D.okB] using hd) k hk))
  | arr n z l cs hl hs hr ih => exact .arr n z l cs hl hs (fun i hi => (hr i hi).noL)
  | ptr id off path hid => exact .ptr id off path ⟨by simpa [D.okB] using hd, hid⟩
  | nilp => exact .nilp
  | rp d b off cs e fz hb hG hs hr ih => exact .rp d b off cs e fz hb hG hs hr.noL
  | map id hid => exact .map id ⟨by simpa [D.okB] using hd, hid⟩
  | nilmap => exact .nilmap
  | fn f caps vs hl ha hr ih => exact .fn f caps vs hl ha (fun k hk => ih k hk (okBs_get caps (by simpa [D.okB] using hd) k hk))
  | nilf => exact .nilf
  | yld l => exact .yld l
  | ifc t d v ha hr ih => exact .ifc t d v ha (ih (by simpa [D.okB] using hd))
  | nili => exact .nili
  | dead v h => exact .dead v h
theorem VR.okB {ids : List Nat} {G L : Nat → Prop} {d : D} {v : Value} {F : List Nat} (h : VR w ρ G L d v F) (hd : d.okB ids = true) : VR w ρ G (fun id => memB ids id = true ∧ L id) d v F := by
  unfold VR at *
  cases hg : d.isAgg <;> simp only [hg, if_true, if_false, Bool.false_eq_true] at h ⊢
  · exact h.okB hd
  · obtain ⟨cs, rfl, h⟩ := h; exact ⟨cs, rfl, h.okB hd⟩
theorem SR.okB {ids : List Nat} {G L G' L' : Nat → Prop} {a : Act} {t : Nat} {d : D} {F : List Nat} (h : SR w ρ G L a t d F) (hd : d.okB ids = true)
    (hg : ∀ b, G b → b < w.heap.size → G' b) (hL : ∀ id, (memB ids id = true ∧ L id) → L' id) : SR w ρ G' L' a t d F := by
  have key : ∀ (d : D) (v : Value) (F : List Nat), d.okB ids = true → VR w ρ G L d v F → VR w ρ G' L' d v F := fun d v F h1 h2 =>
    (h2.okB h1).mono (fun _ _ _ => rfl) hg (fun id hid => ⟨hL id hid, rfl⟩)
  cases d with
  | alb id off path => obtain ⟨h1, h2, h3⟩ := h; exact ⟨h1, hL _ ⟨by simpa [D.okB] using hd, h2⟩, h3⟩
  | va id off z n path lo => obtain ⟨h1, h2, h3⟩ := h; exact ⟨h1, hL _ ⟨by simpa [D.okB] using hd, h2⟩, h3⟩
  | tup ds =>
    obtain ⟨vs, Fs, h1, h2, h3, h4⟩ := h
    refine ⟨vs, Fs, h1, h2, h3, fun k hk => (h4 k hk).imp id fun ⟨h5, h6⟩ => ⟨h5, key _ _ _ (okBs_get ds (by simpa [D.okB] using hd) k hk) h6⟩⟩
  | al s => exact h
  | vw s z lo n => exact h
  | ep s z i off path => exact h
  | dead => exact h
  | _ => obtain ⟨v, h1, h2⟩ := h; exact ⟨v, h1, key _ _ _ hd h2⟩
def keepB (ids : List Nat) : List (Nat × Bx) → List (Nat × Bx)
  | [] => []
  | (k, b) :: r => bif memB ids k then (k, b) :: keepB ids r else keepB ids r
theorem lk_keepB (ids : List Nat) (l : List (Nat × Bx)) (u : Nat) : lk (keepB ids l) u = if memB ids u then lk l u else none := by
  induction l with
  | nil => simp [keepB, lk]
  | cons x r ih =>
    obtain ⟨k, d⟩ := x
    simp only [keepB, lk_cons]
    by_cases hk : memB ids k = true
    · simp only [hk, cond_true, lk_cons, ih]
      by_cases hku : k = u
      · subst hku; simp [hk]
      · simp [hku]
    · have hk' : memB ids k = false := by simpa using hk
      simp only [hk', cond_false, ih]
      by_cases hku : k = u
      · subst hku; simp [hk']
      · simp [hku]
def okEnvB (ids : List Nat) : List (Nat × D) → Bool
  | [] => true
  | (_, d) :: r => d.okB ids && okEnvB ids r
def okBx (ids : List Nat) : List (Nat × Bx) → Bool
  | [] => true
  | (_, .var d) :: r => d.okB ids && okBx ids r
  | (_, .mp _) :: _ => false
theorem okEnvB_get {ids : List Nat} {l : List (Nat × D)} (h : okEnvB ids l = true) {t : Nat} {d : D} (hd : lk l t = some d) : d.okB ids = true := by
  induction l with
  | nil => simp [lk] at hd
  | cons x r ih =>
    obtain ⟨k, e⟩ := x
    simp only [okEnvB, Bool.and_eq_true] at h
    rw [lk_cons] at hd
    by_cases hk : k = t
    · simp only [hk, if_true, Option.some.injEq] at hd; subst hd; exact h.1
    · simp only [hk, if_false] at hd; exact ih h.2 hd
theorem okBx_get {ids : List Nat} {l : List (Nat × Bx)} (h : okBx ids l = true) {t : Nat} {b : Bx} (hd : lk l t = some b) : ∃ d, b = .var d ∧ d.okB ids = true := by
  induction l with
  | nil => simp [lk] at hd
  | cons x r ih =>
    obtain ⟨k, e⟩ := x
    cases e with
    | mp => simp [okBx] at h
    | var e =>
      simp only [okBx, Bool.and_eq_true] at h
      rw [lk_cons] at hd
      by_cases hk : k = t
      · simp only [hk, if_true, Option.some.injEq] at hd; subst hd; exact ⟨e, rfl, h.1⟩
      · simp only [hk, if_false] at hd; exact ih h.2 hd
theorem W.dropB {c : Code} {Q : Exit → Sg → Prop} (ids : List Nat) {bx' : List (Nat × Bx)} (hb : keepB ids σ.bx = bx') (he : okEnvB ids σ.env = true) (hx : okBx ids bx' = true) (hpn : ∀ id b, C.pin id = some b → memB ids id = true) (h : W P C c Q ⟨σ.n, σ.env, bx'⟩) : W P C c Q σ := by
  intro a w ⟨ρ, Fe, Fb, st⟩
  refine h a w ?_
  have hl : ∀ u, lk bx' u = if memB ids u then σ.box u else none := fun u => by rw [← hb]; exact lk_keepB ids σ.bx u
  have hsub : ∀ id, ∀ b ∈ (if memB ids id then Fb id else []), b ∈ Fb id := fun id b hm => by split at hm; exact hm; cases hm
  have hown : ∀ b, own Fe (fun id => if memB ids id then Fb id else []) b → own Fe Fb b := fun b hb => hb.imp id fun ⟨i, hi⟩ => ⟨i, hsub i b hi⟩
  have hgd : ∀ b, gd C Fe Fb b → gd C Fe (fun id => if memB ids id then Fb id else []) b := fun b hb => ⟨hb.1, fun hc => hb.2 (hown b hc)⟩
  have hL : ∀ id, (memB ids id = true ∧ (σ.box id).isSome) → (lk bx' id).isSome := fun id ⟨h1, h2⟩ => by rw [hl, if_pos h1]; exact h2
  exact ⟨ρ, Fe, (fun id => if memB ids id then Fb id else []), {
    size := st.size
    defs := st.defs
    pin := fun id b hp => ⟨(st.pin id b hp).1, hL id ⟨hpn id b hp, (st.pin id b hp).2⟩⟩
    env := fun t d hd => (st.env t d hd).okB (okEnvB_get he hd) (fun b hb _ => hgd b hb) hL
    envN := st.envN
    bx := fun id b hd => by
      obtain ⟨d, rfl, hok⟩ := okBx_get hx hd
      have h1 := hl id
      by_cases hm : memB ids id = true
      · rw [if_pos hm] at h1
        have h2 : σ.box id = some (.var d) := by rw [← h1]; exact hd
        obtain ⟨cs, e, F', h3, h4, h5⟩ := st.bx id _ h2
        refine ⟨cs, e, F', h3, (h4.okB hok).mono (fun _ _ _ => rfl) (fun b hb _ => hgd b hb) (fun id hid => ⟨hL id hid, rfl⟩), by simp only [hm, if_true]; exact h5⟩
      · rw [if_neg hm] at h1
        rw [show lk bx' id = some (.var d) from hd] at h1
        cases h1
    bxN := fun id hn => by
      have h1 := hl id
      by_cases hm : memB ids id = true
      · rw [if_pos hm] at h1
        simp only [hm, if_true]
        exact st.bxN id (by rw [← h1]; exact hn)
      · simp [hm]
    nodE := st.nodE
    nodB := fun id => by show (if memB ids id then Fb id else []).Nodup; split; exact st.nodB id; exact List.nodup_nil
    dEE := st.dEE
    dEB := fun t id b hb hm => st.dEB t id b hb (hsub id b hm)
    dBB := fun id id' hne b hb hm => st.dBB id id' hne b (hsub id b hb) (hsub id' b hm)
    new := fun b hb => st.new b (hown b hb)
    kept := st.kept
    os := st.os
    tape := st.tape
    output := st.output
    grown := st.grown
    gl := st.gl
    okN := st.okN
    okO := fun b hb => st.okO b (hown b hb) }⟩
theorem pin_sub {C : Ctx} {pins ids : List Nat} (h : ∀ id b, C.pin id = some b → memN pins id = true) (hs : pins.all (memB ids) = true) : ∀ id b, C.pin id = some b → memB ids id = true := fun id b hp => by
  have h1 := h id b hp
  simp only [memN, List.any_eq_true] at h1
  obtain ⟨x, hx, he⟩ := h1
  have := List.all_eq_true.1 hs x hx
  rw [Nat.eq_of_beq_eq_true he]
  exact this
end Go.Sx
