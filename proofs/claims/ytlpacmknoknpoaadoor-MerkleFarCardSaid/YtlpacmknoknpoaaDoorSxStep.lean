/-
  Own library, part 3: how a state is handed on.
-/
import Derived.Test.YtlpacmknoknpoaaDoorSxState
set_option linter.unusedVariables false
set_option linter.unusedSimpArgs false
set_option linter.unnecessarySimpa false
namespace Go.Sx

/-- nothing that was there has turned -/
structure Ext (w w' : World) : Prop where
  os : w'.os = w.os
  tape : w'.tape = w.tape
  output : w'.output = w.output
  size : w.heap.size ≤ w'.heap.size
  block : ∀ b, b < w.heap.size → w'.heap[b]? = w.heap[b]?

theorem Ext.refl (w : World) : Ext w w := ⟨rfl, rfl, rfl, Nat.le_refl _, fun _ _ => rfl⟩
theorem Ext.trans {a b c : World} (h : Ext a b) (k : Ext b c) : Ext a c :=
  ⟨k.os.trans h.os, k.tape.trans h.tape, k.output.trans h.output, Nat.le_trans h.size k.size,
   fun x hx => (k.block x (Nat.lt_of_lt_of_le hx h.size)).trans (h.block x hx)⟩
theorem Ext.drew (w : World) : Ext w w.drew := ⟨rfl, rfl, rfl, Nat.le_refl _, fun _ _ => rfl⟩
theorem Ext.alloc (w : World) (o : Obj) : Ext w (w.alloc o) := ⟨rfl, rfl, rfl, by simp, fun b hb => heap_alloc_old w o hb⟩

theorem Ext.cell {w w' : World} (h : Ext w w') {a : Addr} {v : Value} (hv : w.cell? a = some v) : w'.cell? a = some v := by
  have hlt := block_lt_of_cell hv
  rw [← hv]; exact World.cell?_of_block (h.block _ hlt)

def upd (F : Nat → List Nat) (t : Nat) (x : List Nat) : Nat → List Nat := fun u => if u = t then x else F u
@[simp] theorem upd_same (F : Nat → List Nat) (t : Nat) (x : List Nat) : upd F t x t = x := by simp [upd]
theorem upd_other {F : Nat → List Nat} {t u : Nat} {x : List Nat} (h : u ≠ t) : upd F t x u = F u := by simp [upd, h]

theorem put_get (a : Act) (t : Nat) (v : Value) (u : Nat) (ht : t < a.tmps.size) : (a.put (some t) v).tmps[u]? = if u = t then some v else a.tmps[u]? := by
  simp only [Act.put, Array.getElem?_setIfInBounds]
  by_cases h : t = u
  · subst h; simp [ht]
  · simp [h, show ¬ u = t from fun e => h e.symm]

variable {P : Program} {C : Ctx} {σ σ' : Sg} {a : Act} {w w' : World} {ρ : Nat → Nat} {Fe Fb : Nat → List Nat}

/-- another slot's content, when slot t is written -/
theorem SR_other {G G' L L' : Nat → Prop} {t u : Nat} {d : D} {v : Value} {ρ' : Nat → Nat} {F : List Nat} (hu : u ≠ t) (ht : t < a.tmps.size) (h : SR w ρ G L a u d F)
    (hh : ∀ b, (G b ∨ b ∈ F) → b < w.heap.size → w'.heap[b]? = w.heap[b]?) (hg : ∀ b, G b → b < w.heap.size → G' b) (hL : ∀ id, L id → L' id ∧ ρ' id = ρ id)
    (hc : ∀ id off v, L id → w.cell? ⟨ρ id, off, none⟩ = some v → w'.cell? ⟨ρ id, off, none⟩ = some v) :
    SR w' ρ' G' L' (a.put (some t) v) u (scrub t d) F := by
  have dead : ∀ x, a.tmps[u]? = some x → F = [] → SR w' ρ' G' L' (a.put (some t) v) u .dead F := by
    intro x hx hF
    exact ⟨hF, x, by rw [put_get a t v u ht]; simp [hu, hx]⟩
  have same : (a.put (some t) v).tmps[u]? = a.tmps[u]? := by rw [put_get a t v u ht]; simp [hu]
  have sames : ∀ s, s ≠ t → (a.put (some t) v).tmps[s]? = a.tmps[s]? := fun s hs => by rw [put_get a t v s ht]; simp [hs]
  cases d with
  | al s =>
    obtain ⟨hF, x, hx, hs⟩ := h
    simp only [scrub]
    by_cases hst : s = t
    · subst hst; simp only [Nat.beq_refl, cond_true]; exact dead x hx hF
    · simp only [nbeq hst, cond_false]; exact ⟨hF, x, by rw [same]; exact hx, by rw [sames s hst]; exact hs⟩
  | alb id off path =>
    obtain ⟨hF, hid, x, hx, hs⟩ := h
    simp only [scrub]
    refine ⟨hF, (hL id hid).1, x, by rw [same]; exact hx, ?_⟩
    rw [(hL id hid).2]; exact hc id off x hid hs
  | vw s z lo n =>
    obtain ⟨hF, v0, v1, h1, h2, h3⟩ := h
    simp only [scrub]
    by_cases hst : s = t
    · subst hst; simp only [Nat.beq_refl, cond_true]; exact dead _ h2 hF
    · simp only [nbeq hst, cond_false]; exact ⟨hF, v0, v1, by rw [sames s hst]; exact h1, by rw [same]; exact h2, h3⟩
  | va id off z n path lo =>
    obtain ⟨hF, hid, cap, o', h1, h0, h2⟩ := h
    simp only [scrub]
    refine ⟨hF, (hL id hid).1, cap, o', h1, h0, by rw [same, (hL id hid).2]; exact h2⟩
  | ep s z i off path =>
    obtain ⟨hF, b, o, len, cap, h1, h2, h3⟩ := h
    simp only [scrub]
    by_cases hst : s = t
    · subst hst; simp only [Nat.beq_refl, cond_true]; exact dead _ h2 hF
    · simp only [nbeq hst, cond_false]; exact ⟨hF, b, o, len, cap, by rw [sames s hst]; exact h1, by rw [same]; exact h2, h3⟩
  | tup ds =>
    obtain ⟨vs, Fs, h1, h2, h3, h4⟩ := h
    simp only [scrub]
    refine ⟨vs, Fs, by rw [same]; exact h1, h2, h3, fun k hk => (h4 k hk).imp id fun hx => ⟨hx.1, hx.2.mono (fun b hb => hh b (hb.imp id fun hm => ?_)) hg hL⟩⟩
    rw [h3]; exact List.mem_flatMap.2 ⟨k, List.mem_range.2 hk, hm⟩
  | dead => obtain ⟨hF, x, hx⟩ := h; exact dead x hx hF
  | _ =>
    obtain ⟨x, hx, hr⟩ := h
    exact ⟨x, by rw [same]; exact hx, hr.mono hh hg hL⟩

theorem BR.mono {ρ' : Nat → Nat} {G G' L L' : Nat → Prop} {b : Nat} {x : Bx} {F : List Nat} (h : BR w ρ G L b x F)
    (hh : ∀ b, (G b ∨ b ∈ F) → b < w.heap.size → w'.heap[b]? = w.heap[b]?) (hg : ∀ b, G b → b < w.heap.size → G' b) (hL : ∀ id, L id → L' id ∧ ρ' id = ρ id) : BR w' ρ' G' L' b x F := by
  cases x with
  | var d =>
    obtain ⟨cs, e, F', hb, hr, rfl⟩ := h
    have hlt : b < w.heap.size := (Array.getElem?_eq_some_iff.1 hb).1
    exact ⟨cs, e, F', (hh b (.inr (by simp)) hlt).trans hb, hr.mono (fun b' hb' => hh b' (hb'.imp id fun hm => List.mem_cons_of_mem _ hm)) hg hL, rfl⟩
  | mp l =>
    obtain ⟨rfl, es, clock, hb, hs, hk⟩ := h
    have hlt : b < w.heap.size := (Array.getElem?_eq_some_iff.1 hb).1
    refine ⟨rfl, es, clock, (hh b (.inr (by simp)) hlt).trans hb, hs, fun k hlt => ⟨?_, ?_, (hk k hlt).2.2⟩⟩
    · exact (hk k hlt).1.mono (fun b hb => hh b (.inl (hb.resolve_right (by simp)))) hg hL
    · exact (hk k hlt).2.1.mono (fun b hb => hh b (.inl (hb.resolve_right (by simp)))) hg hL

theorem BR.lt {G L : Nat → Prop} {b : Nat} {x : Bx} {F : List Nat} (h : BR w ρ G L b x F) : ∀ y ∈ F, y < w.heap.size := by
  cases x with
  | var d =>
    obtain ⟨cs, e, F', hb, hr, rfl⟩ := h
    intro y hy
    rcases List.mem_cons.1 hy with rfl | hm
    · exact (Array.getElem?_eq_some_iff.1 hb).1
    · exact hr.lt y hm
  | mp l =>
    obtain ⟨rfl, es, clock, hb, hs, hk⟩ := h
    intro y hy
    simp at hy; subst hy
    exact (Array.getElem?_eq_some_iff.1 hb).1

theorem BR.mem {G L : Nat → Prop} {b : Nat} {x : Bx} {F : List Nat} (h : BR w ρ G L b x F) : b ∈ F := by
  cases x with
  | var d => obtain ⟨cs, e, F', hb, hr, rfl⟩ := h; simp
  | mp l => obtain ⟨rfl, _⟩ := h; simp

theorem SR.lt {G L : Nat → Prop} {t : Nat} {d : D} {F : List Nat} (h : SR w ρ G L a t d F) : ∀ y ∈ F, y < w.heap.size := by
  cases d with
  | al s => obtain ⟨rfl, _⟩ := h; simp
  | alb id off path => obtain ⟨rfl, _⟩ := h; simp
  | vw s z lo n => obtain ⟨rfl, _⟩ := h; simp
  | va id off z n path lo => obtain ⟨rfl, _⟩ := h; simp
  | ep s z i off path => obtain ⟨rfl, _⟩ := h; simp
  | tup ds =>
    obtain ⟨vs, Fs, h1, h2, rfl, h4⟩ := h
    intro y hy
    obtain ⟨k, hk, hm⟩ := List.mem_flatMap.1 hy
    rcases h4 k (List.mem_range.1 hk) with ⟨_, h5⟩ | h5
    · rw [h5] at hm; cases hm
    · exact h5.2.lt y hm
  | dead => obtain ⟨rfl, _⟩ := h; simp
  | _ => obtain ⟨x, hx, hr⟩ := h; exact hr.lt

theorem StW.lt (h : StW C σ a w ρ Fe Fb) : ∀ b, own Fe Fb b → b < w.heap.size := by
  rintro b (⟨t, ht⟩ | ⟨id, hid⟩)
  · cases hg : σ.get t with
    | none => rw [h.envN t hg] at ht; cases ht
    | some d => exact (h.env t d hg).lt b ht
  · cases hg : σ.box id with
    | none => rw [h.bxN id hg] at hid; cases hid
    | some d => exact (h.bx id d hg).lt b hid

/-- A slot is written with what is new or owns nothing; the world may have grown. -/
theorem StW.ext {t : Nat} {d : D} {v : Value} {F : List Nat} (h : StW C σ a w ρ Fe Fb) (ht : t < σ.n) (hw : Ext w w') (hF : F.Nodup) (hnew : ∀ b ∈ F, w.heap.size ≤ b)
    (hv : SR w' ρ (gd C (upd Fe t F) Fb) (fun id => (σ.box id).isSome) (a.put (some t) v) t d F) :
    StW C (σ.set t d) (a.put (some t) v) w' ρ (upd Fe t F) Fb := by
  have hsz : t < a.tmps.size := by rw [h.size]; exact ht
  have hlt := h.lt
  have hg : ∀ b, gd C Fe Fb b → b < w.heap.size → gd C (upd Fe t F) Fb b := by
    rintro b ⟨hok, hb⟩ hlt'
    refine ⟨hok, ?_⟩
    rintro (⟨u, hu⟩ | ⟨id, hid⟩)
    · by_cases hut : u = t
      · subst hut; simp at hu; have := hnew b hu; omega
      · rw [upd_other hut] at hu; exact hb (.inl ⟨u, hu⟩)
    · exact hb (.inr ⟨id, hid⟩)
  have hh : ∀ b, b < w.heap.size → w'.heap[b]? = w.heap[b]? := hw.block
  have hL : ∀ id, (fun id => (σ.box id).isSome = true) id → (fun id => ((σ.set t d).box id).isSome = true) id ∧ ρ id = ρ id := fun id hid => ⟨hid, rfl⟩
  refine ⟨?_, h.defs, h.pin, ?_, ?_, ?_, h.bxN, ?_, h.nodB, ?_, ?_, h.dBB, ?_, ?_, hw.os.trans h.os, hw.tape.trans h.tape, hw.output.trans h.output, Nat.le_trans h.grown hw.size, h.gl, fun b hb => h.okN b (Nat.le_trans hw.size hb), ?_⟩
  · simp [Act.put, h.size]
  · intro u x hx
    rw [get_set] at hx
    by_cases hut : u = t
    · subst hut; simp at hx; subst hx; simp only [upd_same]; exact hv
    · simp only [hut, if_false] at hx
      obtain ⟨d0, hd0, rfl⟩ := Option.map_eq_some_iff.1 hx
      rw [upd_other hut]
      exact SR_other hut hsz (h.env u d0 hd0) (fun b _ hb => hh b hb) hg hL (fun id off v _ hc => hw.cell hc)
  · intro u hu
    rw [get_set] at hu
    by_cases hut : u = t
    · simp [hut] at hu
    · simp only [hut, if_false, Option.map_eq_none_iff] at hu
      rw [upd_other hut]; exact h.envN u hu
  · intro id x hx
    exact (h.bx id x hx).mono (fun b _ hb => hh b hb) hg hL
  · intro u
    by_cases hut : u = t
    · subst hut; simpa using hF
    · rw [upd_other hut]; exact h.nodE u
  · intro u u' huu b hb hb'
    by_cases hut : u = t
    · subst hut
      rw [upd_other (fun e => huu e.symm)] at hb'
      simp at hb
      have := hnew b hb; have := hlt b (.inl ⟨u', hb'⟩); omega
    · rw [upd_other hut] at hb
      by_cases hut' : u' = t
      · subst hut'; simp at hb'; have := hnew b hb'; have := hlt b (.inl ⟨u, hb⟩); omega
      · rw [upd_other hut'] at hb'; exact h.dEE u u' huu b hb hb'
  · intro u id b hb hb'
    by_cases hut : u = t
    · subst hut; simp at hb; have := hnew b hb; have := hlt b (.inr ⟨id, hb'⟩); omega
    · rw [upd_other hut] at hb; exact h.dEB u id b hb hb'
  · rintro b (⟨u, hu⟩ | ⟨id, hid⟩) hk
    · by_cases hut : u = t
      · subst hut; simp at hu; have := hnew b hu; have := (h.kept b hk).2; have := h.grown; omega
      · rw [upd_other hut] at hu; exact h.new b (.inl ⟨u, hu⟩) hk
    · exact h.new b (.inr ⟨id, hid⟩) hk
  · intro b hk
    have := h.kept b hk
    exact ⟨(hh b (Nat.lt_of_lt_of_le this.2 h.grown)).trans this.1, this.2⟩
  · rintro b (⟨u, hu⟩ | ⟨id, hid⟩)
    · by_cases hut : u = t
      · subst hut; simp at hu; exact h.okN b (hnew b hu)
      · rw [upd_other hut] at hu; exact h.okO b (.inl ⟨u, hu⟩)
    · exact h.okO b (.inr ⟨id, hid⟩)

/-- a pure result, the world as it was or grown -/
theorem StW.setV {t : Nat} {d : D} {v : Value} (h : StW C σ a w ρ Fe Fb) (ht : t < σ.n) (hw : Ext w w') (hd : d.isRef = false)
    (hv : VR w' ρ (gd C (upd Fe t []) Fb) (fun id => (σ.box id).isSome) d v []) : St C (σ.set t d) (a.put (some t) v) w' :=
  ⟨ρ, upd Fe t [], Fb, h.ext ht hw List.nodup_nil (by simp) ((SR_plain hd).2 ⟨v, by rw [put_get a t v t (by rw [h.size]; exact ht)]; simp, hv⟩)⟩

/-- fewer slots -/
theorem St.weaken (h : St C σ a w) (hn : σ'.n = σ.n) (hb : σ'.bx = σ.bx) (he : ∀ t d, σ'.get t = some d → σ.get t = some d) : St C σ' a w := by
  obtain ⟨ρ, Fe, Fb, h⟩ := h
  have hbox : ∀ id, σ'.box id = σ.box id := fun id => by simp [Sg.box, hb]
  refine ⟨ρ, fun t => if (σ'.get t).isSome then Fe t else [], Fb, ?_⟩
  have hsub : ∀ t b, b ∈ (if (σ'.get t).isSome then Fe t else []) → b ∈ Fe t := by
    intro t b hb'
    split at hb'
    · exact hb'
    · cases hb'
  have hown : ∀ b, own (fun t => if (σ'.get t).isSome then Fe t else []) Fb b → own Fe Fb b := by
    rintro b (⟨t, ht⟩ | hid)
    · exact .inl ⟨t, hsub t b ht⟩
    · exact .inr hid
  have hL : ∀ id, (fun id => (σ.box id).isSome = true) id → (fun id => (σ'.box id).isSome = true) id ∧ ρ id = ρ id := fun id hid => ⟨by simpa [hbox] using hid, rfl⟩
  have hg : ∀ b, gd C Fe Fb b → b < w.heap.size → gd C (fun t => if (σ'.get t).isSome then Fe t else []) Fb b := fun b hb' _ => ⟨hb'.1, fun ho => hb'.2 (hown b ho)⟩
  refine ⟨h.size.trans hn.symm, h.defs, fun id b hp => ⟨(h.pin id b hp).1, by rw [hbox]; exact (h.pin id b hp).2⟩, ?_, ?_, ?_, ?_, ?_, h.nodB, ?_, ?_, h.dBB, ?_, h.kept, h.os, h.tape, h.output, h.grown, h.gl, h.okN, fun b hb => h.okO b (hown b hb)⟩
  · intro t d hd
    have := h.env t d (he t d hd)
    simp only [hd, Option.isSome_some, if_true]
    cases d with
    | al s => exact this
    | alb id off path => exact ⟨this.1, (hL id this.2.1).1, this.2.2⟩
    | vw s z lo n => exact this
    | va id off z n path lo => exact ⟨this.1, (hL id this.2.1).1, this.2.2⟩
    | ep s z i off path => exact this
    | tup ds =>
      obtain ⟨vs, Fs, h1, h2, h3, h4⟩ := this
      exact ⟨vs, Fs, h1, h2, h3, fun k hk => (h4 k hk).imp id fun hx => ⟨hx.1, hx.2.mono (fun _ _ _ => rfl) hg hL⟩⟩
    | dead => exact this
    | _ => obtain ⟨x, hx, hr⟩ := this; exact ⟨x, hx, hr.mono (fun _ _ _ => rfl) hg hL⟩
  · intro t ht; simp [ht]
  · intro id x hx; exact (h.bx id x (by rw [← hbox]; exact hx)).mono (fun _ _ _ => rfl) hg hL
  · intro id hid; exact h.bxN id (by rw [← hbox]; exact hid)
  · intro t
    show (if (σ'.get t).isSome then Fe t else []).Nodup
    split
    · exact h.nodE t
    · exact List.nodup_nil
  · intro t t' htt b hb1 hb2; exact h.dEE t t' htt b (hsub t b hb1) (hsub t' b hb2)
  · intro t id b hb1 hb2; exact h.dEB t id b (hsub t b hb1) hb2
  · intro b hb'; exact h.new b (hown b hb')
end Go.Sx
