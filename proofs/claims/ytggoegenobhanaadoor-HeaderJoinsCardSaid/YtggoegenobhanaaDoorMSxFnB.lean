/-
  Own library: functions to which boxes are lent.
-/
import Derived.Test.YtggoegenobhanaaDoorMSxRange
import Derived.Laws.StructEq
set_option linter.unusedVariables false
set_option linter.unusedSimpArgs false
set_option linter.unnecessarySimpa false

namespace Go.Sx

variable {P : Program} {C : Ctx} {σ σ' σ1 σ2 : Sg} {a : Act} {w w' : World} {ρ ρ2 : Nat → Nat} {Fe Fe' Fb Fb2 : Nat → List Nat}

/-- boxes, as they are handed over -/
structure Hand (bx : List (Nat × Bx)) (w : World) (ρ : Nat → Nat) (G : Nat → Prop) (Fb : Nat → List Nat) : Prop where
  box : ∀ id x, lk bx id = some x → BR w ρ G (fun i => (lk bx i).isSome = true) (ρ id) x (Fb id)
  boxN : ∀ id, lk bx id = none → Fb id = []
  nodB : ∀ id, (Fb id).Nodup
  dBB : ∀ id id', id ≠ id' → ∀ b, b ∈ Fb id → b ∉ Fb id'
  out : ∀ id b, b ∈ Fb id → ¬ G b

/-- function f, called with data ds and boxes bx, returns r; the boxes hold bx' then, and nw are new ones -/
def FnB (P : Program) (gl : List (Nat × D)) (f : FuncId) (ds : List D) (bx : List (Nat × Bx)) (r : D) (bx' nw : List (Nat × Bx)) : Prop :=
  ∀ (w : World) (G : Nat → Prop) (ρ : Nat → Nat) (Fb : Nat → List Nat) (vs : List Value),
    (∀ g d, (g, d) ∈ gl → G g ∧ ∃ cs e fz, w.heap[g]? = some (.cells cs e fz) ∧ Rc w (fun x => x) (fun _ => False) (fun _ => False) false d cs.toList []) →
    (∀ b, G b → b < w.heap.size) →
    vs.length = ds.length → (∀ k (h : k < ds.length), VR w ρ G (fun i => (lk bx i).isSome = true) ds[k] (vs.getD k undef) []) → Hand bx w ρ G Fb →
    Calls P f vs.toArray w (fun e w' => ∃ v F ρ' Fb', e = .returned v ∧ ExtO (fun b => ∃ id, b ∈ Fb id) w w' ∧ (∀ id, (lk bx id).isSome = true → ρ' id = ρ id) ∧ F.Nodup ∧
      (∀ b, (b ∈ F ∨ ∃ id, b ∈ Fb' id) → w.heap.size ≤ b ∨ ∃ id, b ∈ Fb id) ∧ (∀ id, ∀ b ∈ F, b ∉ Fb' id) ∧ (∀ b ∈ F, b < w'.heap.size) ∧
      Hand (nw ++ bx') w' ρ' (fun b => (G b ∨ w.heap.size ≤ b ∨ ∃ id, b ∈ Fb id) ∧ b ∉ F ∧ ¬ ∃ id, b ∈ Fb' id) Fb' ∧
      RV w' ρ' (fun b => (G b ∨ w.heap.size ≤ b ∨ ∃ id, b ∈ Fb id) ∧ b ∉ F ∧ ¬ ∃ id, b ∈ Fb' id) (fun i => (lk (nw ++ bx') i).isSome = true) r v F)

/-! ### from the walk of a function's code -/
/-- at the end of a function -/
def EndR (rs : List ResultVar) (P : Program) (r : D) (σ : Sg) : Prop :=
  match rs with
  | [rv] => outS σ rv = some r ∧ r.isRef = false ∧ RtT P r rv
  | rs => ∃ ds, r = .tup ds ∧ ds.length = rs.length ∧ (rs.map (srcS σ)).Nodup ∧ ∀ k (h : k < rs.length) (h' : k < ds.length), outS σ rs[k] = some ds[k] ∧ ds[k].isRef = false ∧ RtT P ds[k] rs[k]

theorem EndR.out {fn : Func} {r : D} (st : StW C σ a w ρ Fe Fb) (hend : EndR fn.results.toList P r σ) :
    ∃ v, (results fn a.tmps).run P w = .ok v w ∧ ∃ F, F.Nodup ∧ (∀ b ∈ F, ∃ rv ∈ fn.results.toList, b ∈ (if (srcS σ rv).2 then Fe (srcS σ rv).1 else Fb (srcS σ rv).1)) ∧ RV w ρ (gd C Fe Fb) (fun id => (σ.box id).isSome = true) r v F := by
  have one : ∀ rv, fn.results.toList = [rv] → outS σ rv = some r ∧ r.isRef = false ∧ RtT P r rv →
      ∃ v, (results fn a.tmps).run P w = .ok v w ∧ ∃ F, F.Nodup ∧ (∀ b ∈ F, ∃ rv ∈ fn.results.toList, b ∈ (if (srcS σ rv).2 then Fe (srcS σ rv).1 else Fb (srcS σ rv).1)) ∧ RV w ρ (gd C Fe Fb) (fun id => (σ.box id).isSome = true) r v F := by
    rintro rv hrs ⟨h1, h2, h4⟩
    obtain ⟨v, F, hv1, hv2, hv3, hv4⟩ := outS_ok (P := P) st h1 h2 h4
    refine ⟨v, ?_, F, hv3, fun b hb => ⟨rv, by rw [hrs]; simp, hv4 b hb⟩, (RV_plain h2).2 hv2⟩
    rw [results_run hrs (fun _ => v) w (fun k hk => by
      have : k = 0 := by simp at hk; omega
      subst this; exact hv1)]
    rfl
  have many : ∀ rs, fn.results.toList = rs → rs.length ≠ 1 → (∃ ds, r = .tup ds ∧ ds.length = rs.length ∧ (rs.map (srcS σ)).Nodup ∧ ∀ k (h : k < rs.length) (h' : k < ds.length), outS σ rs[k] = some ds[k] ∧ ds[k].isRef = false ∧ RtT P ds[k] rs[k]) →
      ∃ v, (results fn a.tmps).run P w = .ok v w ∧ ∃ F, F.Nodup ∧ (∀ b ∈ F, ∃ rv ∈ fn.results.toList, b ∈ (if (srcS σ rv).2 then Fe (srcS σ rv).1 else Fb (srcS σ rv).1)) ∧ RV w ρ (gd C Fe Fb) (fun id => (σ.box id).isSome = true) r v F := by
    rintro rs hrs hne ⟨ds', rfl, hl', hnd, hall⟩
    have hk : ∀ k, ∃ vF : Value × List Nat, k < rs.length → ∃ (h : k < rs.length) (h' : k < ds'.length),
        (resV a.tmps rs[k]).run P w = .ok vF.1 w ∧
        VR w ρ (gd C Fe Fb) (fun id => (σ.box id).isSome) ds'[k] vF.1 vF.2 ∧ vF.2.Nodup ∧ (∀ b ∈ vF.2, b ∈ (if (srcS σ rs[k]).2 then Fe (srcS σ rs[k]).1 else Fb (srcS σ rs[k]).1)) := by
      intro k
      by_cases hk : k < rs.length
      · have hk' : k < ds'.length := by omega
        obtain ⟨h1, h2, h4⟩ := hall k hk hk'
        obtain ⟨v, F, q⟩ := outS_ok (P := P) st h1 h2 h4
        exact ⟨(v, F), fun _ => ⟨hk, hk', q⟩⟩
      · exact ⟨(undef, []), fun h => absurd h hk⟩
    obtain ⟨vF, hk⟩ := Classical.skolem.1 hk
    have hdis : ∀ j k, j < rs.length → k < rs.length → j ≠ k → ∀ b, b ∈ (vF j).2 → b ∉ (vF k).2 := by
      intro j k hj hkk hjk b hb hb'
      obtain ⟨h, h', q1, q2, q3, q4⟩ := hk j hj
      obtain ⟨g, g', p1, p2, p3, p4⟩ := hk k hkk
      have e1 := q4 b hb
      have e2 := p4 b hb'
      have hne : srcS σ rs[j] ≠ srcS σ rs[k] := by
        intro he
        have := (List.getElem_inj (h₀ := by simpa using hj) (h₁ := by simpa using hkk) hnd).1 (by simpa using he)
        exact hjk this
      generalize srcS σ rs[j] = x at e1 hne
      generalize srcS σ rs[k] = y at e2 hne
      obtain ⟨x1, x2⟩ := x
      obtain ⟨y1, y2⟩ := y
      cases x2 <;> cases y2 <;> simp at e1 e2 hne
      · exact st.dBB x1 y1 hne b e1 e2
      · exact st.dEB y1 x1 b e2 e1
      · exact st.dEB x1 y1 b e1 e2
      · exact st.dEE x1 y1 hne b e1 e2
    refine ⟨.tuple ((List.range rs.length).map (fun k => (vF k).1)).toArray, ?_, (List.range ds'.length).flatMap (fun k => (vF k).2), ?_, ?_, _, (fun k => (vF k).2), rfl, by simp [hl'], rfl, ?_⟩
    · rw [results_run hrs (fun k => (vF k).1) w (fun k hk' => by obtain ⟨_, _, q, _⟩ := hk k hk'; exact q), if_neg hne]
    · refine flat_nodup_mk (fun k hkk => ?_) (fun j k hj hkk => hdis j k (by omega) (by omega))
      obtain ⟨h, h', q1, q2, q3, q4⟩ := hk k (by omega)
      exact q3
    · intro b hb
      obtain ⟨k, hk1, hk2⟩ := List.mem_flatMap.1 hb
      have hkl : k < rs.length := by have := List.mem_range.1 hk1; omega
      obtain ⟨h, h', q1, q2, q3, q4⟩ := hk k hkl
      exact ⟨rs[k], by rw [hrs]; exact List.getElem_mem hkl, q4 b hk2⟩
    · intro k hkk
      obtain ⟨h, h', q1, q2, q3, q4⟩ := hk k (by omega)
      obtain ⟨h1, h2, h4⟩ := hall k (by omega) hkk
      refine ⟨h2, ?_⟩
      have e : ((List.range rs.length).map (fun k => (vF k).1)).getD k undef = (vF k).1 := by
        have : k < rs.length := by omega
        simp [List.getD_eq_getElem?_getD, List.getElem?_map, List.getElem?_range this]
      rw [e]
      exact q2
  cases hrs : fn.results.toList with
  | nil => rw [hrs] at hend; rw [← hrs]; exact many [] hrs (by simp) hend
  | cons rv rest =>
    cases rest with
    | nil => rw [hrs] at hend; rw [← hrs]; exact one rv hrs hend
    | cons rv2 rest => rw [hrs] at hend; rw [← hrs]; exact many _ hrs (by simp) hend

/-- what boxes hold leads to these boxes alone -/
def okBxP (ids : List Nat) : List (Nat × Bx) → Prop
  | [] => True
  | (_, .var d) :: r => d.okB ids = true ∧ okBxP ids r
  | (_, .mp l) :: r => (∀ kv ∈ l, kv.1.okB ids = true ∧ kv.2.okB ids = true) ∧ okBxP ids r
theorem okBxP_get {ids : List Nat} {l : List (Nat × Bx)} (h : okBxP ids l) {t : Nat} {b : Bx} (hd : lk l t = some b) : (∃ d, b = .var d ∧ d.okB ids = true) ∨ ∃ m, b = .mp m ∧ ∀ kv ∈ m, kv.1.okB ids = true ∧ kv.2.okB ids = true := by
  induction l with
  | nil => simp [lk] at hd
  | cons x r ih =>
    obtain ⟨k, e⟩ := x
    rw [lk_cons] at hd
    cases e with
    | mp e =>
      by_cases hk : k = t
      · simp only [hk, if_true, Option.some.injEq] at hd; subst hd; exact .inr ⟨e, rfl, h.1⟩
      · simp only [hk, if_false] at hd; exact ih h.2 hd
    | var e =>
      by_cases hk : k = t
      · simp only [hk, if_true, Option.some.injEq] at hd; subst hd; exact .inl ⟨e, rfl, h.1⟩
      · simp only [hk, if_false] at hd; exact ih h.2 hd
theorem BR.okB {ids : List Nat} {G L : Nat → Prop} {b : Nat} {x : Bx} {F : List Nat} (h : BR w ρ G L b x F) (hx : (∃ d, x = .var d ∧ d.okB ids = true) ∨ ∃ m, x = .mp m ∧ ∀ kv ∈ m, kv.1.okB ids = true ∧ kv.2.okB ids = true) : BR w ρ G (fun id => memB ids id = true ∧ L id) b x F := by
  rcases hx with ⟨d, rfl, hd⟩ | ⟨m, rfl, hm⟩
  · obtain ⟨cs, e, F', h1, h2, h3⟩ := h
    exact ⟨cs, e, F', h1, h2.okB hd, h3⟩
  · obtain ⟨h1, es, clock, h2, h3, h4⟩ := h
    refine ⟨h1, es, clock, h2, h3, fun k hk => ?_⟩
    obtain ⟨q1, q2, q3⟩ := h4 k hk
    obtain ⟨o1, o2⟩ := hm _ (List.getElem_mem hk)
    exact ⟨q1.okB o1, q2.okB o2, q3⟩
theorem RV.okB {ids : List Nat} {G L : Nat → Prop} {r : D} {v : Value} {F : List Nat} (h : RV w ρ G L r v F) (hr : r.okB ids = true) : RV w ρ G (fun id => memB ids id = true ∧ L id) r v F := by
  cases r with
  | tup ds =>
    obtain ⟨vs, Fs, h1, h2, h3, h4⟩ := h
    exact ⟨vs, Fs, h1, h2, h3, fun k hk => ⟨(h4 k hk).1, (h4 k hk).2.okB (okBs_get ds (by simpa [D.okB] using hr) k hk)⟩⟩
  | _ => exact ⟨h.1, h.2.okB hr⟩

/-- at the end: results, and boxes -/
def EndsB (rs : List ResultVar) (P : Program) (r : D) (ids : List Nat) (bx' : List (Nat × Bx)) (e : Exit) (σ : Sg) : Prop :=
  (e = .normal ∨ e = .ret) ∧ EndR rs P r σ ∧ r.okB ids = true ∧ keepB ids σ.bx = bx' ∧ okBxP ids bx' ∧ (∀ rv ∈ rs, (srcS σ rv).2 = false → memB ids (srcS σ rv).1 = false)

theorem lk_append {α : Type} (l r : List (Nat × α)) (t : Nat) : lk (l ++ r) t = (match lk l t with | some x => some x | none => lk r t) := by
  induction l with
  | nil => simp [lk]
  | cons x l ih =>
    obtain ⟨k, d⟩ := x
    simp only [List.cons_append, lk_cons, ih]
    split <;> simp_all

theorem memN_fst {bx : List (Nat × Bx)} {id : Nat} (h : (lk bx id).isSome = true) : memN (bx.map Prod.fst) id = true := by
  induction bx with
  | nil => cases h
  | cons x r ih =>
    obtain ⟨k, b⟩ := x
    rw [lk_cons] at h
    simp only [memN, List.map_cons, List.any_cons, Bool.or_eq_true]
    by_cases hk : k = id
    · subst hk; left; simp
    · simp only [hk, if_false] at h; exact .inr (ih h)

theorem FnB.of {gl : List (Nat × D)} {f : FuncId} {fn : Func} {c : Code} {ds : List D} {bx bx' nw : List (Nat × Bx)} {r : D} {n : Nat} {ids : List Nat} (hf : P.funcs[f]? = some fn) (hb : fn.body = some c) (hnn : fn.ntmps = n)
    (hd : ds.all (fun d => !d.isRef) = true) (hn : ds.length ≤ n)
    (h : ∀ C : Ctx, C.gl = gl → (∀ id b, C.pin id = some b → memN (bx.map Prod.fst) id = true) → W P C c (EndsB fn.results.toList P r ids (nw ++ bx')) ⟨n, ini 0 ds, bx⟩) : FnB P gl f ds bx r bx' nw := by
  subst hnn
  intro w G ρ0 Fb0 vs hgl hGlt hl hv hand
  refine calls_of_wp hf hb ?_
  let C : Ctx := ⟨w, fun b => b < w.heap.size ∧ ¬ ∃ id, b ∈ Fb0 id, fun b => G b ∨ w.heap.size ≤ b ∨ ∃ id, b ∈ Fb0 id, gl, none, fun id => if (lk bx id).isSome then some (ρ0 id) else none, []⟩
  have hget : ∀ t d, (⟨fn.ntmps, ini 0 ds, bx⟩ : Sg).get t = some d → ∃ h : t < ds.length, ds[t] = d := by
    intro t d hd
    simp only [Sg.get, lk_ini, Nat.zero_le, if_true, Nat.sub_zero] at hd
    obtain ⟨h, e⟩ := List.getElem?_eq_some_iff.1 hd
    exact ⟨h, e⟩
  have hown : ∀ b, own (fun _ => []) Fb0 b → ∃ id, b ∈ Fb0 id := by
    rintro b (⟨_, h⟩ | h)
    · cases h
    · exact h
  have hbx : ∀ id, (⟨fn.ntmps, ini 0 ds, bx⟩ : Sg).box id = lk bx id := fun id => rfl
  have hFlt : ∀ id b, b ∈ Fb0 id → b < w.heap.size := fun id b hb => by
    cases hx : lk bx id with
    | none => rw [hand.boxN id hx] at hb; cases hb
    | some x => exact (hand.box id x hx).lt b hb
  have hG2 : ∀ b, G b → gd C (fun _ => []) Fb0 b := fun b hb => ⟨.inl hb, fun ho => by obtain ⟨id, hid⟩ := hown b ho; exact hand.out id b hid hb⟩
  have hpin0 : ∀ id b, C.pin id = some b → ρ0 id = b ∧ (lk bx id).isSome = true := fun id b hp => by
    by_cases hx : (lk bx id).isSome = true
    · simp only [C, hx, if_true, Option.some.injEq] at hp; exact ⟨hp, hx⟩
    · simp [C, hx] at hp
  have st : StW C ⟨fn.ntmps, ini 0 ds, bx⟩ { tmps := vs.toArray ++ Array.replicate (fn.ntmps - vs.toArray.size) undef, defers := [] } w ρ0 (fun _ => []) Fb0 := by
    refine ⟨?_, rfl, (fun id b hp => hpin0 id b hp), ?_, fun _ _ => rfl, ?_, hand.boxN, fun _ => List.nodup_nil, hand.nodB, (fun _ _ _ _ h => by cases h), (fun _ _ _ h => by cases h), hand.dBB, fun b hb hc => hc.2 (hown b hb), ?_, rfl, rfl, rfl, Nat.le_refl _, ?_, fun b hb => .inr (.inl hb), fun b hb => .inr (.inr (hown b hb))⟩
    · simp [hl]; omega
    · intro t d hd'
      obtain ⟨ht, rfl⟩ := hget t d hd'
      have hr : ds[t].isRef = false := by
        have := List.all_eq_true.1 hd ds[t] (List.getElem_mem ht)
        simpa using this
      refine (SR_plain hr).2 ⟨vs.getD t undef, ?_, (hv t ht).mono (fun _ _ _ => rfl) (fun b hb _ => hG2 b hb) (fun id hid => ⟨hid, rfl⟩)⟩
      have htv : t < vs.length := by omega
      rw [Array.getElem?_append_left (by simpa using htv)]
      simp [htv]
    · intro id x hx
      exact (hand.box id x hx).mono (fun _ _ _ => rfl) (fun b hb _ => hG2 b hb) (fun id hid => ⟨hid, rfl⟩)
    · intro b hb; exact ⟨rfl, hb.1⟩
    · intro g d hg
      obtain ⟨h1, cs, e, fz, h2, h3⟩ := hgl g d hg
      exact ⟨⟨(Array.getElem?_eq_some_iff.1 h2).1, fun ⟨id, hid⟩ => hand.out id g hid h1⟩, .inl h1, cs, e, fz, h2, h3⟩
  refine Go.Code.wp_mono ?_ (wpIn_wide.1 (h C rfl (fun id b hp => memN_fst (hpin0 id b hp).2) _ w ⟨_, _, _, st⟩))
  rintro e a' w' ⟨σ', ⟨ρ, Fe, Fb, st'⟩, he, hend, hokr, hkeep, hokb, hsrc⟩
  have hlt' := st'.lt
  have hl' : ∀ u, lk (nw ++ bx') u = if memB ids u then σ'.box u else none := fun u => by rw [← hkeep]; exact lk_keepB ids σ'.bx u
  obtain ⟨v, h1, F, h2, h3, h4⟩ := EndR.out st' hend
  let Fb' : Nat → List Nat := fun id => if memB ids id then Fb id else []
  have hsub : ∀ id, ∀ b ∈ Fb' id, memB ids id = true ∧ b ∈ Fb id := fun id b hm => by
    by_cases hi : memB ids id = true
    · exact ⟨hi, by simpa [Fb', hi] using hm⟩
    · simp [Fb', hi] at hm
  have hFo : ∀ b ∈ F, own Fe Fb b := fun b hb => by
    obtain ⟨rv, _, hx⟩ := h3 b hb
    split at hx
    · exact .inl ⟨_, hx⟩
    · exact .inr ⟨_, hx⟩
  have hnew : ∀ b, own Fe Fb b → w.heap.size ≤ b ∨ ∃ id, b ∈ Fb0 id := fun b hb => by
    by_cases hbl : w.heap.size ≤ b
    · exact .inl hbl
    · right
      by_cases hx : ∃ id, b ∈ Fb0 id
      · exact hx
      · exact absurd ⟨by omega, hx⟩ (st'.new b hb)
  have hFd : ∀ id, ∀ b ∈ F, b ∉ Fb' id := fun id b hb hb' => by
    obtain ⟨hi, hb'⟩ := hsub id b hb'
    obtain ⟨rv, hrv, hx⟩ := h3 b hb
    split at hx
    · exact st'.dEB _ id b hx hb'
    · rename_i hs
      have := hsrc rv hrv (by simpa using hs)
      by_cases hii : (srcS σ' rv).1 = id
      · rw [hii] at this; rw [this] at hi; cases hi
      · exact st'.dBB _ _ hii b hx hb'
  have hgd : ∀ b, gd C Fe Fb b → (G b ∨ w.heap.size ≤ b ∨ ∃ id, b ∈ Fb0 id) ∧ b ∉ F ∧ ¬ ∃ id, b ∈ Fb' id := fun b hb =>
    ⟨hb.1, fun hm => hb.2 (hFo b hm), fun ⟨id, hid⟩ => hb.2 (.inr ⟨id, (hsub id b hid).2⟩)⟩
  have hL : ∀ id, (memB ids id = true ∧ (σ'.box id).isSome = true) → (lk (nw ++ bx') id).isSome = true := fun id ⟨q1, q2⟩ => by rw [hl', if_pos q1]; exact q2
  have hρ : ∀ id, (lk bx id).isSome = true → ρ id = ρ0 id := fun id hx => (st'.pin id (ρ0 id) (by simp [C, hx])).1
  have hext : ExtO (fun b => ∃ id, b ∈ Fb0 id) w w' := ⟨st'.os, st'.tape, st'.output, st'.grown, fun b hb hn => (st'.kept b ⟨hb, hn⟩).1⟩
  have hhand : Hand (nw ++ bx') w' ρ (fun b => (G b ∨ w.heap.size ≤ b ∨ ∃ id, b ∈ Fb0 id) ∧ b ∉ F ∧ ¬ ∃ id, b ∈ Fb' id) Fb' := by
    refine ⟨fun id x hx => ?_, fun id hx => ?_, fun id => ?_, fun id id' hne b hb hb' => st'.dBB id id' hne b (hsub id b hb).2 (hsub id' b hb').2, fun id b hb hc => hc.2.2 ⟨id, hb⟩⟩
    · have hx' := hl' id
      rw [hx] at hx'
      by_cases hm : memB ids id = true
      · rw [if_pos hm] at hx'
        have hF' : Fb' id = Fb id := by simp [Fb', hm]
        rw [hF']
        exact ((st'.bx id x hx'.symm).okB (okBxP_get hokb hx)).mono (fun _ _ _ => rfl) (fun b hb _ => hgd b hb) (fun i hi => ⟨hL i hi, rfl⟩)
      · rw [if_neg hm] at hx'; cases hx'
    · by_cases hm : memB ids id = true
      · have hx' := hl' id
        rw [hx, if_pos hm] at hx'
        simp only [Fb', hm, if_true]
        exact st'.bxN id hx'.symm
      · simp [Fb', hm]
    · show (if memB ids id then Fb id else []).Nodup
      split
      · exact st'.nodB id
      · exact List.nodup_nil
  have hall : ∃ v' F ρ' Fb', (Ending.returned v) = .returned v' ∧ ExtO (fun b => ∃ id, b ∈ Fb0 id) w w' ∧ (∀ id, (lk bx id).isSome = true → ρ' id = ρ0 id) ∧ F.Nodup ∧
      (∀ b, (b ∈ F ∨ ∃ id, b ∈ Fb' id) → w.heap.size ≤ b ∨ ∃ id, b ∈ Fb0 id) ∧ (∀ id, ∀ b ∈ F, b ∉ Fb' id) ∧ (∀ b ∈ F, b < w'.heap.size) ∧
      Hand (nw ++ bx') w' ρ' (fun b => (G b ∨ w.heap.size ≤ b ∨ ∃ id, b ∈ Fb0 id) ∧ b ∉ F ∧ ¬ ∃ id, b ∈ Fb' id) Fb' ∧
      RV w' ρ' (fun b => (G b ∨ w.heap.size ≤ b ∨ ∃ id, b ∈ Fb0 id) ∧ b ∉ F ∧ ¬ ∃ id, b ∈ Fb' id) (fun i => (lk (nw ++ bx') i).isSome = true) r v' F :=
    ⟨v, F, ρ, Fb', rfl, hext, hρ, h2, fun b hb => hnew b (hb.elim (hFo b) (fun ⟨id, hid⟩ => .inr ⟨id, (hsub id b hid).2⟩)), hFd, fun b hb => hlt' b (hFo b hb), hhand,
      (h4.okB hokr).mono (fun _ _ _ => rfl) (fun b hb _ => hgd b hb) (fun i hi => ⟨hL i hi, rfl⟩)⟩
  rcases he with rfl | rfl
  · exact ⟨st'.defs, v, h1, hall⟩
  · exact ⟨st'.defs, v, h1, hall⟩
end Go.Sx

namespace Go.Sx

variable {P : Program} {C : Ctx} {σ σ' σ1 σ2 : Sg} {a : Act} {w w' : World} {ρ ρ2 : Nat → Nat} {Fe Fe' Fb Fb2 : Nat → List Nat}

def mlk (ml : List (Nat × Nat)) (i : Nat) : Nat := match lk ml i with
  | some k => k
  | none => i
def Bx.ren (m : Nat → Nat) : Bx → Bx
  | .var d => .var (d.ren m)
  | .mp l => .mp (l.map fun kv => (kv.1.ren m, kv.2.ren m))
def renBx (m : Nat → Nat) : List (Nat × Bx) → List (Nat × Bx)
  | [] => []
  | (k, x) :: r => (m k, x.ren m) :: renBx m r
def hasBx (l : List (Nat × Bx)) : List (Nat × Bx) → Prop
  | [] => True
  | (k, y) :: r => lk l k = some y ∧ hasBx l r
def freshB (l : List (Nat × Bx)) : List (Nat × Bx) → Bool
  | [] => true
  | (k, _) :: r => (lk l k).isNone && freshB l r
def injB (m : Nat → Nat) (ks : List Nat) : Bool := ks.all fun i => ks.all fun j => !(Nat.beq (m i) (m j)) || Nat.beq i j
def lendB (c : List (Nat × Bx)) : List (Nat × Bx) → List (Nat × Bx)
  | [] => []
  | (k, x) :: r => (k, match lk c k with | some y => y | none => x) :: lendB c r
def scrubL : List Nat → List (Nat × D) → List (Nat × D)
  | [], l => l
  | id :: r, l => scrubL r (scrubs id l)

theorem scrubB_cases (id : Nat) (d : D) : (scrubB id d = d ∧ ∀ off path, d ≠ .alb id off path) ∨ (scrubB id d = .dead ∧ ∃ off path, d = .alb id off path) := by
  cases d with
  | alb i off path =>
    by_cases h : i = id
    · subst h; right; simp [scrubB]
    · left; simp [scrubB, nbeq h, h]
  | _ => left; exact ⟨rfl, fun _ _ h => by cases h⟩
theorem scrubL_get (ids : List Nat) : ∀ (l : List (Nat × D)) (u : Nat) (d : D), lk (scrubL ids l) u = some d →
    ∃ d0, lk l u = some d0 ∧ (d = d0 ∧ (∀ id off path, d0 = .alb id off path → id ∉ ids) ∨ d = .dead ∧ ∃ id off path, d0 = .alb id off path) := by
  induction ids with
  | nil => intro l u d h; exact ⟨d, h, .inl ⟨rfl, fun _ _ _ _ => by simp⟩⟩
  | cons id r ih =>
    intro l u d h
    obtain ⟨d1, h1, h2⟩ := ih (scrubs id l) u d h
    rw [lk_scrubs, Option.map_eq_some_iff] at h1
    obtain ⟨d0, h0, rfl⟩ := h1
    refine ⟨d0, h0, ?_⟩
    rcases scrubB_cases id d0 with ⟨he, hn⟩ | ⟨he, off, path, rfl⟩
    · rw [he] at h2
      rcases h2 with ⟨rfl, h2⟩ | h2
      · refine .inl ⟨rfl, fun i off path hd => ?_⟩
        have := h2 i off path hd
        intro hm
        rcases List.mem_cons.1 hm with rfl | hm
        · exact hn off path hd
        · exact this hm
      · exact .inr h2
    · right
      refine ⟨?_, id, off, path, rfl⟩
      rw [he] at h2
      rcases h2 with ⟨rfl, _⟩ | ⟨_, _, _, _, h2⟩
      · rfl
      · cases h2
theorem scrubL_none (ids : List Nat) : ∀ (l : List (Nat × D)) (u : Nat), lk (scrubL ids l) u = none → lk l u = none := by
  induction ids with
  | nil => intro l u h; exact h
  | cons id r ih =>
    intro l u h
    have := ih _ _ h
    rw [lk_scrubs, Option.map_eq_none_iff] at this
    exact this
theorem lk_lendB (c l : List (Nat × Bx)) (u : Nat) : lk (lendB c l) u = (lk l u).map fun x => (match lk c u with | some y => y | none => x) := by
  induction l with
  | nil => rfl
  | cons x r ih =>
    obtain ⟨k, d⟩ := x
    simp only [lendB, lk_cons, ih]
    by_cases hk : k = u
    · subst hk; simp
    · simp [hk]
theorem lk_mem {l : List (Nat × Bx)} {k : Nat} {x : Bx} (h : lk l k = some x) : (k, x) ∈ l := by
  induction l with
  | nil => cases h
  | cons y r ih =>
    obtain ⟨k', d⟩ := y
    rw [lk_cons] at h
    by_cases hk : k' = k
    · subst hk; simp at h; subst h; simp
    · simp only [hk, if_false] at h; exact List.mem_cons_of_mem _ (ih h)
theorem lk_key {l : List (Nat × Bx)} {k : Nat} : (lk l k).isSome = true ↔ k ∈ l.map Prod.fst := by
  induction l with
  | nil => simp [lk]
  | cons y r ih =>
    obtain ⟨k', d⟩ := y
    rw [lk_cons]
    by_cases hk : k' = k
    · subst hk; simp
    · simp only [hk, if_false, ih, List.map_cons, List.mem_cons]
      exact ⟨.inr, fun h => h.resolve_left (fun e => hk e.symm)⟩
theorem lk_renBx {m : Nat → Nat} {l : List (Nat × Bx)} {i : Nat} (h : ∀ j ∈ l.map Prod.fst, m j = m i → j = i) : lk (renBx m l) (m i) = (lk l i).map (Bx.ren m) := by
  induction l with
  | nil => rfl
  | cons y r ih =>
    obtain ⟨k', d⟩ := y
    simp only [renBx, lk_cons]
    by_cases hk : k' = i
    · subst hk; simp
    · have hm : m k' ≠ m i := fun e => hk (h k' (by simp) e)
      simp only [hm, hk, if_false]
      exact ih (fun j hj => h j (by simp at hj ⊢; exact .inr hj))
theorem keys_renBx (m : Nat → Nat) (l : List (Nat × Bx)) : (renBx m l).map Prod.fst = (l.map Prod.fst).map m := by
  induction l with
  | nil => rfl
  | cons y r ih => obtain ⟨k', d⟩ := y; simp [renBx, ih]
theorem hasBx_get {l c : List (Nat × Bx)} (h : hasBx l c) : ∀ k y, (k, y) ∈ c → lk l k = some y := by
  induction c with
  | nil => intro k y hm; cases hm
  | cons x r ih =>
    obtain ⟨k', d⟩ := x
    intro k y hm
    rcases List.mem_cons.1 hm with he | hm
    · cases he; exact h.1
    · exact ih h.2 k y hm
theorem renBx_mem {m : Nat → Nat} {l : List (Nat × Bx)} {k : Nat} {x : Bx} (h : (k, x) ∈ l) : (m k, x.ren m) ∈ renBx m l := by
  induction l with
  | nil => cases h
  | cons y r ih =>
    obtain ⟨k', d⟩ := y
    simp only [renBx]
    rcases List.mem_cons.1 h with he | hm
    · cases he; simp
    · exact List.mem_cons_of_mem _ (ih hm)
theorem freshB_get {l c : List (Nat × Bx)} (h : freshB l c = true) : ∀ k, k ∈ c.map Prod.fst → lk l k = none := by
  induction c with
  | nil => intro k hm; cases hm
  | cons x r ih =>
    obtain ⟨k', d⟩ := x
    simp only [freshB, Bool.and_eq_true, Option.isNone_iff_eq_none] at h
    intro k hm
    simp only [List.map_cons, List.mem_cons] at hm
    rcases hm with rfl | hm
    · exact h.1
    · exact ih h.2 k hm
theorem injB_get {m : Nat → Nat} {ks : List Nat} (h : injB m ks = true) : ∀ i ∈ ks, ∀ j ∈ ks, m i = m j → i = j := by
  intro i hi j hj he
  have h1 := List.all_eq_true.1 (List.all_eq_true.1 h i hi) j hj
  simp only [Bool.or_eq_true, Bool.not_eq_true'] at h1
  rcases h1 with h1 | h1
  · rw [he] at h1; simp at h1
  · exact Nat.eq_of_beq_eq_true h1
theorem BR.ren {G L L' : Nat → Prop} {m : Nat → Nat} {b : Nat} {x : Bx} {F : List Nat} (h : BR w ρ G L b x F) (hL : ∀ i, L i → L' (m i) ∧ ρ2 (m i) = ρ i) : BR w ρ2 G L' b (x.ren m) F := by
  cases x with
  | var d => obtain ⟨cs, e, F', h1, h2, h3⟩ := h; exact ⟨cs, e, F', h1, h2.ren hL, h3⟩
  | mp l =>
    obtain ⟨h1, es, clock, h2, h3, h4⟩ := h
    refine ⟨h1, es, clock, h2, by simpa using h3, fun k hk => ?_⟩
    have hk' : k < l.length := by simpa using hk
    obtain ⟨q1, q2, q3⟩ := h4 k hk'
    simp only [List.getElem_map]
    exact ⟨q1.ren hL, q2.ren hL, q3⟩
theorem BR.unren {G L L' : Nat → Prop} {m : Nat → Nat} {b : Nat} {x : Bx} {F : List Nat} (h : BR w ρ G L b (x.ren m) F) (hL : ∀ i, L (m i) → L' i ∧ ρ2 i = ρ (m i)) : BR w ρ2 G L' b x F := by
  cases x with
  | var d => obtain ⟨cs, e, F', h1, h2, h3⟩ := h; exact ⟨cs, e, F', h1, h2.unren rfl hL, h3⟩
  | mp l =>
    obtain ⟨h1, es, clock, h2, h3, h4⟩ := h
    refine ⟨h1, es, clock, h2, by simpa using h3, fun k hk => ?_⟩
    obtain ⟨q1, q2, q3⟩ := h4 k (by simpa using hk)
    simp only [List.getElem_map] at q1 q2
    exact ⟨q1.unren hL, q2.unren hL, q3⟩

/-- what is handed over with a call to which boxes are lent -/
inductive EvB (gl : List (Nat × D)) (σ : Sg) (m : Nat → Nat) (ids : List Nat) : List Operand → List D → Prop
  | nil : EvB gl σ m ids [] []
  | cons {x : Operand} {d d' : D} {xs : List Operand} {ds : List D} (h : ev gl σ x = some d') (hp : d'.pur = true) (he : d.ren m = d') (ho : d.okB ids = true) (t : EvB gl σ m ids xs ds) : EvB gl σ m ids (x :: xs) (d :: ds)
  | nils {x : Operand} {z : Nat} {xs : List Operand} {ds : List D} (h : ev gl σ x = some .nils) (t : EvB gl σ m ids xs ds) : EvB gl σ m ids (x :: xs) (.sl none z [] :: ds)
theorem EvB.len {gl : List (Nat × D)} {m : Nat → Nat} {ids : List Nat} {xs : List Operand} {ds : List D} (h : EvB gl σ m ids xs ds) : xs.length = ds.length := by
  induction h with
  | nil => rfl
  | cons _ _ _ _ _ ih => simp [ih]
  | nils _ _ ih => simp [ih]
theorem EvB.ok (st : StW C σ a w ρ Fe Fb) {m : Nat → Nat} {ids : List Nat} {xs : List Operand} {ds : List D} (h : EvB C.gl σ m ids xs ds) :
    ∀ k (hk : k < ds.length), VR w (fun i => ρ (m i)) (gd C Fe Fb) (fun i => memB ids i = true ∧ (σ.box (m i)).isSome = true) ds[k] ((xs.map a.eval).getD k undef) [] := by
  induction h with
  | nil => intro k hk; simp at hk
  | cons h hp he ho t ih =>
    intro k hk
    cases k with
    | zero =>
      obtain ⟨F, hv, _⟩ := ev_ok st h (pur_ref hp)
      have hF := hv.pur hp
      rw [hF] at hv
      subst he
      have h1 : VR w (fun i => ρ (m i)) (gd C Fe Fb) (fun i => (σ.box (m i)).isSome = true) _ (a.eval _) [] := hv.unren (fun i hi => ⟨hi, rfl⟩)
      simpa using h1.okB ho
    | succ k => simpa using ih k (by simpa using hk)
  | nils h t ih =>
    intro k hk
    cases k with
    | zero =>
      obtain ⟨F, hv, _⟩ := ev_ok st h rfl
      simp only [VR, D.isAgg, Bool.false_eq_true, if_false] at hv
      have := hv.nil_val
      simp only [List.map_cons, List.getD_cons_zero, List.getElem_cons_zero, VR, D.isAgg, Bool.false_eq_true, if_false]
      rw [this]
      exact .slN none _
    | succ k => simpa using ih k (by simpa using hk)

open Classical in
theorem StW.callB (st : StW C σ a w ρ Fe Fb) {m : Nat → Nat} {bx bx' nw : List (Nat × Bx)} (hlk : hasBx σ.bx (renBx m bx)) (hob : okBxP (bx.map Prod.fst) bx)
    (hk : bx'.map Prod.fst = bx.map Prod.fst) (hfr : freshB σ.bx (renBx m nw) = true) (hinj : injB m ((nw ++ bx').map Prod.fst) = true) :
    Hand bx w (fun i => ρ (m i)) (gd C Fe Fb) (fun i => if (lk bx i).isSome then Fb (m i) else []) ∧
    ∀ (w' : World) (F : List Nat) (ρ' : Nat → Nat) (Fb' : Nat → List Nat), ExtO (fun b => ∃ id, b ∈ (if (lk bx id).isSome then Fb (m id) else [])) w w' → (∀ id, (lk bx id).isSome = true → ρ' id = ρ (m id)) → F.Nodup →
      (∀ b, (b ∈ F ∨ ∃ id, b ∈ Fb' id) → w.heap.size ≤ b ∨ ∃ id, b ∈ (if (lk bx id).isSome then Fb (m id) else [])) → (∀ id, ∀ b ∈ F, b ∉ Fb' id) → (∀ b ∈ F, b < w'.heap.size) →
      Hand (nw ++ bx') w' ρ' (fun b => (gd C Fe Fb b ∨ w.heap.size ≤ b ∨ ∃ id, b ∈ (if (lk bx id).isSome then Fb (m id) else [])) ∧ b ∉ F ∧ ¬ ∃ id, b ∈ Fb' id) Fb' →
      ∃ ρ2 Fb2, StW (C.less F) ⟨σ.n, scrubL ((renBx m bx).map Prod.fst) σ.env, renBx m nw ++ lendB (renBx m bx') σ.bx⟩ a w' ρ2 Fe Fb2 ∧
        (∀ r v, RV w' ρ' (fun b => (gd C Fe Fb b ∨ w.heap.size ≤ b ∨ ∃ id, b ∈ (if (lk bx id).isSome then Fb (m id) else [])) ∧ b ∉ F ∧ ¬ ∃ id, b ∈ Fb' id) (fun i => (lk (nw ++ bx') i).isSome = true) r v F →
          RV w' ρ2 (fun b => gd C Fe Fb2 b ∧ b ∉ F) (fun i => (lk (renBx m nw ++ lendB (renBx m bx') σ.bx) i).isSome = true) (r.ren m) v F) ∧
        (∀ u, ∀ b ∈ F, b ∉ Fe u) ∧ (∀ id, ∀ b ∈ F, b ∉ Fb2 id) ∧ (∀ b ∈ F, ¬ C.keep b) ∧ (∀ b ∈ F, C.ok b) := by
  have hlt := st.lt
  have hij := injB_get hinj
  have hkey2 : ∀ i, i ∈ (nw ++ bx').map Prod.fst ↔ i ∈ nw.map Prod.fst ∨ i ∈ bx.map Prod.fst := fun i => by rw [List.map_append, List.mem_append, hk]
  have hb1 : ∀ i x, lk bx i = some x → σ.box (m i) = some (x.ren m) := fun i x hx => hasBx_get hlk _ _ (renBx_mem (lk_mem hx))
  have hbS : ∀ i, i ∈ bx.map Prod.fst → (σ.box (m i)).isSome = true := fun i hi => by
    obtain ⟨x, hx⟩ := Option.isSome_iff_exists.1 (lk_key.2 hi)
    rw [hb1 i x hx]; rfl
  have hnS : ∀ i, i ∈ nw.map Prod.fst → σ.box (m i) = none := fun i hi => freshB_get hfr _ (by rw [keys_renBx]; exact List.mem_map_of_mem hi)
  have hFc : ∀ i b, b ∈ (if (lk bx i).isSome then Fb (m i) else []) → i ∈ bx.map Prod.fst ∧ b ∈ Fb (m i) := fun i b hb => by
    by_cases h : (lk bx i).isSome = true
    · rw [if_pos h] at hb; exact ⟨lk_key.1 h, hb⟩
    · rw [if_neg h] at hb; cases hb
  have hmem : ∀ i, memB (bx.map Prod.fst) i = true → (lk bx i).isSome = true := fun i hi => by
    rw [lk_key]
    simp only [memB, List.any_eq_true] at hi
    obtain ⟨j, hj, he⟩ := hi
    rw [Nat.eq_of_beq_eq_true he]; exact hj
  refine ⟨⟨fun id x hx => ?_, fun id hx => by simp [hx], fun id => ?_, fun id id' hne b hb hb' => ?_, fun id b hb hg => hg.2 (.inr ⟨m id, (hFc id b hb).2⟩)⟩, ?_⟩
  · have h1 := st.bx _ _ (hb1 id x hx)
    have h2 : BR w (fun i => ρ (m i)) (gd C Fe Fb) (fun i => (σ.box (m i)).isSome = true) (ρ (m id)) x (Fb (m id)) := h1.unren (fun i hi => ⟨hi, rfl⟩)
    have h3 := (h2.okB (okBxP_get hob hx)).mono (w' := w) (G' := gd C Fe Fb) (L' := fun i => (lk bx i).isSome = true) (ρ' := fun i => ρ (m i)) (fun _ _ _ => rfl) (fun b hb _ => hb) (fun i hi => ⟨hmem i hi.1, rfl⟩)
    rw [if_pos (by rw [hx]; rfl)]
    exact h3
  · show (if (lk bx id).isSome then Fb (m id) else []).Nodup
    split
    · exact st.nodB _
    · exact List.nodup_nil
  · obtain ⟨h1, h2⟩ := hFc id b hb
    obtain ⟨h3, h4⟩ := hFc id' b hb'
    exact st.dBB (m id) (m id') (fun e => hne (hij id ((hkey2 id).2 (.inr h1)) id' ((hkey2 id').2 (.inr h3)) e)) b h2 h4
  intro w' F ρ' Fb' hw hρ hnd hsrc hFB hFl hand
  let inv : Nat → Option Nat := fun k => if h : ∃ i, i ∈ (nw ++ bx').map Prod.fst ∧ m i = k then some (Classical.choose h) else none
  have hinv : ∀ i, i ∈ (nw ++ bx').map Prod.fst → inv (m i) = some i := fun i hi => by
    have h : ∃ j, j ∈ (nw ++ bx').map Prod.fst ∧ m j = m i := ⟨i, hi, rfl⟩
    simp only [inv, dif_pos h]
    obtain ⟨q1, q2⟩ := Classical.choose_spec h
    rw [hij _ q1 i hi q2]
  have hinvS : ∀ k i, inv k = some i → i ∈ (nw ++ bx').map Prod.fst ∧ m i = k := fun k i hi => by
    by_cases h : ∃ j, j ∈ (nw ++ bx').map Prod.fst ∧ m j = k
    · simp only [inv, dif_pos h, Option.some.injEq] at hi
      rw [← hi]; exact Classical.choose_spec h
    · simp only [inv, dif_neg h] at hi; cases hi
  let lent : Nat → Prop := fun k => ∃ i, i ∈ bx.map Prod.fst ∧ m i = k
  let new : Nat → Prop := fun k => ∃ i, i ∈ nw.map Prod.fst ∧ m i = k
  have htouch : ∀ k, (lent k ∨ new k) ↔ ∃ i, inv k = some i := fun k => by
    constructor
    · rintro (⟨i, hi, rfl⟩ | ⟨i, hi, rfl⟩)
      · exact ⟨i, hinv i ((hkey2 i).2 (.inr hi))⟩
      · exact ⟨i, hinv i ((hkey2 i).2 (.inl hi))⟩
    · rintro ⟨i, hi⟩
      obtain ⟨h1, h2⟩ := hinvS k i hi
      rcases (hkey2 i).1 h1 with h | h
      · exact .inr ⟨i, h, h2⟩
      · exact .inl ⟨i, h, h2⟩
  let ρ2 : Nat → Nat := fun k => match inv k with | some i => ρ' i | none => ρ k
  let Fb2 : Nat → List Nat := fun k => match inv k with | some i => Fb' i | none => Fb k
  have hlo : ∀ b, (∃ id, b ∈ (if (lk bx id).isSome then Fb (m id) else [])) ↔ ∃ k, lent k ∧ b ∈ Fb k := fun b => by
    constructor
    · rintro ⟨i, hi⟩
      obtain ⟨h1, h2⟩ := hFc i b hi
      exact ⟨m i, ⟨i, h1, rfl⟩, h2⟩
    · rintro ⟨k, ⟨i, hi, rfl⟩, hb⟩
      exact ⟨i, by rw [if_pos (lk_key.2 hi)]; exact hb⟩
  have hlentO : ∀ b, (∃ k, lent k ∧ b ∈ Fb k) → own Fe Fb b := fun b ⟨k, _, hb⟩ => .inr ⟨k, hb⟩
  have hsrc' : ∀ b, (b ∈ F ∨ ∃ id, b ∈ Fb' id) → w.heap.size ≤ b ∨ ∃ k, lent k ∧ b ∈ Fb k := fun b hb => (hsrc b hb).imp (fun h => h) (hlo b).1
  have hFb2 : ∀ k i, inv k = some i → Fb2 k = Fb' i := fun k i h => by simp [Fb2, h]
  have hρ2 : ∀ k i, inv k = some i → ρ2 k = ρ' i := fun k i h => by simp [ρ2, h]
  have hnone : ∀ k, ¬ (lent k ∨ new k) → inv k = none := fun k h => by
    cases hi : inv k with
    | none => rfl
    | some i => exact absurd ((htouch k).2 ⟨i, hi⟩) h
  have hbox2 : ∀ k, (⟨σ.n, scrubL ((renBx m bx).map Prod.fst) σ.env, renBx m nw ++ lendB (renBx m bx') σ.bx⟩ : Sg).box k = lk (renBx m nw ++ lendB (renBx m bx') σ.bx) k := fun k => rfl
  have hlk2 : ∀ i, i ∈ (nw ++ bx').map Prod.fst → lk (renBx m nw ++ lendB (renBx m bx') σ.bx) (m i) = (lk (nw ++ bx') i).map (Bx.ren m) := fun i hi => by
    rw [lk_append, lk_append, lk_renBx (fun j hj he => hij j ((hkey2 j).2 (.inl hj)) i hi he)]
    cases hn : lk nw i with
    | some x => rfl
    | none =>
      simp only [Option.map_none]
      rw [lk_lendB, lk_renBx (fun j hj he => hij j ((hkey2 j).2 (.inr (hk ▸ hj))) i hi he)]
      have hib : i ∈ bx.map Prod.fst := ((hkey2 i).1 hi).resolve_left (fun h => by have := lk_key.2 h; rw [hn] at this; cases this)
      obtain ⟨x, hx⟩ := Option.isSome_iff_exists.1 (hbS i hib)
      obtain ⟨y, hy⟩ := Option.isSome_iff_exists.1 (lk_key.2 (hk ▸ hib : i ∈ bx'.map Prod.fst))
      rw [show lk σ.bx (m i) = some x from hx, hy]
      rfl
  have hS2 : ∀ i, i ∈ (nw ++ bx').map Prod.fst → (lk (renBx m nw ++ lendB (renBx m bx') σ.bx) (m i)).isSome = true := fun i hi => by
    rw [hlk2 i hi, Option.isSome_map]; exact lk_key.2 hi
  have hgd2 : ∀ b, ((gd C Fe Fb b ∨ w.heap.size ≤ b ∨ ∃ id, b ∈ (if (lk bx id).isSome then Fb (m id) else [])) ∧ b ∉ F ∧ ¬ ∃ id, b ∈ Fb' id) → gd C Fe Fb2 b ∧ b ∉ F := by
    rintro b ⟨h1, h2, h3⟩
    rw [hlo] at h1
    refine ⟨⟨?_, ?_⟩, h2⟩
    · rcases h1 with h | h | h
      · exact h.1
      · exact st.okN b h
      · exact st.okO b (hlentO b h)
    · rintro (⟨u, hu⟩ | ⟨k, hb⟩)
      · rcases h1 with h | h | ⟨k, _, h⟩
        · exact h.2 (.inl ⟨u, hu⟩)
        · have := hlt b (.inl ⟨u, hu⟩); omega
        · exact st.dEB u k b hu h
      · cases hi : inv k with
        | some i => rw [hFb2 k i hi] at hb; exact h3 ⟨i, hb⟩
        | none =>
          have hb' : b ∈ Fb k := by simpa [Fb2, hi] using hb
          rcases h1 with h | h | ⟨k', hk', h⟩
          · exact h.2 (.inr ⟨k, hb'⟩)
          · have := hlt b (.inr ⟨k, hb'⟩); omega
          · refine st.dBB k' k (fun e => ?_) b h hb'
            subst e
            obtain ⟨i, hi'⟩ := (htouch k').1 (.inl hk')
            rw [hi] at hi'; cases hi'
  have hLL : ∀ i, (lk (nw ++ bx') i).isSome = true → (lk (renBx m nw ++ lendB (renBx m bx') σ.bx) (m i)).isSome = true ∧ ρ2 (m i) = ρ' i := fun i hi => by
    have hi' := lk_key.1 hi
    exact ⟨hS2 i hi', hρ2 _ _ (hinv i hi')⟩
  refine ⟨ρ2, Fb2, ?_, ?_, ?_, ?_, ?_, ?_⟩
  · refine st.lend (σ2 := ⟨σ.n, scrubL ((renBx m bx).map Prod.fst) σ.env, renBx m nw ++ lendB (renBx m bx') σ.bx⟩) (ρ2 := ρ2) (Fb2 := Fb2) (lent := lent) (new := new) ⟨hw.os, hw.tape, hw.output, hw.size, fun b hb hn => hw.block b hb (fun h => hn ((hlo b).1 h))⟩ rfl (fun k hkS => ?_) (fun k ⟨i, hi, he⟩ => he ▸ hbS i hi)
      (fun u d hd => ?_) (fun u hu => scrubL_none _ _ _ hu) (fun k hn => ?_) (fun k ht => ?_) (fun k x hx ht => ?_) (fun k ht => ?_) (fun k k' ht ht' hne b hb hb' => ?_) (fun k b ht hb => ?_) (fun b hb => hsrc' b (.inl hb)) hFl
    · cases hi : inv k with
      | none => simp [ρ2, hi]
      | some i =>
        obtain ⟨h1, rfl⟩ := hinvS k i hi
        rcases (hkey2 i).1 h1 with h | h
        · rw [hnS i h] at hkS; cases hkS
        · rw [hρ2 _ _ hi]; exact hρ i (lk_key.2 h)
    · obtain ⟨d0, h0, h1⟩ := scrubL_get _ _ _ _ hd
      refine ⟨d0, h0, h1.imp (fun ⟨q1, q2⟩ => ⟨q1, fun id off path he hl => q2 id off path he ?_⟩) (fun h => h)⟩
      obtain ⟨i, hi, rfl⟩ := hl
      rw [keys_renBx]; exact List.mem_map_of_mem hi
    · refine ⟨?_, by simp [Fb2, hnone k hn]⟩
      show lk (renBx m nw ++ lendB (renBx m bx') σ.bx) k = lk σ.bx k
      have h1 : lk (renBx m nw) k = none := by
        cases hx : lk (renBx m nw) k with
        | none => rfl
        | some x =>
          have := lk_key.1 (show (lk (renBx m nw) k).isSome = true by rw [hx]; rfl)
          rw [keys_renBx] at this
          obtain ⟨i, hi, he⟩ := List.mem_map.1 this
          exact absurd (.inr ⟨i, hi, he⟩) hn
      have h2 : lk (renBx m bx') k = none := by
        cases hx : lk (renBx m bx') k with
        | none => rfl
        | some x =>
          have := lk_key.1 (show (lk (renBx m bx') k).isSome = true by rw [hx]; rfl)
          rw [keys_renBx, hk] at this
          obtain ⟨i, hi, he⟩ := List.mem_map.1 this
          exact absurd (.inl ⟨i, hi, he⟩) hn
      rw [lk_append, h1, lk_lendB, h2]
      simp
    · obtain ⟨i, hi⟩ := (htouch k).1 ht
      obtain ⟨h1, rfl⟩ := hinvS k i hi
      exact hS2 i h1
    · obtain ⟨i, hi⟩ := (htouch k).1 ht
      obtain ⟨h1, rfl⟩ := hinvS k i hi
      rw [hbox2, hlk2 i h1, Option.map_eq_some_iff] at hx
      obtain ⟨y, hy, rfl⟩ := hx
      rw [hρ2 _ _ hi, hFb2 _ _ hi]
      have h4 := (hand.box i y hy).ren (ρ2 := ρ2) (L' := fun k => (lk (renBx m nw ++ lendB (renBx m bx') σ.bx) k).isSome = true) hLL
      exact h4.mono (fun _ _ _ => rfl) (fun b hb _ => ⟨⟨(hgd2 b hb).1.1, (hgd2 b hb).2⟩, (hgd2 b hb).1.2⟩) (fun j hj => ⟨hj, rfl⟩)
    · obtain ⟨i, hi⟩ := (htouch k).1 ht
      rw [hFb2 _ _ hi]; exact hand.nodB i
    · obtain ⟨i, hi⟩ := (htouch k).1 ht
      obtain ⟨i', hi'⟩ := (htouch k').1 ht'
      rw [hFb2 _ _ hi] at hb
      rw [hFb2 _ _ hi'] at hb'
      refine hand.dBB i i' (fun e => ?_) b hb hb'
      subst e
      exact hne ((hinvS k i hi).2.symm.trans (hinvS k' i hi').2)
    · obtain ⟨i, hi⟩ := (htouch k).1 ht
      rw [hFb2 _ _ hi] at hb
      exact ⟨hsrc' b (.inr ⟨i, hb⟩), fun hm => hFB i b hm hb⟩
  · intro r v hr
    exact (hr.ren (ρ2 := ρ2) (L' := fun k => (lk (renBx m nw ++ lendB (renBx m bx') σ.bx) k).isSome = true) hLL).mono (fun _ _ _ => rfl) (fun b hb _ => hgd2 b hb) (fun j hj => ⟨hj, rfl⟩)
  · intro u b hb hbu
    rcases hsrc' b (.inl hb) with h | ⟨k, _, h⟩
    · have := hlt b (.inl ⟨u, hbu⟩); omega
    · exact st.dEB u k b hbu h
  · intro k b hb hbk
    cases hi : inv k with
    | some i => rw [hFb2 _ _ hi] at hbk; exact hFB i b hb hbk
    | none =>
      have hbk' : b ∈ Fb k := by simpa [Fb2, hi] using hbk
      rcases hsrc' b (.inl hb) with h | ⟨k', hk', h⟩
      · have := hlt b (.inr ⟨k, hbk'⟩); omega
      · refine st.dBB k' k (fun e => ?_) b h hbk'
        subst e
        obtain ⟨i, hi'⟩ := (htouch k').1 (.inl hk')
        rw [hi] at hi'; cases hi'
  · intro b hb hkb
    rcases hsrc' b (.inl hb) with h | h
    · have := (st.kept b hkb).2; have := st.grown; omega
    · exact st.new b (hlentO b h) hkb
  · intro b hb
    rcases hsrc' b (.inl hb) with h | h
    · exact st.okN b h
    · exact st.okO b (hlentO b h)

/-- a call to which boxes are lent -/
theorem R.callB {f : FuncId} [CaT P f] {t : Nat} {args : List Operand} {tys : Array TypeId} {rt : TypeId} {pos : String} {aft : Array Edge} {g : Option (Nat × Bool)} {gl : List (Nat × D)} {ds : List D} {r r' : D} {bx bx' nw cx cx' nwc : List (Nat × Bx)}
    (ml : List (Nat × Nat)) (hC : C.gl = gl) (hF : FnB P gl f ds bx r bx' nw) (ha : EvB C.gl σ (mlk ml) (bx.map Prod.fst) args ds)
    (hcx : renBx (mlk ml) bx = cx) (hlk : hasBx σ.bx cx) (hob : okBxP (bx.map Prod.fst) bx) (hcx' : renBx (mlk ml) bx' = cx') (hnw : renBx (mlk ml) nw = nwc) (hr : r.ren (mlk ml) = r')
    (hk : bx'.map Prod.fst = bx.map Prod.fst) (hfr : freshB σ.bx nwc = true) (hinj : injB (mlk ml) ((nw ++ bx').map Prod.fst) = true) (ht : t < σ.n) :
    OpS P C ⟨some t, .call { callee := .value (.func f), args := args.toArray, argTypes := tys }, rt, pos, aft, g⟩ σ ((⟨σ.n, scrubL (cx.map Prod.fst) σ.env, nwc ++ lendB cx' σ.bx⟩ : Sg).set t r') := by
  subst hC; subst hcx; subst hcx'; subst hnw; subst hr
  intro a w ⟨ρ, Fe, Fb, st⟩ K Q hK
  refine wpIn_of_run (run_call a w) (by simp) ?_
  rw [Oper.uponIn_enter]
  obtain ⟨hhand, hback⟩ := st.callB (m := mlk ml) hlk hob hk hfr hinj
  have hmem : ∀ i, memB (bx.map Prod.fst) i = true → (lk bx i).isSome = true := fun i hi => by
    rw [lk_key]
    simp only [memB, List.any_eq_true] at hi
    obtain ⟨j, hj, he⟩ := hi
    rw [Nat.eq_of_beq_eq_true he]; exact hj
  have hc := hF w (fun b => gd C Fe Fb b ∧ b < w.heap.size) (fun i => ρ (mlk ml i)) (fun i => if (lk bx i).isSome then Fb (mlk ml i) else []) (args.map a.eval)
    (fun g d hg => by obtain ⟨h1, h2⟩ := gl_ok st g d hg; obtain ⟨cs, e, fz, h3, h4⟩ := h2; exact ⟨⟨h1, (Array.getElem?_eq_some_iff.1 h3).1⟩, cs, e, fz, h3, h4⟩) (fun b hb => hb.2) (by simp [ha.len])
    (fun k hk => (ha.ok st k hk).mono (fun _ _ _ => rfl) (fun b hb hl => ⟨hb, hl⟩) (fun i hi => ⟨hmem i hi.1, rfl⟩))
    ⟨fun id x hx => (hhand.box id x hx).mono (fun _ _ _ => rfl) (fun b hb hl => ⟨hb, hl⟩) (fun i hi => ⟨hi, rfl⟩), hhand.boxN, hhand.nodB, hhand.dBB, fun id b hb hc => hhand.out id b hb hc.1⟩
  simp only [List.map_toArray]
  refine ⟨(fun h => by cases h), (callsIn_fx (Calls.mono hc ?_))⟩
  rintro e w' ⟨v, F, ρ', Fb', rfl, hext, hρ', hnd, hsrc, hFB, hFl, hand, hrv⟩
  have hGG : ∀ b, (((gd C Fe Fb b ∧ b < w.heap.size) ∨ w.heap.size ≤ b ∨ ∃ id, b ∈ (if (lk bx id).isSome then Fb (mlk ml id) else [])) ∧ b ∉ F ∧ ¬ ∃ id, b ∈ Fb' id) →
      ((gd C Fe Fb b ∨ w.heap.size ≤ b ∨ ∃ id, b ∈ (if (lk bx id).isSome then Fb (mlk ml id) else [])) ∧ b ∉ F ∧ ¬ ∃ id, b ∈ Fb' id) := fun b hb => ⟨hb.1.imp (fun h => h.1) (fun h => h), hb.2⟩
  obtain ⟨ρ2, Fb2, st2, hrv2, hdE, hdB, hkp, hok⟩ := hback w' F ρ' Fb' hext hρ' hnd hsrc hFB hFl
    ⟨fun id x hx => (hand.box id x hx).mono (fun _ _ _ => rfl) (fun b hb _ => hGG b hb) (fun i hi => ⟨hi, rfl⟩), hand.boxN, hand.nodB, hand.dBB, fun id b hb hc => hc.2.2 ⟨id, hb⟩⟩
  have hrv3 := hrv2 r v (hrv.mono (fun _ _ _ => rfl) (fun b hb _ => hGG b hb) (fun i hi => ⟨hi, rfl⟩))
  have hput : (a.put (some t) v).tmps[t]? = some v := by rw [put_get a t v t (by rw [st.size]; exact ht)]; simp
  refine hK _ _ ⟨ρ2, upd Fe t F, Fb2, st2.adopt ht hnd hdE hdB hkp hok (RV.slot (hrv3.mono (fun _ _ _ => rfl) (fun b hb _ => ⟨hb.1.1, ?_⟩) (fun i hi => ⟨hi, rfl⟩)) hput)⟩
  rintro (⟨u, hu⟩ | ho)
  · by_cases hut : u = t
    · subst hut; simp at hu; exact hb.2 hu
    · rw [upd_other hut] at hu; exact hb.1.2 (.inl ⟨u, hu⟩)
  · exact hb.1.2 (.inr ho)
end Go.Sx

namespace Go.Sx

variable {P : Program} {C : Ctx} {σ σ' σ1 : Sg} {a : Act} {w w' : World} {ρ : Nat → Nat} {Fe Fe' Fb : Nat → List Nat}

def PurA (gl : List (Nat × D)) (σ : Sg) (n z : Nat) : List (Nat × Operand) → Prop
  | [] => True
  | (i, x) :: r => (∃ d, ev gl σ x = some d ∧ d.pur = true ∧ d.np = true ∧ d.sz = z ∧ Nat.blt i n = true) ∧ PurA gl σ n z r

theorem fill_arr {G L : Nat → Prop} {gl : List (Nat × D)} {n z : Nat} (hv : ∀ x d, ev gl σ x = some d → d.pur = true → ∃ cs : List Value, (a.eval x).cells.toList = cs ∧ Rc w ρ G L true d cs []) :
    ∀ (ps : List (Nat × Operand)) (l l' : List D) (cs : Array Value), evsS gl σ ps l = some l' → PurA gl σ n z ps → Rc w ρ G L false (.arr n z l) cs.toList [] →
      ∃ out : Array Value, Instr.fill (fun i => some (i * z, z)) cs (ps.map (fun p => (p.1, a.eval p.2))) = some out ∧ Rc w ρ G L false (.arr n z l') out.toList [] := by
  intro ps
  induction ps with
  | nil => intro l l' cs h _ hr; simp only [evsS, Option.some.injEq] at h; subst h; exact ⟨cs, rfl, hr⟩
  | cons p ps ih =>
    intro l l' cs h hp hr
    obtain ⟨i, x⟩ := p
    obtain ⟨⟨d, hx, p1, p2, p3, p5⟩, p4⟩ := hp
    have p5 : i < n := Nat.le_of_ble_eq_true p5
    simp only [evsS, hx] at h
    obtain ⟨xc, hxc, hrc⟩ := hv x d hx p1
    have hlen := hrc.len
    have hll : l.length = n := by cases hr; assumption
    have hi2 : i < l.length := by omega
    have hcl := hr.len
    simp only [sz_arr, Array.length_toList] at hcl
    have hsi : l[i].sz = z := by
      have hii : Rc w ρ G L false l[i] ((cs.toList.drop (i * z)).take z) [] := by
        cases hr with
        | arr _ _ _ _ _ _ hh => exact hh i hi2
      have hl := hii.len
      rw [← hl, List.length_take, List.length_drop, Array.length_toList, hcl]
      have := Nat.mul_le_mul_right z (show i + 1 ≤ n from p5)
      rw [Nat.add_mul] at this
      omega
    have hlo : i * z + z ≤ n * z := by
      have := Nat.mul_le_mul_right z (show i + 1 ≤ n from p5)
      rw [Nat.add_mul] at this
      omega
    have hloc : (D.arr n z l).loc [i] = some (i * z, l[i]) := by simp [D.loc, List.getElem?_eq_getElem hi2]
    have hupd : (D.arr n z l).upd [i] d = some (.arr n z (l.set i d)) := by simp [D.upd, List.getElem?_eq_getElem hi2]
    obtain ⟨F2, g1, g2, _⟩ := hr.upd hloc hupd (p3.trans hsi.symm) (hrc.unflag p2) List.nodup_nil List.nodup_nil (by simp) (.inl rfl)
    have hF2 : F2 = [] := by
      cases F2 with
      | nil => rfl
      | cons b r => have := g2 b (by simp); simp at this
    subst hF2
    have hxl : xc.length = z := by rw [hlen, p3]
    have hfold := foldl_set cs xc (i * z) 0 (by omega)
    simp only [Nat.add_zero] at hfold
    have hcs2 : ((a.eval x).cells.zipIdx.foldl (fun (c : Array Value) (p : Value × Nat) => c.setIfInBounds (i * z + p.2) p.1) cs).toList = cs.toList.take (i * z) ++ xc ++ cs.toList.drop (i * z + xc.length) := by
      rw [← hfold, ← hxc, ← Array.foldl_toList]
      simp
    rw [← hcs2] at g1
    obtain ⟨out, q1, q2⟩ := ih (l.set i d) l' _ h p4 g1
    refine ⟨out, ?_, q2⟩
    simp only [List.map_cons, Instr.fill]
    have hsz : (a.eval x).cells.size = z := by rw [← Array.length_toList, hxc, hxl]
    simp only [hsz]
    rw [if_neg (by simp; omega)]
    exact q1

/-- an array of which some parts are given -/
theorem R.bldAP {t n e z : Nat} {ps : List (Nat × Operand)} {l l' l2 : List D} {ty rt : TypeId} {pos : String} {aft : Array Edge} {g : Option (Nat × Bool)} [hT : BaT P ty n e z] [hZ : ZrT P ty (.arr n z l)]
    (hps : EvS C.gl σ ps l l') (hp : PurA C.gl σ n z ps) (he : l' = l2) (ht : t < σ.n) :
    OpS P C ⟨some t, .build ty ps.toArray, rt, pos, aft, g⟩ σ (σ.set t (.arr n z l2)) := by
  subst he
  refine OpS.value fun a w ⟨ρ, Fe, Fb, st⟩ => ?_
  obtain ⟨it, zv, ie, h1, h2, h3, h4, h5, h6⟩ := hT.i
  obtain ⟨i', v', k1, k2, k3, k4⟩ := hZ.i
  rw [h2] at k1
  cases k1
  rw [h3] at k2
  cases k2
  obtain ⟨out, q1, q2⟩ := fill_arr (w := w) (ρ := ρ) (fun x d h hp => ev_cells st h hp) ps l l' zv.cells hps.ok hp (chk_ok _ _ _ _ _ _ k3)
  have hps2 : (ps.toArray.map fun x => (x.1, a.eval x.2)).toList = ps.map (fun p => (p.1, a.eval p.2)) := by simp
  refine ⟨.agg out, w, ?_, st.put ht rfl ?_⟩
  · have := run_build (P := P) w ty (ps.toArray.map fun x => (x.1, a.eval x.2)) out (by
      rw [hps2]
      simp only [Program.built, h1, h2, h3, h4, h5]
      exact q1)
    unfold execOp
    simp only [Sem.run_bind, this, Result.andThen_ok, Sem.run_pure]
  · simp only [VR, D.isAgg, if_true]
    exact ⟨out, rfl, q2.flag⟩
end Go.Sx

namespace Go.Sx

variable {P : Program} {C : Ctx} {σ σ' σ1 : Sg} {a : Act} {w w' : World} {ρ : Nat → Nat} {Fe Fe' Fb : Nat → List Nat}

/-! ### pointers in parts -/
/-- a part is written, that may hold pointers -/
theorem Rc.updP {G L : Nat → Prop} {d d1 d' x : D} {cs xs : List Value} {F Fx : List Nat} (h : Rc w ρ G L true d cs F) {path : List Nat} {off : Nat}
    (hl : d.loc path = some (off, d1)) (hu : d.upd path x = some d') (hz : x.sz = d1.sz) (hx : Rc w ρ G L true x xs Fx) (hF : F.Nodup) (hFx : Fx.Nodup) (hdis : ∀ b ∈ Fx, b ∉ F)
    (harr : d.noArr path = true) :
    ∃ F', Rc w ρ G L true d' (cs.take off ++ xs ++ cs.drop (off + xs.length)) F' ∧ (∀ b ∈ F', b ∈ F ∨ b ∈ Fx) ∧ F'.Nodup ∧ d'.sz = d.sz ∧ d'.isAgg = (if path = [] then x.isAgg else d.isAgg) := by
  induction path generalizing d cs F off d1 d' with
  | nil =>
    simp only [D.loc, Option.some.injEq, Prod.mk.injEq] at hl
    simp only [D.upd, Option.some.injEq] at hu
    obtain ⟨rfl, rfl⟩ := hl
    subst hu
    have h1 := h.len
    have h2 := hx.len
    have e : cs.take 0 ++ xs ++ cs.drop (0 + xs.length) = xs := by simp; omega
    rw [e]
    exact ⟨Fx, hx, fun _ h => .inr h, hFx, hz, by simp⟩
  | cons k path ih =>
    cases h with
    | agg l cs Fs hs hr =>
      simp only [D.loc] at hl
      simp only [D.upd] at hu
      cases hk : l[k]? with
      | none => simp [hk] at hl
      | some d2 =>
        obtain ⟨hklt, rfl⟩ := List.getElem?_eq_some_iff.1 hk
        simp only [hk] at hl hu
        cases hd : D.loc l[k] path with
        | none => simp [hd] at hl
        | some od =>
          obtain ⟨o, d3⟩ := od
          simp only [hd, Option.some.injEq, Prod.mk.injEq] at hl
          obtain ⟨rfl, rfl⟩ := hl
          cases hud : D.upd l[k] path x with
          | none => simp [hud] at hu
          | some d4 =>
            simp only [hud, Option.some.injEq] at hu
            subst hu
            obtain ⟨hn1, hn2⟩ := flat_nodup hF
            have hkm : ∀ b ∈ Fs k, b ∈ (List.range l.length).flatMap Fs := fun b hb => List.mem_flatMap.2 ⟨k, List.mem_range.2 hklt, hb⟩
            obtain ⟨F', h1, h2, h3, h4, h5⟩ := ih (hr k hklt) hd hud hz (hn1 k hklt) (fun b hb hb' => hdis b hb (hkm b hb')) (by simp only [D.noArr, hk] at harr; exact harr)
            obtain ⟨_, _, _, hl3⟩ := (hr k hklt).loc hd
            have hlen := (hr k hklt).len
            have hxl := hx.len
            have hlo := offk_lt l k hklt
            have hxo : o + xs.length ≤ l[k].sz := by omega
            refine ⟨(List.range (l.set k d4).length).flatMap (fun j => if j = k then F' else Fs j), ?_, ?_, ?_, ?_, ?_⟩
            · refine .agg (l.set k d4) _ _ ?_ (fun j hj => ?_)
              · rw [splice_len _ _ _ (by omega), hs, szs_set l k d4 hklt h4]
              · have hj' : j < l.length := by simpa using hj
                rw [offk_set l k j d4 hklt h4]
                by_cases hjk : j = k
                · subst hjk
                  simp only [List.getElem_set_self, if_true, h4]
                  rw [splice_in _ _ _ _ _ (by omega) (by omega)]
                  exact h1
                · have hjj : (l.set k d4)[j] = l[j] := by rw [List.getElem_set_ne (fun e => hjk e.symm)]
                  simp only [hjj, hjk, if_false]
                  rw [splice_out _ _ _ _ _ (by omega) ?_]
                  · exact hr j hj'
                  · have h6 := offk_lt l j hj'
                    rcases Nat.lt_or_gt_of_ne hjk with hlt | hlt
                    · left
                      have : offk l j + l[j].sz ≤ offk l k := by
                        have := offk_lt (l.take k) j (by simp; omega)
                        simp only [List.getElem_take] at this
                        unfold offk at this ⊢
                        rw [List.take_take, Nat.min_eq_left (by omega)] at this
                        exact this
                      omega
                    · right
                      have : offk l k + l[k].sz ≤ offk l j := by
                        have := offk_lt (l.take j) k (by simp; omega)
                        simp only [List.getElem_take] at this
                        unfold offk at this ⊢
                        rw [List.take_take, Nat.min_eq_left (by omega)] at this
                        exact this
                      omega
            · intro b hb
              obtain ⟨j, hj, hm⟩ := List.mem_flatMap.1 hb
              have hj' : j < l.length := by simpa using List.mem_range.1 hj
              by_cases hjk : j = k
              · subst hjk; simp at hm; exact (h2 b hm).imp (hkm b) id
              · simp only [hjk, if_false] at hm
                exact .inl (List.mem_flatMap.2 ⟨j, List.mem_range.2 hj', hm⟩)
            · refine flat_nodup_mk (fun j hj => ?_) (fun i j hi hj hij b hb hb' => ?_)
              · have hj' : j < l.length := by simpa using hj
                by_cases hjk : j = k
                · simp [hjk, h3]
                · simp only [hjk, if_false]; exact hn1 j hj'
              · have hi' : i < l.length := by simpa using hi
                have hj' : j < l.length := by simpa using hj
                have key : ∀ m, m < l.length → m ≠ k → b ∈ Fs m → b ∈ F' → False := fun m hm hmk h6 h7 => by
                  rcases h2 b h7 with h8 | h8
                  · exact hn2 m k hm hklt hmk b h6 h8
                  · exact hdis b h8 (List.mem_flatMap.2 ⟨m, List.mem_range.2 hm, h6⟩)
                by_cases hik : i = k
                · subst hik
                  simp only [if_true] at hb
                  simp only [show ¬ j = i from fun e => hij e.symm, if_false] at hb'
                  exact key j hj' (fun e => hij e.symm) hb' hb
                · simp only [hik, if_false] at hb
                  by_cases hjk : j = k
                  · simp only [hjk, if_true] at hb'; exact key i hi' hik hb hb'
                  · simp only [hjk, if_false] at hb'; exact hn2 i j hi' hj' hij b hb hb'
            · simp only [sz_agg]; exact szs_set l k d4 hklt h4
            · simp [D.isAgg]
    | arr n z l cs hn hs hr => simp [D.noArr] at harr
    | _ => simp [D.loc] at hl

theorem R.stP {p id off : Nat} {path : List Nat} {x : Operand} {d0 d1 d' dx : D} {ty n rt : TypeId} {gg : Bool} {pos : String} {aft : Array Edge} {g : Option (Nat × Bool)} [LdT P ty n gg]
    (h : σ.get p = some (.ptr id off path)) (hb : σ.box id = some (.var d0)) (hl : d0.loc path = some (off, d1)) (hx : ev C.gl σ x = some dx) (hp : dx.pur = true) (hna : d0.noArr path = true)
    (hn : dx.sz = n) (hz : d1.sz = n) (hu : d0.upd path dx = some d') :
    OpS P C ⟨none, .store ty (.tmp p) x, rt, pos, aft, g⟩ σ (σ.putB id (.var d')) := by
  refine OpS.skip rfl fun a w ⟨ρ, Fe, Fb, st⟩ => ?_
  obtain ⟨v, hv, hr⟩ := (SR_plain rfl).1 (st.env _ _ h)
  simp only [VR, D.isAgg, Bool.false_eq_true, if_false] at hr
  have hz' : dx.sz = d1.sz := hn.trans hz.symm
  generalize Fe p = F at hr
  cases hr
  obtain ⟨cs, e, F', hb', hr, hFb⟩ := st.bx _ _ hb
  obtain ⟨Fx, hvx, _⟩ := ev_ok st hx (pur_ref hp)
  have hFx := hvx.pur hp
  subst hFx
  have hdead : dx ≠ .dead := by rintro rfl; simp [D.pur] at hp
  have hxc := hvx.cells hdead
  obtain ⟨_, _, _, h3⟩ := hr.loc hl
  have hnd : F'.Nodup := by have := st.nodB id; rw [hFb] at this; exact (List.nodup_cons.1 this).2
  obtain ⟨F2, g1, g2, g3, g4, g5⟩ := hr.updP hl hu (hn.trans hz.symm) hxc hnd List.nodup_nil (by simp) hna
  have hlen := hxc.len
  have hvs : (a.eval x).cells.size = n := by simp at hlen; omega
  have hbnd : off + n ≤ cs.size := by simp at h3; omega
  refine ⟨w.setRow (ρ id) (cs.toList.take off ++ (a.eval x).cells.toList ++ cs.toList.drop (off + (a.eval x).cells.toList.length)).toArray, ?_, ρ, Fe, _, st.putB (Fe' := Fe) (σ1 := σ) (F' := ρ id :: F2) hb rfl rfl (fun u d hd => .inl ⟨hd, rfl⟩) st.envN (fun u => .inl rfl) rfl rfl rfl (by simp)
    (fun b hbne => setRow_other w (ρ id) b _ hbne) ?_ (by simp) ?_ ?_⟩
  · unfold execOp
    simp only [Instr.storeAt, Instr.sureAddr, eval_tmp hv, Sem.run_bind, Sem.run_pure, Result.andThen_ok, run_storeVar (P := P) (ty := ty) hb' hvs hbnd hxc.one]
  · refine List.nodup_cons.2 ⟨fun hm => ?_, g3⟩
    have := st.nodB id
    rw [hFb] at this
    rcases g2 _ hm with h4 | h4
    · exact (List.nodup_cons.1 this).1 h4
    · cases h4
  · intro b hbm
    rcases List.mem_cons.1 hbm with rfl | hm
    · exact .inl (by rw [hFb]; simp)
    · rcases g2 b hm with h4 | h4
      · exact .inl (by rw [hFb]; exact List.mem_cons_of_mem _ h4)
      · cases h4
  · refine ⟨_, e, F2, setRow_heap w (ρ id) cs _ e (0, 0) hb', ?_, rfl⟩
    simp only
    refine g1.mono (fun b hbb _ => setRow_other w (ρ id) b _ ?_) (fun b hbb _ => ⟨hbb.1, fun ho => hbb.2 ?_⟩) (fun i hi => ⟨hi, rfl⟩)
    · rintro rfl
      rcases hbb with hbb | hbb
      · exact hbb.2 (.inr ⟨id, by rw [hFb]; simp⟩)
      · have := st.nodB id
        rw [hFb] at this
        rcases g2 _ hbb with h4 | h4
        · exact (List.nodup_cons.1 this).1 h4
        · cases h4
    · rcases ho with ⟨u, hu⟩ | ⟨i, hi⟩
      · exact .inl ⟨u, hu⟩
      · by_cases hid : i = id
        · subst hid
          rw [upd_same] at hi
          refine .inr ⟨i, ?_⟩
          rw [hFb]
          rcases List.mem_cons.1 hi with rfl | hm
          · simp
          · rcases g2 b hm with h4 | h4
            · exact List.mem_cons_of_mem _ h4
            · cases h4
        · rw [upd_other hid] at hi; exact .inr ⟨i, hi⟩


def PurP (gl : List (Nat × D)) (σ : Sg) (l : List D) : List (Nat × Operand) → Prop
  | [] => True
  | (i, x) :: r => (∃ d, ev gl σ x = some d ∧ d.pur = true ∧ (l[i]?).map D.sz = some d.sz) ∧ PurP gl σ l r

theorem fill_structP {G L : Nat → Prop} {gl : List (Nat × D)} {l0 : List D} (hv : ∀ x d, ev gl σ x = some d → d.pur = true → ∃ cs : List Value, (a.eval x).cells.toList = cs ∧ Rc w ρ G L true d cs []) :
    ∀ (ps : List (Nat × Operand)) (l l' : List D) (cs : Array Value), evsS gl σ ps l = some l' → PurP gl σ l0 ps → l.map D.sz = l0.map D.sz → Rc w ρ G L true (.agg l) cs.toList [] →
      ∃ out : Array Value, Instr.fill ((offl l0 0).toArray[·]?) cs (ps.map (fun p => (p.1, a.eval p.2))) = some out ∧ Rc w ρ G L true (.agg l') out.toList [] := by
  intro ps
  induction ps with
  | nil => intro l l' cs h _ _ hr; simp only [evsS, Option.some.injEq] at h; subst h; exact ⟨cs, rfl, hr⟩
  | cons p ps ih =>
    intro l l' cs h hp hz hr
    obtain ⟨i, x⟩ := p
    obtain ⟨⟨d, hx, p1, p3⟩, p4⟩ := hp
    simp only [evsS, hx] at h
    obtain ⟨xc, hxc, hrc⟩ := hv x d hx p1
    have hlen := hrc.len
    cases hl0 : l0[i]? with
    | none => rw [hl0] at p3; cases p3
    | some d0 =>
      obtain ⟨hi, rfl⟩ := List.getElem?_eq_some_iff.1 hl0
      rw [hl0] at p3
      simp only [Option.map_some, Option.some.injEq] at p3
      have hll : l.length = l0.length := by have := congrArg List.length hz; simpa using this
      have hi2 : i < l.length := by omega
      have hsi : l[i].sz = d.sz := by
        have : (l.map D.sz)[i]'(by simpa using hi2) = (l0.map D.sz)[i]'(by simpa using hi) := by simp only [hz]
        simp at this
        omega
      have hoff : offk l i = offk l0 i := by
        have hs : ∀ (u v : List D), u.map D.sz = v.map D.sz → D.szs u = D.szs v := by
          intro u
          induction u with
          | nil => intro v hv; cases v <;> simp_all
          | cons a u ihu => intro v hv; cases v with
            | nil => simp at hv
            | cons b v => simp at hv; simp [hv.1, ihu v hv.2]
        unfold offk
        exact hs _ _ (by rw [List.map_take, List.map_take, hz])
      have hlo := offk_lt l i hi2
      have hcl := hr.len
      simp only [sz_agg, Array.length_toList] at hcl
      have hloc : (D.agg l).loc [i] = some (offk l i, l[i]) := by simp [D.loc, List.getElem?_eq_getElem hi2]
      have hupd : (D.agg l).upd [i] d = some (.agg (l.set i d)) := by simp [D.upd, List.getElem?_eq_getElem hi2]
      obtain ⟨F2, g1, g2, _⟩ := hr.updP hloc hupd hsi.symm hrc List.nodup_nil List.nodup_nil (by simp) (by simp [D.noArr, List.getElem?_eq_getElem hi2])
      have hF2 : F2 = [] := by
        cases F2 with
        | nil => rfl
        | cons b r => have := g2 b (by simp); simp at this
      subst hF2
      have hfold := foldl_set cs xc (offk l i) 0 (by omega)
      simp only [Nat.add_zero] at hfold
      have hcs2 : ((a.eval x).cells.zipIdx.foldl (fun (c : Array Value) (p : Value × Nat) => c.setIfInBounds (offk l i + p.2) p.1) cs).toList = cs.toList.take (offk l i) ++ xc ++ cs.toList.drop (offk l i + xc.length) := by
        rw [← hfold, ← hxc, ← Array.foldl_toList]
        simp
      rw [← hcs2] at g1
      obtain ⟨out, q1, q2⟩ := ih (l.set i d) l' _ h p4 (by
        rw [List.map_set, ← hsi]
        rw [← hz]
        apply List.ext_getElem?
        intro j
        rw [List.getElem?_set]
        split
        · rename_i hij
          subst hij
          simp [hi2]
        · rfl) g1
      refine ⟨out, ?_, q2⟩
      simp only [List.map_cons, Instr.fill]
      have hpl : (offl l0 0).toArray[i]? = some (offk l i, d.sz) := by
        rw [List.getElem?_toArray, offl_get l0 0 i hi, hoff, Nat.zero_add, ← p3]
      have hsz : (a.eval x).cells.size = d.sz := by rw [← Array.length_toList, hxc, hlen]
      simp only [hpl, hsz]
      rw [if_neg (by simp; omega)]
      exact q1

theorem R.bldSP {t : Nat} {ps : List (Nat × Operand)} {l l' : List D} {ty rt : TypeId} {pos : String} {aft : Array Edge} {g : Option (Nat × Bool)} [hT : BsT P ty l]
    (hps : EvS C.gl σ ps l l') (hp : PurP C.gl σ l ps) (ht : t < σ.n) :
    OpS P C ⟨some t, .build ty ps.toArray, rt, pos, aft, g⟩ σ (σ.set t (.agg l')) := by
  refine OpS.value fun a w ⟨ρ, Fe, Fb, st⟩ => ?_
  obtain ⟨fs, it, zv, h1, h2, h3, h4, h5⟩ := hT.i
  obtain ⟨out, q1, q2⟩ := fill_structP (w := w) (ρ := ρ) (l0 := l) (fun x d h hp => ev_cells st h hp) ps l l' zv.cells hps.ok hp rfl (chk_ok _ _ _ _ _ _ h5).flag
  have hps2 : (ps.toArray.map fun x => (x.1, a.eval x.2)).toList = ps.map (fun p => (p.1, a.eval p.2)) := by simp
  refine ⟨.agg out, w, ?_, st.put ht rfl ?_⟩
  · have := run_build (P := P) w ty (ps.toArray.map fun x => (x.1, a.eval x.2)) out (by
      rw [hps2]
      simp only [Program.built, h1, h2, h3, h4]
      exact q1)
    unfold execOp
    simp only [Sem.run_bind, this, Result.andThen_ok, Sem.run_pure]
  · simp only [VR, D.isAgg, if_true]
    exact ⟨out, rfl, q2⟩

/-! ### arrays whose parts hold pointers: as values with parts -/
class BgT (P : Program) (t : TypeId) (l : outParam (List D)) : Prop where
  i : ∃ n e it zv ie z, P.underlying t = some (.array n e) ∧ P.info? t = some it ∧ it.zero = some zv ∧ P.info? e = some ie ∧ ie.size = z ∧ chk (.agg l) zv.cells.toList = true ∧ offl l 0 = (List.range n).map (fun i => (i * z, z))

theorem fill_congr {f g : Nat → Option (Nat × Nat)} : ∀ (ps : List (Nat × Value)) (cs : Array Value), (∀ p ∈ ps, f p.1 = g p.1) → Instr.fill f cs ps = Instr.fill g cs ps := by
  intro ps
  induction ps with
  | nil => intro cs _; rfl
  | cons p ps ih =>
    intro cs h
    obtain ⟨i, v⟩ := p
    have h0 := h (i, v) (by simp)
    simp only at h0
    simp only [Instr.fill, h0]
    cases g i with
    | none => rfl
    | some x =>
      obtain ⟨off, size⟩ := x
      simp only
      split
      · rfl
      · exact ih _ (fun p hp => h p (List.mem_cons_of_mem _ hp))

theorem R.bldAG {t : Nat} {ps : List (Nat × Operand)} {l l' : List D} {ty rt : TypeId} {pos : String} {aft : Array Edge} {g : Option (Nat × Bool)} [hT : BgT P ty l]
    (hps : EvS C.gl σ ps l l') (hp : PurP C.gl σ l ps) (ht : t < σ.n) :
    OpS P C ⟨some t, .build ty ps.toArray, rt, pos, aft, g⟩ σ (σ.set t (.agg l')) := by
  refine OpS.value fun a w ⟨ρ, Fe, Fb, st⟩ => ?_
  obtain ⟨n, e, it, zv, ie, z, h1, h2, h3, h4, h5, h6, h7⟩ := hT.i
  obtain ⟨out, q1, q2⟩ := fill_structP (w := w) (ρ := ρ) (l0 := l) (fun x d h hp => ev_cells st h hp) ps l l' zv.cells hps.ok hp rfl (chk_ok _ _ _ _ _ _ h6).flag
  have hps2 : (ps.toArray.map fun x => (x.1, a.eval x.2)).toList = ps.map (fun p => (p.1, a.eval p.2)) := by simp
  have hll : l.length = n := by
    have h8 : ∀ (l : List D) (o : Nat), (offl l o).length = l.length := by
      intro l
      induction l with
      | nil => intro o; rfl
      | cons d r ih => intro o; simp [offl, ih]
    have := congrArg List.length h7
    rw [h8] at this
    simpa using this
  have hin : ∀ p ∈ ps.map (fun p => (p.1, a.eval p.2)), ((offl l 0).toArray[p.1]?) = some (p.1 * z, z) := by
    intro p hp'
    obtain ⟨q, hq, rfl⟩ := List.mem_map.1 hp'
    have hlt : q.1 < l.length := by
      clear q1 q2 hps hps2 hp'
      induction ps with
      | nil => cases hq
      | cons y r ih =>
        obtain ⟨i, x⟩ := y
        obtain ⟨⟨d, _, _, p3⟩, p4⟩ := hp
        rcases List.mem_cons.1 hq with rfl | hq
        · simp only
          cases hli : l[i]? with
          | none => rw [hli] at p3; cases p3
          | some d0 => exact (List.getElem?_eq_some_iff.1 hli).1
        · exact ih p4 hq
    simp only [List.getElem?_toArray, h7, List.getElem?_map, List.getElem?_range (show q.1 < n by omega), Option.map_some]
  rw [fill_congr (g := fun i => some (i * z, z)) _ _ (fun p hp' => hin p hp')] at q1
  refine ⟨.agg out, w, ?_, st.put ht rfl ?_⟩
  · have := run_build (P := P) w ty (ps.toArray.map fun x => (x.1, a.eval x.2)) out (by
      rw [hps2]
      simp only [Program.built, h1, h2, h3, h4, h5]
      exact q1)
    unfold execOp
    simp only [Sem.run_bind, this, Result.andThen_ok, Sem.run_pure]
  · simp only [VR, D.isAgg, if_true]
    exact ⟨out, rfl, q2⟩

/-- a part of an array that is held as a value with parts -/
theorem R.ixG {x ix : Operand} {t e z m : Nat} {gg : Bool} {l : List D} {d : D} {n : Int} {ty rt : TypeId} {pos : String} {aft : Array Edge} {g : Option (Nat × Bool)} [hT : ArT P ty m e] [hL : LdT P e z gg] (k : Nat)
    (hx : ev C.gl σ x = some (.agg l)) (hi : evo C.gl σ (some ix) 0 = some n) (hk : n = (k : Int)) (hkm : Nat.blt k m = true) (h1 : l[k]? = some d) (ho : offk l k = k * z) (hp : d.pur = true) (hz : d.sz = z) (hg : d.isAgg = gg) (ht : t < σ.n) :
    OpS P C ⟨some t, .index ty x ix, rt, pos, aft, g⟩ σ (σ.set t d) := by
  subst hk
  have hkm : k < m := Nat.le_of_ble_eq_true hkm
  refine OpS.value fun a w ⟨ρ, Fe, Fb, st⟩ => ?_
  obtain ⟨F, hv, _⟩ := ev_ok st hx rfl
  simp only [VR, D.isAgg, if_true] at hv
  obtain ⟨cs, hex, hv⟩ := hv
  obtain ⟨kk, he⟩ := int_ok st hi
  obtain ⟨hkl, rfl⟩ := List.getElem?_eq_some_iff.1 h1
  cases hv with
  | agg _ _ Fs hsz hrr =>
    have hlt := offk_lt l k hkl
    have hr := hrr k hkl
    have hF := hr.pur hp
    rw [hF, ho, hz] at hr
    obtain ⟨v, hrun, hvr⟩ := run_part (P := P) (e := e) hr hz hg (by simp at hsz; omega)
    refine ⟨v, w, ?_, st.put ht (pur_ref hp) hvr⟩
    unfold execOp
    simp [Instr.index, asIntOf, run_underlying hT.u, hex, he, hkm, LdT.size (P := P) (t := e), hrun]

/-! ### loops that are unrolled -/
def WU (P : Program) (C : Ctx) (c : Code) (Q : Exit → Sg → Prop) (σ : Sg) : Prop :=
  ∀ a w, St C σ a w → ∀ (b : Frame) (k : List Item) (cs : List Frame), b.roundOf = (Fx C).round → (Fx C).fn b.fn → (Fx C).room (cs.length + 1 + 3) →
    ∃ e a' w', (∃ s, St C s a' w' ∧ Q e s) ∧ ArrivesIn (Machine.fenced P (Fx C)) P (lone (b.atR a (.code c :: .inLoop c :: k)) cs w) b k cs e a' w'
theorem W.loopU {c : Code} {Q : Exit → Sg → Prop} (h : WU P C c Q σ) : W P C (.loop c) Q σ := by
  intro a w hs b k cs hro hbf hr
  obtain ⟨e, a', w', hq, harr⟩ := h a w hs b k cs hro hbf hr
  exact ⟨e, a', w', hq, .of_steps (.one (fenced_calm hbf hr rfl) stepR_loop) harr⟩
theorem WU.step {c : Code} {Q : Exit → Sg → Prop} (h : W P C c (fun e s => match e with | .normal => WU P C c Q s | e => Q e s) σ) : WU P C c Q σ := by
  intro a w hs b k cs hro hbf hr
  obtain ⟨e, a₁, w₁, ⟨s, hs1, hq⟩, harr⟩ := h a w hs b (.inLoop c :: k) cs hro hbf hr
  cases e with
  | normal =>
    obtain ⟨e₂, a₂, w₂, hq₂, harr₂⟩ := hq a₁ w₁ hs1 b k cs hro hbf hr
    exact ⟨e₂, a₂, w₂, hq₂, .of_steps (StepsIn.trans harr (.one (fenced_calm hbf hr rfl) stepR_inLoop)) harr₂⟩
  | exit id => exact ⟨_, a₁, w₁, ⟨s, hs1, hq⟩, .pass (x := .inLoop c) rfl (fun _ _ => .inl (by simp)) harr⟩
  | goto l => exact ⟨_, a₁, w₁, ⟨s, hs1, hq⟩, .pass (x := .inLoop c) rfl (fun _ _ => .inl (by simp)) harr⟩
  | ret => exact ⟨_, a₁, w₁, ⟨s, hs1, hq⟩, .pass (x := .inLoop c) rfl (fun _ _ => .inl (by simp)) harr⟩
  | panic ch => exact ⟨_, a₁, w₁, ⟨s, hs1, hq⟩, .pass (x := .inLoop c) rfl (fun _ _ => .inl (by simp)) harr⟩
  | outgrown => exact ⟨_, a₁, w₁, ⟨s, hs1, hq⟩, .pass (x := .inLoop c) rfl (fun _ _ => .inl (by simp)) harr⟩
/-- what follows is said of a state that is like this one -/
theorem WU.of {c : Code} {Q : Exit → Sg → Prop} (h : ∀ a w, St C σ a w → St C σ' a w) (k : WU P C c Q σ') : WU P C c Q σ := fun a w hs => k a w (h a w hs)

/-! ### slices with room -/
theorem R.mkC {t e z bytes : Nat} {x y : Operand} {m n : Nat} {d : D} {ty rt : TypeId} {pos : String} {aft : Array Edge} {g : Option (Nat × Bool)} [hT : SlT P ty e] [hE : ElT P e z bytes] [hZ : ZrT P e d]
    (hx : ev C.gl σ x = some (.int (m : Int))) (hy : ev C.gl σ y = some (.int (n : Int))) (hmn : m ≤ n) (hn : n ≤ 1073741824) (hby : bytes ≤ 131072) (ht : t < σ.n) :
    OpS P C ⟨some t, .makeSlice ty x y, rt, pos, aft, g⟩ σ (σ.set t (.sl (some e) z (List.replicate m d))) := by
  refine OpS.value fun a w ⟨ρ, Fe, Fb, st⟩ => ?_
  obtain ⟨i, zv, hi, hsz, hbyt, hz, hzs, hpos⟩ := hE.i
  obtain ⟨i', zv', hi', hz', hchk, hag⟩ := hZ.i
  rw [hi] at hi'
  cases hi'
  rw [hz] at hz'
  cases hz'
  obtain ⟨Fx, hvx, _⟩ := ev_ok st hx rfl
  obtain ⟨Fy, hvy, _⟩ := ev_ok st hy rfl
  simp only [VR, D.isAgg, Bool.false_eq_true, if_false] at hvx hvy
  generalize hex : a.eval x = vx at hvx
  generalize hey : a.eval y = vy at hvy
  cases hvx
  cases hvy
  have hb : (i.bytes : Int) * (n : Int) ≤ 281474976710656 := by
    rw [hbyt]
    have : bytes * n ≤ 131072 * 1073741824 := Nat.mul_le_mul hby hn
    have h2 : ((bytes * n : Nat) : Int) ≤ 281474976710656 := by omega
    rwa [Int.natCast_mul] at h2
  have hrun := run_make (P := P) w ty e i zv hT.u hi hz .i64 .i64 m n (by omega) (by omega) hb (by omega)
  simp only [Int.toNat_natCast, hsz] at hrun
  have hst : St C (σ.set t (.sl (some e) z (List.replicate m d))) (a.put (some t) (.slice (some ⟨w.heap.size, 0, none⟩) m n)) (w.alloc (.cells (madeCells zv.cells (n * z)) e)) := by
    refine ⟨ρ, upd Fe t [w.heap.size], Fb, st.ext ht (Ext.alloc w _) (by simp) (by simp) ((SR_plain rfl).2 ⟨.slice (some ⟨w.heap.size, 0, none⟩) m n, by rw [put_get a t _ t (by rw [st.size]; exact ht)]; simp, ?_⟩)⟩
    simp only [VR, D.isAgg, Bool.false_eq_true, if_false]
    have := Rc.slO (w := w.alloc (.cells (madeCells zv.cells (n * z)) e)) (ρ := ρ) (G := gd C (upd Fe t [w.heap.size]) Fb) (L := fun id => (σ.box id).isSome) (p := true) w.heap.size (madeCells zv.cells (n * z)) e n z (List.replicate m d) (fun _ => []) (heap_alloc_new w _) (by simpa using hmn) (by simp only [maxLen]; omega) (by simp [size_madeCells])
      (fun j hj => by
        have hj' : j < m := by simpa using hj
        rw [← hzs, madeCells_part _ _ _ (show j < n by omega)]
        simp only [List.getElem_replicate]
        exact chk_ok _ _ _ _ d _ hchk)
    have e0 : (List.range (List.replicate m d).length).flatMap (fun _ => ([] : List Nat)) = [] := by rw [List.flatMap_eq_nil_iff]; intros; rfl
    rw [e0] at this
    simp only [List.length_replicate] at this
    exact this
  refine ⟨_, _, ?_, hst⟩
  unfold execOp
  simp [hex, hey, hrun]

/-! ### equality of values -/
/-- values d1 and d2 of type t are held against one another, that gives b -/
def EqV (P : Program) (k : Nat) (t : TypeId) (d1 d2 : D) (b : Bool) : Prop :=
  ∀ (n : Nat) (w : World) (ρ1 ρ2 : Nat → Nat) (G1 G2 L1 L2 : Nat → Prop) (v1 v2 : Value) (F1 F2 : List Nat), VR w ρ1 G1 L1 d1 v1 F1 → VR w ρ2 G2 L2 d2 v2 F2 → (Op.equalIn (n + k) t v1 v2).run P w = .ok b w

theorem EqV.bool {t : TypeId} (ht : P.underlying t = some .bool) (a b : Bool) : EqV P 1 t (.bool a) (.bool b) (a == b) := by
  intro n w ρ1 ρ2 G1 G2 L1 L2 v1 v2 F1 F2 h1 h2
  simp only [VR, D.isAgg, Bool.false_eq_true, if_false] at h1 h2
  cases h1; cases h2
  exact run_equalIn_bool w n t a b ht
theorem EqV.int {t : TypeId} {k : IntKind} (ht : P.underlying t = some (.int k)) (a b : Int) : EqV P 1 t (.int a) (.int b) (a == b) := by
  intro n w ρ1 ρ2 G1 G2 L1 L2 v1 v2 F1 F2 h1 h2
  simp only [VR, D.isAgg, Bool.false_eq_true, if_false] at h1 h2
  cases h1; cases h2
  exact run_equalIn_int w n t .i64 k a b ht
theorem EqV.u8 {t : TypeId} {k : IntKind} (ht : P.underlying t = some (.int k)) (a b : UInt8) : EqV P 1 t (.u8 a) (.u8 b) (a == b) := by
  intro n w ρ1 ρ2 G1 G2 L1 L2 v1 v2 F1 F2 h1 h2
  simp only [VR, D.isAgg, Bool.false_eq_true, if_false] at h1 h2
  cases h1; cases h2
  rw [run_equalIn_int w n t .u8 k _ _ ht, beq_u8]
theorem EqV.u32 {t : TypeId} {k : IntKind} (ht : P.underlying t = some (.int k)) (a b : UInt32) : EqV P 1 t (.u32 a) (.u32 b) (a == b) := by
  intro n w ρ1 ρ2 G1 G2 L1 L2 v1 v2 F1 F2 h1 h2
  simp only [VR, D.isAgg, Bool.false_eq_true, if_false] at h1 h2
  cases h1; cases h2
  rw [run_equalIn_int w n t .u32 k _ _ ht, beq_u32]
theorem EqV.u64 {t : TypeId} {k : IntKind} (ht : P.underlying t = some (.int k)) (a b : UInt64) : EqV P 1 t (.u64 a) (.u64 b) (a == b) := by
  intro n w ρ1 ρ2 G1 G2 L1 L2 v1 v2 F1 F2 h1 h2
  simp only [VR, D.isAgg, Bool.false_eq_true, if_false] at h1 h2
  cases h1; cases h2
  rw [run_equalIn_int w n t .u64 k _ _ ht, beq_u64]
theorem EqV.arr {t e m : Nat} [hT : ArT P t m e] [hk : IkT P e .u8] [hL : LdT P e 1 false] (xs ys : List UInt8) : EqV P 2 t (.arr m 1 (xs.map .u8)) (.arr m 1 (ys.map .u8)) (xs == ys) := by
  intro n w ρ1 ρ2 G1 G2 L1 L2 v1 v2 F1 F2 h1 h2
  simp only [VR, D.isAgg, if_true] at h1 h2
  obtain ⟨cx, rfl, h1⟩ := h1
  obtain ⟨cy, rfl, h2⟩ := h2
  obtain ⟨hlx, hcx⟩ := arr_u8 h1
  obtain ⟨hly, hcy⟩ := arr_u8 h2
  obtain ⟨d, i, _, _, hi, hsz⟩ := hL.i
  have hce : P.cellsOf e = 1 := by simp [Program.cellsOf, hi, hsz]
  rw [show n + 2 = (n + 1) + 1 from rfl, run_equalIn_array w (n + 1) cx cy hT.u hi, hce, run_eqItems_u8 (P := P) w n xs ys m hlx hly cx cy hcx hcy _ (fun i hi => List.mem_range.1 hi), all_eq m xs ys hlx hly]

/-- fields, one by one -/
inductive EqFs (P : Program) (k : Nat) : Nat → List Field → List D → List D → Bool → Prop
  | nil {o : Nat} : EqFs P k o [] [] [] true
  | cons {o z : Nat} {gg : Bool} {f : Field} {fs : List Field} {d1 d2 : D} {ds1 ds2 : List D} {b bs : Bool} (hn : (f.name != "_") = true) (ho : f.offset = o) (hL : LdT P f.type z gg) (hz1 : d1.sz = z) (hz2 : d2.sz = z) (hg1 : d1.isAgg = gg) (hg2 : d2.isAgg = gg)
      (h : EqV P k f.type d1 d2 b) (t : EqFs P k (o + z) fs ds1 ds2 bs) : EqFs P k o (f :: fs) (d1 :: ds1) (d2 :: ds2) (b && bs)

theorem EqFs.run {k o : Nat} {fs : List Field} {ds1 ds2 : List D} {b : Bool} (h : EqFs P k o fs ds1 ds2 b) (n : Nat) (w : World) (ρ1 ρ2 : Nat → Nat) (G1 G2 L1 L2 : Nat → Prop) (cs1 cs2 : Array Value) (Fs1 Fs2 : Nat → List Nat)
    (hc1 : o + D.szs ds1 ≤ cs1.size) (hc2 : o + D.szs ds2 ≤ cs2.size)
    (h1 : ∀ i (hi : i < ds1.length), Rc w ρ1 G1 L1 true ds1[i] ((cs1.toList.drop (o + offk ds1 i)).take ds1[i].sz) (Fs1 i)) (h2 : ∀ i (hi : i < ds2.length), Rc w ρ2 G2 L2 true ds2[i] ((cs2.toList.drop (o + offk ds2 i)).take ds2[i].sz) (Fs2 i)) :
    (Op.eqFields (n + k) cs1 cs2 fs).run P w = .ok b w := by
  induction h generalizing Fs1 Fs2 with
  | nil => simp [Op.eqFields]
  | @cons o z gg f fs d1 d2 ds1 ds2 b bs hn ho hL hz1 hz2 hg1 hg2 h t ih =>
    subst ho
    simp only [szs_cons] at hc1 hc2
    have a1 := h1 0 (by simp)
    have a2 := h2 0 (by simp)
    simp only [List.getElem_cons_zero, offk_zero, Nat.add_zero, hz1] at a1
    simp only [List.getElem_cons_zero, offk_zero, Nat.add_zero, hz2] at a2
    obtain ⟨v1, r1, q1⟩ := run_part (P := P) (e := f.type) (hL := hL) a1 hz1 hg1 (by omega)
    obtain ⟨v2, r2, q2⟩ := run_part (P := P) (e := f.type) (hL := hL) a2 hz2 hg2 (by omega)
    have hb := h n w _ _ _ _ _ _ _ _ _ _ q1 q2
    have ih' := ih (fun i => Fs1 (i + 1)) (fun i => Fs2 (i + 1)) (by omega) (by omega) (fun i hi => by
      have := h1 (i + 1) (by simpa using hi)
      simp only [List.getElem_cons_succ, offk_succ, hz1] at this
      rw [Nat.add_assoc]; exact this) (fun i hi => by
      have := h2 (i + 1) (by simpa using hi)
      simp only [List.getElem_cons_succ, offk_succ, hz2] at this
      rw [Nat.add_assoc]; exact this)
    have hne : f.name ≠ "_" := by simpa using hn
    simp only [Op.eqFields, hne, ne_eq, not_false_eq_true, if_true, Sem.run_bind, r1, r2, hb, Result.andThen_ok]
    cases b with
    | true => simpa using ih'
    | false => simp
theorem EqV.struct {t : TypeId} {k : Nat} {fs : Array Field} {ds1 ds2 : List D} {b : Bool} (ht : P.underlying t = some (.struct fs)) (hp : P.stoodInHeld t = false) (h : EqFs P k 0 fs.toList ds1 ds2 b) : EqV P (k + 1) t (.agg ds1) (.agg ds2) b := by
  intro n w ρ1 ρ2 G1 G2 L1 L2 v1 v2 F1 F2 h1 h2
  simp only [VR, D.isAgg, if_true] at h1 h2
  obtain ⟨cx, rfl, h1⟩ := h1
  obtain ⟨cy, rfl, h2⟩ := h2
  have hf : P.fieldsOf t = fs := by simp [Program.fieldsOf, ht]
  rw [show n + (k + 1) = (n + k) + 1 from rfl, run_equalIn_struct w (n + k) t cx cy (by rw [hf]; exact ht) hp, hf]
  cases h1 with
  | agg _ _ Fs1 hs1 hr1 =>
    cases h2 with
    | agg _ _ Fs2 hs2 hr2 =>
      simp only [Array.length_toList] at hs1 hs2
      exact h.run n w ρ1 ρ2 G1 G2 L1 L2 cx cy Fs1 Fs2 (by omega) (by omega) (fun i hi => by rw [Nat.zero_add]; exact hr1 i hi) (fun i hi => by rw [Nat.zero_add]; exact hr2 i hi)

/-- '==' and '!=' of values with parts -/
theorem R.eqD {neg : Bool} {x y : Operand} {t k : Nat} {d1 d2 : D} {b b' : Bool} {xt yt ty : TypeId} {pos : String} {aft : Array Edge} {g : Option (Nat × Bool)} [hE : EqT P xt] (he : EqV P k xt d1 d2 b) (hk : Nat.ble k 10000 = true)
    (hx : ev C.gl σ x = some d1) (hy : ev C.gl σ y = some d2) (ha1 : d1.isAgg = true) (ha2 : d2.isAgg = true) (hr1 : d1.isRef = false) (hr2 : d2.isRef = false) (hb : (bif neg then !b else b) = b') (ht : t < σ.n) :
    OpS P C ⟨some t, .binOp (bif neg then .neq else .eql) xt x y yt, ty, pos, aft, g⟩ σ (σ.set t (.bool b')) := by
  subst hb
  have hk : k ≤ 10000 := Nat.le_of_ble_eq_true hk
  refine OpS.value fun a w ⟨ρ, Fe, Fb, st⟩ => ?_
  obtain ⟨Fx, hvx, _⟩ := ev_ok st hx hr1
  obtain ⟨Fy, hvy, _⟩ := ev_ok st hy hr2
  have heq := he (10000 - k) w _ _ _ _ _ _ _ _ _ _ hvx hvy
  rw [show 10000 - k + k = 10000 by omega] at heq
  simp only [VR, ha1, if_true] at hvx
  simp only [VR, ha2, if_true] at hvy
  obtain ⟨cx, hex, hvx⟩ := hvx
  obtain ⟨cy, hey, hvy⟩ := hvy
  rw [hex, hey] at heq
  refine ⟨.bool (bif neg then !b else b), w, ?_, st.put ht rfl ?_⟩
  · unfold execOp
    cases neg with
    | false => simp only [cond_false, hex, hey, Sem.run_bind, run_eqGuard_agg w .eql xt x y cx cy hE.i, run_eql_struct, heq, Result.andThen_ok, Sem.run_pure]
    | true => simp only [cond_true, hex, hey, Sem.run_bind, run_eqGuard_agg w .neq xt x y cx cy hE.i, run_neq_struct, heq, Result.andThen_ok, Sem.run_pure]
  · simp only [VR, D.isAgg, Bool.false_eq_true, if_false]; exact .bool _

/-- a copy into a part of a slice of its own -/
theorem R.cpV {s s1 s0 t e z bytes lo n k : Nat} {l l' l2 : List D} {x : Operand} {ty ty2 rt : TypeId} {pos : String} {aft : Array Edge} {g : Option (Nat × Bool)} [hT : SlT P ty e] [hE : ElT P e z bytes]
    (h : σ.get s = some (.vw s1 z lo n)) (ho : ownr σ s1 s0) (hs : σ.get s0 = some (.sl (some e) z l)) (hl0 : 0 < l.length) (hlo : lo + n ≤ l.length) (hpl : ∀ y ∈ l, y.pur = true) (hx : SrcO C.gl σ x z l') (hnp : ∀ y ∈ l', y.np = true) (ht : t < σ.n) (hst : s0 ≠ t)
    (hk : min l'.length n = k) (hl2 : l.take lo ++ l'.take k ++ l.drop (lo + k) = l2) :
    OpS P C ⟨some t, .call { callee := .builtin .copy, args := #[.tmp s, x], argTypes := #[ty, ty2] }, rt, pos, aft, g⟩ σ ((σ.upd s0 (.sl (some e) z l2)).set t (.int (k : Nat))) := by
  subst hl2
  refine OpS.value fun a w ⟨ρ, Fe, Fb, st⟩ => ?_
  obtain ⟨v, hv, hv0, hr⟩ := ownr_val st ho hs
  obtain ⟨_, v0, v1, h1, h2, b0, len, cap0, b1, cap', q1, q2, q3, q4, q5, q6⟩ := st.env _ _ h
  rw [hv] at h1
  cases h1
  obtain ⟨base, cap2, hxe, hsr, hp⟩ := hx.ok st
  obtain ⟨_, news, g1, g2, g3, g4⟩ := src_ok hsr hp
  have hkn : k ≤ n := hk ▸ Nat.min_le_right _ _
  have hkl : k ≤ l'.length := hk ▸ Nat.min_le_left _ _
  have hkz : k * z ≤ l'.length * z := Nat.mul_le_mul_right z hkl
  have hxl : (news.take (k * z)).length = k * z := by simp; omega
  generalize hFe : Fe s0 = F0 at hr
  generalize hcv : [v] = cv at hr
  cases hr with
  | slN => simp at hl0
  | slE => simp at hl0
  | slO b cs e cap z l Fs hb hc hm hsz hrr =>
  simp only [List.cons.injEq, and_true] at hcv
  subst hcv
  cases q1
  have hFs : ∀ i (hi : i < l.length), Fs i = [] := fun i hi => (hrr i hi).pur (hpl _ (List.getElem_mem hi))
  have hflat : (List.range l.length).flatMap Fs = [] := by
    rw [List.flatMap_eq_nil_iff]
    intro i hi
    exact hFs i (List.mem_range.1 hi)
  rw [hflat] at hFe
  have hbl : b < w.heap.size := (Array.getElem?_eq_some_iff.1 hb).1
  have hlz : l.length * z ≤ cs.size := by rw [hsz]; exact Nat.mul_le_mul_right z hc
  have hlm : lo * z + k * z ≤ l.length * z := by rw [← Nat.add_mul]; exact Nat.mul_le_mul_right z (by omega)
  have hp0 : lo * z + (news.take (k * z)).length ≤ cs.toList.length := by rw [hxl, Array.length_toList]; omega
  have hlen2 : (l.take lo ++ l'.take k ++ l.drop (lo + k)).length = l.length := by simp; omega
  have hel : ∀ i (hi : i < (l.take lo ++ l'.take k ++ l.drop (lo + k)).length), Rc w ρ (gd C Fe Fb) (fun id => (σ.box id).isSome) false (l.take lo ++ l'.take k ++ l.drop (lo + k))[i]
      (((cs.toList.take (lo * z) ++ news.take (k * z) ++ cs.toList.drop (lo * z + (news.take (k * z)).length)).drop (i * z)).take z) [] := by
    intro i hi
    have hi' : i < l.length := by omega
    rcases Nat.lt_or_ge i lo with h5 | h5
    · have e1 : (l.take lo ++ l'.take k ++ l.drop (lo + k))[i] = l[i]'(by omega) := by
        rw [List.getElem_append_left (by simp; omega), List.getElem_append_left (by simp; omega), List.getElem_take]
      have h6 : (i + 1) * z ≤ lo * z := Nat.mul_le_mul_right z h5
      rw [Nat.add_mul] at h6
      rw [e1, splice_out _ _ _ _ _ hp0 (.inl (by omega))]
      have := hrr i hi'
      rw [hFs i hi'] at this
      exact this
    · rcases Nat.lt_or_ge i (lo + k) with h6 | h6
      · have e1 : (l.take lo ++ l'.take k ++ l.drop (lo + k))[i] = l'[i - lo]'(by omega) := by
          have h7 : (l.take lo).length = lo := by simp; omega
          rw [List.getElem_append_left (by simp; omega), List.getElem_append_right (by omega), List.getElem_take]
          simp only [h7]
        have h8 := part_right (cs.toList.take (lo * z)) (news.take (k * z)) (cs.toList.drop (lo * z + (news.take (k * z)).length)) (i - lo) lo k z (by rw [List.length_take, Array.length_toList]; omega) hxl (by omega)
        rw [show lo + (i - lo) = i by omega, ← List.append_assoc] at h8
        rw [e1, h8]
        have h9 := part_left (news.take (k * z)) (news.drop (k * z)) (i - lo) k z hxl (by omega)
        rw [List.take_append_drop] at h9
        rw [← h9]
        exact g4 (i - lo) (by omega)
      · have e1 : (l.take lo ++ l'.take k ++ l.drop (lo + k))[i] = l[i]'(by omega) := by
          have h7 : (l.take lo ++ l'.take k).length = lo + k := by simp; omega
          rw [List.getElem_append_right (by omega), List.getElem_drop]
          simp only [h7, show lo + k + (i - (lo + k)) = i by omega]
        have h7 : (lo + k) * z ≤ i * z := Nat.mul_le_mul_right z h6
        rw [Nat.add_mul] at h7
        rw [e1, splice_out _ _ _ _ _ hp0 (.inr (by rw [hxl]; exact h7))]
        have := hrr i hi'
        rw [hFs i hi'] at this
        exact this
  let cs2 : List Value := cs.toList.take (lo * z) ++ news.take (k * z) ++ cs.toList.drop (lo * z + (news.take (k * z)).length)
  have hcs2 : cs2.length = cs.size := by
    show (cs.toList.take (lo * z) ++ news.take (k * z) ++ cs.toList.drop (lo * z + (news.take (k * z)).length)).length = _
    rw [splice_len _ _ _ hp0, Array.length_toList]
  have st2 := st.turn (F := [b]) (w' := w.setRow b cs2.toArray) (d' := .sl (some e) z (l.take lo ++ l'.take k ++ l.drop (lo + k))) hs rfl rfl rfl (by simp) (fun b' _ hb' => setRow_other w b b' _ (fun e => hb' (by rw [hFe, e]; simp))) (by simp)
    (fun y hy => .inl (by rw [hFe]; exact hy)) (by
      refine (SR_plain rfl).2 ⟨_, hv0, ?_⟩
      simp only [VR, D.isAgg, Bool.false_eq_true, if_false]
      have := Rc.slO (w := w.setRow b cs2.toArray) (ρ := ρ) (G := gd C (Go.Sx.upd Fe s0 [b]) Fb) (L := fun id => (σ.box id).isSome) (p := true) b cs2.toArray e cap0 z (l.take lo ++ l'.take k ++ l.drop (lo + k)) (fun _ => []) (setRow_heap w b cs _ e (0, 0) hb) (by omega) hm
        (by simp only [List.size_toArray]; rw [hcs2, hsz]) (fun j hj => (hel j hj).mono (fun y hy _ => setRow_other w b y _ (fun e => by
          subst e
          rcases hy with hy | hy
          · exact hy.2 (.inl ⟨s0, by rw [hFe]; simp⟩)
          · cases hy)) (fun y hy _ => ⟨hy.1, fun ho' => hy.2 (by
            rcases ho' with ⟨u, hu'⟩ | hid
            · by_cases hus : u = s0
              · subst hus
                rw [upd_same] at hu'
                exact .inl ⟨u, by rw [hFe]; exact hu'⟩
              · rw [upd_other hus] at hu'; exact .inl ⟨u, hu'⟩
            · exact .inr hid)⟩) (fun id hid => ⟨hid, rfl⟩))
      have e0 : (List.range (l.take lo ++ l'.take k ++ l.drop (lo + k)).length).flatMap (fun _ => ([] : List Nat)) = [] := by rw [List.flatMap_eq_nil_iff]; intros; rfl
      rw [e0, hlen2] at this
      exact this)
  refine ⟨.int .i64 (k : Nat), w.setRow b cs2.toArray, ?_, st2.put (t := t) (d := .int (k : Nat)) (v := .int .i64 (k : Nat)) (by simpa using ht) rfl (by simp only [VR, D.isAgg, Bool.false_eq_true, if_false]; exact .int _)⟩
  have hfc : (Builtin.firstCells z k (.slice base l'.length cap2)).run P w = .ok (news.take (k * z)).toArray w := by
    rcases g1 with ⟨rfl, rfl, rfl⟩ | ⟨ad, rfl, hn⟩
    · have : k = 0 := by simp at hkl; exact hkl
      subst this
      simp [Builtin.firstCells]
    · refine run_firstCells_some w z k ad l'.length cap2 _ hxl (fun j u hu => hn j u ?_)
      rw [List.getElem?_take] at hu
      split at hu
      · exact hu
      · cases hu
  obtain ⟨o', hb1, ho'⟩ : ∃ o', b1 = some ⟨b, o', none⟩ ∧ (o' = lo * z ∨ (o' = 0 ∧ n = 0)) := by
    rcases q6 with ⟨bb, o, o', h3, h4, h5⟩ | ⟨h3, _⟩
    · cases h3
      exact ⟨o', h4, by simpa using h5⟩
    · omega
  have hst : (storeCells ⟨b, o', none⟩ (news.take (k * z)) 0).run P w = .ok () (w.setRow b cs2.toArray) := by
    rcases ho' with rfl | ⟨rfl, rfl⟩
    · have := run_storeCells_at P b (lo * z) e (news.take (k * z)) 0 cs w hb (by rw [hxl]; omega) (fun u hu => g3 u (List.mem_of_mem_take hu))
      simp only [Nat.add_zero] at this
      exact this
    · have hk0 : k = 0 := by omega
      subst hk0
      have : cs2.toArray = cs := by
        show (cs.toList.take (lo * z) ++ news.take (0 * z) ++ cs.toList.drop (lo * z + (news.take (0 * z)).length)).toArray = cs
        simp
      rw [this, setRow_self w b cs e (0, 0) hb]
      simp only [Nat.zero_mul, List.take_zero]
      rfl
  subst hb1
  subst q2
  unfold execOp
  have hmin : Nat.min l'.length n = k := hk
  simp [resolve, invoke, builtin, Builtin.copy_, run_underlying hT.u, eval_tmp h2, hxe, Builtin.lenOf, ElT.size (P := P) (e := e), hmin, hfc, hst, goInt]
end Go.Sx

namespace Go.Sx

variable {P : Program} {C : Ctx} {σ σ' σ1 : Sg} {a : Act} {w w' : World} {ρ : Nat → Nat} {Fe Fe' Fb : Nat → List Nat}
variable {gl : List (Nat × D)} {W0 : World} {G : Nat → Prop}

/-- f, called with yield, hands over xs one by one, until a round says stop; the boxes bx0 are its own -/
def ItrB (P : Program) (gl : List (Nat × D)) (f : FuncId) (caps : List D) (bx0 : List (Nat × Bx)) (xs : List D) : Prop :=
  ∀ (w : World) (G : Nat → Prop) (ρ : Nat → Nat) (Fb : Nat → List Nat) (vs : List Value) (l : Nat) (Y : Yt),
    (∀ b, G b → b < w.heap.size) →
    (∀ g d, (g, d) ∈ gl → G g ∧ ∃ cs e fz, w.heap[g]? = some (.cells cs e fz) ∧ Rc w (fun x => x) (fun _ => False) (fun _ => False) false d cs.toList []) →
    vs.length = caps.length → (∀ k (h : k < caps.length), VR w ρ G (fun i => (lk bx0 i).isSome = true) caps[k] (vs.getD k undef) []) → Hand bx0 w ρ G Fb →
    Stable Y →
    (∀ k O w v, (h : k < xs.length) → Y k false O w → (∀ b, O b → b < w.heap.size) → VR w (fun x => x) (fun b => G b ∨ O b) (fun _ => False) xs[k] v [] → YieldTo P l v w (Rnd Y G O k w)) →
    Y 0 false (fun b => ∃ id, b ∈ Fb id) w →
    Calls P f (#[.func (.yield l) #[] #[]] ++ vs.toArray) w (fun e w' => (∃ v, e = .returned v) ∧ ∃ k s O, Y k s O w' ∧ (s = true ∨ k = xs.length))

/-- from the walk of an iterator's code -/
theorem ItrB.of {gl : List (Nat × D)} {f : FuncId} {fn : Func} {c : Code} {caps xs : List D} {bx0 : List (Nat × Bx)} {n : Nat} (hf : P.funcs[f]? = some fn) (hb : fn.body = some c) (hnn : fn.ntmps = n) (hres : fn.results = #[])
    (hd : caps.all (fun d => !d.isRef) = true) (hn : caps.length + 1 ≤ n)
    (h : ∀ (G : Nat → Prop) (Y : Yt) (l : Nat), Stable Y → (∀ k O w v, (h : k < xs.length) → Y k false O w → (∀ b, O b → b < w.heap.size) → VR w (fun x => x) (fun b => G b ∨ O b) (fun _ => False) xs[k] v [] → YieldTo P l v w (Rnd Y G O k w)) →
      V P none (AM (relI gl G Y)) c (fun e i => (e = .normal ∨ e = .ret) ∧ (i.1.2 = true ∨ i.1.1 = xs.length)) ((0, false), ⟨n, ini 0 (.yld l :: caps), bx0⟩)) : ItrB P gl f caps bx0 xs := by
  subst hnn
  intro w G ρ0 Fb0 vs l Y hG hgl hl hv hand hY hyl h0
  refine calls_of_wp hf hb ?_
  let C : Ctx := ⟨w, fun b => b < w.heap.size ∧ ¬ ∃ id, b ∈ Fb0 id, fun b => G b ∨ (∃ id, b ∈ Fb0 id) ∨ w.heap.size ≤ b, gl, none, fun _ => none, []⟩
  let ds : List D := .yld l :: caps
  have hget : ∀ t d, (⟨fn.ntmps, ini 0 ds, bx0⟩ : Sg).get t = some d → ∃ h : t < ds.length, ds[t] = d := by
    intro t d hd
    simp only [Sg.get, lk_ini, Nat.zero_le, if_true, Nat.sub_zero] at hd
    obtain ⟨h, e⟩ := List.getElem?_eq_some_iff.1 hd
    exact ⟨h, e⟩
  have hown : ∀ b, own (fun _ => []) Fb0 b → ∃ id, b ∈ Fb0 id := by
    rintro b (⟨_, h⟩ | h)
    · cases h
    · exact h
  have hFlt : ∀ id b, b ∈ Fb0 id → b < w.heap.size := fun id b hb => by
    cases hx : lk bx0 id with
    | none => rw [hand.boxN id hx] at hb; cases hb
    | some x => exact (hand.box id x hx).lt b hb
  have hG2 : ∀ b, G b → gd C (fun _ => []) Fb0 b := fun b hb => ⟨.inl hb, fun ho => by obtain ⟨id, hid⟩ := hown b ho; exact hand.out id b hid hb⟩
  have st : StW C ⟨fn.ntmps, ini 0 ds, bx0⟩ { tmps := (#[Value.func (.yield l) #[] #[]] ++ vs.toArray) ++ Array.replicate (fn.ntmps - (#[Value.func (.yield l) #[] #[]] ++ vs.toArray).size) undef, defers := [] } w ρ0 (fun _ => []) Fb0 := by
    refine ⟨?_, rfl, (fun _ _ hp => by cases hp), ?_, fun _ _ => rfl, ?_, hand.boxN, fun _ => List.nodup_nil, hand.nodB, (fun _ _ _ _ h => by cases h), (fun _ _ _ h => by cases h), hand.dBB, fun b hb hc => hc.2 (hown b hb), ?_, rfl, rfl, rfl, Nat.le_refl _, ?_, fun b hb => .inr (.inr hb), fun b hb => .inr (.inl (hown b hb))⟩
    · simp [hl]; omega
    · intro t d hd'
      obtain ⟨ht, rfl⟩ := hget t d hd'
      cases t with
      | zero =>
        refine (SR_plain rfl).2 ⟨.func (.yield l) #[] #[], ?_, ?_⟩
        · rw [Array.getElem?_append_left (by simp)]
          simp
        · show VR w _ _ _ (D.yld l) _ _
          simp only [VR, D.isAgg, Bool.false_eq_true, if_false]
          exact .yld l
      | succ t =>
        have ht' : t < caps.length := by simpa [ds] using ht
        have hr : caps[t].isRef = false := by
          have := List.all_eq_true.1 hd caps[t] (List.getElem_mem ht')
          simpa using this
        refine (SR_plain hr).2 ⟨vs.getD t undef, ?_, (hv t ht').mono (fun _ _ _ => rfl) (fun b hb _ => hG2 b hb) (fun id hid => ⟨hid, rfl⟩)⟩
        have htv : t < vs.length := by omega
        rw [Array.getElem?_append_left (by simp; omega)]
        simp [htv, Array.getElem?_append]
    · intro id x hx
      exact (hand.box id x hx).mono (fun _ _ _ => rfl) (fun b hb _ => hG2 b hb) (fun id hid => ⟨hid, rfl⟩)
    · intro b hb; exact ⟨rfl, hb.1⟩
    · intro g d hg
      obtain ⟨h1, cs, e, fz, h2, h3⟩ := hgl g d hg
      exact ⟨⟨(Array.getElem?_eq_some_iff.1 h2).1, fun ⟨id, hid⟩ => hand.out id g hid h1⟩, .inl h1, cs, e, fz, h2, h3⟩
  have hAI : AM (relI gl G Y) ((0, false), ⟨fn.ntmps, ini 0 ds, bx0⟩) { tmps := (#[Value.func (.yield l) #[] #[]] ++ vs.toArray) ++ Array.replicate (fn.ntmps - (#[Value.func (.yield l) #[] #[]] ++ vs.toArray).size) undef, defers := [] } w :=
    ⟨C, ⟨rfl, rfl, rfl, fun _ => rfl, fun b => ∃ id, b ∈ Fb0 id, fun _ => Iff.rfl, fun _ => Iff.rfl, fun b hb => ⟨hG b hb, fun ⟨id, hid⟩ => hand.out id b hid hb⟩, fun b ⟨id, hid⟩ => hFlt id b hid, h0⟩, _, _, _, st⟩
  refine Go.Code.wp_mono ?_ (wpIn_wide.1 (h G Y l hY hyl _ w hAI))
  rintro e a' w' ⟨⟨⟨k, s⟩, σ'⟩, ⟨C', ⟨h1, h2, h3, h4, O, hkeep, hok, hG', hO, hYk⟩, ρ, Fe, Fb, st'⟩, he, hend⟩
  have hrun := results_run (P := P) (tmps := a'.tmps) (rs := []) (fn := fn) (by rw [hres]) (fun _ => undef) w' (fun k hk => absurd hk (Nat.not_lt_zero _))
  let O' : Nat → Prop := fun b => (O b ∨ C'.w0.heap.size ≤ b) ∧ b < w'.heap.size
  have hY1 : Y k s O' w' := hY _ _ _ _ _ _ hYk {
    same := fun b hb hn => (st'.kept b ((hkeep b).2 ⟨hb, hn⟩)).1
    size := st'.grown
    sub := fun b hb => hb.1
    lt := fun b hb => hb.2
    os := st'.os
    tape := st'.tape
    output := st'.output }
  have hdf : a'.defers = [] := by rw [st'.defs, h3]
  rcases he with rfl | rfl
  · exact ⟨hdf, _, hrun, ⟨_, rfl⟩, k, s, O', hY1, hend⟩
  · exact ⟨hdf, _, hrun, ⟨_, rfl⟩, k, s, O', hY1, hend⟩

/-- a round -/
theorem VL.yieldG {ops : List Oper} {g : Option (Nat × Bool)} {G : Nat → Prop} {Y : Yt} {k : Nat} {l : List Oper} {Q : Exit → (Nat × Bool) × Sg → Prop} {y t lo : Nat} {x : Operand} {d : D} {xs : List D} {tys : Array TypeId} {rt : TypeId} {pos : String} {aft : Array Edge}
    (hw : Wt ops σ.get ⟨some t, .call { callee := .value (.tmp y), args := #[x], argTypes := tys }, rt, pos, aft, g⟩ true)
    (hY : Stable Y) (hyl : ∀ k O w v, (h : k < xs.length) → Y k false O w → (∀ b, O b → b < w.heap.size) → VR w (fun x => x) (fun b => G b ∨ O b) (fun _ => False) xs[k] v [] → YieldTo P lo v w (Rnd Y G O k w))
    (hg : σ.get y = some (.yld lo)) (hx : ev gl σ x = some d) (hp : d.pur = true) (hn : d.np = true) (hk : k < xs.length) (hd : xs[k] = d) (ht : t < σ.n)
    (kk : ∀ s, VL P none (AM (relI gl G Y)) ops.toArray l Q ((k + 1, s), σ.set t (.bool (!s)))) :
    VL P none (AM (relI gl G Y)) ops.toArray (⟨some t, .call { callee := .value (.tmp y), args := #[x], argTypes := tys }, rt, pos, aft, g⟩ :: l) Q ((k, false), σ) := by
  intro a w ⟨C, ⟨h1, h2, h3, h4, O, hkeep, hok, hG, hO, hYk⟩, ρ, Fe, Fb, st⟩
  simp only [wpListIn, hw.ok ⟨ρ, Fe, Fb, st⟩ (fun _ _ h => h), if_true]
  obtain ⟨vy, hvy, hry⟩ := (SR_plain rfl).1 (st.env y _ hg)
  simp only [VR, D.isAgg, Bool.false_eq_true, if_false] at hry
  generalize Fe y = Fy at hry
  cases hry
  -- what it owns by now
  let O' : Nat → Prop := fun b => (O b ∨ C.w0.heap.size ≤ b) ∧ b < w.heap.size
  have hap : Apart O O' C.w0 w := {
    same := fun b hb hn => (st.kept b ((hkeep b).2 ⟨hb, hn⟩)).1
    size := st.grown
    sub := fun b hb => hb.1
    lt := fun b hb => hb.2
    os := st.os
    tape := st.tape
    output := st.output }
  have hY1 : Y k false O' w := hY _ _ _ _ _ _ hYk hap
  have hlt := st.lt
  have hownO : ∀ b, own Fe Fb b → O' b := fun b hb => by
    refine ⟨?_, hlt b hb⟩
    by_cases h0 : C.w0.heap.size ≤ b
    · exact .inr h0
    · left
      by_cases hOb : O b
      · exact hOb
      · exact absurd ((hkeep b).2 ⟨by omega, hOb⟩) (st.new b hb)
  have hgdO : ∀ b, gd C Fe Fb b → b < w.heap.size → G b ∨ O' b := fun b hb hl => by
    rcases (hok b).1 hb.1 with h | h | h
    · exact .inl h
    · exact .inr ⟨.inl h, hl⟩
    · exact .inr ⟨.inr h, hl⟩
  have hv : VR w (fun x => x) (fun b => G b ∨ O' b) (fun _ => False) xs[k] (a.eval x) [] := by
    rw [hd]
    obtain ⟨F, hvx, _⟩ := ev_ok st (by rw [h1]; exact hx) (pur_ref hp)
    have hFx := hvx.pur hp
    subst hFx
    exact (hvx.noL (ρ' := fun x => x) (L' := fun _ => False) hn).mono (fun _ _ _ => rfl) hgdO (fun _ h => h.elim)
  obtain ⟨f, tmps, assign, body, hrun, hround⟩ := hyl k O' w (a.eval x) hk hY1 (fun b hb => hb.2) hv
  have hexec : (execOp a.eval ⟨some t, .call { callee := .value (.tmp y), args := #[x], argTypes := tys }, rt, pos, aft, g⟩).run P w = .ok (.round lo f tmps assign body) w := by
    unfold execOp
    simp [resolve, eval_tmp hvy, Deferred.ofValue, invoke, hrun]
  have hF : Fx C = Fr none := by unfold Fx Fr; rw [h2]
  have hgoal : Oper.wpIn (Fx C) 3 P ⟨some t, .call { callee := .value (.tmp y), args := #[x], argTypes := tys }, rt, pos, aft, g⟩ a w (wpListIn (Fr none) 3 P ops.toArray (fun e a' w' => ∃ j, AM (relI gl G Y) j a' w' ∧ Q e j) l) (fun e a' w' => ∃ j, AM (relI gl G Y) j a' w' ∧ Q e j) := by
    refine wpIn_of_run hexec (by simp) ?_
    rw [Oper.uponIn_round, hF]
    refine ⟨(fun h => by cases h), hround.mono fun e w' ⟨s', he, hr⟩ => ?_⟩
    subst he
    refine kk s' _ _ ?_
    let C' : Ctx := ⟨w', fun b => b < w'.heap.size ∧ ¬ O' b, fun b => G b ∨ O' b ∨ w'.heap.size ≤ b, gl, none, C.pin, C.df⟩
    have hGs : ∀ b, G b → b < w.heap.size := fun b hb => Nat.lt_of_lt_of_le (hG b hb).1 st.grown
    have hGO : ∀ b, G b → ¬ O' b := fun b hb hc => by
      rcases hc.1 with h | h
      · exact (hG b hb).2 h
      · have := (hG b hb).1; omega
    have hgd2 : ∀ b, (gd C Fe Fb b ∨ own Fe Fb b) → b < w.heap.size → w'.heap[b]? = w.heap[b]? := fun b hb hl => hr.same b (hb.elim (fun h => hgdO b h hl) (fun h => .inr (hownO b h))) hl
    have st' : StW C' σ a w' ρ Fe Fb := st.rebase C' rfl rfl hgd2 (fun b hb hl => (hgdO b hb hl).imp (fun h => h) (fun h => .inl h)) (fun b hb hc => hc.2 (hownO b hb)) (fun b hb => ⟨rfl, hb.1⟩) rfl rfl rfl (Nat.le_refl _)
      (fun g d hgd => by
        obtain ⟨q1, q2, cs, e, fz, q3, q4⟩ := st.gl g d (by rw [h1]; exact hgd)
        have q1' := (hkeep g).1 q1
        have hGg : G g := by
          rcases (hok g).1 q2 with h | h | h
          · exact h
          · exact absurd h q1'.2
          · omega
        have hsz : g < w.heap.size := hGs g hGg
        refine ⟨⟨Nat.lt_of_lt_of_le hsz hr.size, hGO g hGg⟩, .inl hGg, cs, e, fz, ?_, q4.mono (fun b hb => ?_) (fun _ h => h.elim) (fun _ h => h.elim)⟩
        · show w'.heap[g]? = _
          rw [hr.same g (.inl hGg) hsz, (st.kept g q1).1, q3]
        · rcases hb with hb | hb
          · exact hb.elim
          · cases hb)
      (fun b hb => .inr (.inr hb)) (fun b hb => .inr (.inl (hownO b hb)))
    refine ⟨C', ⟨rfl, rfl, h3, h4, O', fun b => Iff.rfl, fun b => Iff.rfl, fun b hb => ⟨Nat.lt_of_lt_of_le (hGs b hb) hr.size, hGO b hb⟩, fun b hb => Nat.lt_of_lt_of_le hb.2 hr.size, hr.y⟩, ?_⟩
    exact st'.put ht rfl (by simp only [VR, D.isAgg, Bool.false_eq_true, if_false]; exact .bool _)
  rw [hF] at hgoal
  exact hgoal

theorem V.rangeB {g p n : Nat} {asg body : Code} {envA env0 : List (Nat × D)} {ids : List Nat} {f : FuncId} [hf : CaT P f] {capsA caps xs : List D} {bxA bx0 : List (Nat × Bx)} {m : Nat → Nat} {bxs : Nat → List (Nat × Bx)} {Stop : Exit → List (Nat × Bx) → Prop} (J : Nat → Prop)
    {Q : Exit → Bool × Sg → Prop} (hgl : Glw gl W0 G) (hI : ItrB P gl f caps bx0 xs) (hg : lk envA g = some (.fn f capsA)) (hca : D.rens m caps = capsA) (hcp : D.okBs (bx0.map Prod.fst) caps = true) (hhas : hasBx bxA (renBx m bx0)) (hob : okBxP (bx0.map Prod.fst) bx0) (hinj : injB m (bx0.map Prod.fst) = true)
    (hout : ∀ i ∈ bx0.map Prod.fst, memB ids (m i) = false) (hsub : ∀ t d, lk env0 t = some d → lk envA t = some d) (hoe : okEnvB ids env0 = true) (hkp : keepB ids bxA = bxs 0) (hp : p < n) (hpe : purEnv env0 = true)
    (hkeys : ∀ id, (lk (bxs 0) id).isSome = memN ids id) (hf0 : frsBx (bxs 0)) (hxs : ∀ k (h : k < xs.length), xs[k].pur = true ∧ xs[k].np = true)
    (hJ : J 0)
    (hround : ∀ k (h : k < xs.length), J k → ∀ C' : Ctx, C'.gl = gl → (∀ id b, C'.pin id = some b → memN ids id = true) → W P C' asg (fun e σ' => e = .normal ∧ ∀ C' : Ctx, C'.gl = gl → (∀ id b, C'.pin id = some b → memN ids id = true) →
      W P C' body (fun e σ' => (e = .normal ∧ (keepB ids σ'.bx = bxs (k + 1) ∧ J (k + 1)) ∨ (e = .ret ∨ ∃ id, e = .exit id) ∧ Stop e (keepB ids σ'.bx)) ∧ frsBx (keepB ids σ'.bx)) σ') ((⟨n, env0, bxs k⟩ : Sg).set p xs[k]))
    (hN : J xs.length → Q .normal (true, ⟨n, env0, bxs xs.length⟩)) (hS : ∀ e bx, (e = .ret ∨ ∃ id, e = .exit id) → Stop e bx → Q e (true, ⟨n, env0, bx⟩)) :
    V P none (AM (relF gl W0 G)) (.rangeFunc (.tmp g) #[p] asg body) Q (false, ⟨n, envA, bxA⟩) := by
  intro a w ⟨C, ⟨h1, h2, h3, h4, h5, h6, h7⟩, ρ, Fe, Fb, st⟩
  have hlt := st.lt
  have hpure : ∀ t d, lk env0 t = some d → ∃ v, a.tmps[t]? = some v ∧ VR w ρ (gd C Fe Fb) (fun id => memN ids id = true) d v [] := by
    intro t d hd
    obtain ⟨hp1, hp2⟩ := purEnv_get hpe hd
    obtain ⟨v, hv, hr⟩ := (SR_plain hp2).1 (st.env t d (hsub t d hd))
    have := hr.pur hp1
    rw [this] at hr
    exact ⟨v, hv, (hr.okB (okEnvB_get hoe hd)).mono (fun _ _ _ => rfl) (fun _ h _ => h) (fun id hid => ⟨hid.1, rfl⟩)⟩
  obtain ⟨vg, hvg, hrg⟩ := (SR_plain rfl).1 (st.env g _ hg)
  simp only [VR, D.isAgg, Bool.false_eq_true, if_false] at hrg
  have hbL : ∀ u, lk (bxs 0) u = if memB ids u then lk bxA u else none := fun u => by rw [← hkp]; exact lk_keepB ids bxA u
  let FbK : Nat → List Nat := fun id => if memB ids id then Fb id else []
  let Fbc : Nat → List Nat := fun i => if (lk bx0 i).isSome then Fb (m i) else []
  have hKsub : ∀ id b, b ∈ FbK id → memB ids id = true ∧ b ∈ Fb id := fun id b hb => by
    by_cases hi : memB ids id = true
    · exact ⟨hi, by simpa [FbK, hi] using hb⟩
    · simp [FbK, hi] at hb
  have hFc : ∀ i b, b ∈ Fbc i → i ∈ bx0.map Prod.fst ∧ b ∈ Fb (m i) := fun i b hb => by
    by_cases h : (lk bx0 i).isSome = true
    · exact ⟨lk_key.1 h, by simpa [Fbc, h] using hb⟩
    · simp [Fbc, h] at hb
  have hij := injB_get hinj
  have hmem : ∀ i, memB (bx0.map Prod.fst) i = true → (lk bx0 i).isSome = true := fun i hi => by
    rw [lk_key]
    simp only [memB, List.any_eq_true] at hi
    obtain ⟨j, hj, he⟩ := hi
    rw [Nat.eq_of_beq_eq_true he]; exact hj
  have hb1 : ∀ i x, lk bx0 i = some x → (⟨n, envA, bxA⟩ : Sg).box (m i) = some (x.ren m) := fun i x hx => hasBx_get hhas _ _ (renBx_mem (lk_mem hx))
  obtain ⟨vs, rfl, hvl, hva, hvr⟩ : ∃ vs : List Value, vg = .func (.func f) #[] vs.toArray ∧ vs.length = caps.length ∧ (∀ k (h : k < caps.length), caps[k].isAgg = false) ∧ ∀ k (h : k < caps.length), Rc w (fun i => ρ (m i)) (gd C Fe Fb) (fun i => (lk bx0 i).isSome = true) true caps[k] [vs.getD k undef] [] := by
    rw [rens_eq] at hca
    subst hca
    generalize Fe g = Fg at hrg
    cases hrg with
    | fn _ _ vs hl ha hr =>
      refine ⟨vs, rfl, by simpa using hl, fun k hk => ?_, fun k hk => ?_⟩
      · have := ha k (by simpa using hk); rw [List.getElem_map, isAgg_ren] at this; exact this
      · have h1 := hr k (by simpa using hk)
        rw [List.getElem_map] at h1
        have h2 : Rc w (fun i => ρ (m i)) (gd C Fe Fb) (fun i => ((⟨n, envA, bxA⟩ : Sg).box (m i)).isSome = true) true caps[k] [vs.getD k undef] [] := h1.unren rfl (fun i hi => ⟨hi, rfl⟩)
        exact (h2.okB (okBs_get caps hcp k hk)).mono (fun _ _ _ => rfl) (fun _ h _ => h) (fun i hi => ⟨hmem i hi.1, rfl⟩)
  refine wpIn_rangeFunc fun fn _ => ?_
  let r0 := rec0 fn a.tmps p asg body w.heap.size
  let w2 : World := (w.alloc (.deferred (some []))).alloc (.loop r0)
  have hw2 : ∀ b, b < w.heap.size → w2.heap[b]? = w.heap[b]? := fun b hb => by
    show ((w.heap.push _).push _)[b]? = _
    rw [Array.getElem?_push_lt (by simp; omega), Array.getElem_push_lt hb, Array.getElem?_eq_getElem hb]
  have hw2d : w2.heap[w.heap.size]? = some (.deferred (some [])) := by
    show ((w.heap.push _).push _)[w.heap.size]? = _
    rw [Array.getElem?_push_lt (by simp)]
    simp
  have hw2l : w2.heap[w.heap.size + 1]? = some (.loop r0) := by
    show ((w.heap.push (.deferred (some []))).push _)[w.heap.size + 1]? = _
    have e : w.heap.size + 1 = (w.heap.push (Obj.deferred (some []))).size := by simp
    rw [e, Array.getElem?_push_size]
  have hw2s : w2.heap.size = w.heap.size + 2 := by
    show ((w.heap.push _).push _).size = _
    simp
  have hevg : a.eval (.tmp g) = .func (.func f) #[] vs.toArray := eval_tmp hvg
  obtain ⟨ff, hff1, hff2, hff3⟩ := hf.i
  refine ⟨w.heap.size + 1, [markOf w.heap.size], w2, { target := .fn (.func f) vs.toArray, args := #[.func (.yield (w.heap.size + 1)) #[] #[]] }, w2, f, #[.func (.yield (w.heap.size + 1)) #[] #[]] ++ vs.toArray, w2, ?_, ?_, (fun _ _ => trivial), ?_, (fun h => by cases h), ?_⟩
  · exact run_enterLoop_outer fn a.tmps #[p] asg body
  · simp [resolve, rangeCall, hvg, Deferred.ofValue, Act.eval]
  · simp [invoke, run_callFunc hff1 hff2 hff3]
  let sz := w.heap.size
  let l := w.heap.size + 1
  let dd := w.heap.size
  let G1 : Nat → Prop := fun b => gd C Fe Fb b ∧ b < w.heap.size
  let Y : Yt := fun k s O w' => (s = false → (k ≤ xs.length ∧ J k) ∧ w'.heap[l]? = some (.loop r0) ∧ ∃ Fb', Last C n a env0 ids ρ G1 sz l dd (bxs k) Fb' O w') ∧
    (s = true → ∃ e c bx Fb', (e = .ret ∨ ∃ id, e = .exit id) ∧ Stop e bx ∧ jmp e = some c ∧ w'.heap[l]? = some (.loop { r0 with state := .done, pending := some c }) ∧ Last C n a env0 ids ρ G1 sz l dd bx Fb' O w')
  have hkl : ∀ b, C.keep b → b < w.heap.size := fun b hb => Nat.lt_of_lt_of_le (st.kept b hb).2 st.grown
  have hz : ∀ b, sz ≤ b → ¬ C.keep b := fun b hb hc => by have := hkl b hc; have : sz = w.heap.size := rfl; omega
  have hY : Stable Y := by
    intro k s O O' w₁ w₂ ⟨y1, y2⟩ ha
    have hrec : ∀ bx Fb' o, Last C n a env0 ids ρ G1 sz l dd bx Fb' O w₁ → w₁.heap[l]? = some o → w₂.heap[l]? = some o := fun bx Fb' o hL ho => by
      rw [ha.same l (Array.getElem?_eq_some_iff.1 ho).1 (fun hc => (hL.O_ge l hc).2.1 rfl)]
      exact ho
    refine ⟨fun hs => ?_, fun hs => ?_⟩
    · obtain ⟨q1, q2, Fb', q3⟩ := y1 hs
      exact ⟨q1, hrec _ _ _ q3 q2, Fb', q3.apart hz ha⟩
    · obtain ⟨e, c, bx, Fb', q1, q2, q3, q4, q5⟩ := y2 hs
      exact ⟨e, c, bx, Fb', q1, q2, q3, hrec _ _ _ q5 q4, q5.apart hz ha⟩
  have hgC : ∀ g' d, (g', d) ∈ C.gl → C.keep g' ∧ G1 g' ∧ ∃ cs e fz, C.w0.heap[g']? = some (.cells cs e fz) ∧ Rc C.w0 (fun x => x) (fun _ => False) (fun _ => False) false d cs.toList [] := fun g' d hgd => by
    obtain ⟨q1, q2, q3⟩ := st.gl g' d hgd
    exact ⟨q1, ⟨⟨q2, fun ho => st.new g' ho q1⟩, hkl g' q1⟩, q3⟩
  have hO0 : ∀ b, (∃ i, b ∈ Fbc i) → own Fe Fb b := fun b ⟨i, hi⟩ => .inr ⟨m i, (hFc i b hi).2⟩
  have hL0 : Last C n a env0 ids ρ G1 sz l dd (bxs 0) FbK (fun b => ∃ i, b ∈ Fbc i) w2 := by
    refine Last.mk hkeys hf0 (fun t d hd => ?_) (fun id d hd => ?_) (fun id hid => ?_) (fun id => ?_) (fun id id' hne b hb hb' => st.dBB id id' hne b (hKsub id b hb).2 (hKsub id' b hb').2) (fun id b hb => ?_) (fun b hb => ⟨⟨st.new b (hO0 b hb), fun hc => hc.1.2 (hO0 b hb)⟩, by have := hlt b (hO0 b hb); show b ≠ w.heap.size + 1; omega, by have := hlt b (hO0 b hb); show b ≠ w.heap.size; omega⟩) (fun b hb => ?_) (fun b hb => ?_) st.os st.tape st.output (by rw [hw2s]; show w.heap.size ≤ _; omega) (by rw [hw2s]; show w.heap.size + 1 < _; omega) (by rw [hw2s]; show w.heap.size < _; omega) (by show w.heap.size + 1 ≠ w.heap.size; omega) hw2d
    · obtain ⟨v, q1, q2⟩ := hpure t d hd
      exact ⟨v, q1, q2.mono (fun b hb hl => hw2 b hl) (fun b hb hl => ⟨hb, hl⟩) (fun _ h => ⟨h, rfl⟩)⟩
    · obtain ⟨d0, hd0, hfr, hn0⟩ := frsBx_get hf0 hd
      cases hd0
      have hx := hbL id
      rw [hd] at hx
      have hm : memB ids id = true := by
        by_cases hm : memB ids id = true
        · exact hm
        · rw [if_neg hm] at hx; cases hx
      rw [if_pos hm] at hx
      obtain ⟨cs, e, F', q1, q2, q3⟩ := st.bx id _ hx.symm
      have hbl : ρ id < w.heap.size := (Array.getElem?_eq_some_iff.1 q1).1
      exact ⟨cs, e, F', (hw2 _ hbl).trans q1, q2.frsAll hfr hn0 (fun b hb hl => hw2 b hl), by simp only [FbK, hm, if_true]; exact q3⟩
    · have hx := hbL id
      rw [hid] at hx
      by_cases hm : memB ids id = true
      · rw [if_pos hm] at hx
        simp only [FbK, hm, if_true]
        exact st.bxN id hx.symm
      · simp [FbK, hm]
    · show (if memB ids id then Fb id else []).Nodup
      split
      · exact st.nodB id
      · exact List.nodup_nil
    · obtain ⟨hm, hb⟩ := hKsub id b hb
      have hbl : b < w.heap.size := hlt b (.inr ⟨id, hb⟩)
      exact ⟨st.new b (.inr ⟨id, hb⟩), (fun ⟨i, hi⟩ => by
        obtain ⟨h1, h2⟩ := hFc i b hi
        refine st.dBB id (m i) (fun e => ?_) b hb h2
        have := hout i h1
        rw [← e, hm] at this
        cases this), (fun hc => hc.1.2 (.inr ⟨id, hb⟩)), by show b ≠ w.heap.size + 1; omega, by show b ≠ w.heap.size; omega, by rw [hw2s]; omega⟩
    · have hbl : b < w.heap.size := hb.2
      exact ⟨hb.2, by show b ≠ w.heap.size + 1; omega, by show b ≠ w.heap.size; omega⟩
    · have hbl := hkl b hb
      exact ⟨(hw2 b hbl).trans (st.kept b hb).1, hbl, by show b ≠ w.heap.size + 1; omega, by show b ≠ w.heap.size; omega⟩
  have hcalls := hI w2 G1 (fun i => ρ (m i)) Fbc vs l Y (fun b hb => by rw [hw2s]; have : b < w.heap.size := hb.2; omega) (fun g' d hgd => by
      obtain ⟨q1, cs, e, fz, q2, q3⟩ := gl_ok st g' d (by rw [h1]; exact hgd)
      have hbl := (Array.getElem?_eq_some_iff.1 q2).1
      exact ⟨⟨q1, hbl⟩, cs, e, fz, (hw2 g' hbl).trans q2, q3.mono (fun b hb _ => by rcases hb with hb | hb; exact hb.elim; cases hb) (fun _ h => h.elim) (fun _ h => h.elim)⟩) hvl (fun k hk => by
      have hv : VR w (fun i => ρ (m i)) (gd C Fe Fb) (fun i => (lk bx0 i).isSome = true) caps[k] (vs.getD k undef) [] := by
        simp only [VR, hva k hk, Bool.false_eq_true, if_false]
        exact hvr k hk
      exact hv.mono (fun b hb hl => hw2 b hl) (fun b hb hl => ⟨hb, hl⟩) (fun _ h => ⟨h, rfl⟩))
    ⟨fun id x hx => by
        have h1 := st.bx _ _ (hb1 id x hx)
        have h2 : BR w (fun i => ρ (m i)) (gd C Fe Fb) (fun i => ((⟨n, envA, bxA⟩ : Sg).box (m i)).isSome = true) (ρ (m id)) x (Fb (m id)) := h1.unren (fun i hi => ⟨hi, rfl⟩)
        have h3 := (h2.okB (okBxP_get hob hx)).mono (w' := w2) (G' := G1) (L' := fun i => (lk bx0 i).isSome = true) (ρ' := fun i => ρ (m i)) (fun b hb hl => hw2 b hl) (fun b hb hl => ⟨hb, hl⟩) (fun i hi => ⟨hmem i hi.1, rfl⟩)
        show BR w2 _ _ _ _ _ (if (lk bx0 id).isSome then Fb (m id) else [])
        rw [if_pos (by rw [hx]; rfl)]
        exact h3, fun id hx => by simp [Fbc, hx], fun id => by
        show (if (lk bx0 id).isSome then Fb (m id) else []).Nodup
        split
        · exact st.nodB _
        · exact List.nodup_nil, fun id id' hne b hb hb' => by
        obtain ⟨h1, h2⟩ := hFc id b hb
        obtain ⟨h3, h4⟩ := hFc id' b hb'
        exact st.dBB (m id) (m id') (fun e => hne (hij id h1 id' h3 e)) b h2 h4, fun id b hb hc => hc.1.2 (.inr ⟨m id, (hFc id b hb).2⟩)⟩ hY
    (fun k O w₁ v hk hYk hO hv => by
      obtain ⟨⟨_, hJk⟩, hrec, Fb', hL⟩ := hYk.1 rfl
      have ha := hround k hk hJk
      have hround' := hL.round (r := r0) hrec rfl rfl rfl rfl rfl st.size hO hp hv (hxs k hk).1 (hxs k hk).2 hpe hgC (E := fun e bx' => e = .normal ∧ (bx' = bxs (k + 1) ∧ J (k + 1)) ∨ (e = .ret ∨ ∃ id, e = .exit id) ∧ Stop e bx')
        (fun C' hC' hD' => (ha C' (hC'.trans h1) hD').mono (fun e s h => ⟨h.1, fun C'' hC'' hD'' => h.2 C'' (hC''.trans h1) hD''⟩)) (fun e bx' he => he.elim (fun h => .inl h.1) (fun h => .inr h.1))
      obtain ⟨f', tm, as', bd, hrun, hR⟩ := hround'
      refine ⟨f', tm, as', bd, hrun, hR.mono ?_⟩
      rintro e' w₂ ⟨s, he', e, bx', Fb'', hE, hs, hrec', hL', hsame, hsz⟩
      refine ⟨s, he', ?_, fun b hb hl => ?_, hsz⟩
      · rcases hE with ⟨rfl, rfl, hJ1⟩ | ⟨hee, hst⟩
        · have : s = false := hs
          subst this
          exact ⟨fun _ => ⟨⟨hk, hJ1⟩, hrec', Fb'', hL'⟩, fun h => by cases h⟩
        · obtain ⟨c, hc⟩ : ∃ c, jmp e = some c := by rcases hee with rfl | ⟨id, rfl⟩ <;> exact ⟨_, rfl⟩
          rw [hc] at hs hrec'
          have : s = true := hs
          subst this
          exact ⟨fun h => (by cases h), fun _ => ⟨e, c, bx', Fb'', hee, hst, hc, hrec', hL'⟩⟩
      · refine hsame b hl (fun ⟨id, hid⟩ => ?_) (fun hbl => ?_)
        · obtain ⟨q1, q2, q3, q4, q5, q6⟩ := hL.own id b hid
          exact hb.elim q3 q2
        · rcases hb with hb | hb
          · exact (hL.G1_lt b hb).2.1 hbl
          · exact (hL.O_ge b hb).2.1 hbl)
    ⟨fun _ => ⟨⟨Nat.zero_le _, hJ⟩, hw2l, FbK, hL0⟩, fun h => by cases h⟩
  refine callsIn_wide.2 (Calls.mono hcalls ?_)
  rintro e w₃ ⟨⟨v, rfl⟩, k, s, O, hYk, hend⟩
  have hdfs : a.defers = [] := by rw [st.defs, h7]
  have hfin : ∀ bx Fb' (o : Obj), Last C n a env0 ids ρ G1 sz l dd bx Fb' O w₃ → AM (relF gl W0 G) (true, ⟨n, env0, bx⟩) { a with defers := [markOf w.heap.size] ++ a.defers } (w₃.putObj l o) := fun bx Fb' o hL => by
    rw [hdfs]
    exact hL.finish st.size hpe h4 (fun b hb => h6 b hb.1.1) h5 (Nat.le_trans h5.size st.grown) hgl o
  cases s with
  | false =>
    have hke : k = xs.length := hend.resolve_left (by simp)
    subst hke
    obtain ⟨⟨_, hJk⟩, hrec, Fb', hL⟩ := hYk.1 rfl
    refine ⟨_, _, run_endLoop hrec (by simp [r0, rec0]), ?_⟩
    exact ⟨_, hfin _ Fb' _ hL, hN hJk⟩
  | true =>
    obtain ⟨e, c, bx, Fb', hee, hst, hc, hrec, hL⟩ := hYk.2 rfl
    refine ⟨_, _, run_endLoop hrec (by simp), ?_⟩
    rcases hee with rfl | ⟨id, rfl⟩
    · cases hc
      exact wpIn_ret ⟨_, hfin _ Fb' _ hL, hS _ _ (.inl rfl) hst⟩
    · cases hc
      exact wpIn_exit ⟨_, hfin _ Fb' _ hL, hS _ _ (.inr ⟨_, rfl⟩) hst⟩


theorem V.rangeBE {gl : List (Nat × D)} {W0 : World} {G : Nat → Prop} {g p n : Nat} {asg body : Code} {envA env0 : List (Nat × D)} {bxA bx0 : List (Nat × Bx)} {f : FuncId} [hf : CaT P f] {capsA caps : List D} (ml : List (Nat × Nat)) (live : List Nat)
    (ids : List Nat) (N : Nat) (xd : Nat → D) (bxs : Nat → List (Nat × Bx)) (Stop : Exit → List (Nat × Bx) → Prop) (J : Nat → Prop)
    {Q : Exit → Bool × Sg → Prop} (hgl : Glw gl W0 G) (hI : ItrB P gl f caps bx0 ((List.range N).map xd)) (hg : lk envA g = some (.fn f capsA)) (hca : D.rens (mlk ml) caps = capsA) (hcp : D.okBs (bx0.map Prod.fst) caps = true) (hhas : hasBx bxA (renBx (mlk ml) bx0)) (hob : okBxP (bx0.map Prod.fst) bx0) (hinj : injB (mlk ml) (bx0.map Prod.fst) = true)
    (hout : (bx0.map Prod.fst).all (fun i => !memB ids (mlk ml i)) = true) (hsub : picks (lk envA) live = env0) (hoe : okEnvB ids env0 = true) (hkp : keepB ids bxA = bxs 0) (hp : Nat.blt p n = true) (hpe : purEnv env0 = true)
    (hkeys : (bxs 0).map Prod.fst = ids) (hf0 : frsBx (bxs 0)) (hxs : ∀ k, (xd k).pur = true ∧ (xd k).np = true) (hJ : J 0)
    (hround : ∀ k, k < N → J k → ∀ C' : Ctx, C'.gl = gl → (∀ id b, C'.pin id = some b → memN ids id = true) → W P C' asg (fun e σ' => e = .normal ∧ ∀ C' : Ctx, C'.gl = gl → (∀ id b, C'.pin id = some b → memN ids id = true) →
      W P C' body (fun e σ' => (e = .normal ∧ (keepB ids σ'.bx = bxs (k + 1) ∧ J (k + 1)) ∨ (e = .ret ∨ ∃ id, e = .exit id) ∧ Stop e (keepB ids σ'.bx)) ∧ frsBx (keepB ids σ'.bx)) σ') ((⟨n, env0, bxs k⟩ : Sg).set p (xd k)))
    (hN : J N → Q .normal (true, ⟨n, env0, bxs N⟩)) (hS : ∀ e bx, (e = .ret ∨ ∃ id, e = .exit id) → Stop e bx → Q e (true, ⟨n, env0, bx⟩)) :
    V P none (AM (relF gl W0 G)) (.rangeFunc (.tmp g) #[p] asg body) Q (false, ⟨n, envA, bxA⟩) := by
  have hlen : ((List.range N).map xd).length = N := by simp
  have hkeys' : ∀ id, (lk (bxs 0) id).isSome = memN ids id := by
    intro id
    rw [← hkeys]
    generalize bxs 0 = l
    induction l with
    | nil => rfl
    | cons x r ih =>
      obtain ⟨k, b⟩ := x
      rw [lk_cons]
      simp only [memN, List.map_cons, List.any_cons] at ih ⊢
      by_cases hk : k = id
      · subst hk; simp
      · simp only [hk, if_false, ih]
        rw [nbeq (fun h => hk h.symm)]
        simp
  have e : ∀ k (h : k < ((List.range N).map xd).length), ((List.range N).map xd)[k] = xd k := fun k h => by simp
  refine V.rangeB (ids := ids) (bxs := bxs) (Stop := Stop) J hgl hI hg hca hcp hhas hob hinj (fun i hi => by have := List.all_eq_true.1 hout i hi; simpa using this) (fun t d hd => lk_picks (f := lk envA) (l := live) (by rw [hsub]; exact hd)) hoe hkp (Nat.le_of_ble_eq_true hp) hpe hkeys' hf0 (fun k hk => by rw [e]; exact hxs k) hJ (fun k hk hJk => ?_) (by rw [hlen]; exact hN) hS
  rw [e]
  exact hround k (by simpa using hk) hJk

end Go.Sx

namespace Go.Sx

variable {P : Program} {C : Ctx} {σ σ' σ1 : Sg} {a : Act} {w w' : World} {ρ : Nat → Nat} {Fe Fe' Fb : Nat → List Nat}

theorem srcs_ok {ids : List Nat} {rs : List ResultVar} (h : (rs.all fun rv => (srcS σ rv).2 || !memB ids (srcS σ rv).1) = true) : ∀ rv ∈ rs, (srcS σ rv).2 = false → memB ids (srcS σ rv).1 = false := by
  intro rv hrv h2
  have := List.all_eq_true.1 h rv hrv
  rw [h2] at this
  simpa using this
theorem EndsB.none' {r : D} {ids : List Nat} {b0 bx' : List (Nat × Bx)} {e : Exit} (he : e = .normal ∨ e = .ret) (hb : keepB ids σ.bx = b0) (hb' : b0 = bx') (hok : okBxP ids b0) : EndsB [] P (.tup []) ids bx' e σ := by
  subst hb'
  exact ⟨he, ⟨[], rfl, rfl, List.nodup_nil, fun k hk => by simp at hk⟩, rfl, hb, hok, fun rv hrv => by cases hrv⟩
theorem EndsB.one' {rv : ResultVar} {r d : D} {ids : List Nat} {b0 bx' : List (Nat × Bx)} {e : Exit} (he : e = .normal ∨ e = .ret) (h : outS σ rv = some d) (hd : d = r) (h1 : d.isRef = false) (h3 : RtT P d rv) (hokr : d.okB ids = true)
    (hb : keepB ids σ.bx = b0) (hb' : b0 = bx') (hok : okBxP ids b0) (hs : ([rv].all fun rv => (srcS σ rv).2 || !memB ids (srcS σ rv).1) = true) : EndsB [rv] P r ids bx' e σ := by
  subst hb'
  subst hd
  exact ⟨he, ⟨h, h1, h3⟩, hokr, hb, hok, srcs_ok hs⟩
inductive EndLB (P : Program) (σ : Sg) : List ResultVar → List D → Prop
  | nil : EndLB P σ [] []
  | cons {rv : ResultVar} {d : D} {rs : List ResultVar} {ds : List D} (h : outS σ rv = some d) (h1 : d.isRef = false) (h3 : RtT P d rv) (t : EndLB P σ rs ds) : EndLB P σ (rv :: rs) (d :: ds)
theorem EndLB.len {rs : List ResultVar} {ds : List D} (h : EndLB P σ rs ds) : ds.length = rs.length := by
  induction h with
  | nil => rfl
  | cons _ _ _ _ ih => simp [ih]
theorem EndLB.ok {rs : List ResultVar} {ds : List D} (h : EndLB P σ rs ds) : ∀ k (h : k < rs.length) (h' : k < ds.length), outS σ rs[k] = some ds[k] ∧ ds[k].isRef = false ∧ RtT P ds[k] rs[k] := by
  induction h with
  | nil => intro k hk; simp at hk
  | cons h h1 h3 t ih =>
    intro k hk hk'
    cases k with
    | zero => exact ⟨h, h1, h3⟩
    | succ k => simpa using ih k (by simpa using hk) (by simpa using hk')
theorem EndsB.many' {r1 r2 : ResultVar} {rs : List ResultVar} {ds ds' : List D} {ids : List Nat} {b0 bx' : List (Nat × Bx)} {e : Exit} (he : e = .normal ∨ e = .ret) (h : EndLB P σ (r1 :: r2 :: rs) ds') (hd : ds' = ds) (hn : ((r1 :: r2 :: rs).map (srcS σ)).Nodup) (hokr : (D.tup ds').okB ids = true)
    (hb : keepB ids σ.bx = b0) (hb' : b0 = bx') (hok : okBxP ids b0) (hs : ((r1 :: r2 :: rs).all fun rv => (srcS σ rv).2 || !memB ids (srcS σ rv).1) = true) : EndsB (r1 :: r2 :: rs) P (.tup ds) ids bx' e σ := by
  subst hb'
  subst hd
  exact ⟨he, ⟨_, rfl, h.len, hn, h.ok⟩, hokr, hb, hok, srcs_ok hs⟩
end Go.Sx
