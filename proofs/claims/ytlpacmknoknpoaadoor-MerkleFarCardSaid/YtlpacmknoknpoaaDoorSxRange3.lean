/-
  Own library: ranges over functions, the statement and the function that holds it.
-/
import Derived.Test.YtlpacmknoknpoaaDoorSxRange2
set_option linter.unusedVariables false
set_option linter.unusedSimpArgs false
set_option linter.unnecessarySimpa false
namespace Go.Sx

variable {P : Program} {C : Ctx} {σ σ' σ1 : Sg} {a : Act} {w w' : World} {ρ : Nat → Nat} {Fe Fe' Fb : Nat → List Nat}
variable {gl : List (Nat × D)} {W0 : World} {G : Nat → Prop}

/-- the record of a loop, at its beginning -/
def rec0 (fn : FuncId) (tmps : Array Value) (p : Nat) (asg body : Code) (dd : Nat) : Loop :=
  { state := .ready, pending := none, fn := fn, tmps := tmps, params := #[p], assign := asg, body := body, defers := dd }

theorem V.range {g p n : Nat} {asg body : Code} {env0 : List (Nat × D)} {ids : List Nat} {f : FuncId} [hf : CaT P f] {caps xs : List D} {bxs : Nat → List (Nat × Bx)} {Stop : Exit → List (Nat × Bx) → Prop} (J : Nat → Prop)
    {Q : Exit → Bool × Sg → Prop} (hgl : Glw gl W0 G) (hI : Itr P gl f caps xs) (hg : lk env0 g = some (.fn f caps)) (hnp : ∀ d ∈ caps, d.np = true) (hp : p < n) (hpe : purEnv env0 = true)
    (hkeys : ∀ id, (lk (bxs 0) id).isSome = memN ids id) (hf0 : frsBx (bxs 0)) (hxs : ∀ k (h : k < xs.length), xs[k].pur = true ∧ xs[k].np = true)
    (hJ : J 0)
    (hround : ∀ k (h : k < xs.length), J k → ∀ C' : Ctx, C'.gl = gl → (∀ id b, C'.pin id = some b → memN ids id = true) → W P C' asg (fun e σ' => e = .normal ∧ ∀ C' : Ctx, C'.gl = gl → (∀ id b, C'.pin id = some b → memN ids id = true) →
      W P C' body (fun e σ' => (e = .normal ∧ (keepB ids σ'.bx = bxs (k + 1) ∧ J (k + 1)) ∨ (e = .ret ∨ ∃ id, e = .exit id) ∧ Stop e (keepB ids σ'.bx)) ∧ frsBx (keepB ids σ'.bx)) σ') ((⟨n, env0, bxs k⟩ : Sg).set p xs[k]))
    (hN : J xs.length → Q .normal (true, ⟨n, env0, bxs xs.length⟩)) (hS : ∀ e bx, (e = .ret ∨ ∃ id, e = .exit id) → Stop e bx → Q e (true, ⟨n, env0, bx⟩)) :
    V P none (AM (relF gl W0 G)) (.rangeFunc (.tmp g) #[p] asg body) Q (false, ⟨n, env0, bxs 0⟩) := by
  intro a w ⟨C, ⟨h1, h2, h3, h4, h5, h6, h7⟩, ρ, Fe, Fb, st⟩
  have hlt := st.lt
  have hpure : ∀ t d, lk env0 t = some d → ∃ v, a.tmps[t]? = some v ∧ VR w ρ (gd C Fe Fb) (fun id => memN ids id = true) d v [] := by
    intro t d hd
    obtain ⟨hp1, hp2⟩ := purEnv_get hpe hd
    obtain ⟨v, hv, hr⟩ := (SR_plain hp2).1 (st.env t d hd)
    have := hr.pur hp1
    rw [this] at hr
    exact ⟨v, hv, hr.mono (fun _ _ _ => rfl) (fun _ h _ => h) (fun id hid => ⟨by rw [← hkeys]; exact hid, rfl⟩)⟩
  obtain ⟨vg, hvg, hrg⟩ := hpure g _ hg
  simp only [VR, D.isAgg, Bool.false_eq_true, if_false] at hrg
  obtain ⟨vs, rfl, hvl, hva, hvr⟩ : ∃ vs : List Value, vg = .func (.func f) #[] vs.toArray ∧ vs.length = caps.length ∧ (∀ k (h : k < caps.length), caps[k].isAgg = false) ∧ ∀ k (h : k < caps.length), Rc w ρ (gd C Fe Fb) (fun id => memN ids id = true) true caps[k] [vs.getD k undef] [] := by
    cases hrg
    exact ⟨_, rfl, ‹_›, ‹_›, ‹_›⟩
  refine wpIn_rangeFunc fun fn _ => ?_
  let r0 := rec0 fn a.tmps p asg body w.heap.size
  let w2 : World := (w.alloc (.deferred (some []))).alloc (.loop r0)
  have hw2 : ∀ b, b < w.heap.size → w2.heap[b]? = w.heap[b]? := fun b hb => by
    show ((w.heap.push _).push _)[b]? = _
    rw [Array.getElem?_push_lt (by simp; omega), Array.getElem_push_lt hb, Array.getElem?_eq_getElem hb]
  have hw2d : w2.heap[w.heap.size]? = some (.deferred (some [])) := by
    show ((w.heap.push _).push _)[w.heap.size]? = _
    rw [Array.getElem?_push_lt (by simp)]
    simp
  have hw2l : w2.heap[w.heap.size + 1]? = some (.loop r0) := by
    show ((w.heap.push (.deferred (some []))).push _)[w.heap.size + 1]? = _
    have e : w.heap.size + 1 = (w.heap.push (Obj.deferred (some []))).size := by simp
    rw [e, Array.getElem?_push_size]
  have hw2s : w2.heap.size = w.heap.size + 2 := by
    show ((w.heap.push _).push _).size = _
    simp
  have hevg : a.eval (.tmp g) = .func (.func f) #[] vs.toArray := eval_tmp hvg
  obtain ⟨ff, hff1, hff2, hff3⟩ := hf.i
  refine ⟨w.heap.size + 1, [markOf w.heap.size], w2, { target := .fn (.func f) vs.toArray, args := #[.func (.yield (w.heap.size + 1)) #[] #[]] }, w2, f, #[.func (.yield (w.heap.size + 1)) #[] #[]] ++ vs.toArray, w2, ?_, ?_, (fun _ _ => trivial), ?_, (fun h => by cases h), ?_⟩
  · exact run_enterLoop_outer fn a.tmps #[p] asg body
  · simp [resolve, rangeCall, hvg, Deferred.ofValue, Act.eval]
  · simp [invoke, run_callFunc hff1 hff2 hff3]
  let sz := w.heap.size
  let l := w.heap.size + 1
  let dd := w.heap.size
  let G1 : Nat → Prop := fun b => gd C Fe Fb b ∧ b < w.heap.size
  let Y : Yt := fun k s O w' => (s = false → (k ≤ xs.length ∧ J k) ∧ w'.heap[l]? = some (.loop r0) ∧ ∃ Fb', Last C n a env0 ids ρ G1 sz l dd (bxs k) Fb' O w') ∧
    (s = true → ∃ e c bx Fb', (e = .ret ∨ ∃ id, e = .exit id) ∧ Stop e bx ∧ jmp e = some c ∧ w'.heap[l]? = some (.loop { r0 with state := .done, pending := some c }) ∧ Last C n a env0 ids ρ G1 sz l dd bx Fb' O w')
  have hkl : ∀ b, C.keep b → b < w.heap.size := fun b hb => Nat.lt_of_lt_of_le (st.kept b hb).2 st.grown
  have hz : ∀ b, sz ≤ b → ¬ C.keep b := fun b hb hc => by have := hkl b hc; have : sz = w.heap.size := rfl; omega
  have hY : Stable Y := by
    intro k s O O' w₁ w₂ ⟨y1, y2⟩ ha
    have hrec : ∀ bx Fb' o, Last C n a env0 ids ρ G1 sz l dd bx Fb' O w₁ → w₁.heap[l]? = some o → w₂.heap[l]? = some o := fun bx Fb' o hL ho => by
      rw [ha.same l (Array.getElem?_eq_some_iff.1 ho).1 (fun hc => (hL.O_ge l hc).2.1 rfl)]
      exact ho
    refine ⟨fun hs => ?_, fun hs => ?_⟩
    · obtain ⟨q1, q2, Fb', q3⟩ := y1 hs
      exact ⟨q1, hrec _ _ _ q3 q2, Fb', q3.apart hz ha⟩
    · obtain ⟨e, c, bx, Fb', q1, q2, q3, q4, q5⟩ := y2 hs
      exact ⟨e, c, bx, Fb', q1, q2, q3, hrec _ _ _ q5 q4, q5.apart hz ha⟩
  have hgC : ∀ g' d, (g', d) ∈ C.gl → C.keep g' ∧ G1 g' ∧ ∃ cs e fz, C.w0.heap[g']? = some (.cells cs e fz) ∧ Rc C.w0 (fun x => x) (fun _ => False) (fun _ => False) false d cs.toList [] := fun g' d hgd => by
    obtain ⟨q1, q2, q3⟩ := st.gl g' d hgd
    exact ⟨q1, ⟨⟨q2, fun ho => st.new g' ho q1⟩, hkl g' q1⟩, q3⟩
  have hL0 : Last C n a env0 ids ρ G1 sz l dd (bxs 0) Fb (fun _ => False) w2 := by
    refine Last.mk hkeys hf0 (fun t d hd => ?_) (fun id d hd => ?_) (fun id hid => st.bxN id hid) st.nodB st.dBB (fun id b hb => ?_) (fun b hb => hb.elim) (fun b hb => ?_) (fun b hb => ?_) st.os st.tape st.output (by rw [hw2s]; show w.heap.size ≤ _; omega) (by rw [hw2s]; show w.heap.size + 1 < _; omega) (by rw [hw2s]; show w.heap.size < _; omega) (by show w.heap.size + 1 ≠ w.heap.size; omega) hw2d
    · obtain ⟨v, q1, q2⟩ := hpure t d hd
      exact ⟨v, q1, q2.mono (fun b hb hl => hw2 b hl) (fun b hb hl => ⟨hb, hl⟩) (fun _ h => ⟨h, rfl⟩)⟩
    · obtain ⟨d0, hd0, hfr, hn0⟩ := frsBx_get hf0 hd
      cases hd0
      obtain ⟨cs, e, F', q1, q2, q3⟩ := st.bx id _ hd
      have hbl : ρ id < w.heap.size := (Array.getElem?_eq_some_iff.1 q1).1
      exact ⟨cs, e, F', (hw2 _ hbl).trans q1, q2.frsAll hfr hn0 (fun b hb hl => hw2 b hl), q3⟩
    · have hbl : b < w.heap.size := hlt b (.inr ⟨id, hb⟩)
      exact ⟨st.new b (.inr ⟨id, hb⟩), (fun h => h), (fun hc => hc.1.2 (.inr ⟨id, hb⟩)), by show b ≠ w.heap.size + 1; omega, by show b ≠ w.heap.size; omega, by rw [hw2s]; omega⟩
    · have hbl : b < w.heap.size := hb.2
      exact ⟨hb.2, by show b ≠ w.heap.size + 1; omega, by show b ≠ w.heap.size; omega⟩
    · have hbl := hkl b hb
      exact ⟨(hw2 b hbl).trans (st.kept b hb).1, hbl, by show b ≠ w.heap.size + 1; omega, by show b ≠ w.heap.size; omega⟩
  have hcalls := hI w2 G1 vs l Y (fun b hb => by rw [hw2s]; have : b < w.heap.size := hb.2; omega) (fun g' d hgd => by
      obtain ⟨q1, cs, e, fz, q2, q3⟩ := gl_ok st g' d (by rw [h1]; exact hgd)
      have hbl := (Array.getElem?_eq_some_iff.1 q2).1
      exact ⟨⟨q1, hbl⟩, cs, e, fz, (hw2 g' hbl).trans q2, q3.mono (fun b hb _ => by rcases hb with hb | hb; exact hb.elim; cases hb) (fun _ h => h.elim) (fun _ h => h.elim)⟩) hvl (fun k hk => by
      have hn := hnp _ (List.getElem_mem hk)
      have hv : VR w ρ (gd C Fe Fb) (fun id => memN ids id = true) caps[k] (vs.getD k undef) [] := by
        simp only [VR, hva k hk, Bool.false_eq_true, if_false]
        exact hvr k hk
      exact (hv.noL (ρ' := fun x => x) (L' := fun _ => False) hn).mono (fun b hb hl => hw2 b hl) (fun b hb hl => ⟨hb, hl⟩) (fun _ h => h.elim)) hY
    (fun k O w₁ v hk hYk hO hv => by
      obtain ⟨⟨_, hJk⟩, hrec, Fb', hL⟩ := hYk.1 rfl
      have ha := hround k hk hJk
      have hround' := hL.round (r := r0) hrec rfl rfl rfl rfl rfl st.size hO hp hv (hxs k hk).1 (hxs k hk).2 hpe hgC (E := fun e bx' => e = .normal ∧ (bx' = bxs (k + 1) ∧ J (k + 1)) ∨ (e = .ret ∨ ∃ id, e = .exit id) ∧ Stop e bx')
        (fun C' hC' hD' => (ha C' (hC'.trans h1) hD').mono (fun e s h => ⟨h.1, fun C'' hC'' hD'' => h.2 C'' (hC''.trans h1) hD''⟩)) (fun e bx' he => he.elim (fun h => .inl h.1) (fun h => .inr h.1))
      obtain ⟨f', tm, as', bd, hrun, hR⟩ := hround'
      refine ⟨f', tm, as', bd, hrun, hR.mono ?_⟩
      rintro e' w₂ ⟨s, he', e, bx', Fb'', hE, hs, hrec', hL', hsame, hsz⟩
      refine ⟨s, he', ?_, fun b hb hl => ?_, hsz⟩
      · rcases hE with ⟨rfl, rfl, hJ1⟩ | ⟨hee, hst⟩
        · have : s = false := hs
          subst this
          exact ⟨fun _ => ⟨⟨hk, hJ1⟩, hrec', Fb'', hL'⟩, fun h => by cases h⟩
        · obtain ⟨c, hc⟩ : ∃ c, jmp e = some c := by rcases hee with rfl | ⟨id, rfl⟩ <;> exact ⟨_, rfl⟩
          rw [hc] at hs hrec'
          have : s = true := hs
          subst this
          exact ⟨fun h => (by cases h), fun _ => ⟨e, c, bx', Fb'', hee, hst, hc, hrec', hL'⟩⟩
      · refine hsame b hl (fun ⟨id, hid⟩ => ?_) (fun hbl => ?_)
        · obtain ⟨q1, q2, q3, q4, q5, q6⟩ := hL.own id b hid
          exact hb.elim q3 q2
        · rcases hb with hb | hb
          · exact (hL.G1_lt b hb).2.1 hbl
          · exact (hL.O_ge b hb).2.1 hbl)
    ⟨fun _ => ⟨⟨Nat.zero_le _, hJ⟩, hw2l, Fb, hL0⟩, fun h => by cases h⟩
  refine callsIn_wide.2 (Calls.mono hcalls ?_)
  rintro e w₃ ⟨⟨v, rfl⟩, k, s, O, hYk, hend⟩
  have hdfs : a.defers = [] := by rw [st.defs, h7]
  have hfin : ∀ bx Fb' (o : Obj), Last C n a env0 ids ρ G1 sz l dd bx Fb' O w₃ → AM (relF gl W0 G) (true, ⟨n, env0, bx⟩) { a with defers := [markOf w.heap.size] ++ a.defers } (w₃.putObj l o) := fun bx Fb' o hL => by
    rw [hdfs]
    exact hL.finish st.size hpe h4 (fun b hb => h6 b hb.1.1) h5 (Nat.le_trans h5.size st.grown) hgl o
  cases s with
  | false =>
    have hke : k = xs.length := hend.resolve_left (by simp)
    subst hke
    obtain ⟨⟨_, hJk⟩, hrec, Fb', hL⟩ := hYk.1 rfl
    refine ⟨_, _, run_endLoop hrec (by simp [r0, rec0]), ?_⟩
    exact ⟨_, hfin _ Fb' _ hL, hN hJk⟩
  | true =>
    obtain ⟨e, c, bx, Fb', hee, hst, hc, hrec, hL⟩ := hYk.2 rfl
    refine ⟨_, _, run_endLoop hrec (by simp), ?_⟩
    rcases hee with rfl | ⟨id, rfl⟩
    · cases hc
      exact wpIn_ret ⟨_, hfin _ Fb' _ hL, hS _ _ (.inl rfl) hst⟩
    · cases hc
      exact wpIn_exit ⟨_, hfin _ Fb' _ hL, hS _ _ (.inr ⟨_, rfl⟩) hst⟩

/-- a function that ranges over another one -/
theorem Fn.ofR {f : FuncId} {fn : Func} {c : Code} {ds : List D} {r : D} {n : Nat} (hf : P.funcs[f]? = some fn) (hb : fn.body = some c) (hnn : fn.ntmps = n)
    (hd : ds.all (fun d => !d.isRef) = true) (hn : ds.length ≤ n)
    (h : ∀ (W0 : World) (G : Nat → Prop), Glw gl W0 G → V P none (AM (relF gl W0 G)) c (fun e i => Ends fn.results.toList P r e i.2) (false, ⟨n, ini 0 ds, []⟩)) : Fn P gl f ds r := by
  subst hnn
  intro w G vs hgl hl hv
  refine callsIn_wide.1 (callsIn_of_wp_marks (n := 3) hf hb trivial ?_)
  have hglw : Glw gl w G := fun g d hg => by
    obtain ⟨h1, cs, e, fz, h2, h3⟩ := hgl g d hg
    exact ⟨(Array.getElem?_eq_some_iff.1 h2).1, h1, cs, e, fz, h2, h3⟩
  let C : Ctx := ⟨w, fun b => b < w.heap.size, fun b => G b ∨ w.heap.size ≤ b, gl, none, fun _ => none, []⟩
  have hget : ∀ t d, (⟨fn.ntmps, ini 0 ds, []⟩ : Sg).get t = some d → ∃ h : t < ds.length, ds[t] = d := by
    intro t d hd
    simp only [Sg.get, lk_ini, Nat.zero_le, if_true, Nat.sub_zero] at hd
    obtain ⟨h, e⟩ := List.getElem?_eq_some_iff.1 hd
    exact ⟨h, e⟩
  have hown : ∀ b, ¬ own (fun _ => []) (fun _ => []) b := by rintro b (⟨_, h⟩ | ⟨_, h⟩) <;> cases h
  have st : StW C ⟨fn.ntmps, ini 0 ds, []⟩ { tmps := vs.toArray ++ Array.replicate (fn.ntmps - vs.toArray.size) undef, defers := [] } w (fun x => x) (fun _ => []) (fun _ => []) := by
    refine ⟨?_, rfl, (fun _ _ hp => by cases hp), ?_, fun _ _ => rfl, ?_, fun _ _ => rfl, fun _ => List.nodup_nil, fun _ => List.nodup_nil, (fun _ _ _ _ h => by cases h), (fun _ _ _ h => by cases h), (fun _ _ _ _ h => by cases h), fun b hb => absurd hb (hown b), ?_, rfl, rfl, rfl, Nat.le_refl _, ?_, fun b hb => .inr hb, fun b hb => absurd hb (hown b)⟩
    · simp [hl]; omega
    · intro t d hd'
      obtain ⟨ht, rfl⟩ := hget t d hd'
      have hr : ds[t].isRef = false := by
        have := List.all_eq_true.1 hd ds[t] (List.getElem_mem ht)
        simpa using this
      refine (SR_plain hr).2 ⟨vs.getD t undef, ?_, (hv t ht).mono (fun _ _ _ => rfl) (fun b hb _ => ⟨.inl hb, hown b⟩) (fun id hid => hid.elim)⟩
      have htv : t < vs.length := by omega
      rw [Array.getElem?_append_left (by simpa using htv)]
      simp [htv]
    · intro id d hd'; cases hd'
    · intro b hb; exact ⟨rfl, hb⟩
    · intro g d hg
      obtain ⟨h1, cs, e, fz, h2, h3⟩ := hgl g d hg
      exact ⟨(Array.getElem?_eq_some_iff.1 h2).1, .inl h1, cs, e, fz, h2, h3⟩
  have hstart : AM (relF gl w G) (false, ⟨fn.ntmps, ini 0 ds, []⟩) { tmps := vs.toArray ++ Array.replicate (fn.ntmps - vs.toArray.size) undef, defers := [] } w :=
    ⟨C, ⟨rfl, rfl, fun _ => rfl, fun b hb => hb, ⟨rfl, rfl, rfl, Nat.le_refl _, fun _ _ => rfl⟩, fun b hb => hb, rfl⟩, _, _, _, st⟩
  refine Go.Code.wpIn_mono ?_ (h w G hglw _ w hstart)
  rintro e a' w' ⟨⟨m, σ'⟩, ⟨C', ⟨h1, h2, h3, h4, h5, h6, h7⟩, ρ, Fe, Fb, st'⟩, hends⟩
  have he := hends.1
  have hleave : LeavesInM (Fr none) 3 P fn a'.tmps (fun e w' => ∃ v F, e = .returned v ∧ Ext w w' ∧ F.Nodup ∧ (∀ b ∈ F, w.heap.size ≤ b) ∧
      RV w' (fun x => x) (fun b => (G b ∨ w.heap.size ≤ b) ∧ b ∉ F) (fun _ => False) r v F) a'.defers .returning w' := by
    cases m with
    | false =>
      obtain ⟨v, k1, F, k2, k3, k4⟩ := Ends.out st' hends
      rw [st'.defs, h7]
      refine ⟨v, k1, v, F, rfl, ⟨st'.os.trans h5.os, st'.tape.trans h5.tape, st'.output.trans h5.output, Nat.le_trans h5.size st'.grown, fun b hb => ?_⟩, k2, fun b hb => Nat.le_of_not_lt (fun hc => st'.new b (k3 b hb) (h4 b hc)), k4.mono (fun _ _ _ => rfl) (fun b hb _ => ⟨h6 b hb.1, hb.2⟩) (fun _ h => h.elim)⟩
      rw [(st'.kept b (h4 b hb)).1, h5.block b hb]
    | true =>
      obtain ⟨dd, hd1, hd2, hd3, hd4, hd5⟩ := h7
      have hd6 : w'.heap[dd]? = some (.deferred (some [])) := by rw [(st'.kept dd hd3).1]; exact hd4
      let C2 : Ctx := ⟨w'.putObj dd (.deferred none), fun _ => False, C'.ok, [], none, C'.pin, C'.df⟩
      have hput : ∀ b, b ≠ dd → (w'.putObj dd (.deferred none)).heap[b]? = w'.heap[b]? := fun b hb => World.putObj_heap_other hb
      have st2 : StW C2 σ' a' (w'.putObj dd (.deferred none)) ρ Fe Fb := by
        refine st'.rebase C2 rfl rfl (fun b hb hl => hput b (fun hc => ?_)) (fun b hb _ => hb.1) (fun b hb hc => hc) (fun b hb => hb.elim) rfl rfl rfl (Nat.le_refl _) (fun g d hg => by cases hg) (fun b hb => st'.okN b (by rw [World.putObj_size] at hb; exact hb)) (fun b hb => st'.okO b hb)
        subst hc
        exact hd5 (hb.elim (fun h => h.1) (fun h => st'.okO _ h))
      obtain ⟨v, k1, F, k2, k3, k4⟩ := Ends.out st2 hends
      rw [st'.defs, hd1]
      refine ⟨by simp, .inl ⟨dd, _, rfl, run_takeDeferred hd6, v, k1, v, F, rfl, ⟨?_, ?_, ?_, ?_, fun b hb => ?_⟩, k2, fun b hb => Nat.le_of_not_lt (fun hc => st'.new b (k3 b hb) (h4 b hc)), k4.mono (fun _ _ _ => rfl) (fun b hb _ => ⟨h6 b hb.1, hb.2⟩) (fun _ h => h.elim)⟩⟩
      · exact st'.os.trans h5.os
      · exact st'.tape.trans h5.tape
      · exact st'.output.trans h5.output
      · rw [World.putObj_size]; exact Nat.le_trans h5.size st'.grown
      · rw [hput b (by omega), (st'.kept b (h4 b hb)).1, h5.block b hb]
  rcases he with rfl | rfl <;> exact hleave
end Go.Sx
