/-
  Own library: tuples, closures, memory that is only read from here on, slices that lie in boxes.
-/
import Derived.Test.YtlpacmknoknpoaaDoorSxRange3
set_option linter.unusedVariables false
set_option linter.unusedSimpArgs false
set_option linter.unnecessarySimpa false
namespace Go.Sx

variable {P : Program} {C : Ctx} {σ σ' σ1 : Sg} {a : Act} {w w' : World} {ρ : Nat → Nat} {Fe Fe' Fb : Nat → List Nat}

/-! ### tuples -/
theorem R.ext {s t k : Nat} {ds : List D} {d : D} {rt : TypeId} {pos : String} {aft : Array Edge} {g : Option (Nat × Bool)}
    (h : σ.get s = some (.tup ds)) (hk : ds[k]? = some d) (hp : d.pur = true) (ht : t < σ.n) : OpS P C ⟨some t, .extract (.tmp s) k, rt, pos, aft, g⟩ σ (σ.set t d) := by
  refine OpS.value fun a w ⟨ρ, Fe, Fb, st⟩ => ?_
  obtain ⟨vs, Fs, h1, h2, h3, h4⟩ := st.env s _ h
  obtain ⟨hkl, hkd⟩ := List.getElem?_eq_some_iff.1 hk
  rcases h4 k hkl with ⟨h5, _⟩ | ⟨h5, h6⟩
  · rw [hkd] at h5; subst h5; simp [D.pur] at hp
  · rw [hkd] at h5 h6
    have hF := h6.pur hp
    rw [hF] at h6
    have hv : vs[k]? = some (vs.getD k undef) := by
      have : k < vs.length := by omega
      rw [List.getD_eq_getElem?_getD, List.getElem?_eq_getElem this]; rfl
    refine ⟨vs.getD k undef, w, ?_, st.put ht h5 h6⟩
    generalize vs.getD k undef = x at hv
    have hx : vs.toArray[k]? = some x := by rw [List.getElem?_toArray]; exact hv
    unfold execOp
    simp only [Instr.extract, eval_tmp h1, hx, Sem.run_bind, Sem.run_pure, Result.andThen_ok]
theorem R.movT {s t : Nat} {ds : List D} {rt : TypeId} {pos : String} {aft : Array Edge} {g : Option (Nat × Bool)}
    (h : σ.get s = some (.tup ds)) (hp : D.purs ds = true) (ht : t < σ.n) : OpS P C ⟨some t, .move (.tmp s), rt, pos, aft, g⟩ σ (σ.set t (.tup ds)) := by
  refine OpS.value fun a w ⟨ρ, Fe, Fb, st⟩ => ?_
  obtain ⟨vs, Fs, h1, h2, h3, h4⟩ := st.env s _ h
  refine ⟨_, w, rfl, st.putRef ht ?_⟩
  rw [eval_tmp h1]
  refine ⟨vs, fun _ => [], ?_, h2, ?_, fun k hk => ?_⟩
  · rw [put_get a t _ t (by rw [st.size]; exact ht)]; simp
  · symm; rw [List.flatMap_eq_nil_iff]; intros; rfl
  · have hpk := purs_get ds hp k hk
    rcases h4 k hk with ⟨h5, _⟩ | ⟨h5, h6⟩
    · rw [h5] at hpk; simp [D.pur] at hpk
    · have hF := h6.pur hpk
      rw [hF] at h6
      exact .inr ⟨h5, h6.mono (fun _ _ _ => rfl) (fun b hb _ => ⟨hb.1, fun ho => hb.2 (own_upd ho)⟩) (fun id hid => ⟨hid, rfl⟩)⟩
theorem R.asgT {s t : Nat} {ds : List D} {rt : TypeId} {pos : String} {aft : Array Edge} {g : Option (Nat × Bool)}
    (h : σ.get s = some (.tup ds)) (hp : D.purs ds = true) (ht : t < σ.n) : OpS P C ⟨some t, .assign (.tmp s), rt, pos, aft, g⟩ σ (σ.set t (.tup ds)) := OpS.asg_of_mov (R.movT h hp ht)

/-! ### closures -/
theorem R.mkfn {t f : Nat} {xs : List Operand} {ds : List D} {rt : TypeId} {pos : String} {aft : Array Edge} {g : Option (Nat × Bool)} (hl : xs.length = ds.length)
    (h : ∀ k (h : k < xs.length) (h' : k < ds.length), ev C.gl σ xs[k] = some ds[k] ∧ ds[k].pur = true ∧ ds[k].isAgg = false) (ht : t < σ.n) :
    OpS P C ⟨some t, .makeFunc (.func f) #[] xs.toArray, rt, pos, aft, g⟩ σ (σ.set t (.fn f ds)) := by
  refine OpS.value fun a w ⟨ρ, Fe, Fb, st⟩ => ?_
  refine ⟨.func (.func f) #[] (xs.map a.eval).toArray, w, ?_, st.put ht rfl ?_⟩
  · unfold execOp
    simp [Instr.makeFunc]
  · simp only [VR, D.isAgg, Bool.false_eq_true, if_false]
    refine .fn f ds (xs.map a.eval) (by simp [hl]) (fun k hk => (h k (by omega) hk).2.2) (fun k hk => ?_)
    obtain ⟨h1, h2, h3⟩ := h k (by omega) hk
    obtain ⟨F, hv, _⟩ := ev_ok st h1 (pur_ref h2)
    have hF := hv.pur h2
    rw [hF] at hv
    simp only [VR, h3, Bool.false_eq_true, if_false] at hv
    have e : (xs.map a.eval).getD k undef = a.eval xs[k] := by
      have : k < xs.length := by omega
      simp [List.getD_eq_getElem?_getD, this]
    rw [e]
    exact hv
theorem R.mkfn1 {t f : Nat} {x : Operand} {d : D} {rt : TypeId} {pos : String} {aft : Array Edge} {g : Option (Nat × Bool)} (h : ev C.gl σ x = some d) (hp : d.pur = true) (ha : d.isAgg = false) (ht : t < σ.n) :
    OpS P C ⟨some t, .makeFunc (.func f) #[] #[x], rt, pos, aft, g⟩ σ (σ.set t (.fn f [d])) := by
  refine R.mkfn (xs := [x]) rfl (fun k h1 h2 => ?_) ht
  have : k = 0 := by simp at h1; omega
  subst this
  exact ⟨h, hp, ha⟩

/-! ### what is only read from here on -/
theorem St.frzS {s : Nat} {d d' : D} (h : σ.get s = some d) (hr : d.isRef = false) (he : d.brw = d') (hs : St C σ a w) : St C (σ.upd s d') a w := by
  obtain ⟨ρ, Fe, Fb, st⟩ := hs
  subst he
  obtain ⟨v, hv, hvr⟩ := (SR_plain hr).1 (st.env _ _ h)
  refine ⟨ρ, _, Fb, st.turn (F := []) h rfl rfl rfl (Nat.le_refl _) (fun _ _ _ => rfl) List.nodup_nil (by simp) ((SR_plain (by rw [isRef_brw]; exact hr)).2 ⟨v, hv, ?_⟩)⟩
  have hno : ∀ b, Go.Sx.own (Go.Sx.upd Fe s []) Fb b → Go.Sx.own Fe Fb b ∧ b ∉ Fe s := by
    rintro b (⟨u, hu⟩ | ⟨i, hi⟩)
    · by_cases hus : u = s
      · subst hus; simp at hu
      · rw [upd_other hus] at hu; exact ⟨.inl ⟨u, hu⟩, st.dEE u s hus b hu⟩
    · exact ⟨.inr ⟨i, hi⟩, fun hm => st.dEB s i b hm hi⟩
  exact hvr.brw (fun b hb => ⟨st.okO b (.inl ⟨s, hb⟩), fun ho => (hno b ho).2 hb⟩) (fun b hb _ => ⟨hb.1, fun ho => hb.2 (hno b ho).1⟩)
theorem W.frzS {c : Code} {Q : Exit → Sg → Prop} {s : Nat} {d d' : D} (h : σ.get s = some d) (hr : d.isRef = false) (he : d.brw = d') (k : W P C c Q (σ.upd s d')) : W P C c Q σ :=
  fun a w hs => k a w (St.frzS h hr he hs)

/-- a box that is only read from here on -/
def frz1 (id : Nat) (d : D) (x : D) : D :=
  match x with
  | .ptr i 0 [] => bif Nat.beq i id then .rp d else .ptr i 0 []
  | x => x
def frzE (id : Nat) (d : D) : List (Nat × D) → List (Nat × D)
  | [] => []
  | (k, x) :: r => (k, frz1 id d x) :: frzE id d r
theorem lk_frzE (id : Nat) (d : D) (l : List (Nat × D)) (u : Nat) : lk (frzE id d l) u = (lk l u).map (frz1 id d) := by
  induction l with
  | nil => rfl
  | cons x r ih =>
    obtain ⟨k, x⟩ := x
    simp only [frzE, lk_cons, ih]
    split <;> rfl
theorem frz1_cases (id : Nat) (d x : D) : (x = .ptr id 0 [] ∧ frz1 id d x = .rp d) ∨ frz1 id d x = x := by
  unfold frz1
  split
  · rename_i i
    by_cases hi : i = id
    · subst hi; exact .inl ⟨rfl, by simp⟩
    · right; simp [nbeq hi]
  · exact .inr rfl
theorem St.frzB {id : Nat} {d d' : D} {ids : List Nat} {bx' : List (Nat × Bx)} {env' : List (Nat × D)} (hb0 : σ.box id = some (.var d)) (he : d.brw = d') (hnp : d'.np = true) (hid : memB ids id = false) (hb : keepB ids σ.bx = bx')
    (hE : frzE id d' σ.env = env') (hoE : okEnvB ids env' = true) (hoB : okBx ids bx' = true) (hpn : ∀ id b, C.pin id = some b → memB ids id = true) (hs : St C σ a w) : St C ⟨σ.n, env', bx'⟩ a w := by
  obtain ⟨ρ, Fe, Fb, st⟩ := hs
  have hl : ∀ u, lk bx' u = if memB ids u then σ.box u else none := fun u => by rw [← hb]; exact lk_keepB ids σ.bx u
  have hsub : ∀ id, ∀ b ∈ (if memB ids id then Fb id else []), b ∈ Fb id := fun id b hm => by split at hm; exact hm; cases hm
  have hown : ∀ b, own Fe (fun id => if memB ids id then Fb id else []) b → own Fe Fb b := fun b hb => hb.imp (fun h => h) fun ⟨i, hi⟩ => ⟨i, hsub i b hi⟩
  have hgd : ∀ b, gd C Fe Fb b → gd C Fe (fun id => if memB ids id then Fb id else []) b := fun b hb => ⟨hb.1, fun hc => hb.2 (hown b hc)⟩
  have hgd2 : ∀ b ∈ Fb id, gd C Fe (fun id => if memB ids id then Fb id else []) b := fun b hb => ⟨st.okO b (.inr ⟨id, hb⟩), by
    rintro (⟨u, hu⟩ | ⟨i, hi⟩)
    · exact st.dEB u id b hu hb
    · by_cases hii : i = id
      · subst hii; simp [hid] at hi
      · exact st.dBB i id hii b (hsub i b hi) hb⟩
  have hL : ∀ i, (memB ids i = true ∧ (σ.box i).isSome) → (lk bx' i).isSome := fun i ⟨h1, h2⟩ => by rw [hl, if_pos h1]; exact h2
  refine ⟨ρ, Fe, (fun id => if memB ids id then Fb id else []), {
    size := st.size
    defs := st.defs
    pin := fun id b hp => ⟨(st.pin id b hp).1, hL id ⟨hpn id b hp, (st.pin id b hp).2⟩⟩
    env := fun t x hx => ?_
    envN := fun t ht => ?_
    bx := fun i b hd => ?_
    bxN := fun i hn => ?_
    nodE := st.nodE
    nodB := fun id => by show (if memB ids id then Fb id else []).Nodup; split; exact st.nodB id; exact List.nodup_nil
    dEE := st.dEE
    dEB := fun t i b hb hm => st.dEB t i b hb (hsub i b hm)
    dBB := fun i i' hne b hb hm => st.dBB i i' hne b (hsub i b hb) (hsub i' b hm)
    new := fun b hb => st.new b (hown b hb)
    kept := st.kept
    os := st.os
    tape := st.tape
    output := st.output
    grown := st.grown
    gl := st.gl
    okN := st.okN
    okO := fun b hb => st.okO b (hown b hb) }⟩
  · have hx0 : lk env' t = some x := hx
    have hok := okEnvB_get hoE hx0
    rw [← hE, lk_frzE, Option.map_eq_some_iff] at hx0
    obtain ⟨x0, hx1, hx2⟩ := hx0
    rcases frz1_cases id d' x0 with ⟨rfl, hf⟩ | hf
    · rw [hf] at hx2
      subst hx2
      obtain ⟨v, hv, hr⟩ := (SR_plain rfl).1 (st.env t _ hx1)
      refine (SR_plain rfl).2 ⟨v, hv, ?_⟩
      simp only [VR, D.isAgg, Bool.false_eq_true, if_false] at hr ⊢
      generalize Fe t = F at hr ⊢
      cases hr
      obtain ⟨cs, e, F', q1, q2, q3⟩ := st.bx id _ hb0
      have h4 := q2.brw (G' := gd C Fe (fun id => if memB ids id then Fb id else [])) (fun b hb => hgd2 b (by rw [q3]; exact List.mem_cons_of_mem _ hb)) (fun b hb _ => hgd b hb)
      have hlen := q2.len
      rw [he] at h4
      have hsz : d'.sz = d.sz := by rw [← he, sz_brw]
      refine .rp d' (ρ id) 0 cs e (0, 0) q1 (hgd2 _ (by rw [q3]; simp)) (by rw [hsz]; simp at hlen; omega) ?_
      have hcs : (cs.toList.drop 0).take d'.sz = cs.toList := by rw [hsz, ← hlen, List.drop_zero]; exact List.take_length
      rw [hcs]
      exact (h4.unflag hnp).noL
    · rw [hf] at hx2
      subst hx2
      exact (st.env t _ hx1).okB hok (fun b hb _ => hgd b hb) hL
  · have ht' : lk env' t = none := ht
    rw [← hE, lk_frzE, Option.map_eq_none_iff] at ht'
    exact st.envN t ht'
  · obtain ⟨x, rfl, hok⟩ := okBx_get hoB hd
    have h1 := hl i
    by_cases hm : memB ids i = true
    · rw [if_pos hm] at h1
      have h2 : σ.box i = some (.var x) := by rw [← h1]; exact hd
      obtain ⟨cs, e, F', h3, h4, h5⟩ := st.bx i _ h2
      refine ⟨cs, e, F', h3, (h4.okB hok).mono (fun _ _ _ => rfl) (fun b hb _ => hgd b hb) (fun i hi => ⟨hL i hi, rfl⟩), by simp only [hm, if_true]; exact h5⟩
    · rw [if_neg hm] at h1
      rw [show lk bx' i = some (.var x) from hd] at h1
      cases h1
  · have h1 := hl i
    by_cases hm : memB ids i = true
    · rw [if_pos hm] at h1
      simp only [hm, if_true]
      exact st.bxN i (by rw [← h1]; exact hn)
    · simp [hm]
theorem W.frzB {c : Code} {Q : Exit → Sg → Prop} (id : Nat) {d d' : D} (ids : List Nat) {bx' : List (Nat × Bx)} {env' : List (Nat × D)} (hb0 : σ.box id = some (.var d)) (he : d.brw = d') (hnp : d'.np = true) (hid : memB ids id = false) (hb : keepB ids σ.bx = bx')
    (hE : frzE id d' σ.env = env') (hoE : okEnvB ids env' = true) (hoB : okBx ids bx' = true) (hpn : ∀ id b, C.pin id = some b → memB ids id = true) (h : W P C c Q ⟨σ.n, env', bx'⟩) : W P C c Q σ :=
  fun a w hs => h a w (St.frzB hb0 he hnp hid hb hE hoE hoB hpn hs)

/-- a call to which memory is lent; the result is only read -/
def D.brwR : D → D
  | .tup ds => .tup (ds.map D.brw)
  | d => d.brw
theorem RV.brwR {G G' L : Nat → Prop} {r : D} {v : Value} {F : List Nat} (h : RV w ρ G L r v F) (hF : ∀ b ∈ F, G' b) (hG : ∀ b, G b → b < w.heap.size → G' b) : RV w ρ G' L r.brwR v [] := by
  cases r with
  | tup ds =>
    obtain ⟨vs, Fs, h1, h2, h3, h4⟩ := h
    refine ⟨vs, fun _ => [], h1, by simp [h2], ?_, fun k hk => ?_⟩
    · symm; rw [List.flatMap_eq_nil_iff]; intros; rfl
    · have hk' : k < ds.length := by simpa using hk
      obtain ⟨h5, h6⟩ := h4 k hk'
      have e : (ds.map D.brw)[k] = ds[k].brw := by simp
      rw [e]
      exact ⟨by rw [isRef_brw]; exact h5, h6.brw (fun b hb => hF b (by rw [h3]; exact List.mem_flatMap.2 ⟨k, List.mem_range.2 hk', hb⟩)) hG⟩
  | _ =>
    have h1 := h.1
    have h2 := (RV_plain h1).1 h
    exact (RV_plain (by rw [D.brwR, isRef_brw]; exact h1; all_goals (intro ds hc; cases hc))).2 (by rw [D.brwR]; exact h2.brw hF hG; all_goals (intro ds hc; cases hc))
theorem R.callZ {f : FuncId} [CaT P f] {t : Nat} {args : List Operand} {tys : Array TypeId} {rt : TypeId} {pos : String} {aft : Array Edge} {g : Option (Nat × Bool)} {gl : List (Nat × D)} {ds : List D} {r r' : D}
    (hF : Fn P gl f ds r) (hgl : C.gl = gl) (hb : Bors C.gl σ args ds) (hr : FrsR r) (hr' : r.brwR = r') (ht : t < σ.n) :
    OpS P C ⟨some t, .call { callee := .value (.func f), args := args.toArray, argTypes := tys }, rt, pos, aft, g⟩ σ (σ.set t r') := by
  subst hgl; subst hr'
  intro a w ⟨ρ, Fe, Fb, st⟩ K Q hK
  refine wpIn_of_run (run_call a w) (by simp) ?_
  rw [Oper.uponIn_enter]
  have hc := hF w (fun b => b < w.heap.size) (args.map a.eval) (fun g d hg => by
    obtain ⟨_, cs, e, fz, h1, h2⟩ := gl_ok st g d hg
    exact ⟨(Array.getElem?_eq_some_iff.1 h1).1, cs, e, fz, h1, h2⟩) (by simp [hb.len]) (hb.ok st)
  simp only [List.map_toArray]
  refine ⟨(fun h => by cases h), (callsIn_fx (Calls.mono hc ?_))⟩
  rintro e w' ⟨v, F, rfl, hext, hnd, hnew, hv⟩
  have hlt := st.lt
  have hput : (a.put (some t) v).tmps[t]? = some v := by rw [put_get a t v t (by rw [st.size]; exact ht)]; simp
  refine hK _ _ ⟨ρ, upd Fe t [], Fb, st.ext ht hext List.nodup_nil (by simp) (RV.slot ?_ hput)⟩
  have h0 : RV w' ρ (fun _ => False) (fun id => (σ.box id).isSome) r v F := by
    refine hv.map Frs hr (fun d v F' hF' hd hx => ?_)
    have h1 := hx.frs (G' := fun _ => False) hd
    exact h1.mono (fun _ _ _ => rfl) (fun b hb _ => hb.elim) (fun id hid => hid.elim)
  exact h0.brwR (fun b hb => ⟨st.okN b (hnew b hb), fun ho => by have := hlt b (own_upd ho); have := hnew b hb; omega⟩) (fun _ h _ => h.elim)

/-! ### slices that lie in boxes -/
theorem St.takeB {id t e z : Nat} {l : List D} (h : σ.get t = some (.alb id 0 [])) (hb : σ.box id = some (.var (.sl (some e) z l))) (hs : St C σ a w) :
    St C ((σ.putB id (.var .dead)).upd t (.sl (some e) z l)) a w := by
  obtain ⟨ρ, Fe, Fb, st⟩ := hs
  obtain ⟨hFt, hid, v, hv, hcell⟩ := st.env t _ h
  obtain ⟨cs, e0, F', q1, q2, q3⟩ := st.bx id _ hb
  have hlen := q2.len
  obtain ⟨v0, hv0⟩ : ∃ v0, cs.toList = [v0] := by
    have : cs.toList.length = 1 := hlen
    match hcs : cs.toList, this with
    | [x], _ => exact ⟨x, rfl⟩
  have hvv : v0 = v := by
    have : cs[0]? = some v0 := by rw [← Array.getElem?_toList, hv0]; rfl
    simp only [World.cell?, q1] at hcell
    rw [this] at hcell
    cases hcell; rfl
  subst hvv
  have hnd : (ρ id :: F').Nodup := by have := st.nodB id; rw [q3] at this; exact this
  have hmem : ∀ b, b ∈ F' → b ∈ Fb id := fun b hb => by rw [q3]; exact List.mem_cons_of_mem _ hb
  have hin : ρ id ∈ Fb id := by rw [q3]; simp
  have hot : ∀ b, own (upd Fe t F') (upd Fb id [ρ id]) b → own Fe Fb b := by
    rintro b (⟨u, hu⟩ | ⟨i, hi⟩)
    · by_cases hut : u = t
      · subst hut; rw [upd_same] at hu; exact .inr ⟨id, hmem b hu⟩
      · rw [upd_other hut] at hu; exact .inl ⟨u, hu⟩
    · by_cases hii : i = id
      · subst hii; rw [upd_same] at hi; simp at hi; subst hi; exact .inr ⟨i, hin⟩
      · rw [upd_other hii] at hi; exact .inr ⟨i, hi⟩
  have hg : ∀ b, gd C Fe Fb b → gd C (upd Fe t F') (upd Fb id [ρ id]) b := fun b hb => ⟨hb.1, fun hc => hb.2 (hot b hc)⟩
  have hbox : ∀ i, ((σ.putB id (.var .dead)).upd t (.sl (some e) z l)).box i = if i = id then some (.var .dead) else σ.box i := fun i => by
    rw [box_upd, box_putB]
    by_cases hi : i = id
    · subst hi; simp [hb]
    · simp [hi]
  have hL : ∀ i, (σ.box i).isSome = true → (((σ.putB id (.var .dead)).upd t (.sl (some e) z l)).box i).isSome = true := fun i hi => by
    rw [hbox]; by_cases hii : i = id
    · simp [hii]
    · simpa [hii] using hi
  refine ⟨ρ, upd Fe t F', upd Fb id [ρ id], {
    size := st.size
    defs := st.defs
    pin := fun i b hp => ⟨(st.pin i b hp).1, hL i (st.pin i b hp).2⟩
    env := fun u x hx => ?_
    envN := fun u hu => ?_
    bx := fun i b hd => ?_
    bxN := fun i hn => ?_
    nodE := fun u => ?_
    nodB := fun i => ?_
    dEE := fun u u' hne b hb1 hb2 => ?_
    dEB := fun u i b hb1 hb2 => ?_
    dBB := fun i i' hne b hb1 hb2 => ?_
    new := fun b hb => st.new b (hot b hb)
    kept := st.kept
    os := st.os
    tape := st.tape
    output := st.output
    grown := st.grown
    gl := st.gl
    okN := st.okN
    okO := fun b hb => st.okO b (hot b hb) }⟩
  · rw [get_upd, get_putB] at hx
    by_cases hut : u = t
    · subst hut
      simp only [if_true, h, Option.map_some] at hx
      cases hx
      rw [upd_same]
      refine (SR_plain rfl).2 ⟨v0, hv, ?_⟩
      simp only [VR, D.isAgg, Bool.false_eq_true, if_false]
      rw [hv0] at q2
      exact q2.mono (fun _ _ _ => rfl) (fun b hb _ => hg b hb) (fun i hi => ⟨hL i hi, rfl⟩)
    · simp only [hut, if_false, Option.map_eq_some_iff] at hx
      obtain ⟨x0, hx0, rfl⟩ := hx
      rw [upd_other hut]
      have hsr := st.env u x0 hx0
      have hkeep : SR w ρ (gd C (upd Fe t F') (upd Fb id [ρ id])) (fun i => (((σ.putB id (.var .dead)).upd t (.sl (some e) z l)).box i).isSome) a u x0 (Fe u) :=
        SR_keep hsr (fun _ _ _ => rfl) (fun b hb _ => hg b hb) hL (fun _ _ _ _ h => h)
      cases x0 with
      | alb i off path =>
        simp only [scrubB]
        by_cases hii : i = id
        · subst hii
          simp only [Nat.beq_refl, cond_true]
          obtain ⟨h1, _, v1, h2, _⟩ := hsr
          exact ⟨h1, v1, h2⟩
        · simp only [nbeq hii, cond_false]
          exact hkeep
      | _ => exact hkeep
  · rw [get_upd, get_putB] at hu
    by_cases hut : u = t
    · subst hut; simp [h] at hu
    · simp only [hut, if_false, Option.map_eq_none_iff] at hu
      rw [upd_other hut]
      exact st.envN u hu
  · rw [hbox] at hd
    by_cases hii : i = id
    · subst hii
      simp only [if_true, Option.some.injEq] at hd
      subst hd
      rw [upd_same]
      refine ⟨cs, e0, [], q1, ?_, rfl⟩
      rw [hv0]
      refine .dead v0 ?_
      rw [hv0] at q2
      exact q2.one v0 (by simp)
    · simp only [hii, if_false] at hd
      rw [upd_other hii]
      exact (st.bx i b hd).mono (fun _ _ _ => rfl) (fun b hb _ => hg b hb) (fun i hi => ⟨hL i hi, rfl⟩)
  · rw [hbox] at hn
    by_cases hii : i = id
    · simp [hii] at hn
    · simp only [hii, if_false] at hn
      rw [upd_other hii]
      exact st.bxN i hn
  · by_cases hut : u = t
    · subst hut; rw [upd_same]; exact (List.nodup_cons.1 hnd).2
    · rw [upd_other hut]; exact st.nodE u
  · by_cases hii : i = id
    · subst hii; rw [upd_same]; simp
    · rw [upd_other hii]; exact st.nodB i
  · by_cases hut : u = t
    · subst hut
      rw [upd_same] at hb1
      rw [upd_other (fun h => hne h.symm)] at hb2
      exact st.dEB u' id b hb2 (hmem b hb1)
    · rw [upd_other hut] at hb1
      by_cases hut' : u' = t
      · subst hut'
        rw [upd_same] at hb2
        exact st.dEB u id b hb1 (hmem b hb2)
      · rw [upd_other hut'] at hb2
        exact st.dEE u u' hne b hb1 hb2
  · by_cases hii : i = id
    · subst hii
      rw [upd_same] at hb2
      simp at hb2
      subst hb2
      by_cases hut : u = t
      · subst hut; rw [upd_same] at hb1; exact (List.nodup_cons.1 hnd).1 hb1
      · rw [upd_other hut] at hb1; exact st.dEB u i _ hb1 hin
    · rw [upd_other hii] at hb2
      by_cases hut : u = t
      · subst hut; rw [upd_same] at hb1; exact st.dBB id i (fun h => hii h.symm) b (hmem b hb1) hb2
      · rw [upd_other hut] at hb1; exact st.dEB u i b hb1 hb2
  · have key : ∀ i b, b ∈ upd Fb id [ρ id] i → b ∈ Fb i := fun i b hb => by
      by_cases hii : i = id
      · subst hii; rw [upd_same] at hb; simp at hb; subst hb; exact hin
      · rw [upd_other hii] at hb; exact hb
    exact st.dBB i i' hne b (key i b hb1) (key i' b hb2)
theorem OpS.pre {o : Oper} {σ0 : Sg} (h : ∀ a w, St C σ a w → St C σ0 a w) (k : OpS P C o σ0 σ') : OpS P C o σ σ' := fun a w hs => k a w (h a w hs)

/-- a box's content, seen otherwise -/
theorem St.viewB {id : Nat} {d d' : D} (hb : σ.box id = some (.var d)) (h : ∀ (w : World) (ρ : Nat → Nat) (G L : Nat → Prop) (cs : List Value) (F : List Nat), Rc w ρ G L true d cs F → Rc w ρ G L true d' cs F) (hs : St C σ a w) :
    St C { σ with bx := setb id (.var d') σ.bx } a w := by
  obtain ⟨ρ, Fe, Fb, st⟩ := hs
  have hbox : ∀ i, (({ σ with bx := setb id (.var d') σ.bx } : Sg).box i) = if i = id then some (.var d') else σ.box i := fun i => by
    show lk (setb id (.var d') σ.bx) i = _
    rw [lk_setb]
    by_cases hi : i = id
    · subst hi
      have : lk σ.bx i = some (.var d) := hb
      simp [this]
    · simp [hi]; rfl
  have hiso : ∀ i, (({ σ with bx := setb id (.var d') σ.bx } : Sg).box i).isSome = (σ.box i).isSome := fun i => by
    rw [hbox]; by_cases hi : i = id
    · subst hi; simp [hb]
    · simp [hi]
  have hfun : (fun i => (({ σ with bx := setb id (.var d') σ.bx } : Sg).box i).isSome = true) = fun i => (σ.box i).isSome = true := by
    funext i; rw [hiso]
  refine ⟨ρ, Fe, Fb, {
    size := st.size
    defs := st.defs
    pin := fun i b hp => ⟨(st.pin i b hp).1, by rw [hiso]; exact (st.pin i b hp).2⟩
    env := fun u x hx => by rw [hfun]; exact st.env u x hx
    envN := st.envN
    bx := fun i b hd => ?_
    bxN := fun i hn => st.bxN i (by have := hiso i; rw [hn] at this; simpa using this.symm)
    nodE := st.nodE
    nodB := st.nodB
    dEE := st.dEE
    dEB := st.dEB
    dBB := st.dBB
    new := st.new
    kept := st.kept
    os := st.os
    tape := st.tape
    output := st.output
    grown := st.grown
    gl := st.gl
    okN := st.okN
    okO := st.okO }⟩
  rw [hfun]
  rw [hbox] at hd
  by_cases hi : i = id
  · subst hi
    simp only [if_true, Option.some.injEq] at hd
    subst hd
    obtain ⟨cs, e, F', q1, q2, q3⟩ := st.bx i _ hb
    exact ⟨cs, e, F', q1, h _ _ _ _ _ _ q2, q3⟩
  · simp only [hi, if_false] at hd
    exact st.bx i b hd
theorem W.asOwnB {c : Code} {Q : Exit → Sg → Prop} {id : Nat} (e z : Nat) (hb : σ.box id = some (.var .nils)) (k : W P C c Q { σ with bx := setb id (.var (.sl (some e) z [])) σ.bx }) : W P C c Q σ :=
  fun a w hs => k a w (St.viewB hb (fun w ρ G L cs F h => by cases h; exact .slN _ _) hs)
end Go.Sx
