/-
  Own library: ranges over functions, as the printed proofs use them; scopes; slices that grow in boxes.
-/
import Derived.Test.YtlpacmknoknpoaaDoorSxTup
set_option linter.unusedVariables false
set_option linter.unusedSimpArgs false
set_option linter.unnecessarySimpa false
namespace Go.Sx

variable {P : Program} {C : Ctx} {σ σ' σ1 : Sg} {a : Act} {w w' : World} {ρ : Nat → Nat} {Fe Fe' Fb : Nat → List Nat}

theorem stepR_scope {c : Code} {b : Frame} {k : List Item} {cs : List Frame} : step P (lone (b.atR a (.code (.scope c) :: k)) cs w) = .next (lone (b.atR a (.code c :: .inScope c :: k)) cs w) :=
  step_lone_go (by simp [stepG, stepG.exec, Frame.atR])
theorem stepR_inScope {c : Code} {b : Frame} {k : List Item} {cs : List Frame} : step P (lone (b.atR a (.inScope c :: k)) cs w) = .next (lone (b.atR a k) cs w) :=
  step_lone_go (by simp [stepG, stepG.exec, Frame.atR])
theorem exitTo_scope {c : Code} {id : Nat} {k : List Item} : exitTo id (.inScope c :: k) = exitTo id k := by simp [exitTo]
theorem wpIn_scope {F : Fence} {n : Nat} {c : Code} {Q : Exit → Act → World → Prop} (h : c.wpIn F n P (fun e a w => (∀ l, e ≠ .goto l) ∧ Q e a w) a w) : (Code.scope c).wpIn F n P Q a w := by
  intro b k cs hro hbf hr
  obtain ⟨e, a₁, w₁, ⟨hg, hq⟩, harr⟩ := h b (.inScope c :: k) cs hro hbf hr
  have s1 : StepsIn (Machine.fenced P F) P (lone (b.atR a (.code (.scope c) :: k)) cs w) (lone (b.atR a (.code c :: .inScope c :: k)) cs w) := .one (fenced_calm hbf hr rfl) stepR_scope
  cases e with
  | normal => exact ⟨.normal, a₁, w₁, hq, StepsIn.trans s1 (StepsIn.trans harr (.one (fenced_calm hbf hr rfl) stepR_inScope))⟩
  | exit id =>
    refine ⟨.exit id, a₁, w₁, hq, .of_steps s1 ⟨fun k' hk => harr.1 k' (by rw [exitTo_scope]; exact hk), fun h1 hk => harr.2 h1 (by rw [exitTo_scope]; exact hk)⟩⟩
  | goto l => exact absurd rfl (hg l)
  | ret => exact ⟨_, a₁, w₁, hq, .of_steps s1 harr⟩
  | panic ch => exact ⟨_, a₁, w₁, hq, .of_steps s1 harr⟩
  | outgrown => exact ⟨_, a₁, w₁, hq, .of_steps s1 harr⟩

theorem W.scope {c : Code} {Q : Exit → Sg → Prop} (h : W P C c (fun e s => (∀ l, e ≠ .goto l) ∧ Q e s) σ) : W P C (.scope c) Q σ := by
  intro a w hs
  refine wpIn_scope (Go.Code.wpIn_mono ?_ (h a w hs))
  rintro e a' w' ⟨s, hs', h1, h2⟩
  exact ⟨h1, s, hs', h2⟩
theorem V.scope {rd : Option Nat} {ι : Type} {A : ι → Act → World → Prop} {Q : Exit → ι → Prop} {i : ι} {c : Code} (h : V P rd A c (fun e s => (∀ l, e ≠ .goto l) ∧ Q e s) i) : V P rd A (.scope c) Q i := by
  intro a w hs
  refine wpIn_scope (Go.Code.wpIn_mono ?_ (h a w hs))
  rintro e a' w' ⟨s, hs', h1, h2⟩
  exact ⟨h1, s, hs', h2⟩

/-- a range over a function, as the printed proofs use it -/
theorem V.rangeE {gl : List (Nat × D)} {W0 : World} {G : Nat → Prop} {g p n : Nat} {asg body : Code} {env0 : List (Nat × D)} {bx0 : List (Nat × Bx)} {f : FuncId} [hf : CaT P f] {caps : List D}
    (ids : List Nat) (N : Nat) (xd : Nat → D) (bxs : Nat → List (Nat × Bx)) (Stop : Exit → List (Nat × Bx) → Prop) (J : Nat → Prop)
    {Q : Exit → Bool × Sg → Prop} (hgl : Glw gl W0 G) (hI : Itr P gl f caps ((List.range N).map xd)) (hg : lk env0 g = some (.fn f caps)) (hnp : D.nps caps = true) (hp : Nat.blt p n = true) (hpe : purEnv env0 = true) (hb0 : bx0 = bxs 0)
    (hkeys : (bxs 0).map Prod.fst = ids) (hf0 : frsBx (bxs 0)) (hxs : ∀ k, (xd k).pur = true ∧ (xd k).np = true) (hJ : J 0)
    (hround : ∀ k, k < N → J k → ∀ C' : Ctx, C'.gl = gl → (∀ id b, C'.pin id = some b → memN ids id = true) → W P C' asg (fun e σ' => e = .normal ∧ ∀ C' : Ctx, C'.gl = gl → (∀ id b, C'.pin id = some b → memN ids id = true) →
      W P C' body (fun e σ' => (e = .normal ∧ (keepB ids σ'.bx = bxs (k + 1) ∧ J (k + 1)) ∨ (e = .ret ∨ ∃ id, e = .exit id) ∧ Stop e (keepB ids σ'.bx)) ∧ frsBx (keepB ids σ'.bx)) σ') ((⟨n, env0, bxs k⟩ : Sg).set p (xd k)))
    (hN : J N → Q .normal (true, ⟨n, env0, bxs N⟩)) (hS : ∀ e bx, (e = .ret ∨ ∃ id, e = .exit id) → Stop e bx → Q e (true, ⟨n, env0, bx⟩)) :
    V P none (AM (relF gl W0 G)) (.rangeFunc (.tmp g) #[p] asg body) Q (false, ⟨n, env0, bx0⟩) := by
  subst hb0
  have hlen : ((List.range N).map xd).length = N := by simp
  have hkeys' : ∀ id, (lk (bxs 0) id).isSome = memN ids id := by
    intro id
    rw [← hkeys]
    generalize bxs 0 = l
    induction l with
    | nil => rfl
    | cons x r ih =>
      obtain ⟨k, b⟩ := x
      rw [lk_cons]
      simp only [memN, List.map_cons, List.any_cons] at ih ⊢
      by_cases hk : k = id
      · subst hk; simp
      · simp only [hk, if_false, ih]
        rw [nbeq (fun h => hk h.symm)]
        simp
  have hnp' : ∀ d ∈ caps, d.np = true := fun d hd => by
    obtain ⟨k, hk, rfl⟩ := List.mem_iff_getElem.1 hd
    exact nps_get caps hnp k hk
  have e : ∀ k (h : k < ((List.range N).map xd).length), ((List.range N).map xd)[k] = xd k := fun k h => by simp
  refine V.range (ids := ids) (bxs := bxs) (Stop := Stop) J hgl hI hg hnp' (Nat.le_of_ble_eq_true hp) hpe hkeys' hf0 (fun k hk => by rw [e]; exact hxs k) hJ (fun k hk hJk => ?_) (by rw [hlen]; exact hN) hS
  rw [e]
  exact hround k (by simpa using hk) hJk

/-- append to a slice that lies in a box: it is taken out of the box -/
theorem R.appB {s id t e z bytes : Nat} {x : Operand} {l l' l2 : List D} {ty rt : TypeId} {pos : String} {aft : Array Edge} {g : Option (Nat × Bool)} [hT : SlT P ty e] [hE : ElT P e z bytes]
    (h : σ.get s = some (.alb id 0 [])) (hb : σ.box id = some (.var (.sl (some e) z l))) {τ : Sg} (hτ : (σ.putB id (.var .dead)).upd s (.sl (some e) z l) = τ) (hs : τ.get s = some (.sl (some e) z l))
    (hx : SrcO C.gl τ x z l') (he : l ++ l' = l2) (hn : l.length + l'.length ≤ 1073741824) (ht : t < σ.n) (hst : s ≠ t) (hby : bytes ≤ 131072) :
    OpS P C ⟨some t, .call { callee := .builtin .append, args := #[.tmp s, x], argTypes := #[ty, ty] }, rt, pos, aft, g⟩ σ ((τ.kill s).set t (.sl (some e) z l2)) := by
  subst hτ
  exact OpS.pre (fun a w hs => St.takeB h hb hs) (R.appE (.inl rfl) hs hx he hn ht hst hby)
theorem R.stOZ {p s id off : Nat} {path : List Nat} {d0 d1 d' dx : D} {ty n rt : TypeId} {gg : Bool} {pos : String} {aft : Array Edge} {g : Option (Nat × Bool)} [LdT P ty n gg]
    (h : σ.get p = some (.ptr id off path)) (hb : σ.box id = some (.var d0)) (hl : d0.loc path = some (off, d1)) (hx : σ.get s = some dx) (hrf : dx.isRef = false) (hnp : dx.np = true)
    (hn : dx.sz = n) (hz : d1.sz = n) (hu : d0.upd path dx = some d') (hna : d0.noArr path = true) :
    OpS P C ⟨none, .store ty (.tmp p) (.tmp s), rt, pos, aft, g⟩ σ ((σ.kill s).putB id (.var d')) := R.stO h hb hl hx hrf hnp hn (hn.trans hz.symm) hu hna

/-- the slice that lies in a box, loaded and stored there again -/
theorem R.stTB {p s id e z : Nat} {l : List D} {ty rt : TypeId} {gg : Bool} {pos : String} {aft : Array Edge} {g : Option (Nat × Bool)} [LdT P ty 1 gg]
    (hs : σ.get s = some (.alb id 0 [])) (hb : σ.box id = some (.var (.sl (some e) z l))) {τ : Sg} (hτ : (σ.putB id (.var .dead)).upd s (.sl (some e) z l) = τ) (hs' : τ.get s = some (.sl (some e) z l))
    (h : τ.get p = some (.ptr id 0 [])) (hb' : τ.box id = some (.var .dead)) :
    OpS P C ⟨none, .store ty (.tmp p) (.tmp s), rt, pos, aft, g⟩ σ ((τ.kill s).putB id (.var (.sl (some e) z l))) := by
  subst hτ
  exact OpS.pre (fun a w h0 => St.takeB hs hb h0) (R.stOZ (d1 := .dead) (off := 0) h hb' rfl hs' rfl rfl rfl rfl rfl rfl)
theorem V.asOwnB {gl : List (Nat × D)} {κ : Type} {R : Rel gl κ} {m : κ} {c : Code} {Q : Exit → κ × Sg → Prop} {id : Nat} (e z : Nat) (hb : σ.box id = some (.var .nils)) (k : V P none (AM R) c Q (m, { σ with bx := setb id (.var (.sl (some e) z [])) σ.bx })) : V P none (AM R) c Q (m, σ) :=
  V.wk (fun C _ _ a w hs => St.viewB hb (fun w ρ G L cs F h => by cases h; exact .slN _ _) hs) k
theorem V.dropS {gl : List (Nat × D)} {κ : Type} {R : Rel gl κ} {m : κ} {c : Code} {Q : Exit → κ × Sg → Prop} {live : List Nat} {env' : List (Nat × D)} {bx' : List (Nat × Bx)} {n' : Nat} (hE : picks σ.get live = env') (hb : σ.bx = bx') (hn : σ.n = n')
    (h : V P none (AM R) c Q (m, ⟨n', env', bx'⟩)) : V P none (AM R) c Q (m, σ) :=
  V.wk (fun C _ _ a w hs => hs.weaken hn.symm hb.symm fun t d hd => lk_picks (f := σ.get) (l := live) (by rw [hE]; exact hd)) h

/-- a call with what owns nothing -/
inductive EvP (gl : List (Nat × D)) (σ : Sg) : List Operand → List D → Prop
  | nil : EvP gl σ [] []
  | cons {x : Operand} {d : D} {xs : List Operand} {ds : List D} (h : ev gl σ x = some d) (hp : d.pur = true) (hn : d.np = true) (t : EvP gl σ xs ds) : EvP gl σ (x :: xs) (d :: ds)
theorem EvP.len {gl : List (Nat × D)} {xs : List Operand} {ds : List D} (h : EvP gl σ xs ds) : xs.length = ds.length := by
  induction h with
  | nil => rfl
  | cons _ _ _ _ ih => simp [ih]
theorem EvP.ok {gl : List (Nat × D)} {xs : List Operand} {ds : List D} (h : EvP gl σ xs ds) : ∀ k (h : k < xs.length) (h' : k < ds.length), ev gl σ xs[k] = some ds[k] ∧ ds[k].pur = true ∧ ds[k].np = true := by
  induction h with
  | nil => intro k hk; simp at hk
  | cons h hp hn t ih =>
    intro k hk hk'
    cases k with
    | zero => exact ⟨h, hp, hn⟩
    | succ k => simpa using ih k (by simpa using hk) (by simpa using hk')
theorem R.callPE {f : FuncId} [CaT P f] {t : Nat} {args : List Operand} {tys : Array TypeId} {rt : TypeId} {pos : String} {aft : Array Edge} {g : Option (Nat × Bool)} {gl : List (Nat × D)} {ds : List D} {r : D}
    (hC : C.gl = gl) (hF : Fn P gl f ds r) (hb : EvP C.gl σ args ds) (ht : t < σ.n) :
    OpS P C ⟨some t, .call { callee := .value (.func f), args := args.toArray, argTypes := tys }, rt, pos, aft, g⟩ σ (σ.set t r) := by
  subst hC
  exact R.callP hF hb.len hb.ok ht
theorem FrsR.two {x y : D} (h1 : Frs x) (h2 : Frs y) : FrsR (.tup [x, y]) := .inl ⟨_, rfl, fun d hd => by
  rcases List.mem_cons.1 hd with rfl | hd
  · exact h1
  · rw [List.mem_singleton.1 hd]; exact h2⟩

/-- several results -/
inductive EndL (P : Program) (σ : Sg) : List ResultVar → List D → Prop
  | nil : EndL P σ [] []
  | cons {rv : ResultVar} {d : D} {rs : List ResultVar} {ds : List D} (h : outS σ rv = some d) (h1 : d.isRef = false) (h2 : d.np = true) (h3 : RtT P d rv) (t : EndL P σ rs ds) : EndL P σ (rv :: rs) (d :: ds)
theorem EndL.len {rs : List ResultVar} {ds : List D} (h : EndL P σ rs ds) : ds.length = rs.length := by
  induction h with
  | nil => rfl
  | cons _ _ _ _ _ ih => simp [ih]
theorem EndL.ok {rs : List ResultVar} {ds : List D} (h : EndL P σ rs ds) : ∀ k (h : k < rs.length) (h' : k < ds.length), outS σ rs[k] = some ds[k] ∧ ds[k].isRef = false ∧ ds[k].np = true ∧ RtT P ds[k] rs[k] := by
  induction h with
  | nil => intro k hk; simp at hk
  | cons h h1 h2 h3 t ih =>
    intro k hk hk'
    cases k with
    | zero => exact ⟨h, h1, h2, h3⟩
    | succ k => simpa using ih k (by simpa using hk) (by simpa using hk')
theorem Ends.many {r1 r2 : ResultVar} {rs : List ResultVar} {ds ds' : List D} {e : Exit} (he : e = .normal ∨ e = .ret) (h : EndL P σ (r1 :: r2 :: rs) ds') (hd : ds' = ds) (hn : ((r1 :: r2 :: rs).map (srcS σ)).Nodup) : Ends (r1 :: r2 :: rs) P (.tup ds) e σ := by
  subst hd
  exact ⟨he, _, rfl, h.len, hn, h.ok⟩
end Go.Sx
