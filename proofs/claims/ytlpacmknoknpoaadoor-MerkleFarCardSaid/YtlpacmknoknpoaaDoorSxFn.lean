/-
  Own library, part 12: what functions compute; calls.
-/
import Derived.Test.YtlpacmknoknpoaaDoorSxBox
set_option linter.unusedVariables false
set_option linter.unusedSimpArgs false
set_option linter.unnecessarySimpa false
namespace Go.Sx

variable {P : Program} {C : Ctx} {σ σ' σ1 : Sg} {a : Act} {w w' : World} {ρ : Nat → Nat} {Fe Fe' Fb : Nat → List Nat}

/-- without pointers into boxes it does not matter where these lie -/
theorem Rc.noL {G L L' : Nat → Prop} {ρ' : Nat → Nat} {d : D} {cs : List Value} {F : List Nat} (h : Rc w ρ G L false d cs F) : Rc w ρ' G L' false d cs F := by
  generalize hp : false = p at h
  induction h with
  | bool b => exact .bool b
  | int n => exact .int n
  | u8 x => exact .u8 x
  | u16 x => exact .u16 x
  | u32 x => exact .u32 x
  | u64 x => exact .u64 x
  | ik k n => exact .ik k n
  | str s => exact .str s
  | nils => exact .nils
  | slN o z => exact .slN o z
  | slE o z a => exact .slE o z a
  | slI b off cs e fz cap z l hb hG hc hs hr ih => exact .slI b off cs e fz cap z l hb hG hc hs (fun i hi => ih i hi rfl)
  | slO b cs e cap z l Fs hb hc hm hs hr ih => exact .slO b cs e cap z l Fs hb hc hm hs (fun i hi => ih i hi rfl)
  | agg l cs Fs hs hr ih => exact .agg l cs Fs hs (fun k hk => ih k hk hp)
  | arr n z l cs hl hs hr ih => exact .arr n z l cs hl hs (fun i hi => ih i hi rfl)
  | ptr id off path hid => cases hp
  | nilp => exact .nilp
  | rp d b off cs e fz hb hG hs hr ih => exact .rp d b off cs e fz hb hG hs (ih rfl)
  | map id hid => cases hp
  | nilmap => exact .nilmap
  | fn f caps vs hl ha hr ih => exact .fn f caps vs hl ha (fun k hk => ih k hk hp)
  | nilf => exact .nilf
  | yld l => exact .yld l
  | ifc t d v ha hr ih => exact .ifc t d v ha (ih hp)
  | nili => exact .nili
  | dead v h => exact .dead v h

theorem VR.noL {G L L' : Nat → Prop} {ρ' : Nat → Nat} {d : D} {v : Value} {F : List Nat} (h : VR w ρ G L d v F) (hn : d.np = true) : VR w ρ' G L' d v F := by
  unfold VR at *
  cases hd : d.isAgg <;> simp only [hd, if_true, if_false, Bool.false_eq_true] at h ⊢
  · exact (h.unflag hn).noL.flag
  · obtain ⟨cs, rfl, h⟩ := h; exact ⟨cs, rfl, (h.unflag hn).noL.flag⟩

/-- all memory in it is its own -/
inductive Frs : D → Prop
  | bool (b : Bool) : Frs (.bool b)
  | int (n : Int) : Frs (.int n)
  | u8 (x : UInt8) : Frs (.u8 x)
  | u16 (x : UInt16) : Frs (.u16 x)
  | u32 (x : UInt32) : Frs (.u32 x)
  | u64 (x : UInt64) : Frs (.u64 x)
  | ik (k : IntKind) (n : Int) : Frs (.ik k n)
  | str (s : List UInt8) : Frs (.str s)
  | nils : Frs .nils
  | nilp : Frs .nilp
  | nilmap : Frs .nilmap
  | nilf : Frs .nilf
  | nili : Frs .nili
  | sl (e z : Nat) (l : List D) (h : ∀ x ∈ l, Frs x) : Frs (.sl (some e) z l)
  | agg (l : List D) (h : ∀ x ∈ l, Frs x) : Frs (.agg l)
  | arr (n z : Nat) (l : List D) (h : ∀ x ∈ l, Frs x) : Frs (.arr n z l)
  | ifc (t : Nat) (d : D) (h : Frs d) : Frs (.ifc t d)

theorem Rc.frs {G G' L : Nat → Prop} {p : Bool} {d : D} {cs : List Value} {F : List Nat} (h : Rc w ρ G L p d cs F) (hf : Frs d) : Rc w ρ G' L p d cs F := by
  induction h with
  | bool b => exact .bool b
  | int n => exact .int n
  | u8 x => exact .u8 x
  | u16 x => exact .u16 x
  | u32 x => exact .u32 x
  | u64 x => exact .u64 x
  | ik k n => exact .ik k n
  | str s => exact .str s
  | nils => exact .nils
  | slN o z => exact .slN o z
  | slE o z a => exact .slE o z a
  | slI b off cs e fz cap z l hb hG hc hs hr ih => cases hf
  | slO b cs e cap z l Fs hb hc hm hs hr ih =>
    cases hf with
    | sl _ _ _ hf => exact .slO b cs e cap z l Fs hb hc hm hs (fun i hi => ih i hi (hf _ (List.getElem_mem hi)))
  | agg l cs Fs hs hr ih =>
    cases hf with
    | agg _ hf => exact .agg l cs Fs hs (fun k hk => ih k hk (hf _ (List.getElem_mem hk)))
  | arr n z l cs hl hs hr ih =>
    cases hf with
    | arr _ _ _ hf => exact .arr n z l cs hl hs (fun i hi => ih i hi (hf _ (List.getElem_mem hi)))
  | ptr id off path hid => cases hf
  | nilp => exact .nilp
  | rp d b off cs e fz hb hG hs hr ih => cases hf
  | map id hid => cases hf
  | nilmap => exact .nilmap
  | fn f caps vs hl ha hr ih => cases hf
  | nilf => exact .nilf
  | yld l => cases hf
  | ifc t d v ha hr ih =>
    cases hf with
    | ifc _ _ hf => exact .ifc t d v ha (ih hf)
  | nili => exact .nili
  | dead v h => cases hf

theorem VR.frs {G G' L : Nat → Prop} {d : D} {v : Value} {F : List Nat} (h : VR w ρ G L d v F) (hf : Frs d) : VR w ρ G' L d v F := by
  unfold VR at *
  cases hd : d.isAgg <;> simp only [hd, if_true, if_false, Bool.false_eq_true] at h ⊢
  · exact h.frs hf
  · obtain ⟨cs, rfl, h⟩ := h; exact ⟨cs, rfl, h.frs hf⟩

/-- what a call gives: one value, or several -/
def RV (w : World) (ρ : Nat → Nat) (G L : Nat → Prop) (r : D) (v : Value) (F : List Nat) : Prop :=
  match r with
  | .tup ds => ∃ (vs : List Value) (Fs : Nat → List Nat), v = .tuple vs.toArray ∧ vs.length = ds.length ∧ F = (List.range ds.length).flatMap Fs ∧
      ∀ k (h : k < ds.length), ds[k].isRef = false ∧ VR w ρ G L ds[k] (vs.getD k undef) (Fs k)
  | r => r.isRef = false ∧ VR w ρ G L r v F

theorem RV_plain {G L : Nat → Prop} {r : D} {v : Value} {F : List Nat} (hr : r.isRef = false) : RV w ρ G L r v F ↔ VR w ρ G L r v F := by
  cases r <;> first | (simp [D.isRef] at hr; done) | exact ⟨fun h => h.2, fun h => ⟨hr, h⟩⟩

theorem RV.map {G L G' L' : Nat → Prop} {ρ' : Nat → Nat} {r : D} {v : Value} {F : List Nat} (h : RV w ρ G L r v F) (q : D → Prop) (hq : (∃ ds, r = .tup ds ∧ ∀ d ∈ ds, q d) ∨ (∀ ds, r ≠ .tup ds) ∧ q r)
    (hv : ∀ d v F', (∀ b ∈ F', b ∈ F) → q d → VR w ρ G L d v F' → VR w' ρ' G' L' d v F') : RV w' ρ' G' L' r v F := by
  rcases hq with ⟨ds, rfl, hq⟩ | ⟨hr, hq⟩
  · obtain ⟨vs, Fs, rfl, h1, rfl, h2⟩ := h
    exact ⟨vs, Fs, rfl, h1, rfl, fun k hk => ⟨(h2 k hk).1, hv _ _ _ (fun b hb => List.mem_flatMap.2 ⟨k, List.mem_range.2 hk, hb⟩) (hq _ (List.getElem_mem hk)) (h2 k hk).2⟩⟩
  · cases r <;> first | exact absurd rfl (hr _) | exact ⟨h.1, hv _ _ _ (fun _ h => h) hq h.2⟩

theorem RV.mono {G L G' L' : Nat → Prop} {ρ' : Nat → Nat} {r : D} {v : Value} {F : List Nat} (h : RV w ρ G L r v F)
    (hh : ∀ b, (G b ∨ b ∈ F) → b < w.heap.size → w'.heap[b]? = w.heap[b]?) (hg : ∀ b, G b → b < w.heap.size → G' b) (hL : ∀ id, L id → L' id ∧ ρ' id = ρ id) : RV w' ρ' G' L' r v F := by
  refine h.map (fun _ => True) ?_ (fun d v F' hF _ hv => hv.mono (fun b hb => hh b (hb.imp id (hF b))) hg hL)
  cases r <;> first | exact .inl ⟨_, rfl, fun _ _ => trivial⟩ | exact .inr ⟨by simp, trivial⟩

/-- the whole of a result is fresh -/
def FrsR (r : D) : Prop := (∃ ds, r = .tup ds ∧ ∀ d ∈ ds, Frs d) ∨ (∀ ds, r ≠ .tup ds) ∧ Frs r

theorem RV.slot {G L : Nat → Prop} {r : D} {v : Value} {F : List Nat} {t : Nat} (h : RV w ρ G L r v F) (ht : a.tmps[t]? = some v) : SR w ρ G L a t r F := by
  cases r with
  | tup ds =>
    obtain ⟨vs, Fs, rfl, h1, h2, h3⟩ := h
    exact ⟨vs, Fs, ht, h1, h2, fun k hk => .inr (h3 k hk)⟩
  | _ => first | (exact ⟨v, ht, h.2⟩) | (have := h.1; simp [D.isRef] at this)

/-- function f, called with data ds, returns r: new memory is its own, nothing that was there turns -/
def Fn (P : Program) (gl : List (Nat × D)) (f : FuncId) (ds : List D) (r : D) : Prop :=
  ∀ (w : World) (G : Nat → Prop) (vs : List Value),
    (∀ g d, (g, d) ∈ gl → G g ∧ ∃ cs e fz, w.heap[g]? = some (.cells cs e fz) ∧ Rc w (fun x => x) (fun _ => False) (fun _ => False) false d cs.toList []) →
    vs.length = ds.length → (∀ k (h : k < ds.length), VR w (fun x => x) G (fun _ => False) ds[k] (vs.getD k undef) []) →
    Calls P f vs.toArray w (fun e w' => ∃ v F, e = .returned v ∧ Ext w w' ∧ F.Nodup ∧ (∀ b ∈ F, w.heap.size ≤ b) ∧
      RV w' (fun x => x) (fun b => (G b ∨ w.heap.size ≤ b) ∧ b ∉ F) (fun _ => False) r v F)

/-- the slots at the beginning -/
def ini : Nat → List D → List (Nat × D)
  | _, [] => []
  | k, d :: r => (k, d) :: ini (k + 1) r

theorem lk_ini (ds : List D) (k t : Nat) : lk (ini k ds) t = if k ≤ t then ds[t - k]? else none := by
  induction ds generalizing k with
  | nil => simp [ini, lk]
  | cons d r ih =>
    simp only [ini, lk_cons, ih]
    by_cases h : k = t
    · subst h; simp
    · simp only [h, if_false]
      by_cases h1 : k ≤ t
      · simp only [h1, show k + 1 ≤ t by omega, if_true]
        have : t - k = (t - (k + 1)) + 1 := by omega
        rw [this, List.getElem?_cons_succ]
      · simp [h1, show ¬ k + 1 ≤ t by omega]

/-- what one result variable holds at the end -/
def outS (σ : Sg) : ResultVar → Option D
  | .tmp t => σ.get t
  | .cell t _ => match σ.get t with
    | some (.ptr id 0 []) => match σ.box id with
      | some (.var d) => some d
      | _ => none
    | _ => none
/-- where from -/
def srcS (σ : Sg) : ResultVar → Nat × Bool
  | .tmp t => (t, true)
  | .cell t _ => match σ.get t with
    | some (.ptr id _ _) => (id, false)
    | _ => (0, false)

/-- result variables that are loaded have types with this size -/
def RtT (P : Program) (d : D) : ResultVar → Prop
  | .tmp _ => True
  | .cell _ ty => LdT P ty d.sz d.isAgg

/-- one result, as the model takes it -/
def resV (tmps : Array Value) : ResultVar → Sem Value
  | .tmp t => pure (tmps.getD t undef)
  | .cell a t => do loadVar t (← asAddr (tmps.getD a undef))

theorem mapM_run {α β : Type} (f : α → Sem β) (vf : Nat → β) (w : World) : ∀ (l : List α) (n : Nat), (∀ k (h : k < l.length), (f l[k]).run P w = .ok (vf (n + k)) w) →
    (l.mapM f).run P w = .ok ((List.range' n l.length).map vf) w := by
  intro l
  induction l with
  | nil => intro n h; simp
  | cons x l ih =>
    intro n h
    have h0 := h 0 (by simp)
    have := ih (n + 1) (fun k hk => by have := h (k + 1) (by simpa using hk); simpa [Nat.add_assoc, Nat.add_comm 1 k] using this)
    simp only [List.getElem_cons_zero, Nat.add_zero] at h0
    simp [List.mapM_cons, h0, this, List.range'_succ]

theorem results_run {fn : Func} {tmps : Array Value} {rs : List ResultVar} (hrs : fn.results.toList = rs) (vf : Nat → Value) (w : World)
    (h : ∀ k (h : k < rs.length), (resV tmps rs[k]).run P w = .ok (vf k) w) :
    (results fn tmps).run P w = .ok (if rs.length = 1 then vf 0 else .tuple ((List.range rs.length).map vf).toArray) w := by
  have h1 := mapM_run (P := P) (resV tmps) vf w rs 0 (fun k hk => by simpa using h k hk)
  have e : results fn tmps = (do let vs ← fn.results.mapM (resV tmps); pure (if h : vs.size = 1 then vs[0] else .tuple vs)) := by
    unfold results
    congr 1
  rw [e, Array.mapM_eq_mapM_toList, hrs]
  simp only [map_eq_pure_bind, Sem.run_bind, h1, Result.andThen_ok, Sem.run_pure, List.range_eq_range']
  by_cases hl : rs.length = 1
  · simp [hl]
  · simp [hl]

theorem outS_ok (st : StW C σ a w ρ Fe Fb) {rv : ResultVar} {d : D} (h : outS σ rv = some d) (hr : d.isRef = false) (hT : RtT P d rv) :
    ∃ v F, (resV a.tmps rv).run P w = .ok v w ∧
      VR w ρ (gd C Fe Fb) (fun id => (σ.box id).isSome) d v F ∧ F.Nodup ∧ (∀ b ∈ F, b ∈ (if (srcS σ rv).2 then Fe (srcS σ rv).1 else Fb (srcS σ rv).1)) := by
  cases rv with
  | tmp t =>
    simp only [outS] at h
    obtain ⟨v, hv, hvr⟩ := (SR_plain hr).1 (st.env t d h)
    refine ⟨v, Fe t, ?_, hvr, st.nodE t, fun b hb => by simpa [srcS] using hb⟩
    simp [resV, Array.getD_eq_getD_getElem?, hv]
  | cell t ty =>
    simp only [outS] at h
    split at h
    · rename_i id hg
      split at h
      · rename_i d' hb
        cases h
        obtain ⟨v, hv, hvr⟩ := (SR_plain rfl).1 (st.env t _ hg)
        simp only [VR, D.isAgg, Bool.false_eq_true, if_false] at hvr
        generalize Fe t = F at hvr
        cases hvr
        obtain ⟨cs, e, F', hb', hrc, hFb⟩ := st.bx _ _ hb
        have := hT
        simp only [RtT] at this
        have hlen := hrc.len
        have hcs : (cs.toList.drop 0).take d.sz = cs.toList := by rw [← hlen, List.drop_zero]; exact List.take_length
        obtain ⟨v, hv1, hv2⟩ := run_loadVar' (P := P) (ty := ty) (off := 0) hb' (by rw [hcs]; exact hrc) (by simp at hlen; omega) rfl rfl
        refine ⟨v, F', ?_, hv2, ?_, fun b hb => by simp [srcS, hg, hFb, hb]⟩
        · simp [resV, Array.getD_eq_getD_getElem?, hv, asAddr, hv1]
        · have := st.nodB id; rw [hFb] at this; exact (List.nodup_cons.1 this).2
      · cases h
    · cases h

def memN (ids : List Nat) (i : Nat) : Bool := ids.any (Nat.beq i)
/-- at the end of a function -/
def Ends (rs : List ResultVar) (P : Program) (r : D) (e : Exit) (σ : Sg) : Prop :=
  (e = .normal ∨ e = .ret) ∧
  match rs with
  | [rv] => outS σ rv = some r ∧ r.isRef = false ∧ r.np = true ∧ RtT P r rv
  | rs => ∃ ds, r = .tup ds ∧ ds.length = rs.length ∧ (rs.map (srcS σ)).Nodup ∧ ∀ k (h : k < rs.length) (h' : k < ds.length), outS σ rs[k] = some ds[k] ∧ ds[k].isRef = false ∧ ds[k].np = true ∧ RtT P ds[k] rs[k]

theorem Ends.one {rv : ResultVar} {r : D} {e : Exit} (he : e = .normal ∨ e = .ret) (h : outS σ rv = some r) (h1 : r.isRef = false) (h2 : r.np = true) (h3 : RtT P r rv) : Ends [rv] P r e σ :=
  ⟨he, h, h1, h2, h3⟩

/-- what the results are, where a function ends -/
theorem Ends.out {fn : Func} {r : D} {e : Exit} (st : StW C σ a w ρ Fe Fb) (hends : Ends fn.results.toList P r e σ) :
    ∃ v, (results fn a.tmps).run P w = .ok v w ∧ ∃ F, F.Nodup ∧ (∀ b ∈ F, own Fe Fb b) ∧ RV w (fun x => x) (fun b => C.ok b ∧ b ∉ F) (fun _ => False) r v F := by
  obtain ⟨he, hend⟩ := hends
  have one : ∀ rv, fn.results.toList = [rv] → outS σ rv = some r ∧ r.isRef = false ∧ r.np = true ∧ RtT P r rv →
      ∃ v, (results fn a.tmps).run P w = .ok v w ∧ ∃ F, F.Nodup ∧ (∀ b ∈ F, own Fe Fb b) ∧ RV w (fun x => x) (fun b => C.ok b ∧ b ∉ F) (fun _ => False) r v F := by
    rintro rv hrs ⟨h1, h2, h3, h4⟩
    obtain ⟨v, F, hv1, hv2, hv3, hv4⟩ := outS_ok (P := P) st h1 h2 h4
    have hFo : ∀ b ∈ F, own Fe Fb b := by
      intro b hb
      have := hv4 b hb
      split at this
      · exact .inl ⟨_, this⟩
      · exact .inr ⟨_, this⟩
    refine ⟨v, ?_, F, hv3, fun b hb => hFo b hb, (RV_plain h2).2 ?_⟩
    · rw [results_run hrs (fun _ => v) w (fun k hk => by
        have : k = 0 := by simp at hk; omega
        subst this; exact hv1)]
      rfl
    · exact (hv2.noL (ρ' := fun x => x) (L' := fun _ => False) h3).mono (fun _ _ _ => rfl) (fun b hb _ => ⟨hb.1, fun hm => hb.2 (hFo b hm)⟩) (fun id hid => hid.elim)
  have many : ∀ rs, fn.results.toList = rs → rs.length ≠ 1 → (∃ ds, r = .tup ds ∧ ds.length = rs.length ∧ (rs.map (srcS σ)).Nodup ∧ ∀ k (h : k < rs.length) (h' : k < ds.length), outS σ rs[k] = some ds[k] ∧ ds[k].isRef = false ∧ ds[k].np = true ∧ RtT P ds[k] rs[k]) →
      ∃ v, (results fn a.tmps).run P w = .ok v w ∧ ∃ F, F.Nodup ∧ (∀ b ∈ F, own Fe Fb b) ∧ RV w (fun x => x) (fun b => C.ok b ∧ b ∉ F) (fun _ => False) r v F := by
    rintro rs hrs hne ⟨ds', rfl, hl', hnd, hall⟩
    have hk : ∀ k, ∃ vF : Value × List Nat, k < rs.length → ∃ (h : k < rs.length) (h' : k < ds'.length),
        (resV a.tmps rs[k]).run P w = .ok vF.1 w ∧
        VR w ρ (gd C Fe Fb) (fun id => (σ.box id).isSome) ds'[k] vF.1 vF.2 ∧ vF.2.Nodup ∧ (∀ b ∈ vF.2, b ∈ (if (srcS σ rs[k]).2 then Fe (srcS σ rs[k]).1 else Fb (srcS σ rs[k]).1)) := by
      intro k
      by_cases hk : k < rs.length
      · have hk' : k < ds'.length := by omega
        obtain ⟨h1, h2, h3, h4⟩ := hall k hk hk'
        obtain ⟨v, F, q⟩ := outS_ok (P := P) st h1 h2 h4
        exact ⟨(v, F), fun _ => ⟨hk, hk', q⟩⟩
      · exact ⟨(undef, []), fun h => absurd h hk⟩
    obtain ⟨vF, hk⟩ := Classical.skolem.1 hk
    have hFo : ∀ k, k < rs.length → ∀ b ∈ (vF k).2, own Fe Fb b := by
      intro k hlt b hb
      obtain ⟨h, h', q1, q2, q3, q4⟩ := hk k hlt
      have := q4 b hb
      split at this
      · exact .inl ⟨_, this⟩
      · exact .inr ⟨_, this⟩
    have hdis : ∀ j k, j < rs.length → k < rs.length → j ≠ k → ∀ b, b ∈ (vF j).2 → b ∉ (vF k).2 := by
      intro j k hj hkk hjk b hb hb'
      obtain ⟨h, h', q1, q2, q3, q4⟩ := hk j hj
      obtain ⟨g, g', p1, p2, p3, p4⟩ := hk k hkk
      have e1 := q4 b hb
      have e2 := p4 b hb'
      have hne : srcS σ rs[j] ≠ srcS σ rs[k] := by
        intro he
        have := (List.getElem_inj (h₀ := by simpa using hj) (h₁ := by simpa using hkk) hnd).1 (by simpa using he)
        exact hjk this
      generalize srcS σ rs[j] = x at e1 hne
      generalize srcS σ rs[k] = y at e2 hne
      obtain ⟨x1, x2⟩ := x
      obtain ⟨y1, y2⟩ := y
      cases x2 <;> cases y2 <;> simp at e1 e2 hne
      · exact st.dBB x1 y1 hne b e1 e2
      · exact st.dEB y1 x1 b e2 e1
      · exact st.dEB x1 y1 b e1 e2
      · exact st.dEE x1 y1 hne b e1 e2
    refine ⟨.tuple ((List.range rs.length).map (fun k => (vF k).1)).toArray, ?_, (List.range ds'.length).flatMap (fun k => (vF k).2), ?_, ?_, _, (fun k => (vF k).2), rfl, by simp [hl'], rfl, ?_⟩
    · rw [results_run hrs (fun k => (vF k).1) w (fun k hk' => by obtain ⟨_, _, q, _⟩ := hk k hk'; exact q), if_neg hne]
    · refine flat_nodup_mk (fun k hkk => ?_) (fun j k hj hkk => hdis j k (by omega) (by omega))
      obtain ⟨h, h', q1, q2, q3, q4⟩ := hk k (by omega)
      exact q3
    · intro b hb
      obtain ⟨k, hk1, hk2⟩ := List.mem_flatMap.1 hb
      exact hFo k (by have := List.mem_range.1 hk1; omega) b hk2
    · intro k hkk
      obtain ⟨h, h', q1, q2, q3, q4⟩ := hk k (by omega)
      obtain ⟨h1, h2, h3, h4⟩ := hall k (by omega) hkk
      refine ⟨h2, ?_⟩
      have e : ((List.range rs.length).map (fun k => (vF k).1)).getD k undef = (vF k).1 := by
        have : k < rs.length := by omega
        simp [List.getD_eq_getElem?_getD, List.getElem?_map, List.getElem?_range this]
      rw [e]
      exact (q2.noL (ρ' := fun x => x) (L' := fun _ => False) h3).mono (fun _ _ _ => rfl) (fun b hb _ => ⟨hb.1, fun hm => hb.2 (by
        obtain ⟨j, hj1, hj2⟩ := List.mem_flatMap.1 hm
        exact hFo j (by have := List.mem_range.1 hj1; omega) b hj2)⟩) (fun id hid => hid.elim)
  cases hrs : fn.results.toList with
  | nil => rw [hrs] at hend; exact many [] hrs (by simp) hend
  | cons rv rest =>
    cases rest with
    | nil => rw [hrs] at hend; exact one rv hrs hend
    | cons rv2 rest => rw [hrs] at hend; exact many _ hrs (by simp) hend

theorem Fn.of {gl : List (Nat × D)} {f : FuncId} {fn : Func} {c : Code} {ds : List D} {r : D} {n : Nat} (hf : P.funcs[f]? = some fn) (hb : fn.body = some c) (hnn : fn.ntmps = n)
    (hd : ds.all (fun d => !d.isRef) = true) (hn : ds.length ≤ n)
    (h : ∀ C : Ctx, C.gl = gl → (∀ id b, C.pin id = some b → memN [] id = true) → W P C c (Ends fn.results.toList P r) ⟨n, ini 0 ds, []⟩) : Fn P gl f ds r := by
  subst hnn
  intro w G vs hgl hl hv
  refine calls_of_wp hf hb ?_
  let C : Ctx := ⟨w, fun b => b < w.heap.size, fun b => G b ∨ w.heap.size ≤ b, gl, none, fun _ => none, []⟩
  have hget : ∀ t d, (⟨fn.ntmps, ini 0 ds, []⟩ : Sg).get t = some d → ∃ h : t < ds.length, ds[t] = d := by
    intro t d hd
    simp only [Sg.get, lk_ini, Nat.zero_le, if_true, Nat.sub_zero] at hd
    obtain ⟨h, e⟩ := List.getElem?_eq_some_iff.1 hd
    exact ⟨h, e⟩
  have hown : ∀ b, ¬ own (fun _ => []) (fun _ => []) b := by rintro b (⟨_, h⟩ | ⟨_, h⟩) <;> cases h
  have hbox : ∀ id, (⟨fn.ntmps, ini 0 ds, []⟩ : Sg).box id = none := fun id => rfl
  have st : StW C ⟨fn.ntmps, ini 0 ds, []⟩ { tmps := vs.toArray ++ Array.replicate (fn.ntmps - vs.toArray.size) undef, defers := [] } w (fun x => x) (fun _ => []) (fun _ => []) := by
    refine ⟨?_, rfl, (fun _ _ hp => by cases hp), ?_, fun _ _ => rfl, ?_, fun _ _ => rfl, fun _ => List.nodup_nil, fun _ => List.nodup_nil, (fun _ _ _ _ h => by cases h), (fun _ _ _ h => by cases h), (fun _ _ _ _ h => by cases h), fun b hb => absurd hb (hown b), ?_, rfl, rfl, rfl, Nat.le_refl _, ?_, fun b hb => .inr hb, fun b hb => absurd hb (hown b)⟩
    · simp [hl]; omega
    · intro t d hd'
      obtain ⟨ht, rfl⟩ := hget t d hd'
      have hr : ds[t].isRef = false := by
        have := List.all_eq_true.1 hd ds[t] (List.getElem_mem ht)
        simpa using this
      refine (SR_plain hr).2 ⟨vs.getD t undef, ?_, (hv t ht).mono (fun _ _ _ => rfl) (fun b hb _ => ⟨.inl hb, hown b⟩) (fun id hid => hid.elim)⟩
      have htv : t < vs.length := by omega
      rw [Array.getElem?_append_left (by simpa using htv)]
      simp [htv]
    · intro id d hd'; rw [hbox] at hd'; cases hd'
    · intro b hb; exact ⟨rfl, hb⟩
    · intro g d hg
      obtain ⟨h1, cs, e, fz, h2, h3⟩ := hgl g d hg
      exact ⟨(Array.getElem?_eq_some_iff.1 h2).1, .inl h1, cs, e, fz, h2, h3⟩
  refine Go.Code.wp_mono ?_ (wpIn_wide.1 (h C rfl (fun _ _ hp => by cases hp) _ w ⟨_, _, _, st⟩))
  rintro e a' w' ⟨σ', ⟨ρ, Fe, Fb, st'⟩, he, hend⟩
  have hext : Ext w w' := ⟨st'.os, st'.tape, st'.output, st'.grown, fun b hb => (st'.kept b hb).1⟩
  have hnew : ∀ b, own Fe Fb b → w.heap.size ≤ b := fun b hb => Nat.le_of_not_lt (st'.new b hb)
  have key : ∃ v, (results fn a'.tmps).run P w' = .ok v w' ∧ ∃ F, F.Nodup ∧ (∀ b ∈ F, w.heap.size ≤ b) ∧ RV w' (fun x => x) (fun b => (G b ∨ w.heap.size ≤ b) ∧ b ∉ F) (fun _ => False) r v F := by
    obtain ⟨v, h1, F, h2, h3, h4⟩ := Ends.out st' ⟨he, hend⟩
    have hco : ∀ b, C.ok b → G b ∨ w.heap.size ≤ b := fun b hb => hb
    exact ⟨v, h1, F, h2, fun b hb => hnew b (h3 b hb), h4.mono (fun _ _ _ => rfl) (fun b hb _ => ⟨hco b hb.1, hb.2⟩) (fun id hid => hid.elim)⟩
  obtain ⟨v, h1, F, h2, h3, h4⟩ := key
  rcases he with rfl | rfl
  · exact ⟨st'.defs, v, h1, v, F, rfl, hext, h2, h3, h4⟩
  · exact ⟨st'.defs, v, h1, v, F, rfl, hext, h2, h3, h4⟩
end Go.Sx
