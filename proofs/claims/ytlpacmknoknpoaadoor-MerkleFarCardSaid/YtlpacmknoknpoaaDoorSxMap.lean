/-
  Own library: maps whose keys are integers; parts of tuples.
-/
import Derived.Test.YtlpacmknoknpoaaDoorSxDropB
import Derived.MapKept
set_option linter.unusedVariables false
set_option linter.unusedSimpArgs false
set_option linter.unnecessarySimpa false
namespace Go.Sx

variable {P : Program} {C : Ctx} {σ σ' σ1 : Sg} {a : Act} {w w' : World} {ρ : Nat → Nat} {Fe Fe' Fb : Nat → List Nat}

def mIdx {α : Type} (m : List (Int × α)) (k : Int) : Nat := m.findIdx (fun e => e.1 == k)
def mEnt {α : Type} (z : α) (m : List (Int × α)) (k : Int) : List (Int × α) := if mIdx m k < m.length then m else m ++ [(k, z)]
def mGet {α : Type} (z : α) (m : List (Int × α)) (k : Int) : α := ((m[mIdx m k]?).map (·.2)).getD z
def mpI {α : Type} (f : α → D) (m : List (Int × α)) : Bx := .mp (m.map fun e => (.int e.1, f e.2))

theorem mIdx_ent {α : Type} (z : α) (m : List (Int × α)) (k : Int) : mIdx m k < (mEnt z m k).length := by
  unfold mEnt
  split
  · assumption
  · have : mIdx m k ≤ m.length := List.findIdx_le_length
    simp; omega
theorem mEnt_at {α : Type} (z : α) (m : List (Int × α)) (k : Int) : (mEnt z m k)[mIdx m k]? = some (k, mGet z m k) := by
  have hle : mIdx m k ≤ m.length := List.findIdx_le_length
  unfold mEnt mGet
  split
  · rename_i h
    rw [List.getElem?_eq_getElem h]
    have hk : m[mIdx m k].1 = k := by
      have := List.findIdx_getElem (xs := m) (p := fun e : Int × α => e.1 == k) (w := h)
      exact eq_of_beq this
    have hk2 : m[mIdx m k] = (k, m[mIdx m k].2) := Prod.ext hk rfl
    simpa using hk2
  · have : mIdx m k = m.length := by omega
    rw [this]
    simp
/-- what an entry that is written reads as, and the others -/
theorem mGet_set {α : Type} (z : α) (m : List (Int × α)) (k : Int) (v : α) (k' : Int) : mGet z ((mEnt z m k).set (mIdx m k) (k, v)) k' = if k' = k then v else mGet z m k' := by
  have hent : mIdx m k < (mEnt z m k).length := mIdx_ent z m k
  have hle : mIdx m k ≤ m.length := List.findIdx_le_length
  -- the first place of a key in the new list
  induction m with
  | nil =>
    simp only [mEnt, mIdx, mGet, List.findIdx_nil, List.length_nil, Nat.lt_irrefl, if_false, List.nil_append, List.set_cons_zero, List.findIdx_cons]
    by_cases h : k' = k
    · simp [h]
    · have h' : (k == k') = false := by simpa using fun e => h e.symm
      simp [h, h']
  | cons e r ih =>
    have hr := ih (mIdx_ent z r k) List.findIdx_le_length
    by_cases he : e.1 = k
    · have h0 : mIdx (e :: r) k = 0 := by simp [mIdx, List.findIdx_cons, he]
      have h1 : mEnt z (e :: r) k = e :: r := by simp [mEnt, h0]
      rw [h0, h1, List.set_cons_zero]
      by_cases h : k' = k
      · subst h; simp [mGet, mIdx, List.findIdx_cons]
      · have h' : (k == k') = false := by simpa using fun e => h e.symm
        simp [mGet, mIdx, List.findIdx_cons, h, h', he]
    · have he' : (e.1 == k) = false := by simpa using he
      have h0 : mIdx (e :: r) k = mIdx r k + 1 := by simp [mIdx, List.findIdx_cons, he']
      have h1 : mEnt z (e :: r) k = e :: mEnt z r k := by
        simp only [mEnt, h0, List.length_cons, Nat.add_lt_add_iff_right]
        split <;> simp
      rw [h0, h1, List.set_cons_succ]
      by_cases hk : e.1 = k'
      · have hne : ¬ k' = k := fun h => he (hk.trans h)
        simp [mGet, mIdx, List.findIdx_cons, hk, hne]
      · have hk' : (e.1 == k') = false := by simpa using hk
        have e1 : ∀ l : List (Int × α), mGet z (e :: l) k' = mGet z l k' := fun l => by simp [mGet, mIdx, List.findIdx_cons, hk']
        rw [e1, e1]
        exact hr

theorem VR_int {G L : Nat → Prop} {n : Int} {v : Value} {F : List Nat} (h : VR w ρ G L (.int n) v F) : v = .int .i64 n := by
  simp only [VR, D.isAgg, Bool.false_eq_true, if_false] at h
  cases h
  rfl

theorem findNow_int {α : Type} {kd : IntKind} {k : Int} : ∀ (es : List MapEntry) (m : List (Int × α)) (i : Nat), es.length = m.length → (∀ j (h : j < m.length), (es.getD j default).key = .int .i64 m[j].1) →
    Instr.findNow (.int kd) (.int .i64 k) es i = some (if mIdx m k < m.length then some (i + mIdx m k, (es.getD (mIdx m k) default).val) else none) := by
  intro es
  induction es with
  | nil => intro m i hl _; cases m with
    | nil => simp [Instr.findNow, mIdx]
    | cons x r => simp at hl
  | cons e es ih =>
    intro m i hl hk
    cases m with
    | nil => simp at hl
    | cons x r =>
      have h0 := hk 0 (by simp)
      simp only [List.getD_cons_zero, List.getElem_cons_zero] at h0
      have hih := ih r (i + 1) (by simpa using hl) (fun j hj => by have := hk (j + 1) (by simpa using hj); simpa using this)
      simp only [Instr.findNow, h0, Instr.sameNow, if_true]
      by_cases hx : x.1 = k
      · have : mIdx (x :: r) k = 0 := by simp [mIdx, List.findIdx_cons, hx]
        simp [this, hx]
      · have hx' : (x.1 == k) = false := by simpa using hx
        have h1 : mIdx (x :: r) k = mIdx r k + 1 := by simp [mIdx, List.findIdx_cons, hx']
        have hx2 : (k == x.1) = false := by simpa using fun e => hx e.symm
        simp only [hx2, hih, h1, List.length_cons, Nat.add_lt_add_iff_right, List.getD_cons_succ]
        split <;> simp [Nat.add_assoc, Nat.add_comm, Nat.add_left_comm]

/-- a map's type: integer keys -/
class MpT (P : Program) (t : TypeId) (k e : outParam TypeId) : Prop where
  u : P.underlying t = some (.map k e)
  k : P.underlying k = some (.int .i64)

theorem mp_at {G L : Nat → Prop} {α : Type} {f : α → D} {m : List (Int × α)} {b : Nat} {F : List Nat} (h : BR w ρ G L b (mpI f m) F) :
    F = [b] ∧ ∃ es : Array MapEntry, w.heap[b]? = some (.map es m.length) ∧ es.size = m.length ∧ (∀ j (hj : j < m.length), (es.getD j default).key = .int .i64 m[j].1 ∧ VR w ρ G L (f m[j].2) (es.getD j default).val [] ∧ (es.getD j default).born = j) := by
  obtain ⟨h1, es, clock, h2, ⟨h3, h4⟩, h5⟩ := h
  simp only [List.length_map] at h3 h4
  subst h4
  refine ⟨h1, es, h2, h3, fun j hj => ?_⟩
  obtain ⟨h6, h7, h8⟩ := h5 j (by simpa using hj)
  simp only [List.getElem_map] at h6 h7
  exact ⟨VR_int h6, h7, h8⟩
theorem mp_mk {G L : Nat → Prop} {α : Type} {f : α → D} {m : List (Int × α)} {b : Nat} {es : Array MapEntry} (h2 : w.heap[b]? = some (.map es m.length)) (h3 : es.size = m.length)
    (h5 : ∀ j (hj : j < m.length), (es.getD j default).key = .int .i64 m[j].1 ∧ VR w ρ G L (f m[j].2) (es.getD j default).val [] ∧ (es.getD j default).born = j) : BR w ρ G L b (mpI f m) [b] := by
  refine ⟨rfl, es, m.length, h2, ⟨by simpa using h3, by simp⟩, fun j hj => ?_⟩
  obtain ⟨h6, h7, h8⟩ := h5 j (by simpa using hj)
  simp only [List.getElem_map]
  refine ⟨?_, h7, h8⟩
  rw [h6]
  simp only [VR, D.isAgg, Bool.false_eq_true, if_false]
  exact .int _

theorem R.mkmap {t ty rt : TypeId} {pos : String} {aft : Array Edge} {g : Option (Nat × Bool)} (hid : σ.box t = none) (ht : t < σ.n) :
    OpS P C ⟨some t, .makeMap ty none, rt, pos, aft, g⟩ σ ((σ.newB t (.mp [])).set t (.map t)) := by
  refine OpS.value fun a w ⟨ρ, Fe, Fb, st⟩ => ?_
  refine ⟨.map (some w.heap.size), w.alloc (.map #[] 0), ?_, ?_⟩
  · unfold execOp
    simp [Instr.makeMap, newObj, Sem.run]
  · have h1 := st.newB (id := t) (x := .mp []) (o := .map #[] 0) hid ⟨rfl, #[], 0, heap_alloc_new w _, ⟨rfl, rfl⟩, fun k hk => by simp at hk⟩
    have h2 := h1.put (t := t) (d := .map t) (v := .map (some w.heap.size)) (by simpa using ht) rfl (by
      simp only [VR, D.isAgg, Bool.false_eq_true, if_false]
      have := Rc.map (w := w.alloc (.map #[] 0)) (ρ := updR ρ t w.heap.size) (G := gd C Fe (upd Fb t [w.heap.size])) (L := fun i => ((σ.newB t (.mp [])).box i).isSome) t (by simp [box_newB])
      simpa using this)
    exact h2

theorem map_slot {p id : Nat} (st : StW C σ a w ρ Fe Fb) (h : σ.get p = some (.map id)) : a.tmps[p]? = some (.map (some (ρ id))) := by
  obtain ⟨v, hv, hr⟩ := (SR_plain rfl).1 (st.env _ _ h)
  simp only [VR, D.isAgg, Bool.false_eq_true, if_false] at hr
  generalize Fe p = F at hr
  cases hr
  exact hv

/-- another content of a map's box -/
theorem StW.putMp {α : Type} {f : α → D} {m m' : List (Int × α)} {id : Nat} {es : Array MapEntry} (st : StW C σ a w ρ Fe Fb) (hb : σ.box id = some (mpI f m)) (hs : es.size = m'.length)
    (h5 : ∀ j (hj : j < m'.length), (es.getD j default).key = .int .i64 m'[j].1 ∧ VR w ρ (gd C Fe Fb) (fun i => (σ.box i).isSome) (f m'[j].2) (es.getD j default).val [] ∧ (es.getD j default).born = j) :
    StW C (σ.putB id (mpI f m')) a { w with heap := w.heap.setIfInBounds (ρ id) (.map es m'.length) } ρ Fe (upd Fb id [ρ id]) ∧
      ∀ d v, VR w ρ (gd C Fe Fb) (fun i => (σ.box i).isSome) d v [] → VR { w with heap := w.heap.setIfInBounds (ρ id) (.map es m'.length) } ρ (gd C Fe (upd Fb id [ρ id])) (fun i => ((σ.putB id (mpI f m')).box i).isSome) d v [] := by
  obtain ⟨hF, es0, h2, h3, h4⟩ := mp_at (st.bx _ _ hb)
  have hlt : ρ id < w.heap.size := (Array.getElem?_eq_some_iff.1 h2).1
  have hblk : ∀ b, b ≠ ρ id → (w.heap.setIfInBounds (ρ id) (.map es m'.length))[b]? = w.heap[b]? := fun b hne => by
    rw [Array.getElem?_setIfInBounds]; simp [show ¬ ρ id = b from fun e => hne e.symm]
  have hnot : ∀ b, gd C Fe Fb b → b ≠ ρ id := fun b hg he => hg.2 (.inr ⟨id, by rw [hF, he]; simp⟩)
  have hg : ∀ b, gd C Fe Fb b → gd C Fe (upd Fb id [ρ id]) b := fun b hb' => ⟨hb'.1, fun hc => hb'.2 (hc.imp (fun h => h) (fun ⟨i, hi⟩ => by
    by_cases hii : i = id
    · subst hii; simp at hi; exact ⟨i, by rw [hF, hi]; simp⟩
    · rw [upd_other hii] at hi; exact ⟨i, hi⟩))⟩
  have hL : ∀ i, (σ.box i).isSome → ((σ.putB id (mpI f m')).box i).isSome := fun i hi => by
    rw [box_putB]
    by_cases hii : i = id
    · subst hii; simp [hb]
    · simp [hii, hi]
  refine ⟨?_, fun d v hv => hv.mono (fun b hb' _ => hblk b (hnot b (hb'.resolve_right (by simp)))) (fun b hb' _ => hg b hb') (fun i hi => ⟨hL i hi, rfl⟩)⟩
  refine st.putB (Fe' := Fe) (σ1 := σ) (F' := [ρ id]) (w' := { w with heap := w.heap.setIfInBounds (ρ id) (.map es m'.length) }) hb rfl rfl (fun u d hd => .inl ⟨hd, rfl⟩) st.envN (fun u => .inl rfl) rfl rfl rfl (by simp)
    hblk (by simp) (by simp) (fun b hb' => .inl (by rw [hF]; exact hb')) ?_
  refine mp_mk (es := es) ?_ hs (fun j hj => ?_)
  · simp [hlt]
  · obtain ⟨q1, q2, q3⟩ := h5 j hj
    exact ⟨q1, q2.mono (fun b hb' _ => hblk b (hnot b (hb'.resolve_right (by simp)))) (fun b hb' _ => hg b hb') (fun i hi => ⟨hi, rfl⟩), q3⟩

/-- the entry of a key, that is made if there is none -/
theorem R.mentry {α : Type} {f : α → D} {m : List (Int × α)} {z : α} {p t id : Nat} {x : Operand} {k : Int} {ty kt et rt : TypeId} {pos : String} {aft : Array Edge} {g : Option (Nat × Bool)} [hT : MpT P ty kt et] {zd : D} [hZ : ZrT P et zd]
    (h : σ.get p = some (.map id)) (hb : σ.box id = some (mpI f m)) (hx : ev C.gl σ x = some (.int k)) (hz : zd = f z) (hr : ∀ v, (f v).isRef = false) (ht : t < σ.n) :
    OpS P C ⟨some t, .mapEntry ty (.tmp p) x, rt, pos, aft, g⟩ σ ((σ.putB id (mpI f (mEnt z m k))).set t (.tup [f (mGet z m k), .int (mIdx m k : Nat)])) := by
  refine OpS.value fun a w ⟨ρ, Fe, Fb, st⟩ => ?_
  have hp := map_slot st h
  obtain ⟨Fx, hvx, _⟩ := ev_ok st hx rfl
  have hvx := VR_int hvx
  obtain ⟨hF, es, h2, h3, h4⟩ := mp_at (st.bx _ _ hb)
  obtain ⟨zi, zv, z1, z2, z3, z4⟩ := hZ.i
  have hfind := findNow_int (kd := .i64) (k := k) es.toList m 0 (by simpa using h3) (fun j hj => by have := (h4 j hj).1; simpa [Array.getD_eq_getD_getElem?] using this)
  have hzv : VR w ρ (gd C Fe Fb) (fun i => (σ.box i).isSome) (f z) zv [] := by rw [← hz]; exact chk_VR z3 z4
  have hck : ∀ w, (Instr.checkKey false 10000 kt (.int .i64 k)).run P w = .ok () w := fun w => MapKept.run_checkKey (w := w) hT.k (by exact rfl) false 9999
  have hfk : ∀ w, (Instr.findKey kt (.int .i64 k) es.toList).run P w = .ok (if mIdx m k < m.length then some (0 + mIdx m k, (es.toList.getD (mIdx m k) default).val) else none) w := fun w => by
    simp only [Instr.findKey, Sem.run_bind, run_underlying hT.k, Result.andThen_ok, hfind, Sem.run_pure]
  -- the entry
  have key : ∃ v : Value, ∃ w' : World, (Instr.mapEntry ty (.map (some (ρ id))) (.int .i64 k)).run P w = .ok (.tuple #[v, .int .i64 ((mIdx m k : Nat) : Int)]) w' ∧ VR w ρ (gd C Fe Fb) (fun i => (σ.box i).isSome) (f (mGet z m k)) v [] ∧
      ∃ es', w' = { w with heap := w.heap.setIfInBounds (ρ id) (.map es' (mEnt z m k).length) } ∧ es'.size = (mEnt z m k).length ∧ ∀ j (hj : j < (mEnt z m k).length), (es'.getD j default).key = .int .i64 (mEnt z m k)[j].1 ∧ VR w ρ (gd C Fe Fb) (fun i => (σ.box i).isSome) (f (mEnt z m k)[j].2) (es'.getD j default).val [] ∧ (es'.getD j default).born = j := by
    by_cases hin : mIdx m k < m.length
    · have he : mEnt z m k = m := by simp [mEnt, hin]
      have hgv : mGet z m k = m[mIdx m k].2 := by simp [mGet, hin]
      have hk := mEnt_at z m k
      rw [he, List.getElem?_eq_getElem hin] at hk
      have hkk : m[mIdx m k].1 = k := by injection hk with hk; rw [hk]
      obtain ⟨q1, q2, q3⟩ := h4 _ hin
      have hsz : mIdx m k < es.size := by omega
      have hgd : es.getD (mIdx m k) default = es[mIdx m k] := by simp [Array.getD_eq_getD_getElem?, hsz]
      rw [hgd] at q1 q2 q3
      refine ⟨(es[mIdx m k]).val, _, ?_, by rw [hgv]; exact q2, es.modify (mIdx m k) (fun e => { e with key := .int .i64 k }), rfl, by rw [he]; simpa using h3, fun j hj => ?_⟩
      · have hgl : (es.toList.getD (mIdx m k) default) = es[mIdx m k] := by simp [hsz]
        simp [Instr.mapEntry, run_underlying hT.u, MapKept.run_getObj_map h2, hck, hfk, hin, Instr.keyThatStays, Instr.sameBits, q1, hkk, hsz, MapKept.run_setObj_map _ h2, goInt, q3, he]
      · simp only [he] at hj ⊢
        have hjs : j < es.size := by omega
        obtain ⟨r1, r2, r3⟩ := h4 j hj
        have hgj : es.getD j default = es[j] := by simp [Array.getD_eq_getD_getElem?, hjs]
        rw [hgj] at r1 r2 r3
        have hmj : (es.modify (mIdx m k) (fun e => { e with key := Value.int .i64 k })).getD j default = es[j] := by
          rw [Array.getD_eq_getD_getElem?, Array.getElem?_eq_getElem (by simpa using hjs), Option.getD_some, Array.getElem_modify]
          split
          · rename_i hij
            subst hij
            rw [hkk] at r1
            cases hh : es[mIdx m k] with
            | mk a b c => rw [hh] at r1; simp only at r1; rw [r1]
          · rfl
        rw [hmj]
        exact ⟨r1, r2, r3⟩
    · have he : mEnt z m k = m ++ [(k, z)] := by simp [mEnt, hin]
      have hle : mIdx m k ≤ m.length := List.findIdx_le_length
      have hix : mIdx m k = m.length := by omega
      have hgv : mGet z m k = z := by simp [mGet, hix]
      refine ⟨zv, _, ?_, by rw [hgv]; exact hzv, es.push { key := .int .i64 k, val := zv, born := m.length }, rfl, by rw [he]; simp [h3], fun j hj => ?_⟩
      · simp [Instr.mapEntry, run_underlying hT.u, MapKept.run_getObj_map h2, hck, hfk, hin, he, MapKept.run_setObj_map _ h2, goInt, hix, zeroValue, typeInfo, z1, z2]
      · simp only [he] at hj ⊢
        rcases Nat.lt_or_ge j m.length with hjm | hjm
        · obtain ⟨r1, r2, r3⟩ := h4 j hjm
          have hgj : (es.push { key := Value.int .i64 k, val := zv, born := m.length }).getD j default = es.getD j default := by
            simp only [Array.getD_eq_getD_getElem?, Array.getElem?_push]
            rw [if_neg (by omega)]
          rw [hgj, List.getElem_append_left hjm]
          exact ⟨r1, r2, r3⟩
        · have hje : j = m.length := by simp at hj; omega
          subst hje
          have hgj : (es.push { key := Value.int .i64 k, val := zv, born := m.length }).getD m.length default = { key := Value.int .i64 k, val := zv, born := m.length } := by
            simp only [Array.getD_eq_getD_getElem?, Array.getElem?_push, h3, if_true, Option.getD_some]
          rw [hgj]
          simp only [List.getElem_append_right (Nat.le_refl _), Nat.sub_self, List.getElem_cons_zero]
          exact ⟨trivial, hzv, trivial⟩
  obtain ⟨v, w', hrun, hv, es', rfl, hs', h5⟩ := key
  obtain ⟨st2, htr⟩ := st.putMp hb hs' h5
  refine ⟨.tuple #[v, .int .i64 ((mIdx m k : Nat) : Int)], { w with heap := w.heap.setIfInBounds (ρ id) (.map es' (mEnt z m k).length) }, ?_, ?_⟩
  · unfold execOp
    simp [eval_tmp hp, hvx, hrun]
  · refine st2.putRef ht ⟨[v, .int .i64 ((mIdx m k : Nat) : Int)], fun _ => [], by rw [put_get a t _ t (by rw [st.size]; exact ht)]; simp, rfl, (flat0 _).symm, fun j hj => .inr ?_⟩
    have hup : ∀ d v, VR w ρ (gd C Fe Fb) (fun i => (σ.box i).isSome) d v [] → VR { w with heap := w.heap.setIfInBounds (ρ id) (.map es' (mEnt z m k).length) } ρ (gd C (upd Fe t []) (upd Fb id [ρ id])) (fun i => ((σ.putB id (mpI f (mEnt z m k))).box i).isSome) d v [] :=
      fun d v h => (htr d v h).mono (fun _ _ _ => rfl) (fun b hb _ => ⟨hb.1, fun ho => hb.2 (own_upd ho)⟩) (fun i hi => ⟨hi, rfl⟩)
    match j, hj with
    | 0, _ => exact ⟨hr _, hup _ _ hv⟩
    | 1, _ => exact ⟨rfl, hup _ _ (by simp only [List.getElem_cons_succ, List.getElem_cons_zero, VR, D.isAgg, Bool.false_eq_true, if_false]; exact .int _)⟩

/-- another value in an entry -/
theorem R.estore {α : Type} {f : α → D} {m : List (Int × α)} {p id i : Nat} {k : Int} {u : α} {x y : Operand} {ty rt : TypeId} {pos : String} {aft : Array Edge} {g : Option (Nat × Bool)} {dv : D}
    (h : σ.get p = some (.map id)) (hb : σ.box id = some (mpI f m)) (hx : ev C.gl σ x = some (.int (i : Nat))) (hy : ev C.gl σ y = some dv) (hd : dv = f u) (hp : dv.pur = true) (hi : i < m.length) (hk : m[i].1 = k) :
    OpS P C ⟨none, .entryStore ty (.tmp p) x y, rt, pos, aft, g⟩ σ (σ.putB id (mpI f (m.set i (k, u)))) := by
  refine OpS.skip rfl fun a w ⟨ρ, Fe, Fb, st⟩ => ?_
  have hpm := map_slot st h
  obtain ⟨Fx, hvx, _⟩ := ev_ok st hx rfl
  have hvx := VR_int hvx
  obtain ⟨Fy, hvy, _⟩ := ev_ok st hy (pur_ref hp)
  have hFy := hvy.pur hp
  subst hFy
  rw [hd] at hvy
  obtain ⟨hF, es, h2, h3, h4⟩ := mp_at (st.bx _ _ hb)
  have hsz : i < es.size := by omega
  have hfi : es.findIdx? (fun e => (e.born : Int) == ((i : Nat) : Int)) = some i := by
    rw [Array.findIdx?_eq_some_iff_getElem]
    refine ⟨hsz, ?_, fun j hj => ?_⟩
    · obtain ⟨_, _, r3⟩ := h4 i hi
      have hgj : es.getD i default = es[i] := by simp [Array.getD_eq_getD_getElem?, hsz]
      rw [hgj] at r3
      simp [r3]
    · obtain ⟨_, _, r3⟩ := h4 j (by omega)
      have hgj : es.getD j default = es[j] := by simp [Array.getD_eq_getD_getElem?, show j < es.size by omega]
      rw [hgj] at r3
      simp [r3]; omega
  obtain ⟨st2, _⟩ := st.putMp (es := es.modify i fun e => { e with val := a.eval y }) (m' := m.set i (k, u)) hb (by simpa using h3) (fun j hj => by
    have hj' : j < m.length := by simpa using hj
    obtain ⟨r1, r2, r3⟩ := h4 j hj'
    have hjs : j < es.size := by omega
    have hgj : es.getD j default = es[j] := by simp [Array.getD_eq_getD_getElem?, hjs]
    rw [hgj] at r1 r2 r3
    rw [Array.getD_eq_getD_getElem?, Array.getElem?_eq_getElem (by simpa using hjs), Option.getD_some, Array.getElem_modify, List.getElem_set]
    by_cases hij : i = j
    · subst hij
      simp only [if_true]
      exact ⟨by rw [r1, hk], hvy, r3⟩
    · simp only [hij, if_false]
      exact ⟨r1, r2, r3⟩)
  refine ⟨_, ?_, ρ, Fe, _, st2⟩
  unfold execOp
  simp [Instr.entryStore, eval_tmp hpm, hvx, MapKept.run_getObj_map h2, asInt, asIntOf, hfi, MapKept.run_setObj_map _ h2]

/-- what a key's entry holds, or the zero value -/
theorem R.lookI {α : Type} {f : α → D} {m : List (Int × α)} {z : α} {p t id : Nat} {x : Operand} {k : Int} {ty kt et rt : TypeId} {pos : String} {aft : Array Edge} {g : Option (Nat × Bool)} [hT : MpT P ty kt et] {zd : D} [hZ : ZrT P et zd]
    (h : σ.get p = some (.map id)) (hb : σ.box id = some (mpI f m)) (hx : ev C.gl σ x = some (.int k)) (hz : zd = f z) (hr : ∀ v, (f v).isRef = false) (ht : t < σ.n) :
    OpS P C ⟨some t, .lookup ty (.tmp p) x false, rt, pos, aft, g⟩ σ (σ.set t (f (mGet z m k))) := by
  refine OpS.value fun a w ⟨ρ, Fe, Fb, st⟩ => ?_
  have hp := map_slot st h
  obtain ⟨Fx, hvx, _⟩ := ev_ok st hx rfl
  have hvx := VR_int hvx
  obtain ⟨hF, es, h2, h3, h4⟩ := mp_at (st.bx _ _ hb)
  obtain ⟨zi, zv, z1, z2, z3, z4⟩ := hZ.i
  have hfind := findNow_int (kd := .i64) (k := k) es.toList m 0 (by simpa using h3) (fun j hj => by have := (h4 j hj).1; simpa [Array.getD_eq_getD_getElem?] using this)
  have hzv : VR w ρ (gd C Fe Fb) (fun i => (σ.box i).isSome) (f z) zv [] := by rw [← hz]; exact chk_VR z3 z4
  have hck : ∀ b w, (Instr.checkKey b 10000 kt (.int .i64 k)).run P w = .ok () w := fun b w => MapKept.run_checkKey (w := w) hT.k (by exact rfl) b 9999
  have hfk : ∀ w, (Instr.findKey kt (.int .i64 k) es.toList).run P w = .ok (if mIdx m k < m.length then some (0 + mIdx m k, (es.toList.getD (mIdx m k) default).val) else none) w := fun w => by
    simp only [Instr.findKey, Sem.run_bind, run_underlying hT.k, Result.andThen_ok, hfind, Sem.run_pure]
  by_cases hin : mIdx m k < m.length
  · have hgv : mGet z m k = m[mIdx m k].2 := by simp [mGet, hin]
    obtain ⟨q1, q2, q3⟩ := h4 _ hin
    have hsz : mIdx m k < es.size := by omega
    have hgd : es.getD (mIdx m k) default = es[mIdx m k] := by simp [Array.getD_eq_getD_getElem?, hsz]
    rw [hgd] at q2
    refine ⟨es[mIdx m k].val, w, ?_, by rw [hgv]; exact st.put ht (hr _) q2⟩
    unfold execOp
    simp [Instr.lookup, run_underlying hT.u, eval_tmp hp, hvx, MapKept.run_getObj_map h2, hck, hfk, hin, hsz]
  · have hle : mIdx m k ≤ m.length := List.findIdx_le_length
    have hgv : mGet z m k = z := by simp [mGet, show mIdx m k = m.length by omega]
    refine ⟨zv, w, ?_, by rw [hgv]; exact st.put ht (hr _) hzv⟩
    unfold execOp
    simp [Instr.lookup, run_underlying hT.u, eval_tmp hp, hvx, MapKept.run_getObj_map h2, hck, hfk, hin, zeroValue, typeInfo, z1, z2]
end Go.Sx
