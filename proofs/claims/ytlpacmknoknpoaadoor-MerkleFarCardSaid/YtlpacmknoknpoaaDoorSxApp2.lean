/-
  Own library, part 17: append, new slices: the rules.
-/
import Derived.Test.YtlpacmknoknpoaaDoorSxApp
set_option linter.unusedVariables false
set_option linter.unusedSimpArgs false
set_option linter.unnecessarySimpa false
namespace Go.Sx

variable {P : Program} {C : Ctx} {σ σ' σ1 : Sg} {a : Act} {w w' : World} {ρ : Nat → Nat} {Fe Fe' Fb : Nat → List Nat}

theorem in_part {news : List Value} {m z : Nat} (hl : news.length = m * z) {u : Value} (hu : u ∈ news) : ∃ j, j < m ∧ u ∈ (news.drop (j * z)).take z := by
  obtain ⟨k, hk, rfl⟩ := List.mem_iff_getElem.1 hu
  have hz : 0 < z := by
    rcases Nat.eq_zero_or_pos z with rfl | h
    · simp at hl; subst hl; simp at hk
    · exact h
  have h1 : k < m * z := by omega
  have h2 : k / z < m := Nat.div_lt_of_lt_mul (by rw [Nat.mul_comm]; exact h1)
  refine ⟨k / z, h2, ?_⟩
  have h3 := Nat.div_add_mod k z
  have h4 := Nat.mod_lt k hz
  rw [Nat.mul_comm] at h3
  refine List.mem_iff_getElem?.2 ⟨k % z, ?_⟩
  rw [List.getElem?_take, if_pos h4, List.getElem?_drop, show k / z * z + k % z = k by omega]
  exact List.getElem?_eq_getElem hk

theorem flat0 (n : Nat) : (List.range n).flatMap (fun _ => ([] : List Nat)) = [] := by rw [List.flatMap_eq_nil_iff]; intros; rfl
theorem flat0_nd (n : Nat) : ((List.range n).flatMap (fun _ => ([] : List Nat))).Nodup := by rw [flat0]; exact List.nodup_nil
theorem flat0_dis (n : Nat) (F : List Nat) : ∀ b ∈ (List.range n).flatMap (fun _ => ([] : List Nat)), b ∉ F := by rw [flat0]; intro b hb; cases hb

/-- what is read from a slice -/
theorem src_ok {G L : Nat → Prop} {base : Option Addr} {len cap z : Nat} {l : List D} (h : SlR w ρ G L base len cap z l) (hp : ∀ y ∈ l, y.pur = true) :
    len = l.length ∧ ∃ news : List Value, ((base = none ∧ l = [] ∧ cap = 0) ∨ ∃ a, base = some a ∧ ∀ j u, news[j]? = some u → w.cell? (a.add j) = some u) ∧ news.length = l.length * z ∧ (∀ u ∈ news, u.oneCell' = true) ∧
      ∀ j (h : j < l.length), Rc w ρ G L false l[j] ((news.drop (j * z)).take z) [] := by
  obtain ⟨rfl, h⟩ := h
  refine ⟨rfl, ?_⟩
  rcases h with ⟨h1, rfl⟩ | ⟨b, o, cs, e, fz, rfl, hb, hc, hs, hr⟩
  · have : l = [] := List.length_eq_zero_iff.1 h1
    subst this
    cases base with
    | none => exact ⟨[], .inl ⟨rfl, rfl, rfl⟩, by simp, by simp, fun j hj => by simp at hj⟩
    | some a => exact ⟨[], .inr ⟨a, rfl, by simp⟩, by simp, by simp, fun j hj => by simp at hj⟩
  · have hl : ((cs.toList.drop o).take (l.length * z)).length = l.length * z := by simp; omega
    have hr2 : ∀ j (h : j < l.length), Rc w ρ G L false l[j] ((((cs.toList.drop o).take (l.length * z)).drop (j * z)).take z) [] := by
      intro j hj
      obtain ⟨F, hF⟩ := hr j hj
      have hFn := hF.pur (hp _ (List.getElem_mem hj))
      subst hFn
      have : j * z + z ≤ l.length * z := by
        have := Nat.mul_le_mul_right z (show j + 1 ≤ l.length by omega)
        rw [Nat.add_mul] at this; omega
      rw [sub_sub _ _ _ _ _ this]
      exact hF
    refine ⟨(cs.toList.drop o).take (l.length * z), .inr ⟨_, rfl, fun j u hu => ?_⟩, hl, fun u hu => ?_, hr2⟩
    · rw [add_lit, cell_of_row w b _ cs e fz hb]
      rw [List.getElem?_take] at hu
      split at hu
      · rw [List.getElem?_drop] at hu; simpa using hu
      · cases hu
    · obtain ⟨j, hj, hm⟩ := in_part hl hu
      exact (hr2 j hj).one u hm

/-- an operand that is a slice of what owns nothing -/
inductive SrcO (gl : List (Nat × D)) (σ : Sg) : Operand → Nat → List D → Prop
  | sc {t z : Nat} {l : List D} (h : SC σ t z l) (hp : ∀ y ∈ l, y.pur = true) : SrcO gl σ (.tmp t) z l
  | nil {x : Operand} {z : Nat} (h : ev gl σ x = some .nils) : SrcO gl σ x z []

theorem SrcO.ok (st : StW C σ a w ρ Fe Fb) {x : Operand} {z : Nat} {l : List D} (h : SrcO C.gl σ x z l) :
    ∃ base cap, a.eval x = .slice base l.length cap ∧ SlR w ρ (gd C Fe Fb) (fun id => (σ.box id).isSome) base l.length cap z l ∧ ∀ y ∈ l, y.pur = true := by
  cases h with
  | sc h hp =>
    obtain ⟨base, len, cap, hv, hr⟩ := SC_ok st h
    have := hr.1
    subst this
    exact ⟨base, cap, eval_tmp hv, hr, hp⟩
  | nil h =>
    obtain ⟨F, hv, _⟩ := ev_ok st h rfl
    simp only [VR, D.isAgg, Bool.false_eq_true, if_false] at hv
    refine ⟨none, 0, hv.nil_val, ⟨rfl, .inl ⟨rfl, rfl⟩⟩, by simp⟩

theorem fits {n bytes : Nat} (hby : bytes ≤ 131072) (hn : n ≤ 1073741824) : n * bytes ≤ 140737488355328 ∧ n ≤ maxLen := by
  refine ⟨?_, by simp only [maxLen]; omega⟩
  calc n * bytes ≤ 1073741824 * 131072 := Nat.mul_le_mul hn hby
    _ ≤ 140737488355328 := by decide

/-- append to a slice of its own -/
theorem R.app {s s0 t e z bytes : Nat} {x : Operand} {l l' : List D} {ty rt : TypeId} {pos : String} {aft : Array Edge} {g : Option (Nat × Bool)} [hT : SlT P ty e] [hE : ElT P e z bytes]
    (ho : ownr σ s s0) (hs : σ.get s0 = some (.sl (some e) z l)) (hx : SrcO C.gl σ x z l') (hn : l.length + l'.length ≤ 1073741824) (ht : t < σ.n) (hst : s0 ≠ t) (hby : bytes ≤ 131072) :
    OpS P C ⟨some t, .call { callee := .builtin .append, args := #[.tmp s, x], argTypes := #[ty, ty] }, rt, pos, aft, g⟩ σ ((σ.kill s0).set t (.sl (some e) z (l ++ l'))) := by
  refine OpS.value fun a w ⟨ρ, Fe, Fb, st⟩ => ?_
  obtain ⟨v, hv, hv0, hr⟩ := ownr_val st ho hs
  obtain ⟨base, cap, hxe, hsr, hp⟩ := hx.ok st
  obtain ⟨_, news, q1, q2, q3, q4⟩ := src_ok hsr hp
  obtain ⟨f1, f2⟩ := fits hby hn
  obtain ⟨v', w', F', hrun, ht', hnd, hsub, hres⟩ := app_run (P := P) (t := ty) (e := e) (bytes := bytes) (ty := rt) (Fs2 := fun _ => []) hr (.inr rfl) (st.nodE s0) q1 q2 q3 q4 (flat0_nd _) (flat0_dis _ _) (fun b hb hm => hb.2 (.inl ⟨s0, hm⟩)) f1 f2
  refine ⟨v', w', ?_, ρ, _, Fb, st.take (F := F') ht hst hs ht'.os ht'.tape ht'.output ht'.size ht'.blk hnd (fun b hb => ?_) ((SR_plain rfl).2 ⟨v', by rw [put_get a t _ t (by rw [st.size]; exact ht)]; simp, ?_⟩)⟩
  · unfold execOp
    simp [resolve, invoke, builtin, eval_tmp hv, hxe, hrun]
  · rcases hsub b hb with h | h | h
    · exact .inl h
    · simp at h
    · exact .inr h
  · simp only [VR, D.isAgg, Bool.false_eq_true, if_false]
    refine hres _ (fun b hb hl => ⟨hb.1, fun hc => ?_⟩)
    rcases hc with ⟨u, hu⟩ | hid
    · by_cases hut : u = t
      · subst hut
        simp at hu
        rcases hsub b hu with h | h | h
        · exact hb.2 (.inl ⟨s0, h⟩)
        · simp at h
        · omega
      · rw [upd_other hut] at hu
        by_cases hus : u = s0
        · subst hus; simp at hu
        · rw [upd_other hus] at hu; exact hb.2 (.inl ⟨u, hu⟩)
    · exact hb.2 (.inr hid)

/-- append to no slice -/
theorem R.appN {t e z bytes : Nat} {d x : Operand} {l' : List D} {ty rt : TypeId} {pos : String} {aft : Array Edge} {g : Option (Nat × Bool)} [hT : SlT P ty e] [hE : ElT P e z bytes]
    (hd : ev C.gl σ d = some .nils) (hx : SrcO C.gl σ x z l') (hn : l'.length ≤ 1073741824) (ht : t < σ.n) (hby : bytes ≤ 131072) :
    OpS P C ⟨some t, .call { callee := .builtin .append, args := #[d, x], argTypes := #[ty, ty] }, rt, pos, aft, g⟩ σ (σ.set t (.sl (some e) z l')) := by
  refine OpS.value fun a w ⟨ρ, Fe, Fb, st⟩ => ?_
  obtain ⟨Fd, hdv, _⟩ := ev_ok st hd rfl
  have hFd := hdv.pur rfl
  subst hFd
  simp only [VR, D.isAgg, Bool.false_eq_true, if_false] at hdv
  obtain ⟨base, cap, hxe, hsr, hp⟩ := hx.ok st
  obtain ⟨_, news, q1, q2, q3, q4⟩ := src_ok hsr hp
  obtain ⟨f1, f2⟩ := fits (n := ([] : List D).length + l'.length) hby (by simpa using hn)
  obtain ⟨v', w', F', hrun, ht', hnd, hsub, hres⟩ := app_run (P := P) (t := ty) (e := e) (bytes := bytes) (ty := rt) (Fs2 := fun _ => []) hdv (.inl ⟨rfl, rfl⟩) List.nodup_nil q1 q2 q3 q4 (flat0_nd _) (flat0_dis _ _) (fun _ _ h => by cases h) f1 f2
  have hnew : ∀ b ∈ F', w.heap.size ≤ b := fun b hb => by
    rcases hsub b hb with h | h | h
    · cases h
    · simp at h
    · exact h
  have hext : Ext w w' := ⟨ht'.os, ht'.tape, ht'.output, ht'.size, fun b hb => ht'.blk b hb (by simp)⟩
  refine ⟨v', w', ?_, ρ, _, Fb, st.ext (F := F') ht hext hnd hnew ((SR_plain rfl).2 ⟨v', by rw [put_get a t _ t (by rw [st.size]; exact ht)]; simp, ?_⟩)⟩
  · unfold execOp
    simp [resolve, invoke, builtin, hxe, hrun]
  · simp only [VR, D.isAgg, Bool.false_eq_true, if_false]
    refine hres _ (fun b hb hl => ⟨hb.1, fun hc => ?_⟩)
    rcases hc with ⟨u, hu⟩ | hid
    · by_cases hut : u = t
      · subst hut
        simp at hu
        have := hnew b hu
        omega
      · rw [upd_other hut] at hu; exact hb.2 (.inl ⟨u, hu⟩)
    · exact hb.2 (.inr hid)

/-! ### new slices -/
theorem StW.newSl {t e z : Nat} {l : List D} {cs : Array Value} (st : StW C σ a w ρ Fe Fb) (ht : t < σ.n) (hl : l.length ≤ maxLen) (hs : cs.size = l.length * z)
    (hr : ∀ i (h : i < l.length), Rc w ρ (gd C Fe Fb) (fun id => (σ.box id).isSome) false l[i] ((cs.toList.drop (i * z)).take z) []) :
    St C (σ.set t (.sl (some e) z l)) (a.put (some t) (.slice (some ⟨w.heap.size, 0, none⟩) l.length l.length)) (w.alloc (.cells cs e)) := by
  have hlt := st.lt
  refine ⟨ρ, upd Fe t [w.heap.size], Fb, st.ext ht (Ext.alloc w _) (by simp) (by simp) ((SR_plain rfl).2 ⟨.slice (some ⟨w.heap.size, 0, none⟩) l.length l.length, by rw [put_get a t _ t (by rw [st.size]; exact ht)]; simp, ?_⟩)⟩
  simp only [VR, D.isAgg, Bool.false_eq_true, if_false]
  have := Rc.slO (w := w.alloc (.cells cs e)) (ρ := ρ) (G := gd C (upd Fe t [w.heap.size]) Fb) (L := fun id => (σ.box id).isSome) (p := true) w.heap.size cs e l.length z l (fun _ => []) (heap_alloc_new w _) (Nat.le_refl _) hl hs
    (fun i hi => (hr i hi).mono (fun b _ hb => heap_alloc_old w _ hb) (fun b hb hbl => ⟨hb.1, fun hc => by
      rcases hc with ⟨u, hu⟩ | hid
      · by_cases hut : u = t
        · subst hut; simp at hu; omega
        · rw [upd_other hut] at hu; exact hb.2 (.inl ⟨u, hu⟩)
      · exact hb.2 (.inr hid)⟩) (fun id hid => ⟨hid, rfl⟩))
  have e0 : (List.range l.length).flatMap (fun _ => ([] : List Nat)) = [] := by rw [List.flatMap_eq_nil_iff]; intros; rfl
  rw [e0] at this
  exact this

/-- the parts' values -/
def evs (gl : List (Nat × D)) (σ : Sg) : List (Nat × Operand) → Nat → Option (List D)
  | [], _ => some []
  | (i, x) :: r, k => bif Nat.beq i k then (match ev gl σ x with
    | some d => match evs gl σ r (k + 1) with
      | some ds => some (d :: ds)
      | none => none
    | none => none) else none

def PurZ (z : Nat) : List D → Prop
  | [] => True
  | d :: r => (d.pur = true ∧ d.np = true ∧ d.sz = z) ∧ PurZ z r

theorem foldl_set (cs : Array Value) (vs : List Value) (off k : Nat) (h : off + k + vs.length ≤ cs.size) :
    ((vs.zipIdx k).foldl (fun (c : Array Value) (p : Value × Nat) => c.setIfInBounds (off + p.2) p.1) cs).toList = cs.toList.take (off + k) ++ vs ++ cs.toList.drop (off + k + vs.length) := by
  induction vs generalizing cs k with
  | nil => simp
  | cons v vs ih =>
    simp only [List.zipIdx_cons, List.foldl_cons]
    simp only [List.length_cons] at h
    rw [ih _ _ (by simp; omega)]
    simp only [Array.toList_setIfInBounds]
    apply List.ext_getElem?
    intro j
    simp only [List.append_assoc, List.getElem?_append, List.length_take, List.length_set, Array.length_toList, List.getElem?_take, List.getElem?_set, List.length_cons, List.getElem?_drop, List.cons_append]
    have e1 : min (off + (k + 1)) cs.size = off + k + 1 := by omega
    have e2 : min (off + k) cs.size = off + k := by omega
    rw [e1, e2]
    rcases Nat.lt_trichotomy j (off + k) with h1 | h1 | h1
    · simp [h1, show j < off + k + 1 by omega, show ¬ off + k = j by omega, show j < off + (k + 1) by omega]
    · subst h1
      simp [show off + k < off + k + 1 by omega, show off + k < off + (k + 1) by omega, show off + k < cs.size by omega]
    · simp only [show ¬ j < off + k + 1 by omega, show ¬ j < off + k by omega, if_false]
      have e3 : j - (off + k) = (j - (off + k + 1)) + 1 := by omega
      rw [e3]
      simp only [List.getElem?_cons_succ]
      rw [List.getElem?_append]
      by_cases h2 : j - (off + k + 1) < vs.length
      · simp [h2]
      · simp only [h2, if_false, List.getElem?_drop]
        rw [if_neg (by omega)]
        congr 1
        omega

theorem fill_run {G L : Nat → Prop} {gl : List (Nat × D)} {z : Nat} (hv : ∀ x d, ev gl σ x = some d → d.pur = true → ∃ cs : List Value, (a.eval x).cells.toList = cs ∧ Rc w ρ G L true d cs []) :
    ∀ (ps : List (Nat × Operand)) (k : Nat) (ds : List D) (cs : Array Value), evs gl σ ps k = some ds → PurZ z ds → (k + ds.length) * z ≤ cs.size →
      ∃ out : Array Value, Instr.fill (fun i => some (i * z, z)) cs (ps.map (fun p => (p.1, a.eval p.2))) = some out ∧ out.size = cs.size ∧ out.toList.take (k * z) = cs.toList.take (k * z) ∧
        ∀ i (h : i < ds.length), Rc w ρ G L false ds[i] ((out.toList.drop ((k + i) * z)).take z) [] := by
  intro ps
  induction ps with
  | nil =>
    intro k ds cs h hp hs
    simp only [evs, Option.some.injEq] at h
    subst h
    exact ⟨cs, rfl, rfl, rfl, fun i hi => by simp at hi⟩
  | cons p ps ih =>
    intro k ds cs h hp hs
    obtain ⟨i0, x⟩ := p
    simp only [evs] at h
    by_cases hik : i0 = k
    · subst hik
      simp only [Nat.beq_refl, cond_true] at h
      cases hx : ev gl σ x with
      | none => rw [hx] at h; cases h
      | some d =>
        rw [hx] at h
        cases hr : evs gl σ ps (i0 + 1) with
        | none => simp only [hr] at h; cases h
        | some ds' =>
          simp only [hr, Option.some.injEq] at h
          subst h
          obtain ⟨⟨p1, p2, p3⟩, p4⟩ := hp
          obtain ⟨xc, hxc, hrc⟩ := hv x d hx p1
          have hlen := hrc.len
          have hsz : (a.eval x).cells.size = z := by rw [← Array.length_toList, hxc, hlen, p3]
          have hkz : (i0 + 1) * z ≤ cs.size := Nat.le_trans (Nat.mul_le_mul_right z (by simp)) hs
          rw [Nat.add_mul, Nat.one_mul] at hkz
          have hfold := foldl_set cs xc (i0 * z) 0 (by omega)
          simp only [Nat.add_zero] at hfold
          have hcs2 : ((a.eval x).cells.zipIdx.foldl (fun (c : Array Value) (p : Value × Nat) => c.setIfInBounds (i0 * z + p.2) p.1) cs).toList = cs.toList.take (i0 * z) ++ xc ++ cs.toList.drop (i0 * z + xc.length) := by
            rw [← hfold, ← hxc, ← Array.foldl_toList]
            simp
          generalize hc2 : ((a.eval x).cells.zipIdx.foldl (fun (c : Array Value) (p : Value × Nat) => c.setIfInBounds (i0 * z + p.2) p.1) cs) = cs2 at hcs2
          have hs2 : cs2.size = cs.size := by
            have := congrArg List.length hcs2
            rw [splice_len _ _ _ (by simp; omega)] at this
            simpa using this
          obtain ⟨out, q1, q2, q3, q4⟩ := ih (i0 + 1) ds' cs2 hr p4 (by rw [hs2]; simp at hs ⊢; rw [show i0 + 1 + ds'.length = i0 + (ds'.length + 1) by omega]; exact hs)
          have hmid : (cs2.toList.drop (i0 * z)).take z = xc := by
            rw [hcs2, List.append_assoc, List.drop_left' (by simp; omega), List.take_append_of_le_length (by omega), List.take_of_length_le (by omega)]
          have q3' : ∀ j : Nat, (out.toList.take ((i0 + 1) * z))[j]? = (cs2.toList.take ((i0 + 1) * z))[j]? := fun j => by rw [q3]
          refine ⟨out, ?_, q2.trans hs2, ?_, fun i hi => ?_⟩
          · simp only [List.map_cons, Instr.fill]
            have hcond : ¬ ((a.eval x).cells.size ≠ z ∨ i0 * z + (a.eval x).cells.size > cs.size) := by rw [hsz]; simp; omega
            simp only [ne_eq, Bool.or_eq_true, decide_eq_true_eq]
            rw [if_neg (by simpa using hcond)]
            rw [hc2]
            exact q1
          · apply List.ext_getElem?
            intro j
            by_cases hj : j < i0 * z
            · have := q3' j
              have hj2 : j < (i0 + 1) * z := by rw [Nat.add_mul]; omega
              simp only [List.getElem?_take, hj2, if_true] at this
              simp only [List.getElem?_take, hj, if_true, this, hcs2]
              rw [List.append_assoc, List.getElem?_append_left (by simp; omega), List.getElem?_take, if_pos hj]
            · simp [List.getElem?_take, hj]
          · cases i with
            | zero =>
              simp only [Nat.add_zero, List.getElem_cons_zero]
              have : (out.toList.drop (i0 * z)).take z = (cs2.toList.drop (i0 * z)).take z := by
                apply List.ext_getElem?
                intro j
                by_cases hj : j < z
                · have := q3' (i0 * z + j)
                  have hj2 : i0 * z + j < (i0 + 1) * z := by rw [Nat.add_mul]; omega
                  simp only [List.getElem?_take, hj2, if_true] at this
                  simp only [List.getElem?_take, hj, if_true, List.getElem?_drop, this]
                · simp [List.getElem?_take, hj]
              rw [this, hmid]
              exact hrc.unflag p2
            | succ i =>
              have := q4 i (by simpa using hi)
              rw [show i0 + (i + 1) = i0 + 1 + i by omega]
              simpa using this
    · rw [nbeq hik] at h
      cases h

theorem ev_cells (st : StW C σ a w ρ Fe Fb) {x : Operand} {d : D} (h : ev C.gl σ x = some d) (hp : d.pur = true) :
    ∃ cs : List Value, (a.eval x).cells.toList = cs ∧ Rc w ρ (gd C Fe Fb) (fun id => (σ.box id).isSome) true d cs [] := by
  obtain ⟨F, hv, _⟩ := ev_ok st h (pur_ref hp)
  have := hv.pur hp
  subst this
  exact ⟨_, rfl, hv.cells (by rintro rfl; simp [D.pur] at hp)⟩

theorem R.bsl {t e z bytes k : Nat} {ps : List (Nat × Operand)} {ds : List D} {ty rt : TypeId} {pos : String} {aft : Array Edge} {g : Option (Nat × Bool)} [hT : SlT P ty e] [hE : ElT P e z bytes]
    (hps : evs C.gl σ ps 0 = some ds) (hp : PurZ z ds) (hk : ds.length = k) (ht : t < σ.n) (hsm : k * z ≤ 16777216) :
    OpS P C ⟨some t, .buildSlice ty k ps.toArray, rt, pos, aft, g⟩ σ (σ.set t (.sl (some e) z ds)) := by
  refine OpS.value fun a w ⟨ρ, Fe, Fb, st⟩ => ?_
  obtain ⟨i, zv, hi, hsz, hby, hz, hzs, hpos⟩ := hE.i
  subst hk
  obtain ⟨out, q1, q2, q3, q4⟩ := fill_run (w := w) (ρ := ρ) (z := z) (fun x d h hp => ev_cells st h hp) ps 0 ds ((Array.range (ds.length * z)).map (zv.cells[· % zv.cells.size]!)) hps hp (by simp)
  simp only [Nat.zero_add] at q4
  have hml : ds.length ≤ maxLen := by
    have : ds.length * 1 ≤ ds.length * z := Nat.mul_le_mul_left _ hpos
    simp only [maxLen]; omega
  refine ⟨_, _, ?_, st.newSl (e := e) (cs := out) ht hml (by rw [q2]; simp) q4⟩
  unfold execOp
  have hps2 : (ps.toArray.map fun x => (x.1, a.eval x.2)).toList = ps.map (fun p => (p.1, a.eval p.2)) := by simp
  by_cases h0 : ds.length * z = 0
  · have q1' := q1
    simp only [h0] at q1'
    have e0 : (Array.range 0).map (fun x => zv.cells[x % zv.cells.size]!) = (#[] : Array Value) := by simp [Array.range_zero']
    rw [e0] at q1'
    have e1 : Array.range 0 = #[] := rfl
    simp [Instr.buildSlice, run_underlying hT.u, ElT.size (P := P) (e := e), h0, hps2, e1, q1', newRow, newObj, Sem.run]
  · simp [Instr.buildSlice, run_underlying hT.u, ElT.size (P := P) (e := e), h0, hps2, q1, newRow, newObj, Sem.run, zeroValue, typeInfo, hi, hz, show ¬ (16777216 < ds.length * z) by omega]
end Go.Sx
