/-
  Own library, part 7: rules for reading.
-/
import Derived.Test.YtlpacmknoknpoaaDoorSxMem
set_option linter.unusedVariables false
set_option linter.unusedSimpArgs false
set_option linter.unnecessarySimpa false
namespace Go.Sx

def isAggB : TypeDesc → Bool
  | .struct _ | .array _ _ => true
  | _ => false

/-- what a program says of its types; instances are laid by a program of mine -/
class SlT (P : Program) (t : TypeId) (e : outParam TypeId) : Prop where
  u : P.underlying t = some (.slice e)
class ElT (P : Program) (e : TypeId) (z bytes : outParam Nat) : Prop where
  i : ∃ i zv, P.info? e = some i ∧ i.size = z ∧ i.bytes = bytes ∧ i.zero = some zv ∧ zv.cells.size = z ∧ 0 < z
class LdT (P : Program) (t : TypeId) (n : outParam Nat) (g : outParam Bool) : Prop where
  i : ∃ d i, P.underlying t = some d ∧ isAggB d = g ∧ P.info? t = some i ∧ i.size = n
class FdT (P : Program) (s f : Nat) (off : outParam Nat) : Prop where
  i : ∃ fs fld i, P.underlying s = some (.struct fs) ∧ fs[f]? = some fld ∧ fld.offset = off ∧ P.info? fld.type = some i ∧ i.size ≠ 0
class ArT (P : Program) (t : TypeId) (n e : outParam Nat) : Prop where
  u : P.underlying t = some (.array n e)

variable {P : Program} {C : Ctx} {σ σ' : Sg} {a : Act} {w w' : World} {ρ : Nat → Nat} {Fe Fb : Nat → List Nat}

theorem ElT.size {e z b : Nat} [h : ElT P e z b] (w : World) : (sizeOf e).run P w = .ok z w := by
  obtain ⟨i, zv, hi, rfl, _⟩ := h.i
  simp [sizeOf, typeInfo, hi]
theorem LdT.size {t n : Nat} {g : Bool} [h : LdT P t n g] (w : World) : (sizeOf t).run P w = .ok n w := by
  obtain ⟨d, i, _, _, hi, rfl⟩ := h.i
  simp [sizeOf, typeInfo, hi]
theorem LdT.agg {t n : Nat} {g : Bool} [h : LdT P t n g] (w : World) : (isAgg t).run P w = .ok g w := by
  obtain ⟨d, i, hd, hg, _, _⟩ := h.i
  unfold isAgg
  rw [Sem.run_bind, run_underlying hd w]
  subst hg
  cases d <;> rfl

/-- a value is read -/
theorem run_loadVar' {G L : Nat → Prop} {p : Bool} {d : D} {F : List Nat} {ty n : Nat} {g : Bool} [LdT P ty n g] {b off : Nat} {cs : Array Value} {e : Nat} {fz : Nat × Nat}
    (hb : w.heap[b]? = some (.cells cs e fz)) (hr : Rc w ρ G L p d ((cs.toList.drop off).take d.sz) F) (hs : off + d.sz ≤ cs.size) (hn : d.sz = n) (hg : d.isAgg = g) :
    ∃ v, (loadVar ty ⟨b, off, none⟩).run P w = .ok v w ∧ VR w ρ G L d v F := by
  have hr' : Rc w ρ G L true d ((cs.toList.drop off).take d.sz) F := by
    cases p with
    | true => exact hr
    | false => exact hr.flag
  have hl : ((cs.toList.drop off).take d.sz).length = n := by rw [hr.len, hn]
  have hcell : ∀ j v, ((cs.toList.drop off).take d.sz)[j]? = some v → w.cell? ((⟨b, off, none⟩ : Addr).add j) = some v := by
    intro j v hv
    rw [add_lit, cell_of_row w b _ cs e fz hb]
    rw [List.getElem?_take] at hv
    split at hv
    · rw [List.getElem?_drop] at hv; simpa using hv
    · cases hv
  cases g with
  | true =>
    refine ⟨.agg ((cs.toList.drop off).take d.sz).toArray, ?_, ?_⟩
    · have := run_loadCells_list (P := P) w ⟨b, off, none⟩ ((cs.toList.drop off).take d.sz) hcell
      rw [hl] at this
      simp [loadVar, LdT.agg (P := P) (t := ty), LdT.size (P := P) (t := ty), this]
    · simp only [VR, hg, if_true]; exact ⟨_, rfl, by simpa using hr'⟩
  | false =>
    have h1 : d.sz = 1 := by cases d <;> simp_all [D.sz, D.isAgg]
    obtain ⟨v, hv⟩ : ∃ v, (cs.toList.drop off).take d.sz = [v] := by
      rw [h1] at hl hn ⊢
      rw [← hn] at hl
      exact List.length_eq_one_iff.1 hl
    refine ⟨v, ?_, ?_⟩
    · have hc := hcell 0 v (by rw [hv]; rfl)
      simp only [Addr.add, if_true] at hc
      simp [loadVar, LdT.agg (P := P) (t := ty), hc]
    · simp only [VR, hg, Bool.false_eq_true, if_false]; rw [hv] at hr'; exact hr'

theorem own_upd {t b : Nat} (h : own (upd Fe t []) Fb b) : own Fe Fb b := by
  rcases h with ⟨u, hu⟩ | h
  · by_cases hut : u = t
    · subst hut; simp at hu
    · rw [upd_other hut] at hu; exact .inl ⟨u, hu⟩
  · exact .inr h

/-- setting a slot to what owns nothing, in the very world -/
theorem StW.put {t : Nat} {d : D} {v : Value} (h : StW C σ a w ρ Fe Fb) (ht : t < σ.n) (hd : d.isRef = false)
    (hv : VR w ρ (gd C Fe Fb) (fun id => (σ.box id).isSome) d v []) : St C (σ.set t d) (a.put (some t) v) w :=
  h.setV ht (Ext.refl w) hd (hv.mono (fun _ _ _ => rfl) (fun b hb _ => ⟨hb.1, fun ho => hb.2 (own_upd ho)⟩) (fun id hid => ⟨hid, rfl⟩))

/-- setting a slot to a reference -/
theorem StW.putRef {t : Nat} {d : D} {v : Value} (h : StW C σ a w ρ Fe Fb) (ht : t < σ.n)
    (hv : SR w ρ (gd C (upd Fe t []) Fb) (fun id => (σ.box id).isSome) (a.put (some t) v) t d []) : St C (σ.set t d) (a.put (some t) v) w :=
  ⟨ρ, upd Fe t [], Fb, h.ext ht (Ext.refl w) List.nodup_nil (by simp) hv⟩

theorem eval_tmp {s : Nat} {v : Value} (h : a.tmps[s]? = some v) : a.eval (.tmp s) = v := by simp [Act.eval, h]

/-! ### lengths -/
theorem R.len {s t z : Nat} {l : List D} {ty e rt : TypeId} {pos : String} {aft : Array Edge} {g : Option (Nat × Bool)} [hT : SlT P ty e]
    (h : SC σ s z l) (ht : t < σ.n) : OpS P C ⟨some t, .call { callee := .builtin .len, args := #[.tmp s], argTypes := #[ty] }, rt, pos, aft, g⟩ σ (σ.set t (.int l.length)) := by
  refine OpS.value fun a w ⟨ρ, Fe, Fb, st⟩ => ?_
  obtain ⟨base, len, cap, hv, rfl, _⟩ := SC_ok st h
  refine ⟨.int .i64 l.length, w, ?_, st.put ht rfl ?_⟩
  · unfold execOp
    simp [resolve, invoke, builtin, Builtin.len_, run_underlying hT.u, eval_tmp hv, goInt]
  · simp only [VR, D.isAgg, Bool.false_eq_true, if_false]; exact .int _

class StT (P : Program) (t : TypeId) : Prop where
  u : P.underlying t = some .string
theorem R.lenS {x : Operand} {t : Nat} {l : List UInt8} {ty rt : TypeId} {pos : String} {aft : Array Edge} {g : Option (Nat × Bool)} [hT : StT P ty]
    (h : ev C.gl σ x = some (.str l)) (ht : t < σ.n) : OpS P C ⟨some t, .call { callee := .builtin .len, args := #[x], argTypes := #[ty] }, rt, pos, aft, g⟩ σ (σ.set t (.int l.length)) := by
  refine OpS.value fun a w ⟨ρ, Fe, Fb, st⟩ => ?_
  obtain ⟨F, hv, _⟩ := ev_ok st h rfl
  simp only [VR, D.isAgg, Bool.false_eq_true, if_false] at hv
  generalize he : a.eval x = v at hv
  cases hv
  have hsz : (ByteArray.mk l.toArray).size = l.length := by show l.toArray.size = _; simp
  refine ⟨.int .i64 l.length, w, ?_, st.put ht rfl ?_⟩
  · unfold execOp
    simp [resolve, invoke, builtin, Builtin.len_, run_underlying hT.u, he, goInt, hsz]
  · simp only [VR, D.isAgg, Bool.false_eq_true, if_false]; exact .int _

/-! ### an address inside a slice -/
theorem R.idx {s t z : Nat} {l : List D} {ix : Operand} {n : Int} {ty e b rt : TypeId} {pos : String} {aft : Array Edge} {g : Option (Nat × Bool)} [hT : SlT P ty e] [hE : ElT P e z b]
    (h : SC σ s z l) (hi : ev C.gl σ ix = some (.int n)) (h0 : 0 ≤ n) (h1 : n < l.length) (ht : t < σ.n) (hst : s ≠ t) :
    OpS P C ⟨some t, .indexAddr ty (.tmp s) ix, rt, pos, aft, g⟩ σ (σ.set t (.ep s z n.toNat 0 [])) := by
  refine OpS.value fun a w ⟨ρ, Fe, Fb, st⟩ => ?_
  obtain ⟨base, len, cap, hv, rfl, hd⟩ := SC_ok st h
  obtain ⟨F, hi, _⟩ := ev_ok st hi rfl
  simp only [VR, D.isAgg, Bool.false_eq_true, if_false] at hi
  generalize he : a.eval ix = vi at hi
  cases hi
  rcases hd with ⟨h2, _⟩ | ⟨b, o, cs, e', fz, rfl, hb, hc, hsz, hr⟩
  · omega
  have hsz' := st.size
  refine ⟨.pointer (some ⟨b, o + n.toNat * z, none⟩), w, ?_, st.putRef ht ?_⟩
  · unfold execOp
    simp [Instr.indexAt, asIntOf, run_underlying hT.u, eval_tmp hv, he, h0, h1, ElT.size (P := P) (e := e), add_lit]
  · refine ⟨rfl, b, o, l.length, cap, ?_, ?_, by omega⟩
    · rw [put_get a t _ s (by omega)]; simp [hst, hv]
    · rw [put_get a t _ t (by omega)]; simp

/-! ### reading through an address -/
theorem R.ldE {p t z i off : Nat} {s : Nat} {path : List Nat} {l : List D} {d0 d : D} {ty n rt : TypeId} {gg : Bool} {pos : String} {aft : Array Edge} {g : Option (Nat × Bool)} [LdT P ty n gg]
    (h : σ.get p = some (.ep s z i off path)) (hs : SC σ s z l) (hi : l[i]? = some d0) (hl : d0.loc path = some (off, d)) (hp : d.pur = true) (hn : d.sz = n) (hg : d.isAgg = gg) (ht : t < σ.n) :
    OpS P C ⟨some t, .load ty (.tmp p), rt, pos, aft, g⟩ σ (σ.set t d) := by
  refine OpS.value fun a w ⟨ρ, Fe, Fb, st⟩ => ?_
  obtain ⟨base, len, cap, hv, rfl, hd⟩ := SC_ok st hs
  obtain ⟨_, b, o, len', cap', h1, h2, h3⟩ := st.env _ _ h
  rw [hv] at h1
  simp only [Option.some.injEq, Value.slice.injEq] at h1
  obtain ⟨rfl, rfl, rfl⟩ := h1
  obtain ⟨hilt, rfl⟩ := List.getElem?_eq_some_iff.1 hi
  rcases hd with ⟨h4, _⟩ | ⟨b', o', cs, e', fz, h4, hb, hc, hsz, hr⟩
  · omega
  cases h4
  obtain ⟨F, hF⟩ := hr i hilt
  obtain ⟨F', h5, h6, h7⟩ := hF.loc hl
  have hlen : off + d.sz ≤ z := by
    have : ((cs.toList.drop (o + i * z)).take z).length ≤ z := by simp; omega
    omega
  rw [sub_sub _ _ _ _ _ hlen] at h5
  have hF' := h5.pur hp
  subst hF'
  have hbound : o + i * z + off + d.sz ≤ cs.size := by
    have : (i + 1) * z ≤ l.length * z := Nat.mul_le_mul_right z hilt
    rw [Nat.add_mul] at this
    omega
  obtain ⟨v, hv1, hv2⟩ := run_loadVar' (P := P) (ty := ty) hb h5 hbound hn hg
  refine ⟨v, w, ?_, st.put ht (pur_ref hp) hv2⟩
  unfold execOp
  simp [Instr.loadAt, Instr.sureAddr, eval_tmp h2, hv1]

theorem R.ldP {p t id off : Nat} {path : List Nat} {d0 d : D} {ty n rt : TypeId} {gg : Bool} {pos : String} {aft : Array Edge} {g : Option (Nat × Bool)} [LdT P ty n gg]
    (h : σ.get p = some (.ptr id off path)) (hb : σ.box id = some (.var d0)) (hl : d0.loc path = some (off, d)) (hp : d.pur = true) (hn : d.sz = n) (hg : d.isAgg = gg) (ht : t < σ.n) :
    OpS P C ⟨some t, .load ty (.tmp p), rt, pos, aft, g⟩ σ (σ.set t d) := by
  refine OpS.value fun a w ⟨ρ, Fe, Fb, st⟩ => ?_
  obtain ⟨v, hv, hr⟩ := (SR_plain rfl).1 (st.env _ _ h)
  simp only [VR, D.isAgg, Bool.false_eq_true, if_false] at hr
  generalize Fe p = F at hr
  cases hr
  obtain ⟨cs, e, F', hb', hr, _⟩ := st.bx _ _ hb
  obtain ⟨F2, h1, h2, h3⟩ := hr.loc hl
  have hF' := h1.pur hp
  subst hF'
  obtain ⟨v, hv1, hv2⟩ := run_loadVar' (P := P) (ty := ty) hb' h1 (by simpa using h3) hn hg
  refine ⟨v, w, ?_, st.put ht (pur_ref hp) hv2⟩
  unfold execOp
  simp [Instr.loadAt, Instr.sureAddr, eval_tmp hv, hv1]

/-- a slice of its own in a box: a reference to it -/
theorem R.ldO {p t id off z : Nat} {path : List Nat} {d0 : D} {o : Option Nat} {l : List D} {ty rt : TypeId} {pos : String} {aft : Array Edge} {g : Option (Nat × Bool)} [LdT P ty 1 false]
    (h : σ.get p = some (.ptr id off path)) (hb : σ.box id = some (.var d0)) (hl : d0.loc path = some (off, .sl o z l)) (ht : t < σ.n) :
    OpS P C ⟨some t, .load ty (.tmp p), rt, pos, aft, g⟩ σ (σ.set t (.alb id off path)) := by
  refine OpS.value fun a w ⟨ρ, Fe, Fb, st⟩ => ?_
  obtain ⟨v, hv, hr⟩ := (SR_plain rfl).1 (st.env _ _ h)
  simp only [VR, D.isAgg, Bool.false_eq_true, if_false] at hr
  generalize Fe p = F at hr
  cases hr
  obtain ⟨cs, e, F', hb', hr, _⟩ := st.bx _ _ hb
  obtain ⟨F2, h1, h2, h3⟩ := hr.loc hl
  obtain ⟨v, hv1, hv2⟩ := run_loadVar' (P := P) (ty := ty) hb' h1 (by simpa using h3) rfl rfl
  have hsz := st.size
  have hc : w.cell? ⟨ρ id, off, none⟩ = some v := by
    simp only [D.sz] at h1 h3
    have hlt : off < cs.size := by simp at h3; omega
    rw [cell_of_row w _ _ cs e (0, 0) hb']
    have hv3 : (loadVar ty ⟨ρ id, off, none⟩).run P w = .ok cs[off] w := by
      simp [loadVar, LdT.agg (P := P) (t := ty), cell_of_row w _ _ cs e (0, 0) hb', hlt]
    rw [hv3] at hv1
    cases hv1
    simp [hlt]
  refine ⟨v, w, ?_, st.putRef ht ⟨rfl, by simp [hb], v, by rw [put_get a t _ t (by omega)]; simp, hc⟩⟩
  unfold execOp
  simp [Instr.loadAt, Instr.sureAddr, eval_tmp hv, hv1]

theorem R.ldR {x : Operand} {t : Nat} {d : D} {ty n rt : TypeId} {gg : Bool} {pos : String} {aft : Array Edge} {g : Option (Nat × Bool)} [LdT P ty n gg]
    (h : ev C.gl σ x = some (.rp d)) (hp : d.pur = true) (hn : d.sz = n) (hg : d.isAgg = gg) (ht : t < σ.n) :
    OpS P C ⟨some t, .load ty x, rt, pos, aft, g⟩ σ (σ.set t d) := by
  refine OpS.value fun a w ⟨ρ, Fe, Fb, st⟩ => ?_
  obtain ⟨F, hv, _⟩ := ev_ok st h rfl
  simp only [VR, D.isAgg, Bool.false_eq_true, if_false] at hv
  generalize he : a.eval x = v at hv
  cases hv with
  | rp _ b off cs e fz hb hG hs hr =>
    obtain ⟨v, hv1, hv2⟩ := run_loadVar' (P := P) (ty := ty) hb hr hs hn hg
    refine ⟨v, w, ?_, st.put ht (pur_ref hp) hv2⟩
    unfold execOp
    simp [Instr.loadAt, Instr.sureAddr, he, hv1]

/-! ### fields and elements behind an address -/
theorem run_fieldAt {s f off : Nat} [h : FdT P s f off] (w : World) (b o : Nat) : (Instr.fieldAt s (.pointer (some ⟨b, o, none⟩)) f).run P w = .ok (.pointer (some ⟨b, o + off, none⟩)) w := by
  obtain ⟨fs, fld, i, h1, h2, rfl, h4, h5⟩ := h.i
  simp [Instr.fieldAt, run_underlying h1, h2, Instr.sureAddr, fieldPlace, sizeOf, typeInfo, h4, h5, add_lit]

theorem R.fdP {x t id off off' : Nat} {path : List Nat} {s f : Nat} {rt : TypeId} {pos : String} {aft : Array Edge} {g : Option (Nat × Bool)} [FdT P s f off']
    (h : σ.get x = some (.ptr id off path)) (ht : t < σ.n) : OpS P C ⟨some t, .fieldAddr s (.tmp x) f, rt, pos, aft, g⟩ σ (σ.set t (.ptr id (off + off') (path ++ [f]))) := by
  refine OpS.value fun a w ⟨ρ, Fe, Fb, st⟩ => ?_
  obtain ⟨v, hv, hr⟩ := (SR_plain rfl).1 (st.env _ _ h)
  simp only [VR, D.isAgg, Bool.false_eq_true, if_false] at hr
  generalize Fe x = F at hr
  cases hr with
  | ptr _ _ _ hL =>
  refine ⟨.pointer (some ⟨ρ id, off + off', none⟩), w, ?_, st.put ht rfl ?_⟩
  · unfold execOp
    simp [eval_tmp hv, run_fieldAt (P := P) (s := s) (f := f)]
  · simp only [VR, D.isAgg, Bool.false_eq_true, if_false]; exact .ptr _ _ _ hL

theorem R.fdE {x t s' z i off off' : Nat} {path : List Nat} {s f : Nat} {rt : TypeId} {pos : String} {aft : Array Edge} {g : Option (Nat × Bool)} [FdT P s f off']
    (h : σ.get x = some (.ep s' z i off path)) (ht : t < σ.n) (hst : s' ≠ t) : OpS P C ⟨some t, .fieldAddr s (.tmp x) f, rt, pos, aft, g⟩ σ (σ.set t (.ep s' z i (off + off') (path ++ [f]))) := by
  refine OpS.value fun a w ⟨ρ, Fe, Fb, st⟩ => ?_
  obtain ⟨_, b, o, len, cap, h1, h2, h3⟩ := st.env _ _ h
  have hsz := st.size
  refine ⟨.pointer (some ⟨b, o + i * z + off + off', none⟩), w, ?_, st.putRef ht ⟨rfl, b, o, len, cap, ?_, ?_, h3⟩⟩
  · unfold execOp
    simp [eval_tmp h2, run_fieldAt (P := P) (s := s) (f := f)]
  · rw [put_get a t _ s' (by omega)]; simp [hst, h1]
  · rw [put_get a t _ t (by omega)]; simp [Nat.add_assoc]

theorem R.fdR {x : Operand} {t : Nat} {l : List D} {d : D} {s f off' : Nat} {rt : TypeId} {pos : String} {aft : Array Edge} {g : Option (Nat × Bool)} [FdT P s f off']
    (h : ev C.gl σ x = some (.rp (.agg l))) (hf : l[f]? = some d) (ho : offk l f = off') (ht : t < σ.n) : OpS P C ⟨some t, .fieldAddr s x f, rt, pos, aft, g⟩ σ (σ.set t (.rp d)) := by
  refine OpS.value fun a w ⟨ρ, Fe, Fb, st⟩ => ?_
  obtain ⟨F, hv, _⟩ := ev_ok st h rfl
  simp only [VR, D.isAgg, Bool.false_eq_true, if_false] at hv
  generalize he : a.eval x = v at hv
  cases hv with
  | rp _ b off cs e fz hb hG hs hr =>
    obtain ⟨hlt, rfl⟩ := List.getElem?_eq_some_iff.1 hf
    have hlo := offk_lt l f hlt
    refine ⟨.pointer (some ⟨b, off + off', none⟩), w, ?_, st.put ht rfl ?_⟩
    · unfold execOp
      simp [he, run_fieldAt (P := P) (s := s) (f := f)]
    · simp only [VR, D.isAgg, Bool.false_eq_true, if_false]
      simp only [sz_agg] at hs
      refine .rp _ b (off + off') cs e fz hb hG (by omega) ?_
      generalize hFs : ([] : List Nat) = F0 at hr
      cases hr with
      | agg _ _ Fs hs' hr' =>
        have h1 := hr' f hlt
        rw [sz_agg, sub_sub _ _ _ _ _ (by omega), ho] at h1
        have hF : Fs f = [] := by
          have := (List.flatMap_eq_nil_iff.1 hFs.symm) f (List.mem_range.2 hlt)
          exact this
        rw [hF] at h1
        rw [← hFs]
        exact h1
end Go.Sx
