/-
  Own library: slices held against nil; least and greatest; bytes as texts; another entry in a map.
-/
import Derived.Test.YtlpacmknoknpoaaDoorSxMap
import Derived.Laws.IdiomStrings
set_option linter.unusedVariables false
set_option linter.unusedSimpArgs false
set_option linter.unnecessarySimpa false
namespace Go.Sx

variable {P : Program} {C : Ctx} {σ σ' σ1 : Sg} {a : Act} {w w' : World} {ρ : Nat → Nat} {Fe Fe' Fb : Nat → List Nat}
variable {pos : String} {aft : Array Edge} {g : Option (Nat × Bool)} {t ty xt yt rt : TypeId}

theorem eqGuard_slice (P : Program) (w : World) (op : BinOp) (t : TypeId) (x y : Operand) (b : Option Addr) (n c : Nat) (v : Value) : (eqGuard op t x y (.slice b n c) v).run P w = .ok () w := by
  cases op <;> rfl
theorem run_eq_nil {e : TypeId} (hT : P.underlying xt = some (.slice e)) (b : Option Addr) (n c : Nat) (w : World) :
    (binOp .eql xt (.slice b n c) (.slice none 0 0)).run P w = .ok (.bool b.isNone) w := by
  have h1 : ∀ d, (Op.equalIn (d + 1) xt (.slice b n c) (.slice none 0 0)).run P w = .ok b.isNone w := fun d => by
    cases b <;> simp [Op.equalIn, run_underlying hT]
  have h2 : (Op.equal xt (.slice b n c) (.slice none 0 0)).run P w = .ok b.isNone w := h1 9999
  simp only [binOp, Sem.run_bind, h2, Result.andThen_ok, Sem.run_pure]
theorem run_eq_nil_op {e : TypeId} (hT : P.underlying xt = some (.slice e)) {s : Nat} {b : Option Addr} {n c : Nat} (hv : a.tmps[s]? = some (.slice b n c)) :
    (execOp a.eval ⟨some t, .binOp .eql xt (.tmp s) (.const (.slice none 0 0)) yt, rt, pos, aft, g⟩).run P w = .ok (.value (.bool b.isNone)) w := by
  unfold execOp
  simp only [Sem.run_bind, eval_tmp hv, eqGuard_slice, Result.andThen_ok, Sem.run_pure]
  have : a.eval (.const (.slice none 0 0)) = .slice none 0 0 := rfl
  simp only [this, run_eq_nil hT, Result.andThen_ok]

theorem SC_some (st : StW C σ a w ρ Fe Fb) {s z : Nat} {l : List D} (h : SC σ s z l) (hl : l ≠ []) : ∃ b n c, a.tmps[s]? = some (.slice (some b) n c) := by
  obtain ⟨base, len, cap, hv, hlen, hd⟩ := SC_ok st h
  rcases hd with ⟨h3, h4⟩ | ⟨b, o, cs, e', fz, rfl, _⟩
  · exact absurd (List.length_eq_zero_iff.1 (by omega)) hl
  · exact ⟨_, _, _, hv⟩

/-- what is not empty is not nil -/
theorem R.eqNilF {s z e : Nat} {l : List D} [hT : SlT P xt e] (h : SC σ s z l) (hl : l ≠ []) (ht : t < σ.n) :
    OpS P C ⟨some t, .binOp .eql xt (.tmp s) (.const (.slice none 0 0)) yt, rt, pos, aft, g⟩ σ (σ.set t (.bool false)) := by
  refine OpS.value fun a w ⟨ρ, Fe, Fb, st⟩ => ?_
  obtain ⟨b, n, c, hv⟩ := SC_some st h hl
  exact ⟨_, w, run_eq_nil_op hT.u hv, st.put ht rfl (by simp only [VR, D.isAgg, Bool.false_eq_true, if_false]; exact .bool _)⟩
theorem R.eqNilT {s e : Nat} [hT : SlT P xt e] (h : ev C.gl σ (.tmp s) = some .nils) (ht : t < σ.n) :
    OpS P C ⟨some t, .binOp .eql xt (.tmp s) (.const (.slice none 0 0)) yt, rt, pos, aft, g⟩ σ (σ.set t (.bool true)) := by
  refine OpS.value fun a w ⟨ρ, Fe, Fb, st⟩ => ?_
  obtain ⟨F, hv, _⟩ := ev_ok st h rfl
  simp only [VR, D.isAgg, Bool.false_eq_true, if_false] at hv
  have hv := hv.nil_val
  refine ⟨.bool true, w, ?_, st.put ht rfl (by simp only [VR, D.isAgg, Bool.false_eq_true, if_false]; exact .bool _)⟩
  unfold execOp
  simp only [Sem.run_bind, hv, eqGuard_slice, Result.andThen_ok, Sem.run_pure]
  have : a.eval (.const (.slice none 0 0)) = .slice none 0 0 := rfl
  simp only [this, run_eq_nil hT.u, Result.andThen_ok]
  rfl
/-- nil or not: both are gone through -/
theorem WL.nilq {s z e : Nat} {l : List D} {ops : Array Oper} {r : List Oper} {Q : Exit → Sg → Prop} [hT : SlT P xt e] (h : SC σ s z l) (ht : t < σ.n)
    (k : ∀ b : Bool, (l ≠ [] → b = false) → WL P C ops r Q (σ.set t (.bool b))) :
    WL P C ops (⟨some t, .binOp .eql xt (.tmp s) (.const (.slice none 0 0)) yt, rt, pos, aft, none⟩ :: r) Q σ := by
  intro a w hs
  obtain ⟨ρ, Fe, Fb, st⟩ := hs
  obtain ⟨base, len, cap, hv, hlen, hd⟩ := SC_ok st h
  have hb : l ≠ [] → base.isNone = false := fun hl => by
    rcases hd with ⟨h3, h4⟩ | ⟨b, o, cs, e', fz, rfl, _⟩
    · exact absurd (List.length_eq_zero_iff.1 (by omega)) hl
    · rfl
  refine wpListIn_plain rfl fun K hK => ?_
  refine wpIn_of_run (run_eq_nil_op (t := t) (yt := yt) (rt := rt) (pos := pos) (aft := aft) (g := none) hT.u hv) (by simp) ?_
  exact hK _ _ (k base.isNone hb _ _ (st.put ht rfl (by simp only [VR, D.isAgg, Bool.false_eq_true, if_false]; exact .bool _)))

theorem VR_int' {G L : Nat → Prop} {n : Int} : VR w ρ G L (.int n) (.int .i64 n) [] := by
  simp only [VR, D.isAgg, Bool.false_eq_true, if_false]; exact .int _

theorem R.minI {x y : Operand} {m n r : Int} {ta tb : TypeId} (hx : ev C.gl σ x = some (.int m)) (hy : ev C.gl σ y = some (.int n)) (hr : min m n = r) (ht : t < σ.n) :
    OpS P C ⟨some t, .call { callee := .builtin .min, args := #[x, y], argTypes := #[ta, tb] }, rt, pos, aft, g⟩ σ (σ.set t (.int r)) := by
  refine OpS.value fun a w ⟨ρ, Fe, Fb, st⟩ => ?_
  obtain ⟨_, hvx, _⟩ := ev_ok st hx rfl
  obtain ⟨_, hvy, _⟩ := ev_ok st hy rfl
  have hvx := VR_int hvx
  have hvy := VR_int hvy
  have e : (if n < m then n else m) = r := by rw [← hr]; split <;> omega
  refine ⟨.int .i64 r, w, ?_, st.put ht rfl VR_int'⟩
  unfold execOp
  simp [resolve, invoke, builtin, hvx, hvy, Builtin.min_, Builtin.min2, e]
theorem R.maxI {x y : Operand} {m n r : Int} {ta tb : TypeId} (hx : ev C.gl σ x = some (.int m)) (hy : ev C.gl σ y = some (.int n)) (hr : max m n = r) (ht : t < σ.n) :
    OpS P C ⟨some t, .call { callee := .builtin .max, args := #[x, y], argTypes := #[ta, tb] }, rt, pos, aft, g⟩ σ (σ.set t (.int r)) := by
  refine OpS.value fun a w ⟨ρ, Fe, Fb, st⟩ => ?_
  obtain ⟨_, hvx, _⟩ := ev_ok st hx rfl
  obtain ⟨_, hvy, _⟩ := ev_ok st hy rfl
  have hvx := VR_int hvx
  have hvy := VR_int hvy
  have e : (if m < n then n else m) = r := by rw [← hr]; split <;> omega
  refine ⟨.int .i64 r, w, ?_, st.put ht rfl VR_int'⟩
  unfold execOp
  simp [resolve, invoke, builtin, hvx, hvy, Builtin.max_, Builtin.max2, e]

/-- an entry of a key, whatever it was -/
theorem R.mupd {α : Type} {f : α → D} {m : List (Int × α)} {z u : α} {p id : Nat} {x y : Operand} {k : Int} {kt et : TypeId} {dv : D} [hT : MpT P ty kt et]
    (h : σ.get p = some (.map id)) (hb : σ.box id = some (mpI f m)) (hx : ev C.gl σ x = some (.int k)) (hy : ev C.gl σ y = some dv) (hd : dv = f u) (hp : dv.pur = true) :
    OpS P C ⟨none, .mapUpdate ty (.tmp p) x y, rt, pos, aft, g⟩ σ (σ.putB id (mpI f ((mEnt z m k).set (mIdx m k) (k, u)))) := by
  refine OpS.skip rfl fun a w ⟨ρ, Fe, Fb, st⟩ => ?_
  have hpm := map_slot st h
  obtain ⟨Fx, hvx, _⟩ := ev_ok st hx rfl
  have hvx := VR_int hvx
  obtain ⟨Fy, hvy, _⟩ := ev_ok st hy (pur_ref hp)
  have hFy := hvy.pur hp
  subst hFy
  rw [hd] at hvy
  obtain ⟨hF, es, h2, h3, h4⟩ := mp_at (st.bx _ _ hb)
  have hfind := findNow_int (kd := .i64) (k := k) es.toList m 0 (by simpa using h3) (fun j hj => by have := (h4 j hj).1; simpa [Array.getD_eq_getD_getElem?] using this)
  have hck : ∀ w, (Instr.checkKey false 10000 kt (.int .i64 k)).run P w = .ok () w := fun w => MapKept.run_checkKey (w := w) hT.k (by exact rfl) false 9999
  have hfk : ∀ w, (Instr.findKey kt (.int .i64 k) es.toList).run P w = .ok (if mIdx m k < m.length then some (0 + mIdx m k, (es.toList.getD (mIdx m k) default).val) else none) w := fun w => by
    simp only [Instr.findKey, Sem.run_bind, run_underlying hT.k, Result.andThen_ok, hfind, Sem.run_pure]
  by_cases hin : mIdx m k < m.length
  · have he : mEnt z m k = m := by simp [mEnt, hin]
    have hk := mEnt_at z m k
    rw [he, List.getElem?_eq_getElem hin] at hk
    have hkk : m[mIdx m k].1 = k := by injection hk with hk; rw [hk]
    obtain ⟨q1, q2, q3⟩ := h4 _ hin
    have hsz : mIdx m k < es.size := by omega
    have hgd : es.getD (mIdx m k) default = es[mIdx m k] := by simp [Array.getD_eq_getD_getElem?, hsz]
    rw [hgd] at q1 q2 q3
    obtain ⟨st2, _⟩ := st.putMp (es := es.modify (mIdx m k) fun e => { e with key := .int .i64 k, val := a.eval y }) (m' := (mEnt z m k).set (mIdx m k) (k, u)) hb (by rw [he]; simpa using h3) (fun j hj => by
      have hj' : j < m.length := by simpa [he] using hj
      obtain ⟨r1, r2, r3⟩ := h4 j hj'
      have hjs : j < es.size := by omega
      have hgj : es.getD j default = es[j] := by simp [Array.getD_eq_getD_getElem?, hjs]
      rw [hgj] at r1 r2 r3
      rw [Array.getD_eq_getD_getElem?, Array.getElem?_eq_getElem (by simpa using hjs), Option.getD_some, Array.getElem_modify]
      simp only [he, List.getElem_set]
      by_cases hij : mIdx m k = j
      · subst hij
        simp only [if_true]
        exact ⟨trivial, hvy, r3⟩
      · simp only [hij, if_false]
        exact ⟨r1, r2, r3⟩)
    refine ⟨_, ?_, ρ, Fe, _, st2⟩
    unfold execOp
    simp [Instr.mapUpdate, run_underlying hT.u, eval_tmp hpm, hvx, MapKept.run_getObj_map h2, hck, hfk, hin, Instr.keyThatStays, Instr.sameBits, q1, hkk, hsz, MapKept.run_setObj_map _ h2, he]
  · have he : mEnt z m k = m ++ [(k, z)] := by simp [mEnt, hin]
    have hle : mIdx m k ≤ m.length := List.findIdx_le_length
    have hix : mIdx m k = m.length := by omega
    have hset : (mEnt z m k).set (mIdx m k) (k, u) = m ++ [(k, u)] := by rw [he, hix]; simp
    rw [hset]
    obtain ⟨st2, _⟩ := st.putMp (es := es.push { key := .int .i64 k, val := a.eval y, born := m.length }) (m' := m ++ [(k, u)]) hb (by simp [h3]) (fun j hj => by
      rcases Nat.lt_or_ge j m.length with hjm | hjm
      · obtain ⟨r1, r2, r3⟩ := h4 j hjm
        have hgj : (es.push { key := Value.int .i64 k, val := a.eval y, born := m.length }).getD j default = es.getD j default := by
          simp only [Array.getD_eq_getD_getElem?, Array.getElem?_push]
          rw [if_neg (by omega)]
        rw [hgj, List.getElem_append_left hjm]
        exact ⟨r1, r2, r3⟩
      · have hje : j = m.length := by simp at hj; omega
        subst hje
        have hgj : (es.push { key := Value.int .i64 k, val := a.eval y, born := m.length }).getD m.length default = { key := Value.int .i64 k, val := a.eval y, born := m.length } := by
          simp only [Array.getD_eq_getD_getElem?, Array.getElem?_push, h3, if_true, Option.getD_some]
        rw [hgj]
        simp only [List.getElem_append_right (Nat.le_refl _), Nat.sub_self, List.getElem_cons_zero]
        exact ⟨trivial, hvy, trivial⟩)
    refine ⟨_, ?_, ρ, Fe, _, st2⟩
    unfold execOp
    simp [Instr.mapUpdate, run_underlying hT.u, eval_tmp hpm, hvx, MapKept.run_getObj_map h2, hck, hfk, hin, MapKept.run_setObj_map _ h2]

/-- bytes as a text -/
theorem R.cvS {s e : Nat} {xs : List UInt8} {src dst : TypeId} [hT : SlT P src e] [hk : IkT P e .u8] [hS : StT P dst] (h : SC σ s 1 (xs.map D.u8)) (ht : t < σ.n) :
    OpS P C ⟨some t, .convert src dst (.tmp s), rt, pos, aft, g⟩ σ (σ.set t (.str xs)) := by
  refine OpS.value fun a w ⟨ρ, Fe, Fb, st⟩ => ?_
  obtain ⟨base, len, cap, hv, hlen, hd⟩ := SC_ok st h
  have hlen' : len = xs.length := by simpa using hlen
  subst hlen'
  have key : (convert src dst (.slice base xs.length cap)).run P w = .ok (.string ⟨xs.toArray⟩) w := by
    have hcell : ∀ ad, base = some ad → ∀ j (hj : j < xs.length), w.cell? (ad.add j) = some (.int .u8 (xs[j].toNat : Int)) := by
      rintro ad rfl j hj
      rcases hd with ⟨h3, h4⟩ | ⟨b, o, cs, e', fz, hba, hb, hc, hs, hr⟩
      · omega
      · simp only [Option.some.injEq] at hba
        subst hba
        rw [add_lit, cell_of_row w b _ cs e' fz hb]
        obtain ⟨F, hF⟩ := hr j (by simpa using hj)
        simp only [List.getElem_map, Nat.mul_one] at hF hs
        have hlt : o + j < cs.size := by omega
        rw [List.drop_eq_getElem_cons (by simpa using hlt), List.take_succ_cons, List.take_zero] at hF
        rw [Array.getElem?_eq_getElem hlt, ← Array.getElem_toList]
        generalize cs.toList[o + j] = vv at hF
        cases hF
        rfl
    cases base with
    | some ad => exact run_convert_bytes_back w src dst e ad cap xs hT.u hk.u hS.u (hcell ad rfl)
    | none =>
      have h0 : xs = [] := by
        rcases hd with ⟨h3, h4⟩ | ⟨b, o, cs, e', fz, hba, _⟩
        · exact List.length_eq_zero_iff.1 h3
        · cases hba
      subst h0
      simp [convert, run_underlying hT.u, run_underlying hS.u, run_underlying hk.u, Conv.bytesToString]
      rfl
  refine ⟨.string ⟨xs.toArray⟩, w, ?_, st.put ht rfl (by simp only [VR, D.isAgg, Bool.false_eq_true, if_false]; exact .str xs)⟩
  unfold execOp
  simp [eval_tmp hv, key]
theorem R.mkmapI {α : Type} (f : α → D) (hid : σ.box t = none) (ht : t < σ.n) : OpS P C ⟨some t, .makeMap ty none, rt, pos, aft, g⟩ σ ((σ.newB t (mpI f [])).set t (.map t)) := R.mkmap hid ht
theorem nil_of {α : Type} {f : α → D} {b : List α} {x : Bool} (h : b.map f ≠ [] → x = false) (hc : x = true) : b = [] := by
  cases b with
  | nil => rfl
  | cons y r => have := h (by simp); rw [this] at hc; cases hc
theorem pur_part {α : Type} {f : α → D} {l : List α} {a n : Nat} (h : ∀ x, (f x).pur = true) : ∀ y ∈ ((l.map f).drop a).take n, y.pur = true := fun y hy => by
  obtain ⟨x, _, rfl⟩ := List.mem_map.1 (List.mem_of_mem_drop (List.mem_of_mem_take hy))
  exact h x
/-- an array's zero value, built -/
theorem R.bldAZ {n e z bytes : Nat} {d : D} [hT : ArT P ty n e] [hE : ElT P e z bytes] [hZ : ZrT P ty d] (hd : d.isAgg = true) (ht : t < σ.n) :
    OpS P C ⟨some t, .build ty #[], rt, pos, aft, g⟩ σ (σ.set t d) := by
  refine OpS.value fun a w ⟨ρ, Fe, Fb, st⟩ => ?_
  obtain ⟨i, v, h1, h2, h3, h4⟩ := hZ.i
  obtain ⟨ie, zv, hi, _⟩ := hE.i
  have hv : VR w ρ (gd C Fe Fb) (fun i => (σ.box i).isSome) d v [] := chk_VR h3 h4
  rw [hd] at h4
  cases v with
  | agg cs =>
    refine ⟨.agg cs, w, ?_, st.put ht (by cases d <;> first | rfl | cases hd) hv⟩
    unfold execOp
    simp [Instr.build, zeroValue, typeInfo, h1, h2, run_underlying hT.u, sizeOf, hi, Instr.fill, Value.cells]
  | _ => simp [Value.isAgg'] at h4
/-- bools held against each other -/
class BoT (P : Program) (t : TypeId) : Prop where
  u : P.underlying t = some .bool
theorem eqGuard_bool (P : Program) (w : World) (op : BinOp) (t : TypeId) (x y : Operand) (b : Bool) (v : Value) : (eqGuard op t x y (.bool b) v).run P w = .ok () w := by
  cases op <;> rfl
theorem run_eq_bool [hT : BoT P xt] (a b : Bool) (w : World) : (Op.equal xt (.bool a) (.bool b)).run P w = .ok (a == b) w := by
  have h1 : ∀ d, (Op.equalIn (d + 1) xt (.bool a) (.bool b)).run P w = .ok (a == b) w := fun d => by
    simp [Op.equalIn, run_underlying hT.u]
  exact h1 9999
theorem VR_bool {G L : Nat → Prop} {b : Bool} {v : Value} {F : List Nat} (h : VR w ρ G L (.bool b) v F) : v = .bool b := by
  simp only [VR, D.isAgg, Bool.false_eq_true, if_false] at h
  cases h
  rfl
theorem R.eqB {x y : Operand} {b c : Bool} [hT : BoT P xt] (hx : ev C.gl σ x = some (.bool b)) (hy : ev C.gl σ y = some (.bool c)) (ht : t < σ.n) :
    OpS P C ⟨some t, .binOp .eql xt x y yt, rt, pos, aft, g⟩ σ (σ.set t (.bool (b == c))) := by
  refine OpS.value fun a w ⟨ρ, Fe, Fb, st⟩ => ?_
  obtain ⟨_, vx, _⟩ := ev_ok st hx rfl
  obtain ⟨_, vy, _⟩ := ev_ok st hy rfl
  have vx := VR_bool vx
  have vy := VR_bool vy
  refine ⟨.bool (b == c), w, ?_, st.put ht rfl (by simp only [VR, D.isAgg, Bool.false_eq_true, if_false]; exact .bool _)⟩
  unfold execOp
  simp only [Sem.run_bind, vx, vy, eqGuard_bool, Result.andThen_ok, binOp, run_eq_bool, Sem.run_pure]
theorem R.neB {x y : Operand} {b c : Bool} [hT : BoT P xt] (hx : ev C.gl σ x = some (.bool b)) (hy : ev C.gl σ y = some (.bool c)) (ht : t < σ.n) :
    OpS P C ⟨some t, .binOp .neq xt x y yt, rt, pos, aft, g⟩ σ (σ.set t (.bool (b != c))) := by
  refine OpS.value fun a w ⟨ρ, Fe, Fb, st⟩ => ?_
  obtain ⟨_, vx, _⟩ := ev_ok st hx rfl
  obtain ⟨_, vy, _⟩ := ev_ok st hy rfl
  have vx := VR_bool vx
  have vy := VR_bool vy
  refine ⟨.bool (b != c), w, ?_, st.put ht rfl (by simp only [VR, D.isAgg, Bool.false_eq_true, if_false]; exact .bool _)⟩
  unfold execOp
  simp only [Sem.run_bind, vx, vy, eqGuard_bool, Result.andThen_ok, binOp, run_eq_bool, Sem.run_pure]
  rfl
end Go.Sx
