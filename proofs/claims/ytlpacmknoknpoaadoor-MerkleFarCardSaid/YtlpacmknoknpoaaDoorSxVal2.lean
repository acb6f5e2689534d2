/-
  Own library, part 19: places in arrays, values with parts.
-/
import Derived.Test.YtlpacmknoknpoaaDoorSxVal
set_option linter.unusedVariables false
set_option linter.unusedSimpArgs false
set_option linter.unnecessarySimpa false
namespace Go.Sx

variable {P : Program} {C : Ctx} {σ σ' σ1 : Sg} {a : Act} {w w' : World} {ρ : Nat → Nat} {Fe Fe' Fb : Nat → List Nat}

theorem int_ok (st : StW C σ a w ρ Fe Fb) {x : Operand} {n : Int} (h : evo C.gl σ (some x) 0 = some n) : ∃ k, a.eval x = .int k n := bound_ok st h

/-! ### places in arrays -/
theorem R.idxP {s t e z b m id off : Nat} {path : List Nat} {ix : Operand} {n : Int} {ty rt : TypeId} {pos : String} {aft : Array Edge} {g : Option (Nat × Bool)} [hT : ArT P ty m e] [hE : ElT P e z b] (k : Nat)
    (h : σ.get s = some (.ptr id off path)) (hi : evo C.gl σ (some ix) 0 = some n) (hk : n = (k : Int)) (h1 : k < m) (ht : t < σ.n) :
    OpS P C ⟨some t, .indexAddr ty (.tmp s) ix, rt, pos, aft, g⟩ σ (σ.set t (.ptr id (off + k * z) (path ++ [k]))) := by
  subst hk
  refine OpS.value fun a w ⟨ρ, Fe, Fb, st⟩ => ?_
  obtain ⟨v, hv, hr⟩ := (SR_plain rfl).1 (st.env _ _ h)
  simp only [VR, D.isAgg, Bool.false_eq_true, if_false] at hr
  generalize Fe s = F at hr
  cases hr with
  | ptr _ _ _ hL =>
  obtain ⟨kk, he⟩ := int_ok st hi
  refine ⟨.pointer (some ⟨ρ id, off + k * z, none⟩), w, ?_, st.put ht rfl ?_⟩
  · unfold execOp
    simp [Instr.indexAt, Instr.sureAddr, asIntOf, run_underlying hT.u, eval_tmp hv, he, h1, ElT.size (P := P) (e := e), add_lit]
  · simp only [VR, D.isAgg, Bool.false_eq_true, if_false]; exact .ptr _ _ _ hL

theorem R.idxR {x : Operand} {t e z b m : Nat} {l : List D} {d : D} {ix : Operand} {n : Int} {ty rt : TypeId} {pos : String} {aft : Array Edge} {g : Option (Nat × Bool)} [hT : ArT P ty m e] [hE : ElT P e z b] (k : Nat)
    (h : ev C.gl σ x = some (.rp (.arr m z l))) (hi : evo C.gl σ (some ix) 0 = some n) (hk : n = (k : Int)) (h1 : l[k]? = some d) (hz : d.sz = z) (ht : t < σ.n) :
    OpS P C ⟨some t, .indexAddr ty x ix, rt, pos, aft, g⟩ σ (σ.set t (.rp d)) := by
  subst hk
  refine OpS.value fun a w ⟨ρ, Fe, Fb, st⟩ => ?_
  obtain ⟨F, hv, _⟩ := ev_ok st h rfl
  simp only [VR, D.isAgg, Bool.false_eq_true, if_false] at hv
  generalize hex : a.eval x = v at hv
  obtain ⟨kk, he⟩ := int_ok st hi
  obtain ⟨hkl, rfl⟩ := List.getElem?_eq_some_iff.1 h1
  cases hv with
  | rp _ b off cs e' fz hb hG hs hr =>
    cases hr with
    | arr _ _ _ _ hl hsz hrr =>
      simp only [sz_arr] at hs hsz
      have hkm : k < m := by omega
      have hkz : k * z + z ≤ m * z := by
        have := Nat.mul_le_mul_right z (show k + 1 ≤ m by omega)
        rw [Nat.add_mul] at this; omega
      refine ⟨.pointer (some ⟨b, off + k * z, none⟩), w, ?_, st.put ht rfl ?_⟩
      · unfold execOp
        simp [Instr.indexAt, Instr.sureAddr, asIntOf, run_underlying hT.u, hex, he, hkm, ElT.size (P := P) (e := e), add_lit]
      · simp only [VR, D.isAgg, Bool.false_eq_true, if_false]
        refine .rp _ b (off + k * z) cs e' fz hb hG (by omega) ?_
        have := hrr k hkl
        rw [sz_arr, sub_sub _ _ _ _ _ hkz] at this
        rw [hz]
        exact this

theorem R.idxE {x t s e z z0 b m i off : Nat} {path : List Nat} {ix : Operand} {n : Int} {ty rt : TypeId} {pos : String} {aft : Array Edge} {g : Option (Nat × Bool)} [hT : ArT P ty m e] [hE : ElT P e z b] (k : Nat)
    (h : σ.get x = some (.ep s z0 i off path)) (hi : evo C.gl σ (some ix) 0 = some n) (hk : n = (k : Int)) (h1 : k < m) (ht : t < σ.n) (hst : s ≠ t) :
    OpS P C ⟨some t, .indexAddr ty (.tmp x) ix, rt, pos, aft, g⟩ σ (σ.set t (.ep s z0 i (off + k * z) (path ++ [k]))) := by
  subst hk
  refine OpS.value fun a w ⟨ρ, Fe, Fb, st⟩ => ?_
  obtain ⟨_, b, o, len, cap, h2, h3, h4⟩ := st.env _ _ h
  obtain ⟨kk, he⟩ := int_ok st hi
  have hsz := st.size
  refine ⟨.pointer (some ⟨b, o + i * z0 + off + k * z, none⟩), w, ?_, st.putRef ht ⟨rfl, b, o, len, cap, ?_, ?_, h4⟩⟩
  · unfold execOp
    simp [Instr.indexAt, Instr.sureAddr, asIntOf, run_underlying hT.u, eval_tmp h3, he, h1, ElT.size (P := P) (e := e), add_lit]
  · rw [put_get a t _ s (by omega)]; simp [hst, h2]
  · rw [put_get a t _ t (by omega)]; simp [Nat.add_assoc]

/-- an element of a slice, the place as a number -/
theorem R.idxN {s t z : Nat} {l : List D} {ix : Operand} {n : Int} {ty e b rt : TypeId} {pos : String} {aft : Array Edge} {g : Option (Nat × Bool)} [hT : SlT P ty e] [hE : ElT P e z b] (k : Nat)
    (h : SC σ s z l) (hi : evo C.gl σ (some ix) 0 = some n) (hk : n = (k : Int)) (h1 : k < l.length) (ht : t < σ.n) (hst : s ≠ t) :
    OpS P C ⟨some t, .indexAddr ty (.tmp s) ix, rt, pos, aft, g⟩ σ (σ.set t (.ep s z k 0 [])) := by
  subst hk
  refine OpS.value fun a w ⟨ρ, Fe, Fb, st⟩ => ?_
  obtain ⟨base, len, cap, hv, rfl, hd⟩ := SC_ok st h
  obtain ⟨kk, he⟩ := int_ok st hi
  rcases hd with ⟨h2, _⟩ | ⟨b, o, cs, e', fz, rfl, hb, hc, hsz, hr⟩
  · omega
  have hsz' := st.size
  refine ⟨.pointer (some ⟨b, o + k * z, none⟩), w, ?_, st.putRef ht ?_⟩
  · unfold execOp
    simp [Instr.indexAt, asIntOf, run_underlying hT.u, eval_tmp hv, he, h1, ElT.size (P := P) (e := e), add_lit]
  · refine ⟨rfl, b, o, l.length, cap, ?_, ?_, by omega⟩
    · rw [put_get a t _ s (by omega)]; simp [hst, hv]
    · rw [put_get a t _ t (by omega)]; simp

/-! ### values with parts -/
theorem run_part {e z off : Nat} {gg : Bool} [hL : LdT P e z gg] {G L : Nat → Prop} {p : Bool} {d : D} {cs : Array Value} {F : List Nat} (hr : Rc w ρ G L p d ((cs.toList.drop off).take z) F) (hz : d.sz = z) (hg : d.isAgg = gg) (hs : off + z ≤ cs.size) :
    ∃ v, (part e cs off).run P w = .ok v w ∧ VR w ρ G L d v F := by
  have hr' : Rc w ρ G L true d ((cs.toList.drop off).take z) F := by
    cases p with
    | true => exact hr
    | false => exact hr.flag
  cases gg with
  | true =>
    refine ⟨.agg (cs.extract off (off + z)), ?_, ?_⟩
    · simp [part, LdT.agg (P := P) (t := e), LdT.size (P := P) (t := e)]
    · simp only [VR, hg, if_true]
      refine ⟨_, rfl, ?_⟩
      have e1 : (cs.extract off (off + z)).toList = (cs.toList.drop off).take z := by
        rw [Array.toList_extract]
        simp [List.extract_eq_take_drop]
      rw [e1]; exact hr'
  | false =>
    have h1 : d.sz = 1 := by cases d <;> simp_all [D.sz, D.isAgg]
    have hz1 : z = 1 := by omega
    subst hz1
    have hlt : off < cs.size := by omega
    refine ⟨cs[off], ?_, ?_⟩
    · simp [part, LdT.agg (P := P) (t := e), hlt]
    · simp only [VR, hg, Bool.false_eq_true, if_false]
      rw [List.drop_eq_getElem_cons (by simpa using hlt), List.take_succ_cons, List.take_zero, Array.getElem_toList] at hr'
      exact hr'

/-- an element of an array -/
theorem R.ixA {x ix : Operand} {t e z m : Nat} {gg : Bool} {l : List D} {d : D} {n : Int} {ty rt : TypeId} {pos : String} {aft : Array Edge} {g : Option (Nat × Bool)} [hT : ArT P ty m e] [hL : LdT P e z gg] (k : Nat)
    (hx : ev C.gl σ x = some (.arr m z l)) (hi : evo C.gl σ (some ix) 0 = some n) (hk : n = (k : Int)) (h1 : l[k]? = some d) (hp : d.pur = true) (hz : d.sz = z) (hg : d.isAgg = gg) (ht : t < σ.n) :
    OpS P C ⟨some t, .index ty x ix, rt, pos, aft, g⟩ σ (σ.set t d) := by
  subst hk
  refine OpS.value fun a w ⟨ρ, Fe, Fb, st⟩ => ?_
  obtain ⟨F, hv, _⟩ := ev_ok st hx rfl
  simp only [VR, D.isAgg, if_true] at hv
  obtain ⟨cs, hex, hv⟩ := hv
  obtain ⟨kk, he⟩ := int_ok st hi
  obtain ⟨hkl, rfl⟩ := List.getElem?_eq_some_iff.1 h1
  cases hv with
  | arr _ _ _ _ hl hsz hrr =>
    have hkm : k < m := by omega
    have hkz : k * z + z ≤ m * z := by
      have := Nat.mul_le_mul_right z (show k + 1 ≤ m by omega)
      rw [Nat.add_mul] at this; omega
    obtain ⟨v, hrun, hvr⟩ := run_part (P := P) (e := e) (hrr k hkl) hz hg (by simp at hsz; omega)
    refine ⟨v, w, ?_, st.put ht (pur_ref hp) hvr⟩
    unfold execOp
    simp [Instr.index, asIntOf, run_underlying hT.u, hex, he, hkm, LdT.size (P := P) (t := e), hrun]

/-- a byte of a string -/
theorem R.ixS {x ix : Operand} {t : Nat} {s : List UInt8} {b : UInt8} {n : Int} {ty rt : TypeId} {pos : String} {aft : Array Edge} {g : Option (Nat × Bool)} [hT : StT P ty] (k : Nat)
    (hx : ev C.gl σ x = some (.str s)) (hi : evo C.gl σ (some ix) 0 = some n) (hk : n = (k : Int)) (h1 : s[k]? = some b) (ht : t < σ.n) :
    OpS P C ⟨some t, .index ty x ix, rt, pos, aft, g⟩ σ (σ.set t (.u8 b)) := by
  subst hk
  refine OpS.value fun a w ⟨ρ, Fe, Fb, st⟩ => ?_
  obtain ⟨F, hv, _⟩ := ev_ok st hx rfl
  simp only [VR, D.isAgg, Bool.false_eq_true, if_false] at hv
  generalize hex : a.eval x = v at hv
  cases hv
  obtain ⟨kk, he⟩ := int_ok st hi
  obtain ⟨hkl, rfl⟩ := List.getElem?_eq_some_iff.1 h1
  refine ⟨.int .u8 s[k].toNat, w, ?_, st.put ht rfl ?_⟩
  · unfold execOp
    have : (⟨s.toArray⟩ : ByteArray)[k]? = some s[k] := by
      have hsz : (ByteArray.mk s.toArray).size = s.length := by show s.toArray.size = _; simp
      rw [getElem?_pos _ _ (by rw [hsz]; exact hkl)]
      rfl
    simp [Instr.index, asIntOf, run_underlying hT.u, hex, he, this]
  · simp only [VR, D.isAgg, Bool.false_eq_true, if_false]; exact .u8 _

class FtT (P : Program) (s f : Nat) (ty off : outParam Nat) : Prop where
  i : ∃ fs fld, P.underlying s = some (.struct fs) ∧ fs[f]? = some fld ∧ fld.offset = off ∧ fld.type = ty

/-- a field of a struct -/
theorem R.fld {x : Operand} {t s f ty off z : Nat} {gg : Bool} {l : List D} {d : D} {rt : TypeId} {pos : String} {aft : Array Edge} {g : Option (Nat × Bool)} [hT : FtT P s f ty off] [hL : LdT P ty z gg]
    (hx : ev C.gl σ x = some (.agg l)) (h1 : l[f]? = some d) (ho : offk l f = off) (hp : d.pur = true) (hz : d.sz = z) (hg : d.isAgg = gg) (ht : t < σ.n) :
    OpS P C ⟨some t, .field s x f, rt, pos, aft, g⟩ σ (σ.set t d) := by
  refine OpS.value fun a w ⟨ρ, Fe, Fb, st⟩ => ?_
  obtain ⟨F, hv, _⟩ := ev_ok st hx rfl
  simp only [VR, D.isAgg, if_true] at hv
  obtain ⟨cs, hex, hv⟩ := hv
  obtain ⟨hkl, rfl⟩ := List.getElem?_eq_some_iff.1 h1
  obtain ⟨fs, fld, hu, hf, hfo, hft⟩ := hT.i
  cases hv with
  | agg _ _ Fs hsz hrr =>
    have hlo := offk_lt l f hkl
    have h2 := hrr f hkl
    rw [ho, hz] at h2
    have h3 := h2.pur hp
    rw [h3] at h2
    obtain ⟨v, hrun, hvr⟩ := run_part (P := P) (e := ty) h2 hz hg (by simp at hsz; omega)
    refine ⟨v, w, ?_, st.put ht (pur_ref hp) hvr⟩
    unfold execOp
    simp [Instr.field, run_underlying hu, hf, hex, asAgg, hfo, hft, hrun]

/-! ### a choice -/
theorem R.pick {c x y : Operand} {t : Nat} {d : D} {b : Bool} {rt : TypeId} {pos : String} {aft : Array Edge} {g : Option (Nat × Bool)}
    (hc : ev C.gl σ c = some (.bool b)) (hx : (bif b then ev C.gl σ x else ev C.gl σ y) = some d) (hp : d.pur = true) (ht : t < σ.n) :
    OpS P C ⟨some t, .pick c x y, rt, pos, aft, g⟩ σ (σ.set t d) := by
  refine OpS.value fun a w ⟨ρ, Fe, Fb, st⟩ => ?_
  obtain ⟨Fc, hvc, _⟩ := ev_ok st hc rfl
  simp only [VR, D.isAgg, Bool.false_eq_true, if_false] at hvc
  generalize hec : a.eval c = vc at hvc
  cases hvc
  cases b with
  | true =>
    simp only [cond_true] at hx
    obtain ⟨F, hv, _⟩ := ev_ok st hx (pur_ref hp)
    have hF := hv.pur hp
    subst hF
    refine ⟨a.eval x, w, ?_, st.put ht (pur_ref hp) hv⟩
    unfold execOp
    simp [hec, asBool]
  | false =>
    simp only [cond_false] at hx
    obtain ⟨F, hv, _⟩ := ev_ok st hx (pur_ref hp)
    have hF := hv.pur hp
    subst hF
    refine ⟨a.eval y, w, ?_, st.put ht (pur_ref hp) hv⟩
    unfold execOp
    simp [hec, asBool]
theorem R.pickT {c x y : Operand} {t : Nat} {d : D} {b : Bool} {rt : TypeId} {pos : String} {aft : Array Edge} {g : Option (Nat × Bool)}
    (hc : ev C.gl σ c = some (.bool b)) (hb : b = true) (hx : ev C.gl σ x = some d) (hp : d.pur = true) (ht : t < σ.n) :
    OpS P C ⟨some t, .pick c x y, rt, pos, aft, g⟩ σ (σ.set t d) := R.pick hc (by rw [hb]; exact hx) hp ht
theorem R.pickF {c x y : Operand} {t : Nat} {d : D} {b : Bool} {rt : TypeId} {pos : String} {aft : Array Edge} {g : Option (Nat × Bool)}
    (hc : ev C.gl σ c = some (.bool b)) (hb : b = false) (hx : ev C.gl σ y = some d) (hp : d.pur = true) (ht : t < σ.n) :
    OpS P C ⟨some t, .pick c x y, rt, pos, aft, g⟩ σ (σ.set t d) := R.pick hc (by rw [hb]; exact hx) hp ht

/-- reckoning, the outcome said otherwise -/
theorem R.binE {op : BinOp} {xt yt ty : TypeId} {x y : Operand} {t : Nat} {pos : String} {aft : Array Edge} {g : Option (Nat × Bool)} {dx dy d d' : D} {s : Prop}
    (hx : ev C.gl σ x = some dx) (hy : ev C.gl σ y = some dy) (ha : arith op dx dy = some (s, d')) (hs : s) (he : d' = d) (ht : t < σ.n) :
    OpS P C ⟨some t, .binOp op xt x y yt, ty, pos, aft, g⟩ σ (σ.set t d) := by subst he; exact R.bin hx hy ha hs ht
theorem R.convE {src dst ty : TypeId} {k k0 : IntKind} {x : Operand} {t : Nat} {pos : String} {aft : Array Edge} {g : Option (Nat × Bool)} {dx d d' : D} [h0 : IkT P src k0] [hT : IkT P dst k]
    (hx : ev C.gl σ x = some dx) (hc : convD k dx = some d') (he : d' = d) (ht : t < σ.n) : OpS P C ⟨some t, .convert src dst x, ty, pos, aft, g⟩ σ (σ.set t d) := by subst he; exact R.conv hx hc ht

theorem wr_eq {a c : Int} (h : a = c) (h0 : -9223372036854775808 ≤ c) (h1 : c < 9223372036854775808) : D.int (wr a) = D.int c := by
  subst h
  have : wr a = a := by unfold wr; rw [IntKind.wrap_i64]; omega
  rw [this]

/-! ### equality of arrays of bytes -/
class EqT (P : Program) (t : TypeId) : Prop where
  i : P.eqGuardType P.depth t = false

theorem run_eqItems_u8 {e : TypeId} [hk : IkT P e .u8] [hL : LdT P e 1 false] (w : World) (d : Nat) (xs ys : List UInt8) (n : Nat) (hx : xs.length = n) (hy : ys.length = n) (cx cy : Array Value)
    (h1 : cx.toList = xs.map (fun b => Value.int .u8 b.toNat)) (h2 : cy.toList = ys.map (fun b => Value.int .u8 b.toNat)) : ∀ (l : List Nat), (∀ i ∈ l, i < n) →
    (Op.eqItems (d + 1) e 1 cx cy l).run P w = .ok (l.all fun i => xs[i]? == ys[i]?) w := by
  intro l
  induction l with
  | nil => intro _; simp [Op.eqItems]
  | cons i l ih =>
    intro h
    have hi := h i (by simp)
    have hp : ∀ (cs : Array Value) (zs : List UInt8) (hz : zs.length = n), cs.toList = zs.map (fun b => Value.int .u8 b.toNat) → (part e cs (i * 1)).run P w = .ok (.int .u8 (zs[i]'(by omega)).toNat) w := by
      intro cs zs hz hc
      have hi' : i < cs.size := by
        have := congrArg List.length hc
        simp at this; omega
      have : cs[i] = .int .u8 (zs[i]'(by omega)).toNat := by
        have e1 : cs.toList[i]'(by simpa using hi') = (zs.map (fun b => Value.int .u8 b.toNat))[i]'(by simp; omega) := by simp only [hc]
        simpa using e1
      simp [part, LdT.agg (P := P) (t := e), hi', this]
    have e3 := hp cx xs hx h1
    have e4 := hp cy ys hy h2
    obtain ⟨k, hku⟩ : ∃ k, P.underlying e = some (.int k) := ⟨_, hk.u⟩
    have e5 := run_equalIn_int (P := P) w d e .u8 k (xs[i]'(by omega)).toNat (ys[i]'(by omega)).toNat hku
    have ex : xs[i]? = some (xs[i]'(by omega)) := List.getElem?_eq_getElem _
    have ey : ys[i]? = some (ys[i]'(by omega)) := List.getElem?_eq_getElem _
    have eb : ((((xs[i]'(by omega)).toNat : Int)) == (((ys[i]'(by omega)).toNat : Int))) = (xs[i]? == ys[i]?) := by
      rw [ex, ey, beq_u8]; rfl
    have ih' := ih (fun j hj => h j (List.mem_cons_of_mem _ hj))
    simp only [Op.eqItems, Sem.run_bind, e3, e4, e5, Result.andThen_ok, eb, List.all_cons]
    cases hb : (xs[i]? == ys[i]?) with
    | true => simpa using ih'
    | false => simp

theorem all_eq (n : Nat) (xs ys : List UInt8) (hx : xs.length = n) (hy : ys.length = n) : ((List.range n).all fun i => xs[i]? == ys[i]?) = (xs == ys) := by
  rw [Bool.eq_iff_iff]
  simp only [List.all_eq_true, List.mem_range, beq_iff_eq]
  constructor
  · intro h
    apply List.ext_getElem?
    intro i
    by_cases hi : i < n
    · exact h i hi
    · rw [List.getElem?_eq_none (by omega), List.getElem?_eq_none (by omega)]
  · rintro rfl i _; rfl

theorem arr_u8 {G L : Nat → Prop} {p : Bool} {n : Nat} {xs : List UInt8} {cs : List Value} {F : List Nat} (h : Rc w ρ G L p (.arr n 1 (xs.map .u8)) cs F) : xs.length = n ∧ cs = xs.map (fun b => Value.int .u8 b.toNat) := by
  cases h with
  | arr _ _ _ _ hl hs hr =>
    have hl' : xs.length = n := by simpa using hl
    refine ⟨hl', ?_⟩
    apply List.ext_getElem?
    intro i
    by_cases hi : i < n
    · have hic : i < cs.length := by omega
      have := hr i (by simp; omega)
      rw [Nat.mul_one, List.drop_eq_getElem_cons hic, List.take_succ_cons, List.take_zero] at this
      simp only [List.getElem_map] at this
      rw [List.getElem?_eq_getElem hic, List.getElem?_eq_getElem (by simp; omega)]
      generalize hc : [cs[i]] = c at this
      cases this
      simp at hc
      simp [hc]
    · rw [List.getElem?_eq_none (by omega), List.getElem?_eq_none (by simp; omega)]

theorem R.eqA {neg : Bool} {x y : Operand} {t e n : Nat} {xs ys : List UInt8} {xt yt ty : TypeId} {pos : String} {aft : Array Edge} {g : Option (Nat × Bool)} [hT : ArT P xt n e] [hk : IkT P e .u8] [hL : LdT P e 1 false] [hE : EqT P xt]
    (hx : ev C.gl σ x = some (.arr n 1 (xs.map .u8))) (hy : ev C.gl σ y = some (.arr n 1 (ys.map .u8))) (ht : t < σ.n) :
    OpS P C ⟨some t, .binOp (bif neg then .neq else .eql) xt x y yt, ty, pos, aft, g⟩ σ (σ.set t (.bool (bif neg then xs != ys else xs == ys))) := by
  refine OpS.value fun a w ⟨ρ, Fe, Fb, st⟩ => ?_
  obtain ⟨Fx, hvx, _⟩ := ev_ok st hx rfl
  obtain ⟨Fy, hvy, _⟩ := ev_ok st hy rfl
  simp only [VR, D.isAgg, if_true] at hvx hvy
  obtain ⟨cx, hex, hvx⟩ := hvx
  obtain ⟨cy, hey, hvy⟩ := hvy
  obtain ⟨hlx, hcx⟩ := arr_u8 hvx
  obtain ⟨hly, hcy⟩ := arr_u8 hvy
  obtain ⟨d, i, _, _, hi, hsz⟩ := hL.i
  have hce : P.cellsOf e = 1 := by simp [Program.cellsOf, hi, hsz]
  have heq : (Op.equalIn 10000 xt (.agg cx) (.agg cy)).run P w = .ok (xs == ys) w := by
    rw [show (10000 : Nat) = 9999 + 1 from rfl, run_equalIn_array w 9999 cx cy hT.u hi, hce, show (9999 : Nat) = 9998 + 1 from rfl,
      run_eqItems_u8 (P := P) w 9998 xs ys n hlx hly cx cy hcx hcy _ (fun i hi => List.mem_range.1 hi), all_eq n xs ys hlx hly]
  refine ⟨.bool (bif neg then xs != ys else xs == ys), w, ?_, st.put ht rfl ?_⟩
  · unfold execOp
    cases neg with
    | false => simp only [cond_false, hex, hey, Sem.run_bind, run_eqGuard_agg w .eql xt x y cx cy hE.i, run_eql_struct, heq, Result.andThen_ok, Sem.run_pure]
    | true => simp only [cond_true, hex, hey, Sem.run_bind, run_eqGuard_agg w .neq xt x y cx cy hE.i, run_neq_struct, heq, Result.andThen_ok, Sem.run_pure]; rfl
  · simp only [VR, D.isAgg, Bool.false_eq_true, if_false]; exact .bool _
end Go.Sx
