/-
  Own library, part 19: places in arrays, values with parts.
-/
import Derived.Test.YtggoegenobhanaaDoorMSxDraw
import Derived.MapKept
import Derived.Laws.IdiomStrings
set_option linter.unusedVariables false
set_option linter.unusedSimpArgs false
set_option linter.unnecessarySimpa false

namespace Go.Sx

variable {P : Program} {C : Ctx} {σ σ' σ1 : Sg} {a : Act} {w w' : World} {ρ : Nat → Nat} {Fe Fe' Fb : Nat → List Nat}

theorem int_ok (st : StW C σ a w ρ Fe Fb) {x : Operand} {n : Int} (h : evo C.gl σ (some x) 0 = some n) : ∃ k, a.eval x = .int k n := bound_ok st h

/-! ### places in arrays -/
theorem R.idxP {s t e z b m id off : Nat} {path : List Nat} {ix : Operand} {n : Int} {ty rt : TypeId} {pos : String} {aft : Array Edge} {g : Option (Nat × Bool)} [hT : ArT P ty m e] [hE : ElT P e z b] (k : Nat)
    (h : σ.get s = some (.ptr id off path)) (hi : evo C.gl σ (some ix) 0 = some n) (hk : n = (k : Int)) (h1 : k < m) (ht : t < σ.n) :
    OpS P C ⟨some t, .indexAddr ty (.tmp s) ix, rt, pos, aft, g⟩ σ (σ.set t (.ptr id (off + k * z) (path ++ [k]))) := by
  subst hk
  refine OpS.value fun a w ⟨ρ, Fe, Fb, st⟩ => ?_
  obtain ⟨v, hv, hr⟩ := (SR_plain rfl).1 (st.env _ _ h)
  simp only [VR, D.isAgg, Bool.false_eq_true, if_false] at hr
  generalize Fe s = F at hr
  cases hr with
  | ptr _ _ _ hL =>
  obtain ⟨kk, he⟩ := int_ok st hi
  refine ⟨.pointer (some ⟨ρ id, off + k * z, none⟩), w, ?_, st.put ht rfl ?_⟩
  · unfold execOp
    simp [Instr.indexAt, Instr.sureAddr, asIntOf, run_underlying hT.u, eval_tmp hv, he, h1, ElT.size (P := P) (e := e), add_lit]
  · simp only [VR, D.isAgg, Bool.false_eq_true, if_false]; exact .ptr _ _ _ hL

theorem R.idxR {x : Operand} {t e z b m : Nat} {l : List D} {d : D} {ix : Operand} {n : Int} {ty rt : TypeId} {pos : String} {aft : Array Edge} {g : Option (Nat × Bool)} [hT : ArT P ty m e] [hE : ElT P e z b] (k : Nat)
    (h : ev C.gl σ x = some (.rp (.arr m z l))) (hi : evo C.gl σ (some ix) 0 = some n) (hk : n = (k : Int)) (h1 : l[k]? = some d) (hz : d.sz = z) (ht : t < σ.n) :
    OpS P C ⟨some t, .indexAddr ty x ix, rt, pos, aft, g⟩ σ (σ.set t (.rp d)) := by
  subst hk
  refine OpS.value fun a w ⟨ρ, Fe, Fb, st⟩ => ?_
  obtain ⟨F, hv, _⟩ := ev_ok st h rfl
  simp only [VR, D.isAgg, Bool.false_eq_true, if_false] at hv
  generalize hex : a.eval x = v at hv
  obtain ⟨kk, he⟩ := int_ok st hi
  obtain ⟨hkl, rfl⟩ := List.getElem?_eq_some_iff.1 h1
  cases hv with
  | rp _ b off cs e' fz hb hG hs hr =>
    cases hr with
    | arr _ _ _ _ hl hsz hrr =>
      simp only [sz_arr] at hs hsz
      have hkm : k < m := by omega
      have hkz : k * z + z ≤ m * z := by
        have := Nat.mul_le_mul_right z (show k + 1 ≤ m by omega)
        rw [Nat.add_mul] at this; omega
      refine ⟨.pointer (some ⟨b, off + k * z, none⟩), w, ?_, st.put ht rfl ?_⟩
      · unfold execOp
        simp [Instr.indexAt, Instr.sureAddr, asIntOf, run_underlying hT.u, hex, he, hkm, ElT.size (P := P) (e := e), add_lit]
      · simp only [VR, D.isAgg, Bool.false_eq_true, if_false]
        refine .rp _ b (off + k * z) cs e' fz hb hG (by omega) ?_
        have := hrr k hkl
        rw [sz_arr, sub_sub _ _ _ _ _ hkz] at this
        rw [hz]
        exact this

theorem R.idxE {x t s e z z0 b m i off : Nat} {path : List Nat} {ix : Operand} {n : Int} {ty rt : TypeId} {pos : String} {aft : Array Edge} {g : Option (Nat × Bool)} [hT : ArT P ty m e] [hE : ElT P e z b] (k : Nat)
    (h : σ.get x = some (.ep s z0 i off path)) (hi : evo C.gl σ (some ix) 0 = some n) (hk : n = (k : Int)) (h1 : k < m) (ht : t < σ.n) (hst : s ≠ t) :
    OpS P C ⟨some t, .indexAddr ty (.tmp x) ix, rt, pos, aft, g⟩ σ (σ.set t (.ep s z0 i (off + k * z) (path ++ [k]))) := by
  subst hk
  refine OpS.value fun a w ⟨ρ, Fe, Fb, st⟩ => ?_
  obtain ⟨_, b, o, len, cap, h2, h3, h4⟩ := st.env _ _ h
  obtain ⟨kk, he⟩ := int_ok st hi
  have hsz := st.size
  refine ⟨.pointer (some ⟨b, o + i * z0 + off + k * z, none⟩), w, ?_, st.putRef ht ⟨rfl, b, o, len, cap, ?_, ?_, h4⟩⟩
  · unfold execOp
    simp [Instr.indexAt, Instr.sureAddr, asIntOf, run_underlying hT.u, eval_tmp h3, he, h1, ElT.size (P := P) (e := e), add_lit]
  · rw [put_get a t _ s (by omega)]; simp [hst, h2]
  · rw [put_get a t _ t (by omega)]; simp [Nat.add_assoc]

/-- an element of a slice, the place as a number -/
theorem R.idxN {s t z : Nat} {l : List D} {ix : Operand} {n : Int} {ty e b rt : TypeId} {pos : String} {aft : Array Edge} {g : Option (Nat × Bool)} [hT : SlT P ty e] [hE : ElT P e z b] (k : Nat)
    (h : SC σ s z l) (hi : evo C.gl σ (some ix) 0 = some n) (hk : n = (k : Int)) (h1 : k < l.length) (ht : t < σ.n) (hst : s ≠ t) :
    OpS P C ⟨some t, .indexAddr ty (.tmp s) ix, rt, pos, aft, g⟩ σ (σ.set t (.ep s z k 0 [])) := by
  subst hk
  refine OpS.value fun a w ⟨ρ, Fe, Fb, st⟩ => ?_
  obtain ⟨base, len, cap, hv, rfl, hd⟩ := SC_ok st h
  obtain ⟨kk, he⟩ := int_ok st hi
  rcases hd with ⟨h2, _⟩ | ⟨b, o, cs, e', fz, rfl, hb, hc, hsz, hr⟩
  · omega
  have hsz' := st.size
  refine ⟨.pointer (some ⟨b, o + k * z, none⟩), w, ?_, st.putRef ht ?_⟩
  · unfold execOp
    simp [Instr.indexAt, asIntOf, run_underlying hT.u, eval_tmp hv, he, h1, ElT.size (P := P) (e := e), add_lit]
  · refine ⟨rfl, b, o, l.length, cap, ?_, ?_, by omega⟩
    · rw [put_get a t _ s (by omega)]; simp [hst, hv]
    · rw [put_get a t _ t (by omega)]; simp

/-! ### values with parts -/
theorem run_part {e z off : Nat} {gg : Bool} [hL : LdT P e z gg] {G L : Nat → Prop} {p : Bool} {d : D} {cs : Array Value} {F : List Nat} (hr : Rc w ρ G L p d ((cs.toList.drop off).take z) F) (hz : d.sz = z) (hg : d.isAgg = gg) (hs : off + z ≤ cs.size) :
    ∃ v, (part e cs off).run P w = .ok v w ∧ VR w ρ G L d v F := by
  have hr' : Rc w ρ G L true d ((cs.toList.drop off).take z) F := by
    cases p with
    | true => exact hr
    | false => exact hr.flag
  cases gg with
  | true =>
    refine ⟨.agg (cs.extract off (off + z)), ?_, ?_⟩
    · simp [part, LdT.agg (P := P) (t := e), LdT.size (P := P) (t := e)]
    · simp only [VR, hg, if_true]
      refine ⟨_, rfl, ?_⟩
      have e1 : (cs.extract off (off + z)).toList = (cs.toList.drop off).take z := by
        rw [Array.toList_extract]
        simp [List.extract_eq_take_drop]
      rw [e1]; exact hr'
  | false =>
    have h1 : d.sz = 1 := by cases d <;> simp_all [D.sz, D.isAgg]
    have hz1 : z = 1 := by omega
    subst hz1
    have hlt : off < cs.size := by omega
    refine ⟨cs[off], ?_, ?_⟩
    · simp [part, LdT.agg (P := P) (t := e), hlt]
    · simp only [VR, hg, Bool.false_eq_true, if_false]
      rw [List.drop_eq_getElem_cons (by simpa using hlt), List.take_succ_cons, List.take_zero, Array.getElem_toList] at hr'
      exact hr'

/-- an element of an array -/
theorem R.ixA {x ix : Operand} {t e z m : Nat} {gg : Bool} {l : List D} {d : D} {n : Int} {ty rt : TypeId} {pos : String} {aft : Array Edge} {g : Option (Nat × Bool)} [hT : ArT P ty m e] [hL : LdT P e z gg] (k : Nat)
    (hx : ev C.gl σ x = some (.arr m z l)) (hi : evo C.gl σ (some ix) 0 = some n) (hk : n = (k : Int)) (h1 : l[k]? = some d) (hp : d.pur = true) (hz : d.sz = z) (hg : d.isAgg = gg) (ht : t < σ.n) :
    OpS P C ⟨some t, .index ty x ix, rt, pos, aft, g⟩ σ (σ.set t d) := by
  subst hk
  refine OpS.value fun a w ⟨ρ, Fe, Fb, st⟩ => ?_
  obtain ⟨F, hv, _⟩ := ev_ok st hx rfl
  simp only [VR, D.isAgg, if_true] at hv
  obtain ⟨cs, hex, hv⟩ := hv
  obtain ⟨kk, he⟩ := int_ok st hi
  obtain ⟨hkl, rfl⟩ := List.getElem?_eq_some_iff.1 h1
  cases hv with
  | arr _ _ _ _ hl hsz hrr =>
    have hkm : k < m := by omega
    have hkz : k * z + z ≤ m * z := by
      have := Nat.mul_le_mul_right z (show k + 1 ≤ m by omega)
      rw [Nat.add_mul] at this; omega
    obtain ⟨v, hrun, hvr⟩ := run_part (P := P) (e := e) (hrr k hkl) hz hg (by simp at hsz; omega)
    refine ⟨v, w, ?_, st.put ht (pur_ref hp) hvr⟩
    unfold execOp
    simp [Instr.index, asIntOf, run_underlying hT.u, hex, he, hkm, LdT.size (P := P) (t := e), hrun]

/-- a byte of a string -/
theorem R.ixS {x ix : Operand} {t : Nat} {s : List UInt8} {b : UInt8} {n : Int} {ty rt : TypeId} {pos : String} {aft : Array Edge} {g : Option (Nat × Bool)} [hT : StT P ty] (k : Nat)
    (hx : ev C.gl σ x = some (.str s)) (hi : evo C.gl σ (some ix) 0 = some n) (hk : n = (k : Int)) (h1 : s[k]? = some b) (ht : t < σ.n) :
    OpS P C ⟨some t, .index ty x ix, rt, pos, aft, g⟩ σ (σ.set t (.u8 b)) := by
  subst hk
  refine OpS.value fun a w ⟨ρ, Fe, Fb, st⟩ => ?_
  obtain ⟨F, hv, _⟩ := ev_ok st hx rfl
  simp only [VR, D.isAgg, Bool.false_eq_true, if_false] at hv
  generalize hex : a.eval x = v at hv
  cases hv
  obtain ⟨kk, he⟩ := int_ok st hi
  obtain ⟨hkl, rfl⟩ := List.getElem?_eq_some_iff.1 h1
  refine ⟨.int .u8 s[k].toNat, w, ?_, st.put ht rfl ?_⟩
  · unfold execOp
    have : (⟨s.toArray⟩ : ByteArray)[k]? = some s[k] := by
      have hsz : (ByteArray.mk s.toArray).size = s.length := by show s.toArray.size = _; simp
      rw [getElem?_pos _ _ (by rw [hsz]; exact hkl)]
      rfl
    simp [Instr.index, asIntOf, run_underlying hT.u, hex, he, this]
  · simp only [VR, D.isAgg, Bool.false_eq_true, if_false]; exact .u8 _

class FtT (P : Program) (s f : Nat) (ty off : outParam Nat) : Prop where
  i : ∃ fs fld, P.underlying s = some (.struct fs) ∧ fs[f]? = some fld ∧ fld.offset = off ∧ fld.type = ty

/-- a field of a struct -/
theorem R.fld {x : Operand} {t s f ty off z : Nat} {gg : Bool} {l : List D} {d : D} {rt : TypeId} {pos : String} {aft : Array Edge} {g : Option (Nat × Bool)} [hT : FtT P s f ty off] [hL : LdT P ty z gg]
    (hx : ev C.gl σ x = some (.agg l)) (h1 : l[f]? = some d) (ho : offk l f = off) (hp : d.pur = true) (hz : d.sz = z) (hg : d.isAgg = gg) (ht : t < σ.n) :
    OpS P C ⟨some t, .field s x f, rt, pos, aft, g⟩ σ (σ.set t d) := by
  refine OpS.value fun a w ⟨ρ, Fe, Fb, st⟩ => ?_
  obtain ⟨F, hv, _⟩ := ev_ok st hx rfl
  simp only [VR, D.isAgg, if_true] at hv
  obtain ⟨cs, hex, hv⟩ := hv
  obtain ⟨hkl, rfl⟩ := List.getElem?_eq_some_iff.1 h1
  obtain ⟨fs, fld, hu, hf, hfo, hft⟩ := hT.i
  cases hv with
  | agg _ _ Fs hsz hrr =>
    have hlo := offk_lt l f hkl
    have h2 := hrr f hkl
    rw [ho, hz] at h2
    have h3 := h2.pur hp
    rw [h3] at h2
    obtain ⟨v, hrun, hvr⟩ := run_part (P := P) (e := ty) h2 hz hg (by simp at hsz; omega)
    refine ⟨v, w, ?_, st.put ht (pur_ref hp) hvr⟩
    unfold execOp
    simp [Instr.field, run_underlying hu, hf, hex, asAgg, hfo, hft, hrun]

/-! ### a choice -/
theorem R.pick {c x y : Operand} {t : Nat} {d : D} {b : Bool} {rt : TypeId} {pos : String} {aft : Array Edge} {g : Option (Nat × Bool)}
    (hc : ev C.gl σ c = some (.bool b)) (hx : (bif b then ev C.gl σ x else ev C.gl σ y) = some d) (hp : d.pur = true) (ht : t < σ.n) :
    OpS P C ⟨some t, .pick c x y, rt, pos, aft, g⟩ σ (σ.set t d) := by
  refine OpS.value fun a w ⟨ρ, Fe, Fb, st⟩ => ?_
  obtain ⟨Fc, hvc, _⟩ := ev_ok st hc rfl
  simp only [VR, D.isAgg, Bool.false_eq_true, if_false] at hvc
  generalize hec : a.eval c = vc at hvc
  cases hvc
  cases b with
  | true =>
    simp only [cond_true] at hx
    obtain ⟨F, hv, _⟩ := ev_ok st hx (pur_ref hp)
    have hF := hv.pur hp
    subst hF
    refine ⟨a.eval x, w, ?_, st.put ht (pur_ref hp) hv⟩
    unfold execOp
    simp [hec, asBool]
  | false =>
    simp only [cond_false] at hx
    obtain ⟨F, hv, _⟩ := ev_ok st hx (pur_ref hp)
    have hF := hv.pur hp
    subst hF
    refine ⟨a.eval y, w, ?_, st.put ht (pur_ref hp) hv⟩
    unfold execOp
    simp [hec, asBool]
theorem R.pickT {c x y : Operand} {t : Nat} {d : D} {b : Bool} {rt : TypeId} {pos : String} {aft : Array Edge} {g : Option (Nat × Bool)}
    (hc : ev C.gl σ c = some (.bool b)) (hb : b = true) (hx : ev C.gl σ x = some d) (hp : d.pur = true) (ht : t < σ.n) :
    OpS P C ⟨some t, .pick c x y, rt, pos, aft, g⟩ σ (σ.set t d) := R.pick hc (by rw [hb]; exact hx) hp ht
theorem R.pickF {c x y : Operand} {t : Nat} {d : D} {b : Bool} {rt : TypeId} {pos : String} {aft : Array Edge} {g : Option (Nat × Bool)}
    (hc : ev C.gl σ c = some (.bool b)) (hb : b = false) (hx : ev C.gl σ y = some d) (hp : d.pur = true) (ht : t < σ.n) :
    OpS P C ⟨some t, .pick c x y, rt, pos, aft, g⟩ σ (σ.set t d) := R.pick hc (by rw [hb]; exact hx) hp ht

/-- reckoning, the outcome said otherwise -/
theorem R.binE {op : BinOp} {xt yt ty : TypeId} {x y : Operand} {t : Nat} {pos : String} {aft : Array Edge} {g : Option (Nat × Bool)} {dx dy d d' : D} {s : Prop}
    (hx : ev C.gl σ x = some dx) (hy : ev C.gl σ y = some dy) (ha : arith op dx dy = some (s, d')) (hs : s) (he : d' = d) (ht : t < σ.n) :
    OpS P C ⟨some t, .binOp op xt x y yt, ty, pos, aft, g⟩ σ (σ.set t d) := by subst he; exact R.bin hx hy ha hs ht
theorem R.convE {src dst ty : TypeId} {k k0 : IntKind} {x : Operand} {t : Nat} {pos : String} {aft : Array Edge} {g : Option (Nat × Bool)} {dx d d' : D} [h0 : IkT P src k0] [hT : IkT P dst k]
    (hx : ev C.gl σ x = some dx) (hc : convD k dx = some d') (he : d' = d) (ht : t < σ.n) : OpS P C ⟨some t, .convert src dst x, ty, pos, aft, g⟩ σ (σ.set t d) := by subst he; exact R.conv hx hc ht

theorem wr_eq {a c : Int} (h : a = c) (h0 : -9223372036854775808 ≤ c) (h1 : c < 9223372036854775808) : D.int (wr a) = D.int c := by
  subst h
  have : wr a = a := by unfold wr; rw [IntKind.wrap_i64]; omega
  rw [this]

/-! ### equality of arrays of bytes -/
class EqT (P : Program) (t : TypeId) : Prop where
  i : P.eqGuardType P.depth t = false

theorem run_eqItems_u8 {e : TypeId} [hk : IkT P e .u8] [hL : LdT P e 1 false] (w : World) (d : Nat) (xs ys : List UInt8) (n : Nat) (hx : xs.length = n) (hy : ys.length = n) (cx cy : Array Value)
    (h1 : cx.toList = xs.map (fun b => Value.int .u8 b.toNat)) (h2 : cy.toList = ys.map (fun b => Value.int .u8 b.toNat)) : ∀ (l : List Nat), (∀ i ∈ l, i < n) →
    (Op.eqItems (d + 1) e 1 cx cy l).run P w = .ok (l.all fun i => xs[i]? == ys[i]?) w := by
  intro l
  induction l with
  | nil => intro _; simp [Op.eqItems]
  | cons i l ih =>
    intro h
    have hi := h i (by simp)
    have hp : ∀ (cs : Array Value) (zs : List UInt8) (hz : zs.length = n), cs.toList = zs.map (fun b => Value.int .u8 b.toNat) → (part e cs (i * 1)).run P w = .ok (.int .u8 (zs[i]'(by omega)).toNat) w := by
      intro cs zs hz hc
      have hi' : i < cs.size := by
        have := congrArg List.length hc
        simp at this; omega
      have : cs[i] = .int .u8 (zs[i]'(by omega)).toNat := by
        have e1 : cs.toList[i]'(by simpa using hi') = (zs.map (fun b => Value.int .u8 b.toNat))[i]'(by simp; omega) := by simp only [hc]
        simpa using e1
      simp [part, LdT.agg (P := P) (t := e), hi', this]
    have e3 := hp cx xs hx h1
    have e4 := hp cy ys hy h2
    obtain ⟨k, hku⟩ : ∃ k, P.underlying e = some (.int k) := ⟨_, hk.u⟩
    have e5 := run_equalIn_int (P := P) w d e .u8 k (xs[i]'(by omega)).toNat (ys[i]'(by omega)).toNat hku
    have ex : xs[i]? = some (xs[i]'(by omega)) := List.getElem?_eq_getElem _
    have ey : ys[i]? = some (ys[i]'(by omega)) := List.getElem?_eq_getElem _
    have eb : ((((xs[i]'(by omega)).toNat : Int)) == (((ys[i]'(by omega)).toNat : Int))) = (xs[i]? == ys[i]?) := by
      rw [ex, ey, beq_u8]; rfl
    have ih' := ih (fun j hj => h j (List.mem_cons_of_mem _ hj))
    simp only [Op.eqItems, Sem.run_bind, e3, e4, e5, Result.andThen_ok, eb, List.all_cons]
    cases hb : (xs[i]? == ys[i]?) with
    | true => simpa using ih'
    | false => simp

theorem all_eq (n : Nat) (xs ys : List UInt8) (hx : xs.length = n) (hy : ys.length = n) : ((List.range n).all fun i => xs[i]? == ys[i]?) = (xs == ys) := by
  rw [Bool.eq_iff_iff]
  simp only [List.all_eq_true, List.mem_range, beq_iff_eq]
  constructor
  · intro h
    apply List.ext_getElem?
    intro i
    by_cases hi : i < n
    · exact h i hi
    · rw [List.getElem?_eq_none (by omega), List.getElem?_eq_none (by omega)]
  · rintro rfl i _; rfl

theorem arr_u8 {G L : Nat → Prop} {p : Bool} {n : Nat} {xs : List UInt8} {cs : List Value} {F : List Nat} (h : Rc w ρ G L p (.arr n 1 (xs.map .u8)) cs F) : xs.length = n ∧ cs = xs.map (fun b => Value.int .u8 b.toNat) := by
  cases h with
  | arr _ _ _ _ hl hs hr =>
    have hl' : xs.length = n := by simpa using hl
    refine ⟨hl', ?_⟩
    apply List.ext_getElem?
    intro i
    by_cases hi : i < n
    · have hic : i < cs.length := by omega
      have := hr i (by simp; omega)
      rw [Nat.mul_one, List.drop_eq_getElem_cons hic, List.take_succ_cons, List.take_zero] at this
      simp only [List.getElem_map] at this
      rw [List.getElem?_eq_getElem hic, List.getElem?_eq_getElem (by simp; omega)]
      generalize hc : [cs[i]] = c at this
      cases this
      simp at hc
      simp [hc]
    · rw [List.getElem?_eq_none (by omega), List.getElem?_eq_none (by simp; omega)]

theorem R.eqA {neg : Bool} {x y : Operand} {t e n : Nat} {xs ys : List UInt8} {xt yt ty : TypeId} {pos : String} {aft : Array Edge} {g : Option (Nat × Bool)} [hT : ArT P xt n e] [hk : IkT P e .u8] [hL : LdT P e 1 false] [hE : EqT P xt]
    (hx : ev C.gl σ x = some (.arr n 1 (xs.map .u8))) (hy : ev C.gl σ y = some (.arr n 1 (ys.map .u8))) (ht : t < σ.n) :
    OpS P C ⟨some t, .binOp (bif neg then .neq else .eql) xt x y yt, ty, pos, aft, g⟩ σ (σ.set t (.bool (bif neg then xs != ys else xs == ys))) := by
  refine OpS.value fun a w ⟨ρ, Fe, Fb, st⟩ => ?_
  obtain ⟨Fx, hvx, _⟩ := ev_ok st hx rfl
  obtain ⟨Fy, hvy, _⟩ := ev_ok st hy rfl
  simp only [VR, D.isAgg, if_true] at hvx hvy
  obtain ⟨cx, hex, hvx⟩ := hvx
  obtain ⟨cy, hey, hvy⟩ := hvy
  obtain ⟨hlx, hcx⟩ := arr_u8 hvx
  obtain ⟨hly, hcy⟩ := arr_u8 hvy
  obtain ⟨d, i, _, _, hi, hsz⟩ := hL.i
  have hce : P.cellsOf e = 1 := by simp [Program.cellsOf, hi, hsz]
  have heq : (Op.equalIn 10000 xt (.agg cx) (.agg cy)).run P w = .ok (xs == ys) w := by
    rw [show (10000 : Nat) = 9999 + 1 from rfl, run_equalIn_array w 9999 cx cy hT.u hi, hce, show (9999 : Nat) = 9998 + 1 from rfl,
      run_eqItems_u8 (P := P) w 9998 xs ys n hlx hly cx cy hcx hcy _ (fun i hi => List.mem_range.1 hi), all_eq n xs ys hlx hly]
  refine ⟨.bool (bif neg then xs != ys else xs == ys), w, ?_, st.put ht rfl ?_⟩
  · unfold execOp
    cases neg with
    | false => simp only [cond_false, hex, hey, Sem.run_bind, run_eqGuard_agg w .eql xt x y cx cy hE.i, run_eql_struct, heq, Result.andThen_ok, Sem.run_pure]
    | true => simp only [cond_true, hex, hey, Sem.run_bind, run_eqGuard_agg w .neq xt x y cx cy hE.i, run_neq_struct, heq, Result.andThen_ok, Sem.run_pure]; rfl
  · simp only [VR, D.isAgg, Bool.false_eq_true, if_false]; exact .bool _
end Go.Sx

namespace Go.Sx

variable {P : Program} {C : Ctx} {σ σ' σ1 : Sg} {a : Act} {w w' : World} {ρ : Nat → Nat} {Fe Fe' Fb : Nat → List Nat}

theorem splice_nest (cs xs : List Value) (off M p : Nat) (h1 : off + M ≤ cs.length) (h2 : p + xs.length ≤ M) :
    cs.take off ++ (((cs.drop off).take M).take p ++ xs ++ ((cs.drop off).take M).drop (p + xs.length)) ++ cs.drop (off + M) = cs.take (off + p) ++ xs ++ cs.drop (off + p + xs.length) := by
  have e1 : cs.take off ++ ((cs.drop off).take M).take p = cs.take (off + p) := by
    rw [List.take_take, Nat.min_eq_left (by omega), ← List.take_add]
  have e2 : ((cs.drop off).take M).drop (p + xs.length) ++ cs.drop (off + M) = cs.drop (off + p + xs.length) := by
    rw [List.drop_take, List.drop_drop]
    have := List.take_append_drop (M - (p + xs.length)) (cs.drop (off + (p + xs.length)))
    rw [List.drop_drop, show off + (p + xs.length) + (M - (p + xs.length)) = off + M by omega] at this
    rw [this, Nat.add_assoc]
  rw [← e1, ← e2]
  simp only [List.append_assoc]

/-- a copy into an array in a box -/
theorem R.cpA {s t e z bytes id off n lo m : Nat} {path : List Nat} {d0 d' : D} {l l' : List D} {x : Operand} {ty ty2 rt : TypeId} {pos : String} {aft : Array Edge} {g : Option (Nat × Bool)} [hT : SlT P ty e] [hE : ElT P e z bytes]
    (h : σ.get s = some (.va id off z n path lo)) (hb : σ.box id = some (.var d0)) (hl : d0.loc path = some (off, .arr m z l)) (hlo : lo + n ≤ m) (hx : SrcO C.gl σ x z l') (hnp : ∀ y ∈ l', y.np = true) (ht : t < σ.n)
    (hu : d0.upd path (.arr m z (l.take lo ++ l'.take (min l'.length n) ++ l.drop (lo + min l'.length n))) = some d') :
    OpS P C ⟨some t, .call { callee := .builtin .copy, args := #[.tmp s, x], argTypes := #[ty, ty2] }, rt, pos, aft, g⟩ σ ((σ.putB id (.var d')).set t (.int (min l'.length n : Nat))) := by
  refine OpS.value fun a w ⟨ρ, Fe, Fb, st⟩ => ?_
  obtain ⟨_, hid, cap, o', hcap, ho', hv⟩ := st.env _ _ h
  obtain ⟨cs, e', F', hb', hr, hFb⟩ := st.bx _ _ hb
  obtain ⟨base, cap2, hxe, hsr, hp⟩ := hx.ok st
  obtain ⟨_, news, q1, q2, q3, q4⟩ := src_ok hsr hp
  obtain ⟨Fa, h1, h2, h3⟩ := hr.loc hl
  have hFa := h1.pur rfl
  subst hFa
  have hnd : F'.Nodup := by have := st.nodB id; rw [hFb] at this; exact (List.nodup_cons.1 this).2
  generalize hk : min l'.length n = k at hu
  have hkn : k ≤ n := by omega
  have hkl : k ≤ l'.length := by omega
  have hkz : k * z ≤ l'.length * z := Nat.mul_le_mul_right z hkl
  have hxl : (news.take (k * z)).length = k * z := by simp; omega
  have hlm : lo * z + k * z ≤ m * z := by rw [← Nat.add_mul]; exact Nat.mul_le_mul_right z (by omega)
  cases h1 with
  | arr _ _ _ A hlm' hA hrA =>
  simp only [sz_arr] at h3 hA hrA
  -- the array behind
  have hrc : Rc w ρ (gd C Fe Fb) (fun id => (σ.box id).isSome) false (.arr m z (l.take lo ++ l'.take k ++ l.drop (lo + k)))
      (((cs.toList.drop off).take (m * z)).take (lo * z) ++ news.take (k * z) ++ ((cs.toList.drop off).take (m * z)).drop (lo * z + (news.take (k * z)).length)) [] := by
    have hp0 : lo * z + (news.take (k * z)).length ≤ ((cs.toList.drop off).take (m * z)).length := by rw [hxl, hA]; exact hlm
    refine .arr m z _ _ (by simp; omega) (by rw [splice_len _ _ _ hp0, hA]) (fun i hi => ?_)
    have hi' : i < m := by simp at hi; omega
    have hiz : i * z + z ≤ m * z := by
      have := Nat.mul_le_mul_right z (show i + 1 ≤ m by omega)
      rw [Nat.add_mul] at this; omega
    rcases Nat.lt_or_ge i lo with h5 | h5
    · have e1 : (l.take lo ++ l'.take k ++ l.drop (lo + k))[i] = l[i]'(by omega) := by
        rw [List.getElem_append_left (by simp; omega), List.getElem_append_left (by simp; omega), List.getElem_take]
      have h6 : (i + 1) * z ≤ lo * z := Nat.mul_le_mul_right z h5
      rw [Nat.add_mul] at h6
      rw [e1, splice_out _ _ _ _ _ hp0 (.inl (by omega))]
      exact hrA i (by omega)
    · rcases Nat.lt_or_ge i (lo + k) with h6 | h6
      · have e1 : (l.take lo ++ l'.take k ++ l.drop (lo + k))[i] = l'[i - lo]'(by omega) := by
          have h7 : (l.take lo).length = lo := by simp; omega
          rw [List.getElem_append_left (by simp; omega), List.getElem_append_right (by omega), List.getElem_take]
          simp only [h7]
        have h8 := part_right (((cs.toList.drop off).take (m * z)).take (lo * z)) (news.take (k * z)) (((cs.toList.drop off).take (m * z)).drop (lo * z + (news.take (k * z)).length)) (i - lo) lo k z (by rw [List.length_take, hA]; omega) hxl (by omega)
        rw [show lo + (i - lo) = i by omega, ← List.append_assoc] at h8
        rw [e1, h8]
        have h9 := part_left (news.take (k * z)) (news.drop (k * z)) (i - lo) k z hxl (by omega)
        rw [List.take_append_drop] at h9
        rw [← h9]
        exact q4 (i - lo) (by omega)
      · have e1 : (l.take lo ++ l'.take k ++ l.drop (lo + k))[i] = l[i]'(by omega) := by
          have h7 : (l.take lo ++ l'.take k).length = lo + k := by simp; omega
          rw [List.getElem_append_right (by omega), List.getElem_drop]
          simp only [h7, show lo + k + (i - (lo + k)) = i by omega]
        have h7 : (lo + k) * z ≤ i * z := Nat.mul_le_mul_right z h6
        rw [Nat.add_mul] at h7
        rw [e1, splice_out _ _ _ _ _ hp0 (.inr (by rw [hxl]; exact h7))]
        exact hrA i (by omega)
  obtain ⟨F2, g1, g2, g3, g4, g5⟩ := hr.upd hl hu (by simp) hrc hnd List.nodup_nil (by simp) (.inl rfl)
  have hsp : (((cs.toList.drop off).take (m * z)).take (lo * z) ++ news.take (k * z) ++ ((cs.toList.drop off).take (m * z)).drop (lo * z + (news.take (k * z)).length)).length = m * z := by
    rw [splice_len _ _ _ (by rw [hxl, hA]; exact hlm), hA]
  rw [hsp, splice_nest _ _ _ _ _ h3 (by rw [hxl]; exact hlm)] at g1
  have hnode : ρ id ∉ F2 := fun hm => by
    have := st.nodB id
    rw [hFb] at this
    exact (List.nodup_cons.1 this).1 ((g2 _ hm).resolve_right (by simp))
  have st2 := st.putB (x := .var d') (Fe' := Fe) (σ1 := σ) (F' := ρ id :: F2) (w' := w.setRow (ρ id) (cs.toList.take (off + lo * z) ++ news.take (k * z) ++ cs.toList.drop (off + lo * z + (news.take (k * z)).length)).toArray)
    hb rfl rfl (fun u d hd => .inl ⟨hd, rfl⟩) st.envN (fun u => .inl rfl) rfl rfl rfl (by simp) (fun b hbne => setRow_other w (ρ id) b _ hbne) (List.nodup_cons.2 ⟨hnode, g3⟩) (by simp)
    (fun b hbm => .inl (by
      rw [hFb]
      rcases List.mem_cons.1 hbm with rfl | hm
      · simp
      · exact List.mem_cons_of_mem _ ((g2 b hm).resolve_right (by simp))))
    ⟨_, e', F2, setRow_heap w (ρ id) cs _ e' (0, 0) hb', by
      simp only
      refine g1.mono (fun b hbb _ => setRow_other w (ρ id) b _ ?_) (fun b hbb _ => ⟨hbb.1, fun ho => hbb.2 ?_⟩) (fun i hi => ⟨hi, rfl⟩)
      · rintro rfl
        rcases hbb with hbb | hbb
        · exact hbb.2 (.inr ⟨id, by rw [hFb]; simp⟩)
        · exact hnode hbb
      · rcases ho with ⟨u, hu⟩ | ⟨i, hi⟩
        · exact .inl ⟨u, hu⟩
        · by_cases hid : i = id
          · subst hid
            rw [upd_same] at hi
            refine .inr ⟨i, ?_⟩
            rw [hFb]
            rcases List.mem_cons.1 hi with rfl | hm
            · simp
            · exact List.mem_cons_of_mem _ ((g2 b hm).resolve_right (by simp))
          · rw [upd_other hid] at hi; exact .inr ⟨i, hi⟩, rfl⟩
  refine ⟨.int .i64 (k : Nat), w.setRow (ρ id) (cs.toList.take (off + lo * z) ++ news.take (k * z) ++ cs.toList.drop (off + lo * z + (news.take (k * z)).length)).toArray, ?_, ?_⟩
  rotate_left
  · exact st2.put (t := t) (d := .int (k : Nat)) (v := .int .i64 (k : Nat)) (by simpa using ht) rfl (by simp only [VR, D.isAgg, Bool.false_eq_true, if_false]; exact .int _)
  · have hfc : (Builtin.firstCells z k (.slice base l'.length cap2)).run P w = .ok (news.take (k * z)).toArray w := by
      rcases q1 with ⟨rfl, rfl, rfl⟩ | ⟨ad, rfl, hn⟩
      · have : k = 0 := by simp at hkl; exact hkl
        subst this
        simp [Builtin.firstCells]
      · refine run_firstCells_some w z k ad l'.length cap2 _ hxl (fun j u hu => hn j u ?_)
        rw [List.getElem?_take] at hu
        split at hu
        · exact hu
        · cases hu
    have hst : (storeCells ⟨ρ id, o', none⟩ (news.take (k * z)) 0).run P w = .ok () (w.setRow (ρ id) (cs.toList.take (off + lo * z) ++ news.take (k * z) ++ cs.toList.drop (off + lo * z + (news.take (k * z)).length)).toArray) := by
      rcases ho' with rfl | ⟨rfl, rfl⟩
      · have := run_storeCells_at P (ρ id) (off + lo * z) e' (news.take (k * z)) 0 cs w hb' (by
          rw [hxl]
          simp only [Array.length_toList] at h3
          omega) (fun u hu => q3 u (List.mem_of_mem_take hu))
        simpa using this
      · have hk0 : k = 0 := by omega
        subst hk0
        simp only [Nat.zero_mul, List.take_zero, List.append_nil, List.length_nil, Nat.add_zero, List.take_append_drop, Array.toArray_toList]
        rw [setRow_self w (ρ id) cs e' (0, 0) hb']
        rfl
    unfold execOp
    have hmin : Nat.min l'.length n = k := hk
    simp [resolve, invoke, builtin, Builtin.copy_, run_underlying hT.u, eval_tmp hv, hxe, Builtin.lenOf, ElT.size (P := P) (e := e), hmin, hfc, hst, goInt]

end Go.Sx

namespace Go.Sx

variable {P : Program} {C : Ctx} {σ σ' σ1 : Sg} {a : Act} {w w' : World} {ρ : Nat → Nat} {Fe Fe' Fb : Nat → List Nat}

/-! ### new arrays and structs -/
class BaT (P : Program) (t : TypeId) (n e z : outParam Nat) : Prop where
  i : ∃ it zv ie, P.underlying t = some (.array n e) ∧ P.info? t = some it ∧ it.zero = some zv ∧ P.info? e = some ie ∧ ie.size = z ∧ zv.cells.size = n * z

theorem R.bldA {t n e z : Nat} {ps : List (Nat × Operand)} {ds : List D} {ty rt : TypeId} {pos : String} {aft : Array Edge} {g : Option (Nat × Bool)} [hT : BaT P ty n e z]
    (hps : evs C.gl σ ps 0 = some ds) (hp : PurZ z ds) (hk : ds.length = n) (ht : t < σ.n) :
    OpS P C ⟨some t, .build ty ps.toArray, rt, pos, aft, g⟩ σ (σ.set t (.arr n z ds)) := by
  refine OpS.value fun a w ⟨ρ, Fe, Fb, st⟩ => ?_
  obtain ⟨it, zv, ie, h1, h2, h3, h4, h5, h6⟩ := hT.i
  subst hk
  obtain ⟨out, q1, q2, q3, q4⟩ := fill_run (w := w) (ρ := ρ) (z := z) (fun x d h hp => ev_cells st h hp) ps 0 ds zv.cells hps hp (by rw [h6]; simp)
  simp only [Nat.zero_add] at q4
  have hps2 : (ps.toArray.map fun x => (x.1, a.eval x.2)).toList = ps.map (fun p => (p.1, a.eval p.2)) := by simp
  have hpur : (D.arr ds.length z ds).pur = true := rfl
  refine ⟨.agg out, w, ?_, st.put ht rfl ?_⟩
  · have := run_build (P := P) w ty (ps.toArray.map fun x => (x.1, a.eval x.2)) out (by
      rw [hps2]
      simp only [Program.built, h1, h2, h3, h4, h5]
      exact q1)
    unfold execOp
    simp only [Sem.run_bind, this, Result.andThen_ok, Sem.run_pure]
  · simp only [VR, D.isAgg, if_true]
    exact ⟨out, rfl, .arr _ _ _ _ rfl (by simp [q2, h6]) q4⟩

/-- where the parts lie -/
def offl : List D → Nat → List (Nat × Nat)
  | [], _ => []
  | d :: r, o => (o, d.sz) :: offl r (o + d.sz)
theorem offl_get (l : List D) (o i : Nat) (h : i < l.length) : (offl l o)[i]? = some (o + offk l i, l[i].sz) := by
  induction l generalizing o i with
  | nil => simp at h
  | cons d r ih =>
    cases i with
    | zero => simp [offl, offk]
    | succ i =>
      simp only [offl, List.getElem?_cons_succ]
      rw [ih (o + d.sz) i (by simpa using h)]
      simp [offk_succ, Nat.add_assoc]

class BsT (P : Program) (t : TypeId) (l : outParam (List D)) : Prop where
  i : ∃ fs it zv, P.underlying t = some (.struct fs) ∧ P.info? t = some it ∧ it.zero = some zv ∧ fs.toList.mapM (fun f => (P.info? f.type).map fun i => (f.offset, i.size)) = some (offl l 0) ∧ chk (.agg l) zv.cells.toList = true

def evsS (gl : List (Nat × D)) (σ : Sg) : List (Nat × Operand) → List D → Option (List D)
  | [], l => some l
  | (i, x) :: r, l => match ev gl σ x with
    | some d => evsS gl σ r (l.set i d)
    | none => none
def PurS (gl : List (Nat × D)) (σ : Sg) (l : List D) : List (Nat × Operand) → Prop
  | [] => True
  | (i, x) :: r => (∃ d, ev gl σ x = some d ∧ d.pur = true ∧ d.np = true ∧ (l[i]?).map D.sz = some d.sz) ∧ PurS gl σ l r

theorem fill_struct {G L : Nat → Prop} {gl : List (Nat × D)} {l0 : List D} (hv : ∀ x d, ev gl σ x = some d → d.pur = true → ∃ cs : List Value, (a.eval x).cells.toList = cs ∧ Rc w ρ G L true d cs []) :
    ∀ (ps : List (Nat × Operand)) (l l' : List D) (cs : Array Value), evsS gl σ ps l = some l' → PurS gl σ l0 ps → l.map D.sz = l0.map D.sz → Rc w ρ G L false (.agg l) cs.toList [] →
      ∃ out : Array Value, Instr.fill ((offl l0 0).toArray[·]?) cs (ps.map (fun p => (p.1, a.eval p.2))) = some out ∧ Rc w ρ G L false (.agg l') out.toList [] := by
  intro ps
  induction ps with
  | nil => intro l l' cs h _ _ hr; simp only [evsS, Option.some.injEq] at h; subst h; exact ⟨cs, rfl, hr⟩
  | cons p ps ih =>
    intro l l' cs h hp hz hr
    obtain ⟨i, x⟩ := p
    obtain ⟨⟨d, hx, p1, p2, p3⟩, p4⟩ := hp
    simp only [evsS, hx] at h
    obtain ⟨xc, hxc, hrc⟩ := hv x d hx p1
    have hlen := hrc.len
    cases hl0 : l0[i]? with
    | none => rw [hl0] at p3; cases p3
    | some d0 =>
      obtain ⟨hi, rfl⟩ := List.getElem?_eq_some_iff.1 hl0
      rw [hl0] at p3
      simp only [Option.map_some, Option.some.injEq] at p3
      have hll : l.length = l0.length := by have := congrArg List.length hz; simpa using this
      have hi2 : i < l.length := by omega
      have hsi : l[i].sz = d.sz := by
        have : (l.map D.sz)[i]'(by simpa using hi2) = (l0.map D.sz)[i]'(by simpa using hi) := by simp only [hz]
        simp at this
        omega
      have hoff : offk l i = offk l0 i := by
        have hs : ∀ (u v : List D), u.map D.sz = v.map D.sz → D.szs u = D.szs v := by
          intro u
          induction u with
          | nil => intro v hv; cases v <;> simp_all
          | cons a u ihu => intro v hv; cases v with
            | nil => simp at hv
            | cons b v => simp at hv; simp [hv.1, ihu v hv.2]
        unfold offk
        exact hs _ _ (by rw [List.map_take, List.map_take, hz])
      have hlo := offk_lt l i hi2
      have hcl := hr.len
      simp only [sz_agg, Array.length_toList] at hcl
      have hloc : (D.agg l).loc [i] = some (offk l i, l[i]) := by simp [D.loc, List.getElem?_eq_getElem hi2]
      have hupd : (D.agg l).upd [i] d = some (.agg (l.set i d)) := by simp [D.upd, List.getElem?_eq_getElem hi2]
      obtain ⟨F2, g1, g2, _⟩ := hr.upd hloc hupd hsi.symm (hrc.unflag p2) List.nodup_nil List.nodup_nil (by simp) (.inl rfl)
      have hF2 : F2 = [] := by
        cases F2 with
        | nil => rfl
        | cons b r => have := g2 b (by simp); simp at this
      subst hF2
      have hfold := foldl_set cs xc (offk l i) 0 (by omega)
      simp only [Nat.add_zero] at hfold
      have hcs2 : ((a.eval x).cells.zipIdx.foldl (fun (c : Array Value) (p : Value × Nat) => c.setIfInBounds (offk l i + p.2) p.1) cs).toList = cs.toList.take (offk l i) ++ xc ++ cs.toList.drop (offk l i + xc.length) := by
        rw [← hfold, ← hxc, ← Array.foldl_toList]
        simp
      rw [← hcs2] at g1
      obtain ⟨out, q1, q2⟩ := ih (l.set i d) l' _ h p4 (by
        rw [List.map_set, ← hsi]
        rw [← hz]
        apply List.ext_getElem?
        intro j
        rw [List.getElem?_set]
        split
        · rename_i hij
          subst hij
          simp [hi2]
        · rfl) g1
      refine ⟨out, ?_, q2⟩
      simp only [List.map_cons, Instr.fill]
      have hpl : (offl l0 0).toArray[i]? = some (offk l i, d.sz) := by
        rw [List.getElem?_toArray, offl_get l0 0 i hi, hoff, Nat.zero_add, ← p3]
      have hsz : (a.eval x).cells.size = d.sz := by rw [← Array.length_toList, hxc, hlen]
      simp only [hpl, hsz]
      rw [if_neg (by simp; omega)]
      exact q1

theorem R.bldS {t : Nat} {ps : List (Nat × Operand)} {l l' : List D} {ty rt : TypeId} {pos : String} {aft : Array Edge} {g : Option (Nat × Bool)} [hT : BsT P ty l]
    (hps : evsS C.gl σ ps l = some l') (hp : PurS C.gl σ l ps) (ht : t < σ.n) :
    OpS P C ⟨some t, .build ty ps.toArray, rt, pos, aft, g⟩ σ (σ.set t (.agg l')) := by
  refine OpS.value fun a w ⟨ρ, Fe, Fb, st⟩ => ?_
  obtain ⟨fs, it, zv, h1, h2, h3, h4, h5⟩ := hT.i
  obtain ⟨out, q1, q2⟩ := fill_struct (w := w) (ρ := ρ) (l0 := l) (fun x d h hp => ev_cells st h hp) ps l l' zv.cells hps hp rfl (chk_ok _ _ _ _ _ _ h5)
  have hps2 : (ps.toArray.map fun x => (x.1, a.eval x.2)).toList = ps.map (fun p => (p.1, a.eval p.2)) := by simp
  refine ⟨.agg out, w, ?_, st.put ht rfl ?_⟩
  · have := run_build (P := P) w ty (ps.toArray.map fun x => (x.1, a.eval x.2)) out (by
      rw [hps2]
      simp only [Program.built, h1, h2, h3, h4]
      exact q1)
    unfold execOp
    simp only [Sem.run_bind, this, Result.andThen_ok, Sem.run_pure]
  · simp only [VR, D.isAgg, if_true]
    exact ⟨out, rfl, q2.flag⟩

/-! ### a slice of its own that is only read from now on -/
theorem Rc.ro {G L : Nat → Prop} {p : Bool} {e z : Nat} {l : List D} {v : Value} {F : List Nat} (h : Rc w ρ G L p (.sl (some e) z l) [v] F) (hp : ∀ y ∈ l, y.pur = true) {G' : Nat → Prop} (hG : ∀ b, G b → b < w.heap.size → G' b) (hF : ∀ b ∈ F, G' b)
    (w' : World) (hh : ∀ b, (G b ∨ b ∈ F) → b < w.heap.size → (w'.heap[b]? = w.heap[b]? ∨ ∃ cs e fz fz', w.heap[b]? = some (.cells cs e fz) ∧ w'.heap[b]? = some (.cells cs e fz') ∧ b ∈ F))
    (hGF : ∀ b, G b → b ∉ F) : Rc w' ρ G' L p (.sl none z l) [v] [] := by
  generalize hv : [v] = cv at h
  cases h with
  | slN => exact .slN none z
  | slE _ _ a0 => cases hv; exact .slE none z a0
  | slO b cs e cap z l Fs hb hc hm hs hr =>
    have hbl : b < w.heap.size := (Array.getElem?_eq_some_iff.1 hb).1
    have hw : ∃ fz', w'.heap[b]? = some (.cells cs e fz') := by
      rcases hh b (.inr (by simp)) hbl with h1 | ⟨cs', e', fz, fz', h1, h2, _⟩
      · exact ⟨_, h1.trans hb⟩
      · rw [hb] at h1; cases h1; exact ⟨fz', h2⟩
    obtain ⟨fz', hw⟩ := hw
    refine .slI b 0 cs e fz' cap z l hw (hF b (by simp)) hc (by have := Nat.mul_le_mul_right z hc; omega) (fun i hi => ?_)
    have h1 := hr i hi
    have h2 := h1.pur (hp _ (List.getElem_mem hi))
    rw [h2] at h1
    rw [Nat.zero_add]
    refine h1.mono (fun b' hb' hl => ?_) (fun b' hb' hl => hG b' hb' hl) (fun id hid => ⟨hid, rfl⟩)
    rcases hb' with hb' | hb'
    · rcases hh b' (.inl hb') hl with h3 | ⟨_, _, _, _, _, _, h3⟩
      · exact h3
      · exact absurd h3 (hGF b' hb')
    · cases hb'

/-- '[]byte("abc")': the slice, of which it is marked that it is a text's -/
theorem R.cvF {s t e z bytes : Nat} {l : List D} {ty rt : TypeId} {pos : String} {aft : Array Edge} {g : Option (Nat × Bool)} [hT : SlT P ty e] [hE : ElT P e z bytes] [hk : IkT P e .u8]
    (hs : σ.get s = some (.sl (some e) z l)) (hl : l ≠ []) (hp : ∀ y ∈ l, y.pur = true) (ht : t < σ.n) (hst : s ≠ t) :
    OpS P C ⟨some t, .convert ty ty (.tmp s), rt, pos, aft, g⟩ σ ((σ.kill s).set t (.sl none z l)) := by
  refine OpS.value fun a w ⟨ρ, Fe, Fb, st⟩ => ?_
  obtain ⟨v, hv, hr⟩ := (SR_plain rfl).1 (st.env _ _ hs)
  simp only [VR, D.isAgg, Bool.false_eq_true, if_false] at hr
  have hr0 := hr
  have hFs := st.nodE s
  generalize hFe : Fe s = F at hr hFs
  generalize hcv : [v] = cv at hr
  cases hr with
  | slN => exact absurd rfl hl
  | slE => exact absurd rfl hl
  | slO b cs e cap z l Fs hb hc hm hsz hrr =>
    cases hcv
    have hbl : b < w.heap.size := (Array.getElem?_eq_some_iff.1 hb).1
    let w' : World := w.freeze ⟨b, cs.size, none⟩ 1
    have hw'b : w'.heap[b]? = some (.cells cs e (cs.size, cs.size + 1)) := by
      show (w.heap.modify b _)[b]? = _
      rw [Array.getElem?_modify]
      simp only [if_true]
      rw [hb]
      simp
    have hw'o : ∀ k, k ≠ b → w'.heap[k]? = w.heap[k]? := by
      intro k hkb
      show (w.heap.modify b _)[k]? = _
      rw [Array.getElem?_modify, if_neg (fun e => hkb e.symm)]
    have hsize : w'.heap.size = w.heap.size := by show (w.heap.modify b _).size = _; simp
    have hbF : b ∈ Fe s := by rw [hFe]; simp
    have hsrc : St C ((σ.kill s).set t (.sl none z l)) (a.put (some t) (.slice (some ⟨b, 0, none⟩) l.length cap)) w' := by
      have hh : ∀ k, k < w.heap.size → k ∉ Fe s → w'.heap[k]? = w.heap[k]? := fun k _ hk => hw'o k (fun e => hk (by rw [e]; exact hbF))
      refine ⟨ρ, _, Fb, st.take (F := []) ht hst hs rfl rfl rfl (by rw [hsize]; exact Nat.le_refl _) hh List.nodup_nil (by simp) ((SR_plain rfl).2 ⟨.slice (some ⟨b, 0, none⟩) l.length cap, by rw [put_get a t _ t (by rw [st.size]; exact ht)]; simp, ?_⟩)⟩
      simp only [VR, D.isAgg, Bool.false_eq_true, if_false]
      have hnot : ∀ k, own (upd (upd Fe s []) t []) Fb k → own Fe Fb k ∧ k ∉ Fe s := by
        rintro k (⟨u, hu⟩ | ⟨i, hi⟩)
        · by_cases hut : u = t
          · subst hut; simp at hu
          · rw [upd_other hut] at hu
            by_cases hus : u = s
            · subst hus; simp at hu
            · rw [upd_other hus] at hu; exact ⟨.inl ⟨u, hu⟩, fun h => st.dEE u s hus k hu h⟩
        · exact ⟨.inr ⟨i, hi⟩, fun h => st.dEB s i k h hi⟩
      refine hr0.ro hp (fun k hk _ => ⟨hk.1, fun ho => hk.2 (hnot k ho).1⟩) (fun k hk => ⟨st.okO k (.inl ⟨s, hk⟩), fun ho => (hnot k ho).2 hk⟩) w' (fun k hk hkl => ?_) (fun k hk hk' => hk.2 (.inl ⟨s, hk'⟩))
      by_cases hkb : k = b
      · subst hkb; exact .inr ⟨cs, e, _, _, hb, hw'b, hbF⟩
      · exact .inl (hw'o k hkb)
    refine ⟨_, w', ?_, hsrc⟩
    have hsh : w.shape? b = some (e, cs.size) := by unfold World.shape?; rw [hb]
    unfold execOp
    simp [eval_tmp hv, convert, run_underlying hT.u, run_underlying hk.u, markStringish, hsh]
    rfl
end Go.Sx

namespace Go.Sx

variable {P : Program} {C : Ctx} {σ σ' σ1 : Sg} {xt yt ty : TypeId} {x y : Operand} {t : Nat} {pos : String} {aft : Array Edge} {g : Option (Nat × Bool)}

theorem evc {gl : List (Nat × D)} {σ : Sg} {v : Value} {d : D} (h : ofV v = some d) : ev gl σ (.const v) = some d := h
theorem evt {gl : List (Nat × D)} {σ : Sg} {s : Nat} {d : D} (h : σ.get s = some d) : ev gl σ (.tmp s) = some d := h

theorem R.addN (m n : Nat) (hx : ev C.gl σ x = some (.int (m : Int))) (hy : ev C.gl σ y = some (.int (n : Int))) (h : m + n < 9223372036854775808) (ht : t < σ.n) :
    OpS P C ⟨some t, .binOp .add xt x y yt, ty, pos, aft, g⟩ σ (σ.set t (.int ((m + n : Nat) : Int))) :=
  R.binE hx hy rfl trivial (wr_eq (by omega) (by omega) (by omega)) ht
theorem R.subN (m n : Nat) (hx : ev C.gl σ x = some (.int (m : Int))) (hy : ev C.gl σ y = some (.int (n : Int))) (h : n ≤ m) (h2 : m < 9223372036854775808) (ht : t < σ.n) :
    OpS P C ⟨some t, .binOp .sub xt x y yt, ty, pos, aft, g⟩ σ (σ.set t (.int ((m - n : Nat) : Int))) :=
  R.binE hx hy rfl trivial (wr_eq (by omega) (by omega) (by omega)) ht
theorem R.mulN (m n : Nat) (hx : ev C.gl σ x = some (.int (m : Int))) (hy : ev C.gl σ y = some (.int (n : Int))) (h : m * n < 9223372036854775808) (ht : t < σ.n) :
    OpS P C ⟨some t, .binOp .mul xt x y yt, ty, pos, aft, g⟩ σ (σ.set t (.int ((m * n : Nat) : Int))) :=
  R.binE hx hy rfl trivial (wr_eq (by rw [Int.natCast_mul]) (by have : (0 : Int) ≤ ((m * n : Nat) : Int) := Int.natCast_nonneg _; omega) (by omega)) ht
theorem R.quoN (m n : Nat) (hx : ev C.gl σ x = some (.int (m : Int))) (hy : ev C.gl σ y = some (.int (n : Int))) (h : 0 < n) (h2 : m < 9223372036854775808) (ht : t < σ.n) :
    OpS P C ⟨some t, .binOp .quo xt x y yt, ty, pos, aft, g⟩ σ (σ.set t (.int ((m / n : Nat) : Int))) :=
  R.binE hx hy rfl (show (n : Int) ≠ 0 by omega) (wr_eq (by rw [Int.ofNat_tdiv]) (by have : (0 : Int) ≤ ((m / n : Nat) : Int) := Int.natCast_nonneg _; omega) (by have := Nat.div_le_self m n; omega)) ht
theorem R.remN (m n : Nat) (hx : ev C.gl σ x = some (.int (m : Int))) (hy : ev C.gl σ y = some (.int (n : Int))) (h : 0 < n) (ht : t < σ.n) :
    OpS P C ⟨some t, .binOp .rem xt x y yt, ty, pos, aft, g⟩ σ (σ.set t (.int ((m % n : Nat) : Int))) :=
  R.binE hx hy rfl (show (n : Int) ≠ 0 by omega) (congrArg D.int (by rw [Int.ofNat_tmod])) ht
theorem R.lssN (m n : Nat) (hx : ev C.gl σ x = some (.int (m : Int))) (hy : ev C.gl σ y = some (.int (n : Int))) (ht : t < σ.n) :
    OpS P C ⟨some t, .binOp .lss xt x y yt, ty, pos, aft, g⟩ σ (σ.set t (.bool (decide (m < n)))) := R.binE hx hy rfl trivial (congrArg D.bool (by rw [Bool.eq_iff_iff]; simp)) ht
theorem R.leqN (m n : Nat) (hx : ev C.gl σ x = some (.int (m : Int))) (hy : ev C.gl σ y = some (.int (n : Int))) (ht : t < σ.n) :
    OpS P C ⟨some t, .binOp .leq xt x y yt, ty, pos, aft, g⟩ σ (σ.set t (.bool (decide (m ≤ n)))) := R.binE hx hy rfl trivial (congrArg D.bool (by rw [Bool.eq_iff_iff]; simp)) ht
theorem R.gtrN (m n : Nat) (hx : ev C.gl σ x = some (.int (m : Int))) (hy : ev C.gl σ y = some (.int (n : Int))) (ht : t < σ.n) :
    OpS P C ⟨some t, .binOp .gtr xt x y yt, ty, pos, aft, g⟩ σ (σ.set t (.bool (decide (n < m)))) := R.binE hx hy rfl trivial (congrArg D.bool (by rw [Bool.eq_iff_iff]; simp)) ht
theorem R.geqN (m n : Nat) (hx : ev C.gl σ x = some (.int (m : Int))) (hy : ev C.gl σ y = some (.int (n : Int))) (ht : t < σ.n) :
    OpS P C ⟨some t, .binOp .geq xt x y yt, ty, pos, aft, g⟩ σ (σ.set t (.bool (decide (n ≤ m)))) := R.binE hx hy rfl trivial (congrArg D.bool (by rw [Bool.eq_iff_iff]; simp)) ht
theorem R.eqlN (m n : Nat) (hx : ev C.gl σ x = some (.int (m : Int))) (hy : ev C.gl σ y = some (.int (n : Int))) (ht : t < σ.n) :
    OpS P C ⟨some t, .binOp .eql xt x y yt, ty, pos, aft, g⟩ σ (σ.set t (.bool (decide (m = n)))) := R.binE hx hy rfl trivial (congrArg D.bool (by rw [Bool.eq_iff_iff]; simp; omega)) ht
theorem R.neqN (m n : Nat) (hx : ev C.gl σ x = some (.int (m : Int))) (hy : ev C.gl σ y = some (.int (n : Int))) (ht : t < σ.n) :
    OpS P C ⟨some t, .binOp .neq xt x y yt, ty, pos, aft, g⟩ σ (σ.set t (.bool (decide (m ≠ n)))) := R.binE hx hy rfl trivial (congrArg D.bool (by rw [Bool.eq_iff_iff]; simp; omega)) ht

theorem map_get! {α : Type} [Inhabited α] {f : α → D} {l : List α} {i : Nat} (h : i < l.length) : (l.map f)[i]? = some (f l[i]!) := by
  rw [List.getElem?_map, List.getElem?_eq_getElem h]
  simp [h]
theorem W.condD {Q : Exit → Sg → Prop} {x y : Code} {t : Nat} {p : Prop} [Decidable p] (ht : σ.get t = some (.bool (decide p))) (h1 : p → W P C x Q σ) (h2 : ¬ p → W P C y Q σ) : W P C (.cond (.tmp t) x y) Q σ :=
  W.cond ht (fun h => h1 (of_decide_eq_true h)) (fun h => h2 (of_decide_eq_false h))
theorem W.condT {Q : Exit → Sg → Prop} {x y : Code} {t : Nat} {b : Bool} (ht : σ.get t = some (.bool b)) (hb : b = true) (h1 : W P C x Q σ) : W P C (.cond (.tmp t) x y) Q σ :=
  W.cond ht (fun _ => h1) (fun h => by rw [hb] at h; cases h)
theorem W.condF {Q : Exit → Sg → Prop} {x y : Code} {t : Nat} {b : Bool} (ht : σ.get t = some (.bool b)) (hb : b = false) (h1 : W P C y Q σ) : W P C (.cond (.tmp t) x y) Q σ :=
  W.cond ht (fun h => by rw [hb] at h; cases h) (fun _ => h1)
/-- a meeting point -/
theorem W.seqM {Q : Exit → Sg → Prop} {x y : Code} (M : Sg → Prop) (h1 : W P C x (fun e s => match e with | .normal => M s | e => Q e s) σ) (h2 : ∀ s, M s → W P C y Q s) : W P C (.seq x y) Q σ :=
  W.seq (h1.mono (fun e s h => by cases e <;> first | exact h2 s h | exact h))
theorem Ends.one' {rv : ResultVar} {r r' : D} {e : Exit} {σ : Sg} (he : e = .normal ∨ e = .ret) (h : outS σ rv = some r') (hr : r' = r) (h1 : r.isRef = false) (h2 : r.np = true) (h3 : RtT P r rv) : Ends [rv] P r e σ := by
  subst hr; exact ⟨he, h, h1, h2, h3⟩

theorem evg {gl : List (Nat × D)} {gg : Nat} {d : D} (hC : C.gl = gl) (h : lk gl gg = some d) : ev C.gl σ (.global gg) = some (.rp d) := by
  rw [hC]; simp only [ev, h, Option.map_some]
theorem evoI {gl : List (Nat × D)} {n m : Int} (h : ev gl σ x = some (.int n)) : evo gl σ (some x) m = some n := by simp only [evo, h, D.cnt]
theorem evo8 {gl : List (Nat × D)} {n : UInt8} {m : Int} (h : ev gl σ x = some (.u8 n)) : evo gl σ (some x) m = some (n.toNat : Int) := by simp only [evo, h, D.cnt]
theorem evo16 {gl : List (Nat × D)} {n : UInt16} {m : Int} (h : ev gl σ x = some (.u16 n)) : evo gl σ (some x) m = some (n.toNat : Int) := by simp only [evo, h, D.cnt]
theorem evo32 {gl : List (Nat × D)} {n : UInt32} {m : Int} (h : ev gl σ x = some (.u32 n)) : evo gl σ (some x) m = some (n.toNat : Int) := by simp only [evo, h, D.cnt]
theorem evo64 {gl : List (Nat × D)} {n : UInt64} {m : Int} (h : ev gl σ x = some (.u64 n)) : evo gl σ (some x) m = some (n.toNat : Int) := by simp only [evo, h, D.cnt]

theorem brw_map {α : Type} {f : α → D} {l : List α} (h : ∀ x, (f x).brw = f x) : (l.map f).map D.brw = l.map f := by simp [Function.comp_def, h]
theorem frs_map {α : Type} {f : α → D} {l : List α} (h : ∀ x, Frs (f x)) : ∀ x ∈ l.map f, Frs x := by
  intro x hx
  obtain ⟨y, _, rfl⟩ := List.mem_map.1 hx
  exact h y
theorem pur_map {α : Type} {f : α → D} {l : List α} (h : ∀ x, (f x).pur = true) : ∀ x ∈ l.map f, x.pur = true := by
  intro x hx
  obtain ⟨y, _, rfl⟩ := List.mem_map.1 hx
  exact h y
theorem np_map {α : Type} {f : α → D} {l : List α} (h : ∀ x, (f x).np = true) : ∀ x ∈ l.map f, x.np = true := by
  intro x hx
  obtain ⟨y, _, rfl⟩ := List.mem_map.1 hx
  exact h y
theorem frs_nil : ∀ x ∈ ([] : List D), Frs x := fun _ h => by cases h
theorem frs_cons {d : D} {l : List D} (h : Frs d) (hl : ∀ x ∈ l, Frs x) : ∀ x ∈ d :: l, Frs x := fun x hx => by
  rcases List.mem_cons.1 hx with rfl | hx
  · exact h
  · exact hl x hx
theorem FrsR.one {r : D} (h : Frs r) : FrsR r := .inr ⟨fun ds e => (by rw [e] at h; cases h), h⟩
theorem R.callG {f : FuncId} [CaT P f] {gl : List (Nat × D)} {args : List Operand} {tys : Array TypeId} {rt : TypeId} {ds : List D} {r : D}
    (hC : C.gl = gl) (hF : Fn P gl f ds r) (hb : Bors C.gl σ args ds) (hr : FrsR r) (ht : t < σ.n) :
    OpS P C ⟨some t, .call { callee := .value (.func f), args := args.toArray, argTypes := tys }, rt, pos, aft, g⟩ σ (σ.set t r) := by
  subst hC; exact R.call hF hb hr ht
/-- no slice is an empty one -/
theorem W.asOwn {c : Code} {Q : Exit → Sg → Prop} {s : Nat} (e z : Nat) (h : σ.get s = some .nils) (k : W P C c Q (σ.upd s (.sl (some e) z []))) : W P C c Q σ := by
  intro a w ⟨ρ, Fe, Fb, st⟩
  refine k a w ⟨ρ, _, Fb, st.turn (F := []) h rfl rfl rfl (Nat.le_refl _) (fun _ _ _ => rfl) List.nodup_nil (by simp) ?_⟩
  obtain ⟨v, hv, hr⟩ := (SR_plain rfl).1 (st.env _ _ h)
  simp only [VR, D.isAgg, Bool.false_eq_true, if_false] at hr
  refine (SR_plain rfl).2 ⟨v, hv, ?_⟩
  simp only [VR, D.isAgg, Bool.false_eq_true, if_false]
  rw [hr.nil_val]
  exact .slN _ _

inductive Evs (gl : List (Nat × D)) (σ : Sg) : List (Nat × Operand) → Nat → List D → Prop
  | nil {k : Nat} : Evs gl σ [] k []
  | cons {k : Nat} {x : Operand} {d : D} {ps : List (Nat × Operand)} {ds : List D} (h : ev gl σ x = some d) (t : Evs gl σ ps (k + 1) ds) : Evs gl σ ((k, x) :: ps) k (d :: ds)
theorem Evs.ok {gl : List (Nat × D)} {ps : List (Nat × Operand)} {k : Nat} {ds : List D} (h : Evs gl σ ps k ds) : evs gl σ ps k = some ds := by
  induction h with
  | nil => rfl
  | cons h t ih => simp [evs, h, ih]
inductive EvS (gl : List (Nat × D)) (σ : Sg) : List (Nat × Operand) → List D → List D → Prop
  | nil {l l' : List D} (h : l = l') : EvS gl σ [] l l'
  | cons {i : Nat} {x : Operand} {d : D} {ps : List (Nat × Operand)} {l l' : List D} (h : ev gl σ x = some d) (t : EvS gl σ ps (l.set i d) l') : EvS gl σ ((i, x) :: ps) l l'
theorem EvS.ok {gl : List (Nat × D)} {ps : List (Nat × Operand)} {l l' : List D} (h : EvS gl σ ps l l') : evsS gl σ ps l = some l' := by
  induction h with
  | nil h => subst h; rfl
  | cons h t ih => simp [evsS, h, ih]
theorem R.bslE {t e z bytes k : Nat} {ps : List (Nat × Operand)} {ds : List D} {ty rt : TypeId} {pos : String} {aft : Array Edge} {g : Option (Nat × Bool)} [hT : SlT P ty e] [hE : ElT P e z bytes]
    (hps : Evs C.gl σ ps 0 ds) (hp : PurZ z ds) (hk : ds.length = k) (ht : t < σ.n) (hsm : k * z ≤ 16777216) :
    OpS P C ⟨some t, .buildSlice ty k ps.toArray, rt, pos, aft, g⟩ σ (σ.set t (.sl (some e) z ds)) := R.bsl hps.ok hp hk ht hsm
theorem R.bldAE {t n e z : Nat} {ps : List (Nat × Operand)} {ds : List D} {ty rt : TypeId} {pos : String} {aft : Array Edge} {g : Option (Nat × Bool)} [hT : BaT P ty n e z]
    (hps : Evs C.gl σ ps 0 ds) (hp : PurZ z ds) (hk : ds.length = n) (ht : t < σ.n) :
    OpS P C ⟨some t, .build ty ps.toArray, rt, pos, aft, g⟩ σ (σ.set t (.arr n z ds)) := R.bldA hps.ok hp hk ht
theorem R.bldSE {t : Nat} {ps : List (Nat × Operand)} {l l' : List D} {ty rt : TypeId} {pos : String} {aft : Array Edge} {g : Option (Nat × Bool)} [hT : BsT P ty l]
    (hps : EvS C.gl σ ps l l') (hp : PurS C.gl σ l ps) (ht : t < σ.n) :
    OpS P C ⟨some t, .build ty ps.toArray, rt, pos, aft, g⟩ σ (σ.set t (.agg l')) := R.bldS hps.ok hp ht

theorem R.lenE {s t z n : Nat} {l : List D} {ty e rt : TypeId} [hT : SlT P ty e] (h : SC σ s z l) (hl : l.length = n) (ht : t < σ.n) :
    OpS P C ⟨some t, .call { callee := .builtin .len, args := #[.tmp s], argTypes := #[ty] }, rt, pos, aft, g⟩ σ (σ.set t (.int ((n : Nat) : Int))) := by
  subst hl; exact R.len h ht

/-! ### places, by parts -/
theorem loc_nil {d : D} : d.loc [] = some (0, d) := by cases d <;> rfl
theorem loc_agg {l : List D} {k o o' m : Nat} {p : List Nat} {d d' : D} (h : l[k]? = some d) (hm : offk l k = m) (hp : d.loc p = some (o', d')) (ho : o = m + o') : (D.agg l).loc (k :: p) = some (o, d') := by
  subst ho; subst hm; simp only [D.loc, h, hp]
theorem loc_arr {n z : Nat} {l : List D} {k o o' : Nat} {p : List Nat} {d d' : D} (h : l[k]? = some d) (hp : d.loc p = some (o', d')) (ho : o = k * z + o') : (D.arr n z l).loc (k :: p) = some (o, d') := by
  subst ho; simp only [D.loc, h, hp]
theorem upd_nil {d x : D} : d.upd [] x = some x := by cases d <;> rfl
theorem upd_agg {l l' : List D} {k : Nat} {p : List Nat} {d d' x : D} (h : l[k]? = some d) (hp : d.upd p x = some d') (he : l.set k d' = l') : (D.agg l).upd (k :: p) x = some (.agg l') := by
  subst he; simp only [D.upd, h, hp]
theorem upd_arr {n z : Nat} {l l' : List D} {k : Nat} {p : List Nat} {d d' x : D} (h : l[k]? = some d) (hp : d.upd p x = some d') (he : l.set k d' = l') : (D.arr n z l).upd (k :: p) x = some (.arr n z l') := by
  subst he; simp only [D.upd, h, hp]
theorem set_map {α : Type} {f : α → D} {l : List α} {i : Nat} {v : α} : (l.map f).set i (f v) = (l.set i v).map f := (List.map_set ..).symm

theorem brw_arr {α : Type} {f : α → D} {l : List α} {n z : Nat} (h : ∀ x, (f x).brw = f x) : (D.arr n z (l.map f)).brw = .arr n z (l.map f) := by
  simp only [D.brw, brws_eq, brw_map h]
theorem brw_sl {α : Type} {f : α → D} {l : List α} {o : Option Nat} {z : Nat} (h : ∀ x, (f x).brw = f x) : (D.sl o z (l.map f)).brw = .sl none z (l.map f) := by
  simp only [D.brw, brws_eq, brw_map h]

/-- a pointer that is not nil -/
theorem R.nilc {d : D} {rt : TypeId} (hx : ev C.gl σ x = some (.rp d)) (ht : t < σ.n) : OpS P C ⟨some t, .nilCheck x, rt, pos, aft, g⟩ σ (σ.set t (.rp d)) := by
  refine OpS.value fun a w ⟨ρ, Fe, Fb, st⟩ => ?_
  obtain ⟨F, hv, _⟩ := ev_ok st hx rfl
  have hF := hv.pur rfl
  subst hF
  have hv0 := hv
  simp only [VR, D.isAgg, Bool.false_eq_true, if_false] at hv
  generalize hex : a.eval x = v at hv
  cases hv with
  | rp _ b off cs e fz hb hG hs hr =>
    refine ⟨a.eval x, w, ?_, st.put ht rfl hv0⟩
    unfold execOp
    simp [hex]
theorem R.nilcP {s id off : Nat} {path : List Nat} {rt : TypeId} (hx : σ.get s = some (.ptr id off path)) (ht : t < σ.n) : OpS P C ⟨some t, .nilCheck (.tmp s), rt, pos, aft, g⟩ σ (σ.set t (.ptr id off path)) := by
  refine OpS.value fun a w ⟨ρ, Fe, Fb, st⟩ => ?_
  obtain ⟨v, hv, hr⟩ := (SR_plain rfl).1 (st.env _ _ hx)
  have hr0 := hr
  have hF := hr.pur rfl
  simp only [VR, D.isAgg, Bool.false_eq_true, if_false] at hr
  generalize Fe s = F at hr
  cases hr with
  | ptr _ _ _ hL =>
    rw [hF] at hr0
    refine ⟨_, w, ?_, st.put ht rfl hr0⟩
    unfold execOp
    simp [eval_tmp hv]

/-- a part of an array behind a pointer -/
theorem R.slR {t e z bytes m : Nat} {l : List D} {lo hi : Option Operand} {i j : Int} {ty rt : TypeId} [hT : ArT P ty m e] [hE : ElT P e z bytes]
    (hx : ev C.gl σ x = some (.rp (.arr m z l))) (hl : evo C.gl σ lo 0 = some i) (hh : evo C.gl σ hi m = some j) (h0 : 0 ≤ i) (h1 : i ≤ j) (h2 : j ≤ m) (ht : t < σ.n) :
    OpS P C ⟨some t, .slice ty x lo hi none, rt, pos, aft, g⟩ σ (σ.set t (.sl none z ((l.drop i.toNat).take (j - i).toNat))) := by
  refine OpS.value fun a w ⟨ρ, Fe, Fb, st⟩ => ?_
  obtain ⟨F, hv, _⟩ := ev_ok st hx rfl
  have hF := hv.pur rfl
  subst hF
  simp only [VR, D.isAgg, Bool.false_eq_true, if_false] at hv
  generalize hex : a.eval x = vx at hv
  cases hv with
  | rp _ b off cs e' fz hb hG hs hr =>
    cases hr with
    | arr _ _ _ _ hlm hsz hrr =>
      simp only [sz_arr] at hs hsz hrr
      have hlen : ((l.drop i.toNat).take (j - i).toNat).length = (j - i).toNat := by simp; omega
      have e1 : j.toNat - i.toNat = (j - i).toNat := by omega
      have hbd := run_bounds (P := P) st (b := false) (len := m) (cap := m) hl hh h0 h1 h2 (Nat.le_refl _)
      refine ⟨.slice (some (if m = i.toNat then ⟨b, off, none⟩ else ⟨b, off + i.toNat * z, none⟩)) (j - i).toNat (m - i.toNat), w, ?_, st.put ht rfl ?_⟩
      · unfold execOp
        cases lo <;> cases hi <;> simp_all [Instr.sliceAt, Instr.sureAddr, run_underlying hT.u, ElT.size (P := P) (e := e), add_lit] <;> split <;> simp_all
      · simp only [VR, D.isAgg, Bool.false_eq_true, if_false]
        have hjz : ((j - i).toNat) * z + i.toNat * z ≤ m * z := by
          rw [← Nat.add_mul]; exact Nat.mul_le_mul_right z (by omega)
        by_cases hci : m = i.toNat
        · simp only [hci, if_true, Nat.sub_self]
          have h3 : (j - i).toNat = 0 := by omega
          have := Rc.slI (w := w) (ρ := ρ) (G := gd C Fe Fb) (L := fun id => (σ.box id).isSome) (p := true) b off cs e' fz 0 z [] hb hG (Nat.zero_le _) (by simp; omega) (fun k hk => by simp at hk)
          simpa [h3] using this
        · simp only [hci, if_false]
          have := Rc.slI (w := w) (ρ := ρ) (G := gd C Fe Fb) (L := fun id => (σ.box id).isSome) (p := true) b (off + i.toNat * z) cs e' fz (m - i.toNat) z ((l.drop i.toNat).take (j - i).toNat) hb hG (by rw [hlen]; omega)
            (by rw [hlen]; omega) (fun k hk => by
              rw [hlen] at hk
              simp only [List.getElem_take, List.getElem_drop]
              have h5 := hrr (i.toNat + k) (by omega)
              have h6 : (i.toNat + k) * z + z ≤ m * z := by
                have := Nat.mul_le_mul_right z (show i.toNat + k + 1 ≤ m by omega)
                rw [Nat.add_mul (i.toNat + k) 1 z] at this; omega
              rw [sub_sub _ _ _ _ _ h6, Nat.add_mul, ← Nat.add_assoc] at h5
              exact h5)
          rw [hlen] at this
          exact this
theorem view_get! {α : Type} [Inhabited α] {f : α → D} {l : List α} {lo n i : Nat} (h : lo + i < l.length) (hn : i < n) : (((l.map f).drop lo).take n)[i]? = some (f l[lo + i]!) := by
  rw [List.getElem?_take, if_pos hn, List.getElem?_drop]
  exact map_get! h

/-! ### parts of slices, the bounds as natural numbers -/
theorem R.slRN {t e z bytes m : Nat} {l l' : List D} {lo hi : Option Operand} {i j : Int} {ty rt : TypeId} [hT : ArT P ty m e] [hE : ElT P e z bytes] (a b n : Nat)
    (hx : ev C.gl σ x = some (.rp (.arr m z l))) (hl : evo C.gl σ lo 0 = some i) (hh : evo C.gl σ hi m = some j) (hi' : i = a) (hj : j = b) (h1 : a ≤ b) (h2 : b ≤ m) (hn : b - a = n) (he : (l.drop a).take n = l') (ht : t < σ.n) :
    OpS P C ⟨some t, .slice ty x lo hi none, rt, pos, aft, g⟩ σ (σ.set t (.sl none z l')) := by
  subst hi'; subst hj; subst he
  have := R.slR (P := P) (C := C) (e := e) (ty := ty) (pos := pos) (aft := aft) (g := g) (rt := rt) hx hl hh (by omega) (by omega) (by omega) ht
  have e1 : ((b : Int) - (a : Int)).toNat = n := by omega
  have e2 : ((a : Int)).toNat = a := rfl
  rw [e1, e2] at this
  exact this
theorem R.slIN {t e z bytes : Nat} {l l' : List D} {lo hi : Option Operand} {i j : Int} {ty rt : TypeId} [hT : SlT P ty e] [hE : ElT P e z bytes] (a b n : Nat)
    (hx : ev C.gl σ x = some (.sl none z l)) (hl : evo C.gl σ lo 0 = some i) (hh : evo C.gl σ hi l.length = some j) (hi' : i = a) (hj : j = b) (h1 : a ≤ b) (h2 : b ≤ l.length) (hn : b - a = n) (he : (l.drop a).take n = l') (ht : t < σ.n) :
    OpS P C ⟨some t, .slice ty x lo hi none, rt, pos, aft, g⟩ σ (σ.set t (.sl none z l')) := by
  subst hi'; subst hj; subst he
  have := R.slI (P := P) (C := C) (e := e) (ty := ty) (pos := pos) (aft := aft) (g := g) (rt := rt) hx hl hh (by omega) (by omega) (by omega) ht
  have e1 : ((b : Int) - (a : Int)).toNat = n := by omega
  have e2 : ((a : Int)).toNat = a := rfl
  rw [e1, e2] at this
  exact this
theorem R.slVN {s t e z bytes : Nat} {l : List D} {lo hi : Option Operand} {i j : Int} {ty rt : TypeId} [hT : SlT P ty e] [hE : ElT P e z bytes] (a b n : Nat)
    (hx : SC σ s z l) (hl : evo C.gl σ lo 0 = some i) (hh : evo C.gl σ hi l.length = some j) (hi' : i = a) (hj : j = b) (h1 : a ≤ b) (h2 : b ≤ l.length) (hn : b - a = n) (ht : t < σ.n) (hst : s ≠ t) :
    OpS P C ⟨some t, .slice ty (.tmp s) lo hi none, rt, pos, aft, g⟩ σ (σ.set t (.vw s z a n)) := by
  subst hi'; subst hj
  have := R.slV (P := P) (C := C) (e := e) (ty := ty) (pos := pos) (aft := aft) (g := g) (rt := rt) hx hl hh (by omega) (by omega) (by omega) ht hst
  have e1 : ((b : Int) - (a : Int)).toNat = n := by omega
  have e2 : ((a : Int)).toNat = a := rfl
  rw [e1, e2] at this
  exact this
theorem R.slAN {s t e z bytes m id off : Nat} {path : List Nat} {d0 : D} {l : List D} {lo hi : Option Operand} {i j : Int} {ty rt : TypeId} [hT : ArT P ty m e] [hE : ElT P e z bytes] (a b n : Nat)
    (hx : σ.get s = some (.ptr id off path)) (hb : σ.box id = some (.var d0)) (hloc : d0.loc path = some (off, .arr m z l)) (hl : evo C.gl σ lo 0 = some i) (hh : evo C.gl σ hi m = some j) (hi' : i = a) (hj : j = b) (h1 : a ≤ b) (h2 : b ≤ m) (hn : b - a = n) (ht : t < σ.n) :
    OpS P C ⟨some t, .slice ty (.tmp s) lo hi none, rt, pos, aft, g⟩ σ (σ.set t (.va id off z n path a)) := by
  subst hi'; subst hj
  have := R.slA (P := P) (C := C) (e := e) (ty := ty) (pos := pos) (aft := aft) (g := g) (rt := rt) hx hb hloc hl hh (by omega) (by omega) (by omega) ht
  have e1 : ((b : Int) - (a : Int)).toNat = n := by omega
  have e2 : ((a : Int)).toNat = a := rfl
  rw [e1, e2] at this
  exact this
theorem part_map {α : Type} {f : α → D} {l : List α} {a n : Nat} : ((l.map f).drop a).take n = ((l.drop a).take n).map f := by rw [List.map_take, List.map_drop]
theorem part_get! {α : Type} [Inhabited α] {f : α → D} {l : List α} {lo n i : Nat} (h : lo + i < l.length) (hn : i < n) : (((l.drop lo).take n).map f)[i]? = some (f l[lo + i]!) := by
  rw [← part_map]; exact view_get! h hn
theorem rest_map {α : Type} {f : α → D} {l : List α} {a : Nat} : ((l.map f).drop a).take (l.length - a) = (l.drop a).map f := by
  rw [← List.map_drop, List.take_of_length_le (by simp)]
theorem R.cpAE {s t e z bytes id off n lo m k : Nat} {path : List Nat} {d0 d' : D} {l l' l2 : List D} {ty ty2 rt : TypeId} [hT : SlT P ty e] [hE : ElT P e z bytes]
    (h : σ.get s = some (.va id off z n path lo)) (hb : σ.box id = some (.var d0)) (hl : d0.loc path = some (off, .arr m z l)) (hlo : lo + n ≤ m) (hx : SrcO C.gl σ x z l') (hnp : ∀ y ∈ l', y.np = true) (ht : t < σ.n)
    (hk : min l'.length n = k) (he : l.take lo ++ l'.take k ++ l.drop (lo + k) = l2) (hu : d0.upd path (.arr m z l2) = some d') :
    OpS P C ⟨some t, .call { callee := .builtin .copy, args := #[.tmp s, x], argTypes := #[ty, ty2] }, rt, pos, aft, g⟩ σ ((σ.putB id (.var d')).set t (.int ((k : Nat) : Int))) := by
  subst hk; subst he
  exact R.cpA h hb hl hlo hx hnp ht hu
theorem W.dropS {c : Code} {Q : Exit → Sg → Prop} {live : List Nat} {env' : List (Nat × D)} {bx' : List (Nat × Bx)} {n' : Nat} (hE : picks σ.get live = env') (hb : σ.bx = bx') (hn : σ.n = n') (h : W P C c Q ⟨n', env', bx'⟩) : W P C c Q σ := W.drop hE hb hn h
theorem brw_part {α : Type} {f : α → D} {l : List α} {a n : Nat} (h : ∀ x, (f x).brw = f x) : (((l.map f).drop a).take n).map D.brw = ((l.drop a).take n).map f := by
  rw [part_map, brw_map h]
theorem brw_all {α : Type} {f : α → D} {l : List α} {n : Nat} (h : ∀ x, (f x).brw = f x) (hn : l.length = n) : (((l.map f).drop 0).take n).map D.brw = l.map f := by
  rw [brw_part h, List.drop_zero, List.take_of_length_le (by omega)]
theorem R.stZ {p id off : Nat} {path : List Nat} {d0 d1 d' dx : D} {n rt : TypeId} {gg : Bool} [LdT P ty n gg]
    (h : σ.get p = some (.ptr id off path)) (hb : σ.box id = some (.var d0)) (hl : d0.loc path = some (off, d1)) (hx : ev C.gl σ x = some dx) (hp : dx.pur = true) (hnp : dx.np = true)
    (hn : dx.sz = n) (hz : d1.sz = n) (hu : d0.upd path dx = some d') :
    OpS P C ⟨none, .store ty (.tmp p) x, rt, pos, aft, g⟩ σ (σ.putB id (.var d')) := R.st h hb hl hx hp hnp hn (hn.trans hz.symm) hu
theorem R.stEZ {p s s0 e z i off : Nat} {path : List Nat} {l : List D} {d0 d1 d' dx : D} {n rt : TypeId} {gg : Bool} [LdT P ty n gg]
    (h : σ.get p = some (.ep s z i off path)) (ho : ownr σ s s0) (hs : σ.get s0 = some (.sl (some e) z l)) (hi : l[i]? = some d0) (hl : d0.loc path = some (off, d1))
    (hx : ev C.gl σ x = some dx) (hxp : dx.pur = true) (hxn : dx.np = true) (hz : dx.sz = n) (hz1 : d1.sz = n) (hu : d0.upd path dx = some d') :
    OpS P C ⟨none, .store ty (.tmp p) x, rt, pos, aft, g⟩ σ (σ.upd s0 (.sl (some e) z (l.set i d'))) := R.stE h ho hs hi hl hx hxp hxn hz (hz.trans hz1.symm) hu
theorem app_map {α β : Type} {f : α → β} {l l' : List α} : l.map f ++ l'.map f = (l ++ l').map f := List.map_append.symm
theorem app_one {α β : Type} {f : α → β} {l : List α} {v : α} : l.map f ++ [f v] = (l ++ [v]).map f := by simp
theorem R.appE {s s0 t e z bytes : Nat} {l l' l2 : List D} {ty rt : TypeId} [hT : SlT P ty e] [hE : ElT P e z bytes]
    (ho : ownr σ s s0) (hs : σ.get s0 = some (.sl (some e) z l)) (hx : SrcO C.gl σ x z l') (he : l ++ l' = l2) (hn : l.length + l'.length ≤ 1073741824) (ht : t < σ.n) (hst : s0 ≠ t) (hby : bytes ≤ 131072) :
    OpS P C ⟨some t, .call { callee := .builtin .append, args := #[.tmp s, x], argTypes := #[ty, ty] }, rt, pos, aft, g⟩ σ ((σ.kill s0).set t (.sl (some e) z l2)) := by
  subst he; exact R.app ho hs hx hn ht hst hby
theorem R.stEY {p s s0 e z i off : Nat} {path : List Nat} {l l2 : List D} {d0 d1 d' dx : D} {n rt : TypeId} {gg : Bool} [LdT P ty n gg]
    (h : σ.get p = some (.ep s z i off path)) (ho : ownr σ s s0) (hs : σ.get s0 = some (.sl (some e) z l)) (hi : l[i]? = some d0) (hl : d0.loc path = some (off, d1))
    (hx : ev C.gl σ x = some dx) (hxp : dx.pur = true) (hxn : dx.np = true) (hz : dx.sz = n) (hz1 : d1.sz = n) (hu : d0.upd path dx = some d') (he : l.set i d' = l2) :
    OpS P C ⟨none, .store ty (.tmp p) x, rt, pos, aft, g⟩ σ (σ.upd s0 (.sl (some e) z l2)) := by
  subst he; exact R.stEZ h ho hs hi hl hx hxp hxn hz hz1 hu
theorem gw {b v wt want : Bool} (h : b = v) (hw : wt = (v == want)) : wt = (b == want) := by subst h; exact hw
theorem pur_lit {l : List D} (h : D.purs l = true) : ∀ y ∈ l, y.pur = true := fun y hy => by
  obtain ⟨k, hk, rfl⟩ := List.mem_iff_getElem.1 hy
  exact purs_get l h k hk
theorem R.eqAE {x y : Operand} {t e n : Nat} {xs ys : List UInt8} {xt yt ty : TypeId} {pos : String} {aft : Array Edge} {g : Option (Nat × Bool)} [hT : ArT P xt n e] [hk : IkT P e .u8] [hL : LdT P e 1 false] [hE : EqT P xt]
    (hx : ev C.gl σ x = some (.arr n 1 (xs.map .u8))) (hy : ev C.gl σ y = some (.arr n 1 (ys.map .u8))) (ht : t < σ.n) :
    OpS P C ⟨some t, .binOp .eql xt x y yt, ty, pos, aft, g⟩ σ (σ.set t (.bool (xs == ys))) := R.eqA (neg := false) hx hy ht
theorem R.eqAX {x y : Operand} {t e n : Nat} {xs ys : List UInt8} {xt yt ty : TypeId} {pos : String} {aft : Array Edge} {g : Option (Nat × Bool)} [hT : ArT P xt n e] [hk : IkT P e .u8] [hL : LdT P e 1 false] [hE : EqT P xt]
    (hx : ev C.gl σ x = some (.arr n 1 (xs.map .u8))) (hy : ev C.gl σ y = some (.arr n 1 (ys.map .u8))) (ht : t < σ.n) :
    OpS P C ⟨some t, .binOp .neq xt x y yt, ty, pos, aft, g⟩ σ (σ.set t (.bool (xs != ys))) := R.eqA (neg := true) hx hy ht
end Go.Sx

namespace Go.Sx
variable {P : Program} {C : Ctx} {σ : Sg} {w : World} {ρ : Nat → Nat}

/-! ### boxes that nothing leads to any more -/
def memB (ids : List Nat) (i : Nat) : Bool := ids.any (Nat.beq i)
mutual
def D.okB (ids : List Nat) : D → Bool
  | .ptr id _ _ => memB ids id
  | .map id => memB ids id
  | .alb id _ _ => memB ids id
  | .va id _ _ _ _ _ => memB ids id
  | .agg l => D.okBs ids l
  | .fn _ l => D.okBs ids l
  | .tup l => D.okBs ids l
  | .ifc _ d => D.okB ids d
  | _ => true
def D.okBs (ids : List Nat) : List D → Bool
  | [] => true
  | d :: r => D.okB ids d && D.okBs ids r
end
theorem okBs_get {ids : List Nat} (l : List D) (h : D.okBs ids l = true) : ∀ k (hk : k < l.length), l[k].okB ids = true := by
  induction l with
  | nil => intro k hk; simp at hk
  | cons d r ih =>
    simp only [D.okBs, Bool.and_eq_true] at h
    intro k hk
    cases k with
    | zero => exact h.1
    | succ k => simpa using ih h.2 k (by simpa using hk)
theorem Rc.okB {ids : List Nat} {G L : Nat → Prop} {p : Bool} {d : D} {cs : List Value} {F : List Nat} (h : Rc w ρ G L p d cs F) (hd : d.okB ids = true) : Rc w ρ G (fun id => memB ids id = true ∧ L id) p d cs F := by
  induction h with
  | bool b => exact .bool b
  | int n => exact .int n
  | u8 x => exact .u8 x
  | u16 x => exact .u16 x
  | u32 x => exact .u32 x
  | u64 x => exact .u64 x
  | ik k n => exact .ik k n
  | str s => exact .str s
  | nils => exact .nils
  | slN o z => exact .slN o z
  | slE o z a => exact .slE o z a
  | slI b off cs e fz cap z l hb hG hc hs hr ih => exact .slI b off cs e fz cap z l hb hG hc hs (fun i hi => (hr i hi).noL)
  | slO b cs e cap z l Fs hb hc hm hs hr ih => exact .slO b cs e cap z l Fs hb hc hm hs (fun i hi => (hr i hi).noL)
  | agg l cs Fs hs hr ih => exact .agg l cs Fs hs (fun k hk => ih k hk (okBs_get l (by simpa [D.okB] using hd) k hk))
  | arr n z l cs hl hs hr ih => exact .arr n z l cs hl hs (fun i hi => (hr i hi).noL)
  | ptr id off path hid => exact .ptr id off path ⟨by simpa [D.okB] using hd, hid⟩
  | nilp => exact .nilp
  | rp d b off cs e fz hb hG hs hr ih => exact .rp d b off cs e fz hb hG hs hr.noL
  | map id hid => exact .map id ⟨by simpa [D.okB] using hd, hid⟩
  | nilmap => exact .nilmap
  | fn f caps vs hl ha hr ih => exact .fn f caps vs hl ha (fun k hk => ih k hk (okBs_get caps (by simpa [D.okB] using hd) k hk))
  | nilf => exact .nilf
  | yld l => exact .yld l
  | ifc t d v ha hr ih => exact .ifc t d v ha (ih (by simpa [D.okB] using hd))
  | nili => exact .nili
  | dead v h => exact .dead v h
theorem VR.okB {ids : List Nat} {G L : Nat → Prop} {d : D} {v : Value} {F : List Nat} (h : VR w ρ G L d v F) (hd : d.okB ids = true) : VR w ρ G (fun id => memB ids id = true ∧ L id) d v F := by
  unfold VR at *
  cases hg : d.isAgg <;> simp only [hg, if_true, if_false, Bool.false_eq_true] at h ⊢
  · exact h.okB hd
  · obtain ⟨cs, rfl, h⟩ := h; exact ⟨cs, rfl, h.okB hd⟩
theorem SR.okB {ids : List Nat} {G L G' L' : Nat → Prop} {a : Act} {t : Nat} {d : D} {F : List Nat} (h : SR w ρ G L a t d F) (hd : d.okB ids = true)
    (hg : ∀ b, G b → b < w.heap.size → G' b) (hL : ∀ id, (memB ids id = true ∧ L id) → L' id) : SR w ρ G' L' a t d F := by
  have key : ∀ (d : D) (v : Value) (F : List Nat), d.okB ids = true → VR w ρ G L d v F → VR w ρ G' L' d v F := fun d v F h1 h2 =>
    (h2.okB h1).mono (fun _ _ _ => rfl) hg (fun id hid => ⟨hL id hid, rfl⟩)
  cases d with
  | alb id off path => obtain ⟨h1, h2, h3⟩ := h; exact ⟨h1, hL _ ⟨by simpa [D.okB] using hd, h2⟩, h3⟩
  | va id off z n path lo => obtain ⟨h1, h2, h3⟩ := h; exact ⟨h1, hL _ ⟨by simpa [D.okB] using hd, h2⟩, h3⟩
  | tup ds =>
    obtain ⟨vs, Fs, h1, h2, h3, h4⟩ := h
    refine ⟨vs, Fs, h1, h2, h3, fun k hk => (h4 k hk).imp id fun ⟨h5, h6⟩ => ⟨h5, key _ _ _ (okBs_get ds (by simpa [D.okB] using hd) k hk) h6⟩⟩
  | al s => exact h
  | vw s z lo n => exact h
  | ep s z i off path => exact h
  | dead => exact h
  | _ => obtain ⟨v, h1, h2⟩ := h; exact ⟨v, h1, key _ _ _ hd h2⟩
def keepB (ids : List Nat) : List (Nat × Bx) → List (Nat × Bx)
  | [] => []
  | (k, b) :: r => bif memB ids k then (k, b) :: keepB ids r else keepB ids r
theorem lk_keepB (ids : List Nat) (l : List (Nat × Bx)) (u : Nat) : lk (keepB ids l) u = if memB ids u then lk l u else none := by
  induction l with
  | nil => simp [keepB, lk]
  | cons x r ih =>
    obtain ⟨k, d⟩ := x
    simp only [keepB, lk_cons]
    by_cases hk : memB ids k = true
    · simp only [hk, cond_true, lk_cons, ih]
      by_cases hku : k = u
      · subst hku; simp [hk]
      · simp [hku]
    · have hk' : memB ids k = false := by simpa using hk
      simp only [hk', cond_false, ih]
      by_cases hku : k = u
      · subst hku; simp [hk']
      · simp [hku]
def okEnvB (ids : List Nat) : List (Nat × D) → Bool
  | [] => true
  | (_, d) :: r => d.okB ids && okEnvB ids r
def okBx (ids : List Nat) : List (Nat × Bx) → Bool
  | [] => true
  | (_, .var d) :: r => d.okB ids && okBx ids r
  | (_, .mp _) :: _ => false
theorem okEnvB_get {ids : List Nat} {l : List (Nat × D)} (h : okEnvB ids l = true) {t : Nat} {d : D} (hd : lk l t = some d) : d.okB ids = true := by
  induction l with
  | nil => simp [lk] at hd
  | cons x r ih =>
    obtain ⟨k, e⟩ := x
    simp only [okEnvB, Bool.and_eq_true] at h
    rw [lk_cons] at hd
    by_cases hk : k = t
    · simp only [hk, if_true, Option.some.injEq] at hd; subst hd; exact h.1
    · simp only [hk, if_false] at hd; exact ih h.2 hd
theorem okBx_get {ids : List Nat} {l : List (Nat × Bx)} (h : okBx ids l = true) {t : Nat} {b : Bx} (hd : lk l t = some b) : ∃ d, b = .var d ∧ d.okB ids = true := by
  induction l with
  | nil => simp [lk] at hd
  | cons x r ih =>
    obtain ⟨k, e⟩ := x
    cases e with
    | mp => simp [okBx] at h
    | var e =>
      simp only [okBx, Bool.and_eq_true] at h
      rw [lk_cons] at hd
      by_cases hk : k = t
      · simp only [hk, if_true, Option.some.injEq] at hd; subst hd; exact ⟨e, rfl, h.1⟩
      · simp only [hk, if_false] at hd; exact ih h.2 hd
theorem W.dropB {c : Code} {Q : Exit → Sg → Prop} (ids : List Nat) {bx' : List (Nat × Bx)} (hb : keepB ids σ.bx = bx') (he : okEnvB ids σ.env = true) (hx : okBx ids bx' = true) (hpn : ∀ id b, C.pin id = some b → memB ids id = true) (h : W P C c Q ⟨σ.n, σ.env, bx'⟩) : W P C c Q σ := by
  intro a w ⟨ρ, Fe, Fb, st⟩
  refine h a w ?_
  have hl : ∀ u, lk bx' u = if memB ids u then σ.box u else none := fun u => by rw [← hb]; exact lk_keepB ids σ.bx u
  have hsub : ∀ id, ∀ b ∈ (if memB ids id then Fb id else []), b ∈ Fb id := fun id b hm => by split at hm; exact hm; cases hm
  have hown : ∀ b, own Fe (fun id => if memB ids id then Fb id else []) b → own Fe Fb b := fun b hb => hb.imp id fun ⟨i, hi⟩ => ⟨i, hsub i b hi⟩
  have hgd : ∀ b, gd C Fe Fb b → gd C Fe (fun id => if memB ids id then Fb id else []) b := fun b hb => ⟨hb.1, fun hc => hb.2 (hown b hc)⟩
  have hL : ∀ id, (memB ids id = true ∧ (σ.box id).isSome) → (lk bx' id).isSome := fun id ⟨h1, h2⟩ => by rw [hl, if_pos h1]; exact h2
  exact ⟨ρ, Fe, (fun id => if memB ids id then Fb id else []), {
    size := st.size
    defs := st.defs
    pin := fun id b hp => ⟨(st.pin id b hp).1, hL id ⟨hpn id b hp, (st.pin id b hp).2⟩⟩
    env := fun t d hd => (st.env t d hd).okB (okEnvB_get he hd) (fun b hb _ => hgd b hb) hL
    envN := st.envN
    bx := fun id b hd => by
      obtain ⟨d, rfl, hok⟩ := okBx_get hx hd
      have h1 := hl id
      by_cases hm : memB ids id = true
      · rw [if_pos hm] at h1
        have h2 : σ.box id = some (.var d) := by rw [← h1]; exact hd
        obtain ⟨cs, e, F', h3, h4, h5⟩ := st.bx id _ h2
        refine ⟨cs, e, F', h3, (h4.okB hok).mono (fun _ _ _ => rfl) (fun b hb _ => hgd b hb) (fun id hid => ⟨hL id hid, rfl⟩), by simp only [hm, if_true]; exact h5⟩
      · rw [if_neg hm] at h1
        rw [show lk bx' id = some (.var d) from hd] at h1
        cases h1
    bxN := fun id hn => by
      have h1 := hl id
      by_cases hm : memB ids id = true
      · rw [if_pos hm] at h1
        simp only [hm, if_true]
        exact st.bxN id (by rw [← h1]; exact hn)
      · simp [hm]
    nodE := st.nodE
    nodB := fun id => by show (if memB ids id then Fb id else []).Nodup; split; exact st.nodB id; exact List.nodup_nil
    dEE := st.dEE
    dEB := fun t id b hb hm => st.dEB t id b hb (hsub id b hm)
    dBB := fun id id' hne b hb hm => st.dBB id id' hne b (hsub id b hb) (hsub id' b hm)
    new := fun b hb => st.new b (hown b hb)
    kept := st.kept
    os := st.os
    tape := st.tape
    output := st.output
    grown := st.grown
    gl := st.gl
    okN := st.okN
    okO := fun b hb => st.okO b (hown b hb) }⟩
theorem pin_sub {C : Ctx} {pins ids : List Nat} (h : ∀ id b, C.pin id = some b → memN pins id = true) (hs : pins.all (memB ids) = true) : ∀ id b, C.pin id = some b → memB ids id = true := fun id b hp => by
  have h1 := h id b hp
  simp only [memN, List.any_eq_true] at h1
  obtain ⟨x, hx, he⟩ := h1
  have := List.all_eq_true.1 hs x hx
  rw [Nat.eq_of_beq_eq_true he]
  exact this
end Go.Sx

namespace Go.Sx

def kTab : List UInt32 := [0x428a2f98, 0x71374491, 0xb5c0fbcf, 0xe9b5dba5, 0x3956c25b, 0x59f111f1, 0x923f82a4, 0xab1c5ed5,
  0xd807aa98, 0x12835b01, 0x243185be, 0x550c7dc3, 0x72be5d74, 0x80deb1fe, 0x9bdc06a7, 0xc19bf174,
  0xe49b69c1, 0xefbe4786, 0x0fc19dc6, 0x240ca1cc, 0x2de92c6f, 0x4a7484aa, 0x5cb0a9dc, 0x76f988da,
  0x983e5152, 0xa831c66d, 0xb00327c8, 0xbf597fc7, 0xc6e00bf3, 0xd5a79147, 0x06ca6351, 0x14292967,
  0x27b70a85, 0x2e1b2138, 0x4d2c6dfc, 0x53380d13, 0x650a7354, 0x766a0abb, 0x81c2c92e, 0x92722c85,
  0xa2bfe8a1, 0xa81a664b, 0xc24b8b70, 0xc76c51a3, 0xd192e819, 0xd6990624, 0xf40e3585, 0x106aa070,
  0x19a4c116, 0x1e376c08, 0x2748774c, 0x34b0bcb5, 0x391c0cb3, 0x4ed8aa4a, 0x5b9cca4f, 0x682e6ff3,
  0x748f82ee, 0x78a5636f, 0x84c87814, 0x8cc70208, 0x90befffa, 0xa4506ceb, 0xbef9a3f7, 0xc67178f2]
def iv : List UInt32 := [0x6a09e667, 0xbb67ae85, 0x3c6ef372, 0xa54ff53a, 0x510e527f, 0x9b05688c, 0x1f83d9ab, 0x5be0cd19]

def bytesD (b : List UInt8) : D := .sl none 1 (b.map D.u8)
def hashD (b : List UInt8) : D := .arr 32 1 (b.map D.u8)

/-! ### sha -/
def rotl (x : UInt32) (k : Int) : UInt32 := shl_u32 x (UInt64.ofInt k &&& 31).toNat ||| shr_u32 x (32 - (UInt64.ofInt k &&& 31)).toNat
def right (x : UInt32) (n : Int) : UInt32 := rotl x (wr (0 - n))
/-- one word of a piece, byte by byte -/
def inW (p : List UInt8) (t : Nat) (w : List UInt32) : Nat → List UInt32
  | 0 => w
  | i + 1 => (inW p t w i).set t (shl_u32 (inW p t w i)[t]! 8 ||| (p[4 * t + i]!).toUInt32)
def nextW (w : List UInt32) (t : Nat) : UInt32 :=
  w[t - 16]! + w[t - 7]! + (right w[t - 15]! 7 ^^^ right w[t - 15]! 18 ^^^ shr_u32 w[t - 15]! 3) + (right w[t - 2]! 17 ^^^ right w[t - 2]! 19 ^^^ shr_u32 w[t - 2]! 10)
def sched (p : List UInt8) : Nat → List UInt32
  | 0 => List.replicate 64 0
  | t + 1 => if t < 16 then inW p t (sched p t) 4 else (sched p t).set t (nextW (sched p t) t)

structure W8 where
  a : UInt32
  b : UInt32
  c : UInt32
  d : UInt32
  e : UInt32
  f : UInt32
  g : UInt32
  l : UInt32
def W8.list (v : W8) : List UInt32 := [v.a, v.b, v.c, v.d, v.e, v.f, v.g, v.l]
def W8.of (h : List UInt32) : W8 := ⟨h[0]!, h[1]!, h[2]!, h[3]!, h[4]!, h[5]!, h[6]!, h[7]!⟩
def one (v : W8) (k w : UInt32) : UInt32 := v.l + (right v.e 6 ^^^ right v.e 11 ^^^ right v.e 25) + (v.g ^^^ (v.e &&& (v.f ^^^ v.g))) + k + w
def two (v : W8) : UInt32 := (right v.a 2 ^^^ right v.a 13 ^^^ right v.a 22) + (v.a &&& v.b ||| v.c &&& (v.a ||| v.b))
def rnd (v : W8) (k w : UInt32) : W8 := ⟨one v k w + two v, v.a, v.b, v.c, v.d + one v k w, v.e, v.f, v.g⟩
def rds (h w : List UInt32) : Nat → W8
  | 0 => W8.of h
  | t + 1 => rnd (rds h w t) kTab[t]! w[t]!
def addH (h l : List UInt32) : Nat → List UInt32
  | 0 => h
  | i + 1 => (addH h l i).set i ((addH h l i)[i]! + l[i]!)
def comp (h : List UInt32) (p : List UInt8) : List UInt32 := addH h (rds h (sched p 64) 64).list 8

structure ShaS where
  begun : Bool
  h : List UInt32
  piece : List UInt8
  n : UInt64
def stD (s : ShaS) : D := .agg [.bool s.begun, .arr 8 1 (s.h.map D.u32), .arr 64 1 (s.piece.map D.u8), .u64 s.n]
def ShaS.zero : ShaS := ⟨false, List.replicate 8 0, List.replicate 64 0, 0⟩
def ShaS.start : ShaS := ⟨true, iv, List.replicate 64 0, 0⟩
structure ShaS.ok (s : ShaS) : Prop where
  h : s.h.length = 8
  p : s.piece.length = 64
theorem ShaS.zero_ok : ShaS.zero.ok := ⟨by simp [ShaS.zero], by simp [ShaS.zero]⟩
theorem ShaS.start_ok : ShaS.start.ok := ⟨by simp [ShaS.start, iv], by simp [ShaS.start]⟩

theorem frs_st (s : ShaS) : Frs (stD s) := .agg _ (frs_cons (.bool _) (frs_cons (.arr _ _ _ (frs_map fun _ => .u32 _)) (frs_cons (.arr _ _ _ (frs_map fun _ => .u8 _)) (frs_cons (.u64 _) frs_nil))))
theorem frs_hash (b : List UInt8) : Frs (hashD b) := .arr _ _ _ (frs_map fun _ => .u8 _)

theorem inW_len (p : List UInt8) (t : Nat) (w : List UInt32) (i : Nat) : (inW p t w i).length = w.length := by
  induction i with
  | zero => rfl
  | succ i ih => simp [inW, ih]
theorem sched_len (p : List UInt8) (t : Nat) : (sched p t).length = 64 := by
  induction t with
  | zero => simp [sched]
  | succ t ih => simp only [sched]; split <;> simp [inW_len, ih]
theorem addH_len (h l : List UInt32) (i : Nat) : (addH h l i).length = h.length := by
  induction i with
  | zero => rfl
  | succ i ih => simp [addH, ih]
theorem comp_len (h : List UInt32) (p : List UInt8) : (comp h p).length = h.length := addH_len ..

/-! ### states -/
def mS (s : ShaS) : Nat := (s.n % 64).toNat
def kS (s : ShaS) (b : List UInt8) : Nat := min b.length (64 - mS s)
def pieceS (s : ShaS) (b : List UInt8) : List UInt8 := s.piece.take (mS s) ++ b.take (kS s b) ++ s.piece.drop (mS s + kS s b)
def nS (s : ShaS) (b : List UInt8) : UInt64 := s.n + UInt64.ofInt (kS s b : Nat)
def stepS (s : ShaS) (b : List UInt8) : ShaS := ⟨s.begun, bif nS s b % 64 == 0 then comp s.h (pieceS s b) else s.h, pieceS s b, nS s b⟩
theorem mS_lt (s : ShaS) : mS s < 64 := by
  unfold mS
  rw [UInt64.toNat_mod]
  exact Nat.mod_lt _ (by decide)
theorem kS_le (s : ShaS) (b : List UInt8) : kS s b ≤ b.length := Nat.min_le_left _ _
theorem kS_pos (s : ShaS) (b : List UInt8) (h : 0 < b.length) : 0 < kS s b := by have := mS_lt s; unfold kS; omega
theorem kS_room (s : ShaS) (b : List UInt8) : mS s + kS s b ≤ 64 := by have := mS_lt s; unfold kS; omega
def addW (s : ShaS) (b : List UInt8) : ShaS :=
  if h : b.length = 0 then s else addW (stepS s b) (b.drop (kS s b))
termination_by b.length
decreasing_by
  have := kS_pos s b (by omega)
  simp only [List.length_drop]; omega
theorem addW_nil (s : ShaS) (b : List UInt8) (h : b.length = 0) : addW s b = s := by rw [addW]; simp [h]
theorem addW_step (s : ShaS) (b : List UInt8) (h : b.length ≠ 0) : addW s b = addW (stepS s b) (b.drop (kS s b)) := by rw [addW]; simp [h]
def addS (s : ShaS) (b : List UInt8) : ShaS := addW (bif s.begun then s else ShaS.start) b
theorem pieceS_len (s : ShaS) (b : List UInt8) (h : s.ok) : (pieceS s b).length = 64 := by
  have h1 := kS_room s b
  have h2 := kS_le s b
  have h3 := h.p
  simp [pieceS]; omega
theorem stepS_ok (s : ShaS) (b : List UInt8) (h : s.ok) : (stepS s b).ok := by
  refine ⟨?_, pieceS_len s b h⟩
  simp only [stepS]
  cases (nS s b % 64 == 0) with
  | true => simp only [cond_true, comp_len]; exact h.h
  | false => exact h.h
theorem addW_ok (s : ShaS) (b : List UInt8) (h : s.ok) : (addW s b).ok := by
  induction hn : b.length using Nat.strongRecOn generalizing s b with
  | _ n ih =>
    by_cases h0 : b.length = 0
    · rw [addW_nil _ _ h0]; exact h
    · rw [addW_step _ _ h0]
      have := kS_pos s b (by omega)
      exact ih _ (by simp; omega) _ _ (stepS_ok s b h) rfl
theorem addS_ok (s : ShaS) (b : List UInt8) (h : s.ok) : (addS s b).ok := by
  unfold addS
  cases s.begun with
  | true => exact addW_ok _ _ h
  | false => exact addW_ok _ _ ShaS.start_ok

/-- how many noughts are to come -/
def padN (s : ShaS) : Nat := (120 - mS s) % 64
def padS : Nat → ShaS → ShaS
  | 0, s => s
  | k + 1, s => padS k (addS s [0])
theorem padS_ok (k : Nat) (s : ShaS) (h : s.ok) : (padS k s).ok := by
  induction k generalizing s with
  | zero => exact h
  | succ k ih => exact ih _ (addS_ok s _ h)
def longB (n : UInt64) : Nat → List UInt8
  | 0 => List.replicate 8 0
  | i + 1 => (longB n i).set i (shr_u64 n (56 - 8 * i)).toUInt8
theorem longB_len (n : UInt64) (i : Nat) : (longB n i).length = 8 := by
  induction i with
  | zero => simp [longB]
  | succ i ih => simp [longB, ih]
def outB (h : List UInt32) : Nat → List UInt8
  | 0 => List.replicate 32 0
  | i + 1 => (outB h i).set i (shr_u32 h[i / 4]! (24 - 8 * (i % 4))).toUInt8
theorem outB_len (h : List UInt32) (i : Nat) : (outB h i).length = 32 := by
  induction i with
  | zero => simp [outB]
  | succ i ih => simp [outB, ih]
def pad1 (s : ShaS) : ShaS := addS s [128]
def pad2 (s : ShaS) : ShaS := padS (padN (pad1 s)) (pad1 s)
def pad3 (s : ShaS) : ShaS := addS (pad2 s) (longB (s.n * 8) 8)
def endS (s : ShaS) : List UInt8 := outB (pad3 s).h 32
def sumS (b : List UInt8) : List UInt8 := endS (addS ShaS.start b)
def twiceS (b : List UInt8) : List UInt8 := sumS (sumS b)
theorem endS_len (s : ShaS) : (endS s).length = 32 := outB_len _ _
theorem sumS_len (b : List UInt8) : (sumS b).length = 32 := endS_len _

/-! ### how many bytes there were -/
theorem stepS_begun (s : ShaS) (b : List UInt8) : (stepS s b).begun = s.begun := rfl
theorem addW_begun (s : ShaS) (b : List UInt8) : (addW s b).begun = s.begun := by
  induction hn : b.length using Nat.strongRecOn generalizing s b with
  | _ n ih =>
    by_cases h0 : b.length = 0
    · rw [addW_nil _ _ h0]
    · rw [addW_step _ _ h0]
      have := kS_pos s b (by omega)
      rw [ih _ (by simp; omega) _ _ rfl, stepS_begun]
theorem addS_begun (s : ShaS) (b : List UInt8) : (addS s b).begun = true := by
  unfold addS
  rw [addW_begun]
  cases h : s.begun with
  | true => simpa using h
  | false => rfl
theorem addS_one (s : ShaS) (x : UInt8) (h : s.begun = true) : addS s [x] = stepS s [x] := by
  unfold addS
  have hk : kS s [x] = 1 := by have := mS_lt s; simp only [kS, List.length_singleton]; omega
  rw [h, cond_true, addW_step _ _ (by simp), addW_nil _ _ (by simp [hk])]
theorem mS_one (s : ShaS) (x : UInt8) (h : s.begun = true) : mS (addS s [x]) = (mS s + 1) % 64 := by
  rw [addS_one s x h]
  have hk : kS s [x] = 1 := by have := mS_lt s; simp only [kS, List.length_singleton]; omega
  have e : UInt64.ofInt ((1 : Nat) : Int) = 1 := rfl
  have e1 : (1 : UInt64).toNat = 1 := rfl
  have e2 : (64 : UInt64).toNat = 64 := rfl
  simp only [mS, stepS, nS, hk, e, UInt64.toNat_mod, UInt64.toNat_add, e1, e2]
  omega
theorem mS_ne {s : ShaS} (h : (s.n % 64 != 56) = true) : mS s ≠ 56 := by
  intro he
  have : s.n % 64 = 56 := UInt64.toNat_inj.1 he
  simp [this] at h
theorem mS_eq {s : ShaS} (h : (s.n % 64 != 56) = false) : mS s = 56 := by
  have : s.n % 64 = 56 := by simpa using h
  unfold mS; rw [this]; rfl
theorem pad_step (s : ShaS) (hb : s.begun = true) (h : mS s ≠ 56) : padS (padN s) s = padS (padN (addS s [0])) (addS s [0]) := by
  have h1 := mS_one s 0 hb
  have h2 := mS_lt s
  have : padN s = padN (addS s [0]) + 1 := by unfold padN; omega
  rw [this]; rfl
theorem pad_less (s : ShaS) (hb : s.begun = true) (h : mS s ≠ 56) : padN (addS s [0]) < padN s := by
  have h1 := mS_one s 0 hb
  have h2 := mS_lt s
  unfold padN; omega
theorem pad_end (s : ShaS) (h : mS s = 56) : padN s = 0 := by unfold padN; omega

/-! ### scantlingref01 -/
def rright (x : UInt32) (n : UInt64) : UInt32 := shr_u32 x n.toNat ||| shl_u32 x (32 - n).toNat
def w4 (p : List UInt8) (t : Nat) : UInt32 :=
  shl_u32 (p[4 * t]!).toUInt32 24 ||| shl_u32 (p[4 * t + 1]!).toUInt32 16 ||| shl_u32 (p[4 * t + 2]!).toUInt32 8 ||| (p[4 * t + 3]!).toUInt32
def nextR (w : List UInt32) (t : Nat) : UInt32 :=
  (rright w[t - 2]! 17 ^^^ rright w[t - 2]! 19 ^^^ shr_u32 w[t - 2]! 10) + w[t - 7]! + (rright w[t - 15]! 7 ^^^ rright w[t - 15]! 18 ^^^ shr_u32 w[t - 15]! 3) + w[t - 16]!
def wR (p : List UInt8) : Nat → List UInt32
  | 0 => []
  | t + 1 => wR p t ++ [if t < 16 then w4 p t else nextR (wR p t) t]
theorem wR_len (p : List UInt8) (t : Nat) : (wR p t).length = t := by
  induction t with
  | zero => rfl
  | succ t ih => simp [wR, ih]
def oneR (l : List UInt32) (k w : UInt32) : UInt32 :=
  l[7]! + (rright l[4]! 6 ^^^ rright l[4]! 11 ^^^ rright l[4]! 25) + (l[4]! &&& l[5]! ^^^ ~~~l[4]! &&& l[6]!) + k + w
def twoR (l : List UInt32) : UInt32 := (rright l[0]! 2 ^^^ rright l[0]! 13 ^^^ rright l[0]! 22) + (l[0]! &&& l[1]! ^^^ l[0]! &&& l[2]! ^^^ l[1]! &&& l[2]!)
def rndR (l : List UInt32) (k w : UInt32) : List UInt32 := [oneR l k w + twoR l, l[0]!, l[1]!, l[2]!, l[3]! + oneR l k w, l[4]!, l[5]!, l[6]!]
def rdsR (h w : List UInt32) : Nat → List UInt32
  | 0 => h
  | t + 1 => rndR (rdsR h w t) kTab[t]! w[t]!
theorem rdsR_len (h w : List UInt32) (t : Nat) (hh : h.length = 8) : (rdsR h w t).length = 8 := by
  cases t with
  | zero => exact hh
  | succ t => rfl
def compR (h : List UInt32) (p : List UInt8) : List UInt32 := addH h (rdsR h (wR p 64) 64) 8
theorem compR_len (h : List UInt32) (p : List UInt8) : (compR h p).length = h.length := addH_len ..
def zR (b : List UInt8) : Nat := (119 - b.length % 64) % 64
def tailR (n : UInt64) : Nat → List UInt8
  | 0 => []
  | j + 1 => tailR n j ++ [(shr_u64 n (UInt64.ofInt (wr (8 * (7 - ((j : Nat) : Int))))).toNat).toUInt8]
theorem tailR_len (n : UInt64) (t : Nat) : (tailR n t).length = t := by
  induction t with
  | zero => rfl
  | succ t ih => simp [tailR, ih]
def bitsR (b : List UInt8) : UInt64 := UInt64.ofInt (b.length : Nat) * 8
def textR (b : List UInt8) : List UInt8 := b ++ [128] ++ List.replicate (zR b) 0 ++ tailR (bitsR b) 8
theorem textR_len (b : List UInt8) : (textR b).length = b.length + 9 + zR b := by simp [textR, tailR_len]; omega
def pieces (b : List UInt8) : Nat := (b.length + 9 + zR b) / 64
theorem textR_pieces (b : List UInt8) : (textR b).length = 64 * pieces b := by rw [textR_len]; unfold pieces zR; omega
def hR (all : List UInt8) : Nat → List UInt32
  | 0 => iv
  | m + 1 => compR (hR all m) ((all.drop (64 * m)).take 64)
theorem hR_len (all : List UInt8) (m : Nat) : (hR all m).length = 8 := by
  induction m with
  | zero => rfl
  | succ m ih => simp only [hR, compR_len, ih]
def outR (h : List UInt32) : Nat → List UInt8
  | 0 => List.replicate 32 0
  | i + 1 => (outR h i).set i (shr_u32 h[i / 4]! (UInt64.ofInt ((24 - 8 * (i % 4) : Nat) : Int)).toNat).toUInt8
theorem outR_len (h : List UInt32) (i : Nat) : (outR h i).length = 32 := by
  induction i with
  | zero => simp [outR]
  | succ i ih => simp [outR, ih]
def sumR (b : List UInt8) : List UInt8 := outR (hR (textR b) (pieces b)) 32
def twiceR (b : List UInt8) : List UInt8 := sumR (sumR b)
theorem sumR_len (b : List UInt8) : (sumR b).length = 32 := outR_len _ _
end Go.Sx

namespace Go.Sx

variable {P : Program} {C : Ctx} {σ σ' σ1 : Sg} {a : Act} {w w' : World} {ρ : Nat → Nat} {Fe Fe' Fb : Nat → List Nat}

def mIdx {α : Type} (m : List (Int × α)) (k : Int) : Nat := m.findIdx (fun e => e.1 == k)
def mEnt {α : Type} (z : α) (m : List (Int × α)) (k : Int) : List (Int × α) := if mIdx m k < m.length then m else m ++ [(k, z)]
def mGet {α : Type} (z : α) (m : List (Int × α)) (k : Int) : α := ((m[mIdx m k]?).map (·.2)).getD z
def mpI {α : Type} (f : α → D) (m : List (Int × α)) : Bx := .mp (m.map fun e => (.int e.1, f e.2))

theorem mIdx_ent {α : Type} (z : α) (m : List (Int × α)) (k : Int) : mIdx m k < (mEnt z m k).length := by
  unfold mEnt
  split
  · assumption
  · have : mIdx m k ≤ m.length := List.findIdx_le_length
    simp; omega
theorem mEnt_at {α : Type} (z : α) (m : List (Int × α)) (k : Int) : (mEnt z m k)[mIdx m k]? = some (k, mGet z m k) := by
  have hle : mIdx m k ≤ m.length := List.findIdx_le_length
  unfold mEnt mGet
  split
  · rename_i h
    rw [List.getElem?_eq_getElem h]
    have hk : m[mIdx m k].1 = k := by
      have := List.findIdx_getElem (xs := m) (p := fun e : Int × α => e.1 == k) (w := h)
      exact eq_of_beq this
    have hk2 : m[mIdx m k] = (k, m[mIdx m k].2) := Prod.ext hk rfl
    simpa using hk2
  · have : mIdx m k = m.length := by omega
    rw [this]
    simp
/-- what an entry that is written reads as, and the others -/
theorem mGet_set {α : Type} (z : α) (m : List (Int × α)) (k : Int) (v : α) (k' : Int) : mGet z ((mEnt z m k).set (mIdx m k) (k, v)) k' = if k' = k then v else mGet z m k' := by
  have hent : mIdx m k < (mEnt z m k).length := mIdx_ent z m k
  have hle : mIdx m k ≤ m.length := List.findIdx_le_length
  -- the first place of a key in the new list
  induction m with
  | nil =>
    simp only [mEnt, mIdx, mGet, List.findIdx_nil, List.length_nil, Nat.lt_irrefl, if_false, List.nil_append, List.set_cons_zero, List.findIdx_cons]
    by_cases h : k' = k
    · simp [h]
    · have h' : (k == k') = false := by simpa using fun e => h e.symm
      simp [h, h']
  | cons e r ih =>
    have hr := ih (mIdx_ent z r k) List.findIdx_le_length
    by_cases he : e.1 = k
    · have h0 : mIdx (e :: r) k = 0 := by simp [mIdx, List.findIdx_cons, he]
      have h1 : mEnt z (e :: r) k = e :: r := by simp [mEnt, h0]
      rw [h0, h1, List.set_cons_zero]
      by_cases h : k' = k
      · subst h; simp [mGet, mIdx, List.findIdx_cons]
      · have h' : (k == k') = false := by simpa using fun e => h e.symm
        simp [mGet, mIdx, List.findIdx_cons, h, h', he]
    · have he' : (e.1 == k) = false := by simpa using he
      have h0 : mIdx (e :: r) k = mIdx r k + 1 := by simp [mIdx, List.findIdx_cons, he']
      have h1 : mEnt z (e :: r) k = e :: mEnt z r k := by
        simp only [mEnt, h0, List.length_cons, Nat.add_lt_add_iff_right]
        split <;> simp
      rw [h0, h1, List.set_cons_succ]
      by_cases hk : e.1 = k'
      · have hne : ¬ k' = k := fun h => he (hk.trans h)
        simp [mGet, mIdx, List.findIdx_cons, hk, hne]
      · have hk' : (e.1 == k') = false := by simpa using hk
        have e1 : ∀ l : List (Int × α), mGet z (e :: l) k' = mGet z l k' := fun l => by simp [mGet, mIdx, List.findIdx_cons, hk']
        rw [e1, e1]
        exact hr

theorem VR_int {G L : Nat → Prop} {n : Int} {v : Value} {F : List Nat} (h : VR w ρ G L (.int n) v F) : v = .int .i64 n := by
  simp only [VR, D.isAgg, Bool.false_eq_true, if_false] at h
  cases h
  rfl

theorem findNow_int {α : Type} {kd : IntKind} {k : Int} : ∀ (es : List MapEntry) (m : List (Int × α)) (i : Nat), es.length = m.length → (∀ j (h : j < m.length), (es.getD j default).key = .int .i64 m[j].1) →
    Instr.findNow (.int kd) (.int .i64 k) es i = some (if mIdx m k < m.length then some (i + mIdx m k, (es.getD (mIdx m k) default).val) else none) := by
  intro es
  induction es with
  | nil => intro m i hl _; cases m with
    | nil => simp [Instr.findNow, mIdx]
    | cons x r => simp at hl
  | cons e es ih =>
    intro m i hl hk
    cases m with
    | nil => simp at hl
    | cons x r =>
      have h0 := hk 0 (by simp)
      simp only [List.getD_cons_zero, List.getElem_cons_zero] at h0
      have hih := ih r (i + 1) (by simpa using hl) (fun j hj => by have := hk (j + 1) (by simpa using hj); simpa using this)
      simp only [Instr.findNow, h0, Instr.sameNow, if_true]
      by_cases hx : x.1 = k
      · have : mIdx (x :: r) k = 0 := by simp [mIdx, List.findIdx_cons, hx]
        simp [this, hx]
      · have hx' : (x.1 == k) = false := by simpa using hx
        have h1 : mIdx (x :: r) k = mIdx r k + 1 := by simp [mIdx, List.findIdx_cons, hx']
        have hx2 : (k == x.1) = false := by simpa using fun e => hx e.symm
        simp only [hx2, hih, h1, List.length_cons, Nat.add_lt_add_iff_right, List.getD_cons_succ]
        split <;> simp [Nat.add_assoc, Nat.add_comm, Nat.add_left_comm]

/-- a map's type: integer keys -/
class MpT (P : Program) (t : TypeId) (k e : outParam TypeId) : Prop where
  u : P.underlying t = some (.map k e)
  k : P.underlying k = some (.int .i64)

theorem mp_at {G L : Nat → Prop} {α : Type} {f : α → D} {m : List (Int × α)} {b : Nat} {F : List Nat} (h : BR w ρ G L b (mpI f m) F) :
    F = [b] ∧ ∃ es : Array MapEntry, w.heap[b]? = some (.map es m.length) ∧ es.size = m.length ∧ (∀ j (hj : j < m.length), (es.getD j default).key = .int .i64 m[j].1 ∧ VR w ρ G L (f m[j].2) (es.getD j default).val [] ∧ (es.getD j default).born = j) := by
  obtain ⟨h1, es, clock, h2, ⟨h3, h4⟩, h5⟩ := h
  simp only [List.length_map] at h3 h4
  subst h4
  refine ⟨h1, es, h2, h3, fun j hj => ?_⟩
  obtain ⟨h6, h7, h8⟩ := h5 j (by simpa using hj)
  simp only [List.getElem_map] at h6 h7
  exact ⟨VR_int h6, h7, h8⟩
theorem mp_mk {G L : Nat → Prop} {α : Type} {f : α → D} {m : List (Int × α)} {b : Nat} {es : Array MapEntry} (h2 : w.heap[b]? = some (.map es m.length)) (h3 : es.size = m.length)
    (h5 : ∀ j (hj : j < m.length), (es.getD j default).key = .int .i64 m[j].1 ∧ VR w ρ G L (f m[j].2) (es.getD j default).val [] ∧ (es.getD j default).born = j) : BR w ρ G L b (mpI f m) [b] := by
  refine ⟨rfl, es, m.length, h2, ⟨by simpa using h3, by simp⟩, fun j hj => ?_⟩
  obtain ⟨h6, h7, h8⟩ := h5 j (by simpa using hj)
  simp only [List.getElem_map]
  refine ⟨?_, h7, h8⟩
  rw [h6]
  simp only [VR, D.isAgg, Bool.false_eq_true, if_false]
  exact .int _

theorem R.mkmap {t ty rt : TypeId} {pos : String} {aft : Array Edge} {g : Option (Nat × Bool)} (hid : σ.box t = none) (ht : t < σ.n) :
    OpS P C ⟨some t, .makeMap ty none, rt, pos, aft, g⟩ σ ((σ.newB t (.mp [])).set t (.map t)) := by
  refine OpS.value fun a w ⟨ρ, Fe, Fb, st⟩ => ?_
  refine ⟨.map (some w.heap.size), w.alloc (.map #[] 0), ?_, ?_⟩
  · unfold execOp
    simp [Instr.makeMap, newObj, Sem.run]
  · have h1 := st.newB (id := t) (x := .mp []) (o := .map #[] 0) hid ⟨rfl, #[], 0, heap_alloc_new w _, ⟨rfl, rfl⟩, fun k hk => by simp at hk⟩
    have h2 := h1.put (t := t) (d := .map t) (v := .map (some w.heap.size)) (by simpa using ht) rfl (by
      simp only [VR, D.isAgg, Bool.false_eq_true, if_false]
      have := Rc.map (w := w.alloc (.map #[] 0)) (ρ := updR ρ t w.heap.size) (G := gd C Fe (upd Fb t [w.heap.size])) (L := fun i => ((σ.newB t (.mp [])).box i).isSome) t (by simp [box_newB])
      simpa using this)
    exact h2

theorem map_slot {p id : Nat} (st : StW C σ a w ρ Fe Fb) (h : σ.get p = some (.map id)) : a.tmps[p]? = some (.map (some (ρ id))) := by
  obtain ⟨v, hv, hr⟩ := (SR_plain rfl).1 (st.env _ _ h)
  simp only [VR, D.isAgg, Bool.false_eq_true, if_false] at hr
  generalize Fe p = F at hr
  cases hr
  exact hv

/-- another content of a map's box -/
theorem StW.putMp {α : Type} {f : α → D} {m m' : List (Int × α)} {id : Nat} {es : Array MapEntry} (st : StW C σ a w ρ Fe Fb) (hb : σ.box id = some (mpI f m)) (hs : es.size = m'.length)
    (h5 : ∀ j (hj : j < m'.length), (es.getD j default).key = .int .i64 m'[j].1 ∧ VR w ρ (gd C Fe Fb) (fun i => (σ.box i).isSome) (f m'[j].2) (es.getD j default).val [] ∧ (es.getD j default).born = j) :
    StW C (σ.putB id (mpI f m')) a { w with heap := w.heap.setIfInBounds (ρ id) (.map es m'.length) } ρ Fe (upd Fb id [ρ id]) ∧
      ∀ d v, VR w ρ (gd C Fe Fb) (fun i => (σ.box i).isSome) d v [] → VR { w with heap := w.heap.setIfInBounds (ρ id) (.map es m'.length) } ρ (gd C Fe (upd Fb id [ρ id])) (fun i => ((σ.putB id (mpI f m')).box i).isSome) d v [] := by
  obtain ⟨hF, es0, h2, h3, h4⟩ := mp_at (st.bx _ _ hb)
  have hlt : ρ id < w.heap.size := (Array.getElem?_eq_some_iff.1 h2).1
  have hblk : ∀ b, b ≠ ρ id → (w.heap.setIfInBounds (ρ id) (.map es m'.length))[b]? = w.heap[b]? := fun b hne => by
    rw [Array.getElem?_setIfInBounds]; simp [show ¬ ρ id = b from fun e => hne e.symm]
  have hnot : ∀ b, gd C Fe Fb b → b ≠ ρ id := fun b hg he => hg.2 (.inr ⟨id, by rw [hF, he]; simp⟩)
  have hg : ∀ b, gd C Fe Fb b → gd C Fe (upd Fb id [ρ id]) b := fun b hb' => ⟨hb'.1, fun hc => hb'.2 (hc.imp (fun h => h) (fun ⟨i, hi⟩ => by
    by_cases hii : i = id
    · subst hii; simp at hi; exact ⟨i, by rw [hF, hi]; simp⟩
    · rw [upd_other hii] at hi; exact ⟨i, hi⟩))⟩
  have hL : ∀ i, (σ.box i).isSome → ((σ.putB id (mpI f m')).box i).isSome := fun i hi => by
    rw [box_putB]
    by_cases hii : i = id
    · subst hii; simp [hb]
    · simp [hii, hi]
  refine ⟨?_, fun d v hv => hv.mono (fun b hb' _ => hblk b (hnot b (hb'.resolve_right (by simp)))) (fun b hb' _ => hg b hb') (fun i hi => ⟨hL i hi, rfl⟩)⟩
  refine st.putB (Fe' := Fe) (σ1 := σ) (F' := [ρ id]) (w' := { w with heap := w.heap.setIfInBounds (ρ id) (.map es m'.length) }) hb rfl rfl (fun u d hd => .inl ⟨hd, rfl⟩) st.envN (fun u => .inl rfl) rfl rfl rfl (by simp)
    hblk (by simp) (by simp) (fun b hb' => .inl (by rw [hF]; exact hb')) ?_
  refine mp_mk (es := es) ?_ hs (fun j hj => ?_)
  · simp [hlt]
  · obtain ⟨q1, q2, q3⟩ := h5 j hj
    exact ⟨q1, q2.mono (fun b hb' _ => hblk b (hnot b (hb'.resolve_right (by simp)))) (fun b hb' _ => hg b hb') (fun i hi => ⟨hi, rfl⟩), q3⟩

/-- the entry of a key, that is made if there is none -/
theorem R.mentry {α : Type} {f : α → D} {m : List (Int × α)} {z : α} {p t id : Nat} {x : Operand} {k : Int} {ty kt et rt : TypeId} {pos : String} {aft : Array Edge} {g : Option (Nat × Bool)} [hT : MpT P ty kt et] {zd : D} [hZ : ZrT P et zd]
    (h : σ.get p = some (.map id)) (hb : σ.box id = some (mpI f m)) (hx : ev C.gl σ x = some (.int k)) (hz : zd = f z) (hr : ∀ v, (f v).isRef = false) (ht : t < σ.n) :
    OpS P C ⟨some t, .mapEntry ty (.tmp p) x, rt, pos, aft, g⟩ σ ((σ.putB id (mpI f (mEnt z m k))).set t (.tup [f (mGet z m k), .int (mIdx m k : Nat)])) := by
  refine OpS.value fun a w ⟨ρ, Fe, Fb, st⟩ => ?_
  have hp := map_slot st h
  obtain ⟨Fx, hvx, _⟩ := ev_ok st hx rfl
  have hvx := VR_int hvx
  obtain ⟨hF, es, h2, h3, h4⟩ := mp_at (st.bx _ _ hb)
  obtain ⟨zi, zv, z1, z2, z3, z4⟩ := hZ.i
  have hfind := findNow_int (kd := .i64) (k := k) es.toList m 0 (by simpa using h3) (fun j hj => by have := (h4 j hj).1; simpa [Array.getD_eq_getD_getElem?] using this)
  have hzv : VR w ρ (gd C Fe Fb) (fun i => (σ.box i).isSome) (f z) zv [] := by rw [← hz]; exact chk_VR z3 z4
  have hck : ∀ w, (Instr.checkKey false 10000 kt (.int .i64 k)).run P w = .ok () w := fun w => MapKept.run_checkKey (w := w) hT.k (by exact rfl) false 9999
  have hfk : ∀ w, (Instr.findKey kt (.int .i64 k) es.toList).run P w = .ok (if mIdx m k < m.length then some (0 + mIdx m k, (es.toList.getD (mIdx m k) default).val) else none) w := fun w => by
    simp only [Instr.findKey, Sem.run_bind, run_underlying hT.k, Result.andThen_ok, hfind, Sem.run_pure]
  -- the entry
  have key : ∃ v : Value, ∃ w' : World, (Instr.mapEntry ty (.map (some (ρ id))) (.int .i64 k)).run P w = .ok (.tuple #[v, .int .i64 ((mIdx m k : Nat) : Int)]) w' ∧ VR w ρ (gd C Fe Fb) (fun i => (σ.box i).isSome) (f (mGet z m k)) v [] ∧
      ∃ es', w' = { w with heap := w.heap.setIfInBounds (ρ id) (.map es' (mEnt z m k).length) } ∧ es'.size = (mEnt z m k).length ∧ ∀ j (hj : j < (mEnt z m k).length), (es'.getD j default).key = .int .i64 (mEnt z m k)[j].1 ∧ VR w ρ (gd C Fe Fb) (fun i => (σ.box i).isSome) (f (mEnt z m k)[j].2) (es'.getD j default).val [] ∧ (es'.getD j default).born = j := by
    by_cases hin : mIdx m k < m.length
    · have he : mEnt z m k = m := by simp [mEnt, hin]
      have hgv : mGet z m k = m[mIdx m k].2 := by simp [mGet, hin]
      have hk := mEnt_at z m k
      rw [he, List.getElem?_eq_getElem hin] at hk
      have hkk : m[mIdx m k].1 = k := by injection hk with hk; rw [hk]
      obtain ⟨q1, q2, q3⟩ := h4 _ hin
      have hsz : mIdx m k < es.size := by omega
      have hgd : es.getD (mIdx m k) default = es[mIdx m k] := by simp [Array.getD_eq_getD_getElem?, hsz]
      rw [hgd] at q1 q2 q3
      refine ⟨(es[mIdx m k]).val, _, ?_, by rw [hgv]; exact q2, es.modify (mIdx m k) (fun e => { e with key := .int .i64 k }), rfl, by rw [he]; simpa using h3, fun j hj => ?_⟩
      · have hgl : (es.toList.getD (mIdx m k) default) = es[mIdx m k] := by simp [hsz]
        simp [Instr.mapEntry, run_underlying hT.u, MapKept.run_getObj_map h2, hck, hfk, hin, Instr.keyThatStays, Instr.sameBits, q1, hkk, hsz, MapKept.run_setObj_map _ h2, goInt, q3, he]
      · simp only [he] at hj ⊢
        have hjs : j < es.size := by omega
        obtain ⟨r1, r2, r3⟩ := h4 j hj
        have hgj : es.getD j default = es[j] := by simp [Array.getD_eq_getD_getElem?, hjs]
        rw [hgj] at r1 r2 r3
        have hmj : (es.modify (mIdx m k) (fun e => { e with key := Value.int .i64 k })).getD j default = es[j] := by
          rw [Array.getD_eq_getD_getElem?, Array.getElem?_eq_getElem (by simpa using hjs), Option.getD_some, Array.getElem_modify]
          split
          · rename_i hij
            subst hij
            rw [hkk] at r1
            cases hh : es[mIdx m k] with
            | mk a b c => rw [hh] at r1; simp only at r1; rw [r1]
          · rfl
        rw [hmj]
        exact ⟨r1, r2, r3⟩
    · have he : mEnt z m k = m ++ [(k, z)] := by simp [mEnt, hin]
      have hle : mIdx m k ≤ m.length := List.findIdx_le_length
      have hix : mIdx m k = m.length := by omega
      have hgv : mGet z m k = z := by simp [mGet, hix]
      refine ⟨zv, _, ?_, by rw [hgv]; exact hzv, es.push { key := .int .i64 k, val := zv, born := m.length }, rfl, by rw [he]; simp [h3], fun j hj => ?_⟩
      · simp [Instr.mapEntry, run_underlying hT.u, MapKept.run_getObj_map h2, hck, hfk, hin, he, MapKept.run_setObj_map _ h2, goInt, hix, zeroValue, typeInfo, z1, z2]
      · simp only [he] at hj ⊢
        rcases Nat.lt_or_ge j m.length with hjm | hjm
        · obtain ⟨r1, r2, r3⟩ := h4 j hjm
          have hgj : (es.push { key := Value.int .i64 k, val := zv, born := m.length }).getD j default = es.getD j default := by
            simp only [Array.getD_eq_getD_getElem?, Array.getElem?_push]
            rw [if_neg (by omega)]
          rw [hgj, List.getElem_append_left hjm]
          exact ⟨r1, r2, r3⟩
        · have hje : j = m.length := by simp at hj; omega
          subst hje
          have hgj : (es.push { key := Value.int .i64 k, val := zv, born := m.length }).getD m.length default = { key := Value.int .i64 k, val := zv, born := m.length } := by
            simp only [Array.getD_eq_getD_getElem?, Array.getElem?_push, h3, if_true, Option.getD_some]
          rw [hgj]
          simp only [List.getElem_append_right (Nat.le_refl _), Nat.sub_self, List.getElem_cons_zero]
          exact ⟨trivial, hzv, trivial⟩
  obtain ⟨v, w', hrun, hv, es', rfl, hs', h5⟩ := key
  obtain ⟨st2, htr⟩ := st.putMp hb hs' h5
  refine ⟨.tuple #[v, .int .i64 ((mIdx m k : Nat) : Int)], { w with heap := w.heap.setIfInBounds (ρ id) (.map es' (mEnt z m k).length) }, ?_, ?_⟩
  · unfold execOp
    simp [eval_tmp hp, hvx, hrun]
  · refine st2.putRef ht ⟨[v, .int .i64 ((mIdx m k : Nat) : Int)], fun _ => [], by rw [put_get a t _ t (by rw [st.size]; exact ht)]; simp, rfl, (flat0 _).symm, fun j hj => .inr ?_⟩
    have hup : ∀ d v, VR w ρ (gd C Fe Fb) (fun i => (σ.box i).isSome) d v [] → VR { w with heap := w.heap.setIfInBounds (ρ id) (.map es' (mEnt z m k).length) } ρ (gd C (upd Fe t []) (upd Fb id [ρ id])) (fun i => ((σ.putB id (mpI f (mEnt z m k))).box i).isSome) d v [] :=
      fun d v h => (htr d v h).mono (fun _ _ _ => rfl) (fun b hb _ => ⟨hb.1, fun ho => hb.2 (own_upd ho)⟩) (fun i hi => ⟨hi, rfl⟩)
    match j, hj with
    | 0, _ => exact ⟨hr _, hup _ _ hv⟩
    | 1, _ => exact ⟨rfl, hup _ _ (by simp only [List.getElem_cons_succ, List.getElem_cons_zero, VR, D.isAgg, Bool.false_eq_true, if_false]; exact .int _)⟩

/-- another value in an entry -/
theorem R.estore {α : Type} {f : α → D} {m : List (Int × α)} {p id i : Nat} {k : Int} {u : α} {x y : Operand} {ty rt : TypeId} {pos : String} {aft : Array Edge} {g : Option (Nat × Bool)} {dv : D}
    (h : σ.get p = some (.map id)) (hb : σ.box id = some (mpI f m)) (hx : ev C.gl σ x = some (.int (i : Nat))) (hy : ev C.gl σ y = some dv) (hd : dv = f u) (hp : dv.pur = true) (hi : i < m.length) (hk : m[i].1 = k) :
    OpS P C ⟨none, .entryStore ty (.tmp p) x y, rt, pos, aft, g⟩ σ (σ.putB id (mpI f (m.set i (k, u)))) := by
  refine OpS.skip rfl fun a w ⟨ρ, Fe, Fb, st⟩ => ?_
  have hpm := map_slot st h
  obtain ⟨Fx, hvx, _⟩ := ev_ok st hx rfl
  have hvx := VR_int hvx
  obtain ⟨Fy, hvy, _⟩ := ev_ok st hy (pur_ref hp)
  have hFy := hvy.pur hp
  subst hFy
  rw [hd] at hvy
  obtain ⟨hF, es, h2, h3, h4⟩ := mp_at (st.bx _ _ hb)
  have hsz : i < es.size := by omega
  have hfi : es.findIdx? (fun e => (e.born : Int) == ((i : Nat) : Int)) = some i := by
    rw [Array.findIdx?_eq_some_iff_getElem]
    refine ⟨hsz, ?_, fun j hj => ?_⟩
    · obtain ⟨_, _, r3⟩ := h4 i hi
      have hgj : es.getD i default = es[i] := by simp [Array.getD_eq_getD_getElem?, hsz]
      rw [hgj] at r3
      simp [r3]
    · obtain ⟨_, _, r3⟩ := h4 j (by omega)
      have hgj : es.getD j default = es[j] := by simp [Array.getD_eq_getD_getElem?, show j < es.size by omega]
      rw [hgj] at r3
      simp [r3]; omega
  obtain ⟨st2, _⟩ := st.putMp (es := es.modify i fun e => { e with val := a.eval y }) (m' := m.set i (k, u)) hb (by simpa using h3) (fun j hj => by
    have hj' : j < m.length := by simpa using hj
    obtain ⟨r1, r2, r3⟩ := h4 j hj'
    have hjs : j < es.size := by omega
    have hgj : es.getD j default = es[j] := by simp [Array.getD_eq_getD_getElem?, hjs]
    rw [hgj] at r1 r2 r3
    rw [Array.getD_eq_getD_getElem?, Array.getElem?_eq_getElem (by simpa using hjs), Option.getD_some, Array.getElem_modify, List.getElem_set]
    by_cases hij : i = j
    · subst hij
      simp only [if_true]
      exact ⟨by rw [r1, hk], hvy, r3⟩
    · simp only [hij, if_false]
      exact ⟨r1, r2, r3⟩)
  refine ⟨_, ?_, ρ, Fe, _, st2⟩
  unfold execOp
  simp [Instr.entryStore, eval_tmp hpm, hvx, MapKept.run_getObj_map h2, asInt, asIntOf, hfi, MapKept.run_setObj_map _ h2]

/-- what a key's entry holds, or the zero value -/
theorem R.lookI {α : Type} {f : α → D} {m : List (Int × α)} {z : α} {p t id : Nat} {x : Operand} {k : Int} {ty kt et rt : TypeId} {pos : String} {aft : Array Edge} {g : Option (Nat × Bool)} [hT : MpT P ty kt et] {zd : D} [hZ : ZrT P et zd]
    (h : σ.get p = some (.map id)) (hb : σ.box id = some (mpI f m)) (hx : ev C.gl σ x = some (.int k)) (hz : zd = f z) (hr : ∀ v, (f v).isRef = false) (ht : t < σ.n) :
    OpS P C ⟨some t, .lookup ty (.tmp p) x false, rt, pos, aft, g⟩ σ (σ.set t (f (mGet z m k))) := by
  refine OpS.value fun a w ⟨ρ, Fe, Fb, st⟩ => ?_
  have hp := map_slot st h
  obtain ⟨Fx, hvx, _⟩ := ev_ok st hx rfl
  have hvx := VR_int hvx
  obtain ⟨hF, es, h2, h3, h4⟩ := mp_at (st.bx _ _ hb)
  obtain ⟨zi, zv, z1, z2, z3, z4⟩ := hZ.i
  have hfind := findNow_int (kd := .i64) (k := k) es.toList m 0 (by simpa using h3) (fun j hj => by have := (h4 j hj).1; simpa [Array.getD_eq_getD_getElem?] using this)
  have hzv : VR w ρ (gd C Fe Fb) (fun i => (σ.box i).isSome) (f z) zv [] := by rw [← hz]; exact chk_VR z3 z4
  have hck : ∀ b w, (Instr.checkKey b 10000 kt (.int .i64 k)).run P w = .ok () w := fun b w => MapKept.run_checkKey (w := w) hT.k (by exact rfl) b 9999
  have hfk : ∀ w, (Instr.findKey kt (.int .i64 k) es.toList).run P w = .ok (if mIdx m k < m.length then some (0 + mIdx m k, (es.toList.getD (mIdx m k) default).val) else none) w := fun w => by
    simp only [Instr.findKey, Sem.run_bind, run_underlying hT.k, Result.andThen_ok, hfind, Sem.run_pure]
  by_cases hin : mIdx m k < m.length
  · have hgv : mGet z m k = m[mIdx m k].2 := by simp [mGet, hin]
    obtain ⟨q1, q2, q3⟩ := h4 _ hin
    have hsz : mIdx m k < es.size := by omega
    have hgd : es.getD (mIdx m k) default = es[mIdx m k] := by simp [Array.getD_eq_getD_getElem?, hsz]
    rw [hgd] at q2
    refine ⟨es[mIdx m k].val, w, ?_, by rw [hgv]; exact st.put ht (hr _) q2⟩
    unfold execOp
    simp [Instr.lookup, run_underlying hT.u, eval_tmp hp, hvx, MapKept.run_getObj_map h2, hck, hfk, hin, hsz]
  · have hle : mIdx m k ≤ m.length := List.findIdx_le_length
    have hgv : mGet z m k = z := by simp [mGet, show mIdx m k = m.length by omega]
    refine ⟨zv, w, ?_, by rw [hgv]; exact st.put ht (hr _) hzv⟩
    unfold execOp
    simp [Instr.lookup, run_underlying hT.u, eval_tmp hp, hvx, MapKept.run_getObj_map h2, hck, hfk, hin, zeroValue, typeInfo, z1, z2]
end Go.Sx

namespace Go.Sx

variable {P : Program} {C : Ctx} {σ σ' σ1 : Sg} {a : Act} {w w' : World} {ρ : Nat → Nat} {Fe Fe' Fb : Nat → List Nat}
variable {pos : String} {aft : Array Edge} {g : Option (Nat × Bool)} {t ty xt yt rt : TypeId}

theorem eqGuard_slice (P : Program) (w : World) (op : BinOp) (t : TypeId) (x y : Operand) (b : Option Addr) (n c : Nat) (v : Value) : (eqGuard op t x y (.slice b n c) v).run P w = .ok () w := by
  cases op <;> rfl
theorem run_eq_nil {e : TypeId} (hT : P.underlying xt = some (.slice e)) (b : Option Addr) (n c : Nat) (w : World) :
    (binOp .eql xt (.slice b n c) (.slice none 0 0)).run P w = .ok (.bool b.isNone) w := by
  have h1 : ∀ d, (Op.equalIn (d + 1) xt (.slice b n c) (.slice none 0 0)).run P w = .ok b.isNone w := fun d => by
    cases b <;> simp [Op.equalIn, run_underlying hT]
  have h2 : (Op.equal xt (.slice b n c) (.slice none 0 0)).run P w = .ok b.isNone w := h1 9999
  simp only [binOp, Sem.run_bind, h2, Result.andThen_ok, Sem.run_pure]
theorem run_eq_nil_op {e : TypeId} (hT : P.underlying xt = some (.slice e)) {s : Nat} {b : Option Addr} {n c : Nat} (hv : a.tmps[s]? = some (.slice b n c)) :
    (execOp a.eval ⟨some t, .binOp .eql xt (.tmp s) (.const (.slice none 0 0)) yt, rt, pos, aft, g⟩).run P w = .ok (.value (.bool b.isNone)) w := by
  unfold execOp
  simp only [Sem.run_bind, eval_tmp hv, eqGuard_slice, Result.andThen_ok, Sem.run_pure]
  have : a.eval (.const (.slice none 0 0)) = .slice none 0 0 := rfl
  simp only [this, run_eq_nil hT, Result.andThen_ok]

theorem SC_some (st : StW C σ a w ρ Fe Fb) {s z : Nat} {l : List D} (h : SC σ s z l) (hl : l ≠ []) : ∃ b n c, a.tmps[s]? = some (.slice (some b) n c) := by
  obtain ⟨base, len, cap, hv, hlen, hd⟩ := SC_ok st h
  rcases hd with ⟨h3, h4⟩ | ⟨b, o, cs, e', fz, rfl, _⟩
  · exact absurd (List.length_eq_zero_iff.1 (by omega)) hl
  · exact ⟨_, _, _, hv⟩

/-- what is not empty is not nil -/
theorem R.eqNilF {s z e : Nat} {l : List D} [hT : SlT P xt e] (h : SC σ s z l) (hl : l ≠ []) (ht : t < σ.n) :
    OpS P C ⟨some t, .binOp .eql xt (.tmp s) (.const (.slice none 0 0)) yt, rt, pos, aft, g⟩ σ (σ.set t (.bool false)) := by
  refine OpS.value fun a w ⟨ρ, Fe, Fb, st⟩ => ?_
  obtain ⟨b, n, c, hv⟩ := SC_some st h hl
  exact ⟨_, w, run_eq_nil_op hT.u hv, st.put ht rfl (by simp only [VR, D.isAgg, Bool.false_eq_true, if_false]; exact .bool _)⟩
theorem R.eqNilT {s e : Nat} [hT : SlT P xt e] (h : ev C.gl σ (.tmp s) = some .nils) (ht : t < σ.n) :
    OpS P C ⟨some t, .binOp .eql xt (.tmp s) (.const (.slice none 0 0)) yt, rt, pos, aft, g⟩ σ (σ.set t (.bool true)) := by
  refine OpS.value fun a w ⟨ρ, Fe, Fb, st⟩ => ?_
  obtain ⟨F, hv, _⟩ := ev_ok st h rfl
  simp only [VR, D.isAgg, Bool.false_eq_true, if_false] at hv
  have hv := hv.nil_val
  refine ⟨.bool true, w, ?_, st.put ht rfl (by simp only [VR, D.isAgg, Bool.false_eq_true, if_false]; exact .bool _)⟩
  unfold execOp
  simp only [Sem.run_bind, hv, eqGuard_slice, Result.andThen_ok, Sem.run_pure]
  have : a.eval (.const (.slice none 0 0)) = .slice none 0 0 := rfl
  simp only [this, run_eq_nil hT.u, Result.andThen_ok]
  rfl
/-- nil or not: both are gone through -/
theorem WL.nilq {s z e : Nat} {l : List D} {ops : Array Oper} {r : List Oper} {Q : Exit → Sg → Prop} [hT : SlT P xt e] (h : SC σ s z l) (ht : t < σ.n)
    (k : ∀ b : Bool, (l ≠ [] → b = false) → WL P C ops r Q (σ.set t (.bool b))) :
    WL P C ops (⟨some t, .binOp .eql xt (.tmp s) (.const (.slice none 0 0)) yt, rt, pos, aft, none⟩ :: r) Q σ := by
  intro a w hs
  obtain ⟨ρ, Fe, Fb, st⟩ := hs
  obtain ⟨base, len, cap, hv, hlen, hd⟩ := SC_ok st h
  have hb : l ≠ [] → base.isNone = false := fun hl => by
    rcases hd with ⟨h3, h4⟩ | ⟨b, o, cs, e', fz, rfl, _⟩
    · exact absurd (List.length_eq_zero_iff.1 (by omega)) hl
    · rfl
  refine wpListIn_plain rfl fun K hK => ?_
  refine wpIn_of_run (run_eq_nil_op (t := t) (yt := yt) (rt := rt) (pos := pos) (aft := aft) (g := none) hT.u hv) (by simp) ?_
  exact hK _ _ (k base.isNone hb _ _ (st.put ht rfl (by simp only [VR, D.isAgg, Bool.false_eq_true, if_false]; exact .bool _)))

theorem VR_int' {G L : Nat → Prop} {n : Int} : VR w ρ G L (.int n) (.int .i64 n) [] := by
  simp only [VR, D.isAgg, Bool.false_eq_true, if_false]; exact .int _

theorem R.minI {x y : Operand} {m n r : Int} {ta tb : TypeId} (hx : ev C.gl σ x = some (.int m)) (hy : ev C.gl σ y = some (.int n)) (hr : min m n = r) (ht : t < σ.n) :
    OpS P C ⟨some t, .call { callee := .builtin .min, args := #[x, y], argTypes := #[ta, tb] }, rt, pos, aft, g⟩ σ (σ.set t (.int r)) := by
  refine OpS.value fun a w ⟨ρ, Fe, Fb, st⟩ => ?_
  obtain ⟨_, hvx, _⟩ := ev_ok st hx rfl
  obtain ⟨_, hvy, _⟩ := ev_ok st hy rfl
  have hvx := VR_int hvx
  have hvy := VR_int hvy
  have e : (if n < m then n else m) = r := by rw [← hr]; split <;> omega
  refine ⟨.int .i64 r, w, ?_, st.put ht rfl VR_int'⟩
  unfold execOp
  simp [resolve, invoke, builtin, hvx, hvy, Builtin.min_, Builtin.min2, e]
theorem R.maxI {x y : Operand} {m n r : Int} {ta tb : TypeId} (hx : ev C.gl σ x = some (.int m)) (hy : ev C.gl σ y = some (.int n)) (hr : max m n = r) (ht : t < σ.n) :
    OpS P C ⟨some t, .call { callee := .builtin .max, args := #[x, y], argTypes := #[ta, tb] }, rt, pos, aft, g⟩ σ (σ.set t (.int r)) := by
  refine OpS.value fun a w ⟨ρ, Fe, Fb, st⟩ => ?_
  obtain ⟨_, hvx, _⟩ := ev_ok st hx rfl
  obtain ⟨_, hvy, _⟩ := ev_ok st hy rfl
  have hvx := VR_int hvx
  have hvy := VR_int hvy
  have e : (if m < n then n else m) = r := by rw [← hr]; split <;> omega
  refine ⟨.int .i64 r, w, ?_, st.put ht rfl VR_int'⟩
  unfold execOp
  simp [resolve, invoke, builtin, hvx, hvy, Builtin.max_, Builtin.max2, e]

/-- an entry of a key, whatever it was -/
theorem R.mupd {α : Type} {f : α → D} {m : List (Int × α)} {z u : α} {p id : Nat} {x y : Operand} {k : Int} {kt et : TypeId} {dv : D} [hT : MpT P ty kt et]
    (h : σ.get p = some (.map id)) (hb : σ.box id = some (mpI f m)) (hx : ev C.gl σ x = some (.int k)) (hy : ev C.gl σ y = some dv) (hd : dv = f u) (hp : dv.pur = true) :
    OpS P C ⟨none, .mapUpdate ty (.tmp p) x y, rt, pos, aft, g⟩ σ (σ.putB id (mpI f ((mEnt z m k).set (mIdx m k) (k, u)))) := by
  refine OpS.skip rfl fun a w ⟨ρ, Fe, Fb, st⟩ => ?_
  have hpm := map_slot st h
  obtain ⟨Fx, hvx, _⟩ := ev_ok st hx rfl
  have hvx := VR_int hvx
  obtain ⟨Fy, hvy, _⟩ := ev_ok st hy (pur_ref hp)
  have hFy := hvy.pur hp
  subst hFy
  rw [hd] at hvy
  obtain ⟨hF, es, h2, h3, h4⟩ := mp_at (st.bx _ _ hb)
  have hfind := findNow_int (kd := .i64) (k := k) es.toList m 0 (by simpa using h3) (fun j hj => by have := (h4 j hj).1; simpa [Array.getD_eq_getD_getElem?] using this)
  have hck : ∀ w, (Instr.checkKey false 10000 kt (.int .i64 k)).run P w = .ok () w := fun w => MapKept.run_checkKey (w := w) hT.k (by exact rfl) false 9999
  have hfk : ∀ w, (Instr.findKey kt (.int .i64 k) es.toList).run P w = .ok (if mIdx m k < m.length then some (0 + mIdx m k, (es.toList.getD (mIdx m k) default).val) else none) w := fun w => by
    simp only [Instr.findKey, Sem.run_bind, run_underlying hT.k, Result.andThen_ok, hfind, Sem.run_pure]
  by_cases hin : mIdx m k < m.length
  · have he : mEnt z m k = m := by simp [mEnt, hin]
    have hk := mEnt_at z m k
    rw [he, List.getElem?_eq_getElem hin] at hk
    have hkk : m[mIdx m k].1 = k := by injection hk with hk; rw [hk]
    obtain ⟨q1, q2, q3⟩ := h4 _ hin
    have hsz : mIdx m k < es.size := by omega
    have hgd : es.getD (mIdx m k) default = es[mIdx m k] := by simp [Array.getD_eq_getD_getElem?, hsz]
    rw [hgd] at q1 q2 q3
    obtain ⟨st2, _⟩ := st.putMp (es := es.modify (mIdx m k) fun e => { e with key := .int .i64 k, val := a.eval y }) (m' := (mEnt z m k).set (mIdx m k) (k, u)) hb (by rw [he]; simpa using h3) (fun j hj => by
      have hj' : j < m.length := by simpa [he] using hj
      obtain ⟨r1, r2, r3⟩ := h4 j hj'
      have hjs : j < es.size := by omega
      have hgj : es.getD j default = es[j] := by simp [Array.getD_eq_getD_getElem?, hjs]
      rw [hgj] at r1 r2 r3
      rw [Array.getD_eq_getD_getElem?, Array.getElem?_eq_getElem (by simpa using hjs), Option.getD_some, Array.getElem_modify]
      simp only [he, List.getElem_set]
      by_cases hij : mIdx m k = j
      · subst hij
        simp only [if_true]
        exact ⟨trivial, hvy, r3⟩
      · simp only [hij, if_false]
        exact ⟨r1, r2, r3⟩)
    refine ⟨_, ?_, ρ, Fe, _, st2⟩
    unfold execOp
    simp [Instr.mapUpdate, run_underlying hT.u, eval_tmp hpm, hvx, MapKept.run_getObj_map h2, hck, hfk, hin, Instr.keyThatStays, Instr.sameBits, q1, hkk, hsz, MapKept.run_setObj_map _ h2, he]
  · have he : mEnt z m k = m ++ [(k, z)] := by simp [mEnt, hin]
    have hle : mIdx m k ≤ m.length := List.findIdx_le_length
    have hix : mIdx m k = m.length := by omega
    have hset : (mEnt z m k).set (mIdx m k) (k, u) = m ++ [(k, u)] := by rw [he, hix]; simp
    rw [hset]
    obtain ⟨st2, _⟩ := st.putMp (es := es.push { key := .int .i64 k, val := a.eval y, born := m.length }) (m' := m ++ [(k, u)]) hb (by simp [h3]) (fun j hj => by
      rcases Nat.lt_or_ge j m.length with hjm | hjm
      · obtain ⟨r1, r2, r3⟩ := h4 j hjm
        have hgj : (es.push { key := Value.int .i64 k, val := a.eval y, born := m.length }).getD j default = es.getD j default := by
          simp only [Array.getD_eq_getD_getElem?, Array.getElem?_push]
          rw [if_neg (by omega)]
        rw [hgj, List.getElem_append_left hjm]
        exact ⟨r1, r2, r3⟩
      · have hje : j = m.length := by simp at hj; omega
        subst hje
        have hgj : (es.push { key := Value.int .i64 k, val := a.eval y, born := m.length }).getD m.length default = { key := Value.int .i64 k, val := a.eval y, born := m.length } := by
          simp only [Array.getD_eq_getD_getElem?, Array.getElem?_push, h3, if_true, Option.getD_some]
        rw [hgj]
        simp only [List.getElem_append_right (Nat.le_refl _), Nat.sub_self, List.getElem_cons_zero]
        exact ⟨trivial, hvy, trivial⟩)
    refine ⟨_, ?_, ρ, Fe, _, st2⟩
    unfold execOp
    simp [Instr.mapUpdate, run_underlying hT.u, eval_tmp hpm, hvx, MapKept.run_getObj_map h2, hck, hfk, hin, MapKept.run_setObj_map _ h2]

/-- bytes as a text -/
theorem R.cvS {s e : Nat} {xs : List UInt8} {src dst : TypeId} [hT : SlT P src e] [hk : IkT P e .u8] [hS : StT P dst] (h : SC σ s 1 (xs.map D.u8)) (ht : t < σ.n) :
    OpS P C ⟨some t, .convert src dst (.tmp s), rt, pos, aft, g⟩ σ (σ.set t (.str xs)) := by
  refine OpS.value fun a w ⟨ρ, Fe, Fb, st⟩ => ?_
  obtain ⟨base, len, cap, hv, hlen, hd⟩ := SC_ok st h
  have hlen' : len = xs.length := by simpa using hlen
  subst hlen'
  have key : (convert src dst (.slice base xs.length cap)).run P w = .ok (.string ⟨xs.toArray⟩) w := by
    have hcell : ∀ ad, base = some ad → ∀ j (hj : j < xs.length), w.cell? (ad.add j) = some (.int .u8 (xs[j].toNat : Int)) := by
      rintro ad rfl j hj
      rcases hd with ⟨h3, h4⟩ | ⟨b, o, cs, e', fz, hba, hb, hc, hs, hr⟩
      · omega
      · simp only [Option.some.injEq] at hba
        subst hba
        rw [add_lit, cell_of_row w b _ cs e' fz hb]
        obtain ⟨F, hF⟩ := hr j (by simpa using hj)
        simp only [List.getElem_map, Nat.mul_one] at hF hs
        have hlt : o + j < cs.size := by omega
        rw [List.drop_eq_getElem_cons (by simpa using hlt), List.take_succ_cons, List.take_zero] at hF
        rw [Array.getElem?_eq_getElem hlt, ← Array.getElem_toList]
        generalize cs.toList[o + j] = vv at hF
        cases hF
        rfl
    cases base with
    | some ad => exact run_convert_bytes_back w src dst e ad cap xs hT.u hk.u hS.u (hcell ad rfl)
    | none =>
      have h0 : xs = [] := by
        rcases hd with ⟨h3, h4⟩ | ⟨b, o, cs, e', fz, hba, _⟩
        · exact List.length_eq_zero_iff.1 h3
        · cases hba
      subst h0
      simp [convert, run_underlying hT.u, run_underlying hS.u, run_underlying hk.u, Conv.bytesToString]
      rfl
  refine ⟨.string ⟨xs.toArray⟩, w, ?_, st.put ht rfl (by simp only [VR, D.isAgg, Bool.false_eq_true, if_false]; exact .str xs)⟩
  unfold execOp
  simp [eval_tmp hv, key]
theorem R.mkmapI {α : Type} (f : α → D) (hid : σ.box t = none) (ht : t < σ.n) : OpS P C ⟨some t, .makeMap ty none, rt, pos, aft, g⟩ σ ((σ.newB t (mpI f [])).set t (.map t)) := R.mkmap hid ht
theorem nil_of {α : Type} {f : α → D} {b : List α} {x : Bool} (h : b.map f ≠ [] → x = false) (hc : x = true) : b = [] := by
  cases b with
  | nil => rfl
  | cons y r => have := h (by simp); rw [this] at hc; cases hc
theorem pur_part {α : Type} {f : α → D} {l : List α} {a n : Nat} (h : ∀ x, (f x).pur = true) : ∀ y ∈ ((l.map f).drop a).take n, y.pur = true := fun y hy => by
  obtain ⟨x, _, rfl⟩ := List.mem_map.1 (List.mem_of_mem_drop (List.mem_of_mem_take hy))
  exact h x
/-- an array's zero value, built -/
theorem R.bldAZ {n e z bytes : Nat} {d : D} [hT : ArT P ty n e] [hE : ElT P e z bytes] [hZ : ZrT P ty d] (hd : d.isAgg = true) (ht : t < σ.n) :
    OpS P C ⟨some t, .build ty #[], rt, pos, aft, g⟩ σ (σ.set t d) := by
  refine OpS.value fun a w ⟨ρ, Fe, Fb, st⟩ => ?_
  obtain ⟨i, v, h1, h2, h3, h4⟩ := hZ.i
  obtain ⟨ie, zv, hi, _⟩ := hE.i
  have hv : VR w ρ (gd C Fe Fb) (fun i => (σ.box i).isSome) d v [] := chk_VR h3 h4
  rw [hd] at h4
  cases v with
  | agg cs =>
    refine ⟨.agg cs, w, ?_, st.put ht (by cases d <;> first | rfl | cases hd) hv⟩
    unfold execOp
    simp [Instr.build, zeroValue, typeInfo, h1, h2, run_underlying hT.u, sizeOf, hi, Instr.fill, Value.cells]
  | _ => simp [Value.isAgg'] at h4
/-- bools held against each other -/
class BoT (P : Program) (t : TypeId) : Prop where
  u : P.underlying t = some .bool
theorem eqGuard_bool (P : Program) (w : World) (op : BinOp) (t : TypeId) (x y : Operand) (b : Bool) (v : Value) : (eqGuard op t x y (.bool b) v).run P w = .ok () w := by
  cases op <;> rfl
theorem run_eq_bool [hT : BoT P xt] (a b : Bool) (w : World) : (Op.equal xt (.bool a) (.bool b)).run P w = .ok (a == b) w := by
  have h1 : ∀ d, (Op.equalIn (d + 1) xt (.bool a) (.bool b)).run P w = .ok (a == b) w := fun d => by
    simp [Op.equalIn, run_underlying hT.u]
  exact h1 9999
theorem VR_bool {G L : Nat → Prop} {b : Bool} {v : Value} {F : List Nat} (h : VR w ρ G L (.bool b) v F) : v = .bool b := by
  simp only [VR, D.isAgg, Bool.false_eq_true, if_false] at h
  cases h
  rfl
theorem R.eqB {x y : Operand} {b c : Bool} [hT : BoT P xt] (hx : ev C.gl σ x = some (.bool b)) (hy : ev C.gl σ y = some (.bool c)) (ht : t < σ.n) :
    OpS P C ⟨some t, .binOp .eql xt x y yt, rt, pos, aft, g⟩ σ (σ.set t (.bool (b == c))) := by
  refine OpS.value fun a w ⟨ρ, Fe, Fb, st⟩ => ?_
  obtain ⟨_, vx, _⟩ := ev_ok st hx rfl
  obtain ⟨_, vy, _⟩ := ev_ok st hy rfl
  have vx := VR_bool vx
  have vy := VR_bool vy
  refine ⟨.bool (b == c), w, ?_, st.put ht rfl (by simp only [VR, D.isAgg, Bool.false_eq_true, if_false]; exact .bool _)⟩
  unfold execOp
  simp only [Sem.run_bind, vx, vy, eqGuard_bool, Result.andThen_ok, binOp, run_eq_bool, Sem.run_pure]
theorem R.neB {x y : Operand} {b c : Bool} [hT : BoT P xt] (hx : ev C.gl σ x = some (.bool b)) (hy : ev C.gl σ y = some (.bool c)) (ht : t < σ.n) :
    OpS P C ⟨some t, .binOp .neq xt x y yt, rt, pos, aft, g⟩ σ (σ.set t (.bool (b != c))) := by
  refine OpS.value fun a w ⟨ρ, Fe, Fb, st⟩ => ?_
  obtain ⟨_, vx, _⟩ := ev_ok st hx rfl
  obtain ⟨_, vy, _⟩ := ev_ok st hy rfl
  have vx := VR_bool vx
  have vy := VR_bool vy
  refine ⟨.bool (b != c), w, ?_, st.put ht rfl (by simp only [VR, D.isAgg, Bool.false_eq_true, if_false]; exact .bool _)⟩
  unfold execOp
  simp only [Sem.run_bind, vx, vy, eqGuard_bool, Result.andThen_ok, binOp, run_eq_bool, Sem.run_pure]
  rfl
end Go.Sx
