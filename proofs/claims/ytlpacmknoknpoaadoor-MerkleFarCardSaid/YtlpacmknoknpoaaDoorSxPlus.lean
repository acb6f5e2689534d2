/-
  Own library, part 22: rules for numbers that are natural ones; small helps.
-/
import Derived.Test.YtlpacmknoknpoaaDoorSxVal4
set_option linter.unusedVariables false
set_option linter.unusedSimpArgs false
set_option linter.unnecessarySimpa false
namespace Go.Sx

variable {P : Program} {C : Ctx} {σ σ' σ1 : Sg} {xt yt ty : TypeId} {x y : Operand} {t : Nat} {pos : String} {aft : Array Edge} {g : Option (Nat × Bool)}

theorem evc {gl : List (Nat × D)} {σ : Sg} {v : Value} {d : D} (h : ofV v = some d) : ev gl σ (.const v) = some d := h
theorem evt {gl : List (Nat × D)} {σ : Sg} {s : Nat} {d : D} (h : σ.get s = some d) : ev gl σ (.tmp s) = some d := h

theorem R.addN (m n : Nat) (hx : ev C.gl σ x = some (.int (m : Int))) (hy : ev C.gl σ y = some (.int (n : Int))) (h : m + n < 9223372036854775808) (ht : t < σ.n) :
    OpS P C ⟨some t, .binOp .add xt x y yt, ty, pos, aft, g⟩ σ (σ.set t (.int ((m + n : Nat) : Int))) :=
  R.binE hx hy rfl trivial (wr_eq (by omega) (by omega) (by omega)) ht
theorem R.subN (m n : Nat) (hx : ev C.gl σ x = some (.int (m : Int))) (hy : ev C.gl σ y = some (.int (n : Int))) (h : n ≤ m) (h2 : m < 9223372036854775808) (ht : t < σ.n) :
    OpS P C ⟨some t, .binOp .sub xt x y yt, ty, pos, aft, g⟩ σ (σ.set t (.int ((m - n : Nat) : Int))) :=
  R.binE hx hy rfl trivial (wr_eq (by omega) (by omega) (by omega)) ht
theorem R.mulN (m n : Nat) (hx : ev C.gl σ x = some (.int (m : Int))) (hy : ev C.gl σ y = some (.int (n : Int))) (h : m * n < 9223372036854775808) (ht : t < σ.n) :
    OpS P C ⟨some t, .binOp .mul xt x y yt, ty, pos, aft, g⟩ σ (σ.set t (.int ((m * n : Nat) : Int))) :=
  R.binE hx hy rfl trivial (wr_eq (by rw [Int.natCast_mul]) (by have : (0 : Int) ≤ ((m * n : Nat) : Int) := Int.natCast_nonneg _; omega) (by omega)) ht
theorem R.quoN (m n : Nat) (hx : ev C.gl σ x = some (.int (m : Int))) (hy : ev C.gl σ y = some (.int (n : Int))) (h : 0 < n) (h2 : m < 9223372036854775808) (ht : t < σ.n) :
    OpS P C ⟨some t, .binOp .quo xt x y yt, ty, pos, aft, g⟩ σ (σ.set t (.int ((m / n : Nat) : Int))) :=
  R.binE hx hy rfl (show (n : Int) ≠ 0 by omega) (wr_eq (by rw [Int.ofNat_tdiv]) (by have : (0 : Int) ≤ ((m / n : Nat) : Int) := Int.natCast_nonneg _; omega) (by have := Nat.div_le_self m n; omega)) ht
theorem R.remN (m n : Nat) (hx : ev C.gl σ x = some (.int (m : Int))) (hy : ev C.gl σ y = some (.int (n : Int))) (h : 0 < n) (ht : t < σ.n) :
    OpS P C ⟨some t, .binOp .rem xt x y yt, ty, pos, aft, g⟩ σ (σ.set t (.int ((m % n : Nat) : Int))) :=
  R.binE hx hy rfl (show (n : Int) ≠ 0 by omega) (congrArg D.int (by rw [Int.ofNat_tmod])) ht
theorem R.lssN (m n : Nat) (hx : ev C.gl σ x = some (.int (m : Int))) (hy : ev C.gl σ y = some (.int (n : Int))) (ht : t < σ.n) :
    OpS P C ⟨some t, .binOp .lss xt x y yt, ty, pos, aft, g⟩ σ (σ.set t (.bool (decide (m < n)))) := R.binE hx hy rfl trivial (congrArg D.bool (by rw [Bool.eq_iff_iff]; simp)) ht
theorem R.leqN (m n : Nat) (hx : ev C.gl σ x = some (.int (m : Int))) (hy : ev C.gl σ y = some (.int (n : Int))) (ht : t < σ.n) :
    OpS P C ⟨some t, .binOp .leq xt x y yt, ty, pos, aft, g⟩ σ (σ.set t (.bool (decide (m ≤ n)))) := R.binE hx hy rfl trivial (congrArg D.bool (by rw [Bool.eq_iff_iff]; simp)) ht
theorem R.gtrN (m n : Nat) (hx : ev C.gl σ x = some (.int (m : Int))) (hy : ev C.gl σ y = some (.int (n : Int))) (ht : t < σ.n) :
    OpS P C ⟨some t, .binOp .gtr xt x y yt, ty, pos, aft, g⟩ σ (σ.set t (.bool (decide (n < m)))) := R.binE hx hy rfl trivial (congrArg D.bool (by rw [Bool.eq_iff_iff]; simp)) ht
theorem R.geqN (m n : Nat) (hx : ev C.gl σ x = some (.int (m : Int))) (hy : ev C.gl σ y = some (.int (n : Int))) (ht : t < σ.n) :
    OpS P C ⟨some t, .binOp .geq xt x y yt, ty, pos, aft, g⟩ σ (σ.set t (.bool (decide (n ≤ m)))) := R.binE hx hy rfl trivial (congrArg D.bool (by rw [Bool.eq_iff_iff]; simp)) ht
theorem R.eqlN (m n : Nat) (hx : ev C.gl σ x = some (.int (m : Int))) (hy : ev C.gl σ y = some (.int (n : Int))) (ht : t < σ.n) :
    OpS P C ⟨some t, .binOp .eql xt x y yt, ty, pos, aft, g⟩ σ (σ.set t (.bool (decide (m = n)))) := R.binE hx hy rfl trivial (congrArg D.bool (by rw [Bool.eq_iff_iff]; simp; omega)) ht
theorem R.neqN (m n : Nat) (hx : ev C.gl σ x = some (.int (m : Int))) (hy : ev C.gl σ y = some (.int (n : Int))) (ht : t < σ.n) :
    OpS P C ⟨some t, .binOp .neq xt x y yt, ty, pos, aft, g⟩ σ (σ.set t (.bool (decide (m ≠ n)))) := R.binE hx hy rfl trivial (congrArg D.bool (by rw [Bool.eq_iff_iff]; simp; omega)) ht

theorem map_get! {α : Type} [Inhabited α] {f : α → D} {l : List α} {i : Nat} (h : i < l.length) : (l.map f)[i]? = some (f l[i]!) := by
  rw [List.getElem?_map, List.getElem?_eq_getElem h]
  simp [h]
theorem W.condD {Q : Exit → Sg → Prop} {x y : Code} {t : Nat} {p : Prop} [Decidable p] (ht : σ.get t = some (.bool (decide p))) (h1 : p → W P C x Q σ) (h2 : ¬ p → W P C y Q σ) : W P C (.cond (.tmp t) x y) Q σ :=
  W.cond ht (fun h => h1 (of_decide_eq_true h)) (fun h => h2 (of_decide_eq_false h))
theorem W.condT {Q : Exit → Sg → Prop} {x y : Code} {t : Nat} {b : Bool} (ht : σ.get t = some (.bool b)) (hb : b = true) (h1 : W P C x Q σ) : W P C (.cond (.tmp t) x y) Q σ :=
  W.cond ht (fun _ => h1) (fun h => by rw [hb] at h; cases h)
theorem W.condF {Q : Exit → Sg → Prop} {x y : Code} {t : Nat} {b : Bool} (ht : σ.get t = some (.bool b)) (hb : b = false) (h1 : W P C y Q σ) : W P C (.cond (.tmp t) x y) Q σ :=
  W.cond ht (fun h => by rw [hb] at h; cases h) (fun _ => h1)
/-- a meeting point -/
theorem W.seqM {Q : Exit → Sg → Prop} {x y : Code} (M : Sg → Prop) (h1 : W P C x (fun e s => match e with | .normal => M s | e => Q e s) σ) (h2 : ∀ s, M s → W P C y Q s) : W P C (.seq x y) Q σ :=
  W.seq (h1.mono (fun e s h => by cases e <;> first | exact h2 s h | exact h))
theorem Ends.one' {rv : ResultVar} {r r' : D} {e : Exit} {σ : Sg} (he : e = .normal ∨ e = .ret) (h : outS σ rv = some r') (hr : r' = r) (h1 : r.isRef = false) (h2 : r.np = true) (h3 : RtT P r rv) : Ends [rv] P r e σ := by
  subst hr; exact ⟨he, h, h1, h2, h3⟩

theorem evg {gl : List (Nat × D)} {gg : Nat} {d : D} (hC : C.gl = gl) (h : lk gl gg = some d) : ev C.gl σ (.global gg) = some (.rp d) := by
  rw [hC]; simp only [ev, h, Option.map_some]
theorem evoI {gl : List (Nat × D)} {n m : Int} (h : ev gl σ x = some (.int n)) : evo gl σ (some x) m = some n := by simp only [evo, h, D.cnt]
theorem evo8 {gl : List (Nat × D)} {n : UInt8} {m : Int} (h : ev gl σ x = some (.u8 n)) : evo gl σ (some x) m = some (n.toNat : Int) := by simp only [evo, h, D.cnt]
theorem evo16 {gl : List (Nat × D)} {n : UInt16} {m : Int} (h : ev gl σ x = some (.u16 n)) : evo gl σ (some x) m = some (n.toNat : Int) := by simp only [evo, h, D.cnt]
theorem evo32 {gl : List (Nat × D)} {n : UInt32} {m : Int} (h : ev gl σ x = some (.u32 n)) : evo gl σ (some x) m = some (n.toNat : Int) := by simp only [evo, h, D.cnt]
theorem evo64 {gl : List (Nat × D)} {n : UInt64} {m : Int} (h : ev gl σ x = some (.u64 n)) : evo gl σ (some x) m = some (n.toNat : Int) := by simp only [evo, h, D.cnt]

theorem brw_map {α : Type} {f : α → D} {l : List α} (h : ∀ x, (f x).brw = f x) : (l.map f).map D.brw = l.map f := by simp [Function.comp_def, h]
theorem frs_map {α : Type} {f : α → D} {l : List α} (h : ∀ x, Frs (f x)) : ∀ x ∈ l.map f, Frs x := by
  intro x hx
  obtain ⟨y, _, rfl⟩ := List.mem_map.1 hx
  exact h y
theorem pur_map {α : Type} {f : α → D} {l : List α} (h : ∀ x, (f x).pur = true) : ∀ x ∈ l.map f, x.pur = true := by
  intro x hx
  obtain ⟨y, _, rfl⟩ := List.mem_map.1 hx
  exact h y
theorem np_map {α : Type} {f : α → D} {l : List α} (h : ∀ x, (f x).np = true) : ∀ x ∈ l.map f, x.np = true := by
  intro x hx
  obtain ⟨y, _, rfl⟩ := List.mem_map.1 hx
  exact h y
theorem frs_nil : ∀ x ∈ ([] : List D), Frs x := fun _ h => by cases h
theorem frs_cons {d : D} {l : List D} (h : Frs d) (hl : ∀ x ∈ l, Frs x) : ∀ x ∈ d :: l, Frs x := fun x hx => by
  rcases List.mem_cons.1 hx with rfl | hx
  · exact h
  · exact hl x hx
theorem FrsR.one {r : D} (h : Frs r) : FrsR r := .inr ⟨fun ds e => (by rw [e] at h; cases h), h⟩
theorem R.callG {f : FuncId} [CaT P f] {gl : List (Nat × D)} {args : List Operand} {tys : Array TypeId} {rt : TypeId} {ds : List D} {r : D}
    (hC : C.gl = gl) (hF : Fn P gl f ds r) (hb : Bors C.gl σ args ds) (hr : FrsR r) (ht : t < σ.n) :
    OpS P C ⟨some t, .call { callee := .value (.func f), args := args.toArray, argTypes := tys }, rt, pos, aft, g⟩ σ (σ.set t r) := by
  subst hC; exact R.call hF hb hr ht
/-- no slice is an empty one -/
theorem W.asOwn {c : Code} {Q : Exit → Sg → Prop} {s : Nat} (e z : Nat) (h : σ.get s = some .nils) (k : W P C c Q (σ.upd s (.sl (some e) z []))) : W P C c Q σ := by
  intro a w ⟨ρ, Fe, Fb, st⟩
  refine k a w ⟨ρ, _, Fb, st.turn (F := []) h rfl rfl rfl (Nat.le_refl _) (fun _ _ _ => rfl) List.nodup_nil (by simp) ?_⟩
  obtain ⟨v, hv, hr⟩ := (SR_plain rfl).1 (st.env _ _ h)
  simp only [VR, D.isAgg, Bool.false_eq_true, if_false] at hr
  refine (SR_plain rfl).2 ⟨v, hv, ?_⟩
  simp only [VR, D.isAgg, Bool.false_eq_true, if_false]
  rw [hr.nil_val]
  exact .slN _ _

inductive Evs (gl : List (Nat × D)) (σ : Sg) : List (Nat × Operand) → Nat → List D → Prop
  | nil {k : Nat} : Evs gl σ [] k []
  | cons {k : Nat} {x : Operand} {d : D} {ps : List (Nat × Operand)} {ds : List D} (h : ev gl σ x = some d) (t : Evs gl σ ps (k + 1) ds) : Evs gl σ ((k, x) :: ps) k (d :: ds)
theorem Evs.ok {gl : List (Nat × D)} {ps : List (Nat × Operand)} {k : Nat} {ds : List D} (h : Evs gl σ ps k ds) : evs gl σ ps k = some ds := by
  induction h with
  | nil => rfl
  | cons h t ih => simp [evs, h, ih]
inductive EvS (gl : List (Nat × D)) (σ : Sg) : List (Nat × Operand) → List D → List D → Prop
  | nil {l l' : List D} (h : l = l') : EvS gl σ [] l l'
  | cons {i : Nat} {x : Operand} {d : D} {ps : List (Nat × Operand)} {l l' : List D} (h : ev gl σ x = some d) (t : EvS gl σ ps (l.set i d) l') : EvS gl σ ((i, x) :: ps) l l'
theorem EvS.ok {gl : List (Nat × D)} {ps : List (Nat × Operand)} {l l' : List D} (h : EvS gl σ ps l l') : evsS gl σ ps l = some l' := by
  induction h with
  | nil h => subst h; rfl
  | cons h t ih => simp [evsS, h, ih]
theorem R.bslE {t e z bytes k : Nat} {ps : List (Nat × Operand)} {ds : List D} {ty rt : TypeId} {pos : String} {aft : Array Edge} {g : Option (Nat × Bool)} [hT : SlT P ty e] [hE : ElT P e z bytes]
    (hps : Evs C.gl σ ps 0 ds) (hp : PurZ z ds) (hk : ds.length = k) (ht : t < σ.n) (hsm : k * z ≤ 16777216) :
    OpS P C ⟨some t, .buildSlice ty k ps.toArray, rt, pos, aft, g⟩ σ (σ.set t (.sl (some e) z ds)) := R.bsl hps.ok hp hk ht hsm
theorem R.bldAE {t n e z : Nat} {ps : List (Nat × Operand)} {ds : List D} {ty rt : TypeId} {pos : String} {aft : Array Edge} {g : Option (Nat × Bool)} [hT : BaT P ty n e z]
    (hps : Evs C.gl σ ps 0 ds) (hp : PurZ z ds) (hk : ds.length = n) (ht : t < σ.n) :
    OpS P C ⟨some t, .build ty ps.toArray, rt, pos, aft, g⟩ σ (σ.set t (.arr n z ds)) := R.bldA hps.ok hp hk ht
theorem R.bldSE {t : Nat} {ps : List (Nat × Operand)} {l l' : List D} {ty rt : TypeId} {pos : String} {aft : Array Edge} {g : Option (Nat × Bool)} [hT : BsT P ty l]
    (hps : EvS C.gl σ ps l l') (hp : PurS C.gl σ l ps) (ht : t < σ.n) :
    OpS P C ⟨some t, .build ty ps.toArray, rt, pos, aft, g⟩ σ (σ.set t (.agg l')) := R.bldS hps.ok hp ht

theorem R.lenE {s t z n : Nat} {l : List D} {ty e rt : TypeId} [hT : SlT P ty e] (h : SC σ s z l) (hl : l.length = n) (ht : t < σ.n) :
    OpS P C ⟨some t, .call { callee := .builtin .len, args := #[.tmp s], argTypes := #[ty] }, rt, pos, aft, g⟩ σ (σ.set t (.int ((n : Nat) : Int))) := by
  subst hl; exact R.len h ht

/-! ### places, by parts -/
theorem loc_nil {d : D} : d.loc [] = some (0, d) := by cases d <;> rfl
theorem loc_agg {l : List D} {k o o' m : Nat} {p : List Nat} {d d' : D} (h : l[k]? = some d) (hm : offk l k = m) (hp : d.loc p = some (o', d')) (ho : o = m + o') : (D.agg l).loc (k :: p) = some (o, d') := by
  subst ho; subst hm; simp only [D.loc, h, hp]
theorem loc_arr {n z : Nat} {l : List D} {k o o' : Nat} {p : List Nat} {d d' : D} (h : l[k]? = some d) (hp : d.loc p = some (o', d')) (ho : o = k * z + o') : (D.arr n z l).loc (k :: p) = some (o, d') := by
  subst ho; simp only [D.loc, h, hp]
theorem upd_nil {d x : D} : d.upd [] x = some x := by cases d <;> rfl
theorem upd_agg {l l' : List D} {k : Nat} {p : List Nat} {d d' x : D} (h : l[k]? = some d) (hp : d.upd p x = some d') (he : l.set k d' = l') : (D.agg l).upd (k :: p) x = some (.agg l') := by
  subst he; simp only [D.upd, h, hp]
theorem upd_arr {n z : Nat} {l l' : List D} {k : Nat} {p : List Nat} {d d' x : D} (h : l[k]? = some d) (hp : d.upd p x = some d') (he : l.set k d' = l') : (D.arr n z l).upd (k :: p) x = some (.arr n z l') := by
  subst he; simp only [D.upd, h, hp]
theorem set_map {α : Type} {f : α → D} {l : List α} {i : Nat} {v : α} : (l.map f).set i (f v) = (l.set i v).map f := (List.map_set ..).symm

theorem brw_arr {α : Type} {f : α → D} {l : List α} {n z : Nat} (h : ∀ x, (f x).brw = f x) : (D.arr n z (l.map f)).brw = .arr n z (l.map f) := by
  simp only [D.brw, brws_eq, brw_map h]
theorem brw_sl {α : Type} {f : α → D} {l : List α} {o : Option Nat} {z : Nat} (h : ∀ x, (f x).brw = f x) : (D.sl o z (l.map f)).brw = .sl none z (l.map f) := by
  simp only [D.brw, brws_eq, brw_map h]

/-- a pointer that is not nil -/
theorem R.nilc {d : D} {rt : TypeId} (hx : ev C.gl σ x = some (.rp d)) (ht : t < σ.n) : OpS P C ⟨some t, .nilCheck x, rt, pos, aft, g⟩ σ (σ.set t (.rp d)) := by
  refine OpS.value fun a w ⟨ρ, Fe, Fb, st⟩ => ?_
  obtain ⟨F, hv, _⟩ := ev_ok st hx rfl
  have hF := hv.pur rfl
  subst hF
  have hv0 := hv
  simp only [VR, D.isAgg, Bool.false_eq_true, if_false] at hv
  generalize hex : a.eval x = v at hv
  cases hv with
  | rp _ b off cs e fz hb hG hs hr =>
    refine ⟨a.eval x, w, ?_, st.put ht rfl hv0⟩
    unfold execOp
    simp [hex]
theorem R.nilcP {s id off : Nat} {path : List Nat} {rt : TypeId} (hx : σ.get s = some (.ptr id off path)) (ht : t < σ.n) : OpS P C ⟨some t, .nilCheck (.tmp s), rt, pos, aft, g⟩ σ (σ.set t (.ptr id off path)) := by
  refine OpS.value fun a w ⟨ρ, Fe, Fb, st⟩ => ?_
  obtain ⟨v, hv, hr⟩ := (SR_plain rfl).1 (st.env _ _ hx)
  have hr0 := hr
  have hF := hr.pur rfl
  simp only [VR, D.isAgg, Bool.false_eq_true, if_false] at hr
  generalize Fe s = F at hr
  cases hr with
  | ptr _ _ _ hL =>
    rw [hF] at hr0
    refine ⟨_, w, ?_, st.put ht rfl hr0⟩
    unfold execOp
    simp [eval_tmp hv]

/-- a part of an array behind a pointer -/
theorem R.slR {t e z bytes m : Nat} {l : List D} {lo hi : Option Operand} {i j : Int} {ty rt : TypeId} [hT : ArT P ty m e] [hE : ElT P e z bytes]
    (hx : ev C.gl σ x = some (.rp (.arr m z l))) (hl : evo C.gl σ lo 0 = some i) (hh : evo C.gl σ hi m = some j) (h0 : 0 ≤ i) (h1 : i ≤ j) (h2 : j ≤ m) (ht : t < σ.n) :
    OpS P C ⟨some t, .slice ty x lo hi none, rt, pos, aft, g⟩ σ (σ.set t (.sl none z ((l.drop i.toNat).take (j - i).toNat))) := by
  refine OpS.value fun a w ⟨ρ, Fe, Fb, st⟩ => ?_
  obtain ⟨F, hv, _⟩ := ev_ok st hx rfl
  have hF := hv.pur rfl
  subst hF
  simp only [VR, D.isAgg, Bool.false_eq_true, if_false] at hv
  generalize hex : a.eval x = vx at hv
  cases hv with
  | rp _ b off cs e' fz hb hG hs hr =>
    cases hr with
    | arr _ _ _ _ hlm hsz hrr =>
      simp only [sz_arr] at hs hsz hrr
      have hlen : ((l.drop i.toNat).take (j - i).toNat).length = (j - i).toNat := by simp; omega
      have e1 : j.toNat - i.toNat = (j - i).toNat := by omega
      have hbd := run_bounds (P := P) st (b := false) (len := m) (cap := m) hl hh h0 h1 h2 (Nat.le_refl _)
      refine ⟨.slice (some (if m = i.toNat then ⟨b, off, none⟩ else ⟨b, off + i.toNat * z, none⟩)) (j - i).toNat (m - i.toNat), w, ?_, st.put ht rfl ?_⟩
      · unfold execOp
        cases lo <;> cases hi <;> simp_all [Instr.sliceAt, Instr.sureAddr, run_underlying hT.u, ElT.size (P := P) (e := e), add_lit] <;> split <;> simp_all
      · simp only [VR, D.isAgg, Bool.false_eq_true, if_false]
        have hjz : ((j - i).toNat) * z + i.toNat * z ≤ m * z := by
          rw [← Nat.add_mul]; exact Nat.mul_le_mul_right z (by omega)
        by_cases hci : m = i.toNat
        · simp only [hci, if_true, Nat.sub_self]
          have h3 : (j - i).toNat = 0 := by omega
          have := Rc.slI (w := w) (ρ := ρ) (G := gd C Fe Fb) (L := fun id => (σ.box id).isSome) (p := true) b off cs e' fz 0 z [] hb hG (Nat.zero_le _) (by simp; omega) (fun k hk => by simp at hk)
          simpa [h3] using this
        · simp only [hci, if_false]
          have := Rc.slI (w := w) (ρ := ρ) (G := gd C Fe Fb) (L := fun id => (σ.box id).isSome) (p := true) b (off + i.toNat * z) cs e' fz (m - i.toNat) z ((l.drop i.toNat).take (j - i).toNat) hb hG (by rw [hlen]; omega)
            (by rw [hlen]; omega) (fun k hk => by
              rw [hlen] at hk
              simp only [List.getElem_take, List.getElem_drop]
              have h5 := hrr (i.toNat + k) (by omega)
              have h6 : (i.toNat + k) * z + z ≤ m * z := by
                have := Nat.mul_le_mul_right z (show i.toNat + k + 1 ≤ m by omega)
                rw [Nat.add_mul (i.toNat + k) 1 z] at this; omega
              rw [sub_sub _ _ _ _ _ h6, Nat.add_mul, ← Nat.add_assoc] at h5
              exact h5)
          rw [hlen] at this
          exact this
theorem view_get! {α : Type} [Inhabited α] {f : α → D} {l : List α} {lo n i : Nat} (h : lo + i < l.length) (hn : i < n) : (((l.map f).drop lo).take n)[i]? = some (f l[lo + i]!) := by
  rw [List.getElem?_take, if_pos hn, List.getElem?_drop]
  exact map_get! h

/-! ### parts of slices, the bounds as natural numbers -/
theorem R.slRN {t e z bytes m : Nat} {l l' : List D} {lo hi : Option Operand} {i j : Int} {ty rt : TypeId} [hT : ArT P ty m e] [hE : ElT P e z bytes] (a b n : Nat)
    (hx : ev C.gl σ x = some (.rp (.arr m z l))) (hl : evo C.gl σ lo 0 = some i) (hh : evo C.gl σ hi m = some j) (hi' : i = a) (hj : j = b) (h1 : a ≤ b) (h2 : b ≤ m) (hn : b - a = n) (he : (l.drop a).take n = l') (ht : t < σ.n) :
    OpS P C ⟨some t, .slice ty x lo hi none, rt, pos, aft, g⟩ σ (σ.set t (.sl none z l')) := by
  subst hi'; subst hj; subst he
  have := R.slR (P := P) (C := C) (e := e) (ty := ty) (pos := pos) (aft := aft) (g := g) (rt := rt) hx hl hh (by omega) (by omega) (by omega) ht
  have e1 : ((b : Int) - (a : Int)).toNat = n := by omega
  have e2 : ((a : Int)).toNat = a := rfl
  rw [e1, e2] at this
  exact this
theorem R.slIN {t e z bytes : Nat} {l l' : List D} {lo hi : Option Operand} {i j : Int} {ty rt : TypeId} [hT : SlT P ty e] [hE : ElT P e z bytes] (a b n : Nat)
    (hx : ev C.gl σ x = some (.sl none z l)) (hl : evo C.gl σ lo 0 = some i) (hh : evo C.gl σ hi l.length = some j) (hi' : i = a) (hj : j = b) (h1 : a ≤ b) (h2 : b ≤ l.length) (hn : b - a = n) (he : (l.drop a).take n = l') (ht : t < σ.n) :
    OpS P C ⟨some t, .slice ty x lo hi none, rt, pos, aft, g⟩ σ (σ.set t (.sl none z l')) := by
  subst hi'; subst hj; subst he
  have := R.slI (P := P) (C := C) (e := e) (ty := ty) (pos := pos) (aft := aft) (g := g) (rt := rt) hx hl hh (by omega) (by omega) (by omega) ht
  have e1 : ((b : Int) - (a : Int)).toNat = n := by omega
  have e2 : ((a : Int)).toNat = a := rfl
  rw [e1, e2] at this
  exact this
theorem R.slVN {s t e z bytes : Nat} {l : List D} {lo hi : Option Operand} {i j : Int} {ty rt : TypeId} [hT : SlT P ty e] [hE : ElT P e z bytes] (a b n : Nat)
    (hx : SC σ s z l) (hl : evo C.gl σ lo 0 = some i) (hh : evo C.gl σ hi l.length = some j) (hi' : i = a) (hj : j = b) (h1 : a ≤ b) (h2 : b ≤ l.length) (hn : b - a = n) (ht : t < σ.n) (hst : s ≠ t) :
    OpS P C ⟨some t, .slice ty (.tmp s) lo hi none, rt, pos, aft, g⟩ σ (σ.set t (.vw s z a n)) := by
  subst hi'; subst hj
  have := R.slV (P := P) (C := C) (e := e) (ty := ty) (pos := pos) (aft := aft) (g := g) (rt := rt) hx hl hh (by omega) (by omega) (by omega) ht hst
  have e1 : ((b : Int) - (a : Int)).toNat = n := by omega
  have e2 : ((a : Int)).toNat = a := rfl
  rw [e1, e2] at this
  exact this
theorem R.slAN {s t e z bytes m id off : Nat} {path : List Nat} {d0 : D} {l : List D} {lo hi : Option Operand} {i j : Int} {ty rt : TypeId} [hT : ArT P ty m e] [hE : ElT P e z bytes] (a b n : Nat)
    (hx : σ.get s = some (.ptr id off path)) (hb : σ.box id = some (.var d0)) (hloc : d0.loc path = some (off, .arr m z l)) (hl : evo C.gl σ lo 0 = some i) (hh : evo C.gl σ hi m = some j) (hi' : i = a) (hj : j = b) (h1 : a ≤ b) (h2 : b ≤ m) (hn : b - a = n) (ht : t < σ.n) :
    OpS P C ⟨some t, .slice ty (.tmp s) lo hi none, rt, pos, aft, g⟩ σ (σ.set t (.va id off z n path a)) := by
  subst hi'; subst hj
  have := R.slA (P := P) (C := C) (e := e) (ty := ty) (pos := pos) (aft := aft) (g := g) (rt := rt) hx hb hloc hl hh (by omega) (by omega) (by omega) ht
  have e1 : ((b : Int) - (a : Int)).toNat = n := by omega
  have e2 : ((a : Int)).toNat = a := rfl
  rw [e1, e2] at this
  exact this
theorem part_map {α : Type} {f : α → D} {l : List α} {a n : Nat} : ((l.map f).drop a).take n = ((l.drop a).take n).map f := by rw [List.map_take, List.map_drop]
theorem part_get! {α : Type} [Inhabited α] {f : α → D} {l : List α} {lo n i : Nat} (h : lo + i < l.length) (hn : i < n) : (((l.drop lo).take n).map f)[i]? = some (f l[lo + i]!) := by
  rw [← part_map]; exact view_get! h hn
theorem rest_map {α : Type} {f : α → D} {l : List α} {a : Nat} : ((l.map f).drop a).take (l.length - a) = (l.drop a).map f := by
  rw [← List.map_drop, List.take_of_length_le (by simp)]
theorem R.cpAE {s t e z bytes id off n lo m k : Nat} {path : List Nat} {d0 d' : D} {l l' l2 : List D} {ty ty2 rt : TypeId} [hT : SlT P ty e] [hE : ElT P e z bytes]
    (h : σ.get s = some (.va id off z n path lo)) (hb : σ.box id = some (.var d0)) (hl : d0.loc path = some (off, .arr m z l)) (hlo : lo + n ≤ m) (hx : SrcO C.gl σ x z l') (hnp : ∀ y ∈ l', y.np = true) (ht : t < σ.n)
    (hk : min l'.length n = k) (he : l.take lo ++ l'.take k ++ l.drop (lo + k) = l2) (hu : d0.upd path (.arr m z l2) = some d') :
    OpS P C ⟨some t, .call { callee := .builtin .copy, args := #[.tmp s, x], argTypes := #[ty, ty2] }, rt, pos, aft, g⟩ σ ((σ.putB id (.var d')).set t (.int ((k : Nat) : Int))) := by
  subst hk; subst he
  exact R.cpA h hb hl hlo hx hnp ht hu
theorem W.dropS {c : Code} {Q : Exit → Sg → Prop} {live : List Nat} {env' : List (Nat × D)} {bx' : List (Nat × Bx)} {n' : Nat} (hE : picks σ.get live = env') (hb : σ.bx = bx') (hn : σ.n = n') (h : W P C c Q ⟨n', env', bx'⟩) : W P C c Q σ := W.drop hE hb hn h
theorem brw_part {α : Type} {f : α → D} {l : List α} {a n : Nat} (h : ∀ x, (f x).brw = f x) : (((l.map f).drop a).take n).map D.brw = ((l.drop a).take n).map f := by
  rw [part_map, brw_map h]
theorem brw_all {α : Type} {f : α → D} {l : List α} {n : Nat} (h : ∀ x, (f x).brw = f x) (hn : l.length = n) : (((l.map f).drop 0).take n).map D.brw = l.map f := by
  rw [brw_part h, List.drop_zero, List.take_of_length_le (by omega)]
theorem R.stZ {p id off : Nat} {path : List Nat} {d0 d1 d' dx : D} {n rt : TypeId} {gg : Bool} [LdT P ty n gg]
    (h : σ.get p = some (.ptr id off path)) (hb : σ.box id = some (.var d0)) (hl : d0.loc path = some (off, d1)) (hx : ev C.gl σ x = some dx) (hp : dx.pur = true) (hnp : dx.np = true)
    (hn : dx.sz = n) (hz : d1.sz = n) (hu : d0.upd path dx = some d') :
    OpS P C ⟨none, .store ty (.tmp p) x, rt, pos, aft, g⟩ σ (σ.putB id (.var d')) := R.st h hb hl hx hp hnp hn (hn.trans hz.symm) hu
theorem R.stEZ {p s s0 e z i off : Nat} {path : List Nat} {l : List D} {d0 d1 d' dx : D} {n rt : TypeId} {gg : Bool} [LdT P ty n gg]
    (h : σ.get p = some (.ep s z i off path)) (ho : ownr σ s s0) (hs : σ.get s0 = some (.sl (some e) z l)) (hi : l[i]? = some d0) (hl : d0.loc path = some (off, d1))
    (hx : ev C.gl σ x = some dx) (hxp : dx.pur = true) (hxn : dx.np = true) (hz : dx.sz = n) (hz1 : d1.sz = n) (hu : d0.upd path dx = some d') :
    OpS P C ⟨none, .store ty (.tmp p) x, rt, pos, aft, g⟩ σ (σ.upd s0 (.sl (some e) z (l.set i d'))) := R.stE h ho hs hi hl hx hxp hxn hz (hz.trans hz1.symm) hu
theorem app_map {α β : Type} {f : α → β} {l l' : List α} : l.map f ++ l'.map f = (l ++ l').map f := List.map_append.symm
theorem app_one {α β : Type} {f : α → β} {l : List α} {v : α} : l.map f ++ [f v] = (l ++ [v]).map f := by simp
theorem R.appE {s s0 t e z bytes : Nat} {l l' l2 : List D} {ty rt : TypeId} [hT : SlT P ty e] [hE : ElT P e z bytes]
    (ho : ownr σ s s0) (hs : σ.get s0 = some (.sl (some e) z l)) (hx : SrcO C.gl σ x z l') (he : l ++ l' = l2) (hn : l.length + l'.length ≤ 1073741824) (ht : t < σ.n) (hst : s0 ≠ t) (hby : bytes ≤ 131072) :
    OpS P C ⟨some t, .call { callee := .builtin .append, args := #[.tmp s, x], argTypes := #[ty, ty] }, rt, pos, aft, g⟩ σ ((σ.kill s0).set t (.sl (some e) z l2)) := by
  subst he; exact R.app ho hs hx hn ht hst hby
theorem R.stEY {p s s0 e z i off : Nat} {path : List Nat} {l l2 : List D} {d0 d1 d' dx : D} {n rt : TypeId} {gg : Bool} [LdT P ty n gg]
    (h : σ.get p = some (.ep s z i off path)) (ho : ownr σ s s0) (hs : σ.get s0 = some (.sl (some e) z l)) (hi : l[i]? = some d0) (hl : d0.loc path = some (off, d1))
    (hx : ev C.gl σ x = some dx) (hxp : dx.pur = true) (hxn : dx.np = true) (hz : dx.sz = n) (hz1 : d1.sz = n) (hu : d0.upd path dx = some d') (he : l.set i d' = l2) :
    OpS P C ⟨none, .store ty (.tmp p) x, rt, pos, aft, g⟩ σ (σ.upd s0 (.sl (some e) z l2)) := by
  subst he; exact R.stEZ h ho hs hi hl hx hxp hxn hz hz1 hu
theorem gw {b v wt want : Bool} (h : b = v) (hw : wt = (v == want)) : wt = (b == want) := by subst h; exact hw
theorem pur_lit {l : List D} (h : D.purs l = true) : ∀ y ∈ l, y.pur = true := fun y hy => by
  obtain ⟨k, hk, rfl⟩ := List.mem_iff_getElem.1 hy
  exact purs_get l h k hk
theorem R.eqAE {x y : Operand} {t e n : Nat} {xs ys : List UInt8} {xt yt ty : TypeId} {pos : String} {aft : Array Edge} {g : Option (Nat × Bool)} [hT : ArT P xt n e] [hk : IkT P e .u8] [hL : LdT P e 1 false] [hE : EqT P xt]
    (hx : ev C.gl σ x = some (.arr n 1 (xs.map .u8))) (hy : ev C.gl σ y = some (.arr n 1 (ys.map .u8))) (ht : t < σ.n) :
    OpS P C ⟨some t, .binOp .eql xt x y yt, ty, pos, aft, g⟩ σ (σ.set t (.bool (xs == ys))) := R.eqA (neg := false) hx hy ht
theorem R.eqAX {x y : Operand} {t e n : Nat} {xs ys : List UInt8} {xt yt ty : TypeId} {pos : String} {aft : Array Edge} {g : Option (Nat × Bool)} [hT : ArT P xt n e] [hk : IkT P e .u8] [hL : LdT P e 1 false] [hE : EqT P xt]
    (hx : ev C.gl σ x = some (.arr n 1 (xs.map .u8))) (hy : ev C.gl σ y = some (.arr n 1 (ys.map .u8))) (ht : t < σ.n) :
    OpS P C ⟨some t, .binOp .neq xt x y yt, ty, pos, aft, g⟩ σ (σ.set t (.bool (xs != ys))) := R.eqA (neg := true) hx hy ht
end Go.Sx
