/-
  Own library, part 18: new slices by length, parts of slices, places in arrays, values with parts.
-/
import Derived.Test.YtlpacmknoknpoaaDoorSxApp2
import Derived.Laws.CopyRow
import Derived.ChangeKeysEq
set_option linter.unusedVariables false
set_option linter.unusedSimpArgs false
set_option linter.unnecessarySimpa false
namespace Go.Sx

variable {P : Program} {C : Ctx} {σ σ' σ1 : Sg} {a : Act} {w w' : World} {ρ : Nat → Nat} {Fe Fe' Fb : Nat → List Nat}

/-! ### by length -/
theorem madeCells_part (z : Array Value) (n i : Nat) (hi : i < n) : ((madeCells z (n * z.size)).toList.drop (i * z.size)).take z.size = z.toList := by
  have h1 : i * z.size + z.size ≤ n * z.size := by
    have := Nat.mul_le_mul_right z.size (show i + 1 ≤ n by omega)
    rw [Nat.add_mul] at this; omega
  apply List.ext_getElem?
  intro j
  by_cases hj : j < z.size
  · rw [List.getElem?_take, if_pos hj, List.getElem?_drop]
    have h2 : i * z.size + j < n * z.size := by omega
    have h3 : (i * z.size + j) % z.size = j := by rw [Nat.add_comm, Nat.add_mul_mod_self_right, Nat.mod_eq_of_lt hj]
    simp [madeCells, h2, h3, hj]
  · rw [List.getElem?_take, if_neg hj]
    simp; omega

theorem R.mk {t e z bytes : Nat} {x y : Operand} {n : Nat} {d : D} {ty rt : TypeId} {pos : String} {aft : Array Edge} {g : Option (Nat × Bool)} [hT : SlT P ty e] [hE : ElT P e z bytes] [hZ : ZrT P e d]
    (hx : ev C.gl σ x = some (.int (n : Int))) (hy : ev C.gl σ y = some (.int (n : Int))) (hn : n ≤ 1073741824) (hby : bytes ≤ 131072) (ht : t < σ.n) :
    OpS P C ⟨some t, .makeSlice ty x y, rt, pos, aft, g⟩ σ (σ.set t (.sl (some e) z (List.replicate n d))) := by
  refine OpS.value fun a w ⟨ρ, Fe, Fb, st⟩ => ?_
  obtain ⟨i, zv, hi, hsz, hbyt, hz, hzs, hpos⟩ := hE.i
  obtain ⟨i', zv', hi', hz', hchk, hag⟩ := hZ.i
  rw [hi] at hi'
  cases hi'
  rw [hz] at hz'
  cases hz'
  obtain ⟨Fx, hvx, _⟩ := ev_ok st hx rfl
  obtain ⟨Fy, hvy, _⟩ := ev_ok st hy rfl
  simp only [VR, D.isAgg, Bool.false_eq_true, if_false] at hvx hvy
  generalize hex : a.eval x = vx at hvx
  generalize hey : a.eval y = vy at hvy
  cases hvx
  cases hvy
  have hb : (i.bytes : Int) * (n : Int) ≤ 281474976710656 := by
    rw [hbyt]
    have : bytes * n ≤ 131072 * 1073741824 := Nat.mul_le_mul hby hn
    have h2 : ((bytes * n : Nat) : Int) ≤ 281474976710656 := by omega
    rwa [Int.natCast_mul] at h2
  have hrun := run_make (P := P) w ty e i zv hT.u hi hz .i64 .i64 n n (by omega) (Int.le_refl _) hb (by omega)
  simp only [Int.toNat_natCast, hsz] at hrun
  have hst := st.newSl (e := e) (z := z) (l := List.replicate n d) (cs := madeCells zv.cells (n * z)) ht (by simp only [List.length_replicate, maxLen]; omega) (by simp [size_madeCells]) (fun j hj => by
    have hj' : j < n := by simpa using hj
    rw [← hzs, madeCells_part _ _ _ hj']
    simp only [List.getElem_replicate]
    exact chk_ok _ _ _ _ d _ hchk)
  simp only [List.length_replicate] at hst
  refine ⟨_, _, ?_, hst⟩
  unfold execOp
  simp [hex, hey, hrun]

/-! ### parts of slices -/
/-- a bound -/
def evo (gl : List (Nat × D)) (σ : Sg) (x : Option Operand) (n : Int) : Option Int :=
  match x with
  | none => some n
  | some x => match ev gl σ x with
    | some d => d.cnt
    | none => none

theorem bound_ok (st : StW C σ a w ρ Fe Fb) {x : Operand} {n : Int} (h : (match ev C.gl σ x with | some d => d.cnt | none => none) = some n) : ∃ k, a.eval x = .int k n := by
  cases hx : ev C.gl σ x with
  | none => rw [hx] at h; cases h
  | some d =>
    rw [hx] at h
    have hr : d.isRef = false ∧ d.isAgg = false := by cases d <;> simp_all [D.cnt, D.isRef, D.isAgg]
    obtain ⟨F, hv, _⟩ := ev_ok st hx hr.1
    simp only [VR, hr.2, Bool.false_eq_true, if_false] at hv
    exact cnt_val h hv

theorem run_bounds (st : StW C σ a w ρ Fe Fb) {b : Bool} {lo hi : Option Operand} {i j : Int} {len cap : Nat} (hl : evo C.gl σ lo 0 = some i) (hh : evo C.gl σ hi len = some j) (h0 : 0 ≤ i) (h1 : i ≤ j) (h2 : j ≤ len) (hc : len ≤ cap) :
    (Instr.sliceBounds b len cap (lo.map a.eval) (hi.map a.eval) none).run P w = .ok (i.toNat, j.toNat, cap) w := by
  have hb : ∀ (x : Operand) (n : Int) (y : Nat) (code : BoundsCode), (match ev C.gl σ x with | some d => d.cnt | none => none) = some n → 0 ≤ n → n ≤ y → (Instr.sliceBound (a.eval x) y code).run P w = .ok n.toNat w := by
    intro x n y code hx h0 h1
    obtain ⟨k, hk⟩ := bound_ok st hx
    rw [hk]
    exact run_sliceBound w k n y code h0 h1
  cases lo with
  | none =>
    simp only [evo, Option.some.injEq] at hl
    subst hl
    cases hi with
    | none =>
      simp only [evo, Option.some.injEq] at hh
      subst hh
      simp [Instr.sliceBounds]
    | some y =>
      simp only [evo] at hh
      simp [Instr.sliceBounds, hb y j cap _ hh (by omega) (by omega)]
  | some x =>
    simp only [evo] at hl
    cases hi with
    | none =>
      simp only [evo, Option.some.injEq] at hh
      subst hh
      simp [Instr.sliceBounds, hb x i len _ hl (by omega) (by omega)]
    | some y =>
      simp only [evo] at hh
      simp [Instr.sliceBounds, hb y j cap _ hh (by omega) (by omega), hb x i j.toNat _ hl (by omega) (by omega)]

/-- of a slice that is only read -/
theorem R.slI {t e z bytes : Nat} {x : Operand} {l : List D} {lo hi : Option Operand} {i j : Int} {ty rt : TypeId} {pos : String} {aft : Array Edge} {g : Option (Nat × Bool)} [hT : SlT P ty e] [hE : ElT P e z bytes]
    (hx : ev C.gl σ x = some (.sl none z l)) (hl : evo C.gl σ lo 0 = some i) (hh : evo C.gl σ hi l.length = some j) (h0 : 0 ≤ i) (h1 : i ≤ j) (h2 : j ≤ l.length) (ht : t < σ.n) :
    OpS P C ⟨some t, .slice ty x lo hi none, rt, pos, aft, g⟩ σ (σ.set t (.sl none z ((l.drop i.toNat).take (j - i).toNat))) := by
  refine OpS.value fun a w ⟨ρ, Fe, Fb, st⟩ => ?_
  obtain ⟨F, hv, _⟩ := ev_ok st hx rfl
  have hF := hv.pur rfl
  subst hF
  simp only [VR, D.isAgg, Bool.false_eq_true, if_false] at hv
  generalize hex : a.eval x = vx at hv
  have hlen : ((l.drop i.toNat).take (j - i).toNat).length = (j - i).toNat := by simp; omega
  cases hv with
  | slN =>
    simp only [List.length_nil] at hh h2
    have hb := run_bounds (P := P) st (b := true) (len := 0) (cap := 0) hl hh h0 h1 h2 (Nat.le_refl _)
    have hj : j = 0 := by omega
    have hi0 : i = 0 := by omega
    subst hj; subst hi0
    refine ⟨.slice none 0 0, w, ?_, st.put ht rfl ?_⟩
    · unfold execOp
      cases lo <;> cases hi <;> simp_all [Instr.sliceAt, Instr.slice, run_underlying hT.u, ElT.size (P := P) (e := e)]
    · simp only [VR, D.isAgg, Bool.false_eq_true, if_false]; exact .slN none z
  | slE _ _ aa =>
    simp only [List.length_nil] at hh h2
    have hb := run_bounds (P := P) st (b := true) (len := 0) (cap := 0) hl hh h0 h1 h2 (Nat.le_refl _)
    have hj : j = 0 := by omega
    have hi0 : i = 0 := by omega
    subst hj; subst hi0
    refine ⟨.slice (some aa) 0 0, w, ?_, st.put ht rfl ?_⟩
    · unfold execOp
      cases lo <;> cases hi <;> simp_all [Instr.sliceAt, Instr.slice, run_underlying hT.u, ElT.size (P := P) (e := e)]
    · simp only [VR, D.isAgg, Bool.false_eq_true, if_false]; exact .slE none z aa
  | slI b off cs e' fz cap _ _ hb hG hc hs hr =>
    have hbd := run_bounds (P := P) st (b := true) (len := l.length) (cap := cap) hl hh h0 h1 h2 hc
    refine ⟨.slice (some (if cap = i.toNat then ⟨b, off, none⟩ else ⟨b, off + i.toNat * z, none⟩)) (j - i).toNat (cap - i.toNat), w, ?_, st.put ht rfl ?_⟩
    · unfold execOp
      have e1 : j.toNat - i.toNat = (j - i).toNat := by omega
      have hA : (fun x => (⟨b, off, none⟩ : Addr).add (i.toNat * z)) () = ⟨b, off + i.toNat * z, none⟩ := add_lit _ _ _
      cases lo <;> cases hi <;> simp_all [Instr.sliceAt, Instr.slice, run_underlying hT.u, ElT.size (P := P) (e := e), add_lit] <;> split <;> simp_all
    · simp only [VR, D.isAgg, Bool.false_eq_true, if_false]
      have hjz : ((j - i).toNat) * z + i.toNat * z ≤ l.length * z := by
        rw [← Nat.add_mul]; exact Nat.mul_le_mul_right z (by omega)
      by_cases hci : cap = i.toNat
      · simp only [hci, if_true, Nat.sub_self]
        have h3 : (j - i).toNat = 0 := by omega
        have := Rc.slI (w := w) (ρ := ρ) (G := gd C Fe Fb) (L := fun id => (σ.box id).isSome) (p := true) b off cs e' fz 0 z [] hb hG (Nat.zero_le _) (by simp; omega) (fun k hk => by simp at hk)
        simpa [h3] using this
      · simp only [hci, if_false]
        have := Rc.slI (w := w) (ρ := ρ) (G := gd C Fe Fb) (L := fun id => (σ.box id).isSome) (p := true) b (off + i.toNat * z) cs e' fz (cap - i.toNat) z ((l.drop i.toNat).take (j - i).toNat) hb hG (by rw [hlen]; omega)
          (by rw [hlen]; omega) (fun k hk => by
            rw [hlen] at hk
            simp only [List.getElem_take, List.getElem_drop]
            have := hr (i.toNat + k) (by omega)
            rw [Nat.add_mul, ← Nat.add_assoc] at this
            exact this)
        rw [hlen] at this
        exact this

/-- of any slice that lies in a slot -/
theorem R.slV {s t e z bytes : Nat} {l : List D} {lo hi : Option Operand} {i j : Int} {ty rt : TypeId} {pos : String} {aft : Array Edge} {g : Option (Nat × Bool)} [hT : SlT P ty e] [hE : ElT P e z bytes]
    (hx : SC σ s z l) (hl : evo C.gl σ lo 0 = some i) (hh : evo C.gl σ hi l.length = some j) (h0 : 0 ≤ i) (h1 : i ≤ j) (h2 : j ≤ l.length) (ht : t < σ.n) (hst : s ≠ t) :
    OpS P C ⟨some t, .slice ty (.tmp s) lo hi none, rt, pos, aft, g⟩ σ (σ.set t (.vw s z i.toNat (j - i).toNat)) := by
  refine OpS.value fun a w ⟨ρ, Fe, Fb, st⟩ => ?_
  obtain ⟨base, len, cap, hv, rfl, hd⟩ := SC_ok st hx
  have hsz := st.size
  have e1 : j.toNat - i.toNat = (j - i).toNat := by omega
  have hcap : l.length ≤ cap := by
    rcases hd with ⟨h3, h4⟩ | ⟨b, o, cs, e', fz, _, _, h3, _⟩ <;> omega
  have hbd := run_bounds (P := P) st (b := true) (len := l.length) (cap := cap) hl hh h0 h1 h2 hcap
  rcases hd with ⟨h3, rfl⟩ | ⟨b, o, cs, e', fz, rfl, hb, hc, hs, hr⟩
  · have hj : j = 0 := by omega
    have hi0 : i = 0 := by omega
    subst hj; subst hi0
    refine ⟨.slice base 0 0, w, ?_, st.putRef ht ⟨rfl, .slice base l.length 0, .slice base 0 0, by rw [put_get a t _ s (by omega)]; simp [hst, hv], by rw [put_get a t _ t (by omega)]; simp, ?_⟩⟩
    · unfold execOp
      cases base <;> cases lo <;> cases hi <;> simp_all [Instr.sliceAt, Instr.slice, run_underlying hT.u, ElT.size (P := P) (e := e), eval_tmp hv]
    · exact ⟨_, _, _, _, _, rfl, rfl, Nat.le_refl _, by simp, Nat.le_refl _, .inr ⟨by omega, rfl⟩⟩
  · refine ⟨.slice (some (if cap = i.toNat then ⟨b, o, none⟩ else ⟨b, o + i.toNat * z, none⟩)) (j - i).toNat (cap - i.toNat), w, ?_, st.putRef ht ⟨rfl, .slice (some ⟨b, o, none⟩) l.length cap, .slice (some (if cap = i.toNat then ⟨b, o, none⟩ else ⟨b, o + i.toNat * z, none⟩)) (j - i).toNat (cap - i.toNat), by rw [put_get a t _ s (by omega)]; simp [hst, hv], by rw [put_get a t _ t (by omega)]; simp, ?_⟩⟩
    · unfold execOp
      cases lo <;> cases hi <;> simp_all [Instr.sliceAt, Instr.slice, run_underlying hT.u, ElT.size (P := P) (e := e), eval_tmp hv, add_lit] <;> split <;> simp_all
    · refine ⟨_, _, _, _, _, rfl, rfl, by omega, by omega, by omega, .inl ?_⟩
      by_cases hci : cap = i.toNat
      · exact ⟨b, o, o, rfl, by simp [hci], .inr ⟨rfl, by omega⟩⟩
      · exact ⟨b, o, _, rfl, by simp [hci], .inl rfl⟩

/-- of an array in a box -/
theorem R.slA {s t e z bytes m id off : Nat} {path : List Nat} {d0 : D} {l : List D} {lo hi : Option Operand} {i j : Int} {ty rt : TypeId} {pos : String} {aft : Array Edge} {g : Option (Nat × Bool)} [hT : ArT P ty m e] [hE : ElT P e z bytes]
    (hx : σ.get s = some (.ptr id off path)) (hb : σ.box id = some (.var d0)) (hloc : d0.loc path = some (off, .arr m z l)) (hl : evo C.gl σ lo 0 = some i) (hh : evo C.gl σ hi m = some j) (h0 : 0 ≤ i) (h1 : i ≤ j) (h2 : j ≤ m) (ht : t < σ.n) :
    OpS P C ⟨some t, .slice ty (.tmp s) lo hi none, rt, pos, aft, g⟩ σ (σ.set t (.va id off z (j - i).toNat path i.toNat)) := by
  refine OpS.value fun a w ⟨ρ, Fe, Fb, st⟩ => ?_
  obtain ⟨v, hv, hr⟩ := (SR_plain rfl).1 (st.env _ _ hx)
  simp only [VR, D.isAgg, Bool.false_eq_true, if_false] at hr
  generalize Fe s = F at hr
  cases hr
  have hsz := st.size
  have e1 : j.toNat - i.toNat = (j - i).toNat := by omega
  have hbd := run_bounds (P := P) st (b := false) (len := m) (cap := m) hl hh h0 h1 h2 (Nat.le_refl _)
  refine ⟨.slice (some (if m = i.toNat then ⟨ρ id, off, none⟩ else ⟨ρ id, off + i.toNat * z, none⟩)) (j - i).toNat (m - i.toNat), w, ?_, st.putRef ht ⟨rfl, by simp [hb], m - i.toNat, if m = i.toNat then off else off + i.toNat * z, by omega, ?_, ?_⟩⟩
  · unfold execOp
    cases lo <;> cases hi <;> simp_all [Instr.sliceAt, Instr.sureAddr, run_underlying hT.u, ElT.size (P := P) (e := e), eval_tmp hv, add_lit] <;> split <;> simp_all
  · by_cases hm : m = i.toNat
    · simp [hm]; omega
    · simp [hm]
  · rw [put_get a t _ t (by omega)]
    by_cases hm : m = i.toNat <;> simp [hm]
end Go.Sx
