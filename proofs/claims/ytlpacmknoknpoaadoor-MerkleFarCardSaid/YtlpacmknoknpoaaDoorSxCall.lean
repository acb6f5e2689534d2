/-
  Own library, part 13: calls.
-/
import Derived.Test.YtlpacmknoknpoaaDoorSxFn
set_option linter.unusedVariables false
set_option linter.unusedSimpArgs false
set_option linter.unnecessarySimpa false
namespace Go.Sx

variable {P : Program} {C : Ctx} {σ σ' σ1 : Sg} {a : Act} {w w' : World} {ρ : Nat → Nat} {Fe Fe' Fb : Nat → List Nat}

mutual
/-- only read -/
def D.brw : D → D
  | .sl _ z l => .sl none z (D.brws l)
  | .agg l => .agg (D.brws l)
  | .arr n z l => .arr n z (D.brws l)
  | d => d
def D.brws : List D → List D
  | [] => []
  | d :: r => D.brw d :: D.brws r
end
theorem brws_eq (l : List D) : D.brws l = l.map D.brw := by
  induction l with
  | nil => simp [D.brws]
  | cons d r ih => simp [D.brws, ih]
mutual
theorem sz_brw (d : D) : d.brw.sz = d.sz := by
  cases d with
  | sl o z l => simp [D.brw, D.sz]
  | agg l => simp only [D.brw, sz_agg]; exact szs_brw l
  | arr n z l => simp [D.brw]
  | _ => simp [D.brw]
theorem szs_brw (l : List D) : D.szs (D.brws l) = D.szs l := by
  cases l with
  | nil => simp [D.brws]
  | cons d r => simp only [D.brws, szs_cons, sz_brw d, szs_brw r]
end
theorem offk_brw (l : List D) (k : Nat) : offk (l.map D.brw) k = offk l k := by
  unfold offk
  rw [← List.map_take, ← brws_eq, szs_brw]

theorem isAgg_brw (d : D) : d.brw.isAgg = d.isAgg := by cases d <;> simp [D.brw, D.isAgg]
theorem isRef_brw (d : D) : d.brw.isRef = d.isRef := by cases d <;> simp [D.brw, D.isRef]

theorem Rc.brw {G G' L : Nat → Prop} {p : Bool} {d : D} {cs : List Value} {F : List Nat} (h : Rc w ρ G L p d cs F) (hF : ∀ b ∈ F, G' b) (hG : ∀ b, G b → b < w.heap.size → G' b) : Rc w ρ G' L p d.brw cs [] := by
  induction h with
  | bool b => simp only [D.brw]; exact .bool b
  | int n => simp only [D.brw]; exact .int n
  | u8 x => simp only [D.brw]; exact .u8 x
  | u16 x => simp only [D.brw]; exact .u16 x
  | u32 x => simp only [D.brw]; exact .u32 x
  | u64 x => simp only [D.brw]; exact .u64 x
  | ik k n => simp only [D.brw]; exact .ik k n
  | str s => simp only [D.brw]; exact .str s
  | nils => simp only [D.brw]; exact .nils
  | slN o z => simp only [D.brw, D.brws]; exact .slN none z
  | slE o z a => simp only [D.brw, D.brws]; exact .slE none z a
  | slI b off cs e fz cap z l hb hGb hc hs hr ih =>
    simp only [D.brw, brws_eq]
    have hlt : b < w.heap.size := (Array.getElem?_eq_some_iff.1 hb).1
    have := Rc.slI (ρ := ρ) (G := G') (L := L) (p := ‹Bool›) b off cs e fz cap z (l.map D.brw) hb (hG b hGb hlt) (by simpa using hc) (by simpa using hs) (fun i hi => by
      have := ih i (by simpa using hi) (by simp)
      simpa using this)
    simpa using this
  | slO b cs e cap z l Fs hb hc hm hs hr ih =>
    simp only [D.brw, brws_eq]
    have := Rc.slI (ρ := ρ) (G := G') (L := L) (p := ‹Bool›) b 0 cs e (0, 0) cap z (l.map D.brw) hb (hF b (by simp)) (by simpa using hc) (by
      have := Nat.mul_le_mul_right z hc
      simp; omega) (fun i hi => by
      have := ih i (by simpa using hi) (fun b' hb' => hF b' (List.mem_cons_of_mem _ (List.mem_flatMap.2 ⟨i, List.mem_range.2 (by simpa using hi), hb'⟩)))
      simpa using this)
    simpa using this
  | agg l cs Fs hs hr ih =>
    simp only [D.brw, brws_eq]
    have := Rc.agg (w := w) (ρ := ρ) (G := G') (L := L) (p := ‹Bool›) (l.map D.brw) cs (fun _ => []) (by rw [← brws_eq, szs_brw]; exact hs) (fun k hk => by
      have hk' : k < l.length := by simpa using hk
      have := ih k hk' (fun b' hb' => hF b' (List.mem_flatMap.2 ⟨k, List.mem_range.2 hk', hb'⟩))
      simp only [List.getElem_map, offk_brw, sz_brw]
      exact this)
    have e : (List.range (l.map D.brw).length).flatMap (fun _ => ([] : List Nat)) = [] := by rw [List.flatMap_eq_nil_iff]; intros; rfl
    rw [e] at this
    exact this
  | arr n z l cs hl hs hr ih =>
    simp only [D.brw, brws_eq]
    exact .arr n z (l.map D.brw) cs (by simpa using hl) hs (fun i hi => by
      have := ih i (by simpa using hi) (by simp)
      simpa using this)
  | ptr id off path hid => simp only [D.brw]; exact .ptr id off path hid
  | nilp => simp only [D.brw]; exact .nilp
  | rp d b off cs e fz hb hGb hs hr ih =>
    have hlt : b < w.heap.size := (Array.getElem?_eq_some_iff.1 hb).1
    simp only [D.brw]
    exact .rp d b off cs e fz hb (hG b hGb hlt) hs (hr.mono (fun _ _ _ => rfl) (fun b hb hlt => hG b hb hlt) (fun id hid => ⟨hid, rfl⟩))
  | map id hid => simp only [D.brw]; exact .map id hid
  | nilmap => simp only [D.brw]; exact .nilmap
  | fn f caps vs hl ha hr ih =>
    simp only [D.brw]
    exact .fn f caps vs hl ha (fun k hk => (hr k hk).mono (fun _ _ _ => rfl) (fun b hb hlt => hG b hb hlt) (fun id hid => ⟨hid, rfl⟩))
  | nilf => simp only [D.brw]; exact .nilf
  | yld l => simp only [D.brw]; exact .yld l
  | ifc t d v ha hr ih =>
    simp only [D.brw]
    exact .ifc t d v ha (hr.mono (fun _ _ _ => rfl) (fun b hb hlt => hG b hb hlt) (fun id hid => ⟨hid, rfl⟩))
  | nili => simp only [D.brw]; exact .nili
  | dead v h => simp only [D.brw]; exact .dead v h

theorem VR.brw {G G' L : Nat → Prop} {d : D} {v : Value} {F : List Nat} (h : VR w ρ G L d v F) (hF : ∀ b ∈ F, G' b) (hG : ∀ b, G b → b < w.heap.size → G' b) : VR w ρ G' L d.brw v [] := by
  unfold VR at *
  rw [isAgg_brw]
  cases hd : d.isAgg <;> simp only [hd, if_true, if_false, Bool.false_eq_true] at h ⊢
  · exact h.brw hF hG
  · obtain ⟨cs, rfl, h⟩ := h; exact ⟨cs, rfl, h.brw hF hG⟩

/-- what is lent to a call -/
inductive Bor (gl : List (Nat × D)) (σ : Sg) : Operand → D → Prop
  | pur {x : Operand} {d : D} (h : ev gl σ x = some d) (hp : d.pur = true) (hn : d.np = true) : Bor gl σ x d
  | nils {x : Operand} {z : Nat} (h : ev gl σ x = some .nils) : Bor gl σ x (.sl none z [])
  | own {x : Operand} {d d' : D} (h : ev gl σ x = some d) (hr : d.isRef = false) (he : d.brw = d') (hn : d'.np = true) : Bor gl σ x d'
  | al {t s : Nat} {d d' : D} (h : σ.get t = some (.al s)) (h' : σ.get s = some d) (hr : d.isRef = false) (he : d.brw = d') (hn : d'.np = true) : Bor gl σ (.tmp t) d'
  | sc {t z : Nat} {l l' : List D} (h : SC σ t z l) (he : l.map D.brw = l') : Bor gl σ (.tmp t) (.sl none z l')
  | ptr {t id off : Nat} {path : List Nat} {d0 d d' : D} (h : σ.get t = some (.ptr id off path)) (hb : σ.box id = some (.var d0)) (hl : d0.loc path = some (off, d)) (he : d.brw = d') (hn : d'.np = true) : Bor gl σ (.tmp t) (.rp d')

theorem np_sl (o : Option Nat) (z : Nat) (l : List D) : (D.sl o z l).np = true := by simp [D.np]

theorem Bor.ok (st : StW C σ a w ρ Fe Fb) {x : Operand} {d : D} (h : Bor C.gl σ x d) : VR w (fun x => x) (fun b => b < w.heap.size) (fun _ => False) d (a.eval x) [] := by
  have hlt := st.lt
  cases h with
  | pur h hp hn =>
    obtain ⟨F, hv, hF⟩ := ev_ok st h (pur_ref hp)
    have := hv.pur hp
    subst this
    exact (hv.noL (ρ' := fun x => x) (L' := fun _ => False) hn).mono (fun _ _ _ => rfl) (fun b _ hl => hl) (fun id hid => hid.elim)
  | nils h =>
    obtain ⟨F, hv, _⟩ := ev_ok st h rfl
    simp only [VR, D.isAgg, Bool.false_eq_true, if_false] at hv ⊢
    rw [hv.nil_val]
    exact .slN none _
  | own h hr he hn =>
    obtain ⟨F, hv, hF⟩ := ev_ok st h hr
    subst he
    exact (hv.brw (G' := fun b => b < w.heap.size) (fun b hb => hlt b (hF b hb)) (fun b _ hl => hl)).noL hn
  | @al t s d d' h h' hr he hn =>
    obtain ⟨_, v, h1, h2⟩ := st.env _ _ h
    obtain ⟨v', hv', hvr⟩ := (SR_plain hr).1 (st.env _ _ h')
    rw [h2] at hv'
    cases hv'
    subst he
    rw [eval_tmp h1]
    exact (hvr.brw (G' := fun b => b < w.heap.size) (fun b hb => hlt b (.inl ⟨s, hb⟩)) (fun b _ hl => hl)).noL hn
  | @sc t z l l' h he =>
    obtain ⟨base, len, cap, hv, rfl, hd⟩ := SC_ok st h
    subst he
    rw [eval_tmp hv]
    simp only [VR, D.isAgg, Bool.false_eq_true, if_false]
    rcases hd with ⟨h1, rfl⟩ | ⟨b, o, cs, e, fz, rfl, hb, hc, hs, hr⟩
    · have : l = [] := List.length_eq_zero_iff.1 h1
      subst this
      cases base with
      | none => exact .slN none z
      | some a => exact .slE none z a
    · have hltb : b < w.heap.size := (Array.getElem?_eq_some_iff.1 hb).1
      have := Rc.slI (w := w) (ρ := fun x => x) (G := fun b => b < w.heap.size) (L := fun _ => False) (p := true) b o cs e fz cap z (l.map D.brw) hb hltb (by simpa using hc) (by simpa using hs) (fun i hi => by
        obtain ⟨F, hF⟩ := hr i (by simpa using hi)
        have := (hF.brw (G' := fun b => b < w.heap.size) hF.lt (fun b _ hl => hl)).noL (ρ' := fun x => x) (L' := fun _ => False)
        simpa using this)
      simpa using this
  | @ptr t id off path d0 d d' h hb hl he hn =>
    obtain ⟨v, hv, hr⟩ := (SR_plain rfl).1 (st.env _ _ h)
    simp only [VR, D.isAgg, Bool.false_eq_true, if_false] at hr
    generalize Fe t = F at hr
    cases hr
    obtain ⟨cs, e, F', hb', hrc, _⟩ := st.bx _ _ hb
    obtain ⟨F2, h1, h2, h3⟩ := hrc.loc hl
    subst he
    rw [eval_tmp hv]
    simp only [VR, D.isAgg, Bool.false_eq_true, if_false]
    have hltb : ρ id < w.heap.size := (Array.getElem?_eq_some_iff.1 hb').1
    have h4 := h1.brw (G' := fun b => b < w.heap.size) h1.lt (fun b _ hl => hl)
    refine .rp _ (ρ id) off cs e _ hb' hltb (by rw [sz_brw]; simpa using h3) ?_
    rw [sz_brw]
    exact (h4.unflag hn).noL

inductive Bors (gl : List (Nat × D)) (σ : Sg) : List Operand → List D → Prop
  | nil : Bors gl σ [] []
  | cons {x : Operand} {d : D} {xs : List Operand} {ds : List D} (h : Bor gl σ x d) (t : Bors gl σ xs ds) : Bors gl σ (x :: xs) (d :: ds)

theorem Bors.len {gl : List (Nat × D)} {xs : List Operand} {ds : List D} (h : Bors gl σ xs ds) : xs.length = ds.length := by
  induction h with
  | nil => rfl
  | cons h t ih => simp [ih]
theorem Bors.ok (st : StW C σ a w ρ Fe Fb) {xs : List Operand} {ds : List D} (h : Bors C.gl σ xs ds) :
    ∀ k (hk : k < ds.length), VR w (fun x => x) (fun b => b < w.heap.size) (fun _ => False) ds[k] ((xs.map a.eval).getD k undef) [] := by
  induction h with
  | nil => intro k hk; simp at hk
  | cons h t ih =>
    intro k hk
    cases k with
    | zero => simpa using h.ok st
    | succ k => simpa using ih k (by simpa using hk)

theorem run_callFunc {f : FuncId} {fn : Func} (hf : P.funcs[f]? = some fn) (hb : fn.body.isSome = true) (hn : (fn.name == "runtime.NumGoroutine") = false) (vs : Array Value) (w : World) :
    (callFunc f vs).run P w = .ok (.enter f vs) w := by
  unfold callFunc
  have h1 : fn.body ≠ none := by intro h; simp [h] at hb
  have h2 : ¬ fn.name = "runtime.NumGoroutine" := by simpa using hn
  simp [program, hf, h1, h2, Sem.run]

/-- functions that can be called -/
class CaT (P : Program) (f : FuncId) : Prop where
  i : ∃ fn, P.funcs[f]? = some fn ∧ fn.body.isSome = true ∧ (fn.name == "runtime.NumGoroutine") = false

theorem run_call {f : FuncId} [h : CaT P f] {t : Option Nat} {args : Array Operand} {tys : Array TypeId} {rt : TypeId} {pos : String} {aft : Array Edge} {g : Option (Nat × Bool)} (a : Act) (w : World) :
    (execOp a.eval ⟨t, .call { callee := .value (.func f), args := args, argTypes := tys }, rt, pos, aft, g⟩).run P w = .ok (.enter f (args.map a.eval)) w := by
  obtain ⟨fn, h1, h2, h3⟩ := h.i
  unfold execOp
  simp [resolve, Act.eval, Deferred.ofValue, invoke, run_callFunc h1 h2 h3]

theorem callsIn_fx {C : Ctx} {n : Nat} {f : FuncId} {args : Array Value} {w : World} {R : Ending → World → Prop} (h : Calls P f args w R) : CallsIn (Fx C) n P f args w R := (callsIn_wide (n := n)).2 h
theorem gl_ok (st : StW C σ a w ρ Fe Fb) (g : Nat) (d : D) (h : (g, d) ∈ C.gl) :
    gd C Fe Fb g ∧ ∃ cs e fz, w.heap[g]? = some (.cells cs e fz) ∧ Rc w (fun x => x) (fun _ => False) (fun _ => False) false d cs.toList [] := by
  obtain ⟨h1, h2, cs, e, fz, h3, h4⟩ := st.gl g d h
  refine ⟨⟨h2, fun ho => st.new g ho h1⟩, cs, e, fz, (st.kept g h1).1.trans h3, h4.mono (fun b hb _ => ?_) (fun _ h _ => h.elim) (fun _ h => h.elim)⟩
  rcases hb with hb | hb
  · exact hb.elim
  · cases hb

/-- a call to which memory is lent; the result is all fresh -/
theorem R.call {f : FuncId} [CaT P f] {t : Nat} {args : List Operand} {tys : Array TypeId} {rt : TypeId} {pos : String} {aft : Array Edge} {g : Option (Nat × Bool)} {ds : List D} {r : D}
    (hF : Fn P C.gl f ds r) (hb : Bors C.gl σ args ds) (hr : FrsR r) (ht : t < σ.n) :
    OpS P C ⟨some t, .call { callee := .value (.func f), args := args.toArray, argTypes := tys }, rt, pos, aft, g⟩ σ (σ.set t r) := by
  intro a w ⟨ρ, Fe, Fb, st⟩ K Q hK
  refine wpIn_of_run (run_call a w) (by simp) ?_
  rw [Oper.uponIn_enter]
  have hc := hF w (fun b => b < w.heap.size) (args.map a.eval) (fun g d hg => by
    obtain ⟨_, cs, e, fz, h1, h2⟩ := gl_ok st g d hg
    exact ⟨(Array.getElem?_eq_some_iff.1 h1).1, cs, e, fz, h1, h2⟩) (by simp [hb.len]) (hb.ok st)
  simp only [List.map_toArray]
  refine ⟨(fun h => by cases h), (callsIn_fx (Calls.mono hc ?_))⟩
  rintro e w' ⟨v, F, rfl, hext, hnd, hnew, hv⟩
  refine hK _ _ ⟨ρ, upd Fe t F, Fb, st.ext ht hext hnd hnew ?_⟩
  have hput : (a.put (some t) v).tmps[t]? = some v := by rw [put_get a t v t (by rw [st.size]; exact ht)]; simp
  refine RV.slot ?_ hput
  refine hv.map Frs hr (fun d v F' hF' hd hx => ?_)
  have h1 := hx.frs (G' := fun _ => False) hd
  exact h1.mono (fun _ _ _ => rfl) (fun b hb _ => hb.elim) (fun id hid => hid.elim)

/-- a call with what owns nothing; what it gives may hold parts of that -/
theorem R.callP {f : FuncId} [CaT P f] {t : Nat} {args : List Operand} {tys : Array TypeId} {rt : TypeId} {pos : String} {aft : Array Edge} {g : Option (Nat × Bool)} {ds : List D} {r : D}
    (hF : Fn P C.gl f ds r) (hl : args.length = ds.length) (hb : ∀ k (h : k < args.length) (h' : k < ds.length), ev C.gl σ args[k] = some ds[k] ∧ ds[k].pur = true ∧ ds[k].np = true) (ht : t < σ.n) :
    OpS P C ⟨some t, .call { callee := .value (.func f), args := args.toArray, argTypes := tys }, rt, pos, aft, g⟩ σ (σ.set t r) := by
  intro a w ⟨ρ, Fe, Fb, st⟩ K Q hK
  refine wpIn_of_run (run_call a w) (by simp) ?_
  rw [Oper.uponIn_enter]
  have hc := hF w (gd C Fe Fb) (args.map a.eval) (gl_ok st) (by simp [hl]) (fun k hk => by
    have hk' : k < args.length := by omega
    obtain ⟨h1, h2, h3⟩ := hb k hk' hk
    obtain ⟨F, hv, _⟩ := ev_ok st h1 (pur_ref h2)
    have := hv.pur h2
    subst this
    have e : (args.map a.eval).getD k undef = a.eval args[k] := by simp [List.getD_eq_getElem?_getD, hk']
    rw [e]
    exact hv.noL h3)
  simp only [List.map_toArray]
  refine ⟨(fun h => by cases h), (callsIn_fx (Calls.mono hc ?_))⟩
  rintro e w' ⟨v, F, rfl, hext, hnd, hnew, hv⟩
  refine hK _ _ ⟨ρ, upd Fe t F, Fb, st.ext ht hext hnd hnew ?_⟩
  have hput : (a.put (some t) v).tmps[t]? = some v := by rw [put_get a t v t (by rw [st.size]; exact ht)]; simp
  refine RV.slot ?_ hput
  refine hv.mono (fun _ _ _ => rfl) (fun b hb hl => ?_) (fun id hid => hid.elim)
  have hlt := st.lt
  have hno : ∀ b, own Fe Fb b → ¬ ((gd C Fe Fb b ∨ w.heap.size ≤ b)) := fun b ho hb => by
    rcases hb with hb | hb
    · exact hb.2 ho
    · have := hlt b ho; omega
  refine ⟨hb.1.elim (fun h => h.1) (fun h => st.okN b h), ?_⟩
  rintro (⟨u, hu⟩ | ho)
  · by_cases hut : u = t
    · subst hut; simp at hu; exact hb.2 hu
    · rw [upd_other hut] at hu; exact hno b (.inl ⟨u, hu⟩) hb.1
  · exact hno b (.inr ho) hb.1
end Go.Sx
