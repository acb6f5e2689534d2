/-
  Own library, part 21: new values with parts, slices that are only read from now on.
-/
import Derived.Test.YtlpacmknoknpoaaDoorSxVal3
set_option linter.unusedVariables false
set_option linter.unusedSimpArgs false
set_option linter.unnecessarySimpa false
namespace Go.Sx

variable {P : Program} {C : Ctx} {σ σ' σ1 : Sg} {a : Act} {w w' : World} {ρ : Nat → Nat} {Fe Fe' Fb : Nat → List Nat}

/-! ### new arrays and structs -/
class BaT (P : Program) (t : TypeId) (n e z : outParam Nat) : Prop where
  i : ∃ it zv ie, P.underlying t = some (.array n e) ∧ P.info? t = some it ∧ it.zero = some zv ∧ P.info? e = some ie ∧ ie.size = z ∧ zv.cells.size = n * z

theorem R.bldA {t n e z : Nat} {ps : List (Nat × Operand)} {ds : List D} {ty rt : TypeId} {pos : String} {aft : Array Edge} {g : Option (Nat × Bool)} [hT : BaT P ty n e z]
    (hps : evs C.gl σ ps 0 = some ds) (hp : PurZ z ds) (hk : ds.length = n) (ht : t < σ.n) :
    OpS P C ⟨some t, .build ty ps.toArray, rt, pos, aft, g⟩ σ (σ.set t (.arr n z ds)) := by
  refine OpS.value fun a w ⟨ρ, Fe, Fb, st⟩ => ?_
  obtain ⟨it, zv, ie, h1, h2, h3, h4, h5, h6⟩ := hT.i
  subst hk
  obtain ⟨out, q1, q2, q3, q4⟩ := fill_run (w := w) (ρ := ρ) (z := z) (fun x d h hp => ev_cells st h hp) ps 0 ds zv.cells hps hp (by rw [h6]; simp)
  simp only [Nat.zero_add] at q4
  have hps2 : (ps.toArray.map fun x => (x.1, a.eval x.2)).toList = ps.map (fun p => (p.1, a.eval p.2)) := by simp
  have hpur : (D.arr ds.length z ds).pur = true := rfl
  refine ⟨.agg out, w, ?_, st.put ht rfl ?_⟩
  · have := run_build (P := P) w ty (ps.toArray.map fun x => (x.1, a.eval x.2)) out (by
      rw [hps2]
      simp only [Program.built, h1, h2, h3, h4, h5]
      exact q1)
    unfold execOp
    simp only [Sem.run_bind, this, Result.andThen_ok, Sem.run_pure]
  · simp only [VR, D.isAgg, if_true]
    exact ⟨out, rfl, .arr _ _ _ _ rfl (by simp [q2, h6]) q4⟩

/-- where the parts lie -/
def offl : List D → Nat → List (Nat × Nat)
  | [], _ => []
  | d :: r, o => (o, d.sz) :: offl r (o + d.sz)
theorem offl_get (l : List D) (o i : Nat) (h : i < l.length) : (offl l o)[i]? = some (o + offk l i, l[i].sz) := by
  induction l generalizing o i with
  | nil => simp at h
  | cons d r ih =>
    cases i with
    | zero => simp [offl, offk]
    | succ i =>
      simp only [offl, List.getElem?_cons_succ]
      rw [ih (o + d.sz) i (by simpa using h)]
      simp [offk_succ, Nat.add_assoc]

class BsT (P : Program) (t : TypeId) (l : outParam (List D)) : Prop where
  i : ∃ fs it zv, P.underlying t = some (.struct fs) ∧ P.info? t = some it ∧ it.zero = some zv ∧ fs.toList.mapM (fun f => (P.info? f.type).map fun i => (f.offset, i.size)) = some (offl l 0) ∧ chk (.agg l) zv.cells.toList = true

def evsS (gl : List (Nat × D)) (σ : Sg) : List (Nat × Operand) → List D → Option (List D)
  | [], l => some l
  | (i, x) :: r, l => match ev gl σ x with
    | some d => evsS gl σ r (l.set i d)
    | none => none
def PurS (gl : List (Nat × D)) (σ : Sg) (l : List D) : List (Nat × Operand) → Prop
  | [] => True
  | (i, x) :: r => (∃ d, ev gl σ x = some d ∧ d.pur = true ∧ d.np = true ∧ (l[i]?).map D.sz = some d.sz) ∧ PurS gl σ l r

theorem fill_struct {G L : Nat → Prop} {gl : List (Nat × D)} {l0 : List D} (hv : ∀ x d, ev gl σ x = some d → d.pur = true → ∃ cs : List Value, (a.eval x).cells.toList = cs ∧ Rc w ρ G L true d cs []) :
    ∀ (ps : List (Nat × Operand)) (l l' : List D) (cs : Array Value), evsS gl σ ps l = some l' → PurS gl σ l0 ps → l.map D.sz = l0.map D.sz → Rc w ρ G L false (.agg l) cs.toList [] →
      ∃ out : Array Value, Instr.fill ((offl l0 0).toArray[·]?) cs (ps.map (fun p => (p.1, a.eval p.2))) = some out ∧ Rc w ρ G L false (.agg l') out.toList [] := by
  intro ps
  induction ps with
  | nil => intro l l' cs h _ _ hr; simp only [evsS, Option.some.injEq] at h; subst h; exact ⟨cs, rfl, hr⟩
  | cons p ps ih =>
    intro l l' cs h hp hz hr
    obtain ⟨i, x⟩ := p
    obtain ⟨⟨d, hx, p1, p2, p3⟩, p4⟩ := hp
    simp only [evsS, hx] at h
    obtain ⟨xc, hxc, hrc⟩ := hv x d hx p1
    have hlen := hrc.len
    cases hl0 : l0[i]? with
    | none => rw [hl0] at p3; cases p3
    | some d0 =>
      obtain ⟨hi, rfl⟩ := List.getElem?_eq_some_iff.1 hl0
      rw [hl0] at p3
      simp only [Option.map_some, Option.some.injEq] at p3
      have hll : l.length = l0.length := by have := congrArg List.length hz; simpa using this
      have hi2 : i < l.length := by omega
      have hsi : l[i].sz = d.sz := by
        have : (l.map D.sz)[i]'(by simpa using hi2) = (l0.map D.sz)[i]'(by simpa using hi) := by simp only [hz]
        simp at this
        omega
      have hoff : offk l i = offk l0 i := by
        have hs : ∀ (u v : List D), u.map D.sz = v.map D.sz → D.szs u = D.szs v := by
          intro u
          induction u with
          | nil => intro v hv; cases v <;> simp_all
          | cons a u ihu => intro v hv; cases v with
            | nil => simp at hv
            | cons b v => simp at hv; simp [hv.1, ihu v hv.2]
        unfold offk
        exact hs _ _ (by rw [List.map_take, List.map_take, hz])
      have hlo := offk_lt l i hi2
      have hcl := hr.len
      simp only [sz_agg, Array.length_toList] at hcl
      have hloc : (D.agg l).loc [i] = some (offk l i, l[i]) := by simp [D.loc, List.getElem?_eq_getElem hi2]
      have hupd : (D.agg l).upd [i] d = some (.agg (l.set i d)) := by simp [D.upd, List.getElem?_eq_getElem hi2]
      obtain ⟨F2, g1, g2, _⟩ := hr.upd hloc hupd hsi.symm (hrc.unflag p2) List.nodup_nil List.nodup_nil (by simp) (.inl rfl)
      have hF2 : F2 = [] := by
        cases F2 with
        | nil => rfl
        | cons b r => have := g2 b (by simp); simp at this
      subst hF2
      have hfold := foldl_set cs xc (offk l i) 0 (by omega)
      simp only [Nat.add_zero] at hfold
      have hcs2 : ((a.eval x).cells.zipIdx.foldl (fun (c : Array Value) (p : Value × Nat) => c.setIfInBounds (offk l i + p.2) p.1) cs).toList = cs.toList.take (offk l i) ++ xc ++ cs.toList.drop (offk l i + xc.length) := by
        rw [← hfold, ← hxc, ← Array.foldl_toList]
        simp
      rw [← hcs2] at g1
      obtain ⟨out, q1, q2⟩ := ih (l.set i d) l' _ h p4 (by
        rw [List.map_set, ← hsi]
        rw [← hz]
        apply List.ext_getElem?
        intro j
        rw [List.getElem?_set]
        split
        · rename_i hij
          subst hij
          simp [hi2]
        · rfl) g1
      refine ⟨out, ?_, q2⟩
      simp only [List.map_cons, Instr.fill]
      have hpl : (offl l0 0).toArray[i]? = some (offk l i, d.sz) := by
        rw [List.getElem?_toArray, offl_get l0 0 i hi, hoff, Nat.zero_add, ← p3]
      have hsz : (a.eval x).cells.size = d.sz := by rw [← Array.length_toList, hxc, hlen]
      simp only [hpl, hsz]
      rw [if_neg (by simp; omega)]
      exact q1

theorem R.bldS {t : Nat} {ps : List (Nat × Operand)} {l l' : List D} {ty rt : TypeId} {pos : String} {aft : Array Edge} {g : Option (Nat × Bool)} [hT : BsT P ty l]
    (hps : evsS C.gl σ ps l = some l') (hp : PurS C.gl σ l ps) (ht : t < σ.n) :
    OpS P C ⟨some t, .build ty ps.toArray, rt, pos, aft, g⟩ σ (σ.set t (.agg l')) := by
  refine OpS.value fun a w ⟨ρ, Fe, Fb, st⟩ => ?_
  obtain ⟨fs, it, zv, h1, h2, h3, h4, h5⟩ := hT.i
  obtain ⟨out, q1, q2⟩ := fill_struct (w := w) (ρ := ρ) (l0 := l) (fun x d h hp => ev_cells st h hp) ps l l' zv.cells hps hp rfl (chk_ok _ _ _ _ _ _ h5)
  have hps2 : (ps.toArray.map fun x => (x.1, a.eval x.2)).toList = ps.map (fun p => (p.1, a.eval p.2)) := by simp
  refine ⟨.agg out, w, ?_, st.put ht rfl ?_⟩
  · have := run_build (P := P) w ty (ps.toArray.map fun x => (x.1, a.eval x.2)) out (by
      rw [hps2]
      simp only [Program.built, h1, h2, h3, h4]
      exact q1)
    unfold execOp
    simp only [Sem.run_bind, this, Result.andThen_ok, Sem.run_pure]
  · simp only [VR, D.isAgg, if_true]
    exact ⟨out, rfl, q2.flag⟩

/-! ### a slice of its own that is only read from now on -/
theorem Rc.ro {G L : Nat → Prop} {p : Bool} {e z : Nat} {l : List D} {v : Value} {F : List Nat} (h : Rc w ρ G L p (.sl (some e) z l) [v] F) (hp : ∀ y ∈ l, y.pur = true) {G' : Nat → Prop} (hG : ∀ b, G b → b < w.heap.size → G' b) (hF : ∀ b ∈ F, G' b)
    (w' : World) (hh : ∀ b, (G b ∨ b ∈ F) → b < w.heap.size → (w'.heap[b]? = w.heap[b]? ∨ ∃ cs e fz fz', w.heap[b]? = some (.cells cs e fz) ∧ w'.heap[b]? = some (.cells cs e fz') ∧ b ∈ F))
    (hGF : ∀ b, G b → b ∉ F) : Rc w' ρ G' L p (.sl none z l) [v] [] := by
  generalize hv : [v] = cv at h
  cases h with
  | slN => exact .slN none z
  | slE _ _ a0 => cases hv; exact .slE none z a0
  | slO b cs e cap z l Fs hb hc hm hs hr =>
    have hbl : b < w.heap.size := (Array.getElem?_eq_some_iff.1 hb).1
    have hw : ∃ fz', w'.heap[b]? = some (.cells cs e fz') := by
      rcases hh b (.inr (by simp)) hbl with h1 | ⟨cs', e', fz, fz', h1, h2, _⟩
      · exact ⟨_, h1.trans hb⟩
      · rw [hb] at h1; cases h1; exact ⟨fz', h2⟩
    obtain ⟨fz', hw⟩ := hw
    refine .slI b 0 cs e fz' cap z l hw (hF b (by simp)) hc (by have := Nat.mul_le_mul_right z hc; omega) (fun i hi => ?_)
    have h1 := hr i hi
    have h2 := h1.pur (hp _ (List.getElem_mem hi))
    rw [h2] at h1
    rw [Nat.zero_add]
    refine h1.mono (fun b' hb' hl => ?_) (fun b' hb' hl => hG b' hb' hl) (fun id hid => ⟨hid, rfl⟩)
    rcases hb' with hb' | hb'
    · rcases hh b' (.inl hb') hl with h3 | ⟨_, _, _, _, _, _, h3⟩
      · exact h3
      · exact absurd h3 (hGF b' hb')
    · cases hb'

/-- '[]byte("abc")': the slice, of which it is marked that it is a text's -/
theorem R.cvF {s t e z bytes : Nat} {l : List D} {ty rt : TypeId} {pos : String} {aft : Array Edge} {g : Option (Nat × Bool)} [hT : SlT P ty e] [hE : ElT P e z bytes] [hk : IkT P e .u8]
    (hs : σ.get s = some (.sl (some e) z l)) (hl : l ≠ []) (hp : ∀ y ∈ l, y.pur = true) (ht : t < σ.n) (hst : s ≠ t) :
    OpS P C ⟨some t, .convert ty ty (.tmp s), rt, pos, aft, g⟩ σ ((σ.kill s).set t (.sl none z l)) := by
  refine OpS.value fun a w ⟨ρ, Fe, Fb, st⟩ => ?_
  obtain ⟨v, hv, hr⟩ := (SR_plain rfl).1 (st.env _ _ hs)
  simp only [VR, D.isAgg, Bool.false_eq_true, if_false] at hr
  have hr0 := hr
  have hFs := st.nodE s
  generalize hFe : Fe s = F at hr hFs
  generalize hcv : [v] = cv at hr
  cases hr with
  | slN => exact absurd rfl hl
  | slE => exact absurd rfl hl
  | slO b cs e cap z l Fs hb hc hm hsz hrr =>
    cases hcv
    have hbl : b < w.heap.size := (Array.getElem?_eq_some_iff.1 hb).1
    let w' : World := w.freeze ⟨b, cs.size, none⟩ 1
    have hw'b : w'.heap[b]? = some (.cells cs e (cs.size, cs.size + 1)) := by
      show (w.heap.modify b _)[b]? = _
      rw [Array.getElem?_modify]
      simp only [if_true]
      rw [hb]
      simp
    have hw'o : ∀ k, k ≠ b → w'.heap[k]? = w.heap[k]? := by
      intro k hkb
      show (w.heap.modify b _)[k]? = _
      rw [Array.getElem?_modify, if_neg (fun e => hkb e.symm)]
    have hsize : w'.heap.size = w.heap.size := by show (w.heap.modify b _).size = _; simp
    have hbF : b ∈ Fe s := by rw [hFe]; simp
    have hsrc : St C ((σ.kill s).set t (.sl none z l)) (a.put (some t) (.slice (some ⟨b, 0, none⟩) l.length cap)) w' := by
      have hh : ∀ k, k < w.heap.size → k ∉ Fe s → w'.heap[k]? = w.heap[k]? := fun k _ hk => hw'o k (fun e => hk (by rw [e]; exact hbF))
      refine ⟨ρ, _, Fb, st.take (F := []) ht hst hs rfl rfl rfl (by rw [hsize]; exact Nat.le_refl _) hh List.nodup_nil (by simp) ((SR_plain rfl).2 ⟨.slice (some ⟨b, 0, none⟩) l.length cap, by rw [put_get a t _ t (by rw [st.size]; exact ht)]; simp, ?_⟩)⟩
      simp only [VR, D.isAgg, Bool.false_eq_true, if_false]
      have hnot : ∀ k, own (upd (upd Fe s []) t []) Fb k → own Fe Fb k ∧ k ∉ Fe s := by
        rintro k (⟨u, hu⟩ | ⟨i, hi⟩)
        · by_cases hut : u = t
          · subst hut; simp at hu
          · rw [upd_other hut] at hu
            by_cases hus : u = s
            · subst hus; simp at hu
            · rw [upd_other hus] at hu; exact ⟨.inl ⟨u, hu⟩, fun h => st.dEE u s hus k hu h⟩
        · exact ⟨.inr ⟨i, hi⟩, fun h => st.dEB s i k h hi⟩
      refine hr0.ro hp (fun k hk _ => ⟨hk.1, fun ho => hk.2 (hnot k ho).1⟩) (fun k hk => ⟨st.okO k (.inl ⟨s, hk⟩), fun ho => (hnot k ho).2 hk⟩) w' (fun k hk hkl => ?_) (fun k hk hk' => hk.2 (.inl ⟨s, hk'⟩))
      by_cases hkb : k = b
      · subst hkb; exact .inr ⟨cs, e, _, _, hb, hw'b, hbF⟩
      · exact .inl (hw'o k hkb)
    refine ⟨_, w', ?_, hsrc⟩
    have hsh : w.shape? b = some (e, cs.size) := by unfold World.shape?; rw [hb]
    unfold execOp
    simp [eval_tmp hv, convert, run_underlying hT.u, run_underlying hk.u, markStringish, hsh]
    rfl
end Go.Sx
