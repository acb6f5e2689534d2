/-
  Own library: arrays of which some parts are given.
-/
import Derived.Test.YtlpacmknoknpoaaDoorSxRange4
set_option linter.unusedVariables false
set_option linter.unusedSimpArgs false
set_option linter.unnecessarySimpa false
namespace Go.Sx

variable {P : Program} {C : Ctx} {σ σ' σ1 : Sg} {a : Act} {w w' : World} {ρ : Nat → Nat} {Fe Fe' Fb : Nat → List Nat}

def PurA (gl : List (Nat × D)) (σ : Sg) (n z : Nat) : List (Nat × Operand) → Prop
  | [] => True
  | (i, x) :: r => (∃ d, ev gl σ x = some d ∧ d.pur = true ∧ d.np = true ∧ d.sz = z ∧ Nat.blt i n = true) ∧ PurA gl σ n z r

theorem fill_arr {G L : Nat → Prop} {gl : List (Nat × D)} {n z : Nat} (hv : ∀ x d, ev gl σ x = some d → d.pur = true → ∃ cs : List Value, (a.eval x).cells.toList = cs ∧ Rc w ρ G L true d cs []) :
    ∀ (ps : List (Nat × Operand)) (l l' : List D) (cs : Array Value), evsS gl σ ps l = some l' → PurA gl σ n z ps → Rc w ρ G L false (.arr n z l) cs.toList [] →
      ∃ out : Array Value, Instr.fill (fun i => some (i * z, z)) cs (ps.map (fun p => (p.1, a.eval p.2))) = some out ∧ Rc w ρ G L false (.arr n z l') out.toList [] := by
  intro ps
  induction ps with
  | nil => intro l l' cs h _ hr; simp only [evsS, Option.some.injEq] at h; subst h; exact ⟨cs, rfl, hr⟩
  | cons p ps ih =>
    intro l l' cs h hp hr
    obtain ⟨i, x⟩ := p
    obtain ⟨⟨d, hx, p1, p2, p3, p5⟩, p4⟩ := hp
    have p5 : i < n := Nat.le_of_ble_eq_true p5
    simp only [evsS, hx] at h
    obtain ⟨xc, hxc, hrc⟩ := hv x d hx p1
    have hlen := hrc.len
    have hll : l.length = n := by cases hr; assumption
    have hi2 : i < l.length := by omega
    have hcl := hr.len
    simp only [sz_arr, Array.length_toList] at hcl
    have hsi : l[i].sz = z := by
      have hii : Rc w ρ G L false l[i] ((cs.toList.drop (i * z)).take z) [] := by
        cases hr with
        | arr _ _ _ _ _ _ hh => exact hh i hi2
      have hl := hii.len
      rw [← hl, List.length_take, List.length_drop, Array.length_toList, hcl]
      have := Nat.mul_le_mul_right z (show i + 1 ≤ n from p5)
      rw [Nat.add_mul] at this
      omega
    have hlo : i * z + z ≤ n * z := by
      have := Nat.mul_le_mul_right z (show i + 1 ≤ n from p5)
      rw [Nat.add_mul] at this
      omega
    have hloc : (D.arr n z l).loc [i] = some (i * z, l[i]) := by simp [D.loc, List.getElem?_eq_getElem hi2]
    have hupd : (D.arr n z l).upd [i] d = some (.arr n z (l.set i d)) := by simp [D.upd, List.getElem?_eq_getElem hi2]
    obtain ⟨F2, g1, g2, _⟩ := hr.upd hloc hupd (p3.trans hsi.symm) (hrc.unflag p2) List.nodup_nil List.nodup_nil (by simp) (.inl rfl)
    have hF2 : F2 = [] := by
      cases F2 with
      | nil => rfl
      | cons b r => have := g2 b (by simp); simp at this
    subst hF2
    have hxl : xc.length = z := by rw [hlen, p3]
    have hfold := foldl_set cs xc (i * z) 0 (by omega)
    simp only [Nat.add_zero] at hfold
    have hcs2 : ((a.eval x).cells.zipIdx.foldl (fun (c : Array Value) (p : Value × Nat) => c.setIfInBounds (i * z + p.2) p.1) cs).toList = cs.toList.take (i * z) ++ xc ++ cs.toList.drop (i * z + xc.length) := by
      rw [← hfold, ← hxc, ← Array.foldl_toList]
      simp
    rw [← hcs2] at g1
    obtain ⟨out, q1, q2⟩ := ih (l.set i d) l' _ h p4 g1
    refine ⟨out, ?_, q2⟩
    simp only [List.map_cons, Instr.fill]
    have hsz : (a.eval x).cells.size = z := by rw [← Array.length_toList, hxc, hxl]
    simp only [hsz]
    rw [if_neg (by simp; omega)]
    exact q1

/-- an array of which some parts are given -/
theorem R.bldAP {t n e z : Nat} {ps : List (Nat × Operand)} {l l' l2 : List D} {ty rt : TypeId} {pos : String} {aft : Array Edge} {g : Option (Nat × Bool)} [hT : BaT P ty n e z] [hZ : ZrT P ty (.arr n z l)]
    (hps : EvS C.gl σ ps l l') (hp : PurA C.gl σ n z ps) (he : l' = l2) (ht : t < σ.n) :
    OpS P C ⟨some t, .build ty ps.toArray, rt, pos, aft, g⟩ σ (σ.set t (.arr n z l2)) := by
  subst he
  refine OpS.value fun a w ⟨ρ, Fe, Fb, st⟩ => ?_
  obtain ⟨it, zv, ie, h1, h2, h3, h4, h5, h6⟩ := hT.i
  obtain ⟨i', v', k1, k2, k3, k4⟩ := hZ.i
  rw [h2] at k1
  cases k1
  rw [h3] at k2
  cases k2
  obtain ⟨out, q1, q2⟩ := fill_arr (w := w) (ρ := ρ) (fun x d h hp => ev_cells st h hp) ps l l' zv.cells hps.ok hp (chk_ok _ _ _ _ _ _ k3)
  have hps2 : (ps.toArray.map fun x => (x.1, a.eval x.2)).toList = ps.map (fun p => (p.1, a.eval p.2)) := by simp
  refine ⟨.agg out, w, ?_, st.put ht rfl ?_⟩
  · have := run_build (P := P) w ty (ps.toArray.map fun x => (x.1, a.eval x.2)) out (by
      rw [hps2]
      simp only [Program.built, h1, h2, h3, h4, h5]
      exact q1)
    unfold execOp
    simp only [Sem.run_bind, this, Result.andThen_ok, Sem.run_pure]
  · simp only [VR, D.isAgg, if_true]
    exact ⟨out, rfl, q2.flag⟩
end Go.Sx
