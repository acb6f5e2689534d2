/-
  Own library, part 20: copies, new values with parts, slices that are only read from now on.
-/
import Derived.Test.YtlpacmknoknpoaaDoorSxVal2
set_option linter.unusedVariables false
set_option linter.unusedSimpArgs false
set_option linter.unnecessarySimpa false
namespace Go.Sx

variable {P : Program} {C : Ctx} {σ σ' σ1 : Sg} {a : Act} {w w' : World} {ρ : Nat → Nat} {Fe Fe' Fb : Nat → List Nat}

theorem splice_nest (cs xs : List Value) (off M p : Nat) (h1 : off + M ≤ cs.length) (h2 : p + xs.length ≤ M) :
    cs.take off ++ (((cs.drop off).take M).take p ++ xs ++ ((cs.drop off).take M).drop (p + xs.length)) ++ cs.drop (off + M) = cs.take (off + p) ++ xs ++ cs.drop (off + p + xs.length) := by
  have e1 : cs.take off ++ ((cs.drop off).take M).take p = cs.take (off + p) := by
    rw [List.take_take, Nat.min_eq_left (by omega), ← List.take_add]
  have e2 : ((cs.drop off).take M).drop (p + xs.length) ++ cs.drop (off + M) = cs.drop (off + p + xs.length) := by
    rw [List.drop_take, List.drop_drop]
    have := List.take_append_drop (M - (p + xs.length)) (cs.drop (off + (p + xs.length)))
    rw [List.drop_drop, show off + (p + xs.length) + (M - (p + xs.length)) = off + M by omega] at this
    rw [this, Nat.add_assoc]
  rw [← e1, ← e2]
  simp only [List.append_assoc]

/-- a copy into an array in a box -/
theorem R.cpA {s t e z bytes id off n lo m : Nat} {path : List Nat} {d0 d' : D} {l l' : List D} {x : Operand} {ty ty2 rt : TypeId} {pos : String} {aft : Array Edge} {g : Option (Nat × Bool)} [hT : SlT P ty e] [hE : ElT P e z bytes]
    (h : σ.get s = some (.va id off z n path lo)) (hb : σ.box id = some (.var d0)) (hl : d0.loc path = some (off, .arr m z l)) (hlo : lo + n ≤ m) (hx : SrcO C.gl σ x z l') (hnp : ∀ y ∈ l', y.np = true) (ht : t < σ.n)
    (hu : d0.upd path (.arr m z (l.take lo ++ l'.take (min l'.length n) ++ l.drop (lo + min l'.length n))) = some d') :
    OpS P C ⟨some t, .call { callee := .builtin .copy, args := #[.tmp s, x], argTypes := #[ty, ty2] }, rt, pos, aft, g⟩ σ ((σ.putB id (.var d')).set t (.int (min l'.length n : Nat))) := by
  refine OpS.value fun a w ⟨ρ, Fe, Fb, st⟩ => ?_
  obtain ⟨_, hid, cap, o', hcap, ho', hv⟩ := st.env _ _ h
  obtain ⟨cs, e', F', hb', hr, hFb⟩ := st.bx _ _ hb
  obtain ⟨base, cap2, hxe, hsr, hp⟩ := hx.ok st
  obtain ⟨_, news, q1, q2, q3, q4⟩ := src_ok hsr hp
  obtain ⟨Fa, h1, h2, h3⟩ := hr.loc hl
  have hFa := h1.pur rfl
  subst hFa
  have hnd : F'.Nodup := by have := st.nodB id; rw [hFb] at this; exact (List.nodup_cons.1 this).2
  generalize hk : min l'.length n = k at hu
  have hkn : k ≤ n := by omega
  have hkl : k ≤ l'.length := by omega
  have hkz : k * z ≤ l'.length * z := Nat.mul_le_mul_right z hkl
  have hxl : (news.take (k * z)).length = k * z := by simp; omega
  have hlm : lo * z + k * z ≤ m * z := by rw [← Nat.add_mul]; exact Nat.mul_le_mul_right z (by omega)
  cases h1 with
  | arr _ _ _ A hlm' hA hrA =>
  simp only [sz_arr] at h3 hA hrA
  -- the array behind
  have hrc : Rc w ρ (gd C Fe Fb) (fun id => (σ.box id).isSome) false (.arr m z (l.take lo ++ l'.take k ++ l.drop (lo + k)))
      (((cs.toList.drop off).take (m * z)).take (lo * z) ++ news.take (k * z) ++ ((cs.toList.drop off).take (m * z)).drop (lo * z + (news.take (k * z)).length)) [] := by
    have hp0 : lo * z + (news.take (k * z)).length ≤ ((cs.toList.drop off).take (m * z)).length := by rw [hxl, hA]; exact hlm
    refine .arr m z _ _ (by simp; omega) (by rw [splice_len _ _ _ hp0, hA]) (fun i hi => ?_)
    have hi' : i < m := by simp at hi; omega
    have hiz : i * z + z ≤ m * z := by
      have := Nat.mul_le_mul_right z (show i + 1 ≤ m by omega)
      rw [Nat.add_mul] at this; omega
    rcases Nat.lt_or_ge i lo with h5 | h5
    · have e1 : (l.take lo ++ l'.take k ++ l.drop (lo + k))[i] = l[i]'(by omega) := by
        rw [List.getElem_append_left (by simp; omega), List.getElem_append_left (by simp; omega), List.getElem_take]
      have h6 : (i + 1) * z ≤ lo * z := Nat.mul_le_mul_right z h5
      rw [Nat.add_mul] at h6
      rw [e1, splice_out _ _ _ _ _ hp0 (.inl (by omega))]
      exact hrA i (by omega)
    · rcases Nat.lt_or_ge i (lo + k) with h6 | h6
      · have e1 : (l.take lo ++ l'.take k ++ l.drop (lo + k))[i] = l'[i - lo]'(by omega) := by
          have h7 : (l.take lo).length = lo := by simp; omega
          rw [List.getElem_append_left (by simp; omega), List.getElem_append_right (by omega), List.getElem_take]
          simp only [h7]
        have h8 := part_right (((cs.toList.drop off).take (m * z)).take (lo * z)) (news.take (k * z)) (((cs.toList.drop off).take (m * z)).drop (lo * z + (news.take (k * z)).length)) (i - lo) lo k z (by rw [List.length_take, hA]; omega) hxl (by omega)
        rw [show lo + (i - lo) = i by omega, ← List.append_assoc] at h8
        rw [e1, h8]
        have h9 := part_left (news.take (k * z)) (news.drop (k * z)) (i - lo) k z hxl (by omega)
        rw [List.take_append_drop] at h9
        rw [← h9]
        exact q4 (i - lo) (by omega)
      · have e1 : (l.take lo ++ l'.take k ++ l.drop (lo + k))[i] = l[i]'(by omega) := by
          have h7 : (l.take lo ++ l'.take k).length = lo + k := by simp; omega
          rw [List.getElem_append_right (by omega), List.getElem_drop]
          simp only [h7, show lo + k + (i - (lo + k)) = i by omega]
        have h7 : (lo + k) * z ≤ i * z := Nat.mul_le_mul_right z h6
        rw [Nat.add_mul] at h7
        rw [e1, splice_out _ _ _ _ _ hp0 (.inr (by rw [hxl]; exact h7))]
        exact hrA i (by omega)
  obtain ⟨F2, g1, g2, g3, g4, g5⟩ := hr.upd hl hu (by simp) hrc hnd List.nodup_nil (by simp) (.inl rfl)
  have hsp : (((cs.toList.drop off).take (m * z)).take (lo * z) ++ news.take (k * z) ++ ((cs.toList.drop off).take (m * z)).drop (lo * z + (news.take (k * z)).length)).length = m * z := by
    rw [splice_len _ _ _ (by rw [hxl, hA]; exact hlm), hA]
  rw [hsp, splice_nest _ _ _ _ _ h3 (by rw [hxl]; exact hlm)] at g1
  have hnode : ρ id ∉ F2 := fun hm => by
    have := st.nodB id
    rw [hFb] at this
    exact (List.nodup_cons.1 this).1 ((g2 _ hm).resolve_right (by simp))
  have st2 := st.putB (x := .var d') (Fe' := Fe) (σ1 := σ) (F' := ρ id :: F2) (w' := w.setRow (ρ id) (cs.toList.take (off + lo * z) ++ news.take (k * z) ++ cs.toList.drop (off + lo * z + (news.take (k * z)).length)).toArray)
    hb rfl rfl (fun u d hd => .inl ⟨hd, rfl⟩) st.envN (fun u => .inl rfl) rfl rfl rfl (by simp) (fun b hbne => setRow_other w (ρ id) b _ hbne) (List.nodup_cons.2 ⟨hnode, g3⟩) (by simp)
    (fun b hbm => .inl (by
      rw [hFb]
      rcases List.mem_cons.1 hbm with rfl | hm
      · simp
      · exact List.mem_cons_of_mem _ ((g2 b hm).resolve_right (by simp))))
    ⟨_, e', F2, setRow_heap w (ρ id) cs _ e' (0, 0) hb', by
      simp only
      refine g1.mono (fun b hbb _ => setRow_other w (ρ id) b _ ?_) (fun b hbb _ => ⟨hbb.1, fun ho => hbb.2 ?_⟩) (fun i hi => ⟨hi, rfl⟩)
      · rintro rfl
        rcases hbb with hbb | hbb
        · exact hbb.2 (.inr ⟨id, by rw [hFb]; simp⟩)
        · exact hnode hbb
      · rcases ho with ⟨u, hu⟩ | ⟨i, hi⟩
        · exact .inl ⟨u, hu⟩
        · by_cases hid : i = id
          · subst hid
            rw [upd_same] at hi
            refine .inr ⟨i, ?_⟩
            rw [hFb]
            rcases List.mem_cons.1 hi with rfl | hm
            · simp
            · exact List.mem_cons_of_mem _ ((g2 b hm).resolve_right (by simp))
          · rw [upd_other hid] at hi; exact .inr ⟨i, hi⟩, rfl⟩
  refine ⟨.int .i64 (k : Nat), w.setRow (ρ id) (cs.toList.take (off + lo * z) ++ news.take (k * z) ++ cs.toList.drop (off + lo * z + (news.take (k * z)).length)).toArray, ?_, ?_⟩
  rotate_left
  · exact st2.put (t := t) (d := .int (k : Nat)) (v := .int .i64 (k : Nat)) (by simpa using ht) rfl (by simp only [VR, D.isAgg, Bool.false_eq_true, if_false]; exact .int _)
  · have hfc : (Builtin.firstCells z k (.slice base l'.length cap2)).run P w = .ok (news.take (k * z)).toArray w := by
      rcases q1 with ⟨rfl, rfl, rfl⟩ | ⟨ad, rfl, hn⟩
      · have : k = 0 := by simp at hkl; exact hkl
        subst this
        simp [Builtin.firstCells]
      · refine run_firstCells_some w z k ad l'.length cap2 _ hxl (fun j u hu => hn j u ?_)
        rw [List.getElem?_take] at hu
        split at hu
        · exact hu
        · cases hu
    have hst : (storeCells ⟨ρ id, o', none⟩ (news.take (k * z)) 0).run P w = .ok () (w.setRow (ρ id) (cs.toList.take (off + lo * z) ++ news.take (k * z) ++ cs.toList.drop (off + lo * z + (news.take (k * z)).length)).toArray) := by
      rcases ho' with rfl | ⟨rfl, rfl⟩
      · have := run_storeCells_at P (ρ id) (off + lo * z) e' (news.take (k * z)) 0 cs w hb' (by
          rw [hxl]
          simp only [Array.length_toList] at h3
          omega) (fun u hu => q3 u (List.mem_of_mem_take hu))
        simpa using this
      · have hk0 : k = 0 := by omega
        subst hk0
        simp only [Nat.zero_mul, List.take_zero, List.append_nil, List.length_nil, Nat.add_zero, List.take_append_drop, Array.toArray_toList]
        rw [setRow_self w (ρ id) cs e' (0, 0) hb']
        rfl
    unfold execOp
    have hmin : Nat.min l'.length n = k := hk
    simp [resolve, invoke, builtin, Builtin.copy_, run_underlying hT.u, eval_tmp hv, hxe, Builtin.lenOf, ElT.size (P := P) (e := e), hmin, hfc, hst, goInt]

end Go.Sx
