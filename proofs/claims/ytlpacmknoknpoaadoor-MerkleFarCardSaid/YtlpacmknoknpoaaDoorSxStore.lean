/-
  Own library, part 10: stores into boxes, new boxes.
-/
import Derived.Test.YtlpacmknoknpoaaDoorSxWrite
set_option linter.unusedVariables false
set_option linter.unusedSimpArgs false
set_option linter.unnecessarySimpa false
namespace Go.Sx

variable {P : Program} {C : Ctx} {σ σ' σ1 : Sg} {a : Act} {w w' : World} {ρ : Nat → Nat} {Fe Fe' Fb : Nat → List Nat}

/-- another slot's content, when a box is written -/
theorem SR_box {G G' L L' : Nat → Prop} {u id : Nat} {d : D} {F : List Nat} (h : SR w ρ G L a u d F)
    (hh : ∀ b, (G b ∨ b ∈ F) → b < w.heap.size → w'.heap[b]? = w.heap[b]?) (hg : ∀ b, G b → b < w.heap.size → G' b) (hL : ∀ i, L i → L' i)
    (hc : ∀ i off v, i ≠ id → L i → w.cell? ⟨ρ i, off, none⟩ = some v → w'.cell? ⟨ρ i, off, none⟩ = some v) :
    SR w' ρ G' L' a u (scrubB id d) F := by
  have hL2 : ∀ i, L i → L' i ∧ ρ i = ρ i := fun i hi => ⟨hL i hi, rfl⟩
  cases d with
  | al s => exact h
  | alb i off path =>
    obtain ⟨hF, hid, x, hx, hs⟩ := h
    simp only [scrubB]
    by_cases hi : i = id
    · subst hi; simp only [Nat.beq_refl, cond_true]; exact ⟨hF, x, hx⟩
    · simp only [nbeq hi, cond_false]; exact ⟨hF, hL i hid, x, hx, hc i off x hi hid hs⟩
  | vw s z lo n => exact h
  | va i off z n path lo => exact ⟨h.1, hL i h.2.1, h.2.2⟩
  | ep s z i off path => exact h
  | tup ds =>
    obtain ⟨vs, Fs, h1, h2, h3, h4⟩ := h
    refine ⟨vs, Fs, h1, h2, h3, fun k hk => (h4 k hk).imp (fun hx => hx) fun hx => ⟨hx.1, hx.2.mono (fun b hb => hh b (hb.imp (fun hx => hx) fun hm => ?_)) hg hL2⟩⟩
    rw [h3]; exact List.mem_flatMap.2 ⟨k, List.mem_range.2 hk, hm⟩
  | dead => exact h
  | _ => obtain ⟨x, hx, hr⟩ := h; exact ⟨x, hx, hr.mono hh hg hL2⟩

theorem StW.putB {id : Nat} {x : Bx} {y : Bx} {F' : List Nat} (h : StW C σ a w ρ Fe Fb) (hbox : σ.box id = some y)
    (hn : σ1.n = σ.n) (hbx : σ1.bx = σ.bx)
    (hgets : ∀ u d, σ1.get u = some d → (σ.get u = some d ∧ Fe' u = Fe u) ∨ (d = .dead ∧ Fe' u = [] ∧ ∃ v, a.tmps[u]? = some v))
    (hnone : ∀ u, σ1.get u = none → Fe' u = []) (hFe : ∀ u, Fe' u = Fe u ∨ Fe' u = [])
    (hos : w'.os = w.os) (htape : w'.tape = w.tape) (hout : w'.output = w.output) (hsize : w'.heap.size = w.heap.size)
    (hblk : ∀ b, b ≠ ρ id → w'.heap[b]? = w.heap[b]?)
    (hF' : F'.Nodup) (hin : ρ id ∈ F') (hsub : ∀ b ∈ F', b ∈ Fb id ∨ ∃ s, b ∈ Fe s ∧ Fe' s = [])
    (hx : BR w' ρ (gd C Fe' (upd Fb id F')) (fun i => (σ.box i).isSome) (ρ id) x F') :
    StW C (σ1.putB id x) a w' ρ Fe' (upd Fb id F') := by
  have hmem : ρ id ∈ Fb id := (h.bx id y hbox).mem
  have ho : ∀ b, own Fe' (upd Fb id F') b → own Fe Fb b := by
    rintro b (⟨u, hu⟩ | ⟨i, hi⟩)
    · rcases hFe u with h1 | h1
      · rw [h1] at hu; exact .inl ⟨u, hu⟩
      · rw [h1] at hu; cases hu
    · by_cases hid : i = id
      · subst hid
        rw [upd_same] at hi
        rcases hsub b hi with h1 | ⟨s, h1, _⟩
        · exact .inr ⟨i, h1⟩
        · exact .inl ⟨s, h1⟩
      · rw [upd_other hid] at hi; exact .inr ⟨i, hi⟩
  have hg : ∀ b, gd C Fe Fb b → b < w.heap.size → gd C Fe' (upd Fb id F') b := fun b hb _ => ⟨hb.1, fun hc => hb.2 (ho b hc)⟩
  have hh : ∀ b, gd C Fe Fb b → w'.heap[b]? = w.heap[b]? := fun b hb => hblk b (fun e => hb.2 (.inr ⟨id, e ▸ hmem⟩))
  have hb1 : ∀ i, (σ1.putB id x).box i = if i = id then some x else σ.box i := fun i => by
    rw [box_putB]
    have : σ1.box i = σ.box i := by simp [Sg.box, hbx]
    rw [this]
    by_cases hi : i = id
    · subst hi; simp [hbox]
    · simp [hi]
  have hL : ∀ i, (σ.box i).isSome = true → ((σ1.putB id x).box i).isSome = true := fun i hi => by
    rw [hb1]; by_cases hid : i = id
    · simp [hid]
    · simpa [hid] using hi
  have hL' : ∀ i, ((σ1.putB id x).box i).isSome = true → (σ.box i).isSome = true := fun i hi => by
    rw [hb1] at hi; by_cases hid : i = id
    · subst hid; simp [hbox]
    · simpa [hid] using hi
  have hc : ∀ i off v, i ≠ id → (σ.box i).isSome = true → w.cell? ⟨ρ i, off, none⟩ = some v → w'.cell? ⟨ρ i, off, none⟩ = some v := by
    intro i off v hi hs hv
    rw [← hv]
    refine World.cell?_of_block (hblk _ ?_)
    intro e
    cases hb : σ.box i with
    | none => simp [hb] at hs
    | some z => exact h.dBB i id hi _ (h.bx i z hb).mem (by show ρ i ∈ Fb id; rw [show ρ i = ρ id from e]; exact hmem)
  refine ⟨h.size.trans (by simp [hn]), h.defs, fun i b hp => ⟨(h.pin i b hp).1, hL i (h.pin i b hp).2⟩, ?_, ?_, ?_, ?_, ?_, ?_, ?_, ?_, ?_, ?_, ?_, hos.trans h.os, htape.trans h.tape, hout.trans h.output, by rw [hsize]; exact h.grown, h.gl, fun b hb => h.okN b (by rw [hsize] at hb; exact hb), fun b hb => h.okO b (ho b hb)⟩
  · intro u d hd
    rw [get_putB] at hd
    obtain ⟨d0, hd0, rfl⟩ := Option.map_eq_some_iff.1 hd
    rcases hgets u d0 hd0 with ⟨h1, h2⟩ | ⟨rfl, h2, h3⟩
    · rw [h2]
      exact SR_box (h.env u d0 h1) (fun b hb hl => by
        rcases hb with hb | hb
        · exact hh b hb
        · exact hblk b (fun e => h.dEB u id b hb (e ▸ hmem))) hg hL hc
    · exact ⟨h2, h3⟩
  · intro u hu
    rw [get_putB, Option.map_eq_none_iff] at hu
    exact hnone u hu
  · intro i z hz
    rw [hb1] at hz
    by_cases hid : i = id
    · subst hid
      simp at hz; subst hz
      rw [upd_same]
      refine hx.mono (fun _ _ _ => rfl) (fun b hb _ => hb) (fun j hj => ⟨hL j hj, rfl⟩)
    · simp only [hid, if_false] at hz
      rw [upd_other hid]
      refine (h.bx i z hz).mono (fun b hb _ => ?_) hg (fun j hj => ⟨hL j hj, rfl⟩)
      rcases hb with hb | hb
      · exact hh b hb
      · exact hblk b (fun e => h.dBB i id hid b hb (e ▸ hmem))
  · intro i hi
    rw [hb1] at hi
    by_cases hid : i = id
    · simp [hid] at hi
    · simp only [hid, if_false] at hi; rw [upd_other hid]; exact h.bxN i hi
  · intro u
    rcases hFe u with h1 | h1
    · rw [h1]; exact h.nodE u
    · rw [h1]; exact List.nodup_nil
  · intro i
    by_cases hid : i = id
    · subst hid; simpa using hF'
    · rw [upd_other hid]; exact h.nodB i
  · intro u u' huu b hb hb'
    rcases hFe u with h1 | h1
    · rcases hFe u' with h2 | h2
      · rw [h1] at hb; rw [h2] at hb'; exact h.dEE u u' huu b hb hb'
      · rw [h2] at hb'; cases hb'
    · rw [h1] at hb; cases hb
  · intro u i b hb hb'
    have hbu : b ∈ Fe u := by
      rcases hFe u with h1 | h1
      · rwa [h1] at hb
      · rw [h1] at hb; cases hb
    by_cases hid : i = id
    · subst hid
      rw [upd_same] at hb'
      rcases hsub b hb' with h1 | ⟨s, h1, h2⟩
      · exact h.dEB u i b hbu h1
      · by_cases hus : u = s
        · subst hus; rw [h2] at hb; cases hb
        · exact h.dEE u s hus b hbu h1
    · rw [upd_other hid] at hb'; exact h.dEB u i b hbu hb'
  · have key : ∀ i, i ≠ id → ∀ b, b ∈ F' → b ∉ Fb i := fun i hi b hb hb' => by
      rcases hsub b hb with h1 | ⟨s, h1, _⟩
      · exact h.dBB i id hi b hb' h1
      · exact h.dEB s i b h1 hb'
    intro i i' hii b hb hb'
    by_cases hid : i = id
    · subst hid
      rw [upd_same] at hb; rw [upd_other (fun e => hii e.symm)] at hb'
      exact key i' (fun e => hii e.symm) b hb hb'
    · by_cases hid' : i' = id
      · subst hid'
        rw [upd_same] at hb'; rw [upd_other hid] at hb
        exact key i hid b hb' hb
      · rw [upd_other hid] at hb; rw [upd_other hid'] at hb'; exact h.dBB i i' hii b hb hb'
  · intro b hb; exact h.new b (ho b hb)
  · intro b hk
    have := h.kept b hk
    exact ⟨(hblk b (fun e => h.new b (.inr ⟨id, e ▸ hmem⟩) hk)).trans this.1, this.2⟩

theorem OpS.skip {o : Oper} (hd : o.dst = none) (h : ∀ a w, St C σ a w → ∃ w', (execOp a.eval o).run P w = .ok .skip w' ∧ St C σ' a w') : OpS P C o σ σ' := by
  intro a w hs K Q hK
  obtain ⟨w', hr, hs'⟩ := h a w hs
  refine wpIn_of_run hr (by simp) ?_
  simp only [Oper.uponIn, hd, Act.put]
  exact hK _ _ hs'

/-- storing cells -/
theorem run_storeVar {ty n : Nat} {g : Bool} [LdT P ty n g] {v : Value} {b off e : Nat} {cs : Array Value} (hb : w.heap[b]? = some (.cells cs e (0, 0))) (hn : v.cells.size = n)
    (hs : off + n ≤ cs.size) (h1 : ∀ u ∈ v.cells.toList, u.oneCell' = true) :
    (storeVar ty ⟨b, off, none⟩ v).run P w = .ok () (w.setRow b (cs.toList.take off ++ v.cells.toList ++ cs.toList.drop (off + v.cells.toList.length)).toArray) := by
  have := run_storeCells_at P b off e v.cells.toList 0 cs w hb (by simp; omega) h1
  simp only [Nat.add_zero] at this
  simp [storeVar, LdT.size (P := P) (t := ty), hn, this]

/-- a store of what owns nothing into a box -/
theorem R.st {p id off : Nat} {path : List Nat} {x : Operand} {d0 d1 d' dx : D} {ty n rt : TypeId} {gg : Bool} {pos : String} {aft : Array Edge} {g : Option (Nat × Bool)} [LdT P ty n gg]
    (h : σ.get p = some (.ptr id off path)) (hb : σ.box id = some (.var d0)) (hl : d0.loc path = some (off, d1)) (hx : ev C.gl σ x = some dx) (hp : dx.pur = true) (hnp : dx.np = true)
    (hn : dx.sz = n) (hz : dx.sz = d1.sz) (hu : d0.upd path dx = some d') :
    OpS P C ⟨none, .store ty (.tmp p) x, rt, pos, aft, g⟩ σ (σ.putB id (.var d')) := by
  refine OpS.skip rfl fun a w ⟨ρ, Fe, Fb, st⟩ => ?_
  obtain ⟨v, hv, hr⟩ := (SR_plain rfl).1 (st.env _ _ h)
  simp only [VR, D.isAgg, Bool.false_eq_true, if_false] at hr
  generalize Fe p = F at hr
  cases hr
  obtain ⟨cs, e, F', hb', hr, hFb⟩ := st.bx _ _ hb
  obtain ⟨Fx, hvx, _⟩ := ev_ok st hx (pur_ref hp)
  have hFx := hvx.pur hp
  subst hFx
  have hdead : dx ≠ .dead := by rintro rfl; simp [D.pur] at hp
  have hxc := hvx.cells hdead
  obtain ⟨_, _, _, h3⟩ := hr.loc hl
  have hnd : F'.Nodup := by have := st.nodB id; rw [hFb] at this; exact (List.nodup_cons.1 this).2
  obtain ⟨F2, g1, g2, g3, g4, g5⟩ := hr.upd hl hu hz (hxc.unflag hnp) hnd List.nodup_nil (by simp) (.inl rfl)
  have hlen := hxc.len
  have hvs : (a.eval x).cells.size = n := by simp at hlen; omega
  have hbnd : off + n ≤ cs.size := by simp at h3; omega
  refine ⟨w.setRow (ρ id) (cs.toList.take off ++ (a.eval x).cells.toList ++ cs.toList.drop (off + (a.eval x).cells.toList.length)).toArray, ?_, ρ, Fe, _, st.putB (Fe' := Fe) (σ1 := σ) (F' := ρ id :: F2) hb rfl rfl (fun u d hd => .inl ⟨hd, rfl⟩) st.envN (fun u => .inl rfl) rfl rfl rfl (by simp)
    (fun b hbne => setRow_other w (ρ id) b _ hbne) ?_ (by simp) ?_ ?_⟩
  · unfold execOp
    simp only [Instr.storeAt, Instr.sureAddr, eval_tmp hv, Sem.run_bind, Sem.run_pure, Result.andThen_ok, run_storeVar (P := P) (ty := ty) hb' hvs hbnd hxc.one]
  · refine List.nodup_cons.2 ⟨fun hm => ?_, g3⟩
    have := st.nodB id
    rw [hFb] at this
    rcases g2 _ hm with h4 | h4
    · exact (List.nodup_cons.1 this).1 h4
    · cases h4
  · intro b hbm
    rcases List.mem_cons.1 hbm with rfl | hm
    · exact .inl (by rw [hFb]; simp)
    · rcases g2 b hm with h4 | h4
      · exact .inl (by rw [hFb]; exact List.mem_cons_of_mem _ h4)
      · cases h4
  · refine ⟨_, e, F2, setRow_heap w (ρ id) cs _ e (0, 0) hb', ?_, rfl⟩
    simp only
    refine g1.mono (fun b hbb _ => setRow_other w (ρ id) b _ ?_) (fun b hbb _ => ⟨hbb.1, fun ho => hbb.2 ?_⟩) (fun i hi => ⟨hi, rfl⟩)
    · rintro rfl
      rcases hbb with hbb | hbb
      · exact hbb.2 (.inr ⟨id, by rw [hFb]; simp⟩)
      · have := st.nodB id
        rw [hFb] at this
        rcases g2 _ hbb with h4 | h4
        · exact (List.nodup_cons.1 this).1 h4
        · cases h4
    · rcases ho with ⟨u, hu⟩ | ⟨i, hi⟩
      · exact .inl ⟨u, hu⟩
      · by_cases hid : i = id
        · subst hid
          rw [upd_same] at hi
          refine .inr ⟨i, ?_⟩
          rw [hFb]
          rcases List.mem_cons.1 hi with rfl | hm
          · simp
          · rcases g2 b hm with h4 | h4
            · exact List.mem_cons_of_mem _ h4
            · cases h4
        · rw [upd_other hid] at hi; exact .inr ⟨i, hi⟩

/-- what slot s owns is stored into a box -/
theorem R.stO {p s id off : Nat} {path : List Nat} {d0 d1 d' dx : D} {ty n rt : TypeId} {gg : Bool} {pos : String} {aft : Array Edge} {g : Option (Nat × Bool)} [LdT P ty n gg]
    (h : σ.get p = some (.ptr id off path)) (hb : σ.box id = some (.var d0)) (hl : d0.loc path = some (off, d1)) (hx : σ.get s = some dx) (hrf : dx.isRef = false) (hnp : dx.np = true)
    (hn : dx.sz = n) (hz : dx.sz = d1.sz) (hu : d0.upd path dx = some d') (hna : d0.noArr path = true) :
    OpS P C ⟨none, .store ty (.tmp p) (.tmp s), rt, pos, aft, g⟩ σ ((σ.kill s).putB id (.var d')) := by
  refine OpS.skip rfl fun a w ⟨ρ, Fe, Fb, st⟩ => ?_
  obtain ⟨v, hv, hr⟩ := (SR_plain rfl).1 (st.env _ _ h)
  simp only [VR, D.isAgg, Bool.false_eq_true, if_false] at hr
  generalize Fe p = F at hr
  cases hr
  obtain ⟨cs, e, F', hb', hr, hFb⟩ := st.bx _ _ hb
  obtain ⟨vx, hvx0, hvx⟩ := (SR_plain hrf).1 (st.env _ _ hx)
  have hdead : dx ≠ .dead := by rintro rfl; simp [D.isRef] at hrf
  have hxc := hvx.cells hdead
  obtain ⟨_, _, _, h3⟩ := hr.loc hl
  have hnd : F'.Nodup := by have := st.nodB id; rw [hFb] at this; exact (List.nodup_cons.1 this).2
  have hdis : ∀ b ∈ Fe s, b ∉ ρ id :: F' := fun b hb' hb2 => by rw [← hFb] at hb2; exact st.dEB s id b hb' hb2
  obtain ⟨F2, g1, g2, g3, g4, g5⟩ := hr.upd hl hu hz (hxc.unflag hnp) hnd (st.nodE s) (fun b hb' hb2 => hdis b hb' (List.mem_cons_of_mem _ hb2)) (.inr hna)
  have hlen := hxc.len
  have hvs : vx.cells.size = n := by simp at hlen; omega
  have hbnd : off + n ≤ cs.size := by simp at h3; omega
  have hnotin : ρ id ∉ F2 := fun hm => by
    have := st.nodB id
    rw [hFb] at this
    rcases g2 _ hm with h4 | h4
    · exact (List.nodup_cons.1 this).1 h4
    · exact hdis _ h4 (by simp)
  refine ⟨w.setRow (ρ id) (cs.toList.take off ++ vx.cells.toList ++ cs.toList.drop (off + vx.cells.toList.length)).toArray, ?_, ρ, upd Fe s [], _, st.putB (Fe' := upd Fe s []) (σ1 := σ.kill s) (F' := ρ id :: F2) hb rfl rfl ?_ ?_ ?_ rfl rfl rfl (by simp)
    (fun b hbne => setRow_other w (ρ id) b _ hbne) ?_ (by simp) ?_ ?_⟩
  · unfold execOp
    simp only [Instr.storeAt, Instr.sureAddr, eval_tmp hv, eval_tmp hvx0, Sem.run_bind, Sem.run_pure, Result.andThen_ok, run_storeVar (P := P) (ty := ty) hb' hvs hbnd hxc.one]
  · intro u d hd
    rw [get_kill] at hd
    by_cases hus : u = s
    · subst hus; simp at hd; exact .inr ⟨hd.symm, by simp, vx, hvx0⟩
    · simp only [hus, if_false] at hd; exact .inl ⟨hd, upd_other hus⟩
  · intro u hu
    rw [get_kill] at hu
    by_cases hus : u = s
    · simp [hus] at hu
    · simp only [hus, if_false] at hu; rw [upd_other hus]; exact st.envN u hu
  · intro u
    by_cases hus : u = s
    · subst hus; exact .inr (by simp)
    · exact .inl (upd_other hus)
  · exact List.nodup_cons.2 ⟨hnotin, g3⟩
  · intro b hbm
    rcases List.mem_cons.1 hbm with rfl | hm
    · exact .inl (by rw [hFb]; simp)
    · rcases g2 b hm with h4 | h4
      · exact .inl (by rw [hFb]; exact List.mem_cons_of_mem _ h4)
      · exact .inr ⟨s, h4, by simp⟩
  · refine ⟨_, e, F2, setRow_heap w (ρ id) cs _ e (0, 0) hb', ?_, rfl⟩
    simp only
    refine g1.mono (fun b hbb _ => setRow_other w (ρ id) b _ ?_) (fun b hbb _ => ⟨hbb.1, fun ho => hbb.2 ?_⟩) (fun i hi => ⟨hi, rfl⟩)
    · rintro rfl
      rcases hbb with hbb | hbb
      · exact hbb.2 (.inr ⟨id, by rw [hFb]; simp⟩)
      · exact hnotin hbb
    · rcases ho with ⟨u, hu⟩ | ⟨i, hi⟩
      · by_cases hus : u = s
        · subst hus; simp at hu
        · rw [upd_other hus] at hu; exact .inl ⟨u, hu⟩
      · by_cases hid : i = id
        · subst hid
          rw [upd_same] at hi
          rcases List.mem_cons.1 hi with rfl | hm
          · exact .inr ⟨i, by rw [hFb]; simp⟩
          · rcases g2 b hm with h4 | h4
            · exact .inr ⟨i, by rw [hFb]; exact List.mem_cons_of_mem _ h4⟩
            · exact .inl ⟨s, h4⟩
        · rw [upd_other hid] at hi; exact .inr ⟨i, hi⟩
end Go.Sx
