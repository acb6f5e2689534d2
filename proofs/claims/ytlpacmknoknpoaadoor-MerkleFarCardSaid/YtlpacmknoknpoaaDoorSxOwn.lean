/-
  Own library, part 15: slices of its own are written, grow, are made.
-/
import Derived.Test.YtlpacmknoknpoaaDoorSxDraw
import Derived.Laws.AppendOwn
import Derived.Laws.OwnMore
import Derived.Laws.MakeOwn
set_option linter.unusedVariables false
set_option linter.unusedSimpArgs false
set_option linter.unnecessarySimpa false
namespace Go.Sx

variable {P : Program} {C : Ctx} {σ σ' σ1 : Sg} {a : Act} {w w' : World} {ρ : Nat → Nat} {Fe Fe' Fb : Nat → List Nat}

def seta {α : Type} (id : Nat) (b : α) : List (Nat × α) → List (Nat × α)
  | [] => []
  | (k, x) :: r => bif Nat.beq k id then (k, b) :: r else (k, x) :: seta id b r
theorem lk_seta {α : Type} (id : Nat) (b : α) (l : List (Nat × α)) (u : Nat) : lk (seta id b l) u = if u = id then (lk l u).map (fun _ => b) else lk l u := by
  induction l with
  | nil => simp [seta, lk]
  | cons x r ih =>
    obtain ⟨k, d⟩ := x
    simp only [seta]
    by_cases hk : k = id
    · subst hk
      simp only [Nat.beq_refl, cond_true, lk_cons]
      by_cases hu : k = u
      · subst hu; simp
      · simp [hu, show ¬ u = k from fun e => hu e.symm]
    · simp only [nbeq hk, cond_false, lk_cons, ih]
      by_cases hku : k = u
      · subst hku; simp [hk]
      · simp [hku]
/-- the same value, that stands for something else now -/
def Sg.upd (σ : Sg) (s : Nat) (d : D) : Sg := { σ with env := seta s d σ.env }
theorem get_upd (σ : Sg) (s : Nat) (d : D) (u : Nat) : (σ.upd s d).get u = if u = s then (σ.get u).map (fun _ => d) else σ.get u := by simp [Sg.get, Sg.upd, lk_seta]
@[simp] theorem box_upd (σ : Sg) (s : Nat) (d : D) (id : Nat) : (σ.upd s d).box id = σ.box id := rfl
@[simp] theorem n_upd (σ : Sg) (s : Nat) (d : D) : (σ.upd s d).n = σ.n := rfl

theorem SR_keep {G G' L L' : Nat → Prop} {u : Nat} {d : D} {F : List Nat} (h : SR w ρ G L a u d F)
    (hh : ∀ b, (G b ∨ b ∈ F) → b < w.heap.size → w'.heap[b]? = w.heap[b]?) (hg : ∀ b, G b → b < w.heap.size → G' b) (hL : ∀ i, L i → L' i)
    (hc : ∀ i off v, L i → w.cell? ⟨ρ i, off, none⟩ = some v → w'.cell? ⟨ρ i, off, none⟩ = some v) : SR w' ρ G' L' a u d F := by
  have hL2 : ∀ i, L i → L' i ∧ ρ i = ρ i := fun i hi => ⟨hL i hi, rfl⟩
  cases d with
  | al s => exact h
  | alb i off path =>
    obtain ⟨hF, hid, x, hx, hs⟩ := h
    exact ⟨hF, hL i hid, x, hx, hc i off x hid hs⟩
  | vw s z lo n => exact h
  | va i off z n path lo => exact ⟨h.1, hL i h.2.1, h.2.2⟩
  | ep s z i off path => exact h
  | tup ds =>
    obtain ⟨vs, Fs, h1, h2, h3, h4⟩ := h
    refine ⟨vs, Fs, h1, h2, h3, fun k hk => (h4 k hk).imp (fun hx => hx) fun hx => ⟨hx.1, hx.2.mono (fun b hb => hh b (hb.imp (fun hx => hx) fun hm => ?_)) hg hL2⟩⟩
    rw [h3]; exact List.mem_flatMap.2 ⟨k, List.mem_range.2 hk, hm⟩
  | dead => exact h
  | _ => obtain ⟨x, hx, hr⟩ := h; exact ⟨x, hx, hr.mono hh hg hL2⟩

/-- What slot s owns turns; its value stays. -/
theorem StW.turn {s : Nat} {d d' : D} {F : List Nat} (h : StW C σ a w ρ Fe Fb) (hg0 : σ.get s = some d)
    (hos : w'.os = w.os) (htape : w'.tape = w.tape) (hout : w'.output = w.output) (hsize : w.heap.size ≤ w'.heap.size)
    (hblk : ∀ b, b < w.heap.size → b ∉ Fe s → w'.heap[b]? = w.heap[b]?)
    (hF : F.Nodup) (hFs : ∀ b ∈ F, b ∈ Fe s ∨ w.heap.size ≤ b)
    (hv : SR w' ρ (gd C (Go.Sx.upd Fe s F) Fb) (fun id => (σ.box id).isSome) a s d' F) :
    StW C (σ.upd s d') a w' ρ (Go.Sx.upd Fe s F) Fb := by
  have hlt := h.lt
  have hso : ∀ b, b ∈ Fe s → own Fe Fb b := fun b hb => .inl ⟨s, hb⟩
  have ho : ∀ b, own (Go.Sx.upd Fe s F) Fb b → own Fe Fb b ∨ w.heap.size ≤ b := by
    rintro b (⟨u, hu⟩ | hid)
    · by_cases hus : u = s
      · subst hus; simp at hu; exact (hFs b hu).imp (hso b) id
      · rw [upd_other hus] at hu; exact .inl (.inl ⟨u, hu⟩)
    · exact .inl (.inr hid)
  have hg : ∀ b, gd C Fe Fb b → b < w.heap.size → gd C (Go.Sx.upd Fe s F) Fb b := fun b hb hl => ⟨hb.1, fun hc => by
    rcases ho b hc with h1 | h1
    · exact hb.2 h1
    · omega⟩
  have hh : ∀ b, gd C Fe Fb b → b < w.heap.size → w'.heap[b]? = w.heap[b]? := fun b hb hl => hblk b hl (fun hm => hb.2 (hso b hm))
  have hc : ∀ id off v, (σ.box id).isSome = true → w.cell? ⟨ρ id, off, none⟩ = some v → w'.cell? ⟨ρ id, off, none⟩ = some v := by
    intro id off v hid hc
    have hl := block_lt_of_cell hc
    rw [← hc]
    refine World.cell?_of_block (hblk _ hl ?_)
    intro hm
    cases hb : σ.box id with
    | none => simp [hb] at hid
    | some x => exact h.dEB s id _ hm (h.bx id x hb).mem
  refine ⟨h.size, h.defs, h.pin, ?_, ?_, ?_, h.bxN, ?_, h.nodB, ?_, ?_, h.dBB, ?_, ?_, hos.trans h.os, htape.trans h.tape, hout.trans h.output, Nat.le_trans h.grown hsize, h.gl, fun b hb => h.okN b (Nat.le_trans hsize hb), fun b hb => (ho b hb).elim (h.okO b) (fun h1 => h.okN b h1)⟩
  · intro u x hx
    rw [get_upd] at hx
    by_cases hus : u = s
    · subst hus
      simp [hg0] at hx
      subst hx
      rw [upd_same]; exact hv
    · simp only [hus, if_false] at hx
      rw [upd_other hus]
      exact SR_keep (h.env u x hx) (fun b hb hl => by
        rcases hb with hb | hb
        · exact hh b hb hl
        · exact hblk b hl (fun hm => h.dEE u s hus b hb hm)) hg (fun _ hi => hi) hc
  · intro u hu
    rw [get_upd] at hu
    by_cases hus : u = s
    · subst hus; simp [hg0] at hu
    · simp only [hus, if_false] at hu; rw [upd_other hus]; exact h.envN u hu
  · intro id x hx
    refine (h.bx id x hx).mono (fun b hb hl => ?_) hg (fun _ hi => ⟨hi, rfl⟩)
    rcases hb with hb | hb
    · exact hh b hb hl
    · exact hblk b hl (fun hm => h.dEB s id b hm hb)
  · intro u
    by_cases hus : u = s
    · subst hus; simpa using hF
    · rw [upd_other hus]; exact h.nodE u
  · intro u u' huu b hb hb'
    have key : ∀ u, u ≠ s → b ∈ Fe u → b ∈ F → False := by
      intro u hus hb hbF
      rcases hFs b hbF with h1 | h1
      · exact h.dEE u s hus b hb h1
      · have := hlt b (.inl ⟨u, hb⟩); omega
    by_cases hus : u = s
    · subst hus
      simp at hb
      rw [upd_other (fun e => huu e.symm)] at hb'
      exact key u' (fun e => huu e.symm) hb' hb
    · rw [upd_other hus] at hb
      by_cases hus' : u' = s
      · subst hus'; simp at hb'; exact key u hus hb hb'
      · rw [upd_other hus'] at hb'; exact h.dEE u u' huu b hb hb'
  · intro u id b hb hb'
    by_cases hus : u = s
    · subst hus; simp at hb
      rcases hFs b hb with h1 | h1
      · exact h.dEB u id b h1 hb'
      · have := hlt b (.inr ⟨id, hb'⟩); omega
    · rw [upd_other hus] at hb; exact h.dEB u id b hb hb'
  · intro b hb hk
    rcases ho b hb with h1 | h1
    · exact h.new b h1 hk
    · have := (h.kept b hk).2; have := h.grown; omega
  · intro b hk
    have hkb := h.kept b hk
    exact ⟨(hblk b (Nat.lt_of_lt_of_le hkb.2 h.grown) (fun hm => h.new b (hso b hm) hk)).trans hkb.1, hkb.2⟩

/-- whose slice slot s is -/
def ownr (σ : Sg) (s s0 : Nat) : Prop := s = s0 ∨ σ.get s = some (.al s0)

theorem ownr_val (st : StW C σ a w ρ Fe Fb) {s s0 e z : Nat} {l : List D} (h : ownr σ s s0) (hs : σ.get s0 = some (.sl (some e) z l)) :
    ∃ v, a.tmps[s]? = some v ∧ a.tmps[s0]? = some v ∧ Rc w ρ (gd C Fe Fb) (fun id => (σ.box id).isSome) true (.sl (some e) z l) [v] (Fe s0) := by
  obtain ⟨v, hv, hr⟩ := (SR_plain rfl).1 (st.env _ _ hs)
  simp only [VR, D.isAgg, Bool.false_eq_true, if_false] at hr
  rcases h with rfl | h
  · exact ⟨v, hv, hv, hr⟩
  · obtain ⟨_, x, h1, h2⟩ := st.env _ _ h
    rw [hv] at h2
    cases h2
    exact ⟨v, h1, hv, hr⟩

/-- an element is written -/
theorem Rc.updE {G L : Nat → Prop} {z i off : Nat} {path : List Nat} {l : List D} {d1 d' x : D} {cs xs : List Value} {Fs : Nat → List Nat} {Fx : List Nat}
    (hr : ∀ j (h : j < l.length), Rc w ρ G L false l[j] ((cs.drop (j * z)).take z) (Fs j)) (hF : ((List.range l.length).flatMap Fs).Nodup) (hlen : l.length * z ≤ cs.length) (hi : i < l.length)
    (hl : l[i].loc path = some (off, d1)) (hu : l[i].upd path x = some d') (hz : x.sz = d1.sz) (hx : Rc w ρ G L false x xs Fx) (hFx : Fx.Nodup) (hdis : ∀ b ∈ Fx, b ∉ (List.range l.length).flatMap Fs)
    (harr : Fx = [] ∨ l[i].noArr path = true) :
    i * z + off + xs.length ≤ cs.length ∧ ∃ Fs' : Nat → List Nat, (∀ j (h : j < (l.set i d').length), Rc w ρ G L false (l.set i d')[j] (((cs.take (i * z + off) ++ xs ++ cs.drop (i * z + off + xs.length)).drop (j * z)).take z) (Fs' j)) ∧
      (∀ b ∈ (List.range l.length).flatMap Fs', b ∈ (List.range l.length).flatMap Fs ∨ b ∈ Fx) ∧ ((List.range l.length).flatMap Fs').Nodup := by
  obtain ⟨hn1, hn2⟩ := flat_nodup hF
  have him : ∀ b ∈ Fs i, b ∈ (List.range l.length).flatMap Fs := fun b hb => List.mem_flatMap.2 ⟨i, List.mem_range.2 hi, hb⟩
  obtain ⟨F', h1, h2, h3, h4, h5⟩ := (hr i hi).upd hl hu hz hx (hn1 i hi) hFx (fun b hb hb' => hdis b hb (him b hb')) harr
  obtain ⟨_, _, _, hl3⟩ := (hr i hi).loc hl
  have hxl := hx.len
  have hkz : i * z + z ≤ l.length * z := by
    have := Nat.mul_le_mul_right z (show i + 1 ≤ l.length by omega)
    rw [Nat.add_mul] at this; omega
  have hel : ((cs.drop (i * z)).take z).length = z := by simp; omega
  have hxo : off + xs.length ≤ z := by omega
  refine ⟨by omega, fun j => if j = i then F' else Fs j, fun j hj => ?_, fun b hb => ?_, ?_⟩
  · have hj' : j < l.length := by simpa using hj
    by_cases hji : j = i
    · subst hji
      simp only [List.getElem_set_self, if_true]
      rw [splice_in _ _ _ _ _ (by omega) (by omega)]
      exact h1
    · simp only [List.getElem_set_ne (fun e => hji e.symm), hji, if_false]
      rw [splice_out _ _ _ _ _ (by omega) ?_]
      · exact hr j hj'
      · rcases Nat.lt_or_gt_of_ne hji with hlt | hlt
        · left
          have : (j + 1) * z ≤ i * z := Nat.mul_le_mul_right z hlt
          rw [Nat.add_mul] at this; omega
        · right
          have : (i + 1) * z ≤ j * z := Nat.mul_le_mul_right z hlt
          rw [Nat.add_mul] at this; omega
  · obtain ⟨j, hj, hm⟩ := List.mem_flatMap.1 hb
    by_cases hji : j = i
    · subst hji; simp at hm; exact (h2 b hm).imp (him b) id
    · simp only [hji, if_false] at hm
      exact .inl (List.mem_flatMap.2 ⟨j, hj, hm⟩)
  · refine flat_nodup_mk (fun j hj => ?_) (fun j k hj hk hjk b hb hb' => ?_)
    · by_cases hji : j = i
      · simp [hji, h3]
      · simp only [hji, if_false]; exact hn1 j hj
    · have key : ∀ m, m < l.length → m ≠ i → b ∈ Fs m → b ∈ F' → False := fun m hm hmi h6 h7 => by
        rcases h2 b h7 with h8 | h8
        · exact hn2 m i hm hi hmi b h6 h8
        · exact hdis b h8 (List.mem_flatMap.2 ⟨m, List.mem_range.2 hm, h6⟩)
      by_cases hji : j = i
      · subst hji
        simp only [if_true] at hb
        simp only [show ¬ k = j from fun e => hjk e.symm, if_false] at hb'
        exact key k hk (fun e => hjk e.symm) hb' hb
      · simp only [hji, if_false] at hb
        by_cases hki : k = i
        · simp only [hki, if_true] at hb'; exact key j hj hji hb hb'
        · simp only [hki, if_false] at hb'; exact hn2 j k hj hk hjk b hb hb'

/-- a store into an element of a slice of its own -/
theorem R.stE {p s s0 e z i off : Nat} {path : List Nat} {x : Operand} {l : List D} {d0 d1 d' dx : D} {ty n rt : TypeId} {gg : Bool} {pos : String} {aft : Array Edge} {g : Option (Nat × Bool)} [LdT P ty n gg]
    (h : σ.get p = some (.ep s z i off path)) (ho : ownr σ s s0) (hs : σ.get s0 = some (.sl (some e) z l)) (hi : l[i]? = some d0) (hl : d0.loc path = some (off, d1))
    (hx : ev C.gl σ x = some dx) (hxp : dx.pur = true) (hxn : dx.np = true) (hz : dx.sz = n) (hz1 : dx.sz = d1.sz) (hu : d0.upd path dx = some d') :
    OpS P C ⟨none, .store ty (.tmp p) x, rt, pos, aft, g⟩ σ (σ.upd s0 (.sl (some e) z (l.set i d'))) := by
  refine OpS.skip rfl fun a w ⟨ρ, Fe, Fb, st⟩ => ?_
  obtain ⟨v, hv, hv0, hr⟩ := ownr_val st ho hs
  obtain ⟨_, b, o, len, cap, h1, h2, h3⟩ := st.env _ _ h
  rw [hv] at h1
  cases h1
  obtain ⟨hilt, rfl⟩ := List.getElem?_eq_some_iff.1 hi
  generalize hFe : Fe s0 = F0 at hr
  have hnd := st.nodE s0
  rw [hFe] at hnd
  cases hr with
  | slE => exact absurd hilt (Nat.not_lt_zero _)
  | slO b cs e cap z l Fs hb hc hm hsz hr =>
  obtain ⟨hn1, hn2⟩ := List.nodup_cons.1 hnd
  obtain ⟨Fx, hvx, _⟩ := ev_ok st hx (pur_ref hxp)
  have hFx := hvx.pur hxp
  subst hFx
  have hdead : dx ≠ .dead := by rintro rfl; simp [D.pur] at hxp
  have hxc := hvx.cells hdead
  have hcl : l.length * z ≤ cs.toList.length := by
    have := Nat.mul_le_mul_right z hc
    simp; omega
  obtain ⟨hb1, Fs', g1, g2, g3⟩ := Rc.updE hr hn2 hcl hilt hl hu hz1 (hxc.unflag hxn) List.nodup_nil (by simp) (.inl rfl)
  have hlen := hxc.len
  have hvs : (a.eval x).cells.size = n := by simp at hlen; omega
  have hbl : b < w.heap.size := (Array.getElem?_eq_some_iff.1 hb).1
  simp only [Nat.zero_add] at h2
  have hin : ∀ y ∈ (List.range l.length).flatMap Fs', y ∈ (List.range l.length).flatMap Fs := fun y hy => (g2 y hy).resolve_right (by simp)
  refine ⟨w.setRow b (cs.toList.take (i * z + off) ++ (a.eval x).cells.toList ++ cs.toList.drop (i * z + off + (a.eval x).cells.toList.length)).toArray, ?_, ρ, _, Fb,
    st.turn (F := b :: (List.range l.length).flatMap Fs') hs rfl rfl rfl (by simp) (fun b' _ hb' => setRow_other w b b' _ (fun e => hb' (by rw [hFe, e]; simp))) ?_ ?_ ?_⟩
  · unfold execOp
    have hbnd : i * z + off + n ≤ cs.size := by simp at hb1; omega
    simp only [Instr.storeAt, Instr.sureAddr, eval_tmp h2, Sem.run_bind, Sem.run_pure, Result.andThen_ok, run_storeVar (P := P) (ty := ty) hb hvs hbnd hxc.one]
  · exact List.nodup_cons.2 ⟨fun hm' => hn1 (hin b hm'), g3⟩
  · intro y hy
    left
    rw [hFe]
    rcases List.mem_cons.1 hy with rfl | hy
    · simp
    · exact List.mem_cons_of_mem _ (hin y hy)
  · refine (SR_plain rfl).2 ⟨_, hv0, ?_⟩
    simp only [VR, D.isAgg, Bool.false_eq_true, if_false]
    have := Rc.slO (w := w.setRow b (cs.toList.take (i * z + off) ++ (a.eval x).cells.toList ++ cs.toList.drop (i * z + off + (a.eval x).cells.toList.length)).toArray) (ρ := ρ)
      (G := gd C (Go.Sx.upd Fe s0 (b :: (List.range l.length).flatMap Fs')) Fb) (L := fun id => (σ.box id).isSome) (p := true) b _ e cap z (l.set i d') Fs' (setRow_heap w b cs _ e (0, 0) hb) (by simpa using hc) hm
      (by
        simp only [List.size_toArray]
        rw [splice_len _ _ _ (by omega)]; simp [hsz]) (fun j hj => by
        have hj' : j < l.length := by simpa using hj
        refine (g1 j hj).mono (fun y hy hyl => setRow_other w b y _ ?_) (fun y hy _ => ⟨hy.1, fun ho' => hy.2 ?_⟩) (fun id hid => ⟨hid, rfl⟩)
        · rintro rfl
          rcases hy with hy | hy
          · exact hy.2 (.inl ⟨s0, by rw [hFe]; simp⟩)
          · exact hn1 (hin _ (List.mem_flatMap.2 ⟨j, List.mem_range.2 hj', hy⟩))
        · rcases ho' with ⟨u, hu'⟩ | hid
          · by_cases hus : u = s0
            · subst hus
              rw [upd_same] at hu'
              refine .inl ⟨u, ?_⟩
              rw [hFe]
              rcases List.mem_cons.1 hu' with rfl | hu'
              · simp
              · exact List.mem_cons_of_mem _ (hin y hu')
            · rw [upd_other hus] at hu'; exact .inl ⟨u, hu'⟩
          · exact .inr hid)
    simpa using this
end Go.Sx
