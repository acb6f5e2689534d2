/-
  Own library, part 8: ownership goes from one place to another; more reckoning.
-/
import Derived.Test.YtlpacmknoknpoaaDoorSxRead
set_option linter.unusedVariables false
set_option linter.unusedSimpArgs false
set_option linter.unnecessarySimpa false
namespace Go.Sx

variable {P : Program} {C : Ctx} {σ σ' : Sg} {a : Act} {w w' : World} {ρ : Nat → Nat} {Fe Fb : Nat → List Nat}

/-- slot s is struck (its value stays) -/
def Sg.kill (σ : Sg) (s : Nat) : Sg := { σ with env := (s, .dead) :: σ.env }
theorem get_kill (σ : Sg) (s u : Nat) : (σ.kill s).get u = if u = s then some .dead else σ.get u := by
  simp only [Sg.get, Sg.kill, lk_cons]
  by_cases h : u = s
  · simp [h]
  · simp [h, show ¬ s = u from fun e => h e.symm]
@[simp] theorem box_kill (σ : Sg) (s id : Nat) : (σ.kill s).box id = σ.box id := rfl
@[simp] theorem n_kill (σ : Sg) (s : Nat) : (σ.kill s).n = σ.n := rfl

theorem SR.there {G L : Nat → Prop} {t : Nat} {d : D} {F : List Nat} (h : SR w ρ G L a t d F) : ∃ v, a.tmps[t]? = some v := by
  cases d with
  | al s => obtain ⟨_, x, h1, _⟩ := h; exact ⟨x, h1⟩
  | alb id off path => obtain ⟨_, _, x, h1, h2⟩ := h; exact ⟨x, h1⟩
  | vw s z lo n => obtain ⟨_, v0, v1, h1, h2, _⟩ := h; exact ⟨_, h2⟩
  | va id off z n path lo => obtain ⟨_, _, cap, _, _, _, h1⟩ := h; exact ⟨_, h1⟩
  | ep s z i off path => obtain ⟨_, b, o, len, cap, h1, h2, _⟩ := h; exact ⟨_, h2⟩
  | tup ds => obtain ⟨vs, Fs, h1, _⟩ := h; exact ⟨_, h1⟩
  | dead => exact h.2
  | _ => obtain ⟨x, hx, hr⟩ := h; exact ⟨x, hx⟩

/-- Slot t is written; what slot s owned goes over to it (or is dropped, or grows by new blocks): F. The blocks that slot s owned may have turned. -/
theorem StW.take {s t : Nat} {d d0 : D} {v : Value} {F : List Nat} (h : StW C σ a w ρ Fe Fb) (ht : t < σ.n) (hst : s ≠ t) (hg0 : σ.get s = some d0)
    (hos : w'.os = w.os) (htape : w'.tape = w.tape) (hout : w'.output = w.output) (hsize : w.heap.size ≤ w'.heap.size)
    (hblk : ∀ b, b < w.heap.size → b ∉ Fe s → w'.heap[b]? = w.heap[b]?)
    (hF : F.Nodup) (hFs : ∀ b ∈ F, b ∈ Fe s ∨ w.heap.size ≤ b)
    (hv : SR w' ρ (gd C (upd (upd Fe s []) t F) Fb) (fun id => (σ.box id).isSome) (a.put (some t) v) t d F) :
    StW C ((σ.kill s).set t d) (a.put (some t) v) w' ρ (upd (upd Fe s []) t F) Fb := by
  have hsz : t < a.tmps.size := by rw [h.size]; exact ht
  have hlt := h.lt
  have hso : ∀ b, b ∈ Fe s → own Fe Fb b := fun b hb => .inl ⟨s, hb⟩
  have ho : ∀ b, own (upd (upd Fe s []) t F) Fb b → own Fe Fb b ∨ w.heap.size ≤ b := by
    rintro b (⟨u, hu⟩ | hid)
    · by_cases hut : u = t
      · subst hut; simp at hu; exact (hFs b hu).imp (hso b) id
      · rw [upd_other hut] at hu
        by_cases hus : u = s
        · subst hus; simp at hu
        · rw [upd_other hus] at hu; exact .inl (.inl ⟨u, hu⟩)
    · exact .inl (.inr hid)
  have hg : ∀ b, gd C Fe Fb b → b < w.heap.size → gd C (upd (upd Fe s []) t F) Fb b := fun b hb hl => ⟨hb.1, fun hc => by
    rcases ho b hc with h1 | h1
    · exact hb.2 h1
    · omega⟩
  have hh : ∀ b, gd C Fe Fb b → b < w.heap.size → w'.heap[b]? = w.heap[b]? := fun b hb hl => hblk b hl (fun hm => hb.2 (hso b hm))
  have hL : ∀ id, (fun id => (σ.box id).isSome = true) id → (fun id => (((σ.kill s).set t d).box id).isSome = true) id ∧ ρ id = ρ id := fun id hid => ⟨hid, rfl⟩
  have hne : ∀ u, u ≠ t → u ≠ s → upd (upd Fe s []) t F u = Fe u := fun u h1 h2 => by rw [upd_other h1, upd_other h2]
  have hc : ∀ id off v, (σ.box id).isSome = true → w.cell? ⟨ρ id, off, none⟩ = some v → w'.cell? ⟨ρ id, off, none⟩ = some v := by
    intro id off v hid hc
    have hl := block_lt_of_cell hc
    rw [← hc]
    refine World.cell?_of_block (hblk _ hl ?_)
    intro hm
    cases hb : σ.box id with
    | none => simp [hb] at hid
    | some x => exact h.dEB s id _ hm (h.bx id x hb).mem
  refine ⟨?_, h.defs, h.pin, ?_, ?_, ?_, h.bxN, ?_, h.nodB, ?_, ?_, h.dBB, ?_, ?_, hos.trans h.os, htape.trans h.tape, hout.trans h.output, Nat.le_trans h.grown hsize, h.gl, fun b hb => h.okN b (Nat.le_trans hsize hb), fun b hb => (ho b hb).elim (h.okO b) (fun h1 => h.okN b h1)⟩
  · simp [Act.put, h.size]
  · intro u x hx
    rw [get_set] at hx
    by_cases hut : u = t
    · subst hut; simp at hx; subst hx; simp only [upd_same]; exact hv
    · simp only [hut, if_false] at hx
      obtain ⟨d1, hd1, rfl⟩ := Option.map_eq_some_iff.1 hx
      rw [get_kill] at hd1
      by_cases hus : u = s
      · subst hus
        simp at hd1; subst hd1
        rw [upd_other hut, upd_same]
        have hv0 : ∃ v0, a.tmps[u]? = some v0 := (h.env u d0 hg0).there
        obtain ⟨v0, hv0⟩ := hv0
        exact ⟨rfl, v0, by rw [put_get a t v u hsz]; simp [hut, hv0]⟩
      · simp only [hus, if_false] at hd1
        rw [hne u hut hus]
        exact SR_other hut hsz (h.env u d1 hd1) (fun b hb hl => by
          rcases hb with hb | hb
          · exact hh b hb hl
          · exact hblk b hl (fun hm => h.dEE u s hus b hb hm)) hg hL hc
  · intro u hu
    rw [get_set] at hu
    by_cases hut : u = t
    · simp [hut] at hu
    · simp only [hut, if_false, Option.map_eq_none_iff] at hu
      rw [get_kill] at hu
      by_cases hus : u = s
      · simp [hus] at hu
      · simp only [hus, if_false] at hu
        rw [hne u hut hus]; exact h.envN u hu
  · intro id x hx
    refine (h.bx id x hx).mono (fun b hb hl => ?_) hg hL
    rcases hb with hb | hb
    · exact hh b hb hl
    · exact hblk b hl (fun hm => h.dEB s id b hm hb)
  · intro u
    by_cases hut : u = t
    · subst hut; simpa using hF
    · rw [upd_other hut]
      by_cases hus : u = s
      · subst hus; simp
      · rw [upd_other hus]; exact h.nodE u
  · intro u u' huu b hb hb'
    have key : ∀ u, u ≠ t → b ∈ upd (upd Fe s []) t F u → b ∈ F → False := by
      intro u hut hb hbF
      rw [upd_other hut] at hb
      by_cases hus : u = s
      · subst hus; simp at hb
      · rw [upd_other hus] at hb
        rcases hFs b hbF with h1 | h1
        · exact h.dEE u s hus b hb h1
        · have := hlt b (.inl ⟨u, hb⟩); omega
    by_cases hut : u = t
    · subst hut
      simp at hb
      exact key u' (fun e => huu e.symm) hb' hb
    · by_cases hut' : u' = t
      · subst hut'; simp at hb'; exact key u hut hb hb'
      · rw [upd_other hut] at hb
        rw [upd_other hut'] at hb'
        by_cases hus : u = s
        · subst hus; simp at hb
        · by_cases hus' : u' = s
          · subst hus'; simp at hb'
          · rw [upd_other hus] at hb; rw [upd_other hus'] at hb'; exact h.dEE u u' huu b hb hb'
  · intro u id b hb hb'
    by_cases hut : u = t
    · subst hut; simp at hb
      rcases hFs b hb with h1 | h1
      · exact h.dEB s id b h1 hb'
      · have := hlt b (.inr ⟨id, hb'⟩); omega
    · rw [upd_other hut] at hb
      by_cases hus : u = s
      · subst hus; simp at hb
      · rw [upd_other hus] at hb; exact h.dEB u id b hb hb'
  · intro b hb hk
    rcases ho b hb with h1 | h1
    · exact h.new b h1 hk
    · have := (h.kept b hk).2; have := h.grown; omega
  · intro b hk
    have hkb := h.kept b hk
    exact ⟨(hblk b (Nat.lt_of_lt_of_le hkb.2 h.grown) (fun hm => h.new b (hso b hm) hk)).trans hkb.1, hkb.2⟩

/-- a name for a slice of its own -/
theorem R.al {s t z : Nat} {e : Nat} {l : List D} {ty : TypeId} {pos : String} {aft : Array Edge} {g : Option (Nat × Bool)}
    (hx : σ.get s = some (.sl (some e) z l)) (ht : t < σ.n) (hst : s ≠ t) : OpS P C ⟨some t, .move (.tmp s), ty, pos, aft, g⟩ σ (σ.set t (.al s)) := by
  refine OpS.value fun a w ⟨ρ, Fe, Fb, st⟩ => ?_
  obtain ⟨v, hv, hr⟩ := (SR_plain rfl).1 (st.env _ _ hx)
  have hsz := st.size
  refine ⟨v, w, ?_, st.putRef ht ⟨rfl, v, by rw [put_get a t _ t (by omega)]; simp, by rw [put_get a t _ s (by omega)]; simp [hst, hv]⟩⟩
  unfold execOp
  simp [eval_tmp hv]

/-- what owns goes over, whole -/
theorem R.asgO {s t : Nat} {d : D} {ty : TypeId} {pos : String} {aft : Array Edge} {g : Option (Nat × Bool)}
    (hx : σ.get s = some d) (hd : d.isRef = false) (ht : t < σ.n) (hst : s ≠ t) : OpS P C ⟨some t, .assign (.tmp s), ty, pos, aft, g⟩ σ ((σ.kill s).set t d) := by
  refine OpS.value fun a w ⟨ρ, Fe, Fb, st⟩ => ?_
  obtain ⟨v, hv, hr⟩ := (SR_plain hd).1 (st.env _ _ hx)
  have hsz := st.size
  refine ⟨v, w, ?_, ρ, _, Fb, st.take (F := Fe s) ht hst hx rfl rfl rfl (Nat.le_refl _) (fun _ _ _ => rfl) (st.nodE s) (fun b hb => .inl hb) ((SR_plain hd).2 ⟨v, by rw [put_get a t _ t (by omega)]; simp, ?_⟩)⟩
  · unfold execOp
    simp [eval_tmp hv]
  · refine hr.mono (fun _ _ _ => rfl) (fun b hb _ => ⟨hb.1, fun hc => hb.2 ?_⟩) (fun id hid => ⟨hid, rfl⟩)
    rcases hc with ⟨u, hu⟩ | hid
    · by_cases hut : u = t
      · subst hut; simp at hu; exact .inl ⟨s, hu⟩
      · rw [upd_other hut] at hu
        by_cases hus : u = s
        · subst hus; simp at hu
        · rw [upd_other hus] at hu; exact .inl ⟨u, hu⟩
    · exact .inr hid
theorem R.movO {s t : Nat} {d : D} {ty : TypeId} {pos : String} {aft : Array Edge} {g : Option (Nat × Bool)}
    (hx : σ.get s = some d) (hd : d.isRef = false) (ht : t < σ.n) (hst : s ≠ t) : OpS P C ⟨some t, .move (.tmp s), ty, pos, aft, g⟩ σ ((σ.kill s).set t d) :=
  OpS.mov_of_asg (R.asgO (P := P) (ty := ty) (pos := pos) (aft := aft) (g := g) hx hd ht hst)

/-! ### other reckoning -/
def unD (op : UnOp) (x : D) : Option D :=
  match op, x with
  | .not, .bool b => some (.bool !b)
  | .xor, .u8 a => some (.u8 (~~~a))
  | .xor, .u16 a => some (.u16 (~~~a))
  | .xor, .u32 a => some (.u32 (~~~a))
  | .xor, .u64 a => some (.u64 (~~~a))
  | .neg, .int a => some (.int (wr (0 - a)))
  | _, _ => none

theorem xmax_u8 (x : UInt8) : (255 : UInt8) ^^^ x = ~~~x := by
  apply UInt8.toBitVec_inj.1
  show BitVec.ofNat 8 255 ^^^ x.toBitVec = ~~~x.toBitVec
  rw [show BitVec.ofNat 8 255 = BitVec.allOnes 8 from by decide]
  exact BitVec.allOnes_xor
theorem xmax_u16 (x : UInt16) : (65535 : UInt16) ^^^ x = ~~~x := by
  apply UInt16.toBitVec_inj.1
  show BitVec.ofNat 16 65535 ^^^ x.toBitVec = ~~~x.toBitVec
  rw [show BitVec.ofNat 16 65535 = BitVec.allOnes 16 from by decide]
  exact BitVec.allOnes_xor
theorem xmax_u32 (x : UInt32) : (4294967295 : UInt32) ^^^ x = ~~~x := by
  apply UInt32.toBitVec_inj.1
  show BitVec.ofNat 32 4294967295 ^^^ x.toBitVec = ~~~x.toBitVec
  rw [show BitVec.ofNat 32 4294967295 = BitVec.allOnes 32 from by decide]
  exact BitVec.allOnes_xor
theorem xmax_u64 (x : UInt64) : (18446744073709551615 : UInt64) ^^^ x = ~~~x := by
  apply UInt64.toBitVec_inj.1
  show BitVec.ofNat 64 18446744073709551615 ^^^ x.toBitVec = ~~~x.toBitVec
  rw [show BitVec.ofNat 64 18446744073709551615 = BitVec.allOnes 64 from by decide]
  exact BitVec.allOnes_xor

theorem unD_run {op : UnOp} {x d : D} {v : Value} {G L : Nat → Prop} {F : List Nat} (h : unD op x = some d) (hx : Rc w ρ G L true x [v] F) :
    (∃ u, (Op.unary op v).run P w = .ok u w ∧ (∀ ρ G L, Rc w ρ G L true d [u] [])) ∧ d.isAgg = false ∧ d.isRef = false ∧ x.isAgg = false ∧ x.isRef = false := by
  unfold unD at h
  split at h
  case h_7 => cases h
  all_goals
    cases h
    cases hx
    refine ⟨?_, rfl, rfl, rfl, rfl⟩
  · exact ⟨_, rfl, fun _ _ _ => .bool _⟩
  · rename_i x
    refine ⟨.int .u8 (~~~x).toNat, ?_, fun _ _ _ => .u8 _⟩
    have hr := run_u8 P w .xor 0 (255 : UInt8) x rfl trivial
    rw [val_u8, xmax_u8] at hr
    exact hr
  · rename_i x
    refine ⟨.int .u16 (~~~x).toNat, ?_, fun _ _ _ => .u16 _⟩
    have hr := run_u16 P w .xor 0 (65535 : UInt16) x rfl trivial
    rw [val_u16, xmax_u16] at hr
    exact hr
  · rename_i x
    refine ⟨.int .u32 (~~~x).toNat, ?_, fun _ _ _ => .u32 _⟩
    have hr := run_u32 P w .xor 0 (4294967295 : UInt32) x rfl trivial
    rw [val_u32, xmax_u32] at hr
    exact hr
  · rename_i x
    refine ⟨.int .u64 (~~~x).toNat, ?_, fun _ _ _ => .u64 _⟩
    have hr := run_u64 P w .xor 0 (18446744073709551615 : UInt64) x rfl trivial
    rw [val_u64, xmax_u64] at hr
    exact hr
  · exact ⟨_, rfl, fun _ _ _ => .int _⟩

theorem R.un {op : UnOp} {xt ty : TypeId} {x : Operand} {t : Nat} {pos : String} {aft : Array Edge} {g : Option (Nat × Bool)} {dx d : D}
    (hx : ev C.gl σ x = some dx) (ha : unD op dx = some d) (ht : t < σ.n) : OpS P C ⟨some t, .unOp op xt x, ty, pos, aft, g⟩ σ (σ.set t d) := by
  refine OpS.value fun a w ⟨ρ, Fe, Fb, st⟩ => ?_
  have hdx : dx.isAgg = false ∧ dx.isRef = false := by
    unfold unD at ha
    split at ha
    case h_7 => cases ha
    all_goals exact ⟨rfl, rfl⟩
  obtain ⟨Fx, vx, _⟩ := ev_ok st hx hdx.2
  simp only [VR, hdx.1, Bool.false_eq_true, if_false] at vx
  obtain ⟨⟨v, hv, hrc⟩, h1, h2, _⟩ := unD_run (P := P) ha vx
  refine ⟨v, w, ?_, st.put ht h2 ?_⟩
  · unfold execOp
    simp only [Sem.run_bind, hv, Result.andThen_ok, Sem.run_pure]
  · simp only [VR, h1, Bool.false_eq_true, if_false]; exact hrc _ _ _

/-- a conversion between kinds of integers -/
def convD (k : IntKind) (x : D) : Option D :=
  match k, x with
  | .i64, .int a => some (.int (wr a))
  | .i64, .u8 a => some (.int a.toNat)
  | .i64, .u16 a => some (.int a.toNat)
  | .i64, .u32 a => some (.int a.toNat)
  | .i64, .u64 a => some (.int (wr a.toNat))
  | .i64, .ik _ n => some (.int (wr n))
  | .u8, .int a => some (.u8 (UInt8.ofInt a))
  | .u8, .u8 a => some (.u8 a)
  | .u8, .u16 a => some (.u8 a.toUInt8)
  | .u8, .u32 a => some (.u8 a.toUInt8)
  | .u8, .u64 a => some (.u8 a.toUInt8)
  | .u16, .int a => some (.u16 (UInt16.ofInt a))
  | .u16, .u8 a => some (.u16 a.toUInt16)
  | .u16, .u16 a => some (.u16 a)
  | .u32, .int a => some (.u32 (UInt32.ofInt a))
  | .u32, .u8 a => some (.u32 a.toUInt32)
  | .u32, .u16 a => some (.u32 a.toUInt32)
  | .u32, .u32 a => some (.u32 a)
  | .u32, .u64 a => some (.u32 a.toUInt32)
  | .u64, .int a => some (.u64 (UInt64.ofInt a))
  | .u64, .u8 a => some (.u64 a.toUInt64)
  | .u64, .u16 a => some (.u64 a.toUInt64)
  | .u64, .u32 a => some (.u64 a.toUInt64)
  | .u64, .u64 a => some (.u64 a)
  | _, _ => none

theorem ofInt_u8 (a : Int) : ((UInt8.ofInt a).toNat : Int) = a % 256 := by
  have : (UInt8.ofInt a).toNat = (a % 256).toNat := by simp [UInt8.ofInt]; omega
  rw [this]; omega
theorem ofInt_u16 (a : Int) : ((UInt16.ofInt a).toNat : Int) = a % 65536 := by
  have : (UInt16.ofInt a).toNat = (a % 65536).toNat := by simp [UInt16.ofInt]; omega
  rw [this]; omega
theorem ofInt_u32 (a : Int) : ((UInt32.ofInt a).toNat : Int) = a % 4294967296 := by
  have : (UInt32.ofInt a).toNat = (a % 4294967296).toNat := by simp [UInt32.ofInt]; omega
  rw [this]; omega
theorem ofInt_u64 (a : Int) : ((UInt64.ofInt a).toNat : Int) = a % 18446744073709551616 := by
  have : (UInt64.ofInt a).toNat = (a % 18446744073709551616).toNat := by simp [UInt64.ofInt]; omega
  rw [this]; omega

theorem convD_ok {k : IntKind} {x d : D} {v : Value} {G L : Nat → Prop} {F : List Nat} (h : convD k x = some d) (hx : Rc w ρ G L true x [v] F) :
    (∃ j n, v = .int j n ∧ ∀ ρ G L, Rc w ρ G L true d [.int k (k.wrap n)] []) ∧ d.isAgg = false ∧ d.isRef = false ∧ x.isAgg = false ∧ x.isRef = false := by
  unfold convD at h
  split at h
  case h_25 => cases h
  all_goals
    cases h
    cases hx
    refine ⟨⟨_, _, rfl, fun ρ G L => ?_⟩, rfl, rfl, rfl, rfl⟩
  · exact .int _
  · rename_i a; have := a.toNat_lt; rw [show IntKind.i64.wrap (a.toNat : Int) = a.toNat from IntWalk.i64_in _ (by omega)]; exact .int _
  · rename_i a; have := a.toNat_lt; rw [show IntKind.i64.wrap (a.toNat : Int) = a.toNat from IntWalk.i64_in _ (by omega)]; exact .int _
  · rename_i a; have := a.toNat_lt; rw [show IntKind.i64.wrap (a.toNat : Int) = a.toNat from IntWalk.i64_in _ (by omega)]; exact .int _
  · exact .int _
  · exact .int _
  · rw [wrap_u8, ← ofInt_u8]; exact .u8 _
  · rename_i a; have := a.toNat_lt; rw [wrap_u8, Int.emod_eq_of_lt (by omega) (by omega)]; exact .u8 _
  · rename_i a; rw [wrap_u8, show ((a.toNat : Int) % 256) = (a.toUInt8.toNat : Int) from by simp]; exact .u8 _
  · rename_i a; rw [wrap_u8, show ((a.toNat : Int) % 256) = (a.toUInt8.toNat : Int) from by simp]; exact .u8 _
  · rename_i a; rw [wrap_u8, show ((a.toNat : Int) % 256) = (a.toUInt8.toNat : Int) from by simp]; exact .u8 _
  · rw [wrap_u16, ← ofInt_u16]; exact .u16 _
  · rename_i a; have := a.toNat_lt; rw [wrap_u16, Int.emod_eq_of_lt (by omega) (by omega), show ((a.toNat : Int)) = (a.toUInt16.toNat : Int) from by simp]; exact .u16 _
  · rename_i a; have := a.toNat_lt; rw [wrap_u16, Int.emod_eq_of_lt (by omega) (by omega)]; exact .u16 _
  · rw [wrap_u32, ← ofInt_u32]; exact .u32 _
  · rename_i a; have := a.toNat_lt; rw [wrap_u32, Int.emod_eq_of_lt (by omega) (by omega), show ((a.toNat : Int)) = (a.toUInt32.toNat : Int) from by simp]; exact .u32 _
  · rename_i a; have := a.toNat_lt; rw [wrap_u32, Int.emod_eq_of_lt (by omega) (by omega), show ((a.toNat : Int)) = (a.toUInt32.toNat : Int) from by simp]; exact .u32 _
  · rename_i a; have := a.toNat_lt; rw [wrap_u32, Int.emod_eq_of_lt (by omega) (by omega)]; exact .u32 _
  · rename_i a; rw [wrap_u32, show ((a.toNat : Int) % 4294967296) = (a.toUInt32.toNat : Int) from by simp]; exact .u32 _
  · rw [wrap_u64, ← ofInt_u64]; exact .u64 _
  · rename_i a; have := a.toNat_lt; rw [wrap_u64, Int.emod_eq_of_lt (by omega) (by omega), show ((a.toNat : Int)) = (a.toUInt64.toNat : Int) from by simp]; exact .u64 _
  · rename_i a; have := a.toNat_lt; rw [wrap_u64, Int.emod_eq_of_lt (by omega) (by omega), show ((a.toNat : Int)) = (a.toUInt64.toNat : Int) from by simp]; exact .u64 _
  · rename_i a; have := a.toNat_lt; rw [wrap_u64, Int.emod_eq_of_lt (by omega) (by omega), show ((a.toNat : Int)) = (a.toUInt64.toNat : Int) from by simp]; exact .u64 _
  · rename_i a; have := a.toNat_lt; rw [wrap_u64, Int.emod_eq_of_lt (by omega) (by omega)]; exact .u64 _

class IkT (P : Program) (t : TypeId) (k : outParam IntKind) : Prop where
  u : P.underlying t = some (.int k)
theorem R.conv {src dst ty : TypeId} {k k0 : IntKind} {x : Operand} {t : Nat} {pos : String} {aft : Array Edge} {g : Option (Nat × Bool)} {dx d : D} [h0 : IkT P src k0] [hT : IkT P dst k]
    (hx : ev C.gl σ x = some dx) (ha : convD k dx = some d) (ht : t < σ.n) : OpS P C ⟨some t, .convert src dst x, ty, pos, aft, g⟩ σ (σ.set t d) := by
  refine OpS.value fun a w ⟨ρ, Fe, Fb, st⟩ => ?_
  have hdx : dx.isAgg = false ∧ dx.isRef = false := by
    unfold convD at ha
    split at ha
    case h_25 => cases ha
    all_goals exact ⟨rfl, rfl⟩
  obtain ⟨Fx, vx, _⟩ := ev_ok st hx hdx.2
  simp only [VR, hdx.1, Bool.false_eq_true, if_false] at vx
  obtain ⟨⟨j, n, hv, hrc⟩, h1, h2, _⟩ := convD_ok ha vx
  refine ⟨.int k (k.wrap n), w, ?_, st.put ht h2 ?_⟩
  · unfold execOp
    simp [convert, run_underlying h0.u, run_underlying hT.u, hv, Conv.intToInt]
  · simp only [VR, h1, Bool.false_eq_true, if_false]; exact hrc _ _ _
end Go.Sx
