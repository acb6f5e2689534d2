/-
  Own library, part 11: new boxes, values by literal.
-/
import Derived.Test.YtlpacmknoknpoaaDoorSxStore
set_option linter.unusedVariables false
set_option linter.unusedSimpArgs false
set_option linter.unnecessarySimpa false
namespace Go.Sx

variable {P : Program} {C : Ctx} {σ σ' σ1 : Sg} {a : Act} {w w' : World} {ρ : Nat → Nat} {Fe Fe' Fb : Nat → List Nat}

def updR (ρ : Nat → Nat) (id b : Nat) : Nat → Nat := fun i => if i = id then b else ρ i
@[simp] theorem updR_same (ρ : Nat → Nat) (id b : Nat) : updR ρ id b id = b := by simp [updR]
theorem updR_other {ρ : Nat → Nat} {id b i : Nat} (h : i ≠ id) : updR ρ id b i = ρ i := by simp [updR, h]

theorem StW.newB {id : Nat} {x : Bx} {o : Obj} (h : StW C σ a w ρ Fe Fb) (hid : σ.box id = none)
    (hx : BR (w.alloc o) (updR ρ id w.heap.size) (gd C Fe (upd Fb id [w.heap.size])) (fun i => ((σ.newB id x).box i).isSome) w.heap.size x [w.heap.size]) :
    StW C (σ.newB id x) a (w.alloc o) (updR ρ id w.heap.size) Fe (upd Fb id [w.heap.size]) := by
  have hlt := h.lt
  have hext := Ext.alloc w o
  have hg : ∀ b, gd C Fe Fb b → b < w.heap.size → gd C Fe (upd Fb id [w.heap.size]) b := by
    rintro b ⟨hok, hb⟩ hl
    refine ⟨hok, ?_⟩
    rintro (⟨u, hu⟩ | ⟨i, hi⟩)
    · exact hb (.inl ⟨u, hu⟩)
    · by_cases hii : i = id
      · subst hii; simp at hi; omega
      · rw [upd_other hii] at hi; exact hb (.inr ⟨i, hi⟩)
  have hL : ∀ i, (σ.box i).isSome = true → ((σ.newB id x).box i).isSome = true ∧ updR ρ id w.heap.size i = ρ i := by
    intro i hi
    have hii : i ≠ id := by rintro rfl; simp [hid] at hi
    exact ⟨by rw [box_newB]; simp [show ¬ id = i from fun e => hii e.symm, hi], updR_other hii⟩
  have hh : ∀ b, b < w.heap.size → (w.alloc o).heap[b]? = w.heap[b]? := hext.block
  have hFid := h.bxN id hid
  refine ⟨h.size, h.defs, fun i b hp => ⟨(hL i (h.pin i b hp).2).2.trans (h.pin i b hp).1, (hL i (h.pin i b hp).2).1⟩, ?_, h.envN, ?_, ?_, h.nodE, ?_, h.dEE, ?_, ?_, ?_, ?_, h.os, h.tape, h.output, Nat.le_trans h.grown hext.size, h.gl, fun b hb => h.okN b (Nat.le_trans hext.size hb), ?_⟩
  · intro u d hd
    have hs := h.env u d hd
    cases d with
    | al s => exact hs
    | alb i off path => exact ⟨hs.1, (hL i hs.2.1).1, by obtain ⟨v, h1, h2⟩ := hs.2.2; exact ⟨v, h1, by rw [(hL i hs.2.1).2]; exact hext.cell h2⟩⟩
    | vw s z lo n => exact hs
    | va i off z n path lo => exact ⟨hs.1, (hL i hs.2.1).1, by rw [(hL i hs.2.1).2]; exact hs.2.2⟩
    | ep s z i off path => exact hs
    | tup ds =>
      obtain ⟨vs, Fs, h1, h2, h3, h4⟩ := hs
      exact ⟨vs, Fs, h1, h2, h3, fun k hk => (h4 k hk).imp (fun hx => hx) fun hx => ⟨hx.1, hx.2.mono (fun b _ hl => hh b hl) hg hL⟩⟩
    | dead => exact hs
    | _ => obtain ⟨v, hv, hr⟩ := hs; exact ⟨v, hv, hr.mono (fun b _ hl => hh b hl) hg hL⟩
  · intro i z hz
    rw [box_newB] at hz
    by_cases hii : id = i
    · subst hii; simp at hz; subst hz; rw [upd_same, updR_same]; exact hx
    · simp only [hii, if_false] at hz
      rw [upd_other (fun e => hii e.symm), updR_other (fun e => hii e.symm)]
      exact (h.bx i z hz).mono (fun b _ hl => hh b hl) hg hL
  · intro i hi
    rw [box_newB] at hi
    by_cases hii : id = i
    · simp [hii] at hi
    · simp only [hii, if_false] at hi; rw [upd_other (fun e => hii e.symm)]; exact h.bxN i hi
  · intro i
    by_cases hii : i = id
    · subst hii; simp
    · rw [upd_other hii]; exact h.nodB i
  · intro u i b hb hb'
    by_cases hii : i = id
    · subst hii; simp at hb'; have := hlt b (.inl ⟨u, hb⟩); omega
    · rw [upd_other hii] at hb'; exact h.dEB u i b hb hb'
  · intro i i' hne b hb hb'
    by_cases hii : i = id
    · subst hii
      simp at hb
      rw [upd_other (fun e => hne e.symm)] at hb'
      have := hlt b (.inr ⟨i', hb'⟩); omega
    · rw [upd_other hii] at hb
      by_cases hii' : i' = id
      · subst hii'; simp at hb'; have := hlt b (.inr ⟨i, hb⟩); omega
      · rw [upd_other hii'] at hb'; exact h.dBB i i' hne b hb hb'
  · rintro b (⟨u, hu⟩ | ⟨i, hi⟩) hk
    · exact h.new b (.inl ⟨u, hu⟩) hk
    · by_cases hii : i = id
      · subst hii; simp at hi; have := (h.kept b hk).2; have := h.grown; omega
      · rw [upd_other hii] at hi; exact h.new b (.inr ⟨i, hi⟩) hk
  · intro b hk
    have := h.kept b hk
    exact ⟨(hh b (Nat.lt_of_lt_of_le this.2 h.grown)).trans this.1, this.2⟩
  · rintro b (⟨u, hu⟩ | ⟨i, hi⟩)
    · exact h.okO b (.inl ⟨u, hu⟩)
    · by_cases hii : i = id
      · subst hii; simp at hi; subst hi; exact h.okN _ (Nat.le_refl _)
      · rw [upd_other hii] at hi; exact h.okO b (.inr ⟨i, hi⟩)

/-- a new variable, and a slot that points to it -/
theorem St.newVar {id t e : Nat} {d : D} {cs : Array Value} (st : StW C σ a w ρ Fe Fb) (hid : σ.box id = none) (ht : t < σ.n)
    (hr : Rc w ρ (gd C Fe Fb) (fun i => (σ.box i).isSome) true d cs.toList []) :
    St C ((σ.newB id (.var d)).set t (.ptr id 0 [])) (a.put (some t) (.pointer (some ⟨w.heap.size, 0, none⟩))) (w.alloc (.cells cs e)) := by
  have hlt := st.lt
  have hg : ∀ b, gd C Fe Fb b → b < w.heap.size → gd C Fe (upd Fb id [w.heap.size]) b := by
    rintro b ⟨hok, hb⟩ hl
    refine ⟨hok, ?_⟩
    rintro (⟨u, hu⟩ | ⟨i, hi⟩)
    · exact hb (.inl ⟨u, hu⟩)
    · by_cases hii : i = id
      · subst hii; simp at hi; omega
      · rw [upd_other hii] at hi; exact hb (.inr ⟨i, hi⟩)
  have h1 := st.newB (id := id) (x := .var d) (o := .cells cs e) hid ⟨cs, e, [], heap_alloc_new w _, hr.mono (fun b _ hl => (Ext.alloc w _).block b hl) hg (fun i hi => by
    have hii : i ≠ id := by rintro rfl; simp [hid] at hi
    exact ⟨by rw [box_newB]; simp [show ¬ id = i from fun e => hii e.symm, hi], updR_other hii⟩), rfl⟩
  have h2 := h1.put (t := t) (d := .ptr id 0 []) (v := .pointer (some ⟨w.heap.size, 0, none⟩)) (by simpa using ht) rfl (by
    simp only [VR, D.isAgg, Bool.false_eq_true, if_false]
    have := Rc.ptr (w := w.alloc (.cells cs e)) (ρ := updR ρ id w.heap.size) (G := gd C Fe (upd Fb id [w.heap.size])) (L := fun i => ((σ.newB id (.var d)).box i).isSome) id 0 [] (by simp [box_newB])
    simpa using this)
  exact h2

/-! ### literals are checked by reckoning -/
def chkL (d : D) (v : Value) : Bool :=
  match d, v with
  | .bool b, .bool c => b == c
  | .int n, .int .i64 m => decide (n = m)
  | .u8 x, .int .u8 m => decide ((x.toNat : Int) = m)
  | .u16 x, .int .u16 m => decide ((x.toNat : Int) = m)
  | .u32 x, .int .u32 m => decide ((x.toNat : Int) = m)
  | .u64 x, .int .u64 m => decide ((x.toNat : Int) = m)
  | .ik k n, .int k' m => decide (k = k') && decide (n = m)
  | .str s, .string t => t.data.toList == s
  | .nils, .slice none 0 0 => true
  | .nilp, .pointer none => true
  | .nilmap, .map none => true
  | .nilf, .nilFunc => true
  | .nili, .nilIface => true
  | _, _ => false

theorem chkL_ok (w : World) (ρ : Nat → Nat) (G L : Nat → Prop) (d : D) (v : Value) (h : chkL d v = true) : Rc w ρ G L false d [v] [] := by
  unfold chkL at h
  split at h
  · rw [beq_iff_eq] at h; subst h; exact .bool _
  · rw [decide_eq_true_eq] at h; subst h; exact .int _
  · rw [decide_eq_true_eq] at h; subst h; exact .u8 _
  · rw [decide_eq_true_eq] at h; subst h; exact .u16 _
  · rw [decide_eq_true_eq] at h; subst h; exact .u32 _
  · rw [decide_eq_true_eq] at h; subst h; exact .u64 _
  · rw [Bool.and_eq_true, decide_eq_true_eq, decide_eq_true_eq] at h; obtain ⟨rfl, rfl⟩ := h; exact .ik _ _
  · rename_i s t
    rw [beq_iff_eq] at h
    subst h
    have := Rc.str (w := w) (ρ := ρ) (G := G) (L := L) (p := false) t.data.toList
    simpa using this
  · exact .nils
  · exact .nilp
  · exact .nilmap
  · exact .nilf
  · exact .nili
  · cases h

mutual
def chk : D → List Value → Bool
  | .agg l, cs => chks l cs
  | .arr n z l, cs => decide (l.length = n) && chkr z l cs
  | d, cs => match cs with
    | [v] => chkL d v
    | _ => false
def chks : List D → List Value → Bool
  | [], cs => cs.isEmpty
  | d :: r, cs => decide (d.sz ≤ cs.length) && chk d (cs.take d.sz) && chks r (cs.drop d.sz)
def chkr (z : Nat) : List D → List Value → Bool
  | [], cs => cs.isEmpty
  | d :: r, cs => decide (z ≤ cs.length) && chk d (cs.take z) && chkr z r (cs.drop z)
end

theorem offk_succ (d : D) (r : List D) (k : Nat) : offk (d :: r) (k + 1) = d.sz + offk r k := by simp [offk]
theorem offk_zero (l : List D) : offk l 0 = 0 := by simp [offk]

mutual
theorem chk_ok (w : World) (ρ : Nat → Nat) (G L : Nat → Prop) : ∀ (d : D) (cs : List Value), chk d cs = true → Rc w ρ G L false d cs [] := by
  intro d cs h
  cases d with
  | agg l =>
    rw [chk] at h
    obtain ⟨h1, h2⟩ := chks_ok w ρ G L l cs h
    have := Rc.agg (w := w) (ρ := ρ) (G := G) (L := L) (p := false) l cs (fun _ => []) h1 h2
    have e : (List.range l.length).flatMap (fun _ => ([] : List Nat)) = [] := by simp
    rw [e] at this
    exact this
  | arr n z l =>
    rw [chk, Bool.and_eq_true, decide_eq_true_eq] at h
    obtain ⟨h1, h2⟩ := chkr_ok w ρ G L z l cs h.2
    exact .arr n z l cs h.1 (by rw [h1, h.1]) h2
  | _ =>
    simp only [chk] at h
    split at h
    · exact chkL_ok w ρ G L _ _ h
    · cases h
theorem chks_ok (w : World) (ρ : Nat → Nat) (G L : Nat → Prop) : ∀ (l : List D) (cs : List Value), chks l cs = true →
    cs.length = D.szs l ∧ ∀ k (h : k < l.length), Rc w ρ G L false l[k] ((cs.drop (offk l k)).take l[k].sz) [] := by
  intro l cs h
  cases l with
  | nil =>
    simp only [chks, List.isEmpty_iff] at h
    subst h
    exact ⟨by simp, fun k hk => by simp at hk⟩
  | cons d r =>
    simp only [chks, Bool.and_eq_true, decide_eq_true_eq] at h
    obtain ⟨⟨h0, h1⟩, h2⟩ := h
    have i1 := chk_ok w ρ G L d _ h1
    obtain ⟨i2, i3⟩ := chks_ok w ρ G L r _ h2
    refine ⟨by simp at i2 ⊢; omega, fun k hk => ?_⟩
    cases k with
    | zero => rw [offk_zero]; exact i1
    | succ k =>
      have := i3 k (by simpa using hk)
      rw [List.drop_drop] at this
      rw [offk_succ]
      exact this
theorem chkr_ok (w : World) (ρ : Nat → Nat) (G L : Nat → Prop) (z : Nat) : ∀ (l : List D) (cs : List Value), chkr z l cs = true →
    cs.length = l.length * z ∧ ∀ k (h : k < l.length), Rc w ρ G L false l[k] ((cs.drop (k * z)).take z) [] := by
  intro l cs h
  cases l with
  | nil =>
    simp only [chkr, List.isEmpty_iff] at h
    subst h
    exact ⟨by simp, fun k hk => by simp at hk⟩
  | cons d r =>
    simp only [chkr, Bool.and_eq_true, decide_eq_true_eq] at h
    obtain ⟨⟨h0, h1⟩, h2⟩ := h
    have i1 := chk_ok w ρ G L d _ h1
    obtain ⟨i2, i3⟩ := chkr_ok w ρ G L z r _ h2
    refine ⟨by simp only [List.length_drop, List.length_cons, Nat.add_mul] at i2 ⊢; omega, fun k hk => ?_⟩
    cases k with
    | zero => rw [Nat.zero_mul]; exact i1
    | succ k =>
      have := i3 k (by simpa using hk)
      rw [List.drop_drop] at this
      have e : (k + 1) * z = z + k * z := by rw [Nat.add_mul, Nat.one_mul, Nat.add_comm]
      simp only [e]
      exact this
end

def Value.isAgg' : Value → Bool
  | .agg _ => true
  | _ => false

/-- the zero value of a type -/
class ZrT (P : Program) (t : TypeId) (d : outParam D) : Prop where
  i : ∃ i v, P.info? t = some i ∧ i.zero = some v ∧ chk d v.cells.toList = true ∧ Value.isAgg' v = d.isAgg

theorem chk_VR {G L : Nat → Prop} {d : D} {v : Value} (h : chk d v.cells.toList = true) (hg : Value.isAgg' v = d.isAgg) : VR w ρ G L d v [] := by
  have := (chk_ok w ρ G L d _ h).flag
  unfold VR
  cases hd : d.isAgg
  · rw [hd] at hg
    simp only [Bool.false_eq_true, if_false]
    cases v <;> first | exact this | simp [Value.isAgg'] at hg
  · rw [hd] at hg
    simp only [if_true]
    cases v <;> first | exact ⟨_, rfl, this⟩ | simp [Value.isAgg'] at hg

theorem R.alloc {t ty rt : TypeId} {d : D} {pos : String} {aft : Array Edge} {g : Option (Nat × Bool)} [hZ : ZrT P ty d] (hid : σ.box t = none) (ht : t < σ.n) :
    OpS P C ⟨some t, .alloc ty, rt, pos, aft, g⟩ σ ((σ.newB t (.var d)).set t (.ptr t 0 [])) := by
  refine OpS.value fun a w ⟨ρ, Fe, Fb, st⟩ => ?_
  obtain ⟨i, v, h1, h2, h3, h4⟩ := hZ.i
  refine ⟨_, _, ?_, St.newVar (e := ty) (cs := v.cells) st hid ht ((chk_ok _ _ _ _ d _ h3).flag)⟩
  unfold execOp
  simp [Instr.alloc, zeroValue, typeInfo, h1, h2, newVar, newRow, newObj, Sem.run]

theorem R.box {t ty rt : TypeId} {x : Operand} {d : D} {pos : String} {aft : Array Edge} {g : Option (Nat × Bool)} (hx : ev C.gl σ x = some d) (hp : d.pur = true) (hid : σ.box t = none) (ht : t < σ.n) :
    OpS P C ⟨some t, .box ty x, rt, pos, aft, g⟩ σ ((σ.newB t (.var d)).set t (.ptr t 0 [])) := by
  refine OpS.value fun a w ⟨ρ, Fe, Fb, st⟩ => ?_
  obtain ⟨F, hv, _⟩ := ev_ok st hx (pur_ref hp)
  have hF := hv.pur hp
  subst hF
  have hdead : d ≠ .dead := by rintro rfl; simp [D.pur] at hp
  refine ⟨_, _, ?_, St.newVar (e := ty) (cs := (a.eval x).cells) st hid ht (hv.cells hdead)⟩
  unfold execOp
  simp [Instr.box, newVar, newRow, newObj, Sem.run]
end Go.Sx
