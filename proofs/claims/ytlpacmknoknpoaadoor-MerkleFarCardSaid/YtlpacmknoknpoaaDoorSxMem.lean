/-
  Own library, part 6: places inside data, what slices hold, loads.
-/
import Derived.Test.YtlpacmknoknpoaaDoorSxOps
set_option linter.unusedVariables false
set_option linter.unusedSimpArgs false
set_option linter.unnecessarySimpa false
namespace Go.Sx

/-- where a path leads: how many cells behind the beginning, and to what -/
def D.loc : D → List Nat → Option (Nat × D)
  | d, [] => some (0, d)
  | .agg l, k :: p => match l[k]? with
    | some d => match D.loc d p with
      | some (o, d') => some (offk l k + o, d')
      | none => none
    | none => none
  | .arr _ z l, k :: p => match l[k]? with
    | some d => match D.loc d p with
      | some (o, d') => some (k * z + o, d')
      | none => none
    | none => none
  | _, _ :: _ => none

theorem drop_take_take (cs : List Value) (o n m : Nat) (h : n ≤ m) : ((cs.take m).drop o).take (n - o) = (cs.drop o).take (n - o) := by
  rw [List.drop_take, List.take_take]
  congr 1
  omega

theorem sub_sub (cs : List Value) (a n b m : Nat) (h : b + m ≤ n) : ((((cs.drop a).take n).drop b).take m) = (cs.drop (a + b)).take m := by
  rw [List.drop_take, List.take_take, List.drop_drop, Nat.min_eq_left (by omega)]

theorem offk_lt (l : List D) (k : Nat) (h : k < l.length) : offk l k + l[k].sz ≤ D.szs l := by
  unfold offk
  induction l generalizing k with
  | nil => simp at h
  | cons d r ih =>
    cases k with
    | zero => simp
    | succ k =>
      have := ih k (by simpa using h)
      simp only [List.take_succ_cons, szs_cons, List.getElem_cons_succ]
      omega

/-- the part to which a path leads lies there -/
theorem Rc.loc {w : World} {ρ : Nat → Nat} {G L : Nat → Prop} {p : Bool} {d d' : D} {cs : List Value} {F : List Nat} (h : Rc w ρ G L p d cs F) {path : List Nat} {off : Nat}
    (hl : d.loc path = some (off, d')) : ∃ F', Rc w ρ G L true d' ((cs.drop off).take d'.sz) F' ∧ (∀ b ∈ F', b ∈ F) ∧ off + d'.sz ≤ cs.length := by
  induction path generalizing d cs F p off d' with
  | nil =>
    simp only [D.loc, Option.some.injEq, Prod.mk.injEq] at hl
    obtain ⟨rfl, rfl⟩ := hl
    refine ⟨F, ?_, fun _ h => h, by simp [h.len]⟩
    have : (cs.drop 0).take d.sz = cs := by rw [List.drop_zero, ← h.len]; exact List.take_length
    rw [this]
    cases p with
    | true => exact h
    | false => exact h.flag
  | cons k path ih =>
    cases h with
    | agg l cs Fs hs hr =>
      simp only [D.loc] at hl
      cases hk : l[k]? with
      | none => simp [hk] at hl
      | some d1 =>
        obtain ⟨hklt, rfl⟩ := List.getElem?_eq_some_iff.1 hk
        simp only [hk] at hl
        cases hd : D.loc l[k] path with
        | none => simp [hd] at hl
        | some od =>
          obtain ⟨o, d2⟩ := od
          simp only [hd, Option.some.injEq, Prod.mk.injEq] at hl
          obtain ⟨rfl, rfl⟩ := hl
          obtain ⟨F', h1, h2, h3⟩ := ih (hr k hklt) hd
          have hlt := offk_lt l k hklt
          have hlen : ((cs.drop (offk l k)).take l[k].sz).length = l[k].sz := (hr k hklt).len
          refine ⟨F', ?_, fun b hb => List.mem_flatMap.2 ⟨k, List.mem_range.2 hklt, h2 b hb⟩, by omega⟩
          rw [sub_sub _ _ _ _ _ (by omega)] at h1
          exact h1
    | arr n z l cs hn hs hr =>
      simp only [D.loc] at hl
      cases hk : l[k]? with
      | none => simp [hk] at hl
      | some d1 =>
        obtain ⟨hklt, rfl⟩ := List.getElem?_eq_some_iff.1 hk
        simp only [hk] at hl
        cases hd : D.loc l[k] path with
        | none => simp [hd] at hl
        | some od =>
          obtain ⟨o, d2⟩ := od
          simp only [hd, Option.some.injEq, Prod.mk.injEq] at hl
          obtain ⟨rfl, rfl⟩ := hl
          obtain ⟨F', h1, h2, h3⟩ := ih (hr k hklt) hd
          have hlen : ((cs.drop (k * z)).take z).length ≤ z := by simp; omega
          have hkz : k * z + z ≤ n * z := by
            have := Nat.mul_le_mul_right z (show k + 1 ≤ n by omega)
            rw [Nat.add_mul] at this; omega
          refine ⟨F', ?_, fun b hb => absurd (h2 b hb) (by simp), by omega⟩
          rw [sub_sub _ _ _ _ _ (by omega)] at h1
          exact h1
    | _ => simp [D.loc] at hl

theorem add_lit (b o n : Nat) : (⟨b, o, none⟩ : Addr).add n = ⟨b, o + n, none⟩ := by
  unfold Addr.add; split <;> simp_all

/-- what a slice's value says -/
def SlR (w : World) (ρ : Nat → Nat) (G L : Nat → Prop) (base : Option Addr) (len cap z : Nat) (l : List D) : Prop :=
  len = l.length ∧ ((len = 0 ∧ cap = 0) ∨ ∃ b o cs e fz, base = some ⟨b, o, none⟩ ∧ w.heap[b]? = some (.cells cs e fz) ∧ len ≤ cap ∧ o + len * z ≤ cs.size ∧
    ∀ i (h : i < l.length), ∃ F, Rc w ρ G L false l[i] ((cs.toList.drop (o + i * z)).take z) F)

/-- slot t holds a slice of these elements, of z cells each -/
inductive SC (σ : Sg) : Nat → Nat → List D → Prop
  | sl {t z : Nat} {o : Option Nat} {l : List D} (h : σ.get t = some (.sl o z l)) : SC σ t z l
  | nil {t z : Nat} (h : σ.get t = some .nils) : SC σ t z []
  | al {t s z : Nat} {o : Option Nat} {l : List D} (h : σ.get t = some (.al s)) (h' : σ.get s = some (.sl o z l)) : SC σ t z l
  | alnil {t s z : Nat} (h : σ.get t = some (.al s)) (h' : σ.get s = some .nils) : SC σ t z []
  | alb {t id off z : Nat} {path : List Nat} {d : D} {o : Option Nat} {l : List D} (h : σ.get t = some (.alb id off path)) (h' : σ.box id = some (.var d)) (hl : d.loc path = some (off, .sl o z l)) : SC σ t z l
  | albnil {t id off z : Nat} {path : List Nat} {d : D} (h : σ.get t = some (.alb id off path)) (h' : σ.box id = some (.var d)) (hl : d.loc path = some (off, .nils)) : SC σ t z []
  | vw {t s z lo n : Nat} {l : List D} (h : σ.get t = some (.vw s z lo n)) (h' : SC σ s z l) (hn : lo + n ≤ l.length) : SC σ t z ((l.drop lo).take n)
  | va {t id off z n lo m : Nat} {path : List Nat} {d : D} {l : List D} (h : σ.get t = some (.va id off z n path lo)) (h' : σ.box id = some (.var d)) (hl : d.loc path = some (off, .arr m z l)) (hn : lo + n ≤ m) :
      SC σ t z ((l.drop lo).take n)

variable {P : Program} {C : Ctx} {σ σ' : Sg} {a : Act} {w w' : World} {ρ : Nat → Nat} {Fe Fb : Nat → List Nat}

theorem SlR_of_Rc {G L : Nat → Prop} {p : Bool} {o : Option Nat} {z : Nat} {l : List D} {v : Value} {F : List Nat} (h : Rc w ρ G L p (.sl o z l) [v] F) :
    ∃ base len cap, v = .slice base len cap ∧ SlR w ρ G L base len cap z l := by
  cases h with
  | slN => exact ⟨none, 0, 0, rfl, rfl, .inl ⟨rfl, rfl⟩⟩
  | slE _ _ a => exact ⟨some a, 0, 0, rfl, rfl, .inl ⟨rfl, rfl⟩⟩
  | slI b off cs e fz cap _ _ hb hG hc hs hr => exact ⟨_, _, _, rfl, rfl, .inr ⟨b, off, cs, e, fz, rfl, hb, hc, hs, fun i hi => ⟨[], hr i hi⟩⟩⟩
  | slO b cs e cap _ _ Fs hb hc hm hs hr =>
    refine ⟨_, _, _, rfl, rfl, .inr ⟨b, 0, cs, _, _, rfl, hb, hc, ?_, fun i hi => ⟨Fs i, by simpa using hr i hi⟩⟩⟩
    have := Nat.mul_le_mul_right z hc
    omega

theorem Rc.nil_val {G L : Nat → Prop} {p : Bool} {v : Value} {F : List Nat} (h : Rc w ρ G L p .nils [v] F) : v = .slice none 0 0 := by
  generalize he : [v] = cs at h
  cases h
  simpa using he

theorem SC_ok (hs : StW C σ a w ρ Fe Fb) {t z : Nat} {l : List D} (h : SC σ t z l) :
    ∃ base len cap, a.tmps[t]? = some (.slice base len cap) ∧ SlR w ρ (gd C Fe Fb) (fun id => (σ.box id).isSome) base len cap z l := by
  induction h with
  | sl h =>
    obtain ⟨v, hv, hr⟩ := (SR_plain rfl).1 (hs.env _ _ h)
    simp only [VR, D.isAgg, Bool.false_eq_true, if_false] at hr
    obtain ⟨base, len, cap, rfl, hl⟩ := SlR_of_Rc hr
    exact ⟨base, len, cap, hv, hl⟩
  | nil h =>
    obtain ⟨v, hv, hr⟩ := (SR_plain rfl).1 (hs.env _ _ h)
    simp only [VR, D.isAgg, Bool.false_eq_true, if_false] at hr
    generalize Fe _ = F at hr
    cases hr
    exact ⟨none, 0, 0, hv, rfl, .inl ⟨rfl, rfl⟩⟩
  | al h h' =>
    obtain ⟨_, x, hx, hs'⟩ := hs.env _ _ h
    obtain ⟨v, hv, hr⟩ := (SR_plain rfl).1 (hs.env _ _ h')
    simp only [VR, D.isAgg, Bool.false_eq_true, if_false] at hr
    obtain ⟨base, len, cap, rfl, hl⟩ := SlR_of_Rc hr
    rw [hv] at hs'
    cases hs'
    exact ⟨base, len, cap, hx, hl⟩
  | alnil h h' =>
    obtain ⟨_, x, hx, hs'⟩ := hs.env _ _ h
    obtain ⟨v, hv, hr⟩ := (SR_plain rfl).1 (hs.env _ _ h')
    simp only [VR, D.isAgg, Bool.false_eq_true, if_false] at hr
    generalize Fe _ = F at hr
    cases hr
    rw [hv] at hs'
    cases hs'
    exact ⟨none, 0, 0, hx, rfl, .inl ⟨rfl, rfl⟩⟩
  | alb h h' hl =>
    obtain ⟨_, hid, x, hx, hc⟩ := hs.env _ _ h
    obtain ⟨cs, e, F', hb, hr, _⟩ := hs.bx _ _ h'
    obtain ⟨F2, h1, h2, h3⟩ := hr.loc hl
    rw [cell_of_row w _ _ cs e (0, 0) hb] at hc
    obtain ⟨hlt, rfl⟩ := Array.getElem?_eq_some_iff.1 hc
    simp only [D.sz] at h1
    rw [List.drop_eq_getElem_cons (by simpa using hlt), List.take_succ_cons, List.take_zero, Array.getElem_toList] at h1
    obtain ⟨base, len, cap, he, hl⟩ := SlR_of_Rc h1
    rw [he] at hx
    exact ⟨base, len, cap, hx, hl⟩
  | albnil h h' hl =>
    obtain ⟨_, hid, x, hx, hc⟩ := hs.env _ _ h
    obtain ⟨cs, e, F', hb, hr, _⟩ := hs.bx _ _ h'
    obtain ⟨F2, h1, h2, h3⟩ := hr.loc hl
    rw [cell_of_row w _ _ cs e (0, 0) hb] at hc
    obtain ⟨hlt, rfl⟩ := Array.getElem?_eq_some_iff.1 hc
    simp only [D.sz] at h1
    rw [List.drop_eq_getElem_cons (by simpa using hlt), List.take_succ_cons, List.take_zero, Array.getElem_toList] at h1
    rw [h1.nil_val] at hx
    exact ⟨none, 0, 0, hx, rfl, .inl ⟨rfl, rfl⟩⟩
  | @vw t s z lo n l h h' hn ih =>
    obtain ⟨base, len, cap, hs1, hl, hd⟩ := ih
    obtain ⟨_, v0, v1, h1, h2, b0, len', cap', b1, cap2, rfl, rfl, h3, h4, h45, h5⟩ := hs.env _ _ h
    rw [hs1] at h1
    simp only [Option.some.injEq, Value.slice.injEq] at h1
    obtain ⟨rfl, rfl, rfl⟩ := h1
    refine ⟨_, _, _, h2, by simp; omega, ?_⟩
    rcases h5 with ⟨b, o, o', rfl, rfl, h5⟩ | ⟨rfl, rfl⟩
    · rcases hd with ⟨h6, h7⟩ | ⟨b', o2, cs, e, fz, hb, hh, h6, h7, h8⟩
      · exact .inl ⟨by omega, by omega⟩
      · cases hb
        have hoff : o' + n * z ≤ cs.size := by
          rcases h5 with rfl | ⟨rfl, rfl⟩
          · have : (lo + n) * z ≤ len * z := Nat.mul_le_mul_right z (by omega)
            rw [Nat.add_mul] at this; omega
          · omega
        refine .inr ⟨b, o', cs, e, fz, rfl, hh, h3, hoff, fun i hi => ?_⟩
        simp only [List.length_take, List.length_drop] at hi
        rcases h5 with rfl | ⟨rfl, rfl⟩
        · obtain ⟨F, hF⟩ := h8 (lo + i) (by omega)
          refine ⟨F, ?_⟩
          simp only [List.getElem_take, List.getElem_drop]
          rw [Nat.add_mul, ← Nat.add_assoc] at hF
          exact hF
        · omega
    · refine .inl ⟨by omega, rfl⟩
  | @va t id off z n lo m path d l h h' hl hn =>
    obtain ⟨_, hid, cap, o', h1, h0, h2⟩ := hs.env _ _ h
    obtain ⟨cs, e, F', hb, hr, _⟩ := hs.bx _ _ h'
    obtain ⟨F2, h3, h4, h5⟩ := hr.loc hl
    cases h3 with
    | arr _ _ _ _ hlm hsz hrr =>
      simp only [sz_arr] at h5 hsz
      have hoff : o' + n * z ≤ cs.size := by
        rcases h0 with rfl | ⟨rfl, rfl⟩
        · have : (lo + n) * z ≤ m * z := Nat.mul_le_mul_right z (by omega)
          rw [Nat.add_mul] at this
          simp only [Array.length_toList] at h5
          omega
        · simp only [Array.length_toList] at h5
          omega
      refine ⟨_, _, _, h2, by simp; omega, .inr ⟨ρ id, o', cs, e, _, rfl, hb, h1, hoff, fun i hi => ?_⟩⟩
      simp only [List.length_take, List.length_drop] at hi
      refine ⟨[], ?_⟩
      rcases h0 with rfl | ⟨rfl, rfl⟩
      · simp only [List.getElem_take, List.getElem_drop]
        have := hrr (lo + i) (by omega)
        rw [sz_arr, sub_sub _ _ _ _ _ ?_] at this
        · rw [Nat.add_mul, ← Nat.add_assoc] at this; exact this
        · have : (lo + i + 1) * z ≤ m * z := Nat.mul_le_mul_right z (by omega)
          rw [Nat.add_mul] at this; omega
      · omega
end Go.Sx
