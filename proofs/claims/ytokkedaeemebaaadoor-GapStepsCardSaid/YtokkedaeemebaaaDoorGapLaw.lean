/-
  The plain law of the statements on gaps: how many are watched.
-/
import Derived.Test.YtokkedaeemebaaaDoorSxNil
import Derived.Test.YtokkedaeemebaaaDoorShaLaw2
set_option linter.unusedVariables false
set_option linter.unusedSimpArgs false
set_option linter.unnecessarySimpa false
namespace Go.Sx

/-! ### how often each stands in a list -/
def cM (used : List Int) : Nat → List (Int × Int)
  | 0 => []
  | j + 1 => (mEnt 0 (cM used j) used[j]!).set (mIdx (cM used j) used[j]!) (used[j]!, mGet 0 (cM used j) used[j]! + 1)
theorem cM_get (used : List Int) (j : Nat) (hj : j ≤ used.length) (k : Int) : mGet 0 (cM used j) k = ((used.take j).count k : Nat) := by
  induction j with
  | zero => simp [cM, mGet, mIdx]
  | succ j ih =>
    have hlt : j < used.length := by omega
    simp only [cM, mGet_set]
    rw [List.take_succ_eq_append_getElem hlt, List.count_append]
    have e1 : used[j]! = used[j] := getElem!_pos used j hlt
    rw [e1]
    by_cases h : k = used[j]
    · subst h
      have := ih (by omega)
      simp [this]
    · have h2 : ¬ used[j] = k := fun e => h e.symm
      simp [h, h2, ih (by omega)]
theorem cM_le (used : List Int) (j : Nat) (hj : j ≤ used.length) (k : Int) : 0 ≤ mGet 0 (cM used j) k ∧ mGet 0 (cM used j) k ≤ j := by
  rw [cM_get used j hj]
  have := List.count_le_length (a := k) (l := used.take j)
  simp at this
  omega
theorem cM_pos (used : List Int) (k : Int) : (decide (mGet 0 (cM used used.length) k > 0)) = used.contains k := by
  rw [cM_get used _ (Nat.le_refl _), List.take_length, Bool.eq_iff_iff]
  simp [List.count_pos_iff]

/-! ### what is watched -/
def clean (used : List Int) (g m : Nat) : Prop := ∀ u ∈ used, ¬ ((m : Int) - g ≤ u ∧ u < m ∧ 0 ≤ u)
structure IsW (used : List Int) (g n : Nat) : Prop where
  lo : g ≤ n
  hi : n ≤ 200
  cl : n = 200 ∨ clean used g n
  no : ∀ m, g ≤ m → m < n → ¬ clean used g m
theorem IsW.uniq {used : List Int} {g n n' : Nat} (h : IsW used g n) (h' : IsW used g n') : n = n' := by
  rcases Nat.lt_trichotomy n n' with hl | he | hl
  · exact absurd (h.cl.resolve_left (by have := h'.hi; omega)) (h'.no n h.lo hl)
  · exact he
  · exact absurd (h'.cl.resolve_left (by have := h.hi; omega)) (h.no n' h'.lo hl)

def wLoop (used : List Int) (g : Nat) : Nat → Nat → Nat → Nat
  | 0, _, n => n
  | k + 1, i, n => if i < n ∧ n < 200 then wLoop used g k (i + 1) (if used.contains (i : Int) then min (i + 1 + g) 200 else n) else n
def gapN (gap : Int) : Nat := (min (max gap 1) 200).toNat
def watchS (used : List Int) (gap : Int) : Nat := wLoop used (gapN gap) 200 0 (gapN gap)
theorem gapN_le (gap : Int) : 1 ≤ gapN gap ∧ gapN gap ≤ 200 := by unfold gapN; omega
theorem wLoop_spec (used : List Int) (g : Nat) (hg : 1 ≤ g) : ∀ (k i n : Nat), 200 ≤ i + k → g ≤ n → n ≤ 200 → n ≤ i + g → (∀ u ∈ used, 0 ≤ u → u < (i : Int) → u + g < n ∨ n = 200) → (∀ m, g ≤ m → m < n → ¬ clean used g m) → IsW used g (wLoop used g k i n) := by
  intro k
  induction k with
  | zero =>
    intro i n hk h1 h2 hb h3 h4
    simp only [wLoop]
    refine ⟨h1, h2, ?_, h4⟩
    by_cases hn : n = 200
    · exact .inl hn
    · refine .inr fun u hu ⟨a, b, c⟩ => ?_
      rcases h3 u hu c (by omega) with h | h
      · omega
      · exact hn h
  | succ k ih =>
    intro i n hk h1 h2 hb h3 h4
    simp only [wLoop]
    split
    · rename_i hc
      by_cases hu : used.contains (i : Int) = true
      · simp only [hu, if_true]
        have hmem : (i : Int) ∈ used := by simpa using hu
        have hmin : min (i + 1 + g) 200 ≤ i + 1 + g ∧ min (i + 1 + g) 200 ≤ 200 ∧ (min (i + 1 + g) 200 = i + 1 + g ∨ min (i + 1 + g) 200 = 200) := by omega
        generalize hn' : min (i + 1 + g) 200 = n' at *
        refine ih (i + 1) n' (by omega) (by omega) (by omega) (by omega) (fun u hu' h0 hlt => ?_) (fun m hm1 hm2 hcl => ?_)
        · by_cases hui : u < (i : Int)
          · rcases h3 u hu' h0 hui with h | h <;> omega
          · omega
        · by_cases hmn : m < n
          · exact h4 m hm1 hmn hcl
          · exact hcl i hmem ⟨by omega, by omega, by omega⟩
      · have hu' : used.contains (i : Int) = false := by simpa using hu
        have hmem : ¬ (i : Int) ∈ used := by simpa using hu
        simp only [hu', Bool.false_eq_true, if_false]
        refine ih (i + 1) n (by omega) h1 h2 (by omega) (fun u hx h0 hlt => ?_) h4
        by_cases hui : u < (i : Int)
        · exact h3 u hx h0 hui
        · exact absurd (show (i : Int) ∈ used by rw [show (i : Int) = u by omega]; exact hx) hmem
    · rename_i hc
      refine ⟨h1, h2, ?_, h4⟩
      by_cases hn : n = 200
      · exact .inl hn
      · refine .inr fun u hu ⟨a, b, c⟩ => ?_
        rcases h3 u hu c (by omega) with h | h
        · omega
        · exact hn h
theorem watch_is (used : List Int) (gap : Int) : IsW used (gapN gap) (watchS used gap) := by
  have := gapN_le gap
  refine wLoop_spec used (gapN gap) this.1 200 0 (gapN gap) (by omega) (Nat.le_refl _) this.2 (by omega) (fun u _ h0 hlt => by omega) (fun m h1 h2 => by omega)

/-! ### the document's answer -/
def cleanB (used : List Int) (g : Int) (n : Int) : Bool := used.all fun u => !(decide (u ≥ 0) && decide (u < n) && decide (u ≥ n - g))
def rLoop (used : List Int) (g : Int) : Nat → Nat → Nat
  | 0, _ => 200
  | k + 1, n => if cleanB used g n then n else rLoop used g k (n + 1)
theorem cleanB_iff (used : List Int) (g n : Nat) : cleanB used g n = true ↔ clean used g n := by
  simp only [cleanB, List.all_eq_true, Bool.not_eq_true', Bool.and_eq_false_iff, decide_eq_false_iff_not, clean]
  constructor
  · intro h u hu ⟨a, b, c⟩
    rcases h u hu with (h1 | h1) | h1 <;> omega
  · intro h u hu
    by_cases h1 : u ≥ 0
    · by_cases h2 : u < (n : Int)
      · right; intro h3; exact h u hu ⟨by omega, h2, h1⟩
      · left; right; exact h2
    · left; left; exact h1
theorem rLoop_spec (used : List Int) (g : Nat) : ∀ (k n : Nat), n + k = 200 → g ≤ n → (∀ m, g ≤ m → m < n → ¬ clean used g m) → IsW used g (rLoop used g k n) := by
  intro k
  induction k with
  | zero =>
    intro n hk h1 h4
    obtain rfl : n = 200 := by omega
    exact ⟨h1, Nat.le_refl _, .inl rfl, h4⟩
  | succ k ih =>
    intro n hk h1 h4
    simp only [rLoop]
    split
    · rename_i hc
      exact ⟨h1, by omega, .inr ((cleanB_iff used g n).1 hc), h4⟩
    · rename_i hc
      refine ih (n + 1) (by omega) (by omega) (fun m hm1 hm2 hcl => ?_)
      by_cases hmn : m < n
      · exact h4 m hm1 hmn hcl
      · obtain rfl : m = n := by omega
        exact hc ((cleanB_iff used g m).2 hcl)
/-- the document's number -/
def watchR (used : List Int) (gap : Int) : Nat := rLoop used (max gap 1) (200 - (max gap 1).toNat) (max gap 1).toNat
theorem watch_eq (used : List Int) (gap : Int) : watchS used gap = watchR used gap := by
  have h := watch_is used gap
  unfold watchR
  by_cases hc : max gap 1 < 200
  · have hg : gapN gap = (max gap 1).toNat := by unfold gapN; omega
    have hr := rLoop_spec used (gapN gap) (200 - gapN gap) (gapN gap) (by have := gapN_le gap; omega) (Nat.le_refl _) (fun m h1 h2 => by omega)
    rw [show ((gapN gap : Nat) : Int) = max gap 1 by unfold gapN; omega] at hr
    rw [← hg]
    exact h.uniq hr
  · have hg : gapN gap = 200 := by unfold gapN; omega
    have := h.lo; have := h.hi
    have hz : 200 - (max gap 1).toNat = 0 := by omega
    rw [hz]
    simp only [rLoop]
    omega
theorem wLoop_stop {used : List Int} {g k i n : Nat} (h : ¬ (i < n ∧ n < 200)) : wLoop used g k i n = n := by
  cases k with
  | zero => rfl
  | succ k => simp only [wLoop, if_neg h]
theorem wLoop_step {used : List Int} {g i n : Nat} (h1 : i < n) (h2 : n < 200) : wLoop used g (200 - i) i n = wLoop used g (200 - (i + 1)) (i + 1) (if used.contains (i : Int) then min (i + 1 + g) 200 else n) := by
  rw [show 200 - i = (200 - (i + 1)) + 1 by omega]
  simp only [wLoop, if_pos (And.intro h1 h2)]
theorem rLoop_step {used : List Int} {g : Int} {n : Nat} (h : n < 200) : rLoop used g (200 - n) n = if cleanB used g n then n else rLoop used g (200 - (n + 1)) (n + 1) := by
  rw [show 200 - n = (200 - (n + 1)) + 1 by omega]
  simp only [rLoop]
theorem cleanB_take (used : List Int) (g : Int) (n : Int) (i : Nat) (h : i < used.length) : cleanB (used.take (i + 1)) g n = (cleanB (used.take i) g n && !(decide (used[i]! ≥ 0) && decide (used[i]! < n) && decide (used[i]! ≥ n - g))) := by
  rw [List.take_succ_eq_append_getElem h]
  simp only [cleanB, List.all_append, List.all_cons, List.all_nil, Bool.and_true, getElem!_pos used i h]

/-! ### other lists -/
theorem clean_sub {l l' : List Int} {g m : Nat} (h : ∀ u ∈ l, u ∈ l') (hc : clean l' g m) : clean l g m := fun u hu => hc u (h u hu)
theorem watch_more {used : List Int} {more : Int} {g : Nat} {n m : Nat} (h : IsW used g n) (h' : IsW (more :: used) g m) : n ≤ m := by
  by_cases hl : m < n
  · have := h.hi
    exact absurd (clean_sub (fun u hu => List.mem_cons_of_mem _ hu) (h'.cl.resolve_left (by omega))) (h.no m h'.lo hl)
  · omega
theorem IsW.congr {l l' : List Int} {g n : Nat} (h : IsW l g n) (he : ∀ u, 0 ≤ u → u < (n : Int) → (u ∈ l ↔ u ∈ l')) : IsW l' g n := by
  have key : ∀ m, m ≤ n → (clean l g m ↔ clean l' g m) := fun m hm =>
    ⟨fun hc u hu hx => hc u ((he u hx.2.2 (by omega)).2 hu) hx, fun hc u hu hx => hc u ((he u hx.2.2 (by omega)).1 hu) hx⟩
  exact ⟨h.lo, h.hi, h.cl.imp id (key n (Nat.le_refl _)).1, fun m h1 h2 hc => h.no m h1 h2 ((key m (by omega)).2 hc)⟩

/-! ### numbers as bytes, scripts -/
def szB (n : Nat) : Bool := decide (n = 1) || decide (n = 2) || decide (n = 4) || decide (n = 8)
def shr8 (n : UInt64) : Nat → UInt64
  | 0 => n
  | k + 1 => shr_u64 (shr8 n k) 8
def leB (n : UInt64) : Nat → List UInt8
  | 0 => []
  | k + 1 => leB n k ++ [(shr8 n k).toUInt8]
theorem leB_len (n : UInt64) (k : Nat) : (leB n k).length = k := by
  induction k with
  | zero => rfl
  | succ k ih => simp [leB, ih]
def div8 (n : UInt64) : Nat → UInt64
  | 0 => n
  | k + 1 => div8 n k / 256
def lowB (n : UInt64) : Nat → List UInt8
  | 0 => []
  | k + 1 => lowB n k ++ [(div8 n k % 256).toUInt8]
theorem div8_eq (n : UInt64) (k : Nat) : div8 n k = shr8 n k := by
  induction k with
  | zero => rfl
  | succ k ih =>
    simp only [div8, shr8, ih]
    apply UInt64.toNat_inj.1
    simp [shr_u64, UInt64.toNat_div, UInt64.toNat_shiftRight, Nat.shiftRight_eq_div_pow]
theorem lowB_eq (n : UInt64) (k : Nat) : lowB n k = leB n k := by
  induction k with
  | zero => rfl
  | succ k ih =>
    simp only [lowB, leB, ih, div8_eq]
    congr 2
    apply UInt8.toNat_inj.1
    simp [UInt64.toNat_toUInt8, UInt64.toNat_mod]
def n32 (i : Int) : UInt64 := (UInt32.ofInt i).toUInt64
def scriptS (seed : List UInt8) (i : Int) : List UInt8 := [0, 20] ++ (sumS (seed ++ leB (n32 i) 4)).take 20
def scriptR (seed : List UInt8) (i : Int) : List UInt8 := [0, 20] ++ (sumR (seed ++ lowB (n32 i) 4)).take 20
theorem script_eq (seed : List UInt8) (i : Int) : scriptS seed i = scriptR seed i := by unfold scriptS scriptR; rw [lowB_eq, sum_r]
theorem scriptS_len (seed : List UInt8) (i : Int) : (scriptS seed i).length = 22 := by simp [scriptS, sumS_len]
theorem scriptR_len (seed : List UInt8) (i : Int) : (scriptR seed i).length = 22 := by rw [← script_eq, scriptS_len]
end Go.Sx
