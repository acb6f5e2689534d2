/-
  The plain law for the statements themselves.
-/
import Derived.Test.YtlpacmknoknpoaaDoorShaLaw
set_option linter.unusedVariables false
set_option linter.unusedSimpArgs false
set_option linter.unnecessarySimpa false
namespace Go.Sx

theorem same_law (a b : List UInt8) (h : a.length = b.length) (i : Nat) (hi : i ≤ a.length) (hn : a.length ≤ i) (hall : ∀ j, j < i → a[j]! = b[j]!) : a = b := by
  apply List.ext_getElem h
  intro j h1 h2
  have := hall j (by omega)
  simpa [h1, h2] using this
theorem len_get! {l : List (List UInt8)} {m : Nat} (h : ∀ b ∈ l, b.length ≤ m) (i : Nat) : l[i]!.length ≤ m := by
  by_cases hi : i < l.length
  · rw [getElem!_pos l i hi]; exact h _ (List.getElem_mem hi)
  · rw [getElem!_neg l i hi]; exact Nat.zero_le _
theorem sum_eq (b : List UInt8) : (sumS b == sumR b) = true := beq_iff_eq.2 (sum_r b)
theorem twice_eq (b : List UInt8) : (twiceS b == twiceR b) = true := beq_iff_eq.2 (twice_r b)

/-! ### the anchor -/
def abS : ShaS := addS (addS ShaS.start [97, 98]) [99]
theorem abS_ok : abS.ok := addS_ok _ _ (addS_ok _ _ ShaS.start_ok)
theorem ways_eq (a b : List UInt8) : (endS (addS (addS ShaS.start a) b) == sumS (a ++ b)) = true := by
  rw [beq_iff_eq, sum_r]; exact end_r (rep_addS (rep_start_add a))
theorem ways_eq3 (a b c : List UInt8) : (endS (addS (addS (addS ShaS.start a) b) c) == sumS (a ++ b ++ c)) = true := by
  rw [beq_iff_eq, sum_r]; exact end_r (rep_addS (rep_addS (rep_start_add a)))
theorem ways_eq1 (a : List UInt8) : (endS (addS ShaS.start a) == sumS a) = true := beq_iff_eq.2 rfl
theorem cR0 : (sumR [])[0]! = 227 ∧ (sumR [])[31]! = 85 := by decide +kernel
theorem cR1 : (sumR [97, 98, 99])[0]! = 186 ∧ (sumR [97, 98, 99])[31]! = 173 ∧ (sumR [97, 98, 99])[15]! = 35 := by decide +kernel
theorem cR2 : (twiceR [104, 101, 108, 108, 111])[0]! = 149 ∧ (twiceR [104, 101, 108, 108, 111])[31]! = 80 := by decide +kernel
theorem wk0 : ((sumS [])[0]! == 227) = true := by rw [sum_r]; exact beq_iff_eq.2 cR0.1
theorem wk1 : ((sumS [])[31]! == 85) = true := by rw [sum_r]; exact beq_iff_eq.2 cR0.2
theorem wk2 : ((sumS [97, 98, 99])[0]! == 186) = true := by rw [sum_r]; exact beq_iff_eq.2 cR1.1
theorem wk3 : ((sumS [97, 98, 99])[31]! == 173) = true := by rw [sum_r]; exact beq_iff_eq.2 cR1.2.1
theorem wk4 : ((sumS [97, 98, 99])[15]! == 35) = true := by rw [sum_r]; exact beq_iff_eq.2 cR1.2.2
theorem wk5 : ((twiceS [104, 101, 108, 108, 111])[0]! == 149) = true := by rw [twice_r]; exact beq_iff_eq.2 cR2.1
theorem wk6 : ((twiceS [104, 101, 108, 108, 111])[31]! == 80) = true := by rw [twice_r]; exact beq_iff_eq.2 cR2.2
theorem wk7 : (endS abS == sumS [97, 98, 99]) = true := ways_eq [97, 98] [99]

/-! ### bytes that are all one -/
def fillB (x : UInt8) (k : Nat) : Nat → List UInt8
  | 0 => List.replicate k 0
  | i + 1 => (fillB x k i).set i x
theorem fillB_len (x : UInt8) (k i : Nat) : (fillB x k i).length = k := by
  induction i with
  | zero => simp [fillB]
  | succ i ih => simp [fillB, ih]

/-! ### byte by byte -/
def byS (b : List UInt8) : Nat → ShaS
  | 0 => ShaS.zero
  | i + 1 => addS (addS (byS b i) ((b.drop i).take 1)) []
theorem byS_ok (b : List UInt8) (i : Nat) : (byS b i).ok := by
  induction i with
  | zero => exact ShaS.zero_ok
  | succ i ih => exact addS_ok _ _ (addS_ok _ _ ih)
theorem byS_rep (b : List UInt8) (i : Nat) (hi : i < b.length) : Rep (byS b (i + 1)) (b.take (i + 1)) := by
  induction i with
  | zero =>
    have h1 : Rep (addS ShaS.zero ((b.drop 0).take 1)) ((b.drop 0).take 1) := rep_start_add _
    have := rep_addS (c := []) h1
    simpa [byS] using this
  | succ i ih =>
    have h1 := rep_addS (c := []) (rep_addS (c := (b.drop (i + 1)).take 1) (ih (by omega)))
    have e : b.take (i + 1) ++ (b.drop (i + 1)).take 1 ++ [] = b.take (i + 1 + 1) := by rw [List.append_nil, ← List.take_add]
    rw [e] at h1
    exact h1
theorem by_eq (b : List UInt8) : (endS (byS b b.length) == sumS b) = true := by
  rw [beq_iff_eq, sum_r]
  cases hb : b.length with
  | zero => rw [List.length_eq_zero_iff.1 hb]; exact zero_end
  | succ i =>
    have := byS_rep b i (by omega)
    rw [List.take_of_length_le (by omega)] at this
    exact end_r this
theorem by_nil (b : List UInt8) : (endS (addS (byS b b.length) []) == endS (byS b b.length)) = true := by
  have h1 := beq_iff_eq.1 (by_eq b)
  rw [beq_iff_eq, h1, sum_r]
  cases hb : b.length with
  | zero => rw [List.length_eq_zero_iff.1 hb]; exact end_r (rep_start_add [])
  | succ i =>
    have := byS_rep b i (by omega)
    rw [List.take_of_length_le (by omega)] at this
    have h2 := rep_addS (c := []) this
    rw [List.append_nil] at h2
    exact end_r h2

/-! ### in parts -/
instance : Inhabited ShaS := ⟨ShaS.zero⟩
def intD (n : Nat) : D := .int ((n : Nat) : Int)
def allP (l : List (List UInt8)) : Nat → List UInt8
  | 0 => []
  | i + 1 => allP l i ++ l[i]!
def stsP (l : List (List UInt8)) : Nat → List ShaS
  | 0 => [ShaS.start]
  | i + 1 => stsP l i ++ [addS (stsP l i)[(stsP l i).length - 1]! l[i]!]
def lensP (l : List (List UInt8)) : Nat → List Nat
  | 0 => [0]
  | i + 1 => lensP l i ++ [(allP l (i + 1)).length]
theorem stsP_len (l : List (List UInt8)) (i : Nat) : (stsP l i).length = i + 1 := by
  induction i with
  | zero => rfl
  | succ i ih => simp [stsP, ih]
theorem lensP_len (l : List (List UInt8)) (i : Nat) : (lensP l i).length = i + 1 := by
  induction i with
  | zero => rfl
  | succ i ih => simp [lensP, ih]
theorem get!_last {α : Type} [Inhabited α] {l : List α} {v : α} {i : Nat} (h : i = l.length) : (l ++ [v])[i]! = v := by subst h; simp
theorem stsP_rep (l : List (List UInt8)) (i j : Nat) (hj : j ≤ i) : Rep (stsP l i)[j]! (allP l j) := by
  induction i generalizing j with
  | zero =>
    obtain rfl : j = 0 := by omega
    exact rep_start
  | succ i ih =>
    have hl := stsP_len l i
    simp only [stsP]
    by_cases h : j ≤ i
    · rw [get!_append (by omega)]; exact ih j h
    · obtain rfl : j = i + 1 := by omega
      rw [get!_last (by omega), hl, Nat.add_sub_cancel]
      exact rep_addS (ih i (Nat.le_refl _))
theorem stsP_ok' (s : ShaS) (b : List UInt8) (h : Rep s b) : s.ok := ⟨by rw [h.h]; exact hR_len _ _, h.len⟩
theorem stsP_ok (l : List (List UInt8)) (i j : Nat) (hj : j ≤ i) : ((stsP l i)[j]!).ok := stsP_ok' _ _ (stsP_rep l i j hj)
theorem lensP_get (l : List (List UInt8)) (i j : Nat) (hj : j ≤ i) : (lensP l i)[j]! = (allP l j).length := by
  induction i generalizing j with
  | zero =>
    obtain rfl : j = 0 := by omega
    rfl
  | succ i ih =>
    have hl := lensP_len l i
    simp only [lensP]
    by_cases h : j ≤ i
    · rw [get!_append (by omega)]; exact ih j h
    · obtain rfl : j = i + 1 := by omega
      rw [get!_last (by omega)]
theorem allP_prefix (l : List (List UInt8)) (i j : Nat) (hj : j ≤ i) : (allP l i).take (allP l j).length = allP l j ∧ (allP l j).length ≤ (allP l i).length := by
  induction i with
  | zero =>
    obtain rfl : j = 0 := by omega
    exact ⟨rfl, Nat.le_refl _⟩
  | succ i ih =>
    by_cases h : j ≤ i
    · obtain ⟨h1, h2⟩ := ih h
      simp only [allP]
      exact ⟨by rw [List.take_append_of_le_length h2, h1], by simp; omega⟩
    · obtain rfl : j = i + 1 := by omega
      exact ⟨List.take_length, Nat.le_refl _⟩
theorem lens_le (l : List (List UInt8)) (i j : Nat) (hj : j ≤ i) : (lensP l i)[j]! ≤ (allP l i).length := by
  rw [lensP_get l i j hj]; exact (allP_prefix l i j hj).2
theorem parts_ne (l : List (List UInt8)) (i j : Nat) (hj : j ≤ i) : (endS (stsP l i)[j]! != sumR ((allP l i).take (lensP l i)[j]!)) = false := by
  rw [lensP_get l i j hj, (allP_prefix l i j hj).1, end_r (stsP_rep l i j hj)]
  simp
theorem zero_eq : (endS ShaS.zero == sumR []) = true := beq_iff_eq.2 zero_end
def xorP (b : List UInt8) : Nat → List UInt8
  | 0 => b
  | k + 1 => (xorP b k).set k ((xorP b k)[k]! ^^^ 90)
theorem xorP_len (b : List UInt8) (k : Nat) : (xorP b k).length = b.length := by
  induction k with
  | zero => rfl
  | succ k ih => simp [xorP, ih]
end Go.Sx
