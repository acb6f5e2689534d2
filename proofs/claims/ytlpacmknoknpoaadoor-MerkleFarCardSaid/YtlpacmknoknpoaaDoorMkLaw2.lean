/-
  The plain law of trees of hashes: where branches lead.
-/
import Derived.Test.YtlpacmknoknpoaaDoorMkLaw
set_option linter.unusedVariables false
set_option linter.unusedSimpArgs false
set_option linter.unnecessarySimpa false
namespace Go.Sx

theorem upI_get (J : Hs → Hs → Hs) (l : List Hs) (i j : Nat) (h : j < i) : (upI J l i)[j]! = J l[2 * j]! l[min (2 * j + 1) (l.length - 1)]! := by
  induction i with
  | zero => omega
  | succ i ih =>
    simp only [upI]
    rcases Nat.lt_or_ge j i with h1 | h1
    · rw [get!_append (by rw [upI_len]; exact h1)]; exact ih h1
    · obtain rfl : j = i := by omega
      rw [get!_last (upI_len J l j).symm]
theorem rowA_get (J : Hs → Hs → Hs) (l : List Hs) (k j : Nat) (h : j < (rowA J l (k + 1)).length) : (rowA J l (k + 1))[j]! = J (rowA J l k)[2 * j]! (rowA J l k)[min (2 * j + 1) ((rowA J l k).length - 1)]! := by
  simp only [rowA, upR] at h ⊢
  rw [upI_len] at h
  exact upI_get J _ _ _ h

/-- where the m-th of a list stands in the rows above -/
theorem idx_lt {n m : Nat} (h : m < n) (j : Nat) : m / 2 ^ j < lenA n j := by
  induction j with
  | zero => simpa [lenA] using h
  | succ j ih =>
    simp only [lenA, Nat.pow_succ, ← Nat.div_div_eq_div_mul]
    omega
theorem idx_back {n i : Nat} (j : Nat) (h : i < lenA n j) : i * 2 ^ j < n := by
  induction j generalizing i with
  | zero => simpa [lenA] using h
  | succ j ih =>
    simp only [lenA] at h
    have := ih (i := 2 * i) (by omega)
    rw [Nat.pow_succ, Nat.mul_comm (2 ^ j) 2, ← Nat.mul_assoc, Nat.mul_comm i 2]
    exact this

/-- in row j it is the second one of two that are the same -/
def bad (J : Hs → Hs → Hs) (l : List Hs) (m j : Nat) : Bool := decide ((m / 2 ^ j) % 2 = 1) && ((rowA J l j)[m / 2 ^ j]! == (rowA J l j)[m / 2 ^ j - 1]!)

theorem brA_eq (J : Hs → Hs → Hs) (l : List Hs) (m : Nat) : ∀ k, k < nRows l.length → brA J l m k = (List.range k).map fun j => partS (rowA J l j) (m / 2 ^ j) := by
  intro k
  induction k with
  | zero => intro _; rfl
  | succ k ih =>
    intro h
    have h2 := rowA_more J l k h
    simp only [brA, if_pos (show 1 < (rowA J l k).length by omega), ih (by omega), List.range_succ, List.map_append, List.map_cons, List.map_nil]
theorem brS_eq (J : Hs → Hs → Hs) (l : List Hs) (m N : Nat) (h : N + 1 = nRows l.length) : brS J l m = (List.range N).map fun j => partS (rowA J l j) (m / 2 ^ j) := by
  unfold brS
  rw [← h]
  have h1 := rowA_last J l N h
  simp only [brA, h1, if_neg (show ¬ 1 < 1 by omega)]
  exact brA_eq J l m N (by omega)

theorem fold_up (J : Hs → Hs → Hs) (l : List Hs) (m N : Nat) (hm : m < l.length) (hN : N + 1 = nRows l.length) : ∀ d j, j + d = N →
    foldL J (rowA J l j)[m / 2 ^ j]! ((brS J l m).drop j) (m / 2 ^ j) = if (List.range d).any (fun t => bad J l m (j + t)) then (zero32, 15) else (rootS J l, 0) := by
  have hbr := brS_eq J l m N hN
  have hbl : (brS J l m).length = N := by rw [hbr]; simp
  intro d
  induction d with
  | zero =>
    intro j hj
    obtain rfl : j = N := by omega
    rw [foldL_end _ _ _ _ _ (by omega)]
    simp only [List.range_zero, List.any_nil, Bool.false_eq_true, if_false]
    have h1 := rowA_last J l j hN
    have h2 := idx_lt hm j
    rw [← rowA_len J, h1] at h2
    rw [Nat.lt_one_iff.1 h2]
    unfold rootS
    rw [← hN]
    rfl
  | succ d ih =>
    intro j hj
    have hjN : j < N := by omega
    have hr := rowA_more J l j (by omega)
    have hi := idx_lt hm j
    rw [← rowA_len J] at hi
    have hi1 := idx_lt hm (j + 1)
    rw [← rowA_len J] at hi1
    have hup := rowA_get J l j (m / 2 ^ (j + 1)) hi1
    have hx : (brS J l m)[j]! = partS (rowA J l j) (m / 2 ^ j) := by
      rw [hbr, getElem!_pos _ j (by simpa using hjN)]
      simp
    have hdiv : m / 2 ^ (j + 1) = m / 2 ^ j / 2 := by rw [Nat.pow_succ, ← Nat.div_div_eq_div_mul]
    rw [foldL_drop _ _ _ _ _ (by omega), hx, List.range_succ_eq_map, List.any_cons, List.any_map]
    have e0 : (fun t => bad J l m (j + t)) ∘ Nat.succ = fun t => bad J l m (j + 1 + t) := by
      funext t; simp only [Function.comp]; congr 1; omega
    rw [e0, show bad J l m (j + 0) = bad J l m j from rfl]
    generalize hii : m / 2 ^ j = i at *
    by_cases h2 : i % 2 = 0
    · have hb : bad J l m j = false := by unfold bad; rw [hii]; simp [h2]
      rw [if_pos h2, hb, Bool.false_or, ← ih (j + 1) (by omega)]
      rw [hup, hdiv]
      rw [show 2 * (i / 2) = i by omega]
      unfold partS xor1
      rw [if_pos h2]
    · have h3 : i % 2 = 1 := by omega
      rw [if_neg h2]
      have hp : partS (rowA J l j) i = (rowA J l j)[i - 1]! := by
        unfold partS xor1
        rw [if_neg h2, show min (i - 1) ((rowA J l j).length - 1) = i - 1 by omega]
      rw [hp]
      by_cases h4 : (rowA J l j)[i - 1]! = (rowA J l j)[i]!
      · have hb : bad J l m j = true := by unfold bad; rw [hii, h4]; simp [h3]
        rw [if_pos h4, hb, Bool.true_or, if_pos rfl]
      · have hb : bad J l m j = false := by
          unfold bad
          rw [hii]
          have : ((rowA J l j)[i]! == (rowA J l j)[i - 1]!) = false := beq_false_of_ne (fun e => h4 e.symm)
          rw [this, Bool.and_false]
        rw [if_neg h4, hb, Bool.false_or, ← ih (j + 1) (by omega)]
        rw [hup, hdiv, show 2 * (i / 2) = i - 1 by omega, show min (i - 1 + 1) ((rowA J l j).length - 1) = i by omega]

def badAny (J : Hs → Hs → Hs) (l : List Hs) (m : Nat) : Bool := (List.range (nRows l.length - 1)).any fun t => bad J l m t
theorem nRows_lt (n : Nat) : ∀ k, n ≤ 2 ^ k → nRows n ≤ k + 1 := by
  induction n using Nat.strongRecOn with
  | _ n ih =>
    intro k hk
    by_cases h0 : n = 0
    · subst h0; rw [nRows_0]; omega
    · by_cases h1 : n = 1
      · subst h1; rw [nRows_1]; omega
      · rw [nRows_2 (by omega)]
        cases k with
        | zero => simp at hk; omega
        | succ k =>
          have := ih ((n + 1) / 2) (by omega) k (by rw [Nat.pow_succ] at hk; omega)
          omega
theorem brS_len (J : Hs → Hs → Hs) (l : List Hs) (m : Nat) (h : l.length ≤ 256) (h0 : 0 < l.length) : (brS J l m).length ≤ 8 := by
  have hp := nRows_pos (show 1 ≤ l.length by omega)
  rw [brS_eq J l m (nRows l.length - 1) (by omega)]
  have := nRows_lt l.length 8 (by omega)
  simp
  omega
theorem fold_leads (J : Hs → Hs → Hs) (l : List Hs) (m : Nat) (hm : m < l.length) (h : l.length ≤ 256) : foldS J l[m]! (brS J l m) ((m : Nat) : Int) = if badAny J l m then (zero32, 15) else (rootS J l, 0) := by
  have hp := nRows_pos (show 1 ≤ l.length by omega)
  have hbl := brS_len J l m h (by omega)
  have hN : nRows l.length - 1 + 1 = nRows l.length := by omega
  have hbe : (brS J l m).length = nRows l.length - 1 := by rw [brS_eq J l m _ hN]; simp
  have h0 := fold_up J l m (nRows l.length - 1) hm hN (nRows l.length - 1) 0 (by omega)
  simp only [Nat.zero_add, Nat.pow_zero, Nat.div_one, List.drop_zero] at h0
  unfold foldS
  rw [if_neg (by omega)]
  have h1 := idx_lt hm (nRows l.length - 1)
  rw [← rowA_len J, rowA_last J l _ hN] at h1
  rw [if_neg (by
    rintro (hc | hc)
    · omega
    · rw [hbe, Int.toNat_natCast] at hc; omega), Int.toNat_natCast]
  exact h0

/-- not doubled: each is proven -/
def provB (J : Hs → Hs → Hs) (l : List Hs) : Nat → Bool
  | 0 => true
  | m + 1 => provB J l m && !badAny J l m
theorem provB_iff (J : Hs → Hs → Hs) (l : List Hs) (k : Nat) : provB J l k = true ↔ ∀ m, m < k → badAny J l m = false := by
  induction k with
  | zero => simp [provB]
  | succ k ih =>
    simp only [provB, Bool.and_eq_true, ih, Bool.not_eq_true']
    constructor
    · rintro ⟨h1, h2⟩ m hm
      rcases Nat.lt_or_ge m k with h | h
      · exact h1 m h
      · rw [show m = k by omega]; exact h2
    · intro h
      exact ⟨fun m hm => h m (by omega), h k (by omega)⟩
theorem prov_dbl (J : Hs → Hs → Hs) (l : List Hs) : (provB J l l.length != dblS J l) = true := by
  have key : provB J l l.length = !dblS J l := by
    rw [Bool.eq_iff_iff, provB_iff, Bool.not_eq_true']
    constructor
    · intro h
      refine dblS_false fun j hj => rowDbl_false fun t ht => ?_
      have hlen := rowA_len J l j
      have hjN : j < nRows l.length - 1 := by
        apply Nat.lt_of_not_le
        intro hc
        have := rowA_last J l j (by omega)
        omega
      have hi : 2 * t + 1 < lenA l.length j := by omega
      have hb := h ((2 * t + 1) * 2 ^ j) (idx_back j hi)
      unfold badAny at hb
      rw [List.any_eq_false] at hb
      have := hb j (List.mem_range.2 hjN)
      unfold bad at this
      rw [Nat.mul_div_cancel _ (Nat.two_pow_pos j)] at this
      simp only [show (2 * t + 1) % 2 = 1 by omega, decide_true, Bool.true_and, show 2 * t + 1 - 1 = 2 * t by omega, Bool.not_eq_true] at this
      exact this
    · intro h m hm
      unfold badAny
      rw [List.any_eq_false]
      intro j hj hbad
      have hjN := List.mem_range.1 hj
      unfold bad at hbad
      rw [Bool.and_eq_true, decide_eq_true_eq] at hbad
      have hi := idx_lt hm j
      rw [← rowA_len J] at hi
      have := dblS_true (J := J) (l := l) (k := j) (by omega) (rowDbl_true hbad.1 hi hbad.2)
      rw [this] at h
      cases h
  rw [key]
  cases dblS J l <;> rfl

/-! ### the document's answer -/
theorem fold_eq1 (id : Hs) (br : List Hs) (k : Int) : ((foldS joinS id br k).1 == (foldS joinR id br k).1) = true := by rw [join_r]; exact beq_self_eq_true _
theorem fold_eq2 (id : Hs) (br : List Hs) (k : Int) : (foldS joinS id br k).2 = (foldS joinR id br k).2 := by rw [join_r]
theorem leaf_eq1 (b : Hs) : ((leafS twiceS b).1 == (leafS twiceR b).1) = true := by rw [show twiceS = twiceR from funext twice_r]; exact beq_self_eq_true _
theorem leaf_eq2 (b : Hs) : (leafS twiceS b).2 = (leafS twiceR b).2 := by rw [show twiceS = twiceR from funext twice_r]

/-! ### the document's example -/
def hv (n : UInt8) : Hs := n :: List.replicate 31 0
def abc : List Hs := [hv 1, hv 2, hv 3]
def wbr : List Hs := [hv 3, joinS (hv 1) (hv 2)]
theorem hv_len (n : UInt8) : (hv n).length = 32 := rfl
theorem abc_all : allH abc := by
  intro h hh
  simp only [abc, List.mem_cons, List.not_mem_nil, or_false] at hh
  rcases hh with rfl | rfl | rfl <;> rfl
theorem wbr_all : allH wbr := by
  intro h hh
  simp only [wbr, List.mem_cons, List.not_mem_nil, or_false] at hh
  rcases hh with rfl | rfl
  · rfl
  · exact joinS_len _ _
theorem nRows_3 : nRows 3 = 3 := by rw [nRows_2 (by decide), nRows_2 (by decide), nRows_1]
theorem nRows_2' : nRows 2 = 2 := by rw [nRows_2 (by decide), nRows_1]
theorem abc_r1 (J : Hs → Hs → Hs) : rowA J abc 1 = [J (hv 1) (hv 2), J (hv 3) (hv 3)] := by simp [rowA, upR, upI, abc]
theorem abc_r2 (J : Hs → Hs → Hs) : rowA J abc 2 = [J (J (hv 1) (hv 2)) (J (hv 3) (hv 3))] := by rw [rowA, abc_r1]; simp [upR, upI]
theorem wk_brJ (J : Hs → Hs → Hs) : brS J abc 2 = [hv 3, J (hv 1) (hv 2)] := by
  unfold brS
  rw [show abc.length = 3 from rfl, nRows_3]
  simp only [brA, abc_r1, abc_r2, show rowA J abc 0 = [hv 1, hv 2, hv 3] from rfl]
  simp [partS, xor1]
theorem wk_br : brS joinS abc 2 = wbr := wk_brJ joinS
theorem wk_rootJ (J : Hs → Hs → Hs) : rootS J abc = J (J (hv 1) (hv 2)) (J (hv 3) (hv 3)) := by
  unfold rootS
  rw [show abc.length = 3 from rfl, nRows_3]
  simp [rootA, abc_r2]
theorem wk_root : rootS joinS abc = joinS (joinS (hv 1) (hv 2)) (joinS (hv 3) (hv 3)) := wk_rootJ joinS
theorem wk_ne0 : (twiceR (hv 1 ++ hv 2))[0]! ≠ (twiceR (hv 3 ++ hv 3))[0]! := by decide +kernel
theorem wk_ne : joinS (hv 1) (hv 2) ≠ joinS (hv 3) (hv 3) := by
  intro h
  rw [join_r] at h
  exact wk_ne0 (congrArg (fun l : Hs => l[0]!) h)
theorem wk_f2 (J : Hs → Hs → Hs) (c x : Hs) (h : x ≠ J c c) : foldS J c [c, x] 2 = (J x (J c c), 0) := by
  simp [foldS, foldL, h]
theorem wk_f3 (J : Hs → Hs → Hs) (c x : Hs) : foldS J c [c, x] 3 = (zero32, 15) := by
  simp [foldS, foldL]
theorem wk_f4 (J : Hs → Hs → Hs) (c x : Hs) : foldS J c [c, x] 4 = (zero32, 1) := by
  simp [foldS, foldL]
theorem wk_fold2 : foldS joinS (hv 3) wbr 2 = (joinS (joinS (hv 1) (hv 2)) (joinS (hv 3) (hv 3)), 0) := wk_f2 joinS (hv 3) (joinS (hv 1) (hv 2)) wk_ne
theorem wk_fold3 : foldS joinS (hv 3) wbr 3 = (zero32, 15) := wk_f3 joinS (hv 3) (joinS (hv 1) (hv 2))
theorem wk_fold4 : foldS joinS (hv 3) wbr 4 = (zero32, 1) := wk_f4 joinS (hv 3) (joinS (hv 1) (hv 2))
theorem wk_e2 : (foldS joinS (hv 3) wbr 2).2 = ((0 : Nat) : Int) := by rw [wk_fold2]; rfl
theorem wk_e3 : (foldS joinS (hv 3) wbr 3).2 = ((15 : Nat) : Int) := by rw [wk_fold3]; rfl
theorem wk_e4 : (foldS joinS (hv 3) wbr 4).2 = ((1 : Nat) : Int) := by rw [wk_fold4]; rfl
theorem wk_e5 : (leafS twiceS (List.replicate 64 0)).2 = ((15 : Nat) : Int) := by unfold leafS; rw [if_pos (by decide)]; rfl
theorem wk_m1 : ((foldS joinS (hv 3) wbr 2).1 == rootS joinS abc) = true := by rw [wk_fold2, wk_root]; exact beq_self_eq_true _
theorem wk_m2 : (rootS joinS abc == joinS (joinS (hv 1) (hv 2)) (joinS (hv 3) (hv 3))) = true := by rw [wk_root]; exact beq_self_eq_true _
theorem wk_r1 : (rootS joinS [hv 1] == hv 1) = true := by
  unfold rootS
  rw [show [hv 1].length = 1 from rfl, nRows_1]
  exact beq_self_eq_true _
theorem wk_j : (joinS (hv 1) (hv 2) == joinR (hv 1) (hv 2)) = true := by rw [join_r]; exact beq_self_eq_true _
theorem wk_d1J (J : Hs → Hs → Hs) (h : J (hv 1) (hv 2) ≠ J (hv 3) (hv 3)) : dblS J abc = false := by
  have h1 : rowDbl (rowA J abc 0) = false := by show rowDbl abc = false; decide
  have h2 : rowDbl (rowA J abc 1) = false := by
    refine rowDbl_false fun j hj => ?_
    have : (rowA J abc 1).length = 2 := by rw [abc_r1]; rfl
    obtain rfl : j = 0 := by omega
    rw [abc_r1]
    show (J (hv 3) (hv 3) == J (hv 1) (hv 2)) = false
    exact beq_false_of_ne (fun e => h e.symm)
  have h3 : rowDbl (rowA J abc 2) = false := by
    refine rowDbl_false fun j hj => ?_
    have : (rowA J abc 2).length = 1 := by rw [abc_r2]; rfl
    omega
  refine dblS_false fun j hj => ?_
  rw [show abc.length = 3 from rfl, nRows_3] at hj
  have : j = 0 ∨ j = 1 ∨ j = 2 := by omega
  rcases this with rfl | rfl | rfl <;> assumption
theorem wk_d1 : dblS joinS abc = false := wk_d1J joinS wk_ne
theorem wk_d2 : dblS joinS [hv 1, hv 1] = true := by
  refine dblS_true (k := 0) ?_ ?_
  · rw [show [hv 1, hv 1].length = 2 from rfl, nRows_2']; decide
  · decide
end Go.Sx
