/-
  The plain law of trees of hashes: rows, roots, branches.
-/
import Derived.Test.YtlpacmknoknpoaaDoorSxRange4
import Derived.Test.YtlpacmknoknpoaaDoorShaLaw2
set_option linter.unusedVariables false
set_option linter.unusedSimpArgs false
set_option linter.unnecessarySimpa false
namespace Go.Sx
abbrev Hs := List UInt8

def joinS (a b : Hs) : Hs := twiceS (a ++ b)
def joinR (a b : Hs) : Hs := twiceR (a ++ b)
theorem join_r : joinS = joinR := by funext a b; exact twice_r _
theorem twiceS_len (b : Hs) : (twiceS b).length = 32 := by unfold twiceS; exact sumS_len _
theorem twiceR_len (b : Hs) : (twiceR b).length = 32 := by unfold twiceR; exact sumR_len _
theorem joinS_len (a b : Hs) : (joinS a b).length = 32 := twiceS_len _
theorem joinR_len (a b : Hs) : (joinR a b).length = 32 := twiceR_len _

/-! ### copies -/
theorem both1 (a : Hs) (ha : a.length = 32) : ((List.replicate 64 (0 : UInt8)).map D.u8).take 0 ++ (((a.map D.u8).drop 0).take 32).take 32 ++ ((List.replicate 64 (0 : UInt8)).map D.u8).drop (0 + 32) = (a ++ List.replicate 32 0).map D.u8 := by
  have h1 : ((a.map D.u8).take 32) = a.map D.u8 := List.take_of_length_le (by simp [ha])
  simp only [List.drop_zero, List.take_take, Nat.min_self, h1, List.take_zero, List.nil_append, List.map_append]
  rfl
theorem both2 (a b : Hs) (ha : a.length = 32) (hb : b.length = 32) : ((a ++ List.replicate 32 (0 : UInt8)).map D.u8).take 32 ++ (((b.map D.u8).drop 0).take 32).take 32 ++ ((a ++ List.replicate 32 (0 : UInt8)).map D.u8).drop (32 + 32) = (a ++ b).map D.u8 := by
  have h1 : ((b.map D.u8).take 32) = b.map D.u8 := List.take_of_length_le (by simp [hb])
  have h2 : ((a ++ List.replicate 32 (0 : UInt8)).map D.u8).take 32 = a.map D.u8 := by rw [List.map_append, List.take_append_of_le_length (by simp [ha]), List.take_of_length_le (by simp [ha])]
  have h3 : ((a ++ List.replicate 32 (0 : UInt8)).map D.u8).drop (32 + 32) = [] := List.drop_eq_nil_of_le (by simp [ha])
  rw [h2, h3]
  simp only [List.drop_zero, List.take_take, Nat.min_self, h1, List.map_append, List.append_nil]
theorem part32 (a : Hs) (ha : a.length = 32) : ((a.map D.u8).drop 0).take 32 = a.map D.u8 := by rw [List.drop_zero, List.take_of_length_le (by simp [ha])]

/-! ### rows -/
def upI (J : Hs → Hs → Hs) (l : List Hs) : Nat → List Hs
  | 0 => []
  | i + 1 => upI J l i ++ [J l[2 * i]! l[min (2 * i + 1) (l.length - 1)]!]
def upR (J : Hs → Hs → Hs) (l : List Hs) : List Hs := upI J l ((l.length + 1) / 2)
def rowA (J : Hs → Hs → Hs) (l : List Hs) : Nat → List Hs
  | 0 => l
  | k + 1 => upR J (rowA J l k)
def nRows (n : Nat) : Nat := if n = 0 then 0 else if n = 1 then 1 else nRows ((n + 1) / 2) + 1
termination_by n
def lenA (n : Nat) : Nat → Nat
  | 0 => n
  | k + 1 => (lenA n k + 1) / 2
theorem upI_len (J : Hs → Hs → Hs) (l : List Hs) (i : Nat) : (upI J l i).length = i := by
  induction i with
  | zero => rfl
  | succ i ih => simp [upI, ih]
theorem upR_len (J : Hs → Hs → Hs) (l : List Hs) : (upR J l).length = (l.length + 1) / 2 := upI_len _ _ _
theorem rowA_len (J : Hs → Hs → Hs) (l : List Hs) (k : Nat) : (rowA J l k).length = lenA l.length k := by
  induction k with
  | zero => rfl
  | succ k ih => simp only [rowA, lenA, upR_len, ih]
theorem lenA_le (n k : Nat) : lenA n k ≤ n := by
  induction k with
  | zero => exact Nat.le_refl _
  | succ k ih => simp only [lenA]; omega
theorem nRows_0 : nRows 0 = 0 := by unfold nRows; rfl
theorem nRows_1 : nRows 1 = 1 := by unfold nRows; rfl
theorem nRows_2 {n : Nat} (h : 2 ≤ n) : nRows n = nRows ((n + 1) / 2) + 1 := by
  rw [nRows]
  simp [show n ≠ 0 by omega, show n ≠ 1 by omega]
theorem nRows_pos {n : Nat} (h : 1 ≤ n) : 1 ≤ nRows n := by
  by_cases h1 : n = 1
  · subst h1; rw [nRows_1]; exact Nat.le_refl _
  · rw [nRows_2 (by omega)]; omega
/-- so many rows are still to come -/
theorem nRows_left (n k : Nat) (h : k < nRows n) : k + nRows (lenA n k) = nRows n := by
  induction k with
  | zero => simp [lenA]
  | succ k ih =>
    have h0 := ih (by omega)
    have h2 : 2 ≤ lenA n k := by
      apply Nat.le_of_not_lt
      intro hc
      rcases Nat.lt_or_ge (lenA n k) 1 with h3 | h3
      · rw [show lenA n k = 0 by omega, nRows_0] at h0; omega
      · rw [show lenA n k = 1 by omega, nRows_1] at h0; omega
    rw [nRows_2 h2] at h0
    simp only [lenA]
    omega
theorem rowA_pos (J : Hs → Hs → Hs) (l : List Hs) (k : Nat) (h : k < nRows l.length) : 1 ≤ (rowA J l k).length := by
  have h0 := nRows_left _ _ h
  rw [rowA_len]
  apply Nat.le_of_not_lt
  intro hc
  rw [show lenA l.length k = 0 by omega, nRows_0] at h0
  omega
theorem rowA_more (J : Hs → Hs → Hs) (l : List Hs) (k : Nat) (h : k + 1 < nRows l.length) : 2 ≤ (rowA J l k).length := by
  have h0 := nRows_left _ _ (show k < nRows l.length by omega)
  have h1 := rowA_pos J l k (by omega)
  rw [rowA_len] at h1 ⊢
  apply Nat.le_of_not_lt
  intro hc
  rw [show lenA l.length k = 1 by omega, nRows_1] at h0
  omega
theorem rowA_last (J : Hs → Hs → Hs) (l : List Hs) (k : Nat) (h : k + 1 = nRows l.length) : (rowA J l k).length = 1 := by
  have h0 := nRows_left _ _ (show k < nRows l.length by omega)
  have h1 := rowA_pos J l k (by omega)
  rw [rowA_len] at h1 ⊢
  by_cases h2 : lenA l.length k = 1
  · exact h2
  · have := nRows_pos (show 1 ≤ (lenA l.length k + 1) / 2 by omega)
    rw [nRows_2 (show 2 ≤ lenA l.length k by omega)] at h0
    omega
theorem nRows_le (n : Nat) : nRows n ≤ n := by
  induction n using Nat.strongRecOn with
  | _ n ih =>
    by_cases h0 : n = 0
    · subst h0; rw [nRows_0]; exact Nat.le_refl _
    · by_cases h1 : n = 1
      · subst h1; rw [nRows_1]; exact Nat.le_refl _
      · rw [nRows_2 (by omega)]; have := ih ((n + 1) / 2) (by omega); omega

/-- all of them are hashes -/
def allH (l : List Hs) : Prop := ∀ h ∈ l, h.length = 32
theorem allH.get {l : List Hs} (h : allH l) {i : Nat} (hi : i < l.length) : l[i]!.length = 32 := by
  rw [getElem!_pos l i hi]; exact h _ (List.getElem_mem hi)
theorem upI_all {J : Hs → Hs → Hs} (hJ : ∀ a b, (J a b).length = 32) (l : List Hs) (i : Nat) : allH (upI J l i) := by
  induction i with
  | zero => intro h hh; cases hh
  | succ i ih =>
    intro h hh
    rcases List.mem_append.1 hh with h1 | h1
    · exact ih h h1
    · rw [List.mem_singleton.1 h1]; exact hJ _ _
theorem rowA_all {J : Hs → Hs → Hs} (hJ : ∀ a b, (J a b).length = 32) {l : List Hs} (h : allH l) (k : Nat) : allH (rowA J l k) := by
  cases k with
  | zero => exact h
  | succ k => exact upI_all hJ _ _
theorem brw_hash (h : Hs) : (hashD h).brw = hashD h := by
  unfold hashD
  simp only [D.brw, brws_eq]
  rw [brw_map (fun _ => rfl)]
theorem brw_hs (o : Option Nat) (z : Nat) (l : List Hs) : (D.sl o z (l.map hashD)).brw = .sl none z (l.map hashD) := by
  simp only [D.brw, brws_eq]
  rw [brw_map brw_hash]
theorem frs_hash' (h : Hs) : Frs (hashD h) := .arr _ _ _ (frs_map fun _ => .u8 _)
theorem frs_hs (e z : Nat) (l : List Hs) : Frs (.sl (some e) z (l.map hashD)) := .sl _ _ _ (frs_map frs_hash')

/-! ### folding -/
def zero32 : Hs := List.replicate 32 0
def foldL (J : Hs → Hs → Hs) : Hs → List Hs → Nat → Hs × Int
  | h, [], _ => (h, 0)
  | h, x :: r, k => if k % 2 = 0 then foldL J (J h x) r (k / 2) else if x = h then (zero32, 15) else foldL J (J x h) r (k / 2)
def foldS (J : Hs → Hs → Hs) (id : Hs) (br : List Hs) (k : Int) : Hs × Int :=
  if 32 < br.length then (zero32, 6) else if k < 0 ∨ 0 < k.toNat / 2 ^ br.length then (zero32, 1) else foldL J id br k.toNat
theorem foldL_drop (J : Hs → Hs → Hs) (h : Hs) (br : List Hs) (j k : Nat) (hj : j < br.length) :
    foldL J h (br.drop j) k = if k % 2 = 0 then foldL J (J h br[j]!) (br.drop (j + 1)) (k / 2) else if br[j]! = h then (zero32, 15) else foldL J (J br[j]! h) (br.drop (j + 1)) (k / 2) := by
  rw [List.drop_eq_getElem_cons hj, foldL, getElem!_pos br j hj]
theorem foldL_end (J : Hs → Hs → Hs) (h : Hs) (br : List Hs) (j k : Nat) (hj : br.length ≤ j) : foldL J h (br.drop j) k = (h, 0) := by
  rw [List.drop_eq_nil_of_le hj, foldL]
theorem foldL_len {J : Hs → Hs → Hs} (hJ : ∀ a b, (J a b).length = 32) (br : List Hs) : ∀ (h : Hs) (k : Nat), h.length = 32 → (foldL J h br k).1.length = 32 := by
  induction br with
  | nil => intro h k hh; exact hh
  | cons x r ih =>
    intro h k hh
    simp only [foldL]
    split
    · exact ih _ _ (hJ _ _)
    · split
      · simp [zero32]
      · exact ih _ _ (hJ _ _)
theorem fdiv_pow (k : Int) (n : Nat) (h : 0 ≤ k) (hn : n ≤ 64) : k.fdiv (2 ^ min (n : Int).toNat 64) = ((k.toNat / 2 ^ n : Nat) : Int) := by
  have e : min (n : Int).toNat 64 = n := by omega
  rw [e]
  obtain ⟨m, rfl⟩ := Int.eq_ofNat_of_zero_le h
  rw [Int.fdiv_eq_ediv_of_nonneg _ (by exact_mod_cast Nat.zero_le _)]
  norm_cast
theorem u64_nat (n : Nat) : D.u64 (UInt64.ofInt ((n : Nat) : Int)) = D.u64 (UInt64.ofNat n) := by
  congr 1
  unfold UInt64.ofInt
  apply UInt64.toNat_inj.1
  rw [UInt64.toNat_ofNat', UInt64.toNat_ofNat']
  omega
theorem fdiv_pow64 (k : Int) (n : Nat) (h : 0 ≤ k) (hn : n ≤ 64) : k.fdiv (2 ^ min (((UInt64.ofNat n).toNat : Nat) : Int).toNat 64) = ((k.toNat / 2 ^ n : Nat) : Int) := by
  have e : (UInt64.ofNat n).toNat = n := by
    rw [UInt64.toNat_ofNat']
    exact Nat.mod_eq_of_lt (by omega)
  rw [e]
  exact fdiv_pow k n h hn
theorem beq_sw {a b : Hs} {c : Bool} (h : (a == b) = c) : (b == a) = c := by rw [← h, Bool.eq_iff_iff, beq_iff_eq, beq_iff_eq]; exact eq_comm
def leafS (T : Hs → Hs) (b : Hs) : Hs × Int := if b.length = 64 then (zero32, 15) else (T b, 0)

/-! ### what is seen of rows -/
def rootA (J : Hs → Hs → Hs) (l : List Hs) : Nat → Hs
  | 0 => zero32
  | k + 1 => (rowA J l k)[0]!
def rootS (J : Hs → Hs → Hs) (l : List Hs) : Hs := rootA J l (nRows l.length)
def rowDbl (l : List Hs) : Bool := (List.range (l.length / 2)).any fun i => l[2 * i + 1]! == l[2 * i]!
def dblS (J : Hs → Hs → Hs) (l : List Hs) : Bool := (List.range (nRows l.length)).any fun k => rowDbl (rowA J l k)
def xor1 (k : Nat) : Nat := if k % 2 = 0 then k + 1 else k - 1
def partS (l : List Hs) (k : Nat) : Hs := l[min (xor1 k) (l.length - 1)]!
def brA (J : Hs → Hs → Hs) (l : List Hs) (k : Nat) : Nat → List Hs
  | 0 => []
  | j + 1 => if 1 < (rowA J l j).length then brA J l k j ++ [partS (rowA J l j) (k / 2 ^ j)] else brA J l k j
def brS (J : Hs → Hs → Hs) (l : List Hs) (k : Nat) : List Hs := brA J l k (nRows l.length)

theorem xor1_nat (k : Nat) : k ^^^ 1 = xor1 k := by
  unfold xor1
  apply Nat.eq_of_testBit_eq
  intro i
  split
  · rename_i h
    have hk : k = 2 * (k / 2) := by omega
    generalize k / 2 = m at hk
    subst hk
    rw [Nat.testBit_xor]
    cases i with
    | zero => simp [Nat.testBit_zero]
    | succ i => simp [Nat.testBit_succ, show (2 * m + 1) / 2 = m by omega]
  · rename_i h
    have hk : k = 2 * (k / 2) + 1 := by omega
    generalize k / 2 = m at hk
    subst hk
    rw [Nat.testBit_xor]
    cases i with
    | zero => simp [Nat.testBit_zero]
    | succ i => simp [Nat.testBit_succ, show (2 * m + 1) / 2 = m by omega]
theorem bits_xor1 (k : Nat) (h : k < 1000000) : D.int (bitsI .xor (k : Int) 1) = D.int ((xor1 k : Nat) : Int) := by
  have hx : xor1 k ≤ k + 1 := by unfold xor1; split <;> omega
  have e : (BitVec.ofInt 64 (k : Int) ^^^ BitVec.ofInt 64 1).toNat = xor1 k := by
    rw [BitVec.toNat_xor]
    have e1 : (BitVec.ofInt 64 (k : Int)).toNat = k := by
      rw [BitVec.ofInt_natCast, BitVec.toNat_ofNat, Nat.mod_eq_of_lt (by omega)]
    have e2 : (BitVec.ofInt 64 1).toNat = 1 := by decide
    rw [e1, e2, xor1_nat]
  show D.int (wr ((BitVec.ofInt 64 (k : Int) ^^^ BitVec.ofInt 64 1).toNat : Int)) = _
  rw [e]
  exact wr_eq rfl (by omega) (by omega)
theorem xor1_le (k : Nat) : xor1 k ≤ k + 1 := by unfold xor1; split <;> omega

theorem rowDbl_true {l : List Hs} {i : Nat} (ho : i % 2 = 1) (hi : i < l.length) (h : (l[i]! == l[i - 1]!) = true) : rowDbl l = true := by
  unfold rowDbl
  rw [List.any_eq_true]
  refine ⟨i / 2, List.mem_range.2 (by omega), ?_⟩
  rw [show 2 * (i / 2) + 1 = i by omega, show 2 * (i / 2) = i - 1 by omega]
  exact h
theorem rowDbl_false {l : List Hs} (h : ∀ j, 2 * j + 1 < l.length → (l[2 * j + 1]! == l[2 * j]!) = false) : rowDbl l = false := by
  unfold rowDbl
  rw [List.any_eq_false]
  intro j hj
  have := List.mem_range.1 hj
  rw [h j (by omega)]
  simp
theorem dblS_true {J : Hs → Hs → Hs} {l : List Hs} {k : Nat} (hk : k < nRows l.length) (h : rowDbl (rowA J l k) = true) : dblS J l = true := by
  unfold dblS
  rw [List.any_eq_true]
  exact ⟨k, List.mem_range.2 hk, h⟩
theorem dblS_false {J : Hs → Hs → Hs} {l : List Hs} (h : ∀ j, j < nRows l.length → rowDbl (rowA J l j) = false) : dblS J l = false := by
  unfold dblS
  rw [List.any_eq_false]
  intro j hj
  rw [h j (List.mem_range.1 hj)]
  simp
theorem brA_len {J : Hs → Hs → Hs} {l : List Hs} {m : Nat} (k : Nat) : (brA J l m k).length ≤ k := by
  induction k with
  | zero => exact Nat.le_refl _
  | succ k ih =>
    simp only [brA]
    split
    · rw [List.length_append, List.length_singleton]; omega
    · omega
theorem brA_all {J : Hs → Hs → Hs} (hJ : ∀ a b, (J a b).length = 32) {l : List Hs} (h : allH l) {m : Nat} (k : Nat) : allH (brA J l m k) := by
  induction k with
  | zero => intro x hx; cases hx
  | succ k ih =>
    simp only [brA]
    split
    · rename_i hlt
      intro x hx
      rcases List.mem_append.1 hx with h1 | h1
      · exact ih x h1
      · rw [List.mem_singleton.1 h1]
        exact (rowA_all hJ h k).get (by omega)
    · exact ih
end Go.Sx
