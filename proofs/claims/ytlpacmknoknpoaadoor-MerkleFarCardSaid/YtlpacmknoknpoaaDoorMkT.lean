/-
  Lists of hashes: what a fold of each one with its branch gives, as the statements use it.
-/
import Derived.Test.YtlpacmknoknpoaaDoorMk8
import Derived.Test.YtlpacmknoknpoaaDoorMkLaw3
set_option linter.unusedVariables false
set_option linter.unusedSimpArgs false
set_option linter.unnecessarySimpa false
namespace Go.Sx
open Go.Proofs
theorem bfalse {b : Bool} (h : ¬ b = true) : b = false := by simpa using h
theorem foldT (l : List Hs) (k : Nat) (hl : allH l) (hk : k < l.length) (h0 : l.length ≤ 200) (hb : badAny joinS l k = true) : Fn Tryd.prog gl 7 [hashD l[k]!, .sl none 32 ((brS joinS l k).map hashD), .int ((k : Nat) : Int)] (.tup [hashD zero32, .int ((15 : Nat) : Int)]) := by
  have hbl := brS_len joinS l k (by omega) (by omega)
  have h := fold_ok l[k]! (brS joinS l k) ((k : Nat) : Int) (hl.get hk) (brA_all joinS_len hl _) (by omega) (by omega)
  rw [fold_leads joinS l k hk (by omega), if_pos hb] at h
  exact h
theorem foldF (l : List Hs) (k : Nat) (hl : allH l) (hk : k < l.length) (h0 : l.length ≤ 200) (hb : ¬ badAny joinS l k = true) : Fn Tryd.prog gl 7 [hashD l[k]!, .sl none 32 ((brS joinS l k).map hashD), .int ((k : Nat) : Int)] (.tup [hashD (rootS joinS l), .int ((0 : Nat) : Int)]) := by
  have hbl := brS_len joinS l k (by omega) (by omega)
  have h := fold_ok l[k]! (brS joinS l k) ((k : Nat) : Int) (hl.get hk) (brA_all joinS_len hl _) (by omega) (by omega)
  rw [fold_leads joinS l k hk (by omega), if_neg hb] at h
  exact h
theorem shl1 (n : Nat) (h : n ≤ 62) : D.int (wr (1 * 2 ^ min (((UInt64.ofNat n).toNat : Nat) : Int).toNat 64)) = D.int ((2 ^ n : Nat) : Int) := by
  have e : (UInt64.ofNat n).toNat = n := by
    rw [UInt64.toNat_ofNat']
    exact Nat.mod_eq_of_lt (by omega)
  have h2 : 2 ^ n ≤ 2 ^ 62 := Nat.pow_le_pow_right (by decide) h
  rw [e, show min ((n : Nat) : Int).toNat 64 = n by omega]
  have h3 : (1 : Int) * 2 ^ n = ((2 ^ n : Nat) : Int) := by rw [Int.one_mul]; norm_cast
  rw [h3]
  generalize 2 ^ n = m at h2 ⊢
  exact wr_eq rfl (by omega) (by omega)
theorem far_T (J : Hs → Hs → Hs) (h p : Hs) (n : Nat) (far : Int) (hn : ¬ 32 < n) (hf : 0 ≤ far) : (((foldS J h (farL p n n) (((2 ^ n : Nat) : Int) + far)).2 == ((1 : Nat) : Int)) == true) = true := by
  rw [beq_iff_eq, beq_iff_eq]
  exact (far_arg J h p n far hn).2 (.inl hf)
theorem far_F (J : Hs → Hs → Hs) (h p : Hs) (n : Nat) (far : Int) (hn : ¬ 32 < n) (hf : ¬ 0 ≤ far) : (((foldS J h (farL p n n) (((2 ^ n : Nat) : Int) + far)).2 == ((1 : Nat) : Int)) == decide (((2 ^ n : Nat) : Int) + far < ((0 : Nat) : Int))) = true := by
  rw [beq_iff_eq, Bool.eq_iff_iff, beq_iff_eq, decide_eq_true_eq, far_arg J h p n far hn]
  constructor
  · rintro (h | h)
    · exact absurd h hf
    · exact h
  · intro h; exact .inr h
end Go.Sx
