/-
  The plain law of trees of hashes: how long branches may be, which numbers go with them.
-/
import Derived.Test.YtlpacmknoknpoaaDoorMkLaw2
set_option linter.unusedVariables false
set_option linter.unusedSimpArgs false
set_option linter.unnecessarySimpa false
namespace Go.Sx

/-- n hashes, i of them p -/
def farL (p : Hs) (n i : Nat) : List Hs := List.replicate i p ++ List.replicate (n - i) zero32
theorem farL_len (p : Hs) (n i : Nat) (h : i ≤ n) : (farL p n i).length = n := by simp [farL]; omega
theorem farL_0 (p : Hs) (n : Nat) : farL p n 0 = List.replicate n zero32 := by simp [farL]
theorem farL_n (p : Hs) (n : Nat) : farL p n n = List.replicate n p := by simp [farL]
theorem farL_set (p : Hs) (n i : Nat) (h : i < n) : (farL p n i).set i p = farL p n (i + 1) := by
  unfold farL
  obtain ⟨m, hm⟩ : ∃ m, n - i = m + 1 := ⟨n - i - 1, by omega⟩
  rw [hm, show n - (i + 1) = m by omega, List.set_append, if_neg (by simp), List.length_replicate, Nat.sub_self, List.replicate_succ, List.set_cons_zero, List.replicate_succ']
  simp
theorem farL_all (p : Hs) (n : Nat) (hp : p.length = 32) : allH (farL p n n) := by
  rw [farL_n]
  intro h hh
  rw [(List.mem_replicate.1 hh).2]
  exact hp

theorem foldL_0 (J : Hs → Hs → Hs) (l : List Hs) : ∀ h, (foldL J h l 0).2 = 0 := by
  induction l with
  | nil => intro h; rfl
  | cons x r ih => intro h; simp only [foldL, Nat.zero_mod, if_true, Nat.zero_div]; exact ih _
theorem foldL_or (J : Hs → Hs → Hs) (l : List Hs) : ∀ h k, (foldL J h l k).2 = 0 ∨ (foldL J h l k).2 = 15 := by
  induction l with
  | nil => intro h k; exact .inl rfl
  | cons x r ih =>
    intro h k
    simp only [foldL]
    split
    · exact ih _ _
    · split
      · exact .inr rfl
      · exact ih _ _
theorem far_many (J : Hs → Hs → Hs) (h p : Hs) (n : Nat) (hn : 32 < n) : (foldS J h (farL p n n) ((0 : Nat) : Int)).2 = ((6 : Nat) : Int) := by
  unfold foldS
  rw [farL_len p n n (Nat.le_refl _), if_pos hn]
  rfl
theorem far_ok (J : Hs → Hs → Hs) (h p : Hs) (n : Nat) (hn : ¬ 32 < n) : (foldS J h (farL p n n) ((0 : Nat) : Int)).2 = ((0 : Nat) : Int) := by
  unfold foldS
  rw [farL_len p n n (Nat.le_refl _), if_neg hn, if_neg (by
    rintro (hc | hc)
    · omega
    · rw [Int.toNat_natCast, Nat.zero_div] at hc; omega)]
  exact foldL_0 J _ h
theorem far_arg (J : Hs → Hs → Hs) (h p : Hs) (n : Nat) (far : Int) (hn : ¬ 32 < n) : ((foldS J h (farL p n n) (((2 ^ n : Nat) : Int) + far)).2 = ((1 : Nat) : Int)) ↔ (0 ≤ far ∨ ((2 ^ n : Nat) : Int) + far < 0) := by
  unfold foldS
  rw [farL_len p n n (Nat.le_refl _), if_neg hn]
  have hpos := Nat.two_pow_pos n
  constructor
  · intro hh
    by_cases hc : ((2 ^ n : Nat) : Int) + far < 0 ∨ 0 < (((2 ^ n : Nat) : Int) + far).toNat / 2 ^ n
    · rcases hc with hc | hc
      · exact .inr hc
      · left
        apply Int.le_of_not_gt
        intro hf
        rw [Nat.div_eq_of_lt (by omega)] at hc
        omega
    · rw [if_neg hc] at hh
      rcases foldL_or J (farL p n n) h (((2 ^ n : Nat) : Int) + far).toNat with h1 | h1 <;> rw [h1] at hh <;> cases hh
  · intro hh
    rw [if_pos]
    · rfl
    · rcases hh with hh | hh
      · right
        exact Nat.div_pos (by omega) hpos
      · exact .inl hh
end Go.Sx
