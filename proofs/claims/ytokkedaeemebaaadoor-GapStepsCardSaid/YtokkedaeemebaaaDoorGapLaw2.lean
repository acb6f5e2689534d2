/-
  The plain law of the statements on gaps, as they are said.
-/
import Derived.Test.YtokkedaeemebaaaDoorGapLaw
set_option linter.unusedVariables false
set_option linter.unusedSimpArgs false
set_option linter.unnecessarySimpa false
namespace Go.Sx
theorem bfalse {b : Bool} (h : ¬ b = true) : b = false := by simpa using h
theorem gapN_nat {g : Nat} (h1 : 1 ≤ g) (h2 : g ≤ 200) : gapN (g : Int) = g := by unfold gapN; omega
theorem watch_nat (used : List Int) {g : Nat} (h1 : 1 ≤ g) (h2 : g ≤ 200) : IsW used g (watchS used (g : Int)) := by
  have := watch_is used (g : Int)
  rwa [gapN_nat h1 h2] at this
theorem watch_of {used : List Int} {g n : Nat} (h1 : 1 ≤ g) (h2 : g ≤ 200) (h : IsW used g n) : watchS used (g : Int) = n := (watch_nat used h1 h2).uniq h
theorem gw1 : watchS [] ((5 : Nat) : Int) = 5 := by decide +kernel
theorem gw2 : watchS [((0 : Nat) : Int)] ((5 : Nat) : Int) = 6 := by decide +kernel
theorem gw3 : watchS [((4 : Nat) : Int), ((0 : Nat) : Int)] ((5 : Nat) : Int) = 10 := by decide +kernel
theorem gw4 : watchS [((7 : Nat) : Int)] ((5 : Nat) : Int) = 5 := by decide +kernel
theorem gw5 : ((scriptS [1] ((2 : Nat) : Int))[1]! == 20) = true := rfl
theorem ne_same {α : Type} [BEq α] [ReflBEq α] (a : α) : (a != a) = false := by simp [bne]
theorem script_ne (seed : List UInt8) (i : Int) : (scriptS seed i != scriptR seed i) = false := by rw [script_eq]; simp
theorem hash_ne (seed : List UInt8) (i : Int) : (sumS (scriptS seed i) != sumR (scriptR seed i)) = false := by rw [script_eq, sum_r]; simp

/-! ### the last ones are not used -/
def clC (used : List Int) (g m : Nat) (i : Nat) : Bool := (used.take i).all fun u => !(decide (u ≥ ((m - g : Nat) : Int)) && decide (u < (m : Int)) && decide (u ≥ 0))
theorem clC_succ (used : List Int) (g m i : Nat) (h : i < used.length) : clC used g m (i + 1) = (clC used g m i && !(decide (used[i]! ≥ ((m - g : Nat) : Int)) && decide (used[i]! < (m : Int)) && decide (used[i]! ≥ 0))) := by
  unfold clC
  rw [List.take_succ_eq_append_getElem h]
  simp only [List.all_append, List.all_cons, List.all_nil, Bool.and_true, getElem!_pos used i h]
theorem clC_iff (used : List Int) {g m : Nat} (hgm : g ≤ m) : clC used g m used.length = true ↔ clean used g m := by
  simp only [clC, List.take_length, List.all_eq_true, Bool.not_eq_true', Bool.and_eq_false_iff, decide_eq_false_iff_not, clean]
  constructor
  · intro h u hu ⟨a, b, c⟩
    rcases h u hu with (h1 | h1) | h1 <;> omega
  · intro h u hu
    by_cases h1 : u ≥ ((m - g : Nat) : Int)
    · by_cases h2 : u < (m : Int)
      · right; intro h3; exact h u hu ⟨by omega, h2, h3⟩
      · left; right; exact h2
    · left; left; exact h1
theorem clF {used : List Int} {g m n : Nat} (h : IsW used g n) (h1 : g ≤ m) (h2 : m ≤ n) (h3 : ¬ m = n) : clC used g m used.length = false := by
  cases hc : clC used g m used.length with
  | false => rfl
  | true => exact absurd ((clC_iff used h1).1 hc) (h.no m h1 (by omega))
theorem clT {used : List Int} {g m n : Nat} (h : IsW used g n) (h1 : n < 200) (h2 : m = n) : clC used g m used.length = true := by
  subst h2
  exact (clC_iff used h.lo).2 (h.cl.resolve_left (by omega))

/-! ### one more -/
theorem more_le {used : List Int} (more : Int) {g : Nat} (h1 : 1 ≤ g) (h2 : g ≤ 200) : watchS used (g : Int) ≤ watchS (more :: used) (g : Int) := watch_more (watch_nat used h1 h2) (watch_nat (more :: used) h1 h2)
theorem more_eq {used : List Int} {more : Int} {g : Nat} (h1 : 1 ≤ g) (h2 : g ≤ 200) (h : ¬ (more ≥ 0 ∧ more < ((watchS used (g : Int) : Nat) : Int))) : watchS (more :: used) (g : Int) = watchS used (g : Int) := by
  refine watch_of h1 h2 ((watch_nat used h1 h2).congr (fun u hu hlt => ⟨List.mem_cons_of_mem _, fun hm => ?_⟩))
  rcases List.mem_cons.1 hm with rfl | hm
  · exact absurd ⟨hu, hlt⟩ h
  · exact hm
theorem back_eq (used : List Int) {g : Nat} (h1 : 1 ≤ g) (h2 : g ≤ 200) : watchS (used.drop 0).reverse (g : Int) = watchS used (g : Int) :=
  watch_of h1 h2 ((watch_nat used h1 h2).congr (fun u _ _ => by simp))
theorem back_step (used : List Int) (k : Nat) (h1 : 1 ≤ k) (h2 : k ≤ used.length) : (used.drop (k - 1)).reverse = (used.drop k).reverse ++ [used[k - 1]!] := by
  have hlt : k - 1 < used.length := by omega
  have := List.drop_eq_getElem_cons hlt
  rw [show k - 1 + 1 = k by omega] at this
  rw [this, List.reverse_cons, getElem!_pos used (k - 1) hlt]

/-! ### steps -/
def rg (i : Nat) : List Int := (List.range i).map fun k => ((k : Nat) : Int)
theorem rg_succ (i : Nat) : rg (i + 1) = rg i ++ [((i : Nat) : Int)] := by simp [rg, List.range_succ]
theorem rg_len (i : Nat) : (rg i).length = i := by simp [rg]
theorem rg_mem (i : Nat) (u : Int) : u ∈ rg i ↔ 0 ≤ u ∧ u < (i : Int) := by
  simp only [rg, List.mem_map, List.mem_range]
  constructor
  · rintro ⟨k, hk, rfl⟩; omega
  · intro ⟨h1, h2⟩; exact ⟨u.toNat, by omega, by omega⟩
theorem rg_bd (i : Nat) (hi : i ≤ 1000) : ∀ u ∈ rg i, -9223372036854775808 ≤ u ∧ u ≤ 9223372036854775807 := fun u hu => by have := (rg_mem i u).1 hu; omega
theorem rg_bd1 (i : Nat) (hi : i ≤ 1000) (x : Int) (hx : -9223372036854775808 ≤ x ∧ x ≤ 9223372036854775807) : ∀ u ∈ rg i ++ [x], -9223372036854775808 ≤ u ∧ u ≤ 9223372036854775807 := fun u hu => by
  rcases List.mem_append.1 hu with h | h
  · exact rg_bd i hi u h
  · rw [List.mem_singleton.1 h]; exact hx
theorem rg_is {n g : Nat} (hn : n ≤ 60) (h1 : 1 ≤ g) (h2 : g ≤ 30) : IsW (rg n) g (n + g) := by
  refine ⟨by omega, by omega, .inr fun u hu ⟨a, b, c⟩ => ?_, fun m hm1 hm2 hc => ?_⟩
  · have := (rg_mem n u).1 hu; omega
  · exact hc ((m - g : Nat) : Int) ((rg_mem n _).2 (by omega)) ⟨by omega, by omega, by omega⟩
theorem st0 {n g : Nat} (hn : n ≤ 60) (h1 : 1 ≤ g) (h2 : g ≤ 30) : watchS (rg n) (g : Int) = n + g := watch_of h1 (by omega) (rg_is hn h1 h2)
theorem st2 {n g w W : Nat} (hn : n ≤ 60) (h1 : 1 ≤ g) (h2 : g ≤ 30) (hW : W = n + g) (hw : w < n) : watchS (rg n ++ [(w : Int)]) (g : Int) = W := by
  subst hW
  refine watch_of h1 (by omega) ((rg_is hn h1 h2).congr fun u hu hlt => ⟨fun h => List.mem_append.2 (.inl h), fun h => ?_⟩)
  rcases List.mem_append.1 h with h | h
  · exact h
  · rw [List.mem_singleton.1 h]; exact (rg_mem n _).2 (by omega)
theorem st3 {n g z W : Nat} (hn : n ≤ 60) (h1 : 1 ≤ g) (h2 : g ≤ 30) (hW : W = n + g) : watchS (rg n ++ [((W + z : Nat) : Int)]) (g : Int) = W := by
  subst hW
  refine watch_of h1 (by omega) ((rg_is hn h1 h2).congr fun u hu hlt => ⟨fun h => List.mem_append.2 (.inl h), fun h => ?_⟩)
  rcases List.mem_append.1 h with h | h
  · exact h
  · rw [List.mem_singleton.1 h] at hlt; omega
theorem st4 {n g W : Nat} {x : Int} (hn : n ≤ 60) (h1 : 1 ≤ g) (h2 : g ≤ 30) (hW : W = n + g) (hx : x < 0) : watchS (rg n ++ [x]) (g : Int) = W := by
  subst hW
  refine watch_of h1 (by omega) ((rg_is hn h1 h2).congr fun u hu hlt => ⟨fun h => List.mem_append.2 (.inl h), fun h => ?_⟩)
  rcases List.mem_append.1 h with h | h
  · exact h
  · rw [List.mem_singleton.1 h] at hu; omega
theorem st5 {n g W : Nat} (hn : n ≤ 60) (h1 : 1 ≤ g) (h2 : g ≤ 30) (hW : W = n + g) : watchS (rg n ++ [((W - 1 : Nat) : Int)]) (g : Int) = W + g := by
  subst hW
  refine watch_of h1 (by omega) ⟨by omega, by omega, .inr fun u hu ⟨a, b, c⟩ => ?_, fun m hm1 hm2 hc => ?_⟩
  · rcases List.mem_append.1 hu with h | h
    · have := (rg_mem n u).1 h; omega
    · rw [List.mem_singleton.1 h] at a; omega
  · by_cases hm : m - g < n
    · exact hc ((m - g : Nat) : Int) (List.mem_append.2 (.inl ((rg_mem n _).2 (by omega)))) ⟨by omega, by omega, by omega⟩
    · exact hc ((n + g - 1 : Nat) : Int) (List.mem_append.2 (.inr (List.mem_singleton.2 rfl))) ⟨by omega, by omega, by omega⟩
end Go.Sx
