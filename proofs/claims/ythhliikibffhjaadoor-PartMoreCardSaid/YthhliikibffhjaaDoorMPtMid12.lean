/- Proved: what functions of the given program compute (used by the theorem of this claim). Conditions: none but those that each theorem states. -/
import Derived.Test.YthhliikibffhjaaDoorMSxSap
set_option linter.unusedVariables false
set_option linter.unusedSimpArgs false
set_option linter.unnecessarySimpa false

namespace Go.Sx
open Go.Proofs
def gS (l : List UInt16) (c : UInt8) (i : Nat) : Hs := [l[i]!.toUInt8,(shr_u16 l[i]! 8).toUInt8,UInt8.ofInt ((i : Nat) : Int),c] ++ List.replicate 28 0
def idsS (l : List UInt16) (c : UInt8) (k : Nat) : List Hs := (List.range k).map (gS l c)
theorem idsS_len (l : List UInt16) (c : UInt8) (k : Nat) : (idsS l c k).length = k := by simp [idsS]
theorem idsS_succ (l : List UInt16) (c : UInt8) (k : Nat) : idsS l c (k + 1) = idsS l c k ++ [gS l c k] := by simp [idsS,List.range_succ]
theorem idsS_all (l : List UInt16) (c : UInt8) (k : Nat) : allH (idsS l c k) := by
 intro h hh
 obtain ⟨i,_,rfl⟩ := List.mem_map.1 hh
 rfl
def fS (is : List Bool) (i : Nat) : Bool := decide (i < is.length) && is[i]!
theorem fS_t {is : List Bool} {i : Nat} (h : i < is.length) : fS is i = is[i]! := by unfold fS; rw [decide_eq_true h,Bool.true_and]
theorem fS_f {is : List Bool} {i : Nat} (h : ¬ i < is.length) : fS is i = false := by unfold fS; rw [decide_eq_false h,Bool.false_and]
def flgS (is : List Bool) (k : Nat) : List Bool := (List.range k).map (fS is)
theorem flgS_len (is : List Bool) (k : Nat) : (flgS is k).length = k := by simp [flgS]
theorem flgS_succ (is : List Bool) (k : Nat) : flgS is (k + 1) = flgS is k ++ [fS is k] := by simp [flgS,List.range_succ]
section
variable {l : List UInt16} {is : List Bool} {n : Nat} {c : UInt8}
end
end Go.Sx

namespace Go.Sx
open Go.Proofs
end Go.Sx

namespace Go.Sx
open Go.Proofs
def fillF (is : List Bool) (n k : Nat) : List Bool := flgS is k ++ List.replicate (n - k) false
theorem fillF_0 (is : List Bool) (n : Nat) : fillF is n 0 = List.replicate n false := by simp [fillF,flgS]
theorem fillF_n (is : List Bool) (n : Nat) : fillF is n n = flgS is n := by simp [fillF]
theorem fillF_len {is : List Bool} {n k : Nat} (h : k ≤ n) : (fillF is n k).length = n := by simp [fillF,flgS_len]; omega
theorem fillF_set {is : List Bool} {n k : Nat} {v : Bool} (h : k < n) (hv : fS is k = v) : (fillF is n k).set k v = fillF is n (k + 1) := by
 unfold fillF
 rw [List.set_append_right _ _ (by rw [flgS_len]; exact Nat.le_refl _),flgS_len,Nat.sub_self,show n - k = (n - (k + 1)) + 1 by omega,List.replicate_succ,List.set_cons_zero,flgS_succ,hv,List.append_assoc]
 rfl
def moreS (f : List Bool) (k : Nat) : List Bool := f.set k true
theorem moreS_len (f : List Bool) (k : Nat) : (moreS f k).length = f.length := by simp [moreS]
theorem moreS_get {f : List Bool} {k i : Nat} (hk : k < f.length) : (moreS f k)[i]! = if i = k then true else f[i]! := by
 by_cases hi : i < f.length
 · rw [getElem!_pos _ i (by rw [moreS_len]; exact hi),getElem!_pos f i hi]
   simp only [moreS,List.getElem_set]
   by_cases h2 : i = k
   · rw [if_pos h2.symm,if_pos h2]
   · rw [if_neg (fun e => h2 e.symm),if_neg h2]
 · rw [getElem!_neg _ i (by rw [moreS_len]; exact hi),getElem!_neg f i hi,if_neg (by omega)]
theorem posL_eq {f g : List Bool} {lo n : Nat} (h : ∀ i,lo ≤ i → i < lo + n → f[i]! = g[i]!) : posL f lo n = posL g lo n := by
 unfold posL
 refine List.filter_congr fun i hi => ?_
 rw [List.mem_range'_1] at hi
 exact h i hi.1 hi.2
theorem posL_ge {f : List Bool} {lo n x : Nat} (h : x ∈ posL f lo n) : lo ≤ x ∧ x < lo + n := by
 have := (List.mem_filter.1 h).1
 rwa [List.mem_range'_1] at this
def jN (f : List Bool) (k i : Nat) : Nat := if f[k]! = true then i else if i ≤ (posL f 0 k).length then i else i - 1
theorem pos_split {f : List Bool} {n k : Nat} (hk : k < n) : posL f 0 n = posL f 0 k ++ (posL f k 1 ++ posL f (k + 1) (n - k - 1)) := by
 have h1 := posL_add f 0 k (1 + (n - k - 1))
 rw [show k + (1 + (n - k - 1)) = n by omega,posL_add f (0 + k) 1,Nat.zero_add] at h1
 exact h1
theorem posL_1 (f : List Bool) (k : Nat) : posL f k 1 = if f[k]! = true then [k] else [] := by
 by_cases h : f[k]! = true
 · rw [if_pos h,posL_all (fun i h1 h2 => by rw [show i = k by omega]; exact h)]; simp
 · rw [if_neg h,posL_none (fun i h1 h2 => by rw [show i = k by omega]; exact bfalse h)]
section
variable {f : List Bool} {n k : Nat}
theorem pos_more (hk : k < n) (hn : f.length = n) : posL (moreS f k) 0 n = posL f 0 k ++ ([k] ++ posL f (k + 1) (n - k - 1)) := by
 rw [pos_split hk,posL_1,moreS_get (by omega),if_pos rfl,if_pos rfl]
 rw [posL_eq (f := moreS f k) (g := f) (lo := 0) (n := k) (fun i _ h2 => by rw [moreS_get (by omega),if_neg (by omega)]),posL_eq (f := moreS f k) (g := f) (lo := k + 1) (fun i h1 _ => by rw [moreS_get (by omega),if_neg (by omega)])]
theorem more_same (hn : f.length = n) (h : f[k]! = true) (hk : k < n) : posL (moreS f k) 0 n = posL f 0 n := by
 rw [pos_more hk hn,pos_split hk,posL_1,if_pos h]
theorem more_none (h : ¬ f[k]! = true) (hk : k < n) : posL f 0 n = posL f 0 k ++ posL f (k + 1) (n - k - 1) := by
 rw [pos_split hk,posL_1,if_neg h,List.nil_append]
theorem get!_left {α : Type} [Inhabited α] {a b : List α} {i : Nat} (h : i < a.length) : (a ++ b)[i]! = a[i]! := by
 rw [getElem!_pos _ i (by rw [List.length_append]; omega),getElem!_pos a i h,List.getElem_append_left h]
theorem get!_right {α : Type} [Inhabited α] (a b : List α) (i : Nat) : (a ++ b)[a.length + i]! = b[i]! := by
 by_cases h : i < b.length
 · rw [getElem!_pos _ _ (by rw [List.length_append]; omega),getElem!_pos b i h,List.getElem_append_right (by omega)]
   congr 1; omega
 · rw [getElem!_neg _ _ (by rw [List.length_append]; omega),getElem!_neg b i h]
theorem more_len (hn : f.length = n) (h : ¬ f[k]! = true) (hk : k < n) : (posL (moreS f k) 0 n).length = (posL f 0 n).length + 1 := by
 rw [pos_more hk hn,more_none h hk]; simp; omega
theorem more_end (hn : f.length = n) (hk : k < n) : jN f k (posL (moreS f k) 0 n).length = (posL f 0 n).length := by
 unfold jN
 by_cases h : f[k]! = true
 · rw [if_pos h,more_same hn h hk]
 · rw [if_neg h,more_len hn h hk,if_neg (by rw [more_none h hk]; simp; omega)]; omega
theorem more_eq (hn : f.length = n) (hk : k < n) {i : Nat} (hi : i < (posL (moreS f k) 0 n).length) (h : jN f k i < (posL f 0 n).length ∧ (posL f 0 n)[jN f k i]! = (posL (moreS f k) 0 n)[i]!) : jN f k (i + 1) = jN f k i + 1 := by
 unfold jN at h ⊢
 by_cases hf : f[k]! = true
 · rw [if_pos hf,if_pos hf]
 · rw [if_neg hf] at h ⊢
   rw [if_neg hf]
   by_cases h1 : i ≤ (posL f 0 k).length
   · rw [if_pos h1] at h ⊢
     rcases (by omega : i < (posL f 0 k).length ∨ i = (posL f 0 k).length) with h2 | h2
     · rw [if_pos (by omega)]
     · exfalso
       obtain ⟨h3,h4⟩ := h
       rw [h2] at h3 h4
       rw [pos_more hk hn,more_none hf hk,show (posL f 0 k).length = (posL f 0 k).length + 0 from rfl,get!_right,get!_right] at h4
       rw [more_none hf hk,List.length_append] at h3
       have h5 : (posL f (k + 1) (n - k - 1))[0]! ∈ posL f (k + 1) (n - k - 1) := by
        rw [getElem!_pos _ 0 (by omega)]; exact List.getElem_mem _
       have h6 := posL_ge h5
       have h7 : (([k] : List Nat) ++ posL f (k + 1) (n - k - 1))[0]! = k := rfl
       omega
   · rw [if_neg h1,if_neg (by omega)]; omega
theorem more_ne (hn : f.length = n) (hk : k < n) {i : Nat} (hi : i < (posL (moreS f k) 0 n).length) (h : ¬ (jN f k i < (posL f 0 n).length ∧ (posL f 0 n)[jN f k i]! = (posL (moreS f k) 0 n)[i]!)) : jN f k (i + 1) = jN f k i ∧ (posL (moreS f k) 0 n)[i]! = k := by
 unfold jN at h ⊢
 by_cases hf : f[k]! = true
 · exfalso
   rw [if_pos hf,more_same hn hf hk] at h
   rw [more_same hn hf hk] at hi
   exact h ⟨hi,rfl⟩
 · rw [if_neg hf] at h ⊢
   rw [if_neg hf]
   have hml := more_len hn hf hk
   by_cases h1 : i ≤ (posL f 0 k).length
   · rw [if_pos h1] at h ⊢
     rcases (by omega : i < (posL f 0 k).length ∨ i = (posL f 0 k).length) with h2 | h2
     · exfalso
       refine h ⟨?_, ?_⟩
       · rw [more_none hf hk,List.length_append]; omega
       · rw [more_none hf hk,pos_more hk hn,get!_left h2,get!_left h2]
     · rw [if_neg (by omega)]
       refine ⟨by omega, ?_⟩
       rw [pos_more hk hn,h2,show (posL f 0 k).length = (posL f 0 k).length + 0 from rfl,get!_right]
       rfl
   · exfalso
     rw [if_neg h1] at h
     refine h ⟨by omega, ?_⟩
     obtain ⟨t,rfl⟩ : ∃ t,i = (posL f 0 k).length + (t + 1) := ⟨i - (posL f 0 k).length - 1,by omega⟩
     rw [more_none hf hk,pos_more hk hn,show (posL f 0 k).length + (t + 1) - 1 = (posL f 0 k).length + t by omega,get!_right,get!_right]
     rfl
end
theorem want_get {ids : List Hs} {f : List Bool} {i : Nat} (h : i < (posL f 0 ids.length).length) : (wantL ids f)[i]! = ids[(posL f 0 ids.length)[i]!]! := by
 unfold wantL
 rw [getElem!_pos _ i (by simpa using h),getElem!_pos _ i h]
 simp
theorem wantL_len (ids : List Hs) (f : List Bool) : (wantL ids f).length = (posL f 0 ids.length).length := by unfold wantL; simp
section
variable {l : List UInt16} {n k : Nat} {f : List Bool}
def I4 (l : List UInt16) (n : Nat) : List Hs := idsS l 4 n
theorem I4_len (l : List UInt16) (n : Nat) : (I4 l n).length = n := idsS_len l 4 n
theorem I4_all (l : List UInt16) (n : Nat) : allH (I4 l n) := idsS_all l 4 n
def mh (l : List UInt16) (n : Nat) (f : List Bool) : List Hs := (bwS (I4 l n) f).1
def mf (l : List UInt16) (n : Nat) (f : List Bool) : List Bool := (bwS (I4 l n) f).2
theorem m_bounds (h0 : 0 < n) (h1 : n ≤ 256) (hf : f.length = n) : (mh l n f).length ≤ n ∧ (mf l n f).length ≤ 1024 := by
 have h := bw_bounds (l := I4 l n) (f := f) (by rw [I4_len]; exact h0) (by rw [I4_len]; exact hf)
 have h2 := bw_fl (l := I4 l n) (f := f) (by rw [I4_len]; exact h1) (by rw [I4_len]; exact h0)
 rw [I4_len] at h
 exact ⟨h.1,by unfold mf; omega⟩
theorem mh_all : allH (mh l n f) := bw_all (I4_all l n)
theorem m_bld (h0 : 0 < n) (h1 : n ≤ 256) (hf : f.length = n) : Fn Tryd.prog gl 9 [.sl none 32 ((I4 l n).map hashD),.sl none 1 (f.map D.bool)] (.tup [.agg [.int ((n : Nat) : Int),.sl none 32 ((mh l n f).map hashD),.sl none 1 ((mf l n f).map D.bool)],.int ((0 : Nat) : Int)]) := by
 have h := bld_call (l := I4 l n) (f := f) (I4_all l n) (by rw [I4_len]; exact h0) (by rw [I4_len]; exact h1) (by rw [I4_len]; exact hf)
 rw [I4_len] at h
 exact h
theorem m_chk (h0 : 0 < n) (h1 : n ≤ 256) (hf : f.length = n) (hd : dblS joinR (I4 l n) = false) : Fn Tryd.prog gl 12 [.agg [.int ((n : Nat) : Int),.sl none 32 ((mh l n f).map hashD),.sl none 1 ((mf l n f).map D.bool)]]
 (.tup [hashD (rootS joinS (I4 l n)),.sl none 32 ((wantL (I4 l n) f).map hashD),.sl none 1 ((posL f 0 n).map natD),.int ((0 : Nat) : Int)]) := by
 have h := chk_call (l := I4 l n) (f := f) (I4_all l n) (by rw [I4_len]; exact h0) (by rw [I4_len]; exact h1) (by rw [I4_len]; exact hf) (by rw [join_r]; exact hd)
 rw [I4_len] at h
 exact h
theorem m_mono (h0 : 0 < n) (hf : f.length = n) (hk : k < n) : (mh l n f).length ≤ (mh l n (moreS f k)).length := by
 have hp := nRows_pos (n := (I4 l n).length) (by rw [I4_len]; exact h0)
 have h := (rws (I4 l n) f (by rw [I4_len]; exact hf)).mono (rws (I4 l n) (moreS f k) (by rw [moreS_len,I4_len]; exact hf)) (fun i hi => by rw [moreS_get (by omega)]; split <;> simp [hi]) (nRows (I4 l n).length - 1) (by omega) 0 (by rw [lenA_last (by rw [I4_len]; exact h0)]; omega)
 rw [← bw_wkZ,← bw_wkZ] at h
 exact h
theorem m_want {g : List Bool} {i : Nat} (h : i < (posL g 0 n).length) : (wantL (I4 l n) g)[i]! = (I4 l n)[(posL g 0 n)[i]!]! := by
 have := want_get (ids := I4 l n) (f := g) (i := i) (by rw [I4_len]; exact h)
 rw [I4_len] at this
 exact this
theorem m_wlen (g : List Bool) : (wantL (I4 l n) g).length = (posL g 0 n).length := by rw [wantL_len,I4_len]
end
theorem posL_len (f : List Bool) (lo n : Nat) : (posL f lo n).length ≤ n := by
 unfold posL
 have := List.length_filter_le (fun i => f[i]!) (List.range' lo n)
 rwa [List.length_range'] at this
theorem jN_0 (f : List Bool) (k : Nat) : jN f k 0 = 0 := by
 unfold jN
 split
 · rfl
 · rw [if_pos (Nat.zero_le _)]
end Go.Sx
