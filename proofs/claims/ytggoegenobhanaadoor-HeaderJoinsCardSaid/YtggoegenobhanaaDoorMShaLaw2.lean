/-
  The plain law for the statements themselves.
-/
import Derived.Test.YtggoegenobhanaaDoorMHd3
import Derived.Test.YtggoegenobhanaaDoorMSxFnB
set_option linter.unusedVariables false
set_option linter.unusedSimpArgs false
set_option linter.unnecessarySimpa false

namespace Go.Sx

theorem same_law (a b : List UInt8) (h : a.length = b.length) (i : Nat) (hi : i ≤ a.length) (hn : a.length ≤ i) (hall : ∀ j, j < i → a[j]! = b[j]!) : a = b := by
  apply List.ext_getElem h
  intro j h1 h2
  have := hall j (by omega)
  simpa [h1, h2] using this
theorem len_get! {l : List (List UInt8)} {m : Nat} (h : ∀ b ∈ l, b.length ≤ m) (i : Nat) : l[i]!.length ≤ m := by
  by_cases hi : i < l.length
  · rw [getElem!_pos l i hi]; exact h _ (List.getElem_mem hi)
  · rw [getElem!_neg l i hi]; exact Nat.zero_le _
theorem sum_eq (b : List UInt8) : (sumS b == sumR b) = true := beq_iff_eq.2 (sum_r b)
theorem twice_eq (b : List UInt8) : (twiceS b == twiceR b) = true := beq_iff_eq.2 (twice_r b)

/-! ### the anchor -/
def abS : ShaS := addS (addS ShaS.start [97, 98]) [99]
theorem abS_ok : abS.ok := addS_ok _ _ (addS_ok _ _ ShaS.start_ok)
theorem ways_eq (a b : List UInt8) : (endS (addS (addS ShaS.start a) b) == sumS (a ++ b)) = true := by
  rw [beq_iff_eq, sum_r]; exact end_r (rep_addS (rep_start_add a))
theorem ways_eq3 (a b c : List UInt8) : (endS (addS (addS (addS ShaS.start a) b) c) == sumS (a ++ b ++ c)) = true := by
  rw [beq_iff_eq, sum_r]; exact end_r (rep_addS (rep_addS (rep_start_add a)))
theorem ways_eq1 (a : List UInt8) : (endS (addS ShaS.start a) == sumS a) = true := beq_iff_eq.2 rfl
theorem cR0 : (sumR [])[0]! = 227 ∧ (sumR [])[31]! = 85 := by decide +kernel
theorem cR1 : (sumR [97, 98, 99])[0]! = 186 ∧ (sumR [97, 98, 99])[31]! = 173 ∧ (sumR [97, 98, 99])[15]! = 35 := by decide +kernel
theorem cR2 : (twiceR [104, 101, 108, 108, 111])[0]! = 149 ∧ (twiceR [104, 101, 108, 108, 111])[31]! = 80 := by decide +kernel
theorem wk0 : ((sumS [])[0]! == 227) = true := by rw [sum_r]; exact beq_iff_eq.2 cR0.1
theorem wk1 : ((sumS [])[31]! == 85) = true := by rw [sum_r]; exact beq_iff_eq.2 cR0.2
theorem wk2 : ((sumS [97, 98, 99])[0]! == 186) = true := by rw [sum_r]; exact beq_iff_eq.2 cR1.1
theorem wk3 : ((sumS [97, 98, 99])[31]! == 173) = true := by rw [sum_r]; exact beq_iff_eq.2 cR1.2.1
theorem wk4 : ((sumS [97, 98, 99])[15]! == 35) = true := by rw [sum_r]; exact beq_iff_eq.2 cR1.2.2
theorem wk5 : ((twiceS [104, 101, 108, 108, 111])[0]! == 149) = true := by rw [twice_r]; exact beq_iff_eq.2 cR2.1
theorem wk6 : ((twiceS [104, 101, 108, 108, 111])[31]! == 80) = true := by rw [twice_r]; exact beq_iff_eq.2 cR2.2
theorem wk7 : (endS abS == sumS [97, 98, 99]) = true := ways_eq [97, 98] [99]

/-! ### bytes that are all one -/
def fillB (x : UInt8) (k : Nat) : Nat → List UInt8
  | 0 => List.replicate k 0
  | i + 1 => (fillB x k i).set i x
theorem fillB_len (x : UInt8) (k i : Nat) : (fillB x k i).length = k := by
  induction i with
  | zero => simp [fillB]
  | succ i ih => simp [fillB, ih]

/-! ### byte by byte -/
def byS (b : List UInt8) : Nat → ShaS
  | 0 => ShaS.zero
  | i + 1 => addS (addS (byS b i) ((b.drop i).take 1)) []
theorem byS_ok (b : List UInt8) (i : Nat) : (byS b i).ok := by
  induction i with
  | zero => exact ShaS.zero_ok
  | succ i ih => exact addS_ok _ _ (addS_ok _ _ ih)
theorem byS_rep (b : List UInt8) (i : Nat) (hi : i < b.length) : Rep (byS b (i + 1)) (b.take (i + 1)) := by
  induction i with
  | zero =>
    have h1 : Rep (addS ShaS.zero ((b.drop 0).take 1)) ((b.drop 0).take 1) := rep_start_add _
    have := rep_addS (c := []) h1
    simpa [byS] using this
  | succ i ih =>
    have h1 := rep_addS (c := []) (rep_addS (c := (b.drop (i + 1)).take 1) (ih (by omega)))
    have e : b.take (i + 1) ++ (b.drop (i + 1)).take 1 ++ [] = b.take (i + 1 + 1) := by rw [List.append_nil, ← List.take_add]
    rw [e] at h1
    exact h1
theorem by_eq (b : List UInt8) : (endS (byS b b.length) == sumS b) = true := by
  rw [beq_iff_eq, sum_r]
  cases hb : b.length with
  | zero => rw [List.length_eq_zero_iff.1 hb]; exact zero_end
  | succ i =>
    have := byS_rep b i (by omega)
    rw [List.take_of_length_le (by omega)] at this
    exact end_r this
theorem by_nil (b : List UInt8) : (endS (addS (byS b b.length) []) == endS (byS b b.length)) = true := by
  have h1 := beq_iff_eq.1 (by_eq b)
  rw [beq_iff_eq, h1, sum_r]
  cases hb : b.length with
  | zero => rw [List.length_eq_zero_iff.1 hb]; exact end_r (rep_start_add [])
  | succ i =>
    have := byS_rep b i (by omega)
    rw [List.take_of_length_le (by omega)] at this
    have h2 := rep_addS (c := []) this
    rw [List.append_nil] at h2
    exact end_r h2

/-! ### in parts -/
instance : Inhabited ShaS := ⟨ShaS.zero⟩
def intD (n : Nat) : D := .int ((n : Nat) : Int)
def allP (l : List (List UInt8)) : Nat → List UInt8
  | 0 => []
  | i + 1 => allP l i ++ l[i]!
def stsP (l : List (List UInt8)) : Nat → List ShaS
  | 0 => [ShaS.start]
  | i + 1 => stsP l i ++ [addS (stsP l i)[(stsP l i).length - 1]! l[i]!]
def lensP (l : List (List UInt8)) : Nat → List Nat
  | 0 => [0]
  | i + 1 => lensP l i ++ [(allP l (i + 1)).length]
theorem stsP_len (l : List (List UInt8)) (i : Nat) : (stsP l i).length = i + 1 := by
  induction i with
  | zero => rfl
  | succ i ih => simp [stsP, ih]
theorem lensP_len (l : List (List UInt8)) (i : Nat) : (lensP l i).length = i + 1 := by
  induction i with
  | zero => rfl
  | succ i ih => simp [lensP, ih]
theorem get!_last {α : Type} [Inhabited α] {l : List α} {v : α} {i : Nat} (h : i = l.length) : (l ++ [v])[i]! = v := by subst h; simp
theorem stsP_rep (l : List (List UInt8)) (i j : Nat) (hj : j ≤ i) : Rep (stsP l i)[j]! (allP l j) := by
  induction i generalizing j with
  | zero =>
    obtain rfl : j = 0 := by omega
    exact rep_start
  | succ i ih =>
    have hl := stsP_len l i
    simp only [stsP]
    by_cases h : j ≤ i
    · rw [get!_append (by omega)]; exact ih j h
    · obtain rfl : j = i + 1 := by omega
      rw [get!_last (by omega), hl, Nat.add_sub_cancel]
      exact rep_addS (ih i (Nat.le_refl _))
theorem stsP_ok' (s : ShaS) (b : List UInt8) (h : Rep s b) : s.ok := ⟨by rw [h.h]; exact hR_len _ _, h.len⟩
theorem stsP_ok (l : List (List UInt8)) (i j : Nat) (hj : j ≤ i) : ((stsP l i)[j]!).ok := stsP_ok' _ _ (stsP_rep l i j hj)
theorem lensP_get (l : List (List UInt8)) (i j : Nat) (hj : j ≤ i) : (lensP l i)[j]! = (allP l j).length := by
  induction i generalizing j with
  | zero =>
    obtain rfl : j = 0 := by omega
    rfl
  | succ i ih =>
    have hl := lensP_len l i
    simp only [lensP]
    by_cases h : j ≤ i
    · rw [get!_append (by omega)]; exact ih j h
    · obtain rfl : j = i + 1 := by omega
      rw [get!_last (by omega)]
theorem allP_prefix (l : List (List UInt8)) (i j : Nat) (hj : j ≤ i) : (allP l i).take (allP l j).length = allP l j ∧ (allP l j).length ≤ (allP l i).length := by
  induction i with
  | zero =>
    obtain rfl : j = 0 := by omega
    exact ⟨rfl, Nat.le_refl _⟩
  | succ i ih =>
    by_cases h : j ≤ i
    · obtain ⟨h1, h2⟩ := ih h
      simp only [allP]
      exact ⟨by rw [List.take_append_of_le_length h2, h1], by simp; omega⟩
    · obtain rfl : j = i + 1 := by omega
      exact ⟨List.take_length, Nat.le_refl _⟩
theorem lens_le (l : List (List UInt8)) (i j : Nat) (hj : j ≤ i) : (lensP l i)[j]! ≤ (allP l i).length := by
  rw [lensP_get l i j hj]; exact (allP_prefix l i j hj).2
theorem parts_ne (l : List (List UInt8)) (i j : Nat) (hj : j ≤ i) : (endS (stsP l i)[j]! != sumR ((allP l i).take (lensP l i)[j]!)) = false := by
  rw [lensP_get l i j hj, (allP_prefix l i j hj).1, end_r (stsP_rep l i j hj)]
  simp
theorem zero_eq : (endS ShaS.zero == sumR []) = true := beq_iff_eq.2 zero_end
def xorP (b : List UInt8) : Nat → List UInt8
  | 0 => b
  | k + 1 => (xorP b k).set k ((xorP b k)[k]! ^^^ 90)
theorem xorP_len (b : List UInt8) (k : Nat) : (xorP b k).length = b.length := by
  induction k with
  | zero => rfl
  | succ k ih => simp [xorP, ih]
end Go.Sx

namespace Go.Sx
abbrev Hs := List UInt8

structure HdS where
  ver : UInt32
  prev : Hs
  root : Hs
  time : UInt32
  bits : UInt32
  nonce : UInt32
  deriving DecidableEq, Inhabited
def hdrD (h : HdS) : D := .agg [.u32 h.ver, hashD h.prev, hashD h.root, .u32 h.time, .u32 h.bits, .u32 h.nonce]
def HdS.wf (h : HdS) : Prop := h.prev.length = 32 ∧ h.root.length = 32
def zero32 : Hs := List.replicate 32 0
def zeroH : HdS := ⟨0, zero32, zero32, 0, 0, 0⟩

/-- byte i of a number -/
def byt (v : UInt32) (i : Nat) : UInt8 := (shr_u32 v (8 * i)).toUInt8
def le4 (v : UInt32) : List UInt8 := [byt v 0, byt v 1, byt v 2, byt v 3]
def putS (h : HdS) : List UInt8 := le4 h.ver ++ h.prev ++ h.root ++ le4 h.time ++ le4 h.bits ++ le4 h.nonce
/-- the first i bytes are put -/
def setN (b : List UInt8) (at_ : Nat) (v : UInt32) : Nat → List UInt8
  | 0 => b
  | i + 1 => (setN b at_ v i).set (at_ + i) (byt v i)
/-- the number of the first i bytes -/
def rdN (b : List UInt8) (at_ : Nat) : Nat → UInt32
  | 0 => 0
  | i + 1 => rdN b at_ i ||| shl_u32 (b[at_ + i]!).toUInt32 (8 * i)
def num (b : List UInt8) (at_ : Nat) : UInt32 := rdN b at_ 4
theorem setN_len (b : List UInt8) (at_ : Nat) (v : UInt32) (i : Nat) : (setN b at_ v i).length = b.length := by
  induction i with
  | zero => rfl
  | succ i ih => simp [setN, ih]
def b80 : List UInt8 := List.replicate 80 0
def put1 (h : HdS) : List UInt8 := setN b80 0 h.ver 4
def put2 (h : HdS) : List UInt8 := setN (put1 h) 68 h.time 4
def put3 (h : HdS) : List UInt8 := setN (put2 h) 72 h.bits 4
def put4 (h : HdS) : List UInt8 := setN (put3 h) 76 h.nonce 4
def put5 (h : HdS) : List UInt8 := (put4 h).take 4 ++ h.prev ++ (put4 h).drop 36
def put6 (h : HdS) : List UInt8 := (put5 h).take 36 ++ h.root ++ (put5 h).drop 68
theorem put1_len (h : HdS) : (put1 h).length = 80 := setN_len _ _ _ _
theorem put2_len (h : HdS) : (put2 h).length = 80 := (setN_len _ _ _ _).trans (put1_len h)
theorem put3_len (h : HdS) : (put3 h).length = 80 := (setN_len _ _ _ _).trans (put2_len h)
theorem put4_len (h : HdS) : (put4 h).length = 80 := (setN_len _ _ _ _).trans (put3_len h)
theorem put5_len (h : HdS) (hw : h.wf) : (put5 h).length = 80 := by simp [put5, put4_len, hw.1]
theorem put6_len (h : HdS) (hw : h.wf) : (put6 h).length = 80 := by simp [put6, put5_len h hw, hw.2]
theorem putS_len (h : HdS) (hw : h.wf) : (putS h).length = 80 := by simp [putS, le4, hw.1, hw.2]

theorem set4 (v : UInt32) (p r : List UInt8) (a b c d : UInt8) (at_ : Nat) (hp : p.length = at_) : setN (p ++ ([a, b, c, d] ++ r)) at_ v 4 = p ++ (le4 v ++ r) := by
  subst hp
  simp only [setN, Nat.add_zero]
  rw [List.set_append, if_neg (by omega), Nat.sub_self]
  simp only [List.cons_append, List.set_cons_zero]
  rw [List.set_append, if_neg (by omega), show p.length + 1 - p.length = 1 by omega]
  simp only [List.set_cons_succ, List.set_cons_zero]
  rw [List.set_append, if_neg (by omega), show p.length + 2 - p.length = 2 by omega]
  simp only [List.set_cons_succ, List.set_cons_zero]
  rw [List.set_append, if_neg (by omega), show p.length + 3 - p.length = 3 by omega]
  rfl
theorem put_eq (h : HdS) (hw : h.wf) : put6 h = putS h := by
  have e1 : put1 h = le4 h.ver ++ List.replicate 76 0 := set4 h.ver [] (List.replicate 76 0) 0 0 0 0 0 rfl
  have e2 : put2 h = (le4 h.ver ++ List.replicate 64 0) ++ (le4 h.time ++ List.replicate 8 0) := by
    unfold put2
    rw [e1, show (List.replicate 76 (0 : UInt8)) = List.replicate 64 0 ++ ([0, 0, 0, 0] ++ List.replicate 8 0) from rfl, ← List.append_assoc]
    exact set4 h.time _ _ 0 0 0 0 68 rfl
  have e3 : put3 h = (le4 h.ver ++ List.replicate 64 0 ++ le4 h.time) ++ (le4 h.bits ++ List.replicate 4 0) := by
    unfold put3
    rw [e2, show (List.replicate 8 (0 : UInt8)) = [0, 0, 0, 0] ++ List.replicate 4 0 from rfl, ← List.append_assoc]
    exact set4 h.bits _ _ 0 0 0 0 72 rfl
  have e4 : put4 h = le4 h.ver ++ (List.replicate 64 0 ++ (le4 h.time ++ (le4 h.bits ++ le4 h.nonce))) := by
    unfold put4
    have := set4 h.nonce ((le4 h.ver ++ List.replicate 64 0 ++ le4 h.time) ++ le4 h.bits) [] 0 0 0 0 76 rfl
    rw [e3, show (List.replicate 4 (0 : UInt8)) = [0, 0, 0, 0] ++ [] from rfl, ← List.append_assoc]
    rw [this]
    simp only [List.append_assoc, List.append_nil]
  have e5 : put5 h = le4 h.ver ++ (h.prev ++ (List.replicate 32 0 ++ (le4 h.time ++ (le4 h.bits ++ le4 h.nonce)))) := by
    unfold put5
    rw [e4]
    rw [List.take_left' (show (le4 h.ver).length = 4 from rfl)]
    rw [show (36 : Nat) = (le4 h.ver).length + 32 from rfl, ← List.drop_drop, List.drop_left' rfl, show (List.replicate 64 (0 : UInt8)) = List.replicate 32 0 ++ List.replicate 32 0 from rfl, List.append_assoc (List.replicate 32 (0 : UInt8)), List.drop_left' (show (List.replicate 32 (0 : UInt8)).length = 32 from rfl), List.append_assoc]
  unfold put6
  rw [e5]
  have h36 : (le4 h.ver ++ h.prev).length = 36 := by simp [le4, hw.1]
  rw [← List.append_assoc (le4 h.ver), List.take_left' h36, show (68 : Nat) = 36 + 32 from rfl, ← List.drop_drop, List.drop_left' h36, List.drop_left' (show (List.replicate 32 (0 : UInt8)).length = 32 from rfl)]
  simp only [putS, List.append_assoc]
theorem put5_map (h : HdS) (hw : h.wf) : ((put4 h).map D.u8).take 4 ++ (((h.prev.map D.u8).drop 0).take 32).take 32 ++ ((put4 h).map D.u8).drop (4 + 32) = (put5 h).map D.u8 := by
  have h1 : (h.prev.map D.u8).take 32 = h.prev.map D.u8 := List.take_of_length_le (by simp [hw.1])
  simp only [List.drop_zero, List.take_take, Nat.min_self, h1, put5, List.map_append, List.map_take, List.map_drop]
theorem put6_map (h : HdS) (hw : h.wf) : ((put5 h).map D.u8).take 36 ++ (((h.root.map D.u8).drop 0).take 32).take 32 ++ ((put5 h).map D.u8).drop (36 + 32) = (put6 h).map D.u8 := by
  have h1 : (h.root.map D.u8).take 32 = h.root.map D.u8 := List.take_of_length_le (by simp [hw.2])
  simp only [List.drop_zero, List.take_take, Nat.min_self, h1, put6, List.map_append, List.map_take, List.map_drop]

theorem brw_hash (h : Hs) : (hashD h).brw = hashD h := by
  unfold hashD
  simp only [D.brw, brws_eq]
  rw [brw_map (fun _ => rfl)]
theorem frs_hash' (h : Hs) : Frs (hashD h) := .arr _ _ _ (frs_map fun _ => .u8 _)
theorem frs_hdr (h : HdS) : Frs (hdrD h) := by
  refine .agg _ fun x hx => ?_
  simp only [List.mem_cons, List.not_mem_nil, or_false] at hx
  rcases hx with rfl | rfl | rfl | rfl | rfl | rfl
  · exact .u32 _
  · exact frs_hash' _
  · exact frs_hash' _
  · exact .u32 _
  · exact .u32 _
  · exact .u32 _
theorem brw_hdr (h : HdS) : (hdrD h).brw = hdrD h := by
  simp only [hdrD, D.brw, D.brws, brw_hash]
theorem frs_hdrs (e z : Nat) (l : List HdS) : Frs (.sl (some e) z (l.map hdrD)) := .sl _ _ _ (frs_map frs_hdr)
theorem brw_hdrs (o : Option Nat) (z : Nat) (l : List HdS) : (D.sl o z (l.map hdrD)).brw = .sl none z (l.map hdrD) := by
  simp only [D.brw, brws_eq]
  rw [brw_map brw_hdr]

/-! ### what bytes say -/
/-- the header of 80 bytes -/
def hd80 (b : List UInt8) : HdS := ⟨num b 0, (b.drop 4).take 32, (b.drop 36).take 32, num b 68, num b 72, num b 76⟩
def getS (b : List UInt8) : HdS × Int := if b.length ≠ 80 then (zeroH, 5) else (hd80 b, 0)
theorem hd80_wf (b : List UInt8) (h : b.length = 80) : (hd80 b).wf := by
  constructor
  · show ((b.drop 4).take 32).length = 32
    simp; omega
  · show ((b.drop 36).take 32).length = 32
    simp; omega
theorem get_copy (b : List UInt8) (n : Nat) : (zero32.map D.u8).take 0 ++ ((b.drop n).map D.u8).take 32 ++ (zero32.map D.u8).drop (0 + 32) = ((b.drop n).take 32).map D.u8 := by
  have h : (zero32.map D.u8).drop (0 + 32) = [] := List.drop_eq_nil_of_le (by simp [zero32])
  rw [h]
  simp only [List.take_zero, List.nil_append, List.append_nil, List.map_take]
def idS (h : HdS) : Hs := twiceS (putS h)
def rowI (l : List HdS) : Nat → List UInt8
  | 0 => []
  | i + 1 => rowI l i ++ putS l[i]!
def rowS (l : List HdS) : List UInt8 := rowI l l.length
def allW (l : List HdS) : Prop := ∀ h ∈ l, h.wf
theorem allW.get {l : List HdS} (h : allW l) {i : Nat} (hi : i < l.length) : l[i]!.wf := by
  rw [getElem!_pos l i hi]; exact h _ (List.getElem_mem hi)
theorem rowI_len (l : List HdS) (hl : allW l) (i : Nat) (hi : i ≤ l.length) : (rowI l i).length = 80 * i := by
  induction i with
  | zero => rfl
  | succ i ih =>
    rw [rowI, List.length_append, ih (by omega), putS_len _ (hl.get (by omega))]
    omega
def pc (b : List UInt8) (k : Nat) : HdS := hd80 ((b.drop (80 * k)).take 80)
def cutI (b : List UInt8) (k : Nat) : List HdS := (List.range k).map (pc b)
theorem cutI_succ (b : List UInt8) (k : Nat) : cutI b k ++ [pc b k] = cutI b (k + 1) := by simp [cutI, List.range_succ]
theorem cutI_len (b : List UInt8) (k : Nat) : (cutI b k).length = k := by simp [cutI]
def cutS (b : List UInt8) : List HdS × Int := if b.length % 80 ≠ 0 then ([], 5) else if 100 < b.length / 80 then ([], 6) else (cutI b (b.length / 80), 0)
def ahd (l : List HdS) : Nat → Hs
  | 0 => zero32
  | i + 1 => idS l[i]!
def odd (l : List HdS) (i : Nat) : Bool := decide (0 < i) && (l[i]!.prev != ahd l i)
def linkS (l : List HdS) : Nat := ((List.range l.length).find? (odd l)).getD l.length
theorem linkS_at (l : List HdS) (i : Nat) (hi : i < l.length) (h : ∀ j, j < i → odd l j = false) (ho : odd l i = true) : linkS l = i := by
  unfold linkS
  have : (List.range l.length).find? (odd l) = some i := by
    rw [List.find?_range_eq_some]
    exact ⟨ho, List.mem_range.2 hi, fun j hj => by rw [h j hj]; rfl⟩
  rw [this]; rfl
theorem linkS_all (l : List HdS) (h : ∀ j, j < l.length → odd l j = false) : linkS l = l.length := by
  unfold linkS
  have : (List.range l.length).find? (odd l) = none := by
    rw [List.find?_eq_none]
    intro j hj
    rw [h j (List.mem_range.1 hj)]
    simp
  rw [this]; rfl

theorem odd_no {l : List HdS} {i : Nat} (h : ¬ 0 < i) : odd l i = false := by unfold odd; simp [h]
theorem odd_eq {l : List HdS} {i : Nat} (h : 0 < i) (h2 : (l[i]!.prev != ahd l i) = false) : odd l i = false := by unfold odd; rw [h2]; simp
theorem odd_ne {l : List HdS} {i : Nat} (h : 0 < i) (h2 : (l[i]!.prev != ahd l i) = true) : odd l i = true := by unfold odd; rw [h2]; simp [h]
theorem le4_eq (v : UInt32) : [D.u8 v.toUInt8, .u8 (shr_u32 v 8).toUInt8, .u8 (shr_u32 v 16).toUInt8, .u8 (shr_u32 v 24).toUInt8] = (le4 v).map D.u8 := by
  have : shr_u32 v 0 = v := by unfold shr_u32; simp
  simp only [le4, byt, List.map_cons, List.map_nil, Nat.mul_zero, this]
theorem num_eq (b : List UInt8) (n : Nat) : num b n = (b[n]!).toUInt32 ||| shl_u32 (b[n + 1]!).toUInt32 8 ||| shl_u32 (b[n + 2]!).toUInt32 16 ||| shl_u32 (b[n + 3]!).toUInt32 24 := by
  have : ∀ x, shl_u32 x 0 = x := fun x => by unfold shl_u32; simp
  simp only [num, rdN, Nat.mul_zero, Nat.add_zero, this, Nat.mul_one]
  simp
def hsI (b : List UInt8) (n i : Nat) : Hs := (b.drop n).take i ++ List.replicate (32 - i) 0
theorem hsI_len (b : List UInt8) (n i : Nat) (hi : i ≤ 32) (hn : n + 32 ≤ b.length) : (hsI b n i).length = 32 := by simp [hsI]; omega
theorem hsI_32 (b : List UInt8) (n : Nat) : hsI b n 32 = (b.drop n).take 32 := by simp [hsI]
theorem hsI_succ (b : List UInt8) (n i : Nat) (hi : i < 32) (hn : n + 32 ≤ b.length) : (hsI b n i).set i b[n + i]! = hsI b n (i + 1) := by
  unfold hsI
  obtain ⟨m, hm⟩ : ∃ m, 32 - i = m + 1 := ⟨31 - i, by omega⟩
  have hl : ((b.drop n).take i).length = i := by simp; omega
  rw [hm, show 32 - (i + 1) = m by omega, List.set_append, if_neg (by omega), hl, Nat.sub_self, List.replicate_succ, List.set_cons_zero]
  have : (b.drop n).take (i + 1) = (b.drop n).take i ++ [b[n + i]!] := by
    rw [List.take_add_one, getElem!_pos b (n + i) (by omega)]
    simp [List.getElem?_drop, List.getElem?_eq_getElem (show n + i < b.length by omega)]
  rw [this]
  simp

theorem app_part (a b : List UInt8) (n : Nat) (h : b.length = n) : a.map D.u8 ++ ((b.map D.u8).drop 0).take n = (a ++ b).map D.u8 := by
  rw [List.drop_zero, List.take_of_length_le (by simp [h]), List.map_append]

def ridS (h : HdS) : Hs := twiceR (putS h)
theorem id_r : ridS = idS := by funext h; exact (twice_r _).symm
theorem ahd_pred (l : List HdS) (i : Nat) (h : 1 ≤ i) : ahd l i = idS l[i - 1]! := by
  obtain ⟨j, rfl⟩ : ∃ j, i = j + 1 := ⟨i - 1, by omega⟩
  rfl
theorem same_lawH (a b : List HdS) (hl : a.length = b.length) (i : Nat) (hi : i ≤ a.length) (hi2 : a.length ≤ i) (h : ∀ j, j < i → a[j]! = b[j]!) : a = b := by
  apply List.ext_getElem hl
  intro j h1 h2
  have := h j (by omega)
  rw [getElem!_pos a j h1, getElem!_pos b j h2] at this
  exact this
def heavyS (l : List HdS) (b : List UInt8) : Bool := decide (200 < l.length) || decide (16384 < b.length)
theorem heavy_l {l : List HdS} {b : List UInt8} (h : heavyS l b = false) : l.length ≤ 200 ∧ b.length ≤ 16384 := by
  unfold heavyS at h
  simp only [Bool.or_eq_false_iff, decide_eq_false_iff_not] at h
  omega
theorem EqV.up {P : Program} {k : Nat} {t : TypeId} {d1 d2 : D} {b : Bool} (j : Nat) (h : EqV P k t d1 d2 b) : EqV P (k + j) t d1 d2 b := by
  intro n w ρ1 ρ2 G1 G2 L1 L2 v1 v2 F1 F2 h1 h2
  have := h (n + j) w ρ1 ρ2 G1 G2 L1 L2 v1 v2 F1 F2 h1 h2
  rw [show n + (k + j) = n + j + k by omega]
  exact this
theorem hdr_beq (a b : HdS) : (a.ver == b.ver && (a.prev == b.prev && (a.root == b.root && (a.time == b.time && (a.bits == b.bits && (a.nonce == b.nonce && true)))))) = (a == b) := by
  rw [Bool.eq_iff_iff]
  obtain ⟨a1, a2, a3, a4, a5, a6⟩ := a
  obtain ⟨b1, b2, b3, b4, b5, b6⟩ := b
  simp only [Bool.and_eq_true, beq_iff_eq, and_true, HdS.mk.injEq]
end Go.Sx

namespace Go.Sx
open Go.Proofs
theorem numbers_ok (h : HdS) : FnB Tryd.prog gl 25 [.ptr 0 0 []] [(0, .var (hdrD h))] (.agg [.agg [.int ((0 : Nat) : Int), .ptr 0 0 [0]], .agg [.int ((68 : Nat) : Int), .ptr 0 65 [3]], .agg [.int ((72 : Nat) : Int), .ptr 0 66 [4]], .agg [.int ((76 : Nat) : Int), .ptr 0 67 [5]]]) [(0, .var (hdrD h))] [] := by
  refine FnB.of (n := 20) (ids := [0]) Tryd.func25 rfl rfl rfl (Nat.le_of_ble_eq_true rfl) fun C hC hD => ?_
  refine W.seq ?_
  refine W.line (n := 1) (by decide) (its := []) (ks := []) (kk := []) (live := [0]) (env' := [(0, _)])
    (⟨Nat.le_of_ble_eq_true rfl, rfl,
      trivial, rfl, rfl, rfl⟩)
    rfl (bx' := [(0, .var _)]) rfl (n' := 20) rfl (⟨rfl, _, R.alloc rfl (Nat.le_of_ble_eq_true rfl), ⟨[0, 2], [(0, _), (2, _)], [(2, .var _), (0, .var _)], 20, rfl, rfl, rfl, ?_⟩⟩)
  refine W.seq ?_
  refine W.draw (m := 17) (an := [0, 1, 3, 7, 0, 16, 48, 112, 0, 256, 768, 1792, 0, 4096, 12288, 28672, 65535, 131071]) hP (by decide) rfl (its := [⟨3, _, true⟩, ⟨4, _, true⟩, ⟨5, _, true⟩, ⟨6, _, true⟩, ⟨7, _, true⟩, ⟨8, _, true⟩, ⟨9, _, true⟩, ⟨10, _, true⟩, ⟨11, _, true⟩, ⟨12, _, true⟩, ⟨13, _, true⟩, ⟨14, _, true⟩, ⟨15, _, true⟩, ⟨16, _, true⟩, ⟨17, _, true⟩, ⟨18, _, true⟩, ⟨19, _, true⟩]) (ks := []) (kk := []) (live := [2, 19]) (env' := [(2, _), (19, _)])
    (⟨Nat.le_of_ble_eq_true rfl, rfl,
      ⟨⟨rfl, rfl, fun _ τ hb ht hτ => R.mov (evt (hτ 0 _ rfl)) rfl ht⟩,
      ⟨⟨rfl, rfl, fun _ τ hb ht hτ => R.nilcP (hτ 3 _ rfl) ht⟩,
      ⟨⟨rfl, rfl, fun _ τ hb ht hτ => R.fdP (hτ 4 _ rfl) ht⟩,
      ⟨⟨rfl, rfl, fun _ τ hb ht hτ => R.bldSP (.cons (show ev _ _ (.const (.int .i64 0)) = some (.int ((0 : Nat) : Int)) from rfl) (.cons (evt (hτ 5 _ rfl)) (.nil rfl))) ⟨⟨_, (show ev _ _ (.const (.int .i64 0)) = some (.int ((0 : Nat) : Int)) from rfl), rfl, rfl⟩, ⟨⟨_, (evt (hτ 5 _ rfl)), rfl, rfl⟩, trivial⟩⟩ ht⟩,
      ⟨⟨rfl, rfl, fun _ τ hb ht hτ => R.mov (evt (hτ 0 _ rfl)) rfl ht⟩,
      ⟨⟨rfl, rfl, fun _ τ hb ht hτ => R.nilcP (hτ 7 _ rfl) ht⟩,
      ⟨⟨rfl, rfl, fun _ τ hb ht hτ => R.fdP (hτ 8 _ rfl) ht⟩,
      ⟨⟨rfl, rfl, fun _ τ hb ht hτ => R.bldSP (.cons (show ev _ _ (.const (.int .i64 68)) = some (.int ((68 : Nat) : Int)) from rfl) (.cons (evt (hτ 9 _ rfl)) (.nil rfl))) ⟨⟨_, (show ev _ _ (.const (.int .i64 68)) = some (.int ((68 : Nat) : Int)) from rfl), rfl, rfl⟩, ⟨⟨_, (evt (hτ 9 _ rfl)), rfl, rfl⟩, trivial⟩⟩ ht⟩,
      ⟨⟨rfl, rfl, fun _ τ hb ht hτ => R.mov (evt (hτ 0 _ rfl)) rfl ht⟩,
      ⟨⟨rfl, rfl, fun _ τ hb ht hτ => R.nilcP (hτ 11 _ rfl) ht⟩,
      ⟨⟨rfl, rfl, fun _ τ hb ht hτ => R.fdP (hτ 12 _ rfl) ht⟩,
      ⟨⟨rfl, rfl, fun _ τ hb ht hτ => R.bldSP (.cons (show ev _ _ (.const (.int .i64 72)) = some (.int ((72 : Nat) : Int)) from rfl) (.cons (evt (hτ 13 _ rfl)) (.nil rfl))) ⟨⟨_, (show ev _ _ (.const (.int .i64 72)) = some (.int ((72 : Nat) : Int)) from rfl), rfl, rfl⟩, ⟨⟨_, (evt (hτ 13 _ rfl)), rfl, rfl⟩, trivial⟩⟩ ht⟩,
      ⟨⟨rfl, rfl, fun _ τ hb ht hτ => R.mov (evt (hτ 0 _ rfl)) rfl ht⟩,
      ⟨⟨rfl, rfl, fun _ τ hb ht hτ => R.nilcP (hτ 15 _ rfl) ht⟩,
      ⟨⟨rfl, rfl, fun _ τ hb ht hτ => R.fdP (hτ 16 _ rfl) ht⟩,
      ⟨⟨rfl, rfl, fun _ τ hb ht hτ => R.bldSP (.cons (show ev _ _ (.const (.int .i64 76)) = some (.int ((76 : Nat) : Int)) from rfl) (.cons (evt (hτ 17 _ rfl)) (.nil rfl))) ⟨⟨_, (show ev _ _ (.const (.int .i64 76)) = some (.int ((76 : Nat) : Int)) from rfl), rfl, rfl⟩, ⟨⟨_, (evt (hτ 17 _ rfl)), rfl, rfl⟩, trivial⟩⟩ ht⟩,
      ⟨⟨rfl, rfl, fun _ τ hb ht hτ => R.bldAG (.cons (evt (hτ 6 _ rfl)) (.cons (evt (hτ 10 _ rfl)) (.cons (evt (hτ 14 _ rfl)) (.cons (evt (hτ 18 _ rfl)) (.nil rfl))))) ⟨⟨_, (evt (hτ 6 _ rfl)), rfl, rfl⟩, ⟨⟨_, (evt (hτ 10 _ rfl)), rfl, rfl⟩, ⟨⟨_, (evt (hτ 14 _ rfl)), rfl, rfl⟩, ⟨⟨_, (evt (hτ 18 _ rfl)), rfl, rfl⟩, trivial⟩⟩⟩⟩ ht⟩,
      trivial⟩⟩⟩⟩⟩⟩⟩⟩⟩⟩⟩⟩⟩⟩⟩⟩⟩, rfl, rfl, rfl⟩)
    rfl (bx' := [(2, .var _), (0, .var _)]) rfl (n' := 20) rfl (⟨rfl, _, R.stP (show Sg.get _ 2 = some _ from rfl) (show Sg.box _ 2 = some _ from rfl) rfl (evt (show Sg.get _ 19 = some _ from rfl)) rfl rfl (by rfl) (by rfl) rfl, ⟨[2], [(2, _)], [(2, .var _), (0, .var _)], 20, rfl, rfl, rfl, ?_⟩⟩)
  refine W.ret ?_
  exact EndsB.one' (.inr rfl) rfl (rfl) rfl (show LdT _ 57 8 true from inferInstance) rfl rfl (rfl) ⟨rfl, trivial⟩ rfl

end Go.Sx

namespace Go.Sx
open Go.Proofs
theorem put_ok (h : HdS) (hw : h.wf) : Fn Tryd.prog gl 14 [hdrD h] (.sl (some 5) 1 ((putS h).map D.u8)) := by
  refine Fn.of (n := 42) Tryd.func14 rfl rfl rfl (Nat.le_of_ble_eq_true rfl) fun C hC hD => ?_
  have hw1 := hw.1
  have hw2 := hw.2
  have hp4 := put4_len h
  have hp5 := put5_len h hw
  refine W.seq ?_
  refine W.line (n := 2) (by decide) (its := []) (ks := []) (kk := []) (live := [0]) (env' := [(0, _)])
    (⟨Nat.le_of_ble_eq_true rfl, rfl,
      trivial, rfl, rfl, rfl⟩)
    rfl (bx' := []) rfl (n' := 42) rfl (⟨rfl, _, R.box (evt (show Sg.get _ 0 = some _ from rfl)) rfl rfl (Nat.le_of_ble_eq_true rfl), ⟨rfl, _, R.asg (show ev _ _ (.const (.slice none 0 0)) = some (.nils) from rfl) rfl (Nat.le_of_ble_eq_true rfl), ⟨[1], [(1, _)], [(1, .var _)], 42, rfl, rfl, rfl, ?_⟩⟩⟩)
  refine W.seq ?_
  refine W.line (n := 2) (by decide) (its := [⟨7, _, true⟩, ⟨3, _, true⟩]) (ks := [(1, 7)]) (kk := [(1, 7)]) (live := [1, 3]) (env' := [(1, _), (3, _)])
    (⟨Nat.le_of_ble_eq_true rfl, rfl,
      ⟨⟨rfl, rfl, fun _ τ hb ht hτ => R.mk (n := 80) (show ev _ _ (.const (.int .i64 80)) = some (.int ((80 : Nat) : Int)) from rfl) (show ev _ _ (.const (.int .i64 80)) = some (.int ((80 : Nat) : Int)) from rfl) (by first | omega | (simp only [List.length_map, List.length_append, List.length_cons, List.length_nil, List.length_take, List.length_drop, List.length_replicate]; omega) | (simp; omega)) (by decide) ht⟩,
      ⟨⟨rfl, rfl, fun _ τ hb ht hτ => R.asgO (hτ 7 _ rfl) rfl ht (by decide)⟩,
      trivial⟩⟩, rfl, rfl, rfl⟩)
    rfl (bx' := [(1, .var _)]) rfl (n' := 42) rfl (⟨[1, 3], [(1, _), (3, _)], [(1, .var _)], 42, rfl, rfl, rfl, ?_⟩)
  refine W.seq ?_
  refine W.seq ?_
  refine W.line (n := 2) (by decide) (its := []) (ks := []) (kk := []) (live := [1, 3]) (env' := [(1, _), (3, _)])
    (⟨Nat.le_of_ble_eq_true rfl, rfl,
      trivial, rfl, rfl, rfl⟩)
    rfl (bx' := [(1, .var _)]) rfl (n' := 42) rfl (⟨rfl, _, R.callB [(0, 1)] hC (numbers_ok h) (EvB.cons (evt (show Sg.get _ 1 = some _ from rfl)) rfl rfl rfl EvB.nil) rfl ⟨rfl, trivial⟩ ⟨rfl, trivial⟩ rfl rfl rfl rfl rfl rfl (Nat.le_of_ble_eq_true rfl), ⟨rfl, _, R.mov (show ev _ _ (.const (.int .i64 0)) = some (.int ((0 : Nat) : Int)) from rfl) rfl (Nat.le_of_ble_eq_true rfl), ⟨[1, 3, 8, 9], [(1, _), (3, _), (8, _), (9, _)], [(1, .var _)], 42, rfl, rfl, rfl, ?_⟩⟩⟩)
  refine W.block ?_
  refine W.loopU ?_
  refine WU.step ?_
  show W _ _ _ _ _
  refine W.dropS (live := [1, 3, 8, 9]) (env' := [(1, _), (3, _), (8, _), (9, _)]) (bx' := [(1, .var _)]) (n' := 42) rfl rfl rfl ?_
  refine W.seq ?_
  refine W.line (n := 1) (by decide) (its := [⟨10, _, true⟩]) (ks := []) (kk := []) (live := [1, 3, 8, 9, 10]) (env' := [(1, _), (3, _), (8, _), (9, _), (10, _)])
    (⟨Nat.le_of_ble_eq_true rfl, rfl,
      ⟨⟨rfl, rfl, fun _ τ hb ht hτ => R.lssN (0) (4) (evt (hτ 9 _ rfl)) (show ev _ _ (.const (.int .i64 4)) = some (.int ((4 : Nat) : Int)) from rfl) ht⟩,
      trivial⟩, rfl, rfl, rfl⟩)
    rfl (bx' := [(1, .var _)]) rfl (n' := 42) rfl (⟨[1, 3, 8, 9, 10], [(1, _), (3, _), (8, _), (9, _), (10, _)], [(1, .var _)], 42, rfl, rfl, rfl, ?_⟩)
  refine W.seq ?_
  refine W.condT rfl (rfl) ?_
  refine W.skip ?_
  refine W.seq ?_
  refine W.block ?_
  refine W.seq ?_
  refine W.line (n := 3) (by decide) (its := [⟨11, _, true⟩]) (ks := []) (kk := []) (live := [1, 3, 8, 9, 11]) (env' := [(1, _), (3, _), (8, _), (9, _), (11, _)])
    (⟨Nat.le_of_ble_eq_true rfl, rfl,
      ⟨⟨rfl, rfl, fun _ τ hb ht hτ => R.ixG (0) (evt (hτ 8 _ rfl)) (evoI (evt (hτ 9 _ rfl))) rfl rfl rfl rfl rfl rfl rfl ht⟩,
      trivial⟩, rfl, rfl, rfl⟩)
    rfl (bx' := [(1, .var _)]) rfl (n' := 42) rfl (⟨rfl, _, R.alloc rfl (Nat.le_of_ble_eq_true rfl), ⟨rfl, _, R.stP (show Sg.get _ 5 = some _ from rfl) (show Sg.box _ 5 = some _ from rfl) rfl (evt (show Sg.get _ 11 = some _ from rfl)) rfl rfl (by rfl) (by rfl) rfl, ⟨[1, 3, 5, 8, 9], [(1, _), (3, _), (5, _), (8, _), (9, _)], [(5, .var _), (1, .var _)], 42, rfl, rfl, rfl, ?_⟩⟩⟩)
  refine W.seq ?_
  refine W.line (n := 1) (by decide) (its := [⟨12, _, true⟩]) (ks := []) (kk := []) (live := [1, 3, 5, 8, 9, 12]) (env' := [(1, _), (3, _), (5, _), (8, _), (9, _), (12, _)])
    (⟨Nat.le_of_ble_eq_true rfl, rfl,
      ⟨⟨rfl, rfl, fun _ τ hb ht hτ => R.mov (show ev _ _ (.const (.int .i64 0)) = some (.int ((0 : Nat) : Int)) from rfl) rfl ht⟩,
      trivial⟩, rfl, rfl, rfl⟩)
    rfl (bx' := [(5, .var _), (1, .var _)]) rfl (n' := 42) rfl (⟨[1, 3, 5, 8, 9, 12], [(1, _), (3, _), (5, _), (8, _), (9, _), (12, _)], [(5, .var _), (1, .var _)], 42, rfl, rfl, rfl, ?_⟩)
  refine W.block ?_
  refine W.loop (α := {q__ : Nat // q__ ≤ 4}) (fun q__ => ⟨42, [(1, .ptr 1 0 []), (3, .sl (some 5) 1 ((setN b80 0 h.ver q__.1).map D.u8)), (5, .ptr 5 0 []), (8, .agg [.agg [.int ((0 : Nat) : Int), .ptr 1 0 [0]], .agg [.int ((68 : Nat) : Int), .ptr 1 65 [3]], .agg [.int ((72 : Nat) : Int), .ptr 1 66 [4]], .agg [.int ((76 : Nat) : Int), .ptr 1 67 [5]]]), (9, .int ((0 : Nat) : Int)), (12, .int ((q__.1 : Nat) : Int))], [(5, .var (.agg [.int ((0 : Nat) : Int), .ptr 1 0 [0]])), (1, .var (hdrD h))]⟩) (fun q__ => 4 - q__.1) ⟨(0), (by first | omega | (simp only [List.length_map, List.length_append, List.length_cons, List.length_nil, List.length_take, List.length_drop, List.length_replicate]; omega) | (simp; omega))⟩ (by first | rfl | (unfold b80; simp only [List.map_replicate]; rfl)) ?_
  rintro ⟨i, hi⟩
  show W _ _ _ _ ⟨42, [(1, .ptr 1 0 []), (3, .sl (some 5) 1 ((setN b80 0 h.ver i).map D.u8)), (5, .ptr 5 0 []), (8, .agg [.agg [.int ((0 : Nat) : Int), .ptr 1 0 [0]], .agg [.int ((68 : Nat) : Int), .ptr 1 65 [3]], .agg [.int ((72 : Nat) : Int), .ptr 1 66 [4]], .agg [.int ((76 : Nat) : Int), .ptr 1 67 [5]]]), (9, .int ((0 : Nat) : Int)), (12, .int ((i : Nat) : Int))], [(5, .var (.agg [.int ((0 : Nat) : Int), .ptr 1 0 [0]])), (1, .var (hdrD h))]⟩
  have hi : i ≤ 4 := hi
  have hsl : (setN b80 0 h.ver i).length = 80 := (setN_len _ _ _ _).trans (rfl)
  refine W.seq ?_
  refine W.line (n := 1) (by decide) (its := [⟨13, _, true⟩]) (ks := []) (kk := []) (live := [1, 3, 5, 8, 9, 12, 13]) (env' := [(1, _), (3, _), (5, _), (8, _), (9, _), (12, _), (13, _)])
    (⟨Nat.le_of_ble_eq_true rfl, rfl,
      ⟨⟨rfl, rfl, fun _ τ hb ht hτ => R.lssN (i) (4) (evt (hτ 12 _ rfl)) (show ev _ _ (.const (.int .i64 4)) = some (.int ((4 : Nat) : Int)) from rfl) ht⟩,
      trivial⟩, rfl, rfl, rfl⟩)
    rfl (bx' := [(5, .var _), (1, .var _)]) rfl (n' := 42) rfl (⟨[1, 3, 5, 8, 9, 12, 13], [(1, _), (3, _), (5, _), (8, _), (9, _), (12, _), (13, _)], [(5, .var _), (1, .var _)], 42, rfl, rfl, rfl, ?_⟩)
  refine W.seq ?_
  refine W.condD rfl (fun hc13 => ?_) (fun hc13 => ?_)
  · refine W.skip ?_
    refine W.seq ?_
    refine W.block ?_
    refine W.seq ?_
    refine W.line (n := 2) (by decide) (its := [⟨14, _, true⟩, ⟨6, _, true⟩]) (ks := []) (kk := []) (live := [1, 3, 5, 6, 8, 9, 12]) (env' := [(1, _), (3, _), (5, _), (6, _), (8, _), (9, _), (12, _)])
      (⟨Nat.le_of_ble_eq_true rfl, rfl,
        ⟨⟨rfl, rfl, fun _ τ hb ht hτ => R.mov (evt (hτ 12 _ rfl)) rfl ht⟩,
        ⟨⟨rfl, rfl, fun _ τ hb ht hτ => R.asg (evt (hτ 14 _ rfl)) rfl ht⟩,
        trivial⟩⟩, rfl, rfl, rfl⟩)
      rfl (bx' := [(5, .var _), (1, .var _)]) rfl (n' := 42) rfl (⟨[1, 3, 5, 6, 8, 9, 12], [(1, _), (3, _), (5, _), (6, _), (8, _), (9, _), (12, _)], [(5, .var _), (1, .var _)], 42, rfl, rfl, rfl, ?_⟩)
    refine W.draw (m := 14) (an := [0, 0, 2, 0, 14, 0, 32, 96, 224, 0, 512, 2016, 4064, 8191, 16383]) hP (by decide) rfl (its := [⟨15, _, true⟩, ⟨16, _, true⟩, ⟨17, _, true⟩, ⟨18, _, true⟩, ⟨19, _, true⟩, ⟨20, _, true⟩, ⟨21, _, true⟩, ⟨22, _, true⟩, ⟨23, _, true⟩, ⟨24, _, true⟩, ⟨25, _, true⟩, ⟨26, _, true⟩, ⟨27, _, true⟩, ⟨28, _, true⟩]) (ks := []) (kk := []) (live := [1, 3, 5, 8, 9, 12, 15, 27, 28]) (env' := [(1, _), (3, _), (5, _), (8, _), (9, _), (12, _), (15, _), (27, _), (28, _)])
      (⟨Nat.le_of_ble_eq_true rfl, rfl,
        ⟨⟨rfl, rfl, fun _ τ hb ht hτ => R.al (hτ 3 _ rfl) ht (by decide)⟩,
        ⟨⟨rfl, rfl, fun _ τ hb ht hτ => R.fdP (hτ 5 _ rfl) ht⟩,
        ⟨⟨rfl, rfl, fun _ τ hb ht hτ => R.ldP (hτ 16 _ rfl) (hb 5 _ rfl) rfl rfl rfl rfl ht⟩,
        ⟨⟨rfl, rfl, fun _ τ hb ht hτ => R.mov (evt (hτ 6 _ rfl)) rfl ht⟩,
        ⟨⟨rfl, rfl, fun _ τ hb ht hτ => R.addN (0) (i) (evt (hτ 17 _ rfl)) (evt (hτ 18 _ rfl)) (by first | omega | (simp only [List.length_map, List.length_append, List.length_cons, List.length_nil, List.length_take, List.length_drop, List.length_replicate]; omega) | (simp; omega)) ht⟩,
        ⟨⟨rfl, rfl, fun _ τ hb ht hτ => R.fdP (hτ 5 _ rfl) ht⟩,
        ⟨⟨rfl, rfl, fun _ τ hb ht hτ => R.ldP (hτ 20 _ rfl) (hb 5 _ rfl) rfl rfl rfl rfl ht⟩,
        ⟨⟨rfl, rfl, fun _ τ hb ht hτ => R.nilcP (hτ 21 _ rfl) ht⟩,
        ⟨⟨rfl, rfl, fun _ τ hb ht hτ => R.ldP (hτ 22 _ rfl) (hb 1 _ rfl) rfl rfl rfl rfl ht⟩,
        ⟨⟨rfl, rfl, fun _ τ hb ht hτ => R.mov (evt (hτ 6 _ rfl)) rfl ht⟩,
        ⟨⟨rfl, rfl, fun _ τ hb ht hτ => R.mulN (8) (i) (show ev _ _ (.const (.int .i64 8)) = some (.int ((8 : Nat) : Int)) from rfl) (evt (hτ 24 _ rfl)) (by first | omega | (simp only [List.length_map, List.length_append, List.length_cons, List.length_nil, List.length_take, List.length_drop, List.length_replicate]; omega) | (simp; omega)) ht⟩,
        ⟨⟨rfl, rfl, fun _ τ hb ht hτ => R.bin (evt (hτ 23 _ rfl)) (evt (hτ 25 _ rfl)) rfl (show (0 : Int) ≤ _ by first | omega | (simp only [List.length_map, List.length_append, List.length_cons, List.length_nil, List.length_take, List.length_drop, List.length_replicate]; omega) | (simp; omega)) ht⟩,
        ⟨⟨rfl, rfl, fun _ τ hb ht hτ => R.conv (evt (hτ 26 _ rfl)) rfl ht⟩,
        ⟨⟨rfl, rfl, fun _ τ hb ht hτ => R.idxN ((0 + i)) (SC.al (hτ 15 _ rfl) (hτ 3 _ rfl)) (evoI (evt (hτ 19 _ rfl))) rfl (by first | omega | (simp only [List.length_map, List.length_append, List.length_cons, List.length_nil, List.length_take, List.length_drop, List.length_replicate]; omega) | (simp; omega)) ht (by decide)⟩,
        trivial⟩⟩⟩⟩⟩⟩⟩⟩⟩⟩⟩⟩⟩⟩, rfl, rfl, rfl⟩)
      rfl (bx' := [(5, .var _), (1, .var _)]) rfl (n' := 42) rfl (⟨rfl, _, R.stEY (show Sg.get _ 28 = some _ from rfl) (Or.inr (show Sg.get _ 15 = some _ from rfl)) (show Sg.get _ 3 = some _ from rfl) (map_get! (l := (setN b80 0 h.ver i)) (by first | omega | (simp only [List.length_map, List.length_append, List.length_cons, List.length_nil, List.length_take, List.length_drop, List.length_replicate]; omega) | (simp; omega))) rfl (evt (show Sg.get _ 27 = some _ from rfl)) (by rfl) (by rfl) (by rfl) (by rfl) upd_nil set_map, ⟨[1, 3, 5, 8, 9, 12], [(1, _), (3, _), (5, _), (8, _), (9, _), (12, _)], [(5, .var _), (1, .var _)], 42, rfl, rfl, rfl, ?_⟩⟩)
    refine W.line (n := 2) (by decide) (its := [⟨29, _, true⟩, ⟨12, _, true⟩]) (ks := []) (kk := []) (live := [1, 3, 5, 8, 9, 12]) (env' := [(1, _), (3, _), (5, _), (8, _), (9, _), (12, _)])
      (⟨Nat.le_of_ble_eq_true rfl, rfl,
        ⟨⟨rfl, rfl, fun _ τ hb ht hτ => R.addN (i) (1) (evt (hτ 12 _ rfl)) (show ev _ _ (.const (.int .i64 1)) = some (.int ((1 : Nat) : Int)) from rfl) (by first | omega | (simp only [List.length_map, List.length_append, List.length_cons, List.length_nil, List.length_take, List.length_drop, List.length_replicate]; omega) | (simp; omega)) ht⟩,
        ⟨⟨rfl, rfl, fun _ τ hb ht hτ => R.mov (evt (hτ 29 _ rfl)) rfl ht⟩,
        trivial⟩⟩, rfl, rfl, rfl⟩)
      rfl (bx' := [(5, .var _), (1, .var _)]) rfl (n' := 42) rfl (⟨[1, 3, 5, 8, 9, 12], [(1, _), (3, _), (5, _), (8, _), (9, _), (12, _)], [(5, .var _), (1, .var _)], 42, rfl, rfl, rfl, ?_⟩)
    exact ⟨⟨(i + 1), (by first | omega | (simp only [List.length_map, List.length_append, List.length_cons, List.length_nil, List.length_take, List.length_drop, List.length_replicate]; omega) | (simp; omega))⟩, rfl, (by simp only []; omega)⟩
  · obtain rfl : i = 4 := by omega
    refine W.exit ?_
    refine W.line (n := 2) (by decide) (its := [⟨30, _, true⟩, ⟨9, _, true⟩]) (ks := []) (kk := []) (live := [1, 3, 8, 9]) (env' := [(1, _), (3, _), (8, _), (9, _)])
      (⟨Nat.le_of_ble_eq_true rfl, rfl,
        ⟨⟨rfl, rfl, fun _ τ hb ht hτ => R.addN (0) (1) (evt (hτ 9 _ rfl)) (show ev _ _ (.const (.int .i64 1)) = some (.int ((1 : Nat) : Int)) from rfl) (by first | omega | (simp only [List.length_map, List.length_append, List.length_cons, List.length_nil, List.length_take, List.length_drop, List.length_replicate]; omega) | (simp; omega)) ht⟩,
        ⟨⟨rfl, rfl, fun _ τ hb ht hτ => R.mov (evt (hτ 30 _ rfl)) rfl ht⟩,
        trivial⟩⟩, rfl, rfl, rfl⟩)
      rfl (bx' := [(5, .var _), (1, .var _)]) rfl (n' := 42) rfl (⟨[1, 3, 8, 9], [(1, _), (3, _), (8, _), (9, _)], [(5, .var _), (1, .var _)], 42, rfl, rfl, rfl, ?_⟩)
    refine WU.step ?_
    show W _ _ _ _ _
    refine W.dropS (live := [1, 3, 8, 9]) (env' := [(1, _), (3, _), (8, _), (9, _)]) (bx' := [(5, .var _), (1, .var _)]) (n' := 42) rfl rfl rfl ?_
    refine W.dropB [1] (bx' := [(1, .var _)]) rfl rfl rfl (pin_sub hD rfl) ?_
    refine W.seq ?_
    refine W.line (n := 1) (by decide) (its := [⟨10, _, true⟩]) (ks := []) (kk := []) (live := [1, 3, 8, 9, 10]) (env' := [(1, _), (3, _), (8, _), (9, _), (10, _)])
      (⟨Nat.le_of_ble_eq_true rfl, rfl,
        ⟨⟨rfl, rfl, fun _ τ hb ht hτ => R.lssN (1) (4) (evt (hτ 9 _ rfl)) (show ev _ _ (.const (.int .i64 4)) = some (.int ((4 : Nat) : Int)) from rfl) ht⟩,
        trivial⟩, rfl, rfl, rfl⟩)
      rfl (bx' := [(1, .var _)]) rfl (n' := 42) rfl (⟨[1, 3, 8, 9, 10], [(1, _), (3, _), (8, _), (9, _), (10, _)], [(1, .var _)], 42, rfl, rfl, rfl, ?_⟩)
    refine W.seq ?_
    refine W.condT rfl (rfl) ?_
    refine W.skip ?_
    refine W.seq ?_
    refine W.block ?_
    refine W.seq ?_
    refine W.line (n := 3) (by decide) (its := [⟨11, _, true⟩]) (ks := []) (kk := []) (live := [1, 3, 8, 9, 11]) (env' := [(1, _), (3, _), (8, _), (9, _), (11, _)])
      (⟨Nat.le_of_ble_eq_true rfl, rfl,
        ⟨⟨rfl, rfl, fun _ τ hb ht hτ => R.ixG (1) (evt (hτ 8 _ rfl)) (evoI (evt (hτ 9 _ rfl))) rfl rfl rfl rfl rfl rfl rfl ht⟩,
        trivial⟩, rfl, rfl, rfl⟩)
      rfl (bx' := [(1, .var _)]) rfl (n' := 42) rfl (⟨rfl, _, R.alloc rfl (Nat.le_of_ble_eq_true rfl), ⟨rfl, _, R.stP (show Sg.get _ 5 = some _ from rfl) (show Sg.box _ 5 = some _ from rfl) rfl (evt (show Sg.get _ 11 = some _ from rfl)) rfl rfl (by rfl) (by rfl) rfl, ⟨[1, 3, 5, 8, 9], [(1, _), (3, _), (5, _), (8, _), (9, _)], [(5, .var _), (1, .var _)], 42, rfl, rfl, rfl, ?_⟩⟩⟩)
    refine W.seq ?_
    refine W.line (n := 1) (by decide) (its := [⟨12, _, true⟩]) (ks := []) (kk := []) (live := [1, 3, 5, 8, 9, 12]) (env' := [(1, _), (3, _), (5, _), (8, _), (9, _), (12, _)])
      (⟨Nat.le_of_ble_eq_true rfl, rfl,
        ⟨⟨rfl, rfl, fun _ τ hb ht hτ => R.mov (show ev _ _ (.const (.int .i64 0)) = some (.int ((0 : Nat) : Int)) from rfl) rfl ht⟩,
        trivial⟩, rfl, rfl, rfl⟩)
      rfl (bx' := [(5, .var _), (1, .var _)]) rfl (n' := 42) rfl (⟨[1, 3, 5, 8, 9, 12], [(1, _), (3, _), (5, _), (8, _), (9, _), (12, _)], [(5, .var _), (1, .var _)], 42, rfl, rfl, rfl, ?_⟩)
    refine W.block ?_
    refine W.loop (α := {q__ : Nat // q__ ≤ 4}) (fun q__ => ⟨42, [(1, .ptr 1 0 []), (3, .sl (some 5) 1 ((setN (put1 h) 68 h.time q__.1).map D.u8)), (5, .ptr 5 0 []), (8, .agg [.agg [.int ((0 : Nat) : Int), .ptr 1 0 [0]], .agg [.int ((68 : Nat) : Int), .ptr 1 65 [3]], .agg [.int ((72 : Nat) : Int), .ptr 1 66 [4]], .agg [.int ((76 : Nat) : Int), .ptr 1 67 [5]]]), (9, .int ((1 : Nat) : Int)), (12, .int ((q__.1 : Nat) : Int))], [(5, .var (.agg [.int ((68 : Nat) : Int), .ptr 1 65 [3]])), (1, .var (hdrD h))]⟩) (fun q__ => 4 - q__.1) ⟨(0), (by first | omega | (simp only [List.length_map, List.length_append, List.length_cons, List.length_nil, List.length_take, List.length_drop, List.length_replicate]; omega) | (simp; omega))⟩ (by first | rfl | (unfold b80; simp only [List.map_replicate]; rfl)) ?_
    rintro ⟨i, hi⟩
    show W _ _ _ _ ⟨42, [(1, .ptr 1 0 []), (3, .sl (some 5) 1 ((setN (put1 h) 68 h.time i).map D.u8)), (5, .ptr 5 0 []), (8, .agg [.agg [.int ((0 : Nat) : Int), .ptr 1 0 [0]], .agg [.int ((68 : Nat) : Int), .ptr 1 65 [3]], .agg [.int ((72 : Nat) : Int), .ptr 1 66 [4]], .agg [.int ((76 : Nat) : Int), .ptr 1 67 [5]]]), (9, .int ((1 : Nat) : Int)), (12, .int ((i : Nat) : Int))], [(5, .var (.agg [.int ((68 : Nat) : Int), .ptr 1 65 [3]])), (1, .var (hdrD h))]⟩
    have hi : i ≤ 4 := hi
    have hsl : (setN (put1 h) 68 h.time i).length = 80 := (setN_len _ _ _ _).trans (put1_len h)
    refine W.seq ?_
    refine W.line (n := 1) (by decide) (its := [⟨13, _, true⟩]) (ks := []) (kk := []) (live := [1, 3, 5, 8, 9, 12, 13]) (env' := [(1, _), (3, _), (5, _), (8, _), (9, _), (12, _), (13, _)])
      (⟨Nat.le_of_ble_eq_true rfl, rfl,
        ⟨⟨rfl, rfl, fun _ τ hb ht hτ => R.lssN (i) (4) (evt (hτ 12 _ rfl)) (show ev _ _ (.const (.int .i64 4)) = some (.int ((4 : Nat) : Int)) from rfl) ht⟩,
        trivial⟩, rfl, rfl, rfl⟩)
      rfl (bx' := [(5, .var _), (1, .var _)]) rfl (n' := 42) rfl (⟨[1, 3, 5, 8, 9, 12, 13], [(1, _), (3, _), (5, _), (8, _), (9, _), (12, _), (13, _)], [(5, .var _), (1, .var _)], 42, rfl, rfl, rfl, ?_⟩)
    refine W.seq ?_
    refine W.condD rfl (fun hc13 => ?_) (fun hc13 => ?_)
    · refine W.skip ?_
      refine W.seq ?_
      refine W.block ?_
      refine W.seq ?_
      refine W.line (n := 2) (by decide) (its := [⟨14, _, true⟩, ⟨6, _, true⟩]) (ks := []) (kk := []) (live := [1, 3, 5, 6, 8, 9, 12]) (env' := [(1, _), (3, _), (5, _), (6, _), (8, _), (9, _), (12, _)])
        (⟨Nat.le_of_ble_eq_true rfl, rfl,
          ⟨⟨rfl, rfl, fun _ τ hb ht hτ => R.mov (evt (hτ 12 _ rfl)) rfl ht⟩,
          ⟨⟨rfl, rfl, fun _ τ hb ht hτ => R.asg (evt (hτ 14 _ rfl)) rfl ht⟩,
          trivial⟩⟩, rfl, rfl, rfl⟩)
        rfl (bx' := [(5, .var _), (1, .var _)]) rfl (n' := 42) rfl (⟨[1, 3, 5, 6, 8, 9, 12], [(1, _), (3, _), (5, _), (6, _), (8, _), (9, _), (12, _)], [(5, .var _), (1, .var _)], 42, rfl, rfl, rfl, ?_⟩)
      refine W.draw (m := 14) (an := [0, 0, 2, 0, 14, 0, 32, 96, 224, 0, 512, 2016, 4064, 8191, 16383]) hP (by decide) rfl (its := [⟨15, _, true⟩, ⟨16, _, true⟩, ⟨17, _, true⟩, ⟨18, _, true⟩, ⟨19, _, true⟩, ⟨20, _, true⟩, ⟨21, _, true⟩, ⟨22, _, true⟩, ⟨23, _, true⟩, ⟨24, _, true⟩, ⟨25, _, true⟩, ⟨26, _, true⟩, ⟨27, _, true⟩, ⟨28, _, true⟩]) (ks := []) (kk := []) (live := [1, 3, 5, 8, 9, 12, 15, 27, 28]) (env' := [(1, _), (3, _), (5, _), (8, _), (9, _), (12, _), (15, _), (27, _), (28, _)])
        (⟨Nat.le_of_ble_eq_true rfl, rfl,
          ⟨⟨rfl, rfl, fun _ τ hb ht hτ => R.al (hτ 3 _ rfl) ht (by decide)⟩,
          ⟨⟨rfl, rfl, fun _ τ hb ht hτ => R.fdP (hτ 5 _ rfl) ht⟩,
          ⟨⟨rfl, rfl, fun _ τ hb ht hτ => R.ldP (hτ 16 _ rfl) (hb 5 _ rfl) rfl rfl rfl rfl ht⟩,
          ⟨⟨rfl, rfl, fun _ τ hb ht hτ => R.mov (evt (hτ 6 _ rfl)) rfl ht⟩,
          ⟨⟨rfl, rfl, fun _ τ hb ht hτ => R.addN (68) (i) (evt (hτ 17 _ rfl)) (evt (hτ 18 _ rfl)) (by first | omega | (simp only [List.length_map, List.length_append, List.length_cons, List.length_nil, List.length_take, List.length_drop, List.length_replicate]; omega) | (simp; omega)) ht⟩,
          ⟨⟨rfl, rfl, fun _ τ hb ht hτ => R.fdP (hτ 5 _ rfl) ht⟩,
          ⟨⟨rfl, rfl, fun _ τ hb ht hτ => R.ldP (hτ 20 _ rfl) (hb 5 _ rfl) rfl rfl rfl rfl ht⟩,
          ⟨⟨rfl, rfl, fun _ τ hb ht hτ => R.nilcP (hτ 21 _ rfl) ht⟩,
          ⟨⟨rfl, rfl, fun _ τ hb ht hτ => R.ldP (hτ 22 _ rfl) (hb 1 _ rfl) rfl rfl rfl rfl ht⟩,
          ⟨⟨rfl, rfl, fun _ τ hb ht hτ => R.mov (evt (hτ 6 _ rfl)) rfl ht⟩,
          ⟨⟨rfl, rfl, fun _ τ hb ht hτ => R.mulN (8) (i) (show ev _ _ (.const (.int .i64 8)) = some (.int ((8 : Nat) : Int)) from rfl) (evt (hτ 24 _ rfl)) (by first | omega | (simp only [List.length_map, List.length_append, List.length_cons, List.length_nil, List.length_take, List.length_drop, List.length_replicate]; omega) | (simp; omega)) ht⟩,
          ⟨⟨rfl, rfl, fun _ τ hb ht hτ => R.bin (evt (hτ 23 _ rfl)) (evt (hτ 25 _ rfl)) rfl (show (0 : Int) ≤ _ by first | omega | (simp only [List.length_map, List.length_append, List.length_cons, List.length_nil, List.length_take, List.length_drop, List.length_replicate]; omega) | (simp; omega)) ht⟩,
          ⟨⟨rfl, rfl, fun _ τ hb ht hτ => R.conv (evt (hτ 26 _ rfl)) rfl ht⟩,
          ⟨⟨rfl, rfl, fun _ τ hb ht hτ => R.idxN ((68 + i)) (SC.al (hτ 15 _ rfl) (hτ 3 _ rfl)) (evoI (evt (hτ 19 _ rfl))) rfl (by first | omega | (simp only [List.length_map, List.length_append, List.length_cons, List.length_nil, List.length_take, List.length_drop, List.length_replicate]; omega) | (simp; omega)) ht (by decide)⟩,
          trivial⟩⟩⟩⟩⟩⟩⟩⟩⟩⟩⟩⟩⟩⟩, rfl, rfl, rfl⟩)
        rfl (bx' := [(5, .var _), (1, .var _)]) rfl (n' := 42) rfl (⟨rfl, _, R.stEY (show Sg.get _ 28 = some _ from rfl) (Or.inr (show Sg.get _ 15 = some _ from rfl)) (show Sg.get _ 3 = some _ from rfl) (map_get! (l := (setN (put1 h) 68 h.time i)) (by first | omega | (simp only [List.length_map, List.length_append, List.length_cons, List.length_nil, List.length_take, List.length_drop, List.length_replicate]; omega) | (simp; omega))) rfl (evt (show Sg.get _ 27 = some _ from rfl)) (by rfl) (by rfl) (by rfl) (by rfl) upd_nil set_map, ⟨[1, 3, 5, 8, 9, 12], [(1, _), (3, _), (5, _), (8, _), (9, _), (12, _)], [(5, .var _), (1, .var _)], 42, rfl, rfl, rfl, ?_⟩⟩)
      refine W.line (n := 2) (by decide) (its := [⟨29, _, true⟩, ⟨12, _, true⟩]) (ks := []) (kk := []) (live := [1, 3, 5, 8, 9, 12]) (env' := [(1, _), (3, _), (5, _), (8, _), (9, _), (12, _)])
        (⟨Nat.le_of_ble_eq_true rfl, rfl,
          ⟨⟨rfl, rfl, fun _ τ hb ht hτ => R.addN (i) (1) (evt (hτ 12 _ rfl)) (show ev _ _ (.const (.int .i64 1)) = some (.int ((1 : Nat) : Int)) from rfl) (by first | omega | (simp only [List.length_map, List.length_append, List.length_cons, List.length_nil, List.length_take, List.length_drop, List.length_replicate]; omega) | (simp; omega)) ht⟩,
          ⟨⟨rfl, rfl, fun _ τ hb ht hτ => R.mov (evt (hτ 29 _ rfl)) rfl ht⟩,
          trivial⟩⟩, rfl, rfl, rfl⟩)
        rfl (bx' := [(5, .var _), (1, .var _)]) rfl (n' := 42) rfl (⟨[1, 3, 5, 8, 9, 12], [(1, _), (3, _), (5, _), (8, _), (9, _), (12, _)], [(5, .var _), (1, .var _)], 42, rfl, rfl, rfl, ?_⟩)
      exact ⟨⟨(i + 1), (by first | omega | (simp only [List.length_map, List.length_append, List.length_cons, List.length_nil, List.length_take, List.length_drop, List.length_replicate]; omega) | (simp; omega))⟩, rfl, (by simp only []; omega)⟩
    · obtain rfl : i = 4 := by omega
      refine W.exit ?_
      refine W.line (n := 2) (by decide) (its := [⟨30, _, true⟩, ⟨9, _, true⟩]) (ks := []) (kk := []) (live := [1, 3, 8, 9]) (env' := [(1, _), (3, _), (8, _), (9, _)])
        (⟨Nat.le_of_ble_eq_true rfl, rfl,
          ⟨⟨rfl, rfl, fun _ τ hb ht hτ => R.addN (1) (1) (evt (hτ 9 _ rfl)) (show ev _ _ (.const (.int .i64 1)) = some (.int ((1 : Nat) : Int)) from rfl) (by first | omega | (simp only [List.length_map, List.length_append, List.length_cons, List.length_nil, List.length_take, List.length_drop, List.length_replicate]; omega) | (simp; omega)) ht⟩,
          ⟨⟨rfl, rfl, fun _ τ hb ht hτ => R.mov (evt (hτ 30 _ rfl)) rfl ht⟩,
          trivial⟩⟩, rfl, rfl, rfl⟩)
        rfl (bx' := [(5, .var _), (1, .var _)]) rfl (n' := 42) rfl (⟨[1, 3, 8, 9], [(1, _), (3, _), (8, _), (9, _)], [(5, .var _), (1, .var _)], 42, rfl, rfl, rfl, ?_⟩)
      refine WU.step ?_
      show W _ _ _ _ _
      refine W.dropS (live := [1, 3, 8, 9]) (env' := [(1, _), (3, _), (8, _), (9, _)]) (bx' := [(5, .var _), (1, .var _)]) (n' := 42) rfl rfl rfl ?_
      refine W.dropB [1] (bx' := [(1, .var _)]) rfl rfl rfl (pin_sub hD rfl) ?_
      refine W.seq ?_
      refine W.line (n := 1) (by decide) (its := [⟨10, _, true⟩]) (ks := []) (kk := []) (live := [1, 3, 8, 9, 10]) (env' := [(1, _), (3, _), (8, _), (9, _), (10, _)])
        (⟨Nat.le_of_ble_eq_true rfl, rfl,
          ⟨⟨rfl, rfl, fun _ τ hb ht hτ => R.lssN (2) (4) (evt (hτ 9 _ rfl)) (show ev _ _ (.const (.int .i64 4)) = some (.int ((4 : Nat) : Int)) from rfl) ht⟩,
          trivial⟩, rfl, rfl, rfl⟩)
        rfl (bx' := [(1, .var _)]) rfl (n' := 42) rfl (⟨[1, 3, 8, 9, 10], [(1, _), (3, _), (8, _), (9, _), (10, _)], [(1, .var _)], 42, rfl, rfl, rfl, ?_⟩)
      refine W.seq ?_
      refine W.condT rfl (rfl) ?_
      refine W.skip ?_
      refine W.seq ?_
      refine W.block ?_
      refine W.seq ?_
      refine W.line (n := 3) (by decide) (its := [⟨11, _, true⟩]) (ks := []) (kk := []) (live := [1, 3, 8, 9, 11]) (env' := [(1, _), (3, _), (8, _), (9, _), (11, _)])
        (⟨Nat.le_of_ble_eq_true rfl, rfl,
          ⟨⟨rfl, rfl, fun _ τ hb ht hτ => R.ixG (2) (evt (hτ 8 _ rfl)) (evoI (evt (hτ 9 _ rfl))) rfl rfl rfl rfl rfl rfl rfl ht⟩,
          trivial⟩, rfl, rfl, rfl⟩)
        rfl (bx' := [(1, .var _)]) rfl (n' := 42) rfl (⟨rfl, _, R.alloc rfl (Nat.le_of_ble_eq_true rfl), ⟨rfl, _, R.stP (show Sg.get _ 5 = some _ from rfl) (show Sg.box _ 5 = some _ from rfl) rfl (evt (show Sg.get _ 11 = some _ from rfl)) rfl rfl (by rfl) (by rfl) rfl, ⟨[1, 3, 5, 8, 9], [(1, _), (3, _), (5, _), (8, _), (9, _)], [(5, .var _), (1, .var _)], 42, rfl, rfl, rfl, ?_⟩⟩⟩)
      refine W.seq ?_
      refine W.line (n := 1) (by decide) (its := [⟨12, _, true⟩]) (ks := []) (kk := []) (live := [1, 3, 5, 8, 9, 12]) (env' := [(1, _), (3, _), (5, _), (8, _), (9, _), (12, _)])
        (⟨Nat.le_of_ble_eq_true rfl, rfl,
          ⟨⟨rfl, rfl, fun _ τ hb ht hτ => R.mov (show ev _ _ (.const (.int .i64 0)) = some (.int ((0 : Nat) : Int)) from rfl) rfl ht⟩,
          trivial⟩, rfl, rfl, rfl⟩)
        rfl (bx' := [(5, .var _), (1, .var _)]) rfl (n' := 42) rfl (⟨[1, 3, 5, 8, 9, 12], [(1, _), (3, _), (5, _), (8, _), (9, _), (12, _)], [(5, .var _), (1, .var _)], 42, rfl, rfl, rfl, ?_⟩)
      refine W.block ?_
      refine W.loop (α := {q__ : Nat // q__ ≤ 4}) (fun q__ => ⟨42, [(1, .ptr 1 0 []), (3, .sl (some 5) 1 ((setN (put2 h) 72 h.bits q__.1).map D.u8)), (5, .ptr 5 0 []), (8, .agg [.agg [.int ((0 : Nat) : Int), .ptr 1 0 [0]], .agg [.int ((68 : Nat) : Int), .ptr 1 65 [3]], .agg [.int ((72 : Nat) : Int), .ptr 1 66 [4]], .agg [.int ((76 : Nat) : Int), .ptr 1 67 [5]]]), (9, .int ((2 : Nat) : Int)), (12, .int ((q__.1 : Nat) : Int))], [(5, .var (.agg [.int ((72 : Nat) : Int), .ptr 1 66 [4]])), (1, .var (hdrD h))]⟩) (fun q__ => 4 - q__.1) ⟨(0), (by first | omega | (simp only [List.length_map, List.length_append, List.length_cons, List.length_nil, List.length_take, List.length_drop, List.length_replicate]; omega) | (simp; omega))⟩ (by first | rfl | (unfold b80; simp only [List.map_replicate]; rfl)) ?_
      rintro ⟨i, hi⟩
      show W _ _ _ _ ⟨42, [(1, .ptr 1 0 []), (3, .sl (some 5) 1 ((setN (put2 h) 72 h.bits i).map D.u8)), (5, .ptr 5 0 []), (8, .agg [.agg [.int ((0 : Nat) : Int), .ptr 1 0 [0]], .agg [.int ((68 : Nat) : Int), .ptr 1 65 [3]], .agg [.int ((72 : Nat) : Int), .ptr 1 66 [4]], .agg [.int ((76 : Nat) : Int), .ptr 1 67 [5]]]), (9, .int ((2 : Nat) : Int)), (12, .int ((i : Nat) : Int))], [(5, .var (.agg [.int ((72 : Nat) : Int), .ptr 1 66 [4]])), (1, .var (hdrD h))]⟩
      have hi : i ≤ 4 := hi
      have hsl : (setN (put2 h) 72 h.bits i).length = 80 := (setN_len _ _ _ _).trans (put2_len h)
      refine W.seq ?_
      refine W.line (n := 1) (by decide) (its := [⟨13, _, true⟩]) (ks := []) (kk := []) (live := [1, 3, 5, 8, 9, 12, 13]) (env' := [(1, _), (3, _), (5, _), (8, _), (9, _), (12, _), (13, _)])
        (⟨Nat.le_of_ble_eq_true rfl, rfl,
          ⟨⟨rfl, rfl, fun _ τ hb ht hτ => R.lssN (i) (4) (evt (hτ 12 _ rfl)) (show ev _ _ (.const (.int .i64 4)) = some (.int ((4 : Nat) : Int)) from rfl) ht⟩,
          trivial⟩, rfl, rfl, rfl⟩)
        rfl (bx' := [(5, .var _), (1, .var _)]) rfl (n' := 42) rfl (⟨[1, 3, 5, 8, 9, 12, 13], [(1, _), (3, _), (5, _), (8, _), (9, _), (12, _), (13, _)], [(5, .var _), (1, .var _)], 42, rfl, rfl, rfl, ?_⟩)
      refine W.seq ?_
      refine W.condD rfl (fun hc13 => ?_) (fun hc13 => ?_)
      · refine W.skip ?_
        refine W.seq ?_
        refine W.block ?_
        refine W.seq ?_
        refine W.line (n := 2) (by decide) (its := [⟨14, _, true⟩, ⟨6, _, true⟩]) (ks := []) (kk := []) (live := [1, 3, 5, 6, 8, 9, 12]) (env' := [(1, _), (3, _), (5, _), (6, _), (8, _), (9, _), (12, _)])
          (⟨Nat.le_of_ble_eq_true rfl, rfl,
            ⟨⟨rfl, rfl, fun _ τ hb ht hτ => R.mov (evt (hτ 12 _ rfl)) rfl ht⟩,
            ⟨⟨rfl, rfl, fun _ τ hb ht hτ => R.asg (evt (hτ 14 _ rfl)) rfl ht⟩,
            trivial⟩⟩, rfl, rfl, rfl⟩)
          rfl (bx' := [(5, .var _), (1, .var _)]) rfl (n' := 42) rfl (⟨[1, 3, 5, 6, 8, 9, 12], [(1, _), (3, _), (5, _), (6, _), (8, _), (9, _), (12, _)], [(5, .var _), (1, .var _)], 42, rfl, rfl, rfl, ?_⟩)
        refine W.draw (m := 14) (an := [0, 0, 2, 0, 14, 0, 32, 96, 224, 0, 512, 2016, 4064, 8191, 16383]) hP (by decide) rfl (its := [⟨15, _, true⟩, ⟨16, _, true⟩, ⟨17, _, true⟩, ⟨18, _, true⟩, ⟨19, _, true⟩, ⟨20, _, true⟩, ⟨21, _, true⟩, ⟨22, _, true⟩, ⟨23, _, true⟩, ⟨24, _, true⟩, ⟨25, _, true⟩, ⟨26, _, true⟩, ⟨27, _, true⟩, ⟨28, _, true⟩]) (ks := []) (kk := []) (live := [1, 3, 5, 8, 9, 12, 15, 27, 28]) (env' := [(1, _), (3, _), (5, _), (8, _), (9, _), (12, _), (15, _), (27, _), (28, _)])
          (⟨Nat.le_of_ble_eq_true rfl, rfl,
            ⟨⟨rfl, rfl, fun _ τ hb ht hτ => R.al (hτ 3 _ rfl) ht (by decide)⟩,
            ⟨⟨rfl, rfl, fun _ τ hb ht hτ => R.fdP (hτ 5 _ rfl) ht⟩,
            ⟨⟨rfl, rfl, fun _ τ hb ht hτ => R.ldP (hτ 16 _ rfl) (hb 5 _ rfl) rfl rfl rfl rfl ht⟩,
            ⟨⟨rfl, rfl, fun _ τ hb ht hτ => R.mov (evt (hτ 6 _ rfl)) rfl ht⟩,
            ⟨⟨rfl, rfl, fun _ τ hb ht hτ => R.addN (72) (i) (evt (hτ 17 _ rfl)) (evt (hτ 18 _ rfl)) (by first | omega | (simp only [List.length_map, List.length_append, List.length_cons, List.length_nil, List.length_take, List.length_drop, List.length_replicate]; omega) | (simp; omega)) ht⟩,
            ⟨⟨rfl, rfl, fun _ τ hb ht hτ => R.fdP (hτ 5 _ rfl) ht⟩,
            ⟨⟨rfl, rfl, fun _ τ hb ht hτ => R.ldP (hτ 20 _ rfl) (hb 5 _ rfl) rfl rfl rfl rfl ht⟩,
            ⟨⟨rfl, rfl, fun _ τ hb ht hτ => R.nilcP (hτ 21 _ rfl) ht⟩,
            ⟨⟨rfl, rfl, fun _ τ hb ht hτ => R.ldP (hτ 22 _ rfl) (hb 1 _ rfl) rfl rfl rfl rfl ht⟩,
            ⟨⟨rfl, rfl, fun _ τ hb ht hτ => R.mov (evt (hτ 6 _ rfl)) rfl ht⟩,
            ⟨⟨rfl, rfl, fun _ τ hb ht hτ => R.mulN (8) (i) (show ev _ _ (.const (.int .i64 8)) = some (.int ((8 : Nat) : Int)) from rfl) (evt (hτ 24 _ rfl)) (by first | omega | (simp only [List.length_map, List.length_append, List.length_cons, List.length_nil, List.length_take, List.length_drop, List.length_replicate]; omega) | (simp; omega)) ht⟩,
            ⟨⟨rfl, rfl, fun _ τ hb ht hτ => R.bin (evt (hτ 23 _ rfl)) (evt (hτ 25 _ rfl)) rfl (show (0 : Int) ≤ _ by first | omega | (simp only [List.length_map, List.length_append, List.length_cons, List.length_nil, List.length_take, List.length_drop, List.length_replicate]; omega) | (simp; omega)) ht⟩,
            ⟨⟨rfl, rfl, fun _ τ hb ht hτ => R.conv (evt (hτ 26 _ rfl)) rfl ht⟩,
            ⟨⟨rfl, rfl, fun _ τ hb ht hτ => R.idxN ((72 + i)) (SC.al (hτ 15 _ rfl) (hτ 3 _ rfl)) (evoI (evt (hτ 19 _ rfl))) rfl (by first | omega | (simp only [List.length_map, List.length_append, List.length_cons, List.length_nil, List.length_take, List.length_drop, List.length_replicate]; omega) | (simp; omega)) ht (by decide)⟩,
            trivial⟩⟩⟩⟩⟩⟩⟩⟩⟩⟩⟩⟩⟩⟩, rfl, rfl, rfl⟩)
          rfl (bx' := [(5, .var _), (1, .var _)]) rfl (n' := 42) rfl (⟨rfl, _, R.stEY (show Sg.get _ 28 = some _ from rfl) (Or.inr (show Sg.get _ 15 = some _ from rfl)) (show Sg.get _ 3 = some _ from rfl) (map_get! (l := (setN (put2 h) 72 h.bits i)) (by first | omega | (simp only [List.length_map, List.length_append, List.length_cons, List.length_nil, List.length_take, List.length_drop, List.length_replicate]; omega) | (simp; omega))) rfl (evt (show Sg.get _ 27 = some _ from rfl)) (by rfl) (by rfl) (by rfl) (by rfl) upd_nil set_map, ⟨[1, 3, 5, 8, 9, 12], [(1, _), (3, _), (5, _), (8, _), (9, _), (12, _)], [(5, .var _), (1, .var _)], 42, rfl, rfl, rfl, ?_⟩⟩)
        refine W.line (n := 2) (by decide) (its := [⟨29, _, true⟩, ⟨12, _, true⟩]) (ks := []) (kk := []) (live := [1, 3, 5, 8, 9, 12]) (env' := [(1, _), (3, _), (5, _), (8, _), (9, _), (12, _)])
          (⟨Nat.le_of_ble_eq_true rfl, rfl,
            ⟨⟨rfl, rfl, fun _ τ hb ht hτ => R.addN (i) (1) (evt (hτ 12 _ rfl)) (show ev _ _ (.const (.int .i64 1)) = some (.int ((1 : Nat) : Int)) from rfl) (by first | omega | (simp only [List.length_map, List.length_append, List.length_cons, List.length_nil, List.length_take, List.length_drop, List.length_replicate]; omega) | (simp; omega)) ht⟩,
            ⟨⟨rfl, rfl, fun _ τ hb ht hτ => R.mov (evt (hτ 29 _ rfl)) rfl ht⟩,
            trivial⟩⟩, rfl, rfl, rfl⟩)
          rfl (bx' := [(5, .var _), (1, .var _)]) rfl (n' := 42) rfl (⟨[1, 3, 5, 8, 9, 12], [(1, _), (3, _), (5, _), (8, _), (9, _), (12, _)], [(5, .var _), (1, .var _)], 42, rfl, rfl, rfl, ?_⟩)
        exact ⟨⟨(i + 1), (by first | omega | (simp only [List.length_map, List.length_append, List.length_cons, List.length_nil, List.length_take, List.length_drop, List.length_replicate]; omega) | (simp; omega))⟩, rfl, (by simp only []; omega)⟩
      · obtain rfl : i = 4 := by omega
        refine W.exit ?_
        refine W.line (n := 2) (by decide) (its := [⟨30, _, true⟩, ⟨9, _, true⟩]) (ks := []) (kk := []) (live := [1, 3, 8, 9]) (env' := [(1, _), (3, _), (8, _), (9, _)])
          (⟨Nat.le_of_ble_eq_true rfl, rfl,
            ⟨⟨rfl, rfl, fun _ τ hb ht hτ => R.addN (2) (1) (evt (hτ 9 _ rfl)) (show ev _ _ (.const (.int .i64 1)) = some (.int ((1 : Nat) : Int)) from rfl) (by first | omega | (simp only [List.length_map, List.length_append, List.length_cons, List.length_nil, List.length_take, List.length_drop, List.length_replicate]; omega) | (simp; omega)) ht⟩,
            ⟨⟨rfl, rfl, fun _ τ hb ht hτ => R.mov (evt (hτ 30 _ rfl)) rfl ht⟩,
            trivial⟩⟩, rfl, rfl, rfl⟩)
          rfl (bx' := [(5, .var _), (1, .var _)]) rfl (n' := 42) rfl (⟨[1, 3, 8, 9], [(1, _), (3, _), (8, _), (9, _)], [(5, .var _), (1, .var _)], 42, rfl, rfl, rfl, ?_⟩)
        refine WU.step ?_
        show W _ _ _ _ _
        refine W.dropS (live := [1, 3, 8, 9]) (env' := [(1, _), (3, _), (8, _), (9, _)]) (bx' := [(5, .var _), (1, .var _)]) (n' := 42) rfl rfl rfl ?_
        refine W.dropB [1] (bx' := [(1, .var _)]) rfl rfl rfl (pin_sub hD rfl) ?_
        refine W.seq ?_
        refine W.line (n := 1) (by decide) (its := [⟨10, _, true⟩]) (ks := []) (kk := []) (live := [1, 3, 8, 9, 10]) (env' := [(1, _), (3, _), (8, _), (9, _), (10, _)])
          (⟨Nat.le_of_ble_eq_true rfl, rfl,
            ⟨⟨rfl, rfl, fun _ τ hb ht hτ => R.lssN (3) (4) (evt (hτ 9 _ rfl)) (show ev _ _ (.const (.int .i64 4)) = some (.int ((4 : Nat) : Int)) from rfl) ht⟩,
            trivial⟩, rfl, rfl, rfl⟩)
          rfl (bx' := [(1, .var _)]) rfl (n' := 42) rfl (⟨[1, 3, 8, 9, 10], [(1, _), (3, _), (8, _), (9, _), (10, _)], [(1, .var _)], 42, rfl, rfl, rfl, ?_⟩)
        refine W.seq ?_
        refine W.condT rfl (rfl) ?_
        refine W.skip ?_
        refine W.seq ?_
        refine W.block ?_
        refine W.seq ?_
        refine W.line (n := 3) (by decide) (its := [⟨11, _, true⟩]) (ks := []) (kk := []) (live := [1, 3, 8, 9, 11]) (env' := [(1, _), (3, _), (8, _), (9, _), (11, _)])
          (⟨Nat.le_of_ble_eq_true rfl, rfl,
            ⟨⟨rfl, rfl, fun _ τ hb ht hτ => R.ixG (3) (evt (hτ 8 _ rfl)) (evoI (evt (hτ 9 _ rfl))) rfl rfl rfl rfl rfl rfl rfl ht⟩,
            trivial⟩, rfl, rfl, rfl⟩)
          rfl (bx' := [(1, .var _)]) rfl (n' := 42) rfl (⟨rfl, _, R.alloc rfl (Nat.le_of_ble_eq_true rfl), ⟨rfl, _, R.stP (show Sg.get _ 5 = some _ from rfl) (show Sg.box _ 5 = some _ from rfl) rfl (evt (show Sg.get _ 11 = some _ from rfl)) rfl rfl (by rfl) (by rfl) rfl, ⟨[1, 3, 5, 8, 9], [(1, _), (3, _), (5, _), (8, _), (9, _)], [(5, .var _), (1, .var _)], 42, rfl, rfl, rfl, ?_⟩⟩⟩)
        refine W.seq ?_
        refine W.line (n := 1) (by decide) (its := [⟨12, _, true⟩]) (ks := []) (kk := []) (live := [1, 3, 5, 8, 9, 12]) (env' := [(1, _), (3, _), (5, _), (8, _), (9, _), (12, _)])
          (⟨Nat.le_of_ble_eq_true rfl, rfl,
            ⟨⟨rfl, rfl, fun _ τ hb ht hτ => R.mov (show ev _ _ (.const (.int .i64 0)) = some (.int ((0 : Nat) : Int)) from rfl) rfl ht⟩,
            trivial⟩, rfl, rfl, rfl⟩)
          rfl (bx' := [(5, .var _), (1, .var _)]) rfl (n' := 42) rfl (⟨[1, 3, 5, 8, 9, 12], [(1, _), (3, _), (5, _), (8, _), (9, _), (12, _)], [(5, .var _), (1, .var _)], 42, rfl, rfl, rfl, ?_⟩)
        refine W.block ?_
        refine W.loop (α := {q__ : Nat // q__ ≤ 4}) (fun q__ => ⟨42, [(1, .ptr 1 0 []), (3, .sl (some 5) 1 ((setN (put3 h) 76 h.nonce q__.1).map D.u8)), (5, .ptr 5 0 []), (8, .agg [.agg [.int ((0 : Nat) : Int), .ptr 1 0 [0]], .agg [.int ((68 : Nat) : Int), .ptr 1 65 [3]], .agg [.int ((72 : Nat) : Int), .ptr 1 66 [4]], .agg [.int ((76 : Nat) : Int), .ptr 1 67 [5]]]), (9, .int ((3 : Nat) : Int)), (12, .int ((q__.1 : Nat) : Int))], [(5, .var (.agg [.int ((76 : Nat) : Int), .ptr 1 67 [5]])), (1, .var (hdrD h))]⟩) (fun q__ => 4 - q__.1) ⟨(0), (by first | omega | (simp only [List.length_map, List.length_append, List.length_cons, List.length_nil, List.length_take, List.length_drop, List.length_replicate]; omega) | (simp; omega))⟩ (by first | rfl | (unfold b80; simp only [List.map_replicate]; rfl)) ?_
        rintro ⟨i, hi⟩
        show W _ _ _ _ ⟨42, [(1, .ptr 1 0 []), (3, .sl (some 5) 1 ((setN (put3 h) 76 h.nonce i).map D.u8)), (5, .ptr 5 0 []), (8, .agg [.agg [.int ((0 : Nat) : Int), .ptr 1 0 [0]], .agg [.int ((68 : Nat) : Int), .ptr 1 65 [3]], .agg [.int ((72 : Nat) : Int), .ptr 1 66 [4]], .agg [.int ((76 : Nat) : Int), .ptr 1 67 [5]]]), (9, .int ((3 : Nat) : Int)), (12, .int ((i : Nat) : Int))], [(5, .var (.agg [.int ((76 : Nat) : Int), .ptr 1 67 [5]])), (1, .var (hdrD h))]⟩
        have hi : i ≤ 4 := hi
        have hsl : (setN (put3 h) 76 h.nonce i).length = 80 := (setN_len _ _ _ _).trans (put3_len h)
        refine W.seq ?_
        refine W.line (n := 1) (by decide) (its := [⟨13, _, true⟩]) (ks := []) (kk := []) (live := [1, 3, 5, 8, 9, 12, 13]) (env' := [(1, _), (3, _), (5, _), (8, _), (9, _), (12, _), (13, _)])
          (⟨Nat.le_of_ble_eq_true rfl, rfl,
            ⟨⟨rfl, rfl, fun _ τ hb ht hτ => R.lssN (i) (4) (evt (hτ 12 _ rfl)) (show ev _ _ (.const (.int .i64 4)) = some (.int ((4 : Nat) : Int)) from rfl) ht⟩,
            trivial⟩, rfl, rfl, rfl⟩)
          rfl (bx' := [(5, .var _), (1, .var _)]) rfl (n' := 42) rfl (⟨[1, 3, 5, 8, 9, 12, 13], [(1, _), (3, _), (5, _), (8, _), (9, _), (12, _), (13, _)], [(5, .var _), (1, .var _)], 42, rfl, rfl, rfl, ?_⟩)
        refine W.seq ?_
        refine W.condD rfl (fun hc13 => ?_) (fun hc13 => ?_)
        · refine W.skip ?_
          refine W.seq ?_
          refine W.block ?_
          refine W.seq ?_
          refine W.line (n := 2) (by decide) (its := [⟨14, _, true⟩, ⟨6, _, true⟩]) (ks := []) (kk := []) (live := [1, 3, 5, 6, 8, 9, 12]) (env' := [(1, _), (3, _), (5, _), (6, _), (8, _), (9, _), (12, _)])
            (⟨Nat.le_of_ble_eq_true rfl, rfl,
              ⟨⟨rfl, rfl, fun _ τ hb ht hτ => R.mov (evt (hτ 12 _ rfl)) rfl ht⟩,
              ⟨⟨rfl, rfl, fun _ τ hb ht hτ => R.asg (evt (hτ 14 _ rfl)) rfl ht⟩,
              trivial⟩⟩, rfl, rfl, rfl⟩)
            rfl (bx' := [(5, .var _), (1, .var _)]) rfl (n' := 42) rfl (⟨[1, 3, 5, 6, 8, 9, 12], [(1, _), (3, _), (5, _), (6, _), (8, _), (9, _), (12, _)], [(5, .var _), (1, .var _)], 42, rfl, rfl, rfl, ?_⟩)
          refine W.draw (m := 14) (an := [0, 0, 2, 0, 14, 0, 32, 96, 224, 0, 512, 2016, 4064, 8191, 16383]) hP (by decide) rfl (its := [⟨15, _, true⟩, ⟨16, _, true⟩, ⟨17, _, true⟩, ⟨18, _, true⟩, ⟨19, _, true⟩, ⟨20, _, true⟩, ⟨21, _, true⟩, ⟨22, _, true⟩, ⟨23, _, true⟩, ⟨24, _, true⟩, ⟨25, _, true⟩, ⟨26, _, true⟩, ⟨27, _, true⟩, ⟨28, _, true⟩]) (ks := []) (kk := []) (live := [1, 3, 5, 8, 9, 12, 15, 27, 28]) (env' := [(1, _), (3, _), (5, _), (8, _), (9, _), (12, _), (15, _), (27, _), (28, _)])
            (⟨Nat.le_of_ble_eq_true rfl, rfl,
              ⟨⟨rfl, rfl, fun _ τ hb ht hτ => R.al (hτ 3 _ rfl) ht (by decide)⟩,
              ⟨⟨rfl, rfl, fun _ τ hb ht hτ => R.fdP (hτ 5 _ rfl) ht⟩,
              ⟨⟨rfl, rfl, fun _ τ hb ht hτ => R.ldP (hτ 16 _ rfl) (hb 5 _ rfl) rfl rfl rfl rfl ht⟩,
              ⟨⟨rfl, rfl, fun _ τ hb ht hτ => R.mov (evt (hτ 6 _ rfl)) rfl ht⟩,
              ⟨⟨rfl, rfl, fun _ τ hb ht hτ => R.addN (76) (i) (evt (hτ 17 _ rfl)) (evt (hτ 18 _ rfl)) (by first | omega | (simp only [List.length_map, List.length_append, List.length_cons, List.length_nil, List.length_take, List.length_drop, List.length_replicate]; omega) | (simp; omega)) ht⟩,
              ⟨⟨rfl, rfl, fun _ τ hb ht hτ => R.fdP (hτ 5 _ rfl) ht⟩,
              ⟨⟨rfl, rfl, fun _ τ hb ht hτ => R.ldP (hτ 20 _ rfl) (hb 5 _ rfl) rfl rfl rfl rfl ht⟩,
              ⟨⟨rfl, rfl, fun _ τ hb ht hτ => R.nilcP (hτ 21 _ rfl) ht⟩,
              ⟨⟨rfl, rfl, fun _ τ hb ht hτ => R.ldP (hτ 22 _ rfl) (hb 1 _ rfl) rfl rfl rfl rfl ht⟩,
              ⟨⟨rfl, rfl, fun _ τ hb ht hτ => R.mov (evt (hτ 6 _ rfl)) rfl ht⟩,
              ⟨⟨rfl, rfl, fun _ τ hb ht hτ => R.mulN (8) (i) (show ev _ _ (.const (.int .i64 8)) = some (.int ((8 : Nat) : Int)) from rfl) (evt (hτ 24 _ rfl)) (by first | omega | (simp only [List.length_map, List.length_append, List.length_cons, List.length_nil, List.length_take, List.length_drop, List.length_replicate]; omega) | (simp; omega)) ht⟩,
              ⟨⟨rfl, rfl, fun _ τ hb ht hτ => R.bin (evt (hτ 23 _ rfl)) (evt (hτ 25 _ rfl)) rfl (show (0 : Int) ≤ _ by first | omega | (simp only [List.length_map, List.length_append, List.length_cons, List.length_nil, List.length_take, List.length_drop, List.length_replicate]; omega) | (simp; omega)) ht⟩,
              ⟨⟨rfl, rfl, fun _ τ hb ht hτ => R.conv (evt (hτ 26 _ rfl)) rfl ht⟩,
              ⟨⟨rfl, rfl, fun _ τ hb ht hτ => R.idxN ((76 + i)) (SC.al (hτ 15 _ rfl) (hτ 3 _ rfl)) (evoI (evt (hτ 19 _ rfl))) rfl (by first | omega | (simp only [List.length_map, List.length_append, List.length_cons, List.length_nil, List.length_take, List.length_drop, List.length_replicate]; omega) | (simp; omega)) ht (by decide)⟩,
              trivial⟩⟩⟩⟩⟩⟩⟩⟩⟩⟩⟩⟩⟩⟩, rfl, rfl, rfl⟩)
            rfl (bx' := [(5, .var _), (1, .var _)]) rfl (n' := 42) rfl (⟨rfl, _, R.stEY (show Sg.get _ 28 = some _ from rfl) (Or.inr (show Sg.get _ 15 = some _ from rfl)) (show Sg.get _ 3 = some _ from rfl) (map_get! (l := (setN (put3 h) 76 h.nonce i)) (by first | omega | (simp only [List.length_map, List.length_append, List.length_cons, List.length_nil, List.length_take, List.length_drop, List.length_replicate]; omega) | (simp; omega))) rfl (evt (show Sg.get _ 27 = some _ from rfl)) (by rfl) (by rfl) (by rfl) (by rfl) upd_nil set_map, ⟨[1, 3, 5, 8, 9, 12], [(1, _), (3, _), (5, _), (8, _), (9, _), (12, _)], [(5, .var _), (1, .var _)], 42, rfl, rfl, rfl, ?_⟩⟩)
          refine W.line (n := 2) (by decide) (its := [⟨29, _, true⟩, ⟨12, _, true⟩]) (ks := []) (kk := []) (live := [1, 3, 5, 8, 9, 12]) (env' := [(1, _), (3, _), (5, _), (8, _), (9, _), (12, _)])
            (⟨Nat.le_of_ble_eq_true rfl, rfl,
              ⟨⟨rfl, rfl, fun _ τ hb ht hτ => R.addN (i) (1) (evt (hτ 12 _ rfl)) (show ev _ _ (.const (.int .i64 1)) = some (.int ((1 : Nat) : Int)) from rfl) (by first | omega | (simp only [List.length_map, List.length_append, List.length_cons, List.length_nil, List.length_take, List.length_drop, List.length_replicate]; omega) | (simp; omega)) ht⟩,
              ⟨⟨rfl, rfl, fun _ τ hb ht hτ => R.mov (evt (hτ 29 _ rfl)) rfl ht⟩,
              trivial⟩⟩, rfl, rfl, rfl⟩)
            rfl (bx' := [(5, .var _), (1, .var _)]) rfl (n' := 42) rfl (⟨[1, 3, 5, 8, 9, 12], [(1, _), (3, _), (5, _), (8, _), (9, _), (12, _)], [(5, .var _), (1, .var _)], 42, rfl, rfl, rfl, ?_⟩)
          exact ⟨⟨(i + 1), (by first | omega | (simp only [List.length_map, List.length_append, List.length_cons, List.length_nil, List.length_take, List.length_drop, List.length_replicate]; omega) | (simp; omega))⟩, rfl, (by simp only []; omega)⟩
        · obtain rfl : i = 4 := by omega
          refine W.exit ?_
          refine W.line (n := 2) (by decide) (its := [⟨30, _, true⟩, ⟨9, _, true⟩]) (ks := []) (kk := []) (live := [1, 3, 8, 9]) (env' := [(1, _), (3, _), (8, _), (9, _)])
            (⟨Nat.le_of_ble_eq_true rfl, rfl,
              ⟨⟨rfl, rfl, fun _ τ hb ht hτ => R.addN (3) (1) (evt (hτ 9 _ rfl)) (show ev _ _ (.const (.int .i64 1)) = some (.int ((1 : Nat) : Int)) from rfl) (by first | omega | (simp only [List.length_map, List.length_append, List.length_cons, List.length_nil, List.length_take, List.length_drop, List.length_replicate]; omega) | (simp; omega)) ht⟩,
              ⟨⟨rfl, rfl, fun _ τ hb ht hτ => R.mov (evt (hτ 30 _ rfl)) rfl ht⟩,
              trivial⟩⟩, rfl, rfl, rfl⟩)
            rfl (bx' := [(5, .var _), (1, .var _)]) rfl (n' := 42) rfl (⟨[1, 3, 8, 9], [(1, _), (3, _), (8, _), (9, _)], [(5, .var _), (1, .var _)], 42, rfl, rfl, rfl, ?_⟩)
          refine WU.step ?_
          show W _ _ _ _ _
          refine W.dropS (live := [1, 3, 8, 9]) (env' := [(1, _), (3, _), (8, _), (9, _)]) (bx' := [(5, .var _), (1, .var _)]) (n' := 42) rfl rfl rfl ?_
          refine W.dropB [1] (bx' := [(1, .var _)]) rfl rfl rfl (pin_sub hD rfl) ?_
          refine W.seq ?_
          refine W.line (n := 1) (by decide) (its := [⟨10, _, true⟩]) (ks := []) (kk := []) (live := [1, 3, 8, 9, 10]) (env' := [(1, _), (3, _), (8, _), (9, _), (10, _)])
            (⟨Nat.le_of_ble_eq_true rfl, rfl,
              ⟨⟨rfl, rfl, fun _ τ hb ht hτ => R.lssN (4) (4) (evt (hτ 9 _ rfl)) (show ev _ _ (.const (.int .i64 4)) = some (.int ((4 : Nat) : Int)) from rfl) ht⟩,
              trivial⟩, rfl, rfl, rfl⟩)
            rfl (bx' := [(1, .var _)]) rfl (n' := 42) rfl (⟨[1, 3, 8, 9, 10], [(1, _), (3, _), (8, _), (9, _), (10, _)], [(1, .var _)], 42, rfl, rfl, rfl, ?_⟩)
          refine W.seq ?_
          refine W.condF rfl (rfl) ?_
          refine W.exit ?_
          refine W.seq ?_
          refine W.draw (m := 4) (an := [0, 1, 0, 4, 15]) hP (by decide) rfl (its := [⟨31, _, true⟩, ⟨32, _, true⟩, ⟨33, _, true⟩, ⟨34, _, true⟩]) (ks := []) (kk := []) (live := [1, 3, 31, 32, 34]) (env' := [(1, _), (3, _), (31, _), (32, _), (34, _)])
            (⟨Nat.le_of_ble_eq_true rfl, rfl,
              ⟨⟨rfl, rfl, fun _ τ hb ht hτ => R.al (hτ 3 _ rfl) ht (by decide)⟩,
              ⟨⟨rfl, rfl, fun _ τ hb ht hτ => R.slVN (4) ((setN (put3 h) 76 h.nonce 4).length) (((setN (put3 h) 76 h.nonce 4).length - 4)) (SC.al (hτ 31 _ rfl) (hτ 3 _ rfl)) (evoI (show ev _ _ (.const (.int .i64 4)) = some (.int ((4 : Nat) : Int)) from rfl)) rfl rfl (by simp) (by first | omega | (simp only [List.length_map, List.length_append, List.length_cons, List.length_nil, List.length_take, List.length_drop, List.length_replicate]; omega) | (simp; omega)) (by first | omega | (simp only [List.length_map, List.length_append, List.length_cons, List.length_nil, List.length_take, List.length_drop, List.length_replicate]; omega) | (simp; omega)) rfl ht (by decide)⟩,
              ⟨⟨rfl, rfl, fun _ τ hb ht hτ => R.fdP (hτ 1 _ rfl) ht⟩,
              ⟨⟨rfl, rfl, fun _ τ hb ht hτ => R.slAN (0) (32) (32) (hτ 33 _ rfl) (hb 1 _ rfl) rfl rfl rfl rfl rfl (by first | omega | (simp only [List.length_map, List.length_append, List.length_cons, List.length_nil, List.length_take, List.length_drop, List.length_replicate]; omega) | (simp; omega)) (by first | omega | (simp only [List.length_map, List.length_append, List.length_cons, List.length_nil, List.length_take, List.length_drop, List.length_replicate]; omega) | (simp; omega)) rfl ht⟩,
              trivial⟩⟩⟩⟩, rfl, rfl, rfl⟩)
            rfl (bx' := [(1, .var _)]) rfl (n' := 42) rfl (⟨rfl, _, R.cpV (show Sg.get _ 32 = some _ from rfl) (Or.inr (show Sg.get _ 31 = some _ from rfl)) (show Sg.get _ 3 = some _ from rfl) (by first | omega | (simp only [List.length_map, List.length_append, List.length_cons, List.length_nil, List.length_take, List.length_drop, List.length_replicate]; omega) | (simp; omega)) (by first | omega | (simp only [List.length_map, List.length_append, List.length_cons, List.length_nil, List.length_take, List.length_drop, List.length_replicate]; omega) | (simp; omega)) (pur_map (fun _ => rfl)) (SrcO.sc (SC.va (show Sg.get _ 34 = some _ from rfl) (show Sg.box _ 1 = some _ from rfl) rfl (by first | omega | (simp only [List.length_map, List.length_append, List.length_cons, List.length_nil, List.length_take, List.length_drop, List.length_replicate]; omega) | (simp; omega))) (pur_part (fun _ => rfl))) (fun y q => np_map (fun _ => rfl) y (List.mem_of_mem_drop (List.mem_of_mem_take q))) (Nat.le_of_ble_eq_true rfl) (by decide) ((by simp [hw1, setN_len, put3_len])) (show _ = ((put5 h).map D.u8) from (put5_map h hw)), ⟨[1, 3], [(1, _), (3, _)], [(1, .var _)], 42, rfl, rfl, rfl, ?_⟩⟩)
          refine W.seq ?_
          refine W.draw (m := 4) (an := [0, 1, 0, 4, 15]) hP (by decide) rfl (its := [⟨36, _, true⟩, ⟨37, _, true⟩, ⟨38, _, true⟩, ⟨39, _, true⟩]) (ks := []) (kk := []) (live := [3, 36, 37, 39]) (env' := [(3, _), (36, _), (37, _), (39, _)])
            (⟨Nat.le_of_ble_eq_true rfl, rfl,
              ⟨⟨rfl, rfl, fun _ τ hb ht hτ => R.al (hτ 3 _ rfl) ht (by decide)⟩,
              ⟨⟨rfl, rfl, fun _ τ hb ht hτ => R.slVN (36) ((put5 h).length) (((put5 h).length - 36)) (SC.al (hτ 36 _ rfl) (hτ 3 _ rfl)) (evoI (show ev _ _ (.const (.int .i64 36)) = some (.int ((36 : Nat) : Int)) from rfl)) rfl rfl (by simp) (by first | omega | (simp only [List.length_map, List.length_append, List.length_cons, List.length_nil, List.length_take, List.length_drop, List.length_replicate]; omega) | (simp; omega)) (by first | omega | (simp only [List.length_map, List.length_append, List.length_cons, List.length_nil, List.length_take, List.length_drop, List.length_replicate]; omega) | (simp; omega)) rfl ht (by decide)⟩,
              ⟨⟨rfl, rfl, fun _ τ hb ht hτ => R.fdP (hτ 1 _ rfl) ht⟩,
              ⟨⟨rfl, rfl, fun _ τ hb ht hτ => R.slAN (0) (32) (32) (hτ 38 _ rfl) (hb 1 _ rfl) rfl rfl rfl rfl rfl (by first | omega | (simp only [List.length_map, List.length_append, List.length_cons, List.length_nil, List.length_take, List.length_drop, List.length_replicate]; omega) | (simp; omega)) (by first | omega | (simp only [List.length_map, List.length_append, List.length_cons, List.length_nil, List.length_take, List.length_drop, List.length_replicate]; omega) | (simp; omega)) rfl ht⟩,
              trivial⟩⟩⟩⟩, rfl, rfl, rfl⟩)
            rfl (bx' := [(1, .var _)]) rfl (n' := 42) rfl (⟨rfl, _, R.cpV (show Sg.get _ 37 = some _ from rfl) (Or.inr (show Sg.get _ 36 = some _ from rfl)) (show Sg.get _ 3 = some _ from rfl) (by first | omega | (simp only [List.length_map, List.length_append, List.length_cons, List.length_nil, List.length_take, List.length_drop, List.length_replicate]; omega) | (simp; omega)) (by first | omega | (simp only [List.length_map, List.length_append, List.length_cons, List.length_nil, List.length_take, List.length_drop, List.length_replicate]; omega) | (simp; omega)) (pur_map (fun _ => rfl)) (SrcO.sc (SC.va (show Sg.get _ 39 = some _ from rfl) (show Sg.box _ 1 = some _ from rfl) rfl (by first | omega | (simp only [List.length_map, List.length_append, List.length_cons, List.length_nil, List.length_take, List.length_drop, List.length_replicate]; omega) | (simp; omega))) (pur_part (fun _ => rfl))) (fun y q => np_map (fun _ => rfl) y (List.mem_of_mem_drop (List.mem_of_mem_take q))) (Nat.le_of_ble_eq_true rfl) (by decide) ((by simp [hw2, hp5])) (show _ = ((put6 h).map D.u8) from (put6_map h hw)), ⟨[3], [(3, _)], [(1, .var _)], 42, rfl, rfl, rfl, ?_⟩⟩)
          refine W.seq ?_
          refine W.line (n := 2) (by decide) (its := [⟨41, _, true⟩, ⟨2, _, true⟩]) (ks := [(0, 3), (1, 41)]) (kk := [(0, 3), (1, 41)]) (live := [2]) (env' := [(2, _)])
            (⟨Nat.le_of_ble_eq_true rfl, rfl,
              ⟨⟨rfl, rfl, fun _ τ hb ht hτ => R.movO (hτ 3 _ rfl) rfl ht (by decide)⟩,
              ⟨⟨rfl, rfl, fun _ τ hb ht hτ => R.asgO (hτ 41 _ rfl) rfl ht (by decide)⟩,
              trivial⟩⟩, rfl, rfl, rfl⟩)
            rfl (bx' := [(1, .var _)]) rfl (n' := 42) rfl (⟨[2], [(2, _)], [(1, .var _)], 42, rfl, rfl, rfl, ?_⟩)
          refine W.ret ?_
          exact Ends.one' (.inr rfl) rfl (by rw [put_eq h hw]) rfl rfl trivial

end Go.Sx
