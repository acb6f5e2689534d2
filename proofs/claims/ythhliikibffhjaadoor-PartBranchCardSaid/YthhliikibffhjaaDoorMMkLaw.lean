/-
 The plain law of trees of hashes: rows,roots,branches.
-/
import Derived.Test.YthhliikibffhjaaDoorMSxRange
import Derived.Test.YthhliikibffhjaaDoorMShaDefs
import Derived.Test.YthhliikibffhjaaDoorMSxCallB
import Derived.Test.YthhliikibffhjaaDoorMSxOwn
set_option linter.unusedVariables false
set_option linter.unusedSimpArgs false
set_option linter.unnecessarySimpa false

namespace Go.Sx
abbrev Hs := List UInt8

def joinS (a b : Hs) : Hs := twiceS (a ++ b)
def joinR (a b : Hs) : Hs := twiceR (a ++ b)
theorem join_r : joinS = joinR := by funext a b; exact twice_r _
theorem twiceS_len (b : Hs) : (twiceS b).length = 32 := by unfold twiceS; exact sumS_len _
theorem joinS_len (a b : Hs) : (joinS a b).length = 32 := twiceS_len _
theorem both1 (a : Hs) (ha : a.length = 32) : ((List.replicate 64 (0 : UInt8)).map D.u8).take 0 ++ (((a.map D.u8).drop 0).take 32).take 32 ++ ((List.replicate 64 (0 : UInt8)).map D.u8).drop (0 + 32) = (a ++ List.replicate 32 0).map D.u8 := by
 have h1 : ((a.map D.u8).take 32) = a.map D.u8 := List.take_of_length_le (by simp [ha])
 simp only [List.drop_zero,List.take_take,Nat.min_self,h1,List.take_zero,List.nil_append,List.map_append]
 rfl
theorem both2 (a b : Hs) (ha : a.length = 32) (hb : b.length = 32) : ((a ++ List.replicate 32 (0 : UInt8)).map D.u8).take 32 ++ (((b.map D.u8).drop 0).take 32).take 32 ++ ((a ++ List.replicate 32 (0 : UInt8)).map D.u8).drop (32 + 32) = (a ++ b).map D.u8 := by
 have h1 : ((b.map D.u8).take 32) = b.map D.u8 := List.take_of_length_le (by simp [hb])
 have h2 : ((a ++ List.replicate 32 (0 : UInt8)).map D.u8).take 32 = a.map D.u8 := by rw [List.map_append,List.take_append_of_le_length (by simp [ha]),List.take_of_length_le (by simp [ha])]
 have h3 : ((a ++ List.replicate 32 (0 : UInt8)).map D.u8).drop (32 + 32) = [] := List.drop_eq_nil_of_le (by simp [ha])
 rw [h2,h3]
 simp only [List.drop_zero,List.take_take,Nat.min_self,h1,List.map_append,List.append_nil]
theorem part32 (a : Hs) (ha : a.length = 32) : ((a.map D.u8).drop 0).take 32 = a.map D.u8 := by rw [List.drop_zero,List.take_of_length_le (by simp [ha])]

def upI (J : Hs → Hs → Hs) (l : List Hs) : Nat → List Hs
 | 0 => []
 | i + 1 => upI J l i ++ [J l[2 * i]! l[min (2 * i + 1) (l.length - 1)]!]
def upR (J : Hs → Hs → Hs) (l : List Hs) : List Hs := upI J l ((l.length + 1) / 2)
def rowA (J : Hs → Hs → Hs) (l : List Hs) : Nat → List Hs
 | 0 => l
 | k + 1 => upR J (rowA J l k)
def nRows (n : Nat) : Nat := if n = 0 then 0 else if n = 1 then 1 else nRows ((n + 1) / 2) + 1
termination_by n
def lenA (n : Nat) : Nat → Nat
 | 0 => n
 | k + 1 => (lenA n k + 1) / 2
theorem upI_len (J : Hs → Hs → Hs) (l : List Hs) (i : Nat) : (upI J l i).length = i := by
 induction i with
 | zero => rfl
 | succ i ih => simp [upI,ih]
theorem upR_len (J : Hs → Hs → Hs) (l : List Hs) : (upR J l).length = (l.length + 1) / 2 := upI_len _ _ _
theorem rowA_len (J : Hs → Hs → Hs) (l : List Hs) (k : Nat) : (rowA J l k).length = lenA l.length k := by
 induction k with
 | zero => rfl
 | succ k ih => simp only [rowA,lenA,upR_len,ih]
theorem lenA_le (n k : Nat) : lenA n k ≤ n := by
 induction k with
 | zero => exact Nat.le_refl _
 | succ k ih => simp only [lenA]; omega
theorem nRows_0 : nRows 0 = 0 := by unfold nRows; rfl
theorem nRows_1 : nRows 1 = 1 := by unfold nRows; rfl
theorem nRows_2 {n : Nat} (h : 2 ≤ n) : nRows n = nRows ((n + 1) / 2) + 1 := by
 rw [nRows]
 simp [show n ≠ 0 by omega,show n ≠ 1 by omega]
theorem nRows_pos {n : Nat} (h : 1 ≤ n) : 1 ≤ nRows n := by
 by_cases h1 : n = 1
 · subst h1; rw [nRows_1]; exact Nat.le_refl _
 · rw [nRows_2 (by omega)]; omega
theorem nRows_left (n k : Nat) (h : k < nRows n) : k + nRows (lenA n k) = nRows n := by
 induction k with
 | zero => simp [lenA]
 | succ k ih =>
  have h0 := ih (by omega)
  have h2 : 2 ≤ lenA n k := by
   apply Nat.le_of_not_lt
   intro hc
   rcases Nat.lt_or_ge (lenA n k) 1 with h3 | h3
   · rw [show lenA n k = 0 by omega,nRows_0] at h0; omega
   · rw [show lenA n k = 1 by omega,nRows_1] at h0; omega
  rw [nRows_2 h2] at h0
  simp only [lenA]
  omega
theorem rowA_pos (J : Hs → Hs → Hs) (l : List Hs) (k : Nat) (h : k < nRows l.length) : 1 ≤ (rowA J l k).length := by
 have h0 := nRows_left _ _ h
 rw [rowA_len]
 apply Nat.le_of_not_lt
 intro hc
 rw [show lenA l.length k = 0 by omega,nRows_0] at h0
 omega
theorem rowA_more (J : Hs → Hs → Hs) (l : List Hs) (k : Nat) (h : k + 1 < nRows l.length) : 2 ≤ (rowA J l k).length := by
 have h0 := nRows_left _ _ (show k < nRows l.length by omega)
 have h1 := rowA_pos J l k (by omega)
 rw [rowA_len] at h1 ⊢
 apply Nat.le_of_not_lt
 intro hc
 rw [show lenA l.length k = 1 by omega,nRows_1] at h0
 omega
theorem rowA_last (J : Hs → Hs → Hs) (l : List Hs) (k : Nat) (h : k + 1 = nRows l.length) : (rowA J l k).length = 1 := by
 have h0 := nRows_left _ _ (show k < nRows l.length by omega)
 have h1 := rowA_pos J l k (by omega)
 rw [rowA_len] at h1 ⊢
 by_cases h2 : lenA l.length k = 1
 · exact h2
 · have := nRows_pos (show 1 ≤ (lenA l.length k + 1) / 2 by omega)
   rw [nRows_2 (show 2 ≤ lenA l.length k by omega)] at h0
   omega
theorem nRows_le (n : Nat) : nRows n ≤ n := by
 induction n using Nat.strongRecOn with
 | _ n ih =>
  by_cases h0 : n = 0
  · subst h0; rw [nRows_0]; exact Nat.le_refl _
  · by_cases h1 : n = 1
    · subst h1; rw [nRows_1]; exact Nat.le_refl _
    · rw [nRows_2 (by omega)]; have := ih ((n + 1) / 2) (by omega); omega

def allH (l : List Hs) : Prop := ∀ h ∈ l,h.length = 32
theorem allH.get {l : List Hs} (h : allH l) {i : Nat} (hi : i < l.length) : l[i]!.length = 32 := by
 rw [getElem!_pos l i hi]; exact h _ (List.getElem_mem hi)
theorem upI_all {J : Hs → Hs → Hs} (hJ : ∀ a b,(J a b).length = 32) (l : List Hs) (i : Nat) : allH (upI J l i) := by
 induction i with
 | zero => intro h hh; cases hh
 | succ i ih =>
  intro h hh
  rcases List.mem_append.1 hh with h1 | h1
  · exact ih h h1
  · rw [List.mem_singleton.1 h1]; exact hJ _ _
theorem rowA_all {J : Hs → Hs → Hs} (hJ : ∀ a b,(J a b).length = 32) {l : List Hs} (h : allH l) (k : Nat) : allH (rowA J l k) := by
 cases k with
 | zero => exact h
 | succ k => exact upI_all hJ _ _
theorem brw_hash (h : Hs) : (hashD h).brw = hashD h := by
 unfold hashD
 simp only [D.brw,brws_eq]
 rw [brw_map (fun _ => rfl)]
theorem brw_hs (o : Option Nat) (z : Nat) (l : List Hs) : (D.sl o z (l.map hashD)).brw = .sl none z (l.map hashD) := by
 simp only [D.brw,brws_eq]
 rw [brw_map brw_hash]
theorem frs_hash' (h : Hs) : Frs (hashD h) := .arr _ _ _ (frs_map fun _ => .u8 _)
theorem frs_hs (e z : Nat) (l : List Hs) : Frs (.sl (some e) z (l.map hashD)) := .sl _ _ _ (frs_map frs_hash')

def zero32 : Hs := List.replicate 32 0
def rootA (J : Hs → Hs → Hs) (l : List Hs) : Nat → Hs
 | 0 => zero32
 | k + 1 => (rowA J l k)[0]!
def rootS (J : Hs → Hs → Hs) (l : List Hs) : Hs := rootA J l (nRows l.length)
def rowDbl (l : List Hs) : Bool := (List.range (l.length / 2)).any fun i => l[2 * i + 1]! == l[2 * i]!
def dblS (J : Hs → Hs → Hs) (l : List Hs) : Bool := (List.range (nRows l.length)).any fun k => rowDbl (rowA J l k)
def xor1 (k : Nat) : Nat := if k % 2 = 0 then k + 1 else k - 1
def partS (l : List Hs) (k : Nat) : Hs := l[min (xor1 k) (l.length - 1)]!
def brA (J : Hs → Hs → Hs) (l : List Hs) (k : Nat) : Nat → List Hs
 | 0 => []
 | j + 1 => if 1 < (rowA J l j).length then brA J l k j ++ [partS (rowA J l j) (k / 2 ^ j)] else brA J l k j
def brS (J : Hs → Hs → Hs) (l : List Hs) (k : Nat) : List Hs := brA J l k (nRows l.length)

theorem xor1_nat (k : Nat) : k ^^^ 1 = xor1 k := by
 unfold xor1
 apply Nat.eq_of_testBit_eq
 intro i
 split
 · rename_i h
   have hk : k = 2 * (k / 2) := by omega
   generalize k / 2 = m at hk
   subst hk
   rw [Nat.testBit_xor]
   cases i with
   | zero => simp [Nat.testBit_zero]
   | succ i => simp [Nat.testBit_succ,show (2 * m + 1) / 2 = m by omega]
 · rename_i h
   have hk : k = 2 * (k / 2) + 1 := by omega
   generalize k / 2 = m at hk
   subst hk
   rw [Nat.testBit_xor]
   cases i with
   | zero => simp [Nat.testBit_zero]
   | succ i => simp [Nat.testBit_succ,show (2 * m + 1) / 2 = m by omega]
theorem bits_xor1 (k : Nat) (h : k < 1000000) : D.int (bitsI .xor (k : Int) 1) = D.int ((xor1 k : Nat) : Int) := by
 have hx : xor1 k ≤ k + 1 := by unfold xor1; split <;> omega
 have e : (BitVec.ofInt 64 (k : Int) ^^^ BitVec.ofInt 64 1).toNat = xor1 k := by
  rw [BitVec.toNat_xor]
  have e1 : (BitVec.ofInt 64 (k : Int)).toNat = k := by
   rw [BitVec.ofInt_natCast,BitVec.toNat_ofNat,Nat.mod_eq_of_lt (by omega)]
  have e2 : (BitVec.ofInt 64 1).toNat = 1 := by decide
  rw [e1,e2,xor1_nat]
 show D.int (wr ((BitVec.ofInt 64 (k : Int) ^^^ BitVec.ofInt 64 1).toNat : Int)) = _
 rw [e]
 exact wr_eq rfl (by omega) (by omega)
theorem xor1_le (k : Nat) : xor1 k ≤ k + 1 := by unfold xor1; split <;> omega

theorem rowDbl_true {l : List Hs} {i : Nat} (ho : i % 2 = 1) (hi : i < l.length) (h : (l[i]! == l[i - 1]!) = true) : rowDbl l = true := by
 unfold rowDbl
 rw [List.any_eq_true]
 refine ⟨i / 2,List.mem_range.2 (by omega), ?_⟩
 rw [show 2 * (i / 2) + 1 = i by omega,show 2 * (i / 2) = i - 1 by omega]
 exact h
theorem rowDbl_false {l : List Hs} (h : ∀ j,2 * j + 1 < l.length → (l[2 * j + 1]! == l[2 * j]!) = false) : rowDbl l = false := by
 unfold rowDbl
 rw [List.any_eq_false]
 intro j hj
 have := List.mem_range.1 hj
 rw [h j (by omega)]
 simp
theorem dblS_true {J : Hs → Hs → Hs} {l : List Hs} {k : Nat} (hk : k < nRows l.length) (h : rowDbl (rowA J l k) = true) : dblS J l = true := by
 unfold dblS
 rw [List.any_eq_true]
 exact ⟨k,List.mem_range.2 hk,h⟩
theorem dblS_false {J : Hs → Hs → Hs} {l : List Hs} (h : ∀ j,j < nRows l.length → rowDbl (rowA J l j) = false) : dblS J l = false := by
 unfold dblS
 rw [List.any_eq_false]
 intro j hj
 rw [h j (List.mem_range.1 hj)]
 simp
theorem brA_len {J : Hs → Hs → Hs} {l : List Hs} {m : Nat} (k : Nat) : (brA J l m k).length ≤ k := by
 induction k with
 | zero => exact Nat.le_refl _
 | succ k ih =>
  simp only [brA]
  split
  · rw [List.length_append,List.length_singleton]; omega
  · omega
end Go.Sx

namespace Go.Sx
open Go.Proofs
theorem join_ok (a b : Hs) (hx : a.length = 32) (hy : b.length = 32) : Fn Tryd.prog gl 30 [hashD a,hashD b] (hashD (joinS a b)) := by
 refine Fn.of (n := 14) Tryd.func30 rfl rfl rfl (nU rfl) fun C hC hD => ?_
 refine W.seq ?_
 refine W.l0 3 [] [] [] [(0,_),(1,_)] [] 14 trivial rfl rfl rfl rfl (⟨rfl,_,R.box (gV 0 rfl) rfl rfl (nU rfl),⟨rfl,_,R.box (gV 1 rfl) rfl rfl (nU rfl),⟨rfl,_,R.alloc rfl (nU rfl),tV [(2,_),(3,_),(4,_)] [(4,.var _),(3,.var _),(2,.var _)] 14 rfl rfl rfl ?_⟩⟩⟩)
 refine W.seq ?_
 refine W.l0 1 [] [] [] [(2,_),(3,_),(4,_)] [(4,.var _),(3,.var _),(2,.var _)] 14 trivial rfl rfl rfl rfl (⟨rfl,_,R.alloc rfl (nU rfl),tV [(2,_),(3,_),(4,_),(5,_)] [(5,.var _),(4,.var _),(3,.var _),(2,.var _)] 14 rfl rfl rfl ?_⟩)
 refine W.seq ?_
 refine W.draw (m := 2) (an := [0,0,3]) hP (by decide) rfl (its := [.y 6 _,.y 7 _]) (ks := []) (kk := []) (live := [3,4,5,6,7]) (env' := [(3,_),(4,_),(5,_),(6,_),(7,_)]) (⟨nU rfl,rfl,⟨aU fun _ B H K => R.slAN (0) (64) (64) (K 5 _ rfl) (B 5 _ rfl) rfl rfl rfl rfl rfl bU bU rfl H,aU fun _ B H K => R.slAN (0) (32) (32) (K 2 _ rfl) (B 2 _ rfl) rfl rfl rfl rfl rfl bU bU rfl H,trivial⟩,rfl,rfl,rfl⟩) rfl (bx' := [(5,.var _),(4,.var _),(3,.var _),(2,.var _)]) rfl (n' := 14) rfl (⟨rfl,_,R.cpAE (k := 32) (l2 := ((a ++ List.replicate 32 0).map D.u8)) (gU 6 rfl) (xU 5 rfl) rfl (by decide) (SrcO.sc (SC.va (gU 7 rfl) (xU 2 rfl) rfl (by decide)) (pur_part (fun _ => rfl))) (fun y q => np_map (fun _ => rfl) y (List.mem_of_mem_drop (List.mem_of_mem_take q))) (nU rfl) (by simp [hx]) (both1 a hx) rfl,tV [(3,_),(4,_),(5,_)] [(5,.var _),(4,.var _),(3,.var _),(2,.var _)] 14 rfl rfl rfl ?_⟩)
 refine W.seq ?_
 refine W.draw (m := 2) (an := [0,0,3]) hP (by decide) rfl (its := [.y 9 _,.y 10 _]) (ks := []) (kk := []) (live := [4,5,9,10]) (env' := [(4,_),(5,_),(9,_),(10,_)]) (⟨nU rfl,rfl,⟨aU fun _ B H K => R.slAN (32) (64) ((64 - 32)) (K 5 _ rfl) (B 5 _ rfl) rfl (evoI (kI 32 rfl)) rfl rfl rfl bU bU rfl H,aU fun _ B H K => R.slAN (0) (32) (32) (K 3 _ rfl) (B 3 _ rfl) rfl rfl rfl rfl rfl bU bU rfl H,trivial⟩,rfl,rfl,rfl⟩) rfl (bx' := [(5,.var _),(4,.var _),(3,.var _),(2,.var _)]) rfl (n' := 14) rfl (⟨rfl,_,R.cpAE (k := 32) (l2 := ((a ++ b).map D.u8)) (gU 9 rfl) (xU 5 rfl) rfl (by decide) (SrcO.sc (SC.va (gU 10 rfl) (xU 3 rfl) rfl (by decide)) (pur_part (fun _ => rfl))) (fun y q => np_map (fun _ => rfl) y (List.mem_of_mem_drop (List.mem_of_mem_take q))) (nU rfl) (by simp [hy]) (both2 a b hx hy) rfl,tV [(4,_),(5,_)] [(5,.var _),(4,.var _),(3,.var _),(2,.var _)] 14 rfl rfl rfl ?_⟩)
 refine W.seq ?_
 refine W.l0 3 [.y 12 _,.y 13 _] [] [] [(4,_),(13,_)] [(5,.var _),(4,.var _),(3,.var _),(2,.var _)] 14 ⟨aU fun _ B H K => R.slAN (0) (64) (64) (K 5 _ rfl) (B 5 _ rfl) rfl rfl rfl rfl rfl bU bU rfl H,aU fun _ B H K => R.callG hC (twice_ok (a ++ b) (by simp only [List.length_append,hx,hy]; decide)) (Bors.cons (Bor.sc (SC.va (K 12 _ rfl) (B 5 _ rfl) rfl (by decide)) (brw_all (fun _ => rfl) (by simp only [List.length_append,hx,hy]))) Bors.nil) (FrsR.one (frs_hash _)) H,trivial⟩ rfl rfl rfl rfl (⟨rfl,_,R.stZ (gU 4 rfl) (xU 4 rfl) rfl (gV 13 rfl) (by rfl) (by rfl) (by rfl) (by rfl) rfl,tV [(4,_)] [(5,.var _),(4,.var _),(3,.var _),(2,.var _)] 14 rfl rfl rfl ?_⟩)
 refine W.ret ?_
 exact Ends.one' (.inr rfl) rfl (rfl) rfl rfl (show LdT _ 38 32 true from inferInstance)

end Go.Sx

namespace Go.Sx
open Go.Proofs
theorem rows_ok (l : List Hs) : Fn Tryd.prog gl 38 [.sl none 32 (l.map hashD)] (.fn 48 [.rp (.sl none 32 (l.map hashD))]) := by
 refine Fn.of (n := 4) Tryd.func38 rfl rfl rfl (nU rfl) fun C hC hD => ?_
 refine W.seq ?_
 refine W.l0 2 [] [] [] [(0,_)] [] 4 trivial rfl rfl rfl rfl (⟨rfl,_,R.box (gV 0 rfl) rfl rfl (nU rfl),⟨rfl,_,R.asg (show ev _ _ (.const (.nilFunc)) = some (.nilf) from rfl) rfl (nU rfl),tV [(1,_)] [(1,.var _)] 4 rfl rfl rfl ?_⟩⟩)
 refine W.seq ?_
 refine W.frzB 1 [] (d' := .sl none 32 (l.map hashD)) (bx' := []) rfl (brw_hs _ _ _) rfl rfl rfl rfl rfl rfl (pin_sub hD rfl) ?_
 refine W.l0 2 [.y 3 _,.y 2 _] [] [] [(2,_)] [] 4 ⟨aU fun _ _ H K => R.mkfn1 (eU K 1 rfl) rfl rfl H,aU fun _ _ H K => R.asg (eU K 3 rfl) rfl H,trivial⟩ rfl rfl rfl rfl (tU rfl ?_)
 refine W.ret ?_
 exact Ends.one' (.inr rfl) rfl (rfl) rfl rfl trivial

theorem rows_itr (l : List Hs) (hl : allH l) (hl0 : l.length ≤ 1000) : Itr Tryd.prog gl 48 [.rp (.sl none 32 (l.map hashD))] ((List.range (nRows l.length)).map fun k => .sl none 32 ((rowA joinS l k).map hashD)) := by
 refine Itr.of (n := 43) Tryd.func48 rfl rfl rfl rfl (nU rfl) fun G Y lo hY hyl => ?_
 refine V.scope ?_
 refine V.seq ?_
 refine V.of fun C hC hD => ?_
 refine W.l0 2 [.y 6 _,.y 3 _] [] [] [(0,_),(3,_)] [] 43 ⟨aU fun _ _ H K => R.ldR (eU K 1 rfl) rfl rfl rfl H,aU fun _ _ H K => R.asg (eU K 6 rfl) rfl H,trivial⟩ rfl rfl rfl rfl (tU rfl ?_)
 refine V.seq ?_
 refine V.label ?_
 refine V.block ?_
 refine V.loop (α := {q__ : Nat // q__ + nRows (rowA joinS l q__).length = nRows l.length}) (fun q__ => ((q__.1,false),(⟨43,[(0,.yld lo),(3,.sl none 32 ((rowA joinS l q__.1).map hashD))],[]⟩ : Sg))) (fun q__ => nRows l.length - q__.1) ⟨(0),(by show 0 + _ = _; rw [Nat.zero_add]; rfl)⟩ rfl ?_
 rintro ⟨k,hk⟩
 show V _ _ _ _ _ ((k,false),(⟨43,[(0,.yld lo),(3,.sl none 32 ((rowA joinS l k).map hashD))],[]⟩ : Sg))
 have hrl := rowA_len joinS l k
 have hle := lenA_le l.length k
 have hra := rowA_all joinS_len hl k
 have hk : k + nRows (rowA joinS l k).length = nRows l.length := hk
 refine V.seq ?_
 refine V.of fun C hC hD => ?_
 refine W.seq ?_
 refine W.l0 3 [.y 7 _,.y 8 _,.y 9 _] [] [] [(0,_),(3,_),(9,_)] [] 43 ⟨mU 3 rfl rfl,aU fun _ _ H K => R.lenE (SC.sl (K 7 _ rfl)) (List.length_map _) H,aU fun _ _ H K => R.gtrN ((rowA joinS l k).length) (0) (eU K 8 rfl) (kI 0 rfl) H,trivial⟩ rfl rfl rfl rfl (tU rfl ?_)
 refine W.condD rfl (fun hc9 => ?_) (fun hc9 => ?_)
 · refine W.skip ?_
   refine V.block ?_
   refine V.seq ?_
   refine V.seq ?_
   refine V.region ?_
   refine VL.step rfl (fun C hC => R.mov (gV 0 rfl) rfl (nU rfl)) ?_
   refine VL.step rfl (fun C hC => R.mov (gV 3 rfl) rfl (nU rfl)) ?_
   refine VL.yield hY hyl (gU 10 rfl) (gV 11 rfl) rfl rfl (by rw [List.length_map,List.length_range]; have := nRows_pos (n := (rowA joinS l k).length) (by omega); omega) (by rw [List.getElem_map,List.getElem_range]) (nU rfl) (fun s__ => ?_)
   cases s__
   · refine VL.step rfl (fun C hC => R.un (gV 12 rfl) rfl (nU rfl)) ?_
     refine VL.step rfl (fun C hC => R.mov (gV 13 rfl) rfl (nU rfl)) ?_
     refine VL.stepG ⟨_,14,rfl,rfl,.inl ⟨_,rfl,gw (v := false) (rfl) rfl⟩⟩ (fun C hC => R.mov (gV 3 rfl) rfl (nU rfl)) ?_
     refine VL.stepG ⟨_,14,rfl,rfl,.inl ⟨_,rfl,gw (v := false) (rfl) rfl⟩⟩ (fun C hC => R.lenE (SC.sl (gU 15 rfl)) (List.length_map _) (nU rfl)) ?_
     refine VL.stepG ⟨_,14,rfl,rfl,.inl ⟨_,rfl,gw (v := false) (rfl) rfl⟩⟩ (fun C hC => R.eqlN ((rowA joinS l k).length) (1) (gV 16 rfl) (kI 1 rfl) (nU rfl)) ?_
     refine VL.step rfl (fun C hC => R.pickF (gV 14 rfl) (rfl) (gV 17 rfl) rfl (nU rfl)) ?_
     refine VL.nil ?_
     refine V.dropS (live := [0,3,18]) (env' := [(0,_),(3,_),(18,_)]) (bx' := []) (n' := 43) rfl rfl rfl ?_
     refine V.of fun C hC hD => ?_
     refine W.condD rfl (fun hc18 => ?_) (fun hc18 => ?_)
     · refine W.exit ?_
       exact ⟨fun _ h => (by cases h),.inl rfl,.inr (by rw [List.length_map,List.length_range]; show k + 1 = _; rw [show (rowA joinS l k).length = 1 by omega,nRows_1] at hk; omega)⟩
     · refine W.skip ?_
       refine V.of fun C hC hD => ?_
       refine W.seq ?_
       refine W.l0 1 [.y 4 _] [] [] [(0,_),(3,_),(4,_)] [] 43 ⟨aU fun _ _ H _ => R.asg (kN rfl) rfl H,trivial⟩ rfl rfl rfl rfl (tU rfl ?_)
       refine W.seq ?_
       refine W.seq ?_
       refine W.l0 1 [.y 5 _] [] [] [(0,_),(3,_),(4,_),(5,_)] [] 43 ⟨aU fun _ _ H _ => R.asg (kI 0 rfl) rfl H,trivial⟩ rfl rfl rfl rfl (tU rfl ?_)
       refine W.block ?_
       refine W.asOwn (s := 4) 38 32 rfl ?_
       refine W.loop (α := {q__ : Nat // q__ ≤ ((rowA joinS l k).length + 1) / 2}) (fun q__ => ⟨43,[(0,.yld lo),(3,.sl none 32 ((rowA joinS l k).map hashD)),(4,.sl (some 38) 32 ((upI joinS (rowA joinS l k) q__.1).map hashD)),(5,.int ((2 * q__.1 : Nat) : Int))],[]⟩) (fun q__ => ((rowA joinS l k).length + 1) / 2 - q__.1) ⟨(0),bU⟩ rfl ?_
       rintro ⟨i,hi⟩
       show W _ _ _ _ ⟨43,[(0,.yld lo),(3,.sl none 32 ((rowA joinS l k).map hashD)),(4,.sl (some 38) 32 ((upI joinS (rowA joinS l k) i).map hashD)),(5,.int ((2 * i : Nat) : Int))],[]⟩
       have hul := upI_len joinS (rowA joinS l k) i
       refine W.seq ?_
       refine W.seq ?_
       refine W.l0 4 [.y 19 _,.y 20 _,.y 21 _,.y 22 _] [] [] [(0,_),(3,_),(4,_),(5,_),(22,_)] [] 43 ⟨mU 5 rfl rfl,mU 3 rfl rfl,aU fun _ _ H K => R.lenE (SC.sl (K 20 _ rfl)) (List.length_map _) H,aU fun _ _ H K => R.lssN (2 * i) ((rowA joinS l k).length) (eU K 19 rfl) (eU K 21 rfl) H,trivial⟩ rfl rfl rfl rfl (tU rfl ?_)
       refine W.condD rfl (fun hc22 => ?_) (fun hc22 => ?_)
       · refine W.skip ?_
         refine W.seq ?_
         refine W.block ?_
         refine W.draw (m := 18) (an := [0,0,0,6,14,0,0,64,0,256,768,1984,4064,8160,16382,32766,65535,131071]) hP (by decide) rfl (its := [.y 25 _,.y 26 _,.y 27 _,.y 28 _,.y 29 _,.y 30 _,.y 31 _,.y 32 _,.y 33 _,.y 34 _,.y 35 _,.y 36 _,.y 37 _,.y 38 _,.y 39 _,.y 40 _,.y 41 _,.y 4 _]) (ks := [(16,4),(17,41),(17,25)]) (kk := [(16,4),(17,41)]) (live := [0,3,4,5]) (env' := [(0,_),(3,_),(4,_),(5,_)]) (⟨nU rfl,rfl,⟨aU fun _ _ H K => R.al (K 4 _ rfl) H (by decide),mU 3 rfl rfl,mU 5 rfl rfl,aU fun _ _ H K => R.idxN (2 * i) (SC.sl (K 26 _ rfl)) (evoI (eU K 27 rfl)) rfl bU H (by decide),aU fun _ _ H K => R.ldE (K 28 _ rfl) (SC.sl (K 26 _ rfl)) (map_get! (l := (rowA joinS l k)) bU) rfl rfl rfl rfl H,mU 3 rfl rfl,mU 5 rfl rfl,aU fun _ _ H K => R.addN (2 * i) (1) (eU K 31 rfl) (kI 1 rfl) bU H,mU 3 rfl rfl,aU fun _ _ H K => R.lenE (SC.sl (K 33 _ rfl)) (List.length_map _) H,aU fun _ _ H K => R.subN ((rowA joinS l k).length) (1) (eU K 34 rfl) (kI 1 rfl) bU bU H,aU fun _ _ H K => R.minI (r := ((min (2 * i + 1) ((rowA joinS l k).length - 1) : Nat) : Int)) (eU K 32 rfl) (eU K 35 rfl) (by omega) H,aU fun _ _ H K => R.idxN (min (2 * i + 1) ((rowA joinS l k).length - 1)) (SC.sl (K 30 _ rfl)) (evoI (eU K 36 rfl)) rfl bU H (by decide),aU fun _ _ H K => R.ldE (K 37 _ rfl) (SC.sl (K 30 _ rfl)) (map_get! (l := (rowA joinS l k)) bU) rfl rfl rfl rfl H,aU fun _ _ H K => R.callG hC (join_ok _ _ (hra.get (by omega)) (hra.get (by omega))) (Bors.cons (Bor.pur (eU K 29 rfl) rfl rfl) (Bors.cons (Bor.pur (eU K 38 rfl) rfl rfl) Bors.nil)) (FrsR.one (frs_hash _)) H,aU fun _ _ H K => R.bslE (z := 32) (.cons (eU K 39 rfl) .nil) ⟨⟨rfl,rfl,rfl⟩,trivial⟩ rfl H (by decide),aU fun _ _ H K => R.appE (Or.inr (K 25 _ rfl)) (K 4 _ rfl) (SrcO.sc (SC.sl (K 40 _ rfl)) (pur_lit rfl)) (app_one) bU H (by decide) (by decide),aU fun _ _ H K => R.asgO (K 41 _ rfl) rfl H (by decide),trivial⟩,rfl,rfl,rfl⟩) rfl (bx' := []) rfl (n' := 43) rfl (tV [(0,_),(3,_),(4,_),(5,_)] [] 43 rfl rfl rfl ?_)
         refine W.l0 3 [.y 23 _,.y 24 _,.y 5 _] [] [] [(0,_),(3,_),(4,_),(5,_)] [] 43 ⟨mU 5 rfl rfl,aU fun _ _ H K => R.addN (2 * i) (2) (eU K 23 rfl) (kI 2 rfl) bU H,aU fun _ _ H K => R.asg (eU K 24 rfl) rfl H,trivial⟩ rfl rfl rfl rfl (tU rfl ?_)
         exact ⟨⟨(i + 1),bU⟩,rfl,(by simp only []; omega)⟩
       · obtain rfl : i = ((rowA joinS l k).length + 1) / 2 := by omega
         refine W.exit ?_
         refine W.frzS (s := 4) (d' := .sl none 32 ((rowA joinS l (k + 1)).map hashD)) rfl rfl (brw_hs _ _ _) ?_
         refine W.l0 2 [.y 42 _,.y 3 _] [] [] [(0,_),(3,_)] [] 43 ⟨mU 4 rfl rfl,aU fun _ _ H K => R.asg (eU K 42 rfl) rfl H,trivial⟩ rfl rfl rfl rfl (tU rfl ?_)
         exact ⟨⟨(k + 1),(by have h2 := nRows_2 (n := (rowA joinS l k).length) (by omega); have h3 : (rowA joinS l (k + 1)).length = ((rowA joinS l k).length + 1) / 2 := upR_len _ _; rw [h2,← h3] at hk; show k + 1 + _ = _; omega)⟩,rfl,(by have := nRows_pos (n := (rowA joinS l k).length) (by omega); simp only []; omega)⟩
   · refine VL.step rfl (fun C hC => R.un (gV 12 rfl) rfl (nU rfl)) ?_
     refine VL.step rfl (fun C hC => R.mov (gV 13 rfl) rfl (nU rfl)) ?_
     refine VL.stepU ⟨_,14,rfl,rfl,.inl ⟨_,rfl,gw (v := true) (rfl) rfl⟩⟩ rfl (nU rfl) ?_
     refine VL.stepU ⟨_,14,rfl,rfl,.inl ⟨_,rfl,gw (v := true) (rfl) rfl⟩⟩ rfl (nU rfl) ?_
     refine VL.stepU ⟨_,14,rfl,rfl,.inl ⟨_,rfl,gw (v := true) (rfl) rfl⟩⟩ rfl (nU rfl) ?_
     refine VL.step rfl (fun C hC => R.pickT (gV 14 rfl) (rfl) (kB true rfl) rfl (nU rfl)) ?_
     refine VL.nil ?_
     refine V.dropS (live := [0,3,18]) (env' := [(0,_),(3,_),(18,_)]) (bx' := []) (n' := 43) rfl rfl rfl ?_
     refine V.of fun C hC hD => ?_
     refine W.condT rfl (rfl) ?_
     refine W.exit ?_
     exact ⟨fun _ h => (by cases h),.inl rfl,.inl rfl⟩
 · refine W.exit ?_
   exact ⟨fun _ h => (by cases h),.inl rfl,.inr (by rw [List.length_map,List.length_range]; show k = _; rw [show (rowA joinS l k).length = 0 by omega,nRows_0] at hk; omega)⟩

end Go.Sx

namespace Go.Sx
open Go.Proofs
theorem partner_ok (l : List Hs) (k : Nat) (hl0 : 1 ≤ l.length) (hl1 : l.length ≤ 1000) (hk0 : k < 1000000) : Fn Tryd.prog gl 39 [.sl none 32 (l.map hashD),.int ((k : Nat) : Int)] (hashD (partS l k)) := by
 refine Fn.of (n := 14) Tryd.func39 rfl rfl rfl (nU rfl) fun C hC hD => ?_
 have hxl := xor1_le k
 refine W.seq ?_
 refine W.l0 1 [] [] [] [(0,_),(1,_)] [] 14 trivial rfl rfl rfl rfl (⟨rfl,_,R.alloc rfl (nU rfl),tV [(0,_),(1,_),(4,_)] [(4,.var _)] 14 rfl rfl rfl ?_⟩)
 refine W.seq ?_
 refine W.l0 10 [.y 5 _,.y 6 _,.y 7 _,.y 8 _,.y 9 _,.y 10 _,.y 11 _,.y 12 _,.y 13 _] [] [] [(4,_),(13,_)] [(4,.var _)] 14 ⟨mU 0 rfl rfl,mU 1 rfl rfl,aU fun _ _ H K => R.binE (d := .int ((xor1 k : Nat) : Int)) (eU K 6 rfl) (kI 1 rfl) rfl trivial (bits_xor1 k hk0) H,mU 0 rfl rfl,aU fun _ _ H K => R.lenE (SC.sl (K 8 _ rfl)) (List.length_map _) H,aU fun _ _ H K => R.subN (l.length) (1) (eU K 9 rfl) (kI 1 rfl) bU bU H,aU fun _ _ H K => R.minI (r := ((min (xor1 k) (l.length - 1) : Nat) : Int)) (eU K 7 rfl) (eU K 10 rfl) (by omega) H,aU fun _ _ H K => R.idxN (min (xor1 k) (l.length - 1)) (SC.sl (K 5 _ rfl)) (evoI (eU K 11 rfl)) rfl bU H (by decide),aU fun _ _ H K => R.ldE (K 12 _ rfl) (SC.sl (K 5 _ rfl)) (map_get! (l := l) bU) rfl rfl rfl rfl H,trivial⟩ rfl rfl rfl rfl (⟨rfl,_,R.stZ (gU 4 rfl) (xU 4 rfl) rfl (gV 13 rfl) (by rfl) (by rfl) (by rfl) (by rfl) rfl,tV [(4,_)] [(4,.var _)] 14 rfl rfl rfl ?_⟩)
 refine W.ret ?_
 exact Ends.one' (.inr rfl) rfl (rfl) rfl rfl (show LdT _ 38 32 true from inferInstance)

theorem root_ok (l : List Hs) (hl : allH l) (hl0 : l.length ≤ 1000) : Fn Tryd.prog gl 22 [.sl none 32 (l.map hashD)] (hashD (rootS joinS l)) := by
 refine Fn.ofR (n := 11) Tryd.func22 rfl rfl rfl (nU rfl) fun W0 G hgl => ?_
 refine V.seq ?_
 refine V.of fun C hC hD => ?_
 refine W.l0 1 [] [] [] [(0,_)] [] 11 trivial rfl rfl rfl rfl (⟨rfl,_,R.alloc rfl (nU rfl),tV [(0,_),(2,_)] [(2,.var _)] 11 rfl rfl rfl ?_⟩)
 refine V.seq ?_
 refine V.seq ?_
 refine V.of fun C hC hD => ?_
 refine W.l0 2 [.y 4 _,.y 5 _] [] [] [(2,_),(5,_)] [(2,.var _)] 11 ⟨mU 0 rfl rfl,aU fun _ _ H K => R.callPE hC (rows_ok l) (EvP.cons (eU K 4 rfl) rfl rfl EvP.nil) H,trivial⟩ rfl rfl rfl rfl (tU rfl ?_)
 refine V.block ?_
 refine V.rangeE [2] (nRows l.length) (fun k => .sl none 32 ((rowA joinS l k).map hashD)) (fun k => [(2,.var (hashD (rootA joinS l k)))]) (fun _ _ => False) (fun _ => True) hgl (rows_itr l hl hl0) rfl rfl rfl rfl (rfl) rfl ⟨frs_hash' _,rfl,trivial⟩ (fun _ => ⟨rfl,rfl⟩) (trivial) (fun k hk hJ C hC hD => ?_) ?_ ?_
 · have hrl := rowA_len joinS l k
   have hle := lenA_le l.length k
   have hra := rowA_all joinS_len hl k
   have hrp := rowA_pos joinS l k hk
   show W _ _ _ _ _
   refine W.dropS (live := [2,6]) (env' := [(2,_),(6,_)]) (bx' := [(2,.var _)]) (n' := 11) rfl rfl rfl ?_
   refine W.l0 1 [.y 3 _] [] [] [(2,_),(3,_)] [(2,.var _)] 11 ⟨aU fun _ _ H K => R.asg (eU K 6 rfl) rfl H,trivial⟩ rfl rfl rfl rfl (tU rfl ?_)
   refine ⟨rfl,fun C hC hD => ?_⟩
   refine W.block ?_
   refine W.l0 4 [.y 7 _,.y 8 _,.y 9 _] [] [] [(2,_),(9,_)] [(2,.var _)] 11 ⟨mU 3 rfl rfl,aU fun _ _ H K => R.idxN (0) (SC.sl (K 7 _ rfl)) (evoI (kI 0 rfl)) rfl bU H (by decide),aU fun _ _ H K => R.ldE (K 8 _ rfl) (SC.sl (K 7 _ rfl)) (map_get! (l := (rowA joinS l k)) bU) rfl rfl rfl rfl H,trivial⟩ rfl rfl rfl rfl (⟨rfl,_,R.stZ (gU 2 rfl) (xU 2 rfl) rfl (gV 9 rfl) (by rfl) (by rfl) (by rfl) (by rfl) rfl,tV [] [(2,.var _)] 11 rfl rfl rfl ?_⟩)
   exact ⟨.inl ⟨rfl,rfl,trivial⟩,⟨frs_hash' _,rfl,trivial⟩⟩
 · intro hJ
   refine V.of fun C hC hD => ?_
   refine W.seq ?_
   refine W.l0 2 [.y 10 _] [] [] [(2,_),(10,_)] [(2,.var _)] 11 ⟨aU (lU 2 rfl rfl rfl rfl rfl rfl rfl),trivial⟩ rfl rfl rfl rfl (⟨rfl,_,R.stZ (gU 2 rfl) (xU 2 rfl) rfl (gV 10 rfl) (by rfl) (by rfl) (by rfl) (by rfl) rfl,tV [(2,_)] [(2,.var _)] 11 rfl rfl rfl ?_⟩)
   refine W.ret ?_
   exact Ends.one' (.inr rfl) rfl (rfl) rfl rfl (show LdT _ 38 32 true from inferInstance)
 · exact fun e bx he hs => hs.elim

end Go.Sx

namespace Go.Sx
open Go.Proofs
theorem branch_ok (l : List Hs) (hl : allH l) (m : Nat) (hm : m < l.length) (hl0 : l.length ≤ 1000) : Fn Tryd.prog gl 23 [.sl none 32 (l.map hashD),.int ((m : Nat) : Int)] (.tup [.sl (some 38) 32 ((brS joinS l m).map hashD),.int 0]) := by
 refine Fn.ofR (n := 30) Tryd.func23 rfl rfl rfl (nU rfl) fun W0 G hgl => ?_
 refine V.seq ?_
 refine V.of fun C hC hD => ?_
 refine W.l0 3 [] [] [] [(0,_),(1,_)] [] 30 trivial rfl rfl rfl rfl (⟨rfl,_,R.box (gV 1 rfl) rfl rfl (nU rfl),⟨rfl,_,R.alloc rfl (nU rfl),⟨rfl,_,R.asg (kI 0 rfl) rfl (nU rfl),tV [(0,_),(3,_),(4,_)] [(4,.var _),(3,.var _)] 30 rfl rfl rfl ?_⟩⟩⟩)
 refine V.seq ?_
 refine V.of fun C hC hD => ?_
 refine W.seq ?_
 refine W.l0 8 [.y 7 _,.y 8 _,.y 9 _,.y 10 _,.y 11 _,.y 12 _,.y 13 _,.y 14 _] [] [] [(0,_),(3,_),(4,_),(14,_)] [(4,.var _),(3,.var _)] 30 ⟨aU (lU 3 rfl rfl rfl rfl rfl rfl rfl),aU fun _ _ H K => R.lssN (m) (0) (eU K 7 rfl) (kI 0 rfl) H,mU 8 rfl rfl,aW rfl rfl (gF (decide_eq_false (Nat.not_lt_zero _)) rfl) (lU 3 rfl rfl rfl rfl rfl rfl rfl),aW rfl rfl (gF (decide_eq_false (Nat.not_lt_zero _)) rfl) fun _ _ H K => R.mov (eU K 0 rfl) rfl H,aW rfl rfl (gF (decide_eq_false (Nat.not_lt_zero _)) rfl) fun _ _ H K => R.lenE (SC.sl (K 11 _ rfl)) (List.length_map _) H,aW rfl rfl (gF (decide_eq_false (Nat.not_lt_zero _)) rfl) fun _ _ H K => R.geqN (m) (l.length) (eU K 10 rfl) (eU K 12 rfl) H,aU fun _ _ H K => R.pickF (eU K 9 rfl) (decide_eq_false (Nat.not_lt_zero _)) (eU K 13 rfl) rfl H,trivial⟩ rfl rfl rfl rfl (tU rfl ?_)
 refine W.condF rfl (decide_eq_false (by omega)) ?_
 refine W.skip ?_
 refine V.seq ?_
 refine V.seq ?_
 refine V.of fun C hC hD => ?_
 refine W.l0 2 [.y 15 _,.y 16 _] [] [] [(3,_),(4,_),(16,_)] [(4,.var _),(3,.var _)] 30 ⟨mU 0 rfl rfl,aU fun _ _ H K => R.callPE hC (rows_ok l) (EvP.cons (eU K 15 rfl) rfl rfl EvP.nil) H,trivial⟩ rfl rfl rfl rfl (tU rfl ?_)
 refine V.block ?_
 refine V.asOwnB (id := 4) 38 32 rfl ?_
 refine V.rangeE [4,3] (nRows l.length) (fun k => .sl none 32 ((rowA joinS l k).map hashD)) (fun k => [(4,.var (.sl (some 38) 32 ((brA joinS l m k).map hashD))),(3,.var (.int ((m / 2 ^ k : Nat) : Int)))]) (fun _ _ => False) (fun _ => True) hgl (rows_itr l hl hl0) rfl rfl rfl rfl (by simp only [brA,Nat.pow_zero,Nat.div_one]; rfl) rfl ⟨frs_hs _ _ _,rfl,.int _,rfl,trivial⟩ (fun _ => ⟨rfl,rfl⟩) (trivial) (fun k hk hJ C hC hD => ?_) ?_ ?_
 · have hrl := rowA_len joinS l k
   have hle := lenA_le l.length k
   have hra := rowA_all joinS_len hl k
   have hrp := rowA_pos joinS l k hk
   have hmk : m / 2 ^ k < 1000000 := Nat.lt_of_le_of_lt (Nat.div_le_self _ _) (by omega)
   have hbl : (brA joinS l m k).length ≤ k := brA_len k
   have hnl := nRows_le l.length
   show W _ _ _ _ _
   refine W.dropS (live := [3,4,17]) (env' := [(3,_),(4,_),(17,_)]) (bx' := [(4,.var _),(3,.var _)]) (n' := 30) rfl rfl rfl ?_
   refine W.l0 1 [.y 6 _] [] [] [(3,_),(4,_),(6,_)] [(4,.var _),(3,.var _)] 30 ⟨aU fun _ _ H K => R.asg (eU K 17 rfl) rfl H,trivial⟩ rfl rfl rfl rfl (tU rfl ?_)
   refine ⟨rfl,fun C hC hD => ?_⟩
   refine W.block ?_
   refine W.seq ?_
   refine W.seq ?_
   refine W.l0 3 [.y 18 _,.y 19 _,.y 20 _] [] [] [(3,_),(4,_),(6,_),(20,_)] [(4,.var _),(3,.var _)] 30 ⟨mU 6 rfl rfl,aU fun _ _ H K => R.lenE (SC.sl (K 18 _ rfl)) (List.length_map _) H,aU fun _ _ H K => R.gtrN ((rowA joinS l k).length) (1) (eU K 19 rfl) (kI 1 rfl) H,trivial⟩ rfl rfl rfl rfl (tU rfl ?_)
   refine W.condD rfl (fun hc20 => ?_) (fun hc20 => ?_)
   · refine W.draw (m := 5) (an := [0,0,0,6,14,31,63]) hP (by decide) rfl (its := [.y 21 _,.y 22 _,.y 23 _,.y 24 _,.y 25 _]) (ks := []) (kk := []) (live := [3,4,21,25]) (env' := [(3,_),(4,_),(21,_),(25,_)]) (⟨nU rfl,rfl,⟨aU fun _ B H K => R.ldO (K 4 _ rfl) (B 4 _ rfl) rfl H,mU 6 rfl rfl,aU (lU 3 rfl rfl rfl rfl rfl rfl rfl),aU fun _ _ H K => R.callG hC (partner_ok (rowA joinS l k) (m / 2 ^ k) hrp (by omega) hmk) (Bors.cons (Bor.pur (eU K 22 rfl) rfl rfl) (Bors.cons (Bor.pur (eU K 23 rfl) rfl rfl) Bors.nil)) (FrsR.one (frs_hash _)) H,aU fun _ _ H K => R.bslE (z := 32) (.cons (eU K 24 rfl) .nil) ⟨⟨rfl,rfl,rfl⟩,trivial⟩ rfl H (by decide),trivial⟩,rfl,rfl,rfl⟩) rfl (bx' := [(4,.var _),(3,.var _)]) rfl (n' := 30) rfl (⟨rfl,_,R.appB (gU 21 rfl) (xU 4 rfl) rfl (gU 21 rfl) (SrcO.sc (SC.sl (gU 25 rfl)) (pur_lit rfl)) (app_one) bU (nU rfl) (by decide) (by decide),⟨rfl,_,R.stOZ (gU 4 rfl) (xU 4 rfl) rfl (gU 26 rfl) rfl rfl (by rfl) (by rfl) rfl rfl,tV [(3,_)] [(4,.var _),(3,.var _)] 30 rfl rfl rfl ?_⟩⟩)
     refine W.l0 3 [.y 27 _,.y 28 _] [] [] [(3,_),(28,_)] [(4,.var _),(3,.var _)] 30 ⟨aU (lU 3 rfl rfl rfl rfl rfl rfl rfl),aU fun _ _ H K => R.quoN (m / 2 ^ k) (2) (eU K 27 rfl) (kI 2 rfl) bU bU H,trivial⟩ rfl rfl rfl rfl (⟨rfl,_,R.stZ (gU 3 rfl) (xU 3 rfl) rfl (gV 28 rfl) (by rfl) (by rfl) (by rfl) (by rfl) rfl,tV [] [(4,.var _),(3,.var _)] 30 rfl rfl rfl ?_⟩)
     exact ⟨.inl ⟨rfl,by first | (simp only [brA,if_pos hc20,Nat.pow_succ,← Nat.div_div_eq_div_mul]; rfl) | (simp only [brA,if_neg hc20,Nat.pow_succ,← Nat.div_div_eq_div_mul]; rfl),trivial⟩,⟨frs_hs _ _ _,rfl,.int _,rfl,trivial⟩⟩
   · refine W.skip ?_
     refine W.l0 3 [.y 27 _,.y 28 _] [] [] [(3,_),(28,_)] [(4,.var _),(3,.var _)] 30 ⟨aU (lU 3 rfl rfl rfl rfl rfl rfl rfl),aU fun _ _ H K => R.quoN (m / 2 ^ k) (2) (eU K 27 rfl) (kI 2 rfl) bU bU H,trivial⟩ rfl rfl rfl rfl (⟨rfl,_,R.stZ (gU 3 rfl) (xU 3 rfl) rfl (gV 28 rfl) (by rfl) (by rfl) (by rfl) (by rfl) rfl,tV [] [(4,.var _),(3,.var _)] 30 rfl rfl rfl ?_⟩)
     exact ⟨.inl ⟨rfl,by first | (simp only [brA,if_pos hc20,Nat.pow_succ,← Nat.div_div_eq_div_mul]; rfl) | (simp only [brA,if_neg hc20,Nat.pow_succ,← Nat.div_div_eq_div_mul]; rfl),trivial⟩,⟨frs_hs _ _ _,rfl,.int _,rfl,trivial⟩⟩
 · intro hJ
   refine V.of fun C hC hD => ?_
   refine W.seq ?_
   refine W.l0 3 [.y 29 _] [] [] [(4,_),(29,_)] [(4,.var _),(3,.var _)] 30 ⟨aU fun _ B H K => R.ldO (K 4 _ rfl) (B 4 _ rfl) rfl H,trivial⟩ rfl rfl rfl rfl (⟨rfl,_,R.stTB (gU 29 rfl) (xU 4 rfl) rfl (gU 29 rfl) (gU 4 rfl) rfl,⟨rfl,_,R.asg (kI 0 rfl) rfl (nU rfl),tV [(4,_),(5,_)] [(4,.var _),(3,.var _)] 30 rfl rfl rfl ?_⟩⟩)
   refine W.ret ?_
   exact Ends.many (.inr rfl) (.cons rfl rfl rfl (show LdT _ 22 1 false from inferInstance) (.cons rfl rfl rfl trivial .nil)) (rfl) (show [(4,false),(5,true)].Nodup by decide)
 · exact fun e bx he hs => hs.elim

end Go.Sx

namespace Go.Sx

theorem upI_get (J : Hs → Hs → Hs) (l : List Hs) (i j : Nat) (h : j < i) : (upI J l i)[j]! = J l[2 * j]! l[min (2 * j + 1) (l.length - 1)]! := by
 induction i with
 | zero => omega
 | succ i ih =>
  simp only [upI]
  rcases Nat.lt_or_ge j i with h1 | h1
  · rw [get!_append (by rw [upI_len]; exact h1)]; exact ih h1
  · obtain rfl : j = i := by omega
    rw [get!_last (upI_len J l j).symm]
theorem rowA_get (J : Hs → Hs → Hs) (l : List Hs) (k j : Nat) (h : j < (rowA J l (k + 1)).length) : (rowA J l (k + 1))[j]! = J (rowA J l k)[2 * j]! (rowA J l k)[min (2 * j + 1) ((rowA J l k).length - 1)]! := by
 simp only [rowA,upR] at h ⊢
 rw [upI_len] at h
 exact upI_get J _ _ _ h

theorem idx_lt {n m : Nat} (h : m < n) (j : Nat) : m / 2 ^ j < lenA n j := by
 induction j with
 | zero => simpa [lenA] using h
 | succ j ih =>
  simp only [lenA,Nat.pow_succ,← Nat.div_div_eq_div_mul]
  omega
theorem idx_back {n i : Nat} (j : Nat) (h : i < lenA n j) : i * 2 ^ j < n := by
 induction j generalizing i with
 | zero => simpa [lenA] using h
 | succ j ih =>
  simp only [lenA] at h
  have := ih (i := 2 * i) (by omega)
  rw [Nat.pow_succ,Nat.mul_comm (2 ^ j) 2,← Nat.mul_assoc,Nat.mul_comm i 2]
  exact this

def bad (J : Hs → Hs → Hs) (l : List Hs) (m j : Nat) : Bool := decide ((m / 2 ^ j) % 2 = 1) && ((rowA J l j)[m / 2 ^ j]! == (rowA J l j)[m / 2 ^ j - 1]!)

theorem brA_eq (J : Hs → Hs → Hs) (l : List Hs) (m : Nat) : ∀ k,k < nRows l.length → brA J l m k = (List.range k).map fun j => partS (rowA J l j) (m / 2 ^ j) := by
 intro k
 induction k with
 | zero => intro _; rfl
 | succ k ih =>
  intro h
  have h2 := rowA_more J l k h
  simp only [brA,if_pos (show 1 < (rowA J l k).length by omega),ih (by omega),List.range_succ,List.map_append,List.map_cons,List.map_nil]
theorem brS_eq (J : Hs → Hs → Hs) (l : List Hs) (m N : Nat) (h : N + 1 = nRows l.length) : brS J l m = (List.range N).map fun j => partS (rowA J l j) (m / 2 ^ j) := by
 unfold brS
 rw [← h]
 have h1 := rowA_last J l N h
 simp only [brA,h1,if_neg (show ¬ 1 < 1 by omega)]
 exact brA_eq J l m N (by omega)

def hv (n : UInt8) : Hs := n :: List.replicate 31 0
def abc : List Hs := [hv 1,hv 2,hv 3]
theorem abc_all : allH abc := by
 intro h hh
 simp only [abc,List.mem_cons,List.not_mem_nil,or_false] at hh
 rcases hh with rfl | rfl | rfl <;> rfl
theorem nRows_3 : nRows 3 = 3 := by rw [nRows_2 (by decide),nRows_2 (by decide),nRows_1]
theorem abc_r1 (J : Hs → Hs → Hs) : rowA J abc 1 = [J (hv 1) (hv 2),J (hv 3) (hv 3)] := by simp [rowA,upR,upI,abc]
theorem abc_r2 (J : Hs → Hs → Hs) : rowA J abc 2 = [J (J (hv 1) (hv 2)) (J (hv 3) (hv 3))] := by rw [rowA,abc_r1]; simp [upR,upI]
theorem wk_ne0 : (twiceR (hv 1 ++ hv 2))[0]! ≠ (twiceR (hv 3 ++ hv 3))[0]! := by decide +kernel
theorem wk_ne : joinS (hv 1) (hv 2) ≠ joinS (hv 3) (hv 3) := by
 intro h
 rw [join_r] at h
 exact wk_ne0 (congrArg (fun l : Hs => l[0]!) h)
theorem wk_d1J (J : Hs → Hs → Hs) (h : J (hv 1) (hv 2) ≠ J (hv 3) (hv 3)) : dblS J abc = false := by
 have h1 : rowDbl (rowA J abc 0) = false := by show rowDbl abc = false; decide
 have h2 : rowDbl (rowA J abc 1) = false := by
  refine rowDbl_false fun j hj => ?_
  have : (rowA J abc 1).length = 2 := by rw [abc_r1]; rfl
  obtain rfl : j = 0 := by omega
  rw [abc_r1]
  show (J (hv 3) (hv 3) == J (hv 1) (hv 2)) = false
  exact beq_false_of_ne (fun e => h e.symm)
 have h3 : rowDbl (rowA J abc 2) = false := by
  refine rowDbl_false fun j hj => ?_
  have : (rowA J abc 2).length = 1 := by rw [abc_r2]; rfl
  omega
 refine dblS_false fun j hj => ?_
 rw [show abc.length = 3 from rfl,nRows_3] at hj
 have : j = 0 ∨ j = 1 ∨ j = 2 := by omega
 rcases this with rfl | rfl | rfl <;> assumption
theorem wk_d1 : dblS joinS abc = false := wk_d1J joinS wk_ne
end Go.Sx

namespace Go.Sx
structure PartS where
 n : Int
 hs : List Hs
 fl : List Bool
 deriving Inhabited
def partD (p : PartS) : D := .agg [.int p.n,.sl none 32 (p.hs.map hashD),.sl none 1 (p.fl.map D.bool)]
def hsD (l : List Hs) : D := .sl none 32 (l.map hashD)
def flD (l : List Bool) : D := .sl none 1 (l.map D.bool)
def szB (n : Nat) : Bool := decide (n = 1) || decide (n = 2) || decide (n = 4) || decide (n = 8)
def shr8 (n : UInt64) : Nat → UInt64
 | 0 => n
 | k + 1 => shr_u64 (shr8 n k) 8
def leB (n : UInt64) : Nat → List UInt8
 | 0 => []
 | k + 1 => leB n k ++ [(shr8 n k).toUInt8]
theorem leB_len (n : UInt64) (k : Nat) : (leB n k).length = k := by
 induction k with
 | zero => rfl
 | succ k ih => simp [leB,ih]
def le2 (b : List UInt8) (k : Nat) : UInt64 := UInt64.ofNat (b[k]!.toNat + 256 * b[k + 1]!.toNat)
def takS (b : List UInt8) (k : Nat) : UInt64 × Nat × Nat := if b.length < k then (0,0,1) else if b.length < k + 2 then (0,0,5) else (le2 b k,k + 2,0)
theorem le2_or (b : List UInt8) (k : Nat) : (0 : UInt64) ||| shl_u64 b[k]!.toUInt64 0 ||| shl_u64 b[k + 1]!.toUInt64 8 = le2 b k := by
 apply UInt64.toNat_inj.1
 have h1 := b[k]!.toNat_lt
 have h2 := b[k + 1]!.toNat_lt
 have e0 : (shl_u64 b[k]!.toUInt64 0) = b[k]!.toUInt64 := by simp [shl_u64]
 have e1 : (shl_u64 b[k + 1]!.toUInt64 8).toNat = b[k + 1]!.toNat <<< 8 := by
  simp only [shl_u64,Nat.reduceLT,if_true,UInt64.toNat_shiftLeft,UInt8.toNat_toUInt64]
  rw [show (UInt64.ofNat 8).toNat % 64 = 8 from rfl,Nat.shiftLeft_eq]
  omega
 rw [e0,UInt64.toNat_or,UInt64.toNat_or,e1,UInt8.toNat_toUInt64]
 simp only [le2,UInt64.toNat_ofNat',UInt64.toNat_zero,Nat.zero_or]
 rw [Nat.or_comm,← Nat.shiftLeft_add_eq_or_of_lt (by omega : b[k]!.toNat < 2 ^ 8),Nat.shiftLeft_eq]
 omega
def numJ (l : List UInt8) : Nat → UInt64
 | 0 => 0
 | k + 1 => numJ l k ||| shl_u64 l[k]!.toUInt64 (8 * k)
theorem numJ_le2 {b : List UInt8} {m : Nat} (h : m + 2 ≤ b.length) : numJ ((b.drop m).take 2) 2 = le2 b m := by
 have h0 : ((b.drop m).take 2)[0]! = b[m]! := by
  rw [getElem!_pos ((b.drop m).take 2) 0 (by simp; omega),getElem!_pos b m (by omega)]; simp
 have h1 : ((b.drop m).take 2)[1]! = b[m + 1]! := by
  rw [getElem!_pos ((b.drop m).take 2) 1 (by simp; omega),getElem!_pos b (m + 1) (by omega)]; simp
 show (0 ||| shl_u64 _ (8 * 0)) ||| shl_u64 _ (8 * 1) = _
 rw [h0,h1]
 exact le2_or b m
theorem list_ext! {α : Type} [Inhabited α] {a b : List α} (hl : a.length = b.length) (h : ∀ j,j < a.length → a[j]! = b[j]!) : a = b := by
 refine List.ext_getElem hl fun i h1 h2 => ?_
 have := h i h1
 rwa [getElem!_pos a i h1,getElem!_pos b i h2] at this
theorem takS_1 {b : List UInt8} {m : Nat} (h : b.length < m) : takS b m = (0,0,1) := if_pos h
theorem takS_2 {b : List UInt8} {m : Nat} (h : ¬ b.length < m) (h2 : b.length < m + 2) : takS b m = (0,0,5) := by rw [takS,if_neg h,if_pos h2]
theorem takS_3 {b : List UInt8} {m : Nat} (h : ¬ b.length < m) (h2 : m + 2 ≤ b.length) : takS b m = (le2 b m,m + 2,0) := by rw [takS,if_neg h,if_neg (by omega)]
theorem nRows_short {n : Nat} (h : n ≤ 1) : nRows n ≤ 1 := by
 rcases (by omega : n = 0 ∨ n = 1) with rfl | rfl
 · rw [nRows_0]; omega
 · rw [nRows_1]; omega
end Go.Sx

namespace Go.Sx
open Go.Proofs
theorem same10_ok (a b : List Hs) (ha : a.length ≤ 1000000) : Fn Tryd.prog gl 16 [.sl none 32 (a.map hashD),.sl none 32 (b.map hashD)] (.bool (a == b)) := by
 refine Fn.of (n := 26) Tryd.func16 rfl rfl rfl (nU rfl) fun C hC hD => ?_
 refine W.seq ?_
 refine W.l0 1 [.y 4 _] [] [] [(0,_),(1,_)] [] 26 ⟨aU fun _ _ H _ => R.asg (kB false rfl) rfl H,trivial⟩ rfl rfl rfl rfl (tU rfl ?_)
 refine W.seq ?_
 refine W.seq ?_
 refine W.l0 5 [.y 6 _,.y 7 _,.y 8 _,.y 9 _,.y 10 _] [] [] [(0,_),(1,_),(10,_)] [] 26 ⟨mU 0 rfl rfl,aU fun _ _ H K => R.lenE (SC.sl (K 6 _ rfl)) (List.length_map _) H,mU 1 rfl rfl,aU fun _ _ H K => R.lenE (SC.sl (K 8 _ rfl)) (List.length_map _) H,aU fun _ _ H K => R.neqN (a.length) (b.length) (eU K 7 rfl) (eU K 9 rfl) H,trivial⟩ rfl rfl rfl rfl (tU rfl ?_)
 refine W.condD rfl (fun hc10 => ?_) (fun hc10 => ?_)
 · refine W.seq ?_
   refine W.l0 1 [.y 4 _] [] [] [(4,_)] [] 26 ⟨aU fun _ _ H _ => R.asg (kB false rfl) rfl H,trivial⟩ rfl rfl rfl rfl (tU rfl ?_)
   refine W.ret ?_
   exact Ends.one' (.inr rfl) rfl (by have := hc10; congr 1; symm; rw [beq_eq_false_iff_ne]; rintro rfl; exact this rfl) rfl rfl trivial
 · refine W.skip ?_
   refine W.seq ?_
   refine W.seq ?_
   refine W.l0 1 [.y 5 _] [] [] [(0,_),(1,_),(5,_)] [] 26 ⟨aU fun _ _ H _ => R.asg (kI 0 rfl) rfl H,trivial⟩ rfl rfl rfl rfl (tU rfl ?_)
   refine W.block ?_
   refine W.loop (α := {q__ : Nat // q__ ≤ a.length ∧ ∀ j,j < q__ → a[j]! = b[j]!}) (fun q__ => ⟨26,[(0,.sl none 32 (a.map hashD)),(1,.sl none 32 (b.map hashD)),(5,.int ((q__.1 : Nat) : Int))],[]⟩) (fun q__ => a.length - q__.1) ⟨(0),⟨Nat.zero_le _,fun j hj => absurd hj (Nat.not_lt_zero j)⟩⟩ rfl ?_
   rintro ⟨i,⟨hi,hall⟩⟩
   show W _ _ _ _ ⟨26,[(0,.sl none 32 (a.map hashD)),(1,.sl none 32 (b.map hashD)),(5,.int ((i : Nat) : Int))],[]⟩
   refine W.seq ?_
   refine W.seq ?_
   refine W.l0 4 [.y 11 _,.y 12 _,.y 13 _,.y 14 _] [] [] [(0,_),(1,_),(5,_),(14,_)] [] 26 ⟨mU 5 rfl rfl,mU 0 rfl rfl,aU fun _ _ H K => R.lenE (SC.sl (K 12 _ rfl)) (List.length_map _) H,aU fun _ _ H K => R.lssN (i) (a.length) (eU K 11 rfl) (eU K 13 rfl) H,trivial⟩ rfl rfl rfl rfl (tU rfl ?_)
   refine W.condD rfl (fun hc14 => ?_) (fun hc14 => ?_)
   · refine W.skip ?_
     refine W.seq ?_
     refine W.block ?_
     refine W.seq ?_
     refine W.draw (m := 9) (an := [0,0,3,7,0,0,48,112,255]) hP (by decide) rfl (its := [.y 17 _,.y 18 _,.y 19 _,.y 20 _,.y 21 _,.y 22 _,.y 23 _,.y 24 _,.y 25 _]) (ks := []) (kk := []) (live := [0,1,5,25]) (env' := [(0,_),(1,_),(5,_),(25,_)]) (⟨nU rfl,rfl,⟨mU 0 rfl rfl,mU 5 rfl rfl,aU fun _ _ H K => R.idxN (i) (SC.sl (K 17 _ rfl)) (evoI (eU K 18 rfl)) rfl bU H (by decide),aU fun _ _ H K => R.ldE (K 19 _ rfl) (SC.sl (K 17 _ rfl)) (map_get! (l := a) bU) rfl rfl rfl rfl H,mU 1 rfl rfl,mU 5 rfl rfl,aU fun _ _ H K => R.idxN (i) (SC.sl (K 21 _ rfl)) (evoI (eU K 22 rfl)) rfl bU H (by decide),aU fun _ _ H K => R.ldE (K 23 _ rfl) (SC.sl (K 21 _ rfl)) (map_get! (l := b) bU) rfl rfl rfl rfl H,aU fun _ _ H K => R.eqAX (eU K 20 rfl) (eU K 24 rfl) H,trivial⟩,rfl,rfl,rfl⟩) rfl (bx' := []) rfl (n' := 26) rfl (tV [(0,_),(1,_),(5,_),(25,_)] [] 26 rfl rfl rfl ?_)
     refine W.cond rfl (fun hc25 => ?_) (fun hc25 => ?_)
     · refine W.seq ?_
       refine W.l0 1 [.y 4 _] [] [] [(4,_)] [] 26 ⟨aU fun _ _ H _ => R.asg (kB false rfl) rfl H,trivial⟩ rfl rfl rfl rfl (tU rfl ?_)
       refine W.ret ?_
       exact Ends.one' (.inr rfl) rfl (by congr 1; symm; rw [beq_eq_false_iff_ne]; rintro rfl; simp at hc25) rfl rfl trivial
     · refine W.skip ?_
       refine W.l0 3 [.y 15 _,.y 16 _,.y 5 _] [] [] [(0,_),(1,_),(5,_)] [] 26 ⟨mU 5 rfl rfl,aU fun _ _ H K => R.addN (i) (1) (eU K 15 rfl) (kI 1 rfl) bU H,aU fun _ _ H K => R.asg (eU K 16 rfl) rfl H,trivial⟩ rfl rfl rfl rfl (tU rfl ?_)
       exact ⟨⟨(i + 1),⟨by omega,fun j hj => by rcases Nat.lt_or_ge j i with h | h; exact hall j h; obtain rfl : j = i := (by omega); simpa using hc25⟩⟩,rfl,(by simp only []; omega)⟩
   · refine W.exit ?_
     refine W.seq ?_
     refine W.l0 1 [.y 4 _] [] [] [(4,_)] [] 26 ⟨aU fun _ _ H _ => R.asg (kB true rfl) rfl H,trivial⟩ rfl rfl rfl rfl (tU rfl ?_)
     refine W.ret ?_
     exact Ends.one' (.inr rfl) rfl (by congr 1; symm; rw [beq_iff_eq]; exact list_ext! (by omega) (fun j hj => hall j (by omega))) rfl rfl trivial

end Go.Sx

namespace Go.Sx
theorem bfalse {b : Bool} (h : ¬ b = true) : b = false := by simpa using h
def upFI (f : List Bool) : Nat → List Bool
 | 0 => []
 | i + 1 => upFI f i ++ [f[2 * i]! || f[min (2 * i + 1) (f.length - 1)]!]
def upF (f : List Bool) : List Bool := upFI f ((f.length + 1) / 2)
theorem upFI_t {f : List Bool} {i : Nat} (h : f[2 * i]! = true) : upFI f i ++ [true] = upFI f (i + 1) := by rw [upFI,h]; rfl
theorem upFI_f {f : List Bool} {i m : Nat} (h : f[2 * i]! = false) (hm : f.length = m) : upFI f i ++ [f[min (2 * i + 1) (m - 1)]!] = upFI f (i + 1) := by rw [upFI,h,← hm]; rfl
def flA (f : List Bool) : Nat → List Bool
 | 0 => f
 | k + 1 => upF (flA f k)
theorem upFI_len (f : List Bool) (i : Nat) : (upFI f i).length = i := by
 induction i with
 | zero => rfl
 | succ i ih => simp [upFI,ih]
theorem flA_len {J : Hs → Hs → Hs} {l : List Hs} {f : List Bool} (h : f.length = l.length) (k : Nat) : (flA f k).length = (rowA J l k).length := by
 induction k with
 | zero => exact h
 | succ k ih =>
  show (upFI _ _).length = (upI J _ _).length
  rw [upFI_len,upI_len,ih]
def rowsL (J : Hs → Hs → Hs) (l : List Hs) (n : Nat) : List (List Hs) := (List.range n).map (rowA J l)
def flsL (f : List Bool) (n : Nat) : List (List Bool) := (List.range n).map (flA f)
theorem rowsL_len (J : Hs → Hs → Hs) (l : List Hs) (n : Nat) : (rowsL J l n).length = n := by simp [rowsL]
theorem flsL_len (f : List Bool) (n : Nat) : (flsL f n).length = n := by simp [flsL]
theorem rowsL_succ (J : Hs → Hs → Hs) (l : List Hs) (n : Nat) : rowsL J l (n + 1) = rowsL J l n ++ [rowA J l n] := by simp [rowsL,List.range_succ]
theorem flsL_succ (f : List Bool) (n : Nat) : flsL f (n + 1) = flsL f n ++ [flA f n] := by simp [flsL,List.range_succ]
theorem rowsL_get {J : Hs → Hs → Hs} {l : List Hs} {n k : Nat} (h : k < n) : (rowsL J l n)[k]! = rowA J l k := by
 rw [getElem!_pos _ k (by rw [rowsL_len]; exact h)]; simp [rowsL]
theorem flsL_get {f : List Bool} {n k : Nat} (h : k < n) : (flsL f n)[k]! = flA f k := by
 rw [getElem!_pos _ k (by rw [flsL_len]; exact h)]; simp [flsL]
theorem brw_fl (o : Option Nat) (z : Nat) (l : List Bool) : (D.sl o z (l.map D.bool)).brw = .sl none z (l.map D.bool) := by
 simp only [D.brw,brws_eq]
 rw [brw_map (fun _ => rfl)]
theorem brw_hsD (l : List Hs) : (hsD l).brw = hsD l := brw_hs _ _ _
theorem brw_flD (l : List Bool) : (flD l).brw = flD l := brw_fl _ _ _
theorem brw_hss (o : Option Nat) (z : Nat) (l : List (List Hs)) : (D.sl o z (l.map hsD)).brw = .sl none z (l.map hsD) := by
 simp only [D.brw,brws_eq]
 rw [brw_map brw_hsD]
theorem brw_fls (o : Option Nat) (z : Nat) (l : List (List Bool)) : (D.sl o z (l.map flD)).brw = .sl none z (l.map flD) := by
 simp only [D.brw,brws_eq]
 rw [brw_map brw_flD]
theorem lenA_pos {n : Nat} (h : 0 < n) (k : Nat) : 1 ≤ lenA n k := by
 induction k with
 | zero => exact h
 | succ k ih => show 1 ≤ (lenA n k + 1) / 2; omega
theorem rowA_pos1 (J : Hs → Hs → Hs) {l : List Hs} (h : 0 < l.length) (k : Nat) : 1 ≤ (rowA J l k).length := by
 rw [rowA_len]; exact lenA_pos h k
abbrev natD (j : Nat) : D := .int ((j : Nat) : Int)
def wdI (n : Nat) (k : Nat) : List Nat := (List.range k).map (lenA n)
theorem wdI_len (n k : Nat) : (wdI n k).length = k := by simp [wdI]
theorem wdI_succ (n k : Nat) : wdI n (k + 1) = wdI n k ++ [lenA n k] := by simp [wdI,List.range_succ]
theorem wdI_get {n m k : Nat} (h : k < m) : (wdI n m)[k]! = lenA n k := by
 rw [getElem!_pos _ k (by rw [wdI_len]; exact h)]; simp [wdI]
end Go.Sx

namespace Go.Sx
open Go.Proofs
theorem prows_ok (l : List Hs) (f : List Bool) (hl : allH l) (h0 : 0 < l.length) (hl0 : l.length ≤ 1000) (hf : f.length = l.length) : Fn Tryd.prog gl 24 [.sl none 32 (l.map hashD),.sl none 1 (f.map D.bool)] (.tup [.sl none 1 ((rowsL joinS l (nRows l.length)).map hsD),.sl none 1 ((flsL f (nRows l.length)).map flD)]) := by
 refine Fn.of (n := 68) Tryd.func24 rfl rfl rfl (nU rfl) fun C hC hD => ?_
 refine W.seq ?_
 refine W.l0 2 [.y 4 _,.y 5 _] [] [] [(0,_),(1,_)] [] 68 ⟨aU fun _ _ H _ => R.asg (kN rfl) rfl H,aU fun _ _ H _ => R.asg (kN rfl) rfl H,trivial⟩ rfl rfl rfl rfl (tU rfl ?_)
 refine W.seq ?_
 refine W.l0 6 [.y 12 _,.y 13 _,.y 14 _,.y 15 _,.y 6 _,.y 7 _] [(4,13),(5,15)] [(4,13),(5,15)] [(0,_),(1,_),(6,_),(7,_)] [] 68 ⟨mU 0 rfl rfl,aU fun _ _ H K => R.bslE (z := 1) (.cons (eU K 12 rfl) .nil) ⟨⟨rfl,rfl,rfl⟩,trivial⟩ rfl H (by decide),mU 1 rfl rfl,aU fun _ _ H K => R.bslE (z := 1) (.cons (eU K 14 rfl) .nil) ⟨⟨rfl,rfl,rfl⟩,trivial⟩ rfl H (by decide),aU fun _ _ H K => R.asgO (K 13 _ rfl) rfl H (by decide),aU fun _ _ H K => R.asgO (K 15 _ rfl) rfl H (by decide),trivial⟩ rfl rfl rfl rfl (tU rfl ?_)
 refine W.seq ?_
 refine W.block ?_
 refine W.loop (α := {q__ : Nat // q__ + nRows (rowA joinS l q__).length = nRows l.length}) (fun q__ => ⟨68,[(0,.sl none 32 ((rowA joinS l q__.1).map hashD)),(1,.sl none 1 ((flA f q__.1).map D.bool)),(6,.sl (some 22) 1 ((rowsL joinS l (q__.1 + 1)).map hsD)),(7,.sl (some 23) 1 ((flsL f (q__.1 + 1)).map flD))],[]⟩) (fun q__ => nRows l.length - q__.1) ⟨(0),(by show 0 + _ = _; rw [Nat.zero_add]; rfl)⟩ rfl ?_
 rintro ⟨k,hk⟩
 show W _ _ _ _ ⟨68,[(0,.sl none 32 ((rowA joinS l k).map hashD)),(1,.sl none 1 ((flA f k).map D.bool)),(6,.sl (some 22) 1 ((rowsL joinS l (k + 1)).map hsD)),(7,.sl (some 23) 1 ((flsL f (k + 1)).map flD))],[]⟩
 have hrl := rowA_len joinS l k
 have hle := lenA_le l.length k
 have hra := rowA_all joinS_len hl k
 have hrp := rowA_pos1 joinS h0 k
 have hfl := flA_len (J := joinS) hf k
 have hnl := nRows_le l.length
 have hsl := rowsL_len joinS l (k + 1)
 have hsf := flsL_len f (k + 1)
 have hk : k + nRows (rowA joinS l k).length = nRows l.length := hk
 have hkp := nRows_pos (n := (rowA joinS l k).length) hrp
 refine W.seq ?_
 refine W.seq ?_
 refine W.l0 3 [.y 16 _,.y 17 _,.y 18 _] [] [] [(0,_),(1,_),(6,_),(7,_),(18,_)] [] 68 ⟨mU 0 rfl rfl,aU fun _ _ H K => R.lenE (SC.sl (K 16 _ rfl)) (List.length_map _) H,aU fun _ _ H K => R.gtrN ((rowA joinS l k).length) (1) (eU K 17 rfl) (kI 1 rfl) H,trivial⟩ rfl rfl rfl rfl (tU rfl ?_)
 refine W.condD rfl (fun hc18 => ?_) (fun hc18 => ?_)
 · refine W.skip ?_
   refine W.block ?_
   refine W.seq ?_
   refine W.l0 1 [.y 8 _] [] [] [(0,_),(1,_),(6,_),(7,_),(8,_)] [] 68 ⟨aU fun _ _ H _ => R.asg (kN rfl) rfl H,trivial⟩ rfl rfl rfl rfl (tU rfl ?_)
   refine W.seq ?_
   refine W.l0 1 [.y 9 _] [] [] [(0,_),(1,_),(6,_),(7,_),(8,_),(9,_)] [] 68 ⟨aU fun _ _ H _ => R.asg (kN rfl) rfl H,trivial⟩ rfl rfl rfl rfl (tU rfl ?_)
   refine W.seq ?_
   refine W.seq ?_
   refine W.l0 1 [.y 10 _] [] [] [(0,_),(1,_),(6,_),(7,_),(8,_),(9,_),(10,_)] [] 68 ⟨aU fun _ _ H _ => R.asg (kI 0 rfl) rfl H,trivial⟩ rfl rfl rfl rfl (tU rfl ?_)
   refine W.block ?_
   refine W.asOwn (s := 8) 38 32 rfl ?_
   refine W.asOwn (s := 9) 4 1 rfl ?_
   refine W.loop (α := {q__ : Nat // q__ ≤ ((rowA joinS l k).length + 1) / 2}) (fun q__ => ⟨68,[(0,.sl none 32 ((rowA joinS l k).map hashD)),(1,.sl none 1 ((flA f k).map D.bool)),(6,.sl (some 22) 1 ((rowsL joinS l (k + 1)).map hsD)),(7,.sl (some 23) 1 ((flsL f (k + 1)).map flD)),(8,.sl (some 38) 32 ((upI joinS (rowA joinS l k) q__.1).map hashD)),(9,.sl (some 4) 1 ((upFI (flA f k) q__.1).map D.bool)),(10,.int ((2 * q__.1 : Nat) : Int))],[]⟩) (fun q__ => ((rowA joinS l k).length + 1) / 2 - q__.1) ⟨(0),bU⟩ rfl ?_
   rintro ⟨i,hi⟩
   show W _ _ _ _ ⟨68,[(0,.sl none 32 ((rowA joinS l k).map hashD)),(1,.sl none 1 ((flA f k).map D.bool)),(6,.sl (some 22) 1 ((rowsL joinS l (k + 1)).map hsD)),(7,.sl (some 23) 1 ((flsL f (k + 1)).map flD)),(8,.sl (some 38) 32 ((upI joinS (rowA joinS l k) i).map hashD)),(9,.sl (some 4) 1 ((upFI (flA f k) i).map D.bool)),(10,.int ((2 * i : Nat) : Int))],[]⟩
   have hul := upI_len joinS (rowA joinS l k) i
   have hvl := upFI_len (flA f k) i
   refine W.seq ?_
   refine W.seq ?_
   refine W.l0 4 [.y 19 _,.y 20 _,.y 21 _,.y 22 _] [] [] [(0,_),(1,_),(6,_),(7,_),(8,_),(9,_),(10,_),(22,_)] [] 68 ⟨mU 10 rfl rfl,mU 0 rfl rfl,aU fun _ _ H K => R.lenE (SC.sl (K 20 _ rfl)) (List.length_map _) H,aU fun _ _ H K => R.lssN (2 * i) ((rowA joinS l k).length) (eU K 19 rfl) (eU K 21 rfl) H,trivial⟩ rfl rfl rfl rfl (tU rfl ?_)
   refine W.condD rfl (fun hc22 => ?_) (fun hc22 => ?_)
   · refine W.skip ?_
     refine W.seq ?_
     refine W.block ?_
     refine W.seq ?_
     refine W.l0 7 [.y 25 _,.y 26 _,.y 27 _,.y 28 _,.y 29 _,.y 30 _,.y 11 _] [] [] [(0,_),(1,_),(6,_),(7,_),(8,_),(9,_),(10,_),(11,_)] [] 68 ⟨mU 10 rfl rfl,aU fun _ _ H K => R.addN (2 * i) (1) (eU K 25 rfl) (kI 1 rfl) bU H,mU 0 rfl rfl,aU fun _ _ H K => R.lenE (SC.sl (K 27 _ rfl)) (List.length_map _) H,aU fun _ _ H K => R.subN ((rowA joinS l k).length) (1) (eU K 28 rfl) (kI 1 rfl) bU bU H,aU fun _ _ H K => R.minI (r := ((min (2 * i + 1) ((rowA joinS l k).length - 1) : Nat) : Int)) (eU K 26 rfl) (eU K 29 rfl) (by omega) H,aU fun _ _ H K => R.asg (eU K 30 rfl) rfl H,trivial⟩ rfl rfl rfl rfl (tU rfl ?_)
     refine W.seq ?_
     refine W.draw (m := 13) (an := [0,0,0,6,14,0,0,96,224,510,1022,2047,4095]) hP (by decide) rfl (its := [.y 31 _,.y 32 _,.y 33 _,.y 34 _,.y 35 _,.y 36 _,.y 37 _,.y 38 _,.y 39 _,.y 40 _,.y 41 _,.y 42 _,.y 8 _]) (ks := [(11,8),(12,42),(12,31)]) (kk := [(11,8),(12,42)]) (live := [0,1,6,7,8,9,10,11]) (env' := [(0,_),(1,_),(6,_),(7,_),(8,_),(9,_),(10,_),(11,_)]) (⟨nU rfl,rfl,⟨aU fun _ _ H K => R.al (K 8 _ rfl) H (by decide),mU 0 rfl rfl,mU 10 rfl rfl,aU fun _ _ H K => R.idxN (2 * i) (SC.sl (K 32 _ rfl)) (evoI (eU K 33 rfl)) rfl bU H (by decide),aU fun _ _ H K => R.ldE (K 34 _ rfl) (SC.sl (K 32 _ rfl)) (map_get! (l := (rowA joinS l k)) bU) rfl rfl rfl rfl H,mU 0 rfl rfl,mU 11 rfl rfl,aU fun _ _ H K => R.idxN (min (2 * i + 1) ((rowA joinS l k).length - 1)) (SC.sl (K 36 _ rfl)) (evoI (eU K 37 rfl)) rfl bU H (by decide),aU fun _ _ H K => R.ldE (K 38 _ rfl) (SC.sl (K 36 _ rfl)) (map_get! (l := (rowA joinS l k)) bU) rfl rfl rfl rfl H,aU fun _ _ H K => R.callG hC (join_ok _ _ (hra.get (by omega)) (hra.get (by omega))) (Bors.cons (Bor.pur (eU K 35 rfl) rfl rfl) (Bors.cons (Bor.pur (eU K 39 rfl) rfl rfl) Bors.nil)) (FrsR.one (frs_hash _)) H,aU fun _ _ H K => R.bslE (z := 32) (.cons (eU K 40 rfl) .nil) ⟨⟨rfl,rfl,rfl⟩,trivial⟩ rfl H (by decide),aU fun _ _ H K => R.appE (Or.inr (K 31 _ rfl)) (K 8 _ rfl) (SrcO.sc (SC.sl (K 41 _ rfl)) (pur_lit rfl)) (app_one) bU H (by decide) (by decide),aU fun _ _ H K => R.asgO (K 42 _ rfl) rfl H (by decide),trivial⟩,rfl,rfl,rfl⟩) rfl (bx' := []) rfl (n' := 68) rfl (tV [(0,_),(1,_),(6,_),(7,_),(8,_),(9,_),(10,_),(11,_)] [] 68 rfl rfl rfl ?_)
     by_cases hfi : (flA f k)[2 * i]! = true
     · refine W.l0 14 [.y 43 _,.y 44 _,.y 45 _,.y 46 _,.y 47 _,.y 48 _,.x 49,.x 50,.x 51,.x 52,.y 53 _,.y 54 _,.y 55 _,.y 9 _] [(12,9),(13,55),(13,43)] [(12,9),(13,55)] [(0,_),(1,_),(6,_),(7,_),(8,_),(9,_),(10,_)] [] 68 ⟨aU fun _ _ H K => R.al (K 9 _ rfl) H (by decide),mU 1 rfl rfl,mU 10 rfl rfl,aU fun _ _ H K => R.idxN (2 * i) (SC.sl (K 44 _ rfl)) (evoI (eU K 45 rfl)) rfl bU H (by decide),aU fun _ _ H K => R.ldE (K 46 _ rfl) (SC.sl (K 44 _ rfl)) (map_get! (l := (flA f k)) bU) rfl rfl rfl rfl H,mU 47 rfl rfl,aF rfl rfl (gT (hfi) rfl),aF rfl rfl (gT (hfi) rfl),aF rfl rfl (gT (hfi) rfl),aF rfl rfl (gT (hfi) rfl),aU fun _ _ H K => R.pickT (eU K 48 rfl) (hfi) (kB true rfl) rfl H,aU fun _ _ H K => R.bslE (z := 1) (.cons (eU K 53 rfl) .nil) ⟨⟨rfl,rfl,rfl⟩,trivial⟩ rfl H (by decide),aU fun _ _ H K => R.appE (Or.inr (K 43 _ rfl)) (K 9 _ rfl) (SrcO.sc (SC.sl (K 54 _ rfl)) (pur_lit rfl)) (show _ = ((upFI (flA f k) (i + 1)).map D.bool) from (show _ = (upFI (flA f k) (i + 1)).map D.bool from by rw [← upFI_t hfi,List.map_append]; rfl)) bU H (by decide) (by decide),aU fun _ _ H K => R.asgO (K 55 _ rfl) rfl H (by decide),trivial⟩ rfl rfl rfl rfl (tU rfl ?_)
       refine W.l0 3 [.y 23 _,.y 24 _,.y 10 _] [] [] [(0,_),(1,_),(6,_),(7,_),(8,_),(9,_),(10,_)] [] 68 ⟨mU 10 rfl rfl,aU fun _ _ H K => R.addN (2 * i) (2) (eU K 23 rfl) (kI 2 rfl) bU H,aU fun _ _ H K => R.asg (eU K 24 rfl) rfl H,trivial⟩ rfl rfl rfl rfl (tU rfl ?_)
       exact ⟨⟨(i + 1),bU⟩,rfl,(by simp only []; omega)⟩
     · refine W.l0 14 [.y 43 _,.y 44 _,.y 45 _,.y 46 _,.y 47 _,.y 48 _,.y 49 _,.y 50 _,.y 51 _,.y 52 _,.y 53 _,.y 54 _,.y 55 _,.y 9 _] [(12,9),(13,55),(13,43)] [(12,9),(13,55)] [(0,_),(1,_),(6,_),(7,_),(8,_),(9,_),(10,_)] [] 68 ⟨aU fun _ _ H K => R.al (K 9 _ rfl) H (by decide),mU 1 rfl rfl,mU 10 rfl rfl,aU fun _ _ H K => R.idxN (2 * i) (SC.sl (K 44 _ rfl)) (evoI (eU K 45 rfl)) rfl bU H (by decide),aU fun _ _ H K => R.ldE (K 46 _ rfl) (SC.sl (K 44 _ rfl)) (map_get! (l := (flA f k)) bU) rfl rfl rfl rfl H,mU 47 rfl rfl,aW rfl rfl (gF (bfalse hfi) rfl) fun _ _ H K => R.mov (eU K 1 rfl) rfl H,aW rfl rfl (gF (bfalse hfi) rfl) fun _ _ H K => R.mov (eU K 11 rfl) rfl H,aW rfl rfl (gF (bfalse hfi) rfl) fun _ _ H K => R.idxN (min (2 * i + 1) ((rowA joinS l k).length - 1)) (SC.sl (K 49 _ rfl)) (evoI (eU K 50 rfl)) rfl bU H (by decide),aW rfl rfl (gF (bfalse hfi) rfl) fun _ _ H K => R.ldE (K 51 _ rfl) (SC.sl (K 49 _ rfl)) (map_get! (l := (flA f k)) bU) rfl rfl rfl rfl H,aU fun _ _ H K => R.pickF (eU K 48 rfl) (bfalse hfi) (eU K 52 rfl) rfl H,aU fun _ _ H K => R.bslE (z := 1) (.cons (eU K 53 rfl) .nil) ⟨⟨rfl,rfl,rfl⟩,trivial⟩ rfl H (by decide),aU fun _ _ H K => R.appE (Or.inr (K 43 _ rfl)) (K 9 _ rfl) (SrcO.sc (SC.sl (K 54 _ rfl)) (pur_lit rfl)) (show _ = ((upFI (flA f k) (i + 1)).map D.bool) from (show _ = (upFI (flA f k) (i + 1)).map D.bool from by rw [← upFI_f (bfalse hfi) hfl,List.map_append]; rfl)) bU H (by decide) (by decide),aU fun _ _ H K => R.asgO (K 55 _ rfl) rfl H (by decide),trivial⟩ rfl rfl rfl rfl (tU rfl ?_)
       refine W.l0 3 [.y 23 _,.y 24 _,.y 10 _] [] [] [(0,_),(1,_),(6,_),(7,_),(8,_),(9,_),(10,_)] [] 68 ⟨mU 10 rfl rfl,aU fun _ _ H K => R.addN (2 * i) (2) (eU K 23 rfl) (kI 2 rfl) bU H,aU fun _ _ H K => R.asg (eU K 24 rfl) rfl H,trivial⟩ rfl rfl rfl rfl (tU rfl ?_)
       exact ⟨⟨(i + 1),bU⟩,rfl,(by simp only []; omega)⟩
   · obtain rfl : i = ((rowA joinS l k).length + 1) / 2 := by omega
     refine W.exit ?_
     refine W.seq ?_
     refine W.l0 4 [.y 56 _,.y 57 _,.y 0 _,.y 1 _] [(0,8),(1,9),(2,56),(3,57)] [(0,8),(1,9),(2,56),(3,57)] [(0,_),(1,_),(6,_),(7,_)] [] 68 ⟨aU fun _ _ H K => R.movO (K 8 _ rfl) rfl H (by decide),aU fun _ _ H K => R.movO (K 9 _ rfl) rfl H (by decide),aU fun _ _ H K => R.asgO (K 56 _ rfl) rfl H (by decide),aU fun _ _ H K => R.asgO (K 57 _ rfl) rfl H (by decide),trivial⟩ rfl rfl rfl rfl (tU rfl ?_)
     refine W.frzS (s := 0) (d' := .sl none 32 ((rowA joinS l (k + 1)).map hashD)) rfl rfl (brw_hs _ _ _) ?_
     refine W.frzS (s := 1) (d' := .sl none 1 ((flA f (k + 1)).map D.bool)) rfl rfl (by rw [show flA f (k + 1) = upFI (flA f k) (((rowA joinS l k).length + 1) / 2) from by rw [← hfl]; rfl]; exact brw_fl _ _ _) ?_
     refine W.l0 10 [.y 58 _,.y 59 _,.y 60 _,.y 61 _,.y 62 _,.y 63 _,.y 64 _,.y 65 _,.y 6 _,.y 7 _] [(3,6),(7,7),(8,61),(9,65),(8,58),(9,62)] [(3,6),(7,7),(8,61),(9,65)] [(0,_),(1,_),(6,_),(7,_)] [] 68 ⟨aU fun _ _ H K => R.al (K 6 _ rfl) H (by decide),mU 0 rfl rfl,aU fun _ _ H K => R.bslE (z := 1) (.cons (eU K 59 rfl) .nil) ⟨⟨rfl,rfl,rfl⟩,trivial⟩ rfl H (by decide),aU fun _ _ H K => R.appE (Or.inr (K 58 _ rfl)) (K 6 _ rfl) (SrcO.sc (SC.sl (K 60 _ rfl)) (pur_lit rfl)) (show _ = ((rowsL joinS l (k + 1 + 1)).map hsD) from (show _ = (rowsL joinS l (k + 1 + 1)).map hsD from by rw [rowsL_succ _ _ (k + 1),List.map_append]; rfl)) bU H (by decide) (by decide),aU fun _ _ H K => R.al (K 7 _ rfl) H (by decide),mU 1 rfl rfl,aU fun _ _ H K => R.bslE (z := 1) (.cons (eU K 63 rfl) .nil) ⟨⟨rfl,rfl,rfl⟩,trivial⟩ rfl H (by decide),aU fun _ _ H K => R.appE (Or.inr (K 62 _ rfl)) (K 7 _ rfl) (SrcO.sc (SC.sl (K 64 _ rfl)) (pur_lit rfl)) (show _ = ((flsL f (k + 1 + 1)).map flD) from (show _ = (flsL f (k + 1 + 1)).map flD from by rw [flsL_succ _ (k + 1),List.map_append]; rfl)) bU H (by decide) (by decide),aU fun _ _ H K => R.asgO (K 61 _ rfl) rfl H (by decide),aU fun _ _ H K => R.asgO (K 65 _ rfl) rfl H (by decide),trivial⟩ rfl rfl rfl rfl (tU rfl ?_)
     exact ⟨⟨(k + 1),(by have h2 := nRows_2 (n := (rowA joinS l k).length) (by omega); have h3 : (rowA joinS l (k + 1)).length = ((rowA joinS l k).length + 1) / 2 := upR_len _ _; rw [h2,← h3] at hk; show k + 1 + _ = _; omega)⟩,rfl,(by simp only []; omega)⟩
 · have hkn : nRows l.length = k + 1 := by rw [← hk,show (rowA joinS l k).length = 1 by omega,nRows_1]
   refine W.exit ?_
   refine W.seq ?_
   refine W.frzS (s := 6) (d' := .sl none 1 ((rowsL joinS l (k + 1)).map hsD)) rfl rfl (brw_hss _ _ _) ?_
   refine W.frzS (s := 7) (d' := .sl none 1 ((flsL f (k + 1)).map flD)) rfl rfl (brw_fls _ _ _) ?_
   refine W.l0 4 [.y 66 _,.y 67 _,.y 4 _,.y 5 _] [] [] [(4,_),(5,_)] [] 68 ⟨mU 6 rfl rfl,mU 7 rfl rfl,aU fun _ _ H K => R.asg (eU K 66 rfl) rfl H,aU fun _ _ H K => R.asg (eU K 67 rfl) rfl H,trivial⟩ rfl rfl rfl rfl (tU rfl ?_)
   refine W.ret ?_
   exact Ends.many (.inr rfl) (.cons rfl rfl rfl trivial (.cons rfl rfl rfl trivial .nil)) (by rw [hkn]) (show [(4,true),(5,true)].Nodup by decide)

end Go.Sx

namespace Go.Sx
open Go.Proofs
theorem wide_ok (n : Nat) (h0 : 0 < n) (hn : n ≤ 1000) : Fn Tryd.prog gl 28 [.int ((n : Nat) : Int)] (.sl (some 3) 1 ((wdI n (nRows n)).map natD)) := by
 refine Fn.of (n := 16) Tryd.func28 rfl rfl rfl (nU rfl) fun C hC hD => ?_
 refine W.seq ?_
 refine W.l0 1 [.y 2 _] [] [] [(0,_)] [] 16 ⟨aU fun _ _ H _ => R.asg (kN rfl) rfl H,trivial⟩ rfl rfl rfl rfl (tU rfl ?_)
 refine W.seq ?_
 refine W.l0 3 [.y 4 _,.y 5 _,.y 3 _] [(2,5)] [(2,5)] [(0,_),(3,_)] [] 16 ⟨mU 0 rfl rfl,aU fun _ _ H K => R.bslE (z := 1) (.cons (eU K 4 rfl) .nil) ⟨⟨rfl,rfl,rfl⟩,trivial⟩ rfl H (by decide),aU fun _ _ H K => R.asgO (K 5 _ rfl) rfl H (by decide),trivial⟩ rfl rfl rfl rfl (tU rfl ?_)
 refine W.seq ?_
 refine W.block ?_
 refine W.loop (α := {q__ : Nat // q__ + nRows (lenA n q__) = nRows n}) (fun q__ => ⟨16,[(0,.int ((lenA n q__.1 : Nat) : Int)),(3,.sl (some 3) 1 ((wdI n (q__.1 + 1)).map natD))],[]⟩) (fun q__ => nRows n - q__.1) ⟨(0),(by show 0 + _ = _; rw [Nat.zero_add]; rfl)⟩ rfl ?_
 rintro ⟨k,hk⟩
 show W _ _ _ _ ⟨16,[(0,.int ((lenA n k : Nat) : Int)),(3,.sl (some 3) 1 ((wdI n (k + 1)).map natD))],[]⟩
 have hle := lenA_le n k
 have hlp := lenA_pos h0 k
 have hkp := nRows_pos (n := lenA n k) hlp
 have hnl := nRows_le n
 have hwl := wdI_len n (k + 1)
 have hk : k + nRows (lenA n k) = nRows n := hk
 refine W.seq ?_
 refine W.seq ?_
 refine W.l0 2 [.y 6 _,.y 7 _] [] [] [(0,_),(3,_),(7,_)] [] 16 ⟨mU 0 rfl rfl,aU fun _ _ H K => R.gtrN (lenA n k) (1) (eU K 6 rfl) (kI 1 rfl) H,trivial⟩ rfl rfl rfl rfl (tU rfl ?_)
 refine W.condD rfl (fun hc7 => ?_) (fun hc7 => ?_)
 · refine W.skip ?_
   refine W.block ?_
   refine W.seq ?_
   refine W.l0 4 [.y 8 _,.y 9 _,.y 10 _,.y 0 _] [] [] [(0,_),(3,_)] [] 16 ⟨mU 0 rfl rfl,aU fun _ _ H K => R.addN (lenA n k) (1) (eU K 8 rfl) (kI 1 rfl) bU H,aU fun _ _ H K => R.quoN ((lenA n k + 1)) (2) (eU K 9 rfl) (kI 2 rfl) bU bU H,aU fun _ _ H K => R.asg (eU K 10 rfl) rfl H,trivial⟩ rfl rfl rfl rfl (tU rfl ?_)
   refine W.l0 5 [.y 11 _,.y 12 _,.y 13 _,.y 14 _,.y 3 _] [(3,3),(4,14),(4,11)] [(3,3),(4,14)] [(0,_),(3,_)] [] 16 ⟨aU fun _ _ H K => R.al (K 3 _ rfl) H (by decide),mU 0 rfl rfl,aU fun _ _ H K => R.bslE (z := 1) (.cons (eU K 12 rfl) .nil) ⟨⟨rfl,rfl,rfl⟩,trivial⟩ rfl H (by decide),aU fun _ _ H K => R.appE (Or.inr (K 11 _ rfl)) (K 3 _ rfl) (SrcO.sc (SC.sl (K 13 _ rfl)) (pur_lit rfl)) (show _ = ((wdI n (k + 1 + 1)).map natD) from (show _ = (wdI n (k + 1 + 1)).map natD from by rw [wdI_succ _ (k + 1),List.map_append]; rfl)) bU H (by decide) (by decide),aU fun _ _ H K => R.asgO (K 14 _ rfl) rfl H (by decide),trivial⟩ rfl rfl rfl rfl (tU rfl ?_)
   exact ⟨⟨(k + 1),(by have h2 := nRows_2 (n := lenA n k) (by omega); rw [h2] at hk; show k + 1 + nRows ((lenA n k + 1) / 2) = _; omega)⟩,rfl,(by simp only []; omega)⟩
 · have hkn : nRows n = k + 1 := by rw [← hk,show lenA n k = 1 by omega,nRows_1]
   refine W.exit ?_
   refine W.seq ?_
   refine W.l0 2 [.y 15 _,.y 2 _] [(0,3),(1,15)] [(0,3),(1,15)] [(2,_)] [] 16 ⟨aU fun _ _ H K => R.movO (K 3 _ rfl) rfl H (by decide),aU fun _ _ H K => R.asgO (K 15 _ rfl) rfl H (by decide),trivial⟩ rfl rfl rfl rfl (tU rfl ?_)
   refine W.ret ?_
   exact Ends.one' (.inr rfl) rfl (by rw [hkn]) rfl rfl trivial

theorem nums_ok (a b : List Nat) (ha : a.length ≤ 1000000) : Fn Tryd.prog gl 17 [.sl none 1 (a.map natD),.sl none 1 (b.map natD)] (.bool (a == b)) := by
 refine Fn.of (n := 26) Tryd.func17 rfl rfl rfl (nU rfl) fun C hC hD => ?_
 refine W.seq ?_
 refine W.l0 1 [.y 4 _] [] [] [(0,_),(1,_)] [] 26 ⟨aU fun _ _ H _ => R.asg (kB false rfl) rfl H,trivial⟩ rfl rfl rfl rfl (tU rfl ?_)
 refine W.seq ?_
 refine W.seq ?_
 refine W.l0 5 [.y 6 _,.y 7 _,.y 8 _,.y 9 _,.y 10 _] [] [] [(0,_),(1,_),(10,_)] [] 26 ⟨mU 0 rfl rfl,aU fun _ _ H K => R.lenE (SC.sl (K 6 _ rfl)) (List.length_map _) H,mU 1 rfl rfl,aU fun _ _ H K => R.lenE (SC.sl (K 8 _ rfl)) (List.length_map _) H,aU fun _ _ H K => R.neqN (a.length) (b.length) (eU K 7 rfl) (eU K 9 rfl) H,trivial⟩ rfl rfl rfl rfl (tU rfl ?_)
 refine W.condD rfl (fun hc10 => ?_) (fun hc10 => ?_)
 · refine W.seq ?_
   refine W.l0 1 [.y 4 _] [] [] [(4,_)] [] 26 ⟨aU fun _ _ H _ => R.asg (kB false rfl) rfl H,trivial⟩ rfl rfl rfl rfl (tU rfl ?_)
   refine W.ret ?_
   exact Ends.one' (.inr rfl) rfl (by have := hc10; congr 1; symm; rw [beq_eq_false_iff_ne]; rintro rfl; exact this rfl) rfl rfl trivial
 · refine W.skip ?_
   refine W.seq ?_
   refine W.seq ?_
   refine W.l0 1 [.y 5 _] [] [] [(0,_),(1,_),(5,_)] [] 26 ⟨aU fun _ _ H _ => R.asg (kI 0 rfl) rfl H,trivial⟩ rfl rfl rfl rfl (tU rfl ?_)
   refine W.block ?_
   refine W.loop (α := {q__ : Nat // q__ ≤ a.length ∧ ∀ j,j < q__ → a[j]! = b[j]!}) (fun q__ => ⟨26,[(0,.sl none 1 (a.map natD)),(1,.sl none 1 (b.map natD)),(5,.int ((q__.1 : Nat) : Int))],[]⟩) (fun q__ => a.length - q__.1) ⟨(0),⟨Nat.zero_le _,fun j hj => absurd hj (Nat.not_lt_zero j)⟩⟩ rfl ?_
   rintro ⟨i,⟨hi,hall⟩⟩
   show W _ _ _ _ ⟨26,[(0,.sl none 1 (a.map natD)),(1,.sl none 1 (b.map natD)),(5,.int ((i : Nat) : Int))],[]⟩
   refine W.seq ?_
   refine W.seq ?_
   refine W.l0 4 [.y 11 _,.y 12 _,.y 13 _,.y 14 _] [] [] [(0,_),(1,_),(5,_),(14,_)] [] 26 ⟨mU 5 rfl rfl,mU 0 rfl rfl,aU fun _ _ H K => R.lenE (SC.sl (K 12 _ rfl)) (List.length_map _) H,aU fun _ _ H K => R.lssN (i) (a.length) (eU K 11 rfl) (eU K 13 rfl) H,trivial⟩ rfl rfl rfl rfl (tU rfl ?_)
   refine W.condD rfl (fun hc14 => ?_) (fun hc14 => ?_)
   · refine W.skip ?_
     refine W.seq ?_
     refine W.block ?_
     refine W.seq ?_
     refine W.draw (m := 9) (an := [0,0,3,7,0,0,48,112,255]) hP (by decide) rfl (its := [.y 17 _,.y 18 _,.y 19 _,.y 20 _,.y 21 _,.y 22 _,.y 23 _,.y 24 _,.y 25 _]) (ks := []) (kk := []) (live := [0,1,5,25]) (env' := [(0,_),(1,_),(5,_),(25,_)]) (⟨nU rfl,rfl,⟨mU 0 rfl rfl,mU 5 rfl rfl,aU fun _ _ H K => R.idxN (i) (SC.sl (K 17 _ rfl)) (evoI (eU K 18 rfl)) rfl bU H (by decide),aU fun _ _ H K => R.ldE (K 19 _ rfl) (SC.sl (K 17 _ rfl)) (map_get! (l := a) bU) rfl rfl rfl rfl H,mU 1 rfl rfl,mU 5 rfl rfl,aU fun _ _ H K => R.idxN (i) (SC.sl (K 21 _ rfl)) (evoI (eU K 22 rfl)) rfl bU H (by decide),aU fun _ _ H K => R.ldE (K 23 _ rfl) (SC.sl (K 21 _ rfl)) (map_get! (l := b) bU) rfl rfl rfl rfl H,aU fun _ _ H K => R.neqN (a[i]!) (b[i]!) (eU K 20 rfl) (eU K 24 rfl) H,trivial⟩,rfl,rfl,rfl⟩) rfl (bx' := []) rfl (n' := 26) rfl (tV [(0,_),(1,_),(5,_),(25,_)] [] 26 rfl rfl rfl ?_)
     refine W.condD rfl (fun hc25 => ?_) (fun hc25 => ?_)
     · refine W.seq ?_
       refine W.l0 1 [.y 4 _] [] [] [(4,_)] [] 26 ⟨aU fun _ _ H _ => R.asg (kB false rfl) rfl H,trivial⟩ rfl rfl rfl rfl (tU rfl ?_)
       refine W.ret ?_
       exact Ends.one' (.inr rfl) rfl (by congr 1; symm; rw [beq_eq_false_iff_ne]; rintro rfl; simp at hc25) rfl rfl trivial
     · refine W.skip ?_
       refine W.l0 3 [.y 15 _,.y 16 _,.y 5 _] [] [] [(0,_),(1,_),(5,_)] [] 26 ⟨mU 5 rfl rfl,aU fun _ _ H K => R.addN (i) (1) (eU K 15 rfl) (kI 1 rfl) bU H,aU fun _ _ H K => R.asg (eU K 16 rfl) rfl H,trivial⟩ rfl rfl rfl rfl (tU rfl ?_)
       exact ⟨⟨(i + 1),⟨by omega,fun j hj => by rcases Nat.lt_or_ge j i with h | h; exact hall j h; obtain rfl : j = i := (by omega); simpa using hc25⟩⟩,rfl,(by simp only []; omega)⟩
   · refine W.exit ?_
     refine W.seq ?_
     refine W.l0 1 [.y 4 _] [] [] [(4,_)] [] 26 ⟨aU fun _ _ H _ => R.asg (kB true rfl) rfl H,trivial⟩ rfl rfl rfl rfl (tU rfl ?_)
     refine W.ret ?_
     exact Ends.one' (.inr rfl) rfl (by congr 1; symm; rw [beq_iff_eq]; exact list_ext! (by omega) (fun j hj => hall j (by omega))) rfl rfl trivial

end Go.Sx

namespace Go.Sx
open Go.Proofs
def wkB (L : List (List Hs)) (F : List (List Bool)) : Nat → Nat → List Hs × List Bool → List Hs × List Bool
 | 0,k,p => if L[0]!.length ≤ k then p else (p.1 ++ [L[0]![k]!],p.2 ++ [F[0]![k]!])
 | r + 1,k,p => if L[r + 1]!.length ≤ k then p else if F[r + 1]![k]! = true then wkB L F r (2 * k + 1) (wkB L F r (2 * k) (p.1,p.2 ++ [true])) else (p.1 ++ [L[r + 1]![k]!],p.2 ++ [false])
theorem wkB_len (L : List (List Hs)) (F : List (List Bool)) : ∀ (r k : Nat) (p : List Hs × List Bool),(wkB L F r k p).1.length + 1 ≤ p.1.length + 2 ^ (r + 1) ∧ (wkB L F r k p).2.length + 1 ≤ p.2.length + 2 ^ (r + 1) := by
 intro r
 induction r with
 | zero =>
  intro k p
  simp only [wkB]
  split
  · constructor <;> omega
  · simp
 | succ r ih =>
  intro k p
  have hp : 2 ^ (r + 1 + 1) = 2 * 2 ^ (r + 1) := by rw [Nat.pow_succ]; omega
  have h1 : 1 ≤ 2 ^ (r + 1) := Nat.one_le_two_pow
  simp only [wkB]
  split
  · constructor <;> omega
  · split
    · have ha := ih (2 * k) (p.1,p.2 ++ [true])
      have hb := ih (2 * k + 1) (wkB L F r (2 * k) (p.1,p.2 ++ [true]))
      simp only [List.length_append,List.length_cons,List.length_nil] at ha
      constructor <;> omega
    · simp only [List.length_append,List.length_cons,List.length_nil]
      constructor <;> omega
abbrev BwX (L : List (List Hs)) (F : List (List Bool)) (n : Int) (hs : List Hs) (fl : List Bool) : List (Nat × Bx) :=
 [(0,.var (.sl none 1 (L.map hsD))),(1,.var (.agg [.int n,.sl (some 38) 32 (hs.map hashD),.sl (some 4) 1 (fl.map D.bool)])),(2,.var (.sl none 1 (F.map flD))),(3,.var (.fn 25 [.ptr 0 0 [],.ptr 1 0 [],.ptr 2 0 [],.ptr 3 0 []]))]
abbrev BwP (L : List (List Hs)) (F : List (List Bool)) (n : Int) (row k : Nat) (hs : List Hs) (fl : List Bool) : Prop :=
 FnB Tryd.prog gl 25 [.int ((row : Nat) : Int),.int ((k : Nat) : Int),.ptr 0 0 [],.ptr 1 0 [],.ptr 2 0 [],.ptr 3 0 []] (BwX L F n hs fl) (.tup []) (BwX L F n (wkB L F row k (hs,fl)).1 (wkB L F row k (hs,fl)).2) []
theorem wk_skip {L : List (List Hs)} {F : List (List Bool)} {r k : Nat} {p : List Hs × List Bool} (h : L[r]!.length ≤ k) : wkB L F r k p = p := by cases r <;> rw [wkB,if_pos h]
theorem wk_leaf0 {L : List (List Hs)} {F : List (List Bool)} {k : Nat} {p : List Hs × List Bool} (h : ¬ L[0]!.length ≤ k) : wkB L F 0 k p = (p.1 ++ [L[0]![k]!],p.2 ++ [F[0]![k]!]) := by rw [wkB,if_neg h]
theorem wk_leaf {L : List (List Hs)} {F : List (List Bool)} {r k : Nat} {p : List Hs × List Bool} (h : ¬ L[r + 1]!.length ≤ k) (hf : F[r + 1]![k]! = false) : wkB L F (r + 1) k p = (p.1 ++ [L[r + 1]![k]!],p.2 ++ [F[r + 1]![k]!]) := by
 rw [wkB,if_neg h,hf,if_neg (by simp)]
theorem wk_in {L : List (List Hs)} {F : List (List Bool)} {r k : Nat} {p : List Hs × List Bool} (h : ¬ L[r + 1]!.length ≤ k) (hf : F[r + 1]![k]! = true) : wkB L F (r + 1) k p = wkB L F r (2 * k + 1) (wkB L F r (2 * k) (p.1,p.2 ++ [F[r + 1]![k]!])) := by
 rw [wkB,if_neg h,if_pos hf,hf]
end Go.Sx

namespace Go.Sx
open Go.Proofs
theorem bwalk0 (L : List (List Hs)) (F : List (List Bool)) (n : Int) (hL : L.length ≤ 20) (hF : F.length = L.length) (hLF : ∀ j : Nat,F[j]!.length = L[j]!.length) (hLl : ∀ j : Nat,L[j]!.length ≤ 1000) (hrow : 0 < L.length) (k : Nat) (hs : List Hs) (fl : List Bool) (hk : k ≤ 100000) (hhs : hs.length + 2 ^ (0 + 1) ≤ 100000) (hfl : fl.length + 2 ^ (0 + 1) ≤ 100000) : FnB Tryd.prog gl 25 [.int ((0 : Nat) : Int),.int ((k : Nat) : Int),.ptr 0 0 [],.ptr 1 0 [],.ptr 2 0 [],.ptr 3 0 []] [(0,.var (.sl none 1 (L.map hsD))),(1,.var (.agg [.int n,.sl (some 38) 32 (hs.map hashD),.sl (some 4) 1 (fl.map D.bool)])),(2,.var (.sl none 1 (F.map flD))),(3,.var (.fn 25 [.ptr 0 0 [],.ptr 1 0 [],.ptr 2 0 [],.ptr 3 0 []]))] (.tup []) [(0,.var (.sl none 1 (L.map hsD))),(1,.var (.agg [.int n,.sl (some 38) 32 ((wkB L F 0 k (hs,fl)).1.map hashD),.sl (some 4) 1 ((wkB L F 0 k (hs,fl)).2.map D.bool)])),(2,.var (.sl none 1 (F.map flD))),(3,.var (.fn 25 [.ptr 0 0 [],.ptr 1 0 [],.ptr 2 0 [],.ptr 3 0 []]))] [] := by
 refine FnB.of (n := 64) (ids := [0,1,2,3]) Tryd.func25 rfl rfl rfl (nU rfl) fun C hC hD => ?_
 refine W.seq ?_
 refine W.seq ?_
 have hlf := hLF (0)
 have hll := hLl (0)
 have hpw : 1 ≤ 2 ^ (0) := Nat.one_le_two_pow
 have hpw2 : 2 ^ (0 + 1) = 2 * 2 ^ (0) := by first | rfl | (rw [Nat.pow_succ]; omega)
 refine W.l0 7 [.y 8 _,.y 9 _,.y 10 _,.y 11 _,.y 12 _,.y 13 _,.y 14 _] [] [] [(0,_),(1,_),(2,_),(3,_),(4,_),(5,_),(14,_)] [(0,.var _),(1,.var _),(2,.var _),(3,.var _)] 64 ⟨mU 1 rfl rfl,aU (lU 2 rfl rfl rfl rfl rfl rfl rfl),mU 0 rfl rfl,aU fun _ _ H K => R.idxN (0) (SC.sl (K 9 _ rfl)) (evoI (eU K 10 rfl)) rfl bU H (by decide),aU fun _ _ H K => R.ldE (K 11 _ rfl) (SC.sl (K 9 _ rfl)) (map_get! (l := L) bU) rfl rfl rfl rfl H,aU fun _ _ H K => R.lenE (SC.sl (K 12 _ rfl)) (List.length_map _) H,aU fun _ _ H K => R.geqN (k) (L[0]!.length) (eU K 8 rfl) (eU K 13 rfl) H,trivial⟩ rfl rfl rfl rfl (tU rfl ?_)
 refine W.condD rfl (fun hc14 => ?_) (fun hc14 => ?_)
 · refine W.ret ?_
   exact EndsB.none' (r := .dead) (.inr rfl) rfl (by rw [wk_skip hc14]; rfl) ⟨rfl,⟨rfl,⟨rfl,⟨rfl,trivial⟩⟩⟩⟩
 · refine W.skip ?_
   refine W.seq ?_
   refine W.draw (m := 10) (an := [0,1,0,0,12,28,0,124,252,508,1023,2047,4095]) hP (by decide) rfl (its := [.y 15 _,.y 16 _,.y 17 _,.y 18 _,.y 19 _,.y 20 _,.y 21 _,.y 22 _,.y 23 _,.y 24 _]) (ks := []) (kk := []) (live := [0,1,2,3,4,5,16,24]) (env' := [(0,_),(1,_),(2,_),(3,_),(4,_),(5,_),(16,_),(24,_)]) (⟨nU rfl,rfl,⟨aU (fU 3 rfl rfl),aU fun _ B H K => R.ldO (K 15 _ rfl) (B 1 _ rfl) rfl H,aU (lU 4 rfl rfl rfl rfl rfl rfl rfl),mU 0 rfl rfl,aU fun _ _ H K => R.idxN (0) (SC.sl (K 17 _ rfl)) (evoI (eU K 18 rfl)) rfl bU H (by decide),aU fun _ _ H K => R.ldE (K 19 _ rfl) (SC.sl (K 17 _ rfl)) (map_get! (l := F) bU) rfl rfl rfl rfl H,mU 1 rfl rfl,aU fun _ _ H K => R.idxN (k) (SC.sl (K 20 _ rfl)) (evoI (eU K 21 rfl)) rfl bU H (by decide),aU fun _ _ H K => R.ldE (K 22 _ rfl) (SC.sl (K 20 _ rfl)) (map_get! (l := F[0]!) bU) rfl rfl rfl rfl H,aU fun _ _ H K => R.bslE (z := 1) (.cons (eU K 23 rfl) .nil) ⟨⟨rfl,rfl,rfl⟩,trivial⟩ rfl H (by decide),trivial⟩,rfl,rfl,rfl⟩) rfl (bx' := [(0,.var _),(1,.var _),(2,.var _),(3,.var _)]) rfl (n' := 64) rfl (⟨rfl,_,R.appBP (gU 16 rfl) (xU 1 rfl) rfl rfl rfl rfl (gU 16 rfl) (SrcO.sc (SC.sl (gU 24 rfl)) (pur_lit rfl)) (show _ = ((fl ++ [F[0]![k]!]).map D.bool) from (by rw [List.map_append]; rfl)) bU (nU rfl) (by decide) (by decide),⟨rfl,_,R.fdP (gU 3 rfl) (nU rfl),⟨rfl,_,R.stOZ (gU 26 rfl) (xU 1 rfl) rfl (gU 25 rfl) rfl rfl (by rfl) (by rfl) rfl rfl,tV [(0,_),(1,_),(2,_),(3,_),(4,_),(5,_)] [(0,.var _),(1,.var _),(2,.var _),(3,.var _)] 64 rfl rfl rfl ?_⟩⟩⟩)
   refine W.seq ?_
   refine W.seq ?_
   refine W.l0 12 [.y 27 _,.y 28 _,.y 29 _,.x 30,.x 31,.x 32,.x 33,.x 34,.x 35,.x 36,.x 37,.y 38 _] [] [] [(0,_),(1,_),(2,_),(3,_),(5,_),(38,_)] [(0,.var _),(1,.var _),(2,.var _),(3,.var _)] 64 ⟨mU 0 rfl rfl,aU fun _ _ H K => R.eqlN (0) (0) (eU K 27 rfl) (kI 0 rfl) H,mU 28 rfl rfl,aF rfl rfl (gT (decide_eq_true rfl) rfl),aF rfl rfl (gT (decide_eq_true rfl) rfl),aF rfl rfl (gT (decide_eq_true rfl) rfl),aF rfl rfl (gT (decide_eq_true rfl) rfl),aF rfl rfl (gT (decide_eq_true rfl) rfl),aF rfl rfl (gT (decide_eq_true rfl) rfl),aF rfl rfl (gT (decide_eq_true rfl) rfl),aF rfl rfl (gT (decide_eq_true rfl) rfl),aU fun _ _ H K => R.pickT (eU K 29 rfl) (decide_eq_true rfl) (kB true rfl) rfl H,trivial⟩ rfl rfl rfl rfl (tU rfl ?_)
   refine W.condT rfl (rfl) ?_
   refine W.seq ?_
   refine W.draw (m := 10) (an := [0,1,0,0,12,28,0,124,252,508,1023,2047,4095]) hP (by decide) rfl (its := [.y 39 _,.y 40 _,.y 41 _,.y 42 _,.y 43 _,.y 44 _,.y 45 _,.y 46 _,.y 47 _,.y 48 _]) (ks := []) (kk := []) (live := [3,40,48]) (env' := [(3,_),(40,_),(48,_)]) (⟨nU rfl,rfl,⟨aU (fU 3 rfl rfl),aU fun _ B H K => R.ldO (K 39 _ rfl) (B 1 _ rfl) rfl H,aU (lU 2 rfl rfl rfl rfl rfl rfl rfl),mU 0 rfl rfl,aU fun _ _ H K => R.idxN (0) (SC.sl (K 41 _ rfl)) (evoI (eU K 42 rfl)) rfl bU H (by decide),aU fun _ _ H K => R.ldE (K 43 _ rfl) (SC.sl (K 41 _ rfl)) (map_get! (l := L) bU) rfl rfl rfl rfl H,mU 1 rfl rfl,aU fun _ _ H K => R.idxN (k) (SC.sl (K 44 _ rfl)) (evoI (eU K 45 rfl)) rfl bU H (by decide),aU fun _ _ H K => R.ldE (K 46 _ rfl) (SC.sl (K 44 _ rfl)) (map_get! (l := L[0]!) bU) rfl rfl rfl rfl H,aU fun _ _ H K => R.bslE (z := 32) (.cons (eU K 47 rfl) .nil) ⟨⟨rfl,rfl,rfl⟩,trivial⟩ rfl H (by decide),trivial⟩,rfl,rfl,rfl⟩) rfl (bx' := [(0,.var _),(1,.var _),(2,.var _),(3,.var _)]) rfl (n' := 64) rfl (⟨rfl,_,R.appBP (gU 40 rfl) (xU 1 rfl) rfl rfl rfl rfl (gU 40 rfl) (SrcO.sc (SC.sl (gU 48 rfl)) (pur_lit rfl)) (show _ = ((hs ++ [L[0]![k]!]).map hashD) from (by rw [List.map_append]; rfl)) bU (nU rfl) (by decide) (by decide),⟨rfl,_,R.fdP (gU 3 rfl) (nU rfl),⟨rfl,_,R.stOZ (gU 50 rfl) (xU 1 rfl) rfl (gU 49 rfl) rfl rfl (by rfl) (by rfl) rfl rfl,tV [] [(0,.var _),(1,.var _),(2,.var _),(3,.var _)] 64 rfl rfl rfl ?_⟩⟩⟩)
   refine W.ret ?_
   exact EndsB.none' (r := .dead) (.inr rfl) rfl (by rw [wk_leaf0 hc14]; rfl) ⟨rfl,⟨rfl,⟨rfl,⟨rfl,trivial⟩⟩⟩⟩

theorem bwalk1 (L : List (List Hs)) (F : List (List Bool)) (n : Int) (r : Nat) (hL : L.length ≤ 20) (hF : F.length = L.length) (hLF : ∀ j : Nat,F[j]!.length = L[j]!.length) (hLl : ∀ j : Nat,L[j]!.length ≤ 1000) (hrow : (r + 1) < L.length) (k : Nat) (hs : List Hs) (fl : List Bool) (hk : k ≤ 100000) (hhs : hs.length + 2 ^ ((r + 1) + 1) ≤ 100000) (hfl : fl.length + 2 ^ ((r + 1) + 1) ≤ 100000) (ih : ∀ (k : Nat) (hs : List Hs) (fl : List Bool),k ≤ 100000 → hs.length + 2 ^ (r + 1) ≤ 100000 → fl.length + 2 ^ (r + 1) ≤ 100000 → BwP L F n r k hs fl) : FnB Tryd.prog gl 25 [.int ((r + 1 : Nat) : Int),.int ((k : Nat) : Int),.ptr 0 0 [],.ptr 1 0 [],.ptr 2 0 [],.ptr 3 0 []] [(0,.var (.sl none 1 (L.map hsD))),(1,.var (.agg [.int n,.sl (some 38) 32 (hs.map hashD),.sl (some 4) 1 (fl.map D.bool)])),(2,.var (.sl none 1 (F.map flD))),(3,.var (.fn 25 [.ptr 0 0 [],.ptr 1 0 [],.ptr 2 0 [],.ptr 3 0 []]))] (.tup []) [(0,.var (.sl none 1 (L.map hsD))),(1,.var (.agg [.int n,.sl (some 38) 32 ((wkB L F (r + 1) k (hs,fl)).1.map hashD),.sl (some 4) 1 ((wkB L F (r + 1) k (hs,fl)).2.map D.bool)])),(2,.var (.sl none 1 (F.map flD))),(3,.var (.fn 25 [.ptr 0 0 [],.ptr 1 0 [],.ptr 2 0 [],.ptr 3 0 []]))] [] := by
 refine FnB.of (n := 64) (ids := [0,1,2,3]) Tryd.func25 rfl rfl rfl (nU rfl) fun C hC hD => ?_
 refine W.seq ?_
 refine W.seq ?_
 have hlf := hLF (r + 1)
 have hll := hLl (r + 1)
 have hpw : 1 ≤ 2 ^ (r + 1) := Nat.one_le_two_pow
 have hpw2 : 2 ^ (r + 1 + 1) = 2 * 2 ^ (r + 1) := by first | rfl | (rw [Nat.pow_succ]; omega)
 refine W.l0 7 [.y 8 _,.y 9 _,.y 10 _,.y 11 _,.y 12 _,.y 13 _,.y 14 _] [] [] [(0,_),(1,_),(2,_),(3,_),(4,_),(5,_),(14,_)] [(0,.var _),(1,.var _),(2,.var _),(3,.var _)] 64 ⟨mU 1 rfl rfl,aU (lU 2 rfl rfl rfl rfl rfl rfl rfl),mU 0 rfl rfl,aU fun _ _ H K => R.idxN (r + 1) (SC.sl (K 9 _ rfl)) (evoI (eU K 10 rfl)) rfl bU H (by decide),aU fun _ _ H K => R.ldE (K 11 _ rfl) (SC.sl (K 9 _ rfl)) (map_get! (l := L) bU) rfl rfl rfl rfl H,aU fun _ _ H K => R.lenE (SC.sl (K 12 _ rfl)) (List.length_map _) H,aU fun _ _ H K => R.geqN (k) (L[r + 1]!.length) (eU K 8 rfl) (eU K 13 rfl) H,trivial⟩ rfl rfl rfl rfl (tU rfl ?_)
 refine W.condD rfl (fun hc14 => ?_) (fun hc14 => ?_)
 · refine W.ret ?_
   exact EndsB.none' (r := .dead) (.inr rfl) rfl (by rw [wk_skip hc14]; rfl) ⟨rfl,⟨rfl,⟨rfl,⟨rfl,trivial⟩⟩⟩⟩
 · refine W.skip ?_
   refine W.seq ?_
   refine W.draw (m := 10) (an := [0,1,0,0,12,28,0,124,252,508,1023,2047,4095]) hP (by decide) rfl (its := [.y 15 _,.y 16 _,.y 17 _,.y 18 _,.y 19 _,.y 20 _,.y 21 _,.y 22 _,.y 23 _,.y 24 _]) (ks := []) (kk := []) (live := [0,1,2,3,4,5,16,24]) (env' := [(0,_),(1,_),(2,_),(3,_),(4,_),(5,_),(16,_),(24,_)]) (⟨nU rfl,rfl,⟨aU (fU 3 rfl rfl),aU fun _ B H K => R.ldO (K 15 _ rfl) (B 1 _ rfl) rfl H,aU (lU 4 rfl rfl rfl rfl rfl rfl rfl),mU 0 rfl rfl,aU fun _ _ H K => R.idxN (r + 1) (SC.sl (K 17 _ rfl)) (evoI (eU K 18 rfl)) rfl bU H (by decide),aU fun _ _ H K => R.ldE (K 19 _ rfl) (SC.sl (K 17 _ rfl)) (map_get! (l := F) bU) rfl rfl rfl rfl H,mU 1 rfl rfl,aU fun _ _ H K => R.idxN (k) (SC.sl (K 20 _ rfl)) (evoI (eU K 21 rfl)) rfl bU H (by decide),aU fun _ _ H K => R.ldE (K 22 _ rfl) (SC.sl (K 20 _ rfl)) (map_get! (l := F[r + 1]!) bU) rfl rfl rfl rfl H,aU fun _ _ H K => R.bslE (z := 1) (.cons (eU K 23 rfl) .nil) ⟨⟨rfl,rfl,rfl⟩,trivial⟩ rfl H (by decide),trivial⟩,rfl,rfl,rfl⟩) rfl (bx' := [(0,.var _),(1,.var _),(2,.var _),(3,.var _)]) rfl (n' := 64) rfl (⟨rfl,_,R.appBP (gU 16 rfl) (xU 1 rfl) rfl rfl rfl rfl (gU 16 rfl) (SrcO.sc (SC.sl (gU 24 rfl)) (pur_lit rfl)) (show _ = ((fl ++ [F[r + 1]![k]!]).map D.bool) from (by rw [List.map_append]; rfl)) bU (nU rfl) (by decide) (by decide),⟨rfl,_,R.fdP (gU 3 rfl) (nU rfl),⟨rfl,_,R.stOZ (gU 26 rfl) (xU 1 rfl) rfl (gU 25 rfl) rfl rfl (by rfl) (by rfl) rfl rfl,tV [(0,_),(1,_),(2,_),(3,_),(4,_),(5,_)] [(0,.var _),(1,.var _),(2,.var _),(3,.var _)] 64 rfl rfl rfl ?_⟩⟩⟩)
   refine W.seq ?_
   refine W.seq ?_
   refine W.l0 12 [.y 27 _,.y 28 _,.y 29 _,.y 30 _,.y 31 _,.y 32 _,.y 33 _,.y 34 _,.y 35 _,.y 36 _,.y 37 _,.y 38 _] [] [] [(0,_),(1,_),(2,_),(3,_),(5,_),(38,_)] [(0,.var _),(1,.var _),(2,.var _),(3,.var _)] 64 ⟨mU 0 rfl rfl,aU fun _ _ H K => R.eqlN (r + 1) (0) (eU K 27 rfl) (kI 0 rfl) H,mU 28 rfl rfl,aW rfl rfl (gF (decide_eq_false (Nat.succ_ne_zero _)) rfl) (lU 4 rfl rfl rfl rfl rfl rfl rfl),aW rfl rfl (gF (decide_eq_false (Nat.succ_ne_zero _)) rfl) fun _ _ H K => R.mov (eU K 0 rfl) rfl H,aW rfl rfl (gF (decide_eq_false (Nat.succ_ne_zero _)) rfl) fun _ _ H K => R.idxN (r + 1) (SC.sl (K 30 _ rfl)) (evoI (eU K 31 rfl)) rfl bU H (by decide),aW rfl rfl (gF (decide_eq_false (Nat.succ_ne_zero _)) rfl) fun _ _ H K => R.ldE (K 32 _ rfl) (SC.sl (K 30 _ rfl)) (map_get! (l := F) bU) rfl rfl rfl rfl H,aW rfl rfl (gF (decide_eq_false (Nat.succ_ne_zero _)) rfl) fun _ _ H K => R.mov (eU K 1 rfl) rfl H,aW rfl rfl (gF (decide_eq_false (Nat.succ_ne_zero _)) rfl) fun _ _ H K => R.idxN (k) (SC.sl (K 33 _ rfl)) (evoI (eU K 34 rfl)) rfl bU H (by decide),aW rfl rfl (gF (decide_eq_false (Nat.succ_ne_zero _)) rfl) fun _ _ H K => R.ldE (K 35 _ rfl) (SC.sl (K 33 _ rfl)) (map_get! (l := F[r + 1]!) bU) rfl rfl rfl rfl H,aW rfl rfl (gF (decide_eq_false (Nat.succ_ne_zero _)) rfl) fun _ _ H K => R.un (eU K 36 rfl) rfl H,aU fun _ _ H K => R.pickF (eU K 29 rfl) (decide_eq_false (Nat.succ_ne_zero _)) (eU K 37 rfl) rfl H,trivial⟩ rfl rfl rfl rfl (tU rfl ?_)
   refine W.cond rfl (fun hc38 => ?_) (fun hc38 => ?_)
   · refine W.seq ?_
     refine W.draw (m := 10) (an := [0,1,0,0,12,28,0,124,252,508,1023,2047,4095]) hP (by decide) rfl (its := [.y 39 _,.y 40 _,.y 41 _,.y 42 _,.y 43 _,.y 44 _,.y 45 _,.y 46 _,.y 47 _,.y 48 _]) (ks := []) (kk := []) (live := [3,40,48]) (env' := [(3,_),(40,_),(48,_)]) (⟨nU rfl,rfl,⟨aU (fU 3 rfl rfl),aU fun _ B H K => R.ldO (K 39 _ rfl) (B 1 _ rfl) rfl H,aU (lU 2 rfl rfl rfl rfl rfl rfl rfl),mU 0 rfl rfl,aU fun _ _ H K => R.idxN (r + 1) (SC.sl (K 41 _ rfl)) (evoI (eU K 42 rfl)) rfl bU H (by decide),aU fun _ _ H K => R.ldE (K 43 _ rfl) (SC.sl (K 41 _ rfl)) (map_get! (l := L) bU) rfl rfl rfl rfl H,mU 1 rfl rfl,aU fun _ _ H K => R.idxN (k) (SC.sl (K 44 _ rfl)) (evoI (eU K 45 rfl)) rfl bU H (by decide),aU fun _ _ H K => R.ldE (K 46 _ rfl) (SC.sl (K 44 _ rfl)) (map_get! (l := L[r + 1]!) bU) rfl rfl rfl rfl H,aU fun _ _ H K => R.bslE (z := 32) (.cons (eU K 47 rfl) .nil) ⟨⟨rfl,rfl,rfl⟩,trivial⟩ rfl H (by decide),trivial⟩,rfl,rfl,rfl⟩) rfl (bx' := [(0,.var _),(1,.var _),(2,.var _),(3,.var _)]) rfl (n' := 64) rfl (⟨rfl,_,R.appBP (gU 40 rfl) (xU 1 rfl) rfl rfl rfl rfl (gU 40 rfl) (SrcO.sc (SC.sl (gU 48 rfl)) (pur_lit rfl)) (show _ = ((hs ++ [L[r + 1]![k]!]).map hashD) from (by rw [List.map_append]; rfl)) bU (nU rfl) (by decide) (by decide),⟨rfl,_,R.fdP (gU 3 rfl) (nU rfl),⟨rfl,_,R.stOZ (gU 50 rfl) (xU 1 rfl) rfl (gU 49 rfl) rfl rfl (by rfl) (by rfl) rfl rfl,tV [] [(0,.var _),(1,.var _),(2,.var _),(3,.var _)] 64 rfl rfl rfl ?_⟩⟩⟩)
     refine W.ret ?_
     exact EndsB.none' (r := .dead) (.inr rfl) rfl (by rw [wk_leaf hc14 (by simpa using hc38)]; rfl) ⟨rfl,⟨rfl,⟨rfl,⟨rfl,trivial⟩⟩⟩⟩
   · refine W.skip ?_
     refine W.seq ?_
     have hin : F[r + 1]![k]! = true := by simpa using hc38
     have hln := wkB_len L F r (2 * k) (hs,fl ++ [F[r + 1]![k]!])
     simp only [List.length_append,List.length_cons,List.length_nil] at hln
     refine W.l0 6 [.y 51 _,.y 52 _,.y 53 _,.y 54 _,.y 55 _] [] [] [(0,_),(1,_),(5,_),(51,_),(53,_),(55,_)] [(0,.var _),(1,.var _),(2,.var _),(3,.var _)] 64 ⟨aU (lU 5 rfl rfl rfl rfl rfl rfl rfl),mU 0 rfl rfl,aU fun _ _ H K => R.subN (r + 1) (1) (eU K 52 rfl) (kI 1 rfl) bU bU H,mU 1 rfl rfl,aU fun _ _ H K => R.mulN (2) (k) (kI 2 rfl) (eU K 54 rfl) bU H,trivial⟩ rfl rfl rfl rfl (⟨rfl,_,R.callVB (ds := [.int ((r : Nat) : Int),.int ((2 * k : Nat) : Int)]) (caps := [.ptr 0 0 [],.ptr 1 0 [],.ptr 2 0 [],.ptr 3 0 []]) [(0,0),(1,1),(2,2),(3,3)] hC (gU 51 rfl) rfl rfl (show FnB Tryd.prog gl 25 [.int ((r : Nat) : Int),.int ((2 * k : Nat) : Int),.ptr 0 0 [],.ptr 1 0 [],.ptr 2 0 [],.ptr 3 0 []] [(0,.var (.sl none 1 (L.map hsD))),(1,.var (.agg [.int n,.sl (some 38) 32 (hs.map hashD),.sl (some 4) 1 ((fl ++ [F[r + 1]![k]!]).map D.bool)])),(2,.var (.sl none 1 (F.map flD))),(3,.var (.fn 25 [.ptr 0 0 [],.ptr 1 0 [],.ptr 2 0 [],.ptr 3 0 []]))] (.tup []) [(0,.var (.sl none 1 (L.map hsD))),(1,.var (.agg [.int n,.sl (some 38) 32 ((wkB L F r (2 * k) (hs,fl ++ [F[r + 1]![k]!])).1.map hashD),.sl (some 4) 1 ((wkB L F r (2 * k) (hs,fl ++ [F[r + 1]![k]!])).2.map D.bool)])),(2,.var (.sl none 1 (F.map flD))),(3,.var (.fn 25 [.ptr 0 0 [],.ptr 1 0 [],.ptr 2 0 [],.ptr 3 0 []]))] [] from ih (2 * k) hs (fl ++ [F[r + 1]![k]!]) (by omega) (by first | omega | (simp only [List.length_append,List.length_cons,List.length_nil]; omega)) (by first | omega | (simp only [List.length_append,List.length_cons,List.length_nil]; omega))) (EvB.cons (gV 53 rfl) rfl rfl rfl (EvB.cons (gV 55 rfl) rfl rfl rfl EvB.nil)) rfl ⟨rfl,⟨rfl,⟨rfl,⟨rfl,trivial⟩⟩⟩⟩ ⟨rfl,⟨rfl,⟨rfl,⟨rfl,trivial⟩⟩⟩⟩ rfl rfl rfl rfl rfl rfl (nU rfl),tV [(0,_),(1,_),(5,_)] [(0,.var _),(1,.var _),(2,.var _),(3,.var _)] 64 rfl rfl rfl ?_⟩)
     refine W.l0 7 [.y 57 _,.y 58 _,.y 59 _,.y 60 _,.y 61 _,.y 62 _] [] [] [(57,_),(59,_),(62,_)] [(0,.var _),(1,.var _),(2,.var _),(3,.var _)] 64 ⟨aU (lU 5 rfl rfl rfl rfl rfl rfl rfl),mU 0 rfl rfl,aU fun _ _ H K => R.subN (r + 1) (1) (eU K 58 rfl) (kI 1 rfl) bU bU H,mU 1 rfl rfl,aU fun _ _ H K => R.mulN (2) (k) (kI 2 rfl) (eU K 60 rfl) bU H,aU fun _ _ H K => R.addN ((2 * k)) (1) (eU K 61 rfl) (kI 1 rfl) bU H,trivial⟩ rfl rfl rfl rfl (⟨rfl,_,R.callVB (ds := [.int ((r : Nat) : Int),.int ((2 * k + 1 : Nat) : Int)]) (caps := [.ptr 0 0 [],.ptr 1 0 [],.ptr 2 0 [],.ptr 3 0 []]) [(0,0),(1,1),(2,2),(3,3)] hC (gU 57 rfl) rfl rfl (show FnB Tryd.prog gl 25 [.int ((r : Nat) : Int),.int ((2 * k + 1 : Nat) : Int),.ptr 0 0 [],.ptr 1 0 [],.ptr 2 0 [],.ptr 3 0 []] [(0,.var (.sl none 1 (L.map hsD))),(1,.var (.agg [.int n,.sl (some 38) 32 ((wkB L F r (2 * k) (hs,fl ++ [F[r + 1]![k]!])).1.map hashD),.sl (some 4) 1 ((wkB L F r (2 * k) (hs,fl ++ [F[r + 1]![k]!])).2.map D.bool)])),(2,.var (.sl none 1 (F.map flD))),(3,.var (.fn 25 [.ptr 0 0 [],.ptr 1 0 [],.ptr 2 0 [],.ptr 3 0 []]))] (.tup []) [(0,.var (.sl none 1 (L.map hsD))),(1,.var (.agg [.int n,.sl (some 38) 32 ((wkB L F r (2 * k + 1) (wkB L F r (2 * k) (hs,fl ++ [F[r + 1]![k]!]))).1.map hashD),.sl (some 4) 1 ((wkB L F r (2 * k + 1) (wkB L F r (2 * k) (hs,fl ++ [F[r + 1]![k]!]))).2.map D.bool)])),(2,.var (.sl none 1 (F.map flD))),(3,.var (.fn 25 [.ptr 0 0 [],.ptr 1 0 [],.ptr 2 0 [],.ptr 3 0 []]))] [] from ih (2 * k + 1) (wkB L F r (2 * k) (hs,fl ++ [F[r + 1]![k]!])).1 (wkB L F r (2 * k) (hs,fl ++ [F[r + 1]![k]!])).2 (by omega) (by first | omega | (simp only [List.length_append,List.length_cons,List.length_nil]; omega)) (by first | omega | (simp only [List.length_append,List.length_cons,List.length_nil]; omega))) (EvB.cons (gV 59 rfl) rfl rfl rfl (EvB.cons (gV 62 rfl) rfl rfl rfl EvB.nil)) rfl ⟨rfl,⟨rfl,⟨rfl,⟨rfl,trivial⟩⟩⟩⟩ ⟨rfl,⟨rfl,⟨rfl,⟨rfl,trivial⟩⟩⟩⟩ rfl rfl rfl rfl rfl rfl (nU rfl),tV [] [(0,.var _),(1,.var _),(2,.var _),(3,.var _)] 64 rfl rfl rfl ?_⟩)
     exact EndsB.none' (r := .dead) (.inl rfl) rfl (by rw [wk_in hc14 hin]; rfl) ⟨rfl,⟨rfl,⟨rfl,⟨rfl,trivial⟩⟩⟩⟩

end Go.Sx

namespace Go.Sx
open Go.Proofs
theorem bwalk {L : List (List Hs)} {F : List (List Bool)} {n : Int} (hL : L.length ≤ 20) (hF : F.length = L.length) (hLF : ∀ j : Nat,F[j]!.length = L[j]!.length) (hLl : ∀ j : Nat,L[j]!.length ≤ 1000) :
 ∀ (r : Nat),r < L.length → ∀ (k : Nat) (hs : List Hs) (fl : List Bool),k ≤ 100000 → hs.length + 2 ^ (r + 1) ≤ 100000 → fl.length + 2 ^ (r + 1) ≤ 100000 → BwP L F n r k hs fl := by
 intro r
 induction r with
 | zero => intro hr k hs fl hk h1 h2; exact bwalk0 L F n hL hF hLF hLl hr k hs fl hk h1 h2
 | succ r ih => intro hr k hs fl hk h1 h2; exact bwalk1 L F n r hL hF hLF hLl hr k hs fl hk h1 h2 (ih (by omega))
def zeroP : PartS := ⟨0,[],[]⟩
def bwS (l : List Hs) (f : List Bool) : List Hs × List Bool := wkB (rowsL joinS l (nRows l.length)) (flsL f (nRows l.length)) ((rowsL joinS l (nRows l.length)).length - 1) 0 ([],[])
def bldS (l : List Hs) (f : List Bool) : PartS × Nat :=
 if l.length = 0 ∨ f.length ≠ l.length then (zeroP,1) else if 256 < l.length then (zeroP,6) else (⟨(l.length : Nat),(bwS l f).1,(bwS l f).2⟩,0)
section
variable {l : List Hs} {f : List Bool}
theorem bld_1 (h : l.length = 0) : bldS l f = (zeroP,1) := if_pos (.inl h)
theorem bld_2 (h : f.length ≠ l.length) : bldS l f = (zeroP,1) := if_pos (.inr h)
theorem bld_3 (h1 : ¬ l.length = 0) (h2 : ¬ f.length ≠ l.length) (h3 : 256 < l.length) : bldS l f = (zeroP,6) := by rw [bldS,if_neg (by intro h; exact h.elim h1 h2),if_pos h3]
theorem bld_4 (h1 : ¬ l.length = 0) (h2 : ¬ f.length ≠ l.length) (h3 : ¬ 256 < l.length) : bldS l f = (⟨(l.length : Nat),(bwS l f).1,(bwS l f).2⟩,0) := by rw [bldS,if_neg (by intro h; exact h.elim h1 h2),if_neg h3]
theorem nRows_9 : ∀ n,n ≤ 256 → nRows n ≤ 9 := by
 have key : ∀ k n,n ≤ 2 ^ k → nRows n ≤ k + 1 := by
  intro k
  induction k with
  | zero => intro n h; have := nRows_short (n := n) (by simpa using h); omega
  | succ k ih =>
   intro n h
   rcases Nat.lt_or_ge n 2 with h2 | h2
   · have := nRows_short (n := n) (by omega); omega
   · rw [nRows_2 h2]
     have := ih ((n + 1) / 2) (by rw [Nat.pow_succ] at h; omega)
     omega
 intro n h
 exact key 8 n h
theorem bw_call {n : Int} (h0 : 0 < l.length) (h1 : l.length ≤ 256) (hf : f.length = l.length) :
 BwP (rowsL joinS l (nRows l.length)) (flsL f (nRows l.length)) n ((rowsL joinS l (nRows l.length)).length - 1) 0 [] [] := by
 have hn := nRows_9 l.length h1
 have hnp := nRows_pos (n := l.length) h0
 have hlen := rowsL_len joinS l (nRows l.length)
 have hp : 2 ^ ((rowsL joinS l (nRows l.length)).length - 1 + 1) ≤ 2 ^ 9 := Nat.pow_le_pow_right (by decide) (by omega)
 have get : ∀ j : Nat,(j < nRows l.length → (rowsL joinS l (nRows l.length))[j]! = rowA joinS l j ∧ (flsL f (nRows l.length))[j]! = flA f j) ∧ (¬ j < nRows l.length → (rowsL joinS l (nRows l.length))[j]! = [] ∧ (flsL f (nRows l.length))[j]! = []) := by
  intro j
  refine ⟨fun h => ⟨rowsL_get h,flsL_get h⟩,fun h => ⟨?_, ?_⟩⟩
  · rw [getElem!_neg _ j (by rw [rowsL_len]; exact h)]; rfl
  · rw [getElem!_neg _ j (by rw [flsL_len]; exact h)]; rfl
 refine bwalk (by omega) (by rw [rowsL_len,flsL_len]) (fun j => ?_) (fun j => ?_) _ (by omega) 0 [] [] (by omega) (by simp only [List.length_nil]; omega) (by simp only [List.length_nil]; omega)
 · by_cases h : j < nRows l.length
   · rw [((get j).1 h).1,((get j).1 h).2]; exact flA_len hf j
   · rw [((get j).2 h).1,((get j).2 h).2]; rfl
 · by_cases h : j < nRows l.length
   · rw [((get j).1 h).1,rowA_len]; have := lenA_le l.length j; omega
   · rw [((get j).2 h).1]; simp
theorem wk_zeroP : Wk (.agg [.int 0,.nils,.nils]) (partD zeroP) := .aggL (.cons (.refl _) (.cons (.nils none 32) (.cons (.nils none 1) .nil)))
end
end Go.Sx

namespace Go.Sx
open Go.Proofs
theorem build_ok (l : List Hs) (f : List Bool) (hl : allH l) (hl0 : l.length ≤ 1000000) (hf0 : f.length ≤ 1000000) : Fn Tryd.prog gl 9 [.sl none 32 (l.map hashD),.sl none 1 (f.map D.bool)] (.tup [partD (bldS l f).1,.int (((bldS l f).2 : Nat) : Int)]) := by
 refine Fn.of (n := 41) Tryd.func9 rfl rfl rfl (nU rfl) fun C hC hD => ?_
 refine W.seq ?_
 refine W.l0 2 [] [] [] [(0,_),(1,_)] [] 41 trivial rfl rfl rfl rfl (⟨rfl,_,R.alloc rfl (nU rfl),⟨rfl,_,R.asg (kI 0 rfl) rfl (nU rfl),tV [(0,_),(1,_),(4,_)] [(4,.var _)] 41 rfl rfl rfl ?_⟩⟩)
 refine W.seq ?_
 refine W.block ?_
 refine W.seq ?_
 refine W.seq ?_
 by_cases hz : l.length = 0
 · refine W.l0 4 [.y 11 _,.y 12 _,.y 13 _,.y 10 _] [] [] [(0,_),(1,_),(4,_),(10,_)] [(4,.var _)] 41 ⟨mU 0 rfl rfl,aU fun _ _ H K => R.lenE (SC.sl (K 11 _ rfl)) (List.length_map _) H,aU fun _ _ H K => R.eqlN (l.length) (0) (eU K 12 rfl) (kI 0 rfl) H,aU fun _ _ H K => R.asg (eU K 13 rfl) rfl H,trivial⟩ rfl rfl rfl rfl (tU rfl ?_)
   refine W.condT rfl (decide_eq_true hz) ?_
   refine W.skip ?_
   refine W.condT rfl (decide_eq_true hz) ?_
   refine W.seq ?_
   refine W.l0 3 [.y 19 _] [] [] [(4,_),(19,_)] [(4,.var _)] 41 ⟨aU fun _ _ H _ => R.bldSE (l := [.int 0,.nils,.nils]) (l' := [_,_,_]) (.nil rfl) trivial H,trivial⟩ rfl rfl rfl rfl (⟨rfl,_,R.stZ (gU 4 rfl) (xU 4 rfl) rfl (gV 19 rfl) (by rfl) (by rfl) (by rfl) (by rfl) rfl,⟨rfl,_,R.asg (kI 1 rfl) rfl (nU rfl),tV [(4,_),(5,_)] [(4,.var _)] 41 rfl rfl rfl ?_⟩⟩)
   refine W.wkB 4 (d' := partD zeroP) (bx' := [(4,.var _)]) rfl wk_zeroP rfl ?_
   refine W.ret ?_
   exact Ends.many (.inr rfl) (.cons rfl rfl rfl (show LdT _ 25 3 true from inferInstance) (.cons rfl rfl rfl trivial .nil)) (by rw [bld_1 hz]) (show [(4,false),(5,true)].Nodup by decide)
 · refine W.l0 4 [.y 11 _,.y 12 _,.y 13 _,.y 10 _] [] [] [(0,_),(1,_),(4,_),(10,_)] [(4,.var _)] 41 ⟨mU 0 rfl rfl,aU fun _ _ H K => R.lenE (SC.sl (K 11 _ rfl)) (List.length_map _) H,aU fun _ _ H K => R.eqlN (l.length) (0) (eU K 12 rfl) (kI 0 rfl) H,aU fun _ _ H K => R.asg (eU K 13 rfl) rfl H,trivial⟩ rfl rfl rfl rfl (tU rfl ?_)
   refine W.condF rfl (decide_eq_false hz) ?_
   refine W.l0 6 [.y 14 _,.y 15 _,.y 16 _,.y 17 _,.y 18 _,.y 10 _] [] [] [(0,_),(1,_),(4,_),(10,_)] [(4,.var _)] 41 ⟨mU 1 rfl rfl,aU fun _ _ H K => R.lenE (SC.sl (K 14 _ rfl)) (List.length_map _) H,mU 0 rfl rfl,aU fun _ _ H K => R.lenE (SC.sl (K 16 _ rfl)) (List.length_map _) H,aU fun _ _ H K => R.neqN (f.length) (l.length) (eU K 15 rfl) (eU K 17 rfl) H,aU fun _ _ H K => R.asg (eU K 18 rfl) rfl H,trivial⟩ rfl rfl rfl rfl (tU rfl ?_)
   refine W.condD rfl (fun hc10 => ?_) (fun hc10 => ?_)
   · refine W.seq ?_
     refine W.l0 3 [.y 19 _] [] [] [(4,_),(19,_)] [(4,.var _)] 41 ⟨aU fun _ _ H _ => R.bldSE (l := [.int 0,.nils,.nils]) (l' := [_,_,_]) (.nil rfl) trivial H,trivial⟩ rfl rfl rfl rfl (⟨rfl,_,R.stZ (gU 4 rfl) (xU 4 rfl) rfl (gV 19 rfl) (by rfl) (by rfl) (by rfl) (by rfl) rfl,⟨rfl,_,R.asg (kI 1 rfl) rfl (nU rfl),tV [(4,_),(5,_)] [(4,.var _)] 41 rfl rfl rfl ?_⟩⟩)
     refine W.wkB 4 (d' := partD zeroP) (bx' := [(4,.var _)]) rfl wk_zeroP rfl ?_
     refine W.ret ?_
     exact Ends.many (.inr rfl) (.cons rfl rfl rfl (show LdT _ 25 3 true from inferInstance) (.cons rfl rfl rfl trivial .nil)) (by rw [bld_2 hc10]) (show [(4,false),(5,true)].Nodup by decide)
   · refine W.seq ?_
     refine W.l0 4 [.y 21 _,.y 22 _,.y 23 _,.y 20 _] [] [] [(0,_),(1,_),(4,_),(20,_)] [(4,.var _)] 41 ⟨mU 0 rfl rfl,aU fun _ _ H K => R.lenE (SC.sl (K 21 _ rfl)) (List.length_map _) H,aU fun _ _ H K => R.gtrN (l.length) (256) (eU K 22 rfl) (kI 256 rfl) H,aU fun _ _ H K => R.asg (eU K 23 rfl) rfl H,trivial⟩ rfl rfl rfl rfl (tU rfl ?_)
     refine W.condD rfl (fun hc20 => ?_) (fun hc20 => ?_)
     · refine W.seq ?_
       refine W.l0 3 [.y 24 _] [] [] [(4,_),(24,_)] [(4,.var _)] 41 ⟨aU fun _ _ H _ => R.bldSE (l := [.int 0,.nils,.nils]) (l' := [_,_,_]) (.nil rfl) trivial H,trivial⟩ rfl rfl rfl rfl (⟨rfl,_,R.stZ (gU 4 rfl) (xU 4 rfl) rfl (gV 24 rfl) (by rfl) (by rfl) (by rfl) (by rfl) rfl,⟨rfl,_,R.asg (kI 6 rfl) rfl (nU rfl),tV [(4,_),(5,_)] [(4,.var _)] 41 rfl rfl rfl ?_⟩⟩)
       refine W.wkB 4 (d' := partD zeroP) (bx' := [(4,.var _)]) rfl wk_zeroP rfl ?_
       refine W.ret ?_
       exact Ends.many (.inr rfl) (.cons rfl rfl rfl (show LdT _ 25 3 true from inferInstance) (.cons rfl rfl rfl trivial .nil)) (by rw [bld_3 hz hc10 hc20]) (show [(4,false),(5,true)].Nodup by decide)
     · refine W.skip ?_
       refine W.seq ?_
       refine W.l0 10 [.y 26 _,.y 27 _,.y 28 _,.y 25 _,.y 29 _,.y 30 _] [] [] [(0,_),(4,_),(29,_),(30,_)] [(4,.var _)] 41 ⟨mU 0 rfl rfl,mU 1 rfl rfl,aU fun _ _ H K => R.callPE hC (prows_ok l f hl (by omega) (by omega) (by omega)) (EvP.cons (eU K 26 rfl) rfl rfl (EvP.cons (eU K 27 rfl) rfl rfl EvP.nil)) H,aU fun _ _ H K => R.movT (K 28 _ rfl) rfl H,aU fun _ _ H K => R.ext (K 25 _ rfl) rfl rfl H,aU fun _ _ H K => R.ext (K 25 _ rfl) rfl rfl H,trivial⟩ rfl rfl rfl rfl (⟨rfl,_,R.alloc rfl (nU rfl),⟨rfl,_,R.alloc rfl (nU rfl),⟨rfl,_,R.stZ (gU 6 rfl) (xU 6 rfl) rfl (gV 29 rfl) (by rfl) (by rfl) (by rfl) (by rfl) rfl,⟨rfl,_,R.stZ (gU 7 rfl) (xU 7 rfl) rfl (gV 30 rfl) (by rfl) (by rfl) (by rfl) (by rfl) rfl,tV [(0,_),(4,_),(6,_),(7,_)] [(7,.var _),(6,.var _),(4,.var _)] 41 rfl rfl rfl ?_⟩⟩⟩⟩)
       refine W.seq ?_
       refine W.l0 5 [.y 31 _,.y 32 _,.y 33 _] [] [] [(4,_),(6,_),(7,_),(33,_)] [(7,.var _),(6,.var _),(4,.var _)] 41 ⟨mU 0 rfl rfl,aU fun _ _ H K => R.lenE (SC.sl (K 31 _ rfl)) (List.length_map _) H,aU fun _ _ H K => R.bldSE (l := [.int 0,.nils,.nils]) (l' := [_,_,_]) (.cons (eU K 32 rfl) (.nil rfl)) ⟨⟨_,(eU K 32 rfl),rfl,rfl,rfl⟩,trivial⟩ H,trivial⟩ rfl rfl rfl rfl (⟨rfl,_,R.alloc rfl (nU rfl),⟨rfl,_,R.stZ (gU 8 rfl) (xU 8 rfl) rfl (gV 33 rfl) (by rfl) (by rfl) (by rfl) (by rfl) rfl,tV [(4,_),(6,_),(7,_),(8,_)] [(8,.var _),(7,.var _),(6,.var _),(4,.var _)] 41 rfl rfl rfl ?_⟩⟩)
       refine W.seq ?_
       refine W.asOwnP 8 [1] 38 32 (bx' := [(8,.var _),(7,.var _),(6,.var _),(4,.var _)]) rfl rfl rfl rfl rfl ?_
       refine W.asOwnP 8 [2] 4 1 (bx' := [(8,.var _),(7,.var _),(6,.var _),(4,.var _)]) rfl rfl rfl rfl rfl ?_
       refine W.l0 1 [] [] [] [(4,_),(6,_),(7,_),(8,_)] [(8,.var _),(7,.var _),(6,.var _),(4,.var _)] 41 trivial rfl rfl rfl rfl (⟨rfl,_,R.alloc rfl (nU rfl),tV [(4,_),(6,_),(7,_),(8,_),(9,_)] [(9,.var _),(8,.var _),(7,.var _),(6,.var _),(4,.var _)] 41 rfl rfl rfl ?_⟩)
       refine W.seq ?_
       refine W.l0 2 [.y 34 _] [] [] [(4,_),(6,_),(8,_),(9,_),(34,_)] [(9,.var _),(8,.var _),(7,.var _),(6,.var _),(4,.var _)] 41 ⟨aU fun _ _ H K => R.mkfnL (EvFs.cons (eU K 6 rfl) rfl rfl (EvFs.cons (eU K 8 rfl) rfl rfl (EvFs.cons (eU K 7 rfl) rfl rfl (EvFs.cons (eU K 9 rfl) rfl rfl EvFs.nil)))) H,trivial⟩ rfl rfl rfl rfl (⟨rfl,_,R.stP (gU 9 rfl) (xU 9 rfl) rfl (gV 34 rfl) rfl rfl (by rfl) (by rfl) rfl,tV [(4,_),(6,_),(8,_),(9,_)] [(9,.var _),(8,.var _),(7,.var _),(6,.var _),(4,.var _)] 41 rfl rfl rfl ?_⟩)
       refine W.seq ?_
       have hlr := rowsL_len joinS l (nRows l.length)
       have hnp := nRows_pos (n := l.length) (by omega)
       have hnl := nRows_le l.length
       refine W.l0 5 [.y 35 _,.y 36 _,.y 37 _,.y 38 _] [] [] [(4,_),(8,_),(35,_),(38,_)] [(9,.var _),(8,.var _),(7,.var _),(6,.var _),(4,.var _)] 41 ⟨aU (lU 9 rfl rfl rfl rfl rfl rfl rfl),aU (lU 6 rfl rfl rfl rfl rfl rfl rfl),aU fun _ _ H K => R.lenE (SC.sl (K 36 _ rfl)) (List.length_map _) H,aU fun _ _ H K => R.subN ((rowsL joinS l (nRows l.length)).length) (1) (eU K 37 rfl) (kI 1 rfl) bU bU H,trivial⟩ rfl rfl rfl rfl (⟨rfl,_,R.callVB (ds := [.int ((((rowsL joinS l (nRows l.length)).length - 1) : Nat) : Int),.int ((0 : Nat) : Int)]) (caps := [.ptr 0 0 [],.ptr 1 0 [],.ptr 2 0 [],.ptr 3 0 []]) [(0,6),(1,8),(2,7),(3,9)] hC (gU 35 rfl) rfl rfl (show FnB Tryd.prog gl 25 [.int ((((rowsL joinS l (nRows l.length)).length - 1) : Nat) : Int),.int ((0 : Nat) : Int),.ptr 0 0 [],.ptr 1 0 [],.ptr 2 0 [],.ptr 3 0 []] [(0,.var (.sl none 1 ((rowsL joinS l (nRows l.length)).map hsD))),(1,.var (.agg [.int ((l.length : Nat) : Int),.sl (some 38) 32 (([] : List Hs).map hashD),.sl (some 4) 1 (([] : List Bool).map D.bool)])),(2,.var (.sl none 1 ((flsL f (nRows l.length)).map flD))),(3,.var (.fn 25 [.ptr 0 0 [],.ptr 1 0 [],.ptr 2 0 [],.ptr 3 0 []]))] (.tup []) [(0,.var (.sl none 1 ((rowsL joinS l (nRows l.length)).map hsD))),(1,.var (.agg [.int ((l.length : Nat) : Int),.sl (some 38) 32 ((bwS l f).1.map hashD),.sl (some 4) 1 ((bwS l f).2.map D.bool)])),(2,.var (.sl none 1 ((flsL f (nRows l.length)).map flD))),(3,.var (.fn 25 [.ptr 0 0 [],.ptr 1 0 [],.ptr 2 0 [],.ptr 3 0 []]))] [] from bw_call (by omega) (by omega) (by omega)) (EvB.cons (gV 38 rfl) rfl rfl rfl (EvB.cons (kI 0 rfl) rfl rfl rfl EvB.nil)) rfl ⟨rfl,⟨rfl,⟨rfl,⟨rfl,trivial⟩⟩⟩⟩ ⟨rfl,⟨rfl,⟨rfl,⟨rfl,trivial⟩⟩⟩⟩ rfl rfl rfl rfl rfl rfl (nU rfl),tV [(4,_),(8,_)] [(9,.var _),(8,.var _),(7,.var _),(6,.var _),(4,.var _)] 41 rfl rfl rfl ?_⟩)
       refine W.seq ?_
       refine W.brwB 8 (d' := .agg [.int ((l.length : Nat) : Int),.sl none 32 ((bwS l f).1.map hashD),.sl none 1 ((bwS l f).2.map D.bool)]) (bx' := [(9,.var _),(8,.var _),(7,.var _),(6,.var _),(4,.var _)]) rfl (show (D.agg [.int ((l.length : Nat) : Int),.sl (some 38) 32 ((bwS l f).1.map hashD),.sl (some 4) 1 ((bwS l f).2.map D.bool)]).brw = _ from by simp only [D.brw,brws_eq,List.map_cons,List.map_nil]; rw [brw_map brw_hash,brw_map (fun _ => rfl)]) rfl ?_
       refine W.l0 3 [.y 40 _] [] [] [(4,_),(40,_)] [(9,.var _),(8,.var _),(7,.var _),(6,.var _),(4,.var _)] 41 ⟨aU (lU 8 rfl rfl rfl rfl rfl rfl rfl),trivial⟩ rfl rfl rfl rfl (⟨rfl,_,R.stZ (gU 4 rfl) (xU 4 rfl) rfl (gV 40 rfl) (by rfl) (by rfl) (by rfl) (by rfl) rfl,⟨rfl,_,R.asg (kI 0 rfl) rfl (nU rfl),tV [(4,_),(5,_)] [(9,.var _),(8,.var _),(7,.var _),(6,.var _),(4,.var _)] 41 rfl rfl rfl ?_⟩⟩)
       refine W.ret ?_
       exact Ends.many (.inr rfl) (.cons rfl rfl rfl (show LdT _ 25 3 true from inferInstance) (.cons rfl rfl rfl trivial .nil)) (by rw [bld_4 hz hc10 hc20]; rfl) (show [(4,false),(5,true)].Nodup by decide)

end Go.Sx

namespace Go.Sx
open Go.Proofs
abbrev CS := List Bool × List Hs × List Hs × List Nat
def ckLeaf (k : Nat) (f : Bool) (s : CS) : (Hs × Bool) × CS :=
 if s.2.1.length = 0 then ((zero32,false),s) else ((s.2.1[0]!,true),(s.1,s.2.1.drop 1,(if f = true then s.2.2.1 ++ [s.2.1[0]!] else s.2.2.1),(if f = true then s.2.2.2 ++ [k] else s.2.2.2)))
def ckW (w : List Nat) : Nat → Nat → CS → (Hs × Bool) × CS
 | 0,k,s => if s.1.length = 0 then ((zero32,false),s) else ckLeaf k s.1[0]! (s.1.drop 1,s.2)
 | r + 1,k,s => if s.1.length = 0 then ((zero32,false),s) else if s.1[0]! = false then ckLeaf k false (s.1.drop 1,s.2) else
  if (ckW w r (2 * k) (s.1.drop 1,s.2)).1.2 = false then ((zero32,false),(ckW w r (2 * k) (s.1.drop 1,s.2)).2) else
  if 2 * k + 1 = w[r]! then ((joinS (ckW w r (2 * k) (s.1.drop 1,s.2)).1.1 (ckW w r (2 * k) (s.1.drop 1,s.2)).1.1,true),(ckW w r (2 * k) (s.1.drop 1,s.2)).2) else
  ((joinS (ckW w r (2 * k) (s.1.drop 1,s.2)).1.1 (ckW w r (2 * k + 1) (ckW w r (2 * k) (s.1.drop 1,s.2)).2).1.1,(ckW w r (2 * k + 1) (ckW w r (2 * k) (s.1.drop 1,s.2)).2).1.2 && (ckW w r (2 * k) (s.1.drop 1,s.2)).1.1 != (ckW w r (2 * k + 1) (ckW w r (2 * k) (s.1.drop 1,s.2)).2).1.1),(ckW w r (2 * k + 1) (ckW w r (2 * k) (s.1.drop 1,s.2)).2).2)
structure CkOk (s : CS) (o : (Hs × Bool) × CS) : Prop where
 h : o.1.1.length = 32
 hs : allH o.2.2.1
 ids : o.2.2.2.1.length + o.2.1.length ≤ s.2.2.1.length + s.1.length
 at_ : o.2.2.2.2.length + o.2.1.length ≤ s.2.2.2.length + s.1.length
 hl : o.2.2.1.length ≤ s.2.1.length
 all : allH s.2.2.1 → allH o.2.2.2.1
theorem ck_mk {s st : CS} {h : Hs} {b : Bool} (h1 : h.length = 32) (h2 : allH st.2.1) (h3 : st.2.2.1.length + st.1.length ≤ s.2.2.1.length + s.1.length) (h4 : st.2.2.2.length + st.1.length ≤ s.2.2.2.length + s.1.length) (h5 : st.2.1.length ≤ s.2.1.length)
 (h6 : allH s.2.2.1 → allH st.2.2.1) : CkOk s ((h,b),st) := ⟨h1,h2,h3,h4,h5,h6⟩
theorem zero32_len : zero32.length = 32 := rfl
theorem allH.drop1 {l : List Hs} (h : allH l) (n : Nat) : allH (l.drop n) := fun x hx => h x (List.mem_of_mem_drop hx)
theorem ckLeaf_ok {k : Nat} {f : Bool} {s : CS} (hs : allH s.2.1) (s0 : CS) (h1 : s.1.length + 1 ≤ s0.1.length) (h2 : s.2 = s0.2) : CkOk s0 (ckLeaf k f s) := by
 unfold ckLeaf
 obtain ⟨fl,hh,ids,at_⟩ := s
 obtain ⟨fl0,hh0,ids0,at0⟩ := s0
 simp only [Prod.mk.injEq] at h2
 obtain ⟨rfl,rfl,rfl⟩ := h2
 simp only at hs h1 ⊢
 split
 · exact ⟨rfl,hs,by simp only; omega,by simp only; omega,Nat.le_refl _,fun h => h⟩
 · rename_i hne
   refine ⟨hs.get (by omega),hs.drop1 1, ?_, ?_,by simp, ?_⟩
   · by_cases hf : f = true
     · simp only [if_pos hf,List.length_append,List.length_cons,List.length_nil]; omega
     · simp only [if_neg hf]; omega
   · by_cases hf : f = true
     · simp only [if_pos hf,List.length_append,List.length_cons,List.length_nil]; omega
     · simp only [if_neg hf]; omega
   · intro h
     show allH (if f = true then _ else _)
     split
     · intro x hx
       rcases List.mem_append.1 hx with h3 | h3
       · exact h x h3
       · rw [List.mem_singleton.1 h3]; exact hs.get (by omega)
     · exact h
theorem ckW_ok (w : List Nat) : ∀ (r k : Nat) (s : CS),allH s.2.1 → CkOk s (ckW w r k s) := by
 intro r
 induction r with
 | zero =>
  intro k s hs
  simp only [ckW]
  split
  · exact ⟨rfl,hs,Nat.le_refl _,Nat.le_refl _,Nat.le_refl _,fun h => h⟩
  · exact ckLeaf_ok (s := (s.1.drop 1,s.2)) hs s (by show (s.1.drop 1).length + 1 ≤ s.1.length; rw [List.length_drop]; omega) rfl
 | succ r ih =>
  intro k s hs
  simp only [ckW]
  split
  · exact ⟨rfl,hs,Nat.le_refl _,Nat.le_refl _,Nat.le_refl _,fun h => h⟩
  · split
    · exact ckLeaf_ok (s := (s.1.drop 1,s.2)) hs s (by show (s.1.drop 1).length + 1 ≤ s.1.length; rw [List.length_drop]; omega) rfl
    · have hx := ih (2 * k) (s.1.drop 1,s.2) hs
      generalize ckW w r (2 * k) (s.1.drop 1,s.2) = X at hx ⊢
      have hy := ih (2 * k + 1) X.2 hx.hs
      generalize ckW w r (2 * k + 1) X.2 = Y at hy ⊢
      have h0 : (s.1.drop 1).length = s.1.length - 1 := List.length_drop
      have h1 : X.2.2.2.1.length + X.2.1.length ≤ s.2.2.1.length + (s.1.drop 1).length := hx.ids
      have h2 : X.2.2.2.2.length + X.2.1.length ≤ s.2.2.2.length + (s.1.drop 1).length := hx.at_
      have h3 : X.2.2.1.length ≤ s.2.1.length := hx.hl
      have h4 := hy.ids
      have h5 := hy.at_
      have h6 := hy.hl
      split
      · exact ck_mk zero32_len hx.hs (by omega) (by omega) h3 hx.all
      · split
        · exact ck_mk (joinS_len _ _) hx.hs (by omega) (by omega) h3 hx.all
        · exact ck_mk (joinS_len _ _) hy.hs (by omega) (by omega) (by omega) (fun h => hy.all (hx.all h))
abbrev CwX (w : List Nat) (fl : List Bool) (hs ids : List Hs) (at_ : List Nat) : List (Nat × Bx) :=
 [(0,.var (.sl none 1 (fl.map D.bool))),(1,.var (.sl none 32 (hs.map hashD))),(2,.var (.sl (some 38) 32 (ids.map hashD))),(3,.var (.sl (some 3) 1 (at_.map natD))),(4,.var (.fn 29 [.ptr 0 0 [],.ptr 1 0 [],.ptr 2 0 [],.ptr 3 0 [],.ptr 4 0 [],.ptr 5 0 []])),(5,.var (.sl none 1 (w.map natD)))]
abbrev CwP (w : List Nat) (row k : Nat) (fl : List Bool) (hs ids : List Hs) (at_ : List Nat) : Prop :=
 FnB Tryd.prog gl 29 [.int ((row : Nat) : Int),.int ((k : Nat) : Int),.ptr 0 0 [],.ptr 1 0 [],.ptr 2 0 [],.ptr 3 0 [],.ptr 4 0 [],.ptr 5 0 []] (CwX w fl hs ids at_)
  (.tup [hashD (ckW w row k (fl,hs,ids,at_)).1.1,.bool (ckW w row k (fl,hs,ids,at_)).1.2])
  (CwX w (ckW w row k (fl,hs,ids,at_)).2.1 (ckW w row k (fl,hs,ids,at_)).2.2.1 (ckW w row k (fl,hs,ids,at_)).2.2.2.1 (ckW w row k (fl,hs,ids,at_)).2.2.2.2) []
section
variable {w : List Nat} {r k : Nat} {fl fl1 fl2 : List Bool} {hs hs1 hs2 ids ids1 ids2 : List Hs} {at_ at1 at2 : List Nat} {a b : Hs} {x y : Bool}
theorem ck_1 (h : fl.length = 0) : ckW w r k (fl,hs,ids,at_) = ((zero32,false),fl,hs,ids,at_) := by cases r <;> rw [ckW,if_pos h]
theorem ck_0 (h : ¬ fl.length = 0) : ckW w 0 k (fl,hs,ids,at_) = ckLeaf k fl[0]! (fl.drop 1,hs,ids,at_) := by rw [ckW,if_neg h]
theorem ck_l (h : ¬ fl.length = 0) (h2 : fl[0]! = false) : ckW w (r + 1) k (fl,hs,ids,at_) = ckLeaf k fl[0]! (fl.drop 1,hs,ids,at_) := by rw [ckW,if_neg h,if_pos h2,h2]
theorem cl_1 {f : Bool} (h : hs.length = 0) : ckLeaf k f (fl,hs,ids,at_) = ((zero32,false),fl,hs,ids,at_) := if_pos h
theorem cl_t {f : Bool} (h : ¬ hs.length = 0) (h2 : f = true) : ckLeaf k f (fl,hs,ids,at_) = ((hs[0]!,true),fl,hs.drop 1,ids ++ [hs[0]!],at_ ++ [k]) := by rw [ckLeaf,if_neg h,if_pos h2,if_pos h2]
theorem cl_f {f : Bool} (h : ¬ hs.length = 0) (h2 : f = false) : ckLeaf k f (fl,hs,ids,at_) = ((hs[0]!,true),fl,hs.drop 1,ids,at_) := by rw [ckLeaf,if_neg h,if_neg (by simp [h2]),if_neg (by simp [h2])]
theorem ck_n (h : ¬ fl.length = 0) (h2 : fl[0]! = true) (hx : ckW w r (2 * k) (fl.drop 1,hs,ids,at_) = ((a,x),fl1,hs1,ids1,at1)) (hn : x = false) : ckW w (r + 1) k (fl,hs,ids,at_) = ((zero32,false),fl1,hs1,ids1,at1) := by
 rw [ckW,if_neg h,if_neg (by simp [h2])]
 simp only [hx]
 rw [if_pos hn]
theorem ck_s (h : ¬ fl.length = 0) (h2 : fl[0]! = true) (hx : ckW w r (2 * k) (fl.drop 1,hs,ids,at_) = ((a,x),fl1,hs1,ids1,at1)) (hn : x = true) (hw : 2 * k + 1 = w[r]!) : ckW w (r + 1) k (fl,hs,ids,at_) = ((joinS a a,true),fl1,hs1,ids1,at1) := by
 rw [ckW,if_neg h,if_neg (by simp [h2])]
 simp only [hx]
 rw [if_neg (by simp [hn]),if_pos hw]
theorem ck_b (h : ¬ fl.length = 0) (h2 : fl[0]! = true) (hx : ckW w r (2 * k) (fl.drop 1,hs,ids,at_) = ((a,x),fl1,hs1,ids1,at1)) (hn : x = true) (hw : ¬ 2 * k + 1 = w[r]!) (hy : ckW w r (2 * k + 1) (fl1,hs1,ids1,at1) = ((b,y),fl2,hs2,ids2,at2)) :
 ckW w (r + 1) k (fl,hs,ids,at_) = ((joinS a b,y && a != b),fl2,hs2,ids2,at2) := by
 rw [ckW,if_neg h,if_neg (by simp [h2])]
 simp only [hx,hy]
 rw [if_neg (by simp [hn]),if_neg hw]
end
end Go.Sx
