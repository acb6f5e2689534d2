/-
 Own library: slices.SortFunc at a slice of its own,by the library's contract; a compare function's contract out of what it computes; internal/bytealg.Compare.
-/
import Derived.Test.YtgilikgghknbhaaMSxDrawE
import Derived.Shelf.SlSortCmp.NoneTotal
import Derived.Lib.Bytealg
import Derived.Shelf.SlSortCmp.WholeK
set_option linter.unusedVariables false
set_option linter.unusedSimpArgs false
set_option linter.unnecessarySimpa false

namespace Go.Sx
open Go.Proofs
theorem str_eq {a b : List UInt8} (h : (a != b) = false) : a = b:=by simpa using h
theorem str_ne {a b : List UInt8} (h : (a != b) = true) : a ≠ b:=by simpa using h
theorem ls_f1 {a b : List (List UInt8)} (h : a.length ≠ b.length) : (a == b) = false:=beq_eq_false_iff_ne.2 fun e=>h (by rw [e])
theorem ls_f2 {a b : List (List UInt8)} {i : Nat} (hi : i < a.length) (h : a[i]! ≠ b[i]!) : (a == b) = false:=beq_eq_false_iff_ne.2 fun e=>h (by rw [e])
theorem ls_t {a b : List (List UInt8)} (h : a.length = b.length) (he : ∀ j < a.length,a[j]! = b[j]!) : (a == b) = true:=by
 refine beq_iff_eq.2 (List.ext_getElem h fun i h1 h2=>?_)
 have:=he i h1
 rwa [getElem!_pos a i h1,getElem!_pos b i h2] at this
end Go.Sx
namespace Go.Sx
open Go.Proofs
def eqL {α : Type} [Inhabited α] (f : α -> α -> Bool) (a b : List α) : Bool:=decide (a.length = b.length) && (List.range a.length).all fun i=>f a[i]! b[i]!
def eqB (a b : List UInt8) : Bool:=a == b
theorem eqL_f1 {α : Type} [Inhabited α] {f : α -> α -> Bool} {a b : List α} (h : a.length ≠ b.length) : eqL f a b = false:=by simp [eqL,h]
theorem eqL_f2 {α : Type} [Inhabited α] {f : α -> α -> Bool} {a b : List α} (h : a.length = b.length) {i : Nat} (hi : i < a.length) (hf : f a[i]! b[i]! = false) : eqL f a b = false:=by
 unfold eqL
 rw [decide_eq_true h,Bool.true_and,List.all_eq_false]
 exact ⟨i,List.mem_range.2 hi,by rw [hf]; simp⟩
theorem eqL_t {α : Type} [Inhabited α] {f : α -> α -> Bool} {a b : List α} (h : a.length = b.length) (he : ∀ j < a.length,f a[j]! b[j]! = true) : eqL f a b = true:=by
 unfold eqL
 rw [decide_eq_true h,Bool.true_and,List.all_eq_true]
 exact fun i hi=>he i (List.mem_range.1 hi)
def eqIn (x y : InS) : Bool:=plc x == plc y && x.seq == y.seq && x.script == y.script && eqL eqB x.wit y.wit
def eqOut (x y : OutS) : Bool:=x.value == y.value && x.script == y.script
theorem not_trueB {b : Bool} (h : (!b) = true) : b = false:=by cases b <;> simp_all
theorem not_falseB {b : Bool} (h : (!b) = false) : b = true:=by cases b <;> simp_all
def sameS (t u : TxS) : Bool:=t.ver == u.ver && t.lock == u.lock && eqL eqIn t.ins u.ins && eqL eqOut t.outs u.outs
end Go.Sx
namespace Go.Sx
open Go.Proofs
theorem nq_t {α : Type} [BEq α] [LawfulBEq α] {a b : α} (h : a ≠ b) : (!(a == b)) = true:=by rw [beq_eq_false_iff_ne.2 h]; rfl
theorem nq_f {α : Type} [BEq α] [LawfulBEq α] {a b : α} (h : ¬ a ≠ b) : (!(a == b)) = false:=by
 have : a = b:=Classical.byContradiction h
 subst this; simp
theorem eqB_list (a b : List (List UInt8)) : eqL eqB a b = (a == b):=by
 by_cases h : a.length = b.length
 · cases he : (a == b) with
   | true=>
    have:=eq_of_beq he
    subst this
    exact eqL_t rfl fun j _=>by simp [eqB]
   | false=>
    have hne : a ≠ b:=by simpa using he
    have : ∃ i,i < a.length /\ a[i]! ≠ b[i]!:=by
     apply Classical.byContradiction
     intro hn
     apply hne
     refine List.ext_getElem h fun i h1 h2=>?_
     have h3 : a[i]! = b[i]!:=Classical.byContradiction fun h3=>hn ⟨i,h1,h3⟩
     rwa [getElem!_pos a i h1,getElem!_pos b i h2] at h3
    obtain ⟨i,hi,hx⟩:=this
    exact eqL_f2 h hi (by simpa [eqB] using hx)
 · rw [eqL_f1 h,ls_f1 h]
theorem sm_f1 {t u : TxS} (h : t.ver ≠ u.ver) : sameS t u = false:=by simp [sameS,h]
theorem sm_f2 {t u : TxS} (h : t.lock ≠ u.lock) : sameS t u = false:=by simp [sameS,h]
theorem sm_f3 {t u : TxS} (h : t.ins.length ≠ u.ins.length) : sameS t u = false:=by simp [sameS,eqL_f1 h]
theorem sm_f4 {t u : TxS} (h : t.outs.length ≠ u.outs.length) : sameS t u = false:=by simp [sameS,eqL_f1 h]
theorem sm_fi {t u : TxS} {i : Nat} (h : t.ins.length = u.ins.length) (hi : i < t.ins.length) (he : eqIn t.ins[i]! u.ins[i]! = false) : sameS t u = false:=by simp [sameS,eqL_f2 h hi he]
theorem sm_fo {t u : TxS} {i : Nat} (h : t.outs.length = u.outs.length) (hi : i < t.outs.length) (he : eqOut t.outs[i]! u.outs[i]! = false) : sameS t u = false:=by simp [sameS,eqL_f2 h hi he]
theorem sm_t {t u : TxS} (h1 : t.ver = u.ver) (h2 : t.lock = u.lock) (h3 : t.ins.length = u.ins.length) (h4 : t.outs.length = u.outs.length) (h5 : ∀ j < t.ins.length,eqIn t.ins[j]! u.ins[j]! = true) (h6 : ∀ j < t.outs.length,eqOut t.outs[j]! u.outs[j]! = true) : sameS t u = true:=by
 simp [sameS,h1,h2,eqL_t h3 h5,eqL_t h4 h6]
theorem ei_f1 {x y : InS} (h : plc x ≠ plc y) : eqIn x y = false:=by simp [eqIn,h]
theorem ei_f2 {x y : InS} (h : x.script ≠ y.script) : eqIn x y = false:=by simp [eqIn,h]
theorem ei_f3 {x y : InS} (h : x.seq ≠ y.seq) : eqIn x y = false:=by simp [eqIn,h]
theorem ei_f4 {x y : InS} (h : (!(x.wit == y.wit)) = true) : eqIn x y = false:=by simp [eqIn,eqB_list,not_trueB h]
theorem ei_t {x y : InS} (h1 : ¬ plc x ≠ plc y) (h2 : ¬ x.script ≠ y.script) (h3 : ¬ x.seq ≠ y.seq) (h4 : (!(x.wit == y.wit)) = false) : eqIn x y = true:=by
 have h1' : plc x = plc y:=Classical.byContradiction h1
 have h2' : x.script = y.script:=Classical.byContradiction h2
 have h3' : x.seq = y.seq:=Classical.byContradiction h3
 simp [eqIn,eqB_list,not_falseB h4,h1',h2',h3']
theorem eo_f1 {x y : OutS} (h : x.value ≠ y.value) : eqOut x y = false:=by simp [eqOut,h]
theorem eo_f2 {x y : OutS} (h : (x.script != y.script) = true) : eqOut x y = false:=by simp [eqOut]; intro _; simpa using h
theorem eo_t {x y : OutS} (h1 : ¬ x.value ≠ y.value) (h2 : (x.script != y.script) = false) : eqOut x y = true:=by
 have h1' : x.value = y.value:=Classical.byContradiction h1
 simp only [eqOut,h1',beq_self_eq_true,Bool.true_and]; simpa using h2
theorem ext_i {P : Nat -> Prop} {i : Nat} (h : ∀ j < i,P j) (hi : P i) : ∀ j < i + 1,P j:=fun j hj=>by
 rcases Nat.lt_succ_iff_lt_or_eq.1 hj with h1 | h1
 · exact h j h1
 · rw [h1]; exact hi
theorem brw_bytes (l : List UInt8) : (bytesD l).brw = bytesD l:=by simp only [bytesD,D.brw,brws_eq]; rw [brw_map (fun _=>rfl)]
theorem brw_hash (l : List UInt8) : (hashD l).brw = hashD l:=by simp only [hashD,D.brw,brws_eq]; rw [brw_map (fun _=>rfl)]
end Go.Sx

namespace Go.Sx
open Go.Proofs
end Go.Sx

namespace Go.Sx
open Go.Proofs
end Go.Sx

namespace Go.Sx
open Go.Proofs
theorem lists_ok (a b : List (List UInt8)) (ha : a.length <= 1000000) (hb : b.length <= 1000000) : Fn Try.prog gl 35 [.sl none 1 (a.map bytesD),.sl none 1 (b.map bytesD)] (.bool (a == b)):=by
 refine Fn.of (n:=28) Try.func35 rfl rfl rfl (nU rfl) fun C hC hD=>?_
 refine W.seq ?_
 refine W.l0 1 [.y 4 _] [] [] [(0,_),(1,_)] [] 28 ⟨aU fun _ _ H _=>R.asg (kB false O) O H,Zt⟩ O O O O (tU O ?_)
 refine W.seq (W.seq ?_)
 refine W.l0 5 [.y 6 _,.y 7 _,.y 8 _,.y 9 _,.y 10 _] [] [] [(0,_),(1,_),(10,_)] [] 28 ⟨mU 0 O O,aU fun _ _ H K=>R.lenE (SC.sl (K 6 _ O)) (lN _) H,mU 1 O O,aU fun _ _ H K=>R.lenE (SC.sl (K 8 _ O)) (lN _) H,aU fun _ _ H K=>R.neqN (a.length) (b.length) (eU K 7 O) (eU K 9 O) H,Zt⟩ O O O O (tU O ?_)
 refine W.condD O (fun hc10=>?_) (fun hc10=>?_)
 · refine W.seq ?_
   refine W.l0 1 [.y 4 _] [] [] [(4,_)] [] 28 ⟨aU fun _ _ H _=>R.asg (kB false O) O H,Zt⟩ O O O O (tU O ?_)
   refine W.ret ?_
   exact Ends.one' (.inr O) O (congrArg D.bool (ls_f1 hc10).symm) O O Zt
 · refine W.skip (W.seq (W.seq ?_))
   refine W.l0 1 [.y 5 _] [] [] [(0,_),(1,_),(5,_)] [] 28 ⟨aU fun _ _ H _=>R.asg (kI 0 O) O H,Zt⟩ O O O O (tU O ?_)
   refine W.block ?_
   refine W.loop (α:={q__ : Nat // q__ <= a.length /\ ∀ j < q__,a[j]! = b[j]!}) (fun q__=>⟨28,[(0,.sl none 1 (a.map bytesD)),(1,.sl none 1 (b.map bytesD)),(5,.int ((q__.1 : Nat) : Int))],[]⟩) (fun q__=>a.length - q__.1) ⟨(0),⟨Nat.zero_le _,fun j h=>absurd h (Nat.not_lt_zero _)⟩⟩ O ?_
   rintro ⟨i,⟨hi,heq⟩⟩
   show W _ _ _ _ ⟨28,[(0,.sl none 1 (a.map bytesD)),(1,.sl none 1 (b.map bytesD)),(5,.int ((i : Nat) : Int))],[]⟩
   have hi : i <= a.length:=hi
   have hlen : a.length = b.length:=Decidable.not_not.1 hc10
   have heq : ∀ j < i,a[j]! = b[j]!:=heq
   refine W.seq (W.seq ?_)
   refine W.l0 4 [.y 11 _,.y 12 _,.y 13 _,.y 14 _] [] [] [(0,_),(1,_),(5,_),(14,_)] [] 28 ⟨mU 5 O O,mU 0 O O,aU fun _ _ H K=>R.lenE (SC.sl (K 12 _ O)) (lN _) H,aU fun _ _ H K=>R.lssN (i) (a.length) (eU K 11 O) (eU K 13 O) H,Zt⟩ O O O O (tU O ?_)
   refine W.condD O (fun hc14=>?_) (fun hc14=>?_)
   · refine W.skip (W.seq (W.block (W.seq ?_)))
     refine W.draw (m:=11) (an:=[0,0,3,7,15,0,0,96,224,480,1023]) hP dU O (its:=[.y 17 _,.y 18 _,.y 19 _,.y 20 _,.y 21 _,.y 22 _,.y 23 _,.y 24 _,.y 25 _,.y 26 _,.y 27 _]) (ks:=[]) (kk:=[]) (live:=[0,1,5,27]) (env':=[(0,_),(1,_),(5,_),(27,_)]) (⟨nU O,O,⟨mU 0 O O,mU 5 O O,aU fun _ _ H K=>R.idxN (i) (SC.sl (K 17 _ O)) (evoI (eU K 18 O)) O bU H dU,aU fun _ _ H K=>R.ldE (K 19 _ O) (SC.sl (K 17 _ O)) (map_get! (l:=a) bU) O O O O H,aU fun _ _ H K=>R.cvS (xs:=a[i]!) (SC.sl (K 20 _ O)) H,mU 1 O O,mU 5 O O,aU fun _ _ H K=>R.idxN (i) (SC.sl (K 22 _ O)) (evoI (eU K 23 O)) O bU H dU,aU fun _ _ H K=>R.ldE (K 24 _ O) (SC.sl (K 22 _ O)) (map_get! (l:=b) bU) O O O O H,aU fun _ _ H K=>R.cvS (xs:=b[i]!) (SC.sl (K 25 _ O)) H,aU fun _ _ H K=>R.bin (eU K 21 O) (eU K 26 O) O Zt H,Zt⟩,O,O,O⟩) O (bx':=[]) O (n':=28) O (tV [(0,_),(1,_),(5,_),(27,_)] [] 28 O O O ?_)
     refine W.cond O (fun hc27=>?_) (fun hc27=>?_)
     · refine W.seq ?_
       refine W.l0 1 [.y 4 _] [] [] [(4,_)] [] 28 ⟨aU fun _ _ H _=>R.asg (kB false O) O H,Zt⟩ O O O O (tU O ?_)
       refine W.ret ?_
       exact Ends.one' (.inr O) O (congrArg D.bool (ls_f2 hc14 (str_ne hc27)).symm) O O Zt
     · refine W.skip ?_
       refine W.l0 3 [.y 15 _,.y 16 _,.y 5 _] [] [] [(0,_),(1,_),(5,_)] [] 28 ⟨mU 5 O O,aU fun _ _ H K=>R.addN (i) (1) (eU K 15 O) (kI 1 O) bU H,aU fun _ _ H K=>R.asg (eU K 16 O) O H,Zt⟩ O O O O (tU O ?_)
       exact ⟨⟨(i + 1),⟨by omega,fun k hk=>(Nat.lt_succ_iff_lt_or_eq.1 hk).elim (heq k) (fun e=>by rw [e]; exact str_eq hc27)⟩⟩,rfl,(by simp only []; omega)⟩
   · obtain rfl : i = a.length:=by omega
     refine W.exit (W.seq ?_)
     refine W.l0 1 [.y 4 _] [] [] [(4,_)] [] 28 ⟨aU fun _ _ H _=>R.asg (kB true O) O H,Zt⟩ O O O O (tU O ?_)
     refine W.ret ?_
     exact Ends.one' (.inr O) O (congrArg D.bool (ls_t hlen heq).symm) O O Zt
end Go.Sx

namespace Go.Sx
open Go.Proofs
theorem rsame_ok (t u : TxS) (hwf : t.wf) (huf : u.wf) : Fn Try.prog gl 17 [txD t,txD u] (.bool (sameS t u)):=by
 refine Fn.of (n:=122) Try.func17 rfl rfl rfl (nU rfl) fun C hC hD=>?_
 have h1:=hwf.ins
 have h2:=hwf.outs
 have g1:=huf.ins
 have g2:=huf.outs
 refine W.seq ?_
 refine W.l0 3 [] [] [] [(0,_),(1,_)] [] 122 Zt O O O O (⟨O,_,R.box (gV 0 O) O O (nU O),⟨O,_,R.box (gV 1 O) O O (nU O),⟨O,_,R.asg (kB false O) O (nU O),tV [(2,_),(3,_)] [(3,.var _),(2,.var _)] 122 O O O ?_⟩⟩⟩)
 refine W.seq (W.seq ?_)
 by_cases k1 : t.ver ≠ u.ver
 · refine W.l0 30 (.y 9 _ :: .y 10 _ :: .y 11 _ :: .y 12 _ :: .y 13 _ :: .y 14 _ :: .x 15 :: .x 16 :: .x 17 :: .x 18 :: .x 19 :: .y 20 _ :: .y 21 _ :: .x 22 :: .x 23 :: .x 24 :: .x 25 :: .x 26 :: .x 27 :: .x 28 :: .y 29 _ :: .y 30 _ :: .x 31 :: .x 32 :: .x 33 :: .x 34 :: .x 35 :: .x 36 :: .x 37 :: .y 38 _ :: []) [] [] [(2,_),(3,_),(38,_)] [(3,.var _),(2,.var _)] 122 ⟨aU (fU 2 O O),aU (lU 9 O O O O O O O),aU (fU 3 O O),aU (lU 11 O O O O O O O),aU fun _ _ H K=>R.bin (eU K 10 O) (eU K 12 O) O Zt H,mU 13 O O,aF O O (gT (by simp [k1]) O),aF O O (gT (by simp [k1]) O),aF O O (gT (by simp [k1]) O),aF O O (gT (by simp [k1]) O),aF O O (gT (by simp [k1]) O),aU fun _ _ H K=>R.pickT (eU K 14 O) (by simp [k1]) (kB true O) O H,mU 20 O O,aF O O (gT (O) O),aF O O (gT (O) O),aF O O (gT (O) O),aF O O (gT (O) O),aF O O (gT (O) O),aF O O (gT (O) O),aF O O (gT (O) O),aU fun _ _ H K=>R.pickT (eU K 21 O) (O) (kB true O) O H,mU 29 O O,aF O O (gT (O) O),aF O O (gT (O) O),aF O O (gT (O) O),aF O O (gT (O) O),aF O O (gT (O) O),aF O O (gT (O) O),aF O O (gT (O) O),aU fun _ _ H K=>R.pickT (eU K 30 O) (O) (kB true O) O H,Zt⟩ O O O O (tU O ?_)
   refine W.condT O (O) ?_
   refine W.seq ?_
   refine W.l0 1 [.y 4 _] [] [] [(4,_)] [(3,.var _),(2,.var _)] 122 ⟨aU fun _ _ H _=>R.asg (kB false O) O H,Zt⟩ O O O O (tU O ?_)
   refine W.ret ?_
   exact Ends.one' (.inr O) O (by rw [sm_f1 k1]) O O Zt
 · by_cases k2 : t.lock ≠ u.lock
   · refine W.l0 30 (.y 9 _ :: .y 10 _ :: .y 11 _ :: .y 12 _ :: .y 13 _ :: .y 14 _ :: .y 15 _ :: .y 16 _ :: .y 17 _ :: .y 18 _ :: .y 19 _ :: .y 20 _ :: .y 21 _ :: .x 22 :: .x 23 :: .x 24 :: .x 25 :: .x 26 :: .x 27 :: .x 28 :: .y 29 _ :: .y 30 _ :: .x 31 :: .x 32 :: .x 33 :: .x 34 :: .x 35 :: .x 36 :: .x 37 :: .y 38 _ :: []) [] [] [(2,_),(3,_),(38,_)] [(3,.var _),(2,.var _)] 122 ⟨aU (fU 2 O O),aU (lU 9 O O O O O O O),aU (fU 3 O O),aU (lU 11 O O O O O O O),aU fun _ _ H K=>R.bin (eU K 10 O) (eU K 12 O) O Zt H,mU 13 O O,aW O O (gF (by simpa using k1) O) (fU 2 O O),aW O O (gF (by simpa using k1) O) (lU 15 O O O O O O O),aW O O (gF (by simpa using k1) O) (fU 3 O O),aW O O (gF (by simpa using k1) O) (lU 17 O O O O O O O),aW O O (gF (by simpa using k1) O) fun _ _ H K=>R.bin (eU K 16 O) (eU K 18 O) O Zt H,aU fun _ _ H K=>R.pickF (eU K 14 O) (by simpa using k1) (eU K 19 O) O H,mU 20 O O,aF O O (gT (by simp [k2]) O),aF O O (gT (by simp [k2]) O),aF O O (gT (by simp [k2]) O),aF O O (gT (by simp [k2]) O),aF O O (gT (by simp [k2]) O),aF O O (gT (by simp [k2]) O),aF O O (gT (by simp [k2]) O),aU fun _ _ H K=>R.pickT (eU K 21 O) (by simp [k2]) (kB true O) O H,mU 29 O O,aF O O (gT (O) O),aF O O (gT (O) O),aF O O (gT (O) O),aF O O (gT (O) O),aF O O (gT (O) O),aF O O (gT (O) O),aF O O (gT (O) O),aU fun _ _ H K=>R.pickT (eU K 30 O) (O) (kB true O) O H,Zt⟩ O O O O (tU O ?_)
     refine W.condT O (O) ?_
     refine W.seq ?_
     refine W.l0 1 [.y 4 _] [] [] [(4,_)] [(3,.var _),(2,.var _)] 122 ⟨aU fun _ _ H _=>R.asg (kB false O) O H,Zt⟩ O O O O (tU O ?_)
     refine W.ret ?_
     exact Ends.one' (.inr O) O (by rw [sm_f2 k2]) O O Zt
   · by_cases k3 : t.ins.length ≠ u.ins.length
     · refine W.l0 30 (.y 9 _ :: .y 10 _ :: .y 11 _ :: .y 12 _ :: .y 13 _ :: .y 14 _ :: .y 15 _ :: .y 16 _ :: .y 17 _ :: .y 18 _ :: .y 19 _ :: .y 20 _ :: .y 21 _ :: .y 22 _ :: .y 23 _ :: .y 24 _ :: .y 25 _ :: .y 26 _ :: .y 27 _ :: .y 28 _ :: .y 29 _ :: .y 30 _ :: .x 31 :: .x 32 :: .x 33 :: .x 34 :: .x 35 :: .x 36 :: .x 37 :: .y 38 _ :: []) [] [] [(2,_),(3,_),(38,_)] [(3,.var _),(2,.var _)] 122 ⟨aU (fU 2 O O),aU (lU 9 O O O O O O O),aU (fU 3 O O),aU (lU 11 O O O O O O O),aU fun _ _ H K=>R.bin (eU K 10 O) (eU K 12 O) O Zt H,mU 13 O O,aW O O (gF (by simpa using k1) O) (fU 2 O O),aW O O (gF (by simpa using k1) O) (lU 15 O O O O O O O),aW O O (gF (by simpa using k1) O) (fU 3 O O),aW O O (gF (by simpa using k1) O) (lU 17 O O O O O O O),aW O O (gF (by simpa using k1) O) fun _ _ H K=>R.bin (eU K 16 O) (eU K 18 O) O Zt H,aU fun _ _ H K=>R.pickF (eU K 14 O) (by simpa using k1) (eU K 19 O) O H,mU 20 O O,aW O O (gF (by simpa using k2) O) (fU 2 O O),aW O O (gF (by simpa using k2) O) (lU 22 O O O O O O O),aW O O (gF (by simpa using k2) O) fun _ _ H K=>R.lenE (SC.sl (K 23 _ O)) (lN _) H,aW O O (gF (by simpa using k2) O) (fU 3 O O),aW O O (gF (by simpa using k2) O) (lU 25 O O O O O O O),aW O O (gF (by simpa using k2) O) fun _ _ H K=>R.lenE (SC.sl (K 26 _ O)) (lN _) H,aW O O (gF (by simpa using k2) O) fun _ _ H K=>R.neqN (t.ins.length) (u.ins.length) (eU K 24 O) (eU K 27 O) H,aU fun _ _ H K=>R.pickF (eU K 21 O) (by simpa using k2) (eU K 28 O) O H,mU 29 O O,aF O O (gT (by simp [k3]) O),aF O O (gT (by simp [k3]) O),aF O O (gT (by simp [k3]) O),aF O O (gT (by simp [k3]) O),aF O O (gT (by simp [k3]) O),aF O O (gT (by simp [k3]) O),aF O O (gT (by simp [k3]) O),aU fun _ _ H K=>R.pickT (eU K 30 O) (by simp [k3]) (kB true O) O H,Zt⟩ O O O O (tU O ?_)
       refine W.condT O (O) ?_
       refine W.seq ?_
       refine W.l0 1 [.y 4 _] [] [] [(4,_)] [(3,.var _),(2,.var _)] 122 ⟨aU fun _ _ H _=>R.asg (kB false O) O H,Zt⟩ O O O O (tU O ?_)
       refine W.ret ?_
       exact Ends.one' (.inr O) O (by rw [sm_f3 k3]) O O Zt
     · refine W.l0 30 (.y 9 _ :: .y 10 _ :: .y 11 _ :: .y 12 _ :: .y 13 _ :: .y 14 _ :: .y 15 _ :: .y 16 _ :: .y 17 _ :: .y 18 _ :: .y 19 _ :: .y 20 _ :: .y 21 _ :: .y 22 _ :: .y 23 _ :: .y 24 _ :: .y 25 _ :: .y 26 _ :: .y 27 _ :: .y 28 _ :: .y 29 _ :: .y 30 _ :: .y 31 _ :: .y 32 _ :: .y 33 _ :: .y 34 _ :: .y 35 _ :: .y 36 _ :: .y 37 _ :: .y 38 _ :: []) [] [] [(2,_),(3,_),(38,_)] [(3,.var _),(2,.var _)] 122 ⟨aU (fU 2 O O),aU (lU 9 O O O O O O O),aU (fU 3 O O),aU (lU 11 O O O O O O O),aU fun _ _ H K=>R.bin (eU K 10 O) (eU K 12 O) O Zt H,mU 13 O O,aW O O (gF (by simpa using k1) O) (fU 2 O O),aW O O (gF (by simpa using k1) O) (lU 15 O O O O O O O),aW O O (gF (by simpa using k1) O) (fU 3 O O),aW O O (gF (by simpa using k1) O) (lU 17 O O O O O O O),aW O O (gF (by simpa using k1) O) fun _ _ H K=>R.bin (eU K 16 O) (eU K 18 O) O Zt H,aU fun _ _ H K=>R.pickF (eU K 14 O) (by simpa using k1) (eU K 19 O) O H,mU 20 O O,aW O O (gF (by simpa using k2) O) (fU 2 O O),aW O O (gF (by simpa using k2) O) (lU 22 O O O O O O O),aW O O (gF (by simpa using k2) O) fun _ _ H K=>R.lenE (SC.sl (K 23 _ O)) (lN _) H,aW O O (gF (by simpa using k2) O) (fU 3 O O),aW O O (gF (by simpa using k2) O) (lU 25 O O O O O O O),aW O O (gF (by simpa using k2) O) fun _ _ H K=>R.lenE (SC.sl (K 26 _ O)) (lN _) H,aW O O (gF (by simpa using k2) O) fun _ _ H K=>R.neqN (t.ins.length) (u.ins.length) (eU K 24 O) (eU K 27 O) H,aU fun _ _ H K=>R.pickF (eU K 21 O) (by simpa using k2) (eU K 28 O) O H,mU 29 O O,aW O O (gF (by simpa using k3) O) (fU 2 O O),aW O O (gF (by simpa using k3) O) (lU 31 O O O O O O O),aW O O (gF (by simpa using k3) O) fun _ _ H K=>R.lenE (SC.sl (K 32 _ O)) (lN _) H,aW O O (gF (by simpa using k3) O) (fU 3 O O),aW O O (gF (by simpa using k3) O) (lU 34 O O O O O O O),aW O O (gF (by simpa using k3) O) fun _ _ H K=>R.lenE (SC.sl (K 35 _ O)) (lN _) H,aW O O (gF (by simpa using k3) O) fun _ _ H K=>R.neqN (t.outs.length) (u.outs.length) (eU K 33 O) (eU K 36 O) H,aU fun _ _ H K=>R.pickF (eU K 30 O) (by simpa using k3) (eU K 37 O) O H,Zt⟩ O O O O (tU O ?_)
       refine W.condD O (fun hc38=>?_) (fun hc38=>?_)
       · refine W.seq ?_
         refine W.l0 1 [.y 4 _] [] [] [(4,_)] [(3,.var _),(2,.var _)] 122 ⟨aU fun _ _ H _=>R.asg (kB false O) O H,Zt⟩ O O O O (tU O ?_)
         refine W.ret ?_
         exact Ends.one' (.inr O) O (by rw [sm_f4 hc38]) O O Zt
       · refine W.skip (W.seq (W.seq ?_))
         refine W.l0 1 [.y 5 _] [] [] [(2,_),(3,_),(5,_)] [(3,.var _),(2,.var _)] 122 ⟨aU fun _ _ H _=>R.asg (kI 0 O) O H,Zt⟩ O O O O (tU O ?_)
         refine W.block ?_
         refine W.loop (α:={q__ : Nat // q__ <= t.ins.length /\ ∀ j < q__,eqIn t.ins[j]! u.ins[j]! = true}) (fun q__=>⟨122,[(2,.ptr 2 0 []),(3,.ptr 3 0 []),(5,.int ((q__.1 : Nat) : Int))],[(3,.var (.agg [.u32 u.ver,.sl none 36 (u.ins.map inD),.sl none 2 (u.outs.map outD),.u32 u.lock])),(2,.var (.agg [.u32 t.ver,.sl none 36 (t.ins.map inD),.sl none 2 (t.outs.map outD),.u32 t.lock]))]⟩) (fun q__=>t.ins.length - q__.1) ⟨(0),⟨Nat.zero_le _,fun j h=>absurd h (Nat.not_lt_zero _)⟩⟩ O ?_
         rintro ⟨i,⟨hi,hp⟩⟩
         show W _ _ _ _ ⟨122,[(2,.ptr 2 0 []),(3,.ptr 3 0 []),(5,.int ((i : Nat) : Int))],[(3,.var (.agg [.u32 u.ver,.sl none 36 (u.ins.map inD),.sl none 2 (u.outs.map outD),.u32 u.lock])),(2,.var (.agg [.u32 t.ver,.sl none 36 (t.ins.map inD),.sl none 2 (t.outs.map outD),.u32 t.lock]))]⟩
         have hi : i <= t.ins.length:=hi
         have hp : ∀ j < i,eqIn t.ins[j]! u.ins[j]! = true:=hp
         have hl : t.ins.length = u.ins.length:=Classical.byContradiction k3
         have hol : t.outs.length = u.outs.length:=Classical.byContradiction hc38
         refine W.seq (W.seq ?_)
         refine W.l0 5 [.y 39 _,.y 40 _,.y 41 _,.y 42 _,.y 43 _] [] [] [(2,_),(3,_),(5,_),(43,_)] [(3,.var _),(2,.var _)] 122 ⟨mU 5 O O,aU (fU 2 O O),aU (lU 40 O O O O O O O),aU fun _ _ H K=>R.lenE (SC.sl (K 41 _ O)) (lN _) H,aU fun _ _ H K=>R.lssN (i) (t.ins.length) (eU K 39 O) (eU K 42 O) H,Zt⟩ O O O O (tU O ?_)
         refine W.condD O (fun hc43=>?_) (fun hc43=>?_)
         · refine W.skip (W.seq (W.block (W.seq ?_)))
           refine W.drawE (m:=13) (an:=[0,1,0,7,15,0,32,0,224,480,0,0,3103,8191]) (its:=[.y 46 _,.y 47 _,.y 48 _,.y 49 _,.y 50 _,.y 51 _,.y 52 _,.y 53 _,.y 54 _,.y 55 _,.y 6 _,.y 7 _,⟨134,.dead,true⟩]) (ks:=[(12,134)]) (kk:=[]) (efs:=[(10,[(6,.var _)]),(11,[(7,.var _)]),(12,[(6,.var _)])]) (live:=[2,3,5,6,7,55]) (env':=[(2,_),(3,_),(5,_),(6,_),(7,_),(55,_)]) (nd:=40) (bx1:=[(6,.var _),(7,.var _),(3,.var _),(2,.var _)]) hP dU O ⟨⟨141,O⟩,nU O,O,O,O,O⟩ (                ⟨⟨O,nU O,O,fun _ τ hb ht hτ=>R.fdP (hτ 2 _ O) ht⟩,⟨⟨O,nU O,O,fun _ τ hb ht hτ=>R.ldP (hτ 46 _ O) (hb 2 _ O) O O O O ht⟩,⟨⟨O,nU O,O,fun _ τ hb ht hτ=>R.mov (evt (hτ 5 _ O)) O ht⟩,⟨⟨O,nU O,O,fun _ τ hb ht hτ=>R.idxN (i) (SC.sl (hτ 47 _ O)) (evoI (evt (hτ 48 _ O))) O bU ht dU⟩,⟨⟨O,nU O,O,fun _ τ hb ht hτ=>R.ldE (hτ 49 _ O) (SC.sl (hτ 47 _ O)) (map_get! (l:=t.ins) bU) O O O O ht⟩,⟨⟨O,nU O,O,fun _ τ hb ht hτ=>R.fdP (hτ 3 _ O) ht⟩,⟨⟨O,nU O,O,fun _ τ hb ht hτ=>R.ldP (hτ 51 _ O) (hb 3 _ O) O O O O ht⟩,⟨⟨O,nU O,O,fun _ τ hb ht hτ=>R.mov (evt (hτ 5 _ O)) O ht⟩,⟨⟨O,nU O,O,fun _ τ hb ht hτ=>R.idxN (i) (SC.sl (hτ 52 _ O)) (evoI (evt (hτ 53 _ O))) O bU ht dU⟩,⟨⟨O,nU O,O,fun _ τ hb ht hτ=>R.ldE (hτ 54 _ O) (SC.sl (hτ 52 _ O)) (map_get! (l:=u.ins) bU) O O O O ht⟩,⟨⟨O,O,⟨O,nU O⟩,(SpE.alloc O (nU O))⟩,⟨⟨O,O,⟨O,nU O⟩,(SpE.alloc O (nU O))⟩,⟨⟨O,O,O,(SpE.st (p:=6) (id:=6) O O O (fun τ hτ=>(evt (hτ 50 _ O))) (by rfl) (by rfl) (by rfl) (by rfl) O)⟩,Zt⟩⟩⟩⟩⟩⟩⟩⟩⟩⟩⟩⟩⟩) O O O (n':=122) O (⟨O,_,R.stZ (gU 7 O) (xU 7 O) O (gV 55 O) (by rfl) (by rfl) (by rfl) (by rfl) O,⟨[2,3,5,6,7],[(2,_),(3,_),(5,_),(6,_),(7,_)],[(6,.var _),(7,.var _),(3,.var _),(2,.var _)],122,O,O,O, ?_⟩⟩)
           refine W.seq ?_
           by_cases e1 : plc t.ins[i]! ≠ plc u.ins[i]!
           · refine W.l0 29 (.y 56 _ :: .y 57 _ :: .y 58 _ :: .y 59 _ :: .y 60 _ :: .y 61 _ :: .x 62 :: .x 63 :: .x 64 :: .x 65 :: .x 66 :: .x 67 :: .x 68 :: .y 69 _ :: .y 70 _ :: .x 71 :: .x 72 :: .x 73 :: .x 74 :: .x 75 :: .y 76 _ :: .y 77 _ :: .x 78 :: .x 79 :: .x 80 :: .x 81 :: .x 82 :: .x 83 :: .y 84 _ :: []) [] [] [(2,_),(3,_),(5,_),(84,_)] [(6,.var _),(7,.var _),(3,.var _),(2,.var _)] 122 ⟨aU (fU 6 O O),aU (lU 56 O O O O O O O),aU (fU 7 O O),aU (lU 58 O O O O O O O),aU fun _ _ H K=>R.eqD (neg:=true) (b':=(!(plc t.ins[i]! == plc u.ins[i]!))) (eqv_place (plc t.ins[i]!) (plc u.ins[i]!)) O (eU K 57 O) (eU K 59 O) O O O O (O) H,mU 60 O O,aF O O (gT (nq_t e1) O),aF O O (gT (nq_t e1) O),aF O O (gT (nq_t e1) O),aF O O (gT (nq_t e1) O),aF O O (gT (nq_t e1) O),aF O O (gT (nq_t e1) O),aF O O (gT (nq_t e1) O),aU fun _ _ H K=>R.pickT (eU K 61 O) (nq_t e1) (kB true O) O H,mU 69 O O,aF O O (gT (O) O),aF O O (gT (O) O),aF O O (gT (O) O),aF O O (gT (O) O),aF O O (gT (O) O),aU fun _ _ H K=>R.pickT (eU K 70 O) (O) (kB true O) O H,mU 76 O O,aF O O (gT (O) O),aF O O (gT (O) O),aF O O (gT (O) O),aF O O (gT (O) O),aF O O (gT (O) O),aF O O (gT (O) O),aU fun _ _ H K=>R.pickT (eU K 77 O) (O) (kB true O) O H,Zt⟩ O O O O (tU O ?_)
             refine W.condT O (O) ?_
             refine W.seq ?_
             refine W.dropB [2,3] (bx':=[(3,.var _),(2,.var _)]) O O O (pin_sub hD O) ?_
             refine W.l0 1 [.y 4 _] [] [] [(4,_)] [(3,.var _),(2,.var _)] 122 ⟨aU fun _ _ H _=>R.asg (kB false O) O H,Zt⟩ O O O O (tU O ?_)
             refine W.ret ?_
             exact Ends.one' (.inr O) O (by rw [sm_fi hl (by omega) (ei_f1 e1)]) O O Zt
           · by_cases e2 : t.ins[i]!.script ≠ u.ins[i]!.script
             · refine W.l0 29 (.y 56 _ :: .y 57 _ :: .y 58 _ :: .y 59 _ :: .y 60 _ :: .y 61 _ :: .y 62 _ :: .y 63 _ :: .y 64 _ :: .y 65 _ :: .y 66 _ :: .y 67 _ :: .y 68 _ :: .y 69 _ :: .y 70 _ :: .x 71 :: .x 72 :: .x 73 :: .x 74 :: .x 75 :: .y 76 _ :: .y 77 _ :: .x 78 :: .x 79 :: .x 80 :: .x 81 :: .x 82 :: .x 83 :: .y 84 _ :: []) [] [] [(2,_),(3,_),(5,_),(84,_)] [(6,.var _),(7,.var _),(3,.var _),(2,.var _)] 122 ⟨aU (fU 6 O O),aU (lU 56 O O O O O O O),aU (fU 7 O O),aU (lU 58 O O O O O O O),aU fun _ _ H K=>R.eqD (neg:=true) (b':=(!(plc t.ins[i]! == plc u.ins[i]!))) (eqv_place (plc t.ins[i]!) (plc u.ins[i]!)) O (eU K 57 O) (eU K 59 O) O O O O (O) H,mU 60 O O,aW O O (gF (nq_f e1) O) (fU 6 O O),aW O O (gF (nq_f e1) O) (lU 62 O O O O O O O),aW O O (gF (nq_f e1) O) fun _ _ H K=>R.cvS (xs:=t.ins[i]!.script) (SC.sl (K 63 _ O)) H,aW O O (gF (nq_f e1) O) (fU 7 O O),aW O O (gF (nq_f e1) O) (lU 65 O O O O O O O),aW O O (gF (nq_f e1) O) fun _ _ H K=>R.cvS (xs:=u.ins[i]!.script) (SC.sl (K 66 _ O)) H,aW O O (gF (nq_f e1) O) fun _ _ H K=>R.bin (eU K 64 O) (eU K 67 O) O Zt H,aU fun _ _ H K=>R.pickF (eU K 61 O) (nq_f e1) (eU K 68 O) O H,mU 69 O O,aF O O (gT (nq_t e2) O),aF O O (gT (nq_t e2) O),aF O O (gT (nq_t e2) O),aF O O (gT (nq_t e2) O),aF O O (gT (nq_t e2) O),aU fun _ _ H K=>R.pickT (eU K 70 O) (nq_t e2) (kB true O) O H,mU 76 O O,aF O O (gT (O) O),aF O O (gT (O) O),aF O O (gT (O) O),aF O O (gT (O) O),aF O O (gT (O) O),aF O O (gT (O) O),aU fun _ _ H K=>R.pickT (eU K 77 O) (O) (kB true O) O H,Zt⟩ O O O O (tU O ?_)
               refine W.condT O (O) ?_
               refine W.seq ?_
               refine W.dropB [2,3] (bx':=[(3,.var _),(2,.var _)]) O O O (pin_sub hD O) ?_
               refine W.l0 1 [.y 4 _] [] [] [(4,_)] [(3,.var _),(2,.var _)] 122 ⟨aU fun _ _ H _=>R.asg (kB false O) O H,Zt⟩ O O O O (tU O ?_)
               refine W.ret ?_
               exact Ends.one' (.inr O) O (by rw [sm_fi hl (by omega) (ei_f2 e2)]) O O Zt
             · by_cases e3 : t.ins[i]!.seq ≠ u.ins[i]!.seq
               · refine W.l0 29 (.y 56 _ :: .y 57 _ :: .y 58 _ :: .y 59 _ :: .y 60 _ :: .y 61 _ :: .y 62 _ :: .y 63 _ :: .y 64 _ :: .y 65 _ :: .y 66 _ :: .y 67 _ :: .y 68 _ :: .y 69 _ :: .y 70 _ :: .y 71 _ :: .y 72 _ :: .y 73 _ :: .y 74 _ :: .y 75 _ :: .y 76 _ :: .y 77 _ :: .x 78 :: .x 79 :: .x 80 :: .x 81 :: .x 82 :: .x 83 :: .y 84 _ :: []) [] [] [(2,_),(3,_),(5,_),(84,_)] [(6,.var _),(7,.var _),(3,.var _),(2,.var _)] 122 ⟨aU (fU 6 O O),aU (lU 56 O O O O O O O),aU (fU 7 O O),aU (lU 58 O O O O O O O),aU fun _ _ H K=>R.eqD (neg:=true) (b':=(!(plc t.ins[i]! == plc u.ins[i]!))) (eqv_place (plc t.ins[i]!) (plc u.ins[i]!)) O (eU K 57 O) (eU K 59 O) O O O O (O) H,mU 60 O O,aW O O (gF (nq_f e1) O) (fU 6 O O),aW O O (gF (nq_f e1) O) (lU 62 O O O O O O O),aW O O (gF (nq_f e1) O) fun _ _ H K=>R.cvS (xs:=t.ins[i]!.script) (SC.sl (K 63 _ O)) H,aW O O (gF (nq_f e1) O) (fU 7 O O),aW O O (gF (nq_f e1) O) (lU 65 O O O O O O O),aW O O (gF (nq_f e1) O) fun _ _ H K=>R.cvS (xs:=u.ins[i]!.script) (SC.sl (K 66 _ O)) H,aW O O (gF (nq_f e1) O) fun _ _ H K=>R.bin (eU K 64 O) (eU K 67 O) O Zt H,aU fun _ _ H K=>R.pickF (eU K 61 O) (nq_f e1) (eU K 68 O) O H,mU 69 O O,aW O O (gF (nq_f e2) O) (fU 6 O O),aW O O (gF (nq_f e2) O) (lU 71 O O O O O O O),aW O O (gF (nq_f e2) O) (fU 7 O O),aW O O (gF (nq_f e2) O) (lU 73 O O O O O O O),aW O O (gF (nq_f e2) O) fun _ _ H K=>R.bin (eU K 72 O) (eU K 74 O) O Zt H,aU fun _ _ H K=>R.pickF (eU K 70 O) (nq_f e2) (eU K 75 O) O H,mU 76 O O,aF O O (gT (nq_t e3) O),aF O O (gT (nq_t e3) O),aF O O (gT (nq_t e3) O),aF O O (gT (nq_t e3) O),aF O O (gT (nq_t e3) O),aF O O (gT (nq_t e3) O),aU fun _ _ H K=>R.pickT (eU K 77 O) (nq_t e3) (kB true O) O H,Zt⟩ O O O O (tU O ?_)
                 refine W.condT O (O) ?_
                 refine W.seq ?_
                 refine W.dropB [2,3] (bx':=[(3,.var _),(2,.var _)]) O O O (pin_sub hD O) ?_
                 refine W.l0 1 [.y 4 _] [] [] [(4,_)] [(3,.var _),(2,.var _)] 122 ⟨aU fun _ _ H _=>R.asg (kB false O) O H,Zt⟩ O O O O (tU O ?_)
                 refine W.ret ?_
                 exact Ends.one' (.inr O) O (by rw [sm_fi hl (by omega) (ei_f3 e3)]) O O Zt
               · refine W.l0 29 (.y 56 _ :: .y 57 _ :: .y 58 _ :: .y 59 _ :: .y 60 _ :: .y 61 _ :: .y 62 _ :: .y 63 _ :: .y 64 _ :: .y 65 _ :: .y 66 _ :: .y 67 _ :: .y 68 _ :: .y 69 _ :: .y 70 _ :: .y 71 _ :: .y 72 _ :: .y 73 _ :: .y 74 _ :: .y 75 _ :: .y 76 _ :: .y 77 _ :: .y 78 _ :: .y 79 _ :: .y 80 _ :: .y 81 _ :: .y 82 _ :: .y 83 _ :: .y 84 _ :: []) [] [] [(2,_),(3,_),(5,_),(84,_)] [(6,.var _),(7,.var _),(3,.var _),(2,.var _)] 122 ⟨aU (fU 6 O O),aU (lU 56 O O O O O O O),aU (fU 7 O O),aU (lU 58 O O O O O O O),aU fun _ _ H K=>R.eqD (neg:=true) (b':=(!(plc t.ins[i]! == plc u.ins[i]!))) (eqv_place (plc t.ins[i]!) (plc u.ins[i]!)) O (eU K 57 O) (eU K 59 O) O O O O (O) H,mU 60 O O,aW O O (gF (nq_f e1) O) (fU 6 O O),aW O O (gF (nq_f e1) O) (lU 62 O O O O O O O),aW O O (gF (nq_f e1) O) fun _ _ H K=>R.cvS (xs:=t.ins[i]!.script) (SC.sl (K 63 _ O)) H,aW O O (gF (nq_f e1) O) (fU 7 O O),aW O O (gF (nq_f e1) O) (lU 65 O O O O O O O),aW O O (gF (nq_f e1) O) fun _ _ H K=>R.cvS (xs:=u.ins[i]!.script) (SC.sl (K 66 _ O)) H,aW O O (gF (nq_f e1) O) fun _ _ H K=>R.bin (eU K 64 O) (eU K 67 O) O Zt H,aU fun _ _ H K=>R.pickF (eU K 61 O) (nq_f e1) (eU K 68 O) O H,mU 69 O O,aW O O (gF (nq_f e2) O) (fU 6 O O),aW O O (gF (nq_f e2) O) (lU 71 O O O O O O O),aW O O (gF (nq_f e2) O) (fU 7 O O),aW O O (gF (nq_f e2) O) (lU 73 O O O O O O O),aW O O (gF (nq_f e2) O) fun _ _ H K=>R.bin (eU K 72 O) (eU K 74 O) O Zt H,aU fun _ _ H K=>R.pickF (eU K 70 O) (nq_f e2) (eU K 75 O) O H,mU 76 O O,aW O O (gF (nq_f e3) O) (fU 6 O O),aW O O (gF (nq_f e3) O) (lU 78 O O O O O O O),aW O O (gF (nq_f e3) O) (fU 7 O O),aW O O (gF (nq_f e3) O) (lU 80 O O O O O O O),aW O O (gF (nq_f e3) O) fun _ _ H K=>R.callG hC (lists_ok t.ins[i]!.wit u.ins[i]!.wit (hwf.witl _ (get_mem (by omega))).1 (huf.witl _ (get_mem (by omega))).1) (Bc (Bp (eU K 79 O) O O) (Bc (Bp (eU K 81 O) O O) Bn)) (FrsR.one (.bool _)) H,aW O O (gF (nq_f e3) O) fun _ _ H K=>R.un (eU K 82 O) O H,aU fun _ _ H K=>R.pickF (eU K 77 O) (nq_f e3) (eU K 83 O) O H,Zt⟩ O O O O (tU O ?_)
                 refine W.cond O (fun hc84=>?_) (fun hc84=>?_)
                 · refine W.seq ?_
                   refine W.dropB [2,3] (bx':=[(3,.var _),(2,.var _)]) O O O (pin_sub hD O) ?_
                   refine W.l0 1 [.y 4 _] [] [] [(4,_)] [(3,.var _),(2,.var _)] 122 ⟨aU fun _ _ H _=>R.asg (kB false O) O H,Zt⟩ O O O O (tU O ?_)
                   refine W.ret ?_
                   exact Ends.one' (.inr O) O (by rw [sm_fi hl (by omega) (ei_f4 hc84)]) O O Zt
                 · refine W.skip ?_
                   refine W.dropB [2,3] (bx':=[(3,.var _),(2,.var _)]) O O O (pin_sub hD O) ?_
                   refine W.l0 3 [.y 44 _,.y 45 _,.y 5 _] [] [] [(2,_),(3,_),(5,_)] [(3,.var _),(2,.var _)] 122 ⟨mU 5 O O,aU fun _ _ H K=>R.addN (i) (1) (eU K 44 O) (kI 1 O) bU H,aU fun _ _ H K=>R.asg (eU K 45 O) O H,Zt⟩ O O O O (tU O ?_)
                   exact ⟨⟨(i + 1),⟨by omega,ext_i hp (ei_t e1 e2 e3 hc84)⟩⟩,rfl,(by simp only []; omega)⟩
         · obtain rfl : i = t.ins.length:=by omega
           refine W.exit (W.seq (W.seq ?_))
           refine W.l0 1 [.y 8 _] [] [] [(2,_),(3,_),(8,_)] [(3,.var _),(2,.var _)] 122 ⟨aU fun _ _ H _=>R.asg (kI 0 O) O H,Zt⟩ O O O O (tU O ?_)
           refine W.block ?_
           refine W.loop (α:={q__ : Nat // q__ <= t.outs.length /\ ∀ j < q__,eqOut t.outs[j]! u.outs[j]! = true}) (fun q__=>⟨122,[(2,.ptr 2 0 []),(3,.ptr 3 0 []),(8,.int ((q__.1 : Nat) : Int))],[(3,.var (.agg [.u32 u.ver,.sl none 36 (u.ins.map inD),.sl none 2 (u.outs.map outD),.u32 u.lock])),(2,.var (.agg [.u32 t.ver,.sl none 36 (t.ins.map inD),.sl none 2 (t.outs.map outD),.u32 t.lock]))]⟩) (fun q__=>t.outs.length - q__.1) ⟨(0),⟨Nat.zero_le _,fun j h=>absurd h (Nat.not_lt_zero _)⟩⟩ O ?_
           rintro ⟨i,⟨hi2,hp2⟩⟩
           show W _ _ _ _ ⟨122,[(2,.ptr 2 0 []),(3,.ptr 3 0 []),(8,.int ((i : Nat) : Int))],[(3,.var (.agg [.u32 u.ver,.sl none 36 (u.ins.map inD),.sl none 2 (u.outs.map outD),.u32 u.lock])),(2,.var (.agg [.u32 t.ver,.sl none 36 (t.ins.map inD),.sl none 2 (t.outs.map outD),.u32 t.lock]))]⟩
           have hi2 : i <= t.outs.length:=hi2
           have hp2 : ∀ j < i,eqOut t.outs[j]! u.outs[j]! = true:=hp2
           refine W.seq (W.seq ?_)
           refine W.l0 5 [.y 85 _,.y 86 _,.y 87 _,.y 88 _,.y 89 _] [] [] [(2,_),(3,_),(8,_),(89,_)] [(3,.var _),(2,.var _)] 122 ⟨mU 8 O O,aU (fU 2 O O),aU (lU 86 O O O O O O O),aU fun _ _ H K=>R.lenE (SC.sl (K 87 _ O)) (lN _) H,aU fun _ _ H K=>R.lssN (i) (t.outs.length) (eU K 85 O) (eU K 88 O) H,Zt⟩ O O O O (tU O ?_)
           refine W.condD O (fun hc89=>?_) (fun hc89=>?_)
           · refine W.skip (W.seq (W.block (W.seq ?_)))
             by_cases o1 : t.outs[i]!.value ≠ u.outs[i]!.value
             · refine W.draw (m:=30) (an:=(0 :: 1 :: 0 :: 7 :: 15 :: 31 :: 0 :: 64 :: 0 :: 448 :: 960 :: 1984 :: 4095 :: 8191 :: 16383 :: 32767 :: 16383 :: 131071 :: 262143 :: 524287 :: 1048575 :: 16383 :: 2113535 :: 16383 :: 14696447 :: 31473663 :: 65028095 :: 132136959 :: 268435455 :: 536870911 :: [])) hP dU O (its:=(.y 92 _ :: .y 93 _ :: .y 94 _ :: .y 95 _ :: .y 96 _ :: .y 97 _ :: .y 98 _ :: .y 99 _ :: .y 100 _ :: .y 101 _ :: .y 102 _ :: .y 103 _ :: .y 104 _ :: .y 105 _ :: .x 106 :: .x 107 :: .x 108 :: .x 109 :: .x 110 :: .x 111 :: .x 112 :: .x 113 :: .x 114 :: .x 115 :: .x 116 :: .x 117 :: .x 118 :: .x 119 :: .x 120 :: .y 121 _ :: [])) (ks:=[]) (kk:=[]) (live:=[2,3,8,121]) (env':=[(2,_),(3,_),(8,_),(121,_)]) (⟨nU O,O,⟨aU (fU 2 O O),aU (lU 92 O O O O O O O),mU 8 O O,aU fun _ _ H K=>R.idxN (i) (SC.sl (K 93 _ O)) (evoI (eU K 94 O)) O bU H dU,aU fun _ _ H K=>R.fdE (K 95 _ O) H dU,aU fun _ _ H K=>R.ldE (K 96 _ O) (SC.sl (K 93 _ O)) (map_get! (l:=t.outs) bU) O O O O H,aU (fU 3 O O),aU (lU 98 O O O O O O O),mU 8 O O,aU fun _ _ H K=>R.idxN (i) (SC.sl (K 99 _ O)) (evoI (eU K 100 O)) O bU H dU,aU fun _ _ H K=>R.fdE (K 101 _ O) H dU,aU fun _ _ H K=>R.ldE (K 102 _ O) (SC.sl (K 99 _ O)) (map_get! (l:=u.outs) bU) O O O O H,aU fun _ _ H K=>R.bin (eU K 97 O) (eU K 103 O) O Zt H,mU 104 O O,aF O O (gT (nq_t o1) O),aF O O (gT (nq_t o1) O),aF O O (gT (nq_t o1) O),aF O O (gT (nq_t o1) O),aF O O (gT (nq_t o1) O),aF O O (gT (nq_t o1) O),aF O O (gT (nq_t o1) O),aF O O (gT (nq_t o1) O),aF O O (gT (nq_t o1) O),aF O O (gT (nq_t o1) O),aF O O (gT (nq_t o1) O),aF O O (gT (nq_t o1) O),aF O O (gT (nq_t o1) O),aF O O (gT (nq_t o1) O),aF O O (gT (nq_t o1) O),aU fun _ _ H K=>R.pickT (eU K 105 O) (nq_t o1) (kB true O) O H,Zt⟩,O,O,O⟩) O (bx':=[(3,.var _),(2,.var _)]) O (n':=122) O (tV [(2,_),(3,_),(8,_),(121,_)] [(3,.var _),(2,.var _)] 122 O O O ?_)
               refine W.condT O (O) ?_
               refine W.seq ?_
               refine W.l0 1 [.y 4 _] [] [] [(4,_)] [(3,.var _),(2,.var _)] 122 ⟨aU fun _ _ H _=>R.asg (kB false O) O H,Zt⟩ O O O O (tU O ?_)
               refine W.ret ?_
               exact Ends.one' (.inr O) O (by rw [sm_fo hol (by omega) (eo_f1 o1)]) O O Zt
             · refine W.draw (m:=30) (an:=(0 :: 1 :: 0 :: 7 :: 15 :: 31 :: 0 :: 64 :: 0 :: 448 :: 960 :: 1984 :: 4095 :: 8191 :: 16383 :: 32767 :: 16383 :: 131071 :: 262143 :: 524287 :: 1048575 :: 16383 :: 2113535 :: 16383 :: 14696447 :: 31473663 :: 65028095 :: 132136959 :: 268435455 :: 536870911 :: [])) hP dU O (its:=(.y 92 _ :: .y 93 _ :: .y 94 _ :: .y 95 _ :: .y 96 _ :: .y 97 _ :: .y 98 _ :: .y 99 _ :: .y 100 _ :: .y 101 _ :: .y 102 _ :: .y 103 _ :: .y 104 _ :: .y 105 _ :: .y 106 _ :: .y 107 _ :: .y 108 _ :: .y 109 _ :: .y 110 _ :: .y 111 _ :: .y 112 _ :: .y 113 _ :: .y 114 _ :: .y 115 _ :: .y 116 _ :: .y 117 _ :: .y 118 _ :: .y 119 _ :: .y 120 _ :: .y 121 _ :: [])) (ks:=[]) (kk:=[]) (live:=[2,3,8,121]) (env':=[(2,_),(3,_),(8,_),(121,_)]) (⟨nU O,O,⟨aU (fU 2 O O),aU (lU 92 O O O O O O O),mU 8 O O,aU fun _ _ H K=>R.idxN (i) (SC.sl (K 93 _ O)) (evoI (eU K 94 O)) O bU H dU,aU fun _ _ H K=>R.fdE (K 95 _ O) H dU,aU fun _ _ H K=>R.ldE (K 96 _ O) (SC.sl (K 93 _ O)) (map_get! (l:=t.outs) bU) O O O O H,aU (fU 3 O O),aU (lU 98 O O O O O O O),mU 8 O O,aU fun _ _ H K=>R.idxN (i) (SC.sl (K 99 _ O)) (evoI (eU K 100 O)) O bU H dU,aU fun _ _ H K=>R.fdE (K 101 _ O) H dU,aU fun _ _ H K=>R.ldE (K 102 _ O) (SC.sl (K 99 _ O)) (map_get! (l:=u.outs) bU) O O O O H,aU fun _ _ H K=>R.bin (eU K 97 O) (eU K 103 O) O Zt H,mU 104 O O,aW O O (gF (nq_f o1) O) (fU 2 O O),aW O O (gF (nq_f o1) O) (lU 106 O O O O O O O),aW O O (gF (nq_f o1) O) fun _ _ H K=>R.mov (eU K 8 O) O H,aW O O (gF (nq_f o1) O) fun _ _ H K=>R.idxN (i) (SC.sl (K 107 _ O)) (evoI (eU K 108 O)) O bU H dU,aW O O (gF (nq_f o1) O) fun _ _ H K=>R.fdE (K 109 _ O) H dU,aW O O (gF (nq_f o1) O) fun _ _ H K=>R.ldE (K 110 _ O) (SC.sl (K 107 _ O)) (map_get! (l:=t.outs) bU) O O O O H,aW O O (gF (nq_f o1) O) fun _ _ H K=>R.cvS (xs:=t.outs[i]!.script) (SC.sl (K 111 _ O)) H,aW O O (gF (nq_f o1) O) (fU 3 O O),aW O O (gF (nq_f o1) O) (lU 113 O O O O O O O),aW O O (gF (nq_f o1) O) fun _ _ H K=>R.mov (eU K 8 O) O H,aW O O (gF (nq_f o1) O) fun _ _ H K=>R.idxN (i) (SC.sl (K 114 _ O)) (evoI (eU K 115 O)) O bU H dU,aW O O (gF (nq_f o1) O) fun _ _ H K=>R.fdE (K 116 _ O) H dU,aW O O (gF (nq_f o1) O) fun _ _ H K=>R.ldE (K 117 _ O) (SC.sl (K 114 _ O)) (map_get! (l:=u.outs) bU) O O O O H,aW O O (gF (nq_f o1) O) fun _ _ H K=>R.cvS (xs:=u.outs[i]!.script) (SC.sl (K 118 _ O)) H,aW O O (gF (nq_f o1) O) fun _ _ H K=>R.bin (eU K 112 O) (eU K 119 O) O Zt H,aU fun _ _ H K=>R.pickF (eU K 105 O) (nq_f o1) (eU K 120 O) O H,Zt⟩,O,O,O⟩) O (bx':=[(3,.var _),(2,.var _)]) O (n':=122) O (tV [(2,_),(3,_),(8,_),(121,_)] [(3,.var _),(2,.var _)] 122 O O O ?_)
               refine W.cond O (fun hc121=>?_) (fun hc121=>?_)
               · refine W.seq ?_
                 refine W.l0 1 [.y 4 _] [] [] [(4,_)] [(3,.var _),(2,.var _)] 122 ⟨aU fun _ _ H _=>R.asg (kB false O) O H,Zt⟩ O O O O (tU O ?_)
                 refine W.ret ?_
                 exact Ends.one' (.inr O) O (by rw [sm_fo hol (by omega) (eo_f2 hc121)]) O O Zt
               · refine W.skip ?_
                 refine W.l0 3 [.y 90 _,.y 91 _,.y 8 _] [] [] [(2,_),(3,_),(8,_)] [(3,.var _),(2,.var _)] 122 ⟨mU 8 O O,aU fun _ _ H K=>R.addN (i) (1) (eU K 90 O) (kI 1 O) bU H,aU fun _ _ H K=>R.asg (eU K 91 O) O H,Zt⟩ O O O O (tU O ?_)
                 exact ⟨⟨(i + 1),⟨by omega,ext_i hp2 (eo_t o1 hc121)⟩⟩,rfl,(by simp only []; omega)⟩
           · obtain rfl : i = t.outs.length:=by omega
             refine W.exit (W.seq ?_)
             refine W.l0 1 [.y 4 _] [] [] [(4,_)] [(3,.var _),(2,.var _)] 122 ⟨aU fun _ _ H _=>R.asg (kB true O) O H,Zt⟩ O O O O (tU O ?_)
             refine W.ret ?_
             exact Ends.one' (.inr O) O (by rw [sm_t (Classical.byContradiction k1) (Classical.byContradiction k2) hl hol hp hp2]) O O Zt
end Go.Sx

namespace Go.Sx
variable {pos : String} {aft : Array Edge} {g : Option (Nat × Bool)}
open Go.Proofs Go.Shelf Go.RowKit Go.Sort
variable {P : Program} {C : Ctx} {σ σ' σ1 : Sg} {a : Act} {w w' : World} {ρ : Nat -> Nat} {Fe Fe' Fb : Nat -> List Nat}
theorem Ext.grown (h : Ext w w') : ∃ q os',w' = grow (w.drewN q) os':=by
 refine ⟨w'.drawn - w.drawn,w'.heap.extract w.heap.size w'.heap.size, ?_⟩
 obtain ⟨ho,⟨htp,hdr⟩,hout,hs,hb⟩:=h
 obtain ⟨hp,tp,dr,os,out⟩:=w
 obtain ⟨hp',tp',dr',os',out'⟩:=w'
 simp only at ho htp hdr hout hs hb
 subst ho htp hout
 have e1 : dr + (dr' - dr) = dr':=by omega
 have e2 : hp ++ hp'.extract hp.size hp'.size = hp':=by
  apply Array.ext_getElem?
  intro i
  by_cases hi : i < hp.size
  · rw [Array.getElem?_append_left hi,hb i hi]
  · rw [Array.getElem?_append_right (by omega),Array.getElem?_extract]
    by_cases h2 : i < hp'.size
    · rw [if_pos (by omega)]; congr 1; omega
    · rw [if_neg (by omega)]; exact (Array.getElem?_eq_none (by omega)).symm
 show _ = World.mk (hp ++ hp'.extract hp.size hp'.size) tp' (dr + (dr' - dr)) os' out'
 rw [e1,e2]
theorem cmpLays_of {α : Type} [Inhabited α] {g k blk off size : Nat} {enc : α -> List Value} {el : α -> D} {cf : α -> α -> Int} {W : World}
 (hagg : ∀ x,(el x).isAgg = true) (hel : ∀ w ρ G L x,Rc w ρ G L true (el x) (enc x) [])
 (hF : ∀ x y,Fn P [] g [el x,el y] (.int (cf x y))) : CmpLays P g #[] enc k cf blk off size W:=by
 intro m os dk _ x y
 have h:=hF x y (sortWorldK enc k W blk off m dk os) (fun _=>False) [.agg (enc x).toArray,.agg (enc y).toArray] (fun g d h=>by cases h) rfl (fun j hj=>by
  have e : ∀ z : α,VR (sortWorldK enc k W blk off m dk os) (fun x=>x) (fun _=>False) (fun _=>False) (el z) (.agg (enc z).toArray) []:=fun z=>by
   unfold VR
   rw [if_pos (hagg z)]
   exact ⟨_,rfl,hel _ _ _ _ z⟩
  match j,hj with
  | 0,_=>exact e x
  | 1,_=>exact e y)
 refine Calls.mono h ?_
 rintro e w' ⟨v,F,rfl,hext,_,_,hv⟩
 have hv':=hv.2
 simp only [VR,D.isAgg,Bool.false_eq_true,if_false] at hv'
 cases hv'
 exact ⟨rfl,hext.grown⟩
structure SrtC (P : Program) (f g : FuncId) (k : Nat) {α : Type} [Inhabited α] (enc : α -> List Value) (d d' : Array α) : Prop where
 none : ∀ p cap w,Calls P f #[.slice p 0 cap,.func (.func g) #[] #[]] w fun e w'=>e = .returned (.tuple #[]) /\ w' = w
 some : ∀ blk cap w,HoldsK enc k w blk 0 d -> blk < w.heap.size -> Calls P f #[.slice (Option.some ⟨blk,0,Option.none⟩) d.size cap,.func (.func g) #[] #[]] w fun e w'=>e = .returned (.tuple #[]) /\ ∃ n os,w' = sortWorldK enc k w blk 0 n d' os
 sz : d'.size = d.size
theorem R.sortS {α : Type} [Inhabited α] {enc : α -> List Value} {el : α -> D} {d d' : Array α} {k : Nat} {s s0 e t : Nat} {f g : FuncId} [CaT P f] {ls ls' : List D} {tys : Array TypeId} {rt : TypeId} {pos : String} {aft : Array Edge} {gd_ : Option (Nat × Bool)}
 (hS : SrtC P f g k enc d d') (hk : ∀ x,(enc x).length = k) (h1 : ∀ x,∀ v ∈ enc x,v.oneCell' = true)
 (hel : ∀ w ρ G L x,Rc w ρ G L false (el x) (enc x) []) (hel' : ∀ w ρ G L cs F x,Rc w ρ G L false (el x) cs F -> cs = enc x /\ F = [])
 (hls : ls = d.toList.map el) (hls' : ls' = d'.toList.map el)
 (ho : ownr σ s s0) (hs : σ.get s0 = some (.sl (some e) k ls)) (ht : t < σ.n) :
 OpS P C ⟨some t,.call { callee:=.value (.func f),args:=#[.tmp s,.func g],argTypes:=tys },rt,pos,aft,gd_⟩ σ ((σ.upd s0 (.sl (some e) k ls')).set t (.tup [])):=by
 subst hls hls'
 intro a w ⟨ρ,Fe,Fb,st⟩ K Q hK
 refine wpIn_of_run (run_call a w) (by simp) ?_
 rw [Oper.uponIn_enter]
 obtain ⟨v,hv,hv0,hr⟩:=ownr_val st ho hs
 have harg : (#[Operand.tmp s,Operand.func g] : Array Operand).map a.eval = #[v,.func (.func g) #[] #[]]:=by
  rw [List.map_toArray,List.map_cons,List.map_cons,eval_tmp hv]; rfl
 rw [harg]
 have fin : ∀ w' F',StW C (σ.upd s0 (.sl (some e) k (d'.toList.map el))) a w' ρ (Go.Sx.upd Fe s0 F') Fb -> K (a.put (some t) (.tuple #[])) w':=by
  intro w' F' st'
  refine hK _ _ ⟨ρ,_,Fb,st'.ext (F:=[]) (v:=.tuple #[]) (by simpa using ht) (Ext.refl w') List.nodup_nil (by simp) ?_⟩
  refine ⟨[],fun _=>[], ?_,rfl,rfl,fun k hk=>by cases hk⟩
  rw [put_get a t _ t (by rw [st.size]; exact ht)]; simp
 have nil : ∀ p cap,v = .slice p 0 cap -> d.toList.map el = [] -> K (a.put (some t) (.tuple #[])) w:=by
  intro p cap _ he
  have hd0 : d.size = 0:=by have:=congrArg List.length he; simpa using this
  have hd' : d'.toList.map el = []:=by
   have : d'.size = 0:=hS.sz.trans hd0
   rw [Array.toList_eq_nil_iff.2 (Array.eq_empty_of_size_eq_zero this)]; rfl
  rw [hd'] at fin
  refine fin w (Fe s0) ?_
  rw [he] at hs hr
  exact st.turn (F:=Fe s0) hs rfl ⟨rfl,Nat.le_refl _⟩ rfl (Nat.le_refl _) (fun _ _ _=>rfl) (st.nodE s0) (fun b hb=>.inl hb) ((SR_plain rfl).2 ⟨v,hv0,by
   simp only [VR,D.isAgg,Bool.false_eq_true,if_false]
   have e0 : Go.Sx.upd Fe s0 (Fe s0) = Fe:=by funext u; by_cases hu : u = s0 <;> simp [Go.Sx.upd,hu]
   rw [e0]; exact hr⟩)
 generalize hFe : Fe s0 = F0 at hr
 generalize hll : d.toList.map el = l0 at hr
 cases hr with
 | slN=>exact ⟨(fun h=>by cases h),callsIn_fx (Calls.mono (hS.none none 0 w) (by rintro e w' ⟨rfl,rfl⟩; exact nil none 0 rfl hll))⟩
 | slE _ _ ad=>exact ⟨(fun h=>by cases h),callsIn_fx (Calls.mono (hS.none (some ad) 0 w) (by rintro e w' ⟨rfl,rfl⟩; exact nil (some ad) 0 rfl hll))⟩
 | slO b cs e cap z l Fs hb hc hm hsz ho1 hr=>
 subst hll
 have hlen : (d.toList.map el).length = d.size:=by simp
 rw [hlen] at hc ⊢
 have hbl : b < w.heap.size:=(Array.getElem?_eq_some_iff.1 hb).1
 have hpart : ∀ i (hi : i < d.size),(cs.toList.drop (i * k)).take k = enc d[i] /\ Fs i = []:=fun i hi=>by
  have:=hr i (by simpa using hi)
  rw [List.getElem_map] at this
  exact hel' _ _ _ _ _ _ _ this
 have hcap : ∀ j,j < d.size * k -> j < cs.size:=fun j hj=>by
  have:=Nat.mul_le_mul_right k hc; omega
 have hcell : ∀ j (hj : j < d.size * k),cs[j]'(hcap j hj) = (flatK enc k d)[j]!:=fun j hj=>by
  have k0 : 0 < k:=Nat.pos_of_ne_zero fun h=>by subst h; simp at hj
  have hq : j / k < d.size:=Nat.div_lt_of_lt_mul (by rw [Nat.mul_comm]; exact hj)
  have hm' : j % k < k:=Nat.mod_lt _ k0
  have e:=(hpart (j / k) hq).1
  have e2 : ((cs.toList.drop (j / k * k)).take k)[j % k]? = some (cs[j]'(hcap j hj)):=by
   rw [List.getElem?_take,if_pos hm',List.getElem?_drop]
   have : j / k * k + j % k = j:=by rw [Nat.mul_comm]; exact Nat.div_add_mod j k
   rw [this,Array.getElem?_toList,Array.getElem?_eq_getElem (hcap j hj)]
  rw [e] at e2
  rw [get_flatK _ _ _ _ hj]
  have e3 : d[j / k]! = d[j / k]:=getElem!_pos d _ hq
  rw [e3]
  have e4:=List.getElem?_eq_some_iff.1 e2
  obtain ⟨h5,h6⟩:=e4
  rw [getElem!_pos (enc d[j / k]) (j % k) h5,h6]
 have hH : HoldsK enc k w b 0 d:=by
  intro j hj
  rw [size_flatK] at hj
  have hc0:=hcap j hj
  refine ⟨?_, ?_⟩
  · simp only [World.cell?,hb,Nat.zero_add,id]
    rw [<- hcell j hj]
    simp [hc0]
  · simp [World.frozen?,hb]
 refine ⟨(fun h=>by cases h),callsIn_fx (Calls.mono (hS.some b cap w hH hbl) ?_)⟩
 rintro e' w' ⟨rfl,n,os,rfl⟩
 have hheap : (sortWorldK enc k w b 0 n d' os).heap[b]? = some (.cells (putCells id 0 (flatK enc k d') cs) e (0,0)):=by
  unfold sortWorldK putRowK putRow mapBlock grow
  simp only
  rw [Array.getElem?_append_left (by simpa using hbl),Array.getElem?_modify,if_pos rfl]
  show Option.map _ (w.heap[b]?) = _
  rw [hb]; rfl
 have hother : ∀ b',b' < w.heap.size -> b' ≠ b -> (sortWorldK enc k w b 0 n d' os).heap[b']? = w.heap[b']?:=fun b' hb' hne=>by
  unfold sortWorldK putRowK putRow mapBlock grow
  simp only
  rw [Array.getElem?_append_left (by simpa using hb'),Array.getElem?_modify,if_neg (fun h=>hne h.symm)]
  rfl
 have hsize : w.heap.size <= (sortWorldK enc k w b 0 n d' os).heap.size:=by
  unfold sortWorldK; rw [size_grow]; unfold putRowK; rw [Go.Sort.size_putRow]; exact Nat.le_add_right _ _
 have hnd:=st.nodE s0
 have hFnil : (List.range (d.toList.map el).length).flatMap Fs = []:=by
  rw [List.flatMap_eq_nil_iff]
  intro i hi
  exact (hpart i (by simpa using hi)).2
 rw [hFnil] at hFe
 refine fin _ [b] (st.turn (F:=[b]) hs rfl ⟨rfl, ?_⟩ rfl hsize (fun b' hb' hn=>hother b' hb' (fun h=>hn (by rw [hFe,h]; simp))) (by simp) (fun x hx=>.inl (by rw [hFe]; exact hx)) ?_)
 · show w.drawn <= w.drawn + n; omega
 refine (SR_plain rfl).2 ⟨_,hv0, ?_⟩
 simp only [VR,D.isAgg,Bool.false_eq_true,if_false]
 have hsz' : (putCells id 0 (flatK enc k d') cs).size = cs.size:=by simp [putCells]
 have hget : ∀ j (hj : j < cs.size),(putCells id 0 (flatK enc k d') cs)[j]'(by rw [hsz']; exact hj) = if j < d'.size * k then (flatK enc k d')[j]! else cs[j]:=fun j hj=>by
  simp only [putCells,Array.getElem_mapIdx,Nat.zero_le,true_and,Nat.zero_add,size_flatK,Nat.sub_zero,id]
 have hdk : d'.size * k <= cs.size:=by rw [hS.sz,hsz]; exact Nat.mul_le_mul_right k hc
 have key:=Rc.slO (w:=sortWorldK enc k w b 0 n d' os) (ρ:=ρ) (G:=gd C (Go.Sx.upd Fe s0 [b]) Fb) (L:=fun id=>(σ.box id).isSome) (p:=true) b (putCells id 0 (flatK enc k d') cs) e cap k (d'.toList.map el) (fun _=>[]) hheap
  (by simp [hS.sz,hc]) hm (by rw [hsz',hsz]) (fun u hu=>by
   obtain ⟨j,hj,rfl⟩:=List.getElem_of_mem hu
   have hj' : j < cs.size:=by simpa [hsz'] using hj
   rw [Array.getElem_toList,hget j hj']
   split
   · rename_i hlt
     have k0 : 0 < k:=Nat.pos_of_ne_zero fun h=>by subst h; simp at hlt
     rw [get_flatK _ _ _ _ hlt]
     refine h1 d'[j / k]! _ ?_
     have hm' : j % k < (enc d'[j / k]!).length:=by rw [hk]; exact Nat.mod_lt _ k0
     rw [getElem!_pos (enc d'[j / k]!) (j % k) hm']
     exact List.getElem_mem _
   · exact ho1 _ (by simp)) (fun i hi=>by
   have hi' : i < d'.size:=by simpa using hi
   rw [List.getElem_map]
   have e1 : ((putCells id 0 (flatK enc k d') cs).toList.drop (i * k)).take k = enc d'[i]:=by
    have hik : i * k + k <= d'.size * k:=by
     have:=Nat.mul_le_mul_right k (show i + 1 <= d'.size from hi'); rwa [Nat.add_mul,Nat.one_mul] at this
    refine List.ext_getElem (by rw [List.length_take,List.length_drop,Array.length_toList,hsz',hk]; omega) fun j h2 h3=>?_
    rw [hk] at h3
    rw [List.getElem_take,List.getElem_drop,Array.getElem_toList,hget _ (by omega),if_pos (by omega),get_flatK _ _ _ _ (by omega)]
    have q1 : (i * k + j) / k = i:=by
     rw [Nat.mul_comm,Nat.mul_add_div (by omega),Nat.div_eq_of_lt h3,Nat.add_zero]
    have q2 : (i * k + j) % k = j:=by
     rw [Nat.mul_comm,Nat.mul_add_mod,Nat.mod_eq_of_lt h3]
    rw [q1,q2,getElem!_pos d' i hi',getElem!_pos (enc d'[i]) j (by rw [hk]; exact h3)]
   show Rc _ _ _ _ false _ (((putCells id 0 (flatK enc k d') cs).toList.drop (i * k)).take k) _
   rw [e1]
   exact hel _ _ _ _ _)
 have e5 : (List.range (d'.toList.map el).length).flatMap (fun _ : Nat=>([] : List Nat)) = []:=by
  rw [List.flatMap_eq_nil_iff]; intro _ _; rfl
 rw [e5] at key
 have e6 : (d'.toList.map el).length = d.size:=by simp [hS.sz]
 rw [e6] at key
 simpa using key
theorem R.slM {t e z bytes : Nat} {x yh ym : Operand} {l : List D} {ty rt : TypeId} [hT : SlT P ty e] [hE : ElT P e z bytes]
 (hx : ev C.gl σ x = some (.sl none z l)) {j1 j2 : Int} (hh : ev C.gl σ yh = some (.int j1)) (hm : ev C.gl σ ym = some (.int j2)) (e1 : j1 = l.length) (e2 : j2 = l.length) (ht : t < σ.n) :
 OpS P C ⟨some t,.slice ty x none (some yh) (some ym),rt,pos,aft,g⟩ σ (σ.set t (.sl none z l)):=by
 subst e1; subst e2
 refine OpS.value fun a w ⟨ρ,Fe,Fb,st⟩=>?_
 obtain ⟨F,hv,_⟩:=ev_ok st hx rfl
 have hF:=hv.pur rfl
 subst hF
 simp only [VR,D.isAgg,Bool.false_eq_true,if_false] at hv
 generalize hex : a.eval x = vx at hv
 obtain ⟨k1,g1⟩:=bound_ok st (x:=yh) (n:=l.length) (by rw [hh]; rfl)
 obtain ⟨k2,g2⟩:=bound_ok st (x:=ym) (n:=l.length) (by rw [hm]; rfl)
 have hb : ∀ cap,l.length <= cap -> (Instr.sliceBounds true l.length cap none (some (a.eval yh)) (some (a.eval ym))).run P w = .ok (0,l.length,l.length) w:=fun cap hc=>by
  have q1:=run_sliceBound (P:=P) w k2 (l.length : Int) cap .slice3Acap (by omega) (by omega)
  have q2:=run_sliceBound (P:=P) w k1 (l.length : Int) l.length .slice3B (by omega) (by omega)
  rw [g1,g2]
  simp [Instr.sliceBounds,q1,q2]
 have key : ∀ base cap,l.length <= cap -> vx = .slice base l.length cap -> (execOp a.eval ⟨some t,.slice ty x none (some yh) (some ym),rt,pos,aft,g⟩).run P w = .ok (.value (.slice base l.length l.length)) w:=by
  rintro base cap hc rfl
  have q:=hb cap hc
  unfold execOp
  have e0 : (base.map fun p : Addr=>p.add 0) = base:=by cases base <;> simp [Addr.add]
  simp [Instr.sliceAt,Instr.slice,run_underlying hT.u,ElT.size (P:=P) (e:=e),hex,q,e0]
 cases hv with
 | slN=>exact ⟨.slice none 0 0,w,key none 0 (Nat.le_refl _) rfl,st.put ht rfl (by simp only [VR,D.isAgg,Bool.false_eq_true,if_false]; exact .slN none z)⟩
 | slE _ _ aa=>exact ⟨.slice (some aa) 0 0,w,key (some aa) 0 (Nat.le_refl _) rfl,st.put ht rfl (by simp only [VR,D.isAgg,Bool.false_eq_true,if_false]; exact .slE none z aa)⟩
 | slI b off cs e' fz cap _ _ hb' hG hc hs hr=>exact ⟨_,w,key _ cap hc rfl,st.put ht rfl (by simp only [VR,D.isAgg,Bool.false_eq_true,if_false]; exact .slI b off cs e' fz l.length z l hb' hG (Nat.le_refl _) hs hr)⟩
theorem run_loadB : ∀ (xs : List UInt8) (ad : Addr) (acc : ByteArray),(∀ j (hj : j < xs.length),w.cell? (ad.add j) = some (.int .u8 (xs[j].toNat : Int))) ->
 (Extern.Bytes.loadBytes ad xs.length acc).run P w = .ok ⟨acc.data ++ xs.toArray⟩ w
 | [],ad,acc,_=>by simp [Extern.Bytes.loadBytes]
 | x :: l,ad,acc,h=>by
  have h0 : w.cell? ad = some (.int .u8 (x.toNat : Int)):=by
   have:=h 0 (by simp)
   simpa [Addr.add] using this
  have ih:=run_loadB l (ad.add 1) (acc.push x) (fun j hj=>by
   have:=h (j + 1) (by simpa using hj)
   simp only [List.getElem_cons_succ] at this
   rw [<- this]
   have ea : (ad.add 1).add j = ad.add (j + 1):=by simp [Addr.add,Nat.add_assoc,Nat.add_comm 1 j]
   rw [ea])
  have e : ((x.toNat : Int)).toNat.toUInt8 = x:=by simp
  simp only [List.length_cons,Extern.Bytes.loadBytes,Sem.run_bind,run_load,h0,Result.andThen,e]
  rw [ih]
  congr 2
  simp [ByteArray.push]
theorem run_bytesOfS (st : StW C σ a w ρ Fe Fb) {s : Nat} {xs : List UInt8} (h : SC σ s 1 (xs.map D.u8)) :
 ∃ v,a.eval (.tmp s) = v /\ (Extern.Bytes.bytesOf v).run P w = .ok ⟨xs.toArray⟩ w:=by
 obtain ⟨base,len,cap,hv,hlen,hd⟩:=SC_ok st h
 have hlen' : len = xs.length:=by simpa using hlen
 subst hlen'
 refine ⟨_,eval_tmp hv, ?_⟩
 have hcell : ∀ ad,base = some ad -> ∀ j (hj : j < xs.length),w.cell? (ad.add j) = some (.int .u8 (xs[j].toNat : Int)):=by
  rintro ad rfl j hj
  rcases hd with ⟨h3,h4⟩ | ⟨b,o,cs,e',fz,hba,hb,hc,hs,hr⟩
  · omega
  · simp only [Option.some.injEq] at hba
    subst hba
    rw [add_lit,cell_of_row w b _ cs e' fz hb]
    obtain ⟨F,hF⟩:=hr j (by simpa using hj)
    simp only [List.getElem_map,Nat.mul_one] at hF hs
    have hlt : o + j < cs.size:=by omega
    rw [List.drop_eq_getElem_cons (by simpa using hlt),List.take_succ_cons,List.take_zero] at hF
    rw [Array.getElem?_eq_getElem hlt,<- Array.getElem_toList]
    generalize cs.toList[o + j] = vv at hF
    cases hF
    rfl
 cases base with
 | some ad=>
  have:=run_loadB (P:=P) xs ad .empty (hcell ad rfl)
  simp only [Extern.Bytes.bytesOf,this]
  simp
 | none=>
  have h0 : xs = []:=by
   rcases hd with ⟨h3,h4⟩ | ⟨b,o,cs,e',fz,hba,_⟩
   · exact List.length_eq_zero_iff.1 h3
   · cases hba
  subst h0
  rfl
theorem run_cmpB {va vb : Value} {x y : ByteArray} (ha : (Extern.Bytes.bytesOf va).run P w = .ok x w) (hb : (Extern.Bytes.bytesOf vb).run P w = .ok y w) :
 (Extern.BytealgCompare.compare #[va,vb]).run P w = .ok (.int .i64 (Lib.compareBytes x.data.toList y.data.toList)) w:=by
 have h:=Lib.run_compareString (P:=P) x y w
 have e : ∀ u v : Value,(Extern.BytealgCompare.compare #[u,v]) = (Extern.Bytes.bytesOf u >>= fun p=>Extern.Bytes.bytesOf v >>= fun q=>pure (goInt (Extern.BytealgCompare.cmp p q))):=fun _ _=>rfl
 rw [e] at h ⊢
 simp only [Sem.run_bind,ha,hb,Result.andThen_ok] at h ⊢
 simpa [Extern.Bytes.bytesOf] using h
class ExC (P : Program) (f : FuncId) : Prop where
 i : ∃ fn,P.funcs[f]? = some fn /\ (fn.name == "runtime.NumGoroutine") = false /\ fn.body.isNone = true /\ Extern.findNext fn = none /\ Extern.find fn = some Extern.BytealgCompare.compare
theorem R.cmpB {s s' t : Nat} {xs ys : List UInt8} {f : FuncId} [hX : ExC P f] {tys : Array TypeId} {rt : TypeId}
 (h : SC σ s 1 (xs.map D.u8)) (h' : SC σ s' 1 (ys.map D.u8)) (ht : t < σ.n) :
 OpS P C ⟨some t,.call { callee:=.value (.func f),args:=#[.tmp s,.tmp s'],argTypes:=tys },rt,pos,aft,g⟩ σ (σ.set t (.int (Lib.compareBytes xs ys))):=by
 refine OpS.value fun a w ⟨ρ,Fe,Fb,st⟩=>?_
 obtain ⟨fn,h1,h2,h3,h4,h5⟩:=hX.i
 obtain ⟨v,hv,hb⟩:=run_bytesOfS (P:=P) st h
 obtain ⟨v',hv',hb'⟩:=run_bytesOfS (P:=P) st h'
 refine ⟨.int .i64 (Lib.compareBytes xs ys),w, ?_,st.put ht rfl (by simp only [VR,D.isAgg,Bool.false_eq_true,if_false]; exact .int _)⟩
 have hc:=run_callFunc_extern h1 h2 h3 h4 h5 #[v,v'] w
 rw [run_cmpB hb hb'] at hc
 unfold execOp
 simp [resolve,Act.eval,Deferred.ofValue,invoke] at hv hv' ⊢
 simp [hv,hv',hc,Result.andThen]
end Go.Sx

namespace Go.Sx
open Go.Proofs
structure Un where
 tx : Hs
 n : UInt32
 value : UInt64
 ht : Int
 deriving Inhabited,DecidableEq
structure Wnt where
 script : List UInt8
 value : UInt64
 deriving Inhabited
def coD (c : Un) : D:=.agg [.agg [hashD c.tx,.u32 c.n],.u64 c.value,.int c.ht]
def wntD (c : Wnt) : D:=.agg [bytesD c.script,.u64 c.value]
def upl (c : Un) : Plc:=(c.tx,c.n)
def c64 (a b : UInt64) : Int:=if a < b then -1 else if b < a then 1 else 0
def c32 (a b : UInt32) : Int:=if a < b then -1 else if b < a then 1 else 0
def orS : List Int -> Int
 | []=>0
 | x :: r=>if x = 0 then orS r else x
def ordS (a b : Un) : Int:=orS [c64 b.value a.value,Lib.compareBytes a.tx b.tx,c32 a.n b.n]
theorem orS_z {l : List Int} (h : ∀ j < l.length,l[j]! = 0) : orS l = 0:=by
 induction l with
 | nil=>rfl
 | cons x r ih=>
  have h0:=h 0 (by simp)
  simp only [List.getElem!_cons_zero] at h0
  rw [orS,if_pos h0]
  exact ih fun j hj=>by have:=h (j + 1) (by simpa using hj); simpa using this
theorem orS_at {l : List Int} {i : Nat} (hi : i < l.length) (h : ∀ j < i,l[j]! = 0) (hx : l[i]! ≠ 0) : orS l = l[i]!:=by
 induction l generalizing i with
 | nil=>exact absurd hi (Nat.not_lt_zero _)
 | cons x r ih=>
  cases i with
  | zero=>simp only [List.getElem!_cons_zero] at hx ⊢; rw [orS,if_neg hx]
  | succ i=>
   have h0:=h 0 (by omega)
   simp only [List.getElem!_cons_zero] at h0
   rw [orS,if_pos h0]
   have:=ih (i:=i) (by simpa using hi) (fun j hj=>by have:=h (j + 1) (by omega); simpa using this) (by simpa using hx)
   simpa using this
theorem c64_1 {a b : UInt64} (h : a < b) : c64 a b = -1:=if_pos h
theorem c64_2 {a b : UInt64} (h : ¬ a < b) (h' : b < a) : c64 a b = 1:=by rw [c64,if_neg h,if_pos h']
theorem c64_3 {a b : UInt64} (h : ¬ a < b) (h' : ¬ b < a) : c64 a b = 0:=by rw [c64,if_neg h,if_neg h']
theorem c32_1 {a b : UInt32} (h : a < b) : c32 a b = -1:=if_pos h
theorem c32_2 {a b : UInt32} (h : ¬ a < b) (h' : b < a) : c32 a b = 1:=by rw [c32,if_neg h,if_pos h']
theorem c32_3 {a b : UInt32} (h : ¬ a < b) (h' : ¬ b < a) : c32 a b = 0:=by rw [c32,if_neg h,if_neg h']
instance : ExC Try.prog 55:=⟨_,Try.func55,by kernel_rfl,by kernel_rfl,by kernel_rfl,by kernel_rfl⟩
def feeP (ins outs : Int) (rate : UInt64) : Prop:=ins < 0 ∨ 4096 < ins ∨ outs < 0 ∨ 4096 < outs ∨ 1000000 < rate
instance (i o : Int) (r : UInt64) : Decidable (feeP i o r):=by unfold feeP; infer_instance
def feeV (ins outs : Int) (rate : UInt64) : UInt64:=if feeP ins outs rate then 0 else UInt64.ofInt (10 + 148 * ins + 34 * outs) * rate
def feeE (ins outs : Int) (rate : UInt64) : Int:=if feeP ins outs rate then 1 else 0
theorem fee_t {i o : Int} {r : UInt64} (h : feeP i o r) : D.tup [.u64 0,.int 1] = D.tup [.u64 (feeV i o r),.int (feeE i o r)]:=by rw [feeV,feeE,if_pos h,if_pos h]
theorem fee_f {i o : Int} {r : UInt64} (h : ¬ feeP i o r) : D.tup [.u64 (UInt64.ofInt (10 + 148 * i + 34 * o) * r),.int 0] = D.tup [.u64 (feeV i o r),.int (feeE i o r)]:=by rw [feeV,feeE,if_neg h,if_neg h]
def lftI (l : List Wnt) : Nat -> UInt64
 | 0=>2100000000000000
 | i + 1=>lftI l i - l[i]!.value
def totP (l : List Wnt) : Prop:=l.length ≠ 0 /\ l.length <= 64 /\ ∀ i < l.length,l[i]!.value ≠ 0 /\ ¬ lftI l i < l[i]!.value /\ l[i]!.script.length <= 1000
instance (l : List Wnt) : Decidable (totP l):=by unfold totP; infer_instance
def totV (l : List Wnt) : UInt64:=if totP l then 2100000000000000 - lftI l l.length else 0
def totB (l : List Wnt) : Bool:=decide (totP l)
def purI (l : List Un) : Nat -> List (Plc × UInt64)
 | 0=>[]
 | i + 1=>purI l i ++ [(upl l[i]!,l[i]!.value)]
def purA (l : List Un) (i : Nat) : Prop:=kHas (purI l i) (upl l[i]!) = false /\ ¬ 2100000000000000 < l[i]!.value
def purP (l : List Un) : Prop:=∀ i < l.length,purA l i
instance (l : List Un) (i : Nat) : Decidable (purA l i):=by unfold purA; infer_instance
instance (l : List Un) : Decidable (purP l):=by unfold purP; infer_instance
theorem pur_lt {l : List Un} {i : Nat} (hf : ¬ purP l) (hi : i <= l.length) (h : ∀ j < i,purA l j) : i < l.length:=by
 rcases Nat.lt_or_eq_of_le hi with h1 | h1
 · exact h1
 · subst h1; exact absurd h hf
end Go.Sx

namespace Go.Sx
open Go.Proofs
theorem nan64_ok (x : UInt64) : Fn Try.prog gl 54 [.u64 x] (.bool false):=by
 refine Fn.of (n:=6) Try.func54 rfl rfl rfl (nU rfl) fun C hC hD=>?_
 refine W.seq ?_
 refine W.l0 1 [.y 2 _] [] [] [(0,_)] [] 6 ⟨aU fun _ _ H _=>R.asg (kB false O) O H,Zt⟩ O O O O (tU O ?_)
 refine W.seq ?_
 refine W.l0 4 [.y 3 _,.y 4 _,.y 5 _,.y 2 _] [] [] [(2,_)] [] 6 ⟨mU 0 O O,mU 0 O O,aU fun _ _ H K=>R.bin (eU K 3 O) (eU K 4 O) O Zt H,aU fun _ _ H K=>R.asg (eU K 5 O) O H,Zt⟩ O O O O (tU O ?_)
 refine W.ret ?_
 exact Ends.one' (.inr O) O (by simp) O O Zt
theorem nan32_ok (x : UInt32) : Fn Try.prog gl 56 [.u32 x] (.bool false):=by
 refine Fn.of (n:=6) Try.func56 rfl rfl rfl (nU rfl) fun C hC hD=>?_
 refine W.seq ?_
 refine W.l0 1 [.y 2 _] [] [] [(0,_)] [] 6 ⟨aU fun _ _ H _=>R.asg (kB false O) O H,Zt⟩ O O O O (tU O ?_)
 refine W.seq ?_
 refine W.l0 4 [.y 3 _,.y 4 _,.y 5 _,.y 2 _] [] [] [(2,_)] [] 6 ⟨mU 0 O O,mU 0 O O,aU fun _ _ H K=>R.bin (eU K 3 O) (eU K 4 O) O Zt H,aU fun _ _ H K=>R.asg (eU K 5 O) O H,Zt⟩ O O O O (tU O ?_)
 refine W.ret ?_
 exact Ends.one' (.inr O) O (by simp) O O Zt
theorem cmp64_ok (x y : UInt64) : Fn Try.prog gl 39 [.u64 x,.u64 y] (.int (c64 x y)):=by
 refine Fn.of (n:=20) Try.func39 rfl rfl rfl (nU rfl) fun C hC hD=>?_
 refine W.seq ?_
 refine W.l0 1 [.y 4 _] [] [] [(0,_),(1,_)] [] 20 ⟨aU fun _ _ H _=>R.asg (kI 0 O) O H,Zt⟩ O O O O (tU O ?_)
 refine W.seq ?_
 refine W.l0 3 [.y 7 _,.y 8 _,.y 5 _] [] [] [(0,_),(1,_),(5,_)] [] 20 ⟨mU 0 O O,aU fun _ _ H K=>R.callG hC (nan64_ok x) (Bc (Bp (eU K 7 O) O O) Bn) (FrsR.one (.bool _)) H,aU fun _ _ H K=>R.asg (eU K 8 O) O H,Zt⟩ O O O O (tU O ?_)
 refine W.seq ?_
 refine W.l0 3 [.y 9 _,.y 10 _,.y 6 _] [] [] [(0,_),(1,_),(5,_),(6,_)] [] 20 ⟨mU 1 O O,aU fun _ _ H K=>R.callG hC (nan64_ok y) (Bc (Bp (eU K 9 O) O O) Bn) (FrsR.one (.bool _)) H,aU fun _ _ H K=>R.asg (eU K 10 O) O H,Zt⟩ O O O O (tU O ?_)
 refine W.seq (W.seq ?_)
 refine W.l0 1 [.y 11 _] [] [] [(0,_),(1,_),(6,_),(11,_)] [] 20 ⟨mU 5 O O,Zt⟩ O O O O (tU O ?_)
 refine W.condF O (O) ?_
 refine W.skip (W.seq (W.seq ?_))
 refine W.l0 1 [.y 13 _] [] [] [(0,_),(1,_),(13,_)] [] 20 ⟨mU 6 O O,Zt⟩ O O O O (tU O ?_)
 refine W.condF O (O) ?_
 refine W.skip (W.seq (W.seq ?_))
 refine W.l0 3 [.y 14 _,.y 15 _,.y 16 _] [] [] [(0,_),(1,_),(16,_)] [] 20 ⟨mU 0 O O,mU 1 O O,aU fun _ _ H K=>R.bin (eU K 14 O) (eU K 15 O) O Zt H,Zt⟩ O O O O (tU O ?_)
 refine W.cond O (fun hc16=>?_) (fun hc16=>?_)
 · refine W.seq ?_
   refine W.l0 1 [.y 4 _] [] [] [(4,_)] [] 20 ⟨aU fun _ _ H _=>R.asg (show ev _ _ (.const (.int .i64 (-1))) = some (.int (-1)) from O) O H,Zt⟩ O O O O (tU O ?_)
   refine W.ret ?_
   exact Ends.one' (.inr O) O (by rw [c64_1 (of_decide_eq_true hc16)]) O O Zt
 · refine W.skip (W.seq (W.seq ?_))
   refine W.l0 3 [.y 17 _,.y 18 _,.y 19 _] [] [] [(19,_)] [] 20 ⟨mU 0 O O,mU 1 O O,aU fun _ _ H K=>R.bin (eU K 17 O) (eU K 18 O) O Zt H,Zt⟩ O O O O (tU O ?_)
   refine W.cond O (fun hc19=>?_) (fun hc19=>?_)
   · refine W.seq ?_
     refine W.l0 1 [.y 4 _] [] [] [(4,_)] [] 20 ⟨aU fun _ _ H _=>R.asg (kI 1 O) O H,Zt⟩ O O O O (tU O ?_)
     refine W.ret ?_
     exact Ends.one' (.inr O) O (by rw [c64_2 (of_decide_eq_false hc16) (of_decide_eq_true hc19)] <;> rfl) O O Zt
   · refine W.skip (W.seq ?_)
     refine W.l0 1 [.y 4 _] [] [] [(4,_)] [] 20 ⟨aU fun _ _ H _=>R.asg (kI 0 O) O H,Zt⟩ O O O O (tU O ?_)
     refine W.ret ?_
     exact Ends.one' (.inr O) O (by rw [c64_3 (of_decide_eq_false hc16) (of_decide_eq_false hc19)] <;> rfl) O O Zt
theorem cmp32_ok (x y : UInt32) : Fn Try.prog gl 41 [.u32 x,.u32 y] (.int (c32 x y)):=by
 refine Fn.of (n:=20) Try.func41 rfl rfl rfl (nU rfl) fun C hC hD=>?_
 refine W.seq ?_
 refine W.l0 1 [.y 4 _] [] [] [(0,_),(1,_)] [] 20 ⟨aU fun _ _ H _=>R.asg (kI 0 O) O H,Zt⟩ O O O O (tU O ?_)
 refine W.seq ?_
 refine W.l0 3 [.y 7 _,.y 8 _,.y 5 _] [] [] [(0,_),(1,_),(5,_)] [] 20 ⟨mU 0 O O,aU fun _ _ H K=>R.callG hC (nan32_ok x) (Bc (Bp (eU K 7 O) O O) Bn) (FrsR.one (.bool _)) H,aU fun _ _ H K=>R.asg (eU K 8 O) O H,Zt⟩ O O O O (tU O ?_)
 refine W.seq ?_
 refine W.l0 3 [.y 9 _,.y 10 _,.y 6 _] [] [] [(0,_),(1,_),(5,_),(6,_)] [] 20 ⟨mU 1 O O,aU fun _ _ H K=>R.callG hC (nan32_ok y) (Bc (Bp (eU K 9 O) O O) Bn) (FrsR.one (.bool _)) H,aU fun _ _ H K=>R.asg (eU K 10 O) O H,Zt⟩ O O O O (tU O ?_)
 refine W.seq (W.seq ?_)
 refine W.l0 1 [.y 11 _] [] [] [(0,_),(1,_),(6,_),(11,_)] [] 20 ⟨mU 5 O O,Zt⟩ O O O O (tU O ?_)
 refine W.condF O (O) ?_
 refine W.skip (W.seq (W.seq ?_))
 refine W.l0 1 [.y 13 _] [] [] [(0,_),(1,_),(13,_)] [] 20 ⟨mU 6 O O,Zt⟩ O O O O (tU O ?_)
 refine W.condF O (O) ?_
 refine W.skip (W.seq (W.seq ?_))
 refine W.l0 3 [.y 14 _,.y 15 _,.y 16 _] [] [] [(0,_),(1,_),(16,_)] [] 20 ⟨mU 0 O O,mU 1 O O,aU fun _ _ H K=>R.bin (eU K 14 O) (eU K 15 O) O Zt H,Zt⟩ O O O O (tU O ?_)
 refine W.cond O (fun hc16=>?_) (fun hc16=>?_)
 · refine W.seq ?_
   refine W.l0 1 [.y 4 _] [] [] [(4,_)] [] 20 ⟨aU fun _ _ H _=>R.asg (show ev _ _ (.const (.int .i64 (-1))) = some (.int (-1)) from O) O H,Zt⟩ O O O O (tU O ?_)
   refine W.ret ?_
   exact Ends.one' (.inr O) O (by rw [c32_1 (of_decide_eq_true hc16)]) O O Zt
 · refine W.skip (W.seq (W.seq ?_))
   refine W.l0 3 [.y 17 _,.y 18 _,.y 19 _] [] [] [(19,_)] [] 20 ⟨mU 0 O O,mU 1 O O,aU fun _ _ H K=>R.bin (eU K 17 O) (eU K 18 O) O Zt H,Zt⟩ O O O O (tU O ?_)
   refine W.cond O (fun hc19=>?_) (fun hc19=>?_)
   · refine W.seq ?_
     refine W.l0 1 [.y 4 _] [] [] [(4,_)] [] 20 ⟨aU fun _ _ H _=>R.asg (kI 1 O) O H,Zt⟩ O O O O (tU O ?_)
     refine W.ret ?_
     exact Ends.one' (.inr O) O (by rw [c32_2 (of_decide_eq_false hc16) (of_decide_eq_true hc19)] <;> rfl) O O Zt
   · refine W.skip (W.seq ?_)
     refine W.l0 1 [.y 4 _] [] [] [(4,_)] [] 20 ⟨aU fun _ _ H _=>R.asg (kI 0 O) O H,Zt⟩ O O O O (tU O ?_)
     refine W.ret ?_
     exact Ends.one' (.inr O) O (by rw [c32_3 (of_decide_eq_false hc16) (of_decide_eq_false hc19)] <;> rfl) O O Zt
theorem or_ok (l : List Int) (hl : l.length <= 1000) : Fn Try.prog gl 38 [.sl none 1 (l.map D.int)] (.int (orS l)):=by
 refine Fn.of (n:=18) Try.func38 rfl rfl rfl (nU rfl) fun C hC hD=>?_
 refine W.seq ?_
 refine W.l0 1 [.y 2 _] [] [] [(0,_)] [] 18 ⟨aU fun _ _ H _=>R.asg (kI 0 O) O H,Zt⟩ O O O O (tU O ?_)
 refine W.seq ?_
 refine W.l0 1 [.y 3 _] [] [] [(0,_),(3,_)] [] 18 ⟨aU fun _ _ H _=>R.asg (kI 0 O) O H,Zt⟩ O O O O (tU O ?_)
 refine W.seq (W.seq ?_)
 refine W.l0 3 [.y 6 _,.y 7 _,.y 8 _] [] [] [(3,_),(6,_),(7,_),(8,_)] [] 18 ⟨mU 0 O O,aU fun _ _ H K=>R.lenE (SC.sl (K 6 _ O)) (lN _) H,aU fun _ _ H _=>R.mov (kI 0 O) O H,Zt⟩ O O O O (tU O ?_)
 refine W.block ?_
 refine W.loop (α:={q__ : Nat // q__ <= l.length /\ ∀ j < q__,l[j]! = 0}) (fun q__=>⟨18,[(3,.int 0),(6,.sl none 1 (l.map D.int)),(7,.int ((l.length : Nat) : Int)),(8,.int ((q__.1 : Nat) : Int))],[]⟩) (fun q__=>l.length - q__.1) ⟨(0),⟨Nat.zero_le _,fun j h=>absurd h (Nat.not_lt_zero _)⟩⟩ O ?_
 rintro ⟨i,⟨hi,hz⟩⟩
 show W _ _ _ _ ⟨18,[(3,.int 0),(6,.sl none 1 (l.map D.int)),(7,.int ((l.length : Nat) : Int)),(8,.int ((i : Nat) : Int))],[]⟩
 have hi : i <= l.length:=hi
 have hz : ∀ j < i,l[j]! = 0:=hz
 refine W.seq ?_
 refine W.l0 1 [.y 9 _] [] [] [(3,_),(6,_),(7,_),(8,_),(9,_)] [] 18 ⟨aU fun _ _ H K=>R.lssN (i) (l.length) (eU K 8 O) (eU K 7 O) H,Zt⟩ O O O O (tU O ?_)
 refine W.seq ?_
 refine W.condD O (fun hc9=>?_) (fun hc9=>?_)
 · refine W.skip (W.seq (W.block (W.seq ?_)))
   refine W.l0 3 [.y 10 _,.y 11 _,.y 5 _] [] [] [(3,_),(5,_),(6,_),(7,_),(8,_)] [] 18 ⟨aU fun _ _ H K=>R.idxN (i) (SC.sl (K 6 _ O)) (evoI (eU K 8 O)) O bU H dU,aU fun _ _ H K=>R.ldE (K 10 _ O) (SC.sl (K 6 _ O)) (map_get! (l:=l) bU) O O O O H,aU fun _ _ H K=>R.asg (eU K 11 O) O H,Zt⟩ O O O O (tU O ?_)
   refine W.seq ?_
   refine W.l0 3 [.y 12 _,.y 13 _,.y 14 _] [] [] [(3,_),(5,_),(6,_),(7,_),(8,_),(14,_)] [] 18 ⟨mU 5 O O,mU 3 O O,aU fun _ _ H K=>R.bin (eU K 12 O) (eU K 13 O) O Zt H,Zt⟩ O O O O (tU O ?_)
   refine W.cond O (fun hc14=>?_) (fun hc14=>?_)
   · refine W.seq ?_
     refine W.l0 2 [.y 15 _,.y 2 _] [] [] [(2,_)] [] 18 ⟨mU 5 O O,aU fun _ _ H K=>R.asg (eU K 15 O) O H,Zt⟩ O O O O (tU O ?_)
     refine W.ret ?_
     exact Ends.one' (.inr O) O (by rw [orS_at hc9 hz (by simpa using hc14)]) O O Zt
   · refine W.skip ?_
     refine W.l0 2 [.y 16 _,.y 8 _] [] [] [(3,_),(6,_),(7,_),(8,_)] [] 18 ⟨aU fun _ _ H K=>R.addN (i) (1) (eU K 8 O) (kI 1 O) bU H,mU 16 O O,Zt⟩ O O O O (tU O ?_)
     exact ⟨⟨(i + 1),⟨by omega,ext_i hz (by simpa using hc14)⟩⟩,rfl,(by simp only []; omega)⟩
 · obtain rfl : i = l.length:=by omega
   refine W.exit (W.seq ?_)
   refine W.l0 2 [.y 17 _,.y 2 _] [] [] [(2,_)] [] 18 ⟨mU 3 O O,aU fun _ _ H K=>R.asg (eU K 17 O) O H,Zt⟩ O O O O (tU O ?_)
   refine W.ret ?_
   exact Ends.one' (.inr O) O (by rw [orS_z hz]) O O Zt
theorem bcmp_ok (a b : List UInt8) : Fn Try.prog gl 40 [.sl none 1 (a.map D.u8),.sl none 1 (b.map D.u8)] (.int (Lib.compareBytes a b)):=by
 refine Fn.of (n:=8) Try.func40 rfl rfl rfl (nU rfl) fun C hC hD=>?_
 refine W.seq ?_
 refine W.l0 1 [.y 4 _] [] [] [(0,_),(1,_)] [] 8 ⟨aU fun _ _ H _=>R.asg (kI 0 O) O H,Zt⟩ O O O O (tU O ?_)
 refine W.seq ?_
 refine W.l0 4 [.y 5 _,.y 6 _,.y 7 _,.y 4 _] [] [] [(4,_)] [] 8 ⟨mU 0 O O,mU 1 O O,aU fun _ _ H K=>R.cmpB (SC.sl (K 5 _ O)) (SC.sl (K 6 _ O)) H,aU fun _ _ H K=>R.asg (eU K 7 O) O H,Zt⟩ O O O O (tU O ?_)
 refine W.ret ?_
 exact Ends.one' (.inr O) O (O) O O Zt
end Go.Sx

namespace Go.Sx
open Go.Proofs
theorem take32 {a : List UInt8} (h : a.length = 32) : (a.drop 0).take 32 = a:=by
 rw [List.drop_zero,List.take_of_length_le (by rw [h]; exact Nat.le_refl _)]
theorem bcmp32 (a b : List UInt8) (ha : a.length = 32) (hb : b.length = 32) : Fn Try.prog gl 40 [.sl none 1 (((a.drop 0).take 32).map D.u8),.sl none 1 (((b.drop 0).take 32).map D.u8)] (.int (Lib.compareBytes a b)):=by
 rw [take32 ha,take32 hb]; exact bcmp_ok a b
end Go.Sx

namespace Go.Sx
open Go.Proofs
theorem order_ok (a b : Un) (hxa : a.tx.length = 32) (hxb : b.tx.length = 32) : Fn Try.prog gl 26 [coD a,coD b] (.int (ordS a b)):=by
 refine Fn.of (n:=26) Try.func26 rfl rfl rfl (Nat.le_of_ble_eq_true rfl) fun C hC hD=>?_
 refine W.seq ?_
 refine W.line (n:=3) (by decide) (its:=[]) (ks:=[]) (kk:=[]) (live:=[0,1]) (env':=[(0,_),(1,_)])
  (⟨Nat.le_of_ble_eq_true rfl,rfl,
   trivial,rfl,rfl,rfl⟩)
  rfl (bx':=[]) rfl (n':=26) rfl (⟨rfl,_,R.box (evt (show Sg.get _ 0 = some _ from rfl)) rfl rfl (Nat.le_of_ble_eq_true rfl),⟨rfl,_,R.box (evt (show Sg.get _ 1 = some _ from rfl)) rfl rfl (Nat.le_of_ble_eq_true rfl),⟨rfl,_,R.asg (show ev _ _ (.const (.int .i64 0)) = some (.int ((0 : Nat) : Int)) from rfl) rfl (Nat.le_of_ble_eq_true rfl),⟨[2,3],[(2,_),(3,_)],[(3,.var _),(2,.var _)],26,rfl,rfl,rfl, ?_⟩⟩⟩⟩)
 refine W.seq ?_
 refine W.draw (m:=22) (an:=[0,1,0,4,15,0,32,96,0,256,768,2047,0,4096,12288,0,32768,98304,262143,524287,1048575,2097151]) hP (by decide) rfl (its:=[⟨5,_,true⟩,⟨6,_,true⟩,⟨7,_,true⟩,⟨8,_,true⟩,⟨9,_,true⟩,⟨10,_,true⟩,⟨11,_,true⟩,⟨12,_,true⟩,⟨13,_,true⟩,⟨14,_,true⟩,⟨15,_,true⟩,⟨16,_,true⟩,⟨17,_,true⟩,⟨18,_,true⟩,⟨19,_,true⟩,⟨20,_,true⟩,⟨21,_,true⟩,⟨22,_,true⟩,⟨23,_,true⟩,⟨24,_,true⟩,⟨25,_,true⟩,⟨4,_,true⟩]) (ks:=[]) (kk:=[]) (live:=[4]) (env':=[(4,_)])
  (⟨Nat.le_of_ble_eq_true rfl,rfl,
   ⟨⟨rfl,rfl,fun _ τ hb ht hτ=>R.fdP (hτ 3 _ rfl) ht⟩,
   ⟨⟨rfl,rfl,fun _ τ hb ht hτ=>R.ldP (hτ 5 _ rfl) (hb 3 _ rfl) rfl rfl rfl rfl ht⟩,
   ⟨⟨rfl,rfl,fun _ τ hb ht hτ=>R.fdP (hτ 2 _ rfl) ht⟩,
   ⟨⟨rfl,rfl,fun _ τ hb ht hτ=>R.ldP (hτ 7 _ rfl) (hb 2 _ rfl) rfl rfl rfl rfl ht⟩,
   ⟨⟨rfl,rfl,fun _ τ hb ht hτ=>R.callG hC (cmp64_ok b.value a.value) (Bors.cons (Bor.pur (evt (hτ 6 _ rfl)) rfl rfl) (Bors.cons (Bor.pur (evt (hτ 8 _ rfl)) rfl rfl) Bors.nil)) (FrsR.one (.int _)) ht⟩,
   ⟨⟨rfl,rfl,fun _ τ hb ht hτ=>R.fdP (hτ 2 _ rfl) ht⟩,
   ⟨⟨rfl,rfl,fun _ τ hb ht hτ=>R.fdP (hτ 10 _ rfl) ht⟩,
   ⟨⟨rfl,rfl,fun _ τ hb ht hτ=>R.slAN (0) (32) (32) (hτ 11 _ rfl) (hb 2 _ rfl) rfl rfl rfl rfl rfl (by first | omega | (simp only [List.length_map,List.length_append,List.length_cons,List.length_nil,List.length_take,List.length_drop,List.length_replicate]; omega) | (simp; omega)) (by first | omega | (simp only [List.length_map,List.length_append,List.length_cons,List.length_nil,List.length_take,List.length_drop,List.length_replicate]; omega) | (simp; omega)) rfl ht⟩,
   ⟨⟨rfl,rfl,fun _ τ hb ht hτ=>R.fdP (hτ 3 _ rfl) ht⟩,
   ⟨⟨rfl,rfl,fun _ τ hb ht hτ=>R.fdP (hτ 13 _ rfl) ht⟩,
   ⟨⟨rfl,rfl,fun _ τ hb ht hτ=>R.slAN (0) (32) (32) (hτ 14 _ rfl) (hb 3 _ rfl) rfl rfl rfl rfl rfl (by first | omega | (simp only [List.length_map,List.length_append,List.length_cons,List.length_nil,List.length_take,List.length_drop,List.length_replicate]; omega) | (simp; omega)) (by first | omega | (simp only [List.length_map,List.length_append,List.length_cons,List.length_nil,List.length_take,List.length_drop,List.length_replicate]; omega) | (simp; omega)) rfl ht⟩,
   ⟨⟨rfl,rfl,fun _ τ hb ht hτ=>R.callG hC (bcmp32 a.tx b.tx hxa hxb) (Bors.cons (Bor.sc (SC.va (hτ 12 _ rfl) (hb 2 _ rfl) rfl (by first | omega | (simp only [List.length_map,List.length_append,List.length_cons,List.length_nil,List.length_take,List.length_drop,List.length_replicate]; omega) | (simp; omega))) (brw_part (fun _=>rfl))) (Bors.cons (Bor.sc (SC.va (hτ 15 _ rfl) (hb 3 _ rfl) rfl (by first | omega | (simp only [List.length_map,List.length_append,List.length_cons,List.length_nil,List.length_take,List.length_drop,List.length_replicate]; omega) | (simp; omega))) (brw_part (fun _=>rfl))) Bors.nil)) (FrsR.one (.int _)) ht⟩,
   ⟨⟨rfl,rfl,fun _ τ hb ht hτ=>R.fdP (hτ 2 _ rfl) ht⟩,
   ⟨⟨rfl,rfl,fun _ τ hb ht hτ=>R.fdP (hτ 17 _ rfl) ht⟩,
   ⟨⟨rfl,rfl,fun _ τ hb ht hτ=>R.ldP (hτ 18 _ rfl) (hb 2 _ rfl) rfl rfl rfl rfl ht⟩,
   ⟨⟨rfl,rfl,fun _ τ hb ht hτ=>R.fdP (hτ 3 _ rfl) ht⟩,
   ⟨⟨rfl,rfl,fun _ τ hb ht hτ=>R.fdP (hτ 20 _ rfl) ht⟩,
   ⟨⟨rfl,rfl,fun _ τ hb ht hτ=>R.ldP (hτ 21 _ rfl) (hb 3 _ rfl) rfl rfl rfl rfl ht⟩,
   ⟨⟨rfl,rfl,fun _ τ hb ht hτ=>R.callG hC (cmp32_ok a.n b.n) (Bors.cons (Bor.pur (evt (hτ 19 _ rfl)) rfl rfl) (Bors.cons (Bor.pur (evt (hτ 22 _ rfl)) rfl rfl) Bors.nil)) (FrsR.one (.int _)) ht⟩,
   ⟨⟨rfl,rfl,fun _ τ hb ht hτ=>R.bslE (z:=1) (.cons (evt (hτ 9 _ rfl)) (.cons (evt (hτ 16 _ rfl)) (.cons (evt (hτ 23 _ rfl)) .nil))) ⟨⟨rfl,rfl,rfl⟩,⟨⟨rfl,rfl,rfl⟩,⟨⟨rfl,rfl,rfl⟩,trivial⟩⟩⟩ rfl ht (by decide)⟩,
   ⟨⟨rfl,rfl,fun _ τ hb ht hτ=>R.callG hC (or_ok [c64 b.value a.value,Lib.compareBytes a.tx b.tx,c32 a.n b.n] (by simp)) (Bors.cons (Bor.sc (SC.sl (hτ 24 _ rfl)) rfl) Bors.nil) (FrsR.one (.int _)) ht⟩,
   ⟨⟨rfl,rfl,fun _ τ hb ht hτ=>R.asg (evt (hτ 25 _ rfl)) rfl ht⟩,
   trivial⟩⟩⟩⟩⟩⟩⟩⟩⟩⟩⟩⟩⟩⟩⟩⟩⟩⟩⟩⟩⟩⟩,rfl,rfl,rfl⟩)
  rfl (bx':=[(3,.var _),(2,.var _)]) rfl (n':=26) rfl (⟨[4],[(4,_)],[(3,.var _),(2,.var _)],26,rfl,rfl,rfl, ?_⟩)
 refine W.ret ?_
 exact Ends.one' (.inr rfl) rfl (rfl) rfl rfl trivial
end Go.Sx

namespace Go.Proofs
open Go.Shelf
def Try.sortU_ren : Go.Shelf.Ren:=⟨fun | 6=>25 | 15=>37 | 14=>36 | 28=>52 | 29=>53 | 20=>44 | 21=>45 | 22=>46 | 23=>47 | 24=>48 | 25=>49 | 26=>50 | 27=>51 | 46=>69 | 47=>70 | 48=>71 | 49=>72 | 50=>73 | 57=>75 | n=>n,fun | 22=>22 | 24=>67 | 25=>81 | 3=>3 | 39=>92 | 0=>0 | 53=>26 | 55=>25 | 4=>4 | 46=>102 | 45=>101 | 50=>98 | 5=>5 | 9=>9 | 66=>121 | 70=>125 | 76=>128 | 77=>129 | n=>n,fun | n=>n⟩
theorem Try.sortU : Go.Proofs.SlLaysF0.n6 Try.prog Try.sortU_ren:={
 mixed:=by kernel_rfl
 f6:=⟨Try.f25.name,by decide,Try.func25.trans (congrArg some (by kernel_rfl))⟩
 f14:=⟨Try.f36.name,by decide,Try.func36.trans (congrArg some (by kernel_rfl))⟩
 f15:=Try.func37.trans (congrArg some (by kernel_rfl))
 f20:=⟨Try.f44.name,by decide,Try.func44.trans (congrArg some (by kernel_rfl))⟩
 f21:=⟨Try.f45.name,by decide,Try.func45.trans (congrArg some (by kernel_rfl))⟩
 f22:=⟨Try.f46.name,by decide,Try.func46.trans (congrArg some (by kernel_rfl))⟩
 f23:=⟨Try.f47.name,by decide,Try.func47.trans (congrArg some (by kernel_rfl))⟩
 f24:=⟨Try.f48.name,by decide,Try.func48.trans (congrArg some (by kernel_rfl))⟩
 f25:=⟨Try.f49.name,by decide,Try.func49.trans (congrArg some (by kernel_rfl))⟩
 f26:=⟨Try.f50.name,by decide,Try.func50.trans (congrArg some (by kernel_rfl))⟩
 f27:=⟨Try.f51.name,by decide,Try.func51.trans (congrArg some (by kernel_rfl))⟩
 f28:=Try.func52.trans (congrArg some (by kernel_rfl))
 f29:=Try.func53.trans (congrArg some (by kernel_rfl))
 f46:=⟨Try.f69.name,by decide,Try.func69.trans (congrArg some (by kernel_rfl))⟩
 f47:=Try.func70.trans (congrArg some (by kernel_rfl))
 f48:=Try.func71.trans (congrArg some (by kernel_rfl))
 f49:=⟨Try.f72.name,by decide,Try.func72.trans (congrArg some (by kernel_rfl))⟩
 f50:=⟨Try.f73.name,by decide,Try.func73.trans (congrArg some (by kernel_rfl))⟩
 f57:=⟨Try.f75.name,by decide,Try.func75.trans (congrArg some (by kernel_rfl))⟩
 t0:=Try.underlying0
 a0:=Try.isAgg0
 z0:=Try.sizeOf0
 v0:=Try.zeroValue0
 t3:=Try.underlying3
 a3:=Try.isAgg3
 z3:=Try.sizeOf3
 v3:=Try.zeroValue3
 t4:=Try.underlying4
 a4:=Try.isAgg4
 z4:=Try.sizeOf4
 v4:=Try.zeroValue4
 t5:=Try.underlying5
 a5:=Try.isAgg5
 z5:=Try.sizeOf5
 v5:=Try.zeroValue5
 t9:=Try.underlying9
 a9:=Try.isAgg9
 z9:=Try.sizeOf9
 v9:=Try.zeroValue9
 t22:=Try.underlying22
 a22:=Try.isAgg22
 z22:=Try.sizeOf22
 v22:=Try.zeroValue22
 t25:=Try.underlying81
 a25:=Try.isAgg81
 z25:=Try.sizeOf81
 v25:=Try.zeroValue81
 t39:=Try.underlying92
 a39:=Try.isAgg92
 z39:=Try.sizeOf92
 v39:=Try.zeroValue92
 t45:=Try.underlying101
 a45:=Try.isAgg101
 z45:=Try.sizeOf101
 v45:=Try.zeroValue101
 t46:=Try.underlying102
 a46:=Try.isAgg102
 z46:=Try.sizeOf102
 v46:=Try.zeroValue102
 t50:=Try.underlying98
 a50:=Try.isAgg98
 z50:=Try.sizeOf98
 v50:=Try.zeroValue98
 t53:=Try.underlying26
 a53:=Try.isAgg26
 z53:=Try.sizeOf26
 v53:=Try.zeroValue26
 t55:=Try.underlying25
 a55:=Try.isAgg25
 z55:=Try.sizeOf25
 v55:=Try.zeroValue25
 t66:=Try.underlying121
 a66:=Try.isAgg121
 z66:=Try.sizeOf121
 v66:=Try.zeroValue121
 t70:=Try.underlying125
 a70:=Try.isAgg125
 z70:=Try.sizeOf125
 v70:=Try.zeroValue125
 t76:=Try.underlying128
 a76:=Try.isAgg128
 z76:=Try.sizeOf128
 v76:=Try.zeroValue128
 t77:=Try.underlying129
 a77:=Try.isAgg129
 z77:=Try.sizeOf129
 v77:=Try.zeroValue129 }
end Go.Proofs

namespace Go.Sx
open Go.Proofs Go.Shelf Go.RowKit Go.Sort
structure TC {α : Type} (c : α -> α -> Int) : Prop where
 sym : ∀ x y,c x y < 0 ↔ 0 < c y x
 tr : ∀ x y z,c x y <= 0 -> c y z <= 0 -> c x z <= 0
theorem TC.tr1 {α : Type} {c : α -> α -> Int} (h : TC c) {x y z : α} (h1 : c x y < 0) (h2 : c y z <= 0) : c x z < 0:=by
 have h3:=h.tr x y z (by omega) h2
 rcases Int.lt_or_eq_of_le h3 with h4 | h4
 · exact h4
 · exfalso
   have a1:=h.sym x z
   have a2:=h.sym x y
   have:=h.tr y z x h2 (by omega)
   omega
theorem TC.tr2 {α : Type} {c : α -> α -> Int} (h : TC c) {x y z : α} (h1 : c x y <= 0) (h2 : c y z < 0) : c x z < 0:=by
 have h3:=h.tr x y z h1 (by omega)
 rcases Int.lt_or_eq_of_le h3 with h4 | h4
 · exact h4
 · exfalso
   have a1:=h.sym x z
   have a2:=h.sym y z
   have:=h.tr z x y (by omega) h1
   omega
theorem TC.swo {α : Type} {c : α -> α -> Int} (h : TC c) : SWO (ltOf c) where
 irrefl x:=by have:=h.sym x x; simp only [ltOf,decide_eq_false_iff_not]; omega
 trans x y z h1 h2:=by simp only [ltOf,decide_eq_true_eq] at *; exact h.tr1 h1 (by omega)
 ntrans x y z h1 h2:=by
  simp only [ltOf,decide_eq_false_iff_not] at *
  have a1:=h.sym x y; have a2:=h.sym y z; have a3:=h.sym x z
  have a4:=h.sym y x; have a5:=h.sym z y; have a6:=h.sym z x
  have:=h.tr z y x (by omega) (by omega)
  omega
theorem TC.lex {α : Type} {c d : α -> α -> Int} (h : TC c) (k : TC d) : TC fun x y=>if c x y = 0 then d x y else c x y where
 sym x y:=by
  have a1:=h.sym x y; have a2:=h.sym y x; have a3:=k.sym x y; have a4:=k.sym y x
  by_cases h1 : c x y = 0
  · have h2 : c y x = 0:=by omega
    simp only [h1,h2,if_true]; exact a3
  · have h2 : ¬ c y x = 0:=by omega
    simp only [h1,h2,if_false]; exact a1
 tr x y z:=by
  have a1:=h.sym x y; have a2:=h.sym y z; have a3:=h.sym x z
  have b1:=h.sym y x; have b2:=h.sym z y; have b3:=h.sym z x
  intro h1 h2
  by_cases e1 : c x y = 0
  · by_cases e2 : c y z = 0
    · have e3 : c x z = 0:=by
       have t1:=h.tr x y z (by omega) (by omega)
       have t2:=h.tr z y x (by omega) (by omega)
       omega
      simp only [e1,e2,e3,if_true] at *
      exact k.tr x y z h1 h2
    · simp only [e1,e2,if_true,if_false] at h1 h2
      have:=h.tr2 (x:=x) (y:=y) (z:=z) (by omega) (by omega)
      have e3 : ¬ c x z = 0:=by omega
      simp only [e3,if_false]; omega
  · simp only [e1,if_false] at h1
    have h2' : c y z <= 0:=by
     by_cases e2 : c y z = 0
     · omega
     · simpa only [e2,if_false] using h2
    have:=h.tr1 (x:=x) (y:=y) (z:=z) (by omega) h2'
    have e3 : ¬ c x z = 0:=by omega
    simp only [e3,if_false]; omega
theorem TC.on {α β : Type} {c : α -> α -> Int} (h : TC c) (f : β -> α) : TC fun x y=>c (f x) (f y):=⟨fun x y=>h.sym _ _,fun x y z=>h.tr _ _ _⟩
theorem TC.rev {α : Type} {c : α -> α -> Int} (h : TC c) : TC fun x y=>c y x:=⟨fun x y=>h.sym y x,fun x y z h1 h2=>h.tr z y x h2 h1⟩
theorem tc64 : TC c64 where
 sym x y:=by simp only [c64,UInt64.lt_iff_toNat_lt]; split <;> split <;> (try split) <;> (try split) <;> omega
 tr x y z:=by simp only [c64,UInt64.lt_iff_toNat_lt]; split <;> split <;> (try split) <;> (try split) <;> (try split) <;> (try split) <;> omega
theorem tc32 : TC c32 where
 sym x y:=by simp only [c32,UInt32.lt_iff_toNat_lt]; split <;> split <;> (try split) <;> (try split) <;> omega
 tr x y z:=by simp only [c32,UInt32.lt_iff_toNat_lt]; split <;> split <;> (try split) <;> (try split) <;> (try split) <;> (try split) <;> omega
theorem cmpB_sym : ∀ x y : List UInt8,Lib.compareBytes x y < 0 ↔ 0 < Lib.compareBytes y x
 | [],[]=>by simp [Lib.compareBytes]
 | [],_ :: _=>by simp [Lib.compareBytes]
 | _ :: _,[]=>by simp [Lib.compareBytes]
 | a :: x,b :: y=>by
  have ih:=cmpB_sym x y
  simp only [Lib.compareBytes,UInt8.lt_iff_toNat_lt]
  split <;> split <;> (try split) <;> (try split) <;> omega
theorem cmpB_tr : ∀ x y z : List UInt8,Lib.compareBytes x y <= 0 -> Lib.compareBytes y z <= 0 -> Lib.compareBytes x z <= 0
 | [],_,[]=>by simp [Lib.compareBytes]
 | [],_,_ :: _=>by simp [Lib.compareBytes]
 | _ :: _,[],_=>by simp [Lib.compareBytes]
 | _ :: _,_ :: _,[]=>by simp [Lib.compareBytes]
 | a :: x,b :: y,c :: z=>by
  have ih:=cmpB_tr x y z
  simp only [Lib.compareBytes,UInt8.lt_iff_toNat_lt]
  split <;> split <;> (try split) <;> (try split) <;> (try split) <;> (try split) <;> omega
theorem tcB : TC Lib.compareBytes:=⟨cmpB_sym,cmpB_tr⟩
theorem c64_z {a b : UInt64} (h : c64 a b = 0) : a = b:=by
 unfold c64 at h; split at h
 · omega
 · split at h
   · omega
   · exact UInt64.toNat_inj.1 (by simp only [UInt64.lt_iff_toNat_lt] at *; omega)
theorem c32_z {a b : UInt32} (h : c32 a b = 0) : a = b:=by
 unfold c32 at h; split at h
 · omega
 · split at h
   · omega
   · exact UInt32.toNat_inj.1 (by simp only [UInt32.lt_iff_toNat_lt] at *; omega)
theorem cmpB_z : ∀ {x y : List UInt8},Lib.compareBytes x y = 0 -> x = y
 | [],[],_=>rfl
 | [],_ :: _,h=>by simp [Lib.compareBytes] at h
 | _ :: _,[],h=>by simp [Lib.compareBytes] at h
 | a :: x,b :: y,h=>by
  simp only [Lib.compareBytes] at h
  split at h
  · omega
  · split at h
    · omega
    · rename_i h1 h2
      have e : a = b:=UInt8.toNat_inj.1 (by simp only [UInt8.lt_iff_toNat_lt] at h1 h2; omega)
      rw [e,cmpB_z h]
theorem ord_eq (a b : Un) : ordS a b = if c64 b.value a.value = 0 then (if Lib.compareBytes a.tx b.tx = 0 then c32 a.n b.n else Lib.compareBytes a.tx b.tx) else c64 b.value a.value:=by
 unfold ordS
 simp only [orS]
 split
 · split
   · split <;> simp_all
   · rfl
 · rfl
theorem tcO : TC ordS:=by
 have h:=(tc64.rev.on (fun a : Un=>a.value)).lex ((tcB.on (fun a : Un=>a.tx)).lex (tc32.on (fun a : Un=>a.n)))
 have e : ordS = fun x y=>if c64 y.value x.value = 0 then (if Lib.compareBytes x.tx y.tx = 0 then c32 x.n y.n else Lib.compareBytes x.tx y.tx) else c64 y.value x.value:=by
  funext a b; exact ord_eq a b
 rw [e]; exact h
theorem ord_z {a b : Un} (h : ordS a b = 0) : a.value = b.value /\ upl a = upl b:=by
 rw [ord_eq] at h
 split at h
 · rename_i h1
   split at h
   · rename_i h2
     exact ⟨(c64_z h1).symm,by rw [upl,upl,cmpB_z h2,c32_z h]⟩
   · exact absurd h ‹_›
 · exact absurd h ‹_›
abbrev UnH:={c : Un // c.tx.length = 32}
instance : Inhabited UnH:=⟨⟨⟨List.replicate 32 0,0,0,0⟩,by simp⟩⟩
def encU (c : UnH) : List Value:=(c.1.tx.map fun b=>Value.int .u8 b.toNat) ++ [.int .u32 c.1.n.toNat,.int .u64 c.1.value.toNat,.int .i64 c.1.ht]
theorem encU_len (c : UnH) : (encU c).length = 35:=by simp [encU,c.2]
theorem encU_one (c : UnH) : ∀ v ∈ encU c,v.oneCell' = true:=by
 intro v hv
 simp only [encU,List.mem_append,List.mem_map,List.mem_cons,List.not_mem_nil,or_false] at hv
 rcases hv with ⟨b,_,rfl⟩ | rfl | rfl | rfl <;> rfl
theorem rc_bytes {w : World} {ρ : Nat -> Nat} {G L : Nat -> Prop} {p : Bool} {l : List UInt8} {cs : List Value} {F : List Nat} (hr : Rc w ρ G L p (.arr 32 1 (l.map D.u8)) cs F) : cs = (l.map fun b=>Value.int .u8 b.toNat) /\ F = []:=by
 cases hr with
 | arr _ _ _ _ hl hs hr=>
  rw [List.length_map] at hl
  refine ⟨List.ext_getElem (by rw [hs,List.length_map]; omega) fun i h1 h2=>?_,rfl⟩
  have hi : i < l.length:=by simpa using h2
  have:=hr i (by simpa using hi)
  rw [List.getElem_map] at this
  have e : (cs.drop (i * 1)).take 1 = [cs[i]]:=by
   rw [Nat.mul_one,List.drop_eq_getElem_cons h1]
   rfl
  rw [e] at this
  rw [List.getElem_map]
  generalize cs[i] = v at this
  cases this
  rfl
theorem bytes_rc {w : World} {ρ : Nat -> Nat} {G L : Nat -> Prop} {p : Bool} {l : List UInt8} (hl : l.length = 32) : Rc w ρ G L p (.arr 32 1 (l.map D.u8)) (l.map fun b=>Value.int .u8 b.toNat) []:=by
 refine .arr 32 1 _ _ (by simpa using hl) (by simp [hl]) fun i hi=>?_
 have hi' : i < l.length:=by simpa using hi
 have e : ((l.map fun b=>Value.int .u8 b.toNat).drop (i * 1)).take 1 = [Value.int .u8 l[i].toNat]:=by
  rw [Nat.mul_one,List.drop_eq_getElem_cons (by simpa using hi')]
  simp
 rw [e,List.getElem_map]
 exact .u8 _
theorem agg_cut {w : World} {ρ : Nat -> Nat} {G L : Nat -> Prop} {p : Bool} {d : D} {r : List D} {cs : List Value} {F : List Nat} (h : Rc w ρ G L p (.agg (d :: r)) cs F) :
 ∃ F1 F2,Rc w ρ G L p d (cs.take d.sz) F1 /\ Rc w ρ G L p (.agg r) (cs.drop d.sz) F2 /\ F = F1 ++ F2:=by
 cases h with
 | agg _ _ Fs hs hr=>
  refine ⟨Fs 0,(List.range r.length).flatMap fun k=>Fs (k + 1), ?_, ?_, ?_⟩
  · have:=hr 0 (by simp)
    simpa [offk] using this
  · refine .agg r _ (fun k=>Fs (k + 1)) (by rw [List.length_drop,hs,szs_cons]; omega) fun k hk=>?_
    have:=hr (k + 1) (by simpa using hk)
    rw [List.drop_drop]
    simpa [offk] using this
  · rw [List.length_cons,List.range_succ_eq_map,List.flatMap_cons]
    congr 1
    rw [List.flatMap_map]
theorem cut_agg {w : World} {ρ : Nat -> Nat} {G L : Nat -> Prop} {p : Bool} {d : D} {r : List D} {c1 c2 : List Value} (h1 : Rc w ρ G L p d c1 []) (h2 : Rc w ρ G L p (.agg r) c2 []) : Rc w ρ G L p (.agg (d :: r)) (c1 ++ c2) []:=by
 have l1:=h1.len
 generalize hF : ([] : List Nat) = F at h2
 cases h2 with
 | agg _ _ Fs hs hr=>
  have hz : ∀ k,k < r.length -> Fs k = []:=by
   intro k hk
   have:=(List.flatMap_eq_nil_iff.1 hF.symm) k (List.mem_range.2 hk)
   exact this
  have key:=Rc.agg (w:=w) (ρ:=ρ) (G:=G) (L:=L) (p:=p) (d :: r) (c1 ++ c2) (fun _=>[]) (by rw [List.length_append,l1,hs,szs_cons]) (fun k hk=>by
   cases k with
   | zero=>simpa [offk,l1] using h1
   | succ k=>
    have hk' : k < r.length:=by simpa using hk
    have:=hr k hk'
    rw [hz k hk'] at this
    have e : offk (d :: r) (k + 1) = d.sz + offk r k:=by simp [offk]
    rw [e,<- l1,<- List.drop_drop,List.drop_left]
    exact this)
  have e5 : (List.range (d :: r).length).flatMap (fun _ : Nat=>([] : List Nat)) = []:=by
   rw [List.flatMap_eq_nil_iff]; intro _ _; rfl
  rw [e5] at key
  rw [<- hF]; exact key
theorem agg_nil {w : World} {ρ : Nat -> Nat} {G L : Nat -> Prop} {p : Bool} {cs : List Value} {F : List Nat} (h : Rc w ρ G L p (.agg []) cs F) : cs = [] /\ F = []:=by
 cases h with
 | agg _ _ Fs hs hr=>exact ⟨List.length_eq_zero_iff.1 (by simpa using hs),rfl⟩
theorem nil_agg {w : World} {ρ : Nat -> Nat} {G L : Nat -> Prop} {p : Bool} : Rc w ρ G L p (.agg []) [] []:=Rc.agg [] [] (fun _=>[]) rfl (fun k hk=>by cases hk)
theorem encU_rc {w : World} {ρ : Nat -> Nat} {G L : Nat -> Prop} {p : Bool} (c : UnH) : Rc w ρ G L p (coD c.1) (encU c) []:=by
 have h1 : Rc w ρ G L p (.agg [hashD c.1.tx,.u32 c.1.n]) ((c.1.tx.map fun b=>Value.int .u8 b.toNat) ++ [.int .u32 c.1.n.toNat]) []:=
  cut_agg (bytes_rc c.2) (cut_agg (c1:=[.int .u32 c.1.n.toNat]) (c2:=[]) (.u32 _) nil_agg)
 have h2 : Rc w ρ G L p (.agg [.u64 c.1.value,.int c.1.ht]) [.int .u64 c.1.value.toNat,.int .i64 c.1.ht] []:=
  cut_agg (c1:=[.int .u64 c.1.value.toNat]) (c2:=[.int .i64 c.1.ht]) (.u64 _) (cut_agg (c1:=[.int .i64 c.1.ht]) (c2:=[]) (.int _) nil_agg)
 have:=cut_agg h1 h2
 rw [List.append_assoc] at this
 exact this
theorem encU_rc' {w : World} {ρ : Nat -> Nat} {G L : Nat -> Prop} {p : Bool} {cs : List Value} {F : List Nat} (c : UnH) (h : Rc w ρ G L p (coD c.1) cs F) : cs = encU c /\ F = []:=by
 obtain ⟨F1,F2,h1,h2,rfl⟩:=agg_cut h
 obtain ⟨G1,G2,g1,g2,rfl⟩:=agg_cut h1
 obtain ⟨G3,G4,g3,g4,rfl⟩:=agg_cut g2
 obtain ⟨G5,G6,g5,g6,rfl⟩:=agg_cut h2
 obtain ⟨G7,G8,g7,g8,rfl⟩:=agg_cut g6
 obtain ⟨a1,rfl⟩:=rc_bytes g1
 obtain ⟨a4,rfl⟩:=agg_nil g4
 obtain ⟨a8,rfl⟩:=agg_nil g8
 have a1 : (cs.take 33).take 32 = c.1.tx.map fun b=>Value.int .u8 b.toNat:=a1
 have g3 : Rc w ρ G L p (.u32 c.1.n) (((cs.take 33).drop 32).take 1) G3:=g3
 have a4 : ((cs.take 33).drop 32).drop 1 = []:=a4
 have g5 : Rc w ρ G L p (.u64 c.1.value) ((cs.drop 33).take 1) G5:=g5
 have g7 : Rc w ρ G L p (.int c.1.ht) (((cs.drop 33).drop 1).take 1) G7:=g7
 have a8 : ((cs.drop 33).drop 1).drop 1 = []:=a8
 have b3 : ((cs.take 33).drop 32).take 1 = [.int .u32 c.1.n.toNat] /\ G3 = []:=by
  generalize ((cs.take 33).drop 32).take 1 = x at g3
  cases g3; exact ⟨rfl,rfl⟩
 have b5 : (cs.drop 33).take 1 = [.int .u64 c.1.value.toNat] /\ G5 = []:=by
  generalize (cs.drop 33).take 1 = x at g5
  cases g5; exact ⟨rfl,rfl⟩
 have b7 : ((cs.drop 33).drop 1).take 1 = [.int .i64 c.1.ht] /\ G7 = []:=by
  generalize ((cs.drop 33).drop 1).take 1 = x at g7
  cases g7; exact ⟨rfl,rfl⟩
 obtain ⟨b3,rfl⟩:=b3
 obtain ⟨b5,rfl⟩:=b5
 obtain ⟨b7,rfl⟩:=b7
 refine ⟨?_,by simp⟩
 have e1 : cs = cs.take 33 ++ cs.drop 33:=(List.take_append_drop _ _).symm
 have e2 : cs.take 33 = (cs.take 33).take 32 ++ (cs.take 33).drop 32:=(List.take_append_drop _ _).symm
 have e3 : (cs.take 33).drop 32 = ((cs.take 33).drop 32).take 1 ++ ((cs.take 33).drop 32).drop 1:=(List.take_append_drop _ _).symm
 have e4 : cs.drop 33 = (cs.drop 33).take 1 ++ (cs.drop 33).drop 1:=(List.take_append_drop _ _).symm
 have e5 : (cs.drop 33).drop 1 = ((cs.drop 33).drop 1).take 1 ++ ((cs.drop 33).drop 1).drop 1:=(List.take_append_drop _ _).symm
 rw [e1,e2,a1,e3,b3,a4,e4,b5,e5,b7,a8]
 simp [encU]
def cfU (a b : UnH) : Int:=ordS a.1 b.1
theorem swoU : SWO (ltOf cfU):=(tcO.on (fun a : UnH=>a.1)).swo
def nrm (c : Un) : UnH:=if h : c.tx.length = 32 then ⟨c,h⟩ else default
def srtA (l : List Un) : Array UnH:=pdq (ltOf cfU) (l.map nrm).toArray 0 (l.map nrm).toArray.size (Lib.bitLen (l.map nrm).toArray.size) true true
def sortU (l : List Un) : List Un:=(srtA l).toList.map (·.1)
theorem srtA_ok (l : List Un) : PermIn 0 (l.map nrm).toArray.size (l.map nrm).toArray (srtA l) /\ SortedIn (ltOf cfU) 0 (l.map nrm).toArray.size (srtA l):=
 pdq_sorts (ltOf cfU) swoU _ 0 _ _ true true (Nat.zero_le _) (Nat.le_refl _) (Or.inl rfl)
theorem srtC (l : List Un) (hl : l.length <= 1000000) : SrtC Try.prog 25 26 35 encU (l.map nrm).toArray (srtA l) where
 none p cap w:=AnyF.slices_SortFunc_none Try.sortU p cap _ w
 some blk cap w hH hb:=by
  have eg : ∀ args w,(callFunc 26 args).run Try.prog w = .ok (.enter 26 args) w:=enters_of Try.func26 (by kernel_rfl) rfl
  exact AnyQ.slices_SortFunc_eq Try.sortU 35 (fun w=>by exact (Try.isAgg67 : _) w) (fun w=>by exact (Try.sizeOf67 : _) w) encU encU_len encU_one cfU swoU 26 #[] blk 0 cap _ w eg
   (cmpLays_of (fun _=>rfl) (fun _ _ _ _ x=>encU_rc x) (fun x y=>order_ok x.1 y.1 x.2 y.2)) hH hb (by simp; omega)
 sz:=by
  exact (srtA_ok l).1.1
end Go.Sx

namespace Go.Sx
open Go.Proofs
theorem fee_bad (ins outs : Int) (rate : UInt64) (hf : feeP ins outs rate) : Fn Try.prog gl 9 [.int ins,.int outs,.u64 rate] (.tup [.u64 0,.int 1]):=by
 refine Fn.of (n:=35) Try.func9 rfl rfl rfl (nU rfl) fun C hC hD=>?_
 refine W.seq ?_
 refine W.l0 2 [.y 6 _,.y 7 _] [] [] [(0,_),(1,_),(2,_)] [] 35 ⟨aU fun _ _ H _=>R.asg (show ev _ _ (.const (.int .u64 0)) = some (.u64 0) from O) O H,aU fun _ _ H _=>R.asg (kI 0 O) O H,Zt⟩ O O O O (tU O ?_)
 refine W.seq (W.seq ?_)
 by_cases k1 : ins < 0
 · refine W.l0 18 [.y 8 _,.y 9 _,.y 10 _,.x 11,.x 12,.y 13 _,.y 14 _,.x 15,.x 16,.y 17 _,.y 18 _,.x 19,.x 20,.y 21 _,.y 22 _,.x 23,.x 24,.y 25 _] [] [] [(0,_),(1,_),(2,_),(25,_)] [] 35 ⟨mU 0 O O,aU fun _ _ H K=>R.bin (eU K 8 O) (kI 0 O) O Zt H,mU 9 O O,aF O O (gT (dT k1) O),aF O O (gT (dT k1) O),aU fun _ _ H K=>R.pickT (eU K 10 O) (dT k1) (kB true O) O H,mU 13 O O,aF O O (gT (O) O),aF O O (gT (O) O),aU fun _ _ H K=>R.pickT (eU K 14 O) (O) (kB true O) O H,mU 17 O O,aF O O (gT (O) O),aF O O (gT (O) O),aU fun _ _ H K=>R.pickT (eU K 18 O) (O) (kB true O) O H,mU 21 O O,aF O O (gT (O) O),aF O O (gT (O) O),aU fun _ _ H K=>R.pickT (eU K 22 O) (O) (kB true O) O H,Zt⟩ O O O O (tU O ?_)
   refine W.condT O (O) ?_
   refine W.seq ?_
   refine W.l0 2 [.y 6 _,.y 7 _] [] [] [(6,_),(7,_)] [] 35 ⟨aU fun _ _ H _=>R.asg (show ev _ _ (.const (.int .u64 0)) = some (.u64 0) from O) O H,aU fun _ _ H _=>R.asg (kI 1 O) O H,Zt⟩ O O O O (tU O ?_)
   refine W.ret ?_
   exact Ends.many (.inr O) (.cons O O O Zt (.cons O O O Zt .nil)) (O) (show [(6,true),(7,true)].Nodup by decide)
 · by_cases k2 : 4096 < ins
   · refine W.l0 18 [.y 8 _,.y 9 _,.y 10 _,.y 11 _,.y 12 _,.y 13 _,.y 14 _,.x 15,.x 16,.y 17 _,.y 18 _,.x 19,.x 20,.y 21 _,.y 22 _,.x 23,.x 24,.y 25 _] [] [] [(0,_),(1,_),(2,_),(25,_)] [] 35 ⟨mU 0 O O,aU fun _ _ H K=>R.bin (eU K 8 O) (kI 0 O) O Zt H,mU 9 O O,aW O O (gF (dF k1) O) fun _ _ H K=>R.mov (eU K 0 O) O H,aW O O (gF (dF k1) O) fun _ _ H K=>R.bin (eU K 11 O) (kI 4096 O) O Zt H,aU fun _ _ H K=>R.pickF (eU K 10 O) (dF k1) (eU K 12 O) O H,mU 13 O O,aF O O (gT (dT k2) O),aF O O (gT (dT k2) O),aU fun _ _ H K=>R.pickT (eU K 14 O) (dT k2) (kB true O) O H,mU 17 O O,aF O O (gT (O) O),aF O O (gT (O) O),aU fun _ _ H K=>R.pickT (eU K 18 O) (O) (kB true O) O H,mU 21 O O,aF O O (gT (O) O),aF O O (gT (O) O),aU fun _ _ H K=>R.pickT (eU K 22 O) (O) (kB true O) O H,Zt⟩ O O O O (tU O ?_)
     refine W.condT O (O) ?_
     refine W.seq ?_
     refine W.l0 2 [.y 6 _,.y 7 _] [] [] [(6,_),(7,_)] [] 35 ⟨aU fun _ _ H _=>R.asg (show ev _ _ (.const (.int .u64 0)) = some (.u64 0) from O) O H,aU fun _ _ H _=>R.asg (kI 1 O) O H,Zt⟩ O O O O (tU O ?_)
     refine W.ret ?_
     exact Ends.many (.inr O) (.cons O O O Zt (.cons O O O Zt .nil)) (O) (show [(6,true),(7,true)].Nodup by decide)
   · by_cases k3 : outs < 0
     · refine W.l0 18 [.y 8 _,.y 9 _,.y 10 _,.y 11 _,.y 12 _,.y 13 _,.y 14 _,.y 15 _,.y 16 _,.y 17 _,.y 18 _,.x 19,.x 20,.y 21 _,.y 22 _,.x 23,.x 24,.y 25 _] [] [] [(0,_),(1,_),(2,_),(25,_)] [] 35 ⟨mU 0 O O,aU fun _ _ H K=>R.bin (eU K 8 O) (kI 0 O) O Zt H,mU 9 O O,aW O O (gF (dF k1) O) fun _ _ H K=>R.mov (eU K 0 O) O H,aW O O (gF (dF k1) O) fun _ _ H K=>R.bin (eU K 11 O) (kI 4096 O) O Zt H,aU fun _ _ H K=>R.pickF (eU K 10 O) (dF k1) (eU K 12 O) O H,mU 13 O O,aW O O (gF (dF k2) O) fun _ _ H K=>R.mov (eU K 1 O) O H,aW O O (gF (dF k2) O) fun _ _ H K=>R.bin (eU K 15 O) (kI 0 O) O Zt H,aU fun _ _ H K=>R.pickF (eU K 14 O) (dF k2) (eU K 16 O) O H,mU 17 O O,aF O O (gT (dT k3) O),aF O O (gT (dT k3) O),aU fun _ _ H K=>R.pickT (eU K 18 O) (dT k3) (kB true O) O H,mU 21 O O,aF O O (gT (O) O),aF O O (gT (O) O),aU fun _ _ H K=>R.pickT (eU K 22 O) (O) (kB true O) O H,Zt⟩ O O O O (tU O ?_)
       refine W.condT O (O) ?_
       refine W.seq ?_
       refine W.l0 2 [.y 6 _,.y 7 _] [] [] [(6,_),(7,_)] [] 35 ⟨aU fun _ _ H _=>R.asg (show ev _ _ (.const (.int .u64 0)) = some (.u64 0) from O) O H,aU fun _ _ H _=>R.asg (kI 1 O) O H,Zt⟩ O O O O (tU O ?_)
       refine W.ret ?_
       exact Ends.many (.inr O) (.cons O O O Zt (.cons O O O Zt .nil)) (O) (show [(6,true),(7,true)].Nodup by decide)
     · by_cases k4 : 4096 < outs
       · refine W.l0 18 [.y 8 _,.y 9 _,.y 10 _,.y 11 _,.y 12 _,.y 13 _,.y 14 _,.y 15 _,.y 16 _,.y 17 _,.y 18 _,.y 19 _,.y 20 _,.y 21 _,.y 22 _,.x 23,.x 24,.y 25 _] [] [] [(0,_),(1,_),(2,_),(25,_)] [] 35 ⟨mU 0 O O,aU fun _ _ H K=>R.bin (eU K 8 O) (kI 0 O) O Zt H,mU 9 O O,aW O O (gF (dF k1) O) fun _ _ H K=>R.mov (eU K 0 O) O H,aW O O (gF (dF k1) O) fun _ _ H K=>R.bin (eU K 11 O) (kI 4096 O) O Zt H,aU fun _ _ H K=>R.pickF (eU K 10 O) (dF k1) (eU K 12 O) O H,mU 13 O O,aW O O (gF (dF k2) O) fun _ _ H K=>R.mov (eU K 1 O) O H,aW O O (gF (dF k2) O) fun _ _ H K=>R.bin (eU K 15 O) (kI 0 O) O Zt H,aU fun _ _ H K=>R.pickF (eU K 14 O) (dF k2) (eU K 16 O) O H,mU 17 O O,aW O O (gF (dF k3) O) fun _ _ H K=>R.mov (eU K 1 O) O H,aW O O (gF (dF k3) O) fun _ _ H K=>R.bin (eU K 19 O) (kI 4096 O) O Zt H,aU fun _ _ H K=>R.pickF (eU K 18 O) (dF k3) (eU K 20 O) O H,mU 21 O O,aF O O (gT (dT k4) O),aF O O (gT (dT k4) O),aU fun _ _ H K=>R.pickT (eU K 22 O) (dT k4) (kB true O) O H,Zt⟩ O O O O (tU O ?_)
         refine W.condT O (O) ?_
         refine W.seq ?_
         refine W.l0 2 [.y 6 _,.y 7 _] [] [] [(6,_),(7,_)] [] 35 ⟨aU fun _ _ H _=>R.asg (show ev _ _ (.const (.int .u64 0)) = some (.u64 0) from O) O H,aU fun _ _ H _=>R.asg (kI 1 O) O H,Zt⟩ O O O O (tU O ?_)
         refine W.ret ?_
         exact Ends.many (.inr O) (.cons O O O Zt (.cons O O O Zt .nil)) (O) (show [(6,true),(7,true)].Nodup by decide)
       · refine W.l0 18 [.y 8 _,.y 9 _,.y 10 _,.y 11 _,.y 12 _,.y 13 _,.y 14 _,.y 15 _,.y 16 _,.y 17 _,.y 18 _,.y 19 _,.y 20 _,.y 21 _,.y 22 _,.y 23 _,.y 24 _,.y 25 _] [] [] [(0,_),(1,_),(2,_),(25,_)] [] 35 ⟨mU 0 O O,aU fun _ _ H K=>R.bin (eU K 8 O) (kI 0 O) O Zt H,mU 9 O O,aW O O (gF (dF k1) O) fun _ _ H K=>R.mov (eU K 0 O) O H,aW O O (gF (dF k1) O) fun _ _ H K=>R.bin (eU K 11 O) (kI 4096 O) O Zt H,aU fun _ _ H K=>R.pickF (eU K 10 O) (dF k1) (eU K 12 O) O H,mU 13 O O,aW O O (gF (dF k2) O) fun _ _ H K=>R.mov (eU K 1 O) O H,aW O O (gF (dF k2) O) fun _ _ H K=>R.bin (eU K 15 O) (kI 0 O) O Zt H,aU fun _ _ H K=>R.pickF (eU K 14 O) (dF k2) (eU K 16 O) O H,mU 17 O O,aW O O (gF (dF k3) O) fun _ _ H K=>R.mov (eU K 1 O) O H,aW O O (gF (dF k3) O) fun _ _ H K=>R.bin (eU K 19 O) (kI 4096 O) O Zt H,aU fun _ _ H K=>R.pickF (eU K 18 O) (dF k3) (eU K 20 O) O H,mU 21 O O,aW O O (gF (dF k4) O) fun _ _ H K=>R.mov (eU K 2 O) O H,aW O O (gF (dF k4) O) fun _ _ H K=>R.bin (eU K 23 O) (show ev _ _ (.const (.int .u64 1000000)) = some (.u64 1000000) from O) O Zt H,aU fun _ _ H K=>R.pickF (eU K 22 O) (dF k4) (eU K 24 O) O H,Zt⟩ O O O O (tU O ?_)
         refine W.condT rfl (dT (by rcases hf with h | h | h | h | h <;> first | exact absurd h k1 | exact absurd h k2 | exact absurd h k3 | exact absurd h k4 | exact h)) ?_
         refine W.seq ?_
         refine W.l0 2 [.y 6 _,.y 7 _] [] [] [(6,_),(7,_)] [] 35 ⟨aU fun _ _ H _=>R.asg (show ev _ _ (.const (.int .u64 0)) = some (.u64 0) from O) O H,aU fun _ _ H _=>R.asg (kI 1 O) O H,Zt⟩ O O O O (tU O ?_)
         refine W.ret ?_
         exact Ends.many (.inr O) (.cons O O O Zt (.cons O O O Zt .nil)) (O) (show [(6,true),(7,true)].Nodup by decide)
theorem fee_good (ins outs : Nat) (rate : UInt64) (hi : ins <= 4096) (ho : outs <= 4096) (hr : ¬ 1000000 < rate) : Fn Try.prog gl 9 [.int ((ins : Nat) : Int),.int ((outs : Nat) : Int),.u64 rate] (.tup [.u64 (UInt64.ofInt ((10 + 148 * ins + 34 * outs : Nat) : Int) * rate),.int 0]):=by
 refine Fn.of (n:=35) Try.func9 rfl rfl rfl (nU rfl) fun C hC hD=>?_
 refine W.seq ?_
 refine W.l0 2 [.y 6 _,.y 7 _] [] [] [(0,_),(1,_),(2,_)] [] 35 ⟨aU fun _ _ H _=>R.asg (show ev _ _ (.const (.int .u64 0)) = some (.u64 0) from O) O H,aU fun _ _ H _=>R.asg (kI 0 O) O H,Zt⟩ O O O O (tU O ?_)
 refine W.seq (W.seq ?_)
 refine W.l0 18 [.y 8 _,.y 9 _,.y 10 _,.y 11 _,.y 12 _,.y 13 _,.y 14 _,.y 15 _,.y 16 _,.y 17 _,.y 18 _,.y 19 _,.y 20 _,.y 21 _,.y 22 _,.y 23 _,.y 24 _,.y 25 _] [] [] [(0,_),(1,_),(2,_),(25,_)] [] 35 ⟨mU 0 O O,aU fun _ _ H K=>R.lssN (ins) (0) (eU K 8 O) (kI 0 O) H,mU 9 O O,aW O O (gF (dF (by omega)) O) fun _ _ H K=>R.mov (eU K 0 O) O H,aW O O (gF (dF (by omega)) O) fun _ _ H K=>R.gtrN (ins) (4096) (eU K 11 O) (kI 4096 O) H,aU fun _ _ H K=>R.pickF (eU K 10 O) (dF (by omega)) (eU K 12 O) O H,mU 13 O O,aW O O (gF (dF (by omega)) O) fun _ _ H K=>R.mov (eU K 1 O) O H,aW O O (gF (dF (by omega)) O) fun _ _ H K=>R.lssN (outs) (0) (eU K 15 O) (kI 0 O) H,aU fun _ _ H K=>R.pickF (eU K 14 O) (dF (by omega)) (eU K 16 O) O H,mU 17 O O,aW O O (gF (dF (by omega)) O) fun _ _ H K=>R.mov (eU K 1 O) O H,aW O O (gF (dF (by omega)) O) fun _ _ H K=>R.gtrN (outs) (4096) (eU K 19 O) (kI 4096 O) H,aU fun _ _ H K=>R.pickF (eU K 18 O) (dF (by omega)) (eU K 20 O) O H,mU 21 O O,aW O O (gF (dF (by omega)) O) fun _ _ H K=>R.mov (eU K 2 O) O H,aW O O (gF (dF (by omega)) O) fun _ _ H K=>R.bin (eU K 23 O) (show ev _ _ (.const (.int .u64 1000000)) = some (.u64 1000000) from O) O Zt H,aU fun _ _ H K=>R.pickF (eU K 22 O) (dF (by omega)) (eU K 24 O) O H,Zt⟩ O O O O (tU O ?_)
 refine W.condF O (dF hr) ?_
 refine W.skip (W.seq ?_)
 refine W.l0 11 [.y 26 _,.y 27 _,.y 28 _,.y 29 _,.y 30 _,.y 31 _,.y 32 _,.y 33 _,.y 34 _,.y 6 _,.y 7 _] [] [] [(6,_),(7,_)] [] 35 ⟨mU 0 O O,aU fun _ _ H K=>R.mulN (148) (ins) (kI 148 O) (eU K 26 O) bU H,aU fun _ _ H K=>R.addN (10) ((148 * ins)) (kI 10 O) (eU K 27 O) bU H,mU 1 O O,aU fun _ _ H K=>R.mulN (34) (outs) (kI 34 O) (eU K 29 O) bU H,aU fun _ _ H K=>R.addN ((10 + (148 * ins))) ((34 * outs)) (eU K 28 O) (eU K 30 O) bU H,aU fun _ _ H K=>R.conv (eU K 31 O) O H,mU 2 O O,aU fun _ _ H K=>R.bin (eU K 32 O) (eU K 33 O) O Zt H,aU fun _ _ H K=>R.asg (eU K 34 O) O H,aU fun _ _ H _=>R.asg (kI 0 O) O H,Zt⟩ O O O O (tU O ?_)
 refine W.ret ?_
 exact Ends.many (.inr O) (.cons O O O Zt (.cons O O O Zt .nil)) (O) (show [(6,true),(7,true)].Nodup by decide)
end Go.Sx

namespace Go.Sx
open Go.Proofs Go.Shelf Go.RowKit Go.Sort
theorem bfalse {b : Bool} (h : ¬ b = true) : b = false:=by cases b; rfl; exact absurd rfl h
def hs32 (l : List Un) : Prop:=∀ c ∈ l,c.tx.length = 32
theorem nrm_val {c : Un} (h : c.tx.length = 32) : (nrm c).1 = c:=by rw [nrm,dif_pos h]
theorem nrm_map {l : List Un} (h : hs32 l) : (l.map nrm).map (·.1) = l:=by
 rw [List.map_map]
 conv=>rhs; rw [<- List.map_id l]
 exact List.map_congr_left fun c hc=>nrm_val (h c hc)
theorem sortU_perm {l : List Un} (h : hs32 l) : (sortU l).Perm l:=by
 have:=(srtA_ok l).1
 obtain ⟨hs,_,hp⟩:=this
 have e1 : (srtA l).extract 0 (l.map nrm).toArray.size = srtA l:=by rw [<- hs]; simp
 have e2 : (l.map nrm).toArray.extract 0 (l.map nrm).toArray.size = (l.map nrm).toArray:=by simp [List.take_of_length_le]
 rw [e1,e2] at hp
 have:=hp.map (·.1)
 rw [List.toList_toArray,nrm_map h] at this
 exact this
theorem sortU_len (l : List Un) : (sortU l).length = l.length:=by
 have:=(srtA_ok l).1.1
 simp only [sortU,List.length_map,Array.length_toList,this]
 simp
theorem sortU_hs {l : List Un} (h : hs32 l) : hs32 (sortU l):=fun c hc=>h c ((sortU_perm h).mem_iff.1 hc)
theorem sortU_sorted (l : List Un) {i j : Nat} (hij : i < j) (hj : j < l.length) : 0 <= ordS (sortU l)[j]! (sortU l)[i]!:=by
 have h1:=(srtA_ok l).2 i j (Nat.zero_le _) hij (by simpa using hj)
 have hs:=(srtA_ok l).1.1
 have hj' : j < (srtA l).size:=by rw [hs]; simpa using hj
 have hi' : i < (srtA l).size:=by omega
 have e : ∀ k (hk : k < (srtA l).size),(sortU l)[k]! = ((srtA l)[k]!).1:=fun k hk=>by
  rw [getElem!_pos (srtA l) k hk,getElem!_pos (sortU l) k (by simpa [sortU] using hk)]
  simp [sortU]
 rw [e j hj',e i hi']
 simp only [ltOf,cfU,decide_eq_false_iff_not] at h1
 exact Int.not_lt.1 (of_decide_eq_false h1)
theorem R.srtU {C : Ctx} {σ : Sg} {s s0 e t : Nat} {tys : Array TypeId} {rt : TypeId} {pos : String} {aft : Array Edge} {gd_ : Option (Nat × Bool)} (l : List Un) (hl : hs32 l) (hn : l.length <= 1000000)
 (ho : ownr σ s s0) (hs : σ.get s0 = some (.sl (some e) 35 (l.map coD))) (ht : t < σ.n) :
 OpS Try.prog C ⟨some t,.call { callee:=.value (.func 25),args:=#[.tmp s,.func 26],argTypes:=tys },rt,pos,aft,gd_⟩ σ ((σ.upd s0 (.sl (some e) 35 ((sortU l).map coD))).set t (.tup [])):=by
 refine R.sortS (el:=fun c : UnH=>coD c.1) (srtC l hn) encU_len encU_one (fun _ _ _ _ x=>encU_rc x) (fun _ _ _ _ _ _ x h=>encU_rc' x h) ?_ ?_ ho hs ht
 · conv=>lhs; rw [<- nrm_map hl]
   rw [List.map_map,List.toList_toArray]
   rfl
 · rw [Go.Sx.sortU,List.map_map]; rfl
theorem fee_ok (ins outs : Int) (rate : UInt64) : Fn Try.prog gl 9 [.int ins,.int outs,.u64 rate] (.tup [.u64 (feeV ins outs rate),.int (feeE ins outs rate)]):=by
 by_cases hf : feeP ins outs rate
 · rw [<- fee_t hf]; exact fee_bad ins outs rate hf
 · rw [<- fee_f hf]
   unfold feeP at hf
   obtain ⟨i,rfl⟩:=Int.eq_ofNat_of_zero_le (show 0 <= ins by omega)
   obtain ⟨o,rfl⟩:=Int.eq_ofNat_of_zero_le (show 0 <= outs by omega)
   have:=fee_good i o rate (by omega) (by omega) (fun h=>hf (.inr (.inr (.inr (.inr h)))))
   have e : ((10 + 148 * i + 34 * o : Nat) : Int) = 10 + 148 * (i : Int) + 34 * (o : Int):=by omega
   rw [e] at this
   exact this
theorem tot_f {l : List Wnt} (h : ¬ totP l) : [D.u64 0,D.bool false] = [.u64 (totV l),.bool (totB l)]:=by rw [totV,totB,if_neg h,decide_eq_false h]
theorem tot_t {l : List Wnt} (h : totP l) : [D.u64 (2100000000000000 - lftI l l.length),D.bool true] = [.u64 (totV l),.bool (totB l)]:=by rw [totV,totB,if_pos h,decide_eq_true h]
theorem ren_plc (m : Nat -> Nat) (k : Plc) : (placeK k).ren m = placeK k:=by
 simp only [placeK,hashD,D.ren,D.rens]
theorem okPu (ids : List Nat) (m : List (Plc × UInt64)) : ∀ kv ∈ m.map (fun e=>(placeK e.1,D.u64 e.2)),kv.1.okB ids = true /\ kv.2.okB ids = true:=okMpK (fun _=>rfl) (fun _=>rfl)
theorem renPu (m : Nat -> Nat) (M : List (Plc × UInt64)) (i : Nat) (r : List (Nat × Bx)) : renBx m ((i,mpK placeK D.u64 M) :: r) = (m i,mpK placeK D.u64 M) :: renBx m r:=renMp (fun _=>ren_plc _ _) (fun _=>rfl) M i r
end Go.Sx

namespace Go.Sx
open Go.Proofs
theorem total_ok (ws : List Wnt) (hw : ws.length <= 1000000) : Fn Try.prog gl 21 [.sl none 2 (ws.map wntD)] (.tup [.u64 (totV ws),.bool (totB ws)]):=by
 refine Fn.of (n:=43) Try.func21 rfl rfl rfl (nU rfl) fun C hC hD=>?_
 refine W.seq ?_
 refine W.l0 2 [.y 2 _,.y 3 _] [] [] [(0,_)] [] 43 ⟨aU fun _ _ H _=>R.asg (show ev _ _ (.const (.int .u64 0)) = some (.u64 0) from O) O H,aU fun _ _ H _=>R.asg (kB false O) O H,Zt⟩ O O O O (tU O ?_)
 refine W.seq (W.seq ?_)
 by_cases k1 : ws.length = 0
 · refine W.l0 8 [.y 7 _,.y 8 _,.y 9 _,.y 10 _,.x 11,.x 12,.x 13,.y 14 _] [] [] [(0,_),(14,_)] [] 43 ⟨mU 0 O O,aU fun _ _ H K=>R.lenE (SC.sl (K 7 _ O)) (lN _) H,aU fun _ _ H K=>R.eqlN (ws.length) (0) (eU K 8 O) (kI 0 O) H,mU 9 O O,aF O O (gT (dT k1) O),aF O O (gT (dT k1) O),aF O O (gT (dT k1) O),aU fun _ _ H K=>R.pickT (eU K 10 O) (dT k1) (kB true O) O H,Zt⟩ O O O O (tU O ?_)
   refine W.condT O (O) ?_
   refine W.seq ?_
   refine W.l0 2 [.y 2 _,.y 3 _] [] [] [(2,_),(3,_)] [] 43 ⟨aU fun _ _ H _=>R.asg (show ev _ _ (.const (.int .u64 0)) = some (.u64 0) from O) O H,aU fun _ _ H _=>R.asg (kB false O) O H,Zt⟩ O O O O (tU O ?_)
   refine W.ret ?_
   exact Ends.many (.inr O) (.cons O O O Zt (.cons O O O Zt .nil)) (tot_f (fun h=>h.1 k1)) (show [(2,true),(3,true)].Nodup by decide)
 · refine W.l0 8 [.y 7 _,.y 8 _,.y 9 _,.y 10 _,.y 11 _,.y 12 _,.y 13 _,.y 14 _] [] [] [(0,_),(14,_)] [] 43 ⟨mU 0 O O,aU fun _ _ H K=>R.lenE (SC.sl (K 7 _ O)) (lN _) H,aU fun _ _ H K=>R.eqlN (ws.length) (0) (eU K 8 O) (kI 0 O) H,mU 9 O O,aW O O (gF (dF k1) O) fun _ _ H K=>R.mov (eU K 0 O) O H,aW O O (gF (dF k1) O) fun _ _ H K=>R.lenE (SC.sl (K 11 _ O)) (lN _) H,aW O O (gF (dF k1) O) fun _ _ H K=>R.gtrN (ws.length) (64) (eU K 12 O) (kI 64 O) H,aU fun _ _ H K=>R.pickF (eU K 10 O) (dF k1) (eU K 13 O) O H,Zt⟩ O O O O (tU O ?_)
   refine W.condD O (fun hc14=>?_) (fun hc14=>?_)
   · refine W.seq ?_
     refine W.l0 2 [.y 2 _,.y 3 _] [] [] [(2,_),(3,_)] [] 43 ⟨aU fun _ _ H _=>R.asg (show ev _ _ (.const (.int .u64 0)) = some (.u64 0) from O) O H,aU fun _ _ H _=>R.asg (kB false O) O H,Zt⟩ O O O O (tU O ?_)
     refine W.ret ?_
     exact Ends.many (.inr O) (.cons O O O Zt (.cons O O O Zt .nil)) (tot_f (fun h=>by have:=h.2.1; omega)) (show [(2,true),(3,true)].Nodup by decide)
   · refine W.skip (W.seq ?_)
     refine W.l0 1 [.y 4 _] [] [] [(0,_),(4,_)] [] 43 ⟨aU fun _ _ H _=>R.asg (show ev _ _ (.const (.int .u64 2100000000000000)) = some (.u64 2100000000000000) from O) O H,Zt⟩ O O O O (tU O ?_)
     refine W.seq (W.seq ?_)
     refine W.l0 3 [.y 15 _,.y 16 _,.y 17 _] [] [] [(4,_),(15,_),(16,_),(17,_)] [] 43 ⟨mU 0 O O,aU fun _ _ H K=>R.lenE (SC.sl (K 15 _ O)) (lN _) H,aU fun _ _ H _=>R.mov (kI 0 O) O H,Zt⟩ O O O O (tU O ?_)
     refine W.block ?_
     refine W.loop (α:={q__ : Nat // q__ <= ws.length /\ ∀ j < q__,ws[j]!.value ≠ 0 /\ ¬ lftI ws j < ws[j]!.value /\ ws[j]!.script.length <= 1000}) (fun q__=>⟨43,[(4,.u64 (lftI ws q__.1)),(15,.sl none 2 (ws.map wntD)),(16,.int ((ws.length : Nat) : Int)),(17,.int ((q__.1 : Nat) : Int))],[]⟩) (fun q__=>ws.length - q__.1) ⟨(0),⟨Nat.zero_le _,fun j h=>absurd h (Nat.not_lt_zero _)⟩⟩ O ?_
     rintro ⟨i,⟨hi,hok⟩⟩
     show W _ _ _ _ ⟨43,[(4,.u64 (lftI ws i)),(15,.sl none 2 (ws.map wntD)),(16,.int ((ws.length : Nat) : Int)),(17,.int ((i : Nat) : Int))],[]⟩
     have hi : i <= ws.length:=hi
     have hok : ∀ j < i,ws[j]!.value ≠ 0 /\ ¬ lftI ws j < ws[j]!.value /\ ws[j]!.script.length <= 1000:=hok
     refine W.seq ?_
     refine W.l0 1 [.y 18 _] [] [] [(4,_),(15,_),(16,_),(17,_),(18,_)] [] 43 ⟨aU fun _ _ H K=>R.lssN (i) (ws.length) (eU K 17 O) (eU K 16 O) H,Zt⟩ O O O O (tU O ?_)
     refine W.seq ?_
     refine W.condD O (fun hc18=>?_) (fun hc18=>?_)
     · refine W.skip (W.seq (W.block (W.seq ?_)))
       refine W.l0 4 [.y 19 _,.y 20 _] [] [] [(4,_),(15,_),(16,_),(17,_),(20,_)] [] 43 ⟨aU fun _ _ H K=>R.idxN (i) (SC.sl (K 15 _ O)) (evoI (eU K 17 O)) O bU H dU,aU fun _ _ H K=>R.ldE (K 19 _ O) (SC.sl (K 15 _ O)) (map_get! (l:=ws) bU) O O O O H,Zt⟩ O O O O (⟨O,_,R.alloc O (nU O),⟨O,_,R.stZ (gU 6 O) (xU 6 O) O (gV 20 O) (by rfl) (by rfl) (by rfl) (by rfl) O,tV [(4,_),(6,_),(15,_),(16,_),(17,_)] [(6,.var _)] 43 O O O ?_⟩⟩)
       refine W.seq (W.seq ?_)
       by_cases k2 : ws[i]!.value = 0
       · refine W.l0 15 [.y 21 _,.y 22 _,.y 23 _,.y 24 _,.x 25,.x 26,.x 27,.x 28,.y 29 _,.y 30 _,.x 31,.x 32,.x 33,.x 34,.y 35 _] [] [] [(4,_),(6,_),(15,_),(16,_),(17,_),(35,_)] [(6,.var _)] 43 ⟨aU (fU 6 O O),aU (lU 21 O O O O O O O),aU fun _ _ H K=>R.bin (eU K 22 O) (show ev _ _ (.const (.int .u64 0)) = some (.u64 0) from O) O Zt H,mU 23 O O,aF O O (gT (beq_iff_eq.2 k2) O),aF O O (gT (beq_iff_eq.2 k2) O),aF O O (gT (beq_iff_eq.2 k2) O),aF O O (gT (beq_iff_eq.2 k2) O),aU fun _ _ H K=>R.pickT (eU K 24 O) (beq_iff_eq.2 k2) (kB true O) O H,mU 29 O O,aF O O (gT (O) O),aF O O (gT (O) O),aF O O (gT (O) O),aF O O (gT (O) O),aU fun _ _ H K=>R.pickT (eU K 30 O) (O) (kB true O) O H,Zt⟩ O O O O (tU O ?_)
         refine W.condT O (O) ?_
         refine W.seq ?_
         refine W.dropS (live:=[]) (env':=[]) (bx':=[(6,.var _)]) (n':=43) O O O ?_
         refine W.dropB [] (bx':=[]) O O O (pin_sub hD O) ?_
         refine W.l0 2 [.y 2 _,.y 3 _] [] [] [(2,_),(3,_)] [] 43 ⟨aU fun _ _ H _=>R.asg (show ev _ _ (.const (.int .u64 0)) = some (.u64 0) from O) O H,aU fun _ _ H _=>R.asg (kB false O) O H,Zt⟩ O O O O (tU O ?_)
         refine W.ret ?_
         exact Ends.many (.inr O) (.cons O O O Zt (.cons O O O Zt .nil)) (tot_f (fun h=>(h.2.2 i hc18).1 k2)) (show [(2,true),(3,true)].Nodup by decide)
       · by_cases k3 : lftI ws i < ws[i]!.value
         · refine W.l0 15 [.y 21 _,.y 22 _,.y 23 _,.y 24 _,.y 25 _,.y 26 _,.y 27 _,.y 28 _,.y 29 _,.y 30 _,.x 31,.x 32,.x 33,.x 34,.y 35 _] [] [] [(4,_),(6,_),(15,_),(16,_),(17,_),(35,_)] [(6,.var _)] 43 ⟨aU (fU 6 O O),aU (lU 21 O O O O O O O),aU fun _ _ H K=>R.bin (eU K 22 O) (show ev _ _ (.const (.int .u64 0)) = some (.u64 0) from O) O Zt H,mU 23 O O,aW O O (gF (beq_eq_false_iff_ne.2 k2) O) (fU 6 O O),aW O O (gF (beq_eq_false_iff_ne.2 k2) O) (lU 25 O O O O O O O),aW O O (gF (beq_eq_false_iff_ne.2 k2) O) fun _ _ H K=>R.mov (eU K 4 O) O H,aW O O (gF (beq_eq_false_iff_ne.2 k2) O) fun _ _ H K=>R.bin (eU K 26 O) (eU K 27 O) O Zt H,aU fun _ _ H K=>R.pickF (eU K 24 O) (beq_eq_false_iff_ne.2 k2) (eU K 28 O) O H,mU 29 O O,aF O O (gT (dT k3) O),aF O O (gT (dT k3) O),aF O O (gT (dT k3) O),aF O O (gT (dT k3) O),aU fun _ _ H K=>R.pickT (eU K 30 O) (dT k3) (kB true O) O H,Zt⟩ O O O O (tU O ?_)
           refine W.condT O (O) ?_
           refine W.seq ?_
           refine W.dropS (live:=[]) (env':=[]) (bx':=[(6,.var _)]) (n':=43) O O O ?_
           refine W.dropB [] (bx':=[]) O O O (pin_sub hD O) ?_
           refine W.l0 2 [.y 2 _,.y 3 _] [] [] [(2,_),(3,_)] [] 43 ⟨aU fun _ _ H _=>R.asg (show ev _ _ (.const (.int .u64 0)) = some (.u64 0) from O) O H,aU fun _ _ H _=>R.asg (kB false O) O H,Zt⟩ O O O O (tU O ?_)
           refine W.ret ?_
           exact Ends.many (.inr O) (.cons O O O Zt (.cons O O O Zt .nil)) (tot_f (fun h=>(h.2.2 i hc18).2.1 k3)) (show [(2,true),(3,true)].Nodup by decide)
         · refine W.l0 15 [.y 21 _,.y 22 _,.y 23 _,.y 24 _,.y 25 _,.y 26 _,.y 27 _,.y 28 _,.y 29 _,.y 30 _,.y 31 _,.y 32 _,.y 33 _,.y 34 _,.y 35 _] [] [] [(4,_),(6,_),(15,_),(16,_),(17,_),(35,_)] [(6,.var _)] 43 ⟨aU (fU 6 O O),aU (lU 21 O O O O O O O),aU fun _ _ H K=>R.bin (eU K 22 O) (show ev _ _ (.const (.int .u64 0)) = some (.u64 0) from O) O Zt H,mU 23 O O,aW O O (gF (beq_eq_false_iff_ne.2 k2) O) (fU 6 O O),aW O O (gF (beq_eq_false_iff_ne.2 k2) O) (lU 25 O O O O O O O),aW O O (gF (beq_eq_false_iff_ne.2 k2) O) fun _ _ H K=>R.mov (eU K 4 O) O H,aW O O (gF (beq_eq_false_iff_ne.2 k2) O) fun _ _ H K=>R.bin (eU K 26 O) (eU K 27 O) O Zt H,aU fun _ _ H K=>R.pickF (eU K 24 O) (beq_eq_false_iff_ne.2 k2) (eU K 28 O) O H,mU 29 O O,aW O O (gF (dF k3) O) (fU 6 O O),aW O O (gF (dF k3) O) (lU 31 O O O O O O O),aW O O (gF (dF k3) O) fun _ _ H K=>R.lenE (SC.sl (K 32 _ O)) (lN _) H,aW O O (gF (dF k3) O) fun _ _ H K=>R.gtrN (ws[i]!.script.length) (1000) (eU K 33 O) (kI 1000 O) H,aU fun _ _ H K=>R.pickF (eU K 30 O) (dF k3) (eU K 34 O) O H,Zt⟩ O O O O (tU O ?_)
           refine W.condD O (fun hc35=>?_) (fun hc35=>?_)
           · refine W.seq ?_
             refine W.dropS (live:=[]) (env':=[]) (bx':=[(6,.var _)]) (n':=43) O O O ?_
             refine W.dropB [] (bx':=[]) O O O (pin_sub hD O) ?_
             refine W.l0 2 [.y 2 _,.y 3 _] [] [] [(2,_),(3,_)] [] 43 ⟨aU fun _ _ H _=>R.asg (show ev _ _ (.const (.int .u64 0)) = some (.u64 0) from O) O H,aU fun _ _ H _=>R.asg (kB false O) O H,Zt⟩ O O O O (tU O ?_)
             refine W.ret ?_
             exact Ends.many (.inr O) (.cons O O O Zt (.cons O O O Zt .nil)) (tot_f (fun h=>by have:=(h.2.2 i hc18).2.2; omega)) (show [(2,true),(3,true)].Nodup by decide)
           · refine W.skip ?_
             refine W.l0 5 [.y 36 _,.y 37 _,.y 38 _,.y 39 _,.y 4 _] [] [] [(4,_),(15,_),(16,_),(17,_)] [(6,.var _)] 43 ⟨mU 4 O O,aU (fU 6 O O),aU (lU 37 O O O O O O O),aU fun _ _ H K=>R.bin (eU K 36 O) (eU K 38 O) O Zt H,aU fun _ _ H K=>R.asg (eU K 39 O) O H,Zt⟩ O O O O (tU O ?_)
             refine W.dropB [] (bx':=[]) O O O (pin_sub hD O) ?_
             refine W.l0 2 [.y 40 _,.y 17 _] [] [] [(4,_),(15,_),(16,_),(17,_)] [] 43 ⟨aU fun _ _ H K=>R.addN (i) (1) (eU K 17 O) (kI 1 O) bU H,mU 40 O O,Zt⟩ O O O O (tU O ?_)
             exact ⟨⟨(i + 1),⟨(by show i + 1 <= ws.length; omega),ext_i hok ⟨k2,k3,by omega⟩⟩⟩,rfl,(by simp only []; omega)⟩
     · obtain rfl : i = ws.length:=by omega
       refine W.exit (W.seq ?_)
       refine W.l0 4 [.y 41 _,.y 42 _,.y 2 _,.y 3 _] [] [] [(2,_),(3,_)] [] 43 ⟨mU 4 O O,aU fun _ _ H K=>R.bin (show ev _ _ (.const (.int .u64 2100000000000000)) = some (.u64 2100000000000000) from O) (eU K 41 O) O Zt H,aU fun _ _ H K=>R.asg (eU K 42 O) O H,aU fun _ _ H _=>R.asg (kB true O) O H,Zt⟩ O O O O (tU O ?_)
       refine W.ret ?_
       exact Ends.many (.inr O) (.cons O O O Zt (.cons O O O Zt .nil)) (tot_t ⟨k1,by omega,hok⟩) (show [(2,true),(3,true)].Nodup by decide)
end Go.Sx

namespace Go.Sx
open Go.Proofs
theorem purse_t (l : List Un) (hl : l.length <= 4096) (hp : purP l) : FnB Try.prog gl 22 [.sl none 35 (l.map coD)] [] (.tup [.map 12,.bool true]) [] [(12,mpK placeK D.u64 (purI l l.length))]:=by
 refine FnB.of (n:=39) (ids:=[12]) Try.func22 rfl rfl rfl (nU rfl) fun C hC hD=>?_
 refine W.seq ?_
 refine W.l0 2 [.y 2 _,.y 3 _] [] [] [(0,_)] [] 39 ⟨aU fun _ _ H _=>R.asg (show ev _ _ (.const (.map none)) = some (.nilmap) from O) O H,aU fun _ _ H _=>R.asg (kB false O) O H,Zt⟩ O O O O (tU O ?_)
 refine W.seq (W.seq ?_)
 refine W.l0 3 [.y 9 _,.y 10 _,.y 11 _] [] [] [(0,_),(11,_)] [] 39 ⟨mU 0 O O,aU fun _ _ H K=>R.lenE (SC.sl (K 9 _ O)) (lN _) H,aU fun _ _ H K=>R.gtrN (l.length) (4096) (eU K 10 O) (kI 4096 O) H,Zt⟩ O O O O (tU O ?_)
 refine W.condF O (dF (by omega)) ?_
 refine W.skip (W.seq ?_)
 refine W.l0 2 [] [] [] [(0,_)] [] 39 Zt O O O O (⟨O,_,R.mkmapK placeK D.u64 O (nU O),⟨O,_,R.asg (gV 12 O) O (nU O),tV [(0,_),(4,_)] [(12,mpK placeK D.u64 _)] 39 O O O ?_⟩⟩)
 refine W.seq (W.seq ?_)
 refine W.l0 3 [.y 13 _,.y 14 _,.y 15 _] [] [] [(4,_),(13,_),(14,_),(15,_)] [(12,mpK placeK D.u64 _)] 39 ⟨mU 0 O O,aU fun _ _ H K=>R.lenE (SC.sl (K 13 _ O)) (lN _) H,aU fun _ _ H _=>R.mov (kI 0 O) O H,Zt⟩ O O O O (tU O ?_)
 refine W.block ?_
 refine W.loop (α:={q__ : Nat // q__ <= l.length}) (fun q__=>⟨39,[(4,.map 12),(13,.sl none 35 (l.map coD)),(14,.int ((l.length : Nat) : Int)),(15,.int ((q__.1 : Nat) : Int))],[(12,mpK placeK D.u64 (purI l q__.1))]⟩) (fun q__=>l.length - q__.1) ⟨(0),bU⟩ O ?_
 rintro ⟨i,hi⟩
 show W _ _ _ _ ⟨39,[(4,.map 12),(13,.sl none 35 (l.map coD)),(14,.int ((l.length : Nat) : Int)),(15,.int ((i : Nat) : Int))],[(12,mpK placeK D.u64 (purI l i))]⟩
 have hi : i <= l.length:=hi
 refine W.seq ?_
 refine W.l0 1 [.y 16 _] [] [] [(4,_),(13,_),(14,_),(15,_),(16,_)] [(12,mpK placeK D.u64 _)] 39 ⟨aU fun _ _ H K=>R.lssN (i) (l.length) (eU K 15 O) (eU K 14 O) H,Zt⟩ O O O O (tU O ?_)
 refine W.seq ?_
 refine W.condD O (fun hc16=>?_) (fun hc16=>?_)
 · refine W.skip (W.seq (W.block (W.seq ?_)))
   refine W.l0 4 [.y 17 _,.y 18 _] [] [] [(4,_),(13,_),(14,_),(15,_),(18,_)] [(12,mpK placeK D.u64 _)] 39 ⟨aU fun _ _ H K=>R.idxN (i) (SC.sl (K 13 _ O)) (evoI (eU K 15 O)) O bU H dU,aU fun _ _ H K=>R.ldE (K 17 _ O) (SC.sl (K 13 _ O)) (map_get! (l:=l) bU) O O O O H,Zt⟩ O O O O (⟨O,_,R.alloc O (nU O),⟨O,_,R.stZ (gU 6 O) (xU 6 O) O (gV 18 O) (by rfl) (by rfl) (by rfl) (by rfl) O,tV [(4,_),(6,_),(13,_),(14,_),(15,_)] [(6,.var _),(12,mpK placeK D.u64 _)] 39 O O O ?_⟩⟩)
   refine W.seq (W.seq ?_)
   refine W.l0 9 [.y 20 _,.y 21 _,.y 22 _,.y 23 _,.y 19 _,.y 24 _,.y 25 _,.y 7 _,.y 8 _] [] [] [(4,_),(6,_),(8,_),(13,_),(14,_),(15,_)] [(6,.var _),(12,mpK placeK D.u64 _)] 39 ⟨mU 4 O O,aU (fU 6 O O),aU (lU 21 O O O O O O O),aU fun _ B H K=>R.lookK (k:=upl l[i]!) (z:=0) place_key (K 20 _ O) (B 12 _ O) (eU K 22 O) O O (fun _=>rfl) H,aU fun _ _ H K=>R.movT (K 23 _ O) O H,aU fun _ _ H K=>R.ext (K 19 _ O) O O H,aU fun _ _ H K=>R.ext (K 19 _ O) O O H,aU fun _ _ H K=>R.asg (eU K 24 O) O H,aU fun _ _ H K=>R.asg (eU K 25 O) O H,Zt⟩ O O O O (tU O ?_)
   refine W.seq ?_
   refine W.l0 6 [.y 26 _,.y 27 _,.y 28 _,.y 29 _,.y 30 _,.y 31 _] [] [] [(4,_),(6,_),(13,_),(14,_),(15,_),(31,_)] [(6,.var _),(12,mpK placeK D.u64 _)] 39 ⟨mU 8 O O,mU 26 O O,aW O O (gF ((hp i hc16).1) O) (fU 6 O O),aW O O (gF ((hp i hc16).1) O) (lU 28 O O O O O O O),aW O O (gF ((hp i hc16).1) O) fun _ _ H K=>R.bin (eU K 29 O) (show ev _ _ (.const (.int .u64 2100000000000000)) = some (.u64 2100000000000000) from O) O Zt H,aU fun _ _ H K=>R.pickF (eU K 27 O) ((hp i hc16).1) (eU K 30 O) O H,Zt⟩ O O O O (tU O ?_)
   refine W.condF O (dF (hp i hc16).2) ?_
   refine W.skip ?_
   refine W.l0 6 [.y 32 _,.y 33 _,.y 34 _,.y 35 _,.y 36 _] [] [] [(4,_),(13,_),(14,_),(15,_),(32,_),(34,_),(36,_)] [(6,.var _),(12,mpK placeK D.u64 _)] 39 ⟨mU 4 O O,aU (fU 6 O O),aU (lU 33 O O O O O O O),aU (fU 6 O O),aU (lU 35 O O O O O O O),Zt⟩ O O O O (⟨O,_,R.mupdN (k:=upl l[i]!) (u:=l[i]!.value) place_key (gU 32 O) (xU 12 O) (gV 34 O) O (gV 36 O) O O ((hp i hc16).1),tV [(4,_),(13,_),(14,_),(15,_)] [(6,.var _),(12,mpK placeK D.u64 _)] 39 O O O ?_⟩)
   refine W.dropBP [12] (bx':=[(12,mpK placeK D.u64 _)]) O O ⟨okMpK (fun _=>rfl) (fun _=>rfl),Zt⟩ (pin_sub hD O) ?_
   refine W.l0 2 [.y 37 _,.y 15 _] [] [] [(4,_),(13,_),(14,_),(15,_)] [(12,mpK placeK D.u64 _)] 39 ⟨aU fun _ _ H K=>R.addN (i) (1) (eU K 15 O) (kI 1 O) bU H,mU 37 O O,Zt⟩ O O O O (tU O ?_)
   exact ⟨⟨(i + 1),bU⟩,rfl,(by simp only []; omega)⟩
 · obtain rfl : i = l.length:=by omega
   refine W.exit (W.seq ?_)
   refine W.l0 3 [.y 38 _,.y 2 _,.y 3 _] [] [] [(2,_),(3,_)] [(12,mpK placeK D.u64 _)] 39 ⟨mU 4 O O,aU fun _ _ H K=>R.asg (eU K 38 O) O H,aU fun _ _ H _=>R.asg (kB true O) O H,Zt⟩ O O O O (tU O ?_)
   refine W.ret ?_
   exact EndsB.many' (.inr O) (.cons O O Zt (.cons O O Zt .nil)) (O) (show [(2,true),(3,true)].Nodup by decide) O O (O) ⟨okPu _ _,Zt⟩ O
theorem purse_f (l : List Un) (hl : l.length <= 4096) (hp : ¬ purP l) : FnB Try.prog gl 22 [.sl none 35 (l.map coD)] [] (.tup [.nilmap,.bool false]) [] []:=by
 refine FnB.of (n:=39) (ids:=[]) Try.func22 rfl rfl rfl (nU rfl) fun C hC hD=>?_
 refine W.seq ?_
 refine W.l0 2 [.y 2 _,.y 3 _] [] [] [(0,_)] [] 39 ⟨aU fun _ _ H _=>R.asg (show ev _ _ (.const (.map none)) = some (.nilmap) from O) O H,aU fun _ _ H _=>R.asg (kB false O) O H,Zt⟩ O O O O (tU O ?_)
 refine W.seq (W.seq ?_)
 refine W.l0 3 [.y 9 _,.y 10 _,.y 11 _] [] [] [(0,_),(11,_)] [] 39 ⟨mU 0 O O,aU fun _ _ H K=>R.lenE (SC.sl (K 9 _ O)) (lN _) H,aU fun _ _ H K=>R.gtrN (l.length) (4096) (eU K 10 O) (kI 4096 O) H,Zt⟩ O O O O (tU O ?_)
 refine W.condF O (dF (by omega)) ?_
 refine W.skip (W.seq ?_)
 refine W.l0 2 [] [] [] [(0,_)] [] 39 Zt O O O O (⟨O,_,R.mkmapK placeK D.u64 O (nU O),⟨O,_,R.asg (gV 12 O) O (nU O),tV [(0,_),(4,_)] [(12,mpK placeK D.u64 _)] 39 O O O ?_⟩⟩)
 refine W.seq (W.seq ?_)
 refine W.l0 3 [.y 13 _,.y 14 _,.y 15 _] [] [] [(4,_),(13,_),(14,_),(15,_)] [(12,mpK placeK D.u64 _)] 39 ⟨mU 0 O O,aU fun _ _ H K=>R.lenE (SC.sl (K 13 _ O)) (lN _) H,aU fun _ _ H _=>R.mov (kI 0 O) O H,Zt⟩ O O O O (tU O ?_)
 refine W.block ?_
 refine W.loop (α:={q__ : Nat // q__ <= l.length /\ ∀ j < q__,purA l j}) (fun q__=>⟨39,[(4,.map 12),(13,.sl none 35 (l.map coD)),(14,.int ((l.length : Nat) : Int)),(15,.int ((q__.1 : Nat) : Int))],[(12,mpK placeK D.u64 (purI l q__.1))]⟩) (fun q__=>l.length - q__.1) ⟨(0),⟨Nat.zero_le _,fun j h=>absurd h (Nat.not_lt_zero _)⟩⟩ O ?_
 rintro ⟨i,⟨hi,hok⟩⟩
 show W _ _ _ _ ⟨39,[(4,.map 12),(13,.sl none 35 (l.map coD)),(14,.int ((l.length : Nat) : Int)),(15,.int ((i : Nat) : Int))],[(12,mpK placeK D.u64 (purI l i))]⟩
 have hi : i <= l.length:=hi
 have hok : ∀ j < i,purA l j:=hok
 refine W.seq ?_
 refine W.l0 1 [.y 16 _] [] [] [(4,_),(13,_),(14,_),(15,_),(16,_)] [(12,mpK placeK D.u64 _)] 39 ⟨aU fun _ _ H K=>R.lssN (i) (l.length) (eU K 15 O) (eU K 14 O) H,Zt⟩ O O O O (tU O ?_)
 refine W.seq ?_
 refine W.condT O (dT (pur_lt hp hi hok)) ?_
 refine W.skip (W.seq (W.block (W.seq ?_)))
 have hc16:=pur_lt hp hi hok
 refine W.l0 4 [.y 17 _,.y 18 _] [] [] [(4,_),(13,_),(14,_),(15,_),(18,_)] [(12,mpK placeK D.u64 _)] 39 ⟨aU fun _ _ H K=>R.idxN (i) (SC.sl (K 13 _ O)) (evoI (eU K 15 O)) O bU H dU,aU fun _ _ H K=>R.ldE (K 17 _ O) (SC.sl (K 13 _ O)) (map_get! (l:=l) bU) O O O O H,Zt⟩ O O O O (⟨O,_,R.alloc O (nU O),⟨O,_,R.stZ (gU 6 O) (xU 6 O) O (gV 18 O) (by rfl) (by rfl) (by rfl) (by rfl) O,tV [(4,_),(6,_),(13,_),(14,_),(15,_)] [(6,.var _),(12,mpK placeK D.u64 _)] 39 O O O ?_⟩⟩)
 refine W.seq (W.seq ?_)
 refine W.l0 9 [.y 20 _,.y 21 _,.y 22 _,.y 23 _,.y 19 _,.y 24 _,.y 25 _,.y 7 _,.y 8 _] [] [] [(4,_),(6,_),(8,_),(13,_),(14,_),(15,_)] [(6,.var _),(12,mpK placeK D.u64 _)] 39 ⟨mU 4 O O,aU (fU 6 O O),aU (lU 21 O O O O O O O),aU fun _ B H K=>R.lookK (k:=upl l[i]!) (z:=0) place_key (K 20 _ O) (B 12 _ O) (eU K 22 O) O O (fun _=>rfl) H,aU fun _ _ H K=>R.movT (K 23 _ O) O H,aU fun _ _ H K=>R.ext (K 19 _ O) O O H,aU fun _ _ H K=>R.ext (K 19 _ O) O O H,aU fun _ _ H K=>R.asg (eU K 24 O) O H,aU fun _ _ H K=>R.asg (eU K 25 O) O H,Zt⟩ O O O O (tU O ?_)
 refine W.seq ?_
 by_cases k1 : kHas (purI l i) (upl l[i]!) = true
 · refine W.l0 6 [.y 26 _,.y 27 _,.x 28,.x 29,.x 30,.y 31 _] [] [] [(4,_),(6,_),(13,_),(14,_),(15,_),(31,_)] [(6,.var _),(12,mpK placeK D.u64 _)] 39 ⟨mU 8 O O,mU 26 O O,aF O O (gT (k1) O),aF O O (gT (k1) O),aF O O (gT (k1) O),aU fun _ _ H K=>R.pickT (eU K 27 O) (k1) (kB true O) O H,Zt⟩ O O O O (tU O ?_)
   refine W.condT O (O) ?_
   refine W.seq ?_
   refine W.dropS (live:=[]) (env':=[]) (bx':=[(6,.var _),(12,mpK placeK D.u64 _)]) (n':=39) O O O ?_
   refine W.dropBP [12] (bx':=[(12,mpK placeK D.u64 _)]) O O ⟨okMpK (fun _=>rfl) (fun _=>rfl),Zt⟩ (pin_sub hD O) ?_
   refine W.l0 2 [.y 2 _,.y 3 _] [] [] [(2,_),(3,_)] [(12,mpK placeK D.u64 _)] 39 ⟨aU fun _ _ H _=>R.asg (show ev _ _ (.const (.map none)) = some (.nilmap) from O) O H,aU fun _ _ H _=>R.asg (kB false O) O H,Zt⟩ O O O O (tU O ?_)
   refine W.ret ?_
   exact EndsB.many' (.inr O) (.cons O O Zt (.cons O O Zt .nil)) (O) (show [(2,true),(3,true)].Nodup by decide) O O (O) Zt O
 · refine W.l0 6 [.y 26 _,.y 27 _,.y 28 _,.y 29 _,.y 30 _,.y 31 _] [] [] [(4,_),(6,_),(13,_),(14,_),(15,_),(31,_)] [(6,.var _),(12,mpK placeK D.u64 _)] 39 ⟨mU 8 O O,mU 26 O O,aW O O (gF (bfalse k1) O) (fU 6 O O),aW O O (gF (bfalse k1) O) (lU 28 O O O O O O O),aW O O (gF (bfalse k1) O) fun _ _ H K=>R.bin (eU K 29 O) (show ev _ _ (.const (.int .u64 2100000000000000)) = some (.u64 2100000000000000) from O) O Zt H,aU fun _ _ H K=>R.pickF (eU K 27 O) (bfalse k1) (eU K 30 O) O H,Zt⟩ O O O O (tU O ?_)
   refine W.cond O (fun hc31=>?_) (fun hc31=>?_)
   · refine W.seq ?_
     refine W.dropS (live:=[]) (env':=[]) (bx':=[(6,.var _),(12,mpK placeK D.u64 _)]) (n':=39) O O O ?_
     refine W.dropBP [12] (bx':=[(12,mpK placeK D.u64 _)]) O O ⟨okMpK (fun _=>rfl) (fun _=>rfl),Zt⟩ (pin_sub hD O) ?_
     refine W.l0 2 [.y 2 _,.y 3 _] [] [] [(2,_),(3,_)] [(12,mpK placeK D.u64 _)] 39 ⟨aU fun _ _ H _=>R.asg (show ev _ _ (.const (.map none)) = some (.nilmap) from O) O H,aU fun _ _ H _=>R.asg (kB false O) O H,Zt⟩ O O O O (tU O ?_)
     refine W.ret ?_
     exact EndsB.many' (.inr O) (.cons O O Zt (.cons O O Zt .nil)) (O) (show [(2,true),(3,true)].Nodup by decide) O O (O) Zt O
   · refine W.skip ?_
     refine W.l0 6 [.y 32 _,.y 33 _,.y 34 _,.y 35 _,.y 36 _] [] [] [(4,_),(13,_),(14,_),(15,_),(32,_),(34,_),(36,_)] [(6,.var _),(12,mpK placeK D.u64 _)] 39 ⟨mU 4 O O,aU (fU 6 O O),aU (lU 33 O O O O O O O),aU (fU 6 O O),aU (lU 35 O O O O O O O),Zt⟩ O O O O (⟨O,_,R.mupdN (k:=upl l[i]!) (u:=l[i]!.value) place_key (gU 32 O) (xU 12 O) (gV 34 O) O (gV 36 O) O O (bfalse k1),tV [(4,_),(13,_),(14,_),(15,_)] [(6,.var _),(12,mpK placeK D.u64 _)] 39 O O O ?_⟩)
     refine W.dropBP [12] (bx':=[(12,mpK placeK D.u64 _)]) O O ⟨okMpK (fun _=>rfl) (fun _=>rfl),Zt⟩ (pin_sub hD O) ?_
     refine W.l0 2 [.y 37 _,.y 15 _] [] [] [(4,_),(13,_),(14,_),(15,_)] [(12,mpK placeK D.u64 _)] 39 ⟨aU fun _ _ H K=>R.addN (i) (1) (eU K 15 O) (kI 1 O) bU H,mU 37 O O,Zt⟩ O O O O (tU O ?_)
     exact ⟨⟨(i + 1),⟨(by show i + 1 <= l.length; have:=pur_lt hp hi hok; omega),ext_i hok ⟨bfalse k1,of_decide_eq_false hc31⟩⟩⟩,rfl,(by simp only []; omega)⟩
end Go.Sx

namespace Go.Sx
open Go.Proofs
theorem choose1_ok (ins outs : Int) (rate : UInt64) : FnB Try.prog gl 23 [.int ins,.int outs,.ptr 0 0 []] [(0,.var (.u64 rate))] (.u64 (feeV ins outs rate)) [(0,.var (.u64 rate))] []:=by
 refine FnB.of (n:=16) (ids:=[0]) Try.func23 rfl rfl rfl (Nat.le_of_ble_eq_true rfl) fun C hC hD=>?_
 refine W.seq ?_
 refine W.line (n:=1) (by decide) (its:=[⟨5,_,true⟩]) (ks:=[]) (kk:=[]) (live:=[0,1,2]) (env':=[(0,_),(1,_),(2,_)])
  (⟨Nat.le_of_ble_eq_true rfl,rfl,
   ⟨⟨rfl,rfl,fun _ τ hb ht hτ=>R.asg (show ev _ _ (.const (.int .u64 0)) = some (.u64 0) from rfl) rfl ht⟩,
   trivial⟩,rfl,rfl,rfl⟩)
  rfl (bx':=[(0,.var _)]) rfl (n':=16) rfl (⟨[0,1,2],[(0,_),(1,_),(2,_)],[(0,.var _)],16,rfl,rfl,rfl, ?_⟩)
 refine W.seq ?_
 refine W.line (n:=9) (by decide) (its:=[⟨9,_,true⟩,⟨10,_,true⟩,⟨11,_,true⟩,⟨12,_,true⟩,⟨8,_,true⟩,⟨13,_,true⟩,⟨14,_,true⟩,⟨6,_,true⟩,⟨7,_,true⟩]) (ks:=[]) (kk:=[]) (live:=[6]) (env':=[(6,_)])
  (⟨Nat.le_of_ble_eq_true rfl,rfl,
   ⟨⟨rfl,rfl,fun _ τ hb ht hτ=>R.mov (evt (hτ 0 _ rfl)) rfl ht⟩,
   ⟨⟨rfl,rfl,fun _ τ hb ht hτ=>R.mov (evt (hτ 1 _ rfl)) rfl ht⟩,
   ⟨⟨rfl,rfl,fun _ τ hb ht hτ=>R.ldP (hτ 2 _ rfl) (hb 0 _ rfl) rfl rfl rfl rfl ht⟩,
   ⟨⟨rfl,rfl,fun _ τ hb ht hτ=>R.callG hC (fee_ok ins outs rate) (Bors.cons (Bor.pur (evt (hτ 9 _ rfl)) rfl rfl) (Bors.cons (Bor.pur (evt (hτ 10 _ rfl)) rfl rfl) (Bors.cons (Bor.pur (evt (hτ 11 _ rfl)) rfl rfl) Bors.nil))) (FrsR.two (.u64 _) (.int _)) ht⟩,
   ⟨⟨rfl,rfl,fun _ τ hb ht hτ=>R.movT (hτ 12 _ rfl) rfl ht⟩,
   ⟨⟨rfl,rfl,fun _ τ hb ht hτ=>R.ext (hτ 8 _ rfl) rfl rfl ht⟩,
   ⟨⟨rfl,rfl,fun _ τ hb ht hτ=>R.ext (hτ 8 _ rfl) rfl rfl ht⟩,
   ⟨⟨rfl,rfl,fun _ τ hb ht hτ=>R.asg (evt (hτ 13 _ rfl)) rfl ht⟩,
   ⟨⟨rfl,rfl,fun _ τ hb ht hτ=>R.asg (evt (hτ 14 _ rfl)) rfl ht⟩,
   trivial⟩⟩⟩⟩⟩⟩⟩⟩⟩,rfl,rfl,rfl⟩)
  rfl (bx':=[(0,.var _)]) rfl (n':=16) rfl (⟨[6],[(6,_)],[(0,.var _)],16,rfl,rfl,rfl, ?_⟩)
 refine W.seq ?_
 refine W.line (n:=2) (by decide) (its:=[⟨15,_,true⟩,⟨5,_,true⟩]) (ks:=[]) (kk:=[]) (live:=[5]) (env':=[(5,_)])
  (⟨Nat.le_of_ble_eq_true rfl,rfl,
   ⟨⟨rfl,rfl,fun _ τ hb ht hτ=>R.mov (evt (hτ 6 _ rfl)) rfl ht⟩,
   ⟨⟨rfl,rfl,fun _ τ hb ht hτ=>R.asg (evt (hτ 15 _ rfl)) rfl ht⟩,
   trivial⟩⟩,rfl,rfl,rfl⟩)
  rfl (bx':=[(0,.var _)]) rfl (n':=16) rfl (⟨[5],[(5,_)],[(0,.var _)],16,rfl,rfl,rfl, ?_⟩)
 refine W.ret ?_
 exact EndsB.one' (.inr rfl) rfl (rfl) rfl trivial rfl rfl (rfl) ⟨rfl,trivial⟩ rfl
end Go.Sx
