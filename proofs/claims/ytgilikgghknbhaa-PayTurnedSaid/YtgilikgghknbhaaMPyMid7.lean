/-
 Own library: in a region of any order: append to a slice in a box,of elements that own.
-/
import Derived.Test.YtgilikgghknbhaaMPyMid3
import Derived.Test.YtgilikgghknbhaaMSxDrawE
set_option linter.unusedVariables false
set_option linter.unusedSimpArgs false
set_option linter.unnecessarySimpa false

namespace Go.Sx
open Go.Proofs
theorem szH {o : Option Nat} {h : Hs} (e : o = some 32) : o = some (hashD h).sz:=e.trans (congrArg some (show 32 = (hashD h).sz from rfl))
def coinS (n : UInt8) (v : UInt64) : Un:=⟨n :: List.replicate 31 0,0,v,1⟩
def fewP (ws : List Wnt) : Prop:=ws.length <= 80 /\ ∀ i < ws.length,ws[i]!.script.length <= 1100
instance (ws : List Wnt) : Decidable (fewP ws):=by unfold fewP; infer_instance
def wokS (w : Wnt) : Prop:=¬ w.value < 1 /\ ¬ 2100000000000000 < w.value /\ w.script.length <= 1000
instance (w : Wnt) : Decidable (wokS w):=by unfold wokS; infer_instance
def wanN (ws : List Wnt) : Nat:=min ws.length 65
def wsumI (ws : List Wnt) : Nat -> UInt64
 | 0=>0
 | i + 1=>wsumI ws i + ws[i]!.value
def wanF (ws : List Wnt) : Prop:=∀ j < wanN ws,wokS ws[j]!
instance (ws : List Wnt) : Decidable (wanF ws):=by unfold wanF; infer_instance
def wanV (ws : List Wnt) : UInt64:=if wanF ws then wsumI ws (wanN ws) else 0
def wanP (ws : List Wnt) : Prop:=wanF ws /\ 1 <= ws.length /\ ws.length <= 64 /\ wsumI ws (wanN ws) <= 2100000000000000
instance (ws : List Wnt) : Decidable (wanP ws):=by unfold wanP; infer_instance
theorem purI_iff {l : List Un} {i : Nat} {p : Plc} : kHas (purI l i) p = true ↔ ∃ j < i,upl l[j]! = p:=by
 induction i with
 | zero=>simp [purI,kHas]
 | succ i ih=>
  have e : kHas (purI l (i + 1)) p = (kHas (purI l i) p || decide (upl l[i]! = p)):=by
   simp only [purI,kHas,List.any_append,List.any_cons,List.any_nil,Bool.or_false]
   rfl
  rw [e,Bool.or_eq_true,ih,decide_eq_true_iff]
  constructor
  · rintro (⟨j,hj,h⟩ | h)
    · exact ⟨j,by omega,h⟩
    · exact ⟨i,by omega,h⟩
  · rintro ⟨j,hj,h⟩
    rcases Nat.lt_succ_iff_lt_or_eq.1 hj with h1 | rfl
    · exact .inl ⟨j,h1,h⟩
    · exact .inr h
theorem purI_yes {l : List Un} {i j : Nat} (hj : j < i) (h : upl l[j]! = upl l[i]!) : kHas (purI l i) (upl l[i]!) = true:=purI_iff.2 ⟨j,hj,h⟩
theorem purI_no {l : List Un} {i : Nat} (h : ∀ k < i,upl l[k]! ≠ upl l[i]!) : kHas (purI l i) (upl l[i]!) = false:=by
 cases hh : kHas (purI l i) (upl l[i]!) with
 | false=>rfl
 | true=>obtain ⟨j,hj,he⟩:=purI_iff.1 hh; exact absurd he (h j hj)
theorem eqv_un (a b : Un) : EqV Try.prog 4 67 (coD a) (coD b) (a == b):=by
 have h1 : ∀ x y : Int,EqV Try.prog 3 3 (.int x) (.int y) (x == y):=fun x y=>(EqV.int Try.underlying3 x y).up 2
 have h2 : ∀ x y : UInt64,EqV Try.prog 3 25 (.u64 x) (.u64 y) (x == y):=fun x y=>(EqV.u64 Try.underlying25 x y).up 2
 have:=EqV.struct (k:=3) Try.underlying67 (by kernel_rfl) (.cons rfl rfl inferInstance rfl rfl rfl rfl (eqv_place (upl a) (upl b)) (.cons rfl rfl inferInstance rfl rfl rfl rfl (h2 a.value b.value) (.cons rfl rfl inferInstance rfl rfl rfl rfl (h1 a.ht b.ht) .nil)))
 rw [Bool.and_true] at this
 have e : (a == b) = (upl a == upl b && (a.value == b.value && a.ht == b.ht)):=by
  rw [Bool.eq_iff_iff]
  obtain ⟨x1,x2,x3,x4⟩:=a
  obtain ⟨y1,y2,y3,y4⟩:=b
  simp [upl,and_assoc]
 rw [e]
 exact this
theorem ext_list {α : Type} [Inhabited α] {a b : List α} (h : a.length = b.length) (he : ∀ j < a.length,a[j]! = b[j]!) : a = b:=by
 refine List.ext_getElem h fun i h1 h2=>?_
 have:=he i h1
 rwa [getElem!_pos a i h1,getElem!_pos b i h2] at this
theorem take_s {α : Type} [Inhabited α] {l : List α} {i : Nat} (h : i < l.length) : l.take (i + 1) = l.take i ++ [l[i]!]:=by
 rw [List.take_succ_eq_append_getElem h,getElem!_pos l i h]
end Go.Sx

namespace Go.Sx
open Go.Proofs
theorem sclone_ok (b : List UInt8) (hb0 : b.length <= 1000000000) : Fn Try.prog gl 32 [.sl none 1 (b.map D.u8)] (.sl (some 5) 1 (b.map D.u8)):=by
 refine Fn.of (n:=8) Try.func32 rfl rfl rfl (nU rfl) fun C hC hD=>?_
 refine W.seq ?_
 refine W.l0 1 [.y 2 _] [] [] [(0,_)] [] 8 ⟨aU fun _ _ H _=>R.asg (kN O) O H,Zt⟩ O O O O (tU O ?_)
 refine W.seq (W.seq ?_)
 refine W.region (WL.cons O (R.mov (gV 0 O) O (nU O)) (WL.nilq (SC.sl (gU 3 O)) (nU O) (fun b__ hb__=>WL.nil ?_)))
 show W _ _ _ _ _
 refine W.dropS (live:=[0,4]) (env':=[(0,_),(4,_)]) (bx':=[]) (n':=8) O O O ?_
 refine W.cond O (fun hc4=>?_) (fun hc4=>?_)
 · refine W.seq ?_
   refine W.l0 1 [.y 2 _] [] [] [(2,_)] [] 8 ⟨aU fun _ _ H _=>R.asg (kN O) O H,Zt⟩ O O O O (tU O ?_)
   refine W.asOwn (s:=2) 5 1 O ?_
   refine W.ret ?_
   exact Ends.one' (.inr rfl) rfl (by obtain rfl:=nil_of hb__ hc4; rfl) rfl rfl Zt
 · refine W.skip (W.seq ?_)
   refine W.l0 4 [.y 5 _,.y 6 _,.y 7 _,.y 2 _] [(2,5),(3,7)] [(2,5),(3,7)] [(2,_)] [] 8 ⟨aU fun _ _ H _=>R.bslE .nil Zt O H dU,mU 0 O O,aU fun _ _ H K=>R.appE (Or.inl O) (K 5 _ O) (SrcO.sc (SC.sl (K 6 _ O)) (pur_map (fun _=>rfl))) (List.nil_append _) bU H dU dU,aU fun _ _ H K=>R.asgO (K 7 _ O) O H dU,Zt⟩ O O O O (tU O ?_)
   refine W.ret ?_
   exact Ends.one' (.inr O) O (O) O O Zt
theorem uclone_ok (b : List Un) (hb0 : b.length <= 1000000) : Fn Try.prog gl 24 [.sl none 35 (b.map coD)] (.sl (some 67) 35 (b.map coD)):=by
 refine Fn.of (n:=8) Try.func24 rfl rfl rfl (nU rfl) fun C hC hD=>?_
 refine W.seq ?_
 refine W.l0 1 [.y 2 _] [] [] [(0,_)] [] 8 ⟨aU fun _ _ H _=>R.asg (kN O) O H,Zt⟩ O O O O (tU O ?_)
 refine W.seq (W.seq ?_)
 refine W.region (WL.cons O (R.mov (gV 0 O) O (nU O)) (WL.nilq (SC.sl (gU 3 O)) (nU O) (fun b__ hb__=>WL.nil ?_)))
 show W _ _ _ _ _
 refine W.dropS (live:=[0,4]) (env':=[(0,_),(4,_)]) (bx':=[]) (n':=8) O O O ?_
 refine W.cond O (fun hc4=>?_) (fun hc4=>?_)
 · refine W.seq ?_
   refine W.l0 1 [.y 2 _] [] [] [(2,_)] [] 8 ⟨aU fun _ _ H _=>R.asg (kN O) O H,Zt⟩ O O O O (tU O ?_)
   refine W.asOwn (s:=2) 67 35 O ?_
   refine W.ret ?_
   exact Ends.one' (.inr rfl) rfl (by obtain rfl:=nil_of hb__ hc4; rfl) rfl rfl Zt
 · refine W.skip (W.seq ?_)
   refine W.l0 4 [.y 5 _,.y 6 _,.y 7 _,.y 2 _] [(2,5),(3,7)] [(2,5),(3,7)] [(2,_)] [] 8 ⟨aU fun _ _ H _=>R.bslE .nil Zt O H dU,mU 0 O O,aU fun _ _ H K=>R.appE (Or.inl O) (K 5 _ O) (SrcO.sc (SC.sl (K 6 _ O)) (pur_map (fun _=>rfl))) (List.nil_append _) bU H dU dU,aU fun _ _ H K=>R.asgO (K 7 _ O) O H dU,Zt⟩ O O O O (tU O ?_)
   refine W.ret ?_
   exact Ends.one' (.inr O) O (O) O O Zt
theorem clip_ok (b : List Un) : Fn Try.prog gl 27 [.sl none 35 (b.map coD)] (.sl none 35 (b.map coD)):=by
 refine Fn.of (n:=9) Try.func27 rfl rfl rfl (nU rfl) fun C hC hD=>?_
 refine W.seq ?_
 refine W.l0 1 [.y 2 _] [] [] [(0,_)] [] 9 ⟨aU fun _ _ H _=>R.asg (kN O) O H,Zt⟩ O O O O (tU O ?_)
 refine W.seq ?_
 refine W.l0 7 [.y 3 _,.y 4 _,.y 5 _,.y 6 _,.y 7 _,.y 8 _,.y 2 _] [] [] [(2,_)] [] 9 ⟨mU 0 O O,mU 0 O O,aU fun _ _ H K=>R.lenE (SC.sl (K 4 _ O)) (lN _) H,mU 0 O O,aU fun _ _ H K=>R.lenE (SC.sl (K 6 _ O)) (lN _) H,aU fun _ _ H K=>R.slM (eU K 3 O) (eU K 5 O) (eU K 7 O) (by simp) (by simp) H,aU fun _ _ H K=>R.asg (eU K 8 O) O H,Zt⟩ O O O O (tU O ?_)
 refine W.ret ?_
 exact Ends.one' (.inr O) O (O) O O Zt
theorem coin_ok (n : UInt8) (v : UInt64) : Fn Try.prog gl 20 [.u8 n,.u64 v] (coD (coinS n v)):=by
 refine Fn.of (n:=10) Try.func20 rfl rfl rfl (nU rfl) fun C hC hD=>?_
 refine W.seq ?_
 refine W.l0 1 [] [] [] [(0,_),(1,_)] [] 10 Zt O O O O (⟨O,_,R.alloc O (nU O),tV [(0,_),(1,_),(4,_)] [(4,.var _)] 10 O O O ?_⟩)
 refine W.seq ?_
 refine W.l0 6 [.y 5 _,.y 6 _,.y 7 _,.y 8 _,.y 9 _] [] [] [(4,_),(9,_)] [(4,.var _)] 10 ⟨mU 0 O O,aU fun _ _ H K=>R.bldAP (z:=1) (l2:=((n :: List.replicate 31 0).map D.u8)) (.cons (eU K 5 O) (.nil O)) ⟨⟨_,(eU K 5 O),O,O,O,O⟩,Zt⟩ (O) H,aU fun _ _ H K=>R.bldSE (l:=[.arr 32 1 ((List.replicate 32 0).map D.u8),.u32 0]) (l':=[_,_]) (.cons (eU K 6 O) (.nil O)) ⟨⟨_,(eU K 6 O),O,O,szH O⟩,Zt⟩ H,mU 1 O O,aU fun _ _ H K=>R.bldSE (l:=[.agg [.arr 32 1 ((List.replicate 32 0).map D.u8),.u32 0],.u64 0,.int 0]) (l':=[_,_,_]) (.cons (eU K 7 O) (.cons (eU K 8 O) (.cons (kI 1 O) (.nil O)))) ⟨⟨_,(eU K 7 O),O,O,O⟩,⟨⟨_,(eU K 8 O),O,O,O⟩,⟨⟨_,(kI 1 O),O,O,O⟩,Zt⟩⟩⟩ H,Zt⟩ O O O O (⟨O,_,R.stZ (gU 4 O) (xU 4 O) O (gV 9 O) (by rfl) (by rfl) (by rfl) (by rfl) O,tV [(4,_)] [(4,.var _)] 10 O O O ?_⟩)
 refine W.ret ?_
 exact Ends.one' (.inr O) O (O) O O (show LdT _ 67 35 true from inferInstance)
end Go.Sx

namespace Go.Sx
open Go.Proofs
end Go.Sx

namespace Go.Sx
open Go.Proofs
theorem same31_ok (a b : List Un) (ha : a.length <= 1000000) (hb : b.length <= 1000000) : Fn Try.prog gl 14 [.sl none 35 (a.map coD),.sl none 35 (b.map coD)] (.bool (decide (a = b))):=by
 refine Fn.of (n:=26) Try.func14 rfl rfl rfl (nU rfl) fun C hC hD=>?_
 refine W.seq ?_
 refine W.l0 1 [.y 4 _] [] [] [(0,_),(1,_)] [] 26 ⟨aU fun _ _ H _=>R.asg (kB false O) O H,Zt⟩ O O O O (tU O ?_)
 refine W.seq (W.seq ?_)
 refine W.l0 5 [.y 6 _,.y 7 _,.y 8 _,.y 9 _,.y 10 _] [] [] [(0,_),(1,_),(10,_)] [] 26 ⟨mU 0 O O,aU fun _ _ H K=>R.lenE (SC.sl (K 6 _ O)) (lN _) H,mU 1 O O,aU fun _ _ H K=>R.lenE (SC.sl (K 8 _ O)) (lN _) H,aU fun _ _ H K=>R.neqN (a.length) (b.length) (eU K 7 O) (eU K 9 O) H,Zt⟩ O O O O (tU O ?_)
 refine W.condD O (fun hc10=>?_) (fun hc10=>?_)
 · refine W.seq ?_
   refine W.l0 1 [.y 4 _] [] [] [(4,_)] [] 26 ⟨aU fun _ _ H _=>R.asg (kB false O) O H,Zt⟩ O O O O (tU O ?_)
   refine W.ret ?_
   exact Ends.one' (.inr O) O (congrArg D.bool (dF (fun h=>hc10 (by rw [h]))).symm) O O Zt
 · refine W.skip (W.seq (W.seq ?_))
   refine W.l0 1 [.y 5 _] [] [] [(0,_),(1,_),(5,_)] [] 26 ⟨aU fun _ _ H _=>R.asg (kI 0 O) O H,Zt⟩ O O O O (tU O ?_)
   refine W.block ?_
   refine W.loop (α:={q__ : Nat // q__ <= a.length /\ ∀ j < q__,a[j]! = b[j]!}) (fun q__=>⟨26,[(0,.sl none 35 (a.map coD)),(1,.sl none 35 (b.map coD)),(5,.int ((q__.1 : Nat) : Int))],[]⟩) (fun q__=>a.length - q__.1) ⟨(0),⟨Nat.zero_le _,fun j h=>absurd h (Nat.not_lt_zero _)⟩⟩ O ?_
   rintro ⟨i,⟨hi,hq⟩⟩
   show W _ _ _ _ ⟨26,[(0,.sl none 35 (a.map coD)),(1,.sl none 35 (b.map coD)),(5,.int ((i : Nat) : Int))],[]⟩
   have hi : i <= a.length:=hi
   have hq : ∀ j < i,a[j]! = b[j]!:=hq
   have hll : a.length = b.length:=Decidable.not_not.1 hc10
   refine W.seq (W.seq ?_)
   refine W.l0 4 [.y 11 _,.y 12 _,.y 13 _,.y 14 _] [] [] [(0,_),(1,_),(5,_),(14,_)] [] 26 ⟨mU 5 O O,mU 0 O O,aU fun _ _ H K=>R.lenE (SC.sl (K 12 _ O)) (lN _) H,aU fun _ _ H K=>R.lssN (i) (a.length) (eU K 11 O) (eU K 13 O) H,Zt⟩ O O O O (tU O ?_)
   refine W.condD O (fun hc14=>?_) (fun hc14=>?_)
   · refine W.skip (W.seq (W.block (W.seq ?_)))
     refine W.draw (m:=9) (an:=[0,0,3,7,0,0,48,112,255]) hP dU O (its:=[.y 17 _,.y 18 _,.y 19 _,.y 20 _,.y 21 _,.y 22 _,.y 23 _,.y 24 _,.y 25 _]) (ks:=[]) (kk:=[]) (live:=[0,1,5,25]) (env':=[(0,_),(1,_),(5,_),(25,_)]) (⟨nU O,O,⟨mU 0 O O,mU 5 O O,aU fun _ _ H K=>R.idxN (i) (SC.sl (K 17 _ O)) (evoI (eU K 18 O)) O bU H dU,aU fun _ _ H K=>R.ldE (K 19 _ O) (SC.sl (K 17 _ O)) (map_get! (l:=a) bU) O O O O H,mU 1 O O,mU 5 O O,aU fun _ _ H K=>R.idxN (i) (SC.sl (K 21 _ O)) (evoI (eU K 22 O)) O bU H dU,aU fun _ _ H K=>R.ldE (K 23 _ O) (SC.sl (K 21 _ O)) (map_get! (l:=b) bU) O O O O H,aU fun _ _ H K=>R.eqD (neg:=true) (b':=(!(a[i]! == b[i]!))) (eqv_un a[i]! b[i]!) O (eU K 20 O) (eU K 24 O) O O O O (O) H,Zt⟩,O,O,O⟩) O (bx':=[]) O (n':=26) O (tV [(0,_),(1,_),(5,_),(25,_)] [] 26 O O O ?_)
     refine W.cond O (fun hc25=>?_) (fun hc25=>?_)
     · refine W.seq ?_
       refine W.l0 1 [.y 4 _] [] [] [(4,_)] [] 26 ⟨aU fun _ _ H _=>R.asg (kB false O) O H,Zt⟩ O O O O (tU O ?_)
       refine W.ret ?_
       exact Ends.one' (.inr rfl) rfl (congrArg D.bool (dF (fun h=>by subst h; simp at hc25)).symm) rfl rfl Zt
     · refine W.skip ?_
       refine W.l0 3 [.y 15 _,.y 16 _,.y 5 _] [] [] [(0,_),(1,_),(5,_)] [] 26 ⟨mU 5 O O,aU fun _ _ H K=>R.addN (i) (1) (eU K 15 O) (kI 1 O) bU H,aU fun _ _ H K=>R.asg (eU K 16 O) O H,Zt⟩ O O O O (tU O ?_)
       exact ⟨⟨(i + 1),⟨by omega,ext_i hq (by simpa using hc25)⟩⟩,rfl,(by simp only []; omega)⟩
   · obtain rfl : i = a.length:=by omega
     refine W.exit (W.seq ?_)
     refine W.l0 1 [.y 4 _] [] [] [(4,_)] [] 26 ⟨aU fun _ _ H _=>R.asg (kB true O) O H,Zt⟩ O O O O (tU O ?_)
     refine W.ret ?_
     exact Ends.one' (.inr O) O (congrArg D.bool (dT (ext_list hll hq)).symm) O O Zt
end Go.Sx

namespace Go.Sx
open Go.Proofs
theorem brw_coD (c : Un) : (coD c).brw = coD c:=by simp only [coD,D.brw,brws_eq,List.map_cons,List.map_nil,brw_hash]
theorem brw_co (o : Option Nat) (l : List Un) : (D.sl o 35 (l.map coD)).brw = .sl none 35 (l.map coD):=by
 simp only [D.brw,brws_eq]; rw [brw_map brw_coD]
theorem frs_coD (c : Un) : Frs (coD c):=.agg _ fun x hx=>by
 simp only [List.mem_cons,List.not_mem_nil,or_false] at hx
 rcases hx with rfl | rfl | rfl
 · exact .agg _ fun x hx=>by
    simp only [List.mem_cons,List.not_mem_nil,or_false] at hx
    rcases hx with rfl | rfl
    · exact .arr _ _ _ (frs_map fun _=>.u8 _)
    · exact .u32 _
 · exact .u64 _
 · exact .int _
theorem frs_co (e : Nat) (l : List Un) : Frs (.sl (some e) 35 (l.map coD)):=.sl _ _ _ (frs_map frs_coD)
def sumU (s : List Un) : Nat -> UInt64
 | 0=>0
 | i + 1=>sumU s i + s[i]!.value
def chP (l : List Un) (ws : List Wnt) (r : UInt64) : Prop:=totP ws /\ purP l /\ ¬ 1000000 < r
instance (l : List Un) (ws : List Wnt) (r : UInt64) : Decidable (chP l ws r):=by unfold chP; infer_instance
def chL (l : List Un) (ws : List Wnt) (r : UInt64) (i : Nat) : Prop:=sumU (sortU l) (i + 1) < totV ws + feeV ((i + 1 : Nat) : Int) ((ws.length : Nat) : Int) r
instance (l : List Un) (ws : List Wnt) (r : UInt64) (i : Nat) : Decidable (chL l ws r i):=by unfold chL; infer_instance
def chM (ws : List Wnt) (r : UInt64) (i : Nat) : UInt64:=totV ws + feeV ((i + 1 : Nat) : Int) ((ws.length + 1 : Nat) : Int) r
def chF (l : List Un) (ws : List Wnt) (r : UInt64) : Option Nat:=(List.range l.length).find? fun i=>decide (¬ chL l ws r i)
def chC (l : List Un) (ws : List Wnt) (r : UInt64) : List Un:=if chP l ws r then (match chF l ws r with | some i=>(sortU l).take (i + 1) | none=>[]) else []
def chV (l : List Un) (ws : List Wnt) (r : UInt64) : UInt64:=if chP l ws r then (match chF l ws r with | some i=>(if chM ws r i + 546 <= sumU (sortU l) (i + 1) then sumU (sortU l) (i + 1) - chM ws r i else 0) | none=>0) else 0
def chE (l : List Un) (ws : List Wnt) (r : UInt64) : Int:=if chP l ws r then (match chF l ws r with | some _=>0 | none=>14) else 1
theorem chF_none {l : List Un} {ws : List Wnt} {r : UInt64} (h : ∀ j < l.length,chL l ws r j) : chF l ws r = none:=by
 unfold chF
 rw [List.find?_eq_none]
 intro j hj
 simpa using h j (List.mem_range.1 hj)
theorem chF_some {l : List Un} {ws : List Wnt} {r : UInt64} {i : Nat} (hi : i < l.length) (h : ∀ j < i,chL l ws r j) (hs : ¬ chL l ws r i) : chF l ws r = some i:=by
 unfold chF
 rw [List.find?_eq_some_iff_append]
 refine ⟨by simpa using hs,List.range i,(List.range (l.length - i - 1)).map (· + (i + 1)), ?_,fun j hj=>by simpa using h j (List.mem_range.1 hj)⟩
 refine List.ext_getElem (by simp; omega) fun k h1 h2=>?_
 simp only [List.getElem_range,List.getElem_append,List.getElem_cons,List.getElem_map,List.length_range]
 split
 · rfl
 · split <;> omega
theorem ch_bad {l : List Un} {ws : List Wnt} {r : UInt64} (h : ¬ chP l ws r) : [D.sl none 35 (([] : List Un).map coD),.u64 0,.int 1] = [.sl none 35 ((chC l ws r).map coD),.u64 (chV l ws r),.int (chE l ws r)]:=by
 rw [chC,chV,chE,if_neg h,if_neg h,if_neg h]
theorem ch_none {l : List Un} {ws : List Wnt} {r : UInt64} (h : chP l ws r) (hn : ∀ j < l.length,chL l ws r j) : [D.sl none 35 (([] : List Un).map coD),.u64 0,.int 14] = [.sl none 35 ((chC l ws r).map coD),.u64 (chV l ws r),.int (chE l ws r)]:=by
 rw [chC,chV,chE,if_pos h,if_pos h,if_pos h,chF_none hn]
theorem ch_y {l : List Un} {ws : List Wnt} {r : UInt64} {i : Nat} (h : chP l ws r) (hi : i < l.length) (hn : ∀ j < i,chL l ws r j) (hs : ¬ chL l ws r i) (hc : chM ws r i + 546 <= sumU (sortU l) (i + 1)) :
 [D.sl none 35 ((((sortU l).drop 0).take (i + 1)).map coD),.u64 (sumU (sortU l) (i + 1) - chM ws r i),.int 0] = [.sl none 35 ((chC l ws r).map coD),.u64 (chV l ws r),.int (chE l ws r)]:=by
 rw [chC,chV,chE,if_pos h,if_pos h,if_pos h,chF_some hi hn hs]
 simp only [if_pos hc,List.drop_zero]
theorem ch_n {l : List Un} {ws : List Wnt} {r : UInt64} {i : Nat} (h : chP l ws r) (hi : i < l.length) (hn : ∀ j < i,chL l ws r j) (hs : ¬ chL l ws r i) (hc : ¬ chM ws r i + 546 <= sumU (sortU l) (i + 1)) :
 [D.sl none 35 ((((sortU l).drop 0).take (i + 1)).map coD),.u64 0,.int 0] = [.sl none 35 ((chC l ws r).map coD),.u64 (chV l ws r),.int (chE l ws r)]:=by
 rw [chC,chV,chE,if_pos h,if_pos h,if_pos h,chF_some hi hn hs]
 simp only [if_neg hc,List.drop_zero]
end Go.Sx

namespace Go.Sx
open Go.Proofs
theorem choose_ok (l : List Un) (ws : List Wnt) (r : UInt64) (hl : l.length <= 4096) (hx : hs32 l) (hw : ws.length <= 1000000) : Fn Try.prog gl 11 [.sl none 35 (l.map coD),.sl none 2 (ws.map wntD),.u64 r] (.tup [.sl none 35 ((chC l ws r).map coD),.u64 (chV l ws r),.int (chE l ws r)]):=by
 refine Fn.of (n:=88) Try.func11 rfl rfl rfl (nU rfl) fun C hC hD=>?_
 have hsl:=sortU_len l
 refine W.seq ?_
 refine W.l0 4 [] [] [] [(0,_),(1,_),(2,_)] [] 88 Zt O O O O (⟨O,_,R.box (gV 2 O) O O (nU O),⟨O,_,R.asg (kN O) O (nU O),⟨O,_,R.asg (show ev _ _ (.const (.int .u64 0)) = some (.u64 0) from O) O (nU O),⟨O,_,R.asg (kI 0 O) O (nU O),tV [(0,_),(1,_),(5,_),(7,_)] [(5,.var _)] 88 O O O ?_⟩⟩⟩⟩)
 refine W.seq ?_
 refine W.l0 7 [.y 21 _,.y 22 _,.y 20 _,.y 23 _,.y 24 _,.y 9 _,.y 10 _] [] [] [(0,_),(1,_),(5,_),(7,_),(9,_),(10,_)] [(5,.var _)] 88 ⟨mU 1 O O,aU fun _ _ H K=>R.callG hC (total_ok ws hw) (Bc (Bp (eU K 21 O) O O) Bn) (FrsR.two (.u64 _) (.bool _)) H,aU fun _ _ H K=>R.movT (K 22 _ O) O H,aU fun _ _ H K=>R.ext (K 20 _ O) O O H,aU fun _ _ H K=>R.ext (K 20 _ O) O O H,aU fun _ _ H K=>R.asg (eU K 23 O) O H,aU fun _ _ H K=>R.asg (eU K 24 O) O H,Zt⟩ O O O O (tU O ?_)
 refine W.seq ?_
 by_cases hp : purP l
 · refine W.l0 7 [.y 26 _] [] [] [(0,_),(1,_),(5,_),(7,_),(9,_),(10,_),(26,_)] [(5,.var _)] 88 ⟨mU 0 O O,Zt⟩ O O O O (⟨O,_,R.callB [(12,27)] hC (purse_t l hl hp) (EvB.cons (gV 26 O) O O O EvB.nil) O Zt Zt O (renPu _ _ _ _) O O O O (nU O),⟨O,_,R.movT (gU 27 O) O (nU O),⟨O,_,R.ext (gU 25 O) O O (nU O),⟨O,_,R.ext (gU 25 O) O O (nU O),⟨O,_,R.asg (gV 28 O) O (nU O),⟨O,_,R.asg (gV 29 O) O (nU O),tV [(0,_),(1,_),(5,_),(7,_),(9,_),(10,_),(12,_)] [(27,mpK placeK D.u64 _),(5,.var _)] 88 O O O ?_⟩⟩⟩⟩⟩⟩)
   refine W.seq (W.seq ?_)
   by_cases k1 : ¬ totB ws = true
   · refine W.l0 10 [.y 30 _,.y 31 _,.y 32 _,.x 33,.x 34,.y 35 _,.y 36 _,.x 37,.x 38,.y 39 _] [] [] [(0,_),(1,_),(5,_),(7,_),(9,_),(39,_)] [(27,mpK placeK D.u64 _),(5,.var _)] 88 ⟨mU 10 O O,aU fun _ _ H K=>R.un (eU K 30 O) O H,mU 31 O O,aF O O (gT (by simpa using k1) O),aF O O (gT (by simpa using k1) O),aU fun _ _ H K=>R.pickT (eU K 32 O) (by simpa using k1) (kB true O) O H,mU 35 O O,aF O O (gT (O) O),aF O O (gT (O) O),aU fun _ _ H K=>R.pickT (eU K 36 O) (O) (kB true O) O H,Zt⟩ O O O O (tU O ?_)
     refine W.condT O (O) ?_
     refine W.seq ?_
     refine W.l0 3 [.y 6 _,.y 7 _,.y 8 _] [] [] [(6,_),(7,_),(8,_)] [(27,mpK placeK D.u64 _),(5,.var _)] 88 ⟨aU fun _ _ H _=>R.asg (kN O) O H,aU fun _ _ H _=>R.asg (show ev _ _ (.const (.int .u64 0)) = some (.u64 0) from O) O H,aU fun _ _ H _=>R.asg (kI 1 O) O H,Zt⟩ O O O O (tU O ?_)
     refine W.wkS (s:=6) (d':=.sl none 35 (([] : List Un).map coD)) O O O (.nils _ _) ?_
     refine W.ret ?_
     exact Ends.many (.inr O) (.cons O O O Zt (.cons O O O Zt (.cons O O O Zt .nil))) (ch_bad (fun h=>k1 (dT h.1))) (show [(6,true),(7,true),(8,true)].Nodup by decide)
   · refine W.l0 10 [.y 30 _,.y 31 _,.y 32 _,.y 33 _,.y 34 _,.y 35 _,.y 36 _,.y 37 _,.y 38 _,.y 39 _] [] [] [(0,_),(1,_),(5,_),(7,_),(9,_),(39,_)] [(27,mpK placeK D.u64 _),(5,.var _)] 88 ⟨mU 10 O O,aU fun _ _ H K=>R.un (eU K 30 O) O H,mU 31 O O,aW O O (gF (by simpa using k1) O) fun _ _ H K=>R.mov (eU K 12 O) O H,aW O O (gF (by simpa using k1) O) fun _ _ H K=>R.un (eU K 33 O) O H,aU fun _ _ H K=>R.pickF (eU K 32 O) (by simpa using k1) (eU K 34 O) O H,mU 35 O O,aW O O (gF (O) O) (lU 5 O O O O O O O),aW O O (gF (O) O) fun _ _ H K=>R.bin (eU K 37 O) (show ev _ _ (.const (.int .u64 1000000)) = some (.u64 1000000) from O) O Zt H,aU fun _ _ H K=>R.pickF (eU K 36 O) (O) (eU K 38 O) O H,Zt⟩ O O O O (tU O ?_)
     refine W.cond O (fun hc39=>?_) (fun hc39=>?_)
     · refine W.seq ?_
       refine W.l0 3 [.y 6 _,.y 7 _,.y 8 _] [] [] [(6,_),(7,_),(8,_)] [(27,mpK placeK D.u64 _),(5,.var _)] 88 ⟨aU fun _ _ H _=>R.asg (kN O) O H,aU fun _ _ H _=>R.asg (show ev _ _ (.const (.int .u64 0)) = some (.u64 0) from O) O H,aU fun _ _ H _=>R.asg (kI 1 O) O H,Zt⟩ O O O O (tU O ?_)
       refine W.wkS (s:=6) (d':=.sl none 35 (([] : List Un).map coD)) O O O (.nils _ _) ?_
       refine W.ret ?_
       exact Ends.many (.inr O) (.cons O O O Zt (.cons O O O Zt (.cons O O O Zt .nil))) (ch_bad (fun h=>h.2.2 (of_decide_eq_true hc39))) (show [(6,true),(7,true),(8,true)].Nodup by decide)
     · refine W.skip (W.seq ?_)
       refine W.l0 2 [.y 40 _,.y 13 _] [] [] [(0,_),(1,_),(7,_),(9,_),(13,_)] [(27,mpK placeK D.u64 _),(5,.var _)] 88 ⟨aU fun _ _ H K=>R.mkfn1 (eU K 5 O) O O H,aU fun _ _ H K=>R.asg (eU K 40 O) O H,Zt⟩ O O O O (tU O ?_)
       refine W.seq ?_
       refine W.l0 3 [.y 41 _,.y 42 _,.y 14 _] [(2,42)] [(2,42)] [(1,_),(7,_),(9,_),(13,_),(14,_)] [(27,mpK placeK D.u64 _),(5,.var _)] 88 ⟨mU 0 O O,aU fun _ _ H K=>R.callG hC (uclone_ok l (by omega)) (Bc (Bp (eU K 41 O) O O) Bn) (FrsR.one (frs_co _ _)) H,aU fun _ _ H K=>R.asgO (K 42 _ O) O H dU,Zt⟩ O O O O (tU O ?_)
       refine W.seq ?_
       refine W.l0 2 [.y 43 _] [] [] [(1,_),(7,_),(9,_),(13,_),(14,_),(43,_)] [(27,mpK placeK D.u64 _),(5,.var _)] 88 ⟨aU fun _ _ H K=>R.al (K 14 _ O) H dU,Zt⟩ O O O O (⟨O,_,R.srtU l hx (by omega) (Or.inr (gU 43 O)) (gU 14 O) (nU O),tV [(1,_),(7,_),(9,_),(13,_),(14,_)] [(27,mpK placeK D.u64 _),(5,.var _)] 88 O O O ?_⟩)
       refine W.seq ?_
       refine W.frzS (s:=14) (d':=.sl none 35 ((sortU l).map coD)) O O (brw_co _ _) ?_
       refine W.l0 1 [.y 15 _] [] [] [(1,_),(7,_),(9,_),(13,_),(14,_),(15,_)] [(27,mpK placeK D.u64 _),(5,.var _)] 88 ⟨aU fun _ _ H _=>R.asg (show ev _ _ (.const (.int .u64 0)) = some (.u64 0) from O) O H,Zt⟩ O O O O (tU O ?_)
       refine W.seq (W.seq ?_)
       refine W.l0 3 [.y 45 _,.y 46 _,.y 47 _] [] [] [(1,_),(7,_),(9,_),(13,_),(14,_),(15,_),(45,_),(46,_),(47,_)] [(27,mpK placeK D.u64 _),(5,.var _)] 88 ⟨mU 14 O O,aU fun _ _ H K=>R.lenE (SC.sl (K 45 _ O)) (lN _) H,aU fun _ _ H _=>R.mov (kI 0 O) O H,Zt⟩ O O O O (tU O ?_)
       refine W.block ?_
       refine W.loop (α:={q__ : Nat // q__ <= l.length /\ ∀ j < q__,chL l ws r j}) (fun q__=>⟨88,[(1,.sl none 2 (ws.map wntD)),(7,.u64 0),(9,.u64 (totV ws)),(13,.fn 23 [.ptr 5 0 []]),(14,.sl none 35 ((sortU l).map coD)),(15,.u64 (sumU (sortU l) q__.1)),(45,.sl none 35 ((sortU l).map coD)),(46,.int (((sortU l).length : Nat) : Int)),(47,.int ((q__.1 : Nat) : Int))],[(27,mpK placeK D.u64 (purI l l.length)),(5,.var (.u64 r))]⟩) (fun q__=>l.length - q__.1) ⟨(0),⟨Nat.zero_le _,fun j h=>absurd h (Nat.not_lt_zero _)⟩⟩ O ?_
       rintro ⟨i,⟨hi,hno⟩⟩
       show W _ _ _ _ ⟨88,[(1,.sl none 2 (ws.map wntD)),(7,.u64 0),(9,.u64 (totV ws)),(13,.fn 23 [.ptr 5 0 []]),(14,.sl none 35 ((sortU l).map coD)),(15,.u64 (sumU (sortU l) i)),(45,.sl none 35 ((sortU l).map coD)),(46,.int (((sortU l).length : Nat) : Int)),(47,.int ((i : Nat) : Int))],[(27,mpK placeK D.u64 (purI l l.length)),(5,.var (.u64 r))]⟩
       have hi : i <= l.length:=hi
       have hno : ∀ j < i,chL l ws r j:=hno
       refine W.seq ?_
       refine W.l0 1 [.y 48 _] [] [] [(1,_),(7,_),(9,_),(13,_),(14,_),(15,_),(45,_),(46,_),(47,_),(48,_)] [(27,mpK placeK D.u64 _),(5,.var _)] 88 ⟨aU fun _ _ H K=>R.lssN (i) ((sortU l).length) (eU K 47 O) (eU K 46 O) H,Zt⟩ O O O O (tU O ?_)
       refine W.seq ?_
       refine W.condD O (fun hc48=>?_) (fun hc48=>?_)
       · refine W.skip (W.seq (W.block (W.seq ?_)))
         refine W.l0 6 [.y 49 _,.y 50 _,.y 51 _] [] [] [(1,_),(7,_),(9,_),(13,_),(14,_),(15,_),(45,_),(46,_),(47,_),(49,_),(51,_)] [(27,mpK placeK D.u64 _),(5,.var _)] 88 ⟨mU 47 O O,aU fun _ _ H K=>R.idxN (i) (SC.sl (K 45 _ O)) (evoI (eU K 47 O)) O bU H dU,aU fun _ _ H K=>R.ldE (K 50 _ O) (SC.sl (K 45 _ O)) (map_get! (l:=(sortU l)) bU) O O O O H,Zt⟩ O O O O (⟨O,_,R.alloc O (nU O),⟨O,_,R.asg (gV 49 O) O (nU O),⟨O,_,R.stZ (gU 17 O) (xU 17 O) O (gV 51 O) (by rfl) (by rfl) (by rfl) (by rfl) O,tV [(1,_),(7,_),(9,_),(13,_),(14,_),(15,_),(16,_),(17,_),(45,_),(46,_),(47,_)] [(17,.var _),(27,mpK placeK D.u64 _),(5,.var _)] 88 O O O ?_⟩⟩⟩)
         refine W.seq ?_
         refine W.l0 5 [.y 52 _,.y 53 _,.y 54 _,.y 55 _,.y 15 _] [] [] [(1,_),(7,_),(9,_),(13,_),(14,_),(15,_),(16,_),(45,_),(46,_),(47,_)] [(17,.var _),(27,mpK placeK D.u64 _),(5,.var _)] 88 ⟨mU 15 O O,aU (fU 17 O O),aU (lU 53 O O O O O O O),aU fun _ _ H K=>R.bin (eU K 52 O) (eU K 54 O) O Zt H,aU fun _ _ H K=>R.asg (eU K 55 O) O H,Zt⟩ O O O O (tU O ?_)
         refine W.seq ?_
         refine W.dropBP [5,27] (bx':=[(27,mpK placeK D.u64 _),(5,.var _)]) O O ⟨okMpK (fun _=>rfl) (fun _=>rfl),⟨O,Zt⟩⟩ (pin_sub hD O) ?_
         refine W.l0 3 [.y 56 _,.y 57 _,.y 18 _] [] [] [(1,_),(7,_),(9,_),(13,_),(14,_),(15,_),(18,_),(45,_),(46,_),(47,_)] [(27,mpK placeK D.u64 _),(5,.var _)] 88 ⟨mU 16 O O,aU fun _ _ H K=>R.addN (i) (1) (eU K 56 O) (kI 1 O) bU H,aU fun _ _ H K=>R.asg (eU K 57 O) O H,Zt⟩ O O O O (tU O ?_)
         refine W.seq (W.seq ?_)
         refine W.l0 9 [.y 58 _,.y 59 _,.y 60 _,.y 61 _,.y 62 _,.y 63 _] [] [] [(1,_),(7,_),(9,_),(13,_),(14,_),(15,_),(18,_),(45,_),(46,_),(47,_),(58,_),(59,_),(60,_),(61,_),(63,_)] [(27,mpK placeK D.u64 _),(5,.var _)] 88 ⟨mU 15 O O,mU 9 O O,mU 13 O O,mU 18 O O,mU 1 O O,aU fun _ _ H K=>R.lenE (SC.sl (K 62 _ O)) (lN _) H,Zt⟩ O O O O (⟨O,_,R.callVB (ds:=[.int ((i + 1 : Nat) : Int),.int ((ws.length : Nat) : Int)]) (caps:=[.ptr 0 0 []]) [(0,5)] hC (gU 60 O) O O (choose1_ok ((i + 1 : Nat) : Int) ((ws.length : Nat) : Int) r) (EvB.cons (gV 61 O) O O O (EvB.cons (gV 63 O) O O O EvB.nil)) O ⟨O,Zt⟩ ⟨O,Zt⟩ O O O O O O (nU O),⟨O,_,R.bin (gV 59 O) (gV 64 O) O Zt (nU O),⟨O,_,R.bin (gV 58 O) (gV 65 O) O Zt (nU O),tV [(1,_),(7,_),(9,_),(13,_),(14,_),(15,_),(18,_),(45,_),(46,_),(47,_),(66,_)] [(27,mpK placeK D.u64 _),(5,.var _)] 88 O O O ?_⟩⟩⟩)
         refine W.cond O (fun hc66=>?_) (fun hc66=>?_)
         · refine W.exit ?_
           refine W.l0 2 [.y 87 _,.y 47 _] [] [] [(1,_),(7,_),(9,_),(13,_),(14,_),(15,_),(45,_),(46,_),(47,_)] [(27,mpK placeK D.u64 _),(5,.var _)] 88 ⟨aU fun _ _ H K=>R.addN (i) (1) (eU K 47 O) (kI 1 O) bU H,mU 87 O O,Zt⟩ O O O O (tU O ?_)
           exact ⟨⟨(i + 1),⟨(by show i + 1 <= l.length; omega),ext_i hno (of_decide_eq_true hc66)⟩⟩,rfl,(by simp only []; omega)⟩
         · refine W.skip (W.seq (W.seq ?_))
           refine W.l0 9 [.y 67 _,.y 68 _,.y 69 _,.y 70 _,.y 71 _,.y 72 _] [] [] [(7,_),(14,_),(15,_),(18,_),(67,_),(68,_),(69,_),(72,_)] [(27,mpK placeK D.u64 _),(5,.var _)] 88 ⟨mU 9 O O,mU 13 O O,mU 18 O O,mU 1 O O,aU fun _ _ H K=>R.lenE (SC.sl (K 70 _ O)) (lN _) H,aU fun _ _ H K=>R.addN (ws.length) (1) (eU K 71 O) (kI 1 O) bU H,Zt⟩ O O O O (⟨O,_,R.callVB (ds:=[.int ((i + 1 : Nat) : Int),.int ((ws.length + 1 : Nat) : Int)]) (caps:=[.ptr 0 0 []]) [(0,5)] hC (gU 68 O) O O (choose1_ok ((i + 1 : Nat) : Int) ((ws.length + 1 : Nat) : Int) r) (EvB.cons (gV 69 O) O O O (EvB.cons (gV 72 O) O O O EvB.nil)) O ⟨O,Zt⟩ ⟨O,Zt⟩ O O O O O O (nU O),⟨O,_,R.bin (gV 67 O) (gV 73 O) O Zt (nU O),⟨O,_,R.asg (gV 74 O) O (nU O),tV [(7,_),(14,_),(15,_),(18,_),(19,_)] [(27,mpK placeK D.u64 _),(5,.var _)] 88 O O O ?_⟩⟩⟩)
           refine W.seq ?_
           refine W.l0 4 [.y 75 _,.y 76 _,.y 77 _,.y 78 _] [] [] [(7,_),(14,_),(15,_),(18,_),(19,_),(78,_)] [(27,mpK placeK D.u64 _),(5,.var _)] 88 ⟨mU 15 O O,mU 19 O O,aU fun _ _ H K=>R.bin (eU K 76 O) (show ev _ _ (.const (.int .u64 546)) = some (.u64 546) from O) O Zt H,aU fun _ _ H K=>R.bin (eU K 75 O) (eU K 77 O) O Zt H,Zt⟩ O O O O (tU O ?_)
           refine W.cond O (fun hc78=>?_) (fun hc78=>?_)
           · refine W.l0 4 [.y 79 _,.y 80 _,.y 81 _,.y 7 _] [] [] [(7,_),(14,_),(18,_)] [(27,mpK placeK D.u64 _),(5,.var _)] 88 ⟨mU 15 O O,mU 19 O O,aU fun _ _ H K=>R.bin (eU K 79 O) (eU K 80 O) O Zt H,aU fun _ _ H K=>R.asg (eU K 81 O) O H,Zt⟩ O O O O (tU O ?_)
             refine W.seq ?_
             refine W.l0 8 [.y 82 _,.y 83 _,.y 84 _,.y 85 _,.y 86 _,.y 6 _,.y 7 _,.y 8 _] [] [] [(6,_),(7,_),(8,_)] [(27,mpK placeK D.u64 _),(5,.var _)] 88 ⟨mU 14 O O,mU 18 O O,aU fun _ _ H K=>R.slIN (0) ((i + 1)) ((i + 1)) (eU K 82 O) O (evoI (eU K 83 O)) O O bU bU O (part_map) H,aU fun _ _ H K=>R.callPE hC (clip_ok (((sortU l).drop 0).take (i + 1))) (EvP.cons (eU K 84 O) O O EvP.nil) H,mU 7 O O,aU fun _ _ H K=>R.asg (eU K 85 O) O H,aU fun _ _ H K=>R.asg (eU K 86 O) O H,aU fun _ _ H _=>R.asg (kI 0 O) O H,Zt⟩ O O O O (tU O ?_)
             refine W.ret ?_
             exact Ends.many (.inr O) (.cons O O O Zt (.cons O O O Zt (.cons O O O Zt .nil))) (ch_y ⟨of_decide_eq_true (show totB ws = true from Classical.byContradiction k1),hp,of_decide_eq_false hc39⟩ (by omega) hno (of_decide_eq_false hc66) (of_decide_eq_true hc78)) (show [(6,true),(7,true),(8,true)].Nodup by decide)
           · refine W.skip (W.seq ?_)
             refine W.l0 8 [.y 82 _,.y 83 _,.y 84 _,.y 85 _,.y 86 _,.y 6 _,.y 7 _,.y 8 _] [] [] [(6,_),(7,_),(8,_)] [(27,mpK placeK D.u64 _),(5,.var _)] 88 ⟨mU 14 O O,mU 18 O O,aU fun _ _ H K=>R.slIN (0) ((i + 1)) ((i + 1)) (eU K 82 O) O (evoI (eU K 83 O)) O O bU bU O (part_map) H,aU fun _ _ H K=>R.callPE hC (clip_ok (((sortU l).drop 0).take (i + 1))) (EvP.cons (eU K 84 O) O O EvP.nil) H,mU 7 O O,aU fun _ _ H K=>R.asg (eU K 85 O) O H,aU fun _ _ H K=>R.asg (eU K 86 O) O H,aU fun _ _ H _=>R.asg (kI 0 O) O H,Zt⟩ O O O O (tU O ?_)
             refine W.ret ?_
             exact Ends.many (.inr O) (.cons O O O Zt (.cons O O O Zt (.cons O O O Zt .nil))) (ch_n ⟨of_decide_eq_true (show totB ws = true from Classical.byContradiction k1),hp,of_decide_eq_false hc39⟩ (by omega) hno (of_decide_eq_false hc66) (of_decide_eq_false hc78)) (show [(6,true),(7,true),(8,true)].Nodup by decide)
       · obtain rfl : i = l.length:=by omega
         refine W.exit (W.seq ?_)
         refine W.l0 3 [.y 6 _,.y 7 _,.y 8 _] [] [] [(6,_),(7,_),(8,_)] [(27,mpK placeK D.u64 _),(5,.var _)] 88 ⟨aU fun _ _ H _=>R.asg (kN O) O H,aU fun _ _ H _=>R.asg (show ev _ _ (.const (.int .u64 0)) = some (.u64 0) from O) O H,aU fun _ _ H _=>R.asg (kI 14 O) O H,Zt⟩ O O O O (tU O ?_)
         refine W.wkS (s:=6) (d':=.sl none 35 (([] : List Un).map coD)) O O O (.nils _ _) ?_
         refine W.ret ?_
         exact Ends.many (.inr O) (.cons O O O Zt (.cons O O O Zt (.cons O O O Zt .nil))) (ch_none ⟨of_decide_eq_true (show totB ws = true from Classical.byContradiction k1),hp,of_decide_eq_false hc39⟩ hno) (show [(6,true),(7,true),(8,true)].Nodup by decide)
 · refine W.l0 7 [.y 26 _] [] [] [(0,_),(1,_),(5,_),(7,_),(9,_),(10,_),(26,_)] [(5,.var _)] 88 ⟨mU 0 O O,Zt⟩ O O O O (⟨O,_,R.callB [] hC (purse_f l hl hp) (EvB.cons (gV 26 O) O O O EvB.nil) O Zt Zt O O O O O O (nU O),⟨O,_,R.movT (gU 27 O) O (nU O),⟨O,_,R.ext (gU 25 O) O O (nU O),⟨O,_,R.ext (gU 25 O) O O (nU O),⟨O,_,R.asg (gV 28 O) O (nU O),⟨O,_,R.asg (gV 29 O) O (nU O),tV [(0,_),(1,_),(5,_),(7,_),(9,_),(10,_),(12,_)] [(5,.var _)] 88 O O O ?_⟩⟩⟩⟩⟩⟩)
   refine W.seq (W.seq ?_)
   by_cases k1 : ¬ totB ws = true
   · refine W.l0 10 [.y 30 _,.y 31 _,.y 32 _,.x 33,.x 34,.y 35 _,.y 36 _,.x 37,.x 38,.y 39 _] [] [] [(0,_),(1,_),(5,_),(7,_),(9,_),(39,_)] [(5,.var _)] 88 ⟨mU 10 O O,aU fun _ _ H K=>R.un (eU K 30 O) O H,mU 31 O O,aF O O (gT (by simpa using k1) O),aF O O (gT (by simpa using k1) O),aU fun _ _ H K=>R.pickT (eU K 32 O) (by simpa using k1) (kB true O) O H,mU 35 O O,aF O O (gT (O) O),aF O O (gT (O) O),aU fun _ _ H K=>R.pickT (eU K 36 O) (O) (kB true O) O H,Zt⟩ O O O O (tU O ?_)
     refine W.condT O (O) ?_
     refine W.seq ?_
     refine W.l0 3 [.y 6 _,.y 7 _,.y 8 _] [] [] [(6,_),(7,_),(8,_)] [(5,.var _)] 88 ⟨aU fun _ _ H _=>R.asg (kN O) O H,aU fun _ _ H _=>R.asg (show ev _ _ (.const (.int .u64 0)) = some (.u64 0) from O) O H,aU fun _ _ H _=>R.asg (kI 1 O) O H,Zt⟩ O O O O (tU O ?_)
     refine W.wkS (s:=6) (d':=.sl none 35 (([] : List Un).map coD)) O O O (.nils _ _) ?_
     refine W.ret ?_
     exact Ends.many (.inr O) (.cons O O O Zt (.cons O O O Zt (.cons O O O Zt .nil))) (ch_bad (fun h=>k1 (dT h.1))) (show [(6,true),(7,true),(8,true)].Nodup by decide)
   · refine W.l0 10 [.y 30 _,.y 31 _,.y 32 _,.y 33 _,.y 34 _,.y 35 _,.y 36 _,.x 37,.x 38,.y 39 _] [] [] [(0,_),(1,_),(5,_),(7,_),(9,_),(39,_)] [(5,.var _)] 88 ⟨mU 10 O O,aU fun _ _ H K=>R.un (eU K 30 O) O H,mU 31 O O,aW O O (gF (by simpa using k1) O) fun _ _ H K=>R.mov (eU K 12 O) O H,aW O O (gF (by simpa using k1) O) fun _ _ H K=>R.un (eU K 33 O) O H,aU fun _ _ H K=>R.pickF (eU K 32 O) (by simpa using k1) (eU K 34 O) O H,mU 35 O O,aF O O (gT (O) O),aF O O (gT (O) O),aU fun _ _ H K=>R.pickT (eU K 36 O) (O) (kB true O) O H,Zt⟩ O O O O (tU O ?_)
     refine W.condT O (O) ?_
     refine W.seq ?_
     refine W.l0 3 [.y 6 _,.y 7 _,.y 8 _] [] [] [(6,_),(7,_),(8,_)] [(5,.var _)] 88 ⟨aU fun _ _ H _=>R.asg (kN O) O H,aU fun _ _ H _=>R.asg (show ev _ _ (.const (.int .u64 0)) = some (.u64 0) from O) O H,aU fun _ _ H _=>R.asg (kI 1 O) O H,Zt⟩ O O O O (tU O ?_)
     refine W.wkS (s:=6) (d':=.sl none 35 (([] : List Un).map coD)) O O O (.nils _ _) ?_
     refine W.ret ?_
     exact Ends.many (.inr O) (.cons O O O Zt (.cons O O O Zt (.cons O O O Zt .nil))) (ch_bad (fun h=>hp h.2.1)) (show [(6,true),(7,true),(8,true)].Nodup by decide)
end Go.Sx

namespace Go.Sx
open Go.Proofs
theorem u_sub_add (a b c : UInt64) : a - b - c = a - (b + c):=by grind
theorem u_sub_sub (a b : UInt64) : a - (a - b) = b:=by grind
theorem u_sub_zero (a : UInt64) : a - 0 = a:=by grind
theorem lft_sum (ws : List Wnt) (i : Nat) : lftI ws i = 2100000000000000 - wsumI ws i:=by
 induction i with
 | zero=>rw [lftI,wsumI,u_sub_zero]
 | succ i ih=>rw [lftI,wsumI,ih,u_sub_add]
theorem getE {α : Type} [Inhabited α] {l : List α} {i : Nat} (h : i < l.length) : l[i]! = l[i]:=getElem!_pos l i h
theorem mem_get {α : Type} [Inhabited α] {l : List α} {c : α} (h : c ∈ l) : ∃ i,i < l.length /\ l[i]! = c:=by
 obtain ⟨i,hi,rfl⟩:=List.getElem_of_mem h
 exact ⟨i,hi,getE hi⟩
theorem get_in {α : Type} [Inhabited α] {l : List α} {i : Nat} (h : i < l.length) : l[i]! ∈ l:=by rw [getE h]; exact List.getElem_mem h
theorem wsum_nat {ws : List Wnt} : ∀ i,i <= 65 -> (∀ j < i,ws[j]!.value.toNat <= 2100000000000000) -> (wsumI ws i).toNat <= i * 2100000000000000 /\ (wsumI ws i).toNat = ((List.range i).map fun j=>ws[j]!.value.toNat).sum:=by
 intro i
 induction i with
 | zero=>intro _ _; exact ⟨by simp [wsumI],by simp [wsumI]⟩
 | succ i ih=>
  intro h1 h2
  obtain ⟨a,b⟩:=ih (by omega) (fun j hj=>h2 j (by omega))
  have h3:=h2 i (by omega)
  have e : (wsumI ws (i + 1)).toNat = (wsumI ws i).toNat + ws[i]!.value.toNat:=by
   rw [wsumI,UInt64.toNat_add]
   exact Nat.mod_eq_of_lt (by omega)
  refine ⟨by omega, ?_⟩
  rw [e,b,List.range_succ,List.map_append,List.sum_append]
  simp
theorem wsum_mono {ws : List Wnt} {i j : Nat} (hij : i <= j) (hj : j <= 65) (h : ∀ k < j,ws[k]!.value.toNat <= 2100000000000000) : (wsumI ws i).toNat <= (wsumI ws j).toNat:=by
 induction j with
 | zero=>
  have : i = 0:=by omega
  subst this; exact Nat.le_refl _
 | succ j ih=>
  rcases Nat.lt_or_eq_of_le hij with h1 | h1
  · have:=ih (by omega) (by omega) (fun k hk=>h k (by omega))
    have b:=(wsum_nat (ws:=ws) j (by omega) (fun k hk=>h k (by omega))).1
    have h3:=h j (by omega)
    have e : (wsumI ws (j + 1)).toNat = (wsumI ws j).toNat + ws[j]!.value.toNat:=by
     rw [wsumI,UInt64.toNat_add]
     exact Nat.mod_eq_of_lt (by omega)
    omega
  · subst h1; exact Nat.le_refl _
theorem MMn : (2100000000000000 : UInt64).toNat = 2100000000000000:=rfl
theorem tot_wan (ws : List Wnt) : totP ws ↔ wanP ws:=by
 have key : ∀ i,i <= 64 -> (∀ j < i,ws[j]!.value.toNat <= 2100000000000000) -> (wsumI ws i).toNat <= 2100000000000000 -> (lftI ws i).toNat = 2100000000000000 - (wsumI ws i).toNat:=by
  intro i _ _ h
  rw [lft_sum,UInt64.toNat_sub_of_le _ _ (UInt64.le_iff_toNat_le.2 (by rw [MMn]; exact h)),MMn]
 constructor
 · rintro ⟨h0,h1,h2⟩
   have hall : ∀ i,i <= ws.length -> (∀ j < i,ws[j]!.value.toNat <= 2100000000000000) /\ (wsumI ws i).toNat <= 2100000000000000:=by
    intro i
    induction i with
    | zero=>intro _; exact ⟨fun j hj=>absurd hj (Nat.not_lt_zero _),by simp [wsumI]⟩
    | succ i ih=>
     intro hi
     obtain ⟨a,b⟩:=ih (by omega)
     have k1:=key i (by omega) a b
     have k2:=(h2 i (by omega)).2.1
     rw [UInt64.lt_iff_toNat_lt,k1] at k2
     refine ⟨fun j hj=>?_, ?_⟩
     · rcases Nat.lt_succ_iff_lt_or_eq.1 hj with h | h
       · exact a j h
       · subst h; omega
     · rw [wsumI,UInt64.toNat_add,Nat.mod_eq_of_lt (by omega)]; omega
   have hN : wanN ws = ws.length:=by unfold wanN; omega
   refine ⟨fun j hj=>?_,by omega,h1, ?_⟩
   · rw [hN] at hj
     have g:=h2 j hj
     have gv:=(hall ws.length (Nat.le_refl _)).1 j hj
     refine ⟨fun hlt=>g.1 ?_,fun hlt=>?_,g.2.2⟩
     · rw [UInt64.lt_iff_toNat_lt] at hlt
       exact UInt64.toNat_inj.1 (by simp at hlt ⊢; omega)
     · rw [UInt64.lt_iff_toNat_lt,MMn] at hlt; omega
   · rw [hN,UInt64.le_iff_toNat_le,MMn]; exact (hall _ (Nat.le_refl _)).2
 · rintro ⟨h0,h1,h2,h3⟩
   have hN : wanN ws = ws.length:=by unfold wanN; omega
   rw [hN,UInt64.le_iff_toNat_le,MMn] at h3
   have hv : ∀ j < ws.length,ws[j]!.value.toNat <= 2100000000000000 /\ ws[j]!.value ≠ 0 /\ ws[j]!.script.length <= 1000:=fun j hj=>by
    have g:=h0 j (by rw [hN]; exact hj)
    have g2:=g.2.1
    rw [UInt64.lt_iff_toNat_lt,MMn] at g2
    refine ⟨by omega,fun e=>g.1 (by rw [e]; decide),g.2.2⟩
   refine ⟨by omega,h2,fun i hi=>⟨(hv i hi).2.1,fun hlt=>?_,(hv i hi).2.2⟩⟩
   have m1:=wsum_mono (ws:=ws) (i:=i) (j:=ws.length) (by omega) (by omega) (fun k hk=>(hv k hk).1)
   have m2:=wsum_mono (ws:=ws) (i:=i + 1) (j:=ws.length) (by omega) (by omega) (fun k hk=>(hv k hk).1)
   have k1:=key i (by omega) (fun j hj=>(hv j (by omega)).1) (by omega)
   rw [UInt64.lt_iff_toNat_lt,k1] at hlt
   have h4:=(hv i hi).1
   have e : (wsumI ws (i + 1)).toNat = (wsumI ws i).toNat + ws[i]!.value.toNat:=by
    rw [wsumI,UInt64.toNat_add]
    exact Nat.mod_eq_of_lt (by omega)
   omega
theorem tot_wanV {ws : List Wnt} (h : totP ws) : wanV ws = totV ws:=by
 have hw:=(tot_wan ws).1 h
 have hN : wanN ws = ws.length:=by have:=h.2.1; unfold wanN; omega
 rw [wanV,if_pos hw.1,totV,if_pos h,hN,lft_sum]
 have:=hw.2.2.2
 rw [hN] at this
 rw [u_sub_sub]
end Go.Sx

namespace Go.Sx
open Go.Proofs
theorem pur_ne {l : List Un} (h : purP l) {i j : Nat} (hij : i < j) (hj : j < l.length) : upl l[i]! ≠ upl l[j]!:=fun e=>by
 have:=(h j hj).1
 rw [purI_yes hij e] at this
 cases this
theorem pur_nodup {l : List Un} (h : purP l) : (l.map upl).Nodup:=by
 rw [List.Nodup,List.pairwise_iff_getElem]
 intro i j hi hj hij
 have hj' : j < l.length:=by simpa using hj
 have:=pur_ne h hij hj'
 rw [getE (by omega),getE hj'] at this
 simpa using this
theorem nodup_get {l : List Un} (h : (l.map upl).Nodup) {i j : Nat} (hi : i < l.length) (hj : j < l.length) (e : upl l[i]! = upl l[j]!) : i = j:=by
 rw [getE hi,getE hj] at e
 rw [List.Nodup,List.pairwise_iff_getElem] at h
 rcases Nat.lt_trichotomy i j with h1 | h1 | h1
 · have:=h i j (by simpa using hi) (by simpa using hj) h1
   exact absurd e (by simpa using this)
 · exact h1
 · have:=h j i (by simpa using hj) (by simpa using hi) h1
   exact absurd e.symm (by simpa using this)
theorem sortU_nodup {l : List Un} (hx : hs32 l) (h : purP l) : ((sortU l).map upl).Nodup:=((sortU_perm hx).map upl).nodup_iff.2 (pur_nodup h)
theorem ord_sym (a b : Un) : ordS a b < 0 ↔ 0 < ordS b a:=tcO.sym a b
theorem sorted_lt {l : List Un} (hx : hs32 l) (h : purP l) {i j : Nat} (hij : i < j) (hj : j < l.length) : ordS (sortU l)[i]! (sortU l)[j]! < 0:=by
 have h1:=sortU_sorted l hij hj
 have hl:=sortU_len l
 rcases Int.lt_or_eq_of_le h1 with h2 | h2
 · exact (ord_sym _ _).2 h2
 · exfalso
   have:=nodup_get (sortU_nodup hx h) (i:=j) (j:=i) (by omega) (by omega) (ord_z h2.symm).2
   omega
end Go.Sx

namespace Go.Sx
open Go.Proofs
end Go.Sx

namespace Go.Sx
open Go.Proofs
end Go.Sx

namespace Go.Sx
variable {P : Program} {C : Ctx} {σ σ' σ1 : Sg} {a : Act} {w w' : World} {ρ : Nat -> Nat} {Fe Fe' Fb : Nat -> List Nat}
variable {ops : List Oper} {an : List Nat} {ks kk : List (Nat × Nat)} {its : List It}
end Go.Sx

namespace Go.Sx
open Go.Proofs
def bytOwn (b : List UInt8) : D:=.sl (some 5) 1 (b.map D.u8)
def outOwn (o : OutS) : D:=.agg [.u64 o.value,bytOwn o.script]
def inC (c : Un) : D:=.agg [.agg [hashD c.tx,.u32 c.n],.nils,.u32 4294967295,.nils]
def inOwn (x : InS) : D:=.agg [.agg [hashD x.tx,.u32 x.n],bytOwn x.script,.u32 x.seq,.sl (some 24) 1 (x.wit.map bytOwn)]
def txOwn (t : TxS) : D:=.agg [.u32 t.ver,.sl (some 46) 36 (t.ins.map inOwn),.sl (some 48) 2 (t.outs.map outOwn),.u32 t.lock]
theorem brw_mapO {α : Type} {f g : α -> D} (h : ∀ x,(f x).brw = g x) (l : List α) : (l.map f).map D.brw = l.map g:=by
 rw [List.map_map]
 exact List.map_congr_left fun x _=>h x
theorem brw_bytOwn (b : List UInt8) : (bytOwn b).brw = bytesD b:=by
 simp only [bytOwn,bytesD,D.brw,brws_eq]
 rw [brw_mapO (g:=D.u8) (fun _=>rfl)]
theorem brw_inOwn (x : InS) : (inOwn x).brw = inD x:=by
 simp only [inOwn,inD,D.brw,brws_eq,List.map_cons,List.map_nil,brw_hash,brw_bytOwn]
 rw [brw_mapO brw_bytOwn]
theorem brw_outOwn (x : OutS) : (outOwn x).brw = outD x:=by
 simp only [outOwn,outD,D.brw,brws_eq,List.map_cons,List.map_nil,brw_bytOwn]
theorem brw_txOwn (t : TxS) : (txOwn t).brw = txD t:=by
 simp only [txOwn,txD,D.brw,brws_eq,List.map_cons,List.map_nil]
 rw [brw_mapO brw_inOwn,brw_mapO brw_outOwn]
theorem frs_bytOwn (b : List UInt8) : Frs (bytOwn b):=.sl _ _ _ (frs_map (fun x=>.u8 x))
def zeroT : TxS:=⟨0,[],[],0⟩
theorem wk_zeroT : Wk (.agg [.u32 0,.nils,.nils,.u32 0]) (txD zeroT):=
 .aggL (.cons (.refl _) (.cons (.nils _ _) (.cons (.nils _ _) (.cons (.refl _) .nil))))
def mkI (c : Un) : InS:=⟨c.tx,c.n,[],4294967295,[]⟩
theorem wk_in (c : Un) : Wk (inC c) (inOwn (mkI c)):=
 .aggL (.cons (.refl _) (.cons (.nils _ _) (.cons (.refl _) (.cons (.nils _ _) .nil))))
theorem wk_ins (o : Option Nat) (cs : List Un) : Wk (.sl o 36 (cs.map inC)) (.sl o 36 ((cs.map mkI).map inOwn)):=by
 rw [List.map_map]
 exact .slM fun c _=>wk_in c
theorem wk_mk (cs : List Un) (os : List OutS) : Wk (.agg [.u32 2,.sl (some 46) 36 (cs.map inC),.sl (some 48) 2 (os.map outOwn),.u32 0]) (txOwn ⟨2,cs.map mkI,os,0⟩):=
 .aggL (.cons (.refl _) (.cons (wk_ins _ cs) (.cons (.refl _) (.cons (.refl _) .nil))))
theorem wk_mkE (cs : List Un) (e : Nat) : Wk (.agg [.u32 2,.sl (some 46) 36 (cs.map inC),.nils,.u32 0]) (.agg [.u32 2,.sl (some 46) 36 (cs.map inC),.sl (some e) 2 [],.u32 0]):=
 .aggL (.cons (.refl _) (.cons (.refl _) (.cons (.nils _ _) (.cons (.refl _) .nil))))
def woS (w : Wnt) : OutS:=⟨w.value,w.script⟩
def mkO (ws : List Wnt) (ch : UInt64) (own : List UInt8) : List OutS:=if 0 < ch then ws.map woS ++ [⟨ch,own⟩] else ws.map woS
def mkX (l : List Un) (ws : List Wnt) (own : List UInt8) (r : UInt64) : TxS:=⟨2,(chC l ws r).map mkI,mkO ws (chV l ws r) own,0⟩
def mkE (l : List Un) (ws : List Wnt) (own : List UInt8) (r : UInt64) : Int:=if chE l ws r = 0 then (if 1000 < own.length then 1 else if mayS (mkX l ws own r) = true then 0 else 6) else chE l ws r
def mkT (l : List Un) (ws : List Wnt) (own : List UInt8) (r : UInt64) : TxS:=if mkE l ws own r = 0 then mkX l ws own r else zeroT
theorem mk_app (os : List OutS) (v : UInt64) (sc : List UInt8) : os.map outOwn ++ [.agg [.u64 v,.sl (some 5) 1 (sc.map D.u8)]] = (os ++ [(⟨v,sc⟩ : OutS)]).map outOwn:=by
 rw [List.map_append]; rfl
theorem mkI_app {cs : List Un} {i : Nat} (h : i < cs.length) : (cs.take i).map inC ++ [.agg [.agg [hashD cs[i]!.tx,.u32 cs[i]!.n],.nils,.u32 4294967295,.nils]] = (cs.take (i + 1)).map inC:=by
 rw [take_s h,List.map_append]; rfl
theorem woS_app {ws : List Wnt} {i : Nat} (h : i < ws.length) : (ws.take i).map woS ++ [(⟨ws[i]!.value,ws[i]!.script⟩ : OutS)] = (ws.take (i + 1)).map woS:=by
 rw [take_s h,List.map_append]; rfl
theorem mkO_y {ws : List Wnt} {ch : UInt64} {own : List UInt8} (h : 0 < ch) : ws.map woS ++ [(⟨ch,own⟩ : OutS)] = mkO ws ch own:=by rw [mkO,if_pos h]
theorem mkO_n {ws : List Wnt} {ch : UInt64} {own : List UInt8} (h : ¬ 0 < ch) : ws.map woS = mkO ws ch own:=by rw [mkO,if_neg h]
theorem mk_1 {l : List Un} {ws : List Wnt} {own : List UInt8} {r : UInt64} (h : ¬ chE l ws r = 0) : [txD zeroT,.int (chE l ws r)] = [txD (mkT l ws own r),.int (mkE l ws own r)]:=by
 have e : mkE l ws own r = chE l ws r:=by rw [mkE,if_neg h]
 rw [mkT,e,if_neg h]
theorem mk_2 {l : List Un} {ws : List Wnt} {own : List UInt8} {r : UInt64} (h : chE l ws r = 0) (h2 : 1000 < own.length) : [txD zeroT,.int 1] = [txD (mkT l ws own r),.int (mkE l ws own r)]:=by
 have e : mkE l ws own r = 1:=by rw [mkE,if_pos h,if_pos h2]
 rw [mkT,e,if_neg (by decide)]
theorem mk_3 {l : List Un} {ws : List Wnt} {own : List UInt8} {r : UInt64} (h : chE l ws r = 0) (h2 : ¬ 1000 < own.length) (h3 : mayS (mkX l ws own r) = false) : [txD zeroT,.int 6] = [txD (mkT l ws own r),.int (mkE l ws own r)]:=by
 have e : mkE l ws own r = 6:=by rw [mkE,if_pos h,if_neg h2,h3]; rfl
 rw [mkT,e,if_neg (by decide)]
theorem mk_4 {l : List Un} {ws : List Wnt} {own : List UInt8} {r : UInt64} (h : chE l ws r = 0) (h2 : ¬ 1000 < own.length) (h3 : mayS (mkX l ws own r) = true) : [txD (mkX l ws own r),.int 0] = [txD (mkT l ws own r),.int (mkE l ws own r)]:=by
 have e : mkE l ws own r = 0:=by rw [mkE,if_pos h,if_neg h2,if_pos h3]
 rw [mkT,e,if_pos rfl]
theorem insS_small {l : List InS} (h : ∀ x ∈ l,x.tx.length = 32 /\ x.script = []) : ∀ i ≤ l.length,(insS l i).length <= i * 49:=by
 intro i
 induction i with
 | zero=>intro _; simp [insS]
 | succ i ih=>
  intro hi
  have h1:=h _ (get_in (l:=l) (i:=i) (by omega))
  have h2:=ih (by omega)
  have h3:=itemS_len l[i]!.script
  rw [h1.2,List.length_nil] at h3
  simp only [insS,inS,List.length_append,lowI_len,h1.1,h1.2] at *
  omega
theorem outsS_small {l : List OutS} (h : ∀ x ∈ l,x.script.length <= 1000) : ∀ i ≤ l.length,(outsS l i).length <= i * 1017:=by
 intro i
 induction i with
 | zero=>intro _; simp [outsS]
 | succ i ih=>
  intro hi
  have h1:=h _ (get_in (l:=l) (i:=i) (by omega))
  have h2:=ih (by omega)
  have h3:=itemS_len l[i]!.script
  simp only [outsS,outS',List.length_append,lowI_len] at *
  omega
theorem witsS_small {l : List InS} (h : ∀ x ∈ l,x.wit = []) : ∀ i ≤ l.length,(witsS l i).length <= i * 9:=by
 intro i
 induction i with
 | zero=>intro _; simp [witsS]
 | succ i ih=>
  intro hi
  have h1:=h _ (get_in (l:=l) (i:=i) (by omega))
  have h2:=ih (by omega)
  have h3:=countS_len l[i]!.wit.length
  simp only [witsS,h1,witS,List.length_append,List.length_nil] at *
  omega
theorem small_wf {t : TxS} (hi : t.ins.length <= 5000) (ho : t.outs.length <= 1000) (h1 : ∀ x ∈ t.ins,x.tx.length = 32 /\ x.script = [] /\ x.wit = []) (h2 : ∀ x ∈ t.outs,x.script.length <= 1000) : t.wf where
 ins:=by omega
 outs:=by omega
 hash x hx:=(h1 x hx).1
 scr x hx:=by rw [(h1 x hx).2.1]; simp
 oscr x hx:=Nat.le_trans (h2 x hx) (by decide)
 insb i h:=by have:=insS_small (fun x hx=>⟨(h1 x hx).1,(h1 x hx).2.1⟩) i h; omega
 outsb i h:=by have:=outsS_small h2 i h; omega
 witsb i h:=by have:=witsS_small (fun x hx=>(h1 x hx).2.2) i h; omega
 witl x hx:=by
  rw [(h1 x hx).2.2]
  refine ⟨by simp,fun i hi=>?_⟩
  have : i = 0:=by simpa using hi
  rw [this]; simp [witS]
 witi x hx b hb:=by rw [(h1 x hx).2.2] at hb; cases hb
theorem chC_sub {l : List Un} {ws : List Wnt} {r : UInt64} : ∀ c ∈ chC l ws r,c ∈ sortU l:=fun c hc=>by
 unfold chC at hc
 split at hc
 · split at hc
   · exact List.mem_of_mem_take hc
   · cases hc
 · cases hc
theorem chC_len (l : List Un) (ws : List Wnt) (r : UInt64) : (chC l ws r).length <= l.length:=by
 unfold chC
 split
 · split
   · rw [List.length_take,sortU_len]; omega
   · simp
 · simp
theorem chC_hs {l : List Un} {ws : List Wnt} {r : UInt64} (hx : hs32 l) : hs32 (chC l ws r):=fun c hc=>sortU_hs hx c (chC_sub c hc)
theorem chE_P {l : List Un} {ws : List Wnt} {r : UInt64} (h : chE l ws r = 0) : chP l ws r:=by
 unfold chE at h
 split at h
 · assumption
 · cases h
theorem mkO_len (ws : List Wnt) (ch : UInt64) (own : List UInt8) : (mkO ws ch own).length <= ws.length + 1:=by unfold mkO; split <;> simp
theorem mkO_scr {ws : List Wnt} {ch : UInt64} {own : List UInt8} (hw : ∀ w ∈ ws,w.script.length <= 1000) (ho : own.length <= 1000) : ∀ x ∈ mkO ws ch own,x.script.length <= 1000:=fun x hx=>by
 have h1 : ∀ x ∈ ws.map woS,x.script.length <= 1000:=fun x hx=>by
  obtain ⟨w,hw',rfl⟩:=List.mem_map.1 hx
  exact hw w hw'
 unfold mkO at hx
 split at hx
 · rcases List.mem_append.1 hx with h | h
   · exact h1 x h
   · rw [List.mem_singleton.1 h]; exact ho
 · exact h1 x hx
theorem mkX_wf {l : List Un} {ws : List Wnt} {own : List UInt8} {r : UInt64} (hl : l.length <= 4096) (hx : hs32 l) (h : chE l ws r = 0) (ho : ¬ 1000 < own.length) : (mkX l ws own r).wf:=by
 have hp:=chE_P h
 have h1:=chC_len l ws r
 have h2:=mkO_len ws (chV l ws r) own
 have h3:=hp.1.2.1
 refine small_wf (by simp [mkX]; omega) (by simp only [mkX]; omega) (fun x hxm=>?_) ?_
 · obtain ⟨c,hc,rfl⟩:=List.mem_map.1 hxm
   exact ⟨chC_hs hx c hc,rfl,rfl⟩
 · exact mkO_scr (fun w hw=>by
    obtain ⟨i,hi,rfl⟩:=mem_get hw
    exact (hp.1.2.2 i hi).2.2) (by omega)
end Go.Sx

namespace Go.Sx
open Go.Proofs
theorem make1_ok (cs : List Un) (os : List OutS) (sc : List UInt8) (v : UInt64) (ho : os.length <= 1000) (hs : sc.length <= 1000000) : FnB Try.prog gl 31 [.sl none 1 (sc.map D.u8),.u64 v,.ptr 0 0 []] [(0,.var (.agg [.u32 2,.sl (some 46) 36 (cs.map inC),.sl (some 48) 2 (os.map outOwn),.u32 0]))] (.tup []) [(0,.var (.agg [.u32 2,.sl (some 46) 36 (cs.map inC),.sl (some 48) 2 ((os ++ [(⟨v,sc⟩ : OutS)]).map outOwn),.u32 0]))] []:=by
 refine FnB.of (n:=14) (ids:=[0]) Try.func31 rfl rfl rfl (Nat.le_of_ble_eq_true rfl) fun C hC hD=>?_
 refine W.draw (m:=7) (an:=[0,1,0,0,8,28,60,127,255,511]) hP (by decide) rfl (its:=[⟨5,_,true⟩,⟨6,_,true⟩,⟨7,_,true⟩,⟨8,_,true⟩,⟨9,_,true⟩,⟨10,_,true⟩,⟨11,_,true⟩]) (ks:=[(5,9),(6,10)]) (kk:=[(5,9),(6,10)]) (live:=[2,6,11]) (env':=[(2,_),(6,_),(11,_)])
  (⟨Nat.le_of_ble_eq_true rfl,rfl,
   ⟨⟨rfl,rfl,fun _ τ hb ht hτ=>R.fdP (hτ 2 _ rfl) ht⟩,
   ⟨⟨rfl,rfl,fun _ τ hb ht hτ=>R.ldO (hτ 5 _ rfl) (hb 0 _ rfl) rfl ht⟩,
   ⟨⟨rfl,rfl,fun _ τ hb ht hτ=>R.mov (evt (hτ 1 _ rfl)) rfl ht⟩,
   ⟨⟨rfl,rfl,fun _ τ hb ht hτ=>R.mov (evt (hτ 0 _ rfl)) rfl ht⟩,
   ⟨⟨rfl,rfl,fun _ τ hb ht hτ=>R.callG hC (sclone_ok sc (by omega)) (Bors.cons (Bor.pur (evt (hτ 8 _ rfl)) rfl rfl) Bors.nil) (FrsR.one (frs_bytOwn sc)) ht⟩,
   ⟨⟨rfl,rfl,fun _ τ hb ht hτ=>R.bldO (l:=[.u64 0,.nils]) (l':=[_,_]) (.pur (evt (hτ 7 _ rfl)) rfl rfl rfl (.own (hτ 9 _ rfl) rfl rfl rfl rfl (.nil rfl))) rfl ht⟩,
   ⟨⟨rfl,rfl,fun _ τ hb ht hτ=>R.bslO (z:=2) (.own (hτ 10 _ rfl) rfl rfl rfl rfl .nil) rfl rfl ht (by decide)⟩,
   trivial⟩⟩⟩⟩⟩⟩⟩,rfl,rfl,rfl⟩)
  rfl (bx':=[(0,.var _)]) rfl (n':=14) rfl (⟨rfl,_,R.appBP2 (show Sg.get _ 6 = some _ from rfl) (show Sg.box _ 0 = some _ from rfl) rfl rfl rfl rfl (show Sg.get _ 6 = some _ from rfl) (show Sg.get _ 11 = some _ from rfl) rfl (show _ = ((os ++ [(⟨v,sc⟩ : OutS)]).map outOwn) from (mk_app _ _ _)) (by simp only [List.length_map,List.length_cons,List.length_nil]; omega) (Nat.le_of_ble_eq_true rfl) (by decide) (by decide),⟨rfl,_,R.fdP (show Sg.get _ 2 = some _ from rfl) (Nat.le_of_ble_eq_true rfl),⟨rfl,_,R.stOZ (show Sg.get _ 13 = some _ from rfl) (show Sg.box _ 0 = some _ from rfl) rfl (show Sg.get _ 12 = some _ from rfl) rfl rfl (by rfl) (by rfl) rfl rfl,⟨[],[],[(0,.var _)],14,rfl,rfl,rfl, ?_⟩⟩⟩⟩)
 exact EndsB.none' (r:=.dead) (.inl rfl) rfl (rfl) ⟨rfl,trivial⟩
end Go.Sx

namespace Go.Sx
open Go.Proofs
theorem wnumber_ok (b : List UInt8) (x : UInt64) (n : Nat) (hn : n <= 8) (hb : b.length <= 10000000) : FnB Try.prog gl 59 [.ptr 0 0 [],.u64 x,.int ((n : Nat) : Int)] [(0,.var (.agg [.sl (some 5) 1 (b.map D.u8)]))] (.tup []) [(0,.var (.agg [.sl (some 5) 1 ((b ++ lowI x n).map D.u8)]))] []:=by
 refine FnB.of (n:=23) (ids:=[0]) Try.func59 rfl rfl rfl (nU rfl) fun C hC hD=>?_
 refine W.seq ?_
 refine W.l0 2 [.y 6 _,.y 7 _] [] [] [(0,_),(1,_),(6,_),(7,_)] [(0,.var _)] 23 ⟨mU 2 O O,aU fun _ _ H _=>R.mov (kI 0 O) O H,Zt⟩ O O O O (tU O ?_)
 refine W.block ?_
 refine W.loop (α:={q__ : Nat // q__ <= n}) (fun q__=>⟨23,[(0,.ptr 0 0 []),(1,.u64 (shN x q__.1)),(6,.int ((n : Nat) : Int)),(7,.int ((q__.1 : Nat) : Int))],[(0,.var (.agg [.sl (some 5) 1 ((b ++ lowI x q__.1).map D.u8)]))]⟩) (fun q__=>n - q__.1) ⟨(0),bU⟩ (by simp only [lowI,List.append_nil]; rfl) ?_
 rintro ⟨i,hi⟩
 show W _ _ _ _ ⟨23,[(0,.ptr 0 0 []),(1,.u64 (shN x i)),(6,.int ((n : Nat) : Int)),(7,.int ((i : Nat) : Int))],[(0,.var (.agg [.sl (some 5) 1 ((b ++ lowI x i).map D.u8)]))]⟩
 have hi : i <= n:=hi
 have hll:=lowI_len x i
 refine W.seq ?_
 refine W.l0 1 [.y 8 _] [] [] [(0,_),(1,_),(6,_),(7,_),(8,_)] [(0,.var _)] 23 ⟨aU fun _ _ H K=>R.lssN (i) (n) (eU K 7 O) (eU K 6 O) H,Zt⟩ O O O O (tU O ?_)
 refine W.seq ?_
 refine W.condD O (fun hc8=>?_) (fun hc8=>?_)
 · refine W.skip (W.seq (W.block (W.seq ?_)))
   refine W.l0 12 [.y 9 _,.y 10 _,.y 11 _,.y 12 _,.y 13 _,.y 14 _,.y 15 _,.y 16 _] [] [] [(0,_),(1,_),(6,_),(7,_),(9,_),(13,_),(16,_)] [(0,.var _)] 23 ⟨mU 0 O O,mU 0 O O,aU fun _ _ H K=>R.nilcP (K 10 _ O) H,aU (fU 11 O O),aU fun _ B H K=>R.ldO (K 12 _ O) (B 0 _ O) O H,mU 1 O O,aU fun _ _ H K=>R.conv (eU K 14 O) O H,aU fun _ _ H K=>R.bslE (z:=1) (.cons (eU K 15 O) .nil) ⟨⟨O,O,O⟩,Zt⟩ O H dU,Zt⟩ O O O O (⟨O,_,R.appBP (gU 13 O) (xU 0 O) O O O O (gU 13 O) (SrcO.sc (SC.sl (gU 16 O)) (pur_lit O)) (show _ = ((b ++ lowI x (i + 1)).map D.u8) from (by simp [lowI])) bU (nU O) dU dU,⟨O,_,R.nilcP (gU 9 O) (nU O),⟨O,_,R.fdP (gU 18 O) (nU O),⟨O,_,R.stOZ (gU 19 O) (xU 0 O) O (gU 17 O) O O (by rfl) (by rfl) O O,tV [(0,_),(1,_),(6,_),(7,_)] [(0,.var _)] 23 O O O ?_⟩⟩⟩⟩)
   refine W.l0 3 [.y 20 _,.y 21 _,.y 1 _] [] [] [(0,_),(1,_),(6,_),(7,_)] [(0,.var _)] 23 ⟨mU 1 O O,aU fun _ _ H K=>R.bin (eU K 20 O) (show ev _ _ (.const (.int .u64 8)) = some (.u64 8) from O) O bV H,aU fun _ _ H K=>R.asg (eU K 21 O) O H,Zt⟩ O O O O (tU O ?_)
   refine W.l0 2 [.y 22 _,.y 7 _] [] [] [(0,_),(1,_),(6,_),(7,_)] [(0,.var _)] 23 ⟨aU fun _ _ H K=>R.addN (i) (1) (eU K 7 O) (kI 1 O) bU H,mU 22 O O,Zt⟩ O O O O (tU O ?_)
   exact ⟨⟨(i + 1),bU⟩,rfl,(by simp only []; omega)⟩
 · obtain rfl : i = n:=by omega
   refine W.exit ?_
   exact EndsB.none' (r:=.dead) (.inl O) O (O) ⟨O,Zt⟩
theorem wcount_ok (b : List UInt8) (n : Nat) (hb : b.length <= 9000000) : FnB Try.prog gl 61 [.ptr 0 0 [],.int ((n : Nat) : Int)] [(0,.var (.agg [.sl (some 5) 1 (b.map D.u8)]))] (.tup []) [(0,.var (.agg [.sl (some 5) 1 ((b ++ countS n).map D.u8)]))] []:=by
 refine FnB.of (n:=34) (ids:=[0]) Try.func61 rfl rfl rfl (nU rfl) fun C hC hD=>?_
 refine W.seq ?_
 refine W.l0 3 [.y 5 _,.y 6 _,.y 4 _] [] [] [(0,_),(4,_)] [(0,.var _)] 34 ⟨mU 1 O O,aU fun _ _ H K=>R.convE (d:=.u64 (cU n)) (eU K 5 O) O (O) H,aU fun _ _ H K=>R.asg (eU K 6 O) O H,Zt⟩ O O O O (tU O ?_)
 refine W.block (W.seq ?_)
 refine W.l0 3 [.y 13 _,.y 14 _,.y 12 _] [] [] [(0,_),(4,_),(12,_)] [(0,.var _)] 34 ⟨mU 4 O O,aU fun _ _ H K=>R.bin (eU K 13 O) (show ev _ _ (.const (.int .u64 253)) = some (.u64 253) from O) O Zt H,aU fun _ _ H K=>R.asg (eU K 14 O) O H,Zt⟩ O O O O (tU O ?_)
 refine W.cond O (fun hc12=>?_) (fun hc12=>?_)
 · refine W.l0 3 [.y 15 _,.y 16 _] [] [] [(15,_),(16,_)] [(0,.var _)] 34 ⟨mU 0 O O,mU 4 O O,Zt⟩ O O O O (⟨O,_,R.callB [(0,0)] hC (wnumber_ok b (cU n) 1 dU (by first | omega | (simp only [List.length_append,lowI_len,List.length_cons,List.length_nil]; omega) | simp)) (EvB.cons (gV 15 O) O O O (EvB.cons (gV 16 O) O O O (EvB.cons (kI 1 O) O O O EvB.nil))) O ⟨O,Zt⟩ ⟨O,Zt⟩ O O O O O O (nU O),tV [] [(0,.var _)] 34 O O O ?_⟩)
   exact EndsB.none' (r:=.dead) (.inl O) O (by simp only [countS,if_pos (of_decide_eq_true hc12)]; rfl) ⟨O,Zt⟩
 · refine W.seq ?_
   refine W.l0 3 [.y 19 _,.y 20 _,.y 18 _] [] [] [(0,_),(4,_),(18,_)] [(0,.var _)] 34 ⟨mU 4 O O,aU fun _ _ H K=>R.bin (eU K 19 O) (show ev _ _ (.const (.int .u64 65535)) = some (.u64 65535) from O) O Zt H,aU fun _ _ H K=>R.asg (eU K 20 O) O H,Zt⟩ O O O O (tU O ?_)
   refine W.cond O (fun hc18=>?_) (fun hc18=>?_)
   · refine W.seq ?_
     refine W.l0 2 [.y 21 _] [] [] [(0,_),(4,_),(21,_)] [(0,.var _)] 34 ⟨mU 0 O O,Zt⟩ O O O O (⟨O,_,R.callB [(0,0)] hC (wnumber_ok b 253 1 dU (by first | omega | (simp only [List.length_append,lowI_len,List.length_cons,List.length_nil]; omega) | simp)) (EvB.cons (gV 21 O) O O O (EvB.cons (show ev _ _ (.const (.int .u64 253)) = some (.u64 253) from O) O O O (EvB.cons (kI 1 O) O O O EvB.nil))) O ⟨O,Zt⟩ ⟨O,Zt⟩ O O O O O O (nU O),tV [(0,_),(4,_)] [(0,.var _)] 34 O O O ?_⟩)
     refine W.l0 3 [.y 23 _,.y 24 _] [] [] [(23,_),(24,_)] [(0,.var _)] 34 ⟨mU 0 O O,mU 4 O O,Zt⟩ O O O O (⟨O,_,R.callB [(0,0)] hC (wnumber_ok (b ++ lowI 253 1) (cU n) 2 dU (by first | omega | (simp only [List.length_append,lowI_len,List.length_cons,List.length_nil]; omega) | simp)) (EvB.cons (gV 23 O) O O O (EvB.cons (gV 24 O) O O O (EvB.cons (kI 2 O) O O O EvB.nil))) O ⟨O,Zt⟩ ⟨O,Zt⟩ O O O O O O (nU O),tV [] [(0,.var _)] 34 O O O ?_⟩)
     exact EndsB.none' (r:=.dead) (.inl O) O (by simp only [countS,if_neg (of_decide_eq_false hc12),if_pos (of_decide_eq_true hc18),List.append_assoc]; rfl) ⟨O,Zt⟩
   · refine W.seq ?_
     refine W.l0 3 [.y 27 _,.y 28 _,.y 26 _] [] [] [(0,_),(4,_),(26,_)] [(0,.var _)] 34 ⟨mU 4 O O,aU fun _ _ H K=>R.bin (eU K 27 O) (show ev _ _ (.const (.int .u64 4294967295)) = some (.u64 4294967295) from O) O Zt H,aU fun _ _ H K=>R.asg (eU K 28 O) O H,Zt⟩ O O O O (tU O ?_)
     refine W.cond O (fun hc26=>?_) (fun hc26=>?_)
     · refine W.seq ?_
       refine W.l0 2 [.y 29 _] [] [] [(0,_),(4,_),(29,_)] [(0,.var _)] 34 ⟨mU 0 O O,Zt⟩ O O O O (⟨O,_,R.callB [(0,0)] hC (wnumber_ok b 254 1 dU (by first | omega | (simp only [List.length_append,lowI_len,List.length_cons,List.length_nil]; omega) | simp)) (EvB.cons (gV 29 O) O O O (EvB.cons (show ev _ _ (.const (.int .u64 254)) = some (.u64 254) from O) O O O (EvB.cons (kI 1 O) O O O EvB.nil))) O ⟨O,Zt⟩ ⟨O,Zt⟩ O O O O O O (nU O),tV [(0,_),(4,_)] [(0,.var _)] 34 O O O ?_⟩)
       refine W.l0 3 [.y 31 _,.y 32 _] [] [] [(31,_),(32,_)] [(0,.var _)] 34 ⟨mU 0 O O,mU 4 O O,Zt⟩ O O O O (⟨O,_,R.callB [(0,0)] hC (wnumber_ok (b ++ lowI 254 1) (cU n) 4 dU (by first | omega | (simp only [List.length_append,lowI_len,List.length_cons,List.length_nil]; omega) | simp)) (EvB.cons (gV 31 O) O O O (EvB.cons (gV 32 O) O O O (EvB.cons (kI 4 O) O O O EvB.nil))) O ⟨O,Zt⟩ ⟨O,Zt⟩ O O O O O O (nU O),tV [] [(0,.var _)] 34 O O O ?_⟩)
       exact EndsB.none' (r:=.dead) (.inl O) O (by simp only [countS,if_neg (of_decide_eq_false hc12),if_neg (of_decide_eq_false hc18),if_pos (of_decide_eq_true hc26),List.append_assoc]; rfl) ⟨O,Zt⟩
     · refine W.seq ?_
       refine W.l0 2 [.y 7 _] [] [] [(0,_),(4,_),(7,_)] [(0,.var _)] 34 ⟨mU 0 O O,Zt⟩ O O O O (⟨O,_,R.callB [(0,0)] hC (wnumber_ok b 255 1 dU (by first | omega | (simp only [List.length_append,lowI_len,List.length_cons,List.length_nil]; omega) | simp)) (EvB.cons (gV 7 O) O O O (EvB.cons (show ev _ _ (.const (.int .u64 255)) = some (.u64 255) from O) O O O (EvB.cons (kI 1 O) O O O EvB.nil))) O ⟨O,Zt⟩ ⟨O,Zt⟩ O O O O O O (nU O),tV [(0,_),(4,_)] [(0,.var _)] 34 O O O ?_⟩)
       refine W.l0 3 [.y 9 _,.y 10 _] [] [] [(9,_),(10,_)] [(0,.var _)] 34 ⟨mU 0 O O,mU 4 O O,Zt⟩ O O O O (⟨O,_,R.callB [(0,0)] hC (wnumber_ok (b ++ lowI 255 1) (cU n) 8 dU (by first | omega | (simp only [List.length_append,lowI_len,List.length_cons,List.length_nil]; omega) | simp)) (EvB.cons (gV 9 O) O O O (EvB.cons (gV 10 O) O O O (EvB.cons (kI 8 O) O O O EvB.nil))) O ⟨O,Zt⟩ ⟨O,Zt⟩ O O O O O O (nU O),tV [] [(0,.var _)] 34 O O O ?_⟩)
       exact EndsB.none' (r:=.dead) (.inl O) O (by simp only [countS,if_neg (of_decide_eq_false hc12),if_neg (of_decide_eq_false hc18),if_neg (of_decide_eq_false hc26),List.append_assoc]; rfl) ⟨O,Zt⟩
theorem witem_ok (b x : List UInt8) (hb : b.length <= 8000000) (hx : x.length <= 1000000) : FnB Try.prog gl 62 [.ptr 0 0 [],.sl none 1 (x.map D.u8)] [(0,.var (.agg [.sl (some 5) 1 (b.map D.u8)]))] (.tup []) [(0,.var (.agg [.sl (some 5) 1 ((b ++ itemS x).map D.u8)]))] []:=by
 refine FnB.of (n:=17) (ids:=[0]) Try.func62 rfl rfl rfl (nU rfl) fun C hC hD=>?_
 refine W.seq ?_
 refine W.l0 4 [.y 4 _,.y 5 _,.y 6 _] [] [] [(0,_),(1,_),(4,_),(6,_)] [(0,.var _)] 17 ⟨mU 0 O O,mU 1 O O,aU fun _ _ H K=>R.lenE (SC.sl (K 5 _ O)) (lN _) H,Zt⟩ O O O O (⟨O,_,R.callB [(0,0)] hC (wcount_ok b x.length (by omega)) (EvB.cons (gV 4 O) O O O (EvB.cons (gV 6 O) O O O EvB.nil)) O ⟨O,Zt⟩ ⟨O,Zt⟩ O O O O O O (nU O),tV [(0,_),(1,_)] [(0,.var _)] 17 O O O ?_⟩)
 have hcl:=countS_len x.length
 refine W.l0 10 [.y 8 _,.y 9 _,.y 10 _,.y 11 _,.y 12 _,.y 13 _] [] [] [(8,_),(12,_),(13,_)] [(0,.var _)] 17 ⟨mU 0 O O,mU 0 O O,aU fun _ _ H K=>R.nilcP (K 9 _ O) H,aU (fU 10 O O),aU fun _ B H K=>R.ldO (K 11 _ O) (B 0 _ O) O H,mU 1 O O,Zt⟩ O O O O (⟨O,_,R.appBP (gU 12 O) (xU 0 O) O O O O (gU 12 O) (SrcO.sc (SC.sl (gU 13 O)) (pur_map (fun _=>rfl))) (app_map) bU (nU O) dU dU,⟨O,_,R.nilcP (gU 8 O) (nU O),⟨O,_,R.fdP (gU 15 O) (nU O),⟨O,_,R.stOZ (gU 16 O) (xU 0 O) O (gU 14 O) O O (by rfl) (by rfl) O O,tV [] [(0,.var _)] 17 O O O ?_⟩⟩⟩⟩)
 exact EndsB.none' (r:=.dead) (.inl O) O (by simp only [itemS,List.append_assoc]; rfl) ⟨O,Zt⟩
end Go.Sx

namespace Go.Sx
open Go.Proofs
theorem wbody_ok (b : List UInt8) (t : TxS) (hwf : t.wf) (hb : b.length <= 100) : FnB Try.prog gl 60 [.ptr 0 0 [],txD t] [(0,.var (.agg [.sl (some 5) 1 (b.map D.u8)]))] (.tup []) [(0,.var (.agg [.sl (some 5) 1 ((b ++ bodyS t).map D.u8)]))] []:=by
 refine FnB.of (n:=68) (ids:=[0]) Try.func60 rfl rfl rfl (nU rfl) fun C hC hD=>?_
 have hc1:=countS_len t.ins.length
 have hc2:=countS_len t.outs.length
 have h1:=hwf.ins
 have h2:=hwf.outs
 have h3:=hwf.insb _ (Nat.le_refl _)
 have h4:=hwf.outsb _ (Nat.le_refl _)
 refine W.seq ?_
 refine W.l0 1 [] [] [] [(0,_),(1,_)] [(0,.var _)] 68 Zt O O O O (⟨O,_,R.box (gV 1 O) O O (nU O),tV [(0,_),(3,_)] [(3,.var _),(0,.var _)] 68 O O O ?_⟩)
 refine W.seq ?_
 refine W.l0 5 [.y 8 _,.y 9 _,.y 10 _,.y 11 _] [] [] [(0,_),(3,_),(8,_),(11,_)] [(3,.var _),(0,.var _)] 68 ⟨mU 0 O O,aU (fU 3 O O),aU (lU 9 O O O O O O O),aU fun _ _ H K=>R.lenE (SC.sl (K 10 _ O)) (lN _) H,Zt⟩ O O O O (⟨O,_,R.callB [(0,0)] hC (wcount_ok b t.ins.length (by omega)) (EvB.cons (gV 8 O) O O O (EvB.cons (gV 11 O) O O O EvB.nil)) O ⟨O,Zt⟩ ⟨O,Zt⟩ O O O O O O (nU O),tV [(0,_),(3,_)] [(3,.var _),(0,.var _)] 68 O O O ?_⟩)
 refine W.seq (W.seq ?_)
 refine W.l0 4 [.y 13 _,.y 14 _,.y 15 _,.y 16 _] [] [] [(0,_),(3,_),(14,_),(15,_),(16,_)] [(3,.var _),(0,.var _)] 68 ⟨aU (fU 3 O O),aU (lU 13 O O O O O O O),aU fun _ _ H K=>R.lenE (SC.sl (K 14 _ O)) (lN _) H,aU fun _ _ H _=>R.mov (kI 0 O) O H,Zt⟩ O O O O (tU O ?_)
 refine W.block ?_
 refine W.loop (α:={q__ : Nat // q__ <= t.ins.length}) (fun q__=>⟨68,[(0,.ptr 0 0 []),(3,.ptr 3 0 []),(14,.sl none 36 (t.ins.map inD)),(15,.int ((t.ins.length : Nat) : Int)),(16,.int ((q__.1 : Nat) : Int))],[(3,.var (.agg [.u32 t.ver,.sl none 36 (t.ins.map inD),.sl none 2 (t.outs.map outD),.u32 t.lock])),(0,.var (.agg [.sl (some 5) 1 ((b ++ countS t.ins.length ++ insS t.ins q__.1).map D.u8)]))]⟩) (fun q__=>t.ins.length - q__.1) ⟨(0),bU⟩ (by simp only [insS,List.append_nil]; rfl) ?_
 rintro ⟨i,hi⟩
 show W _ _ _ _ ⟨68,[(0,.ptr 0 0 []),(3,.ptr 3 0 []),(14,.sl none 36 (t.ins.map inD)),(15,.int ((t.ins.length : Nat) : Int)),(16,.int ((i : Nat) : Int))],[(3,.var (.agg [.u32 t.ver,.sl none 36 (t.ins.map inD),.sl none 2 (t.outs.map outD),.u32 t.lock])),(0,.var (.agg [.sl (some 5) 1 ((b ++ countS t.ins.length ++ insS t.ins i).map D.u8)]))]⟩
 have hi : i <= t.ins.length:=hi
 have hib:=hwf.insb i hi
 have hx : i < t.ins.length -> t.ins[i]!.tx.length = 32 /\ t.ins[i]!.script.length <= 1000000:=fun h=>⟨hwf.hash _ (get_mem h),hwf.insScript h⟩
 have hil:=itemS_len t.ins[i]!.script
 refine W.seq ?_
 refine W.l0 1 [.y 17 _] [] [] [(0,_),(3,_),(14,_),(15,_),(16,_),(17,_)] [(3,.var _),(0,.var _)] 68 ⟨aU fun _ _ H K=>R.lssN (i) (t.ins.length) (eU K 16 O) (eU K 15 O) H,Zt⟩ O O O O (tU O ?_)
 refine W.seq ?_
 refine W.condD O (fun hc17=>?_) (fun hc17=>?_)
 · refine W.skip (W.seq (W.block (W.seq ?_)))
   refine W.l0 4 [.y 18 _,.y 19 _] [] [] [(0,_),(3,_),(14,_),(15,_),(16,_),(19,_)] [(3,.var _),(0,.var _)] 68 ⟨aU fun _ _ H K=>R.idxN (i) (SC.sl (K 14 _ O)) (evoI (eU K 16 O)) O bU H dU,aU fun _ _ H K=>R.ldE (K 18 _ O) (SC.sl (K 14 _ O)) (map_get! (l:=t.ins) bU) O O O O H,Zt⟩ O O O O (⟨O,_,R.alloc O (nU O),⟨O,_,R.stZ (gU 5 O) (xU 5 O) O (gV 19 O) (by rfl) (by rfl) (by rfl) (by rfl) O,tV [(0,_),(3,_),(5,_),(14,_),(15,_),(16,_)] [(5,.var _),(3,.var _),(0,.var _)] 68 O O O ?_⟩⟩)
   refine W.seq ?_
   refine W.drawC (m:=9) (an:=[0,0,2,6,14,0,32,96,254,511,1023,2047]) (its:=[.y 20 _,.y 21 _,.y 22 _,.y 23 _,.y 24 _,.y 25 _,.y 26 _,.y 27 _,.y 28 _]) (ks:=[(8,24)]) (kk:=[(8,24)]) (live:=[0,3,5,14,15,16,20,28]) (env':=[(0,_),(3,_),(5,_),(14,_),(15,_),(16,_),(20,_),(28,_)]) (bx1:=[(5,.var _),(3,.var _),(0,.var _)]) [(5,_),(3,_)] 8 [0] hP dU O ⟨nU O,O,O,O⟩ ⟨O,⟨O,Zt⟩⟩ (        ⟨⟨O,O,fun _ τ hb ht hτ=>R.mov (evt (hτ 0 _ O)) O ht⟩,⟨⟨O,O,fun _ τ hb ht hτ=>R.mov (evt (hτ 0 _ O)) O ht⟩,⟨⟨O,O,fun _ τ hb ht hτ=>R.nilcP (hτ 21 _ O) ht⟩,⟨⟨O,O,fun _ τ hb ht hτ=>R.fdP (hτ 22 _ O) ht⟩,⟨⟨O,O,fun _ τ hb ht hτ=>R.ldO (hτ 23 _ O) (hb 0 _ O) O ht⟩,⟨⟨O,O,fun _ τ hb ht hτ=>R.fdP (hτ 5 _ O) ht⟩,⟨⟨O,O,fun _ τ hb ht hτ=>R.fdP (hτ 25 _ O) ht⟩,⟨⟨O,O,fun _ τ hb ht hτ=>R.slAN (0) (32) (32) (hτ 26 _ O) (hb 5 _ O) O O O O O bU bU O ht⟩,⟨⟨O,O,O,(SpC.appB (s:=24) O O O O O O (fun τ hb hτ=>(SrcO.sc (SC.va (hτ 27 _ O O O) (hb 5 _ O) O bU) (pur_part (fun _=>rfl)))) (show _ = ((((b ++ countS t.ins.length ++ insS t.ins i) ++ t.ins[i]!.tx)).map D.u8) from (by rw [List.drop_zero,List.take_of_length_le (by rw [List.length_map,(hx hc17).1]; exact Nat.le_refl _)]; simp)) bU dU dU O)⟩,Zt⟩⟩⟩⟩⟩⟩⟩⟩⟩) O O O (nU O) ⟨O,⟨O,Zt⟩⟩ O (n':=68) O (⟨O,_,R.nilcP (gU 20 O) (nU O),⟨O,_,R.fdP (gU 29 O) (nU O),⟨O,_,R.stOZ (gU 30 O) (xU 0 O) O (gU 28 O) O O (by rfl) (by rfl) O O,⟨[0,3,5,14,15,16],[(0,_),(3,_),(5,_),(14,_),(15,_),(16,_)],[(5,.var _),(3,.var _),(0,.var _)],68,O,O,O, ?_⟩⟩⟩⟩)
   refine W.seq ?_
   refine W.l0 6 [.y 31 _,.y 32 _,.y 33 _,.y 34 _,.y 35 _] [] [] [(0,_),(3,_),(5,_),(14,_),(15,_),(16,_),(31,_),(35,_)] [(5,.var _),(3,.var _),(0,.var _)] 68 ⟨mU 0 O O,aU (fU 5 O O),aU (fU 32 O O),aU (lU 33 O O O O O O O),aU fun _ _ H K=>R.conv (eU K 34 O) O H,Zt⟩ O O O O (⟨O,_,R.callB [(0,0)] hC (wnumber_ok ((b ++ countS t.ins.length ++ insS t.ins i) ++ t.ins[i]!.tx) t.ins[i]!.n.toUInt64 4 dU (by first | omega | (simp only [List.length_append,lowI_len,List.length_cons,List.length_nil]; omega) | simp)) (EvB.cons (gV 31 O) O O O (EvB.cons (gV 35 O) O O O (EvB.cons (kI 4 O) O O O EvB.nil))) O ⟨O,Zt⟩ ⟨O,Zt⟩ O O O O O O (nU O),tV [(0,_),(3,_),(5,_),(14,_),(15,_),(16,_)] [(5,.var _),(3,.var _),(0,.var _)] 68 O O O ?_⟩)
   refine W.seq ?_
   refine W.l0 4 [.y 37 _,.y 38 _,.y 39 _] [] [] [(0,_),(3,_),(5,_),(14,_),(15,_),(16,_),(37,_),(39,_)] [(5,.var _),(3,.var _),(0,.var _)] 68 ⟨mU 0 O O,aU (fU 5 O O),aU (lU 38 O O O O O O O),Zt⟩ O O O O (⟨O,_,R.callB [(0,0)] hC (witem_ok (((b ++ countS t.ins.length ++ insS t.ins i) ++ t.ins[i]!.tx) ++ lowI t.ins[i]!.n.toUInt64 4) t.ins[i]!.script (by first | omega | (simp only [List.length_append,lowI_len,List.length_cons,List.length_nil]; omega) | simp) (by omega)) (EvB.cons (gV 37 O) O O O (EvB.cons (gV 39 O) O O O EvB.nil)) O ⟨O,Zt⟩ ⟨O,Zt⟩ O O O O O O (nU O),tV [(0,_),(3,_),(5,_),(14,_),(15,_),(16,_)] [(5,.var _),(3,.var _),(0,.var _)] 68 O O O ?_⟩)
   refine W.l0 5 [.y 41 _,.y 42 _,.y 43 _,.y 44 _] [] [] [(0,_),(3,_),(14,_),(15,_),(16,_),(41,_),(44,_)] [(5,.var _),(3,.var _),(0,.var _)] 68 ⟨mU 0 O O,aU (fU 5 O O),aU (lU 42 O O O O O O O),aU fun _ _ H K=>R.conv (eU K 43 O) O H,Zt⟩ O O O O (⟨O,_,R.callB [(0,0)] hC (wnumber_ok ((((b ++ countS t.ins.length ++ insS t.ins i) ++ t.ins[i]!.tx) ++ lowI t.ins[i]!.n.toUInt64 4) ++ itemS t.ins[i]!.script) t.ins[i]!.seq.toUInt64 4 dU (by first | omega | (simp only [List.length_append,lowI_len,List.length_cons,List.length_nil]; omega) | simp)) (EvB.cons (gV 41 O) O O O (EvB.cons (gV 44 O) O O O (EvB.cons (kI 4 O) O O O EvB.nil))) O ⟨O,Zt⟩ ⟨O,Zt⟩ O O O O O O (nU O),tV [(0,_),(3,_),(14,_),(15,_),(16,_)] [(5,.var _),(3,.var _),(0,.var _)] 68 O O O ?_⟩)
   refine W.dropB [0,3] (bx':=[(3,.var _),(0,.var _)]) O O O (pin_sub hD O) ?_
   refine W.l0 2 [.y 46 _,.y 16 _] [] [] [(0,_),(3,_),(14,_),(15,_),(16,_)] [(3,.var _),(0,.var _)] 68 ⟨aU fun _ _ H K=>R.addN (i) (1) (eU K 16 O) (kI 1 O) bU H,mU 46 O O,Zt⟩ O O O O (tU O ?_)
   exact ⟨⟨(i + 1),bU⟩,(by simp only [insS,inS,List.append_assoc]; rfl),(by simp only []; omega)⟩
 · obtain rfl : i = t.ins.length:=by omega
   refine W.exit (W.seq ?_)
   refine W.l0 5 [.y 47 _,.y 48 _,.y 49 _,.y 50 _] [] [] [(0,_),(3,_),(47,_),(50,_)] [(3,.var _),(0,.var _)] 68 ⟨mU 0 O O,aU (fU 3 O O),aU (lU 48 O O O O O O O),aU fun _ _ H K=>R.lenE (SC.sl (K 49 _ O)) (lN _) H,Zt⟩ O O O O (⟨O,_,R.callB [(0,0)] hC (wcount_ok (b ++ countS t.ins.length ++ insS t.ins t.ins.length) t.outs.length (by simp only [List.length_append]; omega)) (EvB.cons (gV 47 O) O O O (EvB.cons (gV 50 O) O O O EvB.nil)) O ⟨O,Zt⟩ ⟨O,Zt⟩ O O O O O O (nU O),tV [(0,_),(3,_)] [(3,.var _),(0,.var _)] 68 O O O ?_⟩)
   refine W.seq ?_
   refine W.l0 4 [.y 52 _,.y 53 _,.y 54 _,.y 55 _] [] [] [(0,_),(53,_),(54,_),(55,_)] [(3,.var _),(0,.var _)] 68 ⟨aU (fU 3 O O),aU (lU 52 O O O O O O O),aU fun _ _ H K=>R.lenE (SC.sl (K 53 _ O)) (lN _) H,aU fun _ _ H _=>R.mov (kI 0 O) O H,Zt⟩ O O O O (tU O ?_)
   refine W.block ?_
   refine W.loop (α:={q__ : Nat // q__ <= t.outs.length}) (fun q__=>⟨68,[(0,.ptr 0 0 []),(53,.sl none 2 (t.outs.map outD)),(54,.int ((t.outs.length : Nat) : Int)),(55,.int ((q__.1 : Nat) : Int))],[(3,.var (.agg [.u32 t.ver,.sl none 36 (t.ins.map inD),.sl none 2 (t.outs.map outD),.u32 t.lock])),(0,.var (.agg [.sl (some 5) 1 (((b ++ countS t.ins.length ++ insS t.ins t.ins.length) ++ countS t.outs.length ++ outsS t.outs q__.1).map D.u8)]))]⟩) (fun q__=>t.outs.length - q__.1) ⟨(0),bU⟩ (by simp only [outsS,List.append_nil]; rfl) ?_
   rintro ⟨i,hi⟩
   show W _ _ _ _ ⟨68,[(0,.ptr 0 0 []),(53,.sl none 2 (t.outs.map outD)),(54,.int ((t.outs.length : Nat) : Int)),(55,.int ((i : Nat) : Int))],[(3,.var (.agg [.u32 t.ver,.sl none 36 (t.ins.map inD),.sl none 2 (t.outs.map outD),.u32 t.lock])),(0,.var (.agg [.sl (some 5) 1 (((b ++ countS t.ins.length ++ insS t.ins t.ins.length) ++ countS t.outs.length ++ outsS t.outs i).map D.u8)]))]⟩
   have hi : i <= t.outs.length:=hi
   have hib:=hwf.outsb i hi
   have hx : i < t.outs.length -> t.outs[i]!.script.length <= 1000000:=fun h=>hwf.outScript h
   have hil:=itemS_len t.outs[i]!.script
   refine W.seq ?_
   refine W.l0 1 [.y 56 _] [] [] [(0,_),(53,_),(54,_),(55,_),(56,_)] [(3,.var _),(0,.var _)] 68 ⟨aU fun _ _ H K=>R.lssN (i) (t.outs.length) (eU K 55 O) (eU K 54 O) H,Zt⟩ O O O O (tU O ?_)
   refine W.seq ?_
   refine W.condD O (fun hc56=>?_) (fun hc56=>?_)
   · refine W.skip (W.seq (W.block (W.seq ?_)))
     refine W.l0 4 [.y 57 _,.y 58 _] [] [] [(0,_),(53,_),(54,_),(55,_),(58,_)] [(3,.var _),(0,.var _)] 68 ⟨aU fun _ _ H K=>R.idxN (i) (SC.sl (K 53 _ O)) (evoI (eU K 55 O)) O bU H dU,aU fun _ _ H K=>R.ldE (K 57 _ O) (SC.sl (K 53 _ O)) (map_get! (l:=t.outs) bU) O O O O H,Zt⟩ O O O O (⟨O,_,R.alloc O (nU O),⟨O,_,R.stZ (gU 7 O) (xU 7 O) O (gV 58 O) (by rfl) (by rfl) (by rfl) (by rfl) O,tV [(0,_),(7,_),(53,_),(54,_),(55,_)] [(7,.var _),(3,.var _),(0,.var _)] 68 O O O ?_⟩⟩)
     refine W.seq ?_
     refine W.l0 4 [.y 59 _,.y 60 _,.y 61 _] [] [] [(0,_),(7,_),(53,_),(54,_),(55,_),(59,_),(61,_)] [(7,.var _),(3,.var _),(0,.var _)] 68 ⟨mU 0 O O,aU (fU 7 O O),aU (lU 60 O O O O O O O),Zt⟩ O O O O (⟨O,_,R.callB [(0,0)] hC (wnumber_ok ((b ++ countS t.ins.length ++ insS t.ins t.ins.length) ++ countS t.outs.length ++ outsS t.outs i) t.outs[i]!.value 8 dU (by first | omega | (simp only [List.length_append,lowI_len,List.length_cons,List.length_nil]; omega) | simp)) (EvB.cons (gV 59 O) O O O (EvB.cons (gV 61 O) O O O (EvB.cons (kI 8 O) O O O EvB.nil))) O ⟨O,Zt⟩ ⟨O,Zt⟩ O O O O O O (nU O),tV [(0,_),(7,_),(53,_),(54,_),(55,_)] [(7,.var _),(3,.var _),(0,.var _)] 68 O O O ?_⟩)
     refine W.l0 4 [.y 63 _,.y 64 _,.y 65 _] [] [] [(0,_),(53,_),(54,_),(55,_),(63,_),(65,_)] [(7,.var _),(3,.var _),(0,.var _)] 68 ⟨mU 0 O O,aU (fU 7 O O),aU (lU 64 O O O O O O O),Zt⟩ O O O O (⟨O,_,R.callB [(0,0)] hC (witem_ok (((b ++ countS t.ins.length ++ insS t.ins t.ins.length) ++ countS t.outs.length ++ outsS t.outs i) ++ lowI t.outs[i]!.value 8) t.outs[i]!.script (by first | omega | (simp only [List.length_append,lowI_len,List.length_cons,List.length_nil]; omega) | simp) (by omega)) (EvB.cons (gV 63 O) O O O (EvB.cons (gV 65 O) O O O EvB.nil)) O ⟨O,Zt⟩ ⟨O,Zt⟩ O O O O O O (nU O),tV [(0,_),(53,_),(54,_),(55,_)] [(7,.var _),(3,.var _),(0,.var _)] 68 O O O ?_⟩)
     refine W.dropB [0,3] (bx':=[(3,.var _),(0,.var _)]) O O O (pin_sub hD O) ?_
     refine W.l0 2 [.y 67 _,.y 55 _] [] [] [(0,_),(53,_),(54,_),(55,_)] [(3,.var _),(0,.var _)] 68 ⟨aU fun _ _ H K=>R.addN (i) (1) (eU K 55 O) (kI 1 O) bU H,mU 67 O O,Zt⟩ O O O O (tU O ?_)
     exact ⟨⟨(i + 1),bU⟩,(by simp only [outsS,outS',List.append_assoc]; rfl),(by simp only []; omega)⟩
   · obtain rfl : i = t.outs.length:=by omega
     refine W.exit ?_
     exact EndsB.none' (r:=.dead) (.inl O) O (by simp only [bodyS,List.append_assoc]; rfl) ⟨O,Zt⟩
end Go.Sx

namespace Go.Sx
open Go.Proofs
theorem witnessed_ok (t : TxS) (hwf : t.wf) : Fn Try.prog gl 57 [txD t] (.bool (seenS t)):=by
 refine Fn.of (n:=17) Try.func57 rfl rfl rfl (nU rfl) fun C hC hD=>?_
 have h1:=hwf.ins
 refine W.seq ?_
 refine W.l0 2 [] [] [] [(0,_)] [] 17 Zt O O O O (⟨O,_,R.box (gV 0 O) O O (nU O),⟨O,_,R.asg (kB false O) O (nU O),tV [(1,_)] [(1,.var _)] 17 O O O ?_⟩⟩)
 refine W.seq (W.seq ?_)
 refine W.l0 4 [.y 5 _,.y 6 _,.y 7 _,.y 8 _] [] [] [(6,_),(7,_),(8,_)] [(1,.var _)] 17 ⟨aU (fU 1 O O),aU (lU 5 O O O O O O O),aU fun _ _ H K=>R.lenE (SC.sl (K 6 _ O)) (lN _) H,aU fun _ _ H _=>R.mov (kI 0 O) O H,Zt⟩ O O O O (tU O ?_)
 refine W.block ?_
 refine W.loop (α:={q__ : Nat // q__ <= t.ins.length /\ ∀ k < q__,¬ 0 < t.ins[k]!.wit.length}) (fun q__=>⟨17,[(6,.sl none 36 (t.ins.map inD)),(7,.int ((t.ins.length : Nat) : Int)),(8,.int ((q__.1 : Nat) : Int))],[(1,.var (.agg [.u32 t.ver,.sl none 36 (t.ins.map inD),.sl none 2 (t.outs.map outD),.u32 t.lock]))]⟩) (fun q__=>t.ins.length - q__.1) ⟨(0),⟨Nat.zero_le _,fun k h=>absurd h (Nat.not_lt_zero _)⟩⟩ O ?_
 rintro ⟨i,⟨hi,hno⟩⟩
 show W _ _ _ _ ⟨17,[(6,.sl none 36 (t.ins.map inD)),(7,.int ((t.ins.length : Nat) : Int)),(8,.int ((i : Nat) : Int))],[(1,.var (.agg [.u32 t.ver,.sl none 36 (t.ins.map inD),.sl none 2 (t.outs.map outD),.u32 t.lock]))]⟩
 have hi : i <= t.ins.length:=hi
 have hno : ∀ k < i,¬ 0 < t.ins[k]!.wit.length:=hno
 have hwl : i < t.ins.length -> t.ins[i]!.wit.length <= 1000000:=fun h=>(hwf.witl _ (get_mem h)).1
 refine W.seq ?_
 refine W.l0 1 [.y 9 _] [] [] [(6,_),(7,_),(8,_),(9,_)] [(1,.var _)] 17 ⟨aU fun _ _ H K=>R.lssN (i) (t.ins.length) (eU K 8 O) (eU K 7 O) H,Zt⟩ O O O O (tU O ?_)
 refine W.seq ?_
 refine W.condD O (fun hc9=>?_) (fun hc9=>?_)
 · refine W.skip (W.seq (W.block (W.seq ?_)))
   refine W.l0 4 [.y 10 _,.y 11 _] [] [] [(6,_),(7,_),(8,_),(11,_)] [(1,.var _)] 17 ⟨aU fun _ _ H K=>R.idxN (i) (SC.sl (K 6 _ O)) (evoI (eU K 8 O)) O bU H dU,aU fun _ _ H K=>R.ldE (K 10 _ O) (SC.sl (K 6 _ O)) (map_get! (l:=t.ins) bU) O O O O H,Zt⟩ O O O O (⟨O,_,R.alloc O (nU O),⟨O,_,R.stZ (gU 4 O) (xU 4 O) O (gV 11 O) (by rfl) (by rfl) (by rfl) (by rfl) O,tV [(4,_),(6,_),(7,_),(8,_)] [(4,.var _),(1,.var _)] 17 O O O ?_⟩⟩)
   refine W.seq ?_
   refine W.l0 4 [.y 12 _,.y 13 _,.y 14 _,.y 15 _] [] [] [(6,_),(7,_),(8,_),(15,_)] [(4,.var _),(1,.var _)] 17 ⟨aU (fU 4 O O),aU (lU 12 O O O O O O O),aU fun _ _ H K=>R.lenE (SC.sl (K 13 _ O)) (lN _) H,aU fun _ _ H K=>R.gtrN (t.ins[i]!.wit.length) (0) (eU K 14 O) (kI 0 O) H,Zt⟩ O O O O (tU O ?_)
   refine W.condD O (fun hc15=>?_) (fun hc15=>?_)
   · refine W.seq ?_
     refine W.dropB [1] (bx':=[(1,.var _)]) O O O (pin_sub hD O) ?_
     refine W.l0 1 [.y 2 _] [] [] [(2,_)] [(1,.var _)] 17 ⟨aU fun _ _ H _=>R.asg (kB true O) O H,Zt⟩ O O O O (tU O ?_)
     refine W.ret ?_
     exact Ends.one' (.inr O) O ((congrArg D.bool (seen_true hc9 hc15)).symm) O O Zt
   · refine W.skip ?_
     refine W.dropB [1] (bx':=[(1,.var _)]) O O O (pin_sub hD O) ?_
     refine W.l0 2 [.y 16 _,.y 8 _] [] [] [(6,_),(7,_),(8,_)] [(1,.var _)] 17 ⟨aU fun _ _ H K=>R.addN (i) (1) (eU K 8 O) (kI 1 O) bU H,mU 16 O O,Zt⟩ O O O O (tU O ?_)
     exact ⟨⟨(i + 1),⟨by omega,fun k hk=>(Nat.lt_succ_iff_lt_or_eq.1 hk).elim (hno k) (fun e=>e ▸ hc15)⟩⟩,rfl,(by simp only []; omega)⟩
 · obtain rfl : i = t.ins.length:=by omega
   refine W.exit (W.seq ?_)
   refine W.l0 1 [.y 2 _] [] [] [(2,_)] [(1,.var _)] 17 ⟨aU fun _ _ H _=>R.asg (kB false O) O H,Zt⟩ O O O O (tU O ?_)
   refine W.ret ?_
   exact Ends.one' (.inr O) O ((congrArg D.bool (seen_false hno)).symm) O O Zt
theorem bare_ok (t : TxS) (hwf : t.wf) : Fn Try.prog gl 58 [txD t] (.sl (some 5) 1 ((bareS t).map D.u8)):=by
 refine Fn.of (n:=23) Try.func58 rfl rfl rfl (nU rfl) fun C hC hD=>?_
 refine W.seq ?_
 refine W.l0 2 [] [] [] [(0,_)] [] 23 Zt O O O O (⟨O,_,R.box (gV 0 O) O O (nU O),⟨O,_,R.asg (kN O) O (nU O),tV [(1,_)] [(1,.var _)] 23 O O O ?_⟩⟩)
 refine W.seq ?_
 refine W.l0 3 [.y 4 _] [] [] [(1,_),(4,_)] [(1,.var _)] 23 ⟨aU fun _ _ H _=>R.bldSE (l:=[.nils]) (l':=[_]) (.nil O) Zt H,Zt⟩ O O O O (⟨O,_,R.box (gV 4 O) O O (nU O),⟨O,_,R.asg (gV 5 O) O (nU O),tV [(1,_),(3,_)] [(5,.var _),(1,.var _)] 23 O O O ?_⟩⟩)
 refine W.seq ?_
 refine W.asOwnP 5 [0] 5 1 (bx':=[(5,.var _),(1,.var _)]) O O O O O ?_
 have hbl:=hwf.body
 refine W.l0 5 [.y 6 _,.y 7 _,.y 8 _,.y 9 _] [] [] [(1,_),(3,_),(6,_),(9,_)] [(5,.var _),(1,.var _)] 23 ⟨mU 3 O O,aU (fU 1 O O),aU (lU 7 O O O O O O O),aU fun _ _ H K=>R.conv (eU K 8 O) O H,Zt⟩ O O O O (⟨O,_,R.callB [(0,5)] hC (wnumber_ok [] t.ver.toUInt64 4 dU (by first | omega | (simp only [List.length_append,lowI_len,List.length_cons,List.length_nil]; omega) | simp)) (EvB.cons (gV 6 O) O O O (EvB.cons (gV 9 O) O O O (EvB.cons (kI 4 O) O O O EvB.nil))) O ⟨O,Zt⟩ ⟨O,Zt⟩ O O O O O O (nU O),tV [(1,_),(3,_)] [(5,.var _),(1,.var _)] 23 O O O ?_⟩)
 refine W.seq ?_
 refine W.l0 3 [.y 11 _,.y 12 _] [] [] [(1,_),(3,_),(11,_),(12,_)] [(5,.var _),(1,.var _)] 23 ⟨mU 3 O O,aU (lU 1 O O O O O O O),Zt⟩ O O O O (⟨O,_,R.callB [(0,5)] hC (wbody_ok ([] ++ lowI t.ver.toUInt64 4) t hwf (by first | omega | (simp only [List.length_append,lowI_len,List.length_cons,List.length_nil]; omega) | simp)) (EvB.cons (gV 11 O) O O O (EvB.cons (gV 12 O) O O O EvB.nil)) O ⟨O,Zt⟩ ⟨O,Zt⟩ O O O O O O (nU O),tV [(1,_),(3,_)] [(5,.var _),(1,.var _)] 23 O O O ?_⟩)
 refine W.seq ?_
 refine W.l0 5 [.y 14 _,.y 15 _,.y 16 _,.y 17 _] [] [] [(3,_),(14,_),(17,_)] [(5,.var _),(1,.var _)] 23 ⟨mU 3 O O,aU (fU 1 O O),aU (lU 15 O O O O O O O),aU fun _ _ H K=>R.conv (eU K 16 O) O H,Zt⟩ O O O O (⟨O,_,R.callB [(0,5)] hC (wnumber_ok (([] ++ lowI t.ver.toUInt64 4) ++ bodyS t) t.lock.toUInt64 4 dU (by first | omega | (simp only [List.length_append,lowI_len,List.length_cons,List.length_nil]; omega) | simp)) (EvB.cons (gV 14 O) O O O (EvB.cons (gV 17 O) O O O (EvB.cons (kI 4 O) O O O EvB.nil))) O ⟨O,Zt⟩ ⟨O,Zt⟩ O O O O O O (nU O),tV [(3,_)] [(5,.var _),(1,.var _)] 23 O O O ?_⟩)
 refine W.seq ?_
 refine W.l0 5 [.y 19 _,.y 20 _,.y 21 _,.y 22 _] [] [] [(22,_)] [(5,.var _),(1,.var _)] 23 ⟨mU 3 O O,aU fun _ _ H K=>R.nilcP (K 19 _ O) H,aU (fU 20 O O),aU fun _ B H K=>R.ldO (K 21 _ O) (B 5 _ O) O H,Zt⟩ O O O O (⟨O,_,R.asgBP (gU 22 O) (xU 5 O) O O O O (gU 22 O) (nU O) dU,tV [(2,_)] [(5,.var _),(1,.var _)] 23 O O O ?_⟩)
 refine W.ret ?_
 exact Ends.one' (.inr O) O (by simp only [bareS,List.nil_append]) O O Zt
theorem put_ok (t : TxS) (hwf : t.wf) : Fn Try.prog gl 42 [txD t] (.sl (some 5) 1 ((putS t).map D.u8)):=by
 refine Fn.of (n:=65) Try.func42 rfl rfl rfl (nU rfl) fun C hC hD=>?_
 have h1:=hwf.ins
 have hbl:=hwf.body
 have hw0:=hwf.witsb _ (Nat.le_refl _)
 refine W.seq ?_
 refine W.l0 2 [] [] [] [(0,_)] [] 65 Zt O O O O (⟨O,_,R.box (gV 0 O) O O (nU O),⟨O,_,R.asg (kN O) O (nU O),tV [(1,_)] [(1,.var _)] 65 O O O ?_⟩⟩)
 refine W.seq (W.seq ?_)
 refine W.l0 3 [.y 8 _,.y 9 _,.y 10 _] [] [] [(1,_),(10,_)] [(1,.var _)] 65 ⟨aU (lU 1 O O O O O O O),aU fun _ _ H K=>R.callG hC (witnessed_ok t hwf) (Bc (Bp (eU K 8 O) O O) Bn) (FrsR.one (.bool _)) H,aU fun _ _ H K=>R.un (eU K 9 O) O H,Zt⟩ O O O O (tU O ?_)
 refine W.cond O (fun hc10=>?_) (fun hc10=>?_)
 · refine W.seq ?_
   refine W.l0 3 [.y 11 _,.y 12 _,.y 2 _] [(2,12)] [(2,12)] [(2,_)] [(1,.var _)] 65 ⟨aU (lU 1 O O O O O O O),aU fun _ _ H K=>R.callG hC (bare_ok t hwf) (Bc (Bp (eU K 11 O) O O) Bn) (FrsR.one (.sl _ _ _ (frs_map fun _=>.u8 _))) H,aU fun _ _ H K=>R.asgO (K 12 _ O) O H dU,Zt⟩ O O O O (tU O ?_)
   refine W.ret ?_
   exact Ends.one' (.inr O) O (by rw [putS,if_neg (by simpa using hc10)]) O O Zt
 · refine W.skip (W.seq ?_)
   refine W.l0 3 [.y 13 _] [] [] [(1,_),(13,_)] [(1,.var _)] 65 ⟨aU fun _ _ H _=>R.bldSE (l:=[.nils]) (l':=[_]) (.nil O) Zt H,Zt⟩ O O O O (⟨O,_,R.box (gV 13 O) O O (nU O),⟨O,_,R.asg (gV 14 O) O (nU O),tV [(1,_),(3,_)] [(14,.var _),(1,.var _)] 65 O O O ?_⟩⟩)
   refine W.seq ?_
   refine W.asOwnP 14 [0] 5 1 (bx':=[(14,.var _),(1,.var _)]) O O O O O ?_
   refine W.l0 5 [.y 15 _,.y 16 _,.y 17 _,.y 18 _] [] [] [(1,_),(3,_),(15,_),(18,_)] [(14,.var _),(1,.var _)] 65 ⟨mU 3 O O,aU (fU 1 O O),aU (lU 16 O O O O O O O),aU fun _ _ H K=>R.conv (eU K 17 O) O H,Zt⟩ O O O O (⟨O,_,R.callB [(0,14)] hC (wnumber_ok [] t.ver.toUInt64 4 dU (by first | omega | (simp only [List.length_append,lowI_len,List.length_cons,List.length_nil]; omega) | simp)) (EvB.cons (gV 15 O) O O O (EvB.cons (gV 18 O) O O O (EvB.cons (kI 4 O) O O O EvB.nil))) O ⟨O,Zt⟩ ⟨O,Zt⟩ O O O O O O (nU O),tV [(1,_),(3,_)] [(14,.var _),(1,.var _)] 65 O O O ?_⟩)
   refine W.seq ?_
   refine W.l0 10 [.y 20 _,.y 21 _,.y 22 _,.y 23 _,.y 24 _,.y 25 _] [] [] [(1,_),(3,_),(20,_),(24,_),(25,_)] [(14,.var _),(1,.var _)] 65 ⟨mU 3 O O,mU 3 O O,aU fun _ _ H K=>R.nilcP (K 21 _ O) H,aU (fU 22 O O),aU fun _ B H K=>R.ldO (K 23 _ O) (B 14 _ O) O H,aU fun _ _ H _=>R.bslE (z:=1) (.cons (show ev _ _ (.const (.int .u8 0)) = some (.u8 0) from O) (.cons (show ev _ _ (.const (.int .u8 1)) = some (.u8 1) from O) .nil)) ⟨⟨O,O,O⟩,⟨O,O,O⟩,Zt⟩ O H dU,Zt⟩ O O O O (⟨O,_,R.appBP (gU 24 O) (xU 14 O) O O O O (gU 24 O) (SrcO.sc (SC.sl (gU 25 O)) (pur_lit O)) (show _ = (((([] ++ lowI t.ver.toUInt64 4) ++ [0,1])).map D.u8) from (by simp)) (by simp [lowI_len]) (nU O) dU dU,⟨O,_,R.nilcP (gU 20 O) (nU O),⟨O,_,R.fdP (gU 27 O) (nU O),⟨O,_,R.stOZ (gU 28 O) (xU 14 O) O (gU 26 O) O O (by rfl) (by rfl) O O,tV [(1,_),(3,_)] [(14,.var _),(1,.var _)] 65 O O O ?_⟩⟩⟩⟩)
   refine W.seq ?_
   refine W.l0 3 [.y 29 _,.y 30 _] [] [] [(1,_),(3,_),(29,_),(30,_)] [(14,.var _),(1,.var _)] 65 ⟨mU 3 O O,aU (lU 1 O O O O O O O),Zt⟩ O O O O (⟨O,_,R.callB [(0,14)] hC (wbody_ok (([] ++ lowI t.ver.toUInt64 4) ++ [0,1]) t hwf (by first | omega | (simp only [List.length_append,lowI_len,List.length_cons,List.length_nil]; omega) | simp)) (EvB.cons (gV 29 O) O O O (EvB.cons (gV 30 O) O O O EvB.nil)) O ⟨O,Zt⟩ ⟨O,Zt⟩ O O O O O O (nU O),tV [(1,_),(3,_)] [(14,.var _),(1,.var _)] 65 O O O ?_⟩)
   refine W.seq (W.seq ?_)
   refine W.l0 4 [.y 32 _,.y 33 _,.y 34 _,.y 35 _] [] [] [(1,_),(3,_),(33,_),(34,_),(35,_)] [(14,.var _),(1,.var _)] 65 ⟨aU (fU 1 O O),aU (lU 32 O O O O O O O),aU fun _ _ H K=>R.lenE (SC.sl (K 33 _ O)) (lN _) H,aU fun _ _ H _=>R.mov (kI 0 O) O H,Zt⟩ O O O O (tU O ?_)
   refine W.block ?_
   refine W.loop (α:={q__ : Nat // q__ <= t.ins.length}) (fun q__=>⟨65,[(1,.ptr 1 0 []),(3,.ptr 14 0 []),(33,.sl none 36 (t.ins.map inD)),(34,.int ((t.ins.length : Nat) : Int)),(35,.int ((q__.1 : Nat) : Int))],[(14,.var (.agg [.sl (some 5) 1 ((((([] ++ lowI t.ver.toUInt64 4) ++ [0,1]) ++ bodyS t) ++ witsS t.ins q__.1).map D.u8)])),(1,.var (.agg [.u32 t.ver,.sl none 36 (t.ins.map inD),.sl none 2 (t.outs.map outD),.u32 t.lock]))]⟩) (fun q__=>t.ins.length - q__.1) ⟨(0),bU⟩ (by simp only [witsS,List.append_nil]; rfl) ?_
   rintro ⟨i,hi⟩
   show W _ _ _ _ ⟨65,[(1,.ptr 1 0 []),(3,.ptr 14 0 []),(33,.sl none 36 (t.ins.map inD)),(34,.int ((t.ins.length : Nat) : Int)),(35,.int ((i : Nat) : Int))],[(14,.var (.agg [.sl (some 5) 1 ((((([] ++ lowI t.ver.toUInt64 4) ++ [0,1]) ++ bodyS t) ++ witsS t.ins i).map D.u8)])),(1,.var (.agg [.u32 t.ver,.sl none 36 (t.ins.map inD),.sl none 2 (t.outs.map outD),.u32 t.lock]))]⟩
   have hi : i <= t.ins.length:=hi
   have hib:=hwf.witsb i hi
   have hx : i < t.ins.length -> t.ins[i]!.wit.length <= 1000000 /\ ∀ j ≤ t.ins[i]!.wit.length,(witS t.ins[i]!.wit j).length <= 1500000:=fun h=>hwf.witl _ (get_mem h)
   have hcl:=countS_len t.ins[i]!.wit.length
   refine W.seq ?_
   refine W.l0 1 [.y 36 _] [] [] [(1,_),(3,_),(33,_),(34,_),(35,_),(36,_)] [(14,.var _),(1,.var _)] 65 ⟨aU fun _ _ H K=>R.lssN (i) (t.ins.length) (eU K 35 O) (eU K 34 O) H,Zt⟩ O O O O (tU O ?_)
   refine W.seq ?_
   refine W.condD O (fun hc36=>?_) (fun hc36=>?_)
   · refine W.skip (W.seq (W.block (W.seq ?_)))
     refine W.l0 4 [.y 37 _,.y 38 _] [] [] [(1,_),(3,_),(33,_),(34,_),(35,_),(38,_)] [(14,.var _),(1,.var _)] 65 ⟨aU fun _ _ H K=>R.idxN (i) (SC.sl (K 33 _ O)) (evoI (eU K 35 O)) O bU H dU,aU fun _ _ H K=>R.ldE (K 37 _ O) (SC.sl (K 33 _ O)) (map_get! (l:=t.ins) bU) O O O O H,Zt⟩ O O O O (⟨O,_,R.alloc O (nU O),⟨O,_,R.stZ (gU 5 O) (xU 5 O) O (gV 38 O) (by rfl) (by rfl) (by rfl) (by rfl) O,tV [(1,_),(3,_),(5,_),(33,_),(34,_),(35,_)] [(5,.var _),(14,.var _),(1,.var _)] 65 O O O ?_⟩⟩)
     refine W.seq ?_
     refine W.l0 5 [.y 39 _,.y 40 _,.y 41 _,.y 42 _] [] [] [(1,_),(3,_),(5,_),(33,_),(34,_),(35,_),(39,_),(42,_)] [(5,.var _),(14,.var _),(1,.var _)] 65 ⟨mU 3 O O,aU (fU 5 O O),aU (lU 40 O O O O O O O),aU fun _ _ H K=>R.lenE (SC.sl (K 41 _ O)) (lN _) H,Zt⟩ O O O O (⟨O,_,R.callB [(0,14)] hC (wcount_ok (((([] ++ lowI t.ver.toUInt64 4) ++ [0,1]) ++ bodyS t) ++ witsS t.ins i) t.ins[i]!.wit.length (by first | omega | (simp only [List.length_append,lowI_len,List.length_cons,List.length_nil]; omega) | simp)) (EvB.cons (gV 39 O) O O O (EvB.cons (gV 42 O) O O O EvB.nil)) O ⟨O,Zt⟩ ⟨O,Zt⟩ O O O O O O (nU O),tV [(1,_),(3,_),(5,_),(33,_),(34,_),(35,_)] [(5,.var _),(14,.var _),(1,.var _)] 65 O O O ?_⟩)
     refine W.seq ?_
     refine W.l0 4 [.y 44 _,.y 45 _,.y 46 _,.y 47 _] [] [] [(1,_),(3,_),(33,_),(34,_),(35,_),(45,_),(46,_),(47,_)] [(5,.var _),(14,.var _),(1,.var _)] 65 ⟨aU (fU 5 O O),aU (lU 44 O O O O O O O),aU fun _ _ H K=>R.lenE (SC.sl (K 45 _ O)) (lN _) H,aU fun _ _ H _=>R.mov (kI 0 O) O H,Zt⟩ O O O O (tU O ?_)
     refine W.block ?_
     refine W.loop (α:={q__ : Nat // q__ <= t.ins[i]!.wit.length}) (fun q__=>⟨65,[(1,.ptr 1 0 []),(3,.ptr 14 0 []),(33,.sl none 36 (t.ins.map inD)),(34,.int ((t.ins.length : Nat) : Int)),(35,.int ((i : Nat) : Int)),(45,.sl none 1 (t.ins[i]!.wit.map bytesD)),(46,.int ((t.ins[i]!.wit.length : Nat) : Int)),(47,.int ((q__.1 : Nat) : Int))],[(5,.var (inD t.ins[i]!)),(14,.var (.agg [.sl (some 5) 1 ((((((([] ++ lowI t.ver.toUInt64 4) ++ [0,1]) ++ bodyS t) ++ witsS t.ins i) ++ countS t.ins[i]!.wit.length) ++ witS t.ins[i]!.wit q__.1).map D.u8)])),(1,.var (.agg [.u32 t.ver,.sl none 36 (t.ins.map inD),.sl none 2 (t.outs.map outD),.u32 t.lock]))]⟩) (fun q__=>t.ins[i]!.wit.length - q__.1) ⟨(0),bU⟩ (by simp only [witS,List.append_nil]; rfl) ?_
     rintro ⟨j,hj⟩
     show W _ _ _ _ ⟨65,[(1,.ptr 1 0 []),(3,.ptr 14 0 []),(33,.sl none 36 (t.ins.map inD)),(34,.int ((t.ins.length : Nat) : Int)),(35,.int ((i : Nat) : Int)),(45,.sl none 1 (t.ins[i]!.wit.map bytesD)),(46,.int ((t.ins[i]!.wit.length : Nat) : Int)),(47,.int ((j : Nat) : Int))],[(5,.var (inD t.ins[i]!)),(14,.var (.agg [.sl (some 5) 1 ((((((([] ++ lowI t.ver.toUInt64 4) ++ [0,1]) ++ bodyS t) ++ witsS t.ins i) ++ countS t.ins[i]!.wit.length) ++ witS t.ins[i]!.wit j).map D.u8)])),(1,.var (.agg [.u32 t.ver,.sl none 36 (t.ins.map inD),.sl none 2 (t.outs.map outD),.u32 t.lock]))]⟩
     have hj : j <= t.ins[i]!.wit.length:=hj
     have hjb:=(hx (by omega)).2 j hj
     have hil:=itemS_len t.ins[i]!.wit[j]!
     have hwi : j < t.ins[i]!.wit.length -> t.ins[i]!.wit[j]!.length <= 1000000:=fun h=>hwf.witi _ (get_mem (show i < t.ins.length by omega)) _ (get_mem h)
     refine W.seq ?_
     refine W.l0 1 [.y 48 _] [] [] [(1,_),(3,_),(33,_),(34,_),(35,_),(45,_),(46,_),(47,_),(48,_)] [(5,.var _),(14,.var _),(1,.var _)] 65 ⟨aU fun _ _ H K=>R.lssN (j) (t.ins[i]!.wit.length) (eU K 47 O) (eU K 46 O) H,Zt⟩ O O O O (tU O ?_)
     refine W.seq ?_
     refine W.condD O (fun hc48=>?_) (fun hc48=>?_)
     · refine W.skip (W.seq (W.block (W.seq ?_)))
       refine W.l0 3 [.y 49 _,.y 50 _,.y 7 _] [] [] [(1,_),(3,_),(7,_),(33,_),(34,_),(35,_),(45,_),(46,_),(47,_)] [(5,.var _),(14,.var _),(1,.var _)] 65 ⟨aU fun _ _ H K=>R.idxN (j) (SC.sl (K 45 _ O)) (evoI (eU K 47 O)) O bU H dU,aU fun _ _ H K=>R.ldE (K 49 _ O) (SC.sl (K 45 _ O)) (map_get! (l:=t.ins[i]!.wit) bU) O O O O H,aU fun _ _ H K=>R.asg (eU K 50 O) O H,Zt⟩ O O O O (tU O ?_)
       refine W.l0 3 [.y 51 _,.y 52 _] [] [] [(1,_),(3,_),(33,_),(34,_),(35,_),(45,_),(46,_),(47,_),(51,_),(52,_)] [(5,.var _),(14,.var _),(1,.var _)] 65 ⟨mU 3 O O,mU 7 O O,Zt⟩ O O O O (⟨O,_,R.callB [(0,14)] hC (witem_ok (((((([] ++ lowI t.ver.toUInt64 4) ++ [0,1]) ++ bodyS t) ++ witsS t.ins i) ++ countS t.ins[i]!.wit.length) ++ witS t.ins[i]!.wit j) t.ins[i]!.wit[j]! (by first | omega | (simp only [List.length_append,lowI_len,List.length_cons,List.length_nil]; omega) | simp) (by omega)) (EvB.cons (gV 51 O) O O O (EvB.cons (gV 52 O) O O O EvB.nil)) O ⟨O,Zt⟩ ⟨O,Zt⟩ O O O O O O (nU O),tV [(1,_),(3,_),(33,_),(34,_),(35,_),(45,_),(46,_),(47,_)] [(5,.var _),(14,.var _),(1,.var _)] 65 O O O ?_⟩)
       refine W.l0 2 [.y 54 _,.y 47 _] [] [] [(1,_),(3,_),(33,_),(34,_),(35,_),(45,_),(46,_),(47,_)] [(5,.var _),(14,.var _),(1,.var _)] 65 ⟨aU fun _ _ H K=>R.addN (j) (1) (eU K 47 O) (kI 1 O) bU H,mU 54 O O,Zt⟩ O O O O (tU O ?_)
       exact ⟨⟨(j + 1),bU⟩,(by simp only [witS,List.append_assoc]; rfl),(by simp only []; omega)⟩
     · obtain rfl : j = t.ins[i]!.wit.length:=by omega
       refine W.exit ?_
       refine W.dropB [1,14] (bx':=[(14,.var _),(1,.var _)]) O O O (pin_sub hD O) ?_
       refine W.l0 2 [.y 55 _,.y 35 _] [] [] [(1,_),(3,_),(33,_),(34,_),(35,_)] [(14,.var _),(1,.var _)] 65 ⟨aU fun _ _ H K=>R.addN (i) (1) (eU K 35 O) (kI 1 O) bU H,mU 55 O O,Zt⟩ O O O O (tU O ?_)
       exact ⟨⟨(i + 1),bU⟩,(by simp only [witsS,List.append_assoc]),(by simp only []; omega)⟩
   · obtain rfl : i = t.ins.length:=by omega
     refine W.exit (W.seq ?_)
     refine W.l0 5 [.y 56 _,.y 57 _,.y 58 _,.y 59 _] [] [] [(3,_),(56,_),(59,_)] [(14,.var _),(1,.var _)] 65 ⟨mU 3 O O,aU (fU 1 O O),aU (lU 57 O O O O O O O),aU fun _ _ H K=>R.conv (eU K 58 O) O H,Zt⟩ O O O O (⟨O,_,R.callB [(0,14)] hC (wnumber_ok (((([] ++ lowI t.ver.toUInt64 4) ++ [0,1]) ++ bodyS t) ++ witsS t.ins t.ins.length) t.lock.toUInt64 4 dU (by first | omega | (simp only [List.length_append,lowI_len,List.length_cons,List.length_nil]; omega) | simp)) (EvB.cons (gV 56 O) O O O (EvB.cons (gV 59 O) O O O (EvB.cons (kI 4 O) O O O EvB.nil))) O ⟨O,Zt⟩ ⟨O,Zt⟩ O O O O O O (nU O),tV [(3,_)] [(14,.var _),(1,.var _)] 65 O O O ?_⟩)
     refine W.seq ?_
     refine W.l0 5 [.y 61 _,.y 62 _,.y 63 _,.y 64 _] [] [] [(64,_)] [(14,.var _),(1,.var _)] 65 ⟨mU 3 O O,aU fun _ _ H K=>R.nilcP (K 61 _ O) H,aU (fU 62 O O),aU fun _ B H K=>R.ldO (K 63 _ O) (B 14 _ O) O H,Zt⟩ O O O O (⟨O,_,R.asgBP (gU 64 O) (xU 14 O) O O O O (gU 64 O) (nU O) dU,tV [(2,_)] [(14,.var _),(1,.var _)] 65 O O O ?_⟩)
     refine W.ret ?_
     exact Ends.one' (.inr O) O (by rw [putS,if_pos (by simpa using hc10)]; rfl) O O Zt
end Go.Sx

namespace Go.Sx
open Go.Proofs
theorem may_ok (t : TxS) (hwf : t.wf) : Fn Try.prog gl 33 [txD t] (.bool (mayS t)):=by
 refine Fn.of (n:=64) Try.func33 rfl rfl rfl (nU rfl) fun C hC hD=>?_
 have h1:=hwf.ins
 have h2:=hwf.outs
 refine W.seq ?_
 refine W.l0 2 [] [] [] [(0,_)] [] 64 Zt O O O O (⟨O,_,R.box (gV 0 O) O O (nU O),⟨O,_,R.asg (kB false O) O (nU O),tV [(1,_)] [(1,.var _)] 64 O O O ?_⟩⟩)
 refine W.seq (W.seq ?_)
 by_cases hz : t.ins.length = 0
 · refine W.l0 10 [.y 11 _,.y 12 _,.y 13 _,.y 14 _,.y 15 _,.x 16,.x 17,.x 18,.x 19,.y 20 _] [] [] [(1,_),(20,_)] [(1,.var _)] 64 ⟨aU (fU 1 O O),aU (lU 11 O O O O O O O),aU fun _ _ H K=>R.lenE (SC.sl (K 12 _ O)) (lN _) H,aU fun _ _ H K=>R.eqlN (t.ins.length) (0) (eU K 13 O) (kI 0 O) H,mU 14 O O,aF O O (gT (dT hz) O),aF O O (gT (dT hz) O),aF O O (gT (dT hz) O),aF O O (gT (dT hz) O),aU fun _ _ H K=>R.pickT (eU K 15 O) (dT hz) (kB true O) O H,Zt⟩ O O O O (tU O ?_)
   refine W.condT O (O) ?_
   refine W.seq ?_
   refine W.l0 1 [.y 2 _] [] [] [(2,_)] [(1,.var _)] 64 ⟨aU fun _ _ H _=>R.asg (kB false O) O H,Zt⟩ O O O O (tU O ?_)
   refine W.ret ?_
   exact Ends.one' (.inr O) O (congrArg D.bool (may_f1 hz).symm) O O Zt
 · refine W.l0 10 [.y 11 _,.y 12 _,.y 13 _,.y 14 _,.y 15 _,.y 16 _,.y 17 _,.y 18 _,.y 19 _,.y 20 _] [] [] [(1,_),(20,_)] [(1,.var _)] 64 ⟨aU (fU 1 O O),aU (lU 11 O O O O O O O),aU fun _ _ H K=>R.lenE (SC.sl (K 12 _ O)) (lN _) H,aU fun _ _ H K=>R.eqlN (t.ins.length) (0) (eU K 13 O) (kI 0 O) H,mU 14 O O,aW O O (gF (dF hz) O) (fU 1 O O),aW O O (gF (dF hz) O) (lU 16 O O O O O O O),aW O O (gF (dF hz) O) fun _ _ H K=>R.lenE (SC.sl (K 17 _ O)) (lN _) H,aW O O (gF (dF hz) O) fun _ _ H K=>R.eqlN (t.outs.length) (0) (eU K 18 O) (kI 0 O) H,aU fun _ _ H K=>R.pickF (eU K 15 O) (dF hz) (eU K 19 O) O H,Zt⟩ O O O O (tU O ?_)
   refine W.condD O (fun hc20=>?_) (fun hc20=>?_)
   · refine W.seq ?_
     refine W.l0 1 [.y 2 _] [] [] [(2,_)] [(1,.var _)] 64 ⟨aU fun _ _ H _=>R.asg (kB false O) O H,Zt⟩ O O O O (tU O ?_)
     refine W.ret ?_
     exact Ends.one' (.inr O) O (congrArg D.bool (may_f2 hc20).symm) O O Zt
   · refine W.skip (W.seq ?_)
     refine W.l0 2 [] [] [] [(1,_)] [(1,.var _)] 64 Zt O O O O (⟨O,_,R.mkmapK placeK D.int O (nU O),⟨O,_,R.asg (gV 21 O) O (nU O),tV [(1,_),(3,_)] [(21,mpK placeK D.int _),(1,.var _)] 64 O O O ?_⟩⟩)
     refine W.seq (W.seq ?_)
     refine W.l0 4 [.y 22 _,.y 23 _,.y 24 _,.y 25 _] [] [] [(1,_),(3,_),(23,_),(24,_),(25,_)] [(21,mpK placeK D.int _),(1,.var _)] 64 ⟨aU (fU 1 O O),aU (lU 22 O O O O O O O),aU fun _ _ H K=>R.lenE (SC.sl (K 23 _ O)) (lN _) H,aU fun _ _ H _=>R.mov (kI 0 O) O H,Zt⟩ O O O O (tU O ?_)
     refine W.block ?_
     refine W.loop (α:={q__ : Nat // q__ <= t.ins.length /\ ∀ j < q__,kHas (seenM t.ins j) (plc t.ins[j]!) = false}) (fun q__=>⟨64,[(1,.ptr 1 0 []),(3,.map 21),(23,.sl none 36 (t.ins.map inD)),(24,.int ((t.ins.length : Nat) : Int)),(25,.int ((q__.1 : Nat) : Int))],[(21,mpK placeK D.int (seenM t.ins q__.1)),(1,.var (.agg [.u32 t.ver,.sl none 36 (t.ins.map inD),.sl none 2 (t.outs.map outD),.u32 t.lock]))]⟩) (fun q__=>t.ins.length - q__.1) ⟨(0),⟨Nat.zero_le _,fun j h=>absurd h (Nat.not_lt_zero _)⟩⟩ O ?_
     rintro ⟨i,⟨hi,hno⟩⟩
     show W _ _ _ _ ⟨64,[(1,.ptr 1 0 []),(3,.map 21),(23,.sl none 36 (t.ins.map inD)),(24,.int ((t.ins.length : Nat) : Int)),(25,.int ((i : Nat) : Int))],[(21,mpK placeK D.int (seenM t.ins i)),(1,.var (.agg [.u32 t.ver,.sl none 36 (t.ins.map inD),.sl none 2 (t.outs.map outD),.u32 t.lock]))]⟩
     have hi : i <= t.ins.length:=hi
     have hno : ∀ j < i,kHas (seenM t.ins j) (plc t.ins[j]!) = false:=hno
     refine W.seq ?_
     refine W.l0 1 [.y 26 _] [] [] [(1,_),(3,_),(23,_),(24,_),(25,_),(26,_)] [(21,mpK placeK D.int _),(1,.var _)] 64 ⟨aU fun _ _ H K=>R.lssN (i) (t.ins.length) (eU K 25 O) (eU K 24 O) H,Zt⟩ O O O O (tU O ?_)
     refine W.seq ?_
     refine W.condD O (fun hc26=>?_) (fun hc26=>?_)
     · refine W.skip (W.seq (W.block (W.seq ?_)))
       refine W.l0 6 [.y 27 _,.y 28 _,.y 29 _] [] [] [(1,_),(3,_),(23,_),(24,_),(25,_),(27,_),(29,_)] [(21,mpK placeK D.int _),(1,.var _)] 64 ⟨mU 25 O O,aU fun _ _ H K=>R.idxN (i) (SC.sl (K 23 _ O)) (evoI (eU K 25 O)) O bU H dU,aU fun _ _ H K=>R.ldE (K 28 _ O) (SC.sl (K 23 _ O)) (map_get! (l:=t.ins) bU) O O O O H,Zt⟩ O O O O (⟨O,_,R.alloc O (nU O),⟨O,_,R.asg (gV 27 O) O (nU O),⟨O,_,R.stZ (gU 5 O) (xU 5 O) O (gV 29 O) (by rfl) (by rfl) (by rfl) (by rfl) O,tV [(1,_),(3,_),(4,_),(5,_),(23,_),(24,_),(25,_)] [(5,.var _),(21,mpK placeK D.int _),(1,.var _)] 64 O O O ?_⟩⟩⟩)
       refine W.seq (W.seq ?_)
       refine W.l0 9 [.y 31 _,.y 32 _,.y 33 _,.y 34 _,.y 30 _,.y 35 _,.y 36 _,.y 6 _,.y 7 _] [] [] [(1,_),(3,_),(4,_),(5,_),(7,_),(23,_),(24,_),(25,_)] [(5,.var _),(21,mpK placeK D.int _),(1,.var _)] 64 ⟨mU 3 O O,aU (fU 5 O O),aU (lU 32 O O O O O O O),aU fun _ B H K=>R.lookK (k:=plc t.ins[i]!) (z:=0) place_key (K 31 _ O) (B 21 _ O) (eU K 33 O) O O (fun _=>rfl) H,aU fun _ _ H K=>R.movT (K 34 _ O) O H,aU fun _ _ H K=>R.ext (K 30 _ O) O O H,aU fun _ _ H K=>R.ext (K 30 _ O) O O H,aU fun _ _ H K=>R.asg (eU K 35 O) O H,aU fun _ _ H K=>R.asg (eU K 36 O) O H,Zt⟩ O O O O (tU O ?_)
       refine W.seq ?_
       refine W.l0 1 [.y 37 _] [] [] [(1,_),(3,_),(4,_),(5,_),(23,_),(24,_),(25,_),(37,_)] [(5,.var _),(21,mpK placeK D.int _),(1,.var _)] 64 ⟨mU 7 O O,Zt⟩ O O O O (tU O ?_)
       refine W.cond O (fun hc37=>?_) (fun hc37=>?_)
       · refine W.seq ?_
         refine W.dropS (live:=[]) (env':=[]) (bx':=[(5,.var _),(21,mpK placeK D.int _),(1,.var _)]) (n':=64) O O O ?_
         refine W.dropBP [1,21] (bx':=[(21,mpK placeK D.int _),(1,.var _)]) O O ⟨okMpK (fun _=>rfl) (fun _=>rfl),⟨O,Zt⟩⟩ (pin_sub hD O) ?_
         refine W.l0 1 [.y 2 _] [] [] [(2,_)] [(21,mpK placeK D.int _),(1,.var _)] 64 ⟨aU fun _ _ H _=>R.asg (kB false O) O H,Zt⟩ O O O O (tU O ?_)
         refine W.ret ?_
         exact Ends.one' (.inr O) O (congrArg D.bool (may_f3 hc26 hc37).symm) O O Zt
       · refine W.skip ?_
         refine W.l0 5 [.y 38 _,.y 39 _,.y 40 _,.y 41 _] [] [] [(1,_),(3,_),(23,_),(24,_),(25,_),(38,_),(40,_),(41,_)] [(5,.var _),(21,mpK placeK D.int _),(1,.var _)] 64 ⟨mU 3 O O,aU (fU 5 O O),aU (lU 39 O O O O O O O),mU 4 O O,Zt⟩ O O O O (⟨O,_,R.mupdN (k:=plc t.ins[i]!) (u:=((i : Nat) : Int)) place_key (gU 38 O) (xU 21 O) (gV 40 O) O (gV 41 O) O O (hc37),tV [(1,_),(3,_),(23,_),(24,_),(25,_)] [(5,.var _),(21,mpK placeK D.int _),(1,.var _)] 64 O O O ?_⟩)
         refine W.dropBP [1,21] (bx':=[(21,mpK placeK D.int _),(1,.var _)]) O O ⟨okMpK (fun _=>rfl) (fun _=>rfl),⟨O,Zt⟩⟩ (pin_sub hD O) ?_
         refine W.l0 2 [.y 42 _,.y 25 _] [] [] [(1,_),(3,_),(23,_),(24,_),(25,_)] [(21,mpK placeK D.int _),(1,.var _)] 64 ⟨aU fun _ _ H K=>R.addN (i) (1) (eU K 25 O) (kI 1 O) bU H,mU 42 O O,Zt⟩ O O O O (tU O ?_)
         exact ⟨⟨(i + 1),⟨by omega,fun j hj=>(Nat.lt_succ_iff_lt_or_eq.1 hj).elim (hno j) (fun e=>e ▸ hc37)⟩⟩,rfl,(by simp only []; omega)⟩
     · obtain rfl : i = t.ins.length:=by omega
       refine W.exit (W.seq ?_)
       refine W.l0 1 [.y 8 _] [] [] [(1,_),(8,_)] [(21,mpK placeK D.int _),(1,.var _)] 64 ⟨aU fun _ _ H _=>R.asg (show ev _ _ (.const (.int .u64 0)) = some (.u64 0) from O) O H,Zt⟩ O O O O (tU O ?_)
       refine W.seq (W.seq ?_)
       refine W.l0 4 [.y 43 _,.y 44 _,.y 45 _,.y 46 _] [] [] [(1,_),(8,_),(44,_),(45,_),(46,_)] [(21,mpK placeK D.int _),(1,.var _)] 64 ⟨aU (fU 1 O O),aU (lU 43 O O O O O O O),aU fun _ _ H K=>R.lenE (SC.sl (K 44 _ O)) (lN _) H,aU fun _ _ H _=>R.mov (kI 0 O) O H,Zt⟩ O O O O (tU O ?_)
       refine W.block ?_
       refine W.loop (α:={q__ : Nat // q__ <= t.outs.length /\ ∀ j < q__,¬ 2100000000000000 < t.outs[j]!.value /\ ¬ 2100000000000000 < sumI t.outs (j + 1)}) (fun q__=>⟨64,[(1,.ptr 1 0 []),(8,.u64 (sumI t.outs q__.1)),(44,.sl none 2 (t.outs.map outD)),(45,.int ((t.outs.length : Nat) : Int)),(46,.int ((q__.1 : Nat) : Int))],[(21,mpK placeK D.int (seenM t.ins t.ins.length)),(1,.var (.agg [.u32 t.ver,.sl none 36 (t.ins.map inD),.sl none 2 (t.outs.map outD),.u32 t.lock]))]⟩) (fun q__=>t.outs.length - q__.1) ⟨(0),⟨Nat.zero_le _,fun j h=>absurd h (Nat.not_lt_zero _)⟩⟩ O ?_
       rintro ⟨i,⟨hi,hmo⟩⟩
       show W _ _ _ _ ⟨64,[(1,.ptr 1 0 []),(8,.u64 (sumI t.outs i)),(44,.sl none 2 (t.outs.map outD)),(45,.int ((t.outs.length : Nat) : Int)),(46,.int ((i : Nat) : Int))],[(21,mpK placeK D.int (seenM t.ins t.ins.length)),(1,.var (.agg [.u32 t.ver,.sl none 36 (t.ins.map inD),.sl none 2 (t.outs.map outD),.u32 t.lock]))]⟩
       have hi : i <= t.outs.length:=hi
       have hmo : ∀ j < i,¬ 2100000000000000 < t.outs[j]!.value /\ ¬ 2100000000000000 < sumI t.outs (j + 1):=hmo
       refine W.seq ?_
       refine W.l0 1 [.y 47 _] [] [] [(1,_),(8,_),(44,_),(45,_),(46,_),(47,_)] [(21,mpK placeK D.int _),(1,.var _)] 64 ⟨aU fun _ _ H K=>R.lssN (i) (t.outs.length) (eU K 46 O) (eU K 45 O) H,Zt⟩ O O O O (tU O ?_)
       refine W.seq ?_
       refine W.condD O (fun hc47=>?_) (fun hc47=>?_)
       · refine W.skip (W.seq (W.block (W.seq ?_)))
         refine W.l0 4 [.y 48 _,.y 49 _] [] [] [(1,_),(8,_),(44,_),(45,_),(46,_),(49,_)] [(21,mpK placeK D.int _),(1,.var _)] 64 ⟨aU fun _ _ H K=>R.idxN (i) (SC.sl (K 44 _ O)) (evoI (eU K 46 O)) O bU H dU,aU fun _ _ H K=>R.ldE (K 48 _ O) (SC.sl (K 44 _ O)) (map_get! (l:=t.outs) bU) O O O O H,Zt⟩ O O O O (⟨O,_,R.alloc O (nU O),⟨O,_,R.stZ (gU 10 O) (xU 10 O) O (gV 49 O) (by rfl) (by rfl) (by rfl) (by rfl) O,tV [(1,_),(8,_),(10,_),(44,_),(45,_),(46,_)] [(10,.var _),(21,mpK placeK D.int _),(1,.var _)] 64 O O O ?_⟩⟩)
         refine W.seq (W.seq ?_)
         refine W.l0 3 [.y 50 _,.y 51 _,.y 52 _] [] [] [(1,_),(8,_),(10,_),(44,_),(45,_),(46,_),(52,_)] [(10,.var _),(21,mpK placeK D.int _),(1,.var _)] 64 ⟨aU (fU 10 O O),aU (lU 50 O O O O O O O),aU fun _ _ H K=>R.bin (eU K 51 O) (show ev _ _ (.const (.int .u64 2100000000000000)) = some (.u64 2100000000000000) from O) O Zt H,Zt⟩ O O O O (tU O ?_)
         refine W.cond O (fun hc52=>?_) (fun hc52=>?_)
         · refine W.seq ?_
           refine W.dropS (live:=[]) (env':=[]) (bx':=[(10,.var _),(21,mpK placeK D.int _),(1,.var _)]) (n':=64) O O O ?_
           refine W.dropBP [1,21] (bx':=[(21,mpK placeK D.int _),(1,.var _)]) O O ⟨okMpK (fun _=>rfl) (fun _=>rfl),⟨O,Zt⟩⟩ (pin_sub hD O) ?_
           refine W.l0 1 [.y 2 _] [] [] [(2,_)] [(21,mpK placeK D.int _),(1,.var _)] 64 ⟨aU fun _ _ H _=>R.asg (kB false O) O H,Zt⟩ O O O O (tU O ?_)
           refine W.ret ?_
           exact Ends.one' (.inr O) O (congrArg D.bool (may_f4 hc47 (of_decide_eq_true hc52)).symm) O O Zt
         · refine W.skip (W.seq ?_)
           refine W.l0 5 [.y 53 _,.y 54 _,.y 55 _,.y 56 _,.y 8 _] [] [] [(1,_),(8,_),(44,_),(45,_),(46,_)] [(10,.var _),(21,mpK placeK D.int _),(1,.var _)] 64 ⟨mU 8 O O,aU (fU 10 O O),aU (lU 54 O O O O O O O),aU fun _ _ H K=>R.bin (eU K 53 O) (eU K 55 O) O Zt H,aU fun _ _ H K=>R.asg (eU K 56 O) O H,Zt⟩ O O O O (tU O ?_)
           refine W.seq ?_
           refine W.dropBP [1,21] (bx':=[(21,mpK placeK D.int _),(1,.var _)]) O O ⟨okMpK (fun _=>rfl) (fun _=>rfl),⟨O,Zt⟩⟩ (pin_sub hD O) ?_
           refine W.l0 2 [.y 57 _,.y 58 _] [] [] [(1,_),(8,_),(44,_),(45,_),(46,_),(58,_)] [(21,mpK placeK D.int _),(1,.var _)] 64 ⟨mU 8 O O,aU fun _ _ H K=>R.bin (eU K 57 O) (show ev _ _ (.const (.int .u64 2100000000000000)) = some (.u64 2100000000000000) from O) O Zt H,Zt⟩ O O O O (tU O ?_)
           refine W.cond O (fun hc58=>?_) (fun hc58=>?_)
           · refine W.seq ?_
             refine W.l0 1 [.y 2 _] [] [] [(2,_)] [(21,mpK placeK D.int _),(1,.var _)] 64 ⟨aU fun _ _ H _=>R.asg (kB false O) O H,Zt⟩ O O O O (tU O ?_)
             refine W.ret ?_
             exact Ends.one' (.inr O) O (congrArg D.bool (may_f5 hc47 (of_decide_eq_true hc58)).symm) O O Zt
           · refine W.skip ?_
             refine W.l0 2 [.y 59 _,.y 46 _] [] [] [(1,_),(8,_),(44,_),(45,_),(46,_)] [(21,mpK placeK D.int _),(1,.var _)] 64 ⟨aU fun _ _ H K=>R.addN (i) (1) (eU K 46 O) (kI 1 O) bU H,mU 59 O O,Zt⟩ O O O O (tU O ?_)
             exact ⟨⟨(i + 1),⟨by omega,fun j hj=>(Nat.lt_succ_iff_lt_or_eq.1 hj).elim (hmo j) (fun e=>e ▸ ⟨of_decide_eq_false hc52,of_decide_eq_false hc58⟩)⟩⟩,rfl,(by simp only []; omega)⟩
       · obtain rfl : i = t.outs.length:=by omega
         refine W.exit (W.seq ?_)
         refine W.l0 5 [.y 60 _,.y 61 _,.y 62 _,.y 63 _,.y 2 _] [] [] [(2,_)] [(21,mpK placeK D.int _),(1,.var _)] 64 ⟨aU (lU 1 O O O O O O O),aU fun _ _ H K=>R.callG hC (put_ok t hwf) (Bc (Bp (eU K 60 O) O O) Bn) (FrsR.one (.sl _ _ _ (frs_map fun _=>.u8 _))) H,aU fun _ _ H K=>R.lenE (SC.sl (K 61 _ O)) (lN _) H,aU fun _ _ H K=>R.leqN ((putS t).length) (16384) (eU K 62 O) (kI 16384 O) H,aU fun _ _ H K=>R.asg (eU K 63 O) O H,Zt⟩ O O O O (tU O ?_)
         refine W.ret ?_
         exact Ends.one' (.inr O) O (congrArg D.bool (may_fin hz hc20 hno hmo).symm) O O Zt
end Go.Sx

namespace Go.Sx
open Go.Proofs
theorem make_ok (l : List Un) (ws : List Wnt) (r : UInt64) (hl : l.length <= 4096) (hx : hs32 l) (hw : ws.length <= 1000000) (own : List UInt8) (ho : own.length <= 1000000) : Fn Try.prog gl 15 [.sl none 35 (l.map coD),.sl none 2 (ws.map wntD),.sl none 1 (own.map D.u8),.u64 r] (.tup [txD (mkT l ws own r),.int (mkE l ws own r)]):=by
 refine Fn.of (n:=78) Try.func15 rfl rfl rfl (nU rfl) fun C hC hD=>?_
 have hcl:=chC_len l ws r
 refine W.seq ?_
 refine W.l0 2 [] [] [] [(0,_),(1,_),(2,_),(3,_)] [] 78 Zt O O O O (⟨O,_,R.alloc O (nU O),⟨O,_,R.asg (kI 0 O) O (nU O),tV [(0,_),(1,_),(2,_),(3,_),(8,_)] [(8,.var _)] 78 O O O ?_⟩⟩)
 refine W.seq ?_
 refine W.l0 11 [.y 20 _,.y 21 _,.y 22 _,.y 23 _,.y 19 _,.y 24 _,.y 25 _,.y 26 _,.y 10 _,.y 11 _,.y 12 _] [] [] [(1,_),(2,_),(8,_),(10,_),(11,_),(12,_)] [(8,.var _)] 78 ⟨mU 0 O O,mU 1 O O,mU 3 O O,aU fun _ _ H K=>R.callPE hC (choose_ok l ws r hl hx hw) (EvP.cons (eU K 20 O) O O (EvP.cons (eU K 21 O) O O (EvP.cons (eU K 22 O) O O EvP.nil))) H,aU fun _ _ H K=>R.movT (K 23 _ O) O H,aU fun _ _ H K=>R.ext (K 19 _ O) O O H,aU fun _ _ H K=>R.ext (K 19 _ O) O O H,aU fun _ _ H K=>R.ext (K 19 _ O) O O H,aU fun _ _ H K=>R.asg (eU K 24 O) O H,aU fun _ _ H K=>R.asg (eU K 25 O) O H,aU fun _ _ H K=>R.asg (eU K 26 O) O H,Zt⟩ O O O O (tU O ?_)
 refine W.seq (W.block (W.seq ?_))
 refine W.l0 3 [.y 28 _,.y 29 _,.y 27 _] [] [] [(1,_),(2,_),(8,_),(10,_),(11,_),(12,_),(27,_)] [(8,.var _)] 78 ⟨mU 12 O O,aU fun _ _ H K=>R.bin (eU K 28 O) (kI 0 O) O Zt H,aU fun _ _ H K=>R.asg (eU K 29 O) O H,Zt⟩ O O O O (tU O ?_)
 refine W.cond O (fun hc27=>?_) (fun hc27=>?_)
 · refine W.seq ?_
   refine W.l0 4 [.y 30 _,.y 31 _] [] [] [(8,_),(30,_),(31,_)] [(8,.var _)] 78 ⟨aU fun _ _ H _=>R.bldSE (l:=[.u32 0,.nils,.nils,.u32 0]) (l':=[_,_,_,_]) (.nil O) Zt H,mU 12 O O,Zt⟩ O O O O (⟨O,_,R.stZ (gU 8 O) (xU 8 O) O (gV 30 O) (by rfl) (by rfl) (by rfl) (by rfl) O,⟨O,_,R.asg (gV 31 O) O (nU O),tV [(8,_),(9,_)] [(8,.var _)] 78 O O O ?_⟩⟩)
   refine W.wkB 8 (d':=txD zeroT) (bx':=[(8,.var _)]) O wk_zeroT O ?_
   refine W.ret ?_
   exact Ends.many (.inr O) (.cons O O O (show LdT _ 30 4 true from inferInstance) (.cons O O O Zt .nil)) (mk_1 (by simpa using hc27)) (show [(8,false),(9,true)].Nodup by decide)
 · refine W.seq ?_
   have he : chE l ws r = 0:=by simpa using hc27
   have hq:=chE_P he
   refine W.l0 4 [.y 33 _,.y 34 _,.y 35 _,.y 32 _] [] [] [(1,_),(2,_),(8,_),(10,_),(11,_),(32,_)] [(8,.var _)] 78 ⟨mU 2 O O,aU fun _ _ H K=>R.lenE (SC.sl (K 33 _ O)) (lN _) H,aU fun _ _ H K=>R.gtrN (own.length) (1000) (eU K 34 O) (kI 1000 O) H,aU fun _ _ H K=>R.asg (eU K 35 O) O H,Zt⟩ O O O O (tU O ?_)
   refine W.condD O (fun hc32=>?_) (fun hc32=>?_)
   · refine W.seq ?_
     refine W.l0 3 [.y 36 _] [] [] [(8,_),(36,_)] [(8,.var _)] 78 ⟨aU fun _ _ H _=>R.bldSE (l:=[.u32 0,.nils,.nils,.u32 0]) (l':=[_,_,_,_]) (.nil O) Zt H,Zt⟩ O O O O (⟨O,_,R.stZ (gU 8 O) (xU 8 O) O (gV 36 O) (by rfl) (by rfl) (by rfl) (by rfl) O,⟨O,_,R.asg (kI 1 O) O (nU O),tV [(8,_),(9,_)] [(8,.var _)] 78 O O O ?_⟩⟩)
     refine W.wkB 8 (d':=txD zeroT) (bx':=[(8,.var _)]) O wk_zeroT O ?_
     refine W.ret ?_
     exact Ends.many (.inr O) (.cons O O O (show LdT _ 30 4 true from inferInstance) (.cons O O O Zt .nil)) (mk_2 he (by first | exact hc32 | exact of_decide_eq_true hc32)) (show [(8,false),(9,true)].Nodup by decide)
   · refine W.skip (W.seq ?_)
     refine W.l0 3 [.y 37 _] [] [] [(1,_),(2,_),(8,_),(10,_),(11,_),(37,_)] [(8,.var _)] 78 ⟨aU fun _ _ H _=>R.bldSE (l:=[.u32 0,.nils,.nils,.u32 0]) (l':=[_,_,_,_]) (.cons (show ev _ _ (.const (.int .u32 2)) = some (.u32 2) from O) (.nil O)) ⟨⟨_,(show ev _ _ (.const (.int .u32 2)) = some (.u32 2) from O),O,O,O⟩,Zt⟩ H,Zt⟩ O O O O (⟨O,_,R.alloc O (nU O),⟨O,_,R.stZ (gU 13 O) (xU 13 O) O (gV 37 O) (by rfl) (by rfl) (by rfl) (by rfl) O,tV [(1,_),(2,_),(8,_),(10,_),(11,_),(13,_)] [(13,.var _),(8,.var _)] 78 O O O ?_⟩⟩)
     refine W.seq (W.seq ?_)
     refine W.asOwnP 13 [1] 46 36 (bx':=[(13,.var _),(8,.var _)]) O O O O O ?_
     refine W.l0 3 [.y 38 _,.y 39 _,.y 40 _] [] [] [(1,_),(2,_),(8,_),(11,_),(13,_),(38,_),(39,_),(40,_)] [(13,.var _),(8,.var _)] 78 ⟨mU 10 O O,aU fun _ _ H K=>R.lenE (SC.sl (K 38 _ O)) (lN _) H,aU fun _ _ H _=>R.mov (kI 0 O) O H,Zt⟩ O O O O (tU O ?_)
     refine W.block ?_
     refine W.loop (α:={q__ : Nat // q__ <= (chC l ws r).length}) (fun q__=>⟨78,[(1,.sl none 2 (ws.map wntD)),(2,.sl none 1 (own.map D.u8)),(8,.ptr 8 0 []),(11,.u64 (chV l ws r)),(13,.ptr 13 0 []),(38,.sl none 35 ((chC l ws r).map coD)),(39,.int (((chC l ws r).length : Nat) : Int)),(40,.int ((q__.1 : Nat) : Int))],[(13,.var (.agg [.u32 2,.sl (some 46) 36 (((chC l ws r).take q__.1).map inC),.nils,.u32 0])),(8,.var (.agg [.u32 0,.nils,.nils,.u32 0]))]⟩) (fun q__=>(chC l ws r).length - q__.1) ⟨(0),bU⟩ O ?_
     rintro ⟨i,hi⟩
     show W _ _ _ _ ⟨78,[(1,.sl none 2 (ws.map wntD)),(2,.sl none 1 (own.map D.u8)),(8,.ptr 8 0 []),(11,.u64 (chV l ws r)),(13,.ptr 13 0 []),(38,.sl none 35 ((chC l ws r).map coD)),(39,.int (((chC l ws r).length : Nat) : Int)),(40,.int ((i : Nat) : Int))],[(13,.var (.agg [.u32 2,.sl (some 46) 36 (((chC l ws r).take i).map inC),.nils,.u32 0])),(8,.var (.agg [.u32 0,.nils,.nils,.u32 0]))]⟩
     have hi : i <= (chC l ws r).length:=hi
     refine W.seq ?_
     refine W.l0 1 [.y 41 _] [] [] [(1,_),(2,_),(8,_),(11,_),(13,_),(38,_),(39,_),(40,_),(41,_)] [(13,.var _),(8,.var _)] 78 ⟨aU fun _ _ H K=>R.lssN (i) ((chC l ws r).length) (eU K 40 O) (eU K 39 O) H,Zt⟩ O O O O (tU O ?_)
     refine W.seq ?_
     refine W.condD O (fun hc41=>?_) (fun hc41=>?_)
     · refine W.skip (W.seq (W.block (W.seq ?_)))
       refine W.l0 4 [.y 42 _,.y 43 _] [] [] [(1,_),(2,_),(8,_),(11,_),(13,_),(38,_),(39,_),(40,_),(43,_)] [(13,.var _),(8,.var _)] 78 ⟨aU fun _ _ H K=>R.idxN (i) (SC.sl (K 38 _ O)) (evoI (eU K 40 O)) O bU H dU,aU fun _ _ H K=>R.ldE (K 42 _ O) (SC.sl (K 38 _ O)) (map_get! (l:=(chC l ws r)) bU) O O O O H,Zt⟩ O O O O (⟨O,_,R.alloc O (nU O),⟨O,_,R.stZ (gU 15 O) (xU 15 O) O (gV 43 O) (by rfl) (by rfl) (by rfl) (by rfl) O,tV [(1,_),(2,_),(8,_),(11,_),(13,_),(15,_),(38,_),(39,_),(40,_)] [(15,.var _),(13,.var _),(8,.var _)] 78 O O O ?_⟩⟩)
       refine W.l0 9 [.y 44 _,.y 45 _,.y 46 _,.y 47 _,.y 48 _,.y 49 _] [] [] [(1,_),(2,_),(8,_),(11,_),(13,_),(38,_),(39,_),(40,_),(45,_),(49,_)] [(15,.var _),(13,.var _),(8,.var _)] 78 ⟨aU (fU 13 O O),aU fun _ B H K=>R.ldO (K 44 _ O) (B 13 _ O) O H,aU (fU 15 O O),aU (lU 46 O O O O O O O),aU fun _ _ H K=>R.bldSE (l:=[.agg [.arr 32 1 ((List.replicate 32 0).map D.u8),.u32 0],.nils,.u32 0,.nils]) (l':=[_,_,_,_]) (.cons (eU K 47 O) (.cons (show ev _ _ (.const (.int .u32 4294967295)) = some (.u32 4294967295) from O) (.nil O))) ⟨⟨_,(eU K 47 O),O,O,O⟩,⟨⟨_,(show ev _ _ (.const (.int .u32 4294967295)) = some (.u32 4294967295) from O),O,O,O⟩,Zt⟩⟩ H,aU fun _ _ H K=>R.bslE (z:=36) (.cons (eU K 48 O) .nil) ⟨⟨O,O,O⟩,Zt⟩ O H dU,Zt⟩ O O O O (⟨O,_,R.appBP (gU 45 O) (xU 13 O) O O O O (gU 45 O) (SrcO.sc (SC.sl (gU 49 O)) (pur_lit O)) (show _ = (((chC l ws r).take (i + 1)).map inC) from (mkI_app hc41)) bU (nU O) dU dU,⟨O,_,R.fdP (gU 13 O) (nU O),⟨O,_,R.stOZ (gU 51 O) (xU 13 O) O (gU 50 O) O O (by rfl) (by rfl) O O,tV [(1,_),(2,_),(8,_),(11,_),(13,_),(38,_),(39,_),(40,_)] [(15,.var _),(13,.var _),(8,.var _)] 78 O O O ?_⟩⟩⟩)
       refine W.dropB [8,13] (bx':=[(13,.var _),(8,.var _)]) O O O (pin_sub hD O) ?_
       refine W.l0 2 [.y 52 _,.y 40 _] [] [] [(1,_),(2,_),(8,_),(11,_),(13,_),(38,_),(39,_),(40,_)] [(13,.var _),(8,.var _)] 78 ⟨aU fun _ _ H K=>R.addN (i) (1) (eU K 40 O) (kI 1 O) bU H,mU 52 O O,Zt⟩ O O O O (tU O ?_)
       exact ⟨⟨(i + 1),bU⟩,rfl,(by simp only []; omega)⟩
     · obtain rfl : i = (chC l ws r).length:=by omega
       rw [List.take_length]
       refine W.exit (W.seq ?_)
       refine W.wkB 13 (d':=.agg [.u32 2,.sl (some 46) 36 ((chC l ws r).map inC),.sl (some 48) 2 (([] : List OutS).map outOwn),.u32 0]) (bx':=[(13,.var _),(8,.var _)]) O (wk_mkE _ _) O ?_
       refine W.l0 2 [.y 53 _,.y 16 _] [] [] [(1,_),(2,_),(8,_),(11,_),(13,_),(16,_)] [(13,.var _),(8,.var _)] 78 ⟨aU fun _ _ H K=>R.mkfn1 (eU K 13 O) O O H,aU fun _ _ H K=>R.asg (eU K 53 O) O H,Zt⟩ O O O O (tU O ?_)
       refine W.seq (W.seq ?_)
       refine W.l0 3 [.y 54 _,.y 55 _,.y 56 _] [] [] [(2,_),(8,_),(11,_),(13,_),(16,_),(54,_),(55,_),(56,_)] [(13,.var _),(8,.var _)] 78 ⟨mU 1 O O,aU fun _ _ H K=>R.lenE (SC.sl (K 54 _ O)) (lN _) H,aU fun _ _ H _=>R.mov (kI 0 O) O H,Zt⟩ O O O O (tU O ?_)
       refine W.block ?_
       refine W.loop (α:={q__ : Nat // q__ <= ws.length}) (fun q__=>⟨78,[(2,.sl none 1 (own.map D.u8)),(8,.ptr 8 0 []),(11,.u64 (chV l ws r)),(13,.ptr 13 0 []),(16,.fn 31 [.ptr 13 0 []]),(54,.sl none 2 (ws.map wntD)),(55,.int ((ws.length : Nat) : Int)),(56,.int ((q__.1 : Nat) : Int))],[(13,.var (.agg [.u32 2,.sl (some 46) 36 ((chC l ws r).map inC),.sl (some 48) 2 (((ws.take q__.1).map woS).map outOwn),.u32 0])),(8,.var (.agg [.u32 0,.nils,.nils,.u32 0]))]⟩) (fun q__=>ws.length - q__.1) ⟨(0),bU⟩ O ?_
       rintro ⟨i,hi⟩
       show W _ _ _ _ ⟨78,[(2,.sl none 1 (own.map D.u8)),(8,.ptr 8 0 []),(11,.u64 (chV l ws r)),(13,.ptr 13 0 []),(16,.fn 31 [.ptr 13 0 []]),(54,.sl none 2 (ws.map wntD)),(55,.int ((ws.length : Nat) : Int)),(56,.int ((i : Nat) : Int))],[(13,.var (.agg [.u32 2,.sl (some 46) 36 ((chC l ws r).map inC),.sl (some 48) 2 (((ws.take i).map woS).map outOwn),.u32 0])),(8,.var (.agg [.u32 0,.nils,.nils,.u32 0]))]⟩
       have hi : i <= ws.length:=hi
       refine W.seq ?_
       refine W.l0 1 [.y 57 _] [] [] [(2,_),(8,_),(11,_),(13,_),(16,_),(54,_),(55,_),(56,_),(57,_)] [(13,.var _),(8,.var _)] 78 ⟨aU fun _ _ H K=>R.lssN (i) (ws.length) (eU K 56 O) (eU K 55 O) H,Zt⟩ O O O O (tU O ?_)
       refine W.seq ?_
       refine W.condD O (fun hc57=>?_) (fun hc57=>?_)
       · refine W.skip (W.seq (W.block (W.seq ?_)))
         refine W.l0 4 [.y 58 _,.y 59 _] [] [] [(2,_),(8,_),(11,_),(13,_),(16,_),(54,_),(55,_),(56,_),(59,_)] [(13,.var _),(8,.var _)] 78 ⟨aU fun _ _ H K=>R.idxN (i) (SC.sl (K 54 _ O)) (evoI (eU K 56 O)) O bU H dU,aU fun _ _ H K=>R.ldE (K 58 _ O) (SC.sl (K 54 _ O)) (map_get! (l:=ws) bU) O O O O H,Zt⟩ O O O O (⟨O,_,R.alloc O (nU O),⟨O,_,R.stZ (gU 18 O) (xU 18 O) O (gV 59 O) (by rfl) (by rfl) (by rfl) (by rfl) O,tV [(2,_),(8,_),(11,_),(13,_),(16,_),(18,_),(54,_),(55,_),(56,_)] [(18,.var _),(13,.var _),(8,.var _)] 78 O O O ?_⟩⟩)
         refine W.l0 6 [.y 60 _,.y 61 _,.y 62 _,.y 63 _,.y 64 _] [] [] [(2,_),(8,_),(11,_),(13,_),(16,_),(54,_),(55,_),(56,_),(60,_),(62,_),(64,_)] [(18,.var _),(13,.var _),(8,.var _)] 78 ⟨mU 16 O O,aU (fU 18 O O),aU (lU 61 O O O O O O O),aU (fU 18 O O),aU (lU 63 O O O O O O O),Zt⟩ O O O O (⟨O,_,R.callVB (ds:=[.sl none 1 (ws[i]!.script.map D.u8),.u64 ws[i]!.value]) (caps:=[.ptr 0 0 []]) [(0,13)] hC (gU 60 O) O O (make1_ok (chC l ws r) ((ws.take i).map woS) ws[i]!.script ws[i]!.value (by simp only [List.length_map,List.length_take]; have:=hq.1.2.1; omega) (by have:=(hq.1.2.2 i hc57).2.2; omega)) (EvB.cons (gV 62 O) O O O (EvB.cons (gV 64 O) O O O EvB.nil)) O ⟨O,Zt⟩ ⟨O,Zt⟩ O O O O O O (nU O),tV [(2,_),(8,_),(11,_),(13,_),(16,_),(54,_),(55,_),(56,_)] [(18,.var _),(13,.var _),(8,.var _)] 78 O O O ?_⟩)
         refine W.dropB [8,13] (bx':=[(13,.var _),(8,.var _)]) O O O (pin_sub hD O) ?_
         refine W.l0 2 [.y 66 _,.y 56 _] [] [] [(2,_),(8,_),(11,_),(13,_),(16,_),(54,_),(55,_),(56,_)] [(13,.var _),(8,.var _)] 78 ⟨aU fun _ _ H K=>R.addN (i) (1) (eU K 56 O) (kI 1 O) bU H,mU 66 O O,Zt⟩ O O O O (tU O ?_)
         exact ⟨⟨(i + 1),bU⟩,(by dsimp only; rw [woS_app hc57] <;> rfl),(by simp only []; omega)⟩
       · obtain rfl : i = ws.length:=by omega
         rw [List.take_length]
         refine W.exit ?_
         refine W.seqM (fun s__=>∃ q__ : {q__ : Unit // True},s__ = ⟨78,[(8,.ptr 8 0 []),(13,.ptr 13 0 [])],[(13,.var (.agg [.u32 2,.sl (some 46) 36 ((chC l ws r).map inC),.sl (some 48) 2 ((mkO ws (chV l ws r) own).map outOwn),.u32 0])),(8,.var (.agg [.u32 0,.nils,.nils,.u32 0]))]⟩) ?_ ?_
         · refine W.seq ?_
           refine W.l0 2 [.y 67 _,.y 68 _] [] [] [(2,_),(8,_),(11,_),(13,_),(16,_),(68,_)] [(13,.var _),(8,.var _)] 78 ⟨mU 11 O O,aU fun _ _ H K=>R.bin (eU K 67 O) (show ev _ _ (.const (.int .u64 0)) = some (.u64 0) from O) O Zt H,Zt⟩ O O O O (tU O ?_)
           refine W.cond O (fun hc68=>?_) (fun hc68=>?_)
           · refine W.l0 4 [.y 69 _,.y 70 _,.y 71 _] [] [] [(8,_),(13,_),(69,_),(70,_),(71,_)] [(13,.var _),(8,.var _)] 78 ⟨mU 16 O O,mU 2 O O,mU 11 O O,Zt⟩ O O O O (⟨O,_,R.callVB (ds:=[.sl none 1 (own.map D.u8),.u64 (chV l ws r)]) (caps:=[.ptr 0 0 []]) [(0,13)] hC (gU 69 O) O O (make1_ok (chC l ws r) (ws.map woS) own (chV l ws r) (by simp only [List.length_map]; have:=hq.1.2.1; omega) (ho)) (EvB.cons (gV 70 O) O O O (EvB.cons (gV 71 O) O O O EvB.nil)) O ⟨O,Zt⟩ ⟨O,Zt⟩ O O O O O O (nU O),tV [(8,_),(13,_)] [(13,.var _),(8,.var _)] 78 O O O ?_⟩)
             exact ⟨⟨(()),Zt⟩,(by rw [mkO_y (of_decide_eq_true hc68)] <;> rfl)⟩
           · refine W.dropS (live:=[8,13]) (env':=[(8,_),(13,_)]) (bx':=[(13,.var _),(8,.var _)]) (n':=78) O O O ?_
             refine W.skip ?_
             exact ⟨⟨(()),Zt⟩,(by rw [mkO_n (of_decide_eq_false hc68)] <;> rfl)⟩
         · rintro s__ ⟨⟨_,_⟩,rfl⟩
           refine W.seq (W.seq ?_)
           refine W.wkB 13 (d':=txOwn (mkX l ws own r)) (bx':=[(13,.var _),(8,.var _)]) O (wk_mk _ _) O ?_
           refine W.brwB 13 (d':=txD (mkX l ws own r)) (bx':=[(13,.var _),(8,.var _)]) O (brw_txOwn _) O ?_
           refine W.l0 3 [.y 73 _,.y 74 _,.y 75 _] [] [] [(8,_),(13,_),(75,_)] [(13,.var _),(8,.var _)] 78 ⟨aU (lU 13 O O O O O O O),aU fun _ _ H K=>R.callG hC (may_ok (mkX l ws own r) (mkX_wf hl hx he (by first | exact hc32 | exact of_decide_eq_false hc32 | simpa using hc32))) (Bc (Bp (eU K 73 O) O O) Bn) (FrsR.one (.bool _)) H,aU fun _ _ H K=>R.un (eU K 74 O) O H,Zt⟩ O O O O (tU O ?_)
           refine W.cond O (fun hc75=>?_) (fun hc75=>?_)
           · refine W.seq ?_
             refine W.l0 3 [.y 76 _] [] [] [(8,_),(76,_)] [(13,.var _),(8,.var _)] 78 ⟨aU fun _ _ H _=>R.bldSE (l:=[.u32 0,.nils,.nils,.u32 0]) (l':=[_,_,_,_]) (.nil O) Zt H,Zt⟩ O O O O (⟨O,_,R.stZ (gU 8 O) (xU 8 O) O (gV 76 O) (by rfl) (by rfl) (by rfl) (by rfl) O,⟨O,_,R.asg (kI 6 O) O (nU O),tV [(8,_),(9,_)] [(13,.var _),(8,.var _)] 78 O O O ?_⟩⟩)
             refine W.wkB 8 (d':=txD zeroT) (bx':=[(13,.var _),(8,.var _)]) O wk_zeroT O ?_
             refine W.ret ?_
             exact Ends.many (.inr O) (.cons O O O (show LdT _ 30 4 true from inferInstance) (.cons O O O Zt .nil)) (mk_3 he (by first | exact hc32 | exact of_decide_eq_false hc32) (by simpa using hc75)) (show [(8,false),(9,true)].Nodup by decide)
           · refine W.skip (W.seq ?_)
             refine W.l0 3 [.y 77 _] [] [] [(8,_),(77,_)] [(13,.var _),(8,.var _)] 78 ⟨aU (lU 13 O O O O O O O),Zt⟩ O O O O (⟨O,_,R.stZ (gU 8 O) (xU 8 O) O (gV 77 O) (by rfl) (by rfl) (by rfl) (by rfl) O,⟨O,_,R.asg (kI 0 O) O (nU O),tV [(8,_),(9,_)] [(13,.var _),(8,.var _)] 78 O O O ?_⟩⟩)
             refine W.ret ?_
             exact Ends.many (.inr O) (.cons O O O (show LdT _ 30 4 true from inferInstance) (.cons O O O Zt .nil)) (mk_4 he (by first | exact hc32 | exact of_decide_eq_false hc32) (by simpa using hc75)) (show [(8,false),(9,true)].Nodup by decide)
end Go.Sx

namespace Go.Sx
open Go.Proofs
def inI (l : List Un) (t : TxS) : Nat -> UInt64
 | 0=>0
 | i + 1=>inI l t i + kGet 0 (purI l l.length) (plc t.ins[i]!)
def lftO (l : List Un) (t : TxS) : Nat -> UInt64
 | 0=>inI l t t.ins.length
 | j + 1=>lftO l t j - t.outs[j]!.value
def ckI (l : List Un) (t : TxS) (i : Nat) : Prop:=kHas (purI l l.length) (plc t.ins[i]!) = true
instance (l : List Un) (t : TxS) (i : Nat) : Decidable (ckI l t i):=by unfold ckI; infer_instance
def ckP (l : List Un) (t : TxS) : Prop:=purP l /\ mayS t = true
instance (l : List Un) (t : TxS) : Decidable (ckP l t):=by unfold ckP; infer_instance
def ckQ (l : List Un) (t : TxS) : Prop:=(∀ i < t.ins.length,ckI l t i) /\ ∀ j < t.outs.length,¬ lftO l t j < t.outs[j]!.value
instance (l : List Un) (t : TxS) : Decidable (ckQ l t):=by unfold ckQ; infer_instance
def ckV (l : List Un) (t : TxS) : UInt64:=if ckP l t /\ ckQ l t then lftO l t t.outs.length else 0
def ckE (l : List Un) (t : TxS) : Int:=if ckP l t then (if ckQ l t then 0 else 14) else 1
theorem ck_1 {l : List Un} {t : TxS} (h : ¬ ckP l t) : [D.u64 0,D.int 1] = [.u64 (ckV l t),.int (ckE l t)]:=by
 rw [ckV,ckE,if_neg (fun hh=>h hh.1),if_neg h]
theorem ck_2 {l : List Un} {t : TxS} {i : Nat} (h : ckP l t) (hi : i < t.ins.length) (hn : kHas (purI l l.length) (plc t.ins[i]!) = false) : [D.u64 0,D.int 14] = [.u64 (ckV l t),.int (ckE l t)]:=by
 have hq : ¬ ckQ l t:=fun hq=>by
  have h1 : kHas _ _ = true:=hq.1 i hi
  rw [hn] at h1; cases h1
 rw [ckV,ckE,if_neg (fun hh=>hq hh.2),if_pos h,if_neg hq]
theorem ck_3 {l : List Un} {t : TxS} {j : Nat} (h : ckP l t) (hj : j < t.outs.length) (hn : lftO l t j < t.outs[j]!.value) : [D.u64 0,D.int 14] = [.u64 (ckV l t),.int (ckE l t)]:=by
 have hq : ¬ ckQ l t:=fun hq=>hq.2 j hj hn
 rw [ckV,ckE,if_neg (fun hh=>hq hh.2),if_pos h,if_neg hq]
theorem ck_4 {l : List Un} {t : TxS} (h : ckP l t) (h1 : ∀ i < t.ins.length,ckI l t i) (h2 : ∀ j < t.outs.length,¬ lftO l t j < t.outs[j]!.value) : [D.u64 (lftO l t t.outs.length),D.int 0] = [.u64 (ckV l t),.int (ckE l t)]:=by
 rw [ckV,ckE,if_pos ⟨h,h1,h2⟩,if_pos h,if_pos ⟨h1,h2⟩]
theorem kGet_cons (z : UInt64) (a : Plc) (v : UInt64) (m : List (Plc × UInt64)) (k : Plc) : kGet z ((a,v) :: m) k = if a = k then v else kGet z m k:=by
 unfold kGet kIdx
 rw [List.findIdx_cons]
 show ((((a,v) :: m)[bif decide (a = k) then 0 else _]?).map _).getD z = _
 by_cases h : a = k
 · subst h; simp
 · rw [decide_eq_false h,if_neg h]; rfl
theorem kHas_cons (a : Plc) (v : UInt64) (m : List (Plc × UInt64)) (k : Plc) : kHas ((a,v) :: m) k = (decide (a = k) || kHas m k):=rfl
theorem kGet_last {z : UInt64} {m : List (Plc × UInt64)} {k : Plc} {u : UInt64} (h : kHas m k = false) : kGet z (m ++ [(k,u)]) k = u:=by
 induction m with
 | nil=>rw [List.nil_append,kGet_cons,if_pos rfl]
 | cons e m ih=>
  obtain ⟨a,v⟩:=e
  rw [kHas_cons,Bool.or_eq_false_iff] at h
  rw [List.cons_append,kGet_cons,if_neg (of_decide_eq_false h.1),ih h.2]
theorem kGet_skip {z : UInt64} {m : List (Plc × UInt64)} {k q : Plc} {u : UInt64} (h : q ≠ k) : kGet z (m ++ [(q,u)]) k = kGet z m k:=by
 induction m with
 | nil=>rw [List.nil_append,kGet_cons,if_neg h]
 | cons e m ih=>
  obtain ⟨a,v⟩:=e
  rw [List.cons_append,kGet_cons,kGet_cons,ih]
end Go.Sx

namespace Go.Sx
open Go.Proofs
end Go.Sx
