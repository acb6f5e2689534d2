/-
 Own library: functions that are given what their first argument owns.
-/
import Derived.Test.YthhliikibffhjaaDoorMSxBs2
import Derived.Test.YthhliikibffhjaaDoorMPt5
import Derived.Test.YthhliikibffhjaaDoorMSxCallB
set_option linter.unusedVariables false
set_option linter.unusedSimpArgs false
set_option linter.unnecessarySimpa false

namespace Go.Sx
open Go.Proofs
set_option maxHeartbeats 2000000 in
theorem check_ok (n : Int) (hs : List Hs) (fl : List Bool) (hh : allH hs) (hl0 : hs.length ≤ 1000000) (hf0 : fl.length ≤ 100000) : Fn Tryd.prog gl 12 [.agg [.int n,.sl none 32 (hs.map hashD),.sl none 1 (fl.map D.bool)]] (.tup [hashD (chkS n hs fl).1,.sl none 32 ((chkS n hs fl).2.1.map hashD),.sl none 1 ((chkS n hs fl).2.2.1.map natD),.int (((chkS n hs fl).2.2.2 : Nat) : Int)]) := by
 refine Fn.of (n := 66) Tryd.func12 rfl rfl rfl (nU rfl) fun C hC hD => ?_
 refine W.seq ?_
 refine W.l0 5 [] [] [] [(0,_)] [] 66 trivial O O O O (⟨O,_,R.box (gV 0 O) O O (nU O),⟨O,_,R.alloc O (nU O),⟨O,_,R.alloc O (nU O),⟨O,_,R.alloc O (nU O),⟨O,_,R.asg (kI 0 O) O (nU O),tV [(1,_),(2,_),(3,_),(4,_)] [(4,.var _),(3,.var _),(2,.var _),(1,.var _)] 66 O O O ?_⟩⟩⟩⟩⟩)
 refine W.seq ?_
 refine W.block ?_
 refine W.seq ?_
 refine W.seq ?_
 by_cases hn1 : n < 1
 · refine W.l0 4 [.y 12 _,.y 13 _,.y 14 _,.y 11 _] [] [] [(1,_),(2,_),(3,_),(4,_),(11,_)] [(4,.var _),(3,.var _),(2,.var _),(1,.var _)] 66 ⟨aU (fU 1 O O),aU (lU 12 O O O O O O O),aU fun _ _ H K => R.bin (eU K 13 O) (kI 1 O) O trivial H,aU fun _ _ H K => R.asg (eU K 14 O) O H,trivial⟩ O O O O (tU O ?_)
   refine W.condT O (decide_eq_true hn1) ?_
   refine W.skip ?_
   refine W.condT O (decide_eq_true hn1) ?_
   refine W.seq ?_
   refine W.l0 5 [.y 18 _] [] [] [(2,_),(3,_),(4,_),(18,_)] [(4,.var _),(3,.var _),(2,.var _),(1,.var _)] 66 ⟨aU (lU 2 O O O O O O O),trivial⟩ O O O O (⟨O,_,R.stZ (gU 2 O) (xU 2 O) O (gV 18 O) (by rfl) (by rfl) (by rfl) (by rfl) O,⟨O,_,R.stZ (gU 3 O) (xU 3 O) O (kN O) (by rfl) (by rfl) (by rfl) (by rfl) O,⟨O,_,R.stZ (gU 4 O) (xU 4 O) O (kN O) (by rfl) (by rfl) (by rfl) (by rfl) O,⟨O,_,R.asg (kI 1 O) O (nU O),tV [(2,_),(3,_),(4,_),(5,_)] [(4,.var _),(3,.var _),(2,.var _),(1,.var _)] 66 O O O ?_⟩⟩⟩⟩)
   refine W.wkB 3 (d' := .sl none 32 (([] : List Hs).map hashD)) (bx' := [(4,.var _),(3,.var _),(2,.var _),(1,.var _)]) O wk_hs0 O ?_
   refine W.wkB 4 (d' := .sl none 1 (([] : List Nat).map natD)) (bx' := [(4,.var _),(3,.var _),(2,.var _),(1,.var _)]) O wk_is0 O ?_
   refine W.ret ?_
   exact Ends.many (.inr O) (.cons O O O (show LdT _ 38 32 true from inferInstance) (.cons O O O (show LdT _ 22 1 false from inferInstance) (.cons O O O (show LdT _ 40 1 false from inferInstance) (.cons O O O trivial .nil)))) (by rw [chk_1 hn1]; rfl) (show [(2,false),(3,false),(4,false),(5,true)].Nodup by decide)
 · refine W.l0 4 [.y 12 _,.y 13 _,.y 14 _,.y 11 _] [] [] [(1,_),(2,_),(3,_),(4,_),(11,_)] [(4,.var _),(3,.var _),(2,.var _),(1,.var _)] 66 ⟨aU (fU 1 O O),aU (lU 12 O O O O O O O),aU fun _ _ H K => R.bin (eU K 13 O) (kI 1 O) O trivial H,aU fun _ _ H K => R.asg (eU K 14 O) O H,trivial⟩ O O O O (tU O ?_)
   refine W.condF O (decide_eq_false hn1) ?_
   refine W.l0 4 [.y 15 _,.y 16 _,.y 17 _,.y 11 _] [] [] [(1,_),(2,_),(3,_),(4,_),(11,_)] [(4,.var _),(3,.var _),(2,.var _),(1,.var _)] 66 ⟨aU (fU 1 O O),aU (lU 15 O O O O O O O),aU fun _ _ H K => R.bin (eU K 16 O) (kI 256 O) O trivial H,aU fun _ _ H K => R.asg (eU K 17 O) O H,trivial⟩ O O O O (tU O ?_)
   refine W.cond O (fun hc11 => ?_) (fun hc11 => ?_)
   · refine W.seq ?_
     refine W.l0 5 [.y 18 _] [] [] [(2,_),(3,_),(4,_),(18,_)] [(4,.var _),(3,.var _),(2,.var _),(1,.var _)] 66 ⟨aU (lU 2 O O O O O O O),trivial⟩ O O O O (⟨O,_,R.stZ (gU 2 O) (xU 2 O) O (gV 18 O) (by rfl) (by rfl) (by rfl) (by rfl) O,⟨O,_,R.stZ (gU 3 O) (xU 3 O) O (kN O) (by rfl) (by rfl) (by rfl) (by rfl) O,⟨O,_,R.stZ (gU 4 O) (xU 4 O) O (kN O) (by rfl) (by rfl) (by rfl) (by rfl) O,⟨O,_,R.asg (kI 1 O) O (nU O),tV [(2,_),(3,_),(4,_),(5,_)] [(4,.var _),(3,.var _),(2,.var _),(1,.var _)] 66 O O O ?_⟩⟩⟩⟩)
     refine W.wkB 3 (d' := .sl none 32 (([] : List Hs).map hashD)) (bx' := [(4,.var _),(3,.var _),(2,.var _),(1,.var _)]) O wk_hs0 O ?_
     refine W.wkB 4 (d' := .sl none 1 (([] : List Nat).map natD)) (bx' := [(4,.var _),(3,.var _),(2,.var _),(1,.var _)]) O wk_is0 O ?_
     refine W.ret ?_
     exact Ends.many (.inr O) (.cons O O O (show LdT _ 38 32 true from inferInstance) (.cons O O O (show LdT _ 22 1 false from inferInstance) (.cons O O O (show LdT _ 40 1 false from inferInstance) (.cons O O O trivial .nil)))) (by rw [chk_2 (of_decide_eq_true hc11)]; rfl) (show [(2,false),(3,false),(4,false),(5,true)].Nodup by decide)
   · refine W.seq ?_
     refine W.seq ?_
     by_cases hm1 : n < (hs.length : Int)
     · have hn2 : ¬ n > 256 := of_decide_eq_false hc11
       obtain ⟨m,rfl⟩ : ∃ m : Nat,n = ((m : Nat) : Int) := ⟨n.toNat,by omega⟩
       refine W.l0 7 [.y 20 _,.y 21 _,.y 22 _,.y 23 _,.y 24 _,.y 25 _,.y 19 _] [] [] [(1,_),(2,_),(3,_),(4,_),(19,_)] [(4,.var _),(3,.var _),(2,.var _),(1,.var _)] 66 ⟨aU (fU 1 O O),aU (lU 20 O O O O O O O),aU fun _ _ H K => R.lenE (SC.sl (K 21 _ O)) (List.length_map _) H,aU (fU 1 O O),aU (lU 23 O O O O O O O),aU fun _ _ H K => R.gtrN (hs.length) (m) (eU K 22 O) (eU K 24 O) H,aU fun _ _ H K => R.asg (eU K 25 O) O H,trivial⟩ O O O O (tU O ?_)
       refine W.condT O (decide_eq_true (by omega)) ?_
       refine W.skip ?_
       refine W.condT O (decide_eq_true (by omega)) ?_
       refine W.seq ?_
       refine W.l0 5 [.y 33 _] [] [] [(2,_),(3,_),(4,_),(33,_)] [(4,.var _),(3,.var _),(2,.var _),(1,.var _)] 66 ⟨aU (lU 2 O O O O O O O),trivial⟩ O O O O (⟨O,_,R.stZ (gU 2 O) (xU 2 O) O (gV 33 O) (by rfl) (by rfl) (by rfl) (by rfl) O,⟨O,_,R.stZ (gU 3 O) (xU 3 O) O (kN O) (by rfl) (by rfl) (by rfl) (by rfl) O,⟨O,_,R.stZ (gU 4 O) (xU 4 O) O (kN O) (by rfl) (by rfl) (by rfl) (by rfl) O,⟨O,_,R.asg (kI 6 O) O (nU O),tV [(2,_),(3,_),(4,_),(5,_)] [(4,.var _),(3,.var _),(2,.var _),(1,.var _)] 66 O O O ?_⟩⟩⟩⟩)
       refine W.wkB 3 (d' := .sl none 32 (([] : List Hs).map hashD)) (bx' := [(4,.var _),(3,.var _),(2,.var _),(1,.var _)]) O wk_hs0 O ?_
       refine W.wkB 4 (d' := .sl none 1 (([] : List Nat).map natD)) (bx' := [(4,.var _),(3,.var _),(2,.var _),(1,.var _)]) O wk_is0 O ?_
       refine W.ret ?_
       exact Ends.many (.inr O) (.cons O O O (show LdT _ 38 32 true from inferInstance) (.cons O O O (show LdT _ 22 1 false from inferInstance) (.cons O O O (show LdT _ 40 1 false from inferInstance) (.cons O O O trivial .nil)))) (by rw [chk_3 hn1 hn2 (.inl (by omega))]; rfl) (show [(2,false),(3,false),(4,false),(5,true)].Nodup by decide)
     · have hn2 : ¬ n > 256 := of_decide_eq_false hc11
       obtain ⟨m,rfl⟩ : ∃ m : Nat,n = ((m : Nat) : Int) := ⟨n.toNat,by omega⟩
       refine W.l0 7 [.y 20 _,.y 21 _,.y 22 _,.y 23 _,.y 24 _,.y 25 _,.y 19 _] [] [] [(1,_),(2,_),(3,_),(4,_),(19,_)] [(4,.var _),(3,.var _),(2,.var _),(1,.var _)] 66 ⟨aU (fU 1 O O),aU (lU 20 O O O O O O O),aU fun _ _ H K => R.lenE (SC.sl (K 21 _ O)) (List.length_map _) H,aU (fU 1 O O),aU (lU 23 O O O O O O O),aU fun _ _ H K => R.gtrN (hs.length) (m) (eU K 22 O) (eU K 24 O) H,aU fun _ _ H K => R.asg (eU K 25 O) O H,trivial⟩ O O O O (tU O ?_)
       refine W.condF O (decide_eq_false (by omega)) ?_
       refine W.l0 8 [.y 26 _,.y 27 _,.y 28 _,.y 29 _,.y 30 _,.y 31 _,.y 32 _,.y 19 _] [] [] [(1,_),(2,_),(3,_),(4,_),(19,_)] [(4,.var _),(3,.var _),(2,.var _),(1,.var _)] 66 ⟨aU (fU 1 O O),aU (lU 26 O O O O O O O),aU fun _ _ H K => R.lenE (SC.sl (K 27 _ O)) (List.length_map _) H,aU (fU 1 O O),aU (lU 29 O O O O O O O),aU fun _ _ H K => R.lenE (SC.sl (K 30 _ O)) (List.length_map _) H,aU fun _ _ H K => R.lssN (fl.length) (hs.length) (eU K 28 O) (eU K 31 O) H,aU fun _ _ H K => R.asg (eU K 32 O) O H,trivial⟩ O O O O (tU O ?_)
       refine W.condD O (fun hc19 => ?_) (fun hc19 => ?_)
       · refine W.seq ?_
         refine W.l0 5 [.y 33 _] [] [] [(2,_),(3,_),(4,_),(33,_)] [(4,.var _),(3,.var _),(2,.var _),(1,.var _)] 66 ⟨aU (lU 2 O O O O O O O),trivial⟩ O O O O (⟨O,_,R.stZ (gU 2 O) (xU 2 O) O (gV 33 O) (by rfl) (by rfl) (by rfl) (by rfl) O,⟨O,_,R.stZ (gU 3 O) (xU 3 O) O (kN O) (by rfl) (by rfl) (by rfl) (by rfl) O,⟨O,_,R.stZ (gU 4 O) (xU 4 O) O (kN O) (by rfl) (by rfl) (by rfl) (by rfl) O,⟨O,_,R.asg (kI 6 O) O (nU O),tV [(2,_),(3,_),(4,_),(5,_)] [(4,.var _),(3,.var _),(2,.var _),(1,.var _)] 66 O O O ?_⟩⟩⟩⟩)
         refine W.wkB 3 (d' := .sl none 32 (([] : List Hs).map hashD)) (bx' := [(4,.var _),(3,.var _),(2,.var _),(1,.var _)]) O wk_hs0 O ?_
         refine W.wkB 4 (d' := .sl none 1 (([] : List Nat).map natD)) (bx' := [(4,.var _),(3,.var _),(2,.var _),(1,.var _)]) O wk_is0 O ?_
         refine W.ret ?_
         exact Ends.many (.inr O) (.cons O O O (show LdT _ 38 32 true from inferInstance) (.cons O O O (show LdT _ 22 1 false from inferInstance) (.cons O O O (show LdT _ 40 1 false from inferInstance) (.cons O O O trivial .nil)))) (by rw [chk_3 hn1 hn2 (.inr hc19)]; rfl) (show [(2,false),(3,false),(4,false),(5,true)].Nodup by decide)
       · refine W.skip ?_
         refine W.seq ?_
         obtain ⟨hw1,hw2,hw3⟩ := wd_len (n := m) (by omega) (by omega)
         refine W.l0 5 [.y 34 _,.y 35 _,.y 36 _] [] [] [(1,_),(2,_),(3,_),(4,_),(36,_)] [(4,.var _),(3,.var _),(2,.var _),(1,.var _)] 66 ⟨aU (fU 1 O O),aU (lU 34 O O O O O O O),aU fun _ _ H K => R.callG hC (wide_ok m (by omega) (by omega)) (Bors.cons (Bor.pur (eU K 35 O) O O) Bors.nil) (FrsR.one (.sl _ _ _ (frs_map fun _ => .int _))) H,trivial⟩ O O O O (⟨O,_,R.alloc O (nU O),⟨O,_,R.stOZ (gU 6 O) (xU 6 O) O (gU 36 O) O O (by rfl) (by rfl) O O,tV [(1,_),(2,_),(3,_),(4,_),(6,_)] [(6,.var _),(4,.var _),(3,.var _),(2,.var _),(1,.var _)] 66 O O O ?_⟩⟩)
         refine W.seq ?_
         refine W.brwB 6 (d' := .sl none 1 ((wdI m (nRows m)).map natD)) (bx' := [(6,.var _),(4,.var _),(3,.var _),(2,.var _),(1,.var _)]) O (brw_nt _ _ _) O ?_
         refine W.drawE (m := 7) (an := [0,1,0,4,0,0,51,127]) (its := [.y 37 _,.y 38 _,.y 39 _,.y 40 _,.y 7 _,.y 8 _,⟨72,.dead,true⟩]) (ks := [(6,72)]) (kk := []) (efs := [(4,[(7,.var _)]),(5,[(8,.var _)]),(6,[(7,.var _)])]) (live := [2,3,4,6,7,8,40]) (env' := [(2,_),(3,_),(4,_),(6,_),(7,_),(8,_),(40,_)]) (nd := 40) (bx1 := [(7,.var _),(8,.var _),(6,.var _),(4,.var _),(3,.var _),(2,.var _),(1,.var _)]) hP (by decide) O ⟨⟨79,O⟩,nU O,O,O,O,O⟩ (              ⟨⟨O,nU O,O,fun _ τ hb ht hτ => R.fdP (hτ 1 _ O) ht⟩,⟨⟨O,nU O,O,fun _ τ hb ht hτ => R.ldP (hτ 37 _ O) (hb 1 _ O) O O O O ht⟩,⟨⟨O,nU O,O,fun _ τ hb ht hτ => R.fdP (hτ 1 _ O) ht⟩,⟨⟨O,nU O,O,fun _ τ hb ht hτ => R.ldP (hτ 39 _ O) (hb 1 _ O) O O O O ht⟩,⟨⟨O,O,⟨O,nU O⟩,(SpE.alloc O (nU O))⟩,⟨⟨O,O,⟨O,nU O⟩,(SpE.alloc O (nU O))⟩,⟨⟨O,O,O,(SpE.st (p := 7) (id := 7) O O O (fun τ hτ => (evt (hτ 38 _ O))) (by rfl) (by rfl) (by rfl) (by rfl) O)⟩,trivial⟩⟩⟩⟩⟩⟩⟩) O O O (n' := 66) O (⟨O,_,R.stZ (gU 8 O) (xU 8 O) O (gV 40 O) (by rfl) (by rfl) (by rfl) (by rfl) O,⟨[2,3,4,6,7,8],[(2,_),(3,_),(4,_),(6,_),(7,_),(8,_)],[(7,.var _),(8,.var _),(6,.var _),(4,.var _),(3,.var _),(2,.var _),(1,.var _)],66,O,O,O, ?_⟩⟩)
         refine W.seq ?_
         refine W.l0 1 [] [] [] [(2,_),(3,_),(4,_),(6,_),(7,_),(8,_)] [(7,.var _),(8,.var _),(6,.var _),(4,.var _),(3,.var _),(2,.var _),(1,.var _)] 66 trivial O O O O (⟨O,_,R.alloc O (nU O),tV [(2,_),(3,_),(4,_),(6,_),(7,_),(8,_),(9,_)] [(9,.var _),(7,.var _),(8,.var _),(6,.var _),(4,.var _),(3,.var _),(2,.var _),(1,.var _)] 66 O O O ?_⟩)
         refine W.seq ?_
         refine W.l0 2 [.y 41 _] [] [] [(2,_),(3,_),(4,_),(6,_),(7,_),(8,_),(9,_),(41,_)] [(9,.var _),(7,.var _),(8,.var _),(6,.var _),(4,.var _),(3,.var _),(2,.var _),(1,.var _)] 66 ⟨aU fun _ _ H K => R.mkfnL (EvFs.cons (eU K 7 O) O O (EvFs.cons (eU K 8 O) O O (EvFs.cons (eU K 3 O) O O (EvFs.cons (eU K 4 O) O O (EvFs.cons (eU K 9 O) O O (EvFs.cons (eU K 6 O) O O EvFs.nil)))))) H,trivial⟩ O O O O (⟨O,_,R.stP (gU 9 O) (xU 9 O) O (gV 41 O) O O (by rfl) (by rfl) O,tV [(2,_),(3,_),(4,_),(6,_),(7,_),(8,_),(9,_)] [(9,.var _),(7,.var _),(8,.var _),(6,.var _),(4,.var _),(3,.var _),(2,.var _),(1,.var _)] 66 O O O ?_⟩)
         refine W.seq ?_
         refine W.asOwnP 3 [] 38 32 (bx' := [(9,.var _),(7,.var _),(8,.var _),(6,.var _),(4,.var _),(3,.var _),(2,.var _),(1,.var _)]) O O O O O ?_
         refine W.asOwnP 4 [] 3 1 (bx' := [(9,.var _),(7,.var _),(8,.var _),(6,.var _),(4,.var _),(3,.var _),(2,.var _),(1,.var _)]) O O O O O ?_
         obtain ⟨⟨a,x⟩,fl1,hs1,ids1,at1,hX⟩ : ∃ o_ f_ h_ i_ a_,ckW (wdI m (nRows m)) ((wdI m (nRows m)).length - 1) 0 (fl,hs,[],[]) = (o_,f_,h_,i_,a_) := ⟨_,_,_,_,_,rfl⟩
         obtain ⟨ho1,ho2,ho3,ho4,ho5,_⟩ := hX ▸ ckW_ok (wdI m (nRows m)) ((wdI m (nRows m)).length - 1) 0 (fl,hs,[],[]) hh
         simp only [List.length_nil] at ho1 ho3 ho4 ho5
         refine W.l0 10 [.y 43 _,.y 44 _,.y 45 _,.y 46 _] [] [] [(2,_),(3,_),(4,_),(7,_),(8,_),(43,_),(46,_)] [(9,.var _),(7,.var _),(8,.var _),(6,.var _),(4,.var _),(3,.var _),(2,.var _),(1,.var _)] 66 ⟨aU (lU 9 O O O O O O O),aU (lU 6 O O O O O O O),aU fun _ _ H K => R.lenE (SC.sl (K 44 _ O)) (List.length_map _) H,aU fun _ _ H K => R.subN ((wdI m (nRows m)).length) (1) (eU K 45 O) (kI 1 O) bU bU H,trivial⟩ O O O O (⟨O,_,R.callVB (ds := [.int ((((wdI m (nRows m)).length - 1) : Nat) : Int),.int ((0 : Nat) : Int)]) (caps := [.ptr 0 0 [],.ptr 1 0 [],.ptr 2 0 [],.ptr 3 0 [],.ptr 4 0 [],.ptr 5 0 []]) [(0,7),(1,8),(2,3),(3,4),(4,9),(5,6)] hC (gU 43 O) O O (show FnB Tryd.prog gl 29 [.int ((((wdI m (nRows m)).length - 1) : Nat) : Int),.int ((0 : Nat) : Int),.ptr 0 0 [],.ptr 1 0 [],.ptr 2 0 [],.ptr 3 0 [],.ptr 4 0 [],.ptr 5 0 []] [(0,.var (.sl none 1 (fl.map D.bool))),(1,.var (.sl none 32 (hs.map hashD))),(2,.var (.sl (some 38) 32 (([] : List Hs).map hashD))),(3,.var (.sl (some 3) 1 (([] : List Nat).map natD))),(4,.var (.fn 29 [.ptr 0 0 [],.ptr 1 0 [],.ptr 2 0 [],.ptr 3 0 [],.ptr 4 0 [],.ptr 5 0 []])),(5,.var (.sl none 1 ((wdI m (nRows m)).map natD)))] (.tup [hashD a,.bool x]) [(0,.var (.sl none 1 (fl1.map D.bool))),(1,.var (.sl none 32 (hs1.map hashD))),(2,.var (.sl (some 38) 32 (ids1.map hashD))),(3,.var (.sl (some 3) 1 (at1.map natD))),(4,.var (.fn 29 [.ptr 0 0 [],.ptr 1 0 [],.ptr 2 0 [],.ptr 3 0 [],.ptr 4 0 [],.ptr 5 0 []])),(5,.var (.sl none 1 ((wdI m (nRows m)).map natD)))] [] from by have h := ck_call (m := m) (by omega) (by omega) hh (by omega) hf0; unfold CwP at h; rw [hX] at h; exact h) (EvB.cons (gV 46 O) O O O (EvB.cons (kI 0 O) O O O EvB.nil)) O ⟨O,⟨O,⟨O,⟨O,⟨O,⟨O,trivial⟩⟩⟩⟩⟩⟩ ⟨O,⟨O,⟨O,⟨O,⟨O,⟨O,trivial⟩⟩⟩⟩⟩⟩ O O O O O O (nU O),⟨O,_,R.movT (gU 47 O) O (nU O),⟨O,_,R.ext (gU 42 O) O O (nU O),⟨O,_,R.ext (gU 42 O) O O (nU O),⟨O,_,R.stZ (gU 2 O) (xU 2 O) O (gV 48 O) (by rfl) (by rfl) (by rfl) (by rfl) O,⟨O,_,R.asg (gV 49 O) O (nU O),tV [(2,_),(3,_),(4,_),(7,_),(8,_),(10,_)] [(9,.var _),(7,.var _),(8,.var _),(6,.var _),(4,.var _),(3,.var _),(2,.var _),(1,.var _)] 66 O O O ?_⟩⟩⟩⟩⟩⟩)
         refine W.seq ?_
         refine W.seq ?_
         by_cases hx : x = true
         · by_cases hf1 : fl1.length = 0
           · refine W.l0 12 [.y 50 _,.y 51 _,.y 52 _,.y 53 _,.y 54 _,.y 55 _,.y 56 _,.y 57 _,.y 58 _,.y 59 _,.y 60 _,.y 61 _] [] [] [(2,_),(3,_),(4,_),(61,_)] [(9,.var _),(7,.var _),(8,.var _),(6,.var _),(4,.var _),(3,.var _),(2,.var _),(1,.var _)] 66 ⟨mU 10 O O,aU fun _ _ H K => R.un (eU K 50 O) O H,mU 51 O O,aW O O (gF (by rw [hx]; rfl) O) (lU 7 O O O O O O O),aW O O (gF (by rw [hx]; rfl) O) fun _ _ H K => R.lenE (SC.sl (K 53 _ O)) (List.length_map _) H,aW O O (gF (by rw [hx]; rfl) O) fun _ _ H K => R.gtrN (fl1.length) (0) (eU K 54 O) (kI 0 O) H,aU fun _ _ H K => R.pickF (eU K 52 O) (by rw [hx]; rfl) (eU K 55 O) O H,mU 56 O O,aW O O (gF (decide_eq_false (by omega)) O) (lU 8 O O O O O O O),aW O O (gF (decide_eq_false (by omega)) O) fun _ _ H K => R.lenE (SC.sl (K 58 _ O)) (List.length_map _) H,aW O O (gF (decide_eq_false (by omega)) O) fun _ _ H K => R.gtrN (hs1.length) (0) (eU K 59 O) (kI 0 O) H,aU fun _ _ H K => R.pickF (eU K 57 O) (decide_eq_false (by omega)) (eU K 60 O) O H,trivial⟩ O O O O (tU O ?_)
             refine W.condD O (fun hc61 => ?_) (fun hc61 => ?_)
             · refine W.seq ?_
               refine W.brwB 3 (d' := .sl none 32 (ids1.map hashD)) (bx' := [(9,.var _),(7,.var _),(8,.var _),(6,.var _),(4,.var _),(3,.var _),(2,.var _),(1,.var _)]) O (brw_hs _ _ _) O ?_
               refine W.brwB 4 (d' := .sl none 1 (at1.map natD)) (bx' := [(9,.var _),(7,.var _),(8,.var _),(6,.var _),(4,.var _),(3,.var _),(2,.var _),(1,.var _)]) O (brw_nt _ _ _) O ?_
               refine W.l0 5 [.y 62 _] [] [] [(2,_),(3,_),(4,_),(62,_)] [(9,.var _),(7,.var _),(8,.var _),(6,.var _),(4,.var _),(3,.var _),(2,.var _),(1,.var _)] 66 ⟨aU fun _ _ H _ => R.bldAZ O H,trivial⟩ O O O O (⟨O,_,R.stZ (gU 2 O) (xU 2 O) O (gV 62 O) (by rfl) (by rfl) (by rfl) (by rfl) O,⟨O,_,R.stZ (gU 3 O) (xU 3 O) O (kN O) (by rfl) (by rfl) (by rfl) (by rfl) O,⟨O,_,R.stZ (gU 4 O) (xU 4 O) O (kN O) (by rfl) (by rfl) (by rfl) (by rfl) O,⟨O,_,R.asg (kI 15 O) O (nU O),tV [(2,_),(3,_),(4,_),(5,_)] [(9,.var _),(7,.var _),(8,.var _),(6,.var _),(4,.var _),(3,.var _),(2,.var _),(1,.var _)] 66 O O O ?_⟩⟩⟩⟩)
               refine W.wkB 3 (d' := .sl none 32 (([] : List Hs).map hashD)) (bx' := [(9,.var _),(7,.var _),(8,.var _),(6,.var _),(4,.var _),(3,.var _),(2,.var _),(1,.var _)]) O wk_hs0 O ?_
               refine W.wkB 4 (d' := .sl none 1 (([] : List Nat).map natD)) (bx' := [(9,.var _),(7,.var _),(8,.var _),(6,.var _),(4,.var _),(3,.var _),(2,.var _),(1,.var _)]) O wk_is0 O ?_
               refine W.ret ?_
               exact Ends.many (.inr rfl) (.cons rfl rfl rfl (show LdT _ 38 32 true from inferInstance) (.cons rfl rfl rfl (show LdT _ 22 1 false from inferInstance) (.cons rfl rfl rfl (show LdT _ 40 1 false from inferInstance) (.cons rfl rfl rfl trivial .nil)))) (by rw [chk_4 hn1 hn2 (by omega) hc19 hX (by rintro ⟨_,_,h⟩; omega)]; rfl) (show [(2,false),(3,false),(4,false),(5,true)].Nodup by decide)
             · refine W.skip ?_
               refine W.seq ?_
               refine W.brwB 3 (d' := .sl none 32 (ids1.map hashD)) (bx' := [(9,.var _),(7,.var _),(8,.var _),(6,.var _),(4,.var _),(3,.var _),(2,.var _),(1,.var _)]) O (brw_hs _ _ _) O ?_
               refine W.brwB 4 (d' := .sl none 1 (at1.map natD)) (bx' := [(9,.var _),(7,.var _),(8,.var _),(6,.var _),(4,.var _),(3,.var _),(2,.var _),(1,.var _)]) O (brw_nt _ _ _) O ?_
               refine W.drawE (m := 5) (an := [0,0,0,1,11,31,63]) (its := [.y 63 _,.y 64 _,.y 65 _,⟨69,.dead,true⟩,⟨70,.dead,true⟩]) (ks := [(3,69),(4,70)]) (kk := []) (efs := [(3,[(2,.var _)]),(4,[(3,.var _)])]) (live := [2,3,4,65]) (env' := [(2,_),(3,_),(4,_),(65,_)]) (nd := 40) (bx1 := [(3,.var _),(2,.var _),(9,.var _),(7,.var _),(8,.var _),(6,.var _),(4,.var _),(1,.var _)]) hP (by decide) O ⟨⟨78,O⟩,nU O,O,O,O,O⟩ (                    ⟨⟨O,nU O,O,fun _ τ hb ht hτ => R.ldP (hτ 2 _ O) (hb 2 _ O) O O O O ht⟩,⟨⟨O,nU O,O,fun _ τ hb ht hτ => R.ldP (hτ 3 _ O) (hb 3 _ O) O O O O ht⟩,⟨⟨O,nU O,O,fun _ τ hb ht hτ => R.ldP (hτ 4 _ O) (hb 4 _ O) O O O O ht⟩,⟨⟨O,O,O,(SpE.st (p := 2) (id := 2) O O O (fun τ hτ => (evt (hτ 63 _ O))) (by rfl) (by rfl) (by rfl) (by rfl) O)⟩,⟨⟨O,O,O,(SpE.st (p := 3) (id := 3) O O O (fun τ hτ => (evt (hτ 64 _ O))) (by rfl) (by rfl) (by rfl) (by rfl) O)⟩,trivial⟩⟩⟩⟩⟩) O O O (n' := 66) O (⟨O,_,R.stZ (gU 4 O) (xU 4 O) O (gV 65 O) (by rfl) (by rfl) (by rfl) (by rfl) O,⟨O,_,R.asg (kI 0 O) O (nU O),⟨[2,3,4,5],[(2,_),(3,_),(4,_),(5,_)],[(3,.var _),(2,.var _),(9,.var _),(7,.var _),(8,.var _),(6,.var _),(4,.var _),(1,.var _)],66,O,O,O, ?_⟩⟩⟩)
               refine W.ret ?_
               exact Ends.many (.inr O) (.cons O O O (show LdT _ 38 32 true from inferInstance) (.cons O O O (show LdT _ 22 1 false from inferInstance) (.cons O O O (show LdT _ 40 1 false from inferInstance) (.cons O O O trivial .nil)))) (by rw [chk_5 hn1 hn2 (by omega) hc19 hX hx hf1 (by omega)]; rfl) (show [(2,false),(3,false),(4,false),(5,true)].Nodup by decide)
           · refine W.l0 12 [.y 50 _,.y 51 _,.y 52 _,.y 53 _,.y 54 _,.y 55 _,.y 56 _,.y 57 _,.x 58,.x 59,.x 60,.y 61 _] [] [] [(2,_),(3,_),(4,_),(61,_)] [(9,.var _),(7,.var _),(8,.var _),(6,.var _),(4,.var _),(3,.var _),(2,.var _),(1,.var _)] 66 ⟨mU 10 O O,aU fun _ _ H K => R.un (eU K 50 O) O H,mU 51 O O,aW O O (gF (by rw [hx]; rfl) O) (lU 7 O O O O O O O),aW O O (gF (by rw [hx]; rfl) O) fun _ _ H K => R.lenE (SC.sl (K 53 _ O)) (List.length_map _) H,aW O O (gF (by rw [hx]; rfl) O) fun _ _ H K => R.gtrN (fl1.length) (0) (eU K 54 O) (kI 0 O) H,aU fun _ _ H K => R.pickF (eU K 52 O) (by rw [hx]; rfl) (eU K 55 O) O H,mU 56 O O,aF O O (gT (decide_eq_true (by omega)) O),aF O O (gT (decide_eq_true (by omega)) O),aF O O (gT (decide_eq_true (by omega)) O),aU fun _ _ H K => R.pickT (eU K 57 O) (decide_eq_true (by omega)) (kB true O) O H,trivial⟩ O O O O (tU O ?_)
             refine W.condT O (O) ?_
             refine W.seq ?_
             refine W.brwB 3 (d' := .sl none 32 (ids1.map hashD)) (bx' := [(9,.var _),(7,.var _),(8,.var _),(6,.var _),(4,.var _),(3,.var _),(2,.var _),(1,.var _)]) O (brw_hs _ _ _) O ?_
             refine W.brwB 4 (d' := .sl none 1 (at1.map natD)) (bx' := [(9,.var _),(7,.var _),(8,.var _),(6,.var _),(4,.var _),(3,.var _),(2,.var _),(1,.var _)]) O (brw_nt _ _ _) O ?_
             refine W.l0 5 [.y 62 _] [] [] [(2,_),(3,_),(4,_),(62,_)] [(9,.var _),(7,.var _),(8,.var _),(6,.var _),(4,.var _),(3,.var _),(2,.var _),(1,.var _)] 66 ⟨aU fun _ _ H _ => R.bldAZ O H,trivial⟩ O O O O (⟨O,_,R.stZ (gU 2 O) (xU 2 O) O (gV 62 O) (by rfl) (by rfl) (by rfl) (by rfl) O,⟨O,_,R.stZ (gU 3 O) (xU 3 O) O (kN O) (by rfl) (by rfl) (by rfl) (by rfl) O,⟨O,_,R.stZ (gU 4 O) (xU 4 O) O (kN O) (by rfl) (by rfl) (by rfl) (by rfl) O,⟨O,_,R.asg (kI 15 O) O (nU O),tV [(2,_),(3,_),(4,_),(5,_)] [(9,.var _),(7,.var _),(8,.var _),(6,.var _),(4,.var _),(3,.var _),(2,.var _),(1,.var _)] 66 O O O ?_⟩⟩⟩⟩)
             refine W.wkB 3 (d' := .sl none 32 (([] : List Hs).map hashD)) (bx' := [(9,.var _),(7,.var _),(8,.var _),(6,.var _),(4,.var _),(3,.var _),(2,.var _),(1,.var _)]) O wk_hs0 O ?_
             refine W.wkB 4 (d' := .sl none 1 (([] : List Nat).map natD)) (bx' := [(9,.var _),(7,.var _),(8,.var _),(6,.var _),(4,.var _),(3,.var _),(2,.var _),(1,.var _)]) O wk_is0 O ?_
             refine W.ret ?_
             exact Ends.many (.inr rfl) (.cons rfl rfl rfl (show LdT _ 38 32 true from inferInstance) (.cons rfl rfl rfl (show LdT _ 22 1 false from inferInstance) (.cons rfl rfl rfl (show LdT _ 40 1 false from inferInstance) (.cons rfl rfl rfl trivial .nil)))) (by rw [chk_4 hn1 hn2 (by omega) hc19 hX (by rintro ⟨_,h,_⟩; omega)]; rfl) (show [(2,false),(3,false),(4,false),(5,true)].Nodup by decide)
         · refine W.l0 12 [.y 50 _,.y 51 _,.y 52 _,.x 53,.x 54,.x 55,.y 56 _,.y 57 _,.x 58,.x 59,.x 60,.y 61 _] [] [] [(2,_),(3,_),(4,_),(61,_)] [(9,.var _),(7,.var _),(8,.var _),(6,.var _),(4,.var _),(3,.var _),(2,.var _),(1,.var _)] 66 ⟨mU 10 O O,aU fun _ _ H K => R.un (eU K 50 O) O H,mU 51 O O,aF O O (gT (by rw [bfalse hx]; rfl) O),aF O O (gT (by rw [bfalse hx]; rfl) O),aF O O (gT (by rw [bfalse hx]; rfl) O),aU fun _ _ H K => R.pickT (eU K 52 O) (by rw [bfalse hx]; rfl) (kB true O) O H,mU 56 O O,aF O O (gT (O) O),aF O O (gT (O) O),aF O O (gT (O) O),aU fun _ _ H K => R.pickT (eU K 57 O) (O) (kB true O) O H,trivial⟩ O O O O (tU O ?_)
           refine W.condT O (O) ?_
           refine W.seq ?_
           refine W.brwB 3 (d' := .sl none 32 (ids1.map hashD)) (bx' := [(9,.var _),(7,.var _),(8,.var _),(6,.var _),(4,.var _),(3,.var _),(2,.var _),(1,.var _)]) O (brw_hs _ _ _) O ?_
           refine W.brwB 4 (d' := .sl none 1 (at1.map natD)) (bx' := [(9,.var _),(7,.var _),(8,.var _),(6,.var _),(4,.var _),(3,.var _),(2,.var _),(1,.var _)]) O (brw_nt _ _ _) O ?_
           refine W.l0 5 [.y 62 _] [] [] [(2,_),(3,_),(4,_),(62,_)] [(9,.var _),(7,.var _),(8,.var _),(6,.var _),(4,.var _),(3,.var _),(2,.var _),(1,.var _)] 66 ⟨aU fun _ _ H _ => R.bldAZ O H,trivial⟩ O O O O (⟨O,_,R.stZ (gU 2 O) (xU 2 O) O (gV 62 O) (by rfl) (by rfl) (by rfl) (by rfl) O,⟨O,_,R.stZ (gU 3 O) (xU 3 O) O (kN O) (by rfl) (by rfl) (by rfl) (by rfl) O,⟨O,_,R.stZ (gU 4 O) (xU 4 O) O (kN O) (by rfl) (by rfl) (by rfl) (by rfl) O,⟨O,_,R.asg (kI 15 O) O (nU O),tV [(2,_),(3,_),(4,_),(5,_)] [(9,.var _),(7,.var _),(8,.var _),(6,.var _),(4,.var _),(3,.var _),(2,.var _),(1,.var _)] 66 O O O ?_⟩⟩⟩⟩)
           refine W.wkB 3 (d' := .sl none 32 (([] : List Hs).map hashD)) (bx' := [(9,.var _),(7,.var _),(8,.var _),(6,.var _),(4,.var _),(3,.var _),(2,.var _),(1,.var _)]) O wk_hs0 O ?_
           refine W.wkB 4 (d' := .sl none 1 (([] : List Nat).map natD)) (bx' := [(9,.var _),(7,.var _),(8,.var _),(6,.var _),(4,.var _),(3,.var _),(2,.var _),(1,.var _)]) O wk_is0 O ?_
           refine W.ret ?_
           exact Ends.many (.inr rfl) (.cons rfl rfl rfl (show LdT _ 38 32 true from inferInstance) (.cons rfl rfl rfl (show LdT _ 22 1 false from inferInstance) (.cons rfl rfl rfl (show LdT _ 40 1 false from inferInstance) (.cons rfl rfl rfl trivial .nil)))) (by rw [chk_4 hn1 hn2 (by omega) hc19 hX (by rintro ⟨h,_,_⟩; exact hx h)]; rfl) (show [(2,false),(3,false),(4,false),(5,true)].Nodup by decide)

end Go.Sx

namespace Go.Sx

variable {P : Program} {C : Ctx} {σ σ' σ1 σ2 : Sg} {a : Act} {w w' : World} {ρ ρ2 : Nat → Nat} {Fe Fe' Fb Fb2 : Nat → List Nat}

def FnT (P : Program) (gl : List (Nat × D)) (f : FuncId) (d0 : D) (ds : List D) (r : D) : Prop :=
 ∀ (w : World) (G : Nat → Prop) (v0 : Value) (F0 : List Nat) (vs : List Value),
  (∀ g d,(g,d) ∈ gl → G g ∧ ∃ cs e fz,w.heap[g]? = some (.cells cs e fz) ∧ Rc w (fun x => x) (fun _ => False) (fun _ => False) false d cs.toList []) →
  (∀ b,G b → b < w.heap.size) → F0.Nodup → (∀ b ∈ F0,¬ G b) → VR w (fun x => x) G (fun _ => False) d0 v0 F0 →
  vs.length = ds.length → (∀ k (h : k < ds.length),VR w (fun x => x) G (fun _ => False) ds[k] (vs.getD k undef) []) →
  Calls P f (v0 :: vs).toArray w (fun e w' => ∃ v F,e = .returned v ∧ ExtO (fun b => b ∈ F0) w w' ∧ F.Nodup ∧ (∀ b ∈ F,b ∈ F0 ∨ w.heap.size ≤ b) ∧
   RV w' (fun x => x) (fun b => (G b ∨ w.heap.size ≤ b ∨ b ∈ F0) ∧ b ∉ F) (fun _ => False) r v F)

theorem FnT.of {gl : List (Nat × D)} {f : FuncId} {fn : Func} {c : Code} {d0 : D} {ds : List D} {r : D} {n : Nat} (hf : P.funcs[f]? = some fn) (hb : fn.body = some c) (hnn : fn.ntmps = n)
 (hd : (d0 :: ds).all (fun d => !d.isRef) = true) (hn : (d0 :: ds).length ≤ n)
 (h : ∀ C : Ctx,C.gl = gl → (∀ id b,C.pin id = some b → memN [] id = true) → W P C c (Ends fn.results.toList P r) ⟨n,ini 0 (d0 :: ds),[]⟩) : FnT P gl f d0 ds r := by
 subst hnn
 intro w G v0 F0 vs hgl hGlt hF0 hFG hv0 hl hv
 refine calls_of_wp hf hb ?_
 let C : Ctx := ⟨w,fun b => b < w.heap.size ∧ b ∉ F0,fun b => G b ∨ w.heap.size ≤ b ∨ b ∈ F0,gl,none,fun _ => none,[]⟩
 let Fe0 : Nat → List Nat := fun t => if t = 0 then F0 else []
 have hget : ∀ t d,(⟨fn.ntmps,ini 0 (d0 :: ds),[]⟩ : Sg).get t = some d → ∃ h : t < (d0 :: ds).length,(d0 :: ds)[t] = d := by
  intro t d hd
  simp only [Sg.get,lk_ini,Nat.zero_le,if_true,Nat.sub_zero] at hd
  obtain ⟨h,e⟩ := List.getElem?_eq_some_iff.1 hd
  exact ⟨h,e⟩
 have hFlt : ∀ b ∈ F0,b < w.heap.size := hv0.lt
 have hown : ∀ b,own Fe0 (fun _ => []) b → b ∈ F0 := by
  rintro b (⟨t,h⟩ | ⟨_,h⟩)
  · by_cases ht : t = 0
    · simpa [Fe0,ht] using h
    · simp [Fe0,ht] at h
  · cases h
 have hG2 : ∀ b,G b → gd C Fe0 (fun _ => []) b := fun b hb => ⟨.inl hb,fun ho => hFG b (hown b ho) hb⟩
 have hbox : ∀ id,(⟨fn.ntmps,ini 0 (d0 :: ds),[]⟩ : Sg).box id = none := fun id => rfl
 have st : StW C ⟨fn.ntmps,ini 0 (d0 :: ds),[]⟩ { tmps := (v0 :: vs).toArray ++ Array.replicate (fn.ntmps - (v0 :: vs).toArray.size) undef,defers := [] } w (fun x => x) Fe0 (fun _ => []) := by
  refine ⟨?_,rfl,(fun _ _ hp => by cases hp), ?_,fun t ht => ?_, ?_,fun _ _ => rfl,fun t => ?_,fun _ => List.nodup_nil,fun t t' hne b hb hb' => ?_,(fun _ _ _ _ h => by cases h),(fun _ _ _ _ h => by cases h),fun b hb hk => hk.2 (hown b hb), ?_,rfl,rfl,rfl,Nat.le_refl _, ?_,fun b hb => .inr (.inl hb),fun b hb => .inr (.inr (hown b hb))⟩
  · simp at hn; simp [hl]; omega
  · intro t d hd'
    obtain ⟨ht,rfl⟩ := hget t d hd'
    have hr : (d0 :: ds)[t].isRef = false := by
     have := List.all_eq_true.1 hd (d0 :: ds)[t] (List.getElem_mem ht)
     simpa using this
    have htv : t < (v0 :: vs).length := by simp only [List.length_cons] at ht ⊢; omega
    refine (SR_plain hr).2 ⟨(v0 :: vs).getD t undef, ?_, ?_⟩
    · rw [Array.getElem?_append_left (by simpa using htv)]
      simp only [List.getElem?_toArray,List.getD_eq_getElem?_getD,List.getElem?_eq_getElem htv,Option.getD_some]
    · cases t with
      | zero => exact hv0.mono (fun _ _ _ => rfl) (fun b hb _ => hG2 b hb) (fun id hid => hid.elim)
      | succ t => exact (hv t (by simpa using ht)).mono (fun _ _ _ => rfl) (fun b hb _ => hG2 b hb) (fun id hid => hid.elim)
  · by_cases h0 : t = 0
    · subst h0
      simp [Sg.get,lk_ini] at ht
    · simp [Fe0,h0]
  · intro id d hd'; rw [hbox] at hd'; cases hd'
  · show (if t = 0 then F0 else []).Nodup
    split
    · exact hF0
    · exact List.nodup_nil
  · by_cases h0 : t = 0
    · have h1 : t' ≠ 0 := fun h => hne (h0.trans h.symm)
      simp [Fe0,h1] at hb'
    · simp [Fe0,h0] at hb
  · intro b hb; exact ⟨rfl,hb.1⟩
  · intro g d hg
    obtain ⟨h1,cs,e,fz,h2,h3⟩ := hgl g d hg
    exact ⟨⟨(Array.getElem?_eq_some_iff.1 h2).1,fun hm => hFG g hm h1⟩,.inl h1,cs,e,fz,h2,h3⟩
 refine Go.Code.wp_mono ?_ (wpIn_wide.1 (h C rfl (fun _ _ hp => by cases hp) _ w ⟨_,_,_,st⟩))
 rintro e a' w' ⟨σ',⟨ρ,Fe,Fb,st'⟩,he,hend⟩
 have hext : ExtO (fun b => b ∈ F0) w w' := ⟨st'.os,st'.tape,st'.output,st'.grown,fun b hb hn => (st'.kept b ⟨hb,hn⟩).1⟩
 have hnew : ∀ b,own Fe Fb b → b ∈ F0 ∨ w.heap.size ≤ b := fun b hb => by
  by_cases hm : b ∈ F0
  · exact .inl hm
  · exact .inr (Nat.le_of_not_lt fun hl => st'.new b hb ⟨hl,hm⟩)
 have key : ∃ v,(results fn a'.tmps).run P w' = .ok v w' ∧ ∃ F,F.Nodup ∧ (∀ b ∈ F,b ∈ F0 ∨ w.heap.size ≤ b) ∧ RV w' (fun x => x) (fun b => (G b ∨ w.heap.size ≤ b ∨ b ∈ F0) ∧ b ∉ F) (fun _ => False) r v F := by
  obtain ⟨v,h1,F,h2,h3,h4⟩ := Ends.out st' ⟨he,hend⟩
  exact ⟨v,h1,F,h2,fun b hb => hnew b (h3 b hb),h4.mono (fun _ _ _ => rfl) (fun b hb _ => ⟨hb.1,hb.2⟩) (fun id hid => hid.elim)⟩
 obtain ⟨v,h1,F,h2,h3,h4⟩ := key
 rcases he with rfl | rfl
 · exact ⟨st'.defs,v,h1,v,F,rfl,hext,h2,h3,h4⟩
 · exact ⟨st'.defs,v,h1,v,F,rfl,hext,h2,h3,h4⟩

theorem R.callT {f : FuncId} [CaT P f] {s t : Nat} {args : List Operand} {tys : Array TypeId} {rt : TypeId} {pos : String} {aft : Array Edge} {g : Option (Nat × Bool)} {gl : List (Nat × D)} {d0 : D} {ds : List D} {r : D}
 (hC : C.gl = gl) (hF : FnT P gl f d0 ds r) (hs : σ.get s = some d0) (hr0 : d0.isRef = false) (hn0 : d0.np = true) (hb : EvP C.gl σ args ds) (ht : t < σ.n) (hst : s ≠ t) :
 OpS P C ⟨some t,.call { callee := .value (.func f),args := (.tmp s :: args).toArray,argTypes := tys },rt,pos,aft,g⟩ σ ((σ.kill s).set t r) := by
 subst hC
 intro a w ⟨ρ,Fe,Fb,st⟩ K Q hK
 refine wpIn_of_run (run_call a w) (by simp) ?_
 rw [Oper.uponIn_enter]
 obtain ⟨v0,hv0,hvr⟩ := (SR_plain hr0).1 (st.env _ _ hs)
 have he0 : a.eval (.tmp s) = v0 := eval_tmp hv0
 have hlt := st.lt
 have hc := hF w (fun b => gd C Fe Fb b ∧ b < w.heap.size) v0 (Fe s) (args.map a.eval) (fun g d hg => by
  obtain ⟨h1,cs,e,fz,h2,h3⟩ := gl_ok st g d hg
  exact ⟨⟨h1,(Array.getElem?_eq_some_iff.1 h2).1⟩,cs,e,fz,h2,h3⟩) (fun b hb => hb.2) (st.nodE s) (fun b hb hg => hg.1.2 (.inl ⟨s,hb⟩))
  ((hvr.noL (ρ' := fun x => x) (L' := fun _ => False) hn0).mono (fun _ _ _ => rfl) (fun b hb hl => ⟨hb,hl⟩) (fun id hid => hid.elim)) (by simp [hb.len]) (fun k hk => by
   have hk' : k < args.length := by rw [hb.len]; exact hk
   obtain ⟨h1,h2,h3⟩ := hb.ok k hk' hk
   obtain ⟨F,hv,_⟩ := ev_ok st h1 (pur_ref h2)
   have := hv.pur h2
   subst this
   have e : (args.map a.eval).getD k undef = a.eval args[k] := by simp [List.getD_eq_getElem?_getD,hk']
   rw [e]
   exact (hv.noL (ρ' := fun x => x) (L' := fun _ => False) h3).mono (fun _ _ _ => rfl) (fun b hb hl => ⟨hb,hl⟩) (fun id hid => hid.elim))
 simp only [List.map_toArray,List.map_cons,he0]
 refine ⟨(fun h => by cases h),(callsIn_fx (Calls.mono hc ?_))⟩
 rintro e w' ⟨v,F,rfl,hext,hnd,hsrc,hv⟩
 have hput : (a.put (some t) v).tmps[t]? = some v := by rw [put_get a t v t (by rw [st.size]; exact ht)]; simp
 refine hK _ _ ⟨ρ,upd (upd Fe s []) t F,Fb,st.take ht hst hs hext.os hext.tape hext.output hext.size (fun b hl hn => hext.block b hl hn) hnd hsrc (RV.slot ?_ hput)⟩
 refine hv.mono (fun _ _ _ => rfl) (fun b hb hl => ?_) (fun id hid => hid.elim)
 obtain ⟨h1,h2⟩ := hb
 refine ⟨?_, ?_⟩
 · rcases h1 with h | h | h
   · exact h.1.1
   · exact st.okN b h
   · exact st.okO b (.inl ⟨s,h⟩)
 · rintro (⟨u,hu⟩ | ho)
   · by_cases hut : u = t
     · subst hut; simp at hu; exact h2 hu
     · rw [upd_other hut] at hu
       by_cases hus : u = s
       · subst hus; simp at hu
       · rw [upd_other hus] at hu
         rcases h1 with h | h | h
         · exact h.1.2 (.inl ⟨u,hu⟩)
         · have := hlt b (.inl ⟨u,hu⟩); omega
         · exact st.dEE u s hus b hu h
   · obtain ⟨id,ho⟩ := ho
     rcases h1 with h | h | h
     · exact h.1.2 (.inr ⟨id,ho⟩)
     · have := hlt b (.inr ⟨id,ho⟩); omega
     · exact st.dEB s id b h ho
end Go.Sx

namespace Go.Sx

variable {P : Program} {C : Ctx} {σ σ' : Sg} {a : Act} {w w' : World} {ρ : Nat → Nat} {Fe Fb : Nat → List Nat}

theorem R.sap {x : Operand} {t e n z : Nat} {l : List D} {ty rt : TypeId} {pos : String} {aft : Array Edge} {g : Option (Nat × Bool)} [hT : ArT P ty n e]
 (hx : ev C.gl σ x = some (.sl none z l)) (hl : l.length = n) (hn : 0 < n) (ht : t < σ.n) :
 OpS P C ⟨some t,.sliceToArrayPointer ty x,rt,pos,aft,g⟩ σ (σ.set t (.rp (.arr n z l))) := by
 refine OpS.value fun a w ⟨ρ,Fe,Fb,st⟩ => ?_
 obtain ⟨F,hv,_⟩ := ev_ok st hx rfl
 have hF := hv.pur rfl
 subst hF
 simp only [VR,D.isAgg,Bool.false_eq_true,if_false] at hv
 generalize hex : a.eval x = vx at hv
 cases hv with
 | slN => simp at hl; omega
 | slE => simp at hl; omega
 | slI b off cs e' fz cap _ _ hb hG hc hs hr =>
  refine ⟨.pointer (some ⟨b,off,none⟩),w, ?_,st.put ht rfl ?_⟩
  · unfold execOp
    simp [Instr.arrayAt,run_underlying hT.u,hex,hl]
  · simp only [VR,D.isAgg,Bool.false_eq_true,if_false]
    refine .rp _ b off cs e' fz hb hG (by rw [sz_arr,← hl]; exact hs) ?_
    rw [sz_arr,← hl]
    refine .arr _ z l _ rfl (by have hcs : cs.toList.length = cs.size := by { simp }; simp only [List.length_take,List.length_drop,hcs]; omega) (fun i hi => ?_)
    have h6 : i * z + z ≤ l.length * z := by
     have := Nat.mul_le_mul_right z (show i + 1 ≤ l.length by omega)
     rw [Nat.add_mul] at this; omega
    rw [sub_sub _ _ _ _ _ h6]
    exact hr i hi

theorem R.boxO {s t ty rt : TypeId} {d : D} {pos : String} {aft : Array Edge} {g : Option (Nat × Bool)} (hx : σ.get s = some d) (hr : d.isRef = false) (hnp : d.np = true) (hid : σ.box t = none) (ht : t < σ.n) (hst : s ≠ t) :
 OpS P C ⟨some t,.box ty (.tmp s),rt,pos,aft,g⟩ σ ((((σ.newB t (.var (D.dds d.sz))).set t (.ptr t 0 [])).kill s).putB t (.var d)) := by
 refine OpS.value fun a w ⟨ρ,Fe,Fb,st⟩ => ?_
 obtain ⟨v,hv,hvr⟩ := (SR_plain hr).1 (st.env _ _ hx)
 have hdead : d ≠ .dead := by rintro rfl; simp [D.isRef] at hr
 have hc := hvr.cells hdead
 have hst1 := St.newVar (t := t) (e := ty) (cs := v.cells) st hid ht (d := D.dds d.sz) hc.dds
 refine ⟨.pointer (some ⟨w.heap.size,0,none⟩),w.alloc (.cells v.cells ty), ?_, ?_⟩
 · unfold execOp
   simp [Instr.box,newVar,newRow,newObj,Sem.run,eval_tmp hv]
 obtain ⟨ρ1,Fe1,Fb1,st1⟩ := hst1
 have hs1 : ((σ.newB t (.var (D.dds d.sz))).set t (.ptr t 0 [])).get s = some d := by
  rw [get_set,if_neg hst,get_newB,hx,Option.map_some]
  congr 1
  cases d <;> first | rfl | simp [D.isRef] at hr
 have ht1 : ((σ.newB t (.var (D.dds d.sz))).set t (.ptr t 0 [])).get t = some (.ptr t 0 []) := by rw [get_set,if_pos rfl]
 obtain ⟨v1,hv1,hvr1⟩ := (SR_plain hr).1 (st1.env _ _ hs1)
 obtain ⟨vt,hvt,hvrt⟩ := (SR_plain rfl).1 (st1.env _ _ ht1)
 have hsz : t < a.tmps.size := by rw [st.size]; exact ht
 have e1 : v1 = v := by
  rw [put_get a t _ s hsz,if_neg hst,hv] at hv1
  exact (Option.some.inj hv1).symm
 have e2 : vt = .pointer (some ⟨w.heap.size,0,none⟩) := by
  rw [put_get a t _ t hsz,if_pos rfl] at hvt
  exact (Option.some.inj hvt).symm
 subst e1; subst e2
 have e3 : ρ1 t = w.heap.size := by
  simp only [VR,D.isAgg,Bool.false_eq_true,if_false] at hvrt
  generalize Fe1 t = F at hvrt
  generalize hz : w.heap.size = z at hvrt
  cases hvrt
  rfl
 have hbt : ((σ.newB t (.var (D.dds d.sz))).set t (.ptr t 0 [])).box t = some (.var (D.dds d.sz)) := by rw [box_set,box_newB,if_pos rfl]
 obtain ⟨cs1,e1',F1,hb1,_,hF1⟩ := st1.bx _ _ hbt
 have hFn := st1.nodB t
 rw [hF1] at hFn
 have hnew := heap_alloc_new w (.cells v1.cells ty)
 have hnots : ∀ b ∈ Fe1 s,b ≠ ρ1 t := fun b hb e => st1.dEB s t b hb (by rw [hF1,e]; simp)
 refine ⟨ρ1,upd Fe1 s [],_,st1.putB (Fe' := upd Fe1 s []) (σ1 := ((σ.newB t (.var (D.dds d.sz))).set t (.ptr t 0 [])).kill s) (F' := ρ1 t :: Fe1 s) hbt rfl rfl ?_ ?_ ?_ rfl rfl rfl rfl (fun _ _ => rfl) ?_ (by simp) ?_ ?_⟩
 · intro u x hd
   rw [get_kill] at hd
   by_cases hus : u = s
   · subst hus; simp at hd; exact .inr ⟨hd.symm,by simp,_,hv1⟩
   · simp only [hus,if_false] at hd; exact .inl ⟨hd,upd_other hus⟩
 · intro u hu
   rw [get_kill] at hu
   by_cases hus : u = s
   · simp [hus] at hu
   · simp only [hus,if_false] at hu; rw [upd_other hus]; exact st1.envN u hu
 · intro u
   by_cases hus : u = s
   · subst hus; exact .inr (by simp)
   · exact .inl (upd_other hus)
 · exact List.nodup_cons.2 ⟨fun hm => hnots _ hm rfl,st1.nodE s⟩
 · intro b hbm
   rcases List.mem_cons.1 hbm with rfl | hm
   · exact .inl (by rw [hF1]; simp)
   · exact .inr ⟨s,hm,by simp⟩
 · refine ⟨v1.cells,ty,Fe1 s,by rw [e3]; exact hnew,(hvr1.cells hdead).mono (fun _ _ _ => rfl) (fun b hb _ => ⟨hb.1,fun ho => hb.2 ?_⟩) (fun i hi => ⟨hi,rfl⟩),rfl⟩
   rcases ho with ⟨u,hu⟩ | ⟨i,hi⟩
   · by_cases hus : u = s
     · subst hus; simp at hu
     · rw [upd_other hus] at hu; exact .inl ⟨u,hu⟩
   · by_cases hid' : i = t
     · subst hid'
       rw [upd_same] at hi
       rcases List.mem_cons.1 hi with rfl | hm
       · exact .inr ⟨i,by rw [hF1]; simp⟩
       · exact .inl ⟨s,hm⟩
     · rw [upd_other hid'] at hi; exact .inr ⟨i,hi⟩

theorem FnT.wk {gl : List (Nat × D)} {f : FuncId} {d d0 : D} {ds : List D} {r : D} (hw : Wk d d0) (hF : FnT P gl f d0 ds r) : FnT P gl f d ds r :=
 fun w G v0 F0 vs h1 h2 h3 h4 h5 => hF w G v0 F0 vs h1 h2 h3 h4 (h5.wk hw)

theorem R.idxI {x : Operand} {t e z b : Nat} {l : List D} {d : D} {ix : Operand} {n : Int} {ty rt : TypeId} {pos : String} {aft : Array Edge} {g : Option (Nat × Bool)} [hT : SlT P ty e] [hE : ElT P e z b] (k : Nat)
 (h : ev C.gl σ x = some (.sl none z l)) (hi : evo C.gl σ (some ix) 0 = some n) (hk : n = (k : Int)) (h1 : l[k]? = some d) (hz : d.sz = z) (ht : t < σ.n) :
 OpS P C ⟨some t,.indexAddr ty x ix,rt,pos,aft,g⟩ σ (σ.set t (.rp d)) := by
 subst hk
 refine OpS.value fun a w ⟨ρ,Fe,Fb,st⟩ => ?_
 obtain ⟨F,hv,_⟩ := ev_ok st h rfl
 have hF := hv.pur rfl
 subst hF
 simp only [VR,D.isAgg,Bool.false_eq_true,if_false] at hv
 generalize hex : a.eval x = v at hv
 obtain ⟨kk,he⟩ := int_ok st hi
 obtain ⟨hkl,rfl⟩ := List.getElem?_eq_some_iff.1 h1
 cases hv with
 | slN => simp at hkl
 | slE => simp at hkl
 | slI b' off cs e' fz cap _ _ hb hG hc hs hr =>
  have hkz : k * z + z ≤ l.length * z := by
   have := Nat.mul_le_mul_right z (show k + 1 ≤ l.length by omega)
   rw [Nat.add_mul] at this; omega
  refine ⟨.pointer (some ⟨b',off + k * z,none⟩),w, ?_,st.put ht rfl ?_⟩
  · unfold execOp
    simp [Instr.indexAt,Instr.sureAddr,asIntOf,run_underlying hT.u,hex,he,hkl,ElT.size (P := P) (e := e),add_lit]
  · simp only [VR,D.isAgg,Bool.false_eq_true,if_false]
    refine .rp _ b' (off + k * z) cs e' fz hb hG (by rw [hz]; omega) ?_
    rw [hz]
    exact hr k hkl

theorem Fn.wkA {gl : List (Nat × D)} {f : FuncId} {ds ds' : List D} {r : D} (hw : WkL ds ds') (hF : Fn P gl f ds' r) : Fn P gl f ds r := by
 intro w G vs h1 h2 h3
 have hl := hw.len
 refine hF w G vs h1 (by omega) (fun k hk => ?_)
 have hk' : k < ds.length := by omega
 exact (h3 k hk').wk (hw.get k hk' hk)
end Go.Sx

namespace Go.Sx
open Go.Proofs
theorem sclone_ok (b : List UInt8) (hb0 : b.length ≤ 1000000000) : Fn Tryd.prog gl 43 [.sl none 1 (b.map D.u8)] (.sl (some 5) 1 (b.map D.u8)) := by
 refine Fn.of (n := 8) Tryd.func43 rfl rfl rfl (nU rfl) fun C hC hD => ?_
 refine W.seq ?_
 refine W.l0 1 [.y 2 _] [] [] [(0,_)] [] 8 ⟨aU fun _ _ H _ => R.asg (kN O) O H,trivial⟩ O O O O (tU O ?_)
 refine W.seq ?_
 refine W.seq ?_
 refine W.region (WL.cons O (R.mov (gV 0 O) O (nU O)) (WL.nilq (SC.sl (gU 3 O)) (nU O) (fun b__ hb__ => WL.nil ?_)))
 show W _ _ _ _ _
 refine W.dropS (live := [0,4]) (env' := [(0,_),(4,_)]) (bx' := []) (n' := 8) O O O ?_
 refine W.cond O (fun hc4 => ?_) (fun hc4 => ?_)
 · refine W.seq ?_
   refine W.l0 1 [.y 2 _] [] [] [(2,_)] [] 8 ⟨aU fun _ _ H _ => R.asg (kN O) O H,trivial⟩ O O O O (tU O ?_)
   refine W.asOwn (s := 2) 5 1 O ?_
   refine W.ret ?_
   exact Ends.one' (.inr rfl) rfl (by obtain rfl := nil_of hb__ hc4; rfl) rfl rfl trivial
 · refine W.skip ?_
   refine W.seq ?_
   refine W.l0 4 [.y 5 _,.y 6 _,.y 7 _,.y 2 _] [(2,5),(3,7)] [(2,5),(3,7)] [(2,_)] [] 8 ⟨aU fun _ _ H _ => R.bslE .nil trivial O H (by decide),mU 0 O O,aU fun _ _ H K => R.appE (Or.inl O) (K 5 _ O) (SrcO.sc (SC.sl (K 6 _ O)) (pur_map (fun _ => rfl))) (List.nil_append _) bU H (by decide) (by decide),aU fun _ _ H K => R.asgO (K 7 _ O) O H (by decide),trivial⟩ O O O O (tU O ?_)
   refine W.ret ?_
   exact Ends.one' (.inr O) O (O) O O trivial

theorem oright_ok (n : Nat) : Fn Tryd.prog gl 44 [.int ((n : Nat) : Int)] (.bool (szB n)) := by
 refine Fn.of (n := 9) Tryd.func44 rfl rfl rfl (nU rfl) fun C hC hD => ?_
 refine W.seq ?_
 refine W.l0 1 [.y 2 _] [] [] [(0,_)] [] 9 ⟨aU fun _ _ H _ => R.asg (kB false O) O H,trivial⟩ O O O O (tU O ?_)
 refine W.seq ?_
 refine W.seq ?_
 refine W.l0 1 [.y 3 _] [] [] [(3,_)] [] 9 ⟨mU 0 O O,trivial⟩ O O O O (tU O ?_)
 refine W.block ?_
 refine W.seq ?_
 refine W.seq ?_
 refine W.l0 2 [.y 5 _,.y 4 _] [] [] [(3,_),(4,_)] [] 9 ⟨aU fun _ _ H K => R.eqlN (n) (1) (eU K 3 O) (kI 1 O) H,aU fun _ _ H K => R.asg (eU K 5 O) O H,trivial⟩ O O O O (tU O ?_)
 refine W.condD O (fun hc4 => ?_) (fun hc4 => ?_)
 · refine W.skip ?_
   refine W.condD O (fun hc4 => ?_) (fun hc4 => ?_)
   · refine W.seq ?_
     refine W.l0 1 [.y 2 _] [] [] [(2,_)] [] 9 ⟨aU fun _ _ H _ => R.asg (kB true O) O H,trivial⟩ O O O O (tU O ?_)
     refine W.ret ?_
     exact Ends.one' (.inr O) O (by first | (exfalso; omega) | (simp [szB, *]; done) | (simp [szB]; omega)) O O trivial
   · refine W.skip ?_
     refine W.seq ?_
     refine W.l0 1 [.y 2 _] [] [] [(2,_)] [] 9 ⟨aU fun _ _ H _ => R.asg (kB false O) O H,trivial⟩ O O O O (tU O ?_)
     refine W.ret ?_
     exact Ends.one' (.inr O) O (by first | (exfalso; omega) | (simp [szB, *]; done) | (simp [szB]; omega)) O O trivial
 · refine W.seq ?_
   refine W.l0 2 [.y 6 _,.y 4 _] [] [] [(3,_),(4,_)] [] 9 ⟨aU fun _ _ H K => R.eqlN (n) (2) (eU K 3 O) (kI 2 O) H,aU fun _ _ H K => R.asg (eU K 6 O) O H,trivial⟩ O O O O (tU O ?_)
   refine W.condD O (fun hc4 => ?_) (fun hc4 => ?_)
   · refine W.skip ?_
     refine W.condD O (fun hc4 => ?_) (fun hc4 => ?_)
     · refine W.seq ?_
       refine W.l0 1 [.y 2 _] [] [] [(2,_)] [] 9 ⟨aU fun _ _ H _ => R.asg (kB true O) O H,trivial⟩ O O O O (tU O ?_)
       refine W.ret ?_
       exact Ends.one' (.inr O) O (by first | (exfalso; omega) | (simp [szB, *]; done) | (simp [szB]; omega)) O O trivial
     · refine W.skip ?_
       refine W.seq ?_
       refine W.l0 1 [.y 2 _] [] [] [(2,_)] [] 9 ⟨aU fun _ _ H _ => R.asg (kB false O) O H,trivial⟩ O O O O (tU O ?_)
       refine W.ret ?_
       exact Ends.one' (.inr O) O (by first | (exfalso; omega) | (simp [szB, *]; done) | (simp [szB]; omega)) O O trivial
   · refine W.seq ?_
     refine W.l0 2 [.y 7 _,.y 4 _] [] [] [(3,_),(4,_)] [] 9 ⟨aU fun _ _ H K => R.eqlN (n) (4) (eU K 3 O) (kI 4 O) H,aU fun _ _ H K => R.asg (eU K 7 O) O H,trivial⟩ O O O O (tU O ?_)
     refine W.condD O (fun hc4 => ?_) (fun hc4 => ?_)
     · refine W.skip ?_
       refine W.condD O (fun hc4 => ?_) (fun hc4 => ?_)
       · refine W.seq ?_
         refine W.l0 1 [.y 2 _] [] [] [(2,_)] [] 9 ⟨aU fun _ _ H _ => R.asg (kB true O) O H,trivial⟩ O O O O (tU O ?_)
         refine W.ret ?_
         exact Ends.one' (.inr O) O (by first | (exfalso; omega) | (simp [szB, *]; done) | (simp [szB]; omega)) O O trivial
       · refine W.skip ?_
         refine W.seq ?_
         refine W.l0 1 [.y 2 _] [] [] [(2,_)] [] 9 ⟨aU fun _ _ H _ => R.asg (kB false O) O H,trivial⟩ O O O O (tU O ?_)
         refine W.ret ?_
         exact Ends.one' (.inr O) O (by first | (exfalso; omega) | (simp [szB, *]; done) | (simp [szB]; omega)) O O trivial
     · refine W.l0 2 [.y 8 _,.y 4 _] [] [] [(4,_)] [] 9 ⟨aU fun _ _ H K => R.eqlN (n) (8) (eU K 3 O) (kI 8 O) H,aU fun _ _ H K => R.asg (eU K 8 O) O H,trivial⟩ O O O O (tU O ?_)
       refine W.condD O (fun hc4 => ?_) (fun hc4 => ?_)
       · refine W.seq ?_
         refine W.l0 1 [.y 2 _] [] [] [(2,_)] [] 9 ⟨aU fun _ _ H _ => R.asg (kB true O) O H,trivial⟩ O O O O (tU O ?_)
         refine W.ret ?_
         exact Ends.one' (.inr O) O (by first | (exfalso; omega) | (simp [szB, *]; done) | (simp [szB]; omega)) O O trivial
       · refine W.skip ?_
         refine W.seq ?_
         refine W.l0 1 [.y 2 _] [] [] [(2,_)] [] 9 ⟨aU fun _ _ H _ => R.asg (kB false O) O H,trivial⟩ O O O O (tU O ?_)
         refine W.ret ?_
         exact Ends.one' (.inr O) O (by first | (exfalso; omega) | (simp [szB, *]; done) | (simp [szB]; omega)) O O trivial

theorem size_ok : Fn Tryd.prog gl 45 [.int ((2 : Nat) : Int)] (.bool true) := by
 refine Fn.of (n := 17) Tryd.func45 rfl rfl rfl (nU rfl) fun C hC hD => ?_
 refine W.seq ?_
 refine W.l0 1 [.y 2 _] [] [] [(0,_)] [] 17 ⟨aU fun _ _ H _ => R.asg (kB false O) O H,trivial⟩ O O O O (tU O ?_)
 refine W.seq ?_
 refine W.l0 15 [.y 3 _,.y 4 _,.y 5 _,.y 6 _,.y 7 _,.y 8 _,.y 9 _,.x 10,.x 11,.y 12 _,.y 13 _,.x 14,.x 15,.y 16 _,.y 2 _] [] [] [(2,_)] [] 17 ⟨mU 0 O O,aU fun _ _ H K => R.eqlN (2) (1) (eU K 3 O) (kI 1 O) H,mU 4 O O,aW O O (gF (by decide) O) fun _ _ H K => R.mov (eU K 0 O) O H,aW O O (gF (by decide) O) fun _ _ H K => R.eqlN (2) (2) (eU K 6 O) (kI 2 O) H,aU fun _ _ H K => R.pickF (eU K 5 O) (by decide) (eU K 7 O) O H,mU 8 O O,aF O O (gT (by decide) O),aF O O (gT (by decide) O),aU fun _ _ H K => R.pickT (eU K 9 O) (by decide) (kB true O) O H,mU 12 O O,aF O O (gT (O) O),aF O O (gT (O) O),aU fun _ _ H K => R.pickT (eU K 13 O) (O) (kB true O) O H,aU fun _ _ H K => R.asg (eU K 16 O) O H,trivial⟩ O O O O (tU O ?_)
 refine W.ret ?_
 exact Ends.one' (.inr O) O (O) O O trivial

theorem oput_ok (b : List UInt8) (n : UInt64) (hb0 : b.length ≤ 1000000) : Fn Tryd.prog gl 32 [.sl none 1 (b.map D.u8),.u64 n,.int ((2 : Nat) : Int)] (.sl (some 5) 1 ((b ++ leB n 2).map D.u8)) := by
 refine Fn.of (n := 26) Tryd.func32 rfl rfl rfl (nU rfl) fun C hC hD => ?_
 refine W.seq ?_
 refine W.l0 1 [.y 6 _] [] [] [(0,_),(1,_),(2,_)] [] 26 ⟨aU fun _ _ H _ => R.asg (kN O) O H,trivial⟩ O O O O (tU O ?_)
 refine W.seq ?_
 refine W.l0 3 [.y 8 _,.y 9 _,.y 7 _] [(2,9)] [(2,9)] [(1,_),(2,_),(7,_)] [] 26 ⟨mU 0 O O,aU fun _ _ H K => R.callG hC (sclone_ok b (by omega)) (Bors.cons (Bor.pur (eU K 8 O) O O) Bors.nil) (FrsR.one (.sl _ _ _ (frs_map fun _ => .u8 _))) H,aU fun _ _ H K => R.asgO (K 9 _ O) O H (by decide),trivial⟩ O O O O (tU O ?_)
 refine W.seq ?_
 refine W.seq ?_
 refine W.l0 3 [.y 10 _,.y 11 _,.y 12 _] [] [] [(1,_),(2,_),(7,_),(12,_)] [] 26 ⟨mU 2 O O,aU fun _ _ H K => R.callG hC (oright_ok 2) (Bors.cons (Bor.pur (eU K 10 O) O O) Bors.nil) (FrsR.one (.bool _)) H,aU fun _ _ H K => R.un (eU K 11 O) O H,trivial⟩ O O O O (tU O ?_)
 refine W.condF O (by decide) ?_
 refine W.skip ?_
 refine W.seq ?_
 refine W.seq ?_
 refine W.l0 2 [.y 14 _,.y 15 _] [] [] [(1,_),(7,_),(14,_),(15,_)] [] 26 ⟨mU 2 O O,aU fun _ _ H _ => R.mov (kI 0 O) O H,trivial⟩ O O O O (tU O ?_)
 refine W.block ?_
 refine W.loop (α := {q__ : Nat // q__ ≤ 2}) (fun q__ => ⟨26,[(1,.u64 (shr8 n q__.1)),(7,.sl (some 5) 1 ((b ++ leB n q__.1).map D.u8)),(14,.int ((2 : Nat) : Int)),(15,.int ((q__.1 : Nat) : Int))],[]⟩) (fun q__ => 2 - q__.1) ⟨(0),bU⟩ (by simp [leB]; rfl) ?_
 rintro ⟨k,hk⟩
 show W _ _ _ _ ⟨26,[(1,.u64 (shr8 n k)),(7,.sl (some 5) 1 ((b ++ leB n k).map D.u8)),(14,.int ((2 : Nat) : Int)),(15,.int ((k : Nat) : Int))],[]⟩
 have hll := leB_len n k
 refine W.seq ?_
 refine W.l0 1 [.y 16 _] [] [] [(1,_),(7,_),(14,_),(15,_),(16,_)] [] 26 ⟨aU fun _ _ H K => R.lssN (k) (2) (eU K 15 O) (eU K 14 O) H,trivial⟩ O O O O (tU O ?_)
 refine W.seq ?_
 refine W.condD O (fun hc16 => ?_) (fun hc16 => ?_)
 · refine W.skip ?_
   refine W.seq ?_
   refine W.block ?_
   refine W.l0 9 [.y 17 _,.y 18 _,.y 19 _,.y 20 _,.y 21 _,.y 22 _,.y 23 _,.y 7 _,.y 1 _] [(4,7),(7,21),(7,17)] [(4,7),(7,21)] [(1,_),(7,_),(14,_),(15,_)] [] 26 ⟨aU fun _ _ H K => R.al (K 7 _ O) H (by decide),mU 1 O O,aU fun _ _ H K => R.conv (eU K 18 O) O H,aU fun _ _ H K => R.bslE (z := 1) (.cons (eU K 19 O) .nil) ⟨⟨O,O,O⟩,trivial⟩ O H (by decide),aU fun _ _ H K => R.appE (Or.inr (K 17 _ O)) (K 7 _ O) (SrcO.sc (SC.sl (K 20 _ O)) (pur_lit O)) (app_one) bU H (by decide) (by decide),mU 1 O O,aU fun _ _ H K => R.bin (eU K 22 O) (show ev _ _ (.const (.int .u64 8)) = some (.u64 8) from O) O bV H,aU fun _ _ H K => R.asgO (K 21 _ O) O H (by decide),aU fun _ _ H K => R.asg (eU K 23 O) O H,trivial⟩ O O O O (tU O ?_)
   refine W.l0 2 [.y 24 _,.y 15 _] [] [] [(1,_),(7,_),(14,_),(15,_)] [] 26 ⟨aU fun _ _ H K => R.addN (k) (1) (eU K 15 O) (kI 1 O) bU H,mU 24 O O,trivial⟩ O O O O (tU O ?_)
   exact ⟨⟨(k + 1),bU⟩,(by simp only [leB,← List.append_assoc]; rfl),(by simp only []; omega)⟩
 · obtain rfl : k = 2 := by omega
   refine W.exit ?_
   refine W.seq ?_
   refine W.l0 2 [.y 25 _,.y 6 _] [(0,7),(1,25)] [(0,7),(1,25)] [(6,_)] [] 26 ⟨aU fun _ _ H K => R.movO (K 7 _ O) O H (by decide),aU fun _ _ H K => R.asgO (K 25 _ O) O H (by decide),trivial⟩ O O O O (tU O ?_)
   refine W.ret ?_
   exact Ends.one' (.inr O) O (O) O O trivial

theorem low_ok (n : UInt64) : Fn Tryd.prog gl 46 [.u64 n,.int ((2 : Nat) : Int)] (.sl (some 5) 1 ((lowB n 2).map D.u8)) := by
 refine Fn.of (n := 21) Tryd.func46 rfl rfl rfl (nU rfl) fun C hC hD => ?_
 refine W.seq ?_
 refine W.l0 1 [.y 4 _] [] [] [(0,_),(1,_)] [] 21 ⟨aU fun _ _ H _ => R.asg (kN O) O H,trivial⟩ O O O O (tU O ?_)
 refine W.seq ?_
 refine W.l0 1 [.y 5 _] [] [] [(0,_),(1,_),(5,_)] [] 21 ⟨aU fun _ _ H _ => R.asg (kN O) O H,trivial⟩ O O O O (tU O ?_)
 refine W.seq ?_
 refine W.seq ?_
 refine W.l0 1 [.y 6 _] [] [] [(0,_),(1,_),(5,_),(6,_)] [] 21 ⟨aU fun _ _ H _ => R.asg (kI 0 O) O H,trivial⟩ O O O O (tU O ?_)
 refine W.block ?_
 refine W.asOwn (s := 5) 5 1 O ?_
 refine W.loop (α := {q__ : Nat // q__ ≤ 2}) (fun q__ => ⟨21,[(0,.u64 (div8 n q__.1)),(1,.int ((2 : Nat) : Int)),(5,.sl (some 5) 1 ((lowB n q__.1).map D.u8)),(6,.int ((q__.1 : Nat) : Int))],[]⟩) (fun q__ => 2 - q__.1) ⟨(0),bU⟩ O ?_
 rintro ⟨k,hk⟩
 show W _ _ _ _ ⟨21,[(0,.u64 (div8 n k)),(1,.int ((2 : Nat) : Int)),(5,.sl (some 5) 1 ((lowB n k).map D.u8)),(6,.int ((k : Nat) : Int))],[]⟩
 have hll : (lowB n k).length = k := by rw [lowB_eq,leB_len]
 refine W.seq ?_
 refine W.seq ?_
 refine W.l0 3 [.y 7 _,.y 8 _,.y 9 _] [] [] [(0,_),(1,_),(5,_),(6,_),(9,_)] [] 21 ⟨mU 6 O O,mU 1 O O,aU fun _ _ H K => R.lssN (k) (2) (eU K 7 O) (eU K 8 O) H,trivial⟩ O O O O (tU O ?_)
 refine W.condD O (fun hc9 => ?_) (fun hc9 => ?_)
 · refine W.skip ?_
   refine W.seq ?_
   refine W.block ?_
   refine W.seq ?_
   refine W.l0 7 [.y 12 _,.y 13 _,.y 14 _,.y 15 _,.y 16 _,.y 17 _,.y 5 _] [(5,5),(6,17),(6,12)] [(5,5),(6,17)] [(0,_),(1,_),(5,_),(6,_)] [] 21 ⟨aU fun _ _ H K => R.al (K 5 _ O) H (by decide),mU 0 O O,aU fun _ _ H K => R.bin (eU K 13 O) (show ev _ _ (.const (.int .u64 256)) = some (.u64 256) from O) O (by decide) H,aU fun _ _ H K => R.conv (eU K 14 O) O H,aU fun _ _ H K => R.bslE (z := 1) (.cons (eU K 15 O) .nil) ⟨⟨O,O,O⟩,trivial⟩ O H (by decide),aU fun _ _ H K => R.appE (Or.inr (K 12 _ O)) (K 5 _ O) (SrcO.sc (SC.sl (K 16 _ O)) (pur_lit O)) (app_one) bU H (by decide) (by decide),aU fun _ _ H K => R.asgO (K 17 _ O) O H (by decide),trivial⟩ O O O O (tU O ?_)
   refine W.l0 3 [.y 18 _,.y 19 _,.y 0 _] [] [] [(0,_),(1,_),(5,_),(6,_)] [] 21 ⟨mU 0 O O,aU fun _ _ H K => R.bin (eU K 18 O) (show ev _ _ (.const (.int .u64 256)) = some (.u64 256) from O) O (by decide) H,aU fun _ _ H K => R.asg (eU K 19 O) O H,trivial⟩ O O O O (tU O ?_)
   refine W.l0 3 [.y 10 _,.y 11 _,.y 6 _] [] [] [(0,_),(1,_),(5,_),(6,_)] [] 21 ⟨mU 6 O O,aU fun _ _ H K => R.addN (k) (1) (eU K 10 O) (kI 1 O) bU H,aU fun _ _ H K => R.asg (eU K 11 O) O H,trivial⟩ O O O O (tU O ?_)
   exact ⟨⟨(k + 1),bU⟩,rfl,(by simp only []; omega)⟩
 · obtain rfl : k = 2 := by omega
   refine W.exit ?_
   refine W.seq ?_
   refine W.l0 2 [.y 20 _,.y 4 _] [(0,5),(1,20)] [(0,5),(1,20)] [(4,_)] [] 21 ⟨aU fun _ _ H K => R.movO (K 5 _ O) O H (by decide),aU fun _ _ H K => R.asgO (K 20 _ O) O H (by decide),trivial⟩ O O O O (tU O ?_)
   refine W.ret ?_
   exact Ends.one' (.inr O) O (O) O O trivial

theorem rput4_ok (b : List UInt8) (n : UInt64) (hb0 : b.length ≤ 1000000) : Fn Tryd.prog gl 34 [.sl none 1 (b.map D.u8),.u64 n,.int ((2 : Nat) : Int)] (.sl (some 5) 1 ((b ++ lowB n 2).map D.u8)) := by
 refine Fn.of (n := 20) Tryd.func34 rfl rfl rfl (nU rfl) fun C hC hD => ?_
 refine W.seq ?_
 refine W.l0 1 [.y 6 _] [] [] [(0,_),(1,_),(2,_)] [] 20 ⟨aU fun _ _ H _ => R.asg (kN O) O H,trivial⟩ O O O O (tU O ?_)
 refine W.seq ?_
 refine W.l0 4 [.y 8 _,.y 9 _,.y 10 _,.y 7 _] [(2,8),(3,10)] [(2,8),(3,10)] [(1,_),(2,_),(7,_)] [] 20 ⟨aU fun _ _ H _ => R.bslE .nil trivial O H (by decide),mU 0 O O,aU fun _ _ H K => R.appE (Or.inl O) (K 8 _ O) (SrcO.sc (SC.sl (K 9 _ O)) (pur_map (fun _ => rfl))) (List.nil_append _) bU H (by decide) (by decide),aU fun _ _ H K => R.asgO (K 10 _ O) O H (by decide),trivial⟩ O O O O (tU O ?_)
 refine W.seq ?_
 refine W.seq ?_
 refine W.l0 3 [.y 11 _,.y 12 _,.y 13 _] [] [] [(1,_),(2,_),(7,_),(13,_)] [] 20 ⟨mU 2 O O,aU fun _ _ H K => R.callG hC (size_ok) (Bors.cons (Bor.pur (eU K 11 O) O O) Bors.nil) (FrsR.one (.bool _)) H,aU fun _ _ H K => R.un (eU K 12 O) O H,trivial⟩ O O O O (tU O ?_)
 refine W.condF O (O) ?_
 refine W.skip ?_
 refine W.seq ?_
 refine W.l0 6 [.y 15 _,.y 16 _,.y 17 _,.y 18 _,.y 19 _,.y 6 _] [(4,7),(5,19)] [(4,7),(5,19)] [(6,_)] [] 20 ⟨aU fun _ _ H K => R.al (K 7 _ O) H (by decide),mU 1 O O,mU 2 O O,aU fun _ _ H K => R.callG hC (low_ok n) (Bors.cons (Bor.pur (eU K 16 O) O O) (Bors.cons (Bor.pur (eU K 17 O) O O) Bors.nil)) (FrsR.one (.sl _ _ _ (frs_map fun _ => .u8 _))) H,aU fun _ _ H K => R.appE (Or.inr (K 15 _ O)) (K 7 _ O) (SrcO.sc (SC.sl (K 18 _ O)) (pur_map (fun _ => rfl))) (app_map) (by have : (lowB n 2).length = 2 := by { rw [lowB_eq,leB_len] }; simp only [List.length_map]; omega) H (by decide) (by decide),aU fun _ _ H K => R.asgO (K 19 _ O) O H (by decide),trivial⟩ O O O O (tU O ?_)
 refine W.ret ?_
 exact Ends.one' (.inr O) O (O) O O trivial

theorem otake_ok (b : List UInt8) (m : Nat) (hb0 : b.length ≤ 1000000) (hm : m ≤ 1000000) : Fn Tryd.prog gl 35 [.sl none 1 (b.map D.u8),.int ((m : Nat) : Int),.int ((2 : Nat) : Int)] (.tup [.u64 (takS b m).1,.int (((takS b m).2.1 : Nat) : Int),.int (((takS b m).2.2 : Nat) : Int)]) := by
 refine Fn.of (n := 52) Tryd.func35 rfl rfl rfl (nU rfl) fun C hC hD => ?_
 refine W.seq ?_
 refine W.l0 3 [.y 6 _,.y 7 _,.y 8 _] [] [] [(0,_),(1,_),(2,_),(6,_)] [] 52 ⟨aU fun _ _ H _ => R.asg (show ev _ _ (.const (.int .u64 0)) = some (.u64 0) from O) O H,aU fun _ _ H _ => R.asg (kI 0 O) O H,aU fun _ _ H _ => R.asg (kI 0 O) O H,trivial⟩ O O O O (tU O ?_)
 refine W.seq ?_
 refine W.block ?_
 refine W.seq ?_
 refine W.seq ?_
 refine W.l0 4 [.y 12 _,.y 13 _,.y 14 _,.y 11 _] [] [] [(0,_),(1,_),(2,_),(6,_),(11,_)] [] 52 ⟨mU 2 O O,aU fun _ _ H K => R.callG hC (oright_ok 2) (Bors.cons (Bor.pur (eU K 12 O) O O) Bors.nil) (FrsR.one (.bool _)) H,aU fun _ _ H K => R.un (eU K 13 O) O H,aU fun _ _ H K => R.asg (eU K 14 O) O H,trivial⟩ O O O O (tU O ?_)
 refine W.condF O (by decide) ?_
 refine W.seq ?_
 refine W.l0 3 [.y 15 _,.y 16 _,.y 11 _] [] [] [(0,_),(1,_),(2,_),(6,_),(11,_)] [] 52 ⟨mU 1 O O,aU fun _ _ H K => R.lssN (m) (0) (eU K 15 O) (kI 0 O) H,aU fun _ _ H K => R.asg (eU K 16 O) O H,trivial⟩ O O O O (tU O ?_)
 refine W.condF O (decide_eq_false (Nat.not_lt_zero _)) ?_
 refine W.l0 5 [.y 17 _,.y 18 _,.y 19 _,.y 20 _,.y 11 _] [] [] [(0,_),(1,_),(2,_),(6,_),(11,_)] [] 52 ⟨mU 1 O O,mU 0 O O,aU fun _ _ H K => R.lenE (SC.sl (K 18 _ O)) (List.length_map _) H,aU fun _ _ H K => R.gtrN (m) (b.length) (eU K 17 O) (eU K 19 O) H,aU fun _ _ H K => R.asg (eU K 20 O) O H,trivial⟩ O O O O (tU O ?_)
 refine W.condD O (fun hc11 => ?_) (fun hc11 => ?_)
 · refine W.seq ?_
   refine W.l0 3 [.y 6 _,.y 7 _,.y 8 _] [] [] [(6,_),(7,_),(8,_)] [] 52 ⟨aU fun _ _ H _ => R.asg (show ev _ _ (.const (.int .u64 0)) = some (.u64 0) from O) O H,aU fun _ _ H _ => R.asg (kI 0 O) O H,aU fun _ _ H _ => R.asg (kI 1 O) O H,trivial⟩ O O O O (tU O ?_)
   refine W.ret ?_
   exact Ends.many (.inr O) (.cons O O O trivial (.cons O O O trivial (.cons O O O trivial .nil))) (by rw [takS_1 hc11]) (show [(6,true),(7,true),(8,true)].Nodup by decide)
 · refine W.seq ?_
   refine W.l0 7 [.y 22 _,.y 23 _,.y 24 _,.y 25 _,.y 26 _,.y 27 _,.y 21 _] [] [] [(0,_),(1,_),(2,_),(6,_),(21,_)] [] 52 ⟨mU 2 O O,mU 0 O O,aU fun _ _ H K => R.lenE (SC.sl (K 23 _ O)) (List.length_map _) H,mU 1 O O,aU fun _ _ H K => R.subN (b.length) (m) (eU K 24 O) (eU K 25 O) bU bU H,aU fun _ _ H K => R.gtrN (2) ((b.length - m)) (eU K 22 O) (eU K 26 O) H,aU fun _ _ H K => R.asg (eU K 27 O) O H,trivial⟩ O O O O (tU O ?_)
   refine W.condD O (fun hc21 => ?_) (fun hc21 => ?_)
   · refine W.seq ?_
     refine W.l0 3 [.y 6 _,.y 7 _,.y 8 _] [] [] [(6,_),(7,_),(8,_)] [] 52 ⟨aU fun _ _ H _ => R.asg (show ev _ _ (.const (.int .u64 0)) = some (.u64 0) from O) O H,aU fun _ _ H _ => R.asg (kI 0 O) O H,aU fun _ _ H _ => R.asg (kI 5 O) O H,trivial⟩ O O O O (tU O ?_)
     refine W.ret ?_
     exact Ends.many (.inr O) (.cons O O O trivial (.cons O O O trivial (.cons O O O trivial .nil))) (by rw [takS_2 hc11 (by omega : b.length < m + 2)]) (show [(6,true),(7,true),(8,true)].Nodup by decide)
   · refine W.skip ?_
     refine W.seq ?_
     refine W.seq ?_
     refine W.l0 8 [.y 28 _,.y 29 _,.y 30 _,.y 31 _,.y 32 _,.y 33 _,.y 34 _,.y 35 _] [] [] [(1,_),(2,_),(6,_),(33,_),(34,_),(35,_)] [] 52 ⟨mU 0 O O,mU 1 O O,mU 1 O O,mU 2 O O,aU fun _ _ H K => R.addN (m) (2) (eU K 30 O) (eU K 31 O) bU H,aU fun _ _ H K => R.slIN (m) ((m + 2)) (2) (eU K 28 O) (evoI (eU K 29 O)) (evoI (eU K 32 O)) O O bU bU bU (show _ = ((b.drop m).take 2).map D.u8 from by simp) H,aU fun _ _ H K => R.lenE (SC.sl (K 33 _ O)) (List.length_map _) H,aU fun _ _ H _ => R.mov (kI 0 O) O H,trivial⟩ O O O O (tU O ?_)
     refine W.block ?_
     refine W.loop (α := {q__ : Nat // q__ ≤ 2}) (fun q__ => ⟨52,[(1,.int ((m : Nat) : Int)),(2,.int ((2 : Nat) : Int)),(6,.u64 (numJ ((b.drop m).take 2) q__.1)),(33,.sl none 1 (((b.drop m).take 2).map D.u8)),(34,.int ((((b.drop m).take 2).length : Nat) : Int)),(35,.int ((q__.1 : Nat) : Int))],[]⟩) (fun q__ => 2 - q__.1) ⟨(0),bU⟩ O ?_
     rintro ⟨k,hk⟩
     show W _ _ _ _ ⟨52,[(1,.int ((m : Nat) : Int)),(2,.int ((2 : Nat) : Int)),(6,.u64 (numJ ((b.drop m).take 2) k)),(33,.sl none 1 (((b.drop m).take 2).map D.u8)),(34,.int ((((b.drop m).take 2).length : Nat) : Int)),(35,.int ((k : Nat) : Int))],[]⟩
     have hk : k ≤ 2 := hk
     have hl2 : ((b.drop m).take 2).length = 2 := by simp; omega
     refine W.seq ?_
     refine W.l0 1 [.y 36 _] [] [] [(1,_),(2,_),(6,_),(33,_),(34,_),(35,_),(36,_)] [] 52 ⟨aU fun _ _ H K => R.lssN (k) (((b.drop m).take 2).length) (eU K 35 O) (eU K 34 O) H,trivial⟩ O O O O (tU O ?_)
     refine W.seq ?_
     refine W.condD O (fun hc36 => ?_) (fun hc36 => ?_)
     · refine W.skip ?_
       refine W.seq ?_
       refine W.block ?_
       refine W.seq ?_
       refine W.l0 5 [.y 37 _,.y 38 _,.y 39 _,.y 9 _,.y 10 _] [] [] [(1,_),(2,_),(6,_),(9,_),(10,_),(33,_),(34,_),(35,_)] [] 52 ⟨mU 35 O O,aU fun _ _ H K => R.idxN (k) (SC.sl (K 33 _ O)) (evoI (eU K 35 O)) O bU H (by decide),aU fun _ _ H K => R.ldE (K 38 _ O) (SC.sl (K 33 _ O)) (map_get! (l := ((b.drop m).take 2)) bU) O O O O H,aU fun _ _ H K => R.asg (eU K 37 O) O H,aU fun _ _ H K => R.asg (eU K 39 O) O H,trivial⟩ O O O O (tU O ?_)
       refine W.l0 8 [.y 40 _,.y 41 _,.y 42 _,.y 43 _,.y 44 _,.y 45 _,.y 46 _,.y 6 _] [] [] [(1,_),(2,_),(6,_),(33,_),(34,_),(35,_)] [] 52 ⟨mU 6 O O,mU 10 O O,aU fun _ _ H K => R.conv (eU K 41 O) O H,mU 9 O O,aU fun _ _ H K => R.mulN (8) (k) (kI 8 O) (eU K 43 O) bU H,aU fun _ _ H K => R.bin (eU K 42 O) (eU K 44 O) O bV H,aU fun _ _ H K => R.bin (eU K 40 O) (eU K 45 O) O trivial H,aU fun _ _ H K => R.asg (eU K 46 O) O H,trivial⟩ O O O O (tU O ?_)
       refine W.l0 2 [.y 47 _,.y 35 _] [] [] [(1,_),(2,_),(6,_),(33,_),(34,_),(35,_)] [] 52 ⟨aU fun _ _ H K => R.addN (k) (1) (eU K 35 O) (kI 1 O) bU H,mU 47 O O,trivial⟩ O O O O (tU O ?_)
       exact ⟨⟨(k + 1),bU⟩,rfl,(by simp only []; omega)⟩
     · obtain rfl : k = 2 := by omega
       refine W.exit ?_
       refine W.seq ?_
       refine W.l0 7 [.y 48 _,.y 49 _,.y 50 _,.y 51 _,.y 6 _,.y 7 _,.y 8 _] [] [] [(6,_),(7,_),(8,_)] [] 52 ⟨mU 6 O O,mU 1 O O,mU 2 O O,aU fun _ _ H K => R.addN (m) (2) (eU K 49 O) (eU K 50 O) bU H,aU fun _ _ H K => R.asg (eU K 48 O) O H,aU fun _ _ H K => R.asg (eU K 51 O) O H,aU fun _ _ H _ => R.asg (kI 0 O) O H,trivial⟩ O O O O (tU O ?_)
       refine W.ret ?_
       exact Ends.many (.inr O) (.cons O O O trivial (.cons O O O trivial (.cons O O O trivial .nil))) (by rw [takS_3 hc11 (by omega : m + 2 ≤ b.length),← numJ_le2 (by omega : m + 2 ≤ b.length)]) (show [(6,true),(7,true),(8,true)].Nodup by decide)

theorem rtake4_ok (b : List UInt8) (m : Nat) (hb0 : b.length ≤ 1000000) (hm : m ≤ 1000000) : Fn Tryd.prog gl 36 [.sl none 1 (b.map D.u8),.int ((m : Nat) : Int),.int ((2 : Nat) : Int)] (.tup [.u64 (takS b m).1,.int (((takS b m).2.1 : Nat) : Int),.int (((takS b m).2.2 : Nat) : Int)]) := by
 refine Fn.of (n := 50) Tryd.func36 rfl rfl rfl (nU rfl) fun C hC hD => ?_
 refine W.seq ?_
 refine W.l0 3 [.y 6 _,.y 7 _,.y 8 _] [] [] [(0,_),(1,_),(2,_)] [] 50 ⟨aU fun _ _ H _ => R.asg (show ev _ _ (.const (.int .u64 0)) = some (.u64 0) from O) O H,aU fun _ _ H _ => R.asg (kI 0 O) O H,aU fun _ _ H _ => R.asg (kI 0 O) O H,trivial⟩ O O O O (tU O ?_)
 refine W.seq ?_
 refine W.seq ?_
 refine W.l0 13 [.y 11 _,.y 12 _,.y 13 _,.y 14 _,.y 15 _,.y 16 _,.y 17 _,.y 18 _,.y 19 _,.y 20 _,.y 21 _,.y 22 _,.y 23 _] [] [] [(0,_),(1,_),(2,_),(23,_)] [] 50 ⟨mU 2 O O,aU fun _ _ H K => R.callG hC (size_ok) (Bors.cons (Bor.pur (eU K 11 O) O O) Bors.nil) (FrsR.one (.bool _)) H,aU fun _ _ H K => R.un (eU K 12 O) O H,mU 13 O O,aW O O (gF (O) O) fun _ _ H K => R.mov (eU K 1 O) O H,aW O O (gF (O) O) fun _ _ H K => R.lssN (m) (0) (eU K 15 O) (kI 0 O) H,aU fun _ _ H K => R.pickF (eU K 14 O) (O) (eU K 16 O) O H,mU 17 O O,aW O O (gF (decide_eq_false (Nat.not_lt_zero _)) O) fun _ _ H K => R.mov (eU K 1 O) O H,aW O O (gF (decide_eq_false (Nat.not_lt_zero _)) O) fun _ _ H K => R.mov (eU K 0 O) O H,aW O O (gF (decide_eq_false (Nat.not_lt_zero _)) O) fun _ _ H K => R.lenE (SC.sl (K 20 _ O)) (List.length_map _) H,aW O O (gF (decide_eq_false (Nat.not_lt_zero _)) O) fun _ _ H K => R.gtrN (m) (b.length) (eU K 19 O) (eU K 21 O) H,aU fun _ _ H K => R.pickF (eU K 18 O) (decide_eq_false (Nat.not_lt_zero _)) (eU K 22 O) O H,trivial⟩ O O O O (tU O ?_)
 refine W.condD O (fun hc23 => ?_) (fun hc23 => ?_)
 · refine W.seq ?_
   refine W.l0 3 [.y 6 _,.y 7 _,.y 8 _] [] [] [(6,_),(7,_),(8,_)] [] 50 ⟨aU fun _ _ H _ => R.asg (show ev _ _ (.const (.int .u64 0)) = some (.u64 0) from O) O H,aU fun _ _ H _ => R.asg (kI 0 O) O H,aU fun _ _ H _ => R.asg (kI 1 O) O H,trivial⟩ O O O O (tU O ?_)
   refine W.ret ?_
   exact Ends.many (.inr O) (.cons O O O trivial (.cons O O O trivial (.cons O O O trivial .nil))) (by rw [takS_1 hc23]) (show [(6,true),(7,true),(8,true)].Nodup by decide)
 · refine W.skip ?_
   refine W.seq ?_
   refine W.seq ?_
   refine W.l0 6 [.y 24 _,.y 25 _,.y 26 _,.y 27 _,.y 28 _,.y 29 _] [] [] [(0,_),(1,_),(2,_),(29,_)] [] 50 ⟨mU 2 O O,mU 0 O O,aU fun _ _ H K => R.lenE (SC.sl (K 25 _ O)) (List.length_map _) H,mU 1 O O,aU fun _ _ H K => R.subN (b.length) (m) (eU K 26 O) (eU K 27 O) bU bU H,aU fun _ _ H K => R.gtrN (2) ((b.length - m)) (eU K 24 O) (eU K 28 O) H,trivial⟩ O O O O (tU O ?_)
   refine W.condD O (fun hc29 => ?_) (fun hc29 => ?_)
   · refine W.seq ?_
     refine W.l0 3 [.y 6 _,.y 7 _,.y 8 _] [] [] [(6,_),(7,_),(8,_)] [] 50 ⟨aU fun _ _ H _ => R.asg (show ev _ _ (.const (.int .u64 0)) = some (.u64 0) from O) O H,aU fun _ _ H _ => R.asg (kI 0 O) O H,aU fun _ _ H _ => R.asg (kI 5 O) O H,trivial⟩ O O O O (tU O ?_)
     refine W.ret ?_
     exact Ends.many (.inr O) (.cons O O O trivial (.cons O O O trivial (.cons O O O trivial .nil))) (by rw [takS_2 hc23 (by omega : b.length < m + 2)]) (show [(6,true),(7,true),(8,true)].Nodup by decide)
   · refine W.skip ?_
     refine W.seq ?_
     refine W.l0 1 [.y 9 _] [] [] [(0,_),(1,_),(2,_),(9,_)] [] 50 ⟨aU fun _ _ H _ => R.asg (show ev _ _ (.const (.int .u64 0)) = some (.u64 0) from O) O H,trivial⟩ O O O O (tU O ?_)
     refine W.seq ?_
     refine W.seq ?_
     refine W.l0 3 [.y 30 _,.y 31 _,.y 10 _] [] [] [(0,_),(1,_),(2,_),(9,_),(10,_)] [] 50 ⟨mU 2 O O,aU fun _ _ H K => R.binE (d := .int ((1 : Int) - ((0 : Nat) : Int))) (eU K 30 O) (kI 1 O) O trivial (wr_eq (by omega) (by omega) (by omega)) H,aU fun _ _ H K => R.asg (eU K 31 O) O H,trivial⟩ O O O O (tU O ?_)
     refine W.block ?_
     refine W.loop (α := {q__ : Nat // q__ ≤ 2}) (fun q__ => ⟨50,[(0,.sl none 1 (b.map D.u8)),(1,.int ((m : Nat) : Int)),(2,.int ((2 : Nat) : Int)),(9,.u64 (numK b m q__.1)),(10,.int ((1 : Int) - ((q__.1 : Nat) : Int)))],[]⟩) (fun q__ => 2 - q__.1) ⟨(0),bU⟩ O ?_
     rintro ⟨k,hk⟩
     show W _ _ _ _ ⟨50,[(0,.sl none 1 (b.map D.u8)),(1,.int ((m : Nat) : Int)),(2,.int ((2 : Nat) : Int)),(9,.u64 (numK b m k)),(10,.int ((1 : Int) - ((k : Nat) : Int)))],[]⟩
     have hk : k ≤ 2 := hk
     refine W.seq ?_
     refine W.seq ?_
     refine W.l0 2 [.y 32 _,.y 33 _] [] [] [(0,_),(1,_),(2,_),(9,_),(10,_),(33,_)] [] 50 ⟨mU 10 O O,aU fun _ _ H K => R.bin (eU K 32 O) (kI 0 O) O trivial H,trivial⟩ O O O O (tU O ?_)
     refine W.cond O (fun hc33 => ?_) (fun hc33 => ?_)
     · refine W.skip ?_
       refine W.seq ?_
       refine W.block ?_
       have h33 := of_decide_eq_true hc33
       refine W.l0 11 [.y 36 _,.y 37 _,.y 38 _,.y 39 _,.y 40 _,.y 41 _,.y 42 _,.y 43 _,.y 44 _,.y 45 _,.y 9 _] [] [] [(0,_),(1,_),(2,_),(9,_),(10,_)] [] 50 ⟨mU 9 O O,aU fun _ _ H K => R.bin (show ev _ _ (.const (.int .u64 256)) = some (.u64 256) from O) (eU K 36 O) O trivial H,mU 0 O O,mU 1 O O,mU 10 O O,aU fun _ _ H K => R.binE (d := .int (((m + (1 - k)) : Nat) : Int)) (eU K 39 O) (eU K 40 O) O trivial (wr_eq (by omega) (by omega) (by omega)) H,aU fun _ _ H K => R.idxN ((m + (1 - k))) (SC.sl (K 38 _ O)) (evoI (eU K 41 O)) O bU H (by decide),aU fun _ _ H K => R.ldE (K 42 _ O) (SC.sl (K 38 _ O)) (map_get! (l := b) bU) O O O O H,aU fun _ _ H K => R.conv (eU K 43 O) O H,aU fun _ _ H K => R.bin (eU K 37 O) (eU K 44 O) O trivial H,aU fun _ _ H K => R.asg (eU K 45 O) O H,trivial⟩ O O O O (tU O ?_)
       refine W.l0 3 [.y 34 _,.y 35 _,.y 10 _] [] [] [(0,_),(1,_),(2,_),(9,_),(10,_)] [] 50 ⟨mU 10 O O,aU fun _ _ H K => R.binE (d := .int ((1 : Int) - ((k + 1 : Nat) : Int))) (eU K 34 O) (kI 1 O) O trivial (wr_eq (by omega) (by omega) (by omega)) H,aU fun _ _ H K => R.asg (eU K 35 O) O H,trivial⟩ O O O O (tU O ?_)
       exact ⟨⟨(k + 1),by omega⟩,rfl,(by simp only []; omega)⟩
     · have h33 := of_decide_eq_false hc33
       obtain rfl : k = 2 := by omega
       refine W.exit ?_
       refine W.seq ?_
       refine W.l0 7 [.y 46 _,.y 47 _,.y 48 _,.y 49 _,.y 6 _,.y 7 _,.y 8 _] [] [] [(6,_),(7,_),(8,_)] [] 50 ⟨mU 9 O O,mU 1 O O,mU 2 O O,aU fun _ _ H K => R.addN (m) (2) (eU K 47 O) (eU K 48 O) bU H,aU fun _ _ H K => R.asg (eU K 46 O) O H,aU fun _ _ H K => R.asg (eU K 49 O) O H,aU fun _ _ H _ => R.asg (kI 0 O) O H,trivial⟩ O O O O (tU O ?_)
       refine W.ret ?_
       exact Ends.many (.inr O) (.cons O O O trivial (.cons O O O trivial (.cons O O O trivial .nil))) (by rw [takS_3 hc23 (by omega : m + 2 ≤ b.length),← numK_le2]) (show [(6,true),(7,true),(8,true)].Nodup by decide)

end Go.Sx

namespace Go.Sx
open Go.Proofs
def hdI (l : List Nat) : Nat → List UInt8
 | 0 => []
 | k + 1 => hdI l k ++ leB (UInt64.ofInt ((l[k]! : Nat) : Int)) 2
theorem hdI_len (l : List Nat) (k : Nat) : (hdI l k).length = 2 * k := by
 induction k with
 | zero => rfl
 | succ k ih => simp only [hdI,List.length_append,ih,leB_len]; omega
def flatI (hs : List Hs) (k : Nat) : List UInt8 := (hs.take k).flatten
theorem flatI_succ {hs : List Hs} {k : Nat} (h : k < hs.length) : flatI hs (k + 1) = flatI hs k ++ hs[k]! := by
 unfold flatI
 rw [List.take_add_one,List.getElem?_eq_getElem h,getElem!_pos hs k h]
 simp only [List.flatten_append,Option.toList_some,List.flatten_cons,List.flatten_nil,List.append_nil]
theorem flatI_len {hs : List Hs} (hh : allH hs) (k : Nat) (h : k ≤ hs.length) : (flatI hs k).length = 32 * k := by
 induction k with
 | zero => simp [flatI]
 | succ k ih => rw [flatI_succ (by omega),List.length_append,ih (by omega),hh.get (by omega)]; omega
def pkI (fl : List Bool) : Nat → List UInt8
 | 0 => List.replicate ((fl.length + 7) / 8) 0
 | k + 1 => if fl[k]! = true then (pkI fl k).set (k / 8) ((pkI fl k)[k / 8]! ||| shl_u8 1 (k % 8)) else pkI fl k
theorem pkI_len (fl : List Bool) (k : Nat) : (pkI fl k).length = (fl.length + 7) / 8 := by
 induction k with
 | zero => simp [pkI]
 | succ k ih => simp only [pkI]; split <;> simp [ih]
def putB (m : Nat) (hs : List Hs) (fl : List Bool) : List UInt8 := hdI [m,hs.length,fl.length] 3 ++ flatI hs hs.length ++ pkI fl fl.length
def putS (n : Int) (hs : List Hs) (fl : List Bool) : List UInt8 × Nat := if n < 1 ∨ n > 256 ∨ 512 < hs.length ∨ 1024 < fl.length then ([],1) else (putB n.toNat hs fl,0)
section
variable {n : Int} {m : Nat} {hs : List Hs} {fl : List Bool}
theorem put_no (h : n < 1 ∨ n > 256 ∨ 512 < hs.length ∨ 1024 < fl.length) : putS n hs fl = ([],1) := if_pos h
theorem put_ok (h : ¬ ((m : Int) < 1 ∨ (m : Int) > 256 ∨ 512 < hs.length ∨ 1024 < fl.length)) : putS (m : Int) hs fl = (putB m hs fl,0) := by rw [putS,if_neg h]; rfl
end
theorem frs_tak (x : UInt64) (y z : Int) : FrsR (.tup [.u64 x,.int y,.int z]) := .inl ⟨_,rfl,frs_cons (.u64 _) (frs_cons (.int _) (frs_cons (.int _) frs_nil))⟩
def nsI (b : List UInt8) : Nat → List Nat
 | 0 => [0,0,0]
 | k + 1 => (nsI b k).set k (le2 b (2 * k)).toNat
theorem nsI_len (b : List UInt8) (k : Nat) : (nsI b k).length = 3 := by
 induction k with
 | zero => rfl
 | succ k ih => simp [nsI,ih]
theorem le2_lt (b : List UInt8) (k : Nat) : (le2 b k).toNat < 65536 := by
 have h1 := b[k]!.toNat_lt
 have h2 := b[k + 1]!.toNat_lt
 simp only [le2,UInt64.toNat_ofNat']
 omega
def hsI (b : List UInt8) (o : Nat) : Nat → List Hs
 | 0 => []
 | k + 1 => hsI b o k ++ [(b.drop (o + 32 * k)).take 32]
theorem hsI_len (b : List UInt8) (o k : Nat) : (hsI b o k).length = k := by
 induction k with
 | zero => rfl
 | succ k ih => simp [hsI,ih]
theorem hsI_all {b : List UInt8} {o : Nat} : ∀ k,o + 32 * k ≤ b.length → allH (hsI b o k) := by
 intro k
 induction k with
 | zero => intro _ x hx; cases hx
 | succ k ih =>
  intro h x hx
  rcases List.mem_append.1 hx with h1 | h1
  · exact ih (by omega) x h1
  · rw [List.mem_singleton.1 h1,List.length_take,List.length_drop]; omega
def bitS (b : List UInt8) (o i : Nat) : Bool := (shr_u8 b[o + i / 8]! (i % 8) &&& 1) == 1
def flI (b : List UInt8) (o k : Nat) : List Bool := (List.range k).map (bitS b o)
theorem flI_len (b : List UInt8) (o k : Nat) : (flI b o k).length = k := by simp [flI]
theorem flI_succ (b : List UInt8) (o k : Nat) : flI b o (k + 1) = flI b o k ++ [bitS b o k] := by simp [flI,List.range_succ]
def gN (b : List UInt8) : Nat × Nat × Nat := ((le2 b 0).toNat,(le2 b 2).toNat,(le2 b 4).toNat)
def gPart (b : List UInt8) : PartS := ⟨((gN b).1 : Nat),hsI b 6 (gN b).2.1,flI b (6 + 32 * (gN b).2.1) (gN b).2.2⟩
def getOk (b : List UInt8) : Prop := 6 ≤ b.length ∧ 1 ≤ (gN b).1 ∧ (gN b).1 ≤ 256 ∧ (gN b).2.1 ≤ 512 ∧ (gN b).2.2 ≤ 1024 ∧ b.length = 6 + 32 * (gN b).2.1 + ((gN b).2.2 + 7) / 8 ∧ ∀ j,(gN b).2.2 ≤ j → j < 8 * (((gN b).2.2 + 7) / 8) → bitS b (6 + 32 * (gN b).2.1) j = false
open Classical in
noncomputable def getS (b : List UInt8) : PartS × Nat := if getOk b then (gPart b,0) else (zeroP,5)
section
variable {b : List UInt8}
theorem get_no (h : ¬ getOk b) : getS b = (zeroP,5) := if_neg h
theorem get_ok (h : getOk b) : getS b = (gPart b,0) := if_pos h
end
end Go.Sx

namespace Go.Sx
open Go.Proofs
theorem pput_ok (n : Int) (hs : List Hs) (fl : List Bool) (hh : allH hs) : Fn Tryd.prog gl 14 [.agg [.int n,.sl none 32 (hs.map hashD),.sl none 1 (fl.map D.bool)]] (.tup [.sl (some 5) 1 ((putS n hs fl).1.map D.u8),.int (((putS n hs fl).2 : Nat) : Int)]) := by
 refine Fn.of (n := 91) Tryd.func14 rfl rfl rfl (nU rfl) fun C hC hD => ?_
 refine W.seq ?_
 refine W.l0 3 [] [] [] [(0,_)] [] 91 trivial O O O O (⟨O,_,R.box (gV 0 O) O O (nU O),⟨O,_,R.asg (kN O) O (nU O),⟨O,_,R.asg (kI 0 O) O (nU O),tV [(1,_)] [(1,.var _)] 91 O O O ?_⟩⟩⟩)
 refine W.seq ?_
 refine W.seq ?_
 by_cases h1 : n < 1
 · refine W.l0 20 [.y 12 _,.y 13 _,.y 14 _,.y 15 _,.x 16,.x 17,.x 18,.y 19 _,.y 20 _,.x 21,.x 22,.x 23,.x 24,.y 25 _,.y 26 _,.x 27,.x 28,.x 29,.x 30,.y 31 _] [] [] [(1,_),(31,_)] [(1,.var _)] 91 ⟨aU (fU 1 O O),aU (lU 12 O O O O O O O),aU fun _ _ H K => R.bin (eU K 13 O) (kI 1 O) O trivial H,mU 14 O O,aF O O (gT (decide_eq_true h1) O),aF O O (gT (decide_eq_true h1) O),aF O O (gT (decide_eq_true h1) O),aU fun _ _ H K => R.pickT (eU K 15 O) (decide_eq_true h1) (kB true O) O H,mU 19 O O,aF O O (gT (O) O),aF O O (gT (O) O),aF O O (gT (O) O),aF O O (gT (O) O),aU fun _ _ H K => R.pickT (eU K 20 O) (O) (kB true O) O H,mU 25 O O,aF O O (gT (O) O),aF O O (gT (O) O),aF O O (gT (O) O),aF O O (gT (O) O),aU fun _ _ H K => R.pickT (eU K 26 O) (O) (kB true O) O H,trivial⟩ O O O O (tU O ?_)
   refine W.condT O (O) ?_
   refine W.seq ?_
   refine W.l0 2 [.y 2 _,.y 3 _] [] [] [(2,_),(3,_)] [(1,.var _)] 91 ⟨aU fun _ _ H _ => R.asg (kN O) O H,aU fun _ _ H _ => R.asg (kI 1 O) O H,trivial⟩ O O O O (tU O ?_)
   refine W.asOwn (s := 2) 5 1 O ?_
   refine W.ret ?_
   exact Ends.many (.inr O) (.cons O O O trivial (.cons O O O trivial .nil)) (by rw [put_no (.inl h1)]; rfl) (show [(2,true),(3,true)].Nodup by decide)
 · by_cases h2 : n > 256
   · refine W.l0 20 [.y 12 _,.y 13 _,.y 14 _,.y 15 _,.y 16 _,.y 17 _,.y 18 _,.y 19 _,.y 20 _,.x 21,.x 22,.x 23,.x 24,.y 25 _,.y 26 _,.x 27,.x 28,.x 29,.x 30,.y 31 _] [] [] [(1,_),(31,_)] [(1,.var _)] 91 ⟨aU (fU 1 O O),aU (lU 12 O O O O O O O),aU fun _ _ H K => R.bin (eU K 13 O) (kI 1 O) O trivial H,mU 14 O O,aW O O (gF (decide_eq_false h1) O) (fU 1 O O),aW O O (gF (decide_eq_false h1) O) (lU 16 O O O O O O O),aW O O (gF (decide_eq_false h1) O) fun _ _ H K => R.bin (eU K 17 O) (kI 256 O) O trivial H,aU fun _ _ H K => R.pickF (eU K 15 O) (decide_eq_false h1) (eU K 18 O) O H,mU 19 O O,aF O O (gT (decide_eq_true h2) O),aF O O (gT (decide_eq_true h2) O),aF O O (gT (decide_eq_true h2) O),aF O O (gT (decide_eq_true h2) O),aU fun _ _ H K => R.pickT (eU K 20 O) (decide_eq_true h2) (kB true O) O H,mU 25 O O,aF O O (gT (O) O),aF O O (gT (O) O),aF O O (gT (O) O),aF O O (gT (O) O),aU fun _ _ H K => R.pickT (eU K 26 O) (O) (kB true O) O H,trivial⟩ O O O O (tU O ?_)
     refine W.condT O (O) ?_
     refine W.seq ?_
     refine W.l0 2 [.y 2 _,.y 3 _] [] [] [(2,_),(3,_)] [(1,.var _)] 91 ⟨aU fun _ _ H _ => R.asg (kN O) O H,aU fun _ _ H _ => R.asg (kI 1 O) O H,trivial⟩ O O O O (tU O ?_)
     refine W.asOwn (s := 2) 5 1 O ?_
     refine W.ret ?_
     exact Ends.many (.inr O) (.cons O O O trivial (.cons O O O trivial .nil)) (by rw [put_no (.inr (.inl h2))]; rfl) (show [(2,true),(3,true)].Nodup by decide)
   · by_cases h3 : 512 < hs.length
     · refine W.l0 20 [.y 12 _,.y 13 _,.y 14 _,.y 15 _,.y 16 _,.y 17 _,.y 18 _,.y 19 _,.y 20 _,.y 21 _,.y 22 _,.y 23 _,.y 24 _,.y 25 _,.y 26 _,.x 27,.x 28,.x 29,.x 30,.y 31 _] [] [] [(1,_),(31,_)] [(1,.var _)] 91 ⟨aU (fU 1 O O),aU (lU 12 O O O O O O O),aU fun _ _ H K => R.bin (eU K 13 O) (kI 1 O) O trivial H,mU 14 O O,aW O O (gF (decide_eq_false h1) O) (fU 1 O O),aW O O (gF (decide_eq_false h1) O) (lU 16 O O O O O O O),aW O O (gF (decide_eq_false h1) O) fun _ _ H K => R.bin (eU K 17 O) (kI 256 O) O trivial H,aU fun _ _ H K => R.pickF (eU K 15 O) (decide_eq_false h1) (eU K 18 O) O H,mU 19 O O,aW O O (gF (decide_eq_false h2) O) (fU 1 O O),aW O O (gF (decide_eq_false h2) O) (lU 21 O O O O O O O),aW O O (gF (decide_eq_false h2) O) fun _ _ H K => R.lenE (SC.sl (K 22 _ O)) (List.length_map _) H,aW O O (gF (decide_eq_false h2) O) fun _ _ H K => R.gtrN (hs.length) (512) (eU K 23 O) (kI 512 O) H,aU fun _ _ H K => R.pickF (eU K 20 O) (decide_eq_false h2) (eU K 24 O) O H,mU 25 O O,aF O O (gT (decide_eq_true h3) O),aF O O (gT (decide_eq_true h3) O),aF O O (gT (decide_eq_true h3) O),aF O O (gT (decide_eq_true h3) O),aU fun _ _ H K => R.pickT (eU K 26 O) (decide_eq_true h3) (kB true O) O H,trivial⟩ O O O O (tU O ?_)
       refine W.condT O (O) ?_
       refine W.seq ?_
       refine W.l0 2 [.y 2 _,.y 3 _] [] [] [(2,_),(3,_)] [(1,.var _)] 91 ⟨aU fun _ _ H _ => R.asg (kN O) O H,aU fun _ _ H _ => R.asg (kI 1 O) O H,trivial⟩ O O O O (tU O ?_)
       refine W.asOwn (s := 2) 5 1 O ?_
       refine W.ret ?_
       exact Ends.many (.inr O) (.cons O O O trivial (.cons O O O trivial .nil)) (by rw [put_no (.inr (.inr (.inl h3)))]; rfl) (show [(2,true),(3,true)].Nodup by decide)
     · refine W.l0 20 [.y 12 _,.y 13 _,.y 14 _,.y 15 _,.y 16 _,.y 17 _,.y 18 _,.y 19 _,.y 20 _,.y 21 _,.y 22 _,.y 23 _,.y 24 _,.y 25 _,.y 26 _,.y 27 _,.y 28 _,.y 29 _,.y 30 _,.y 31 _] [] [] [(1,_),(31,_)] [(1,.var _)] 91 ⟨aU (fU 1 O O),aU (lU 12 O O O O O O O),aU fun _ _ H K => R.bin (eU K 13 O) (kI 1 O) O trivial H,mU 14 O O,aW O O (gF (decide_eq_false h1) O) (fU 1 O O),aW O O (gF (decide_eq_false h1) O) (lU 16 O O O O O O O),aW O O (gF (decide_eq_false h1) O) fun _ _ H K => R.bin (eU K 17 O) (kI 256 O) O trivial H,aU fun _ _ H K => R.pickF (eU K 15 O) (decide_eq_false h1) (eU K 18 O) O H,mU 19 O O,aW O O (gF (decide_eq_false h2) O) (fU 1 O O),aW O O (gF (decide_eq_false h2) O) (lU 21 O O O O O O O),aW O O (gF (decide_eq_false h2) O) fun _ _ H K => R.lenE (SC.sl (K 22 _ O)) (List.length_map _) H,aW O O (gF (decide_eq_false h2) O) fun _ _ H K => R.gtrN (hs.length) (512) (eU K 23 O) (kI 512 O) H,aU fun _ _ H K => R.pickF (eU K 20 O) (decide_eq_false h2) (eU K 24 O) O H,mU 25 O O,aW O O (gF (decide_eq_false h3) O) (fU 1 O O),aW O O (gF (decide_eq_false h3) O) (lU 27 O O O O O O O),aW O O (gF (decide_eq_false h3) O) fun _ _ H K => R.lenE (SC.sl (K 28 _ O)) (List.length_map _) H,aW O O (gF (decide_eq_false h3) O) fun _ _ H K => R.gtrN (fl.length) (1024) (eU K 29 O) (kI 1024 O) H,aU fun _ _ H K => R.pickF (eU K 26 O) (decide_eq_false h3) (eU K 30 O) O H,trivial⟩ O O O O (tU O ?_)
       refine W.condD O (fun hc31 => ?_) (fun hc31 => ?_)
       · refine W.seq ?_
         refine W.l0 2 [.y 2 _,.y 3 _] [] [] [(2,_),(3,_)] [(1,.var _)] 91 ⟨aU fun _ _ H _ => R.asg (kN O) O H,aU fun _ _ H _ => R.asg (kI 1 O) O H,trivial⟩ O O O O (tU O ?_)
         refine W.asOwn (s := 2) 5 1 O ?_
         refine W.ret ?_
         exact Ends.many (.inr O) (.cons O O O trivial (.cons O O O trivial .nil)) (by rw [put_no (.inr (.inr (.inr hc31)))]; rfl) (show [(2,true),(3,true)].Nodup by decide)
       · refine W.skip ?_
         refine W.seq ?_
         obtain ⟨m,rfl⟩ : ∃ m : Nat,n = ((m : Nat) : Int) := ⟨n.toNat,by omega⟩
         have h4 : ¬ 1024 < fl.length := hc31
         refine W.l0 1 [.y 4 _] [] [] [(1,_),(4,_)] [(1,.var _)] 91 ⟨aU fun _ _ H _ => R.asg (kN O) O H,trivial⟩ O O O O (tU O ?_)
         refine W.seq ?_
         refine W.seq ?_
         refine W.l0 11 [.y 32 _,.y 33 _,.y 34 _,.y 35 _,.y 36 _,.y 37 _,.y 38 _,.y 39 _,.y 40 _,.y 41 _,.y 42 _] [] [] [(1,_),(4,_),(40,_),(41,_),(42,_)] [(1,.var _)] 91 ⟨aU (fU 1 O O),aU (lU 32 O O O O O O O),aU (fU 1 O O),aU (lU 34 O O O O O O O),aU fun _ _ H K => R.lenE (SC.sl (K 35 _ O)) (List.length_map _) H,aU (fU 1 O O),aU (lU 37 O O O O O O O),aU fun _ _ H K => R.lenE (SC.sl (K 38 _ O)) (List.length_map _) H,aU fun _ _ H K => R.bslE (z := 1) (.cons (eU K 33 O) (.cons (eU K 36 O) (.cons (eU K 39 O) .nil))) ⟨⟨O,O,O⟩,⟨O,O,O⟩,⟨O,O,O⟩,trivial⟩ O H (by decide),aU fun _ _ H K => R.lenE (n := 3) (SC.sl (K 40 _ O)) (O) H,aU fun _ _ H _ => R.mov (kI 0 O) O H,trivial⟩ O O O O (tU O ?_)
         refine W.block ?_
         refine W.asOwn (s := 4) 5 1 O ?_
         refine W.loop (α := {q__ : Nat // q__ ≤ 3}) (fun q__ => ⟨91,[(1,.ptr 1 0 []),(4,.sl (some 5) 1 ((hdI [m,hs.length,fl.length] q__.1).map D.u8)),(40,.sl (some 3) 1 ([m,hs.length,fl.length].map natD)),(41,.int ((3 : Nat) : Int)),(42,.int ((q__.1 : Nat) : Int))],[(1,.var (.agg [.int ((m : Nat) : Int),.sl none 32 (hs.map hashD),.sl none 1 (fl.map D.bool)]))]⟩) (fun q__ => 3 - q__.1) ⟨(0),bU⟩ O ?_
         rintro ⟨k,hk⟩
         show W _ _ _ _ ⟨91,[(1,.ptr 1 0 []),(4,.sl (some 5) 1 ((hdI [m,hs.length,fl.length] k).map D.u8)),(40,.sl (some 3) 1 ([m,hs.length,fl.length].map natD)),(41,.int ((3 : Nat) : Int)),(42,.int ((k : Nat) : Int))],[(1,.var (.agg [.int ((m : Nat) : Int),.sl none 32 (hs.map hashD),.sl none 1 (fl.map D.bool)]))]⟩
         have hk : k ≤ 3 := hk
         refine W.seq ?_
         refine W.l0 1 [.y 43 _] [] [] [(1,_),(4,_),(40,_),(41,_),(42,_),(43,_)] [(1,.var _)] 91 ⟨aU fun _ _ H K => R.lssN (k) (3) (eU K 42 O) (eU K 41 O) H,trivial⟩ O O O O (tU O ?_)
         refine W.seq ?_
         refine W.condD O (fun hc43 => ?_) (fun hc43 => ?_)
         · refine W.skip ?_
           refine W.seq ?_
           refine W.block ?_
           refine W.seq ?_
           refine W.l0 3 [.y 44 _,.y 45 _,.y 6 _] [] [] [(1,_),(4,_),(6,_),(40,_),(41,_),(42,_)] [(1,.var _)] 91 ⟨aU fun _ _ H K => R.idxN (k) (SC.sl (K 40 _ O)) (evoI (eU K 42 O)) O bU H (by decide),aU fun _ _ H K => R.ldE (K 44 _ O) (SC.sl (K 40 _ O)) (map_get! (l := [m,hs.length,fl.length]) bU) O O O O H,aU fun _ _ H K => R.asg (eU K 45 O) O H,trivial⟩ O O O O (tU O ?_)
           refine W.l0 5 [.y 46 _,.y 47 _,.y 48 _,.y 49 _,.y 4 _] [(4,49),(4,46)] [(4,49)] [(1,_),(4,_),(40,_),(41,_),(42,_)] [(1,.var _)] 91 ⟨aU fun _ _ H K => R.al (K 4 _ O) H (by decide),mU 6 O O,aU fun _ _ H K => R.convE (d := .u64 (UInt64.ofInt (([m,hs.length,fl.length][k]! : Nat) : Int))) (eU K 47 O) O (O) H,aU fun _ _ H K => R.callG hC (oput_ok (hdI [m,hs.length,fl.length] k) (UInt64.ofInt (([m,hs.length,fl.length][k]! : Nat) : Int)) (by rw [hdI_len]; omega)) (Bors.cons (Bor.sc (SC.al (K 46 _ O) (K 4 _ O)) (brw_map (fun _ => rfl))) (Bors.cons (Bor.pur (eU K 48 O) O O) (Bors.cons (Bor.pur (kI 2 O) O O) Bors.nil))) (FrsR.one (.sl _ _ _ (frs_map fun _ => .u8 _))) H,aU fun _ _ H K => R.asgO (K 49 _ O) O H (by decide),trivial⟩ O O O O (tU O ?_)
           refine W.l0 2 [.y 50 _,.y 42 _] [] [] [(1,_),(4,_),(40,_),(41,_),(42,_)] [(1,.var _)] 91 ⟨aU fun _ _ H K => R.addN (k) (1) (eU K 42 O) (kI 1 O) bU H,mU 50 O O,trivial⟩ O O O O (tU O ?_)
           exact ⟨⟨(k + 1),bU⟩,rfl,(by simp only []; omega)⟩
         · obtain rfl : k = 3 := by omega
           refine W.exit ?_
           refine W.seq ?_
           refine W.seq ?_
           refine W.l0 4 [.y 51 _,.y 52 _,.y 53 _,.y 54 _] [] [] [(1,_),(4,_),(52,_),(53,_),(54,_)] [(1,.var _)] 91 ⟨aU (fU 1 O O),aU (lU 51 O O O O O O O),aU fun _ _ H K => R.lenE (SC.sl (K 52 _ O)) (List.length_map _) H,aU fun _ _ H _ => R.mov (kI 0 O) O H,trivial⟩ O O O O (tU O ?_)
           refine W.block ?_
           refine W.loop (α := {q__ : Nat // q__ ≤ hs.length}) (fun q__ => ⟨91,[(1,.ptr 1 0 []),(4,.sl (some 5) 1 ((hdI [m,hs.length,fl.length] 3 ++ flatI hs q__.1).map D.u8)),(52,.sl none 32 (hs.map hashD)),(53,.int ((hs.length : Nat) : Int)),(54,.int ((q__.1 : Nat) : Int))],[(1,.var (.agg [.int ((m : Nat) : Int),.sl none 32 (hs.map hashD),.sl none 1 (fl.map D.bool)]))]⟩) (fun q__ => hs.length - q__.1) ⟨(0),bU⟩ (by simp [flatI]) ?_
           rintro ⟨k,hk⟩
           show W _ _ _ _ ⟨91,[(1,.ptr 1 0 []),(4,.sl (some 5) 1 ((hdI [m,hs.length,fl.length] 3 ++ flatI hs k).map D.u8)),(52,.sl none 32 (hs.map hashD)),(53,.int ((hs.length : Nat) : Int)),(54,.int ((k : Nat) : Int))],[(1,.var (.agg [.int ((m : Nat) : Int),.sl none 32 (hs.map hashD),.sl none 1 (fl.map D.bool)]))]⟩
           have hk : k ≤ hs.length := hk
           refine W.seq ?_
           refine W.l0 1 [.y 55 _] [] [] [(1,_),(4,_),(52,_),(53,_),(54,_),(55,_)] [(1,.var _)] 91 ⟨aU fun _ _ H K => R.lssN (k) (hs.length) (eU K 54 O) (eU K 53 O) H,trivial⟩ O O O O (tU O ?_)
           refine W.seq ?_
           refine W.condD O (fun hc55 => ?_) (fun hc55 => ?_)
           · refine W.skip ?_
             refine W.seq ?_
             refine W.block ?_
             refine W.seq ?_
             refine W.l0 4 [.y 56 _,.y 57 _] [] [] [(1,_),(4,_),(52,_),(53,_),(54,_),(57,_)] [(1,.var _)] 91 ⟨aU fun _ _ H K => R.idxN (k) (SC.sl (K 52 _ O)) (evoI (eU K 54 O)) O bU H (by decide),aU fun _ _ H K => R.ldE (K 56 _ O) (SC.sl (K 52 _ O)) (map_get! (l := hs) bU) O O O O H,trivial⟩ O O O O (⟨O,_,R.alloc O (nU O),⟨O,_,R.stZ (gU 8 O) (xU 8 O) O (gV 57 O) (by rfl) (by rfl) (by rfl) (by rfl) O,tV [(1,_),(4,_),(8,_),(52,_),(53,_),(54,_)] [(8,.var _),(1,.var _)] 91 O O O ?_⟩⟩)
             refine W.l0 4 [.y 58 _,.y 59 _,.y 60 _,.y 4 _] [(2,4),(3,60),(3,58)] [(2,4),(3,60)] [(1,_),(4,_),(52,_),(53,_),(54,_)] [(8,.var _),(1,.var _)] 91 ⟨aU fun _ _ H K => R.al (K 4 _ O) H (by decide),aU fun _ B H K => R.slAN (0) (32) (32) (K 8 _ O) (B 8 _ O) O O O O O bU bU O H,aU fun _ B H K => R.appE (Or.inr (K 58 _ O)) (K 4 _ O) (SrcO.sc (SC.va (K 59 _ O) (B 8 _ O) O (by decide)) (pur_part (fun _ => rfl))) (show _ = ((hdI [m,hs.length,fl.length] 3 ++ flatI hs (k + 1)).map D.u8) from (by rw [flatI_succ (by omega),← List.append_assoc,part32 _ (hh.get (by omega)),← List.map_append])) (by simp [hdI_len,flatI_len hh k (by omega),hh.get (show k < hs.length by omega)]; omega) H (by decide) (by decide),aU fun _ _ H K => R.asgO (K 60 _ O) O H (by decide),trivial⟩ O O O O (tU O ?_)
             refine W.dropB [1] (bx' := [(1,.var _)]) O O O (pin_sub hD O) ?_
             refine W.l0 2 [.y 61 _,.y 54 _] [] [] [(1,_),(4,_),(52,_),(53,_),(54,_)] [(1,.var _)] 91 ⟨aU fun _ _ H K => R.addN (k) (1) (eU K 54 O) (kI 1 O) bU H,mU 61 O O,trivial⟩ O O O O (tU O ?_)
             exact ⟨⟨(k + 1),bU⟩,rfl,(by simp only []; omega)⟩
           · obtain rfl : k = hs.length := by omega
             refine W.exit ?_
             refine W.seq ?_
             refine W.l0 7 [.y 62 _,.y 63 _,.y 64 _,.y 65 _,.y 66 _,.y 67 _,.y 9 _] [(6,67)] [(6,67)] [(1,_),(4,_),(9,_)] [(1,.var _)] 91 ⟨aU (fU 1 O O),aU (lU 62 O O O O O O O),aU fun _ _ H K => R.lenE (SC.sl (K 63 _ O)) (List.length_map _) H,aU fun _ _ H K => R.addN (fl.length) (7) (eU K 64 O) (kI 7 O) bU H,aU fun _ _ H K => R.quoN ((fl.length + 7)) (8) (eU K 65 O) (kI 8 O) bU bU H,aU fun _ _ H K => R.mk (n := ((fl.length + 7) / 8)) (eU K 66 O) (eU K 66 O) bU (by decide) H,aU fun _ _ H K => R.asgO (K 67 _ O) O H (by decide),trivial⟩ O O O O (tU O ?_)
             refine W.seq ?_
             refine W.seq ?_
             refine W.l0 4 [.y 68 _,.y 69 _,.y 70 _,.y 71 _] [] [] [(4,_),(9,_),(69,_),(70,_),(71,_)] [(1,.var _)] 91 ⟨aU (fU 1 O O),aU (lU 68 O O O O O O O),aU fun _ _ H K => R.lenE (SC.sl (K 69 _ O)) (List.length_map _) H,aU fun _ _ H _ => R.mov (kI 0 O) O H,trivial⟩ O O O O (tU O ?_)
             refine W.block ?_
             refine W.loop (α := {q__ : Nat // q__ ≤ fl.length}) (fun q__ => ⟨91,[(4,.sl (some 5) 1 ((hdI [m,hs.length,fl.length] 3 ++ flatI hs hs.length).map D.u8)),(9,.sl (some 5) 1 ((pkI fl q__.1).map D.u8)),(69,.sl none 1 (fl.map D.bool)),(70,.int ((fl.length : Nat) : Int)),(71,.int ((q__.1 : Nat) : Int))],[(1,.var (.agg [.int ((m : Nat) : Int),.sl none 32 (hs.map hashD),.sl none 1 (fl.map D.bool)]))]⟩) (fun q__ => fl.length - q__.1) ⟨(0),bU⟩ (by simp only [pkI,List.map_replicate]) ?_
             rintro ⟨k,hk⟩
             show W _ _ _ _ ⟨91,[(4,.sl (some 5) 1 ((hdI [m,hs.length,fl.length] 3 ++ flatI hs hs.length).map D.u8)),(9,.sl (some 5) 1 ((pkI fl k).map D.u8)),(69,.sl none 1 (fl.map D.bool)),(70,.int ((fl.length : Nat) : Int)),(71,.int ((k : Nat) : Int))],[(1,.var (.agg [.int ((m : Nat) : Int),.sl none 32 (hs.map hashD),.sl none 1 (fl.map D.bool)]))]⟩
             have hk : k ≤ fl.length := hk
             have hpl := pkI_len fl k
             refine W.seq ?_
             refine W.l0 1 [.y 72 _] [] [] [(4,_),(9,_),(69,_),(70,_),(71,_),(72,_)] [(1,.var _)] 91 ⟨aU fun _ _ H K => R.lssN (k) (fl.length) (eU K 71 O) (eU K 70 O) H,trivial⟩ O O O O (tU O ?_)
             refine W.seq ?_
             refine W.condD O (fun hc72 => ?_) (fun hc72 => ?_)
             · refine W.skip ?_
               refine W.seq ?_
               refine W.block ?_
               refine W.seq ?_
               refine W.l0 5 [.y 73 _,.y 74 _,.y 75 _,.y 10 _,.y 11 _] [] [] [(4,_),(9,_),(10,_),(11,_),(69,_),(70,_),(71,_)] [(1,.var _)] 91 ⟨mU 71 O O,aU fun _ _ H K => R.idxN (k) (SC.sl (K 69 _ O)) (evoI (eU K 71 O)) O bU H (by decide),aU fun _ _ H K => R.ldE (K 74 _ O) (SC.sl (K 69 _ O)) (map_get! (l := fl) bU) O O O O H,aU fun _ _ H K => R.asg (eU K 73 O) O H,aU fun _ _ H K => R.asg (eU K 75 O) O H,trivial⟩ O O O O (tU O ?_)
               refine W.seq ?_
               refine W.l0 1 [.y 76 _] [] [] [(4,_),(9,_),(10,_),(69,_),(70,_),(71,_),(76,_)] [(1,.var _)] 91 ⟨mU 11 O O,trivial⟩ O O O O (tU O ?_)
               refine W.cond O (fun hc76 => ?_) (fun hc76 => ?_)
               · refine W.draw (m := 10) (an := [0,0,2,7,15,0,32,96,255,511,1023]) hP (by decide) O (its := [.y 77 _,.y 78 _,.y 79 _,.y 80 _,.y 81 _,.y 82 _,.y 83 _,.y 84 _,.y 85 _,.y 86 _]) (ks := []) (kk := []) (live := [4,9,69,70,71,77,85,86]) (env' := [(4,_),(9,_),(69,_),(70,_),(71,_),(77,_),(85,_),(86,_)]) (⟨nU O,O,⟨aU fun _ _ H K => R.al (K 9 _ O) H (by decide),mU 10 O O,aU fun _ _ H K => R.quoN (k) (8) (eU K 78 O) (kI 8 O) bU bU H,aU fun _ _ H K => R.idxN ((k / 8)) (SC.al (K 77 _ O) (K 9 _ O)) (evoI (eU K 79 O)) O bU H (by decide),aU fun _ _ H K => R.ldE (K 80 _ O) (SC.al (K 77 _ O) (K 9 _ O)) (map_get! (l := (pkI fl k)) bU) O O O O H,mU 10 O O,aU fun _ _ H K => R.remN (k) (8) (eU K 82 O) (kI 8 O) bU H,aU fun _ _ H K => R.bin (show ev _ _ (.const (.int .u8 1)) = some (.u8 1) from O) (eU K 83 O) O bV H,aU fun _ _ H K => R.bin (eU K 81 O) (eU K 84 O) O trivial H,aU fun _ _ H K => R.idxN ((k / 8)) (SC.al (K 77 _ O) (K 9 _ O)) (evoI (eU K 79 O)) O bU H (by decide),trivial⟩,O,O,O⟩) O (bx' := [(1,.var _)]) O (n' := 91) O (⟨O,_,R.stEY (gU 86 O) (Or.inr (gU 77 O)) (gU 9 O) (map_get! (l := (pkI fl k)) bU) O (gV 85 O) (by rfl) (by rfl) (by rfl) (by rfl) upd_nil set_map,tV [(4,_),(9,_),(69,_),(70,_),(71,_)] [(1,.var _)] 91 O O O ?_⟩)
                 refine W.l0 2 [.y 87 _,.y 71 _] [] [] [(4,_),(9,_),(69,_),(70,_),(71,_)] [(1,.var _)] 91 ⟨aU fun _ _ H K => R.addN (k) (1) (eU K 71 O) (kI 1 O) bU H,mU 87 O O,trivial⟩ O O O O (tU O ?_)
                 exact ⟨⟨(k + 1),bU⟩,(by simp only [pkI,hc76,if_true,if_false,Bool.false_eq_true] <;> rfl),(by simp only []; omega)⟩
               · refine W.skip ?_
                 refine W.l0 2 [.y 87 _,.y 71 _] [] [] [(4,_),(9,_),(69,_),(70,_),(71,_)] [(1,.var _)] 91 ⟨aU fun _ _ H K => R.addN (k) (1) (eU K 71 O) (kI 1 O) bU H,mU 87 O O,trivial⟩ O O O O (tU O ?_)
                 exact ⟨⟨(k + 1),bU⟩,(by simp only [pkI,hc76,if_true,if_false,Bool.false_eq_true] <;> rfl),(by simp only []; omega)⟩
             · obtain rfl : k = fl.length := by omega
               refine W.exit ?_
               refine W.seq ?_
               refine W.l0 5 [.y 88 _,.y 89 _,.y 90 _,.y 2 _,.y 3 _] [(2,4),(3,90)] [(2,4),(3,90)] [(2,_),(3,_)] [(1,.var _)] 91 ⟨aU fun _ _ H K => R.al (K 4 _ O) H (by decide),aU fun _ _ H K => R.al (K 9 _ O) H (by decide),aU fun _ _ H K => R.appE (Or.inr (K 88 _ O)) (K 4 _ O) (SrcO.sc (SC.al (K 89 _ O) (K 9 _ O)) (pur_map (fun _ => rfl))) (show _ = ((putB m hs fl).map D.u8) from (by rw [putB,← List.map_append])) (by simp [hdI_len,flatI_len hh hs.length (Nat.le_refl _),pkI_len]; omega) H (by decide) (by decide),aU fun _ _ H K => R.asgO (K 90 _ O) O H (by decide),aU fun _ _ H _ => R.asg (kI 0 O) O H,trivial⟩ O O O O (tU O ?_)
               refine W.ret ?_
               exact Ends.many (.inr O) (.cons O O O trivial (.cons O O O trivial .nil)) (by rw [put_ok (by omega)]) (show [(2,true),(3,true)].Nodup by decide)

end Go.Sx

namespace Go.Sx
open Go.Proofs
set_option maxHeartbeats 2000000 in
theorem pget_ok (b : List UInt8) (hb0 : b.length ≤ 100000) : Fn Tryd.prog gl 18 [.sl none 1 (b.map D.u8)] (.tup [partD (getS b).1,.int (((getS b).2 : Nat) : Int)]) := by
 refine Fn.of (n := 121) Tryd.func18 rfl rfl rfl (nU rfl) fun C hC hD => ?_
 refine W.seq ?_
 refine W.l0 2 [] [] [] [(0,_)] [] 121 trivial O O O O (⟨O,_,R.alloc O (nU O),⟨O,_,R.asg (kI 0 O) O (nU O),tV [(0,_),(2,_)] [(2,.var _)] 121 O O O ?_⟩⟩)
 refine W.seq ?_
 refine W.l0 1 [] [] [] [(0,_),(2,_)] [(2,.var _)] 121 trivial O O O O (⟨O,_,R.alloc O (nU O),tV [(0,_),(2,_),(4,_)] [(4,.var _),(2,.var _)] 121 O O O ?_⟩)
 refine W.seq ?_
 refine W.l0 1 [.y 5 _] [] [] [(0,_),(2,_),(4,_),(5,_)] [(4,.var _),(2,.var _)] 121 ⟨aU fun _ _ H _ => R.asg (kI 0 O) O H,trivial⟩ O O O O (tU O ?_)
 refine W.seq ?_
 refine W.seq ?_
 refine W.l0 1 [.y 14 _] [] [] [(0,_),(2,_),(4,_),(5,_),(14,_)] [(4,.var _),(2,.var _)] 121 ⟨aU fun _ _ H _ => R.mov (kI 0 O) O H,trivial⟩ O O O O (tU O ?_)
 refine W.block ?_
 refine W.loop (α := {q__ : Nat // q__ ≤ 3 ∧ 2 * q__ ≤ b.length}) (fun q__ => ⟨121,[(0,.sl none 1 (b.map D.u8)),(2,.ptr 2 0 []),(4,.ptr 4 0 []),(5,.int ((2 * q__.1 : Nat) : Int)),(14,.int ((q__.1 : Nat) : Int))],[(4,.var (.arr 3 1 ((nsI b q__.1).map natD))),(2,.var (.agg [.int 0,.nils,.nils]))]⟩) (fun q__ => 3 - q__.1) ⟨(0),bU⟩ O ?_
 rintro ⟨k,⟨hk,hkb⟩⟩
 show W _ _ _ _ ⟨121,[(0,.sl none 1 (b.map D.u8)),(2,.ptr 2 0 []),(4,.ptr 4 0 []),(5,.int ((2 * k : Nat) : Int)),(14,.int ((k : Nat) : Int))],[(4,.var (.arr 3 1 ((nsI b k).map natD))),(2,.var (.agg [.int 0,.nils,.nils]))]⟩
 have hk : k ≤ 3 := hk
 have hkb : 2 * k ≤ b.length := hkb
 have hnl := nsI_len b k
 refine W.seq ?_
 refine W.l0 1 [.y 15 _] [] [] [(0,_),(2,_),(4,_),(5,_),(14,_),(15,_)] [(4,.var _),(2,.var _)] 121 ⟨aU fun _ _ H K => R.lssN (k) (3) (eU K 14 O) (kI 3 O) H,trivial⟩ O O O O (tU O ?_)
 refine W.seq ?_
 refine W.condD O (fun hc15 => ?_) (fun hc15 => ?_)
 · refine W.skip ?_
   refine W.seq ?_
   refine W.block ?_
   refine W.seq ?_
   refine W.l0 2 [.y 16 _,.y 6 _] [] [] [(0,_),(2,_),(4,_),(5,_),(6,_),(14,_)] [(4,.var _),(2,.var _)] 121 ⟨mU 14 O O,aU fun _ _ H K => R.asg (eU K 16 O) O H,trivial⟩ O O O O (tU O ?_)
   refine W.seq ?_
   by_cases ht : b.length < 2 * k + 2
   · refine W.l0 10 [.y 18 _,.y 19 _,.y 20 _,.y 17 _,.y 21 _,.y 22 _,.y 23 _,.y 7 _,.y 8 _,.y 9 _] [] [] [(0,_),(2,_),(4,_),(6,_),(7,_),(8,_),(9,_),(14,_)] [(4,.var _),(2,.var _)] 121 ⟨mU 0 O O,mU 5 O O,aU fun _ _ H K => R.callG hC (otake_ok b (2 * k) (by omega) (by omega)) (Bors.cons (Bor.pur (eU K 18 O) O O) (Bors.cons (Bor.pur (eU K 19 O) O O) (Bors.cons (Bor.pur (kI 2 O) O O) Bors.nil))) (frs_tak _ _ _) H,aU fun _ _ H K => R.movT (K 20 _ O) O H,aU fun _ _ H K => R.ext (K 17 _ O) O O H,aU fun _ _ H K => R.ext (K 17 _ O) O O H,aU fun _ _ H K => R.ext (K 17 _ O) O O H,aU fun _ _ H K => R.asg (eU K 21 O) O H,aU fun _ _ H K => R.asg (eU K 22 O) O H,aU fun _ _ H K => R.asg (eU K 23 O) O H,trivial⟩ O O O O (tU O ?_)
     refine W.seq ?_
     refine W.seq ?_
     refine W.l0 2 [.y 24 _,.y 25 _] [] [] [(0,_),(2,_),(4,_),(6,_),(7,_),(8,_),(14,_),(25,_)] [(4,.var _),(2,.var _)] 121 ⟨mU 9 O O,aU fun _ _ H K => R.neqN ((takS b (2 * k)).2.2) (0) (eU K 24 O) (kI 0 O) H,trivial⟩ O O O O (tU O ?_)
     refine W.condT O (by rw [takS_2 (by omega) ht]; rfl) ?_
     refine W.seq ?_
     refine W.l0 3 [.y 26 _] [] [] [(2,_),(26,_)] [(4,.var _),(2,.var _)] 121 ⟨aU fun _ _ H _ => R.bldSE (l := [.int 0,.nils,.nils]) (l' := [_,_,_]) (.nil O) trivial H,trivial⟩ O O O O (⟨O,_,R.stZ (gU 2 O) (xU 2 O) O (gV 26 O) (by rfl) (by rfl) (by rfl) (by rfl) O,⟨O,_,R.asg (kI 5 O) O (nU O),tV [(2,_),(3,_)] [(4,.var _),(2,.var _)] 121 O O O ?_⟩⟩)
     refine W.wkB 2 (d' := partD zeroP) (bx' := [(4,.var _),(2,.var _)]) O wk_zeroP O ?_
     refine W.ret ?_
     exact Ends.many (.inr O) (.cons O O O (show LdT _ 25 3 true from inferInstance) (.cons O O O trivial .nil)) (by rw [get_no (fun h => by have := h.1; omega)]) (show [(2,false),(3,true)].Nodup by decide)
   · refine W.l0 10 [.y 18 _,.y 19 _,.y 20 _,.y 17 _,.y 21 _,.y 22 _,.y 23 _,.y 7 _,.y 8 _,.y 9 _] [] [] [(0,_),(2,_),(4,_),(6,_),(7,_),(8,_),(9,_),(14,_)] [(4,.var _),(2,.var _)] 121 ⟨mU 0 O O,mU 5 O O,aU fun _ _ H K => R.callG hC (otake_ok b (2 * k) (by omega) (by omega)) (Bors.cons (Bor.pur (eU K 18 O) O O) (Bors.cons (Bor.pur (eU K 19 O) O O) (Bors.cons (Bor.pur (kI 2 O) O O) Bors.nil))) (frs_tak _ _ _) H,aU fun _ _ H K => R.movT (K 20 _ O) O H,aU fun _ _ H K => R.ext (K 17 _ O) O O H,aU fun _ _ H K => R.ext (K 17 _ O) O O H,aU fun _ _ H K => R.ext (K 17 _ O) O O H,aU fun _ _ H K => R.asg (eU K 21 O) O H,aU fun _ _ H K => R.asg (eU K 22 O) O H,aU fun _ _ H K => R.asg (eU K 23 O) O H,trivial⟩ O O O O (tU O ?_)
     refine W.seq ?_
     refine W.seq ?_
     refine W.l0 2 [.y 24 _,.y 25 _] [] [] [(0,_),(2,_),(4,_),(6,_),(7,_),(8,_),(14,_),(25,_)] [(4,.var _),(2,.var _)] 121 ⟨mU 9 O O,aU fun _ _ H K => R.neqN ((takS b (2 * k)).2.2) (0) (eU K 24 O) (kI 0 O) H,trivial⟩ O O O O (tU O ?_)
     refine W.condF O (by rw [takS_3 (by omega) (by omega)]; rfl) ?_
     refine W.skip ?_
     have htk := takS_3 (b := b) (m := 2 * k) (by omega) (by omega)
     rw [htk]
     have hlt := le2_lt b (2 * k)
     have hnl := nsI_len b k
     refine W.l0 7 [.y 27 _,.y 28 _,.y 29 _,.y 30 _,.y 31 _] [] [] [(0,_),(2,_),(4,_),(14,_),(29,_),(30,_),(31,_)] [(4,.var _),(2,.var _)] 121 ⟨mU 6 O O,mU 7 O O,aU fun _ _ H K => R.convE (d := .int (((le2 b (2 * k)).toNat : Nat) : Int)) (eU K 28 O) O (wr_eq O (by omega) (by omega)) H,mU 8 O O,aU fun _ _ H K => R.idxP (k) (K 4 _ O) (evoI (eU K 27 O)) O bU H,trivial⟩ O O O O (⟨O,_,R.stZ (gU 31 O) (xU 4 O) (loc_arr (map_get! (l := (nsI b k)) bU) loc_nil bU) (gV 29 O) (by rfl) (by rfl) (by rfl) (by rfl) (upd_arr (map_get! (l := (nsI b k)) bU) upd_nil set_map),⟨O,_,R.asg (gV 30 O) O (nU O),tV [(0,_),(2,_),(4,_),(5,_),(14,_)] [(4,.var _),(2,.var _)] 121 O O O ?_⟩⟩)
     refine W.l0 2 [.y 32 _,.y 14 _] [] [] [(0,_),(2,_),(4,_),(5,_),(14,_)] [(4,.var _),(2,.var _)] 121 ⟨aU fun _ _ H K => R.addN (k) (1) (eU K 14 O) (kI 1 O) bU H,mU 32 O O,trivial⟩ O O O O (tU O ?_)
     exact ⟨⟨(k + 1),bU⟩,rfl,(by simp only []; omega)⟩
 · obtain rfl : k = 3 := by omega
   rw [show (nsI b 3).map natD = [.int (((gN b).1 : Nat) : Int),.int (((gN b).2.1 : Nat) : Int),.int (((gN b).2.2 : Nat) : Int)] from rfl]
   refine W.exit ?_
   refine W.seq ?_
   have hn1 := le2_lt b 2
   have hn2 := le2_lt b 4
   have hn0 := le2_lt b 0
   change (gN b).2.1 < 65536 at hn1
   change (gN b).2.2 < 65536 at hn2
   change (gN b).1 < 65536 at hn0
   refine W.l0 5 [.y 33 _,.y 34 _,.y 35 _,.y 36 _,.y 10 _] [] [] [(0,_),(2,_),(4,_),(5,_),(10,_)] [(4,.var _),(2,.var _)] 121 ⟨aU fun _ _ H K => R.idxP (2) (K 4 _ O) (evoI (kI 2 O)) O bU H,aU (lU 33 O O O O O O O),aU fun _ _ H K => R.addN ((gN b).2.2) (7) (eU K 34 O) (kI 7 O) bU H,aU fun _ _ H K => R.quoN (((gN b).2.2 + 7)) (8) (eU K 35 O) (kI 8 O) bU bU H,aU fun _ _ H K => R.asg (eU K 36 O) O H,trivial⟩ O O O O (tU O ?_)
   refine W.seq ?_
   refine W.seq ?_
   by_cases g0 : (gN b).1 < 1
   · refine W.l0 30 [.y 37 _,.y 38 _,.y 39 _,.y 40 _,.x 41,.x 42,.x 43,.y 44 _,.y 45 _,.x 46,.x 47,.x 48,.y 49 _,.y 50 _,.x 51,.x 52,.x 53,.y 54 _,.y 55 _,.x 56,.x 57,.x 58,.x 59,.x 60,.x 61,.x 62,.x 63,.x 64,.x 65,.y 66 _] [] [] [(0,_),(2,_),(4,_),(5,_),(10,_),(66,_)] [(4,.var _),(2,.var _)] 121 ⟨aU fun _ _ H K => R.idxP (0) (K 4 _ O) (evoI (kI 0 O)) O bU H,aU (lU 37 O O O O O O O),aU fun _ _ H K => R.lssN ((gN b).1) (1) (eU K 38 O) (kI 1 O) H,mU 39 O O,aF O O (gT (decide_eq_true g0) O),aF O O (gT (decide_eq_true g0) O),aF O O (gT (decide_eq_true g0) O),aU fun _ _ H K => R.pickT (eU K 40 O) (decide_eq_true g0) (kB true O) O H,mU 44 O O,aF O O (gT (O) O),aF O O (gT (O) O),aF O O (gT (O) O),aU fun _ _ H K => R.pickT (eU K 45 O) (O) (kB true O) O H,mU 49 O O,aF O O (gT (O) O),aF O O (gT (O) O),aF O O (gT (O) O),aU fun _ _ H K => R.pickT (eU K 50 O) (O) (kB true O) O H,mU 54 O O,aF O O (gT (O) O),aF O O (gT (O) O),aF O O (gT (O) O),aF O O (gT (O) O),aF O O (gT (O) O),aF O O (gT (O) O),aF O O (gT (O) O),aF O O (gT (O) O),aF O O (gT (O) O),aF O O (gT (O) O),aU fun _ _ H K => R.pickT (eU K 55 O) (O) (kB true O) O H,trivial⟩ O O O O (tU O ?_)
     refine W.condT O (O) ?_
     refine W.seq ?_
     refine W.l0 3 [.y 67 _] [] [] [(2,_),(67,_)] [(4,.var _),(2,.var _)] 121 ⟨aU fun _ _ H _ => R.bldSE (l := [.int 0,.nils,.nils]) (l' := [_,_,_]) (.nil O) trivial H,trivial⟩ O O O O (⟨O,_,R.stZ (gU 2 O) (xU 2 O) O (gV 67 O) (by rfl) (by rfl) (by rfl) (by rfl) O,⟨O,_,R.asg (kI 5 O) O (nU O),tV [(2,_),(3,_)] [(4,.var _),(2,.var _)] 121 O O O ?_⟩⟩)
     refine W.wkB 2 (d' := partD zeroP) (bx' := [(4,.var _),(2,.var _)]) O wk_zeroP O ?_
     refine W.ret ?_
     exact Ends.many (.inr O) (.cons O O O (show LdT _ 25 3 true from inferInstance) (.cons O O O trivial .nil)) (by rw [get_no (fun h => by have := h.2; omega)] <;> rfl) (show [(2,false),(3,true)].Nodup by decide)
   · by_cases g1 : 256 < (gN b).1
     · refine W.l0 30 [.y 37 _,.y 38 _,.y 39 _,.y 40 _,.y 41 _,.y 42 _,.y 43 _,.y 44 _,.y 45 _,.x 46,.x 47,.x 48,.y 49 _,.y 50 _,.x 51,.x 52,.x 53,.y 54 _,.y 55 _,.x 56,.x 57,.x 58,.x 59,.x 60,.x 61,.x 62,.x 63,.x 64,.x 65,.y 66 _] [] [] [(0,_),(2,_),(4,_),(5,_),(10,_),(66,_)] [(4,.var _),(2,.var _)] 121 ⟨aU fun _ _ H K => R.idxP (0) (K 4 _ O) (evoI (kI 0 O)) O bU H,aU (lU 37 O O O O O O O),aU fun _ _ H K => R.lssN ((gN b).1) (1) (eU K 38 O) (kI 1 O) H,mU 39 O O,aW O O (gF (decide_eq_false g0) O) fun _ _ H K => R.idxP (0) (K 4 _ O) (evoI (kI 0 O)) O bU H,aW O O (gF (decide_eq_false g0) O) (lU 41 O O O O O O O),aW O O (gF (decide_eq_false g0) O) fun _ _ H K => R.gtrN ((gN b).1) (256) (eU K 42 O) (kI 256 O) H,aU fun _ _ H K => R.pickF (eU K 40 O) (decide_eq_false g0) (eU K 43 O) O H,mU 44 O O,aF O O (gT (decide_eq_true g1) O),aF O O (gT (decide_eq_true g1) O),aF O O (gT (decide_eq_true g1) O),aU fun _ _ H K => R.pickT (eU K 45 O) (decide_eq_true g1) (kB true O) O H,mU 49 O O,aF O O (gT (O) O),aF O O (gT (O) O),aF O O (gT (O) O),aU fun _ _ H K => R.pickT (eU K 50 O) (O) (kB true O) O H,mU 54 O O,aF O O (gT (O) O),aF O O (gT (O) O),aF O O (gT (O) O),aF O O (gT (O) O),aF O O (gT (O) O),aF O O (gT (O) O),aF O O (gT (O) O),aF O O (gT (O) O),aF O O (gT (O) O),aF O O (gT (O) O),aU fun _ _ H K => R.pickT (eU K 55 O) (O) (kB true O) O H,trivial⟩ O O O O (tU O ?_)
       refine W.condT O (O) ?_
       refine W.seq ?_
       refine W.l0 3 [.y 67 _] [] [] [(2,_),(67,_)] [(4,.var _),(2,.var _)] 121 ⟨aU fun _ _ H _ => R.bldSE (l := [.int 0,.nils,.nils]) (l' := [_,_,_]) (.nil O) trivial H,trivial⟩ O O O O (⟨O,_,R.stZ (gU 2 O) (xU 2 O) O (gV 67 O) (by rfl) (by rfl) (by rfl) (by rfl) O,⟨O,_,R.asg (kI 5 O) O (nU O),tV [(2,_),(3,_)] [(4,.var _),(2,.var _)] 121 O O O ?_⟩⟩)
       refine W.wkB 2 (d' := partD zeroP) (bx' := [(4,.var _),(2,.var _)]) O wk_zeroP O ?_
       refine W.ret ?_
       exact Ends.many (.inr O) (.cons O O O (show LdT _ 25 3 true from inferInstance) (.cons O O O trivial .nil)) (by rw [get_no (fun h => by have := h.2; omega)] <;> rfl) (show [(2,false),(3,true)].Nodup by decide)
     · by_cases g2 : 512 < (gN b).2.1
       · refine W.l0 30 [.y 37 _,.y 38 _,.y 39 _,.y 40 _,.y 41 _,.y 42 _,.y 43 _,.y 44 _,.y 45 _,.y 46 _,.y 47 _,.y 48 _,.y 49 _,.y 50 _,.x 51,.x 52,.x 53,.y 54 _,.y 55 _,.x 56,.x 57,.x 58,.x 59,.x 60,.x 61,.x 62,.x 63,.x 64,.x 65,.y 66 _] [] [] [(0,_),(2,_),(4,_),(5,_),(10,_),(66,_)] [(4,.var _),(2,.var _)] 121 ⟨aU fun _ _ H K => R.idxP (0) (K 4 _ O) (evoI (kI 0 O)) O bU H,aU (lU 37 O O O O O O O),aU fun _ _ H K => R.lssN ((gN b).1) (1) (eU K 38 O) (kI 1 O) H,mU 39 O O,aW O O (gF (decide_eq_false g0) O) fun _ _ H K => R.idxP (0) (K 4 _ O) (evoI (kI 0 O)) O bU H,aW O O (gF (decide_eq_false g0) O) (lU 41 O O O O O O O),aW O O (gF (decide_eq_false g0) O) fun _ _ H K => R.gtrN ((gN b).1) (256) (eU K 42 O) (kI 256 O) H,aU fun _ _ H K => R.pickF (eU K 40 O) (decide_eq_false g0) (eU K 43 O) O H,mU 44 O O,aW O O (gF (decide_eq_false g1) O) fun _ _ H K => R.idxP (1) (K 4 _ O) (evoI (kI 1 O)) O bU H,aW O O (gF (decide_eq_false g1) O) (lU 46 O O O O O O O),aW O O (gF (decide_eq_false g1) O) fun _ _ H K => R.gtrN ((gN b).2.1) (512) (eU K 47 O) (kI 512 O) H,aU fun _ _ H K => R.pickF (eU K 45 O) (decide_eq_false g1) (eU K 48 O) O H,mU 49 O O,aF O O (gT (decide_eq_true g2) O),aF O O (gT (decide_eq_true g2) O),aF O O (gT (decide_eq_true g2) O),aU fun _ _ H K => R.pickT (eU K 50 O) (decide_eq_true g2) (kB true O) O H,mU 54 O O,aF O O (gT (O) O),aF O O (gT (O) O),aF O O (gT (O) O),aF O O (gT (O) O),aF O O (gT (O) O),aF O O (gT (O) O),aF O O (gT (O) O),aF O O (gT (O) O),aF O O (gT (O) O),aF O O (gT (O) O),aU fun _ _ H K => R.pickT (eU K 55 O) (O) (kB true O) O H,trivial⟩ O O O O (tU O ?_)
         refine W.condT O (O) ?_
         refine W.seq ?_
         refine W.l0 3 [.y 67 _] [] [] [(2,_),(67,_)] [(4,.var _),(2,.var _)] 121 ⟨aU fun _ _ H _ => R.bldSE (l := [.int 0,.nils,.nils]) (l' := [_,_,_]) (.nil O) trivial H,trivial⟩ O O O O (⟨O,_,R.stZ (gU 2 O) (xU 2 O) O (gV 67 O) (by rfl) (by rfl) (by rfl) (by rfl) O,⟨O,_,R.asg (kI 5 O) O (nU O),tV [(2,_),(3,_)] [(4,.var _),(2,.var _)] 121 O O O ?_⟩⟩)
         refine W.wkB 2 (d' := partD zeroP) (bx' := [(4,.var _),(2,.var _)]) O wk_zeroP O ?_
         refine W.ret ?_
         exact Ends.many (.inr O) (.cons O O O (show LdT _ 25 3 true from inferInstance) (.cons O O O trivial .nil)) (by rw [get_no (fun h => by have := h.2; omega)] <;> rfl) (show [(2,false),(3,true)].Nodup by decide)
       · by_cases g3 : 1024 < (gN b).2.2
         · refine W.l0 30 [.y 37 _,.y 38 _,.y 39 _,.y 40 _,.y 41 _,.y 42 _,.y 43 _,.y 44 _,.y 45 _,.y 46 _,.y 47 _,.y 48 _,.y 49 _,.y 50 _,.y 51 _,.y 52 _,.y 53 _,.y 54 _,.y 55 _,.x 56,.x 57,.x 58,.x 59,.x 60,.x 61,.x 62,.x 63,.x 64,.x 65,.y 66 _] [] [] [(0,_),(2,_),(4,_),(5,_),(10,_),(66,_)] [(4,.var _),(2,.var _)] 121 ⟨aU fun _ _ H K => R.idxP (0) (K 4 _ O) (evoI (kI 0 O)) O bU H,aU (lU 37 O O O O O O O),aU fun _ _ H K => R.lssN ((gN b).1) (1) (eU K 38 O) (kI 1 O) H,mU 39 O O,aW O O (gF (decide_eq_false g0) O) fun _ _ H K => R.idxP (0) (K 4 _ O) (evoI (kI 0 O)) O bU H,aW O O (gF (decide_eq_false g0) O) (lU 41 O O O O O O O),aW O O (gF (decide_eq_false g0) O) fun _ _ H K => R.gtrN ((gN b).1) (256) (eU K 42 O) (kI 256 O) H,aU fun _ _ H K => R.pickF (eU K 40 O) (decide_eq_false g0) (eU K 43 O) O H,mU 44 O O,aW O O (gF (decide_eq_false g1) O) fun _ _ H K => R.idxP (1) (K 4 _ O) (evoI (kI 1 O)) O bU H,aW O O (gF (decide_eq_false g1) O) (lU 46 O O O O O O O),aW O O (gF (decide_eq_false g1) O) fun _ _ H K => R.gtrN ((gN b).2.1) (512) (eU K 47 O) (kI 512 O) H,aU fun _ _ H K => R.pickF (eU K 45 O) (decide_eq_false g1) (eU K 48 O) O H,mU 49 O O,aW O O (gF (decide_eq_false g2) O) fun _ _ H K => R.idxP (2) (K 4 _ O) (evoI (kI 2 O)) O bU H,aW O O (gF (decide_eq_false g2) O) (lU 51 O O O O O O O),aW O O (gF (decide_eq_false g2) O) fun _ _ H K => R.gtrN ((gN b).2.2) (1024) (eU K 52 O) (kI 1024 O) H,aU fun _ _ H K => R.pickF (eU K 50 O) (decide_eq_false g2) (eU K 53 O) O H,mU 54 O O,aF O O (gT (decide_eq_true g3) O),aF O O (gT (decide_eq_true g3) O),aF O O (gT (decide_eq_true g3) O),aF O O (gT (decide_eq_true g3) O),aF O O (gT (decide_eq_true g3) O),aF O O (gT (decide_eq_true g3) O),aF O O (gT (decide_eq_true g3) O),aF O O (gT (decide_eq_true g3) O),aF O O (gT (decide_eq_true g3) O),aF O O (gT (decide_eq_true g3) O),aU fun _ _ H K => R.pickT (eU K 55 O) (decide_eq_true g3) (kB true O) O H,trivial⟩ O O O O (tU O ?_)
           refine W.condT O (O) ?_
           refine W.seq ?_
           refine W.l0 3 [.y 67 _] [] [] [(2,_),(67,_)] [(4,.var _),(2,.var _)] 121 ⟨aU fun _ _ H _ => R.bldSE (l := [.int 0,.nils,.nils]) (l' := [_,_,_]) (.nil O) trivial H,trivial⟩ O O O O (⟨O,_,R.stZ (gU 2 O) (xU 2 O) O (gV 67 O) (by rfl) (by rfl) (by rfl) (by rfl) O,⟨O,_,R.asg (kI 5 O) O (nU O),tV [(2,_),(3,_)] [(4,.var _),(2,.var _)] 121 O O O ?_⟩⟩)
           refine W.wkB 2 (d' := partD zeroP) (bx' := [(4,.var _),(2,.var _)]) O wk_zeroP O ?_
           refine W.ret ?_
           exact Ends.many (.inr O) (.cons O O O (show LdT _ 25 3 true from inferInstance) (.cons O O O trivial .nil)) (by rw [get_no (fun h => by have := h.2; omega)] <;> rfl) (show [(2,false),(3,true)].Nodup by decide)
         · refine W.l0 30 [.y 37 _,.y 38 _,.y 39 _,.y 40 _,.y 41 _,.y 42 _,.y 43 _,.y 44 _,.y 45 _,.y 46 _,.y 47 _,.y 48 _,.y 49 _,.y 50 _,.y 51 _,.y 52 _,.y 53 _,.y 54 _,.y 55 _,.y 56 _,.y 57 _,.y 58 _,.y 59 _,.y 60 _,.y 61 _,.y 62 _,.y 63 _,.y 64 _,.y 65 _,.y 66 _] [] [] [(0,_),(2,_),(4,_),(5,_),(10,_),(66,_)] [(4,.var _),(2,.var _)] 121 ⟨aU fun _ _ H K => R.idxP (0) (K 4 _ O) (evoI (kI 0 O)) O bU H,aU (lU 37 O O O O O O O),aU fun _ _ H K => R.lssN ((gN b).1) (1) (eU K 38 O) (kI 1 O) H,mU 39 O O,aW O O (gF (decide_eq_false g0) O) fun _ _ H K => R.idxP (0) (K 4 _ O) (evoI (kI 0 O)) O bU H,aW O O (gF (decide_eq_false g0) O) (lU 41 O O O O O O O),aW O O (gF (decide_eq_false g0) O) fun _ _ H K => R.gtrN ((gN b).1) (256) (eU K 42 O) (kI 256 O) H,aU fun _ _ H K => R.pickF (eU K 40 O) (decide_eq_false g0) (eU K 43 O) O H,mU 44 O O,aW O O (gF (decide_eq_false g1) O) fun _ _ H K => R.idxP (1) (K 4 _ O) (evoI (kI 1 O)) O bU H,aW O O (gF (decide_eq_false g1) O) (lU 46 O O O O O O O),aW O O (gF (decide_eq_false g1) O) fun _ _ H K => R.gtrN ((gN b).2.1) (512) (eU K 47 O) (kI 512 O) H,aU fun _ _ H K => R.pickF (eU K 45 O) (decide_eq_false g1) (eU K 48 O) O H,mU 49 O O,aW O O (gF (decide_eq_false g2) O) fun _ _ H K => R.idxP (2) (K 4 _ O) (evoI (kI 2 O)) O bU H,aW O O (gF (decide_eq_false g2) O) (lU 51 O O O O O O O),aW O O (gF (decide_eq_false g2) O) fun _ _ H K => R.gtrN ((gN b).2.2) (1024) (eU K 52 O) (kI 1024 O) H,aU fun _ _ H K => R.pickF (eU K 50 O) (decide_eq_false g2) (eU K 53 O) O H,mU 54 O O,aW O O (gF (decide_eq_false g3) O) fun _ _ H K => R.mov (eU K 0 O) O H,aW O O (gF (decide_eq_false g3) O) fun _ _ H K => R.lenE (SC.sl (K 56 _ O)) (List.length_map _) H,aW O O (gF (decide_eq_false g3) O) fun _ _ H K => R.mov (eU K 5 O) O H,aW O O (gF (decide_eq_false g3) O) fun _ _ H K => R.idxP (1) (K 4 _ O) (evoI (kI 1 O)) O bU H,aW O O (gF (decide_eq_false g3) O) (lU 59 O O O O O O O),aW O O (gF (decide_eq_false g3) O) fun _ _ H K => R.mulN (32) ((gN b).2.1) (kI 32 O) (eU K 60 O) bU H,aW O O (gF (decide_eq_false g3) O) fun _ _ H K => R.addN (2 * 3) ((32 * (gN b).2.1)) (eU K 58 O) (eU K 61 O) bU H,aW O O (gF (decide_eq_false g3) O) fun _ _ H K => R.mov (eU K 10 O) O H,aW O O (gF (decide_eq_false g3) O) fun _ _ H K => R.addN ((2 * 3 + (32 * (gN b).2.1))) ((((gN b).2.2 + 7) / 8)) (eU K 62 O) (eU K 63 O) bU H,aW O O (gF (decide_eq_false g3) O) fun _ _ H K => R.neqN (b.length) (((2 * 3 + (32 * (gN b).2.1)) + (((gN b).2.2 + 7) / 8))) (eU K 57 O) (eU K 64 O) H,aU fun _ _ H K => R.pickF (eU K 55 O) (decide_eq_false g3) (eU K 65 O) O H,trivial⟩ O O O O (tU O ?_)
           refine W.condD O (fun hc66 => ?_) (fun hc66 => ?_)
           · refine W.seq ?_
             refine W.l0 3 [.y 67 _] [] [] [(2,_),(67,_)] [(4,.var _),(2,.var _)] 121 ⟨aU fun _ _ H _ => R.bldSE (l := [.int 0,.nils,.nils]) (l' := [_,_,_]) (.nil O) trivial H,trivial⟩ O O O O (⟨O,_,R.stZ (gU 2 O) (xU 2 O) O (gV 67 O) (by rfl) (by rfl) (by rfl) (by rfl) O,⟨O,_,R.asg (kI 5 O) O (nU O),tV [(2,_),(3,_)] [(4,.var _),(2,.var _)] 121 O O O ?_⟩⟩)
             refine W.wkB 2 (d' := partD zeroP) (bx' := [(4,.var _),(2,.var _)]) O wk_zeroP O ?_
             refine W.ret ?_
             exact Ends.many (.inr O) (.cons O O O (show LdT _ 25 3 true from inferInstance) (.cons O O O trivial .nil)) (by rw [get_no (fun h => by have := h.2; omega)] <;> rfl) (show [(2,false),(3,true)].Nodup by decide)
           · refine W.skip ?_
             refine W.seq ?_
             refine W.l0 5 [.y 68 _,.y 69 _,.y 70 _] [] [] [(0,_),(2,_),(4,_),(5,_),(10,_),(70,_)] [(4,.var _),(2,.var _)] 121 ⟨aU fun _ _ H K => R.idxP (0) (K 4 _ O) (evoI (kI 0 O)) O bU H,aU (lU 68 O O O O O O O),aU fun _ _ H K => R.bldSE (l := [.int 0,.nils,.nils]) (l' := [_,_,_]) (.cons (eU K 69 O) (.nil O)) ⟨⟨_,(eU K 69 O),O,O,O⟩,trivial⟩ H,trivial⟩ O O O O (⟨O,_,R.alloc O (nU O),⟨O,_,R.stZ (gU 11 O) (xU 11 O) O (gV 70 O) (by rfl) (by rfl) (by rfl) (by rfl) O,tV [(0,_),(2,_),(4,_),(5,_),(10,_),(11,_)] [(11,.var _),(4,.var _),(2,.var _)] 121 O O O ?_⟩⟩)
             refine W.seq ?_
             refine W.seq ?_
             refine W.asOwnP 11 [1] 38 32 (bx' := [(11,.var _),(4,.var _),(2,.var _)]) O O O O O ?_
             refine W.asOwnP 11 [2] 4 1 (bx' := [(11,.var _),(4,.var _),(2,.var _)]) O O O O O ?_
             refine W.l0 3 [.y 71 _,.y 72 _,.y 73 _] [] [] [(0,_),(2,_),(4,_),(5,_),(10,_),(11,_),(72,_),(73,_)] [(11,.var _),(4,.var _),(2,.var _)] 121 ⟨aU fun _ _ H K => R.idxP (1) (K 4 _ O) (evoI (kI 1 O)) O bU H,aU (lU 71 O O O O O O O),aU fun _ _ H _ => R.mov (kI 0 O) O H,trivial⟩ O O O O (tU O ?_)
             refine W.block ?_
             refine W.loop (α := {q__ : Nat // q__ ≤ (gN b).2.1}) (fun q__ => ⟨121,[(0,.sl none 1 (b.map D.u8)),(2,.ptr 2 0 []),(4,.ptr 4 0 []),(5,.int ((6 + 32 * q__.1 : Nat) : Int)),(10,.int (((((gN b).2.2 + 7) / 8) : Nat) : Int)),(11,.ptr 11 0 []),(72,.int (((gN b).2.1 : Nat) : Int)),(73,.int ((q__.1 : Nat) : Int))],[(11,.var (.agg [.int (((gN b).1 : Nat) : Int),.sl (some 38) 32 ((hsI b 6 q__.1).map hashD),.sl (some 4) 1 (([] : List Bool).map D.bool)])),(4,.var (.arr 3 1 [.int (((gN b).1 : Nat) : Int),.int (((gN b).2.1 : Nat) : Int),.int (((gN b).2.2 : Nat) : Int)])),(2,.var (.agg [.int 0,.nils,.nils]))]⟩) (fun q__ => (gN b).2.1 - q__.1) ⟨(0),bU⟩ O ?_
             rintro ⟨k,hk⟩
             show W _ _ _ _ ⟨121,[(0,.sl none 1 (b.map D.u8)),(2,.ptr 2 0 []),(4,.ptr 4 0 []),(5,.int ((6 + 32 * k : Nat) : Int)),(10,.int (((((gN b).2.2 + 7) / 8) : Nat) : Int)),(11,.ptr 11 0 []),(72,.int (((gN b).2.1 : Nat) : Int)),(73,.int ((k : Nat) : Int))],[(11,.var (.agg [.int (((gN b).1 : Nat) : Int),.sl (some 38) 32 ((hsI b 6 k).map hashD),.sl (some 4) 1 (([] : List Bool).map D.bool)])),(4,.var (.arr 3 1 [.int (((gN b).1 : Nat) : Int),.int (((gN b).2.1 : Nat) : Int),.int (((gN b).2.2 : Nat) : Int)])),(2,.var (.agg [.int 0,.nils,.nils]))]⟩
             have hk : k ≤ (gN b).2.1 := hk
             have hhl := hsI_len b 6 k
             refine W.seq ?_
             refine W.l0 1 [.y 74 _] [] [] [(0,_),(2,_),(4,_),(5,_),(10,_),(11,_),(72,_),(73,_),(74,_)] [(11,.var _),(4,.var _),(2,.var _)] 121 ⟨aU fun _ _ H K => R.lssN (k) ((gN b).2.1) (eU K 73 O) (eU K 72 O) H,trivial⟩ O O O O (tU O ?_)
             refine W.seq ?_
             refine W.condD O (fun hc74 => ?_) (fun hc74 => ?_)
             · refine W.skip ?_
               refine W.seq ?_
               refine W.block ?_
               refine W.seq ?_
               refine W.draw (m := 10) (an := [0,1,0,0,0,16,60,124,252,508,1023,2047,4095]) hP (by decide) O (its := [.y 75 _,.y 76 _,.y 77 _,.y 78 _,.y 79 _,.y 80 _,.y 81 _,.y 82 _,.y 83 _,.y 84 _]) (ks := []) (kk := []) (live := [0,2,4,5,10,11,72,73,76,84]) (env' := [(0,_),(2,_),(4,_),(5,_),(10,_),(11,_),(72,_),(73,_),(76,_),(84,_)]) (⟨nU O,O,⟨aU (fU 11 O O),aU fun _ B H K => R.ldO (K 75 _ O) (B 11 _ O) O H,mU 0 O O,mU 5 O O,mU 5 O O,aU fun _ _ H K => R.addN (6 + 32 * k) (32) (eU K 79 O) (kI 32 O) bU H,aU fun _ _ H K => R.slIN (6 + 32 * k) ((6 + 32 * k + 32)) (32) (eU K 77 O) (evoI (eU K 78 O)) (evoI (eU K 80 O)) O O bU bU bU (part_map) H,aU fun _ _ H K => R.sap (n := 32) (eU K 81 O) (by simp; omega) (by decide) H,aU fun _ _ H K => R.ldR (eU K 82 O) O O O H,aU fun _ _ H K => R.bslE (z := 32) (.cons (eU K 83 O) .nil) ⟨⟨O,O,O⟩,trivial⟩ O H (by decide),trivial⟩,O,O,O⟩) O (bx' := [(11,.var _),(4,.var _),(2,.var _)]) O (n' := 121) O (⟨O,_,R.appBP (gU 76 O) (xU 11 O) O O O O (gU 76 O) (SrcO.sc (SC.sl (gU 84 O)) (pur_lit O)) (show _ = ((hsI b 6 (k + 1)).map hashD) from (by rw [hsI,List.map_append]; rfl)) (by simp [hsI_len]; omega) (nU O) (by decide) (by decide),⟨O,_,R.fdP (gU 11 O) (nU O),⟨O,_,R.stOZ (gU 86 O) (xU 11 O) O (gU 85 O) O O (by rfl) (by rfl) O O,tV [(0,_),(2,_),(4,_),(5,_),(10,_),(11,_),(72,_),(73,_)] [(11,.var _),(4,.var _),(2,.var _)] 121 O O O ?_⟩⟩⟩)
               refine W.l0 3 [.y 87 _,.y 88 _,.y 5 _] [] [] [(0,_),(2,_),(4,_),(5,_),(10,_),(11,_),(72,_),(73,_)] [(11,.var _),(4,.var _),(2,.var _)] 121 ⟨mU 5 O O,aU fun _ _ H K => R.addN (6 + 32 * k) (32) (eU K 87 O) (kI 32 O) bU H,aU fun _ _ H K => R.asg (eU K 88 O) O H,trivial⟩ O O O O (tU O ?_)
               refine W.l0 2 [.y 89 _,.y 73 _] [] [] [(0,_),(2,_),(4,_),(5,_),(10,_),(11,_),(72,_),(73,_)] [(11,.var _),(4,.var _),(2,.var _)] 121 ⟨aU fun _ _ H K => R.addN (k) (1) (eU K 73 O) (kI 1 O) bU H,mU 89 O O,trivial⟩ O O O O (tU O ?_)
               exact ⟨⟨(k + 1),bU⟩,rfl,(by simp only []; omega)⟩
             · obtain rfl : k = (gN b).2.1 := by omega
               refine W.exit ?_
               refine W.seq ?_
               refine W.seq ?_
               refine W.l0 3 [.y 90 _,.y 91 _,.y 92 _] [] [] [(0,_),(2,_),(4,_),(5,_),(11,_),(91,_),(92,_)] [(11,.var _),(4,.var _),(2,.var _)] 121 ⟨mU 10 O O,aU fun _ _ H K => R.mulN (8) ((((gN b).2.2 + 7) / 8)) (kI 8 O) (eU K 90 O) bU H,aU fun _ _ H _ => R.mov (kI 0 O) O H,trivial⟩ O O O O (tU O ?_)
               refine W.block ?_
               refine W.loop (α := {q__ : Nat // q__ ≤ 8 * (((gN b).2.2 + 7) / 8) ∧ ∀ j,(gN b).2.2 ≤ j → j < q__ → bitS b (6 + 32 * (gN b).2.1) j = false}) (fun q__ => ⟨121,[(0,.sl none 1 (b.map D.u8)),(2,.ptr 2 0 []),(4,.ptr 4 0 []),(5,.int (((6 + 32 * (gN b).2.1) : Nat) : Int)),(11,.ptr 11 0 []),(91,.int ((8 * (((gN b).2.2 + 7) / 8) : Nat) : Int)),(92,.int ((q__.1 : Nat) : Int))],[(11,.var (.agg [.int (((gN b).1 : Nat) : Int),.sl (some 38) 32 ((hsI b 6 (gN b).2.1).map hashD),.sl (some 4) 1 ((flI b (6 + 32 * (gN b).2.1) (min q__.1 (gN b).2.2)).map D.bool)])),(4,.var (.arr 3 1 [.int (((gN b).1 : Nat) : Int),.int (((gN b).2.1 : Nat) : Int),.int (((gN b).2.2 : Nat) : Int)])),(2,.var (.agg [.int 0,.nils,.nils]))]⟩) (fun q__ => 8 * (((gN b).2.2 + 7) / 8) - q__.1) ⟨(0),⟨Nat.zero_le _,fun j _ h => absurd h (Nat.not_lt_zero j)⟩⟩ (by rw [show min 0 (gN b).2.2 = 0 by omega]; rfl) ?_
               rintro ⟨i,⟨hi,hz⟩⟩
               show W _ _ _ _ ⟨121,[(0,.sl none 1 (b.map D.u8)),(2,.ptr 2 0 []),(4,.ptr 4 0 []),(5,.int (((6 + 32 * (gN b).2.1) : Nat) : Int)),(11,.ptr 11 0 []),(91,.int ((8 * (((gN b).2.2 + 7) / 8) : Nat) : Int)),(92,.int ((i : Nat) : Int))],[(11,.var (.agg [.int (((gN b).1 : Nat) : Int),.sl (some 38) 32 ((hsI b 6 (gN b).2.1).map hashD),.sl (some 4) 1 ((flI b (6 + 32 * (gN b).2.1) (min i (gN b).2.2)).map D.bool)])),(4,.var (.arr 3 1 [.int (((gN b).1 : Nat) : Int),.int (((gN b).2.1 : Nat) : Int),.int (((gN b).2.2 : Nat) : Int)])),(2,.var (.agg [.int 0,.nils,.nils]))]⟩
               have hi : i ≤ 8 * (((gN b).2.2 + 7) / 8) := hi
               refine W.seq ?_
               refine W.l0 1 [.y 93 _] [] [] [(0,_),(2,_),(4,_),(5,_),(11,_),(91,_),(92,_),(93,_)] [(11,.var _),(4,.var _),(2,.var _)] 121 ⟨aU fun _ _ H K => R.lssN (i) (8 * (((gN b).2.2 + 7) / 8)) (eU K 92 O) (eU K 91 O) H,trivial⟩ O O O O (tU O ?_)
               refine W.seq ?_
               refine W.condD O (fun hc93 => ?_) (fun hc93 => ?_)
               · refine W.skip ?_
                 refine W.seq ?_
                 refine W.block ?_
                 refine W.seq ?_
                 refine W.l0 2 [.y 94 _,.y 12 _] [] [] [(0,_),(2,_),(4,_),(5,_),(11,_),(12,_),(91,_),(92,_)] [(11,.var _),(4,.var _),(2,.var _)] 121 ⟨mU 92 O O,aU fun _ _ H K => R.asg (eU K 94 O) O H,trivial⟩ O O O O (tU O ?_)
                 refine W.seq ?_
                 refine W.l0 13 [.y 95 _,.y 96 _,.y 97 _,.y 98 _,.y 99 _,.y 100 _,.y 101 _,.y 102 _,.y 103 _,.y 104 _,.y 105 _,.y 106 _,.y 13 _] [] [] [(0,_),(2,_),(4,_),(5,_),(11,_),(12,_),(13,_),(91,_),(92,_)] [(11,.var _),(4,.var _),(2,.var _)] 121 ⟨mU 0 O O,mU 5 O O,mU 12 O O,aU fun _ _ H K => R.quoN (i) (8) (eU K 97 O) (kI 8 O) bU bU H,aU fun _ _ H K => R.addN ((6 + 32 * (gN b).2.1)) ((i / 8)) (eU K 96 O) (eU K 98 O) bU H,aU fun _ _ H K => R.idxN (((6 + 32 * (gN b).2.1) + (i / 8))) (SC.sl (K 95 _ O)) (evoI (eU K 99 O)) O bU H (by decide),aU fun _ _ H K => R.ldE (K 100 _ O) (SC.sl (K 95 _ O)) (map_get! (l := b) bU) O O O O H,mU 12 O O,aU fun _ _ H K => R.remN (i) (8) (eU K 102 O) (kI 8 O) bU H,aU fun _ _ H K => R.bin (eU K 101 O) (eU K 103 O) O bV H,aU fun _ _ H K => R.bin (eU K 104 O) (show ev _ _ (.const (.int .u8 1)) = some (.u8 1) from O) O trivial H,aU fun _ _ H K => R.binE (d := .bool (bitS b (6 + 32 * (gN b).2.1) i)) (eU K 105 O) (show ev _ _ (.const (.int .u8 1)) = some (.u8 1) from O) O trivial (O) H,aU fun _ _ H K => R.asg (eU K 106 O) O H,trivial⟩ O O O O (tU O ?_)
                 refine W.seq ?_
                 refine W.l0 4 [.y 107 _,.y 108 _,.y 109 _,.y 110 _] [] [] [(0,_),(2,_),(4,_),(5,_),(11,_),(13,_),(91,_),(92,_),(110,_)] [(11,.var _),(4,.var _),(2,.var _)] 121 ⟨mU 12 O O,aU fun _ _ H K => R.idxP (2) (K 4 _ O) (evoI (kI 2 O)) O bU H,aU (lU 108 O O O O O O O),aU fun _ _ H K => R.lssN (i) ((gN b).2.2) (eU K 107 O) (eU K 109 O) H,trivial⟩ O O O O (tU O ?_)
                 refine W.condD O (fun hc110 => ?_) (fun hc110 => ?_)
                 · refine W.l0 7 [.y 111 _,.y 112 _,.y 113 _,.y 114 _] [] [] [(0,_),(2,_),(4,_),(5,_),(11,_),(91,_),(92,_),(112,_),(114,_)] [(11,.var _),(4,.var _),(2,.var _)] 121 ⟨aU (fU 11 O O),aU fun _ B H K => R.ldO (K 111 _ O) (B 11 _ O) O H,mU 13 O O,aU fun _ _ H K => R.bslE (z := 1) (.cons (eU K 113 O) .nil) ⟨⟨O,O,O⟩,trivial⟩ O H (by decide),trivial⟩ O O O O (⟨O,_,R.appBP (gU 112 O) (xU 11 O) O O O O (gU 112 O) (SrcO.sc (SC.sl (gU 114 O)) (pur_lit O)) (show _ = ((flI b (6 + 32 * (gN b).2.1) (min (i + 1) (gN b).2.2)).map D.bool) from (by rw [show min (i + 1) (gN b).2.2 = min i (gN b).2.2 + 1 by omega,flI_succ,List.map_append,show min i (gN b).2.2 = i by omega]; rfl)) (by simp [flI_len]; omega) (nU O) (by decide) (by decide),⟨O,_,R.fdP (gU 11 O) (nU O),⟨O,_,R.stOZ (gU 116 O) (xU 11 O) O (gU 115 O) O O (by rfl) (by rfl) O O,tV [(0,_),(2,_),(4,_),(5,_),(11,_),(91,_),(92,_)] [(11,.var _),(4,.var _),(2,.var _)] 121 O O O ?_⟩⟩⟩)
                   refine W.l0 2 [.y 119 _,.y 92 _] [] [] [(0,_),(2,_),(4,_),(5,_),(11,_),(91,_),(92,_)] [(11,.var _),(4,.var _),(2,.var _)] 121 ⟨aU fun _ _ H K => R.addN (i) (1) (eU K 92 O) (kI 1 O) bU H,mU 119 O O,trivial⟩ O O O O (tU O ?_)
                   exact ⟨⟨(i + 1),⟨by omega,fun j h1 h2 => by rcases Nat.lt_or_ge j i with h | h; exact hz j h1 h; obtain rfl : j = i := (by omega); first | omega | exact hc117⟩⟩,(by first | rfl | (rw [show min i (gN b).2.2 = min (i + 1) (gN b).2.2 by omega])),(by simp only []; omega)⟩
                 · refine W.seq ?_
                   refine W.l0 1 [.y 117 _] [] [] [(0,_),(2,_),(4,_),(5,_),(11,_),(91,_),(92,_),(117,_)] [(11,.var _),(4,.var _),(2,.var _)] 121 ⟨mU 13 O O,trivial⟩ O O O O (tU O ?_)
                   refine W.cond O (fun hc117 => ?_) (fun hc117 => ?_)
                   · refine W.seq ?_
                     refine W.l0 3 [.y 118 _] [] [] [(2,_),(118,_)] [(11,.var _),(4,.var _),(2,.var _)] 121 ⟨aU fun _ _ H _ => R.bldSE (l := [.int 0,.nils,.nils]) (l' := [_,_,_]) (.nil O) trivial H,trivial⟩ O O O O (⟨O,_,R.stZ (gU 2 O) (xU 2 O) O (gV 118 O) (by rfl) (by rfl) (by rfl) (by rfl) O,⟨O,_,R.asg (kI 5 O) O (nU O),tV [(2,_),(3,_)] [(11,.var _),(4,.var _),(2,.var _)] 121 O O O ?_⟩⟩)
                     refine W.wkB 2 (d' := partD zeroP) (bx' := [(11,.var _),(4,.var _),(2,.var _)]) O wk_zeroP O ?_
                     refine W.ret ?_
                     exact Ends.many (.inr O) (.cons O O O (show LdT _ 25 3 true from inferInstance) (.cons O O O trivial .nil)) (by rw [get_no (fun h => by have := h.2.2.2.2.2.2 i (by omega) (by omega); rw [hc117] at this; cases this)] <;> rfl) (show [(2,false),(3,true)].Nodup by decide)
                   · refine W.skip ?_
                     refine W.l0 2 [.y 119 _,.y 92 _] [] [] [(0,_),(2,_),(4,_),(5,_),(11,_),(91,_),(92,_)] [(11,.var _),(4,.var _),(2,.var _)] 121 ⟨aU fun _ _ H K => R.addN (i) (1) (eU K 92 O) (kI 1 O) bU H,mU 119 O O,trivial⟩ O O O O (tU O ?_)
                     exact ⟨⟨(i + 1),⟨by omega,fun j h1 h2 => by rcases Nat.lt_or_ge j i with h | h; exact hz j h1 h; obtain rfl : j = i := (by omega); first | omega | exact hc117⟩⟩,(by first | rfl | (rw [show min i (gN b).2.2 = min (i + 1) (gN b).2.2 by omega])),(by simp only []; omega)⟩
               · obtain rfl : i = 8 * (((gN b).2.2 + 7) / 8) := by omega
                 have hmn : min (8 * (((gN b).2.2 + 7) / 8)) (gN b).2.2 = (gN b).2.2 := by omega
                 rw [hmn]
                 refine W.exit ?_
                 refine W.seq ?_
                 refine W.brwB 11 (d' := .agg [.int (((gN b).1 : Nat) : Int),.sl none 32 ((hsI b 6 (gN b).2.1).map hashD),.sl none 1 ((flI b (6 + 32 * (gN b).2.1) (gN b).2.2).map D.bool)]) (bx' := [(11,.var _),(4,.var _),(2,.var _)]) O (show (D.agg [.int (((gN b).1 : Nat) : Int),.sl (some 38) 32 ((hsI b 6 (gN b).2.1).map hashD),.sl (some 4) 1 ((flI b (6 + 32 * (gN b).2.1) (gN b).2.2).map D.bool)]).brw = _ from by simp only [D.brw,brws_eq,List.map_cons,List.map_nil]; rw [brw_map brw_hash,brw_map (fun _ => rfl)]) O ?_
                 refine W.l0 3 [.y 120 _] [] [] [(2,_),(120,_)] [(11,.var _),(4,.var _),(2,.var _)] 121 ⟨aU (lU 11 O O O O O O O),trivial⟩ O O O O (⟨O,_,R.stZ (gU 2 O) (xU 2 O) O (gV 120 O) (by rfl) (by rfl) (by rfl) (by rfl) O,⟨O,_,R.asg (kI 0 O) O (nU O),tV [(2,_),(3,_)] [(11,.var _),(4,.var _),(2,.var _)] 121 O O O ?_⟩⟩)
                 refine W.ret ?_
                 exact Ends.many (.inr O) (.cons O O O (show LdT _ 25 3 true from inferInstance) (.cons O O O trivial .nil)) (by rw [get_ok ⟨by omega,by omega,by omega,by omega,by omega,by omega,fun j h1 h2 => hz j h1 h2⟩] <;> rfl) (show [(2,false),(3,true)].Nodup by decide)

end Go.Sx

namespace Go.Sx
open Go.Proofs
theorem upI_snoc (J : Hs → Hs → Hs) (l : List Hs) (i : Nat) : upI J l (i + 1) = upI J l i ++ [J l[2 * i]! l[min (2 * i + 1) (l.length - 1)]!] := rfl
theorem rowsL_last (J : Hs → Hs → Hs) (l : List Hs) (k : Nat) : (rowsL J l (k + 1))[(rowsL J l (k + 1)).length - 1]! = rowA J l k := by
 rw [rowsL_len]
 exact rowsL_get (by omega)
theorem rowsL_lastM (J : Hs → Hs → Hs) (l : List Hs) (k : Nat) : ((rowsL J l (k + 1)).map hsD)[(rowsL J l (k + 1)).length - 1]? = some (hsD (rowA J l k)) := by
 rw [List.getElem?_map,List.getElem?_eq_getElem (by rw [rowsL_len]; omega),Option.map_some,← getElem!_pos,rowsL_last]
def calS (is : List Bool) (row k : Nat) : Bool := (List.range is.length).any fun i => decide (i / 2 ^ row = k) && is[i]!
theorem calS_t {is : List Bool} {row k i : Nat} (hi : i < is.length) (h : i / 2 ^ row = k) (h2 : is[i]! = true) : calS is row k = true := by
 unfold calS
 rw [List.any_eq_true]
 exact ⟨i,List.mem_range.2 hi,by rw [h2,decide_eq_true h]; rfl⟩
theorem calS_f {is : List Bool} {row k : Nat} (h : ∀ i,i < is.length → ¬ (i / 2 ^ row = k ∧ is[i]! = true)) : calS is row k = false := by
 unfold calS
 rw [List.any_eq_false]
 intro i hi
 have := h i (List.mem_range.1 hi)
 simp only [Bool.and_eq_true,decide_eq_true_eq]
 exact this
theorem ofInt64 {k : Nat} (h : k < 18446744073709551616) : (UInt64.ofInt ((k : Nat) : Int)).toNat = k := by
 simp [UInt64.ofInt]
 omega
theorem shrN (i row : Nat) (h : row ≤ 64) : D.int (((i : Nat) : Int).fdiv (2 ^ min (UInt64.ofInt ((row : Nat) : Int)).toNat 64)) = .int ((i / 2 ^ row : Nat) : Int) := by
 rw [ofInt64 (by omega),Nat.min_eq_left h,Int.fdiv_eq_ediv_of_nonneg _ (by exact Int.le_of_lt (Int.pow_pos (by decide)))]
 norm_cast
end Go.Sx
