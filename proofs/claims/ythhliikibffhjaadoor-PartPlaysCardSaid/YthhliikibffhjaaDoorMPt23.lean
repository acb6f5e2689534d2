/-
 The plain law of parts of trees: what is built,and what is shown,is the document's.
-/
import Derived.Test.YthhliikibffhjaaDoorMSxBs2
import Derived.Test.YthhliikibffhjaaDoorMPt18
import Derived.Test.YthhliikibffhjaaDoorMPt5
import Derived.Test.YthhliikibffhjaaDoorMSxOwn
set_option linter.unusedVariables false
set_option linter.unusedSimpArgs false
set_option linter.unnecessarySimpa false

namespace Go.Sx
open Go.Proofs
theorem rbuild_ok (l : List Hs) (f : List Bool) (hl : allH l) (hl0 : l.length ≤ 1000000) (hf0 : f.length ≤ 1000000) : Fn Tryd.prog gl 10 [.sl none 32 (l.map hashD),.sl none 1 (f.map D.bool)] (.tup [partD (rbldS l f).1,.int (((rbldS l f).2 : Nat) : Int)]) := by
 refine Fn.of (n := 33) Tryd.func10 rfl rfl rfl (nU rfl) fun C hC hD => ?_
 refine W.seq ?_
 refine W.l0 2 [] [] [] [(0,_),(1,_)] [] 33 trivial O O O O (⟨O,_,R.alloc O (nU O),⟨O,_,R.asg (kI 0 O) O (nU O),tV [(0,_),(1,_),(4,_)] [(4,.var _)] 33 O O O ?_⟩⟩)
 refine W.seq ?_
 refine W.seq ?_
 by_cases hz : l.length = 0
 · refine W.l0 10 [.y 7 _,.y 8 _,.y 9 _,.y 10 _,.x 11,.x 12,.x 13,.x 14,.x 15,.y 16 _] [] [] [(0,_),(1,_),(4,_),(16,_)] [(4,.var _)] 33 ⟨mU 0 O O,aU fun _ _ H K => R.lenE (SC.sl (K 7 _ O)) (List.length_map _) H,aU fun _ _ H K => R.eqlN (l.length) (0) (eU K 8 O) (kI 0 O) H,mU 9 O O,aF O O (gT (decide_eq_true hz) O),aF O O (gT (decide_eq_true hz) O),aF O O (gT (decide_eq_true hz) O),aF O O (gT (decide_eq_true hz) O),aF O O (gT (decide_eq_true hz) O),aU fun _ _ H K => R.pickT (eU K 10 O) (decide_eq_true hz) (kB true O) O H,trivial⟩ O O O O (tU O ?_)
   refine W.condT O (O) ?_
   refine W.seq ?_
   refine W.l0 3 [.y 17 _] [] [] [(4,_),(17,_)] [(4,.var _)] 33 ⟨aU fun _ _ H _ => R.bldSE (l := [.int 0,.nils,.nils]) (l' := [_,_,_]) (.nil O) trivial H,trivial⟩ O O O O (⟨O,_,R.stZ (gU 4 O) (xU 4 O) O (gV 17 O) (by rfl) (by rfl) (by rfl) (by rfl) O,⟨O,_,R.asg (kI 1 O) O (nU O),tV [(4,_),(5,_)] [(4,.var _)] 33 O O O ?_⟩⟩)
   refine W.wkB 4 (d' := partD zeroP) (bx' := [(4,.var _)]) O wk_zeroP O ?_
   refine W.ret ?_
   exact Ends.many (.inr O) (.cons O O O (show LdT _ 33 3 true from inferInstance) (.cons O O O trivial .nil)) (by rw [rbld_1 (.inl hz)]) (show [(4,false),(5,true)].Nodup by decide)
 · refine W.l0 10 [.y 7 _,.y 8 _,.y 9 _,.y 10 _,.y 11 _,.y 12 _,.y 13 _,.y 14 _,.y 15 _,.y 16 _] [] [] [(0,_),(1,_),(4,_),(16,_)] [(4,.var _)] 33 ⟨mU 0 O O,aU fun _ _ H K => R.lenE (SC.sl (K 7 _ O)) (List.length_map _) H,aU fun _ _ H K => R.eqlN (l.length) (0) (eU K 8 O) (kI 0 O) H,mU 9 O O,aW O O (gF (decide_eq_false hz) O) fun _ _ H K => R.mov (eU K 1 O) O H,aW O O (gF (decide_eq_false hz) O) fun _ _ H K => R.lenE (SC.sl (K 11 _ O)) (List.length_map _) H,aW O O (gF (decide_eq_false hz) O) fun _ _ H K => R.mov (eU K 0 O) O H,aW O O (gF (decide_eq_false hz) O) fun _ _ H K => R.lenE (SC.sl (K 13 _ O)) (List.length_map _) H,aW O O (gF (decide_eq_false hz) O) fun _ _ H K => R.neqN (f.length) (l.length) (eU K 12 O) (eU K 14 O) H,aU fun _ _ H K => R.pickF (eU K 10 O) (decide_eq_false hz) (eU K 15 O) O H,trivial⟩ O O O O (tU O ?_)
   refine W.condD O (fun hc16 => ?_) (fun hc16 => ?_)
   · refine W.seq ?_
     refine W.l0 3 [.y 17 _] [] [] [(4,_),(17,_)] [(4,.var _)] 33 ⟨aU fun _ _ H _ => R.bldSE (l := [.int 0,.nils,.nils]) (l' := [_,_,_]) (.nil O) trivial H,trivial⟩ O O O O (⟨O,_,R.stZ (gU 4 O) (xU 4 O) O (gV 17 O) (by rfl) (by rfl) (by rfl) (by rfl) O,⟨O,_,R.asg (kI 1 O) O (nU O),tV [(4,_),(5,_)] [(4,.var _)] 33 O O O ?_⟩⟩)
     refine W.wkB 4 (d' := partD zeroP) (bx' := [(4,.var _)]) O wk_zeroP O ?_
     refine W.ret ?_
     exact Ends.many (.inr O) (.cons O O O (show LdT _ 33 3 true from inferInstance) (.cons O O O trivial .nil)) (by rw [rbld_1 (.inr hc16)]) (show [(4,false),(5,true)].Nodup by decide)
   · refine W.skip ?_
     refine W.seq ?_
     refine W.seq ?_
     refine W.l0 3 [.y 18 _,.y 19 _,.y 20 _] [] [] [(0,_),(1,_),(4,_),(20,_)] [(4,.var _)] 33 ⟨mU 0 O O,aU fun _ _ H K => R.lenE (SC.sl (K 18 _ O)) (List.length_map _) H,aU fun _ _ H K => R.gtrN (l.length) (256) (eU K 19 O) (kI 256 O) H,trivial⟩ O O O O (tU O ?_)
     refine W.condD O (fun hc20 => ?_) (fun hc20 => ?_)
     · refine W.seq ?_
       refine W.l0 3 [.y 21 _] [] [] [(4,_),(21,_)] [(4,.var _)] 33 ⟨aU fun _ _ H _ => R.bldSE (l := [.int 0,.nils,.nils]) (l' := [_,_,_]) (.nil O) trivial H,trivial⟩ O O O O (⟨O,_,R.stZ (gU 4 O) (xU 4 O) O (gV 21 O) (by rfl) (by rfl) (by rfl) (by rfl) O,⟨O,_,R.asg (kI 6 O) O (nU O),tV [(4,_),(5,_)] [(4,.var _)] 33 O O O ?_⟩⟩)
       refine W.wkB 4 (d' := partD zeroP) (bx' := [(4,.var _)]) O wk_zeroP O ?_
       refine W.ret ?_
       exact Ends.many (.inr O) (.cons O O O (show LdT _ 33 3 true from inferInstance) (.cons O O O trivial .nil)) (by rw [rbld_3 (by omega) hc20]) (show [(4,false),(5,true)].Nodup by decide)
     · refine W.skip ?_
       refine W.seq ?_
       refine W.l0 3 [.y 22 _,.y 23 _,.y 6 _] [] [] [(0,_),(1,_),(4,_),(6,_)] [(4,.var _)] 33 ⟨mU 0 O O,aU fun _ _ H K => R.callPE hC (rrows_ok l hl (by omega) (by omega)) (EvP.cons (eU K 22 O) O O EvP.nil) H,aU fun _ _ H K => R.asg (eU K 23 O) O H,trivial⟩ O O O O (tU O ?_)
       refine W.seq ?_
       have hlr := rowsL_len joinR l (nRows l.length)
       have hnl := nRows_le l.length
       have hnp := nRows_pos (n := l.length) (by omega)
       refine W.l0 11 [.y 24 _,.y 25 _,.y 26 _,.y 27 _,.y 28 _,.y 29 _,.y 30 _,.y 31 _,.y 32 _] [(8,26)] [(8,26)] [(4,_),(32,_)] [(4,.var _)] 33 ⟨mU 0 O O,aU fun _ _ H K => R.lenE (SC.sl (K 24 _ O)) (List.length_map _) H,aU fun _ _ H K => R.bldSE (l := [.int 0,.nils,.nils]) (l' := [_,_,_]) (.cons (eU K 25 O) (.nil O)) ⟨⟨_,(eU K 25 O),O,O,O⟩,trivial⟩ H,mU 6 O O,mU 1 O O,mU 6 O O,aU fun _ _ H K => R.lenE (SC.sl (K 29 _ O)) (List.length_map _) H,aU fun _ _ H K => R.subN ((rowsL joinR l (nRows l.length)).length) (1) (eU K 30 O) (kI 1 O) bU bU H,aU fun _ _ H K => R.callT hC (show FnT Tryd.prog gl 27 (.agg [.int ((l.length : Nat) : Int),.nils,.nils]) [.sl none 1 ((rowsL joinR l (nRows l.length)).map hsD),.sl none 1 (f.map D.bool),.int (((rowsL joinR l (nRows l.length)).length - 1 : Nat) : Int),.int ((0 : Nat) : Int)] (.agg [.int ((l.length : Nat) : Int),.sl (some 38) 32 ((rbwS l f).1.map hashD),.sl (some 4) 1 ((rbwS l f).2.map D.bool)]) from FnT.wk (wk_emp _) (rb_call (n := ((l.length : Nat) : Int)) (by omega) (by omega) (by omega))) (K 26 _ O) O O (EvP.cons (eU K 27 O) O O (EvP.cons (eU K 28 O) O O (EvP.cons (eU K 31 O) O O (EvP.cons (kI 0 O) O O EvP.nil)))) H (by decide),trivial⟩ O O O O (⟨O,_,R.stOZ (gU 4 O) (xU 4 O) O (gU 32 O) O O (by rfl) (by rfl) O O,⟨O,_,R.asg (kI 0 O) O (nU O),tV [(4,_),(5,_)] [(4,.var _)] 33 O O O ?_⟩⟩)
       refine W.brwB 4 (d' := .agg [.int ((l.length : Nat) : Int),.sl none 32 ((rbwS l f).1.map hashD),.sl none 1 ((rbwS l f).2.map D.bool)]) (bx' := [(4,.var _)]) O (show (D.agg [.int ((l.length : Nat) : Int),.sl (some 38) 32 ((rbwS l f).1.map hashD),.sl (some 4) 1 ((rbwS l f).2.map D.bool)]).brw = _ from by simp only [D.brw,brws_eq,List.map_cons,List.map_nil]; rw [brw_map brw_hash,brw_map (fun _ => rfl)]) O ?_
       refine W.ret ?_
       exact Ends.many (.inr O) (.cons O O O (show LdT _ 33 3 true from inferInstance) (.cons O O O trivial .nil)) (by rw [rbld_4 (by omega) hc20]; rfl) (show [(4,false),(5,true)].Nodup by decide)

theorem rsame_ok (p q : PartS) (hp : p.hs.length ≤ 1000000) (hf : p.fl.length ≤ 1000000) : Fn Tryd.prog gl 11 [.agg [.int p.n,.sl none 32 (p.hs.map hashD),.sl none 1 (p.fl.map D.bool)],.agg [.int q.n,.sl none 32 (q.hs.map hashD),.sl none 1 (q.fl.map D.bool)]] (.bool (samP p q)) := by
 refine Fn.of (n := 46) Tryd.func11 rfl rfl rfl (nU rfl) fun C hC hD => ?_
 refine W.seq ?_
 refine W.l0 3 [] [] [] [(0,_),(1,_)] [] 46 trivial O O O O (⟨O,_,R.box (gV 0 O) O O (nU O),⟨O,_,R.box (gV 1 O) O O (nU O),⟨O,_,R.asg (kB false O) O (nU O),tV [(2,_),(3,_)] [(3,.var _),(2,.var _)] 46 O O O ?_⟩⟩⟩)
 refine W.seq ?_
 refine W.seq ?_
 by_cases h1 : p.n = q.n
 · by_cases h2 : (p.hs == q.hs) = true
   · refine W.l0 22 [.y 6 _,.y 7 _,.y 8 _,.y 9 _,.y 10 _,.y 11 _,.y 12 _,.y 13 _,.y 14 _,.y 15 _,.y 16 _,.y 17 _,.y 18 _,.y 19 _,.y 20 _,.y 21 _,.y 22 _,.y 23 _,.y 24 _,.y 25 _,.y 26 _,.y 27 _] [] [] [(2,_),(3,_),(27,_)] [(3,.var _),(2,.var _)] 46 ⟨aU (fU 2 O O),aU (lU 6 O O O O O O O),aU (fU 3 O O),aU (lU 8 O O O O O O O),aU fun _ _ H K => R.bin (eU K 7 O) (eU K 9 O) O trivial H,mU 10 O O,aW O O (gF (by simp [h1]) O) (fU 2 O O),aW O O (gF (by simp [h1]) O) (lU 12 O O O O O O O),aW O O (gF (by simp [h1]) O) (fU 3 O O),aW O O (gF (by simp [h1]) O) (lU 14 O O O O O O O),aW O O (gF (by simp [h1]) O) fun _ _ H K => R.callG hC (same10_ok p.hs q.hs hp) (Bors.cons (Bor.pur (eU K 13 O) O O) (Bors.cons (Bor.pur (eU K 15 O) O O) Bors.nil)) (FrsR.one (.bool _)) H,aW O O (gF (by simp [h1]) O) fun _ _ H K => R.un (eU K 16 O) O H,aU fun _ _ H K => R.pickF (eU K 11 O) (by simp [h1]) (eU K 17 O) O H,mU 18 O O,aW O O (gF (by rw [h2]; rfl) O) (fU 2 O O),aW O O (gF (by rw [h2]; rfl) O) (lU 20 O O O O O O O),aW O O (gF (by rw [h2]; rfl) O) fun _ _ H K => R.lenE (SC.sl (K 21 _ O)) (List.length_map _) H,aW O O (gF (by rw [h2]; rfl) O) (fU 3 O O),aW O O (gF (by rw [h2]; rfl) O) (lU 23 O O O O O O O),aW O O (gF (by rw [h2]; rfl) O) fun _ _ H K => R.lenE (SC.sl (K 24 _ O)) (List.length_map _) H,aW O O (gF (by rw [h2]; rfl) O) fun _ _ H K => R.neqN (p.fl.length) (q.fl.length) (eU K 22 O) (eU K 25 O) H,aU fun _ _ H K => R.pickF (eU K 19 O) (by rw [h2]; rfl) (eU K 26 O) O H,trivial⟩ O O O O (tU O ?_)
     refine W.condD O (fun hc27 => ?_) (fun hc27 => ?_)
     · refine W.seq ?_
       refine W.l0 1 [.y 4 _] [] [] [(4,_)] [(3,.var _),(2,.var _)] 46 ⟨aU fun _ _ H _ => R.asg (kB false O) O H,trivial⟩ O O O O (tU O ?_)
       refine W.ret ?_
       exact Ends.one' (.inr O) O (by rw [samP_1 (.inr (.inr (.inl hc27)))]) O O trivial
     · refine W.skip ?_
       refine W.seq ?_
       refine W.seq ?_
       refine W.l0 1 [.y 5 _] [] [] [(2,_),(3,_),(5,_)] [(3,.var _),(2,.var _)] 46 ⟨aU fun _ _ H _ => R.asg (kI 0 O) O H,trivial⟩ O O O O (tU O ?_)
       refine W.block ?_
       refine W.loop (α := {q__ : Nat // q__ ≤ p.fl.length ∧ ∀ j,j < q__ → p.fl[j]! = q.fl[j]!}) (fun q__ => ⟨46,[(2,.ptr 2 0 []),(3,.ptr 3 0 []),(5,.int ((q__.1 : Nat) : Int))],[(3,.var (.agg [.int q.n,.sl none 32 (q.hs.map hashD),.sl none 1 (q.fl.map D.bool)])),(2,.var (.agg [.int p.n,.sl none 32 (p.hs.map hashD),.sl none 1 (p.fl.map D.bool)]))]⟩) (fun q__ => p.fl.length - q__.1) ⟨(0),⟨Nat.zero_le _,fun j hj => absurd hj (Nat.not_lt_zero j)⟩⟩ O ?_
       rintro ⟨i,⟨hi,hall⟩⟩
       show W _ _ _ _ ⟨46,[(2,.ptr 2 0 []),(3,.ptr 3 0 []),(5,.int ((i : Nat) : Int))],[(3,.var (.agg [.int q.n,.sl none 32 (q.hs.map hashD),.sl none 1 (q.fl.map D.bool)])),(2,.var (.agg [.int p.n,.sl none 32 (p.hs.map hashD),.sl none 1 (p.fl.map D.bool)]))]⟩
       refine W.seq ?_
       refine W.seq ?_
       refine W.l0 5 [.y 28 _,.y 29 _,.y 30 _,.y 31 _,.y 32 _] [] [] [(2,_),(3,_),(5,_),(32,_)] [(3,.var _),(2,.var _)] 46 ⟨mU 5 O O,aU (fU 2 O O),aU (lU 29 O O O O O O O),aU fun _ _ H K => R.lenE (SC.sl (K 30 _ O)) (List.length_map _) H,aU fun _ _ H K => R.lssN (i) (p.fl.length) (eU K 28 O) (eU K 31 O) H,trivial⟩ O O O O (tU O ?_)
       refine W.condD O (fun hc32 => ?_) (fun hc32 => ?_)
       · refine W.skip ?_
         refine W.seq ?_
         refine W.block ?_
         refine W.seq ?_
         refine W.draw (m := 11) (an := [0,1,0,7,15,0,32,0,224,480,1023]) hP (by decide) O (its := [.y 35 _,.y 36 _,.y 37 _,.y 38 _,.y 39 _,.y 40 _,.y 41 _,.y 42 _,.y 43 _,.y 44 _,.y 45 _]) (ks := []) (kk := []) (live := [2,3,5,45]) (env' := [(2,_),(3,_),(5,_),(45,_)]) (⟨nU O,O,⟨aU (fU 2 O O),aU (lU 35 O O O O O O O),mU 5 O O,aU fun _ _ H K => R.idxN (i) (SC.sl (K 36 _ O)) (evoI (eU K 37 O)) O bU H (by decide),aU fun _ _ H K => R.ldE (K 38 _ O) (SC.sl (K 36 _ O)) (map_get! (l := p.fl) bU) O O O O H,aU (fU 3 O O),aU (lU 40 O O O O O O O),mU 5 O O,aU fun _ _ H K => R.idxN (i) (SC.sl (K 41 _ O)) (evoI (eU K 42 O)) O bU H (by decide),aU fun _ _ H K => R.ldE (K 43 _ O) (SC.sl (K 41 _ O)) (map_get! (l := q.fl) bU) O O O O H,aU fun _ _ H K => R.neB (eU K 39 O) (eU K 44 O) H,trivial⟩,O,O,O⟩) O (bx' := [(3,.var _),(2,.var _)]) O (n' := 46) O (tV [(2,_),(3,_),(5,_),(45,_)] [(3,.var _),(2,.var _)] 46 O O O ?_)
         refine W.cond O (fun hc45 => ?_) (fun hc45 => ?_)
         · refine W.seq ?_
           refine W.l0 1 [.y 4 _] [] [] [(4,_)] [(3,.var _),(2,.var _)] 46 ⟨aU fun _ _ H _ => R.asg (kB false O) O H,trivial⟩ O O O O (tU O ?_)
           refine W.ret ?_
           exact Ends.one' (.inr O) O (by rw [samP_1 (.inr (.inr (sam_ne (by simpa using hc45))))]) O O trivial
         · refine W.skip ?_
           refine W.l0 3 [.y 33 _,.y 34 _,.y 5 _] [] [] [(2,_),(3,_),(5,_)] [(3,.var _),(2,.var _)] 46 ⟨mU 5 O O,aU fun _ _ H K => R.addN (i) (1) (eU K 33 O) (kI 1 O) bU H,aU fun _ _ H K => R.asg (eU K 34 O) O H,trivial⟩ O O O O (tU O ?_)
           exact ⟨⟨(i + 1),⟨by omega,fun j hj => by rcases Nat.lt_or_ge j i with h | h; exact hall j h; obtain rfl : j = i := (by omega); simpa using hc45⟩⟩,rfl,(by simp only []; omega)⟩
       · refine W.exit ?_
         refine W.seq ?_
         refine W.l0 1 [.y 4 _] [] [] [(4,_)] [(3,.var _),(2,.var _)] 46 ⟨aU fun _ _ H _ => R.asg (kB true O) O H,trivial⟩ O O O O (tU O ?_)
         refine W.ret ?_
         exact Ends.one' (.inr O) O (by rw [samP_2 h1 h2 (list_ext! (by omega) (fun j hj => hall j (by omega)))]) O O trivial
   · refine W.l0 22 [.y 6 _,.y 7 _,.y 8 _,.y 9 _,.y 10 _,.y 11 _,.y 12 _,.y 13 _,.y 14 _,.y 15 _,.y 16 _,.y 17 _,.y 18 _,.y 19 _,.x 20,.x 21,.x 22,.x 23,.x 24,.x 25,.x 26,.y 27 _] [] [] [(2,_),(3,_),(27,_)] [(3,.var _),(2,.var _)] 46 ⟨aU (fU 2 O O),aU (lU 6 O O O O O O O),aU (fU 3 O O),aU (lU 8 O O O O O O O),aU fun _ _ H K => R.bin (eU K 7 O) (eU K 9 O) O trivial H,mU 10 O O,aW O O (gF (by simp [h1]) O) (fU 2 O O),aW O O (gF (by simp [h1]) O) (lU 12 O O O O O O O),aW O O (gF (by simp [h1]) O) (fU 3 O O),aW O O (gF (by simp [h1]) O) (lU 14 O O O O O O O),aW O O (gF (by simp [h1]) O) fun _ _ H K => R.callG hC (same10_ok p.hs q.hs hp) (Bors.cons (Bor.pur (eU K 13 O) O O) (Bors.cons (Bor.pur (eU K 15 O) O O) Bors.nil)) (FrsR.one (.bool _)) H,aW O O (gF (by simp [h1]) O) fun _ _ H K => R.un (eU K 16 O) O H,aU fun _ _ H K => R.pickF (eU K 11 O) (by simp [h1]) (eU K 17 O) O H,mU 18 O O,aF O O (gT (by rw [bfalse h2]; rfl) O),aF O O (gT (by rw [bfalse h2]; rfl) O),aF O O (gT (by rw [bfalse h2]; rfl) O),aF O O (gT (by rw [bfalse h2]; rfl) O),aF O O (gT (by rw [bfalse h2]; rfl) O),aF O O (gT (by rw [bfalse h2]; rfl) O),aF O O (gT (by rw [bfalse h2]; rfl) O),aU fun _ _ H K => R.pickT (eU K 19 O) (by rw [bfalse h2]; rfl) (kB true O) O H,trivial⟩ O O O O (tU O ?_)
     refine W.condT O (O) ?_
     refine W.seq ?_
     refine W.l0 1 [.y 4 _] [] [] [(4,_)] [(3,.var _),(2,.var _)] 46 ⟨aU fun _ _ H _ => R.asg (kB false O) O H,trivial⟩ O O O O (tU O ?_)
     refine W.ret ?_
     exact Ends.one' (.inr O) O (by rw [samP_1 (.inr (.inl h2))]) O O trivial
 · refine W.l0 22 [.y 6 _,.y 7 _,.y 8 _,.y 9 _,.y 10 _,.y 11 _,.x 12,.x 13,.x 14,.x 15,.x 16,.x 17,.y 18 _,.y 19 _,.x 20,.x 21,.x 22,.x 23,.x 24,.x 25,.x 26,.y 27 _] [] [] [(2,_),(3,_),(27,_)] [(3,.var _),(2,.var _)] 46 ⟨aU (fU 2 O O),aU (lU 6 O O O O O O O),aU (fU 3 O O),aU (lU 8 O O O O O O O),aU fun _ _ H K => R.bin (eU K 7 O) (eU K 9 O) O trivial H,mU 10 O O,aF O O (gT (by simpa using h1) O),aF O O (gT (by simpa using h1) O),aF O O (gT (by simpa using h1) O),aF O O (gT (by simpa using h1) O),aF O O (gT (by simpa using h1) O),aF O O (gT (by simpa using h1) O),aU fun _ _ H K => R.pickT (eU K 11 O) (by simpa using h1) (kB true O) O H,mU 18 O O,aF O O (gT (O) O),aF O O (gT (O) O),aF O O (gT (O) O),aF O O (gT (O) O),aF O O (gT (O) O),aF O O (gT (O) O),aF O O (gT (O) O),aU fun _ _ H K => R.pickT (eU K 19 O) (O) (kB true O) O H,trivial⟩ O O O O (tU O ?_)
   refine W.condT O (O) ?_
   refine W.seq ?_
   refine W.l0 1 [.y 4 _] [] [] [(4,_)] [(3,.var _),(2,.var _)] 46 ⟨aU fun _ _ H _ => R.asg (kB false O) O H,trivial⟩ O O O O (tU O ?_)
   refine W.ret ?_
   exact Ends.one' (.inr O) O (by rw [samP_1 (.inl h1)]) O O trivial

end Go.Sx

namespace Go.Sx
open Go.Proofs
def fillH (b : List UInt8) (o k : Nat) : Hs := (b.drop o).take k ++ List.replicate (32 - k) 0
theorem fillH_0 (b : List UInt8) (o : Nat) : fillH b o 0 = List.replicate 32 0 := by simp [fillH]
theorem fillH_32 (b : List UInt8) (o : Nat) : fillH b o 32 = (b.drop o).take 32 := by simp [fillH]
theorem fillH_len {b : List UInt8} {o k : Nat} (h : o + k ≤ b.length) (hk : k ≤ 32) : (fillH b o k).length = 32 := by simp [fillH]; omega
theorem fillH_succ {b : List UInt8} {o k : Nat} (h : o + k < b.length) (hk : k < 32) : (fillH b o k).set k b[o + k]! = fillH b o (k + 1) := by
 unfold fillH
 have hl : ((b.drop o).take k).length = k := by simp; omega
 rw [List.set_append_right _ _ (by omega),hl,Nat.sub_self,show 32 - k = (32 - (k + 1)) + 1 by omega,List.replicate_succ,List.set_cons_zero,List.take_add_one,List.getElem?_drop,List.getElem?_eq_getElem h,getElem!_pos b (o + k) h]
 simp only [Option.toList_some,List.append_assoc,List.cons_append,List.nil_append]
def rgetOk (b : List UInt8) : Prop := 6 ≤ b.length ∧ b.length = 6 + 32 * (gN b).2.1 + ((gN b).2.2 + 7) / 8 ∧ mayB (gPart b).n (gPart b).hs (gPart b).fl = true ∧ rputB (gN b).1 (gPart b).hs (gPart b).fl = b
open Classical in
noncomputable def rgetS (b : List UInt8) : PartS × Nat := if rgetOk b then (gPart b,0) else (zeroP,5)
theorem rget_no {b : List UInt8} (h : ¬ rgetOk b) : rgetS b = (zeroP,5) := if_neg h
theorem rget_ok {b : List UInt8} (h : rgetOk b) : rgetS b = (gPart b,0) := if_pos h
theorem len_u64 {b : List UInt8} (h : b.length ≤ 100000) : (UInt64.ofInt ((b.length : Nat) : Int) != 6 + 32 * le2 b 2 + (le2 b 4 + 7) / 8) = decide (b.length ≠ 6 + 32 * (gN b).2.1 + ((gN b).2.2 + 7) / 8) := by
 have h1 : (le2 b 2).toNat < 65536 := le2_lt b 2
 have h2 : (le2 b 4).toNat < 65536 := le2_lt b 4
 show _ = decide (b.length ≠ 6 + 32 * (le2 b 2).toNat + ((le2 b 4).toNat + 7) / 8)
 have e : (6 + 32 * le2 b 2 + (le2 b 4 + 7) / 8).toNat = 6 + 32 * (le2 b 2).toNat + ((le2 b 4).toNat + 7) / 8 := by
  simp only [UInt64.toNat_add,UInt64.toNat_mul,UInt64.toNat_div]
  rw [show (6 : UInt64).toNat = 6 from rfl,show (32 : UInt64).toNat = 32 from rfl,show (7 : UInt64).toNat = 7 from rfl,show (8 : UInt64).toNat = 8 from rfl]
  omega
 by_cases hq : b.length = 6 + 32 * (le2 b 2).toNat + ((le2 b 4).toNat + 7) / 8
 · rw [decide_eq_false (by simpa using hq)]
   have : UInt64.ofInt ((b.length : Nat) : Int) = 6 + 32 * le2 b 2 + (le2 b 4 + 7) / 8 := UInt64.toNat_inj.1 (by rw [ofInt64 (by omega),e]; exact hq)
   rw [this]; simp
 · rw [decide_eq_true hq]
   have : UInt64.ofInt ((b.length : Nat) : Int) ≠ 6 + 32 * le2 b 2 + (le2 b 4 + 7) / 8 := fun hh => hq (by
    have := congrArg UInt64.toNat hh
    rw [ofInt64 (by omega),e] at this; exact this)
   simpa using this
theorem shr8N (x : UInt8) (k : Nat) (h : k < 256) : D.bool ((shr_u8 x (UInt64.ofInt ((k : Nat) : Int)).toNat &&& 1) == 1) = .bool ((shr_u8 x k &&& 1) == 1) := by rw [ofInt64 (by omega)]
theorem hsI_snoc (b : List UInt8) (o k : Nat) : hsI b o (k + 1) = hsI b o k ++ [fillH b (o + 32 * k) 32] := by rw [hsI,fillH_32]
theorem rput_pos {n : Int} {hs : List Hs} {fl : List Bool} (h : mayB n hs fl = true) : rputS n hs fl = (rputB n.toNat hs fl,0) := if_pos h
theorem rput_neg {n : Int} {hs : List Hs} {fl : List Bool} (h : ¬ mayB n hs fl = true) : rputS n hs fl = ([],1) := if_neg h
end Go.Sx

namespace Go.Sx
open Go.Proofs
set_option maxHeartbeats 2000000 in
theorem rget_ok_ (b : List UInt8) (hb0 : b.length ≤ 100000) : Fn Tryd.prog gl 19 [.sl none 1 (b.map D.u8)] (.tup [partD (rgetS b).1,.int (((rgetS b).2 : Nat) : Int)]) := by
 refine Fn.of (n := 126) Tryd.func19 rfl rfl rfl (nU rfl) fun C hC hD => ?_
 refine W.seq ?_
 refine W.l0 2 [] [] [] [(0,_)] [] 126 trivial O O O O (⟨O,_,R.alloc O (nU O),⟨O,_,R.asg (kI 0 O) O (nU O),tV [(0,_),(2,_)] [(2,.var _)] 126 O O O ?_⟩⟩)
 refine W.seq ?_
 refine W.l0 1 [] [] [] [(0,_),(2,_)] [(2,.var _)] 126 trivial O O O O (⟨O,_,R.alloc O (nU O),tV [(0,_),(2,_),(4,_)] [(4,.var _),(2,.var _)] 126 O O O ?_⟩)
 refine W.seq ?_
 refine W.seq ?_
 refine W.l0 3 [.y 20 _,.y 21 _,.y 22 _] [] [] [(0,_),(2,_),(4,_),(22,_)] [(4,.var _),(2,.var _)] 126 ⟨mU 0 O O,aU fun _ _ H K => R.lenE (SC.sl (K 20 _ O)) (List.length_map _) H,aU fun _ _ H K => R.lssN (b.length) (6) (eU K 21 O) (kI 6 O) H,trivial⟩ O O O O (tU O ?_)
 refine W.condD O (fun hc22 => ?_) (fun hc22 => ?_)
 · refine W.seq ?_
   refine W.l0 3 [.y 23 _] [] [] [(2,_),(23,_)] [(4,.var _),(2,.var _)] 126 ⟨aU (lU 4 O O O O O O O),trivial⟩ O O O O (⟨O,_,R.stZ (gU 2 O) (xU 2 O) O (gV 23 O) (by rfl) (by rfl) (by rfl) (by rfl) O,⟨O,_,R.asg (kI 5 O) O (nU O),tV [(2,_),(3,_)] [(4,.var _),(2,.var _)] 126 O O O ?_⟩⟩)
   refine W.wkB 2 (d' := partD zeroP) (bx' := [(4,.var _),(2,.var _)]) O wk_zeroP O ?_
   refine W.ret ?_
   exact Ends.many (.inr O) (.cons O O O (show LdT _ 33 3 true from inferInstance) (.cons O O O trivial .nil)) (by rw [rget_no (fun h => by have := h.1; omega)] <;> rfl) (show [(2,false),(3,true)].Nodup by decide)
 · refine W.skip ?_
   refine W.seq ?_
   refine W.l0 9 [.y 25 _,.y 26 _,.y 24 _,.y 27 _,.y 28 _,.y 29 _,.y 5 _,.y 6 _,.y 7 _] [] [] [(0,_),(2,_),(4,_),(5,_)] [(4,.var _),(2,.var _)] 126 ⟨mU 0 O O,aU fun _ _ H K => R.callG hC (rtake4_ok b 0 (by omega) (by omega)) (Bors.cons (Bor.pur (eU K 25 O) O O) (Bors.cons (Bor.pur (kI 0 O) O O) (Bors.cons (Bor.pur (kI 2 O) O O) Bors.nil))) (frs_tak _ _ _) H,aU fun _ _ H K => R.movT (K 26 _ O) O H,aU fun _ _ H K => R.ext (K 24 _ O) O O H,aU fun _ _ H K => R.ext (K 24 _ O) O O H,aU fun _ _ H K => R.ext (K 24 _ O) O O H,aU fun _ _ H K => R.asg (eU K 27 O) O H,aU fun _ _ H K => R.asg (eU K 28 O) O H,aU fun _ _ H K => R.asg (eU K 29 O) O H,trivial⟩ O O O O (tU O ?_)
   refine W.seq ?_
   refine W.l0 9 [.y 31 _,.y 32 _,.y 30 _,.y 33 _,.y 34 _,.y 35 _,.y 8 _,.y 9 _,.y 10 _] [] [] [(0,_),(2,_),(4,_),(5,_),(8,_)] [(4,.var _),(2,.var _)] 126 ⟨mU 0 O O,aU fun _ _ H K => R.callG hC (rtake4_ok b 2 (by omega) (by omega)) (Bors.cons (Bor.pur (eU K 31 O) O O) (Bors.cons (Bor.pur (kI 2 O) O O) (Bors.cons (Bor.pur (kI 2 O) O O) Bors.nil))) (frs_tak _ _ _) H,aU fun _ _ H K => R.movT (K 32 _ O) O H,aU fun _ _ H K => R.ext (K 30 _ O) O O H,aU fun _ _ H K => R.ext (K 30 _ O) O O H,aU fun _ _ H K => R.ext (K 30 _ O) O O H,aU fun _ _ H K => R.asg (eU K 33 O) O H,aU fun _ _ H K => R.asg (eU K 34 O) O H,aU fun _ _ H K => R.asg (eU K 35 O) O H,trivial⟩ O O O O (tU O ?_)
   refine W.seq ?_
   refine W.l0 9 [.y 37 _,.y 38 _,.y 36 _,.y 39 _,.y 40 _,.y 41 _,.y 11 _,.y 12 _,.y 13 _] [] [] [(0,_),(2,_),(4,_),(5,_),(8,_),(11,_)] [(4,.var _),(2,.var _)] 126 ⟨mU 0 O O,aU fun _ _ H K => R.callG hC (rtake4_ok b 4 (by omega) (by omega)) (Bors.cons (Bor.pur (eU K 37 O) O O) (Bors.cons (Bor.pur (kI 4 O) O O) (Bors.cons (Bor.pur (kI 2 O) O O) Bors.nil))) (frs_tak _ _ _) H,aU fun _ _ H K => R.movT (K 38 _ O) O H,aU fun _ _ H K => R.ext (K 36 _ O) O O H,aU fun _ _ H K => R.ext (K 36 _ O) O O H,aU fun _ _ H K => R.ext (K 36 _ O) O O H,aU fun _ _ H K => R.asg (eU K 39 O) O H,aU fun _ _ H K => R.asg (eU K 40 O) O H,aU fun _ _ H K => R.asg (eU K 41 O) O H,trivial⟩ O O O O (tU O ?_)
   refine W.seq ?_
   refine W.seq ?_
   have hn1 := le2_lt b 2
   have hn2 := le2_lt b 4
   have hn0 := le2_lt b 0
   change (gN b).2.1 < 65536 at hn1
   change (gN b).2.2 < 65536 at hn2
   change (gN b).1 < 65536 at hn0
   rw [takS_3 (b := b) (m := 0) (by omega) (by omega),takS_3 (b := b) (m := 2) (by omega) (by omega),takS_3 (b := b) (m := 4) (by omega) (by omega)]
   refine W.l0 11 [.y 42 _,.y 43 _,.y 44 _,.y 45 _,.y 46 _,.y 47 _,.y 48 _,.y 49 _,.y 50 _,.y 51 _,.y 52 _] [] [] [(0,_),(2,_),(4,_),(5,_),(8,_),(11,_),(52,_)] [(4,.var _),(2,.var _)] 126 ⟨mU 0 O O,aU fun _ _ H K => R.lenE (SC.sl (K 42 _ O)) (List.length_map _) H,aU fun _ _ H K => R.conv (eU K 43 O) O H,mU 8 O O,aU fun _ _ H K => R.bin (show ev _ _ (.const (.int .u64 32)) = some (.u64 32) from O) (eU K 45 O) O trivial H,aU fun _ _ H K => R.bin (show ev _ _ (.const (.int .u64 6)) = some (.u64 6) from O) (eU K 46 O) O trivial H,mU 11 O O,aU fun _ _ H K => R.bin (eU K 48 O) (show ev _ _ (.const (.int .u64 7)) = some (.u64 7) from O) O trivial H,aU fun _ _ H K => R.bin (eU K 49 O) (show ev _ _ (.const (.int .u64 8)) = some (.u64 8) from O) O (by decide) H,aU fun _ _ H K => R.bin (eU K 47 O) (eU K 50 O) O trivial H,aU fun _ _ H K => R.binE (d := .bool (decide (b.length ≠ (6 + 32 * (gN b).2.1) + (((gN b).2.2 + 7) / 8)))) (eU K 44 O) (eU K 51 O) O trivial (congrArg D.bool (len_u64 hb0)) H,trivial⟩ O O O O (tU O ?_)
   refine W.cond O (fun hc52 => ?_) (fun hc52 => ?_)
   · refine W.seq ?_
     refine W.l0 3 [.y 53 _] [] [] [(2,_),(53,_)] [(4,.var _),(2,.var _)] 126 ⟨aU (lU 4 O O O O O O O),trivial⟩ O O O O (⟨O,_,R.stZ (gU 2 O) (xU 2 O) O (gV 53 O) (by rfl) (by rfl) (by rfl) (by rfl) O,⟨O,_,R.asg (kI 5 O) O (nU O),tV [(2,_),(3,_)] [(4,.var _),(2,.var _)] 126 O O O ?_⟩⟩)
     refine W.wkB 2 (d' := partD zeroP) (bx' := [(4,.var _),(2,.var _)]) O wk_zeroP O ?_
     refine W.ret ?_
     exact Ends.many (.inr O) (.cons O O O (show LdT _ 33 3 true from inferInstance) (.cons O O O trivial .nil)) (by rw [rget_no (fun h => (of_decide_eq_true hc52) h.2.1)] <;> rfl) (show [(2,false),(3,true)].Nodup by decide)
   · refine W.skip ?_
     refine W.seq ?_
     have hlen := of_decide_eq_false hc52
     have hlen : b.length = (6 + 32 * (gN b).2.1) + (((gN b).2.2 + 7) / 8) := by omega
     refine W.l0 4 [.y 54 _,.y 55 _,.y 56 _] [] [] [(0,_),(2,_),(4,_),(8,_),(11,_),(55,_),(56,_)] [(4,.var _),(2,.var _)] 126 ⟨mU 5 O O,aU fun _ _ H K => R.convE (d := .int (((gN b).1 : Nat) : Int)) (eU K 54 O) O (wr_eq O (by omega) (by omega)) H,aU (fU 4 O O),trivial⟩ O O O O (⟨O,_,R.stZ (gU 56 O) (xU 4 O) O (gV 55 O) (by rfl) (by rfl) (by rfl) (by rfl) O,tV [(0,_),(2,_),(4,_),(8,_),(11,_)] [(4,.var _),(2,.var _)] 126 O O O ?_⟩)
     refine W.seq ?_
     refine W.seq ?_
     refine W.asOwnP 4 [1] 38 32 (bx' := [(4,.var _),(2,.var _)]) O O O O O ?_
     refine W.asOwnP 4 [2] 4 1 (bx' := [(4,.var _),(2,.var _)]) O O O O O ?_
     refine W.l0 1 [.y 14 _] [] [] [(0,_),(2,_),(4,_),(8,_),(11,_),(14,_)] [(4,.var _),(2,.var _)] 126 ⟨aU fun _ _ H _ => R.asg (kI 0 O) O H,trivial⟩ O O O O (tU O ?_)
     refine W.block ?_
     refine W.loop (α := {q__ : Nat // q__ ≤ (gN b).2.1}) (fun q__ => ⟨126,[(0,.sl none 1 (b.map D.u8)),(2,.ptr 2 0 []),(4,.ptr 4 0 []),(8,.u64 (le2 b 2)),(11,.u64 (le2 b 4)),(14,.int ((q__.1 : Nat) : Int))],[(4,.var (.agg [.int (((gN b).1 : Nat) : Int),.sl (some 38) 32 ((hsI b 6 q__.1).map hashD),.sl (some 4) 1 (([] : List Bool).map D.bool)])),(2,.var (.agg [.int 0,.nils,.nils]))]⟩) (fun q__ => (gN b).2.1 - q__.1) ⟨(0),bU⟩ O ?_
     rintro ⟨k,hk⟩
     show W _ _ _ _ ⟨126,[(0,.sl none 1 (b.map D.u8)),(2,.ptr 2 0 []),(4,.ptr 4 0 []),(8,.u64 (le2 b 2)),(11,.u64 (le2 b 4)),(14,.int ((k : Nat) : Int))],[(4,.var (.agg [.int (((gN b).1 : Nat) : Int),.sl (some 38) 32 ((hsI b 6 k).map hashD),.sl (some 4) 1 (([] : List Bool).map D.bool)])),(2,.var (.agg [.int 0,.nils,.nils]))]⟩
     have hk : k ≤ (gN b).2.1 := hk
     have hhl := hsI_len b 6 k
     refine W.seq ?_
     refine W.seq ?_
     refine W.l0 4 [.y 57 _,.y 58 _,.y 59 _,.y 60 _] [] [] [(0,_),(2,_),(4,_),(8,_),(11,_),(14,_),(60,_)] [(4,.var _),(2,.var _)] 126 ⟨mU 14 O O,mU 8 O O,aU fun _ _ H K => R.convE (d := .int (((gN b).2.1 : Nat) : Int)) (eU K 58 O) O (wr_eq O (by omega) (by omega)) H,aU fun _ _ H K => R.lssN (k) ((gN b).2.1) (eU K 57 O) (eU K 59 O) H,trivial⟩ O O O O (tU O ?_)
     refine W.condD O (fun hc60 => ?_) (fun hc60 => ?_)
     · refine W.skip ?_
       refine W.seq ?_
       refine W.block ?_
       refine W.seq ?_
       refine W.l0 1 [] [] [] [(0,_),(2,_),(4,_),(8,_),(11,_),(14,_)] [(4,.var _),(2,.var _)] 126 trivial O O O O (⟨O,_,R.alloc O (nU O),tV [(0,_),(2,_),(4,_),(8,_),(11,_),(14,_),(15,_)] [(15,.var _),(4,.var _),(2,.var _)] 126 O O O ?_⟩)
       refine W.seq ?_
       refine W.seq ?_
       refine W.l0 1 [.y 16 _] [] [] [(0,_),(2,_),(4,_),(8,_),(11,_),(14,_),(15,_),(16,_)] [(15,.var _),(4,.var _),(2,.var _)] 126 ⟨aU fun _ _ H _ => R.asg (kI 0 O) O H,trivial⟩ O O O O (tU O ?_)
       refine W.block ?_
       refine W.loop (α := {q__ : Nat // q__ ≤ 32}) (fun q__ => ⟨126,[(0,.sl none 1 (b.map D.u8)),(2,.ptr 2 0 []),(4,.ptr 4 0 []),(8,.u64 (le2 b 2)),(11,.u64 (le2 b 4)),(14,.int ((k : Nat) : Int)),(15,.ptr 15 0 []),(16,.int ((q__.1 : Nat) : Int))],[(15,.var (.arr 32 1 ((fillH b (6 + 32 * k) q__.1).map D.u8))),(4,.var (.agg [.int (((gN b).1 : Nat) : Int),.sl (some 38) 32 ((hsI b 6 k).map hashD),.sl (some 4) 1 (([] : List Bool).map D.bool)])),(2,.var (.agg [.int 0,.nils,.nils]))]⟩) (fun q__ => 32 - q__.1) ⟨(0),bU⟩ (by rw [fillH_0] <;> rfl) ?_
       rintro ⟨j,hj⟩
       show W _ _ _ _ ⟨126,[(0,.sl none 1 (b.map D.u8)),(2,.ptr 2 0 []),(4,.ptr 4 0 []),(8,.u64 (le2 b 2)),(11,.u64 (le2 b 4)),(14,.int ((k : Nat) : Int)),(15,.ptr 15 0 []),(16,.int ((j : Nat) : Int))],[(15,.var (.arr 32 1 ((fillH b (6 + 32 * k) j).map D.u8))),(4,.var (.agg [.int (((gN b).1 : Nat) : Int),.sl (some 38) 32 ((hsI b 6 k).map hashD),.sl (some 4) 1 (([] : List Bool).map D.bool)])),(2,.var (.agg [.int 0,.nils,.nils]))]⟩
       have hj : j ≤ 32 := hj
       have hfl := fillH_len (b := b) (o := (6 + 32 * k)) (k := j) (by omega) hj
       refine W.seq ?_
       refine W.seq ?_
       refine W.l0 2 [.y 63 _,.y 64 _] [] [] [(0,_),(2,_),(4,_),(8,_),(11,_),(14,_),(15,_),(16,_),(64,_)] [(15,.var _),(4,.var _),(2,.var _)] 126 ⟨mU 16 O O,aU fun _ _ H K => R.lssN (j) (32) (eU K 63 O) (kI 32 O) H,trivial⟩ O O O O (tU O ?_)
       refine W.condD O (fun hc64 => ?_) (fun hc64 => ?_)
       · refine W.skip ?_
         refine W.seq ?_
         refine W.block ?_
         refine W.l0 11 [.y 67 _,.y 68 _,.y 69 _,.y 70 _,.y 71 _,.y 72 _,.y 73 _,.y 74 _,.y 75 _,.y 76 _] [] [] [(0,_),(2,_),(4,_),(8,_),(11,_),(14,_),(15,_),(16,_),(75,_),(76,_)] [(15,.var _),(4,.var _),(2,.var _)] 126 ⟨mU 16 O O,mU 0 O O,mU 14 O O,aU fun _ _ H K => R.mulN (32) (k) (kI 32 O) (eU K 69 O) bU H,aU fun _ _ H K => R.addN (6) ((32 * k)) (kI 6 O) (eU K 70 O) bU H,mU 16 O O,aU fun _ _ H K => R.addN ((6 + (32 * k))) (j) (eU K 71 O) (eU K 72 O) bU H,aU fun _ _ H K => R.idxN (((6 + (32 * k)) + j)) (SC.sl (K 68 _ O)) (evoI (eU K 73 O)) O bU H (by decide),aU fun _ _ H K => R.ldE (K 74 _ O) (SC.sl (K 68 _ O)) (map_get! (l := b) bU) O O O O H,aU fun _ _ H K => R.idxP (j) (K 15 _ O) (evoI (eU K 67 O)) O bU H,trivial⟩ O O O O (⟨O,_,R.stZ (gU 76 O) (xU 15 O) (loc_arr (map_get! (l := (fillH b (6 + 32 * k) j)) bU) loc_nil bU) (gV 75 O) (by rfl) (by rfl) (by rfl) (by rfl) (upd_arr (map_get! (l := (fillH b (6 + 32 * k) j)) bU) upd_nil set_map),tV [(0,_),(2,_),(4,_),(8,_),(11,_),(14,_),(15,_),(16,_)] [(15,.var _),(4,.var _),(2,.var _)] 126 O O O ?_⟩)
         refine W.l0 3 [.y 65 _,.y 66 _,.y 16 _] [] [] [(0,_),(2,_),(4,_),(8,_),(11,_),(14,_),(15,_),(16,_)] [(15,.var _),(4,.var _),(2,.var _)] 126 ⟨mU 16 O O,aU fun _ _ H K => R.addN (j) (1) (eU K 65 O) (kI 1 O) bU H,aU fun _ _ H K => R.asg (eU K 66 O) O H,trivial⟩ O O O O (tU O ?_)
         exact ⟨⟨(j + 1),bU⟩,(by rw [← fillH_succ (by omega) (by omega)] <;> rfl),(by simp only []; omega)⟩
       · obtain rfl : j = 32 := by omega
         refine W.exit ?_
         refine W.l0 7 [.y 77 _,.y 78 _,.y 79 _,.y 80 _] [] [] [(0,_),(2,_),(4,_),(8,_),(11,_),(14,_),(78,_),(80,_)] [(15,.var _),(4,.var _),(2,.var _)] 126 ⟨aU (fU 4 O O),aU fun _ B H K => R.ldO (K 77 _ O) (B 4 _ O) O H,aU (lU 15 O O O O O O O),aU fun _ _ H K => R.bslE (z := 32) (.cons (eU K 79 O) .nil) ⟨⟨O,O,O⟩,trivial⟩ O H (by decide),trivial⟩ O O O O (⟨O,_,R.appBP (gU 78 O) (xU 4 O) O O O O (gU 78 O) (SrcO.sc (SC.sl (gU 80 O)) (pur_lit O)) (show _ = ((hsI b 6 (k + 1)).map hashD) from (by rw [hsI_snoc,List.map_append]; rfl)) (by simp [hsI_len]; omega) (nU O) (by decide) (by decide),⟨O,_,R.fdP (gU 4 O) (nU O),⟨O,_,R.stOZ (gU 82 O) (xU 4 O) O (gU 81 O) O O (by rfl) (by rfl) O O,tV [(0,_),(2,_),(4,_),(8,_),(11,_),(14,_)] [(15,.var _),(4,.var _),(2,.var _)] 126 O O O ?_⟩⟩⟩)
         refine W.dropB [2,4] (bx' := [(4,.var _),(2,.var _)]) O O O (pin_sub hD O) ?_
         refine W.l0 3 [.y 61 _,.y 62 _,.y 14 _] [] [] [(0,_),(2,_),(4,_),(8,_),(11,_),(14,_)] [(4,.var _),(2,.var _)] 126 ⟨mU 14 O O,aU fun _ _ H K => R.addN (k) (1) (eU K 61 O) (kI 1 O) bU H,aU fun _ _ H K => R.asg (eU K 62 O) O H,trivial⟩ O O O O (tU O ?_)
         exact ⟨⟨(k + 1),bU⟩,rfl,(by simp only []; omega)⟩
     · obtain rfl : k = (gN b).2.1 := by omega
       refine W.exit ?_
       refine W.seq ?_
       refine W.seq ?_
       refine W.l0 1 [.y 17 _] [] [] [(0,_),(2,_),(4,_),(8,_),(11,_),(17,_)] [(4,.var _),(2,.var _)] 126 ⟨aU fun _ _ H _ => R.asg (kI 0 O) O H,trivial⟩ O O O O (tU O ?_)
       refine W.block ?_
       refine W.loop (α := {q__ : Nat // q__ ≤ (gN b).2.2}) (fun q__ => ⟨126,[(0,.sl none 1 (b.map D.u8)),(2,.ptr 2 0 []),(4,.ptr 4 0 []),(8,.u64 (le2 b 2)),(11,.u64 (le2 b 4)),(17,.int ((q__.1 : Nat) : Int))],[(4,.var (.agg [.int (((gN b).1 : Nat) : Int),.sl (some 38) 32 ((hsI b 6 (gN b).2.1).map hashD),.sl (some 4) 1 ((flI b (6 + 32 * (gN b).2.1) q__.1).map D.bool)])),(2,.var (.agg [.int 0,.nils,.nils]))]⟩) (fun q__ => (gN b).2.2 - q__.1) ⟨(0),bU⟩ O ?_
       rintro ⟨i,hi⟩
       show W _ _ _ _ ⟨126,[(0,.sl none 1 (b.map D.u8)),(2,.ptr 2 0 []),(4,.ptr 4 0 []),(8,.u64 (le2 b 2)),(11,.u64 (le2 b 4)),(17,.int ((i : Nat) : Int))],[(4,.var (.agg [.int (((gN b).1 : Nat) : Int),.sl (some 38) 32 ((hsI b 6 (gN b).2.1).map hashD),.sl (some 4) 1 ((flI b (6 + 32 * (gN b).2.1) i).map D.bool)])),(2,.var (.agg [.int 0,.nils,.nils]))]⟩
       have hi : i ≤ (gN b).2.2 := hi
       have hfl := flI_len b (6 + 32 * (gN b).2.1) i
       refine W.seq ?_
       refine W.seq ?_
       refine W.l0 4 [.y 83 _,.y 84 _,.y 85 _,.y 86 _] [] [] [(0,_),(2,_),(4,_),(8,_),(11,_),(17,_),(86,_)] [(4,.var _),(2,.var _)] 126 ⟨mU 17 O O,mU 11 O O,aU fun _ _ H K => R.convE (d := .int (((gN b).2.2 : Nat) : Int)) (eU K 84 O) O (wr_eq O (by omega) (by omega)) H,aU fun _ _ H K => R.lssN (i) ((gN b).2.2) (eU K 83 O) (eU K 85 O) H,trivial⟩ O O O O (tU O ?_)
       refine W.condD O (fun hc86 => ?_) (fun hc86 => ?_)
       · refine W.skip ?_
         refine W.seq ?_
         refine W.block ?_
         refine W.draw (m := 19) (an := [0,1,0,0,8,24,56,0,128,504,1020,2044,0,4096,12288,32764,65532,131068,262140,524287,1048575,2097151]) hP (by decide) O (its := [.y 89 _,.y 90 _,.y 91 _,.y 92 _,.y 93 _,.y 94 _,.y 95 _,.y 96 _,.y 97 _,.y 98 _,.y 99 _,.y 100 _,.y 101 _,.y 102 _,.y 103 _,.y 104 _,.y 105 _,.y 106 _,.y 107 _]) (ks := []) (kk := []) (live := [0,2,4,8,11,17,90,107]) (env' := [(0,_),(2,_),(4,_),(8,_),(11,_),(17,_),(90,_),(107,_)]) (⟨nU O,O,⟨aU (fU 4 O O),aU fun _ B H K => R.ldO (K 89 _ O) (B 4 _ O) O H,mU 0 O O,mU 8 O O,aU fun _ _ H K => R.convE (d := .int (((gN b).2.1 : Nat) : Int)) (eU K 92 O) O (wr_eq O (by omega) (by omega)) H,aU fun _ _ H K => R.mulN (32) ((gN b).2.1) (kI 32 O) (eU K 93 O) bU H,aU fun _ _ H K => R.addN (6) ((32 * (gN b).2.1)) (kI 6 O) (eU K 94 O) bU H,mU 17 O O,aU fun _ _ H K => R.quoN (i) (8) (eU K 96 O) (kI 8 O) bU bU H,aU fun _ _ H K => R.addN ((6 + (32 * (gN b).2.1))) ((i / 8)) (eU K 95 O) (eU K 97 O) bU H,aU fun _ _ H K => R.idxN (((6 + (32 * (gN b).2.1)) + (i / 8))) (SC.sl (K 91 _ O)) (evoI (eU K 98 O)) O bU H (by decide),aU fun _ _ H K => R.ldE (K 99 _ O) (SC.sl (K 91 _ O)) (map_get! (l := b) bU) O O O O H,mU 17 O O,aU fun _ _ H K => R.remN (i) (8) (eU K 101 O) (kI 8 O) bU H,aU fun _ _ H K => R.conv (eU K 102 O) O H,aU fun _ _ H K => R.bin (eU K 100 O) (eU K 103 O) O bV H,aU fun _ _ H K => R.bin (eU K 104 O) (show ev _ _ (.const (.int .u8 1)) = some (.u8 1) from O) O trivial H,aU fun _ _ H K => R.binE (d := .bool (bitS b (6 + 32 * (gN b).2.1) i)) (eU K 105 O) (show ev _ _ (.const (.int .u8 1)) = some (.u8 1) from O) O trivial (shr8N _ (i % 8) (by omega)) H,aU fun _ _ H K => R.bslE (z := 1) (.cons (eU K 106 O) .nil) ⟨⟨O,O,O⟩,trivial⟩ O H (by decide),trivial⟩,O,O,O⟩) O (bx' := [(4,.var _),(2,.var _)]) O (n' := 126) O (⟨O,_,R.appBP (gU 90 O) (xU 4 O) O O O O (gU 90 O) (SrcO.sc (SC.sl (gU 107 O)) (pur_lit O)) (show _ = ((flI b (6 + 32 * (gN b).2.1) (i + 1)).map D.bool) from (by rw [flI_succ,List.map_append]; rfl)) (by simp [flI_len]; omega) (nU O) (by decide) (by decide),⟨O,_,R.fdP (gU 4 O) (nU O),⟨O,_,R.stOZ (gU 109 O) (xU 4 O) O (gU 108 O) O O (by rfl) (by rfl) O O,tV [(0,_),(2,_),(4,_),(8,_),(11,_),(17,_)] [(4,.var _),(2,.var _)] 126 O O O ?_⟩⟩⟩)
         refine W.l0 3 [.y 87 _,.y 88 _,.y 17 _] [] [] [(0,_),(2,_),(4,_),(8,_),(11,_),(17,_)] [(4,.var _),(2,.var _)] 126 ⟨mU 17 O O,aU fun _ _ H K => R.addN (i) (1) (eU K 87 O) (kI 1 O) bU H,aU fun _ _ H K => R.asg (eU K 88 O) O H,trivial⟩ O O O O (tU O ?_)
         exact ⟨⟨(i + 1),bU⟩,rfl,(by simp only []; omega)⟩
       · obtain rfl : i = (gN b).2.2 := by omega
         refine W.exit ?_
         refine W.seq ?_
         refine W.brwB 4 (d' := .agg [.int (((gN b).1 : Nat) : Int),.sl none 32 ((hsI b 6 (gN b).2.1).map hashD),.sl none 1 ((flI b (6 + 32 * (gN b).2.1) (gN b).2.2).map D.bool)]) (bx' := [(4,.var _),(2,.var _)]) O (show (D.agg [.int (((gN b).1 : Nat) : Int),.sl (some 38) 32 ((hsI b 6 (gN b).2.1).map hashD),.sl (some 4) 1 ((flI b (6 + 32 * (gN b).2.1) (gN b).2.2).map D.bool)]).brw = _ from by simp only [D.brw,brws_eq,List.map_cons,List.map_nil]; rw [brw_map brw_hash,brw_map (fun _ => rfl)]) O ?_
         have hha : allH (hsI b 6 (gN b).2.1) := hsI_all _ (by omega)
         refine W.l0 7 [.y 111 _,.y 112 _,.y 110 _,.y 113 _,.y 114 _,.y 18 _,.y 19 _] [] [] [(0,_),(2,_),(4,_),(18,_),(19,_)] [(4,.var _),(2,.var _)] 126 ⟨aU (lU 4 O O O O O O O),aU fun _ _ H K => R.callZ (r' := .tup [.sl none 1 ((rputS (((gN b).1 : Nat) : Int) (hsI b 6 (gN b).2.1) (flI b (6 + 32 * (gN b).2.1) (gN b).2.2)).1.map D.u8),.int (((rputS (((gN b).1 : Nat) : Int) (hsI b 6 (gN b).2.1) (flI b (6 + 32 * (gN b).2.1) (gN b).2.2)).2 : Nat) : Int)]) (rpput_ok (((gN b).1 : Nat) : Int) (hsI b 6 (gN b).2.1) (flI b (6 + 32 * (gN b).2.1) (gN b).2.2) hha) hC (Bors.cons (Bor.pur (eU K 111 O) O O) Bors.nil) (FrsR.two (.sl _ _ _ (frs_map fun _ => .u8 _)) (.int _)) (by show D.tup [_,_] = _; simp only [D.brw,brws_eq]; rw [brw_map (fun _ => rfl)]) H,aU fun _ _ H K => R.movT (K 112 _ O) O H,aU fun _ _ H K => R.ext (K 110 _ O) O O H,aU fun _ _ H K => R.ext (K 110 _ O) O O H,aU fun _ _ H K => R.asg (eU K 113 O) O H,aU fun _ _ H K => R.asg (eU K 114 O) O H,trivial⟩ O O O O (tU O ?_)
         refine W.seq ?_
         refine W.seq ?_
         by_cases hm : mayB (gPart b).n (gPart b).hs (gPart b).fl = true
         · refine W.l0 9 [.y 115 _,.y 116 _,.y 117 _,.y 118 _,.y 119 _,.y 120 _,.y 121 _,.y 122 _,.y 123 _] [] [] [(2,_),(4,_),(123,_)] [(4,.var _),(2,.var _)] 126 ⟨mU 19 O O,aU fun _ _ H K => R.neqN ((rputS (((gN b).1 : Nat) : Int) (hsI b 6 (gN b).2.1) (flI b (6 + 32 * (gN b).2.1) (gN b).2.2)).2) (0) (eU K 115 O) (kI 0 O) H,mU 116 O O,aW O O (gF (by rw [show (rputS (((gN b).1 : Nat) : Int) (hsI b 6 (gN b).2.1) (flI b (6 + 32 * (gN b).2.1) (gN b).2.2)).2 = 0 from congrArg Prod.snd (rput_pos hm)]; rfl) O) fun _ _ H K => R.mov (eU K 18 O) O H,aW O O (gF (by rw [show (rputS (((gN b).1 : Nat) : Int) (hsI b 6 (gN b).2.1) (flI b (6 + 32 * (gN b).2.1) (gN b).2.2)).2 = 0 from congrArg Prod.snd (rput_pos hm)]; rfl) O) fun _ _ H K => R.cvS (xs := (rputS (((gN b).1 : Nat) : Int) (hsI b 6 (gN b).2.1) (flI b (6 + 32 * (gN b).2.1) (gN b).2.2)).1) (SC.sl (K 118 _ O)) H,aW O O (gF (by rw [show (rputS (((gN b).1 : Nat) : Int) (hsI b 6 (gN b).2.1) (flI b (6 + 32 * (gN b).2.1) (gN b).2.2)).2 = 0 from congrArg Prod.snd (rput_pos hm)]; rfl) O) fun _ _ H K => R.mov (eU K 0 O) O H,aW O O (gF (by rw [show (rputS (((gN b).1 : Nat) : Int) (hsI b 6 (gN b).2.1) (flI b (6 + 32 * (gN b).2.1) (gN b).2.2)).2 = 0 from congrArg Prod.snd (rput_pos hm)]; rfl) O) fun _ _ H K => R.cvS (xs := b) (SC.sl (K 120 _ O)) H,aW O O (gF (by rw [show (rputS (((gN b).1 : Nat) : Int) (hsI b 6 (gN b).2.1) (flI b (6 + 32 * (gN b).2.1) (gN b).2.2)).2 = 0 from congrArg Prod.snd (rput_pos hm)]; rfl) O) fun _ _ H K => R.bin (eU K 119 O) (eU K 121 O) O trivial H,aU fun _ _ H K => R.pickF (eU K 117 O) (by rw [show (rputS (((gN b).1 : Nat) : Int) (hsI b 6 (gN b).2.1) (flI b (6 + 32 * (gN b).2.1) (gN b).2.2)).2 = 0 from congrArg Prod.snd (rput_pos hm)]; rfl) (eU K 122 O) O H,trivial⟩ O O O O (tU O ?_)
           refine W.cond O (fun hc123 => ?_) (fun hc123 => ?_)
           · refine W.seq ?_
             refine W.l0 3 [.y 124 _] [] [] [(2,_),(124,_)] [(4,.var _),(2,.var _)] 126 ⟨aU fun _ _ H _ => R.bldSE (l := [.int 0,.nils,.nils]) (l' := [_,_,_]) (.nil O) trivial H,trivial⟩ O O O O (⟨O,_,R.stZ (gU 2 O) (xU 2 O) O (gV 124 O) (by rfl) (by rfl) (by rfl) (by rfl) O,⟨O,_,R.asg (kI 5 O) O (nU O),tV [(2,_),(3,_)] [(4,.var _),(2,.var _)] 126 O O O ?_⟩⟩)
             refine W.wkB 2 (d' := partD zeroP) (bx' := [(4,.var _),(2,.var _)]) O wk_zeroP O ?_
             refine W.ret ?_
             exact Ends.many (.inr O) (.cons O O O (show LdT _ 33 3 true from inferInstance) (.cons O O O trivial .nil)) (by rw [rget_no (fun h => by have h2 := h.2.2.2; have h3 : (rputS (((gN b).1 : Nat) : Int) (hsI b 6 (gN b).2.1) (flI b (6 + 32 * (gN b).2.1) (gN b).2.2)).1 = b := (show (rputS (((gN b).1 : Nat) : Int) (hsI b 6 (gN b).2.1) (flI b (6 + 32 * (gN b).2.1) (gN b).2.2)).1 = rputB (gN b).1 (gPart b).hs (gPart b).fl from congrArg Prod.fst (rput_pos hm)).trans h2; rw [h3] at hc123; simp at hc123)] <;> rfl) (show [(2,false),(3,true)].Nodup by decide)
           · refine W.skip ?_
             refine W.seq ?_
             refine W.l0 3 [.y 125 _] [] [] [(2,_),(125,_)] [(4,.var _),(2,.var _)] 126 ⟨aU (lU 4 O O O O O O O),trivial⟩ O O O O (⟨O,_,R.stZ (gU 2 O) (xU 2 O) O (gV 125 O) (by rfl) (by rfl) (by rfl) (by rfl) O,⟨O,_,R.asg (kI 0 O) O (nU O),tV [(2,_),(3,_)] [(4,.var _),(2,.var _)] 126 O O O ?_⟩⟩)
             refine W.ret ?_
             exact Ends.many (.inr O) (.cons O O O (show LdT _ 33 3 true from inferInstance) (.cons O O O trivial .nil)) (by rw [rget_ok ⟨by omega,hlen,hm,(show (rputS (((gN b).1 : Nat) : Int) (hsI b 6 (gN b).2.1) (flI b (6 + 32 * (gN b).2.1) (gN b).2.2)).1 = rputB (gN b).1 (gPart b).hs (gPart b).fl from congrArg Prod.fst (rput_pos hm)).symm.trans (by simpa using hc123)⟩] <;> rfl) (show [(2,false),(3,true)].Nodup by decide)
         · refine W.l0 9 [.y 115 _,.y 116 _,.y 117 _,.x 118,.x 119,.x 120,.x 121,.x 122,.y 123 _] [] [] [(2,_),(4,_),(123,_)] [(4,.var _),(2,.var _)] 126 ⟨mU 19 O O,aU fun _ _ H K => R.neqN ((rputS (((gN b).1 : Nat) : Int) (hsI b 6 (gN b).2.1) (flI b (6 + 32 * (gN b).2.1) (gN b).2.2)).2) (0) (eU K 115 O) (kI 0 O) H,mU 116 O O,aF O O (gT (by rw [show (rputS (((gN b).1 : Nat) : Int) (hsI b 6 (gN b).2.1) (flI b (6 + 32 * (gN b).2.1) (gN b).2.2)).2 = 1 from congrArg Prod.snd (rput_neg hm)]; rfl) O),aF O O (gT (by rw [show (rputS (((gN b).1 : Nat) : Int) (hsI b 6 (gN b).2.1) (flI b (6 + 32 * (gN b).2.1) (gN b).2.2)).2 = 1 from congrArg Prod.snd (rput_neg hm)]; rfl) O),aF O O (gT (by rw [show (rputS (((gN b).1 : Nat) : Int) (hsI b 6 (gN b).2.1) (flI b (6 + 32 * (gN b).2.1) (gN b).2.2)).2 = 1 from congrArg Prod.snd (rput_neg hm)]; rfl) O),aF O O (gT (by rw [show (rputS (((gN b).1 : Nat) : Int) (hsI b 6 (gN b).2.1) (flI b (6 + 32 * (gN b).2.1) (gN b).2.2)).2 = 1 from congrArg Prod.snd (rput_neg hm)]; rfl) O),aF O O (gT (by rw [show (rputS (((gN b).1 : Nat) : Int) (hsI b 6 (gN b).2.1) (flI b (6 + 32 * (gN b).2.1) (gN b).2.2)).2 = 1 from congrArg Prod.snd (rput_neg hm)]; rfl) O),aU fun _ _ H K => R.pickT (eU K 117 O) (by rw [show (rputS (((gN b).1 : Nat) : Int) (hsI b 6 (gN b).2.1) (flI b (6 + 32 * (gN b).2.1) (gN b).2.2)).2 = 1 from congrArg Prod.snd (rput_neg hm)]; rfl) (kB true O) O H,trivial⟩ O O O O (tU O ?_)
           refine W.condT O (O) ?_
           refine W.seq ?_
           refine W.l0 3 [.y 124 _] [] [] [(2,_),(124,_)] [(4,.var _),(2,.var _)] 126 ⟨aU fun _ _ H _ => R.bldSE (l := [.int 0,.nils,.nils]) (l' := [_,_,_]) (.nil O) trivial H,trivial⟩ O O O O (⟨O,_,R.stZ (gU 2 O) (xU 2 O) O (gV 124 O) (by rfl) (by rfl) (by rfl) (by rfl) O,⟨O,_,R.asg (kI 5 O) O (nU O),tV [(2,_),(3,_)] [(4,.var _),(2,.var _)] 126 O O O ?_⟩⟩)
           refine W.wkB 2 (d' := partD zeroP) (bx' := [(4,.var _),(2,.var _)]) O wk_zeroP O ?_
           refine W.ret ?_
           exact Ends.many (.inr O) (.cons O O O (show LdT _ 33 3 true from inferInstance) (.cons O O O trivial .nil)) (by rw [rget_no (fun h => hm h.2.2.1)] <;> rfl) (show [(2,false),(3,true)].Nodup by decide)

end Go.Sx

namespace Go.Sx
theorem get!_snoc {α : Type} [Inhabited α] (l : List α) (x : α) (j : Nat) : (l ++ [x])[j]! = if j < l.length then l[j]! else if j = l.length then x else default := by
 split
 · rename_i h
   rw [getElem!_pos _ j (by simp; omega),getElem!_pos l j h,List.getElem_append_left h]
 · split
   · rename_i h h2
     subst h2
     rw [getElem!_pos _ _ (by simp)]; simp
   · rw [getElem!_neg _ j (by simp; omega)]
theorem upFI_get (f : List Bool) : ∀ (i j : Nat),j < i → (upFI f i)[j]! = (f[2 * j]! || f[min (2 * j + 1) (f.length - 1)]!) := by
 intro i
 induction i with
 | zero => intro j h; omega
 | succ i ih =>
  intro j h
  rw [upFI,get!_snoc,upFI_len]
  by_cases hj : j < i
  · rw [if_pos hj]; exact ih j hj
  · rw [if_neg hj,if_pos (by omega)]
    rw [show j = i by omega]
theorem calS_iff (is : List Bool) (row k : Nat) : calS is row k = true ↔ ∃ i,i < is.length ∧ i / 2 ^ row = k ∧ is[i]! = true := by
 constructor
 · intro h
   unfold calS at h
   rw [List.any_eq_true] at h
   obtain ⟨i,hi,h2⟩ := h
   simp only [Bool.and_eq_true,decide_eq_true_eq] at h2
   exact ⟨i,List.mem_range.1 hi,h2⟩
 · rintro ⟨i,hi,h1,h2⟩
   exact calS_t hi h1 h2
theorem calS_succ (is : List Bool) (r k : Nat) : calS is (r + 1) k = (calS is r (2 * k) || calS is r (2 * k + 1)) := by
 rw [Bool.eq_iff_iff,Bool.or_eq_true,calS_iff,calS_iff,calS_iff]
 have key : ∀ i,i / 2 ^ (r + 1) = k ↔ i / 2 ^ r = 2 * k ∨ i / 2 ^ r = 2 * k + 1 := fun i => by
  rw [Nat.pow_succ,← Nat.div_div_eq_div_mul]; omega
 constructor
 · rintro ⟨i,hi,h1,h2⟩
   rcases (key i).1 h1 with h | h
   · exact .inl ⟨i,hi,h,h2⟩
   · exact .inr ⟨i,hi,h,h2⟩
 · rintro (⟨i,hi,h1,h2⟩ | ⟨i,hi,h1,h2⟩)
   · exact ⟨i,hi,(key i).2 (.inl h1),h2⟩
   · exact ⟨i,hi,(key i).2 (.inr h1),h2⟩
theorem calS_far {is : List Bool} {r k : Nat} (h : lenA is.length r ≤ k) : calS is r k = false := by
 refine calS_f fun i hi hh => ?_
 have := idx_lt (n := is.length) hi r
 omega
theorem flA_leng (f : List Bool) (r : Nat) : (flA f r).length = lenA f.length r := by
 induction r with
 | zero => rfl
 | succ r ih => show (upFI _ _).length = _; rw [upFI_len,ih]; rfl
theorem flA_cal (f : List Bool) : ∀ (r k : Nat),k < lenA f.length r → (flA f r)[k]! = calS f r k := by
 intro r
 induction r with
 | zero =>
  intro k hk
  have hk : k < f.length := hk
  show f[k]! = _
  rw [Bool.eq_iff_iff,calS_iff]
  constructor
  · intro h; exact ⟨k,hk,by simp,h⟩
  · rintro ⟨i,hi,h1,h2⟩
    have : i = k := by simpa using h1
    rw [← this]; exact h2
 | succ r ih =>
  intro k hk
  have hl := flA_leng f r
  have hk' : k < (lenA f.length r + 1) / 2 := hk
  show (upFI (flA f r) (((flA f r).length + 1) / 2))[k]! = _
  rw [upFI_get _ _ _ (by omega),calS_succ,ih (2 * k) (by omega),hl]
  by_cases h2 : 2 * k + 1 < lenA f.length r
  · rw [Nat.min_eq_left (by omega),ih _ h2]
  · rw [Nat.min_eq_right (by omega),show lenA f.length r - 1 = 2 * k by omega,ih (2 * k) (by omega),calS_far (k := 2 * k + 1) (by omega),Bool.or_self,Bool.or_false]
theorem wkB_congr {L : List (List Hs)} {F F' : List (List Bool)} (h : ∀ r k : Nat,k < L[r]!.length → F[r]![k]! = F'[r]![k]!) : ∀ (r k : Nat) (p : List Hs × List Bool),wkB L F r k p = wkB L F' r k p := by
 intro r
 induction r with
 | zero =>
  intro k p
  simp only [wkB]
  split
  · rfl
  · rw [h 0 k (by omega)]
 | succ r ih =>
  intro k p
  simp only [wkB]
  split
  · rfl
  · rw [h (r + 1) k (by omega)]
    split
    · rw [ih,ih]
    · rfl
theorem rows_out (J : Hs → Hs → Hs) (l : List Hs) (r : Nat) (h : ¬ r < nRows l.length) : (rowsL J l (nRows l.length))[r]! = [] := by
 rw [getElem!_neg _ r (by rw [rowsL_len]; exact h)]; rfl
theorem bw_r {l : List Hs} {f : List Bool} (hf : f.length = l.length) : bwS l f = rbwS l f := by
 unfold bwS rbwS
 rw [join_r]
 refine wkB_congr (fun r k hk => ?_) _ _ _
 by_cases hr : r < nRows l.length
 · rw [rowsL_get hr] at hk
   rw [flsL_get hr,fcS_get hr hk]
   rw [rowA_len,← hf] at hk
   exact flA_cal f r k hk
 · rw [rows_out _ _ _ hr] at hk; simp at hk
theorem bld_r (l : List Hs) (f : List Bool) : bldS l f = rbldS l f := by
 unfold bldS rbldS
 by_cases h : l.length = 0 ∨ f.length ≠ l.length
 · rw [if_pos h,if_pos h]
 · rw [if_neg h,if_neg h,bw_r (by omega)]
theorem fw_bad (w : List Nat) (r k : Nat) (s : CS) : fwW w r k (true,s) = (zero32,true,s) := by
 cases r <;> rw [fwW,if_pos (.inl rfl)]
def wdOk (w : List Nat) : Prop := ∀ r,r + 1 < w.length → w[r + 1]! = (w[r]! + 1) / 2
theorem ck_fw {w : List Nat} (hw : wdOk w) : ∀ (r : Nat),r < w.length → ∀ (k : Nat) (fl : List Bool) (hs ids : List Hs) (at_ : List Nat),k < w[r]! →
 ((ckW w r k (fl,hs,ids,at_)).1.2 = true → fwW w r k (false,fl,hs,ids,at_) = ((ckW w r k (fl,hs,ids,at_)).1.1,false,(ckW w r k (fl,hs,ids,at_)).2)) ∧ ((ckW w r k (fl,hs,ids,at_)).1.2 = false → (fwW w r k (false,fl,hs,ids,at_)).2.1 = true) := by
 have leaf : ∀ (k : Nat) (f : Bool) (s : CS),((ckLeaf k f s).1.2 = true → fwLeaf k f s = ((ckLeaf k f s).1.1,false,(ckLeaf k f s).2)) ∧ ((ckLeaf k f s).1.2 = false → (fwLeaf k f s).2.1 = true) := fun k f s => by
  rw [← ckLeaf_fw]
  refine ⟨fun h => ?_,fun h => ?_⟩
  · rw [h]; rfl
  · show (!(ckLeaf k f s).1.2) = true
    rw [h]; rfl
 intro r
 induction r with
 | zero =>
  intro hr k fl hs ids at_ hk
  by_cases h0 : fl.length = 0
  · rw [ck_1 h0,fw_1 (.inr h0)]
    exact ⟨fun h => (by cases h),fun _ => rfl⟩
  · rw [ck_0 h0,fw_0 h0]
    exact leaf k _ _
 | succ r ih =>
  intro hr k fl hs ids at_ hk
  have hwr := hw r hr
  by_cases h0 : fl.length = 0
  · rw [ck_1 h0,fw_1 (.inr h0)]
    exact ⟨fun h => (by cases h),fun _ => rfl⟩
  · cases hf : fl[0]! with
    | false =>
     rw [ck_l h0 hf,fw_l h0 hf]
     exact leaf k _ _
    | true =>
     obtain ⟨hX1,hX2⟩ := ih (by omega) (2 * k) (fl.drop 1) hs ids at_ (by omega)
     obtain ⟨⟨a,x⟩,fl1,hs1,ids1,at1,hX⟩ : ∃ o_ f_ h_ i_ a_,ckW w r (2 * k) (fl.drop 1,hs,ids,at_) = (o_,f_,h_,i_,a_) := ⟨_,_,_,_,_,rfl⟩
     rw [hX] at hX1 hX2
     obtain ⟨a',bad1,fl1',hs1',ids1',at1',hY⟩ : ∃ o_ q_ f_ h_ i_ a_,fwW w r (2 * k) (false,fl.drop 1,hs,ids,at_) = (o_,q_,f_,h_,i_,a_) := ⟨_,_,_,_,_,_,rfl⟩
     rw [hY] at hX1 hX2
     cases x with
     | false =>
      have hb : bad1 = true := hX2 rfl
      subst hb
      rw [ck_n h0 hf hX rfl]
      refine ⟨fun h => (by cases h),fun _ => ?_⟩
      by_cases hc : 2 * k + 1 ≥ w[r]!
      · rw [fw_s h0 hf hY hc]
      · rw [fw_b h0 hf hY hc (fw_bad w r (2 * k + 1) (fl1',hs1',ids1',at1'))]; rfl
     | true =>
      have h1 := hX1 rfl
      simp only [Prod.mk.injEq] at h1
      obtain ⟨rfl,rfl,rfl,rfl,rfl,rfl⟩ := h1
      by_cases hc : 2 * k + 1 = w[r]!
      · rw [ck_s h0 hf hX rfl hc,fw_s h0 hf hY (by omega),join_r]
        exact ⟨fun _ => (by dsimp only),fun h => (by cases h)⟩
      · obtain ⟨hB1,hB2⟩ := ih (by omega) (2 * k + 1) fl1' hs1' ids1' at1' (by omega)
        obtain ⟨⟨b,y⟩,fl2,hs2,ids2,at2,hB⟩ : ∃ o_ f_ h_ i_ a_,ckW w r (2 * k + 1) (fl1',hs1',ids1',at1') = (o_,f_,h_,i_,a_) := ⟨_,_,_,_,_,rfl⟩
        rw [hB] at hB1 hB2
        obtain ⟨b',bad2,fl2',hs2',ids2',at2',hC⟩ : ∃ o_ q_ f_ h_ i_ a_,fwW w r (2 * k + 1) (false,fl1',hs1',ids1',at1') = (o_,q_,f_,h_,i_,a_) := ⟨_,_,_,_,_,_,rfl⟩
        rw [hC] at hB1 hB2
        rw [ck_b h0 hf hX rfl hc hB,fw_b h0 hf hY (by omega) hC]
        cases y with
        | false =>
         have hb : bad2 = true := hB2 rfl
         subst hb
         refine ⟨fun h => (by simp at h),fun _ => ?_⟩
         rfl
        | true =>
         have h1 := hB1 rfl
         simp only [Prod.mk.injEq] at h1
         obtain ⟨rfl,rfl,rfl,rfl,rfl,rfl⟩ := h1
         cases hne : (a' == b') with
         | true =>
          refine ⟨fun h => ?_,fun _ => rfl⟩
          simp only [bne,hne] at h
          cases h
         | false =>
          refine ⟨fun _ => (by rw [join_r]; dsimp only; rw [Bool.or_false]),fun h => ?_⟩
          simp only [bne,hne] at h
          cases h
theorem wd_ok (m : Nat) : wdOk (wdS m) := by
 intro r h
 unfold wdS at h ⊢
 rw [wdI_len] at h
 rw [wdI_get (by omega),wdI_get (by omega)]
 rfl
theorem wd_last {m : Nat} (h : 0 < m) : (wdS m)[(wdS m).length - 1]! = 1 := by
 unfold wdS
 have := nRows_pos h
 rw [wdI_len,wdI_get (by omega)]
 exact lenA_last h
theorem chk_r (n : Int) (hs : List Hs) (fl : List Bool) : chkS n hs fl = rchkS n hs fl := by
 unfold chkS rchkS
 by_cases h1 : n < 1 ∨ n > 256
 · rw [if_pos h1,if_pos h1]
 · rw [if_neg h1,if_neg h1]
   by_cases h2 : (hs.length : Int) > n ∨ fl.length < hs.length
   · rw [if_pos h2,if_pos h2]
   · rw [if_neg h2,if_neg h2]
     have hm : 0 < n.toNat := by omega
     have hl : (wdS n.toNat).length = nRows n.toNat := wdI_len _ _
     have hp := nRows_pos hm
     obtain ⟨hA,hB⟩ := ck_fw (wd_ok n.toNat) ((wdS n.toNat).length - 1) (by omega) 0 fl hs [] [] (by rw [wd_last hm]; omega)
     change ((ckR n.toNat hs fl).1.2 = true → fwR n.toNat hs fl = ((ckR n.toNat hs fl).1.1,false,(ckR n.toNat hs fl).2)) at hA
     change ((ckR n.toNat hs fl).1.2 = false → (fwR n.toNat hs fl).2.1 = true) at hB
     cases hx : (ckR n.toNat hs fl).1.2 with
     | false =>
      rw [if_neg (by rintro ⟨h,_⟩; cases h),if_pos (.inl (hB hx))]
     | true =>
      rw [hA hx]
      dsimp only
      by_cases h3 : (ckR n.toNat hs fl).2.1.length = 0 ∧ (ckR n.toNat hs fl).2.2.1.length = 0
      · rw [if_pos ⟨rfl,h3⟩,if_neg (by rintro (h | h); cases h; omega)]
      · rw [if_neg (by rintro ⟨_,h⟩; exact h3 h),if_pos (.inr (by omega))]
end Go.Sx

namespace Go.Sx
theorem pk_rel (P : List UInt8) (fl : List Bool) : ∀ k,k ≤ fl.length → P ++ pkI fl k = rpkI P fl k ++ List.replicate ((fl.length + 7) / 8 - (k + 7) / 8) 0 := by
 intro k
 induction k with
 | zero => intro _; simp [pkI,rpkI]
 | succ k ih =>
  intro hk
  have h := ih (by omega)
  have hl := rpkI_len P fl k
  have hpl := pkI_len fl k
  obtain ⟨c,hc,hcl,hcs⟩ : ∃ c : List UInt8,(rpkI P fl (k + 1) = if fl[k]! = true then c.set (c.length - 1) (c[c.length - 1]! ||| shl_u8 1 (k % 8)) else c) ∧ c.length = P.length + k / 8 + 1 ∧ P ++ pkI fl k = c ++ List.replicate ((fl.length + 7) / 8 - (k + 1 + 7) / 8) 0 := by
   by_cases h8 : k % 8 = 0
   · refine ⟨rpkI P fl k ++ [0],by rw [rpkI,if_pos h8],by rw [List.length_append,hl]; simp; omega, ?_⟩
     rw [h,show (fl.length + 7) / 8 - (k + 7) / 8 = ((fl.length + 7) / 8 - (k + 1 + 7) / 8) + 1 by omega,List.replicate_succ]
     simp
   · refine ⟨rpkI P fl k,by rw [rpkI,if_neg h8],by rw [hl]; omega, ?_⟩
     rw [h,show (k + 1 + 7) / 8 = (k + 7) / 8 by omega]
  rw [hc,pkI]
  by_cases hf : fl[k]! = true
  · rw [if_pos hf,if_pos hf]
    have hkl : k / 8 < (pkI fl k).length := by omega
    have hv : (pkI fl k)[k / 8]! = c[c.length - 1]! := by
     have h1 : (P ++ pkI fl k)[P.length + k / 8]! = (pkI fl k)[k / 8]! := by
      rw [getElem!_pos _ _ (by rw [List.length_append]; omega),List.getElem_append_right (by omega),getElem!_pos (pkI fl k) (k / 8) hkl]
      congr 1; omega
     rw [← h1,hcs,getElem!_pos _ _ (by rw [List.length_append]; omega),List.getElem_append_left (by omega),getElem!_pos _ _ (by omega)]
     congr 1; omega
    have h2 : P ++ (pkI fl k).set (k / 8) ((pkI fl k)[k / 8]! ||| shl_u8 1 (k % 8)) = (P ++ pkI fl k).set (P.length + k / 8) ((pkI fl k)[k / 8]! ||| shl_u8 1 (k % 8)) := by
     rw [List.set_append_right _ _ (by omega)]
     congr 2; omega
    rw [h2,hcs,hv,List.set_append_left _ _ (by omega),show P.length + k / 8 = c.length - 1 by omega]
  · rw [if_neg hf,if_neg hf]; exact hcs
theorem put_b (m : Nat) (hs : List Hs) (fl : List Bool) : putB m hs fl = rputB m hs fl := by
 unfold putB rputB
 rw [pk_rel _ _ _ (Nat.le_refl _),Nat.sub_self,List.replicate_zero,List.append_nil]
theorem put_r (n : Int) (hs : List Hs) (fl : List Bool) : putS n hs fl = rputS n hs fl := by
 unfold putS rputS
 by_cases h : mayB n hs fl = true
 · have := mayB_iff.1 h
   rw [if_pos h,if_neg (by omega),put_b]
 · have : ¬ (1 ≤ n ∧ n ≤ 256 ∧ hs.length ≤ 512 ∧ fl.length ≤ 1024) := fun h2 => h (mayB_iff.2 h2)
   rw [if_neg h,if_pos (by omega)]
theorem bit_test (x : UInt8) (p : Nat) (h : p < 8) : ((shr_u8 x p &&& 1) == 1) = x.toNat.testBit p := by
 have e : (shr_u8 x p &&& 1).toNat = (x.toNat >>> p) % 2 := by
  rw [UInt8.toNat_and]
  simp only [shr_u8,h,if_true,UInt8.toNat_shiftRight]
  rw [show (1 : UInt8).toNat = 2 ^ 1 - 1 from rfl,Nat.and_two_pow_sub_one_eq_mod]
  rw [show (UInt8.ofNat p).toNat % 8 = p by simp [UInt8.toNat_ofNat']; omega]
 have h2 : ((shr_u8 x p &&& 1) == 1) = decide ((x.toNat >>> p) % 2 = 1) := by
  rw [Bool.eq_iff_iff,beq_iff_eq,decide_eq_true_eq,← e]
  constructor
  · intro h; rw [h]; rfl
  · intro h; exact UInt8.toNat_inj.1 h
 rw [h2,Nat.testBit_eq_decide_div_mod_eq,Nat.shiftRight_eq_div_pow]
theorem shl1_nat (a : Nat) (h : a < 8) : (shl_u8 1 a).toNat = 2 ^ a := by
 rcases (by omega : a = 0 ∨ a = 1 ∨ a = 2 ∨ a = 3 ∨ a = 4 ∨ a = 5 ∨ a = 6 ∨ a = 7) with rfl | rfl | rfl | rfl | rfl | rfl | rfl | rfl <;> rfl
theorem u8_ext {x y : UInt8} (h : ∀ p,p < 8 → x.toNat.testBit p = y.toNat.testBit p) : x = y := by
 apply UInt8.toNat_inj.1
 apply Nat.eq_of_testBit_eq
 intro p
 rcases Nat.lt_or_ge p 8 with hp | hp
 · exact h p hp
 · have hx := x.toNat_lt
   have hy := y.toNat_lt
   have h2 : 2 ^ 8 ≤ 2 ^ p := Nat.pow_le_pow_right (by decide) hp
   rw [Nat.testBit_lt_two_pow (by omega),Nat.testBit_lt_two_pow (by omega)]
theorem pk_bit (fl : List Bool) : ∀ k,k ≤ fl.length → ∀ q p,q < (fl.length + 7) / 8 → p < 8 → (pkI fl k)[q]!.toNat.testBit p = (decide (8 * q + p < k) && fl[8 * q + p]!) := by
 intro k
 induction k with
 | zero =>
  intro _ q p hq hp
  rw [getElem!_pos _ q (by rw [pkI_len]; exact hq)]
  simp [pkI]
 | succ k ih =>
  intro hk q p hq hp
  have hi := ih (by omega) q p hq hp
  have hpl := pkI_len fl k
  rw [pkI]
  by_cases hf : fl[k]! = true
  · rw [if_pos hf]
    by_cases hqk : k / 8 = q
    · rw [hqk,getElem!_pos _ q (by rw [List.length_set]; omega),List.getElem_set_self,UInt8.toNat_or,Nat.testBit_or,hi,shl1_nat _ (by omega),Nat.testBit_two_pow]
      by_cases hpk : k % 8 = p
      · have : 8 * q + p = k := by omega
        rw [this,hf,decide_eq_true hpk,decide_eq_true (by omega : k < k + 1)]
        simp
      · have h2 : 8 * q + p ≠ k := by omega
        have h3 : decide (8 * q + p < k) = decide (8 * q + p < k + 1) := by congr 1; exact propext (by omega)
        rw [h3,decide_eq_false (by omega : ¬ k % 8 = p),Bool.or_false]
    · rw [getElem!_pos _ q (by rw [List.length_set]; omega),List.getElem_set_ne hqk,← getElem!_pos (pkI fl k) q (by omega),hi]
      have h3 : decide (8 * q + p < k) = decide (8 * q + p < k + 1) := by congr 1; exact propext (by omega)
      rw [h3]
  · rw [if_neg hf,hi]
    by_cases hkk : 8 * q + p = k
    · rw [hkk,bfalse hf,Bool.and_false,Bool.and_false]
    · have h3 : decide (8 * q + p < k) = decide (8 * q + p < k + 1) := by congr 1; exact propext (by omega)
      rw [h3]
theorem bitS_eq (b : List UInt8) (o i : Nat) : bitS b o i = b[o + i / 8]!.toNat.testBit (i % 8) := bit_test _ _ (by omega)
theorem leB2 (x : UInt64) : leB x 2 = [x.toUInt8,(shr_u64 x 8).toUInt8] := rfl
theorem leB2_le2 (b : List UInt8) (k : Nat) : leB (UInt64.ofInt (((le2 b k).toNat : Nat) : Int)) 2 = [b[k]!,b[k + 1]!] := by
 have h1 := b[k]!.toNat_lt
 have h2 := b[k + 1]!.toNat_lt
 have hv : (le2 b k).toNat = b[k]!.toNat + 256 * b[k + 1]!.toNat := by
  simp only [le2,UInt64.toNat_ofNat']; omega
 have e : UInt64.ofInt (((le2 b k).toNat : Nat) : Int) = le2 b k := UInt64.toNat_inj.1 (ofInt64 (by omega))
 rw [e,leB2]
 congr 1
 · apply UInt8.toNat_inj.1; rw [UInt64.toNat_toUInt8,hv]; omega
 · congr 1
   apply UInt8.toNat_inj.1
   rw [UInt64.toNat_toUInt8]
   have : (shr_u64 (le2 b k) 8).toNat = (le2 b k).toNat / 256 := by
    simp [shr_u64,UInt64.toNat_shiftRight,Nat.shiftRight_eq_div_pow]
   rw [this,hv]; omega
theorem le2_leB (m : Nat) (h : m < 65536) (r : List UInt8) : le2 (leB (UInt64.ofInt ((m : Nat) : Int)) 2 ++ r) 0 = UInt64.ofInt ((m : Nat) : Int) := by
 rw [leB2]
 apply UInt64.toNat_inj.1
 have hm : (UInt64.ofInt ((m : Nat) : Int)).toNat = m := ofInt64 (by omega)
 show (UInt64.ofNat ((UInt64.ofInt ((m : Nat) : Int)).toUInt8.toNat + 256 * (shr_u64 (UInt64.ofInt ((m : Nat) : Int)) 8).toUInt8.toNat)).toNat = _
 have h2 : (shr_u64 (UInt64.ofInt ((m : Nat) : Int)) 8).toNat = m / 256 := by
  simp only [shr_u64,Nat.reduceLT,if_true,UInt64.toNat_shiftRight,hm]
  rw [show (UInt64.ofNat 8).toNat % 64 = 8 from rfl,Nat.shiftRight_eq_div_pow]
 rw [UInt64.toNat_toUInt8,UInt64.toNat_toUInt8,hm,h2,UInt64.toNat_ofNat']
 omega
theorem le2_drop (p b : List UInt8) (k : Nat) : le2 (p ++ b) (p.length + k) = le2 b k := by
 have h : ∀ j,(p ++ b)[p.length + j]! = b[j]! := fun j => by
  by_cases hj : j < b.length
  · rw [getElem!_pos _ _ (by rw [List.length_append]; omega),getElem!_pos b j hj,List.getElem_append_right (by omega)]
    congr 1; omega
  · rw [getElem!_neg _ _ (by rw [List.length_append]; omega),getElem!_neg b j hj]
 unfold le2
 rw [h k,Nat.add_assoc,h (k + 1)]
theorem hsI_flat : ∀ (hs : List Hs),allH hs → ∀ (p r : List UInt8),∀ k,k ≤ hs.length → hsI (p ++ hs.flatten ++ r) p.length k = hs.take k := by
 intro hs hh p r k
 induction k with
 | zero => intro _; simp [hsI]
 | succ k ih =>
  intro hk
  have e0 : hs.take (k + 1) = hs.take k ++ [hs[k]] := by rw [List.take_add_one,List.getElem?_eq_getElem (show k < hs.length by omega),Option.toList_some]
  rw [hsI,ih (by omega),e0]
  congr 2
  have h1 := flatI_len hh k (by omega)
  have e : hs.flatten = flatI hs k ++ (hs[k] ++ (hs.drop (k + 1)).flatten) := by
   unfold flatI
   rw [← List.flatten_cons,← List.flatten_append,← List.drop_eq_getElem_cons (by omega),List.take_append_drop]
  rw [e,show p ++ (flatI hs k ++ (hs[k] ++ (hs.drop (k + 1)).flatten)) ++ r = (p ++ flatI hs k) ++ (hs[k] ++ ((hs.drop (k + 1)).flatten ++ r)) by simp only [List.append_assoc],
   List.drop_left' (by rw [List.length_append,h1]),List.take_left' (hh _ (List.getElem_mem _))]
theorem flat_hsI (b : List UInt8) (o : Nat) : ∀ k,o + 32 * k ≤ b.length → (hsI b o k).flatten = (b.drop o).take (32 * k) := by
 intro k
 induction k with
 | zero => intro _; simp [hsI]
 | succ k ih =>
  intro h
  rw [hsI,List.flatten_append,ih (by omega),List.flatten_singleton,show 32 * (k + 1) = 32 * k + 32 by omega,List.take_add,List.drop_drop]
theorem flatI_all (hs : List Hs) : flatI hs hs.length = hs.flatten := by unfold flatI; rw [List.take_length]
theorem hd3 (a b c : Nat) : hdI [a,b,c] 3 = leB (UInt64.ofInt ((a : Nat) : Int)) 2 ++ (leB (UInt64.ofInt ((b : Nat) : Int)) 2 ++ leB (UInt64.ofInt ((c : Nat) : Int)) 2) := by
 show (([] ++ _) ++ _) ++ _ = _
 rw [List.nil_append,List.append_assoc]
 rfl
theorem putB_parts (m : Nat) (hs : List Hs) (fl : List Bool) : putB m hs fl = hdI [m,hs.length,fl.length] 3 ++ hs.flatten ++ pkI fl fl.length := by rw [putB,flatI_all]
theorem gN_put {m : Nat} {hs : List Hs} {fl : List Bool} (h1 : m ≤ 256) (h2 : hs.length ≤ 512) (h3 : fl.length ≤ 1024) : gN (putB m hs fl) = (m,hs.length,fl.length) := by
 rw [putB_parts,hd3]
 have hl : ∀ x,(leB (UInt64.ofInt ((x : Nat) : Int)) 2).length = 2 := fun x => leB_len _ _
 simp only [List.append_assoc]
 unfold gN
 rw [le2_leB m (by omega)]
 have e2 := le2_drop (leB (UInt64.ofInt ((m : Nat) : Int)) 2) (leB (UInt64.ofInt ((hs.length : Nat) : Int)) 2 ++ (leB (UInt64.ofInt ((fl.length : Nat) : Int)) 2 ++ (hs.flatten ++ pkI fl fl.length))) 0
 have e4 := le2_drop (leB (UInt64.ofInt ((m : Nat) : Int)) 2) (leB (UInt64.ofInt ((hs.length : Nat) : Int)) 2 ++ (leB (UInt64.ofInt ((fl.length : Nat) : Int)) 2 ++ (hs.flatten ++ pkI fl fl.length))) 2
 have e5 := le2_drop (leB (UInt64.ofInt ((hs.length : Nat) : Int)) 2) (leB (UInt64.ofInt ((fl.length : Nat) : Int)) 2 ++ (hs.flatten ++ pkI fl fl.length)) 0
 rw [hl] at e2 e4 e5
 rw [show (2 : Nat) = 2 + 0 from rfl,e2,le2_leB _ (by omega),show (4 : Nat) = 2 + 2 from rfl,e4,show (2 : Nat) = 2 + 0 from rfl,e5,le2_leB _ (by omega),ofInt64 (by omega),ofInt64 (by omega),ofInt64 (by omega)]
theorem put_len {m : Nat} {hs : List Hs} {fl : List Bool} (hh : allH hs) : (putB m hs fl).length = 6 + 32 * hs.length + (fl.length + 7) / 8 := by
 rw [putB,List.length_append,List.length_append,hdI_len,flatI_len hh _ (Nat.le_refl _),pkI_len]
theorem put_get! {m : Nat} {hs : List Hs} {fl : List Bool} (hh : allH hs) (q : Nat) (hq : q < (fl.length + 7) / 8) : (putB m hs fl)[6 + 32 * hs.length + q]! = (pkI fl fl.length)[q]! := by
 have hl := put_len (m := m) (fl := fl) hh
 rw [getElem!_pos _ _ (by rw [hl]; omega),getElem!_pos _ q (by rw [pkI_len]; exact hq)]
 simp only [putB]
 rw [List.getElem_append_right (by rw [List.length_append,hdI_len,flatI_len hh _ (Nat.le_refl _)]; omega)]
 congr 1
 rw [List.length_append,hdI_len,flatI_len hh _ (Nat.le_refl _)]; omega
theorem bit_put {m : Nat} {hs : List Hs} {fl : List Bool} (hh : allH hs) (j : Nat) (hj : j < 8 * ((fl.length + 7) / 8)) : bitS (putB m hs fl) (6 + 32 * hs.length) j = (decide (j < fl.length) && fl[j]!) := by
 rw [bitS_eq,put_get! hh _ (by omega),pk_bit fl _ (Nat.le_refl _) _ _ (by omega) (by omega),show 8 * (j / 8) + j % 8 = j by omega]
theorem get_put {m : Nat} {hs : List Hs} {fl : List Bool} (hh : allH hs) (h0 : 1 ≤ m) (h1 : m ≤ 256) (h2 : hs.length ≤ 512) (h3 : fl.length ≤ 1024) : getS (putB m hs fl) = (⟨(m : Nat),hs,fl⟩,0) := by
 have hg := gN_put (hs := hs) (fl := fl) h1 h2 h3
 have hl := put_len (m := m) (fl := fl) hh
 have hok : getOk (putB m hs fl) := by
  unfold getOk
  rw [hg,hl]
  refine ⟨by omega,h0,h1,h2,h3,rfl,fun j hj1 hj2 => ?_⟩
  have hj1 : fl.length ≤ j := hj1
  rw [bit_put hh j hj2,decide_eq_false (by omega),Bool.false_and]
 rw [get_ok hok]
 unfold gPart
 rw [hg]
 congr 2
 · show hsI (putB m hs fl) 6 hs.length = hs
   rw [putB_parts]
   have := hsI_flat hs hh (hdI [m,hs.length,fl.length] 3) (pkI fl fl.length) hs.length (Nat.le_refl _)
   rw [hdI_len,List.take_length] at this
   exact this
 · show flI (putB m hs fl) (6 + 32 * hs.length) fl.length = fl
   refine list_ext! (by rw [flI_len]) (fun j hj => ?_)
   rw [flI_len] at hj
   rw [getElem!_pos _ j (by rw [flI_len]; exact hj)]
   simp only [flI,List.getElem_map,List.getElem_range]
   rw [bit_put hh j (by omega),decide_eq_true hj,Bool.true_and]
theorem split3 {b : List UInt8} {k r : Nat} (h : b.length = 6 + k + r) : b = [b[0]!,b[1]!] ++ ([b[2]!,b[3]!] ++ [b[4]!,b[5]!]) ++ (b.drop 6).take k ++ b.drop (6 + k) := by
 have e6 : [b[0]!,b[1]!] ++ ([b[2]!,b[3]!] ++ [b[4]!,b[5]!]) = b.take 6 := by
  refine list_ext! (by simp; omega) (fun j hj => ?_)
  simp at hj
  have ht : (b.take 6)[j]! = b[j]! := by
   rw [getElem!_pos _ j (by simp; omega),getElem!_pos b j (by omega)]; simp
  rw [ht]
  rcases (by omega : j = 0 ∨ j = 1 ∨ j = 2 ∨ j = 3 ∨ j = 4 ∨ j = 5) with rfl | rfl | rfl | rfl | rfl | rfl <;> rfl
 rw [e6,List.append_assoc,← List.drop_drop,List.take_append_drop,List.take_append_drop]
theorem put_of {b : List UInt8} (hl : b.length = 6 + 32 * (gN b).2.1 + ((gN b).2.2 + 7) / 8) : rputB (gN b).1 (gPart b).hs (gPart b).fl = b ↔ ∀ j,(gN b).2.2 ≤ j → j < 8 * (((gN b).2.2 + 7) / 8) → bitS b (6 + 32 * (gN b).2.1) j = false := by
 have hhl : (gPart b).hs.length = (gN b).2.1 := hsI_len _ _ _
 have hfl : (gPart b).fl.length = (gN b).2.2 := flI_len _ _ _
 rw [← put_b,putB_parts,hhl,hfl]
 have e1 : hdI [(gN b).1,(gN b).2.1,(gN b).2.2] 3 = [b[0]!,b[1]!] ++ ([b[2]!,b[3]!] ++ [b[4]!,b[5]!]) := by
  rw [hd3]
  show leB (UInt64.ofInt (((le2 b 0).toNat : Nat) : Int)) 2 ++ (leB (UInt64.ofInt (((le2 b 2).toNat : Nat) : Int)) 2 ++ leB (UInt64.ofInt (((le2 b 4).toNat : Nat) : Int)) 2) = _
  rw [leB2_le2,leB2_le2,leB2_le2]
 have e2 : (gPart b).hs.flatten = (b.drop 6).take (32 * (gN b).2.1) := flat_hsI b 6 _ (by omega)
 have hs3 := split3 hl
 rw [e1,e2]
 constructor
 · intro h j h1 h2
   have h4 : pkI (gPart b).fl (gN b).2.2 = b.drop (6 + 32 * (gN b).2.1) := List.append_cancel_left (h.trans hs3)
   have h5 := pk_bit (gPart b).fl (gN b).2.2 (by omega) (j / 8) (j % 8) (by omega) (by omega)
   rw [h4,show 8 * (j / 8) + j % 8 = j by omega,decide_eq_false (by omega),Bool.false_and] at h5
   rw [bitS_eq,← h5]
   congr 2
   rw [getElem!_pos _ _ (by omega),getElem!_pos _ _ (by rw [List.length_drop]; omega)]
   simp
 · intro h
   have h4 : pkI (gPart b).fl (gN b).2.2 = b.drop (6 + 32 * (gN b).2.1) := by
    refine list_ext! (by rw [pkI_len,List.length_drop]; omega) (fun q hq => ?_)
    rw [pkI_len,hfl] at hq
    refine u8_ext fun p hp => ?_
    rw [pk_bit (gPart b).fl (gN b).2.2 (by omega) q p (by omega) hp]
    have e5 : (b.drop (6 + 32 * (gN b).2.1))[q]!.toNat.testBit p = bitS b (6 + 32 * (gN b).2.1) (8 * q + p) := by
     rw [bitS_eq,show (8 * q + p) / 8 = q by omega,show (8 * q + p) % 8 = p by omega]
     congr 2
     rw [getElem!_pos _ _ (by rw [List.length_drop]; omega),getElem!_pos _ _ (by omega)]
     simp
    rw [e5]
    by_cases hc : 8 * q + p < (gN b).2.2
    · rw [decide_eq_true hc,Bool.true_and]
      show (flI b (6 + 32 * (gN b).2.1) (gN b).2.2)[8 * q + p]! = _
      rw [getElem!_pos _ _ (by rw [flI_len]; exact hc)]
      simp [flI]
    · rw [decide_eq_false hc,Bool.false_and,h _ (by omega) (by omega)]
   rw [h4]
   exact hs3.symm
theorem get_r (b : List UInt8) : getS b = rgetS b := by
 have hiff : getOk b ↔ rgetOk b := by
  unfold getOk rgetOk
  have hn0 : (gPart b).n = (((gN b).1 : Nat) : Int) := rfl
  have hhl : (gPart b).hs.length = (gN b).2.1 := hsI_len _ _ _
  have hfl : (gPart b).fl.length = (gN b).2.2 := flI_len _ _ _
  rw [mayB_iff,hn0,hhl,hfl]
  constructor
  · rintro ⟨a1,a2,a3,a4,a5,a6,a7⟩
    exact ⟨a1,a6,⟨by omega,by omega,a4,a5⟩,(put_of a6).2 a7⟩
  · rintro ⟨a1,a2,⟨a3,a4,a5,a6⟩,a7⟩
    exact ⟨a1,by omega,by omega,a5,a6,a2,(put_of a2).1 a7⟩
 by_cases h : getOk b
 · rw [get_ok h,rget_ok (hiff.1 h)]
 · rw [get_no h,rget_no (fun h2 => h (hiff.2 h2))]
end Go.Sx

namespace Go.Sx
abbrev HF := List Hs × List Bool
def apP (p q : HF) : HF := (p.1 ++ q.1,p.2 ++ q.2)
theorem wkB_acc (L : List (List Hs)) (F : List (List Bool)) : ∀ (r k : Nat) (p : HF),wkB L F r k p = apP p (wkB L F r k ([],[])) := by
 intro r
 induction r with
 | zero =>
  intro k p
  simp only [wkB]
  split
  · simp [apP]
  · simp [apP]
 | succ r ih =>
  intro k p
  simp only [wkB]
  split
  · simp [apP]
  · split
    · rw [ih (2 * k + 1) (wkB L F r (2 * k) (p.1,p.2 ++ [true])),ih (2 * k) (p.1,p.2 ++ [true]),ih (2 * k + 1) (wkB L F r (2 * k) (([] : List Hs),([] : List Bool) ++ [true])),ih (2 * k) (([] : List Hs),([] : List Bool) ++ [true])]
      simp only [apP,List.append_assoc,List.nil_append]
    · simp [apP]
def wkZ (L : List (List Hs)) (F : List (List Bool)) (r k : Nat) : HF := wkB L F r k ([],[])
section
variable {L : List (List Hs)} {F : List (List Bool)} {r k : Nat}
theorem wkZ_skip (h : L[r]!.length ≤ k) : wkZ L F r k = ([],[]) := wk_skip h
theorem wkZ_leaf0 (h : k < L[0]!.length) : wkZ L F 0 k = ([L[0]![k]!],[F[0]![k]!]) := wk_leaf0 (by omega)
theorem wkZ_leaf (h : k < L[r + 1]!.length) (hf : F[r + 1]![k]! = false) : wkZ L F (r + 1) k = ([L[r + 1]![k]!],[false]) := by
 have := wk_leaf (p := (([] : List Hs),([] : List Bool))) (show ¬ L[r + 1]!.length ≤ k by omega) hf
 rw [hf] at this; exact this
theorem wkZ_in (h : k < L[r + 1]!.length) (hf : F[r + 1]![k]! = true) : wkZ L F (r + 1) k = ((wkZ L F r (2 * k)).1 ++ (wkZ L F r (2 * k + 1)).1,true :: ((wkZ L F r (2 * k)).2 ++ (wkZ L F r (2 * k + 1)).2)) := by
 have := wk_in (p := (([] : List Hs),([] : List Bool))) (show ¬ L[r + 1]!.length ≤ k by omega) hf
 rw [hf] at this
 unfold wkZ
 rw [this,wkB_acc L F r (2 * k + 1),wkB_acc L F r (2 * k)]
 simp [apP]
end
def posL (f : List Bool) (lo n : Nat) : List Nat := (List.range' lo n).filter fun i => f[i]!
theorem posL_0 (f : List Bool) (lo : Nat) : posL f lo 0 = [] := rfl
theorem posL_add (f : List Bool) (lo a b : Nat) : posL f lo (a + b) = posL f lo a ++ posL f (lo + a) b := by
 unfold posL
 rw [← List.filter_append,List.range'_append_1]
theorem posL_none {f : List Bool} {lo n : Nat} (h : ∀ i,lo ≤ i → i < lo + n → f[i]! = false) : posL f lo n = [] := by
 unfold posL
 rw [List.filter_eq_nil_iff]
 intro i hi
 rw [List.mem_range'_1] at hi
 rw [h i hi.1 hi.2]; simp
theorem posL_all {f : List Bool} {lo n : Nat} (h : ∀ i,lo ≤ i → i < lo + n → f[i]! = true) : posL f lo n = List.range' lo n := by
 unfold posL
 rw [List.filter_eq_self]
 intro i hi
 rw [List.mem_range'_1] at hi
 exact h i hi.1 hi.2
theorem rowDbl_at {l : List Hs} (h : rowDbl l = false) {j : Nat} (hj : 2 * j + 1 < l.length) : (l[2 * j]! != l[2 * j + 1]!) = true := by
 cases hx : (l[2 * j + 1]! == l[2 * j]!) with
 | true => rw [rowDbl_true (i := 2 * j + 1) (by omega) hj hx] at h; cases h
 | false =>
  have : l[2 * j]! ≠ l[2 * j + 1]! := fun e => by rw [e] at hx; simp at hx
  simpa using this
def cnt (n r k : Nat) : Nat := min ((k + 1) * 2 ^ r) n - k * 2 ^ r
theorem cnt_in {n r k : Nat} : cnt n (r + 1) k = cnt n r (2 * k) + cnt n r (2 * k + 1) := by
 unfold cnt
 have e : 2 ^ (r + 1) = 2 * 2 ^ r := by rw [Nat.pow_succ]; omega
 have h1 : (k + 1) * 2 ^ (r + 1) = (2 * k + 1 + 1) * 2 ^ r := by rw [e,← Nat.mul_assoc]; congr 1; omega
 have h2 : k * 2 ^ (r + 1) = 2 * k * 2 ^ r := by rw [e,← Nat.mul_assoc]; congr 1; omega
 have h3 : (2 * k + 1) * 2 ^ r = 2 * k * 2 ^ r + 2 ^ r := by rw [Nat.add_mul,Nat.one_mul]
 have h4 : (2 * k + 1 + 1) * 2 ^ r = (2 * k + 1) * 2 ^ r + 2 ^ r := by rw [Nat.add_mul _ 1,Nat.one_mul]
 have h5 := Nat.one_le_two_pow (n := r)
 rw [h1,h2,h4,h3]
 generalize 2 * k * 2 ^ r = u at *
 generalize 2 ^ r = t at *
 omega
theorem cnt_lo {n r k : Nat} : 2 * k * 2 ^ r + cnt n r (2 * k) = (2 * k + 1) * 2 ^ r ∨ cnt n r (2 * k + 1) = 0 := by
 unfold cnt
 have h3 : (2 * k + 1) * 2 ^ r = 2 * k * 2 ^ r + 2 ^ r := by rw [Nat.add_mul,Nat.one_mul]
 have h4 : (2 * k + 1 + 1) * 2 ^ r = (2 * k + 1) * 2 ^ r + 2 ^ r := by rw [Nat.add_mul _ 1,Nat.one_mul]
 rw [h4,h3]
 generalize 2 * k * 2 ^ r = u at *
 generalize 2 ^ r = t at *
 omega
theorem cnt_pos {n r k : Nat} (h : k < lenA n r) : 1 ≤ cnt n r k := by
 have h1 := idx_back r h
 have h3 : (k + 1) * 2 ^ r = k * 2 ^ r + 2 ^ r := by rw [Nat.add_mul,Nat.one_mul]
 have h4 := Nat.one_le_two_pow (n := r)
 unfold cnt
 omega
theorem lenA_back {n r k : Nat} (h : k * 2 ^ r < n) : k < lenA n r := by
 have h1 := idx_lt h r
 rwa [Nat.mul_div_cancel _ (Nat.two_pow_pos r)] at h1
theorem cnt_out {n r k : Nat} (h : lenA n r ≤ k) : cnt n r k = 0 := by
 unfold cnt
 rcases Nat.lt_or_ge (k * 2 ^ r) n with h1 | h1
 · have := lenA_back h1; omega
 · have h3 : (k + 1) * 2 ^ r = k * 2 ^ r + 2 ^ r := by rw [Nat.add_mul,Nat.one_mul]
   omega
theorem posL_in (f : List Bool) (n r k : Nat) : posL f (k * 2 ^ (r + 1)) (cnt n (r + 1) k) = posL f (2 * k * 2 ^ r) (cnt n r (2 * k)) ++ posL f ((2 * k + 1) * 2 ^ r) (cnt n r (2 * k + 1)) := by
 rw [cnt_in,posL_add,show k * 2 ^ (r + 1) = 2 * k * 2 ^ r by rw [Nat.pow_succ,Nat.mul_comm (2 ^ r) 2,← Nat.mul_assoc,Nat.mul_comm k 2]]
 congr 1
 rcases cnt_lo (n := n) (r := r) (k := k) with h | h
 · rw [h]
 · rw [h]; rfl
structure Rws (J : Hs → Hs → Hs) (l : List Hs) (f : List Bool) (L : List (List Hs)) (F : List (List Bool)) : Prop where
 hf : f.length = l.length
 row : ∀ r : Nat,r < nRows l.length → L[r]! = rowA J l r
 fl : ∀ r k : Nat,r < nRows l.length → k < lenA l.length r → F[r]![k]! = calS f r k
theorem rws (l : List Hs) (f : List Bool) (hf : f.length = l.length) : Rws joinS l f (rowsL joinS l (nRows l.length)) (flsL f (nRows l.length)) := by
 refine ⟨hf,fun r hr => rowsL_get hr,fun r k hr hk => ?_⟩
 rw [flsL_get hr]
 exact flA_cal f r k (by rw [hf]; exact hk)
section
variable {J : Hs → Hs → Hs} {l : List Hs} {f : List Bool} {L : List (List Hs)} {F : List (List Bool)}
theorem Rws.len (R : Rws J l f L F) {r : Nat} (hr : r < nRows l.length) : L[r]!.length = lenA l.length r := by rw [R.row r hr,rowA_len]
theorem Rws.under (R : Rws J l f L F) {r k : Nat} (hr : r < nRows l.length) (hk : k < lenA l.length r) (hF : F[r]![k]! = false) : posL f (k * 2 ^ r) (cnt l.length r k) = [] := by
 rw [R.fl r k hr hk] at hF
 refine posL_none fun i h1 h2 => ?_
 cases hi : f[i]! with
 | false => rfl
 | true =>
  have h3 : i < l.length := by unfold cnt at h2; omega
  have h4 : i / 2 ^ r = k := by
   have h5 : (k + 1) * 2 ^ r = k * 2 ^ r + 2 ^ r := by rw [Nat.add_mul,Nat.one_mul]
   have h6 : i < (k + 1) * 2 ^ r := by unfold cnt at h2; omega
   apply Nat.div_eq_of_lt_le <;> omega
  rw [calS_t (by rw [R.hf]; exact h3) h4 hi] at hF
  cases hF
theorem shows1 (R : Rws joinS l f L F) (hd : dblS joinS l = false) (w : List Nat) (hw : ∀ r : Nat,r < nRows l.length → w[r]! = lenA l.length r) :
 ∀ r,r < nRows l.length → ∀ k,k < lenA l.length r → ∀ (fr : List Bool) (hr ids : List Hs) (at_ : List Nat),
  ckW w r k ((wkZ L F r k).2 ++ fr,(wkZ L F r k).1 ++ hr,ids,at_) = (((rowA joinS l r)[k]!,true),fr,hr,ids ++ (posL f (k * 2 ^ r) (cnt l.length r k)).map (fun i => l[i]!),at_ ++ posL f (k * 2 ^ r) (cnt l.length r k)) := by
 have hdd : ∀ q,q < nRows l.length → rowDbl (rowA joinS l q) = false := fun q hq => by
  cases hx : rowDbl (rowA joinS l q) with
  | false => rfl
  | true => rw [dblS_true hq hx] at hd; cases hd
 intro r
 induction r with
 | zero =>
  intro hr0 k hk fr hr ids at_
  have hL := R.len hr0
  have hrow := R.row 0 hr0
  have hk0 : k < l.length := hk
  rw [wkZ_leaf0 (by rw [hL]; exact hk),hrow]
  have hcal : F[0]![k]! = f[k]! := by
   rw [R.fl 0 k hr0 hk,← flA_cal f 0 k (by rw [R.hf]; exact hk)]; rfl
  rw [ck_0 (by simp)]
  have hc1 : cnt l.length 0 k = 1 := by unfold cnt; simp; omega
  rw [hc1]
  cases hf : f[k]! with
  | true =>
   rw [hcal,hf]
   show ckLeaf k true (fr,_ :: hr,ids,at_) = _
   rw [cl_t (by simp) rfl]
   have hp : posL f (k * 2 ^ 0) 1 = [k] := by rw [posL_all (fun i h1 h2 => by have : i = k := (by omega); rw [this]; exact hf)]; simp
   rw [hp]
   rfl
  | false =>
   rw [hcal,hf]
   show ckLeaf k false (fr,_ :: hr,ids,at_) = _
   rw [cl_f (by simp) rfl]
   have hp : posL f (k * 2 ^ 0) 1 = [] := posL_none (fun i h1 h2 => by have : i = k := (by omega); rw [this]; exact hf)
   rw [hp]
   simp only [List.map_nil,List.append_nil]
   rfl
 | succ r ih =>
  intro hr0 k hk fr hr ids at_
  have hL := R.len hr0
  have hrow := R.row (r + 1) hr0
  have hk2 : k < (lenA l.length r + 1) / 2 := hk
  cases hF : F[r + 1]![k]! with
  | false =>
   rw [wkZ_leaf (by rw [hL]; exact hk) hF,hrow,R.under hr0 hk hF,ck_l (by simp) rfl]
   show ckLeaf k false (fr,_ :: hr,ids,at_) = _
   rw [cl_f (by simp) rfl]
   simp only [List.map_nil,List.append_nil]
   rfl
  | true =>
   rw [wkZ_in (by rw [hL]; exact hk) hF]
   have h1 := ih (by omega) (2 * k) (by omega) ((wkZ L F r (2 * k + 1)).2 ++ fr) ((wkZ L F r (2 * k + 1)).1 ++ hr) ids at_
   have hgk : (rowA joinS l (r + 1))[k]! = joinS (rowA joinS l r)[2 * k]! (rowA joinS l r)[min (2 * k + 1) ((rowA joinS l r).length - 1)]! := rowA_get joinS l r k (by rw [rowA_len]; exact hk)
   rw [rowA_len] at hgk
   have hfl : ∀ x : List Bool,(true :: x).drop 1 = x := fun _ => rfl
   by_cases h2 : 2 * k + 1 = lenA l.length r
   · have hsk : wkZ L F r (2 * k + 1) = ([],[]) := wkZ_skip (by rw [R.len (by omega)]; omega)
     rw [hsk] at h1 ⊢
     simp only [List.append_nil,List.nil_append,List.cons_append] at h1 ⊢
     rw [ck_s (by simp) rfl h1 rfl (by rw [hw r (by omega)]; exact h2),hgk,Nat.min_eq_right (by omega),show lenA l.length r - 1 = 2 * k by omega,posL_in,cnt_out (k := 2 * k + 1) (by omega),posL_0,List.append_nil]
   · have h3 := ih (by omega) (2 * k + 1) (by omega) fr hr (ids ++ (posL f (2 * k * 2 ^ r) (cnt l.length r (2 * k))).map (fun i => l[i]!)) (at_ ++ posL f (2 * k * 2 ^ r) (cnt l.length r (2 * k)))
     simp only [List.cons_append,List.append_assoc] at h1 h3 ⊢
     rw [ck_b (by simp) rfl h1 rfl (by rw [hw r (by omega)]; exact h2) h3,hgk,Nat.min_eq_left (by omega),posL_in,List.map_append]
     have hne : ((rowA joinS l r)[2 * k]! != (rowA joinS l r)[2 * k + 1]!) = true := by
      have h5 := rowDbl_at (hdd r (by omega)) (j := k) (by rw [rowA_len]; omega)
      exact h5
     rw [hne]
     rfl
end
end Go.Sx

namespace Go.Sx
section
variable {J : Hs → Hs → Hs} {l : List Hs} {f f' : List Bool} {L : List (List Hs)} {F F' : List (List Bool)}
theorem Rws.bounds (R : Rws J l f L F) : ∀ r,r < nRows l.length → ∀ k,k < lenA l.length r → (wkZ L F r k).1.length ≤ cnt l.length r k ∧ (wkZ L F r k).1.length ≤ (wkZ L F r k).2.length ∧ 1 ≤ (wkZ L F r k).1.length := by
 intro r
 induction r with
 | zero =>
  intro hr k hk
  have := cnt_pos hk
  rw [wkZ_leaf0 (by rw [R.len hr]; exact hk)]
  exact ⟨by simpa using this,Nat.le_refl _,Nat.le_refl _⟩
 | succ r ih =>
  intro hr k hk
  have hk2 : k < (lenA l.length r + 1) / 2 := hk
  cases hF : F[r + 1]![k]! with
  | false =>
   have := cnt_pos hk
   rw [wkZ_leaf (by rw [R.len hr]; exact hk) hF]
   exact ⟨by simpa using this,Nat.le_refl _,Nat.le_refl _⟩
  | true =>
   rw [wkZ_in (by rw [R.len hr]; exact hk) hF,cnt_in]
   obtain ⟨a1,a2,a3⟩ := ih (by omega) (2 * k) (by omega)
   simp only [List.length_append,List.length_cons]
   by_cases h2 : 2 * k + 1 = lenA l.length r
   · rw [wkZ_skip (r := r) (k := 2 * k + 1) (by rw [R.len (by omega)]; omega)]
     simp only [List.length_nil]; omega
   · obtain ⟨b1,b2,b3⟩ := ih (by omega) (2 * k + 1) (by omega)
     omega
end
section
variable {l : List Hs} {f : List Bool}
theorem bw_wkZ : bwS l f = wkZ (rowsL joinS l (nRows l.length)) (flsL f (nRows l.length)) (nRows l.length - 1) 0 := by unfold bwS wkZ; rw [rowsL_len]
theorem cnt_all (h0 : 0 < l.length) : cnt l.length (nRows l.length - 1) 0 = l.length := by
 have h1 := idx_lt (n := l.length) (m := l.length - 1) (by omega) (nRows l.length - 1)
 rw [lenA_last h0] at h1
 have h2 : l.length - 1 < 2 ^ (nRows l.length - 1) := by
  rcases Nat.lt_or_ge (l.length - 1) (2 ^ (nRows l.length - 1)) with h | h
  · exact h
  · have := Nat.div_pos h (Nat.two_pow_pos _); omega
 unfold cnt
 simp; omega
theorem bw_bounds (h0 : 0 < l.length) (hf : f.length = l.length) : (bwS l f).1.length ≤ l.length ∧ (bwS l f).1.length ≤ (bwS l f).2.length ∧ 1 ≤ (bwS l f).1.length := by
 have hp := nRows_pos h0
 have := (rws l f hf).bounds (nRows l.length - 1) (by omega) 0 (by rw [lenA_last h0]; omega)
 rw [cnt_all h0,← bw_wkZ] at this
 exact this
theorem bw_fl (h1 : l.length ≤ 256) (h0 : 0 < l.length) : (bwS l f).2.length ≤ 1023 := by
 have h := (wkB_len (rowsL joinS l (nRows l.length)) (flsL f (nRows l.length)) ((rowsL joinS l (nRows l.length)).length - 1) 0 ([],[])).2
 have hn := nRows_9 l.length h1
 have hlen := rowsL_len joinS l (nRows l.length)
 have hp : 2 ^ ((rowsL joinS l (nRows l.length)).length - 1 + 1) ≤ 2 ^ 9 := Nat.pow_le_pow_right (by decide) (by have := nRows_pos h0; omega)
 simp only [List.length_nil] at h
 unfold bwS
 omega
theorem root_last (h0 : 0 < l.length) : (rowA joinS l (nRows l.length - 1))[0]! = rootS joinS l := by
 have hp := nRows_pos h0
 obtain ⟨m,hm⟩ : ∃ m,nRows l.length = m + 1 := ⟨nRows l.length - 1,by omega⟩
 unfold rootS
 rw [hm]
 rfl
theorem shown (h0 : 0 < l.length) (h1 : l.length ≤ 256) (hf : f.length = l.length) (hd : dblS joinS l = false) :
 chkS ((l.length : Nat) : Int) (bwS l f).1 (bwS l f).2 = (rootS joinS l,(posL f 0 l.length).map (fun i => l[i]!),posL f 0 l.length,0) := by
 have hp := nRows_pos h0
 obtain ⟨b1,b2,b3⟩ := bw_bounds h0 hf
 have hw : ∀ r : Nat,r < nRows l.length → (wdS l.length)[r]! = lenA l.length r := fun r hr => wdI_get hr
 have h := shows1 (rws l f hf) hd (wdS l.length) hw (nRows l.length - 1) (by omega) 0 (by rw [lenA_last h0]; omega) [] [] [] []
 simp only [List.append_nil,List.nil_append,Nat.zero_mul] at h
 rw [cnt_all h0,← bw_wkZ,root_last h0] at h
 have hck : ckR l.length (bwS l f).1 (bwS l f).2 = ((rootS joinS l,true),[],[],(posL f 0 l.length).map (fun i => l[i]!),posL f 0 l.length) := by
  unfold ckR
  rw [show (wdS l.length).length - 1 = nRows l.length - 1 by unfold wdS; rw [wdI_len]]
  exact h
 rw [chk_c (by omega) (by omega),if_neg (by omega),hck,if_pos ⟨rfl,rfl,rfl⟩]
theorem built (h0 : 0 < l.length) (h1 : l.length ≤ 256) (hf : f.length = l.length) : bldS l f = (⟨(l.length : Nat),(bwS l f).1,(bwS l f).2⟩,0) := bld_4 (by omega) (by omega) (by omega)
theorem bw_all (hl : allH l) : allH (bwS l f).1 := by
 have key : ∀ (L : List (List Hs)) (F : List (List Bool)),(∀ r k : Nat,k < L[r]!.length → (L[r]![k]!).length = 32) → ∀ (r k : Nat) (p : HF),allH p.1 → allH (wkB L F r k p).1 := by
  intro L F hL r
  have sn : ∀ (p : List Hs) (x : Hs),allH p → x.length = 32 → allH (p ++ [x]) := fun p x hp hx y hy => by
   rcases List.mem_append.1 hy with h | h
   · exact hp y h
   · rw [List.mem_singleton.1 h]; exact hx
  induction r with
  | zero =>
   intro k p hp
   simp only [wkB]
   split
   · exact hp
   · exact sn _ _ hp (hL 0 k (by omega))
  | succ r ih =>
   intro k p hp
   simp only [wkB]
   split
   · exact hp
   · split
     · exact ih _ _ (ih _ _ hp)
     · exact sn _ _ hp (hL (r + 1) k (by omega))
 refine key _ _ (fun r k hk => ?_) _ _ _ (fun x hx => by cases hx)
 by_cases hr : r < nRows l.length
 · rw [rowsL_get hr] at hk ⊢
   exact (rowA_all joinS_len hl r).get hk
 · rw [rows_out _ _ _ hr] at hk; simp at hk
end
end Go.Sx

namespace Go.Sx
open Go.Proofs
section
variable {l : List Hs} {f : List Bool}
def wantL (l : List Hs) (f : List Bool) : List Hs := (posL f 0 l.length).map (fun i => l[i]!)
theorem bld_call (hl : allH l) (h0 : 0 < l.length) (h1 : l.length ≤ 256) (hf : f.length = l.length) :
 Fn Tryd.prog gl 9 [.sl none 32 (l.map hashD),.sl none 1 (f.map D.bool)] (.tup [.agg [.int ((l.length : Nat) : Int),.sl none 32 ((bwS l f).1.map hashD),.sl none 1 ((bwS l f).2.map D.bool)],.int ((0 : Nat) : Int)]) := by
 have h := build_ok l f hl (by omega) (by omega)
 rw [built h0 h1 hf] at h
 exact h
theorem chk_call (hl : allH l) (h0 : 0 < l.length) (h1 : l.length ≤ 256) (hf : f.length = l.length) (hd : dblS joinS l = false) :
 Fn Tryd.prog gl 12 [.agg [.int ((l.length : Nat) : Int),.sl none 32 ((bwS l f).1.map hashD),.sl none 1 ((bwS l f).2.map D.bool)]] (.tup [hashD (rootS joinS l),.sl none 32 ((wantL l f).map hashD),.sl none 1 ((posL f 0 l.length).map natD),.int ((0 : Nat) : Int)]) := by
 have hb := bw_bounds h0 hf
 have hg := bw_fl (f := f) h1 h0
 have h := check_ok ((l.length : Nat) : Int) (bwS l f).1 (bwS l f).2 (bw_all hl) (by omega) (by omega)
 rw [shown h0 h1 hf hd] at h
 exact h
theorem put_call {m : Nat} {hs : List Hs} {fl : List Bool} (hh : allH hs) (h0 : 1 ≤ m) (h1 : m ≤ 256) (h2 : hs.length ≤ 512) (h3 : fl.length ≤ 1024) :
 Fn Tryd.prog gl 14 [.agg [.int ((m : Nat) : Int),.sl none 32 (hs.map hashD),.sl none 1 (fl.map D.bool)]] (.tup [.sl (some 5) 1 ((putB m hs fl).map D.u8),.int ((0 : Nat) : Int)]) := by
 have h := pput_ok ((m : Nat) : Int) hs fl hh
 rw [put_ok (by omega)] at h
 exact h
theorem frs_put (b : List UInt8) (e : Int) : FrsR (.tup [.sl (some 5) 1 (b.map D.u8),.int e]) := FrsR.two (.sl _ _ _ (frs_map fun _ => .u8 _)) (.int _)
theorem brw_put (o : Option Nat) (b : List UInt8) (e : Int) : (D.tup [.sl o 1 (b.map D.u8),.int e]).brwR = .tup [.sl none 1 (b.map D.u8),.int e] := by
 show D.tup [_,_] = _
 simp only [D.brw,brws_eq]
 rw [brw_map (fun _ => rfl)]
end
def fwk : List Bool := [false,true,false]
def wkh : List Hs := (bwS abc fwk).1
def wkf : List Bool := (bwS abc fwk).2
def wkb : List UInt8 := putB 3 wkh wkf
theorem wk_rows (J : Hs → Hs → Hs) : wkB [rowA J abc 0,rowA J abc 1,rowA J abc 2] [flA fwk 0,flA fwk 1,flA fwk 2] 2 0 ([],[]) = ([hv 1,hv 2,J (hv 3) (hv 3)],[true,true,false,true,false]) := by
 rw [abc_r1,abc_r2,show rowA J abc 0 = [hv 1,hv 2,hv 3] from rfl,show flA fwk 0 = [false,true,false] from rfl,show flA fwk 1 = [true,false] from rfl,show flA fwk 2 = [true] from rfl]
 simp [wkB]
theorem wk_bw : bwS abc fwk = ([hv 1,hv 2,joinS (hv 3) (hv 3)],[true,true,false,true,false]) := by
 unfold bwS
 rw [rowsL_len,show nRows abc.length = 3 from nRows_3]
 exact wk_rows joinS
theorem wkh_len : wkh.length = 3 := by unfold wkh; rw [wk_bw]; rfl
theorem wkf_len : wkf.length = 5 := by unfold wkf; rw [wk_bw]; rfl
theorem wkh_all : allH wkh := bw_all abc_all
theorem wkb_len : wkb.length = 103 := by unfold wkb; rw [put_len wkh_all,wkh_len,wkf_len]
theorem wk_bld : Fn Tryd.prog gl 9 [.sl none 32 (abc.map hashD),.sl none 1 (fwk.map D.bool)] (.tup [.agg [.int ((3 : Nat) : Int),.sl none 32 (wkh.map hashD),.sl none 1 (wkf.map D.bool)],.int ((0 : Nat) : Int)]) := bld_call (l := abc) (f := fwk) abc_all (by decide) (by decide) rfl
theorem wk_chk : Fn Tryd.prog gl 12 [.agg [.int ((3 : Nat) : Int),.sl none 32 (wkh.map hashD),.sl none 1 (wkf.map D.bool)]] (.tup [hashD (rootS joinS abc),.sl none 32 ([hv 2].map hashD),.sl none 1 ([1].map natD),.int ((0 : Nat) : Int)]) :=
 chk_call (l := abc) (f := fwk) abc_all (by decide) (by decide) rfl wk_d1
theorem wk_put : Fn Tryd.prog gl 14 [.agg [.int ((3 : Nat) : Int),.sl none 32 (wkh.map hashD),.sl none 1 (wkf.map D.bool)]] (.tup [.sl (some 5) 1 (wkb.map D.u8),.int ((0 : Nat) : Int)]) := put_call wkh_all (by decide) (by decide) (by rw [wkh_len]; decide) (by rw [wkf_len]; decide)
theorem wk_bld0 : Fn Tryd.prog gl 9 [.nils,.nils] (.tup [partD zeroP,.int ((1 : Nat) : Int)]) := by
 have h := build_ok [] [] (fun x hx => by cases hx) (by decide) (by decide)
 rw [bld_1 rfl] at h
 exact Fn.wkA (.cons (.nils none 32) (.cons (.nils none 1) .nil)) h
theorem wk_get0 : Fn Tryd.prog gl 18 [.nils] (.tup [partD zeroP,.int ((5 : Nat) : Int)]) := by
 have h := pget_ok [] (by decide)
 rw [get_no (fun h => by have := h.1; simp at this)] at h
 exact Fn.wkA (.cons (.nils none 1) .nil) h
end Go.Sx

namespace Go.Sx
open Go.Proofs
theorem few_ok (n : Int) (hs : List Hs) (fl : List Bool) : Fn Tryd.prog gl 7 [.agg [.int n,.sl none 32 (hs.map hashD),.sl none 1 (fl.map D.bool)]] (.bool (decide (hs.length ≤ 600) && decide (fl.length ≤ 1200))) := by
 refine Fn.of (n := 13) Tryd.func7 rfl rfl rfl (nU rfl) fun C hC hD => ?_
 refine W.seq ?_
 refine W.l0 2 [] [] [] [(0,_)] [] 13 trivial O O O O (⟨O,_,R.box (gV 0 O) O O (nU O),⟨O,_,R.asg (kB false O) O (nU O),tV [(1,_)] [(1,.var _)] 13 O O O ?_⟩⟩)
 refine W.seq ?_
 by_cases g0 : hs.length ≤ 600
 · refine W.l0 11 [.y 3 _,.y 4 _,.y 5 _,.y 6 _,.y 7 _,.y 8 _,.y 9 _,.y 10 _,.y 11 _,.y 12 _,.y 2 _] [] [] [(2,_)] [(1,.var _)] 13 ⟨aU (fU 1 O O),aU (lU 3 O O O O O O O),aU fun _ _ H K => R.lenE (SC.sl (K 4 _ O)) (List.length_map _) H,aU fun _ _ H K => R.leqN (hs.length) (600) (eU K 5 O) (kI 600 O) H,mU 6 O O,aW O O (gT (decide_eq_true g0) O) (fU 1 O O),aW O O (gT (decide_eq_true g0) O) (lU 8 O O O O O O O),aW O O (gT (decide_eq_true g0) O) fun _ _ H K => R.lenE (SC.sl (K 9 _ O)) (List.length_map _) H,aW O O (gT (decide_eq_true g0) O) fun _ _ H K => R.leqN (fl.length) (1200) (eU K 10 O) (kI 1200 O) H,aU fun _ _ H K => R.pickT (eU K 7 O) (decide_eq_true g0) (eU K 11 O) O H,aU fun _ _ H K => R.asg (eU K 12 O) O H,trivial⟩ O O O O (tU O ?_)
   refine W.ret ?_
   exact Ends.one' (.inr O) O (by rw [decide_eq_true g0,Bool.true_and]) O O trivial
 · refine W.l0 11 [.y 3 _,.y 4 _,.y 5 _,.y 6 _,.y 7 _,.x 8,.x 9,.x 10,.x 11,.y 12 _,.y 2 _] [] [] [(2,_)] [(1,.var _)] 13 ⟨aU (fU 1 O O),aU (lU 3 O O O O O O O),aU fun _ _ H K => R.lenE (SC.sl (K 4 _ O)) (List.length_map _) H,aU fun _ _ H K => R.leqN (hs.length) (600) (eU K 5 O) (kI 600 O) H,mU 6 O O,aF O O (gF (decide_eq_false g0) O),aF O O (gF (decide_eq_false g0) O),aF O O (gF (decide_eq_false g0) O),aF O O (gF (decide_eq_false g0) O),aU fun _ _ H K => R.pickF (eU K 7 O) (decide_eq_false g0) (kB false O) O H,aU fun _ _ H K => R.asg (eU K 12 O) O H,trivial⟩ O O O O (tU O ?_)
   refine W.ret ?_
   exact Ends.one' (.inr O) O (by rw [decide_eq_false g0,Bool.false_and]) O O trivial

set_option maxHeartbeats 1000000 in
theorem works_ok : Fn Tryd.prog gl 8 [] (.bool true) := by
 refine Fn.of (n := 101) Tryd.func8 rfl rfl rfl (nU rfl) fun C hC hD => ?_
 refine W.seq ?_
 refine W.l0 1 [.y 0 _] [] [] [] [] 101 ⟨aU fun _ _ H _ => R.asg (kB false O) O H,trivial⟩ O O O O (tU O ?_)
 refine W.seq ?_
 refine W.l0 5 [.y 14 _,.y 15 _,.y 16 _,.y 17 _,.y 1 _] [(4,17)] [(4,17)] [(1,_)] [] 101 ⟨aU fun _ _ H _ => R.bldAP (z := 1) (l2 := ((hv 1).map D.u8)) (.cons (show ev _ _ (.const (.int .u8 1)) = some (.u8 1) from O) (.nil O)) ⟨⟨_,(show ev _ _ (.const (.int .u8 1)) = some (.u8 1) from O),O,O,O,O⟩,trivial⟩ (O) H,aU fun _ _ H _ => R.bldAP (z := 1) (l2 := ((hv 2).map D.u8)) (.cons (show ev _ _ (.const (.int .u8 2)) = some (.u8 2) from O) (.nil O)) ⟨⟨_,(show ev _ _ (.const (.int .u8 2)) = some (.u8 2) from O),O,O,O,O⟩,trivial⟩ (O) H,aU fun _ _ H _ => R.bldAP (z := 1) (l2 := ((hv 3).map D.u8)) (.cons (show ev _ _ (.const (.int .u8 3)) = some (.u8 3) from O) (.nil O)) ⟨⟨_,(show ev _ _ (.const (.int .u8 3)) = some (.u8 3) from O),O,O,O,O⟩,trivial⟩ (O) H,aU fun _ _ H K => R.bslE (z := 32) (.cons (eU K 14 O) (.cons (eU K 15 O) (.cons (eU K 16 O) .nil))) ⟨⟨O,O,O⟩,⟨O,O,O⟩,⟨O,O,O⟩,trivial⟩ O H (by decide),aU fun _ _ H K => R.asgO (K 17 _ O) O H (by decide),trivial⟩ O O O O (tU O ?_)
 refine W.seq ?_
 refine W.frzS (s := 1) (d' := .sl none 32 (abc.map hashD)) O O (brw_hs _ _ abc) ?_
 refine W.l0 9 [.y 19 _,.y 20 _,.y 21 _,.y 18 _,.y 22 _,.y 23 _] [] [] [(1,_),(22,_),(23,_)] [] 101 ⟨mU 1 O O,aU fun _ _ H _ => R.frzT (r' := .sl none 1 (fwk.map D.bool)) (R.bslE (z := 1) (.cons (kB false O) (.cons (kB true O) (.cons (kB false O) .nil))) ⟨⟨O,O,O⟩,⟨O,O,O⟩,⟨O,O,O⟩,trivial⟩ O H (by decide)) O (brw_fl _ _ fwk),aU fun _ _ H K => R.callPE hC (wk_bld) (EvP.cons (eU K 19 O) O O (EvP.cons (eU K 20 O) O O EvP.nil)) H,aU fun _ _ H K => R.movT (K 21 _ O) O H,aU fun _ _ H K => R.ext (K 18 _ O) O O H,aU fun _ _ H K => R.ext (K 18 _ O) O O H,trivial⟩ O O O O (⟨O,_,R.alloc O (nU O),⟨O,_,R.stZ (gU 2 O) (xU 2 O) O (gV 22 O) (by rfl) (by rfl) (by rfl) (by rfl) O,⟨O,_,R.asg (gV 23 O) O (nU O),tV [(1,_),(2,_),(3,_)] [(2,.var _)] 101 O O O ?_⟩⟩⟩)
 refine W.seq ?_
 refine W.l0 12 [.y 25 _,.y 26 _,.y 24 _,.y 27 _,.y 28 _,.y 29 _,.y 30 _] [] [] [(1,_),(2,_),(3,_),(27,_),(28,_),(29,_),(30,_)] [(2,.var _)] 101 ⟨aU (lU 2 O O O O O O O),aU fun _ _ H K => R.callPE hC (wk_chk) (EvP.cons (eU K 25 O) O O EvP.nil) H,aU fun _ _ H K => R.movT (K 26 _ O) O H,aU fun _ _ H K => R.ext (K 24 _ O) O O H,aU fun _ _ H K => R.ext (K 24 _ O) O O H,aU fun _ _ H K => R.ext (K 24 _ O) O O H,aU fun _ _ H K => R.ext (K 24 _ O) O O H,trivial⟩ O O O O (⟨O,_,R.alloc O (nU O),⟨O,_,R.stZ (gU 4 O) (xU 4 O) O (gV 27 O) (by rfl) (by rfl) (by rfl) (by rfl) O,⟨O,_,R.asg (gV 28 O) O (nU O),⟨O,_,R.asg (gV 29 O) O (nU O),⟨O,_,R.asg (gV 30 O) O (nU O),tV [(1,_),(2,_),(3,_),(4,_),(5,_),(6,_),(7,_)] [(4,.var _),(2,.var _)] 101 O O O ?_⟩⟩⟩⟩⟩)
 refine W.seq ?_
 refine W.l0 7 [.y 32 _,.y 31 _,.y 33 _,.y 34 _] [] [] [(1,_),(2,_),(3,_),(4,_),(5,_),(6,_),(7,_),(33,_),(34,_)] [(4,.var _),(2,.var _)] 101 ⟨aU fun _ _ H _ => R.callPE hC (wk_bld0) (EvP.cons (kN O) O O (EvP.cons (kN O) O O EvP.nil)) H,aU fun _ _ H K => R.movT (K 32 _ O) O H,aU fun _ _ H K => R.ext (K 31 _ O) O O H,aU fun _ _ H K => R.ext (K 31 _ O) O O H,trivial⟩ O O O O (⟨O,_,R.alloc O (nU O),⟨O,_,R.stZ (gU 8 O) (xU 8 O) O (gV 33 O) (by rfl) (by rfl) (by rfl) (by rfl) O,⟨O,_,R.asg (gV 34 O) O (nU O),tV [(1,_),(2,_),(3,_),(4,_),(5,_),(6,_),(7,_),(9,_)] [(8,.var _),(4,.var _),(2,.var _)] 101 O O O ?_⟩⟩⟩)
 refine W.seq ?_
 refine W.l0 7 [.y 36 _,.y 37 _,.y 35 _,.y 38 _,.y 39 _,.y 10 _,.y 11 _] [] [] [(1,_),(2,_),(3,_),(4,_),(5,_),(6,_),(7,_),(9,_),(10,_),(11,_)] [(8,.var _),(4,.var _),(2,.var _)] 101 ⟨aU (lU 2 O O O O O O O),aU fun _ _ H K => R.callZ (r' := .tup [.sl none 1 (wkb.map D.u8),.int ((0 : Nat) : Int)]) (wk_put) hC (Bors.cons (Bor.pur (eU K 36 O) O O) Bors.nil) (frs_put _ _) (brw_put _ _ _) H,aU fun _ _ H K => R.movT (K 37 _ O) O H,aU fun _ _ H K => R.ext (K 35 _ O) O O H,aU fun _ _ H K => R.ext (K 35 _ O) O O H,aU fun _ _ H K => R.asg (eU K 38 O) O H,aU fun _ _ H K => R.asg (eU K 39 O) O H,trivial⟩ O O O O (tU O ?_)
 refine W.seq ?_
 refine W.l0 7 [.y 41 _,.y 40 _,.y 42 _,.y 43 _] [] [] [(1,_),(2,_),(3,_),(4,_),(5,_),(6,_),(7,_),(9,_),(10,_),(11,_),(42,_),(43,_)] [(8,.var _),(4,.var _),(2,.var _)] 101 ⟨aU fun _ _ H _ => R.callPE hC (wk_get0) (EvP.cons (kN O) O O EvP.nil) H,aU fun _ _ H K => R.movT (K 41 _ O) O H,aU fun _ _ H K => R.ext (K 40 _ O) O O H,aU fun _ _ H K => R.ext (K 40 _ O) O O H,trivial⟩ O O O O (⟨O,_,R.alloc O (nU O),⟨O,_,R.stZ (gU 12 O) (xU 12 O) O (gV 42 O) (by rfl) (by rfl) (by rfl) (by rfl) O,⟨O,_,R.asg (gV 43 O) O (nU O),tV [(1,_),(2,_),(3,_),(4,_),(5,_),(6,_),(7,_),(9,_),(10,_),(11,_),(13,_)] [(12,.var _),(8,.var _),(4,.var _),(2,.var _)] 101 O O O ?_⟩⟩⟩)
 refine W.seq ?_
 refine W.draw (m := 58) (an := (0 :: 1 :: 3 :: 7 :: 15 :: 31 :: 63 :: 127 :: 255 :: 511 :: 1023 :: 2047 :: 4095 :: 8191 :: 16383 :: 32767 :: 65535 :: 131071 :: 262143 :: 524287 :: 1048575 :: 2097151 :: 4194303 :: 8388607 :: 16777215 :: 16777215 :: 50331647 :: 134217727 :: 268435455 :: 536870911 :: 1073741823 :: 1073741823 :: 3221225471 :: 8589934591 :: 17179869183 :: 34359738367 :: 68719476735 :: 68719476735 :: 274877906943 :: 549755813887 :: 1099511627775 :: 2199023255551 :: 4398046511103 :: 8796093022207 :: 17592186044415 :: 35184372088831 :: 70368744177663 :: 140737488355327 :: 281474976710655 :: 562949953421311 :: 1125899906842623 :: 2251799813685247 :: 4503599627370495 :: 9007199254740991 :: 18014398509481983 :: 36028797018963967 :: 72057594037927935 :: 144115188075855871 :: [])) hP (by decide) O (its := (.y 44 _ :: .y 45 _ :: .y 46 _ :: .y 47 _ :: .y 48 _ :: .y 49 _ :: .y 50 _ :: .y 51 _ :: .y 52 _ :: .y 53 _ :: .y 54 _ :: .y 55 _ :: .y 56 _ :: .y 57 _ :: .y 58 _ :: .y 59 _ :: .y 60 _ :: .y 61 _ :: .y 62 _ :: .y 63 _ :: .y 64 _ :: .y 65 _ :: .y 66 _ :: .y 67 _ :: .y 68 _ :: .y 69 _ :: .y 70 _ :: .y 71 _ :: .y 72 _ :: .y 73 _ :: .y 74 _ :: .y 75 _ :: .y 76 _ :: .y 77 _ :: .y 78 _ :: .y 79 _ :: .y 80 _ :: .y 81 _ :: .y 82 _ :: .y 83 _ :: .y 84 _ :: .y 85 _ :: .y 86 _ :: .y 87 _ :: .y 88 _ :: .y 89 _ :: .y 90 _ :: .y 91 _ :: .y 92 _ :: .y 93 _ :: .y 94 _ :: .y 95 _ :: .y 96 _ :: .y 97 _ :: .y 98 _ :: .y 99 _ :: .y 100 _ :: .y 0 _ :: [])) (ks := []) (kk := []) (live := [0]) (env' := [(0,_)]) (⟨nU O,O,⟨mU 3 O O,aU fun _ _ H K => R.eqlN (0) (0) (eU K 44 O) (kI 0 O) H,mU 45 O O,aW O O (gT (decide_eq_true O) O) (fU 2 O O),aW O O (gT (decide_eq_true O) O) (lU 47 O O O O O O O),aW O O (gT (decide_eq_true O) O) fun _ _ H K => R.eqlN (3) (3) (eU K 48 O) (kI 3 O) H,aU fun _ _ H K => R.pickT (eU K 46 O) (decide_eq_true O) (eU K 49 O) O H,mU 50 O O,aW O O (gT (decide_eq_true O) O) (fU 2 O O),aW O O (gT (decide_eq_true O) O) (lU 52 O O O O O O O),aW O O (gT (decide_eq_true O) O) fun _ _ H K => R.lenE (SC.sl (K 53 _ O)) (List.length_map _) H,aW O O (gT (decide_eq_true O) O) fun _ _ H K => R.eqlN (wkh.length) (3) (eU K 54 O) (kI 3 O) H,aU fun _ _ H K => R.pickT (eU K 51 O) (decide_eq_true O) (eU K 55 O) O H,mU 56 O O,aW O O (gT (decide_eq_true wkh_len) O) (fU 2 O O),aW O O (gT (decide_eq_true wkh_len) O) (lU 58 O O O O O O O),aW O O (gT (decide_eq_true wkh_len) O) fun _ _ H K => R.lenE (SC.sl (K 59 _ O)) (List.length_map _) H,aW O O (gT (decide_eq_true wkh_len) O) fun _ _ H K => R.eqlN (wkf.length) (5) (eU K 60 O) (kI 5 O) H,aU fun _ _ H K => R.pickT (eU K 57 O) (decide_eq_true wkh_len) (eU K 61 O) O H,mU 62 O O,aW O O (gT (decide_eq_true wkf_len) O) fun _ _ H K => R.mov (eU K 7 O) O H,aW O O (gT (decide_eq_true wkf_len) O) fun _ _ H K => R.eqlN (0) (0) (eU K 64 O) (kI 0 O) H,aU fun _ _ H K => R.pickT (eU K 63 O) (decide_eq_true wkf_len) (eU K 65 O) O H,mU 66 O O,aW O O (gT (decide_eq_true O) O) (lU 4 O O O O O O O),aW O O (gT (decide_eq_true O) O) fun _ _ H K => R.mov (eU K 1 O) O H,aW O O (gT (decide_eq_true O) O) fun _ _ H K => R.callG hC (root_ok abc abc_all (by decide)) (Bors.cons (Bor.pur (eU K 69 O) O O) Bors.nil) (FrsR.one (frs_hash _)) H,aW O O (gT (decide_eq_true O) O) fun _ _ H K => R.eqAE (eU K 68 O) (eU K 70 O) H,aU fun _ _ H K => R.pickT (eU K 67 O) (decide_eq_true O) (eU K 71 O) O H,mU 72 O O,aW O O (gT (beq_self_eq_true _) O) fun _ _ H K => R.mov (eU K 5 O) O H,aW O O (gT (beq_self_eq_true _) O) fun _ _ H K => R.mov (eU K 1 O) O H,aW O O (gT (beq_self_eq_true _) O) fun _ _ H K => R.slIN (1) (2) (1) (eU K 75 O) (evoI (kI 1 O)) (evoI (kI 2 O)) O O (by decide) (by decide) bU (O) H,aW O O (gT (beq_self_eq_true _) O) fun _ _ H K => R.callG hC (same10_ok [hv 2] [hv 2] (by decide)) (Bors.cons (Bor.pur (eU K 74 O) O O) (Bors.cons (Bor.pur (eU K 76 O) O O) Bors.nil)) (FrsR.one (.bool _)) H,aU fun _ _ H K => R.pickT (eU K 73 O) (beq_self_eq_true _) (eU K 77 O) O H,mU 78 O O,aW O O (gT (beq_self_eq_true _) O) fun _ _ H K => R.mov (eU K 6 O) O H,aW O O (gT (beq_self_eq_true _) O) fun _ _ H _ => R.frzT (r' := .sl none 1 ([1].map natD)) (R.bslE (z := 1) (.cons (kI 1 O) .nil) ⟨⟨O,O,O⟩,trivial⟩ O H (by decide)) O (brw_nt _ _ [1]),aW O O (gT (beq_self_eq_true _) O) fun _ _ H K => R.callG hC (nums_ok [1] [1] (by decide)) (Bors.cons (Bor.pur (eU K 80 O) O O) (Bors.cons (Bor.pur (eU K 81 O) O O) Bors.nil)) (FrsR.one (.bool _)) H,aU fun _ _ H K => R.pickT (eU K 79 O) (beq_self_eq_true _) (eU K 82 O) O H,mU 83 O O,aW O O (gT (beq_self_eq_true _) O) fun _ _ H K => R.mov (eU K 9 O) O H,aW O O (gT (beq_self_eq_true _) O) fun _ _ H K => R.eqlN (1) (1) (eU K 85 O) (kI 1 O) H,aU fun _ _ H K => R.pickT (eU K 84 O) (beq_self_eq_true _) (eU K 86 O) O H,mU 87 O O,aW O O (gT (decide_eq_true O) O) fun _ _ H K => R.mov (eU K 11 O) O H,aW O O (gT (decide_eq_true O) O) fun _ _ H K => R.eqlN (0) (0) (eU K 89 O) (kI 0 O) H,aU fun _ _ H K => R.pickT (eU K 88 O) (decide_eq_true O) (eU K 90 O) O H,mU 91 O O,aW O O (gT (decide_eq_true O) O) fun _ _ H K => R.mov (eU K 10 O) O H,aW O O (gT (decide_eq_true O) O) fun _ _ H K => R.lenE (SC.sl (K 93 _ O)) (List.length_map _) H,aW O O (gT (decide_eq_true O) O) fun _ _ H K => R.eqlN (wkb.length) (103) (eU K 94 O) (kI 103 O) H,aU fun _ _ H K => R.pickT (eU K 92 O) (decide_eq_true O) (eU K 95 O) O H,mU 96 O O,aW O O (gT (decide_eq_true wkb_len) O) fun _ _ H K => R.mov (eU K 13 O) O H,aW O O (gT (decide_eq_true wkb_len) O) fun _ _ H K => R.eqlN (5) (5) (eU K 98 O) (kI 5 O) H,aU fun _ _ H K => R.pickT (eU K 97 O) (decide_eq_true wkb_len) (eU K 99 O) O H,aU fun _ _ H K => R.asg (eU K 100 O) O H,trivial⟩,O,O,O⟩) O (bx' := [(12,.var _),(8,.var _),(4,.var _),(2,.var _)]) O (n' := 101) O (tV [(0,_)] [(12,.var _),(8,.var _),(4,.var _),(2,.var _)] 101 O O O ?_)
 refine W.ret ?_
 exact Ends.one' (.inr O) O (O) O O trivial

end Go.Sx

namespace Go.Sx
open Go.Proofs
section
variable {l : List UInt16} {is : List Bool} {n : Nat} {c : UInt8}
end
end Go.Sx

namespace Go.Sx
open Go.Proofs
def gB (i : Nat) : Hs := [UInt8.ofInt ((i : Nat) : Int),5] ++ List.replicate 30 0
def idsB (k : Nat) : List Hs := (List.range k).map gB
def flB (m a : Nat) : List Bool := (List.replicate m false).set a true
def hB (m a : Nat) : List Hs := (bwS (idsB m) (flB m a)).1
end Go.Sx

namespace Go.Sx
open Go.Proofs
section
variable {f : List Bool} {n k : Nat}
end
section
variable {l : List UInt16} {n k : Nat} {f : List Bool}
end
end Go.Sx

namespace Go.Sx
def dropSeq : Nat → Code → Code
 | 0,c => c
 | k + 1,.seq _ c => dropSeq k c
 | _ + 1,c => c
theorem W.tailS {P : Program} {C : Ctx} {Q : Exit → Sg → Prop} {σ : Sg} {c : Code} (k : Nat) (M : Sg → Prop) (h2 : ∀ s,M s → W P C (dropSeq k c) Q s) (h1 : (∀ s,M s → W P C (dropSeq k c) Q s) → W P C c Q σ) : W P C c Q σ := h1 h2
end Go.Sx

namespace Go.Sx
open Go.Proofs
theorem build_r (l : List Hs) (f : List Bool) (hl : allH l) (h1 : l.length ≤ 1000000) (h2 : f.length ≤ 1000000) : Fn Tryd.prog gl 9 [.sl none 32 (l.map hashD),.sl none 1 (f.map D.bool)] (.tup [partD (rbldS l f).1,.int (((rbldS l f).2 : Nat) : Int)]) := by
 rw [← bld_r]; exact build_ok l f hl h1 h2
theorem check_r (p : PartS) (hh : allH p.hs) (h1 : p.hs.length ≤ 1000000) (h2 : p.fl.length ≤ 100000) : Fn Tryd.prog gl 12 [partD p] (.tup [hashD (rchkS p.n p.hs p.fl).1,.sl none 32 ((rchkS p.n p.hs p.fl).2.1.map hashD),.sl none 1 ((rchkS p.n p.hs p.fl).2.2.1.map natD),.int (((rchkS p.n p.hs p.fl).2.2.2 : Nat) : Int)]) := by
 rw [← chk_r]; exact check_ok p.n p.hs p.fl hh h1 h2
theorem put_rr (p : PartS) (hh : allH p.hs) : Fn Tryd.prog gl 14 [partD p] (.tup [.sl (some 5) 1 ((rputS p.n p.hs p.fl).1.map D.u8),.int (((rputS p.n p.hs p.fl).2 : Nat) : Int)]) := by
 rw [← put_r]; exact pput_ok p.n p.hs p.fl hh
theorem get_rr (b : List UInt8) (h : b.length ≤ 100000) : Fn Tryd.prog gl 18 [.sl none 1 (b.map D.u8)] (.tup [partD (rgetS b).1,.int (((rgetS b).2 : Nat) : Int)]) := by
 rw [← get_r]; exact pget_ok b h
theorem samP_self (p : PartS) : samP p p = true := samP_2 rfl (beq_self_eq_true _) rfl
theorem rput_len (n : Int) (hs : List Hs) (fl : List Bool) (hh : allH hs) (h1 : hs.length ≤ 1000) (h2 : fl.length ≤ 2000) : (rputS n hs fl).1.length ≤ 100000 := by
 rw [← put_r]
 unfold putS
 split
 · simp
 · rw [put_len hh]; omega
theorem get_rt {p : PartS} (hh : allH p.hs) (h : mayB p.n p.hs p.fl = true) : rgetS (rputS p.n p.hs p.fl).1 = (p,0) := by
 obtain ⟨h1,h2,h3,h4⟩ := mayB_iff.1 h
 rw [← get_r,rput_pos h,← put_b]
 have e : ((p.n.toNat : Nat) : Int) = p.n := by omega
 have := get_put (m := p.n.toNat) (hs := p.hs) (fl := p.fl) hh (by omega) (by omega) h3 h4
 rw [e] at this
 exact this
theorem rt_e {p : PartS} (h : mayB p.n p.hs p.fl = true) : (rputS p.n p.hs p.fl).2 = 0 := by rw [rput_pos h]
theorem rt_n {p : PartS} (h : ¬ mayB p.n p.hs p.fl = true) : (rputS p.n p.hs p.fl).2 = 1 := by rw [rput_neg h]
structure PartS.okP (p : PartS) : Prop where
 hh : allH p.hs
 hl : p.hs.length ≤ 1000
 fl : p.fl.length ≤ 2000
theorem rbld_ok {l : List Hs} {f : List Bool} (hl : allH l) : (rbldS l f).1.okP ∧ (rbldS l f).1.hs.length ≤ 300 ∧ (rbldS l f).1.fl.length ≤ 1023 := by
 rw [← bld_r]
 by_cases h1 : l.length = 0 ∨ f.length ≠ l.length
 · have e : bldS l f = (zeroP,1) := if_pos h1
   rw [e]
   exact ⟨⟨fun x hx => (by cases hx),Nat.zero_le _,Nat.zero_le _⟩,Nat.zero_le _,Nat.zero_le _⟩
 · by_cases h2 : 256 < l.length
   · have e : bldS l f = (zeroP,6) := by rw [bldS,if_neg h1,if_pos h2]
     rw [e]
     exact ⟨⟨fun x hx => (by cases hx),Nat.zero_le _,Nat.zero_le _⟩,Nat.zero_le _,Nat.zero_le _⟩
   · rw [built (by omega) (by omega) (by omega)]
     have h3 := bw_bounds (l := l) (f := f) (by omega) (by omega)
     have h4 := bw_fl (l := l) (f := f) (by omega) (by omega)
     exact ⟨⟨bw_all hl,by show (bwS l f).1.length ≤ _; omega,by show (bwS l f).2.length ≤ _; omega⟩,by show (bwS l f).1.length ≤ _; omega,h4⟩
theorem szs_const {z : Nat} : ∀ (l : List D),(∀ x ∈ l,x.sz = z) → D.szs l = l.length * z := by
 intro l
 induction l with
 | nil => intro _; simp
 | cons x r ih =>
  intro h
  rw [szs_cons,ih (fun y hy => h y (List.mem_cons_of_mem _ hy)),h x (List.mem_cons_self ..),List.length_cons,Nat.add_mul,Nat.one_mul,Nat.add_comm]
theorem offk_const {z k : Nat} {l r : List D} (h : ∀ x ∈ l,x.sz = z) (hk : k ≤ l.length) : offk (l ++ r) k = k * z := by
 unfold offk
 rw [List.take_append_of_le_length hk,szs_const (l.take k) (fun x hx => h x (List.mem_of_mem_take hx)),List.length_take,Nat.min_eq_left hk]
theorem bl_loc {α : Type} [Inhabited α] {f : α → D} {l : List α} {z q k o : Nat} {p : List Nat} {d : D} (hz : ∀ x,(f x).sz = z) (hk : k < l.length) (h : (f l[k]!).loc p = some (o,d)) : (D.agg (l.map f ++ List.replicate q .dead)).loc (k :: p) = some (k * z + o,d) := by
 have hg : (l.map f ++ List.replicate q .dead)[k]? = some (f l[k]!) := by
  rw [List.getElem?_append_left (by simpa using hk)]
  exact map_get! hk
 simp only [D.loc,hg,h]
 rw [offk_const (z := z) (fun x hx => by obtain ⟨y,_,rfl⟩ := List.mem_map.1 hx; exact hz y) (by simp; omega)]
theorem bl_upd {α : Type} [Inhabited α] {f : α → D} {l : List α} {q k : Nat} {p : List Nat} {v : D} {y : α} (hk : k < l.length) (h : (f l[k]!).upd p v = some (f y)) : (D.agg (l.map f ++ List.replicate q .dead)).upd (k :: p) v = some (.agg ((l.set k y).map f ++ List.replicate q .dead)) := by
 have hg : (l.map f ++ List.replicate q .dead)[k]? = some (f l[k]!) := by
  rw [List.getElem?_append_left (by simpa using hk)]
  exact map_get! hk
 simp only [D.upd,hg,h]
 rw [List.set_append_left _ _ (by simpa using hk),List.map_set]
theorem hash_sz (h : Hs) : (hashD h).sz = 32 := rfl
theorem bool_sz (b : Bool) : (D.bool b).sz = 1 := rfl
def bumpH (hs : List Hs) (k : Nat) : List Hs := hs.set k (hs[k]!.set 0 (hs[k]![0]! + 1))
theorem set_all {hs : List Hs} {k : Nat} {x : Hs} (h : allH hs) (hx : x.length = 32) : allH (hs.set k x) := by
 intro y hy
 rcases List.mem_or_eq_of_mem_set hy with h1 | rfl
 · exact h y h1
 · exact hx
theorem brw_ptD (p : PartS) : (partD p).brw = partD p := by
 unfold partD
 simp only [D.brw,brws_eq,List.map_cons,List.map_nil]
 rw [brw_map brw_hash,brw_map (fun _ => rfl)]
theorem brw_parts (o : Option Nat) (z : Nat) (l : List PartS) : (D.sl o z (l.map partD)).brw = .sl none z (l.map partD) := by
 simp only [D.brw,brws_eq]
 rw [brw_map brw_ptD]
theorem parts_get {pl : List PartS} {p : PartS} {i : Nat} (h : p = pl[i]!) (hi : i < pl.length) : (pl.map partD)[i]? = some (partD p) := by
 rw [h]; exact map_get! hi
theorem rchk_len (n : Int) (hs : List Hs) (fl : List Bool) (hh : allH hs) (h1 : hs.length ≤ 1000) (h2 : fl.length ≤ 2000) : (rchkS n hs fl).2.1.length ≤ 1000000 ∧ (rchkS n hs fl).2.2.1.length ≤ 1000000 := by
 unfold rchkS
 split
 · exact ⟨Nat.zero_le _,Nat.zero_le _⟩
 · split
   · exact ⟨Nat.zero_le _,Nat.zero_le _⟩
   · split
     · exact ⟨Nat.zero_le _,Nat.zero_le _⟩
     · have h := fwW_ok (wdS n.toNat) ((wdS n.toNat).length - 1) 0 (false,fl,hs,[],[]) hh
       have h3 := h.ids
       have h4 := h.at_
       simp only [List.length_nil] at h3 h4
       constructor
       · show (fwR n.toNat hs fl).2.2.2.2.1.length ≤ _
         unfold fwR; omega
       · show (fwR n.toNat hs fl).2.2.2.2.2.length ≤ _
         unfold fwR; omega
theorem rget_len (b : List UInt8) (h : b.length ≤ 100000) : (rgetS b).1.hs.length ≤ 1000000 ∧ (rgetS b).1.fl.length ≤ 1000000 := by
 by_cases hk : rgetOk b
 · rw [rget_ok hk]
   have h1 := le2_lt b 2
   have h2 := le2_lt b 4
   refine ⟨?_, ?_⟩
   · show (hsI b 6 (gN b).2.1).length ≤ _
     rw [hsI_len]; show (le2 b 2).toNat ≤ _; omega
   · show (flI b (6 + 32 * (gN b).2.1) (gN b).2.2).length ≤ _
     rw [flI_len]; show (le2 b 4).toNat ≤ _; omega
 · rw [rget_no hk]; exact ⟨Nat.zero_le _,Nat.zero_le _⟩
end Go.Sx
