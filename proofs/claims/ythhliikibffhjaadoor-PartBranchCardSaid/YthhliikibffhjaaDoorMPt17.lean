/-
 The plain law of parts of trees: what is built,and what is shown,is the document's.
-/
import Derived.Test.YthhliikibffhjaaDoorMSxCallB
import Derived.Test.YthhliikibffhjaaDoorMPt14
import Derived.Test.YthhliikibffhjaaDoorMMkLaw
set_option linter.unusedVariables false
set_option linter.unusedSimpArgs false
set_option linter.unnecessarySimpa false

namespace Go.Sx
open Go.Proofs
set_option maxHeartbeats 2000000 in
theorem pget_ok (b : List UInt8) (hb0 : b.length ≤ 100000) : Fn Tryd.prog gl 18 [.sl none 1 (b.map D.u8)] (.tup [partD (getS b).1,.int (((getS b).2 : Nat) : Int)]) := by
 refine Fn.of (n := 121) Tryd.func18 rfl rfl rfl (nU rfl) fun C hC hD => ?_
 refine W.seq ?_
 refine W.l0 2 [] [] [] [(0,_)] [] 121 trivial rfl rfl rfl rfl (⟨rfl,_,R.alloc rfl (nU rfl),⟨rfl,_,R.asg (kI 0 rfl) rfl (nU rfl),tV [(0,_),(2,_)] [(2,.var _)] 121 rfl rfl rfl ?_⟩⟩)
 refine W.seq ?_
 refine W.l0 1 [] [] [] [(0,_),(2,_)] [(2,.var _)] 121 trivial rfl rfl rfl rfl (⟨rfl,_,R.alloc rfl (nU rfl),tV [(0,_),(2,_),(4,_)] [(4,.var _),(2,.var _)] 121 rfl rfl rfl ?_⟩)
 refine W.seq ?_
 refine W.l0 1 [.y 5 _] [] [] [(0,_),(2,_),(4,_),(5,_)] [(4,.var _),(2,.var _)] 121 ⟨aU fun _ _ H _ => R.asg (kI 0 rfl) rfl H,trivial⟩ rfl rfl rfl rfl (tU rfl ?_)
 refine W.seq ?_
 refine W.seq ?_
 refine W.l0 1 [.y 14 _] [] [] [(0,_),(2,_),(4,_),(5,_),(14,_)] [(4,.var _),(2,.var _)] 121 ⟨aU fun _ _ H _ => R.mov (kI 0 rfl) rfl H,trivial⟩ rfl rfl rfl rfl (tU rfl ?_)
 refine W.block ?_
 refine W.loop (α := {q__ : Nat // q__ ≤ 3 ∧ 2 * q__ ≤ b.length}) (fun q__ => ⟨121,[(0,.sl none 1 (b.map D.u8)),(2,.ptr 2 0 []),(4,.ptr 4 0 []),(5,.int ((2 * q__.1 : Nat) : Int)),(14,.int ((q__.1 : Nat) : Int))],[(4,.var (.arr 3 1 ((nsI b q__.1).map natD))),(2,.var (.agg [.int 0,.nils,.nils]))]⟩) (fun q__ => 3 - q__.1) ⟨(0),bU⟩ rfl ?_
 rintro ⟨k,⟨hk,hkb⟩⟩
 show W _ _ _ _ ⟨121,[(0,.sl none 1 (b.map D.u8)),(2,.ptr 2 0 []),(4,.ptr 4 0 []),(5,.int ((2 * k : Nat) : Int)),(14,.int ((k : Nat) : Int))],[(4,.var (.arr 3 1 ((nsI b k).map natD))),(2,.var (.agg [.int 0,.nils,.nils]))]⟩
 have hk : k ≤ 3 := hk
 have hkb : 2 * k ≤ b.length := hkb
 have hnl := nsI_len b k
 refine W.seq ?_
 refine W.l0 1 [.y 15 _] [] [] [(0,_),(2,_),(4,_),(5,_),(14,_),(15,_)] [(4,.var _),(2,.var _)] 121 ⟨aU fun _ _ H K => R.lssN (k) (3) (eU K 14 rfl) (kI 3 rfl) H,trivial⟩ rfl rfl rfl rfl (tU rfl ?_)
 refine W.seq ?_
 refine W.condD rfl (fun hc15 => ?_) (fun hc15 => ?_)
 · refine W.skip ?_
   refine W.seq ?_
   refine W.block ?_
   refine W.seq ?_
   refine W.l0 2 [.y 16 _,.y 6 _] [] [] [(0,_),(2,_),(4,_),(5,_),(6,_),(14,_)] [(4,.var _),(2,.var _)] 121 ⟨mU 14 rfl rfl,aU fun _ _ H K => R.asg (eU K 16 rfl) rfl H,trivial⟩ rfl rfl rfl rfl (tU rfl ?_)
   refine W.seq ?_
   by_cases ht : b.length < 2 * k + 2
   · refine W.l0 10 [.y 18 _,.y 19 _,.y 20 _,.y 17 _,.y 21 _,.y 22 _,.y 23 _,.y 7 _,.y 8 _,.y 9 _] [] [] [(0,_),(2,_),(4,_),(6,_),(7,_),(8,_),(9,_),(14,_)] [(4,.var _),(2,.var _)] 121 ⟨mU 0 rfl rfl,mU 5 rfl rfl,aU fun _ _ H K => R.callG hC (otake_ok b (2 * k) (by omega) (by omega)) (Bors.cons (Bor.pur (eU K 18 rfl) rfl rfl) (Bors.cons (Bor.pur (eU K 19 rfl) rfl rfl) (Bors.cons (Bor.pur (kI 2 rfl) rfl rfl) Bors.nil))) (frs_tak _ _ _) H,aU fun _ _ H K => R.movT (K 20 _ rfl) rfl H,aU fun _ _ H K => R.ext (K 17 _ rfl) rfl rfl H,aU fun _ _ H K => R.ext (K 17 _ rfl) rfl rfl H,aU fun _ _ H K => R.ext (K 17 _ rfl) rfl rfl H,aU fun _ _ H K => R.asg (eU K 21 rfl) rfl H,aU fun _ _ H K => R.asg (eU K 22 rfl) rfl H,aU fun _ _ H K => R.asg (eU K 23 rfl) rfl H,trivial⟩ rfl rfl rfl rfl (tU rfl ?_)
     refine W.seq ?_
     refine W.seq ?_
     refine W.l0 2 [.y 24 _,.y 25 _] [] [] [(0,_),(2,_),(4,_),(6,_),(7,_),(8,_),(14,_),(25,_)] [(4,.var _),(2,.var _)] 121 ⟨mU 9 rfl rfl,aU fun _ _ H K => R.neqN ((takS b (2 * k)).2.2) (0) (eU K 24 rfl) (kI 0 rfl) H,trivial⟩ rfl rfl rfl rfl (tU rfl ?_)
     refine W.condT rfl (by rw [takS_2 (by omega) ht]; rfl) ?_
     refine W.seq ?_
     refine W.l0 3 [.y 26 _] [] [] [(2,_),(26,_)] [(4,.var _),(2,.var _)] 121 ⟨aU fun _ _ H _ => R.bldSE (l := [.int 0,.nils,.nils]) (l' := [_,_,_]) (.nil rfl) trivial H,trivial⟩ rfl rfl rfl rfl (⟨rfl,_,R.stZ (gU 2 rfl) (xU 2 rfl) rfl (gV 26 rfl) (by rfl) (by rfl) (by rfl) (by rfl) rfl,⟨rfl,_,R.asg (kI 5 rfl) rfl (nU rfl),tV [(2,_),(3,_)] [(4,.var _),(2,.var _)] 121 rfl rfl rfl ?_⟩⟩)
     refine W.wkB 2 (d' := partD zeroP) (bx' := [(4,.var _),(2,.var _)]) rfl wk_zeroP rfl ?_
     refine W.ret ?_
     exact Ends.many (.inr rfl) (.cons rfl rfl rfl (show LdT _ 25 3 true from inferInstance) (.cons rfl rfl rfl trivial .nil)) (by rw [get_no (fun h => by have := h.1; omega)]) (show [(2,false),(3,true)].Nodup by decide)
   · refine W.l0 10 [.y 18 _,.y 19 _,.y 20 _,.y 17 _,.y 21 _,.y 22 _,.y 23 _,.y 7 _,.y 8 _,.y 9 _] [] [] [(0,_),(2,_),(4,_),(6,_),(7,_),(8,_),(9,_),(14,_)] [(4,.var _),(2,.var _)] 121 ⟨mU 0 rfl rfl,mU 5 rfl rfl,aU fun _ _ H K => R.callG hC (otake_ok b (2 * k) (by omega) (by omega)) (Bors.cons (Bor.pur (eU K 18 rfl) rfl rfl) (Bors.cons (Bor.pur (eU K 19 rfl) rfl rfl) (Bors.cons (Bor.pur (kI 2 rfl) rfl rfl) Bors.nil))) (frs_tak _ _ _) H,aU fun _ _ H K => R.movT (K 20 _ rfl) rfl H,aU fun _ _ H K => R.ext (K 17 _ rfl) rfl rfl H,aU fun _ _ H K => R.ext (K 17 _ rfl) rfl rfl H,aU fun _ _ H K => R.ext (K 17 _ rfl) rfl rfl H,aU fun _ _ H K => R.asg (eU K 21 rfl) rfl H,aU fun _ _ H K => R.asg (eU K 22 rfl) rfl H,aU fun _ _ H K => R.asg (eU K 23 rfl) rfl H,trivial⟩ rfl rfl rfl rfl (tU rfl ?_)
     refine W.seq ?_
     refine W.seq ?_
     refine W.l0 2 [.y 24 _,.y 25 _] [] [] [(0,_),(2,_),(4,_),(6,_),(7,_),(8,_),(14,_),(25,_)] [(4,.var _),(2,.var _)] 121 ⟨mU 9 rfl rfl,aU fun _ _ H K => R.neqN ((takS b (2 * k)).2.2) (0) (eU K 24 rfl) (kI 0 rfl) H,trivial⟩ rfl rfl rfl rfl (tU rfl ?_)
     refine W.condF rfl (by rw [takS_3 (by omega) (by omega)]; rfl) ?_
     refine W.skip ?_
     have htk := takS_3 (b := b) (m := 2 * k) (by omega) (by omega)
     rw [htk]
     have hlt := le2_lt b (2 * k)
     have hnl := nsI_len b k
     refine W.l0 7 [.y 27 _,.y 28 _,.y 29 _,.y 30 _,.y 31 _] [] [] [(0,_),(2,_),(4,_),(14,_),(29,_),(30,_),(31,_)] [(4,.var _),(2,.var _)] 121 ⟨mU 6 rfl rfl,mU 7 rfl rfl,aU fun _ _ H K => R.convE (d := .int (((le2 b (2 * k)).toNat : Nat) : Int)) (eU K 28 rfl) rfl (wr_eq rfl (by omega) (by omega)) H,mU 8 rfl rfl,aU fun _ _ H K => R.idxP (k) (K 4 _ rfl) (evoI (eU K 27 rfl)) rfl bU H,trivial⟩ rfl rfl rfl rfl (⟨rfl,_,R.stZ (gU 31 rfl) (xU 4 rfl) (loc_arr (map_get! (l := (nsI b k)) bU) loc_nil bU) (gV 29 rfl) (by rfl) (by rfl) (by rfl) (by rfl) (upd_arr (map_get! (l := (nsI b k)) bU) upd_nil set_map),⟨rfl,_,R.asg (gV 30 rfl) rfl (nU rfl),tV [(0,_),(2,_),(4,_),(5,_),(14,_)] [(4,.var _),(2,.var _)] 121 rfl rfl rfl ?_⟩⟩)
     refine W.l0 2 [.y 32 _,.y 14 _] [] [] [(0,_),(2,_),(4,_),(5,_),(14,_)] [(4,.var _),(2,.var _)] 121 ⟨aU fun _ _ H K => R.addN (k) (1) (eU K 14 rfl) (kI 1 rfl) bU H,mU 32 rfl rfl,trivial⟩ rfl rfl rfl rfl (tU rfl ?_)
     exact ⟨⟨(k + 1),bU⟩,rfl,(by simp only []; omega)⟩
 · obtain rfl : k = 3 := by omega
   rw [show (nsI b 3).map natD = [.int (((gN b).1 : Nat) : Int),.int (((gN b).2.1 : Nat) : Int),.int (((gN b).2.2 : Nat) : Int)] from rfl]
   refine W.exit ?_
   refine W.seq ?_
   have hn1 := le2_lt b 2
   have hn2 := le2_lt b 4
   have hn0 := le2_lt b 0
   change (gN b).2.1 < 65536 at hn1
   change (gN b).2.2 < 65536 at hn2
   change (gN b).1 < 65536 at hn0
   refine W.l0 5 [.y 33 _,.y 34 _,.y 35 _,.y 36 _,.y 10 _] [] [] [(0,_),(2,_),(4,_),(5,_),(10,_)] [(4,.var _),(2,.var _)] 121 ⟨aU fun _ _ H K => R.idxP (2) (K 4 _ rfl) (evoI (kI 2 rfl)) rfl bU H,aU (lU 33 rfl rfl rfl rfl rfl rfl rfl),aU fun _ _ H K => R.addN ((gN b).2.2) (7) (eU K 34 rfl) (kI 7 rfl) bU H,aU fun _ _ H K => R.quoN (((gN b).2.2 + 7)) (8) (eU K 35 rfl) (kI 8 rfl) bU bU H,aU fun _ _ H K => R.asg (eU K 36 rfl) rfl H,trivial⟩ rfl rfl rfl rfl (tU rfl ?_)
   refine W.seq ?_
   refine W.seq ?_
   by_cases g0 : (gN b).1 < 1
   · refine W.l0 30 (.y 37 _ :: .y 38 _ :: .y 39 _ :: .y 40 _ :: .x 41 :: .x 42 :: .x 43 :: .y 44 _ :: .y 45 _ :: .x 46 :: .x 47 :: .x 48 :: .y 49 _ :: .y 50 _ :: .x 51 :: .x 52 :: .x 53 :: .y 54 _ :: .y 55 _ :: .x 56 :: .x 57 :: .x 58 :: .x 59 :: .x 60 :: .x 61 :: .x 62 :: .x 63 :: .x 64 :: .x 65 :: .y 66 _ :: []) [] [] [(0,_),(2,_),(4,_),(5,_),(10,_),(66,_)] [(4,.var _),(2,.var _)] 121 ⟨aU fun _ _ H K => R.idxP (0) (K 4 _ rfl) (evoI (kI 0 rfl)) rfl bU H,aU (lU 37 rfl rfl rfl rfl rfl rfl rfl),aU fun _ _ H K => R.lssN ((gN b).1) (1) (eU K 38 rfl) (kI 1 rfl) H,mU 39 rfl rfl,aF rfl rfl (gT (decide_eq_true g0) rfl),aF rfl rfl (gT (decide_eq_true g0) rfl),aF rfl rfl (gT (decide_eq_true g0) rfl),aU fun _ _ H K => R.pickT (eU K 40 rfl) (decide_eq_true g0) (kB true rfl) rfl H,mU 44 rfl rfl,aF rfl rfl (gT (rfl) rfl),aF rfl rfl (gT (rfl) rfl),aF rfl rfl (gT (rfl) rfl),aU fun _ _ H K => R.pickT (eU K 45 rfl) (rfl) (kB true rfl) rfl H,mU 49 rfl rfl,aF rfl rfl (gT (rfl) rfl),aF rfl rfl (gT (rfl) rfl),aF rfl rfl (gT (rfl) rfl),aU fun _ _ H K => R.pickT (eU K 50 rfl) (rfl) (kB true rfl) rfl H,mU 54 rfl rfl,aF rfl rfl (gT (rfl) rfl),aF rfl rfl (gT (rfl) rfl),aF rfl rfl (gT (rfl) rfl),aF rfl rfl (gT (rfl) rfl),aF rfl rfl (gT (rfl) rfl),aF rfl rfl (gT (rfl) rfl),aF rfl rfl (gT (rfl) rfl),aF rfl rfl (gT (rfl) rfl),aF rfl rfl (gT (rfl) rfl),aF rfl rfl (gT (rfl) rfl),aU fun _ _ H K => R.pickT (eU K 55 rfl) (rfl) (kB true rfl) rfl H,trivial⟩ rfl rfl rfl rfl (tU rfl ?_)
     refine W.condT rfl (rfl) ?_
     refine W.seq ?_
     refine W.l0 3 [.y 67 _] [] [] [(2,_),(67,_)] [(4,.var _),(2,.var _)] 121 ⟨aU fun _ _ H _ => R.bldSE (l := [.int 0,.nils,.nils]) (l' := [_,_,_]) (.nil rfl) trivial H,trivial⟩ rfl rfl rfl rfl (⟨rfl,_,R.stZ (gU 2 rfl) (xU 2 rfl) rfl (gV 67 rfl) (by rfl) (by rfl) (by rfl) (by rfl) rfl,⟨rfl,_,R.asg (kI 5 rfl) rfl (nU rfl),tV [(2,_),(3,_)] [(4,.var _),(2,.var _)] 121 rfl rfl rfl ?_⟩⟩)
     refine W.wkB 2 (d' := partD zeroP) (bx' := [(4,.var _),(2,.var _)]) rfl wk_zeroP rfl ?_
     refine W.ret ?_
     exact Ends.many (.inr rfl) (.cons rfl rfl rfl (show LdT _ 25 3 true from inferInstance) (.cons rfl rfl rfl trivial .nil)) (by rw [get_no (fun h => by have := h.2; omega)] <;> rfl) (show [(2,false),(3,true)].Nodup by decide)
   · by_cases g1 : 256 < (gN b).1
     · refine W.l0 30 (.y 37 _ :: .y 38 _ :: .y 39 _ :: .y 40 _ :: .y 41 _ :: .y 42 _ :: .y 43 _ :: .y 44 _ :: .y 45 _ :: .x 46 :: .x 47 :: .x 48 :: .y 49 _ :: .y 50 _ :: .x 51 :: .x 52 :: .x 53 :: .y 54 _ :: .y 55 _ :: .x 56 :: .x 57 :: .x 58 :: .x 59 :: .x 60 :: .x 61 :: .x 62 :: .x 63 :: .x 64 :: .x 65 :: .y 66 _ :: []) [] [] [(0,_),(2,_),(4,_),(5,_),(10,_),(66,_)] [(4,.var _),(2,.var _)] 121 ⟨aU fun _ _ H K => R.idxP (0) (K 4 _ rfl) (evoI (kI 0 rfl)) rfl bU H,aU (lU 37 rfl rfl rfl rfl rfl rfl rfl),aU fun _ _ H K => R.lssN ((gN b).1) (1) (eU K 38 rfl) (kI 1 rfl) H,mU 39 rfl rfl,aW rfl rfl (gF (decide_eq_false g0) rfl) fun _ _ H K => R.idxP (0) (K 4 _ rfl) (evoI (kI 0 rfl)) rfl bU H,aW rfl rfl (gF (decide_eq_false g0) rfl) (lU 41 rfl rfl rfl rfl rfl rfl rfl),aW rfl rfl (gF (decide_eq_false g0) rfl) fun _ _ H K => R.gtrN ((gN b).1) (256) (eU K 42 rfl) (kI 256 rfl) H,aU fun _ _ H K => R.pickF (eU K 40 rfl) (decide_eq_false g0) (eU K 43 rfl) rfl H,mU 44 rfl rfl,aF rfl rfl (gT (decide_eq_true g1) rfl),aF rfl rfl (gT (decide_eq_true g1) rfl),aF rfl rfl (gT (decide_eq_true g1) rfl),aU fun _ _ H K => R.pickT (eU K 45 rfl) (decide_eq_true g1) (kB true rfl) rfl H,mU 49 rfl rfl,aF rfl rfl (gT (rfl) rfl),aF rfl rfl (gT (rfl) rfl),aF rfl rfl (gT (rfl) rfl),aU fun _ _ H K => R.pickT (eU K 50 rfl) (rfl) (kB true rfl) rfl H,mU 54 rfl rfl,aF rfl rfl (gT (rfl) rfl),aF rfl rfl (gT (rfl) rfl),aF rfl rfl (gT (rfl) rfl),aF rfl rfl (gT (rfl) rfl),aF rfl rfl (gT (rfl) rfl),aF rfl rfl (gT (rfl) rfl),aF rfl rfl (gT (rfl) rfl),aF rfl rfl (gT (rfl) rfl),aF rfl rfl (gT (rfl) rfl),aF rfl rfl (gT (rfl) rfl),aU fun _ _ H K => R.pickT (eU K 55 rfl) (rfl) (kB true rfl) rfl H,trivial⟩ rfl rfl rfl rfl (tU rfl ?_)
       refine W.condT rfl (rfl) ?_
       refine W.seq ?_
       refine W.l0 3 [.y 67 _] [] [] [(2,_),(67,_)] [(4,.var _),(2,.var _)] 121 ⟨aU fun _ _ H _ => R.bldSE (l := [.int 0,.nils,.nils]) (l' := [_,_,_]) (.nil rfl) trivial H,trivial⟩ rfl rfl rfl rfl (⟨rfl,_,R.stZ (gU 2 rfl) (xU 2 rfl) rfl (gV 67 rfl) (by rfl) (by rfl) (by rfl) (by rfl) rfl,⟨rfl,_,R.asg (kI 5 rfl) rfl (nU rfl),tV [(2,_),(3,_)] [(4,.var _),(2,.var _)] 121 rfl rfl rfl ?_⟩⟩)
       refine W.wkB 2 (d' := partD zeroP) (bx' := [(4,.var _),(2,.var _)]) rfl wk_zeroP rfl ?_
       refine W.ret ?_
       exact Ends.many (.inr rfl) (.cons rfl rfl rfl (show LdT _ 25 3 true from inferInstance) (.cons rfl rfl rfl trivial .nil)) (by rw [get_no (fun h => by have := h.2; omega)] <;> rfl) (show [(2,false),(3,true)].Nodup by decide)
     · by_cases g2 : 512 < (gN b).2.1
       · refine W.l0 30 (.y 37 _ :: .y 38 _ :: .y 39 _ :: .y 40 _ :: .y 41 _ :: .y 42 _ :: .y 43 _ :: .y 44 _ :: .y 45 _ :: .y 46 _ :: .y 47 _ :: .y 48 _ :: .y 49 _ :: .y 50 _ :: .x 51 :: .x 52 :: .x 53 :: .y 54 _ :: .y 55 _ :: .x 56 :: .x 57 :: .x 58 :: .x 59 :: .x 60 :: .x 61 :: .x 62 :: .x 63 :: .x 64 :: .x 65 :: .y 66 _ :: []) [] [] [(0,_),(2,_),(4,_),(5,_),(10,_),(66,_)] [(4,.var _),(2,.var _)] 121 ⟨aU fun _ _ H K => R.idxP (0) (K 4 _ rfl) (evoI (kI 0 rfl)) rfl bU H,aU (lU 37 rfl rfl rfl rfl rfl rfl rfl),aU fun _ _ H K => R.lssN ((gN b).1) (1) (eU K 38 rfl) (kI 1 rfl) H,mU 39 rfl rfl,aW rfl rfl (gF (decide_eq_false g0) rfl) fun _ _ H K => R.idxP (0) (K 4 _ rfl) (evoI (kI 0 rfl)) rfl bU H,aW rfl rfl (gF (decide_eq_false g0) rfl) (lU 41 rfl rfl rfl rfl rfl rfl rfl),aW rfl rfl (gF (decide_eq_false g0) rfl) fun _ _ H K => R.gtrN ((gN b).1) (256) (eU K 42 rfl) (kI 256 rfl) H,aU fun _ _ H K => R.pickF (eU K 40 rfl) (decide_eq_false g0) (eU K 43 rfl) rfl H,mU 44 rfl rfl,aW rfl rfl (gF (decide_eq_false g1) rfl) fun _ _ H K => R.idxP (1) (K 4 _ rfl) (evoI (kI 1 rfl)) rfl bU H,aW rfl rfl (gF (decide_eq_false g1) rfl) (lU 46 rfl rfl rfl rfl rfl rfl rfl),aW rfl rfl (gF (decide_eq_false g1) rfl) fun _ _ H K => R.gtrN ((gN b).2.1) (512) (eU K 47 rfl) (kI 512 rfl) H,aU fun _ _ H K => R.pickF (eU K 45 rfl) (decide_eq_false g1) (eU K 48 rfl) rfl H,mU 49 rfl rfl,aF rfl rfl (gT (decide_eq_true g2) rfl),aF rfl rfl (gT (decide_eq_true g2) rfl),aF rfl rfl (gT (decide_eq_true g2) rfl),aU fun _ _ H K => R.pickT (eU K 50 rfl) (decide_eq_true g2) (kB true rfl) rfl H,mU 54 rfl rfl,aF rfl rfl (gT (rfl) rfl),aF rfl rfl (gT (rfl) rfl),aF rfl rfl (gT (rfl) rfl),aF rfl rfl (gT (rfl) rfl),aF rfl rfl (gT (rfl) rfl),aF rfl rfl (gT (rfl) rfl),aF rfl rfl (gT (rfl) rfl),aF rfl rfl (gT (rfl) rfl),aF rfl rfl (gT (rfl) rfl),aF rfl rfl (gT (rfl) rfl),aU fun _ _ H K => R.pickT (eU K 55 rfl) (rfl) (kB true rfl) rfl H,trivial⟩ rfl rfl rfl rfl (tU rfl ?_)
         refine W.condT rfl (rfl) ?_
         refine W.seq ?_
         refine W.l0 3 [.y 67 _] [] [] [(2,_),(67,_)] [(4,.var _),(2,.var _)] 121 ⟨aU fun _ _ H _ => R.bldSE (l := [.int 0,.nils,.nils]) (l' := [_,_,_]) (.nil rfl) trivial H,trivial⟩ rfl rfl rfl rfl (⟨rfl,_,R.stZ (gU 2 rfl) (xU 2 rfl) rfl (gV 67 rfl) (by rfl) (by rfl) (by rfl) (by rfl) rfl,⟨rfl,_,R.asg (kI 5 rfl) rfl (nU rfl),tV [(2,_),(3,_)] [(4,.var _),(2,.var _)] 121 rfl rfl rfl ?_⟩⟩)
         refine W.wkB 2 (d' := partD zeroP) (bx' := [(4,.var _),(2,.var _)]) rfl wk_zeroP rfl ?_
         refine W.ret ?_
         exact Ends.many (.inr rfl) (.cons rfl rfl rfl (show LdT _ 25 3 true from inferInstance) (.cons rfl rfl rfl trivial .nil)) (by rw [get_no (fun h => by have := h.2; omega)] <;> rfl) (show [(2,false),(3,true)].Nodup by decide)
       · by_cases g3 : 1024 < (gN b).2.2
         · refine W.l0 30 (.y 37 _ :: .y 38 _ :: .y 39 _ :: .y 40 _ :: .y 41 _ :: .y 42 _ :: .y 43 _ :: .y 44 _ :: .y 45 _ :: .y 46 _ :: .y 47 _ :: .y 48 _ :: .y 49 _ :: .y 50 _ :: .y 51 _ :: .y 52 _ :: .y 53 _ :: .y 54 _ :: .y 55 _ :: .x 56 :: .x 57 :: .x 58 :: .x 59 :: .x 60 :: .x 61 :: .x 62 :: .x 63 :: .x 64 :: .x 65 :: .y 66 _ :: []) [] [] [(0,_),(2,_),(4,_),(5,_),(10,_),(66,_)] [(4,.var _),(2,.var _)] 121 ⟨aU fun _ _ H K => R.idxP (0) (K 4 _ rfl) (evoI (kI 0 rfl)) rfl bU H,aU (lU 37 rfl rfl rfl rfl rfl rfl rfl),aU fun _ _ H K => R.lssN ((gN b).1) (1) (eU K 38 rfl) (kI 1 rfl) H,mU 39 rfl rfl,aW rfl rfl (gF (decide_eq_false g0) rfl) fun _ _ H K => R.idxP (0) (K 4 _ rfl) (evoI (kI 0 rfl)) rfl bU H,aW rfl rfl (gF (decide_eq_false g0) rfl) (lU 41 rfl rfl rfl rfl rfl rfl rfl),aW rfl rfl (gF (decide_eq_false g0) rfl) fun _ _ H K => R.gtrN ((gN b).1) (256) (eU K 42 rfl) (kI 256 rfl) H,aU fun _ _ H K => R.pickF (eU K 40 rfl) (decide_eq_false g0) (eU K 43 rfl) rfl H,mU 44 rfl rfl,aW rfl rfl (gF (decide_eq_false g1) rfl) fun _ _ H K => R.idxP (1) (K 4 _ rfl) (evoI (kI 1 rfl)) rfl bU H,aW rfl rfl (gF (decide_eq_false g1) rfl) (lU 46 rfl rfl rfl rfl rfl rfl rfl),aW rfl rfl (gF (decide_eq_false g1) rfl) fun _ _ H K => R.gtrN ((gN b).2.1) (512) (eU K 47 rfl) (kI 512 rfl) H,aU fun _ _ H K => R.pickF (eU K 45 rfl) (decide_eq_false g1) (eU K 48 rfl) rfl H,mU 49 rfl rfl,aW rfl rfl (gF (decide_eq_false g2) rfl) fun _ _ H K => R.idxP (2) (K 4 _ rfl) (evoI (kI 2 rfl)) rfl bU H,aW rfl rfl (gF (decide_eq_false g2) rfl) (lU 51 rfl rfl rfl rfl rfl rfl rfl),aW rfl rfl (gF (decide_eq_false g2) rfl) fun _ _ H K => R.gtrN ((gN b).2.2) (1024) (eU K 52 rfl) (kI 1024 rfl) H,aU fun _ _ H K => R.pickF (eU K 50 rfl) (decide_eq_false g2) (eU K 53 rfl) rfl H,mU 54 rfl rfl,aF rfl rfl (gT (decide_eq_true g3) rfl),aF rfl rfl (gT (decide_eq_true g3) rfl),aF rfl rfl (gT (decide_eq_true g3) rfl),aF rfl rfl (gT (decide_eq_true g3) rfl),aF rfl rfl (gT (decide_eq_true g3) rfl),aF rfl rfl (gT (decide_eq_true g3) rfl),aF rfl rfl (gT (decide_eq_true g3) rfl),aF rfl rfl (gT (decide_eq_true g3) rfl),aF rfl rfl (gT (decide_eq_true g3) rfl),aF rfl rfl (gT (decide_eq_true g3) rfl),aU fun _ _ H K => R.pickT (eU K 55 rfl) (decide_eq_true g3) (kB true rfl) rfl H,trivial⟩ rfl rfl rfl rfl (tU rfl ?_)
           refine W.condT rfl (rfl) ?_
           refine W.seq ?_
           refine W.l0 3 [.y 67 _] [] [] [(2,_),(67,_)] [(4,.var _),(2,.var _)] 121 ⟨aU fun _ _ H _ => R.bldSE (l := [.int 0,.nils,.nils]) (l' := [_,_,_]) (.nil rfl) trivial H,trivial⟩ rfl rfl rfl rfl (⟨rfl,_,R.stZ (gU 2 rfl) (xU 2 rfl) rfl (gV 67 rfl) (by rfl) (by rfl) (by rfl) (by rfl) rfl,⟨rfl,_,R.asg (kI 5 rfl) rfl (nU rfl),tV [(2,_),(3,_)] [(4,.var _),(2,.var _)] 121 rfl rfl rfl ?_⟩⟩)
           refine W.wkB 2 (d' := partD zeroP) (bx' := [(4,.var _),(2,.var _)]) rfl wk_zeroP rfl ?_
           refine W.ret ?_
           exact Ends.many (.inr rfl) (.cons rfl rfl rfl (show LdT _ 25 3 true from inferInstance) (.cons rfl rfl rfl trivial .nil)) (by rw [get_no (fun h => by have := h.2; omega)] <;> rfl) (show [(2,false),(3,true)].Nodup by decide)
         · refine W.l0 30 (.y 37 _ :: .y 38 _ :: .y 39 _ :: .y 40 _ :: .y 41 _ :: .y 42 _ :: .y 43 _ :: .y 44 _ :: .y 45 _ :: .y 46 _ :: .y 47 _ :: .y 48 _ :: .y 49 _ :: .y 50 _ :: .y 51 _ :: .y 52 _ :: .y 53 _ :: .y 54 _ :: .y 55 _ :: .y 56 _ :: .y 57 _ :: .y 58 _ :: .y 59 _ :: .y 60 _ :: .y 61 _ :: .y 62 _ :: .y 63 _ :: .y 64 _ :: .y 65 _ :: .y 66 _ :: []) [] [] [(0,_),(2,_),(4,_),(5,_),(10,_),(66,_)] [(4,.var _),(2,.var _)] 121 ⟨aU fun _ _ H K => R.idxP (0) (K 4 _ rfl) (evoI (kI 0 rfl)) rfl bU H,aU (lU 37 rfl rfl rfl rfl rfl rfl rfl),aU fun _ _ H K => R.lssN ((gN b).1) (1) (eU K 38 rfl) (kI 1 rfl) H,mU 39 rfl rfl,aW rfl rfl (gF (decide_eq_false g0) rfl) fun _ _ H K => R.idxP (0) (K 4 _ rfl) (evoI (kI 0 rfl)) rfl bU H,aW rfl rfl (gF (decide_eq_false g0) rfl) (lU 41 rfl rfl rfl rfl rfl rfl rfl),aW rfl rfl (gF (decide_eq_false g0) rfl) fun _ _ H K => R.gtrN ((gN b).1) (256) (eU K 42 rfl) (kI 256 rfl) H,aU fun _ _ H K => R.pickF (eU K 40 rfl) (decide_eq_false g0) (eU K 43 rfl) rfl H,mU 44 rfl rfl,aW rfl rfl (gF (decide_eq_false g1) rfl) fun _ _ H K => R.idxP (1) (K 4 _ rfl) (evoI (kI 1 rfl)) rfl bU H,aW rfl rfl (gF (decide_eq_false g1) rfl) (lU 46 rfl rfl rfl rfl rfl rfl rfl),aW rfl rfl (gF (decide_eq_false g1) rfl) fun _ _ H K => R.gtrN ((gN b).2.1) (512) (eU K 47 rfl) (kI 512 rfl) H,aU fun _ _ H K => R.pickF (eU K 45 rfl) (decide_eq_false g1) (eU K 48 rfl) rfl H,mU 49 rfl rfl,aW rfl rfl (gF (decide_eq_false g2) rfl) fun _ _ H K => R.idxP (2) (K 4 _ rfl) (evoI (kI 2 rfl)) rfl bU H,aW rfl rfl (gF (decide_eq_false g2) rfl) (lU 51 rfl rfl rfl rfl rfl rfl rfl),aW rfl rfl (gF (decide_eq_false g2) rfl) fun _ _ H K => R.gtrN ((gN b).2.2) (1024) (eU K 52 rfl) (kI 1024 rfl) H,aU fun _ _ H K => R.pickF (eU K 50 rfl) (decide_eq_false g2) (eU K 53 rfl) rfl H,mU 54 rfl rfl,aW rfl rfl (gF (decide_eq_false g3) rfl) fun _ _ H K => R.mov (eU K 0 rfl) rfl H,aW rfl rfl (gF (decide_eq_false g3) rfl) fun _ _ H K => R.lenE (SC.sl (K 56 _ rfl)) (List.length_map _) H,aW rfl rfl (gF (decide_eq_false g3) rfl) fun _ _ H K => R.mov (eU K 5 rfl) rfl H,aW rfl rfl (gF (decide_eq_false g3) rfl) fun _ _ H K => R.idxP (1) (K 4 _ rfl) (evoI (kI 1 rfl)) rfl bU H,aW rfl rfl (gF (decide_eq_false g3) rfl) (lU 59 rfl rfl rfl rfl rfl rfl rfl),aW rfl rfl (gF (decide_eq_false g3) rfl) fun _ _ H K => R.mulN (32) ((gN b).2.1) (kI 32 rfl) (eU K 60 rfl) bU H,aW rfl rfl (gF (decide_eq_false g3) rfl) fun _ _ H K => R.addN (2 * 3) ((32 * (gN b).2.1)) (eU K 58 rfl) (eU K 61 rfl) bU H,aW rfl rfl (gF (decide_eq_false g3) rfl) fun _ _ H K => R.mov (eU K 10 rfl) rfl H,aW rfl rfl (gF (decide_eq_false g3) rfl) fun _ _ H K => R.addN ((2 * 3 + (32 * (gN b).2.1))) ((((gN b).2.2 + 7) / 8)) (eU K 62 rfl) (eU K 63 rfl) bU H,aW rfl rfl (gF (decide_eq_false g3) rfl) fun _ _ H K => R.neqN (b.length) (((2 * 3 + (32 * (gN b).2.1)) + (((gN b).2.2 + 7) / 8))) (eU K 57 rfl) (eU K 64 rfl) H,aU fun _ _ H K => R.pickF (eU K 55 rfl) (decide_eq_false g3) (eU K 65 rfl) rfl H,trivial⟩ rfl rfl rfl rfl (tU rfl ?_)
           refine W.condD rfl (fun hc66 => ?_) (fun hc66 => ?_)
           · refine W.seq ?_
             refine W.l0 3 [.y 67 _] [] [] [(2,_),(67,_)] [(4,.var _),(2,.var _)] 121 ⟨aU fun _ _ H _ => R.bldSE (l := [.int 0,.nils,.nils]) (l' := [_,_,_]) (.nil rfl) trivial H,trivial⟩ rfl rfl rfl rfl (⟨rfl,_,R.stZ (gU 2 rfl) (xU 2 rfl) rfl (gV 67 rfl) (by rfl) (by rfl) (by rfl) (by rfl) rfl,⟨rfl,_,R.asg (kI 5 rfl) rfl (nU rfl),tV [(2,_),(3,_)] [(4,.var _),(2,.var _)] 121 rfl rfl rfl ?_⟩⟩)
             refine W.wkB 2 (d' := partD zeroP) (bx' := [(4,.var _),(2,.var _)]) rfl wk_zeroP rfl ?_
             refine W.ret ?_
             exact Ends.many (.inr rfl) (.cons rfl rfl rfl (show LdT _ 25 3 true from inferInstance) (.cons rfl rfl rfl trivial .nil)) (by rw [get_no (fun h => by have := h.2; omega)] <;> rfl) (show [(2,false),(3,true)].Nodup by decide)
           · refine W.skip ?_
             refine W.seq ?_
             refine W.l0 5 [.y 68 _,.y 69 _,.y 70 _] [] [] [(0,_),(2,_),(4,_),(5,_),(10,_),(70,_)] [(4,.var _),(2,.var _)] 121 ⟨aU fun _ _ H K => R.idxP (0) (K 4 _ rfl) (evoI (kI 0 rfl)) rfl bU H,aU (lU 68 rfl rfl rfl rfl rfl rfl rfl),aU fun _ _ H K => R.bldSE (l := [.int 0,.nils,.nils]) (l' := [_,_,_]) (.cons (eU K 69 rfl) (.nil rfl)) ⟨⟨_,(eU K 69 rfl),rfl,rfl,rfl⟩,trivial⟩ H,trivial⟩ rfl rfl rfl rfl (⟨rfl,_,R.alloc rfl (nU rfl),⟨rfl,_,R.stZ (gU 11 rfl) (xU 11 rfl) rfl (gV 70 rfl) (by rfl) (by rfl) (by rfl) (by rfl) rfl,tV [(0,_),(2,_),(4,_),(5,_),(10,_),(11,_)] [(11,.var _),(4,.var _),(2,.var _)] 121 rfl rfl rfl ?_⟩⟩)
             refine W.seq ?_
             refine W.seq ?_
             refine W.asOwnP 11 [1] 38 32 (bx' := [(11,.var _),(4,.var _),(2,.var _)]) rfl rfl rfl rfl rfl ?_
             refine W.asOwnP 11 [2] 4 1 (bx' := [(11,.var _),(4,.var _),(2,.var _)]) rfl rfl rfl rfl rfl ?_
             refine W.l0 3 [.y 71 _,.y 72 _,.y 73 _] [] [] [(0,_),(2,_),(4,_),(5,_),(10,_),(11,_),(72,_),(73,_)] [(11,.var _),(4,.var _),(2,.var _)] 121 ⟨aU fun _ _ H K => R.idxP (1) (K 4 _ rfl) (evoI (kI 1 rfl)) rfl bU H,aU (lU 71 rfl rfl rfl rfl rfl rfl rfl),aU fun _ _ H _ => R.mov (kI 0 rfl) rfl H,trivial⟩ rfl rfl rfl rfl (tU rfl ?_)
             refine W.block ?_
             refine W.loop (α := {q__ : Nat // q__ ≤ (gN b).2.1}) (fun q__ => ⟨121,[(0,.sl none 1 (b.map D.u8)),(2,.ptr 2 0 []),(4,.ptr 4 0 []),(5,.int ((6 + 32 * q__.1 : Nat) : Int)),(10,.int (((((gN b).2.2 + 7) / 8) : Nat) : Int)),(11,.ptr 11 0 []),(72,.int (((gN b).2.1 : Nat) : Int)),(73,.int ((q__.1 : Nat) : Int))],[(11,.var (.agg [.int (((gN b).1 : Nat) : Int),.sl (some 38) 32 ((hsI b 6 q__.1).map hashD),.sl (some 4) 1 (([] : List Bool).map D.bool)])),(4,.var (.arr 3 1 [.int (((gN b).1 : Nat) : Int),.int (((gN b).2.1 : Nat) : Int),.int (((gN b).2.2 : Nat) : Int)])),(2,.var (.agg [.int 0,.nils,.nils]))]⟩) (fun q__ => (gN b).2.1 - q__.1) ⟨(0),bU⟩ rfl ?_
             rintro ⟨k,hk⟩
             show W _ _ _ _ ⟨121,[(0,.sl none 1 (b.map D.u8)),(2,.ptr 2 0 []),(4,.ptr 4 0 []),(5,.int ((6 + 32 * k : Nat) : Int)),(10,.int (((((gN b).2.2 + 7) / 8) : Nat) : Int)),(11,.ptr 11 0 []),(72,.int (((gN b).2.1 : Nat) : Int)),(73,.int ((k : Nat) : Int))],[(11,.var (.agg [.int (((gN b).1 : Nat) : Int),.sl (some 38) 32 ((hsI b 6 k).map hashD),.sl (some 4) 1 (([] : List Bool).map D.bool)])),(4,.var (.arr 3 1 [.int (((gN b).1 : Nat) : Int),.int (((gN b).2.1 : Nat) : Int),.int (((gN b).2.2 : Nat) : Int)])),(2,.var (.agg [.int 0,.nils,.nils]))]⟩
             have hk : k ≤ (gN b).2.1 := hk
             have hhl := hsI_len b 6 k
             refine W.seq ?_
             refine W.l0 1 [.y 74 _] [] [] [(0,_),(2,_),(4,_),(5,_),(10,_),(11,_),(72,_),(73,_),(74,_)] [(11,.var _),(4,.var _),(2,.var _)] 121 ⟨aU fun _ _ H K => R.lssN (k) ((gN b).2.1) (eU K 73 rfl) (eU K 72 rfl) H,trivial⟩ rfl rfl rfl rfl (tU rfl ?_)
             refine W.seq ?_
             refine W.condD rfl (fun hc74 => ?_) (fun hc74 => ?_)
             · refine W.skip ?_
               refine W.seq ?_
               refine W.block ?_
               refine W.seq ?_
               refine W.draw (m := 10) (an := [0,1,0,0,0,16,60,124,252,508,1023,2047,4095]) hP (by decide) rfl (its := [.y 75 _,.y 76 _,.y 77 _,.y 78 _,.y 79 _,.y 80 _,.y 81 _,.y 82 _,.y 83 _,.y 84 _]) (ks := []) (kk := []) (live := [0,2,4,5,10,11,72,73,76,84]) (env' := [(0,_),(2,_),(4,_),(5,_),(10,_),(11,_),(72,_),(73,_),(76,_),(84,_)]) (⟨nU rfl,rfl,⟨aU (fU 11 rfl rfl),aU fun _ B H K => R.ldO (K 75 _ rfl) (B 11 _ rfl) rfl H,mU 0 rfl rfl,mU 5 rfl rfl,mU 5 rfl rfl,aU fun _ _ H K => R.addN (6 + 32 * k) (32) (eU K 79 rfl) (kI 32 rfl) bU H,aU fun _ _ H K => R.slIN (6 + 32 * k) ((6 + 32 * k + 32)) (32) (eU K 77 rfl) (evoI (eU K 78 rfl)) (evoI (eU K 80 rfl)) rfl rfl bU bU bU (part_map) H,aU fun _ _ H K => R.sap (n := 32) (eU K 81 rfl) (by simp; omega) (by decide) H,aU fun _ _ H K => R.ldR (eU K 82 rfl) rfl rfl rfl H,aU fun _ _ H K => R.bslE (z := 32) (.cons (eU K 83 rfl) .nil) ⟨⟨rfl,rfl,rfl⟩,trivial⟩ rfl H (by decide),trivial⟩,rfl,rfl,rfl⟩) rfl (bx' := [(11,.var _),(4,.var _),(2,.var _)]) rfl (n' := 121) rfl (⟨rfl,_,R.appBP (gU 76 rfl) (xU 11 rfl) rfl rfl rfl rfl (gU 76 rfl) (SrcO.sc (SC.sl (gU 84 rfl)) (pur_lit rfl)) (show _ = ((hsI b 6 (k + 1)).map hashD) from (by rw [hsI,List.map_append]; rfl)) (by simp [hsI_len]; omega) (nU rfl) (by decide) (by decide),⟨rfl,_,R.fdP (gU 11 rfl) (nU rfl),⟨rfl,_,R.stOZ (gU 86 rfl) (xU 11 rfl) rfl (gU 85 rfl) rfl rfl (by rfl) (by rfl) rfl rfl,tV [(0,_),(2,_),(4,_),(5,_),(10,_),(11,_),(72,_),(73,_)] [(11,.var _),(4,.var _),(2,.var _)] 121 rfl rfl rfl ?_⟩⟩⟩)
               refine W.l0 3 [.y 87 _,.y 88 _,.y 5 _] [] [] [(0,_),(2,_),(4,_),(5,_),(10,_),(11,_),(72,_),(73,_)] [(11,.var _),(4,.var _),(2,.var _)] 121 ⟨mU 5 rfl rfl,aU fun _ _ H K => R.addN (6 + 32 * k) (32) (eU K 87 rfl) (kI 32 rfl) bU H,aU fun _ _ H K => R.asg (eU K 88 rfl) rfl H,trivial⟩ rfl rfl rfl rfl (tU rfl ?_)
               refine W.l0 2 [.y 89 _,.y 73 _] [] [] [(0,_),(2,_),(4,_),(5,_),(10,_),(11,_),(72,_),(73,_)] [(11,.var _),(4,.var _),(2,.var _)] 121 ⟨aU fun _ _ H K => R.addN (k) (1) (eU K 73 rfl) (kI 1 rfl) bU H,mU 89 rfl rfl,trivial⟩ rfl rfl rfl rfl (tU rfl ?_)
               exact ⟨⟨(k + 1),bU⟩,rfl,(by simp only []; omega)⟩
             · obtain rfl : k = (gN b).2.1 := by omega
               refine W.exit ?_
               refine W.seq ?_
               refine W.seq ?_
               refine W.l0 3 [.y 90 _,.y 91 _,.y 92 _] [] [] [(0,_),(2,_),(4,_),(5,_),(11,_),(91,_),(92,_)] [(11,.var _),(4,.var _),(2,.var _)] 121 ⟨mU 10 rfl rfl,aU fun _ _ H K => R.mulN (8) ((((gN b).2.2 + 7) / 8)) (kI 8 rfl) (eU K 90 rfl) bU H,aU fun _ _ H _ => R.mov (kI 0 rfl) rfl H,trivial⟩ rfl rfl rfl rfl (tU rfl ?_)
               refine W.block ?_
               refine W.loop (α := {q__ : Nat // q__ ≤ 8 * (((gN b).2.2 + 7) / 8) ∧ ∀ j,(gN b).2.2 ≤ j → j < q__ → bitS b (6 + 32 * (gN b).2.1) j = false}) (fun q__ => ⟨121,[(0,.sl none 1 (b.map D.u8)),(2,.ptr 2 0 []),(4,.ptr 4 0 []),(5,.int (((6 + 32 * (gN b).2.1) : Nat) : Int)),(11,.ptr 11 0 []),(91,.int ((8 * (((gN b).2.2 + 7) / 8) : Nat) : Int)),(92,.int ((q__.1 : Nat) : Int))],[(11,.var (.agg [.int (((gN b).1 : Nat) : Int),.sl (some 38) 32 ((hsI b 6 (gN b).2.1).map hashD),.sl (some 4) 1 ((flI b (6 + 32 * (gN b).2.1) (min q__.1 (gN b).2.2)).map D.bool)])),(4,.var (.arr 3 1 [.int (((gN b).1 : Nat) : Int),.int (((gN b).2.1 : Nat) : Int),.int (((gN b).2.2 : Nat) : Int)])),(2,.var (.agg [.int 0,.nils,.nils]))]⟩) (fun q__ => 8 * (((gN b).2.2 + 7) / 8) - q__.1) ⟨(0),⟨Nat.zero_le _,fun j _ h => absurd h (Nat.not_lt_zero j)⟩⟩ (by rw [show min 0 (gN b).2.2 = 0 by omega]; rfl) ?_
               rintro ⟨i,⟨hi,hz⟩⟩
               show W _ _ _ _ ⟨121,[(0,.sl none 1 (b.map D.u8)),(2,.ptr 2 0 []),(4,.ptr 4 0 []),(5,.int (((6 + 32 * (gN b).2.1) : Nat) : Int)),(11,.ptr 11 0 []),(91,.int ((8 * (((gN b).2.2 + 7) / 8) : Nat) : Int)),(92,.int ((i : Nat) : Int))],[(11,.var (.agg [.int (((gN b).1 : Nat) : Int),.sl (some 38) 32 ((hsI b 6 (gN b).2.1).map hashD),.sl (some 4) 1 ((flI b (6 + 32 * (gN b).2.1) (min i (gN b).2.2)).map D.bool)])),(4,.var (.arr 3 1 [.int (((gN b).1 : Nat) : Int),.int (((gN b).2.1 : Nat) : Int),.int (((gN b).2.2 : Nat) : Int)])),(2,.var (.agg [.int 0,.nils,.nils]))]⟩
               have hi : i ≤ 8 * (((gN b).2.2 + 7) / 8) := hi
               refine W.seq ?_
               refine W.l0 1 [.y 93 _] [] [] [(0,_),(2,_),(4,_),(5,_),(11,_),(91,_),(92,_),(93,_)] [(11,.var _),(4,.var _),(2,.var _)] 121 ⟨aU fun _ _ H K => R.lssN (i) (8 * (((gN b).2.2 + 7) / 8)) (eU K 92 rfl) (eU K 91 rfl) H,trivial⟩ rfl rfl rfl rfl (tU rfl ?_)
               refine W.seq ?_
               refine W.condD rfl (fun hc93 => ?_) (fun hc93 => ?_)
               · refine W.skip ?_
                 refine W.seq ?_
                 refine W.block ?_
                 refine W.seq ?_
                 refine W.l0 2 [.y 94 _,.y 12 _] [] [] [(0,_),(2,_),(4,_),(5,_),(11,_),(12,_),(91,_),(92,_)] [(11,.var _),(4,.var _),(2,.var _)] 121 ⟨mU 92 rfl rfl,aU fun _ _ H K => R.asg (eU K 94 rfl) rfl H,trivial⟩ rfl rfl rfl rfl (tU rfl ?_)
                 refine W.seq ?_
                 refine W.l0 13 [.y 95 _,.y 96 _,.y 97 _,.y 98 _,.y 99 _,.y 100 _,.y 101 _,.y 102 _,.y 103 _,.y 104 _,.y 105 _,.y 106 _,.y 13 _] [] [] [(0,_),(2,_),(4,_),(5,_),(11,_),(12,_),(13,_),(91,_),(92,_)] [(11,.var _),(4,.var _),(2,.var _)] 121 ⟨mU 0 rfl rfl,mU 5 rfl rfl,mU 12 rfl rfl,aU fun _ _ H K => R.quoN (i) (8) (eU K 97 rfl) (kI 8 rfl) bU bU H,aU fun _ _ H K => R.addN ((6 + 32 * (gN b).2.1)) ((i / 8)) (eU K 96 rfl) (eU K 98 rfl) bU H,aU fun _ _ H K => R.idxN (((6 + 32 * (gN b).2.1) + (i / 8))) (SC.sl (K 95 _ rfl)) (evoI (eU K 99 rfl)) rfl bU H (by decide),aU fun _ _ H K => R.ldE (K 100 _ rfl) (SC.sl (K 95 _ rfl)) (map_get! (l := b) bU) rfl rfl rfl rfl H,mU 12 rfl rfl,aU fun _ _ H K => R.remN (i) (8) (eU K 102 rfl) (kI 8 rfl) bU H,aU fun _ _ H K => R.bin (eU K 101 rfl) (eU K 103 rfl) rfl bV H,aU fun _ _ H K => R.bin (eU K 104 rfl) (show ev _ _ (.const (.int .u8 1)) = some (.u8 1) from rfl) rfl trivial H,aU fun _ _ H K => R.binE (d := .bool (bitS b (6 + 32 * (gN b).2.1) i)) (eU K 105 rfl) (show ev _ _ (.const (.int .u8 1)) = some (.u8 1) from rfl) rfl trivial (rfl) H,aU fun _ _ H K => R.asg (eU K 106 rfl) rfl H,trivial⟩ rfl rfl rfl rfl (tU rfl ?_)
                 refine W.seq ?_
                 refine W.l0 4 [.y 107 _,.y 108 _,.y 109 _,.y 110 _] [] [] [(0,_),(2,_),(4,_),(5,_),(11,_),(13,_),(91,_),(92,_),(110,_)] [(11,.var _),(4,.var _),(2,.var _)] 121 ⟨mU 12 rfl rfl,aU fun _ _ H K => R.idxP (2) (K 4 _ rfl) (evoI (kI 2 rfl)) rfl bU H,aU (lU 108 rfl rfl rfl rfl rfl rfl rfl),aU fun _ _ H K => R.lssN (i) ((gN b).2.2) (eU K 107 rfl) (eU K 109 rfl) H,trivial⟩ rfl rfl rfl rfl (tU rfl ?_)
                 refine W.condD rfl (fun hc110 => ?_) (fun hc110 => ?_)
                 · refine W.l0 7 [.y 111 _,.y 112 _,.y 113 _,.y 114 _] [] [] [(0,_),(2,_),(4,_),(5,_),(11,_),(91,_),(92,_),(112,_),(114,_)] [(11,.var _),(4,.var _),(2,.var _)] 121 ⟨aU (fU 11 rfl rfl),aU fun _ B H K => R.ldO (K 111 _ rfl) (B 11 _ rfl) rfl H,mU 13 rfl rfl,aU fun _ _ H K => R.bslE (z := 1) (.cons (eU K 113 rfl) .nil) ⟨⟨rfl,rfl,rfl⟩,trivial⟩ rfl H (by decide),trivial⟩ rfl rfl rfl rfl (⟨rfl,_,R.appBP (gU 112 rfl) (xU 11 rfl) rfl rfl rfl rfl (gU 112 rfl) (SrcO.sc (SC.sl (gU 114 rfl)) (pur_lit rfl)) (show _ = ((flI b (6 + 32 * (gN b).2.1) (min (i + 1) (gN b).2.2)).map D.bool) from (by rw [show min (i + 1) (gN b).2.2 = min i (gN b).2.2 + 1 by omega,flI_succ,List.map_append,show min i (gN b).2.2 = i by omega]; rfl)) (by simp [flI_len]; omega) (nU rfl) (by decide) (by decide),⟨rfl,_,R.fdP (gU 11 rfl) (nU rfl),⟨rfl,_,R.stOZ (gU 116 rfl) (xU 11 rfl) rfl (gU 115 rfl) rfl rfl (by rfl) (by rfl) rfl rfl,tV [(0,_),(2,_),(4,_),(5,_),(11,_),(91,_),(92,_)] [(11,.var _),(4,.var _),(2,.var _)] 121 rfl rfl rfl ?_⟩⟩⟩)
                   refine W.l0 2 [.y 119 _,.y 92 _] [] [] [(0,_),(2,_),(4,_),(5,_),(11,_),(91,_),(92,_)] [(11,.var _),(4,.var _),(2,.var _)] 121 ⟨aU fun _ _ H K => R.addN (i) (1) (eU K 92 rfl) (kI 1 rfl) bU H,mU 119 rfl rfl,trivial⟩ rfl rfl rfl rfl (tU rfl ?_)
                   exact ⟨⟨(i + 1),⟨by omega,fun j h1 h2 => by rcases Nat.lt_or_ge j i with h | h; exact hz j h1 h; obtain rfl : j = i := (by omega); first | omega | exact hc117⟩⟩,(by first | rfl | (rw [show min i (gN b).2.2 = min (i + 1) (gN b).2.2 by omega])),(by simp only []; omega)⟩
                 · refine W.seq ?_
                   refine W.l0 1 [.y 117 _] [] [] [(0,_),(2,_),(4,_),(5,_),(11,_),(91,_),(92,_),(117,_)] [(11,.var _),(4,.var _),(2,.var _)] 121 ⟨mU 13 rfl rfl,trivial⟩ rfl rfl rfl rfl (tU rfl ?_)
                   refine W.cond rfl (fun hc117 => ?_) (fun hc117 => ?_)
                   · refine W.seq ?_
                     refine W.l0 3 [.y 118 _] [] [] [(2,_),(118,_)] [(11,.var _),(4,.var _),(2,.var _)] 121 ⟨aU fun _ _ H _ => R.bldSE (l := [.int 0,.nils,.nils]) (l' := [_,_,_]) (.nil rfl) trivial H,trivial⟩ rfl rfl rfl rfl (⟨rfl,_,R.stZ (gU 2 rfl) (xU 2 rfl) rfl (gV 118 rfl) (by rfl) (by rfl) (by rfl) (by rfl) rfl,⟨rfl,_,R.asg (kI 5 rfl) rfl (nU rfl),tV [(2,_),(3,_)] [(11,.var _),(4,.var _),(2,.var _)] 121 rfl rfl rfl ?_⟩⟩)
                     refine W.wkB 2 (d' := partD zeroP) (bx' := [(11,.var _),(4,.var _),(2,.var _)]) rfl wk_zeroP rfl ?_
                     refine W.ret ?_
                     exact Ends.many (.inr rfl) (.cons rfl rfl rfl (show LdT _ 25 3 true from inferInstance) (.cons rfl rfl rfl trivial .nil)) (by rw [get_no (fun h => by have := h.2.2.2.2.2.2 i (by omega) (by omega); rw [hc117] at this; cases this)] <;> rfl) (show [(2,false),(3,true)].Nodup by decide)
                   · refine W.skip ?_
                     refine W.l0 2 [.y 119 _,.y 92 _] [] [] [(0,_),(2,_),(4,_),(5,_),(11,_),(91,_),(92,_)] [(11,.var _),(4,.var _),(2,.var _)] 121 ⟨aU fun _ _ H K => R.addN (i) (1) (eU K 92 rfl) (kI 1 rfl) bU H,mU 119 rfl rfl,trivial⟩ rfl rfl rfl rfl (tU rfl ?_)
                     exact ⟨⟨(i + 1),⟨by omega,fun j h1 h2 => by rcases Nat.lt_or_ge j i with h | h; exact hz j h1 h; obtain rfl : j = i := (by omega); first | omega | exact hc117⟩⟩,(by first | rfl | (rw [show min i (gN b).2.2 = min (i + 1) (gN b).2.2 by omega])),(by simp only []; omega)⟩
               · obtain rfl : i = 8 * (((gN b).2.2 + 7) / 8) := by omega
                 have hmn : min (8 * (((gN b).2.2 + 7) / 8)) (gN b).2.2 = (gN b).2.2 := by omega
                 rw [hmn]
                 refine W.exit ?_
                 refine W.seq ?_
                 refine W.brwB 11 (d' := .agg [.int (((gN b).1 : Nat) : Int),.sl none 32 ((hsI b 6 (gN b).2.1).map hashD),.sl none 1 ((flI b (6 + 32 * (gN b).2.1) (gN b).2.2).map D.bool)]) (bx' := [(11,.var _),(4,.var _),(2,.var _)]) rfl (show (D.agg [.int (((gN b).1 : Nat) : Int),.sl (some 38) 32 ((hsI b 6 (gN b).2.1).map hashD),.sl (some 4) 1 ((flI b (6 + 32 * (gN b).2.1) (gN b).2.2).map D.bool)]).brw = _ from by simp only [D.brw,brws_eq,List.map_cons,List.map_nil]; rw [brw_map brw_hash,brw_map (fun _ => rfl)]) rfl ?_
                 refine W.l0 3 [.y 120 _] [] [] [(2,_),(120,_)] [(11,.var _),(4,.var _),(2,.var _)] 121 ⟨aU (lU 11 rfl rfl rfl rfl rfl rfl rfl),trivial⟩ rfl rfl rfl rfl (⟨rfl,_,R.stZ (gU 2 rfl) (xU 2 rfl) rfl (gV 120 rfl) (by rfl) (by rfl) (by rfl) (by rfl) rfl,⟨rfl,_,R.asg (kI 0 rfl) rfl (nU rfl),tV [(2,_),(3,_)] [(11,.var _),(4,.var _),(2,.var _)] 121 rfl rfl rfl ?_⟩⟩)
                 refine W.ret ?_
                 exact Ends.many (.inr rfl) (.cons rfl rfl rfl (show LdT _ 25 3 true from inferInstance) (.cons rfl rfl rfl trivial .nil)) (by rw [get_ok ⟨by omega,by omega,by omega,by omega,by omega,by omega,fun j h1 h2 => hz j h1 h2⟩] <;> rfl) (show [(2,false),(3,true)].Nodup by decide)

end Go.Sx

namespace Go.Sx
open Go.Proofs
def calS (is : List Bool) (row k : Nat) : Bool := (List.range is.length).any fun i => decide (i / 2 ^ row = k) && is[i]!
theorem calS_t {is : List Bool} {row k i : Nat} (hi : i < is.length) (h : i / 2 ^ row = k) (h2 : is[i]! = true) : calS is row k = true := by
 unfold calS
 rw [List.any_eq_true]
 exact ⟨i,List.mem_range.2 hi,by rw [h2,decide_eq_true h]; rfl⟩
theorem calS_f {is : List Bool} {row k : Nat} (h : ∀ i,i < is.length → ¬ (i / 2 ^ row = k ∧ is[i]! = true)) : calS is row k = false := by
 unfold calS
 rw [List.any_eq_false]
 intro i hi
 have := h i (List.mem_range.1 hi)
 simp only [Bool.and_eq_true,decide_eq_true_eq]
 exact this
end Go.Sx

namespace Go.Sx
open Go.Proofs
end Go.Sx

namespace Go.Sx
open Go.Proofs
end Go.Sx

namespace Go.Sx
open Go.Proofs
end Go.Sx

namespace Go.Sx
open Go.Proofs
section
variable {w : List Nat} {r k : Nat} {bad bad1 bad2 : Bool} {fl fl1 fl2 : List Bool} {hs hs1 hs2 ids ids1 ids2 : List Hs} {at_ at1 at2 : List Nat} {a b : Hs}
end
end Go.Sx

namespace Go.Sx
open Go.Proofs
end Go.Sx

namespace Go.Sx
open Go.Proofs
section
variable {n : Int} {m : Nat} {hs hs1 ids1 : List Hs} {fl fl1 : List Bool} {a : Hs} {bad1 : Bool} {at1 : List Nat}
end
theorem lenA_succ (n k : Nat) : lenA n (k + 1) = (lenA n k + 1) / 2 := rfl
theorem lenA_last {n : Nat} (h : 0 < n) : lenA n (nRows n - 1) = 1 := by
 have key : ∀ k,k + 1 ≤ nRows n → k + nRows (lenA n k) = nRows n := by
  intro k
  induction k with
  | zero => intro _; show 0 + nRows n = _; omega
  | succ k ih =>
   intro hk
   have h1 := ih (by omega)
   have hp := lenA_pos h k
   have h2 : 2 ≤ lenA n k := by
    rcases Nat.lt_or_ge (lenA n k) 2 with h3 | h3
    · have := nRows_short (n := lenA n k) (by omega); omega
    · exact h3
   rw [nRows_2 h2] at h1
   rw [lenA_succ]; omega
 have hp := nRows_pos h
 have h1 := key (nRows n - 1) (by omega)
 rcases Nat.lt_or_ge (lenA n (nRows n - 1)) 2 with h3 | h3
 · have := lenA_pos h (nRows n - 1); omega
 · rw [nRows_2 h3] at h1
   have := nRows_pos (n := (lenA n (nRows n - 1) + 1) / 2) (by omega)
   omega
section
variable {l : List Hs} {f : List Bool}
end
section
variable {p : List UInt8} {fl : List Bool} {k : Nat}
end
end Go.Sx

namespace Go.Sx
open Go.Proofs
end Go.Sx

namespace Go.Sx
open Go.Proofs
end Go.Sx

namespace Go.Sx
open Go.Proofs
end Go.Sx

namespace Go.Sx
open Go.Proofs
end Go.Sx

namespace Go.Sx
open Go.Proofs
end Go.Sx

namespace Go.Sx
theorem get!_snoc {α : Type} [Inhabited α] (l : List α) (x : α) (j : Nat) : (l ++ [x])[j]! = if j < l.length then l[j]! else if j = l.length then x else default := by
 split
 · rename_i h
   rw [getElem!_pos _ j (by simp; omega),getElem!_pos l j h,List.getElem_append_left h]
 · split
   · rename_i h h2
     subst h2
     rw [getElem!_pos _ _ (by simp)]; simp
   · rw [getElem!_neg _ j (by simp; omega)]
theorem upFI_get (f : List Bool) : ∀ (i j : Nat),j < i → (upFI f i)[j]! = (f[2 * j]! || f[min (2 * j + 1) (f.length - 1)]!) := by
 intro i
 induction i with
 | zero => intro j h; omega
 | succ i ih =>
  intro j h
  rw [upFI,get!_snoc,upFI_len]
  by_cases hj : j < i
  · rw [if_pos hj]; exact ih j hj
  · rw [if_neg hj,if_pos (by omega)]
    rw [show j = i by omega]
theorem calS_iff (is : List Bool) (row k : Nat) : calS is row k = true ↔ ∃ i,i < is.length ∧ i / 2 ^ row = k ∧ is[i]! = true := by
 constructor
 · intro h
   unfold calS at h
   rw [List.any_eq_true] at h
   obtain ⟨i,hi,h2⟩ := h
   simp only [Bool.and_eq_true,decide_eq_true_eq] at h2
   exact ⟨i,List.mem_range.1 hi,h2⟩
 · rintro ⟨i,hi,h1,h2⟩
   exact calS_t hi h1 h2
theorem calS_succ (is : List Bool) (r k : Nat) : calS is (r + 1) k = (calS is r (2 * k) || calS is r (2 * k + 1)) := by
 rw [Bool.eq_iff_iff,Bool.or_eq_true,calS_iff,calS_iff,calS_iff]
 have key : ∀ i,i / 2 ^ (r + 1) = k ↔ i / 2 ^ r = 2 * k ∨ i / 2 ^ r = 2 * k + 1 := fun i => by
  rw [Nat.pow_succ,← Nat.div_div_eq_div_mul]; omega
 constructor
 · rintro ⟨i,hi,h1,h2⟩
   rcases (key i).1 h1 with h | h
   · exact .inl ⟨i,hi,h,h2⟩
   · exact .inr ⟨i,hi,h,h2⟩
 · rintro (⟨i,hi,h1,h2⟩ | ⟨i,hi,h1,h2⟩)
   · exact ⟨i,hi,(key i).2 (.inl h1),h2⟩
   · exact ⟨i,hi,(key i).2 (.inr h1),h2⟩
theorem calS_far {is : List Bool} {r k : Nat} (h : lenA is.length r ≤ k) : calS is r k = false := by
 refine calS_f fun i hi hh => ?_
 have := idx_lt (n := is.length) hi r
 omega
theorem flA_leng (f : List Bool) (r : Nat) : (flA f r).length = lenA f.length r := by
 induction r with
 | zero => rfl
 | succ r ih => show (upFI _ _).length = _; rw [upFI_len,ih]; rfl
theorem flA_cal (f : List Bool) : ∀ (r k : Nat),k < lenA f.length r → (flA f r)[k]! = calS f r k := by
 intro r
 induction r with
 | zero =>
  intro k hk
  have hk : k < f.length := hk
  show f[k]! = _
  rw [Bool.eq_iff_iff,calS_iff]
  constructor
  · intro h; exact ⟨k,hk,by simp,h⟩
  · rintro ⟨i,hi,h1,h2⟩
    have : i = k := by simpa using h1
    rw [← this]; exact h2
 | succ r ih =>
  intro k hk
  have hl := flA_leng f r
  have hk' : k < (lenA f.length r + 1) / 2 := hk
  show (upFI (flA f r) (((flA f r).length + 1) / 2))[k]! = _
  rw [upFI_get _ _ _ (by omega),calS_succ,ih (2 * k) (by omega),hl]
  by_cases h2 : 2 * k + 1 < lenA f.length r
  · rw [Nat.min_eq_left (by omega),ih _ h2]
  · rw [Nat.min_eq_right (by omega),show lenA f.length r - 1 = 2 * k by omega,ih (2 * k) (by omega),calS_far (k := 2 * k + 1) (by omega),Bool.or_self,Bool.or_false]
theorem rows_out (J : Hs → Hs → Hs) (l : List Hs) (r : Nat) (h : ¬ r < nRows l.length) : (rowsL J l (nRows l.length))[r]! = [] := by
 rw [getElem!_neg _ r (by rw [rowsL_len]; exact h)]; rfl
end Go.Sx

namespace Go.Sx
theorem hd3 (a b c : Nat) : hdI [a,b,c] 3 = leB (UInt64.ofInt ((a : Nat) : Int)) 2 ++ (leB (UInt64.ofInt ((b : Nat) : Int)) 2 ++ leB (UInt64.ofInt ((c : Nat) : Int)) 2) := by
 show (([] ++ _) ++ _) ++ _ = _
 rw [List.nil_append,List.append_assoc]
 rfl
theorem put_len {m : Nat} {hs : List Hs} {fl : List Bool} (hh : allH hs) : (putB m hs fl).length = 6 + 32 * hs.length + (fl.length + 7) / 8 := by
 rw [putB,List.length_append,List.length_append,hdI_len,flatI_len hh _ (Nat.le_refl _),pkI_len]
end Go.Sx

namespace Go.Sx
abbrev HF := List Hs × List Bool
def apP (p q : HF) : HF := (p.1 ++ q.1,p.2 ++ q.2)
theorem wkB_acc (L : List (List Hs)) (F : List (List Bool)) : ∀ (r k : Nat) (p : HF),wkB L F r k p = apP p (wkB L F r k ([],[])) := by
 intro r
 induction r with
 | zero =>
  intro k p
  simp only [wkB]
  split
  · simp [apP]
  · simp [apP]
 | succ r ih =>
  intro k p
  simp only [wkB]
  split
  · simp [apP]
  · split
    · rw [ih (2 * k + 1) (wkB L F r (2 * k) (p.1,p.2 ++ [true])),ih (2 * k) (p.1,p.2 ++ [true]),ih (2 * k + 1) (wkB L F r (2 * k) (([] : List Hs),([] : List Bool) ++ [true])),ih (2 * k) (([] : List Hs),([] : List Bool) ++ [true])]
      simp only [apP,List.append_assoc,List.nil_append]
    · simp [apP]
def wkZ (L : List (List Hs)) (F : List (List Bool)) (r k : Nat) : HF := wkB L F r k ([],[])
section
variable {L : List (List Hs)} {F : List (List Bool)} {r k : Nat}
theorem wkZ_skip (h : L[r]!.length ≤ k) : wkZ L F r k = ([],[]) := wk_skip h
theorem wkZ_leaf0 (h : k < L[0]!.length) : wkZ L F 0 k = ([L[0]![k]!],[F[0]![k]!]) := wk_leaf0 (by omega)
theorem wkZ_leaf (h : k < L[r + 1]!.length) (hf : F[r + 1]![k]! = false) : wkZ L F (r + 1) k = ([L[r + 1]![k]!],[false]) := by
 have := wk_leaf (p := (([] : List Hs),([] : List Bool))) (show ¬ L[r + 1]!.length ≤ k by omega) hf
 rw [hf] at this; exact this
theorem wkZ_in (h : k < L[r + 1]!.length) (hf : F[r + 1]![k]! = true) : wkZ L F (r + 1) k = ((wkZ L F r (2 * k)).1 ++ (wkZ L F r (2 * k + 1)).1,true :: ((wkZ L F r (2 * k)).2 ++ (wkZ L F r (2 * k + 1)).2)) := by
 have := wk_in (p := (([] : List Hs),([] : List Bool))) (show ¬ L[r + 1]!.length ≤ k by omega) hf
 rw [hf] at this
 unfold wkZ
 rw [this,wkB_acc L F r (2 * k + 1),wkB_acc L F r (2 * k)]
 simp [apP]
end
def posL (f : List Bool) (lo n : Nat) : List Nat := (List.range' lo n).filter fun i => f[i]!
theorem posL_0 (f : List Bool) (lo : Nat) : posL f lo 0 = [] := rfl
theorem posL_add (f : List Bool) (lo a b : Nat) : posL f lo (a + b) = posL f lo a ++ posL f (lo + a) b := by
 unfold posL
 rw [← List.filter_append,List.range'_append_1]
theorem posL_none {f : List Bool} {lo n : Nat} (h : ∀ i,lo ≤ i → i < lo + n → f[i]! = false) : posL f lo n = [] := by
 unfold posL
 rw [List.filter_eq_nil_iff]
 intro i hi
 rw [List.mem_range'_1] at hi
 rw [h i hi.1 hi.2]; simp
theorem posL_all {f : List Bool} {lo n : Nat} (h : ∀ i,lo ≤ i → i < lo + n → f[i]! = true) : posL f lo n = List.range' lo n := by
 unfold posL
 rw [List.filter_eq_self]
 intro i hi
 rw [List.mem_range'_1] at hi
 exact h i hi.1 hi.2
theorem rowDbl_at {l : List Hs} (h : rowDbl l = false) {j : Nat} (hj : 2 * j + 1 < l.length) : (l[2 * j]! != l[2 * j + 1]!) = true := by
 cases hx : (l[2 * j + 1]! == l[2 * j]!) with
 | true => rw [rowDbl_true (i := 2 * j + 1) (by omega) hj hx] at h; cases h
 | false =>
  have : l[2 * j]! ≠ l[2 * j + 1]! := fun e => by rw [e] at hx; simp at hx
  simpa using this
def cnt (n r k : Nat) : Nat := min ((k + 1) * 2 ^ r) n - k * 2 ^ r
theorem cnt_in {n r k : Nat} : cnt n (r + 1) k = cnt n r (2 * k) + cnt n r (2 * k + 1) := by
 unfold cnt
 have e : 2 ^ (r + 1) = 2 * 2 ^ r := by rw [Nat.pow_succ]; omega
 have h1 : (k + 1) * 2 ^ (r + 1) = (2 * k + 1 + 1) * 2 ^ r := by rw [e,← Nat.mul_assoc]; congr 1; omega
 have h2 : k * 2 ^ (r + 1) = 2 * k * 2 ^ r := by rw [e,← Nat.mul_assoc]; congr 1; omega
 have h3 : (2 * k + 1) * 2 ^ r = 2 * k * 2 ^ r + 2 ^ r := by rw [Nat.add_mul,Nat.one_mul]
 have h4 : (2 * k + 1 + 1) * 2 ^ r = (2 * k + 1) * 2 ^ r + 2 ^ r := by rw [Nat.add_mul _ 1,Nat.one_mul]
 have h5 := Nat.one_le_two_pow (n := r)
 rw [h1,h2,h4,h3]
 generalize 2 * k * 2 ^ r = u at *
 generalize 2 ^ r = t at *
 omega
theorem cnt_lo {n r k : Nat} : 2 * k * 2 ^ r + cnt n r (2 * k) = (2 * k + 1) * 2 ^ r ∨ cnt n r (2 * k + 1) = 0 := by
 unfold cnt
 have h3 : (2 * k + 1) * 2 ^ r = 2 * k * 2 ^ r + 2 ^ r := by rw [Nat.add_mul,Nat.one_mul]
 have h4 : (2 * k + 1 + 1) * 2 ^ r = (2 * k + 1) * 2 ^ r + 2 ^ r := by rw [Nat.add_mul _ 1,Nat.one_mul]
 rw [h4,h3]
 generalize 2 * k * 2 ^ r = u at *
 generalize 2 ^ r = t at *
 omega
theorem cnt_pos {n r k : Nat} (h : k < lenA n r) : 1 ≤ cnt n r k := by
 have h1 := idx_back r h
 have h3 : (k + 1) * 2 ^ r = k * 2 ^ r + 2 ^ r := by rw [Nat.add_mul,Nat.one_mul]
 have h4 := Nat.one_le_two_pow (n := r)
 unfold cnt
 omega
theorem lenA_back {n r k : Nat} (h : k * 2 ^ r < n) : k < lenA n r := by
 have h1 := idx_lt h r
 rwa [Nat.mul_div_cancel _ (Nat.two_pow_pos r)] at h1
theorem cnt_out {n r k : Nat} (h : lenA n r ≤ k) : cnt n r k = 0 := by
 unfold cnt
 rcases Nat.lt_or_ge (k * 2 ^ r) n with h1 | h1
 · have := lenA_back h1; omega
 · have h3 : (k + 1) * 2 ^ r = k * 2 ^ r + 2 ^ r := by rw [Nat.add_mul,Nat.one_mul]
   omega
theorem posL_in (f : List Bool) (n r k : Nat) : posL f (k * 2 ^ (r + 1)) (cnt n (r + 1) k) = posL f (2 * k * 2 ^ r) (cnt n r (2 * k)) ++ posL f ((2 * k + 1) * 2 ^ r) (cnt n r (2 * k + 1)) := by
 rw [cnt_in,posL_add,show k * 2 ^ (r + 1) = 2 * k * 2 ^ r by rw [Nat.pow_succ,Nat.mul_comm (2 ^ r) 2,← Nat.mul_assoc,Nat.mul_comm k 2]]
 congr 1
 rcases cnt_lo (n := n) (r := r) (k := k) with h | h
 · rw [h]
 · rw [h]; rfl
structure Rws (J : Hs → Hs → Hs) (l : List Hs) (f : List Bool) (L : List (List Hs)) (F : List (List Bool)) : Prop where
 hf : f.length = l.length
 row : ∀ r : Nat,r < nRows l.length → L[r]! = rowA J l r
 fl : ∀ r k : Nat,r < nRows l.length → k < lenA l.length r → F[r]![k]! = calS f r k
theorem rws (l : List Hs) (f : List Bool) (hf : f.length = l.length) : Rws joinS l f (rowsL joinS l (nRows l.length)) (flsL f (nRows l.length)) := by
 refine ⟨hf,fun r hr => rowsL_get hr,fun r k hr hk => ?_⟩
 rw [flsL_get hr]
 exact flA_cal f r k (by rw [hf]; exact hk)
section
variable {J : Hs → Hs → Hs} {l : List Hs} {f : List Bool} {L : List (List Hs)} {F : List (List Bool)}
theorem Rws.len (R : Rws J l f L F) {r : Nat} (hr : r < nRows l.length) : L[r]!.length = lenA l.length r := by rw [R.row r hr,rowA_len]
theorem Rws.under (R : Rws J l f L F) {r k : Nat} (hr : r < nRows l.length) (hk : k < lenA l.length r) (hF : F[r]![k]! = false) : posL f (k * 2 ^ r) (cnt l.length r k) = [] := by
 rw [R.fl r k hr hk] at hF
 refine posL_none fun i h1 h2 => ?_
 cases hi : f[i]! with
 | false => rfl
 | true =>
  have h3 : i < l.length := by unfold cnt at h2; omega
  have h4 : i / 2 ^ r = k := by
   have h5 : (k + 1) * 2 ^ r = k * 2 ^ r + 2 ^ r := by rw [Nat.add_mul,Nat.one_mul]
   have h6 : i < (k + 1) * 2 ^ r := by unfold cnt at h2; omega
   apply Nat.div_eq_of_lt_le <;> omega
  rw [calS_t (by rw [R.hf]; exact h3) h4 hi] at hF
  cases hF
theorem shows1 (R : Rws joinS l f L F) (hd : dblS joinS l = false) (w : List Nat) (hw : ∀ r : Nat,r < nRows l.length → w[r]! = lenA l.length r) :
 ∀ r,r < nRows l.length → ∀ k,k < lenA l.length r → ∀ (fr : List Bool) (hr ids : List Hs) (at_ : List Nat),
  ckW w r k ((wkZ L F r k).2 ++ fr,(wkZ L F r k).1 ++ hr,ids,at_) = (((rowA joinS l r)[k]!,true),fr,hr,ids ++ (posL f (k * 2 ^ r) (cnt l.length r k)).map (fun i => l[i]!),at_ ++ posL f (k * 2 ^ r) (cnt l.length r k)) := by
 have hdd : ∀ q,q < nRows l.length → rowDbl (rowA joinS l q) = false := fun q hq => by
  cases hx : rowDbl (rowA joinS l q) with
  | false => rfl
  | true => rw [dblS_true hq hx] at hd; cases hd
 intro r
 induction r with
 | zero =>
  intro hr0 k hk fr hr ids at_
  have hL := R.len hr0
  have hrow := R.row 0 hr0
  have hk0 : k < l.length := hk
  rw [wkZ_leaf0 (by rw [hL]; exact hk),hrow]
  have hcal : F[0]![k]! = f[k]! := by
   rw [R.fl 0 k hr0 hk,← flA_cal f 0 k (by rw [R.hf]; exact hk)]; rfl
  rw [ck_0 (by simp)]
  have hc1 : cnt l.length 0 k = 1 := by unfold cnt; simp; omega
  rw [hc1]
  cases hf : f[k]! with
  | true =>
   rw [hcal,hf]
   show ckLeaf k true (fr,_ :: hr,ids,at_) = _
   rw [cl_t (by simp) rfl]
   have hp : posL f (k * 2 ^ 0) 1 = [k] := by rw [posL_all (fun i h1 h2 => by have : i = k := (by omega); rw [this]; exact hf)]; simp
   rw [hp]
   rfl
  | false =>
   rw [hcal,hf]
   show ckLeaf k false (fr,_ :: hr,ids,at_) = _
   rw [cl_f (by simp) rfl]
   have hp : posL f (k * 2 ^ 0) 1 = [] := posL_none (fun i h1 h2 => by have : i = k := (by omega); rw [this]; exact hf)
   rw [hp]
   simp only [List.map_nil,List.append_nil]
   rfl
 | succ r ih =>
  intro hr0 k hk fr hr ids at_
  have hL := R.len hr0
  have hrow := R.row (r + 1) hr0
  have hk2 : k < (lenA l.length r + 1) / 2 := hk
  cases hF : F[r + 1]![k]! with
  | false =>
   rw [wkZ_leaf (by rw [hL]; exact hk) hF,hrow,R.under hr0 hk hF,ck_l (by simp) rfl]
   show ckLeaf k false (fr,_ :: hr,ids,at_) = _
   rw [cl_f (by simp) rfl]
   simp only [List.map_nil,List.append_nil]
   rfl
  | true =>
   rw [wkZ_in (by rw [hL]; exact hk) hF]
   have h1 := ih (by omega) (2 * k) (by omega) ((wkZ L F r (2 * k + 1)).2 ++ fr) ((wkZ L F r (2 * k + 1)).1 ++ hr) ids at_
   have hgk : (rowA joinS l (r + 1))[k]! = joinS (rowA joinS l r)[2 * k]! (rowA joinS l r)[min (2 * k + 1) ((rowA joinS l r).length - 1)]! := rowA_get joinS l r k (by rw [rowA_len]; exact hk)
   rw [rowA_len] at hgk
   have hfl : ∀ x : List Bool,(true :: x).drop 1 = x := fun _ => rfl
   by_cases h2 : 2 * k + 1 = lenA l.length r
   · have hsk : wkZ L F r (2 * k + 1) = ([],[]) := wkZ_skip (by rw [R.len (by omega)]; omega)
     rw [hsk] at h1 ⊢
     simp only [List.append_nil,List.nil_append,List.cons_append] at h1 ⊢
     rw [ck_s (by simp) rfl h1 rfl (by rw [hw r (by omega)]; exact h2),hgk,Nat.min_eq_right (by omega),show lenA l.length r - 1 = 2 * k by omega,posL_in,cnt_out (k := 2 * k + 1) (by omega),posL_0,List.append_nil]
   · have h3 := ih (by omega) (2 * k + 1) (by omega) fr hr (ids ++ (posL f (2 * k * 2 ^ r) (cnt l.length r (2 * k))).map (fun i => l[i]!)) (at_ ++ posL f (2 * k * 2 ^ r) (cnt l.length r (2 * k)))
     simp only [List.cons_append,List.append_assoc] at h1 h3 ⊢
     rw [ck_b (by simp) rfl h1 rfl (by rw [hw r (by omega)]; exact h2) h3,hgk,Nat.min_eq_left (by omega),posL_in,List.map_append]
     have hne : ((rowA joinS l r)[2 * k]! != (rowA joinS l r)[2 * k + 1]!) = true := by
      have h5 := rowDbl_at (hdd r (by omega)) (j := k) (by rw [rowA_len]; omega)
      exact h5
     rw [hne]
     rfl
end
end Go.Sx

namespace Go.Sx
section
variable {J : Hs → Hs → Hs} {l : List Hs} {f f' : List Bool} {L : List (List Hs)} {F F' : List (List Bool)}
theorem Rws.bounds (R : Rws J l f L F) : ∀ r,r < nRows l.length → ∀ k,k < lenA l.length r → (wkZ L F r k).1.length ≤ cnt l.length r k ∧ (wkZ L F r k).1.length ≤ (wkZ L F r k).2.length ∧ 1 ≤ (wkZ L F r k).1.length := by
 intro r
 induction r with
 | zero =>
  intro hr k hk
  have := cnt_pos hk
  rw [wkZ_leaf0 (by rw [R.len hr]; exact hk)]
  exact ⟨by simpa using this,Nat.le_refl _,Nat.le_refl _⟩
 | succ r ih =>
  intro hr k hk
  have hk2 : k < (lenA l.length r + 1) / 2 := hk
  cases hF : F[r + 1]![k]! with
  | false =>
   have := cnt_pos hk
   rw [wkZ_leaf (by rw [R.len hr]; exact hk) hF]
   exact ⟨by simpa using this,Nat.le_refl _,Nat.le_refl _⟩
  | true =>
   rw [wkZ_in (by rw [R.len hr]; exact hk) hF,cnt_in]
   obtain ⟨a1,a2,a3⟩ := ih (by omega) (2 * k) (by omega)
   simp only [List.length_append,List.length_cons]
   by_cases h2 : 2 * k + 1 = lenA l.length r
   · rw [wkZ_skip (r := r) (k := 2 * k + 1) (by rw [R.len (by omega)]; omega)]
     simp only [List.length_nil]; omega
   · obtain ⟨b1,b2,b3⟩ := ih (by omega) (2 * k + 1) (by omega)
     omega
def realB (n a j : Nat) : Bool := decide (a / 2 ^ j % 2 = 1) || decide (a / 2 ^ j + 1 < lenA n j)
def sizeI (n a : Nat) : Nat → Nat
 | 0 => 1
 | j + 1 => sizeI n a j + (if realB n a j = true then 1 else 0)
theorem Rws.one (R : Rws J l f L F) {a : Nat} (ha : a < l.length) (h : ∀ i : Nat,i < l.length → f[i]! = decide (i = a)) : ∀ r,r < nRows l.length →
 (wkZ L F r (a / 2 ^ r)).1.length = sizeI l.length a r ∧ ∀ j,j < r → realB l.length a j = true → partS (rowA J l j) (a / 2 ^ j) ∈ (wkZ L F r (a / 2 ^ r)).1 := by
 have other : ∀ r,r < nRows l.length → ∀ k,k < lenA l.length r → k ≠ a / 2 ^ r → (wkZ L F r k).1 = [(rowA J l r)[k]!] := by
  intro r hr k hk hne
  cases r with
  | zero => rw [wkZ_leaf0 (by rw [R.len hr]; exact hk),R.row 0 hr]
  | succ r =>
   have hF : F[r + 1]![k]! = false := by
    rw [R.fl _ _ hr hk]
    refine calS_f fun i hi hh => ?_
    rw [h i (by rw [← R.hf]; exact hi)] at hh
    have : i = a := of_decide_eq_true hh.2
    subst this
    exact hne hh.1.symm
   rw [wkZ_leaf (by rw [R.len hr]; exact hk) hF,R.row _ hr]
 intro r
 induction r with
 | zero =>
  intro hr
  have hk : a / 2 ^ 0 < lenA l.length 0 := idx_lt ha 0
  refine ⟨?_,fun j hj => by omega⟩
  rw [wkZ_leaf0 (by rw [R.len hr]; exact hk)]; rfl
 | succ r ih =>
  intro hr
  obtain ⟨i1,i2⟩ := ih (by omega)
  have hk := idx_lt ha (r + 1)
  have hc := idx_lt ha r
  have hdiv : a / 2 ^ (r + 1) = a / 2 ^ r / 2 := by rw [Nat.pow_succ,← Nat.div_div_eq_div_mul]
  have hF : F[r + 1]![a / 2 ^ (r + 1)]! = true := by
   rw [R.fl _ _ hr hk]
   exact calS_t (by rw [R.hf]; exact ha) rfl (by rw [h a ha]; simp)
  rw [wkZ_in (by rw [R.len hr]; exact hk) hF]
  rw [hdiv]
  generalize hcc : a / 2 ^ r = c at *
  have hmem : ∀ j,j < r + 1 → realB l.length a j = true → j < r ∨ j = r := fun j hj _ => by omega
  simp only [sizeI]
  by_cases he : c % 2 = 0
  · have e1 : 2 * (c / 2) = c := by omega
    rw [e1]
    by_cases h2 : c + 1 < lenA l.length r
    · have hreal : realB l.length a r = true := by unfold realB; rw [hcc,decide_eq_true h2,Bool.or_true]
      have ho := other r (by omega) (c + 1) h2 (by omega)
      rw [ho,hreal,if_pos rfl]
      refine ⟨by simp [i1],fun j hj hrj => ?_⟩
      rcases (by omega : j < r ∨ j = r) with h3 | rfl
      · exact List.mem_append_left _ (i2 j h3 hrj)
      · rw [hcc]
        refine List.mem_append_right _ ?_
        rw [partS,xor1,if_pos he,rowA_len,Nat.min_eq_left (by omega)]; simp
    · have hreal : realB l.length a r = false := by unfold realB; rw [hcc,decide_eq_false h2,decide_eq_false (by omega)]; rfl
      rw [wkZ_skip (r := r) (k := c + 1) (by rw [R.len (by omega)]; omega),hreal]
      refine ⟨by simp [i1],fun j hj hrj => ?_⟩
      rcases (by omega : j < r ∨ j = r) with h3 | rfl
      · exact List.mem_append_left _ (i2 j h3 hrj)
      · rw [hreal] at hrj; cases hrj
  · have e1 : 2 * (c / 2) + 1 = c := by omega
    have e2 : 2 * (c / 2) = c - 1 := by omega
    rw [e1,e2]
    have hreal : realB l.length a r = true := by unfold realB; rw [hcc,decide_eq_true (by omega : c % 2 = 1),Bool.true_or]
    have ho := other r (by omega) (c - 1) (by omega) (by omega)
    rw [ho,hreal,if_pos rfl]
    refine ⟨by simp only [List.length_append,List.length_cons,List.length_nil,i1]; omega,fun j hj hrj => ?_⟩
    rcases (by omega : j < r ∨ j = r) with h3 | rfl
    · exact List.mem_append_right _ (i2 j h3 hrj)
    · rw [hcc]
      refine List.mem_append_left _ ?_
      rw [partS,xor1,if_neg he,rowA_len,Nat.min_eq_left (by omega)]; simp
end
section
variable {l : List Hs} {f : List Bool}
theorem bw_wkZ : bwS l f = wkZ (rowsL joinS l (nRows l.length)) (flsL f (nRows l.length)) (nRows l.length - 1) 0 := by unfold bwS wkZ; rw [rowsL_len]
theorem cnt_all (h0 : 0 < l.length) : cnt l.length (nRows l.length - 1) 0 = l.length := by
 have h1 := idx_lt (n := l.length) (m := l.length - 1) (by omega) (nRows l.length - 1)
 rw [lenA_last h0] at h1
 have h2 : l.length - 1 < 2 ^ (nRows l.length - 1) := by
  rcases Nat.lt_or_ge (l.length - 1) (2 ^ (nRows l.length - 1)) with h | h
  · exact h
  · have := Nat.div_pos h (Nat.two_pow_pos _); omega
 unfold cnt
 simp; omega
theorem bw_bounds (h0 : 0 < l.length) (hf : f.length = l.length) : (bwS l f).1.length ≤ l.length ∧ (bwS l f).1.length ≤ (bwS l f).2.length ∧ 1 ≤ (bwS l f).1.length := by
 have hp := nRows_pos h0
 have := (rws l f hf).bounds (nRows l.length - 1) (by omega) 0 (by rw [lenA_last h0]; omega)
 rw [cnt_all h0,← bw_wkZ] at this
 exact this
theorem bw_fl (h1 : l.length ≤ 256) (h0 : 0 < l.length) : (bwS l f).2.length ≤ 1023 := by
 have h := (wkB_len (rowsL joinS l (nRows l.length)) (flsL f (nRows l.length)) ((rowsL joinS l (nRows l.length)).length - 1) 0 ([],[])).2
 have hn := nRows_9 l.length h1
 have hlen := rowsL_len joinS l (nRows l.length)
 have hp : 2 ^ ((rowsL joinS l (nRows l.length)).length - 1 + 1) ≤ 2 ^ 9 := Nat.pow_le_pow_right (by decide) (by have := nRows_pos h0; omega)
 simp only [List.length_nil] at h
 unfold bwS
 omega
theorem root_last (h0 : 0 < l.length) : (rowA joinS l (nRows l.length - 1))[0]! = rootS joinS l := by
 have hp := nRows_pos h0
 obtain ⟨m,hm⟩ : ∃ m,nRows l.length = m + 1 := ⟨nRows l.length - 1,by omega⟩
 unfold rootS
 rw [hm]
 rfl
theorem shown (h0 : 0 < l.length) (h1 : l.length ≤ 256) (hf : f.length = l.length) (hd : dblS joinS l = false) :
 chkS ((l.length : Nat) : Int) (bwS l f).1 (bwS l f).2 = (rootS joinS l,(posL f 0 l.length).map (fun i => l[i]!),posL f 0 l.length,0) := by
 have hp := nRows_pos h0
 obtain ⟨b1,b2,b3⟩ := bw_bounds h0 hf
 have hw : ∀ r : Nat,r < nRows l.length → (wdS l.length)[r]! = lenA l.length r := fun r hr => wdI_get hr
 have h := shows1 (rws l f hf) hd (wdS l.length) hw (nRows l.length - 1) (by omega) 0 (by rw [lenA_last h0]; omega) [] [] [] []
 simp only [List.append_nil,List.nil_append,Nat.zero_mul] at h
 rw [cnt_all h0,← bw_wkZ,root_last h0] at h
 have hck : ckR l.length (bwS l f).1 (bwS l f).2 = ((rootS joinS l,true),[],[],(posL f 0 l.length).map (fun i => l[i]!),posL f 0 l.length) := by
  unfold ckR
  rw [show (wdS l.length).length - 1 = nRows l.length - 1 by unfold wdS; rw [wdI_len]]
  exact h
 rw [chk_c (by omega) (by omega),if_neg (by omega),hck,if_pos ⟨rfl,rfl,rfl⟩]
theorem built (h0 : 0 < l.length) (h1 : l.length ≤ 256) (hf : f.length = l.length) : bldS l f = (⟨(l.length : Nat),(bwS l f).1,(bwS l f).2⟩,0) := bld_4 (by omega) (by omega) (by omega)
theorem bw_all (hl : allH l) : allH (bwS l f).1 := by
 have key : ∀ (L : List (List Hs)) (F : List (List Bool)),(∀ r k : Nat,k < L[r]!.length → (L[r]![k]!).length = 32) → ∀ (r k : Nat) (p : HF),allH p.1 → allH (wkB L F r k p).1 := by
  intro L F hL r
  have sn : ∀ (p : List Hs) (x : Hs),allH p → x.length = 32 → allH (p ++ [x]) := fun p x hp hx y hy => by
   rcases List.mem_append.1 hy with h | h
   · exact hp y h
   · rw [List.mem_singleton.1 h]; exact hx
  induction r with
  | zero =>
   intro k p hp
   simp only [wkB]
   split
   · exact hp
   · exact sn _ _ hp (hL 0 k (by omega))
  | succ r ih =>
   intro k p hp
   simp only [wkB]
   split
   · exact hp
   · split
     · exact ih _ _ (ih _ _ hp)
     · exact sn _ _ hp (hL (r + 1) k (by omega))
 refine key _ _ (fun r k hk => ?_) _ _ _ (fun x hx => by cases hx)
 by_cases hr : r < nRows l.length
 · rw [rowsL_get hr] at hk ⊢
   exact (rowA_all joinS_len hl r).get hk
 · rw [rows_out _ _ _ hr] at hk; simp at hk
end
end Go.Sx

namespace Go.Sx
open Go.Proofs
section
variable {l : List Hs} {f : List Bool}
def wantL (l : List Hs) (f : List Bool) : List Hs := (posL f 0 l.length).map (fun i => l[i]!)
theorem bld_call (hl : allH l) (h0 : 0 < l.length) (h1 : l.length ≤ 256) (hf : f.length = l.length) :
 Fn Tryd.prog gl 9 [.sl none 32 (l.map hashD),.sl none 1 (f.map D.bool)] (.tup [.agg [.int ((l.length : Nat) : Int),.sl none 32 ((bwS l f).1.map hashD),.sl none 1 ((bwS l f).2.map D.bool)],.int ((0 : Nat) : Int)]) := by
 have h := build_ok l f hl (by omega) (by omega)
 rw [built h0 h1 hf] at h
 exact h
theorem chk_call (hl : allH l) (h0 : 0 < l.length) (h1 : l.length ≤ 256) (hf : f.length = l.length) (hd : dblS joinS l = false) :
 Fn Tryd.prog gl 12 [.agg [.int ((l.length : Nat) : Int),.sl none 32 ((bwS l f).1.map hashD),.sl none 1 ((bwS l f).2.map D.bool)]] (.tup [hashD (rootS joinS l),.sl none 32 ((wantL l f).map hashD),.sl none 1 ((posL f 0 l.length).map natD),.int ((0 : Nat) : Int)]) := by
 have hb := bw_bounds h0 hf
 have hg := bw_fl (f := f) h1 h0
 have h := check_ok ((l.length : Nat) : Int) (bwS l f).1 (bwS l f).2 (bw_all hl) (by omega) (by omega)
 rw [shown h0 h1 hf hd] at h
 exact h
theorem put_call {m : Nat} {hs : List Hs} {fl : List Bool} (hh : allH hs) (h0 : 1 ≤ m) (h1 : m ≤ 256) (h2 : hs.length ≤ 512) (h3 : fl.length ≤ 1024) :
 Fn Tryd.prog gl 14 [.agg [.int ((m : Nat) : Int),.sl none 32 (hs.map hashD),.sl none 1 (fl.map D.bool)]] (.tup [.sl (some 5) 1 ((putB m hs fl).map D.u8),.int ((0 : Nat) : Int)]) := by
 have h := pput_ok ((m : Nat) : Int) hs fl hh
 rw [put_ok (by omega)] at h
 exact h
theorem frs_put (b : List UInt8) (e : Int) : FrsR (.tup [.sl (some 5) 1 (b.map D.u8),.int e]) := FrsR.two (.sl _ _ _ (frs_map fun _ => .u8 _)) (.int _)
theorem brw_put (o : Option Nat) (b : List UInt8) (e : Int) : (D.tup [.sl o 1 (b.map D.u8),.int e]).brwR = .tup [.sl none 1 (b.map D.u8),.int e] := by
 show D.tup [_,_] = _
 simp only [D.brw,brws_eq]
 rw [brw_map (fun _ => rfl)]
end
def fwk : List Bool := [false,true,false]
def wkh : List Hs := (bwS abc fwk).1
def wkf : List Bool := (bwS abc fwk).2
def wkb : List UInt8 := putB 3 wkh wkf
theorem wk_rows (J : Hs → Hs → Hs) : wkB [rowA J abc 0,rowA J abc 1,rowA J abc 2] [flA fwk 0,flA fwk 1,flA fwk 2] 2 0 ([],[]) = ([hv 1,hv 2,J (hv 3) (hv 3)],[true,true,false,true,false]) := by
 rw [abc_r1,abc_r2,show rowA J abc 0 = [hv 1,hv 2,hv 3] from rfl,show flA fwk 0 = [false,true,false] from rfl,show flA fwk 1 = [true,false] from rfl,show flA fwk 2 = [true] from rfl]
 simp [wkB]
theorem wk_bw : bwS abc fwk = ([hv 1,hv 2,joinS (hv 3) (hv 3)],[true,true,false,true,false]) := by
 unfold bwS
 rw [rowsL_len,show nRows abc.length = 3 from nRows_3]
 exact wk_rows joinS
theorem wkh_len : wkh.length = 3 := by unfold wkh; rw [wk_bw]; rfl
theorem wkf_len : wkf.length = 5 := by unfold wkf; rw [wk_bw]; rfl
theorem wkh_all : allH wkh := bw_all abc_all
theorem wkb_len : wkb.length = 103 := by unfold wkb; rw [put_len wkh_all,wkh_len,wkf_len]
theorem wk_bld : Fn Tryd.prog gl 9 [.sl none 32 (abc.map hashD),.sl none 1 (fwk.map D.bool)] (.tup [.agg [.int ((3 : Nat) : Int),.sl none 32 (wkh.map hashD),.sl none 1 (wkf.map D.bool)],.int ((0 : Nat) : Int)]) := bld_call (l := abc) (f := fwk) abc_all (by decide) (by decide) rfl
theorem wk_chk : Fn Tryd.prog gl 12 [.agg [.int ((3 : Nat) : Int),.sl none 32 (wkh.map hashD),.sl none 1 (wkf.map D.bool)]] (.tup [hashD (rootS joinS abc),.sl none 32 ([hv 2].map hashD),.sl none 1 ([1].map natD),.int ((0 : Nat) : Int)]) :=
 chk_call (l := abc) (f := fwk) abc_all (by decide) (by decide) rfl wk_d1
theorem wk_put : Fn Tryd.prog gl 14 [.agg [.int ((3 : Nat) : Int),.sl none 32 (wkh.map hashD),.sl none 1 (wkf.map D.bool)]] (.tup [.sl (some 5) 1 (wkb.map D.u8),.int ((0 : Nat) : Int)]) := put_call wkh_all (by decide) (by decide) (by rw [wkh_len]; decide) (by rw [wkf_len]; decide)
theorem wk_bld0 : Fn Tryd.prog gl 9 [.nils,.nils] (.tup [partD zeroP,.int ((1 : Nat) : Int)]) := by
 have h := build_ok [] [] (fun x hx => by cases hx) (by decide) (by decide)
 rw [bld_1 rfl] at h
 exact Fn.wkA (.cons (.nils none 32) (.cons (.nils none 1) .nil)) h
theorem wk_get0 : Fn Tryd.prog gl 18 [.nils] (.tup [partD zeroP,.int ((5 : Nat) : Int)]) := by
 have h := pget_ok [] (by decide)
 rw [get_no (fun h => by have := h.1; simp at this)] at h
 exact Fn.wkA (.cons (.nils none 1) .nil) h
end Go.Sx

namespace Go.Sx
open Go.Proofs
set_option maxHeartbeats 1000000 in
theorem works_ok : Fn Tryd.prog gl 8 [] (.bool true) := by
 refine Fn.of (n := 101) Tryd.func8 rfl rfl rfl (nU rfl) fun C hC hD => ?_
 refine W.seq ?_
 refine W.l0 1 [.y 0 _] [] [] [] [] 101 ⟨aU fun _ _ H _ => R.asg (kB false rfl) rfl H,trivial⟩ rfl rfl rfl rfl (tU rfl ?_)
 refine W.seq ?_
 refine W.l0 5 [.y 14 _,.y 15 _,.y 16 _,.y 17 _,.y 1 _] [(4,17)] [(4,17)] [(1,_)] [] 101 ⟨aU fun _ _ H _ => R.bldAP (z := 1) (l2 := ((hv 1).map D.u8)) (.cons (show ev _ _ (.const (.int .u8 1)) = some (.u8 1) from rfl) (.nil rfl)) ⟨⟨_,(show ev _ _ (.const (.int .u8 1)) = some (.u8 1) from rfl),rfl,rfl,rfl,rfl⟩,trivial⟩ (rfl) H,aU fun _ _ H _ => R.bldAP (z := 1) (l2 := ((hv 2).map D.u8)) (.cons (show ev _ _ (.const (.int .u8 2)) = some (.u8 2) from rfl) (.nil rfl)) ⟨⟨_,(show ev _ _ (.const (.int .u8 2)) = some (.u8 2) from rfl),rfl,rfl,rfl,rfl⟩,trivial⟩ (rfl) H,aU fun _ _ H _ => R.bldAP (z := 1) (l2 := ((hv 3).map D.u8)) (.cons (show ev _ _ (.const (.int .u8 3)) = some (.u8 3) from rfl) (.nil rfl)) ⟨⟨_,(show ev _ _ (.const (.int .u8 3)) = some (.u8 3) from rfl),rfl,rfl,rfl,rfl⟩,trivial⟩ (rfl) H,aU fun _ _ H K => R.bslE (z := 32) (.cons (eU K 14 rfl) (.cons (eU K 15 rfl) (.cons (eU K 16 rfl) .nil))) ⟨⟨rfl,rfl,rfl⟩,⟨rfl,rfl,rfl⟩,⟨rfl,rfl,rfl⟩,trivial⟩ rfl H (by decide),aU fun _ _ H K => R.asgO (K 17 _ rfl) rfl H (by decide),trivial⟩ rfl rfl rfl rfl (tU rfl ?_)
 refine W.seq ?_
 refine W.frzS (s := 1) (d' := .sl none 32 (abc.map hashD)) rfl rfl (brw_hs _ _ abc) ?_
 refine W.l0 9 [.y 19 _,.y 20 _,.y 21 _,.y 18 _,.y 22 _,.y 23 _] [] [] [(1,_),(22,_),(23,_)] [] 101 ⟨mU 1 rfl rfl,aU fun _ _ H _ => R.frzT (r' := .sl none 1 (fwk.map D.bool)) (R.bslE (z := 1) (.cons (kB false rfl) (.cons (kB true rfl) (.cons (kB false rfl) .nil))) ⟨⟨rfl,rfl,rfl⟩,⟨rfl,rfl,rfl⟩,⟨rfl,rfl,rfl⟩,trivial⟩ rfl H (by decide)) rfl (brw_fl _ _ fwk),aU fun _ _ H K => R.callPE hC (wk_bld) (EvP.cons (eU K 19 rfl) rfl rfl (EvP.cons (eU K 20 rfl) rfl rfl EvP.nil)) H,aU fun _ _ H K => R.movT (K 21 _ rfl) rfl H,aU fun _ _ H K => R.ext (K 18 _ rfl) rfl rfl H,aU fun _ _ H K => R.ext (K 18 _ rfl) rfl rfl H,trivial⟩ rfl rfl rfl rfl (⟨rfl,_,R.alloc rfl (nU rfl),⟨rfl,_,R.stZ (gU 2 rfl) (xU 2 rfl) rfl (gV 22 rfl) (by rfl) (by rfl) (by rfl) (by rfl) rfl,⟨rfl,_,R.asg (gV 23 rfl) rfl (nU rfl),tV [(1,_),(2,_),(3,_)] [(2,.var _)] 101 rfl rfl rfl ?_⟩⟩⟩)
 refine W.seq ?_
 refine W.l0 12 [.y 25 _,.y 26 _,.y 24 _,.y 27 _,.y 28 _,.y 29 _,.y 30 _] [] [] [(1,_),(2,_),(3,_),(27,_),(28,_),(29,_),(30,_)] [(2,.var _)] 101 ⟨aU (lU 2 rfl rfl rfl rfl rfl rfl rfl),aU fun _ _ H K => R.callPE hC (wk_chk) (EvP.cons (eU K 25 rfl) rfl rfl EvP.nil) H,aU fun _ _ H K => R.movT (K 26 _ rfl) rfl H,aU fun _ _ H K => R.ext (K 24 _ rfl) rfl rfl H,aU fun _ _ H K => R.ext (K 24 _ rfl) rfl rfl H,aU fun _ _ H K => R.ext (K 24 _ rfl) rfl rfl H,aU fun _ _ H K => R.ext (K 24 _ rfl) rfl rfl H,trivial⟩ rfl rfl rfl rfl (⟨rfl,_,R.alloc rfl (nU rfl),⟨rfl,_,R.stZ (gU 4 rfl) (xU 4 rfl) rfl (gV 27 rfl) (by rfl) (by rfl) (by rfl) (by rfl) rfl,⟨rfl,_,R.asg (gV 28 rfl) rfl (nU rfl),⟨rfl,_,R.asg (gV 29 rfl) rfl (nU rfl),⟨rfl,_,R.asg (gV 30 rfl) rfl (nU rfl),tV [(1,_),(2,_),(3,_),(4,_),(5,_),(6,_),(7,_)] [(4,.var _),(2,.var _)] 101 rfl rfl rfl ?_⟩⟩⟩⟩⟩)
 refine W.seq ?_
 refine W.l0 7 [.y 32 _,.y 31 _,.y 33 _,.y 34 _] [] [] [(1,_),(2,_),(3,_),(4,_),(5,_),(6,_),(7,_),(33,_),(34,_)] [(4,.var _),(2,.var _)] 101 ⟨aU fun _ _ H _ => R.callPE hC (wk_bld0) (EvP.cons (kN rfl) rfl rfl (EvP.cons (kN rfl) rfl rfl EvP.nil)) H,aU fun _ _ H K => R.movT (K 32 _ rfl) rfl H,aU fun _ _ H K => R.ext (K 31 _ rfl) rfl rfl H,aU fun _ _ H K => R.ext (K 31 _ rfl) rfl rfl H,trivial⟩ rfl rfl rfl rfl (⟨rfl,_,R.alloc rfl (nU rfl),⟨rfl,_,R.stZ (gU 8 rfl) (xU 8 rfl) rfl (gV 33 rfl) (by rfl) (by rfl) (by rfl) (by rfl) rfl,⟨rfl,_,R.asg (gV 34 rfl) rfl (nU rfl),tV [(1,_),(2,_),(3,_),(4,_),(5,_),(6,_),(7,_),(9,_)] [(8,.var _),(4,.var _),(2,.var _)] 101 rfl rfl rfl ?_⟩⟩⟩)
 refine W.seq ?_
 refine W.l0 7 [.y 36 _,.y 37 _,.y 35 _,.y 38 _,.y 39 _,.y 10 _,.y 11 _] [] [] [(1,_),(2,_),(3,_),(4,_),(5,_),(6,_),(7,_),(9,_),(10,_),(11,_)] [(8,.var _),(4,.var _),(2,.var _)] 101 ⟨aU (lU 2 rfl rfl rfl rfl rfl rfl rfl),aU fun _ _ H K => R.callZ (r' := .tup [.sl none 1 (wkb.map D.u8),.int ((0 : Nat) : Int)]) (wk_put) hC (Bors.cons (Bor.pur (eU K 36 rfl) rfl rfl) Bors.nil) (frs_put _ _) (brw_put _ _ _) H,aU fun _ _ H K => R.movT (K 37 _ rfl) rfl H,aU fun _ _ H K => R.ext (K 35 _ rfl) rfl rfl H,aU fun _ _ H K => R.ext (K 35 _ rfl) rfl rfl H,aU fun _ _ H K => R.asg (eU K 38 rfl) rfl H,aU fun _ _ H K => R.asg (eU K 39 rfl) rfl H,trivial⟩ rfl rfl rfl rfl (tU rfl ?_)
 refine W.seq ?_
 refine W.l0 7 [.y 41 _,.y 40 _,.y 42 _,.y 43 _] [] [] [(1,_),(2,_),(3,_),(4,_),(5,_),(6,_),(7,_),(9,_),(10,_),(11,_),(42,_),(43,_)] [(8,.var _),(4,.var _),(2,.var _)] 101 ⟨aU fun _ _ H _ => R.callPE hC (wk_get0) (EvP.cons (kN rfl) rfl rfl EvP.nil) H,aU fun _ _ H K => R.movT (K 41 _ rfl) rfl H,aU fun _ _ H K => R.ext (K 40 _ rfl) rfl rfl H,aU fun _ _ H K => R.ext (K 40 _ rfl) rfl rfl H,trivial⟩ rfl rfl rfl rfl (⟨rfl,_,R.alloc rfl (nU rfl),⟨rfl,_,R.stZ (gU 12 rfl) (xU 12 rfl) rfl (gV 42 rfl) (by rfl) (by rfl) (by rfl) (by rfl) rfl,⟨rfl,_,R.asg (gV 43 rfl) rfl (nU rfl),tV [(1,_),(2,_),(3,_),(4,_),(5,_),(6,_),(7,_),(9,_),(10,_),(11,_),(13,_)] [(12,.var _),(8,.var _),(4,.var _),(2,.var _)] 101 rfl rfl rfl ?_⟩⟩⟩)
 refine W.seq ?_
 refine W.draw (m := 58) (an := (0 :: 1 :: 3 :: 7 :: 15 :: 31 :: 63 :: 127 :: 255 :: 511 :: 1023 :: 2047 :: 4095 :: 8191 :: 16383 :: 32767 :: 65535 :: 131071 :: 262143 :: 524287 :: 1048575 :: 2097151 :: 4194303 :: 8388607 :: 16777215 :: 16777215 :: 50331647 :: 134217727 :: 268435455 :: 536870911 :: 1073741823 :: 1073741823 :: 3221225471 :: 8589934591 :: 17179869183 :: 34359738367 :: 68719476735 :: 68719476735 :: 274877906943 :: 549755813887 :: 1099511627775 :: 2199023255551 :: 4398046511103 :: 8796093022207 :: 17592186044415 :: 35184372088831 :: 70368744177663 :: 140737488355327 :: 281474976710655 :: 562949953421311 :: 1125899906842623 :: 2251799813685247 :: 4503599627370495 :: 9007199254740991 :: 18014398509481983 :: 36028797018963967 :: 72057594037927935 :: 144115188075855871 :: [])) hP (by decide) rfl (its := (.y 44 _ :: .y 45 _ :: .y 46 _ :: .y 47 _ :: .y 48 _ :: .y 49 _ :: .y 50 _ :: .y 51 _ :: .y 52 _ :: .y 53 _ :: .y 54 _ :: .y 55 _ :: .y 56 _ :: .y 57 _ :: .y 58 _ :: .y 59 _ :: .y 60 _ :: .y 61 _ :: .y 62 _ :: .y 63 _ :: .y 64 _ :: .y 65 _ :: .y 66 _ :: .y 67 _ :: .y 68 _ :: .y 69 _ :: .y 70 _ :: .y 71 _ :: .y 72 _ :: .y 73 _ :: .y 74 _ :: .y 75 _ :: .y 76 _ :: .y 77 _ :: .y 78 _ :: .y 79 _ :: .y 80 _ :: .y 81 _ :: .y 82 _ :: .y 83 _ :: .y 84 _ :: .y 85 _ :: .y 86 _ :: .y 87 _ :: .y 88 _ :: .y 89 _ :: .y 90 _ :: .y 91 _ :: .y 92 _ :: .y 93 _ :: .y 94 _ :: .y 95 _ :: .y 96 _ :: .y 97 _ :: .y 98 _ :: .y 99 _ :: .y 100 _ :: .y 0 _ :: [])) (ks := []) (kk := []) (live := [0]) (env' := [(0,_)]) (⟨nU rfl,rfl,⟨mU 3 rfl rfl,aU fun _ _ H K => R.eqlN (0) (0) (eU K 44 rfl) (kI 0 rfl) H,mU 45 rfl rfl,aW rfl rfl (gT (decide_eq_true rfl) rfl) (fU 2 rfl rfl),aW rfl rfl (gT (decide_eq_true rfl) rfl) (lU 47 rfl rfl rfl rfl rfl rfl rfl),aW rfl rfl (gT (decide_eq_true rfl) rfl) fun _ _ H K => R.eqlN (3) (3) (eU K 48 rfl) (kI 3 rfl) H,aU fun _ _ H K => R.pickT (eU K 46 rfl) (decide_eq_true rfl) (eU K 49 rfl) rfl H,mU 50 rfl rfl,aW rfl rfl (gT (decide_eq_true rfl) rfl) (fU 2 rfl rfl),aW rfl rfl (gT (decide_eq_true rfl) rfl) (lU 52 rfl rfl rfl rfl rfl rfl rfl),aW rfl rfl (gT (decide_eq_true rfl) rfl) fun _ _ H K => R.lenE (SC.sl (K 53 _ rfl)) (List.length_map _) H,aW rfl rfl (gT (decide_eq_true rfl) rfl) fun _ _ H K => R.eqlN (wkh.length) (3) (eU K 54 rfl) (kI 3 rfl) H,aU fun _ _ H K => R.pickT (eU K 51 rfl) (decide_eq_true rfl) (eU K 55 rfl) rfl H,mU 56 rfl rfl,aW rfl rfl (gT (decide_eq_true wkh_len) rfl) (fU 2 rfl rfl),aW rfl rfl (gT (decide_eq_true wkh_len) rfl) (lU 58 rfl rfl rfl rfl rfl rfl rfl),aW rfl rfl (gT (decide_eq_true wkh_len) rfl) fun _ _ H K => R.lenE (SC.sl (K 59 _ rfl)) (List.length_map _) H,aW rfl rfl (gT (decide_eq_true wkh_len) rfl) fun _ _ H K => R.eqlN (wkf.length) (5) (eU K 60 rfl) (kI 5 rfl) H,aU fun _ _ H K => R.pickT (eU K 57 rfl) (decide_eq_true wkh_len) (eU K 61 rfl) rfl H,mU 62 rfl rfl,aW rfl rfl (gT (decide_eq_true wkf_len) rfl) fun _ _ H K => R.mov (eU K 7 rfl) rfl H,aW rfl rfl (gT (decide_eq_true wkf_len) rfl) fun _ _ H K => R.eqlN (0) (0) (eU K 64 rfl) (kI 0 rfl) H,aU fun _ _ H K => R.pickT (eU K 63 rfl) (decide_eq_true wkf_len) (eU K 65 rfl) rfl H,mU 66 rfl rfl,aW rfl rfl (gT (decide_eq_true rfl) rfl) (lU 4 rfl rfl rfl rfl rfl rfl rfl),aW rfl rfl (gT (decide_eq_true rfl) rfl) fun _ _ H K => R.mov (eU K 1 rfl) rfl H,aW rfl rfl (gT (decide_eq_true rfl) rfl) fun _ _ H K => R.callG hC (root_ok abc abc_all (by decide)) (Bors.cons (Bor.pur (eU K 69 rfl) rfl rfl) Bors.nil) (FrsR.one (frs_hash _)) H,aW rfl rfl (gT (decide_eq_true rfl) rfl) fun _ _ H K => R.eqAE (eU K 68 rfl) (eU K 70 rfl) H,aU fun _ _ H K => R.pickT (eU K 67 rfl) (decide_eq_true rfl) (eU K 71 rfl) rfl H,mU 72 rfl rfl,aW rfl rfl (gT (beq_self_eq_true _) rfl) fun _ _ H K => R.mov (eU K 5 rfl) rfl H,aW rfl rfl (gT (beq_self_eq_true _) rfl) fun _ _ H K => R.mov (eU K 1 rfl) rfl H,aW rfl rfl (gT (beq_self_eq_true _) rfl) fun _ _ H K => R.slIN (1) (2) (1) (eU K 75 rfl) (evoI (kI 1 rfl)) (evoI (kI 2 rfl)) rfl rfl (by decide) (by decide) bU (rfl) H,aW rfl rfl (gT (beq_self_eq_true _) rfl) fun _ _ H K => R.callG hC (same10_ok [hv 2] [hv 2] (by decide)) (Bors.cons (Bor.pur (eU K 74 rfl) rfl rfl) (Bors.cons (Bor.pur (eU K 76 rfl) rfl rfl) Bors.nil)) (FrsR.one (.bool _)) H,aU fun _ _ H K => R.pickT (eU K 73 rfl) (beq_self_eq_true _) (eU K 77 rfl) rfl H,mU 78 rfl rfl,aW rfl rfl (gT (beq_self_eq_true _) rfl) fun _ _ H K => R.mov (eU K 6 rfl) rfl H,aW rfl rfl (gT (beq_self_eq_true _) rfl) fun _ _ H _ => R.frzT (r' := .sl none 1 ([1].map natD)) (R.bslE (z := 1) (.cons (kI 1 rfl) .nil) ⟨⟨rfl,rfl,rfl⟩,trivial⟩ rfl H (by decide)) rfl (brw_nt _ _ [1]),aW rfl rfl (gT (beq_self_eq_true _) rfl) fun _ _ H K => R.callG hC (nums_ok [1] [1] (by decide)) (Bors.cons (Bor.pur (eU K 80 rfl) rfl rfl) (Bors.cons (Bor.pur (eU K 81 rfl) rfl rfl) Bors.nil)) (FrsR.one (.bool _)) H,aU fun _ _ H K => R.pickT (eU K 79 rfl) (beq_self_eq_true _) (eU K 82 rfl) rfl H,mU 83 rfl rfl,aW rfl rfl (gT (beq_self_eq_true _) rfl) fun _ _ H K => R.mov (eU K 9 rfl) rfl H,aW rfl rfl (gT (beq_self_eq_true _) rfl) fun _ _ H K => R.eqlN (1) (1) (eU K 85 rfl) (kI 1 rfl) H,aU fun _ _ H K => R.pickT (eU K 84 rfl) (beq_self_eq_true _) (eU K 86 rfl) rfl H,mU 87 rfl rfl,aW rfl rfl (gT (decide_eq_true rfl) rfl) fun _ _ H K => R.mov (eU K 11 rfl) rfl H,aW rfl rfl (gT (decide_eq_true rfl) rfl) fun _ _ H K => R.eqlN (0) (0) (eU K 89 rfl) (kI 0 rfl) H,aU fun _ _ H K => R.pickT (eU K 88 rfl) (decide_eq_true rfl) (eU K 90 rfl) rfl H,mU 91 rfl rfl,aW rfl rfl (gT (decide_eq_true rfl) rfl) fun _ _ H K => R.mov (eU K 10 rfl) rfl H,aW rfl rfl (gT (decide_eq_true rfl) rfl) fun _ _ H K => R.lenE (SC.sl (K 93 _ rfl)) (List.length_map _) H,aW rfl rfl (gT (decide_eq_true rfl) rfl) fun _ _ H K => R.eqlN (wkb.length) (103) (eU K 94 rfl) (kI 103 rfl) H,aU fun _ _ H K => R.pickT (eU K 92 rfl) (decide_eq_true rfl) (eU K 95 rfl) rfl H,mU 96 rfl rfl,aW rfl rfl (gT (decide_eq_true wkb_len) rfl) fun _ _ H K => R.mov (eU K 13 rfl) rfl H,aW rfl rfl (gT (decide_eq_true wkb_len) rfl) fun _ _ H K => R.eqlN (5) (5) (eU K 98 rfl) (kI 5 rfl) H,aU fun _ _ H K => R.pickT (eU K 97 rfl) (decide_eq_true wkb_len) (eU K 99 rfl) rfl H,aU fun _ _ H K => R.asg (eU K 100 rfl) rfl H,trivial⟩,rfl,rfl,rfl⟩) rfl (bx' := [(12,.var _),(8,.var _),(4,.var _),(2,.var _)]) rfl (n' := 101) rfl (tV [(0,_)] [(12,.var _),(8,.var _),(4,.var _),(2,.var _)] 101 rfl rfl rfl ?_)
 refine W.ret ?_
 exact Ends.one' (.inr rfl) rfl (rfl) rfl rfl trivial

end Go.Sx

namespace Go.Sx
open Go.Proofs
section
variable {l : List UInt16} {is : List Bool} {n : Nat} {c : UInt8}
end
end Go.Sx

namespace Go.Sx
open Go.Proofs
def gB (i : Nat) : Hs := [UInt8.ofInt ((i : Nat) : Int),5] ++ List.replicate 30 0
def idsB (k : Nat) : List Hs := (List.range k).map gB
theorem idsB_len (k : Nat) : (idsB k).length = k := by simp [idsB]
theorem idsB_succ (k : Nat) : idsB (k + 1) = idsB k ++ [gB k] := by simp [idsB,List.range_succ]
theorem idsB_all (k : Nat) : allH (idsB k) := by
 intro h hh
 obtain ⟨i,_,rfl⟩ := List.mem_map.1 hh
 rfl
def flB (m a : Nat) : List Bool := (List.replicate m false).set a true
theorem flB_len (m a : Nat) : (flB m a).length = m := by simp [flB]
theorem flB_get {m a i : Nat} (ha : a < m) (h : i < m) : (flB m a)[i]! = decide (i = a) := by
 rw [getElem!_pos _ i (by rw [flB_len]; exact h)]
 simp only [flB,List.getElem_set,List.getElem_replicate]
 by_cases h2 : i = a
 · rw [if_pos h2.symm,decide_eq_true h2]
 · rw [if_neg (fun e => h2 e.symm),decide_eq_false h2]
def hB (m a : Nat) : List Hs := (bwS (idsB m) (flB m a)).1
def fB (m a : Nat) : List Bool := (bwS (idsB m) (flB m a)).2
def brB (m a : Nat) : List Hs := brS joinS (idsB m) a
theorem bB_bld {m a : Nat} (h0 : 0 < m) (h1 : m ≤ 256) : Fn Tryd.prog gl 9 [.sl none 32 ((idsB m).map hashD),.sl none 1 ((flB m a).map D.bool)] (.tup [.agg [.int ((m : Nat) : Int),.sl none 32 ((hB m a).map hashD),.sl none 1 ((fB m a).map D.bool)],.int ((0 : Nat) : Int)]) := by
 have h := bld_call (l := idsB m) (f := flB m a) (idsB_all m) (by rw [idsB_len]; exact h0) (by rw [idsB_len]; exact h1) (by rw [idsB_len,flB_len])
 rw [idsB_len] at h
 exact h
theorem bB_br {m a : Nat} (h : a < m) (h1 : m ≤ 256) : Fn Tryd.prog gl 23 [.sl none 32 ((idsB m).map hashD),.int ((a : Nat) : Int)] (.tup [.sl (some 38) 32 ((brB m a).map hashD),.int 0]) := branch_ok (idsB m) (idsB_all m) a (by rw [idsB_len]; exact h) (by rw [idsB_len]; omega)
theorem brB_eq {m a : Nat} (h : 0 < m) : brB m a = (List.range (nRows m - 1)).map fun j => partS (rowA joinS (idsB m) j) (a / 2 ^ j) := by
 have hp := nRows_pos h
 exact brS_eq joinS (idsB m) a (nRows m - 1) (by rw [idsB_len]; omega)
theorem brB_len {m a : Nat} (h : 0 < m) : (brB m a).length = nRows m - 1 := by rw [brB_eq h]; simp
theorem bB_one {m a : Nat} (h : a < m) : (hB m a).length = sizeI m a (brB m a).length ∧ ∀ j,j < (brB m a).length → realB m a j = true → (brB m a)[j]! ∈ hB m a := by
 have hp := nRows_pos (show 0 < m by omega)
 have hl := idsB_len m
 obtain ⟨h1,h2⟩ := (rws (idsB m) (flB m a) (by rw [idsB_len,flB_len])).one (a := a) (by rw [idsB_len]; exact h) (fun i hi => flB_get h (by rw [idsB_len] at hi; exact hi)) (nRows (idsB m).length - 1) (by rw [idsB_len]; omega)
 have hz : a / 2 ^ (nRows (idsB m).length - 1) = 0 := by
  have := idx_lt (n := m) h (nRows m - 1)
  rw [lenA_last (by omega)] at this
  rw [idsB_len]; exact Nat.lt_one_iff.1 this
 rw [hz,← bw_wkZ,hl] at h1 h2
 rw [brB_len (by omega)]
 refine ⟨h1,fun j hj hr => ?_⟩
 have := h2 j hj hr
 rw [getElem!_pos _ j (by rw [brB_len (by omega)]; exact hj)]
 simp only [brB_eq (show 0 < m by omega),List.getElem_map,List.getElem_range]
 exact this
def anyI (hs : List Hs) (x : Hs) : Nat → Bool
 | 0 => false
 | q + 1 => anyI hs x q || hs[q]! == x
theorem anyI_at {hs : List Hs} {x : Hs} {j : Nat} (h : hs[j]! = x) : ∀ q,j < q → anyI hs x q = true := by
 intro q
 induction q with
 | zero => intro h; omega
 | succ q ih =>
  intro hq
  rw [anyI]
  rcases (by omega : j < q ∨ j = q) with h1 | rfl
  · rw [ih h1,Bool.true_or]
  · rw [h,beq_self_eq_true,Bool.or_true]
theorem anyI_mem {hs : List Hs} {x : Hs} (h : x ∈ hs) : anyI hs x hs.length = true := by
 obtain ⟨j,hj,e⟩ := List.mem_iff_getElem.1 h
 exact anyI_at (j := j) (by rw [getElem!_pos hs j hj]; exact e) _ hj
theorem anyI_1 {hs : List Hs} {x : Hs} {q : Nat} (h : anyI hs x q = true) : D.bool true = .bool (anyI hs x (q + 1)) := by rw [anyI,h,Bool.true_or]
theorem anyI_2 {hs : List Hs} {x : Hs} {q : Nat} (h : anyI hs x q = false) : D.bool (hs[q]! == x) = .bool (anyI hs x (q + 1)) := by rw [anyI,h,Bool.false_or]
theorem size_t {n a j : Nat} (h : realB n a j = true) : sizeI n a (j + 1) = sizeI n a j + 1 := by rw [sizeI,if_pos h]
theorem size_f {n a j : Nat} (h : realB n a j = false) : sizeI n a (j + 1) = sizeI n a j := by rw [sizeI,if_neg (by simp [h])]; rfl
theorem size_le (n a j : Nat) : sizeI n a j ≤ j + 1 := by
 induction j with
 | zero => exact Nat.le_refl _
 | succ j ih => rw [sizeI]; split <;> omega
theorem div_next (a j : Nat) : a / 2 ^ j / 2 = a / 2 ^ (j + 1) := by rw [Nat.pow_succ,← Nat.div_div_eq_div_mul]
theorem real_1 {n a j : Nat} (h : a / 2 ^ j % 2 = 1) : realB n a j = true := by unfold realB; rw [decide_eq_true h,Bool.true_or]
theorem real_2 {n a j : Nat} (h : a / 2 ^ j + 1 < lenA n j) : realB n a j = true := by unfold realB; rw [decide_eq_true h,Bool.or_true]
theorem real_3 {n a j : Nat} (h : ¬ a / 2 ^ j % 2 = 1) (h2 : ¬ a / 2 ^ j + 1 < lenA n j) : realB n a j = false := by unfold realB; rw [decide_eq_false h,decide_eq_false h2]; rfl
theorem brw_br (l : List Hs) : (D.tup [.sl (some 38) 32 (l.map hashD),.int 0]).brwR = .tup [.sl none 32 (l.map hashD),.int 0] := by
 show D.tup [_,_] = _; rw [brw_hs]; rfl
end Go.Sx
