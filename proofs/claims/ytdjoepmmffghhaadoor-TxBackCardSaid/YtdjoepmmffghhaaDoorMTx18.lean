/- Proved: what functions of the given program compute (used by the theorem of this claim). Conditions: none but those that each theorem states. -/
import Derived.Test.YtdjoepmmffghhaaDoorMSxBldO
import Derived.Test.YtdjoepmmffghhaaDoorMTx10
import Derived.Recover
set_option linter.unusedVariables false
set_option linter.unusedSimpArgs false
set_option linter.unnecessarySimpa false

namespace Go.Sx
open Go.Proofs
theorem rsame_ok (t u : TxS) (hwf : t.wf) (huf : u.wf) : Fn Tryd.prog gl 25 [txD t,txD u] (.bool (sameS t u)) := by
 refine Fn.of (n := 122) Tryd.func25 rfl rfl rfl (nU rfl) fun C hC hD => ?_
 have h1 := hwf.ins
 have h2 := hwf.outs
 have g1 := huf.ins
 have g2 := huf.outs
 refine W.seq ?_
 refine W.l0 3 [] [] [] [(0,_),(1,_)] [] 122 trivial rfl rfl rfl rfl (⟨rfl,_,R.box (gV 0 rfl) rfl rfl (nU rfl),⟨rfl,_,R.box (gV 1 rfl) rfl rfl (nU rfl),⟨rfl,_,R.asg (kB false rfl) rfl (nU rfl),tV [(2,_),(3,_)] [(3,.var _),(2,.var _)] 122 rfl rfl rfl ?_⟩⟩⟩)
 refine W.seq ?_
 refine W.seq ?_
 by_cases k1 : t.ver ≠ u.ver
 · refine W.l0 30 (.y 9 _ :: .y 10 _ :: .y 11 _ :: .y 12 _ :: .y 13 _ :: .y 14 _ :: .x 15 :: .x 16 :: .x 17 :: .x 18 :: .x 19 :: .y 20 _ :: .y 21 _ :: .x 22 :: .x 23 :: .x 24 :: .x 25 :: .x 26 :: .x 27 :: .x 28 :: .y 29 _ :: .y 30 _ :: .x 31 :: .x 32 :: .x 33 :: .x 34 :: .x 35 :: .x 36 :: .x 37 :: .y 38 _ :: []) [] [] [(2,_),(3,_),(38,_)] [(3,.var _),(2,.var _)] 122 ⟨aU (fU 2 rfl rfl),aU (lU 9 rfl rfl rfl rfl rfl rfl rfl),aU (fU 3 rfl rfl),aU (lU 11 rfl rfl rfl rfl rfl rfl rfl),aU fun _ _ H K => R.bin (eU K 10 rfl) (eU K 12 rfl) rfl trivial H,mU 13 rfl rfl,aF rfl rfl (gT (by simp [k1]) rfl),aF rfl rfl (gT (by simp [k1]) rfl),aF rfl rfl (gT (by simp [k1]) rfl),aF rfl rfl (gT (by simp [k1]) rfl),aF rfl rfl (gT (by simp [k1]) rfl),aU fun _ _ H K => R.pickT (eU K 14 rfl) (by simp [k1]) (kB true rfl) rfl H,mU 20 rfl rfl,aF rfl rfl (gT (rfl) rfl),aF rfl rfl (gT (rfl) rfl),aF rfl rfl (gT (rfl) rfl),aF rfl rfl (gT (rfl) rfl),aF rfl rfl (gT (rfl) rfl),aF rfl rfl (gT (rfl) rfl),aF rfl rfl (gT (rfl) rfl),aU fun _ _ H K => R.pickT (eU K 21 rfl) (rfl) (kB true rfl) rfl H,mU 29 rfl rfl,aF rfl rfl (gT (rfl) rfl),aF rfl rfl (gT (rfl) rfl),aF rfl rfl (gT (rfl) rfl),aF rfl rfl (gT (rfl) rfl),aF rfl rfl (gT (rfl) rfl),aF rfl rfl (gT (rfl) rfl),aF rfl rfl (gT (rfl) rfl),aU fun _ _ H K => R.pickT (eU K 30 rfl) (rfl) (kB true rfl) rfl H,trivial⟩ rfl rfl rfl rfl (tU rfl ?_)
   refine W.condT rfl (rfl) ?_
   refine W.seq ?_
   refine W.l0 1 [.y 4 _] [] [] [(4,_)] [(3,.var _),(2,.var _)] 122 ⟨aU fun _ _ H _ => R.asg (kB false rfl) rfl H,trivial⟩ rfl rfl rfl rfl (tU rfl ?_)
   refine W.ret ?_
   exact Ends.one' (.inr rfl) rfl (by rw [sm_f1 k1]) rfl rfl trivial
 · by_cases k2 : t.lock ≠ u.lock
   · refine W.l0 30 (.y 9 _ :: .y 10 _ :: .y 11 _ :: .y 12 _ :: .y 13 _ :: .y 14 _ :: .y 15 _ :: .y 16 _ :: .y 17 _ :: .y 18 _ :: .y 19 _ :: .y 20 _ :: .y 21 _ :: .x 22 :: .x 23 :: .x 24 :: .x 25 :: .x 26 :: .x 27 :: .x 28 :: .y 29 _ :: .y 30 _ :: .x 31 :: .x 32 :: .x 33 :: .x 34 :: .x 35 :: .x 36 :: .x 37 :: .y 38 _ :: []) [] [] [(2,_),(3,_),(38,_)] [(3,.var _),(2,.var _)] 122 ⟨aU (fU 2 rfl rfl),aU (lU 9 rfl rfl rfl rfl rfl rfl rfl),aU (fU 3 rfl rfl),aU (lU 11 rfl rfl rfl rfl rfl rfl rfl),aU fun _ _ H K => R.bin (eU K 10 rfl) (eU K 12 rfl) rfl trivial H,mU 13 rfl rfl,aW rfl rfl (gF (by simpa using k1) rfl) (fU 2 rfl rfl),aW rfl rfl (gF (by simpa using k1) rfl) (lU 15 rfl rfl rfl rfl rfl rfl rfl),aW rfl rfl (gF (by simpa using k1) rfl) (fU 3 rfl rfl),aW rfl rfl (gF (by simpa using k1) rfl) (lU 17 rfl rfl rfl rfl rfl rfl rfl),aW rfl rfl (gF (by simpa using k1) rfl) fun _ _ H K => R.bin (eU K 16 rfl) (eU K 18 rfl) rfl trivial H,aU fun _ _ H K => R.pickF (eU K 14 rfl) (by simpa using k1) (eU K 19 rfl) rfl H,mU 20 rfl rfl,aF rfl rfl (gT (by simp [k2]) rfl),aF rfl rfl (gT (by simp [k2]) rfl),aF rfl rfl (gT (by simp [k2]) rfl),aF rfl rfl (gT (by simp [k2]) rfl),aF rfl rfl (gT (by simp [k2]) rfl),aF rfl rfl (gT (by simp [k2]) rfl),aF rfl rfl (gT (by simp [k2]) rfl),aU fun _ _ H K => R.pickT (eU K 21 rfl) (by simp [k2]) (kB true rfl) rfl H,mU 29 rfl rfl,aF rfl rfl (gT (rfl) rfl),aF rfl rfl (gT (rfl) rfl),aF rfl rfl (gT (rfl) rfl),aF rfl rfl (gT (rfl) rfl),aF rfl rfl (gT (rfl) rfl),aF rfl rfl (gT (rfl) rfl),aF rfl rfl (gT (rfl) rfl),aU fun _ _ H K => R.pickT (eU K 30 rfl) (rfl) (kB true rfl) rfl H,trivial⟩ rfl rfl rfl rfl (tU rfl ?_)
     refine W.condT rfl (rfl) ?_
     refine W.seq ?_
     refine W.l0 1 [.y 4 _] [] [] [(4,_)] [(3,.var _),(2,.var _)] 122 ⟨aU fun _ _ H _ => R.asg (kB false rfl) rfl H,trivial⟩ rfl rfl rfl rfl (tU rfl ?_)
     refine W.ret ?_
     exact Ends.one' (.inr rfl) rfl (by rw [sm_f2 k2]) rfl rfl trivial
   · by_cases k3 : t.ins.length ≠ u.ins.length
     · refine W.l0 30 (.y 9 _ :: .y 10 _ :: .y 11 _ :: .y 12 _ :: .y 13 _ :: .y 14 _ :: .y 15 _ :: .y 16 _ :: .y 17 _ :: .y 18 _ :: .y 19 _ :: .y 20 _ :: .y 21 _ :: .y 22 _ :: .y 23 _ :: .y 24 _ :: .y 25 _ :: .y 26 _ :: .y 27 _ :: .y 28 _ :: .y 29 _ :: .y 30 _ :: .x 31 :: .x 32 :: .x 33 :: .x 34 :: .x 35 :: .x 36 :: .x 37 :: .y 38 _ :: []) [] [] [(2,_),(3,_),(38,_)] [(3,.var _),(2,.var _)] 122 ⟨aU (fU 2 rfl rfl),aU (lU 9 rfl rfl rfl rfl rfl rfl rfl),aU (fU 3 rfl rfl),aU (lU 11 rfl rfl rfl rfl rfl rfl rfl),aU fun _ _ H K => R.bin (eU K 10 rfl) (eU K 12 rfl) rfl trivial H,mU 13 rfl rfl,aW rfl rfl (gF (by simpa using k1) rfl) (fU 2 rfl rfl),aW rfl rfl (gF (by simpa using k1) rfl) (lU 15 rfl rfl rfl rfl rfl rfl rfl),aW rfl rfl (gF (by simpa using k1) rfl) (fU 3 rfl rfl),aW rfl rfl (gF (by simpa using k1) rfl) (lU 17 rfl rfl rfl rfl rfl rfl rfl),aW rfl rfl (gF (by simpa using k1) rfl) fun _ _ H K => R.bin (eU K 16 rfl) (eU K 18 rfl) rfl trivial H,aU fun _ _ H K => R.pickF (eU K 14 rfl) (by simpa using k1) (eU K 19 rfl) rfl H,mU 20 rfl rfl,aW rfl rfl (gF (by simpa using k2) rfl) (fU 2 rfl rfl),aW rfl rfl (gF (by simpa using k2) rfl) (lU 22 rfl rfl rfl rfl rfl rfl rfl),aW rfl rfl (gF (by simpa using k2) rfl) fun _ _ H K => R.lenE (SC.sl (K 23 _ rfl)) (List.length_map _) H,aW rfl rfl (gF (by simpa using k2) rfl) (fU 3 rfl rfl),aW rfl rfl (gF (by simpa using k2) rfl) (lU 25 rfl rfl rfl rfl rfl rfl rfl),aW rfl rfl (gF (by simpa using k2) rfl) fun _ _ H K => R.lenE (SC.sl (K 26 _ rfl)) (List.length_map _) H,aW rfl rfl (gF (by simpa using k2) rfl) fun _ _ H K => R.neqN (t.ins.length) (u.ins.length) (eU K 24 rfl) (eU K 27 rfl) H,aU fun _ _ H K => R.pickF (eU K 21 rfl) (by simpa using k2) (eU K 28 rfl) rfl H,mU 29 rfl rfl,aF rfl rfl (gT (by simp [k3]) rfl),aF rfl rfl (gT (by simp [k3]) rfl),aF rfl rfl (gT (by simp [k3]) rfl),aF rfl rfl (gT (by simp [k3]) rfl),aF rfl rfl (gT (by simp [k3]) rfl),aF rfl rfl (gT (by simp [k3]) rfl),aF rfl rfl (gT (by simp [k3]) rfl),aU fun _ _ H K => R.pickT (eU K 30 rfl) (by simp [k3]) (kB true rfl) rfl H,trivial⟩ rfl rfl rfl rfl (tU rfl ?_)
       refine W.condT rfl (rfl) ?_
       refine W.seq ?_
       refine W.l0 1 [.y 4 _] [] [] [(4,_)] [(3,.var _),(2,.var _)] 122 ⟨aU fun _ _ H _ => R.asg (kB false rfl) rfl H,trivial⟩ rfl rfl rfl rfl (tU rfl ?_)
       refine W.ret ?_
       exact Ends.one' (.inr rfl) rfl (by rw [sm_f3 k3]) rfl rfl trivial
     · refine W.l0 30 (.y 9 _ :: .y 10 _ :: .y 11 _ :: .y 12 _ :: .y 13 _ :: .y 14 _ :: .y 15 _ :: .y 16 _ :: .y 17 _ :: .y 18 _ :: .y 19 _ :: .y 20 _ :: .y 21 _ :: .y 22 _ :: .y 23 _ :: .y 24 _ :: .y 25 _ :: .y 26 _ :: .y 27 _ :: .y 28 _ :: .y 29 _ :: .y 30 _ :: .y 31 _ :: .y 32 _ :: .y 33 _ :: .y 34 _ :: .y 35 _ :: .y 36 _ :: .y 37 _ :: .y 38 _ :: []) [] [] [(2,_),(3,_),(38,_)] [(3,.var _),(2,.var _)] 122 ⟨aU (fU 2 rfl rfl),aU (lU 9 rfl rfl rfl rfl rfl rfl rfl),aU (fU 3 rfl rfl),aU (lU 11 rfl rfl rfl rfl rfl rfl rfl),aU fun _ _ H K => R.bin (eU K 10 rfl) (eU K 12 rfl) rfl trivial H,mU 13 rfl rfl,aW rfl rfl (gF (by simpa using k1) rfl) (fU 2 rfl rfl),aW rfl rfl (gF (by simpa using k1) rfl) (lU 15 rfl rfl rfl rfl rfl rfl rfl),aW rfl rfl (gF (by simpa using k1) rfl) (fU 3 rfl rfl),aW rfl rfl (gF (by simpa using k1) rfl) (lU 17 rfl rfl rfl rfl rfl rfl rfl),aW rfl rfl (gF (by simpa using k1) rfl) fun _ _ H K => R.bin (eU K 16 rfl) (eU K 18 rfl) rfl trivial H,aU fun _ _ H K => R.pickF (eU K 14 rfl) (by simpa using k1) (eU K 19 rfl) rfl H,mU 20 rfl rfl,aW rfl rfl (gF (by simpa using k2) rfl) (fU 2 rfl rfl),aW rfl rfl (gF (by simpa using k2) rfl) (lU 22 rfl rfl rfl rfl rfl rfl rfl),aW rfl rfl (gF (by simpa using k2) rfl) fun _ _ H K => R.lenE (SC.sl (K 23 _ rfl)) (List.length_map _) H,aW rfl rfl (gF (by simpa using k2) rfl) (fU 3 rfl rfl),aW rfl rfl (gF (by simpa using k2) rfl) (lU 25 rfl rfl rfl rfl rfl rfl rfl),aW rfl rfl (gF (by simpa using k2) rfl) fun _ _ H K => R.lenE (SC.sl (K 26 _ rfl)) (List.length_map _) H,aW rfl rfl (gF (by simpa using k2) rfl) fun _ _ H K => R.neqN (t.ins.length) (u.ins.length) (eU K 24 rfl) (eU K 27 rfl) H,aU fun _ _ H K => R.pickF (eU K 21 rfl) (by simpa using k2) (eU K 28 rfl) rfl H,mU 29 rfl rfl,aW rfl rfl (gF (by simpa using k3) rfl) (fU 2 rfl rfl),aW rfl rfl (gF (by simpa using k3) rfl) (lU 31 rfl rfl rfl rfl rfl rfl rfl),aW rfl rfl (gF (by simpa using k3) rfl) fun _ _ H K => R.lenE (SC.sl (K 32 _ rfl)) (List.length_map _) H,aW rfl rfl (gF (by simpa using k3) rfl) (fU 3 rfl rfl),aW rfl rfl (gF (by simpa using k3) rfl) (lU 34 rfl rfl rfl rfl rfl rfl rfl),aW rfl rfl (gF (by simpa using k3) rfl) fun _ _ H K => R.lenE (SC.sl (K 35 _ rfl)) (List.length_map _) H,aW rfl rfl (gF (by simpa using k3) rfl) fun _ _ H K => R.neqN (t.outs.length) (u.outs.length) (eU K 33 rfl) (eU K 36 rfl) H,aU fun _ _ H K => R.pickF (eU K 30 rfl) (by simpa using k3) (eU K 37 rfl) rfl H,trivial⟩ rfl rfl rfl rfl (tU rfl ?_)
       refine W.condD rfl (fun hc38 => ?_) (fun hc38 => ?_)
       · refine W.seq ?_
         refine W.l0 1 [.y 4 _] [] [] [(4,_)] [(3,.var _),(2,.var _)] 122 ⟨aU fun _ _ H _ => R.asg (kB false rfl) rfl H,trivial⟩ rfl rfl rfl rfl (tU rfl ?_)
         refine W.ret ?_
         exact Ends.one' (.inr rfl) rfl (by rw [sm_f4 hc38]) rfl rfl trivial
       · refine W.skip ?_
         refine W.seq ?_
         refine W.seq ?_
         refine W.l0 1 [.y 5 _] [] [] [(2,_),(3,_),(5,_)] [(3,.var _),(2,.var _)] 122 ⟨aU fun _ _ H _ => R.asg (kI 0 rfl) rfl H,trivial⟩ rfl rfl rfl rfl (tU rfl ?_)
         refine W.block ?_
         refine W.loop (α := {q__ : Nat // q__ ≤ t.ins.length ∧ ∀ j < q__,eqIn t.ins[j]! u.ins[j]! = true}) (fun q__ => ⟨122,[(2,.ptr 2 0 []),(3,.ptr 3 0 []),(5,.int ((q__.1 : Nat) : Int))],[(3,.var (.agg [.u32 u.ver,.sl none 36 (u.ins.map inD),.sl none 2 (u.outs.map outD),.u32 u.lock])),(2,.var (.agg [.u32 t.ver,.sl none 36 (t.ins.map inD),.sl none 2 (t.outs.map outD),.u32 t.lock]))]⟩) (fun q__ => t.ins.length - q__.1) ⟨(0),⟨Nat.zero_le _,fun j h => absurd h (Nat.not_lt_zero _)⟩⟩ rfl ?_
         rintro ⟨i,⟨hi,hp⟩⟩
         show W _ _ _ _ ⟨122,[(2,.ptr 2 0 []),(3,.ptr 3 0 []),(5,.int ((i : Nat) : Int))],[(3,.var (.agg [.u32 u.ver,.sl none 36 (u.ins.map inD),.sl none 2 (u.outs.map outD),.u32 u.lock])),(2,.var (.agg [.u32 t.ver,.sl none 36 (t.ins.map inD),.sl none 2 (t.outs.map outD),.u32 t.lock]))]⟩
         have hi : i ≤ t.ins.length := hi
         have hp : ∀ j < i,eqIn t.ins[j]! u.ins[j]! = true := hp
         have hl : t.ins.length = u.ins.length := Classical.byContradiction k3
         have hol : t.outs.length = u.outs.length := Classical.byContradiction hc38
         refine W.seq ?_
         refine W.seq ?_
         refine W.l0 5 [.y 39 _,.y 40 _,.y 41 _,.y 42 _,.y 43 _] [] [] [(2,_),(3,_),(5,_),(43,_)] [(3,.var _),(2,.var _)] 122 ⟨mU 5 rfl rfl,aU (fU 2 rfl rfl),aU (lU 40 rfl rfl rfl rfl rfl rfl rfl),aU fun _ _ H K => R.lenE (SC.sl (K 41 _ rfl)) (List.length_map _) H,aU fun _ _ H K => R.lssN (i) (t.ins.length) (eU K 39 rfl) (eU K 42 rfl) H,trivial⟩ rfl rfl rfl rfl (tU rfl ?_)
         refine W.condD rfl (fun hc43 => ?_) (fun hc43 => ?_)
         · refine W.skip ?_
           refine W.seq ?_
           refine W.block ?_
           refine W.seq ?_
           refine W.drawE (m := 13) (an := [0,1,0,7,15,0,32,0,224,480,0,0,3103,8191]) (its := [.y 46 _,.y 47 _,.y 48 _,.y 49 _,.y 50 _,.y 51 _,.y 52 _,.y 53 _,.y 54 _,.y 55 _,.y 6 _,.y 7 _,⟨134,.dead,true⟩]) (ks := [(12,134)]) (kk := []) (efs := [(10,[(6,.var _)]),(11,[(7,.var _)]),(12,[(6,.var _)])]) (live := [2,3,5,6,7,55]) (env' := [(2,_),(3,_),(5,_),(6,_),(7,_),(55,_)]) (nd := 40) (bx1 := [(6,.var _),(7,.var _),(3,.var _),(2,.var _)]) hP (by decide) rfl ⟨⟨141,rfl⟩,nU rfl,rfl,rfl,rfl,rfl⟩ (                ⟨⟨rfl,nU rfl,rfl,fun _ τ hb ht hτ => R.fdP (hτ 2 _ rfl) ht⟩,⟨⟨rfl,nU rfl,rfl,fun _ τ hb ht hτ => R.ldP (hτ 46 _ rfl) (hb 2 _ rfl) rfl rfl rfl rfl ht⟩,⟨⟨rfl,nU rfl,rfl,fun _ τ hb ht hτ => R.mov (evt (hτ 5 _ rfl)) rfl ht⟩,⟨⟨rfl,nU rfl,rfl,fun _ τ hb ht hτ => R.idxN (i) (SC.sl (hτ 47 _ rfl)) (evoI (evt (hτ 48 _ rfl))) rfl bU ht (by decide)⟩,⟨⟨rfl,nU rfl,rfl,fun _ τ hb ht hτ => R.ldE (hτ 49 _ rfl) (SC.sl (hτ 47 _ rfl)) (map_get! (l := t.ins) bU) rfl rfl rfl rfl ht⟩,⟨⟨rfl,nU rfl,rfl,fun _ τ hb ht hτ => R.fdP (hτ 3 _ rfl) ht⟩,⟨⟨rfl,nU rfl,rfl,fun _ τ hb ht hτ => R.ldP (hτ 51 _ rfl) (hb 3 _ rfl) rfl rfl rfl rfl ht⟩,⟨⟨rfl,nU rfl,rfl,fun _ τ hb ht hτ => R.mov (evt (hτ 5 _ rfl)) rfl ht⟩,⟨⟨rfl,nU rfl,rfl,fun _ τ hb ht hτ => R.idxN (i) (SC.sl (hτ 52 _ rfl)) (evoI (evt (hτ 53 _ rfl))) rfl bU ht (by decide)⟩,⟨⟨rfl,nU rfl,rfl,fun _ τ hb ht hτ => R.ldE (hτ 54 _ rfl) (SC.sl (hτ 52 _ rfl)) (map_get! (l := u.ins) bU) rfl rfl rfl rfl ht⟩,⟨⟨rfl,rfl,⟨rfl,nU rfl⟩,(SpE.alloc rfl (nU rfl))⟩,⟨⟨rfl,rfl,⟨rfl,nU rfl⟩,(SpE.alloc rfl (nU rfl))⟩,⟨⟨rfl,rfl,rfl,(SpE.st (p := 6) (id := 6) rfl rfl rfl (fun τ hτ => (evt (hτ 50 _ rfl))) rfl rfl rfl rfl rfl)⟩,trivial⟩⟩⟩⟩⟩⟩⟩⟩⟩⟩⟩⟩⟩) rfl rfl rfl (n' := 122) rfl (⟨rfl,_,R.stZ (gU 7 rfl) (xU 7 rfl) rfl (gV 55 rfl) (by rfl) (by rfl) (by rfl) (by rfl) rfl,⟨[2,3,5,6,7],[(2,_),(3,_),(5,_),(6,_),(7,_)],[(6,.var _),(7,.var _),(3,.var _),(2,.var _)],122,rfl,rfl,rfl, ?_⟩⟩)
           refine W.seq ?_
           by_cases e1 : plc t.ins[i]! ≠ plc u.ins[i]!
           · refine W.l0 29 (.y 56 _ :: .y 57 _ :: .y 58 _ :: .y 59 _ :: .y 60 _ :: .y 61 _ :: .x 62 :: .x 63 :: .x 64 :: .x 65 :: .x 66 :: .x 67 :: .x 68 :: .y 69 _ :: .y 70 _ :: .x 71 :: .x 72 :: .x 73 :: .x 74 :: .x 75 :: .y 76 _ :: .y 77 _ :: .x 78 :: .x 79 :: .x 80 :: .x 81 :: .x 82 :: .x 83 :: .y 84 _ :: []) [] [] [(2,_),(3,_),(5,_),(84,_)] [(6,.var _),(7,.var _),(3,.var _),(2,.var _)] 122 ⟨aU (fU 6 rfl rfl),aU (lU 56 rfl rfl rfl rfl rfl rfl rfl),aU (fU 7 rfl rfl),aU (lU 58 rfl rfl rfl rfl rfl rfl rfl),aU fun _ _ H K => R.eqD (neg := true) (b' := (!(plc t.ins[i]! == plc u.ins[i]!))) (eqv_place (plc t.ins[i]!) (plc u.ins[i]!)) rfl (eU K 57 rfl) (eU K 59 rfl) rfl rfl rfl rfl (rfl) H,mU 60 rfl rfl,aF rfl rfl (gT (nq_t e1) rfl),aF rfl rfl (gT (nq_t e1) rfl),aF rfl rfl (gT (nq_t e1) rfl),aF rfl rfl (gT (nq_t e1) rfl),aF rfl rfl (gT (nq_t e1) rfl),aF rfl rfl (gT (nq_t e1) rfl),aF rfl rfl (gT (nq_t e1) rfl),aU fun _ _ H K => R.pickT (eU K 61 rfl) (nq_t e1) (kB true rfl) rfl H,mU 69 rfl rfl,aF rfl rfl (gT (rfl) rfl),aF rfl rfl (gT (rfl) rfl),aF rfl rfl (gT (rfl) rfl),aF rfl rfl (gT (rfl) rfl),aF rfl rfl (gT (rfl) rfl),aU fun _ _ H K => R.pickT (eU K 70 rfl) (rfl) (kB true rfl) rfl H,mU 76 rfl rfl,aF rfl rfl (gT (rfl) rfl),aF rfl rfl (gT (rfl) rfl),aF rfl rfl (gT (rfl) rfl),aF rfl rfl (gT (rfl) rfl),aF rfl rfl (gT (rfl) rfl),aF rfl rfl (gT (rfl) rfl),aU fun _ _ H K => R.pickT (eU K 77 rfl) (rfl) (kB true rfl) rfl H,trivial⟩ rfl rfl rfl rfl (tU rfl ?_)
             refine W.condT rfl (rfl) ?_
             refine W.seq ?_
             refine W.dropB [2,3] (bx' := [(3,.var _),(2,.var _)]) rfl rfl rfl (pin_sub hD rfl) ?_
             refine W.l0 1 [.y 4 _] [] [] [(4,_)] [(3,.var _),(2,.var _)] 122 ⟨aU fun _ _ H _ => R.asg (kB false rfl) rfl H,trivial⟩ rfl rfl rfl rfl (tU rfl ?_)
             refine W.ret ?_
             exact Ends.one' (.inr rfl) rfl (by rw [sm_fi hl (by omega) (ei_f1 e1)]) rfl rfl trivial
           · by_cases e2 : t.ins[i]!.script ≠ u.ins[i]!.script
             · refine W.l0 29 (.y 56 _ :: .y 57 _ :: .y 58 _ :: .y 59 _ :: .y 60 _ :: .y 61 _ :: .y 62 _ :: .y 63 _ :: .y 64 _ :: .y 65 _ :: .y 66 _ :: .y 67 _ :: .y 68 _ :: .y 69 _ :: .y 70 _ :: .x 71 :: .x 72 :: .x 73 :: .x 74 :: .x 75 :: .y 76 _ :: .y 77 _ :: .x 78 :: .x 79 :: .x 80 :: .x 81 :: .x 82 :: .x 83 :: .y 84 _ :: []) [] [] [(2,_),(3,_),(5,_),(84,_)] [(6,.var _),(7,.var _),(3,.var _),(2,.var _)] 122 ⟨aU (fU 6 rfl rfl),aU (lU 56 rfl rfl rfl rfl rfl rfl rfl),aU (fU 7 rfl rfl),aU (lU 58 rfl rfl rfl rfl rfl rfl rfl),aU fun _ _ H K => R.eqD (neg := true) (b' := (!(plc t.ins[i]! == plc u.ins[i]!))) (eqv_place (plc t.ins[i]!) (plc u.ins[i]!)) rfl (eU K 57 rfl) (eU K 59 rfl) rfl rfl rfl rfl (rfl) H,mU 60 rfl rfl,aW rfl rfl (gF (nq_f e1) rfl) (fU 6 rfl rfl),aW rfl rfl (gF (nq_f e1) rfl) (lU 62 rfl rfl rfl rfl rfl rfl rfl),aW rfl rfl (gF (nq_f e1) rfl) fun _ _ H K => R.cvS (xs := t.ins[i]!.script) (SC.sl (K 63 _ rfl)) H,aW rfl rfl (gF (nq_f e1) rfl) (fU 7 rfl rfl),aW rfl rfl (gF (nq_f e1) rfl) (lU 65 rfl rfl rfl rfl rfl rfl rfl),aW rfl rfl (gF (nq_f e1) rfl) fun _ _ H K => R.cvS (xs := u.ins[i]!.script) (SC.sl (K 66 _ rfl)) H,aW rfl rfl (gF (nq_f e1) rfl) fun _ _ H K => R.bin (eU K 64 rfl) (eU K 67 rfl) rfl trivial H,aU fun _ _ H K => R.pickF (eU K 61 rfl) (nq_f e1) (eU K 68 rfl) rfl H,mU 69 rfl rfl,aF rfl rfl (gT (nq_t e2) rfl),aF rfl rfl (gT (nq_t e2) rfl),aF rfl rfl (gT (nq_t e2) rfl),aF rfl rfl (gT (nq_t e2) rfl),aF rfl rfl (gT (nq_t e2) rfl),aU fun _ _ H K => R.pickT (eU K 70 rfl) (nq_t e2) (kB true rfl) rfl H,mU 76 rfl rfl,aF rfl rfl (gT (rfl) rfl),aF rfl rfl (gT (rfl) rfl),aF rfl rfl (gT (rfl) rfl),aF rfl rfl (gT (rfl) rfl),aF rfl rfl (gT (rfl) rfl),aF rfl rfl (gT (rfl) rfl),aU fun _ _ H K => R.pickT (eU K 77 rfl) (rfl) (kB true rfl) rfl H,trivial⟩ rfl rfl rfl rfl (tU rfl ?_)
               refine W.condT rfl (rfl) ?_
               refine W.seq ?_
               refine W.dropB [2,3] (bx' := [(3,.var _),(2,.var _)]) rfl rfl rfl (pin_sub hD rfl) ?_
               refine W.l0 1 [.y 4 _] [] [] [(4,_)] [(3,.var _),(2,.var _)] 122 ⟨aU fun _ _ H _ => R.asg (kB false rfl) rfl H,trivial⟩ rfl rfl rfl rfl (tU rfl ?_)
               refine W.ret ?_
               exact Ends.one' (.inr rfl) rfl (by rw [sm_fi hl (by omega) (ei_f2 e2)]) rfl rfl trivial
             · by_cases e3 : t.ins[i]!.seq ≠ u.ins[i]!.seq
               · refine W.l0 29 (.y 56 _ :: .y 57 _ :: .y 58 _ :: .y 59 _ :: .y 60 _ :: .y 61 _ :: .y 62 _ :: .y 63 _ :: .y 64 _ :: .y 65 _ :: .y 66 _ :: .y 67 _ :: .y 68 _ :: .y 69 _ :: .y 70 _ :: .y 71 _ :: .y 72 _ :: .y 73 _ :: .y 74 _ :: .y 75 _ :: .y 76 _ :: .y 77 _ :: .x 78 :: .x 79 :: .x 80 :: .x 81 :: .x 82 :: .x 83 :: .y 84 _ :: []) [] [] [(2,_),(3,_),(5,_),(84,_)] [(6,.var _),(7,.var _),(3,.var _),(2,.var _)] 122 ⟨aU (fU 6 rfl rfl),aU (lU 56 rfl rfl rfl rfl rfl rfl rfl),aU (fU 7 rfl rfl),aU (lU 58 rfl rfl rfl rfl rfl rfl rfl),aU fun _ _ H K => R.eqD (neg := true) (b' := (!(plc t.ins[i]! == plc u.ins[i]!))) (eqv_place (plc t.ins[i]!) (plc u.ins[i]!)) rfl (eU K 57 rfl) (eU K 59 rfl) rfl rfl rfl rfl (rfl) H,mU 60 rfl rfl,aW rfl rfl (gF (nq_f e1) rfl) (fU 6 rfl rfl),aW rfl rfl (gF (nq_f e1) rfl) (lU 62 rfl rfl rfl rfl rfl rfl rfl),aW rfl rfl (gF (nq_f e1) rfl) fun _ _ H K => R.cvS (xs := t.ins[i]!.script) (SC.sl (K 63 _ rfl)) H,aW rfl rfl (gF (nq_f e1) rfl) (fU 7 rfl rfl),aW rfl rfl (gF (nq_f e1) rfl) (lU 65 rfl rfl rfl rfl rfl rfl rfl),aW rfl rfl (gF (nq_f e1) rfl) fun _ _ H K => R.cvS (xs := u.ins[i]!.script) (SC.sl (K 66 _ rfl)) H,aW rfl rfl (gF (nq_f e1) rfl) fun _ _ H K => R.bin (eU K 64 rfl) (eU K 67 rfl) rfl trivial H,aU fun _ _ H K => R.pickF (eU K 61 rfl) (nq_f e1) (eU K 68 rfl) rfl H,mU 69 rfl rfl,aW rfl rfl (gF (nq_f e2) rfl) (fU 6 rfl rfl),aW rfl rfl (gF (nq_f e2) rfl) (lU 71 rfl rfl rfl rfl rfl rfl rfl),aW rfl rfl (gF (nq_f e2) rfl) (fU 7 rfl rfl),aW rfl rfl (gF (nq_f e2) rfl) (lU 73 rfl rfl rfl rfl rfl rfl rfl),aW rfl rfl (gF (nq_f e2) rfl) fun _ _ H K => R.bin (eU K 72 rfl) (eU K 74 rfl) rfl trivial H,aU fun _ _ H K => R.pickF (eU K 70 rfl) (nq_f e2) (eU K 75 rfl) rfl H,mU 76 rfl rfl,aF rfl rfl (gT (nq_t e3) rfl),aF rfl rfl (gT (nq_t e3) rfl),aF rfl rfl (gT (nq_t e3) rfl),aF rfl rfl (gT (nq_t e3) rfl),aF rfl rfl (gT (nq_t e3) rfl),aF rfl rfl (gT (nq_t e3) rfl),aU fun _ _ H K => R.pickT (eU K 77 rfl) (nq_t e3) (kB true rfl) rfl H,trivial⟩ rfl rfl rfl rfl (tU rfl ?_)
                 refine W.condT rfl (rfl) ?_
                 refine W.seq ?_
                 refine W.dropB [2,3] (bx' := [(3,.var _),(2,.var _)]) rfl rfl rfl (pin_sub hD rfl) ?_
                 refine W.l0 1 [.y 4 _] [] [] [(4,_)] [(3,.var _),(2,.var _)] 122 ⟨aU fun _ _ H _ => R.asg (kB false rfl) rfl H,trivial⟩ rfl rfl rfl rfl (tU rfl ?_)
                 refine W.ret ?_
                 exact Ends.one' (.inr rfl) rfl (by rw [sm_fi hl (by omega) (ei_f3 e3)]) rfl rfl trivial
               · refine W.l0 29 (.y 56 _ :: .y 57 _ :: .y 58 _ :: .y 59 _ :: .y 60 _ :: .y 61 _ :: .y 62 _ :: .y 63 _ :: .y 64 _ :: .y 65 _ :: .y 66 _ :: .y 67 _ :: .y 68 _ :: .y 69 _ :: .y 70 _ :: .y 71 _ :: .y 72 _ :: .y 73 _ :: .y 74 _ :: .y 75 _ :: .y 76 _ :: .y 77 _ :: .y 78 _ :: .y 79 _ :: .y 80 _ :: .y 81 _ :: .y 82 _ :: .y 83 _ :: .y 84 _ :: []) [] [] [(2,_),(3,_),(5,_),(84,_)] [(6,.var _),(7,.var _),(3,.var _),(2,.var _)] 122 ⟨aU (fU 6 rfl rfl),aU (lU 56 rfl rfl rfl rfl rfl rfl rfl),aU (fU 7 rfl rfl),aU (lU 58 rfl rfl rfl rfl rfl rfl rfl),aU fun _ _ H K => R.eqD (neg := true) (b' := (!(plc t.ins[i]! == plc u.ins[i]!))) (eqv_place (plc t.ins[i]!) (plc u.ins[i]!)) rfl (eU K 57 rfl) (eU K 59 rfl) rfl rfl rfl rfl (rfl) H,mU 60 rfl rfl,aW rfl rfl (gF (nq_f e1) rfl) (fU 6 rfl rfl),aW rfl rfl (gF (nq_f e1) rfl) (lU 62 rfl rfl rfl rfl rfl rfl rfl),aW rfl rfl (gF (nq_f e1) rfl) fun _ _ H K => R.cvS (xs := t.ins[i]!.script) (SC.sl (K 63 _ rfl)) H,aW rfl rfl (gF (nq_f e1) rfl) (fU 7 rfl rfl),aW rfl rfl (gF (nq_f e1) rfl) (lU 65 rfl rfl rfl rfl rfl rfl rfl),aW rfl rfl (gF (nq_f e1) rfl) fun _ _ H K => R.cvS (xs := u.ins[i]!.script) (SC.sl (K 66 _ rfl)) H,aW rfl rfl (gF (nq_f e1) rfl) fun _ _ H K => R.bin (eU K 64 rfl) (eU K 67 rfl) rfl trivial H,aU fun _ _ H K => R.pickF (eU K 61 rfl) (nq_f e1) (eU K 68 rfl) rfl H,mU 69 rfl rfl,aW rfl rfl (gF (nq_f e2) rfl) (fU 6 rfl rfl),aW rfl rfl (gF (nq_f e2) rfl) (lU 71 rfl rfl rfl rfl rfl rfl rfl),aW rfl rfl (gF (nq_f e2) rfl) (fU 7 rfl rfl),aW rfl rfl (gF (nq_f e2) rfl) (lU 73 rfl rfl rfl rfl rfl rfl rfl),aW rfl rfl (gF (nq_f e2) rfl) fun _ _ H K => R.bin (eU K 72 rfl) (eU K 74 rfl) rfl trivial H,aU fun _ _ H K => R.pickF (eU K 70 rfl) (nq_f e2) (eU K 75 rfl) rfl H,mU 76 rfl rfl,aW rfl rfl (gF (nq_f e3) rfl) (fU 6 rfl rfl),aW rfl rfl (gF (nq_f e3) rfl) (lU 78 rfl rfl rfl rfl rfl rfl rfl),aW rfl rfl (gF (nq_f e3) rfl) (fU 7 rfl rfl),aW rfl rfl (gF (nq_f e3) rfl) (lU 80 rfl rfl rfl rfl rfl rfl rfl),aW rfl rfl (gF (nq_f e3) rfl) fun _ _ H K => R.callG hC (lists_ok t.ins[i]!.wit u.ins[i]!.wit (hwf.witl _ (get_mem (by omega))).1 (huf.witl _ (get_mem (by omega))).1) (Bors.cons (Bor.pur (eU K 79 rfl) rfl rfl) (Bors.cons (Bor.pur (eU K 81 rfl) rfl rfl) Bors.nil)) (FrsR.one (.bool _)) H,aW rfl rfl (gF (nq_f e3) rfl) fun _ _ H K => R.un (eU K 82 rfl) rfl H,aU fun _ _ H K => R.pickF (eU K 77 rfl) (nq_f e3) (eU K 83 rfl) rfl H,trivial⟩ rfl rfl rfl rfl (tU rfl ?_)
                 refine W.cond rfl (fun hc84 => ?_) (fun hc84 => ?_)
                 · refine W.seq ?_
                   refine W.dropB [2,3] (bx' := [(3,.var _),(2,.var _)]) rfl rfl rfl (pin_sub hD rfl) ?_
                   refine W.l0 1 [.y 4 _] [] [] [(4,_)] [(3,.var _),(2,.var _)] 122 ⟨aU fun _ _ H _ => R.asg (kB false rfl) rfl H,trivial⟩ rfl rfl rfl rfl (tU rfl ?_)
                   refine W.ret ?_
                   exact Ends.one' (.inr rfl) rfl (by rw [sm_fi hl (by omega) (ei_f4 hc84)]) rfl rfl trivial
                 · refine W.skip ?_
                   refine W.dropB [2,3] (bx' := [(3,.var _),(2,.var _)]) rfl rfl rfl (pin_sub hD rfl) ?_
                   refine W.l0 3 [.y 44 _,.y 45 _,.y 5 _] [] [] [(2,_),(3,_),(5,_)] [(3,.var _),(2,.var _)] 122 ⟨mU 5 rfl rfl,aU fun _ _ H K => R.addN (i) (1) (eU K 44 rfl) (kI 1 rfl) bU H,aU fun _ _ H K => R.asg (eU K 45 rfl) rfl H,trivial⟩ rfl rfl rfl rfl (tU rfl ?_)
                   exact ⟨⟨(i + 1),⟨by omega,ext_i hp (ei_t e1 e2 e3 hc84)⟩⟩,rfl,(by simp only []; omega)⟩
         · obtain rfl : i = t.ins.length := by omega
           refine W.exit ?_
           refine W.seq ?_
           refine W.seq ?_
           refine W.l0 1 [.y 8 _] [] [] [(2,_),(3,_),(8,_)] [(3,.var _),(2,.var _)] 122 ⟨aU fun _ _ H _ => R.asg (kI 0 rfl) rfl H,trivial⟩ rfl rfl rfl rfl (tU rfl ?_)
           refine W.block ?_
           refine W.loop (α := {q__ : Nat // q__ ≤ t.outs.length ∧ ∀ j < q__,eqOut t.outs[j]! u.outs[j]! = true}) (fun q__ => ⟨122,[(2,.ptr 2 0 []),(3,.ptr 3 0 []),(8,.int ((q__.1 : Nat) : Int))],[(3,.var (.agg [.u32 u.ver,.sl none 36 (u.ins.map inD),.sl none 2 (u.outs.map outD),.u32 u.lock])),(2,.var (.agg [.u32 t.ver,.sl none 36 (t.ins.map inD),.sl none 2 (t.outs.map outD),.u32 t.lock]))]⟩) (fun q__ => t.outs.length - q__.1) ⟨(0),⟨Nat.zero_le _,fun j h => absurd h (Nat.not_lt_zero _)⟩⟩ rfl ?_
           rintro ⟨i,⟨hi2,hp2⟩⟩
           show W _ _ _ _ ⟨122,[(2,.ptr 2 0 []),(3,.ptr 3 0 []),(8,.int ((i : Nat) : Int))],[(3,.var (.agg [.u32 u.ver,.sl none 36 (u.ins.map inD),.sl none 2 (u.outs.map outD),.u32 u.lock])),(2,.var (.agg [.u32 t.ver,.sl none 36 (t.ins.map inD),.sl none 2 (t.outs.map outD),.u32 t.lock]))]⟩
           have hi2 : i ≤ t.outs.length := hi2
           have hp2 : ∀ j < i,eqOut t.outs[j]! u.outs[j]! = true := hp2
           refine W.seq ?_
           refine W.seq ?_
           refine W.l0 5 [.y 85 _,.y 86 _,.y 87 _,.y 88 _,.y 89 _] [] [] [(2,_),(3,_),(8,_),(89,_)] [(3,.var _),(2,.var _)] 122 ⟨mU 8 rfl rfl,aU (fU 2 rfl rfl),aU (lU 86 rfl rfl rfl rfl rfl rfl rfl),aU fun _ _ H K => R.lenE (SC.sl (K 87 _ rfl)) (List.length_map _) H,aU fun _ _ H K => R.lssN (i) (t.outs.length) (eU K 85 rfl) (eU K 88 rfl) H,trivial⟩ rfl rfl rfl rfl (tU rfl ?_)
           refine W.condD rfl (fun hc89 => ?_) (fun hc89 => ?_)
           · refine W.skip ?_
             refine W.seq ?_
             refine W.block ?_
             refine W.seq ?_
             by_cases o1 : t.outs[i]!.value ≠ u.outs[i]!.value
             · refine W.draw (m := 30) (an := (0 :: 1 :: 0 :: 7 :: 15 :: 31 :: 0 :: 64 :: 0 :: 448 :: 960 :: 1984 :: 4095 :: 8191 :: 16383 :: 32767 :: 16383 :: 131071 :: 262143 :: 524287 :: 1048575 :: 16383 :: 2113535 :: 16383 :: 14696447 :: 31473663 :: 65028095 :: 132136959 :: 268435455 :: 536870911 :: [])) hP (by decide) rfl (its := (.y 92 _ :: .y 93 _ :: .y 94 _ :: .y 95 _ :: .y 96 _ :: .y 97 _ :: .y 98 _ :: .y 99 _ :: .y 100 _ :: .y 101 _ :: .y 102 _ :: .y 103 _ :: .y 104 _ :: .y 105 _ :: .x 106 :: .x 107 :: .x 108 :: .x 109 :: .x 110 :: .x 111 :: .x 112 :: .x 113 :: .x 114 :: .x 115 :: .x 116 :: .x 117 :: .x 118 :: .x 119 :: .x 120 :: .y 121 _ :: [])) (ks := []) (kk := []) (live := [2,3,8,121]) (env' := [(2,_),(3,_),(8,_),(121,_)]) (⟨nU rfl,rfl,⟨aU (fU 2 rfl rfl),aU (lU 92 rfl rfl rfl rfl rfl rfl rfl),mU 8 rfl rfl,aU fun _ _ H K => R.idxN (i) (SC.sl (K 93 _ rfl)) (evoI (eU K 94 rfl)) rfl bU H (by decide),aU fun _ _ H K => R.fdE (K 95 _ rfl) H (by decide),aU fun _ _ H K => R.ldE (K 96 _ rfl) (SC.sl (K 93 _ rfl)) (map_get! (l := t.outs) bU) rfl rfl rfl rfl H,aU (fU 3 rfl rfl),aU (lU 98 rfl rfl rfl rfl rfl rfl rfl),mU 8 rfl rfl,aU fun _ _ H K => R.idxN (i) (SC.sl (K 99 _ rfl)) (evoI (eU K 100 rfl)) rfl bU H (by decide),aU fun _ _ H K => R.fdE (K 101 _ rfl) H (by decide),aU fun _ _ H K => R.ldE (K 102 _ rfl) (SC.sl (K 99 _ rfl)) (map_get! (l := u.outs) bU) rfl rfl rfl rfl H,aU fun _ _ H K => R.bin (eU K 97 rfl) (eU K 103 rfl) rfl trivial H,mU 104 rfl rfl,aF rfl rfl (gT (nq_t o1) rfl),aF rfl rfl (gT (nq_t o1) rfl),aF rfl rfl (gT (nq_t o1) rfl),aF rfl rfl (gT (nq_t o1) rfl),aF rfl rfl (gT (nq_t o1) rfl),aF rfl rfl (gT (nq_t o1) rfl),aF rfl rfl (gT (nq_t o1) rfl),aF rfl rfl (gT (nq_t o1) rfl),aF rfl rfl (gT (nq_t o1) rfl),aF rfl rfl (gT (nq_t o1) rfl),aF rfl rfl (gT (nq_t o1) rfl),aF rfl rfl (gT (nq_t o1) rfl),aF rfl rfl (gT (nq_t o1) rfl),aF rfl rfl (gT (nq_t o1) rfl),aF rfl rfl (gT (nq_t o1) rfl),aU fun _ _ H K => R.pickT (eU K 105 rfl) (nq_t o1) (kB true rfl) rfl H,trivial⟩,rfl,rfl,rfl⟩) rfl (bx' := [(3,.var _),(2,.var _)]) rfl (n' := 122) rfl (tV [(2,_),(3,_),(8,_),(121,_)] [(3,.var _),(2,.var _)] 122 rfl rfl rfl ?_)
               refine W.condT rfl (rfl) ?_
               refine W.seq ?_
               refine W.l0 1 [.y 4 _] [] [] [(4,_)] [(3,.var _),(2,.var _)] 122 ⟨aU fun _ _ H _ => R.asg (kB false rfl) rfl H,trivial⟩ rfl rfl rfl rfl (tU rfl ?_)
               refine W.ret ?_
               exact Ends.one' (.inr rfl) rfl (by rw [sm_fo hol (by omega) (eo_f1 o1)]) rfl rfl trivial
             · refine W.draw (m := 30) (an := (0 :: 1 :: 0 :: 7 :: 15 :: 31 :: 0 :: 64 :: 0 :: 448 :: 960 :: 1984 :: 4095 :: 8191 :: 16383 :: 32767 :: 16383 :: 131071 :: 262143 :: 524287 :: 1048575 :: 16383 :: 2113535 :: 16383 :: 14696447 :: 31473663 :: 65028095 :: 132136959 :: 268435455 :: 536870911 :: [])) hP (by decide) rfl (its := (.y 92 _ :: .y 93 _ :: .y 94 _ :: .y 95 _ :: .y 96 _ :: .y 97 _ :: .y 98 _ :: .y 99 _ :: .y 100 _ :: .y 101 _ :: .y 102 _ :: .y 103 _ :: .y 104 _ :: .y 105 _ :: .y 106 _ :: .y 107 _ :: .y 108 _ :: .y 109 _ :: .y 110 _ :: .y 111 _ :: .y 112 _ :: .y 113 _ :: .y 114 _ :: .y 115 _ :: .y 116 _ :: .y 117 _ :: .y 118 _ :: .y 119 _ :: .y 120 _ :: .y 121 _ :: [])) (ks := []) (kk := []) (live := [2,3,8,121]) (env' := [(2,_),(3,_),(8,_),(121,_)]) (⟨nU rfl,rfl,⟨aU (fU 2 rfl rfl),aU (lU 92 rfl rfl rfl rfl rfl rfl rfl),mU 8 rfl rfl,aU fun _ _ H K => R.idxN (i) (SC.sl (K 93 _ rfl)) (evoI (eU K 94 rfl)) rfl bU H (by decide),aU fun _ _ H K => R.fdE (K 95 _ rfl) H (by decide),aU fun _ _ H K => R.ldE (K 96 _ rfl) (SC.sl (K 93 _ rfl)) (map_get! (l := t.outs) bU) rfl rfl rfl rfl H,aU (fU 3 rfl rfl),aU (lU 98 rfl rfl rfl rfl rfl rfl rfl),mU 8 rfl rfl,aU fun _ _ H K => R.idxN (i) (SC.sl (K 99 _ rfl)) (evoI (eU K 100 rfl)) rfl bU H (by decide),aU fun _ _ H K => R.fdE (K 101 _ rfl) H (by decide),aU fun _ _ H K => R.ldE (K 102 _ rfl) (SC.sl (K 99 _ rfl)) (map_get! (l := u.outs) bU) rfl rfl rfl rfl H,aU fun _ _ H K => R.bin (eU K 97 rfl) (eU K 103 rfl) rfl trivial H,mU 104 rfl rfl,aW rfl rfl (gF (nq_f o1) rfl) (fU 2 rfl rfl),aW rfl rfl (gF (nq_f o1) rfl) (lU 106 rfl rfl rfl rfl rfl rfl rfl),aW rfl rfl (gF (nq_f o1) rfl) fun _ _ H K => R.mov (eU K 8 rfl) rfl H,aW rfl rfl (gF (nq_f o1) rfl) fun _ _ H K => R.idxN (i) (SC.sl (K 107 _ rfl)) (evoI (eU K 108 rfl)) rfl bU H (by decide),aW rfl rfl (gF (nq_f o1) rfl) fun _ _ H K => R.fdE (K 109 _ rfl) H (by decide),aW rfl rfl (gF (nq_f o1) rfl) fun _ _ H K => R.ldE (K 110 _ rfl) (SC.sl (K 107 _ rfl)) (map_get! (l := t.outs) bU) rfl rfl rfl rfl H,aW rfl rfl (gF (nq_f o1) rfl) fun _ _ H K => R.cvS (xs := t.outs[i]!.script) (SC.sl (K 111 _ rfl)) H,aW rfl rfl (gF (nq_f o1) rfl) (fU 3 rfl rfl),aW rfl rfl (gF (nq_f o1) rfl) (lU 113 rfl rfl rfl rfl rfl rfl rfl),aW rfl rfl (gF (nq_f o1) rfl) fun _ _ H K => R.mov (eU K 8 rfl) rfl H,aW rfl rfl (gF (nq_f o1) rfl) fun _ _ H K => R.idxN (i) (SC.sl (K 114 _ rfl)) (evoI (eU K 115 rfl)) rfl bU H (by decide),aW rfl rfl (gF (nq_f o1) rfl) fun _ _ H K => R.fdE (K 116 _ rfl) H (by decide),aW rfl rfl (gF (nq_f o1) rfl) fun _ _ H K => R.ldE (K 117 _ rfl) (SC.sl (K 114 _ rfl)) (map_get! (l := u.outs) bU) rfl rfl rfl rfl H,aW rfl rfl (gF (nq_f o1) rfl) fun _ _ H K => R.cvS (xs := u.outs[i]!.script) (SC.sl (K 118 _ rfl)) H,aW rfl rfl (gF (nq_f o1) rfl) fun _ _ H K => R.bin (eU K 112 rfl) (eU K 119 rfl) rfl trivial H,aU fun _ _ H K => R.pickF (eU K 105 rfl) (nq_f o1) (eU K 120 rfl) rfl H,trivial⟩,rfl,rfl,rfl⟩) rfl (bx' := [(3,.var _),(2,.var _)]) rfl (n' := 122) rfl (tV [(2,_),(3,_),(8,_),(121,_)] [(3,.var _),(2,.var _)] 122 rfl rfl rfl ?_)
               refine W.cond rfl (fun hc121 => ?_) (fun hc121 => ?_)
               · refine W.seq ?_
                 refine W.l0 1 [.y 4 _] [] [] [(4,_)] [(3,.var _),(2,.var _)] 122 ⟨aU fun _ _ H _ => R.asg (kB false rfl) rfl H,trivial⟩ rfl rfl rfl rfl (tU rfl ?_)
                 refine W.ret ?_
                 exact Ends.one' (.inr rfl) rfl (by rw [sm_fo hol (by omega) (eo_f2 hc121)]) rfl rfl trivial
               · refine W.skip ?_
                 refine W.l0 3 [.y 90 _,.y 91 _,.y 8 _] [] [] [(2,_),(3,_),(8,_)] [(3,.var _),(2,.var _)] 122 ⟨mU 8 rfl rfl,aU fun _ _ H K => R.addN (i) (1) (eU K 90 rfl) (kI 1 rfl) bU H,aU fun _ _ H K => R.asg (eU K 91 rfl) rfl H,trivial⟩ rfl rfl rfl rfl (tU rfl ?_)
                 exact ⟨⟨(i + 1),⟨by omega,ext_i hp2 (eo_t o1 hc121)⟩⟩,rfl,(by simp only []; omega)⟩
           · obtain rfl : i = t.outs.length := by omega
             refine W.exit ?_
             refine W.seq ?_
             refine W.l0 1 [.y 4 _] [] [] [(4,_)] [(3,.var _),(2,.var _)] 122 ⟨aU fun _ _ H _ => R.asg (kB true rfl) rfl H,trivial⟩ rfl rfl rfl rfl (tU rfl ?_)
             refine W.ret ?_
             exact Ends.one' (.inr rfl) rfl (by rw [sm_t (Classical.byContradiction k1) (Classical.byContradiction k2) hl hol hp hp2]) rfl rfl trivial

end Go.Sx

namespace Go.Sx
open Go.Proofs
theorem plain_ok (t : TxS) (hwf : t.wf) : Fn Tryd.prog gl 27 [txD t] (txD (plainS t)) := by
 refine Fn.of (n := 35) Tryd.func27 rfl rfl rfl (nU rfl) fun C hC hD => ?_
 have h1 := hwf.ins
 have h2 := hwf.outs
 refine W.seq ?_
 refine W.l0 2 [] [] [] [(0,_)] [] 35 trivial rfl rfl rfl rfl (⟨rfl,_,R.box (gV 0 rfl) rfl rfl (nU rfl),⟨rfl,_,R.alloc rfl (nU rfl),tV [(1,_),(2,_)] [(2,.var _),(1,.var _)] 35 rfl rfl rfl ?_⟩⟩)
 refine W.seq ?_
 refine W.drawE (m := 10) (an := [0,1,0,4,0,0,32,112,255,0,1023]) (its := [.y 6 _,.y 7 _,.y 8 _,.y 9 _,.y 10 _,.y 11 _,.y 12 _,.y 13 _,.y 14 _,.y 3 _]) (ks := [(7,10)]) (kk := [(7,10)]) (efs := [(9,[(3,.var _)])]) (live := [1,2,3,14]) (env' := [(1,_),(2,_),(3,_),(14,_)]) (nd := 40) (bx1 := [(3,.var _),(2,.var _),(1,.var _)]) hP (by decide) rfl ⟨⟨51,rfl⟩,nU rfl,rfl,rfl,rfl,rfl⟩ (      ⟨⟨rfl,nU rfl,rfl,fun _ τ hb ht hτ => R.fdP (hτ 1 _ rfl) ht⟩,⟨⟨rfl,nU rfl,rfl,fun _ τ hb ht hτ => R.ldP (hτ 6 _ rfl) (hb 1 _ rfl) rfl rfl rfl rfl ht⟩,⟨⟨rfl,nU rfl,rfl,fun _ τ hb ht hτ => R.fdP (hτ 1 _ rfl) ht⟩,⟨⟨rfl,nU rfl,rfl,fun _ τ hb ht hτ => R.ldP (hτ 8 _ rfl) (hb 1 _ rfl) rfl rfl rfl rfl ht⟩,⟨⟨rfl,nU rfl,rfl,fun _ τ hb ht hτ => R.bslE .nil trivial rfl ht (by decide)⟩,⟨⟨rfl,nU rfl,rfl,fun _ τ hb ht hτ => R.fdP (hτ 1 _ rfl) ht⟩,⟨⟨rfl,nU rfl,rfl,fun _ τ hb ht hτ => R.ldP (hτ 11 _ rfl) (hb 1 _ rfl) rfl rfl rfl rfl ht⟩,⟨⟨rfl,nU rfl,rfl,fun _ τ hb ht hτ => R.frzT (r' := .sl none 2 (t.outs.map outD)) (R.appE (Or.inl rfl) (hτ 10 _ rfl) (SrcO.sc (SC.sl (hτ 12 _ rfl)) (pur_map (fun _ => rfl))) (List.nil_append _) bU ht (by decide) (by decide)) rfl (by simp only [D.brw,brws_eq]; rw [brw_map brw_outD])⟩,⟨⟨rfl,nU rfl,rfl,fun _ τ hb ht hτ => R.bldSE (l := [.u32 0,.nils,.nils,.u32 0]) (l' := [_,_,_,_]) (.cons (evt (hτ 7 _ rfl)) (.cons (evt (hτ 9 _ rfl)) (.cons (evt (hτ 13 _ rfl)) (.nil rfl)))) ⟨⟨_,(evt (hτ 7 _ rfl)),rfl,rfl,rfl⟩,⟨⟨_,(evt (hτ 9 _ rfl)),rfl,rfl,rfl⟩,⟨⟨_,(evt (hτ 13 _ rfl)),rfl,rfl,rfl⟩,trivial⟩⟩⟩ ht⟩,⟨⟨rfl,rfl,⟨rfl,nU rfl⟩,(SpE.alloc rfl (nU rfl))⟩,trivial⟩⟩⟩⟩⟩⟩⟩⟩⟩⟩) rfl rfl rfl (n' := 35) rfl (⟨rfl,_,R.stZ (gU 3 rfl) (xU 3 rfl) rfl (gV 14 rfl) (by rfl) (by rfl) (by rfl) (by rfl) rfl,⟨[1,2,3],[(1,_),(2,_),(3,_)],[(3,.var _),(2,.var _),(1,.var _)],35,rfl,rfl,rfl, ?_⟩⟩)
 refine W.seq ?_
 refine W.seq ?_
 refine W.asOwnP 3 [1] 56 36 (bx' := [(3,.var _),(2,.var _),(1,.var _)]) rfl rfl rfl rfl rfl ?_
 refine W.l0 1 [.y 4 _] [] [] [(1,_),(2,_),(3,_),(4,_)] [(3,.var _),(2,.var _),(1,.var _)] 35 ⟨aU fun _ _ H _ => R.asg (kI 0 rfl) rfl H,trivial⟩ rfl rfl rfl rfl (tU rfl ?_)
 refine W.block ?_
 refine W.loop (α := {q__ : Nat // q__ ≤ t.ins.length}) (fun q__ => ⟨35,[(1,.ptr 1 0 []),(2,.ptr 2 0 []),(3,.ptr 3 0 []),(4,.int ((q__.1 : Nat) : Int))],[(3,.var (.agg [.u32 t.ver,.sl (some 56) 36 ((plI t.ins q__.1).map inD),.sl none 2 (t.outs.map outD),.u32 t.lock])),(2,.var (.agg [.u32 0,.nils,.nils,.u32 0])),(1,.var (.agg [.u32 t.ver,.sl none 36 (t.ins.map inD),.sl none 2 (t.outs.map outD),.u32 t.lock]))]⟩) (fun q__ => t.ins.length - q__.1) ⟨(0),Nat.zero_le _⟩ rfl ?_
 rintro ⟨i,hi⟩
 show W _ _ _ _ ⟨35,[(1,.ptr 1 0 []),(2,.ptr 2 0 []),(3,.ptr 3 0 []),(4,.int ((i : Nat) : Int))],[(3,.var (.agg [.u32 t.ver,.sl (some 56) 36 ((plI t.ins i).map inD),.sl none 2 (t.outs.map outD),.u32 t.lock])),(2,.var (.agg [.u32 0,.nils,.nils,.u32 0])),(1,.var (.agg [.u32 t.ver,.sl none 36 (t.ins.map inD),.sl none 2 (t.outs.map outD),.u32 t.lock]))]⟩
 have hi : i ≤ t.ins.length := hi
 have hpl := plI_len t.ins i
 refine W.seq ?_
 refine W.seq ?_
 refine W.l0 5 [.y 15 _,.y 16 _,.y 17 _,.y 18 _,.y 19 _] [] [] [(1,_),(2,_),(3,_),(4,_),(19,_)] [(3,.var _),(2,.var _),(1,.var _)] 35 ⟨mU 4 rfl rfl,aU (fU 1 rfl rfl),aU (lU 16 rfl rfl rfl rfl rfl rfl rfl),aU fun _ _ H K => R.lenE (SC.sl (K 17 _ rfl)) (List.length_map _) H,aU fun _ _ H K => R.lssN (i) (t.ins.length) (eU K 15 rfl) (eU K 18 rfl) H,trivial⟩ rfl rfl rfl rfl (tU rfl ?_)
 refine W.condD rfl (fun hc19 => ?_) (fun hc19 => ?_)
 · refine W.skip ?_
   refine W.seq ?_
   refine W.block ?_
   refine W.seq ?_
   refine W.l0 7 [.y 22 _,.y 23 _,.y 24 _,.y 25 _,.y 26 _] [] [] [(1,_),(2,_),(3,_),(4,_),(26,_)] [(3,.var _),(2,.var _),(1,.var _)] 35 ⟨aU (fU 1 rfl rfl),aU (lU 22 rfl rfl rfl rfl rfl rfl rfl),mU 4 rfl rfl,aU fun _ _ H K => R.idxN (i) (SC.sl (K 23 _ rfl)) (evoI (eU K 24 rfl)) rfl bU H (by decide),aU fun _ _ H K => R.ldE (K 25 _ rfl) (SC.sl (K 23 _ rfl)) (map_get! (l := t.ins) bU) rfl rfl rfl rfl H,trivial⟩ rfl rfl rfl rfl (⟨rfl,_,R.alloc rfl (nU rfl),⟨rfl,_,R.stZ (gU 5 rfl) (xU 5 rfl) rfl (gV 26 rfl) (by rfl) (by rfl) (by rfl) (by rfl) rfl,tV [(1,_),(2,_),(3,_),(4,_),(5,_)] [(5,.var _),(3,.var _),(2,.var _),(1,.var _)] 35 rfl rfl rfl ?_⟩⟩)
   refine W.seq ?_
   refine W.l0 2 [.y 27 _] [] [] [(1,_),(2,_),(3,_),(4,_),(5,_),(27,_)] [(5,.var _),(3,.var _),(2,.var _),(1,.var _)] 35 ⟨aU (fU 5 rfl rfl),trivial⟩ rfl rfl rfl rfl (⟨rfl,_,R.stZ (gU 27 rfl) (xU 5 rfl) rfl (kN rfl) (by rfl) (by rfl) (by rfl) (by rfl) rfl,tV [(1,_),(2,_),(3,_),(4,_),(5,_)] [(5,.var _),(3,.var _),(2,.var _),(1,.var _)] 35 rfl rfl rfl ?_⟩)
   refine W.asNilP 5 [3] 1 (bx' := [(5,.var _),(3,.var _),(2,.var _),(1,.var _)]) rfl rfl rfl rfl rfl ?_
   refine W.l0 7 [.y 28 _,.y 29 _,.y 30 _,.y 31 _] [] [] [(1,_),(2,_),(3,_),(4,_),(29,_),(31,_)] [(5,.var _),(3,.var _),(2,.var _),(1,.var _)] 35 ⟨aU (fU 3 rfl rfl),aU fun _ B H K => R.ldO (K 28 _ rfl) (B 3 _ rfl) rfl H,aU (lU 5 rfl rfl rfl rfl rfl rfl rfl),aU fun _ _ H K => R.bslE (z := 36) (.cons (eU K 30 rfl) .nil) ⟨⟨rfl,rfl,rfl⟩,trivial⟩ rfl H (by decide),trivial⟩ rfl rfl rfl rfl (⟨rfl,_,R.appBP (gU 29 rfl) (xU 3 rfl) rfl rfl rfl rfl (gU 29 rfl) (SrcO.sc (SC.sl (gU 31 rfl)) (pur_lit rfl)) (show _ = ((plI t.ins (i + 1)).map inD) from (by simp only [plI,List.map_append]; rfl)) bU (nU rfl) (by decide) (by decide),⟨rfl,_,R.fdP (gU 3 rfl) (nU rfl),⟨rfl,_,R.stOZ (gU 33 rfl) (xU 3 rfl) rfl (gU 32 rfl) rfl rfl (by rfl) (by rfl) rfl rfl,tV [(1,_),(2,_),(3,_),(4,_)] [(5,.var _),(3,.var _),(2,.var _),(1,.var _)] 35 rfl rfl rfl ?_⟩⟩⟩)
   refine W.dropB [1,2,3] (bx' := [(3,.var _),(2,.var _),(1,.var _)]) rfl rfl rfl (pin_sub hD rfl) ?_
   refine W.l0 3 [.y 20 _,.y 21 _,.y 4 _] [] [] [(1,_),(2,_),(3,_),(4,_)] [(3,.var _),(2,.var _),(1,.var _)] 35 ⟨mU 4 rfl rfl,aU fun _ _ H K => R.addN (i) (1) (eU K 20 rfl) (kI 1 rfl) bU H,aU fun _ _ H K => R.asg (eU K 21 rfl) rfl H,trivial⟩ rfl rfl rfl rfl (tU rfl ?_)
   exact ⟨⟨(i + 1),by omega⟩,rfl,(by simp only []; omega)⟩
 · obtain rfl : i = t.ins.length := by omega
   refine W.exit ?_
   refine W.seq ?_
   refine W.brwB 3 (d' := .agg [.u32 t.ver,.sl none 36 ((plI t.ins t.ins.length).map inD),.sl none 2 (t.outs.map outD),.u32 t.lock]) (bx' := [(3,.var _),(2,.var _),(1,.var _)]) rfl (by simp only [D.brw,brws_eq,List.map_cons,List.map_nil]; rw [brw_map brw_inD,brw_map brw_outD]) rfl ?_
   refine W.l0 2 [.y 34 _] [] [] [(2,_),(34,_)] [(3,.var _),(2,.var _),(1,.var _)] 35 ⟨aU (lU 3 rfl rfl rfl rfl rfl rfl rfl),trivial⟩ rfl rfl rfl rfl (⟨rfl,_,R.stZ (gU 2 rfl) (xU 2 rfl) rfl (gV 34 rfl) (by rfl) (by rfl) (by rfl) (by rfl) rfl,tV [(2,_)] [(3,.var _),(2,.var _),(1,.var _)] 35 rfl rfl rfl ?_⟩)
   refine W.ret ?_
   exact Ends.one' (.inr rfl) rfl (rfl) rfl rfl (show LdT _ 26 4 true from inferInstance)

end Go.Sx

namespace Go.Sx
open Go.Proofs
def itemsO : Nat → List UInt8 → Option (List (List UInt8) × List UInt8)
 | 0,b => some ([],b)
 | n + 1,b => (itemO b).bind fun p => (itemsO n p.2).bind fun q => some (p.1 :: q.1,q.2)
def witO (b : List UInt8) : Option (List (List UInt8) × List UInt8) := (cntO b).bind fun c => itemsO c.1 c.2
def setW (x : InS) (ws : List (List UInt8)) : InS := { x with wit := ws }
def witsO : List InS → List UInt8 → Option (List InS × List UInt8)
 | [],b => some ([],b)
 | x :: xs,b => (witO b).bind fun p => (witsO xs p.2).bind fun q => some (setW x p.1 :: q.1,q.2)
section
variable {b u u2 r x : List UInt8} {n j : Nat} {ws : List (List UInt8)} {ins l rest : List InS} {y : InS}
theorem it_step (h : itemsO n r = (itemsO (n - j) u).map fun z => (ws ++ z.1,z.2)) (hj : j < n) (h2 : itemO u = some (x,u2)) : itemsO n r = (itemsO (n - (j + 1)) u2).map fun z => ((ws ++ [x]) ++ z.1,z.2) := by
 rw [h,show n - j = (n - (j + 1)) + 1 by omega]
 simp only [itemsO,h2,Option.bind_some]
 cases itemsO (n - (j + 1)) u2 <;> simp
theorem it_none (h : itemsO n r = (itemsO (n - j) u).map fun z => (ws ++ z.1,z.2)) (hj : j < n) (h2 : itemO u = none) : itemsO n r = none := by
 rw [h,show n - j = (n - (j + 1)) + 1 by omega]
 simp [itemsO,h2]
theorem it_end (h : itemsO n r = (itemsO (n - n) u).map fun z => (ws ++ z.1,z.2)) : itemsO n r = some (ws,u) := by
 rw [h,Nat.sub_self]; simp [itemsO]
theorem wo_n1 (h : cntO b = none) : witO b = none := by unfold witO; rw [h]; rfl
theorem wo_n2 (h : cntO b = some (n,r)) (h2 : itemsO n r = none) : witO b = none := by unfold witO; rw [h,Option.bind_some,h2]
theorem wo_s (h : cntO b = some (n,r)) (h2 : itemsO n r = some (ws,u)) : witO b = some (ws,u) := by unfold witO; rw [h,Option.bind_some,h2]
theorem ws_step {b0 : List UInt8} (h : witsO ins b0 = (witsO (y :: rest) b).map fun z => (l ++ z.1,z.2)) (h2 : witO b = some (ws,u)) : witsO ins b0 = (witsO rest u).map fun z => ((l ++ [setW y ws]) ++ z.1,z.2) := by
 rw [h]
 simp only [witsO,h2,Option.bind_some]
 cases witsO rest u <;> simp
theorem ws_none {b0 : List UInt8} (h : witsO ins b0 = (witsO (y :: rest) b).map fun z => (l ++ z.1,z.2)) (h2 : witO b = none) : witsO ins b0 = none := by
 rw [h]; simp [witsO,h2]
theorem ws_end {b0 : List UInt8} (h : witsO ins b0 = (witsO [] b).map fun z => (l ++ z.1,z.2)) : witsO ins b0 = some (l,b) := by
 rw [h]; simp [witsO]
theorem rest_cons (h : l.length + rest.length = n) (hi : l.length < n) : ∃ y r,rest = y :: r := by
 cases rest with
 | nil => simp at h; omega
 | cons y r => exact ⟨y,r,rfl⟩
theorem rest_nil (h : l.length + rest.length = n) (hi : ¬ l.length < n) : rest = [] := by
 cases rest with
 | nil => rfl
 | cons y r => simp at h; omega
end
def inWt (x : InS) (ws : List (List UInt8)) : D := .agg [.agg [hashD x.tx,.u32 x.n],bytesD x.script,.u32 x.seq,.sl (some 29) 1 (ws.map bytesD)]
def wl (l : List InS) (m : List D) (q : Nat) : D := .agg ((l.map inD ++ m) ++ List.replicate q .dead)
theorem inD_sz (x : InS) : (inD x).sz = 36 := by simp [inD,hashD,bytesD,D.sz]
section
variable {l : List InS} {r : List D} {q i : Nat} {a b c x y : D}
theorem wl_at (hi : l.length = i) (m : D) : ((l.map inD ++ m :: r) ++ List.replicate q D.dead)[i]? = some m := by
 subst hi
 rw [List.append_assoc,List.getElem?_append_right (by simp)]
 simp
theorem wl_loc (hi : l.length = i) (ha : a.sz = 33) (hb : b.sz = 1) (hc : c.sz = 1) : (wl l (.agg [a,b,c,x] :: r) q).loc [i,3] = some (i * 36 + 35,x) := by
 unfold wl
 simp only [D.loc,wl_at hi]
 have e1 : offk ((l.map inD ++ D.agg [a,b,c,x] :: r) ++ List.replicate q D.dead) i = i * 36 := by
  rw [List.append_assoc]
  exact offk_uni _ _ (fun d hd => by obtain ⟨z,_,rfl⟩ := List.mem_map.1 hd; exact inD_sz z) i (by simp; omega)
 have e2 : offk [a,b,c,x] 3 = 35 := by simp [offk,ha,hb,hc]
 rw [e1,e2]; rfl
theorem wl_upd (hi : l.length = i) : (wl l (.agg [a,b,c,x] :: r) q).upd [i,3] y = some (wl l (.agg [a,b,c,y] :: r) q) := by
 unfold wl
 simp only [D.upd,wl_at hi]
 subst hi
 simp
theorem wl_noArr (hi : l.length = i) : (wl l (.agg [a,b,c,x] :: r) q).noArr [i,3] = true := by
 unfold wl
 simp only [D.noArr,wl_at hi]
 rfl
theorem brw_inWt (z : InS) (ws : List (List UInt8)) : (inWt z ws).brw = inD (setW z ws) := by
 simp only [inWt,inD,setW,D.brw,brws_eq,List.map_cons,List.map_nil,brw_bytes,brw_hash]
 rw [brw_map (fun b => brw_bytes b)]
theorem brw_deads (q : Nat) : (List.replicate q D.dead).map D.brw = List.replicate q D.dead := by simp [D.brw]
theorem wl_brw (z : InS) (ws : List (List UInt8)) (rs : List InS) : (wl l (inWt z ws :: rs.map inN) q).brw = wl (l ++ [setW z ws]) (rs.map inN) q := by
 unfold wl
 simp only [D.brw,brws_eq,List.map_append,List.map_cons,List.map_nil,brw_inWt,brw_deads]
 rw [brw_map brw_inD,brw_map brw_inN]
 simp
theorem wl_end : (wl l (([] : List InS).map inN) q).brw = .agg (l.map inD ++ List.replicate q .dead) := by
 unfold wl
 simp only [D.brw,brws_eq,List.map_append,List.map_nil,brw_deads,List.append_nil]
 rw [brw_map brw_inD]
end
end Go.Sx

namespace Go.Sx
open Go.Proofs
theorem rwits_ok (b : List UInt8) (hb0 : b.length ≤ 100000) (v k : UInt32) (ins : List InS) (outs : List OutS) (hil : ins.length ≤ 1000000) (hne : ins ≠ []) : FnO Tryd.prog gl 45 [.ptr 0 0 [],.ptr 1 0 []] [(0,.var (.agg [.sl none 1 (b.map D.u8)])),(1,.var (.agg [.u32 v,.sl (some 56) 36 (ins.map inN),.sl (some 46) 2 (outs.map outD),.u32 k]))] (((witsO ins b).map fun q => (.tup [],[(0,.var (.agg [bytesD q.2])),(1,.var (.agg [.u32 v,.sl none 36 (q.1.map inD),.sl none 2 (outs.map outD),.u32 k]))],[]))) := by
 refine FnO.of (n := 38) (ids := [0,1]) Tryd.func45 rfl rfl rfl (nU rfl) fun C hC hD => ?_
 refine W.seq ?_
 refine W.openB 9 1 [1] rfl rfl rfl rfl rfl rfl (fun _ => rfl) (by simpa using hne) rfl (fun _ => rfl) fun cap q _ _ _ => ?_
 refine W.l0 6 [.y 5 _,.y 6 _,.y 7 _,.y 8 _,.y 9 _,.y 10 _] [] [] [(0,_),(1,_),(9,_),(10,_)] [(9,.var _),(0,.var _),(1,.var _)] 38 ⟨mU 1 rfl rfl,aU fun _ _ H K => R.nilcP (K 5 _ rfl) H,aU (fU 6 rfl rfl),aU (lU 7 rfl rfl rfl rfl rfl rfl rfl),aU fun _ _ H K => R.lenBs (K 8 _ rfl) H,aU fun _ _ H _ => R.mov (kI 0 rfl) rfl H,trivial⟩ rfl rfl rfl rfl (tU rfl ?_)
 refine W.block ?_
 refine W.loop (α := {q__ : Nat × List InS × List InS × List UInt8 // q__.2.1.length = q__.1 ∧ q__.2.1.length + q__.2.2.1.length = ins.length ∧ q__.2.2.2.length ≤ b.length ∧ witsO ins b = (witsO q__.2.2.1 q__.2.2.2).map fun z => (q__.2.1 ++ z.1,z.2)}) (fun q__ => ⟨38,[(0,.ptr 0 0 []),(1,.ptr 1 0 []),(9,.int ((ins.length : Nat) : Int)),(10,.int ((q__.1.1 : Nat) : Int))],[(9,.var (wl q__.1.2.1 (q__.1.2.2.1.map inN) q)),(0,.var (.agg [.sl none 1 (q__.1.2.2.2.map D.u8)])),(1,.var (.agg [.u32 v,.bs 9 36 ins.length cap,.sl (some 46) 2 (outs.map outD),.u32 k]))]⟩) (fun q__ => ins.length - q__.1.1) ⟨(0,[],ins,b),⟨rfl,by simp,Nat.le_refl _,by simp⟩⟩ (by simp only [List.length_map]; rfl) ?_
 rintro ⟨⟨i,l,rest,r⟩,⟨hli,hlen,hrb,hO⟩⟩
 show W _ _ _ _ ⟨38,[(0,.ptr 0 0 []),(1,.ptr 1 0 []),(9,.int ((ins.length : Nat) : Int)),(10,.int ((i : Nat) : Int))],[(9,.var (wl l (rest.map inN) q)),(0,.var (.agg [.sl none 1 (r.map D.u8)])),(1,.var (.agg [.u32 v,.bs 9 36 ins.length cap,.sl (some 46) 2 (outs.map outD),.u32 k]))]⟩
 have hli : l.length = i := hli
 have hlen : l.length + rest.length = ins.length := hlen
 have hrb : r.length ≤ b.length := hrb
 have hO : witsO ins b = (witsO rest r).map fun z => (l ++ z.1,z.2) := hO
 refine W.seq ?_
 refine W.l0 1 [.y 11 _] [] [] [(0,_),(1,_),(9,_),(10,_),(11,_)] [(9,.var _),(0,.var _),(1,.var _)] 38 ⟨aU fun _ _ H K => R.lssN (i) (ins.length) (eU K 10 rfl) (eU K 9 rfl) H,trivial⟩ rfl rfl rfl rfl (tU rfl ?_)
 refine W.seq ?_
 refine W.condD rfl (fun hc11 => ?_) (fun hc11 => ?_)
 · refine W.skip ?_
   refine W.seq ?_
   refine W.block ?_
   refine W.seq ?_
   obtain ⟨x,rs,rfl⟩ := rest_cons hlen (by omega)
   show W _ _ _ _ _
   have hlr : l.length + rs.length + 1 = ins.length := by simp at hlen; omega
   refine W.l0 2 [.y 12 _,.y 4 _] [] [] [(0,_),(1,_),(4,_),(9,_),(10,_)] [(9,.var _),(0,.var _),(1,.var _)] 38 ⟨mU 10 rfl rfl,aU fun _ _ H K => R.asg (eU K 12 rfl) rfl H,trivial⟩ rfl rfl rfl rfl (tU rfl ?_)
   refine W.seq ?_
   rcases hE : cntO r with _ | ⟨n,r1⟩
   · refine W.asOwnP 9 [i,3] 29 1 (bx' := [(9,.var _),(0,.var _),(1,.var _)]) rfl (wl_loc hli rfl rfl rfl) (wl_noArr hli) (wl_upd hli) rfl ?_
     refine W.lineX (n := 3) (by decide) (its := [.y 13 _]) (ks := []) (kk := []) (live := [0,1,4,9,10,13]) (env' := [(0,_),(1,_),(4,_),(9,_),(10,_),(13,_)]) (⟨nU rfl,rfl,⟨mU 0 rfl rfl,trivial⟩,rfl,rfl,rfl⟩) rfl (bx' := [(9,.var _),(0,.var _),(1,.var _)]) rfl (n' := 38) rfl (⟨rfl,.inr (R.callX [(0,0)] hC (FnO.none' (rcount_ok r (by omega)) (by rw [hE]; rfl)) (EvB.cons (gV 13 rfl) rfl rfl rfl EvB.nil) rfl ⟨rfl,trivial⟩ ⟨rfl,trivial⟩ rfl (fun e he => ?_))⟩)
     obtain ⟨ch,rfl,hch⟩ := he
     exact EndsO.none' (by rw [ws_none hO (wo_n1 hE)]; rfl) ⟨⟨ch,rfl,hch⟩,⟨⟨_,rfl,by first | rfl | simp [dds_sz,sz_ren,D.sz]⟩,⟨⟨_,rfl,by first | rfl | simp [dds_sz,sz_ren,D.sz]⟩,trivial⟩⟩⟩
   have hr1 := cntO_le hE (by omega)
   refine W.asOwnP 9 [i,3] 29 1 (bx' := [(9,.var _),(0,.var _),(1,.var _)]) rfl (wl_loc hli rfl rfl rfl) (wl_noArr hli) (wl_upd hli) rfl ?_
   refine W.l0 3 [.y 13 _] [] [] [(0,_),(1,_),(4,_),(9,_),(10,_),(13,_)] [(9,.var _),(0,.var _),(1,.var _)] 38 ⟨mU 0 rfl rfl,trivial⟩ rfl rfl rfl rfl (⟨rfl,_,R.callB [(0,0)] hC (FnO.some' (r := .int ((n : Nat) : Int)) (bx' := [(0,.var (.agg [.sl none 1 (r1.map D.u8)]))]) (nw := []) (rcount_ok r (by omega)) (by rw [hE]; rfl)) (EvB.cons (gV 13 rfl) rfl rfl rfl EvB.nil) rfl ⟨rfl,trivial⟩ ⟨rfl,trivial⟩ rfl rfl rfl rfl rfl rfl (nU rfl),⟨rfl,_,R.mov (kI 0 rfl) rfl (nU rfl),tV [(0,_),(1,_),(4,_),(9,_),(10,_),(14,_),(15,_)] [(9,.var _),(0,.var _),(1,.var _)] 38 rfl rfl rfl ?_⟩⟩)
   refine W.block ?_
   refine W.loop (α := {q__ : Nat × List (List UInt8) × List UInt8 // q__.1 ≤ n ∧ q__.2.1.length = q__.1 ∧ q__.2.2.length + q__.1 ≤ r1.length ∧ itemsO n r1 = (itemsO (n - q__.1) q__.2.2).map fun z => (q__.2.1 ++ z.1,z.2)}) (fun q__ => ⟨38,[(0,.ptr 0 0 []),(1,.ptr 1 0 []),(4,.int ((i : Nat) : Int)),(9,.int ((ins.length : Nat) : Int)),(10,.int ((i : Nat) : Int)),(14,.int ((n : Nat) : Int)),(15,.int ((q__.1.1 : Nat) : Int))],[(9,.var (wl l (inWt x q__.1.2.1 :: rs.map inN) q)),(0,.var (.agg [.sl none 1 (q__.1.2.2.map D.u8)])),(1,.var (.agg [.u32 v,.bs 9 36 ins.length cap,.sl (some 46) 2 (outs.map outD),.u32 k]))]⟩) (fun q__ => n - q__.1.1) ⟨(0,[],r1),⟨Nat.zero_le _,rfl,by simp,by simp⟩⟩ rfl ?_
   rintro ⟨⟨j,ws,u⟩,⟨hj,hwj,hub,hI⟩⟩
   show W _ _ _ _ ⟨38,[(0,.ptr 0 0 []),(1,.ptr 1 0 []),(4,.int ((i : Nat) : Int)),(9,.int ((ins.length : Nat) : Int)),(10,.int ((i : Nat) : Int)),(14,.int ((n : Nat) : Int)),(15,.int ((j : Nat) : Int))],[(9,.var (wl l (inWt x ws :: rs.map inN) q)),(0,.var (.agg [.sl none 1 (u.map D.u8)])),(1,.var (.agg [.u32 v,.bs 9 36 ins.length cap,.sl (some 46) 2 (outs.map outD),.u32 k]))]⟩
   have hj : j ≤ n := hj
   have hwj : ws.length = j := hwj
   have hub : u.length + j ≤ r1.length := hub
   have hI : itemsO n r1 = (itemsO (n - j) u).map fun z => (ws ++ z.1,z.2) := hI
   refine W.seq ?_
   refine W.l0 1 [.y 16 _] [] [] [(0,_),(1,_),(4,_),(9,_),(10,_),(14,_),(15,_),(16,_)] [(9,.var _),(0,.var _),(1,.var _)] 38 ⟨aU fun _ _ H K => R.lssN (j) (n) (eU K 15 rfl) (eU K 14 rfl) H,trivial⟩ rfl rfl rfl rfl (tU rfl ?_)
   refine W.seq ?_
   refine W.condD rfl (fun hc16 => ?_) (fun hc16 => ?_)
   · refine W.skip ?_
     refine W.seq ?_
     refine W.block ?_
     rcases hE2 : itemO u with _ | ⟨y,u2⟩
     · refine W.drawX (m := 17) (an := [0,1,3,7,0,0,32,96,224,0,992,2016,4064,0,8192,24576,65504,131071,262143,524287]) (its := [.y 17 _,.y 18 _,.y 19 _,.y 20 _,.y 21 _,.y 22 _,.y 23 _,.y 24 _,.y 25 _,.y 26 _,.y 27 _,.y 28 _,.y 29 _,.y 30 _,⟨31,.dead,true⟩,⟨32,.dead,true⟩,⟨33,.dead,true⟩]) (ks := []) (kk := []) 14 hP (by decide) rfl ⟨nU rfl,rfl,rfl,rfl⟩ (            ⟨⟨rfl,rfl,fun _ τ hb ht hτ => R.mov (evt (hτ 1 _ rfl)) rfl ht⟩,⟨⟨rfl,rfl,fun _ τ hb ht hτ => R.nilcP (hτ 17 _ rfl) ht⟩,⟨⟨rfl,rfl,fun _ τ hb ht hτ => R.fdP (hτ 18 _ rfl) ht⟩,⟨⟨rfl,rfl,fun _ τ hb ht hτ => R.ldP (hτ 19 _ rfl) (hb 1 _ rfl) rfl rfl rfl rfl ht⟩,⟨⟨rfl,rfl,fun _ τ hb ht hτ => R.mov (evt (hτ 4 _ rfl)) rfl ht⟩,⟨⟨rfl,rfl,fun _ τ hb ht hτ => R.mov (evt (hτ 1 _ rfl)) rfl ht⟩,⟨⟨rfl,rfl,fun _ τ hb ht hτ => R.nilcP (hτ 22 _ rfl) ht⟩,⟨⟨rfl,rfl,fun _ τ hb ht hτ => R.fdP (hτ 23 _ rfl) ht⟩,⟨⟨rfl,rfl,fun _ τ hb ht hτ => R.ldP (hτ 24 _ rfl) (hb 1 _ rfl) rfl rfl rfl rfl ht⟩,⟨⟨rfl,rfl,fun _ τ hb ht hτ => R.mov (evt (hτ 4 _ rfl)) rfl ht⟩,⟨⟨rfl,rfl,fun _ τ hb ht hτ => R.idxBs (i) (hτ 25 _ rfl) (evoI (evt (hτ 26 _ rfl))) rfl bU ht⟩,⟨⟨rfl,rfl,fun _ τ hb ht hτ => R.fdP (hτ 27 _ rfl) ht⟩,⟨⟨rfl,rfl,fun _ τ hb ht hτ => R.ldO (hτ 28 _ rfl) (hb 9 _ rfl) (wl_loc hli rfl rfl rfl) ht⟩,⟨⟨rfl,rfl,fun _ τ hb ht hτ => R.mov (evt (hτ 0 _ rfl)) rfl ht⟩,⟨⟨rfl,rfl,SpX.callX [(0,0)] hC (FnO.none' (ritem_ok u (by omega)) (by rw [hE2]; rfl)) (fun τ hτ => (EvB.cons (evt (hτ 30 _ rfl)) rfl rfl rfl EvB.nil)) rfl ⟨rfl,trivial⟩ ⟨rfl,trivial⟩ rfl (fun e he => ?_)⟩,⟨trivial,⟨trivial,trivial⟩⟩⟩⟩⟩⟩⟩⟩⟩⟩⟩⟩⟩⟩⟩⟩⟩) rfl (nU rfl)
       obtain ⟨ch,rfl,hch⟩ := he
       exact EndsO.none' (by rw [ws_none hO (wo_n2 hE (it_none hI (by omega) hE2))]; rfl) ⟨⟨ch,rfl,hch⟩,⟨⟨_,rfl,by first | rfl | simp [dds_sz,sz_ren,D.sz]⟩,⟨⟨_,rfl,by first | rfl | simp [dds_sz,sz_ren,D.sz]⟩,trivial⟩⟩⟩
     have hu2 := itemO_len hE2 (by omega)
     refine W.drawE (m := 17) (an := [0,1,3,7,0,0,32,96,224,0,992,2016,4064,0,8192,24576,65504,131071,262143,524287]) (its := [.y 17 _,.y 18 _,.y 19 _,.y 20 _,.y 21 _,.y 22 _,.y 23 _,.y 24 _,.y 25 _,.y 26 _,.y 27 _,.y 28 _,.y 29 _,.y 30 _,.y 31 _,.y 32 _,.y 33 _]) (ks := [(16,29)]) (kk := []) (efs := [(14,[(0,.var _)]),(16,[(9,.var _)])]) (live := [0,1,4,9,10,14,15,20,21,33]) (env' := [(0,_),(1,_),(4,_),(9,_),(10,_),(14,_),(15,_),(20,_),(21,_),(33,_)]) (nd := 40) (bx1 := [(9,.var _),(0,.var _),(1,.var _)]) hP (by decide) rfl ⟨⟨63,rfl⟩,nU rfl,rfl,rfl,rfl,rfl⟩ (          ⟨⟨rfl,nU rfl,rfl,fun _ τ hb ht hτ => R.mov (evt (hτ 1 _ rfl)) rfl ht⟩,⟨⟨rfl,nU rfl,rfl,fun _ τ hb ht hτ => R.nilcP (hτ 17 _ rfl) ht⟩,⟨⟨rfl,nU rfl,rfl,fun _ τ hb ht hτ => R.fdP (hτ 18 _ rfl) ht⟩,⟨⟨rfl,nU rfl,rfl,fun _ τ hb ht hτ => R.ldP (hτ 19 _ rfl) (hb 1 _ rfl) rfl rfl rfl rfl ht⟩,⟨⟨rfl,nU rfl,rfl,fun _ τ hb ht hτ => R.mov (evt (hτ 4 _ rfl)) rfl ht⟩,⟨⟨rfl,nU rfl,rfl,fun _ τ hb ht hτ => R.mov (evt (hτ 1 _ rfl)) rfl ht⟩,⟨⟨rfl,nU rfl,rfl,fun _ τ hb ht hτ => R.nilcP (hτ 22 _ rfl) ht⟩,⟨⟨rfl,nU rfl,rfl,fun _ τ hb ht hτ => R.fdP (hτ 23 _ rfl) ht⟩,⟨⟨rfl,nU rfl,rfl,fun _ τ hb ht hτ => R.ldP (hτ 24 _ rfl) (hb 1 _ rfl) rfl rfl rfl rfl ht⟩,⟨⟨rfl,nU rfl,rfl,fun _ τ hb ht hτ => R.mov (evt (hτ 4 _ rfl)) rfl ht⟩,⟨⟨rfl,nU rfl,rfl,fun _ τ hb ht hτ => R.idxBs (i) (hτ 25 _ rfl) (evoI (evt (hτ 26 _ rfl))) rfl bU ht⟩,⟨⟨rfl,nU rfl,rfl,fun _ τ hb ht hτ => R.fdP (hτ 27 _ rfl) ht⟩,⟨⟨rfl,nU rfl,rfl,fun _ τ hb ht hτ => R.ldO (hτ 28 _ rfl) (hb 9 _ rfl) (wl_loc hli rfl rfl rfl) ht⟩,⟨⟨rfl,nU rfl,rfl,fun _ τ hb ht hτ => R.mov (evt (hτ 0 _ rfl)) rfl ht⟩,⟨⟨rfl,rfl,⟨rfl,nU rfl⟩,(SpE.frz (d' := .sl none 1 (y.map D.u8)) (SpE.callB [(0,0)] hC (FnO.some' (r := .sl (some 5) 1 (y.map D.u8)) (bx' := [(0,.var (.agg [.sl none 1 (u2.map D.u8)]))]) (nw := []) (ritem_ok u (by omega)) (by rw [hE2]; rfl)) (fun τ hτ => (EvB.cons (evt (hτ 30 _ rfl)) rfl rfl rfl EvB.nil)) rfl ⟨rfl,trivial⟩ ⟨rfl,trivial⟩ rfl rfl rfl rfl (nU rfl)) rfl rfl (show (.sl (some 5) 1 (y.map D.u8) : D).brw = _ from by simp only [D.brw,brws_eq]; rw [brw_map (fun _ => rfl)]))⟩,⟨⟨rfl,nU rfl,rfl,fun _ τ hb ht hτ => R.bslE (z := 1) (.cons (evt (hτ 31 _ rfl)) .nil) ⟨⟨rfl,rfl,rfl⟩,trivial⟩ rfl ht (by decide)⟩,⟨⟨rfl,rfl,⟨rfl,nU rfl⟩,(SpE.appB (s := 29) (id := 9) rfl rfl (wl_loc hli rfl rfl rfl) (wl_noArr hli) (wl_upd hli) (fun τ hb hτ => (SrcO.sc (SC.sl (hτ 32 _ rfl rfl rfl)) (pur_lit rfl))) (show _ = ((ws ++ [y]).map bytesD) from (by rw [List.map_append]; rfl)) bU (by decide) (by decide) rfl (nU rfl))⟩,trivial⟩⟩⟩⟩⟩⟩⟩⟩⟩⟩⟩⟩⟩⟩⟩⟩⟩) rfl rfl rfl (n' := 38) rfl (⟨rfl,_,R.idxBs (i) (gU 20 rfl) (evoI (gV 21 rfl)) rfl bU (nU rfl),⟨rfl,_,R.fdP (gU 34 rfl) (nU rfl),⟨rfl,_,R.stOZ (gU 35 rfl) (xU 9 rfl) (wl_loc hli rfl rfl rfl) (gU 33 rfl) rfl rfl (by rfl) (by rfl) (wl_upd hli) (wl_noArr hli),⟨[0,1,4,9,10,14,15],[(0,_),(1,_),(4,_),(9,_),(10,_),(14,_),(15,_)],[(9,.var _),(0,.var _),(1,.var _)],38,rfl,rfl,rfl, ?_⟩⟩⟩⟩)
     refine W.l0 2 [.y 36 _,.y 15 _] [] [] [(0,_),(1,_),(4,_),(9,_),(10,_),(14,_),(15,_)] [(9,.var _),(0,.var _),(1,.var _)] 38 ⟨aU fun _ _ H K => R.addN (j) (1) (eU K 15 rfl) (kI 1 rfl) bU H,mU 36 rfl rfl,trivial⟩ rfl rfl rfl rfl (tU rfl ?_)
     exact ⟨⟨(j + 1,ws ++ [y],u2),⟨by omega,by simp [hwj],(show u2.length + (j + 1) ≤ r1.length by omega),it_step hI (by omega) hE2⟩⟩,rfl,(by simp only []; omega)⟩
   · obtain rfl : j = n := by omega
     have hWo := wo_s hE (it_end hI)
     refine W.exit ?_
     refine W.brwB 9 (d' := wl (l ++ [setW x ws]) (rs.map inN) q) (bx' := [(9,.var _),(0,.var _),(1,.var _)]) rfl (wl_brw x ws rs) rfl ?_
     refine W.l0 2 [.y 37 _,.y 10 _] [] [] [(0,_),(1,_),(9,_),(10,_)] [(9,.var _),(0,.var _),(1,.var _)] 38 ⟨aU fun _ _ H K => R.addN (i) (1) (eU K 10 rfl) (kI 1 rfl) bU H,mU 37 rfl rfl,trivial⟩ rfl rfl rfl rfl (tU rfl ?_)
     exact ⟨⟨(i + 1,l ++ [setW x ws],rs,u),⟨by simp [hli],by simp; omega,(show u.length ≤ b.length by omega),ws_step hO hWo⟩⟩,rfl,(by simp only []; omega)⟩
 · obtain rfl := rest_nil hlen (by omega)
   show W _ _ _ _ _
   have hlen : l.length = ins.length := by simpa using hlen
   refine W.brwB 9 (d' := .agg (l.map inD ++ List.replicate q .dead)) (bx' := [(9,.var _),(0,.var _),(1,.var _)]) rfl wl_end rfl ?_
   refine W.shutB 9 1 [1] [0,1] (bx' := [(0,.var _),(1,.var _)]) rfl rfl (by decide) rfl rfl rfl (by simpa using hlen) (fun d hd => by obtain ⟨z,_,rfl⟩ := List.mem_map.1 hd; rfl) (fun d hd => by obtain ⟨z,_,rfl⟩ := List.mem_map.1 hd; rfl) (fun d hd => by obtain ⟨z,_,rfl⟩ := List.mem_map.1 hd; exact inD_sz z) rfl rfl rfl rfl (pin_sub hD rfl) ?_
   refine W.brwB 1 (d' := .agg [.u32 v,.sl none 36 (l.map inD),.sl none 2 (outs.map outD),.u32 k]) (bx' := [(0,.var _),(1,.var _)]) rfl (show (D.agg [.u32 v,.sl none 36 (l.map inD),.sl (some 46) 2 (outs.map outD),.u32 k]).brw = _ from by simp only [D.brw,brws_eq,List.map_cons,List.map_nil]; rw [brw_map brw_inD,brw_map brw_outD]) rfl ?_
   refine W.exit ?_
   exact EndsO.some' (r := .tup []) (bx' := [(0,.var (.agg [.sl none 1 (r.map D.u8)])),(1,.var (.agg [.u32 v,.sl none 36 (l.map inD),.sl none 2 (outs.map outD),.u32 k]))]) (nw := []) (by rw [ws_end hO]; rfl) (EndsB.none' (r := .dead) (.inl rfl) rfl (rfl) ⟨rfl,⟨rfl,trivial⟩⟩)

end Go.Sx

namespace Go.Sx
def szW : List (List UInt8) → Nat
 | [] => 0
 | x :: r => 1 + x.length + szW r
def szI : List InS → Nat
 | [] => 0
 | x :: r => 41 + x.script.length + szW x.wit + szI r
def szO : List OutS → Nat
 | [] => 0
 | x :: r => 9 + x.script.length + szO r
def szT (t : TxS) : Nat := szI t.ins + szO t.outs
theorem hvW_ge (n : Nat) (l : List (List UInt8)) : n ≤ hvW n l := by
 induction l generalizing n with
 | nil => exact Nat.le_refl _
 | cons x r ih =>
  simp only [hvW]
  split
  · exact Nat.le_trans (by omega) (ih _)
  · exact Nat.le_refl _
theorem hvI_ge (n : Nat) (l : List InS) : n ≤ hvI n l := by
 induction l generalizing n with
 | nil => exact Nat.le_refl _
 | cons x r ih =>
  simp only [hvI]
  split
  · exact Nat.le_trans (Nat.le_trans (by omega) (hvW_ge _ _)) (ih _)
  · exact Nat.le_refl _
theorem hvO_ge (n : Nat) (l : List OutS) : n ≤ hvO n l := by
 induction l generalizing n with
 | nil => exact Nat.le_refl _
 | cons x r ih =>
  simp only [hvO]
  split
  · exact Nat.le_trans (by omega) (ih _)
  · exact Nat.le_refl _
theorem hvW_sz (n : Nat) (l : List (List UInt8)) (h : hvW n l ≤ 32768) : hvW n l = n + szW l := by
 induction l generalizing n with
 | nil => rfl
 | cons x r ih =>
  simp only [hvW] at h ⊢
  have hn : n ≤ 32768 := by
   split at h
   · assumption
   · omega
  rw [if_pos hn] at h ⊢
  rw [ih _ h,szW]; omega
theorem hvI_sz (n : Nat) (l : List InS) (h : hvI n l ≤ 32768) : hvI n l = n + szI l := by
 induction l generalizing n with
 | nil => rfl
 | cons x r ih =>
  simp only [hvI] at h ⊢
  have hn : n ≤ 32768 := by
   split at h
   · assumption
   · omega
  rw [if_pos hn] at h ⊢
  have hw : hvW (n + 41 + x.script.length) x.wit ≤ 32768 := Nat.le_trans (hvI_ge _ r) h
  rw [ih _ h,hvW_sz _ _ hw,szI]; omega
theorem hvO_sz (n : Nat) (l : List OutS) (h : hvO n l ≤ 32768) : hvO n l = n + szO l := by
 induction l generalizing n with
 | nil => rfl
 | cons x r ih =>
  simp only [hvO] at h ⊢
  have hn : n ≤ 32768 := by
   split at h
   · assumption
   · omega
  rw [if_pos hn] at h ⊢
  rw [ih _ h,szO]; omega
theorem heavy_sz {t : TxS} (h : heavyS t = false) : szT t ≤ 32768 := by
 unfold heavyS at h
 have h1 : hvO (hvI 0 t.ins) t.outs ≤ 32768 := by have := of_decide_eq_false h; omega
 have h2 : hvI 0 t.ins ≤ 32768 := Nat.le_trans (hvO_ge _ _) h1
 rw [hvO_sz _ _ h1,hvI_sz _ _ h2] at h1
 unfold szT; omega

theorem szW_get {l : List (List UInt8)} {b : List UInt8} (h : b ∈ l) : b.length + 1 ≤ szW l := by
 induction l with
 | nil => cases h
 | cons x r ih =>
  simp only [szW]
  rcases List.mem_cons.1 h with rfl | h
  · omega
  · have := ih h; omega
theorem szI_get {l : List InS} {x : InS} (h : x ∈ l) : 41 + x.script.length + szW x.wit ≤ szI l := by
 induction l with
 | nil => cases h
 | cons y r ih =>
  simp only [szI]
  rcases List.mem_cons.1 h with rfl | h
  · omega
  · have := ih h; omega
theorem szO_get {l : List OutS} {x : OutS} (h : x ∈ l) : 9 + x.script.length ≤ szO l := by
 induction l with
 | nil => cases h
 | cons y r ih =>
  simp only [szO]
  rcases List.mem_cons.1 h with rfl | h
  · omega
  · have := ih h; omega
theorem szW_len (l : List (List UInt8)) : l.length ≤ szW l := by
 induction l with
 | nil => exact Nat.le_refl _
 | cons x r ih => simp only [szW,List.length_cons]; omega
theorem szI_len (l : List InS) : 41 * l.length ≤ szI l := by
 induction l with
 | nil => exact Nat.le_refl _
 | cons x r ih => simp only [szI,List.length_cons]; omega
theorem szO_len (l : List OutS) : 9 * l.length ≤ szO l := by
 induction l with
 | nil => exact Nat.le_refl _
 | cons x r ih => simp only [szO,List.length_cons]; omega
theorem szW_app (l r : List (List UInt8)) : szW (l ++ r) = szW l + szW r := by
 induction l with
 | nil => simp [szW]
 | cons x l ih => simp only [List.cons_append,szW,ih]; omega
theorem szI_app (l r : List InS) : szI (l ++ r) = szI l + szI r := by
 induction l with
 | nil => simp [szI]
 | cons x l ih => simp only [List.cons_append,szI,ih]; omega
theorem szO_app (l r : List OutS) : szO (l ++ r) = szO l + szO r := by
 induction l with
 | nil => simp [szO]
 | cons x l ih => simp only [List.cons_append,szO,ih]; omega
theorem take_snoc {α : Type} [Inhabited α] {l : List α} {i : Nat} (h : i < l.length) : l.take (i + 1) = l.take i ++ [l[i]!] := by
 rw [getElem!_pos l i h,List.take_succ_eq_append_getElem h]
theorem szW_take (l : List (List UInt8)) (i : Nat) : szW (l.take i) ≤ szW l := by
 have := szW_app (l.take i) (l.drop i)
 rw [List.take_append_drop] at this; omega
theorem szI_take (l : List InS) (i : Nat) : szI (l.take i) ≤ szI l := by
 have := szI_app (l.take i) (l.drop i)
 rw [List.take_append_drop] at this; omega
theorem szO_take (l : List OutS) (i : Nat) : szO (l.take i) ≤ szO l := by
 have := szO_app (l.take i) (l.drop i)
 rw [List.take_append_drop] at this; omega
theorem witS_le (l : List (List UInt8)) : ∀ i,i ≤ l.length → (witS l i).length ≤ 10 * szW (l.take i) := by
 intro i
 induction i with
 | zero => intro _; simp [witS]
 | succ i ih =>
  intro h
  have := ih (by omega)
  have h2 := itemS_len l[i]!
  rw [take_snoc (by omega),szW_app]
  simp only [witS,List.length_append,szW]
  omega
theorem insS_le (l : List InS) (hh : ∀ x ∈ l,x.tx.length = 32) : ∀ i,i ≤ l.length → (insS l i).length ≤ 2 * szI (l.take i) := by
 intro i
 induction i with
 | zero => intro _; simp [insS]
 | succ i ih =>
  intro h
  have := ih (by omega)
  have h2 := itemS_len l[i]!.script
  have h3 := hh _ (get_mem (show i < l.length by omega))
  rw [take_snoc (by omega),szI_app]
  simp only [insS,inS,List.length_append,szI,lowI_len]
  omega
theorem outsS_le (l : List OutS) : ∀ i,i ≤ l.length → (outsS l i).length ≤ 2 * szO (l.take i) := by
 intro i
 induction i with
 | zero => intro _; simp [outsS]
 | succ i ih =>
  intro h
  have := ih (by omega)
  have h2 := itemS_len l[i]!.script
  rw [take_snoc (by omega),szO_app]
  simp only [outsS,outS',List.length_append,szO,lowI_len]
  omega
theorem witsS_le (l : List InS) : ∀ i,i ≤ l.length → (witsS l i).length ≤ 10 * szI (l.take i) := by
 intro i
 induction i with
 | zero => intro _; simp [witsS]
 | succ i ih =>
  intro h
  have := ih (by omega)
  have h2 := countS_len l[i]!.wit.length
  have h3 := witS_le l[i]!.wit _ (Nat.le_refl _)
  rw [List.take_length] at h3
  rw [take_snoc (by omega),szI_app]
  simp only [witsS,List.length_append,szI]
  omega
theorem wf_of_sz {t : TxS} (h : szT t ≤ 100000) (hh : ∀ x ∈ t.ins,x.tx.length = 32) : t.wf := by
 unfold szT at h
 have a1 := szI_len t.ins
 have a2 := szO_len t.outs
 refine ⟨by omega,by omega,hh,fun x hx => ?_,fun x hx => ?_,fun i hi => ?_,fun i hi => ?_,fun i hi => ?_,fun x hx => ⟨?_,fun i hi => ?_⟩,fun x hx b hb => ?_⟩
 · have := szI_get hx; omega
 · have := szO_get hx; omega
 · have := insS_le t.ins hh i hi; have := szI_take t.ins i; omega
 · have := outsS_le t.outs i hi; have := szO_take t.outs i; omega
 · have := witsS_le t.ins i hi; have := szI_take t.ins i; omega
 · have := szI_get hx; have := szW_len x.wit; omega
 · have := szI_get hx; have := witS_le x.wit i hi; have := szW_take x.wit i; omega
 · have := szI_get hx; have := szW_get hb; omega

section
variable {b r : List UInt8} {n i : Nat} {l : List InS} {o : List OutS} {ws : List (List UInt8)}
theorem inO_sz {a : InS} (h : inO b = some (a,r)) (hb : b.length ≤ 100000) : a.tx.length = 32 ∧ a.wit = [] ∧ 41 + a.script.length + r.length ≤ b.length := by
 unfold inO at h
 cases h1 : takeO b 32 with
 | none => rw [h1] at h; cases h
 | some y =>
  obtain ⟨x,r1⟩ := y
  rw [h1,Option.bind_some] at h
  cases h2 : numO r1 4 with
  | none => rw [h2] at h; cases h
  | some y =>
   obtain ⟨p,r2⟩ := y
   rw [h2,Option.bind_some] at h
   cases h3 : itemO r2 with
   | none => rw [h3] at h; cases h
   | some y =>
    obtain ⟨s,r3⟩ := y
    rw [h3,Option.bind_some] at h
    cases h4 : numO r3 4 with
    | none => rw [h4] at h; cases h
    | some y =>
     obtain ⟨q,r4⟩ := y
     rw [h4,Option.bind_some] at h
     cases h
     have e1 := takeO_len h1
     have e2 := numO_len h2
     have e3 := itemO_len h3 (by omega)
     have e4 := numO_len h4
     exact ⟨e1.1,rfl,by show 41 + s.length + r4.length ≤ b.length; omega⟩
theorem outO_sz {a : OutS} (h : outO b = some (a,r)) (hb : b.length ≤ 100000) : 9 + a.script.length + r.length ≤ b.length := by
 unfold outO at h
 cases h1 : numO b 8 with
 | none => rw [h1] at h; cases h
 | some y =>
  obtain ⟨p,r1⟩ := y
  rw [h1,Option.bind_some] at h
  cases h2 : itemO r1 with
  | none => rw [h2] at h; cases h
  | some y =>
   obtain ⟨s,r2⟩ := y
   rw [h2,Option.bind_some] at h
   cases h
   have e1 := numO_len h1
   have e2 := itemO_len h2 (by omega)
   show 9 + s.length + r2.length ≤ b.length
   omega
theorem insO_sz (h : insO b i = some (l,r)) (hb : b.length ≤ 100000) : (∀ x ∈ l,x.tx.length = 32 ∧ x.wit = []) ∧ szI l + r.length ≤ b.length := by
 induction i generalizing l r with
 | zero => cases h; simp [szI]
 | succ i ih =>
  simp only [insO] at h
  cases h1 : insO b i with
  | none => rw [h1] at h; cases h
  | some y =>
   obtain ⟨l1,r1⟩ := y
   rw [h1,Option.bind_some] at h
   cases h2 : inO r1 with
   | none => rw [h2] at h; cases h
   | some y =>
    obtain ⟨a,r2⟩ := y
    rw [h2,Option.bind_some] at h
    cases h
    have e1 := ih h1
    have e2 := inO_sz h2 (by omega)
    refine ⟨fun x hx => ?_, ?_⟩
    · rcases List.mem_append.1 hx with hx | hx
      · exact e1.1 x hx
      · simp at hx; subst hx; exact ⟨e2.1,e2.2.1⟩
    · simp only [szI_app,szI,e2.2.1,szW]
      show szI l1 + (41 + a.script.length + 0 + 0) + r2.length ≤ b.length
      omega
theorem outsO_sz (h : outsO b i = some (o,r)) (hb : b.length ≤ 100000) : szO o + r.length ≤ b.length := by
 induction i generalizing o r with
 | zero => cases h; simp [szO]
 | succ i ih =>
  simp only [outsO] at h
  cases h1 : outsO b i with
  | none => rw [h1] at h; cases h
  | some y =>
   obtain ⟨l1,r1⟩ := y
   rw [h1,Option.bind_some] at h
   cases h2 : outO r1 with
   | none => rw [h2] at h; cases h
   | some y =>
    obtain ⟨a,r2⟩ := y
    rw [h2,Option.bind_some] at h
    cases h
    have e1 := ih h1
    have e2 := outO_sz h2 (by omega)
    simp only [szO_app,szO]
    show szO l1 + (9 + a.script.length + 0) + r2.length ≤ b.length
    omega
theorem bodyO_sz (h : bodyO b = some ((l,o),r)) (hb : b.length ≤ 100000) : (∀ x ∈ l,x.tx.length = 32 ∧ x.wit = []) ∧ szI l + szO o + r.length ≤ b.length := by
 unfold bodyO at h
 cases h1 : cntO b with
 | none => rw [h1] at h; cases h
 | some y =>
  obtain ⟨n,r1⟩ := y
  rw [h1,Option.bind_some] at h
  cases h2 : insO r1 n with
  | none => simp only [h2] at h; cases h
  | some y =>
   obtain ⟨l1,r2⟩ := y
   simp only [h2,Option.bind_some] at h
   cases h3 : cntO r2 with
   | none => rw [h3] at h; cases h
   | some y =>
    obtain ⟨m,r3⟩ := y
    simp only [h3,Option.bind_some] at h
    cases h4 : outsO r3 m with
    | none => rw [h4] at h; cases h
    | some y =>
     obtain ⟨o1,r4⟩ := y
     simp only [h4,Option.bind_some,Option.some.injEq,Prod.mk.injEq] at h
     obtain ⟨⟨rfl,rfl⟩,rfl⟩ := h
     have e1 := cntO_le h1 hb
     have e2 := insO_sz h2 (by omega)
     have e3 := cntO_le h3 (by omega)
     have e4 := outsO_sz h4 (by omega)
     exact ⟨e2.1,by omega⟩
theorem itemsO_sz (h : itemsO n b = some (ws,r)) (hb : b.length ≤ 100000) : szW ws + r.length ≤ b.length := by
 induction n generalizing b ws r with
 | zero => cases h; simp [szW]
 | succ n ih =>
  simp only [itemsO] at h
  cases h1 : itemO b with
  | none => rw [h1] at h; cases h
  | some y =>
   obtain ⟨x,r1⟩ := y
   simp only [h1,Option.bind_some] at h
   cases h2 : itemsO n r1 with
   | none => rw [h2] at h; cases h
   | some y =>
    obtain ⟨xs,r2⟩ := y
    simp only [h2,Option.bind_some,Option.some.injEq,Prod.mk.injEq] at h
    obtain ⟨rfl,rfl⟩ := h
    have e1 := itemO_len h1 hb
    have e2 := ih h2 (by omega)
    simp only [szW]; omega
theorem witO_sz (h : witO b = some (ws,r)) (hb : b.length ≤ 100000) : szW ws + r.length ≤ b.length := by
 unfold witO at h
 cases h1 : cntO b with
 | none => rw [h1] at h; cases h
 | some y =>
  obtain ⟨n,r1⟩ := y
  rw [h1,Option.bind_some] at h
  have e1 := cntO_le h1 hb
  have e2 := itemsO_sz h (by show r1.length ≤ 100000; omega)
  show szW ws + r.length ≤ b.length
  have : szW ws + r.length ≤ r1.length := e2
  omega
theorem witsO_sz {l' : List InS} (h : witsO l b = some (l',r)) (hb : b.length ≤ 100000) (hw : ∀ x ∈ l,x.tx.length = 32 ∧ x.wit = []) : (∀ x ∈ l',x.tx.length = 32) ∧ szI l' + r.length ≤ szI l + b.length ∧ l'.length = l.length := by
 induction l generalizing b l' r with
 | nil => cases h; simp
 | cons x xs ih =>
  simp only [witsO] at h
  cases h1 : witO b with
  | none => rw [h1] at h; cases h
  | some y =>
   obtain ⟨ws,r1⟩ := y
   simp only [h1,Option.bind_some] at h
   cases h2 : witsO xs r1 with
   | none => rw [h2] at h; cases h
   | some y =>
    obtain ⟨ys,r2⟩ := y
    simp only [h2,Option.bind_some,Option.some.injEq,Prod.mk.injEq] at h
    obtain ⟨rfl,rfl⟩ := h
    have e1 := witO_sz h1 hb
    have e2 := ih h2 (by omega) (fun z hz => hw z (List.mem_cons_of_mem _ hz))
    have e3 := hw x (by simp)
    refine ⟨fun z hz => ?_, ?_,by simp [e2.2.2]⟩
    · rcases List.mem_cons.1 hz with rfl | hz
      · exact e3.1
      · exact e2.1 z hz
    · simp only [szI,setW,e3.2,szW]
      omega
end
end Go.Sx

namespace Go.Sx
open Go.Proofs
set_option maxRecDepth 100000
theorem und20 : ∃ ms,Tryd.prog.underlying 20 = some (.interface ms) := ⟨_,rfl⟩
theorem neqNil0 (w : World) : (binOp .neq 20 .nilIface .nilIface).run Tryd.prog w = .ok (.bool false) w := by
 obtain ⟨ms,h⟩ := und20
 have : (Op.equal 20 .nilIface .nilIface).run Tryd.prog w = .ok true w := by
  unfold Op.equal
  rw [show Op.maxDepth = 9999 + 1 from rfl,Op.equalIn]
  simp [run_underlying h]
 simp [binOp,this]
theorem neqNil1 (w : World) (t : TypeId) (v : Value) : (binOp .neq 20 (.iface t v) .nilIface).run Tryd.prog w = .ok (.bool true) w := by
 obtain ⟨ms,h⟩ := und20
 have : (Op.equal 20 (.iface t v) .nilIface).run Tryd.prog w = .ok false w := by
  unfold Op.equal
  rw [show Op.maxDepth = 9999 + 1 from rfl,Op.equalIn]
  simp [run_underlying h]
 simp [binOp,this]
theorem eqGuardNil (w : World) (op : BinOp) (t : TypeId) (o : Operand) (x y : Value) (hx : ∀ cs,x ≠ .agg cs) : (eqGuard op t o (.const y) x .nilIface).run Tryd.prog w = .ok () w := by
 unfold eqGuard
 cases op <;> simp <;> cases x <;> simp_all

theorem get1R (b2 b3 : Nat) (w : World) : CallsD Tryd.prog 41 #[.pointer (some ⟨b2,0,none⟩),.pointer (some ⟨b3,0,none⟩)] .returning w (fun e u' w' => (∃ v,e = .returned v) ∧ u' = .returning ∧ w' = w) := by
 refine callsD_of_wpS Tryd.func41 rfl fun c0 cs hm => ?_
 refine wpS_seq (wpS_region ?_)
 have hr : recoverD (c0 :: cs) = none := by simp [recoverD,hm]
 simp [wpOpsS,List.range,List.range.loop,Region.wanted,execOp,resolve,invoke,builtin,hr,Act.put,Oper.upon,Act.eval,undef,eqGuardNil,neqNil0]
 show Code.wpS Tryd.prog _ _ _ _ _
 refine wpS_cond (t := false) rfl (wpS_of_wp (wp_skip ?_))
 exact ⟨rfl,.returning,by rw [← hm],.tuple #[],by simp [results,Tryd.f41],⟨_,rfl⟩,rfl,rfl⟩

theorem get1P (b2 b3 : Nat) (w : World) {ch : List PanicEntry} (hch : okCh ch) {cs2 cs3 : Array Value} {e2 e3 : TypeId} (h23 : b2 ≠ b3) (h2 : w.heap[b2]? = some (.cells cs2 e2 (0,0))) (hs2 : cs2.size = 4) (h3 : w.heap[b3]? = some (.cells cs3 e3 (0,0))) (hs3 : cs3.size = 1) :
 CallsD Tryd.prog 41 #[.pointer (some ⟨b2,0,none⟩),.pointer (some ⟨b3,0,none⟩)] (.panicking ch) w (fun e u' w' => (∃ v,e = .returned v) ∧ settle u' = .returning ∧
  w' = (w.setRow b2 #[.int .u32 0,.slice none 0 0,.slice none 0 0,.int .u32 0]).setRow b3 #[.int .i64 5]) := by
 obtain ⟨t,x,rfl⟩ := hch
 refine callsD_of_wpS Tryd.func41 rfl fun c0 cs hm => ?_
 refine wpS_seq (wpS_region ?_)
 have hr : recoverD (c0 :: cs) = some (.iface t x,{ c0 with mode := .panicking [{ v := .iface t x,recovered := true }] } :: cs) := by simp [recoverD,hm]
 simp [wpOpsS,List.range,List.range.loop,Region.wanted,execOp,resolve,invoke,builtin,hr,Act.put,Oper.upon,Act.eval,undef,eqGuardNil,neqNil1]
 show Code.wpS Tryd.prog _ _ _ _ _
 refine wpS_cond (t := true) rfl (wpS_region ?_)
 have hb : (Instr.build 26 #[]).run Tryd.prog w = .ok (.agg #[.int .u32 0,.slice none 0 0,.slice none 0 0,.int .u32 0]) w := run_build w 26 #[] _ rfl
 have s1 : (storeVar 26 ⟨b2,0,none⟩ (.agg #[.int .u32 0,.slice none 0 0,.slice none 0 0,.int .u32 0])).run Tryd.prog w = .ok () (w.setRow b2 #[.int .u32 0,.slice none 0 0,.slice none 0 0,.int .u32 0]) := by
  have := run_storeVar (P := Tryd.prog) (ty := 26) (n := 4) (w := w) (off := 0) (v := .agg #[.int .u32 0,.slice none 0 0,.slice none 0 0,.int .u32 0]) h2 rfl (by omega) (by intro u hu; simp [Value.cells] at hu; rcases hu with rfl | rfl | rfl | rfl <;> rfl)
  rw [this]
  have e : cs2.toList.drop 4 = [] := by apply List.drop_of_length_le; simp; omega
  simp [Value.cells,e]
 have s2 : (storeVar 34 ⟨b3,0,none⟩ (.int .i64 5)).run Tryd.prog (w.setRow b2 #[.int .u32 0,.slice none 0 0,.slice none 0 0,.int .u32 0]) = .ok () ((w.setRow b2 #[.int .u32 0,.slice none 0 0,.slice none 0 0,.int .u32 0]).setRow b3 #[.int .i64 5]) := by
  have := run_storeVar (P := Tryd.prog) (ty := 34) (n := 1) (w := w.setRow b2 #[.int .u32 0,.slice none 0 0,.slice none 0 0,.int .u32 0]) (off := 0) (v := .int .i64 5) ((setRow_other w b2 b3 _ (fun e => h23 e.symm)).trans h3) rfl (by omega) (by intro u hu; simp [Value.cells] at hu; subst hu; rfl)
  rw [this]
  have e : cs3.toList.drop 1 = [] := by apply List.drop_of_length_le; simp; omega
  simp [Value.cells,e]
 simp [wpOpsS,List.range,List.range.loop,Region.wanted,execOp,hb,Act.put,Oper.upon,Act.eval,Instr.storeAt,Instr.sureAddr,s1,s2]
 exact ⟨rfl,_,rfl,.tuple #[],by simp [results,Tryd.f41],⟨_,rfl⟩,rfl,rfl⟩
end Go.Sx

namespace Go.Sx
open Go.Proofs
def seenB (r : List UInt8) : Bool := decide (0 < r.length) && (r[0]! == 0)
def preO (r : List UInt8) : Option (List UInt8) := if seenB r = true then (takeO r 2).map Prod.snd else some r
def witQ (s : Bool) (ins : List InS) (r : List UInt8) : Option (List InS × List UInt8) := if s = true then witsO ins r else some (ins,r)
def finO (b : List UInt8) (t : TxS) (r : List UInt8) : Option TxS := if r.length = 0 ∧ mayS t = true ∧ putS t = b then some t else none
def getO (b : List UInt8) : Option TxS :=
 (numO b 4).bind fun v => (preO v.2).bind fun r => (bodyO r).bind fun p => (witQ (seenB v.2) p.1.1 p.2).bind fun q => (numO q.2 4).bind fun k => finO b ⟨v.1.toUInt32,q.1,p.1.2,k.1.toUInt32⟩ k.2
def zeroT : TxS := ⟨0,[],[],0⟩
def getS (b : List UInt8) : TxS × Nat := if 16384 < b.length then (zeroT,6) else match getO b with
 | some t => (t,0)
 | none => (zeroT,5)
section
variable {b r r1 r2 r3 r4 u : List UInt8} {x k : UInt64} {ins l : List InS} {outs : List OutS} {t : TxS}
theorem gt_big (h : 16384 < b.length) : getS b = (zeroT,6) := by simp [getS,h]
theorem gt_none (h : ¬ 16384 < b.length) (hg : getO b = none) : getS b = (zeroT,5) := by simp [getS,h,hg]
theorem gt_some (h : ¬ 16384 < b.length) (hg : getO b = some t) : getS b = (t,0) := by simp [getS,h,hg]
theorem go_1 (h : numO b 4 = none) : getO b = none := by unfold getO; rw [h]; rfl
theorem go_2 (h : numO b 4 = some (x,r)) (h2 : preO r = none) : getO b = none := by unfold getO; rw [h,Option.bind_some,h2]; rfl
theorem go_3 (h : numO b 4 = some (x,r)) (h2 : preO r = some r1) (h3 : bodyO r1 = none) : getO b = none := by unfold getO; rw [h,Option.bind_some,h2,Option.bind_some,h3]; rfl
theorem go_4 (h : numO b 4 = some (x,r)) (h2 : preO r = some r1) (h3 : bodyO r1 = some ((ins,outs),r2)) (h4 : witQ (seenB r) ins r2 = none) : getO b = none := by
 unfold getO; rw [h,Option.bind_some,h2,Option.bind_some,h3,Option.bind_some,h4]; rfl
theorem go_5 (h : numO b 4 = some (x,r)) (h2 : preO r = some r1) (h3 : bodyO r1 = some ((ins,outs),r2)) (h4 : witQ (seenB r) ins r2 = some (l,r3)) (h5 : numO r3 4 = none) : getO b = none := by
 unfold getO; rw [h,Option.bind_some,h2,Option.bind_some,h3,Option.bind_some,h4,Option.bind_some,h5]; rfl
theorem go_6 (h : numO b 4 = some (x,r)) (h2 : preO r = some r1) (h3 : bodyO r1 = some ((ins,outs),r2)) (h4 : witQ (seenB r) ins r2 = some (l,r3)) (h5 : numO r3 4 = some (k,r4)) : getO b = finO b ⟨x.toUInt32,l,outs,k.toUInt32⟩ r4 := by
 unfold getO; rw [h,Option.bind_some,h2,Option.bind_some,h3,Option.bind_some,h4,Option.bind_some,h5]; rfl
theorem pre_n (h : seenB r = true) (h2 : takeO r 2 = none) : preO r = none := by simp [preO,h,h2]
theorem pre_s (h : seenB r = true) (h2 : takeO r 2 = some (u,r1)) : preO r = some r1 := by simp [preO,h,h2]
theorem pre_0 (h : seenB r = false) : preO r = some r := by simp [preO,h]
theorem wq_t (h : seenB r = true) : witQ (seenB r) ins r1 = witsO ins r1 := by simp [witQ,h]
theorem wq_f (h : seenB r = false) : witQ (seenB r) ins r1 = some (ins,r1) := by simp [witQ,h]
theorem sn_t (h1 : 0 < r.length) (h2 : (r[0]! == 0) = true) : seenB r = true := by unfold seenB; rw [decide_eq_true h1,h2]; rfl
theorem sn_f1 (h1 : ¬ 0 < r.length) : seenB r = false := by unfold seenB; rw [decide_eq_false h1]; rfl
theorem sn_f2 (h2 : ¬ (r[0]! == 0) = true) : seenB r = false := by unfold seenB; rw [Bool.eq_false_iff.2 h2,Bool.and_false]
theorem fin_1 (h : 0 < r.length) : finO b t r = none := if_neg fun hc => by have := hc.1; omega
theorem fin_2 (h : mayS t = false) : finO b t r = none := if_neg fun hc => by have := hc.2.1; rw [h] at this; cases this
theorem fin_3 (h : (!(putS t == b)) = true) : finO b t r = none := if_neg fun hc => by rw [hc.2.2] at h; simp at h
theorem fin_s (h1 : ¬ 0 < r.length) (h2 : mayS t = true) (h3 : (!(putS t == b)) = false) : finO b t r = some t := if_pos ⟨by omega,h2,by simpa using h3⟩
end
theorem wk_inN (x : InS) (h : x.wit = []) : Wk (inN x) (inD x) := by
 unfold inN inD
 rw [h]
 exact .aggL (.cons (.refl _) (.cons (.refl _) (.cons (.refl _) (.cons (.nils none 1) .nil))))
theorem wk_txN {v k : UInt32} {ins : List InS} {outs : List OutS} (h : ∀ x ∈ ins,x.wit = []) : Wk (.agg [.u32 v,.sl none 36 (ins.map inN),.sl none 2 (outs.map outD),.u32 k]) (.agg [.u32 v,.sl none 36 (ins.map inD),.sl none 2 (outs.map outD),.u32 k]) :=
 .aggL (.cons (.refl _) (.cons (.slM fun x hx => wk_inN x (h x hx)) (.cons (.refl _) (.cons (.refl _) .nil))))
theorem wk_zero : Wk (.agg [.u32 0,.nils,.nils,.u32 0]) (txD zeroT) := .aggL (.cons (.refl _) (.cons (.nils none 36) (.cons (.nils none 2) (.cons (.refl _) .nil))))
end Go.Sx

namespace Go.Sx
open Go.Proofs
theorem rwitsN_ok (b : List UInt8) (hb0 : b.length ≤ 100000) (v k : UInt32) (outs : List OutS) (w : List InS) (hw : w = []) : FnO Tryd.prog gl 45 [.ptr 0 0 [],.ptr 1 0 []] [(0,.var (.agg [.sl none 1 (b.map D.u8)])),(1,.var (.agg [.u32 v,.sl (some 56) 36 (([] : List InS).map inN),.sl (some 46) 2 (outs.map outD),.u32 k]))] (((witsO w b).map fun q => (.tup [],[(0,.var (.agg [bytesD q.2])),(1,.var (.agg [.u32 v,.sl none 36 (q.1.map inD),.sl none 2 (outs.map outD),.u32 k]))],[]))) := by
 refine FnO.of (n := 38) (ids := [0,1]) Tryd.func45 rfl rfl rfl (nU rfl) fun C hC hD => ?_
 refine W.seq ?_
 refine W.l0 6 [.y 5 _,.y 6 _,.y 7 _,.y 8 _,.y 9 _,.y 10 _] [] [] [(0,_),(1,_),(9,_),(10,_)] [(0,.var _),(1,.var _)] 38 ⟨mU 1 rfl rfl,aU fun _ _ H K => R.nilcP (K 5 _ rfl) H,aU (fU 6 rfl rfl),aU fun _ B H K => R.ldO (K 7 _ rfl) (B 1 _ rfl) rfl H,aU fun _ B H K => R.lenE (SC.alb (K 8 _ rfl) (B 1 _ rfl) rfl) (List.length_map _) H,aU fun _ _ H _ => R.mov (kI 0 rfl) rfl H,trivial⟩ rfl rfl rfl rfl (tU rfl ?_)
 refine W.block ?_
 refine W.loop (α := {q__ : Unit // True}) (fun q__ => ⟨38,[(0,.ptr 0 0 []),(1,.ptr 1 0 []),(9,.int ((([] : List InS).length : Nat) : Int)),(10,.int ((0 : Nat) : Int))],[(0,.var (.agg [.sl none 1 (b.map D.u8)])),(1,.var (.agg [.u32 v,.sl (some 56) 36 (([] : List InS).map inN),.sl (some 46) 2 (outs.map outD),.u32 k]))]⟩) (fun q__ => 0) ⟨(()),trivial⟩ rfl ?_
 rintro ⟨_,hinv⟩
 show W _ _ _ _ ⟨38,[(0,.ptr 0 0 []),(1,.ptr 1 0 []),(9,.int ((([] : List InS).length : Nat) : Int)),(10,.int ((0 : Nat) : Int))],[(0,.var (.agg [.sl none 1 (b.map D.u8)])),(1,.var (.agg [.u32 v,.sl (some 56) 36 (([] : List InS).map inN),.sl (some 46) 2 (outs.map outD),.u32 k]))]⟩
 refine W.seq ?_
 refine W.l0 1 [.y 11 _] [] [] [(0,_),(1,_),(9,_),(10,_),(11,_)] [(0,.var _),(1,.var _)] 38 ⟨aU fun _ _ H K => R.lssN (0) (([] : List InS).length) (eU K 10 rfl) (eU K 9 rfl) H,trivial⟩ rfl rfl rfl rfl (tU rfl ?_)
 refine W.seq ?_
 refine W.condF rfl (decide_eq_false (Nat.not_lt_zero _)) ?_
 refine W.brwB 1 (d' := .agg [.u32 v,.sl none 36 (([] : List InS).map inD),.sl none 2 (outs.map outD),.u32 k]) (bx' := [(0,.var _),(1,.var _)]) rfl (show (D.agg [.u32 v,.sl (some 56) 36 (([] : List InS).map inN),.sl (some 46) 2 (outs.map outD),.u32 k]).brw = _ from by simp only [D.brw,brws_eq,List.map_cons,List.map_nil]; rw [brw_map brw_outD]) rfl ?_
 refine W.exit ?_
 exact EndsO.some' (r := .tup []) (bx' := [(0,.var (.agg [.sl none 1 (b.map D.u8)])),(1,.var (.agg [.u32 v,.sl none 36 (([] : List InS).map inD),.sl none 2 (outs.map outD),.u32 k]))]) (nw := []) (by rw [hw]; rfl) (EndsB.none' (r := .dead) (.inl rfl) rfl (rfl) ⟨rfl,⟨rfl,trivial⟩⟩)

end Go.Sx

namespace Go.Sx
open Go.Proofs
theorem rwits (b : List UInt8) (hb0 : b.length ≤ 100000) (v k : UInt32) (ins : List InS) (outs : List OutS) (hil : ins.length ≤ 1000000) :
 FnO Tryd.prog gl 45 [.ptr 0 0 [],.ptr 1 0 []] [(0,.var (.agg [.sl none 1 (b.map D.u8)])),(1,.var (.agg [.u32 v,.sl (some 56) 36 (ins.map inN),.sl (some 46) 2 (outs.map outD),.u32 k]))]
  ((witsO ins b).map fun q => (.tup [],[(0,.var (.agg [bytesD q.2])),(1,.var (.agg [.u32 v,.sl none 36 (q.1.map inD),.sl none 2 (outs.map outD),.u32 k]))],[])) := by
 by_cases hne : ins = []
 · subst hne; exact rwitsN_ok b hb0 v k outs [] rfl
 · exact rwits_ok b hb0 v k ins outs hil hne
section
variable {b r r1 r2 r3 r4 u : List UInt8} {x : UInt64} {v k : UInt32} {ins l : List InS} {outs : List OutS}
theorem preO_len (h : preO r = some r1) : r1.length ≤ r.length := by
 unfold preO at h
 split at h
 · cases h2 : takeO r 2 with
   | none => rw [h2] at h; cases h
   | some q =>
    obtain ⟨y,z⟩ := q
    rw [h2] at h; cases h
    have := takeO_len h2
    show z.length ≤ r.length
    omega
 · cases h; exact Nat.le_refl _
theorem witQ_sz {s : Bool} (h : witQ s ins r2 = some (l,r3)) (hb : r2.length ≤ 100000) (hw : ∀ x ∈ ins,x.tx.length = 32 ∧ x.wit = []) : (∀ x ∈ l,x.tx.length = 32) ∧ szI l + r3.length ≤ szI ins + r2.length := by
 unfold witQ at h
 split at h
 · have := witsO_sz h hb hw; exact ⟨this.1,this.2.1⟩
 · cases h; exact ⟨fun x hx => (hw x hx).1,Nat.le_refl _⟩
theorem get_wf (h1 : r.length ≤ 100000) (h2 : preO r = some r1) (h3 : bodyO r1 = some ((ins,outs),r2)) (h4 : witQ (seenB r) ins r2 = some (l,r3)) : (⟨v,l,outs,k⟩ : TxS).wf := by
 have a1 := preO_len h2
 have a2 := bodyO_sz h3 (by omega)
 have a3 := witQ_sz h4 (by omega) a2.1
 exact wf_of_sz (by show szI l + szO outs ≤ 100000; omega) a3.1
end
end Go.Sx
