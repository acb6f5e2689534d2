/-
 Own library: arguments that a statement's form reads as data,as D; a contract from what a function computes.
-/
import Derived.Test.YtdjoepmmffghhaaDoorMSxBldO
import Derived.Test.YtdjoepmmffghhaaDoorMTx22
import Derived.Test.YtdjoepmmffghhaaDoorMSxOwn
import Derived.OpenShut
import Derived.Carry
import Derived.Deep.Slices
import Derived.Deep.DeepHandedRow
import Derived.Lib.LaidTab
set_option linter.unusedVariables false
set_option linter.unusedSimpArgs false
set_option linter.unnecessarySimpa false

namespace Go.Sx
open Go.Proofs
set_option maxHeartbeats 2000000 in
theorem rget_ok (b : List UInt8) (hb0 : b.length ≤ 100000) : Fn Tryd.prog gl 24 [.sl none 1 (b.map D.u8)] (.tup [txD (getS b).1,.int (((getS b).2 : Nat) : Int)]) := by
 refine Fn.of (n := 114) Tryd.func24 rfl rfl rfl (nU rfl) fun C hC hD => ?_
 refine W.seq ?_
 refine W.l0 2 [] [] [] [(0,_)] [] 114 trivial rfl rfl rfl rfl (⟨rfl,_,R.alloc rfl (nU rfl),⟨rfl,_,R.asg (kI 0 rfl) rfl (nU rfl),tV [(0,_),(2,_)] [(2,.var _)] 114 rfl rfl rfl ?_⟩⟩)
 refine W.seq ?_
 refine W.seq ?_
 refine W.l0 3 [.y 11 _,.y 12 _,.y 13 _] [] [] [(0,_),(2,_),(13,_)] [(2,.var _)] 114 ⟨mU 0 rfl rfl,aU fun _ _ H K => R.lenE (SC.sl (K 11 _ rfl)) (List.length_map _) H,aU fun _ _ H K => R.gtrN (b.length) (16384) (eU K 12 rfl) (kI 16384 rfl) H,trivial⟩ rfl rfl rfl rfl (tU rfl ?_)
 refine W.condD rfl (fun hc13 => ?_) (fun hc13 => ?_)
 · refine W.seq ?_
   refine W.l0 3 [.y 14 _] [] [] [(2,_),(14,_)] [(2,.var _)] 114 ⟨aU fun _ _ H _ => R.bldSE (l := [.u32 0,.nils,.nils,.u32 0]) (l' := [_,_,_,_]) (.nil rfl) trivial H,trivial⟩ rfl rfl rfl rfl (⟨rfl,_,R.stZ (gU 2 rfl) (xU 2 rfl) rfl (gV 14 rfl) (by rfl) (by rfl) (by rfl) (by rfl) rfl,⟨rfl,_,R.asg (kI 6 rfl) rfl (nU rfl),tV [(2,_),(3,_)] [(2,.var _)] 114 rfl rfl rfl ?_⟩⟩)
   refine W.wkB 2 (d' := txD zeroT) (bx' := [(2,.var _)]) rfl wk_zero rfl ?_
   refine W.ret ?_
   exact Ends.many (.inr rfl) (.cons rfl rfl rfl (show LdT _ 26 4 true from inferInstance) (.cons rfl rfl rfl trivial .nil)) (by rw [gt_big hc13]) (show [(2,false),(3,true)].Nodup by decide)
 · refine W.skip ?_
   refine W.seq ?_
   refine W.l0 4 [.y 15 _,.y 16 _] [] [] [(0,_),(2,_),(16,_)] [(2,.var _)] 114 ⟨mU 0 rfl rfl,aU fun _ _ H K => R.bldSE (l := [.nils,.bool false]) (l' := [_,_]) (.cons (eU K 15 rfl) (.nil rfl)) ⟨⟨_,(eU K 15 rfl),rfl,rfl,rfl⟩,trivial⟩ H,trivial⟩ rfl rfl rfl rfl (⟨rfl,_,R.box (gV 16 rfl) rfl rfl (nU rfl),⟨rfl,_,R.asg (gV 17 rfl) rfl (nU rfl),tV [(0,_),(2,_),(4,_)] [(17,.var _),(2,.var _)] 114 rfl rfl rfl ?_⟩⟩)
   refine W.seq ?_
   obtain ⟨x,r,e,hE⟩ : ∃ a_ b_ c_,numQ b false 4 = (a_,b_,c_) := ⟨_,_,_,rfl⟩
   have hr := numQ_len hE
   refine W.l0 6 [.y 18 _] [] [] [(0,_),(2,_),(4,_),(18,_)] [(17,.var _),(2,.var _)] 114 ⟨mU 4 rfl rfl,trivial⟩ rfl rfl rfl rfl (⟨rfl,_,R.callB [(0,17)] hC (show FnB Tryd.prog gl 47 [.ptr 0 0 [],.int ((4 : Nat) : Int)] [(0,.var (.agg [.sl none 1 (b.map D.u8),.bool false]))] (.u64 x) [(0,.var (.agg [.sl none 1 (r.map D.u8),.bool e]))] [] from by have h := qnumber_ok b false (by omega) 4 (by decide); rw [hE] at h; exact h) (EvB.cons (gV 18 rfl) rfl rfl rfl (EvB.cons (kI 4 rfl) rfl rfl rfl EvB.nil)) rfl ⟨rfl,trivial⟩ ⟨rfl,trivial⟩ rfl rfl rfl rfl rfl rfl (nU rfl),⟨rfl,_,R.convE (d := .u32 x.toUInt32) (gV 19 rfl) rfl (rfl) (nU rfl),⟨rfl,_,R.bldSE (l := [.u32 0,.nils,.nils,.u32 0]) (l' := [_,_,_,_]) (.cons (gV 20 rfl) (.nil rfl)) ⟨⟨_,(gV 20 rfl),rfl,rfl,rfl⟩,trivial⟩ (nU rfl),⟨rfl,_,R.alloc rfl (nU rfl),⟨rfl,_,R.stZ (gU 5 rfl) (xU 5 rfl) rfl (gV 21 rfl) (by rfl) (by rfl) (by rfl) (by rfl) rfl,tV [(0,_),(2,_),(4,_),(5,_)] [(5,.var _),(17,.var _),(2,.var _)] 114 rfl rfl rfl ?_⟩⟩⟩⟩⟩)
   refine W.tailS 4 (fun s__ => ∃ q__ : {q__ : List InS × List OutS × List UInt8 × Bool // GP x r e q__.1 q__.2.1 q__.2.2.1 q__.2.2.2},s__ = ⟨114,[(0,.sl none 1 (b.map D.u8)),(2,.ptr 2 0 []),(4,.ptr 17 0 []),(5,.ptr 5 0 [])],[(5,.var (.agg [.u32 x.toUInt32,.sl none 36 (q__.1.1.map inD),.sl none 2 (q__.1.2.1.map outD),.u32 0])),(17,.var (.agg [.sl none 1 (q__.1.2.2.1.map D.u8),.bool q__.1.2.2.2])),(2,.var (.agg [.u32 0,.nils,.nils,.u32 0]))]⟩) ?_ ?_
   · rintro s__ ⟨⟨⟨l,outs,r3,e3⟩,hGP⟩,rfl⟩
     have hGP : GP x r e l outs r3 e3 := hGP
     have hrb := hGP.len
     show W _ _ _ _ ⟨_,[(0,_),(2,_),(4,_),(5,_)],[(5,.var (.agg [.u32 x.toUInt32,.sl none 36 (l.map inD),.sl none 2 (outs.map outD),.u32 0])),(17,.var (.agg [.sl none 1 (r3.map D.u8),.bool e3])),(2,_)]⟩
     refine W.seq ?_
     obtain ⟨k,r4,e4,hE5⟩ : ∃ a_ b_ c_,numQ r3 e3 4 = (a_,b_,c_) := ⟨_,_,_,rfl⟩
     refine W.l0 5 [.y 83 _] [] [] [(0,_),(2,_),(4,_),(5,_),(83,_)] [(5,.var _),(17,.var _),(2,.var _)] 114 ⟨mU 4 rfl rfl,trivial⟩ rfl rfl rfl rfl (⟨rfl,_,R.callB [(0,17)] hC (show FnB Tryd.prog gl 47 [.ptr 0 0 [],.int ((4 : Nat) : Int)] [(0,.var (.agg [.sl none 1 (r3.map D.u8),.bool e3]))] (.u64 k) [(0,.var (.agg [.sl none 1 (r4.map D.u8),.bool e4]))] [] from by have h := qnumber_ok r3 e3 (by omega) 4 (by decide); rw [hE5] at h; exact h) (EvB.cons (gV 83 rfl) rfl rfl rfl (EvB.cons (kI 4 rfl) rfl rfl rfl EvB.nil)) rfl ⟨rfl,trivial⟩ ⟨rfl,trivial⟩ rfl rfl rfl rfl rfl rfl (nU rfl),⟨rfl,_,R.conv (gV 84 rfl) rfl (nU rfl),⟨rfl,_,R.fdP (gU 5 rfl) (nU rfl),⟨rfl,_,R.stZ (gU 86 rfl) (xU 5 rfl) rfl (gV 85 rfl) (by rfl) (by rfl) (by rfl) (by rfl) rfl,tV [(0,_),(2,_),(4,_),(5,_)] [(5,.var _),(17,.var _),(2,.var _)] 114 rfl rfl rfl ?_⟩⟩⟩⟩)
     refine W.seq ?_
     refine W.seq ?_
     by_cases hb4 : e4 = true
     · obtain ⟨r1,e1,ins,r2,e2,hG⟩ := hGP.to hE hE5
       have hwf : e4 = false → ((⟨x.toUInt32,l,outs,k.toUInt32⟩ : TxS)).wf := fun h => hG.wf h (by omega)
       refine W.draw (m := 25) (an := (0 :: 1 :: 3 :: 7 :: 15 :: 31 :: 63 :: 127 :: 255 :: 511 :: 1023 :: 2047 :: 4095 :: 8191 :: 16383 :: 32767 :: 65535 :: 131071 :: 262143 :: 524287 :: 1048575 :: 262143 :: 2359295 :: 8388607 :: 16777215 :: [])) hP (by decide) rfl (its := (.y 87 _ :: .y 88 _ :: .y 89 _ :: .y 90 _ :: .y 91 _ :: .x 92 :: .x 93 :: .x 94 :: .x 95 :: .x 96 :: .x 97 :: .y 98 _ :: .y 99 _ :: .x 100 :: .x 101 :: .x 102 :: .y 103 _ :: .y 104 _ :: .x 105 :: .x 106 :: .x 107 :: .x 108 :: .x 109 :: .x 110 :: .y 111 _ :: [])) (ks := []) (kk := []) (live := [2,5,111]) (env' := [(2,_),(5,_),(111,_)]) (⟨nU rfl,rfl,⟨mU 4 rfl rfl,aU fun _ _ H K => R.nilcP (K 87 _ rfl) H,aU (fU 88 rfl rfl),aU (lU 89 rfl rfl rfl rfl rfl rfl rfl),mU 90 rfl rfl,aF rfl rfl (gT (hb4) rfl),aF rfl rfl (gT (hb4) rfl),aF rfl rfl (gT (hb4) rfl),aF rfl rfl (gT (hb4) rfl),aF rfl rfl (gT (hb4) rfl),aF rfl rfl (gT (hb4) rfl),aU fun _ _ H K => R.pickT (eU K 91 rfl) (hb4) (kB true rfl) rfl H,mU 98 rfl rfl,aF rfl rfl (gT (rfl) rfl),aF rfl rfl (gT (rfl) rfl),aF rfl rfl (gT (rfl) rfl),aU fun _ _ H K => R.pickT (eU K 99 rfl) (rfl) (kB true rfl) rfl H,mU 103 rfl rfl,aF rfl rfl (gT (rfl) rfl),aF rfl rfl (gT (rfl) rfl),aF rfl rfl (gT (rfl) rfl),aF rfl rfl (gT (rfl) rfl),aF rfl rfl (gT (rfl) rfl),aF rfl rfl (gT (rfl) rfl),aU fun _ _ H K => R.pickT (eU K 104 rfl) (rfl) (kB true rfl) rfl H,trivial⟩,rfl,rfl,rfl⟩) rfl (bx' := [(5,.var _),(17,.var _),(2,.var _)]) rfl (n' := 114) rfl (tV [(2,_),(5,_),(111,_)] [(5,.var _),(17,.var _),(2,.var _)] 114 rfl rfl rfl ?_)
       refine W.condT rfl (rfl) ?_
       refine W.seq ?_
       refine W.l0 3 [.y 112 _] [] [] [(2,_),(112,_)] [(5,.var _),(17,.var _),(2,.var _)] 114 ⟨aU fun _ _ H _ => R.bldSE (l := [.u32 0,.nils,.nils,.u32 0]) (l' := [_,_,_,_]) (.nil rfl) trivial H,trivial⟩ rfl rfl rfl rfl (⟨rfl,_,R.stZ (gU 2 rfl) (xU 2 rfl) rfl (gV 112 rfl) (by rfl) (by rfl) (by rfl) (by rfl) rfl,⟨rfl,_,R.asg (kI 5 rfl) rfl (nU rfl),tV [(2,_),(3,_)] [(5,.var _),(17,.var _),(2,.var _)] 114 rfl rfl rfl ?_⟩⟩)
       refine W.wkB 2 (d' := txD zeroT) (bx' := [(5,.var _),(17,.var _),(2,.var _)]) rfl wk_zero rfl ?_
       refine W.ret ?_
       exact Ends.many (.inr rfl) (.cons rfl rfl rfl (show LdT _ 26 4 true from inferInstance) (.cons rfl rfl rfl trivial .nil)) (by rw [gt_none hc13 (hG.bad hb4)]) (show [(2,false),(3,true)].Nodup by decide)
     · by_cases d1 : 0 < r4.length
       · obtain ⟨r1,e1,ins,r2,e2,hG⟩ := hGP.to hE hE5
         have hwf : e4 = false → ((⟨x.toUInt32,l,outs,k.toUInt32⟩ : TxS)).wf := fun h => hG.wf h (by omega)
         refine W.draw (m := 25) (an := (0 :: 1 :: 3 :: 7 :: 15 :: 31 :: 63 :: 127 :: 255 :: 511 :: 1023 :: 2047 :: 4095 :: 8191 :: 16383 :: 32767 :: 65535 :: 131071 :: 262143 :: 524287 :: 1048575 :: 262143 :: 2359295 :: 8388607 :: 16777215 :: [])) hP (by decide) rfl (its := (.y 87 _ :: .y 88 _ :: .y 89 _ :: .y 90 _ :: .y 91 _ :: .y 92 _ :: .y 93 _ :: .y 94 _ :: .y 95 _ :: .y 96 _ :: .y 97 _ :: .y 98 _ :: .y 99 _ :: .x 100 :: .x 101 :: .x 102 :: .y 103 _ :: .y 104 _ :: .x 105 :: .x 106 :: .x 107 :: .x 108 :: .x 109 :: .x 110 :: .y 111 _ :: [])) (ks := []) (kk := []) (live := [2,5,111]) (env' := [(2,_),(5,_),(111,_)]) (⟨nU rfl,rfl,⟨mU 4 rfl rfl,aU fun _ _ H K => R.nilcP (K 87 _ rfl) H,aU (fU 88 rfl rfl),aU (lU 89 rfl rfl rfl rfl rfl rfl rfl),mU 90 rfl rfl,aW rfl rfl (gF (by simpa using hb4) rfl) fun _ _ H K => R.mov (eU K 4 rfl) rfl H,aW rfl rfl (gF (by simpa using hb4) rfl) fun _ _ H K => R.nilcP (K 92 _ rfl) H,aW rfl rfl (gF (by simpa using hb4) rfl) (fU 93 rfl rfl),aW rfl rfl (gF (by simpa using hb4) rfl) (lU 94 rfl rfl rfl rfl rfl rfl rfl),aW rfl rfl (gF (by simpa using hb4) rfl) fun _ _ H K => R.lenE (SC.sl (K 95 _ rfl)) (List.length_map _) H,aW rfl rfl (gF (by simpa using hb4) rfl) fun _ _ H K => R.gtrN (r4.length) (0) (eU K 96 rfl) (kI 0 rfl) H,aU fun _ _ H K => R.pickF (eU K 91 rfl) (by simpa using hb4) (eU K 97 rfl) rfl H,mU 98 rfl rfl,aF rfl rfl (gT (decide_eq_true d1) rfl),aF rfl rfl (gT (decide_eq_true d1) rfl),aF rfl rfl (gT (decide_eq_true d1) rfl),aU fun _ _ H K => R.pickT (eU K 99 rfl) (decide_eq_true d1) (kB true rfl) rfl H,mU 103 rfl rfl,aF rfl rfl (gT (rfl) rfl),aF rfl rfl (gT (rfl) rfl),aF rfl rfl (gT (rfl) rfl),aF rfl rfl (gT (rfl) rfl),aF rfl rfl (gT (rfl) rfl),aF rfl rfl (gT (rfl) rfl),aU fun _ _ H K => R.pickT (eU K 104 rfl) (rfl) (kB true rfl) rfl H,trivial⟩,rfl,rfl,rfl⟩) rfl (bx' := [(5,.var _),(17,.var _),(2,.var _)]) rfl (n' := 114) rfl (tV [(2,_),(5,_),(111,_)] [(5,.var _),(17,.var _),(2,.var _)] 114 rfl rfl rfl ?_)
         refine W.condT rfl (rfl) ?_
         refine W.seq ?_
         refine W.l0 3 [.y 112 _] [] [] [(2,_),(112,_)] [(5,.var _),(17,.var _),(2,.var _)] 114 ⟨aU fun _ _ H _ => R.bldSE (l := [.u32 0,.nils,.nils,.u32 0]) (l' := [_,_,_,_]) (.nil rfl) trivial H,trivial⟩ rfl rfl rfl rfl (⟨rfl,_,R.stZ (gU 2 rfl) (xU 2 rfl) rfl (gV 112 rfl) (by rfl) (by rfl) (by rfl) (by rfl) rfl,⟨rfl,_,R.asg (kI 5 rfl) rfl (nU rfl),tV [(2,_),(3,_)] [(5,.var _),(17,.var _),(2,.var _)] 114 rfl rfl rfl ?_⟩⟩)
         refine W.wkB 2 (d' := txD zeroT) (bx' := [(5,.var _),(17,.var _),(2,.var _)]) rfl wk_zero rfl ?_
         refine W.ret ?_
         exact Ends.many (.inr rfl) (.cons rfl rfl rfl (show LdT _ 26 4 true from inferInstance) (.cons rfl rfl rfl trivial .nil)) (by rw [gt_none hc13 (by rw [hG.fin (by simpa using hb4)]; exact fin_1 d1)]) (show [(2,false),(3,true)].Nodup by decide)
       · by_cases d2 : mayS (⟨x.toUInt32,l,outs,k.toUInt32⟩ : TxS) = false
         · obtain ⟨r1,e1,ins,r2,e2,hG⟩ := hGP.to hE hE5
           have hwf : e4 = false → ((⟨x.toUInt32,l,outs,k.toUInt32⟩ : TxS)).wf := fun h => hG.wf h (by omega)
           refine W.draw (m := 25) (an := (0 :: 1 :: 3 :: 7 :: 15 :: 31 :: 63 :: 127 :: 255 :: 511 :: 1023 :: 2047 :: 4095 :: 8191 :: 16383 :: 32767 :: 65535 :: 131071 :: 262143 :: 524287 :: 1048575 :: 262143 :: 2359295 :: 8388607 :: 16777215 :: [])) hP (by decide) rfl (its := (.y 87 _ :: .y 88 _ :: .y 89 _ :: .y 90 _ :: .y 91 _ :: .y 92 _ :: .y 93 _ :: .y 94 _ :: .y 95 _ :: .y 96 _ :: .y 97 _ :: .y 98 _ :: .y 99 _ :: .y 100 _ :: .y 101 _ :: .y 102 _ :: .y 103 _ :: .y 104 _ :: .x 105 :: .x 106 :: .x 107 :: .x 108 :: .x 109 :: .x 110 :: .y 111 _ :: [])) (ks := []) (kk := []) (live := [2,5,111]) (env' := [(2,_),(5,_),(111,_)]) (⟨nU rfl,rfl,⟨mU 4 rfl rfl,aU fun _ _ H K => R.nilcP (K 87 _ rfl) H,aU (fU 88 rfl rfl),aU (lU 89 rfl rfl rfl rfl rfl rfl rfl),mU 90 rfl rfl,aW rfl rfl (gF (by simpa using hb4) rfl) fun _ _ H K => R.mov (eU K 4 rfl) rfl H,aW rfl rfl (gF (by simpa using hb4) rfl) fun _ _ H K => R.nilcP (K 92 _ rfl) H,aW rfl rfl (gF (by simpa using hb4) rfl) (fU 93 rfl rfl),aW rfl rfl (gF (by simpa using hb4) rfl) (lU 94 rfl rfl rfl rfl rfl rfl rfl),aW rfl rfl (gF (by simpa using hb4) rfl) fun _ _ H K => R.lenE (SC.sl (K 95 _ rfl)) (List.length_map _) H,aW rfl rfl (gF (by simpa using hb4) rfl) fun _ _ H K => R.gtrN (r4.length) (0) (eU K 96 rfl) (kI 0 rfl) H,aU fun _ _ H K => R.pickF (eU K 91 rfl) (by simpa using hb4) (eU K 97 rfl) rfl H,mU 98 rfl rfl,aW rfl rfl (gF (decide_eq_false d1) rfl) (lU 5 rfl rfl rfl rfl rfl rfl rfl),aW rfl rfl (gF (decide_eq_false d1) rfl) fun _ _ H K => R.callG hC (rmay_ok (⟨x.toUInt32,l,outs,k.toUInt32⟩ : TxS) (hwf (by simpa using hb4))) (Bors.cons (Bor.pur (eU K 100 rfl) rfl rfl) Bors.nil) (FrsR.one (.bool _)) H,aW rfl rfl (gF (decide_eq_false d1) rfl) fun _ _ H K => R.un (eU K 101 rfl) rfl H,aU fun _ _ H K => R.pickF (eU K 99 rfl) (decide_eq_false d1) (eU K 102 rfl) rfl H,mU 103 rfl rfl,aF rfl rfl (gT (by rw [d2]; rfl) rfl),aF rfl rfl (gT (by rw [d2]; rfl) rfl),aF rfl rfl (gT (by rw [d2]; rfl) rfl),aF rfl rfl (gT (by rw [d2]; rfl) rfl),aF rfl rfl (gT (by rw [d2]; rfl) rfl),aF rfl rfl (gT (by rw [d2]; rfl) rfl),aU fun _ _ H K => R.pickT (eU K 104 rfl) (by rw [d2]; rfl) (kB true rfl) rfl H,trivial⟩,rfl,rfl,rfl⟩) rfl (bx' := [(5,.var _),(17,.var _),(2,.var _)]) rfl (n' := 114) rfl (tV [(2,_),(5,_),(111,_)] [(5,.var _),(17,.var _),(2,.var _)] 114 rfl rfl rfl ?_)
           refine W.condT rfl (rfl) ?_
           refine W.seq ?_
           refine W.l0 3 [.y 112 _] [] [] [(2,_),(112,_)] [(5,.var _),(17,.var _),(2,.var _)] 114 ⟨aU fun _ _ H _ => R.bldSE (l := [.u32 0,.nils,.nils,.u32 0]) (l' := [_,_,_,_]) (.nil rfl) trivial H,trivial⟩ rfl rfl rfl rfl (⟨rfl,_,R.stZ (gU 2 rfl) (xU 2 rfl) rfl (gV 112 rfl) (by rfl) (by rfl) (by rfl) (by rfl) rfl,⟨rfl,_,R.asg (kI 5 rfl) rfl (nU rfl),tV [(2,_),(3,_)] [(5,.var _),(17,.var _),(2,.var _)] 114 rfl rfl rfl ?_⟩⟩)
           refine W.wkB 2 (d' := txD zeroT) (bx' := [(5,.var _),(17,.var _),(2,.var _)]) rfl wk_zero rfl ?_
           refine W.ret ?_
           exact Ends.many (.inr rfl) (.cons rfl rfl rfl (show LdT _ 26 4 true from inferInstance) (.cons rfl rfl rfl trivial .nil)) (by rw [gt_none hc13 (by rw [hG.fin (by simpa using hb4)]; exact fin_2 d2)]) (show [(2,false),(3,true)].Nodup by decide)
         · obtain ⟨r1,e1,ins,r2,e2,hG⟩ := hGP.to hE hE5
           have hwf : e4 = false → ((⟨x.toUInt32,l,outs,k.toUInt32⟩ : TxS)).wf := fun h => hG.wf h (by omega)
           refine W.draw (m := 25) (an := (0 :: 1 :: 3 :: 7 :: 15 :: 31 :: 63 :: 127 :: 255 :: 511 :: 1023 :: 2047 :: 4095 :: 8191 :: 16383 :: 32767 :: 65535 :: 131071 :: 262143 :: 524287 :: 1048575 :: 262143 :: 2359295 :: 8388607 :: 16777215 :: [])) hP (by decide) rfl (its := (.y 87 _ :: .y 88 _ :: .y 89 _ :: .y 90 _ :: .y 91 _ :: .y 92 _ :: .y 93 _ :: .y 94 _ :: .y 95 _ :: .y 96 _ :: .y 97 _ :: .y 98 _ :: .y 99 _ :: .y 100 _ :: .y 101 _ :: .y 102 _ :: .y 103 _ :: .y 104 _ :: .y 105 _ :: .y 106 _ :: .y 107 _ :: .y 108 _ :: .y 109 _ :: .y 110 _ :: .y 111 _ :: [])) (ks := []) (kk := []) (live := [2,5,111]) (env' := [(2,_),(5,_),(111,_)]) (⟨nU rfl,rfl,⟨mU 4 rfl rfl,aU fun _ _ H K => R.nilcP (K 87 _ rfl) H,aU (fU 88 rfl rfl),aU (lU 89 rfl rfl rfl rfl rfl rfl rfl),mU 90 rfl rfl,aW rfl rfl (gF (by simpa using hb4) rfl) fun _ _ H K => R.mov (eU K 4 rfl) rfl H,aW rfl rfl (gF (by simpa using hb4) rfl) fun _ _ H K => R.nilcP (K 92 _ rfl) H,aW rfl rfl (gF (by simpa using hb4) rfl) (fU 93 rfl rfl),aW rfl rfl (gF (by simpa using hb4) rfl) (lU 94 rfl rfl rfl rfl rfl rfl rfl),aW rfl rfl (gF (by simpa using hb4) rfl) fun _ _ H K => R.lenE (SC.sl (K 95 _ rfl)) (List.length_map _) H,aW rfl rfl (gF (by simpa using hb4) rfl) fun _ _ H K => R.gtrN (r4.length) (0) (eU K 96 rfl) (kI 0 rfl) H,aU fun _ _ H K => R.pickF (eU K 91 rfl) (by simpa using hb4) (eU K 97 rfl) rfl H,mU 98 rfl rfl,aW rfl rfl (gF (decide_eq_false d1) rfl) (lU 5 rfl rfl rfl rfl rfl rfl rfl),aW rfl rfl (gF (decide_eq_false d1) rfl) fun _ _ H K => R.callG hC (rmay_ok (⟨x.toUInt32,l,outs,k.toUInt32⟩ : TxS) (hwf (by simpa using hb4))) (Bors.cons (Bor.pur (eU K 100 rfl) rfl rfl) Bors.nil) (FrsR.one (.bool _)) H,aW rfl rfl (gF (decide_eq_false d1) rfl) fun _ _ H K => R.un (eU K 101 rfl) rfl H,aU fun _ _ H K => R.pickF (eU K 99 rfl) (decide_eq_false d1) (eU K 102 rfl) rfl H,mU 103 rfl rfl,aW rfl rfl (gF (by simpa using d2) rfl) (lU 5 rfl rfl rfl rfl rfl rfl rfl),aW rfl rfl (gF (by simpa using d2) rfl) fun _ _ H K => R.callG hC (rput_ok (⟨x.toUInt32,l,outs,k.toUInt32⟩ : TxS) (hwf (by simpa using hb4))) (Bors.cons (Bor.pur (eU K 105 rfl) rfl rfl) Bors.nil) (FrsR.one (.sl _ _ _ (frs_map fun _ => .u8 _))) H,aW rfl rfl (gF (by simpa using d2) rfl) fun _ _ H K => R.cvS (xs := (putS (⟨x.toUInt32,l,outs,k.toUInt32⟩ : TxS))) (SC.sl (K 106 _ rfl)) H,aW rfl rfl (gF (by simpa using d2) rfl) fun _ _ H K => R.mov (eU K 0 rfl) rfl H,aW rfl rfl (gF (by simpa using d2) rfl) fun _ _ H K => R.cvS (xs := b) (SC.sl (K 108 _ rfl)) H,aW rfl rfl (gF (by simpa using d2) rfl) fun _ _ H K => R.bin (eU K 107 rfl) (eU K 109 rfl) rfl trivial H,aU fun _ _ H K => R.pickF (eU K 104 rfl) (by simpa using d2) (eU K 110 rfl) rfl H,trivial⟩,rfl,rfl,rfl⟩) rfl (bx' := [(5,.var _),(17,.var _),(2,.var _)]) rfl (n' := 114) rfl (tV [(2,_),(5,_),(111,_)] [(5,.var _),(17,.var _),(2,.var _)] 114 rfl rfl rfl ?_)
           refine W.cond rfl (fun hc111 => ?_) (fun hc111 => ?_)
           · refine W.seq ?_
             refine W.l0 3 [.y 112 _] [] [] [(2,_),(112,_)] [(5,.var _),(17,.var _),(2,.var _)] 114 ⟨aU fun _ _ H _ => R.bldSE (l := [.u32 0,.nils,.nils,.u32 0]) (l' := [_,_,_,_]) (.nil rfl) trivial H,trivial⟩ rfl rfl rfl rfl (⟨rfl,_,R.stZ (gU 2 rfl) (xU 2 rfl) rfl (gV 112 rfl) (by rfl) (by rfl) (by rfl) (by rfl) rfl,⟨rfl,_,R.asg (kI 5 rfl) rfl (nU rfl),tV [(2,_),(3,_)] [(5,.var _),(17,.var _),(2,.var _)] 114 rfl rfl rfl ?_⟩⟩)
             refine W.wkB 2 (d' := txD zeroT) (bx' := [(5,.var _),(17,.var _),(2,.var _)]) rfl wk_zero rfl ?_
             refine W.ret ?_
             exact Ends.many (.inr rfl) (.cons rfl rfl rfl (show LdT _ 26 4 true from inferInstance) (.cons rfl rfl rfl trivial .nil)) (by rw [gt_none hc13 (by rw [hG.fin (by simpa using hb4)]; exact fin_3 hc111)]) (show [(2,false),(3,true)].Nodup by decide)
           · refine W.skip ?_
             refine W.seq ?_
             refine W.l0 3 [.y 113 _] [] [] [(2,_),(113,_)] [(5,.var _),(17,.var _),(2,.var _)] 114 ⟨aU (lU 5 rfl rfl rfl rfl rfl rfl rfl),trivial⟩ rfl rfl rfl rfl (⟨rfl,_,R.stZ (gU 2 rfl) (xU 2 rfl) rfl (gV 113 rfl) (by rfl) (by rfl) (by rfl) (by rfl) rfl,⟨rfl,_,R.asg (kI 0 rfl) rfl (nU rfl),tV [(2,_),(3,_)] [(5,.var _),(17,.var _),(2,.var _)] 114 rfl rfl rfl ?_⟩⟩)
             refine W.ret ?_
             exact Ends.many (.inr rfl) (.cons rfl rfl rfl (show LdT _ 26 4 true from inferInstance) (.cons rfl rfl rfl trivial .nil)) (by rw [gt_some hc13 (by rw [hG.fin (by simpa using hb4)]; exact fin_s d1 (by simpa using d2) hc111)] <;> rfl) (show [(2,false),(3,true)].Nodup by decide)
   · intro htail
     refine W.seq ?_
     by_cases hs1 : 0 < r.length
     · by_cases hs2 : (r[0]! == 0) = true
       · refine W.l0 16 [.y 22 _,.y 23 _,.y 24 _,.y 25 _,.y 26 _,.y 27 _,.y 28 _,.y 29 _,.y 30 _,.y 31 _,.y 32 _,.y 33 _,.y 34 _,.y 35 _,.y 36 _,.y 6 _] [] [] [(0,_),(2,_),(4,_),(5,_),(6,_)] [(5,.var _),(17,.var _),(2,.var _)] 114 ⟨mU 4 rfl rfl,aU fun _ _ H K => R.nilcP (K 22 _ rfl) H,aU (fU 23 rfl rfl),aU (lU 24 rfl rfl rfl rfl rfl rfl rfl),aU fun _ _ H K => R.lenE (SC.sl (K 25 _ rfl)) (List.length_map _) H,aU fun _ _ H K => R.gtrN (r.length) (0) (eU K 26 rfl) (kI 0 rfl) H,mU 27 rfl rfl,aW rfl rfl (gT (decide_eq_true hs1) rfl) fun _ _ H K => R.mov (eU K 4 rfl) rfl H,aW rfl rfl (gT (decide_eq_true hs1) rfl) fun _ _ H K => R.nilcP (K 29 _ rfl) H,aW rfl rfl (gT (decide_eq_true hs1) rfl) (fU 30 rfl rfl),aW rfl rfl (gT (decide_eq_true hs1) rfl) (lU 31 rfl rfl rfl rfl rfl rfl rfl),aW rfl rfl (gT (decide_eq_true hs1) rfl) fun _ _ H K => R.idxN (0) (SC.sl (K 32 _ rfl)) (evoI (kI 0 rfl)) rfl bU H (by decide),aW rfl rfl (gT (decide_eq_true hs1) rfl) fun _ _ H K => R.ldE (K 33 _ rfl) (SC.sl (K 32 _ rfl)) (map_get! (l := r) bU) rfl rfl rfl rfl H,aW rfl rfl (gT (decide_eq_true hs1) rfl) fun _ _ H K => R.bin (eU K 34 rfl) (show ev _ _ (.const (.int .u8 0)) = some (.u8 0) from rfl) rfl trivial H,aU fun _ _ H K => R.pickT (eU K 28 rfl) (decide_eq_true hs1) (eU K 35 rfl) rfl H,aU fun _ _ H K => R.asg (eU K 36 rfl) rfl H,trivial⟩ rfl rfl rfl rfl (tU rfl ?_)
         refine W.seq ?_
         refine W.seq ?_
         refine W.l0 1 [.y 37 _] [] [] [(0,_),(2,_),(4,_),(5,_),(6,_),(37,_)] [(5,.var _),(17,.var _),(2,.var _)] 114 ⟨mU 6 rfl rfl,trivial⟩ rfl rfl rfl rfl (tU rfl ?_)
         refine W.condT rfl (hs2) ?_
         obtain ⟨u,r1,e1,hE2⟩ : ∃ a_ b_ c_,takeB r e 2 = (a_,b_,c_) := ⟨_,_,_,rfl⟩
         have hE2l := takeB_len r e 2
         rw [hE2] at hE2l
         simp only [] at hE2l
         refine W.l0 2 [.y 38 _] [] [] [(0,_),(2,_),(4,_),(5,_),(6,_),(38,_)] [(5,.var _),(17,.var _),(2,.var _)] 114 ⟨mU 4 rfl rfl,trivial⟩ rfl rfl rfl rfl (⟨rfl,_,R.callB [(0,17)] hC (show FnB Tryd.prog gl 48 [.ptr 0 0 [],.int ((2 : Nat) : Int)] [(0,.var (.agg [.sl none 1 (r.map D.u8),.bool e]))] (.sl none 1 (u.map D.u8)) [(0,.var (.agg [.sl none 1 (r1.map D.u8),.bool e1]))] [] from by have h := qtake_ok r e (by omega) 2 (by omega); rw [hE2] at h; exact h) (EvB.cons (gV 38 rfl) rfl rfl rfl (EvB.cons (kI 2 rfl) rfl rfl rfl EvB.nil)) rfl ⟨rfl,trivial⟩ ⟨rfl,trivial⟩ rfl rfl rfl rfl rfl rfl (nU rfl),tV [(0,_),(2,_),(4,_),(5,_),(6,_)] [(5,.var _),(17,.var _),(2,.var _)] 114 rfl rfl rfl ?_⟩)
         refine W.seq ?_
         obtain ⟨⟨ins,outs⟩,r2,e2,hE3⟩ : ∃ p_ r_ e_,bodyQ r1 e1 = (p_,r_,e_) := ⟨_,_,_,rfl⟩
         have hbs := bodyQ_len (by omega) hE3
         refine W.l0 4 [.y 40 _,.y 41 _] [] [] [(0,_),(2,_),(4,_),(5,_),(6,_),(40,_),(41,_)] [(5,.var _),(17,.var _),(2,.var _)] 114 ⟨mU 4 rfl rfl,aU (lU 5 rfl rfl rfl rfl rfl rfl rfl),trivial⟩ rfl rfl rfl rfl (⟨rfl,_,R.callB [(0,17)] hC (show FnB Tryd.prog gl 49 [.ptr 0 0 [],.agg [.u32 x.toUInt32,.nils,.nils,.u32 0]] [(0,.var (.agg [.sl none 1 (r1.map D.u8),.bool e1]))] (.agg [.u32 x.toUInt32,.sl (some 56) 36 (ins.map inN),.sl (some 46) 2 (outs.map outD),.u32 0]) [(0,.var (.agg [.sl none 1 (r2.map D.u8),.bool e2]))] [] from by have h := qbody_ok r1 e1 (by omega) x.toUInt32 0; rw [hE3] at h; exact h) (EvB.cons (gV 40 rfl) rfl rfl rfl (EvB.cons (gV 41 rfl) rfl rfl rfl EvB.nil)) rfl ⟨rfl,trivial⟩ ⟨rfl,trivial⟩ rfl rfl rfl rfl rfl rfl (nU rfl),⟨rfl,_,R.stOZ (gU 5 rfl) (xU 5 rfl) rfl (gU 42 rfl) rfl rfl (by rfl) (by rfl) rfl rfl,tV [(0,_),(2,_),(4,_),(5,_),(6,_)] [(5,.var _),(17,.var _),(2,.var _)] 114 rfl rfl rfl ?_⟩⟩)
         refine W.seq ?_
         refine W.seq ?_
         by_cases hne : ins = []
         · refine W.l0 1 [.y 7 _] [] [] [(0,_),(2,_),(4,_),(5,_),(6,_),(7,_)] [(5,.var _),(17,.var _),(2,.var _)] 114 ⟨aU fun _ _ H _ => R.asg (kI 0 rfl) rfl H,trivial⟩ rfl rfl rfl rfl (tU rfl ?_)
           refine W.block ?_
           refine W.loop (α := {q__ : Unit // True}) (fun q__ => ⟨114,[(0,.sl none 1 (b.map D.u8)),(2,.ptr 2 0 []),(4,.ptr 17 0 []),(5,.ptr 5 0 []),(6,.bool (r[0]! == 0)),(7,.int ((0 : Nat) : Int))],[(5,.var (.agg [.u32 x.toUInt32,.sl (some 56) 36 (ins.map inN),.sl (some 46) 2 (outs.map outD),.u32 0])),(17,.var (.agg [.sl none 1 (r2.map D.u8),.bool e2])),(2,.var (.agg [.u32 0,.nils,.nils,.u32 0]))]⟩) (fun q__ => 0) ⟨(()),trivial⟩ rfl ?_
           rintro ⟨_,hinv⟩
           show W _ _ _ _ ⟨114,[(0,.sl none 1 (b.map D.u8)),(2,.ptr 2 0 []),(4,.ptr 17 0 []),(5,.ptr 5 0 []),(6,.bool (r[0]! == 0)),(7,.int ((0 : Nat) : Int))],[(5,.var (.agg [.u32 x.toUInt32,.sl (some 56) 36 (ins.map inN),.sl (some 46) 2 (outs.map outD),.u32 0])),(17,.var (.agg [.sl none 1 (r2.map D.u8),.bool e2])),(2,.var (.agg [.u32 0,.nils,.nils,.u32 0]))]⟩
           refine W.seq ?_
           refine W.seq ?_
           refine W.l0 8 [.y 43 _,.y 44 _,.y 45 _,.y 46 _,.y 47 _,.y 48 _,.x 49,.y 50 _] [] [] [(0,_),(2,_),(4,_),(5,_),(6,_),(7,_),(50,_)] [(5,.var _),(17,.var _),(2,.var _)] 114 ⟨mU 7 rfl rfl,aU (fU 5 rfl rfl),aU fun _ B H K => R.ldO (K 44 _ rfl) (B 5 _ rfl) rfl H,aU fun _ B H K => R.lenE (SC.alb (K 45 _ rfl) (B 5 _ rfl) rfl) (List.length_map _) H,aU fun _ _ H K => R.lssN (0) (ins.length) (eU K 43 rfl) (eU K 46 rfl) H,mU 47 rfl rfl,aF rfl rfl (gF (decide_eq_false (by simp [hne])) rfl),aU fun _ _ H K => R.pickF (eU K 48 rfl) (decide_eq_false (by simp [hne])) (kB false rfl) rfl H,trivial⟩ rfl rfl rfl rfl (tU rfl ?_)
           refine W.condF rfl (rfl) ?_
           refine W.exit ?_
           refine W.brwB 5 (d' := .agg [.u32 x.toUInt32,.sl none 36 (ins.map inN),.sl none 2 (outs.map outD),.u32 0]) (bx' := [(5,.var _),(17,.var _),(2,.var _)]) rfl (show (.agg [.u32 x.toUInt32,.sl (some 56) 36 (ins.map inN),.sl (some 46) 2 (outs.map outD),.u32 0] : D).brw = _ from by simp only [D.brw,brws_eq,List.map_cons,List.map_nil]; rw [brw_map brw_inN,brw_map brw_outD]) rfl ?_
           refine W.wkB 5 (d' := .agg [.u32 x.toUInt32,.sl none 36 (ins.map inD),.sl none 2 (outs.map outD),.u32 0]) (bx' := [(5,.var _),(17,.var _),(2,.var _)]) rfl (wk_txN (bodyQ_wit hE3)) rfl ?_
           refine W.dropS (live := [0,2,4,5]) (env' := [(0,_),(2,_),(4,_),(5,_)]) (bx' := [(5,.var _),(17,.var _),(2,.var _)]) (n' := 114) rfl rfl rfl ?_
           exact htail _ ⟨⟨(ins,outs,r2,e2),(gp_w (sn_t hs1 hs2) hE2 hE3 (by rw [hne]; rfl) (show r2.length ≤ 100000 by omega))⟩,rfl⟩
         · refine W.openB 9 5 [1] rfl rfl rfl rfl rfl rfl (fun _ => rfl) (by simpa using hne) rfl (fun _ => rfl) fun cap q _ _ _ => ?_
           refine W.l0 1 [.y 7 _] [] [] [(0,_),(2,_),(4,_),(5,_),(6,_),(7,_)] [(9,.var _),(5,.var _),(17,.var _),(2,.var _)] 114 ⟨aU fun _ _ H _ => R.asg (kI 0 rfl) rfl H,trivial⟩ rfl rfl rfl rfl (tU rfl ?_)
           refine W.block ?_
           refine W.loop (α := {q__ : Nat × List InS × List InS × List UInt8 × Bool // q__.2.1.length = q__.1 ∧ q__.2.1.length + q__.2.2.1.length = ins.length ∧ q__.2.2.2.1.length ≤ 100000 ∧ witsQ ins r2 e2 = plQ q__.2.1 (witsQ q__.2.2.1 q__.2.2.2.1 q__.2.2.2.2)}) (fun q__ => ⟨114,[(0,.sl none 1 (b.map D.u8)),(2,.ptr 2 0 []),(4,.ptr 17 0 []),(5,.ptr 5 0 []),(6,.bool (r[0]! == 0)),(7,.int ((q__.1.1 : Nat) : Int))],[(9,.var (wl q__.1.2.1 (q__.1.2.2.1.map inN) q)),(5,.var (.agg [.u32 x.toUInt32,.bs 9 36 ins.length cap,.sl (some 46) 2 (outs.map outD),.u32 0])),(17,.var (.agg [.sl none 1 (q__.1.2.2.2.1.map D.u8),.bool q__.1.2.2.2.2])),(2,.var (.agg [.u32 0,.nils,.nils,.u32 0]))]⟩) (fun q__ => ins.length - q__.1.1) ⟨(0,[],ins,r2,e2),⟨rfl,by simp,(show r2.length ≤ 100000 by omega),by simp [plQ]⟩⟩ (by simp only [List.length_map]; rfl) ?_
           rintro ⟨⟨i,l,rest,r3,e3⟩,⟨hli,hlen,hrb,hO⟩⟩
           show W _ _ _ _ ⟨114,[(0,.sl none 1 (b.map D.u8)),(2,.ptr 2 0 []),(4,.ptr 17 0 []),(5,.ptr 5 0 []),(6,.bool (r[0]! == 0)),(7,.int ((i : Nat) : Int))],[(9,.var (wl l (rest.map inN) q)),(5,.var (.agg [.u32 x.toUInt32,.bs 9 36 ins.length cap,.sl (some 46) 2 (outs.map outD),.u32 0])),(17,.var (.agg [.sl none 1 (r3.map D.u8),.bool e3])),(2,.var (.agg [.u32 0,.nils,.nils,.u32 0]))]⟩
           have hli : l.length = i := hli
           have hlen : l.length + rest.length = ins.length := hlen
           have hrb : r3.length ≤ 100000 := hrb
           have hO : witsQ ins r2 e2 = plQ l (witsQ rest r3 e3) := hO
           refine W.seq ?_
           refine W.seq ?_
           by_cases hi1 : i < ins.length
           · refine W.l0 8 [.y 43 _,.y 44 _,.y 45 _,.y 46 _,.y 47 _,.y 48 _,.y 49 _,.y 50 _] [] [] [(0,_),(2,_),(4,_),(5,_),(6,_),(7,_),(50,_)] [(9,.var _),(5,.var _),(17,.var _),(2,.var _)] 114 ⟨mU 7 rfl rfl,aU (fU 5 rfl rfl),aU (lU 44 rfl rfl rfl rfl rfl rfl rfl),aU fun _ _ H K => R.lenBs (K 45 _ rfl) H,aU fun _ _ H K => R.lssN (i) (ins.length) (eU K 43 rfl) (eU K 46 rfl) H,mU 47 rfl rfl,aW rfl rfl (gT (decide_eq_true hi1) rfl) fun _ _ H K => R.mov (eU K 6 rfl) rfl H,aU fun _ _ H K => R.pickT (eU K 48 rfl) (decide_eq_true hi1) (eU K 49 rfl) rfl H,trivial⟩ rfl rfl rfl rfl (tU rfl ?_)
             refine W.condT rfl (hs2) ?_
             refine W.skip ?_
             refine W.seq ?_
             refine W.block ?_
             refine W.seq ?_
             obtain ⟨y,rs,rfl⟩ := rest_cons hlen (by omega)
             show W _ _ _ _ _
             have hlr : l.length + rs.length + 1 = ins.length := by simp at hlen; omega
             obtain ⟨n,r5,e5,hq5⟩ : ∃ a_ b_ c_,cntQ r3 e3 = (a_,b_,c_) := ⟨_,_,_,rfl⟩
             have hq5l := cntQ_len (by omega) hq5
             refine W.l0 3 [.y 53 _] [] [] [(0,_),(2,_),(4,_),(5,_),(6,_),(7,_),(53,_)] [(9,.var _),(5,.var _),(17,.var _),(2,.var _)] 114 ⟨mU 4 rfl rfl,trivial⟩ rfl rfl rfl rfl (⟨rfl,_,R.callB [(0,17)] hC (show FnB Tryd.prog gl 50 [.ptr 0 0 []] [(0,.var (.agg [.sl none 1 (r3.map D.u8),.bool e3]))] (.int ((n : Nat) : Int)) [(0,.var (.agg [.sl none 1 (r5.map D.u8),.bool e5]))] [] from by have h := qcount_ok r3 e3 (by omega); rw [hq5] at h; exact h) (EvB.cons (gV 53 rfl) rfl rfl rfl EvB.nil) rfl ⟨rfl,trivial⟩ ⟨rfl,trivial⟩ rfl rfl rfl rfl rfl rfl (nU rfl),⟨rfl,_,R.asg (gV 54 rfl) rfl (nU rfl),tV [(0,_),(2,_),(4,_),(5,_),(6,_),(7,_),(8,_)] [(9,.var _),(5,.var _),(17,.var _),(2,.var _)] 114 rfl rfl rfl ?_⟩⟩)
             refine W.seq ?_
             refine W.asOwnP 9 [i,3] 29 1 (bx' := [(9,.var _),(5,.var _),(17,.var _),(2,.var _)]) rfl (wl_loc hli rfl rfl rfl) (wl_noArr hli) (wl_upd hli) rfl ?_
             refine W.l0 1 [.y 9 _] [] [] [(0,_),(2,_),(4,_),(5,_),(6,_),(7,_),(8,_),(9,_)] [(9,.var _),(5,.var _),(17,.var _),(2,.var _)] 114 ⟨aU fun _ _ H _ => R.asg (kI 0 rfl) rfl H,trivial⟩ rfl rfl rfl rfl (tU rfl ?_)
             refine W.block ?_
             refine W.loop (α := {q__ : Nat × List (List UInt8) × List UInt8 × Bool // q__.1 ≤ n ∧ q__.2.1.length = q__.1 ∧ q__.2.2.1.length ≤ 100000 ∧ itsQ (n - q__.1) q__.2.1 q__.2.2.1 q__.2.2.2 = itsQ n [] r5 e5}) (fun q__ => ⟨114,[(0,.sl none 1 (b.map D.u8)),(2,.ptr 2 0 []),(4,.ptr 17 0 []),(5,.ptr 5 0 []),(6,.bool (r[0]! == 0)),(7,.int ((i : Nat) : Int)),(8,.int ((n : Nat) : Int)),(9,.int ((q__.1.1 : Nat) : Int))],[(9,.var (wl l (inWt y q__.1.2.1 :: rs.map inN) q)),(5,.var (.agg [.u32 x.toUInt32,.bs 9 36 ins.length cap,.sl (some 46) 2 (outs.map outD),.u32 0])),(17,.var (.agg [.sl none 1 (q__.1.2.2.1.map D.u8),.bool q__.1.2.2.2])),(2,.var (.agg [.u32 0,.nils,.nils,.u32 0]))]⟩) (fun q__ => n - q__.1.1) ⟨(0,[],r5,e5),⟨Nat.zero_le _,rfl,(show r5.length ≤ 100000 by omega),rfl⟩⟩ rfl ?_
             rintro ⟨⟨j,ws,u5,f5⟩,⟨hj,hwj,hub,hI⟩⟩
             show W _ _ _ _ ⟨114,[(0,.sl none 1 (b.map D.u8)),(2,.ptr 2 0 []),(4,.ptr 17 0 []),(5,.ptr 5 0 []),(6,.bool (r[0]! == 0)),(7,.int ((i : Nat) : Int)),(8,.int ((n : Nat) : Int)),(9,.int ((j : Nat) : Int))],[(9,.var (wl l (inWt y ws :: rs.map inN) q)),(5,.var (.agg [.u32 x.toUInt32,.bs 9 36 ins.length cap,.sl (some 46) 2 (outs.map outD),.u32 0])),(17,.var (.agg [.sl none 1 (u5.map D.u8),.bool f5])),(2,.var (.agg [.u32 0,.nils,.nils,.u32 0]))]⟩
             have hj : j ≤ n := hj
             have hwj : ws.length = j := hwj
             have hub : u5.length ≤ 100000 := hub
             have hI : itsQ (n - j) ws u5 f5 = itsQ n [] r5 e5 := hI
             refine W.seq ?_
             refine W.seq ?_
             by_cases hj1 : j < n
             · refine W.l0 10 [.y 55 _,.y 56 _,.y 57 _,.y 58 _,.y 59 _,.y 60 _,.y 61 _,.y 62 _,.y 63 _,.y 64 _] [] [] [(0,_),(2,_),(4,_),(5,_),(6,_),(7,_),(8,_),(9,_),(64,_)] [(9,.var _),(5,.var _),(17,.var _),(2,.var _)] 114 ⟨mU 9 rfl rfl,mU 8 rfl rfl,aU fun _ _ H K => R.lssN (j) (n) (eU K 55 rfl) (eU K 56 rfl) H,mU 57 rfl rfl,aW rfl rfl (gT (decide_eq_true hj1) rfl) fun _ _ H K => R.mov (eU K 4 rfl) rfl H,aW rfl rfl (gT (decide_eq_true hj1) rfl) fun _ _ H K => R.nilcP (K 59 _ rfl) H,aW rfl rfl (gT (decide_eq_true hj1) rfl) (fU 60 rfl rfl),aW rfl rfl (gT (decide_eq_true hj1) rfl) (lU 61 rfl rfl rfl rfl rfl rfl rfl),aW rfl rfl (gT (decide_eq_true hj1) rfl) fun _ _ H K => R.un (eU K 62 rfl) rfl H,aU fun _ _ H K => R.pickT (eU K 58 rfl) (decide_eq_true hj1) (eU K 63 rfl) rfl H,trivial⟩ rfl rfl rfl rfl (tU rfl ?_)
               refine W.cond rfl (fun hc64 => ?_) (fun hc64 => ?_)
               · refine W.skip ?_
                 refine W.seq ?_
                 refine W.block ?_
                 refine W.seq ?_
                 obtain ⟨z,u6,f6,hq6⟩ : ∃ a_ b_ c_,itmQ u5 f5 = (a_,b_,c_) := ⟨_,_,_,rfl⟩
                 have hq6l := itmQ_len (by omega) hq6
                 refine W.l0 3 [.y 67 _] [] [] [(0,_),(2,_),(4,_),(5,_),(6,_),(7,_),(8,_),(9,_),(67,_)] [(9,.var _),(5,.var _),(17,.var _),(2,.var _)] 114 ⟨mU 4 rfl rfl,trivial⟩ rfl rfl rfl rfl (⟨rfl,_,R.frzT (r' := .sl none 1 (z.map D.u8)) (R.callB [(0,17)] hC (show FnB Tryd.prog gl 51 [.ptr 0 0 []] [(0,.var (.agg [.sl none 1 (u5.map D.u8),.bool f5]))] (.sl (some 5) 1 (z.map D.u8)) [(0,.var (.agg [.sl none 1 (u6.map D.u8),.bool f6]))] [] from by have h := qitem_ok u5 f5 (by omega); rw [hq6] at h; exact h) (EvB.cons (gV 67 rfl) rfl rfl rfl EvB.nil) rfl ⟨rfl,trivial⟩ ⟨rfl,trivial⟩ rfl rfl rfl rfl rfl rfl (nU rfl)) rfl (show (.sl (some 5) 1 (z.map D.u8) : D).brw = _ from by simp only [D.brw,brws_eq]; rw [brw_map (fun _ => rfl)]),⟨rfl,_,R.asg (gV 68 rfl) rfl (nU rfl),tV [(0,_),(2,_),(4,_),(5,_),(6,_),(7,_),(8,_),(9,_),(10,_)] [(9,.var _),(5,.var _),(17,.var _),(2,.var _)] 114 rfl rfl rfl ?_⟩⟩)
                 refine W.drawC (m := 12) (an := [0,1,0,0,8,0,56,120,248,0,512,2040,4095,8191,16383]) (its := [.y 69 _,.y 70 _,.y 71 _,.y 72 _,.y 73 _,.y 74 _,.y 75 _,.y 76 _,.y 77 _,.y 78 _,.y 79 _,.y 80 _]) (ks := [(11,77)]) (kk := [(11,77)]) (live := [0,2,4,5,6,7,8,9,70,71,80]) (env' := [(0,_),(2,_),(4,_),(5,_),(6,_),(7,_),(8,_),(9,_),(70,_),(71,_),(80,_)]) (bx1 := [(9,.var _),(5,.var _),(17,.var _),(2,.var _)]) [(5,_),(17,_),(2,_)] 11 [9] hP (by decide) rfl ⟨nU rfl,rfl,rfl,rfl⟩ ⟨rfl,⟨rfl,⟨rfl,trivial⟩⟩⟩ (                      ⟨⟨rfl,rfl,fun _ τ hb ht hτ => R.fdP (hτ 5 _ rfl) ht⟩,⟨⟨rfl,rfl,fun _ τ hb ht hτ => R.ldP (hτ 69 _ rfl) (hb 5 _ rfl) rfl rfl rfl rfl ht⟩,⟨⟨rfl,rfl,fun _ τ hb ht hτ => R.mov (evt (hτ 7 _ rfl)) rfl ht⟩,⟨⟨rfl,rfl,fun _ τ hb ht hτ => R.fdP (hτ 5 _ rfl) ht⟩,⟨⟨rfl,rfl,fun _ τ hb ht hτ => R.ldP (hτ 72 _ rfl) (hb 5 _ rfl) rfl rfl rfl rfl ht⟩,⟨⟨rfl,rfl,fun _ τ hb ht hτ => R.mov (evt (hτ 7 _ rfl)) rfl ht⟩,⟨⟨rfl,rfl,fun _ τ hb ht hτ => R.idxBs (i) (hτ 73 _ rfl) (evoI (evt (hτ 74 _ rfl))) rfl bU ht⟩,⟨⟨rfl,rfl,fun _ τ hb ht hτ => R.fdP (hτ 75 _ rfl) ht⟩,⟨⟨rfl,rfl,fun _ τ hb ht hτ => R.ldO (hτ 76 _ rfl) (hb 9 _ rfl) (wl_loc hli rfl rfl rfl) ht⟩,⟨⟨rfl,rfl,fun _ τ hb ht hτ => R.mov (evt (hτ 10 _ rfl)) rfl ht⟩,⟨⟨rfl,rfl,fun _ τ hb ht hτ => R.bslE (z := 1) (.cons (evt (hτ 78 _ rfl)) .nil) ⟨⟨rfl,rfl,rfl⟩,trivial⟩ rfl ht (by decide)⟩,⟨⟨rfl,rfl,rfl,(SpC.appB (s := 77) rfl rfl (wl_loc hli rfl rfl rfl) (wl_noArr hli) (wl_upd hli) rfl (fun τ hb hτ => (SrcO.sc (SC.sl (hτ 79 _ rfl rfl rfl)) (pur_lit rfl))) (show _ = ((ws ++ [z]).map bytesD) from (by rw [List.map_append]; rfl)) bU (by decide) (by decide) rfl)⟩,trivial⟩⟩⟩⟩⟩⟩⟩⟩⟩⟩⟩⟩) rfl rfl rfl (nU rfl) ⟨rfl,⟨rfl,⟨rfl,trivial⟩⟩⟩ rfl (n' := 114) rfl (⟨rfl,_,R.idxBs (i) (gU 70 rfl) (evoI (gV 71 rfl)) rfl bU (nU rfl),⟨rfl,_,R.fdP (gU 81 rfl) (nU rfl),⟨rfl,_,R.stOZ (gU 82 rfl) (xU 9 rfl) (wl_loc hli rfl rfl rfl) (gU 80 rfl) rfl rfl (by rfl) (by rfl) (wl_upd hli) (wl_noArr hli),⟨[0,2,4,5,6,7,8,9],[(0,_),(2,_),(4,_),(5,_),(6,_),(7,_),(8,_),(9,_)],[(9,.var _),(5,.var _),(17,.var _),(2,.var _)],114,rfl,rfl,rfl, ?_⟩⟩⟩⟩)
                 refine W.l0 3 [.y 65 _,.y 66 _,.y 9 _] [] [] [(0,_),(2,_),(4,_),(5,_),(6,_),(7,_),(8,_),(9,_)] [(9,.var _),(5,.var _),(17,.var _),(2,.var _)] 114 ⟨mU 9 rfl rfl,aU fun _ _ H K => R.addN (j) (1) (eU K 65 rfl) (kI 1 rfl) bU H,aU fun _ _ H K => R.asg (eU K 66 rfl) rfl H,trivial⟩ rfl rfl rfl rfl (tU rfl ?_)
                 exact ⟨⟨(j + 1,ws ++ [z],u6,f6),⟨by omega,by simp [hwj],(show u6.length ≤ 100000 by omega),itsQ_step hI hj1 hc64 hq6⟩⟩,rfl,(by simp only []; omega)⟩
               · have hWo := wtQ_eq hq5 (itsQ_end hI (by first | exact .inl hj1 | exact .inr hc64))
                 refine W.exit ?_
                 refine W.brwB 9 (d' := wl (l ++ [setW y ws]) (rs.map inN) q) (bx' := [(9,.var _),(5,.var _),(17,.var _),(2,.var _)]) rfl (wl_brw y ws rs) rfl ?_
                 refine W.l0 3 [.y 51 _,.y 52 _,.y 7 _] [] [] [(0,_),(2,_),(4,_),(5,_),(6,_),(7,_)] [(9,.var _),(5,.var _),(17,.var _),(2,.var _)] 114 ⟨mU 7 rfl rfl,aU fun _ _ H K => R.addN (i) (1) (eU K 51 rfl) (kI 1 rfl) bU H,aU fun _ _ H K => R.asg (eU K 52 rfl) rfl H,trivial⟩ rfl rfl rfl rfl (tU rfl ?_)
                 exact ⟨⟨(i + 1,l ++ [setW y ws],rs,u5,f5),⟨by simp [hli],by simp; omega,(show u5.length ≤ 100000 by omega),wq_step hO hWo⟩⟩,rfl,(by simp only []; omega)⟩
             · refine W.l0 10 [.y 55 _,.y 56 _,.y 57 _,.y 58 _,.x 59,.x 60,.x 61,.x 62,.x 63,.y 64 _] [] [] [(0,_),(2,_),(4,_),(5,_),(6,_),(7,_),(8,_),(9,_),(64,_)] [(9,.var _),(5,.var _),(17,.var _),(2,.var _)] 114 ⟨mU 9 rfl rfl,mU 8 rfl rfl,aU fun _ _ H K => R.lssN (j) (n) (eU K 55 rfl) (eU K 56 rfl) H,mU 57 rfl rfl,aF rfl rfl (gF (decide_eq_false hj1) rfl),aF rfl rfl (gF (decide_eq_false hj1) rfl),aF rfl rfl (gF (decide_eq_false hj1) rfl),aF rfl rfl (gF (decide_eq_false hj1) rfl),aF rfl rfl (gF (decide_eq_false hj1) rfl),aU fun _ _ H K => R.pickF (eU K 58 rfl) (decide_eq_false hj1) (kB false rfl) rfl H,trivial⟩ rfl rfl rfl rfl (tU rfl ?_)
               refine W.condF rfl (rfl) ?_
               have hWo := wtQ_eq hq5 (itsQ_end hI (by first | exact .inl hj1 | exact .inr hc64))
               refine W.exit ?_
               refine W.brwB 9 (d' := wl (l ++ [setW y ws]) (rs.map inN) q) (bx' := [(9,.var _),(5,.var _),(17,.var _),(2,.var _)]) rfl (wl_brw y ws rs) rfl ?_
               refine W.l0 3 [.y 51 _,.y 52 _,.y 7 _] [] [] [(0,_),(2,_),(4,_),(5,_),(6,_),(7,_)] [(9,.var _),(5,.var _),(17,.var _),(2,.var _)] 114 ⟨mU 7 rfl rfl,aU fun _ _ H K => R.addN (i) (1) (eU K 51 rfl) (kI 1 rfl) bU H,aU fun _ _ H K => R.asg (eU K 52 rfl) rfl H,trivial⟩ rfl rfl rfl rfl (tU rfl ?_)
               exact ⟨⟨(i + 1,l ++ [setW y ws],rs,u5,f5),⟨by simp [hli],by simp; omega,(show u5.length ≤ 100000 by omega),wq_step hO hWo⟩⟩,rfl,(by simp only []; omega)⟩
           · refine W.l0 8 [.y 43 _,.y 44 _,.y 45 _,.y 46 _,.y 47 _,.y 48 _,.x 49,.y 50 _] [] [] [(0,_),(2,_),(4,_),(5,_),(6,_),(7,_),(50,_)] [(9,.var _),(5,.var _),(17,.var _),(2,.var _)] 114 ⟨mU 7 rfl rfl,aU (fU 5 rfl rfl),aU (lU 44 rfl rfl rfl rfl rfl rfl rfl),aU fun _ _ H K => R.lenBs (K 45 _ rfl) H,aU fun _ _ H K => R.lssN (i) (ins.length) (eU K 43 rfl) (eU K 46 rfl) H,mU 47 rfl rfl,aF rfl rfl (gF (decide_eq_false hi1) rfl),aU fun _ _ H K => R.pickF (eU K 48 rfl) (decide_eq_false hi1) (kB false rfl) rfl H,trivial⟩ rfl rfl rfl rfl (tU rfl ?_)
             refine W.condF rfl (rfl) ?_
             obtain rfl := rest_nil hlen (by omega)
             show W _ _ _ _ _
             have hlen : l.length = ins.length := by simpa using hlen
             have hE4 := wq_end hO
             refine W.brwB 9 (d' := .agg (l.map inD ++ List.replicate q .dead)) (bx' := [(9,.var _),(5,.var _),(17,.var _),(2,.var _)]) rfl wl_end rfl ?_
             refine W.dropS (live := [0,2,4,5]) (env' := [(0,_),(2,_),(4,_),(5,_)]) (bx' := [(9,.var _),(5,.var _),(17,.var _),(2,.var _)]) (n' := 114) rfl rfl rfl ?_
             refine W.shutB 9 5 [1] [2,5,17] (bx' := [(5,.var _),(17,.var _),(2,.var _)]) rfl rfl (by decide) rfl rfl rfl (by simpa using hlen) (fun d hd => by obtain ⟨z,_,rfl⟩ := List.mem_map.1 hd; rfl) (fun d hd => by obtain ⟨z,_,rfl⟩ := List.mem_map.1 hd; rfl) (fun d hd => by obtain ⟨z,_,rfl⟩ := List.mem_map.1 hd; exact inD_sz z) rfl rfl rfl rfl (pin_sub hD rfl) ?_
             refine W.brwB 5 (d' := .agg [.u32 x.toUInt32,.sl none 36 (l.map inD),.sl none 2 (outs.map outD),.u32 0]) (bx' := [(5,.var _),(17,.var _),(2,.var _)]) rfl (show (D.agg [.u32 x.toUInt32,.sl none 36 (l.map inD),.sl (some 46) 2 (outs.map outD),.u32 0]).brw = _ from by simp only [D.brw,brws_eq,List.map_cons,List.map_nil]; rw [brw_map brw_inD,brw_map brw_outD]) rfl ?_
             refine W.exit ?_
             exact htail _ ⟨⟨(l,outs,r3,e3),(gp_w (sn_t hs1 hs2) hE2 hE3 hE4 hrb)⟩,rfl⟩
       · refine W.l0 16 [.y 22 _,.y 23 _,.y 24 _,.y 25 _,.y 26 _,.y 27 _,.y 28 _,.y 29 _,.y 30 _,.y 31 _,.y 32 _,.y 33 _,.y 34 _,.y 35 _,.y 36 _,.y 6 _] [] [] [(0,_),(2,_),(4,_),(5,_),(6,_)] [(5,.var _),(17,.var _),(2,.var _)] 114 ⟨mU 4 rfl rfl,aU fun _ _ H K => R.nilcP (K 22 _ rfl) H,aU (fU 23 rfl rfl),aU (lU 24 rfl rfl rfl rfl rfl rfl rfl),aU fun _ _ H K => R.lenE (SC.sl (K 25 _ rfl)) (List.length_map _) H,aU fun _ _ H K => R.gtrN (r.length) (0) (eU K 26 rfl) (kI 0 rfl) H,mU 27 rfl rfl,aW rfl rfl (gT (decide_eq_true hs1) rfl) fun _ _ H K => R.mov (eU K 4 rfl) rfl H,aW rfl rfl (gT (decide_eq_true hs1) rfl) fun _ _ H K => R.nilcP (K 29 _ rfl) H,aW rfl rfl (gT (decide_eq_true hs1) rfl) (fU 30 rfl rfl),aW rfl rfl (gT (decide_eq_true hs1) rfl) (lU 31 rfl rfl rfl rfl rfl rfl rfl),aW rfl rfl (gT (decide_eq_true hs1) rfl) fun _ _ H K => R.idxN (0) (SC.sl (K 32 _ rfl)) (evoI (kI 0 rfl)) rfl bU H (by decide),aW rfl rfl (gT (decide_eq_true hs1) rfl) fun _ _ H K => R.ldE (K 33 _ rfl) (SC.sl (K 32 _ rfl)) (map_get! (l := r) bU) rfl rfl rfl rfl H,aW rfl rfl (gT (decide_eq_true hs1) rfl) fun _ _ H K => R.bin (eU K 34 rfl) (show ev _ _ (.const (.int .u8 0)) = some (.u8 0) from rfl) rfl trivial H,aU fun _ _ H K => R.pickT (eU K 28 rfl) (decide_eq_true hs1) (eU K 35 rfl) rfl H,aU fun _ _ H K => R.asg (eU K 36 rfl) rfl H,trivial⟩ rfl rfl rfl rfl (tU rfl ?_)
         refine W.seq ?_
         refine W.seq ?_
         refine W.l0 1 [.y 37 _] [] [] [(0,_),(2,_),(4,_),(5,_),(6,_),(37,_)] [(5,.var _),(17,.var _),(2,.var _)] 114 ⟨mU 6 rfl rfl,trivial⟩ rfl rfl rfl rfl (tU rfl ?_)
         refine W.condF rfl (by simpa using hs2) ?_
         refine W.skip ?_
         refine W.seq ?_
         obtain ⟨⟨ins,outs⟩,r2,e2,hE3⟩ : ∃ p_ r_ e_,bodyQ r e = (p_,r_,e_) := ⟨_,_,_,rfl⟩
         have hbs := bodyQ_len (by omega) hE3
         refine W.l0 4 [.y 40 _,.y 41 _] [] [] [(0,_),(2,_),(4,_),(5,_),(6,_),(40,_),(41,_)] [(5,.var _),(17,.var _),(2,.var _)] 114 ⟨mU 4 rfl rfl,aU (lU 5 rfl rfl rfl rfl rfl rfl rfl),trivial⟩ rfl rfl rfl rfl (⟨rfl,_,R.callB [(0,17)] hC (show FnB Tryd.prog gl 49 [.ptr 0 0 [],.agg [.u32 x.toUInt32,.nils,.nils,.u32 0]] [(0,.var (.agg [.sl none 1 (r.map D.u8),.bool e]))] (.agg [.u32 x.toUInt32,.sl (some 56) 36 (ins.map inN),.sl (some 46) 2 (outs.map outD),.u32 0]) [(0,.var (.agg [.sl none 1 (r2.map D.u8),.bool e2]))] [] from by have h := qbody_ok r e (by omega) x.toUInt32 0; rw [hE3] at h; exact h) (EvB.cons (gV 40 rfl) rfl rfl rfl (EvB.cons (gV 41 rfl) rfl rfl rfl EvB.nil)) rfl ⟨rfl,trivial⟩ ⟨rfl,trivial⟩ rfl rfl rfl rfl rfl rfl (nU rfl),⟨rfl,_,R.stOZ (gU 5 rfl) (xU 5 rfl) rfl (gU 42 rfl) rfl rfl (by rfl) (by rfl) rfl rfl,tV [(0,_),(2,_),(4,_),(5,_),(6,_)] [(5,.var _),(17,.var _),(2,.var _)] 114 rfl rfl rfl ?_⟩⟩)
         refine W.seq ?_
         refine W.seq ?_
         refine W.l0 1 [.y 7 _] [] [] [(0,_),(2,_),(4,_),(5,_),(6,_),(7,_)] [(5,.var _),(17,.var _),(2,.var _)] 114 ⟨aU fun _ _ H _ => R.asg (kI 0 rfl) rfl H,trivial⟩ rfl rfl rfl rfl (tU rfl ?_)
         refine W.block ?_
         refine W.loop (α := {q__ : Unit // True}) (fun q__ => ⟨114,[(0,.sl none 1 (b.map D.u8)),(2,.ptr 2 0 []),(4,.ptr 17 0 []),(5,.ptr 5 0 []),(6,.bool (r[0]! == 0)),(7,.int ((0 : Nat) : Int))],[(5,.var (.agg [.u32 x.toUInt32,.sl (some 56) 36 (ins.map inN),.sl (some 46) 2 (outs.map outD),.u32 0])),(17,.var (.agg [.sl none 1 (r2.map D.u8),.bool e2])),(2,.var (.agg [.u32 0,.nils,.nils,.u32 0]))]⟩) (fun q__ => 0) ⟨(()),trivial⟩ rfl ?_
         rintro ⟨_,hinv⟩
         show W _ _ _ _ ⟨114,[(0,.sl none 1 (b.map D.u8)),(2,.ptr 2 0 []),(4,.ptr 17 0 []),(5,.ptr 5 0 []),(6,.bool (r[0]! == 0)),(7,.int ((0 : Nat) : Int))],[(5,.var (.agg [.u32 x.toUInt32,.sl (some 56) 36 (ins.map inN),.sl (some 46) 2 (outs.map outD),.u32 0])),(17,.var (.agg [.sl none 1 (r2.map D.u8),.bool e2])),(2,.var (.agg [.u32 0,.nils,.nils,.u32 0]))]⟩
         refine W.seq ?_
         refine W.seq ?_
         by_cases hl0 : 0 < ins.length
         · refine W.l0 8 [.y 43 _,.y 44 _,.y 45 _,.y 46 _,.y 47 _,.y 48 _,.y 49 _,.y 50 _] [] [] [(0,_),(2,_),(4,_),(5,_),(6,_),(7,_),(50,_)] [(5,.var _),(17,.var _),(2,.var _)] 114 ⟨mU 7 rfl rfl,aU (fU 5 rfl rfl),aU fun _ B H K => R.ldO (K 44 _ rfl) (B 5 _ rfl) rfl H,aU fun _ B H K => R.lenE (SC.alb (K 45 _ rfl) (B 5 _ rfl) rfl) (List.length_map _) H,aU fun _ _ H K => R.lssN (0) (ins.length) (eU K 43 rfl) (eU K 46 rfl) H,mU 47 rfl rfl,aW rfl rfl (gT (decide_eq_true hl0) rfl) fun _ _ H K => R.mov (eU K 6 rfl) rfl H,aU fun _ _ H K => R.pickT (eU K 48 rfl) (decide_eq_true hl0) (eU K 49 rfl) rfl H,trivial⟩ rfl rfl rfl rfl (tU rfl ?_)
           refine W.condF rfl (by simpa using hs2) ?_
           refine W.exit ?_
           refine W.brwB 5 (d' := .agg [.u32 x.toUInt32,.sl none 36 (ins.map inN),.sl none 2 (outs.map outD),.u32 0]) (bx' := [(5,.var _),(17,.var _),(2,.var _)]) rfl (show (.agg [.u32 x.toUInt32,.sl (some 56) 36 (ins.map inN),.sl (some 46) 2 (outs.map outD),.u32 0] : D).brw = _ from by simp only [D.brw,brws_eq,List.map_cons,List.map_nil]; rw [brw_map brw_inN,brw_map brw_outD]) rfl ?_
           refine W.wkB 5 (d' := .agg [.u32 x.toUInt32,.sl none 36 (ins.map inD),.sl none 2 (outs.map outD),.u32 0]) (bx' := [(5,.var _),(17,.var _),(2,.var _)]) rfl (wk_txN (bodyQ_wit hE3)) rfl ?_
           refine W.dropS (live := [0,2,4,5]) (env' := [(0,_),(2,_),(4,_),(5,_)]) (bx' := [(5,.var _),(17,.var _),(2,.var _)]) (n' := 114) rfl rfl rfl ?_
           exact htail _ ⟨⟨(ins,outs,r2,e2),(gp_n (sn_f2 hs2) hE3 (show r2.length ≤ 100000 by omega))⟩,rfl⟩
         · refine W.l0 8 [.y 43 _,.y 44 _,.y 45 _,.y 46 _,.y 47 _,.y 48 _,.x 49,.y 50 _] [] [] [(0,_),(2,_),(4,_),(5,_),(6,_),(7,_),(50,_)] [(5,.var _),(17,.var _),(2,.var _)] 114 ⟨mU 7 rfl rfl,aU (fU 5 rfl rfl),aU fun _ B H K => R.ldO (K 44 _ rfl) (B 5 _ rfl) rfl H,aU fun _ B H K => R.lenE (SC.alb (K 45 _ rfl) (B 5 _ rfl) rfl) (List.length_map _) H,aU fun _ _ H K => R.lssN (0) (ins.length) (eU K 43 rfl) (eU K 46 rfl) H,mU 47 rfl rfl,aF rfl rfl (gF (decide_eq_false hl0) rfl),aU fun _ _ H K => R.pickF (eU K 48 rfl) (decide_eq_false hl0) (kB false rfl) rfl H,trivial⟩ rfl rfl rfl rfl (tU rfl ?_)
           refine W.condF rfl (rfl) ?_
           refine W.exit ?_
           refine W.brwB 5 (d' := .agg [.u32 x.toUInt32,.sl none 36 (ins.map inN),.sl none 2 (outs.map outD),.u32 0]) (bx' := [(5,.var _),(17,.var _),(2,.var _)]) rfl (show (.agg [.u32 x.toUInt32,.sl (some 56) 36 (ins.map inN),.sl (some 46) 2 (outs.map outD),.u32 0] : D).brw = _ from by simp only [D.brw,brws_eq,List.map_cons,List.map_nil]; rw [brw_map brw_inN,brw_map brw_outD]) rfl ?_
           refine W.wkB 5 (d' := .agg [.u32 x.toUInt32,.sl none 36 (ins.map inD),.sl none 2 (outs.map outD),.u32 0]) (bx' := [(5,.var _),(17,.var _),(2,.var _)]) rfl (wk_txN (bodyQ_wit hE3)) rfl ?_
           refine W.dropS (live := [0,2,4,5]) (env' := [(0,_),(2,_),(4,_),(5,_)]) (bx' := [(5,.var _),(17,.var _),(2,.var _)]) (n' := 114) rfl rfl rfl ?_
           exact htail _ ⟨⟨(ins,outs,r2,e2),(gp_n (sn_f2 hs2) hE3 (show r2.length ≤ 100000 by omega))⟩,rfl⟩
     · refine W.l0 16 [.y 22 _,.y 23 _,.y 24 _,.y 25 _,.y 26 _,.y 27 _,.y 28 _,.x 29,.x 30,.x 31,.x 32,.x 33,.x 34,.x 35,.y 36 _,.y 6 _] [] [] [(0,_),(2,_),(4,_),(5,_),(6,_)] [(5,.var _),(17,.var _),(2,.var _)] 114 ⟨mU 4 rfl rfl,aU fun _ _ H K => R.nilcP (K 22 _ rfl) H,aU (fU 23 rfl rfl),aU (lU 24 rfl rfl rfl rfl rfl rfl rfl),aU fun _ _ H K => R.lenE (SC.sl (K 25 _ rfl)) (List.length_map _) H,aU fun _ _ H K => R.gtrN (r.length) (0) (eU K 26 rfl) (kI 0 rfl) H,mU 27 rfl rfl,aF rfl rfl (gF (decide_eq_false hs1) rfl),aF rfl rfl (gF (decide_eq_false hs1) rfl),aF rfl rfl (gF (decide_eq_false hs1) rfl),aF rfl rfl (gF (decide_eq_false hs1) rfl),aF rfl rfl (gF (decide_eq_false hs1) rfl),aF rfl rfl (gF (decide_eq_false hs1) rfl),aF rfl rfl (gF (decide_eq_false hs1) rfl),aU fun _ _ H K => R.pickF (eU K 28 rfl) (decide_eq_false hs1) (kB false rfl) rfl H,aU fun _ _ H K => R.asg (eU K 36 rfl) rfl H,trivial⟩ rfl rfl rfl rfl (tU rfl ?_)
       refine W.seq ?_
       refine W.seq ?_
       refine W.l0 1 [.y 37 _] [] [] [(0,_),(2,_),(4,_),(5,_),(6,_),(37,_)] [(5,.var _),(17,.var _),(2,.var _)] 114 ⟨mU 6 rfl rfl,trivial⟩ rfl rfl rfl rfl (tU rfl ?_)
       refine W.condF rfl (rfl) ?_
       refine W.skip ?_
       refine W.seq ?_
       obtain ⟨⟨ins,outs⟩,r2,e2,hE3⟩ : ∃ p_ r_ e_,bodyQ r e = (p_,r_,e_) := ⟨_,_,_,rfl⟩
       have hbs := bodyQ_len (by omega) hE3
       refine W.l0 4 [.y 40 _,.y 41 _] [] [] [(0,_),(2,_),(4,_),(5,_),(6,_),(40,_),(41,_)] [(5,.var _),(17,.var _),(2,.var _)] 114 ⟨mU 4 rfl rfl,aU (lU 5 rfl rfl rfl rfl rfl rfl rfl),trivial⟩ rfl rfl rfl rfl (⟨rfl,_,R.callB [(0,17)] hC (show FnB Tryd.prog gl 49 [.ptr 0 0 [],.agg [.u32 x.toUInt32,.nils,.nils,.u32 0]] [(0,.var (.agg [.sl none 1 (r.map D.u8),.bool e]))] (.agg [.u32 x.toUInt32,.sl (some 56) 36 (ins.map inN),.sl (some 46) 2 (outs.map outD),.u32 0]) [(0,.var (.agg [.sl none 1 (r2.map D.u8),.bool e2]))] [] from by have h := qbody_ok r e (by omega) x.toUInt32 0; rw [hE3] at h; exact h) (EvB.cons (gV 40 rfl) rfl rfl rfl (EvB.cons (gV 41 rfl) rfl rfl rfl EvB.nil)) rfl ⟨rfl,trivial⟩ ⟨rfl,trivial⟩ rfl rfl rfl rfl rfl rfl (nU rfl),⟨rfl,_,R.stOZ (gU 5 rfl) (xU 5 rfl) rfl (gU 42 rfl) rfl rfl (by rfl) (by rfl) rfl rfl,tV [(0,_),(2,_),(4,_),(5,_),(6,_)] [(5,.var _),(17,.var _),(2,.var _)] 114 rfl rfl rfl ?_⟩⟩)
       refine W.seq ?_
       refine W.seq ?_
       refine W.l0 1 [.y 7 _] [] [] [(0,_),(2,_),(4,_),(5,_),(6,_),(7,_)] [(5,.var _),(17,.var _),(2,.var _)] 114 ⟨aU fun _ _ H _ => R.asg (kI 0 rfl) rfl H,trivial⟩ rfl rfl rfl rfl (tU rfl ?_)
       refine W.block ?_
       refine W.loop (α := {q__ : Unit // True}) (fun q__ => ⟨114,[(0,.sl none 1 (b.map D.u8)),(2,.ptr 2 0 []),(4,.ptr 17 0 []),(5,.ptr 5 0 []),(6,.bool false),(7,.int ((0 : Nat) : Int))],[(5,.var (.agg [.u32 x.toUInt32,.sl (some 56) 36 (ins.map inN),.sl (some 46) 2 (outs.map outD),.u32 0])),(17,.var (.agg [.sl none 1 (r2.map D.u8),.bool e2])),(2,.var (.agg [.u32 0,.nils,.nils,.u32 0]))]⟩) (fun q__ => 0) ⟨(()),trivial⟩ rfl ?_
       rintro ⟨_,hinv⟩
       show W _ _ _ _ ⟨114,[(0,.sl none 1 (b.map D.u8)),(2,.ptr 2 0 []),(4,.ptr 17 0 []),(5,.ptr 5 0 []),(6,.bool false),(7,.int ((0 : Nat) : Int))],[(5,.var (.agg [.u32 x.toUInt32,.sl (some 56) 36 (ins.map inN),.sl (some 46) 2 (outs.map outD),.u32 0])),(17,.var (.agg [.sl none 1 (r2.map D.u8),.bool e2])),(2,.var (.agg [.u32 0,.nils,.nils,.u32 0]))]⟩
       refine W.seq ?_
       refine W.seq ?_
       by_cases hl0 : 0 < ins.length
       · refine W.l0 8 [.y 43 _,.y 44 _,.y 45 _,.y 46 _,.y 47 _,.y 48 _,.y 49 _,.y 50 _] [] [] [(0,_),(2,_),(4,_),(5,_),(6,_),(7,_),(50,_)] [(5,.var _),(17,.var _),(2,.var _)] 114 ⟨mU 7 rfl rfl,aU (fU 5 rfl rfl),aU fun _ B H K => R.ldO (K 44 _ rfl) (B 5 _ rfl) rfl H,aU fun _ B H K => R.lenE (SC.alb (K 45 _ rfl) (B 5 _ rfl) rfl) (List.length_map _) H,aU fun _ _ H K => R.lssN (0) (ins.length) (eU K 43 rfl) (eU K 46 rfl) H,mU 47 rfl rfl,aW rfl rfl (gT (decide_eq_true hl0) rfl) fun _ _ H K => R.mov (eU K 6 rfl) rfl H,aU fun _ _ H K => R.pickT (eU K 48 rfl) (decide_eq_true hl0) (eU K 49 rfl) rfl H,trivial⟩ rfl rfl rfl rfl (tU rfl ?_)
         refine W.condF rfl (rfl) ?_
         refine W.exit ?_
         refine W.brwB 5 (d' := .agg [.u32 x.toUInt32,.sl none 36 (ins.map inN),.sl none 2 (outs.map outD),.u32 0]) (bx' := [(5,.var _),(17,.var _),(2,.var _)]) rfl (show (.agg [.u32 x.toUInt32,.sl (some 56) 36 (ins.map inN),.sl (some 46) 2 (outs.map outD),.u32 0] : D).brw = _ from by simp only [D.brw,brws_eq,List.map_cons,List.map_nil]; rw [brw_map brw_inN,brw_map brw_outD]) rfl ?_
         refine W.wkB 5 (d' := .agg [.u32 x.toUInt32,.sl none 36 (ins.map inD),.sl none 2 (outs.map outD),.u32 0]) (bx' := [(5,.var _),(17,.var _),(2,.var _)]) rfl (wk_txN (bodyQ_wit hE3)) rfl ?_
         refine W.dropS (live := [0,2,4,5]) (env' := [(0,_),(2,_),(4,_),(5,_)]) (bx' := [(5,.var _),(17,.var _),(2,.var _)]) (n' := 114) rfl rfl rfl ?_
         exact htail _ ⟨⟨(ins,outs,r2,e2),(gp_n (sn_f1 hs1) hE3 (show r2.length ≤ 100000 by omega))⟩,rfl⟩
       · refine W.l0 8 [.y 43 _,.y 44 _,.y 45 _,.y 46 _,.y 47 _,.y 48 _,.x 49,.y 50 _] [] [] [(0,_),(2,_),(4,_),(5,_),(6,_),(7,_),(50,_)] [(5,.var _),(17,.var _),(2,.var _)] 114 ⟨mU 7 rfl rfl,aU (fU 5 rfl rfl),aU fun _ B H K => R.ldO (K 44 _ rfl) (B 5 _ rfl) rfl H,aU fun _ B H K => R.lenE (SC.alb (K 45 _ rfl) (B 5 _ rfl) rfl) (List.length_map _) H,aU fun _ _ H K => R.lssN (0) (ins.length) (eU K 43 rfl) (eU K 46 rfl) H,mU 47 rfl rfl,aF rfl rfl (gF (decide_eq_false hl0) rfl),aU fun _ _ H K => R.pickF (eU K 48 rfl) (decide_eq_false hl0) (kB false rfl) rfl H,trivial⟩ rfl rfl rfl rfl (tU rfl ?_)
         refine W.condF rfl (rfl) ?_
         refine W.exit ?_
         refine W.brwB 5 (d' := .agg [.u32 x.toUInt32,.sl none 36 (ins.map inN),.sl none 2 (outs.map outD),.u32 0]) (bx' := [(5,.var _),(17,.var _),(2,.var _)]) rfl (show (.agg [.u32 x.toUInt32,.sl (some 56) 36 (ins.map inN),.sl (some 46) 2 (outs.map outD),.u32 0] : D).brw = _ from by simp only [D.brw,brws_eq,List.map_cons,List.map_nil]; rw [brw_map brw_inN,brw_map brw_outD]) rfl ?_
         refine W.wkB 5 (d' := .agg [.u32 x.toUInt32,.sl none 36 (ins.map inD),.sl none 2 (outs.map outD),.u32 0]) (bx' := [(5,.var _),(17,.var _),(2,.var _)]) rfl (wk_txN (bodyQ_wit hE3)) rfl ?_
         refine W.dropS (live := [0,2,4,5]) (env' := [(0,_),(2,_),(4,_),(5,_)]) (bx' := [(5,.var _),(17,.var _),(2,.var _)]) (n' := 114) rfl rfl rfl ?_
         exact htail _ ⟨⟨(ins,outs,r2,e2),(gp_n (sn_f1 hs1) hE3 (show r2.length ≤ 100000 by omega))⟩,rfl⟩

end Go.Sx

namespace Go.Sx
open Go.Proofs
def smI : InS := ⟨List.replicate 32 0,4294967295,[],4294967295,[]⟩
def smO : OutS := ⟨5,[81]⟩
def smT : TxS := ⟨1,[smI],[smO],0⟩
def smT2 : TxS := ⟨1,[setW smI [[]]],[smO],0⟩
theorem sm_wf : smT.wf := wf_of_sz (by decide) (by intro x hx; simp [smT] at hx; subst hx; rfl)
theorem sm2_wf : smT2.wf := wf_of_sz (by decide) (by intro x hx; simp [smT2] at hx; subst hx; rfl)
theorem zero_wf : zeroT.wf := wf_of_sz (by decide) (by intro x hx; cases hx)
theorem w_len : (putS smT).length = 61 := by decide +kernel
theorem w_0 : (putS smT)[0]! = 1 := by decide +kernel
theorem w_4 : (putS smT)[4]! = 1 := by decide +kernel
theorem w_37 : (putS smT)[37]! = 255 := by decide +kernel
theorem w_46 : (putS smT)[46]! = 1 := by decide +kernel
theorem w_47 : (putS smT)[47]! = 5 := by decide +kernel
theorem w_56 : (putS smT)[56]! = 81 := by decide +kernel
theorem w2_len : (putS smT2).length = 65 := by decide +kernel
theorem w2_4 : (putS smT2)[4]! = 0 := by decide +kernel
theorem w2_5 : (putS smT2)[5]! = 1 := by decide +kernel
theorem w_bare : bareS smT2 = putS smT := by decide +kernel
theorem w_mint : mintS smT2 = true := by decide +kernel
theorem w_may : mayS smT2 = true := by decide +kernel
theorem w_may0 : mayS zeroT = false := by decide +kernel
theorem w_same : sameS smT smT = true := by decide +kernel
theorem w_same2 : sameS smT smT2 = false := by decide +kernel
theorem w_get : getS (putS smT) = (smT,0) := by kernel_rfl
theorem w_short : getS ((putS smT).take 60) = (zeroT,5) := by kernel_rfl
abbrev smIr : D := .agg [.agg [hashD (List.replicate 32 0),.u32 4294967295],.nils,.u32 4294967295,.nils]
abbrev smOr : D := .agg [.u64 5,.sl none 1 [.u8 81]]
theorem brw_smIr : smIr.brw = smIr := by
 simp only [D.brw,brws_eq,List.map_cons,List.map_nil,brw_hash]
theorem wk_smI : Wk smIr (inD smI) := .aggL (.cons (.refl _) (.cons (.nils none 1) (.cons (.refl _) (.cons (.nils none 1) .nil))))
theorem wk_sm : Wk (.agg [.u32 1,.sl none 36 [smIr],.sl none 2 [smOr],.u32 0]) (txD smT) :=
 .aggL (.cons (.refl _) (.cons (.slL (.cons wk_smI .nil)) (.cons (.refl _) (.cons (.refl _) .nil))))
abbrev smIw : D := .agg [.agg [hashD (List.replicate 32 0),.u32 4294967295],.nils,.u32 4294967295,.sl none 1 [.sl none 1 []]]
theorem wk_smIw : Wk smIw (inD (setW smI [[]])) := .aggL (.cons (.refl _) (.cons (.nils none 1) (.cons (.refl _) (.cons (.refl _) .nil))))
theorem wk_sm2 : Wk (.agg [.u32 1,.sl none 36 [smIw],.sl none 2 [smOr],.u32 0]) (txD smT2) :=
 .aggL (.cons (.refl _) (.cons (.slL (.cons wk_smIw .nil)) (.cons (.refl _) (.cons (.refl _) .nil))))
theorem smIr_sz : smIr.sz = 36 := rfl
theorem bw_sm {σ : Sg} {q cap : Nat} (hb : σ.box 9 = some (.var (.agg ([smIr] ++ List.replicate q .dead)))) : Bw σ (.agg [.u32 1,.bs 9 36 1 cap,.sl none 2 [smOr],.u32 0]) (.agg [.u32 1,.sl none 36 [smIr],.sl none 2 [smOr],.u32 0]) :=
 .aggL (.cons (.pur rfl rfl) (.cons (.bs hb rfl (by intro x hx; simp only [List.mem_singleton] at hx; subst hx; exact smIr_sz) (by rw [List.map_cons,List.map_nil,brw_smIr]) (by intro x hx; simp only [List.mem_singleton] at hx; subst hx; rfl))
  (.cons (.pur (by simp only [D.brw,brws_eq,List.map_cons,List.map_nil]) rfl) (.cons (.pur rfl rfl) .nil))))
theorem bw_sm0 {σ : Sg} : Bw σ (.agg [.u32 1,.sl (some 56) 36 [smIr],.sl (some 46) 2 [smOr],.u32 0]) (.agg [.u32 1,.sl none 36 [smIr],.sl none 2 [smOr],.u32 0]) :=
 .pur (by simp only [D.brw,brws_eq,List.map_cons,List.map_nil,brw_hash]) rfl
end Go.Sx

namespace Go.Sx
open Go.Proofs
set_option maxHeartbeats 2000000 in
theorem works_ok : Fn Tryd.prog gl 12 [] (.bool true) := by
 refine Fn.of (n := 131) Tryd.func12 rfl rfl rfl (nU rfl) fun C hC hD => ?_
 refine W.seq ?_
 refine W.l0 1 [.y 0 _] [] [] [] [] 131 ⟨aU fun _ _ H _ => R.asg (kB false rfl) rfl H,trivial⟩ rfl rfl rfl rfl (tU rfl ?_)
 refine W.seq ?_
 refine W.l0 3 [.y 8 _] [] [] [(8,_)] [] 131 ⟨aU fun _ _ H _ => R.callPE hC (small_ok) EvP.nil H,trivial⟩ rfl rfl rfl rfl (⟨rfl,_,R.alloc rfl (nU rfl),⟨rfl,_,R.stOZ (gU 1 rfl) (xU 1 rfl) rfl (gU 8 rfl) rfl rfl (by rfl) (by rfl) rfl rfl,tV [(1,_)] [(1,.var _)] 131 rfl rfl rfl ?_⟩⟩)
 refine W.seq ?_
 refine W.openB 9 1 [1] rfl rfl rfl rfl rfl rfl (fun _ => rfl) (by simp) rfl (fun _ => rfl) fun cap q _ _ _ => ?_
 refine W.brwB 1 (d' := .agg [.u32 1,.bs 9 36 1 cap,.sl none 2 [smOr],.u32 0]) (bx' := [(9,.var _),(1,.var _)]) rfl (show (D.agg [.u32 1,.bs 9 36 1 cap,.sl (some 46) 2 [smOr],.u32 0]).brw = _ from by simp only [D.brw,brws_eq,List.map_cons,List.map_nil]) rfl ?_
 refine W.l0 3 [.y 9 _,.y 10 _,.y 2 _] [(2,10)] [(2,10)] [(1,_),(2,_)] [(9,.var _),(1,.var _)] 131 ⟨aU (lU 1 rfl rfl rfl rfl rfl rfl rfl),aU fun _ B H K => R.callL hC (put_ok smT sm_wf) (.cons (eU K 9 rfl) rfl (bw_sm (B 9 _ rfl)) (wk_sm) .nil) (FrsR.one (.sl _ _ _ (frs_map fun _ => .u8 _))) H,aU fun _ _ H K => R.asgO (K 10 _ rfl) rfl H (by decide),trivial⟩ rfl rfl rfl rfl (tU rfl ?_)
 refine W.seq ?_
 refine W.seq ?_
 have hl61 := w_len
 refine W.l0 39 (.y 11 _ :: .y 12 _ :: .y 13 _ :: .y 14 _ :: .y 15 _ :: .y 16 _ :: .y 17 _ :: .y 18 _ :: .y 19 _ :: .y 20 _ :: .y 21 _ :: .y 22 _ :: .y 23 _ :: .y 24 _ :: .y 25 _ :: .y 26 _ :: .y 27 _ :: .y 28 _ :: .y 29 _ :: .y 30 _ :: .y 31 _ :: .y 32 _ :: .y 33 _ :: .y 34 _ :: .y 35 _ :: .y 36 _ :: .y 37 _ :: .y 38 _ :: .y 39 _ :: .y 40 _ :: .y 41 _ :: .y 42 _ :: .y 43 _ :: .y 44 _ :: .y 45 _ :: .y 46 _ :: .y 47 _ :: .y 48 _ :: .y 49 _ :: []) [] [] [(1,_),(2,_),(49,_)] [(9,.var _),(1,.var _)] 131 ⟨aU fun _ _ H K => R.al (K 2 _ rfl) H (by decide),aU fun _ _ H K => R.lenE (SC.al (K 11 _ rfl) (K 2 _ rfl)) (List.length_map _) H,aU fun _ _ H K => R.neqN ((putS smT).length) (61) (eU K 12 rfl) (kI 61 rfl) H,mU 13 rfl rfl,aW rfl rfl (gF (decide_eq_false (by rw [w_len]; decide)) rfl) fun _ _ H K => R.al (K 2 _ rfl) H (by decide),aW rfl rfl (gF (decide_eq_false (by rw [w_len]; decide)) rfl) fun _ _ H K => R.idxN (0) (SC.al (K 15 _ rfl) (K 2 _ rfl)) (evoI (kI 0 rfl)) rfl bU H (by decide),aW rfl rfl (gF (decide_eq_false (by rw [w_len]; decide)) rfl) fun _ _ H K => R.ldE (K 16 _ rfl) (SC.al (K 15 _ rfl) (K 2 _ rfl)) (map_get! (l := (putS smT)) bU) rfl rfl rfl rfl H,aW rfl rfl (gF (decide_eq_false (by rw [w_len]; decide)) rfl) fun _ _ H K => R.bin (eU K 17 rfl) (show ev _ _ (.const (.int .u8 1)) = some (.u8 1) from rfl) rfl trivial H,aU fun _ _ H K => R.pickF (eU K 14 rfl) (decide_eq_false (by rw [w_len]; decide)) (eU K 18 rfl) rfl H,mU 19 rfl rfl,aW rfl rfl (gF (by rw [w_0]; rfl) rfl) fun _ _ H K => R.al (K 2 _ rfl) H (by decide),aW rfl rfl (gF (by rw [w_0]; rfl) rfl) fun _ _ H K => R.idxN (4) (SC.al (K 21 _ rfl) (K 2 _ rfl)) (evoI (kI 4 rfl)) rfl bU H (by decide),aW rfl rfl (gF (by rw [w_0]; rfl) rfl) fun _ _ H K => R.ldE (K 22 _ rfl) (SC.al (K 21 _ rfl) (K 2 _ rfl)) (map_get! (l := (putS smT)) bU) rfl rfl rfl rfl H,aW rfl rfl (gF (by rw [w_0]; rfl) rfl) fun _ _ H K => R.bin (eU K 23 rfl) (show ev _ _ (.const (.int .u8 1)) = some (.u8 1) from rfl) rfl trivial H,aU fun _ _ H K => R.pickF (eU K 20 rfl) (by rw [w_0]; rfl) (eU K 24 rfl) rfl H,mU 25 rfl rfl,aW rfl rfl (gF (by rw [w_4]; rfl) rfl) fun _ _ H K => R.al (K 2 _ rfl) H (by decide),aW rfl rfl (gF (by rw [w_4]; rfl) rfl) fun _ _ H K => R.idxN (37) (SC.al (K 27 _ rfl) (K 2 _ rfl)) (evoI (kI 37 rfl)) rfl bU H (by decide),aW rfl rfl (gF (by rw [w_4]; rfl) rfl) fun _ _ H K => R.ldE (K 28 _ rfl) (SC.al (K 27 _ rfl) (K 2 _ rfl)) (map_get! (l := (putS smT)) bU) rfl rfl rfl rfl H,aW rfl rfl (gF (by rw [w_4]; rfl) rfl) fun _ _ H K => R.bin (eU K 29 rfl) (show ev _ _ (.const (.int .u8 255)) = some (.u8 255) from rfl) rfl trivial H,aU fun _ _ H K => R.pickF (eU K 26 rfl) (by rw [w_4]; rfl) (eU K 30 rfl) rfl H,mU 31 rfl rfl,aW rfl rfl (gF (by rw [w_37]; rfl) rfl) fun _ _ H K => R.al (K 2 _ rfl) H (by decide),aW rfl rfl (gF (by rw [w_37]; rfl) rfl) fun _ _ H K => R.idxN (46) (SC.al (K 33 _ rfl) (K 2 _ rfl)) (evoI (kI 46 rfl)) rfl bU H (by decide),aW rfl rfl (gF (by rw [w_37]; rfl) rfl) fun _ _ H K => R.ldE (K 34 _ rfl) (SC.al (K 33 _ rfl) (K 2 _ rfl)) (map_get! (l := (putS smT)) bU) rfl rfl rfl rfl H,aW rfl rfl (gF (by rw [w_37]; rfl) rfl) fun _ _ H K => R.bin (eU K 35 rfl) (show ev _ _ (.const (.int .u8 1)) = some (.u8 1) from rfl) rfl trivial H,aU fun _ _ H K => R.pickF (eU K 32 rfl) (by rw [w_37]; rfl) (eU K 36 rfl) rfl H,mU 37 rfl rfl,aW rfl rfl (gF (by rw [w_46]; rfl) rfl) fun _ _ H K => R.al (K 2 _ rfl) H (by decide),aW rfl rfl (gF (by rw [w_46]; rfl) rfl) fun _ _ H K => R.idxN (47) (SC.al (K 39 _ rfl) (K 2 _ rfl)) (evoI (kI 47 rfl)) rfl bU H (by decide),aW rfl rfl (gF (by rw [w_46]; rfl) rfl) fun _ _ H K => R.ldE (K 40 _ rfl) (SC.al (K 39 _ rfl) (K 2 _ rfl)) (map_get! (l := (putS smT)) bU) rfl rfl rfl rfl H,aW rfl rfl (gF (by rw [w_46]; rfl) rfl) fun _ _ H K => R.bin (eU K 41 rfl) (show ev _ _ (.const (.int .u8 5)) = some (.u8 5) from rfl) rfl trivial H,aU fun _ _ H K => R.pickF (eU K 38 rfl) (by rw [w_46]; rfl) (eU K 42 rfl) rfl H,mU 43 rfl rfl,aW rfl rfl (gF (by rw [w_47]; rfl) rfl) fun _ _ H K => R.al (K 2 _ rfl) H (by decide),aW rfl rfl (gF (by rw [w_47]; rfl) rfl) fun _ _ H K => R.idxN (56) (SC.al (K 45 _ rfl) (K 2 _ rfl)) (evoI (kI 56 rfl)) rfl bU H (by decide),aW rfl rfl (gF (by rw [w_47]; rfl) rfl) fun _ _ H K => R.ldE (K 46 _ rfl) (SC.al (K 45 _ rfl) (K 2 _ rfl)) (map_get! (l := (putS smT)) bU) rfl rfl rfl rfl H,aW rfl rfl (gF (by rw [w_47]; rfl) rfl) fun _ _ H K => R.bin (eU K 47 rfl) (show ev _ _ (.const (.int .u8 81)) = some (.u8 81) from rfl) rfl trivial H,aU fun _ _ H K => R.pickF (eU K 44 rfl) (by rw [w_47]; rfl) (eU K 48 rfl) rfl H,trivial⟩ rfl rfl rfl rfl (tU rfl ?_)
 refine W.condF rfl (by rw [w_56]; rfl) ?_
 refine W.skip ?_
 refine W.seq ?_
 refine W.frzS (s := 2) (d' := .sl none 1 ((putS smT).map D.u8)) rfl rfl (by simp only [D.brw,brws_eq]; rw [brw_map (fun _ => rfl)]) ?_
 refine W.l0 8 [.y 51 _,.y 52 _,.y 50 _,.y 53 _,.y 54 _] [] [] [(1,_),(2,_),(53,_),(54,_)] [(9,.var _),(1,.var _)] 131 ⟨mU 2 rfl rfl,aU fun _ _ H K => R.callPE hC (show Fn Tryd.prog gl 23 [.sl none 1 ((putS smT).map D.u8)] (.tup [txD smT,.int ((0 : Nat) : Int)]) from by have h := get_ok (putS smT) (by rw [w_len]; decide); rw [w_get] at h; exact h) (EvP.cons (eU K 51 rfl) rfl rfl EvP.nil) H,aU fun _ _ H K => R.movT (K 52 _ rfl) rfl H,aU fun _ _ H K => R.ext (K 50 _ rfl) rfl rfl H,aU fun _ _ H K => R.ext (K 50 _ rfl) rfl rfl H,trivial⟩ rfl rfl rfl rfl (⟨rfl,_,R.alloc rfl (nU rfl),⟨rfl,_,R.stZ (gU 3 rfl) (xU 3 rfl) rfl (gV 53 rfl) (by rfl) (by rfl) (by rfl) (by rfl) rfl,⟨rfl,_,R.asg (gV 54 rfl) rfl (nU rfl),tV [(1,_),(2,_),(3,_),(4,_)] [(3,.var _),(9,.var _),(1,.var _)] 131 rfl rfl rfl ?_⟩⟩⟩)
 refine W.seq ?_
 refine W.l0 9 [.y 56 _,.y 57 _,.y 58 _,.y 55 _,.y 59 _,.y 60 _] [] [] [(1,_),(2,_),(3,_),(4,_),(59,_),(60,_)] [(3,.var _),(9,.var _),(1,.var _)] 131 ⟨mU 2 rfl rfl,aU fun _ _ H K => R.slIN (0) (60) (60) (eU K 56 rfl) rfl (evoI (kI 60 rfl)) rfl rfl (by decide) (by rw [List.length_map,w_len]; decide) rfl (show _ = ((putS smT).take 60).map D.u8 from by simp) H,aU fun _ _ H K => R.callPE hC (show Fn Tryd.prog gl 23 [.sl none 1 (((putS smT).take 60).map D.u8)] (.tup [txD zeroT,.int ((5 : Nat) : Int)]) from by have h := get_ok ((putS smT).take 60) (by simp; omega); rw [w_short] at h; exact h) (EvP.cons (eU K 57 rfl) rfl rfl EvP.nil) H,aU fun _ _ H K => R.movT (K 58 _ rfl) rfl H,aU fun _ _ H K => R.ext (K 55 _ rfl) rfl rfl H,aU fun _ _ H K => R.ext (K 55 _ rfl) rfl rfl H,trivial⟩ rfl rfl rfl rfl (⟨rfl,_,R.alloc rfl (nU rfl),⟨rfl,_,R.stZ (gU 5 rfl) (xU 5 rfl) rfl (gV 59 rfl) (by rfl) (by rfl) (by rfl) (by rfl) rfl,⟨rfl,_,R.asg (gV 60 rfl) rfl (nU rfl),tV [(1,_),(2,_),(3,_),(4,_),(6,_)] [(5,.var _),(3,.var _),(9,.var _),(1,.var _)] 131 rfl rfl rfl ?_⟩⟩⟩)
 refine W.seq ?_
 refine W.l0 7 [.y 61 _,.y 62 _,.y 63 _,.y 64 _,.y 65 _,.y 66 _] [] [] [(1,_),(2,_),(3,_),(4,_),(6,_),(64,_),(66,_)] [(5,.var _),(3,.var _),(9,.var _),(1,.var _)] 131 ⟨aU (fU 1 rfl rfl),aU (lU 61 rfl rfl rfl rfl rfl rfl rfl),aU fun _ _ H _ => R.frzT (r' := .sl none 1 []) (R.bslE .nil trivial rfl H (by decide)) rfl (rfl),aU fun _ _ H K => R.bslE (z := 1) (.cons (eU K 63 rfl) .nil) ⟨⟨rfl,rfl,rfl⟩,trivial⟩ rfl H (by decide),aU fun _ _ H K => R.idxBs (0) (K 62 _ rfl) (evoI (kI 0 rfl)) rfl bU H,aU (fU 65 rfl rfl),trivial⟩ rfl rfl rfl rfl (⟨rfl,_,R.stOZ (gU 66 rfl) (xU 9 rfl) rfl (gU 64 rfl) rfl rfl (by rfl) (by rfl) rfl rfl,tV [(1,_),(2,_),(3,_),(4,_),(6,_)] [(5,.var _),(3,.var _),(9,.var _),(1,.var _)] 131 rfl rfl rfl ?_⟩)
 refine W.seq ?_
 refine W.brwB 9 (d' := .agg ([smIw] ++ List.replicate q .dead)) (bx' := [(5,.var _),(3,.var _),(9,.var _),(1,.var _)]) rfl (show (D.agg ([.agg [.agg [hashD (List.replicate 32 0),.u32 4294967295],.nils,.u32 4294967295,.sl (some 29) 1 [.sl none 1 []]]] ++ List.replicate q .dead)).brw = _ from by simp only [D.brw,brws_eq,List.map_append,List.map_cons,List.map_nil,brw_hash,brw_deads]) rfl ?_
 refine W.shutB 9 1 [1] [5,3,1] (l := [smIw]) (bx' := [(5,.var _),(3,.var _),(1,.var _)]) rfl rfl (by decide) rfl rfl rfl rfl (by intro x hx; simp only [List.mem_singleton] at hx; subst hx; rfl) (by intro x hx; simp only [List.mem_singleton] at hx; subst hx; rfl) (by intro x hx; simp only [List.mem_singleton] at hx; subst hx; rfl) rfl rfl rfl rfl (pin_sub hD rfl) ?_
 refine W.wkB 1 (d' := txD smT2) (bx' := [(5,.var _),(3,.var _),(1,.var _)]) rfl wk_sm2 rfl ?_
 refine W.l0 3 [.y 67 _,.y 68 _,.y 7 _] [(2,68)] [(2,68)] [(1,_),(2,_),(3,_),(4,_),(6,_),(7,_)] [(5,.var _),(3,.var _),(1,.var _)] 131 ⟨aU (lU 1 rfl rfl rfl rfl rfl rfl rfl),aU fun _ _ H K => R.callG hC (put_ok smT2 sm2_wf) (Bors.cons (Bor.pur (eU K 67 rfl) rfl rfl) Bors.nil) (FrsR.one (.sl _ _ _ (frs_map fun _ => .u8 _))) H,aU fun _ _ H K => R.asgO (K 68 _ rfl) rfl H (by decide),trivial⟩ rfl rfl rfl rfl (tU rfl ?_)
 refine W.seq ?_
 have hl65 := w2_len
 refine W.draw (m := 63) (an := (0 :: 0 :: 3 :: 7 :: 15 :: 15 :: 63 :: 127 :: 255 :: 511 :: 1023 :: 2047 :: 4095 :: 8191 :: 16383 :: 32767 :: 65535 :: 131071 :: 262143 :: 524287 :: 1048575 :: 2097151 :: 4194303 :: 8388607 :: 16777215 :: 33554431 :: 67108863 :: 134217727 :: 268435455 :: 536870911 :: 1073741823 :: 2147483647 :: 4294967295 :: 8589934591 :: 17179869183 :: 34359738367 :: 68719476735 :: 137438953471 :: 34359738367 :: 309237645311 :: 1099511627775 :: 2199023255551 :: 4398046511103 :: 8796093022207 :: 17592186044415 :: 35184372088831 :: 70368744177663 :: 140737488355327 :: 281474976710655 :: 562949953421311 :: 1125899906842623 :: 2251799813685247 :: 4503599627370495 :: 9007199254740991 :: 18014398509481983 :: 36028797018963967 :: 72057594037927935 :: 144115188075855871 :: 72057594037927935 :: 576460752303423487 :: 1152921504606846975 :: 2305843009213693951 :: 4611686018427387903 :: [])) hP (by decide) rfl (its := (.y 69 _ :: .y 70 _ :: .y 71 _ :: .y 72 _ :: .y 73 _ :: .y 74 _ :: .y 75 _ :: .y 76 _ :: .y 77 _ :: .y 78 _ :: .y 79 _ :: .y 80 _ :: .y 81 _ :: .y 82 _ :: .y 83 _ :: .y 84 _ :: .y 85 _ :: .y 86 _ :: .y 87 _ :: .y 88 _ :: .y 89 _ :: .y 90 _ :: .y 91 _ :: .y 92 _ :: .y 93 _ :: .y 94 _ :: .y 95 _ :: .y 96 _ :: .y 97 _ :: .y 98 _ :: .y 99 _ :: .y 100 _ :: .y 101 _ :: .y 102 _ :: .y 103 _ :: .y 104 _ :: .y 105 _ :: .y 106 _ :: .y 107 _ :: .y 108 _ :: .y 109 _ :: .y 110 _ :: .y 111 _ :: .y 112 _ :: .y 113 _ :: .y 114 _ :: .y 115 _ :: .y 116 _ :: .y 117 _ :: .y 118 _ :: .y 119 _ :: .y 120 _ :: .y 121 _ :: .y 122 _ :: .y 123 _ :: .y 124 _ :: .y 125 _ :: .y 126 _ :: .y 127 _ :: .y 128 _ :: .y 129 _ :: .y 130 _ :: .y 0 _ :: [])) (ks := []) (kk := []) (live := [0]) (env' := [(0,_)]) (⟨nU rfl,rfl,⟨aU (lU 3 rfl rfl rfl rfl rfl rfl rfl),aU fun _ _ H _ => R.callPE hC (small_ok) EvP.nil H,aU fun _ _ H K => R.callL hC (same_ok smT smT sm_wf sm_wf) (.old (Bor.pur (eU K 69 rfl) rfl rfl) (.cons (eU K 70 rfl) rfl (bw_sm0) (wk_sm) .nil)) (FrsR.one (.bool _)) H,mU 71 rfl rfl,aW rfl rfl (gT (w_same) rfl) (lU 3 rfl rfl rfl rfl rfl rfl rfl),aW rfl rfl (gT (w_same) rfl) (lU 1 rfl rfl rfl rfl rfl rfl rfl),aW rfl rfl (gT (w_same) rfl) fun _ _ H K => R.callG hC (same_ok smT smT2 sm_wf sm2_wf) (Bors.cons (Bor.pur (eU K 73 rfl) rfl rfl) (Bors.cons (Bor.pur (eU K 74 rfl) rfl rfl) Bors.nil)) (FrsR.one (.bool _)) H,aW rfl rfl (gT (w_same) rfl) fun _ _ H K => R.un (eU K 75 rfl) rfl H,aU fun _ _ H K => R.pickT (eU K 72 rfl) (w_same) (eU K 76 rfl) rfl H,mU 77 rfl rfl,aW rfl rfl (gT (by rw [w_same2]; rfl) rfl) fun _ _ H K => R.mov (eU K 4 rfl) rfl H,aW rfl rfl (gT (by rw [w_same2]; rfl) rfl) fun _ _ H K => R.eqlN (0) (0) (eU K 79 rfl) (kI 0 rfl) H,aU fun _ _ H K => R.pickT (eU K 78 rfl) (by rw [w_same2]; rfl) (eU K 80 rfl) rfl H,mU 81 rfl rfl,aW rfl rfl (gT (rfl) rfl) fun _ _ H K => R.mov (eU K 6 rfl) rfl H,aW rfl rfl (gT (rfl) rfl) fun _ _ H K => R.eqlN (5) (5) (eU K 83 rfl) (kI 5 rfl) H,aU fun _ _ H K => R.pickT (eU K 82 rfl) (rfl) (eU K 84 rfl) rfl H,mU 85 rfl rfl,aW rfl rfl (gT (rfl) rfl) fun _ _ H K => R.al (K 7 _ rfl) H (by decide),aW rfl rfl (gT (rfl) rfl) fun _ _ H K => R.lenE (SC.al (K 87 _ rfl) (K 7 _ rfl)) (List.length_map _) H,aW rfl rfl (gT (rfl) rfl) fun _ _ H K => R.eqlN ((putS smT2).length) (65) (eU K 88 rfl) (kI 65 rfl) H,aU fun _ _ H K => R.pickT (eU K 86 rfl) (rfl) (eU K 89 rfl) rfl H,mU 90 rfl rfl,aW rfl rfl (gT (decide_eq_true w2_len) rfl) fun _ _ H K => R.al (K 7 _ rfl) H (by decide),aW rfl rfl (gT (decide_eq_true w2_len) rfl) fun _ _ H K => R.idxN (4) (SC.al (K 92 _ rfl) (K 7 _ rfl)) (evoI (kI 4 rfl)) rfl bU H (by decide),aW rfl rfl (gT (decide_eq_true w2_len) rfl) fun _ _ H K => R.ldE (K 93 _ rfl) (SC.al (K 92 _ rfl) (K 7 _ rfl)) (map_get! (l := (putS smT2)) bU) rfl rfl rfl rfl H,aW rfl rfl (gT (decide_eq_true w2_len) rfl) fun _ _ H K => R.bin (eU K 94 rfl) (show ev _ _ (.const (.int .u8 0)) = some (.u8 0) from rfl) rfl trivial H,aU fun _ _ H K => R.pickT (eU K 91 rfl) (decide_eq_true w2_len) (eU K 95 rfl) rfl H,mU 96 rfl rfl,aW rfl rfl (gT (by rw [w2_4]; rfl) rfl) fun _ _ H K => R.al (K 7 _ rfl) H (by decide),aW rfl rfl (gT (by rw [w2_4]; rfl) rfl) fun _ _ H K => R.idxN (5) (SC.al (K 98 _ rfl) (K 7 _ rfl)) (evoI (kI 5 rfl)) rfl bU H (by decide),aW rfl rfl (gT (by rw [w2_4]; rfl) rfl) fun _ _ H K => R.ldE (K 99 _ rfl) (SC.al (K 98 _ rfl) (K 7 _ rfl)) (map_get! (l := (putS smT2)) bU) rfl rfl rfl rfl H,aW rfl rfl (gT (by rw [w2_4]; rfl) rfl) fun _ _ H K => R.bin (eU K 100 rfl) (show ev _ _ (.const (.int .u8 1)) = some (.u8 1) from rfl) rfl trivial H,aU fun _ _ H K => R.pickT (eU K 97 rfl) (by rw [w2_4]; rfl) (eU K 101 rfl) rfl H,mU 102 rfl rfl,aW rfl rfl (gT (by rw [w2_5]; rfl) rfl) (lU 1 rfl rfl rfl rfl rfl rfl rfl),aW rfl rfl (gT (by rw [w2_5]; rfl) rfl) fun _ _ H K => R.callG hC (bare_ok smT2 sm2_wf) (Bors.cons (Bor.pur (eU K 104 rfl) rfl rfl) Bors.nil) (FrsR.one (.sl _ _ _ (frs_map fun _ => .u8 _))) H,aW rfl rfl (gT (by rw [w2_5]; rfl) rfl) fun _ _ H K => R.cvS (xs := (bareS smT2)) (SC.sl (K 105 _ rfl)) H,aW rfl rfl (gT (by rw [w2_5]; rfl) rfl) fun _ _ H K => R.mov (eU K 2 rfl) rfl H,aW rfl rfl (gT (by rw [w2_5]; rfl) rfl) fun _ _ H K => R.cvS (xs := (putS smT)) (SC.sl (K 107 _ rfl)) H,aW rfl rfl (gT (by rw [w2_5]; rfl) rfl) fun _ _ H K => R.bin (eU K 106 rfl) (eU K 108 rfl) rfl trivial H,aU fun _ _ H K => R.pickT (eU K 103 rfl) (by rw [w2_5]; rfl) (eU K 109 rfl) rfl H,mU 110 rfl rfl,aW rfl rfl (gT (by rw [w_bare]; simp) rfl) (lU 1 rfl rfl rfl rfl rfl rfl rfl),aW rfl rfl (gT (by rw [w_bare]; simp) rfl) fun _ _ H K => R.callG hC (mint_ok smT2 sm2_wf) (Bors.cons (Bor.pur (eU K 112 rfl) rfl rfl) Bors.nil) (FrsR.one (.bool _)) H,aU fun _ _ H K => R.pickT (eU K 111 rfl) (by rw [w_bare]; simp) (eU K 113 rfl) rfl H,mU 114 rfl rfl,aW rfl rfl (gT (w_mint) rfl) (lU 1 rfl rfl rfl rfl rfl rfl rfl),aW rfl rfl (gT (w_mint) rfl) fun _ _ H K => R.callG hC (may_ok smT2 sm2_wf) (Bors.cons (Bor.pur (eU K 116 rfl) rfl rfl) Bors.nil) (FrsR.one (.bool _)) H,aU fun _ _ H K => R.pickT (eU K 115 rfl) (w_mint) (eU K 117 rfl) rfl H,mU 118 rfl rfl,aW rfl rfl (gT (w_may) rfl) fun _ _ H _ => R.bldSE (l := [.u32 0,.nils,.nils,.u32 0]) (l' := [_,_,_,_]) (.nil rfl) trivial H,aW rfl rfl (gT (w_may) rfl) fun _ _ H K => R.callL hC (may_ok zeroT zero_wf) (.cons (eU K 120 rfl) rfl (.pur rfl rfl) (wk_zero) .nil) (FrsR.one (.bool _)) H,aW rfl rfl (gT (w_may) rfl) fun _ _ H K => R.un (eU K 121 rfl) rfl H,aU fun _ _ H K => R.pickT (eU K 119 rfl) (w_may) (eU K 122 rfl) rfl H,mU 123 rfl rfl,aW rfl rfl (gT (by rw [w_may0]; rfl) rfl) (lU 1 rfl rfl rfl rfl rfl rfl rfl),aW rfl rfl (gT (by rw [w_may0]; rfl) rfl) fun _ _ H K => R.callG hC (id_ok smT2 sm2_wf) (Bors.cons (Bor.pur (eU K 125 rfl) rfl rfl) Bors.nil) (FrsR.one (frs_hash _)) H,aW rfl rfl (gT (by rw [w_may0]; rfl) rfl) (lU 1 rfl rfl rfl rfl rfl rfl rfl),aW rfl rfl (gT (by rw [w_may0]; rfl) rfl) fun _ _ H K => R.callG hC (rid_ok smT2 sm2_wf) (Bors.cons (Bor.pur (eU K 127 rfl) rfl rfl) Bors.nil) (FrsR.one (frs_hash _)) H,aW rfl rfl (gT (by rw [w_may0]; rfl) rfl) fun _ _ H K => R.eqAE (eU K 126 rfl) (eU K 128 rfl) H,aU fun _ _ H K => R.pickT (eU K 124 rfl) (by rw [w_may0]; rfl) (eU K 129 rfl) rfl H,aU fun _ _ H K => R.asg (eU K 130 rfl) rfl H,trivial⟩,rfl,rfl,rfl⟩) rfl (bx' := [(5,.var _),(3,.var _),(1,.var _)]) rfl (n' := 131) rfl (tV [(0,_)] [(5,.var _),(3,.var _),(1,.var _)] 131 rfl rfl rfl ?_)
 refine W.ret ?_
 exact Ends.one' (.inr rfl) rfl (by simp) rfl rfl trivial

end Go.Sx

namespace Go.Sx
open Go.ChangeShapes Go.WideShapes

structure Rd (P : Program) (t : TypeId) (z : Nat) {α : Type} (f : α → D) (q : α → Prop) : Prop where
 cells : P.cellsOf t = z
 sz : ∀ a,q a → (f a).sz = z
 rd : ∀ {H : Type} {enc : TypeId × Value → H} {w : World} {n : Nat} {cs : List Value} {x : DataW H × List MemPlace},DataW.trod enc P w 0 (fun _ => true) true n t cs = some x →
  (x.1.weights P t).all (· ≤ reachBytes) = true → ∃ a,q a ∧ Rc w (fun x => x) (fun b => b < w.heap.size) (fun _ => False) false (f a) cs []

variable {P : Program} {t e z : Nat}

theorem Rd.u8 (ht : P.underlying t = some (.int .u8)) (hz : P.cellsOf t = 1) : Rd P t 1 D.u8 (fun _ => True) :=
 ⟨hz,fun _ _ => rfl,fun h _ => by
  obtain ⟨n,rfl,_,hw⟩ := DataW.trod_int ht h
  simp [Lit.wf,IntKind.min,IntKind.max,IntKind.signed,IntKind.bits] at hw
  refine ⟨UInt8.ofNat n.toNat,trivial, ?_⟩
  have : ((UInt8.ofNat n.toNat).toNat : Int) = n := by simp [UInt8.toNat_ofNat']; omega
  have h1 := Rc.u8 (w := ‹World›) (ρ := fun x => x) (G := fun b => b < (‹World›).heap.size) (L := fun _ => False) (p := false) (UInt8.ofNat n.toNat)
  rw [this] at h1
  exact h1⟩
theorem weightsAll_mem {H : Type} {p : Nat → Bool} {l : List (DataW H)} (h : (DataW.weightsAll P e l).all p = true) : ∀ d ∈ l,(d.weights P e).all p = true := by
 induction l with
 | nil => intro d hd; cases hd
 | cons x r ih =>
  simp only [DataW.weightsAll,List.all_append,Bool.and_eq_true] at h
  intro d hd
  rcases List.mem_cons.1 hd with rfl | hd
  · exact h.1
  · exact ih h.2 d hd
theorem weightsEach_get {H : Type} {p : Nat → Bool} : ∀ {ts : List TypeId} {l : List (DataW H)},(DataW.weightsEach P ts l).all p = true → ∀ (i : Nat) (t : TypeId) (d : DataW H),ts[i]? = some t → l[i]? = some d → (d.weights P t).all p = true := by
 intro ts
 induction ts with
 | nil => intro l _ i t d ht; simp at ht
 | cons t0 ts ih =>
  intro l h i t d ht hd
  cases l with
  | nil => simp at hd
  | cons x r =>
   simp only [DataW.weightsEach,List.all_append,Bool.and_eq_true] at h
   cases i with
   | zero => simp at ht hd; subst ht; subst hd; exact h.1
   | succ i => exact ih h.2 i t d (by simpa using ht) (by simpa using hd)

theorem list_of {α : Type} {n : Nat} {p : Nat → α → Prop} (h : ∀ i,i < n → ∃ a,p i a) : ∃ l : List α,l.length = n ∧ ∀ i (hi : i < l.length),p i l[i] := by
 induction n with
 | zero => exact ⟨[],rfl,fun i hi => by simp at hi⟩
 | succ n ih =>
  obtain ⟨l,hl,hp⟩ := ih (fun i hi => h i (by omega))
  obtain ⟨a,ha⟩ := h n (by omega)
  refine ⟨l ++ [a],by simp [hl],fun i hi => ?_⟩
  rcases Nat.lt_or_ge i l.length with h1 | h1
  · rw [List.getElem_append_left h1]; exact hp i h1
  · have : i = n := by simp at hi; omega
    subst this
    rw [List.getElem_append_right h1]
    simpa [hl] using ha

theorem cells_row {w : World} {b off n : Nat} {c : Array Value} {ty : TypeId} {fz : Nat × Nat} {cs : List Value} (hb : w.heap[b]? = some (.cells c ty fz)) (h : w.cells? 0 ⟨b,off,none⟩ n = some cs) (hn : 0 < n) :
 off + n ≤ c.size ∧ cs = (c.toList.drop off).take n := by
 obtain ⟨_,hl,hc⟩ := World.cells?_some h
 have hc' : ∀ i,i < n → c[off + i]? = cs[i]? := fun i hi => by
  have := hc i hi
  rw [add_lit,cell_of_row w b _ c ty fz hb] at this
  exact this
 have h1 := hc' (n - 1) (by omega)
 have h2 : off + (n - 1) < c.size := by
  rw [List.getElem?_eq_getElem (by omega)] at h1
  exact (Array.getElem?_eq_some_iff.1 h1).1
 refine ⟨by omega, ?_⟩
 apply List.ext_getElem?
 intro i
 rw [List.getElem?_take]
 split
 · rw [List.getElem?_drop]
   rw [← hc' i (by assumption)]
   simp
 · rw [List.getElem?_eq_none (by omega)]

theorem Rd.sl {α : Type} {f : α → D} {q : α → Prop} (ht : P.underlying t = some (.slice e)) (hz : P.cellsOf t = 1) (h0 : 0 < z) (hby : 0 < P.bytesOf e) (he : Rd P e z f q) :
 Rd P t 1 (fun l : List α => .sl none z (l.map f)) (fun l => l.length ≤ 140737488355328 ∧ ∀ x ∈ l,q x) :=
 ⟨hz,fun _ _ => rfl,fun {H enc w n cs x} h hwt => by
  rcases Go.Deep.open_slice ht h with ⟨rfl,_⟩ | ⟨a,len,cap,m,n',Dd,Pl,rfl,_,hlc,hcm,hm,rfl,hx⟩
  · exact ⟨[],⟨by simp,by simp⟩,.slN none z⟩
  · simp only [if_true] at hm
    have hx := fun i (hi : i < cap) => hx i (by omega)
    simp only [DataW.weights,ht,List.all_cons,List.all_append,Bool.and_eq_true,decide_eq_true_eq,List.length_map,List.length_range] at hwt
    obtain ⟨hw1,hw2,hw3⟩ := hwt
    have hw4 : ∀ i,i < len → ((Dd i).weights P e).all (· ≤ reachBytes) = true := fun i hi => weightsAll_mem hw2 _ (List.mem_map.2 ⟨i,List.mem_range.2 hi,rfl⟩)
    have hlen : len ≤ 140737488355328 := by
     have h6 : len * 1 ≤ (len + (m - len)) * P.bytesOf e := Nat.mul_le_mul (by omega) hby
     simp only [reachBytes] at hw1
     omega
    rcases Nat.eq_zero_or_pos cap with rfl | hcap
    · have : len = 0 := by omega
      subst this
      exact ⟨[],⟨by simp,by simp⟩,.slE none z a⟩
    · rw [he.cells] at hx
      obtain ⟨b,off,sp⟩ := a
      obtain ⟨cs0,hc0,_⟩ := hx 0 hcap
      obtain ⟨_,hl0,hv0⟩ := World.cells?_some hc0
      have h1 := hv0 0 h0
      rw [List.getElem?_eq_getElem (by omega)] at h1
      have hblk : ∃ c ty fz,w.heap[b]? = some (.cells c ty fz) ∧ sp = none := by
       have e0 : ((⟨b,off,sp⟩ : Addr).add (0 * z)).add 0 = ⟨b,off,sp⟩ := by simp [Addr.add]
       rw [e0] at h1
       unfold World.cell? at h1
       simp only at h1
       split at h1
       · rename_i c ty fz hh
         cases sp with
         | none => exact ⟨c,ty,fz,hh,rfl⟩
         | some s => simp at h1
       · cases h1
      obtain ⟨c,ty,fz,hb,rfl⟩ := hblk
      have hrow : ∀ i,i < cap → off + i * z + z ≤ c.size ∧ (i < len → ∃ a,q a ∧ Rc w (fun x => x) (fun b => b < w.heap.size) (fun _ => False) false (f a) ((c.toList.drop (off + i * z)).take z) []) := fun i hi => by
       obtain ⟨cs',h2,h3⟩ := hx i hi
       rw [add_lit] at h2
       obtain ⟨h4,rfl⟩ := cells_row hb h2 h0
       exact ⟨h4,fun hi => he.rd h3 (hw4 i hi)⟩
      obtain ⟨l,hl,hp⟩ := list_of (fun i hi => (hrow i (by omega : i < cap)).2 hi : ∀ i,i < len → _)
      have hsz : off + cap * z ≤ c.size := by
       have h5 := (hrow (cap - 1) (by omega)).1
       have : (cap - 1) * z + z = cap * z := by rw [← Nat.succ_mul]; congr 1; omega
       omega
      have hlz : len * z ≤ cap * z := Nat.mul_le_mul_right z hlc
      refine ⟨l,⟨by omega,fun y hy => ?_⟩, ?_⟩
      · obtain ⟨i,hi,rfl⟩ := List.mem_iff_getElem.1 hy
        exact (hp i hi).1
      · have := Rc.slI (w := w) (ρ := fun x => x) (G := fun b => b < w.heap.size) (L := fun _ => False) (p := false) b off c ty fz cap z (l.map f) hb (Array.getElem?_eq_some_iff.1 hb).1 (by simp; omega) (by simp [hl]; omega)
         (fun i hi => by simp only [List.getElem_map]; exact (hp i (by simpa using hi)).2)
        simpa [hl] using this⟩

def isAggT (P : Program) (t : TypeId) : Bool := match P.underlying t with
 | some (.struct _) => true
 | some (.array _ _) => true
 | _ => false
theorem cells_one {r : Reach} {W : World} {base : Nat} {v : Value} (hu : isAggT P t = false) (hv : Value.okWide P W r base t v) : v.cells = #[v] := by
 cases v with
 | agg cs =>
  exfalso
  unfold isAggT at hu
  unfold Value.okWide at hv
  split at hv
  · rename_i h; simp [h] at hu
  · rename_i h; simp [h] at hu
  · unfold Cell.okWide Cell.ok at hv
    split at hv <;> simp_all
 | _ => rfl
theorem Rd.arg {H : Type} {enc : TypeId × Value → H} {α : Type} {f : α → D} {q : α → Prop} {g : Bool} {r : Reach} {W : World} {base : Nat} {v : Value} {d : DataW H} {ps : List MemPlace} (h : Rd P t z f q) (hu : isAggT P t = g) (hg : ∀ a,q a → (f a).isAgg = g)
 (hv : Value.okWide P W r base t v) (hd : DataW.Trod enc P W 0 (fun _ => true) true t v d ps) (hw : (d.weights P t).all (· ≤ reachBytes) = true) :
 ∃ a,q a ∧ VR W (fun x => x) (fun b => b < W.heap.size) (fun _ => False) (f a) v [] := by
 obtain ⟨fuel,hd⟩ := hd
 obtain ⟨a,ha,hr⟩ := h.rd hd hw
 refine ⟨a,ha, ?_⟩
 have hga := hg a ha
 cases g with
 | true =>
  have : ∃ cs,v = .agg cs := by
   unfold isAggT at hu
   unfold Value.okWide at hv
   split at hv
   · exact ⟨_,hv.choose_spec.1⟩
   · exact ⟨_,hv.choose_spec.1⟩
   · split at hu <;> simp_all
  obtain ⟨cs,rfl⟩ := this
  simp only [VR,hga,if_true]
  exact ⟨cs,rfl,hr.flag⟩
 | false =>
  rw [cells_one hu hv] at hr
  simp only [VR,hga,if_false,Bool.false_eq_true]
  exact hr.flag

theorem trodAll_stays {H : Type} {enc : TypeId × Value → H} {W W' : World} {sp : Nat → Bool} (hl : laidOutB P = true) (hb : ∀ b,b < W.heap.size → W'.heap[b]? = W.heap[b]?) :
 ∀ {ts : List TypeId} {vs : List Value} {ds : List (DataW H)} {ps : List MemPlace},(ts.all fun t => P.readableRec t && decide (t < P.types.size)) = true → (∀ x ∈ ps,x.block < W.heap.size) → (∀ x ∈ ps,sp x.block = true) →
  DataW.TrodAll enc P W 0 (fun _ => true) true ts vs ds ps → DataW.TrodAll enc P W' 0 sp true ts vs ds ps := by
 intro ts
 induction ts with
 | nil => intro vs ds ps _ _ _ h; obtain ⟨rfl,rfl,rfl⟩ := trodAll_nil h; exact trodAll_mk0
 | cons t ts ih =>
  intro vs ds ps ht hlt hs h
  obtain ⟨v,vs1,d,ds1,a,b,rfl,rfl,rfl,h1,h2⟩ := trodAll_cons h
  simp only [List.all_cons,Bool.and_eq_true,decide_eq_true_eq] at ht
  refine trodAll_cons_mk (Go.WideElems.Trod_stays hl ht.1.1 ht.1.2 h1 (fun x hx => ?_) (fun x hx => hs x (List.mem_append.2 (.inl hx)))) (ih ht.2 (fun x hx => hlt x (List.mem_append.2 (.inr hx))) (fun x hx => hs x (List.mem_append.2 (.inr hx))) h2)
  have hx' := hlt x (List.mem_append.2 (.inl hx))
  cases x with
  | cell b o => exact World.cell?_of_block (w := W) (hb b hx')
  | map b => exact hb b hx'

theorem contract_of {H : Type} {enc : TypeId × Value → H} {fn : Func} {f : FuncId} {s : ChangeSpec} {W : World} {args : Array Value} {ds gs : List (DataW H)} {before : List MemPlace} {tb : TypeId} {gl : List (Nat × D)} {Ds : List D}
 (hl : laidOutB P = true) (hpar : (fn.params.toList.all fun t => P.readableRec t && decide (t < P.types.size)) = true) (hres : fn.resultTypes = #[tb]) (htb : P.underlying tb = some .bool) (hsv : s.vars = [])
 (hfn : s.fn H ds = { results := [.lit (.bool true)],args := ds }) (hW : DataW.Whole enc P fn.params.toList s.vars false W args.toList ds gs before)
 (hgl : ∀ g d,(g,d) ∈ gl → g < W.heap.size ∧ ∃ cs e fz,W.heap[g]? = some (.cells cs e fz) ∧ Rc W (fun x => x) (fun _ => False) (fun _ => False) false d cs.toList [])
 (hlen : args.toList.length = Ds.length) (hargs : ∀ k (h : k < Ds.length),VR W (fun x => x) (fun b => b < W.heap.size) (fun _ => False) Ds[k] (args.toList.getD k undef) [])
 (hf : Fn P gl f Ds (.bool true)) : Calls P f args W fun e W' => ∃ v,e = .returned v ∧ s.post enc P fn false true false false W args v W' := by
 have hrun := hf W (fun b => b < W.heap.size) args.toList hgl hlen hargs
 rw [Array.toArray_toList] at hrun
 refine hrun.mono fun ex W' ⟨v,F,he,hext,_,_,hrv⟩ => ⟨v,he, ?_⟩
 have hv : v = .bool true := by
  obtain ⟨_,h2⟩ := hrv
  simp only [VR,D.isAgg,Bool.false_eq_true,if_false] at h2
  cases h2
  rfl
 subst hv
 have hlt := hW.lt
 have hW0 := hW
 obtain ⟨p,q',hA,hV,rfl,hfz,hnd⟩ := hW
 rw [hsv] at hV
 obtain ⟨rfl,rfl⟩ := trodVars_none hV
 simp only [List.append_nil] at hlt hW0
 have hst : ∀ sp : Nat → Bool,(∀ x ∈ p,sp x.block = true) → DataW.TrodAll enc P W' 0 sp true fn.params.toList args.toList ds p := fun sp hs => trodAll_stays hl (fun b hb => hext.block b hb) hpar hlt hs hA
 refine ⟨ds,[],p,[],p,[],hW0, ?_, ?_, ?_,⟨hext.os,hext.output,fun i hi => ?_⟩,fun h => by cases h⟩
 · rw [hres]
   simp only [List.append_nil,hfn]
   exact trodAll_cons_mk (Go.RowKit.shut_bool htb true) trodAll_mk0
 · simp only [List.append_nil,hfn]
   exact hst _ (fun x hx => by simpa using hlt x hx)
 · simp only [List.append_nil,hfn,hsv]
   rfl
 · rw [hext.block i hi]
   cases hh : W.heap[i]? with
   | none => simp
   | some o => cases o <;> simp

theorem rc_tab32 {w : World} {ρ : Nat → Nat} {G L : Nat → Prop} (l : List UInt32) {n : Nat} (hn : l.length = n) : Rc w ρ G L false (.arr n 1 (l.map D.u32)) (l.map fun x => Value.int .u32 x.toNat) [] := by
 refine .arr n 1 _ _ (by simpa using hn) (by simp [hn]) (fun i hi => ?_)
 have hi' : i < l.length := by simpa using hi
 simp only [Nat.mul_one,List.getElem_map]
 rw [List.drop_eq_getElem_cons (by simpa using hi'),List.take_succ_cons,List.take_zero,List.getElem_map]
 exact .u32 _
theorem gl_tab32 {W : World} {name : String} {g n : Nat} (l : List UInt32) (hg : P.globalNamed name = some g) (hn : l.length = n) (h : Lib.TabIs P W name .u32 (l.map fun x => ((x.toNat : Nat) : Int))) :
 g < W.heap.size ∧ ∃ cs e fz,W.heap[g]? = some (.cells cs e fz) ∧ Rc W (fun x => x) (fun _ => False) (fun _ => False) false (.arr n 1 (l.map D.u32)) cs.toList [] := by
 unfold Lib.TabIs World.var? at h
 simp only [hg,Option.bind_some,List.map_map] at h
 split at h
 · rename_i cs e fz hh
   simp only [Option.some.injEq] at h
   refine ⟨(Array.getElem?_eq_some_iff.1 hh).1,cs,e,fz,hh, ?_⟩
   rw [h]
   exact rc_tab32 l hn
 · cases h
end Go.Sx

namespace Go.Sx
open Go.Proofs
theorem getO_wf {b : List UInt8} {t : TxS} (hb : b.length ≤ 100000) (h : getO b = some t) : t.wf ∧ mayS t = true ∧ putS t = b := by
 cases k1 : numO b 4 with
 | none => rw [go_1 k1] at h; cases h
 | some q =>
  obtain ⟨p,r⟩ := q
  have hr := numO_len k1
  cases k2 : preO r with
  | none => rw [go_2 k1 k2] at h; cases h
  | some r1 =>
   cases k3 : bodyO r1 with
   | none => rw [go_3 k1 k2 k3] at h; cases h
   | some q =>
    obtain ⟨⟨ins,outs⟩,r2⟩ := q
    cases k4 : witQ (seenB r) ins r2 with
    | none => rw [go_4 k1 k2 k3 k4] at h; cases h
    | some q =>
     obtain ⟨l,r3⟩ := q
     cases k5 : numO r3 4 with
     | none => rw [go_5 k1 k2 k3 k4 k5] at h; cases h
     | some q =>
      obtain ⟨k,r4⟩ := q
      rw [go_6 k1 k2 k3 k4 k5] at h
      unfold finO at h
      split at h
      · rename_i hc
        cases h
        exact ⟨get_wf (by omega) k2 k3 k4,hc.2.1,hc.2.2⟩
      · cases h
theorem getS_cases (b : List UInt8) : (getS b = (zeroT,6) ∧ 16384 < b.length) ∨ (getS b = (zeroT,5) ∧ getO b = none) ∨ ∃ t,getS b = (t,0) ∧ getO b = some t ∧ b.length ≤ 16384 := by
 by_cases h : 16384 < b.length
 · exact .inl ⟨gt_big h,h⟩
 · cases hg : getO b with
   | none => exact .inr (.inl ⟨gt_none h hg,rfl⟩)
   | some t => exact .inr (.inr ⟨t,gt_some h hg,rfl,by omega⟩)
theorem getS_wf {b : List UInt8} (hb : b.length ≤ 100000) : (getS b).1.wf := by
 rcases getS_cases b with ⟨h,_⟩ | ⟨h,_⟩ | ⟨t,h,hg,_⟩
 · rw [h]; exact zero_wf
 · rw [h]; exact zero_wf
 · rw [h]; exact (getO_wf hb hg).1
theorem eqIn_refl (x : InS) : eqIn x x = true := by simp [eqIn,eqB_list]
theorem eqOut_refl (x : OutS) : eqOut x x = true := by simp [eqOut]
theorem sameS_refl (t : TxS) : sameS t t = true := sm_t rfl rfl rfl rfl (fun j _ => eqIn_refl _) (fun j _ => eqOut_refl _)
end Go.Sx
