/- Proved: what functions of the given program compute (used by the theorem of this claim). Conditions: none but those that each theorem states. -/
import Derived.Test.YtgilikgghknbhaaMSxBldO
import Derived.Test.YtgilikgghknbhaaMPy14
set_option linter.unusedVariables false
set_option linter.unusedSimpArgs false
set_option linter.unnecessarySimpa false

namespace Go.Sx
open Go.Proofs
theorem wbody_ok (b : List UInt8) (t : TxS) (hwf : t.wf) (hb : b.length <= 100) : FnB Try.prog gl 60 [.ptr 0 0 [],txD t] [(0,.var (.agg [.sl (some 5) 1 (b.map D.u8)]))] (.tup []) [(0,.var (.agg [.sl (some 5) 1 ((b ++ bodyS t).map D.u8)]))] []:=by
 refine FnB.of (n:=68) (ids:=[0]) Try.func60 rfl rfl rfl (nU rfl) fun C hC hD=>?_
 have hc1:=countS_len t.ins.length
 have hc2:=countS_len t.outs.length
 have h1:=hwf.ins
 have h2:=hwf.outs
 have h3:=hwf.insb _ (Nat.le_refl _)
 have h4:=hwf.outsb _ (Nat.le_refl _)
 refine W.seq ?_
 refine W.l0 1 [] [] [] [(0,_),(1,_)] [(0,.var _)] 68 Zt O O O O (⟨O,_,R.box (gV 1 O) O O (nU O),tV [(0,_),(3,_)] [(3,.var _),(0,.var _)] 68 O O O ?_⟩)
 refine W.seq ?_
 refine W.l0 5 [.y 8 _,.y 9 _,.y 10 _,.y 11 _] [] [] [(0,_),(3,_),(8,_),(11,_)] [(3,.var _),(0,.var _)] 68 ⟨mU 0 O O,aU (fU 3 O O),aU (lU 9 O O O O O O O),aU fun _ _ H K=>R.lenE (SC.sl (K 10 _ O)) (lN _) H,Zt⟩ O O O O (⟨O,_,R.callB [(0,0)] hC (wcount_ok b t.ins.length (by omega)) (EvB.cons (gV 8 O) O O O (EvB.cons (gV 11 O) O O O EvB.nil)) O ⟨O,Zt⟩ ⟨O,Zt⟩ O O O O O O (nU O),tV [(0,_),(3,_)] [(3,.var _),(0,.var _)] 68 O O O ?_⟩)
 refine W.seq (W.seq ?_)
 refine W.l0 4 [.y 13 _,.y 14 _,.y 15 _,.y 16 _] [] [] [(0,_),(3,_),(14,_),(15,_),(16,_)] [(3,.var _),(0,.var _)] 68 ⟨aU (fU 3 O O),aU (lU 13 O O O O O O O),aU fun _ _ H K=>R.lenE (SC.sl (K 14 _ O)) (lN _) H,aU fun _ _ H _=>R.mov (kI 0 O) O H,Zt⟩ O O O O (tU O ?_)
 refine W.block ?_
 refine W.loop (α:={q__ : Nat // q__ <= t.ins.length}) (fun q__=>⟨68,[(0,.ptr 0 0 []),(3,.ptr 3 0 []),(14,.sl none 36 (t.ins.map inD)),(15,.int ((t.ins.length : Nat) : Int)),(16,.int ((q__.1 : Nat) : Int))],[(3,.var (.agg [.u32 t.ver,.sl none 36 (t.ins.map inD),.sl none 2 (t.outs.map outD),.u32 t.lock])),(0,.var (.agg [.sl (some 5) 1 ((b ++ countS t.ins.length ++ insS t.ins q__.1).map D.u8)]))]⟩) (fun q__=>t.ins.length - q__.1) ⟨(0),bU⟩ (by simp only [insS,List.append_nil]; rfl) ?_
 rintro ⟨i,hi⟩
 show W _ _ _ _ ⟨68,[(0,.ptr 0 0 []),(3,.ptr 3 0 []),(14,.sl none 36 (t.ins.map inD)),(15,.int ((t.ins.length : Nat) : Int)),(16,.int ((i : Nat) : Int))],[(3,.var (.agg [.u32 t.ver,.sl none 36 (t.ins.map inD),.sl none 2 (t.outs.map outD),.u32 t.lock])),(0,.var (.agg [.sl (some 5) 1 ((b ++ countS t.ins.length ++ insS t.ins i).map D.u8)]))]⟩
 have hi : i <= t.ins.length:=hi
 have hib:=hwf.insb i hi
 have hx : i < t.ins.length -> t.ins[i]!.tx.length = 32 /\ t.ins[i]!.script.length <= 1000000:=fun h=>⟨hwf.hash _ (get_mem h),hwf.insScript h⟩
 have hil:=itemS_len t.ins[i]!.script
 refine W.seq ?_
 refine W.l0 1 [.y 17 _] [] [] [(0,_),(3,_),(14,_),(15,_),(16,_),(17,_)] [(3,.var _),(0,.var _)] 68 ⟨aU fun _ _ H K=>R.lssN (i) (t.ins.length) (eU K 16 O) (eU K 15 O) H,Zt⟩ O O O O (tU O ?_)
 refine W.seq ?_
 refine W.condD O (fun hc17=>?_) (fun hc17=>?_)
 · refine W.skip (W.seq (W.block (W.seq ?_)))
   refine W.l0 4 [.y 18 _,.y 19 _] [] [] [(0,_),(3,_),(14,_),(15,_),(16,_),(19,_)] [(3,.var _),(0,.var _)] 68 ⟨aU fun _ _ H K=>R.idxN (i) (SC.sl (K 14 _ O)) (evoI (eU K 16 O)) O bU H dU,aU fun _ _ H K=>R.ldE (K 18 _ O) (SC.sl (K 14 _ O)) (map_get! (l:=t.ins) bU) O O O O H,Zt⟩ O O O O (⟨O,_,R.alloc O (nU O),⟨O,_,R.stZ (gU 5 O) (xU 5 O) O (gV 19 O) (by rfl) (by rfl) (by rfl) (by rfl) O,tV [(0,_),(3,_),(5,_),(14,_),(15,_),(16,_)] [(5,.var _),(3,.var _),(0,.var _)] 68 O O O ?_⟩⟩)
   refine W.seq ?_
   refine W.drawC (m:=9) (an:=[0,0,2,6,14,0,32,96,254,511,1023,2047]) (its:=[.y 20 _,.y 21 _,.y 22 _,.y 23 _,.y 24 _,.y 25 _,.y 26 _,.y 27 _,.y 28 _]) (ks:=[(8,24)]) (kk:=[(8,24)]) (live:=[0,3,5,14,15,16,20,28]) (env':=[(0,_),(3,_),(5,_),(14,_),(15,_),(16,_),(20,_),(28,_)]) (bx1:=[(5,.var _),(3,.var _),(0,.var _)]) [(5,_),(3,_)] 8 [0] hP dU O ⟨nU O,O,O,O⟩ ⟨O,⟨O,Zt⟩⟩ (        ⟨⟨O,O,fun _ τ hb ht hτ=>R.mov (evt (hτ 0 _ O)) O ht⟩,⟨⟨O,O,fun _ τ hb ht hτ=>R.mov (evt (hτ 0 _ O)) O ht⟩,⟨⟨O,O,fun _ τ hb ht hτ=>R.nilcP (hτ 21 _ O) ht⟩,⟨⟨O,O,fun _ τ hb ht hτ=>R.fdP (hτ 22 _ O) ht⟩,⟨⟨O,O,fun _ τ hb ht hτ=>R.ldO (hτ 23 _ O) (hb 0 _ O) O ht⟩,⟨⟨O,O,fun _ τ hb ht hτ=>R.fdP (hτ 5 _ O) ht⟩,⟨⟨O,O,fun _ τ hb ht hτ=>R.fdP (hτ 25 _ O) ht⟩,⟨⟨O,O,fun _ τ hb ht hτ=>R.slAN (0) (32) (32) (hτ 26 _ O) (hb 5 _ O) O O O O O bU bU O ht⟩,⟨⟨O,O,O,(SpC.appB (s:=24) O O O O O O (fun τ hb hτ=>(SrcO.sc (SC.va (hτ 27 _ O O O) (hb 5 _ O) O bU) (pur_part (fun _=>rfl)))) (show _ = ((((b ++ countS t.ins.length ++ insS t.ins i) ++ t.ins[i]!.tx)).map D.u8) from (by rw [List.drop_zero,List.take_of_length_le (by rw [List.length_map,(hx hc17).1]; exact Nat.le_refl _)]; simp)) bU dU dU O)⟩,Zt⟩⟩⟩⟩⟩⟩⟩⟩⟩) O O O (nU O) ⟨O,⟨O,Zt⟩⟩ O (n':=68) O (⟨O,_,R.nilcP (gU 20 O) (nU O),⟨O,_,R.fdP (gU 29 O) (nU O),⟨O,_,R.stOZ (gU 30 O) (xU 0 O) O (gU 28 O) O O (by rfl) (by rfl) O O,⟨[0,3,5,14,15,16],[(0,_),(3,_),(5,_),(14,_),(15,_),(16,_)],[(5,.var _),(3,.var _),(0,.var _)],68,O,O,O, ?_⟩⟩⟩⟩)
   refine W.seq ?_
   refine W.l0 6 [.y 31 _,.y 32 _,.y 33 _,.y 34 _,.y 35 _] [] [] [(0,_),(3,_),(5,_),(14,_),(15,_),(16,_),(31,_),(35,_)] [(5,.var _),(3,.var _),(0,.var _)] 68 ⟨mU 0 O O,aU (fU 5 O O),aU (fU 32 O O),aU (lU 33 O O O O O O O),aU fun _ _ H K=>R.conv (eU K 34 O) O H,Zt⟩ O O O O (⟨O,_,R.callB [(0,0)] hC (wnumber_ok ((b ++ countS t.ins.length ++ insS t.ins i) ++ t.ins[i]!.tx) t.ins[i]!.n.toUInt64 4 dU (by first | omega | (simp only [List.length_append,lowI_len,List.length_cons,List.length_nil]; omega) | simp)) (EvB.cons (gV 31 O) O O O (EvB.cons (gV 35 O) O O O (EvB.cons (kI 4 O) O O O EvB.nil))) O ⟨O,Zt⟩ ⟨O,Zt⟩ O O O O O O (nU O),tV [(0,_),(3,_),(5,_),(14,_),(15,_),(16,_)] [(5,.var _),(3,.var _),(0,.var _)] 68 O O O ?_⟩)
   refine W.seq ?_
   refine W.l0 4 [.y 37 _,.y 38 _,.y 39 _] [] [] [(0,_),(3,_),(5,_),(14,_),(15,_),(16,_),(37,_),(39,_)] [(5,.var _),(3,.var _),(0,.var _)] 68 ⟨mU 0 O O,aU (fU 5 O O),aU (lU 38 O O O O O O O),Zt⟩ O O O O (⟨O,_,R.callB [(0,0)] hC (witem_ok (((b ++ countS t.ins.length ++ insS t.ins i) ++ t.ins[i]!.tx) ++ lowI t.ins[i]!.n.toUInt64 4) t.ins[i]!.script (by first | omega | (simp only [List.length_append,lowI_len,List.length_cons,List.length_nil]; omega) | simp) (by omega)) (EvB.cons (gV 37 O) O O O (EvB.cons (gV 39 O) O O O EvB.nil)) O ⟨O,Zt⟩ ⟨O,Zt⟩ O O O O O O (nU O),tV [(0,_),(3,_),(5,_),(14,_),(15,_),(16,_)] [(5,.var _),(3,.var _),(0,.var _)] 68 O O O ?_⟩)
   refine W.l0 5 [.y 41 _,.y 42 _,.y 43 _,.y 44 _] [] [] [(0,_),(3,_),(14,_),(15,_),(16,_),(41,_),(44,_)] [(5,.var _),(3,.var _),(0,.var _)] 68 ⟨mU 0 O O,aU (fU 5 O O),aU (lU 42 O O O O O O O),aU fun _ _ H K=>R.conv (eU K 43 O) O H,Zt⟩ O O O O (⟨O,_,R.callB [(0,0)] hC (wnumber_ok ((((b ++ countS t.ins.length ++ insS t.ins i) ++ t.ins[i]!.tx) ++ lowI t.ins[i]!.n.toUInt64 4) ++ itemS t.ins[i]!.script) t.ins[i]!.seq.toUInt64 4 dU (by first | omega | (simp only [List.length_append,lowI_len,List.length_cons,List.length_nil]; omega) | simp)) (EvB.cons (gV 41 O) O O O (EvB.cons (gV 44 O) O O O (EvB.cons (kI 4 O) O O O EvB.nil))) O ⟨O,Zt⟩ ⟨O,Zt⟩ O O O O O O (nU O),tV [(0,_),(3,_),(14,_),(15,_),(16,_)] [(5,.var _),(3,.var _),(0,.var _)] 68 O O O ?_⟩)
   refine W.dropB [0,3] (bx':=[(3,.var _),(0,.var _)]) O O O (pin_sub hD O) ?_
   refine W.l0 2 [.y 46 _,.y 16 _] [] [] [(0,_),(3,_),(14,_),(15,_),(16,_)] [(3,.var _),(0,.var _)] 68 ⟨aU fun _ _ H K=>R.addN (i) (1) (eU K 16 O) (kI 1 O) bU H,mU 46 O O,Zt⟩ O O O O (tU O ?_)
   exact ⟨⟨(i + 1),bU⟩,(by simp only [insS,inS,List.append_assoc]; rfl),(by simp only []; omega)⟩
 · obtain rfl : i = t.ins.length:=by omega
   refine W.exit (W.seq ?_)
   refine W.l0 5 [.y 47 _,.y 48 _,.y 49 _,.y 50 _] [] [] [(0,_),(3,_),(47,_),(50,_)] [(3,.var _),(0,.var _)] 68 ⟨mU 0 O O,aU (fU 3 O O),aU (lU 48 O O O O O O O),aU fun _ _ H K=>R.lenE (SC.sl (K 49 _ O)) (lN _) H,Zt⟩ O O O O (⟨O,_,R.callB [(0,0)] hC (wcount_ok (b ++ countS t.ins.length ++ insS t.ins t.ins.length) t.outs.length (by simp only [List.length_append]; omega)) (EvB.cons (gV 47 O) O O O (EvB.cons (gV 50 O) O O O EvB.nil)) O ⟨O,Zt⟩ ⟨O,Zt⟩ O O O O O O (nU O),tV [(0,_),(3,_)] [(3,.var _),(0,.var _)] 68 O O O ?_⟩)
   refine W.seq ?_
   refine W.l0 4 [.y 52 _,.y 53 _,.y 54 _,.y 55 _] [] [] [(0,_),(53,_),(54,_),(55,_)] [(3,.var _),(0,.var _)] 68 ⟨aU (fU 3 O O),aU (lU 52 O O O O O O O),aU fun _ _ H K=>R.lenE (SC.sl (K 53 _ O)) (lN _) H,aU fun _ _ H _=>R.mov (kI 0 O) O H,Zt⟩ O O O O (tU O ?_)
   refine W.block ?_
   refine W.loop (α:={q__ : Nat // q__ <= t.outs.length}) (fun q__=>⟨68,[(0,.ptr 0 0 []),(53,.sl none 2 (t.outs.map outD)),(54,.int ((t.outs.length : Nat) : Int)),(55,.int ((q__.1 : Nat) : Int))],[(3,.var (.agg [.u32 t.ver,.sl none 36 (t.ins.map inD),.sl none 2 (t.outs.map outD),.u32 t.lock])),(0,.var (.agg [.sl (some 5) 1 (((b ++ countS t.ins.length ++ insS t.ins t.ins.length) ++ countS t.outs.length ++ outsS t.outs q__.1).map D.u8)]))]⟩) (fun q__=>t.outs.length - q__.1) ⟨(0),bU⟩ (by simp only [outsS,List.append_nil]; rfl) ?_
   rintro ⟨i,hi⟩
   show W _ _ _ _ ⟨68,[(0,.ptr 0 0 []),(53,.sl none 2 (t.outs.map outD)),(54,.int ((t.outs.length : Nat) : Int)),(55,.int ((i : Nat) : Int))],[(3,.var (.agg [.u32 t.ver,.sl none 36 (t.ins.map inD),.sl none 2 (t.outs.map outD),.u32 t.lock])),(0,.var (.agg [.sl (some 5) 1 (((b ++ countS t.ins.length ++ insS t.ins t.ins.length) ++ countS t.outs.length ++ outsS t.outs i).map D.u8)]))]⟩
   have hi : i <= t.outs.length:=hi
   have hib:=hwf.outsb i hi
   have hx : i < t.outs.length -> t.outs[i]!.script.length <= 1000000:=fun h=>hwf.outScript h
   have hil:=itemS_len t.outs[i]!.script
   refine W.seq ?_
   refine W.l0 1 [.y 56 _] [] [] [(0,_),(53,_),(54,_),(55,_),(56,_)] [(3,.var _),(0,.var _)] 68 ⟨aU fun _ _ H K=>R.lssN (i) (t.outs.length) (eU K 55 O) (eU K 54 O) H,Zt⟩ O O O O (tU O ?_)
   refine W.seq ?_
   refine W.condD O (fun hc56=>?_) (fun hc56=>?_)
   · refine W.skip (W.seq (W.block (W.seq ?_)))
     refine W.l0 4 [.y 57 _,.y 58 _] [] [] [(0,_),(53,_),(54,_),(55,_),(58,_)] [(3,.var _),(0,.var _)] 68 ⟨aU fun _ _ H K=>R.idxN (i) (SC.sl (K 53 _ O)) (evoI (eU K 55 O)) O bU H dU,aU fun _ _ H K=>R.ldE (K 57 _ O) (SC.sl (K 53 _ O)) (map_get! (l:=t.outs) bU) O O O O H,Zt⟩ O O O O (⟨O,_,R.alloc O (nU O),⟨O,_,R.stZ (gU 7 O) (xU 7 O) O (gV 58 O) (by rfl) (by rfl) (by rfl) (by rfl) O,tV [(0,_),(7,_),(53,_),(54,_),(55,_)] [(7,.var _),(3,.var _),(0,.var _)] 68 O O O ?_⟩⟩)
     refine W.seq ?_
     refine W.l0 4 [.y 59 _,.y 60 _,.y 61 _] [] [] [(0,_),(7,_),(53,_),(54,_),(55,_),(59,_),(61,_)] [(7,.var _),(3,.var _),(0,.var _)] 68 ⟨mU 0 O O,aU (fU 7 O O),aU (lU 60 O O O O O O O),Zt⟩ O O O O (⟨O,_,R.callB [(0,0)] hC (wnumber_ok ((b ++ countS t.ins.length ++ insS t.ins t.ins.length) ++ countS t.outs.length ++ outsS t.outs i) t.outs[i]!.value 8 dU (by first | omega | (simp only [List.length_append,lowI_len,List.length_cons,List.length_nil]; omega) | simp)) (EvB.cons (gV 59 O) O O O (EvB.cons (gV 61 O) O O O (EvB.cons (kI 8 O) O O O EvB.nil))) O ⟨O,Zt⟩ ⟨O,Zt⟩ O O O O O O (nU O),tV [(0,_),(7,_),(53,_),(54,_),(55,_)] [(7,.var _),(3,.var _),(0,.var _)] 68 O O O ?_⟩)
     refine W.l0 4 [.y 63 _,.y 64 _,.y 65 _] [] [] [(0,_),(53,_),(54,_),(55,_),(63,_),(65,_)] [(7,.var _),(3,.var _),(0,.var _)] 68 ⟨mU 0 O O,aU (fU 7 O O),aU (lU 64 O O O O O O O),Zt⟩ O O O O (⟨O,_,R.callB [(0,0)] hC (witem_ok (((b ++ countS t.ins.length ++ insS t.ins t.ins.length) ++ countS t.outs.length ++ outsS t.outs i) ++ lowI t.outs[i]!.value 8) t.outs[i]!.script (by first | omega | (simp only [List.length_append,lowI_len,List.length_cons,List.length_nil]; omega) | simp) (by omega)) (EvB.cons (gV 63 O) O O O (EvB.cons (gV 65 O) O O O EvB.nil)) O ⟨O,Zt⟩ ⟨O,Zt⟩ O O O O O O (nU O),tV [(0,_),(53,_),(54,_),(55,_)] [(7,.var _),(3,.var _),(0,.var _)] 68 O O O ?_⟩)
     refine W.dropB [0,3] (bx':=[(3,.var _),(0,.var _)]) O O O (pin_sub hD O) ?_
     refine W.l0 2 [.y 67 _,.y 55 _] [] [] [(0,_),(53,_),(54,_),(55,_)] [(3,.var _),(0,.var _)] 68 ⟨aU fun _ _ H K=>R.addN (i) (1) (eU K 55 O) (kI 1 O) bU H,mU 67 O O,Zt⟩ O O O O (tU O ?_)
     exact ⟨⟨(i + 1),bU⟩,(by simp only [outsS,outS',List.append_assoc]; rfl),(by simp only []; omega)⟩
   · obtain rfl : i = t.outs.length:=by omega
     refine W.exit ?_
     exact EndsB.none' (r:=.dead) (.inl O) O (by simp only [bodyS,List.append_assoc]; rfl) ⟨O,Zt⟩
end Go.Sx

namespace Go.Sx
open Go.Proofs
theorem witnessed_ok (t : TxS) (hwf : t.wf) : Fn Try.prog gl 57 [txD t] (.bool (seenS t)):=by
 refine Fn.of (n:=17) Try.func57 rfl rfl rfl (nU rfl) fun C hC hD=>?_
 have h1:=hwf.ins
 refine W.seq ?_
 refine W.l0 2 [] [] [] [(0,_)] [] 17 Zt O O O O (⟨O,_,R.box (gV 0 O) O O (nU O),⟨O,_,R.asg (kB false O) O (nU O),tV [(1,_)] [(1,.var _)] 17 O O O ?_⟩⟩)
 refine W.seq (W.seq ?_)
 refine W.l0 4 [.y 5 _,.y 6 _,.y 7 _,.y 8 _] [] [] [(6,_),(7,_),(8,_)] [(1,.var _)] 17 ⟨aU (fU 1 O O),aU (lU 5 O O O O O O O),aU fun _ _ H K=>R.lenE (SC.sl (K 6 _ O)) (lN _) H,aU fun _ _ H _=>R.mov (kI 0 O) O H,Zt⟩ O O O O (tU O ?_)
 refine W.block ?_
 refine W.loop (α:={q__ : Nat // q__ <= t.ins.length /\ ∀ k < q__,¬ 0 < t.ins[k]!.wit.length}) (fun q__=>⟨17,[(6,.sl none 36 (t.ins.map inD)),(7,.int ((t.ins.length : Nat) : Int)),(8,.int ((q__.1 : Nat) : Int))],[(1,.var (.agg [.u32 t.ver,.sl none 36 (t.ins.map inD),.sl none 2 (t.outs.map outD),.u32 t.lock]))]⟩) (fun q__=>t.ins.length - q__.1) ⟨(0),⟨Nat.zero_le _,fun k h=>absurd h (Nat.not_lt_zero _)⟩⟩ O ?_
 rintro ⟨i,⟨hi,hno⟩⟩
 show W _ _ _ _ ⟨17,[(6,.sl none 36 (t.ins.map inD)),(7,.int ((t.ins.length : Nat) : Int)),(8,.int ((i : Nat) : Int))],[(1,.var (.agg [.u32 t.ver,.sl none 36 (t.ins.map inD),.sl none 2 (t.outs.map outD),.u32 t.lock]))]⟩
 have hi : i <= t.ins.length:=hi
 have hno : ∀ k < i,¬ 0 < t.ins[k]!.wit.length:=hno
 have hwl : i < t.ins.length -> t.ins[i]!.wit.length <= 1000000:=fun h=>(hwf.witl _ (get_mem h)).1
 refine W.seq ?_
 refine W.l0 1 [.y 9 _] [] [] [(6,_),(7,_),(8,_),(9,_)] [(1,.var _)] 17 ⟨aU fun _ _ H K=>R.lssN (i) (t.ins.length) (eU K 8 O) (eU K 7 O) H,Zt⟩ O O O O (tU O ?_)
 refine W.seq ?_
 refine W.condD O (fun hc9=>?_) (fun hc9=>?_)
 · refine W.skip (W.seq (W.block (W.seq ?_)))
   refine W.l0 4 [.y 10 _,.y 11 _] [] [] [(6,_),(7,_),(8,_),(11,_)] [(1,.var _)] 17 ⟨aU fun _ _ H K=>R.idxN (i) (SC.sl (K 6 _ O)) (evoI (eU K 8 O)) O bU H dU,aU fun _ _ H K=>R.ldE (K 10 _ O) (SC.sl (K 6 _ O)) (map_get! (l:=t.ins) bU) O O O O H,Zt⟩ O O O O (⟨O,_,R.alloc O (nU O),⟨O,_,R.stZ (gU 4 O) (xU 4 O) O (gV 11 O) (by rfl) (by rfl) (by rfl) (by rfl) O,tV [(4,_),(6,_),(7,_),(8,_)] [(4,.var _),(1,.var _)] 17 O O O ?_⟩⟩)
   refine W.seq ?_
   refine W.l0 4 [.y 12 _,.y 13 _,.y 14 _,.y 15 _] [] [] [(6,_),(7,_),(8,_),(15,_)] [(4,.var _),(1,.var _)] 17 ⟨aU (fU 4 O O),aU (lU 12 O O O O O O O),aU fun _ _ H K=>R.lenE (SC.sl (K 13 _ O)) (lN _) H,aU fun _ _ H K=>R.gtrN (t.ins[i]!.wit.length) (0) (eU K 14 O) (kI 0 O) H,Zt⟩ O O O O (tU O ?_)
   refine W.condD O (fun hc15=>?_) (fun hc15=>?_)
   · refine W.seq ?_
     refine W.dropB [1] (bx':=[(1,.var _)]) O O O (pin_sub hD O) ?_
     refine W.l0 1 [.y 2 _] [] [] [(2,_)] [(1,.var _)] 17 ⟨aU fun _ _ H _=>R.asg (kB true O) O H,Zt⟩ O O O O (tU O ?_)
     refine W.ret ?_
     exact Ends.one' (.inr O) O ((congrArg D.bool (seen_true hc9 hc15)).symm) O O Zt
   · refine W.skip ?_
     refine W.dropB [1] (bx':=[(1,.var _)]) O O O (pin_sub hD O) ?_
     refine W.l0 2 [.y 16 _,.y 8 _] [] [] [(6,_),(7,_),(8,_)] [(1,.var _)] 17 ⟨aU fun _ _ H K=>R.addN (i) (1) (eU K 8 O) (kI 1 O) bU H,mU 16 O O,Zt⟩ O O O O (tU O ?_)
     exact ⟨⟨(i + 1),⟨by omega,fun k hk=>(Nat.lt_succ_iff_lt_or_eq.1 hk).elim (hno k) (fun e=>e ▸ hc15)⟩⟩,rfl,(by simp only []; omega)⟩
 · obtain rfl : i = t.ins.length:=by omega
   refine W.exit (W.seq ?_)
   refine W.l0 1 [.y 2 _] [] [] [(2,_)] [(1,.var _)] 17 ⟨aU fun _ _ H _=>R.asg (kB false O) O H,Zt⟩ O O O O (tU O ?_)
   refine W.ret ?_
   exact Ends.one' (.inr O) O ((congrArg D.bool (seen_false hno)).symm) O O Zt
theorem bare_ok (t : TxS) (hwf : t.wf) : Fn Try.prog gl 58 [txD t] (.sl (some 5) 1 ((bareS t).map D.u8)):=by
 refine Fn.of (n:=23) Try.func58 rfl rfl rfl (nU rfl) fun C hC hD=>?_
 refine W.seq ?_
 refine W.l0 2 [] [] [] [(0,_)] [] 23 Zt O O O O (⟨O,_,R.box (gV 0 O) O O (nU O),⟨O,_,R.asg (kN O) O (nU O),tV [(1,_)] [(1,.var _)] 23 O O O ?_⟩⟩)
 refine W.seq ?_
 refine W.l0 3 [.y 4 _] [] [] [(1,_),(4,_)] [(1,.var _)] 23 ⟨aU fun _ _ H _=>R.bldSE (l:=[.nils]) (l':=[_]) (.nil O) Zt H,Zt⟩ O O O O (⟨O,_,R.box (gV 4 O) O O (nU O),⟨O,_,R.asg (gV 5 O) O (nU O),tV [(1,_),(3,_)] [(5,.var _),(1,.var _)] 23 O O O ?_⟩⟩)
 refine W.seq ?_
 refine W.asOwnP 5 [0] 5 1 (bx':=[(5,.var _),(1,.var _)]) O O O O O ?_
 have hbl:=hwf.body
 refine W.l0 5 [.y 6 _,.y 7 _,.y 8 _,.y 9 _] [] [] [(1,_),(3,_),(6,_),(9,_)] [(5,.var _),(1,.var _)] 23 ⟨mU 3 O O,aU (fU 1 O O),aU (lU 7 O O O O O O O),aU fun _ _ H K=>R.conv (eU K 8 O) O H,Zt⟩ O O O O (⟨O,_,R.callB [(0,5)] hC (wnumber_ok [] t.ver.toUInt64 4 dU (by first | omega | (simp only [List.length_append,lowI_len,List.length_cons,List.length_nil]; omega) | simp)) (EvB.cons (gV 6 O) O O O (EvB.cons (gV 9 O) O O O (EvB.cons (kI 4 O) O O O EvB.nil))) O ⟨O,Zt⟩ ⟨O,Zt⟩ O O O O O O (nU O),tV [(1,_),(3,_)] [(5,.var _),(1,.var _)] 23 O O O ?_⟩)
 refine W.seq ?_
 refine W.l0 3 [.y 11 _,.y 12 _] [] [] [(1,_),(3,_),(11,_),(12,_)] [(5,.var _),(1,.var _)] 23 ⟨mU 3 O O,aU (lU 1 O O O O O O O),Zt⟩ O O O O (⟨O,_,R.callB [(0,5)] hC (wbody_ok ([] ++ lowI t.ver.toUInt64 4) t hwf (by first | omega | (simp only [List.length_append,lowI_len,List.length_cons,List.length_nil]; omega) | simp)) (EvB.cons (gV 11 O) O O O (EvB.cons (gV 12 O) O O O EvB.nil)) O ⟨O,Zt⟩ ⟨O,Zt⟩ O O O O O O (nU O),tV [(1,_),(3,_)] [(5,.var _),(1,.var _)] 23 O O O ?_⟩)
 refine W.seq ?_
 refine W.l0 5 [.y 14 _,.y 15 _,.y 16 _,.y 17 _] [] [] [(3,_),(14,_),(17,_)] [(5,.var _),(1,.var _)] 23 ⟨mU 3 O O,aU (fU 1 O O),aU (lU 15 O O O O O O O),aU fun _ _ H K=>R.conv (eU K 16 O) O H,Zt⟩ O O O O (⟨O,_,R.callB [(0,5)] hC (wnumber_ok (([] ++ lowI t.ver.toUInt64 4) ++ bodyS t) t.lock.toUInt64 4 dU (by first | omega | (simp only [List.length_append,lowI_len,List.length_cons,List.length_nil]; omega) | simp)) (EvB.cons (gV 14 O) O O O (EvB.cons (gV 17 O) O O O (EvB.cons (kI 4 O) O O O EvB.nil))) O ⟨O,Zt⟩ ⟨O,Zt⟩ O O O O O O (nU O),tV [(3,_)] [(5,.var _),(1,.var _)] 23 O O O ?_⟩)
 refine W.seq ?_
 refine W.l0 5 [.y 19 _,.y 20 _,.y 21 _,.y 22 _] [] [] [(22,_)] [(5,.var _),(1,.var _)] 23 ⟨mU 3 O O,aU fun _ _ H K=>R.nilcP (K 19 _ O) H,aU (fU 20 O O),aU fun _ B H K=>R.ldO (K 21 _ O) (B 5 _ O) O H,Zt⟩ O O O O (⟨O,_,R.asgBP (gU 22 O) (xU 5 O) O O O O (gU 22 O) (nU O) dU,tV [(2,_)] [(5,.var _),(1,.var _)] 23 O O O ?_⟩)
 refine W.ret ?_
 exact Ends.one' (.inr O) O (by simp only [bareS,List.nil_append]) O O Zt
theorem put_ok (t : TxS) (hwf : t.wf) : Fn Try.prog gl 42 [txD t] (.sl (some 5) 1 ((putS t).map D.u8)):=by
 refine Fn.of (n:=65) Try.func42 rfl rfl rfl (nU rfl) fun C hC hD=>?_
 have h1:=hwf.ins
 have hbl:=hwf.body
 have hw0:=hwf.witsb _ (Nat.le_refl _)
 refine W.seq ?_
 refine W.l0 2 [] [] [] [(0,_)] [] 65 Zt O O O O (⟨O,_,R.box (gV 0 O) O O (nU O),⟨O,_,R.asg (kN O) O (nU O),tV [(1,_)] [(1,.var _)] 65 O O O ?_⟩⟩)
 refine W.seq (W.seq ?_)
 refine W.l0 3 [.y 8 _,.y 9 _,.y 10 _] [] [] [(1,_),(10,_)] [(1,.var _)] 65 ⟨aU (lU 1 O O O O O O O),aU fun _ _ H K=>R.callG hC (witnessed_ok t hwf) (Bc (Bp (eU K 8 O) O O) Bn) (FrsR.one (.bool _)) H,aU fun _ _ H K=>R.un (eU K 9 O) O H,Zt⟩ O O O O (tU O ?_)
 refine W.cond O (fun hc10=>?_) (fun hc10=>?_)
 · refine W.seq ?_
   refine W.l0 3 [.y 11 _,.y 12 _,.y 2 _] [(2,12)] [(2,12)] [(2,_)] [(1,.var _)] 65 ⟨aU (lU 1 O O O O O O O),aU fun _ _ H K=>R.callG hC (bare_ok t hwf) (Bc (Bp (eU K 11 O) O O) Bn) (FrsR.one (.sl _ _ _ (frs_map fun _=>.u8 _))) H,aU fun _ _ H K=>R.asgO (K 12 _ O) O H dU,Zt⟩ O O O O (tU O ?_)
   refine W.ret ?_
   exact Ends.one' (.inr O) O (by rw [putS,if_neg (by simpa using hc10)]) O O Zt
 · refine W.skip (W.seq ?_)
   refine W.l0 3 [.y 13 _] [] [] [(1,_),(13,_)] [(1,.var _)] 65 ⟨aU fun _ _ H _=>R.bldSE (l:=[.nils]) (l':=[_]) (.nil O) Zt H,Zt⟩ O O O O (⟨O,_,R.box (gV 13 O) O O (nU O),⟨O,_,R.asg (gV 14 O) O (nU O),tV [(1,_),(3,_)] [(14,.var _),(1,.var _)] 65 O O O ?_⟩⟩)
   refine W.seq ?_
   refine W.asOwnP 14 [0] 5 1 (bx':=[(14,.var _),(1,.var _)]) O O O O O ?_
   refine W.l0 5 [.y 15 _,.y 16 _,.y 17 _,.y 18 _] [] [] [(1,_),(3,_),(15,_),(18,_)] [(14,.var _),(1,.var _)] 65 ⟨mU 3 O O,aU (fU 1 O O),aU (lU 16 O O O O O O O),aU fun _ _ H K=>R.conv (eU K 17 O) O H,Zt⟩ O O O O (⟨O,_,R.callB [(0,14)] hC (wnumber_ok [] t.ver.toUInt64 4 dU (by first | omega | (simp only [List.length_append,lowI_len,List.length_cons,List.length_nil]; omega) | simp)) (EvB.cons (gV 15 O) O O O (EvB.cons (gV 18 O) O O O (EvB.cons (kI 4 O) O O O EvB.nil))) O ⟨O,Zt⟩ ⟨O,Zt⟩ O O O O O O (nU O),tV [(1,_),(3,_)] [(14,.var _),(1,.var _)] 65 O O O ?_⟩)
   refine W.seq ?_
   refine W.l0 10 [.y 20 _,.y 21 _,.y 22 _,.y 23 _,.y 24 _,.y 25 _] [] [] [(1,_),(3,_),(20,_),(24,_),(25,_)] [(14,.var _),(1,.var _)] 65 ⟨mU 3 O O,mU 3 O O,aU fun _ _ H K=>R.nilcP (K 21 _ O) H,aU (fU 22 O O),aU fun _ B H K=>R.ldO (K 23 _ O) (B 14 _ O) O H,aU fun _ _ H _=>R.bslE (z:=1) (.cons (show ev _ _ (.const (.int .u8 0)) = some (.u8 0) from O) (.cons (show ev _ _ (.const (.int .u8 1)) = some (.u8 1) from O) .nil)) ⟨⟨O,O,O⟩,⟨O,O,O⟩,Zt⟩ O H dU,Zt⟩ O O O O (⟨O,_,R.appBP (gU 24 O) (xU 14 O) O O O O (gU 24 O) (SrcO.sc (SC.sl (gU 25 O)) (pur_lit O)) (show _ = (((([] ++ lowI t.ver.toUInt64 4) ++ [0,1])).map D.u8) from (by simp)) (by simp [lowI_len]) (nU O) dU dU,⟨O,_,R.nilcP (gU 20 O) (nU O),⟨O,_,R.fdP (gU 27 O) (nU O),⟨O,_,R.stOZ (gU 28 O) (xU 14 O) O (gU 26 O) O O (by rfl) (by rfl) O O,tV [(1,_),(3,_)] [(14,.var _),(1,.var _)] 65 O O O ?_⟩⟩⟩⟩)
   refine W.seq ?_
   refine W.l0 3 [.y 29 _,.y 30 _] [] [] [(1,_),(3,_),(29,_),(30,_)] [(14,.var _),(1,.var _)] 65 ⟨mU 3 O O,aU (lU 1 O O O O O O O),Zt⟩ O O O O (⟨O,_,R.callB [(0,14)] hC (wbody_ok (([] ++ lowI t.ver.toUInt64 4) ++ [0,1]) t hwf (by first | omega | (simp only [List.length_append,lowI_len,List.length_cons,List.length_nil]; omega) | simp)) (EvB.cons (gV 29 O) O O O (EvB.cons (gV 30 O) O O O EvB.nil)) O ⟨O,Zt⟩ ⟨O,Zt⟩ O O O O O O (nU O),tV [(1,_),(3,_)] [(14,.var _),(1,.var _)] 65 O O O ?_⟩)
   refine W.seq (W.seq ?_)
   refine W.l0 4 [.y 32 _,.y 33 _,.y 34 _,.y 35 _] [] [] [(1,_),(3,_),(33,_),(34,_),(35,_)] [(14,.var _),(1,.var _)] 65 ⟨aU (fU 1 O O),aU (lU 32 O O O O O O O),aU fun _ _ H K=>R.lenE (SC.sl (K 33 _ O)) (lN _) H,aU fun _ _ H _=>R.mov (kI 0 O) O H,Zt⟩ O O O O (tU O ?_)
   refine W.block ?_
   refine W.loop (α:={q__ : Nat // q__ <= t.ins.length}) (fun q__=>⟨65,[(1,.ptr 1 0 []),(3,.ptr 14 0 []),(33,.sl none 36 (t.ins.map inD)),(34,.int ((t.ins.length : Nat) : Int)),(35,.int ((q__.1 : Nat) : Int))],[(14,.var (.agg [.sl (some 5) 1 ((((([] ++ lowI t.ver.toUInt64 4) ++ [0,1]) ++ bodyS t) ++ witsS t.ins q__.1).map D.u8)])),(1,.var (.agg [.u32 t.ver,.sl none 36 (t.ins.map inD),.sl none 2 (t.outs.map outD),.u32 t.lock]))]⟩) (fun q__=>t.ins.length - q__.1) ⟨(0),bU⟩ (by simp only [witsS,List.append_nil]; rfl) ?_
   rintro ⟨i,hi⟩
   show W _ _ _ _ ⟨65,[(1,.ptr 1 0 []),(3,.ptr 14 0 []),(33,.sl none 36 (t.ins.map inD)),(34,.int ((t.ins.length : Nat) : Int)),(35,.int ((i : Nat) : Int))],[(14,.var (.agg [.sl (some 5) 1 ((((([] ++ lowI t.ver.toUInt64 4) ++ [0,1]) ++ bodyS t) ++ witsS t.ins i).map D.u8)])),(1,.var (.agg [.u32 t.ver,.sl none 36 (t.ins.map inD),.sl none 2 (t.outs.map outD),.u32 t.lock]))]⟩
   have hi : i <= t.ins.length:=hi
   have hib:=hwf.witsb i hi
   have hx : i < t.ins.length -> t.ins[i]!.wit.length <= 1000000 /\ ∀ j ≤ t.ins[i]!.wit.length,(witS t.ins[i]!.wit j).length <= 1500000:=fun h=>hwf.witl _ (get_mem h)
   have hcl:=countS_len t.ins[i]!.wit.length
   refine W.seq ?_
   refine W.l0 1 [.y 36 _] [] [] [(1,_),(3,_),(33,_),(34,_),(35,_),(36,_)] [(14,.var _),(1,.var _)] 65 ⟨aU fun _ _ H K=>R.lssN (i) (t.ins.length) (eU K 35 O) (eU K 34 O) H,Zt⟩ O O O O (tU O ?_)
   refine W.seq ?_
   refine W.condD O (fun hc36=>?_) (fun hc36=>?_)
   · refine W.skip (W.seq (W.block (W.seq ?_)))
     refine W.l0 4 [.y 37 _,.y 38 _] [] [] [(1,_),(3,_),(33,_),(34,_),(35,_),(38,_)] [(14,.var _),(1,.var _)] 65 ⟨aU fun _ _ H K=>R.idxN (i) (SC.sl (K 33 _ O)) (evoI (eU K 35 O)) O bU H dU,aU fun _ _ H K=>R.ldE (K 37 _ O) (SC.sl (K 33 _ O)) (map_get! (l:=t.ins) bU) O O O O H,Zt⟩ O O O O (⟨O,_,R.alloc O (nU O),⟨O,_,R.stZ (gU 5 O) (xU 5 O) O (gV 38 O) (by rfl) (by rfl) (by rfl) (by rfl) O,tV [(1,_),(3,_),(5,_),(33,_),(34,_),(35,_)] [(5,.var _),(14,.var _),(1,.var _)] 65 O O O ?_⟩⟩)
     refine W.seq ?_
     refine W.l0 5 [.y 39 _,.y 40 _,.y 41 _,.y 42 _] [] [] [(1,_),(3,_),(5,_),(33,_),(34,_),(35,_),(39,_),(42,_)] [(5,.var _),(14,.var _),(1,.var _)] 65 ⟨mU 3 O O,aU (fU 5 O O),aU (lU 40 O O O O O O O),aU fun _ _ H K=>R.lenE (SC.sl (K 41 _ O)) (lN _) H,Zt⟩ O O O O (⟨O,_,R.callB [(0,14)] hC (wcount_ok (((([] ++ lowI t.ver.toUInt64 4) ++ [0,1]) ++ bodyS t) ++ witsS t.ins i) t.ins[i]!.wit.length (by first | omega | (simp only [List.length_append,lowI_len,List.length_cons,List.length_nil]; omega) | simp)) (EvB.cons (gV 39 O) O O O (EvB.cons (gV 42 O) O O O EvB.nil)) O ⟨O,Zt⟩ ⟨O,Zt⟩ O O O O O O (nU O),tV [(1,_),(3,_),(5,_),(33,_),(34,_),(35,_)] [(5,.var _),(14,.var _),(1,.var _)] 65 O O O ?_⟩)
     refine W.seq ?_
     refine W.l0 4 [.y 44 _,.y 45 _,.y 46 _,.y 47 _] [] [] [(1,_),(3,_),(33,_),(34,_),(35,_),(45,_),(46,_),(47,_)] [(5,.var _),(14,.var _),(1,.var _)] 65 ⟨aU (fU 5 O O),aU (lU 44 O O O O O O O),aU fun _ _ H K=>R.lenE (SC.sl (K 45 _ O)) (lN _) H,aU fun _ _ H _=>R.mov (kI 0 O) O H,Zt⟩ O O O O (tU O ?_)
     refine W.block ?_
     refine W.loop (α:={q__ : Nat // q__ <= t.ins[i]!.wit.length}) (fun q__=>⟨65,[(1,.ptr 1 0 []),(3,.ptr 14 0 []),(33,.sl none 36 (t.ins.map inD)),(34,.int ((t.ins.length : Nat) : Int)),(35,.int ((i : Nat) : Int)),(45,.sl none 1 (t.ins[i]!.wit.map bytesD)),(46,.int ((t.ins[i]!.wit.length : Nat) : Int)),(47,.int ((q__.1 : Nat) : Int))],[(5,.var (inD t.ins[i]!)),(14,.var (.agg [.sl (some 5) 1 ((((((([] ++ lowI t.ver.toUInt64 4) ++ [0,1]) ++ bodyS t) ++ witsS t.ins i) ++ countS t.ins[i]!.wit.length) ++ witS t.ins[i]!.wit q__.1).map D.u8)])),(1,.var (.agg [.u32 t.ver,.sl none 36 (t.ins.map inD),.sl none 2 (t.outs.map outD),.u32 t.lock]))]⟩) (fun q__=>t.ins[i]!.wit.length - q__.1) ⟨(0),bU⟩ (by simp only [witS,List.append_nil]; rfl) ?_
     rintro ⟨j,hj⟩
     show W _ _ _ _ ⟨65,[(1,.ptr 1 0 []),(3,.ptr 14 0 []),(33,.sl none 36 (t.ins.map inD)),(34,.int ((t.ins.length : Nat) : Int)),(35,.int ((i : Nat) : Int)),(45,.sl none 1 (t.ins[i]!.wit.map bytesD)),(46,.int ((t.ins[i]!.wit.length : Nat) : Int)),(47,.int ((j : Nat) : Int))],[(5,.var (inD t.ins[i]!)),(14,.var (.agg [.sl (some 5) 1 ((((((([] ++ lowI t.ver.toUInt64 4) ++ [0,1]) ++ bodyS t) ++ witsS t.ins i) ++ countS t.ins[i]!.wit.length) ++ witS t.ins[i]!.wit j).map D.u8)])),(1,.var (.agg [.u32 t.ver,.sl none 36 (t.ins.map inD),.sl none 2 (t.outs.map outD),.u32 t.lock]))]⟩
     have hj : j <= t.ins[i]!.wit.length:=hj
     have hjb:=(hx (by omega)).2 j hj
     have hil:=itemS_len t.ins[i]!.wit[j]!
     have hwi : j < t.ins[i]!.wit.length -> t.ins[i]!.wit[j]!.length <= 1000000:=fun h=>hwf.witi _ (get_mem (show i < t.ins.length by omega)) _ (get_mem h)
     refine W.seq ?_
     refine W.l0 1 [.y 48 _] [] [] [(1,_),(3,_),(33,_),(34,_),(35,_),(45,_),(46,_),(47,_),(48,_)] [(5,.var _),(14,.var _),(1,.var _)] 65 ⟨aU fun _ _ H K=>R.lssN (j) (t.ins[i]!.wit.length) (eU K 47 O) (eU K 46 O) H,Zt⟩ O O O O (tU O ?_)
     refine W.seq ?_
     refine W.condD O (fun hc48=>?_) (fun hc48=>?_)
     · refine W.skip (W.seq (W.block (W.seq ?_)))
       refine W.l0 3 [.y 49 _,.y 50 _,.y 7 _] [] [] [(1,_),(3,_),(7,_),(33,_),(34,_),(35,_),(45,_),(46,_),(47,_)] [(5,.var _),(14,.var _),(1,.var _)] 65 ⟨aU fun _ _ H K=>R.idxN (j) (SC.sl (K 45 _ O)) (evoI (eU K 47 O)) O bU H dU,aU fun _ _ H K=>R.ldE (K 49 _ O) (SC.sl (K 45 _ O)) (map_get! (l:=t.ins[i]!.wit) bU) O O O O H,aU fun _ _ H K=>R.asg (eU K 50 O) O H,Zt⟩ O O O O (tU O ?_)
       refine W.l0 3 [.y 51 _,.y 52 _] [] [] [(1,_),(3,_),(33,_),(34,_),(35,_),(45,_),(46,_),(47,_),(51,_),(52,_)] [(5,.var _),(14,.var _),(1,.var _)] 65 ⟨mU 3 O O,mU 7 O O,Zt⟩ O O O O (⟨O,_,R.callB [(0,14)] hC (witem_ok (((((([] ++ lowI t.ver.toUInt64 4) ++ [0,1]) ++ bodyS t) ++ witsS t.ins i) ++ countS t.ins[i]!.wit.length) ++ witS t.ins[i]!.wit j) t.ins[i]!.wit[j]! (by first | omega | (simp only [List.length_append,lowI_len,List.length_cons,List.length_nil]; omega) | simp) (by omega)) (EvB.cons (gV 51 O) O O O (EvB.cons (gV 52 O) O O O EvB.nil)) O ⟨O,Zt⟩ ⟨O,Zt⟩ O O O O O O (nU O),tV [(1,_),(3,_),(33,_),(34,_),(35,_),(45,_),(46,_),(47,_)] [(5,.var _),(14,.var _),(1,.var _)] 65 O O O ?_⟩)
       refine W.l0 2 [.y 54 _,.y 47 _] [] [] [(1,_),(3,_),(33,_),(34,_),(35,_),(45,_),(46,_),(47,_)] [(5,.var _),(14,.var _),(1,.var _)] 65 ⟨aU fun _ _ H K=>R.addN (j) (1) (eU K 47 O) (kI 1 O) bU H,mU 54 O O,Zt⟩ O O O O (tU O ?_)
       exact ⟨⟨(j + 1),bU⟩,(by simp only [witS,List.append_assoc]; rfl),(by simp only []; omega)⟩
     · obtain rfl : j = t.ins[i]!.wit.length:=by omega
       refine W.exit ?_
       refine W.dropB [1,14] (bx':=[(14,.var _),(1,.var _)]) O O O (pin_sub hD O) ?_
       refine W.l0 2 [.y 55 _,.y 35 _] [] [] [(1,_),(3,_),(33,_),(34,_),(35,_)] [(14,.var _),(1,.var _)] 65 ⟨aU fun _ _ H K=>R.addN (i) (1) (eU K 35 O) (kI 1 O) bU H,mU 55 O O,Zt⟩ O O O O (tU O ?_)
       exact ⟨⟨(i + 1),bU⟩,(by simp only [witsS,List.append_assoc]),(by simp only []; omega)⟩
   · obtain rfl : i = t.ins.length:=by omega
     refine W.exit (W.seq ?_)
     refine W.l0 5 [.y 56 _,.y 57 _,.y 58 _,.y 59 _] [] [] [(3,_),(56,_),(59,_)] [(14,.var _),(1,.var _)] 65 ⟨mU 3 O O,aU (fU 1 O O),aU (lU 57 O O O O O O O),aU fun _ _ H K=>R.conv (eU K 58 O) O H,Zt⟩ O O O O (⟨O,_,R.callB [(0,14)] hC (wnumber_ok (((([] ++ lowI t.ver.toUInt64 4) ++ [0,1]) ++ bodyS t) ++ witsS t.ins t.ins.length) t.lock.toUInt64 4 dU (by first | omega | (simp only [List.length_append,lowI_len,List.length_cons,List.length_nil]; omega) | simp)) (EvB.cons (gV 56 O) O O O (EvB.cons (gV 59 O) O O O (EvB.cons (kI 4 O) O O O EvB.nil))) O ⟨O,Zt⟩ ⟨O,Zt⟩ O O O O O O (nU O),tV [(3,_)] [(14,.var _),(1,.var _)] 65 O O O ?_⟩)
     refine W.seq ?_
     refine W.l0 5 [.y 61 _,.y 62 _,.y 63 _,.y 64 _] [] [] [(64,_)] [(14,.var _),(1,.var _)] 65 ⟨mU 3 O O,aU fun _ _ H K=>R.nilcP (K 61 _ O) H,aU (fU 62 O O),aU fun _ B H K=>R.ldO (K 63 _ O) (B 14 _ O) O H,Zt⟩ O O O O (⟨O,_,R.asgBP (gU 64 O) (xU 14 O) O O O O (gU 64 O) (nU O) dU,tV [(2,_)] [(14,.var _),(1,.var _)] 65 O O O ?_⟩)
     refine W.ret ?_
     exact Ends.one' (.inr O) O (by rw [putS,if_pos (by simpa using hc10)]; rfl) O O Zt
end Go.Sx

namespace Go.Sx
open Go.Proofs
theorem may_ok (t : TxS) (hwf : t.wf) : Fn Try.prog gl 33 [txD t] (.bool (mayS t)):=by
 refine Fn.of (n:=64) Try.func33 rfl rfl rfl (nU rfl) fun C hC hD=>?_
 have h1:=hwf.ins
 have h2:=hwf.outs
 refine W.seq ?_
 refine W.l0 2 [] [] [] [(0,_)] [] 64 Zt O O O O (⟨O,_,R.box (gV 0 O) O O (nU O),⟨O,_,R.asg (kB false O) O (nU O),tV [(1,_)] [(1,.var _)] 64 O O O ?_⟩⟩)
 refine W.seq (W.seq ?_)
 by_cases hz : t.ins.length = 0
 · refine W.l0 10 [.y 11 _,.y 12 _,.y 13 _,.y 14 _,.y 15 _,.x 16,.x 17,.x 18,.x 19,.y 20 _] [] [] [(1,_),(20,_)] [(1,.var _)] 64 ⟨aU (fU 1 O O),aU (lU 11 O O O O O O O),aU fun _ _ H K=>R.lenE (SC.sl (K 12 _ O)) (lN _) H,aU fun _ _ H K=>R.eqlN (t.ins.length) (0) (eU K 13 O) (kI 0 O) H,mU 14 O O,aF O O (gT (dT hz) O),aF O O (gT (dT hz) O),aF O O (gT (dT hz) O),aF O O (gT (dT hz) O),aU fun _ _ H K=>R.pickT (eU K 15 O) (dT hz) (kB true O) O H,Zt⟩ O O O O (tU O ?_)
   refine W.condT O (O) ?_
   refine W.seq ?_
   refine W.l0 1 [.y 2 _] [] [] [(2,_)] [(1,.var _)] 64 ⟨aU fun _ _ H _=>R.asg (kB false O) O H,Zt⟩ O O O O (tU O ?_)
   refine W.ret ?_
   exact Ends.one' (.inr O) O (congrArg D.bool (may_f1 hz).symm) O O Zt
 · refine W.l0 10 [.y 11 _,.y 12 _,.y 13 _,.y 14 _,.y 15 _,.y 16 _,.y 17 _,.y 18 _,.y 19 _,.y 20 _] [] [] [(1,_),(20,_)] [(1,.var _)] 64 ⟨aU (fU 1 O O),aU (lU 11 O O O O O O O),aU fun _ _ H K=>R.lenE (SC.sl (K 12 _ O)) (lN _) H,aU fun _ _ H K=>R.eqlN (t.ins.length) (0) (eU K 13 O) (kI 0 O) H,mU 14 O O,aW O O (gF (dF hz) O) (fU 1 O O),aW O O (gF (dF hz) O) (lU 16 O O O O O O O),aW O O (gF (dF hz) O) fun _ _ H K=>R.lenE (SC.sl (K 17 _ O)) (lN _) H,aW O O (gF (dF hz) O) fun _ _ H K=>R.eqlN (t.outs.length) (0) (eU K 18 O) (kI 0 O) H,aU fun _ _ H K=>R.pickF (eU K 15 O) (dF hz) (eU K 19 O) O H,Zt⟩ O O O O (tU O ?_)
   refine W.condD O (fun hc20=>?_) (fun hc20=>?_)
   · refine W.seq ?_
     refine W.l0 1 [.y 2 _] [] [] [(2,_)] [(1,.var _)] 64 ⟨aU fun _ _ H _=>R.asg (kB false O) O H,Zt⟩ O O O O (tU O ?_)
     refine W.ret ?_
     exact Ends.one' (.inr O) O (congrArg D.bool (may_f2 hc20).symm) O O Zt
   · refine W.skip (W.seq ?_)
     refine W.l0 2 [] [] [] [(1,_)] [(1,.var _)] 64 Zt O O O O (⟨O,_,R.mkmapK placeK D.int O (nU O),⟨O,_,R.asg (gV 21 O) O (nU O),tV [(1,_),(3,_)] [(21,mpK placeK D.int _),(1,.var _)] 64 O O O ?_⟩⟩)
     refine W.seq (W.seq ?_)
     refine W.l0 4 [.y 22 _,.y 23 _,.y 24 _,.y 25 _] [] [] [(1,_),(3,_),(23,_),(24,_),(25,_)] [(21,mpK placeK D.int _),(1,.var _)] 64 ⟨aU (fU 1 O O),aU (lU 22 O O O O O O O),aU fun _ _ H K=>R.lenE (SC.sl (K 23 _ O)) (lN _) H,aU fun _ _ H _=>R.mov (kI 0 O) O H,Zt⟩ O O O O (tU O ?_)
     refine W.block ?_
     refine W.loop (α:={q__ : Nat // q__ <= t.ins.length /\ ∀ j < q__,kHas (seenM t.ins j) (plc t.ins[j]!) = false}) (fun q__=>⟨64,[(1,.ptr 1 0 []),(3,.map 21),(23,.sl none 36 (t.ins.map inD)),(24,.int ((t.ins.length : Nat) : Int)),(25,.int ((q__.1 : Nat) : Int))],[(21,mpK placeK D.int (seenM t.ins q__.1)),(1,.var (.agg [.u32 t.ver,.sl none 36 (t.ins.map inD),.sl none 2 (t.outs.map outD),.u32 t.lock]))]⟩) (fun q__=>t.ins.length - q__.1) ⟨(0),⟨Nat.zero_le _,fun j h=>absurd h (Nat.not_lt_zero _)⟩⟩ O ?_
     rintro ⟨i,⟨hi,hno⟩⟩
     show W _ _ _ _ ⟨64,[(1,.ptr 1 0 []),(3,.map 21),(23,.sl none 36 (t.ins.map inD)),(24,.int ((t.ins.length : Nat) : Int)),(25,.int ((i : Nat) : Int))],[(21,mpK placeK D.int (seenM t.ins i)),(1,.var (.agg [.u32 t.ver,.sl none 36 (t.ins.map inD),.sl none 2 (t.outs.map outD),.u32 t.lock]))]⟩
     have hi : i <= t.ins.length:=hi
     have hno : ∀ j < i,kHas (seenM t.ins j) (plc t.ins[j]!) = false:=hno
     refine W.seq ?_
     refine W.l0 1 [.y 26 _] [] [] [(1,_),(3,_),(23,_),(24,_),(25,_),(26,_)] [(21,mpK placeK D.int _),(1,.var _)] 64 ⟨aU fun _ _ H K=>R.lssN (i) (t.ins.length) (eU K 25 O) (eU K 24 O) H,Zt⟩ O O O O (tU O ?_)
     refine W.seq ?_
     refine W.condD O (fun hc26=>?_) (fun hc26=>?_)
     · refine W.skip (W.seq (W.block (W.seq ?_)))
       refine W.l0 6 [.y 27 _,.y 28 _,.y 29 _] [] [] [(1,_),(3,_),(23,_),(24,_),(25,_),(27,_),(29,_)] [(21,mpK placeK D.int _),(1,.var _)] 64 ⟨mU 25 O O,aU fun _ _ H K=>R.idxN (i) (SC.sl (K 23 _ O)) (evoI (eU K 25 O)) O bU H dU,aU fun _ _ H K=>R.ldE (K 28 _ O) (SC.sl (K 23 _ O)) (map_get! (l:=t.ins) bU) O O O O H,Zt⟩ O O O O (⟨O,_,R.alloc O (nU O),⟨O,_,R.asg (gV 27 O) O (nU O),⟨O,_,R.stZ (gU 5 O) (xU 5 O) O (gV 29 O) (by rfl) (by rfl) (by rfl) (by rfl) O,tV [(1,_),(3,_),(4,_),(5,_),(23,_),(24,_),(25,_)] [(5,.var _),(21,mpK placeK D.int _),(1,.var _)] 64 O O O ?_⟩⟩⟩)
       refine W.seq (W.seq ?_)
       refine W.l0 9 [.y 31 _,.y 32 _,.y 33 _,.y 34 _,.y 30 _,.y 35 _,.y 36 _,.y 6 _,.y 7 _] [] [] [(1,_),(3,_),(4,_),(5,_),(7,_),(23,_),(24,_),(25,_)] [(5,.var _),(21,mpK placeK D.int _),(1,.var _)] 64 ⟨mU 3 O O,aU (fU 5 O O),aU (lU 32 O O O O O O O),aU fun _ B H K=>R.lookK (k:=plc t.ins[i]!) (z:=0) place_key (K 31 _ O) (B 21 _ O) (eU K 33 O) O O (fun _=>rfl) H,aU fun _ _ H K=>R.movT (K 34 _ O) O H,aU fun _ _ H K=>R.ext (K 30 _ O) O O H,aU fun _ _ H K=>R.ext (K 30 _ O) O O H,aU fun _ _ H K=>R.asg (eU K 35 O) O H,aU fun _ _ H K=>R.asg (eU K 36 O) O H,Zt⟩ O O O O (tU O ?_)
       refine W.seq ?_
       refine W.l0 1 [.y 37 _] [] [] [(1,_),(3,_),(4,_),(5,_),(23,_),(24,_),(25,_),(37,_)] [(5,.var _),(21,mpK placeK D.int _),(1,.var _)] 64 ⟨mU 7 O O,Zt⟩ O O O O (tU O ?_)
       refine W.cond O (fun hc37=>?_) (fun hc37=>?_)
       · refine W.seq ?_
         refine W.dropS (live:=[]) (env':=[]) (bx':=[(5,.var _),(21,mpK placeK D.int _),(1,.var _)]) (n':=64) O O O ?_
         refine W.dropBP [1,21] (bx':=[(21,mpK placeK D.int _),(1,.var _)]) O O ⟨okMpK (fun _=>rfl) (fun _=>rfl),⟨O,Zt⟩⟩ (pin_sub hD O) ?_
         refine W.l0 1 [.y 2 _] [] [] [(2,_)] [(21,mpK placeK D.int _),(1,.var _)] 64 ⟨aU fun _ _ H _=>R.asg (kB false O) O H,Zt⟩ O O O O (tU O ?_)
         refine W.ret ?_
         exact Ends.one' (.inr O) O (congrArg D.bool (may_f3 hc26 hc37).symm) O O Zt
       · refine W.skip ?_
         refine W.l0 5 [.y 38 _,.y 39 _,.y 40 _,.y 41 _] [] [] [(1,_),(3,_),(23,_),(24,_),(25,_),(38,_),(40,_),(41,_)] [(5,.var _),(21,mpK placeK D.int _),(1,.var _)] 64 ⟨mU 3 O O,aU (fU 5 O O),aU (lU 39 O O O O O O O),mU 4 O O,Zt⟩ O O O O (⟨O,_,R.mupdN (k:=plc t.ins[i]!) (u:=((i : Nat) : Int)) place_key (gU 38 O) (xU 21 O) (gV 40 O) O (gV 41 O) O O (hc37),tV [(1,_),(3,_),(23,_),(24,_),(25,_)] [(5,.var _),(21,mpK placeK D.int _),(1,.var _)] 64 O O O ?_⟩)
         refine W.dropBP [1,21] (bx':=[(21,mpK placeK D.int _),(1,.var _)]) O O ⟨okMpK (fun _=>rfl) (fun _=>rfl),⟨O,Zt⟩⟩ (pin_sub hD O) ?_
         refine W.l0 2 [.y 42 _,.y 25 _] [] [] [(1,_),(3,_),(23,_),(24,_),(25,_)] [(21,mpK placeK D.int _),(1,.var _)] 64 ⟨aU fun _ _ H K=>R.addN (i) (1) (eU K 25 O) (kI 1 O) bU H,mU 42 O O,Zt⟩ O O O O (tU O ?_)
         exact ⟨⟨(i + 1),⟨by omega,fun j hj=>(Nat.lt_succ_iff_lt_or_eq.1 hj).elim (hno j) (fun e=>e ▸ hc37)⟩⟩,rfl,(by simp only []; omega)⟩
     · obtain rfl : i = t.ins.length:=by omega
       refine W.exit (W.seq ?_)
       refine W.l0 1 [.y 8 _] [] [] [(1,_),(8,_)] [(21,mpK placeK D.int _),(1,.var _)] 64 ⟨aU fun _ _ H _=>R.asg (show ev _ _ (.const (.int .u64 0)) = some (.u64 0) from O) O H,Zt⟩ O O O O (tU O ?_)
       refine W.seq (W.seq ?_)
       refine W.l0 4 [.y 43 _,.y 44 _,.y 45 _,.y 46 _] [] [] [(1,_),(8,_),(44,_),(45,_),(46,_)] [(21,mpK placeK D.int _),(1,.var _)] 64 ⟨aU (fU 1 O O),aU (lU 43 O O O O O O O),aU fun _ _ H K=>R.lenE (SC.sl (K 44 _ O)) (lN _) H,aU fun _ _ H _=>R.mov (kI 0 O) O H,Zt⟩ O O O O (tU O ?_)
       refine W.block ?_
       refine W.loop (α:={q__ : Nat // q__ <= t.outs.length /\ ∀ j < q__,¬ 2100000000000000 < t.outs[j]!.value /\ ¬ 2100000000000000 < sumI t.outs (j + 1)}) (fun q__=>⟨64,[(1,.ptr 1 0 []),(8,.u64 (sumI t.outs q__.1)),(44,.sl none 2 (t.outs.map outD)),(45,.int ((t.outs.length : Nat) : Int)),(46,.int ((q__.1 : Nat) : Int))],[(21,mpK placeK D.int (seenM t.ins t.ins.length)),(1,.var (.agg [.u32 t.ver,.sl none 36 (t.ins.map inD),.sl none 2 (t.outs.map outD),.u32 t.lock]))]⟩) (fun q__=>t.outs.length - q__.1) ⟨(0),⟨Nat.zero_le _,fun j h=>absurd h (Nat.not_lt_zero _)⟩⟩ O ?_
       rintro ⟨i,⟨hi,hmo⟩⟩
       show W _ _ _ _ ⟨64,[(1,.ptr 1 0 []),(8,.u64 (sumI t.outs i)),(44,.sl none 2 (t.outs.map outD)),(45,.int ((t.outs.length : Nat) : Int)),(46,.int ((i : Nat) : Int))],[(21,mpK placeK D.int (seenM t.ins t.ins.length)),(1,.var (.agg [.u32 t.ver,.sl none 36 (t.ins.map inD),.sl none 2 (t.outs.map outD),.u32 t.lock]))]⟩
       have hi : i <= t.outs.length:=hi
       have hmo : ∀ j < i,¬ 2100000000000000 < t.outs[j]!.value /\ ¬ 2100000000000000 < sumI t.outs (j + 1):=hmo
       refine W.seq ?_
       refine W.l0 1 [.y 47 _] [] [] [(1,_),(8,_),(44,_),(45,_),(46,_),(47,_)] [(21,mpK placeK D.int _),(1,.var _)] 64 ⟨aU fun _ _ H K=>R.lssN (i) (t.outs.length) (eU K 46 O) (eU K 45 O) H,Zt⟩ O O O O (tU O ?_)
       refine W.seq ?_
       refine W.condD O (fun hc47=>?_) (fun hc47=>?_)
       · refine W.skip (W.seq (W.block (W.seq ?_)))
         refine W.l0 4 [.y 48 _,.y 49 _] [] [] [(1,_),(8,_),(44,_),(45,_),(46,_),(49,_)] [(21,mpK placeK D.int _),(1,.var _)] 64 ⟨aU fun _ _ H K=>R.idxN (i) (SC.sl (K 44 _ O)) (evoI (eU K 46 O)) O bU H dU,aU fun _ _ H K=>R.ldE (K 48 _ O) (SC.sl (K 44 _ O)) (map_get! (l:=t.outs) bU) O O O O H,Zt⟩ O O O O (⟨O,_,R.alloc O (nU O),⟨O,_,R.stZ (gU 10 O) (xU 10 O) O (gV 49 O) (by rfl) (by rfl) (by rfl) (by rfl) O,tV [(1,_),(8,_),(10,_),(44,_),(45,_),(46,_)] [(10,.var _),(21,mpK placeK D.int _),(1,.var _)] 64 O O O ?_⟩⟩)
         refine W.seq (W.seq ?_)
         refine W.l0 3 [.y 50 _,.y 51 _,.y 52 _] [] [] [(1,_),(8,_),(10,_),(44,_),(45,_),(46,_),(52,_)] [(10,.var _),(21,mpK placeK D.int _),(1,.var _)] 64 ⟨aU (fU 10 O O),aU (lU 50 O O O O O O O),aU fun _ _ H K=>R.bin (eU K 51 O) (show ev _ _ (.const (.int .u64 2100000000000000)) = some (.u64 2100000000000000) from O) O Zt H,Zt⟩ O O O O (tU O ?_)
         refine W.cond O (fun hc52=>?_) (fun hc52=>?_)
         · refine W.seq ?_
           refine W.dropS (live:=[]) (env':=[]) (bx':=[(10,.var _),(21,mpK placeK D.int _),(1,.var _)]) (n':=64) O O O ?_
           refine W.dropBP [1,21] (bx':=[(21,mpK placeK D.int _),(1,.var _)]) O O ⟨okMpK (fun _=>rfl) (fun _=>rfl),⟨O,Zt⟩⟩ (pin_sub hD O) ?_
           refine W.l0 1 [.y 2 _] [] [] [(2,_)] [(21,mpK placeK D.int _),(1,.var _)] 64 ⟨aU fun _ _ H _=>R.asg (kB false O) O H,Zt⟩ O O O O (tU O ?_)
           refine W.ret ?_
           exact Ends.one' (.inr O) O (congrArg D.bool (may_f4 hc47 (of_decide_eq_true hc52)).symm) O O Zt
         · refine W.skip (W.seq ?_)
           refine W.l0 5 [.y 53 _,.y 54 _,.y 55 _,.y 56 _,.y 8 _] [] [] [(1,_),(8,_),(44,_),(45,_),(46,_)] [(10,.var _),(21,mpK placeK D.int _),(1,.var _)] 64 ⟨mU 8 O O,aU (fU 10 O O),aU (lU 54 O O O O O O O),aU fun _ _ H K=>R.bin (eU K 53 O) (eU K 55 O) O Zt H,aU fun _ _ H K=>R.asg (eU K 56 O) O H,Zt⟩ O O O O (tU O ?_)
           refine W.seq ?_
           refine W.dropBP [1,21] (bx':=[(21,mpK placeK D.int _),(1,.var _)]) O O ⟨okMpK (fun _=>rfl) (fun _=>rfl),⟨O,Zt⟩⟩ (pin_sub hD O) ?_
           refine W.l0 2 [.y 57 _,.y 58 _] [] [] [(1,_),(8,_),(44,_),(45,_),(46,_),(58,_)] [(21,mpK placeK D.int _),(1,.var _)] 64 ⟨mU 8 O O,aU fun _ _ H K=>R.bin (eU K 57 O) (show ev _ _ (.const (.int .u64 2100000000000000)) = some (.u64 2100000000000000) from O) O Zt H,Zt⟩ O O O O (tU O ?_)
           refine W.cond O (fun hc58=>?_) (fun hc58=>?_)
           · refine W.seq ?_
             refine W.l0 1 [.y 2 _] [] [] [(2,_)] [(21,mpK placeK D.int _),(1,.var _)] 64 ⟨aU fun _ _ H _=>R.asg (kB false O) O H,Zt⟩ O O O O (tU O ?_)
             refine W.ret ?_
             exact Ends.one' (.inr O) O (congrArg D.bool (may_f5 hc47 (of_decide_eq_true hc58)).symm) O O Zt
           · refine W.skip ?_
             refine W.l0 2 [.y 59 _,.y 46 _] [] [] [(1,_),(8,_),(44,_),(45,_),(46,_)] [(21,mpK placeK D.int _),(1,.var _)] 64 ⟨aU fun _ _ H K=>R.addN (i) (1) (eU K 46 O) (kI 1 O) bU H,mU 59 O O,Zt⟩ O O O O (tU O ?_)
             exact ⟨⟨(i + 1),⟨by omega,fun j hj=>(Nat.lt_succ_iff_lt_or_eq.1 hj).elim (hmo j) (fun e=>e ▸ ⟨of_decide_eq_false hc52,of_decide_eq_false hc58⟩)⟩⟩,rfl,(by simp only []; omega)⟩
       · obtain rfl : i = t.outs.length:=by omega
         refine W.exit (W.seq ?_)
         refine W.l0 5 [.y 60 _,.y 61 _,.y 62 _,.y 63 _,.y 2 _] [] [] [(2,_)] [(21,mpK placeK D.int _),(1,.var _)] 64 ⟨aU (lU 1 O O O O O O O),aU fun _ _ H K=>R.callG hC (put_ok t hwf) (Bc (Bp (eU K 60 O) O O) Bn) (FrsR.one (.sl _ _ _ (frs_map fun _=>.u8 _))) H,aU fun _ _ H K=>R.lenE (SC.sl (K 61 _ O)) (lN _) H,aU fun _ _ H K=>R.leqN ((putS t).length) (16384) (eU K 62 O) (kI 16384 O) H,aU fun _ _ H K=>R.asg (eU K 63 O) O H,Zt⟩ O O O O (tU O ?_)
         refine W.ret ?_
         exact Ends.one' (.inr O) O (congrArg D.bool (may_fin hz hc20 hno hmo).symm) O O Zt
end Go.Sx

namespace Go.Sx
open Go.Proofs
theorem make_ok (l : List Un) (ws : List Wnt) (r : UInt64) (hl : l.length <= 4096) (hx : hs32 l) (hw : ws.length <= 1000000) (own : List UInt8) (ho : own.length <= 1000000) : Fn Try.prog gl 15 [.sl none 35 (l.map coD),.sl none 2 (ws.map wntD),.sl none 1 (own.map D.u8),.u64 r] (.tup [txD (mkT l ws own r),.int (mkE l ws own r)]):=by
 refine Fn.of (n:=78) Try.func15 rfl rfl rfl (nU rfl) fun C hC hD=>?_
 have hcl:=chC_len l ws r
 refine W.seq ?_
 refine W.l0 2 [] [] [] [(0,_),(1,_),(2,_),(3,_)] [] 78 Zt O O O O (⟨O,_,R.alloc O (nU O),⟨O,_,R.asg (kI 0 O) O (nU O),tV [(0,_),(1,_),(2,_),(3,_),(8,_)] [(8,.var _)] 78 O O O ?_⟩⟩)
 refine W.seq ?_
 refine W.l0 11 [.y 20 _,.y 21 _,.y 22 _,.y 23 _,.y 19 _,.y 24 _,.y 25 _,.y 26 _,.y 10 _,.y 11 _,.y 12 _] [] [] [(1,_),(2,_),(8,_),(10,_),(11,_),(12,_)] [(8,.var _)] 78 ⟨mU 0 O O,mU 1 O O,mU 3 O O,aU fun _ _ H K=>R.callPE hC (choose_ok l ws r hl hx hw) (EvP.cons (eU K 20 O) O O (EvP.cons (eU K 21 O) O O (EvP.cons (eU K 22 O) O O EvP.nil))) H,aU fun _ _ H K=>R.movT (K 23 _ O) O H,aU fun _ _ H K=>R.ext (K 19 _ O) O O H,aU fun _ _ H K=>R.ext (K 19 _ O) O O H,aU fun _ _ H K=>R.ext (K 19 _ O) O O H,aU fun _ _ H K=>R.asg (eU K 24 O) O H,aU fun _ _ H K=>R.asg (eU K 25 O) O H,aU fun _ _ H K=>R.asg (eU K 26 O) O H,Zt⟩ O O O O (tU O ?_)
 refine W.seq (W.block (W.seq ?_))
 refine W.l0 3 [.y 28 _,.y 29 _,.y 27 _] [] [] [(1,_),(2,_),(8,_),(10,_),(11,_),(12,_),(27,_)] [(8,.var _)] 78 ⟨mU 12 O O,aU fun _ _ H K=>R.bin (eU K 28 O) (kI 0 O) O Zt H,aU fun _ _ H K=>R.asg (eU K 29 O) O H,Zt⟩ O O O O (tU O ?_)
 refine W.cond O (fun hc27=>?_) (fun hc27=>?_)
 · refine W.seq ?_
   refine W.l0 4 [.y 30 _,.y 31 _] [] [] [(8,_),(30,_),(31,_)] [(8,.var _)] 78 ⟨aU fun _ _ H _=>R.bldSE (l:=[.u32 0,.nils,.nils,.u32 0]) (l':=[_,_,_,_]) (.nil O) Zt H,mU 12 O O,Zt⟩ O O O O (⟨O,_,R.stZ (gU 8 O) (xU 8 O) O (gV 30 O) (by rfl) (by rfl) (by rfl) (by rfl) O,⟨O,_,R.asg (gV 31 O) O (nU O),tV [(8,_),(9,_)] [(8,.var _)] 78 O O O ?_⟩⟩)
   refine W.wkB 8 (d':=txD zeroT) (bx':=[(8,.var _)]) O wk_zeroT O ?_
   refine W.ret ?_
   exact Ends.many (.inr O) (.cons O O O (show LdT _ 30 4 true from inferInstance) (.cons O O O Zt .nil)) (mk_1 (by simpa using hc27)) (show [(8,false),(9,true)].Nodup by decide)
 · refine W.seq ?_
   have he : chE l ws r = 0:=by simpa using hc27
   have hq:=chE_P he
   refine W.l0 4 [.y 33 _,.y 34 _,.y 35 _,.y 32 _] [] [] [(1,_),(2,_),(8,_),(10,_),(11,_),(32,_)] [(8,.var _)] 78 ⟨mU 2 O O,aU fun _ _ H K=>R.lenE (SC.sl (K 33 _ O)) (lN _) H,aU fun _ _ H K=>R.gtrN (own.length) (1000) (eU K 34 O) (kI 1000 O) H,aU fun _ _ H K=>R.asg (eU K 35 O) O H,Zt⟩ O O O O (tU O ?_)
   refine W.condD O (fun hc32=>?_) (fun hc32=>?_)
   · refine W.seq ?_
     refine W.l0 3 [.y 36 _] [] [] [(8,_),(36,_)] [(8,.var _)] 78 ⟨aU fun _ _ H _=>R.bldSE (l:=[.u32 0,.nils,.nils,.u32 0]) (l':=[_,_,_,_]) (.nil O) Zt H,Zt⟩ O O O O (⟨O,_,R.stZ (gU 8 O) (xU 8 O) O (gV 36 O) (by rfl) (by rfl) (by rfl) (by rfl) O,⟨O,_,R.asg (kI 1 O) O (nU O),tV [(8,_),(9,_)] [(8,.var _)] 78 O O O ?_⟩⟩)
     refine W.wkB 8 (d':=txD zeroT) (bx':=[(8,.var _)]) O wk_zeroT O ?_
     refine W.ret ?_
     exact Ends.many (.inr O) (.cons O O O (show LdT _ 30 4 true from inferInstance) (.cons O O O Zt .nil)) (mk_2 he (by first | exact hc32 | exact of_decide_eq_true hc32)) (show [(8,false),(9,true)].Nodup by decide)
   · refine W.skip (W.seq ?_)
     refine W.l0 3 [.y 37 _] [] [] [(1,_),(2,_),(8,_),(10,_),(11,_),(37,_)] [(8,.var _)] 78 ⟨aU fun _ _ H _=>R.bldSE (l:=[.u32 0,.nils,.nils,.u32 0]) (l':=[_,_,_,_]) (.cons (show ev _ _ (.const (.int .u32 2)) = some (.u32 2) from O) (.nil O)) ⟨⟨_,(show ev _ _ (.const (.int .u32 2)) = some (.u32 2) from O),O,O,O⟩,Zt⟩ H,Zt⟩ O O O O (⟨O,_,R.alloc O (nU O),⟨O,_,R.stZ (gU 13 O) (xU 13 O) O (gV 37 O) (by rfl) (by rfl) (by rfl) (by rfl) O,tV [(1,_),(2,_),(8,_),(10,_),(11,_),(13,_)] [(13,.var _),(8,.var _)] 78 O O O ?_⟩⟩)
     refine W.seq (W.seq ?_)
     refine W.asOwnP 13 [1] 46 36 (bx':=[(13,.var _),(8,.var _)]) O O O O O ?_
     refine W.l0 3 [.y 38 _,.y 39 _,.y 40 _] [] [] [(1,_),(2,_),(8,_),(11,_),(13,_),(38,_),(39,_),(40,_)] [(13,.var _),(8,.var _)] 78 ⟨mU 10 O O,aU fun _ _ H K=>R.lenE (SC.sl (K 38 _ O)) (lN _) H,aU fun _ _ H _=>R.mov (kI 0 O) O H,Zt⟩ O O O O (tU O ?_)
     refine W.block ?_
     refine W.loop (α:={q__ : Nat // q__ <= (chC l ws r).length}) (fun q__=>⟨78,[(1,.sl none 2 (ws.map wntD)),(2,.sl none 1 (own.map D.u8)),(8,.ptr 8 0 []),(11,.u64 (chV l ws r)),(13,.ptr 13 0 []),(38,.sl none 35 ((chC l ws r).map coD)),(39,.int (((chC l ws r).length : Nat) : Int)),(40,.int ((q__.1 : Nat) : Int))],[(13,.var (.agg [.u32 2,.sl (some 46) 36 (((chC l ws r).take q__.1).map inC),.nils,.u32 0])),(8,.var (.agg [.u32 0,.nils,.nils,.u32 0]))]⟩) (fun q__=>(chC l ws r).length - q__.1) ⟨(0),bU⟩ O ?_
     rintro ⟨i,hi⟩
     show W _ _ _ _ ⟨78,[(1,.sl none 2 (ws.map wntD)),(2,.sl none 1 (own.map D.u8)),(8,.ptr 8 0 []),(11,.u64 (chV l ws r)),(13,.ptr 13 0 []),(38,.sl none 35 ((chC l ws r).map coD)),(39,.int (((chC l ws r).length : Nat) : Int)),(40,.int ((i : Nat) : Int))],[(13,.var (.agg [.u32 2,.sl (some 46) 36 (((chC l ws r).take i).map inC),.nils,.u32 0])),(8,.var (.agg [.u32 0,.nils,.nils,.u32 0]))]⟩
     have hi : i <= (chC l ws r).length:=hi
     refine W.seq ?_
     refine W.l0 1 [.y 41 _] [] [] [(1,_),(2,_),(8,_),(11,_),(13,_),(38,_),(39,_),(40,_),(41,_)] [(13,.var _),(8,.var _)] 78 ⟨aU fun _ _ H K=>R.lssN (i) ((chC l ws r).length) (eU K 40 O) (eU K 39 O) H,Zt⟩ O O O O (tU O ?_)
     refine W.seq ?_
     refine W.condD O (fun hc41=>?_) (fun hc41=>?_)
     · refine W.skip (W.seq (W.block (W.seq ?_)))
       refine W.l0 4 [.y 42 _,.y 43 _] [] [] [(1,_),(2,_),(8,_),(11,_),(13,_),(38,_),(39,_),(40,_),(43,_)] [(13,.var _),(8,.var _)] 78 ⟨aU fun _ _ H K=>R.idxN (i) (SC.sl (K 38 _ O)) (evoI (eU K 40 O)) O bU H dU,aU fun _ _ H K=>R.ldE (K 42 _ O) (SC.sl (K 38 _ O)) (map_get! (l:=(chC l ws r)) bU) O O O O H,Zt⟩ O O O O (⟨O,_,R.alloc O (nU O),⟨O,_,R.stZ (gU 15 O) (xU 15 O) O (gV 43 O) (by rfl) (by rfl) (by rfl) (by rfl) O,tV [(1,_),(2,_),(8,_),(11,_),(13,_),(15,_),(38,_),(39,_),(40,_)] [(15,.var _),(13,.var _),(8,.var _)] 78 O O O ?_⟩⟩)
       refine W.l0 9 [.y 44 _,.y 45 _,.y 46 _,.y 47 _,.y 48 _,.y 49 _] [] [] [(1,_),(2,_),(8,_),(11,_),(13,_),(38,_),(39,_),(40,_),(45,_),(49,_)] [(15,.var _),(13,.var _),(8,.var _)] 78 ⟨aU (fU 13 O O),aU fun _ B H K=>R.ldO (K 44 _ O) (B 13 _ O) O H,aU (fU 15 O O),aU (lU 46 O O O O O O O),aU fun _ _ H K=>R.bldSE (l:=[.agg [.arr 32 1 ((List.replicate 32 0).map D.u8),.u32 0],.nils,.u32 0,.nils]) (l':=[_,_,_,_]) (.cons (eU K 47 O) (.cons (show ev _ _ (.const (.int .u32 4294967295)) = some (.u32 4294967295) from O) (.nil O))) ⟨⟨_,(eU K 47 O),O,O,O⟩,⟨⟨_,(show ev _ _ (.const (.int .u32 4294967295)) = some (.u32 4294967295) from O),O,O,O⟩,Zt⟩⟩ H,aU fun _ _ H K=>R.bslE (z:=36) (.cons (eU K 48 O) .nil) ⟨⟨O,O,O⟩,Zt⟩ O H dU,Zt⟩ O O O O (⟨O,_,R.appBP (gU 45 O) (xU 13 O) O O O O (gU 45 O) (SrcO.sc (SC.sl (gU 49 O)) (pur_lit O)) (show _ = (((chC l ws r).take (i + 1)).map inC) from (mkI_app hc41)) bU (nU O) dU dU,⟨O,_,R.fdP (gU 13 O) (nU O),⟨O,_,R.stOZ (gU 51 O) (xU 13 O) O (gU 50 O) O O (by rfl) (by rfl) O O,tV [(1,_),(2,_),(8,_),(11,_),(13,_),(38,_),(39,_),(40,_)] [(15,.var _),(13,.var _),(8,.var _)] 78 O O O ?_⟩⟩⟩)
       refine W.dropB [8,13] (bx':=[(13,.var _),(8,.var _)]) O O O (pin_sub hD O) ?_
       refine W.l0 2 [.y 52 _,.y 40 _] [] [] [(1,_),(2,_),(8,_),(11,_),(13,_),(38,_),(39,_),(40,_)] [(13,.var _),(8,.var _)] 78 ⟨aU fun _ _ H K=>R.addN (i) (1) (eU K 40 O) (kI 1 O) bU H,mU 52 O O,Zt⟩ O O O O (tU O ?_)
       exact ⟨⟨(i + 1),bU⟩,rfl,(by simp only []; omega)⟩
     · obtain rfl : i = (chC l ws r).length:=by omega
       rw [List.take_length]
       refine W.exit (W.seq ?_)
       refine W.wkB 13 (d':=.agg [.u32 2,.sl (some 46) 36 ((chC l ws r).map inC),.sl (some 48) 2 (([] : List OutS).map outOwn),.u32 0]) (bx':=[(13,.var _),(8,.var _)]) O (wk_mkE _ _) O ?_
       refine W.l0 2 [.y 53 _,.y 16 _] [] [] [(1,_),(2,_),(8,_),(11,_),(13,_),(16,_)] [(13,.var _),(8,.var _)] 78 ⟨aU fun _ _ H K=>R.mkfn1 (eU K 13 O) O O H,aU fun _ _ H K=>R.asg (eU K 53 O) O H,Zt⟩ O O O O (tU O ?_)
       refine W.seq (W.seq ?_)
       refine W.l0 3 [.y 54 _,.y 55 _,.y 56 _] [] [] [(2,_),(8,_),(11,_),(13,_),(16,_),(54,_),(55,_),(56,_)] [(13,.var _),(8,.var _)] 78 ⟨mU 1 O O,aU fun _ _ H K=>R.lenE (SC.sl (K 54 _ O)) (lN _) H,aU fun _ _ H _=>R.mov (kI 0 O) O H,Zt⟩ O O O O (tU O ?_)
       refine W.block ?_
       refine W.loop (α:={q__ : Nat // q__ <= ws.length}) (fun q__=>⟨78,[(2,.sl none 1 (own.map D.u8)),(8,.ptr 8 0 []),(11,.u64 (chV l ws r)),(13,.ptr 13 0 []),(16,.fn 31 [.ptr 13 0 []]),(54,.sl none 2 (ws.map wntD)),(55,.int ((ws.length : Nat) : Int)),(56,.int ((q__.1 : Nat) : Int))],[(13,.var (.agg [.u32 2,.sl (some 46) 36 ((chC l ws r).map inC),.sl (some 48) 2 (((ws.take q__.1).map woS).map outOwn),.u32 0])),(8,.var (.agg [.u32 0,.nils,.nils,.u32 0]))]⟩) (fun q__=>ws.length - q__.1) ⟨(0),bU⟩ O ?_
       rintro ⟨i,hi⟩
       show W _ _ _ _ ⟨78,[(2,.sl none 1 (own.map D.u8)),(8,.ptr 8 0 []),(11,.u64 (chV l ws r)),(13,.ptr 13 0 []),(16,.fn 31 [.ptr 13 0 []]),(54,.sl none 2 (ws.map wntD)),(55,.int ((ws.length : Nat) : Int)),(56,.int ((i : Nat) : Int))],[(13,.var (.agg [.u32 2,.sl (some 46) 36 ((chC l ws r).map inC),.sl (some 48) 2 (((ws.take i).map woS).map outOwn),.u32 0])),(8,.var (.agg [.u32 0,.nils,.nils,.u32 0]))]⟩
       have hi : i <= ws.length:=hi
       refine W.seq ?_
       refine W.l0 1 [.y 57 _] [] [] [(2,_),(8,_),(11,_),(13,_),(16,_),(54,_),(55,_),(56,_),(57,_)] [(13,.var _),(8,.var _)] 78 ⟨aU fun _ _ H K=>R.lssN (i) (ws.length) (eU K 56 O) (eU K 55 O) H,Zt⟩ O O O O (tU O ?_)
       refine W.seq ?_
       refine W.condD O (fun hc57=>?_) (fun hc57=>?_)
       · refine W.skip (W.seq (W.block (W.seq ?_)))
         refine W.l0 4 [.y 58 _,.y 59 _] [] [] [(2,_),(8,_),(11,_),(13,_),(16,_),(54,_),(55,_),(56,_),(59,_)] [(13,.var _),(8,.var _)] 78 ⟨aU fun _ _ H K=>R.idxN (i) (SC.sl (K 54 _ O)) (evoI (eU K 56 O)) O bU H dU,aU fun _ _ H K=>R.ldE (K 58 _ O) (SC.sl (K 54 _ O)) (map_get! (l:=ws) bU) O O O O H,Zt⟩ O O O O (⟨O,_,R.alloc O (nU O),⟨O,_,R.stZ (gU 18 O) (xU 18 O) O (gV 59 O) (by rfl) (by rfl) (by rfl) (by rfl) O,tV [(2,_),(8,_),(11,_),(13,_),(16,_),(18,_),(54,_),(55,_),(56,_)] [(18,.var _),(13,.var _),(8,.var _)] 78 O O O ?_⟩⟩)
         refine W.l0 6 [.y 60 _,.y 61 _,.y 62 _,.y 63 _,.y 64 _] [] [] [(2,_),(8,_),(11,_),(13,_),(16,_),(54,_),(55,_),(56,_),(60,_),(62,_),(64,_)] [(18,.var _),(13,.var _),(8,.var _)] 78 ⟨mU 16 O O,aU (fU 18 O O),aU (lU 61 O O O O O O O),aU (fU 18 O O),aU (lU 63 O O O O O O O),Zt⟩ O O O O (⟨O,_,R.callVB (ds:=[.sl none 1 (ws[i]!.script.map D.u8),.u64 ws[i]!.value]) (caps:=[.ptr 0 0 []]) [(0,13)] hC (gU 60 O) O O (make1_ok (chC l ws r) ((ws.take i).map woS) ws[i]!.script ws[i]!.value (by simp only [List.length_map,List.length_take]; have:=hq.1.2.1; omega) (by have:=(hq.1.2.2 i hc57).2.2; omega)) (EvB.cons (gV 62 O) O O O (EvB.cons (gV 64 O) O O O EvB.nil)) O ⟨O,Zt⟩ ⟨O,Zt⟩ O O O O O O (nU O),tV [(2,_),(8,_),(11,_),(13,_),(16,_),(54,_),(55,_),(56,_)] [(18,.var _),(13,.var _),(8,.var _)] 78 O O O ?_⟩)
         refine W.dropB [8,13] (bx':=[(13,.var _),(8,.var _)]) O O O (pin_sub hD O) ?_
         refine W.l0 2 [.y 66 _,.y 56 _] [] [] [(2,_),(8,_),(11,_),(13,_),(16,_),(54,_),(55,_),(56,_)] [(13,.var _),(8,.var _)] 78 ⟨aU fun _ _ H K=>R.addN (i) (1) (eU K 56 O) (kI 1 O) bU H,mU 66 O O,Zt⟩ O O O O (tU O ?_)
         exact ⟨⟨(i + 1),bU⟩,(by dsimp only; rw [woS_app hc57] <;> rfl),(by simp only []; omega)⟩
       · obtain rfl : i = ws.length:=by omega
         rw [List.take_length]
         refine W.exit ?_
         refine W.seqM (fun s__=>∃ q__ : {q__ : Unit // True},s__ = ⟨78,[(8,.ptr 8 0 []),(13,.ptr 13 0 [])],[(13,.var (.agg [.u32 2,.sl (some 46) 36 ((chC l ws r).map inC),.sl (some 48) 2 ((mkO ws (chV l ws r) own).map outOwn),.u32 0])),(8,.var (.agg [.u32 0,.nils,.nils,.u32 0]))]⟩) ?_ ?_
         · refine W.seq ?_
           refine W.l0 2 [.y 67 _,.y 68 _] [] [] [(2,_),(8,_),(11,_),(13,_),(16,_),(68,_)] [(13,.var _),(8,.var _)] 78 ⟨mU 11 O O,aU fun _ _ H K=>R.bin (eU K 67 O) (show ev _ _ (.const (.int .u64 0)) = some (.u64 0) from O) O Zt H,Zt⟩ O O O O (tU O ?_)
           refine W.cond O (fun hc68=>?_) (fun hc68=>?_)
           · refine W.l0 4 [.y 69 _,.y 70 _,.y 71 _] [] [] [(8,_),(13,_),(69,_),(70,_),(71,_)] [(13,.var _),(8,.var _)] 78 ⟨mU 16 O O,mU 2 O O,mU 11 O O,Zt⟩ O O O O (⟨O,_,R.callVB (ds:=[.sl none 1 (own.map D.u8),.u64 (chV l ws r)]) (caps:=[.ptr 0 0 []]) [(0,13)] hC (gU 69 O) O O (make1_ok (chC l ws r) (ws.map woS) own (chV l ws r) (by simp only [List.length_map]; have:=hq.1.2.1; omega) (ho)) (EvB.cons (gV 70 O) O O O (EvB.cons (gV 71 O) O O O EvB.nil)) O ⟨O,Zt⟩ ⟨O,Zt⟩ O O O O O O (nU O),tV [(8,_),(13,_)] [(13,.var _),(8,.var _)] 78 O O O ?_⟩)
             exact ⟨⟨(()),Zt⟩,(by rw [mkO_y (of_decide_eq_true hc68)] <;> rfl)⟩
           · refine W.dropS (live:=[8,13]) (env':=[(8,_),(13,_)]) (bx':=[(13,.var _),(8,.var _)]) (n':=78) O O O ?_
             refine W.skip ?_
             exact ⟨⟨(()),Zt⟩,(by rw [mkO_n (of_decide_eq_false hc68)] <;> rfl)⟩
         · rintro s__ ⟨⟨_,_⟩,rfl⟩
           refine W.seq (W.seq ?_)
           refine W.wkB 13 (d':=txOwn (mkX l ws own r)) (bx':=[(13,.var _),(8,.var _)]) O (wk_mk _ _) O ?_
           refine W.brwB 13 (d':=txD (mkX l ws own r)) (bx':=[(13,.var _),(8,.var _)]) O (brw_txOwn _) O ?_
           refine W.l0 3 [.y 73 _,.y 74 _,.y 75 _] [] [] [(8,_),(13,_),(75,_)] [(13,.var _),(8,.var _)] 78 ⟨aU (lU 13 O O O O O O O),aU fun _ _ H K=>R.callG hC (may_ok (mkX l ws own r) (mkX_wf hl hx he (by first | exact hc32 | exact of_decide_eq_false hc32 | simpa using hc32))) (Bc (Bp (eU K 73 O) O O) Bn) (FrsR.one (.bool _)) H,aU fun _ _ H K=>R.un (eU K 74 O) O H,Zt⟩ O O O O (tU O ?_)
           refine W.cond O (fun hc75=>?_) (fun hc75=>?_)
           · refine W.seq ?_
             refine W.l0 3 [.y 76 _] [] [] [(8,_),(76,_)] [(13,.var _),(8,.var _)] 78 ⟨aU fun _ _ H _=>R.bldSE (l:=[.u32 0,.nils,.nils,.u32 0]) (l':=[_,_,_,_]) (.nil O) Zt H,Zt⟩ O O O O (⟨O,_,R.stZ (gU 8 O) (xU 8 O) O (gV 76 O) (by rfl) (by rfl) (by rfl) (by rfl) O,⟨O,_,R.asg (kI 6 O) O (nU O),tV [(8,_),(9,_)] [(13,.var _),(8,.var _)] 78 O O O ?_⟩⟩)
             refine W.wkB 8 (d':=txD zeroT) (bx':=[(13,.var _),(8,.var _)]) O wk_zeroT O ?_
             refine W.ret ?_
             exact Ends.many (.inr O) (.cons O O O (show LdT _ 30 4 true from inferInstance) (.cons O O O Zt .nil)) (mk_3 he (by first | exact hc32 | exact of_decide_eq_false hc32) (by simpa using hc75)) (show [(8,false),(9,true)].Nodup by decide)
           · refine W.skip (W.seq ?_)
             refine W.l0 3 [.y 77 _] [] [] [(8,_),(77,_)] [(13,.var _),(8,.var _)] 78 ⟨aU (lU 13 O O O O O O O),Zt⟩ O O O O (⟨O,_,R.stZ (gU 8 O) (xU 8 O) O (gV 77 O) (by rfl) (by rfl) (by rfl) (by rfl) O,⟨O,_,R.asg (kI 0 O) O (nU O),tV [(8,_),(9,_)] [(13,.var _),(8,.var _)] 78 O O O ?_⟩⟩)
             refine W.ret ?_
             exact Ends.many (.inr O) (.cons O O O (show LdT _ 30 4 true from inferInstance) (.cons O O O Zt .nil)) (mk_4 he (by first | exact hc32 | exact of_decide_eq_false hc32) (by simpa using hc75)) (show [(8,false),(9,true)].Nodup by decide)
end Go.Sx

namespace Go.Sx
open Go.Proofs
def inI (l : List Un) (t : TxS) : Nat -> UInt64
 | 0=>0
 | i + 1=>inI l t i + kGet 0 (purI l l.length) (plc t.ins[i]!)
def lftO (l : List Un) (t : TxS) : Nat -> UInt64
 | 0=>inI l t t.ins.length
 | j + 1=>lftO l t j - t.outs[j]!.value
def ckI (l : List Un) (t : TxS) (i : Nat) : Prop:=kHas (purI l l.length) (plc t.ins[i]!) = true
instance (l : List Un) (t : TxS) (i : Nat) : Decidable (ckI l t i):=by unfold ckI; infer_instance
def ckP (l : List Un) (t : TxS) : Prop:=purP l /\ mayS t = true
instance (l : List Un) (t : TxS) : Decidable (ckP l t):=by unfold ckP; infer_instance
def ckQ (l : List Un) (t : TxS) : Prop:=(∀ i < t.ins.length,ckI l t i) /\ ∀ j < t.outs.length,¬ lftO l t j < t.outs[j]!.value
instance (l : List Un) (t : TxS) : Decidable (ckQ l t):=by unfold ckQ; infer_instance
def ckV (l : List Un) (t : TxS) : UInt64:=if ckP l t /\ ckQ l t then lftO l t t.outs.length else 0
def ckE (l : List Un) (t : TxS) : Int:=if ckP l t then (if ckQ l t then 0 else 14) else 1
theorem ck_1 {l : List Un} {t : TxS} (h : ¬ ckP l t) : [D.u64 0,D.int 1] = [.u64 (ckV l t),.int (ckE l t)]:=by
 rw [ckV,ckE,if_neg (fun hh=>h hh.1),if_neg h]
theorem ck_2 {l : List Un} {t : TxS} {i : Nat} (h : ckP l t) (hi : i < t.ins.length) (hn : kHas (purI l l.length) (plc t.ins[i]!) = false) : [D.u64 0,D.int 14] = [.u64 (ckV l t),.int (ckE l t)]:=by
 have hq : ¬ ckQ l t:=fun hq=>by
  have h1 : kHas _ _ = true:=hq.1 i hi
  rw [hn] at h1; cases h1
 rw [ckV,ckE,if_neg (fun hh=>hq hh.2),if_pos h,if_neg hq]
theorem ck_3 {l : List Un} {t : TxS} {j : Nat} (h : ckP l t) (hj : j < t.outs.length) (hn : lftO l t j < t.outs[j]!.value) : [D.u64 0,D.int 14] = [.u64 (ckV l t),.int (ckE l t)]:=by
 have hq : ¬ ckQ l t:=fun hq=>hq.2 j hj hn
 rw [ckV,ckE,if_neg (fun hh=>hq hh.2),if_pos h,if_neg hq]
theorem ck_4 {l : List Un} {t : TxS} (h : ckP l t) (h1 : ∀ i < t.ins.length,ckI l t i) (h2 : ∀ j < t.outs.length,¬ lftO l t j < t.outs[j]!.value) : [D.u64 (lftO l t t.outs.length),D.int 0] = [.u64 (ckV l t),.int (ckE l t)]:=by
 rw [ckV,ckE,if_pos ⟨h,h1,h2⟩,if_pos h,if_pos ⟨h1,h2⟩]
end Go.Sx

namespace Go.Sx
open Go.Proofs
end Go.Sx

namespace Go.Sx
open Go.Proofs
theorem check_ok (l : List Un) (t : TxS) (hl : l.length <= 4096) (hx : hs32 l) (hwf : t.wf) : Fn Try.prog gl 18 [.sl none 35 (l.map coD),txD t] (.tup [.u64 (ckV l t),.int (ckE l t)]):=by
 refine Fn.of (n:=63) Try.func18 rfl rfl rfl (nU rfl) fun C hC hD=>?_
 have h1:=hwf.ins
 have h2:=hwf.outs
 refine W.seq ?_
 refine W.l0 3 [] [] [] [(0,_),(1,_)] [] 63 Zt O O O O (⟨O,_,R.box (gV 1 O) O O (nU O),⟨O,_,R.asg (show ev _ _ (.const (.int .u64 0)) = some (.u64 0) from O) O (nU O),⟨O,_,R.asg (kI 0 O) O (nU O),tV [(0,_),(3,_),(4,_)] [(3,.var _)] 63 O O O ?_⟩⟩⟩)
 refine W.seq ?_
 by_cases hp : purP l
 · refine W.l0 7 [.y 15 _] [] [] [(3,_),(4,_),(15,_)] [(3,.var _)] 63 ⟨mU 0 O O,Zt⟩ O O O O (⟨O,_,R.callB [(12,16)] hC (purse_t l hl hp) (EvB.cons (gV 15 O) O O O EvB.nil) O Zt Zt O (renPu _ _ _ _) O O O O (nU O),⟨O,_,R.movT (gU 16 O) O (nU O),⟨O,_,R.ext (gU 14 O) O O (nU O),⟨O,_,R.ext (gU 14 O) O O (nU O),⟨O,_,R.asg (gV 17 O) O (nU O),⟨O,_,R.asg (gV 18 O) O (nU O),tV [(3,_),(4,_),(6,_),(7,_)] [(16,mpK placeK D.u64 _),(3,.var _)] 63 O O O ?_⟩⟩⟩⟩⟩⟩)
   refine W.seq (W.seq ?_)
   refine W.l0 7 [.y 19 _,.y 20 _,.y 21 _,.y 22 _,.y 23 _,.y 24 _,.y 25 _] [] [] [(3,_),(4,_),(6,_),(25,_)] [(16,mpK placeK D.u64 _),(3,.var _)] 63 ⟨mU 7 O O,aU fun _ _ H K=>R.un (eU K 19 O) O H,mU 20 O O,aW O O (gF (O) O) (lU 3 O O O O O O O),aW O O (gF (O) O) fun _ _ H K=>R.callG hC (may_ok t hwf) (Bc (Bp (eU K 22 O) O O) Bn) (FrsR.one (.bool _)) H,aW O O (gF (O) O) fun _ _ H K=>R.un (eU K 23 O) O H,aU fun _ _ H K=>R.pickF (eU K 21 O) (O) (eU K 24 O) O H,Zt⟩ O O O O (tU O ?_)
   refine W.cond O (fun hc25=>?_) (fun hc25=>?_)
   · refine W.seq ?_
     refine W.l0 2 [.y 4 _,.y 5 _] [] [] [(4,_),(5,_)] [(16,mpK placeK D.u64 _),(3,.var _)] 63 ⟨aU fun _ _ H _=>R.asg (show ev _ _ (.const (.int .u64 0)) = some (.u64 0) from O) O H,aU fun _ _ H _=>R.asg (kI 1 O) O H,Zt⟩ O O O O (tU O ?_)
     refine W.ret ?_
     exact Ends.many (.inr O) (.cons O O O Zt (.cons O O O Zt .nil)) (ck_1 (fun h=>by rw [h.2] at hc25; cases hc25)) (show [(4,true),(5,true)].Nodup by decide)
   · refine W.skip (W.seq (W.seq ?_))
     refine W.l0 4 [.y 26 _,.y 27 _,.y 28 _,.y 29 _] [] [] [(3,_),(4,_),(6,_),(27,_),(28,_),(29,_)] [(16,mpK placeK D.u64 _),(3,.var _)] 63 ⟨aU (fU 3 O O),aU (lU 26 O O O O O O O),aU fun _ _ H K=>R.lenE (SC.sl (K 27 _ O)) (lN _) H,aU fun _ _ H _=>R.mov (kI 0 O) O H,Zt⟩ O O O O (tU O ?_)
     refine W.block ?_
     refine W.loop (α:={q__ : Nat // q__ <= t.ins.length /\ ∀ j < q__,ckI l t j}) (fun q__=>⟨63,[(3,.ptr 3 0 []),(4,.u64 (inI l t q__.1)),(6,.map 16),(27,.sl none 36 (t.ins.map inD)),(28,.int ((t.ins.length : Nat) : Int)),(29,.int ((q__.1 : Nat) : Int))],[(16,mpK placeK D.u64 (purI l l.length)),(3,.var (.agg [.u32 t.ver,.sl none 36 (t.ins.map inD),.sl none 2 (t.outs.map outD),.u32 t.lock]))]⟩) (fun q__=>t.ins.length - q__.1) ⟨(0),⟨Nat.zero_le _,fun j h=>absurd h (Nat.not_lt_zero _)⟩⟩ O ?_
     rintro ⟨i,⟨hi,hok⟩⟩
     show W _ _ _ _ ⟨63,[(3,.ptr 3 0 []),(4,.u64 (inI l t i)),(6,.map 16),(27,.sl none 36 (t.ins.map inD)),(28,.int ((t.ins.length : Nat) : Int)),(29,.int ((i : Nat) : Int))],[(16,mpK placeK D.u64 (purI l l.length)),(3,.var (.agg [.u32 t.ver,.sl none 36 (t.ins.map inD),.sl none 2 (t.outs.map outD),.u32 t.lock]))]⟩
     have hi : i <= t.ins.length:=hi
     have hok : ∀ j < i,ckI l t j:=hok
     refine W.seq ?_
     refine W.l0 1 [.y 30 _] [] [] [(3,_),(4,_),(6,_),(27,_),(28,_),(29,_),(30,_)] [(16,mpK placeK D.u64 _),(3,.var _)] 63 ⟨aU fun _ _ H K=>R.lssN (i) (t.ins.length) (eU K 29 O) (eU K 28 O) H,Zt⟩ O O O O (tU O ?_)
     refine W.seq ?_
     refine W.condD O (fun hc30=>?_) (fun hc30=>?_)
     · refine W.skip (W.seq (W.block (W.seq ?_)))
       refine W.l0 4 [.y 31 _,.y 32 _] [] [] [(3,_),(4,_),(6,_),(27,_),(28,_),(29,_),(32,_)] [(16,mpK placeK D.u64 _),(3,.var _)] 63 ⟨aU fun _ _ H K=>R.idxN (i) (SC.sl (K 27 _ O)) (evoI (eU K 29 O)) O bU H dU,aU fun _ _ H K=>R.ldE (K 31 _ O) (SC.sl (K 27 _ O)) (map_get! (l:=t.ins) bU) O O O O H,Zt⟩ O O O O (⟨O,_,R.alloc O (nU O),⟨O,_,R.stZ (gU 9 O) (xU 9 O) O (gV 32 O) (by rfl) (by rfl) (by rfl) (by rfl) O,tV [(3,_),(4,_),(6,_),(9,_),(27,_),(28,_),(29,_)] [(9,.var _),(16,mpK placeK D.u64 _),(3,.var _)] 63 O O O ?_⟩⟩)
       refine W.seq ?_
       refine W.l0 9 [.y 34 _,.y 35 _,.y 36 _,.y 37 _,.y 33 _,.y 38 _,.y 39 _,.y 10 _,.y 11 _] [] [] [(3,_),(4,_),(6,_),(10,_),(11,_),(27,_),(28,_),(29,_)] [(9,.var _),(16,mpK placeK D.u64 _),(3,.var _)] 63 ⟨mU 6 O O,aU (fU 9 O O),aU (lU 35 O O O O O O O),aU fun _ B H K=>R.lookK (k:=plc t.ins[i]!) (z:=0) place_key (K 34 _ O) (B 16 _ O) (eU K 36 O) O O (fun _=>rfl) H,aU fun _ _ H K=>R.movT (K 37 _ O) O H,aU fun _ _ H K=>R.ext (K 33 _ O) O O H,aU fun _ _ H K=>R.ext (K 33 _ O) O O H,aU fun _ _ H K=>R.asg (eU K 38 O) O H,aU fun _ _ H K=>R.asg (eU K 39 O) O H,Zt⟩ O O O O (tU O ?_)
       refine W.seq (W.seq ?_)
       refine W.dropBP [3,16] (bx':=[(16,mpK placeK D.u64 _),(3,.var _)]) O O ⟨okMpK (fun _=>rfl) (fun _=>rfl),⟨O,Zt⟩⟩ (pin_sub hD O) ?_
       refine W.l0 2 [.y 40 _,.y 41 _] [] [] [(3,_),(4,_),(6,_),(10,_),(27,_),(28,_),(29,_),(41,_)] [(16,mpK placeK D.u64 _),(3,.var _)] 63 ⟨mU 11 O O,aU fun _ _ H K=>R.un (eU K 40 O) O H,Zt⟩ O O O O (tU O ?_)
       refine W.cond O (fun hc41=>?_) (fun hc41=>?_)
       · refine W.seq ?_
         refine W.l0 2 [.y 4 _,.y 5 _] [] [] [(4,_),(5,_)] [(16,mpK placeK D.u64 _),(3,.var _)] 63 ⟨aU fun _ _ H _=>R.asg (show ev _ _ (.const (.int .u64 0)) = some (.u64 0) from O) O H,aU fun _ _ H _=>R.asg (kI 14 O) O H,Zt⟩ O O O O (tU O ?_)
         refine W.ret ?_
         exact Ends.many (.inr O) (.cons O O O Zt (.cons O O O Zt .nil)) (ck_2 ⟨hp,by simpa using hc25⟩ hc30 (by simpa using hc41)) (show [(4,true),(5,true)].Nodup by decide)
       · refine W.skip ?_
         refine W.l0 4 [.y 42 _,.y 43 _,.y 44 _,.y 4 _] [] [] [(3,_),(4,_),(6,_),(27,_),(28,_),(29,_)] [(16,mpK placeK D.u64 _),(3,.var _)] 63 ⟨mU 4 O O,mU 10 O O,aU fun _ _ H K=>R.bin (eU K 42 O) (eU K 43 O) O Zt H,aU fun _ _ H K=>R.asg (eU K 44 O) O H,Zt⟩ O O O O (tU O ?_)
         refine W.l0 2 [.y 45 _,.y 29 _] [] [] [(3,_),(4,_),(6,_),(27,_),(28,_),(29,_)] [(16,mpK placeK D.u64 _),(3,.var _)] 63 ⟨aU fun _ _ H K=>R.addN (i) (1) (eU K 29 O) (kI 1 O) bU H,mU 45 O O,Zt⟩ O O O O (tU O ?_)
         exact ⟨⟨(i + 1),⟨(by show i + 1 <= t.ins.length; omega),ext_i hok (show kHas _ _ = true by simpa using hc41)⟩⟩,rfl,(by simp only []; omega)⟩
     · obtain rfl : i = t.ins.length:=by omega
       refine W.exit (W.seq (W.seq ?_))
       refine W.l0 4 [.y 46 _,.y 47 _,.y 48 _,.y 49 _] [] [] [(4,_),(47,_),(48,_),(49,_)] [(16,mpK placeK D.u64 _),(3,.var _)] 63 ⟨aU (fU 3 O O),aU (lU 46 O O O O O O O),aU fun _ _ H K=>R.lenE (SC.sl (K 47 _ O)) (lN _) H,aU fun _ _ H _=>R.mov (kI 0 O) O H,Zt⟩ O O O O (tU O ?_)
       refine W.block ?_
       refine W.loop (α:={q__ : Nat // q__ <= t.outs.length /\ ∀ k < q__,¬ lftO l t k < t.outs[k]!.value}) (fun q__=>⟨63,[(4,.u64 (lftO l t q__.1)),(47,.sl none 2 (t.outs.map outD)),(48,.int ((t.outs.length : Nat) : Int)),(49,.int ((q__.1 : Nat) : Int))],[(16,mpK placeK D.u64 (purI l l.length)),(3,.var (.agg [.u32 t.ver,.sl none 36 (t.ins.map inD),.sl none 2 (t.outs.map outD),.u32 t.lock]))]⟩) (fun q__=>t.outs.length - q__.1) ⟨(0),⟨Nat.zero_le _,fun j h=>absurd h (Nat.not_lt_zero _)⟩⟩ O ?_
       rintro ⟨j,⟨hj,hoo⟩⟩
       show W _ _ _ _ ⟨63,[(4,.u64 (lftO l t j)),(47,.sl none 2 (t.outs.map outD)),(48,.int ((t.outs.length : Nat) : Int)),(49,.int ((j : Nat) : Int))],[(16,mpK placeK D.u64 (purI l l.length)),(3,.var (.agg [.u32 t.ver,.sl none 36 (t.ins.map inD),.sl none 2 (t.outs.map outD),.u32 t.lock]))]⟩
       have hj : j <= t.outs.length:=hj
       have hoo : ∀ k < j,¬ lftO l t k < t.outs[k]!.value:=hoo
       refine W.seq ?_
       refine W.l0 1 [.y 50 _] [] [] [(4,_),(47,_),(48,_),(49,_),(50,_)] [(16,mpK placeK D.u64 _),(3,.var _)] 63 ⟨aU fun _ _ H K=>R.lssN (j) (t.outs.length) (eU K 49 O) (eU K 48 O) H,Zt⟩ O O O O (tU O ?_)
       refine W.seq ?_
       refine W.condD O (fun hc50=>?_) (fun hc50=>?_)
       · refine W.skip (W.seq (W.block (W.seq ?_)))
         refine W.l0 4 [.y 51 _,.y 52 _] [] [] [(4,_),(47,_),(48,_),(49,_),(52,_)] [(16,mpK placeK D.u64 _),(3,.var _)] 63 ⟨aU fun _ _ H K=>R.idxN (j) (SC.sl (K 47 _ O)) (evoI (eU K 49 O)) O bU H dU,aU fun _ _ H K=>R.ldE (K 51 _ O) (SC.sl (K 47 _ O)) (map_get! (l:=t.outs) bU) O O O O H,Zt⟩ O O O O (⟨O,_,R.alloc O (nU O),⟨O,_,R.stZ (gU 13 O) (xU 13 O) O (gV 52 O) (by rfl) (by rfl) (by rfl) (by rfl) O,tV [(4,_),(13,_),(47,_),(48,_),(49,_)] [(13,.var _),(16,mpK placeK D.u64 _),(3,.var _)] 63 O O O ?_⟩⟩)
         refine W.seq (W.seq ?_)
         refine W.l0 4 [.y 53 _,.y 54 _,.y 55 _,.y 56 _] [] [] [(4,_),(13,_),(47,_),(48,_),(49,_),(56,_)] [(13,.var _),(16,mpK placeK D.u64 _),(3,.var _)] 63 ⟨aU (fU 13 O O),aU (lU 53 O O O O O O O),mU 4 O O,aU fun _ _ H K=>R.bin (eU K 54 O) (eU K 55 O) O Zt H,Zt⟩ O O O O (tU O ?_)
         refine W.cond O (fun hc56=>?_) (fun hc56=>?_)
         · refine W.seq ?_
           refine W.dropS (live:=[]) (env':=[]) (bx':=[(13,.var _),(16,mpK placeK D.u64 _),(3,.var _)]) (n':=63) O O O ?_
           refine W.dropBP [3,16] (bx':=[(16,mpK placeK D.u64 _),(3,.var _)]) O O ⟨okMpK (fun _=>rfl) (fun _=>rfl),⟨O,Zt⟩⟩ (pin_sub hD O) ?_
           refine W.l0 2 [.y 4 _,.y 5 _] [] [] [(4,_),(5,_)] [(16,mpK placeK D.u64 _),(3,.var _)] 63 ⟨aU fun _ _ H _=>R.asg (show ev _ _ (.const (.int .u64 0)) = some (.u64 0) from O) O H,aU fun _ _ H _=>R.asg (kI 14 O) O H,Zt⟩ O O O O (tU O ?_)
           refine W.ret ?_
           exact Ends.many (.inr O) (.cons O O O Zt (.cons O O O Zt .nil)) (ck_3 ⟨hp,by simpa using hc25⟩ hc50 (of_decide_eq_true hc56)) (show [(4,true),(5,true)].Nodup by decide)
         · refine W.skip ?_
           refine W.l0 5 [.y 57 _,.y 58 _,.y 59 _,.y 60 _,.y 4 _] [] [] [(4,_),(47,_),(48,_),(49,_)] [(13,.var _),(16,mpK placeK D.u64 _),(3,.var _)] 63 ⟨mU 4 O O,aU (fU 13 O O),aU (lU 58 O O O O O O O),aU fun _ _ H K=>R.bin (eU K 57 O) (eU K 59 O) O Zt H,aU fun _ _ H K=>R.asg (eU K 60 O) O H,Zt⟩ O O O O (tU O ?_)
           refine W.dropBP [3,16] (bx':=[(16,mpK placeK D.u64 _),(3,.var _)]) O O ⟨okMpK (fun _=>rfl) (fun _=>rfl),⟨O,Zt⟩⟩ (pin_sub hD O) ?_
           refine W.l0 2 [.y 61 _,.y 49 _] [] [] [(4,_),(47,_),(48,_),(49,_)] [(16,mpK placeK D.u64 _),(3,.var _)] 63 ⟨aU fun _ _ H K=>R.addN (j) (1) (eU K 49 O) (kI 1 O) bU H,mU 61 O O,Zt⟩ O O O O (tU O ?_)
           exact ⟨⟨(j + 1),⟨(by show j + 1 <= t.outs.length; omega),ext_i hoo (of_decide_eq_false hc56)⟩⟩,rfl,(by simp only []; omega)⟩
       · obtain rfl : j = t.outs.length:=by omega
         refine W.exit (W.seq ?_)
         refine W.l0 3 [.y 62 _,.y 4 _,.y 5 _] [] [] [(4,_),(5,_)] [(16,mpK placeK D.u64 _),(3,.var _)] 63 ⟨mU 4 O O,aU fun _ _ H K=>R.asg (eU K 62 O) O H,aU fun _ _ H _=>R.asg (kI 0 O) O H,Zt⟩ O O O O (tU O ?_)
         refine W.ret ?_
         exact Ends.many (.inr O) (.cons O O O Zt (.cons O O O Zt .nil)) (ck_4 ⟨hp,by simpa using hc25⟩ hok hoo) (show [(4,true),(5,true)].Nodup by decide)
 · refine W.l0 7 [.y 15 _] [] [] [(3,_),(4,_),(15,_)] [(3,.var _)] 63 ⟨mU 0 O O,Zt⟩ O O O O (⟨O,_,R.callB [] hC (purse_f l hl hp) (EvB.cons (gV 15 O) O O O EvB.nil) O Zt Zt O O O O O O (nU O),⟨O,_,R.movT (gU 16 O) O (nU O),⟨O,_,R.ext (gU 14 O) O O (nU O),⟨O,_,R.ext (gU 14 O) O O (nU O),⟨O,_,R.asg (gV 17 O) O (nU O),⟨O,_,R.asg (gV 18 O) O (nU O),tV [(3,_),(4,_),(6,_),(7,_)] [(3,.var _)] 63 O O O ?_⟩⟩⟩⟩⟩⟩)
   refine W.seq (W.seq ?_)
   refine W.l0 7 [.y 19 _,.y 20 _,.y 21 _,.x 22,.x 23,.x 24,.y 25 _] [] [] [(3,_),(4,_),(6,_),(25,_)] [(3,.var _)] 63 ⟨mU 7 O O,aU fun _ _ H K=>R.un (eU K 19 O) O H,mU 20 O O,aF O O (gT (O) O),aF O O (gT (O) O),aF O O (gT (O) O),aU fun _ _ H K=>R.pickT (eU K 21 O) (O) (kB true O) O H,Zt⟩ O O O O (tU O ?_)
   refine W.condT O (O) ?_
   refine W.seq ?_
   refine W.l0 2 [.y 4 _,.y 5 _] [] [] [(4,_),(5,_)] [(3,.var _)] 63 ⟨aU fun _ _ H _=>R.asg (show ev _ _ (.const (.int .u64 0)) = some (.u64 0) from O) O H,aU fun _ _ H _=>R.asg (kI 1 O) O H,Zt⟩ O O O O (tU O ?_)
   refine W.ret ?_
   exact Ends.many (.inr O) (.cons O O O Zt (.cons O O O Zt .nil)) (ck_1 (fun h=>hp h.1)) (show [(4,true),(5,true)].Nodup by decide)
end Go.Sx

namespace Go.Sx
open Go.Proofs
end Go.Sx

namespace Go.Sx
open Go.Proofs
theorem perm_uniq : ∀ (s t : List Un),s.Perm t -> s.Pairwise (fun a b=>ordS a b < 0) -> t.Pairwise (fun a b=>ordS a b < 0) -> s = t
 | [],t,hp,_,_=>by rw [hp.nil_eq]
 | a :: s,[],hp,_,_=>by have:=hp.length_eq; simp at this
 | a :: s,b :: t,hp,hs,ht=>by
  rw [List.pairwise_cons] at hs ht
  have e : a = b:=by
   have h1 : a ∈ b :: t:=hp.mem_iff.1 (by simp)
   have h2 : b ∈ a :: s:=hp.mem_iff.2 (by simp)
   rcases List.mem_cons.1 h1 with h | h
   · exact h
   · rcases List.mem_cons.1 h2 with h' | h'
     · exact h'.symm
     · have k1:=ht.1 a h
       have k2:=hs.1 b h'
       have:=ord_sym a b
       omega
  subst e
  rw [perm_uniq s t ((List.perm_cons a).1 hp) hs.2 ht.2]
theorem sortU_pair {l : List Un} (hx : hs32 l) (hp : purP l) : (sortU l).Pairwise (fun a b=>ordS a b < 0):=by
 rw [List.pairwise_iff_getElem]
 intro i j hi hj hij
 have:=sorted_lt hx hp hij (by rw [<- sortU_len l]; exact hj)
 rwa [getE hi,getE hj] at this
theorem sortU_uniq {l s : List Un} (hx : hs32 l) (hp : purP l) (h : s.Perm l) (hs : s.Pairwise (fun a b=>ordS a b < 0)) : sortU l = s:=
 perm_uniq _ _ ((sortU_perm hx).trans h.symm) (sortU_pair hx hp) hs
def W1 : List Un:=[coinS 1 5000,coinS 2 9000]
def W2 : List Wnt:=[⟨[],8000⟩]
def W3 : List Wnt:=[⟨[],14000⟩]
theorem w1_hs : hs32 W1:=by
 intro c hc
 simp only [W1,List.mem_cons,List.not_mem_nil,or_false] at hc
 rcases hc with rfl | rfl <;> rfl
theorem w1_pur : purP W1:=by decide +kernel
theorem w1_sort : sortU W1 = [coinS 2 9000,coinS 1 5000]:=
 sortU_uniq w1_hs w1_pur (List.Perm.swap _ _ _) (by decide +kernel)
theorem w1_chP2 : chP W1 W2 1:=by decide +kernel
theorem w1_chP3 : chP W1 W3 1:=by decide +kernel
theorem w1_L2 : ¬ chL W1 W2 1 0:=by unfold chL; rw [w1_sort]; decide +kernel
theorem w1_L3 : ∀ j < W1.length,chL W1 W3 1 j:=by
 intro j hj
 unfold chL
 rw [w1_sort]
 have h2 : W1.length = 2:=rfl
 have : j = 0 ∨ j = 1:=by omega
 rcases this with rfl | rfl <;> decide +kernel
theorem w1_F2 : chF W1 W2 1 = some 0:=chF_some (by decide) (fun j hj=>absurd hj (Nat.not_lt_zero _)) w1_L2
theorem w1_C2 : chC W1 W2 1 = [coinS 2 9000]:=by rw [chC,if_pos w1_chP2,w1_F2,w1_sort]; rfl
theorem w1_V2 : chV W1 W2 1 = 774:=by rw [chV,if_pos w1_chP2,w1_F2,w1_sort]; decide +kernel
theorem w1_E2 : chE W1 W2 1 = 0:=by rw [chE,if_pos w1_chP2,w1_F2]
theorem w1_E3 : chE W1 W3 1 = 14:=by rw [chE,if_pos w1_chP3,chF_none w1_L3]
theorem w1_C3 : chC W1 W3 1 = []:=by rw [chC,if_pos w1_chP3,chF_none w1_L3]
theorem w1_V3 : chV W1 W3 1 = 0:=by rw [chV,if_pos w1_chP3,chF_none w1_L3]
theorem w1_n4 : ¬ chP W1 [] 1:=by decide +kernel
theorem w1_E4 : chE W1 [] 1 = 1:=by rw [chE,if_neg w1_n4]
theorem w1_C4 : chC W1 [] 1 = []:=by rw [chC,if_neg w1_n4]
theorem w1_V4 : chV W1 [] 1 = 0:=by rw [chV,if_neg w1_n4]
def W5 : TxS:=⟨2,[⟨2 :: List.replicate 31 0,0,[],4294967295,[]⟩],[⟨8000,[]⟩,⟨774,[7]⟩],0⟩
theorem w1_X : mkX W1 W2 [7] 1 = W5:=by rw [mkX,w1_C2,w1_V2]; rfl
theorem w5_may : mayS W5 = true:=by decide +kernel
theorem w1_mE : mkE W1 W2 [7] 1 = 0:=by rw [mkE,w1_E2,if_pos rfl,if_neg (by decide),w1_X,if_pos w5_may]
theorem w1_mT : mkT W1 W2 [7] 1 = W5:=by rw [mkT,if_pos w1_mE,w1_X]
theorem w5_wf : W5.wf:=small_wf (by decide) (by decide) (fun x hx=>by
 simp only [W5,List.mem_cons,List.not_mem_nil,or_false] at hx
 subst hx; exact ⟨rfl,rfl,rfl⟩) (fun x hx=>by
 simp only [W5,List.mem_cons,List.not_mem_nil,or_false] at hx
 rcases hx with rfl | rfl <;> decide)
theorem w5_ckV : ckV W1 W5 = 226:=by decide +kernel
theorem w5_ckE : ckE W1 W5 = 0:=by decide +kernel
abbrev UnL (l : List Un) : D:=.sl none 35 (l.map coD)
abbrev WnL (l : List Wnt) : D:=.sl none 2 (l.map wntD)
theorem wk_ch2 : Fn Try.prog gl 11 [UnL W1,WnL W2,.u64 1] (.tup [UnL [coinS 2 9000],.u64 774,.int 0]):=by
 have:=choose_ok W1 W2 1 (by decide) w1_hs (by decide)
 rwa [w1_C2,w1_V2,w1_E2] at this
theorem wk_ch3 : Fn Try.prog gl 11 [UnL W1,WnL W3,.u64 1] (.tup [UnL [],.u64 0,.int 14]):=by
 have:=choose_ok W1 W3 1 (by decide) w1_hs (by decide)
 rwa [w1_C3,w1_V3,w1_E3] at this
theorem wk_ch4 : Fn Try.prog gl 11 [UnL W1,.nils,.u64 1] (.tup [UnL [],.u64 0,.int 1]):=by
 refine Fn.wkA (ds':=[UnL W1,WnL [],.u64 1]) (.cons (.refl _) (.cons (.nils _ _) (.cons (.refl _) .nil))) ?_
 have:=choose_ok W1 [] 1 (by decide) w1_hs (by decide)
 rwa [w1_C4,w1_V4,w1_E4] at this
theorem wk_fee : Fn Try.prog gl 9 [.int 1,.int 1,.u64 1] (.tup [.u64 192,.int 0]):=by
 have:=fee_ok 1 1 1
 rwa [show feeV 1 1 1 = 192 by decide +kernel,show feeE 1 1 1 = 0 by decide +kernel] at this
theorem wk_make : Fn Try.prog gl 15 [UnL W1,WnL W2,.sl none 1 (([7] : List UInt8).map D.u8),.u64 1] (.tup [txD W5,.int 0]):=by
 have:=make_ok W1 W2 1 (by decide) w1_hs (by decide) [7] (by decide)
 rwa [w1_mT,w1_mE] at this
theorem wk_check : Fn Try.prog gl 18 [UnL W1,txD W5] (.tup [.u64 226,.int 0]):=by
 have:=check_ok W1 W5 (by decide) w1_hs w5_wf
 rwa [w5_ckV,w5_ckE] at this
theorem brw_wnt (c : Wnt) : (wntD c).brw = wntD c:=by simp only [wntD,D.brw,brws_eq,List.map_cons,List.map_nil,brw_bytes]
theorem brw_wn (o : Option Nat) (l : List Wnt) : (D.sl o 2 (l.map wntD)).brw = .sl none 2 (l.map wntD):=by
 simp only [D.brw,brws_eq]; rw [brw_map brw_wnt]
theorem wk_wnt (o : Option Nat) (v : UInt64) : Wk (.sl o 2 [.agg [.nils,.u64 v]]) (.sl o 2 ([(⟨[],v⟩ : Wnt)].map wntD)):=.slL (.cons (.aggL (.cons (.nils _ _) (.cons (.refl _) .nil))) .nil)
theorem brw_u8s (o : Option Nat) (l : List UInt8) : (D.sl o 1 (l.map D.u8)).brw = .sl none 1 (l.map D.u8):=by
 simp only [D.brw,brws_eq]; rw [brw_map (fun _=>rfl)]
end Go.Sx

namespace Go.Sx
open Go.Proofs
theorem works_ok : Fn Try.prog gl 8 [] (.bool true):=by
 refine Fn.of (n:=122) Try.func8 rfl rfl rfl (nU rfl) fun C hC hD=>?_
 refine W.seq ?_
 refine W.l0 1 [.y 0 _] [] [] [] [] 122 ⟨aU fun _ _ H _=>R.asg (kB false O) O H,Zt⟩ O O O O (tU O ?_)
 refine W.seq ?_
 refine W.l0 4 [.y 17 _,.y 18 _,.y 19 _,.y 1 _] [] [] [(1,_)] [] 122 ⟨aU fun _ _ H _=>R.callG hC (coin_ok 1 5000) (Bc (Bp (show ev _ _ (.const (.int .u8 1)) = some (.u8 1) from O) O O) (Bc (Bp (show ev _ _ (.const (.int .u64 5000)) = some (.u64 5000) from O) O O) Bn)) (FrsR.one (frs_coD _)) H,aU fun _ _ H _=>R.callG hC (coin_ok 2 9000) (Bc (Bp (show ev _ _ (.const (.int .u8 2)) = some (.u8 2) from O) O O) (Bc (Bp (show ev _ _ (.const (.int .u64 9000)) = some (.u64 9000) from O) O O) Bn)) (FrsR.one (frs_coD _)) H,aU fun _ _ H K=>R.frzT (r':=.sl none 35 (W1.map coD)) (R.bslE (z:=35) (.cons (eU K 17 O) (.cons (eU K 18 O) .nil)) ⟨⟨O,O,O⟩,⟨O,O,O⟩,Zt⟩ O H dU) O (brw_co _ W1),aU fun _ _ H K=>R.asg (eU K 19 O) O H,Zt⟩ O O O O (tU O ?_)
 refine W.seq ?_
 refine W.l0 11 [.y 21 _,.y 22 _,.y 23 _,.y 24 _,.y 20 _,.y 25 _,.y 26 _,.y 27 _,.y 2 _,.y 3 _,.y 4 _] [] [] [(1,_),(2,_),(3,_),(4,_)] [] 122 ⟨mU 1 O O,aU fun _ _ H _=>R.bldSE (l:=[.nils,.u64 0]) (l':=[_,_]) (.cons (show ev _ _ (.const (.int .u64 8000)) = some (.u64 8000) from O) (.nil O)) ⟨⟨_,(show ev _ _ (.const (.int .u64 8000)) = some (.u64 8000) from O),O,O,O⟩,Zt⟩ H,aU fun _ _ H K=>R.frzT (r':=.sl none 2 (W2.map wntD)) (R.wkT (r':=.sl (some 70) 2 (W2.map wntD)) (R.bslE (z:=2) (.cons (eU K 22 O) .nil) ⟨⟨O,O,O⟩,Zt⟩ O H dU) O O (wk_wnt _ _)) O (brw_wn _ _),aU fun _ _ H K=>R.callPE hC (wk_ch2) (EvP.cons (eU K 21 O) O O (EvP.cons (eU K 23 O) O O (EvP.cons (show ev _ _ (.const (.int .u64 1)) = some (.u64 1) from O) O O EvP.nil))) H,aU fun _ _ H K=>R.movT (K 24 _ O) O H,aU fun _ _ H K=>R.ext (K 20 _ O) O O H,aU fun _ _ H K=>R.ext (K 20 _ O) O O H,aU fun _ _ H K=>R.ext (K 20 _ O) O O H,aU fun _ _ H K=>R.asg (eU K 25 O) O H,aU fun _ _ H K=>R.asg (eU K 26 O) O H,aU fun _ _ H K=>R.asg (eU K 27 O) O H,Zt⟩ O O O O (tU O ?_)
 refine W.seq ?_
 refine W.l0 6 [.y 29 _,.y 28 _,.y 30 _,.y 31 _,.y 5 _,.y 6 _] [] [] [(1,_),(2,_),(3,_),(4,_),(5,_),(6,_)] [] 122 ⟨aU fun _ _ H _=>R.callG hC (wk_fee) (Bc (Bp (kI 1 O) O O) (Bc (Bp (kI 1 O) O O) (Bc (Bp (show ev _ _ (.const (.int .u64 1)) = some (.u64 1) from O) O O) Bn))) (FrsR.two (.u64 _) (.int _)) H,aU fun _ _ H K=>R.movT (K 29 _ O) O H,aU fun _ _ H K=>R.ext (K 28 _ O) O O H,aU fun _ _ H K=>R.ext (K 28 _ O) O O H,aU fun _ _ H K=>R.asg (eU K 30 O) O H,aU fun _ _ H K=>R.asg (eU K 31 O) O H,Zt⟩ O O O O (tU O ?_)
 refine W.seq ?_
 refine W.l0 11 [.y 33 _,.y 34 _,.y 35 _,.y 36 _,.y 37 _,.y 32 _,.y 38 _,.y 39 _] [] [] [(1,_),(2,_),(3,_),(4,_),(5,_),(6,_),(38,_),(39,_)] [] 122 ⟨mU 1 O O,aU fun _ _ H _=>R.bldSE (l:=[.nils,.u64 0]) (l':=[_,_]) (.cons (show ev _ _ (.const (.int .u64 8000)) = some (.u64 8000) from O) (.nil O)) ⟨⟨_,(show ev _ _ (.const (.int .u64 8000)) = some (.u64 8000) from O),O,O,O⟩,Zt⟩ H,aU fun _ _ H K=>R.frzT (r':=.sl none 2 (W2.map wntD)) (R.wkT (r':=.sl (some 70) 2 (W2.map wntD)) (R.bslE (z:=2) (.cons (eU K 34 O) .nil) ⟨⟨O,O,O⟩,Zt⟩ O H dU) O O (wk_wnt _ _)) O (brw_wn _ _),aU fun _ _ H _=>R.frzT (r':=.sl none 1 (([7] : List UInt8).map D.u8)) (R.bslE (z:=1) (.cons (show ev _ _ (.const (.int .u8 7)) = some (.u8 7) from O) .nil) ⟨⟨O,O,O⟩,Zt⟩ O H dU) O (brw_u8s _ [7]),aU fun _ _ H K=>R.callPE hC (wk_make) (EvP.cons (eU K 33 O) O O (EvP.cons (eU K 35 O) O O (EvP.cons (eU K 36 O) O O (EvP.cons (show ev _ _ (.const (.int .u64 1)) = some (.u64 1) from O) O O EvP.nil)))) H,aU fun _ _ H K=>R.movT (K 37 _ O) O H,aU fun _ _ H K=>R.ext (K 32 _ O) O O H,aU fun _ _ H K=>R.ext (K 32 _ O) O O H,Zt⟩ O O O O (⟨O,_,R.alloc O (nU O),⟨O,_,R.stZ (gU 7 O) (xU 7 O) O (gV 38 O) (by rfl) (by rfl) (by rfl) (by rfl) O,⟨O,_,R.asg (gV 39 O) O (nU O),tV [(1,_),(2,_),(3,_),(4,_),(5,_),(6,_),(7,_),(8,_)] [(7,.var _)] 122 O O O ?_⟩⟩⟩)
 refine W.seq ?_
 refine W.l0 8 [.y 41 _,.y 42 _,.y 43 _,.y 40 _,.y 44 _,.y 45 _,.y 9 _,.y 10 _] [] [] [(1,_),(2,_),(3,_),(4,_),(5,_),(6,_),(7,_),(8,_),(9,_),(10,_)] [(7,.var _)] 122 ⟨mU 1 O O,aU (lU 7 O O O O O O O),aU fun _ _ H K=>R.callG hC (wk_check) (Bc (Bp (eU K 41 O) O O) (Bc (Bp (eU K 42 O) O O) Bn)) (FrsR.two (.u64 _) (.int _)) H,aU fun _ _ H K=>R.movT (K 43 _ O) O H,aU fun _ _ H K=>R.ext (K 40 _ O) O O H,aU fun _ _ H K=>R.ext (K 40 _ O) O O H,aU fun _ _ H K=>R.asg (eU K 44 O) O H,aU fun _ _ H K=>R.asg (eU K 45 O) O H,Zt⟩ O O O O (tU O ?_)
 refine W.seq ?_
 refine W.l0 11 [.y 47 _,.y 48 _,.y 49 _,.y 50 _,.y 46 _,.y 51 _,.y 52 _,.y 53 _,.y 11 _,.y 12 _,.y 13 _] [] [] [(1,_),(2,_),(3,_),(4,_),(5,_),(6,_),(7,_),(8,_),(9,_),(10,_),(13,_)] [(7,.var _)] 122 ⟨mU 1 O O,aU fun _ _ H _=>R.bldSE (l:=[.nils,.u64 0]) (l':=[_,_]) (.cons (show ev _ _ (.const (.int .u64 14000)) = some (.u64 14000) from O) (.nil O)) ⟨⟨_,(show ev _ _ (.const (.int .u64 14000)) = some (.u64 14000) from O),O,O,O⟩,Zt⟩ H,aU fun _ _ H K=>R.frzT (r':=.sl none 2 (W3.map wntD)) (R.wkT (r':=.sl (some 70) 2 (W3.map wntD)) (R.bslE (z:=2) (.cons (eU K 48 O) .nil) ⟨⟨O,O,O⟩,Zt⟩ O H dU) O O (wk_wnt _ _)) O (brw_wn _ _),aU fun _ _ H K=>R.callPE hC (wk_ch3) (EvP.cons (eU K 47 O) O O (EvP.cons (eU K 49 O) O O (EvP.cons (show ev _ _ (.const (.int .u64 1)) = some (.u64 1) from O) O O EvP.nil))) H,aU fun _ _ H K=>R.movT (K 50 _ O) O H,aU fun _ _ H K=>R.ext (K 46 _ O) O O H,aU fun _ _ H K=>R.ext (K 46 _ O) O O H,aU fun _ _ H K=>R.ext (K 46 _ O) O O H,aU fun _ _ H K=>R.asg (eU K 51 O) O H,aU fun _ _ H K=>R.asg (eU K 52 O) O H,aU fun _ _ H K=>R.asg (eU K 53 O) O H,Zt⟩ O O O O (tU O ?_)
 refine W.seq ?_
 refine W.l0 9 [.y 55 _,.y 56 _,.y 54 _,.y 57 _,.y 58 _,.y 59 _,.y 14 _,.y 15 _,.y 16 _] [] [] [(2,_),(3,_),(4,_),(5,_),(6,_),(7,_),(8,_),(9,_),(10,_),(13,_),(16,_)] [(7,.var _)] 122 ⟨mU 1 O O,aU fun _ _ H K=>R.callPE hC (wk_ch4) (EvP.cons (eU K 55 O) O O (EvP.cons (kN O) O O (EvP.cons (show ev _ _ (.const (.int .u64 1)) = some (.u64 1) from O) O O EvP.nil))) H,aU fun _ _ H K=>R.movT (K 56 _ O) O H,aU fun _ _ H K=>R.ext (K 54 _ O) O O H,aU fun _ _ H K=>R.ext (K 54 _ O) O O H,aU fun _ _ H K=>R.ext (K 54 _ O) O O H,aU fun _ _ H K=>R.asg (eU K 57 O) O H,aU fun _ _ H K=>R.asg (eU K 58 O) O H,aU fun _ _ H K=>R.asg (eU K 59 O) O H,Zt⟩ O O O O (tU O ?_)
 refine W.seq ?_
 have hw5 : W5.outs.length = 2:=rfl
 refine W.l0 63 (.y 60 _ :: .y 61 _ :: .y 62 _ :: .y 63 _ :: .y 64 _ :: .y 65 _ :: .y 66 _ :: .y 67 _ :: .y 68 _ :: .y 69 _ :: .y 70 _ :: .y 71 _ :: .y 72 _ :: .y 73 _ :: .y 74 _ :: .y 75 _ :: .y 76 _ :: .y 77 _ :: .y 78 _ :: .y 79 _ :: .y 80 _ :: .y 81 _ :: .y 82 _ :: .y 83 _ :: .y 84 _ :: .y 85 _ :: .y 86 _ :: .y 87 _ :: .y 88 _ :: .y 89 _ :: .y 90 _ :: .y 91 _ :: .y 92 _ :: .y 93 _ :: .y 94 _ :: .y 95 _ :: .y 96 _ :: .y 97 _ :: .y 98 _ :: .y 99 _ :: .y 100 _ :: .y 101 _ :: .y 102 _ :: .y 103 _ :: .y 104 _ :: .y 105 _ :: .y 106 _ :: .y 107 _ :: .y 108 _ :: .y 109 _ :: .y 110 _ :: .y 111 _ :: .y 112 _ :: .y 113 _ :: .y 114 _ :: .y 115 _ :: .y 116 _ :: .y 117 _ :: .y 118 _ :: .y 119 _ :: .y 120 _ :: .y 121 _ :: .y 0 _ :: []) [] [] [(0,_)] [(7,.var _)] 122 ⟨mU 4 O O,aU fun _ _ H K=>R.eqlN (0) (0) (eU K 60 O) (kI 0 O) H,mU 61 O O,aW O O (gT (O) O) fun _ _ H K=>R.mov (eU K 2 O) O H,aW O O (gT (O) O) fun _ _ H K=>R.lenE (SC.sl (K 63 _ O)) (lN _) H,aW O O (gT (O) O) fun _ _ H K=>R.eqlN ([coinS 2 9000].length) (1) (eU K 64 O) (kI 1 O) H,aU fun _ _ H K=>R.pickT (eU K 62 O) (O) (eU K 65 O) O H,mU 66 O O,aW O O (gT (O) O) fun _ _ H K=>R.mov (eU K 2 O) O H,aW O O (gT (O) O) fun _ _ H K=>R.idxN (0) (SC.sl (K 68 _ O)) (evoI (kI 0 O)) O bU H dU,aW O O (gT (O) O) fun _ _ H K=>R.fdE (K 69 _ O) H dU,aW O O (gT (O) O) fun _ _ H K=>R.ldE (K 70 _ O) (SC.sl (K 68 _ O)) (map_get! (l:=[coinS 2 9000]) bU) O O O O H,aW O O (gT (O) O) fun _ _ H K=>R.bin (eU K 71 O) (show ev _ _ (.const (.int .u64 9000)) = some (.u64 9000) from O) O Zt H,aU fun _ _ H K=>R.pickT (eU K 67 O) (O) (eU K 72 O) O H,mU 73 O O,aW O O (gT (O) O) fun _ _ H K=>R.mov (eU K 3 O) O H,aW O O (gT (O) O) fun _ _ H K=>R.bin (eU K 75 O) (show ev _ _ (.const (.int .u64 774)) = some (.u64 774) from O) O Zt H,aU fun _ _ H K=>R.pickT (eU K 74 O) (O) (eU K 76 O) O H,mU 77 O O,aW O O (gT (O) O) fun _ _ H K=>R.mov (eU K 5 O) O H,aW O O (gT (O) O) fun _ _ H K=>R.bin (eU K 79 O) (show ev _ _ (.const (.int .u64 192)) = some (.u64 192) from O) O Zt H,aU fun _ _ H K=>R.pickT (eU K 78 O) (O) (eU K 80 O) O H,mU 81 O O,aW O O (gT (O) O) fun _ _ H K=>R.mov (eU K 6 O) O H,aW O O (gT (O) O) fun _ _ H K=>R.eqlN (0) (0) (eU K 83 O) (kI 0 O) H,aU fun _ _ H K=>R.pickT (eU K 82 O) (O) (eU K 84 O) O H,mU 85 O O,aW O O (gT (O) O) fun _ _ H K=>R.mov (eU K 8 O) O H,aW O O (gT (O) O) fun _ _ H K=>R.eqlN (0) (0) (eU K 87 O) (kI 0 O) H,aU fun _ _ H K=>R.pickT (eU K 86 O) (O) (eU K 88 O) O H,mU 89 O O,aW O O (gT (O) O) (fU 7 O O),aW O O (gT (O) O) (lU 91 O O O O O O O),aW O O (gT (O) O) fun _ _ H K=>R.lenE (SC.sl (K 92 _ O)) (lN _) H,aW O O (gT (O) O) fun _ _ H K=>R.eqlN (W5.outs.length) (2) (eU K 93 O) (kI 2 O) H,aU fun _ _ H K=>R.pickT (eU K 90 O) (O) (eU K 94 O) O H,mU 95 O O,aW O O (gT (O) O) (fU 7 O O),aW O O (gT (O) O) (lU 97 O O O O O O O),aW O O (gT (O) O) fun _ _ H K=>R.idxN (1) (SC.sl (K 98 _ O)) (evoI (kI 1 O)) O bU H dU,aW O O (gT (O) O) fun _ _ H K=>R.fdE (K 99 _ O) H dU,aW O O (gT (O) O) fun _ _ H K=>R.ldE (K 100 _ O) (SC.sl (K 98 _ O)) (map_get! (l:=W5.outs) bU) O O O O H,aW O O (gT (O) O) fun _ _ H K=>R.bin (eU K 101 O) (show ev _ _ (.const (.int .u64 774)) = some (.u64 774) from O) O Zt H,aU fun _ _ H K=>R.pickT (eU K 96 O) (O) (eU K 102 O) O H,mU 103 O O,aW O O (gT (O) O) fun _ _ H K=>R.mov (eU K 10 O) O H,aW O O (gT (O) O) fun _ _ H K=>R.eqlN (0) (0) (eU K 105 O) (kI 0 O) H,aU fun _ _ H K=>R.pickT (eU K 104 O) (O) (eU K 106 O) O H,mU 107 O O,aW O O (gT (O) O) fun _ _ H K=>R.mov (eU K 9 O) O H,aW O O (gT (O) O) fun _ _ H K=>R.bin (eU K 109 O) (show ev _ _ (.const (.int .u64 226)) = some (.u64 226) from O) O Zt H,aU fun _ _ H K=>R.pickT (eU K 108 O) (O) (eU K 110 O) O H,mU 111 O O,aW O O (gT (O) O) fun _ _ H K=>R.mov (eU K 13 O) O H,aW O O (gT (O) O) fun _ _ H K=>R.eqlN (14) (14) (eU K 113 O) (kI 14 O) H,aU fun _ _ H K=>R.pickT (eU K 112 O) (O) (eU K 114 O) O H,mU 115 O O,aW O O (gT (O) O) fun _ _ H K=>R.mov (eU K 16 O) O H,aW O O (gT (O) O) fun _ _ H K=>R.eqlN (1) (1) (eU K 117 O) (kI 1 O) H,aU fun _ _ H K=>R.pickT (eU K 116 O) (O) (eU K 118 O) O H,mU 119 O O,aU fun _ _ H K=>R.pickT (eU K 120 O) (O) (kB true O) O H,aU fun _ _ H K=>R.asg (eU K 121 O) O H,Zt⟩ O O O O (tU O ?_)
 refine W.ret ?_
 exact Ends.one' (.inr O) O (O) O O Zt
end Go.Sx

namespace Go.Sx
def sumO (os : List OutS) : Nat -> Nat
 | 0=>0
 | k + 1=>sumO os k + os[k]!.script.length
def fewTx (os : List OutS) : Prop:=os.length <= 8 /\ sumO os os.length <= 1000
instance (os : List OutS) : Decidable (fewTx os):=by unfold fewTx; infer_instance
def fewBk (b : List (List OutS)) : Prop:=b.length <= 12 /\ ∀ j < b.length,fewTx b[j]!
instance (b : List (List OutS)) : Decidable (fewBk b):=by unfold fewBk; infer_instance
def fewP15 (bs : List (List (List OutS))) : Prop:=bs.length <= 20 /\ ∀ i < bs.length,fewBk bs[i]!
instance (bs : List (List (List OutS))) : Decidable (fewP15 bs):=by unfold fewP15; infer_instance
end Go.Sx

namespace Go.Sx
open Go.Proofs
end Go.Sx

namespace Go.Sx
open Go.Proofs
end Go.Sx

namespace Go.Sx
open Go.Proofs
structure Sane (l : List Un) (w : List Wnt) (r : UInt64) : Prop where
 hx : hs32 l
 hp : purP l
 ht : totP w
 hr : r.toNat <= 1000000
 hn : l.length <= 200
 hv : ∀ c ∈ l,c.value.toNat <= 4294967296
 hs : (totV w).toNat <= 1099511627776
def nsum (t : List Un) : Nat:=(t.map fun c=>c.value.toNat).sum
theorem nsum_app (s t : List Un) : nsum (s ++ t) = nsum s + nsum t:=by simp [nsum]
theorem nsum_cons (a : Un) (t : List Un) : nsum (a :: t) = a.value.toNat + nsum t:=by simp [nsum]
theorem sumU_nat {s : List Un} (h : ∀ c ∈ s,c.value.toNat <= 4294967296) : ∀ k ≤ s.length,k <= 1000 -> (sumU s k).toNat = nsum (s.take k) /\ nsum (s.take k) <= k * 4294967296:=by
 intro k
 induction k with
 | zero=>intro _ _; exact ⟨rfl,by simp [nsum]⟩
 | succ k ih=>
  intro hk hk2
  obtain ⟨a,b⟩:=ih (by omega) (by omega)
  have hv:=h _ (get_in (l:=s) (i:=k) (by omega))
  have e : nsum (s.take (k + 1)) = nsum (s.take k) + s[k]!.value.toNat:=by
   rw [take_s (by omega),nsum_app]; simp [nsum]
  refine ⟨?_,by rw [e]; omega⟩
  rw [sumU,UInt64.toNat_add,a,e]
  exact Nat.mod_eq_of_lt (by omega)
theorem fee_nat {i m : Nat} {r : UInt64} (hi : i <= 4096) (hm : m <= 4096) (hr : r.toNat <= 1000000) : (feeV ((i : Nat) : Int) ((m : Nat) : Int) r).toNat = (10 + 148 * i + 34 * m) * r.toNat /\ feeE ((i : Nat) : Int) ((m : Nat) : Int) r = 0:=by
 have hf : ¬ feeP ((i : Nat) : Int) ((m : Nat) : Int) r:=by
  unfold feeP
  rw [UInt64.lt_iff_toNat_lt]
  have : (1000000 : UInt64).toNat = 1000000:=rfl
  rw [this]
  omega
 refine ⟨?_,by rw [feeE,if_neg hf]⟩
 rw [feeV,if_neg hf,UInt64.toNat_mul]
 have e : (UInt64.ofInt (10 + 148 * ((i : Nat) : Int) + 34 * ((m : Nat) : Int))).toNat = 10 + 148 * i + 34 * m:=by
  have : (10 + 148 * ((i : Nat) : Int) + 34 * ((m : Nat) : Int)) = ((10 + 148 * i + 34 * m : Nat) : Int):=by omega
  rw [this]
  unfold UInt64.ofInt
  rw [UInt64.toNat_ofNat']
  omega
 rw [e]
 refine Nat.mod_eq_of_lt ?_
 have : (10 + 148 * i + 34 * m) * r.toNat <= 1000000 * 1000000:=Nat.mul_le_mul (by omega) hr
 omega
theorem fee_le {i m : Nat} {r : UInt64} (hi : i <= 4096) (hm : m <= 4096) (hr : r.toNat <= 1000000) : (10 + 148 * i + 34 * m) * r.toNat <= 1000000000000:=by
 have : (10 + 148 * i + 34 * m) * r.toNat <= 1000000 * 1000000:=Nat.mul_le_mul (by omega) hr
 omega
section
variable {l : List Un} {w : List Wnt} {r : UInt64}
theorem Sane.P (G : Sane l w r) : chP l w r:=⟨G.ht,G.hp,by rw [UInt64.lt_iff_toNat_lt]; have:=G.hr; have e : (1000000 : UInt64).toNat = 1000000:=rfl; omega⟩
theorem Sane.sv (G : Sane l w r) : ∀ c ∈ sortU l,c.value.toNat <= 4294967296:=fun c hc=>G.hv c ((sortU_perm G.hx).mem_iff.1 hc)
theorem Sane.L (G : Sane l w r) {i : Nat} (hi : i < l.length) : chL l w r i ↔ nsum ((sortU l).take (i + 1)) < (totV w).toNat + (10 + 148 * (i + 1) + 34 * w.length) * r.toNat:=by
 have h1:=sumU_nat G.sv (i + 1) (by rw [sortU_len]; omega) (by have:=G.hn; omega)
 have h2:=(fee_nat (i:=i + 1) (m:=w.length) (by have:=G.hn; omega) (by have:=G.ht.2.1; omega) G.hr).1
 have h3:=fee_le (i:=i + 1) (m:=w.length) (by have:=G.hn; omega) (by have:=G.ht.2.1; omega) G.hr
 unfold chL
 rw [UInt64.lt_iff_toNat_lt,UInt64.toNat_add,h1.1,h2,Nat.mod_eq_of_lt (by have:=G.hs; omega)]
theorem Sane.E (G : Sane l w r) (h : chE l w r = 0) : ∃ i,i < l.length /\ (∀ j < i,chL l w r j) /\ ¬ chL l w r i /\ chF l w r = some i /\ chC l w r = (sortU l).take (i + 1) /\ (chC l w r).length = i + 1 /\
 chV l w r = (if chM w r i + 546 <= sumU (sortU l) (i + 1) then sumU (sortU l) (i + 1) - chM w r i else 0):=by
 rw [chE,if_pos G.P] at h
 cases hf : chF l w r with
 | none=>rw [hf] at h; cases h
 | some i=>
  have hf':=hf
  unfold chF at hf
  rw [List.find?_eq_some_iff_append] at hf
  obtain ⟨h1,xs,ys,h2,h3⟩:=hf
  have hlen:=congrArg List.length h2
  simp only [List.length_range,List.length_append,List.length_cons] at hlen
  have hi : i = xs.length:=by
   have:=congrArg (fun x=>x[xs.length]?) h2
   simp only [List.getElem?_append_right (Nat.le_refl _),Nat.sub_self,List.getElem?_cons_zero] at this
   rw [List.getElem?_range (by omega)] at this
   simpa using this.symm
  have hil : i < l.length:=by omega
  have hC : chC l w r = (sortU l).take (i + 1):=by rw [chC,if_pos G.P,hf']
  refine ⟨i,hil,fun j hj=>?_,by simpa using h1,rfl,hC,by rw [hC,List.length_take,sortU_len]; omega,by rw [chV,if_pos G.P,hf']⟩
  have hm : j ∈ xs:=by
   have:=congrArg (fun x=>x[j]?) h2
   simp only [List.getElem?_append_left (show j < xs.length by omega)] at this
   rw [List.getElem?_range (by omega)] at this
   exact List.mem_of_getElem? this.symm
  simpa using h3 j hm
theorem Sane.bad (G : Sane l w r) (h : ¬ chE l w r = 0) : chE l w r = 14 /\ chC l w r = []:=by
 rw [chE,if_pos G.P] at h ⊢
 rw [chC,if_pos G.P]
 cases hf : chF l w r with
 | none=>exact ⟨rfl,rfl⟩
 | some i=>rw [hf] at h; exact absurd rfl h
theorem Sane.pos (G : Sane l w r) (h : chE l w r = 0) : ¬ (chC l w r).length = 0:=by
 obtain ⟨i,_,_,_,_,_,h6,_⟩:=G.E h
 omega
theorem ord_val {a b : Un} (h : ordS a b < 0) : b.value.toNat <= a.value.toNat:=by
 rw [ord_eq] at h
 split at h
 · rename_i hz
   have:=c64_z hz
   rw [this]; exact Nat.le_refl _
 · unfold c64 at h
   split at h
   · rename_i h1; rw [UInt64.lt_iff_toNat_lt] at h1; omega
   · split at h <;> omega
theorem Sane.sval (G : Sane l w r) {i j : Nat} (hij : i <= j) (hj : j < l.length) : (sortU l)[j]!.value.toNat <= (sortU l)[i]!.value.toNat:=by
 rcases Nat.lt_or_eq_of_le hij with h | h
 · exact ord_val (sorted_lt G.hx G.hp h hj)
 · subst h; exact Nat.le_refl _
theorem take_get {s : List Un} {k j : Nat} (hj : j < k) (hk : k <= s.length) : (s.take k)[j]! = s[j]!:=by
 rw [getE (by rw [List.length_take]; omega),getE (by omega),List.getElem_take]
theorem Sane.cget (G : Sane l w r) (h : chE l w r = 0) {j : Nat} (hj : j < (chC l w r).length) : (chC l w r)[j]! = (sortU l)[j]! /\ j < l.length:=by
 obtain ⟨i,h1,_,_,_,h5,h6,_⟩:=G.E h
 rw [h6] at hj
 rw [h5]
 exact ⟨take_get hj (by rw [sortU_len]; omega),by omega⟩
theorem Sane.csum (G : Sane l w r) (h : chE l w r = 0) : ∀ k ≤ (chC l w r).length,sumU (chC l w r) k = sumU (sortU l) k:=by
 intro k
 induction k with
 | zero=>intro _; rfl
 | succ k ih=>intro hk; rw [sumU,sumU,ih (by omega),(G.cget h (j:=k) (by omega)).1]
theorem Sane.desc (G : Sane l w r) (h : chE l w r = 0) {i : Nat} (h0 : 0 < i) (hi : i < (chC l w r).length) : ¬ (chC l w r)[i - 1]!.value < (chC l w r)[i]!.value:=by
 rw [(G.cget h (j:=i - 1) (by omega)).1,(G.cget h hi).1,UInt64.lt_iff_toNat_lt]
 have:=G.sval (i:=i - 1) (j:=i) (by omega) (G.cget h hi).2
 omega
theorem Sane.low (G : Sane l w r) (h : chE l w r = 0) {i : Nat} (h0 : 0 < i) (hi : i < (chC l w r).length) : ¬ totV w + feeV ((i : Nat) : Int) ((w.length : Nat) : Int) r <= sumU (chC l w r) i:=by
 rw [G.csum h i (by omega)]
 obtain ⟨i0,_,h2,_,_,_,h6,_⟩:=G.E h
 have:=h2 (i - 1) (by omega)
 unfold chL at this
 rw [show i - 1 + 1 = i by omega] at this
 exact UInt64.not_le.2 this
theorem Sane.hi (G : Sane l w r) (h : chE l w r = 0) : ¬ sumU (chC l w r) (chC l w r).length < totV w + feeV (((chC l w r).length : Nat) : Int) ((w.length : Nat) : Int) r:=by
 rw [G.csum h _ (Nat.le_refl _)]
 obtain ⟨i0,_,_,h3,_,_,h6,_⟩:=G.E h
 rw [h6]
 exact h3
def cntK (c : List Un) (x : Un) : Nat -> Nat
 | 0=>0
 | k + 1=>cntK c x k + (if c[k]! = x then 1 else 0)
theorem cnt_y {c : List Un} {x : Un} {k : Nat} (h : (c[k]! == x) = true) : cntK c x (k + 1) = cntK c x k + 1:=by rw [cntK,if_pos (by simpa using h)]
theorem cnt_n {c : List Un} {x : Un} {k : Nat} (h : (c[k]! == x) = false) : cntK c x (k + 1) = cntK c x k:=by rw [cntK,if_neg (by simpa using h),Nat.add_zero]
theorem cnt_zero {c : List Un} {x : Un} {k : Nat} : cntK c x k = 0 ↔ ∀ j < k,c[j]! ≠ x:=by
 induction k with
 | zero=>simp [cntK]
 | succ k ih=>
  rw [cntK]
  constructor
  · intro h j hj
    rcases Nat.lt_succ_iff_lt_or_eq.1 hj with h1 | h1
    · exact ih.1 (by omega) j h1
    · subst h1; intro e; rw [if_pos e] at h; omega
  · intro h
    rw [ih.2 (fun j hj=>h j (by omega)),if_neg (h k (by omega))]
theorem Sane.times (G : Sane l w r) (h : chE l w r = 0) (x : Un) : ∀ k ≤ (chC l w r).length,cntK (chC l w r) x k <= 1:=by
 intro k
 induction k with
 | zero=>intro _; simp [cntK]
 | succ k ih=>
  intro hk
  rw [cntK]
  split
  · rename_i he
    have : cntK (chC l w r) x k = 0:=cnt_zero.2 fun j hj e=>by
     have h1:=G.cget h (j:=j) (by omega)
     have h2:=G.cget h (j:=k) (by omega)
     have e2 : (sortU l)[j]! = (sortU l)[k]!:=by rw [<- h1.1,<- h2.1,e,he]
     have:=sorted_lt G.hx G.hp hj h2.2
     rw [e2,ord_self] at this
     omega
    omega
  · have:=ih (by omega); omega
theorem Sane.out (G : Sane l w r) (h : chE l w r = 0) {i : Nat} (hi : i < l.length) (hc : cntK (chC l w r) l[i]! (chC l w r).length = 0) : ¬ (chC l w r)[(chC l w r).length - 1]!.value < l[i]!.value:=by
 have hne:=cnt_zero.1 hc
 obtain ⟨m,hm,em⟩:=mem_get ((sortU_perm G.hx).mem_iff.2 (get_in hi))
 rw [sortU_len] at hm
 have hp:=G.pos h
 have hcl:=(G.cget h (j:=(chC l w r).length - 1) (by omega))
 rw [hcl.1,<- em,UInt64.lt_iff_toNat_lt]
 have : ¬ m < (chC l w r).length:=fun hlt=>hne m hlt (by rw [(G.cget h hlt).1,em])
 have:=G.sval (i:=(chC l w r).length - 1) (j:=m) (by omega) hm
 omega
theorem Sane.m (G : Sane l w r) {i : Nat} (hi : i < l.length) : (chM w r i).toNat = (totV w).toNat + (10 + 148 * (i + 1) + 34 * (w.length + 1)) * r.toNat /\ (chM w r i).toNat <= 3000000000000:=by
 have h2:=(fee_nat (i:=i + 1) (m:=w.length + 1) (by have:=G.hn; omega) (by have:=G.ht.2.1; omega) G.hr).1
 have h3:=fee_le (i:=i + 1) (m:=w.length + 1) (by have:=G.hn; omega) (by have:=G.ht.2.1; omega) G.hr
 have e : (chM w r i).toNat = (totV w).toNat + (10 + 148 * (i + 1) + 34 * (w.length + 1)) * r.toNat:=by
  unfold chM
  rw [UInt64.toNat_add,h2,Nat.mod_eq_of_lt (by have:=G.hs; omega)]
 refine ⟨e, ?_⟩
 have:=G.hs
 omega
theorem Sane.ch (G : Sane l w r) (h : chE l w r = 0) : (0 < chV l w r -> ¬ chV l w r < 546 /\ sumU (chC l w r) (chC l w r).length = totV w + feeV (((chC l w r).length : Nat) : Int) ((w.length + 1 : Nat) : Int) r + chV l w r) /\
 (¬ 0 < chV l w r -> chV l w r = 0 /\ ¬ totV w + feeV (((chC l w r).length : Nat) : Int) ((w.length + 1 : Nat) : Int) r + 546 <= sumU (chC l w r) (chC l w r).length):=by
 rw [G.csum h _ (Nat.le_refl _)]
 obtain ⟨i,h1,_,_,_,_,h6,h7⟩:=G.E h
 rw [h6]
 have hm:=G.m h1
 have e : totV w + feeV ((i + 1 : Nat) : Int) ((w.length + 1 : Nat) : Int) r = chM w r i:=rfl
 rw [e]
 have n546 : (546 : UInt64).toNat = 546:=rfl
 have hadd : (chM w r i + 546).toNat = (chM w r i).toNat + 546:=by rw [UInt64.toNat_add,n546,Nat.mod_eq_of_lt (by omega)]
 by_cases hc : chM w r i + 546 <= sumU (sortU l) (i + 1)
 · rw [if_pos hc] at h7
   have hc':=hc
   rw [UInt64.le_iff_toNat_le,hadd] at hc'
   have hle : chM w r i <= sumU (sortU l) (i + 1):=UInt64.le_iff_toNat_le.2 (by omega)
   have hv : (chV l w r).toNat = (sumU (sortU l) (i + 1)).toNat - (chM w r i).toNat:=by rw [h7,UInt64.toNat_sub_of_le _ _ hle]
   refine ⟨fun _=>⟨by rw [UInt64.lt_iff_toNat_lt,hv,n546]; omega,by rw [h7]; grind⟩,fun hn=>?_⟩
   exfalso
   apply hn
   rw [UInt64.lt_iff_toNat_lt,hv]
   have : (0 : UInt64).toNat = 0:=rfl
   omega
 · rw [if_neg hc] at h7
   refine ⟨fun hp=>by rw [h7] at hp; exact absurd hp (UInt64.lt_irrefl 0),fun _=>⟨h7,hc⟩⟩
theorem Sane.rate (G : Sane l w r) (G2 : Sane l w (r + 1)) (hr1 : (r + 1).toNat = r.toNat + 1) (h : chE l w r = 0) (h2 : chE l w (r + 1) = 0) : ¬ (chC l w (r + 1)).length < (chC l w r).length:=by
 obtain ⟨i,a1,a2,_,_,_,a6,_⟩:=G.E h
 obtain ⟨j,b1,_,b3,_,_,b6,_⟩:=G2.E h2
 rw [a6,b6]
 intro hlt
 have h3:=(G.L (i:=j) (by omega)).1 (a2 j (by omega))
 apply b3
 rw [G2.L b1,hr1,Nat.mul_add]
 omega
theorem topk_shift {a : Un} {s : List Un} (h : ∀ c ∈ s,c.value.toNat <= a.value.toNat) (k : Nat) (hk : k <= s.length) : nsum (s.take k) <= nsum ((a :: s).take k):=by
 cases k with
 | zero=>simp [nsum]
 | succ k=>
  rw [List.take_succ_cons,nsum_cons,take_s (by omega),nsum_app]
  have:=h _ (get_in (l:=s) (i:=k) (by omega))
  simp only [nsum,List.map_cons,List.map_nil,List.sum_cons,List.sum_nil] at *
  omega
theorem topk {s t : List Un} (h : t.Sublist s) (hs : s.Pairwise fun a b=>b.value.toNat <= a.value.toNat) : nsum t <= nsum (s.take t.length):=by
 induction h with
 | slnil=>simp
 | cons a h ih=>
  rw [List.pairwise_cons] at hs
  have h1:=ih hs.2
  have h2:=topk_shift (a:=a) hs.1 _ h.length_le
  omega
 | cons_cons a h ih=>
  rw [List.pairwise_cons] at hs
  have h1:=ih hs.2
  rw [List.length_cons,List.take_succ_cons,nsum_cons,nsum_cons]
  omega
theorem more_sum {l : List Un} {a : Un} (hx : hs32 (l ++ [a])) (hp : purP (l ++ [a])) (hxl : hs32 l) (hpl : purP l) {k : Nat} (hk : k <= l.length) : nsum ((sortU l).take k) <= nsum ((sortU (l ++ [a])).take k):=by
 have hperm : (sortU (l ++ [a])).Perm (a :: l):=(sortU_perm hx).trans (List.perm_append_comm (l₁:=l) (l₂:=[a]))
 have hpair:=sortU_pair hx hp
 have hsub : ((sortU (l ++ [a])).erase a).Sublist (sortU (l ++ [a])):=List.erase_sublist
 have he : sortU l = (sortU (l ++ [a])).erase a:=by
  refine sortU_uniq hxl hpl ?_ (hpair.sublist hsub)
  have:=hperm.erase a
  rwa [List.erase_cons_head] at this
 have h1 : ((sortU l).take k).Sublist (sortU (l ++ [a])):=(List.take_sublist _ _).trans (by rw [he]; exact hsub)
 have h2:=topk h1 (hpair.imp fun h=>ord_val h)
 have h3 : ((sortU l).take k).length = k:=by rw [List.length_take,sortU_len]; omega
 rwa [h3] at h2
theorem Sane.more {a : Un} (G : Sane l w r) (G2 : Sane (l ++ [a]) w r) (h : chE l w r = 0) : chE (l ++ [a]) w r = 0 /\ (chC (l ++ [a]) w r).length <= (chC l w r).length:=by
 obtain ⟨i,a1,_,a3,_,_,a6,_⟩:=G.E h
 have hi2 : i < (l ++ [a]).length:=by simp; omega
 have h3 : ¬ chL (l ++ [a]) w r i:=by
  rw [G2.L hi2]
  rw [G.L a1] at a3
  have:=more_sum G2.hx G2.hp G.hx G.hp (k:=i + 1) (by omega)
  omega
 have hE : chE (l ++ [a]) w r = 0:=by
  rw [chE,if_pos G2.P]
  cases hf : chF (l ++ [a]) w r with
  | some _=>rfl
  | none=>
   exfalso
   unfold chF at hf
   rw [List.find?_eq_none] at hf
   have:=hf i (List.mem_range.2 hi2)
   exact h3 (by simpa using this)
 refine ⟨hE, ?_⟩
 obtain ⟨j,_,b2,_,_,_,b6,_⟩:=G2.E hE
 rw [b6,a6]
 rcases Nat.lt_or_ge i j with hlt | hge
 · exact absurd (b2 i hlt) h3
 · omega
end
end Go.Sx

namespace Go.Sx
open Go.Proofs
def rr (rate : UInt16) : UInt64:=(rate % 1000).toUInt64
theorem rr_nat (rate : UInt16) : (rr rate).toNat = rate.toNat % 1000:=by
 rw [rr,UInt16.toNat_toUInt64,UInt16.toNat_mod]; rfl
theorem rr_le (rate : UInt16) : (rr rate).toNat <= 999:=by rw [rr_nat]; omega
theorem rr_succ (rate : UInt16) : (rr rate + 1).toNat = (rr rate).toNat + 1:=by
 have:=rr_le rate
 rw [UInt64.toNat_add]
 have e : (1 : UInt64).toNat = 1:=rfl
 rw [e]
 omega
def f0 (i : Nat) : UInt8:=UInt8.ofInt ((i : Nat) : Int)
def f1 (i : Nat) : UInt8:=UInt8.ofInt ((100 + i : Nat) : Int)
theorem u8_nat (n : Nat) : (UInt8.ofInt ((n : Nat) : Int)).toNat = n % 256:=by
 unfold UInt8.ofInt
 rw [UInt8.toNat_ofNat']
 omega
theorem f0_nat (i : Nat) : (f0 i).toNat = i % 256:=u8_nat i
def cnF (f : Nat -> UInt8) (vs : List UInt32) : Nat -> List Un
 | 0=>[]
 | i + 1=>cnF f vs i ++ [coinS (f i) vs[i]!.toUInt64]
theorem cnF_app (f : Nat -> UInt8) (vs : List UInt32) (i : Nat) : (cnF f vs i).map coD ++ [coD (coinS (f i) vs[i]!.toUInt64)] = (cnF f vs (i + 1)).map coD:=by
 rw [cnF,List.map_append]; rfl
theorem cn_len (f : Nat -> UInt8) (vs : List UInt32) (n : Nat) : (cnF f vs n).length = n:=by
 induction n with
 | zero=>rfl
 | succ n ih=>rw [cnF,List.length_append,ih]; rfl
theorem cn_mem {f : Nat -> UInt8} {vs : List UInt32} {n : Nat} {c : Un} (h : c ∈ cnF f vs n) : ∃ j,j < n /\ c = coinS (f j) vs[j]!.toUInt64:=by
 induction n with
 | zero=>cases h
 | succ n ih=>
  rw [cnF] at h
  rcases List.mem_append.1 h with h | h
  · obtain ⟨j,hj,e⟩:=ih h; exact ⟨j,by omega,e⟩
  · exact ⟨n,by omega,List.mem_singleton.1 h⟩
theorem coin_upl {a b : UInt8} {v u : UInt64} (h : upl (coinS a v) = upl (coinS b u)) : a = b:=by
 simp only [upl,coinS,Prod.mk.injEq,List.cons.injEq] at h
 exact h.1.1
theorem u32_val (x : UInt32) : x.toUInt64.toNat <= 4294967295:=by
 rw [UInt32.toNat_toUInt64]
 have:=x.toNat_lt
 omega
theorem cn_hs (f : Nat -> UInt8) (vs : List UInt32) (n : Nat) : hs32 (cnF f vs n):=fun c hc=>by
 obtain ⟨j,_,rfl⟩:=cn_mem hc; rfl
theorem cn_val {f : Nat -> UInt8} {vs : List UInt32} {n : Nat} : ∀ c ∈ cnF f vs n,c.value.toNat <= 4294967295:=fun c hc=>by
 obtain ⟨j,_,rfl⟩:=cn_mem hc; exact u32_val _
theorem cn_nodup {f : Nat -> UInt8} {vs : List UInt32} {n : Nat} (hf : ∀ i j,i < j -> j < n -> f i ≠ f j) : ((cnF f vs n).map upl).Nodup:=by
 induction n with
 | zero=>exact List.nodup_nil
 | succ n ih=>
  rw [cnF,List.map_append,List.nodup_append]
  refine ⟨ih fun i j hij hj=>hf i j hij (by omega),by simp,fun a ha b hb=>?_⟩
  obtain ⟨c,hc,rfl⟩:=List.mem_map.1 ha
  obtain ⟨j,hj,rfl⟩:=cn_mem hc
  simp only [List.map_cons,List.map_nil,List.mem_singleton] at hb
  subst hb
  intro e
  exact hf j n hj (by omega) (coin_upl e)
theorem f0_ne {n : Nat} (hn : n <= 100) : ∀ i j,i < j -> j < n -> f0 i ≠ f0 j:=fun i j hij hj e=>by
 have:=congrArg UInt8.toNat e
 rw [f0_nat,f0_nat] at this
 omega
theorem pur_of {l : List Un} (h : (l.map upl).Nodup) (hv : ∀ c ∈ l,c.value.toNat <= 2100000000000000) : purP l:=fun i hi=>
 ⟨purI_no fun k hk e=>by have:=nodup_get h (i:=k) (j:=i) (by omega) hi e; omega,by
  have:=hv _ (get_in hi)
  rw [UInt64.lt_iff_toNat_lt,MMn]; omega⟩
theorem cn_pur {vs : List UInt32} {n : Nat} (hn : n <= 100) : purP (cnF f0 vs n):=
 pur_of (cn_nodup (f0_ne hn)) fun c hc=>by have:=cn_val c hc; omega
def fE (_ : Nat) : List UInt8:=[]
def wnG (f : Nat -> List UInt8) (ws : List UInt32) : Nat -> List Wnt
 | 0=>[]
 | i + 1=>wnG f ws i ++ [⟨f i,1 + ws[i]!.toUInt64⟩]
def alI (ws : List UInt32) : Nat -> UInt64
 | 0=>0
 | i + 1=>alI ws i + (1 + ws[i]!.toUInt64)
theorem wn_len (f : Nat -> List UInt8) (ws : List UInt32) (n : Nat) : (wnG f ws n).length = n:=by
 induction n with
 | zero=>rfl
 | succ n ih=>rw [wnG,List.length_append,ih]; rfl
theorem wn_get (f : Nat -> List UInt8) (ws : List UInt32) : ∀ n j,j < n -> (wnG f ws n)[j]! = ⟨f j,1 + ws[j]!.toUInt64⟩:=by
 intro n
 induction n with
 | zero=>intro j hj; exact absurd hj (Nat.not_lt_zero _)
 | succ n ih=>
  intro j hj
  have hl:=wn_len f ws n
  rw [wnG,getE (by rw [List.length_append,hl]; simpa using hj),List.getElem_append]
  split
  · rename_i h
    rw [<- getE h]; exact ih j (by omega)
  · rename_i h
    have : j = n:=by omega
    subst this
    simp [hl]
theorem wn_mem {f : Nat -> List UInt8} {ws : List UInt32} {n : Nat} {c : Wnt} (h : c ∈ wnG f ws n) : ∃ j,j < n /\ c = ⟨f j,1 + ws[j]!.toUInt64⟩:=by
 obtain ⟨j,hj,rfl⟩:=mem_get h
 rw [wn_len] at hj
 exact ⟨j,hj,wn_get f ws n j hj⟩
theorem one_val (x : UInt32) : (1 + x.toUInt64).toNat = 1 + x.toNat /\ 1 + x.toNat <= 4294967296:=by
 have h1:=u32_val x
 have h2 : x.toUInt64.toNat = x.toNat:=UInt32.toNat_toUInt64 x
 rw [UInt64.toNat_add]
 have e : (1 : UInt64).toNat = 1:=rfl
 rw [e,h2]
 omega
theorem al_nat (ws : List UInt32) : ∀ i ≤ 100,(alI ws i).toNat <= i * 4294967296:=by
 intro i
 induction i with
 | zero=>intro _; simp [alI]
 | succ i ih=>
  intro hi
  have h1:=ih (by omega)
  have h2:=one_val ws[i]!
  rw [alI,UInt64.toNat_add,Nat.mod_eq_of_lt (by omega)]
  omega
theorem wsum_al (f : Nat -> List UInt8) (ws : List UInt32) (n : Nat) : ∀ i ≤ n,wsumI (wnG f ws n) i = alI ws i:=by
 intro i
 induction i with
 | zero=>intro _; rfl
 | succ i ih=>intro hi; rw [wsumI,alI,ih (by omega),wn_get f ws n i (by omega)]
theorem wn_tot {f : Nat -> List UInt8} {ws : List UInt32} {n : Nat} (hf : ∀ i,(f i).length <= 1000) (h1 : 1 <= n) (h2 : n <= 8) : totP (wnG f ws n) /\ totV (wnG f ws n) = alI ws n:=by
 have hl:=wn_len f ws n
 have hN : wanN (wnG f ws n) = n:=by unfold wanN; omega
 have hF : wanF (wnG f ws n):=fun j hj=>by
  rw [hN] at hj
  rw [wn_get f ws n j hj]
  have h3:=one_val ws[j]!
  refine ⟨?_, ?_,hf j⟩
  · show ¬ (1 + ws[j]!.toUInt64 : UInt64) < 1
    rw [UInt64.lt_iff_toNat_lt,h3.1]
    have e : (1 : UInt64).toNat = 1:=rfl
    omega
  · show ¬ (2100000000000000 : UInt64) < 1 + ws[j]!.toUInt64
    rw [UInt64.lt_iff_toNat_lt,h3.1,MMn]
    omega
 have ha:=al_nat ws n (by omega)
 have hw : wanP (wnG f ws n):=⟨hF,by omega,by omega,by rw [hN,wsum_al f ws n n (Nat.le_refl _),UInt64.le_iff_toNat_le,MMn]; omega⟩
 have ht:=(tot_wan _).2 hw
 refine ⟨ht, ?_⟩
 rw [<- tot_wanV ht,wanV,if_pos hF,hN,wsum_al f ws n n (Nat.le_refl _)]
theorem wn_sane {l : List Un} {f : Nat -> List UInt8} {ws : List UInt32} {r : UInt64} {n : Nat} (hf : ∀ i,(f i).length <= 1000) (h1 : 1 <= n) (h2 : n <= 8) (hx : hs32 l) (hp : purP l) (hr : r.toNat <= 1000000) (hn : l.length <= 200) (hv : ∀ c ∈ l,c.value.toNat <= 4294967296) : Sane l (wnG f ws n) r where
 hx:=hx
 hp:=hp
 ht:=(wn_tot hf h1 h2).1
 hr:=hr
 hn:=hn
 hv:=hv
 hs:=by rw [(wn_tot hf h1 h2).2]; have:=al_nat ws n (by omega); omega
theorem fE_le (i : Nat) : (fE i).length <= 1000:=by simp [fE]
def wntN (w : Wnt) : D:=.agg [.nils,.u64 w.value]
theorem wnN_app (ws : List UInt32) (i : Nat) : (wnG fE ws i).map wntN ++ [.agg [.nils,.u64 (1 + ws[i]!.toUInt64)]] = (wnG fE ws (i + 1)).map wntN:=by
 rw [wnG,List.map_append]; rfl
theorem wk_wnN (o : Option Nat) (ws : List UInt32) (n : Nat) : Wk (.sl o 2 ((wnG fE ws n).map wntN)) (.sl o 2 ((wnG fE ws n).map wntD)):=
 .slM fun x hx=>by
  obtain ⟨j,_,rfl⟩:=wn_mem hx
  exact .aggL (.cons (.nils _ _) (.cons (.refl _) .nil))
theorem l2_app (l : List Un) (a : Un) : l.map coD ++ [coD a] = (l ++ [a]).map coD:=by rw [List.map_append]; rfl
theorem neF {α : Type} [BEq α] [LawfulBEq α] {a b : α} (h : a = b) : (a != b) = false:=by subst h; simp
theorem Sane.fe {l : List Un} {w : List Wnt} {r : UInt64} (G : Sane l w r) {i m : Nat} (hi : i <= 4096) (hm : m <= 4096) : (feeE ((i : Nat) : Int) ((m : Nat) : Int) r != 0) = false:=neF (fee_nat hi hm G.hr).2
theorem cnt_le (c : List Un) (x : Un) (k : Nat) : cntK c x k <= k:=by
 induction k with
 | zero=>exact Nat.le_refl _
 | succ k ih=>rw [cntK]; split <;> omega
theorem pos_ne {a : UInt64} (h : 0 < a) : (a == 0) = false:=beq_eq_false_iff_ne.2 fun e=>by subst e; exact absurd h (UInt64.lt_irrefl 0)
theorem least_sane {vs ws : List UInt32} {rate : UInt16} (h1 : vs.length <= 60) (h2 : ws.length <= 8) (h3 : ¬ ws.length = 0) {r : UInt64} (hr : r.toNat <= 1000000) : Sane (cnF f0 vs vs.length) (wnG fE ws ws.length) r:=
 wn_sane fE_le (by omega) h2 (cn_hs _ _ _) (cn_pur (by omega)) hr (by rw [cn_len]; omega) fun c hc=>by have:=cn_val c hc; omega
theorem more_sane {vs ws : List UInt32} {more : UInt32} (h1 : vs.length <= 60) (h2 : ws.length <= 8) (h3 : ¬ ws.length = 0) {r : UInt64} (hr : r.toNat <= 1000000) : Sane (cnF f0 vs vs.length ++ [coinS 200 more.toUInt64]) (wnG fE ws ws.length) r:=by
 have hv : ∀ c ∈ cnF f0 vs vs.length ++ [coinS 200 more.toUInt64],c.value.toNat <= 4294967295:=fun c hc=>by
  rcases List.mem_append.1 hc with h | h
  · exact cn_val c h
  · rw [List.mem_singleton.1 h]; exact u32_val _
 refine wn_sane fE_le (by omega) h2 (fun c hc=>?_) (pur_of ?_ fun c hc=>by have:=hv c hc; omega) hr (by rw [List.length_append,cn_len,List.length_singleton]; omega) fun c hc=>by have:=hv c hc; omega
 · rcases List.mem_append.1 hc with h | h
   · exact cn_hs _ _ _ c h
   · rw [List.mem_singleton.1 h]; rfl
 · rw [List.map_append,List.nodup_append]
   refine ⟨cn_nodup (f0_ne (by omega)),by simp,fun a ha b hb=>?_⟩
   obtain ⟨c,hc,rfl⟩:=List.mem_map.1 ha
   obtain ⟨j,hj,rfl⟩:=cn_mem hc
   simp only [List.map_cons,List.map_nil,List.mem_singleton] at hb
   subst hb
   intro e
   have:=congrArg UInt8.toNat (coin_upl e)
   rw [f0_nat] at this
   have e2 : (200 : UInt8).toNat = 200:=rfl
   omega
end Go.Sx
