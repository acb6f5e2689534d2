/-
 Own library: arguments that a statement's form reads as data,as D; a contract from what a function computes.
-/
import Derived.Test.YtgilikgghknbhaaDoorMSxPanic
import Derived.Test.YtgilikgghknbhaaDoorMLdMid10
import Derived.Test.YtgilikgghknbhaaDoorMLdMid6
import Derived.Test.YtgilikgghknbhaaDoorMSxOwn
import Derived.OpenShut
import Derived.Carry
import Derived.Deep.Slices
import Derived.Deep.DeepHandedRow
import Derived.Lib.LaidTab
set_option linter.unusedVariables false
set_option linter.unusedSimpArgs false
set_option linter.unnecessarySimpa false

namespace Go.Sx
open Go.Proofs
set_option maxHeartbeats 2000000 in
theorem vless_ok (ps : List PlS) (hps : allPl ps) (key : UInt8) (out : List UInt8) : Fn Tryd.prog gl 4 [.sl none 3 (ps.map plD),.u8 key,.sl none 1 (out.map D.u8)] (.bool true):=by
 refine Fn.of (n:=219) Tryd.func4 rfl rfl rfl (nU rfl) fun C hC hD=>?_
 refine W.seq ?_
 refine W.l0 1 [.y 6 _] [] [] [(0,_),(1,_),(2,_)] [] 219 ⟨aU fun _ _ H _=>R.asg (kB false O) O H,Zt⟩ O O O O (tU O ?_)
 refine W.seq (W.seq ?_)
 by_cases ha : 10 < ps.length
 · refine W.l0 8 [.y 22 _,.y 23 _,.y 24 _,.y 25 _,.x 26,.x 27,.x 28,.y 29 _] [] [] [(0,_),(1,_),(2,_),(29,_)] [] 219 ⟨mU 0 O O,aU fun _ _ H K=>R.lenE (SC.sl (K 22 _ O)) (lN _) H,aU fun _ _ H K=>R.gtrN (ps.length) (10) (eU K 23 O) (kI 10 O) H,mU 24 O O,aF O O (gT (dT ha) O),aF O O (gT (dT ha) O),aF O O (gT (dT ha) O),aU fun _ _ H K=>R.pickT (eU K 25 O) (dT ha) (kB true O) O H,Zt⟩ O O O O (tU O ?_)
   refine W.condT O (O) ?_
   refine W.seq ?_
   refine W.l0 2 [.y 30 _,.y 6 _] [] [] [(6,_)] [] 219 ⟨aU fun _ _ H _=>R.callG hC (wk25_ok) Bn (FrsR.one (.bool _)) H,aU fun _ _ H K=>R.asg (eU K 30 O) O H,Zt⟩ O O O O (tU O ?_)
   refine W.ret ?_
   exact Ends.one' (.inr O) O (O) O O Zt
 · refine W.l0 8 [.y 22 _,.y 23 _,.y 24 _,.y 25 _,.y 26 _,.y 27 _,.y 28 _,.y 29 _] [] [] [(0,_),(1,_),(2,_),(29,_)] [] 219 ⟨mU 0 O O,aU fun _ _ H K=>R.lenE (SC.sl (K 22 _ O)) (lN _) H,aU fun _ _ H K=>R.gtrN (ps.length) (10) (eU K 23 O) (kI 10 O) H,mU 24 O O,aW O O (gF (dF ha) O) fun _ _ H K=>R.mov (eU K 2 O) O H,aW O O (gF (dF ha) O) fun _ _ H K=>R.lenE (SC.sl (K 26 _ O)) (lN _) H,aW O O (gF (dF ha) O) fun _ _ H K=>R.gtrN (out.length) (10) (eU K 27 O) (kI 10 O) H,aU fun _ _ H K=>R.pickF (eU K 25 O) (dF ha) (eU K 28 O) O H,Zt⟩ O O O O (tU O ?_)
   refine W.condD O (fun hc29=>?_) (fun hc29=>?_)
   · refine W.seq ?_
     refine W.l0 2 [.y 30 _,.y 6 _] [] [] [(6,_)] [] 219 ⟨aU fun _ _ H _=>R.callG hC (wk25_ok) Bn (FrsR.one (.bool _)) H,aU fun _ _ H K=>R.asg (eU K 30 O) O H,Zt⟩ O O O O (tU O ?_)
     refine W.ret ?_
     exact Ends.one' (.inr O) O (O) O O Zt
   · refine W.skip (W.seq ?_)
     have hbs:=(blkS_all ps).1
     have hA:=aS_pv ps key
     have hAl:=hA.1
     have hK:=keepS_pv hA out
     have hKl:=hK.1
     have hsA:=hvS_sub hA out (sumK (key % 12))
     refine W.l0 7 [.y 31 _,.y 32 _,.y 33 _,.y 34 _,.y 35 _,.y 36 _,.y 7 _] [] [] [(1,_),(2,_),(7,_)] [] 219 ⟨aU fun _ _ H _=>R.callPE hC (easy_ok) (EvP.cons (kI 10 O) O O (EvP.cons (show ev _ _ (.const (.int .u32 10)) = some (.u32 10) from O) O O EvP.nil)) H,mU 0 O O,aU fun _ _ H K=>R.callPE hC (blocks15_ok ps hps) (EvP.cons (eU K 31 O) O O (EvP.cons (eU K 32 O) O O EvP.nil)) H,mU 1 O O,aU fun _ _ H K=>R.frzT (r':=.sl none 1 ([key].map D.u8)) (R.bslE (z:=1) (.cons (eU K 34 O) .nil) ⟨⟨O,O,O⟩,Zt⟩ O H dU) O (brw_one _ _ _),aU fun _ _ H K=>R.callPE hC (tou25_ok (blkS ps) hbs [key] (nU O)) (EvP.cons (eU K 33 O) O O (EvP.cons (eU K 35 O) O O EvP.nil)) H,aU fun _ _ H K=>R.asg (eU K 36 O) O H,Zt⟩ O O O O (tU O ?_)
     refine W.seq ?_
     refine W.l0 1 [.y 8 _] [] [] [(1,_),(2,_),(7,_),(8,_)] [] 219 ⟨aU fun _ _ H _=>R.asg (kN O) O H,Zt⟩ O O O O (tU O ?_)
     refine W.seq (W.seq ?_)
     refine W.l0 1 [.y 9 _] [] [] [(1,_),(2,_),(7,_),(8,_),(9,_)] [] 219 ⟨aU fun _ _ H _=>R.asg (kI 0 O) O H,Zt⟩ O O O O (tU O ?_)
     refine W.block ?_
     refine W.asOwn (s:=8) 56 72 O ?_
     refine W.loop (α:={q__ : Nat // q__ <= (aS ps key).length}) (fun q__=>⟨219,[(1,.u8 key),(2,.sl none 1 (out.map D.u8)),(7,.sl none 72 ((aS ps key).map pvD)),(8,.sl (some 56) 72 ((keepI (aS ps key) out q__.1).map pvD)),(9,.int ((q__.1 : Nat) : Int))],[]⟩) (fun q__=>(aS ps key).length - q__.1) ⟨(0),bU⟩ O ?_
     rintro ⟨i,hi⟩
     show W _ _ _ _ ⟨219,[(1,.u8 key),(2,.sl none 1 (out.map D.u8)),(7,.sl none 72 ((aS ps key).map pvD)),(8,.sl (some 56) 72 ((keepI (aS ps key) out i).map pvD)),(9,.int ((i : Nat) : Int))],[]⟩
     have hi : i <= (aS ps key).length:=hi
     have hkl:=keep_len (out:=out) i hi
     refine W.seq (W.seq ?_)
     refine W.l0 4 [.y 37 _,.y 38 _,.y 39 _,.y 40 _] [] [] [(1,_),(2,_),(7,_),(8,_),(9,_),(40,_)] [] 219 ⟨mU 9 O O,mU 7 O O,aU fun _ _ H K=>R.lenE (SC.sl (K 38 _ O)) (lN _) H,aU fun _ _ H K=>R.lssN (i) ((aS ps key).length) (eU K 37 O) (eU K 39 O) H,Zt⟩ O O O O (tU O ?_)
     refine W.condD O (fun hc40=>?_) (fun hc40=>?_)
     · refine W.skip (W.seq (W.block (W.seq ?_)))
       refine W.l0 1 [.y 10 _] [] [] [(1,_),(2,_),(7,_),(8,_),(9,_),(10,_)] [] 219 ⟨aU fun _ _ H _=>R.asg (kB false O) O H,Zt⟩ O O O O (tU O ?_)
       refine W.seq (W.seq ?_)
       refine W.l0 1 [.y 11 _] [] [] [(1,_),(2,_),(7,_),(8,_),(9,_),(10,_),(11,_)] [] 219 ⟨aU fun _ _ H _=>R.asg (kI 0 O) O H,Zt⟩ O O O O (tU O ?_)
       refine W.block ?_
       refine W.loop (α:={q__ : Nat // q__ <= out.length}) (fun q__=>⟨219,[(1,.u8 key),(2,.sl none 1 (out.map D.u8)),(7,.sl none 72 ((aS ps key).map pvD)),(8,.sl (some 56) 72 ((keepI (aS ps key) out i).map pvD)),(9,.int ((i : Nat) : Int)),(10,.bool (drO (aS ps key).length out i q__.1)),(11,.int ((q__.1 : Nat) : Int))],[]⟩) (fun q__=>out.length - q__.1) ⟨(0),bU⟩ O ?_
       rintro ⟨k,hk⟩
       show W _ _ _ _ ⟨219,[(1,.u8 key),(2,.sl none 1 (out.map D.u8)),(7,.sl none 72 ((aS ps key).map pvD)),(8,.sl (some 56) 72 ((keepI (aS ps key) out i).map pvD)),(9,.int ((i : Nat) : Int)),(10,.bool (drO (aS ps key).length out i k)),(11,.int ((k : Nat) : Int))],[]⟩
       have hk : k <= out.length:=hk
       refine W.seq (W.seq ?_)
       refine W.l0 4 [.y 43 _,.y 44 _,.y 45 _,.y 46 _] [] [] [(1,_),(2,_),(7,_),(8,_),(9,_),(10,_),(11,_),(46,_)] [] 219 ⟨mU 11 O O,mU 2 O O,aU fun _ _ H K=>R.lenE (SC.sl (K 44 _ O)) (lN _) H,aU fun _ _ H K=>R.lssN (k) (out.length) (eU K 43 O) (eU K 45 O) H,Zt⟩ O O O O (tU O ?_)
       refine W.condD O (fun hc46=>?_) (fun hc46=>?_)
       · refine W.skip (W.seq (W.block ?_))
         by_cases hbo : (drO (aS ps key).length out i k) = true
         · refine W.l0 14 [.y 49 _,.y 50 _,.x 51,.x 52,.x 53,.x 54,.x 55,.x 56,.x 57,.x 58,.x 59,.x 60,.y 61 _,.y 10 _] [] [] [(1,_),(2,_),(7,_),(8,_),(9,_),(10,_),(11,_)] [] 219 ⟨mU 10 O O,mU 49 O O,aF O O (gT (hbo) O),aF O O (gT (hbo) O),aF O O (gT (hbo) O),aF O O (gT (hbo) O),aF O O (gT (hbo) O),aF O O (gT (hbo) O),aF O O (gT (hbo) O),aF O O (gT (hbo) O),aF O O (gT (hbo) O),aF O O (gT (hbo) O),aU fun _ _ H K=>R.pickT (eU K 50 O) (hbo) (kB true O) O H,aU fun _ _ H K=>R.asg (eU K 61 O) O H,Zt⟩ O O O O (tU O ?_)
           refine W.l0 3 [.y 47 _,.y 48 _,.y 11 _] [] [] [(1,_),(2,_),(7,_),(8,_),(9,_),(10,_),(11,_)] [] 219 ⟨mU 11 O O,aU fun _ _ H K=>R.addN (k) (1) (eU K 47 O) (kI 1 O) bU H,aU fun _ _ H K=>R.asg (eU K 48 O) O H,Zt⟩ O O O O (tU O ?_)
           exact ⟨⟨(k + 1),bU⟩,(by first | (dsimp only; rw [dr_t hbo]) | (dsimp only; rw [dr_f (bfalse hbo)])),(by simp only []; omega)⟩
         · refine W.l0 14 [.y 49 _,.y 50 _,.y 51 _,.y 52 _,.y 53 _,.y 54 _,.y 55 _,.y 56 _,.y 57 _,.y 58 _,.y 59 _,.y 60 _,.y 61 _,.y 10 _] [] [] [(1,_),(2,_),(7,_),(8,_),(9,_),(10,_),(11,_)] [] 219 ⟨mU 10 O O,mU 49 O O,aW O O (gF (bfalse hbo) O) fun _ _ H K=>R.mov (eU K 2 O) O H,aW O O (gF (bfalse hbo) O) fun _ _ H K=>R.mov (eU K 11 O) O H,aW O O (gF (bfalse hbo) O) fun _ _ H K=>R.idxN (k) (SC.sl (K 51 _ O)) (evoI (eU K 52 O)) O bU H dU,aW O O (gF (bfalse hbo) O) fun _ _ H K=>R.ldE (K 53 _ O) (SC.sl (K 51 _ O)) (map_get! (l:=out) bU) O O O O H,aW O O (gF (bfalse hbo) O) fun _ _ H K=>R.conv (eU K 54 O) O H,aW O O (gF (bfalse hbo) O) fun _ _ H K=>R.mov (eU K 7 O) O H,aW O O (gF (bfalse hbo) O) fun _ _ H K=>R.lenE (SC.sl (K 56 _ O)) (lN _) H,aW O O (gF (bfalse hbo) O) fun _ _ H K=>R.remN (out[k]!.toNat) ((aS ps key).length) (eU K 55 O) (eU K 57 O) bU H,aW O O (gF (bfalse hbo) O) fun _ _ H K=>R.mov (eU K 9 O) O H,aW O O (gF (bfalse hbo) O) fun _ _ H K=>R.eqlN ((out[k]!.toNat % (aS ps key).length)) (i) (eU K 58 O) (eU K 59 O) H,aU fun _ _ H K=>R.pickF (eU K 50 O) (bfalse hbo) (eU K 60 O) O H,aU fun _ _ H K=>R.asg (eU K 61 O) O H,Zt⟩ O O O O (tU O ?_)
           refine W.l0 3 [.y 47 _,.y 48 _,.y 11 _] [] [] [(1,_),(2,_),(7,_),(8,_),(9,_),(10,_),(11,_)] [] 219 ⟨mU 11 O O,aU fun _ _ H K=>R.addN (k) (1) (eU K 47 O) (kI 1 O) bU H,aU fun _ _ H K=>R.asg (eU K 48 O) O H,Zt⟩ O O O O (tU O ?_)
           exact ⟨⟨(k + 1),bU⟩,(by first | (dsimp only; rw [dr_t hbo]) | (dsimp only; rw [dr_f (bfalse hbo)])),(by simp only []; omega)⟩
       · obtain rfl : k = out.length:=by omega
         refine W.exit (W.seq ?_)
         refine W.l0 2 [.y 62 _,.y 63 _] [] [] [(1,_),(2,_),(7,_),(8,_),(9,_),(63,_)] [] 219 ⟨mU 10 O O,aU fun _ _ H K=>R.un (eU K 62 O) O H,Zt⟩ O O O O (tU O ?_)
         refine W.cond O (fun hc63=>?_) (fun hc63=>?_)
         · refine W.l0 8 [.y 64 _,.y 65 _,.y 66 _,.y 67 _,.y 68 _,.y 69 _,.y 70 _,.y 8 _] [(6,8),(7,70),(7,64)] [(6,8),(7,70)] [(1,_),(2,_),(7,_),(8,_),(9,_)] [] 219 ⟨aU fun _ _ H K=>R.al (K 8 _ O) H dU,mU 7 O O,mU 9 O O,aU fun _ _ H K=>R.idxN (i) (SC.sl (K 65 _ O)) (evoI (eU K 66 O)) O bU H dU,aU fun _ _ H K=>R.ldE (K 67 _ O) (SC.sl (K 65 _ O)) (map_get! (l:=(aS ps key)) bU) O O O O H,aU fun _ _ H K=>R.bslE (z:=72) (.cons (eU K 68 O) .nil) ⟨⟨O,O,O⟩,Zt⟩ O H dU,aU fun _ _ H K=>R.appE (Or.inr (K 64 _ O)) (K 8 _ O) (SrcO.sc (SC.sl (K 69 _ O)) (pur_lit O)) (show _ = ((keepI (aS ps key) out (i + 1)).map pvD) from (keep_app (not_t hc63))) (by simp only [List.length_map,List.length_cons,List.length_nil]; omega) H dU dU,aU fun _ _ H K=>R.asgO (K 70 _ O) O H dU,Zt⟩ O O O O (tU O ?_)
           refine W.l0 3 [.y 41 _,.y 42 _,.y 9 _] [] [] [(1,_),(2,_),(7,_),(8,_),(9,_)] [] 219 ⟨mU 9 O O,aU fun _ _ H K=>R.addN (i) (1) (eU K 41 O) (kI 1 O) bU H,aU fun _ _ H K=>R.asg (eU K 42 O) O H,Zt⟩ O O O O (tU O ?_)
           exact ⟨⟨(i + 1),bU⟩,(by first | (dsimp only; rw [keep_d (not_f hc63)]) | rfl),(by simp only []; omega)⟩
         · refine W.skip ?_
           refine W.l0 3 [.y 41 _,.y 42 _,.y 9 _] [] [] [(1,_),(2,_),(7,_),(8,_),(9,_)] [] 219 ⟨mU 9 O O,aU fun _ _ H K=>R.addN (i) (1) (eU K 41 O) (kI 1 O) bU H,aU fun _ _ H K=>R.asg (eU K 42 O) O H,Zt⟩ O O O O (tU O ?_)
           exact ⟨⟨(i + 1),bU⟩,(by first | (dsimp only; rw [keep_d (not_f hc63)]) | rfl),(by simp only []; omega)⟩
     · obtain rfl : i = (aS ps key).length:=by omega
       refine W.exit (W.seq ?_)
       refine W.l0 5 [.y 71 _,.y 72 _,.y 73 _] [] [] [(7,_),(8,_),(73,_)] [] 219 ⟨mU 1 O O,aU fun _ _ H K=>R.bin (eU K 71 O) (show ev _ _ (.const (.int .u8 12)) = some (.u8 12) from O) O dU H,aU fun _ _ H K=>R.callG hC (sum15_ok (key % 12)) (Bc (Bp (eU K 72 O) O O) Bn) (FrsR.one (frs_hash' _)) H,Zt⟩ O O O O (⟨O,_,R.alloc O (nU O),⟨O,_,R.stZ (gU 12 O) (xU 12 O) O (gV 73 O) (by rfl) (by rfl) (by rfl) (by rfl) O,tV [(7,_),(8,_),(12,_)] [(12,.var _)] 219 O O O ?_⟩⟩)
       refine W.seq ?_
       refine W.l0 4 [.y 74 _,.y 75 _,.y 76 _,.y 13 _] [(3,76)] [(3,76)] [(7,_),(8,_),(12,_),(13,_)] [(12,.var _)] 219 ⟨aU fun _ _ H K=>R.al (K 8 _ O) H dU,aU (lU 12 O O O O O O O),aU fun _ _ H K=>R.callG hC (vhist_ok (keepS (aS ps key) out) hK (sumK (key % 12))) (Bc (Bor.sc (SC.al (K 74 _ O) (K 8 _ O)) (brw_map brw_pvK)) (Bc (Bp (eU K 75 O) O O) Bn)) (frs_ens _ _ _) H,aU fun _ _ H K=>R.asgO (K 76 _ O) O H dU,Zt⟩ O O O O (tU O ?_)
       refine W.seq ?_
       refine W.l0 4 [.y 77 _,.y 78 _,.y 79 _,.y 14 _] [(3,79)] [(3,79)] [(8,_),(12,_),(13,_),(14,_)] [(12,.var _)] 219 ⟨mU 7 O O,aU (lU 12 O O O O O O O),aU fun _ _ H K=>R.callG hC (vhist_ok (aS ps key) hA (sumK (key % 12))) (Bc (Bp (eU K 77 O) O O) (Bc (Bp (eU K 78 O) O O) Bn)) (frs_ens _ _ _) H,aU fun _ _ H K=>R.asgO (K 79 _ O) O H dU,Zt⟩ O O O O (tU O ?_)
       refine W.seq ?_
       refine W.l0 1 [.y 15 _] [] [] [(8,_),(12,_),(13,_),(14,_),(15,_)] [(12,.var _)] 219 ⟨aU fun _ _ H _=>R.asg (kI 0 O) O H,Zt⟩ O O O O (tU O ?_)
       refine W.seq (W.seq ?_)
       refine W.l0 1 [.y 16 _] [] [] [(8,_),(12,_),(13,_),(14,_),(15,_),(16,_)] [(12,.var _)] 219 ⟨aU fun _ _ H _=>R.asg (kI 0 O) O H,Zt⟩ O O O O (tU O ?_)
       refine W.block ?_
       refine W.loop (α:={q__ : Nat × Nat // (q__.1 <= (hvS (keepS (aS ps key) out) (sumK (key % 12))).length /\ q__.2 <= (hvS (aS ps key) (sumK (key % 12))).length) /\ ((hvS (keepS (aS ps key) out) (sumK (key % 12))).drop q__.1).Sublist ((hvS (aS ps key) (sumK (key % 12))).drop q__.2)}) (fun q__=>⟨219,[(8,.sl (some 56) 72 ((keepS (aS ps key) out).map pvD)),(12,.ptr 12 0 []),(13,.sl (some 58) 33 ((hvS (keepS (aS ps key) out) (sumK (key % 12))).map enD)),(14,.sl (some 58) 33 ((hvS (aS ps key) (sumK (key % 12))).map enD)),(15,.int ((q__.1.2 : Nat) : Int)),(16,.int ((q__.1.1 : Nat) : Int))],[(12,.var (hashD (sumK (key % 12))))]⟩) (fun q__=>(hvS (keepS (aS ps key) out) (sumK (key % 12))).length - q__.1.1) ⟨(0,0),⟨⟨Nat.zero_le _,Nat.zero_le _⟩,hsA⟩⟩ O ?_
       rintro ⟨⟨i,k⟩,⟨⟨hi,hk⟩,hsub0⟩⟩
       show W _ _ _ _ ⟨219,[(8,.sl (some 56) 72 ((keepS (aS ps key) out).map pvD)),(12,.ptr 12 0 []),(13,.sl (some 58) 33 ((hvS (keepS (aS ps key) out) (sumK (key % 12))).map enD)),(14,.sl (some 58) 33 ((hvS (aS ps key) (sumK (key % 12))).map enD)),(15,.int ((k : Nat) : Int)),(16,.int ((i : Nat) : Int))],[(12,.var (hashD (sumK (key % 12))))]⟩
       have hi : i <= (hvS (keepS (aS ps key) out) (sumK (key % 12))).length:=hi
       have hk : k <= (hvS (aS ps key) (sumK (key % 12))).length:=hk
       have hsub0 : ((hvS (keepS (aS ps key) out) (sumK (key % 12))).drop i).Sublist ((hvS (aS ps key) (sumK (key % 12))).drop k):=hsub0
       have hHl:=hvS_len hK (sumK (key % 12))
       have hFl:=hvS_len hA (sumK (key % 12))
       refine W.seq (W.seq ?_)
       refine W.l0 4 [.y 80 _,.y 81 _,.y 82 _,.y 83 _] [] [] [(8,_),(12,_),(13,_),(14,_),(15,_),(16,_),(83,_)] [(12,.var _)] 219 ⟨mU 16 O O,aU fun _ _ H K=>R.al (K 13 _ O) H dU,aU fun _ _ H K=>R.lenE (SC.al (K 81 _ O) (K 13 _ O)) (lN _) H,aU fun _ _ H K=>R.lssN (i) ((hvS (keepS (aS ps key) out) (sumK (key % 12))).length) (eU K 80 O) (eU K 82 O) H,Zt⟩ O O O O (tU O ?_)
       refine W.condD O (fun hc83=>?_) (fun hc83=>?_)
       · refine W.skip (W.seq (W.block (W.seq (W.block ?_))))
         refine W.dropS (live:=[8,12,13,14,15,16]) (env':=[(8,_),(12,_),(13,_),(14,_),(15,_),(16,_)]) (bx':=[(12,.var _)]) (n':=219) O O O ?_
         refine W.loop (α:={q__ : Nat // q__ <= (hvS (aS ps key) (sumK (key % 12))).length /\ ((hvS (keepS (aS ps key) out) (sumK (key % 12))).drop i).Sublist ((hvS (aS ps key) (sumK (key % 12))).drop q__)}) (fun q__=>⟨219,[(8,.sl (some 56) 72 ((keepS (aS ps key) out).map pvD)),(12,.ptr 12 0 []),(13,.sl (some 58) 33 ((hvS (keepS (aS ps key) out) (sumK (key % 12))).map enD)),(14,.sl (some 58) 33 ((hvS (aS ps key) (sumK (key % 12))).map enD)),(15,.int ((q__.1 : Nat) : Int)),(16,.int ((i : Nat) : Int))],[(12,.var (hashD (sumK (key % 12))))]⟩) (fun q__=>(hvS (aS ps key) (sumK (key % 12))).length - q__.1) ⟨(k),⟨hk,hsub0⟩⟩ O ?_
         rintro ⟨k2,⟨hk2,hsub⟩⟩
         show W _ _ _ _ ⟨219,[(8,.sl (some 56) 72 ((keepS (aS ps key) out).map pvD)),(12,.ptr 12 0 []),(13,.sl (some 58) 33 ((hvS (keepS (aS ps key) out) (sumK (key % 12))).map enD)),(14,.sl (some 58) 33 ((hvS (aS ps key) (sumK (key % 12))).map enD)),(15,.int ((k2 : Nat) : Int)),(16,.int ((i : Nat) : Int))],[(12,.var (hashD (sumK (key % 12))))]⟩
         have hk2 : k2 <= (hvS (aS ps key) (sumK (key % 12))).length:=hk2
         have hsub : ((hvS (keepS (aS ps key) out) (sumK (key % 12))).drop i).Sublist ((hvS (aS ps key) (sumK (key % 12))).drop k2):=hsub
         refine W.seq (W.seq ?_)
         by_cases h5 : k2 < (hvS (aS ps key) (sumK (key % 12))).length
         · refine W.draw (m:=15) (an:=[0,0,2,7,15,31,31,127,255,31,31,1567,3615,8191,16383]) hP dU O (its:=[.y 86 _,.y 87 _,.y 88 _,.y 89 _,.y 90 _,.y 91 _,.y 92 _,.y 93 _,.y 94 _,.y 95 _,.y 96 _,.y 97 _,.y 98 _,.y 99 _,.y 100 _]) (ks:=[]) (kk:=[]) (live:=[8,12,13,14,15,16,100]) (env':=[(8,_),(12,_),(13,_),(14,_),(15,_),(16,_),(100,_)]) (⟨nU O,O,⟨mU 15 O O,aU fun _ _ H K=>R.al (K 14 _ O) H dU,aU fun _ _ H K=>R.lenE (SC.al (K 87 _ O) (K 14 _ O)) (lN _) H,aU fun _ _ H K=>R.lssN (k2) ((hvS (aS ps key) (sumK (key % 12))).length) (eU K 86 O) (eU K 88 O) H,mU 89 O O,aW O O (gT (dT h5) O) fun _ _ H K=>R.al (K 14 _ O) H dU,aW O O (gT (dT h5) O) fun _ _ H K=>R.mov (eU K 15 O) O H,aW O O (gT (dT h5) O) fun _ _ H K=>R.idxN (k2) (SC.al (K 91 _ O) (K 14 _ O)) (evoI (eU K 92 O)) O bU H dU,aW O O (gT (dT h5) O) fun _ _ H K=>R.ldE (K 93 _ O) (SC.al (K 91 _ O) (K 14 _ O)) (map_get! (l:=(hvS (aS ps key) (sumK (key % 12)))) bU) O O O O H,aW O O (gT (dT h5) O) fun _ _ H K=>R.al (K 13 _ O) H dU,aW O O (gT (dT h5) O) fun _ _ H K=>R.mov (eU K 16 O) O H,aW O O (gT (dT h5) O) fun _ _ H K=>R.idxN (i) (SC.al (K 95 _ O) (K 13 _ O)) (evoI (eU K 96 O)) O bU H dU,aW O O (gT (dT h5) O) fun _ _ H K=>R.ldE (K 97 _ O) (SC.al (K 95 _ O) (K 13 _ O)) (map_get! (l:=(hvS (keepS (aS ps key) out) (sumK (key % 12)))) bU) O O O O H,aW O O (gT (dT h5) O) fun _ _ H K=>R.eqD (neg:=true) (b':=(!((hvS (aS ps key) (sumK (key % 12)))[k2]! == (hvS (keepS (aS ps key) out) (sumK (key % 12)))[i]!))) (eqv_ent _ _) O (eU K 94 O) (eU K 98 O) O O O O (O) H,aU fun _ _ H K=>R.pickT (eU K 90 O) (dT h5) (eU K 99 O) O H,Zt⟩,O,O,O⟩) O (bx':=[(12,.var _)]) O (n':=219) O (tV [(8,_),(12,_),(13,_),(14,_),(15,_),(16,_),(100,_)] [(12,.var _)] 219 O O O ?_)
           refine W.cond O (fun hc100=>?_) (fun hc100=>?_)
           · refine W.skip (W.block ?_)
             refine W.l0 3 [.y 101 _,.y 102 _,.y 15 _] [] [] [(8,_),(12,_),(13,_),(14,_),(15,_),(16,_)] [(12,.var _)] 219 ⟨mU 15 O O,aU fun _ _ H K=>R.addN (k2) (1) (eU K 101 O) (kI 1 O) bU H,aU fun _ _ H K=>R.asg (eU K 102 O) O H,Zt⟩ O O O O (tU O ?_)
             exact ⟨⟨(k2 + 1),⟨(by show k2 + 1 <= _; omega),sub_skip hsub hc83 h5 (fun e=>by rw [beq_iff_eq.2 e] at hc100; cases hc100)⟩⟩,rfl,(by show (hvS (aS ps key) (sumK (key % 12))).length - (k2 + 1) < (hvS (aS ps key) (sumK (key % 12))).length - k2; omega)⟩
           · refine W.exit (W.seq (W.seq ?_))
             refine W.l0 4 [.y 103 _,.y 104 _,.y 105 _,.y 106 _] [] [] [(8,_),(12,_),(13,_),(14,_),(15,_),(16,_),(106,_)] [(12,.var _)] 219 ⟨mU 15 O O,aU fun _ _ H K=>R.al (K 14 _ O) H dU,aU fun _ _ H K=>R.lenE (SC.al (K 104 _ O) (K 14 _ O)) (lN _) H,aU fun _ _ H K=>R.eqlN (k2) ((hvS (aS ps key) (sumK (key % 12))).length) (eU K 103 O) (eU K 105 O) H,Zt⟩ O O O O (tU O ?_)
             refine W.condF O (dF (by omega)) ?_
             refine W.skip ?_
             refine W.l0 3 [.y 107 _,.y 108 _,.y 15 _] [] [] [(8,_),(12,_),(13,_),(14,_),(15,_),(16,_)] [(12,.var _)] 219 ⟨mU 15 O O,aU fun _ _ H K=>R.addN (k2) (1) (eU K 107 O) (kI 1 O) bU H,aU fun _ _ H K=>R.asg (eU K 108 O) O H,Zt⟩ O O O O (tU O ?_)
             refine W.l0 3 [.y 84 _,.y 85 _,.y 16 _] [] [] [(8,_),(12,_),(13,_),(14,_),(15,_),(16,_)] [(12,.var _)] 219 ⟨mU 16 O O,aU fun _ _ H K=>R.addN (i) (1) (eU K 84 O) (kI 1 O) bU H,aU fun _ _ H K=>R.asg (eU K 85 O) O H,Zt⟩ O O O O (tU O ?_)
             exact ⟨⟨(i + 1,k2 + 1),(by first | exact ⟨⟨(by show i + 1 <= _; omega),(by show k2 + 1 <= _; omega)⟩,sub_next hsub hc83 h5 (beq_iff_eq.1 (not_f hc100))⟩ | exact (sub_no hsub hc83 (by omega)).elim)⟩,rfl,(by show (hvS (keepS (aS ps key) out) (sumK (key % 12))).length - (i + 1) < (hvS (keepS (aS ps key) out) (sumK (key % 12))).length - i; omega)⟩
         · refine W.draw (m:=15) (an:=[0,0,2,7,15,31,31,127,255,31,31,1567,3615,8191,16383]) hP dU O (its:=[.y 86 _,.y 87 _,.y 88 _,.y 89 _,.y 90 _,.x 91,.x 92,.x 93,.x 94,.x 95,.x 96,.x 97,.x 98,.x 99,.y 100 _]) (ks:=[]) (kk:=[]) (live:=[8,12,13,14,15,16,100]) (env':=[(8,_),(12,_),(13,_),(14,_),(15,_),(16,_),(100,_)]) (⟨nU O,O,⟨mU 15 O O,aU fun _ _ H K=>R.al (K 14 _ O) H dU,aU fun _ _ H K=>R.lenE (SC.al (K 87 _ O) (K 14 _ O)) (lN _) H,aU fun _ _ H K=>R.lssN (k2) ((hvS (aS ps key) (sumK (key % 12))).length) (eU K 86 O) (eU K 88 O) H,mU 89 O O,aF O O (gF (dF h5) O),aF O O (gF (dF h5) O),aF O O (gF (dF h5) O),aF O O (gF (dF h5) O),aF O O (gF (dF h5) O),aF O O (gF (dF h5) O),aF O O (gF (dF h5) O),aF O O (gF (dF h5) O),aF O O (gF (dF h5) O),aU fun _ _ H K=>R.pickF (eU K 90 O) (dF h5) (kB false O) O H,Zt⟩,O,O,O⟩) O (bx':=[(12,.var _)]) O (n':=219) O (tV [(8,_),(12,_),(13,_),(14,_),(15,_),(16,_),(100,_)] [(12,.var _)] 219 O O O ?_)
           refine W.condF O (O) ?_
           refine W.exit (W.seq (W.seq ?_))
           refine W.l0 4 [.y 103 _,.y 104 _,.y 105 _,.y 106 _] [] [] [(8,_),(12,_),(13,_),(14,_),(15,_),(16,_),(106,_)] [(12,.var _)] 219 ⟨mU 15 O O,aU fun _ _ H K=>R.al (K 14 _ O) H dU,aU fun _ _ H K=>R.lenE (SC.al (K 104 _ O) (K 14 _ O)) (lN _) H,aU fun _ _ H K=>R.eqlN (k2) ((hvS (aS ps key) (sumK (key % 12))).length) (eU K 103 O) (eU K 105 O) H,Zt⟩ O O O O (tU O ?_)
           refine W.condF O ((sub_no hsub hc83 (by omega)).elim) ?_
           refine W.skip ?_
           refine W.l0 3 [.y 107 _,.y 108 _,.y 15 _] [] [] [(8,_),(12,_),(13,_),(14,_),(15,_),(16,_)] [(12,.var _)] 219 ⟨mU 15 O O,aU fun _ _ H K=>R.addN (k2) (1) (eU K 107 O) (kI 1 O) bU H,aU fun _ _ H K=>R.asg (eU K 108 O) O H,Zt⟩ O O O O (tU O ?_)
           refine W.l0 3 [.y 84 _,.y 85 _,.y 16 _] [] [] [(8,_),(12,_),(13,_),(14,_),(15,_),(16,_)] [(12,.var _)] 219 ⟨mU 16 O O,aU fun _ _ H K=>R.addN (i) (1) (eU K 84 O) (kI 1 O) bU H,aU fun _ _ H K=>R.asg (eU K 85 O) O H,Zt⟩ O O O O (tU O ?_)
           exact ⟨⟨(i + 1,k2 + 1),(by first | exact ⟨⟨(by show i + 1 <= _; omega),(by show k2 + 1 <= _; omega)⟩,sub_next hsub hc83 h5 (beq_iff_eq.1 (not_f hc100))⟩ | exact (sub_no hsub hc83 (by omega)).elim)⟩,rfl,(by show (hvS (keepS (aS ps key) out) (sumK (key % 12))).length - (i + 1) < (hvS (keepS (aS ps key) out) (sumK (key % 12))).length - i; omega)⟩
       · obtain rfl : i = (hvS (keepS (aS ps key) out) (sumK (key % 12))).length:=by omega
         refine W.exit (W.seq ?_)
         refine W.l0 4 [.y 109 _,.y 110 _,.y 111 _,.y 17 _] [(3,111)] [(3,111)] [(8,_),(17,_)] [(12,.var _)] 219 ⟨aU fun _ _ H K=>R.al (K 8 _ O) H dU,aU (lU 12 O O O O O O O),aU fun _ _ H K=>R.callG hC (vuns_ok (keepS (aS ps key) out) hK (sumK (key % 12))) (Bc (Bor.sc (SC.al (K 109 _ O) (K 8 _ O)) (brw_map brw_pvK)) (Bc (Bp (eU K 110 O) O O) Bn)) (frs_uns _ _ _) H,aU fun _ _ H K=>R.asgO (K 111 _ O) O H dU,Zt⟩ O O O O (tU O ?_)
         refine W.seq (W.seq ?_)
         refine W.l0 1 [.y 18 _] [] [] [(8,_),(17,_),(18,_)] [(12,.var _)] 219 ⟨aU fun _ _ H _=>R.asg (kI 0 O) O H,Zt⟩ O O O O (tU O ?_)
         refine W.block ?_
         refine W.loop (α:={q__ : Nat // q__ <= (uvS (keepS (aS ps key) out) (sumK (key % 12))).length}) (fun q__=>⟨219,[(8,.sl (some 56) 72 ((keepS (aS ps key) out).map pvD)),(17,.sl (some 62) 35 ((uvS (keepS (aS ps key) out) (sumK (key % 12))).map unD')),(18,.int ((q__.1 : Nat) : Int))],[(12,.var (hashD (sumK (key % 12))))]⟩) (fun q__=>(uvS (keepS (aS ps key) out) (sumK (key % 12))).length - q__.1) ⟨(0),bU⟩ O ?_
         rintro ⟨i,hi⟩
         show W _ _ _ _ ⟨219,[(8,.sl (some 56) 72 ((keepS (aS ps key) out).map pvD)),(17,.sl (some 62) 35 ((uvS (keepS (aS ps key) out) (sumK (key % 12))).map unD')),(18,.int ((i : Nat) : Int))],[(12,.var (hashD (sumK (key % 12))))]⟩
         have hi : i <= (uvS (keepS (aS ps key) out) (sumK (key % 12))).length:=hi
         have hUl:=uvS_len hK (sumK (key % 12))
         refine W.seq (W.seq ?_)
         refine W.l0 4 [.y 112 _,.y 113 _,.y 114 _,.y 115 _] [] [] [(8,_),(17,_),(18,_),(115,_)] [(12,.var _)] 219 ⟨mU 18 O O,aU fun _ _ H K=>R.al (K 17 _ O) H dU,aU fun _ _ H K=>R.lenE (SC.al (K 113 _ O) (K 17 _ O)) (lN _) H,aU fun _ _ H K=>R.lssN (i) ((uvS (keepS (aS ps key) out) (sumK (key % 12))).length) (eU K 112 O) (eU K 114 O) H,Zt⟩ O O O O (tU O ?_)
         refine W.condD O (fun hc115=>?_) (fun hc115=>?_)
         · refine W.skip (W.seq (W.block (W.seq ?_)))
           refine W.l0 1 [.y 19 _] [] [] [(8,_),(17,_),(18,_),(19,_)] [(12,.var _)] 219 ⟨aU fun _ _ H _=>R.asg (kB false O) O H,Zt⟩ O O O O (tU O ?_)
           refine W.seq (W.seq ?_)
           refine W.l0 1 [.y 20 _] [] [] [(8,_),(17,_),(18,_),(19,_),(20,_)] [(12,.var _)] 219 ⟨aU fun _ _ H _=>R.asg (kI 0 O) O H,Zt⟩ O O O O (tU O ?_)
           refine W.block ?_
           refine W.loop (α:={q__ : Nat // q__ <= (keepS (aS ps key) out).length}) (fun q__=>⟨219,[(8,.sl (some 56) 72 ((keepS (aS ps key) out).map pvD)),(17,.sl (some 62) 35 ((uvS (keepS (aS ps key) out) (sumK (key % 12))).map unD')),(18,.int ((i : Nat) : Int)),(19,.bool (exO (keepS (aS ps key) out) (uvS (keepS (aS ps key) out) (sumK (key % 12)))[i]! q__.1)),(20,.int ((q__.1 : Nat) : Int))],[(12,.var (hashD (sumK (key % 12))))]⟩) (fun q__=>(keepS (aS ps key) out).length - q__.1) ⟨(0),bU⟩ O ?_
           rintro ⟨j,hj⟩
           show W _ _ _ _ ⟨219,[(8,.sl (some 56) 72 ((keepS (aS ps key) out).map pvD)),(17,.sl (some 62) 35 ((uvS (keepS (aS ps key) out) (sumK (key % 12))).map unD')),(18,.int ((i : Nat) : Int)),(19,.bool (exO (keepS (aS ps key) out) (uvS (keepS (aS ps key) out) (sumK (key % 12)))[i]! j)),(20,.int ((j : Nat) : Int))],[(12,.var (hashD (sumK (key % 12))))]⟩
           have hj : j <= (keepS (aS ps key) out).length:=hj
           refine W.seq (W.seq ?_)
           refine W.l0 4 [.y 118 _,.y 119 _,.y 120 _,.y 121 _] [] [] [(8,_),(17,_),(18,_),(19,_),(20,_),(121,_)] [(12,.var _)] 219 ⟨mU 20 O O,aU fun _ _ H K=>R.al (K 8 _ O) H dU,aU fun _ _ H K=>R.lenE (SC.al (K 119 _ O) (K 8 _ O)) (lN _) H,aU fun _ _ H K=>R.lssN (j) ((keepS (aS ps key) out).length) (eU K 118 O) (eU K 120 O) H,Zt⟩ O O O O (tU O ?_)
           refine W.condD O (fun hc121=>?_) (fun hc121=>?_)
           · refine W.skip (W.seq (W.block ?_))
             refine W.seqM (fun s__=>∃ q__ : {q__ : Unit // True},s__ = ⟨219,[(8,.sl (some 56) 72 ((keepS (aS ps key) out).map pvD)),(17,.sl (some 62) 35 ((uvS (keepS (aS ps key) out) (sumK (key % 12))).map unD')),(18,.int ((i : Nat) : Int)),(19,.bool (exO (keepS (aS ps key) out) (uvS (keepS (aS ps key) out) (sumK (key % 12)))[i]! (j + 1))),(20,.int ((j : Nat) : Int))],[(12,.var (hashD (sumK (key % 12))))]⟩) ?_ ?_
             · refine W.seq ?_
               by_cases h1 : ((keepS (aS ps key) out)[j]!.id == (uvS (keepS (aS ps key) out) (sumK (key % 12)))[i]!.1.1) = true
               · by_cases h2 : (uvS (keepS (aS ps key) out) (sumK (key % 12)))[i]!.1.2.toNat < (keepS (aS ps key) out)[j]!.t.outs.length
                 · by_cases h3 : ((keepS (aS ps key) out)[j]!.t.outs[(uvS (keepS (aS ps key) out) (sumK (key % 12)))[i]!.1.2.toNat]!.value == (uvS (keepS (aS ps key) out) (sumK (key % 12)))[i]!.2.1) = true
                   · refine W.draw (m:=65) (an:=(0 :: 0 :: 3 :: 7 :: 15 :: 0 :: 0 :: 96 :: 224 :: 480 :: 992 :: 2047 :: 4095 :: 8191 :: 8191 :: 32767 :: 65535 :: 131071 :: 262143 :: 524287 :: 8191 :: 8191 :: 3153919 :: 7348223 :: 15736831 :: 32514047 :: 66068479 :: 134217727 :: 268435455 :: 536870911 :: 1073741823 :: 1073741823 :: 4294967295 :: 8589934591 :: 17179869183 :: 34359738367 :: 1073741823 :: 1073741823 :: 207232172031 :: 482110078975 :: 1031865892863 :: 2131377520639 :: 4398046511103 :: 8796093022207 :: 17592186044415 :: 1073741823 :: 1073741823 :: 105554190008319 :: 246291678363647 :: 527766655074303 :: 1125899906842623 :: 2251799813685247 :: 4503599627370495 :: 9007199254740991 :: 9007199254740991 :: 36028797018963967 :: 72057594037927935 :: 144115188075855871 :: 9007199254740991 :: 9007199254740991 :: 873698327709876223 :: 2026619832316723199 :: 4332462841530417151 :: 9223372036854775807 :: 18446744073709551615 :: [])) hP dU O (its:=(.y 124 _ :: .y 125 _ :: .y 126 _ :: .y 127 _ :: .y 128 _ :: .y 129 _ :: .y 130 _ :: .y 131 _ :: .y 132 _ :: .y 133 _ :: .y 134 _ :: .y 135 _ :: .y 136 _ :: .y 137 _ :: .y 138 _ :: .y 139 _ :: .y 140 _ :: .y 141 _ :: .y 142 _ :: .y 143 _ :: .y 144 _ :: .y 145 _ :: .y 146 _ :: .y 147 _ :: .y 148 _ :: .y 149 _ :: .y 150 _ :: .y 151 _ :: .y 152 _ :: .y 153 _ :: .y 154 _ :: .y 155 _ :: .y 156 _ :: .y 157 _ :: .y 158 _ :: .y 159 _ :: .y 160 _ :: .y 161 _ :: .y 162 _ :: .y 163 _ :: .y 164 _ :: .y 165 _ :: .y 166 _ :: .y 167 _ :: .y 168 _ :: .y 169 _ :: .y 170 _ :: .y 171 _ :: .y 172 _ :: .y 173 _ :: .y 174 _ :: .y 175 _ :: .y 176 _ :: .y 177 _ :: .y 178 _ :: .y 179 _ :: .y 180 _ :: .y 181 _ :: .y 182 _ :: .y 183 _ :: .y 184 _ :: .y 185 _ :: .y 186 _ :: .y 187 _ :: .y 188 _ :: [])) (ks:=[]) (kk:=[]) (live:=[8,17,18,19,20,188]) (env':=[(8,_),(17,_),(18,_),(19,_),(20,_),(188,_)]) (⟨nU O,O,⟨aU fun _ _ H K=>R.al (K 8 _ O) H dU,mU 20 O O,aU fun _ _ H K=>R.idxN (j) (SC.al (K 124 _ O) (K 8 _ O)) (evoI (eU K 125 O)) O bU H dU,aU fun _ _ H K=>R.fdE (K 126 _ O) H dU,aU fun _ _ H K=>R.ldE (K 127 _ O) (SC.al (K 124 _ O) (K 8 _ O)) (map_get! (l:=(keepS (aS ps key) out)) bU) O O O O H,aU fun _ _ H K=>R.al (K 17 _ O) H dU,mU 18 O O,aU fun _ _ H K=>R.idxN (i) (SC.al (K 129 _ O) (K 17 _ O)) (evoI (eU K 130 O)) O bU H dU,aU fun _ _ H K=>R.fdE (K 131 _ O) H dU,aU fun _ _ H K=>R.fdE (K 132 _ O) H dU,aU fun _ _ H K=>R.ldE (K 133 _ O) (SC.al (K 129 _ O) (K 17 _ O)) (map_get! (l:=(uvS (keepS (aS ps key) out) (sumK (key % 12)))) bU) O O O O H,aU fun _ _ H K=>R.eqAE (eU K 128 O) (eU K 134 O) H,mU 135 O O,aW O O (gT (h1) O) fun _ _ H K=>R.al (K 17 _ O) H dU,aW O O (gT (h1) O) fun _ _ H K=>R.mov (eU K 18 O) O H,aW O O (gT (h1) O) fun _ _ H K=>R.idxN (i) (SC.al (K 137 _ O) (K 17 _ O)) (evoI (eU K 138 O)) O bU H dU,aW O O (gT (h1) O) fun _ _ H K=>R.fdE (K 139 _ O) H dU,aW O O (gT (h1) O) fun _ _ H K=>R.fdE (K 140 _ O) H dU,aW O O (gT (h1) O) fun _ _ H K=>R.ldE (K 141 _ O) (SC.al (K 137 _ O) (K 17 _ O)) (map_get! (l:=(uvS (keepS (aS ps key) out) (sumK (key % 12)))) bU) O O O O H,aW O O (gT (h1) O) fun _ _ H K=>R.conv (eU K 142 O) O H,aW O O (gT (h1) O) fun _ _ H K=>R.al (K 8 _ O) H dU,aW O O (gT (h1) O) fun _ _ H K=>R.mov (eU K 20 O) O H,aW O O (gT (h1) O) fun _ _ H K=>R.idxN (j) (SC.al (K 144 _ O) (K 8 _ O)) (evoI (eU K 145 O)) O bU H dU,aW O O (gT (h1) O) fun _ _ H K=>R.fdE (K 146 _ O) H dU,aW O O (gT (h1) O) fun _ _ H K=>R.fdE (K 147 _ O) H dU,aW O O (gT (h1) O) fun _ _ H K=>R.ldE (K 148 _ O) (SC.al (K 144 _ O) (K 8 _ O)) (map_get! (l:=(keepS (aS ps key) out)) bU) O O O O H,aW O O (gT (h1) O) fun _ _ H K=>R.lenE (SC.sl (K 149 _ O)) (lN _) H,aW O O (gT (h1) O) fun _ _ H K=>R.lssN ((uvS (keepS (aS ps key) out) (sumK (key % 12)))[i]!.1.2.toNat) (((keepS (aS ps key) out))[j]!.t.outs.length) (eU K 143 O) (eU K 150 O) H,aU fun _ _ H K=>R.pickT (eU K 136 O) (h1) (eU K 151 O) O H,mU 152 O O,aW O O (gT (dT h2) O) fun _ _ H K=>R.al (K 8 _ O) H dU,aW O O (gT (dT h2) O) fun _ _ H K=>R.mov (eU K 20 O) O H,aW O O (gT (dT h2) O) fun _ _ H K=>R.idxN (j) (SC.al (K 154 _ O) (K 8 _ O)) (evoI (eU K 155 O)) O bU H dU,aW O O (gT (dT h2) O) fun _ _ H K=>R.fdE (K 156 _ O) H dU,aW O O (gT (dT h2) O) fun _ _ H K=>R.fdE (K 157 _ O) H dU,aW O O (gT (dT h2) O) fun _ _ H K=>R.ldE (K 158 _ O) (SC.al (K 154 _ O) (K 8 _ O)) (map_get! (l:=(keepS (aS ps key) out)) bU) O O O O H,aW O O (gT (dT h2) O) fun _ _ H K=>R.al (K 17 _ O) H dU,aW O O (gT (dT h2) O) fun _ _ H K=>R.mov (eU K 18 O) O H,aW O O (gT (dT h2) O) fun _ _ H K=>R.idxN (i) (SC.al (K 160 _ O) (K 17 _ O)) (evoI (eU K 161 O)) O bU H dU,aW O O (gT (dT h2) O) fun _ _ H K=>R.fdE (K 162 _ O) H dU,aW O O (gT (dT h2) O) fun _ _ H K=>R.fdE (K 163 _ O) H dU,aW O O (gT (dT h2) O) fun _ _ H K=>R.ldE (K 164 _ O) (SC.al (K 160 _ O) (K 17 _ O)) (map_get! (l:=(uvS (keepS (aS ps key) out) (sumK (key % 12)))) bU) O O O O H,aW O O (gT (dT h2) O) fun _ _ H K=>R.idxN ((uvS (keepS (aS ps key) out) (sumK (key % 12)))[i]!.1.2.toNat) (SC.sl (K 159 _ O)) (evo32 (eU K 165 O)) O bU H dU,aW O O (gT (dT h2) O) fun _ _ H K=>R.fdE (K 166 _ O) H dU,aW O O (gT (dT h2) O) fun _ _ H K=>R.ldE (K 167 _ O) (SC.sl (K 159 _ O)) (map_get! (l:=((keepS (aS ps key) out))[j]!.t.outs) bU) O O O O H,aW O O (gT (dT h2) O) fun _ _ H K=>R.al (K 17 _ O) H dU,aW O O (gT (dT h2) O) fun _ _ H K=>R.mov (eU K 18 O) O H,aW O O (gT (dT h2) O) fun _ _ H K=>R.idxN (i) (SC.al (K 169 _ O) (K 17 _ O)) (evoI (eU K 170 O)) O bU H dU,aW O O (gT (dT h2) O) fun _ _ H K=>R.fdE (K 171 _ O) H dU,aW O O (gT (dT h2) O) fun _ _ H K=>R.ldE (K 172 _ O) (SC.al (K 169 _ O) (K 17 _ O)) (map_get! (l:=(uvS (keepS (aS ps key) out) (sumK (key % 12)))) bU) O O O O H,aW O O (gT (dT h2) O) fun _ _ H K=>R.bin (eU K 168 O) (eU K 173 O) O Zt H,aU fun _ _ H K=>R.pickT (eU K 153 O) (dT h2) (eU K 174 O) O H,mU 175 O O,aW O O (gT (h3) O) fun _ _ H K=>R.al (K 8 _ O) H dU,aW O O (gT (h3) O) fun _ _ H K=>R.mov (eU K 20 O) O H,aW O O (gT (h3) O) fun _ _ H K=>R.idxN (j) (SC.al (K 177 _ O) (K 8 _ O)) (evoI (eU K 178 O)) O bU H dU,aW O O (gT (h3) O) fun _ _ H K=>R.fdE (K 179 _ O) H dU,aW O O (gT (h3) O) fun _ _ H K=>R.ldE (K 180 _ O) (SC.al (K 177 _ O) (K 8 _ O)) (map_get! (l:=(keepS (aS ps key) out)) bU) O O O O H,aW O O (gT (h3) O) fun _ _ H K=>R.al (K 17 _ O) H dU,aW O O (gT (h3) O) fun _ _ H K=>R.mov (eU K 18 O) O H,aW O O (gT (h3) O) fun _ _ H K=>R.idxN (i) (SC.al (K 182 _ O) (K 17 _ O)) (evoI (eU K 183 O)) O bU H dU,aW O O (gT (h3) O) fun _ _ H K=>R.fdE (K 184 _ O) H dU,aW O O (gT (h3) O) fun _ _ H K=>R.ldE (K 185 _ O) (SC.al (K 182 _ O) (K 17 _ O)) (map_get! (l:=(uvS (keepS (aS ps key) out) (sumK (key % 12)))) bU) O O O O H,aW O O (gT (h3) O) fun _ _ H K=>R.bin (eU K 181 O) (eU K 186 O) O Zt H,aU fun _ _ H K=>R.pickT (eU K 176 O) (h3) (eU K 187 O) O H,Zt⟩,O,O,O⟩) O (bx':=[(12,.var _)]) O (n':=219) O (tV [(8,_),(17,_),(18,_),(19,_),(20,_),(188,_)] [(12,.var _)] 219 O O O ?_)
                     refine W.cond O (fun hc188=>?_) (fun hc188=>?_)
                     · refine W.l0 1 [.y 19 _] [] [] [(8,_),(17,_),(18,_),(19,_),(20,_)] [(12,.var _)] 219 ⟨aU fun _ _ H _=>R.asg (kB true O) O H,Zt⟩ O O O O (tU O ?_)
                       exact ⟨⟨(()),Zt⟩,(by first | (rw [ex_y h1 h2 h3 hc188] <;> rfl) | (rw [ex_n4 hc188] <;> rfl) | (rw [ex_n3 (bfalse h3)] <;> rfl) | (rw [ex_n2 h2] <;> rfl) | (rw [ex_n1 (bfalse h1)] <;> rfl))⟩
                     · refine W.dropS (live:=[8,17,18,19,20]) (env':=[(8,_),(17,_),(18,_),(19,_),(20,_)]) (bx':=[(12,.var _)]) (n':=219) O O O ?_
                       refine W.skip ?_
                       exact ⟨⟨(()),Zt⟩,(by first | (rw [ex_y h1 h2 h3 hc188] <;> rfl) | (rw [ex_n4 hc188] <;> rfl) | (rw [ex_n3 (bfalse h3)] <;> rfl) | (rw [ex_n2 h2] <;> rfl) | (rw [ex_n1 (bfalse h1)] <;> rfl))⟩
                   · refine W.draw (m:=65) (an:=(0 :: 0 :: 3 :: 7 :: 15 :: 0 :: 0 :: 96 :: 224 :: 480 :: 992 :: 2047 :: 4095 :: 8191 :: 8191 :: 32767 :: 65535 :: 131071 :: 262143 :: 524287 :: 8191 :: 8191 :: 3153919 :: 7348223 :: 15736831 :: 32514047 :: 66068479 :: 134217727 :: 268435455 :: 536870911 :: 1073741823 :: 1073741823 :: 4294967295 :: 8589934591 :: 17179869183 :: 34359738367 :: 1073741823 :: 1073741823 :: 207232172031 :: 482110078975 :: 1031865892863 :: 2131377520639 :: 4398046511103 :: 8796093022207 :: 17592186044415 :: 1073741823 :: 1073741823 :: 105554190008319 :: 246291678363647 :: 527766655074303 :: 1125899906842623 :: 2251799813685247 :: 4503599627370495 :: 9007199254740991 :: 9007199254740991 :: 36028797018963967 :: 72057594037927935 :: 144115188075855871 :: 9007199254740991 :: 9007199254740991 :: 873698327709876223 :: 2026619832316723199 :: 4332462841530417151 :: 9223372036854775807 :: 18446744073709551615 :: [])) hP dU O (its:=(.y 124 _ :: .y 125 _ :: .y 126 _ :: .y 127 _ :: .y 128 _ :: .y 129 _ :: .y 130 _ :: .y 131 _ :: .y 132 _ :: .y 133 _ :: .y 134 _ :: .y 135 _ :: .y 136 _ :: .y 137 _ :: .y 138 _ :: .y 139 _ :: .y 140 _ :: .y 141 _ :: .y 142 _ :: .y 143 _ :: .y 144 _ :: .y 145 _ :: .y 146 _ :: .y 147 _ :: .y 148 _ :: .y 149 _ :: .y 150 _ :: .y 151 _ :: .y 152 _ :: .y 153 _ :: .y 154 _ :: .y 155 _ :: .y 156 _ :: .y 157 _ :: .y 158 _ :: .y 159 _ :: .y 160 _ :: .y 161 _ :: .y 162 _ :: .y 163 _ :: .y 164 _ :: .y 165 _ :: .y 166 _ :: .y 167 _ :: .y 168 _ :: .y 169 _ :: .y 170 _ :: .y 171 _ :: .y 172 _ :: .y 173 _ :: .y 174 _ :: .y 175 _ :: .y 176 _ :: .x 177 :: .x 178 :: .x 179 :: .x 180 :: .x 181 :: .x 182 :: .x 183 :: .x 184 :: .x 185 :: .x 186 :: .x 187 :: .y 188 _ :: [])) (ks:=[]) (kk:=[]) (live:=[8,17,18,19,20,188]) (env':=[(8,_),(17,_),(18,_),(19,_),(20,_),(188,_)]) (⟨nU O,O,⟨aU fun _ _ H K=>R.al (K 8 _ O) H dU,mU 20 O O,aU fun _ _ H K=>R.idxN (j) (SC.al (K 124 _ O) (K 8 _ O)) (evoI (eU K 125 O)) O bU H dU,aU fun _ _ H K=>R.fdE (K 126 _ O) H dU,aU fun _ _ H K=>R.ldE (K 127 _ O) (SC.al (K 124 _ O) (K 8 _ O)) (map_get! (l:=(keepS (aS ps key) out)) bU) O O O O H,aU fun _ _ H K=>R.al (K 17 _ O) H dU,mU 18 O O,aU fun _ _ H K=>R.idxN (i) (SC.al (K 129 _ O) (K 17 _ O)) (evoI (eU K 130 O)) O bU H dU,aU fun _ _ H K=>R.fdE (K 131 _ O) H dU,aU fun _ _ H K=>R.fdE (K 132 _ O) H dU,aU fun _ _ H K=>R.ldE (K 133 _ O) (SC.al (K 129 _ O) (K 17 _ O)) (map_get! (l:=(uvS (keepS (aS ps key) out) (sumK (key % 12)))) bU) O O O O H,aU fun _ _ H K=>R.eqAE (eU K 128 O) (eU K 134 O) H,mU 135 O O,aW O O (gT (h1) O) fun _ _ H K=>R.al (K 17 _ O) H dU,aW O O (gT (h1) O) fun _ _ H K=>R.mov (eU K 18 O) O H,aW O O (gT (h1) O) fun _ _ H K=>R.idxN (i) (SC.al (K 137 _ O) (K 17 _ O)) (evoI (eU K 138 O)) O bU H dU,aW O O (gT (h1) O) fun _ _ H K=>R.fdE (K 139 _ O) H dU,aW O O (gT (h1) O) fun _ _ H K=>R.fdE (K 140 _ O) H dU,aW O O (gT (h1) O) fun _ _ H K=>R.ldE (K 141 _ O) (SC.al (K 137 _ O) (K 17 _ O)) (map_get! (l:=(uvS (keepS (aS ps key) out) (sumK (key % 12)))) bU) O O O O H,aW O O (gT (h1) O) fun _ _ H K=>R.conv (eU K 142 O) O H,aW O O (gT (h1) O) fun _ _ H K=>R.al (K 8 _ O) H dU,aW O O (gT (h1) O) fun _ _ H K=>R.mov (eU K 20 O) O H,aW O O (gT (h1) O) fun _ _ H K=>R.idxN (j) (SC.al (K 144 _ O) (K 8 _ O)) (evoI (eU K 145 O)) O bU H dU,aW O O (gT (h1) O) fun _ _ H K=>R.fdE (K 146 _ O) H dU,aW O O (gT (h1) O) fun _ _ H K=>R.fdE (K 147 _ O) H dU,aW O O (gT (h1) O) fun _ _ H K=>R.ldE (K 148 _ O) (SC.al (K 144 _ O) (K 8 _ O)) (map_get! (l:=(keepS (aS ps key) out)) bU) O O O O H,aW O O (gT (h1) O) fun _ _ H K=>R.lenE (SC.sl (K 149 _ O)) (lN _) H,aW O O (gT (h1) O) fun _ _ H K=>R.lssN ((uvS (keepS (aS ps key) out) (sumK (key % 12)))[i]!.1.2.toNat) (((keepS (aS ps key) out))[j]!.t.outs.length) (eU K 143 O) (eU K 150 O) H,aU fun _ _ H K=>R.pickT (eU K 136 O) (h1) (eU K 151 O) O H,mU 152 O O,aW O O (gT (dT h2) O) fun _ _ H K=>R.al (K 8 _ O) H dU,aW O O (gT (dT h2) O) fun _ _ H K=>R.mov (eU K 20 O) O H,aW O O (gT (dT h2) O) fun _ _ H K=>R.idxN (j) (SC.al (K 154 _ O) (K 8 _ O)) (evoI (eU K 155 O)) O bU H dU,aW O O (gT (dT h2) O) fun _ _ H K=>R.fdE (K 156 _ O) H dU,aW O O (gT (dT h2) O) fun _ _ H K=>R.fdE (K 157 _ O) H dU,aW O O (gT (dT h2) O) fun _ _ H K=>R.ldE (K 158 _ O) (SC.al (K 154 _ O) (K 8 _ O)) (map_get! (l:=(keepS (aS ps key) out)) bU) O O O O H,aW O O (gT (dT h2) O) fun _ _ H K=>R.al (K 17 _ O) H dU,aW O O (gT (dT h2) O) fun _ _ H K=>R.mov (eU K 18 O) O H,aW O O (gT (dT h2) O) fun _ _ H K=>R.idxN (i) (SC.al (K 160 _ O) (K 17 _ O)) (evoI (eU K 161 O)) O bU H dU,aW O O (gT (dT h2) O) fun _ _ H K=>R.fdE (K 162 _ O) H dU,aW O O (gT (dT h2) O) fun _ _ H K=>R.fdE (K 163 _ O) H dU,aW O O (gT (dT h2) O) fun _ _ H K=>R.ldE (K 164 _ O) (SC.al (K 160 _ O) (K 17 _ O)) (map_get! (l:=(uvS (keepS (aS ps key) out) (sumK (key % 12)))) bU) O O O O H,aW O O (gT (dT h2) O) fun _ _ H K=>R.idxN ((uvS (keepS (aS ps key) out) (sumK (key % 12)))[i]!.1.2.toNat) (SC.sl (K 159 _ O)) (evo32 (eU K 165 O)) O bU H dU,aW O O (gT (dT h2) O) fun _ _ H K=>R.fdE (K 166 _ O) H dU,aW O O (gT (dT h2) O) fun _ _ H K=>R.ldE (K 167 _ O) (SC.sl (K 159 _ O)) (map_get! (l:=((keepS (aS ps key) out))[j]!.t.outs) bU) O O O O H,aW O O (gT (dT h2) O) fun _ _ H K=>R.al (K 17 _ O) H dU,aW O O (gT (dT h2) O) fun _ _ H K=>R.mov (eU K 18 O) O H,aW O O (gT (dT h2) O) fun _ _ H K=>R.idxN (i) (SC.al (K 169 _ O) (K 17 _ O)) (evoI (eU K 170 O)) O bU H dU,aW O O (gT (dT h2) O) fun _ _ H K=>R.fdE (K 171 _ O) H dU,aW O O (gT (dT h2) O) fun _ _ H K=>R.ldE (K 172 _ O) (SC.al (K 169 _ O) (K 17 _ O)) (map_get! (l:=(uvS (keepS (aS ps key) out) (sumK (key % 12)))) bU) O O O O H,aW O O (gT (dT h2) O) fun _ _ H K=>R.bin (eU K 168 O) (eU K 173 O) O Zt H,aU fun _ _ H K=>R.pickT (eU K 153 O) (dT h2) (eU K 174 O) O H,mU 175 O O,aF O O (gF (bfalse h3) O),aF O O (gF (bfalse h3) O),aF O O (gF (bfalse h3) O),aF O O (gF (bfalse h3) O),aF O O (gF (bfalse h3) O),aF O O (gF (bfalse h3) O),aF O O (gF (bfalse h3) O),aF O O (gF (bfalse h3) O),aF O O (gF (bfalse h3) O),aF O O (gF (bfalse h3) O),aF O O (gF (bfalse h3) O),aU fun _ _ H K=>R.pickF (eU K 176 O) (bfalse h3) (kB false O) O H,Zt⟩,O,O,O⟩) O (bx':=[(12,.var _)]) O (n':=219) O (tV [(8,_),(17,_),(18,_),(19,_),(20,_),(188,_)] [(12,.var _)] 219 O O O ?_)
                     refine W.condF O (O) ?_
                     refine W.dropS (live:=[8,17,18,19,20]) (env':=[(8,_),(17,_),(18,_),(19,_),(20,_)]) (bx':=[(12,.var _)]) (n':=219) O O O ?_
                     refine W.skip ?_
                     exact ⟨⟨(()),Zt⟩,(by first | (rw [ex_y h1 h2 h3 hc188] <;> rfl) | (rw [ex_n4 hc188] <;> rfl) | (rw [ex_n3 (bfalse h3)] <;> rfl) | (rw [ex_n2 h2] <;> rfl) | (rw [ex_n1 (bfalse h1)] <;> rfl))⟩
                 · refine W.draw (m:=65) (an:=(0 :: 0 :: 3 :: 7 :: 15 :: 0 :: 0 :: 96 :: 224 :: 480 :: 992 :: 2047 :: 4095 :: 8191 :: 8191 :: 32767 :: 65535 :: 131071 :: 262143 :: 524287 :: 8191 :: 8191 :: 3153919 :: 7348223 :: 15736831 :: 32514047 :: 66068479 :: 134217727 :: 268435455 :: 536870911 :: 1073741823 :: 1073741823 :: 4294967295 :: 8589934591 :: 17179869183 :: 34359738367 :: 1073741823 :: 1073741823 :: 207232172031 :: 482110078975 :: 1031865892863 :: 2131377520639 :: 4398046511103 :: 8796093022207 :: 17592186044415 :: 1073741823 :: 1073741823 :: 105554190008319 :: 246291678363647 :: 527766655074303 :: 1125899906842623 :: 2251799813685247 :: 4503599627370495 :: 9007199254740991 :: 9007199254740991 :: 36028797018963967 :: 72057594037927935 :: 144115188075855871 :: 9007199254740991 :: 9007199254740991 :: 873698327709876223 :: 2026619832316723199 :: 4332462841530417151 :: 9223372036854775807 :: 18446744073709551615 :: [])) hP dU O (its:=(.y 124 _ :: .y 125 _ :: .y 126 _ :: .y 127 _ :: .y 128 _ :: .y 129 _ :: .y 130 _ :: .y 131 _ :: .y 132 _ :: .y 133 _ :: .y 134 _ :: .y 135 _ :: .y 136 _ :: .y 137 _ :: .y 138 _ :: .y 139 _ :: .y 140 _ :: .y 141 _ :: .y 142 _ :: .y 143 _ :: .y 144 _ :: .y 145 _ :: .y 146 _ :: .y 147 _ :: .y 148 _ :: .y 149 _ :: .y 150 _ :: .y 151 _ :: .y 152 _ :: .y 153 _ :: .x 154 :: .x 155 :: .x 156 :: .x 157 :: .x 158 :: .x 159 :: .x 160 :: .x 161 :: .x 162 :: .x 163 :: .x 164 :: .x 165 :: .x 166 :: .x 167 :: .x 168 :: .x 169 :: .x 170 :: .x 171 :: .x 172 :: .x 173 :: .x 174 :: .y 175 _ :: .y 176 _ :: .x 177 :: .x 178 :: .x 179 :: .x 180 :: .x 181 :: .x 182 :: .x 183 :: .x 184 :: .x 185 :: .x 186 :: .x 187 :: .y 188 _ :: [])) (ks:=[]) (kk:=[]) (live:=[8,17,18,19,20,188]) (env':=[(8,_),(17,_),(18,_),(19,_),(20,_),(188,_)]) (⟨nU O,O,⟨aU fun _ _ H K=>R.al (K 8 _ O) H dU,mU 20 O O,aU fun _ _ H K=>R.idxN (j) (SC.al (K 124 _ O) (K 8 _ O)) (evoI (eU K 125 O)) O bU H dU,aU fun _ _ H K=>R.fdE (K 126 _ O) H dU,aU fun _ _ H K=>R.ldE (K 127 _ O) (SC.al (K 124 _ O) (K 8 _ O)) (map_get! (l:=(keepS (aS ps key) out)) bU) O O O O H,aU fun _ _ H K=>R.al (K 17 _ O) H dU,mU 18 O O,aU fun _ _ H K=>R.idxN (i) (SC.al (K 129 _ O) (K 17 _ O)) (evoI (eU K 130 O)) O bU H dU,aU fun _ _ H K=>R.fdE (K 131 _ O) H dU,aU fun _ _ H K=>R.fdE (K 132 _ O) H dU,aU fun _ _ H K=>R.ldE (K 133 _ O) (SC.al (K 129 _ O) (K 17 _ O)) (map_get! (l:=(uvS (keepS (aS ps key) out) (sumK (key % 12)))) bU) O O O O H,aU fun _ _ H K=>R.eqAE (eU K 128 O) (eU K 134 O) H,mU 135 O O,aW O O (gT (h1) O) fun _ _ H K=>R.al (K 17 _ O) H dU,aW O O (gT (h1) O) fun _ _ H K=>R.mov (eU K 18 O) O H,aW O O (gT (h1) O) fun _ _ H K=>R.idxN (i) (SC.al (K 137 _ O) (K 17 _ O)) (evoI (eU K 138 O)) O bU H dU,aW O O (gT (h1) O) fun _ _ H K=>R.fdE (K 139 _ O) H dU,aW O O (gT (h1) O) fun _ _ H K=>R.fdE (K 140 _ O) H dU,aW O O (gT (h1) O) fun _ _ H K=>R.ldE (K 141 _ O) (SC.al (K 137 _ O) (K 17 _ O)) (map_get! (l:=(uvS (keepS (aS ps key) out) (sumK (key % 12)))) bU) O O O O H,aW O O (gT (h1) O) fun _ _ H K=>R.conv (eU K 142 O) O H,aW O O (gT (h1) O) fun _ _ H K=>R.al (K 8 _ O) H dU,aW O O (gT (h1) O) fun _ _ H K=>R.mov (eU K 20 O) O H,aW O O (gT (h1) O) fun _ _ H K=>R.idxN (j) (SC.al (K 144 _ O) (K 8 _ O)) (evoI (eU K 145 O)) O bU H dU,aW O O (gT (h1) O) fun _ _ H K=>R.fdE (K 146 _ O) H dU,aW O O (gT (h1) O) fun _ _ H K=>R.fdE (K 147 _ O) H dU,aW O O (gT (h1) O) fun _ _ H K=>R.ldE (K 148 _ O) (SC.al (K 144 _ O) (K 8 _ O)) (map_get! (l:=(keepS (aS ps key) out)) bU) O O O O H,aW O O (gT (h1) O) fun _ _ H K=>R.lenE (SC.sl (K 149 _ O)) (lN _) H,aW O O (gT (h1) O) fun _ _ H K=>R.lssN ((uvS (keepS (aS ps key) out) (sumK (key % 12)))[i]!.1.2.toNat) (((keepS (aS ps key) out))[j]!.t.outs.length) (eU K 143 O) (eU K 150 O) H,aU fun _ _ H K=>R.pickT (eU K 136 O) (h1) (eU K 151 O) O H,mU 152 O O,aF O O (gF (dF h2) O),aF O O (gF (dF h2) O),aF O O (gF (dF h2) O),aF O O (gF (dF h2) O),aF O O (gF (dF h2) O),aF O O (gF (dF h2) O),aF O O (gF (dF h2) O),aF O O (gF (dF h2) O),aF O O (gF (dF h2) O),aF O O (gF (dF h2) O),aF O O (gF (dF h2) O),aF O O (gF (dF h2) O),aF O O (gF (dF h2) O),aF O O (gF (dF h2) O),aF O O (gF (dF h2) O),aF O O (gF (dF h2) O),aF O O (gF (dF h2) O),aF O O (gF (dF h2) O),aF O O (gF (dF h2) O),aF O O (gF (dF h2) O),aF O O (gF (dF h2) O),aU fun _ _ H K=>R.pickF (eU K 153 O) (dF h2) (kB false O) O H,mU 175 O O,aF O O (gF (O) O),aF O O (gF (O) O),aF O O (gF (O) O),aF O O (gF (O) O),aF O O (gF (O) O),aF O O (gF (O) O),aF O O (gF (O) O),aF O O (gF (O) O),aF O O (gF (O) O),aF O O (gF (O) O),aF O O (gF (O) O),aU fun _ _ H K=>R.pickF (eU K 176 O) (O) (kB false O) O H,Zt⟩,O,O,O⟩) O (bx':=[(12,.var _)]) O (n':=219) O (tV [(8,_),(17,_),(18,_),(19,_),(20,_),(188,_)] [(12,.var _)] 219 O O O ?_)
                   refine W.condF O (O) ?_
                   refine W.dropS (live:=[8,17,18,19,20]) (env':=[(8,_),(17,_),(18,_),(19,_),(20,_)]) (bx':=[(12,.var _)]) (n':=219) O O O ?_
                   refine W.skip ?_
                   exact ⟨⟨(()),Zt⟩,(by first | (rw [ex_y h1 h2 h3 hc188] <;> rfl) | (rw [ex_n4 hc188] <;> rfl) | (rw [ex_n3 (bfalse h3)] <;> rfl) | (rw [ex_n2 h2] <;> rfl) | (rw [ex_n1 (bfalse h1)] <;> rfl))⟩
               · refine W.draw (m:=65) (an:=(0 :: 0 :: 3 :: 7 :: 15 :: 0 :: 0 :: 96 :: 224 :: 480 :: 992 :: 2047 :: 4095 :: 8191 :: 8191 :: 32767 :: 65535 :: 131071 :: 262143 :: 524287 :: 8191 :: 8191 :: 3153919 :: 7348223 :: 15736831 :: 32514047 :: 66068479 :: 134217727 :: 268435455 :: 536870911 :: 1073741823 :: 1073741823 :: 4294967295 :: 8589934591 :: 17179869183 :: 34359738367 :: 1073741823 :: 1073741823 :: 207232172031 :: 482110078975 :: 1031865892863 :: 2131377520639 :: 4398046511103 :: 8796093022207 :: 17592186044415 :: 1073741823 :: 1073741823 :: 105554190008319 :: 246291678363647 :: 527766655074303 :: 1125899906842623 :: 2251799813685247 :: 4503599627370495 :: 9007199254740991 :: 9007199254740991 :: 36028797018963967 :: 72057594037927935 :: 144115188075855871 :: 9007199254740991 :: 9007199254740991 :: 873698327709876223 :: 2026619832316723199 :: 4332462841530417151 :: 9223372036854775807 :: 18446744073709551615 :: [])) hP dU O (its:=(.y 124 _ :: .y 125 _ :: .y 126 _ :: .y 127 _ :: .y 128 _ :: .y 129 _ :: .y 130 _ :: .y 131 _ :: .y 132 _ :: .y 133 _ :: .y 134 _ :: .y 135 _ :: .y 136 _ :: .x 137 :: .x 138 :: .x 139 :: .x 140 :: .x 141 :: .x 142 :: .x 143 :: .x 144 :: .x 145 :: .x 146 :: .x 147 :: .x 148 :: .x 149 :: .x 150 :: .x 151 :: .y 152 _ :: .y 153 _ :: .x 154 :: .x 155 :: .x 156 :: .x 157 :: .x 158 :: .x 159 :: .x 160 :: .x 161 :: .x 162 :: .x 163 :: .x 164 :: .x 165 :: .x 166 :: .x 167 :: .x 168 :: .x 169 :: .x 170 :: .x 171 :: .x 172 :: .x 173 :: .x 174 :: .y 175 _ :: .y 176 _ :: .x 177 :: .x 178 :: .x 179 :: .x 180 :: .x 181 :: .x 182 :: .x 183 :: .x 184 :: .x 185 :: .x 186 :: .x 187 :: .y 188 _ :: [])) (ks:=[]) (kk:=[]) (live:=[8,17,18,19,20,188]) (env':=[(8,_),(17,_),(18,_),(19,_),(20,_),(188,_)]) (⟨nU O,O,⟨aU fun _ _ H K=>R.al (K 8 _ O) H dU,mU 20 O O,aU fun _ _ H K=>R.idxN (j) (SC.al (K 124 _ O) (K 8 _ O)) (evoI (eU K 125 O)) O bU H dU,aU fun _ _ H K=>R.fdE (K 126 _ O) H dU,aU fun _ _ H K=>R.ldE (K 127 _ O) (SC.al (K 124 _ O) (K 8 _ O)) (map_get! (l:=(keepS (aS ps key) out)) bU) O O O O H,aU fun _ _ H K=>R.al (K 17 _ O) H dU,mU 18 O O,aU fun _ _ H K=>R.idxN (i) (SC.al (K 129 _ O) (K 17 _ O)) (evoI (eU K 130 O)) O bU H dU,aU fun _ _ H K=>R.fdE (K 131 _ O) H dU,aU fun _ _ H K=>R.fdE (K 132 _ O) H dU,aU fun _ _ H K=>R.ldE (K 133 _ O) (SC.al (K 129 _ O) (K 17 _ O)) (map_get! (l:=(uvS (keepS (aS ps key) out) (sumK (key % 12)))) bU) O O O O H,aU fun _ _ H K=>R.eqAE (eU K 128 O) (eU K 134 O) H,mU 135 O O,aF O O (gF (bfalse h1) O),aF O O (gF (bfalse h1) O),aF O O (gF (bfalse h1) O),aF O O (gF (bfalse h1) O),aF O O (gF (bfalse h1) O),aF O O (gF (bfalse h1) O),aF O O (gF (bfalse h1) O),aF O O (gF (bfalse h1) O),aF O O (gF (bfalse h1) O),aF O O (gF (bfalse h1) O),aF O O (gF (bfalse h1) O),aF O O (gF (bfalse h1) O),aF O O (gF (bfalse h1) O),aF O O (gF (bfalse h1) O),aF O O (gF (bfalse h1) O),aU fun _ _ H K=>R.pickF (eU K 136 O) (bfalse h1) (kB false O) O H,mU 152 O O,aF O O (gF (O) O),aF O O (gF (O) O),aF O O (gF (O) O),aF O O (gF (O) O),aF O O (gF (O) O),aF O O (gF (O) O),aF O O (gF (O) O),aF O O (gF (O) O),aF O O (gF (O) O),aF O O (gF (O) O),aF O O (gF (O) O),aF O O (gF (O) O),aF O O (gF (O) O),aF O O (gF (O) O),aF O O (gF (O) O),aF O O (gF (O) O),aF O O (gF (O) O),aF O O (gF (O) O),aF O O (gF (O) O),aF O O (gF (O) O),aF O O (gF (O) O),aU fun _ _ H K=>R.pickF (eU K 153 O) (O) (kB false O) O H,mU 175 O O,aF O O (gF (O) O),aF O O (gF (O) O),aF O O (gF (O) O),aF O O (gF (O) O),aF O O (gF (O) O),aF O O (gF (O) O),aF O O (gF (O) O),aF O O (gF (O) O),aF O O (gF (O) O),aF O O (gF (O) O),aF O O (gF (O) O),aU fun _ _ H K=>R.pickF (eU K 176 O) (O) (kB false O) O H,Zt⟩,O,O,O⟩) O (bx':=[(12,.var _)]) O (n':=219) O (tV [(8,_),(17,_),(18,_),(19,_),(20,_),(188,_)] [(12,.var _)] 219 O O O ?_)
                 refine W.condF O (O) ?_
                 refine W.dropS (live:=[8,17,18,19,20]) (env':=[(8,_),(17,_),(18,_),(19,_),(20,_)]) (bx':=[(12,.var _)]) (n':=219) O O O ?_
                 refine W.skip ?_
                 exact ⟨⟨(()),Zt⟩,(by first | (rw [ex_y h1 h2 h3 hc188] <;> rfl) | (rw [ex_n4 hc188] <;> rfl) | (rw [ex_n3 (bfalse h3)] <;> rfl) | (rw [ex_n2 h2] <;> rfl) | (rw [ex_n1 (bfalse h1)] <;> rfl))⟩
             · rintro s__ ⟨⟨_,_⟩,rfl⟩
               refine W.seq ?_
               refine W.l0 1 [.y 21 _] [] [] [(8,_),(17,_),(18,_),(19,_),(20,_),(21,_)] [(12,.var _)] 219 ⟨aU fun _ _ H _=>R.asg (kI 0 O) O H,Zt⟩ O O O O (tU O ?_)
               refine W.block ?_
               refine W.loop (α:={q__ : Nat // q__ <= (keepS (aS ps key) out)[j]!.t.ins.length}) (fun q__=>⟨219,[(8,.sl (some 56) 72 ((keepS (aS ps key) out).map pvD)),(17,.sl (some 62) 35 ((uvS (keepS (aS ps key) out) (sumK (key % 12))).map unD')),(18,.int ((i : Nat) : Int)),(19,.bool (exO (keepS (aS ps key) out) (uvS (keepS (aS ps key) out) (sumK (key % 12)))[i]! (j + 1))),(20,.int ((j : Nat) : Int)),(21,.int ((q__.1 : Nat) : Int))],[(12,.var (hashD (sumK (key % 12))))]⟩) (fun q__=>(keepS (aS ps key) out)[j]!.t.ins.length - q__.1) ⟨(0),bU⟩ O ?_
               rintro ⟨q,hq⟩
               show W _ _ _ _ ⟨219,[(8,.sl (some 56) 72 ((keepS (aS ps key) out).map pvD)),(17,.sl (some 62) 35 ((uvS (keepS (aS ps key) out) (sumK (key % 12))).map unD')),(18,.int ((i : Nat) : Int)),(19,.bool (exO (keepS (aS ps key) out) (uvS (keepS (aS ps key) out) (sumK (key % 12)))[i]! (j + 1))),(20,.int ((j : Nat) : Int)),(21,.int ((q : Nat) : Int))],[(12,.var (hashD (sumK (key % 12))))]⟩
               have hq : q <= (keepS (aS ps key) out)[j]!.t.ins.length:=hq
               have hpj:=(hK.get hc121).ins
               refine W.seq (W.seq ?_)
               refine W.l0 9 [.y 189 _,.y 190 _,.y 191 _,.y 192 _,.y 193 _,.y 194 _,.y 195 _,.y 196 _,.y 197 _] [] [] [(8,_),(17,_),(18,_),(19,_),(20,_),(21,_),(197,_)] [(12,.var _)] 219 ⟨mU 21 O O,aU fun _ _ H K=>R.al (K 8 _ O) H dU,mU 20 O O,aU fun _ _ H K=>R.idxN (j) (SC.al (K 190 _ O) (K 8 _ O)) (evoI (eU K 191 O)) O bU H dU,aU fun _ _ H K=>R.fdE (K 192 _ O) H dU,aU fun _ _ H K=>R.fdE (K 193 _ O) H dU,aU fun _ _ H K=>R.ldE (K 194 _ O) (SC.al (K 190 _ O) (K 8 _ O)) (map_get! (l:=(keepS (aS ps key) out)) bU) O O O O H,aU fun _ _ H K=>R.lenE (SC.sl (K 195 _ O)) (lN _) H,aU fun _ _ H K=>R.lssN (q) (((keepS (aS ps key) out))[j]!.t.ins.length) (eU K 189 O) (eU K 196 O) H,Zt⟩ O O O O (tU O ?_)
               refine W.condD O (fun hc197=>?_) (fun hc197=>?_)
               · refine W.skip (W.seq (W.block (W.seq ?_)))
                 refine W.draw (m:=16) (an:=[0,0,3,7,15,31,0,127,255,511,0,0,3072,7168,15360,32767]) hP dU O (its:=[.y 200 _,.y 201 _,.y 202 _,.y 203 _,.y 204 _,.y 205 _,.y 206 _,.y 207 _,.y 208 _,.y 209 _,.y 210 _,.y 211 _,.y 212 _,.y 213 _,.y 214 _,.y 215 _]) (ks:=[]) (kk:=[]) (live:=[8,17,18,19,20,21,215]) (env':=[(8,_),(17,_),(18,_),(19,_),(20,_),(21,_),(215,_)]) (⟨nU O,O,⟨aU fun _ _ H K=>R.al (K 8 _ O) H dU,mU 20 O O,aU fun _ _ H K=>R.idxN (j) (SC.al (K 200 _ O) (K 8 _ O)) (evoI (eU K 201 O)) O bU H dU,aU fun _ _ H K=>R.fdE (K 202 _ O) H dU,aU fun _ _ H K=>R.fdE (K 203 _ O) H dU,aU fun _ _ H K=>R.ldE (K 204 _ O) (SC.al (K 200 _ O) (K 8 _ O)) (map_get! (l:=(keepS (aS ps key) out)) bU) O O O O H,mU 21 O O,aU fun _ _ H K=>R.idxN (q) (SC.sl (K 205 _ O)) (evoI (eU K 206 O)) O bU H dU,aU fun _ _ H K=>R.fdE (K 207 _ O) H dU,aU fun _ _ H K=>R.ldE (K 208 _ O) (SC.sl (K 205 _ O)) (map_get! (l:=((keepS (aS ps key) out))[j]!.t.ins) bU) O O O O H,aU fun _ _ H K=>R.al (K 17 _ O) H dU,mU 18 O O,aU fun _ _ H K=>R.idxN (i) (SC.al (K 210 _ O) (K 17 _ O)) (evoI (eU K 211 O)) O bU H dU,aU fun _ _ H K=>R.fdE (K 212 _ O) H dU,aU fun _ _ H K=>R.ldE (K 213 _ O) (SC.al (K 210 _ O) (K 17 _ O)) (map_get! (l:=(uvS (keepS (aS ps key) out) (sumK (key % 12)))) bU) O O O O H,aU fun _ _ H K=>R.eqD (neg:=false) (b':=(plc (keepS (aS ps key) out)[j]!.t.ins[q]! == (uvS (keepS (aS ps key) out) (sumK (key % 12)))[i]!.1)) (eqv_place _ _) O (eU K 209 O) (eU K 214 O) O O O O (O) H,Zt⟩,O,O,O⟩) O (bx':=[(12,.var _)]) O (n':=219) O (tV [(8,_),(17,_),(18,_),(19,_),(20,_),(21,_),(215,_)] [(12,.var _)] 219 O O O ?_)
                 refine W.condF O (uv_not hc115 hc121 hc197) ?_
                 refine W.skip ?_
                 refine W.l0 3 [.y 198 _,.y 199 _,.y 21 _] [] [] [(8,_),(17,_),(18,_),(19,_),(20,_),(21,_)] [(12,.var _)] 219 ⟨mU 21 O O,aU fun _ _ H K=>R.addN (q) (1) (eU K 198 O) (kI 1 O) bU H,aU fun _ _ H K=>R.asg (eU K 199 O) O H,Zt⟩ O O O O (tU O ?_)
                 exact ⟨⟨(q + 1),bU⟩,rfl,(by simp only []; omega)⟩
               · obtain rfl : q = (keepS (aS ps key) out)[j]!.t.ins.length:=by omega
                 refine W.exit ?_
                 refine W.l0 3 [.y 122 _,.y 123 _,.y 20 _] [] [] [(8,_),(17,_),(18,_),(19,_),(20,_)] [(12,.var _)] 219 ⟨mU 20 O O,aU fun _ _ H K=>R.addN (j) (1) (eU K 122 O) (kI 1 O) bU H,aU fun _ _ H K=>R.asg (eU K 123 O) O H,Zt⟩ O O O O (tU O ?_)
                 exact ⟨⟨(j + 1),bU⟩,rfl,(by simp only []; omega)⟩
           · obtain rfl : j = (keepS (aS ps key) out).length:=by omega
             refine W.exit (W.seq ?_)
             refine W.l0 2 [.y 216 _,.y 217 _] [] [] [(8,_),(17,_),(18,_),(217,_)] [(12,.var _)] 219 ⟨mU 19 O O,aU fun _ _ H K=>R.un (eU K 216 O) O H,Zt⟩ O O O O (tU O ?_)
             refine W.condF O (by rw [uv_ex hK hc115]; rfl) ?_
             refine W.skip ?_
             refine W.l0 3 [.y 116 _,.y 117 _,.y 18 _] [] [] [(8,_),(17,_),(18,_)] [(12,.var _)] 219 ⟨mU 18 O O,aU fun _ _ H K=>R.addN (i) (1) (eU K 116 O) (kI 1 O) bU H,aU fun _ _ H K=>R.asg (eU K 117 O) O H,Zt⟩ O O O O (tU O ?_)
             exact ⟨⟨(i + 1),bU⟩,rfl,(by simp only []; omega)⟩
         · obtain rfl : i = (uvS (keepS (aS ps key) out) (sumK (key % 12))).length:=by omega
           refine W.exit (W.seq ?_)
           refine W.l0 2 [.y 218 _,.y 6 _] [] [] [(6,_)] [(12,.var _)] 219 ⟨aU fun _ _ H _=>R.callG hC (wk25_ok) Bn (FrsR.one (.bool _)) H,aU fun _ _ H K=>R.asg (eU K 218 O) O H,Zt⟩ O O O O (tU O ?_)
           refine W.ret ?_
           exact Ends.one' (.inr O) O (O) O O Zt
end Go.Sx

namespace Go.Sx
open Go.Proofs
end Go.Sx

namespace Go.Sx
open Go.Proofs
end Go.Sx

namespace Go.Sx
open Go.Proofs
end Go.Sx

namespace Go.Sx
open Go.Proofs
end Go.Sx

namespace Go.Sx
open Go.Proofs
end Go.Sx

namespace Go.Sx
open Go.Proofs
end Go.Sx

namespace Go.Sx
open Go.ChangeShapes Go.WideShapes
structure Rd (P : Program) (t : TypeId) (z : Nat) {α : Type} (f : α -> D) (q : α -> Prop) : Prop where
 cells : P.cellsOf t = z
 sz : ∀ a,q a -> (f a).sz = z
 rd : ∀ {H : Type} {enc : TypeId × Value -> H} {w : World} {n : Nat} {cs : List Value} {x : DataW H × List MemPlace},DataW.trod enc P w 0 (fun _=>true) true n t cs = some x ->
  (x.1.weights P t).all (· <= reachBytes) = true -> ∃ a,q a /\ Rc w (fun x=>x) (fun b=>b < w.heap.size) (fun _=>False) false (f a) cs []
variable {P : Program} {t e z : Nat}
theorem Rd.bool (ht : P.underlying t = some .bool) (hz : P.cellsOf t = 1) : Rd P t 1 D.bool (fun _=>True):=
 ⟨hz,fun _ _=>rfl,fun h _=>by obtain ⟨b,rfl,_⟩:=DataW.trod_bool ht h; exact ⟨b,trivial,.bool b⟩⟩
theorem Rd.u8 (ht : P.underlying t = some (.int .u8)) (hz : P.cellsOf t = 1) : Rd P t 1 D.u8 (fun _=>True):=
 ⟨hz,fun _ _=>rfl,fun h _=>by
  obtain ⟨n,rfl,_,hw⟩:=DataW.trod_int ht h
  simp [Lit.wf,IntKind.min,IntKind.max,IntKind.signed,IntKind.bits] at hw
  refine ⟨UInt8.ofNat n.toNat,trivial, ?_⟩
  have : ((UInt8.ofNat n.toNat).toNat : Int) = n:=by simp [UInt8.toNat_ofNat']; omega
  have h1:=Rc.u8 (w:=‹World›) (ρ:=fun x=>x) (G:=fun b=>b < (‹World›).heap.size) (L:=fun _=>False) (p:=false) (UInt8.ofNat n.toNat)
  rw [this] at h1
  exact h1⟩
theorem weightsAll_mem {H : Type} {p : Nat -> Bool} {l : List (DataW H)} (h : (DataW.weightsAll P e l).all p = true) : ∀ d ∈ l,(d.weights P e).all p = true:=by
 induction l with
 | nil=>intro d hd; cases hd
 | cons x r ih=>
  simp only [DataW.weightsAll,List.all_append,Bool.and_eq_true] at h
  intro d hd
  rcases List.mem_cons.1 hd with rfl | hd
  · exact h.1
  · exact ih h.2 d hd
theorem weightsEach_get {H : Type} {p : Nat -> Bool} : ∀ {ts : List TypeId} {l : List (DataW H)},(DataW.weightsEach P ts l).all p = true -> ∀ (i : Nat) (t : TypeId) (d : DataW H),ts[i]? = some t -> l[i]? = some d -> (d.weights P t).all p = true:=by
 intro ts
 induction ts with
 | nil=>intro l _ i t d ht; simp at ht
 | cons t0 ts ih=>
  intro l h i t d ht hd
  cases l with
  | nil=>simp at hd
  | cons x r=>
   simp only [DataW.weightsEach,List.all_append,Bool.and_eq_true] at h
   cases i with
   | zero=>simp at ht hd; subst ht; subst hd; exact h.1
   | succ i=>exact ih h.2 i t d (by simpa using ht) (by simpa using hd)
theorem list_of {α : Type} {n : Nat} {p : Nat -> α -> Prop} (h : ∀ i,i < n -> ∃ a,p i a) : ∃ l : List α,l.length = n /\ ∀ i (hi : i < l.length),p i l[i]:=by
 induction n with
 | zero=>exact ⟨[],rfl,fun i hi=>by simp at hi⟩
 | succ n ih=>
  obtain ⟨l,hl,hp⟩:=ih (fun i hi=>h i (by omega))
  obtain ⟨a,ha⟩:=h n (by omega)
  refine ⟨l ++ [a],by simp [hl],fun i hi=>?_⟩
  rcases Nat.lt_or_ge i l.length with h1 | h1
  · rw [List.getElem_append_left h1]; exact hp i h1
  · have : i = n:=by simp at hi; omega
    subst this
    rw [List.getElem_append_right h1]
    simpa [hl] using ha
theorem cells_row {w : World} {b off n : Nat} {c : Array Value} {ty : TypeId} {fz : Nat × Nat} {cs : List Value} (hb : w.heap[b]? = some (.cells c ty fz)) (h : w.cells? 0 ⟨b,off,none⟩ n = some cs) (hn : 0 < n) :
 off + n <= c.size /\ cs = (c.toList.drop off).take n:=by
 obtain ⟨_,hl,hc⟩:=World.cells?_some h
 have hc' : ∀ i,i < n -> c[off + i]? = cs[i]?:=fun i hi=>by
  have:=hc i hi
  rw [add_lit,cell_of_row w b _ c ty fz hb] at this
  exact this
 have h1:=hc' (n - 1) (by omega)
 have h2 : off + (n - 1) < c.size:=by
  rw [List.getElem?_eq_getElem (by omega)] at h1
  exact (Array.getElem?_eq_some_iff.1 h1).1
 refine ⟨by omega, ?_⟩
 apply List.ext_getElem?
 intro i
 rw [List.getElem?_take]
 split
 · rw [List.getElem?_drop]
   rw [<- hc' i (by assumption)]
   simp
 · rw [List.getElem?_eq_none (by omega)]
theorem Rd.sl {α : Type} {f : α -> D} {q : α -> Prop} (ht : P.underlying t = some (.slice e)) (hz : P.cellsOf t = 1) (h0 : 0 < z) (hby : 0 < P.bytesOf e) (he : Rd P e z f q) :
 Rd P t 1 (fun l : List α=>.sl none z (l.map f)) (fun l=>l.length <= 140737488355328 /\ ∀ x ∈ l,q x):=
 ⟨hz,fun _ _=>rfl,fun {H enc w n cs x} h hwt=>by
  rcases Go.Deep.open_slice ht h with ⟨rfl,_⟩ | ⟨a,len,cap,m,n',Dd,Pl,rfl,_,hlc,hcm,hm,rfl,hx⟩
  · exact ⟨[],⟨by simp,by simp⟩,.slN none z⟩
  · simp only [if_true] at hm
    have hx:=fun i (hi : i < cap)=>hx i (by omega)
    simp only [DataW.weights,ht,List.all_cons,List.all_append,Bool.and_eq_true,decide_eq_true_eq,List.length_map,List.length_range] at hwt
    obtain ⟨hw1,hw2,hw3⟩:=hwt
    have hw4 : ∀ i,i < len -> ((Dd i).weights P e).all (· <= reachBytes) = true:=fun i hi=>weightsAll_mem hw2 _ (List.mem_map.2 ⟨i,List.mem_range.2 hi,rfl⟩)
    have hlen : len <= 140737488355328:=by
     have h6 : len * 1 <= (len + (m - len)) * P.bytesOf e:=Nat.mul_le_mul (by omega) hby
     simp only [reachBytes] at hw1
     omega
    rcases Nat.eq_zero_or_pos cap with rfl | hcap
    · have : len = 0:=by omega
      subst this
      exact ⟨[],⟨by simp,by simp⟩,.slE none z a⟩
    · rw [he.cells] at hx
      obtain ⟨b,off,sp⟩:=a
      obtain ⟨cs0,hc0,_⟩:=hx 0 hcap
      obtain ⟨_,hl0,hv0⟩:=World.cells?_some hc0
      have h1:=hv0 0 h0
      rw [List.getElem?_eq_getElem (by omega)] at h1
      have hblk : ∃ c ty fz,w.heap[b]? = some (.cells c ty fz) /\ sp = none:=by
       have e0 : ((⟨b,off,sp⟩ : Addr).add (0 * z)).add 0 = ⟨b,off,sp⟩:=by simp [Addr.add]
       rw [e0] at h1
       unfold World.cell? at h1
       simp only at h1
       split at h1
       · rename_i c ty fz hh
         cases sp with
         | none=>exact ⟨c,ty,fz,hh,rfl⟩
         | some s=>simp at h1
       · cases h1
      obtain ⟨c,ty,fz,hb,rfl⟩:=hblk
      have hrow : ∀ i,i < cap -> off + i * z + z <= c.size /\ (i < len -> ∃ a,q a /\ Rc w (fun x=>x) (fun b=>b < w.heap.size) (fun _=>False) false (f a) ((c.toList.drop (off + i * z)).take z) []):=fun i hi=>by
       obtain ⟨cs',h2,h3⟩:=hx i hi
       rw [add_lit] at h2
       obtain ⟨h4,rfl⟩:=cells_row hb h2 h0
       exact ⟨h4,fun hi=>he.rd h3 (hw4 i hi)⟩
      obtain ⟨l,hl,hp⟩:=list_of (fun i hi=>(hrow i (by omega : i < cap)).2 hi : ∀ i,i < len -> _)
      have hsz : off + cap * z <= c.size:=by
       have h5:=(hrow (cap - 1) (by omega)).1
       have : (cap - 1) * z + z = cap * z:=by rw [<- Nat.succ_mul]; congr 1; omega
       omega
      have hlz : len * z <= cap * z:=Nat.mul_le_mul_right z hlc
      refine ⟨l,⟨by omega,fun y hy=>?_⟩, ?_⟩
      · obtain ⟨i,hi,rfl⟩:=List.mem_iff_getElem.1 hy
        exact (hp i hi).1
      · have:=Rc.slI (w:=w) (ρ:=fun x=>x) (G:=fun b=>b < w.heap.size) (L:=fun _=>False) (p:=false) b off c ty fz cap z (l.map f) hb (Array.getElem?_eq_some_iff.1 hb).1 (by simp; omega) (by simp [hl]; omega)
         (fun i hi=>by simp only [List.getElem_map]; exact (hp i (by simpa using hi)).2)
        simpa [hl] using this⟩
theorem Rd.map {α β : Type} {f : α -> D} {q : α -> Prop} {g : β -> D} {q' : β -> Prop} (h : Rd P t z f q) (m : α -> β) (hm : ∀ a,q a -> q' (m a) /\ g (m a) = f a) (hs : ∀ b,q' b -> (g b).sz = z) : Rd P t z g q':=
 ⟨h.cells,hs,fun hx hw=>by
  obtain ⟨a,ha,hr⟩:=h.rd hx hw
  obtain ⟨h1,h2⟩:=hm a ha
  exact ⟨m a,h1,by rw [h2]; exact hr⟩⟩
structure RdF (P : Program) (off : Nat) (fs : List Field) (e : Nat) {α : Type} (f : α -> List D) (q : α -> Prop) : Prop where
 sz : ∀ a,q a -> off + D.szs (f a) = e
 rd : ∀ {H : Type} {enc : TypeId × Value -> H} {w : World} {n : Nat} {cs : List Value},(∀ fld ∈ fs,∃ x,DataW.trod enc P w 0 (fun _=>true) true n fld.type ((cs.drop fld.offset).take (P.cellsOf fld.type)) = some x /\ (x.1.weights P fld.type).all (· <= reachBytes) = true) ->
  ∃ a,q a /\ ∀ k (hk : k < (f a).length),Rc w (fun x=>x) (fun b=>b < w.heap.size) (fun _=>False) false (f a)[k] ((cs.drop (off + offk (f a) k)).take (f a)[k].sz) []
theorem RdF.nil {off : Nat} : RdF P off [] off (fun _ : Unit=>[]) (fun _=>True):=
 ⟨fun _ _=>by simp,fun _=>⟨(),trivial,fun k hk=>by simp at hk⟩⟩
theorem RdF.cons {α β : Type} {f : α -> D} {q : α -> Prop} {g : β -> List D} {q' : β -> Prop} {off e' : Nat} {fld : Field} {fs : List Field} (h : Rd P fld.type z f q) (ho : fld.offset = off) (hr : RdF P (off + z) fs e' g q') :
 RdF P off (fld :: fs) e' (fun a : α × β=>f a.1 :: g a.2) (fun a=>q a.1 /\ q' a.2):=
 ⟨fun a ha=>by have:=hr.sz a.2 ha.2; have:=h.sz a.1 ha.1; simp only [szs_cons]; omega,fun {H enc w n cs} hx=>by
  obtain ⟨x,h1,hw⟩:=hx fld (by simp)
  rw [ho,h.cells] at h1
  obtain ⟨a,ha,hra⟩:=h.rd h1 hw
  obtain ⟨b,hb,hrb⟩:=hr.rd (fun f hf=>hx f (List.mem_cons_of_mem _ hf))
  refine ⟨(a,b),⟨ha,hb⟩,fun k hk=>?_⟩
  cases k with
  | zero=>simpa [offk,h.sz a ha] using hra
  | succ k=>
   have:=hrb k (by simpa using hk)
   simp only [offk,List.take_succ_cons,szs_cons,List.getElem_cons_succ,h.sz a ha]
   rw [<- Nat.add_assoc]
   exact this⟩
theorem Rd.struct {α : Type} {g : α -> List D} {q : α -> Prop} {fs : Array Field} (ht : P.underlying t = some (.struct fs)) (hz : P.cellsOf t = z) (h : RdF P 0 fs.toList z g q) : Rd P t z (fun a=>.agg (g a)) q:=
 ⟨hz,fun a ha=>by have:=h.sz a ha; simp; omega,fun {H enc w n cs x} hx hwt=>by
  obtain ⟨xs,m,_,rfl,hlen,hxl,hf⟩:=DataW.trod_struct ht hx
  obtain ⟨a,ha,hr⟩:=h.rd (H:=H) (enc:=enc) (w:=w) (n:=m) (cs:=cs) (fun fld hm=>by
   obtain ⟨i,hi,rfl⟩:=List.mem_iff_getElem.1 hm
   have h1:=hf i fs[i] (by simp at hi; simp [hi])
   rw [List.getElem?_eq_getElem (by simp at hi; omega)] at h1
   simp only [DataW.weights,ht] at hwt
   refine ⟨_,by simpa using h1, ?_⟩
   exact weightsEach_get hwt i _ _ (by simp at hi; simp [hi]) (by simp at hi; rw [List.getElem?_map,List.getElem?_eq_getElem (by omega)]; rfl))
  refine ⟨a,ha, ?_⟩
  have:=Rc.agg (w:=w) (ρ:=fun x=>x) (G:=fun b=>b < w.heap.size) (L:=fun _=>False) (p:=false) (g a) cs (fun _=>[]) (by have:=h.sz a ha; omega) (fun k hk=>by have:=hr k hk; rwa [Nat.zero_add] at this)
  rw [flat0] at this
  exact this⟩
def isAggT (P : Program) (t : TypeId) : Bool:=match P.underlying t with
 | some (.struct _)=>true
 | some (.array _ _)=>true
 | _=>false
theorem cells_one {r : Reach} {W : World} {base : Nat} {v : Value} (hu : isAggT P t = false) (hv : Value.okWide P W r base t v) : v.cells = #[v]:=by
 cases v with
 | agg cs=>
  exfalso
  unfold isAggT at hu
  unfold Value.okWide at hv
  split at hv
  · rename_i h; simp [h] at hu
  · rename_i h; simp [h] at hu
  · unfold Cell.okWide Cell.ok at hv
    split at hv <;> simp_all
 | _=>rfl
theorem Rd.arg {H : Type} {enc : TypeId × Value -> H} {α : Type} {f : α -> D} {q : α -> Prop} {g : Bool} {r : Reach} {W : World} {base : Nat} {v : Value} {d : DataW H} {ps : List MemPlace} (h : Rd P t z f q) (hu : isAggT P t = g) (hg : ∀ a,q a -> (f a).isAgg = g)
 (hv : Value.okWide P W r base t v) (hd : DataW.Trod enc P W 0 (fun _=>true) true t v d ps) (hw : (d.weights P t).all (· <= reachBytes) = true) :
 ∃ a,q a /\ VR W (fun x=>x) (fun b=>b < W.heap.size) (fun _=>False) (f a) v []:=by
 obtain ⟨fuel,hd⟩:=hd
 obtain ⟨a,ha,hr⟩:=h.rd hd hw
 refine ⟨a,ha, ?_⟩
 have hga:=hg a ha
 cases g with
 | true=>
  have : ∃ cs,v = .agg cs:=by
   unfold isAggT at hu
   unfold Value.okWide at hv
   split at hv
   · exact ⟨_,hv.choose_spec.1⟩
   · exact ⟨_,hv.choose_spec.1⟩
   · split at hu <;> simp_all
  obtain ⟨cs,rfl⟩:=this
  simp only [VR,hga,if_true]
  exact ⟨cs,rfl,hr.flag⟩
 | false=>
  rw [cells_one hu hv] at hr
  simp only [VR,hga,if_false,Bool.false_eq_true]
  exact hr.flag
theorem trodAll_stays {H : Type} {enc : TypeId × Value -> H} {W W' : World} {sp : Nat -> Bool} (hl : laidOutB P = true) (hb : ∀ b,b < W.heap.size -> W'.heap[b]? = W.heap[b]?) :
 ∀ {ts : List TypeId} {vs : List Value} {ds : List (DataW H)} {ps : List MemPlace},(ts.all fun t=>P.readableRec t && decide (t < P.types.size)) = true -> (∀ x ∈ ps,x.block < W.heap.size) -> (∀ x ∈ ps,sp x.block = true) ->
  DataW.TrodAll enc P W 0 (fun _=>true) true ts vs ds ps -> DataW.TrodAll enc P W' 0 sp true ts vs ds ps:=by
 intro ts
 induction ts with
 | nil=>intro vs ds ps _ _ _ h; obtain ⟨rfl,rfl,rfl⟩:=trodAll_nil h; exact trodAll_mk0
 | cons t ts ih=>
  intro vs ds ps ht hlt hs h
  obtain ⟨v,vs1,d,ds1,a,b,rfl,rfl,rfl,h1,h2⟩:=trodAll_cons h
  simp only [List.all_cons,Bool.and_eq_true,decide_eq_true_eq] at ht
  refine trodAll_cons_mk (Go.WideElems.Trod_stays hl ht.1.1 ht.1.2 h1 (fun x hx=>?_) (fun x hx=>hs x (List.mem_append.2 (.inl hx)))) (ih ht.2 (fun x hx=>hlt x (List.mem_append.2 (.inr hx))) (fun x hx=>hs x (List.mem_append.2 (.inr hx))) h2)
  have hx':=hlt x (List.mem_append.2 (.inl hx))
  cases x with
  | cell b o=>exact World.cell?_of_block (w:=W) (hb b hx')
  | map b=>exact hb b hx'
theorem contract_of {H : Type} {enc : TypeId × Value -> H} {fn : Func} {f : FuncId} {s : ChangeSpec} {W : World} {args : Array Value} {ds gs : List (DataW H)} {before : List MemPlace} {tb : TypeId} {gl : List (Nat × D)} {Ds : List D}
 (hl : laidOutB P = true) (hpar : (fn.params.toList.all fun t=>P.readableRec t && decide (t < P.types.size)) = true) (hres : fn.resultTypes = #[tb]) (htb : P.underlying tb = some .bool) (hsv : s.vars = [])
 (hfn : s.fn H ds = { results:=[.lit (.bool true)],args:=ds }) (hW : DataW.Whole enc P fn.params.toList s.vars false W args.toList ds gs before)
 (hgl : ∀ g d,(g,d) ∈ gl -> g < W.heap.size /\ ∃ cs e fz,W.heap[g]? = some (.cells cs e fz) /\ Rc W (fun x=>x) (fun _=>False) (fun _=>False) false d cs.toList [])
 (hlen : args.toList.length = Ds.length) (hargs : ∀ k (h : k < Ds.length),VR W (fun x=>x) (fun b=>b < W.heap.size) (fun _=>False) Ds[k] (args.toList.getD k undef) [])
 (hf : Fn P gl f Ds (.bool true)) : Calls P f args W fun e W'=>∃ v,e = .returned v /\ s.post enc P fn false true false false W args v W':=by
 have hrun:=hf W (fun b=>b < W.heap.size) args.toList hgl hlen hargs
 rw [Array.toArray_toList] at hrun
 refine hrun.mono fun ex W' ⟨v,F,he,hext,_,_,hrv⟩=>⟨v,he, ?_⟩
 have hv : v = .bool true:=by
  obtain ⟨_,h2⟩:=hrv
  simp only [VR,D.isAgg,Bool.false_eq_true,if_false] at h2
  cases h2
  rfl
 subst hv
 have hlt:=hW.lt
 have hW0:=hW
 obtain ⟨p,q',hA,hV,rfl,hfz,hnd⟩:=hW
 rw [hsv] at hV
 obtain ⟨rfl,rfl⟩:=trodVars_none hV
 simp only [List.append_nil] at hlt hW0
 have hst : ∀ sp : Nat -> Bool,(∀ x ∈ p,sp x.block = true) -> DataW.TrodAll enc P W' 0 sp true fn.params.toList args.toList ds p:=fun sp hs=>trodAll_stays hl (fun b hb=>hext.block b hb) hpar hlt hs hA
 refine ⟨ds,[],p,[],p,[],hW0, ?_, ?_, ?_,⟨hext.os,hext.output,fun i hi=>?_⟩,fun h=>by cases h⟩
 · rw [hres]
   simp only [List.append_nil,hfn]
   exact trodAll_cons_mk (Go.RowKit.shut_bool htb true) trodAll_mk0
 · simp only [List.append_nil,hfn]
   exact hst _ (fun x hx=>by simpa using hlt x hx)
 · simp only [List.append_nil,hfn,hsv]
   rfl
 · rw [hext.block i hi]
   cases hh : W.heap[i]? with
   | none=>simp
   | some o=>cases o <;> simp
theorem rc_tab32 {w : World} {ρ : Nat -> Nat} {G L : Nat -> Prop} (l : List UInt32) {n : Nat} (hn : l.length = n) : Rc w ρ G L false (.arr n 1 (l.map D.u32)) (l.map fun x=>Value.int .u32 x.toNat) []:=by
 refine .arr n 1 _ _ (by simpa using hn) (by simp [hn]) (fun i hi=>?_)
 have hi' : i < l.length:=by simpa using hi
 simp only [Nat.mul_one,List.getElem_map]
 rw [List.drop_eq_getElem_cons (by simpa using hi'),List.take_succ_cons,List.take_zero,List.getElem_map]
 exact .u32 _
theorem gl_tab32 {W : World} {name : String} {g n : Nat} (l : List UInt32) (hg : P.globalNamed name = some g) (hn : l.length = n) (h : Lib.TabIs P W name .u32 (l.map fun x=>((x.toNat : Nat) : Int))) :
 g < W.heap.size /\ ∃ cs e fz,W.heap[g]? = some (.cells cs e fz) /\ Rc W (fun x=>x) (fun _=>False) (fun _=>False) false (.arr n 1 (l.map D.u32)) cs.toList []:=by
 unfold Lib.TabIs World.var? at h
 simp only [hg,Option.bind_some,List.map_map] at h
 split at h
 · rename_i cs e fz hh
   simp only [Option.some.injEq] at h
   refine ⟨(Array.getElem?_eq_some_iff.1 hh).1,cs,e,fz,hh, ?_⟩
   rw [h]
   exact rc_tab32 l hn
 · cases h
end Go.Sx

namespace Go.Sx
open Go.Proofs
theorem rd_plan : Rd Tryd.prog 77 3 plD (fun x=>∀ s ∈ x.spends,s.to.length <= 140737488355328):=by
 have h8:=Rd.u8 (P:=Tryd.prog) Tryd.underlying5 (by kernel_rfl)
 have hbo:=Rd.bool (P:=Tryd.prog) Tryd.underlying4 (by kernel_rfl)
 have hb:=Rd.sl (P:=Tryd.prog) Tryd.underlying24 (by kernel_rfl) (by decide) (of_decide_eq_true (by kernel_rfl)) h8
 have hs0:=Rd.struct (P:=Tryd.prog) (z:=5) Tryd.underlying86 (by kernel_rfl) (.cons h8 rfl (.cons hbo rfl (.cons hb rfl (.cons h8 rfl (.cons h8 rfl .nil)))))
 have hs:=hs0.map (q':=fun x : SpS=>x.to.length <= 140737488355328) (g:=spD) (fun a=>⟨a.1,a.2.1,a.2.2.1,a.2.2.2.1,a.2.2.2.2.1⟩) (fun a ha=>⟨ha.2.2.1.1,rfl⟩) (fun b hb=>rfl)
 have hsl:=Rd.sl (P:=Tryd.prog) Tryd.underlying75 (by kernel_rfl) (by decide) (of_decide_eq_true (by kernel_rfl)) hs
 have h0:=Rd.struct (P:=Tryd.prog) (z:=3) Tryd.underlying77 (by kernel_rfl) (.cons h8 rfl (.cons hsl rfl (.cons h8 rfl .nil)))
 exact h0.map (fun a=>⟨a.1,a.2.1,a.2.2.1⟩) (fun a ha=>⟨fun x hx=>ha.2.1.2 x hx,rfl⟩) (fun b hb=>rfl)
end Go.Sx
