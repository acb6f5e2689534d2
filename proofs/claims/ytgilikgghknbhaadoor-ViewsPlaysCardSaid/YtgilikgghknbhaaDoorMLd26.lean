/-
 Between the walks: lists that are compared.
-/
import Derived.Test.YtgilikgghknbhaaDoorMSxPanic
import Derived.Test.YtgilikgghknbhaaDoorMLdMid6
set_option linter.unusedVariables false
set_option linter.unusedSimpArgs false
set_option linter.unnecessarySimpa false

namespace Go.Sx
open Go.Proofs
theorem hist15_ok (l : List BlkS) (hl : allBl l) (sc : Hs) : Fn Tryd.prog gl 28 [.sl none 69 (l.map blkD),hashD sc] (.sl (some 58) 33 ((histS l sc).map enD)):=by
 refine Fn.of (n:=98) Tryd.func28 rfl rfl rfl (nU rfl) fun C hC hD=>?_
 have hsa:=allS_wf hl
 have hal:=hsa.1
 refine W.seq ?_
 refine W.l0 2 [] [] [] [(0,_),(1,_)] [] 98 Zt O O O O (⟨O,_,R.box (gV 1 O) O O (nU O),⟨O,_,R.asg (kN O) O (nU O),tV [(0,_),(3,_)] [(3,.var _)] 98 O O O ?_⟩⟩)
 refine W.seq ?_
 refine W.l0 3 [.y 13 _,.y 14 _,.y 5 _] [(2,14)] [(2,14)] [(3,_),(5,_)] [(3,.var _)] 98 ⟨mU 0 O O,aU fun _ _ H K=>R.callPE hC (all15_ok l hl) (EvP.cons (eU K 13 O) O O EvP.nil) H,aU fun _ _ H K=>R.asgO (K 14 _ O) O H dU,Zt⟩ O O O O (tU O ?_)
 refine W.seq ?_
 refine W.frzS (s:=5) (d':=.sl none 38 ((allS l).map stsD)) O O (brw_sts _ _ _) ?_
 refine W.l0 1 [.y 6 _] [] [] [(3,_),(5,_),(6,_)] [(3,.var _)] 98 ⟨aU fun _ _ H _=>R.asg (kN O) O H,Zt⟩ O O O O (tU O ?_)
 refine W.seq (W.seq ?_)
 refine W.l0 1 [.y 7 _] [] [] [(3,_),(5,_),(6,_),(7,_)] [(3,.var _)] 98 ⟨aU fun _ _ H _=>R.asg (kI 0 O) O H,Zt⟩ O O O O (tU O ?_)
 refine W.block ?_
 refine W.asOwn (s:=6) 58 33 O ?_
 refine W.loop (α:={q__ : Nat // q__ <= (allS l).length}) (fun q__=>⟨98,[(3,.ptr 3 0 []),(5,.sl none 38 ((allS l).map stsD)),(6,.sl (some 58) 33 ((hstI (allS l) sc q__.1).map enD)),(7,.int ((q__.1 : Nat) : Int))],[(3,.var (hashD sc))]⟩) (fun q__=>(allS l).length - q__.1) ⟨(0),bU⟩ O ?_
 rintro ⟨i,hi⟩
 show W _ _ _ _ ⟨98,[(3,.ptr 3 0 []),(5,.sl none 38 ((allS l).map stsD)),(6,.sl (some 58) 33 ((hstI (allS l) sc i).map enD)),(7,.int ((i : Nat) : Int))],[(3,.var (hashD sc))]⟩
 have hi : i <= (allS l).length:=hi
 have hhl:=hstI_len (allS l) sc i
 have hsi:=fun (h : i < (allS l).length)=>hsa.get h
 refine W.seq (W.seq ?_)
 refine W.l0 4 [.y 15 _,.y 16 _,.y 17 _,.y 18 _] [] [] [(3,_),(5,_),(6,_),(7,_),(18,_)] [(3,.var _)] 98 ⟨mU 7 O O,mU 5 O O,aU fun _ _ H K=>R.lenE (SC.sl (K 16 _ O)) (lN _) H,aU fun _ _ H K=>R.lssN (i) ((allS l).length) (eU K 15 O) (eU K 17 O) H,Zt⟩ O O O O (tU O ?_)
 refine W.condD O (fun hc18=>?_) (fun hc18=>?_)
 · refine W.skip (W.seq (W.block (W.seq ?_)))
   have hsi:=hsi hc18
   have hin:=hsi.2.2.1
   have hout:=hsi.2.2.2
   refine W.l0 1 [.y 8 _] [] [] [(3,_),(5,_),(6,_),(7,_),(8,_)] [(3,.var _)] 98 ⟨aU fun _ _ H _=>R.asg (kB false O) O H,Zt⟩ O O O O (tU O ?_)
   refine W.seq (W.seq ?_)
   refine W.l0 1 [.y 9 _] [] [] [(3,_),(5,_),(6,_),(7,_),(8,_),(9,_)] [(3,.var _)] 98 ⟨aU fun _ _ H _=>R.asg (kI 0 O) O H,Zt⟩ O O O O (tU O ?_)
   refine W.block ?_
   refine W.loop (α:={q__ : Nat // q__ <= (allS l)[i]!.t.outs.length}) (fun q__=>⟨98,[(3,.ptr 3 0 []),(5,.sl none 38 ((allS l).map stsD)),(6,.sl (some 58) 33 ((hstI (allS l) sc i).map enD)),(7,.int ((i : Nat) : Int)),(8,.bool (orO (allS l)[i]!.t sc q__.1)),(9,.int ((q__.1 : Nat) : Int))],[(3,.var (hashD sc))]⟩) (fun q__=>(allS l)[i]!.t.outs.length - q__.1) ⟨(0),bU⟩ O ?_
   rintro ⟨k,hk⟩
   show W _ _ _ _ ⟨98,[(3,.ptr 3 0 []),(5,.sl none 38 ((allS l).map stsD)),(6,.sl (some 58) 33 ((hstI (allS l) sc i).map enD)),(7,.int ((i : Nat) : Int)),(8,.bool (orO (allS l)[i]!.t sc k)),(9,.int ((k : Nat) : Int))],[(3,.var (hashD sc))]⟩
   have hk : k <= (allS l)[i]!.t.outs.length:=hk
   refine W.seq (W.seq ?_)
   refine W.l0 9 [.y 21 _,.y 22 _,.y 23 _,.y 24 _,.y 25 _,.y 26 _,.y 27 _,.y 28 _,.y 29 _] [] [] [(3,_),(5,_),(6,_),(7,_),(8,_),(9,_),(29,_)] [(3,.var _)] 98 ⟨mU 9 O O,mU 5 O O,mU 7 O O,aU fun _ _ H K=>R.idxN (i) (SC.sl (K 22 _ O)) (evoI (eU K 23 O)) O bU H dU,aU fun _ _ H K=>R.fdE (K 24 _ O) H dU,aU fun _ _ H K=>R.fdE (K 25 _ O) H dU,aU fun _ _ H K=>R.ldE (K 26 _ O) (SC.sl (K 22 _ O)) (map_get! (l:=(allS l)) bU) O O O O H,aU fun _ _ H K=>R.lenE (SC.sl (K 27 _ O)) (lN _) H,aU fun _ _ H K=>R.lssN (k) (((allS l))[i]!.t.outs.length) (eU K 21 O) (eU K 28 O) H,Zt⟩ O O O O (tU O ?_)
   refine W.condD O (fun hc29=>?_) (fun hc29=>?_)
   · refine W.skip (W.seq (W.block ?_))
     by_cases hbo : orO (allS l)[i]!.t sc k = true
     · refine W.draw (m:=15) (an:=[0,1,3,3,15,31,63,127,3,511,1023,3,4095,8191,16383]) hP dU O (its:=[.y 32 _,.y 33 _,.x 34,.x 35,.x 36,.x 37,.x 38,.x 39,.x 40,.x 41,.x 42,.x 43,.x 44,.y 45 _,.y 8 _]) (ks:=[]) (kk:=[]) (live:=[3,5,6,7,8,9]) (env':=[(3,_),(5,_),(6,_),(7,_),(8,_),(9,_)]) (⟨nU O,O,⟨mU 8 O O,mU 32 O O,aF O O (gT (hbo) O),aF O O (gT (hbo) O),aF O O (gT (hbo) O),aF O O (gT (hbo) O),aF O O (gT (hbo) O),aF O O (gT (hbo) O),aF O O (gT (hbo) O),aF O O (gT (hbo) O),aF O O (gT (hbo) O),aF O O (gT (hbo) O),aF O O (gT (hbo) O),aU fun _ _ H K=>R.pickT (eU K 33 O) (hbo) (kB true O) O H,aU fun _ _ H K=>R.asg (eU K 45 O) O H,Zt⟩,O,O,O⟩) O (bx':=[(3,.var _)]) O (n':=98) O (tV [(3,_),(5,_),(6,_),(7,_),(8,_),(9,_)] [(3,.var _)] 98 O O O ?_)
       refine W.l0 3 [.y 30 _,.y 31 _,.y 9 _] [] [] [(3,_),(5,_),(6,_),(7,_),(8,_),(9,_)] [(3,.var _)] 98 ⟨mU 9 O O,aU fun _ _ H K=>R.addN (k) (1) (eU K 30 O) (kI 1 O) bU H,aU fun _ _ H K=>R.asg (eU K 31 O) O H,Zt⟩ O O O O (tU O ?_)
       exact ⟨⟨(k + 1),bU⟩,(by first | (dsimp only; rw [orO_t hbo]) | (dsimp only; rw [orO_f (bfalse hbo)])),(by simp only []; omega)⟩
     · refine W.draw (m:=15) (an:=[0,1,3,3,15,31,63,127,3,511,1023,3,4095,8191,16383]) hP dU O (its:=[.y 32 _,.y 33 _,.y 34 _,.y 35 _,.y 36 _,.y 37 _,.y 38 _,.y 39 _,.y 40 _,.y 41 _,.y 42 _,.y 43 _,.y 44 _,.y 45 _,.y 8 _]) (ks:=[]) (kk:=[]) (live:=[3,5,6,7,8,9]) (env':=[(3,_),(5,_),(6,_),(7,_),(8,_),(9,_)]) (⟨nU O,O,⟨mU 8 O O,mU 32 O O,aW O O (gF (bfalse hbo) O) fun _ _ H K=>R.mov (eU K 5 O) O H,aW O O (gF (bfalse hbo) O) fun _ _ H K=>R.mov (eU K 7 O) O H,aW O O (gF (bfalse hbo) O) fun _ _ H K=>R.idxN (i) (SC.sl (K 34 _ O)) (evoI (eU K 35 O)) O bU H dU,aW O O (gF (bfalse hbo) O) fun _ _ H K=>R.fdE (K 36 _ O) H dU,aW O O (gF (bfalse hbo) O) fun _ _ H K=>R.fdE (K 37 _ O) H dU,aW O O (gF (bfalse hbo) O) fun _ _ H K=>R.ldE (K 38 _ O) (SC.sl (K 34 _ O)) (map_get! (l:=(allS l)) bU) O O O O H,aW O O (gF (bfalse hbo) O) fun _ _ H K=>R.mov (eU K 9 O) O H,aW O O (gF (bfalse hbo) O) fun _ _ H K=>R.idxN (k) (SC.sl (K 39 _ O)) (evoI (eU K 40 O)) O bU H dU,aW O O (gF (bfalse hbo) O) fun _ _ H K=>R.ldE (K 41 _ O) (SC.sl (K 39 _ O)) (map_get! (l:=((allS l))[i]!.t.outs) bU) O O O O H,aW O O (gF (bfalse hbo) O) (lU 3 O O O O O O O),aW O O (gF (bfalse hbo) O) fun _ _ H K=>R.callG hC (rpays15_ok (allS l)[i]!.t.outs[k]! sc (hsi.2.1.outScript (by omega))) (Bc (Bp (eU K 42 O) O O) (Bc (Bp (eU K 43 O) O O) Bn)) (FrsR.one (.bool _)) H,aU fun _ _ H K=>R.pickF (eU K 33 O) (bfalse hbo) (eU K 44 O) O H,aU fun _ _ H K=>R.asg (eU K 45 O) O H,Zt⟩,O,O,O⟩) O (bx':=[(3,.var _)]) O (n':=98) O (tV [(3,_),(5,_),(6,_),(7,_),(8,_),(9,_)] [(3,.var _)] 98 O O O ?_)
       refine W.l0 3 [.y 30 _,.y 31 _,.y 9 _] [] [] [(3,_),(5,_),(6,_),(7,_),(8,_),(9,_)] [(3,.var _)] 98 ⟨mU 9 O O,aU fun _ _ H K=>R.addN (k) (1) (eU K 30 O) (kI 1 O) bU H,aU fun _ _ H K=>R.asg (eU K 31 O) O H,Zt⟩ O O O O (tU O ?_)
       exact ⟨⟨(k + 1),bU⟩,(by first | (dsimp only; rw [orO_t hbo]) | (dsimp only; rw [orO_f (bfalse hbo)])),(by simp only []; omega)⟩
   · obtain rfl : k = (allS l)[i]!.t.outs.length:=by omega
     refine W.exit (W.seq (W.seq ?_))
     refine W.l0 1 [.y 10 _] [] [] [(3,_),(5,_),(6,_),(7,_),(8,_),(10,_)] [(3,.var _)] 98 ⟨aU fun _ _ H _=>R.asg (kI 0 O) O H,Zt⟩ O O O O (tU O ?_)
     refine W.block ?_
     refine W.loop (α:={q__ : Nat // q__ <= (allS l)[i]!.t.ins.length}) (fun q__=>⟨98,[(3,.ptr 3 0 []),(5,.sl none 38 ((allS l).map stsD)),(6,.sl (some 58) 33 ((hstI (allS l) sc i).map enD)),(7,.int ((i : Nat) : Int)),(8,.bool (orO (allS l)[i]!.t sc (allS l)[i]!.t.outs.length || orI (allS l) i sc q__.1)),(10,.int ((q__.1 : Nat) : Int))],[(3,.var (hashD sc))]⟩) (fun q__=>(allS l)[i]!.t.ins.length - q__.1) ⟨(0),bU⟩ (by rw [orI_0,Bool.or_false] <;> rfl) ?_
     rintro ⟨k,hk⟩
     show W _ _ _ _ ⟨98,[(3,.ptr 3 0 []),(5,.sl none 38 ((allS l).map stsD)),(6,.sl (some 58) 33 ((hstI (allS l) sc i).map enD)),(7,.int ((i : Nat) : Int)),(8,.bool (orO (allS l)[i]!.t sc (allS l)[i]!.t.outs.length || orI (allS l) i sc k)),(10,.int ((k : Nat) : Int))],[(3,.var (hashD sc))]⟩
     have hk : k <= (allS l)[i]!.t.ins.length:=hk
     refine W.seq (W.seq ?_)
     refine W.l0 9 [.y 46 _,.y 47 _,.y 48 _,.y 49 _,.y 50 _,.y 51 _,.y 52 _,.y 53 _,.y 54 _] [] [] [(3,_),(5,_),(6,_),(7,_),(8,_),(10,_),(54,_)] [(3,.var _)] 98 ⟨mU 10 O O,mU 5 O O,mU 7 O O,aU fun _ _ H K=>R.idxN (i) (SC.sl (K 47 _ O)) (evoI (eU K 48 O)) O bU H dU,aU fun _ _ H K=>R.fdE (K 49 _ O) H dU,aU fun _ _ H K=>R.fdE (K 50 _ O) H dU,aU fun _ _ H K=>R.ldE (K 51 _ O) (SC.sl (K 47 _ O)) (map_get! (l:=(allS l)) bU) O O O O H,aU fun _ _ H K=>R.lenE (SC.sl (K 52 _ O)) (lN _) H,aU fun _ _ H K=>R.lssN (k) (((allS l))[i]!.t.ins.length) (eU K 46 O) (eU K 53 O) H,Zt⟩ O O O O (tU O ?_)
     refine W.condD O (fun hc54=>?_) (fun hc54=>?_)
     · refine W.skip (W.seq (W.block (W.seq ?_)))
       refine W.l0 19 [.y 58 _,.y 59 _,.y 60 _,.y 61 _,.y 62 _,.y 63 _,.y 64 _,.y 65 _,.y 66 _,.y 67 _,.y 68 _,.y 69 _,.y 70 _,.y 57 _,.y 71 _,.y 72 _] [] [] [(3,_),(5,_),(6,_),(7,_),(8,_),(10,_),(71,_),(72,_)] [(3,.var _)] 98 ⟨mU 5 O O,mU 7 O O,mU 5 O O,mU 7 O O,aU fun _ _ H K=>R.idxN (i) (SC.sl (K 60 _ O)) (evoI (eU K 61 O)) O bU H dU,aU fun _ _ H K=>R.fdE (K 62 _ O) H dU,aU fun _ _ H K=>R.fdE (K 63 _ O) H dU,aU fun _ _ H K=>R.ldE (K 64 _ O) (SC.sl (K 60 _ O)) (map_get! (l:=(allS l)) bU) O O O O H,mU 10 O O,aU fun _ _ H K=>R.idxN (k) (SC.sl (K 65 _ O)) (evoI (eU K 66 O)) O bU H dU,aU fun _ _ H K=>R.fdE (K 67 _ O) H dU,aU fun _ _ H K=>R.ldE (K 68 _ O) (SC.sl (K 65 _ O)) (map_get! (l:=((allS l))[i]!.t.ins) bU) O O O O H,aU fun _ _ H K=>R.callPE hC (out15_ok (allS l) hsa i (plc (allS l)[i]!.t.ins[k]!) (by omega)) (EvP.cons (eU K 58 O) O O (EvP.cons (eU K 59 O) O O (EvP.cons (eU K 69 O) O O EvP.nil))) H,aU fun _ _ H K=>R.movT (K 70 _ O) O H,aU fun _ _ H K=>R.ext (K 57 _ O) O O H,aU fun _ _ H K=>R.ext (K 57 _ O) O O H,Zt⟩ O O O O (⟨O,_,R.alloc O (nU O),⟨O,_,R.stZ (gU 11 O) (xU 11 O) O (gV 71 O) (by rfl) (by rfl) (by rfl) (by rfl) O,⟨O,_,R.asg (gV 72 O) O (nU O),tV [(3,_),(5,_),(6,_),(7,_),(8,_),(10,_),(11,_),(12,_)] [(11,.var _),(3,.var _)] 98 O O O ?_⟩⟩⟩)
       by_cases hb3 : (orO (allS l)[i]!.t sc (allS l)[i]!.t.outs.length || orI (allS l) i sc k) = true
       · refine W.l0 10 [.y 73 _,.y 74 _,.x 75,.x 76,.x 77,.x 78,.x 79,.x 80,.y 81 _,.y 8 _] [] [] [(3,_),(5,_),(6,_),(7,_),(8,_),(10,_)] [(11,.var _),(3,.var _)] 98 ⟨mU 8 O O,mU 73 O O,aF O O (gT (hb3) O),aF O O (gT (hb3) O),⟨O,⟨_,76,O,O,.inr ⟨O,O⟩⟩,fun h=>absurd h dU⟩,⟨O,⟨_,76,O,O,.inr ⟨O,O⟩⟩,fun h=>absurd h dU⟩,⟨O,⟨_,76,O,O,.inr ⟨O,O⟩⟩,fun h=>absurd h dU⟩,aF O O (gT (hb3) O),aU fun _ _ H K=>R.pickT (eU K 74 O) (hb3) (kB true O) O H,aU fun _ _ H K=>R.asg (eU K 81 O) O H,Zt⟩ O O O O (tU O ?_)
         refine W.dropB [3] (bx':=[(3,.var _)]) O O O (pin_sub hD O) ?_
         refine W.l0 3 [.y 55 _,.y 56 _,.y 10 _] [] [] [(3,_),(5,_),(6,_),(7,_),(8,_),(10,_)] [(3,.var _)] 98 ⟨mU 10 O O,aU fun _ _ H K=>R.addN (k) (1) (eU K 55 O) (kI 1 O) bU H,aU fun _ _ H K=>R.asg (eU K 56 O) O H,Zt⟩ O O O O (tU O ?_)
         exact ⟨⟨(k + 1),bU⟩,(by first | (dsimp only; rw [or3_t hb3]) | (dsimp only; rw [or3_y (bfalse hb3) hb4]) | (dsimp only; rw [or3_n (bfalse hb3) (bfalse hb4)])),(by simp only []; omega)⟩
       · by_cases hb4 : (prvO (allS l) i (plc (allS l)[i]!.t.ins[k]!)).isSome = true
         · refine W.l0 10 [.y 73 _,.y 74 _,.y 75 _,.y 76 _,.y 77 _,.y 78 _,.y 79 _,.y 80 _,.y 81 _,.y 8 _] [] [] [(3,_),(5,_),(6,_),(7,_),(8,_),(10,_)] [(11,.var _),(3,.var _)] 98 ⟨mU 8 O O,mU 73 O O,aW O O (gF (bfalse hb3) O) fun _ _ H K=>R.mov (eU K 12 O) O H,aW O O (gF (bfalse hb3) O) fun _ _ H K=>R.mov (eU K 75 O) O H,aW O O (gT (hb4) O) (lU 11 O O O O O O O),aW O O (gT (hb4) O) (lU 3 O O O O O O O),aW O O (gT (hb4) O) fun _ _ H K=>R.callG hC (rpays15_ok ((prvO (allS l) i (plc (allS l)[i]!.t.ins[k]!)).getD (⟨0,[]⟩ : OutS)) sc (prvO_outD hsa (by omega))) (Bc (Bp (eU K 77 O) O O) (Bc (Bp (eU K 78 O) O O) Bn)) (FrsR.one (.bool _)) H,aW O O (gF (bfalse hb3) O) fun _ _ H K=>R.pickT (eU K 76 O) (hb4) (eU K 79 O) O H,aU fun _ _ H K=>R.pickF (eU K 74 O) (bfalse hb3) (eU K 80 O) O H,aU fun _ _ H K=>R.asg (eU K 81 O) O H,Zt⟩ O O O O (tU O ?_)
           refine W.dropB [3] (bx':=[(3,.var _)]) O O O (pin_sub hD O) ?_
           refine W.l0 3 [.y 55 _,.y 56 _,.y 10 _] [] [] [(3,_),(5,_),(6,_),(7,_),(8,_),(10,_)] [(3,.var _)] 98 ⟨mU 10 O O,aU fun _ _ H K=>R.addN (k) (1) (eU K 55 O) (kI 1 O) bU H,aU fun _ _ H K=>R.asg (eU K 56 O) O H,Zt⟩ O O O O (tU O ?_)
           exact ⟨⟨(k + 1),bU⟩,(by first | (dsimp only; rw [or3_t hb3]) | (dsimp only; rw [or3_y (bfalse hb3) hb4]) | (dsimp only; rw [or3_n (bfalse hb3) (bfalse hb4)])),(by simp only []; omega)⟩
         · refine W.l0 10 [.y 73 _,.y 74 _,.y 75 _,.y 76 _,.x 77,.x 78,.x 79,.y 80 _,.y 81 _,.y 8 _] [] [] [(3,_),(5,_),(6,_),(7,_),(8,_),(10,_)] [(11,.var _),(3,.var _)] 98 ⟨mU 8 O O,mU 73 O O,aW O O (gF (bfalse hb3) O) fun _ _ H K=>R.mov (eU K 12 O) O H,aW O O (gF (bfalse hb3) O) fun _ _ H K=>R.mov (eU K 75 O) O H,aF O O (gF (bfalse hb4) O),aF O O (gF (bfalse hb4) O),aF O O (gF (bfalse hb4) O),aW O O (gF (bfalse hb3) O) fun _ _ H K=>R.pickF (eU K 76 O) (bfalse hb4) (kB false O) O H,aU fun _ _ H K=>R.pickF (eU K 74 O) (bfalse hb3) (eU K 80 O) O H,aU fun _ _ H K=>R.asg (eU K 81 O) O H,Zt⟩ O O O O (tU O ?_)
           refine W.dropB [3] (bx':=[(3,.var _)]) O O O (pin_sub hD O) ?_
           refine W.l0 3 [.y 55 _,.y 56 _,.y 10 _] [] [] [(3,_),(5,_),(6,_),(7,_),(8,_),(10,_)] [(3,.var _)] 98 ⟨mU 10 O O,aU fun _ _ H K=>R.addN (k) (1) (eU K 55 O) (kI 1 O) bU H,aU fun _ _ H K=>R.asg (eU K 56 O) O H,Zt⟩ O O O O (tU O ?_)
           exact ⟨⟨(k + 1),bU⟩,(by first | (dsimp only; rw [or3_t hb3]) | (dsimp only; rw [or3_y (bfalse hb3) hb4]) | (dsimp only; rw [or3_n (bfalse hb3) (bfalse hb4)])),(by simp only []; omega)⟩
     · obtain rfl : k = (allS l)[i]!.t.ins.length:=by omega
       refine W.exit (W.seq ?_)
       refine W.l0 1 [.y 82 _] [] [] [(3,_),(5,_),(6,_),(7,_),(82,_)] [(3,.var _)] 98 ⟨mU 8 O O,Zt⟩ O O O O (tU O ?_)
       refine W.cond O (fun hc82=>?_) (fun hc82=>?_)
       · refine W.draw (m:=15) (an:=[0,0,0,6,14,30,0,0,192,448,960,2046,4094,8191,16383]) hP dU O (its:=[.y 83 _,.y 84 _,.y 85 _,.y 86 _,.y 87 _,.y 88 _,.y 89 _,.y 90 _,.y 91 _,.y 92 _,.y 93 _,.y 94 _,.y 95 _,.y 96 _,.y 6 _]) (ks:=[(13,6),(14,96),(14,83)]) (kk:=[(13,6),(14,96)]) (live:=[3,5,6,7]) (env':=[(3,_),(5,_),(6,_),(7,_)]) (⟨nU O,O,⟨aU fun _ _ H K=>R.al (K 6 _ O) H dU,mU 5 O O,mU 7 O O,aU fun _ _ H K=>R.idxN (i) (SC.sl (K 84 _ O)) (evoI (eU K 85 O)) O bU H dU,aU fun _ _ H K=>R.fdE (K 86 _ O) H dU,aU fun _ _ H K=>R.ldE (K 87 _ O) (SC.sl (K 84 _ O)) (map_get! (l:=(allS l)) bU) O O O O H,mU 5 O O,mU 7 O O,aU fun _ _ H K=>R.idxN (i) (SC.sl (K 89 _ O)) (evoI (eU K 90 O)) O bU H dU,aU fun _ _ H K=>R.fdE (K 91 _ O) H dU,aU fun _ _ H K=>R.ldE (K 92 _ O) (SC.sl (K 89 _ O)) (map_get! (l:=(allS l)) bU) O O O O H,aU fun _ _ H K=>R.bldSE (l:=[.int 0,.arr 32 1 ((List.replicate 32 0).map D.u8)]) (l':=[_,_]) (.cons (eU K 88 O) (.cons (eU K 93 O) (.nil O))) ⟨⟨_,(eU K 88 O),O,O,O⟩,⟨⟨_,(eU K 93 O),O,O,szH O⟩,Zt⟩⟩ H,aU fun _ _ H K=>R.bslE (z:=33) (.cons (eU K 94 O) .nil) ⟨⟨O,O,O⟩,Zt⟩ O H dU,aU fun _ _ H K=>R.appE (Or.inr (K 83 _ O)) (K 6 _ O) (SrcO.sc (SC.sl (K 95 _ O)) (pur_lit O)) (show _ = ((hstI (allS l) sc (i + 1)).map enD) from (hstI_app hc82)) (by simp only [List.length_map,List.length_cons,List.length_nil]; omega) H dU dU,aU fun _ _ H K=>R.asgO (K 96 _ O) O H dU,Zt⟩,O,O,O⟩) O (bx':=[(3,.var _)]) O (n':=98) O (tV [(3,_),(5,_),(6,_),(7,_)] [(3,.var _)] 98 O O O ?_)
         refine W.l0 3 [.y 19 _,.y 20 _,.y 7 _] [] [] [(3,_),(5,_),(6,_),(7,_)] [(3,.var _)] 98 ⟨mU 7 O O,aU fun _ _ H K=>R.addN (i) (1) (eU K 19 O) (kI 1 O) bU H,aU fun _ _ H K=>R.asg (eU K 20 O) O H,Zt⟩ O O O O (tU O ?_)
         exact ⟨⟨(i + 1),bU⟩,(by first | (dsimp only; rw [hstI_f hc82]) | rfl),(by simp only []; omega)⟩
       · refine W.skip ?_
         refine W.l0 3 [.y 19 _,.y 20 _,.y 7 _] [] [] [(3,_),(5,_),(6,_),(7,_)] [(3,.var _)] 98 ⟨mU 7 O O,aU fun _ _ H K=>R.addN (i) (1) (eU K 19 O) (kI 1 O) bU H,aU fun _ _ H K=>R.asg (eU K 20 O) O H,Zt⟩ O O O O (tU O ?_)
         exact ⟨⟨(i + 1),bU⟩,(by first | (dsimp only; rw [hstI_f hc82]) | rfl),(by simp only []; omega)⟩
 · obtain rfl : i = (allS l).length:=by omega
   refine W.exit (W.seq ?_)
   refine W.l0 2 [.y 97 _,.y 4 _] [(0,6),(1,97)] [(0,6),(1,97)] [(4,_)] [(3,.var _)] 98 ⟨aU fun _ _ H K=>R.movO (K 6 _ O) O H dU,aU fun _ _ H K=>R.asgO (K 97 _ O) O H dU,Zt⟩ O O O O (tU O ?_)
   refine W.ret ?_
   exact Ends.one' (.inr O) O (O) O O Zt
end Go.Sx

namespace Go.Sx
section
variable {α : Type} [Inhabited α] [BEq α] [LawfulBEq α] {a b : List α}
omit [Inhabited α] in
theorem lists_len (h : a.length ≠ b.length) : (a == b) = false:=by
 rw [beq_eq_false_iff_ne]
 intro e
 exact h (by rw [e])
theorem lists_ne {i : Nat} (hi : i < a.length) (hl : a.length = b.length) (h : (a[i]! == b[i]!) = false) : (a == b) = false:=by
 rw [beq_eq_false_iff_ne]
 intro e
 rw [beq_eq_false_iff_ne] at h
 exact h (by rw [e])
theorem lists_eq (hl : a.length = b.length) (h : ∀ q < a.length,a[q]! = b[q]!) : (a == b) = true:=by
 rw [beq_iff_eq]
 refine List.ext_getElem hl fun i h1 h2=>?_
 have:=h i h1
 rwa [getElem!_pos a i h1,getElem!_pos b i h2] at this
end
end Go.Sx

namespace Go.Sx
def fewP (p : PvS) : Prop:=p.t.ins.length <= 8 /\ p.t.outs.length <= 8 /\ ∀ j < p.t.outs.length,p.t.outs[j]!.script.length <= 200
instance (p : PvS) : Decidable (fewP p):=by unfold fewP; infer_instance
def fewS (l : List PvS) : Bool:=decide (l.length <= 40 /\ ∀ i < l.length,fewP l[i]!)
theorem few_1 {l : List PvS} (h : 40 < l.length) : fewS l = false:=decide_eq_false fun h2=>by have:=h2.1; omega
theorem few_2 {l : List PvS} {i : Nat} (hi : i < l.length) (h : ¬ fewP l[i]!) : fewS l = false:=decide_eq_false fun h2=>h (h2.2 i hi)
theorem few_3 {l : List PvS} (h : ¬ 40 < l.length) (h2 : ∀ i < l.length,fewP l[i]!) : fewS l = true:=decide_eq_true ⟨by omega,h2⟩
def idP (l : List PvS) : Prop:=∀ p ∈ l,p.id.length = 32
theorem few_pv {l : List PvS} (h : fewS l = true) (hid : idP l) : allPv l:=by
 have h:=of_decide_eq_true h
 refine ⟨Nat.le_trans h.1 (by decide),fun p hp=>?_⟩
 obtain ⟨i,hi,rfl⟩:=List.mem_iff_getElem.1 hp
 have h2:=h.2 i hi
 rw [getElem!_pos l i hi] at h2
 refine ⟨hid _ hp,Nat.le_trans h2.1 (by decide),Nat.le_trans h2.2.1 (by decide),fun o ho=>?_⟩
 obtain ⟨j,hj,rfl⟩:=List.mem_iff_getElem.1 ho
 have h3:=h2.2.2 j hj
 rw [getElem!_pos _ j hj] at h3
 exact Nat.le_trans h3 (by decide)
theorem pv_drop {l : List PvS} (h : allPv l) (k : Nat) : allPv (l.drop k):=⟨by have:=h.1; rw [List.length_drop]; omega,fun p hp=>h.2 p (List.mem_of_mem_drop hp)⟩
def pvL (l : List PvS) : D:=.sl none 72 (l.map pvD)
def pvTwo (a b : List PvS) : List (List PvS):=[a,b]
theorem pvTwo_all {a b : List PvS} (ha : allPv a) (hb : allPv b) {i : Nat} (hi : i < (pvTwo a b).length) : allPv (pvTwo a b)[i]!:=by
 have hi : i < 2:=hi
 match i,hi with
 | 0,_=>exact ha
 | 1,_=>exact hb
def scK (sc : Hs) (fr : UInt8) (ks : List UInt8) (j : Nat) : List Hs:=[sc,sumK (fr % 12)] ++ (ks.take j).map fun k=>sumK (k % 12)
theorem scK_app {sc : Hs} {fr : UInt8} {ks : List UInt8} {j : Nat} (h : j < ks.length) : (scK sc fr ks j).map hashD ++ [hashD (sumK (ks[j]! % 12))] = (scK sc fr ks (j + 1)).map hashD:=by
 unfold scK
 rw [List.map_append,List.append_assoc,List.map_append,List.map_map,List.map_map,<- take_app (f:=hashD ∘ fun k=>sumK (k % 12)) h]
 rfl
theorem scK_len (sc : Hs) (fr : UInt8) (ks : List UInt8) (j : Nat) : (scK sc fr ks j).length <= ks.length + 2:=by
 unfold scK
 rw [List.length_append,List.length_map,List.length_take]
 simp only [List.length_cons,List.length_nil]
 omega
theorem hvS_len {l : List PvS} (h : allPv l) (sc : Hs) : (hvS l sc).length <= 1000000000:=by
 have:=hvI_len l sc l.length
 have:=h.1
 show (hvI l sc l.length).length <= _
 omega
theorem hrS_len {l : List PvS} (h : allPv l) (sc : Hs) : (hrS l sc).length <= 1000000000:=by rw [<- hvS_eq h]; exact hvS_len h sc
theorem uvS_len {l : List PvS} (h : allPv l) (sc : Hs) : (uvS l sc).length <= 1000000000:=by
 have:=uvI_len (spI l l.length) h sc l.length (Nat.le_refl _)
 have:=h.1
 show (uvI (spI l l.length) l sc l.length).length <= _
 omega
theorem urS_len {l : List PvS} (h : allPv l) (sc : Hs) : (urS l sc).length <= 1000000000:=by rw [<- uvS_eq]; exact uvS_len h sc
theorem ne_hv {l : List PvS} (h : allPv l) (sc : Hs) : (!(hvS l sc == hrS l sc)) = false:=by rw [hvS_eq h,beq_self_eq_true]; rfl
theorem ne_uv (l : List PvS) (sc : Hs) : (!(uvS l sc == urS l sc)) = false:=by rw [uvS_eq,beq_self_eq_true]; rfl
theorem ne_bl (l : List PvS) (sc : Hs) : blS (uvS l sc) = blS (urS l sc):=by rw [uvS_eq]
def mdS (ps : List PlS) (ks : List UInt8) (fr : UInt8) : List PvS:=((touS (blkS ps) ks).map pvO).drop (fr.toNat % (((touS (blkS ps) ks).map pvO).length + 1))
theorem mdS_all (ps : List PlS) (ks : List UInt8) (fr : UInt8) : allPv (mdS ps ks fr):=pv_drop (tou_pv (blkS_all ps).1 ks) _
end Go.Sx

namespace Go.Sx
def wkPs : List PlS:=[wkP1,wkP2]
theorem wkPs_ok : allPl wkPs:=fun x hx s hs=>by
 rcases List.mem_cons.1 hx with rfl | hx
 · cases hs
 · rw [List.mem_singleton.1 hx] at hs
   rw [List.mem_singleton.1 hs]
   exact (by decide : 1 <= 140737488355328)
def spOwn (s : SpS) : D:=.agg [.u8 s.from_,.bool s.two,.sl (some 5) 1 (s.to.map .u8),.u8 s.part,.u8 s.extra]
def plOwn (x : PlS) : D:=.agg [.u8 x.pays,.sl (some 86) 5 (x.spends.map spOwn),.u8 x.step]
theorem brw_spOwn (s : SpS) : (spOwn s).brw = spD s:=by
 simp only [spOwn,spD,D.brw,brws_eq,List.map_cons,List.map_nil]
 rw [brw_map (fun _=>rfl)]
theorem brw_plOwn (x : PlS) : (plOwn x).brw = plD x:=by
 simp only [plOwn,plD,D.brw,brws_eq,List.map_cons,List.map_nil]
 rw [brw_mapO brw_spOwn]
theorem brw_plans (l : List PlS) : (D.sl (some 77) 3 (l.map plOwn)).brw = .sl none 3 (l.map plD):=by
 simp only [D.brw,brws_eq]
 rw [brw_mapO brw_plOwn]
theorem wk_plans : Wk (.sl (some 77) 3 [.agg [.u8 1,.nils,.u8 0],.agg [.u8 2,.sl (some 86) 5 [.agg [.u8 0,.bool false,.sl (some 5) 1 [.u8 1],.u8 0,.u8 0]],.u8 0]]) (.sl (some 77) 3 (wkPs.map plOwn)):=
 .slL (.cons (.aggL (.cons (.refl _) (.cons (.nils _ _) (.cons (.refl _) .nil)))) (.cons (.refl _) .nil))
theorem brw_one (e z : Nat) (x : UInt8) : (D.sl (some e) z [.u8 x]).brw = .sl none z ([x].map D.u8):=by simp [D.brw,D.brws]
end Go.Sx

namespace Go.Sx
theorem wk_bl : blkS wkPs = [wkB0,wkB1,wkB2]:=by
 have h1 : blkI wkPs 1 = [wkB0,wkB1]:=by
  show (if (growS [wkB0] wkP1 0).2 = true then [wkB0] ++ [(growS [wkB0] wkP1 0).1] else [wkB0]) = _
  rw [wk_g1]
  rfl
 show blkI wkPs 2 = _
 rw [blkI,h1]
 show (if (growS [wkB0,wkB1] wkP2 1).2 = true then [wkB0,wkB1] ++ [(growS [wkB0,wkB1] wkP2 1).1] else [wkB0,wkB1]) = _
 rw [wk_g2]
 rfl
def wkPv : List PvS:=wkL.map pvO
theorem wk_made : (touS (blkS wkPs) [1]).map pvO = wkPv:=by rw [wk_bl,wk_tou]; rfl
theorem wk_len : ((touS (blkS wkPs) [1]).map pvO).length = 2:=by rw [wk_made]; rfl
theorem wk_sum : sumK 1 = wkS1:=by
 unfold sumK
 rw [wk_k1,wk_s1]
theorem wk_pvAll : allPv wkPv:=by rw [<- wk_made]; exact tou_pv (blkS_all wkPs).1 [1]
theorem wk_hv : hvS wkPv wkS1 = [(1,wkId1),(2,wkId2)]:=by
 rw [hvS_eq wk_pvAll]
 kernel_rfl
theorem wk_uv : uvS wkPv wkS1 = [((wkId2,0),5000,2)]:=by
 rw [uvS_eq]
 kernel_rfl
theorem wk_hv1 : hvS (wkPv.drop 1) wkS1 = [(2,wkId2)]:=by
 rw [hvS_eq (pv_drop wk_pvAll 1)]
 kernel_rfl
theorem wk_h : (hvS ((touS (blkS wkPs) [1]).map pvO) (sumK 1)).length = 2:=by rw [wk_made,wk_sum,wk_hv]; rfl
theorem wk_u : (uvS ((touS (blkS wkPs) [1]).map pvO) (sumK 1)).length = 1:=by rw [wk_made,wk_sum,wk_uv]; rfl
theorem wk_b : blS (uvS ((touS (blkS wkPs) [1]).map pvO) (sumK 1)) = 5000:=by rw [wk_made,wk_sum,wk_uv]; rfl
theorem wk_h1 : (hvS (((touS (blkS wkPs) [1]).map pvO).drop 1) (sumK 1)).length = 1:=by rw [wk_made,wk_sum,wk_hv1]; rfl
end Go.Sx

namespace Go.Sx
open Go.Proofs
theorem blocks15_ok (ps : List PlS) (hps : allPl ps) : Fn Tryd.prog gl 9 [.agg [.u32 545259519,.int 10,.u32 10,.nils,hdrD easyH],.sl none 3 (ps.map plD)] (.sl none 69 ((blkS ps).map blkD)):=by
 refine Fn.of (n:=41) Tryd.func9 rfl rfl rfl (nU rfl) fun C hC hD=>?_
 refine W.seq ?_
 refine W.l0 2 [] [] [] [(0,_),(1,_)] [] 41 Zt O O O O (⟨O,_,R.box (gV 0 O) O O (nU O),⟨O,_,R.asg (kN O) O (nU O),tV [(1,_),(2,_)] [(2,.var _)] 41 O O O ?_⟩⟩)
 refine W.seq ?_
 refine W.l0 5 [.y 9 _,.y 10 _,.y 11 _,.y 12 _,.y 5 _] [(4,12)] [(4,12)] [(1,_),(2,_),(5,_)] [(2,.var _)] 41 ⟨aU (fU 2 O O),aU (lU 9 O O O O O O O),aU fun _ _ H K=>R.bldSE (l:=[.agg [.u32 0,.arr 32 1 ((List.replicate 32 0).map D.u8),.arr 32 1 ((List.replicate 32 0).map D.u8),.u32 0,.u32 0,.u32 0],.nils]) (l':=[_,_]) (.cons (eU K 10 O) (.nil O)) ⟨⟨_,(eU K 10 O),O,O,O⟩,Zt⟩ H,aU fun _ _ H K=>R.bslE (z:=69) (.cons (eU K 11 O) .nil) ⟨⟨O,O,O⟩,Zt⟩ O H dU,aU fun _ _ H K=>R.asgO (K 12 _ O) O H dU,Zt⟩ O O O O (tU O ?_)
 refine W.seq (W.seq ?_)
 refine W.wkS (s:=5) (d':=.sl (some 72) 69 ([(⟨easyH,[]⟩ : BlkS)].map blkD)) O O O (wk_blk0 _) ?_
 refine W.l0 1 [.y 6 _] [] [] [(1,_),(2,_),(5,_),(6,_)] [(2,.var _)] 41 ⟨aU fun _ _ H _=>R.asg (kI 0 O) O H,Zt⟩ O O O O (tU O ?_)
 refine W.block ?_
 refine W.loop (α:={q__ : Nat // q__ <= min ps.length 14}) (fun q__=>⟨41,[(1,.sl none 3 (ps.map plD)),(2,.ptr 2 0 []),(5,.sl (some 72) 69 ((blkI ps q__.1).map blkD)),(6,.int ((q__.1 : Nat) : Int))],[(2,.var (.agg [.u32 545259519,.int 10,.u32 10,.nils,hdrD easyH]))]⟩) (fun q__=>min ps.length 14 - q__.1) ⟨(0),bU⟩ O ?_
 rintro ⟨i,hi⟩
 show W _ _ _ _ ⟨41,[(1,.sl none 3 (ps.map plD)),(2,.ptr 2 0 []),(5,.sl (some 72) 69 ((blkI ps i).map blkD)),(6,.int ((i : Nat) : Int))],[(2,.var (.agg [.u32 545259519,.int 10,.u32 10,.nils,hdrD easyH]))]⟩
 have hi : i <= min ps.length 14:=hi
 have hbl:=blkI_all ps i (by omega)
 refine W.seq (W.seq ?_)
 by_cases h4 : i < ps.length
 · refine W.l0 8 [.y 13 _,.y 14 _,.y 15 _,.y 16 _,.y 17 _,.y 18 _,.y 19 _,.y 20 _] [] [] [(1,_),(2,_),(5,_),(6,_),(20,_)] [(2,.var _)] 41 ⟨mU 6 O O,mU 1 O O,aU fun _ _ H K=>R.lenE (SC.sl (K 14 _ O)) (lN _) H,aU fun _ _ H K=>R.lssN (i) (ps.length) (eU K 13 O) (eU K 15 O) H,mU 16 O O,aW O O (gT (dT h4) O) fun _ _ H K=>R.mov (eU K 6 O) O H,aW O O (gT (dT h4) O) fun _ _ H K=>R.lssN (i) (14) (eU K 18 O) (kI 14 O) H,aU fun _ _ H K=>R.pickT (eU K 17 O) (dT h4) (eU K 19 O) O H,Zt⟩ O O O O (tU O ?_)
   refine W.condD O (fun hc20=>?_) (fun hc20=>?_)
   · refine W.skip (W.seq (W.block (W.seq ?_)))
     refine W.drawE (m:=14) (an:=[0,0,0,0,12,28,0,64,255,511,1023,1023,0,6143,16383]) (its:=[.y 24 _,.y 25 _,.y 26 _,.y 27 _,.y 28 _,.y 29 _,.y 30 _,.y 31 _,.y 32 _,.y 23 _,.y 33 _,.y 34 _,.y 7 _,⟨54,.dead,true⟩]) (ks:=[(13,54)]) (kk:=[]) (efs:=[(12,[(7,.var _)]),(13,[(7,.var _)])]) (live:=[1,2,5,6,7,34]) (env':=[(1,_),(2,_),(5,_),(6,_),(7,_),(34,_)]) (nd:=40) (bx1:=[(7,.var _),(2,.var _)]) hP dU O ⟨⟨61,O⟩,nU O,O,O,O,O⟩ (          ⟨⟨O,nU O,O,fun _ τ hb ht hτ=>R.ldP (hτ 2 _ O) (hb 2 _ O) O O O O ht⟩,⟨⟨O,nU O,O,fun _ τ hb ht hτ=>R.al (hτ 5 _ O) ht dU⟩,⟨⟨O,nU O,O,fun _ τ hb ht hτ=>R.mov (evt (hτ 1 _ O)) O ht⟩,⟨⟨O,nU O,O,fun _ τ hb ht hτ=>R.mov (evt (hτ 6 _ O)) O ht⟩,⟨⟨O,nU O,O,fun _ τ hb ht hτ=>R.idxN (i) (SC.sl (hτ 26 _ O)) (evoI (evt (hτ 27 _ O))) O bU ht dU⟩,⟨⟨O,nU O,O,fun _ τ hb ht hτ=>R.ldE (hτ 28 _ O) (SC.sl (hτ 26 _ O)) (map_get! (l:=ps) bU) O O O O ht⟩,⟨⟨O,nU O,O,fun _ τ hb ht hτ=>R.mov (evt (hτ 6 _ O)) O ht⟩,⟨⟨O,nU O,O,fun _ τ hb ht hτ=>R.convE (d:=.u32 (UInt32.ofNat i)) (evt (hτ 30 _ O)) O (u32_int _) ht⟩,⟨⟨O,nU O,O,fun _ τ hb ht hτ=>R.callZ (r':=.tup [blkD (growS (blkI ps i) ps[i]! (UInt32.ofNat i)).1,.bool (growS (blkI ps i) ps[i]! (UInt32.ofNat i)).2]) (grow15_ok (blkI ps i) ps[i]! (UInt32.ofNat i) hbl.1 hbl.2.1 (by omega) (hps _ (get_mem h4))) hC (Bc (Bp (evt (hτ 24 _ O)) O O) (Bc (Bor.sc (SC.al (hτ 25 _ O) (hτ 5 _ O)) (brw_map brw_blkK)) (Bc (Bp (evt (hτ 29 _ O)) O O) (Bc (Bp (evt (hτ 31 _ O)) O O) Bn)))) (frs_grow _ _) (brw_grow _ _) ht⟩,⟨⟨O,nU O,O,fun _ τ hb ht hτ=>R.movT (hτ 32 _ O) O ht⟩,⟨⟨O,nU O,O,fun _ τ hb ht hτ=>R.ext (hτ 23 _ O) O O ht⟩,⟨⟨O,nU O,O,fun _ τ hb ht hτ=>R.ext (hτ 23 _ O) O O ht⟩,⟨⟨O,O,⟨O,nU O⟩,(SpE.alloc O (nU O))⟩,⟨⟨O,O,O,(SpE.st (p:=7) (id:=7) O O O (fun τ hτ=>(evt (hτ 33 _ O))) (by rfl) (by rfl) (by rfl) (by rfl) O)⟩,Zt⟩⟩⟩⟩⟩⟩⟩⟩⟩⟩⟩⟩⟩⟩) O O O (n':=41) O (⟨O,_,R.asg (gV 34 O) O (nU O),⟨[1,2,5,6,7,8],[(1,_),(2,_),(5,_),(6,_),(7,_),(8,_)],[(7,.var _),(2,.var _)],41,O,O,O, ?_⟩⟩)
     refine W.seq ?_
     refine W.l0 1 [.y 35 _] [] [] [(1,_),(2,_),(5,_),(6,_),(7,_),(35,_)] [(7,.var _),(2,.var _)] 41 ⟨mU 8 O O,Zt⟩ O O O O (tU O ?_)
     refine W.cond O (fun hc35=>?_) (fun hc35=>?_)
     · refine W.l0 5 [.y 36 _,.y 37 _,.y 38 _,.y 39 _,.y 5 _] [(3,5),(4,39),(4,36)] [(3,5),(4,39)] [(1,_),(2,_),(5,_),(6,_)] [(7,.var _),(2,.var _)] 41 ⟨aU fun _ _ H K=>R.al (K 5 _ O) H dU,aU (lU 7 O O O O O O O),aU fun _ _ H K=>R.bslE (z:=69) (.cons (eU K 37 O) .nil) ⟨⟨O,O,O⟩,Zt⟩ O H dU,aU fun _ _ H K=>R.appE (Or.inr (K 36 _ O)) (K 5 _ O) (SrcO.sc (SC.sl (K 38 _ O)) (pur_lit O)) (show _ = ((blkI ps (i + 1)).map blkD) from (blkI_app hc35)) (by simp only [List.length_map,List.length_cons,List.length_nil]; omega) H dU dU,aU fun _ _ H K=>R.asgO (K 39 _ O) O H dU,Zt⟩ O O O O (tU O ?_)
       refine W.dropB [2] (bx':=[(2,.var _)]) O O O (pin_sub hD O) ?_
       refine W.l0 3 [.y 21 _,.y 22 _,.y 6 _] [] [] [(1,_),(2,_),(5,_),(6,_)] [(2,.var _)] 41 ⟨mU 6 O O,aU fun _ _ H K=>R.addN (i) (1) (eU K 21 O) (kI 1 O) bU H,aU fun _ _ H K=>R.asg (eU K 22 O) O H,Zt⟩ O O O O (tU O ?_)
       exact ⟨⟨(i + 1),bU⟩,(by first | (dsimp only; rw [blkI_n hc35]) | rfl),(by show min ps.length 14 - (i + 1) < min ps.length 14 - i; omega)⟩
     · refine W.skip ?_
       refine W.dropS (live:=[1,2,5,6]) (env':=[(1,_),(2,_),(5,_),(6,_)]) (bx':=[(7,.var _),(2,.var _)]) (n':=41) O O O ?_
       refine W.dropB [2] (bx':=[(2,.var _)]) O O O (pin_sub hD O) ?_
       refine W.l0 3 [.y 21 _,.y 22 _,.y 6 _] [] [] [(1,_),(2,_),(5,_),(6,_)] [(2,.var _)] 41 ⟨mU 6 O O,aU fun _ _ H K=>R.addN (i) (1) (eU K 21 O) (kI 1 O) bU H,aU fun _ _ H K=>R.asg (eU K 22 O) O H,Zt⟩ O O O O (tU O ?_)
       exact ⟨⟨(i + 1),bU⟩,(by first | (dsimp only; rw [blkI_n hc35]) | rfl),(by show min ps.length 14 - (i + 1) < min ps.length 14 - i; omega)⟩
   · obtain rfl : i = min ps.length 14:=by omega
     refine W.exit (W.seq ?_)
     refine W.l0 2 [.y 40 _,.y 4 _] [(0,5),(1,40)] [(0,5),(1,40)] [(4,_)] [(2,.var _)] 41 ⟨aU fun _ _ H K=>R.movO (K 5 _ O) O H dU,aU fun _ _ H K=>R.asgO (K 40 _ O) O H dU,Zt⟩ O O O O (tU O ?_)
     refine W.frzS (s:=4) (d':=.sl none 69 ((blkS ps).map blkD)) O O (brw_blks _ _ _) ?_
     refine W.ret ?_
     exact Ends.one' (.inr O) O (O) O O Zt
 · refine W.l0 8 [.y 13 _,.y 14 _,.y 15 _,.y 16 _,.y 17 _,.x 18,.x 19,.y 20 _] [] [] [(1,_),(2,_),(5,_),(6,_),(20,_)] [(2,.var _)] 41 ⟨mU 6 O O,mU 1 O O,aU fun _ _ H K=>R.lenE (SC.sl (K 14 _ O)) (lN _) H,aU fun _ _ H K=>R.lssN (i) (ps.length) (eU K 13 O) (eU K 15 O) H,mU 16 O O,aF O O (gF (dF h4) O),aF O O (gF (dF h4) O),aU fun _ _ H K=>R.pickF (eU K 17 O) (dF h4) (kB false O) O H,Zt⟩ O O O O (tU O ?_)
   refine W.condF O (O) ?_
   obtain rfl : i = min ps.length 14:=by omega
   refine W.exit (W.seq ?_)
   refine W.l0 2 [.y 40 _,.y 4 _] [(0,5),(1,40)] [(0,5),(1,40)] [(4,_)] [(2,.var _)] 41 ⟨aU fun _ _ H K=>R.movO (K 5 _ O) O H dU,aU fun _ _ H K=>R.asgO (K 40 _ O) O H dU,Zt⟩ O O O O (tU O ?_)
   refine W.frzS (s:=4) (d':=.sl none 69 ((blkS ps).map blkD)) O O (brw_blks _ _ _) ?_
   refine W.ret ?_
   exact Ends.one' (.inr O) O (O) O O Zt
end Go.Sx

namespace Go.Sx
open Go.Proofs
theorem tou25_ok (l : List BlkS) (hl : allBl l) (ks : List UInt8) (hks : ks.length <= 1000000000) : Fn Tryd.prog gl 8 [.sl none 69 (l.map blkD),.sl none 1 (ks.map D.u8)] (.sl none 72 (((touS l ks).map pvO).map pvD)):=by
 refine Fn.of (n:=84) Tryd.func8 rfl rfl rfl (nU rfl) fun C hC hD=>?_
 have hsa:=allS_wf hl
 have hal:=hsa.1
 refine W.seq ?_
 refine W.l0 1 [.y 4 _] [] [] [(0,_),(1,_)] [] 84 ⟨aU fun _ _ H _=>R.asg (kN O) O H,Zt⟩ O O O O (tU O ?_)
 refine W.seq ?_
 refine W.l0 3 [.y 12 _,.y 13 _,.y 5 _] [(2,13)] [(2,13)] [(0,_),(1,_),(5,_)] [] 84 ⟨mU 0 O O,aU fun _ _ H K=>R.callPE hC (all15_ok l hl) (EvP.cons (eU K 12 O) O O EvP.nil) H,aU fun _ _ H K=>R.asgO (K 13 _ O) O H dU,Zt⟩ O O O O (tU O ?_)
 refine W.seq ?_
 refine W.frzS (s:=5) (d':=.sl none 38 ((allS l).map stsD)) O O (brw_sts _ _ _) ?_
 refine W.l0 1 [.y 6 _] [] [] [(0,_),(1,_),(5,_),(6,_)] [] 84 ⟨aU fun _ _ H _=>R.asg (kN O) O H,Zt⟩ O O O O (tU O ?_)
 refine W.seq (W.seq ?_)
 refine W.l0 1 [.y 7 _] [] [] [(0,_),(1,_),(5,_),(6,_),(7,_)] [] 84 ⟨aU fun _ _ H _=>R.asg (kI 0 O) O H,Zt⟩ O O O O (tU O ?_)
 refine W.block ?_
 refine W.asOwn (s:=6) 56 72 O ?_
 refine W.loop (α:={q__ : Nat // q__ <= (allS l).length}) (fun q__=>⟨84,[(0,.sl none 69 (l.map blkD)),(1,.sl none 1 (ks.map D.u8)),(5,.sl none 38 ((allS l).map stsD)),(6,.sl (some 56) 72 ((touI l ks q__.1).map pvN)),(7,.int ((q__.1 : Nat) : Int))],[]⟩) (fun q__=>(allS l).length - q__.1) ⟨(0),bU⟩ O ?_
 rintro ⟨i,hi⟩
 show W _ _ _ _ ⟨84,[(0,.sl none 69 (l.map blkD)),(1,.sl none 1 (ks.map D.u8)),(5,.sl none 38 ((allS l).map stsD)),(6,.sl (some 56) 72 ((touI l ks i).map pvN)),(7,.int ((i : Nat) : Int))],[]⟩
 have hi : i <= (allS l).length:=hi
 have htl:=touI_len l ks i
 refine W.seq (W.seq ?_)
 refine W.l0 4 [.y 14 _,.y 15 _,.y 16 _,.y 17 _] [] [] [(0,_),(1,_),(5,_),(6,_),(7,_),(17,_)] [] 84 ⟨mU 7 O O,mU 5 O O,aU fun _ _ H K=>R.lenE (SC.sl (K 15 _ O)) (lN _) H,aU fun _ _ H K=>R.lssN (i) ((allS l).length) (eU K 14 O) (eU K 16 O) H,Zt⟩ O O O O (tU O ?_)
 refine W.condD O (fun hc17=>?_) (fun hc17=>?_)
 · refine W.skip (W.seq (W.block (W.seq ?_)))
   refine W.l0 1 [.y 8 _] [] [] [(0,_),(1,_),(5,_),(6,_),(7,_),(8,_)] [] 84 ⟨aU fun _ _ H _=>R.asg (kB false O) O H,Zt⟩ O O O O (tU O ?_)
   refine W.seq (W.seq ?_)
   refine W.l0 1 [.y 9 _] [] [] [(0,_),(1,_),(5,_),(6,_),(7,_),(8,_),(9,_)] [] 84 ⟨aU fun _ _ H _=>R.asg (kI 0 O) O H,Zt⟩ O O O O (tU O ?_)
   refine W.block ?_
   refine W.loop (α:={q__ : Nat // q__ <= ks.length}) (fun q__=>⟨84,[(0,.sl none 69 (l.map blkD)),(1,.sl none 1 (ks.map D.u8)),(5,.sl none 38 ((allS l).map stsD)),(6,.sl (some 56) 72 ((touI l ks i).map pvN)),(7,.int ((i : Nat) : Int)),(8,.bool (kyT l ks (allS l)[i]!.id q__.1)),(9,.int ((q__.1 : Nat) : Int))],[]⟩) (fun q__=>ks.length - q__.1) ⟨(0),bU⟩ O ?_
   rintro ⟨k,hk⟩
   show W _ _ _ _ ⟨84,[(0,.sl none 69 (l.map blkD)),(1,.sl none 1 (ks.map D.u8)),(5,.sl none 38 ((allS l).map stsD)),(6,.sl (some 56) 72 ((touI l ks i).map pvN)),(7,.int ((i : Nat) : Int)),(8,.bool (kyT l ks (allS l)[i]!.id k)),(9,.int ((k : Nat) : Int))],[]⟩
   have hk : k <= ks.length:=hk
   refine W.seq (W.seq ?_)
   by_cases h5 : k < ks.length
   · refine W.l0 8 [.y 20 _,.y 21 _,.y 22 _,.y 23 _,.y 24 _,.y 25 _,.y 26 _,.y 27 _] [] [] [(0,_),(1,_),(5,_),(6,_),(7,_),(8,_),(9,_),(27,_)] [] 84 ⟨mU 9 O O,mU 1 O O,aU fun _ _ H K=>R.lenE (SC.sl (K 21 _ O)) (lN _) H,aU fun _ _ H K=>R.lssN (k) (ks.length) (eU K 20 O) (eU K 22 O) H,mU 23 O O,aW O O (gT (dT h5) O) fun _ _ H K=>R.mov (eU K 8 O) O H,aW O O (gT (dT h5) O) fun _ _ H K=>R.un (eU K 25 O) O H,aU fun _ _ H K=>R.pickT (eU K 24 O) (dT h5) (eU K 26 O) O H,Zt⟩ O O O O (tU O ?_)
     refine W.cond O (fun hc27=>?_) (fun hc27=>?_)
     · refine W.skip (W.seq (W.block (W.seq ?_)))
       refine W.l0 9 [.y 30 _,.y 31 _,.y 32 _,.y 33 _,.y 34 _,.y 35 _,.y 36 _,.y 37 _,.y 10 _] [(8,37)] [(8,37)] [(0,_),(1,_),(5,_),(6,_),(7,_),(8,_),(9,_),(10,_)] [] 84 ⟨mU 0 O O,mU 1 O O,mU 9 O O,aU fun _ _ H K=>R.idxN (k) (SC.sl (K 31 _ O)) (evoI (eU K 32 O)) O bU H dU,aU fun _ _ H K=>R.ldE (K 33 _ O) (SC.sl (K 31 _ O)) (map_get! (l:=ks) bU) O O O O H,aU fun _ _ H K=>R.bin (eU K 34 O) (show ev _ _ (.const (.int .u8 12)) = some (.u8 12) from O) O dU H,aU fun _ _ H K=>R.callG hC (sum15_ok (ks[k]! % 12)) (Bc (Bp (eU K 35 O) O O) Bn) (FrsR.one (frs_hash' _)) H,aU fun _ _ H K=>R.callG hC (hist15_ok l hl (sumK (ks[k]! % 12))) (Bc (Bp (eU K 30 O) O O) (Bc (Bp (eU K 36 O) O O) Bn)) (frs_ens _ _ _) H,aU fun _ _ H K=>R.asgO (K 37 _ O) O H dU,Zt⟩ O O O O (tU O ?_)
       refine W.seq ?_
       refine W.l0 1 [.y 11 _] [] [] [(0,_),(1,_),(5,_),(6,_),(7,_),(8,_),(9,_),(10,_),(11,_)] [] 84 ⟨aU fun _ _ H _=>R.asg (kI 0 O) O H,Zt⟩ O O O O (tU O ?_)
       refine W.block ?_
       refine W.loop (α:={q__ : Nat // q__ <= (histS l (sumK (ks[k]! % 12))).length}) (fun q__=>⟨84,[(0,.sl none 69 (l.map blkD)),(1,.sl none 1 (ks.map D.u8)),(5,.sl none 38 ((allS l).map stsD)),(6,.sl (some 56) 72 ((touI l ks i).map pvN)),(7,.int ((i : Nat) : Int)),(8,.bool ((kyT l ks (allS l)[i]!.id k) || hasT (histS l (sumK (ks[k]! % 12))) (allS l)[i]!.id q__.1)),(9,.int ((k : Nat) : Int)),(10,.sl (some 58) 33 ((histS l (sumK (ks[k]! % 12))).map enD)),(11,.int ((q__.1 : Nat) : Int))],[]⟩) (fun q__=>(histS l (sumK (ks[k]! % 12))).length - q__.1) ⟨(0),bU⟩ (by rw [hasT_0,Bool.or_false] <;> rfl) ?_
       rintro ⟨j,hj⟩
       show W _ _ _ _ ⟨84,[(0,.sl none 69 (l.map blkD)),(1,.sl none 1 (ks.map D.u8)),(5,.sl none 38 ((allS l).map stsD)),(6,.sl (some 56) 72 ((touI l ks i).map pvN)),(7,.int ((i : Nat) : Int)),(8,.bool ((kyT l ks (allS l)[i]!.id k) || hasT (histS l (sumK (ks[k]! % 12))) (allS l)[i]!.id j)),(9,.int ((k : Nat) : Int)),(10,.sl (some 58) 33 ((histS l (sumK (ks[k]! % 12))).map enD)),(11,.int ((j : Nat) : Int))],[]⟩
       have hj : j <= (histS l (sumK (ks[k]! % 12))).length:=hj
       have hhl:=hstI_len (allS l) (sumK (ks[k]! % 12)) (allS l).length
       have hhl : (histS l (sumK (ks[k]! % 12))).length <= (allS l).length:=hhl
       refine W.seq (W.seq ?_)
       refine W.l0 4 [.y 38 _,.y 39 _,.y 40 _,.y 41 _] [] [] [(0,_),(1,_),(5,_),(6,_),(7,_),(8,_),(9,_),(10,_),(11,_),(41,_)] [] 84 ⟨mU 11 O O,aU fun _ _ H K=>R.al (K 10 _ O) H dU,aU fun _ _ H K=>R.lenE (SC.al (K 39 _ O) (K 10 _ O)) (lN _) H,aU fun _ _ H K=>R.lssN (j) ((histS l (sumK (ks[k]! % 12))).length) (eU K 38 O) (eU K 40 O) H,Zt⟩ O O O O (tU O ?_)
       refine W.condD O (fun hc41=>?_) (fun hc41=>?_)
       · refine W.skip (W.seq (W.block ?_))
         by_cases hbo : ((kyT l ks (allS l)[i]!.id k) || hasT (histS l (sumK (ks[k]! % 12))) (allS l)[i]!.id j) = true
         · refine W.draw (m:=15) (an:=[0,1,3,3,15,31,63,3,3,387,899,1923,4095,8191,16383]) hP dU O (its:=[.y 44 _,.y 45 _,.x 46,.x 47,.x 48,.x 49,.x 50,.x 51,.x 52,.x 53,.x 54,.x 55,.x 56,.y 57 _,.y 8 _]) (ks:=[]) (kk:=[]) (live:=[0,1,5,6,7,8,9,10,11]) (env':=[(0,_),(1,_),(5,_),(6,_),(7,_),(8,_),(9,_),(10,_),(11,_)]) (⟨nU O,O,⟨mU 8 O O,mU 44 O O,aF O O (gT (hbo) O),aF O O (gT (hbo) O),aF O O (gT (hbo) O),aF O O (gT (hbo) O),aF O O (gT (hbo) O),aF O O (gT (hbo) O),aF O O (gT (hbo) O),aF O O (gT (hbo) O),aF O O (gT (hbo) O),aF O O (gT (hbo) O),aF O O (gT (hbo) O),aU fun _ _ H K=>R.pickT (eU K 45 O) (hbo) (kB true O) O H,aU fun _ _ H K=>R.asg (eU K 57 O) O H,Zt⟩,O,O,O⟩) O (bx':=[]) O (n':=84) O (tV [(0,_),(1,_),(5,_),(6,_),(7,_),(8,_),(9,_),(10,_),(11,_)] [] 84 O O O ?_)
           refine W.l0 3 [.y 42 _,.y 43 _,.y 11 _] [] [] [(0,_),(1,_),(5,_),(6,_),(7,_),(8,_),(9,_),(10,_),(11,_)] [] 84 ⟨mU 11 O O,aU fun _ _ H K=>R.addN (j) (1) (eU K 42 O) (kI 1 O) bU H,aU fun _ _ H K=>R.asg (eU K 43 O) O H,Zt⟩ O O O O (tU O ?_)
           exact ⟨⟨(j + 1),bU⟩,(by first | (dsimp only; rw [hasT_t hbo]) | (dsimp only; rw [hasT_f (bfalse hbo)])),(by simp only []; omega)⟩
         · refine W.draw (m:=15) (an:=[0,1,3,3,15,31,63,3,3,387,899,1923,4095,8191,16383]) hP dU O (its:=[.y 44 _,.y 45 _,.y 46 _,.y 47 _,.y 48 _,.y 49 _,.y 50 _,.y 51 _,.y 52 _,.y 53 _,.y 54 _,.y 55 _,.y 56 _,.y 57 _,.y 8 _]) (ks:=[]) (kk:=[]) (live:=[0,1,5,6,7,8,9,10,11]) (env':=[(0,_),(1,_),(5,_),(6,_),(7,_),(8,_),(9,_),(10,_),(11,_)]) (⟨nU O,O,⟨mU 8 O O,mU 44 O O,aW O O (gF (bfalse hbo) O) fun _ _ H K=>R.al (K 10 _ O) H dU,aW O O (gF (bfalse hbo) O) fun _ _ H K=>R.mov (eU K 11 O) O H,aW O O (gF (bfalse hbo) O) fun _ _ H K=>R.idxN (j) (SC.al (K 46 _ O) (K 10 _ O)) (evoI (eU K 47 O)) O bU H dU,aW O O (gF (bfalse hbo) O) fun _ _ H K=>R.fdE (K 48 _ O) H dU,aW O O (gF (bfalse hbo) O) fun _ _ H K=>R.ldE (K 49 _ O) (SC.al (K 46 _ O) (K 10 _ O)) (map_get! (l:=(histS l (sumK (ks[k]! % 12)))) bU) O O O O H,aW O O (gF (bfalse hbo) O) fun _ _ H K=>R.mov (eU K 5 O) O H,aW O O (gF (bfalse hbo) O) fun _ _ H K=>R.mov (eU K 7 O) O H,aW O O (gF (bfalse hbo) O) fun _ _ H K=>R.idxN (i) (SC.sl (K 51 _ O)) (evoI (eU K 52 O)) O bU H dU,aW O O (gF (bfalse hbo) O) fun _ _ H K=>R.fdE (K 53 _ O) H dU,aW O O (gF (bfalse hbo) O) fun _ _ H K=>R.ldE (K 54 _ O) (SC.sl (K 51 _ O)) (map_get! (l:=(allS l)) bU) O O O O H,aW O O (gF (bfalse hbo) O) fun _ _ H K=>R.eqAE (eU K 50 O) (eU K 55 O) H,aU fun _ _ H K=>R.pickF (eU K 45 O) (bfalse hbo) (eU K 56 O) O H,aU fun _ _ H K=>R.asg (eU K 57 O) O H,Zt⟩,O,O,O⟩) O (bx':=[]) O (n':=84) O (tV [(0,_),(1,_),(5,_),(6,_),(7,_),(8,_),(9,_),(10,_),(11,_)] [] 84 O O O ?_)
           refine W.l0 3 [.y 42 _,.y 43 _,.y 11 _] [] [] [(0,_),(1,_),(5,_),(6,_),(7,_),(8,_),(9,_),(10,_),(11,_)] [] 84 ⟨mU 11 O O,aU fun _ _ H K=>R.addN (j) (1) (eU K 42 O) (kI 1 O) bU H,aU fun _ _ H K=>R.asg (eU K 43 O) O H,Zt⟩ O O O O (tU O ?_)
           exact ⟨⟨(j + 1),bU⟩,(by first | (dsimp only; rw [hasT_t hbo]) | (dsimp only; rw [hasT_f (bfalse hbo)])),(by simp only []; omega)⟩
       · obtain rfl : j = (histS l (sumK (ks[k]! % 12))).length:=by omega
         refine W.exit ?_
         refine W.l0 3 [.y 28 _,.y 29 _,.y 9 _] [] [] [(0,_),(1,_),(5,_),(6,_),(7,_),(8,_),(9,_)] [] 84 ⟨mU 9 O O,aU fun _ _ H K=>R.addN (k) (1) (eU K 28 O) (kI 1 O) bU H,aU fun _ _ H K=>R.asg (eU K 29 O) O H,Zt⟩ O O O O (tU O ?_)
         exact ⟨⟨(k + 1),bU⟩,(by dsimp only; rw [kyT_s]),(by simp only []; omega)⟩
     · have hky : (kyT l ks (allS l)[i]!.id k) = (kyT l ks (allS l)[i]!.id ks.length):=by first | exact kyT_end hk (not_f hc27) | rw [show k = ks.length by omega]
       rw [hky]
       refine W.exit (W.seq ?_)
       refine W.l0 1 [.y 58 _] [] [] [(0,_),(1,_),(5,_),(6,_),(7,_),(58,_)] [] 84 ⟨mU 8 O O,Zt⟩ O O O O (tU O ?_)
       refine W.cond O (fun hc58=>?_) (fun hc58=>?_)
       · refine W.draw (m:=25) (an:=(0 :: 0 :: 0 :: 6 :: 14 :: 30 :: 0 :: 0 :: 192 :: 448 :: 960 :: 0 :: 0 :: 6144 :: 14336 :: 30720 :: 0 :: 0 :: 196608 :: 458752 :: 983040 :: 2097150 :: 4194302 :: 8388607 :: 16777215 :: [])) hP dU O (its:=(.y 59 _ :: .y 60 _ :: .y 61 _ :: .y 62 _ :: .y 63 _ :: .y 64 _ :: .y 65 _ :: .y 66 _ :: .y 67 _ :: .y 68 _ :: .y 69 _ :: .y 70 _ :: .y 71 _ :: .y 72 _ :: .y 73 _ :: .y 74 _ :: .y 75 _ :: .y 76 _ :: .y 77 _ :: .y 78 _ :: .y 79 _ :: .y 80 _ :: .y 81 _ :: .y 82 _ :: .y 6 _ :: [])) (ks:=[(23,6),(24,82),(24,59)]) (kk:=[(23,6),(24,82)]) (live:=[0,1,5,6,7]) (env':=[(0,_),(1,_),(5,_),(6,_),(7,_)]) (⟨nU O,O,⟨aU fun _ _ H K=>R.al (K 6 _ O) H dU,mU 5 O O,mU 7 O O,aU fun _ _ H K=>R.idxN (i) (SC.sl (K 60 _ O)) (evoI (eU K 61 O)) O bU H dU,aU fun _ _ H K=>R.fdE (K 62 _ O) H dU,aU fun _ _ H K=>R.ldE (K 63 _ O) (SC.sl (K 60 _ O)) (map_get! (l:=(allS l)) bU) O O O O H,mU 5 O O,mU 7 O O,aU fun _ _ H K=>R.idxN (i) (SC.sl (K 65 _ O)) (evoI (eU K 66 O)) O bU H dU,aU fun _ _ H K=>R.fdE (K 67 _ O) H dU,aU fun _ _ H K=>R.ldE (K 68 _ O) (SC.sl (K 65 _ O)) (map_get! (l:=(allS l)) bU) O O O O H,mU 5 O O,mU 7 O O,aU fun _ _ H K=>R.idxN (i) (SC.sl (K 70 _ O)) (evoI (eU K 71 O)) O bU H dU,aU fun _ _ H K=>R.fdE (K 72 _ O) H dU,aU fun _ _ H K=>R.ldE (K 73 _ O) (SC.sl (K 70 _ O)) (map_get! (l:=(allS l)) bU) O O O O H,mU 5 O O,mU 7 O O,aU fun _ _ H K=>R.idxN (i) (SC.sl (K 75 _ O)) (evoI (eU K 76 O)) O bU H dU,aU fun _ _ H K=>R.fdE (K 77 _ O) H dU,aU fun _ _ H K=>R.ldE (K 78 _ O) (SC.sl (K 75 _ O)) (map_get! (l:=(allS l)) bU) O O O O H,aU fun _ _ H K=>R.bldSE (l:=[.int 0,.arr 32 1 ((List.replicate 32 0).map D.u8),.int 0,.arr 32 1 ((List.replicate 32 0).map D.u8),.nils,.nils,.agg [.u32 0,.nils,.nils,.u32 0]]) (l':=[_,_,_,_,_,_,_]) (.cons (eU K 64 O) (.cons (eU K 69 O) (.cons (eU K 74 O) (.cons (eU K 79 O) (.nil O))))) ⟨⟨_,(eU K 64 O),O,O,O⟩,⟨⟨_,(eU K 69 O),O,O,O⟩,⟨⟨_,(eU K 74 O),O,O,szH O⟩,⟨⟨_,(eU K 79 O),O,O,O⟩,Zt⟩⟩⟩⟩ H,aU fun _ _ H K=>R.bslE (z:=72) (.cons (eU K 80 O) .nil) ⟨⟨O,O,O⟩,Zt⟩ O H dU,aU fun _ _ H K=>R.appE (Or.inr (K 59 _ O)) (K 6 _ O) (SrcO.sc (SC.sl (K 81 _ O)) (pur_lit O)) (show _ = ((touI l ks (i + 1)).map pvN) from (touI_app hc58)) (by simp only [List.length_map,List.length_cons,List.length_nil]; omega) H dU dU,aU fun _ _ H K=>R.asgO (K 82 _ O) O H dU,Zt⟩,O,O,O⟩) O (bx':=[]) O (n':=84) O (tV [(0,_),(1,_),(5,_),(6,_),(7,_)] [] 84 O O O ?_)
         refine W.l0 3 [.y 18 _,.y 19 _,.y 7 _] [] [] [(0,_),(1,_),(5,_),(6,_),(7,_)] [] 84 ⟨mU 7 O O,aU fun _ _ H K=>R.addN (i) (1) (eU K 18 O) (kI 1 O) bU H,aU fun _ _ H K=>R.asg (eU K 19 O) O H,Zt⟩ O O O O (tU O ?_)
         exact ⟨⟨(i + 1),bU⟩,(by first | (dsimp only; rw [touI_n hc58]) | rfl),(by simp only []; omega)⟩
       · refine W.skip ?_
         refine W.l0 3 [.y 18 _,.y 19 _,.y 7 _] [] [] [(0,_),(1,_),(5,_),(6,_),(7,_)] [] 84 ⟨mU 7 O O,aU fun _ _ H K=>R.addN (i) (1) (eU K 18 O) (kI 1 O) bU H,aU fun _ _ H K=>R.asg (eU K 19 O) O H,Zt⟩ O O O O (tU O ?_)
         exact ⟨⟨(i + 1),bU⟩,(by first | (dsimp only; rw [touI_n hc58]) | rfl),(by simp only []; omega)⟩
   · refine W.l0 8 [.y 20 _,.y 21 _,.y 22 _,.y 23 _,.y 24 _,.x 25,.x 26,.y 27 _] [] [] [(0,_),(1,_),(5,_),(6,_),(7,_),(8,_),(9,_),(27,_)] [] 84 ⟨mU 9 O O,mU 1 O O,aU fun _ _ H K=>R.lenE (SC.sl (K 21 _ O)) (lN _) H,aU fun _ _ H K=>R.lssN (k) (ks.length) (eU K 20 O) (eU K 22 O) H,mU 23 O O,aF O O (gF (dF h5) O),aF O O (gF (dF h5) O),aU fun _ _ H K=>R.pickF (eU K 24 O) (dF h5) (kB false O) O H,Zt⟩ O O O O (tU O ?_)
     refine W.condF O (O) ?_
     have hky : (kyT l ks (allS l)[i]!.id k) = (kyT l ks (allS l)[i]!.id ks.length):=by first | exact kyT_end hk (not_f hc27) | rw [show k = ks.length by omega]
     rw [hky]
     refine W.exit (W.seq ?_)
     refine W.l0 1 [.y 58 _] [] [] [(0,_),(1,_),(5,_),(6,_),(7,_),(58,_)] [] 84 ⟨mU 8 O O,Zt⟩ O O O O (tU O ?_)
     refine W.cond O (fun hc58=>?_) (fun hc58=>?_)
     · refine W.draw (m:=25) (an:=(0 :: 0 :: 0 :: 6 :: 14 :: 30 :: 0 :: 0 :: 192 :: 448 :: 960 :: 0 :: 0 :: 6144 :: 14336 :: 30720 :: 0 :: 0 :: 196608 :: 458752 :: 983040 :: 2097150 :: 4194302 :: 8388607 :: 16777215 :: [])) hP dU O (its:=(.y 59 _ :: .y 60 _ :: .y 61 _ :: .y 62 _ :: .y 63 _ :: .y 64 _ :: .y 65 _ :: .y 66 _ :: .y 67 _ :: .y 68 _ :: .y 69 _ :: .y 70 _ :: .y 71 _ :: .y 72 _ :: .y 73 _ :: .y 74 _ :: .y 75 _ :: .y 76 _ :: .y 77 _ :: .y 78 _ :: .y 79 _ :: .y 80 _ :: .y 81 _ :: .y 82 _ :: .y 6 _ :: [])) (ks:=[(23,6),(24,82),(24,59)]) (kk:=[(23,6),(24,82)]) (live:=[0,1,5,6,7]) (env':=[(0,_),(1,_),(5,_),(6,_),(7,_)]) (⟨nU O,O,⟨aU fun _ _ H K=>R.al (K 6 _ O) H dU,mU 5 O O,mU 7 O O,aU fun _ _ H K=>R.idxN (i) (SC.sl (K 60 _ O)) (evoI (eU K 61 O)) O bU H dU,aU fun _ _ H K=>R.fdE (K 62 _ O) H dU,aU fun _ _ H K=>R.ldE (K 63 _ O) (SC.sl (K 60 _ O)) (map_get! (l:=(allS l)) bU) O O O O H,mU 5 O O,mU 7 O O,aU fun _ _ H K=>R.idxN (i) (SC.sl (K 65 _ O)) (evoI (eU K 66 O)) O bU H dU,aU fun _ _ H K=>R.fdE (K 67 _ O) H dU,aU fun _ _ H K=>R.ldE (K 68 _ O) (SC.sl (K 65 _ O)) (map_get! (l:=(allS l)) bU) O O O O H,mU 5 O O,mU 7 O O,aU fun _ _ H K=>R.idxN (i) (SC.sl (K 70 _ O)) (evoI (eU K 71 O)) O bU H dU,aU fun _ _ H K=>R.fdE (K 72 _ O) H dU,aU fun _ _ H K=>R.ldE (K 73 _ O) (SC.sl (K 70 _ O)) (map_get! (l:=(allS l)) bU) O O O O H,mU 5 O O,mU 7 O O,aU fun _ _ H K=>R.idxN (i) (SC.sl (K 75 _ O)) (evoI (eU K 76 O)) O bU H dU,aU fun _ _ H K=>R.fdE (K 77 _ O) H dU,aU fun _ _ H K=>R.ldE (K 78 _ O) (SC.sl (K 75 _ O)) (map_get! (l:=(allS l)) bU) O O O O H,aU fun _ _ H K=>R.bldSE (l:=[.int 0,.arr 32 1 ((List.replicate 32 0).map D.u8),.int 0,.arr 32 1 ((List.replicate 32 0).map D.u8),.nils,.nils,.agg [.u32 0,.nils,.nils,.u32 0]]) (l':=[_,_,_,_,_,_,_]) (.cons (eU K 64 O) (.cons (eU K 69 O) (.cons (eU K 74 O) (.cons (eU K 79 O) (.nil O))))) ⟨⟨_,(eU K 64 O),O,O,O⟩,⟨⟨_,(eU K 69 O),O,O,O⟩,⟨⟨_,(eU K 74 O),O,O,szH O⟩,⟨⟨_,(eU K 79 O),O,O,O⟩,Zt⟩⟩⟩⟩ H,aU fun _ _ H K=>R.bslE (z:=72) (.cons (eU K 80 O) .nil) ⟨⟨O,O,O⟩,Zt⟩ O H dU,aU fun _ _ H K=>R.appE (Or.inr (K 59 _ O)) (K 6 _ O) (SrcO.sc (SC.sl (K 81 _ O)) (pur_lit O)) (show _ = ((touI l ks (i + 1)).map pvN) from (touI_app hc58)) (by simp only [List.length_map,List.length_cons,List.length_nil]; omega) H dU dU,aU fun _ _ H K=>R.asgO (K 82 _ O) O H dU,Zt⟩,O,O,O⟩) O (bx':=[]) O (n':=84) O (tV [(0,_),(1,_),(5,_),(6,_),(7,_)] [] 84 O O O ?_)
       refine W.l0 3 [.y 18 _,.y 19 _,.y 7 _] [] [] [(0,_),(1,_),(5,_),(6,_),(7,_)] [] 84 ⟨mU 7 O O,aU fun _ _ H K=>R.addN (i) (1) (eU K 18 O) (kI 1 O) bU H,aU fun _ _ H K=>R.asg (eU K 19 O) O H,Zt⟩ O O O O (tU O ?_)
       exact ⟨⟨(i + 1),bU⟩,(by first | (dsimp only; rw [touI_n hc58]) | rfl),(by simp only []; omega)⟩
     · refine W.skip ?_
       refine W.l0 3 [.y 18 _,.y 19 _,.y 7 _] [] [] [(0,_),(1,_),(5,_),(6,_),(7,_)] [] 84 ⟨mU 7 O O,aU fun _ _ H K=>R.addN (i) (1) (eU K 18 O) (kI 1 O) bU H,aU fun _ _ H K=>R.asg (eU K 19 O) O H,Zt⟩ O O O O (tU O ?_)
       exact ⟨⟨(i + 1),bU⟩,(by first | (dsimp only; rw [touI_n hc58]) | rfl),(by simp only []; omega)⟩
 · obtain rfl : i = (allS l).length:=by omega
   refine W.exit (W.seq ?_)
   refine W.l0 2 [.y 83 _,.y 4 _] [(0,6),(1,83)] [(0,6),(1,83)] [(4,_)] [] 84 ⟨aU fun _ _ H K=>R.movO (K 6 _ O) O H dU,aU fun _ _ H K=>R.asgO (K 83 _ O) O H dU,Zt⟩ O O O O (tU O ?_)
   refine W.wkS (s:=4) (d':=.sl (some 56) 72 (((touS l ks).map pvO).map pvD)) O O O (wk_pvs _ _ _) ?_
   refine W.frzS (s:=4) (d':=.sl none 72 (((touS l ks).map pvO).map pvD)) O O (brw_pvs _ _ _) ?_
   refine W.ret ?_
   exact Ends.one' (.inr O) O (O) O O Zt
end Go.Sx

namespace Go.Sx
open Go.Proofs
theorem vpays_ok (o : OutS) (sc : Hs) (ho : o.script.length <= 1000000) : Fn Tryd.prog gl 36 [outD o,hashD sc] (.bool (paysV o sc)):=by
 refine Fn.of (n:=10) Tryd.func36 rfl rfl rfl (nU rfl) fun C hC hD=>?_
 refine W.seq ?_
 refine W.l0 3 [] [] [] [(0,_),(1,_)] [] 10 Zt O O O O (⟨O,_,R.box (gV 0 O) O O (nU O),⟨O,_,R.box (gV 1 O) O O (nU O),⟨O,_,R.asg (kB false O) O (nU O),tV [(2,_),(3,_)] [(3,.var _),(2,.var _)] 10 O O O ?_⟩⟩⟩)
 refine W.seq ?_
 refine W.draw (m:=6) (an:=[0,1,3,0,15,31]) hP dU O (its:=[.y 5 _,.y 6 _,.y 7 _,.y 8 _,.y 9 _,.y 4 _]) (ks:=[]) (kk:=[]) (live:=[4]) (env':=[(4,_)]) (⟨nU O,O,⟨aU (fU 2 O O),aU (lU 5 O O O O O O O),aU fun _ _ H K=>R.callG hC (sum_ok o.script (Nat.le_trans ho dU)) (Bc (Bp (eU K 6 O) O O) Bn) (FrsR.one (frs_hash' _)) H,aU (lU 3 O O O O O O O),aU fun _ _ H K=>R.eqAE (eU K 7 O) (eU K 8 O) H,aU fun _ _ H K=>R.asg (eU K 9 O) O H,Zt⟩,O,O,O⟩) O (bx':=[(3,.var _),(2,.var _)]) O (n':=10) O (tV [(4,_)] [(3,.var _),(2,.var _)] 10 O O O ?_)
 refine W.ret ?_
 exact Ends.one' (.inr O) O (O) O O Zt
theorem paying_ok (l : List PvS) (hl : allPv l) (sc : Hs) : FnB Tryd.prog gl 31 [.sl none 72 (l.map pvD),hashD sc] [] (.map 10) [] [(10,mpK placeK natD (cntL (pyI l sc l.length)))]:=by
 refine FnB.of (n:=42) (ids:=[10]) Tryd.func31 rfl rfl rfl (nU rfl) fun C hC hD=>?_
 have hl1:=hl.1
 refine W.seq ?_
 refine W.l0 2 [] [] [] [(0,_),(1,_)] [] 42 Zt O O O O (⟨O,_,R.box (gV 1 O) O O (nU O),⟨O,_,R.asg (show ev _ _ (.const (.map none)) = some (.nilmap) from O) O (nU O),tV [(0,_),(3,_)] [(3,.var _)] 42 O O O ?_⟩⟩)
 refine W.seq ?_
 refine W.l0 2 [] [] [] [(0,_),(3,_)] [(3,.var _)] 42 Zt O O O O (⟨O,_,R.mkmapK placeK natD O (nU O),⟨O,_,R.asg (gV 10 O) O (nU O),tV [(0,_),(3,_),(5,_)] [(10,mpK placeK natD _),(3,.var _)] 42 O O O ?_⟩⟩)
 refine W.seq (W.seq ?_)
 refine W.l0 3 [.y 11 _,.y 12 _,.y 13 _] [] [] [(3,_),(5,_),(11,_),(12,_),(13,_)] [(10,mpK placeK natD _),(3,.var _)] 42 ⟨mU 0 O O,aU fun _ _ H K=>R.lenE (SC.sl (K 11 _ O)) (lN _) H,aU fun _ _ H _=>R.mov (kI 0 O) O H,Zt⟩ O O O O (tU O ?_)
 refine W.block ?_
 refine W.loop (α:={q__ : Nat // q__ <= l.length}) (fun q__=>⟨42,[(3,.ptr 3 0 []),(5,.map 10),(11,.sl none 72 (l.map pvD)),(12,.int ((l.length : Nat) : Int)),(13,.int ((q__.1 : Nat) : Int))],[(10,mpK placeK natD (cntL (pyI l sc q__.1))),(3,.var (hashD sc))]⟩) (fun q__=>l.length - q__.1) ⟨(0),bU⟩ O ?_
 rintro ⟨i,hi⟩
 show W _ _ _ _ ⟨42,[(3,.ptr 3 0 []),(5,.map 10),(11,.sl none 72 (l.map pvD)),(12,.int ((l.length : Nat) : Int)),(13,.int ((i : Nat) : Int))],[(10,mpK placeK natD (cntL (pyI l sc i))),(3,.var (hashD sc))]⟩
 have hi : i <= l.length:=hi
 have hpi:=fun (h : i < l.length)=>hl.get h
 refine W.seq ?_
 refine W.l0 1 [.y 14 _] [] [] [(3,_),(5,_),(11,_),(12,_),(13,_),(14,_)] [(10,mpK placeK natD _),(3,.var _)] 42 ⟨aU fun _ _ H K=>R.lssN (i) (l.length) (eU K 13 O) (eU K 12 O) H,Zt⟩ O O O O (tU O ?_)
 refine W.seq ?_
 refine W.condD O (fun hc14=>?_) (fun hc14=>?_)
 · refine W.skip (W.seq (W.block (W.seq ?_)))
   have hpi:=hpi hc14
   have hpo:=hpi.outs
   refine W.l0 4 [.y 15 _,.y 16 _] [] [] [(3,_),(5,_),(11,_),(12,_),(13,_),(16,_)] [(10,mpK placeK natD _),(3,.var _)] 42 ⟨aU fun _ _ H K=>R.idxN (i) (SC.sl (K 11 _ O)) (evoI (eU K 13 O)) O bU H dU,aU fun _ _ H K=>R.ldE (K 15 _ O) (SC.sl (K 11 _ O)) (map_get! (l:=l) bU) O O O O H,Zt⟩ O O O O (⟨O,_,R.alloc O (nU O),⟨O,_,R.stZ (gU 7 O) (xU 7 O) O (gV 16 O) (by rfl) (by rfl) (by rfl) (by rfl) O,tV [(3,_),(5,_),(7,_),(11,_),(12,_),(13,_)] [(7,.var _),(10,mpK placeK natD _),(3,.var _)] 42 O O O ?_⟩⟩)
   refine W.seq ?_
   refine W.l0 5 [.y 17 _,.y 18 _,.y 19 _,.y 20 _,.y 21 _] [] [] [(3,_),(5,_),(7,_),(11,_),(12,_),(13,_),(19,_),(20,_),(21,_)] [(7,.var _),(10,mpK placeK natD _),(3,.var _)] 42 ⟨aU (fU 7 O O),aU (fU 17 O O),aU (lU 18 O O O O O O O),aU fun _ _ H K=>R.lenE (SC.sl (K 19 _ O)) (lN _) H,aU fun _ _ H _=>R.mov (kI 0 O) O H,Zt⟩ O O O O (tU O ?_)
   refine W.block ?_
   refine W.loop (α:={q__ : Nat // q__ <= l[i]!.t.outs.length}) (fun q__=>⟨42,[(3,.ptr 3 0 []),(5,.map 10),(7,.ptr 7 0 []),(11,.sl none 72 (l.map pvD)),(12,.int ((l.length : Nat) : Int)),(13,.int ((i : Nat) : Int)),(19,.sl none 2 (l[i]!.t.outs.map outD)),(20,.int ((l[i]!.t.outs.length : Nat) : Int)),(21,.int ((q__.1 : Nat) : Int))],[(7,.var (pvD l[i]!)),(10,mpK placeK natD (cntL (pyI l sc i ++ pyK l[i]! sc q__.1))),(3,.var (hashD sc))]⟩) (fun q__=>l[i]!.t.outs.length - q__.1) ⟨(0),bU⟩ (by rw [pyK,List.append_nil] <;> rfl) ?_
   rintro ⟨n,hn⟩
   show W _ _ _ _ ⟨42,[(3,.ptr 3 0 []),(5,.map 10),(7,.ptr 7 0 []),(11,.sl none 72 (l.map pvD)),(12,.int ((l.length : Nat) : Int)),(13,.int ((i : Nat) : Int)),(19,.sl none 2 (l[i]!.t.outs.map outD)),(20,.int ((l[i]!.t.outs.length : Nat) : Int)),(21,.int ((n : Nat) : Int))],[(7,.var (pvD l[i]!)),(10,mpK placeK natD (cntL (pyI l sc i ++ pyK l[i]! sc n))),(3,.var (hashD sc))]⟩
   have hn : n <= l[i]!.t.outs.length:=hn
   refine W.seq ?_
   refine W.l0 1 [.y 22 _] [] [] [(3,_),(5,_),(7,_),(11,_),(12,_),(13,_),(19,_),(20,_),(21,_),(22,_)] [(7,.var _),(10,mpK placeK natD _),(3,.var _)] 42 ⟨aU fun _ _ H K=>R.lssN (n) (l[i]!.t.outs.length) (eU K 21 O) (eU K 20 O) H,Zt⟩ O O O O (tU O ?_)
   refine W.seq ?_
   refine W.condD O (fun hc22=>?_) (fun hc22=>?_)
   · refine W.skip (W.seq (W.block (W.seq ?_)))
     refine W.l0 6 [.y 23 _,.y 24 _,.y 25 _] [] [] [(3,_),(5,_),(7,_),(11,_),(12,_),(13,_),(19,_),(20,_),(21,_),(23,_),(25,_)] [(7,.var _),(10,mpK placeK natD _),(3,.var _)] 42 ⟨mU 21 O O,aU fun _ _ H K=>R.idxN (n) (SC.sl (K 19 _ O)) (evoI (eU K 21 O)) O bU H dU,aU fun _ _ H K=>R.ldE (K 24 _ O) (SC.sl (K 19 _ O)) (map_get! (l:=l[i]!.t.outs) bU) O O O O H,Zt⟩ O O O O (⟨O,_,R.alloc O (nU O),⟨O,_,R.asg (gV 23 O) O (nU O),⟨O,_,R.stZ (gU 9 O) (xU 9 O) O (gV 25 O) (by rfl) (by rfl) (by rfl) (by rfl) O,tV [(3,_),(5,_),(7,_),(8,_),(9,_),(11,_),(12,_),(13,_),(19,_),(20,_),(21,_)] [(9,.var _),(7,.var _),(10,mpK placeK natD _),(3,.var _)] 42 O O O ?_⟩⟩⟩)
     refine W.seq ?_
     refine W.l0 3 [.y 26 _,.y 27 _,.y 28 _] [] [] [(3,_),(5,_),(7,_),(8,_),(11,_),(12,_),(13,_),(19,_),(20,_),(21,_),(28,_)] [(9,.var _),(7,.var _),(10,mpK placeK natD _),(3,.var _)] 42 ⟨aU (lU 9 O O O O O O O),aU (lU 3 O O O O O O O),aU fun _ _ H K=>R.callG hC (vpays_ok l[i]!.t.outs[n]! sc (hpi.out (by omega))) (Bc (Bp (eU K 26 O) O O) (Bc (Bp (eU K 27 O) O O) Bn)) (FrsR.one (.bool _)) H,Zt⟩ O O O O (tU O ?_)
     refine W.cond O (fun hc28=>?_) (fun hc28=>?_)
     · refine W.dropBP [3,7,10] (bx':=[(7,.var _),(10,mpK placeK natD _),(3,.var _)]) O O ⟨O,⟨okMpK (fun _=>rfl) (fun _=>rfl),⟨O,Zt⟩⟩⟩ (pin_sub hD O) ?_
       have hkg:=cnt_le (pyI l sc i ++ pyK l[i]! sc n) (l[i]!.id,nK n)
       have hpl:=pyI_len hl sc i (by omega)
       have hpk:=pyK_len l[i]! sc n
       rw [List.length_append] at hkg
       refine W.drawC (m:=10) (an:=[0,0,2,0,8,30,63,127,63,319,1023]) (its:=[.y 29 _,.y 30 _,.y 31 _,.y 32 _,.y 33 _,.y 34 _,.y 35 _,.y 36 _,.y 37 _,.y 38 _]) (ks:=[]) (kk:=[]) (live:=[3,5,7,11,12,13,19,20,21,29,36,38]) (env':=[(3,_),(5,_),(7,_),(11,_),(12,_),(13,_),(19,_),(20,_),(21,_),(29,_),(36,_),(38,_)]) (bx1:=[(7,.var _),(10,mpK placeK natD _),(3,.var _)]) [(7,_),(3,_)] 8 [10] hP dU O ⟨nU O,O,O,O⟩ ⟨O,⟨O,Zt⟩⟩ (            ⟨⟨O,O,fun _ τ hb ht hτ=>R.mov (evt (hτ 5 _ O)) O ht⟩,⟨⟨O,O,fun _ τ hb ht hτ=>R.fdP (hτ 7 _ O) ht⟩,⟨⟨O,O,fun _ τ hb ht hτ=>R.ldP (hτ 30 _ O) (hb 7 _ O) O O O O ht⟩,⟨⟨O,O,fun _ τ hb ht hτ=>R.mov (evt (hτ 8 _ O)) O ht⟩,⟨⟨O,O,fun _ τ hb ht hτ=>R.convE (d:=.u32 (nK n)) (evt (hτ 32 _ O)) O (O) ht⟩,⟨⟨O,O,fun _ τ hb ht hτ=>R.bldSE (l:=[.arr 32 1 ((List.replicate 32 0).map D.u8),.u32 0]) (l':=[_,_]) (.cons (evt (hτ 31 _ O)) (.cons (evt (hτ 33 _ O)) (.nil O))) ⟨⟨_,(evt (hτ 31 _ O)),O,O,O⟩,⟨⟨_,(evt (hτ 33 _ O)),O,O,O⟩,Zt⟩⟩ ht⟩,⟨⟨O,O,fun _ τ hb ht hτ=>R.lookKe (m:=(cntL (pyI l sc i ++ pyK l[i]! sc n))) (k:=(l[i]!.id,nK n)) (z:=0) place_key (hτ 29 _ O) (hb.two O O) (evt (hτ 34 _ O)) O O (fun _=>rfl) ht⟩,⟨⟨O,O,fun _ τ hb ht hτ=>R.addN ((kGet 0 (cntL (pyI l sc i ++ pyK l[i]! sc n)) (l[i]!.id,nK n))) (1) (evt (hτ 35 _ O)) (kI 1 O) bU ht⟩,⟨⟨O,O,O,(SpC.mentryK (m:=(cntL (pyI l sc i ++ pyK l[i]! sc n))) (k:=(l[i]!.id,nK n)) (z:=0) place_key place_same O O (fun τ hτ=>(evt (hτ 34 _ O))) O O (fun _=>rfl) O)⟩,⟨⟨O,O,fun _ τ hb ht hτ=>R.ext (hτ 37 _ O) O O ht⟩,Zt⟩⟩⟩⟩⟩⟩⟩⟩⟩⟩) O O O (nU O) ⟨O,⟨O,Zt⟩⟩ O (n':=42) O (⟨O,_,R.estoreK (i:=kIdx (cntL (pyI l sc i ++ pyK l[i]! sc n)) (l[i]!.id,nK n)) (k:=(l[i]!.id,nK n)) (u:=(kGet 0 (cntL (pyI l sc i ++ pyK l[i]! sc n)) (l[i]!.id,nK n) + 1)) (gU 29 O) (xU 10 O) (gV 38 O) (gV 36 O) O O (kEnt_key 0 _ _),⟨[3,5,7,11,12,13,19,20,21],[(3,_),(5,_),(7,_),(11,_),(12,_),(13,_),(19,_),(20,_),(21,_)],[(7,.var _),(10,mpK placeK natD _),(3,.var _)],42,O,O,O, ?_⟩⟩)
       refine W.l0 2 [.y 39 _,.y 21 _] [] [] [(3,_),(5,_),(7,_),(11,_),(12,_),(13,_),(19,_),(20,_),(21,_)] [(7,.var _),(10,mpK placeK natD _),(3,.var _)] 42 ⟨aU fun _ _ H K=>R.addN (n) (1) (eU K 21 O) (kI 1 O) bU H,mU 39 O O,Zt⟩ O O O O (tU O ?_)
       exact ⟨⟨(n + 1),bU⟩,(by first | (dsimp only; rw [cnt_y _ hc28] <;> rfl) | (dsimp only; rw [pyK_n hc28])),(by simp only []; omega)⟩
     · refine W.skip ?_
       refine W.dropBP [3,7,10] (bx':=[(7,.var _),(10,mpK placeK natD _),(3,.var _)]) O O ⟨O,⟨okMpK (fun _=>rfl) (fun _=>rfl),⟨O,Zt⟩⟩⟩ (pin_sub hD O) ?_
       refine W.l0 2 [.y 39 _,.y 21 _] [] [] [(3,_),(5,_),(7,_),(11,_),(12,_),(13,_),(19,_),(20,_),(21,_)] [(7,.var _),(10,mpK placeK natD _),(3,.var _)] 42 ⟨aU fun _ _ H K=>R.addN (n) (1) (eU K 21 O) (kI 1 O) bU H,mU 39 O O,Zt⟩ O O O O (tU O ?_)
       exact ⟨⟨(n + 1),bU⟩,(by first | (dsimp only; rw [cnt_y _ hc28] <;> rfl) | (dsimp only; rw [pyK_n hc28])),(by simp only []; omega)⟩
   · obtain rfl : n = l[i]!.t.outs.length:=by omega
     refine W.exit ?_
     refine W.dropS (live:=[3,5,11,12,13]) (env':=[(3,_),(5,_),(11,_),(12,_),(13,_)]) (bx':=[(7,.var _),(10,mpK placeK natD _),(3,.var _)]) (n':=42) O O O ?_
     refine W.dropBP [3,10] (bx':=[(10,mpK placeK natD _),(3,.var _)]) O O ⟨okMpK (fun _=>rfl) (fun _=>rfl),⟨O,Zt⟩⟩ (pin_sub hD O) ?_
     refine W.l0 2 [.y 40 _,.y 13 _] [] [] [(3,_),(5,_),(11,_),(12,_),(13,_)] [(10,mpK placeK natD _),(3,.var _)] 42 ⟨aU fun _ _ H K=>R.addN (i) (1) (eU K 13 O) (kI 1 O) bU H,mU 40 O O,Zt⟩ O O O O (tU O ?_)
     exact ⟨⟨(i + 1),bU⟩,rfl,(by simp only []; omega)⟩
 · obtain rfl : i = l.length:=by omega
   refine W.exit (W.seq ?_)
   refine W.l0 2 [.y 41 _,.y 4 _] [] [] [(4,_)] [(10,mpK placeK natD _),(3,.var _)] 42 ⟨mU 5 O O,aU fun _ _ H K=>R.asg (eU K 41 O) O H,Zt⟩ O O O O (tU O ?_)
   refine W.ret ?_
   exact EndsB.one' (.inr O) O (O) O Zt O O (O) ⟨okPm _ _,Zt⟩ O
end Go.Sx

namespace Go.Sx
open Go.Proofs
theorem spent_ok (l : List PvS) (hl : allPv l) : FnB Tryd.prog gl 35 [.sl none 72 (l.map pvD)] [] (.map 8) [] [(8,mpK placeK natD (cntL (spI l l.length)))]:=by
 refine FnB.of (n:=33) (ids:=[8]) Tryd.func35 rfl rfl rfl (nU rfl) fun C hC hD=>?_
 have hl1:=hl.1
 refine W.seq ?_
 refine W.l0 1 [.y 2 _] [] [] [(0,_)] [] 33 ⟨aU fun _ _ H _=>R.asg (show ev _ _ (.const (.map none)) = some (.nilmap) from O) O H,Zt⟩ O O O O (tU O ?_)
 refine W.seq ?_
 refine W.l0 2 [] [] [] [(0,_)] [] 33 Zt O O O O (⟨O,_,R.mkmapK placeK natD O (nU O),⟨O,_,R.asg (gV 8 O) O (nU O),tV [(0,_),(3,_)] [(8,mpK placeK natD _)] 33 O O O ?_⟩⟩)
 refine W.seq (W.seq ?_)
 refine W.l0 3 [.y 9 _,.y 10 _,.y 11 _] [] [] [(3,_),(9,_),(10,_),(11,_)] [(8,mpK placeK natD _)] 33 ⟨mU 0 O O,aU fun _ _ H K=>R.lenE (SC.sl (K 9 _ O)) (lN _) H,aU fun _ _ H _=>R.mov (kI 0 O) O H,Zt⟩ O O O O (tU O ?_)
 refine W.block ?_
 refine W.loop (α:={q__ : Nat // q__ <= l.length}) (fun q__=>⟨33,[(3,.map 8),(9,.sl none 72 (l.map pvD)),(10,.int ((l.length : Nat) : Int)),(11,.int ((q__.1 : Nat) : Int))],[(8,mpK placeK natD (cntL (spI l q__.1)))]⟩) (fun q__=>l.length - q__.1) ⟨(0),bU⟩ O ?_
 rintro ⟨i,hi⟩
 show W _ _ _ _ ⟨33,[(3,.map 8),(9,.sl none 72 (l.map pvD)),(10,.int ((l.length : Nat) : Int)),(11,.int ((i : Nat) : Int))],[(8,mpK placeK natD (cntL (spI l i)))]⟩
 have hi : i <= l.length:=hi
 have hpi:=fun (h : i < l.length)=>hl.get h
 refine W.seq ?_
 refine W.l0 1 [.y 12 _] [] [] [(3,_),(9,_),(10,_),(11,_),(12,_)] [(8,mpK placeK natD _)] 33 ⟨aU fun _ _ H K=>R.lssN (i) (l.length) (eU K 11 O) (eU K 10 O) H,Zt⟩ O O O O (tU O ?_)
 refine W.seq ?_
 refine W.condD O (fun hc12=>?_) (fun hc12=>?_)
 · refine W.skip (W.seq (W.block (W.seq ?_)))
   have hpi:=hpi hc12
   have hpo:=hpi.ins
   refine W.l0 4 [.y 13 _,.y 14 _] [] [] [(3,_),(9,_),(10,_),(11,_),(14,_)] [(8,mpK placeK natD _)] 33 ⟨aU fun _ _ H K=>R.idxN (i) (SC.sl (K 9 _ O)) (evoI (eU K 11 O)) O bU H dU,aU fun _ _ H K=>R.ldE (K 13 _ O) (SC.sl (K 9 _ O)) (map_get! (l:=l) bU) O O O O H,Zt⟩ O O O O (⟨O,_,R.alloc O (nU O),⟨O,_,R.stZ (gU 5 O) (xU 5 O) O (gV 14 O) (by rfl) (by rfl) (by rfl) (by rfl) O,tV [(3,_),(5,_),(9,_),(10,_),(11,_)] [(5,.var _),(8,mpK placeK natD _)] 33 O O O ?_⟩⟩)
   refine W.seq ?_
   refine W.l0 5 [.y 15 _,.y 16 _,.y 17 _,.y 18 _,.y 19 _] [] [] [(3,_),(9,_),(10,_),(11,_),(17,_),(18,_),(19,_)] [(5,.var _),(8,mpK placeK natD _)] 33 ⟨aU (fU 5 O O),aU (fU 15 O O),aU (lU 16 O O O O O O O),aU fun _ _ H K=>R.lenE (SC.sl (K 17 _ O)) (lN _) H,aU fun _ _ H _=>R.mov (kI 0 O) O H,Zt⟩ O O O O (tU O ?_)
   refine W.block ?_
   refine W.loop (α:={q__ : Nat // q__ <= l[i]!.t.ins.length}) (fun q__=>⟨33,[(3,.map 8),(9,.sl none 72 (l.map pvD)),(10,.int ((l.length : Nat) : Int)),(11,.int ((i : Nat) : Int)),(17,.sl none 36 (l[i]!.t.ins.map inD)),(18,.int ((l[i]!.t.ins.length : Nat) : Int)),(19,.int ((q__.1 : Nat) : Int))],[(5,.var (pvD l[i]!)),(8,mpK placeK natD (cntL (spI l i ++ spK l[i]! q__.1)))]⟩) (fun q__=>l[i]!.t.ins.length - q__.1) ⟨(0),bU⟩ (by rw [spK,List.append_nil] <;> rfl) ?_
   rintro ⟨n,hn⟩
   show W _ _ _ _ ⟨33,[(3,.map 8),(9,.sl none 72 (l.map pvD)),(10,.int ((l.length : Nat) : Int)),(11,.int ((i : Nat) : Int)),(17,.sl none 36 (l[i]!.t.ins.map inD)),(18,.int ((l[i]!.t.ins.length : Nat) : Int)),(19,.int ((n : Nat) : Int))],[(5,.var (pvD l[i]!)),(8,mpK placeK natD (cntL (spI l i ++ spK l[i]! n)))]⟩
   have hn : n <= l[i]!.t.ins.length:=hn
   refine W.seq ?_
   refine W.l0 1 [.y 20 _] [] [] [(3,_),(9,_),(10,_),(11,_),(17,_),(18,_),(19,_),(20,_)] [(5,.var _),(8,mpK placeK natD _)] 33 ⟨aU fun _ _ H K=>R.lssN (n) (l[i]!.t.ins.length) (eU K 19 O) (eU K 18 O) H,Zt⟩ O O O O (tU O ?_)
   refine W.seq ?_
   refine W.condD O (fun hc20=>?_) (fun hc20=>?_)
   · refine W.skip (W.seq (W.block (W.seq ?_)))
     refine W.l0 4 [.y 21 _,.y 22 _] [] [] [(3,_),(9,_),(10,_),(11,_),(17,_),(18,_),(19,_),(22,_)] [(5,.var _),(8,mpK placeK natD _)] 33 ⟨aU fun _ _ H K=>R.idxN (n) (SC.sl (K 17 _ O)) (evoI (eU K 19 O)) O bU H dU,aU fun _ _ H K=>R.ldE (K 21 _ O) (SC.sl (K 17 _ O)) (map_get! (l:=l[i]!.t.ins) bU) O O O O H,Zt⟩ O O O O (⟨O,_,R.alloc O (nU O),⟨O,_,R.stZ (gU 7 O) (xU 7 O) O (gV 22 O) (by rfl) (by rfl) (by rfl) (by rfl) O,tV [(3,_),(7,_),(9,_),(10,_),(11,_),(17,_),(18,_),(19,_)] [(7,.var _),(5,.var _),(8,mpK placeK natD _)] 33 O O O ?_⟩⟩)
     have hkg:=cnt_le (spI l i ++ spK l[i]! n) (plc l[i]!.t.ins[n]!)
     have hpl:=spI_len hl i (by omega)
     have hpk:=spK_len l[i]! n
     rw [List.length_append] at hkg
     refine W.drawC (m:=7) (an:=[0,0,2,7,15,7,39,127]) (its:=[.y 23 _,.y 24 _,.y 25 _,.y 26 _,.y 27 _,.y 28 _,.y 29 _]) (ks:=[]) (kk:=[]) (live:=[3,9,10,11,17,18,19,23,27,29]) (env':=[(3,_),(9,_),(10,_),(11,_),(17,_),(18,_),(19,_),(23,_),(27,_),(29,_)]) (bx1:=[(7,.var _),(5,.var _),(8,mpK placeK natD _)]) [(7,_),(5,_)] 5 [8] hP dU O ⟨nU O,O,O,O⟩ ⟨O,⟨O,Zt⟩⟩ (          ⟨⟨O,O,fun _ τ hb ht hτ=>R.mov (evt (hτ 3 _ O)) O ht⟩,⟨⟨O,O,fun _ τ hb ht hτ=>R.fdP (hτ 7 _ O) ht⟩,⟨⟨O,O,fun _ τ hb ht hτ=>R.ldP (hτ 24 _ O) (hb 7 _ O) O O O O ht⟩,⟨⟨O,O,fun _ τ hb ht hτ=>R.lookKe (m:=(cntL (spI l i ++ spK l[i]! n))) (k:=(plc l[i]!.t.ins[n]!)) (z:=0) place_key (hτ 23 _ O) (hb.two O O) (evt (hτ 25 _ O)) O O (fun _=>rfl) ht⟩,⟨⟨O,O,fun _ τ hb ht hτ=>R.addN ((kGet 0 (cntL (spI l i ++ spK l[i]! n)) (plc l[i]!.t.ins[n]!))) (1) (evt (hτ 26 _ O)) (kI 1 O) bU ht⟩,⟨⟨O,O,O,(SpC.mentryK (m:=(cntL (spI l i ++ spK l[i]! n))) (k:=(plc l[i]!.t.ins[n]!)) (z:=0) place_key place_same O O (fun τ hτ=>(evt (hτ 25 _ O))) O O (fun _=>rfl) O)⟩,⟨⟨O,O,fun _ τ hb ht hτ=>R.ext (hτ 28 _ O) O O ht⟩,Zt⟩⟩⟩⟩⟩⟩⟩) O O O (nU O) ⟨O,⟨O,Zt⟩⟩ O (n':=33) O (⟨O,_,R.estoreK (i:=kIdx (cntL (spI l i ++ spK l[i]! n)) (plc l[i]!.t.ins[n]!)) (k:=(plc l[i]!.t.ins[n]!)) (u:=(kGet 0 (cntL (spI l i ++ spK l[i]! n)) (plc l[i]!.t.ins[n]!) + 1)) (gU 23 O) (xU 8 O) (gV 29 O) (gV 27 O) O O (kEnt_key 0 _ _),⟨[3,9,10,11,17,18,19],[(3,_),(9,_),(10,_),(11,_),(17,_),(18,_),(19,_)],[(7,.var _),(5,.var _),(8,mpK placeK natD _)],33,O,O,O, ?_⟩⟩)
     refine W.dropBP [5,8] (bx':=[(5,.var _),(8,mpK placeK natD _)]) O O ⟨O,⟨okMpK (fun _=>rfl) (fun _=>rfl),Zt⟩⟩ (pin_sub hD O) ?_
     refine W.l0 2 [.y 30 _,.y 19 _] [] [] [(3,_),(9,_),(10,_),(11,_),(17,_),(18,_),(19,_)] [(5,.var _),(8,mpK placeK natD _)] 33 ⟨aU fun _ _ H K=>R.addN (n) (1) (eU K 19 O) (kI 1 O) bU H,mU 30 O O,Zt⟩ O O O O (tU O ?_)
     exact ⟨⟨(n + 1),bU⟩,(by dsimp only; rw [cnt_s] <;> rfl),(by simp only []; omega)⟩
   · obtain rfl : n = l[i]!.t.ins.length:=by omega
     refine W.exit ?_
     refine W.dropBP [8] (bx':=[(8,mpK placeK natD _)]) O O ⟨okMpK (fun _=>rfl) (fun _=>rfl),Zt⟩ (pin_sub hD O) ?_
     refine W.l0 2 [.y 31 _,.y 11 _] [] [] [(3,_),(9,_),(10,_),(11,_)] [(8,mpK placeK natD _)] 33 ⟨aU fun _ _ H K=>R.addN (i) (1) (eU K 11 O) (kI 1 O) bU H,mU 31 O O,Zt⟩ O O O O (tU O ?_)
     exact ⟨⟨(i + 1),bU⟩,rfl,(by simp only []; omega)⟩
 · obtain rfl : i = l.length:=by omega
   refine W.exit (W.seq ?_)
   refine W.l0 2 [.y 32 _,.y 2 _] [] [] [(2,_)] [(8,mpK placeK natD _)] 33 ⟨mU 3 O O,aU fun _ _ H K=>R.asg (eU K 32 O) O H,Zt⟩ O O O O (tU O ?_)
   refine W.ret ?_
   exact EndsB.one' (.inr O) O (O) O Zt O O (O) ⟨okPm _ _,Zt⟩ O
end Go.Sx

namespace Go.Sx
open Go.Proofs
theorem touches_ok (ks : List Plc) (p : PvS) (sc : Hs) (hp : p.wf) : FnB Tryd.prog gl 32 [.map 0,pvD p,hashD sc] [(0,mpK placeK natD (cntL ks))] (.bool (tchV ks p sc)) [(0,mpK placeK natD (cntL ks))] []:=by
 refine FnB.of (n:=37) (ids:=[0]) Tryd.func32 rfl rfl rfl (nU rfl) fun C hC hD=>?_
 have hpo:=hp.outs
 have hpn:=hp.ins
 refine W.seq ?_
 refine W.l0 3 [] [] [] [(0,_),(1,_),(2,_)] [(0,mpK placeK natD _)] 37 Zt O O O O (⟨O,_,R.box (gV 1 O) O O (nU O),⟨O,_,R.box (gV 2 O) O O (nU O),⟨O,_,R.asg (kB false O) O (nU O),tV [(0,_),(4,_),(5,_)] [(5,.var _),(4,.var _),(0,mpK placeK natD _)] 37 O O O ?_⟩⟩⟩)
 refine W.seq (W.seq ?_)
 refine W.l0 5 [.y 11 _,.y 12 _,.y 13 _,.y 14 _,.y 15 _] [] [] [(0,_),(4,_),(5,_),(13,_),(14,_),(15,_)] [(5,.var _),(4,.var _),(0,mpK placeK natD _)] 37 ⟨aU (fU 4 O O),aU (fU 11 O O),aU (lU 12 O O O O O O O),aU fun _ _ H K=>R.lenE (SC.sl (K 13 _ O)) (lN _) H,aU fun _ _ H _=>R.mov (kI 0 O) O H,Zt⟩ O O O O (tU O ?_)
 refine W.block ?_
 refine W.loop (α:={q__ : Nat // q__ <= p.t.outs.length /\ orV p.t sc q__ = false}) (fun q__=>⟨37,[(0,.map 0),(4,.ptr 4 0 []),(5,.ptr 5 0 []),(13,.sl none 2 (p.t.outs.map outD)),(14,.int ((p.t.outs.length : Nat) : Int)),(15,.int ((q__.1 : Nat) : Int))],[(5,.var (hashD sc)),(4,.var (pvD p)),(0,mpK placeK natD (cntL ks))]⟩) (fun q__=>p.t.outs.length - q__.1) ⟨(0),⟨Nat.zero_le _,O⟩⟩ O ?_
 rintro ⟨n,⟨hn,hno⟩⟩
 show W _ _ _ _ ⟨37,[(0,.map 0),(4,.ptr 4 0 []),(5,.ptr 5 0 []),(13,.sl none 2 (p.t.outs.map outD)),(14,.int ((p.t.outs.length : Nat) : Int)),(15,.int ((n : Nat) : Int))],[(5,.var (hashD sc)),(4,.var (pvD p)),(0,mpK placeK natD (cntL ks))]⟩
 have hn : n <= p.t.outs.length:=hn
 have hno : orV p.t sc n = false:=hno
 refine W.seq ?_
 refine W.l0 1 [.y 16 _] [] [] [(0,_),(4,_),(5,_),(13,_),(14,_),(15,_),(16,_)] [(5,.var _),(4,.var _),(0,mpK placeK natD _)] 37 ⟨aU fun _ _ H K=>R.lssN (n) (p.t.outs.length) (eU K 15 O) (eU K 14 O) H,Zt⟩ O O O O (tU O ?_)
 refine W.seq ?_
 refine W.condD O (fun hc16=>?_) (fun hc16=>?_)
 · refine W.skip (W.seq (W.block (W.seq ?_)))
   refine W.l0 4 [.y 17 _,.y 18 _] [] [] [(0,_),(4,_),(5,_),(13,_),(14,_),(15,_),(18,_)] [(5,.var _),(4,.var _),(0,mpK placeK natD _)] 37 ⟨aU fun _ _ H K=>R.idxN (n) (SC.sl (K 13 _ O)) (evoI (eU K 15 O)) O bU H dU,aU fun _ _ H K=>R.ldE (K 17 _ O) (SC.sl (K 13 _ O)) (map_get! (l:=p.t.outs) bU) O O O O H,Zt⟩ O O O O (⟨O,_,R.alloc O (nU O),⟨O,_,R.stZ (gU 8 O) (xU 8 O) O (gV 18 O) (by rfl) (by rfl) (by rfl) (by rfl) O,tV [(0,_),(4,_),(5,_),(8,_),(13,_),(14,_),(15,_)] [(8,.var _),(5,.var _),(4,.var _),(0,mpK placeK natD _)] 37 O O O ?_⟩⟩)
   refine W.seq ?_
   refine W.l0 3 [.y 19 _,.y 20 _,.y 21 _] [] [] [(0,_),(4,_),(5,_),(13,_),(14,_),(15,_),(21,_)] [(8,.var _),(5,.var _),(4,.var _),(0,mpK placeK natD _)] 37 ⟨aU (lU 8 O O O O O O O),aU (lU 5 O O O O O O O),aU fun _ _ H K=>R.callG hC (vpays_ok p.t.outs[n]! sc (hp.out (by omega))) (Bc (Bp (eU K 19 O) O O) (Bc (Bp (eU K 20 O) O O) Bn)) (FrsR.one (.bool _)) H,Zt⟩ O O O O (tU O ?_)
   refine W.cond O (fun hc21=>?_) (fun hc21=>?_)
   · refine W.seq ?_
     refine W.dropBP [0,4,5] (bx':=[(5,.var _),(4,.var _),(0,mpK placeK natD _)]) O O ⟨O,⟨O,⟨okMpK (fun _=>rfl) (fun _=>rfl),Zt⟩⟩⟩ (pin_sub hD O) ?_
     refine W.l0 1 [.y 6 _] [] [] [(6,_)] [(5,.var _),(4,.var _),(0,mpK placeK natD _)] 37 ⟨aU fun _ _ H _=>R.asg (kB true O) O H,Zt⟩ O O O O (tU O ?_)
     refine W.ret ?_
     exact EndsB.one' (.inr O) O (by rw [tch_1 hc21 hc16]) O Zt O O (O) ⟨okPm _ _,Zt⟩ O
   · refine W.skip ?_
     refine W.dropBP [0,4,5] (bx':=[(5,.var _),(4,.var _),(0,mpK placeK natD _)]) O O ⟨O,⟨O,⟨okMpK (fun _=>rfl) (fun _=>rfl),Zt⟩⟩⟩ (pin_sub hD O) ?_
     refine W.l0 2 [.y 22 _,.y 15 _] [] [] [(0,_),(4,_),(5,_),(13,_),(14,_),(15,_)] [(5,.var _),(4,.var _),(0,mpK placeK natD _)] 37 ⟨aU fun _ _ H K=>R.addN (n) (1) (eU K 15 O) (kI 1 O) bU H,mU 22 O O,Zt⟩ O O O O (tU O ?_)
     exact ⟨⟨(n + 1),⟨(by show n + 1 <= p.t.outs.length; omega),orV_n hno hc21⟩⟩,rfl,(by simp only []; omega)⟩
 · obtain rfl : n = p.t.outs.length:=by omega
   have hnoA:=hno
   refine W.exit (W.seq (W.seq ?_))
   refine W.l0 5 [.y 23 _,.y 24 _,.y 25 _,.y 26 _,.y 27 _] [] [] [(0,_),(25,_),(26,_),(27,_)] [(5,.var _),(4,.var _),(0,mpK placeK natD _)] 37 ⟨aU (fU 4 O O),aU (fU 23 O O),aU (lU 24 O O O O O O O),aU fun _ _ H K=>R.lenE (SC.sl (K 25 _ O)) (lN _) H,aU fun _ _ H _=>R.mov (kI 0 O) O H,Zt⟩ O O O O (tU O ?_)
   refine W.block ?_
   refine W.loop (α:={q__ : Nat // q__ <= p.t.ins.length /\ inV ks p.t q__ = false}) (fun q__=>⟨37,[(0,.map 0),(25,.sl none 36 (p.t.ins.map inD)),(26,.int ((p.t.ins.length : Nat) : Int)),(27,.int ((q__.1 : Nat) : Int))],[(5,.var (hashD sc)),(4,.var (pvD p)),(0,mpK placeK natD (cntL ks))]⟩) (fun q__=>p.t.ins.length - q__.1) ⟨(0),⟨Nat.zero_le _,O⟩⟩ O ?_
   rintro ⟨n,⟨hn2,hno2⟩⟩
   show W _ _ _ _ ⟨37,[(0,.map 0),(25,.sl none 36 (p.t.ins.map inD)),(26,.int ((p.t.ins.length : Nat) : Int)),(27,.int ((n : Nat) : Int))],[(5,.var (hashD sc)),(4,.var (pvD p)),(0,mpK placeK natD (cntL ks))]⟩
   have hn2 : n <= p.t.ins.length:=hn2
   have hno2 : inV ks p.t n = false:=hno2
   refine W.seq ?_
   refine W.l0 1 [.y 28 _] [] [] [(0,_),(25,_),(26,_),(27,_),(28,_)] [(5,.var _),(4,.var _),(0,mpK placeK natD _)] 37 ⟨aU fun _ _ H K=>R.lssN (n) (p.t.ins.length) (eU K 27 O) (eU K 26 O) H,Zt⟩ O O O O (tU O ?_)
   refine W.seq ?_
   refine W.condD O (fun hc28=>?_) (fun hc28=>?_)
   · refine W.skip (W.seq (W.block (W.seq ?_)))
     refine W.l0 4 [.y 29 _,.y 30 _] [] [] [(0,_),(25,_),(26,_),(27,_),(30,_)] [(5,.var _),(4,.var _),(0,mpK placeK natD _)] 37 ⟨aU fun _ _ H K=>R.idxN (n) (SC.sl (K 25 _ O)) (evoI (eU K 27 O)) O bU H dU,aU fun _ _ H K=>R.ldE (K 29 _ O) (SC.sl (K 25 _ O)) (map_get! (l:=p.t.ins) bU) O O O O H,Zt⟩ O O O O (⟨O,_,R.alloc O (nU O),⟨O,_,R.stZ (gU 10 O) (xU 10 O) O (gV 30 O) (by rfl) (by rfl) (by rfl) (by rfl) O,tV [(0,_),(10,_),(25,_),(26,_),(27,_)] [(10,.var _),(5,.var _),(4,.var _),(0,mpK placeK natD _)] 37 O O O ?_⟩⟩)
     refine W.seq ?_
     refine W.l0 5 [.y 31 _,.y 32 _,.y 33 _,.y 34 _,.y 35 _] [] [] [(0,_),(25,_),(26,_),(27,_),(35,_)] [(10,.var _),(5,.var _),(4,.var _),(0,mpK placeK natD _)] 37 ⟨mU 0 O O,aU (fU 10 O O),aU (lU 32 O O O O O O O),aU fun _ B H K=>R.lookKv (m:=(cntL ks)) (k:=(plc p.t.ins[n]!)) (z:=0) place_key (K 31 _ O) (B 0 _ O) (eU K 33 O) O O (fun _=>rfl) H,aU fun _ _ H K=>R.gtrN ((kGet 0 (cntL ks) (plc p.t.ins[n]!))) (0) (eU K 34 O) (kI 0 O) H,Zt⟩ O O O O (tU O ?_)
     refine W.condD O (fun hc35=>?_) (fun hc35=>?_)
     · refine W.seq ?_
       refine W.dropBP [0,4,5] (bx':=[(5,.var _),(4,.var _),(0,mpK placeK natD _)]) O O ⟨O,⟨O,⟨okMpK (fun _=>rfl) (fun _=>rfl),Zt⟩⟩⟩ (pin_sub hD O) ?_
       refine W.l0 1 [.y 6 _] [] [] [(6,_)] [(5,.var _),(4,.var _),(0,mpK placeK natD _)] 37 ⟨aU fun _ _ H _=>R.asg (kB true O) O H,Zt⟩ O O O O (tU O ?_)
       refine W.ret ?_
       exact EndsB.one' (.inr O) O (by rw [tch_2 hc35 hc28]) O Zt O O (O) ⟨okPm _ _,Zt⟩ O
     · refine W.skip ?_
       refine W.dropBP [0,4,5] (bx':=[(5,.var _),(4,.var _),(0,mpK placeK natD _)]) O O ⟨O,⟨O,⟨okMpK (fun _=>rfl) (fun _=>rfl),Zt⟩⟩⟩ (pin_sub hD O) ?_
       refine W.l0 2 [.y 36 _,.y 27 _] [] [] [(0,_),(25,_),(26,_),(27,_)] [(5,.var _),(4,.var _),(0,mpK placeK natD _)] 37 ⟨aU fun _ _ H K=>R.addN (n) (1) (eU K 27 O) (kI 1 O) bU H,mU 36 O O,Zt⟩ O O O O (tU O ?_)
       exact ⟨⟨(n + 1),⟨(by show n + 1 <= p.t.ins.length; omega),inV_n hno2 hc35⟩⟩,rfl,(by simp only []; omega)⟩
   · obtain rfl : n = p.t.ins.length:=by omega
     refine W.exit (W.seq ?_)
     refine W.l0 1 [.y 6 _] [] [] [(6,_)] [(5,.var _),(4,.var _),(0,mpK placeK natD _)] 37 ⟨aU fun _ _ H _=>R.asg (kB false O) O H,Zt⟩ O O O O (tU O ?_)
     refine W.ret ?_
     exact EndsB.one' (.inr O) O (by rw [tch_3 hnoA hno2]) O Zt O O (O) ⟨okPm _ _,Zt⟩ O
end Go.Sx

namespace Go.Sx
open Go.Proofs
theorem vhist_ok (l : List PvS) (hl : allPv l) (sc : Hs) : Fn Tryd.prog gl 13 [.sl none 72 (l.map pvD),hashD sc] (.sl (some 58) 33 ((hvS l sc).map enD)):=by
 refine Fn.of (n:=31) Tryd.func13 rfl rfl rfl (nU rfl) fun C hC hD=>?_
 have hl1:=hl.1
 refine W.seq ?_
 refine W.l0 2 [] [] [] [(0,_),(1,_)] [] 31 Zt O O O O (⟨O,_,R.box (gV 1 O) O O (nU O),⟨O,_,R.asg (kN O) O (nU O),tV [(0,_),(3,_),(4,_)] [(3,.var _)] 31 O O O ?_⟩⟩)
 refine W.seq ?_
 refine W.l0 4 [.y 8 _,.y 9 _] [] [] [(0,_),(3,_),(4,_),(8,_),(9,_)] [(3,.var _)] 31 ⟨mU 0 O O,aU (lU 3 O O O O O O O),Zt⟩ O O O O (⟨O,_,R.callB [(10,10)] hC (paying_ok l hl sc) (EvB.cons (gV 8 O) O O O (EvB.cons (gV 9 O) O O O EvB.nil)) O Zt Zt O (renPm _ _ _ _) O O O O (nU O),⟨O,_,R.asg (gV 10 O) O (nU O),tV [(0,_),(3,_),(4,_),(5,_)] [(10,mpK placeK natD _),(3,.var _)] 31 O O O ?_⟩⟩)
 refine W.seq (W.seq ?_)
 refine W.l0 3 [.y 11 _,.y 12 _,.y 13 _] [] [] [(3,_),(4,_),(5,_),(11,_),(12,_),(13,_)] [(10,mpK placeK natD _),(3,.var _)] 31 ⟨mU 0 O O,aU fun _ _ H K=>R.lenE (SC.sl (K 11 _ O)) (lN _) H,aU fun _ _ H _=>R.mov (kI 0 O) O H,Zt⟩ O O O O (tU O ?_)
 refine W.block ?_
 refine W.asOwn (s:=4) 58 33 O ?_
 refine W.loop (α:={q__ : Nat // q__ <= l.length}) (fun q__=>⟨31,[(3,.ptr 3 0 []),(4,.sl (some 58) 33 ((hvI l sc q__.1).map enD)),(5,.map 10),(11,.sl none 72 (l.map pvD)),(12,.int ((l.length : Nat) : Int)),(13,.int ((q__.1 : Nat) : Int))],[(10,mpK placeK natD (cntL (pyI l sc l.length))),(3,.var (hashD sc))]⟩) (fun q__=>l.length - q__.1) ⟨(0),bU⟩ O ?_
 rintro ⟨i,hi⟩
 show W _ _ _ _ ⟨31,[(3,.ptr 3 0 []),(4,.sl (some 58) 33 ((hvI l sc i).map enD)),(5,.map 10),(11,.sl none 72 (l.map pvD)),(12,.int ((l.length : Nat) : Int)),(13,.int ((i : Nat) : Int))],[(10,mpK placeK natD (cntL (pyI l sc l.length))),(3,.var (hashD sc))]⟩
 have hi : i <= l.length:=hi
 have hvl:=hvI_len l sc i
 refine W.seq ?_
 refine W.l0 1 [.y 14 _] [] [] [(3,_),(4,_),(5,_),(11,_),(12,_),(13,_),(14,_)] [(10,mpK placeK natD _),(3,.var _)] 31 ⟨aU fun _ _ H K=>R.lssN (i) (l.length) (eU K 13 O) (eU K 12 O) H,Zt⟩ O O O O (tU O ?_)
 refine W.seq ?_
 refine W.condD O (fun hc14=>?_) (fun hc14=>?_)
 · refine W.skip (W.seq (W.block (W.seq ?_)))
   refine W.l0 4 [.y 15 _,.y 16 _] [] [] [(3,_),(4,_),(5,_),(11,_),(12,_),(13,_),(16,_)] [(10,mpK placeK natD _),(3,.var _)] 31 ⟨aU fun _ _ H K=>R.idxN (i) (SC.sl (K 11 _ O)) (evoI (eU K 13 O)) O bU H dU,aU fun _ _ H K=>R.ldE (K 15 _ O) (SC.sl (K 11 _ O)) (map_get! (l:=l) bU) O O O O H,Zt⟩ O O O O (⟨O,_,R.alloc O (nU O),⟨O,_,R.stZ (gU 7 O) (xU 7 O) O (gV 16 O) (by rfl) (by rfl) (by rfl) (by rfl) O,tV [(3,_),(4,_),(5,_),(7,_),(11,_),(12,_),(13,_)] [(7,.var _),(10,mpK placeK natD _),(3,.var _)] 31 O O O ?_⟩⟩)
   refine W.seq ?_
   refine W.l0 4 [.y 17 _,.y 18 _,.y 19 _] [] [] [(3,_),(4,_),(5,_),(7,_),(11,_),(12,_),(13,_),(17,_),(18,_),(19,_)] [(7,.var _),(10,mpK placeK natD _),(3,.var _)] 31 ⟨mU 5 O O,aU (lU 7 O O O O O O O),aU (lU 3 O O O O O O O),Zt⟩ O O O O (⟨O,_,R.callB [(0,10)] hC (touches_ok (pyI l sc l.length) l[i]! sc (hl.get (by omega))) (EvB.cons (gV 17 O) O O O (EvB.cons (gV 18 O) O O O (EvB.cons (gV 19 O) O O O EvB.nil))) (renPm _ _ _ _) ⟨O,Zt⟩ ⟨okPm _ _,Zt⟩ (renPm _ _ _ _) O O O O O (nU O),tV [(3,_),(4,_),(5,_),(7,_),(11,_),(12,_),(13,_),(20,_)] [(7,.var _),(10,mpK placeK natD _),(3,.var _)] 31 O O O ?_⟩)
   refine W.cond O (fun hc20=>?_) (fun hc20=>?_)
   · refine W.l0 9 [.y 21 _,.y 22 _,.y 23 _,.y 24 _,.y 25 _,.y 26 _,.y 27 _,.y 28 _,.y 4 _] [(7,4),(8,28),(8,21)] [(7,4),(8,28)] [(3,_),(4,_),(5,_),(11,_),(12,_),(13,_)] [(7,.var _),(10,mpK placeK natD _),(3,.var _)] 31 ⟨aU fun _ _ H K=>R.al (K 4 _ O) H dU,aU (fU 7 O O),aU (lU 22 O O O O O O O),aU (fU 7 O O),aU (lU 24 O O O O O O O),aU fun _ _ H K=>R.bldSE (l:=[.int 0,.arr 32 1 ((List.replicate 32 0).map D.u8)]) (l':=[_,_]) (.cons (eU K 23 O) (.cons (eU K 25 O) (.nil O))) ⟨⟨_,(eU K 23 O),O,O,O⟩,⟨⟨_,(eU K 25 O),O,O,O⟩,Zt⟩⟩ H,aU fun _ _ H K=>R.bslE (z:=33) (.cons (eU K 26 O) .nil) ⟨⟨O,O,O⟩,Zt⟩ O H dU,aU fun _ _ H K=>R.appE (Or.inr (K 21 _ O)) (K 4 _ O) (SrcO.sc (SC.sl (K 27 _ O)) (pur_lit O)) (show _ = ((hvI l sc (i + 1)).map enD) from (hvI_app hc20)) (by simp only [List.length_map,List.length_cons,List.length_nil]; omega) H dU dU,aU fun _ _ H K=>R.asgO (K 28 _ O) O H dU,Zt⟩ O O O O (tU O ?_)
     refine W.dropBP [3,10] (bx':=[(10,mpK placeK natD _),(3,.var _)]) O O ⟨okMpK (fun _=>rfl) (fun _=>rfl),⟨O,Zt⟩⟩ (pin_sub hD O) ?_
     refine W.l0 2 [.y 29 _,.y 13 _] [] [] [(3,_),(4,_),(5,_),(11,_),(12,_),(13,_)] [(10,mpK placeK natD _),(3,.var _)] 31 ⟨aU fun _ _ H K=>R.addN (i) (1) (eU K 13 O) (kI 1 O) bU H,mU 29 O O,Zt⟩ O O O O (tU O ?_)
     exact ⟨⟨(i + 1),bU⟩,(by first | (dsimp only; rw [hvI_n hc20]) | rfl),(by simp only []; omega)⟩
   · refine W.skip ?_
     refine W.dropS (live:=[3,4,5,11,12,13]) (env':=[(3,_),(4,_),(5,_),(11,_),(12,_),(13,_)]) (bx':=[(7,.var _),(10,mpK placeK natD _),(3,.var _)]) (n':=31) O O O ?_
     refine W.dropBP [3,10] (bx':=[(10,mpK placeK natD _),(3,.var _)]) O O ⟨okMpK (fun _=>rfl) (fun _=>rfl),⟨O,Zt⟩⟩ (pin_sub hD O) ?_
     refine W.l0 2 [.y 29 _,.y 13 _] [] [] [(3,_),(4,_),(5,_),(11,_),(12,_),(13,_)] [(10,mpK placeK natD _),(3,.var _)] 31 ⟨aU fun _ _ H K=>R.addN (i) (1) (eU K 13 O) (kI 1 O) bU H,mU 29 O O,Zt⟩ O O O O (tU O ?_)
     exact ⟨⟨(i + 1),bU⟩,(by first | (dsimp only; rw [hvI_n hc20]) | rfl),(by simp only []; omega)⟩
 · obtain rfl : i = l.length:=by omega
   refine W.exit (W.seq ?_)
   refine W.l0 2 [.y 30 _,.y 4 _] [(0,4),(1,30)] [(0,4),(1,30)] [(4,_)] [(10,mpK placeK natD _),(3,.var _)] 31 ⟨aU fun _ _ H K=>R.movO (K 4 _ O) O H dU,aU fun _ _ H K=>R.asgO (K 30 _ O) O H dU,Zt⟩ O O O O (tU O ?_)
   refine W.ret ?_
   exact Ends.one' (.inr O) O (O) O O Zt
end Go.Sx

namespace Go.Sx
open Go.Proofs
theorem vuns_ok (l : List PvS) (hl : allPv l) (sc : Hs) : Fn Tryd.prog gl 16 [.sl none 72 (l.map pvD),hashD sc] (.sl (some 62) 35 ((uvS l sc).map unD')):=by
 refine Fn.of (n:=54) Tryd.func16 rfl rfl rfl (nU rfl) fun C hC hD=>?_
 have hl1:=hl.1
 refine W.seq ?_
 refine W.l0 2 [] [] [] [(0,_),(1,_)] [] 54 Zt O O O O (⟨O,_,R.box (gV 1 O) O O (nU O),⟨O,_,R.asg (kN O) O (nU O),tV [(0,_),(3,_),(4,_)] [(3,.var _)] 54 O O O ?_⟩⟩)
 refine W.seq ?_
 refine W.l0 3 [.y 11 _] [] [] [(0,_),(3,_),(4,_),(11,_)] [(3,.var _)] 54 ⟨mU 0 O O,Zt⟩ O O O O (⟨O,_,R.callB [(8,12)] hC (spent_ok l hl) (EvB.cons (gV 11 O) O O O EvB.nil) O Zt Zt O (renPm _ _ _ _) O O O O (nU O),⟨O,_,R.asg (gV 12 O) O (nU O),tV [(0,_),(3,_),(4,_),(5,_)] [(12,mpK placeK natD _),(3,.var _)] 54 O O O ?_⟩⟩)
 refine W.seq (W.seq ?_)
 refine W.l0 3 [.y 13 _,.y 14 _,.y 15 _] [] [] [(3,_),(4,_),(5,_),(13,_),(14,_),(15,_)] [(12,mpK placeK natD _),(3,.var _)] 54 ⟨mU 0 O O,aU fun _ _ H K=>R.lenE (SC.sl (K 13 _ O)) (lN _) H,aU fun _ _ H _=>R.mov (kI 0 O) O H,Zt⟩ O O O O (tU O ?_)
 refine W.block ?_
 refine W.asOwn (s:=4) 62 35 O ?_
 refine W.loop (α:={q__ : Nat // q__ <= l.length}) (fun q__=>⟨54,[(3,.ptr 3 0 []),(4,.sl (some 62) 35 ((uvI (spI l l.length) l sc q__.1).map unD')),(5,.map 12),(13,.sl none 72 (l.map pvD)),(14,.int ((l.length : Nat) : Int)),(15,.int ((q__.1 : Nat) : Int))],[(12,mpK placeK natD (cntL (spI l l.length))),(3,.var (hashD sc))]⟩) (fun q__=>l.length - q__.1) ⟨(0),bU⟩ O ?_
 rintro ⟨i,hi⟩
 show W _ _ _ _ ⟨54,[(3,.ptr 3 0 []),(4,.sl (some 62) 35 ((uvI (spI l l.length) l sc i).map unD')),(5,.map 12),(13,.sl none 72 (l.map pvD)),(14,.int ((l.length : Nat) : Int)),(15,.int ((i : Nat) : Int))],[(12,mpK placeK natD (cntL (spI l l.length))),(3,.var (hashD sc))]⟩
 have hi : i <= l.length:=hi
 have huv:=uvI_len (spI l l.length) hl sc i hi
 have hpo:=fun (h : i < l.length)=>(hl.get h).outs
 refine W.seq ?_
 refine W.l0 1 [.y 16 _] [] [] [(3,_),(4,_),(5,_),(13,_),(14,_),(15,_),(16,_)] [(12,mpK placeK natD _),(3,.var _)] 54 ⟨aU fun _ _ H K=>R.lssN (i) (l.length) (eU K 15 O) (eU K 14 O) H,Zt⟩ O O O O (tU O ?_)
 refine W.seq ?_
 refine W.condD O (fun hc16=>?_) (fun hc16=>?_)
 · refine W.skip (W.seq (W.block (W.seq ?_)))
   have hpo:=hpo hc16
   refine W.l0 4 [.y 17 _,.y 18 _] [] [] [(3,_),(4,_),(5,_),(13,_),(14,_),(15,_),(18,_)] [(12,mpK placeK natD _),(3,.var _)] 54 ⟨aU fun _ _ H K=>R.idxN (i) (SC.sl (K 13 _ O)) (evoI (eU K 15 O)) O bU H dU,aU fun _ _ H K=>R.ldE (K 17 _ O) (SC.sl (K 13 _ O)) (map_get! (l:=l) bU) O O O O H,Zt⟩ O O O O (⟨O,_,R.alloc O (nU O),⟨O,_,R.stZ (gU 7 O) (xU 7 O) O (gV 18 O) (by rfl) (by rfl) (by rfl) (by rfl) O,tV [(3,_),(4,_),(5,_),(7,_),(13,_),(14,_),(15,_)] [(7,.var _),(12,mpK placeK natD _),(3,.var _)] 54 O O O ?_⟩⟩)
   refine W.seq ?_
   refine W.l0 5 [.y 19 _,.y 20 _,.y 21 _,.y 22 _,.y 23 _] [] [] [(3,_),(4,_),(5,_),(7,_),(13,_),(14,_),(15,_),(21,_),(22,_),(23,_)] [(7,.var _),(12,mpK placeK natD _),(3,.var _)] 54 ⟨aU (fU 7 O O),aU (fU 19 O O),aU (lU 20 O O O O O O O),aU fun _ _ H K=>R.lenE (SC.sl (K 21 _ O)) (lN _) H,aU fun _ _ H _=>R.mov (kI 0 O) O H,Zt⟩ O O O O (tU O ?_)
   refine W.block ?_
   refine W.loop (α:={q__ : Nat // q__ <= l[i]!.t.outs.length}) (fun q__=>⟨54,[(3,.ptr 3 0 []),(4,.sl (some 62) 35 ((uvI (spI l l.length) l sc i ++ uvK (spI l l.length) l[i]! sc q__.1).map unD')),(5,.map 12),(7,.ptr 7 0 []),(13,.sl none 72 (l.map pvD)),(14,.int ((l.length : Nat) : Int)),(15,.int ((i : Nat) : Int)),(21,.sl none 2 (l[i]!.t.outs.map outD)),(22,.int ((l[i]!.t.outs.length : Nat) : Int)),(23,.int ((q__.1 : Nat) : Int))],[(7,.var (pvD l[i]!)),(12,mpK placeK natD (cntL (spI l l.length))),(3,.var (hashD sc))]⟩) (fun q__=>l[i]!.t.outs.length - q__.1) ⟨(0),bU⟩ (by rw [uvK,List.append_nil] <;> rfl) ?_
   rintro ⟨n,hn⟩
   show W _ _ _ _ ⟨54,[(3,.ptr 3 0 []),(4,.sl (some 62) 35 ((uvI (spI l l.length) l sc i ++ uvK (spI l l.length) l[i]! sc n).map unD')),(5,.map 12),(7,.ptr 7 0 []),(13,.sl none 72 (l.map pvD)),(14,.int ((l.length : Nat) : Int)),(15,.int ((i : Nat) : Int)),(21,.sl none 2 (l[i]!.t.outs.map outD)),(22,.int ((l[i]!.t.outs.length : Nat) : Int)),(23,.int ((n : Nat) : Int))],[(7,.var (pvD l[i]!)),(12,mpK placeK natD (cntL (spI l l.length))),(3,.var (hashD sc))]⟩
   have hn : n <= l[i]!.t.outs.length:=hn
   have hul:=uvK_len (spI l l.length) l[i]! sc n
   refine W.seq ?_
   refine W.l0 1 [.y 24 _] [] [] [(3,_),(4,_),(5,_),(7,_),(13,_),(14,_),(15,_),(21,_),(22,_),(23,_),(24,_)] [(7,.var _),(12,mpK placeK natD _),(3,.var _)] 54 ⟨aU fun _ _ H K=>R.lssN (n) (l[i]!.t.outs.length) (eU K 23 O) (eU K 22 O) H,Zt⟩ O O O O (tU O ?_)
   refine W.seq ?_
   refine W.condD O (fun hc24=>?_) (fun hc24=>?_)
   · refine W.skip (W.seq (W.block (W.seq ?_)))
     refine W.l0 6 [.y 25 _,.y 26 _,.y 27 _] [] [] [(3,_),(4,_),(5,_),(7,_),(13,_),(14,_),(15,_),(21,_),(22,_),(23,_),(25,_),(27,_)] [(7,.var _),(12,mpK placeK natD _),(3,.var _)] 54 ⟨mU 23 O O,aU fun _ _ H K=>R.idxN (n) (SC.sl (K 21 _ O)) (evoI (eU K 23 O)) O bU H dU,aU fun _ _ H K=>R.ldE (K 26 _ O) (SC.sl (K 21 _ O)) (map_get! (l:=l[i]!.t.outs) bU) O O O O H,Zt⟩ O O O O (⟨O,_,R.alloc O (nU O),⟨O,_,R.asg (gV 25 O) O (nU O),⟨O,_,R.stZ (gU 9 O) (xU 9 O) O (gV 27 O) (by rfl) (by rfl) (by rfl) (by rfl) O,tV [(3,_),(4,_),(5,_),(7,_),(8,_),(9,_),(13,_),(14,_),(15,_),(21,_),(22,_),(23,_)] [(9,.var _),(7,.var _),(12,mpK placeK natD _),(3,.var _)] 54 O O O ?_⟩⟩⟩)
     refine W.seq ?_
     refine W.l0 7 [.y 28 _,.y 29 _,.y 30 _,.y 31 _,.y 32 _] [] [] [(3,_),(4,_),(5,_),(7,_),(9,_),(13,_),(14,_),(15,_),(21,_),(22,_),(23,_),(32,_)] [(9,.var _),(7,.var _),(12,mpK placeK natD _),(3,.var _)] 54 ⟨aU (fU 7 O O),aU (lU 28 O O O O O O O),mU 8 O O,aU fun _ _ H K=>R.convE (d:=.u32 (nK n)) (eU K 30 O) O (O) H,aU fun _ _ H K=>R.bldSE (l:=[.arr 32 1 ((List.replicate 32 0).map D.u8),.u32 0]) (l':=[_,_]) (.cons (eU K 29 O) (.cons (eU K 31 O) (.nil O))) ⟨⟨_,(eU K 29 O),O,O,O⟩,⟨⟨_,(eU K 31 O),O,O,O⟩,Zt⟩⟩ H,Zt⟩ O O O O (⟨O,_,R.alloc O (nU O),⟨O,_,R.stZ (gU 10 O) (xU 10 O) O (gV 32 O) (by rfl) (by rfl) (by rfl) (by rfl) O,tV [(3,_),(4,_),(5,_),(7,_),(9,_),(10,_),(13,_),(14,_),(15,_),(21,_),(22,_),(23,_)] [(10,.var _),(9,.var _),(7,.var _),(12,mpK placeK natD _),(3,.var _)] 54 O O O ?_⟩⟩)
     refine W.seq ?_
     by_cases h6 : kGet 0 (cntL (spI l l.length)) (l[i]!.id,nK n) = 0
     · refine W.l0 9 [.y 33 _,.y 34 _,.y 35 _,.y 36 _,.y 37 _,.y 38 _,.y 39 _,.y 40 _,.y 41 _] [] [] [(3,_),(4,_),(5,_),(7,_),(9,_),(10,_),(13,_),(14,_),(15,_),(21,_),(22,_),(23,_),(41,_)] [(10,.var _),(9,.var _),(7,.var _),(12,mpK placeK natD _),(3,.var _)] 54 ⟨mU 5 O O,aU (lU 10 O O O O O O O),aU fun _ B H K=>R.lookKv (m:=(cntL (spI l l.length))) (k:=(l[i]!.id,nK n)) (z:=0) place_key (K 33 _ O) (B 12 _ O) (eU K 34 O) O O (fun _=>rfl) H,aU fun _ _ H K=>R.eqlN ((kGet 0 (cntL (spI l l.length)) (l[i]!.id,nK n))) (0) (eU K 35 O) (kI 0 O) H,mU 36 O O,aW O O (gT (dT h6) O) (lU 9 O O O O O O O),aW O O (gT (dT h6) O) (lU 3 O O O O O O O),aW O O (gT (dT h6) O) fun _ _ H K=>R.callG hC (vpays_ok l[i]!.t.outs[n]! sc ((hl.get (by omega)).out (by omega))) (Bc (Bp (eU K 38 O) O O) (Bc (Bp (eU K 39 O) O O) Bn)) (FrsR.one (.bool _)) H,aU fun _ _ H K=>R.pickT (eU K 37 O) (dT h6) (eU K 40 O) O H,Zt⟩ O O O O (tU O ?_)
       refine W.cond O (fun hc41=>?_) (fun hc41=>?_)
       · refine W.l0 10 [.y 42 _,.y 43 _,.y 44 _,.y 45 _,.y 46 _,.y 47 _,.y 48 _,.y 49 _,.y 50 _,.y 4 _] [(8,4),(9,50),(9,42)] [(8,4),(9,50)] [(3,_),(4,_),(5,_),(7,_),(13,_),(14,_),(15,_),(21,_),(22,_),(23,_)] [(10,.var _),(9,.var _),(7,.var _),(12,mpK placeK natD _),(3,.var _)] 54 ⟨aU fun _ _ H K=>R.al (K 4 _ O) H dU,aU (lU 10 O O O O O O O),aU (fU 9 O O),aU (lU 44 O O O O O O O),aU (fU 7 O O),aU (lU 46 O O O O O O O),aU fun _ _ H K=>R.bldSE (l:=[.agg [.arr 32 1 ((List.replicate 32 0).map D.u8),.u32 0],.u64 0,.int 0]) (l':=[_,_,_]) (.cons (eU K 43 O) (.cons (eU K 45 O) (.cons (eU K 47 O) (.nil O)))) ⟨⟨_,(eU K 43 O),O,O,O⟩,⟨⟨_,(eU K 45 O),O,O,O⟩,⟨⟨_,(eU K 47 O),O,O,O⟩,Zt⟩⟩⟩ H,aU fun _ _ H K=>R.bslE (z:=35) (.cons (eU K 48 O) .nil) ⟨⟨O,O,O⟩,Zt⟩ O H dU,aU fun _ _ H K=>R.appE (Or.inr (K 42 _ O)) (K 4 _ O) (SrcO.sc (SC.sl (K 49 _ O)) (pur_lit O)) (show _ = ((uvI (spI l l.length) l sc i ++ uvK (spI l l.length) l[i]! sc (n + 1)).map unD') from (uvK_app _ ((uvC_1 h6).trans hc41))) (by simp only [List.length_map,List.length_append,List.length_cons,List.length_nil]; omega) H dU dU,aU fun _ _ H K=>R.asgO (K 50 _ O) O H dU,Zt⟩ O O O O (tU O ?_)
         refine W.dropBP [3,7,12] (bx':=[(7,.var _),(12,mpK placeK natD _),(3,.var _)]) O O ⟨O,⟨okMpK (fun _=>rfl) (fun _=>rfl),⟨O,Zt⟩⟩⟩ (pin_sub hD O) ?_
         refine W.l0 2 [.y 51 _,.y 23 _] [] [] [(3,_),(4,_),(5,_),(7,_),(13,_),(14,_),(15,_),(21,_),(22,_),(23,_)] [(7,.var _),(12,mpK placeK natD _),(3,.var _)] 54 ⟨aU fun _ _ H K=>R.addN (n) (1) (eU K 23 O) (kI 1 O) bU H,mU 51 O O,Zt⟩ O O O O (tU O ?_)
         exact ⟨⟨(n + 1),bU⟩,(by first | rfl | (dsimp only; rw [uvK_n (uvC_0 h6)]) | (dsimp only; rw [uvK_n ((uvC_1 h6).trans hc41)])),(by simp only []; omega)⟩
       · refine W.skip ?_
         refine W.dropS (live:=[3,4,5,7,13,14,15,21,22,23]) (env':=[(3,_),(4,_),(5,_),(7,_),(13,_),(14,_),(15,_),(21,_),(22,_),(23,_)]) (bx':=[(10,.var _),(9,.var _),(7,.var _),(12,mpK placeK natD _),(3,.var _)]) (n':=54) O O O ?_
         refine W.dropBP [3,7,12] (bx':=[(7,.var _),(12,mpK placeK natD _),(3,.var _)]) O O ⟨O,⟨okMpK (fun _=>rfl) (fun _=>rfl),⟨O,Zt⟩⟩⟩ (pin_sub hD O) ?_
         refine W.l0 2 [.y 51 _,.y 23 _] [] [] [(3,_),(4,_),(5,_),(7,_),(13,_),(14,_),(15,_),(21,_),(22,_),(23,_)] [(7,.var _),(12,mpK placeK natD _),(3,.var _)] 54 ⟨aU fun _ _ H K=>R.addN (n) (1) (eU K 23 O) (kI 1 O) bU H,mU 51 O O,Zt⟩ O O O O (tU O ?_)
         exact ⟨⟨(n + 1),bU⟩,(by first | rfl | (dsimp only; rw [uvK_n (uvC_0 h6)]) | (dsimp only; rw [uvK_n ((uvC_1 h6).trans hc41)])),(by simp only []; omega)⟩
     · refine W.l0 9 [.y 33 _,.y 34 _,.y 35 _,.y 36 _,.y 37 _,.x 38,.x 39,.x 40,.y 41 _] [] [] [(3,_),(4,_),(5,_),(7,_),(9,_),(10,_),(13,_),(14,_),(15,_),(21,_),(22,_),(23,_),(41,_)] [(10,.var _),(9,.var _),(7,.var _),(12,mpK placeK natD _),(3,.var _)] 54 ⟨mU 5 O O,aU (lU 10 O O O O O O O),aU fun _ B H K=>R.lookKv (m:=(cntL (spI l l.length))) (k:=(l[i]!.id,nK n)) (z:=0) place_key (K 33 _ O) (B 12 _ O) (eU K 34 O) O O (fun _=>rfl) H,aU fun _ _ H K=>R.eqlN ((kGet 0 (cntL (spI l l.length)) (l[i]!.id,nK n))) (0) (eU K 35 O) (kI 0 O) H,mU 36 O O,aF O O (gF (dF h6) O),aF O O (gF (dF h6) O),aF O O (gF (dF h6) O),aU fun _ _ H K=>R.pickF (eU K 37 O) (dF h6) (kB false O) O H,Zt⟩ O O O O (tU O ?_)
       refine W.condF O (O) ?_
       refine W.skip ?_
       refine W.dropS (live:=[3,4,5,7,13,14,15,21,22,23]) (env':=[(3,_),(4,_),(5,_),(7,_),(13,_),(14,_),(15,_),(21,_),(22,_),(23,_)]) (bx':=[(10,.var _),(9,.var _),(7,.var _),(12,mpK placeK natD _),(3,.var _)]) (n':=54) O O O ?_
       refine W.dropBP [3,7,12] (bx':=[(7,.var _),(12,mpK placeK natD _),(3,.var _)]) O O ⟨O,⟨okMpK (fun _=>rfl) (fun _=>rfl),⟨O,Zt⟩⟩⟩ (pin_sub hD O) ?_
       refine W.l0 2 [.y 51 _,.y 23 _] [] [] [(3,_),(4,_),(5,_),(7,_),(13,_),(14,_),(15,_),(21,_),(22,_),(23,_)] [(7,.var _),(12,mpK placeK natD _),(3,.var _)] 54 ⟨aU fun _ _ H K=>R.addN (n) (1) (eU K 23 O) (kI 1 O) bU H,mU 51 O O,Zt⟩ O O O O (tU O ?_)
       exact ⟨⟨(n + 1),bU⟩,(by first | rfl | (dsimp only; rw [uvK_n (uvC_0 h6)]) | (dsimp only; rw [uvK_n ((uvC_1 h6).trans hc41)])),(by simp only []; omega)⟩
   · obtain rfl : n = l[i]!.t.outs.length:=by omega
     refine W.exit ?_
     refine W.dropS (live:=[3,4,5,13,14,15]) (env':=[(3,_),(4,_),(5,_),(13,_),(14,_),(15,_)]) (bx':=[(7,.var _),(12,mpK placeK natD _),(3,.var _)]) (n':=54) O O O ?_
     refine W.dropBP [3,12] (bx':=[(12,mpK placeK natD _),(3,.var _)]) O O ⟨okMpK (fun _=>rfl) (fun _=>rfl),⟨O,Zt⟩⟩ (pin_sub hD O) ?_
     refine W.l0 2 [.y 52 _,.y 15 _] [] [] [(3,_),(4,_),(5,_),(13,_),(14,_),(15,_)] [(12,mpK placeK natD _),(3,.var _)] 54 ⟨aU fun _ _ H K=>R.addN (i) (1) (eU K 15 O) (kI 1 O) bU H,mU 52 O O,Zt⟩ O O O O (tU O ?_)
     exact ⟨⟨(i + 1),bU⟩,rfl,(by simp only []; omega)⟩
 · obtain rfl : i = l.length:=by omega
   refine W.exit (W.seq ?_)
   refine W.l0 2 [.y 53 _,.y 4 _] [(0,4),(1,53)] [(0,4),(1,53)] [(4,_)] [(12,mpK placeK natD _),(3,.var _)] 54 ⟨aU fun _ _ H K=>R.movO (K 4 _ O) O H dU,aU fun _ _ H K=>R.asgO (K 53 _ O) O H dU,Zt⟩ O O O O (tU O ?_)
   refine W.ret ?_
   exact Ends.one' (.inr O) O (O) O O Zt
end Go.Sx

namespace Go.Sx
open Go.Proofs
theorem vbal_ok (l : List PvS) (hl : allPv l) (sc : Hs) : Fn Tryd.prog gl 18 [.sl none 72 (l.map pvD),hashD sc] (.u64 (blS (uvS l sc))):=by
 refine Fn.of (n:=21) Tryd.func18 rfl rfl rfl (nU rfl) fun C hC hD=>?_
 have hl1:=hl.1
 have hul:=uvI_len (spI l l.length) hl sc l.length (Nat.le_refl _)
 have hul : (uvS l sc).length <= 1000 * l.length:=hul
 refine W.seq ?_
 refine W.l0 2 [] [] [] [(0,_),(1,_)] [] 21 Zt O O O O (⟨O,_,R.box (gV 1 O) O O (nU O),⟨O,_,R.asg (show ev _ _ (.const (.int .u64 0)) = some (.u64 0) from O) O (nU O),tV [(0,_),(3,_),(4,_)] [(3,.var _)] 21 O O O ?_⟩⟩)
 refine W.seq (W.seq ?_)
 refine W.l0 5 [.y 7 _,.y 8 _,.y 9 _,.y 10 _,.y 11 _] [] [] [(4,_),(9,_),(10,_),(11,_)] [(3,.var _)] 21 ⟨mU 0 O O,aU (lU 3 O O O O O O O),aU fun _ _ H K=>R.callG hC (vuns_ok l hl sc) (Bc (Bp (eU K 7 O) O O) (Bc (Bp (eU K 8 O) O O) Bn)) (frs_uns _ _ _) H,aU fun _ _ H K=>R.lenE (SC.sl (K 9 _ O)) (lN _) H,aU fun _ _ H _=>R.mov (kI 0 O) O H,Zt⟩ O O O O (tU O ?_)
 refine W.block ?_
 refine W.loop (α:={q__ : Nat // q__ <= (uvS l sc).length}) (fun q__=>⟨21,[(4,.u64 (blI (uvS l sc) q__.1)),(9,.sl (some 62) 35 ((uvS l sc).map unD')),(10,.int (((uvS l sc).length : Nat) : Int)),(11,.int ((q__.1 : Nat) : Int))],[(3,.var (hashD sc))]⟩) (fun q__=>(uvS l sc).length - q__.1) ⟨(0),bU⟩ O ?_
 rintro ⟨i,hi⟩
 show W _ _ _ _ ⟨21,[(4,.u64 (blI (uvS l sc) i)),(9,.sl (some 62) 35 ((uvS l sc).map unD')),(10,.int (((uvS l sc).length : Nat) : Int)),(11,.int ((i : Nat) : Int))],[(3,.var (hashD sc))]⟩
 have hi : i <= (uvS l sc).length:=hi
 refine W.seq ?_
 refine W.l0 1 [.y 12 _] [] [] [(4,_),(9,_),(10,_),(11,_),(12,_)] [(3,.var _)] 21 ⟨aU fun _ _ H K=>R.lssN (i) ((uvS l sc).length) (eU K 11 O) (eU K 10 O) H,Zt⟩ O O O O (tU O ?_)
 refine W.seq ?_
 refine W.condD O (fun hc12=>?_) (fun hc12=>?_)
 · refine W.skip (W.seq (W.block (W.seq ?_)))
   refine W.l0 4 [.y 13 _,.y 14 _] [] [] [(4,_),(9,_),(10,_),(11,_),(14,_)] [(3,.var _)] 21 ⟨aU fun _ _ H K=>R.idxN (i) (SC.sl (K 9 _ O)) (evoI (eU K 11 O)) O bU H dU,aU fun _ _ H K=>R.ldE (K 13 _ O) (SC.sl (K 9 _ O)) (map_get! (l:=(uvS l sc)) bU) O O O O H,Zt⟩ O O O O (⟨O,_,R.alloc O (nU O),⟨O,_,R.stZ (gU 6 O) (xU 6 O) O (gV 14 O) (by rfl) (by rfl) (by rfl) (by rfl) O,tV [(4,_),(6,_),(9,_),(10,_),(11,_)] [(6,.var _),(3,.var _)] 21 O O O ?_⟩⟩)
   refine W.l0 5 [.y 15 _,.y 16 _,.y 17 _,.y 18 _,.y 4 _] [] [] [(4,_),(9,_),(10,_),(11,_)] [(6,.var _),(3,.var _)] 21 ⟨mU 4 O O,aU (fU 6 O O),aU (lU 16 O O O O O O O),aU fun _ _ H K=>R.bin (eU K 15 O) (eU K 17 O) O Zt H,aU fun _ _ H K=>R.asg (eU K 18 O) O H,Zt⟩ O O O O (tU O ?_)
   refine W.dropB [3] (bx':=[(3,.var _)]) O O O (pin_sub hD O) ?_
   refine W.l0 2 [.y 19 _,.y 11 _] [] [] [(4,_),(9,_),(10,_),(11,_)] [(3,.var _)] 21 ⟨aU fun _ _ H K=>R.addN (i) (1) (eU K 11 O) (kI 1 O) bU H,mU 19 O O,Zt⟩ O O O O (tU O ?_)
   exact ⟨⟨(i + 1),bU⟩,(by rw [blI] <;> rfl),(by simp only []; omega)⟩
 · obtain rfl : i = (uvS l sc).length:=by omega
   refine W.exit (W.seq ?_)
   refine W.l0 2 [.y 20 _,.y 4 _] [] [] [(4,_)] [(3,.var _)] 21 ⟨mU 4 O O,aU fun _ _ H K=>R.asg (eU K 20 O) O H,Zt⟩ O O O O (tU O ?_)
   refine W.ret ?_
   exact Ends.one' (.inr O) O (O) O O Zt
end Go.Sx

namespace Go.Sx
open Go.Proofs
theorem wk25_ok : Fn Tryd.prog gl 7 [] (.bool true):=by
 refine Fn.of (n:=43) Tryd.func7 rfl rfl rfl (nU rfl) fun C hC hD=>?_
 have hmw:=tou_pv (blkS_all wkPs).1 [1]
 have hwl : ((touS (blkS wkPs) [1]).map pvO).length = 2:=wk_len
 refine W.seq ?_
 refine W.l0 1 [.y 0 _] [] [] [] [] 43 ⟨aU fun _ _ H _=>R.asg (kB false O) O H,Zt⟩ O O O O (tU O ?_)
 refine W.seq ?_
 refine W.l0 11 [.y 3 _,.y 4 _,.y 5 _,.y 6 _,.y 7 _,.y 8 _,.y 9 _,.y 10 _,.y 11 _,.y 12 _,.y 1 _] [(3,5),(4,6),(5,7),(6,8)] [(3,5),(4,6),(5,7),(6,8)] [(1,_)] [] 43 ⟨aU fun _ _ H _=>R.callPE hC (easy_ok) (EvP.cons (kI 10 O) O O (EvP.cons (show ev _ _ (.const (.int .u32 10)) = some (.u32 10) from O) O O EvP.nil)) H,aU fun _ _ H _=>R.bldSE (l:=[.u8 0,.nils,.u8 0]) (l':=[_,_,_]) (.cons (show ev _ _ (.const (.int .u8 1)) = some (.u8 1) from O) (.nil O)) ⟨⟨_,(show ev _ _ (.const (.int .u8 1)) = some (.u8 1) from O),O,O,O⟩,Zt⟩ H,aU fun _ _ H _=>R.bslE (z:=1) (.cons (show ev _ _ (.const (.int .u8 1)) = some (.u8 1) from O) .nil) ⟨⟨O,O,O⟩,Zt⟩ O H dU,aU fun _ _ H K=>R.bldO (l:=[.u8 0,.bool false,.nils,.u8 0,.u8 0]) (l':=[_,_,_,_,_]) (.own (K 5 _ O) O O O O (.nil O)) O H,aU fun _ _ H K=>R.bslO (z:=5) (.own (K 6 _ O) O O O O .nil) O O H dU,aU fun _ _ H K=>R.bldO (l:=[.u8 0,.nils,.u8 0]) (l':=[_,_,_]) (.pur (show ev _ _ (.const (.int .u8 2)) = some (.u8 2) from O) O O O (.own (K 7 _ O) O O O O (.nil O))) O H,aU fun _ _ H K=>R.frzT (r':=.sl none 3 (wkPs.map plD)) (R.wkT (r':=.sl (some 77) 3 (wkPs.map plOwn)) (R.bslO (z:=3) (.pur (eU K 4 O) O O O (.own (K 8 _ O) O O O O .nil)) O O H dU) O O (wk_plans)) O (brw_plans _),aU fun _ _ H K=>R.callPE hC (blocks15_ok wkPs wkPs_ok) (EvP.cons (eU K 3 O) O O (EvP.cons (eU K 9 O) O O EvP.nil)) H,aU fun _ _ H _=>R.frzT (r':=.sl none 1 ([1].map D.u8)) (R.bslE (z:=1) (.cons (show ev _ _ (.const (.int .u8 1)) = some (.u8 1) from O) .nil) ⟨⟨O,O,O⟩,Zt⟩ O H dU) O (brw_one _ _ _),aU fun _ _ H K=>R.callPE hC (tou25_ok (blkS wkPs) (blkS_all wkPs).1 [1] dU) (EvP.cons (eU K 10 O) O O (EvP.cons (eU K 11 O) O O EvP.nil)) H,aU fun _ _ H K=>R.asg (eU K 12 O) O H,Zt⟩ O O O O (tU O ?_)
 refine W.seq (W.seq ?_)
 refine W.l0 3 [.y 13 _,.y 14 _,.y 15 _] [] [] [(1,_),(15,_)] [] 43 ⟨mU 1 O O,aU fun _ _ H K=>R.lenE (SC.sl (K 13 _ O)) (lN _) H,aU fun _ _ H K=>R.neqN (((touS (blkS wkPs) [1]).map pvO).length) (2) (eU K 14 O) (kI 2 O) H,Zt⟩ O O O O (tU O ?_)
 refine W.condF O (dF (fun h=>h hwl)) ?_
 refine W.skip (W.seq ?_)
 refine W.l0 3 [.y 16 _] [] [] [(1,_),(16,_)] [] 43 ⟨aU fun _ _ H _=>R.callG hC (sum15_ok 1) (Bc (Bp (show ev _ _ (.const (.int .u8 1)) = some (.u8 1) from O) O O) Bn) (FrsR.one (frs_hash' _)) H,Zt⟩ O O O O (⟨O,_,R.alloc O (nU O),⟨O,_,R.stZ (gU 2 O) (xU 2 O) O (gV 16 O) (by rfl) (by rfl) (by rfl) (by rfl) O,tV [(1,_),(2,_)] [(2,.var _)] 43 O O O ?_⟩⟩)
 refine W.seq ?_
 refine W.draw (m:=27) (an:=(0 :: 0 :: 3 :: 7 :: 15 :: 31 :: 63 :: 63 :: 255 :: 511 :: 1023 :: 2047 :: 4095 :: 8191 :: 8191 :: 32767 :: 65535 :: 131071 :: 262143 :: 524287 :: 1048575 :: 524287 :: 4194303 :: 8388607 :: 16777215 :: 33554431 :: 67108863 :: [])) hP dU O (its:=(.y 17 _ :: .y 18 _ :: .y 19 _ :: .y 20 _ :: .y 21 _ :: .y 22 _ :: .y 23 _ :: .y 24 _ :: .y 25 _ :: .y 26 _ :: .y 27 _ :: .y 28 _ :: .y 29 _ :: .y 30 _ :: .y 31 _ :: .y 32 _ :: .y 33 _ :: .y 34 _ :: .y 35 _ :: .y 36 _ :: .y 37 _ :: .y 38 _ :: .y 39 _ :: .y 40 _ :: .y 41 _ :: .y 42 _ :: .y 0 _ :: [])) (ks:=[]) (kk:=[]) (live:=[0]) (env':=[(0,_)]) (⟨nU O,O,⟨mU 1 O O,aU (lU 2 O O O O O O O),aU fun _ _ H K=>R.callG hC (vhist_ok ((touS (blkS wkPs) [1]).map pvO) hmw (sumK 1)) (Bc (Bp (eU K 17 O) O O) (Bc (Bp (eU K 18 O) O O) Bn)) (frs_ens _ _ _) H,aU fun _ _ H K=>R.lenE (SC.sl (K 19 _ O)) (lN _) H,aU fun _ _ H K=>R.eqlN ((hvS ((touS (blkS wkPs) [1]).map pvO) (sumK 1)).length) (2) (eU K 20 O) (kI 2 O) H,mU 21 O O,aW O O (gT (dT wk_h) O) fun _ _ H K=>R.mov (eU K 1 O) O H,aW O O (gT (dT wk_h) O) (lU 2 O O O O O O O),aW O O (gT (dT wk_h) O) fun _ _ H K=>R.callG hC (vuns_ok ((touS (blkS wkPs) [1]).map pvO) hmw (sumK 1)) (Bc (Bp (eU K 23 O) O O) (Bc (Bp (eU K 24 O) O O) Bn)) (frs_uns _ _ _) H,aW O O (gT (dT wk_h) O) fun _ _ H K=>R.lenE (SC.sl (K 25 _ O)) (lN _) H,aW O O (gT (dT wk_h) O) fun _ _ H K=>R.eqlN ((uvS ((touS (blkS wkPs) [1]).map pvO) (sumK 1)).length) (1) (eU K 26 O) (kI 1 O) H,aU fun _ _ H K=>R.pickT (eU K 22 O) (dT wk_h) (eU K 27 O) O H,mU 28 O O,aW O O (gT (dT wk_u) O) fun _ _ H K=>R.mov (eU K 1 O) O H,aW O O (gT (dT wk_u) O) (lU 2 O O O O O O O),aW O O (gT (dT wk_u) O) fun _ _ H K=>R.callG hC (vbal_ok ((touS (blkS wkPs) [1]).map pvO) hmw (sumK 1)) (Bc (Bp (eU K 30 O) O O) (Bc (Bp (eU K 31 O) O O) Bn)) (FrsR.one (.u64 _)) H,aW O O (gT (dT wk_u) O) fun _ _ H K=>R.bin (eU K 32 O) (show ev _ _ (.const (.int .u64 5000)) = some (.u64 5000) from O) O Zt H,aU fun _ _ H K=>R.pickT (eU K 29 O) (dT wk_u) (eU K 33 O) O H,mU 34 O O,aW O O (gT (dT wk_b) O) fun _ _ H K=>R.mov (eU K 1 O) O H,aW O O (gT (dT wk_b) O) fun _ _ H K=>R.slIN (1) (((touS (blkS wkPs) [1]).map pvO).length) ((((touS (blkS wkPs) [1]).map pvO).length - 1)) (eU K 36 O) (evoI (kI 1 O)) O O (by simp) bU bU O (rest_map) H,aW O O (gT (dT wk_b) O) (lU 2 O O O O O O O),aW O O (gT (dT wk_b) O) fun _ _ H K=>R.callG hC (vhist_ok (((touS (blkS wkPs) [1]).map pvO).drop 1) (pv_drop hmw 1) (sumK 1)) (Bc (Bp (eU K 37 O) O O) (Bc (Bp (eU K 38 O) O O) Bn)) (frs_ens _ _ _) H,aW O O (gT (dT wk_b) O) fun _ _ H K=>R.lenE (SC.sl (K 39 _ O)) (lN _) H,aW O O (gT (dT wk_b) O) fun _ _ H K=>R.eqlN ((hvS (((touS (blkS wkPs) [1]).map pvO).drop 1) (sumK 1)).length) (1) (eU K 40 O) (kI 1 O) H,aU fun _ _ H K=>R.pickT (eU K 35 O) (dT wk_b) (eU K 41 O) O H,aU fun _ _ H K=>R.asg (eU K 42 O) O H,Zt⟩,O,O,O⟩) O (bx':=[(2,.var _)]) O (n':=43) O (tV [(0,_)] [(2,.var _)] 43 O O O ?_)
 refine W.ret ?_
 exact Ends.one' (.inr O) O (by rw [dT wk_h1]) O O Zt
end Go.Sx

namespace Go.Sx
open Go.Proofs
theorem few25_ok (l : List PvS) : Fn Tryd.prog gl 6 [.sl none 72 (l.map pvD)] (.bool (fewS l)):=by
 refine Fn.of (n:=55) Tryd.func6 rfl rfl rfl (nU rfl) fun C hC hD=>?_
 refine W.seq ?_
 refine W.l0 1 [.y 2 _] [] [] [(0,_)] [] 55 ⟨aU fun _ _ H _=>R.asg (kB false O) O H,Zt⟩ O O O O (tU O ?_)
 refine W.seq (W.seq ?_)
 refine W.l0 3 [.y 5 _,.y 6 _,.y 7 _] [] [] [(0,_),(7,_)] [] 55 ⟨mU 0 O O,aU fun _ _ H K=>R.lenE (SC.sl (K 5 _ O)) (lN _) H,aU fun _ _ H K=>R.gtrN (l.length) (40) (eU K 6 O) (kI 40 O) H,Zt⟩ O O O O (tU O ?_)
 refine W.condD O (fun hc7=>?_) (fun hc7=>?_)
 · refine W.seq ?_
   refine W.l0 1 [.y 2 _] [] [] [(2,_)] [] 55 ⟨aU fun _ _ H _=>R.asg (kB false O) O H,Zt⟩ O O O O (tU O ?_)
   refine W.ret ?_
   exact Ends.one' (.inr O) O (by rw [few_1 hc7]) O O Zt
 · refine W.skip (W.seq (W.seq ?_))
   refine W.l0 1 [.y 3 _] [] [] [(0,_),(3,_)] [] 55 ⟨aU fun _ _ H _=>R.asg (kI 0 O) O H,Zt⟩ O O O O (tU O ?_)
   refine W.block ?_
   refine W.loop (α:={q__ : Nat // q__ <= l.length /\ ∀ q < q__,fewP l[q]!}) (fun q__=>⟨55,[(0,.sl none 72 (l.map pvD)),(3,.int ((q__.1 : Nat) : Int))],[]⟩) (fun q__=>l.length - q__.1) ⟨(0),⟨Nat.zero_le _,fun q hq=>absurd hq (Nat.not_lt_zero _)⟩⟩ O ?_
   rintro ⟨i,⟨hi,hno⟩⟩
   show W _ _ _ _ ⟨55,[(0,.sl none 72 (l.map pvD)),(3,.int ((i : Nat) : Int))],[]⟩
   have hi : i <= l.length:=hi
   have hno : ∀ q < i,fewP l[q]!:=hno
   refine W.seq (W.seq ?_)
   refine W.l0 4 [.y 8 _,.y 9 _,.y 10 _,.y 11 _] [] [] [(0,_),(3,_),(11,_)] [] 55 ⟨mU 3 O O,mU 0 O O,aU fun _ _ H K=>R.lenE (SC.sl (K 9 _ O)) (lN _) H,aU fun _ _ H K=>R.lssN (i) (l.length) (eU K 8 O) (eU K 10 O) H,Zt⟩ O O O O (tU O ?_)
   refine W.condD O (fun hc11=>?_) (fun hc11=>?_)
   · refine W.skip (W.seq (W.block (W.seq (W.seq ?_))))
     by_cases h1 : 8 < l[i]!.t.ins.length
     · refine W.l0 18 [.y 14 _,.y 15 _,.y 16 _,.y 17 _,.y 18 _,.y 19 _,.y 20 _,.y 21 _,.y 22 _,.x 23,.x 24,.x 25,.x 26,.x 27,.x 28,.x 29,.x 30,.y 31 _] [] [] [(0,_),(3,_),(31,_)] [] 55 ⟨mU 0 O O,mU 3 O O,aU fun _ _ H K=>R.idxN (i) (SC.sl (K 14 _ O)) (evoI (eU K 15 O)) O bU H dU,aU fun _ _ H K=>R.fdE (K 16 _ O) H dU,aU fun _ _ H K=>R.fdE (K 17 _ O) H dU,aU fun _ _ H K=>R.ldE (K 18 _ O) (SC.sl (K 14 _ O)) (map_get! (l:=l) bU) O O O O H,aU fun _ _ H K=>R.lenE (SC.sl (K 19 _ O)) (lN _) H,aU fun _ _ H K=>R.gtrN (l[i]!.t.ins.length) (8) (eU K 20 O) (kI 8 O) H,mU 21 O O,aF O O (gT (dT h1) O),aF O O (gT (dT h1) O),aF O O (gT (dT h1) O),aF O O (gT (dT h1) O),aF O O (gT (dT h1) O),aF O O (gT (dT h1) O),aF O O (gT (dT h1) O),aF O O (gT (dT h1) O),aU fun _ _ H K=>R.pickT (eU K 22 O) (dT h1) (kB true O) O H,Zt⟩ O O O O (tU O ?_)
       refine W.condT O (O) ?_
       refine W.seq ?_
       refine W.l0 1 [.y 2 _] [] [] [(2,_)] [] 55 ⟨aU fun _ _ H _=>R.asg (kB false O) O H,Zt⟩ O O O O (tU O ?_)
       refine W.ret ?_
       exact Ends.one' (.inr O) O (by rw [few_2 hc11 (fun h=>by have:=h.1; omega)]) O O Zt
     · refine W.l0 18 [.y 14 _,.y 15 _,.y 16 _,.y 17 _,.y 18 _,.y 19 _,.y 20 _,.y 21 _,.y 22 _,.y 23 _,.y 24 _,.y 25 _,.y 26 _,.y 27 _,.y 28 _,.y 29 _,.y 30 _,.y 31 _] [] [] [(0,_),(3,_),(31,_)] [] 55 ⟨mU 0 O O,mU 3 O O,aU fun _ _ H K=>R.idxN (i) (SC.sl (K 14 _ O)) (evoI (eU K 15 O)) O bU H dU,aU fun _ _ H K=>R.fdE (K 16 _ O) H dU,aU fun _ _ H K=>R.fdE (K 17 _ O) H dU,aU fun _ _ H K=>R.ldE (K 18 _ O) (SC.sl (K 14 _ O)) (map_get! (l:=l) bU) O O O O H,aU fun _ _ H K=>R.lenE (SC.sl (K 19 _ O)) (lN _) H,aU fun _ _ H K=>R.gtrN (l[i]!.t.ins.length) (8) (eU K 20 O) (kI 8 O) H,mU 21 O O,aW O O (gF (dF h1) O) fun _ _ H K=>R.mov (eU K 0 O) O H,aW O O (gF (dF h1) O) fun _ _ H K=>R.mov (eU K 3 O) O H,aW O O (gF (dF h1) O) fun _ _ H K=>R.idxN (i) (SC.sl (K 23 _ O)) (evoI (eU K 24 O)) O bU H dU,aW O O (gF (dF h1) O) fun _ _ H K=>R.fdE (K 25 _ O) H dU,aW O O (gF (dF h1) O) fun _ _ H K=>R.fdE (K 26 _ O) H dU,aW O O (gF (dF h1) O) fun _ _ H K=>R.ldE (K 27 _ O) (SC.sl (K 23 _ O)) (map_get! (l:=l) bU) O O O O H,aW O O (gF (dF h1) O) fun _ _ H K=>R.lenE (SC.sl (K 28 _ O)) (lN _) H,aW O O (gF (dF h1) O) fun _ _ H K=>R.gtrN (l[i]!.t.outs.length) (8) (eU K 29 O) (kI 8 O) H,aU fun _ _ H K=>R.pickF (eU K 22 O) (dF h1) (eU K 30 O) O H,Zt⟩ O O O O (tU O ?_)
       refine W.condD O (fun hc31=>?_) (fun hc31=>?_)
       · refine W.seq ?_
         refine W.l0 1 [.y 2 _] [] [] [(2,_)] [] 55 ⟨aU fun _ _ H _=>R.asg (kB false O) O H,Zt⟩ O O O O (tU O ?_)
         refine W.ret ?_
         exact Ends.one' (.inr O) O (by rw [few_2 hc11 (fun h=>by have:=h.2.1; omega)]) O O Zt
       · refine W.skip (W.seq ?_)
         refine W.l0 1 [.y 4 _] [] [] [(0,_),(3,_),(4,_)] [] 55 ⟨aU fun _ _ H _=>R.asg (kI 0 O) O H,Zt⟩ O O O O (tU O ?_)
         refine W.block ?_
         refine W.loop (α:={q__ : Nat // q__ <= l[i]!.t.outs.length /\ ∀ q < q__,l[i]!.t.outs[q]!.script.length <= 200}) (fun q__=>⟨55,[(0,.sl none 72 (l.map pvD)),(3,.int ((i : Nat) : Int)),(4,.int ((q__.1 : Nat) : Int))],[]⟩) (fun q__=>l[i]!.t.outs.length - q__.1) ⟨(0),⟨Nat.zero_le _,fun q hq=>absurd hq (Nat.not_lt_zero _)⟩⟩ O ?_
         rintro ⟨k,⟨hk,hno2⟩⟩
         show W _ _ _ _ ⟨55,[(0,.sl none 72 (l.map pvD)),(3,.int ((i : Nat) : Int)),(4,.int ((k : Nat) : Int))],[]⟩
         have hk : k <= l[i]!.t.outs.length:=hk
         have hno2 : ∀ q < k,l[i]!.t.outs[q]!.script.length <= 200:=hno2
         refine W.seq (W.seq ?_)
         refine W.l0 9 [.y 32 _,.y 33 _,.y 34 _,.y 35 _,.y 36 _,.y 37 _,.y 38 _,.y 39 _,.y 40 _] [] [] [(0,_),(3,_),(4,_),(40,_)] [] 55 ⟨mU 4 O O,mU 0 O O,mU 3 O O,aU fun _ _ H K=>R.idxN (i) (SC.sl (K 33 _ O)) (evoI (eU K 34 O)) O bU H dU,aU fun _ _ H K=>R.fdE (K 35 _ O) H dU,aU fun _ _ H K=>R.fdE (K 36 _ O) H dU,aU fun _ _ H K=>R.ldE (K 37 _ O) (SC.sl (K 33 _ O)) (map_get! (l:=l) bU) O O O O H,aU fun _ _ H K=>R.lenE (SC.sl (K 38 _ O)) (lN _) H,aU fun _ _ H K=>R.lssN (k) (l[i]!.t.outs.length) (eU K 32 O) (eU K 39 O) H,Zt⟩ O O O O (tU O ?_)
         refine W.condD O (fun hc40=>?_) (fun hc40=>?_)
         · refine W.skip (W.seq (W.block (W.seq ?_)))
           refine W.l0 12 [.y 43 _,.y 44 _,.y 45 _,.y 46 _,.y 47 _,.y 48 _,.y 49 _,.y 50 _,.y 51 _,.y 52 _,.y 53 _,.y 54 _] [] [] [(0,_),(3,_),(4,_),(54,_)] [] 55 ⟨mU 0 O O,mU 3 O O,aU fun _ _ H K=>R.idxN (i) (SC.sl (K 43 _ O)) (evoI (eU K 44 O)) O bU H dU,aU fun _ _ H K=>R.fdE (K 45 _ O) H dU,aU fun _ _ H K=>R.fdE (K 46 _ O) H dU,aU fun _ _ H K=>R.ldE (K 47 _ O) (SC.sl (K 43 _ O)) (map_get! (l:=l) bU) O O O O H,mU 4 O O,aU fun _ _ H K=>R.idxN (k) (SC.sl (K 48 _ O)) (evoI (eU K 49 O)) O bU H dU,aU fun _ _ H K=>R.fdE (K 50 _ O) H dU,aU fun _ _ H K=>R.ldE (K 51 _ O) (SC.sl (K 48 _ O)) (map_get! (l:=l[i]!.t.outs) bU) O O O O H,aU fun _ _ H K=>R.lenE (SC.sl (K 52 _ O)) (lN _) H,aU fun _ _ H K=>R.gtrN ((l[i]!.t.outs)[k]!.script.length) (200) (eU K 53 O) (kI 200 O) H,Zt⟩ O O O O (tU O ?_)
           refine W.condD O (fun hc54=>?_) (fun hc54=>?_)
           · refine W.seq ?_
             refine W.l0 1 [.y 2 _] [] [] [(2,_)] [] 55 ⟨aU fun _ _ H _=>R.asg (kB false O) O H,Zt⟩ O O O O (tU O ?_)
             refine W.ret ?_
             exact Ends.one' (.inr O) O (by rw [few_2 hc11 (fun h=>by have:=h.2.2 k hc40; omega)]) O O Zt
           · refine W.skip ?_
             refine W.l0 3 [.y 41 _,.y 42 _,.y 4 _] [] [] [(0,_),(3,_),(4,_)] [] 55 ⟨mU 4 O O,aU fun _ _ H K=>R.addN (k) (1) (eU K 41 O) (kI 1 O) bU H,aU fun _ _ H K=>R.asg (eU K 42 O) O H,Zt⟩ O O O O (tU O ?_)
             exact ⟨⟨(k + 1),⟨(by show k + 1 <= l[i]!.t.outs.length; omega),fun q hq=>(Nat.lt_succ_iff_lt_or_eq.1 hq).elim (hno2 q) (fun e=>e ▸ (by omega))⟩⟩,rfl,(by simp only []; omega)⟩
         · obtain rfl : k = l[i]!.t.outs.length:=by omega
           refine W.exit ?_
           refine W.l0 3 [.y 12 _,.y 13 _,.y 3 _] [] [] [(0,_),(3,_)] [] 55 ⟨mU 3 O O,aU fun _ _ H K=>R.addN (i) (1) (eU K 12 O) (kI 1 O) bU H,aU fun _ _ H K=>R.asg (eU K 13 O) O H,Zt⟩ O O O O (tU O ?_)
           exact ⟨⟨(i + 1),⟨(by show i + 1 <= l.length; omega),fun q hq=>(Nat.lt_succ_iff_lt_or_eq.1 hq).elim (hno q) (fun e=>e ▸ ⟨by omega,by omega,hno2⟩)⟩⟩,rfl,(by simp only []; omega)⟩
   · obtain rfl : i = l.length:=by omega
     refine W.exit (W.seq ?_)
     refine W.l0 1 [.y 2 _] [] [] [(2,_)] [] 55 ⟨aU fun _ _ H _=>R.asg (kB true O) O H,Zt⟩ O O O O (tU O ?_)
     refine W.ret ?_
     exact Ends.one' (.inr O) O (by rw [few_3 hc7 hno]) O O Zt
end Go.Sx

namespace Go.Sx
open Go.Proofs
theorem rpays25_ok (l : List PvS) (hl : allPv l) (q : Plc) (sc : Hs) : Fn Tryd.prog gl 34 [.sl none 72 (l.map pvD),placeK q,hashD sc] (.bool (pR l q sc l.length)):=by
 refine Fn.of (n:=50) Tryd.func34 rfl rfl rfl (nU rfl) fun C hC hD=>?_
 have hl1:=hl.1
 refine W.seq ?_
 refine W.l0 3 [] [] [] [(0,_),(1,_),(2,_)] [] 50 Zt O O O O (⟨O,_,R.box (gV 1 O) O O (nU O),⟨O,_,R.box (gV 2 O) O O (nU O),⟨O,_,R.asg (kB false O) O (nU O),tV [(0,_),(4,_),(5,_)] [(5,.var _),(4,.var _)] 50 O O O ?_⟩⟩⟩)
 refine W.seq (W.seq ?_)
 refine W.l0 1 [.y 7 _] [] [] [(0,_),(4,_),(5,_),(7,_)] [(5,.var _),(4,.var _)] 50 ⟨aU fun _ _ H _=>R.asg (kI 0 O) O H,Zt⟩ O O O O (tU O ?_)
 refine W.block ?_
 refine W.loop (α:={q__ : Nat // q__ <= l.length /\ pR l q sc q__ = false}) (fun q__=>⟨50,[(0,.sl none 72 (l.map pvD)),(4,.ptr 4 0 []),(5,.ptr 5 0 []),(7,.int ((q__.1 : Nat) : Int))],[(5,.var (hashD sc)),(4,.var (placeK q))]⟩) (fun q__=>l.length - q__.1) ⟨(0),⟨Nat.zero_le _,O⟩⟩ O ?_
 rintro ⟨i,⟨hi,hno⟩⟩
 show W _ _ _ _ ⟨50,[(0,.sl none 72 (l.map pvD)),(4,.ptr 4 0 []),(5,.ptr 5 0 []),(7,.int ((i : Nat) : Int))],[(5,.var (hashD sc)),(4,.var (placeK q))]⟩
 have hi : i <= l.length:=hi
 have hno : pR l q sc i = false:=hno
 refine W.seq (W.seq ?_)
 refine W.l0 4 [.y 8 _,.y 9 _,.y 10 _,.y 11 _] [] [] [(0,_),(4,_),(5,_),(7,_),(11,_)] [(5,.var _),(4,.var _)] 50 ⟨mU 7 O O,mU 0 O O,aU fun _ _ H K=>R.lenE (SC.sl (K 9 _ O)) (lN _) H,aU fun _ _ H K=>R.lssN (i) (l.length) (eU K 8 O) (eU K 10 O) H,Zt⟩ O O O O (tU O ?_)
 refine W.condD O (fun hc11=>?_) (fun hc11=>?_)
 · refine W.skip (W.seq (W.block (W.seq ?_)))
   by_cases h1 : (l[i]!.id == q.1) = true
   · by_cases h2 : decide (q.2.toUInt64 < UInt64.ofInt ((l[i]!.t.outs.length : Nat) : Int)) = true
     · have hpi:=hl.get hc11
       have hpo:=hpi.outs
       have hlt:=(u64len_lt (by omega)).1 (of_decide_eq_true h2)
       refine W.draw (m:=36) (an:=(0 :: 0 :: 3 :: 7 :: 15 :: 0 :: 32 :: 127 :: 255 :: 511 :: 1023 :: 2047 :: 511 :: 511 :: 12799 :: 29183 :: 61951 :: 127487 :: 258559 :: 520703 :: 1048575 :: 2097151 :: 4194303 :: 8388607 :: 8388607 :: 33554431 :: 67108863 :: 134217727 :: 268435455 :: 8388607 :: 545259519 :: 2147483647 :: 4294967295 :: 8388607 :: 17179869183 :: 34359738367 :: [])) hP dU O (its:=(.y 14 _ :: .y 15 _ :: .y 16 _ :: .y 17 _ :: .y 18 _ :: .y 19 _ :: .y 20 _ :: .y 21 _ :: .y 22 _ :: .y 23 _ :: .y 24 _ :: .y 25 _ :: .y 26 _ :: .y 27 _ :: .y 28 _ :: .y 29 _ :: .y 30 _ :: .y 31 _ :: .y 32 _ :: .y 33 _ :: .y 34 _ :: .y 35 _ :: .y 36 _ :: .y 37 _ :: .y 38 _ :: .y 39 _ :: .y 40 _ :: .y 41 _ :: .y 42 _ :: .y 43 _ :: .y 44 _ :: .y 45 _ :: .y 46 _ :: .y 47 _ :: .y 48 _ :: .y 49 _ :: [])) (ks:=[]) (kk:=[]) (live:=[0,4,5,7,49]) (env':=[(0,_),(4,_),(5,_),(7,_),(49,_)]) (⟨nU O,O,⟨mU 0 O O,mU 7 O O,aU fun _ _ H K=>R.idxN (i) (SC.sl (K 14 _ O)) (evoI (eU K 15 O)) O bU H dU,aU fun _ _ H K=>R.fdE (K 16 _ O) H dU,aU fun _ _ H K=>R.ldE (K 17 _ O) (SC.sl (K 14 _ O)) (map_get! (l:=l) bU) O O O O H,aU (fU 4 O O),aU (lU 19 O O O O O O O),aU fun _ _ H K=>R.eqAE (eU K 18 O) (eU K 20 O) H,mU 21 O O,aW O O (gT (h1) O) (fU 4 O O),aW O O (gT (h1) O) (lU 23 O O O O O O O),aW O O (gT (h1) O) fun _ _ H K=>R.conv (eU K 24 O) O H,aW O O (gT (h1) O) fun _ _ H K=>R.mov (eU K 0 O) O H,aW O O (gT (h1) O) fun _ _ H K=>R.mov (eU K 7 O) O H,aW O O (gT (h1) O) fun _ _ H K=>R.idxN (i) (SC.sl (K 26 _ O)) (evoI (eU K 27 O)) O bU H dU,aW O O (gT (h1) O) fun _ _ H K=>R.fdE (K 28 _ O) H dU,aW O O (gT (h1) O) fun _ _ H K=>R.fdE (K 29 _ O) H dU,aW O O (gT (h1) O) fun _ _ H K=>R.ldE (K 30 _ O) (SC.sl (K 26 _ O)) (map_get! (l:=l) bU) O O O O H,aW O O (gT (h1) O) fun _ _ H K=>R.lenE (SC.sl (K 31 _ O)) (lN _) H,aW O O (gT (h1) O) fun _ _ H K=>R.conv (eU K 32 O) O H,aW O O (gT (h1) O) fun _ _ H K=>R.bin (eU K 25 O) (eU K 33 O) O Zt H,aU fun _ _ H K=>R.pickT (eU K 22 O) (h1) (eU K 34 O) O H,mU 35 O O,aW O O (gT (h2) O) fun _ _ H K=>R.mov (eU K 0 O) O H,aW O O (gT (h2) O) fun _ _ H K=>R.mov (eU K 7 O) O H,aW O O (gT (h2) O) fun _ _ H K=>R.idxN (i) (SC.sl (K 37 _ O)) (evoI (eU K 38 O)) O bU H dU,aW O O (gT (h2) O) fun _ _ H K=>R.fdE (K 39 _ O) H dU,aW O O (gT (h2) O) fun _ _ H K=>R.fdE (K 40 _ O) H dU,aW O O (gT (h2) O) fun _ _ H K=>R.ldE (K 41 _ O) (SC.sl (K 37 _ O)) (map_get! (l:=l) bU) O O O O H,aW O O (gT (h2) O) (fU 4 O O),aW O O (gT (h2) O) (lU 43 O O O O O O O),aW O O (gT (h2) O) fun _ _ H K=>R.idxN (q.2.toNat) (SC.sl (K 42 _ O)) (evo32 (eU K 44 O)) O bU H dU,aW O O (gT (h2) O) fun _ _ H K=>R.ldE (K 45 _ O) (SC.sl (K 42 _ O)) (map_get! (l:=l[i]!.t.outs) bU) O O O O H,aW O O (gT (h2) O) (lU 5 O O O O O O O),aW O O (gT (h2) O) fun _ _ H K=>R.callG hC (rpays15_ok l[i]!.t.outs[q.2.toNat]! sc (hpi.out hlt)) (Bc (Bp (eU K 46 O) O O) (Bc (Bp (eU K 47 O) O O) Bn)) (FrsR.one (.bool _)) H,aU fun _ _ H K=>R.pickT (eU K 36 O) (h2) (eU K 48 O) O H,Zt⟩,O,O,O⟩) O (bx':=[(5,.var _),(4,.var _)]) O (n':=50) O (tV [(0,_),(4,_),(5,_),(7,_),(49,_)] [(5,.var _),(4,.var _)] 50 O O O ?_)
       refine W.cond O (fun hc49=>?_) (fun hc49=>?_)
       · refine W.seq ?_
         refine W.l0 1 [.y 6 _] [] [] [(6,_)] [(5,.var _),(4,.var _)] 50 ⟨aU fun _ _ H _=>R.asg (kB true O) O H,Zt⟩ O O O O (tU O ?_)
         refine W.ret ?_
         exact Ends.one' (.inr O) O (by rw [pR_y h1 hlt hc49 hc11]) O O Zt
       · refine W.skip ?_
         refine W.l0 3 [.y 12 _,.y 13 _,.y 7 _] [] [] [(0,_),(4,_),(5,_),(7,_)] [(5,.var _),(4,.var _)] 50 ⟨mU 7 O O,aU fun _ _ H K=>R.addN (i) (1) (eU K 12 O) (kI 1 O) bU H,aU fun _ _ H K=>R.asg (eU K 13 O) O H,Zt⟩ O O O O (tU O ?_)
         exact ⟨⟨(i + 1),⟨(by show i + 1 <= l.length; omega),(by first | exact pR_n1 hno (bfalse h1) | exact pR_n2 hno (fun h=>h2 (dT ((u64len_lt (by omega)).2 h))) | exact pR_n3 hno hc49)⟩⟩,rfl,(by simp only []; omega)⟩
     · have hpi:=hl.get hc11
       have hpo:=hpi.outs
       refine W.draw (m:=36) (an:=(0 :: 0 :: 3 :: 7 :: 15 :: 0 :: 32 :: 127 :: 255 :: 511 :: 1023 :: 2047 :: 511 :: 511 :: 12799 :: 29183 :: 61951 :: 127487 :: 258559 :: 520703 :: 1048575 :: 2097151 :: 4194303 :: 8388607 :: 8388607 :: 33554431 :: 67108863 :: 134217727 :: 268435455 :: 8388607 :: 545259519 :: 2147483647 :: 4294967295 :: 8388607 :: 17179869183 :: 34359738367 :: [])) hP dU O (its:=(.y 14 _ :: .y 15 _ :: .y 16 _ :: .y 17 _ :: .y 18 _ :: .y 19 _ :: .y 20 _ :: .y 21 _ :: .y 22 _ :: .y 23 _ :: .y 24 _ :: .y 25 _ :: .y 26 _ :: .y 27 _ :: .y 28 _ :: .y 29 _ :: .y 30 _ :: .y 31 _ :: .y 32 _ :: .y 33 _ :: .y 34 _ :: .y 35 _ :: .y 36 _ :: .x 37 :: .x 38 :: .x 39 :: .x 40 :: .x 41 :: .x 42 :: .x 43 :: .x 44 :: .x 45 :: .x 46 :: .x 47 :: .x 48 :: .y 49 _ :: [])) (ks:=[]) (kk:=[]) (live:=[0,4,5,7,49]) (env':=[(0,_),(4,_),(5,_),(7,_),(49,_)]) (⟨nU O,O,⟨mU 0 O O,mU 7 O O,aU fun _ _ H K=>R.idxN (i) (SC.sl (K 14 _ O)) (evoI (eU K 15 O)) O bU H dU,aU fun _ _ H K=>R.fdE (K 16 _ O) H dU,aU fun _ _ H K=>R.ldE (K 17 _ O) (SC.sl (K 14 _ O)) (map_get! (l:=l) bU) O O O O H,aU (fU 4 O O),aU (lU 19 O O O O O O O),aU fun _ _ H K=>R.eqAE (eU K 18 O) (eU K 20 O) H,mU 21 O O,aW O O (gT (h1) O) (fU 4 O O),aW O O (gT (h1) O) (lU 23 O O O O O O O),aW O O (gT (h1) O) fun _ _ H K=>R.conv (eU K 24 O) O H,aW O O (gT (h1) O) fun _ _ H K=>R.mov (eU K 0 O) O H,aW O O (gT (h1) O) fun _ _ H K=>R.mov (eU K 7 O) O H,aW O O (gT (h1) O) fun _ _ H K=>R.idxN (i) (SC.sl (K 26 _ O)) (evoI (eU K 27 O)) O bU H dU,aW O O (gT (h1) O) fun _ _ H K=>R.fdE (K 28 _ O) H dU,aW O O (gT (h1) O) fun _ _ H K=>R.fdE (K 29 _ O) H dU,aW O O (gT (h1) O) fun _ _ H K=>R.ldE (K 30 _ O) (SC.sl (K 26 _ O)) (map_get! (l:=l) bU) O O O O H,aW O O (gT (h1) O) fun _ _ H K=>R.lenE (SC.sl (K 31 _ O)) (lN _) H,aW O O (gT (h1) O) fun _ _ H K=>R.conv (eU K 32 O) O H,aW O O (gT (h1) O) fun _ _ H K=>R.bin (eU K 25 O) (eU K 33 O) O Zt H,aU fun _ _ H K=>R.pickT (eU K 22 O) (h1) (eU K 34 O) O H,mU 35 O O,aF O O (gF (bfalse h2) O),aF O O (gF (bfalse h2) O),aF O O (gF (bfalse h2) O),aF O O (gF (bfalse h2) O),aF O O (gF (bfalse h2) O),aF O O (gF (bfalse h2) O),aF O O (gF (bfalse h2) O),aF O O (gF (bfalse h2) O),aF O O (gF (bfalse h2) O),aF O O (gF (bfalse h2) O),aF O O (gF (bfalse h2) O),aF O O (gF (bfalse h2) O),aU fun _ _ H K=>R.pickF (eU K 36 O) (bfalse h2) (kB false O) O H,Zt⟩,O,O,O⟩) O (bx':=[(5,.var _),(4,.var _)]) O (n':=50) O (tV [(0,_),(4,_),(5,_),(7,_),(49,_)] [(5,.var _),(4,.var _)] 50 O O O ?_)
       refine W.condF O (O) ?_
       refine W.skip ?_
       refine W.l0 3 [.y 12 _,.y 13 _,.y 7 _] [] [] [(0,_),(4,_),(5,_),(7,_)] [(5,.var _),(4,.var _)] 50 ⟨mU 7 O O,aU fun _ _ H K=>R.addN (i) (1) (eU K 12 O) (kI 1 O) bU H,aU fun _ _ H K=>R.asg (eU K 13 O) O H,Zt⟩ O O O O (tU O ?_)
       exact ⟨⟨(i + 1),⟨(by show i + 1 <= l.length; omega),(by first | exact pR_n1 hno (bfalse h1) | exact pR_n2 hno (fun h=>h2 (dT ((u64len_lt (by omega)).2 h))) | exact pR_n3 hno hc49)⟩⟩,rfl,(by simp only []; omega)⟩
   · have hpi:=hl.get hc11
     have hpo:=hpi.outs
     refine W.draw (m:=36) (an:=(0 :: 0 :: 3 :: 7 :: 15 :: 0 :: 32 :: 127 :: 255 :: 511 :: 1023 :: 2047 :: 511 :: 511 :: 12799 :: 29183 :: 61951 :: 127487 :: 258559 :: 520703 :: 1048575 :: 2097151 :: 4194303 :: 8388607 :: 8388607 :: 33554431 :: 67108863 :: 134217727 :: 268435455 :: 8388607 :: 545259519 :: 2147483647 :: 4294967295 :: 8388607 :: 17179869183 :: 34359738367 :: [])) hP dU O (its:=(.y 14 _ :: .y 15 _ :: .y 16 _ :: .y 17 _ :: .y 18 _ :: .y 19 _ :: .y 20 _ :: .y 21 _ :: .y 22 _ :: .x 23 :: .x 24 :: .x 25 :: .x 26 :: .x 27 :: .x 28 :: .x 29 :: .x 30 :: .x 31 :: .x 32 :: .x 33 :: .x 34 :: .y 35 _ :: .y 36 _ :: .x 37 :: .x 38 :: .x 39 :: .x 40 :: .x 41 :: .x 42 :: .x 43 :: .x 44 :: .x 45 :: .x 46 :: .x 47 :: .x 48 :: .y 49 _ :: [])) (ks:=[]) (kk:=[]) (live:=[0,4,5,7,49]) (env':=[(0,_),(4,_),(5,_),(7,_),(49,_)]) (⟨nU O,O,⟨mU 0 O O,mU 7 O O,aU fun _ _ H K=>R.idxN (i) (SC.sl (K 14 _ O)) (evoI (eU K 15 O)) O bU H dU,aU fun _ _ H K=>R.fdE (K 16 _ O) H dU,aU fun _ _ H K=>R.ldE (K 17 _ O) (SC.sl (K 14 _ O)) (map_get! (l:=l) bU) O O O O H,aU (fU 4 O O),aU (lU 19 O O O O O O O),aU fun _ _ H K=>R.eqAE (eU K 18 O) (eU K 20 O) H,mU 21 O O,aF O O (gF (bfalse h1) O),aF O O (gF (bfalse h1) O),aF O O (gF (bfalse h1) O),aF O O (gF (bfalse h1) O),aF O O (gF (bfalse h1) O),aF O O (gF (bfalse h1) O),aF O O (gF (bfalse h1) O),aF O O (gF (bfalse h1) O),aF O O (gF (bfalse h1) O),aF O O (gF (bfalse h1) O),aF O O (gF (bfalse h1) O),aF O O (gF (bfalse h1) O),aU fun _ _ H K=>R.pickF (eU K 22 O) (bfalse h1) (kB false O) O H,mU 35 O O,aF O O (gF (O) O),aF O O (gF (O) O),aF O O (gF (O) O),aF O O (gF (O) O),aF O O (gF (O) O),aF O O (gF (O) O),aF O O (gF (O) O),aF O O (gF (O) O),aF O O (gF (O) O),aF O O (gF (O) O),aF O O (gF (O) O),aF O O (gF (O) O),aU fun _ _ H K=>R.pickF (eU K 36 O) (O) (kB false O) O H,Zt⟩,O,O,O⟩) O (bx':=[(5,.var _),(4,.var _)]) O (n':=50) O (tV [(0,_),(4,_),(5,_),(7,_),(49,_)] [(5,.var _),(4,.var _)] 50 O O O ?_)
     refine W.condF O (O) ?_
     refine W.skip ?_
     refine W.l0 3 [.y 12 _,.y 13 _,.y 7 _] [] [] [(0,_),(4,_),(5,_),(7,_)] [(5,.var _),(4,.var _)] 50 ⟨mU 7 O O,aU fun _ _ H K=>R.addN (i) (1) (eU K 12 O) (kI 1 O) bU H,aU fun _ _ H K=>R.asg (eU K 13 O) O H,Zt⟩ O O O O (tU O ?_)
     exact ⟨⟨(i + 1),⟨(by show i + 1 <= l.length; omega),(by first | exact pR_n1 hno (bfalse h1) | exact pR_n2 hno (fun h=>h2 (dT ((u64len_lt (by omega)).2 h))) | exact pR_n3 hno hc49)⟩⟩,rfl,(by simp only []; omega)⟩
 · obtain rfl : i = l.length:=by omega
   refine W.exit (W.seq ?_)
   refine W.l0 1 [.y 6 _] [] [] [(6,_)] [(5,.var _),(4,.var _)] 50 ⟨aU fun _ _ H _=>R.asg (kB false O) O H,Zt⟩ O O O O (tU O ?_)
   refine W.ret ?_
   exact Ends.one' (.inr O) O (by rw [hno]) O O Zt
theorem rspent25_ok (l : List PvS) (hl : allPv l) (q : Plc) : Fn Tryd.prog gl 37 [.sl none 72 (l.map pvD),placeK q] (.bool (sR l q l.length)):=by
 refine Fn.of (n:=36) Tryd.func37 rfl rfl rfl (nU rfl) fun C hC hD=>?_
 have hl1:=hl.1
 refine W.seq ?_
 refine W.l0 2 [] [] [] [(0,_),(1,_)] [] 36 Zt O O O O (⟨O,_,R.box (gV 1 O) O O (nU O),⟨O,_,R.asg (kB false O) O (nU O),tV [(0,_),(3,_)] [(3,.var _)] 36 O O O ?_⟩⟩)
 refine W.seq (W.seq ?_)
 refine W.l0 1 [.y 5 _] [] [] [(0,_),(3,_),(5,_)] [(3,.var _)] 36 ⟨aU fun _ _ H _=>R.asg (kI 0 O) O H,Zt⟩ O O O O (tU O ?_)
 refine W.block ?_
 refine W.loop (α:={q__ : Nat // q__ <= l.length /\ sR l q q__ = false}) (fun q__=>⟨36,[(0,.sl none 72 (l.map pvD)),(3,.ptr 3 0 []),(5,.int ((q__.1 : Nat) : Int))],[(3,.var (placeK q))]⟩) (fun q__=>l.length - q__.1) ⟨(0),⟨Nat.zero_le _,O⟩⟩ O ?_
 rintro ⟨i,⟨hi,hno⟩⟩
 show W _ _ _ _ ⟨36,[(0,.sl none 72 (l.map pvD)),(3,.ptr 3 0 []),(5,.int ((i : Nat) : Int))],[(3,.var (placeK q))]⟩
 have hi : i <= l.length:=hi
 have hno : sR l q i = false:=hno
 refine W.seq (W.seq ?_)
 refine W.l0 4 [.y 7 _,.y 8 _,.y 9 _,.y 10 _] [] [] [(0,_),(3,_),(5,_),(10,_)] [(3,.var _)] 36 ⟨mU 5 O O,mU 0 O O,aU fun _ _ H K=>R.lenE (SC.sl (K 8 _ O)) (lN _) H,aU fun _ _ H K=>R.lssN (i) (l.length) (eU K 7 O) (eU K 9 O) H,Zt⟩ O O O O (tU O ?_)
 refine W.condD O (fun hc10=>?_) (fun hc10=>?_)
 · refine W.skip (W.seq (W.block (W.seq ?_)))
   refine W.l0 1 [.y 6 _] [] [] [(0,_),(3,_),(5,_),(6,_)] [(3,.var _)] 36 ⟨aU fun _ _ H _=>R.asg (kI 0 O) O H,Zt⟩ O O O O (tU O ?_)
   refine W.block ?_
   refine W.loop (α:={q__ : Nat // q__ <= l[i]!.t.ins.length /\ sK l[i]!.t q q__ = false}) (fun q__=>⟨36,[(0,.sl none 72 (l.map pvD)),(3,.ptr 3 0 []),(5,.int ((i : Nat) : Int)),(6,.int ((q__.1 : Nat) : Int))],[(3,.var (placeK q))]⟩) (fun q__=>l[i]!.t.ins.length - q__.1) ⟨(0),⟨Nat.zero_le _,O⟩⟩ O ?_
   rintro ⟨k,⟨hk,hno2⟩⟩
   show W _ _ _ _ ⟨36,[(0,.sl none 72 (l.map pvD)),(3,.ptr 3 0 []),(5,.int ((i : Nat) : Int)),(6,.int ((k : Nat) : Int))],[(3,.var (placeK q))]⟩
   have hk : k <= l[i]!.t.ins.length:=hk
   have hno2 : sK l[i]!.t q k = false:=hno2
   have hpi:=(hl.get hc10).ins
   refine W.seq (W.seq ?_)
   refine W.l0 9 [.y 13 _,.y 14 _,.y 15 _,.y 16 _,.y 17 _,.y 18 _,.y 19 _,.y 20 _,.y 21 _] [] [] [(0,_),(3,_),(5,_),(6,_),(21,_)] [(3,.var _)] 36 ⟨mU 6 O O,mU 0 O O,mU 5 O O,aU fun _ _ H K=>R.idxN (i) (SC.sl (K 14 _ O)) (evoI (eU K 15 O)) O bU H dU,aU fun _ _ H K=>R.fdE (K 16 _ O) H dU,aU fun _ _ H K=>R.fdE (K 17 _ O) H dU,aU fun _ _ H K=>R.ldE (K 18 _ O) (SC.sl (K 14 _ O)) (map_get! (l:=l) bU) O O O O H,aU fun _ _ H K=>R.lenE (SC.sl (K 19 _ O)) (lN _) H,aU fun _ _ H K=>R.lssN (k) (l[i]!.t.ins.length) (eU K 13 O) (eU K 20 O) H,Zt⟩ O O O O (tU O ?_)
   refine W.condD O (fun hc21=>?_) (fun hc21=>?_)
   · refine W.skip (W.seq (W.block (W.seq ?_)))
     refine W.draw (m:=12) (an:=[0,0,3,7,15,31,0,127,255,511,0,2047]) hP dU O (its:=[.y 24 _,.y 25 _,.y 26 _,.y 27 _,.y 28 _,.y 29 _,.y 30 _,.y 31 _,.y 32 _,.y 33 _,.y 34 _,.y 35 _]) (ks:=[]) (kk:=[]) (live:=[0,3,5,6,35]) (env':=[(0,_),(3,_),(5,_),(6,_),(35,_)]) (⟨nU O,O,⟨mU 0 O O,mU 5 O O,aU fun _ _ H K=>R.idxN (i) (SC.sl (K 24 _ O)) (evoI (eU K 25 O)) O bU H dU,aU fun _ _ H K=>R.fdE (K 26 _ O) H dU,aU fun _ _ H K=>R.fdE (K 27 _ O) H dU,aU fun _ _ H K=>R.ldE (K 28 _ O) (SC.sl (K 24 _ O)) (map_get! (l:=l) bU) O O O O H,mU 6 O O,aU fun _ _ H K=>R.idxN (k) (SC.sl (K 29 _ O)) (evoI (eU K 30 O)) O bU H dU,aU fun _ _ H K=>R.fdE (K 31 _ O) H dU,aU fun _ _ H K=>R.ldE (K 32 _ O) (SC.sl (K 29 _ O)) (map_get! (l:=l[i]!.t.ins) bU) O O O O H,aU (lU 3 O O O O O O O),aU fun _ _ H K=>R.eqD (neg:=false) (b':=(plc l[i]!.t.ins[k]! == q)) (eqv_place _ _) O (eU K 33 O) (eU K 34 O) O O O O (O) H,Zt⟩,O,O,O⟩) O (bx':=[(3,.var _)]) O (n':=36) O (tV [(0,_),(3,_),(5,_),(6,_),(35,_)] [(3,.var _)] 36 O O O ?_)
     refine W.cond O (fun hc35=>?_) (fun hc35=>?_)
     · refine W.seq ?_
       refine W.l0 1 [.y 4 _] [] [] [(4,_)] [(3,.var _)] 36 ⟨aU fun _ _ H _=>R.asg (kB true O) O H,Zt⟩ O O O O (tU O ?_)
       refine W.ret ?_
       exact Ends.one' (.inr O) O (by rw [sR_y hc21 hc35 hc10]) O O Zt
     · refine W.skip ?_
       refine W.l0 3 [.y 22 _,.y 23 _,.y 6 _] [] [] [(0,_),(3,_),(5,_),(6,_)] [(3,.var _)] 36 ⟨mU 6 O O,aU fun _ _ H K=>R.addN (k) (1) (eU K 22 O) (kI 1 O) bU H,aU fun _ _ H K=>R.asg (eU K 23 O) O H,Zt⟩ O O O O (tU O ?_)
       exact ⟨⟨(k + 1),⟨(by show k + 1 <= l[i]!.t.ins.length; omega),sK_n hno2 hc35⟩⟩,rfl,(by simp only []; omega)⟩
   · obtain rfl : k = l[i]!.t.ins.length:=by omega
     refine W.exit ?_
     refine W.l0 3 [.y 11 _,.y 12 _,.y 5 _] [] [] [(0,_),(3,_),(5,_)] [(3,.var _)] 36 ⟨mU 5 O O,aU fun _ _ H K=>R.addN (i) (1) (eU K 11 O) (kI 1 O) bU H,aU fun _ _ H K=>R.asg (eU K 12 O) O H,Zt⟩ O O O O (tU O ?_)
     exact ⟨⟨(i + 1),⟨(by show i + 1 <= l.length; omega),sR_n hno hno2⟩⟩,rfl,(by simp only []; omega)⟩
 · obtain rfl : i = l.length:=by omega
   refine W.exit (W.seq ?_)
   refine W.l0 1 [.y 4 _] [] [] [(4,_)] [(3,.var _)] 36 ⟨aU fun _ _ H _=>R.asg (kB false O) O H,Zt⟩ O O O O (tU O ?_)
   refine W.ret ?_
   exact Ends.one' (.inr O) O (by rw [hno]) O O Zt
end Go.Sx
