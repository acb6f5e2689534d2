/-
 Own library: arguments that a statement's form reads as data,as D; a contract from what a function computes.
-/
import Derived.Test.YtgilikgghknbhaaDoorMSxPanic
import Derived.Test.YtgilikgghknbhaaDoorMLd26
import Derived.Test.YtgilikgghknbhaaDoorMSxOwn
import Derived.OpenShut
import Derived.Carry
import Derived.Deep.Slices
import Derived.Deep.DeepHandedRow
import Derived.Lib.LaidTab
set_option linter.unusedVariables false
set_option linter.unusedSimpArgs false
set_option linter.unnecessarySimpa false

namespace Go.Sx
open Go.Proofs
theorem rhist25_ok (l : List PvS) (hl : allPv l) (sc : Hs) : Fn Tryd.prog gl 14 [.sl none 72 (l.map pvD),hashD sc] (.sl (some 58) 33 ((hrS l sc).map enD)):=by
 refine Fn.of (n:=84) Tryd.func14 rfl rfl rfl (nU rfl) fun C hC hD=>?_
 have hl1:=hl.1
 refine W.seq ?_
 refine W.l0 2 [] [] [] [(0,_),(1,_)] [] 84 Zt O O O O (⟨O,_,R.box (gV 1 O) O O (nU O),⟨O,_,R.asg (kN O) O (nU O),tV [(0,_),(3,_)] [(3,.var _)] 84 O O O ?_⟩⟩)
 refine W.seq ?_
 refine W.l0 1 [.y 5 _] [] [] [(0,_),(3,_),(5,_)] [(3,.var _)] 84 ⟨aU fun _ _ H _=>R.asg (kN O) O H,Zt⟩ O O O O (tU O ?_)
 refine W.seq (W.seq ?_)
 refine W.l0 1 [.y 6 _] [] [] [(0,_),(3,_),(5,_),(6,_)] [(3,.var _)] 84 ⟨aU fun _ _ H _=>R.asg (kI 0 O) O H,Zt⟩ O O O O (tU O ?_)
 refine W.block ?_
 refine W.asOwn (s:=5) 58 33 O ?_
 refine W.loop (α:={q__ : Nat // q__ <= l.length}) (fun q__=>⟨84,[(0,.sl none 72 (l.map pvD)),(3,.ptr 3 0 []),(5,.sl (some 58) 33 ((hrI l sc q__.1).map enD)),(6,.int ((q__.1 : Nat) : Int))],[(3,.var (hashD sc))]⟩) (fun q__=>l.length - q__.1) ⟨(0),bU⟩ O ?_
 rintro ⟨i,hi⟩
 show W _ _ _ _ ⟨84,[(0,.sl none 72 (l.map pvD)),(3,.ptr 3 0 []),(5,.sl (some 58) 33 ((hrI l sc i).map enD)),(6,.int ((i : Nat) : Int))],[(3,.var (hashD sc))]⟩
 have hi : i <= l.length:=hi
 have hhl:=hrI_len l sc i
 refine W.seq (W.seq ?_)
 refine W.l0 4 [.y 10 _,.y 11 _,.y 12 _,.y 13 _] [] [] [(0,_),(3,_),(5,_),(6,_),(13,_)] [(3,.var _)] 84 ⟨mU 6 O O,mU 0 O O,aU fun _ _ H K=>R.lenE (SC.sl (K 11 _ O)) (lN _) H,aU fun _ _ H K=>R.lssN (i) (l.length) (eU K 10 O) (eU K 12 O) H,Zt⟩ O O O O (tU O ?_)
 refine W.condD O (fun hc13=>?_) (fun hc13=>?_)
 · refine W.skip (W.seq (W.block (W.seq ?_)))
   have hpi:=hl.get hc13
   have hpo:=hpi.outs
   have hpn:=hpi.ins
   refine W.l0 1 [.y 7 _] [] [] [(0,_),(3,_),(5,_),(6,_),(7,_)] [(3,.var _)] 84 ⟨aU fun _ _ H _=>R.asg (kB false O) O H,Zt⟩ O O O O (tU O ?_)
   refine W.seq (W.seq ?_)
   refine W.l0 1 [.y 8 _] [] [] [(0,_),(3,_),(5,_),(6,_),(7,_),(8,_)] [(3,.var _)] 84 ⟨aU fun _ _ H _=>R.asg (kI 0 O) O H,Zt⟩ O O O O (tU O ?_)
   refine W.block ?_
   refine W.loop (α:={q__ : Nat // q__ <= l[i]!.t.outs.length}) (fun q__=>⟨84,[(0,.sl none 72 (l.map pvD)),(3,.ptr 3 0 []),(5,.sl (some 58) 33 ((hrI l sc i).map enD)),(6,.int ((i : Nat) : Int)),(7,.bool (orO l[i]!.t sc q__.1)),(8,.int ((q__.1 : Nat) : Int))],[(3,.var (hashD sc))]⟩) (fun q__=>l[i]!.t.outs.length - q__.1) ⟨(0),bU⟩ O ?_
   rintro ⟨k,hk⟩
   show W _ _ _ _ ⟨84,[(0,.sl none 72 (l.map pvD)),(3,.ptr 3 0 []),(5,.sl (some 58) 33 ((hrI l sc i).map enD)),(6,.int ((i : Nat) : Int)),(7,.bool (orO l[i]!.t sc k)),(8,.int ((k : Nat) : Int))],[(3,.var (hashD sc))]⟩
   have hk : k <= l[i]!.t.outs.length:=hk
   refine W.seq (W.seq ?_)
   refine W.l0 9 [.y 16 _,.y 17 _,.y 18 _,.y 19 _,.y 20 _,.y 21 _,.y 22 _,.y 23 _,.y 24 _] [] [] [(0,_),(3,_),(5,_),(6,_),(7,_),(8,_),(24,_)] [(3,.var _)] 84 ⟨mU 8 O O,mU 0 O O,mU 6 O O,aU fun _ _ H K=>R.idxN (i) (SC.sl (K 17 _ O)) (evoI (eU K 18 O)) O bU H dU,aU fun _ _ H K=>R.fdE (K 19 _ O) H dU,aU fun _ _ H K=>R.fdE (K 20 _ O) H dU,aU fun _ _ H K=>R.ldE (K 21 _ O) (SC.sl (K 17 _ O)) (map_get! (l:=l) bU) O O O O H,aU fun _ _ H K=>R.lenE (SC.sl (K 22 _ O)) (lN _) H,aU fun _ _ H K=>R.lssN (k) (l[i]!.t.outs.length) (eU K 16 O) (eU K 23 O) H,Zt⟩ O O O O (tU O ?_)
   refine W.condD O (fun hc24=>?_) (fun hc24=>?_)
   · refine W.skip (W.seq (W.block ?_))
     by_cases hbo : orO l[i]!.t sc k = true
     · refine W.draw (m:=15) (an:=[0,1,3,3,15,31,63,127,3,511,1023,3,4095,8191,16383]) hP dU O (its:=[.y 27 _,.y 28 _,.x 29,.x 30,.x 31,.x 32,.x 33,.x 34,.x 35,.x 36,.x 37,.x 38,.x 39,.y 40 _,.y 7 _]) (ks:=[]) (kk:=[]) (live:=[0,3,5,6,7,8]) (env':=[(0,_),(3,_),(5,_),(6,_),(7,_),(8,_)]) (⟨nU O,O,⟨mU 7 O O,mU 27 O O,aF O O (gT (hbo) O),aF O O (gT (hbo) O),aF O O (gT (hbo) O),aF O O (gT (hbo) O),aF O O (gT (hbo) O),aF O O (gT (hbo) O),aF O O (gT (hbo) O),aF O O (gT (hbo) O),aF O O (gT (hbo) O),aF O O (gT (hbo) O),aF O O (gT (hbo) O),aU fun _ _ H K=>R.pickT (eU K 28 O) (hbo) (kB true O) O H,aU fun _ _ H K=>R.asg (eU K 40 O) O H,Zt⟩,O,O,O⟩) O (bx':=[(3,.var _)]) O (n':=84) O (tV [(0,_),(3,_),(5,_),(6,_),(7,_),(8,_)] [(3,.var _)] 84 O O O ?_)
       refine W.l0 3 [.y 25 _,.y 26 _,.y 8 _] [] [] [(0,_),(3,_),(5,_),(6,_),(7,_),(8,_)] [(3,.var _)] 84 ⟨mU 8 O O,aU fun _ _ H K=>R.addN (k) (1) (eU K 25 O) (kI 1 O) bU H,aU fun _ _ H K=>R.asg (eU K 26 O) O H,Zt⟩ O O O O (tU O ?_)
       exact ⟨⟨(k + 1),bU⟩,(by first | (dsimp only; rw [orO_t hbo]) | (dsimp only; rw [orO_f (bfalse hbo)])),(by simp only []; omega)⟩
     · refine W.draw (m:=15) (an:=[0,1,3,3,15,31,63,127,3,511,1023,3,4095,8191,16383]) hP dU O (its:=[.y 27 _,.y 28 _,.y 29 _,.y 30 _,.y 31 _,.y 32 _,.y 33 _,.y 34 _,.y 35 _,.y 36 _,.y 37 _,.y 38 _,.y 39 _,.y 40 _,.y 7 _]) (ks:=[]) (kk:=[]) (live:=[0,3,5,6,7,8]) (env':=[(0,_),(3,_),(5,_),(6,_),(7,_),(8,_)]) (⟨nU O,O,⟨mU 7 O O,mU 27 O O,aW O O (gF (bfalse hbo) O) fun _ _ H K=>R.mov (eU K 0 O) O H,aW O O (gF (bfalse hbo) O) fun _ _ H K=>R.mov (eU K 6 O) O H,aW O O (gF (bfalse hbo) O) fun _ _ H K=>R.idxN (i) (SC.sl (K 29 _ O)) (evoI (eU K 30 O)) O bU H dU,aW O O (gF (bfalse hbo) O) fun _ _ H K=>R.fdE (K 31 _ O) H dU,aW O O (gF (bfalse hbo) O) fun _ _ H K=>R.fdE (K 32 _ O) H dU,aW O O (gF (bfalse hbo) O) fun _ _ H K=>R.ldE (K 33 _ O) (SC.sl (K 29 _ O)) (map_get! (l:=l) bU) O O O O H,aW O O (gF (bfalse hbo) O) fun _ _ H K=>R.mov (eU K 8 O) O H,aW O O (gF (bfalse hbo) O) fun _ _ H K=>R.idxN (k) (SC.sl (K 34 _ O)) (evoI (eU K 35 O)) O bU H dU,aW O O (gF (bfalse hbo) O) fun _ _ H K=>R.ldE (K 36 _ O) (SC.sl (K 34 _ O)) (map_get! (l:=l[i]!.t.outs) bU) O O O O H,aW O O (gF (bfalse hbo) O) (lU 3 O O O O O O O),aW O O (gF (bfalse hbo) O) fun _ _ H K=>R.callG hC (rpays15_ok l[i]!.t.outs[k]! sc (hpi.out (by omega))) (Bc (Bp (eU K 37 O) O O) (Bc (Bp (eU K 38 O) O O) Bn)) (FrsR.one (.bool _)) H,aU fun _ _ H K=>R.pickF (eU K 28 O) (bfalse hbo) (eU K 39 O) O H,aU fun _ _ H K=>R.asg (eU K 40 O) O H,Zt⟩,O,O,O⟩) O (bx':=[(3,.var _)]) O (n':=84) O (tV [(0,_),(3,_),(5,_),(6,_),(7,_),(8,_)] [(3,.var _)] 84 O O O ?_)
       refine W.l0 3 [.y 25 _,.y 26 _,.y 8 _] [] [] [(0,_),(3,_),(5,_),(6,_),(7,_),(8,_)] [(3,.var _)] 84 ⟨mU 8 O O,aU fun _ _ H K=>R.addN (k) (1) (eU K 25 O) (kI 1 O) bU H,aU fun _ _ H K=>R.asg (eU K 26 O) O H,Zt⟩ O O O O (tU O ?_)
       exact ⟨⟨(k + 1),bU⟩,(by first | (dsimp only; rw [orO_t hbo]) | (dsimp only; rw [orO_f (bfalse hbo)])),(by simp only []; omega)⟩
   · obtain rfl : k = l[i]!.t.outs.length:=by omega
     refine W.exit (W.seq (W.seq ?_))
     refine W.l0 1 [.y 9 _] [] [] [(0,_),(3,_),(5,_),(6,_),(7,_),(9,_)] [(3,.var _)] 84 ⟨aU fun _ _ H _=>R.asg (kI 0 O) O H,Zt⟩ O O O O (tU O ?_)
     refine W.block ?_
     refine W.loop (α:={q__ : Nat // q__ <= l[i]!.t.ins.length}) (fun q__=>⟨84,[(0,.sl none 72 (l.map pvD)),(3,.ptr 3 0 []),(5,.sl (some 58) 33 ((hrI l sc i).map enD)),(6,.int ((i : Nat) : Int)),(7,.bool (orO l[i]!.t sc l[i]!.t.outs.length || inR l l[i]!.t sc q__.1)),(9,.int ((q__.1 : Nat) : Int))],[(3,.var (hashD sc))]⟩) (fun q__=>l[i]!.t.ins.length - q__.1) ⟨(0),bU⟩ (by rw [inR_0,Bool.or_false] <;> rfl) ?_
     rintro ⟨k,hk⟩
     show W _ _ _ _ ⟨84,[(0,.sl none 72 (l.map pvD)),(3,.ptr 3 0 []),(5,.sl (some 58) 33 ((hrI l sc i).map enD)),(6,.int ((i : Nat) : Int)),(7,.bool (orO l[i]!.t sc l[i]!.t.outs.length || inR l l[i]!.t sc k)),(9,.int ((k : Nat) : Int))],[(3,.var (hashD sc))]⟩
     have hk : k <= l[i]!.t.ins.length:=hk
     refine W.seq (W.seq ?_)
     refine W.l0 9 [.y 41 _,.y 42 _,.y 43 _,.y 44 _,.y 45 _,.y 46 _,.y 47 _,.y 48 _,.y 49 _] [] [] [(0,_),(3,_),(5,_),(6,_),(7,_),(9,_),(49,_)] [(3,.var _)] 84 ⟨mU 9 O O,mU 0 O O,mU 6 O O,aU fun _ _ H K=>R.idxN (i) (SC.sl (K 42 _ O)) (evoI (eU K 43 O)) O bU H dU,aU fun _ _ H K=>R.fdE (K 44 _ O) H dU,aU fun _ _ H K=>R.fdE (K 45 _ O) H dU,aU fun _ _ H K=>R.ldE (K 46 _ O) (SC.sl (K 42 _ O)) (map_get! (l:=l) bU) O O O O H,aU fun _ _ H K=>R.lenE (SC.sl (K 47 _ O)) (lN _) H,aU fun _ _ H K=>R.lssN (k) (l[i]!.t.ins.length) (eU K 41 O) (eU K 48 O) H,Zt⟩ O O O O (tU O ?_)
     refine W.condD O (fun hc49=>?_) (fun hc49=>?_)
     · refine W.skip (W.seq (W.block ?_))
       by_cases hb3 : (orO l[i]!.t sc l[i]!.t.outs.length || inR l l[i]!.t sc k) = true
       · refine W.draw (m:=17) (an:=[0,1,3,3,3,27,59,123,251,3,1019,2043,4091,3,16383,32767,65535]) hP dU O (its:=[.y 52 _,.y 53 _,.x 54,.x 55,.x 56,.x 57,.x 58,.x 59,.x 60,.x 61,.x 62,.x 63,.x 64,.x 65,.x 66,.y 67 _,.y 7 _]) (ks:=[]) (kk:=[]) (live:=[0,3,5,6,7,9]) (env':=[(0,_),(3,_),(5,_),(6,_),(7,_),(9,_)]) (⟨nU O,O,⟨mU 7 O O,mU 52 O O,aF O O (gT (hb3) O),aF O O (gT (hb3) O),aF O O (gT (hb3) O),aF O O (gT (hb3) O),aF O O (gT (hb3) O),aF O O (gT (hb3) O),aF O O (gT (hb3) O),aF O O (gT (hb3) O),aF O O (gT (hb3) O),aF O O (gT (hb3) O),aF O O (gT (hb3) O),aF O O (gT (hb3) O),aF O O (gT (hb3) O),aU fun _ _ H K=>R.pickT (eU K 53 O) (hb3) (kB true O) O H,aU fun _ _ H K=>R.asg (eU K 67 O) O H,Zt⟩,O,O,O⟩) O (bx':=[(3,.var _)]) O (n':=84) O (tV [(0,_),(3,_),(5,_),(6,_),(7,_),(9,_)] [(3,.var _)] 84 O O O ?_)
         refine W.l0 3 [.y 50 _,.y 51 _,.y 9 _] [] [] [(0,_),(3,_),(5,_),(6,_),(7,_),(9,_)] [(3,.var _)] 84 ⟨mU 9 O O,aU fun _ _ H K=>R.addN (k) (1) (eU K 50 O) (kI 1 O) bU H,aU fun _ _ H K=>R.asg (eU K 51 O) O H,Zt⟩ O O O O (tU O ?_)
         exact ⟨⟨(k + 1),bU⟩,(by first | (dsimp only; rw [inR_t hb3]) | (dsimp only; rw [inR_f (bfalse hb3)])),(by simp only []; omega)⟩
       · refine W.draw (m:=17) (an:=[0,1,3,3,3,27,59,123,251,3,1019,2043,4091,3,16383,32767,65535]) hP dU O (its:=[.y 52 _,.y 53 _,.y 54 _,.y 55 _,.y 56 _,.y 57 _,.y 58 _,.y 59 _,.y 60 _,.y 61 _,.y 62 _,.y 63 _,.y 64 _,.y 65 _,.y 66 _,.y 67 _,.y 7 _]) (ks:=[]) (kk:=[]) (live:=[0,3,5,6,7,9]) (env':=[(0,_),(3,_),(5,_),(6,_),(7,_),(9,_)]) (⟨nU O,O,⟨mU 7 O O,mU 52 O O,aW O O (gF (bfalse hb3) O) fun _ _ H K=>R.mov (eU K 0 O) O H,aW O O (gF (bfalse hb3) O) fun _ _ H K=>R.mov (eU K 0 O) O H,aW O O (gF (bfalse hb3) O) fun _ _ H K=>R.mov (eU K 6 O) O H,aW O O (gF (bfalse hb3) O) fun _ _ H K=>R.idxN (i) (SC.sl (K 55 _ O)) (evoI (eU K 56 O)) O bU H dU,aW O O (gF (bfalse hb3) O) fun _ _ H K=>R.fdE (K 57 _ O) H dU,aW O O (gF (bfalse hb3) O) fun _ _ H K=>R.fdE (K 58 _ O) H dU,aW O O (gF (bfalse hb3) O) fun _ _ H K=>R.ldE (K 59 _ O) (SC.sl (K 55 _ O)) (map_get! (l:=l) bU) O O O O H,aW O O (gF (bfalse hb3) O) fun _ _ H K=>R.mov (eU K 9 O) O H,aW O O (gF (bfalse hb3) O) fun _ _ H K=>R.idxN (k) (SC.sl (K 60 _ O)) (evoI (eU K 61 O)) O bU H dU,aW O O (gF (bfalse hb3) O) fun _ _ H K=>R.fdE (K 62 _ O) H dU,aW O O (gF (bfalse hb3) O) fun _ _ H K=>R.ldE (K 63 _ O) (SC.sl (K 60 _ O)) (map_get! (l:=l[i]!.t.ins) bU) O O O O H,aW O O (gF (bfalse hb3) O) (lU 3 O O O O O O O),aW O O (gF (bfalse hb3) O) fun _ _ H K=>R.callG hC (rpays25_ok l hl (plc l[i]!.t.ins[k]!) sc) (Bc (Bp (eU K 54 O) O O) (Bc (Bp (eU K 64 O) O O) (Bc (Bp (eU K 65 O) O O) Bn))) (FrsR.one (.bool _)) H,aU fun _ _ H K=>R.pickF (eU K 53 O) (bfalse hb3) (eU K 66 O) O H,aU fun _ _ H K=>R.asg (eU K 67 O) O H,Zt⟩,O,O,O⟩) O (bx':=[(3,.var _)]) O (n':=84) O (tV [(0,_),(3,_),(5,_),(6,_),(7,_),(9,_)] [(3,.var _)] 84 O O O ?_)
         refine W.l0 3 [.y 50 _,.y 51 _,.y 9 _] [] [] [(0,_),(3,_),(5,_),(6,_),(7,_),(9,_)] [(3,.var _)] 84 ⟨mU 9 O O,aU fun _ _ H K=>R.addN (k) (1) (eU K 50 O) (kI 1 O) bU H,aU fun _ _ H K=>R.asg (eU K 51 O) O H,Zt⟩ O O O O (tU O ?_)
         exact ⟨⟨(k + 1),bU⟩,(by first | (dsimp only; rw [inR_t hb3]) | (dsimp only; rw [inR_f (bfalse hb3)])),(by simp only []; omega)⟩
     · obtain rfl : k = l[i]!.t.ins.length:=by omega
       refine W.exit (W.seq ?_)
       refine W.l0 1 [.y 68 _] [] [] [(0,_),(3,_),(5,_),(6,_),(68,_)] [(3,.var _)] 84 ⟨mU 7 O O,Zt⟩ O O O O (tU O ?_)
       refine W.cond O (fun hc68=>?_) (fun hc68=>?_)
       · refine W.draw (m:=15) (an:=[0,0,0,6,14,30,0,0,192,448,960,2046,4094,8191,16383]) hP dU O (its:=[.y 69 _,.y 70 _,.y 71 _,.y 72 _,.y 73 _,.y 74 _,.y 75 _,.y 76 _,.y 77 _,.y 78 _,.y 79 _,.y 80 _,.y 81 _,.y 82 _,.y 5 _]) (ks:=[(13,5),(14,82),(14,69)]) (kk:=[(13,5),(14,82)]) (live:=[0,3,5,6]) (env':=[(0,_),(3,_),(5,_),(6,_)]) (⟨nU O,O,⟨aU fun _ _ H K=>R.al (K 5 _ O) H dU,mU 0 O O,mU 6 O O,aU fun _ _ H K=>R.idxN (i) (SC.sl (K 70 _ O)) (evoI (eU K 71 O)) O bU H dU,aU fun _ _ H K=>R.fdE (K 72 _ O) H dU,aU fun _ _ H K=>R.ldE (K 73 _ O) (SC.sl (K 70 _ O)) (map_get! (l:=l) bU) O O O O H,mU 0 O O,mU 6 O O,aU fun _ _ H K=>R.idxN (i) (SC.sl (K 75 _ O)) (evoI (eU K 76 O)) O bU H dU,aU fun _ _ H K=>R.fdE (K 77 _ O) H dU,aU fun _ _ H K=>R.ldE (K 78 _ O) (SC.sl (K 75 _ O)) (map_get! (l:=l) bU) O O O O H,aU fun _ _ H K=>R.bldSE (l:=[.int 0,.arr 32 1 ((List.replicate 32 0).map D.u8)]) (l':=[_,_]) (.cons (eU K 74 O) (.cons (eU K 79 O) (.nil O))) ⟨⟨_,(eU K 74 O),O,O,O⟩,⟨⟨_,(eU K 79 O),O,O,O⟩,Zt⟩⟩ H,aU fun _ _ H K=>R.bslE (z:=33) (.cons (eU K 80 O) .nil) ⟨⟨O,O,O⟩,Zt⟩ O H dU,aU fun _ _ H K=>R.appE (Or.inr (K 69 _ O)) (K 5 _ O) (SrcO.sc (SC.sl (K 81 _ O)) (pur_lit O)) (show _ = ((hrI l sc (i + 1)).map enD) from (hrI_app hc68)) (by simp only [List.length_map,List.length_cons,List.length_nil]; omega) H dU dU,aU fun _ _ H K=>R.asgO (K 82 _ O) O H dU,Zt⟩,O,O,O⟩) O (bx':=[(3,.var _)]) O (n':=84) O (tV [(0,_),(3,_),(5,_),(6,_)] [(3,.var _)] 84 O O O ?_)
         refine W.l0 3 [.y 14 _,.y 15 _,.y 6 _] [] [] [(0,_),(3,_),(5,_),(6,_)] [(3,.var _)] 84 ⟨mU 6 O O,aU fun _ _ H K=>R.addN (i) (1) (eU K 14 O) (kI 1 O) bU H,aU fun _ _ H K=>R.asg (eU K 15 O) O H,Zt⟩ O O O O (tU O ?_)
         exact ⟨⟨(i + 1),bU⟩,(by first | (dsimp only; rw [hrI_n hc68]) | rfl),(by simp only []; omega)⟩
       · refine W.skip ?_
         refine W.l0 3 [.y 14 _,.y 15 _,.y 6 _] [] [] [(0,_),(3,_),(5,_),(6,_)] [(3,.var _)] 84 ⟨mU 6 O O,aU fun _ _ H K=>R.addN (i) (1) (eU K 14 O) (kI 1 O) bU H,aU fun _ _ H K=>R.asg (eU K 15 O) O H,Zt⟩ O O O O (tU O ?_)
         exact ⟨⟨(i + 1),bU⟩,(by first | (dsimp only; rw [hrI_n hc68]) | rfl),(by simp only []; omega)⟩
 · obtain rfl : i = l.length:=by omega
   refine W.exit (W.seq ?_)
   refine W.l0 2 [.y 83 _,.y 4 _] [(0,5),(1,83)] [(0,5),(1,83)] [(4,_)] [(3,.var _)] 84 ⟨aU fun _ _ H K=>R.movO (K 5 _ O) O H dU,aU fun _ _ H K=>R.asgO (K 83 _ O) O H dU,Zt⟩ O O O O (tU O ?_)
   refine W.ret ?_
   exact Ends.one' (.inr O) O (O) O O Zt
end Go.Sx

namespace Go.Sx
open Go.Proofs
theorem runs25_ok (l : List PvS) (hl : allPv l) (sc : Hs) : Fn Tryd.prog gl 17 [.sl none 72 (l.map pvD),hashD sc] (.sl (some 62) 35 ((urS l sc).map unD')):=by
 refine Fn.of (n:=72) Tryd.func17 rfl rfl rfl (nU rfl) fun C hC hD=>?_
 have hl1:=hl.1
 refine W.seq ?_
 refine W.l0 2 [] [] [] [(0,_),(1,_)] [] 72 Zt O O O O (⟨O,_,R.box (gV 1 O) O O (nU O),⟨O,_,R.asg (kN O) O (nU O),tV [(0,_),(3,_)] [(3,.var _)] 72 O O O ?_⟩⟩)
 refine W.seq ?_
 refine W.l0 1 [.y 5 _] [] [] [(0,_),(3,_),(5,_)] [(3,.var _)] 72 ⟨aU fun _ _ H _=>R.asg (kN O) O H,Zt⟩ O O O O (tU O ?_)
 refine W.seq (W.seq ?_)
 refine W.l0 1 [.y 6 _] [] [] [(0,_),(3,_),(5,_),(6,_)] [(3,.var _)] 72 ⟨aU fun _ _ H _=>R.asg (kI 0 O) O H,Zt⟩ O O O O (tU O ?_)
 refine W.block ?_
 refine W.asOwn (s:=5) 62 35 O ?_
 refine W.loop (α:={q__ : Nat // q__ <= l.length}) (fun q__=>⟨72,[(0,.sl none 72 (l.map pvD)),(3,.ptr 3 0 []),(5,.sl (some 62) 35 ((urI l sc q__.1).map unD')),(6,.int ((q__.1 : Nat) : Int))],[(3,.var (hashD sc))]⟩) (fun q__=>l.length - q__.1) ⟨(0),bU⟩ O ?_
 rintro ⟨i,hi⟩
 show W _ _ _ _ ⟨72,[(0,.sl none 72 (l.map pvD)),(3,.ptr 3 0 []),(5,.sl (some 62) 35 ((urI l sc i).map unD')),(6,.int ((i : Nat) : Int))],[(3,.var (hashD sc))]⟩
 have hi : i <= l.length:=hi
 have huv:=urI_len hl sc i hi
 refine W.seq (W.seq ?_)
 refine W.l0 4 [.y 9 _,.y 10 _,.y 11 _,.y 12 _] [] [] [(0,_),(3,_),(5,_),(6,_),(12,_)] [(3,.var _)] 72 ⟨mU 6 O O,mU 0 O O,aU fun _ _ H K=>R.lenE (SC.sl (K 10 _ O)) (lN _) H,aU fun _ _ H K=>R.lssN (i) (l.length) (eU K 9 O) (eU K 11 O) H,Zt⟩ O O O O (tU O ?_)
 refine W.condD O (fun hc12=>?_) (fun hc12=>?_)
 · refine W.skip (W.seq (W.block (W.seq ?_)))
   have hpi:=hl.get hc12
   have hpo:=hpi.outs
   refine W.l0 1 [.y 7 _] [] [] [(0,_),(3,_),(5,_),(6,_),(7,_)] [(3,.var _)] 72 ⟨aU fun _ _ H _=>R.asg (kI 0 O) O H,Zt⟩ O O O O (tU O ?_)
   refine W.block ?_
   refine W.loop (α:={q__ : Nat // q__ <= l[i]!.t.outs.length}) (fun q__=>⟨72,[(0,.sl none 72 (l.map pvD)),(3,.ptr 3 0 []),(5,.sl (some 62) 35 ((urI l sc i ++ urK l l[i]! sc q__.1).map unD')),(6,.int ((i : Nat) : Int)),(7,.int ((q__.1 : Nat) : Int))],[(3,.var (hashD sc))]⟩) (fun q__=>l[i]!.t.outs.length - q__.1) ⟨(0),bU⟩ (by rw [urK,List.append_nil] <;> rfl) ?_
   rintro ⟨n,hn⟩
   show W _ _ _ _ ⟨72,[(0,.sl none 72 (l.map pvD)),(3,.ptr 3 0 []),(5,.sl (some 62) 35 ((urI l sc i ++ urK l l[i]! sc n).map unD')),(6,.int ((i : Nat) : Int)),(7,.int ((n : Nat) : Int))],[(3,.var (hashD sc))]⟩
   have hn : n <= l[i]!.t.outs.length:=hn
   have hul:=urK_len l l[i]! sc n
   refine W.seq (W.seq ?_)
   refine W.l0 9 [.y 15 _,.y 16 _,.y 17 _,.y 18 _,.y 19 _,.y 20 _,.y 21 _,.y 22 _,.y 23 _] [] [] [(0,_),(3,_),(5,_),(6,_),(7,_),(23,_)] [(3,.var _)] 72 ⟨mU 7 O O,mU 0 O O,mU 6 O O,aU fun _ _ H K=>R.idxN (i) (SC.sl (K 16 _ O)) (evoI (eU K 17 O)) O bU H dU,aU fun _ _ H K=>R.fdE (K 18 _ O) H dU,aU fun _ _ H K=>R.fdE (K 19 _ O) H dU,aU fun _ _ H K=>R.ldE (K 20 _ O) (SC.sl (K 16 _ O)) (map_get! (l:=l) bU) O O O O H,aU fun _ _ H K=>R.lenE (SC.sl (K 21 _ O)) (lN _) H,aU fun _ _ H K=>R.lssN (n) (l[i]!.t.outs.length) (eU K 15 O) (eU K 22 O) H,Zt⟩ O O O O (tU O ?_)
   refine W.condD O (fun hc23=>?_) (fun hc23=>?_)
   · refine W.skip (W.seq (W.block (W.seq ?_)))
     refine W.l0 10 [.y 26 _,.y 27 _,.y 28 _,.y 29 _,.y 30 _,.y 31 _,.y 32 _,.y 33 _] [] [] [(0,_),(3,_),(5,_),(6,_),(7,_),(33,_)] [(3,.var _)] 72 ⟨mU 0 O O,mU 6 O O,aU fun _ _ H K=>R.idxN (i) (SC.sl (K 26 _ O)) (evoI (eU K 27 O)) O bU H dU,aU fun _ _ H K=>R.fdE (K 28 _ O) H dU,aU fun _ _ H K=>R.ldE (K 29 _ O) (SC.sl (K 26 _ O)) (map_get! (l:=l) bU) O O O O H,mU 7 O O,aU fun _ _ H K=>R.convE (d:=.u32 (nK n)) (eU K 31 O) O (O) H,aU fun _ _ H K=>R.bldSE (l:=[.arr 32 1 ((List.replicate 32 0).map D.u8),.u32 0]) (l':=[_,_]) (.cons (eU K 30 O) (.cons (eU K 32 O) (.nil O))) ⟨⟨_,(eU K 30 O),O,O,O⟩,⟨⟨_,(eU K 32 O),O,O,O⟩,Zt⟩⟩ H,Zt⟩ O O O O (⟨O,_,R.alloc O (nU O),⟨O,_,R.stZ (gU 8 O) (xU 8 O) O (gV 33 O) (by rfl) (by rfl) (by rfl) (by rfl) O,tV [(0,_),(3,_),(5,_),(6,_),(7,_),(8,_)] [(8,.var _),(3,.var _)] 72 O O O ?_⟩⟩)
     refine W.seq ?_
     by_cases h6 : paysR l[i]!.t.outs[n]! sc = true
     · refine W.draw (m:=17) (an:=[0,0,3,7,15,31,0,127,255,0,1023,2047,4095,4095,16383,32767,65535]) hP dU O (its:=[.y 34 _,.y 35 _,.y 36 _,.y 37 _,.y 38 _,.y 39 _,.y 40 _,.y 41 _,.y 42 _,.y 43 _,.y 44 _,.y 45 _,.y 46 _,.y 47 _,.y 48 _,.y 49 _,.y 50 _]) (ks:=[]) (kk:=[]) (live:=[0,3,5,6,7,8,50]) (env':=[(0,_),(3,_),(5,_),(6,_),(7,_),(8,_),(50,_)]) (⟨nU O,O,⟨mU 0 O O,mU 6 O O,aU fun _ _ H K=>R.idxN (i) (SC.sl (K 34 _ O)) (evoI (eU K 35 O)) O bU H dU,aU fun _ _ H K=>R.fdE (K 36 _ O) H dU,aU fun _ _ H K=>R.fdE (K 37 _ O) H dU,aU fun _ _ H K=>R.ldE (K 38 _ O) (SC.sl (K 34 _ O)) (map_get! (l:=l) bU) O O O O H,mU 7 O O,aU fun _ _ H K=>R.idxN (n) (SC.sl (K 39 _ O)) (evoI (eU K 40 O)) O bU H dU,aU fun _ _ H K=>R.ldE (K 41 _ O) (SC.sl (K 39 _ O)) (map_get! (l:=l[i]!.t.outs) bU) O O O O H,aU (lU 3 O O O O O O O),aU fun _ _ H K=>R.callG hC (rpays15_ok l[i]!.t.outs[n]! sc (hpi.out (by omega))) (Bc (Bp (eU K 42 O) O O) (Bc (Bp (eU K 43 O) O O) Bn)) (FrsR.one (.bool _)) H,mU 44 O O,aW O O (gT (h6) O) fun _ _ H K=>R.mov (eU K 0 O) O H,aW O O (gT (h6) O) (lU 8 O O O O O O O),aW O O (gT (h6) O) fun _ _ H K=>R.callG hC (rspent25_ok l hl (l[i]!.id,nK n)) (Bc (Bp (eU K 46 O) O O) (Bc (Bp (eU K 47 O) O O) Bn)) (FrsR.one (.bool _)) H,aW O O (gT (h6) O) fun _ _ H K=>R.un (eU K 48 O) O H,aU fun _ _ H K=>R.pickT (eU K 45 O) (h6) (eU K 49 O) O H,Zt⟩,O,O,O⟩) O (bx':=[(8,.var _),(3,.var _)]) O (n':=72) O (tV [(0,_),(3,_),(5,_),(6,_),(7,_),(8,_),(50,_)] [(8,.var _),(3,.var _)] 72 O O O ?_)
       refine W.cond O (fun hc50=>?_) (fun hc50=>?_)
       · refine W.draw (m:=21) (an:=[0,0,0,0,12,28,60,124,0,508,1020,2044,0,0,12288,28672,61440,131070,262142,524287,1048575]) hP dU O (its:=[.y 51 _,.y 52 _,.y 53 _,.y 54 _,.y 55 _,.y 56 _,.y 57 _,.y 58 _,.y 59 _,.y 60 _,.y 61 _,.y 62 _,.y 63 _,.y 64 _,.y 65 _,.y 66 _,.y 67 _,.y 68 _,.y 69 _,.y 70 _,.y 5 _]) (ks:=[(19,5),(20,70),(20,51)]) (kk:=[(19,5),(20,70)]) (live:=[0,3,5,6,7]) (env':=[(0,_),(3,_),(5,_),(6,_),(7,_)]) (⟨nU O,O,⟨aU fun _ _ H K=>R.al (K 5 _ O) H dU,aU (lU 8 O O O O O O O),mU 0 O O,mU 6 O O,aU fun _ _ H K=>R.idxN (i) (SC.sl (K 53 _ O)) (evoI (eU K 54 O)) O bU H dU,aU fun _ _ H K=>R.fdE (K 55 _ O) H dU,aU fun _ _ H K=>R.fdE (K 56 _ O) H dU,aU fun _ _ H K=>R.ldE (K 57 _ O) (SC.sl (K 53 _ O)) (map_get! (l:=l) bU) O O O O H,mU 7 O O,aU fun _ _ H K=>R.idxN (n) (SC.sl (K 58 _ O)) (evoI (eU K 59 O)) O bU H dU,aU fun _ _ H K=>R.fdE (K 60 _ O) H dU,aU fun _ _ H K=>R.ldE (K 61 _ O) (SC.sl (K 58 _ O)) (map_get! (l:=l[i]!.t.outs) bU) O O O O H,mU 0 O O,mU 6 O O,aU fun _ _ H K=>R.idxN (i) (SC.sl (K 63 _ O)) (evoI (eU K 64 O)) O bU H dU,aU fun _ _ H K=>R.fdE (K 65 _ O) H dU,aU fun _ _ H K=>R.ldE (K 66 _ O) (SC.sl (K 63 _ O)) (map_get! (l:=l) bU) O O O O H,aU fun _ _ H K=>R.bldSE (l:=[.agg [.arr 32 1 ((List.replicate 32 0).map D.u8),.u32 0],.u64 0,.int 0]) (l':=[_,_,_]) (.cons (eU K 52 O) (.cons (eU K 62 O) (.cons (eU K 67 O) (.nil O)))) ⟨⟨_,(eU K 52 O),O,O,O⟩,⟨⟨_,(eU K 62 O),O,O,O⟩,⟨⟨_,(eU K 67 O),O,O,O⟩,Zt⟩⟩⟩ H,aU fun _ _ H K=>R.bslE (z:=35) (.cons (eU K 68 O) .nil) ⟨⟨O,O,O⟩,Zt⟩ O H dU,aU fun _ _ H K=>R.appE (Or.inr (K 51 _ O)) (K 5 _ O) (SrcO.sc (SC.sl (K 69 _ O)) (pur_lit O)) (show _ = ((urI l sc i ++ urK l l[i]! sc (n + 1)).map unD') from (urK_app _ ((urC_1 h6).trans hc50))) (by simp only [List.length_map,List.length_append,List.length_cons,List.length_nil]; omega) H dU dU,aU fun _ _ H K=>R.asgO (K 70 _ O) O H dU,Zt⟩,O,O,O⟩) O (bx':=[(8,.var _),(3,.var _)]) O (n':=72) O (tV [(0,_),(3,_),(5,_),(6,_),(7,_)] [(8,.var _),(3,.var _)] 72 O O O ?_)
         refine W.dropB [3] (bx':=[(3,.var _)]) O O O (pin_sub hD O) ?_
         refine W.l0 3 [.y 24 _,.y 25 _,.y 7 _] [] [] [(0,_),(3,_),(5,_),(6,_),(7,_)] [(3,.var _)] 72 ⟨mU 7 O O,aU fun _ _ H K=>R.addN (n) (1) (eU K 24 O) (kI 1 O) bU H,aU fun _ _ H K=>R.asg (eU K 25 O) O H,Zt⟩ O O O O (tU O ?_)
         exact ⟨⟨(n + 1),bU⟩,(by first | (dsimp only; rw [urK_n (urC_0 (bfalse h6))]) | (dsimp only; rw [urK_n ((urC_1 h6).trans hc50)]) | rfl),(by simp only []; omega)⟩
       · refine W.skip ?_
         refine W.dropS (live:=[0,3,5,6,7]) (env':=[(0,_),(3,_),(5,_),(6,_),(7,_)]) (bx':=[(8,.var _),(3,.var _)]) (n':=72) O O O ?_
         refine W.dropB [3] (bx':=[(3,.var _)]) O O O (pin_sub hD O) ?_
         refine W.l0 3 [.y 24 _,.y 25 _,.y 7 _] [] [] [(0,_),(3,_),(5,_),(6,_),(7,_)] [(3,.var _)] 72 ⟨mU 7 O O,aU fun _ _ H K=>R.addN (n) (1) (eU K 24 O) (kI 1 O) bU H,aU fun _ _ H K=>R.asg (eU K 25 O) O H,Zt⟩ O O O O (tU O ?_)
         exact ⟨⟨(n + 1),bU⟩,(by first | (dsimp only; rw [urK_n (urC_0 (bfalse h6))]) | (dsimp only; rw [urK_n ((urC_1 h6).trans hc50)]) | rfl),(by simp only []; omega)⟩
     · refine W.draw (m:=17) (an:=[0,0,3,7,15,31,0,127,255,0,1023,2047,4095,4095,16383,32767,65535]) hP dU O (its:=[.y 34 _,.y 35 _,.y 36 _,.y 37 _,.y 38 _,.y 39 _,.y 40 _,.y 41 _,.y 42 _,.y 43 _,.y 44 _,.y 45 _,.x 46,.x 47,.x 48,.x 49,.y 50 _]) (ks:=[]) (kk:=[]) (live:=[0,3,5,6,7,8,50]) (env':=[(0,_),(3,_),(5,_),(6,_),(7,_),(8,_),(50,_)]) (⟨nU O,O,⟨mU 0 O O,mU 6 O O,aU fun _ _ H K=>R.idxN (i) (SC.sl (K 34 _ O)) (evoI (eU K 35 O)) O bU H dU,aU fun _ _ H K=>R.fdE (K 36 _ O) H dU,aU fun _ _ H K=>R.fdE (K 37 _ O) H dU,aU fun _ _ H K=>R.ldE (K 38 _ O) (SC.sl (K 34 _ O)) (map_get! (l:=l) bU) O O O O H,mU 7 O O,aU fun _ _ H K=>R.idxN (n) (SC.sl (K 39 _ O)) (evoI (eU K 40 O)) O bU H dU,aU fun _ _ H K=>R.ldE (K 41 _ O) (SC.sl (K 39 _ O)) (map_get! (l:=l[i]!.t.outs) bU) O O O O H,aU (lU 3 O O O O O O O),aU fun _ _ H K=>R.callG hC (rpays15_ok l[i]!.t.outs[n]! sc (hpi.out (by omega))) (Bc (Bp (eU K 42 O) O O) (Bc (Bp (eU K 43 O) O O) Bn)) (FrsR.one (.bool _)) H,mU 44 O O,aF O O (gF (bfalse h6) O),aF O O (gF (bfalse h6) O),aF O O (gF (bfalse h6) O),aF O O (gF (bfalse h6) O),aU fun _ _ H K=>R.pickF (eU K 45 O) (bfalse h6) (kB false O) O H,Zt⟩,O,O,O⟩) O (bx':=[(8,.var _),(3,.var _)]) O (n':=72) O (tV [(0,_),(3,_),(5,_),(6,_),(7,_),(8,_),(50,_)] [(8,.var _),(3,.var _)] 72 O O O ?_)
       refine W.condF O (O) ?_
       refine W.skip ?_
       refine W.dropS (live:=[0,3,5,6,7]) (env':=[(0,_),(3,_),(5,_),(6,_),(7,_)]) (bx':=[(8,.var _),(3,.var _)]) (n':=72) O O O ?_
       refine W.dropB [3] (bx':=[(3,.var _)]) O O O (pin_sub hD O) ?_
       refine W.l0 3 [.y 24 _,.y 25 _,.y 7 _] [] [] [(0,_),(3,_),(5,_),(6,_),(7,_)] [(3,.var _)] 72 ⟨mU 7 O O,aU fun _ _ H K=>R.addN (n) (1) (eU K 24 O) (kI 1 O) bU H,aU fun _ _ H K=>R.asg (eU K 25 O) O H,Zt⟩ O O O O (tU O ?_)
       exact ⟨⟨(n + 1),bU⟩,(by first | (dsimp only; rw [urK_n (urC_0 (bfalse h6))]) | (dsimp only; rw [urK_n ((urC_1 h6).trans hc50)]) | rfl),(by simp only []; omega)⟩
   · obtain rfl : n = l[i]!.t.outs.length:=by omega
     refine W.exit ?_
     refine W.l0 3 [.y 13 _,.y 14 _,.y 6 _] [] [] [(0,_),(3,_),(5,_),(6,_)] [(3,.var _)] 72 ⟨mU 6 O O,aU fun _ _ H K=>R.addN (i) (1) (eU K 13 O) (kI 1 O) bU H,aU fun _ _ H K=>R.asg (eU K 14 O) O H,Zt⟩ O O O O (tU O ?_)
     exact ⟨⟨(i + 1),bU⟩,rfl,(by simp only []; omega)⟩
 · obtain rfl : i = l.length:=by omega
   refine W.exit (W.seq ?_)
   refine W.l0 2 [.y 71 _,.y 4 _] [(0,5),(1,71)] [(0,5),(1,71)] [(4,_)] [(3,.var _)] 72 ⟨aU fun _ _ H K=>R.movO (K 5 _ O) O H dU,aU fun _ _ H K=>R.asgO (K 71 _ O) O H dU,Zt⟩ O O O O (tU O ?_)
   refine W.ret ?_
   exact Ends.one' (.inr O) O (O) O O Zt
theorem rbal25_ok (l : List PvS) (hl : allPv l) (sc : Hs) : Fn Tryd.prog gl 19 [.sl none 72 (l.map pvD),hashD sc] (.u64 (blS (urS l sc))):=by
 refine Fn.of (n:=25) Tryd.func19 rfl rfl rfl (nU rfl) fun C hC hD=>?_
 have hl1:=hl.1
 have hul:=urI_len hl sc l.length (Nat.le_refl _)
 have hul : (urS l sc).length <= 1000 * l.length:=hul
 refine W.seq ?_
 refine W.l0 2 [] [] [] [(0,_),(1,_)] [] 25 Zt O O O O (⟨O,_,R.box (gV 1 O) O O (nU O),⟨O,_,R.asg (show ev _ _ (.const (.int .u64 0)) = some (.u64 0) from O) O (nU O),tV [(0,_),(3,_)] [(3,.var _)] 25 O O O ?_⟩⟩)
 refine W.seq ?_
 refine W.l0 1 [.y 5 _] [] [] [(0,_),(3,_),(5,_)] [(3,.var _)] 25 ⟨aU fun _ _ H _=>R.asg (show ev _ _ (.const (.int .u64 0)) = some (.u64 0) from O) O H,Zt⟩ O O O O (tU O ?_)
 refine W.seq ?_
 refine W.l0 4 [.y 8 _,.y 9 _,.y 10 _,.y 6 _] [(3,10)] [(3,10)] [(5,_),(6,_)] [(3,.var _)] 25 ⟨mU 0 O O,aU (lU 3 O O O O O O O),aU fun _ _ H K=>R.callG hC (runs25_ok l hl sc) (Bc (Bp (eU K 8 O) O O) (Bc (Bp (eU K 9 O) O O) Bn)) (frs_uns _ _ _) H,aU fun _ _ H K=>R.asgO (K 10 _ O) O H dU,Zt⟩ O O O O (tU O ?_)
 refine W.seq (W.seq ?_)
 refine W.l0 1 [.y 7 _] [] [] [(5,_),(6,_),(7,_)] [(3,.var _)] 25 ⟨aU fun _ _ H _=>R.asg (kI 0 O) O H,Zt⟩ O O O O (tU O ?_)
 refine W.block ?_
 refine W.loop (α:={q__ : Nat // q__ <= (urS l sc).length}) (fun q__=>⟨25,[(5,.u64 (blI (urS l sc) q__.1)),(6,.sl (some 62) 35 ((urS l sc).map unD')),(7,.int ((q__.1 : Nat) : Int))],[(3,.var (hashD sc))]⟩) (fun q__=>(urS l sc).length - q__.1) ⟨(0),bU⟩ O ?_
 rintro ⟨i,hi⟩
 show W _ _ _ _ ⟨25,[(5,.u64 (blI (urS l sc) i)),(6,.sl (some 62) 35 ((urS l sc).map unD')),(7,.int ((i : Nat) : Int))],[(3,.var (hashD sc))]⟩
 have hi : i <= (urS l sc).length:=hi
 refine W.seq (W.seq ?_)
 refine W.l0 4 [.y 11 _,.y 12 _,.y 13 _,.y 14 _] [] [] [(5,_),(6,_),(7,_),(14,_)] [(3,.var _)] 25 ⟨mU 7 O O,aU fun _ _ H K=>R.al (K 6 _ O) H dU,aU fun _ _ H K=>R.lenE (SC.al (K 12 _ O) (K 6 _ O)) (lN _) H,aU fun _ _ H K=>R.lssN (i) ((urS l sc).length) (eU K 11 O) (eU K 13 O) H,Zt⟩ O O O O (tU O ?_)
 refine W.condD O (fun hc14=>?_) (fun hc14=>?_)
 · refine W.skip (W.seq (W.block ?_))
   refine W.l0 8 [.y 17 _,.y 18 _,.y 19 _,.y 20 _,.y 21 _,.y 22 _,.y 23 _,.y 5 _] [] [] [(5,_),(6,_),(7,_)] [(3,.var _)] 25 ⟨mU 5 O O,aU fun _ _ H K=>R.al (K 6 _ O) H dU,mU 7 O O,aU fun _ _ H K=>R.idxN (i) (SC.al (K 18 _ O) (K 6 _ O)) (evoI (eU K 19 O)) O bU H dU,aU fun _ _ H K=>R.fdE (K 20 _ O) H dU,aU fun _ _ H K=>R.ldE (K 21 _ O) (SC.al (K 18 _ O) (K 6 _ O)) (map_get! (l:=(urS l sc)) bU) O O O O H,aU fun _ _ H K=>R.bin (eU K 17 O) (eU K 22 O) O Zt H,aU fun _ _ H K=>R.asg (eU K 23 O) O H,Zt⟩ O O O O (tU O ?_)
   refine W.l0 3 [.y 15 _,.y 16 _,.y 7 _] [] [] [(5,_),(6,_),(7,_)] [(3,.var _)] 25 ⟨mU 7 O O,aU fun _ _ H K=>R.addN (i) (1) (eU K 15 O) (kI 1 O) bU H,aU fun _ _ H K=>R.asg (eU K 16 O) O H,Zt⟩ O O O O (tU O ?_)
   exact ⟨⟨(i + 1),bU⟩,(by rw [blI] <;> rfl),(by simp only []; omega)⟩
 · obtain rfl : i = (urS l sc).length:=by omega
   refine W.exit (W.seq ?_)
   refine W.l0 2 [.y 24 _,.y 4 _] [] [] [(4,_)] [(3,.var _)] 25 ⟨mU 5 O O,aU fun _ _ H K=>R.asg (eU K 24 O) O H,Zt⟩ O O O O (tU O ?_)
   refine W.ret ?_
   exact Ends.one' (.inr O) O (O) O O Zt
end Go.Sx

namespace Go.Sx
open Go.Proofs
theorem sameE_ok (a b : List EnS) (ha : a.length <= 1000000000) (hb0 : b.length <= 1000000000) : Fn Tryd.prog gl 12 [.sl none 33 (a.map enD),.sl none 33 (b.map enD)] (.bool (a == b)):=by
 refine Fn.of (n:=26) Tryd.func12 rfl rfl rfl (nU rfl) fun C hC hD=>?_
 refine W.seq ?_
 refine W.l0 1 [.y 4 _] [] [] [(0,_),(1,_)] [] 26 ⟨aU fun _ _ H _=>R.asg (kB false O) O H,Zt⟩ O O O O (tU O ?_)
 refine W.seq (W.seq ?_)
 refine W.l0 5 [.y 6 _,.y 7 _,.y 8 _,.y 9 _,.y 10 _] [] [] [(0,_),(1,_),(10,_)] [] 26 ⟨mU 0 O O,aU fun _ _ H K=>R.lenE (SC.sl (K 6 _ O)) (lN _) H,mU 1 O O,aU fun _ _ H K=>R.lenE (SC.sl (K 8 _ O)) (lN _) H,aU fun _ _ H K=>R.neqN (a.length) (b.length) (eU K 7 O) (eU K 9 O) H,Zt⟩ O O O O (tU O ?_)
 refine W.condD O (fun hc10=>?_) (fun hc10=>?_)
 · refine W.seq ?_
   refine W.l0 1 [.y 4 _] [] [] [(4,_)] [] 26 ⟨aU fun _ _ H _=>R.asg (kB false O) O H,Zt⟩ O O O O (tU O ?_)
   refine W.ret ?_
   exact Ends.one' (.inr O) O (by rw [lists_len hc10]) O O Zt
 · refine W.skip (W.seq (W.seq ?_))
   refine W.l0 1 [.y 5 _] [] [] [(0,_),(1,_),(5,_)] [] 26 ⟨aU fun _ _ H _=>R.asg (kI 0 O) O H,Zt⟩ O O O O (tU O ?_)
   refine W.block ?_
   refine W.loop (α:={q__ : Nat // q__ <= a.length /\ ∀ q < q__,a[q]! = b[q]!}) (fun q__=>⟨26,[(0,.sl none 33 (a.map enD)),(1,.sl none 33 (b.map enD)),(5,.int ((q__.1 : Nat) : Int))],[]⟩) (fun q__=>a.length - q__.1) ⟨(0),⟨Nat.zero_le _,fun q hq=>absurd hq (Nat.not_lt_zero _)⟩⟩ O ?_
   rintro ⟨i,⟨hi,hno⟩⟩
   show W _ _ _ _ ⟨26,[(0,.sl none 33 (a.map enD)),(1,.sl none 33 (b.map enD)),(5,.int ((i : Nat) : Int))],[]⟩
   have hi : i <= a.length:=hi
   have hno : ∀ q < i,a[q]! = b[q]!:=hno
   have hlen : a.length = b.length:=by omega
   refine W.seq (W.seq ?_)
   refine W.l0 4 [.y 11 _,.y 12 _,.y 13 _,.y 14 _] [] [] [(0,_),(1,_),(5,_),(14,_)] [] 26 ⟨mU 5 O O,mU 0 O O,aU fun _ _ H K=>R.lenE (SC.sl (K 12 _ O)) (lN _) H,aU fun _ _ H K=>R.lssN (i) (a.length) (eU K 11 O) (eU K 13 O) H,Zt⟩ O O O O (tU O ?_)
   refine W.condD O (fun hc14=>?_) (fun hc14=>?_)
   · refine W.skip (W.seq (W.block (W.seq ?_)))
     refine W.draw (m:=9) (an:=[0,0,3,7,0,0,48,112,255]) hP dU O (its:=[.y 17 _,.y 18 _,.y 19 _,.y 20 _,.y 21 _,.y 22 _,.y 23 _,.y 24 _,.y 25 _]) (ks:=[]) (kk:=[]) (live:=[0,1,5,25]) (env':=[(0,_),(1,_),(5,_),(25,_)]) (⟨nU O,O,⟨mU 0 O O,mU 5 O O,aU fun _ _ H K=>R.idxN (i) (SC.sl (K 17 _ O)) (evoI (eU K 18 O)) O bU H dU,aU fun _ _ H K=>R.ldE (K 19 _ O) (SC.sl (K 17 _ O)) (map_get! (l:=a) bU) O O O O H,mU 1 O O,mU 5 O O,aU fun _ _ H K=>R.idxN (i) (SC.sl (K 21 _ O)) (evoI (eU K 22 O)) O bU H dU,aU fun _ _ H K=>R.ldE (K 23 _ O) (SC.sl (K 21 _ O)) (map_get! (l:=b) bU) O O O O H,aU fun _ _ H K=>R.eqD (neg:=true) (b':=(!(a[i]! == b[i]!))) (eqv_ent _ _) O (eU K 20 O) (eU K 24 O) O O O O (O) H,Zt⟩,O,O,O⟩) O (bx':=[]) O (n':=26) O (tV [(0,_),(1,_),(5,_),(25,_)] [] 26 O O O ?_)
     refine W.cond O (fun hc25=>?_) (fun hc25=>?_)
     · refine W.seq ?_
       refine W.l0 1 [.y 4 _] [] [] [(4,_)] [] 26 ⟨aU fun _ _ H _=>R.asg (kB false O) O H,Zt⟩ O O O O (tU O ?_)
       refine W.ret ?_
       exact Ends.one' (.inr O) O (by rw [lists_ne hc14 hlen (not_t hc25)]) O O Zt
     · refine W.skip ?_
       refine W.l0 3 [.y 15 _,.y 16 _,.y 5 _] [] [] [(0,_),(1,_),(5,_)] [] 26 ⟨mU 5 O O,aU fun _ _ H K=>R.addN (i) (1) (eU K 15 O) (kI 1 O) bU H,aU fun _ _ H K=>R.asg (eU K 16 O) O H,Zt⟩ O O O O (tU O ?_)
       exact ⟨⟨(i + 1),⟨(by show i + 1 <= a.length; omega),fun q hq=>(Nat.lt_succ_iff_lt_or_eq.1 hq).elim (hno q) (fun e=>e ▸ beq_iff_eq.1 (not_f hc25))⟩⟩,rfl,(by simp only []; omega)⟩
   · obtain rfl : i = a.length:=by omega
     refine W.exit (W.seq ?_)
     refine W.l0 1 [.y 4 _] [] [] [(4,_)] [] 26 ⟨aU fun _ _ H _=>R.asg (kB true O) O H,Zt⟩ O O O O (tU O ?_)
     refine W.ret ?_
     exact Ends.one' (.inr O) O (by rw [lists_eq hlen hno]) O O Zt
theorem sameU_ok (a b : List UnS) (ha : a.length <= 1000000000) (hb0 : b.length <= 1000000000) : Fn Tryd.prog gl 15 [.sl none 35 (a.map unD'),.sl none 35 (b.map unD')] (.bool (a == b)):=by
 refine Fn.of (n:=26) Tryd.func15 rfl rfl rfl (nU rfl) fun C hC hD=>?_
 refine W.seq ?_
 refine W.l0 1 [.y 4 _] [] [] [(0,_),(1,_)] [] 26 ⟨aU fun _ _ H _=>R.asg (kB false O) O H,Zt⟩ O O O O (tU O ?_)
 refine W.seq (W.seq ?_)
 refine W.l0 5 [.y 6 _,.y 7 _,.y 8 _,.y 9 _,.y 10 _] [] [] [(0,_),(1,_),(10,_)] [] 26 ⟨mU 0 O O,aU fun _ _ H K=>R.lenE (SC.sl (K 6 _ O)) (lN _) H,mU 1 O O,aU fun _ _ H K=>R.lenE (SC.sl (K 8 _ O)) (lN _) H,aU fun _ _ H K=>R.neqN (a.length) (b.length) (eU K 7 O) (eU K 9 O) H,Zt⟩ O O O O (tU O ?_)
 refine W.condD O (fun hc10=>?_) (fun hc10=>?_)
 · refine W.seq ?_
   refine W.l0 1 [.y 4 _] [] [] [(4,_)] [] 26 ⟨aU fun _ _ H _=>R.asg (kB false O) O H,Zt⟩ O O O O (tU O ?_)
   refine W.ret ?_
   exact Ends.one' (.inr O) O (by rw [lists_len hc10]) O O Zt
 · refine W.skip (W.seq (W.seq ?_))
   refine W.l0 1 [.y 5 _] [] [] [(0,_),(1,_),(5,_)] [] 26 ⟨aU fun _ _ H _=>R.asg (kI 0 O) O H,Zt⟩ O O O O (tU O ?_)
   refine W.block ?_
   refine W.loop (α:={q__ : Nat // q__ <= a.length /\ ∀ q < q__,a[q]! = b[q]!}) (fun q__=>⟨26,[(0,.sl none 35 (a.map unD')),(1,.sl none 35 (b.map unD')),(5,.int ((q__.1 : Nat) : Int))],[]⟩) (fun q__=>a.length - q__.1) ⟨(0),⟨Nat.zero_le _,fun q hq=>absurd hq (Nat.not_lt_zero _)⟩⟩ O ?_
   rintro ⟨i,⟨hi,hno⟩⟩
   show W _ _ _ _ ⟨26,[(0,.sl none 35 (a.map unD')),(1,.sl none 35 (b.map unD')),(5,.int ((i : Nat) : Int))],[]⟩
   have hi : i <= a.length:=hi
   have hno : ∀ q < i,a[q]! = b[q]!:=hno
   have hlen : a.length = b.length:=by omega
   refine W.seq (W.seq ?_)
   refine W.l0 4 [.y 11 _,.y 12 _,.y 13 _,.y 14 _] [] [] [(0,_),(1,_),(5,_),(14,_)] [] 26 ⟨mU 5 O O,mU 0 O O,aU fun _ _ H K=>R.lenE (SC.sl (K 12 _ O)) (lN _) H,aU fun _ _ H K=>R.lssN (i) (a.length) (eU K 11 O) (eU K 13 O) H,Zt⟩ O O O O (tU O ?_)
   refine W.condD O (fun hc14=>?_) (fun hc14=>?_)
   · refine W.skip (W.seq (W.block (W.seq ?_)))
     refine W.draw (m:=9) (an:=[0,0,3,7,0,0,48,112,255]) hP dU O (its:=[.y 17 _,.y 18 _,.y 19 _,.y 20 _,.y 21 _,.y 22 _,.y 23 _,.y 24 _,.y 25 _]) (ks:=[]) (kk:=[]) (live:=[0,1,5,25]) (env':=[(0,_),(1,_),(5,_),(25,_)]) (⟨nU O,O,⟨mU 0 O O,mU 5 O O,aU fun _ _ H K=>R.idxN (i) (SC.sl (K 17 _ O)) (evoI (eU K 18 O)) O bU H dU,aU fun _ _ H K=>R.ldE (K 19 _ O) (SC.sl (K 17 _ O)) (map_get! (l:=a) bU) O O O O H,mU 1 O O,mU 5 O O,aU fun _ _ H K=>R.idxN (i) (SC.sl (K 21 _ O)) (evoI (eU K 22 O)) O bU H dU,aU fun _ _ H K=>R.ldE (K 23 _ O) (SC.sl (K 21 _ O)) (map_get! (l:=b) bU) O O O O H,aU fun _ _ H K=>R.eqD (neg:=true) (b':=(!(a[i]! == b[i]!))) (eqv_uns _ _) O (eU K 20 O) (eU K 24 O) O O O O (O) H,Zt⟩,O,O,O⟩) O (bx':=[]) O (n':=26) O (tV [(0,_),(1,_),(5,_),(25,_)] [] 26 O O O ?_)
     refine W.cond O (fun hc25=>?_) (fun hc25=>?_)
     · refine W.seq ?_
       refine W.l0 1 [.y 4 _] [] [] [(4,_)] [] 26 ⟨aU fun _ _ H _=>R.asg (kB false O) O H,Zt⟩ O O O O (tU O ?_)
       refine W.ret ?_
       exact Ends.one' (.inr O) O (by rw [lists_ne hc14 hlen (not_t hc25)]) O O Zt
     · refine W.skip ?_
       refine W.l0 3 [.y 15 _,.y 16 _,.y 5 _] [] [] [(0,_),(1,_),(5,_)] [] 26 ⟨mU 5 O O,aU fun _ _ H K=>R.addN (i) (1) (eU K 15 O) (kI 1 O) bU H,aU fun _ _ H K=>R.asg (eU K 16 O) O H,Zt⟩ O O O O (tU O ?_)
       exact ⟨⟨(i + 1),⟨(by show i + 1 <= a.length; omega),fun q hq=>(Nat.lt_succ_iff_lt_or_eq.1 hq).elim (hno q) (fun e=>e ▸ beq_iff_eq.1 (not_f hc25))⟩⟩,rfl,(by simp only []; omega)⟩
   · obtain rfl : i = a.length:=by omega
     refine W.exit (W.seq ?_)
     refine W.l0 1 [.y 4 _] [] [] [(4,_)] [] 26 ⟨aU fun _ _ H _=>R.asg (kB true O) O H,Zt⟩ O O O O (tU O ?_)
     refine W.ret ?_
     exact Ends.one' (.inr O) O (by rw [lists_eq hlen hno]) O O Zt
end Go.Sx

namespace Go.Sx
open Go.Proofs
set_option maxHeartbeats 1000000 in
theorem vplays_ok (l : List PvS) (hid : idP l) (ps : List PlS) (hps : allPl ps) (ks : List UInt8) (fr : UInt8) (sc : Hs) : Fn Tryd.prog gl 3 [.sl none 72 (l.map pvD),.sl none 3 (ps.map plD),.sl none 1 (ks.map D.u8),.u8 fr,hashD sc] (.bool true):=by
 refine Fn.of (n:=143) Tryd.func3 rfl rfl rfl (nU rfl) fun C hC hD=>?_
 refine W.seq ?_
 refine W.l0 2 [] [] [] [(0,_),(1,_),(2,_),(3,_),(4,_)] [] 143 Zt O O O O (⟨O,_,R.box (gV 4 O) O O (nU O),⟨O,_,R.asg (kB false O) O (nU O),tV [(0,_),(1,_),(2,_),(3,_),(9,_)] [(9,.var _)] 143 O O O ?_⟩⟩)
 refine W.seq (W.seq ?_)
 by_cases h1 : fewS l = true
 · by_cases h2 : 10 < ps.length
   · refine W.l0 13 [.y 17 _,.y 18 _,.y 19 _,.y 20 _,.y 21 _,.y 22 _,.y 23 _,.y 24 _,.y 25 _,.x 26,.x 27,.x 28,.y 29 _] [] [] [(0,_),(1,_),(2,_),(3,_),(9,_),(29,_)] [(9,.var _)] 143 ⟨mU 0 O O,aU fun _ _ H K=>R.callG hC (few25_ok l) (Bc (Bp (eU K 17 O) O O) Bn) (FrsR.one (.bool _)) H,aU fun _ _ H K=>R.un (eU K 18 O) O H,mU 19 O O,aW O O (gF (by rw [h1]; rfl) O) fun _ _ H K=>R.mov (eU K 1 O) O H,aW O O (gF (by rw [h1]; rfl) O) fun _ _ H K=>R.lenE (SC.sl (K 21 _ O)) (lN _) H,aW O O (gF (by rw [h1]; rfl) O) fun _ _ H K=>R.gtrN (ps.length) (10) (eU K 22 O) (kI 10 O) H,aU fun _ _ H K=>R.pickF (eU K 20 O) (by rw [h1]; rfl) (eU K 23 O) O H,mU 24 O O,aF O O (gT (dT h2) O),aF O O (gT (dT h2) O),aF O O (gT (dT h2) O),aU fun _ _ H K=>R.pickT (eU K 25 O) (dT h2) (kB true O) O H,Zt⟩ O O O O (tU O ?_)
     refine W.condT O (O) ?_
     refine W.seq ?_
     refine W.l0 2 [.y 30 _,.y 10 _] [] [] [(10,_)] [(9,.var _)] 143 ⟨aU fun _ _ H _=>R.callG hC (wk25_ok) Bn (FrsR.one (.bool _)) H,aU fun _ _ H K=>R.asg (eU K 30 O) O H,Zt⟩ O O O O (tU O ?_)
     refine W.ret ?_
     exact Ends.one' (.inr O) O (O) O O Zt
   · refine W.l0 13 [.y 17 _,.y 18 _,.y 19 _,.y 20 _,.y 21 _,.y 22 _,.y 23 _,.y 24 _,.y 25 _,.y 26 _,.y 27 _,.y 28 _,.y 29 _] [] [] [(0,_),(1,_),(2,_),(3,_),(9,_),(29,_)] [(9,.var _)] 143 ⟨mU 0 O O,aU fun _ _ H K=>R.callG hC (few25_ok l) (Bc (Bp (eU K 17 O) O O) Bn) (FrsR.one (.bool _)) H,aU fun _ _ H K=>R.un (eU K 18 O) O H,mU 19 O O,aW O O (gF (by rw [h1]; rfl) O) fun _ _ H K=>R.mov (eU K 1 O) O H,aW O O (gF (by rw [h1]; rfl) O) fun _ _ H K=>R.lenE (SC.sl (K 21 _ O)) (lN _) H,aW O O (gF (by rw [h1]; rfl) O) fun _ _ H K=>R.gtrN (ps.length) (10) (eU K 22 O) (kI 10 O) H,aU fun _ _ H K=>R.pickF (eU K 20 O) (by rw [h1]; rfl) (eU K 23 O) O H,mU 24 O O,aW O O (gF (dF h2) O) fun _ _ H K=>R.mov (eU K 2 O) O H,aW O O (gF (dF h2) O) fun _ _ H K=>R.lenE (SC.sl (K 26 _ O)) (lN _) H,aW O O (gF (dF h2) O) fun _ _ H K=>R.gtrN (ks.length) (6) (eU K 27 O) (kI 6 O) H,aU fun _ _ H K=>R.pickF (eU K 25 O) (dF h2) (eU K 28 O) O H,Zt⟩ O O O O (tU O ?_)
     refine W.condD O (fun hc29=>?_) (fun hc29=>?_)
     · refine W.seq ?_
       refine W.l0 2 [.y 30 _,.y 10 _] [] [] [(10,_)] [(9,.var _)] 143 ⟨aU fun _ _ H _=>R.callG hC (wk25_ok) Bn (FrsR.one (.bool _)) H,aU fun _ _ H K=>R.asg (eU K 30 O) O H,Zt⟩ O O O O (tU O ?_)
       refine W.ret ?_
       exact Ends.one' (.inr O) O (O) O O Zt
     · refine W.skip (W.seq ?_)
       have hbs:=(blkS_all ps).1
       have hmm:=tou_pv hbs ks
       have hml:=hmm.1
       refine W.l0 6 [.y 31 _,.y 32 _,.y 33 _,.y 34 _,.y 35 _,.y 11 _] [] [] [(0,_),(2,_),(3,_),(9,_),(11,_)] [(9,.var _)] 143 ⟨aU fun _ _ H _=>R.callPE hC (easy_ok) (EvP.cons (kI 10 O) O O (EvP.cons (show ev _ _ (.const (.int .u32 10)) = some (.u32 10) from O) O O EvP.nil)) H,mU 1 O O,aU fun _ _ H K=>R.callPE hC (blocks15_ok ps hps) (EvP.cons (eU K 31 O) O O (EvP.cons (eU K 32 O) O O EvP.nil)) H,mU 2 O O,aU fun _ _ H K=>R.callPE hC (tou25_ok (blkS ps) hbs ks (by omega)) (EvP.cons (eU K 33 O) O O (EvP.cons (eU K 34 O) O O EvP.nil)) H,aU fun _ _ H K=>R.asg (eU K 35 O) O H,Zt⟩ O O O O (tU O ?_)
       refine W.seq ?_
       refine W.l0 9 [.y 36 _,.y 37 _,.y 38 _,.y 39 _,.y 40 _,.y 41 _,.y 42 _,.y 43 _,.y 11 _] [] [] [(0,_),(2,_),(3,_),(9,_),(11,_)] [(9,.var _)] 143 ⟨mU 11 O O,mU 3 O O,aU fun _ _ H K=>R.conv (eU K 37 O) O H,mU 11 O O,aU fun _ _ H K=>R.lenE (SC.sl (K 39 _ O)) (lN _) H,aU fun _ _ H K=>R.addN (((touS (blkS ps) ks).map pvO).length) (1) (eU K 40 O) (kI 1 O) bU H,aU fun _ _ H K=>R.remN (fr.toNat) ((((touS (blkS ps) ks).map pvO).length + 1)) (eU K 38 O) (eU K 41 O) bU H,aU fun _ _ H K=>R.slIN ((fr.toNat % (((touS (blkS ps) ks).map pvO).length + 1))) (((touS (blkS ps) ks).map pvO).length) ((((touS (blkS ps) ks).map pvO).length - (fr.toNat % (((touS (blkS ps) ks).map pvO).length + 1)))) (eU K 36 O) (evoI (eU K 42 O)) O O (by simp) (by have:=Nat.mod_lt fr.toNat (show 0 < ((touS (blkS ps) ks).map pvO).length + 1 by omega); omega) (by simp) O (show _ = ((((touS (blkS ps) ks).map pvO).drop (fr.toNat % (((touS (blkS ps) ks).map pvO).length + 1))).map pvD) from rest_map) H,aU fun _ _ H K=>R.asg (eU K 43 O) O H,Zt⟩ O O O O (tU O ?_)
       refine W.seq ?_
       refine W.l0 4 [.y 44 _,.y 45 _,.y 46 _,.y 12 _] [(3,46)] [(3,46)] [(2,_),(3,_),(9,_),(12,_)] [(9,.var _)] 143 ⟨mU 0 O O,mU 11 O O,aU fun _ _ H K=>R.bslE (z:=1) (.cons (eU K 44 O) (.cons (eU K 45 O) .nil)) ⟨⟨O,O,O⟩,⟨O,O,O⟩,Zt⟩ O H dU,aU fun _ _ H K=>R.asgO (K 46 _ O) O H dU,Zt⟩ O O O O (tU O ?_)
       refine W.seq ?_
       refine W.draw (m:=6) (an:=[0,0,2,6,15,31]) hP dU O (its:=[.y 47 _,.y 48 _,.y 49 _,.y 50 _,.y 51 _,.y 13 _]) (ks:=[(5,51)]) (kk:=[(5,51)]) (live:=[2,12,13]) (env':=[(2,_),(12,_),(13,_)]) (⟨nU O,O,⟨aU (lU 9 O O O O O O O),mU 3 O O,aU fun _ _ H K=>R.bin (eU K 48 O) (show ev _ _ (.const (.int .u8 12)) = some (.u8 12) from O) O dU H,aU fun _ _ H K=>R.callG hC (sum15_ok (fr % 12)) (Bc (Bp (eU K 49 O) O O) Bn) (FrsR.one (frs_hash' _)) H,aU fun _ _ H K=>R.bslE (z:=32) (.cons (eU K 47 O) (.cons (eU K 50 O) .nil)) ⟨⟨O,O,O⟩,⟨⟨O,O,O⟩,Zt⟩⟩ O H dU,aU fun _ _ H K=>R.asgO (K 51 _ O) O H dU,Zt⟩,O,O,O⟩) O (bx':=[(9,.var _)]) O (n':=143) O (tV [(2,_),(12,_),(13,_)] [(9,.var _)] 143 O O O ?_)
       refine W.seq (W.seq ?_)
       refine W.l0 1 [.y 14 _] [] [] [(2,_),(12,_),(13,_),(14,_)] [(9,.var _)] 143 ⟨aU fun _ _ H _=>R.asg (kI 0 O) O H,Zt⟩ O O O O (tU O ?_)
       refine W.block ?_
       refine W.loop (α:={q__ : Nat // q__ <= ks.length}) (fun q__=>⟨143,[(2,.sl none 1 (ks.map D.u8)),(12,.sl (some 22) 1 ((pvTwo l (mdS ps ks fr)).map pvL)),(13,.sl (some 26) 32 ((scK sc fr ks q__.1).map hashD)),(14,.int ((q__.1 : Nat) : Int))],[(9,.var (hashD sc))]⟩) (fun q__=>ks.length - q__.1) ⟨(0),bU⟩ O ?_
       rintro ⟨j,hj⟩
       show W _ _ _ _ ⟨143,[(2,.sl none 1 (ks.map D.u8)),(12,.sl (some 22) 1 ((pvTwo l (mdS ps ks fr)).map pvL)),(13,.sl (some 26) 32 ((scK sc fr ks j).map hashD)),(14,.int ((j : Nat) : Int))],[(9,.var (hashD sc))]⟩
       have hj : j <= ks.length:=hj
       refine W.seq (W.seq ?_)
       refine W.l0 4 [.y 52 _,.y 53 _,.y 54 _,.y 55 _] [] [] [(2,_),(12,_),(13,_),(14,_),(55,_)] [(9,.var _)] 143 ⟨mU 14 O O,mU 2 O O,aU fun _ _ H K=>R.lenE (SC.sl (K 53 _ O)) (lN _) H,aU fun _ _ H K=>R.lssN (j) (ks.length) (eU K 52 O) (eU K 54 O) H,Zt⟩ O O O O (tU O ?_)
       refine W.condD O (fun hc55=>?_) (fun hc55=>?_)
       · refine W.skip (W.seq (W.block ?_))
         refine W.l0 10 [.y 58 _,.y 59 _,.y 60 _,.y 61 _,.y 62 _,.y 63 _,.y 64 _,.y 65 _,.y 66 _,.y 13 _] [(8,13),(9,66),(9,58)] [(8,13),(9,66)] [(2,_),(12,_),(13,_),(14,_)] [(9,.var _)] 143 ⟨aU fun _ _ H K=>R.al (K 13 _ O) H dU,mU 2 O O,mU 14 O O,aU fun _ _ H K=>R.idxN (j) (SC.sl (K 59 _ O)) (evoI (eU K 60 O)) O bU H dU,aU fun _ _ H K=>R.ldE (K 61 _ O) (SC.sl (K 59 _ O)) (map_get! (l:=ks) bU) O O O O H,aU fun _ _ H K=>R.bin (eU K 62 O) (show ev _ _ (.const (.int .u8 12)) = some (.u8 12) from O) O dU H,aU fun _ _ H K=>R.callG hC (sum15_ok (ks[j]! % 12)) (Bc (Bp (eU K 63 O) O O) Bn) (FrsR.one (frs_hash' _)) H,aU fun _ _ H K=>R.bslE (z:=32) (.cons (eU K 64 O) .nil) ⟨⟨O,O,O⟩,Zt⟩ O H dU,aU fun _ _ H K=>R.appE (Or.inr (K 58 _ O)) (K 13 _ O) (SrcO.sc (SC.sl (K 65 _ O)) (pur_lit O)) (show _ = ((scK sc fr ks (j + 1)).map hashD) from (scK_app hc55)) (by have:=scK_len sc fr ks j; simp only [List.length_map,List.length_cons,List.length_nil]; omega) H dU dU,aU fun _ _ H K=>R.asgO (K 66 _ O) O H dU,Zt⟩ O O O O (tU O ?_)
         refine W.l0 3 [.y 56 _,.y 57 _,.y 14 _] [] [] [(2,_),(12,_),(13,_),(14,_)] [(9,.var _)] 143 ⟨mU 14 O O,aU fun _ _ H K=>R.addN (j) (1) (eU K 56 O) (kI 1 O) bU H,aU fun _ _ H K=>R.asg (eU K 57 O) O H,Zt⟩ O O O O (tU O ?_)
         exact ⟨⟨(j + 1),bU⟩,rfl,(by simp only []; omega)⟩
       · obtain rfl : j = ks.length:=by omega
         refine W.exit (W.seq (W.seq ?_))
         refine W.l0 1 [.y 15 _] [] [] [(12,_),(13,_),(15,_)] [(9,.var _)] 143 ⟨aU fun _ _ H _=>R.asg (kI 0 O) O H,Zt⟩ O O O O (tU O ?_)
         refine W.block ?_
         refine W.loop (α:={q__ : Nat // q__ <= (pvTwo l (mdS ps ks fr)).length}) (fun q__=>⟨143,[(12,.sl (some 22) 1 ((pvTwo l (mdS ps ks fr)).map pvL)),(13,.sl (some 26) 32 ((scK sc fr ks ks.length).map hashD)),(15,.int ((q__.1 : Nat) : Int))],[(9,.var (hashD sc))]⟩) (fun q__=>(pvTwo l (mdS ps ks fr)).length - q__.1) ⟨(0),bU⟩ O ?_
         rintro ⟨i,hi⟩
         show W _ _ _ _ ⟨143,[(12,.sl (some 22) 1 ((pvTwo l (mdS ps ks fr)).map pvL)),(13,.sl (some 26) 32 ((scK sc fr ks ks.length).map hashD)),(15,.int ((i : Nat) : Int))],[(9,.var (hashD sc))]⟩
         have hi : i <= (pvTwo l (mdS ps ks fr)).length:=hi
         have hi2 : i <= 2:=hi
         have hsl:=scK_len sc fr ks ks.length
         refine W.seq (W.seq ?_)
         refine W.l0 4 [.y 67 _,.y 68 _,.y 69 _,.y 70 _] [] [] [(12,_),(13,_),(15,_),(70,_)] [(9,.var _)] 143 ⟨mU 15 O O,aU fun _ _ H K=>R.al (K 12 _ O) H dU,aU fun _ _ H K=>R.lenE (SC.al (K 68 _ O) (K 12 _ O)) (lN _) H,aU fun _ _ H K=>R.lssN (i) ((pvTwo l (mdS ps ks fr)).length) (eU K 67 O) (eU K 69 O) H,Zt⟩ O O O O (tU O ?_)
         refine W.condD O (fun hc70=>?_) (fun hc70=>?_)
         · refine W.skip (W.seq (W.block (W.seq ?_)))
           refine W.l0 1 [.y 16 _] [] [] [(12,_),(13,_),(15,_),(16,_)] [(9,.var _)] 143 ⟨aU fun _ _ H _=>R.asg (kI 0 O) O H,Zt⟩ O O O O (tU O ?_)
           refine W.block ?_
           refine W.loop (α:={q__ : Nat // q__ <= (scK sc fr ks ks.length).length}) (fun q__=>⟨143,[(12,.sl (some 22) 1 ((pvTwo l (mdS ps ks fr)).map pvL)),(13,.sl (some 26) 32 ((scK sc fr ks ks.length).map hashD)),(15,.int ((i : Nat) : Int)),(16,.int ((q__.1 : Nat) : Int))],[(9,.var (hashD sc))]⟩) (fun q__=>(scK sc fr ks ks.length).length - q__.1) ⟨(0),bU⟩ O ?_
           rintro ⟨k,hk⟩
           show W _ _ _ _ ⟨143,[(12,.sl (some 22) 1 ((pvTwo l (mdS ps ks fr)).map pvL)),(13,.sl (some 26) 32 ((scK sc fr ks ks.length).map hashD)),(15,.int ((i : Nat) : Int)),(16,.int ((k : Nat) : Int))],[(9,.var (hashD sc))]⟩
           have hk : k <= (scK sc fr ks ks.length).length:=hk
           refine W.seq (W.seq ?_)
           refine W.l0 4 [.y 73 _,.y 74 _,.y 75 _,.y 76 _] [] [] [(12,_),(13,_),(15,_),(16,_),(76,_)] [(9,.var _)] 143 ⟨mU 16 O O,aU fun _ _ H K=>R.al (K 13 _ O) H dU,aU fun _ _ H K=>R.lenE (SC.al (K 74 _ O) (K 13 _ O)) (lN _) H,aU fun _ _ H K=>R.lssN (k) ((scK sc fr ks ks.length).length) (eU K 73 O) (eU K 75 O) H,Zt⟩ O O O O (tU O ?_)
           refine W.condD O (fun hc76=>?_) (fun hc76=>?_)
           · refine W.skip (W.seq (W.block (W.seq ?_)))
             have hA:=pvTwo_all (few_pv h1 hid) (mdS_all ps ks fr) hc70
             refine W.draw (m:=63) (an:=(0 :: 0 :: 3 :: 7 :: 0 :: 0 :: 48 :: 112 :: 255 :: 0 :: 0 :: 1536 :: 3584 :: 0 :: 0 :: 24576 :: 57344 :: 131071 :: 262143 :: 524287 :: 1048575 :: 2097151 :: 2097151 :: 8388607 :: 16777215 :: 2097151 :: 2097151 :: 102760447 :: 236978175 :: 536870911 :: 2097151 :: 2097151 :: 3223322623 :: 7518289919 :: 2097151 :: 2097151 :: 51541704703 :: 120261181439 :: 274877906943 :: 549755813887 :: 1099511627775 :: 2199023255551 :: 4398046511103 :: 8796093022207 :: 8796093022207 :: 35184372088831 :: 70368744177663 :: 8796093022207 :: 8796093022207 :: 431008558088191 :: 993958511509503 :: 2251799813685247 :: 8796093022207 :: 8796093022207 :: 13519594975133695 :: 31533993484615679 :: 8796093022207 :: 8796093022207 :: 216181578206806015 :: 504411954358517759 :: 1152921504606846975 :: 2305843009213693951 :: 4611686018427387903 :: [])) hP dU O (its:=(.y 79 _ :: .y 80 _ :: .y 81 _ :: .y 82 _ :: .y 83 _ :: .y 84 _ :: .y 85 _ :: .y 86 _ :: .y 87 _ :: .y 88 _ :: .y 89 _ :: .y 90 _ :: .y 91 _ :: .y 92 _ :: .y 93 _ :: .y 94 _ :: .y 95 _ :: .y 96 _ :: .y 97 _ :: .y 98 _ :: .y 99 _ :: .y 100 _ :: .y 101 _ :: .y 102 _ :: .y 103 _ :: .y 104 _ :: .y 105 _ :: .y 106 _ :: .y 107 _ :: .y 108 _ :: .y 109 _ :: .y 110 _ :: .y 111 _ :: .y 112 _ :: .y 113 _ :: .y 114 _ :: .y 115 _ :: .y 116 _ :: .y 117 _ :: .y 118 _ :: .y 119 _ :: .y 120 _ :: .y 121 _ :: .y 122 _ :: .y 123 _ :: .y 124 _ :: .y 125 _ :: .y 126 _ :: .y 127 _ :: .y 128 _ :: .y 129 _ :: .y 130 _ :: .y 131 _ :: .y 132 _ :: .y 133 _ :: .y 134 _ :: .y 135 _ :: .y 136 _ :: .y 137 _ :: .y 138 _ :: .y 139 _ :: .y 140 _ :: .y 141 _ :: [])) (ks:=[]) (kk:=[]) (live:=[12,13,15,16,141]) (env':=[(12,_),(13,_),(15,_),(16,_),(141,_)]) (⟨nU O,O,⟨aU fun _ _ H K=>R.al (K 12 _ O) H dU,mU 15 O O,aU fun _ _ H K=>R.idxN (i) (SC.al (K 79 _ O) (K 12 _ O)) (evoI (eU K 80 O)) O bU H dU,aU fun _ _ H K=>R.ldE (K 81 _ O) (SC.al (K 79 _ O) (K 12 _ O)) (map_get! (l:=(pvTwo l (mdS ps ks fr))) bU) O O O O H,aU fun _ _ H K=>R.al (K 13 _ O) H dU,mU 16 O O,aU fun _ _ H K=>R.idxN (k) (SC.al (K 83 _ O) (K 13 _ O)) (evoI (eU K 84 O)) O bU H dU,aU fun _ _ H K=>R.ldE (K 85 _ O) (SC.al (K 83 _ O) (K 13 _ O)) (map_get! (l:=(scK sc fr ks ks.length)) bU) O O O O H,aU fun _ _ H K=>R.callG hC (vhist_ok (pvTwo l (mdS ps ks fr))[i]! hA (scK sc fr ks ks.length)[k]!) (Bc (Bp (eU K 82 O) O O) (Bc (Bp (eU K 86 O) O O) Bn)) (frs_ens _ _ _) H,aU fun _ _ H K=>R.al (K 12 _ O) H dU,mU 15 O O,aU fun _ _ H K=>R.idxN (i) (SC.al (K 88 _ O) (K 12 _ O)) (evoI (eU K 89 O)) O bU H dU,aU fun _ _ H K=>R.ldE (K 90 _ O) (SC.al (K 88 _ O) (K 12 _ O)) (map_get! (l:=(pvTwo l (mdS ps ks fr))) bU) O O O O H,aU fun _ _ H K=>R.al (K 13 _ O) H dU,mU 16 O O,aU fun _ _ H K=>R.idxN (k) (SC.al (K 92 _ O) (K 13 _ O)) (evoI (eU K 93 O)) O bU H dU,aU fun _ _ H K=>R.ldE (K 94 _ O) (SC.al (K 92 _ O) (K 13 _ O)) (map_get! (l:=(scK sc fr ks ks.length)) bU) O O O O H,aU fun _ _ H K=>R.callG hC (rhist25_ok (pvTwo l (mdS ps ks fr))[i]! hA (scK sc fr ks ks.length)[k]!) (Bc (Bp (eU K 91 O) O O) (Bc (Bp (eU K 95 O) O O) Bn)) (frs_ens _ _ _) H,aU fun _ _ H K=>R.callG hC (sameE_ok _ _ (hvS_len hA _) (hrS_len hA _)) (Bc (Bor.sc (SC.sl (K 87 _ O)) (brw_map brw_enK)) (Bc (Bor.sc (SC.sl (K 96 _ O)) (brw_map brw_enK)) Bn)) (FrsR.one (.bool _)) H,aU fun _ _ H K=>R.un (eU K 97 O) O H,mU 98 O O,aW O O (gF (ne_hv hA _) O) fun _ _ H K=>R.al (K 12 _ O) H dU,aW O O (gF (ne_hv hA _) O) fun _ _ H K=>R.mov (eU K 15 O) O H,aW O O (gF (ne_hv hA _) O) fun _ _ H K=>R.idxN (i) (SC.al (K 100 _ O) (K 12 _ O)) (evoI (eU K 101 O)) O bU H dU,aW O O (gF (ne_hv hA _) O) fun _ _ H K=>R.ldE (K 102 _ O) (SC.al (K 100 _ O) (K 12 _ O)) (map_get! (l:=(pvTwo l (mdS ps ks fr))) bU) O O O O H,aW O O (gF (ne_hv hA _) O) fun _ _ H K=>R.al (K 13 _ O) H dU,aW O O (gF (ne_hv hA _) O) fun _ _ H K=>R.mov (eU K 16 O) O H,aW O O (gF (ne_hv hA _) O) fun _ _ H K=>R.idxN (k) (SC.al (K 104 _ O) (K 13 _ O)) (evoI (eU K 105 O)) O bU H dU,aW O O (gF (ne_hv hA _) O) fun _ _ H K=>R.ldE (K 106 _ O) (SC.al (K 104 _ O) (K 13 _ O)) (map_get! (l:=(scK sc fr ks ks.length)) bU) O O O O H,aW O O (gF (ne_hv hA _) O) fun _ _ H K=>R.callG hC (vuns_ok (pvTwo l (mdS ps ks fr))[i]! hA (scK sc fr ks ks.length)[k]!) (Bc (Bp (eU K 103 O) O O) (Bc (Bp (eU K 107 O) O O) Bn)) (frs_uns _ _ _) H,aW O O (gF (ne_hv hA _) O) fun _ _ H K=>R.al (K 12 _ O) H dU,aW O O (gF (ne_hv hA _) O) fun _ _ H K=>R.mov (eU K 15 O) O H,aW O O (gF (ne_hv hA _) O) fun _ _ H K=>R.idxN (i) (SC.al (K 109 _ O) (K 12 _ O)) (evoI (eU K 110 O)) O bU H dU,aW O O (gF (ne_hv hA _) O) fun _ _ H K=>R.ldE (K 111 _ O) (SC.al (K 109 _ O) (K 12 _ O)) (map_get! (l:=(pvTwo l (mdS ps ks fr))) bU) O O O O H,aW O O (gF (ne_hv hA _) O) fun _ _ H K=>R.al (K 13 _ O) H dU,aW O O (gF (ne_hv hA _) O) fun _ _ H K=>R.mov (eU K 16 O) O H,aW O O (gF (ne_hv hA _) O) fun _ _ H K=>R.idxN (k) (SC.al (K 113 _ O) (K 13 _ O)) (evoI (eU K 114 O)) O bU H dU,aW O O (gF (ne_hv hA _) O) fun _ _ H K=>R.ldE (K 115 _ O) (SC.al (K 113 _ O) (K 13 _ O)) (map_get! (l:=(scK sc fr ks ks.length)) bU) O O O O H,aW O O (gF (ne_hv hA _) O) fun _ _ H K=>R.callG hC (runs25_ok (pvTwo l (mdS ps ks fr))[i]! hA (scK sc fr ks ks.length)[k]!) (Bc (Bp (eU K 112 O) O O) (Bc (Bp (eU K 116 O) O O) Bn)) (frs_uns _ _ _) H,aW O O (gF (ne_hv hA _) O) fun _ _ H K=>R.callG hC (sameU_ok _ _ (uvS_len hA _) (urS_len hA _)) (Bc (Bor.sc (SC.sl (K 108 _ O)) (brw_map brw_unK)) (Bc (Bor.sc (SC.sl (K 117 _ O)) (brw_map brw_unK)) Bn)) (FrsR.one (.bool _)) H,aW O O (gF (ne_hv hA _) O) fun _ _ H K=>R.un (eU K 118 O) O H,aU fun _ _ H K=>R.pickF (eU K 99 O) (ne_hv hA _) (eU K 119 O) O H,mU 120 O O,aW O O (gF (ne_uv _ _) O) fun _ _ H K=>R.al (K 12 _ O) H dU,aW O O (gF (ne_uv _ _) O) fun _ _ H K=>R.mov (eU K 15 O) O H,aW O O (gF (ne_uv _ _) O) fun _ _ H K=>R.idxN (i) (SC.al (K 122 _ O) (K 12 _ O)) (evoI (eU K 123 O)) O bU H dU,aW O O (gF (ne_uv _ _) O) fun _ _ H K=>R.ldE (K 124 _ O) (SC.al (K 122 _ O) (K 12 _ O)) (map_get! (l:=(pvTwo l (mdS ps ks fr))) bU) O O O O H,aW O O (gF (ne_uv _ _) O) fun _ _ H K=>R.al (K 13 _ O) H dU,aW O O (gF (ne_uv _ _) O) fun _ _ H K=>R.mov (eU K 16 O) O H,aW O O (gF (ne_uv _ _) O) fun _ _ H K=>R.idxN (k) (SC.al (K 126 _ O) (K 13 _ O)) (evoI (eU K 127 O)) O bU H dU,aW O O (gF (ne_uv _ _) O) fun _ _ H K=>R.ldE (K 128 _ O) (SC.al (K 126 _ O) (K 13 _ O)) (map_get! (l:=(scK sc fr ks ks.length)) bU) O O O O H,aW O O (gF (ne_uv _ _) O) fun _ _ H K=>R.callG hC (vbal_ok (pvTwo l (mdS ps ks fr))[i]! hA (scK sc fr ks ks.length)[k]!) (Bc (Bp (eU K 125 O) O O) (Bc (Bp (eU K 129 O) O O) Bn)) (FrsR.one (.u64 _)) H,aW O O (gF (ne_uv _ _) O) fun _ _ H K=>R.al (K 12 _ O) H dU,aW O O (gF (ne_uv _ _) O) fun _ _ H K=>R.mov (eU K 15 O) O H,aW O O (gF (ne_uv _ _) O) fun _ _ H K=>R.idxN (i) (SC.al (K 131 _ O) (K 12 _ O)) (evoI (eU K 132 O)) O bU H dU,aW O O (gF (ne_uv _ _) O) fun _ _ H K=>R.ldE (K 133 _ O) (SC.al (K 131 _ O) (K 12 _ O)) (map_get! (l:=(pvTwo l (mdS ps ks fr))) bU) O O O O H,aW O O (gF (ne_uv _ _) O) fun _ _ H K=>R.al (K 13 _ O) H dU,aW O O (gF (ne_uv _ _) O) fun _ _ H K=>R.mov (eU K 16 O) O H,aW O O (gF (ne_uv _ _) O) fun _ _ H K=>R.idxN (k) (SC.al (K 135 _ O) (K 13 _ O)) (evoI (eU K 136 O)) O bU H dU,aW O O (gF (ne_uv _ _) O) fun _ _ H K=>R.ldE (K 137 _ O) (SC.al (K 135 _ O) (K 13 _ O)) (map_get! (l:=(scK sc fr ks ks.length)) bU) O O O O H,aW O O (gF (ne_uv _ _) O) fun _ _ H K=>R.callG hC (rbal25_ok (pvTwo l (mdS ps ks fr))[i]! hA (scK sc fr ks ks.length)[k]!) (Bc (Bp (eU K 134 O) O O) (Bc (Bp (eU K 138 O) O O) Bn)) (FrsR.one (.u64 _)) H,aW O O (gF (ne_uv _ _) O) fun _ _ H K=>R.bin (eU K 130 O) (eU K 139 O) O Zt H,aU fun _ _ H K=>R.pickF (eU K 121 O) (ne_uv _ _) (eU K 140 O) O H,Zt⟩,O,O,O⟩) O (bx':=[(9,.var _)]) O (n':=143) O (tV [(12,_),(13,_),(15,_),(16,_),(141,_)] [(9,.var _)] 143 O O O ?_)
             refine W.condF O (bne_eq_false_iff_eq.2 (ne_bl _ _)) ?_
             refine W.skip ?_
             refine W.l0 3 [.y 77 _,.y 78 _,.y 16 _] [] [] [(12,_),(13,_),(15,_),(16,_)] [(9,.var _)] 143 ⟨mU 16 O O,aU fun _ _ H K=>R.addN (k) (1) (eU K 77 O) (kI 1 O) bU H,aU fun _ _ H K=>R.asg (eU K 78 O) O H,Zt⟩ O O O O (tU O ?_)
             exact ⟨⟨(k + 1),bU⟩,rfl,(by simp only []; omega)⟩
           · obtain rfl : k = (scK sc fr ks ks.length).length:=by omega
             refine W.exit ?_
             refine W.l0 3 [.y 71 _,.y 72 _,.y 15 _] [] [] [(12,_),(13,_),(15,_)] [(9,.var _)] 143 ⟨mU 15 O O,aU fun _ _ H K=>R.addN (i) (1) (eU K 71 O) (kI 1 O) bU H,aU fun _ _ H K=>R.asg (eU K 72 O) O H,Zt⟩ O O O O (tU O ?_)
             exact ⟨⟨(i + 1),bU⟩,rfl,(by simp only []; omega)⟩
         · obtain rfl : i = (pvTwo l (mdS ps ks fr)).length:=by omega
           refine W.exit (W.seq ?_)
           refine W.l0 2 [.y 142 _,.y 10 _] [] [] [(10,_)] [(9,.var _)] 143 ⟨aU fun _ _ H _=>R.callG hC (wk25_ok) Bn (FrsR.one (.bool _)) H,aU fun _ _ H K=>R.asg (eU K 142 O) O H,Zt⟩ O O O O (tU O ?_)
           refine W.ret ?_
           exact Ends.one' (.inr O) O (O) O O Zt
 · refine W.l0 13 [.y 17 _,.y 18 _,.y 19 _,.y 20 _,.x 21,.x 22,.x 23,.y 24 _,.y 25 _,.x 26,.x 27,.x 28,.y 29 _] [] [] [(0,_),(1,_),(2,_),(3,_),(9,_),(29,_)] [(9,.var _)] 143 ⟨mU 0 O O,aU fun _ _ H K=>R.callG hC (few25_ok l) (Bc (Bp (eU K 17 O) O O) Bn) (FrsR.one (.bool _)) H,aU fun _ _ H K=>R.un (eU K 18 O) O H,mU 19 O O,aF O O (gT (by rw [bfalse h1]; rfl) O),aF O O (gT (by rw [bfalse h1]; rfl) O),aF O O (gT (by rw [bfalse h1]; rfl) O),aU fun _ _ H K=>R.pickT (eU K 20 O) (by rw [bfalse h1]; rfl) (kB true O) O H,mU 24 O O,aF O O (gT (O) O),aF O O (gT (O) O),aF O O (gT (O) O),aU fun _ _ H K=>R.pickT (eU K 25 O) (O) (kB true O) O H,Zt⟩ O O O O (tU O ?_)
   refine W.condT O (O) ?_
   refine W.seq ?_
   refine W.l0 2 [.y 30 _,.y 10 _] [] [] [(10,_)] [(9,.var _)] 143 ⟨aU fun _ _ H _=>R.callG hC (wk25_ok) Bn (FrsR.one (.bool _)) H,aU fun _ _ H K=>R.asg (eU K 30 O) O H,Zt⟩ O O O O (tU O ?_)
   refine W.ret ?_
   exact Ends.one' (.inr O) O (O) O O Zt
end Go.Sx

namespace Go.Sx
open Go.ChangeShapes Go.WideShapes
structure Rd (P : Program) (t : TypeId) (z : Nat) {α : Type} (f : α -> D) (q : α -> Prop) : Prop where
 cells : P.cellsOf t = z
 sz : ∀ a,q a -> (f a).sz = z
 rd : ∀ {H : Type} {enc : TypeId × Value -> H} {w : World} {n : Nat} {cs : List Value} {x : DataW H × List MemPlace},DataW.trod enc P w 0 (fun _=>true) true n t cs = some x ->
  (x.1.weights P t).all (· <= reachBytes) = true -> ∃ a,q a /\ Rc w (fun x=>x) (fun b=>b < w.heap.size) (fun _=>False) false (f a) cs []
variable {P : Program} {t e z : Nat}
theorem Rd.bool (ht : P.underlying t = some .bool) (hz : P.cellsOf t = 1) : Rd P t 1 D.bool (fun _=>True):=
 ⟨hz,fun _ _=>rfl,fun h _=>by obtain ⟨b,rfl,_⟩:=DataW.trod_bool ht h; exact ⟨b,trivial,.bool b⟩⟩
theorem Rd.int (ht : P.underlying t = some (.int .i64)) (hz : P.cellsOf t = 1) : Rd P t 1 D.int (fun n=>-9223372036854775808 <= n /\ n <= 9223372036854775807):=
 ⟨hz,fun _ _=>rfl,fun h _=>by
  obtain ⟨n,rfl,_,hw⟩:=DataW.trod_int ht h
  refine ⟨n, ?_,.int n⟩
  simp [Lit.wf,IntKind.min,IntKind.max,IntKind.signed,IntKind.bits] at hw
  omega⟩
theorem Rd.u8 (ht : P.underlying t = some (.int .u8)) (hz : P.cellsOf t = 1) : Rd P t 1 D.u8 (fun _=>True):=
 ⟨hz,fun _ _=>rfl,fun h _=>by
  obtain ⟨n,rfl,_,hw⟩:=DataW.trod_int ht h
  simp [Lit.wf,IntKind.min,IntKind.max,IntKind.signed,IntKind.bits] at hw
  refine ⟨UInt8.ofNat n.toNat,trivial, ?_⟩
  have : ((UInt8.ofNat n.toNat).toNat : Int) = n:=by simp [UInt8.toNat_ofNat']; omega
  have h1:=Rc.u8 (w:=‹World›) (ρ:=fun x=>x) (G:=fun b=>b < (‹World›).heap.size) (L:=fun _=>False) (p:=false) (UInt8.ofNat n.toNat)
  rw [this] at h1
  exact h1⟩
theorem Rd.u32 (ht : P.underlying t = some (.int .u32)) (hz : P.cellsOf t = 1) : Rd P t 1 D.u32 (fun _=>True):=
 ⟨hz,fun _ _=>rfl,fun h _=>by
  obtain ⟨n,rfl,_,hw⟩:=DataW.trod_int ht h
  simp [Lit.wf,IntKind.min,IntKind.max,IntKind.signed,IntKind.bits] at hw
  refine ⟨UInt32.ofNat n.toNat,trivial, ?_⟩
  have : ((UInt32.ofNat n.toNat).toNat : Int) = n:=by simp [UInt32.toNat_ofNat']; omega
  have h1:=Rc.u32 (w:=‹World›) (ρ:=fun x=>x) (G:=fun b=>b < (‹World›).heap.size) (L:=fun _=>False) (p:=false) (UInt32.ofNat n.toNat)
  rw [this] at h1
  exact h1⟩
theorem Rd.u64 (ht : P.underlying t = some (.int .u64)) (hz : P.cellsOf t = 1) : Rd P t 1 D.u64 (fun _=>True):=
 ⟨hz,fun _ _=>rfl,fun h _=>by
  obtain ⟨n,rfl,_,hw⟩:=DataW.trod_int ht h
  simp [Lit.wf,IntKind.min,IntKind.max,IntKind.signed,IntKind.bits] at hw
  refine ⟨UInt64.ofNat n.toNat,trivial, ?_⟩
  have : ((UInt64.ofNat n.toNat).toNat : Int) = n:=by simp [UInt64.toNat_ofNat']; omega
  have h1:=Rc.u64 (w:=‹World›) (ρ:=fun x=>x) (G:=fun b=>b < (‹World›).heap.size) (L:=fun _=>False) (p:=false) (UInt64.ofNat n.toNat)
  rw [this] at h1
  exact h1⟩
theorem weightsAll_mem {H : Type} {p : Nat -> Bool} {l : List (DataW H)} (h : (DataW.weightsAll P e l).all p = true) : ∀ d ∈ l,(d.weights P e).all p = true:=by
 induction l with
 | nil=>intro d hd; cases hd
 | cons x r ih=>
  simp only [DataW.weightsAll,List.all_append,Bool.and_eq_true] at h
  intro d hd
  rcases List.mem_cons.1 hd with rfl | hd
  · exact h.1
  · exact ih h.2 d hd
theorem weightsEach_get {H : Type} {p : Nat -> Bool} : ∀ {ts : List TypeId} {l : List (DataW H)},(DataW.weightsEach P ts l).all p = true -> ∀ (i : Nat) (t : TypeId) (d : DataW H),ts[i]? = some t -> l[i]? = some d -> (d.weights P t).all p = true:=by
 intro ts
 induction ts with
 | nil=>intro l _ i t d ht; simp at ht
 | cons t0 ts ih=>
  intro l h i t d ht hd
  cases l with
  | nil=>simp at hd
  | cons x r=>
   simp only [DataW.weightsEach,List.all_append,Bool.and_eq_true] at h
   cases i with
   | zero=>simp at ht hd; subst ht; subst hd; exact h.1
   | succ i=>exact ih h.2 i t d (by simpa using ht) (by simpa using hd)
theorem list_of {α : Type} {n : Nat} {p : Nat -> α -> Prop} (h : ∀ i,i < n -> ∃ a,p i a) : ∃ l : List α,l.length = n /\ ∀ i (hi : i < l.length),p i l[i]:=by
 induction n with
 | zero=>exact ⟨[],rfl,fun i hi=>by simp at hi⟩
 | succ n ih=>
  obtain ⟨l,hl,hp⟩:=ih (fun i hi=>h i (by omega))
  obtain ⟨a,ha⟩:=h n (by omega)
  refine ⟨l ++ [a],by simp [hl],fun i hi=>?_⟩
  rcases Nat.lt_or_ge i l.length with h1 | h1
  · rw [List.getElem_append_left h1]; exact hp i h1
  · have : i = n:=by simp at hi; omega
    subst this
    rw [List.getElem_append_right h1]
    simpa [hl] using ha
theorem cells_row {w : World} {b off n : Nat} {c : Array Value} {ty : TypeId} {fz : Nat × Nat} {cs : List Value} (hb : w.heap[b]? = some (.cells c ty fz)) (h : w.cells? 0 ⟨b,off,none⟩ n = some cs) (hn : 0 < n) :
 off + n <= c.size /\ cs = (c.toList.drop off).take n:=by
 obtain ⟨_,hl,hc⟩:=World.cells?_some h
 have hc' : ∀ i,i < n -> c[off + i]? = cs[i]?:=fun i hi=>by
  have:=hc i hi
  rw [add_lit,cell_of_row w b _ c ty fz hb] at this
  exact this
 have h1:=hc' (n - 1) (by omega)
 have h2 : off + (n - 1) < c.size:=by
  rw [List.getElem?_eq_getElem (by omega)] at h1
  exact (Array.getElem?_eq_some_iff.1 h1).1
 refine ⟨by omega, ?_⟩
 apply List.ext_getElem?
 intro i
 rw [List.getElem?_take]
 split
 · rw [List.getElem?_drop]
   rw [<- hc' i (by assumption)]
   simp
 · rw [List.getElem?_eq_none (by omega)]
theorem Rd.sl {α : Type} {f : α -> D} {q : α -> Prop} (ht : P.underlying t = some (.slice e)) (hz : P.cellsOf t = 1) (h0 : 0 < z) (hby : 0 < P.bytesOf e) (he : Rd P e z f q) :
 Rd P t 1 (fun l : List α=>.sl none z (l.map f)) (fun l=>l.length <= 140737488355328 /\ ∀ x ∈ l,q x):=
 ⟨hz,fun _ _=>rfl,fun {H enc w n cs x} h hwt=>by
  rcases Go.Deep.open_slice ht h with ⟨rfl,_⟩ | ⟨a,len,cap,m,n',Dd,Pl,rfl,_,hlc,hcm,hm,rfl,hx⟩
  · exact ⟨[],⟨by simp,by simp⟩,.slN none z⟩
  · simp only [if_true] at hm
    have hx:=fun i (hi : i < cap)=>hx i (by omega)
    simp only [DataW.weights,ht,List.all_cons,List.all_append,Bool.and_eq_true,decide_eq_true_eq,List.length_map,List.length_range] at hwt
    obtain ⟨hw1,hw2,hw3⟩:=hwt
    have hw4 : ∀ i,i < len -> ((Dd i).weights P e).all (· <= reachBytes) = true:=fun i hi=>weightsAll_mem hw2 _ (List.mem_map.2 ⟨i,List.mem_range.2 hi,rfl⟩)
    have hlen : len <= 140737488355328:=by
     have h6 : len * 1 <= (len + (m - len)) * P.bytesOf e:=Nat.mul_le_mul (by omega) hby
     simp only [reachBytes] at hw1
     omega
    rcases Nat.eq_zero_or_pos cap with rfl | hcap
    · have : len = 0:=by omega
      subst this
      exact ⟨[],⟨by simp,by simp⟩,.slE none z a⟩
    · rw [he.cells] at hx
      obtain ⟨b,off,sp⟩:=a
      obtain ⟨cs0,hc0,_⟩:=hx 0 hcap
      obtain ⟨_,hl0,hv0⟩:=World.cells?_some hc0
      have h1:=hv0 0 h0
      rw [List.getElem?_eq_getElem (by omega)] at h1
      have hblk : ∃ c ty fz,w.heap[b]? = some (.cells c ty fz) /\ sp = none:=by
       have e0 : ((⟨b,off,sp⟩ : Addr).add (0 * z)).add 0 = ⟨b,off,sp⟩:=by simp [Addr.add]
       rw [e0] at h1
       unfold World.cell? at h1
       simp only at h1
       split at h1
       · rename_i c ty fz hh
         cases sp with
         | none=>exact ⟨c,ty,fz,hh,rfl⟩
         | some s=>simp at h1
       · cases h1
      obtain ⟨c,ty,fz,hb,rfl⟩:=hblk
      have hrow : ∀ i,i < cap -> off + i * z + z <= c.size /\ (i < len -> ∃ a,q a /\ Rc w (fun x=>x) (fun b=>b < w.heap.size) (fun _=>False) false (f a) ((c.toList.drop (off + i * z)).take z) []):=fun i hi=>by
       obtain ⟨cs',h2,h3⟩:=hx i hi
       rw [add_lit] at h2
       obtain ⟨h4,rfl⟩:=cells_row hb h2 h0
       exact ⟨h4,fun hi=>he.rd h3 (hw4 i hi)⟩
      obtain ⟨l,hl,hp⟩:=list_of (fun i hi=>(hrow i (by omega : i < cap)).2 hi : ∀ i,i < len -> _)
      have hsz : off + cap * z <= c.size:=by
       have h5:=(hrow (cap - 1) (by omega)).1
       have : (cap - 1) * z + z = cap * z:=by rw [<- Nat.succ_mul]; congr 1; omega
       omega
      have hlz : len * z <= cap * z:=Nat.mul_le_mul_right z hlc
      refine ⟨l,⟨by omega,fun y hy=>?_⟩, ?_⟩
      · obtain ⟨i,hi,rfl⟩:=List.mem_iff_getElem.1 hy
        exact (hp i hi).1
      · have:=Rc.slI (w:=w) (ρ:=fun x=>x) (G:=fun b=>b < w.heap.size) (L:=fun _=>False) (p:=false) b off c ty fz cap z (l.map f) hb (Array.getElem?_eq_some_iff.1 hb).1 (by simp; omega) (by simp [hl]; omega)
         (fun i hi=>by simp only [List.getElem_map]; exact (hp i (by simpa using hi)).2)
        simpa [hl] using this⟩
theorem Rd.arr {α : Type} {f : α -> D} {q : α -> Prop} {n zz : Nat} (ht : P.underlying t = some (.array n e)) (hz : P.cellsOf t = zz) (hzz : zz = n * z) (he : Rd P e z f q) :
 Rd P t zz (fun l : List α=>.arr n z (l.map f)) (fun l=>l.length = n /\ ∀ x ∈ l,q x):=
 ⟨hz,fun _ _=>by simp [hzz],fun {H enc w m cs x} h hwt=>by
  obtain ⟨xs,m',_,rfl,hlen,hxl,hx⟩:=DataW.trod_array ht h
  rw [hz] at hlen
  rw [he.cells] at hx
  obtain ⟨l,hl,hp⟩:=list_of (p:=fun i a=>q a /\ Rc w (fun x=>x) (fun b=>b < w.heap.size) (fun _=>False) false (f a) ((cs.drop (i * z)).take z) []) (n:=n) (fun i hi=>by
   have:=hx i hi
   rw [List.getElem?_eq_getElem (by omega)] at this
   simp only [DataW.weights,ht] at hwt
   exact he.rd this (weightsAll_mem hwt _ (List.mem_map.2 ⟨_,List.getElem_mem _,rfl⟩)))
  refine ⟨l,⟨hl,fun y hy=>?_⟩,.arr n z _ cs (by simpa using hl) (by omega) (fun i hi=>by simp only [List.getElem_map]; exact (hp i (by simpa using hi)).2)⟩
  obtain ⟨i,hi,rfl⟩:=List.mem_iff_getElem.1 hy
  exact (hp i hi).1⟩
theorem Rd.map {α β : Type} {f : α -> D} {q : α -> Prop} {g : β -> D} {q' : β -> Prop} (h : Rd P t z f q) (m : α -> β) (hm : ∀ a,q a -> q' (m a) /\ g (m a) = f a) (hs : ∀ b,q' b -> (g b).sz = z) : Rd P t z g q':=
 ⟨h.cells,hs,fun hx hw=>by
  obtain ⟨a,ha,hr⟩:=h.rd hx hw
  obtain ⟨h1,h2⟩:=hm a ha
  exact ⟨m a,h1,by rw [h2]; exact hr⟩⟩
structure RdF (P : Program) (off : Nat) (fs : List Field) (e : Nat) {α : Type} (f : α -> List D) (q : α -> Prop) : Prop where
 sz : ∀ a,q a -> off + D.szs (f a) = e
 rd : ∀ {H : Type} {enc : TypeId × Value -> H} {w : World} {n : Nat} {cs : List Value},(∀ fld ∈ fs,∃ x,DataW.trod enc P w 0 (fun _=>true) true n fld.type ((cs.drop fld.offset).take (P.cellsOf fld.type)) = some x /\ (x.1.weights P fld.type).all (· <= reachBytes) = true) ->
  ∃ a,q a /\ ∀ k (hk : k < (f a).length),Rc w (fun x=>x) (fun b=>b < w.heap.size) (fun _=>False) false (f a)[k] ((cs.drop (off + offk (f a) k)).take (f a)[k].sz) []
theorem RdF.nil {off : Nat} : RdF P off [] off (fun _ : Unit=>[]) (fun _=>True):=
 ⟨fun _ _=>by simp,fun _=>⟨(),trivial,fun k hk=>by simp at hk⟩⟩
theorem RdF.cons {α β : Type} {f : α -> D} {q : α -> Prop} {g : β -> List D} {q' : β -> Prop} {off e' : Nat} {fld : Field} {fs : List Field} (h : Rd P fld.type z f q) (ho : fld.offset = off) (hr : RdF P (off + z) fs e' g q') :
 RdF P off (fld :: fs) e' (fun a : α × β=>f a.1 :: g a.2) (fun a=>q a.1 /\ q' a.2):=
 ⟨fun a ha=>by have:=hr.sz a.2 ha.2; have:=h.sz a.1 ha.1; simp only [szs_cons]; omega,fun {H enc w n cs} hx=>by
  obtain ⟨x,h1,hw⟩:=hx fld (by simp)
  rw [ho,h.cells] at h1
  obtain ⟨a,ha,hra⟩:=h.rd h1 hw
  obtain ⟨b,hb,hrb⟩:=hr.rd (fun f hf=>hx f (List.mem_cons_of_mem _ hf))
  refine ⟨(a,b),⟨ha,hb⟩,fun k hk=>?_⟩
  cases k with
  | zero=>simpa [offk,h.sz a ha] using hra
  | succ k=>
   have:=hrb k (by simpa using hk)
   simp only [offk,List.take_succ_cons,szs_cons,List.getElem_cons_succ,h.sz a ha]
   rw [<- Nat.add_assoc]
   exact this⟩
theorem Rd.struct {α : Type} {g : α -> List D} {q : α -> Prop} {fs : Array Field} (ht : P.underlying t = some (.struct fs)) (hz : P.cellsOf t = z) (h : RdF P 0 fs.toList z g q) : Rd P t z (fun a=>.agg (g a)) q:=
 ⟨hz,fun a ha=>by have:=h.sz a ha; simp; omega,fun {H enc w n cs x} hx hwt=>by
  obtain ⟨xs,m,_,rfl,hlen,hxl,hf⟩:=DataW.trod_struct ht hx
  obtain ⟨a,ha,hr⟩:=h.rd (H:=H) (enc:=enc) (w:=w) (n:=m) (cs:=cs) (fun fld hm=>by
   obtain ⟨i,hi,rfl⟩:=List.mem_iff_getElem.1 hm
   have h1:=hf i fs[i] (by simp at hi; simp [hi])
   rw [List.getElem?_eq_getElem (by simp at hi; omega)] at h1
   simp only [DataW.weights,ht] at hwt
   refine ⟨_,by simpa using h1, ?_⟩
   exact weightsEach_get hwt i _ _ (by simp at hi; simp [hi]) (by simp at hi; rw [List.getElem?_map,List.getElem?_eq_getElem (by omega)]; rfl))
  refine ⟨a,ha, ?_⟩
  have:=Rc.agg (w:=w) (ρ:=fun x=>x) (G:=fun b=>b < w.heap.size) (L:=fun _=>False) (p:=false) (g a) cs (fun _=>[]) (by have:=h.sz a ha; omega) (fun k hk=>by have:=hr k hk; rwa [Nat.zero_add] at this)
  rw [flat0] at this
  exact this⟩
def isAggT (P : Program) (t : TypeId) : Bool:=match P.underlying t with
 | some (.struct _)=>true
 | some (.array _ _)=>true
 | _=>false
theorem cells_one {r : Reach} {W : World} {base : Nat} {v : Value} (hu : isAggT P t = false) (hv : Value.okWide P W r base t v) : v.cells = #[v]:=by
 cases v with
 | agg cs=>
  exfalso
  unfold isAggT at hu
  unfold Value.okWide at hv
  split at hv
  · rename_i h; simp [h] at hu
  · rename_i h; simp [h] at hu
  · unfold Cell.okWide Cell.ok at hv
    split at hv <;> simp_all
 | _=>rfl
theorem Rd.arg {H : Type} {enc : TypeId × Value -> H} {α : Type} {f : α -> D} {q : α -> Prop} {g : Bool} {r : Reach} {W : World} {base : Nat} {v : Value} {d : DataW H} {ps : List MemPlace} (h : Rd P t z f q) (hu : isAggT P t = g) (hg : ∀ a,q a -> (f a).isAgg = g)
 (hv : Value.okWide P W r base t v) (hd : DataW.Trod enc P W 0 (fun _=>true) true t v d ps) (hw : (d.weights P t).all (· <= reachBytes) = true) :
 ∃ a,q a /\ VR W (fun x=>x) (fun b=>b < W.heap.size) (fun _=>False) (f a) v []:=by
 obtain ⟨fuel,hd⟩:=hd
 obtain ⟨a,ha,hr⟩:=h.rd hd hw
 refine ⟨a,ha, ?_⟩
 have hga:=hg a ha
 cases g with
 | true=>
  have : ∃ cs,v = .agg cs:=by
   unfold isAggT at hu
   unfold Value.okWide at hv
   split at hv
   · exact ⟨_,hv.choose_spec.1⟩
   · exact ⟨_,hv.choose_spec.1⟩
   · split at hu <;> simp_all
  obtain ⟨cs,rfl⟩:=this
  simp only [VR,hga,if_true]
  exact ⟨cs,rfl,hr.flag⟩
 | false=>
  rw [cells_one hu hv] at hr
  simp only [VR,hga,if_false,Bool.false_eq_true]
  exact hr.flag
theorem trodAll_stays {H : Type} {enc : TypeId × Value -> H} {W W' : World} {sp : Nat -> Bool} (hl : laidOutB P = true) (hb : ∀ b,b < W.heap.size -> W'.heap[b]? = W.heap[b]?) :
 ∀ {ts : List TypeId} {vs : List Value} {ds : List (DataW H)} {ps : List MemPlace},(ts.all fun t=>P.readableRec t && decide (t < P.types.size)) = true -> (∀ x ∈ ps,x.block < W.heap.size) -> (∀ x ∈ ps,sp x.block = true) ->
  DataW.TrodAll enc P W 0 (fun _=>true) true ts vs ds ps -> DataW.TrodAll enc P W' 0 sp true ts vs ds ps:=by
 intro ts
 induction ts with
 | nil=>intro vs ds ps _ _ _ h; obtain ⟨rfl,rfl,rfl⟩:=trodAll_nil h; exact trodAll_mk0
 | cons t ts ih=>
  intro vs ds ps ht hlt hs h
  obtain ⟨v,vs1,d,ds1,a,b,rfl,rfl,rfl,h1,h2⟩:=trodAll_cons h
  simp only [List.all_cons,Bool.and_eq_true,decide_eq_true_eq] at ht
  refine trodAll_cons_mk (Go.WideElems.Trod_stays hl ht.1.1 ht.1.2 h1 (fun x hx=>?_) (fun x hx=>hs x (List.mem_append.2 (.inl hx)))) (ih ht.2 (fun x hx=>hlt x (List.mem_append.2 (.inr hx))) (fun x hx=>hs x (List.mem_append.2 (.inr hx))) h2)
  have hx':=hlt x (List.mem_append.2 (.inl hx))
  cases x with
  | cell b o=>exact World.cell?_of_block (w:=W) (hb b hx')
  | map b=>exact hb b hx'
theorem contract_of {H : Type} {enc : TypeId × Value -> H} {fn : Func} {f : FuncId} {s : ChangeSpec} {W : World} {args : Array Value} {ds gs : List (DataW H)} {before : List MemPlace} {tb : TypeId} {gl : List (Nat × D)} {Ds : List D}
 (hl : laidOutB P = true) (hpar : (fn.params.toList.all fun t=>P.readableRec t && decide (t < P.types.size)) = true) (hres : fn.resultTypes = #[tb]) (htb : P.underlying tb = some .bool) (hsv : s.vars = [])
 (hfn : s.fn H ds = { results:=[.lit (.bool true)],args:=ds }) (hW : DataW.Whole enc P fn.params.toList s.vars false W args.toList ds gs before)
 (hgl : ∀ g d,(g,d) ∈ gl -> g < W.heap.size /\ ∃ cs e fz,W.heap[g]? = some (.cells cs e fz) /\ Rc W (fun x=>x) (fun _=>False) (fun _=>False) false d cs.toList [])
 (hlen : args.toList.length = Ds.length) (hargs : ∀ k (h : k < Ds.length),VR W (fun x=>x) (fun b=>b < W.heap.size) (fun _=>False) Ds[k] (args.toList.getD k undef) [])
 (hf : Fn P gl f Ds (.bool true)) : Calls P f args W fun e W'=>∃ v,e = .returned v /\ s.post enc P fn false true false false W args v W':=by
 have hrun:=hf W (fun b=>b < W.heap.size) args.toList hgl hlen hargs
 rw [Array.toArray_toList] at hrun
 refine hrun.mono fun ex W' ⟨v,F,he,hext,_,_,hrv⟩=>⟨v,he, ?_⟩
 have hv : v = .bool true:=by
  obtain ⟨_,h2⟩:=hrv
  simp only [VR,D.isAgg,Bool.false_eq_true,if_false] at h2
  cases h2
  rfl
 subst hv
 have hlt:=hW.lt
 have hW0:=hW
 obtain ⟨p,q',hA,hV,rfl,hfz,hnd⟩:=hW
 rw [hsv] at hV
 obtain ⟨rfl,rfl⟩:=trodVars_none hV
 simp only [List.append_nil] at hlt hW0
 have hst : ∀ sp : Nat -> Bool,(∀ x ∈ p,sp x.block = true) -> DataW.TrodAll enc P W' 0 sp true fn.params.toList args.toList ds p:=fun sp hs=>trodAll_stays hl (fun b hb=>hext.block b hb) hpar hlt hs hA
 refine ⟨ds,[],p,[],p,[],hW0, ?_, ?_, ?_,⟨hext.os,hext.output,fun i hi=>?_⟩,fun h=>by cases h⟩
 · rw [hres]
   simp only [List.append_nil,hfn]
   exact trodAll_cons_mk (Go.RowKit.shut_bool htb true) trodAll_mk0
 · simp only [List.append_nil,hfn]
   exact hst _ (fun x hx=>by simpa using hlt x hx)
 · simp only [List.append_nil,hfn,hsv]
   rfl
 · rw [hext.block i hi]
   cases hh : W.heap[i]? with
   | none=>simp
   | some o=>cases o <;> simp
theorem rc_tab32 {w : World} {ρ : Nat -> Nat} {G L : Nat -> Prop} (l : List UInt32) {n : Nat} (hn : l.length = n) : Rc w ρ G L false (.arr n 1 (l.map D.u32)) (l.map fun x=>Value.int .u32 x.toNat) []:=by
 refine .arr n 1 _ _ (by simpa using hn) (by simp [hn]) (fun i hi=>?_)
 have hi' : i < l.length:=by simpa using hi
 simp only [Nat.mul_one,List.getElem_map]
 rw [List.drop_eq_getElem_cons (by simpa using hi'),List.take_succ_cons,List.take_zero,List.getElem_map]
 exact .u32 _
theorem gl_tab32 {W : World} {name : String} {g n : Nat} (l : List UInt32) (hg : P.globalNamed name = some g) (hn : l.length = n) (h : Lib.TabIs P W name .u32 (l.map fun x=>((x.toNat : Nat) : Int))) :
 g < W.heap.size /\ ∃ cs e fz,W.heap[g]? = some (.cells cs e fz) /\ Rc W (fun x=>x) (fun _=>False) (fun _=>False) false (.arr n 1 (l.map D.u32)) cs.toList []:=by
 unfold Lib.TabIs World.var? at h
 simp only [hg,Option.bind_some,List.map_map] at h
 split at h
 · rename_i cs e fz hh
   simp only [Option.some.injEq] at h
   refine ⟨(Array.getElem?_eq_some_iff.1 hh).1,cs,e,fz,hh, ?_⟩
   rw [h]
   exact rc_tab32 l hn
 · cases h
end Go.Sx

namespace Go.Sx
open Go.Proofs
theorem rd_tx : Rd Tryd.prog 54 4 txD (fun t=>∀ x ∈ t.ins,x.tx.length = 32):=by
 have h32:=Rd.u32 (P:=Tryd.prog) Tryd.underlying32 (by kernel_rfl)
 have h64:=Rd.u64 (P:=Tryd.prog) Tryd.underlying48 (by kernel_rfl)
 have hb:=Rd.sl (P:=Tryd.prog) Tryd.underlying24 (by kernel_rfl) (by decide) (of_decide_eq_true (by kernel_rfl)) (Rd.u8 Tryd.underlying5 (by kernel_rfl))
 have hbb:=Rd.sl (P:=Tryd.prog) Tryd.underlying65 (by kernel_rfl) (by decide) (of_decide_eq_true (by kernel_rfl)) hb
 have hh:=Rd.arr (P:=Tryd.prog) (n:=32) Tryd.underlying26 (by kernel_rfl) rfl (Rd.u8 Tryd.underlying5 (by kernel_rfl))
 have hpl:=Rd.struct (P:=Tryd.prog) (z:=33) Tryd.underlying60 (by kernel_rfl) (.cons hh rfl (.cons h32 rfl .nil))
 have hin0:=Rd.struct (P:=Tryd.prog) (z:=36) Tryd.underlying67 (by kernel_rfl) (.cons hpl rfl (.cons hb rfl (.cons h32 rfl (.cons hbb rfl .nil))))
 have hin:=hin0.map (q':=fun x : InS=>x.tx.length = 32) (g:=inD) (fun a=>⟨a.1.1,a.1.2.1,a.2.1,a.2.2.1,a.2.2.2.1⟩) (fun a ha=>⟨ha.1.1.1,rfl⟩) (fun b hb=>rfl)
 have hout0:=Rd.struct (P:=Tryd.prog) (z:=2) Tryd.underlying64 (by kernel_rfl) (.cons h64 rfl (.cons hb rfl .nil))
 have hout:=hout0.map (q':=fun _ : OutS=>True) (g:=outD) (fun a=>⟨a.1,a.2.1⟩) (fun a ha=>⟨trivial,rfl⟩) (fun b hb=>rfl)
 have hins:=Rd.sl (P:=Tryd.prog) Tryd.underlying51 (by kernel_rfl) (by decide) (of_decide_eq_true (by kernel_rfl)) hin
 have houts:=Rd.sl (P:=Tryd.prog) Tryd.underlying52 (by kernel_rfl) (by decide) (of_decide_eq_true (by kernel_rfl)) hout
 have htx:=Rd.struct (P:=Tryd.prog) (z:=4) Tryd.underlying54 (by kernel_rfl) (.cons h32 rfl (.cons hins rfl (.cons houts rfl (.cons h32 rfl .nil))))
 exact htx.map (fun a=>⟨a.1,a.2.1,a.2.2.1,a.2.2.2.1⟩) (fun a ha=>⟨fun x hx=>ha.2.1.2 x hx,rfl⟩) (fun b hb=>rfl)
theorem rd_pv : Rd Tryd.prog 56 72 pvD (fun p=>p.id.length = 32):=by
 have hi:=Rd.int (P:=Tryd.prog) Tryd.underlying3 (by kernel_rfl)
 have hb:=Rd.sl (P:=Tryd.prog) Tryd.underlying24 (by kernel_rfl) (by decide) (of_decide_eq_true (by kernel_rfl)) (Rd.u8 Tryd.underlying5 (by kernel_rfl))
 have hh:=Rd.arr (P:=Tryd.prog) (n:=32) Tryd.underlying26 (by kernel_rfl) rfl (Rd.u8 Tryd.underlying5 (by kernel_rfl))
 have hbr:=Rd.sl (P:=Tryd.prog) Tryd.underlying41 (by kernel_rfl) (by decide) (of_decide_eq_true (by kernel_rfl)) hh
 have h0:=Rd.struct (P:=Tryd.prog) (z:=72) Tryd.underlying56 (by kernel_rfl) (.cons hi rfl (.cons hh rfl (.cons hi rfl (.cons hh rfl (.cons hb rfl (.cons hbr rfl (.cons rd_tx rfl .nil)))))))
 exact h0.map (fun a=>⟨a.1,a.2.1,a.2.2.1,a.2.2.2.1,a.2.2.2.2.1,a.2.2.2.2.2.1,a.2.2.2.2.2.2.1⟩) (fun a ha=>⟨ha.2.2.2.1.1,rfl⟩) (fun b hb=>rfl)
theorem rd_plan : Rd Tryd.prog 77 3 plD (fun x=>∀ s ∈ x.spends,s.to.length <= 140737488355328):=by
 have h8:=Rd.u8 (P:=Tryd.prog) Tryd.underlying5 (by kernel_rfl)
 have hbo:=Rd.bool (P:=Tryd.prog) Tryd.underlying4 (by kernel_rfl)
 have hb:=Rd.sl (P:=Tryd.prog) Tryd.underlying24 (by kernel_rfl) (by decide) (of_decide_eq_true (by kernel_rfl)) h8
 have hs0:=Rd.struct (P:=Tryd.prog) (z:=5) Tryd.underlying86 (by kernel_rfl) (.cons h8 rfl (.cons hbo rfl (.cons hb rfl (.cons h8 rfl (.cons h8 rfl .nil)))))
 have hs:=hs0.map (q':=fun x : SpS=>x.to.length <= 140737488355328) (g:=spD) (fun a=>⟨a.1,a.2.1,a.2.2.1,a.2.2.2.1,a.2.2.2.2.1⟩) (fun a ha=>⟨ha.2.2.1.1,rfl⟩) (fun b hb=>rfl)
 have hsl:=Rd.sl (P:=Tryd.prog) Tryd.underlying75 (by kernel_rfl) (by decide) (of_decide_eq_true (by kernel_rfl)) hs
 have h0:=Rd.struct (P:=Tryd.prog) (z:=3) Tryd.underlying77 (by kernel_rfl) (.cons h8 rfl (.cons hsl rfl (.cons h8 rfl .nil)))
 exact h0.map (fun a=>⟨a.1,a.2.1,a.2.2.1⟩) (fun a ha=>⟨fun x hx=>ha.2.1.2 x hx,rfl⟩) (fun b hb=>rfl)
end Go.Sx
