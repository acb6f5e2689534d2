/-
 Blocks that plans make are small,and well formed.
-/
import Derived.Test.YtgilikgghknbhaaDoorMSxPanic
import Derived.Test.YtgilikgghknbhaaDoorMLd8
set_option linter.unusedVariables false
set_option linter.unusedSimpArgs false
set_option linter.unnecessarySimpa false

namespace Go.Sx
open Go.Proofs
theorem med13_ok (l : List HdS) (hl0 : l.length <= 1000) : Fn Tryd.prog gl 42 [.sl none 68 (l.map hdrD)] (.u32 (medS l)):=by
 refine Fn.of (n:=68) Tryd.func42 rfl rfl rfl (nU rfl) fun C hC hD=>?_
 refine W.seq ?_
 refine W.l0 1 [.y 2 _] [] [] [(0,_)] [] 68 ⟨aU fun _ _ H _=>R.asg (show ev _ _ (.const (.int .u32 0)) = some (.u32 0) from O) O H,Zt⟩ O O O O (tU O ?_)
 refine W.seq ?_
 refine W.l0 1 [.y 3 _] [] [] [(0,_),(3,_)] [] 68 ⟨aU fun _ _ H _=>R.asg (kN O) O H,Zt⟩ O O O O (tU O ?_)
 refine W.seq (W.seq ?_)
 refine W.l0 5 [.y 6 _,.y 7 _,.y 8 _,.y 9 _,.y 4 _] [] [] [(0,_),(3,_),(4,_)] [] 68 ⟨mU 0 O O,aU fun _ _ H K=>R.lenE (SC.sl (K 6 _ O)) (lN _) H,aU fun _ _ H K=>R.binE (d:=.int (((l.length : Nat) : Int) - 11)) (eU K 7 O) (kI 11 O) O Zt (wr_eq (by omega) (by omega) (by omega)) H,aU fun _ _ H K=>R.maxI (r:=(((l.length - 11) : Nat) : Int)) (eU K 8 O) (kI 0 O) (by omega) H,aU fun _ _ H K=>R.asg (eU K 9 O) O H,Zt⟩ O O O O (tU O ?_)
 refine W.block ?_
 refine W.asOwn (s:=3) 32 1 O ?_
 refine W.loop (α:={q__ : Nat // q__ <= min l.length 11}) (fun q__=>⟨68,[(0,.sl none 68 (l.map hdrD)),(3,.sl (some 32) 1 ((medI l q__.1).map D.u32)),(4,.int (((l.length - 11 + q__.1) : Nat) : Int))],[]⟩) (fun q__=>min l.length 11 - q__.1) ⟨(0),bU⟩ O ?_
 rintro ⟨j,hj⟩
 show W _ _ _ _ ⟨68,[(0,.sl none 68 (l.map hdrD)),(3,.sl (some 32) 1 ((medI l j).map D.u32)),(4,.int (((l.length - 11 + j) : Nat) : Int))],[]⟩
 have hj : j <= min l.length 11:=hj
 have hml:=medI_len l j
 refine W.seq (W.seq ?_)
 refine W.l0 4 [.y 10 _,.y 11 _,.y 12 _,.y 13 _] [] [] [(0,_),(3,_),(4,_),(13,_)] [] 68 ⟨mU 4 O O,mU 0 O O,aU fun _ _ H K=>R.lenE (SC.sl (K 11 _ O)) (lN _) H,aU fun _ _ H K=>R.lssN ((l.length - 11 + j)) (l.length) (eU K 10 O) (eU K 12 O) H,Zt⟩ O O O O (tU O ?_)
 refine W.condD O (fun hc13=>?_) (fun hc13=>?_)
 · refine W.skip (W.seq (W.block (W.seq ?_)))
   refine W.l0 3 [.y 16 _,.y 17 _,.y 5 _] [] [] [(0,_),(3,_),(4,_),(5,_)] [] 68 ⟨aU fun _ _ H K=>R.al (K 3 _ O) H dU,aU fun _ _ H K=>R.lenE (n:=j) (SC.al (K 16 _ O) (K 3 _ O)) ((lN _).trans hml) H,aU fun _ _ H K=>R.asg (eU K 17 O) O H,Zt⟩ O O O O (tU O ?_)
   refine W.seq ?_
   refine W.l0 9 [.y 18 _,.y 19 _,.y 20 _,.y 21 _,.y 22 _,.y 23 _,.y 24 _,.y 25 _,.y 3 _] [(7,3),(8,25),(8,18)] [(7,3),(8,25)] [(0,_),(3,_),(4,_),(5,_)] [] 68 ⟨aU fun _ _ H K=>R.al (K 3 _ O) H dU,mU 0 O O,mU 4 O O,aU fun _ _ H K=>R.idxN ((l.length - 11 + j)) (SC.sl (K 19 _ O)) (evoI (eU K 20 O)) O bU H dU,aU fun _ _ H K=>R.fdE (K 21 _ O) H dU,aU fun _ _ H K=>R.ldE (K 22 _ O) (SC.sl (K 19 _ O)) (map_get! (l:=l) bU) O O O O H,aU fun _ _ H K=>R.bslE (z:=1) (.cons (eU K 23 O) .nil) ⟨⟨O,O,O⟩,Zt⟩ O H dU,aU fun _ _ H K=>R.appE (Or.inr (K 18 _ O)) (K 3 _ O) (SrcO.sc (SC.sl (K 24 _ O)) (pur_lit O)) (show _ = ((medI l j ++ [l[l.length - 11 + j]!.time]).map D.u32) from (by rw [List.map_append]; rfl)) bU H dU dU,aU fun _ _ H K=>R.asgO (K 25 _ O) O H dU,Zt⟩ O O O O (tU O ?_)
   refine W.seq (W.block ?_)
   refine W.loop (α:={q__ : List UInt32 × Nat // (q__.2 <= j /\ q__.1.length = j + 1) /\ shf l[l.length - 11 + j]!.time q__.1 q__.2 = insT (medI l j) l[l.length - 11 + j]!.time}) (fun q__=>⟨68,[(0,.sl none 68 (l.map hdrD)),(3,.sl (some 32) 1 (q__.1.1.map D.u32)),(4,.int (((l.length - 11 + j) : Nat) : Int)),(5,.int ((q__.1.2 : Nat) : Int))],[]⟩) (fun q__=>q__.1.2) ⟨(medI l j ++ [l[l.length - 11 + j]!.time],j),⟨⟨Nat.le_refl _,by rw [List.length_append,hml]; rfl⟩,by rw [insT,hml]⟩⟩ O ?_
   rintro ⟨⟨ts,k⟩,⟨⟨hk,htl⟩,hsh⟩⟩
   show W _ _ _ _ ⟨68,[(0,.sl none 68 (l.map hdrD)),(3,.sl (some 32) 1 (ts.map D.u32)),(4,.int (((l.length - 11 + j) : Nat) : Int)),(5,.int ((k : Nat) : Int))],[]⟩
   have hk : k <= j:=hk
   have htl : ts.length = j + 1:=htl
   have hsh : shf l[l.length - 11 + j]!.time ts k = insT (medI l j) l[l.length - 11 + j]!.time:=hsh
   refine W.seq (W.seq ?_)
   by_cases hk0 : 0 < k
   · refine W.draw (m:=15) (an:=[0,1,3,7,7,23,63,127,7,7,775,1799,3847,8191,16383]) hP dU O (its:=[.y 26 _,.y 27 _,.y 28 _,.y 29 _,.y 30 _,.y 31 _,.y 32 _,.y 33 _,.y 34 _,.y 35 _,.y 36 _,.y 37 _,.y 38 _,.y 39 _,.y 40 _]) (ks:=[]) (kk:=[]) (live:=[0,3,4,5,40]) (env':=[(0,_),(3,_),(4,_),(5,_),(40,_)]) (⟨nU O,O,⟨mU 5 O O,aU fun _ _ H K=>R.gtrN (k) (0) (eU K 26 O) (kI 0 O) H,mU 27 O O,aW O O (gT (dT hk0) O) fun _ _ H K=>R.al (K 3 _ O) H dU,aW O O (gT (dT hk0) O) fun _ _ H K=>R.mov (eU K 5 O) O H,aW O O (gT (dT hk0) O) fun _ _ H K=>R.subN (k) (1) (eU K 30 O) (kI 1 O) bU bU H,aW O O (gT (dT hk0) O) fun _ _ H K=>R.idxN ((k - 1)) (SC.al (K 29 _ O) (K 3 _ O)) (evoI (eU K 31 O)) O bU H dU,aW O O (gT (dT hk0) O) fun _ _ H K=>R.ldE (K 32 _ O) (SC.al (K 29 _ O) (K 3 _ O)) (map_get! (l:=ts) bU) O O O O H,aW O O (gT (dT hk0) O) fun _ _ H K=>R.mov (eU K 0 O) O H,aW O O (gT (dT hk0) O) fun _ _ H K=>R.mov (eU K 4 O) O H,aW O O (gT (dT hk0) O) fun _ _ H K=>R.idxN ((l.length - 11 + j)) (SC.sl (K 34 _ O)) (evoI (eU K 35 O)) O bU H dU,aW O O (gT (dT hk0) O) fun _ _ H K=>R.fdE (K 36 _ O) H dU,aW O O (gT (dT hk0) O) fun _ _ H K=>R.ldE (K 37 _ O) (SC.sl (K 34 _ O)) (map_get! (l:=l) bU) O O O O H,aW O O (gT (dT hk0) O) fun _ _ H K=>R.bin (eU K 33 O) (eU K 38 O) O Zt H,aU fun _ _ H K=>R.pickT (eU K 28 O) (dT hk0) (eU K 39 O) O H,Zt⟩,O,O,O⟩) O (bx':=[]) O (n':=68) O (tV [(0,_),(3,_),(4,_),(5,_),(40,_)] [] 68 O O O ?_)
     refine W.cond O (fun hc40=>?_) (fun hc40=>?_)
     · refine W.skip (W.block (W.seq ?_))
       refine W.l0 9 [.y 41 _,.y 42 _,.y 43 _,.y 44 _,.y 45 _,.y 46 _,.y 47 _,.y 48 _] [] [] [(0,_),(3,_),(4,_),(5,_),(41,_),(47,_),(48,_)] [] 68 ⟨aU fun _ _ H K=>R.al (K 3 _ O) H dU,mU 5 O O,aU fun _ _ H K=>R.al (K 3 _ O) H dU,mU 5 O O,aU fun _ _ H K=>R.subN (k) (1) (eU K 44 O) (kI 1 O) bU bU H,aU fun _ _ H K=>R.idxN ((k - 1)) (SC.al (K 43 _ O) (K 3 _ O)) (evoI (eU K 45 O)) O bU H dU,aU fun _ _ H K=>R.ldE (K 46 _ O) (SC.al (K 43 _ O) (K 3 _ O)) (map_get! (l:=ts) bU) O O O O H,aU fun _ _ H K=>R.idxN (k) (SC.al (K 41 _ O) (K 3 _ O)) (evoI (eU K 42 O)) O bU H dU,Zt⟩ O O O O (⟨O,_,R.stEY (gU 48 O) (Or.inr (gU 41 O)) (gU 3 O) (map_get! (l:=ts) bU) O (gV 47 O) (by rfl) (by rfl) (by rfl) (by rfl) upd_nil set_map,tV [(0,_),(3,_),(4,_),(5,_)] [] 68 O O O ?_⟩)
       refine W.l0 3 [.y 49 _,.y 50 _,.y 5 _] [] [] [(0,_),(3,_),(4,_),(5,_)] [] 68 ⟨mU 5 O O,aU fun _ _ H K=>R.subN (k) (1) (eU K 49 O) (kI 1 O) bU bU H,aU fun _ _ H K=>R.asg (eU K 50 O) O H,Zt⟩ O O O O (tU O ?_)
       exact ⟨⟨(ts.set k ts[k - 1]!,k - 1),⟨⟨by show k - 1 <= j; omega,List.length_set.trans htl⟩,(shf_t hk0 (of_decide_eq_true hc40)).symm.trans hsh⟩⟩,rfl,(by show k - 1 < k; omega)⟩
     · refine W.exit ?_
       refine W.l0 9 [.y 51 _,.y 52 _,.y 53 _,.y 54 _,.y 55 _,.y 56 _,.y 57 _,.y 58 _] [] [] [(0,_),(3,_),(4,_),(51,_),(57,_),(58,_)] [] 68 ⟨aU fun _ _ H K=>R.al (K 3 _ O) H dU,mU 5 O O,mU 0 O O,mU 4 O O,aU fun _ _ H K=>R.idxN ((l.length - 11 + j)) (SC.sl (K 53 _ O)) (evoI (eU K 54 O)) O bU H dU,aU fun _ _ H K=>R.fdE (K 55 _ O) H dU,aU fun _ _ H K=>R.ldE (K 56 _ O) (SC.sl (K 53 _ O)) (map_get! (l:=l) bU) O O O O H,aU fun _ _ H K=>R.idxN (k) (SC.al (K 51 _ O) (K 3 _ O)) (evoI (eU K 52 O)) O bU H dU,Zt⟩ O O O O (⟨O,_,R.stEY (gU 58 O) (Or.inr (gU 51 O)) (gU 3 O) (map_get! (l:=ts) bU) O (gV 57 O) (by rfl) (by rfl) (by rfl) (by rfl) upd_nil set_map,tV [(0,_),(3,_),(4,_)] [] 68 O O O ?_⟩)
       refine W.l0 3 [.y 14 _,.y 15 _,.y 4 _] [] [] [(0,_),(3,_),(4,_)] [] 68 ⟨mU 4 O O,aU fun _ _ H K=>R.addN ((l.length - 11 + j)) (1) (eU K 14 O) (kI 1 O) bU H,aU fun _ _ H K=>R.asg (eU K 15 O) O H,Zt⟩ O O O O (tU O ?_)
       exact ⟨⟨(j + 1),bU⟩,(by first | (rw [<- shf_f (x:=l[l.length - 11 + j]!.time) (ts:=ts) (k:=k) (fun _=>of_decide_eq_false hc40),hsh] <;> rfl) | (rw [<- shf_f (x:=l[l.length - 11 + j]!.time) (ts:=ts) (k:=k) (fun h=>absurd h hk0),hsh] <;> rfl)),(by simp only []; omega)⟩
   · refine W.draw (m:=15) (an:=[0,1,3,7,7,23,63,127,7,7,775,1799,3847,8191,16383]) hP dU O (its:=[.y 26 _,.y 27 _,.y 28 _,.x 29,.x 30,.x 31,.x 32,.x 33,.x 34,.x 35,.x 36,.x 37,.x 38,.x 39,.y 40 _]) (ks:=[]) (kk:=[]) (live:=[0,3,4,5,40]) (env':=[(0,_),(3,_),(4,_),(5,_),(40,_)]) (⟨nU O,O,⟨mU 5 O O,aU fun _ _ H K=>R.gtrN (k) (0) (eU K 26 O) (kI 0 O) H,mU 27 O O,aF O O (gF (dF hk0) O),aF O O (gF (dF hk0) O),aF O O (gF (dF hk0) O),aF O O (gF (dF hk0) O),aF O O (gF (dF hk0) O),aF O O (gF (dF hk0) O),aF O O (gF (dF hk0) O),aF O O (gF (dF hk0) O),aF O O (gF (dF hk0) O),aF O O (gF (dF hk0) O),aF O O (gF (dF hk0) O),aU fun _ _ H K=>R.pickF (eU K 28 O) (dF hk0) (kB false O) O H,Zt⟩,O,O,O⟩) O (bx':=[]) O (n':=68) O (tV [(0,_),(3,_),(4,_),(5,_),(40,_)] [] 68 O O O ?_)
     refine W.condF O (O) ?_
     refine W.exit ?_
     refine W.l0 9 [.y 51 _,.y 52 _,.y 53 _,.y 54 _,.y 55 _,.y 56 _,.y 57 _,.y 58 _] [] [] [(0,_),(3,_),(4,_),(51,_),(57,_),(58,_)] [] 68 ⟨aU fun _ _ H K=>R.al (K 3 _ O) H dU,mU 5 O O,mU 0 O O,mU 4 O O,aU fun _ _ H K=>R.idxN ((l.length - 11 + j)) (SC.sl (K 53 _ O)) (evoI (eU K 54 O)) O bU H dU,aU fun _ _ H K=>R.fdE (K 55 _ O) H dU,aU fun _ _ H K=>R.ldE (K 56 _ O) (SC.sl (K 53 _ O)) (map_get! (l:=l) bU) O O O O H,aU fun _ _ H K=>R.idxN (k) (SC.al (K 51 _ O) (K 3 _ O)) (evoI (eU K 52 O)) O bU H dU,Zt⟩ O O O O (⟨O,_,R.stEY (gU 58 O) (Or.inr (gU 51 O)) (gU 3 O) (map_get! (l:=ts) bU) O (gV 57 O) (by rfl) (by rfl) (by rfl) (by rfl) upd_nil set_map,tV [(0,_),(3,_),(4,_)] [] 68 O O O ?_⟩)
     refine W.l0 3 [.y 14 _,.y 15 _,.y 4 _] [] [] [(0,_),(3,_),(4,_)] [] 68 ⟨mU 4 O O,aU fun _ _ H K=>R.addN ((l.length - 11 + j)) (1) (eU K 14 O) (kI 1 O) bU H,aU fun _ _ H K=>R.asg (eU K 15 O) O H,Zt⟩ O O O O (tU O ?_)
     exact ⟨⟨(j + 1),bU⟩,(by first | (rw [<- shf_f (x:=l[l.length - 11 + j]!.time) (ts:=ts) (k:=k) (fun _=>of_decide_eq_false hc40),hsh] <;> rfl) | (rw [<- shf_f (x:=l[l.length - 11 + j]!.time) (ts:=ts) (k:=k) (fun h=>absurd h hk0),hsh] <;> rfl)),(by simp only []; omega)⟩
 · obtain rfl : j = min l.length 11:=by omega
   refine W.exit (W.seq (W.seq ?_))
   refine W.l0 3 [.y 59 _,.y 60 _,.y 61 _] [] [] [(3,_),(61,_)] [] 68 ⟨aU fun _ _ H K=>R.al (K 3 _ O) H dU,aU fun _ _ H K=>R.lenE (n:=(min l.length 11)) (SC.al (K 59 _ O) (K 3 _ O)) ((lN _).trans hml) H,aU fun _ _ H K=>R.eqlN ((min l.length 11)) (0) (eU K 60 O) (kI 0 O) H,Zt⟩ O O O O (tU O ?_)
   refine W.condD O (fun hc61=>?_) (fun hc61=>?_)
   · refine W.seq ?_
     refine W.l0 1 [.y 2 _] [] [] [(2,_)] [] 68 ⟨aU fun _ _ H _=>R.asg (show ev _ _ (.const (.int .u32 0)) = some (.u32 0) from O) O H,Zt⟩ O O O O (tU O ?_)
     refine W.ret ?_
     exact Ends.one' (.inr O) O (by rw [med_0 (by omega)]) O O Zt
   · refine W.skip (W.seq ?_)
     refine W.l0 7 [.y 62 _,.y 63 _,.y 64 _,.y 65 _,.y 66 _,.y 67 _,.y 2 _] [] [] [(2,_)] [] 68 ⟨aU fun _ _ H K=>R.al (K 3 _ O) H dU,aU fun _ _ H K=>R.al (K 3 _ O) H dU,aU fun _ _ H K=>R.lenE (n:=(min l.length 11)) (SC.al (K 63 _ O) (K 3 _ O)) ((lN _).trans hml) H,aU fun _ _ H K=>R.quoN ((min l.length 11)) (2) (eU K 64 O) (kI 2 O) bU bU H,aU fun _ _ H K=>R.idxN (((min l.length 11) / 2)) (SC.al (K 62 _ O) (K 3 _ O)) (evoI (eU K 65 O)) O bU H dU,aU fun _ _ H K=>R.ldE (K 66 _ O) (SC.al (K 62 _ O) (K 3 _ O)) (map_get! (l:=(medI l (min l.length 11))) bU) O O O O H,aU fun _ _ H K=>R.asg (eU K 67 O) O H,Zt⟩ O O O O (tU O ?_)
     refine W.ret ?_
     exact Ends.one' (.inr O) O (by rw [med_1 (by omega)]) O O Zt
end Go.Sx

namespace Go.Sx
open Go.Proofs
theorem mine_ok (l : List HdS) (time : UInt32) (root : Hs) (hw : allW l) (hl1 : 1 <= l.length) (hl0 : l.length <= 1000) (hr : root.length = 32) : Fn Tryd.prog gl 41 [.agg [.u32 545259519,.int 10,.u32 10,.nils,hdrD easyH],.sl none 68 (l.map hdrD),.u32 time,hashD root,.u32 200] (.tup [hdrD (mineS l time root).1,.bool (mineS l time root).2]):=by
 refine Fn.of (n:=56) Tryd.func41 rfl rfl rfl (nU rfl) fun C hC hD=>?_
 refine W.seq ?_
 refine W.l0 4 [] [] [] [(0,_),(1,_),(2,_),(3,_),(4,_)] [] 56 Zt O O O O (⟨O,_,R.box (gV 0 O) O O (nU O),⟨O,_,R.box (gV 3 O) O O (nU O),⟨O,_,R.alloc O (nU O),⟨O,_,R.asg (kB false O) O (nU O),tV [(1,_),(2,_),(4,_),(5,_),(8,_),(10,_)] [(10,.var _),(8,.var _),(5,.var _)] 56 O O O ?_⟩⟩⟩⟩)
 refine W.seq ?_
 refine W.drawE (m:=7) (an:=[0,0,0,0,12,31,0,127]) (its:=[.y 16 _,.y 17 _,.y 18 _,.y 19 _,.y 20 _,.y 21 _,.y 12 _]) (ks:=[]) (kk:=[]) (efs:=[(6,[(12,.var _)])]) (live:=[1,4,10,12,21]) (env':=[(1,_),(4,_),(10,_),(12,_),(21,_)]) (nd:=40) (bx1:=[(12,.var _),(10,.var _),(8,.var _),(5,.var _)]) hP dU O ⟨⟨69,O⟩,nU O,O,O,O,O⟩ (      ⟨⟨O,nU O,O,fun _ τ hb ht hτ=>R.ldP (hτ 8 _ O) (hb 8 _ O) O O O O ht⟩,⟨⟨O,nU O,O,fun _ τ hb ht hτ=>R.mov (evt (hτ 2 _ O)) O ht⟩,⟨⟨O,nU O,O,fun _ τ hb ht hτ=>R.ldP (hτ 5 _ O) (hb 5 _ O) O O O O ht⟩,⟨⟨O,nU O,O,fun _ τ hb ht hτ=>R.mov (evt (hτ 1 _ O)) O ht⟩,⟨⟨O,nU O,O,fun _ τ hb ht hτ=>R.callG hC (bits13_ok l hl0) (Bc (Bp (evt (hτ 18 _ O)) O O) (Bc (Bp (evt (hτ 19 _ O)) O O) Bn)) (FrsR.one (.u32 _)) ht⟩,⟨⟨O,nU O,O,fun _ τ hb ht hτ=>R.bldSE (l:=[.u32 0,.arr 32 1 ((List.replicate 32 0).map D.u8),.arr 32 1 ((List.replicate 32 0).map D.u8),.u32 0,.u32 0,.u32 0]) (l':=[_,_,_,_,_,_]) (.cons (show ev _ _ (.const (.int .u32 1)) = some (.u32 1) from O) (.cons (evt (hτ 16 _ O)) (.cons (evt (hτ 17 _ O)) (.cons (evt (hτ 20 _ O)) (.nil O))))) ⟨⟨_,(show ev _ _ (.const (.int .u32 1)) = some (.u32 1) from O),O,O,O⟩,⟨⟨_,(evt (hτ 16 _ O)),O,O,O⟩,⟨⟨_,(evt (hτ 17 _ O)),O,O,O⟩,⟨⟨_,(evt (hτ 20 _ O)),O,O,O⟩,Zt⟩⟩⟩⟩ ht⟩,⟨⟨O,O,⟨O,nU O⟩,(SpE.alloc O (nU O))⟩,Zt⟩⟩⟩⟩⟩⟩⟩) O O O (n':=56) O (⟨O,_,R.stZ (gU 12 O) (xU 12 O) O (gV 21 O) (by rfl) (by rfl) (by rfl) (by rfl) O,⟨[1,4,10,12],[(1,_),(4,_),(10,_),(12,_)],[(12,.var _),(10,.var _),(8,.var _),(5,.var _)],56,O,O,O, ?_⟩⟩)
 refine W.seq (W.seq ?_)
 refine W.l0 3 [.y 22 _,.y 23 _,.y 24 _] [] [] [(1,_),(4,_),(10,_),(12,_),(24,_)] [(12,.var _),(10,.var _),(8,.var _),(5,.var _)] 56 ⟨mU 1 O O,aU fun _ _ H K=>R.lenE (SC.sl (K 22 _ O)) (lN _) H,aU fun _ _ H K=>R.eqlN (l.length) (0) (eU K 23 O) (kI 0 O) H,Zt⟩ O O O O (tU O ?_)
 refine W.condF O (dF (by omega)) ?_
 refine W.skip (W.seq ?_)
 refine W.l0 9 [.y 26 _,.y 27 _,.y 28 _,.y 29 _,.y 30 _,.y 31 _,.y 32 _,.y 33 _] [] [] [(4,_),(10,_),(12,_),(32,_),(33,_)] [(12,.var _),(10,.var _),(8,.var _),(5,.var _)] 56 ⟨mU 1 O O,mU 1 O O,aU fun _ _ H K=>R.lenE (SC.sl (K 27 _ O)) (lN _) H,aU fun _ _ H K=>R.subN (l.length) (1) (eU K 28 O) (kI 1 O) bU bU H,aU fun _ _ H K=>R.idxN ((l.length - 1)) (SC.sl (K 26 _ O)) (evoI (eU K 29 O)) O bU H dU,aU fun _ _ H K=>R.ldE (K 30 _ O) (SC.sl (K 26 _ O)) (map_get! (l:=l) bU) O O O O H,aU fun _ _ H K=>R.callG hC (hrid_ok l[l.length - 1]! (hw.get (by omega))) (Bc (Bp (eU K 31 O) O O) Bn) (FrsR.one (frs_hash' _)) H,aU (fU 12 O O),Zt⟩ O O O O (⟨O,_,R.stZ (gU 33 O) (xU 12 O) O (gV 32 O) (by rfl) (by rfl) (by rfl) (by rfl) O,tV [(4,_),(10,_),(12,_)] [(12,.var _),(10,.var _),(8,.var _),(5,.var _)] 56 O O O ?_⟩)
 refine W.seq ?_
 refine W.l0 9 [.y 35 _,.y 36 _,.y 37 _,.y 34 _,.y 38 _,.y 39 _] [] [] [(4,_),(10,_),(12,_),(38,_),(39,_)] [(12,.var _),(10,.var _),(8,.var _),(5,.var _)] 56 ⟨aU (fU 12 O O),aU (lU 35 O O O O O O O),aU fun _ _ H K=>R.callG hC (tof_ok (bitsP l)) (Bc (Bp (eU K 36 O) O O) Bn) (FrsR.two (frs_bg _) (.bool _)) H,aU fun _ _ H K=>R.movT (K 37 _ O) O H,aU fun _ _ H K=>R.ext (K 34 _ O) O O H,aU fun _ _ H K=>R.ext (K 34 _ O) O O H,Zt⟩ O O O O (⟨O,_,R.alloc O (nU O),⟨O,_,R.stZ (gU 13 O) (xU 13 O) O (gV 38 O) (by rfl) (by rfl) (by rfl) (by rfl) O,⟨O,_,R.asg (gV 39 O) O (nU O),tV [(4,_),(10,_),(12,_),(13,_),(14,_)] [(13,.var _),(12,.var _),(10,.var _),(8,.var _),(5,.var _)] 56 O O O ?_⟩⟩⟩)
 refine W.seq (W.seq ?_)
 refine W.l0 1 [.y 15 _] [] [] [(4,_),(10,_),(12,_),(13,_),(14,_),(15,_)] [(13,.var _),(12,.var _),(10,.var _),(8,.var _),(5,.var _)] 56 ⟨aU fun _ _ H _=>R.asg (show ev _ _ (.const (.int .u32 0)) = some (.u32 0) from O) O H,Zt⟩ O O O O (tU O ?_)
 refine W.block ?_
 refine W.loop (α:={q__ : HdS × Nat // MI l time root q__.1 q__.2}) (fun q__=>⟨56,[(4,.u32 200),(10,.ptr 10 0 []),(12,.ptr 12 0 []),(13,.ptr 13 0 []),(14,.bool (ofS (bitsP l)).isSome),(15,.u32 (UInt32.ofNat q__.1.2))],[(13,.var (bgD (ofB (bitsP l)))),(12,.var (hdrD q__.1.1)),(10,.var (hdrD zeroH)),(8,.var (hashD root)),(5,.var (.agg [.u32 545259519,.int 10,.u32 10,.nils,hdrD easyH]))]⟩) (fun q__=>200 - q__.1.2) ⟨(head0 l time root,0),MI.init hr⟩ (by dsimp only [head0,hdrD] <;> rfl) ?_
 rintro ⟨⟨h,n⟩,hi⟩
 show W _ _ _ _ ⟨56,[(4,.u32 200),(10,.ptr 10 0 []),(12,.ptr 12 0 []),(13,.ptr 13 0 []),(14,.bool (ofS (bitsP l)).isSome),(15,.u32 (UInt32.ofNat n))],[(13,.var (bgD (ofB (bitsP l)))),(12,.var (hdrD h)),(10,.var (hdrD zeroH)),(8,.var (hashD root)),(5,.var (.agg [.u32 545259519,.int 10,.u32 10,.nils,hdrD easyH]))]⟩
 have hi : MI l time root h n:=hi
 have hle:=hi.le
 refine W.seq (W.seq ?_)
 by_cases hs : (ofS (bitsP l)).isSome = true
 · refine W.l0 6 [.y 40 _,.y 41 _,.y 42 _,.y 43 _,.y 44 _,.y 45 _] [] [] [(4,_),(10,_),(12,_),(13,_),(14,_),(15,_),(45,_)] [(13,.var _),(12,.var _),(10,.var _),(8,.var _),(5,.var _)] 56 ⟨mU 14 O O,mU 40 O O,aW O O (gT (hs) O) fun _ _ H K=>R.mov (eU K 15 O) O H,aW O O (gT (hs) O) fun _ _ H K=>R.mov (eU K 4 O) O H,aW O O (gT (hs) O) fun _ _ H K=>R.bin (eU K 42 O) (eU K 43 O) O Zt H,aU fun _ _ H K=>R.pickT (eU K 41 O) (hs) (eU K 44 O) O H,Zt⟩ O O O O (tU O ?_)
   refine W.cond O (fun hc45=>?_) (fun hc45=>?_)
   · refine W.skip (W.seq (W.block (W.seq ?_)))
     refine W.l0 3 [.y 48 _,.y 49 _] [] [] [(4,_),(10,_),(12,_),(13,_),(14,_),(15,_),(48,_),(49,_)] [(13,.var _),(12,.var _),(10,.var _),(8,.var _),(5,.var _)] 56 ⟨mU 15 O O,aU (fU 12 O O),Zt⟩ O O O O (⟨O,_,R.stZ (gU 49 O) (xU 12 O) O (gV 48 O) (by rfl) (by rfl) (by rfl) (by rfl) O,tV [(4,_),(10,_),(12,_),(13,_),(14,_),(15,_)] [(13,.var _),(12,.var _),(10,.var _),(8,.var _),(5,.var _)] 56 O O O ?_⟩)
     refine W.seq ?_
     refine W.draw (m:=4) (an:=[0,1,0,7]) hP dU rfl (its:=[.y 50 _,.y 51 _,.y 52 _,.y 53 _]) (ks:=[]) (kk:=[]) (live:=[4,10,12,13,14,15,53]) (env':=[(4,_),(10,_),(12,_),(13,_),(14,_),(15,_),(53,_)]) (⟨nU rfl,rfl,⟨aU (lU 12 rfl rfl rfl rfl rfl rfl rfl),aU fun _ _ H K=>R.callG hC (hrid_ok { h with nonce:=UInt32.ofNat n } (wfI hi.wf.1 hi.wf.2)) (Bc (Bp (eU K 50 rfl) rfl rfl) Bn) (FrsR.one (frs_hash' _)) H,aU (lU 13 rfl rfl rfl rfl rfl rfl rfl),aU fun _ _ H K=>R.callG hC (tmeet_ok (hridS { h with nonce:=UInt32.ofNat n }) (ofB (bitsP l)) (hridS_len _) (ofB_len _)) (Bc (Bp (eU K 51 rfl) rfl rfl) (Bc (Bp (eU K 52 rfl) rfl rfl) Bn)) (FrsR.one (.bool _)) H,Zt⟩,rfl,rfl,rfl⟩) rfl (bx':=[(13,.var _),(12,.var _),(10,.var _),(8,.var _),(5,.var _)]) rfl (n':=56) rfl (tV [(4,_),(10,_),(12,_),(13,_),(14,_),(15,_),(53,_)] [(13,.var _),(12,.var _),(10,.var _),(8,.var _),(5,.var _)] 56 rfl rfl rfl ?_)
     refine W.cond O (fun hc53=>?_) (fun hc53=>?_)
     · refine W.seq ?_
       refine W.l0 3 [.y 54 _] [] [] [(10,_),(54,_)] [(13,.var _),(12,.var _),(10,.var _),(8,.var _),(5,.var _)] 56 ⟨aU (lU 12 O O O O O O O),Zt⟩ O O O O (⟨O,_,R.stZ (gU 10 O) (xU 10 O) O (gV 54 O) (by rfl) (by rfl) (by rfl) (by rfl) O,⟨O,_,R.asg (kB true O) O (nU O),tV [(10,_),(11,_)] [(13,.var _),(12,.var _),(10,.var _),(8,.var _),(5,.var _)] 56 O O O ?_⟩⟩)
       refine W.ret ?_
       exact Ends.many (.inr O) (.cons O O O (show LdT _ 35 68 true from inferInstance) (.cons O O O Zt .nil)) (by rw [hi.found hs ((u32_lt hi.le).1 (of_decide_eq_true hc45)) hc53] <;> rfl) (show [(10,false),(11,true)].Nodup by decide)
     · refine W.skip ?_
       refine W.l0 3 [.y 46 _,.y 47 _,.y 15 _] [] [] [(4,_),(10,_),(12,_),(13,_),(14,_),(15,_)] [(13,.var _),(12,.var _),(10,.var _),(8,.var _),(5,.var _)] 56 ⟨mU 15 O O,aU fun _ _ H K=>R.bin (eU K 46 O) (show ev _ _ (.const (.int .u32 1)) = some (.u32 1) from O) O Zt H,aU fun _ _ H K=>R.asg (eU K 47 O) O H,Zt⟩ O O O O (tU O ?_)
       exact ⟨⟨({ h with nonce:=UInt32.ofNat n },n + 1),hi.next hs ((u32_lt hi.le).1 (of_decide_eq_true hc45)) (by simpa using hc53)⟩,(by rw [u32_succ] <;> rfl),(by have:=(u32_lt hi.le).1 (of_decide_eq_true hc45); show 200 - (n + 1) < 200 - n; omega)⟩
   · refine W.exit (W.seq ?_)
     refine W.l0 3 [.y 55 _] [] [] [(10,_),(55,_)] [(13,.var _),(12,.var _),(10,.var _),(8,.var _),(5,.var _)] 56 ⟨aU (lU 12 O O O O O O O),Zt⟩ O O O O (⟨O,_,R.stZ (gU 10 O) (xU 10 O) O (gV 55 O) (by rfl) (by rfl) (by rfl) (by rfl) O,⟨O,_,R.asg (kB false O) O (nU O),tV [(10,_),(11,_)] [(13,.var _),(12,.var _),(10,.var _),(8,.var _),(5,.var _)] 56 O O O ?_⟩⟩)
     refine W.ret ?_
     exact Ends.many (.inr O) (.cons O O O (show LdT _ 35 68 true from inferInstance) (.cons O O O Zt .nil)) (by rw [hi.last hs (fun h=>of_decide_eq_false hc45 ((u32_lt hi.le).2 h))] <;> rfl) (show [(10,false),(11,true)].Nodup by decide)
 · refine W.l0 6 [.y 40 _,.y 41 _,.x 42,.x 43,.x 44,.y 45 _] [] [] [(4,_),(10,_),(12,_),(13,_),(14,_),(15,_),(45,_)] [(13,.var _),(12,.var _),(10,.var _),(8,.var _),(5,.var _)] 56 ⟨mU 14 O O,mU 40 O O,aF O O (gF (bfalse hs) O),aF O O (gF (bfalse hs) O),aF O O (gF (bfalse hs) O),aU fun _ _ H K=>R.pickF (eU K 41 O) (bfalse hs) (kB false O) O H,Zt⟩ O O O O (tU O ?_)
   refine W.condF O (O) ?_
   refine W.exit (W.seq ?_)
   refine W.l0 3 [.y 55 _] [] [] [(10,_),(55,_)] [(13,.var _),(12,.var _),(10,.var _),(8,.var _),(5,.var _)] 56 ⟨aU (lU 12 O O O O O O O),Zt⟩ O O O O (⟨O,_,R.stZ (gU 10 O) (xU 10 O) O (gV 55 O) (by rfl) (by rfl) (by rfl) (by rfl) O,⟨O,_,R.asg (kB false O) O (nU O),tV [(10,_),(11,_)] [(13,.var _),(12,.var _),(10,.var _),(8,.var _),(5,.var _)] 56 O O O ?_⟩⟩)
   refine W.ret ?_
   exact Ends.many (.inr O) (.cons O O O (show LdT _ 35 68 true from inferInstance) (.cons O O O Zt .nil)) (by rw [hi.no (bfalse hs)] <;> rfl) (show [(10,false),(11,true)].Nodup by decide)
end Go.Sx

namespace Go.Sx
open Go.Proofs
theorem coin_ok (t : TxS) (hwf : t.wf) : Fn Tryd.prog gl 75 [txD t] (.bool (mintS t)):=by
 refine Fn.of (n:=5) Tryd.func75 rfl rfl rfl (nU rfl) fun C hC hD=>?_
 refine W.seq ?_
 refine W.l0 2 [] [] [] [(0,_)] [] 5 Zt O O O O (⟨O,_,R.box (gV 0 O) O O (nU O),⟨O,_,R.asg (kB false O) O (nU O),tV [(1,_)] [(1,.var _)] 5 O O O ?_⟩⟩)
 refine W.seq ?_
 refine W.l0 3 [.y 3 _,.y 4 _,.y 2 _] [] [] [(2,_)] [(1,.var _)] 5 ⟨aU (lU 1 O O O O O O O),aU fun _ _ H K=>R.callG hC (rmint_ok t hwf) (Bc (Bp (eU K 3 O) O O) Bn) (FrsR.one (.bool _)) H,aU fun _ _ H K=>R.asg (eU K 4 O) O H,Zt⟩ O O O O (tU O ?_)
 refine W.ret ?_
 exact Ends.one' (.inr O) O (O) O O Zt
theorem all15_ok (l : List BlkS) (hl : allBl l) : Fn Tryd.prog gl 27 [.sl none 69 (l.map blkD)] (.sl (some 90) 38 ((allS l).map stsD)):=by
 refine Fn.of (n:=46) Tryd.func27 rfl rfl rfl (nU rfl) fun C hC hD=>?_
 have hl1:=hl.1
 refine W.seq ?_
 refine W.l0 1 [.y 2 _] [] [] [(0,_)] [] 46 ⟨aU fun _ _ H _=>R.asg (kN O) O H,Zt⟩ O O O O (tU O ?_)
 refine W.seq ?_
 refine W.l0 1 [.y 3 _] [] [] [(0,_),(3,_)] [] 46 ⟨aU fun _ _ H _=>R.asg (kN O) O H,Zt⟩ O O O O (tU O ?_)
 refine W.seq (W.seq ?_)
 refine W.l0 1 [.y 4 _] [] [] [(0,_),(3,_),(4,_)] [] 46 ⟨aU fun _ _ H _=>R.asg (kI 0 O) O H,Zt⟩ O O O O (tU O ?_)
 refine W.block ?_
 refine W.asOwn (s:=3) 90 38 O ?_
 refine W.loop (α:={q__ : Nat // q__ <= l.length}) (fun q__=>⟨46,[(0,.sl none 69 (l.map blkD)),(3,.sl (some 90) 38 ((allI l q__.1).map stsD)),(4,.int ((q__.1 : Nat) : Int))],[]⟩) (fun q__=>l.length - q__.1) ⟨(0),bU⟩ O ?_
 rintro ⟨h,hh⟩
 show W _ _ _ _ ⟨46,[(0,.sl none 69 (l.map blkD)),(3,.sl (some 90) 38 ((allI l h).map stsD)),(4,.int ((h : Nat) : Int))],[]⟩
 have hh : h <= l.length:=hh
 have hal:=allI_len hl h hh
 have hbl : h < l.length -> l[h]!.txs.length <= 1000:=fun h=>(hl.get h).len
 refine W.seq (W.seq ?_)
 refine W.l0 4 [.y 6 _,.y 7 _,.y 8 _,.y 9 _] [] [] [(0,_),(3,_),(4,_),(9,_)] [] 46 ⟨mU 4 O O,mU 0 O O,aU fun _ _ H K=>R.lenE (SC.sl (K 7 _ O)) (lN _) H,aU fun _ _ H K=>R.lssN (h) (l.length) (eU K 6 O) (eU K 8 O) H,Zt⟩ O O O O (tU O ?_)
 refine W.condD O (fun hc9=>?_) (fun hc9=>?_)
 · refine W.skip (W.seq (W.block (W.seq ?_)))
   refine W.l0 1 [.y 5 _] [] [] [(0,_),(3,_),(4,_),(5,_)] [] 46 ⟨aU fun _ _ H _=>R.asg (kI 0 O) O H,Zt⟩ O O O O (tU O ?_)
   refine W.block ?_
   refine W.loop (α:={q__ : Nat // q__ <= l[h]!.txs.length}) (fun q__=>⟨46,[(0,.sl none 69 (l.map blkD)),(3,.sl (some 90) 38 ((allI l h ++ allJ l[h]! h q__.1).map stsD)),(4,.int ((h : Nat) : Int)),(5,.int ((q__.1 : Nat) : Int))],[]⟩) (fun q__=>l[h]!.txs.length - q__.1) ⟨(0),bU⟩ (by rw [allJ,List.append_nil]) ?_
   rintro ⟨i,hi⟩
   show W _ _ _ _ ⟨46,[(0,.sl none 69 (l.map blkD)),(3,.sl (some 90) 38 ((allI l h ++ allJ l[h]! h i).map stsD)),(4,.int ((h : Nat) : Int)),(5,.int ((i : Nat) : Int))],[]⟩
   have hi : i <= l[h]!.txs.length:=hi
   have hbw:=hl.get (show h < l.length by omega)
   have hbl2:=hbw.len
   refine W.seq (W.seq ?_)
   refine W.l0 8 [.y 12 _,.y 13 _,.y 14 _,.y 15 _,.y 16 _,.y 17 _,.y 18 _,.y 19 _] [] [] [(0,_),(3,_),(4,_),(5,_),(19,_)] [] 46 ⟨mU 5 O O,mU 0 O O,mU 4 O O,aU fun _ _ H K=>R.idxN (h) (SC.sl (K 13 _ O)) (evoI (eU K 14 O)) O bU H dU,aU fun _ _ H K=>R.fdE (K 15 _ O) H dU,aU fun _ _ H K=>R.ldE (K 16 _ O) (SC.sl (K 13 _ O)) (map_get! (l:=l) bU) O O O O H,aU fun _ _ H K=>R.lenE (SC.sl (K 17 _ O)) (lN _) H,aU fun _ _ H K=>R.lssN (i) (l[h]!.txs.length) (eU K 12 O) (eU K 18 O) H,Zt⟩ O O O O (tU O ?_)
   refine W.condD O (fun hc19=>?_) (fun hc19=>?_)
   · refine W.skip (W.seq (W.block ?_))
     refine W.draw (m:=24) (an:=[0,0,0,0,0,24,56,120,0,504,1016,2040,0,0,12288,28672,61440,0,258048,520192,1048574,2097150,4194303,8388607]) hP dU O (its:=[.y 22 _,.y 23 _,.y 24 _,.y 25 _,.y 26 _,.y 27 _,.y 28 _,.y 29 _,.y 30 _,.y 31 _,.y 32 _,.y 33 _,.y 34 _,.y 35 _,.y 36 _,.y 37 _,.y 38 _,.y 39 _,.y 40 _,.y 41 _,.y 42 _,.y 43 _,.y 44 _,.y 3 _]) (ks:=[(22,3),(23,44),(23,22)]) (kk:=[(22,3),(23,44)]) (live:=[0,3,4,5]) (env':=[(0,_),(3,_),(4,_),(5,_)]) (⟨nU O,O,⟨aU fun _ _ H K=>R.al (K 3 _ O) H dU,mU 4 O O,mU 5 O O,mU 0 O O,mU 4 O O,aU fun _ _ H K=>R.idxN (h) (SC.sl (K 25 _ O)) (evoI (eU K 26 O)) O bU H dU,aU fun _ _ H K=>R.fdE (K 27 _ O) H dU,aU fun _ _ H K=>R.ldE (K 28 _ O) (SC.sl (K 25 _ O)) (map_get! (l:=l) bU) O O O O H,mU 5 O O,aU fun _ _ H K=>R.idxN (i) (SC.sl (K 29 _ O)) (evoI (eU K 30 O)) O bU H dU,aU fun _ _ H K=>R.ldE (K 31 _ O) (SC.sl (K 29 _ O)) (map_get! (l:=l[h]!.txs) bU) O O O O H,aU fun _ _ H K=>R.callG hC (rid_ok l[h]!.txs[i]! (hbw.get (by omega))) (Bc (Bp (eU K 32 O) O O) Bn) (FrsR.one (frs_hash' _)) H,mU 0 O O,mU 4 O O,aU fun _ _ H K=>R.idxN (h) (SC.sl (K 34 _ O)) (evoI (eU K 35 O)) O bU H dU,aU fun _ _ H K=>R.fdE (K 36 _ O) H dU,aU fun _ _ H K=>R.ldE (K 37 _ O) (SC.sl (K 34 _ O)) (map_get! (l:=l) bU) O O O O H,mU 5 O O,aU fun _ _ H K=>R.idxN (i) (SC.sl (K 38 _ O)) (evoI (eU K 39 O)) O bU H dU,aU fun _ _ H K=>R.ldE (K 40 _ O) (SC.sl (K 38 _ O)) (map_get! (l:=l[h]!.txs) bU) O O O O H,aU fun _ _ H K=>R.bldSE (l:=[.int 0,.int 0,.arr 32 1 ((List.replicate 32 0).map D.u8),.agg [.u32 0,.nils,.nils,.u32 0]]) (l':=[_,_,_,_]) (.cons (eU K 23 O) (.cons (eU K 24 O) (.cons (eU K 33 O) (.cons (eU K 41 O) (.nil O))))) ⟨⟨_,(eU K 23 O),O,O,O⟩,⟨⟨_,(eU K 24 O),O,O,O⟩,⟨⟨_,(eU K 33 O),O,O,szH O⟩,⟨⟨_,(eU K 41 O),O,O,O⟩,Zt⟩⟩⟩⟩ H,aU fun _ _ H K=>R.bslE (z:=38) (.cons (eU K 42 O) .nil) ⟨⟨O,O,O⟩,Zt⟩ O H dU,aU fun _ _ H K=>R.appE (Or.inr (K 22 _ O)) (K 3 _ O) (SrcO.sc (SC.sl (K 43 _ O)) (pur_lit O)) (show _ = ((allI l h ++ allJ l[h]! h (i + 1)).map stsD) from (all_app _ _ _ _)) (by simp only [List.length_map,List.length_append,allJ_len,List.length_cons,List.length_nil]; omega) H dU dU,aU fun _ _ H K=>R.asgO (K 44 _ O) O H dU,Zt⟩,O,O,O⟩) O (bx':=[]) O (n':=46) O (tV [(0,_),(3,_),(4,_),(5,_)] [] 46 O O O ?_)
     refine W.l0 3 [.y 20 _,.y 21 _,.y 5 _] [] [] [(0,_),(3,_),(4,_),(5,_)] [] 46 ⟨mU 5 O O,aU fun _ _ H K=>R.addN (i) (1) (eU K 20 O) (kI 1 O) bU H,aU fun _ _ H K=>R.asg (eU K 21 O) O H,Zt⟩ O O O O (tU O ?_)
     exact ⟨⟨(i + 1),bU⟩,rfl,(by simp only []; omega)⟩
   · obtain rfl : i = l[h]!.txs.length:=by omega
     refine W.exit ?_
     refine W.l0 3 [.y 10 _,.y 11 _,.y 4 _] [] [] [(0,_),(3,_),(4,_)] [] 46 ⟨mU 4 O O,aU fun _ _ H K=>R.addN (h) (1) (eU K 10 O) (kI 1 O) bU H,aU fun _ _ H K=>R.asg (eU K 11 O) O H,Zt⟩ O O O O (tU O ?_)
     exact ⟨⟨(h + 1),bU⟩,(by rw [allI_succ] <;> rfl),(by simp only []; omega)⟩
 · obtain rfl : h = l.length:=by omega
   refine W.exit (W.seq ?_)
   refine W.l0 2 [.y 45 _,.y 2 _] [(0,3),(1,45)] [(0,3),(1,45)] [(2,_)] [] 46 ⟨aU fun _ _ H K=>R.movO (K 3 _ O) O H dU,aU fun _ _ H K=>R.asgO (K 45 _ O) O H dU,Zt⟩ O O O O (tU O ?_)
   refine W.ret ?_
   exact Ends.one' (.inr O) O (by rw [allS]) O O Zt
end Go.Sx

namespace Go.Sx
open Go.Proofs
theorem frm15_ok (l : List StS) (hl : allSt l) (before input : Nat) (p : Plc) (hb0 : before <= 1000000) (hn0 : input <= 1000000) : Fn Tryd.prog gl 55 [.sl none 38 (l.map stsD),.int ((before : Nat) : Int),.int ((input : Nat) : Int),placeK p] (.bool (frmS l before input p)):=by
 refine Fn.of (n:=64) Tryd.func55 rfl rfl rfl (nU rfl) fun C hC hD=>?_
 have hl1:=hl.1
 refine W.seq ?_
 refine W.l0 2 [] [] [] [(0,_),(1,_),(2,_),(3,_)] [] 64 Zt O O O O (⟨O,_,R.box (gV 3 O) O O (nU O),⟨O,_,R.asg (kB false O) O (nU O),tV [(0,_),(1,_),(2,_),(7,_)] [(7,.var _)] 64 O O O ?_⟩⟩)
 refine W.seq (W.seq ?_)
 refine W.l0 1 [.y 9 _] [] [] [(0,_),(1,_),(2,_),(7,_),(9,_)] [(7,.var _)] 64 ⟨aU fun _ _ H _=>R.asg (kI 0 O) O H,Zt⟩ O O O O (tU O ?_)
 refine W.block ?_
 refine W.loop (α:={q__ : Nat // q__ <= min (before + 1) l.length /\ ∀ q < q__,frmJ l[q]!.t p (frmN l before input q) = false}) (fun q__=>⟨64,[(0,.sl none 38 (l.map stsD)),(1,.int ((before : Nat) : Int)),(2,.int ((input : Nat) : Int)),(7,.ptr 7 0 []),(9,.int ((q__.1 : Nat) : Int))],[(7,.var (placeK p))]⟩) (fun q__=>l.length - q__.1) ⟨(0),⟨Nat.zero_le _,fun q hq=>absurd hq (Nat.not_lt_zero _)⟩⟩ O ?_
 rintro ⟨i,⟨hi,hno⟩⟩
 show W _ _ _ _ ⟨64,[(0,.sl none 38 (l.map stsD)),(1,.int ((before : Nat) : Int)),(2,.int ((input : Nat) : Int)),(7,.ptr 7 0 []),(9,.int ((i : Nat) : Int))],[(7,.var (placeK p))]⟩
 have hi : i <= min (before + 1) l.length:=hi
 have hno : ∀ q < i,frmJ l[q]!.t p (frmN l before input q) = false:=hno
 refine W.seq (W.seq ?_)
 by_cases h1 : i <= before
 · refine W.l0 9 [.y 11 _,.y 12 _,.y 13 _,.y 14 _,.y 15 _,.y 16 _,.y 17 _,.y 18 _,.y 19 _] [] [] [(0,_),(1,_),(2,_),(7,_),(9,_),(19,_)] [(7,.var _)] 64 ⟨mU 9 O O,mU 1 O O,aU fun _ _ H K=>R.leqN (i) (before) (eU K 11 O) (eU K 12 O) H,mU 13 O O,aW O O (gT (dT h1) O) fun _ _ H K=>R.mov (eU K 9 O) O H,aW O O (gT (dT h1) O) fun _ _ H K=>R.mov (eU K 0 O) O H,aW O O (gT (dT h1) O) fun _ _ H K=>R.lenE (SC.sl (K 16 _ O)) (lN _) H,aW O O (gT (dT h1) O) fun _ _ H K=>R.lssN (i) (l.length) (eU K 15 O) (eU K 17 O) H,aU fun _ _ H K=>R.pickT (eU K 14 O) (dT h1) (eU K 18 O) O H,Zt⟩ O O O O (tU O ?_)
   refine W.condD O (fun hc19=>?_) (fun hc19=>?_)
   · refine W.skip (W.seq (W.block (W.seq ?_)))
     refine W.l0 1 [.y 10 _] [] [] [(0,_),(1,_),(2,_),(7,_),(9,_),(10,_)] [(7,.var _)] 64 ⟨aU fun _ _ H _=>R.asg (kI 0 O) O H,Zt⟩ O O O O (tU O ?_)
     refine W.block ?_
     refine W.loop (α:={q__ : Nat // q__ <= frmN l before input i /\ ∀ q < q__,(plc l[i]!.t.ins[q]! == p && !mintS l[i]!.t) = false}) (fun q__=>⟨64,[(0,.sl none 38 (l.map stsD)),(1,.int ((before : Nat) : Int)),(2,.int ((input : Nat) : Int)),(7,.ptr 7 0 []),(9,.int ((i : Nat) : Int)),(10,.int ((q__.1 : Nat) : Int))],[(7,.var (placeK p))]⟩) (fun q__=>frmN l before input i - q__.1) ⟨(0),⟨Nat.zero_le _,fun q hq=>absurd hq (Nat.not_lt_zero _)⟩⟩ O ?_
     rintro ⟨k,⟨hk,hnk⟩⟩
     show W _ _ _ _ ⟨64,[(0,.sl none 38 (l.map stsD)),(1,.int ((before : Nat) : Int)),(2,.int ((input : Nat) : Int)),(7,.ptr 7 0 []),(9,.int ((i : Nat) : Int)),(10,.int ((k : Nat) : Int))],[(7,.var (placeK p))]⟩
     have hk : k <= frmN l before input i:=hk
     have hnk : ∀ q < k,(plc l[i]!.t.ins[q]! == p && !mintS l[i]!.t) = false:=hnk
     have hiw:=hl.get (show i < l.length by omega)
     have hi1:=hiw.2.2.1
     have hfk : frmN l before input i <= l[i]!.t.ins.length:=by unfold frmN; split <;> omega
     refine W.seq (W.seq ?_)
     by_cases h2 : k < l[i]!.t.ins.length
     · by_cases h3 : i < before
       · refine W.l0 19 [.y 22 _,.y 23 _,.y 24 _,.y 25 _,.y 26 _,.y 27 _,.y 28 _,.y 29 _,.y 30 _,.y 31 _,.y 32 _,.y 33 _,.y 34 _,.y 35 _,.x 36,.x 37,.x 38,.y 39 _,.y 40 _] [] [] [(0,_),(1,_),(2,_),(7,_),(9,_),(10,_),(40,_)] [(7,.var _)] 64 ⟨mU 10 O O,mU 0 O O,mU 9 O O,aU fun _ _ H K=>R.idxN (i) (SC.sl (K 23 _ O)) (evoI (eU K 24 O)) O bU H dU,aU fun _ _ H K=>R.fdE (K 25 _ O) H dU,aU fun _ _ H K=>R.fdE (K 26 _ O) H dU,aU fun _ _ H K=>R.ldE (K 27 _ O) (SC.sl (K 23 _ O)) (map_get! (l:=l) bU) O O O O H,aU fun _ _ H K=>R.lenE (SC.sl (K 28 _ O)) (lN _) H,aU fun _ _ H K=>R.lssN (k) (l[i]!.t.ins.length) (eU K 22 O) (eU K 29 O) H,mU 30 O O,aW O O (gT (dT h2) O) fun _ _ H K=>R.mov (eU K 9 O) O H,aW O O (gT (dT h2) O) fun _ _ H K=>R.mov (eU K 1 O) O H,aW O O (gT (dT h2) O) fun _ _ H K=>R.lssN (i) (before) (eU K 32 O) (eU K 33 O) H,aW O O (gT (dT h2) O) fun _ _ H K=>R.mov (eU K 34 O) O H,aF O O (gT (dT h3) O),aF O O (gT (dT h3) O),aF O O (gT (dT h3) O),aW O O (gT (dT h2) O) fun _ _ H K=>R.pickT (eU K 35 O) (dT h3) (kB true O) O H,aU fun _ _ H K=>R.pickT (eU K 31 O) (dT h2) (eU K 39 O) O H,Zt⟩ O O O O (tU O ?_)
         refine W.condT O (O) ?_
         refine W.skip (W.seq (W.block (W.seq ?_)))
         by_cases h4 : plc l[i]!.t.ins[k]! = p
         · have hkn : k < frmN l before input i:=by rw [frmN_1 h3]; exact h2
           refine W.draw (m:=21) (an:=[0,0,3,7,15,31,0,127,255,511,0,2047,4095,8191,8191,32767,65535,131071,262143,524287,1048575]) hP dU O (its:=[.y 43 _,.y 44 _,.y 45 _,.y 46 _,.y 47 _,.y 48 _,.y 49 _,.y 50 _,.y 51 _,.y 52 _,.y 53 _,.y 54 _,.y 55 _,.y 56 _,.y 57 _,.y 58 _,.y 59 _,.y 60 _,.y 61 _,.y 62 _,.y 63 _]) (ks:=[]) (kk:=[]) (live:=[0,1,2,7,9,10,63]) (env':=[(0,_),(1,_),(2,_),(7,_),(9,_),(10,_),(63,_)]) (⟨nU O,O,⟨mU 0 O O,mU 9 O O,aU fun _ _ H K=>R.idxN (i) (SC.sl (K 43 _ O)) (evoI (eU K 44 O)) O bU H dU,aU fun _ _ H K=>R.fdE (K 45 _ O) H dU,aU fun _ _ H K=>R.fdE (K 46 _ O) H dU,aU fun _ _ H K=>R.ldE (K 47 _ O) (SC.sl (K 43 _ O)) (map_get! (l:=l) bU) O O O O H,mU 10 O O,aU fun _ _ H K=>R.idxN (k) (SC.sl (K 48 _ O)) (evoI (eU K 49 O)) O bU H dU,aU fun _ _ H K=>R.fdE (K 50 _ O) H dU,aU fun _ _ H K=>R.ldE (K 51 _ O) (SC.sl (K 48 _ O)) (map_get! (l:=l[i]!.t.ins) bU) O O O O H,aU (lU 7 O O O O O O O),aU fun _ _ H K=>R.eqD (neg:=false) (b':=(plc l[i]!.t.ins[k]! == p)) (eqv_place _ _) O (eU K 52 O) (eU K 53 O) O O O O (O) H,mU 54 O O,aW O O (gT (beq_iff_eq.2 h4) O) fun _ _ H K=>R.mov (eU K 0 O) O H,aW O O (gT (beq_iff_eq.2 h4) O) fun _ _ H K=>R.mov (eU K 9 O) O H,aW O O (gT (beq_iff_eq.2 h4) O) fun _ _ H K=>R.idxN (i) (SC.sl (K 56 _ O)) (evoI (eU K 57 O)) O bU H dU,aW O O (gT (beq_iff_eq.2 h4) O) fun _ _ H K=>R.fdE (K 58 _ O) H dU,aW O O (gT (beq_iff_eq.2 h4) O) fun _ _ H K=>R.ldE (K 59 _ O) (SC.sl (K 56 _ O)) (map_get! (l:=l) bU) O O O O H,aW O O (gT (beq_iff_eq.2 h4) O) fun _ _ H K=>R.callG hC (coin_ok l[i]!.t hiw.2.1) (Bc (Bp (eU K 60 O) O O) Bn) (FrsR.one (.bool _)) H,aW O O (gT (beq_iff_eq.2 h4) O) fun _ _ H K=>R.un (eU K 61 O) O H,aU fun _ _ H K=>R.pickT (eU K 55 O) (beq_iff_eq.2 h4) (eU K 62 O) O H,Zt⟩,O,O,O⟩) O (bx':=[(7,.var _)]) O (n':=64) O (tV [(0,_),(1,_),(2,_),(7,_),(9,_),(10,_),(63,_)] [(7,.var _)] 64 O O O ?_)
           refine W.cond O (fun hc63=>?_) (fun hc63=>?_)
           · refine W.seq ?_
             refine W.l0 1 [.y 8 _] [] [] [(8,_)] [(7,.var _)] 64 ⟨aU fun _ _ H _=>R.asg (kB true O) O H,Zt⟩ O O O O (tU O ?_)
             refine W.ret ?_
             exact Ends.one' (.inr O) O (by rw [frm_true h1 (by omega) hkn h4 hc63]) O O Zt
           · refine W.skip ?_
             refine W.l0 3 [.y 41 _,.y 42 _,.y 10 _] [] [] [(0,_),(1,_),(2,_),(7,_),(9,_),(10,_)] [(7,.var _)] 64 ⟨mU 10 O O,aU fun _ _ H K=>R.addN (k) (1) (eU K 41 O) (kI 1 O) bU H,aU fun _ _ H K=>R.asg (eU K 42 O) O H,Zt⟩ O O O O (tU O ?_)
             exact ⟨⟨(k + 1),⟨by omega,fun q hq=>(Nat.lt_succ_iff_lt_or_eq.1 hq).elim (hnk q) (fun e=>e ▸ (by first | exact pl_no h4 | exact pl_mint (by simpa using hc63)))⟩⟩,rfl,(by show frmN l before input i - (k + 1) < frmN l before input i - k; omega)⟩
         · have hkn : k < frmN l before input i:=by rw [frmN_1 h3]; exact h2
           refine W.draw (m:=21) (an:=[0,0,3,7,15,31,0,127,255,511,0,2047,4095,8191,8191,32767,65535,131071,262143,524287,1048575]) hP dU O (its:=[.y 43 _,.y 44 _,.y 45 _,.y 46 _,.y 47 _,.y 48 _,.y 49 _,.y 50 _,.y 51 _,.y 52 _,.y 53 _,.y 54 _,.y 55 _,.x 56,.x 57,.x 58,.x 59,.x 60,.x 61,.x 62,.y 63 _]) (ks:=[]) (kk:=[]) (live:=[0,1,2,7,9,10,63]) (env':=[(0,_),(1,_),(2,_),(7,_),(9,_),(10,_),(63,_)]) (⟨nU O,O,⟨mU 0 O O,mU 9 O O,aU fun _ _ H K=>R.idxN (i) (SC.sl (K 43 _ O)) (evoI (eU K 44 O)) O bU H dU,aU fun _ _ H K=>R.fdE (K 45 _ O) H dU,aU fun _ _ H K=>R.fdE (K 46 _ O) H dU,aU fun _ _ H K=>R.ldE (K 47 _ O) (SC.sl (K 43 _ O)) (map_get! (l:=l) bU) O O O O H,mU 10 O O,aU fun _ _ H K=>R.idxN (k) (SC.sl (K 48 _ O)) (evoI (eU K 49 O)) O bU H dU,aU fun _ _ H K=>R.fdE (K 50 _ O) H dU,aU fun _ _ H K=>R.ldE (K 51 _ O) (SC.sl (K 48 _ O)) (map_get! (l:=l[i]!.t.ins) bU) O O O O H,aU (lU 7 O O O O O O O),aU fun _ _ H K=>R.eqD (neg:=false) (b':=(plc l[i]!.t.ins[k]! == p)) (eqv_place _ _) O (eU K 52 O) (eU K 53 O) O O O O (O) H,mU 54 O O,aF O O (gF (beq_eq_false_iff_ne.2 h4) O),aF O O (gF (beq_eq_false_iff_ne.2 h4) O),aF O O (gF (beq_eq_false_iff_ne.2 h4) O),aF O O (gF (beq_eq_false_iff_ne.2 h4) O),aF O O (gF (beq_eq_false_iff_ne.2 h4) O),aF O O (gF (beq_eq_false_iff_ne.2 h4) O),aF O O (gF (beq_eq_false_iff_ne.2 h4) O),aU fun _ _ H K=>R.pickF (eU K 55 O) (beq_eq_false_iff_ne.2 h4) (kB false O) O H,Zt⟩,O,O,O⟩) O (bx':=[(7,.var _)]) O (n':=64) O (tV [(0,_),(1,_),(2,_),(7,_),(9,_),(10,_),(63,_)] [(7,.var _)] 64 O O O ?_)
           refine W.condF O (O) ?_
           refine W.skip ?_
           refine W.l0 3 [.y 41 _,.y 42 _,.y 10 _] [] [] [(0,_),(1,_),(2,_),(7,_),(9,_),(10,_)] [(7,.var _)] 64 ⟨mU 10 O O,aU fun _ _ H K=>R.addN (k) (1) (eU K 41 O) (kI 1 O) bU H,aU fun _ _ H K=>R.asg (eU K 42 O) O H,Zt⟩ O O O O (tU O ?_)
           exact ⟨⟨(k + 1),⟨by omega,fun q hq=>(Nat.lt_succ_iff_lt_or_eq.1 hq).elim (hnk q) (fun e=>e ▸ (by first | exact pl_no h4 | exact pl_mint (by simpa using hc63)))⟩⟩,rfl,(by show frmN l before input i - (k + 1) < frmN l before input i - k; omega)⟩
       · refine W.l0 19 [.y 22 _,.y 23 _,.y 24 _,.y 25 _,.y 26 _,.y 27 _,.y 28 _,.y 29 _,.y 30 _,.y 31 _,.y 32 _,.y 33 _,.y 34 _,.y 35 _,.y 36 _,.y 37 _,.y 38 _,.y 39 _,.y 40 _] [] [] [(0,_),(1,_),(2,_),(7,_),(9,_),(10,_),(40,_)] [(7,.var _)] 64 ⟨mU 10 O O,mU 0 O O,mU 9 O O,aU fun _ _ H K=>R.idxN (i) (SC.sl (K 23 _ O)) (evoI (eU K 24 O)) O bU H dU,aU fun _ _ H K=>R.fdE (K 25 _ O) H dU,aU fun _ _ H K=>R.fdE (K 26 _ O) H dU,aU fun _ _ H K=>R.ldE (K 27 _ O) (SC.sl (K 23 _ O)) (map_get! (l:=l) bU) O O O O H,aU fun _ _ H K=>R.lenE (SC.sl (K 28 _ O)) (lN _) H,aU fun _ _ H K=>R.lssN (k) (l[i]!.t.ins.length) (eU K 22 O) (eU K 29 O) H,mU 30 O O,aW O O (gT (dT h2) O) fun _ _ H K=>R.mov (eU K 9 O) O H,aW O O (gT (dT h2) O) fun _ _ H K=>R.mov (eU K 1 O) O H,aW O O (gT (dT h2) O) fun _ _ H K=>R.lssN (i) (before) (eU K 32 O) (eU K 33 O) H,aW O O (gT (dT h2) O) fun _ _ H K=>R.mov (eU K 34 O) O H,aW O O (gF (dF h3) O) fun _ _ H K=>R.mov (eU K 10 O) O H,aW O O (gF (dF h3) O) fun _ _ H K=>R.mov (eU K 2 O) O H,aW O O (gF (dF h3) O) fun _ _ H K=>R.lssN (k) (input) (eU K 36 O) (eU K 37 O) H,aW O O (gT (dT h2) O) fun _ _ H K=>R.pickF (eU K 35 O) (dF h3) (eU K 38 O) O H,aU fun _ _ H K=>R.pickT (eU K 31 O) (dT h2) (eU K 39 O) O H,Zt⟩ O O O O (tU O ?_)
         refine W.condD O (fun hc40=>?_) (fun hc40=>?_)
         · refine W.skip (W.seq (W.block (W.seq ?_)))
           by_cases h4 : plc l[i]!.t.ins[k]! = p
           · have hkn : k < frmN l before input i:=by rw [frmN_2 h3]; omega
             refine W.draw (m:=21) (an:=[0,0,3,7,15,31,0,127,255,511,0,2047,4095,8191,8191,32767,65535,131071,262143,524287,1048575]) hP dU O (its:=[.y 43 _,.y 44 _,.y 45 _,.y 46 _,.y 47 _,.y 48 _,.y 49 _,.y 50 _,.y 51 _,.y 52 _,.y 53 _,.y 54 _,.y 55 _,.y 56 _,.y 57 _,.y 58 _,.y 59 _,.y 60 _,.y 61 _,.y 62 _,.y 63 _]) (ks:=[]) (kk:=[]) (live:=[0,1,2,7,9,10,63]) (env':=[(0,_),(1,_),(2,_),(7,_),(9,_),(10,_),(63,_)]) (⟨nU O,O,⟨mU 0 O O,mU 9 O O,aU fun _ _ H K=>R.idxN (i) (SC.sl (K 43 _ O)) (evoI (eU K 44 O)) O bU H dU,aU fun _ _ H K=>R.fdE (K 45 _ O) H dU,aU fun _ _ H K=>R.fdE (K 46 _ O) H dU,aU fun _ _ H K=>R.ldE (K 47 _ O) (SC.sl (K 43 _ O)) (map_get! (l:=l) bU) O O O O H,mU 10 O O,aU fun _ _ H K=>R.idxN (k) (SC.sl (K 48 _ O)) (evoI (eU K 49 O)) O bU H dU,aU fun _ _ H K=>R.fdE (K 50 _ O) H dU,aU fun _ _ H K=>R.ldE (K 51 _ O) (SC.sl (K 48 _ O)) (map_get! (l:=l[i]!.t.ins) bU) O O O O H,aU (lU 7 O O O O O O O),aU fun _ _ H K=>R.eqD (neg:=false) (b':=(plc l[i]!.t.ins[k]! == p)) (eqv_place _ _) O (eU K 52 O) (eU K 53 O) O O O O (O) H,mU 54 O O,aW O O (gT (beq_iff_eq.2 h4) O) fun _ _ H K=>R.mov (eU K 0 O) O H,aW O O (gT (beq_iff_eq.2 h4) O) fun _ _ H K=>R.mov (eU K 9 O) O H,aW O O (gT (beq_iff_eq.2 h4) O) fun _ _ H K=>R.idxN (i) (SC.sl (K 56 _ O)) (evoI (eU K 57 O)) O bU H dU,aW O O (gT (beq_iff_eq.2 h4) O) fun _ _ H K=>R.fdE (K 58 _ O) H dU,aW O O (gT (beq_iff_eq.2 h4) O) fun _ _ H K=>R.ldE (K 59 _ O) (SC.sl (K 56 _ O)) (map_get! (l:=l) bU) O O O O H,aW O O (gT (beq_iff_eq.2 h4) O) fun _ _ H K=>R.callG hC (coin_ok l[i]!.t hiw.2.1) (Bc (Bp (eU K 60 O) O O) Bn) (FrsR.one (.bool _)) H,aW O O (gT (beq_iff_eq.2 h4) O) fun _ _ H K=>R.un (eU K 61 O) O H,aU fun _ _ H K=>R.pickT (eU K 55 O) (beq_iff_eq.2 h4) (eU K 62 O) O H,Zt⟩,O,O,O⟩) O (bx':=[(7,.var _)]) O (n':=64) O (tV [(0,_),(1,_),(2,_),(7,_),(9,_),(10,_),(63,_)] [(7,.var _)] 64 O O O ?_)
             refine W.cond O (fun hc63=>?_) (fun hc63=>?_)
             · refine W.seq ?_
               refine W.l0 1 [.y 8 _] [] [] [(8,_)] [(7,.var _)] 64 ⟨aU fun _ _ H _=>R.asg (kB true O) O H,Zt⟩ O O O O (tU O ?_)
               refine W.ret ?_
               exact Ends.one' (.inr O) O (by rw [frm_true h1 (by omega) hkn h4 hc63]) O O Zt
             · refine W.skip ?_
               refine W.l0 3 [.y 41 _,.y 42 _,.y 10 _] [] [] [(0,_),(1,_),(2,_),(7,_),(9,_),(10,_)] [(7,.var _)] 64 ⟨mU 10 O O,aU fun _ _ H K=>R.addN (k) (1) (eU K 41 O) (kI 1 O) bU H,aU fun _ _ H K=>R.asg (eU K 42 O) O H,Zt⟩ O O O O (tU O ?_)
               exact ⟨⟨(k + 1),⟨by omega,fun q hq=>(Nat.lt_succ_iff_lt_or_eq.1 hq).elim (hnk q) (fun e=>e ▸ (by first | exact pl_no h4 | exact pl_mint (by simpa using hc63)))⟩⟩,rfl,(by show frmN l before input i - (k + 1) < frmN l before input i - k; omega)⟩
           · have hkn : k < frmN l before input i:=by rw [frmN_2 h3]; omega
             refine W.draw (m:=21) (an:=[0,0,3,7,15,31,0,127,255,511,0,2047,4095,8191,8191,32767,65535,131071,262143,524287,1048575]) hP dU O (its:=[.y 43 _,.y 44 _,.y 45 _,.y 46 _,.y 47 _,.y 48 _,.y 49 _,.y 50 _,.y 51 _,.y 52 _,.y 53 _,.y 54 _,.y 55 _,.x 56,.x 57,.x 58,.x 59,.x 60,.x 61,.x 62,.y 63 _]) (ks:=[]) (kk:=[]) (live:=[0,1,2,7,9,10,63]) (env':=[(0,_),(1,_),(2,_),(7,_),(9,_),(10,_),(63,_)]) (⟨nU O,O,⟨mU 0 O O,mU 9 O O,aU fun _ _ H K=>R.idxN (i) (SC.sl (K 43 _ O)) (evoI (eU K 44 O)) O bU H dU,aU fun _ _ H K=>R.fdE (K 45 _ O) H dU,aU fun _ _ H K=>R.fdE (K 46 _ O) H dU,aU fun _ _ H K=>R.ldE (K 47 _ O) (SC.sl (K 43 _ O)) (map_get! (l:=l) bU) O O O O H,mU 10 O O,aU fun _ _ H K=>R.idxN (k) (SC.sl (K 48 _ O)) (evoI (eU K 49 O)) O bU H dU,aU fun _ _ H K=>R.fdE (K 50 _ O) H dU,aU fun _ _ H K=>R.ldE (K 51 _ O) (SC.sl (K 48 _ O)) (map_get! (l:=l[i]!.t.ins) bU) O O O O H,aU (lU 7 O O O O O O O),aU fun _ _ H K=>R.eqD (neg:=false) (b':=(plc l[i]!.t.ins[k]! == p)) (eqv_place _ _) O (eU K 52 O) (eU K 53 O) O O O O (O) H,mU 54 O O,aF O O (gF (beq_eq_false_iff_ne.2 h4) O),aF O O (gF (beq_eq_false_iff_ne.2 h4) O),aF O O (gF (beq_eq_false_iff_ne.2 h4) O),aF O O (gF (beq_eq_false_iff_ne.2 h4) O),aF O O (gF (beq_eq_false_iff_ne.2 h4) O),aF O O (gF (beq_eq_false_iff_ne.2 h4) O),aF O O (gF (beq_eq_false_iff_ne.2 h4) O),aU fun _ _ H K=>R.pickF (eU K 55 O) (beq_eq_false_iff_ne.2 h4) (kB false O) O H,Zt⟩,O,O,O⟩) O (bx':=[(7,.var _)]) O (n':=64) O (tV [(0,_),(1,_),(2,_),(7,_),(9,_),(10,_),(63,_)] [(7,.var _)] 64 O O O ?_)
             refine W.condF O (O) ?_
             refine W.skip ?_
             refine W.l0 3 [.y 41 _,.y 42 _,.y 10 _] [] [] [(0,_),(1,_),(2,_),(7,_),(9,_),(10,_)] [(7,.var _)] 64 ⟨mU 10 O O,aU fun _ _ H K=>R.addN (k) (1) (eU K 41 O) (kI 1 O) bU H,aU fun _ _ H K=>R.asg (eU K 42 O) O H,Zt⟩ O O O O (tU O ?_)
             exact ⟨⟨(k + 1),⟨by omega,fun q hq=>(Nat.lt_succ_iff_lt_or_eq.1 hq).elim (hnk q) (fun e=>e ▸ (by first | exact pl_no h4 | exact pl_mint (by simpa using hc63)))⟩⟩,rfl,(by show frmN l before input i - (k + 1) < frmN l before input i - k; omega)⟩
         · refine W.exit ?_
           refine W.l0 3 [.y 20 _,.y 21 _,.y 9 _] [] [] [(0,_),(1,_),(2,_),(7,_),(9,_)] [(7,.var _)] 64 ⟨mU 9 O O,aU fun _ _ H K=>R.addN (i) (1) (eU K 20 O) (kI 1 O) bU H,aU fun _ _ H K=>R.asg (eU K 21 O) O H,Zt⟩ O O O O (tU O ?_)
           exact ⟨⟨(i + 1),⟨by omega,fun q hq=>(Nat.lt_succ_iff_lt_or_eq.1 hq).elim (hno q) (fun e=>e ▸ frmJ_f (fun q hq=>hnk q (by first | (rw [frmN_1 h3] at hq; omega) | (rw [frmN_2 h3] at hq; omega) | (by_cases h3 : i < before; (rw [frmN_1 h3] at hq; omega); (rw [frmN_2 h3] at hq; omega)))))⟩⟩,rfl,(by show l.length - (i + 1) < l.length - i; omega)⟩
     · refine W.l0 19 [.y 22 _,.y 23 _,.y 24 _,.y 25 _,.y 26 _,.y 27 _,.y 28 _,.y 29 _,.y 30 _,.y 31 _,.x 32,.x 33,.x 34,.x 35,.x 36,.x 37,.x 38,.x 39,.y 40 _] [] [] [(0,_),(1,_),(2,_),(7,_),(9,_),(10,_),(40,_)] [(7,.var _)] 64 ⟨mU 10 O O,mU 0 O O,mU 9 O O,aU fun _ _ H K=>R.idxN (i) (SC.sl (K 23 _ O)) (evoI (eU K 24 O)) O bU H dU,aU fun _ _ H K=>R.fdE (K 25 _ O) H dU,aU fun _ _ H K=>R.fdE (K 26 _ O) H dU,aU fun _ _ H K=>R.ldE (K 27 _ O) (SC.sl (K 23 _ O)) (map_get! (l:=l) bU) O O O O H,aU fun _ _ H K=>R.lenE (SC.sl (K 28 _ O)) (lN _) H,aU fun _ _ H K=>R.lssN (k) (l[i]!.t.ins.length) (eU K 22 O) (eU K 29 O) H,mU 30 O O,aF O O (gF (dF h2) O),aF O O (gF (dF h2) O),aF O O (gF (dF h2) O),aF O O (gF (dF h2) O),⟨O,⟨_,35,O,O,.inr ⟨O,O⟩⟩,fun h=>absurd h dU⟩,⟨O,⟨_,35,O,O,.inr ⟨O,O⟩⟩,fun h=>absurd h dU⟩,⟨O,⟨_,35,O,O,.inr ⟨O,O⟩⟩,fun h=>absurd h dU⟩,aF O O (gF (dF h2) O),aU fun _ _ H K=>R.pickF (eU K 31 O) (dF h2) (kB false O) O H,Zt⟩ O O O O (tU O ?_)
       refine W.condF O (O) ?_
       refine W.exit ?_
       refine W.l0 3 [.y 20 _,.y 21 _,.y 9 _] [] [] [(0,_),(1,_),(2,_),(7,_),(9,_)] [(7,.var _)] 64 ⟨mU 9 O O,aU fun _ _ H K=>R.addN (i) (1) (eU K 20 O) (kI 1 O) bU H,aU fun _ _ H K=>R.asg (eU K 21 O) O H,Zt⟩ O O O O (tU O ?_)
       exact ⟨⟨(i + 1),⟨by omega,fun q hq=>(Nat.lt_succ_iff_lt_or_eq.1 hq).elim (hno q) (fun e=>e ▸ frmJ_f (fun q hq=>hnk q (by first | (rw [frmN_1 h3] at hq; omega) | (rw [frmN_2 h3] at hq; omega) | (by_cases h3 : i < before; (rw [frmN_1 h3] at hq; omega); (rw [frmN_2 h3] at hq; omega)))))⟩⟩,rfl,(by show l.length - (i + 1) < l.length - i; omega)⟩
   · refine W.exit (W.seq ?_)
     refine W.l0 1 [.y 8 _] [] [] [(8,_)] [(7,.var _)] 64 ⟨aU fun _ _ H _=>R.asg (kB false O) O H,Zt⟩ O O O O (tU O ?_)
     refine W.ret ?_
     exact Ends.one' (.inr O) O (by rw [frm_false (fun q hq=>hno q (by omega))]) O O Zt
 · refine W.l0 9 [.y 11 _,.y 12 _,.y 13 _,.y 14 _,.x 15,.x 16,.x 17,.x 18,.y 19 _] [] [] [(0,_),(1,_),(2,_),(7,_),(9,_),(19,_)] [(7,.var _)] 64 ⟨mU 9 O O,mU 1 O O,aU fun _ _ H K=>R.leqN (i) (before) (eU K 11 O) (eU K 12 O) H,mU 13 O O,aF O O (gF (dF h1) O),aF O O (gF (dF h1) O),aF O O (gF (dF h1) O),aF O O (gF (dF h1) O),aU fun _ _ H K=>R.pickF (eU K 14 O) (dF h1) (kB false O) O H,Zt⟩ O O O O (tU O ?_)
   refine W.condF O (O) ?_
   refine W.exit (W.seq ?_)
   refine W.l0 1 [.y 8 _] [] [] [(8,_)] [(7,.var _)] 64 ⟨aU fun _ _ H _=>R.asg (kB false O) O H,Zt⟩ O O O O (tU O ?_)
   refine W.ret ?_
   exact Ends.one' (.inr O) O (by rw [frm_false (fun q hq=>hno q (by omega))]) O O Zt
end Go.Sx

namespace Go.Sx
open Go.Proofs
theorem key15_ok (k : UInt8) : Fn Tryd.prog gl 30 [.u8 k] (.sl (some 5) 1 ((keyS k).map D.u8)):=by
 refine Fn.of (n:=10) Tryd.func30 rfl rfl rfl (Nat.le_of_ble_eq_true rfl) fun C hC hD=>?_
 have hsl:=sumR_len [115,k,0,0,0]
 refine W.seq ?_
 refine W.line (n:=1) (by decide) (its:=[⟨2,_,true⟩]) (ks:=[]) (kk:=[]) (live:=[0]) (env':=[(0,_)])
  (⟨Nat.le_of_ble_eq_true rfl,rfl,
   ⟨⟨rfl,rfl,fun _ τ hb ht hτ=>R.asg (show ev _ _ (.const (.slice none 0 0)) = some (.nils) from rfl) rfl ht⟩,
   trivial⟩,rfl,rfl,rfl⟩)
  rfl (bx':=[]) rfl (n':=10) rfl (⟨[0],[(0,_)],[],10,rfl,rfl,rfl, ?_⟩)
 refine W.seq ?_
 refine W.line (n:=5) (by decide) (its:=[⟨4,_,true⟩,⟨5,_,true⟩,⟨6,_,true⟩]) (ks:=[]) (kk:=[]) (live:=[6]) (env':=[(6,_)])
  (⟨Nat.le_of_ble_eq_true rfl,rfl,
   ⟨⟨rfl,rfl,fun _ τ hb ht hτ=>R.mov (evt (hτ 0 _ rfl)) rfl ht⟩,
   ⟨⟨rfl,rfl,fun _ τ hb ht hτ=>R.bslE (z:=1) (.cons (show ev _ _ (.const (.int .u8 115)) = some (.u8 115) from rfl) (.cons (evt (hτ 4 _ rfl)) (.cons (show ev _ _ (.const (.int .u8 0)) = some (.u8 0) from rfl) (.cons (show ev _ _ (.const (.int .u8 0)) = some (.u8 0) from rfl) (.cons (show ev _ _ (.const (.int .u8 0)) = some (.u8 0) from rfl) .nil))))) ⟨⟨rfl,rfl,rfl⟩,⟨⟨rfl,rfl,rfl⟩,⟨⟨rfl,rfl,rfl⟩,⟨⟨rfl,rfl,rfl⟩,⟨⟨rfl,rfl,rfl⟩,trivial⟩⟩⟩⟩⟩ rfl ht (by decide)⟩,
   ⟨⟨rfl,rfl,fun _ τ hb ht hτ=>R.callG hC (rsum_ok [115,k,0,0,0] (by simp)) (Bors.cons (Bor.sc (SC.sl (hτ 5 _ rfl)) rfl) Bors.nil) (FrsR.one (frs_hash' _)) ht⟩,
   trivial⟩⟩⟩,rfl,rfl,rfl⟩)
  rfl (bx':=[]) rfl (n':=10) rfl (⟨rfl,_,R.alloc rfl (Nat.le_of_ble_eq_true rfl),⟨rfl,_,R.stZ (show Sg.get _ 3 = some _ from rfl) (show Sg.box _ 3 = some _ from rfl) rfl (evt (show Sg.get _ 6 = some _ from rfl)) (by rfl) (by rfl) (by rfl) (by rfl) rfl,⟨[3],[(3,_)],[(3,.var _)],10,rfl,rfl,rfl, ?_⟩⟩⟩)
 refine W.seq ?_
 refine W.line (n:=4) (by decide) (its:=[⟨7,_,true⟩,⟨8,_,true⟩,⟨9,_,true⟩,⟨2,_,true⟩]) (ks:=[(2,7),(3,9)]) (kk:=[(2,7),(3,9)]) (live:=[2]) (env':=[(2,_)])
  (⟨Nat.le_of_ble_eq_true rfl,rfl,
   ⟨⟨rfl,rfl,fun _ τ hb ht hτ=>R.bslE (z:=1) (.cons (show ev _ _ (.const (.int .u8 0)) = some (.u8 0) from rfl) (.cons (show ev _ _ (.const (.int .u8 20)) = some (.u8 20) from rfl) .nil)) ⟨⟨rfl,rfl,rfl⟩,⟨⟨rfl,rfl,rfl⟩,trivial⟩⟩ rfl ht (by decide)⟩,
   ⟨⟨rfl,rfl,fun _ τ hb ht hτ=>R.slAN (0) (20) (20) (hτ 3 _ rfl) (hb 3 _ rfl) rfl rfl (evoI (show ev _ _ (.const (.int .i64 20)) = some (.int ((20 : Nat) : Int)) from rfl)) rfl rfl (by first | omega | (simp only [List.length_map,List.length_append,List.length_cons,List.length_nil,List.length_take,List.length_drop,List.length_replicate]; omega) | (simp; omega)) (by first | omega | (simp only [List.length_map,List.length_append,List.length_cons,List.length_nil,List.length_take,List.length_drop,List.length_replicate]; omega) | (simp; omega)) rfl ht⟩,
   ⟨⟨rfl,rfl,fun _ τ hb ht hτ=>R.appE (Or.inl rfl) (hτ 7 _ rfl) (SrcO.sc (SC.va (hτ 8 _ rfl) (hb 3 _ rfl) rfl (by first | omega | (simp only [List.length_map,List.length_append,List.length_cons,List.length_nil,List.length_take,List.length_drop,List.length_replicate]; omega) | (simp; omega))) (pur_part (fun _=>rfl))) (show _ = ((keyS k).map D.u8) from (by rw [keyS,List.map_append,List.map_take]; rfl)) (by first | omega | (simp only [List.length_map,List.length_append,List.length_cons,List.length_nil,List.length_take,List.length_drop,List.length_replicate]; omega) | (simp; omega)) ht (by decide) (by decide)⟩,
   ⟨⟨rfl,rfl,fun _ τ hb ht hτ=>R.asgO (hτ 9 _ rfl) rfl ht (by decide)⟩,
   trivial⟩⟩⟩⟩,rfl,rfl,rfl⟩)
  rfl (bx':=[(3,.var _)]) rfl (n':=10) rfl (⟨[2],[(2,_)],[(3,.var _)],10,rfl,rfl,rfl, ?_⟩)
 refine W.ret ?_
 exact Ends.one' (.inr rfl) rfl (rfl) rfl rfl trivial
end Go.Sx

namespace Go.Sx
open Go.Proofs
theorem thr15_ok (l : List BlkS) (hl : allBl l) : Fn Tryd.prog gl 38 [.sl none 69 (l.map blkD)] (.tup [.sl (some 60) 33 ((thrS l).map plcP),.sl (some 48) 1 ((thrS l).map valP)]):=by
 refine Fn.of (n:=62) Tryd.func38 rfl rfl rfl (nU rfl) fun C hC hD=>?_
 have hsa:=allS_wf hl
 have hal:=hsa.1
 refine W.seq ?_
 refine W.l0 2 [.y 2 _,.y 3 _] [] [] [(0,_)] [] 62 ⟨aU fun _ _ H _=>R.asg (kN O) O H,aU fun _ _ H _=>R.asg (kN O) O H,Zt⟩ O O O O (tU O ?_)
 refine W.seq ?_
 refine W.l0 3 [.y 10 _,.y 11 _,.y 4 _] [(2,11)] [(2,11)] [(4,_)] [] 62 ⟨mU 0 O O,aU fun _ _ H K=>R.callPE hC (all15_ok l hl) (EvP.cons (eU K 10 O) O O EvP.nil) H,aU fun _ _ H K=>R.asgO (K 11 _ O) O H dU,Zt⟩ O O O O (tU O ?_)
 refine W.seq ?_
 refine W.frzS (s:=4) (d':=.sl none 38 ((allS l).map stsD)) O O (brw_sts _ _ _) ?_
 refine W.l0 1 [.y 5 _] [] [] [(4,_),(5,_)] [] 62 ⟨aU fun _ _ H _=>R.asg (kN O) O H,Zt⟩ O O O O (tU O ?_)
 refine W.seq ?_
 refine W.l0 1 [.y 6 _] [] [] [(4,_),(5,_),(6,_)] [] 62 ⟨aU fun _ _ H _=>R.asg (kN O) O H,Zt⟩ O O O O (tU O ?_)
 refine W.seq (W.seq ?_)
 refine W.l0 1 [.y 7 _] [] [] [(4,_),(5,_),(6,_),(7,_)] [] 62 ⟨aU fun _ _ H _=>R.asg (kI 0 O) O H,Zt⟩ O O O O (tU O ?_)
 refine W.block ?_
 refine W.asOwn (s:=5) 60 33 O ?_
 refine W.asOwn (s:=6) 48 1 O ?_
 refine W.loop (α:={q__ : Nat // q__ <= (allS l).length}) (fun q__=>⟨62,[(4,.sl none 38 ((allS l).map stsD)),(5,.sl (some 60) 33 ((thrI (allS l) q__.1).map plcP)),(6,.sl (some 48) 1 ((thrI (allS l) q__.1).map valP)),(7,.int ((q__.1 : Nat) : Int))],[]⟩) (fun q__=>(allS l).length - q__.1) ⟨(0),bU⟩ O ?_
 rintro ⟨i,hi⟩
 show W _ _ _ _ ⟨62,[(4,.sl none 38 ((allS l).map stsD)),(5,.sl (some 60) 33 ((thrI (allS l) i).map plcP)),(6,.sl (some 48) 1 ((thrI (allS l) i).map valP)),(7,.int ((i : Nat) : Int))],[]⟩
 have hi : i <= (allS l).length:=hi
 have htl:=thrI_len hsa i hi
 have hsm : i < (allS l).length -> (allS l)[i]!.t.outs.length <= 1000:=fun h=>(hsa.get h).2.2.2
 refine W.seq (W.seq ?_)
 refine W.l0 4 [.y 12 _,.y 13 _,.y 14 _,.y 15 _] [] [] [(4,_),(5,_),(6,_),(7,_),(15,_)] [] 62 ⟨mU 7 O O,mU 4 O O,aU fun _ _ H K=>R.lenE (SC.sl (K 13 _ O)) (lN _) H,aU fun _ _ H K=>R.lssN (i) ((allS l).length) (eU K 12 O) (eU K 14 O) H,Zt⟩ O O O O (tU O ?_)
 refine W.condD O (fun hc15=>?_) (fun hc15=>?_)
 · refine W.skip (W.seq (W.block (W.seq ?_)))
   refine W.l0 1 [.y 8 _] [] [] [(4,_),(5,_),(6,_),(7,_),(8,_)] [] 62 ⟨aU fun _ _ H _=>R.asg (kI 0 O) O H,Zt⟩ O O O O (tU O ?_)
   refine W.block ?_
   refine W.loop (α:={q__ : Nat // q__ <= (allS l)[i]!.t.outs.length}) (fun q__=>⟨62,[(4,.sl none 38 ((allS l).map stsD)),(5,.sl (some 60) 33 ((thrI (allS l) i ++ thrK (allS l) i q__.1).map plcP)),(6,.sl (some 48) 1 ((thrI (allS l) i ++ thrK (allS l) i q__.1).map valP)),(7,.int ((i : Nat) : Int)),(8,.int ((q__.1 : Nat) : Int))],[]⟩) (fun q__=>(allS l)[i]!.t.outs.length - q__.1) ⟨(0),bU⟩ (by rw [thrK_0,List.append_nil]) ?_
   rintro ⟨k,hk⟩
   show W _ _ _ _ ⟨62,[(4,.sl none 38 ((allS l).map stsD)),(5,.sl (some 60) 33 ((thrI (allS l) i ++ thrK (allS l) i k).map plcP)),(6,.sl (some 48) 1 ((thrI (allS l) i ++ thrK (allS l) i k).map valP)),(7,.int ((i : Nat) : Int)),(8,.int ((k : Nat) : Int))],[]⟩
   have hk : k <= (allS l)[i]!.t.outs.length:=hk
   have hkl:=thrK_len (allS l) i k
   refine W.seq (W.seq ?_)
   refine W.l0 9 [.y 18 _,.y 19 _,.y 20 _,.y 21 _,.y 22 _,.y 23 _,.y 24 _,.y 25 _,.y 26 _] [] [] [(4,_),(5,_),(6,_),(7,_),(8,_),(26,_)] [] 62 ⟨mU 8 O O,mU 4 O O,mU 7 O O,aU fun _ _ H K=>R.idxN (i) (SC.sl (K 19 _ O)) (evoI (eU K 20 O)) O bU H dU,aU fun _ _ H K=>R.fdE (K 21 _ O) H dU,aU fun _ _ H K=>R.fdE (K 22 _ O) H dU,aU fun _ _ H K=>R.ldE (K 23 _ O) (SC.sl (K 19 _ O)) (map_get! (l:=(allS l)) bU) O O O O H,aU fun _ _ H K=>R.lenE (SC.sl (K 24 _ O)) (lN _) H,aU fun _ _ H K=>R.lssN (k) (((allS l))[i]!.t.outs.length) (eU K 18 O) (eU K 25 O) H,Zt⟩ O O O O (tU O ?_)
   refine W.condD O (fun hc26=>?_) (fun hc26=>?_)
   · refine W.skip (W.seq (W.block (W.seq ?_)))
     refine W.l0 10 [.y 29 _,.y 30 _,.y 31 _,.y 32 _,.y 33 _,.y 34 _,.y 35 _,.y 36 _] [] [] [(4,_),(5,_),(6,_),(7,_),(8,_),(36,_)] [] 62 ⟨mU 4 O O,mU 7 O O,aU fun _ _ H K=>R.idxN (i) (SC.sl (K 29 _ O)) (evoI (eU K 30 O)) O bU H dU,aU fun _ _ H K=>R.fdE (K 31 _ O) H dU,aU fun _ _ H K=>R.ldE (K 32 _ O) (SC.sl (K 29 _ O)) (map_get! (l:=(allS l)) bU) O O O O H,mU 8 O O,aU fun _ _ H K=>R.convE (d:=.u32 (UInt32.ofInt ((k : Nat) : Int))) (eU K 34 O) O (O) H,aU fun _ _ H K=>R.bldSE (l:=[.arr 32 1 ((List.replicate 32 0).map D.u8),.u32 0]) (l':=[_,_]) (.cons (eU K 33 O) (.cons (eU K 35 O) (.nil O))) ⟨⟨_,(eU K 33 O),O,O,szH O⟩,⟨⟨_,(eU K 35 O),O,O,O⟩,Zt⟩⟩ H,Zt⟩ O O O O (⟨O,_,R.alloc O (nU O),⟨O,_,R.stZ (gU 9 O) (xU 9 O) O (gV 36 O) (by rfl) (by rfl) (by rfl) (by rfl) O,tV [(4,_),(5,_),(6,_),(7,_),(8,_),(9,_)] [(9,.var _)] 62 O O O ?_⟩⟩)
     refine W.seq ?_
     refine W.l0 6 [.y 37 _,.y 38 _,.y 39 _,.y 40 _,.y 41 _,.y 42 _] [] [] [(4,_),(5,_),(6,_),(7,_),(8,_),(9,_),(42,_)] [(9,.var _)] 62 ⟨mU 4 O O,mU 4 O O,aU fun _ _ H K=>R.lenE (SC.sl (K 38 _ O)) (lN _) H,aU (lU 9 O O O O O O O),aU fun _ _ H K=>R.callG hC (frm15_ok (allS l) hsa (allS l).length 0 ((allS l)[i]!.id,UInt32.ofInt ((k : Nat) : Int)) (by omega) dU) (Bc (Bp (eU K 37 O) O O) (Bc (Bp (eU K 39 O) O O) (Bc (Bp (kI 0 O) O O) (Bc (Bp (eU K 40 O) O O) Bn)))) (FrsR.one (.bool _)) H,aU fun _ _ H K=>R.un (eU K 41 O) O H,Zt⟩ O O O O (tU O ?_)
     refine W.cond O (fun hc42=>?_) (fun hc42=>?_)
     · refine W.seq ?_
       refine W.l0 5 [.y 43 _,.y 44 _,.y 45 _,.y 46 _,.y 5 _] [(3,5),(4,46),(4,43)] [(3,5),(4,46)] [(4,_),(5,_),(6,_),(7,_),(8,_)] [(9,.var _)] 62 ⟨aU fun _ _ H K=>R.al (K 5 _ O) H dU,aU (lU 9 O O O O O O O),aU fun _ _ H K=>R.bslE (z:=33) (.cons (eU K 44 O) .nil) ⟨⟨O,O,O⟩,Zt⟩ O H dU,aU fun _ _ H K=>R.appE (Or.inr (K 43 _ O)) (K 5 _ O) (SrcO.sc (SC.sl (K 45 _ O)) (pur_lit O)) (show _ = ((thrI (allS l) i ++ thrK (allS l) i (k + 1)).map plcP) from (thr_p (by simpa using hc42))) (by simp only [List.length_map,List.length_append,List.length_cons,List.length_nil]; omega) H dU dU,aU fun _ _ H K=>R.asgO (K 46 _ O) O H dU,Zt⟩ O O O O (tU O ?_)
       refine W.dropB [] (bx':=[]) O O O (pin_sub hD O) ?_
       refine W.l0 14 [.y 47 _,.y 48 _,.y 49 _,.y 50 _,.y 51 _,.y 52 _,.y 53 _,.y 54 _,.y 55 _,.y 56 _,.y 57 _,.y 58 _,.y 59 _,.y 6 _] [(12,6),(13,59),(13,47)] [(12,6),(13,59)] [(4,_),(5,_),(6,_),(7,_),(8,_)] [] 62 ⟨aU fun _ _ H K=>R.al (K 6 _ O) H dU,mU 4 O O,mU 7 O O,aU fun _ _ H K=>R.idxN (i) (SC.sl (K 48 _ O)) (evoI (eU K 49 O)) O bU H dU,aU fun _ _ H K=>R.fdE (K 50 _ O) H dU,aU fun _ _ H K=>R.fdE (K 51 _ O) H dU,aU fun _ _ H K=>R.ldE (K 52 _ O) (SC.sl (K 48 _ O)) (map_get! (l:=(allS l)) bU) O O O O H,mU 8 O O,aU fun _ _ H K=>R.idxN (k) (SC.sl (K 53 _ O)) (evoI (eU K 54 O)) O bU H dU,aU fun _ _ H K=>R.fdE (K 55 _ O) H dU,aU fun _ _ H K=>R.ldE (K 56 _ O) (SC.sl (K 53 _ O)) (map_get! (l:=((allS l))[i]!.t.outs) bU) O O O O H,aU fun _ _ H K=>R.bslE (z:=1) (.cons (eU K 57 O) .nil) ⟨⟨O,O,O⟩,Zt⟩ O H dU,aU fun _ _ H K=>R.appE (Or.inr (K 47 _ O)) (K 6 _ O) (SrcO.sc (SC.sl (K 58 _ O)) (pur_lit O)) (show _ = ((thrI (allS l) i ++ thrK (allS l) i (k + 1)).map valP) from (thr_v (by simpa using hc42))) (by simp only [List.length_map,List.length_append,List.length_cons,List.length_nil]; omega) H dU dU,aU fun _ _ H K=>R.asgO (K 59 _ O) O H dU,Zt⟩ O O O O (tU O ?_)
       refine W.l0 3 [.y 27 _,.y 28 _,.y 8 _] [] [] [(4,_),(5,_),(6,_),(7,_),(8,_)] [] 62 ⟨mU 8 O O,aU fun _ _ H K=>R.addN (k) (1) (eU K 27 O) (kI 1 O) bU H,aU fun _ _ H K=>R.asg (eU K 28 O) O H,Zt⟩ O O O O (tU O ?_)
       exact ⟨⟨(k + 1),bU⟩,(by first | rfl | (rw [thrK_t (by simpa using hc42)] <;> rfl)),(by simp only []; omega)⟩
     · refine W.skip ?_
       refine W.dropS (live:=[4,5,6,7,8]) (env':=[(4,_),(5,_),(6,_),(7,_),(8,_)]) (bx':=[(9,.var _)]) (n':=62) O O O ?_
       refine W.dropB [] (bx':=[]) O O O (pin_sub hD O) ?_
       refine W.l0 3 [.y 27 _,.y 28 _,.y 8 _] [] [] [(4,_),(5,_),(6,_),(7,_),(8,_)] [] 62 ⟨mU 8 O O,aU fun _ _ H K=>R.addN (k) (1) (eU K 27 O) (kI 1 O) bU H,aU fun _ _ H K=>R.asg (eU K 28 O) O H,Zt⟩ O O O O (tU O ?_)
       exact ⟨⟨(k + 1),bU⟩,(by first | rfl | (rw [thrK_t (by simpa using hc42)] <;> rfl)),(by simp only []; omega)⟩
   · obtain rfl : k = (allS l)[i]!.t.outs.length:=by omega
     refine W.exit ?_
     refine W.l0 3 [.y 16 _,.y 17 _,.y 7 _] [] [] [(4,_),(5,_),(6,_),(7,_)] [] 62 ⟨mU 7 O O,aU fun _ _ H K=>R.addN (i) (1) (eU K 16 O) (kI 1 O) bU H,aU fun _ _ H K=>R.asg (eU K 17 O) O H,Zt⟩ O O O O (tU O ?_)
     exact ⟨⟨(i + 1),bU⟩,(by rw [thrI_succ] <;> rfl),(by simp only []; omega)⟩
 · obtain rfl : i = (allS l).length:=by omega
   refine W.exit (W.seq ?_)
   refine W.l0 4 [.y 60 _,.y 61 _,.y 2 _,.y 3 _] [(0,5),(1,6),(2,60),(3,61)] [(0,5),(1,6),(2,60),(3,61)] [(2,_),(3,_)] [] 62 ⟨aU fun _ _ H K=>R.movO (K 5 _ O) O H dU,aU fun _ _ H K=>R.movO (K 6 _ O) O H dU,aU fun _ _ H K=>R.asgO (K 60 _ O) O H dU,aU fun _ _ H K=>R.asgO (K 61 _ O) O H dU,Zt⟩ O O O O (tU O ?_)
   refine W.ret ?_
   exact Ends.many (.inr O) (.cons O O O Zt (.cons O O O Zt .nil)) (by rw [thrS]) (show [(2,true),(3,true)].Nodup by decide)
end Go.Sx

namespace Go.Sx
theorem keyS_len (k : UInt8) : (keyS k).length = 22:=by
 unfold keyS
 rw [List.length_append,List.length_take,sumR_len]
 rfl
structure TxS.sm (t : TxS) : Prop where
 ins : t.ins.length <= 8
 outs : t.outs.length <= 8
 hash : ∀ x ∈ t.ins,x.tx.length = 32
 scr : ∀ x ∈ t.ins,x.script.length <= 100
 oscr : ∀ x ∈ t.outs,x.script.length <= 100
 wit : ∀ x ∈ t.ins,x.wit.length <= 8
 witi : ∀ x ∈ t.ins,∀ b ∈ x.wit,b.length <= 100
theorem insS_sm {l : List InS} (h1 : ∀ x ∈ l,x.tx.length = 32) (h2 : ∀ x ∈ l,x.script.length <= 100) (i : Nat) (hi : i <= l.length) : (insS l i).length <= 200 * i:=by
 induction i with
 | zero=>exact Nat.le_refl _
 | succ i ih=>
  have:=ih (by omega)
  have h3:=h1 _ (get_mem (show i < l.length by omega))
  have h4:=h2 _ (get_mem (show i < l.length by omega))
  have h5:=itemS_len l[i]!.script
  simp only [insS,inS,List.length_append,lowI_len]
  omega
theorem outsS_sm {l : List OutS} (h2 : ∀ x ∈ l,x.script.length <= 100) (i : Nat) (hi : i <= l.length) : (outsS l i).length <= 200 * i:=by
 induction i with
 | zero=>exact Nat.le_refl _
 | succ i ih=>
  have:=ih (by omega)
  have h4:=h2 _ (get_mem (show i < l.length by omega))
  have h5:=itemS_len l[i]!.script
  simp only [outsS,outS',List.length_append,lowI_len]
  omega
theorem witS_sm {l : List (List UInt8)} (h2 : ∀ x ∈ l,x.length <= 100) (i : Nat) (hi : i <= l.length) : (witS l i).length <= 200 * i:=by
 induction i with
 | zero=>exact Nat.le_refl _
 | succ i ih=>
  have:=ih (by omega)
  have h4:=h2 _ (get_mem (show i < l.length by omega))
  have h5:=itemS_len l[i]!
  simp only [witS,List.length_append]
  omega
theorem witsS_sm {l : List InS} (h1 : ∀ x ∈ l,x.wit.length <= 8) (h2 : ∀ x ∈ l,∀ b ∈ x.wit,b.length <= 100) (i : Nat) (hi : i <= l.length) : (witsS l i).length <= 2000 * i:=by
 induction i with
 | zero=>exact Nat.le_refl _
 | succ i ih=>
  have:=ih (by omega)
  have hm:=get_mem (show i < l.length by omega)
  have h3:=h1 _ hm
  have h4:=witS_sm (h2 _ hm) _ (Nat.le_refl _)
  have h5:=countS_len l[i]!.wit.length
  simp only [witsS,List.length_append]
  omega
theorem TxS.sm.wf {t : TxS} (h : t.sm) : t.wf where
 ins:=Nat.le_trans h.ins (by decide)
 outs:=Nat.le_trans h.outs (by decide)
 hash:=h.hash
 scr:=fun x hx=>Nat.le_trans (h.scr x hx) (by decide)
 oscr:=fun x hx=>Nat.le_trans (h.oscr x hx) (by decide)
 insb:=fun i hi=>by
  have:=insS_sm h.hash h.scr i hi
  have:=h.ins
  omega
 outsb:=fun i hi=>by
  have:=outsS_sm h.oscr i hi
  have:=h.outs
  omega
 witsb:=fun i hi=>by
  have:=witsS_sm h.wit h.witi i hi
  have:=h.ins
  omega
 witl:=fun x hx=>⟨Nat.le_trans (h.wit x hx) (by decide),fun i hi=>by
  have:=witS_sm (h.witi x hx) i hi
  have:=h.wit x hx
  omega⟩
 witi:=fun x hx b hb=>Nat.le_trans (h.witi x hx b hb) (by decide)
theorem TxS.sm.le {t : TxS} (h : t.sm) : t.ins.length <= 1000 /\ t.outs.length <= 1000:=⟨Nat.le_trans h.ins (by decide),Nat.le_trans h.outs (by decide)⟩
theorem zero32_len : zero32.length = 32:=rfl
theorem mintT_sm (n : Nat) (x : PlS) (mark : UInt32) : (mintT n x mark).sm where
 ins:=(by decide : 1 <= 8)
 outs:=(by decide : 1 <= 8)
 hash:=fun y hy=>by rw [List.mem_singleton.1 hy]; exact zero32_len
 scr:=fun y hy=>by rw [List.mem_singleton.1 hy]; exact (by decide : 3 <= 100)
 oscr:=fun y hy=>by
  rw [List.mem_singleton.1 hy]
  show (keyS _).length <= 100
  rw [keyS_len]; decide
 wit:=fun y hy=>by rw [List.mem_singleton.1 hy]; exact (by decide : 0 <= 8)
 witi:=fun y hy b hb=>by rw [List.mem_singleton.1 hy] at hb; cases hb
theorem thrK_h {l : List StS} {i : Nat} (hi : l[i]!.id.length = 32) (k : Nat) : ∀ x ∈ thrK l i k,x.1.1.length = 32:=by
 induction k with
 | zero=>intro x hx; cases hx
 | succ k ih=>
  intro x hx
  rw [thrK] at hx
  split at hx
  · exact ih x hx
  · rcases List.mem_append.1 hx with h | h
    · exact ih x h
    · rw [List.mem_singleton.1 h]; exact hi
theorem thrI_h {l : List StS} (hl : allSt l) (i : Nat) (hi : i <= l.length) : ∀ x ∈ thrI l i,x.1.1.length = 32:=by
 induction i with
 | zero=>intro x hx; cases hx
 | succ i ih=>
  intro x hx
  rcases List.mem_append.1 hx with h | h
  · exact ih (by omega) x h
  · exact thrK_h (hl.get (by omega)).1 _ x h
theorem thrS_h {l : List BlkS} (hl : allBl l) : ∀ x ∈ thrS l,x.1.1.length = 32:=thrI_h (allS_wf hl) _ (Nat.le_refl _)
theorem thrS_len {l : List BlkS} (hl : allBl l) : (thrS l).length <= 100000000:=by
 have h1:=thrI_len (allS_wf hl) _ (Nat.le_refl _)
 have h2:=(allS_wf hl).1
 unfold thrS
 omega
theorem spIns_len (s : SpS) (av : List (Plc × UInt64)) : (spIns s av).length <= 2:=by
 unfold spIns
 dsimp only
 split
 · exact (by decide : 2 <= 2)
 · exact (by decide : 1 <= 2)
theorem spT_sm {s : SpS} {av : List (Plc × UInt64)} {mark : UInt32} (h0 : ¬ av.length = 0) (hav : ∀ x ∈ av,x.1.1.length = 32) : (spT s av mark).sm:=by
 have hk : s.from_.toNat % av.length < av.length:=Nat.mod_lt _ (by omega)
 have key : ∀ x ∈ spIns s av,x.tx.length = 32 /\ x.script.length <= 100 /\ x.wit.length <= 8 /\ ∀ b ∈ x.wit,b.length <= 100:=by
  intro x hx
  unfold spIns at hx
  dsimp only at hx
  split at hx
  · rename_i h2
    rcases List.mem_cons.1 hx with rfl | hx
    · exact ⟨hav _ (get_mem hk),Nat.zero_le _,Nat.zero_le _,fun b hb=>by cases hb⟩
    · rw [List.mem_singleton.1 hx]
      refine ⟨hav _ (get_mem h2.2),(by decide : 1 <= 100),(by decide : 2 <= 8),fun b hb=>?_⟩
      rcases List.mem_cons.1 hb with rfl | hb
      · exact (by decide : 1 <= 100)
      · rw [List.mem_singleton.1 hb]; exact Nat.zero_le _
  · rw [List.mem_singleton.1 hx]
    exact ⟨hav _ (get_mem hk),Nat.zero_le _,Nat.zero_le _,fun b hb=>by cases hb⟩
 refine { ins:=Nat.le_trans (spIns_len s av) (by decide),outs:=?_,hash:=fun x hx=>(key x hx).1,scr:=fun x hx=>(key x hx).2.1,oscr:=fun x hx=>?_,wit:=fun x hx=>(key x hx).2.2.1,witi:=fun x hx=>(key x hx).2.2.2 }
 · show (spOuts s (spSum s av) (min s.to.length 4)).length <= 8
   unfold spOuts
   rw [List.length_map,List.length_range]
   omega
 · obtain ⟨j,_,rfl⟩:=List.mem_map.1 hx
   show (keyS _).length <= 100
   rw [keyS_len]; decide
theorem spS_sm {s : SpS} {av : List (Plc × UInt64)} {mark : UInt32} (hav : ∀ x ∈ av,x.1.1.length = 32) (h : (spS s av mark).2 = true) : (spS s av mark).1.sm:=by
 unfold spS at h ⊢
 cases hn : spNo s av with
 | true=>rw [hn] at h; cases h
 | false=>
  refine spT_sm (fun h0=>?_) hav
  unfold spNo at hn
  rw [decide_eq_true h0] at hn
  cases hn
theorem blkI_ {txs : List TxS} {h : HdS} (hh : h.wf) (ht : ∀ t ∈ txs,t.sm) (hl : txs.length <= 1000) : BlkS.wf ⟨h,txs⟩ where
 hd:=hh
 txs:=fun t h=>(ht t h).wf
 sm:=fun t h=>(ht t h).le
 len:=hl
theorem zeroH_wf : zeroH.wf:=⟨zero32_len,zero32_len⟩
theorem allBl_one {l : List BlkS} {b : BlkS} (h : allBl l) (hl : l.length <= 99) (hb : b.wf) : allBl (l ++ [b]):=
 ⟨by rw [List.length_append,List.length_singleton]; omega,fun x hx=>by
  rcases List.mem_append.1 hx with h1 | h1
  · exact h.2 x h1
  · rw [List.mem_singleton.1 h1]; exact hb⟩
theorem grT_sm {l : List BlkS} (hl : allBl l) (h99 : l.length <= 99) (x : PlS) (mark : UInt32) (i : Nat) (hi : i <= 6) : (∀ t ∈ grT l x mark i,t.sm) /\ 1 <= (grT l x mark i).length /\ (grT l x mark i).length <= i + 1:=by
 induction i with
 | zero=>exact ⟨fun t ht=>by rw [grT,List.mem_singleton] at ht; rw [ht]; exact mintT_sm _ _ _,Nat.le_refl _,Nat.le_refl _⟩
 | succ i ih=>
  obtain ⟨h1,h2,h3⟩:=ih (by omega)
  have hb:=allBl_one hl h99 (blkI_ zeroH_wf h1 (by omega))
  rw [grT]
  split
  · rename_i h4
    refine ⟨fun t ht=>?_,by rw [List.length_append]; omega,by rw [List.length_append,List.length_singleton]; omega⟩
    rcases List.mem_append.1 ht with h5 | h5
    · exact h1 t h5
    · rw [List.mem_singleton.1 h5]; exact spS_sm (thrS_h hb) h4
  · exact ⟨h1,h2,by omega⟩
theorem grTx_sm {l : List BlkS} (hl : allBl l) (h99 : l.length <= 99) (x : PlS) (mark : UInt32) : (∀ t ∈ grTx l x mark,t.sm) /\ 1 <= (grTx l x mark).length /\ (grTx l x mark).length <= 7:=by
 obtain ⟨h1,h2,h3⟩:=grT_sm hl h99 x mark (min x.spends.length 6) (Nat.min_le_right _ _)
 exact ⟨h1,h2,by show (grT l x mark _).length <= 7; omega⟩
theorem rootS_len {J : Hs -> Hs -> Hs} (hJ : ∀ a b,(J a b).length = 32) {l : List Hs} (hl : allH l) : (rootS J l).length = 32:=by
 unfold rootS
 cases hk : nRows l.length with
 | zero=>exact zero32_len
 | succ k=>exact (rowA_all hJ hl k).get (rowA_pos J l k (by omega))
theorem ids_all (l : List TxS) : allH (l.map ridS):=fun h hh=>by
 obtain ⟨t,_,rfl⟩:=List.mem_map.1 hh
 exact ridS_len t
theorem grH_wf (l : List BlkS) (x : PlS) (mark : UInt32) : (grH l x mark).1.wf:=mineS_wf _ _ _ (rootS_len joinR_len (ids_all _))
theorem growS_wf {l : List BlkS} (hl : allBl l) (h99 : l.length <= 99) (x : PlS) (mark : UInt32) : (growS l x mark).1.wf:=by
 obtain ⟨h1,h2,h3⟩:=grTx_sm hl h99 x mark
 exact blkI_ (grH_wf l x mark) h1 (by omega)
theorem blkI_all (ps : List PlS) (i : Nat) (hi : i <= 14) : allBl (blkI ps i) /\ 1 <= (blkI ps i).length /\ (blkI ps i).length <= i + 1:=by
 induction i with
 | zero=>
  refine ⟨⟨(by decide : 1 <= 100),fun b hb=>?_⟩,Nat.le_refl _,Nat.le_refl _⟩
  rw [blkI,List.mem_singleton] at hb
  rw [hb]
  exact blkI_ ⟨rfl,rfl⟩ (fun t h=>by cases h) (Nat.zero_le _)
 | succ i ih=>
  obtain ⟨h1,h2,h3⟩:=ih (by omega)
  rw [blkI]
  split
  · refine ⟨allBl_one h1 (by omega) (growS_wf h1 (by omega) _ _),by rw [List.length_append]; omega,by rw [List.length_append,List.length_singleton]; omega⟩
  · exact ⟨h1,h2,by omega⟩
theorem blkS_all (ps : List PlS) : allBl (blkS ps) /\ 1 <= (blkS ps).length /\ (blkS ps).length <= 15:=by
 obtain ⟨h1,h2,h3⟩:=blkI_all ps (min ps.length 14) (Nat.min_le_right _ _)
 exact ⟨h1,h2,by show (blkI ps _).length <= 15; omega⟩
end Go.Sx

namespace Go.Sx
variable {P : Program} {C : Ctx} {σ σ' σ1 : Sg} {a : Act} {w w' : World} {ρ : Nat -> Nat} {Fe Fe' Fb : Nat -> List Nat}
theorem VR_u64 {G L : Nat -> Prop} {n : UInt64} {v : Value} {F : List Nat} (h : VR w ρ G L (.u64 n) v F) : v = .int .u64 n.toNat:=by
 simp only [VR,D.isAgg,Bool.false_eq_true,if_false] at h
 cases h
 rfl
theorem R.minU {x y : Operand} {t : Nat} {m n : UInt64} {ta tb rt : TypeId} {pos : String} {aft : Array Edge} {g : Option (Nat × Bool)} (hx : ev C.gl σ x = some (.u64 m)) (hy : ev C.gl σ y = some (.u64 n)) (ht : t < σ.n) :
 OpS P C ⟨some t,.call { callee:=.builtin .min,args:=#[x,y],argTypes:=#[ta,tb] },rt,pos,aft,g⟩ σ (σ.set t (.u64 (if n < m then n else m))):=by
 refine OpS.value fun a w ⟨ρ,Fe,Fb,st⟩=>?_
 obtain ⟨_,hvx,_⟩:=ev_ok st hx rfl
 obtain ⟨_,hvy,_⟩:=ev_ok st hy rfl
 have hvx:=VR_u64 hvx
 have hvy:=VR_u64 hvy
 refine ⟨.int .u64 (if n < m then n else m).toNat,w, ?_,st.put ht rfl (by simp only [VR,D.isAgg,Bool.false_eq_true,if_false]; exact .u64 _)⟩
 unfold execOp
 simp [hvx,hvy,resolve,invoke,builtin,Builtin.min_,Builtin.min2]
 by_cases h : n < m
 · rw [if_pos h,if_pos (UInt64.lt_iff_toNat_lt.1 h)]
 · rw [if_neg h,if_neg (fun h3=>h (UInt64.lt_iff_toNat_lt.2 h3))]
end Go.Sx

namespace Go.Sx
variable {P : Program} {C : Ctx} {σ σ' σ1 : Sg} {a : Act} {w w' : World} {ρ : Nat -> Nat} {Fe Fe' Fb : Nat -> List Nat}
theorem StW.takeX {S : List Nat} {t : Nat} {d : D} {v : Value} {F : List Nat} (h : StW C σ a w ρ Fe Fb) (ht : t < σ.n) (hst : t ∉ S) (hS : ∀ s ∈ S,∃ d0,σ.get s = some d0)
 (hw : Ext w w') (hF : F.Nodup) (hFs : ∀ b ∈ F,(∃ s ∈ S,b ∈ Fe s) ∨ w.heap.size <= b)
 (hv : SR w' ρ (gd C (upd (fun u=>if u ∈ S then [] else Fe u) t F) Fb) (fun id=>(σ.box id).isSome) (a.put (some t) v) t d F) :
 StW C ((killL σ S).set t d) (a.put (some t) v) w' ρ (upd (fun u=>if u ∈ S then [] else Fe u) t F) Fb:=by
 have hsz : t < a.tmps.size:=by rw [h.size]; exact ht
 let Fx : Nat -> List Nat:=upd (fun u=>if u ∈ S then [] else Fe u) t F
 have hFx : ∀ u,u ≠ t -> ∀ b ∈ Fx u,b ∈ Fe u /\ u ∉ S:=fun u hut b hb=>by
  simp only [Fx,upd_other hut] at hb
  by_cases hus : u ∈ S
  · simp [hus] at hb
  · simp only [hus,if_false] at hb; exact ⟨hb,hus⟩
 have hFt : Fx t = F:=by simp [Fx]
 have hlt:=h.lt
 have hh : ∀ b,b < w.heap.size -> w'.heap[b]? = w.heap[b]?:=hw.block
 have ho : ∀ b,own Fx Fb b -> own Fe Fb b ∨ w.heap.size <= b:=by
  rintro b (⟨u,hu⟩ | hid)
  · by_cases hut : u = t
    · subst hut; rw [hFt] at hu
      rcases hFs b hu with ⟨s,_,hs⟩ | hn
      · exact .inl (.inl ⟨s,hs⟩)
      · exact .inr hn
    · exact .inl (.inl ⟨u,(hFx u hut b hu).1⟩)
  · exact .inl (.inr hid)
 have hg : ∀ b,gd C Fe Fb b -> b < w.heap.size -> gd C Fx Fb b:=fun b hb hbl=>⟨hb.1,fun hc=>(ho b hc).elim hb.2 (fun h2=>by omega)⟩
 obtain ⟨hn,hbx⟩:=killL_n S σ
 have hbox : ∀ id,((killL σ S).set t d).box id = σ.box id:=fun id=>by
  show lk (killL σ S).bx id = _
  rw [hbx]; rfl
 have hLf : (fun id=>(((killL σ S).set t d).box id).isSome = true) = fun id=>(σ.box id).isSome = true:=by funext id; rw [hbox]
 have hnotF : ∀ u,u ≠ t -> ∀ b ∈ Fx u,b ∉ F:=fun u hut b hb hbF=>by
  obtain ⟨h1,h2⟩:=hFx u hut b hb
  rcases hFs b hbF with ⟨s,hs,h3⟩ | hn
  · exact h.dEE u s (fun e=>h2 (e ▸ hs)) b h1 h3
  · have:=hlt b (.inl ⟨u,h1⟩); omega
 refine {
  size:=?_
  defs:=h.defs
  pin:=fun id b hp=>by rw [hbox]; exact h.pin id b hp
  env:=fun u x hx=>?_
  envN:=fun u hu=>?_
  bx:=fun id x hx=>by rw [hLf]; exact (h.bx id x (by rw [<- hbox]; exact hx)).mono (fun b _ hb=>hh b hb) hg (fun i hi=>⟨hi,rfl⟩)
  bxN:=fun id hx=>h.bxN id (by rw [<- hbox]; exact hx)
  nodE:=fun u=>?_
  nodB:=h.nodB
  dEE:=fun u u' huu b hb hb'=>?_
  dEB:=fun u id b hb hb'=>?_
  dBB:=h.dBB
  new:=fun b hb=>?_
  kept:=fun b hb=>?_
  os:=hw.os.trans h.os
  tape:=hw.tape.trans h.tape
  output:=hw.output.trans h.output
  grown:=Nat.le_trans h.grown hw.size
  gl:=h.gl
  okN:=fun b hb=>h.okN b (Nat.le_trans hw.size hb)
  okO:=fun b hb=>(ho b hb).elim (h.okO b) (h.okN b) }
 · simp [Act.put,h.size,hn]
 · rw [hLf]
   rw [get_set] at hx
   by_cases hut : u = t
   · subst hut; simp at hx; subst hx
     simp only [upd_same]; exact hv
   · simp only [hut,if_false] at hx
     obtain ⟨d1,hd1,rfl⟩:=Option.map_eq_some_iff.1 hx
     rw [killL_get] at hd1
     by_cases hus : u ∈ S
     · simp only [hus,if_true,Option.some.injEq] at hd1
       subst hd1
       obtain ⟨d0,hd0⟩:=hS u hus
       obtain ⟨v0,hv0⟩:=(h.env u d0 hd0).there
       refine ⟨by simp [upd_other hut,hus],v0,by rw [put_get a t v u hsz]; simp [hut,hv0]⟩
     · simp only [hus,if_false] at hd1
       have hFu : upd (fun u=>if u ∈ S then [] else Fe u) t F u = Fe u:=by simp [upd_other hut,hus]
       rw [hFu]
       exact SR_other hut hsz (h.env u d1 hd1) (fun b _ hb=>hh b hb) hg (fun id hid=>⟨hid,rfl⟩) (fun id off v _ hc=>hw.cell hc)
 · rw [get_set] at hu
   by_cases hut : u = t
   · simp [hut] at hu
   · simp only [hut,if_false,Option.map_eq_none_iff] at hu
     rw [killL_get] at hu
     by_cases hus : u ∈ S
     · simp [hus] at hu
     · simp only [hus,if_false] at hu
       simp [upd_other hut,hus,h.envN u hu]
 · by_cases hut : u = t
   · subst hut; simpa using hF
   · simp only [upd_other hut]
     split
     · exact List.nodup_nil
     · exact h.nodE u
 · by_cases hut : u = t
   · subst hut
     have hb1 : b ∈ F:=by rw [<- hFt]; exact hb
     exact hnotF u' (fun e=>huu e.symm) b hb' hb1
   · by_cases hut' : u' = t
     · subst hut'
       have hb1 : b ∈ F:=by rw [<- hFt]; exact hb'
       exact hnotF u hut b hb hb1
     · exact h.dEE u u' huu b (hFx u hut b hb).1 (hFx u' hut' b hb').1
 · by_cases hut : u = t
   · subst hut
     have hb1 : b ∈ F:=by rw [<- hFt]; exact hb
     rcases hFs b hb1 with ⟨s,_,hs⟩ | hn
     · exact h.dEB s id b hs hb'
     · have:=hlt b (.inr ⟨id,hb'⟩); omega
   · exact h.dEB u id b (hFx u hut b hb).1 hb'
 · rcases ho b hb with h1 | h1
   · exact h.new b h1
   · intro hk
     have h2:=(h.kept b hk).2
     have h3:=h.grown
     omega
 · obtain ⟨h1,h2⟩:=h.kept b hb
   exact ⟨(hh b (Nat.lt_of_lt_of_le h2 h.grown)).trans h1,h2⟩
theorem fill_step {z i0 : Nat} {cs : Array Value} {v : Value} {xc : List Value} (hxc : v.cells.toList = xc) (hl : xc.length = z) (hk : i0 * z + z <= cs.size) :
 ∃ cs2 : Array Value,(∀ rest,Instr.fill (fun i=>some (i * z,z)) cs ((i0,v) :: rest) = Instr.fill (fun i=>some (i * z,z)) cs2 rest) /\ cs2.size = cs.size /\ (cs2.toList.drop (i0 * z)).take z = xc /\ cs2.toList.take (i0 * z) = cs.toList.take (i0 * z):=by
 have hsz : v.cells.size = z:=by rw [<- Array.length_toList,hxc,hl]
 have hfold:=foldl_set cs xc (i0 * z) 0 (by omega)
 simp only [Nat.add_zero] at hfold
 have hcs2 : (v.cells.zipIdx.foldl (fun (c : Array Value) (p : Value × Nat)=>c.setIfInBounds (i0 * z + p.2) p.1) cs).toList = cs.toList.take (i0 * z) ++ xc ++ cs.toList.drop (i0 * z + xc.length):=by
  rw [<- hfold,<- hxc,<- Array.foldl_toList]
  simp
 generalize hc2 : (v.cells.zipIdx.foldl (fun (c : Array Value) (p : Value × Nat)=>c.setIfInBounds (i0 * z + p.2) p.1) cs) = cs2 at hcs2
 refine ⟨cs2,fun rest=>?_, ?_, ?_, ?_⟩
 · simp only [Instr.fill]
   have hcond : ¬ (v.cells.size ≠ z ∨ i0 * z + v.cells.size > cs.size):=by rw [hsz]; simp; omega
   simp only [ne_eq,Bool.or_eq_true,decide_eq_true_eq]
   rw [if_neg (by simpa using hcond)]
   rw [hc2]
 · have:=congrArg List.length hcs2
   rw [splice_len _ _ _ (by simp; omega)] at this
   simpa using this
 · rw [hcs2,List.append_assoc,List.drop_left' (by simp; omega),List.take_append_of_le_length (by omega),List.take_of_length_le (by omega)]
 · rw [hcs2,List.append_assoc,List.take_left' (by simp; omega)]
inductive EvL (gl : List (Nat × D)) (σ : Sg) (z : Nat) : Nat -> List (Nat × Operand) -> List D -> List Nat -> Prop
 | nil {k : Nat} : EvL gl σ z k [] [] []
 | pur {k : Nat} {x : Operand} {d : D} {ps : List (Nat × Operand)} {ds : List D} {S : List Nat} (h : ev gl σ x = some d) (hp : d.pur = true) (hn : d.np = true) (hz : d.sz = z) (t : EvL gl σ z (k + 1) ps ds S) : EvL gl σ z k ((k,x) :: ps) (d :: ds) S
 | own {k s : Nat} {d : D} {ps : List (Nat × Operand)} {ds : List D} {S : List Nat} (h : σ.get s = some d) (hr : d.isRef = false) (hn : d.np = true) (hz : d.sz = z) (hs : S.contains s = false) (t : EvL gl σ z (k + 1) ps ds S) : EvL gl σ z k ((k,.tmp s) :: ps) (d :: ds) (s :: S)
theorem EvL.there {gl : List (Nat × D)} {z k : Nat} {ps : List (Nat × Operand)} {ds : List D} {S : List Nat} (h : EvL gl σ z k ps ds S) : ∀ s ∈ S,∃ d0,σ.get s = some d0:=by
 induction h with
 | nil=>intro s hs; cases hs
 | pur _ _ _ _ _ ih=>exact ih
 | own h _ _ _ _ _ ih=>
  intro s hs
  rcases List.mem_cons.1 hs with rfl | hs
  · exact ⟨_,h⟩
  · exact ih s hs
theorem EvL.fill (st : StW C σ a w ρ Fe Fb) {z k : Nat} {ps : List (Nat × Operand)} {ds : List D} {S : List Nat} (h : EvL C.gl σ z k ps ds S) :
 ∀ cs : Array Value,(k + ds.length) * z <= cs.size ->
  ∃ (out : Array Value) (Fs : Nat -> List Nat),Instr.fill (fun i=>some (i * z,z)) cs (ps.map (fun p=>(p.1,a.eval p.2))) = some out /\ out.size = cs.size /\ out.toList.take (k * z) = cs.toList.take (k * z) /\
   (∀ i (h : i < ds.length),Rc w ρ (gd C Fe Fb) (fun id=>(σ.box id).isSome = true) false ds[i] ((out.toList.drop ((k + i) * z)).take z) (Fs i)) /\
   (∀ i,i < ds.length -> (Fs i).Nodup /\ ∀ b ∈ Fs i,∃ s ∈ S,b ∈ Fe s) /\ (∀ i j,i < ds.length -> j < ds.length -> i ≠ j -> ∀ b,b ∈ Fs i -> b ∉ Fs j):=by
 have step : ∀ {k : Nat} {x : Operand} {d : D} {ps : List (Nat × Operand)} {ds : List D} {S : List Nat} {xc : List Value} {Fx : List Nat},(a.eval x).cells.toList = xc -> Rc w ρ (gd C Fe Fb) (fun id=>(σ.box id).isSome = true) false d xc Fx -> d.sz = z -> Fx.Nodup -> ∀ (T : List Nat),(∀ b ∈ Fx,∃ s ∈ T,b ∈ Fe s) -> (∀ s ∈ S,s ∈ T) -> (∀ b ∈ Fx,∀ s ∈ S,b ∉ Fe s) ->
  (∀ cs : Array Value,(k + 1 + ds.length) * z <= cs.size -> ∃ (out : Array Value) (Fs : Nat -> List Nat),Instr.fill (fun i=>some (i * z,z)) cs (ps.map (fun p=>(p.1,a.eval p.2))) = some out /\ out.size = cs.size /\ out.toList.take ((k + 1) * z) = cs.toList.take ((k + 1) * z) /\
   (∀ i (h : i < ds.length),Rc w ρ (gd C Fe Fb) (fun id=>(σ.box id).isSome = true) false ds[i] ((out.toList.drop ((k + 1 + i) * z)).take z) (Fs i)) /\
   (∀ i,i < ds.length -> (Fs i).Nodup /\ ∀ b ∈ Fs i,∃ s ∈ S,b ∈ Fe s) /\ (∀ i j,i < ds.length -> j < ds.length -> i ≠ j -> ∀ b,b ∈ Fs i -> b ∉ Fs j)) ->
  ∀ cs : Array Value,(k + (d :: ds).length) * z <= cs.size -> ∃ (out : Array Value) (Fs : Nat -> List Nat),Instr.fill (fun i=>some (i * z,z)) cs (((k,x) :: ps).map (fun p=>(p.1,a.eval p.2))) = some out /\ out.size = cs.size /\ out.toList.take (k * z) = cs.toList.take (k * z) /\
   (∀ i (h : i < (d :: ds).length),Rc w ρ (gd C Fe Fb) (fun id=>(σ.box id).isSome = true) false (d :: ds)[i] ((out.toList.drop ((k + i) * z)).take z) (Fs i)) /\
   (∀ i,i < (d :: ds).length -> (Fs i).Nodup /\ ∀ b ∈ Fs i,∃ s ∈ T,b ∈ Fe s) /\ (∀ i j,i < (d :: ds).length -> j < (d :: ds).length -> i ≠ j -> ∀ b,b ∈ Fs i -> b ∉ Fs j):=by
  intro k x d ps ds S xc Fx hxc hrc hz hnd T hFx hST hdis ih cs hs
  have hs1 : (k + 1 + ds.length) * z <= cs.size:=by
   rw [List.length_cons] at hs
   rw [show k + 1 + ds.length = k + (ds.length + 1) by omega]; exact hs
  have hkz : k * z + z <= cs.size:=by
   have:=Nat.le_trans (Nat.mul_le_mul_right z (show k + 1 <= k + 1 + ds.length by omega)) hs1
   rw [Nat.add_mul,Nat.one_mul] at this; exact this
  obtain ⟨cs2,e1,e2,e3,e4⟩:=fill_step (i0:=k) hxc (hrc.len.trans hz) hkz
  obtain ⟨out,Fs,q1,q2,q3,q4,q5,q6⟩:=ih cs2 (by rw [e2]; exact hs1)
  have hz1 : (k + 1) * z = k * z + z:=by rw [Nat.add_mul,Nat.one_mul]
  have hmid : (out.toList.drop (k * z)).take z = xc:=by
   have:=congrArg (List.drop (k * z)) q3
   rw [hz1,List.drop_take,List.drop_take,Nat.add_sub_cancel_left] at this
   rw [this]; exact e3
  have hpre : out.toList.take (k * z) = cs.toList.take (k * z):=by
   have:=congrArg (List.take (k * z)) q3
   rw [hz1,List.take_take,List.take_take,Nat.min_eq_left (by omega)] at this
   rw [this]; exact e4
  refine ⟨out,fun i=>match i with | 0=>Fx | i + 1=>Fs i, ?_,q2.trans e2,hpre, ?_, ?_, ?_⟩
  · rw [List.map_cons,e1]; exact q1
  · intro i hi
    cases i with
    | zero=>simp only [Nat.add_zero,List.getElem_cons_zero,hmid]; exact hrc
    | succ i=>
     simp only [List.getElem_cons_succ]
     have:=q4 i (by simpa using hi)
     rw [show k + 1 + i = k + (i + 1) by omega] at this
     exact this
  · intro i hi
    cases i with
    | zero=>exact ⟨hnd,hFx⟩
    | succ i=>
     obtain ⟨h1,h2⟩:=q5 i (by simpa using hi)
     exact ⟨h1,fun b hb=>by obtain ⟨s,hs,hb'⟩:=h2 b hb; exact ⟨s,hST s hs,hb'⟩⟩
  · intro i j hi hj hij b hb
    cases i with
    | zero=>cases j with
     | zero=>exact absurd rfl hij
     | succ j=>
      intro hb'
      obtain ⟨s,hs,h3⟩:=(q5 j (by simpa using hj)).2 b hb'
      exact hdis b hb s hs h3
    | succ i=>cases j with
     | zero=>
      intro hb'
      obtain ⟨s,hs,h3⟩:=(q5 i (by simpa using hi)).2 b hb
      exact hdis b hb' s hs h3
     | succ j=>exact q6 i j (by simpa using hi) (by simpa using hj) (by omega) b hb
 induction h with
 | nil=>intro cs _; exact ⟨cs,fun _=>[],rfl,rfl,rfl,fun i hi=>by simp at hi,fun i hi=>by simp at hi,fun i j hi=>by simp at hi⟩
 | @pur k x d ps ds S h hp hn hz t ih=>
  obtain ⟨xc,hxc,hrc⟩:=ev_cells st h hp
  exact step hxc (hrc.unflag hn) hz List.nodup_nil S (by simp) (fun s hs=>hs) (by simp) ih
 | @own k s d ps ds S h hr hn hz hs t ih=>
  obtain ⟨v,hv,hvr⟩:=(SR_plain hr).1 (st.env _ _ h)
  have hdead : d ≠ .dead:=by rintro rfl; simp [D.isRef] at hr
  have hrc:=(hvr.cells hdead).unflag hn
  have hs' : s ∉ S:=by intro hm; rw [List.contains_iff_mem.2 hm] at hs; cases hs
  exact step (x:=.tmp s) (by rw [eval_tmp hv]) hrc hz (st.nodE s) (s :: S) (fun b hb=>⟨s,by simp,hb⟩) (fun s' h'=>List.mem_cons_of_mem _ h') (fun b hb s' h'=>st.dEE s s' (fun e=>hs' (e ▸ h')) b hb) ih
theorem R.bslO {t e z bytes k : Nat} {ps : List (Nat × Operand)} {ds : List D} {S : List Nat} {ty rt : TypeId} {pos : String} {aft : Array Edge} {g : Option (Nat × Bool)} [hT : SlT P ty e] [hE : ElT P e z bytes]
 (hps : EvL C.gl σ z 0 ps ds S) (hk : ds.length = k) (hS : S.contains t = false) (ht : t < σ.n) (hsm : k * z <= 16777216) :
 OpS P C ⟨some t,.buildSlice ty k ps.toArray,rt,pos,aft,g⟩ σ ((killL σ S).set t (.sl (some e) z ds)):=by
 refine OpS.value fun a w ⟨ρ,Fe,Fb,st⟩=>?_
 obtain ⟨i,zv,hi,hsz,hby,hz,hzs,hpos,hone⟩:=hE.i
 subst hk
 have htS : t ∉ S:=by intro hm; rw [List.contains_iff_mem.2 hm] at hS; cases hS
 obtain ⟨out,Fs,q1,q2,_,q4,q5,q6⟩:=hps.fill st ((Array.range (ds.length * z)).map (zv.cells[· % zv.cells.size]!)) (by simp)
 simp only [Nat.zero_add] at q4
 have hml : ds.length <= maxLen:=by
  have : ds.length * 1 <= ds.length * z:=Nat.mul_le_mul_left _ hpos
  simp only [maxLen]; omega
 have hos : out.size = ds.length * z:=by rw [q2]; simp
 let F : List Nat:=w.heap.size :: (List.range ds.length).flatMap Fs
 have hin : ∀ b ∈ (List.range ds.length).flatMap Fs,∃ s ∈ S,b ∈ Fe s:=fun b hb=>by
  obtain ⟨j,hj,hx⟩:=List.mem_flatMap.1 hb
  exact (q5 j (List.mem_range.1 hj)).2 b hx
 have hlt:=st.lt
 have hF : F.Nodup:=by
  refine List.nodup_cons.2 ⟨fun hm=>?_,flat_nodup_mk (fun j hj=>(q5 j hj).1) (fun i j hi hj hij=>q6 i j hi hj hij)⟩
  obtain ⟨s,_,h2⟩:=hin _ hm
  have:=hlt _ (.inl ⟨s,h2⟩)
  omega
 have hFs : ∀ b ∈ F,(∃ s ∈ S,b ∈ Fe s) ∨ w.heap.size <= b:=fun b hb=>by
  rcases List.mem_cons.1 hb with rfl | hb
  · exact .inr (Nat.le_refl _)
  · exact .inl (hin b hb)
 have hgd : ∀ b,gd C Fe Fb b -> b < w.heap.size -> gd C (upd (fun u=>if u ∈ S then [] else Fe u) t F) Fb b:=fun b hb hbl=>⟨hb.1,fun hc=>hb.2 (by
  rcases hc with ⟨u,hu⟩ | hid
  · by_cases hut : u = t
    · subst hut
      rw [upd_same] at hu
      rcases hFs b hu with ⟨s,_,hs⟩ | hn
      · exact .inl ⟨s,hs⟩
      · omega
    · rw [upd_other hut] at hu
      by_cases hus : u ∈ S
      · simp [hus] at hu
      · simp only [hus,if_false] at hu; exact .inl ⟨u,hu⟩
  · exact .inr hid)⟩
 refine ⟨.slice (some ⟨w.heap.size,0,none⟩) ds.length ds.length,w.alloc (.cells out e), ?_,ρ,_,Fb,st.takeX ht htS hps.there (Ext.alloc w _) hF hFs ((SR_plain rfl).2 ⟨.slice (some ⟨w.heap.size,0,none⟩) ds.length ds.length,by rw [put_get a t _ t (by rw [st.size]; exact ht)]; simp, ?_⟩)⟩
 · unfold execOp
   have hps2 : (ps.toArray.map fun x=>(x.1,a.eval x.2)).toList = ps.map (fun p=>(p.1,a.eval p.2)):=by simp
   by_cases h0 : ds.length * z = 0
   · have q1':=q1
     simp only [h0] at q1'
     have e0 : (Array.range 0).map (fun x=>zv.cells[x % zv.cells.size]!) = (#[] : Array Value):=by simp [Array.range_zero']
     rw [e0] at q1'
     have e1 : Array.range 0 = #[]:=rfl
     simp [Instr.buildSlice,run_underlying hT.u,ElT.size (P:=P) (e:=e),h0,hps2,e1,q1',newRow,newObj,Sem.run]
   · simp [Instr.buildSlice,run_underlying hT.u,ElT.size (P:=P) (e:=e),h0,hps2,q1,newRow,newObj,Sem.run,zeroValue,typeInfo,hi,hz,show ¬ (16777216 < ds.length * z) by omega]
 · simp only [VR,D.isAgg,Bool.false_eq_true,if_false]
   have hcell : ∀ u ∈ out.toList,u.oneCell' = true:=by
    intro u hu
    obtain ⟨j,hj,rfl⟩:=List.mem_iff_getElem.1 hu
    have hj1 : j < ds.length * z:=by simpa [hos] using hj
    have hjz : j / z < ds.length:=Nat.div_lt_of_lt_mul (by rw [Nat.mul_comm]; exact hj1)
    have hdm:=Nat.div_add_mod j z
    have hmod:=Nat.mod_lt j hpos
    rw [Nat.mul_comm] at hdm
    refine (q4 (j / z) hjz).one _ (List.mem_iff_getElem?.2 ⟨j % z, ?_⟩)
    rw [List.getElem?_take,if_pos hmod,List.getElem?_drop,hdm,List.getElem?_eq_getElem hj]
   exact .slO w.heap.size out e ds.length z ds Fs (heap_alloc_new w _) (Nat.le_refl _) hml hos hcell (fun i hi=>(q4 i hi).mono (fun b hb hbl=>heap_alloc_old w _ hbl) hgd (fun id hid=>⟨hid,rfl⟩))
end Go.Sx

namespace Go.Sx
variable {pos : String} {aft : Array Edge} {g : Option (Nat × Bool)}
variable {P : Program} {C : Ctx} {σ σ' σ1 : Sg} {a : Act} {w w' : World} {ρ : Nat -> Nat} {Fe Fe' Fb : Nat -> List Nat}
theorem StW.takeY {S : List Nat} {t : Nat} {d : D} {v : Value} {F : List Nat} (h : StW C σ a w ρ Fe Fb) (ht : t < σ.n) (hst : t ∉ S) (hS : ∀ s ∈ S,∃ d0,σ.get s = some d0)
 (hos : w'.os = w.os) (htape : w'.tape = w.tape) (hout : w'.output = w.output) (hsize : w.heap.size <= w'.heap.size)
 (hblk : ∀ b,b < w.heap.size -> (∀ s ∈ S,b ∉ Fe s) -> w'.heap[b]? = w.heap[b]?) (hF : F.Nodup) (hFs : ∀ b ∈ F,(∃ s ∈ S,b ∈ Fe s) ∨ w.heap.size <= b)
 (hv : SR w' ρ (gd C (upd (fun u=>if u ∈ S then [] else Fe u) t F) Fb) (fun id=>(σ.box id).isSome) (a.put (some t) v) t d F) :
 StW C ((killL σ S).set t d) (a.put (some t) v) w' ρ (upd (fun u=>if u ∈ S then [] else Fe u) t F) Fb:=by
 have hsz : t < a.tmps.size:=by rw [h.size]; exact ht
 let Fx : Nat -> List Nat:=upd (fun u=>if u ∈ S then [] else Fe u) t F
 have hFx : ∀ u,u ≠ t -> ∀ b ∈ Fx u,b ∈ Fe u /\ u ∉ S:=fun u hut b hb=>by
  simp only [Fx,upd_other hut] at hb
  by_cases hus : u ∈ S
  · simp [hus] at hb
  · simp only [hus,if_false] at hb; exact ⟨hb,hus⟩
 have hFt : Fx t = F:=by simp [Fx]
 have hlt:=h.lt
 have hh : ∀ b,gd C Fe Fb b -> b < w.heap.size -> w'.heap[b]? = w.heap[b]?:=fun b hb hl=>hblk b hl (fun s _ hm=>hb.2 (.inl ⟨s,hm⟩))
 have hcc : ∀ id off v,(σ.box id).isSome = true -> w.cell? ⟨ρ id,off,none⟩ = some v -> w'.cell? ⟨ρ id,off,none⟩ = some v:=by
  intro id off v hid hc
  have hl:=block_lt_of_cell hc
  rw [<- hc]
  refine World.cell?_of_block (hblk _ hl ?_)
  intro s _ hm
  cases hb : σ.box id with
  | none=>simp [hb] at hid
  | some x=>exact h.dEB s id _ hm (h.bx id x hb).mem
 have ho : ∀ b,own Fx Fb b -> own Fe Fb b ∨ w.heap.size <= b:=by
  rintro b (⟨u,hu⟩ | hid)
  · by_cases hut : u = t
    · subst hut; rw [hFt] at hu
      rcases hFs b hu with ⟨s,_,hs⟩ | hn
      · exact .inl (.inl ⟨s,hs⟩)
      · exact .inr hn
    · exact .inl (.inl ⟨u,(hFx u hut b hu).1⟩)
  · exact .inl (.inr hid)
 have hg : ∀ b,gd C Fe Fb b -> b < w.heap.size -> gd C Fx Fb b:=fun b hb hbl=>⟨hb.1,fun hc=>(ho b hc).elim hb.2 (fun h2=>by omega)⟩
 obtain ⟨hn,hbx⟩:=killL_n S σ
 have hbox : ∀ id,((killL σ S).set t d).box id = σ.box id:=fun id=>by
  show lk (killL σ S).bx id = _
  rw [hbx]; rfl
 have hLf : (fun id=>(((killL σ S).set t d).box id).isSome = true) = fun id=>(σ.box id).isSome = true:=by funext id; rw [hbox]
 have hnotF : ∀ u,u ≠ t -> ∀ b ∈ Fx u,b ∉ F:=fun u hut b hb hbF=>by
  obtain ⟨h1,h2⟩:=hFx u hut b hb
  rcases hFs b hbF with ⟨s,hs,h3⟩ | hn
  · exact h.dEE u s (fun e=>h2 (e ▸ hs)) b h1 h3
  · have:=hlt b (.inl ⟨u,h1⟩); omega
 refine {
  size:=?_
  defs:=h.defs
  pin:=fun id b hp=>by rw [hbox]; exact h.pin id b hp
  env:=fun u x hx=>?_
  envN:=fun u hu=>?_
  bx:=fun id x hx=>by rw [hLf]; exact (h.bx id x (by rw [<- hbox]; exact hx)).mono (fun b hb hl=>hb.elim (fun hb=>hh b hb hl) (fun hb=>hblk b hl (fun s _ hm=>h.dEB s id b hm hb))) hg (fun i hi=>⟨hi,rfl⟩)
  bxN:=fun id hx=>h.bxN id (by rw [<- hbox]; exact hx)
  nodE:=fun u=>?_
  nodB:=h.nodB
  dEE:=fun u u' huu b hb hb'=>?_
  dEB:=fun u id b hb hb'=>?_
  dBB:=h.dBB
  new:=fun b hb=>?_
  kept:=fun b hb=>?_
  os:=hos.trans h.os
  tape:=htape.trans h.tape
  output:=hout.trans h.output
  grown:=Nat.le_trans h.grown hsize
  gl:=h.gl
  okN:=fun b hb=>h.okN b (Nat.le_trans hsize hb)
  okO:=fun b hb=>(ho b hb).elim (h.okO b) (h.okN b) }
 · simp [Act.put,h.size,hn]
 · rw [hLf]
   rw [get_set] at hx
   by_cases hut : u = t
   · subst hut; simp at hx; subst hx
     simp only [upd_same]; exact hv
   · simp only [hut,if_false] at hx
     obtain ⟨d1,hd1,rfl⟩:=Option.map_eq_some_iff.1 hx
     rw [killL_get] at hd1
     by_cases hus : u ∈ S
     · simp only [hus,if_true,Option.some.injEq] at hd1
       subst hd1
       obtain ⟨d0,hd0⟩:=hS u hus
       obtain ⟨v0,hv0⟩:=(h.env u d0 hd0).there
       refine ⟨by simp [upd_other hut,hus],v0,by rw [put_get a t v u hsz]; simp [hut,hv0]⟩
     · simp only [hus,if_false] at hd1
       have hFu : upd (fun u=>if u ∈ S then [] else Fe u) t F u = Fe u:=by simp [upd_other hut,hus]
       rw [hFu]
       exact SR_other hut hsz (h.env u d1 hd1) (fun b hb hl=>hb.elim (fun hb=>hh b hb hl) (fun hb=>hblk b hl (fun s hs hm=>h.dEE u s (fun e=>hus (e ▸ hs)) b hb hm))) hg (fun id hid=>⟨hid,rfl⟩) hcc
 · rw [get_set] at hu
   by_cases hut : u = t
   · simp [hut] at hu
   · simp only [hut,if_false,Option.map_eq_none_iff] at hu
     rw [killL_get] at hu
     by_cases hus : u ∈ S
     · simp [hus] at hu
     · simp only [hus,if_false] at hu
       simp [upd_other hut,hus,h.envN u hu]
 · by_cases hut : u = t
   · subst hut; simpa using hF
   · simp only [upd_other hut]
     split
     · exact List.nodup_nil
     · exact h.nodE u
 · by_cases hut : u = t
   · subst hut
     have hb1 : b ∈ F:=by rw [<- hFt]; exact hb
     exact hnotF u' (fun e=>huu e.symm) b hb' hb1
   · by_cases hut' : u' = t
     · subst hut'
       have hb1 : b ∈ F:=by rw [<- hFt]; exact hb'
       exact hnotF u hut b hb hb1
     · exact h.dEE u u' huu b (hFx u hut b hb).1 (hFx u' hut' b hb').1
 · by_cases hut : u = t
   · subst hut
     have hb1 : b ∈ F:=by rw [<- hFt]; exact hb
     rcases hFs b hb1 with ⟨s,_,hs⟩ | hn
     · exact h.dEB s id b hs hb'
     · have:=hlt b (.inr ⟨id,hb'⟩); omega
   · exact h.dEB u id b (hFx u hut b hb).1 hb'
 · rcases ho b hb with h1 | h1
   · exact h.new b h1
   · intro hk
     have h2:=(h.kept b hk).2
     have h3:=h.grown
     omega
 · obtain ⟨h1,h2⟩:=h.kept b hb
   exact ⟨(hblk b (Nat.lt_of_lt_of_le h2 h.grown) (fun s _ hm=>h.new b (.inl ⟨s,hm⟩) hb)).trans h1,h2⟩
theorem src_own {G L : Nat -> Prop} {e z : Nat} {l : List D} {v : Value} {F : List Nat} (h : Rc w ρ G L true (.sl (some e) z l) [v] F) (hF : F.Nodup) :
 ∃ (base : Option Addr) (cap : Nat) (news : List Value) (Fs2 : Nat -> List Nat),v = .slice base l.length cap /\ ((base = none /\ l = [] /\ cap = 0) ∨ ∃ a,base = some a /\ ∀ j u,news[j]? = some u -> w.cell? (a.add j) = some u) /\ news.length = l.length * z /\ (∀ u ∈ news,u.oneCell' = true) /\
  (∀ j (h : j < l.length),Rc w ρ G L false l[j] ((news.drop (j * z)).take z) (Fs2 j)) /\ ((List.range l.length).flatMap Fs2).Nodup /\ ∀ b ∈ (List.range l.length).flatMap Fs2,b ∈ F:=by
 generalize hv : [v] = cv at h
 cases h with
 | slN=>cases hv; exact ⟨none,0,[],fun _=>[],rfl,.inl ⟨rfl,rfl,rfl⟩,by simp,by simp,fun j hj=>by simp at hj,by simp,by simp⟩
 | slE _ _ a=>cases hv; exact ⟨some a,0,[],fun _=>[],rfl,.inr ⟨a,rfl,by simp⟩,by simp,by simp,fun j hj=>by simp at hj,by simp,by simp⟩
 | slO b cs e cap z l Fs hb hc hm hs ho hr=>
  cases hv
  have hsz : l.length * z <= cs.size:=by rw [hs]; exact Nat.mul_le_mul_right z hc
  have hl : (cs.toList.take (l.length * z)).length = l.length * z:=by simp; omega
  refine ⟨some ⟨b,0,none⟩,cap,cs.toList.take (l.length * z),Fs,rfl,.inr ⟨_,rfl,fun j u hu=>?_⟩,hl,fun u hu=>ho u (List.mem_of_mem_take hu),fun j hj=>?_,(List.nodup_cons.1 hF).2,fun b' hb'=>List.mem_cons_of_mem _ hb'⟩
  · rw [add_lit,cell_of_row w b _ cs e _ hb]
    rw [List.getElem?_take] at hu
    split at hu
    · simpa using hu
    · cases hu
  · have h1 : j * z + z <= l.length * z:=by
     have:=Nat.mul_le_mul_right z (show j + 1 <= l.length by omega)
     rw [Nat.add_mul] at this; omega
    have h2 : ((cs.toList.take (l.length * z)).drop (j * z)).take z = (cs.toList.drop (j * z)).take z:=by
     rw [List.drop_take,List.take_take,Nat.min_eq_left (by omega)]
    rw [h2]
    exact hr j hj
theorem R.appO2 {s s0 s1 t e e1 z bytes : Nat} {l l' l2 : List D} {ty rt : TypeId} [hT : SlT P ty e] [hE : ElT P e z bytes]
 (ho : ownr σ s s0) (hs : σ.get s0 = some (.sl (some e) z l)) (hs1 : σ.get s1 = some (.sl (some e1) z l')) (hne : Nat.beq s0 s1 = false) (he : l ++ l' = l2) (hn : l.length + l'.length <= 1073741824) (ht : t < σ.n) (hst : [s0,s1].contains t = false) (hby : bytes <= 131072) :
 OpS P C ⟨some t,.call { callee:=.builtin .append,args:=#[.tmp s,.tmp s1],argTypes:=#[ty,ty] },rt,pos,aft,g⟩ σ ((killL σ [s0,s1]).set t (.sl (some e) z l2)):=by
 subst he
 have hne' : s0 ≠ s1:=fun e=>by rw [e] at hne; simp at hne
 have htS : t ∉ [s0,s1]:=by intro hm; rw [List.contains_iff_mem.2 hm] at hst; cases hst
 refine OpS.value fun a w ⟨ρ,Fe,Fb,st⟩=>?_
 obtain ⟨v,hv,hv0,hr⟩:=ownr_val st ho hs
 obtain ⟨v1,hv1,_,hr1⟩:=ownr_val st (.inl rfl) hs1
 obtain ⟨base,cap,news,Fs2,rfl,q1,q2,q3,q4,q5,q6⟩:=src_own hr1 (st.nodE s1)
 obtain ⟨f1,f2⟩:=fits hby hn
 obtain ⟨v',w',F',hrun,ht',hnd,hsub,hres⟩:=app_run (P:=P) (t:=ty) (e:=e) (bytes:=bytes) (ty:=rt) (Fs2:=Fs2) hr (.inr rfl) (st.nodE s0) q1 q2 q3 q4 q5 (fun b hb hb'=>st.dEE s1 s0 (fun e=>hne' e.symm) b (q6 b hb) hb') (fun b hb hm=>hb.2 (.inl ⟨s0,hm⟩)) f1 f2
 have hFs : ∀ b ∈ F',(∃ s ∈ [s0,s1],b ∈ Fe s) ∨ w.heap.size <= b:=fun b hb=>by
  rcases hsub b hb with h | h | h
  · exact .inl ⟨s0,by simp,h⟩
  · exact .inl ⟨s1,by simp,q6 b h⟩
  · exact .inr h
 have hthere : ∀ u ∈ [s0,s1],∃ d0,σ.get u = some d0:=fun u hu=>by
  rcases List.mem_cons.1 hu with rfl | hu
  · exact ⟨_,hs⟩
  · rw [List.mem_singleton.1 hu]; exact ⟨_,hs1⟩
 refine ⟨v',w', ?_,ρ,_,Fb,st.takeY ht htS hthere ht'.os ht'.tape ht'.output ht'.size (fun b hb hnb=>ht'.blk b hb (hnb s0 (by simp))) hnd hFs ((SR_plain rfl).2 ⟨v',by rw [put_get a t _ t (by rw [st.size]; exact ht)]; simp, ?_⟩)⟩
 · unfold execOp
   simp [resolve,invoke,builtin,eval_tmp hv,eval_tmp hv1,hrun]
 · simp only [VR,D.isAgg,Bool.false_eq_true,if_false]
   refine hres _ (fun b hb hl=>⟨hb.1,fun hc=>?_⟩)
   rcases hc with ⟨u,hu⟩ | hid
   · by_cases hut : u = t
     · subst hut
       rw [upd_same] at hu
       rcases hFs b hu with ⟨s',_,h⟩ | h
       · exact hb.2 (.inl ⟨s',h⟩)
       · omega
     · rw [upd_other hut] at hu
       by_cases hus : u ∈ [s0,s1]
       · simp only [hus,if_true] at hu; cases hu
       · simp only [hus,if_false] at hu; exact hb.2 (.inl ⟨u,hu⟩)
   · exact hb.2 (.inr hid)
theorem R.appBP2 {s s1 id off t e e1 z bytes : Nat} {path : List Nat} {d0 d0' : D} {l l' l2 : List D} {ty rt : TypeId} [hT : SlT P ty e] [hE : ElT P e z bytes]
 (h : σ.get s = some (.alb id off path)) (hb : σ.box id = some (.var d0)) (hl : d0.loc path = some (off,.sl (some e) z l)) (hna : d0.noArr path = true) (hu : d0.upd path .dead = some d0')
 {τ : Sg} (hτ : (σ.putB id (.var d0')).upd s (.sl (some e) z l) = τ) (hs : τ.get s = some (.sl (some e) z l)) (hs1 : τ.get s1 = some (.sl (some e1) z l')) (hne : Nat.beq s s1 = false)
 (he : l ++ l' = l2) (hn : l.length + l'.length <= 1073741824) (ht : t < σ.n) (hst : [s,s1].contains t = false) (hby : bytes <= 131072) :
 OpS P C ⟨some t,.call { callee:=.builtin .append,args:=#[.tmp s,.tmp s1],argTypes:=#[ty,ty] },rt,pos,aft,g⟩ σ ((killL τ [s,s1]).set t (.sl (some e) z l2)):=by
 subst hτ
 exact OpS.pre (fun a w hs=>St.takeP h hb hl hna hu hs) (R.appO2 (.inl rfl) hs hs1 hne he hn ht hst hby)
end Go.Sx

namespace Go.Sx
variable {pos : String} {aft : Array Edge} {g : Option (Nat × Bool)}
variable {P : Program} {C : Ctx} {Q : Exit -> Sg -> Prop} {σ σ' σ1 : Sg} {a : Act} {w w' : World} {ρ : Nat -> Nat} {Fe Fe' Fb : Nat -> List Nat} {ops : Array Oper}
def dsts : List Oper -> List Nat
 | []=>[]
 | o :: r=>match o.dst with
  | some t=>t :: dsts r
  | none=>dsts r
theorem put_frame {a : Act} {d : Option Nat} {v : Value} {t : Nat} (h : d ≠ some t) : (a.put d v).tmps[t]? = a.tmps[t]?:=by
 cases d with
 | none=>rfl
 | some u=>
  have hne : u ≠ t:=fun e=>h (e ▸ rfl)
  simp [Act.put,Array.getElem?_setIfInBounds,hne]
theorem letsOut_mono {Q Q' : Exit -> Act -> World -> Prop} (h : LetsOut Q) (hq : ∀ e a w,e ≠ .normal -> Q e a w -> Q' e a w) : LetsOut Q':=by
 obtain ⟨a,w,h⟩:=h
 exact ⟨a,w,hq _ _ _ (by simp) h⟩
theorem uponIn_mono {F : Fence} {n : Nat} {o : Oper} {a : Act} {K K' : Act -> World -> Prop} {Q Q' : Exit -> Act -> World -> Prop} {r : Result Next}
 (hk : ∀ (b : Act) (w : World) (v : Value),b.tmps = a.tmps -> K (b.put o.dst v) w -> K' (b.put o.dst v) w) (hq : ∀ e a w,e ≠ .normal -> Q e a w -> Q' e a w)
 (h : o.uponIn F n P a K Q r) : o.uponIn F n P a K' Q' r:=by
 cases r with
 | ok nx w'=>
  cases nx with
  | value v=>exact hk _ _ _ rfl h
  | skip=>exact hk _ _ _ rfl h
  | «defer» d=>exact hk { a with defers:=d :: a.defers } _ _ rfl h
  | enter f args=>
   refine ⟨h.1,h.2.mono fun e w'' hx=>?_⟩
   cases e with
   | returned v=>exact hk _ _ _ rfl hx
   | panicked ch=>exact hq _ _ _ (by simp) hx
   | outgrown=>exact letsOut_mono hx hq
  | row r args=>exact ⟨h.1,h.2.mono fun v w'' hx=>hk _ _ _ rfl hx⟩
  | round l f tmps assign body=>
   refine ⟨h.1,h.2.mono fun e w'' hx=>?_⟩
   cases e with
   | returned v=>exact hk _ _ _ rfl hx
   | panicked ch=>exact hq _ _ _ (by simp) hx
   | outgrown=>exact letsOut_mono hx hq
  | _=>exact h
 | halt x w'=>
  cases x with
  | panic v=>exact hq _ _ _ (by simp) h
  | _=>exact h
theorem wpListIn_split {F : Fence} {n : Nat} {Q Q1 : Exit -> Act -> World -> Prop} {l2 : List Oper} : ∀ (l1 : List Oper) (a : Act) (w : World),wpListIn F n P ops Q1 l1 a w ->
 (∀ e a w,e ≠ .normal -> Q1 e a w -> Q e a w) -> (∀ a' w',Q1 .normal a' w' -> (∀ t,t ∉ dsts l1 -> a'.tmps[t]? = a.tmps[t]?) -> wpListIn F n P ops Q l2 a' w') -> wpListIn F n P ops Q (l1 ++ l2) a w:=by
 intro l1
 induction l1 with
 | nil=>intro a w h _ k; exact k a w h (fun _ _=>rfl)
 | cons o l ih=>
  intro a w h hq k
  have hstep : ∀ (b : Act) (w1 : World) (v : Value),b.tmps = a.tmps -> wpListIn F n P ops Q1 l (b.put o.dst v) w1 -> wpListIn F n P ops Q (l ++ l2) (b.put o.dst v) w1:=by
   intro b w1 v hb hx
   refine ih _ _ hx hq (fun a' w' h1 h2=>k a' w' h1 fun t ht=>?_)
   have hne : o.dst ≠ some t:=by
    intro e
    apply ht
    simp [dsts,e]
   have hnl : t ∉ dsts l:=by
    intro hm
    apply ht
    unfold dsts
    split
    · exact List.mem_cons_of_mem _ hm
    · exact hm
   rw [h2 t hnl,put_frame hne,hb]
  simp only [List.cons_append,wpListIn] at h ⊢
  split
  · rename_i hw
    simp only [hw,if_true] at h
    exact ⟨h.1,uponIn_mono hstep hq h.2⟩
  · rename_i hw
    simp only [hw,if_false,Bool.false_eq_true] at h
    exact ⟨h.1,hstep a w undef rfl h.2⟩
inductive BorE (gl : List (Nat × D)) (σ : Sg) : List (Nat × D) -> Prop
 | nil : BorE gl σ []
 | cons {t : Nat} {d : D} {r : List (Nat × D)} (h : Bor gl σ (.tmp t) d) (hr : d.isRef = false) (k : BorE gl σ r) : BorE gl σ ((t,d) :: r)
theorem BorE.get {gl : List (Nat × D)} {l : List (Nat × D)} (h : BorE gl σ l) {t : Nat} {d : D} (ht : lk l t = some d) : Bor gl σ (.tmp t) d /\ d.isRef = false:=by
 induction h with
 | nil=>cases ht
 | @cons t' d' r h hr k ih=>
  rw [lk_cons] at ht
  by_cases e : t' = t
  · subst e; simp only [if_true,Option.some.injEq] at ht; subst ht; exact ⟨h,hr⟩
  · simp only [e,if_false] at ht; exact ih ht
theorem Bor.there (st : StW C σ a w ρ Fe Fb) {t : Nat} {d : D} (h : Bor C.gl σ (.tmp t) d) : ∃ v,a.tmps[t]? = some v:=by
 have key : ∀ d0,σ.get t = some d0 -> ∃ v,a.tmps[t]? = some v:=fun d0 h0=>(st.env t d0 h0).there
 cases h with
 | pur h _ _=>exact key _ h
 | nils h=>exact key _ h
 | own h _ _ _=>exact key _ h
 | al h _ _ _ _=>exact key _ h
 | sc h _=>
  obtain ⟨base,len,cap,hv,_⟩:=SC_ok st h
  exact ⟨_,hv⟩
 | ptr h _ _ _ _=>exact key _ h
def stays (W : List Nat) (d : D) : Bool:=
 match d with
 | .al s=>!(W.contains s)
 | d=>!d.isRef
theorem stays_cases {W : List Nat} {d : D} (h : stays W d = true) : d.isRef = false ∨ ∃ s,d = .al s /\ W.contains s = false:=by
 cases d with
 | al s=>exact .inr ⟨s,rfl,by simpa [stays] using h⟩
 | _=>left; simpa [stays] using h
def Back (σ σ1 : Sg) (W : List Nat) : List (Nat × D) -> Prop
 | []=>True
 | (t,d) :: r=>(bif W.contains t then σ1.get t = some d /\ d.isRef = false /\ d.np = true /\ Frs d else σ.get t = some d /\ stays W d = true) /\ Back σ σ1 W r
theorem Back.get {σ σ1 : Sg} {W : List Nat} : ∀ {l : List (Nat × D)},Back σ σ1 W l -> ∀ {t : Nat} {d : D},lk l t = some d -> (W.contains t = true /\ σ1.get t = some d /\ d.isRef = false /\ d.np = true /\ Frs d) ∨ (W.contains t = false /\ σ.get t = some d /\ stays W d = true):=by
 intro l
 induction l with
 | nil=>intro _ t d h; cases h
 | cons x r ih=>
  obtain ⟨t',d'⟩:=x
  intro h t d ht
  rw [lk_cons] at ht
  by_cases e : t' = t
  · subst e
    simp only [if_true,Option.some.injEq] at ht
    subst ht
    have h1:=h.1
    cases hW : W.contains t' with
    | true=>rw [hW] at h1; exact .inl ⟨rfl,h1⟩
    | false=>rw [hW] at h1; exact .inr ⟨rfl,h1⟩
  · simp only [e,if_false] at ht
    exact ih h.2 ht
def Ctx.inl (C : Ctx) (w : World) : Ctx:={ w0:=w,keep:=fun b=>b < w.heap.size,ok:=fun _=>True,gl:=C.gl,rd:=C.rd,pin:=fun _=>none,df:=C.df }
theorem StW.inl (st : StW C σ a w ρ Fe Fb) {env1 : List (Nat × D)} (h : BorE C.gl σ env1) : StW (C.inl w) ⟨σ.n,env1,[]⟩ a w (fun x=>x) (fun _=>[]) (fun _=>[]):=by
 have hno : ∀ b,¬ own (fun _=>[]) (fun _=>[]) b:=by
  rintro b (⟨t,ht⟩ | ⟨id,hid⟩)
  · cases ht
  · cases hid
 refine ⟨st.size,st.defs,fun id b hp=>(by cases hp),fun t d hd=>?_,fun t _=>rfl,fun id d hd=>(by cases hd),fun id _=>rfl,fun _=>List.nodup_nil,fun _=>List.nodup_nil,fun _ _ _ b hb=>(by cases hb),fun _ _ b hb=>(by cases hb),fun _ _ _ b hb=>(by cases hb),fun b hb=>absurd hb (hno b),fun b hb=>⟨rfl,hb⟩,rfl,rfl,rfl,Nat.le_refl _,fun g d hg=>?_,fun _ _=>trivial,fun _ _=>trivial⟩
 · obtain ⟨hb,hr⟩:=h.get hd
   obtain ⟨v,hv⟩:=hb.there st
   have:=hb.ok st
   rw [eval_tmp hv] at this
   exact (SR_plain hr).2 ⟨v,hv,this.mono (fun _ _ _=>rfl) (fun b _ _=>⟨trivial,hno b⟩) (fun id hid=>hid.elim)⟩
 · obtain ⟨_,cs,e,fz,h1,h2⟩:=gl_ok st g d hg
   exact ⟨(Array.getElem?_eq_some_iff.1 h1).1,trivial,cs,e,fz,h1,h2⟩
theorem StW.back {W : List Nat} {env2 : List (Nat × D)} {a' : Act} {ρ1 : Nat -> Nat} {Fe1 Fb1 : Nat -> List Nat} (st : StW C σ a w ρ Fe Fb) (st1 : StW (C.inl w) σ1 a' w' ρ1 Fe1 Fb1) (hn : σ1.n = σ.n)
 (hfr : ∀ t,W.contains t = false -> a'.tmps[t]? = a.tmps[t]?) (h : Back σ σ1 W env2) :
 StW C ⟨σ.n,env2,σ.bx⟩ a' w' ρ (fun t=>match lk env2 t with | none=>[] | some _=>bif W.contains t then Fe1 t else Fe t) Fb:=by
 let F2 : Nat -> List Nat:=fun t=>match lk env2 t with | none=>[] | some _=>bif W.contains t then Fe1 t else Fe t
 have hlt:=st.lt
 have hblk : ∀ b,b < w.heap.size -> w'.heap[b]? = w.heap[b]?:=fun b hb=>(st1.kept b hb).1
 have hnew1 : ∀ b,own Fe1 Fb1 b -> w.heap.size <= b:=fun b hb=>Nat.le_of_not_lt (st1.new b hb)
 have hF2 : ∀ t b,b ∈ F2 t -> (W.contains t = true /\ b ∈ Fe1 t /\ w.heap.size <= b) ∨ (W.contains t = false /\ b ∈ Fe t /\ b < w.heap.size):=by
  intro t b hb
  simp only [F2] at hb
  split at hb
  · cases hb
  · cases hW : W.contains t with
    | true=>rw [hW] at hb; exact .inl ⟨rfl,hb,hnew1 b (.inl ⟨t,hb⟩)⟩
    | false=>rw [hW] at hb; exact .inr ⟨rfl,hb,hlt b (.inl ⟨t,hb⟩)⟩
 have hown : ∀ b,own F2 Fb b -> own Fe Fb b ∨ w.heap.size <= b:=by
  rintro b (⟨t,ht⟩ | hid)
  · rcases hF2 t b ht with ⟨_,_,h3⟩ | ⟨_,h2,_⟩
    · exact .inr h3
    · exact .inl (.inl ⟨t,h2⟩)
  · exact .inl (.inr hid)
 have hgd : ∀ b,gd C Fe Fb b -> b < w.heap.size -> gd C F2 Fb b:=fun b hb hl=>⟨hb.1,fun ho=>by
  rcases hown b ho with h1 | h1
  · exact hb.2 h1
  · omega⟩
 have hsz : w.heap.size <= w'.heap.size:=st1.grown
 refine { size:=st1.size.trans hn,defs:=st1.defs,pin:=st.pin,env:=fun t d hd=>?_,envN:=fun t ht=>?_,bx:=fun id d hd=>?_,bxN:=st.bxN,nodE:=fun t=>?_,nodB:=st.nodB,dEE:=fun t t' htt b hb hb'=>?_,dEB:=fun t id b hb hb'=>?_,dBB:=st.dBB,new:=fun b hb hk=>?_,kept:=fun b hk=>?_,os:=st1.os.trans st.os,tape:=st1.tape.trans st.tape,output:=st1.output.trans st.output,grown:=Nat.le_trans st.grown hsz,gl:=st.gl,okN:=fun b hb=>st.okN b (Nat.le_trans hsz hb),okO:=fun b hb=>?_ }
 · have hd' : lk env2 t = some d:=hd
   show SR w' ρ (gd C F2 Fb) _ a' t d (F2 t)
   rcases h.get hd' with ⟨hW,h1,h2,h3,h4⟩ | ⟨hW,h1,h2⟩
   · have e2 : F2 t = Fe1 t:=by simp only [F2,hd',hW,cond_true]
     rw [e2]
     obtain ⟨v,hv,hr⟩:=(SR_plain h2).1 (st1.env t d h1)
     exact (SR_plain h2).2 ⟨v,hv,(hr.frs h4).noL h3⟩
   · have e2 : F2 t = Fe t:=by simp only [F2,hd',hW,cond_false]
     rw [e2]
     rcases stays_cases h2 with h9 | ⟨s,rfl,h9⟩
     · obtain ⟨v,hv,hr⟩:=(SR_plain h9).1 (st.env t d h1)
       exact (SR_plain h9).2 ⟨v,by rw [hfr t hW]; exact hv,hr.mono (fun b _ hb=>hblk b hb) hgd (fun id hid=>⟨hid,rfl⟩)⟩
     · obtain ⟨h3,v,h4,h5⟩:=st.env t _ h1
       exact ⟨h3,v,by rw [hfr t hW]; exact h4,by rw [hfr s h9]; exact h5⟩
 · have ht' : lk env2 t = none:=ht
   show F2 t = []
   simp only [F2,ht']
 · exact (st.bx id d hd).mono (fun b _ hb=>hblk b hb) hgd (fun id hid=>⟨hid,rfl⟩)
 · show (F2 t).Nodup
   simp only [F2]
   split
   · exact List.nodup_nil
   · cases W.contains t with
     | true=>exact st1.nodE t
     | false=>exact st.nodE t
 · rcases hF2 t b hb with ⟨_,h2,h3⟩ | ⟨_,h2,h3⟩ <;> rcases hF2 t' b hb' with ⟨_,h5,h6⟩ | ⟨_,h5,h6⟩
   · exact st1.dEE t t' htt b h2 h5
   · omega
   · omega
   · exact st.dEE t t' htt b h2 h5
 · rcases hF2 t b hb with ⟨_,h2,h3⟩ | ⟨_,h2,h3⟩
   · have:=hlt b (.inr ⟨id,hb'⟩); omega
   · exact st.dEB t id b h2 hb'
 · rcases hown b hb with h1 | h1
   · exact st.new b h1 hk
   · have:=(st.kept b hk).2; have:=st.grown; omega
 · have h1:=st.kept b hk
   exact ⟨(hblk b (Nat.lt_of_lt_of_le h1.2 st.grown)).trans h1.1,h1.2⟩
 · rcases hown b hb with h1 | h1
   · exact st.okO b h1
   · exact st.okN b h1
theorem R.extO {s t k : Nat} {ds ds' : List D} {d : D} {rt : TypeId}
 (h : σ.get s = some (.tup ds)) (hk : ds[k]? = some d) (hr : d.isRef = false) (hds : ds.set k .dead = ds') (hp : ds'.all (fun x=>x.pur || x.isRef) = true) (hst : Nat.beq t s = false) (ht : t < σ.n) :
 OpS P C ⟨some t,.extract (.tmp s) k,rt,pos,aft,g⟩ σ (((killL σ [s]).set t d).upd s (.tup ds')):=by
 subst hds
 have hne : t ≠ s:=fun e=>by rw [e] at hst; simp at hst
 refine OpS.value fun a w ⟨ρ,Fe,Fb,st⟩=>?_
 obtain ⟨vs,Fs,h1,h2,h3,h4⟩:=st.env s _ h
 obtain ⟨hkl,hkd⟩:=List.getElem?_eq_some_iff.1 hk
 have hv : vs[k]? = some (vs.getD k undef):=by
  have : k < vs.length:=by omega
  rw [List.getD_eq_getElem?_getD,List.getElem?_eq_getElem this]; rfl
 rcases h4 k hkl with ⟨h5,_⟩ | ⟨h5,h6⟩
 · rw [hkd] at h5; rw [h5] at hr; cases hr
 · rw [hkd] at h6
   have hsub : ∀ b ∈ Fs k,b ∈ Fe s:=fun b hb=>by rw [h3]; exact List.mem_flatMap.2 ⟨k,List.mem_range.2 hkl,hb⟩
   have hnd : (Fs k).Nodup:=by
    have:=st.nodE s
    rw [h3] at this
    exact (flat_nodup this).1 k hkl
   have hgd : ∀ b,gd C Fe Fb b -> gd C (upd (fun u=>if u ∈ [s] then [] else Fe u) t (Fs k)) Fb b:=fun b hb=>⟨hb.1,fun hc=>hb.2 (by
    rcases hc with ⟨u,hu⟩ | hid
    · by_cases hut : u = t
      · subst hut; rw [upd_same] at hu; exact .inl ⟨s,hsub b hu⟩
      · rw [upd_other hut] at hu
        by_cases hus : u ∈ [s]
        · simp only [hus,if_true] at hu; cases hu
        · simp only [hus,if_false] at hu; exact .inl ⟨u,hu⟩
    · exact .inr hid)⟩
   have hput : (a.put (some t) (vs.getD k undef)).tmps[t]? = some (vs.getD k undef):=by rw [put_get a t _ t (by rw [st.size]; exact ht)]; simp
   have st2:=st.takeL (S:=[s]) (t:=t) (d:=d) (v:=vs.getD k undef) (F:=Fs k) ht (by simpa using hne) (fun u hu=>by rw [List.mem_singleton.1 hu]; exact ⟨_,h⟩) hnd (fun b hb=>⟨s,by simp,hsub b hb⟩)
    ((SR_plain hr).2 ⟨_,hput,h6.mono (fun _ _ _=>rfl) (fun b hb _=>hgd b hb) (fun id hid=>⟨hid,rfl⟩)⟩)
   have hgs : ((killL σ [s]).set t d).get s = some .dead:=by
    rw [get_set,if_neg (fun e=>hne e.symm),killL_get]
    simp [scrub]
   have hFs0 : upd (fun u=>if u ∈ [s] then [] else Fe u) t (Fs k) s = []:=by rw [upd_other (fun e=>hne e.symm)]; simp
   have st3:=st2.turn (s:=s) (d':=.tup (ds.set k .dead)) (F:=[]) hgs rfl rfl rfl (Nat.le_refl _) (fun _ _ _=>rfl) List.nodup_nil (by simp) (by
    refine ⟨vs,fun _=>[],by rw [put_get a t _ s (by rw [st.size]; exact ht)]; simp [show ¬ s = t from fun e=>hne e.symm,h1],by rw [h2]; simp,(flat0 _).symm,fun j hj=>?_⟩
    have hj0 : j < ds.length:=by simpa using hj
    by_cases hjk : k = j
    · subst hjk; left; exact ⟨by simp,rfl⟩
    · have e1 : (ds.set k .dead)[j] = ds[j]:=by rw [List.getElem_set]; simp [hjk]
      have e2:=List.all_eq_true.1 hp _ (List.getElem_mem hj)
      rw [e1] at e2 ⊢
      rcases h4 j hj0 with h7 | ⟨h7,h8⟩
      · exact .inl ⟨h7.1,rfl⟩
      · right
        have hpj : ds[j].pur = true:=by simpa [h7] using e2
        have hF:=h8.pur hpj
        rw [hF] at h8
        refine ⟨h7,h8.mono (fun _ _ _=>rfl) (fun b hb _=>⟨hb.1,fun hc=>(hgd b hb).2 ?_⟩) (fun id hid=>⟨?_,rfl⟩)⟩
        · rcases hc with ⟨u,hu⟩ | hid
          · by_cases hus : u = s
            · subst hus; rw [upd_same] at hu; cases hu
            · rw [upd_other hus] at hu; exact .inl ⟨u,hu⟩
          · exact .inr hid
        · have : ((killL σ [s]).set t d).box id = σ.box id:=by
           show lk (killL σ [s]).bx id = _
           rw [(killL_n [s] σ).2]; rfl
          rw [this]; exact hid)
   refine ⟨vs.getD k undef,w, ?_,ρ,_,Fb,st3⟩
   clear st3 st2 hput h6
   generalize vs.getD k undef = x at hv
   have hx : vs.toArray[k]? = some x:=by rw [List.getElem?_toArray]; exact hv
   unfold execOp
   simp only [Instr.extract,eval_tmp h1,hx,Sem.run_bind,Sem.run_pure,Result.andThen_ok]
theorem R.movTO {s t : Nat} {ds : List D} {rt : TypeId} (h : σ.get s = some (.tup ds)) (hst : Nat.beq t s = false) (ht : t < σ.n) :
 OpS P C ⟨some t,.move (.tmp s),rt,pos,aft,g⟩ σ ((killL σ [s]).set t (.tup ds)):=by
 have hne : t ≠ s:=fun e=>by rw [e] at hst; simp at hst
 refine OpS.value fun a w ⟨ρ,Fe,Fb,st⟩=>?_
 obtain ⟨vs,Fs,h1,h2,h3,h4⟩:=st.env s _ h
 have hgd : ∀ b,gd C Fe Fb b -> gd C (upd (fun u=>if u ∈ [s] then [] else Fe u) t (Fe s)) Fb b:=fun b hb=>⟨hb.1,fun hc=>hb.2 (by
  rcases hc with ⟨u,hu⟩ | hid
  · by_cases hut : u = t
    · subst hut; rw [upd_same] at hu; exact .inl ⟨s,hu⟩
    · rw [upd_other hut] at hu
      by_cases hus : u ∈ [s]
      · simp only [hus,if_true] at hu; cases hu
      · simp only [hus,if_false] at hu; exact .inl ⟨u,hu⟩
  · exact .inr hid)⟩
 have hput : (a.put (some t) (.tuple vs.toArray)).tmps[t]? = some (.tuple vs.toArray):=by rw [put_get a t _ t (by rw [st.size]; exact ht)]; simp
 refine ⟨.tuple vs.toArray,w, ?_,ρ,_,Fb,st.takeL (S:=[s]) (t:=t) (F:=Fe s) ht (by simpa using hne) (fun u hu=>by rw [List.mem_singleton.1 hu]; exact ⟨_,h⟩) (st.nodE s) (fun b hb=>⟨s,by simp,hb⟩)
  ⟨vs,Fs,hput,h2,h3,fun k hk=>(h4 k hk).imp id fun hx=>⟨hx.1,hx.2.mono (fun _ _ _=>rfl) (fun b hb _=>hgd b hb) (fun id hid=>⟨hid,rfl⟩)⟩⟩⟩
 unfold execOp
 simp [eval_tmp h1]
theorem TL.wpListO {l : List Oper} (h : TL P C Q l σ) (ops : Array Oper) : WL P C ops l Q σ:=by
 induction l generalizing σ with
 | nil=>
  obtain ⟨live,env',bx',n',p1,p2,p4,p3⟩:=h
  exact fun a w hs=>⟨_,hs.picks p1 p2 p4,p3⟩
 | cons o l ih=>
  obtain ⟨h1,σ',h2,h3⟩:=h
  exact WL.cons h1 h2 (ih h3)
def WIn (P : Program) (C : Ctx) (c : Code) (Q : Exit -> Sg -> Prop) (σ σ1 : Sg) (W0 : List Nat) : Prop:=
 ∀ (a0 : Act) (w0 : World) (ρ : Nat -> Nat) (Fe Fb : Nat -> List Nat),StW C σ a0 w0 ρ Fe Fb -> ∀ (a : Act) (w : World),St (C.inl w0) σ1 a w -> (∀ t,W0.contains t = false -> a.tmps[t]? = a0.tmps[t]?) ->
  c.wpIn (Fx C) 3 P (fun e a' w'=>∃ σ',St C σ' a' w' /\ Q e σ') a w
theorem W.inl {c : Code} (env1 : List (Nat × D)) (hb : BorE C.gl σ env1) (h : WIn P C c Q σ ⟨σ.n,env1,[]⟩ []) : W P C c Q σ:=by
 intro a w ⟨ρ,Fe,Fb,st⟩
 exact h a w ρ Fe Fb st a w ⟨_,_,_,st.inl hb⟩ (fun _ _=>rfl)
theorem WIn.seq {x y : Code} {W0 : List Nat} (h : WIn P C x (fun e s=>match e with | .normal=>W P C y Q s | e=>Q e s) σ σ1 W0) : WIn P C (.seq x y) Q σ σ1 W0:=by
 intro a0 w0 ρ Fe Fb st a w hs hf
 refine wpIn_seq ?_
 refine Go.Code.wpIn_mono ?_ (h a0 w0 ρ Fe Fb st a w hs hf)
 intro e a' w' ⟨s,hs',hq⟩
 cases e <;> first | exact hq a' w' hs' | exact ⟨s,hs',hq⟩
theorem WIn.region {id : Nat} {W0 : List Nat} (k : Nat) (env2 : List (Nat × D)) {l : List Oper}
 (h1 : ∀ C' : Ctx,C'.gl = C.gl -> C'.rd = C.rd -> C'.df = C.df -> (∀ id b,C'.pin id = some b -> memN [] id = true) -> TL P C' (fun e s=>e = .normal /\ s.n = σ.n /\ Back σ s (W0 ++ dsts (l.take k)) env2) (l.take k) σ1)
 (h2 : TL P C Q (l.drop k) ⟨σ.n,env2,σ.bx⟩) : WIn P C (.region id l.toArray false) Q σ σ1 W0:=by
 intro a0 w0 ρ Fe Fb st a w hs hf
 refine wpIn_region_lit ?_
 generalize hl1 : l.take k = l1 at h1
 generalize hl2 : l.drop k = l2 at h2
 have hl : l = l1 ++ l2:=by rw [<- hl1,<- hl2,List.take_append_drop]
 clear hl1 hl2
 subst hl
 have hw1:=(h1 (C.inl w0) rfl rfl rfl (fun id b hp=>by cases hp)).wpList (ops:=l1 ++ l2) a w hs
 refine wpListIn_split l1 a w (F:=Fx C) hw1 ?_ ?_
 · rintro e a' w' he ⟨s,_,rfl,_⟩
   exact absurd rfl he
 · rintro a' w' ⟨s,⟨ρ1,Fe1,Fb1,st1⟩,_,hn,hB⟩ hfr
   refine (h2.wpList (ops:=l1 ++ l2)) a' w' ⟨ρ,_,Fb,st.back st1 hn (fun t ht=>?_) hB⟩
   have h3 : W0.contains t = false /\ (dsts l1).contains t = false:=by simpa [List.contains_append] using ht
   rw [hfr t (fun hm=>by rw [List.contains_iff_mem.2 hm] at h3; cases h3.2),hf t h3.1]
theorem WL.inlT {l : List Oper} (k : Nat) (env1 env2 : List (Nat × D)) (hb : BorE C.gl σ env1)
 (h1 : ∀ C' : Ctx,C'.gl = C.gl -> C'.rd = C.rd -> C'.df = C.df -> (∀ id b,C'.pin id = some b -> memN [] id = true) -> TL P C' (fun e s=>e = .normal /\ s.n = σ.n /\ Back σ s (dsts (l.take k)) env2) (l.take k) ⟨σ.n,env1,[]⟩)
 (h2 : TL P C Q (l.drop k) ⟨σ.n,env2,σ.bx⟩) : WL P C ops l Q σ:=by
 generalize hl1 : l.take k = l1 at h1
 generalize hl2 : l.drop k = l2 at h2
 have hl : l = l1 ++ l2:=by rw [<- hl1,<- hl2,List.take_append_drop]
 clear hl1 hl2
 subst hl
 intro a w ⟨ρ,Fe,Fb,st⟩
 have hw1:=(h1 (C.inl w) rfl rfl rfl (fun id b hp=>by cases hp)).wpListO ops a w ⟨_,_,_,st.inl hb⟩
 refine wpListIn_split l1 a w (F:=Fx C) hw1 ?_ ?_
 · rintro e a' w' he ⟨s,_,rfl,_⟩
   exact absurd rfl he
 · rintro a' w' ⟨s,⟨ρ1,Fe1,Fb1,st1⟩,_,hn,hB⟩ hfr
   exact (h2.wpListO ops) a' w' ⟨ρ,_,Fb,st.back st1 hn (fun t ht=>hfr t (by intro hm; rw [List.contains_iff_mem.2 hm] at ht; cases ht)) hB⟩
theorem wpAnyIn_frame {F : Fence} {n : Nat} {md : Region.Mode} {os : List Oper} {Q : Exit -> Act -> World -> Prop} (a0 : Act) (hd : ∀ o ∈ os,∀ t,o.dst = some t -> t ∈ dsts os) : ∀ (fuel : Nat) (listed : Array Bool) (a : Act) (w : World),
 (∀ t,(dsts os).contains t = false -> a.tmps[t]? = a0.tmps[t]?) -> wpAnyIn F n P md os.toArray Q fuel listed a w ->
 wpAnyIn F n P md os.toArray (fun e a' w'=>Q e a' w' /\ (e = .normal -> ∀ t,(dsts os).contains t = false -> a'.tmps[t]? = a0.tmps[t]?)) fuel listed a w:=by
 intro fuel
 induction fuel with
 | zero=>intro listed a w hf h; exact ⟨h.1,h.2,fun _=>hf⟩
 | succ fuel ih=>
  intro listed a w hf h
  refine ⟨fun hr=>⟨h.1 hr,fun _=>hf⟩,fun i hi=>?_⟩
  have h1:=h.2 i hi
  unfold wpOpIn at h1 ⊢
  cases ho : os.toArray[i]? with
  | none=>rw [ho] at h1; exact ih _ _ _ hf h1
  | some o=>
   rw [ho] at h1
   simp only at h1 ⊢
   have hmem : o ∈ os:=List.mem_of_getElem? (by simpa using ho)
   have hput : ∀ (b : Act) (v : Value),b.tmps = a.tmps -> ∀ t,(dsts os).contains t = false -> (b.put o.dst v).tmps[t]? = a0.tmps[t]?:=fun b v hb t ht=>by
    rw [put_frame (fun e=>by rw [List.contains_iff_mem.2 (hd o hmem t e)] at ht; cases ht),hb]
    exact hf t ht
   have hstep : ∀ (b : Act) (w1 : World) (v : Value),b.tmps = a.tmps -> wpAnyIn F n P md os.toArray Q fuel (listed.setIfInBounds i true) (b.put o.dst v) w1 ->
    wpAnyIn F n P md os.toArray (fun e a' w'=>Q e a' w' /\ (e = .normal -> ∀ t,(dsts os).contains t = false -> a'.tmps[t]? = a0.tmps[t]?)) fuel (listed.setIfInBounds i true) (b.put o.dst v) w1:=fun b w1 v hb hx=>ih _ _ _ (hput b v hb) hx
   split
   · rename_i hw
     simp only [hw,if_true] at h1
     exact ⟨h1.1,uponIn_mono hstep (fun e a w he hq=>⟨hq,fun hn=>absurd hn he⟩) h1.2⟩
   · rename_i hw
     simp only [hw,if_false,Bool.false_eq_true] at h1
     exact ⟨h1.1,hstep a w undef rfl h1.2⟩
theorem dsts_mem {os : List Oper} : ∀ o ∈ os,∀ t,o.dst = some t -> t ∈ dsts os:=by
 induction os with
 | nil=>intro o h; cases h
 | cons x r ih=>
  intro o h t ht
  rcases List.mem_cons.1 h with rfl | h
  · simp [dsts,ht]
  · have:=ih o h t ht
    unfold dsts
    split
    · exact List.mem_cons_of_mem _ this
    · exact this
def WA (P : Program) (C : Ctx) (ops : List Oper) (Q : Exit -> Sg -> Prop) (σ : Sg) : Prop:=
 ∀ a w,St C σ a w -> wpAnyIn (Fx C) 3 P .any ops.toArray (fun e a' w'=>∃ σ',St C σ' a' w' /\ Q e σ') ops.toArray.size (Array.replicate ops.toArray.size false) a { w with drawn:=w.drawn + 1 }
theorem WA.draw {ops : List Oper} {an : List Nat} {ks kk : List (Nat × Nat)} {its : List It} {m n' : Nat} {bx' : List (Nat × Bx)} (hA0 : okAn ops an m = true) (hlen : its.length = m) (H : ItOk P C σ ops an ks kk its) {live : List Nat} {env' : List (Nat × D)} (hE : picks (afts an (fun _=>true) ks σ.env its) live = env')
 (hb : σ.bx = bx') (hn : σ.n = n') (hT : TL P C Q (ops.drop its.length) ⟨n',env',bx'⟩) : WA P C ops Q σ:=by
 intro a w hs
 have hc : Cl ops (Array.replicate ops.toArray.size false):=⟨by simp,fun i o _ hd=>by
  have:=getD_true hd
  simp at this
  simp [this] at hd⟩
 have hA : okAn ops an its.length = true:=by rw [hlen]; exact hA0
 subst hb; subst hn
 refine draw_main hA H hE hT _ _ a _ σ hc ?_ ?_ (hs.ext (Ext.drew w)) ⟨rfl,rfl,fun u x hx=>?_⟩
 · simp
 · intro j _ hj; simp [hj]
 · unfold afts at hx
   generalize hb : bads _ ks u = bb at hx
   cases bb with
   | true=>cases hx
   | false=>
    simp only [cond_false] at hx
    rcases slot_cases its u with hu | ⟨k,dk,wk,hk⟩
    · rw [looks_none hu] at hx; exact hx
    · rw [looks_at (okTs_ok H.ts).1 hk] at hx
      have e : (Array.replicate ops.toArray.size false).getD (0 + k) false = false:=by
       simp only [Array.getD_eq_getD_getElem?,Array.getElem?_replicate]
       split <;> rfl
      rw [e] at hx
      exact hx
theorem wpAnyIn_post {F : Fence} {n : Nat} {md : Region.Mode} {ops : Array Oper} {Q Q' : Exit -> Act -> World -> Prop} (hq : ∀ e a w,Q e a w -> Q' e a w) : ∀ (fuel : Nat) (listed : Array Bool) (a : Act) (w : World),wpAnyIn F n P md ops Q fuel listed a w -> wpAnyIn F n P md ops Q' fuel listed a w:=by
 intro fuel
 induction fuel with
 | zero=>intro listed a w h; exact ⟨h.1,hq _ _ _ h.2⟩
 | succ fuel ih=>
  intro listed a w h
  refine ⟨fun hr=>hq _ _ _ (h.1 hr),fun i hi=>?_⟩
  have h1:=h.2 i hi
  unfold wpOpIn at h1 ⊢
  cases ho : ops[i]? with
  | none=>rw [ho] at h1; exact ih _ _ _ h1
  | some o=>
   rw [ho] at h1
   simp only at h1 ⊢
   split
   · rename_i hw
     simp only [hw,if_true] at h1
     exact ⟨h1.1,uponIn_mono (fun b w v _ hx=>ih _ _ _ hx) (fun e a w _ hx=>hq e a w hx) h1.2⟩
   · rename_i hw
     simp only [hw,if_false,Bool.false_eq_true] at h1
     exact ⟨h1.1,ih _ _ _ h1.2⟩
theorem WIn.seqA {id : Nat} {ops : List Oper} {y : Code} {W0 : List Nat} {σ2 : Sg} (hm : P.follows .mixedOrders = true)
 (h1 : ∀ C' : Ctx,C'.gl = C.gl -> C'.rd = C.rd -> C'.df = C.df -> (∀ id b,C'.pin id = some b -> memN [] id = true) -> WA P C' ops (fun e s=>e = .normal /\ s = σ2) σ1)
 (h2 : WIn P C y Q σ σ2 (W0 ++ dsts ops)) : WIn P C (.seq (.region id ops.toArray true) y) Q σ σ1 W0:=by
 intro a0 w0 ρ Fe Fb st a w hs hf
 refine wpIn_seq ?_
 refine wpIn_region_any hm ?_
 have h3:=wpAnyIn_frame (os:=ops) a dsts_mem _ _ a _ (fun _ _=>rfl) (h1 (C.inl w0) rfl rfl rfl (fun id b hp=>by cases hp) a w hs)
 refine wpAnyIn_post ?_ _ _ _ _ h3
 rintro e a' w' ⟨⟨s,hs',rfl,rfl⟩,hfr⟩
 refine h2 a0 w0 ρ Fe Fb st a' w' hs' (fun t ht=>?_)
 have h4 : W0.contains t = false /\ (dsts ops).contains t = false:=by simpa [List.contains_append] using ht
 rw [hfr rfl t h4.2,hf t h4.1]
theorem W.wkS {c : Code} {s : Nat} {d d' : D} (h : σ.get s = some d) (hr : d.isRef = false) (hr' : d'.isRef = false) (hw : Wk d d') (k : W P C c Q (σ.upd s d')) : W P C c Q σ:=by
 intro a w ⟨ρ,Fe,Fb,st⟩
 obtain ⟨v,hv,hvr⟩:=(SR_plain hr).1 (st.env _ _ h)
 have hgd : ∀ b,gd C Fe Fb b -> gd C (Go.Sx.upd Fe s (Fe s)) Fb b:=fun b hb=>⟨hb.1,fun hc=>hb.2 (hc.imp (fun ⟨u,hu⟩=>⟨u,by
  by_cases hus : u = s
  · subst hus; rwa [upd_same] at hu
  · rwa [upd_other hus] at hu⟩) id)⟩
 refine k a w ⟨ρ,_,Fb,st.turn (F:=Fe s) h rfl rfl rfl (Nat.le_refl _) (fun _ _ _=>rfl) (st.nodE s) (fun b hb=>.inl hb) ((SR_plain hr').2 ⟨v,hv, ?_⟩)⟩
 have h2:=hvr.mono (w':=w) (ρ':=ρ) (G':=gd C (Go.Sx.upd Fe s (Fe s)) Fb) (L':=fun id=>(σ.box id).isSome) (fun _ _ _=>rfl) (fun b hb _=>hgd b hb) (fun id hid=>⟨hid,rfl⟩)
 unfold VR at h2 ⊢
 rw [hw.isAgg]
 cases hd : d.isAgg <;> simp only [hd,if_true,if_false,Bool.false_eq_true] at h2 ⊢
 · exact h2.wk hw
 · obtain ⟨cs,rfl,h2⟩:=h2; exact ⟨cs,rfl,h2.wk hw⟩
theorem R.wkT {o : Oper} {τ : Sg} {t : Nat} {r r' : D} (h : OpS P C o σ (τ.set t r)) (hr : r.isRef = false) (hr' : r'.isRef = false) (he : Wk r r') : OpS P C o σ (τ.set t r'):=by
 intro a w hs K Q hK
 refine h a w hs K Q fun a' w' hs'=>hK a' w' ?_
 have h1 : (τ.set t r).get t = some r:=by rw [get_set]; simp
 obtain ⟨ρ,Fe,Fb,st⟩:=hs'
 obtain ⟨v,hv,hvr⟩:=(SR_plain hr).1 (st.env _ _ h1)
 have hgd : ∀ b,gd C Fe Fb b -> gd C (Go.Sx.upd Fe t (Fe t)) Fb b:=fun b hb=>⟨hb.1,fun hc=>hb.2 (hc.imp (fun ⟨u,hu⟩=>⟨u,by
  by_cases hus : u = t
  · subst hus; rwa [upd_same] at hu
  · rwa [upd_other hus] at hu⟩) id)⟩
 have st2 : St C ((τ.set t r).upd t r') a' w':=by
  refine ⟨ρ,_,Fb,st.turn (F:=Fe t) h1 rfl rfl rfl (Nat.le_refl _) (fun _ _ _=>rfl) (st.nodE t) (fun b hb=>.inl hb) ((SR_plain hr').2 ⟨v,hv, ?_⟩)⟩
  have h2:=hvr.mono (w':=w') (ρ':=ρ) (G':=gd C (Go.Sx.upd Fe t (Fe t)) Fb) (L':=fun id=>((τ.set t r).box id).isSome) (fun _ _ _=>rfl) (fun b hb _=>hgd b hb) (fun id hid=>⟨hid,rfl⟩)
  unfold VR at h2 ⊢
  rw [he.isAgg]
  cases hd : r.isAgg <;> simp only [hd,if_true,if_false,Bool.false_eq_true] at h2 ⊢
  · exact h2.wk he
  · obtain ⟨cs,rfl,h2⟩:=h2; exact ⟨cs,rfl,h2.wk he⟩
 refine st2.weaken rfl rfl fun u d hd=>?_
 rw [get_upd,get_set]
 rw [get_set] at hd
 by_cases hu : u = t
 · subst hu; simpa using hd
 · simpa [hu] using hd
end Go.Sx

namespace Go.Sx
variable {P : Program} {C : Ctx} {σ σ' σ1 : Sg} {a : Act} {w w' : World} {ρ : Nat -> Nat} {Fe Fe' Fb : Nat -> List Nat}
variable {ops : List Oper} {an : List Nat} {ks kk : List (Nat × Nat)} {its : List It}
end Go.Sx

namespace Go.Sx
def bytOwn (b : List UInt8) : D:=.sl (some 5) 1 (b.map D.u8)
def inOwn (x : InS) : D:=.agg [.agg [hashD x.tx,.u32 x.n],bytOwn x.script,.u32 x.seq,.sl (some 24) 1 (x.wit.map bytOwn)]
def outOwn (o : OutS) : D:=.agg [.u64 o.value,bytOwn o.script]
def txOwn (t : TxS) : D:=.agg [.u32 t.ver,.sl (some 67) 36 (t.ins.map inOwn),.sl (some 64) 2 (t.outs.map outOwn),.u32 t.lock]
def blkOwn (b : BlkS) : D:=.agg [hdrD b.hd,.sl (some 54) 4 (b.txs.map txOwn)]
theorem brw_mapO {α : Type} {f g : α -> D} (h : ∀ x,(f x).brw = g x) (l : List α) : (l.map f).map D.brw = l.map g:=by
 rw [List.map_map]
 exact List.map_congr_left fun x _=>h x
theorem brw_bytOwn (b : List UInt8) : (bytOwn b).brw = bytesD b:=by
 simp only [bytOwn,bytesD,D.brw,brws_eq]
 rw [brw_mapO (g:=D.u8) (fun _=>rfl)]
theorem brw_inOwn (x : InS) : (inOwn x).brw = inD x:=by
 simp only [inOwn,inD,D.brw,brws_eq,List.map_cons,List.map_nil,brw_hash,brw_bytOwn]
 rw [brw_mapO brw_bytOwn]
theorem brw_outOwn (x : OutS) : (outOwn x).brw = outD x:=by
 simp only [outOwn,outD,D.brw,brws_eq,List.map_cons,List.map_nil,brw_bytOwn]
theorem brw_txOwn (t : TxS) : (txOwn t).brw = txD t:=by
 simp only [txOwn,txD,D.brw,brws_eq,List.map_cons,List.map_nil]
 rw [brw_mapO brw_inOwn,brw_mapO brw_outOwn]
theorem brw_blkOwn (b : BlkS) : (blkOwn b).brw = blkD b:=by
 simp only [blkOwn,blkD,D.brw,brws_eq,List.map_cons,List.map_nil,brw_hdr]
 rw [brw_mapO brw_txOwn]
theorem frs_mem4 {a b c d : D} (h1 : Frs a) (h2 : Frs b) (h3 : Frs c) (h4 : Frs d) : ∀ x ∈ [a,b,c,d],Frs x:=fun x hx=>by
 simp only [List.mem_cons,List.not_mem_nil,or_false] at hx
 rcases hx with rfl | rfl | rfl | rfl <;> assumption
theorem frs_mem2 {a b : D} (h1 : Frs a) (h2 : Frs b) : ∀ x ∈ [a,b],Frs x:=fun x hx=>by
 simp only [List.mem_cons,List.not_mem_nil,or_false] at hx
 rcases hx with rfl | rfl <;> assumption
theorem frs_bytOwn (b : List UInt8) : Frs (bytOwn b):=.sl _ _ _ (frs_map (fun x=>.u8 x))
theorem frs_inOwn (x : InS) : Frs (inOwn x):=.agg _ (frs_mem4 (.agg _ (frs_mem2 (frs_hash _) (.u32 _))) (frs_bytOwn _) (.u32 _) (.sl _ _ _ (frs_map frs_bytOwn)))
theorem frs_outOwn (x : OutS) : Frs (outOwn x):=.agg _ (frs_mem2 (.u64 _) (frs_bytOwn _))
theorem frs_txOwn (t : TxS) : Frs (txOwn t):=.agg _ (frs_mem4 (.u32 _) (.sl _ _ _ (frs_map frs_inOwn)) (.sl _ _ _ (frs_map frs_outOwn)) (.u32 _))
theorem frs_blkOwn (b : BlkS) : Frs (blkOwn b):=.agg _ (frs_mem2 (frs_hdr _) (.sl _ _ _ (frs_map frs_txOwn)))
theorem frs_spend (t : TxS) (b : Bool) : FrsR (.tup [txOwn t,.bool b]):=.inl ⟨_,rfl,frs_mem2 (frs_txOwn t) (.bool b)⟩
theorem frs_grow (x : BlkS) (b : Bool) : FrsR (.tup [blkOwn x,.bool b]):=.inl ⟨_,rfl,frs_mem2 (frs_blkOwn x) (.bool b)⟩
end Go.Sx
