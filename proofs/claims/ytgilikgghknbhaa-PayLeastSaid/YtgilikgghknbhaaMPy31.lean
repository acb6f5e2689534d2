/-
 Own library: arguments that a statement's form reads as data,as D; a contract from what a function computes.
-/
import Derived.Test.YtgilikgghknbhaaMSxBldO
import Derived.Test.YtgilikgghknbhaaMPy5
import Derived.Test.YtgilikgghknbhaaMSxApp
import Derived.OpenShut
import Derived.Carry
import Derived.Deep.Slices
import Derived.Deep.DeepHandedRow
import Derived.Lib.LaidTab
set_option linter.unusedVariables false
set_option linter.unusedSimpArgs false
set_option linter.unnecessarySimpa false

namespace Go.Sx
open Go.Proofs
set_option maxHeartbeats 2000000 in
theorem least_ok (vs ws : List UInt32) (rate : UInt16) (more : UInt32) (hv0 : vs.length <= 140737488355328) (hw0 : ws.length <= 140737488355328) : Fn Try.prog gl 4 [.sl none 1 (vs.map D.u32),.sl none 1 (ws.map D.u32),.u16 rate,.u32 more] (.bool true):=by
 refine Fn.of (n:=316) Try.func4 rfl rfl rfl (nU rfl) fun C hC hD=>?_
 have hcl0:=cn_len f0 vs vs.length
 have hwl0:=wn_len fE ws ws.length
 refine W.seq ?_
 refine W.l0 1 [.y 8 _] [] [] [(0,_),(1,_),(2,_),(3,_)] [] 316 ⟨aU fun _ _ H _=>R.asg (kB false O) O H,Zt⟩ O O O O (tU O ?_)
 refine W.seq (W.seq ?_)
 by_cases k1 : 60 < vs.length
 · refine W.l0 13 [.y 35 _,.y 36 _,.y 37 _,.y 38 _,.x 39,.x 40,.x 41,.y 42 _,.y 43 _,.x 44,.x 45,.x 46,.y 47 _] [] [] [(0,_),(1,_),(2,_),(3,_),(47,_)] [] 316 ⟨mU 0 O O,aU fun _ _ H K=>R.lenE (SC.sl (K 35 _ O)) (lN _) H,aU fun _ _ H K=>R.gtrN (vs.length) (60) (eU K 36 O) (kI 60 O) H,mU 37 O O,aF O O (gT (dT k1) O),aF O O (gT (dT k1) O),aF O O (gT (dT k1) O),aU fun _ _ H K=>R.pickT (eU K 38 O) (dT k1) (kB true O) O H,mU 42 O O,aF O O (gT (O) O),aF O O (gT (O) O),aF O O (gT (O) O),aU fun _ _ H K=>R.pickT (eU K 43 O) (O) (kB true O) O H,Zt⟩ O O O O (tU O ?_)
   refine W.condT O (O) ?_
   refine W.seq ?_
   refine W.l0 2 [.y 48 _,.y 8 _] [] [] [(8,_)] [] 316 ⟨aU fun _ _ H _=>R.callG hC (works_ok) Bn (FrsR.one (.bool _)) H,aU fun _ _ H K=>R.asg (eU K 48 O) O H,Zt⟩ O O O O (tU O ?_)
   refine W.ret ?_
   exact Ends.one' (.inr O) O (O) O O Zt
 · by_cases k2 : 8 < ws.length
   · refine W.l0 13 [.y 35 _,.y 36 _,.y 37 _,.y 38 _,.y 39 _,.y 40 _,.y 41 _,.y 42 _,.y 43 _,.x 44,.x 45,.x 46,.y 47 _] [] [] [(0,_),(1,_),(2,_),(3,_),(47,_)] [] 316 ⟨mU 0 O O,aU fun _ _ H K=>R.lenE (SC.sl (K 35 _ O)) (lN _) H,aU fun _ _ H K=>R.gtrN (vs.length) (60) (eU K 36 O) (kI 60 O) H,mU 37 O O,aW O O (gF (dF k1) O) fun _ _ H K=>R.mov (eU K 1 O) O H,aW O O (gF (dF k1) O) fun _ _ H K=>R.lenE (SC.sl (K 39 _ O)) (lN _) H,aW O O (gF (dF k1) O) fun _ _ H K=>R.gtrN (ws.length) (8) (eU K 40 O) (kI 8 O) H,aU fun _ _ H K=>R.pickF (eU K 38 O) (dF k1) (eU K 41 O) O H,mU 42 O O,aF O O (gT (dT k2) O),aF O O (gT (dT k2) O),aF O O (gT (dT k2) O),aU fun _ _ H K=>R.pickT (eU K 43 O) (dT k2) (kB true O) O H,Zt⟩ O O O O (tU O ?_)
     refine W.condT O (O) ?_
     refine W.seq ?_
     refine W.l0 2 [.y 48 _,.y 8 _] [] [] [(8,_)] [] 316 ⟨aU fun _ _ H _=>R.callG hC (works_ok) Bn (FrsR.one (.bool _)) H,aU fun _ _ H K=>R.asg (eU K 48 O) O H,Zt⟩ O O O O (tU O ?_)
     refine W.ret ?_
     exact Ends.one' (.inr O) O (O) O O Zt
   · refine W.l0 13 [.y 35 _,.y 36 _,.y 37 _,.y 38 _,.y 39 _,.y 40 _,.y 41 _,.y 42 _,.y 43 _,.y 44 _,.y 45 _,.y 46 _,.y 47 _] [] [] [(0,_),(1,_),(2,_),(3,_),(47,_)] [] 316 ⟨mU 0 O O,aU fun _ _ H K=>R.lenE (SC.sl (K 35 _ O)) (lN _) H,aU fun _ _ H K=>R.gtrN (vs.length) (60) (eU K 36 O) (kI 60 O) H,mU 37 O O,aW O O (gF (dF k1) O) fun _ _ H K=>R.mov (eU K 1 O) O H,aW O O (gF (dF k1) O) fun _ _ H K=>R.lenE (SC.sl (K 39 _ O)) (lN _) H,aW O O (gF (dF k1) O) fun _ _ H K=>R.gtrN (ws.length) (8) (eU K 40 O) (kI 8 O) H,aU fun _ _ H K=>R.pickF (eU K 38 O) (dF k1) (eU K 41 O) O H,mU 42 O O,aW O O (gF (dF k2) O) fun _ _ H K=>R.mov (eU K 1 O) O H,aW O O (gF (dF k2) O) fun _ _ H K=>R.lenE (SC.sl (K 44 _ O)) (lN _) H,aW O O (gF (dF k2) O) fun _ _ H K=>R.eqlN (ws.length) (0) (eU K 45 O) (kI 0 O) H,aU fun _ _ H K=>R.pickF (eU K 43 O) (dF k2) (eU K 46 O) O H,Zt⟩ O O O O (tU O ?_)
     refine W.condD O (fun hc47=>?_) (fun hc47=>?_)
     · refine W.seq ?_
       refine W.l0 2 [.y 48 _,.y 8 _] [] [] [(8,_)] [] 316 ⟨aU fun _ _ H _=>R.callG hC (works_ok) Bn (FrsR.one (.bool _)) H,aU fun _ _ H K=>R.asg (eU K 48 O) O H,Zt⟩ O O O O (tU O ?_)
       refine W.ret ?_
       exact Ends.one' (.inr O) O (O) O O Zt
     · refine W.skip (W.seq ?_)
       refine W.l0 4 [.y 49 _,.y 50 _,.y 51 _,.y 9 _] [] [] [(0,_),(1,_),(3,_),(9,_)] [] 316 ⟨mU 2 O O,aU fun _ _ H K=>R.bin (eU K 49 O) (show ev _ _ (.const (.int .u16 1000)) = some (.u16 1000) from O) O dU H,aU fun _ _ H K=>R.convE (d:=.u64 (rr rate)) (eU K 50 O) O (O) H,aU fun _ _ H K=>R.asg (eU K 51 O) O H,Zt⟩ O O O O (tU O ?_)
       refine W.seq ?_
       refine W.l0 1 [.y 10 _] [] [] [(0,_),(1,_),(3,_),(9,_),(10,_)] [] 316 ⟨aU fun _ _ H _=>R.asg (kN O) O H,Zt⟩ O O O O (tU O ?_)
       refine W.seq (W.seq ?_)
       refine W.l0 1 [.y 11 _] [] [] [(0,_),(1,_),(3,_),(9,_),(10,_),(11,_)] [] 316 ⟨aU fun _ _ H _=>R.asg (kI 0 O) O H,Zt⟩ O O O O (tU O ?_)
       refine W.block ?_
       refine W.asOwn (s:=10) 67 35 O ?_
       refine W.loop (α:={q__ : Nat // q__ <= vs.length}) (fun q__=>⟨316,[(0,.sl none 1 (vs.map D.u32)),(1,.sl none 1 (ws.map D.u32)),(3,.u32 more),(9,.u64 (rr rate)),(10,.sl (some 67) 35 ((cnF f0 vs q__.1).map coD)),(11,.int ((q__.1 : Nat) : Int))],[]⟩) (fun q__=>vs.length - q__.1) ⟨(0),bU⟩ O ?_
       rintro ⟨i,hi⟩
       show W _ _ _ _ ⟨316,[(0,.sl none 1 (vs.map D.u32)),(1,.sl none 1 (ws.map D.u32)),(3,.u32 more),(9,.u64 (rr rate)),(10,.sl (some 67) 35 ((cnF f0 vs i).map coD)),(11,.int ((i : Nat) : Int))],[]⟩
       have hi : i <= vs.length:=hi
       have hci:=cn_len f0 vs i
       refine W.seq (W.seq ?_)
       refine W.l0 4 [.y 52 _,.y 53 _,.y 54 _,.y 55 _] [] [] [(0,_),(1,_),(3,_),(9,_),(10,_),(11,_),(55,_)] [] 316 ⟨mU 11 O O,mU 0 O O,aU fun _ _ H K=>R.lenE (SC.sl (K 53 _ O)) (lN _) H,aU fun _ _ H K=>R.lssN (i) (vs.length) (eU K 52 O) (eU K 54 O) H,Zt⟩ O O O O (tU O ?_)
       refine W.condD O (fun hc55=>?_) (fun hc55=>?_)
       · refine W.skip (W.seq (W.block ?_))
         refine W.l0 12 [.y 58 _,.y 59 _,.y 60 _,.y 61 _,.y 62 _,.y 63 _,.y 64 _,.y 65 _,.y 66 _,.y 67 _,.y 68 _,.y 10 _] [(10,10),(11,68),(11,58)] [(10,10),(11,68)] [(0,_),(1,_),(3,_),(9,_),(10,_),(11,_)] [] 316 ⟨aU fun _ _ H K=>R.al (K 10 _ O) H dU,mU 11 O O,aU fun _ _ H K=>R.convE (d:=.u8 (f0 i)) (eU K 59 O) O (O) H,mU 0 O O,mU 11 O O,aU fun _ _ H K=>R.idxN (i) (SC.sl (K 61 _ O)) (evoI (eU K 62 O)) O bU H dU,aU fun _ _ H K=>R.ldE (K 63 _ O) (SC.sl (K 61 _ O)) (map_get! (l:=vs) bU) O O O O H,aU fun _ _ H K=>R.convE (d:=.u64 vs[i]!.toUInt64) (eU K 64 O) O (O) H,aU fun _ _ H K=>R.callG hC (coin_ok (f0 i) vs[i]!.toUInt64) (Bc (Bp (eU K 60 O) O O) (Bc (Bp (eU K 65 O) O O) Bn)) (FrsR.one (frs_coD _)) H,aU fun _ _ H K=>R.bslE (z:=35) (.cons (eU K 66 O) .nil) ⟨⟨O,O,O⟩,Zt⟩ O H dU,aU fun _ _ H K=>R.appE (Or.inr (K 58 _ O)) (K 10 _ O) (SrcO.sc (SC.sl (K 67 _ O)) (pur_lit O)) (show _ = ((cnF f0 vs (i + 1)).map coD) from (cnF_app _ _ _)) (by simp only [List.length_map,List.length_cons,List.length_nil,cn_len]; omega) H dU dU,aU fun _ _ H K=>R.asgO (K 68 _ O) O H dU,Zt⟩ O O O O (tU O ?_)
         refine W.l0 3 [.y 56 _,.y 57 _,.y 11 _] [] [] [(0,_),(1,_),(3,_),(9,_),(10,_),(11,_)] [] 316 ⟨mU 11 O O,aU fun _ _ H K=>R.addN (i) (1) (eU K 56 O) (kI 1 O) bU H,aU fun _ _ H K=>R.asg (eU K 57 O) O H,Zt⟩ O O O O (tU O ?_)
         exact ⟨⟨(i + 1),bU⟩,rfl,(by simp only []; omega)⟩
       · obtain rfl : i = vs.length:=by omega
         refine W.exit (W.seq ?_)
         refine W.l0 1 [.y 12 _] [] [] [(1,_),(3,_),(9,_),(10,_),(12,_)] [] 316 ⟨aU fun _ _ H _=>R.asg (kN O) O H,Zt⟩ O O O O (tU O ?_)
         refine W.seq ?_
         refine W.l0 1 [.y 13 _] [] [] [(1,_),(3,_),(9,_),(10,_),(12,_),(13,_)] [] 316 ⟨aU fun _ _ H _=>R.asg (show ev _ _ (.const (.int .u64 0)) = some (.u64 0) from O) O H,Zt⟩ O O O O (tU O ?_)
         refine W.seq (W.seq ?_)
         refine W.l0 1 [.y 14 _] [] [] [(1,_),(3,_),(9,_),(10,_),(12,_),(13,_),(14,_)] [] 316 ⟨aU fun _ _ H _=>R.asg (kI 0 O) O H,Zt⟩ O O O O (tU O ?_)
         refine W.block ?_
         refine W.asOwn (s:=12) 70 2 O ?_
         refine W.loop (α:={q__ : Nat // q__ <= ws.length}) (fun q__=>⟨316,[(1,.sl none 1 (ws.map D.u32)),(3,.u32 more),(9,.u64 (rr rate)),(10,.sl (some 67) 35 ((cnF f0 vs vs.length).map coD)),(12,.sl (some 70) 2 ((wnG fE ws q__.1).map wntN)),(13,.u64 (alI ws q__.1)),(14,.int ((q__.1 : Nat) : Int))],[]⟩) (fun q__=>ws.length - q__.1) ⟨(0),bU⟩ O ?_
         rintro ⟨i,hi⟩
         show W _ _ _ _ ⟨316,[(1,.sl none 1 (ws.map D.u32)),(3,.u32 more),(9,.u64 (rr rate)),(10,.sl (some 67) 35 ((cnF f0 vs vs.length).map coD)),(12,.sl (some 70) 2 ((wnG fE ws i).map wntN)),(13,.u64 (alI ws i)),(14,.int ((i : Nat) : Int))],[]⟩
         have hi : i <= ws.length:=hi
         have hwi:=wn_len fE ws i
         refine W.seq (W.seq ?_)
         refine W.l0 4 [.y 69 _,.y 70 _,.y 71 _,.y 72 _] [] [] [(1,_),(3,_),(9,_),(10,_),(12,_),(13,_),(14,_),(72,_)] [] 316 ⟨mU 14 O O,mU 1 O O,aU fun _ _ H K=>R.lenE (SC.sl (K 70 _ O)) (lN _) H,aU fun _ _ H K=>R.lssN (i) (ws.length) (eU K 69 O) (eU K 71 O) H,Zt⟩ O O O O (tU O ?_)
         refine W.condD O (fun hc72=>?_) (fun hc72=>?_)
         · refine W.skip (W.seq (W.block (W.seq ?_)))
           refine W.l0 11 [.y 75 _,.y 76 _,.y 77 _,.y 78 _,.y 79 _,.y 80 _,.y 81 _,.y 82 _,.y 83 _,.y 84 _,.y 12 _] [(9,12),(10,84),(10,75)] [(9,12),(10,84)] [(1,_),(3,_),(9,_),(10,_),(12,_),(13,_),(14,_)] [] 316 ⟨aU fun _ _ H K=>R.al (K 12 _ O) H dU,mU 1 O O,mU 14 O O,aU fun _ _ H K=>R.idxN (i) (SC.sl (K 76 _ O)) (evoI (eU K 77 O)) O bU H dU,aU fun _ _ H K=>R.ldE (K 78 _ O) (SC.sl (K 76 _ O)) (map_get! (l:=ws) bU) O O O O H,aU fun _ _ H K=>R.convE (d:=.u64 ws[i]!.toUInt64) (eU K 79 O) O (O) H,aU fun _ _ H K=>R.bin (show ev _ _ (.const (.int .u64 1)) = some (.u64 1) from O) (eU K 80 O) O Zt H,aU fun _ _ H K=>R.bldSE (l:=[.nils,.u64 0]) (l':=[_,_]) (.cons (eU K 81 O) (.nil O)) ⟨⟨_,(eU K 81 O),O,O,O⟩,Zt⟩ H,aU fun _ _ H K=>R.bslE (z:=2) (.cons (eU K 82 O) .nil) ⟨⟨O,O,O⟩,Zt⟩ O H dU,aU fun _ _ H K=>R.appE (Or.inr (K 75 _ O)) (K 12 _ O) (SrcO.sc (SC.sl (K 83 _ O)) (pur_lit O)) (show _ = ((wnG fE ws (i + 1)).map wntN) from (wnN_app _ _)) (by simp only [List.length_map,List.length_cons,List.length_nil,wn_len]; omega) H dU dU,aU fun _ _ H K=>R.asgO (K 84 _ O) O H dU,Zt⟩ O O O O (tU O ?_)
           refine W.l0 9 [.y 85 _,.y 86 _,.y 87 _,.y 88 _,.y 89 _,.y 90 _,.y 91 _,.y 92 _,.y 13 _] [] [] [(1,_),(3,_),(9,_),(10,_),(12,_),(13,_),(14,_)] [] 316 ⟨mU 13 O O,mU 1 O O,mU 14 O O,aU fun _ _ H K=>R.idxN (i) (SC.sl (K 86 _ O)) (evoI (eU K 87 O)) O bU H dU,aU fun _ _ H K=>R.ldE (K 88 _ O) (SC.sl (K 86 _ O)) (map_get! (l:=ws) bU) O O O O H,aU fun _ _ H K=>R.convE (d:=.u64 ws[i]!.toUInt64) (eU K 89 O) O (O) H,aU fun _ _ H K=>R.bin (show ev _ _ (.const (.int .u64 1)) = some (.u64 1) from O) (eU K 90 O) O Zt H,aU fun _ _ H K=>R.bin (eU K 85 O) (eU K 91 O) O Zt H,aU fun _ _ H K=>R.asg (eU K 92 O) O H,Zt⟩ O O O O (tU O ?_)
           refine W.l0 3 [.y 73 _,.y 74 _,.y 14 _] [] [] [(1,_),(3,_),(9,_),(10,_),(12,_),(13,_),(14,_)] [] 316 ⟨mU 14 O O,aU fun _ _ H K=>R.addN (i) (1) (eU K 73 O) (kI 1 O) bU H,aU fun _ _ H K=>R.asg (eU K 74 O) O H,Zt⟩ O O O O (tU O ?_)
           exact ⟨⟨(i + 1),bU⟩,rfl,(by simp only []; omega)⟩
         · obtain rfl : i = ws.length:=by omega
           refine W.exit (W.seq ?_)
           refine W.frzS (s:=10) (d':=.sl none 35 ((cnF f0 vs vs.length).map coD)) O O (brw_co _ _) ?_
           refine W.wkS (s:=12) (d':=.sl (some 70) 2 ((wnG fE ws ws.length).map wntD)) O O O (wk_wnN _ _ _) ?_
           refine W.frzS (s:=12) (d':=.sl none 2 ((wnG fE ws ws.length).map wntD)) O O (brw_wn _ _) ?_
           have hr9:=rr_le rate
           have G:=least_sane (vs:=vs) (ws:=ws) (rate:=rate) (r:=rr rate) (by omega) (by omega) (by omega) (by omega)
           rw [<- (wn_tot (ws:=ws) (n:=ws.length) fE_le (by omega) (by omega)).2]
           refine W.l0 11 [.y 94 _,.y 95 _,.y 96 _,.y 97 _,.y 93 _,.y 98 _,.y 99 _,.y 100 _,.y 15 _,.y 16 _,.y 17 _] [] [] [(3,_),(9,_),(10,_),(12,_),(13,_),(15,_),(16,_),(17,_)] [] 316 ⟨mU 10 O O,mU 12 O O,mU 9 O O,aU fun _ _ H K=>R.callPE hC (choose_ok (cnF f0 vs vs.length) (wnG fE ws ws.length) (rr rate) (by rw [cn_len]; omega) (cn_hs _ _ _) (by rw [wn_len]; omega)) (EvP.cons (eU K 94 O) O O (EvP.cons (eU K 95 O) O O (EvP.cons (eU K 96 O) O O EvP.nil))) H,aU fun _ _ H K=>R.movT (K 97 _ O) O H,aU fun _ _ H K=>R.ext (K 93 _ O) O O H,aU fun _ _ H K=>R.ext (K 93 _ O) O O H,aU fun _ _ H K=>R.ext (K 93 _ O) O O H,aU fun _ _ H K=>R.asg (eU K 98 O) O H,aU fun _ _ H K=>R.asg (eU K 99 O) O H,aU fun _ _ H K=>R.asg (eU K 100 O) O H,Zt⟩ O O O O (tU O ?_)
           refine W.seq (W.seq ?_)
           refine W.l0 2 [.y 101 _,.y 102 _] [] [] [(3,_),(9,_),(10,_),(12,_),(13,_),(15,_),(16,_),(17,_),(102,_)] [] 316 ⟨mU 17 O O,aU fun _ _ H K=>R.bin (eU K 101 O) (kI 0 O) O Zt H,Zt⟩ O O O O (tU O ?_)
           refine W.cond O (fun hc102=>?_) (fun hc102=>?_)
           · refine W.seq ?_
             have hbd:=G.bad (by simpa using hc102)
             refine W.l0 11 [.y 103 _,.y 104 _,.y 105 _,.y 106 _,.y 107 _,.y 108 _,.y 109 _,.y 110 _,.y 111 _,.y 112 _,.y 8 _] [] [] [(8,_)] [] 316 ⟨mU 17 O O,aU fun _ _ H K=>R.bin (eU K 103 O) (kI 14 O) O Zt H,mU 104 O O,aW O O (gT (by rw [hbd.1]; rfl) O) fun _ _ H K=>R.mov (eU K 15 O) O H,aW O O (gT (by rw [hbd.1]; rfl) O) fun _ _ H K=>R.lenE (SC.sl (K 106 _ O)) (lN _) H,aW O O (gT (by rw [hbd.1]; rfl) O) fun _ _ H K=>R.eqlN ((chC (cnF f0 vs vs.length) (wnG fE ws ws.length) (rr rate)).length) (0) (eU K 107 O) (kI 0 O) H,aU fun _ _ H K=>R.pickT (eU K 105 O) (by rw [hbd.1]; rfl) (eU K 108 O) O H,mU 109 O O,aW O O (gT (dT (by rw [hbd.2]; rfl)) O) fun _ _ H _=>R.callG hC (works_ok) Bn (FrsR.one (.bool _)) H,aU fun _ _ H K=>R.pickT (eU K 110 O) (dT (by rw [hbd.2]; rfl)) (eU K 111 O) O H,aU fun _ _ H K=>R.asg (eU K 112 O) O H,Zt⟩ O O O O (tU O ?_)
             refine W.ret ?_
             exact Ends.one' (.inr O) O (O) O O Zt
           · refine W.skip (W.seq (W.seq ?_))
             have hE : chE (cnF f0 vs vs.length) (wnG fE ws ws.length) (rr rate) = 0:=by simpa using hc102
             have hpos:=G.pos hE
             have hcl:=chC_len (cnF f0 vs vs.length) (wnG fE ws ws.length) (rr rate)
             have hch:=G.ch hE
             refine W.l0 3 [.y 113 _,.y 114 _,.y 115 _] [] [] [(3,_),(9,_),(10,_),(12,_),(13,_),(15,_),(16,_),(115,_)] [] 316 ⟨mU 15 O O,aU fun _ _ H K=>R.lenE (SC.sl (K 113 _ O)) (lN _) H,aU fun _ _ H K=>R.eqlN ((chC (cnF f0 vs vs.length) (wnG fE ws ws.length) (rr rate)).length) (0) (eU K 114 O) (kI 0 O) H,Zt⟩ O O O O (tU O ?_)
             refine W.condF O (dF hpos) ?_
             refine W.skip (W.seq ?_)
             refine W.l0 1 [.y 18 _] [] [] [(3,_),(9,_),(10,_),(12,_),(13,_),(15,_),(16,_),(18,_)] [] 316 ⟨aU fun _ _ H _=>R.asg (show ev _ _ (.const (.int .u64 0)) = some (.u64 0) from O) O H,Zt⟩ O O O O (tU O ?_)
             refine W.seq (W.seq ?_)
             refine W.l0 1 [.y 19 _] [] [] [(3,_),(9,_),(10,_),(12,_),(13,_),(15,_),(16,_),(18,_),(19,_)] [] 316 ⟨aU fun _ _ H _=>R.asg (kI 0 O) O H,Zt⟩ O O O O (tU O ?_)
             refine W.block ?_
             refine W.loop (α:={q__ : Nat // q__ <= (chC (cnF f0 vs vs.length) (wnG fE ws ws.length) (rr rate)).length}) (fun q__=>⟨316,[(3,.u32 more),(9,.u64 (rr rate)),(10,.sl none 35 ((cnF f0 vs vs.length).map coD)),(12,.sl none 2 ((wnG fE ws ws.length).map wntD)),(13,.u64 (totV (wnG fE ws ws.length))),(15,.sl none 35 ((chC (cnF f0 vs vs.length) (wnG fE ws ws.length) (rr rate)).map coD)),(16,.u64 (chV (cnF f0 vs vs.length) (wnG fE ws ws.length) (rr rate))),(18,.u64 (sumU (chC (cnF f0 vs vs.length) (wnG fE ws ws.length) (rr rate)) q__.1)),(19,.int ((q__.1 : Nat) : Int))],[]⟩) (fun q__=>(chC (cnF f0 vs vs.length) (wnG fE ws ws.length) (rr rate)).length - q__.1) ⟨(0),bU⟩ O ?_
             rintro ⟨i,hi⟩
             show W _ _ _ _ ⟨316,[(3,.u32 more),(9,.u64 (rr rate)),(10,.sl none 35 ((cnF f0 vs vs.length).map coD)),(12,.sl none 2 ((wnG fE ws ws.length).map wntD)),(13,.u64 (totV (wnG fE ws ws.length))),(15,.sl none 35 ((chC (cnF f0 vs vs.length) (wnG fE ws ws.length) (rr rate)).map coD)),(16,.u64 (chV (cnF f0 vs vs.length) (wnG fE ws ws.length) (rr rate))),(18,.u64 (sumU (chC (cnF f0 vs vs.length) (wnG fE ws ws.length) (rr rate)) i)),(19,.int ((i : Nat) : Int))],[]⟩
             have hi : i <= (chC (cnF f0 vs vs.length) (wnG fE ws ws.length) (rr rate)).length:=hi
             refine W.seq (W.seq ?_)
             refine W.l0 4 [.y 116 _,.y 117 _,.y 118 _,.y 119 _] [] [] [(3,_),(9,_),(10,_),(12,_),(13,_),(15,_),(16,_),(18,_),(19,_),(119,_)] [] 316 ⟨mU 19 O O,mU 15 O O,aU fun _ _ H K=>R.lenE (SC.sl (K 117 _ O)) (lN _) H,aU fun _ _ H K=>R.lssN (i) ((chC (cnF f0 vs vs.length) (wnG fE ws ws.length) (rr rate)).length) (eU K 116 O) (eU K 118 O) H,Zt⟩ O O O O (tU O ?_)
             refine W.condD O (fun hc119=>?_) (fun hc119=>?_)
             · refine W.skip (W.seq (W.block (W.seq (W.seq ?_))))
               by_cases z0 : 0 < i
               · refine W.draw (m:=16) (an:=[0,1,3,7,7,23,63,127,255,7,7,1543,3591,7687,16383,32767]) hP dU O (its:=[.y 122 _,.y 123 _,.y 124 _,.y 125 _,.y 126 _,.y 127 _,.y 128 _,.y 129 _,.y 130 _,.y 131 _,.y 132 _,.y 133 _,.y 134 _,.y 135 _,.y 136 _,.y 137 _]) (ks:=[]) (kk:=[]) (live:=[3,9,10,12,13,15,16,18,19,137]) (env':=[(3,_),(9,_),(10,_),(12,_),(13,_),(15,_),(16,_),(18,_),(19,_),(137,_)]) (⟨nU O,O,⟨mU 19 O O,aU fun _ _ H K=>R.gtrN (i) (0) (eU K 122 O) (kI 0 O) H,mU 123 O O,aW O O (gT (dT z0) O) fun _ _ H K=>R.mov (eU K 15 O) O H,aW O O (gT (dT z0) O) fun _ _ H K=>R.mov (eU K 19 O) O H,aW O O (gT (dT z0) O) fun _ _ H K=>R.subN (i) (1) (eU K 126 O) (kI 1 O) bU bU H,aW O O (gT (dT z0) O) fun _ _ H K=>R.idxN ((i - 1)) (SC.sl (K 125 _ O)) (evoI (eU K 127 O)) O bU H dU,aW O O (gT (dT z0) O) fun _ _ H K=>R.fdE (K 128 _ O) H dU,aW O O (gT (dT z0) O) fun _ _ H K=>R.ldE (K 129 _ O) (SC.sl (K 125 _ O)) (map_get! (l:=(chC (cnF f0 vs vs.length) (wnG fE ws ws.length) (rr rate))) bU) O O O O H,aW O O (gT (dT z0) O) fun _ _ H K=>R.mov (eU K 15 O) O H,aW O O (gT (dT z0) O) fun _ _ H K=>R.mov (eU K 19 O) O H,aW O O (gT (dT z0) O) fun _ _ H K=>R.idxN (i) (SC.sl (K 131 _ O)) (evoI (eU K 132 O)) O bU H dU,aW O O (gT (dT z0) O) fun _ _ H K=>R.fdE (K 133 _ O) H dU,aW O O (gT (dT z0) O) fun _ _ H K=>R.ldE (K 134 _ O) (SC.sl (K 131 _ O)) (map_get! (l:=(chC (cnF f0 vs vs.length) (wnG fE ws ws.length) (rr rate))) bU) O O O O H,aW O O (gT (dT z0) O) fun _ _ H K=>R.bin (eU K 130 O) (eU K 135 O) O Zt H,aU fun _ _ H K=>R.pickT (eU K 124 O) (dT z0) (eU K 136 O) O H,Zt⟩,O,O,O⟩) O (bx':=[]) O (n':=316) O (tV [(3,_),(9,_),(10,_),(12,_),(13,_),(15,_),(16,_),(18,_),(19,_),(137,_)] [] 316 O O O ?_)
                 refine W.condF O (dF (G.desc hE z0 hc119)) ?_
                 refine W.skip (W.seq ?_)
                 refine W.l0 10 [.y 139 _,.y 140 _,.y 141 _,.y 142 _,.y 143 _,.y 138 _,.y 144 _,.y 145 _,.y 20 _,.y 21 _] [] [] [(3,_),(9,_),(10,_),(12,_),(13,_),(15,_),(16,_),(18,_),(19,_),(20,_),(21,_)] [] 316 ⟨mU 19 O O,mU 12 O O,aU fun _ _ H K=>R.lenE (SC.sl (K 140 _ O)) (lN _) H,mU 9 O O,aU fun _ _ H K=>R.callG hC (fee_ok ((i : Nat) : Int) (((wnG fE ws ws.length).length : Nat) : Int) (rr rate)) (Bc (Bp (eU K 139 O) O O) (Bc (Bp (eU K 141 O) O O) (Bc (Bp (eU K 142 O) O O) Bn))) (FrsR.two (.u64 _) (.int _)) H,aU fun _ _ H K=>R.movT (K 143 _ O) O H,aU fun _ _ H K=>R.ext (K 138 _ O) O O H,aU fun _ _ H K=>R.ext (K 138 _ O) O O H,aU fun _ _ H K=>R.asg (eU K 144 O) O H,aU fun _ _ H K=>R.asg (eU K 145 O) O H,Zt⟩ O O O O (tU O ?_)
                 refine W.seq (W.seq ?_)
                 refine W.l0 13 [.y 146 _,.y 147 _,.y 148 _,.y 149 _,.y 150 _,.y 151 _,.y 152 _,.y 153 _,.y 154 _,.y 155 _,.y 156 _,.y 157 _,.y 158 _] [] [] [(3,_),(9,_),(10,_),(12,_),(13,_),(15,_),(16,_),(18,_),(19,_),(158,_)] [] 316 ⟨mU 21 O O,aU fun _ _ H K=>R.bin (eU K 146 O) (kI 0 O) O Zt H,mU 147 O O,aW O O (gF (G.fe (by have:=G.hn; omega) (by rw [wn_len]; omega)) O) fun _ _ H K=>R.mov (eU K 19 O) O H,aW O O (gF (G.fe (by have:=G.hn; omega) (by rw [wn_len]; omega)) O) fun _ _ H K=>R.gtrN (i) (0) (eU K 149 O) (kI 0 O) H,aW O O (gF (G.fe (by have:=G.hn; omega) (by rw [wn_len]; omega)) O) fun _ _ H K=>R.mov (eU K 150 O) O H,aW O O (gT (dT z0) O) fun _ _ H K=>R.mov (eU K 18 O) O H,aW O O (gT (dT z0) O) fun _ _ H K=>R.mov (eU K 13 O) O H,aW O O (gT (dT z0) O) fun _ _ H K=>R.mov (eU K 20 O) O H,aW O O (gT (dT z0) O) fun _ _ H K=>R.bin (eU K 153 O) (eU K 154 O) O Zt H,aW O O (gT (dT z0) O) fun _ _ H K=>R.bin (eU K 152 O) (eU K 155 O) O Zt H,aW O O (gF (G.fe (by have:=G.hn; omega) (by rw [wn_len]; omega)) O) fun _ _ H K=>R.pickT (eU K 151 O) (dT z0) (eU K 156 O) O H,aU fun _ _ H K=>R.pickF (eU K 148 O) (G.fe (by have:=G.hn; omega) (by rw [wn_len]; omega)) (eU K 157 O) O H,Zt⟩ O O O O (tU O ?_)
                 refine W.condF O (dF (G.low hE z0 hc119)) ?_
                 refine W.skip ?_
                 refine W.l0 8 [.y 159 _,.y 160 _,.y 161 _,.y 162 _,.y 163 _,.y 164 _,.y 165 _,.y 18 _] [] [] [(3,_),(9,_),(10,_),(12,_),(13,_),(15,_),(16,_),(18,_),(19,_)] [] 316 ⟨mU 18 O O,mU 15 O O,mU 19 O O,aU fun _ _ H K=>R.idxN (i) (SC.sl (K 160 _ O)) (evoI (eU K 161 O)) O bU H dU,aU fun _ _ H K=>R.fdE (K 162 _ O) H dU,aU fun _ _ H K=>R.ldE (K 163 _ O) (SC.sl (K 160 _ O)) (map_get! (l:=(chC (cnF f0 vs vs.length) (wnG fE ws ws.length) (rr rate))) bU) O O O O H,aU fun _ _ H K=>R.bin (eU K 159 O) (eU K 164 O) O Zt H,aU fun _ _ H K=>R.asg (eU K 165 O) O H,Zt⟩ O O O O (tU O ?_)
                 refine W.l0 3 [.y 120 _,.y 121 _,.y 19 _] [] [] [(3,_),(9,_),(10,_),(12,_),(13,_),(15,_),(16,_),(18,_),(19,_)] [] 316 ⟨mU 19 O O,aU fun _ _ H K=>R.addN (i) (1) (eU K 120 O) (kI 1 O) bU H,aU fun _ _ H K=>R.asg (eU K 121 O) O H,Zt⟩ O O O O (tU O ?_)
                 exact ⟨⟨(i + 1),bU⟩,rfl,(by simp only []; omega)⟩
               · refine W.draw (m:=16) (an:=[0,1,3,7,7,23,63,127,255,7,7,1543,3591,7687,16383,32767]) hP dU O (its:=[.y 122 _,.y 123 _,.y 124 _,.x 125,.x 126,.x 127,.x 128,.x 129,.x 130,.x 131,.x 132,.x 133,.x 134,.x 135,.x 136,.y 137 _]) (ks:=[]) (kk:=[]) (live:=[3,9,10,12,13,15,16,18,19,137]) (env':=[(3,_),(9,_),(10,_),(12,_),(13,_),(15,_),(16,_),(18,_),(19,_),(137,_)]) (⟨nU O,O,⟨mU 19 O O,aU fun _ _ H K=>R.gtrN (i) (0) (eU K 122 O) (kI 0 O) H,mU 123 O O,aF O O (gF (dF z0) O),aF O O (gF (dF z0) O),aF O O (gF (dF z0) O),aF O O (gF (dF z0) O),aF O O (gF (dF z0) O),aF O O (gF (dF z0) O),aF O O (gF (dF z0) O),aF O O (gF (dF z0) O),aF O O (gF (dF z0) O),aF O O (gF (dF z0) O),aF O O (gF (dF z0) O),aF O O (gF (dF z0) O),aU fun _ _ H K=>R.pickF (eU K 124 O) (dF z0) (kB false O) O H,Zt⟩,O,O,O⟩) O (bx':=[]) O (n':=316) O (tV [(3,_),(9,_),(10,_),(12,_),(13,_),(15,_),(16,_),(18,_),(19,_),(137,_)] [] 316 O O O ?_)
                 refine W.condF O (O) ?_
                 refine W.skip (W.seq ?_)
                 refine W.l0 10 [.y 139 _,.y 140 _,.y 141 _,.y 142 _,.y 143 _,.y 138 _,.y 144 _,.y 145 _,.y 20 _,.y 21 _] [] [] [(3,_),(9,_),(10,_),(12,_),(13,_),(15,_),(16,_),(18,_),(19,_),(20,_),(21,_)] [] 316 ⟨mU 19 O O,mU 12 O O,aU fun _ _ H K=>R.lenE (SC.sl (K 140 _ O)) (lN _) H,mU 9 O O,aU fun _ _ H K=>R.callG hC (fee_ok ((i : Nat) : Int) (((wnG fE ws ws.length).length : Nat) : Int) (rr rate)) (Bc (Bp (eU K 139 O) O O) (Bc (Bp (eU K 141 O) O O) (Bc (Bp (eU K 142 O) O O) Bn))) (FrsR.two (.u64 _) (.int _)) H,aU fun _ _ H K=>R.movT (K 143 _ O) O H,aU fun _ _ H K=>R.ext (K 138 _ O) O O H,aU fun _ _ H K=>R.ext (K 138 _ O) O O H,aU fun _ _ H K=>R.asg (eU K 144 O) O H,aU fun _ _ H K=>R.asg (eU K 145 O) O H,Zt⟩ O O O O (tU O ?_)
                 refine W.seq (W.seq ?_)
                 refine W.l0 13 [.y 146 _,.y 147 _,.y 148 _,.y 149 _,.y 150 _,.y 151 _,.x 152,.x 153,.x 154,.x 155,.x 156,.y 157 _,.y 158 _] [] [] [(3,_),(9,_),(10,_),(12,_),(13,_),(15,_),(16,_),(18,_),(19,_),(158,_)] [] 316 ⟨mU 21 O O,aU fun _ _ H K=>R.bin (eU K 146 O) (kI 0 O) O Zt H,mU 147 O O,aW O O (gF (G.fe (by have:=G.hn; omega) (by rw [wn_len]; omega)) O) fun _ _ H K=>R.mov (eU K 19 O) O H,aW O O (gF (G.fe (by have:=G.hn; omega) (by rw [wn_len]; omega)) O) fun _ _ H K=>R.gtrN (i) (0) (eU K 149 O) (kI 0 O) H,aW O O (gF (G.fe (by have:=G.hn; omega) (by rw [wn_len]; omega)) O) fun _ _ H K=>R.mov (eU K 150 O) O H,aF O O (gF (dF z0) O),aF O O (gF (dF z0) O),aF O O (gF (dF z0) O),aF O O (gF (dF z0) O),aF O O (gF (dF z0) O),aW O O (gF (G.fe (by have:=G.hn; omega) (by rw [wn_len]; omega)) O) fun _ _ H K=>R.pickF (eU K 151 O) (dF z0) (kB false O) O H,aU fun _ _ H K=>R.pickF (eU K 148 O) (G.fe (by have:=G.hn; omega) (by rw [wn_len]; omega)) (eU K 157 O) O H,Zt⟩ O O O O (tU O ?_)
                 refine W.condF O (O) ?_
                 refine W.skip ?_
                 refine W.l0 8 [.y 159 _,.y 160 _,.y 161 _,.y 162 _,.y 163 _,.y 164 _,.y 165 _,.y 18 _] [] [] [(3,_),(9,_),(10,_),(12,_),(13,_),(15,_),(16,_),(18,_),(19,_)] [] 316 ⟨mU 18 O O,mU 15 O O,mU 19 O O,aU fun _ _ H K=>R.idxN (i) (SC.sl (K 160 _ O)) (evoI (eU K 161 O)) O bU H dU,aU fun _ _ H K=>R.fdE (K 162 _ O) H dU,aU fun _ _ H K=>R.ldE (K 163 _ O) (SC.sl (K 160 _ O)) (map_get! (l:=(chC (cnF f0 vs vs.length) (wnG fE ws ws.length) (rr rate))) bU) O O O O H,aU fun _ _ H K=>R.bin (eU K 159 O) (eU K 164 O) O Zt H,aU fun _ _ H K=>R.asg (eU K 165 O) O H,Zt⟩ O O O O (tU O ?_)
                 refine W.l0 3 [.y 120 _,.y 121 _,.y 19 _] [] [] [(3,_),(9,_),(10,_),(12,_),(13,_),(15,_),(16,_),(18,_),(19,_)] [] 316 ⟨mU 19 O O,aU fun _ _ H K=>R.addN (i) (1) (eU K 120 O) (kI 1 O) bU H,aU fun _ _ H K=>R.asg (eU K 121 O) O H,Zt⟩ O O O O (tU O ?_)
                 exact ⟨⟨(i + 1),bU⟩,rfl,(by simp only []; omega)⟩
             · obtain rfl : i = (chC (cnF f0 vs vs.length) (wnG fE ws ws.length) (rr rate)).length:=by omega
               refine W.exit (W.seq (W.seq ?_))
               refine W.l0 1 [.y 22 _] [] [] [(3,_),(9,_),(10,_),(12,_),(13,_),(15,_),(16,_),(18,_),(22,_)] [] 316 ⟨aU fun _ _ H _=>R.asg (kI 0 O) O H,Zt⟩ O O O O (tU O ?_)
               refine W.block ?_
               refine W.loop (α:={q__ : Nat // q__ <= (cnF f0 vs vs.length).length}) (fun q__=>⟨316,[(3,.u32 more),(9,.u64 (rr rate)),(10,.sl none 35 ((cnF f0 vs vs.length).map coD)),(12,.sl none 2 ((wnG fE ws ws.length).map wntD)),(13,.u64 (totV (wnG fE ws ws.length))),(15,.sl none 35 ((chC (cnF f0 vs vs.length) (wnG fE ws ws.length) (rr rate)).map coD)),(16,.u64 (chV (cnF f0 vs vs.length) (wnG fE ws ws.length) (rr rate))),(18,.u64 (sumU (chC (cnF f0 vs vs.length) (wnG fE ws ws.length) (rr rate)) (chC (cnF f0 vs vs.length) (wnG fE ws ws.length) (rr rate)).length)),(22,.int ((q__.1 : Nat) : Int))],[]⟩) (fun q__=>(cnF f0 vs vs.length).length - q__.1) ⟨(0),bU⟩ O ?_
               rintro ⟨i,hi⟩
               show W _ _ _ _ ⟨316,[(3,.u32 more),(9,.u64 (rr rate)),(10,.sl none 35 ((cnF f0 vs vs.length).map coD)),(12,.sl none 2 ((wnG fE ws ws.length).map wntD)),(13,.u64 (totV (wnG fE ws ws.length))),(15,.sl none 35 ((chC (cnF f0 vs vs.length) (wnG fE ws ws.length) (rr rate)).map coD)),(16,.u64 (chV (cnF f0 vs vs.length) (wnG fE ws ws.length) (rr rate))),(18,.u64 (sumU (chC (cnF f0 vs vs.length) (wnG fE ws ws.length) (rr rate)) (chC (cnF f0 vs vs.length) (wnG fE ws ws.length) (rr rate)).length)),(22,.int ((i : Nat) : Int))],[]⟩
               have hi : i <= (cnF f0 vs vs.length).length:=hi
               refine W.seq (W.seq ?_)
               refine W.l0 4 [.y 166 _,.y 167 _,.y 168 _,.y 169 _] [] [] [(3,_),(9,_),(10,_),(12,_),(13,_),(15,_),(16,_),(18,_),(22,_),(169,_)] [] 316 ⟨mU 22 O O,mU 10 O O,aU fun _ _ H K=>R.lenE (SC.sl (K 167 _ O)) (lN _) H,aU fun _ _ H K=>R.lssN (i) ((cnF f0 vs vs.length).length) (eU K 166 O) (eU K 168 O) H,Zt⟩ O O O O (tU O ?_)
               refine W.condD O (fun hc169=>?_) (fun hc169=>?_)
               · refine W.skip (W.seq (W.block (W.seq ?_)))
                 refine W.l0 1 [.y 23 _] [] [] [(3,_),(9,_),(10,_),(12,_),(13,_),(15,_),(16,_),(18,_),(22,_),(23,_)] [] 316 ⟨aU fun _ _ H _=>R.asg (kI 0 O) O H,Zt⟩ O O O O (tU O ?_)
                 refine W.seq (W.seq ?_)
                 refine W.l0 1 [.y 24 _] [] [] [(3,_),(9,_),(10,_),(12,_),(13,_),(15,_),(16,_),(18,_),(22,_),(23,_),(24,_)] [] 316 ⟨aU fun _ _ H _=>R.asg (kI 0 O) O H,Zt⟩ O O O O (tU O ?_)
                 refine W.block ?_
                 refine W.loop (α:={q__ : Nat // q__ <= (chC (cnF f0 vs vs.length) (wnG fE ws ws.length) (rr rate)).length}) (fun q__=>⟨316,[(3,.u32 more),(9,.u64 (rr rate)),(10,.sl none 35 ((cnF f0 vs vs.length).map coD)),(12,.sl none 2 ((wnG fE ws ws.length).map wntD)),(13,.u64 (totV (wnG fE ws ws.length))),(15,.sl none 35 ((chC (cnF f0 vs vs.length) (wnG fE ws ws.length) (rr rate)).map coD)),(16,.u64 (chV (cnF f0 vs vs.length) (wnG fE ws ws.length) (rr rate))),(18,.u64 (sumU (chC (cnF f0 vs vs.length) (wnG fE ws ws.length) (rr rate)) (chC (cnF f0 vs vs.length) (wnG fE ws ws.length) (rr rate)).length)),(22,.int ((i : Nat) : Int)),(23,.int (((cntK (chC (cnF f0 vs vs.length) (wnG fE ws ws.length) (rr rate)) (cnF f0 vs vs.length)[i]! q__.1) : Nat) : Int)),(24,.int ((q__.1 : Nat) : Int))],[]⟩) (fun q__=>(chC (cnF f0 vs vs.length) (wnG fE ws ws.length) (rr rate)).length - q__.1) ⟨(0),bU⟩ O ?_
                 rintro ⟨k,hk⟩
                 show W _ _ _ _ ⟨316,[(3,.u32 more),(9,.u64 (rr rate)),(10,.sl none 35 ((cnF f0 vs vs.length).map coD)),(12,.sl none 2 ((wnG fE ws ws.length).map wntD)),(13,.u64 (totV (wnG fE ws ws.length))),(15,.sl none 35 ((chC (cnF f0 vs vs.length) (wnG fE ws ws.length) (rr rate)).map coD)),(16,.u64 (chV (cnF f0 vs vs.length) (wnG fE ws ws.length) (rr rate))),(18,.u64 (sumU (chC (cnF f0 vs vs.length) (wnG fE ws ws.length) (rr rate)) (chC (cnF f0 vs vs.length) (wnG fE ws ws.length) (rr rate)).length)),(22,.int ((i : Nat) : Int)),(23,.int (((cntK (chC (cnF f0 vs vs.length) (wnG fE ws ws.length) (rr rate)) (cnF f0 vs vs.length)[i]! k) : Nat) : Int)),(24,.int ((k : Nat) : Int))],[]⟩
                 have hk : k <= (chC (cnF f0 vs vs.length) (wnG fE ws ws.length) (rr rate)).length:=hk
                 refine W.seq (W.seq ?_)
                 refine W.l0 4 [.y 172 _,.y 173 _,.y 174 _,.y 175 _] [] [] [(3,_),(9,_),(10,_),(12,_),(13,_),(15,_),(16,_),(18,_),(22,_),(23,_),(24,_),(175,_)] [] 316 ⟨mU 24 O O,mU 15 O O,aU fun _ _ H K=>R.lenE (SC.sl (K 173 _ O)) (lN _) H,aU fun _ _ H K=>R.lssN (k) ((chC (cnF f0 vs vs.length) (wnG fE ws ws.length) (rr rate)).length) (eU K 172 O) (eU K 174 O) H,Zt⟩ O O O O (tU O ?_)
                 refine W.condD O (fun hc175=>?_) (fun hc175=>?_)
                 · refine W.skip (W.seq (W.block (W.seq ?_)))
                   refine W.draw (m:=9) (an:=[0,0,3,7,0,0,48,112,255]) hP dU O (its:=[.y 178 _,.y 179 _,.y 180 _,.y 181 _,.y 182 _,.y 183 _,.y 184 _,.y 185 _,.y 186 _]) (ks:=[]) (kk:=[]) (live:=[3,9,10,12,13,15,16,18,22,23,24,186]) (env':=[(3,_),(9,_),(10,_),(12,_),(13,_),(15,_),(16,_),(18,_),(22,_),(23,_),(24,_),(186,_)]) (⟨nU O,O,⟨mU 15 O O,mU 24 O O,aU fun _ _ H K=>R.idxN (k) (SC.sl (K 178 _ O)) (evoI (eU K 179 O)) O bU H dU,aU fun _ _ H K=>R.ldE (K 180 _ O) (SC.sl (K 178 _ O)) (map_get! (l:=(chC (cnF f0 vs vs.length) (wnG fE ws ws.length) (rr rate))) bU) O O O O H,mU 10 O O,mU 22 O O,aU fun _ _ H K=>R.idxN (i) (SC.sl (K 182 _ O)) (evoI (eU K 183 O)) O bU H dU,aU fun _ _ H K=>R.ldE (K 184 _ O) (SC.sl (K 182 _ O)) (map_get! (l:=(cnF f0 vs vs.length)) bU) O O O O H,aU fun _ _ H K=>R.eqD (neg:=false) (b':=((chC (cnF f0 vs vs.length) (wnG fE ws ws.length) (rr rate))[k]! == (cnF f0 vs vs.length)[i]!)) (eqv_un (chC (cnF f0 vs vs.length) (wnG fE ws ws.length) (rr rate))[k]! (cnF f0 vs vs.length)[i]!) O (eU K 181 O) (eU K 185 O) O O O O (O) H,Zt⟩,O,O,O⟩) O (bx':=[]) O (n':=316) O (tV [(3,_),(9,_),(10,_),(12,_),(13,_),(15,_),(16,_),(18,_),(22,_),(23,_),(24,_),(186,_)] [] 316 O O O ?_)
                   refine W.cond O (fun hc186=>?_) (fun hc186=>?_)
                   · have hck:=cnt_le (chC (cnF f0 vs vs.length) (wnG fE ws ws.length) (rr rate)) (cnF f0 vs vs.length)[i]! k
                     refine W.l0 3 [.y 187 _,.y 188 _,.y 23 _] [] [] [(3,_),(9,_),(10,_),(12,_),(13,_),(15,_),(16,_),(18,_),(22,_),(23,_),(24,_)] [] 316 ⟨mU 23 O O,aU fun _ _ H K=>R.addN ((cntK (chC (cnF f0 vs vs.length) (wnG fE ws ws.length) (rr rate)) (cnF f0 vs vs.length)[i]! k)) (1) (eU K 187 O) (kI 1 O) bU H,aU fun _ _ H K=>R.asg (eU K 188 O) O H,Zt⟩ O O O O (tU O ?_)
                     refine W.l0 3 [.y 176 _,.y 177 _,.y 24 _] [] [] [(3,_),(9,_),(10,_),(12,_),(13,_),(15,_),(16,_),(18,_),(22,_),(23,_),(24,_)] [] 316 ⟨mU 24 O O,aU fun _ _ H K=>R.addN (k) (1) (eU K 176 O) (kI 1 O) bU H,aU fun _ _ H K=>R.asg (eU K 177 O) O H,Zt⟩ O O O O (tU O ?_)
                     exact ⟨⟨(k + 1),bU⟩,(by first | (dsimp only; rw [cnt_y hc186]) | (dsimp only; rw [cnt_n hc186])),(by simp only []; omega)⟩
                   · refine W.skip ?_
                     refine W.l0 3 [.y 176 _,.y 177 _,.y 24 _] [] [] [(3,_),(9,_),(10,_),(12,_),(13,_),(15,_),(16,_),(18,_),(22,_),(23,_),(24,_)] [] 316 ⟨mU 24 O O,aU fun _ _ H K=>R.addN (k) (1) (eU K 176 O) (kI 1 O) bU H,aU fun _ _ H K=>R.asg (eU K 177 O) O H,Zt⟩ O O O O (tU O ?_)
                     exact ⟨⟨(k + 1),bU⟩,(by first | (dsimp only; rw [cnt_y hc186]) | (dsimp only; rw [cnt_n hc186])),(by simp only []; omega)⟩
                 · obtain rfl : k = (chC (cnF f0 vs vs.length) (wnG fE ws ws.length) (rr rate)).length:=by omega
                   refine W.exit (W.seq ?_)
                   by_cases tz : cntK (chC (cnF f0 vs vs.length) (wnG fE ws ws.length) (rr rate)) (cnF f0 vs vs.length)[i]! (chC (cnF f0 vs vs.length) (wnG fE ws ws.length) (rr rate)).length = 0
                   · have ht1:=G.times hE (cnF f0 vs vs.length)[i]! _ (Nat.le_refl _)
                     refine W.draw (m:=21) (an:=[0,1,3,7,15,31,63,63,255,511,1023,63,63,4159,12351,30783,63551,129087,262143,524287,1048575]) hP dU O (its:=[.y 189 _,.y 190 _,.y 191 _,.y 192 _,.y 193 _,.y 194 _,.y 195 _,.y 196 _,.y 197 _,.y 198 _,.y 199 _,.y 200 _,.y 201 _,.y 202 _,.y 203 _,.y 204 _,.y 205 _,.y 206 _,.y 207 _,.y 208 _,.y 209 _]) (ks:=[]) (kk:=[]) (live:=[3,9,10,12,13,15,16,18,22,209]) (env':=[(3,_),(9,_),(10,_),(12,_),(13,_),(15,_),(16,_),(18,_),(22,_),(209,_)]) (⟨nU O,O,⟨mU 23 O O,aU fun _ _ H K=>R.gtrN ((cntK (chC (cnF f0 vs vs.length) (wnG fE ws ws.length) (rr rate)) (cnF f0 vs vs.length)[i]! (chC (cnF f0 vs vs.length) (wnG fE ws ws.length) (rr rate)).length)) (1) (eU K 189 O) (kI 1 O) H,mU 190 O O,aW O O (gF (dF (by omega)) O) fun _ _ H K=>R.mov (eU K 23 O) O H,aW O O (gF (dF (by omega)) O) fun _ _ H K=>R.eqlN ((cntK (chC (cnF f0 vs vs.length) (wnG fE ws ws.length) (rr rate)) (cnF f0 vs vs.length)[i]! (chC (cnF f0 vs vs.length) (wnG fE ws ws.length) (rr rate)).length)) (0) (eU K 192 O) (kI 0 O) H,aW O O (gF (dF (by omega)) O) fun _ _ H K=>R.mov (eU K 193 O) O H,aW O O (gT (dT tz) O) fun _ _ H K=>R.mov (eU K 10 O) O H,aW O O (gT (dT tz) O) fun _ _ H K=>R.mov (eU K 22 O) O H,aW O O (gT (dT tz) O) fun _ _ H K=>R.idxN (i) (SC.sl (K 195 _ O)) (evoI (eU K 196 O)) O bU H dU,aW O O (gT (dT tz) O) fun _ _ H K=>R.fdE (K 197 _ O) H dU,aW O O (gT (dT tz) O) fun _ _ H K=>R.ldE (K 198 _ O) (SC.sl (K 195 _ O)) (map_get! (l:=(cnF f0 vs vs.length)) bU) O O O O H,aW O O (gT (dT tz) O) fun _ _ H K=>R.mov (eU K 15 O) O H,aW O O (gT (dT tz) O) fun _ _ H K=>R.mov (eU K 15 O) O H,aW O O (gT (dT tz) O) fun _ _ H K=>R.lenE (SC.sl (K 201 _ O)) (lN _) H,aW O O (gT (dT tz) O) fun _ _ H K=>R.subN ((chC (cnF f0 vs vs.length) (wnG fE ws ws.length) (rr rate)).length) (1) (eU K 202 O) (kI 1 O) bU bU H,aW O O (gT (dT tz) O) fun _ _ H K=>R.idxN (((chC (cnF f0 vs vs.length) (wnG fE ws ws.length) (rr rate)).length - 1)) (SC.sl (K 200 _ O)) (evoI (eU K 203 O)) O bU H dU,aW O O (gT (dT tz) O) fun _ _ H K=>R.fdE (K 204 _ O) H dU,aW O O (gT (dT tz) O) fun _ _ H K=>R.ldE (K 205 _ O) (SC.sl (K 200 _ O)) (map_get! (l:=(chC (cnF f0 vs vs.length) (wnG fE ws ws.length) (rr rate))) bU) O O O O H,aW O O (gT (dT tz) O) fun _ _ H K=>R.bin (eU K 199 O) (eU K 206 O) O Zt H,aW O O (gF (dF (by omega)) O) fun _ _ H K=>R.pickT (eU K 194 O) (dT tz) (eU K 207 O) O H,aU fun _ _ H K=>R.pickF (eU K 191 O) (dF (by omega)) (eU K 208 O) O H,Zt⟩,O,O,O⟩) O (bx':=[]) O (n':=316) O (tV [(3,_),(9,_),(10,_),(12,_),(13,_),(15,_),(16,_),(18,_),(22,_),(209,_)] [] 316 O O O ?_)
                     refine W.condF O (dF (G.out hE hc169 tz)) ?_
                     refine W.skip ?_
                     refine W.l0 3 [.y 170 _,.y 171 _,.y 22 _] [] [] [(3,_),(9,_),(10,_),(12,_),(13,_),(15,_),(16,_),(18,_),(22,_)] [] 316 ⟨mU 22 O O,aU fun _ _ H K=>R.addN (i) (1) (eU K 170 O) (kI 1 O) bU H,aU fun _ _ H K=>R.asg (eU K 171 O) O H,Zt⟩ O O O O (tU O ?_)
                     exact ⟨⟨(i + 1),bU⟩,rfl,(by simp only []; omega)⟩
                   · have ht1:=G.times hE (cnF f0 vs vs.length)[i]! _ (Nat.le_refl _)
                     refine W.draw (m:=21) (an:=[0,1,3,7,15,31,63,63,255,511,1023,63,63,4159,12351,30783,63551,129087,262143,524287,1048575]) hP dU O (its:=[.y 189 _,.y 190 _,.y 191 _,.y 192 _,.y 193 _,.y 194 _,.x 195,.x 196,.x 197,.x 198,.x 199,.x 200,.x 201,.x 202,.x 203,.x 204,.x 205,.x 206,.x 207,.y 208 _,.y 209 _]) (ks:=[]) (kk:=[]) (live:=[3,9,10,12,13,15,16,18,22,209]) (env':=[(3,_),(9,_),(10,_),(12,_),(13,_),(15,_),(16,_),(18,_),(22,_),(209,_)]) (⟨nU O,O,⟨mU 23 O O,aU fun _ _ H K=>R.gtrN ((cntK (chC (cnF f0 vs vs.length) (wnG fE ws ws.length) (rr rate)) (cnF f0 vs vs.length)[i]! (chC (cnF f0 vs vs.length) (wnG fE ws ws.length) (rr rate)).length)) (1) (eU K 189 O) (kI 1 O) H,mU 190 O O,aW O O (gF (dF (by omega)) O) fun _ _ H K=>R.mov (eU K 23 O) O H,aW O O (gF (dF (by omega)) O) fun _ _ H K=>R.eqlN ((cntK (chC (cnF f0 vs vs.length) (wnG fE ws ws.length) (rr rate)) (cnF f0 vs vs.length)[i]! (chC (cnF f0 vs vs.length) (wnG fE ws ws.length) (rr rate)).length)) (0) (eU K 192 O) (kI 0 O) H,aW O O (gF (dF (by omega)) O) fun _ _ H K=>R.mov (eU K 193 O) O H,aF O O (gF (dF tz) O),aF O O (gF (dF tz) O),aF O O (gF (dF tz) O),aF O O (gF (dF tz) O),aF O O (gF (dF tz) O),aF O O (gF (dF tz) O),aF O O (gF (dF tz) O),aF O O (gF (dF tz) O),aF O O (gF (dF tz) O),aF O O (gF (dF tz) O),aF O O (gF (dF tz) O),aF O O (gF (dF tz) O),aF O O (gF (dF tz) O),aW O O (gF (dF (by omega)) O) fun _ _ H K=>R.pickF (eU K 194 O) (dF tz) (kB false O) O H,aU fun _ _ H K=>R.pickF (eU K 191 O) (dF (by omega)) (eU K 208 O) O H,Zt⟩,O,O,O⟩) O (bx':=[]) O (n':=316) O (tV [(3,_),(9,_),(10,_),(12,_),(13,_),(15,_),(16,_),(18,_),(22,_),(209,_)] [] 316 O O O ?_)
                     refine W.condF O (O) ?_
                     refine W.skip ?_
                     refine W.l0 3 [.y 170 _,.y 171 _,.y 22 _] [] [] [(3,_),(9,_),(10,_),(12,_),(13,_),(15,_),(16,_),(18,_),(22,_)] [] 316 ⟨mU 22 O O,aU fun _ _ H K=>R.addN (i) (1) (eU K 170 O) (kI 1 O) bU H,aU fun _ _ H K=>R.asg (eU K 171 O) O H,Zt⟩ O O O O (tU O ?_)
                     exact ⟨⟨(i + 1),bU⟩,rfl,(by simp only []; omega)⟩
               · obtain rfl : i = (cnF f0 vs vs.length).length:=by omega
                 refine W.exit (W.seq ?_)
                 refine W.l0 11 [.y 211 _,.y 212 _,.y 213 _,.y 214 _,.y 215 _,.y 216 _,.y 210 _,.y 217 _,.y 218 _,.y 25 _,.y 26 _] [] [] [(3,_),(9,_),(10,_),(12,_),(13,_),(15,_),(16,_),(18,_),(25,_),(26,_)] [] 316 ⟨mU 15 O O,aU fun _ _ H K=>R.lenE (SC.sl (K 211 _ O)) (lN _) H,mU 12 O O,aU fun _ _ H K=>R.lenE (SC.sl (K 213 _ O)) (lN _) H,mU 9 O O,aU fun _ _ H K=>R.callG hC (fee_ok (((chC (cnF f0 vs vs.length) (wnG fE ws ws.length) (rr rate)).length : Nat) : Int) (((wnG fE ws ws.length).length : Nat) : Int) (rr rate)) (Bc (Bp (eU K 212 O) O O) (Bc (Bp (eU K 214 O) O O) (Bc (Bp (eU K 215 O) O O) Bn))) (FrsR.two (.u64 _) (.int _)) H,aU fun _ _ H K=>R.movT (K 216 _ O) O H,aU fun _ _ H K=>R.ext (K 210 _ O) O O H,aU fun _ _ H K=>R.ext (K 210 _ O) O O H,aU fun _ _ H K=>R.asg (eU K 217 O) O H,aU fun _ _ H K=>R.asg (eU K 218 O) O H,Zt⟩ O O O O (tU O ?_)
                 refine W.seq ?_
                 refine W.l0 12 [.y 220 _,.y 221 _,.y 222 _,.y 223 _,.y 224 _,.y 225 _,.y 226 _,.y 219 _,.y 227 _,.y 228 _,.y 27 _,.y 28 _] [] [] [(3,_),(9,_),(10,_),(12,_),(13,_),(15,_),(16,_),(18,_),(25,_),(26,_),(27,_),(28,_)] [] 316 ⟨mU 15 O O,aU fun _ _ H K=>R.lenE (SC.sl (K 220 _ O)) (lN _) H,mU 12 O O,aU fun _ _ H K=>R.lenE (SC.sl (K 222 _ O)) (lN _) H,aU fun _ _ H K=>R.addN ((wnG fE ws ws.length).length) (1) (eU K 223 O) (kI 1 O) bU H,mU 9 O O,aU fun _ _ H K=>R.callG hC (fee_ok (((chC (cnF f0 vs vs.length) (wnG fE ws ws.length) (rr rate)).length : Nat) : Int) (((wnG fE ws ws.length).length + 1 : Nat) : Int) (rr rate)) (Bc (Bp (eU K 221 O) O O) (Bc (Bp (eU K 224 O) O O) (Bc (Bp (eU K 225 O) O O) Bn))) (FrsR.two (.u64 _) (.int _)) H,aU fun _ _ H K=>R.movT (K 226 _ O) O H,aU fun _ _ H K=>R.ext (K 219 _ O) O O H,aU fun _ _ H K=>R.ext (K 219 _ O) O O H,aU fun _ _ H K=>R.asg (eU K 227 O) O H,aU fun _ _ H K=>R.asg (eU K 228 O) O H,Zt⟩ O O O O (tU O ?_)
                 refine W.seq (W.seq ?_)
                 by_cases cz : 0 < (chV (cnF f0 vs vs.length) (wnG fE ws ws.length) (rr rate))
                 · refine W.l0 42 (.y 229 _ :: .y 230 _ :: .y 231 _ :: .y 232 _ :: .y 233 _ :: .y 234 _ :: .y 235 _ :: .y 236 _ :: .y 237 _ :: .y 238 _ :: .y 239 _ :: .y 240 _ :: .y 241 _ :: .y 242 _ :: .y 243 _ :: .y 244 _ :: .y 245 _ :: .y 246 _ :: .y 247 _ :: .y 248 _ :: .y 249 _ :: .y 250 _ :: .y 251 _ :: .y 252 _ :: .y 253 _ :: .y 254 _ :: .y 255 _ :: .y 256 _ :: .y 257 _ :: .y 258 _ :: .y 259 _ :: .y 260 _ :: .y 261 _ :: .y 262 _ :: .x 263 :: .x 264 :: .x 265 :: .x 266 :: .x 267 :: .x 268 :: .y 269 _ :: .y 270 _ :: []) [] [] [(3,_),(9,_),(10,_),(12,_),(15,_),(270,_)] [] 316 ⟨mU 26 O O,aU fun _ _ H K=>R.bin (eU K 229 O) (kI 0 O) O Zt H,mU 230 O O,aW O O (gF (G.fe (by have:=G.hn; omega) (by rw [wn_len]; omega)) O) fun _ _ H K=>R.mov (eU K 28 O) O H,aW O O (gF (G.fe (by have:=G.hn; omega) (by rw [wn_len]; omega)) O) fun _ _ H K=>R.bin (eU K 232 O) (kI 0 O) O Zt H,aU fun _ _ H K=>R.pickF (eU K 231 O) (G.fe (by have:=G.hn; omega) (by rw [wn_len]; omega)) (eU K 233 O) O H,mU 234 O O,aW O O (gF (G.fe (by have:=G.hn; omega) (by rw [wn_len]; omega)) O) fun _ _ H K=>R.mov (eU K 18 O) O H,aW O O (gF (G.fe (by have:=G.hn; omega) (by rw [wn_len]; omega)) O) fun _ _ H K=>R.mov (eU K 13 O) O H,aW O O (gF (G.fe (by have:=G.hn; omega) (by rw [wn_len]; omega)) O) fun _ _ H K=>R.mov (eU K 25 O) O H,aW O O (gF (G.fe (by have:=G.hn; omega) (by rw [wn_len]; omega)) O) fun _ _ H K=>R.bin (eU K 237 O) (eU K 238 O) O Zt H,aW O O (gF (G.fe (by have:=G.hn; omega) (by rw [wn_len]; omega)) O) fun _ _ H K=>R.bin (eU K 236 O) (eU K 239 O) O Zt H,aU fun _ _ H K=>R.pickF (eU K 235 O) (G.fe (by have:=G.hn; omega) (by rw [wn_len]; omega)) (eU K 240 O) O H,mU 241 O O,aW O O (gF (dF (G.hi hE)) O) fun _ _ H K=>R.mov (eU K 16 O) O H,aW O O (gF (dF (G.hi hE)) O) fun _ _ H K=>R.bin (eU K 243 O) (show ev _ _ (.const (.int .u64 0)) = some (.u64 0) from O) O Zt H,aW O O (gF (dF (G.hi hE)) O) fun _ _ H K=>R.mov (eU K 244 O) O H,aW O O (gT (dT cz) O) fun _ _ H K=>R.mov (eU K 16 O) O H,aW O O (gT (dT cz) O) fun _ _ H K=>R.bin (eU K 246 O) (show ev _ _ (.const (.int .u64 546)) = some (.u64 546) from O) O Zt H,aW O O (gT (dT cz) O) fun _ _ H K=>R.mov (eU K 247 O) O H,aW O O (gF (dF (hch.1 cz).1) O) fun _ _ H K=>R.mov (eU K 18 O) O H,aW O O (gF (dF (hch.1 cz).1) O) fun _ _ H K=>R.mov (eU K 13 O) O H,aW O O (gF (dF (hch.1 cz).1) O) fun _ _ H K=>R.mov (eU K 27 O) O H,aW O O (gF (dF (hch.1 cz).1) O) fun _ _ H K=>R.bin (eU K 250 O) (eU K 251 O) O Zt H,aW O O (gF (dF (hch.1 cz).1) O) fun _ _ H K=>R.mov (eU K 16 O) O H,aW O O (gF (dF (hch.1 cz).1) O) fun _ _ H K=>R.bin (eU K 252 O) (eU K 253 O) O Zt H,aW O O (gF (dF (hch.1 cz).1) O) fun _ _ H K=>R.bin (eU K 249 O) (eU K 254 O) O Zt H,aW O O (gT (dT cz) O) fun _ _ H K=>R.pickF (eU K 248 O) (dF (hch.1 cz).1) (eU K 255 O) O H,aW O O (gF (dF (G.hi hE)) O) fun _ _ H K=>R.pickT (eU K 245 O) (dT cz) (eU K 256 O) O H,aU fun _ _ H K=>R.pickF (eU K 242 O) (dF (G.hi hE)) (eU K 257 O) O H,mU 258 O O,aW O O (gF (neF (hch.1 cz).2) O) fun _ _ H K=>R.mov (eU K 16 O) O H,aW O O (gF (neF (hch.1 cz).2) O) fun _ _ H K=>R.bin (eU K 260 O) (show ev _ _ (.const (.int .u64 0)) = some (.u64 0) from O) O Zt H,aW O O (gF (neF (hch.1 cz).2) O) fun _ _ H K=>R.mov (eU K 261 O) O H,aF O O (gF (pos_ne cz) O),aF O O (gF (pos_ne cz) O),aF O O (gF (pos_ne cz) O),aF O O (gF (pos_ne cz) O),aF O O (gF (pos_ne cz) O),aF O O (gF (pos_ne cz) O),aW O O (gF (neF (hch.1 cz).2) O) fun _ _ H K=>R.pickF (eU K 262 O) (pos_ne cz) (kB false O) O H,aU fun _ _ H K=>R.pickF (eU K 259 O) (neF (hch.1 cz).2) (eU K 269 O) O H,Zt⟩ O O O O (tU O ?_)
                   refine W.condF O (O) ?_
                   refine W.skip (W.seq ?_)
                   refine W.l0 12 [.y 272 _,.y 273 _,.y 274 _,.y 275 _,.y 276 _,.y 271 _,.y 277 _,.y 278 _,.y 279 _,.y 29 _,.y 30 _,.y 31 _] [] [] [(3,_),(9,_),(10,_),(12,_),(15,_),(29,_),(31,_)] [] 316 ⟨mU 10 O O,mU 12 O O,mU 9 O O,aU fun _ _ H K=>R.bin (eU K 274 O) (show ev _ _ (.const (.int .u64 1)) = some (.u64 1) from O) O Zt H,aU fun _ _ H K=>R.callPE hC (choose_ok (cnF f0 vs vs.length) (wnG fE ws ws.length) (rr rate + 1) (by rw [cn_len]; omega) (cn_hs _ _ _) (by rw [wn_len]; omega)) (EvP.cons (eU K 272 O) O O (EvP.cons (eU K 273 O) O O (EvP.cons (eU K 275 O) O O EvP.nil))) H,aU fun _ _ H K=>R.movT (K 276 _ O) O H,aU fun _ _ H K=>R.ext (K 271 _ O) O O H,aU fun _ _ H K=>R.ext (K 271 _ O) O O H,aU fun _ _ H K=>R.ext (K 271 _ O) O O H,aU fun _ _ H K=>R.asg (eU K 277 O) O H,aU fun _ _ H K=>R.asg (eU K 278 O) O H,aU fun _ _ H K=>R.asg (eU K 279 O) O H,Zt⟩ O O O O (tU O ?_)
                   refine W.seq (W.seq ?_)
                   by_cases dz : chE (cnF f0 vs vs.length) (wnG fE ws ws.length) (rr rate + 1) = 0
                   · have hr1:=rr_succ rate
                     have G2:=least_sane (vs:=vs) (ws:=ws) (rate:=rate) (r:=rr rate + 1) (by omega) (by omega) (by omega) (by omega)
                     refine W.l0 9 [.y 280 _,.y 281 _,.y 282 _,.y 283 _,.y 284 _,.y 285 _,.y 286 _,.y 287 _,.y 288 _] [] [] [(3,_),(9,_),(10,_),(12,_),(15,_),(288,_)] [] 316 ⟨mU 31 O O,aU fun _ _ H K=>R.bin (eU K 280 O) (kI 0 O) O Zt H,mU 281 O O,aW O O (gT (beq_iff_eq.2 dz) O) fun _ _ H K=>R.mov (eU K 29 O) O H,aW O O (gT (beq_iff_eq.2 dz) O) fun _ _ H K=>R.lenE (SC.sl (K 283 _ O)) (lN _) H,aW O O (gT (beq_iff_eq.2 dz) O) fun _ _ H K=>R.mov (eU K 15 O) O H,aW O O (gT (beq_iff_eq.2 dz) O) fun _ _ H K=>R.lenE (SC.sl (K 285 _ O)) (lN _) H,aW O O (gT (beq_iff_eq.2 dz) O) fun _ _ H K=>R.lssN ((chC (cnF f0 vs vs.length) (wnG fE ws ws.length) (rr rate + 1)).length) ((chC (cnF f0 vs vs.length) (wnG fE ws ws.length) (rr rate)).length) (eU K 284 O) (eU K 286 O) H,aU fun _ _ H K=>R.pickT (eU K 282 O) (beq_iff_eq.2 dz) (eU K 287 O) O H,Zt⟩ O O O O (tU O ?_)
                     refine W.condF O (dF (G.rate G2 hr1 hE dz)) ?_
                     refine W.skip (W.seq ?_)
                     have G3:=more_sane (vs:=vs) (ws:=ws) (more:=more) (r:=rr rate) (by omega) (by omega) (by omega) (by omega)
                     have hm:=G.more G3 hE
                     refine W.l0 18 [.y 290 _,.y 291 _,.y 292 _,.y 293 _,.y 294 _,.y 295 _,.y 296 _,.y 297 _,.y 298 _,.y 299 _,.y 300 _,.y 289 _,.y 301 _,.y 302 _,.y 303 _,.y 32 _,.y 33 _,.y 34 _] [(2,290),(7,292)] [(2,290),(7,292)] [(15,_),(32,_),(34,_)] [] 316 ⟨aU fun _ _ H _=>R.bslE .nil Zt O H dU,mU 10 O O,aU fun _ _ H K=>R.appE (Or.inl O) (K 290 _ O) (SrcO.sc (SC.sl (K 291 _ O)) (pur_map (fun _=>rfl))) (show _ = ((cnF f0 vs vs.length).map coD) from (List.nil_append _)) bU H dU dU,mU 3 O O,aU fun _ _ H K=>R.convE (d:=.u64 more.toUInt64) (eU K 293 O) O (O) H,aU fun _ _ H K=>R.callG hC (coin_ok 200 more.toUInt64) (Bc (Bp (show ev _ _ (.const (.int .u8 200)) = some (.u8 200) from O) O O) (Bc (Bp (eU K 294 O) O O) Bn)) (FrsR.one (frs_coD _)) H,aU fun _ _ H K=>R.bslE (z:=35) (.cons (eU K 295 O) .nil) ⟨⟨O,O,O⟩,Zt⟩ O H dU,aU fun _ _ H K=>R.frzT (r':=.sl none 35 (((cnF f0 vs vs.length) ++ [coinS 200 more.toUInt64]).map coD)) (R.appE (Or.inl O) (K 292 _ O) (SrcO.sc (SC.sl (K 296 _ O)) (pur_lit O)) (show _ = (((cnF f0 vs vs.length) ++ [coinS 200 more.toUInt64]).map coD) from (l2_app _ _)) (by simp only [List.length_map,List.length_cons,List.length_nil,cn_len]; omega) H dU dU) O (brw_co _ ((cnF f0 vs vs.length) ++ [coinS 200 more.toUInt64])),mU 12 O O,mU 9 O O,aU fun _ _ H K=>R.callPE hC (choose_ok ((cnF f0 vs vs.length) ++ [coinS 200 more.toUInt64]) (wnG fE ws ws.length) (rr rate) (by rw [List.length_append,cn_len,List.length_singleton]; omega) G3.hx (by rw [wn_len]; omega)) (EvP.cons (eU K 297 O) O O (EvP.cons (eU K 298 O) O O (EvP.cons (eU K 299 O) O O EvP.nil))) H,aU fun _ _ H K=>R.movT (K 300 _ O) O H,aU fun _ _ H K=>R.ext (K 289 _ O) O O H,aU fun _ _ H K=>R.ext (K 289 _ O) O O H,aU fun _ _ H K=>R.ext (K 289 _ O) O O H,aU fun _ _ H K=>R.asg (eU K 301 O) O H,aU fun _ _ H K=>R.asg (eU K 302 O) O H,aU fun _ _ H K=>R.asg (eU K 303 O) O H,Zt⟩ O O O O (tU O ?_)
                     refine W.seq ?_
                     refine W.l0 13 [.y 304 _,.y 305 _,.y 306 _,.y 307 _,.y 308 _,.y 309 _,.y 310 _,.y 311 _,.y 312 _,.y 313 _,.y 314 _,.y 315 _,.y 8 _] [] [] [(8,_)] [] 316 ⟨mU 34 O O,aU fun _ _ H K=>R.bin (eU K 304 O) (kI 0 O) O Zt H,mU 305 O O,aW O O (gT (beq_iff_eq.2 hm.1) O) fun _ _ H K=>R.mov (eU K 32 O) O H,aW O O (gT (beq_iff_eq.2 hm.1) O) fun _ _ H K=>R.lenE (SC.sl (K 307 _ O)) (lN _) H,aW O O (gT (beq_iff_eq.2 hm.1) O) fun _ _ H K=>R.mov (eU K 15 O) O H,aW O O (gT (beq_iff_eq.2 hm.1) O) fun _ _ H K=>R.lenE (SC.sl (K 309 _ O)) (lN _) H,aW O O (gT (beq_iff_eq.2 hm.1) O) fun _ _ H K=>R.leqN ((chC ((cnF f0 vs vs.length) ++ [coinS 200 more.toUInt64]) (wnG fE ws ws.length) (rr rate)).length) ((chC (cnF f0 vs vs.length) (wnG fE ws ws.length) (rr rate)).length) (eU K 308 O) (eU K 310 O) H,aU fun _ _ H K=>R.pickT (eU K 306 O) (beq_iff_eq.2 hm.1) (eU K 311 O) O H,mU 312 O O,aW O O (gT (dT hm.2) O) fun _ _ H _=>R.callG hC (works_ok) Bn (FrsR.one (.bool _)) H,aU fun _ _ H K=>R.pickT (eU K 313 O) (dT hm.2) (eU K 314 O) O H,aU fun _ _ H K=>R.asg (eU K 315 O) O H,Zt⟩ O O O O (tU O ?_)
                     refine W.ret ?_
                     exact Ends.one' (.inr O) O (O) O O Zt
                   · have hr1:=rr_succ rate
                     have G2:=least_sane (vs:=vs) (ws:=ws) (rate:=rate) (r:=rr rate + 1) (by omega) (by omega) (by omega) (by omega)
                     refine W.l0 9 [.y 280 _,.y 281 _,.y 282 _,.x 283,.x 284,.x 285,.x 286,.x 287,.y 288 _] [] [] [(3,_),(9,_),(10,_),(12,_),(15,_),(288,_)] [] 316 ⟨mU 31 O O,aU fun _ _ H K=>R.bin (eU K 280 O) (kI 0 O) O Zt H,mU 281 O O,aF O O (gF (beq_eq_false_iff_ne.2 dz) O),aF O O (gF (beq_eq_false_iff_ne.2 dz) O),aF O O (gF (beq_eq_false_iff_ne.2 dz) O),aF O O (gF (beq_eq_false_iff_ne.2 dz) O),aF O O (gF (beq_eq_false_iff_ne.2 dz) O),aU fun _ _ H K=>R.pickF (eU K 282 O) (beq_eq_false_iff_ne.2 dz) (kB false O) O H,Zt⟩ O O O O (tU O ?_)
                     refine W.condF O (O) ?_
                     refine W.skip (W.seq ?_)
                     have G3:=more_sane (vs:=vs) (ws:=ws) (more:=more) (r:=rr rate) (by omega) (by omega) (by omega) (by omega)
                     have hm:=G.more G3 hE
                     refine W.l0 18 [.y 290 _,.y 291 _,.y 292 _,.y 293 _,.y 294 _,.y 295 _,.y 296 _,.y 297 _,.y 298 _,.y 299 _,.y 300 _,.y 289 _,.y 301 _,.y 302 _,.y 303 _,.y 32 _,.y 33 _,.y 34 _] [(2,290),(7,292)] [(2,290),(7,292)] [(15,_),(32,_),(34,_)] [] 316 ⟨aU fun _ _ H _=>R.bslE .nil Zt O H dU,mU 10 O O,aU fun _ _ H K=>R.appE (Or.inl O) (K 290 _ O) (SrcO.sc (SC.sl (K 291 _ O)) (pur_map (fun _=>rfl))) (show _ = ((cnF f0 vs vs.length).map coD) from (List.nil_append _)) bU H dU dU,mU 3 O O,aU fun _ _ H K=>R.convE (d:=.u64 more.toUInt64) (eU K 293 O) O (O) H,aU fun _ _ H K=>R.callG hC (coin_ok 200 more.toUInt64) (Bc (Bp (show ev _ _ (.const (.int .u8 200)) = some (.u8 200) from O) O O) (Bc (Bp (eU K 294 O) O O) Bn)) (FrsR.one (frs_coD _)) H,aU fun _ _ H K=>R.bslE (z:=35) (.cons (eU K 295 O) .nil) ⟨⟨O,O,O⟩,Zt⟩ O H dU,aU fun _ _ H K=>R.frzT (r':=.sl none 35 (((cnF f0 vs vs.length) ++ [coinS 200 more.toUInt64]).map coD)) (R.appE (Or.inl O) (K 292 _ O) (SrcO.sc (SC.sl (K 296 _ O)) (pur_lit O)) (show _ = (((cnF f0 vs vs.length) ++ [coinS 200 more.toUInt64]).map coD) from (l2_app _ _)) (by simp only [List.length_map,List.length_cons,List.length_nil,cn_len]; omega) H dU dU) O (brw_co _ ((cnF f0 vs vs.length) ++ [coinS 200 more.toUInt64])),mU 12 O O,mU 9 O O,aU fun _ _ H K=>R.callPE hC (choose_ok ((cnF f0 vs vs.length) ++ [coinS 200 more.toUInt64]) (wnG fE ws ws.length) (rr rate) (by rw [List.length_append,cn_len,List.length_singleton]; omega) G3.hx (by rw [wn_len]; omega)) (EvP.cons (eU K 297 O) O O (EvP.cons (eU K 298 O) O O (EvP.cons (eU K 299 O) O O EvP.nil))) H,aU fun _ _ H K=>R.movT (K 300 _ O) O H,aU fun _ _ H K=>R.ext (K 289 _ O) O O H,aU fun _ _ H K=>R.ext (K 289 _ O) O O H,aU fun _ _ H K=>R.ext (K 289 _ O) O O H,aU fun _ _ H K=>R.asg (eU K 301 O) O H,aU fun _ _ H K=>R.asg (eU K 302 O) O H,aU fun _ _ H K=>R.asg (eU K 303 O) O H,Zt⟩ O O O O (tU O ?_)
                     refine W.seq ?_
                     refine W.l0 13 [.y 304 _,.y 305 _,.y 306 _,.y 307 _,.y 308 _,.y 309 _,.y 310 _,.y 311 _,.y 312 _,.y 313 _,.y 314 _,.y 315 _,.y 8 _] [] [] [(8,_)] [] 316 ⟨mU 34 O O,aU fun _ _ H K=>R.bin (eU K 304 O) (kI 0 O) O Zt H,mU 305 O O,aW O O (gT (beq_iff_eq.2 hm.1) O) fun _ _ H K=>R.mov (eU K 32 O) O H,aW O O (gT (beq_iff_eq.2 hm.1) O) fun _ _ H K=>R.lenE (SC.sl (K 307 _ O)) (lN _) H,aW O O (gT (beq_iff_eq.2 hm.1) O) fun _ _ H K=>R.mov (eU K 15 O) O H,aW O O (gT (beq_iff_eq.2 hm.1) O) fun _ _ H K=>R.lenE (SC.sl (K 309 _ O)) (lN _) H,aW O O (gT (beq_iff_eq.2 hm.1) O) fun _ _ H K=>R.leqN ((chC ((cnF f0 vs vs.length) ++ [coinS 200 more.toUInt64]) (wnG fE ws ws.length) (rr rate)).length) ((chC (cnF f0 vs vs.length) (wnG fE ws ws.length) (rr rate)).length) (eU K 308 O) (eU K 310 O) H,aU fun _ _ H K=>R.pickT (eU K 306 O) (beq_iff_eq.2 hm.1) (eU K 311 O) O H,mU 312 O O,aW O O (gT (dT hm.2) O) fun _ _ H _=>R.callG hC (works_ok) Bn (FrsR.one (.bool _)) H,aU fun _ _ H K=>R.pickT (eU K 313 O) (dT hm.2) (eU K 314 O) O H,aU fun _ _ H K=>R.asg (eU K 315 O) O H,Zt⟩ O O O O (tU O ?_)
                     refine W.ret ?_
                     exact Ends.one' (.inr O) O (O) O O Zt
                 · refine W.l0 42 (.y 229 _ :: .y 230 _ :: .y 231 _ :: .y 232 _ :: .y 233 _ :: .y 234 _ :: .y 235 _ :: .y 236 _ :: .y 237 _ :: .y 238 _ :: .y 239 _ :: .y 240 _ :: .y 241 _ :: .y 242 _ :: .y 243 _ :: .y 244 _ :: .y 245 _ :: .x 246 :: .x 247 :: .x 248 :: .x 249 :: .x 250 :: .x 251 :: .x 252 :: .x 253 :: .x 254 :: .x 255 :: .x 256 :: .y 257 _ :: .y 258 _ :: .y 259 _ :: .y 260 _ :: .y 261 _ :: .y 262 _ :: .y 263 _ :: .y 264 _ :: .y 265 _ :: .y 266 _ :: .y 267 _ :: .y 268 _ :: .y 269 _ :: .y 270 _ :: []) [] [] [(3,_),(9,_),(10,_),(12,_),(15,_),(270,_)] [] 316 ⟨mU 26 O O,aU fun _ _ H K=>R.bin (eU K 229 O) (kI 0 O) O Zt H,mU 230 O O,aW O O (gF (G.fe (by have:=G.hn; omega) (by rw [wn_len]; omega)) O) fun _ _ H K=>R.mov (eU K 28 O) O H,aW O O (gF (G.fe (by have:=G.hn; omega) (by rw [wn_len]; omega)) O) fun _ _ H K=>R.bin (eU K 232 O) (kI 0 O) O Zt H,aU fun _ _ H K=>R.pickF (eU K 231 O) (G.fe (by have:=G.hn; omega) (by rw [wn_len]; omega)) (eU K 233 O) O H,mU 234 O O,aW O O (gF (G.fe (by have:=G.hn; omega) (by rw [wn_len]; omega)) O) fun _ _ H K=>R.mov (eU K 18 O) O H,aW O O (gF (G.fe (by have:=G.hn; omega) (by rw [wn_len]; omega)) O) fun _ _ H K=>R.mov (eU K 13 O) O H,aW O O (gF (G.fe (by have:=G.hn; omega) (by rw [wn_len]; omega)) O) fun _ _ H K=>R.mov (eU K 25 O) O H,aW O O (gF (G.fe (by have:=G.hn; omega) (by rw [wn_len]; omega)) O) fun _ _ H K=>R.bin (eU K 237 O) (eU K 238 O) O Zt H,aW O O (gF (G.fe (by have:=G.hn; omega) (by rw [wn_len]; omega)) O) fun _ _ H K=>R.bin (eU K 236 O) (eU K 239 O) O Zt H,aU fun _ _ H K=>R.pickF (eU K 235 O) (G.fe (by have:=G.hn; omega) (by rw [wn_len]; omega)) (eU K 240 O) O H,mU 241 O O,aW O O (gF (dF (G.hi hE)) O) fun _ _ H K=>R.mov (eU K 16 O) O H,aW O O (gF (dF (G.hi hE)) O) fun _ _ H K=>R.bin (eU K 243 O) (show ev _ _ (.const (.int .u64 0)) = some (.u64 0) from O) O Zt H,aW O O (gF (dF (G.hi hE)) O) fun _ _ H K=>R.mov (eU K 244 O) O H,aF O O (gF (dF cz) O),aF O O (gF (dF cz) O),aF O O (gF (dF cz) O),⟨O,⟨_,248,O,O,.inr ⟨O,O⟩⟩,fun h=>absurd h dU⟩,⟨O,⟨_,248,O,O,.inr ⟨O,O⟩⟩,fun h=>absurd h dU⟩,⟨O,⟨_,248,O,O,.inr ⟨O,O⟩⟩,fun h=>absurd h dU⟩,⟨O,⟨_,248,O,O,.inr ⟨O,O⟩⟩,fun h=>absurd h dU⟩,⟨O,⟨_,248,O,O,.inr ⟨O,O⟩⟩,fun h=>absurd h dU⟩,⟨O,⟨_,248,O,O,.inr ⟨O,O⟩⟩,fun h=>absurd h dU⟩,⟨O,⟨_,248,O,O,.inr ⟨O,O⟩⟩,fun h=>absurd h dU⟩,aF O O (gF (dF cz) O),aW O O (gF (dF (G.hi hE)) O) fun _ _ H K=>R.pickF (eU K 245 O) (dF cz) (kB false O) O H,aU fun _ _ H K=>R.pickF (eU K 242 O) (dF (G.hi hE)) (eU K 257 O) O H,mU 258 O O,aW O O (gF (O) O) fun _ _ H K=>R.mov (eU K 16 O) O H,aW O O (gF (O) O) fun _ _ H K=>R.bin (eU K 260 O) (show ev _ _ (.const (.int .u64 0)) = some (.u64 0) from O) O Zt H,aW O O (gF (O) O) fun _ _ H K=>R.mov (eU K 261 O) O H,aW O O (gT (by rw [(hch.2 cz).1]; rfl) O) fun _ _ H K=>R.mov (eU K 18 O) O H,aW O O (gT (by rw [(hch.2 cz).1]; rfl) O) fun _ _ H K=>R.mov (eU K 13 O) O H,aW O O (gT (by rw [(hch.2 cz).1]; rfl) O) fun _ _ H K=>R.mov (eU K 27 O) O H,aW O O (gT (by rw [(hch.2 cz).1]; rfl) O) fun _ _ H K=>R.bin (eU K 264 O) (eU K 265 O) O Zt H,aW O O (gT (by rw [(hch.2 cz).1]; rfl) O) fun _ _ H K=>R.bin (eU K 266 O) (show ev _ _ (.const (.int .u64 546)) = some (.u64 546) from O) O Zt H,aW O O (gT (by rw [(hch.2 cz).1]; rfl) O) fun _ _ H K=>R.bin (eU K 263 O) (eU K 267 O) O Zt H,aW O O (gF (O) O) fun _ _ H K=>R.pickT (eU K 262 O) (by rw [(hch.2 cz).1]; rfl) (eU K 268 O) O H,aU fun _ _ H K=>R.pickF (eU K 259 O) (O) (eU K 269 O) O H,Zt⟩ O O O O (tU O ?_)
                   refine W.condF O (dF (hch.2 cz).2) ?_
                   refine W.skip (W.seq ?_)
                   refine W.l0 12 [.y 272 _,.y 273 _,.y 274 _,.y 275 _,.y 276 _,.y 271 _,.y 277 _,.y 278 _,.y 279 _,.y 29 _,.y 30 _,.y 31 _] [] [] [(3,_),(9,_),(10,_),(12,_),(15,_),(29,_),(31,_)] [] 316 ⟨mU 10 O O,mU 12 O O,mU 9 O O,aU fun _ _ H K=>R.bin (eU K 274 O) (show ev _ _ (.const (.int .u64 1)) = some (.u64 1) from O) O Zt H,aU fun _ _ H K=>R.callPE hC (choose_ok (cnF f0 vs vs.length) (wnG fE ws ws.length) (rr rate + 1) (by rw [cn_len]; omega) (cn_hs _ _ _) (by rw [wn_len]; omega)) (EvP.cons (eU K 272 O) O O (EvP.cons (eU K 273 O) O O (EvP.cons (eU K 275 O) O O EvP.nil))) H,aU fun _ _ H K=>R.movT (K 276 _ O) O H,aU fun _ _ H K=>R.ext (K 271 _ O) O O H,aU fun _ _ H K=>R.ext (K 271 _ O) O O H,aU fun _ _ H K=>R.ext (K 271 _ O) O O H,aU fun _ _ H K=>R.asg (eU K 277 O) O H,aU fun _ _ H K=>R.asg (eU K 278 O) O H,aU fun _ _ H K=>R.asg (eU K 279 O) O H,Zt⟩ O O O O (tU O ?_)
                   refine W.seq (W.seq ?_)
                   by_cases dz : chE (cnF f0 vs vs.length) (wnG fE ws ws.length) (rr rate + 1) = 0
                   · have hr1:=rr_succ rate
                     have G2:=least_sane (vs:=vs) (ws:=ws) (rate:=rate) (r:=rr rate + 1) (by omega) (by omega) (by omega) (by omega)
                     refine W.l0 9 [.y 280 _,.y 281 _,.y 282 _,.y 283 _,.y 284 _,.y 285 _,.y 286 _,.y 287 _,.y 288 _] [] [] [(3,_),(9,_),(10,_),(12,_),(15,_),(288,_)] [] 316 ⟨mU 31 O O,aU fun _ _ H K=>R.bin (eU K 280 O) (kI 0 O) O Zt H,mU 281 O O,aW O O (gT (beq_iff_eq.2 dz) O) fun _ _ H K=>R.mov (eU K 29 O) O H,aW O O (gT (beq_iff_eq.2 dz) O) fun _ _ H K=>R.lenE (SC.sl (K 283 _ O)) (lN _) H,aW O O (gT (beq_iff_eq.2 dz) O) fun _ _ H K=>R.mov (eU K 15 O) O H,aW O O (gT (beq_iff_eq.2 dz) O) fun _ _ H K=>R.lenE (SC.sl (K 285 _ O)) (lN _) H,aW O O (gT (beq_iff_eq.2 dz) O) fun _ _ H K=>R.lssN ((chC (cnF f0 vs vs.length) (wnG fE ws ws.length) (rr rate + 1)).length) ((chC (cnF f0 vs vs.length) (wnG fE ws ws.length) (rr rate)).length) (eU K 284 O) (eU K 286 O) H,aU fun _ _ H K=>R.pickT (eU K 282 O) (beq_iff_eq.2 dz) (eU K 287 O) O H,Zt⟩ O O O O (tU O ?_)
                     refine W.condF O (dF (G.rate G2 hr1 hE dz)) ?_
                     refine W.skip (W.seq ?_)
                     have G3:=more_sane (vs:=vs) (ws:=ws) (more:=more) (r:=rr rate) (by omega) (by omega) (by omega) (by omega)
                     have hm:=G.more G3 hE
                     refine W.l0 18 [.y 290 _,.y 291 _,.y 292 _,.y 293 _,.y 294 _,.y 295 _,.y 296 _,.y 297 _,.y 298 _,.y 299 _,.y 300 _,.y 289 _,.y 301 _,.y 302 _,.y 303 _,.y 32 _,.y 33 _,.y 34 _] [(2,290),(7,292)] [(2,290),(7,292)] [(15,_),(32,_),(34,_)] [] 316 ⟨aU fun _ _ H _=>R.bslE .nil Zt O H dU,mU 10 O O,aU fun _ _ H K=>R.appE (Or.inl O) (K 290 _ O) (SrcO.sc (SC.sl (K 291 _ O)) (pur_map (fun _=>rfl))) (show _ = ((cnF f0 vs vs.length).map coD) from (List.nil_append _)) bU H dU dU,mU 3 O O,aU fun _ _ H K=>R.convE (d:=.u64 more.toUInt64) (eU K 293 O) O (O) H,aU fun _ _ H K=>R.callG hC (coin_ok 200 more.toUInt64) (Bc (Bp (show ev _ _ (.const (.int .u8 200)) = some (.u8 200) from O) O O) (Bc (Bp (eU K 294 O) O O) Bn)) (FrsR.one (frs_coD _)) H,aU fun _ _ H K=>R.bslE (z:=35) (.cons (eU K 295 O) .nil) ⟨⟨O,O,O⟩,Zt⟩ O H dU,aU fun _ _ H K=>R.frzT (r':=.sl none 35 (((cnF f0 vs vs.length) ++ [coinS 200 more.toUInt64]).map coD)) (R.appE (Or.inl O) (K 292 _ O) (SrcO.sc (SC.sl (K 296 _ O)) (pur_lit O)) (show _ = (((cnF f0 vs vs.length) ++ [coinS 200 more.toUInt64]).map coD) from (l2_app _ _)) (by simp only [List.length_map,List.length_cons,List.length_nil,cn_len]; omega) H dU dU) O (brw_co _ ((cnF f0 vs vs.length) ++ [coinS 200 more.toUInt64])),mU 12 O O,mU 9 O O,aU fun _ _ H K=>R.callPE hC (choose_ok ((cnF f0 vs vs.length) ++ [coinS 200 more.toUInt64]) (wnG fE ws ws.length) (rr rate) (by rw [List.length_append,cn_len,List.length_singleton]; omega) G3.hx (by rw [wn_len]; omega)) (EvP.cons (eU K 297 O) O O (EvP.cons (eU K 298 O) O O (EvP.cons (eU K 299 O) O O EvP.nil))) H,aU fun _ _ H K=>R.movT (K 300 _ O) O H,aU fun _ _ H K=>R.ext (K 289 _ O) O O H,aU fun _ _ H K=>R.ext (K 289 _ O) O O H,aU fun _ _ H K=>R.ext (K 289 _ O) O O H,aU fun _ _ H K=>R.asg (eU K 301 O) O H,aU fun _ _ H K=>R.asg (eU K 302 O) O H,aU fun _ _ H K=>R.asg (eU K 303 O) O H,Zt⟩ O O O O (tU O ?_)
                     refine W.seq ?_
                     refine W.l0 13 [.y 304 _,.y 305 _,.y 306 _,.y 307 _,.y 308 _,.y 309 _,.y 310 _,.y 311 _,.y 312 _,.y 313 _,.y 314 _,.y 315 _,.y 8 _] [] [] [(8,_)] [] 316 ⟨mU 34 O O,aU fun _ _ H K=>R.bin (eU K 304 O) (kI 0 O) O Zt H,mU 305 O O,aW O O (gT (beq_iff_eq.2 hm.1) O) fun _ _ H K=>R.mov (eU K 32 O) O H,aW O O (gT (beq_iff_eq.2 hm.1) O) fun _ _ H K=>R.lenE (SC.sl (K 307 _ O)) (lN _) H,aW O O (gT (beq_iff_eq.2 hm.1) O) fun _ _ H K=>R.mov (eU K 15 O) O H,aW O O (gT (beq_iff_eq.2 hm.1) O) fun _ _ H K=>R.lenE (SC.sl (K 309 _ O)) (lN _) H,aW O O (gT (beq_iff_eq.2 hm.1) O) fun _ _ H K=>R.leqN ((chC ((cnF f0 vs vs.length) ++ [coinS 200 more.toUInt64]) (wnG fE ws ws.length) (rr rate)).length) ((chC (cnF f0 vs vs.length) (wnG fE ws ws.length) (rr rate)).length) (eU K 308 O) (eU K 310 O) H,aU fun _ _ H K=>R.pickT (eU K 306 O) (beq_iff_eq.2 hm.1) (eU K 311 O) O H,mU 312 O O,aW O O (gT (dT hm.2) O) fun _ _ H _=>R.callG hC (works_ok) Bn (FrsR.one (.bool _)) H,aU fun _ _ H K=>R.pickT (eU K 313 O) (dT hm.2) (eU K 314 O) O H,aU fun _ _ H K=>R.asg (eU K 315 O) O H,Zt⟩ O O O O (tU O ?_)
                     refine W.ret ?_
                     exact Ends.one' (.inr O) O (O) O O Zt
                   · have hr1:=rr_succ rate
                     have G2:=least_sane (vs:=vs) (ws:=ws) (rate:=rate) (r:=rr rate + 1) (by omega) (by omega) (by omega) (by omega)
                     refine W.l0 9 [.y 280 _,.y 281 _,.y 282 _,.x 283,.x 284,.x 285,.x 286,.x 287,.y 288 _] [] [] [(3,_),(9,_),(10,_),(12,_),(15,_),(288,_)] [] 316 ⟨mU 31 O O,aU fun _ _ H K=>R.bin (eU K 280 O) (kI 0 O) O Zt H,mU 281 O O,aF O O (gF (beq_eq_false_iff_ne.2 dz) O),aF O O (gF (beq_eq_false_iff_ne.2 dz) O),aF O O (gF (beq_eq_false_iff_ne.2 dz) O),aF O O (gF (beq_eq_false_iff_ne.2 dz) O),aF O O (gF (beq_eq_false_iff_ne.2 dz) O),aU fun _ _ H K=>R.pickF (eU K 282 O) (beq_eq_false_iff_ne.2 dz) (kB false O) O H,Zt⟩ O O O O (tU O ?_)
                     refine W.condF O (O) ?_
                     refine W.skip (W.seq ?_)
                     have G3:=more_sane (vs:=vs) (ws:=ws) (more:=more) (r:=rr rate) (by omega) (by omega) (by omega) (by omega)
                     have hm:=G.more G3 hE
                     refine W.l0 18 [.y 290 _,.y 291 _,.y 292 _,.y 293 _,.y 294 _,.y 295 _,.y 296 _,.y 297 _,.y 298 _,.y 299 _,.y 300 _,.y 289 _,.y 301 _,.y 302 _,.y 303 _,.y 32 _,.y 33 _,.y 34 _] [(2,290),(7,292)] [(2,290),(7,292)] [(15,_),(32,_),(34,_)] [] 316 ⟨aU fun _ _ H _=>R.bslE .nil Zt O H dU,mU 10 O O,aU fun _ _ H K=>R.appE (Or.inl O) (K 290 _ O) (SrcO.sc (SC.sl (K 291 _ O)) (pur_map (fun _=>rfl))) (show _ = ((cnF f0 vs vs.length).map coD) from (List.nil_append _)) bU H dU dU,mU 3 O O,aU fun _ _ H K=>R.convE (d:=.u64 more.toUInt64) (eU K 293 O) O (O) H,aU fun _ _ H K=>R.callG hC (coin_ok 200 more.toUInt64) (Bc (Bp (show ev _ _ (.const (.int .u8 200)) = some (.u8 200) from O) O O) (Bc (Bp (eU K 294 O) O O) Bn)) (FrsR.one (frs_coD _)) H,aU fun _ _ H K=>R.bslE (z:=35) (.cons (eU K 295 O) .nil) ⟨⟨O,O,O⟩,Zt⟩ O H dU,aU fun _ _ H K=>R.frzT (r':=.sl none 35 (((cnF f0 vs vs.length) ++ [coinS 200 more.toUInt64]).map coD)) (R.appE (Or.inl O) (K 292 _ O) (SrcO.sc (SC.sl (K 296 _ O)) (pur_lit O)) (show _ = (((cnF f0 vs vs.length) ++ [coinS 200 more.toUInt64]).map coD) from (l2_app _ _)) (by simp only [List.length_map,List.length_cons,List.length_nil,cn_len]; omega) H dU dU) O (brw_co _ ((cnF f0 vs vs.length) ++ [coinS 200 more.toUInt64])),mU 12 O O,mU 9 O O,aU fun _ _ H K=>R.callPE hC (choose_ok ((cnF f0 vs vs.length) ++ [coinS 200 more.toUInt64]) (wnG fE ws ws.length) (rr rate) (by rw [List.length_append,cn_len,List.length_singleton]; omega) G3.hx (by rw [wn_len]; omega)) (EvP.cons (eU K 297 O) O O (EvP.cons (eU K 298 O) O O (EvP.cons (eU K 299 O) O O EvP.nil))) H,aU fun _ _ H K=>R.movT (K 300 _ O) O H,aU fun _ _ H K=>R.ext (K 289 _ O) O O H,aU fun _ _ H K=>R.ext (K 289 _ O) O O H,aU fun _ _ H K=>R.ext (K 289 _ O) O O H,aU fun _ _ H K=>R.asg (eU K 301 O) O H,aU fun _ _ H K=>R.asg (eU K 302 O) O H,aU fun _ _ H K=>R.asg (eU K 303 O) O H,Zt⟩ O O O O (tU O ?_)
                     refine W.seq ?_
                     refine W.l0 13 [.y 304 _,.y 305 _,.y 306 _,.y 307 _,.y 308 _,.y 309 _,.y 310 _,.y 311 _,.y 312 _,.y 313 _,.y 314 _,.y 315 _,.y 8 _] [] [] [(8,_)] [] 316 ⟨mU 34 O O,aU fun _ _ H K=>R.bin (eU K 304 O) (kI 0 O) O Zt H,mU 305 O O,aW O O (gT (beq_iff_eq.2 hm.1) O) fun _ _ H K=>R.mov (eU K 32 O) O H,aW O O (gT (beq_iff_eq.2 hm.1) O) fun _ _ H K=>R.lenE (SC.sl (K 307 _ O)) (lN _) H,aW O O (gT (beq_iff_eq.2 hm.1) O) fun _ _ H K=>R.mov (eU K 15 O) O H,aW O O (gT (beq_iff_eq.2 hm.1) O) fun _ _ H K=>R.lenE (SC.sl (K 309 _ O)) (lN _) H,aW O O (gT (beq_iff_eq.2 hm.1) O) fun _ _ H K=>R.leqN ((chC ((cnF f0 vs vs.length) ++ [coinS 200 more.toUInt64]) (wnG fE ws ws.length) (rr rate)).length) ((chC (cnF f0 vs vs.length) (wnG fE ws ws.length) (rr rate)).length) (eU K 308 O) (eU K 310 O) H,aU fun _ _ H K=>R.pickT (eU K 306 O) (beq_iff_eq.2 hm.1) (eU K 311 O) O H,mU 312 O O,aW O O (gT (dT hm.2) O) fun _ _ H _=>R.callG hC (works_ok) Bn (FrsR.one (.bool _)) H,aU fun _ _ H K=>R.pickT (eU K 313 O) (dT hm.2) (eU K 314 O) O H,aU fun _ _ H K=>R.asg (eU K 315 O) O H,Zt⟩ O O O O (tU O ?_)
                     refine W.ret ?_
                     exact Ends.one' (.inr O) O (O) O O Zt
end Go.Sx

namespace Go.Sx
open Go.ChangeShapes Go.WideShapes
structure Rd (P : Program) (t : TypeId) (z : Nat) {α : Type} (f : α -> D) (q : α -> Prop) : Prop where
 cells : P.cellsOf t = z
 sz : ∀ a,q a -> (f a).sz = z
 rd : ∀ {H : Type} {enc : TypeId × Value -> H} {w : World} {n : Nat} {cs : List Value} {x : DataW H × List MemPlace},DataW.trod enc P w 0 (fun _=>true) true n t cs = some x ->
  (x.1.weights P t).all (· <= reachBytes) = true -> ∃ a,q a /\ Rc w (fun x=>x) (fun b=>b < w.heap.size) (fun _=>False) false (f a) cs []
variable {P : Program} {t e z : Nat}
theorem Rd.u16 (ht : P.underlying t = some (.int .u16)) (hz : P.cellsOf t = 1) : Rd P t 1 D.u16 (fun _=>True):=
 ⟨hz,fun _ _=>rfl,fun h _=>by
  obtain ⟨n,rfl,_,hw⟩:=DataW.trod_int ht h
  simp [Lit.wf,IntKind.min,IntKind.max,IntKind.signed,IntKind.bits] at hw
  refine ⟨UInt16.ofNat n.toNat,trivial, ?_⟩
  have : ((UInt16.ofNat n.toNat).toNat : Int) = n:=by simp [UInt16.toNat_ofNat']; omega
  have h1:=Rc.u16 (w:=‹World›) (ρ:=fun x=>x) (G:=fun b=>b < (‹World›).heap.size) (L:=fun _=>False) (p:=false) (UInt16.ofNat n.toNat)
  rw [this] at h1
  exact h1⟩
theorem Rd.u32 (ht : P.underlying t = some (.int .u32)) (hz : P.cellsOf t = 1) : Rd P t 1 D.u32 (fun _=>True):=
 ⟨hz,fun _ _=>rfl,fun h _=>by
  obtain ⟨n,rfl,_,hw⟩:=DataW.trod_int ht h
  simp [Lit.wf,IntKind.min,IntKind.max,IntKind.signed,IntKind.bits] at hw
  refine ⟨UInt32.ofNat n.toNat,trivial, ?_⟩
  have : ((UInt32.ofNat n.toNat).toNat : Int) = n:=by simp [UInt32.toNat_ofNat']; omega
  have h1:=Rc.u32 (w:=‹World›) (ρ:=fun x=>x) (G:=fun b=>b < (‹World›).heap.size) (L:=fun _=>False) (p:=false) (UInt32.ofNat n.toNat)
  rw [this] at h1
  exact h1⟩
theorem weightsAll_mem {H : Type} {p : Nat -> Bool} {l : List (DataW H)} (h : (DataW.weightsAll P e l).all p = true) : ∀ d ∈ l,(d.weights P e).all p = true:=by
 induction l with
 | nil=>intro d hd; cases hd
 | cons x r ih=>
  simp only [DataW.weightsAll,List.all_append,Bool.and_eq_true] at h
  intro d hd
  rcases List.mem_cons.1 hd with rfl | hd
  · exact h.1
  · exact ih h.2 d hd
theorem weightsEach_get {H : Type} {p : Nat -> Bool} : ∀ {ts : List TypeId} {l : List (DataW H)},(DataW.weightsEach P ts l).all p = true -> ∀ (i : Nat) (t : TypeId) (d : DataW H),ts[i]? = some t -> l[i]? = some d -> (d.weights P t).all p = true:=by
 intro ts
 induction ts with
 | nil=>intro l _ i t d ht; simp at ht
 | cons t0 ts ih=>
  intro l h i t d ht hd
  cases l with
  | nil=>simp at hd
  | cons x r=>
   simp only [DataW.weightsEach,List.all_append,Bool.and_eq_true] at h
   cases i with
   | zero=>simp at ht hd; subst ht; subst hd; exact h.1
   | succ i=>exact ih h.2 i t d (by simpa using ht) (by simpa using hd)
theorem list_of {α : Type} {n : Nat} {p : Nat -> α -> Prop} (h : ∀ i,i < n -> ∃ a,p i a) : ∃ l : List α,l.length = n /\ ∀ i (hi : i < l.length),p i l[i]:=by
 induction n with
 | zero=>exact ⟨[],rfl,fun i hi=>by simp at hi⟩
 | succ n ih=>
  obtain ⟨l,hl,hp⟩:=ih (fun i hi=>h i (by omega))
  obtain ⟨a,ha⟩:=h n (by omega)
  refine ⟨l ++ [a],by simp [hl],fun i hi=>?_⟩
  rcases Nat.lt_or_ge i l.length with h1 | h1
  · rw [List.getElem_append_left h1]; exact hp i h1
  · have : i = n:=by simp at hi; omega
    subst this
    rw [List.getElem_append_right h1]
    simpa [hl] using ha
theorem cells_row {w : World} {b off n : Nat} {c : Array Value} {ty : TypeId} {fz : Nat × Nat} {cs : List Value} (hb : w.heap[b]? = some (.cells c ty fz)) (h : w.cells? 0 ⟨b,off,none⟩ n = some cs) (hn : 0 < n) :
 off + n <= c.size /\ cs = (c.toList.drop off).take n:=by
 obtain ⟨_,hl,hc⟩:=World.cells?_some h
 have hc' : ∀ i,i < n -> c[off + i]? = cs[i]?:=fun i hi=>by
  have:=hc i hi
  rw [add_lit,cell_of_row w b _ c ty fz hb] at this
  exact this
 have h1:=hc' (n - 1) (by omega)
 have h2 : off + (n - 1) < c.size:=by
  rw [List.getElem?_eq_getElem (by omega)] at h1
  exact (Array.getElem?_eq_some_iff.1 h1).1
 refine ⟨by omega, ?_⟩
 apply List.ext_getElem?
 intro i
 rw [List.getElem?_take]
 split
 · rw [List.getElem?_drop]
   rw [<- hc' i (by assumption)]
   simp
 · rw [List.getElem?_eq_none (by omega)]
theorem Rd.sl {α : Type} {f : α -> D} {q : α -> Prop} (ht : P.underlying t = some (.slice e)) (hz : P.cellsOf t = 1) (h0 : 0 < z) (hby : 0 < P.bytesOf e) (he : Rd P e z f q) :
 Rd P t 1 (fun l : List α=>.sl none z (l.map f)) (fun l=>l.length <= 140737488355328 /\ ∀ x ∈ l,q x):=
 ⟨hz,fun _ _=>rfl,fun {H enc w n cs x} h hwt=>by
  rcases Go.Deep.open_slice ht h with ⟨rfl,_⟩ | ⟨a,len,cap,m,n',Dd,Pl,rfl,_,hlc,hcm,hm,rfl,hx⟩
  · exact ⟨[],⟨by simp,by simp⟩,.slN none z⟩
  · simp only [if_true] at hm
    have hx:=fun i (hi : i < cap)=>hx i (by omega)
    simp only [DataW.weights,ht,List.all_cons,List.all_append,Bool.and_eq_true,decide_eq_true_eq,List.length_map,List.length_range] at hwt
    obtain ⟨hw1,hw2,hw3⟩:=hwt
    have hw4 : ∀ i,i < len -> ((Dd i).weights P e).all (· <= reachBytes) = true:=fun i hi=>weightsAll_mem hw2 _ (List.mem_map.2 ⟨i,List.mem_range.2 hi,rfl⟩)
    have hlen : len <= 140737488355328:=by
     have h6 : len * 1 <= (len + (m - len)) * P.bytesOf e:=Nat.mul_le_mul (by omega) hby
     simp only [reachBytes] at hw1
     omega
    rcases Nat.eq_zero_or_pos cap with rfl | hcap
    · have : len = 0:=by omega
      subst this
      exact ⟨[],⟨by simp,by simp⟩,.slE none z a⟩
    · rw [he.cells] at hx
      obtain ⟨b,off,sp⟩:=a
      obtain ⟨cs0,hc0,_⟩:=hx 0 hcap
      obtain ⟨_,hl0,hv0⟩:=World.cells?_some hc0
      have h1:=hv0 0 h0
      rw [List.getElem?_eq_getElem (by omega)] at h1
      have hblk : ∃ c ty fz,w.heap[b]? = some (.cells c ty fz) /\ sp = none:=by
       have e0 : ((⟨b,off,sp⟩ : Addr).add (0 * z)).add 0 = ⟨b,off,sp⟩:=by simp [Addr.add]
       rw [e0] at h1
       unfold World.cell? at h1
       simp only at h1
       split at h1
       · rename_i c ty fz hh
         cases sp with
         | none=>exact ⟨c,ty,fz,hh,rfl⟩
         | some s=>simp at h1
       · cases h1
      obtain ⟨c,ty,fz,hb,rfl⟩:=hblk
      have hrow : ∀ i,i < cap -> off + i * z + z <= c.size /\ (i < len -> ∃ a,q a /\ Rc w (fun x=>x) (fun b=>b < w.heap.size) (fun _=>False) false (f a) ((c.toList.drop (off + i * z)).take z) []):=fun i hi=>by
       obtain ⟨cs',h2,h3⟩:=hx i hi
       rw [add_lit] at h2
       obtain ⟨h4,rfl⟩:=cells_row hb h2 h0
       exact ⟨h4,fun hi=>he.rd h3 (hw4 i hi)⟩
      obtain ⟨l,hl,hp⟩:=list_of (fun i hi=>(hrow i (by omega : i < cap)).2 hi : ∀ i,i < len -> _)
      have hsz : off + cap * z <= c.size:=by
       have h5:=(hrow (cap - 1) (by omega)).1
       have : (cap - 1) * z + z = cap * z:=by rw [<- Nat.succ_mul]; congr 1; omega
       omega
      have hlz : len * z <= cap * z:=Nat.mul_le_mul_right z hlc
      refine ⟨l,⟨by omega,fun y hy=>?_⟩, ?_⟩
      · obtain ⟨i,hi,rfl⟩:=List.mem_iff_getElem.1 hy
        exact (hp i hi).1
      · have:=Rc.slI (w:=w) (ρ:=fun x=>x) (G:=fun b=>b < w.heap.size) (L:=fun _=>False) (p:=false) b off c ty fz cap z (l.map f) hb (Array.getElem?_eq_some_iff.1 hb).1 (by simp; omega) (by simp [hl]; omega)
         (fun i hi=>by simp only [List.getElem_map]; exact (hp i (by simpa using hi)).2)
        simpa [hl] using this⟩
def isAggT (P : Program) (t : TypeId) : Bool:=match P.underlying t with
 | some (.struct _)=>true
 | some (.array _ _)=>true
 | _=>false
theorem cells_one {r : Reach} {W : World} {base : Nat} {v : Value} (hu : isAggT P t = false) (hv : Value.okWide P W r base t v) : v.cells = #[v]:=by
 cases v with
 | agg cs=>
  exfalso
  unfold isAggT at hu
  unfold Value.okWide at hv
  split at hv
  · rename_i h; simp [h] at hu
  · rename_i h; simp [h] at hu
  · unfold Cell.okWide Cell.ok at hv
    split at hv <;> simp_all
 | _=>rfl
theorem Rd.arg {H : Type} {enc : TypeId × Value -> H} {α : Type} {f : α -> D} {q : α -> Prop} {g : Bool} {r : Reach} {W : World} {base : Nat} {v : Value} {d : DataW H} {ps : List MemPlace} (h : Rd P t z f q) (hu : isAggT P t = g) (hg : ∀ a,q a -> (f a).isAgg = g)
 (hv : Value.okWide P W r base t v) (hd : DataW.Trod enc P W 0 (fun _=>true) true t v d ps) (hw : (d.weights P t).all (· <= reachBytes) = true) :
 ∃ a,q a /\ VR W (fun x=>x) (fun b=>b < W.heap.size) (fun _=>False) (f a) v []:=by
 obtain ⟨fuel,hd⟩:=hd
 obtain ⟨a,ha,hr⟩:=h.rd hd hw
 refine ⟨a,ha, ?_⟩
 have hga:=hg a ha
 cases g with
 | true=>
  have : ∃ cs,v = .agg cs:=by
   unfold isAggT at hu
   unfold Value.okWide at hv
   split at hv
   · exact ⟨_,hv.choose_spec.1⟩
   · exact ⟨_,hv.choose_spec.1⟩
   · split at hu <;> simp_all
  obtain ⟨cs,rfl⟩:=this
  simp only [VR,hga,if_true]
  exact ⟨cs,rfl,hr.flag⟩
 | false=>
  rw [cells_one hu hv] at hr
  simp only [VR,hga,if_false,Bool.false_eq_true]
  exact hr.flag
theorem trodAll_stays {H : Type} {enc : TypeId × Value -> H} {W W' : World} {sp : Nat -> Bool} (hl : laidOutB P = true) (hb : ∀ b,b < W.heap.size -> W'.heap[b]? = W.heap[b]?) :
 ∀ {ts : List TypeId} {vs : List Value} {ds : List (DataW H)} {ps : List MemPlace},(ts.all fun t=>P.readableRec t && decide (t < P.types.size)) = true -> (∀ x ∈ ps,x.block < W.heap.size) -> (∀ x ∈ ps,sp x.block = true) ->
  DataW.TrodAll enc P W 0 (fun _=>true) true ts vs ds ps -> DataW.TrodAll enc P W' 0 sp true ts vs ds ps:=by
 intro ts
 induction ts with
 | nil=>intro vs ds ps _ _ _ h; obtain ⟨rfl,rfl,rfl⟩:=trodAll_nil h; exact trodAll_mk0
 | cons t ts ih=>
  intro vs ds ps ht hlt hs h
  obtain ⟨v,vs1,d,ds1,a,b,rfl,rfl,rfl,h1,h2⟩:=trodAll_cons h
  simp only [List.all_cons,Bool.and_eq_true,decide_eq_true_eq] at ht
  refine trodAll_cons_mk (Go.WideElems.Trod_stays hl ht.1.1 ht.1.2 h1 (fun x hx=>?_) (fun x hx=>hs x (List.mem_append.2 (.inl hx)))) (ih ht.2 (fun x hx=>hlt x (List.mem_append.2 (.inr hx))) (fun x hx=>hs x (List.mem_append.2 (.inr hx))) h2)
  have hx':=hlt x (List.mem_append.2 (.inl hx))
  cases x with
  | cell b o=>exact World.cell?_of_block (w:=W) (hb b hx')
  | map b=>exact hb b hx'
theorem contract_of {H : Type} {enc : TypeId × Value -> H} {fn : Func} {f : FuncId} {s : ChangeSpec} {W : World} {args : Array Value} {ds gs : List (DataW H)} {before : List MemPlace} {tb : TypeId} {gl : List (Nat × D)} {Ds : List D}
 (hl : laidOutB P = true) (hpar : (fn.params.toList.all fun t=>P.readableRec t && decide (t < P.types.size)) = true) (hres : fn.resultTypes = #[tb]) (htb : P.underlying tb = some .bool) (hsv : s.vars = [])
 (hfn : s.fn H ds = { results:=[.lit (.bool true)],args:=ds }) (hW : DataW.Whole enc P fn.params.toList s.vars false W args.toList ds gs before)
 (hgl : ∀ g d,(g,d) ∈ gl -> g < W.heap.size /\ ∃ cs e fz,W.heap[g]? = some (.cells cs e fz) /\ Rc W (fun x=>x) (fun _=>False) (fun _=>False) false d cs.toList [])
 (hlen : args.toList.length = Ds.length) (hargs : ∀ k (h : k < Ds.length),VR W (fun x=>x) (fun b=>b < W.heap.size) (fun _=>False) Ds[k] (args.toList.getD k undef) [])
 (hf : Fn P gl f Ds (.bool true)) : Calls P f args W fun e W'=>∃ v,e = .returned v /\ s.post enc P fn false true false false W args v W':=by
 have hrun:=hf W (fun b=>b < W.heap.size) args.toList hgl hlen hargs
 rw [Array.toArray_toList] at hrun
 refine hrun.mono fun ex W' ⟨v,F,he,hext,_,_,hrv⟩=>⟨v,he, ?_⟩
 have hv : v = .bool true:=by
  obtain ⟨_,h2⟩:=hrv
  simp only [VR,D.isAgg,Bool.false_eq_true,if_false] at h2
  cases h2
  rfl
 subst hv
 have hlt:=hW.lt
 have hW0:=hW
 obtain ⟨p,q',hA,hV,rfl,hfz,hnd⟩:=hW
 rw [hsv] at hV
 obtain ⟨rfl,rfl⟩:=trodVars_none hV
 simp only [List.append_nil] at hlt hW0
 have hst : ∀ sp : Nat -> Bool,(∀ x ∈ p,sp x.block = true) -> DataW.TrodAll enc P W' 0 sp true fn.params.toList args.toList ds p:=fun sp hs=>trodAll_stays hl (fun b hb=>hext.block b hb) hpar hlt hs hA
 refine ⟨ds,[],p,[],p,[],hW0, ?_, ?_, ?_,⟨hext.os,hext.output,fun i hi=>?_⟩,fun h=>by cases h⟩
 · rw [hres]
   simp only [List.append_nil,hfn]
   exact trodAll_cons_mk (Go.RowKit.shut_bool htb true) trodAll_mk0
 · simp only [List.append_nil,hfn]
   exact hst _ (fun x hx=>by simpa using hlt x hx)
 · simp only [List.append_nil,hfn,hsv]
   rfl
 · rw [hext.block i hi]
   cases hh : W.heap[i]? with
   | none=>simp
   | some o=>cases o <;> simp
end Go.Sx

namespace Go.Sx
open Go.Proofs
end Go.Sx
