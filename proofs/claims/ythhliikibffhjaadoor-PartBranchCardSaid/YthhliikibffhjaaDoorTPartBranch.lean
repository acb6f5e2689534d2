/- Proved: what functions of the given program compute (used by the theorem of this claim). Conditions: none but those that each theorem states. -/
import Derived.Test.YthhliikibffhjaaDoorMSxCallB
import Derived.Test.YthhliikibffhjaaDoorMPt17
set_option linter.unusedVariables false
set_option linter.unusedSimpArgs false
set_option linter.unnecessarySimpa false

namespace Go.Sx
open Go.Proofs
set_option maxHeartbeats 2000000 in
theorem branches_ok (n k : UInt8) : Fn Tryd.prog gl 6 [.u8 n,.u8 k] (.bool true) := by
 refine Fn.of (n := 115) Tryd.func6 rfl rfl rfl (nU rfl) fun C hC hD => ?_
 have hn := n.toNat_lt
 have hkl := k.toNat_lt
 refine W.seq ?_
 refine W.l0 1 [.y 4 _] [] [] [(0,_),(1,_)] [] 115 ⟨aU fun _ _ H _ => R.asg (kB false rfl) rfl H,trivial⟩ rfl rfl rfl rfl (tU rfl ?_)
 refine W.seq ?_
 refine W.l0 4 [.y 20 _,.y 21 _,.y 22 _,.y 5 _] [] [] [(1,_),(5,_)] [] 115 ⟨mU 0 rfl rfl,aU fun _ _ H K => R.conv (eU K 20 rfl) rfl H,aU fun _ _ H K => R.addN (1) (n.toNat) (kI 1 rfl) (eU K 21 rfl) bU H,aU fun _ _ H K => R.asg (eU K 22 rfl) rfl H,trivial⟩ rfl rfl rfl rfl (tU rfl ?_)
 refine W.seq ?_
 refine W.l0 5 [.y 23 _,.y 24 _,.y 25 _,.y 26 _,.y 6 _] [] [] [(5,_),(6,_)] [] 115 ⟨mU 1 rfl rfl,aU fun _ _ H K => R.conv (eU K 23 rfl) rfl H,mU 5 rfl rfl,aU fun _ _ H K => R.remN (k.toNat) ((1 + n.toNat)) (eU K 24 rfl) (eU K 25 rfl) bU H,aU fun _ _ H K => R.asg (eU K 26 rfl) rfl H,trivial⟩ rfl rfl rfl rfl (tU rfl ?_)
 refine W.seq ?_
 refine W.l0 1 [.y 7 _] [] [] [(5,_),(6,_),(7,_)] [] 115 ⟨aU fun _ _ H _ => R.asg (kN rfl) rfl H,trivial⟩ rfl rfl rfl rfl (tU rfl ?_)
 refine W.seq ?_
 refine W.l0 3 [.y 27 _,.y 28 _,.y 8 _] [(2,28)] [(2,28)] [(5,_),(6,_),(7,_),(8,_)] [] 115 ⟨mU 5 rfl rfl,aU fun _ _ H K => R.mk (n := (1 + n.toNat)) (eU K 27 rfl) (eU K 27 rfl) bU (by decide) H,aU fun _ _ H K => R.asgO (K 28 _ rfl) rfl H (by decide),trivial⟩ rfl rfl rfl rfl (tU rfl ?_)
 refine W.seq ?_
 refine W.seq ?_
 refine W.l0 1 [.y 9 _] [] [] [(5,_),(6,_),(7,_),(8,_),(9,_)] [] 115 ⟨aU fun _ _ H _ => R.asg (kI 0 rfl) rfl H,trivial⟩ rfl rfl rfl rfl (tU rfl ?_)
 refine W.block ?_
 refine W.asOwn (s := 7) 38 32 rfl ?_
 refine W.loop (α := {q__ : Nat // q__ ≤ (1 + n.toNat)}) (fun q__ => ⟨115,[(5,.int (((1 + n.toNat) : Nat) : Int)),(6,.int (((k.toNat % (1 + n.toNat)) : Nat) : Int)),(7,.sl (some 38) 32 ((idsB q__.1).map hashD)),(8,.sl (some 4) 1 ((List.replicate (1 + n.toNat) false).map D.bool)),(9,.int ((q__.1 : Nat) : Int))],[]⟩) (fun q__ => (1 + n.toNat) - q__.1) ⟨(0),bU⟩ (by simp only [List.map_replicate]; rfl) ?_
 rintro ⟨i,hi⟩
 show W _ _ _ _ ⟨115,[(5,.int (((1 + n.toNat) : Nat) : Int)),(6,.int (((k.toNat % (1 + n.toNat)) : Nat) : Int)),(7,.sl (some 38) 32 ((idsB i).map hashD)),(8,.sl (some 4) 1 ((List.replicate (1 + n.toNat) false).map D.bool)),(9,.int ((i : Nat) : Int))],[]⟩
 have hi : i ≤ (1 + n.toNat) := hi
 have hil := idsB_len i
 refine W.seq ?_
 refine W.seq ?_
 refine W.l0 3 [.y 29 _,.y 30 _,.y 31 _] [] [] [(5,_),(6,_),(7,_),(8,_),(9,_),(31,_)] [] 115 ⟨mU 9 rfl rfl,mU 5 rfl rfl,aU fun _ _ H K => R.lssN (i) ((1 + n.toNat)) (eU K 29 rfl) (eU K 30 rfl) H,trivial⟩ rfl rfl rfl rfl (tU rfl ?_)
 refine W.condD rfl (fun hc31 => ?_) (fun hc31 => ?_)
 · refine W.skip ?_
   refine W.seq ?_
   refine W.block ?_
   refine W.l0 7 [.y 34 _,.y 35 _,.y 36 _,.y 37 _,.y 38 _,.y 39 _,.y 7 _] [(5,7),(6,39),(6,34)] [(5,7),(6,39)] [(5,_),(6,_),(7,_),(8,_),(9,_)] [] 115 ⟨aU fun _ _ H K => R.al (K 7 _ rfl) H (by decide),mU 9 rfl rfl,aU fun _ _ H K => R.conv (eU K 35 rfl) rfl H,aU fun _ _ H K => R.bldAP (z := 1) (l2 := ((gB i).map D.u8)) (.cons (eU K 36 rfl) (.cons (show ev _ _ (.const (.int .u8 5)) = some (.u8 5) from rfl) (.nil rfl))) ⟨⟨_,(eU K 36 rfl),rfl,rfl,rfl,rfl⟩,⟨⟨_,(show ev _ _ (.const (.int .u8 5)) = some (.u8 5) from rfl),rfl,rfl,rfl,rfl⟩,trivial⟩⟩ (rfl) H,aU fun _ _ H K => R.bslE (z := 32) (.cons (eU K 37 rfl) .nil) ⟨⟨rfl,rfl,rfl⟩,trivial⟩ rfl H (by decide),aU fun _ _ H K => R.appE (Or.inr (K 34 _ rfl)) (K 7 _ rfl) (SrcO.sc (SC.sl (K 38 _ rfl)) (pur_lit rfl)) (show _ = ((idsB (i + 1)).map hashD) from (by rw [idsB_succ,List.map_append]; rfl)) (by simp [idsB_len]; omega) H (by decide) (by decide),aU fun _ _ H K => R.asgO (K 39 _ rfl) rfl H (by decide),trivial⟩ rfl rfl rfl rfl (tU rfl ?_)
   refine W.l0 3 [.y 32 _,.y 33 _,.y 9 _] [] [] [(5,_),(6,_),(7,_),(8,_),(9,_)] [] 115 ⟨mU 9 rfl rfl,aU fun _ _ H K => R.addN (i) (1) (eU K 32 rfl) (kI 1 rfl) bU H,aU fun _ _ H K => R.asg (eU K 33 rfl) rfl H,trivial⟩ rfl rfl rfl rfl (tU rfl ?_)
   exact ⟨⟨(i + 1),bU⟩,rfl,(by simp only []; omega)⟩
 · obtain rfl : i = (1 + n.toNat) := by omega
   refine W.exit ?_
   refine W.seq ?_
   have hal := Nat.mod_lt k.toNat (show 0 < (1 + n.toNat) by omega)
   refine W.l0 4 [.y 40 _,.y 41 _,.y 42 _] [] [] [(5,_),(6,_),(7,_),(8,_),(40,_),(42,_)] [] 115 ⟨aU fun _ _ H K => R.al (K 8 _ rfl) H (by decide),mU 6 rfl rfl,aU fun _ _ H K => R.idxN ((k.toNat % (1 + n.toNat))) (SC.al (K 40 _ rfl) (K 8 _ rfl)) (evoI (eU K 41 rfl)) rfl bU H (by decide),trivial⟩ rfl rfl rfl rfl (⟨rfl,_,R.stEY (gU 42 rfl) (Or.inr (gU 40 rfl)) (gU 8 rfl) (map_get! (l := (List.replicate (1 + n.toNat) false)) bU) rfl (kB true rfl) (by rfl) (by rfl) (by rfl) (by rfl) upd_nil set_map,tV [(5,_),(6,_),(7,_),(8,_)] [] 115 rfl rfl rfl ?_⟩)
   refine W.seq ?_
   refine W.frzS (s := 7) (d' := .sl none 32 ((idsB (1 + n.toNat)).map hashD)) rfl rfl (brw_hs _ _ _) ?_
   refine W.frzS (s := 8) (d' := .sl none 1 ((flB (1 + n.toNat) (k.toNat % (1 + n.toNat))).map D.bool)) rfl rfl (brw_fl _ _ _) ?_
   have hone := bB_one hal
   have hbl := brB_len (a := (k.toNat % (1 + n.toNat))) (show 0 < (1 + n.toNat) by omega)
   have hnr := nRows_9 (1 + n.toNat) (by omega)
   have hzz := size_le (1 + n.toNat) (k.toNat % (1 + n.toNat)) (brB (1 + n.toNat) (k.toNat % (1 + n.toNat))).length
   refine W.l0 9 [.y 44 _,.y 45 _,.y 46 _,.y 43 _,.y 47 _,.y 48 _] [] [] [(5,_),(6,_),(7,_),(47,_),(48,_)] [] 115 ⟨mU 7 rfl rfl,mU 8 rfl rfl,aU fun _ _ H K => R.callPE hC (bB_bld (m := (1 + n.toNat)) (a := (k.toNat % (1 + n.toNat))) (by omega) (by omega)) (EvP.cons (eU K 44 rfl) rfl rfl (EvP.cons (eU K 45 rfl) rfl rfl EvP.nil)) H,aU fun _ _ H K => R.movT (K 46 _ rfl) rfl H,aU fun _ _ H K => R.ext (K 43 _ rfl) rfl rfl H,aU fun _ _ H K => R.ext (K 43 _ rfl) rfl rfl H,trivial⟩ rfl rfl rfl rfl (⟨rfl,_,R.alloc rfl (nU rfl),⟨rfl,_,R.stZ (gU 10 rfl) (xU 10 rfl) rfl (gV 47 rfl) (by rfl) (by rfl) (by rfl) (by rfl) rfl,⟨rfl,_,R.asg (gV 48 rfl) rfl (nU rfl),tV [(5,_),(6,_),(7,_),(10,_),(11,_)] [(10,.var _)] 115 rfl rfl rfl ?_⟩⟩⟩)
   refine W.seq ?_
   refine W.l0 8 [.y 50 _,.y 51 _,.y 52 _,.y 49 _,.y 53 _,.y 54 _,.y 12 _,.y 13 _] [] [] [(5,_),(6,_),(10,_),(11,_),(12,_),(13,_)] [(10,.var _)] 115 ⟨mU 7 rfl rfl,mU 6 rfl rfl,aU fun _ _ H K => R.callZ (r' := .tup [.sl none 32 ((brB (1 + n.toNat) (k.toNat % (1 + n.toNat))).map hashD),.int 0]) (bB_br (m := (1 + n.toNat)) (a := (k.toNat % (1 + n.toNat))) hal (by omega)) hC (Bors.cons (Bor.pur (eU K 50 rfl) rfl rfl) (Bors.cons (Bor.pur (eU K 51 rfl) rfl rfl) Bors.nil)) (FrsR.two (frs_hs _ _ _) (.int _)) (brw_br _) H,aU fun _ _ H K => R.movT (K 52 _ rfl) rfl H,aU fun _ _ H K => R.ext (K 49 _ rfl) rfl rfl H,aU fun _ _ H K => R.ext (K 49 _ rfl) rfl rfl H,aU fun _ _ H K => R.asg (eU K 53 rfl) rfl H,aU fun _ _ H K => R.asg (eU K 54 rfl) rfl H,trivial⟩ rfl rfl rfl rfl (tU rfl ?_)
   refine W.seq ?_
   refine W.seq ?_
   refine W.l0 6 [.y 55 _,.y 56 _,.y 57 _,.y 58 _,.y 59 _,.y 60 _] [] [] [(5,_),(6,_),(10,_),(12,_),(60,_)] [(10,.var _)] 115 ⟨mU 11 rfl rfl,aU fun _ _ H K => R.neqN (0) (0) (eU K 55 rfl) (kI 0 rfl) H,mU 56 rfl rfl,aW rfl rfl (gF (decide_eq_false (fun h => h rfl)) rfl) fun _ _ H K => R.mov (eU K 13 rfl) rfl H,aW rfl rfl (gF (decide_eq_false (fun h => h rfl)) rfl) fun _ _ H K => R.neqN (0) (0) (eU K 58 rfl) (kI 0 rfl) H,aU fun _ _ H K => R.pickF (eU K 57 rfl) (decide_eq_false (fun h => h rfl)) (eU K 59 rfl) rfl H,trivial⟩ rfl rfl rfl rfl (tU rfl ?_)
   refine W.condF rfl (decide_eq_false (fun h => h rfl)) ?_
   refine W.skip ?_
   refine W.seq ?_
   refine W.l0 1 [.y 14 _] [] [] [(5,_),(6,_),(10,_),(12,_),(14,_)] [(10,.var _)] 115 ⟨aU fun _ _ H _ => R.asg (kI 1 rfl) rfl H,trivial⟩ rfl rfl rfl rfl (tU rfl ?_)
   refine W.seq ?_
   refine W.l0 2 [.y 61 _,.y 15 _] [] [] [(5,_),(10,_),(12,_),(14,_),(15,_)] [(10,.var _)] 115 ⟨mU 6 rfl rfl,aU fun _ _ H K => R.asg (eU K 61 rfl) rfl H,trivial⟩ rfl rfl rfl rfl (tU rfl ?_)
   refine W.seq ?_
   refine W.l0 2 [.y 62 _,.y 16 _] [] [] [(10,_),(12,_),(14,_),(15,_),(16,_)] [(10,.var _)] 115 ⟨mU 5 rfl rfl,aU fun _ _ H K => R.asg (eU K 62 rfl) rfl H,trivial⟩ rfl rfl rfl rfl (tU rfl ?_)
   refine W.seq ?_
   refine W.seq ?_
   refine W.l0 1 [.y 17 _] [] [] [(10,_),(12,_),(14,_),(15,_),(16,_),(17,_)] [(10,.var _)] 115 ⟨aU fun _ _ H _ => R.asg (kI 0 rfl) rfl H,trivial⟩ rfl rfl rfl rfl (tU rfl ?_)
   refine W.block ?_
   refine W.loop (α := {q__ : Nat // q__ ≤ (brB (1 + n.toNat) (k.toNat % (1 + n.toNat))).length}) (fun q__ => ⟨115,[(10,.ptr 10 0 []),(12,.sl none 32 ((brB (1 + n.toNat) (k.toNat % (1 + n.toNat))).map hashD)),(14,.int ((sizeI (1 + n.toNat) (k.toNat % (1 + n.toNat)) q__.1 : Nat) : Int)),(15,.int (((k.toNat % (1 + n.toNat)) / 2 ^ q__.1 : Nat) : Int)),(16,.int ((lenA (1 + n.toNat) q__.1 : Nat) : Int)),(17,.int ((q__.1 : Nat) : Int))],[(10,.var (.agg [.int (((1 + n.toNat) : Nat) : Int),.sl none 32 ((hB (1 + n.toNat) (k.toNat % (1 + n.toNat))).map hashD),.sl none 1 ((fB (1 + n.toNat) (k.toNat % (1 + n.toNat))).map D.bool)]))]⟩) (fun q__ => (brB (1 + n.toNat) (k.toNat % (1 + n.toNat))).length - q__.1) ⟨(0),bU⟩ (by rw [Nat.pow_zero,Nat.div_one]; rfl) ?_
   rintro ⟨j,hj⟩
   show W _ _ _ _ ⟨115,[(10,.ptr 10 0 []),(12,.sl none 32 ((brB (1 + n.toNat) (k.toNat % (1 + n.toNat))).map hashD)),(14,.int ((sizeI (1 + n.toNat) (k.toNat % (1 + n.toNat)) j : Nat) : Int)),(15,.int (((k.toNat % (1 + n.toNat)) / 2 ^ j : Nat) : Int)),(16,.int ((lenA (1 + n.toNat) j : Nat) : Int)),(17,.int ((j : Nat) : Int))],[(10,.var (.agg [.int (((1 + n.toNat) : Nat) : Int),.sl none 32 ((hB (1 + n.toNat) (k.toNat % (1 + n.toNat))).map hashD),.sl none 1 ((fB (1 + n.toNat) (k.toNat % (1 + n.toNat))).map D.bool)]))]⟩
   have hj : j ≤ (brB (1 + n.toNat) (k.toNat % (1 + n.toNat))).length := hj
   have hzl := size_le (1 + n.toNat) (k.toNat % (1 + n.toNat)) j
   have hll := lenA_le (1 + n.toNat) j
   have hdl : (k.toNat % (1 + n.toNat)) / 2 ^ j ≤ (k.toNat % (1 + n.toNat)) := Nat.div_le_self _ _
   have hal := Nat.mod_lt k.toNat (show 0 < (1 + n.toNat) by omega)
   refine W.seq ?_
   refine W.seq ?_
   refine W.l0 4 [.y 63 _,.y 64 _,.y 65 _,.y 66 _] [] [] [(10,_),(12,_),(14,_),(15,_),(16,_),(17,_),(66,_)] [(10,.var _)] 115 ⟨mU 17 rfl rfl,mU 12 rfl rfl,aU fun _ _ H K => R.lenE (SC.sl (K 64 _ rfl)) (List.length_map _) H,aU fun _ _ H K => R.lssN (j) ((brB (1 + n.toNat) (k.toNat % (1 + n.toNat))).length) (eU K 63 rfl) (eU K 65 rfl) H,trivial⟩ rfl rfl rfl rfl (tU rfl ?_)
   refine W.condD rfl (fun hc66 => ?_) (fun hc66 => ?_)
   · refine W.skip ?_
     refine W.seq ?_
     refine W.block ?_
     refine W.seq ?_
     refine W.seq ?_
     by_cases hr1 : (k.toNat % (1 + n.toNat)) / 2 ^ j % 2 = 1
     · refine W.l0 9 [.y 69 _,.y 70 _,.y 71 _,.y 72 _,.x 73,.x 74,.x 75,.x 76,.y 77 _] [] [] [(10,_),(12,_),(14,_),(15,_),(16,_),(17,_),(77,_)] [(10,.var _)] 115 ⟨mU 15 rfl rfl,aU fun _ _ H K => R.remN ((k.toNat % (1 + n.toNat)) / 2 ^ j) (2) (eU K 69 rfl) (kI 2 rfl) bU H,aU fun _ _ H K => R.eqlN (((k.toNat % (1 + n.toNat)) / 2 ^ j % 2)) (1) (eU K 70 rfl) (kI 1 rfl) H,mU 71 rfl rfl,aF rfl rfl (gT (decide_eq_true hr1) rfl),aF rfl rfl (gT (decide_eq_true hr1) rfl),aF rfl rfl (gT (decide_eq_true hr1) rfl),aF rfl rfl (gT (decide_eq_true hr1) rfl),aU fun _ _ H K => R.pickT (eU K 72 rfl) (decide_eq_true hr1) (kB true rfl) rfl H,trivial⟩ rfl rfl rfl rfl (tU rfl ?_)
       refine W.condT rfl (rfl) ?_
       refine W.seq ?_
       have hreal := real_1 (n := (1 + n.toNat)) hr1
       have hmem := anyI_mem (hone.2 j (by omega) hreal)
       refine W.l0 3 [.y 78 _,.y 79 _,.y 14 _] [] [] [(10,_),(12,_),(14,_),(15,_),(16,_),(17,_)] [(10,.var _)] 115 ⟨mU 14 rfl rfl,aU fun _ _ H K => R.addN (sizeI (1 + n.toNat) (k.toNat % (1 + n.toNat)) j) (1) (eU K 78 rfl) (kI 1 rfl) bU H,aU fun _ _ H K => R.asg (eU K 79 rfl) rfl H,trivial⟩ rfl rfl rfl rfl (tU rfl ?_)
       refine W.seq ?_
       refine W.l0 1 [.y 18 _] [] [] [(10,_),(12,_),(14,_),(15,_),(16,_),(17,_),(18,_)] [(10,.var _)] 115 ⟨aU fun _ _ H _ => R.asg (kB false rfl) rfl H,trivial⟩ rfl rfl rfl rfl (tU rfl ?_)
       refine W.seq ?_
       refine W.seq ?_
       refine W.l0 1 [.y 19 _] [] [] [(10,_),(12,_),(14,_),(15,_),(16,_),(17,_),(18,_),(19,_)] [(10,.var _)] 115 ⟨aU fun _ _ H _ => R.asg (kI 0 rfl) rfl H,trivial⟩ rfl rfl rfl rfl (tU rfl ?_)
       refine W.block ?_
       refine W.loop (α := {q__ : Nat // q__ ≤ (hB (1 + n.toNat) (k.toNat % (1 + n.toNat))).length}) (fun q__ => ⟨115,[(10,.ptr 10 0 []),(12,.sl none 32 ((brB (1 + n.toNat) (k.toNat % (1 + n.toNat))).map hashD)),(14,.int ((sizeI (1 + n.toNat) (k.toNat % (1 + n.toNat)) j + 1 : Nat) : Int)),(15,.int (((k.toNat % (1 + n.toNat)) / 2 ^ j : Nat) : Int)),(16,.int ((lenA (1 + n.toNat) j : Nat) : Int)),(17,.int ((j : Nat) : Int)),(18,.bool (anyI (hB (1 + n.toNat) (k.toNat % (1 + n.toNat))) (brB (1 + n.toNat) (k.toNat % (1 + n.toNat)))[j]! q__.1)),(19,.int ((q__.1 : Nat) : Int))],[(10,.var (.agg [.int (((1 + n.toNat) : Nat) : Int),.sl none 32 ((hB (1 + n.toNat) (k.toNat % (1 + n.toNat))).map hashD),.sl none 1 ((fB (1 + n.toNat) (k.toNat % (1 + n.toNat))).map D.bool)]))]⟩) (fun q__ => (hB (1 + n.toNat) (k.toNat % (1 + n.toNat))).length - q__.1) ⟨(0),bU⟩ rfl ?_
       rintro ⟨q,hq⟩
       show W _ _ _ _ ⟨115,[(10,.ptr 10 0 []),(12,.sl none 32 ((brB (1 + n.toNat) (k.toNat % (1 + n.toNat))).map hashD)),(14,.int ((sizeI (1 + n.toNat) (k.toNat % (1 + n.toNat)) j + 1 : Nat) : Int)),(15,.int (((k.toNat % (1 + n.toNat)) / 2 ^ j : Nat) : Int)),(16,.int ((lenA (1 + n.toNat) j : Nat) : Int)),(17,.int ((j : Nat) : Int)),(18,.bool (anyI (hB (1 + n.toNat) (k.toNat % (1 + n.toNat))) (brB (1 + n.toNat) (k.toNat % (1 + n.toNat)))[j]! q)),(19,.int ((q : Nat) : Int))],[(10,.var (.agg [.int (((1 + n.toNat) : Nat) : Int),.sl none 32 ((hB (1 + n.toNat) (k.toNat % (1 + n.toNat))).map hashD),.sl none 1 ((fB (1 + n.toNat) (k.toNat % (1 + n.toNat))).map D.bool)]))]⟩
       have hq : q ≤ (hB (1 + n.toNat) (k.toNat % (1 + n.toNat))).length := hq
       refine W.seq ?_
       refine W.seq ?_
       refine W.l0 5 [.y 80 _,.y 81 _,.y 82 _,.y 83 _,.y 84 _] [] [] [(10,_),(12,_),(14,_),(15,_),(16,_),(17,_),(18,_),(19,_),(84,_)] [(10,.var _)] 115 ⟨mU 19 rfl rfl,aU (fU 10 rfl rfl),aU (lU 81 rfl rfl rfl rfl rfl rfl rfl),aU fun _ _ H K => R.lenE (SC.sl (K 82 _ rfl)) (List.length_map _) H,aU fun _ _ H K => R.lssN (q) ((hB (1 + n.toNat) (k.toNat % (1 + n.toNat))).length) (eU K 80 rfl) (eU K 83 rfl) H,trivial⟩ rfl rfl rfl rfl (tU rfl ?_)
       refine W.condD rfl (fun hc84 => ?_) (fun hc84 => ?_)
       · refine W.skip ?_
         refine W.seq ?_
         refine W.block ?_
         by_cases hany : anyI (hB (1 + n.toNat) (k.toNat % (1 + n.toNat))) (brB (1 + n.toNat) (k.toNat % (1 + n.toNat)))[j]! q = true
         · refine W.draw (m := 14) (an := [0,1,3,7,3,31,63,3,3,387,899,2047,4095,8191]) hP (by decide) rfl (its := [.y 87 _,.y 88 _,.x 89,.x 90,.x 91,.x 92,.x 93,.x 94,.x 95,.x 96,.x 97,.x 98,.y 99 _,.y 18 _]) (ks := []) (kk := []) (live := [10,12,14,15,16,17,18,19]) (env' := [(10,_),(12,_),(14,_),(15,_),(16,_),(17,_),(18,_),(19,_)]) (⟨nU rfl,rfl,⟨mU 18 rfl rfl,mU 87 rfl rfl,aF rfl rfl (gT (hany) rfl),aF rfl rfl (gT (hany) rfl),aF rfl rfl (gT (hany) rfl),aF rfl rfl (gT (hany) rfl),aF rfl rfl (gT (hany) rfl),aF rfl rfl (gT (hany) rfl),aF rfl rfl (gT (hany) rfl),aF rfl rfl (gT (hany) rfl),aF rfl rfl (gT (hany) rfl),aF rfl rfl (gT (hany) rfl),aU fun _ _ H K => R.pickT (eU K 88 rfl) (hany) (kB true rfl) rfl H,aU fun _ _ H K => R.asg (eU K 99 rfl) rfl H,trivial⟩,rfl,rfl,rfl⟩) rfl (bx' := [(10,.var _)]) rfl (n' := 115) rfl (tV [(10,_),(12,_),(14,_),(15,_),(16,_),(17,_),(18,_),(19,_)] [(10,.var _)] 115 rfl rfl rfl ?_)
           refine W.l0 3 [.y 85 _,.y 86 _,.y 19 _] [] [] [(10,_),(12,_),(14,_),(15,_),(16,_),(17,_),(18,_),(19,_)] [(10,.var _)] 115 ⟨mU 19 rfl rfl,aU fun _ _ H K => R.addN (q) (1) (eU K 85 rfl) (kI 1 rfl) bU H,aU fun _ _ H K => R.asg (eU K 86 rfl) rfl H,trivial⟩ rfl rfl rfl rfl (tU rfl ?_)
           exact ⟨⟨(q + 1),bU⟩,(by first | (rw [anyI_1 hany] <;> rfl) | (rw [anyI_2 (bfalse hany)] <;> rfl)),(by simp only []; omega)⟩
         · refine W.draw (m := 14) (an := [0,1,3,7,3,31,63,3,3,387,899,2047,4095,8191]) hP (by decide) rfl (its := [.y 87 _,.y 88 _,.y 89 _,.y 90 _,.y 91 _,.y 92 _,.y 93 _,.y 94 _,.y 95 _,.y 96 _,.y 97 _,.y 98 _,.y 99 _,.y 18 _]) (ks := []) (kk := []) (live := [10,12,14,15,16,17,18,19]) (env' := [(10,_),(12,_),(14,_),(15,_),(16,_),(17,_),(18,_),(19,_)]) (⟨nU rfl,rfl,⟨mU 18 rfl rfl,mU 87 rfl rfl,aW rfl rfl (gF (bfalse hany) rfl) (fU 10 rfl rfl),aW rfl rfl (gF (bfalse hany) rfl) (lU 89 rfl rfl rfl rfl rfl rfl rfl),aW rfl rfl (gF (bfalse hany) rfl) fun _ _ H K => R.mov (eU K 19 rfl) rfl H,aW rfl rfl (gF (bfalse hany) rfl) fun _ _ H K => R.idxN (q) (SC.sl (K 90 _ rfl)) (evoI (eU K 91 rfl)) rfl bU H (by decide),aW rfl rfl (gF (bfalse hany) rfl) fun _ _ H K => R.ldE (K 92 _ rfl) (SC.sl (K 90 _ rfl)) (map_get! (l := (hB (1 + n.toNat) (k.toNat % (1 + n.toNat)))) bU) rfl rfl rfl rfl H,aW rfl rfl (gF (bfalse hany) rfl) fun _ _ H K => R.mov (eU K 12 rfl) rfl H,aW rfl rfl (gF (bfalse hany) rfl) fun _ _ H K => R.mov (eU K 17 rfl) rfl H,aW rfl rfl (gF (bfalse hany) rfl) fun _ _ H K => R.idxN (j) (SC.sl (K 94 _ rfl)) (evoI (eU K 95 rfl)) rfl bU H (by decide),aW rfl rfl (gF (bfalse hany) rfl) fun _ _ H K => R.ldE (K 96 _ rfl) (SC.sl (K 94 _ rfl)) (map_get! (l := (brB (1 + n.toNat) (k.toNat % (1 + n.toNat)))) bU) rfl rfl rfl rfl H,aW rfl rfl (gF (bfalse hany) rfl) fun _ _ H K => R.eqAE (eU K 93 rfl) (eU K 97 rfl) H,aU fun _ _ H K => R.pickF (eU K 88 rfl) (bfalse hany) (eU K 98 rfl) rfl H,aU fun _ _ H K => R.asg (eU K 99 rfl) rfl H,trivial⟩,rfl,rfl,rfl⟩) rfl (bx' := [(10,.var _)]) rfl (n' := 115) rfl (tV [(10,_),(12,_),(14,_),(15,_),(16,_),(17,_),(18,_),(19,_)] [(10,.var _)] 115 rfl rfl rfl ?_)
           refine W.l0 3 [.y 85 _,.y 86 _,.y 19 _] [] [] [(10,_),(12,_),(14,_),(15,_),(16,_),(17,_),(18,_),(19,_)] [(10,.var _)] 115 ⟨mU 19 rfl rfl,aU fun _ _ H K => R.addN (q) (1) (eU K 85 rfl) (kI 1 rfl) bU H,aU fun _ _ H K => R.asg (eU K 86 rfl) rfl H,trivial⟩ rfl rfl rfl rfl (tU rfl ?_)
           exact ⟨⟨(q + 1),bU⟩,(by first | (rw [anyI_1 hany] <;> rfl) | (rw [anyI_2 (bfalse hany)] <;> rfl)),(by simp only []; omega)⟩
       · obtain rfl : q = (hB (1 + n.toNat) (k.toNat % (1 + n.toNat))).length := by omega
         refine W.exit ?_
         refine W.seq ?_
         refine W.l0 2 [.y 100 _,.y 101 _] [] [] [(10,_),(12,_),(14,_),(15,_),(16,_),(17,_),(101,_)] [(10,.var _)] 115 ⟨mU 18 rfl rfl,aU fun _ _ H K => R.un (eU K 100 rfl) rfl H,trivial⟩ rfl rfl rfl rfl (tU rfl ?_)
         refine W.condF rfl (by rw [hmem]; rfl) ?_
         refine W.skip ?_
         refine W.seq ?_
         refine W.l0 3 [.y 102 _,.y 103 _,.y 15 _] [] [] [(10,_),(12,_),(14,_),(15,_),(16,_),(17,_)] [(10,.var _)] 115 ⟨mU 15 rfl rfl,aU fun _ _ H K => R.quoN ((k.toNat % (1 + n.toNat)) / 2 ^ j) (2) (eU K 102 rfl) (kI 2 rfl) bU bU H,aU fun _ _ H K => R.asg (eU K 103 rfl) rfl H,trivial⟩ rfl rfl rfl rfl (tU rfl ?_)
         refine W.l0 4 [.y 104 _,.y 105 _,.y 106 _,.y 16 _] [] [] [(10,_),(12,_),(14,_),(15,_),(16,_),(17,_)] [(10,.var _)] 115 ⟨mU 16 rfl rfl,aU fun _ _ H K => R.addN (lenA (1 + n.toNat) j) (1) (eU K 104 rfl) (kI 1 rfl) bU H,aU fun _ _ H K => R.quoN ((lenA (1 + n.toNat) j + 1)) (2) (eU K 105 rfl) (kI 2 rfl) bU bU H,aU fun _ _ H K => R.asg (eU K 106 rfl) rfl H,trivial⟩ rfl rfl rfl rfl (tU rfl ?_)
         refine W.l0 3 [.y 67 _,.y 68 _,.y 17 _] [] [] [(10,_),(12,_),(14,_),(15,_),(16,_),(17,_)] [(10,.var _)] 115 ⟨mU 17 rfl rfl,aU fun _ _ H K => R.addN (j) (1) (eU K 67 rfl) (kI 1 rfl) bU H,aU fun _ _ H K => R.asg (eU K 68 rfl) rfl H,trivial⟩ rfl rfl rfl rfl (tU rfl ?_)
         exact ⟨⟨(j + 1),bU⟩,(by rw [div_next] <;> first | (rw [size_t hreal] <;> rfl) | (rw [size_f hreal] <;> rfl)),(by simp only []; omega)⟩
     · refine W.l0 9 [.y 69 _,.y 70 _,.y 71 _,.y 72 _,.y 73 _,.y 74 _,.y 75 _,.y 76 _,.y 77 _] [] [] [(10,_),(12,_),(14,_),(15,_),(16,_),(17,_),(77,_)] [(10,.var _)] 115 ⟨mU 15 rfl rfl,aU fun _ _ H K => R.remN ((k.toNat % (1 + n.toNat)) / 2 ^ j) (2) (eU K 69 rfl) (kI 2 rfl) bU H,aU fun _ _ H K => R.eqlN (((k.toNat % (1 + n.toNat)) / 2 ^ j % 2)) (1) (eU K 70 rfl) (kI 1 rfl) H,mU 71 rfl rfl,aW rfl rfl (gF (decide_eq_false hr1) rfl) fun _ _ H K => R.mov (eU K 15 rfl) rfl H,aW rfl rfl (gF (decide_eq_false hr1) rfl) fun _ _ H K => R.addN ((k.toNat % (1 + n.toNat)) / 2 ^ j) (1) (eU K 73 rfl) (kI 1 rfl) bU H,aW rfl rfl (gF (decide_eq_false hr1) rfl) fun _ _ H K => R.mov (eU K 16 rfl) rfl H,aW rfl rfl (gF (decide_eq_false hr1) rfl) fun _ _ H K => R.lssN (((k.toNat % (1 + n.toNat)) / 2 ^ j + 1)) (lenA (1 + n.toNat) j) (eU K 74 rfl) (eU K 75 rfl) H,aU fun _ _ H K => R.pickF (eU K 72 rfl) (decide_eq_false hr1) (eU K 76 rfl) rfl H,trivial⟩ rfl rfl rfl rfl (tU rfl ?_)
       refine W.condD rfl (fun hc77 => ?_) (fun hc77 => ?_)
       · refine W.seq ?_
         have hreal := real_2 hc77
         have hmem := anyI_mem (hone.2 j (by omega) hreal)
         refine W.l0 3 [.y 78 _,.y 79 _,.y 14 _] [] [] [(10,_),(12,_),(14,_),(15,_),(16,_),(17,_)] [(10,.var _)] 115 ⟨mU 14 rfl rfl,aU fun _ _ H K => R.addN (sizeI (1 + n.toNat) (k.toNat % (1 + n.toNat)) j) (1) (eU K 78 rfl) (kI 1 rfl) bU H,aU fun _ _ H K => R.asg (eU K 79 rfl) rfl H,trivial⟩ rfl rfl rfl rfl (tU rfl ?_)
         refine W.seq ?_
         refine W.l0 1 [.y 18 _] [] [] [(10,_),(12,_),(14,_),(15,_),(16,_),(17,_),(18,_)] [(10,.var _)] 115 ⟨aU fun _ _ H _ => R.asg (kB false rfl) rfl H,trivial⟩ rfl rfl rfl rfl (tU rfl ?_)
         refine W.seq ?_
         refine W.seq ?_
         refine W.l0 1 [.y 19 _] [] [] [(10,_),(12,_),(14,_),(15,_),(16,_),(17,_),(18,_),(19,_)] [(10,.var _)] 115 ⟨aU fun _ _ H _ => R.asg (kI 0 rfl) rfl H,trivial⟩ rfl rfl rfl rfl (tU rfl ?_)
         refine W.block ?_
         refine W.loop (α := {q__ : Nat // q__ ≤ (hB (1 + n.toNat) (k.toNat % (1 + n.toNat))).length}) (fun q__ => ⟨115,[(10,.ptr 10 0 []),(12,.sl none 32 ((brB (1 + n.toNat) (k.toNat % (1 + n.toNat))).map hashD)),(14,.int ((sizeI (1 + n.toNat) (k.toNat % (1 + n.toNat)) j + 1 : Nat) : Int)),(15,.int (((k.toNat % (1 + n.toNat)) / 2 ^ j : Nat) : Int)),(16,.int ((lenA (1 + n.toNat) j : Nat) : Int)),(17,.int ((j : Nat) : Int)),(18,.bool (anyI (hB (1 + n.toNat) (k.toNat % (1 + n.toNat))) (brB (1 + n.toNat) (k.toNat % (1 + n.toNat)))[j]! q__.1)),(19,.int ((q__.1 : Nat) : Int))],[(10,.var (.agg [.int (((1 + n.toNat) : Nat) : Int),.sl none 32 ((hB (1 + n.toNat) (k.toNat % (1 + n.toNat))).map hashD),.sl none 1 ((fB (1 + n.toNat) (k.toNat % (1 + n.toNat))).map D.bool)]))]⟩) (fun q__ => (hB (1 + n.toNat) (k.toNat % (1 + n.toNat))).length - q__.1) ⟨(0),bU⟩ rfl ?_
         rintro ⟨q,hq⟩
         show W _ _ _ _ ⟨115,[(10,.ptr 10 0 []),(12,.sl none 32 ((brB (1 + n.toNat) (k.toNat % (1 + n.toNat))).map hashD)),(14,.int ((sizeI (1 + n.toNat) (k.toNat % (1 + n.toNat)) j + 1 : Nat) : Int)),(15,.int (((k.toNat % (1 + n.toNat)) / 2 ^ j : Nat) : Int)),(16,.int ((lenA (1 + n.toNat) j : Nat) : Int)),(17,.int ((j : Nat) : Int)),(18,.bool (anyI (hB (1 + n.toNat) (k.toNat % (1 + n.toNat))) (brB (1 + n.toNat) (k.toNat % (1 + n.toNat)))[j]! q)),(19,.int ((q : Nat) : Int))],[(10,.var (.agg [.int (((1 + n.toNat) : Nat) : Int),.sl none 32 ((hB (1 + n.toNat) (k.toNat % (1 + n.toNat))).map hashD),.sl none 1 ((fB (1 + n.toNat) (k.toNat % (1 + n.toNat))).map D.bool)]))]⟩
         have hq : q ≤ (hB (1 + n.toNat) (k.toNat % (1 + n.toNat))).length := hq
         refine W.seq ?_
         refine W.seq ?_
         refine W.l0 5 [.y 80 _,.y 81 _,.y 82 _,.y 83 _,.y 84 _] [] [] [(10,_),(12,_),(14,_),(15,_),(16,_),(17,_),(18,_),(19,_),(84,_)] [(10,.var _)] 115 ⟨mU 19 rfl rfl,aU (fU 10 rfl rfl),aU (lU 81 rfl rfl rfl rfl rfl rfl rfl),aU fun _ _ H K => R.lenE (SC.sl (K 82 _ rfl)) (List.length_map _) H,aU fun _ _ H K => R.lssN (q) ((hB (1 + n.toNat) (k.toNat % (1 + n.toNat))).length) (eU K 80 rfl) (eU K 83 rfl) H,trivial⟩ rfl rfl rfl rfl (tU rfl ?_)
         refine W.condD rfl (fun hc84 => ?_) (fun hc84 => ?_)
         · refine W.skip ?_
           refine W.seq ?_
           refine W.block ?_
           by_cases hany : anyI (hB (1 + n.toNat) (k.toNat % (1 + n.toNat))) (brB (1 + n.toNat) (k.toNat % (1 + n.toNat)))[j]! q = true
           · refine W.draw (m := 14) (an := [0,1,3,7,3,31,63,3,3,387,899,2047,4095,8191]) hP (by decide) rfl (its := [.y 87 _,.y 88 _,.x 89,.x 90,.x 91,.x 92,.x 93,.x 94,.x 95,.x 96,.x 97,.x 98,.y 99 _,.y 18 _]) (ks := []) (kk := []) (live := [10,12,14,15,16,17,18,19]) (env' := [(10,_),(12,_),(14,_),(15,_),(16,_),(17,_),(18,_),(19,_)]) (⟨nU rfl,rfl,⟨mU 18 rfl rfl,mU 87 rfl rfl,aF rfl rfl (gT (hany) rfl),aF rfl rfl (gT (hany) rfl),aF rfl rfl (gT (hany) rfl),aF rfl rfl (gT (hany) rfl),aF rfl rfl (gT (hany) rfl),aF rfl rfl (gT (hany) rfl),aF rfl rfl (gT (hany) rfl),aF rfl rfl (gT (hany) rfl),aF rfl rfl (gT (hany) rfl),aF rfl rfl (gT (hany) rfl),aU fun _ _ H K => R.pickT (eU K 88 rfl) (hany) (kB true rfl) rfl H,aU fun _ _ H K => R.asg (eU K 99 rfl) rfl H,trivial⟩,rfl,rfl,rfl⟩) rfl (bx' := [(10,.var _)]) rfl (n' := 115) rfl (tV [(10,_),(12,_),(14,_),(15,_),(16,_),(17,_),(18,_),(19,_)] [(10,.var _)] 115 rfl rfl rfl ?_)
             refine W.l0 3 [.y 85 _,.y 86 _,.y 19 _] [] [] [(10,_),(12,_),(14,_),(15,_),(16,_),(17,_),(18,_),(19,_)] [(10,.var _)] 115 ⟨mU 19 rfl rfl,aU fun _ _ H K => R.addN (q) (1) (eU K 85 rfl) (kI 1 rfl) bU H,aU fun _ _ H K => R.asg (eU K 86 rfl) rfl H,trivial⟩ rfl rfl rfl rfl (tU rfl ?_)
             exact ⟨⟨(q + 1),bU⟩,(by first | (rw [anyI_1 hany] <;> rfl) | (rw [anyI_2 (bfalse hany)] <;> rfl)),(by simp only []; omega)⟩
           · refine W.draw (m := 14) (an := [0,1,3,7,3,31,63,3,3,387,899,2047,4095,8191]) hP (by decide) rfl (its := [.y 87 _,.y 88 _,.y 89 _,.y 90 _,.y 91 _,.y 92 _,.y 93 _,.y 94 _,.y 95 _,.y 96 _,.y 97 _,.y 98 _,.y 99 _,.y 18 _]) (ks := []) (kk := []) (live := [10,12,14,15,16,17,18,19]) (env' := [(10,_),(12,_),(14,_),(15,_),(16,_),(17,_),(18,_),(19,_)]) (⟨nU rfl,rfl,⟨mU 18 rfl rfl,mU 87 rfl rfl,aW rfl rfl (gF (bfalse hany) rfl) (fU 10 rfl rfl),aW rfl rfl (gF (bfalse hany) rfl) (lU 89 rfl rfl rfl rfl rfl rfl rfl),aW rfl rfl (gF (bfalse hany) rfl) fun _ _ H K => R.mov (eU K 19 rfl) rfl H,aW rfl rfl (gF (bfalse hany) rfl) fun _ _ H K => R.idxN (q) (SC.sl (K 90 _ rfl)) (evoI (eU K 91 rfl)) rfl bU H (by decide),aW rfl rfl (gF (bfalse hany) rfl) fun _ _ H K => R.ldE (K 92 _ rfl) (SC.sl (K 90 _ rfl)) (map_get! (l := (hB (1 + n.toNat) (k.toNat % (1 + n.toNat)))) bU) rfl rfl rfl rfl H,aW rfl rfl (gF (bfalse hany) rfl) fun _ _ H K => R.mov (eU K 12 rfl) rfl H,aW rfl rfl (gF (bfalse hany) rfl) fun _ _ H K => R.mov (eU K 17 rfl) rfl H,aW rfl rfl (gF (bfalse hany) rfl) fun _ _ H K => R.idxN (j) (SC.sl (K 94 _ rfl)) (evoI (eU K 95 rfl)) rfl bU H (by decide),aW rfl rfl (gF (bfalse hany) rfl) fun _ _ H K => R.ldE (K 96 _ rfl) (SC.sl (K 94 _ rfl)) (map_get! (l := (brB (1 + n.toNat) (k.toNat % (1 + n.toNat)))) bU) rfl rfl rfl rfl H,aW rfl rfl (gF (bfalse hany) rfl) fun _ _ H K => R.eqAE (eU K 93 rfl) (eU K 97 rfl) H,aU fun _ _ H K => R.pickF (eU K 88 rfl) (bfalse hany) (eU K 98 rfl) rfl H,aU fun _ _ H K => R.asg (eU K 99 rfl) rfl H,trivial⟩,rfl,rfl,rfl⟩) rfl (bx' := [(10,.var _)]) rfl (n' := 115) rfl (tV [(10,_),(12,_),(14,_),(15,_),(16,_),(17,_),(18,_),(19,_)] [(10,.var _)] 115 rfl rfl rfl ?_)
             refine W.l0 3 [.y 85 _,.y 86 _,.y 19 _] [] [] [(10,_),(12,_),(14,_),(15,_),(16,_),(17,_),(18,_),(19,_)] [(10,.var _)] 115 ⟨mU 19 rfl rfl,aU fun _ _ H K => R.addN (q) (1) (eU K 85 rfl) (kI 1 rfl) bU H,aU fun _ _ H K => R.asg (eU K 86 rfl) rfl H,trivial⟩ rfl rfl rfl rfl (tU rfl ?_)
             exact ⟨⟨(q + 1),bU⟩,(by first | (rw [anyI_1 hany] <;> rfl) | (rw [anyI_2 (bfalse hany)] <;> rfl)),(by simp only []; omega)⟩
         · obtain rfl : q = (hB (1 + n.toNat) (k.toNat % (1 + n.toNat))).length := by omega
           refine W.exit ?_
           refine W.seq ?_
           refine W.l0 2 [.y 100 _,.y 101 _] [] [] [(10,_),(12,_),(14,_),(15,_),(16,_),(17,_),(101,_)] [(10,.var _)] 115 ⟨mU 18 rfl rfl,aU fun _ _ H K => R.un (eU K 100 rfl) rfl H,trivial⟩ rfl rfl rfl rfl (tU rfl ?_)
           refine W.condF rfl (by rw [hmem]; rfl) ?_
           refine W.skip ?_
           refine W.seq ?_
           try have hreal := real_3 hr1 hc77
           refine W.l0 3 [.y 102 _,.y 103 _,.y 15 _] [] [] [(10,_),(12,_),(14,_),(15,_),(16,_),(17,_)] [(10,.var _)] 115 ⟨mU 15 rfl rfl,aU fun _ _ H K => R.quoN ((k.toNat % (1 + n.toNat)) / 2 ^ j) (2) (eU K 102 rfl) (kI 2 rfl) bU bU H,aU fun _ _ H K => R.asg (eU K 103 rfl) rfl H,trivial⟩ rfl rfl rfl rfl (tU rfl ?_)
           refine W.l0 4 [.y 104 _,.y 105 _,.y 106 _,.y 16 _] [] [] [(10,_),(12,_),(14,_),(15,_),(16,_),(17,_)] [(10,.var _)] 115 ⟨mU 16 rfl rfl,aU fun _ _ H K => R.addN (lenA (1 + n.toNat) j) (1) (eU K 104 rfl) (kI 1 rfl) bU H,aU fun _ _ H K => R.quoN ((lenA (1 + n.toNat) j + 1)) (2) (eU K 105 rfl) (kI 2 rfl) bU bU H,aU fun _ _ H K => R.asg (eU K 106 rfl) rfl H,trivial⟩ rfl rfl rfl rfl (tU rfl ?_)
           refine W.l0 3 [.y 67 _,.y 68 _,.y 17 _] [] [] [(10,_),(12,_),(14,_),(15,_),(16,_),(17,_)] [(10,.var _)] 115 ⟨mU 17 rfl rfl,aU fun _ _ H K => R.addN (j) (1) (eU K 67 rfl) (kI 1 rfl) bU H,aU fun _ _ H K => R.asg (eU K 68 rfl) rfl H,trivial⟩ rfl rfl rfl rfl (tU rfl ?_)
           exact ⟨⟨(j + 1),bU⟩,(by rw [div_next] <;> first | (rw [size_t hreal] <;> rfl) | (rw [size_f hreal] <;> rfl)),(by simp only []; omega)⟩
       · refine W.skip ?_
         refine W.seq ?_
         try have hreal := real_3 hr1 hc77
         refine W.l0 3 [.y 102 _,.y 103 _,.y 15 _] [] [] [(10,_),(12,_),(14,_),(15,_),(16,_),(17,_)] [(10,.var _)] 115 ⟨mU 15 rfl rfl,aU fun _ _ H K => R.quoN ((k.toNat % (1 + n.toNat)) / 2 ^ j) (2) (eU K 102 rfl) (kI 2 rfl) bU bU H,aU fun _ _ H K => R.asg (eU K 103 rfl) rfl H,trivial⟩ rfl rfl rfl rfl (tU rfl ?_)
         refine W.l0 4 [.y 104 _,.y 105 _,.y 106 _,.y 16 _] [] [] [(10,_),(12,_),(14,_),(15,_),(16,_),(17,_)] [(10,.var _)] 115 ⟨mU 16 rfl rfl,aU fun _ _ H K => R.addN (lenA (1 + n.toNat) j) (1) (eU K 104 rfl) (kI 1 rfl) bU H,aU fun _ _ H K => R.quoN ((lenA (1 + n.toNat) j + 1)) (2) (eU K 105 rfl) (kI 2 rfl) bU bU H,aU fun _ _ H K => R.asg (eU K 106 rfl) rfl H,trivial⟩ rfl rfl rfl rfl (tU rfl ?_)
         refine W.l0 3 [.y 67 _,.y 68 _,.y 17 _] [] [] [(10,_),(12,_),(14,_),(15,_),(16,_),(17,_)] [(10,.var _)] 115 ⟨mU 17 rfl rfl,aU fun _ _ H K => R.addN (j) (1) (eU K 67 rfl) (kI 1 rfl) bU H,aU fun _ _ H K => R.asg (eU K 68 rfl) rfl H,trivial⟩ rfl rfl rfl rfl (tU rfl ?_)
         exact ⟨⟨(j + 1),bU⟩,(by rw [div_next] <;> first | (rw [size_t hreal] <;> rfl) | (rw [size_f hreal] <;> rfl)),(by simp only []; omega)⟩
   · obtain rfl : j = (brB (1 + n.toNat) (k.toNat % (1 + n.toNat))).length := by omega
     refine W.exit ?_
     refine W.seq ?_
     refine W.l0 9 [.y 107 _,.y 108 _,.y 109 _,.y 110 _,.y 111 _,.y 112 _,.y 113 _,.y 114 _,.y 4 _] [] [] [(4,_)] [(10,.var _)] 115 ⟨aU (fU 10 rfl rfl),aU (lU 107 rfl rfl rfl rfl rfl rfl rfl),aU fun _ _ H K => R.lenE (SC.sl (K 108 _ rfl)) (List.length_map _) H,mU 14 rfl rfl,aU fun _ _ H K => R.eqlN ((hB (1 + n.toNat) (k.toNat % (1 + n.toNat))).length) (sizeI (1 + n.toNat) (k.toNat % (1 + n.toNat)) (brB (1 + n.toNat) (k.toNat % (1 + n.toNat))).length) (eU K 109 rfl) (eU K 110 rfl) H,mU 111 rfl rfl,aW rfl rfl (gT (decide_eq_true hone.1) rfl) fun _ _ H _ => R.callG hC (works_ok) Bors.nil (FrsR.one (.bool _)) H,aU fun _ _ H K => R.pickT (eU K 112 rfl) (decide_eq_true hone.1) (eU K 113 rfl) rfl H,aU fun _ _ H K => R.asg (eU K 114 rfl) rfl H,trivial⟩ rfl rfl rfl rfl (tU rfl ?_)
     refine W.ret ?_
     exact Ends.one' (.inr rfl) rfl (rfl) rfl rfl trivial

end Go.Sx
