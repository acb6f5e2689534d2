/-
 Own library: functions that are given what their first argument owns.
-/
import Derived.Test.YthhliikibffhjaaDoorMSxCallB
import Derived.Test.YthhliikibffhjaaDoorMPt3
set_option linter.unusedVariables false
set_option linter.unusedSimpArgs false
set_option linter.unnecessarySimpa false

namespace Go.Sx
open Go.Proofs
theorem prows_ok (l : List Hs) (f : List Bool) (hl : allH l) (h0 : 0 < l.length) (hl0 : l.length ≤ 1000) (hf : f.length = l.length) : Fn Tryd.prog gl 24 [.sl none 32 (l.map hashD),.sl none 1 (f.map D.bool)] (.tup [.sl none 1 ((rowsL joinS l (nRows l.length)).map hsD),.sl none 1 ((flsL f (nRows l.length)).map flD)]) := by
 refine Fn.of (n := 68) Tryd.func24 rfl rfl rfl (nU rfl) fun C hC hD => ?_
 refine W.seq ?_
 refine W.l0 2 [.y 4 _,.y 5 _] [] [] [(0,_),(1,_)] [] 68 ⟨aU fun _ _ H _ => R.asg (kN rfl) rfl H,aU fun _ _ H _ => R.asg (kN rfl) rfl H,trivial⟩ rfl rfl rfl rfl (tU rfl ?_)
 refine W.seq ?_
 refine W.l0 6 [.y 12 _,.y 13 _,.y 14 _,.y 15 _,.y 6 _,.y 7 _] [(4,13),(5,15)] [(4,13),(5,15)] [(0,_),(1,_),(6,_),(7,_)] [] 68 ⟨mU 0 rfl rfl,aU fun _ _ H K => R.bslE (z := 1) (.cons (eU K 12 rfl) .nil) ⟨⟨rfl,rfl,rfl⟩,trivial⟩ rfl H (by decide),mU 1 rfl rfl,aU fun _ _ H K => R.bslE (z := 1) (.cons (eU K 14 rfl) .nil) ⟨⟨rfl,rfl,rfl⟩,trivial⟩ rfl H (by decide),aU fun _ _ H K => R.asgO (K 13 _ rfl) rfl H (by decide),aU fun _ _ H K => R.asgO (K 15 _ rfl) rfl H (by decide),trivial⟩ rfl rfl rfl rfl (tU rfl ?_)
 refine W.seq ?_
 refine W.block ?_
 refine W.loop (α := {q__ : Nat // q__ + nRows (rowA joinS l q__).length = nRows l.length}) (fun q__ => ⟨68,[(0,.sl none 32 ((rowA joinS l q__.1).map hashD)),(1,.sl none 1 ((flA f q__.1).map D.bool)),(6,.sl (some 22) 1 ((rowsL joinS l (q__.1 + 1)).map hsD)),(7,.sl (some 23) 1 ((flsL f (q__.1 + 1)).map flD))],[]⟩) (fun q__ => nRows l.length - q__.1) ⟨(0),(by show 0 + _ = _; rw [Nat.zero_add]; rfl)⟩ rfl ?_
 rintro ⟨k,hk⟩
 show W _ _ _ _ ⟨68,[(0,.sl none 32 ((rowA joinS l k).map hashD)),(1,.sl none 1 ((flA f k).map D.bool)),(6,.sl (some 22) 1 ((rowsL joinS l (k + 1)).map hsD)),(7,.sl (some 23) 1 ((flsL f (k + 1)).map flD))],[]⟩
 have hrl := rowA_len joinS l k
 have hle := lenA_le l.length k
 have hra := rowA_all joinS_len hl k
 have hrp := rowA_pos1 joinS h0 k
 have hfl := flA_len (J := joinS) hf k
 have hnl := nRows_le l.length
 have hsl := rowsL_len joinS l (k + 1)
 have hsf := flsL_len f (k + 1)
 have hk : k + nRows (rowA joinS l k).length = nRows l.length := hk
 have hkp := nRows_pos (n := (rowA joinS l k).length) hrp
 refine W.seq ?_
 refine W.seq ?_
 refine W.l0 3 [.y 16 _,.y 17 _,.y 18 _] [] [] [(0,_),(1,_),(6,_),(7,_),(18,_)] [] 68 ⟨mU 0 rfl rfl,aU fun _ _ H K => R.lenE (SC.sl (K 16 _ rfl)) (List.length_map _) H,aU fun _ _ H K => R.gtrN ((rowA joinS l k).length) (1) (eU K 17 rfl) (kI 1 rfl) H,trivial⟩ rfl rfl rfl rfl (tU rfl ?_)
 refine W.condD rfl (fun hc18 => ?_) (fun hc18 => ?_)
 · refine W.skip ?_
   refine W.block ?_
   refine W.seq ?_
   refine W.l0 1 [.y 8 _] [] [] [(0,_),(1,_),(6,_),(7,_),(8,_)] [] 68 ⟨aU fun _ _ H _ => R.asg (kN rfl) rfl H,trivial⟩ rfl rfl rfl rfl (tU rfl ?_)
   refine W.seq ?_
   refine W.l0 1 [.y 9 _] [] [] [(0,_),(1,_),(6,_),(7,_),(8,_),(9,_)] [] 68 ⟨aU fun _ _ H _ => R.asg (kN rfl) rfl H,trivial⟩ rfl rfl rfl rfl (tU rfl ?_)
   refine W.seq ?_
   refine W.seq ?_
   refine W.l0 1 [.y 10 _] [] [] [(0,_),(1,_),(6,_),(7,_),(8,_),(9,_),(10,_)] [] 68 ⟨aU fun _ _ H _ => R.asg (kI 0 rfl) rfl H,trivial⟩ rfl rfl rfl rfl (tU rfl ?_)
   refine W.block ?_
   refine W.asOwn (s := 8) 38 32 rfl ?_
   refine W.asOwn (s := 9) 4 1 rfl ?_
   refine W.loop (α := {q__ : Nat // q__ ≤ ((rowA joinS l k).length + 1) / 2}) (fun q__ => ⟨68,[(0,.sl none 32 ((rowA joinS l k).map hashD)),(1,.sl none 1 ((flA f k).map D.bool)),(6,.sl (some 22) 1 ((rowsL joinS l (k + 1)).map hsD)),(7,.sl (some 23) 1 ((flsL f (k + 1)).map flD)),(8,.sl (some 38) 32 ((upI joinS (rowA joinS l k) q__.1).map hashD)),(9,.sl (some 4) 1 ((upFI (flA f k) q__.1).map D.bool)),(10,.int ((2 * q__.1 : Nat) : Int))],[]⟩) (fun q__ => ((rowA joinS l k).length + 1) / 2 - q__.1) ⟨(0),bU⟩ rfl ?_
   rintro ⟨i,hi⟩
   show W _ _ _ _ ⟨68,[(0,.sl none 32 ((rowA joinS l k).map hashD)),(1,.sl none 1 ((flA f k).map D.bool)),(6,.sl (some 22) 1 ((rowsL joinS l (k + 1)).map hsD)),(7,.sl (some 23) 1 ((flsL f (k + 1)).map flD)),(8,.sl (some 38) 32 ((upI joinS (rowA joinS l k) i).map hashD)),(9,.sl (some 4) 1 ((upFI (flA f k) i).map D.bool)),(10,.int ((2 * i : Nat) : Int))],[]⟩
   have hul := upI_len joinS (rowA joinS l k) i
   have hvl := upFI_len (flA f k) i
   refine W.seq ?_
   refine W.seq ?_
   refine W.l0 4 [.y 19 _,.y 20 _,.y 21 _,.y 22 _] [] [] [(0,_),(1,_),(6,_),(7,_),(8,_),(9,_),(10,_),(22,_)] [] 68 ⟨mU 10 rfl rfl,mU 0 rfl rfl,aU fun _ _ H K => R.lenE (SC.sl (K 20 _ rfl)) (List.length_map _) H,aU fun _ _ H K => R.lssN (2 * i) ((rowA joinS l k).length) (eU K 19 rfl) (eU K 21 rfl) H,trivial⟩ rfl rfl rfl rfl (tU rfl ?_)
   refine W.condD rfl (fun hc22 => ?_) (fun hc22 => ?_)
   · refine W.skip ?_
     refine W.seq ?_
     refine W.block ?_
     refine W.seq ?_
     refine W.l0 7 [.y 25 _,.y 26 _,.y 27 _,.y 28 _,.y 29 _,.y 30 _,.y 11 _] [] [] [(0,_),(1,_),(6,_),(7,_),(8,_),(9,_),(10,_),(11,_)] [] 68 ⟨mU 10 rfl rfl,aU fun _ _ H K => R.addN (2 * i) (1) (eU K 25 rfl) (kI 1 rfl) bU H,mU 0 rfl rfl,aU fun _ _ H K => R.lenE (SC.sl (K 27 _ rfl)) (List.length_map _) H,aU fun _ _ H K => R.subN ((rowA joinS l k).length) (1) (eU K 28 rfl) (kI 1 rfl) bU bU H,aU fun _ _ H K => R.minI (r := ((min (2 * i + 1) ((rowA joinS l k).length - 1) : Nat) : Int)) (eU K 26 rfl) (eU K 29 rfl) (by omega) H,aU fun _ _ H K => R.asg (eU K 30 rfl) rfl H,trivial⟩ rfl rfl rfl rfl (tU rfl ?_)
     refine W.seq ?_
     refine W.draw (m := 13) (an := [0,0,0,6,14,0,0,96,224,510,1022,2047,4095]) hP (by decide) rfl (its := [.y 31 _,.y 32 _,.y 33 _,.y 34 _,.y 35 _,.y 36 _,.y 37 _,.y 38 _,.y 39 _,.y 40 _,.y 41 _,.y 42 _,.y 8 _]) (ks := [(11,8),(12,42),(12,31)]) (kk := [(11,8),(12,42)]) (live := [0,1,6,7,8,9,10,11]) (env' := [(0,_),(1,_),(6,_),(7,_),(8,_),(9,_),(10,_),(11,_)]) (⟨nU rfl,rfl,⟨aU fun _ _ H K => R.al (K 8 _ rfl) H (by decide),mU 0 rfl rfl,mU 10 rfl rfl,aU fun _ _ H K => R.idxN (2 * i) (SC.sl (K 32 _ rfl)) (evoI (eU K 33 rfl)) rfl bU H (by decide),aU fun _ _ H K => R.ldE (K 34 _ rfl) (SC.sl (K 32 _ rfl)) (map_get! (l := (rowA joinS l k)) bU) rfl rfl rfl rfl H,mU 0 rfl rfl,mU 11 rfl rfl,aU fun _ _ H K => R.idxN (min (2 * i + 1) ((rowA joinS l k).length - 1)) (SC.sl (K 36 _ rfl)) (evoI (eU K 37 rfl)) rfl bU H (by decide),aU fun _ _ H K => R.ldE (K 38 _ rfl) (SC.sl (K 36 _ rfl)) (map_get! (l := (rowA joinS l k)) bU) rfl rfl rfl rfl H,aU fun _ _ H K => R.callG hC (join_ok _ _ (hra.get (by omega)) (hra.get (by omega))) (Bors.cons (Bor.pur (eU K 35 rfl) rfl rfl) (Bors.cons (Bor.pur (eU K 39 rfl) rfl rfl) Bors.nil)) (FrsR.one (frs_hash _)) H,aU fun _ _ H K => R.bslE (z := 32) (.cons (eU K 40 rfl) .nil) ⟨⟨rfl,rfl,rfl⟩,trivial⟩ rfl H (by decide),aU fun _ _ H K => R.appE (Or.inr (K 31 _ rfl)) (K 8 _ rfl) (SrcO.sc (SC.sl (K 41 _ rfl)) (pur_lit rfl)) (app_one) bU H (by decide) (by decide),aU fun _ _ H K => R.asgO (K 42 _ rfl) rfl H (by decide),trivial⟩,rfl,rfl,rfl⟩) rfl (bx' := []) rfl (n' := 68) rfl (tV [(0,_),(1,_),(6,_),(7,_),(8,_),(9,_),(10,_),(11,_)] [] 68 rfl rfl rfl ?_)
     by_cases hfi : (flA f k)[2 * i]! = true
     · refine W.l0 14 [.y 43 _,.y 44 _,.y 45 _,.y 46 _,.y 47 _,.y 48 _,.x 49,.x 50,.x 51,.x 52,.y 53 _,.y 54 _,.y 55 _,.y 9 _] [(12,9),(13,55),(13,43)] [(12,9),(13,55)] [(0,_),(1,_),(6,_),(7,_),(8,_),(9,_),(10,_)] [] 68 ⟨aU fun _ _ H K => R.al (K 9 _ rfl) H (by decide),mU 1 rfl rfl,mU 10 rfl rfl,aU fun _ _ H K => R.idxN (2 * i) (SC.sl (K 44 _ rfl)) (evoI (eU K 45 rfl)) rfl bU H (by decide),aU fun _ _ H K => R.ldE (K 46 _ rfl) (SC.sl (K 44 _ rfl)) (map_get! (l := (flA f k)) bU) rfl rfl rfl rfl H,mU 47 rfl rfl,aF rfl rfl (gT (hfi) rfl),aF rfl rfl (gT (hfi) rfl),aF rfl rfl (gT (hfi) rfl),aF rfl rfl (gT (hfi) rfl),aU fun _ _ H K => R.pickT (eU K 48 rfl) (hfi) (kB true rfl) rfl H,aU fun _ _ H K => R.bslE (z := 1) (.cons (eU K 53 rfl) .nil) ⟨⟨rfl,rfl,rfl⟩,trivial⟩ rfl H (by decide),aU fun _ _ H K => R.appE (Or.inr (K 43 _ rfl)) (K 9 _ rfl) (SrcO.sc (SC.sl (K 54 _ rfl)) (pur_lit rfl)) (show _ = ((upFI (flA f k) (i + 1)).map D.bool) from (show _ = (upFI (flA f k) (i + 1)).map D.bool from by rw [← upFI_t hfi,List.map_append]; rfl)) bU H (by decide) (by decide),aU fun _ _ H K => R.asgO (K 55 _ rfl) rfl H (by decide),trivial⟩ rfl rfl rfl rfl (tU rfl ?_)
       refine W.l0 3 [.y 23 _,.y 24 _,.y 10 _] [] [] [(0,_),(1,_),(6,_),(7,_),(8,_),(9,_),(10,_)] [] 68 ⟨mU 10 rfl rfl,aU fun _ _ H K => R.addN (2 * i) (2) (eU K 23 rfl) (kI 2 rfl) bU H,aU fun _ _ H K => R.asg (eU K 24 rfl) rfl H,trivial⟩ rfl rfl rfl rfl (tU rfl ?_)
       exact ⟨⟨(i + 1),bU⟩,rfl,(by simp only []; omega)⟩
     · refine W.l0 14 [.y 43 _,.y 44 _,.y 45 _,.y 46 _,.y 47 _,.y 48 _,.y 49 _,.y 50 _,.y 51 _,.y 52 _,.y 53 _,.y 54 _,.y 55 _,.y 9 _] [(12,9),(13,55),(13,43)] [(12,9),(13,55)] [(0,_),(1,_),(6,_),(7,_),(8,_),(9,_),(10,_)] [] 68 ⟨aU fun _ _ H K => R.al (K 9 _ rfl) H (by decide),mU 1 rfl rfl,mU 10 rfl rfl,aU fun _ _ H K => R.idxN (2 * i) (SC.sl (K 44 _ rfl)) (evoI (eU K 45 rfl)) rfl bU H (by decide),aU fun _ _ H K => R.ldE (K 46 _ rfl) (SC.sl (K 44 _ rfl)) (map_get! (l := (flA f k)) bU) rfl rfl rfl rfl H,mU 47 rfl rfl,aW rfl rfl (gF (bfalse hfi) rfl) fun _ _ H K => R.mov (eU K 1 rfl) rfl H,aW rfl rfl (gF (bfalse hfi) rfl) fun _ _ H K => R.mov (eU K 11 rfl) rfl H,aW rfl rfl (gF (bfalse hfi) rfl) fun _ _ H K => R.idxN (min (2 * i + 1) ((rowA joinS l k).length - 1)) (SC.sl (K 49 _ rfl)) (evoI (eU K 50 rfl)) rfl bU H (by decide),aW rfl rfl (gF (bfalse hfi) rfl) fun _ _ H K => R.ldE (K 51 _ rfl) (SC.sl (K 49 _ rfl)) (map_get! (l := (flA f k)) bU) rfl rfl rfl rfl H,aU fun _ _ H K => R.pickF (eU K 48 rfl) (bfalse hfi) (eU K 52 rfl) rfl H,aU fun _ _ H K => R.bslE (z := 1) (.cons (eU K 53 rfl) .nil) ⟨⟨rfl,rfl,rfl⟩,trivial⟩ rfl H (by decide),aU fun _ _ H K => R.appE (Or.inr (K 43 _ rfl)) (K 9 _ rfl) (SrcO.sc (SC.sl (K 54 _ rfl)) (pur_lit rfl)) (show _ = ((upFI (flA f k) (i + 1)).map D.bool) from (show _ = (upFI (flA f k) (i + 1)).map D.bool from by rw [← upFI_f (bfalse hfi) hfl,List.map_append]; rfl)) bU H (by decide) (by decide),aU fun _ _ H K => R.asgO (K 55 _ rfl) rfl H (by decide),trivial⟩ rfl rfl rfl rfl (tU rfl ?_)
       refine W.l0 3 [.y 23 _,.y 24 _,.y 10 _] [] [] [(0,_),(1,_),(6,_),(7,_),(8,_),(9,_),(10,_)] [] 68 ⟨mU 10 rfl rfl,aU fun _ _ H K => R.addN (2 * i) (2) (eU K 23 rfl) (kI 2 rfl) bU H,aU fun _ _ H K => R.asg (eU K 24 rfl) rfl H,trivial⟩ rfl rfl rfl rfl (tU rfl ?_)
       exact ⟨⟨(i + 1),bU⟩,rfl,(by simp only []; omega)⟩
   · obtain rfl : i = ((rowA joinS l k).length + 1) / 2 := by omega
     refine W.exit ?_
     refine W.seq ?_
     refine W.l0 4 [.y 56 _,.y 57 _,.y 0 _,.y 1 _] [(0,8),(1,9),(2,56),(3,57)] [(0,8),(1,9),(2,56),(3,57)] [(0,_),(1,_),(6,_),(7,_)] [] 68 ⟨aU fun _ _ H K => R.movO (K 8 _ rfl) rfl H (by decide),aU fun _ _ H K => R.movO (K 9 _ rfl) rfl H (by decide),aU fun _ _ H K => R.asgO (K 56 _ rfl) rfl H (by decide),aU fun _ _ H K => R.asgO (K 57 _ rfl) rfl H (by decide),trivial⟩ rfl rfl rfl rfl (tU rfl ?_)
     refine W.frzS (s := 0) (d' := .sl none 32 ((rowA joinS l (k + 1)).map hashD)) rfl rfl (brw_hs _ _ _) ?_
     refine W.frzS (s := 1) (d' := .sl none 1 ((flA f (k + 1)).map D.bool)) rfl rfl (by rw [show flA f (k + 1) = upFI (flA f k) (((rowA joinS l k).length + 1) / 2) from by rw [← hfl]; rfl]; exact brw_fl _ _ _) ?_
     refine W.l0 10 [.y 58 _,.y 59 _,.y 60 _,.y 61 _,.y 62 _,.y 63 _,.y 64 _,.y 65 _,.y 6 _,.y 7 _] [(3,6),(7,7),(8,61),(9,65),(8,58),(9,62)] [(3,6),(7,7),(8,61),(9,65)] [(0,_),(1,_),(6,_),(7,_)] [] 68 ⟨aU fun _ _ H K => R.al (K 6 _ rfl) H (by decide),mU 0 rfl rfl,aU fun _ _ H K => R.bslE (z := 1) (.cons (eU K 59 rfl) .nil) ⟨⟨rfl,rfl,rfl⟩,trivial⟩ rfl H (by decide),aU fun _ _ H K => R.appE (Or.inr (K 58 _ rfl)) (K 6 _ rfl) (SrcO.sc (SC.sl (K 60 _ rfl)) (pur_lit rfl)) (show _ = ((rowsL joinS l (k + 1 + 1)).map hsD) from (show _ = (rowsL joinS l (k + 1 + 1)).map hsD from by rw [rowsL_succ _ _ (k + 1),List.map_append]; rfl)) bU H (by decide) (by decide),aU fun _ _ H K => R.al (K 7 _ rfl) H (by decide),mU 1 rfl rfl,aU fun _ _ H K => R.bslE (z := 1) (.cons (eU K 63 rfl) .nil) ⟨⟨rfl,rfl,rfl⟩,trivial⟩ rfl H (by decide),aU fun _ _ H K => R.appE (Or.inr (K 62 _ rfl)) (K 7 _ rfl) (SrcO.sc (SC.sl (K 64 _ rfl)) (pur_lit rfl)) (show _ = ((flsL f (k + 1 + 1)).map flD) from (show _ = (flsL f (k + 1 + 1)).map flD from by rw [flsL_succ _ (k + 1),List.map_append]; rfl)) bU H (by decide) (by decide),aU fun _ _ H K => R.asgO (K 61 _ rfl) rfl H (by decide),aU fun _ _ H K => R.asgO (K 65 _ rfl) rfl H (by decide),trivial⟩ rfl rfl rfl rfl (tU rfl ?_)
     exact ⟨⟨(k + 1),(by have h2 := nRows_2 (n := (rowA joinS l k).length) (by omega); have h3 : (rowA joinS l (k + 1)).length = ((rowA joinS l k).length + 1) / 2 := upR_len _ _; rw [h2,← h3] at hk; show k + 1 + _ = _; omega)⟩,rfl,(by simp only []; omega)⟩
 · have hkn : nRows l.length = k + 1 := by rw [← hk,show (rowA joinS l k).length = 1 by omega,nRows_1]
   refine W.exit ?_
   refine W.seq ?_
   refine W.frzS (s := 6) (d' := .sl none 1 ((rowsL joinS l (k + 1)).map hsD)) rfl rfl (brw_hss _ _ _) ?_
   refine W.frzS (s := 7) (d' := .sl none 1 ((flsL f (k + 1)).map flD)) rfl rfl (brw_fls _ _ _) ?_
   refine W.l0 4 [.y 66 _,.y 67 _,.y 4 _,.y 5 _] [] [] [(4,_),(5,_)] [] 68 ⟨mU 6 rfl rfl,mU 7 rfl rfl,aU fun _ _ H K => R.asg (eU K 66 rfl) rfl H,aU fun _ _ H K => R.asg (eU K 67 rfl) rfl H,trivial⟩ rfl rfl rfl rfl (tU rfl ?_)
   refine W.ret ?_
   exact Ends.many (.inr rfl) (.cons rfl rfl rfl trivial (.cons rfl rfl rfl trivial .nil)) (by rw [hkn]) (show [(4,true),(5,true)].Nodup by decide)

end Go.Sx

namespace Go.Sx
open Go.Proofs
theorem wide_ok (n : Nat) (h0 : 0 < n) (hn : n ≤ 1000) : Fn Tryd.prog gl 28 [.int ((n : Nat) : Int)] (.sl (some 3) 1 ((wdI n (nRows n)).map natD)) := by
 refine Fn.of (n := 16) Tryd.func28 rfl rfl rfl (nU rfl) fun C hC hD => ?_
 refine W.seq ?_
 refine W.l0 1 [.y 2 _] [] [] [(0,_)] [] 16 ⟨aU fun _ _ H _ => R.asg (kN rfl) rfl H,trivial⟩ rfl rfl rfl rfl (tU rfl ?_)
 refine W.seq ?_
 refine W.l0 3 [.y 4 _,.y 5 _,.y 3 _] [(2,5)] [(2,5)] [(0,_),(3,_)] [] 16 ⟨mU 0 rfl rfl,aU fun _ _ H K => R.bslE (z := 1) (.cons (eU K 4 rfl) .nil) ⟨⟨rfl,rfl,rfl⟩,trivial⟩ rfl H (by decide),aU fun _ _ H K => R.asgO (K 5 _ rfl) rfl H (by decide),trivial⟩ rfl rfl rfl rfl (tU rfl ?_)
 refine W.seq ?_
 refine W.block ?_
 refine W.loop (α := {q__ : Nat // q__ + nRows (lenA n q__) = nRows n}) (fun q__ => ⟨16,[(0,.int ((lenA n q__.1 : Nat) : Int)),(3,.sl (some 3) 1 ((wdI n (q__.1 + 1)).map natD))],[]⟩) (fun q__ => nRows n - q__.1) ⟨(0),(by show 0 + _ = _; rw [Nat.zero_add]; rfl)⟩ rfl ?_
 rintro ⟨k,hk⟩
 show W _ _ _ _ ⟨16,[(0,.int ((lenA n k : Nat) : Int)),(3,.sl (some 3) 1 ((wdI n (k + 1)).map natD))],[]⟩
 have hle := lenA_le n k
 have hlp := lenA_pos h0 k
 have hkp := nRows_pos (n := lenA n k) hlp
 have hnl := nRows_le n
 have hwl := wdI_len n (k + 1)
 have hk : k + nRows (lenA n k) = nRows n := hk
 refine W.seq ?_
 refine W.seq ?_
 refine W.l0 2 [.y 6 _,.y 7 _] [] [] [(0,_),(3,_),(7,_)] [] 16 ⟨mU 0 rfl rfl,aU fun _ _ H K => R.gtrN (lenA n k) (1) (eU K 6 rfl) (kI 1 rfl) H,trivial⟩ rfl rfl rfl rfl (tU rfl ?_)
 refine W.condD rfl (fun hc7 => ?_) (fun hc7 => ?_)
 · refine W.skip ?_
   refine W.block ?_
   refine W.seq ?_
   refine W.l0 4 [.y 8 _,.y 9 _,.y 10 _,.y 0 _] [] [] [(0,_),(3,_)] [] 16 ⟨mU 0 rfl rfl,aU fun _ _ H K => R.addN (lenA n k) (1) (eU K 8 rfl) (kI 1 rfl) bU H,aU fun _ _ H K => R.quoN ((lenA n k + 1)) (2) (eU K 9 rfl) (kI 2 rfl) bU bU H,aU fun _ _ H K => R.asg (eU K 10 rfl) rfl H,trivial⟩ rfl rfl rfl rfl (tU rfl ?_)
   refine W.l0 5 [.y 11 _,.y 12 _,.y 13 _,.y 14 _,.y 3 _] [(3,3),(4,14),(4,11)] [(3,3),(4,14)] [(0,_),(3,_)] [] 16 ⟨aU fun _ _ H K => R.al (K 3 _ rfl) H (by decide),mU 0 rfl rfl,aU fun _ _ H K => R.bslE (z := 1) (.cons (eU K 12 rfl) .nil) ⟨⟨rfl,rfl,rfl⟩,trivial⟩ rfl H (by decide),aU fun _ _ H K => R.appE (Or.inr (K 11 _ rfl)) (K 3 _ rfl) (SrcO.sc (SC.sl (K 13 _ rfl)) (pur_lit rfl)) (show _ = ((wdI n (k + 1 + 1)).map natD) from (show _ = (wdI n (k + 1 + 1)).map natD from by rw [wdI_succ _ (k + 1),List.map_append]; rfl)) bU H (by decide) (by decide),aU fun _ _ H K => R.asgO (K 14 _ rfl) rfl H (by decide),trivial⟩ rfl rfl rfl rfl (tU rfl ?_)
   exact ⟨⟨(k + 1),(by have h2 := nRows_2 (n := lenA n k) (by omega); rw [h2] at hk; show k + 1 + nRows ((lenA n k + 1) / 2) = _; omega)⟩,rfl,(by simp only []; omega)⟩
 · have hkn : nRows n = k + 1 := by rw [← hk,show lenA n k = 1 by omega,nRows_1]
   refine W.exit ?_
   refine W.seq ?_
   refine W.l0 2 [.y 15 _,.y 2 _] [(0,3),(1,15)] [(0,3),(1,15)] [(2,_)] [] 16 ⟨aU fun _ _ H K => R.movO (K 3 _ rfl) rfl H (by decide),aU fun _ _ H K => R.asgO (K 15 _ rfl) rfl H (by decide),trivial⟩ rfl rfl rfl rfl (tU rfl ?_)
   refine W.ret ?_
   exact Ends.one' (.inr rfl) rfl (by rw [hkn]) rfl rfl trivial

theorem nums_ok (a b : List Nat) (ha : a.length ≤ 1000000) : Fn Tryd.prog gl 17 [.sl none 1 (a.map natD),.sl none 1 (b.map natD)] (.bool (a == b)) := by
 refine Fn.of (n := 26) Tryd.func17 rfl rfl rfl (nU rfl) fun C hC hD => ?_
 refine W.seq ?_
 refine W.l0 1 [.y 4 _] [] [] [(0,_),(1,_)] [] 26 ⟨aU fun _ _ H _ => R.asg (kB false rfl) rfl H,trivial⟩ rfl rfl rfl rfl (tU rfl ?_)
 refine W.seq ?_
 refine W.seq ?_
 refine W.l0 5 [.y 6 _,.y 7 _,.y 8 _,.y 9 _,.y 10 _] [] [] [(0,_),(1,_),(10,_)] [] 26 ⟨mU 0 rfl rfl,aU fun _ _ H K => R.lenE (SC.sl (K 6 _ rfl)) (List.length_map _) H,mU 1 rfl rfl,aU fun _ _ H K => R.lenE (SC.sl (K 8 _ rfl)) (List.length_map _) H,aU fun _ _ H K => R.neqN (a.length) (b.length) (eU K 7 rfl) (eU K 9 rfl) H,trivial⟩ rfl rfl rfl rfl (tU rfl ?_)
 refine W.condD rfl (fun hc10 => ?_) (fun hc10 => ?_)
 · refine W.seq ?_
   refine W.l0 1 [.y 4 _] [] [] [(4,_)] [] 26 ⟨aU fun _ _ H _ => R.asg (kB false rfl) rfl H,trivial⟩ rfl rfl rfl rfl (tU rfl ?_)
   refine W.ret ?_
   exact Ends.one' (.inr rfl) rfl (by have := hc10; congr 1; symm; rw [beq_eq_false_iff_ne]; rintro rfl; exact this rfl) rfl rfl trivial
 · refine W.skip ?_
   refine W.seq ?_
   refine W.seq ?_
   refine W.l0 1 [.y 5 _] [] [] [(0,_),(1,_),(5,_)] [] 26 ⟨aU fun _ _ H _ => R.asg (kI 0 rfl) rfl H,trivial⟩ rfl rfl rfl rfl (tU rfl ?_)
   refine W.block ?_
   refine W.loop (α := {q__ : Nat // q__ ≤ a.length ∧ ∀ j,j < q__ → a[j]! = b[j]!}) (fun q__ => ⟨26,[(0,.sl none 1 (a.map natD)),(1,.sl none 1 (b.map natD)),(5,.int ((q__.1 : Nat) : Int))],[]⟩) (fun q__ => a.length - q__.1) ⟨(0),⟨Nat.zero_le _,fun j hj => absurd hj (Nat.not_lt_zero j)⟩⟩ rfl ?_
   rintro ⟨i,⟨hi,hall⟩⟩
   show W _ _ _ _ ⟨26,[(0,.sl none 1 (a.map natD)),(1,.sl none 1 (b.map natD)),(5,.int ((i : Nat) : Int))],[]⟩
   refine W.seq ?_
   refine W.seq ?_
   refine W.l0 4 [.y 11 _,.y 12 _,.y 13 _,.y 14 _] [] [] [(0,_),(1,_),(5,_),(14,_)] [] 26 ⟨mU 5 rfl rfl,mU 0 rfl rfl,aU fun _ _ H K => R.lenE (SC.sl (K 12 _ rfl)) (List.length_map _) H,aU fun _ _ H K => R.lssN (i) (a.length) (eU K 11 rfl) (eU K 13 rfl) H,trivial⟩ rfl rfl rfl rfl (tU rfl ?_)
   refine W.condD rfl (fun hc14 => ?_) (fun hc14 => ?_)
   · refine W.skip ?_
     refine W.seq ?_
     refine W.block ?_
     refine W.seq ?_
     refine W.draw (m := 9) (an := [0,0,3,7,0,0,48,112,255]) hP (by decide) rfl (its := [.y 17 _,.y 18 _,.y 19 _,.y 20 _,.y 21 _,.y 22 _,.y 23 _,.y 24 _,.y 25 _]) (ks := []) (kk := []) (live := [0,1,5,25]) (env' := [(0,_),(1,_),(5,_),(25,_)]) (⟨nU rfl,rfl,⟨mU 0 rfl rfl,mU 5 rfl rfl,aU fun _ _ H K => R.idxN (i) (SC.sl (K 17 _ rfl)) (evoI (eU K 18 rfl)) rfl bU H (by decide),aU fun _ _ H K => R.ldE (K 19 _ rfl) (SC.sl (K 17 _ rfl)) (map_get! (l := a) bU) rfl rfl rfl rfl H,mU 1 rfl rfl,mU 5 rfl rfl,aU fun _ _ H K => R.idxN (i) (SC.sl (K 21 _ rfl)) (evoI (eU K 22 rfl)) rfl bU H (by decide),aU fun _ _ H K => R.ldE (K 23 _ rfl) (SC.sl (K 21 _ rfl)) (map_get! (l := b) bU) rfl rfl rfl rfl H,aU fun _ _ H K => R.neqN (a[i]!) (b[i]!) (eU K 20 rfl) (eU K 24 rfl) H,trivial⟩,rfl,rfl,rfl⟩) rfl (bx' := []) rfl (n' := 26) rfl (tV [(0,_),(1,_),(5,_),(25,_)] [] 26 rfl rfl rfl ?_)
     refine W.condD rfl (fun hc25 => ?_) (fun hc25 => ?_)
     · refine W.seq ?_
       refine W.l0 1 [.y 4 _] [] [] [(4,_)] [] 26 ⟨aU fun _ _ H _ => R.asg (kB false rfl) rfl H,trivial⟩ rfl rfl rfl rfl (tU rfl ?_)
       refine W.ret ?_
       exact Ends.one' (.inr rfl) rfl (by congr 1; symm; rw [beq_eq_false_iff_ne]; rintro rfl; simp at hc25) rfl rfl trivial
     · refine W.skip ?_
       refine W.l0 3 [.y 15 _,.y 16 _,.y 5 _] [] [] [(0,_),(1,_),(5,_)] [] 26 ⟨mU 5 rfl rfl,aU fun _ _ H K => R.addN (i) (1) (eU K 15 rfl) (kI 1 rfl) bU H,aU fun _ _ H K => R.asg (eU K 16 rfl) rfl H,trivial⟩ rfl rfl rfl rfl (tU rfl ?_)
       exact ⟨⟨(i + 1),⟨by omega,fun j hj => by rcases Nat.lt_or_ge j i with h | h; exact hall j h; obtain rfl : j = i := (by omega); simpa using hc25⟩⟩,rfl,(by simp only []; omega)⟩
   · refine W.exit ?_
     refine W.seq ?_
     refine W.l0 1 [.y 4 _] [] [] [(4,_)] [] 26 ⟨aU fun _ _ H _ => R.asg (kB true rfl) rfl H,trivial⟩ rfl rfl rfl rfl (tU rfl ?_)
     refine W.ret ?_
     exact Ends.one' (.inr rfl) rfl (by congr 1; symm; rw [beq_iff_eq]; exact list_ext! (by omega) (fun j hj => hall j (by omega))) rfl rfl trivial

end Go.Sx

namespace Go.Sx
open Go.Proofs
def wkB (L : List (List Hs)) (F : List (List Bool)) : Nat → Nat → List Hs × List Bool → List Hs × List Bool
 | 0,k,p => if L[0]!.length ≤ k then p else (p.1 ++ [L[0]![k]!],p.2 ++ [F[0]![k]!])
 | r + 1,k,p => if L[r + 1]!.length ≤ k then p else if F[r + 1]![k]! = true then wkB L F r (2 * k + 1) (wkB L F r (2 * k) (p.1,p.2 ++ [true])) else (p.1 ++ [L[r + 1]![k]!],p.2 ++ [false])
theorem wkB_len (L : List (List Hs)) (F : List (List Bool)) : ∀ (r k : Nat) (p : List Hs × List Bool),(wkB L F r k p).1.length + 1 ≤ p.1.length + 2 ^ (r + 1) ∧ (wkB L F r k p).2.length + 1 ≤ p.2.length + 2 ^ (r + 1) := by
 intro r
 induction r with
 | zero =>
  intro k p
  simp only [wkB]
  split
  · constructor <;> omega
  · simp
 | succ r ih =>
  intro k p
  have hp : 2 ^ (r + 1 + 1) = 2 * 2 ^ (r + 1) := by rw [Nat.pow_succ]; omega
  have h1 : 1 ≤ 2 ^ (r + 1) := Nat.one_le_two_pow
  simp only [wkB]
  split
  · constructor <;> omega
  · split
    · have ha := ih (2 * k) (p.1,p.2 ++ [true])
      have hb := ih (2 * k + 1) (wkB L F r (2 * k) (p.1,p.2 ++ [true]))
      simp only [List.length_append,List.length_cons,List.length_nil] at ha
      constructor <;> omega
    · simp only [List.length_append,List.length_cons,List.length_nil]
      constructor <;> omega
abbrev BwX (L : List (List Hs)) (F : List (List Bool)) (n : Int) (hs : List Hs) (fl : List Bool) : List (Nat × Bx) :=
 [(0,.var (.sl none 1 (L.map hsD))),(1,.var (.agg [.int n,.sl (some 38) 32 (hs.map hashD),.sl (some 4) 1 (fl.map D.bool)])),(2,.var (.sl none 1 (F.map flD))),(3,.var (.fn 25 [.ptr 0 0 [],.ptr 1 0 [],.ptr 2 0 [],.ptr 3 0 []]))]
abbrev BwP (L : List (List Hs)) (F : List (List Bool)) (n : Int) (row k : Nat) (hs : List Hs) (fl : List Bool) : Prop :=
 FnB Tryd.prog gl 25 [.int ((row : Nat) : Int),.int ((k : Nat) : Int),.ptr 0 0 [],.ptr 1 0 [],.ptr 2 0 [],.ptr 3 0 []] (BwX L F n hs fl) (.tup []) (BwX L F n (wkB L F row k (hs,fl)).1 (wkB L F row k (hs,fl)).2) []
theorem wk_skip {L : List (List Hs)} {F : List (List Bool)} {r k : Nat} {p : List Hs × List Bool} (h : L[r]!.length ≤ k) : wkB L F r k p = p := by cases r <;> rw [wkB,if_pos h]
theorem wk_leaf0 {L : List (List Hs)} {F : List (List Bool)} {k : Nat} {p : List Hs × List Bool} (h : ¬ L[0]!.length ≤ k) : wkB L F 0 k p = (p.1 ++ [L[0]![k]!],p.2 ++ [F[0]![k]!]) := by rw [wkB,if_neg h]
theorem wk_leaf {L : List (List Hs)} {F : List (List Bool)} {r k : Nat} {p : List Hs × List Bool} (h : ¬ L[r + 1]!.length ≤ k) (hf : F[r + 1]![k]! = false) : wkB L F (r + 1) k p = (p.1 ++ [L[r + 1]![k]!],p.2 ++ [F[r + 1]![k]!]) := by
 rw [wkB,if_neg h,hf,if_neg (by simp)]
theorem wk_in {L : List (List Hs)} {F : List (List Bool)} {r k : Nat} {p : List Hs × List Bool} (h : ¬ L[r + 1]!.length ≤ k) (hf : F[r + 1]![k]! = true) : wkB L F (r + 1) k p = wkB L F r (2 * k + 1) (wkB L F r (2 * k) (p.1,p.2 ++ [F[r + 1]![k]!])) := by
 rw [wkB,if_neg h,if_pos hf,hf]
end Go.Sx

namespace Go.Sx
open Go.Proofs
theorem bwalk0 (L : List (List Hs)) (F : List (List Bool)) (n : Int) (hL : L.length ≤ 20) (hF : F.length = L.length) (hLF : ∀ j : Nat,F[j]!.length = L[j]!.length) (hLl : ∀ j : Nat,L[j]!.length ≤ 1000) (hrow : 0 < L.length) (k : Nat) (hs : List Hs) (fl : List Bool) (hk : k ≤ 100000) (hhs : hs.length + 2 ^ (0 + 1) ≤ 100000) (hfl : fl.length + 2 ^ (0 + 1) ≤ 100000) : FnB Tryd.prog gl 25 [.int ((0 : Nat) : Int),.int ((k : Nat) : Int),.ptr 0 0 [],.ptr 1 0 [],.ptr 2 0 [],.ptr 3 0 []] [(0,.var (.sl none 1 (L.map hsD))),(1,.var (.agg [.int n,.sl (some 38) 32 (hs.map hashD),.sl (some 4) 1 (fl.map D.bool)])),(2,.var (.sl none 1 (F.map flD))),(3,.var (.fn 25 [.ptr 0 0 [],.ptr 1 0 [],.ptr 2 0 [],.ptr 3 0 []]))] (.tup []) [(0,.var (.sl none 1 (L.map hsD))),(1,.var (.agg [.int n,.sl (some 38) 32 ((wkB L F 0 k (hs,fl)).1.map hashD),.sl (some 4) 1 ((wkB L F 0 k (hs,fl)).2.map D.bool)])),(2,.var (.sl none 1 (F.map flD))),(3,.var (.fn 25 [.ptr 0 0 [],.ptr 1 0 [],.ptr 2 0 [],.ptr 3 0 []]))] [] := by
 refine FnB.of (n := 64) (ids := [0,1,2,3]) Tryd.func25 rfl rfl rfl (nU rfl) fun C hC hD => ?_
 refine W.seq ?_
 refine W.seq ?_
 have hlf := hLF (0)
 have hll := hLl (0)
 have hpw : 1 ≤ 2 ^ (0) := Nat.one_le_two_pow
 have hpw2 : 2 ^ (0 + 1) = 2 * 2 ^ (0) := by first | rfl | (rw [Nat.pow_succ]; omega)
 refine W.l0 7 [.y 8 _,.y 9 _,.y 10 _,.y 11 _,.y 12 _,.y 13 _,.y 14 _] [] [] [(0,_),(1,_),(2,_),(3,_),(4,_),(5,_),(14,_)] [(0,.var _),(1,.var _),(2,.var _),(3,.var _)] 64 ⟨mU 1 rfl rfl,aU (lU 2 rfl rfl rfl rfl rfl rfl rfl),mU 0 rfl rfl,aU fun _ _ H K => R.idxN (0) (SC.sl (K 9 _ rfl)) (evoI (eU K 10 rfl)) rfl bU H (by decide),aU fun _ _ H K => R.ldE (K 11 _ rfl) (SC.sl (K 9 _ rfl)) (map_get! (l := L) bU) rfl rfl rfl rfl H,aU fun _ _ H K => R.lenE (SC.sl (K 12 _ rfl)) (List.length_map _) H,aU fun _ _ H K => R.geqN (k) (L[0]!.length) (eU K 8 rfl) (eU K 13 rfl) H,trivial⟩ rfl rfl rfl rfl (tU rfl ?_)
 refine W.condD rfl (fun hc14 => ?_) (fun hc14 => ?_)
 · refine W.ret ?_
   exact EndsB.none' (r := .dead) (.inr rfl) rfl (by rw [wk_skip hc14]; rfl) ⟨rfl,⟨rfl,⟨rfl,⟨rfl,trivial⟩⟩⟩⟩
 · refine W.skip ?_
   refine W.seq ?_
   refine W.draw (m := 10) (an := [0,1,0,0,12,28,0,124,252,508,1023,2047,4095]) hP (by decide) rfl (its := [.y 15 _,.y 16 _,.y 17 _,.y 18 _,.y 19 _,.y 20 _,.y 21 _,.y 22 _,.y 23 _,.y 24 _]) (ks := []) (kk := []) (live := [0,1,2,3,4,5,16,24]) (env' := [(0,_),(1,_),(2,_),(3,_),(4,_),(5,_),(16,_),(24,_)]) (⟨nU rfl,rfl,⟨aU (fU 3 rfl rfl),aU fun _ B H K => R.ldO (K 15 _ rfl) (B 1 _ rfl) rfl H,aU (lU 4 rfl rfl rfl rfl rfl rfl rfl),mU 0 rfl rfl,aU fun _ _ H K => R.idxN (0) (SC.sl (K 17 _ rfl)) (evoI (eU K 18 rfl)) rfl bU H (by decide),aU fun _ _ H K => R.ldE (K 19 _ rfl) (SC.sl (K 17 _ rfl)) (map_get! (l := F) bU) rfl rfl rfl rfl H,mU 1 rfl rfl,aU fun _ _ H K => R.idxN (k) (SC.sl (K 20 _ rfl)) (evoI (eU K 21 rfl)) rfl bU H (by decide),aU fun _ _ H K => R.ldE (K 22 _ rfl) (SC.sl (K 20 _ rfl)) (map_get! (l := F[0]!) bU) rfl rfl rfl rfl H,aU fun _ _ H K => R.bslE (z := 1) (.cons (eU K 23 rfl) .nil) ⟨⟨rfl,rfl,rfl⟩,trivial⟩ rfl H (by decide),trivial⟩,rfl,rfl,rfl⟩) rfl (bx' := [(0,.var _),(1,.var _),(2,.var _),(3,.var _)]) rfl (n' := 64) rfl (⟨rfl,_,R.appBP (gU 16 rfl) (xU 1 rfl) rfl rfl rfl rfl (gU 16 rfl) (SrcO.sc (SC.sl (gU 24 rfl)) (pur_lit rfl)) (show _ = ((fl ++ [F[0]![k]!]).map D.bool) from (by rw [List.map_append]; rfl)) bU (nU rfl) (by decide) (by decide),⟨rfl,_,R.fdP (gU 3 rfl) (nU rfl),⟨rfl,_,R.stOZ (gU 26 rfl) (xU 1 rfl) rfl (gU 25 rfl) rfl rfl (by rfl) (by rfl) rfl rfl,tV [(0,_),(1,_),(2,_),(3,_),(4,_),(5,_)] [(0,.var _),(1,.var _),(2,.var _),(3,.var _)] 64 rfl rfl rfl ?_⟩⟩⟩)
   refine W.seq ?_
   refine W.seq ?_
   refine W.l0 12 [.y 27 _,.y 28 _,.y 29 _,.x 30,.x 31,.x 32,.x 33,.x 34,.x 35,.x 36,.x 37,.y 38 _] [] [] [(0,_),(1,_),(2,_),(3,_),(5,_),(38,_)] [(0,.var _),(1,.var _),(2,.var _),(3,.var _)] 64 ⟨mU 0 rfl rfl,aU fun _ _ H K => R.eqlN (0) (0) (eU K 27 rfl) (kI 0 rfl) H,mU 28 rfl rfl,aF rfl rfl (gT (decide_eq_true rfl) rfl),aF rfl rfl (gT (decide_eq_true rfl) rfl),aF rfl rfl (gT (decide_eq_true rfl) rfl),aF rfl rfl (gT (decide_eq_true rfl) rfl),aF rfl rfl (gT (decide_eq_true rfl) rfl),aF rfl rfl (gT (decide_eq_true rfl) rfl),aF rfl rfl (gT (decide_eq_true rfl) rfl),aF rfl rfl (gT (decide_eq_true rfl) rfl),aU fun _ _ H K => R.pickT (eU K 29 rfl) (decide_eq_true rfl) (kB true rfl) rfl H,trivial⟩ rfl rfl rfl rfl (tU rfl ?_)
   refine W.condT rfl (rfl) ?_
   refine W.seq ?_
   refine W.draw (m := 10) (an := [0,1,0,0,12,28,0,124,252,508,1023,2047,4095]) hP (by decide) rfl (its := [.y 39 _,.y 40 _,.y 41 _,.y 42 _,.y 43 _,.y 44 _,.y 45 _,.y 46 _,.y 47 _,.y 48 _]) (ks := []) (kk := []) (live := [3,40,48]) (env' := [(3,_),(40,_),(48,_)]) (⟨nU rfl,rfl,⟨aU (fU 3 rfl rfl),aU fun _ B H K => R.ldO (K 39 _ rfl) (B 1 _ rfl) rfl H,aU (lU 2 rfl rfl rfl rfl rfl rfl rfl),mU 0 rfl rfl,aU fun _ _ H K => R.idxN (0) (SC.sl (K 41 _ rfl)) (evoI (eU K 42 rfl)) rfl bU H (by decide),aU fun _ _ H K => R.ldE (K 43 _ rfl) (SC.sl (K 41 _ rfl)) (map_get! (l := L) bU) rfl rfl rfl rfl H,mU 1 rfl rfl,aU fun _ _ H K => R.idxN (k) (SC.sl (K 44 _ rfl)) (evoI (eU K 45 rfl)) rfl bU H (by decide),aU fun _ _ H K => R.ldE (K 46 _ rfl) (SC.sl (K 44 _ rfl)) (map_get! (l := L[0]!) bU) rfl rfl rfl rfl H,aU fun _ _ H K => R.bslE (z := 32) (.cons (eU K 47 rfl) .nil) ⟨⟨rfl,rfl,rfl⟩,trivial⟩ rfl H (by decide),trivial⟩,rfl,rfl,rfl⟩) rfl (bx' := [(0,.var _),(1,.var _),(2,.var _),(3,.var _)]) rfl (n' := 64) rfl (⟨rfl,_,R.appBP (gU 40 rfl) (xU 1 rfl) rfl rfl rfl rfl (gU 40 rfl) (SrcO.sc (SC.sl (gU 48 rfl)) (pur_lit rfl)) (show _ = ((hs ++ [L[0]![k]!]).map hashD) from (by rw [List.map_append]; rfl)) bU (nU rfl) (by decide) (by decide),⟨rfl,_,R.fdP (gU 3 rfl) (nU rfl),⟨rfl,_,R.stOZ (gU 50 rfl) (xU 1 rfl) rfl (gU 49 rfl) rfl rfl (by rfl) (by rfl) rfl rfl,tV [] [(0,.var _),(1,.var _),(2,.var _),(3,.var _)] 64 rfl rfl rfl ?_⟩⟩⟩)
   refine W.ret ?_
   exact EndsB.none' (r := .dead) (.inr rfl) rfl (by rw [wk_leaf0 hc14]; rfl) ⟨rfl,⟨rfl,⟨rfl,⟨rfl,trivial⟩⟩⟩⟩

theorem bwalk1 (L : List (List Hs)) (F : List (List Bool)) (n : Int) (r : Nat) (hL : L.length ≤ 20) (hF : F.length = L.length) (hLF : ∀ j : Nat,F[j]!.length = L[j]!.length) (hLl : ∀ j : Nat,L[j]!.length ≤ 1000) (hrow : (r + 1) < L.length) (k : Nat) (hs : List Hs) (fl : List Bool) (hk : k ≤ 100000) (hhs : hs.length + 2 ^ ((r + 1) + 1) ≤ 100000) (hfl : fl.length + 2 ^ ((r + 1) + 1) ≤ 100000) (ih : ∀ (k : Nat) (hs : List Hs) (fl : List Bool),k ≤ 100000 → hs.length + 2 ^ (r + 1) ≤ 100000 → fl.length + 2 ^ (r + 1) ≤ 100000 → BwP L F n r k hs fl) : FnB Tryd.prog gl 25 [.int ((r + 1 : Nat) : Int),.int ((k : Nat) : Int),.ptr 0 0 [],.ptr 1 0 [],.ptr 2 0 [],.ptr 3 0 []] [(0,.var (.sl none 1 (L.map hsD))),(1,.var (.agg [.int n,.sl (some 38) 32 (hs.map hashD),.sl (some 4) 1 (fl.map D.bool)])),(2,.var (.sl none 1 (F.map flD))),(3,.var (.fn 25 [.ptr 0 0 [],.ptr 1 0 [],.ptr 2 0 [],.ptr 3 0 []]))] (.tup []) [(0,.var (.sl none 1 (L.map hsD))),(1,.var (.agg [.int n,.sl (some 38) 32 ((wkB L F (r + 1) k (hs,fl)).1.map hashD),.sl (some 4) 1 ((wkB L F (r + 1) k (hs,fl)).2.map D.bool)])),(2,.var (.sl none 1 (F.map flD))),(3,.var (.fn 25 [.ptr 0 0 [],.ptr 1 0 [],.ptr 2 0 [],.ptr 3 0 []]))] [] := by
 refine FnB.of (n := 64) (ids := [0,1,2,3]) Tryd.func25 rfl rfl rfl (nU rfl) fun C hC hD => ?_
 refine W.seq ?_
 refine W.seq ?_
 have hlf := hLF (r + 1)
 have hll := hLl (r + 1)
 have hpw : 1 ≤ 2 ^ (r + 1) := Nat.one_le_two_pow
 have hpw2 : 2 ^ (r + 1 + 1) = 2 * 2 ^ (r + 1) := by first | rfl | (rw [Nat.pow_succ]; omega)
 refine W.l0 7 [.y 8 _,.y 9 _,.y 10 _,.y 11 _,.y 12 _,.y 13 _,.y 14 _] [] [] [(0,_),(1,_),(2,_),(3,_),(4,_),(5,_),(14,_)] [(0,.var _),(1,.var _),(2,.var _),(3,.var _)] 64 ⟨mU 1 rfl rfl,aU (lU 2 rfl rfl rfl rfl rfl rfl rfl),mU 0 rfl rfl,aU fun _ _ H K => R.idxN (r + 1) (SC.sl (K 9 _ rfl)) (evoI (eU K 10 rfl)) rfl bU H (by decide),aU fun _ _ H K => R.ldE (K 11 _ rfl) (SC.sl (K 9 _ rfl)) (map_get! (l := L) bU) rfl rfl rfl rfl H,aU fun _ _ H K => R.lenE (SC.sl (K 12 _ rfl)) (List.length_map _) H,aU fun _ _ H K => R.geqN (k) (L[r + 1]!.length) (eU K 8 rfl) (eU K 13 rfl) H,trivial⟩ rfl rfl rfl rfl (tU rfl ?_)
 refine W.condD rfl (fun hc14 => ?_) (fun hc14 => ?_)
 · refine W.ret ?_
   exact EndsB.none' (r := .dead) (.inr rfl) rfl (by rw [wk_skip hc14]; rfl) ⟨rfl,⟨rfl,⟨rfl,⟨rfl,trivial⟩⟩⟩⟩
 · refine W.skip ?_
   refine W.seq ?_
   refine W.draw (m := 10) (an := [0,1,0,0,12,28,0,124,252,508,1023,2047,4095]) hP (by decide) rfl (its := [.y 15 _,.y 16 _,.y 17 _,.y 18 _,.y 19 _,.y 20 _,.y 21 _,.y 22 _,.y 23 _,.y 24 _]) (ks := []) (kk := []) (live := [0,1,2,3,4,5,16,24]) (env' := [(0,_),(1,_),(2,_),(3,_),(4,_),(5,_),(16,_),(24,_)]) (⟨nU rfl,rfl,⟨aU (fU 3 rfl rfl),aU fun _ B H K => R.ldO (K 15 _ rfl) (B 1 _ rfl) rfl H,aU (lU 4 rfl rfl rfl rfl rfl rfl rfl),mU 0 rfl rfl,aU fun _ _ H K => R.idxN (r + 1) (SC.sl (K 17 _ rfl)) (evoI (eU K 18 rfl)) rfl bU H (by decide),aU fun _ _ H K => R.ldE (K 19 _ rfl) (SC.sl (K 17 _ rfl)) (map_get! (l := F) bU) rfl rfl rfl rfl H,mU 1 rfl rfl,aU fun _ _ H K => R.idxN (k) (SC.sl (K 20 _ rfl)) (evoI (eU K 21 rfl)) rfl bU H (by decide),aU fun _ _ H K => R.ldE (K 22 _ rfl) (SC.sl (K 20 _ rfl)) (map_get! (l := F[r + 1]!) bU) rfl rfl rfl rfl H,aU fun _ _ H K => R.bslE (z := 1) (.cons (eU K 23 rfl) .nil) ⟨⟨rfl,rfl,rfl⟩,trivial⟩ rfl H (by decide),trivial⟩,rfl,rfl,rfl⟩) rfl (bx' := [(0,.var _),(1,.var _),(2,.var _),(3,.var _)]) rfl (n' := 64) rfl (⟨rfl,_,R.appBP (gU 16 rfl) (xU 1 rfl) rfl rfl rfl rfl (gU 16 rfl) (SrcO.sc (SC.sl (gU 24 rfl)) (pur_lit rfl)) (show _ = ((fl ++ [F[r + 1]![k]!]).map D.bool) from (by rw [List.map_append]; rfl)) bU (nU rfl) (by decide) (by decide),⟨rfl,_,R.fdP (gU 3 rfl) (nU rfl),⟨rfl,_,R.stOZ (gU 26 rfl) (xU 1 rfl) rfl (gU 25 rfl) rfl rfl (by rfl) (by rfl) rfl rfl,tV [(0,_),(1,_),(2,_),(3,_),(4,_),(5,_)] [(0,.var _),(1,.var _),(2,.var _),(3,.var _)] 64 rfl rfl rfl ?_⟩⟩⟩)
   refine W.seq ?_
   refine W.seq ?_
   refine W.l0 12 [.y 27 _,.y 28 _,.y 29 _,.y 30 _,.y 31 _,.y 32 _,.y 33 _,.y 34 _,.y 35 _,.y 36 _,.y 37 _,.y 38 _] [] [] [(0,_),(1,_),(2,_),(3,_),(5,_),(38,_)] [(0,.var _),(1,.var _),(2,.var _),(3,.var _)] 64 ⟨mU 0 rfl rfl,aU fun _ _ H K => R.eqlN (r + 1) (0) (eU K 27 rfl) (kI 0 rfl) H,mU 28 rfl rfl,aW rfl rfl (gF (decide_eq_false (Nat.succ_ne_zero _)) rfl) (lU 4 rfl rfl rfl rfl rfl rfl rfl),aW rfl rfl (gF (decide_eq_false (Nat.succ_ne_zero _)) rfl) fun _ _ H K => R.mov (eU K 0 rfl) rfl H,aW rfl rfl (gF (decide_eq_false (Nat.succ_ne_zero _)) rfl) fun _ _ H K => R.idxN (r + 1) (SC.sl (K 30 _ rfl)) (evoI (eU K 31 rfl)) rfl bU H (by decide),aW rfl rfl (gF (decide_eq_false (Nat.succ_ne_zero _)) rfl) fun _ _ H K => R.ldE (K 32 _ rfl) (SC.sl (K 30 _ rfl)) (map_get! (l := F) bU) rfl rfl rfl rfl H,aW rfl rfl (gF (decide_eq_false (Nat.succ_ne_zero _)) rfl) fun _ _ H K => R.mov (eU K 1 rfl) rfl H,aW rfl rfl (gF (decide_eq_false (Nat.succ_ne_zero _)) rfl) fun _ _ H K => R.idxN (k) (SC.sl (K 33 _ rfl)) (evoI (eU K 34 rfl)) rfl bU H (by decide),aW rfl rfl (gF (decide_eq_false (Nat.succ_ne_zero _)) rfl) fun _ _ H K => R.ldE (K 35 _ rfl) (SC.sl (K 33 _ rfl)) (map_get! (l := F[r + 1]!) bU) rfl rfl rfl rfl H,aW rfl rfl (gF (decide_eq_false (Nat.succ_ne_zero _)) rfl) fun _ _ H K => R.un (eU K 36 rfl) rfl H,aU fun _ _ H K => R.pickF (eU K 29 rfl) (decide_eq_false (Nat.succ_ne_zero _)) (eU K 37 rfl) rfl H,trivial⟩ rfl rfl rfl rfl (tU rfl ?_)
   refine W.cond rfl (fun hc38 => ?_) (fun hc38 => ?_)
   · refine W.seq ?_
     refine W.draw (m := 10) (an := [0,1,0,0,12,28,0,124,252,508,1023,2047,4095]) hP (by decide) rfl (its := [.y 39 _,.y 40 _,.y 41 _,.y 42 _,.y 43 _,.y 44 _,.y 45 _,.y 46 _,.y 47 _,.y 48 _]) (ks := []) (kk := []) (live := [3,40,48]) (env' := [(3,_),(40,_),(48,_)]) (⟨nU rfl,rfl,⟨aU (fU 3 rfl rfl),aU fun _ B H K => R.ldO (K 39 _ rfl) (B 1 _ rfl) rfl H,aU (lU 2 rfl rfl rfl rfl rfl rfl rfl),mU 0 rfl rfl,aU fun _ _ H K => R.idxN (r + 1) (SC.sl (K 41 _ rfl)) (evoI (eU K 42 rfl)) rfl bU H (by decide),aU fun _ _ H K => R.ldE (K 43 _ rfl) (SC.sl (K 41 _ rfl)) (map_get! (l := L) bU) rfl rfl rfl rfl H,mU 1 rfl rfl,aU fun _ _ H K => R.idxN (k) (SC.sl (K 44 _ rfl)) (evoI (eU K 45 rfl)) rfl bU H (by decide),aU fun _ _ H K => R.ldE (K 46 _ rfl) (SC.sl (K 44 _ rfl)) (map_get! (l := L[r + 1]!) bU) rfl rfl rfl rfl H,aU fun _ _ H K => R.bslE (z := 32) (.cons (eU K 47 rfl) .nil) ⟨⟨rfl,rfl,rfl⟩,trivial⟩ rfl H (by decide),trivial⟩,rfl,rfl,rfl⟩) rfl (bx' := [(0,.var _),(1,.var _),(2,.var _),(3,.var _)]) rfl (n' := 64) rfl (⟨rfl,_,R.appBP (gU 40 rfl) (xU 1 rfl) rfl rfl rfl rfl (gU 40 rfl) (SrcO.sc (SC.sl (gU 48 rfl)) (pur_lit rfl)) (show _ = ((hs ++ [L[r + 1]![k]!]).map hashD) from (by rw [List.map_append]; rfl)) bU (nU rfl) (by decide) (by decide),⟨rfl,_,R.fdP (gU 3 rfl) (nU rfl),⟨rfl,_,R.stOZ (gU 50 rfl) (xU 1 rfl) rfl (gU 49 rfl) rfl rfl (by rfl) (by rfl) rfl rfl,tV [] [(0,.var _),(1,.var _),(2,.var _),(3,.var _)] 64 rfl rfl rfl ?_⟩⟩⟩)
     refine W.ret ?_
     exact EndsB.none' (r := .dead) (.inr rfl) rfl (by rw [wk_leaf hc14 (by simpa using hc38)]; rfl) ⟨rfl,⟨rfl,⟨rfl,⟨rfl,trivial⟩⟩⟩⟩
   · refine W.skip ?_
     refine W.seq ?_
     have hin : F[r + 1]![k]! = true := by simpa using hc38
     have hln := wkB_len L F r (2 * k) (hs,fl ++ [F[r + 1]![k]!])
     simp only [List.length_append,List.length_cons,List.length_nil] at hln
     refine W.l0 6 [.y 51 _,.y 52 _,.y 53 _,.y 54 _,.y 55 _] [] [] [(0,_),(1,_),(5,_),(51,_),(53,_),(55,_)] [(0,.var _),(1,.var _),(2,.var _),(3,.var _)] 64 ⟨aU (lU 5 rfl rfl rfl rfl rfl rfl rfl),mU 0 rfl rfl,aU fun _ _ H K => R.subN (r + 1) (1) (eU K 52 rfl) (kI 1 rfl) bU bU H,mU 1 rfl rfl,aU fun _ _ H K => R.mulN (2) (k) (kI 2 rfl) (eU K 54 rfl) bU H,trivial⟩ rfl rfl rfl rfl (⟨rfl,_,R.callVB (ds := [.int ((r : Nat) : Int),.int ((2 * k : Nat) : Int)]) (caps := [.ptr 0 0 [],.ptr 1 0 [],.ptr 2 0 [],.ptr 3 0 []]) [(0,0),(1,1),(2,2),(3,3)] hC (gU 51 rfl) rfl rfl (show FnB Tryd.prog gl 25 [.int ((r : Nat) : Int),.int ((2 * k : Nat) : Int),.ptr 0 0 [],.ptr 1 0 [],.ptr 2 0 [],.ptr 3 0 []] [(0,.var (.sl none 1 (L.map hsD))),(1,.var (.agg [.int n,.sl (some 38) 32 (hs.map hashD),.sl (some 4) 1 ((fl ++ [F[r + 1]![k]!]).map D.bool)])),(2,.var (.sl none 1 (F.map flD))),(3,.var (.fn 25 [.ptr 0 0 [],.ptr 1 0 [],.ptr 2 0 [],.ptr 3 0 []]))] (.tup []) [(0,.var (.sl none 1 (L.map hsD))),(1,.var (.agg [.int n,.sl (some 38) 32 ((wkB L F r (2 * k) (hs,fl ++ [F[r + 1]![k]!])).1.map hashD),.sl (some 4) 1 ((wkB L F r (2 * k) (hs,fl ++ [F[r + 1]![k]!])).2.map D.bool)])),(2,.var (.sl none 1 (F.map flD))),(3,.var (.fn 25 [.ptr 0 0 [],.ptr 1 0 [],.ptr 2 0 [],.ptr 3 0 []]))] [] from ih (2 * k) hs (fl ++ [F[r + 1]![k]!]) (by omega) (by first | omega | (simp only [List.length_append,List.length_cons,List.length_nil]; omega)) (by first | omega | (simp only [List.length_append,List.length_cons,List.length_nil]; omega))) (EvB.cons (gV 53 rfl) rfl rfl rfl (EvB.cons (gV 55 rfl) rfl rfl rfl EvB.nil)) rfl ⟨rfl,⟨rfl,⟨rfl,⟨rfl,trivial⟩⟩⟩⟩ ⟨rfl,⟨rfl,⟨rfl,⟨rfl,trivial⟩⟩⟩⟩ rfl rfl rfl rfl rfl rfl (nU rfl),tV [(0,_),(1,_),(5,_)] [(0,.var _),(1,.var _),(2,.var _),(3,.var _)] 64 rfl rfl rfl ?_⟩)
     refine W.l0 7 [.y 57 _,.y 58 _,.y 59 _,.y 60 _,.y 61 _,.y 62 _] [] [] [(57,_),(59,_),(62,_)] [(0,.var _),(1,.var _),(2,.var _),(3,.var _)] 64 ⟨aU (lU 5 rfl rfl rfl rfl rfl rfl rfl),mU 0 rfl rfl,aU fun _ _ H K => R.subN (r + 1) (1) (eU K 58 rfl) (kI 1 rfl) bU bU H,mU 1 rfl rfl,aU fun _ _ H K => R.mulN (2) (k) (kI 2 rfl) (eU K 60 rfl) bU H,aU fun _ _ H K => R.addN ((2 * k)) (1) (eU K 61 rfl) (kI 1 rfl) bU H,trivial⟩ rfl rfl rfl rfl (⟨rfl,_,R.callVB (ds := [.int ((r : Nat) : Int),.int ((2 * k + 1 : Nat) : Int)]) (caps := [.ptr 0 0 [],.ptr 1 0 [],.ptr 2 0 [],.ptr 3 0 []]) [(0,0),(1,1),(2,2),(3,3)] hC (gU 57 rfl) rfl rfl (show FnB Tryd.prog gl 25 [.int ((r : Nat) : Int),.int ((2 * k + 1 : Nat) : Int),.ptr 0 0 [],.ptr 1 0 [],.ptr 2 0 [],.ptr 3 0 []] [(0,.var (.sl none 1 (L.map hsD))),(1,.var (.agg [.int n,.sl (some 38) 32 ((wkB L F r (2 * k) (hs,fl ++ [F[r + 1]![k]!])).1.map hashD),.sl (some 4) 1 ((wkB L F r (2 * k) (hs,fl ++ [F[r + 1]![k]!])).2.map D.bool)])),(2,.var (.sl none 1 (F.map flD))),(3,.var (.fn 25 [.ptr 0 0 [],.ptr 1 0 [],.ptr 2 0 [],.ptr 3 0 []]))] (.tup []) [(0,.var (.sl none 1 (L.map hsD))),(1,.var (.agg [.int n,.sl (some 38) 32 ((wkB L F r (2 * k + 1) (wkB L F r (2 * k) (hs,fl ++ [F[r + 1]![k]!]))).1.map hashD),.sl (some 4) 1 ((wkB L F r (2 * k + 1) (wkB L F r (2 * k) (hs,fl ++ [F[r + 1]![k]!]))).2.map D.bool)])),(2,.var (.sl none 1 (F.map flD))),(3,.var (.fn 25 [.ptr 0 0 [],.ptr 1 0 [],.ptr 2 0 [],.ptr 3 0 []]))] [] from ih (2 * k + 1) (wkB L F r (2 * k) (hs,fl ++ [F[r + 1]![k]!])).1 (wkB L F r (2 * k) (hs,fl ++ [F[r + 1]![k]!])).2 (by omega) (by first | omega | (simp only [List.length_append,List.length_cons,List.length_nil]; omega)) (by first | omega | (simp only [List.length_append,List.length_cons,List.length_nil]; omega))) (EvB.cons (gV 59 rfl) rfl rfl rfl (EvB.cons (gV 62 rfl) rfl rfl rfl EvB.nil)) rfl ⟨rfl,⟨rfl,⟨rfl,⟨rfl,trivial⟩⟩⟩⟩ ⟨rfl,⟨rfl,⟨rfl,⟨rfl,trivial⟩⟩⟩⟩ rfl rfl rfl rfl rfl rfl (nU rfl),tV [] [(0,.var _),(1,.var _),(2,.var _),(3,.var _)] 64 rfl rfl rfl ?_⟩)
     exact EndsB.none' (r := .dead) (.inl rfl) rfl (by rw [wk_in hc14 hin]; rfl) ⟨rfl,⟨rfl,⟨rfl,⟨rfl,trivial⟩⟩⟩⟩

end Go.Sx

namespace Go.Sx
open Go.Proofs
theorem bwalk {L : List (List Hs)} {F : List (List Bool)} {n : Int} (hL : L.length ≤ 20) (hF : F.length = L.length) (hLF : ∀ j : Nat,F[j]!.length = L[j]!.length) (hLl : ∀ j : Nat,L[j]!.length ≤ 1000) :
 ∀ (r : Nat),r < L.length → ∀ (k : Nat) (hs : List Hs) (fl : List Bool),k ≤ 100000 → hs.length + 2 ^ (r + 1) ≤ 100000 → fl.length + 2 ^ (r + 1) ≤ 100000 → BwP L F n r k hs fl := by
 intro r
 induction r with
 | zero => intro hr k hs fl hk h1 h2; exact bwalk0 L F n hL hF hLF hLl hr k hs fl hk h1 h2
 | succ r ih => intro hr k hs fl hk h1 h2; exact bwalk1 L F n r hL hF hLF hLl hr k hs fl hk h1 h2 (ih (by omega))
def zeroP : PartS := ⟨0,[],[]⟩
def bwS (l : List Hs) (f : List Bool) : List Hs × List Bool := wkB (rowsL joinS l (nRows l.length)) (flsL f (nRows l.length)) ((rowsL joinS l (nRows l.length)).length - 1) 0 ([],[])
def bldS (l : List Hs) (f : List Bool) : PartS × Nat :=
 if l.length = 0 ∨ f.length ≠ l.length then (zeroP,1) else if 256 < l.length then (zeroP,6) else (⟨(l.length : Nat),(bwS l f).1,(bwS l f).2⟩,0)
section
variable {l : List Hs} {f : List Bool}
theorem bld_1 (h : l.length = 0) : bldS l f = (zeroP,1) := if_pos (.inl h)
theorem bld_2 (h : f.length ≠ l.length) : bldS l f = (zeroP,1) := if_pos (.inr h)
theorem bld_3 (h1 : ¬ l.length = 0) (h2 : ¬ f.length ≠ l.length) (h3 : 256 < l.length) : bldS l f = (zeroP,6) := by rw [bldS,if_neg (by intro h; exact h.elim h1 h2),if_pos h3]
theorem bld_4 (h1 : ¬ l.length = 0) (h2 : ¬ f.length ≠ l.length) (h3 : ¬ 256 < l.length) : bldS l f = (⟨(l.length : Nat),(bwS l f).1,(bwS l f).2⟩,0) := by rw [bldS,if_neg (by intro h; exact h.elim h1 h2),if_neg h3]
theorem nRows_9 : ∀ n,n ≤ 256 → nRows n ≤ 9 := by
 have key : ∀ k n,n ≤ 2 ^ k → nRows n ≤ k + 1 := by
  intro k
  induction k with
  | zero => intro n h; have := nRows_short (n := n) (by simpa using h); omega
  | succ k ih =>
   intro n h
   rcases Nat.lt_or_ge n 2 with h2 | h2
   · have := nRows_short (n := n) (by omega); omega
   · rw [nRows_2 h2]
     have := ih ((n + 1) / 2) (by rw [Nat.pow_succ] at h; omega)
     omega
 intro n h
 exact key 8 n h
theorem bw_call {n : Int} (h0 : 0 < l.length) (h1 : l.length ≤ 256) (hf : f.length = l.length) :
 BwP (rowsL joinS l (nRows l.length)) (flsL f (nRows l.length)) n ((rowsL joinS l (nRows l.length)).length - 1) 0 [] [] := by
 have hn := nRows_9 l.length h1
 have hnp := nRows_pos (n := l.length) h0
 have hlen := rowsL_len joinS l (nRows l.length)
 have hp : 2 ^ ((rowsL joinS l (nRows l.length)).length - 1 + 1) ≤ 2 ^ 9 := Nat.pow_le_pow_right (by decide) (by omega)
 have get : ∀ j : Nat,(j < nRows l.length → (rowsL joinS l (nRows l.length))[j]! = rowA joinS l j ∧ (flsL f (nRows l.length))[j]! = flA f j) ∧ (¬ j < nRows l.length → (rowsL joinS l (nRows l.length))[j]! = [] ∧ (flsL f (nRows l.length))[j]! = []) := by
  intro j
  refine ⟨fun h => ⟨rowsL_get h,flsL_get h⟩,fun h => ⟨?_, ?_⟩⟩
  · rw [getElem!_neg _ j (by rw [rowsL_len]; exact h)]; rfl
  · rw [getElem!_neg _ j (by rw [flsL_len]; exact h)]; rfl
 refine bwalk (by omega) (by rw [rowsL_len,flsL_len]) (fun j => ?_) (fun j => ?_) _ (by omega) 0 [] [] (by omega) (by simp only [List.length_nil]; omega) (by simp only [List.length_nil]; omega)
 · by_cases h : j < nRows l.length
   · rw [((get j).1 h).1,((get j).1 h).2]; exact flA_len hf j
   · rw [((get j).2 h).1,((get j).2 h).2]; rfl
 · by_cases h : j < nRows l.length
   · rw [((get j).1 h).1,rowA_len]; have := lenA_le l.length j; omega
   · rw [((get j).2 h).1]; simp
theorem wk_zeroP : Wk (.agg [.int 0,.nils,.nils]) (partD zeroP) := .aggL (.cons (.refl _) (.cons (.nils none 32) (.cons (.nils none 1) .nil)))
end
end Go.Sx

namespace Go.Sx
open Go.Proofs
theorem build_ok (l : List Hs) (f : List Bool) (hl : allH l) (hl0 : l.length ≤ 1000000) (hf0 : f.length ≤ 1000000) : Fn Tryd.prog gl 9 [.sl none 32 (l.map hashD),.sl none 1 (f.map D.bool)] (.tup [partD (bldS l f).1,.int (((bldS l f).2 : Nat) : Int)]) := by
 refine Fn.of (n := 41) Tryd.func9 rfl rfl rfl (nU rfl) fun C hC hD => ?_
 refine W.seq ?_
 refine W.l0 2 [] [] [] [(0,_),(1,_)] [] 41 trivial rfl rfl rfl rfl (⟨rfl,_,R.alloc rfl (nU rfl),⟨rfl,_,R.asg (kI 0 rfl) rfl (nU rfl),tV [(0,_),(1,_),(4,_)] [(4,.var _)] 41 rfl rfl rfl ?_⟩⟩)
 refine W.seq ?_
 refine W.block ?_
 refine W.seq ?_
 refine W.seq ?_
 by_cases hz : l.length = 0
 · refine W.l0 4 [.y 11 _,.y 12 _,.y 13 _,.y 10 _] [] [] [(0,_),(1,_),(4,_),(10,_)] [(4,.var _)] 41 ⟨mU 0 rfl rfl,aU fun _ _ H K => R.lenE (SC.sl (K 11 _ rfl)) (List.length_map _) H,aU fun _ _ H K => R.eqlN (l.length) (0) (eU K 12 rfl) (kI 0 rfl) H,aU fun _ _ H K => R.asg (eU K 13 rfl) rfl H,trivial⟩ rfl rfl rfl rfl (tU rfl ?_)
   refine W.condT rfl (decide_eq_true hz) ?_
   refine W.skip ?_
   refine W.condT rfl (decide_eq_true hz) ?_
   refine W.seq ?_
   refine W.l0 3 [.y 19 _] [] [] [(4,_),(19,_)] [(4,.var _)] 41 ⟨aU fun _ _ H _ => R.bldSE (l := [.int 0,.nils,.nils]) (l' := [_,_,_]) (.nil rfl) trivial H,trivial⟩ rfl rfl rfl rfl (⟨rfl,_,R.stZ (gU 4 rfl) (xU 4 rfl) rfl (gV 19 rfl) (by rfl) (by rfl) (by rfl) (by rfl) rfl,⟨rfl,_,R.asg (kI 1 rfl) rfl (nU rfl),tV [(4,_),(5,_)] [(4,.var _)] 41 rfl rfl rfl ?_⟩⟩)
   refine W.wkB 4 (d' := partD zeroP) (bx' := [(4,.var _)]) rfl wk_zeroP rfl ?_
   refine W.ret ?_
   exact Ends.many (.inr rfl) (.cons rfl rfl rfl (show LdT _ 25 3 true from inferInstance) (.cons rfl rfl rfl trivial .nil)) (by rw [bld_1 hz]) (show [(4,false),(5,true)].Nodup by decide)
 · refine W.l0 4 [.y 11 _,.y 12 _,.y 13 _,.y 10 _] [] [] [(0,_),(1,_),(4,_),(10,_)] [(4,.var _)] 41 ⟨mU 0 rfl rfl,aU fun _ _ H K => R.lenE (SC.sl (K 11 _ rfl)) (List.length_map _) H,aU fun _ _ H K => R.eqlN (l.length) (0) (eU K 12 rfl) (kI 0 rfl) H,aU fun _ _ H K => R.asg (eU K 13 rfl) rfl H,trivial⟩ rfl rfl rfl rfl (tU rfl ?_)
   refine W.condF rfl (decide_eq_false hz) ?_
   refine W.l0 6 [.y 14 _,.y 15 _,.y 16 _,.y 17 _,.y 18 _,.y 10 _] [] [] [(0,_),(1,_),(4,_),(10,_)] [(4,.var _)] 41 ⟨mU 1 rfl rfl,aU fun _ _ H K => R.lenE (SC.sl (K 14 _ rfl)) (List.length_map _) H,mU 0 rfl rfl,aU fun _ _ H K => R.lenE (SC.sl (K 16 _ rfl)) (List.length_map _) H,aU fun _ _ H K => R.neqN (f.length) (l.length) (eU K 15 rfl) (eU K 17 rfl) H,aU fun _ _ H K => R.asg (eU K 18 rfl) rfl H,trivial⟩ rfl rfl rfl rfl (tU rfl ?_)
   refine W.condD rfl (fun hc10 => ?_) (fun hc10 => ?_)
   · refine W.seq ?_
     refine W.l0 3 [.y 19 _] [] [] [(4,_),(19,_)] [(4,.var _)] 41 ⟨aU fun _ _ H _ => R.bldSE (l := [.int 0,.nils,.nils]) (l' := [_,_,_]) (.nil rfl) trivial H,trivial⟩ rfl rfl rfl rfl (⟨rfl,_,R.stZ (gU 4 rfl) (xU 4 rfl) rfl (gV 19 rfl) (by rfl) (by rfl) (by rfl) (by rfl) rfl,⟨rfl,_,R.asg (kI 1 rfl) rfl (nU rfl),tV [(4,_),(5,_)] [(4,.var _)] 41 rfl rfl rfl ?_⟩⟩)
     refine W.wkB 4 (d' := partD zeroP) (bx' := [(4,.var _)]) rfl wk_zeroP rfl ?_
     refine W.ret ?_
     exact Ends.many (.inr rfl) (.cons rfl rfl rfl (show LdT _ 25 3 true from inferInstance) (.cons rfl rfl rfl trivial .nil)) (by rw [bld_2 hc10]) (show [(4,false),(5,true)].Nodup by decide)
   · refine W.seq ?_
     refine W.l0 4 [.y 21 _,.y 22 _,.y 23 _,.y 20 _] [] [] [(0,_),(1,_),(4,_),(20,_)] [(4,.var _)] 41 ⟨mU 0 rfl rfl,aU fun _ _ H K => R.lenE (SC.sl (K 21 _ rfl)) (List.length_map _) H,aU fun _ _ H K => R.gtrN (l.length) (256) (eU K 22 rfl) (kI 256 rfl) H,aU fun _ _ H K => R.asg (eU K 23 rfl) rfl H,trivial⟩ rfl rfl rfl rfl (tU rfl ?_)
     refine W.condD rfl (fun hc20 => ?_) (fun hc20 => ?_)
     · refine W.seq ?_
       refine W.l0 3 [.y 24 _] [] [] [(4,_),(24,_)] [(4,.var _)] 41 ⟨aU fun _ _ H _ => R.bldSE (l := [.int 0,.nils,.nils]) (l' := [_,_,_]) (.nil rfl) trivial H,trivial⟩ rfl rfl rfl rfl (⟨rfl,_,R.stZ (gU 4 rfl) (xU 4 rfl) rfl (gV 24 rfl) (by rfl) (by rfl) (by rfl) (by rfl) rfl,⟨rfl,_,R.asg (kI 6 rfl) rfl (nU rfl),tV [(4,_),(5,_)] [(4,.var _)] 41 rfl rfl rfl ?_⟩⟩)
       refine W.wkB 4 (d' := partD zeroP) (bx' := [(4,.var _)]) rfl wk_zeroP rfl ?_
       refine W.ret ?_
       exact Ends.many (.inr rfl) (.cons rfl rfl rfl (show LdT _ 25 3 true from inferInstance) (.cons rfl rfl rfl trivial .nil)) (by rw [bld_3 hz hc10 hc20]) (show [(4,false),(5,true)].Nodup by decide)
     · refine W.skip ?_
       refine W.seq ?_
       refine W.l0 10 [.y 26 _,.y 27 _,.y 28 _,.y 25 _,.y 29 _,.y 30 _] [] [] [(0,_),(4,_),(29,_),(30,_)] [(4,.var _)] 41 ⟨mU 0 rfl rfl,mU 1 rfl rfl,aU fun _ _ H K => R.callPE hC (prows_ok l f hl (by omega) (by omega) (by omega)) (EvP.cons (eU K 26 rfl) rfl rfl (EvP.cons (eU K 27 rfl) rfl rfl EvP.nil)) H,aU fun _ _ H K => R.movT (K 28 _ rfl) rfl H,aU fun _ _ H K => R.ext (K 25 _ rfl) rfl rfl H,aU fun _ _ H K => R.ext (K 25 _ rfl) rfl rfl H,trivial⟩ rfl rfl rfl rfl (⟨rfl,_,R.alloc rfl (nU rfl),⟨rfl,_,R.alloc rfl (nU rfl),⟨rfl,_,R.stZ (gU 6 rfl) (xU 6 rfl) rfl (gV 29 rfl) (by rfl) (by rfl) (by rfl) (by rfl) rfl,⟨rfl,_,R.stZ (gU 7 rfl) (xU 7 rfl) rfl (gV 30 rfl) (by rfl) (by rfl) (by rfl) (by rfl) rfl,tV [(0,_),(4,_),(6,_),(7,_)] [(7,.var _),(6,.var _),(4,.var _)] 41 rfl rfl rfl ?_⟩⟩⟩⟩)
       refine W.seq ?_
       refine W.l0 5 [.y 31 _,.y 32 _,.y 33 _] [] [] [(4,_),(6,_),(7,_),(33,_)] [(7,.var _),(6,.var _),(4,.var _)] 41 ⟨mU 0 rfl rfl,aU fun _ _ H K => R.lenE (SC.sl (K 31 _ rfl)) (List.length_map _) H,aU fun _ _ H K => R.bldSE (l := [.int 0,.nils,.nils]) (l' := [_,_,_]) (.cons (eU K 32 rfl) (.nil rfl)) ⟨⟨_,(eU K 32 rfl),rfl,rfl,rfl⟩,trivial⟩ H,trivial⟩ rfl rfl rfl rfl (⟨rfl,_,R.alloc rfl (nU rfl),⟨rfl,_,R.stZ (gU 8 rfl) (xU 8 rfl) rfl (gV 33 rfl) (by rfl) (by rfl) (by rfl) (by rfl) rfl,tV [(4,_),(6,_),(7,_),(8,_)] [(8,.var _),(7,.var _),(6,.var _),(4,.var _)] 41 rfl rfl rfl ?_⟩⟩)
       refine W.seq ?_
       refine W.asOwnP 8 [1] 38 32 (bx' := [(8,.var _),(7,.var _),(6,.var _),(4,.var _)]) rfl rfl rfl rfl rfl ?_
       refine W.asOwnP 8 [2] 4 1 (bx' := [(8,.var _),(7,.var _),(6,.var _),(4,.var _)]) rfl rfl rfl rfl rfl ?_
       refine W.l0 1 [] [] [] [(4,_),(6,_),(7,_),(8,_)] [(8,.var _),(7,.var _),(6,.var _),(4,.var _)] 41 trivial rfl rfl rfl rfl (⟨rfl,_,R.alloc rfl (nU rfl),tV [(4,_),(6,_),(7,_),(8,_),(9,_)] [(9,.var _),(8,.var _),(7,.var _),(6,.var _),(4,.var _)] 41 rfl rfl rfl ?_⟩)
       refine W.seq ?_
       refine W.l0 2 [.y 34 _] [] [] [(4,_),(6,_),(8,_),(9,_),(34,_)] [(9,.var _),(8,.var _),(7,.var _),(6,.var _),(4,.var _)] 41 ⟨aU fun _ _ H K => R.mkfnL (EvFs.cons (eU K 6 rfl) rfl rfl (EvFs.cons (eU K 8 rfl) rfl rfl (EvFs.cons (eU K 7 rfl) rfl rfl (EvFs.cons (eU K 9 rfl) rfl rfl EvFs.nil)))) H,trivial⟩ rfl rfl rfl rfl (⟨rfl,_,R.stP (gU 9 rfl) (xU 9 rfl) rfl (gV 34 rfl) rfl rfl (by rfl) (by rfl) rfl,tV [(4,_),(6,_),(8,_),(9,_)] [(9,.var _),(8,.var _),(7,.var _),(6,.var _),(4,.var _)] 41 rfl rfl rfl ?_⟩)
       refine W.seq ?_
       have hlr := rowsL_len joinS l (nRows l.length)
       have hnp := nRows_pos (n := l.length) (by omega)
       have hnl := nRows_le l.length
       refine W.l0 5 [.y 35 _,.y 36 _,.y 37 _,.y 38 _] [] [] [(4,_),(8,_),(35,_),(38,_)] [(9,.var _),(8,.var _),(7,.var _),(6,.var _),(4,.var _)] 41 ⟨aU (lU 9 rfl rfl rfl rfl rfl rfl rfl),aU (lU 6 rfl rfl rfl rfl rfl rfl rfl),aU fun _ _ H K => R.lenE (SC.sl (K 36 _ rfl)) (List.length_map _) H,aU fun _ _ H K => R.subN ((rowsL joinS l (nRows l.length)).length) (1) (eU K 37 rfl) (kI 1 rfl) bU bU H,trivial⟩ rfl rfl rfl rfl (⟨rfl,_,R.callVB (ds := [.int ((((rowsL joinS l (nRows l.length)).length - 1) : Nat) : Int),.int ((0 : Nat) : Int)]) (caps := [.ptr 0 0 [],.ptr 1 0 [],.ptr 2 0 [],.ptr 3 0 []]) [(0,6),(1,8),(2,7),(3,9)] hC (gU 35 rfl) rfl rfl (show FnB Tryd.prog gl 25 [.int ((((rowsL joinS l (nRows l.length)).length - 1) : Nat) : Int),.int ((0 : Nat) : Int),.ptr 0 0 [],.ptr 1 0 [],.ptr 2 0 [],.ptr 3 0 []] [(0,.var (.sl none 1 ((rowsL joinS l (nRows l.length)).map hsD))),(1,.var (.agg [.int ((l.length : Nat) : Int),.sl (some 38) 32 (([] : List Hs).map hashD),.sl (some 4) 1 (([] : List Bool).map D.bool)])),(2,.var (.sl none 1 ((flsL f (nRows l.length)).map flD))),(3,.var (.fn 25 [.ptr 0 0 [],.ptr 1 0 [],.ptr 2 0 [],.ptr 3 0 []]))] (.tup []) [(0,.var (.sl none 1 ((rowsL joinS l (nRows l.length)).map hsD))),(1,.var (.agg [.int ((l.length : Nat) : Int),.sl (some 38) 32 ((bwS l f).1.map hashD),.sl (some 4) 1 ((bwS l f).2.map D.bool)])),(2,.var (.sl none 1 ((flsL f (nRows l.length)).map flD))),(3,.var (.fn 25 [.ptr 0 0 [],.ptr 1 0 [],.ptr 2 0 [],.ptr 3 0 []]))] [] from bw_call (by omega) (by omega) (by omega)) (EvB.cons (gV 38 rfl) rfl rfl rfl (EvB.cons (kI 0 rfl) rfl rfl rfl EvB.nil)) rfl ⟨rfl,⟨rfl,⟨rfl,⟨rfl,trivial⟩⟩⟩⟩ ⟨rfl,⟨rfl,⟨rfl,⟨rfl,trivial⟩⟩⟩⟩ rfl rfl rfl rfl rfl rfl (nU rfl),tV [(4,_),(8,_)] [(9,.var _),(8,.var _),(7,.var _),(6,.var _),(4,.var _)] 41 rfl rfl rfl ?_⟩)
       refine W.seq ?_
       refine W.brwB 8 (d' := .agg [.int ((l.length : Nat) : Int),.sl none 32 ((bwS l f).1.map hashD),.sl none 1 ((bwS l f).2.map D.bool)]) (bx' := [(9,.var _),(8,.var _),(7,.var _),(6,.var _),(4,.var _)]) rfl (show (D.agg [.int ((l.length : Nat) : Int),.sl (some 38) 32 ((bwS l f).1.map hashD),.sl (some 4) 1 ((bwS l f).2.map D.bool)]).brw = _ from by simp only [D.brw,brws_eq,List.map_cons,List.map_nil]; rw [brw_map brw_hash,brw_map (fun _ => rfl)]) rfl ?_
       refine W.l0 3 [.y 40 _] [] [] [(4,_),(40,_)] [(9,.var _),(8,.var _),(7,.var _),(6,.var _),(4,.var _)] 41 ⟨aU (lU 8 rfl rfl rfl rfl rfl rfl rfl),trivial⟩ rfl rfl rfl rfl (⟨rfl,_,R.stZ (gU 4 rfl) (xU 4 rfl) rfl (gV 40 rfl) (by rfl) (by rfl) (by rfl) (by rfl) rfl,⟨rfl,_,R.asg (kI 0 rfl) rfl (nU rfl),tV [(4,_),(5,_)] [(9,.var _),(8,.var _),(7,.var _),(6,.var _),(4,.var _)] 41 rfl rfl rfl ?_⟩⟩)
       refine W.ret ?_
       exact Ends.many (.inr rfl) (.cons rfl rfl rfl (show LdT _ 25 3 true from inferInstance) (.cons rfl rfl rfl trivial .nil)) (by rw [bld_4 hz hc10 hc20]; rfl) (show [(4,false),(5,true)].Nodup by decide)

end Go.Sx

namespace Go.Sx
open Go.Proofs
abbrev CS := List Bool × List Hs × List Hs × List Nat
def ckLeaf (k : Nat) (f : Bool) (s : CS) : (Hs × Bool) × CS :=
 if s.2.1.length = 0 then ((zero32,false),s) else ((s.2.1[0]!,true),(s.1,s.2.1.drop 1,(if f = true then s.2.2.1 ++ [s.2.1[0]!] else s.2.2.1),(if f = true then s.2.2.2 ++ [k] else s.2.2.2)))
def ckW (w : List Nat) : Nat → Nat → CS → (Hs × Bool) × CS
 | 0,k,s => if s.1.length = 0 then ((zero32,false),s) else ckLeaf k s.1[0]! (s.1.drop 1,s.2)
 | r + 1,k,s => if s.1.length = 0 then ((zero32,false),s) else if s.1[0]! = false then ckLeaf k false (s.1.drop 1,s.2) else
  if (ckW w r (2 * k) (s.1.drop 1,s.2)).1.2 = false then ((zero32,false),(ckW w r (2 * k) (s.1.drop 1,s.2)).2) else
  if 2 * k + 1 = w[r]! then ((joinS (ckW w r (2 * k) (s.1.drop 1,s.2)).1.1 (ckW w r (2 * k) (s.1.drop 1,s.2)).1.1,true),(ckW w r (2 * k) (s.1.drop 1,s.2)).2) else
  ((joinS (ckW w r (2 * k) (s.1.drop 1,s.2)).1.1 (ckW w r (2 * k + 1) (ckW w r (2 * k) (s.1.drop 1,s.2)).2).1.1,(ckW w r (2 * k + 1) (ckW w r (2 * k) (s.1.drop 1,s.2)).2).1.2 && (ckW w r (2 * k) (s.1.drop 1,s.2)).1.1 != (ckW w r (2 * k + 1) (ckW w r (2 * k) (s.1.drop 1,s.2)).2).1.1),(ckW w r (2 * k + 1) (ckW w r (2 * k) (s.1.drop 1,s.2)).2).2)
structure CkOk (s : CS) (o : (Hs × Bool) × CS) : Prop where
 h : o.1.1.length = 32
 hs : allH o.2.2.1
 ids : o.2.2.2.1.length + o.2.1.length ≤ s.2.2.1.length + s.1.length
 at_ : o.2.2.2.2.length + o.2.1.length ≤ s.2.2.2.length + s.1.length
 hl : o.2.2.1.length ≤ s.2.1.length
 all : allH s.2.2.1 → allH o.2.2.2.1
theorem ck_mk {s st : CS} {h : Hs} {b : Bool} (h1 : h.length = 32) (h2 : allH st.2.1) (h3 : st.2.2.1.length + st.1.length ≤ s.2.2.1.length + s.1.length) (h4 : st.2.2.2.length + st.1.length ≤ s.2.2.2.length + s.1.length) (h5 : st.2.1.length ≤ s.2.1.length)
 (h6 : allH s.2.2.1 → allH st.2.2.1) : CkOk s ((h,b),st) := ⟨h1,h2,h3,h4,h5,h6⟩
theorem zero32_len : zero32.length = 32 := rfl
theorem allH.drop1 {l : List Hs} (h : allH l) (n : Nat) : allH (l.drop n) := fun x hx => h x (List.mem_of_mem_drop hx)
theorem ckLeaf_ok {k : Nat} {f : Bool} {s : CS} (hs : allH s.2.1) (s0 : CS) (h1 : s.1.length + 1 ≤ s0.1.length) (h2 : s.2 = s0.2) : CkOk s0 (ckLeaf k f s) := by
 unfold ckLeaf
 obtain ⟨fl,hh,ids,at_⟩ := s
 obtain ⟨fl0,hh0,ids0,at0⟩ := s0
 simp only [Prod.mk.injEq] at h2
 obtain ⟨rfl,rfl,rfl⟩ := h2
 simp only at hs h1 ⊢
 split
 · exact ⟨rfl,hs,by simp only; omega,by simp only; omega,Nat.le_refl _,fun h => h⟩
 · rename_i hne
   refine ⟨hs.get (by omega),hs.drop1 1, ?_, ?_,by simp, ?_⟩
   · by_cases hf : f = true
     · simp only [if_pos hf,List.length_append,List.length_cons,List.length_nil]; omega
     · simp only [if_neg hf]; omega
   · by_cases hf : f = true
     · simp only [if_pos hf,List.length_append,List.length_cons,List.length_nil]; omega
     · simp only [if_neg hf]; omega
   · intro h
     show allH (if f = true then _ else _)
     split
     · intro x hx
       rcases List.mem_append.1 hx with h3 | h3
       · exact h x h3
       · rw [List.mem_singleton.1 h3]; exact hs.get (by omega)
     · exact h
theorem ckW_ok (w : List Nat) : ∀ (r k : Nat) (s : CS),allH s.2.1 → CkOk s (ckW w r k s) := by
 intro r
 induction r with
 | zero =>
  intro k s hs
  simp only [ckW]
  split
  · exact ⟨rfl,hs,Nat.le_refl _,Nat.le_refl _,Nat.le_refl _,fun h => h⟩
  · exact ckLeaf_ok (s := (s.1.drop 1,s.2)) hs s (by show (s.1.drop 1).length + 1 ≤ s.1.length; rw [List.length_drop]; omega) rfl
 | succ r ih =>
  intro k s hs
  simp only [ckW]
  split
  · exact ⟨rfl,hs,Nat.le_refl _,Nat.le_refl _,Nat.le_refl _,fun h => h⟩
  · split
    · exact ckLeaf_ok (s := (s.1.drop 1,s.2)) hs s (by show (s.1.drop 1).length + 1 ≤ s.1.length; rw [List.length_drop]; omega) rfl
    · have hx := ih (2 * k) (s.1.drop 1,s.2) hs
      generalize ckW w r (2 * k) (s.1.drop 1,s.2) = X at hx ⊢
      have hy := ih (2 * k + 1) X.2 hx.hs
      generalize ckW w r (2 * k + 1) X.2 = Y at hy ⊢
      have h0 : (s.1.drop 1).length = s.1.length - 1 := List.length_drop
      have h1 : X.2.2.2.1.length + X.2.1.length ≤ s.2.2.1.length + (s.1.drop 1).length := hx.ids
      have h2 : X.2.2.2.2.length + X.2.1.length ≤ s.2.2.2.length + (s.1.drop 1).length := hx.at_
      have h3 : X.2.2.1.length ≤ s.2.1.length := hx.hl
      have h4 := hy.ids
      have h5 := hy.at_
      have h6 := hy.hl
      split
      · exact ck_mk zero32_len hx.hs (by omega) (by omega) h3 hx.all
      · split
        · exact ck_mk (joinS_len _ _) hx.hs (by omega) (by omega) h3 hx.all
        · exact ck_mk (joinS_len _ _) hy.hs (by omega) (by omega) (by omega) (fun h => hy.all (hx.all h))
abbrev CwX (w : List Nat) (fl : List Bool) (hs ids : List Hs) (at_ : List Nat) : List (Nat × Bx) :=
 [(0,.var (.sl none 1 (fl.map D.bool))),(1,.var (.sl none 32 (hs.map hashD))),(2,.var (.sl (some 38) 32 (ids.map hashD))),(3,.var (.sl (some 3) 1 (at_.map natD))),(4,.var (.fn 29 [.ptr 0 0 [],.ptr 1 0 [],.ptr 2 0 [],.ptr 3 0 [],.ptr 4 0 [],.ptr 5 0 []])),(5,.var (.sl none 1 (w.map natD)))]
abbrev CwP (w : List Nat) (row k : Nat) (fl : List Bool) (hs ids : List Hs) (at_ : List Nat) : Prop :=
 FnB Tryd.prog gl 29 [.int ((row : Nat) : Int),.int ((k : Nat) : Int),.ptr 0 0 [],.ptr 1 0 [],.ptr 2 0 [],.ptr 3 0 [],.ptr 4 0 [],.ptr 5 0 []] (CwX w fl hs ids at_)
  (.tup [hashD (ckW w row k (fl,hs,ids,at_)).1.1,.bool (ckW w row k (fl,hs,ids,at_)).1.2])
  (CwX w (ckW w row k (fl,hs,ids,at_)).2.1 (ckW w row k (fl,hs,ids,at_)).2.2.1 (ckW w row k (fl,hs,ids,at_)).2.2.2.1 (ckW w row k (fl,hs,ids,at_)).2.2.2.2) []
section
variable {w : List Nat} {r k : Nat} {fl fl1 fl2 : List Bool} {hs hs1 hs2 ids ids1 ids2 : List Hs} {at_ at1 at2 : List Nat} {a b : Hs} {x y : Bool}
theorem ck_1 (h : fl.length = 0) : ckW w r k (fl,hs,ids,at_) = ((zero32,false),fl,hs,ids,at_) := by cases r <;> rw [ckW,if_pos h]
theorem ck_0 (h : ¬ fl.length = 0) : ckW w 0 k (fl,hs,ids,at_) = ckLeaf k fl[0]! (fl.drop 1,hs,ids,at_) := by rw [ckW,if_neg h]
theorem ck_l (h : ¬ fl.length = 0) (h2 : fl[0]! = false) : ckW w (r + 1) k (fl,hs,ids,at_) = ckLeaf k fl[0]! (fl.drop 1,hs,ids,at_) := by rw [ckW,if_neg h,if_pos h2,h2]
theorem cl_1 {f : Bool} (h : hs.length = 0) : ckLeaf k f (fl,hs,ids,at_) = ((zero32,false),fl,hs,ids,at_) := if_pos h
theorem cl_t {f : Bool} (h : ¬ hs.length = 0) (h2 : f = true) : ckLeaf k f (fl,hs,ids,at_) = ((hs[0]!,true),fl,hs.drop 1,ids ++ [hs[0]!],at_ ++ [k]) := by rw [ckLeaf,if_neg h,if_pos h2,if_pos h2]
theorem cl_f {f : Bool} (h : ¬ hs.length = 0) (h2 : f = false) : ckLeaf k f (fl,hs,ids,at_) = ((hs[0]!,true),fl,hs.drop 1,ids,at_) := by rw [ckLeaf,if_neg h,if_neg (by simp [h2]),if_neg (by simp [h2])]
theorem ck_n (h : ¬ fl.length = 0) (h2 : fl[0]! = true) (hx : ckW w r (2 * k) (fl.drop 1,hs,ids,at_) = ((a,x),fl1,hs1,ids1,at1)) (hn : x = false) : ckW w (r + 1) k (fl,hs,ids,at_) = ((zero32,false),fl1,hs1,ids1,at1) := by
 rw [ckW,if_neg h,if_neg (by simp [h2])]
 simp only [hx]
 rw [if_pos hn]
theorem ck_s (h : ¬ fl.length = 0) (h2 : fl[0]! = true) (hx : ckW w r (2 * k) (fl.drop 1,hs,ids,at_) = ((a,x),fl1,hs1,ids1,at1)) (hn : x = true) (hw : 2 * k + 1 = w[r]!) : ckW w (r + 1) k (fl,hs,ids,at_) = ((joinS a a,true),fl1,hs1,ids1,at1) := by
 rw [ckW,if_neg h,if_neg (by simp [h2])]
 simp only [hx]
 rw [if_neg (by simp [hn]),if_pos hw]
theorem ck_b (h : ¬ fl.length = 0) (h2 : fl[0]! = true) (hx : ckW w r (2 * k) (fl.drop 1,hs,ids,at_) = ((a,x),fl1,hs1,ids1,at1)) (hn : x = true) (hw : ¬ 2 * k + 1 = w[r]!) (hy : ckW w r (2 * k + 1) (fl1,hs1,ids1,at1) = ((b,y),fl2,hs2,ids2,at2)) :
 ckW w (r + 1) k (fl,hs,ids,at_) = ((joinS a b,y && a != b),fl2,hs2,ids2,at2) := by
 rw [ckW,if_neg h,if_neg (by simp [h2])]
 simp only [hx,hy]
 rw [if_neg (by simp [hn]),if_neg hw]
end
end Go.Sx

namespace Go.Sx
open Go.Proofs
theorem cwalk0 (w : List Nat) (hrow : 0 ≤ w.length) (hw : w.length ≤ 20) (k : Nat) (fl : List Bool) (hs ids : List Hs) (at_ : List Nat) (hk : (k + 1) * 2 ^ (0) ≤ 100000) (hh : allH hs) (hl0 : hs.length ≤ 1000000) (hi : ids.length + fl.length ≤ 100000) (ha : at_.length + fl.length ≤ 100000) : FnB Tryd.prog gl 29 [.int ((0 : Nat) : Int),.int ((k : Nat) : Int),.ptr 0 0 [],.ptr 1 0 [],.ptr 2 0 [],.ptr 3 0 [],.ptr 4 0 [],.ptr 5 0 []] [(0,.var (.sl none 1 (fl.map D.bool))),(1,.var (.sl none 32 (hs.map hashD))),(2,.var (.sl (some 38) 32 (ids.map hashD))),(3,.var (.sl (some 3) 1 (at_.map natD))),(4,.var (.fn 29 [.ptr 0 0 [],.ptr 1 0 [],.ptr 2 0 [],.ptr 3 0 [],.ptr 4 0 [],.ptr 5 0 []])),(5,.var (.sl none 1 (w.map natD)))] (.tup [hashD (ckW w 0 k (fl,hs,ids,at_)).1.1,.bool (ckW w 0 k (fl,hs,ids,at_)).1.2]) [(0,.var (.sl none 1 ((ckW w 0 k (fl,hs,ids,at_)).2.1.map D.bool))),(1,.var (.sl none 32 ((ckW w 0 k (fl,hs,ids,at_)).2.2.1.map hashD))),(2,.var (.sl (some 38) 32 ((ckW w 0 k (fl,hs,ids,at_)).2.2.2.1.map hashD))),(3,.var (.sl (some 3) 1 ((ckW w 0 k (fl,hs,ids,at_)).2.2.2.2.map natD))),(4,.var (.fn 29 [.ptr 0 0 [],.ptr 1 0 [],.ptr 2 0 [],.ptr 3 0 [],.ptr 4 0 [],.ptr 5 0 []])),(5,.var (.sl none 1 (w.map natD)))] [] := by
 refine FnB.of (n := 92) (ids := [0,1,2,3,4,5]) Tryd.func29 rfl rfl rfl (nU rfl) fun C hC hD => ?_
 refine W.seq ?_
 refine W.l0 2 [] [] [] [(0,_),(1,_),(2,_),(3,_),(4,_),(5,_),(6,_),(7,_)] [(0,.var _),(1,.var _),(2,.var _),(3,.var _),(4,.var _),(5,.var _)] 92 trivial rfl rfl rfl rfl (⟨rfl,_,R.alloc rfl (nU rfl),⟨rfl,_,R.asg (kB false rfl) rfl (nU rfl),tV [(0,_),(1,_),(2,_),(3,_),(4,_),(5,_),(6,_),(7,_),(10,_)] [(10,.var _),(0,.var _),(1,.var _),(2,.var _),(3,.var _),(4,.var _),(5,.var _)] 92 rfl rfl rfl ?_⟩⟩)
 refine W.seq ?_
 refine W.seq ?_
 refine W.l0 3 [.y 15 _,.y 16 _,.y 17 _] [] [] [(0,_),(1,_),(2,_),(3,_),(4,_),(5,_),(6,_),(7,_),(10,_),(17,_)] [(10,.var _),(0,.var _),(1,.var _),(2,.var _),(3,.var _),(4,.var _),(5,.var _)] 92 ⟨aU (lU 2 rfl rfl rfl rfl rfl rfl rfl),aU fun _ _ H K => R.lenE (SC.sl (K 15 _ rfl)) (List.length_map _) H,aU fun _ _ H K => R.eqlN (fl.length) (0) (eU K 16 rfl) (kI 0 rfl) H,trivial⟩ rfl rfl rfl rfl (tU rfl ?_)
 refine W.condD rfl (fun hc17 => ?_) (fun hc17 => ?_)
 · refine W.seq ?_
   refine W.l0 3 [.y 18 _] [] [] [(10,_),(18,_)] [(10,.var _),(0,.var _),(1,.var _),(2,.var _),(3,.var _),(4,.var _),(5,.var _)] 92 ⟨aU (lU 10 rfl rfl rfl rfl rfl rfl rfl),trivial⟩ rfl rfl rfl rfl (⟨rfl,_,R.stZ (gU 10 rfl) (xU 10 rfl) rfl (gV 18 rfl) (by rfl) (by rfl) (by rfl) (by rfl) rfl,⟨rfl,_,R.asg (kB false rfl) rfl (nU rfl),tV [(10,_),(11,_)] [(10,.var _),(0,.var _),(1,.var _),(2,.var _),(3,.var _),(4,.var _),(5,.var _)] 92 rfl rfl rfl ?_⟩⟩)
   refine W.ret ?_
   exact EndsB.many' (.inr rfl) (.cons rfl rfl (show LdT _ 38 32 true from inferInstance) (.cons rfl rfl trivial .nil)) (by rw [ck_1 hc17] <;> rfl) (show [(10,false),(11,true)].Nodup by decide) rfl rfl (by rw [ck_1 hc17] <;> rfl) ⟨rfl,⟨rfl,⟨rfl,⟨rfl,⟨rfl,⟨rfl,trivial⟩⟩⟩⟩⟩⟩ rfl
 · refine W.skip ?_
   refine W.seq ?_
   refine W.l0 4 [.y 19 _,.y 20 _,.y 21 _,.y 12 _] [] [] [(0,_),(1,_),(2,_),(3,_),(4,_),(5,_),(6,_),(7,_),(10,_),(12,_)] [(10,.var _),(0,.var _),(1,.var _),(2,.var _),(3,.var _),(4,.var _),(5,.var _)] 92 ⟨aU (lU 2 rfl rfl rfl rfl rfl rfl rfl),aU fun _ _ H K => R.idxN (0) (SC.sl (K 19 _ rfl)) (evoI (kI 0 rfl)) rfl bU H (by decide),aU fun _ _ H K => R.ldE (K 20 _ rfl) (SC.sl (K 19 _ rfl)) (map_get! (l := fl) bU) rfl rfl rfl rfl H,aU fun _ _ H K => R.asg (eU K 21 rfl) rfl H,trivial⟩ rfl rfl rfl rfl (tU rfl ?_)
   refine W.seq ?_
   refine W.l0 3 [.y 22 _,.y 23 _] [] [] [(0,_),(1,_),(2,_),(3,_),(4,_),(5,_),(6,_),(7,_),(10,_),(12,_),(23,_)] [(10,.var _),(0,.var _),(1,.var _),(2,.var _),(3,.var _),(4,.var _),(5,.var _)] 92 ⟨aU (lU 2 rfl rfl rfl rfl rfl rfl rfl),aU fun _ _ H K => R.slIN (1) (fl.length) ((fl.length - 1)) (eU K 22 rfl) (evoI (kI 1 rfl)) rfl rfl (by simp) bU bU rfl (show _ = (fl.drop 1).map D.bool from by rw [List.take_of_length_le (by simp)]; simp) H,trivial⟩ rfl rfl rfl rfl (⟨rfl,_,R.stZ (gU 2 rfl) (xU 0 rfl) rfl (gV 23 rfl) (by rfl) (by rfl) (by rfl) (by rfl) rfl,tV [(0,_),(1,_),(3,_),(4,_),(5,_),(6,_),(7,_),(10,_),(12,_)] [(10,.var _),(0,.var _),(1,.var _),(2,.var _),(3,.var _),(4,.var _),(5,.var _)] 92 rfl rfl rfl ?_⟩)
   refine W.seq ?_
   refine W.seq ?_
   refine W.l0 6 [.y 24 _,.y 25 _,.y 26 _,.x 27,.x 28,.y 29 _] [] [] [(0,_),(1,_),(3,_),(4,_),(5,_),(6,_),(7,_),(10,_),(12,_),(29,_)] [(10,.var _),(0,.var _),(1,.var _),(2,.var _),(3,.var _),(4,.var _),(5,.var _)] 92 ⟨mU 0 rfl rfl,aU fun _ _ H K => R.eqlN (0) (0) (eU K 24 rfl) (kI 0 rfl) H,mU 25 rfl rfl,aF rfl rfl (gT (decide_eq_true rfl) rfl),aF rfl rfl (gT (decide_eq_true rfl) rfl),aU fun _ _ H K => R.pickT (eU K 26 rfl) (decide_eq_true rfl) (kB true rfl) rfl H,trivial⟩ rfl rfl rfl rfl (tU rfl ?_)
   refine W.condT rfl (rfl) ?_
   refine W.seq ?_
   refine W.seq ?_
   refine W.l0 3 [.y 30 _,.y 31 _,.y 32 _] [] [] [(1,_),(3,_),(4,_),(5,_),(10,_),(12,_),(32,_)] [(10,.var _),(0,.var _),(1,.var _),(2,.var _),(3,.var _),(4,.var _),(5,.var _)] 92 ⟨aU (lU 3 rfl rfl rfl rfl rfl rfl rfl),aU fun _ _ H K => R.lenE (SC.sl (K 30 _ rfl)) (List.length_map _) H,aU fun _ _ H K => R.eqlN (hs.length) (0) (eU K 31 rfl) (kI 0 rfl) H,trivial⟩ rfl rfl rfl rfl (tU rfl ?_)
   refine W.condD rfl (fun hc32 => ?_) (fun hc32 => ?_)
   · refine W.seq ?_
     refine W.l0 3 [.y 33 _] [] [] [(10,_),(33,_)] [(10,.var _),(0,.var _),(1,.var _),(2,.var _),(3,.var _),(4,.var _),(5,.var _)] 92 ⟨aU (lU 10 rfl rfl rfl rfl rfl rfl rfl),trivial⟩ rfl rfl rfl rfl (⟨rfl,_,R.stZ (gU 10 rfl) (xU 10 rfl) rfl (gV 33 rfl) (by rfl) (by rfl) (by rfl) (by rfl) rfl,⟨rfl,_,R.asg (kB false rfl) rfl (nU rfl),tV [(10,_),(11,_)] [(10,.var _),(0,.var _),(1,.var _),(2,.var _),(3,.var _),(4,.var _),(5,.var _)] 92 rfl rfl rfl ?_⟩⟩)
     refine W.ret ?_
     exact EndsB.many' (.inr rfl) (.cons rfl rfl (show LdT _ 38 32 true from inferInstance) (.cons rfl rfl trivial .nil)) (by rw [ck_0 hc17,cl_1 hc32] <;> rfl) (show [(10,false),(11,true)].Nodup by decide) rfl rfl (by rw [ck_0 hc17,cl_1 hc32] <;> rfl) ⟨rfl,⟨rfl,⟨rfl,⟨rfl,⟨rfl,⟨rfl,trivial⟩⟩⟩⟩⟩⟩ rfl
   · refine W.skip ?_
     refine W.seq ?_
     refine W.drawE (m := 6) (an := [0,1,3,0,8,7,63]) (its := [.y 34 _,.y 35 _,.y 36 _,.y 37 _,.y 38 _,⟨97,.dead,true⟩]) (ks := [(5,97)]) (kk := []) (efs := [(5,[(10,.var _)])]) (live := [1,3,4,5,10,12,38]) (env' := [(1,_),(3,_),(4,_),(5,_),(10,_),(12,_),(38,_)]) (nd := 40) (bx1 := [(10,.var _),(0,.var _),(1,.var _),(2,.var _),(3,.var _),(4,.var _),(5,.var _)]) hP (by decide) rfl ⟨⟨104,rfl⟩,nU rfl,rfl,rfl,rfl,rfl⟩ (          ⟨⟨rfl,nU rfl,rfl,fun _ τ hb ht hτ => R.ldP (hτ 3 _ rfl) (hb 1 _ rfl) rfl rfl rfl rfl ht⟩,⟨⟨rfl,nU rfl,rfl,fun _ τ hb ht hτ => R.idxN (0) (SC.sl (hτ 34 _ rfl)) (evoI (kI 0 rfl)) rfl bU ht (by decide)⟩,⟨⟨rfl,nU rfl,rfl,fun _ τ hb ht hτ => R.ldE (hτ 35 _ rfl) (SC.sl (hτ 34 _ rfl)) (map_get! (l := hs) bU) rfl rfl rfl rfl ht⟩,⟨⟨rfl,nU rfl,rfl,fun _ τ hb ht hτ => R.ldP (hτ 3 _ rfl) (hb 1 _ rfl) rfl rfl rfl rfl ht⟩,⟨⟨rfl,nU rfl,rfl,fun _ τ hb ht hτ => R.slIN (1) (hs.length) ((hs.length - 1)) (evt (hτ 37 _ rfl)) (evoI (kI 1 rfl)) rfl rfl (by simp) bU bU rfl (show _ = (hs.drop 1).map hashD from by rw [List.take_of_length_le (by simp)]; simp) ht⟩,⟨⟨rfl,rfl,rfl,(SpE.st (p := 10) (id := 10) rfl rfl rfl (fun τ hτ => (evt (hτ 36 _ rfl))) (by rfl) (by rfl) (by rfl) (by rfl) rfl)⟩,trivial⟩⟩⟩⟩⟩⟩) rfl rfl rfl (n' := 92) rfl (⟨rfl,_,R.stZ (gU 3 rfl) (xU 1 rfl) rfl (gV 38 rfl) (by rfl) (by rfl) (by rfl) (by rfl) rfl,⟨[1,4,5,10,12],[(1,_),(4,_),(5,_),(10,_),(12,_)],[(10,.var _),(0,.var _),(1,.var _),(2,.var _),(3,.var _),(4,.var _),(5,.var _)],92,rfl,rfl,rfl, ?_⟩⟩)
     refine W.seq ?_
     refine W.seq ?_
     refine W.l0 1 [.y 39 _] [] [] [(1,_),(4,_),(5,_),(10,_),(39,_)] [(10,.var _),(0,.var _),(1,.var _),(2,.var _),(3,.var _),(4,.var _),(5,.var _)] 92 ⟨mU 12 rfl rfl,trivial⟩ rfl rfl rfl rfl (tU rfl ?_)
     refine W.cond rfl (fun hc39 => ?_) (fun hc39 => ?_)
     · refine W.drawC (m := 7) (an := [0,0,2,7,0,0,32,127,255,511]) (its := [.y 40 _,.y 41 _,.y 42 _,.y 43 _,.y 44 _,.y 45 _,.y 46 _]) (ks := [(3,40)]) (kk := [(3,40)]) (live := [4,5,10,43,44,46]) (env' := [(4,_),(5,_),(10,_),(43,_),(44,_),(46,_)]) (bx1 := [(10,.var _),(0,.var _),(1,.var _),(2,.var _),(3,.var _),(4,.var _),(5,.var _)]) [(10,_),(0,_),(1,_),(3,_),(4,_),(5,_)] 3 [2] hP (by decide) rfl ⟨nU rfl,rfl,rfl,rfl⟩ ⟨rfl,⟨rfl,⟨rfl,⟨rfl,⟨rfl,⟨rfl,trivial⟩⟩⟩⟩⟩⟩ (            ⟨⟨rfl,rfl,fun _ τ hb ht hτ => R.ldO (hτ 4 _ rfl) (hb 2 _ rfl) rfl ht⟩,⟨⟨rfl,rfl,fun _ τ hb ht hτ => R.ldP (hτ 10 _ rfl) (hb 10 _ rfl) rfl rfl rfl rfl ht⟩,⟨⟨rfl,rfl,fun _ τ hb ht hτ => R.bslE (z := 32) (.cons (evt (hτ 41 _ rfl)) .nil) ⟨⟨rfl,rfl,rfl⟩,trivial⟩ rfl ht (by decide)⟩,⟨⟨rfl,rfl,rfl,(SpC.appB (s := 40) rfl rfl rfl rfl rfl rfl (fun τ hb hτ => (SrcO.sc (SC.sl (hτ 42 _ rfl rfl rfl)) (pur_lit rfl))) (show _ = ((ids ++ [hs[0]!]).map hashD) from (by rw [List.map_append]; rfl)) bU (by decide) (by decide) rfl)⟩,⟨⟨rfl,rfl,fun _ τ hb ht hτ => R.ldO (hτ 5 _ rfl) (hb 3 _ rfl) rfl ht⟩,⟨⟨rfl,rfl,fun _ τ hb ht hτ => R.mov (evt (hτ 1 _ rfl)) rfl ht⟩,⟨⟨rfl,rfl,fun _ τ hb ht hτ => R.bslE (z := 1) (.cons (evt (hτ 45 _ rfl)) .nil) ⟨⟨rfl,rfl,rfl⟩,trivial⟩ rfl ht (by decide)⟩,trivial⟩⟩⟩⟩⟩⟩⟩) rfl rfl rfl (nU rfl) ⟨rfl,⟨rfl,⟨rfl,⟨rfl,⟨rfl,⟨rfl,trivial⟩⟩⟩⟩⟩⟩ rfl (n' := 92) rfl (⟨rfl,_,R.appB (gU 44 rfl) (xU 3 rfl) rfl (gU 44 rfl) (SrcO.sc (SC.sl (gU 46 rfl)) (pur_lit rfl)) (show _ = ((at_ ++ [k]).map natD) from (by rw [List.map_append]; rfl)) bU (nU rfl) (by decide) (by decide),⟨rfl,_,R.stOZ (gU 4 rfl) (xU 2 rfl) rfl (gU 43 rfl) rfl rfl (by rfl) (by rfl) rfl rfl,⟨rfl,_,R.stOZ (gU 5 rfl) (xU 3 rfl) rfl (gU 47 rfl) rfl rfl (by rfl) (by rfl) rfl rfl,⟨[10],[(10,_)],[(10,.var _),(0,.var _),(1,.var _),(2,.var _),(3,.var _),(4,.var _),(5,.var _)],92,rfl,rfl,rfl, ?_⟩⟩⟩⟩)
       refine W.seq ?_
       refine W.l0 3 [.y 48 _] [] [] [(10,_),(48,_)] [(10,.var _),(0,.var _),(1,.var _),(2,.var _),(3,.var _),(4,.var _),(5,.var _)] 92 ⟨aU (lU 10 rfl rfl rfl rfl rfl rfl rfl),trivial⟩ rfl rfl rfl rfl (⟨rfl,_,R.stZ (gU 10 rfl) (xU 10 rfl) rfl (gV 48 rfl) (by rfl) (by rfl) (by rfl) (by rfl) rfl,⟨rfl,_,R.asg (kB true rfl) rfl (nU rfl),tV [(10,_),(11,_)] [(10,.var _),(0,.var _),(1,.var _),(2,.var _),(3,.var _),(4,.var _),(5,.var _)] 92 rfl rfl rfl ?_⟩⟩)
       refine W.ret ?_
       exact EndsB.many' (.inr rfl) (.cons rfl rfl (show LdT _ 38 32 true from inferInstance) (.cons rfl rfl trivial .nil)) (by rw [ck_0 hc17,cl_t hc32 hc39] <;> rfl) (show [(10,false),(11,true)].Nodup by decide) rfl rfl (by rw [ck_0 hc17,cl_t hc32 hc39] <;> rfl) ⟨rfl,⟨rfl,⟨rfl,⟨rfl,⟨rfl,⟨rfl,trivial⟩⟩⟩⟩⟩⟩ rfl
     · refine W.skip ?_
       refine W.seq ?_
       refine W.l0 3 [.y 48 _] [] [] [(10,_),(48,_)] [(10,.var _),(0,.var _),(1,.var _),(2,.var _),(3,.var _),(4,.var _),(5,.var _)] 92 ⟨aU (lU 10 rfl rfl rfl rfl rfl rfl rfl),trivial⟩ rfl rfl rfl rfl (⟨rfl,_,R.stZ (gU 10 rfl) (xU 10 rfl) rfl (gV 48 rfl) (by rfl) (by rfl) (by rfl) (by rfl) rfl,⟨rfl,_,R.asg (kB true rfl) rfl (nU rfl),tV [(10,_),(11,_)] [(10,.var _),(0,.var _),(1,.var _),(2,.var _),(3,.var _),(4,.var _),(5,.var _)] 92 rfl rfl rfl ?_⟩⟩)
       refine W.ret ?_
       exact EndsB.many' (.inr rfl) (.cons rfl rfl (show LdT _ 38 32 true from inferInstance) (.cons rfl rfl trivial .nil)) (by rw [ck_0 hc17,cl_f hc32 hc39] <;> rfl) (show [(10,false),(11,true)].Nodup by decide) rfl rfl (by rw [ck_0 hc17,cl_f hc32 hc39] <;> rfl) ⟨rfl,⟨rfl,⟨rfl,⟨rfl,⟨rfl,⟨rfl,trivial⟩⟩⟩⟩⟩⟩ rfl

set_option maxHeartbeats 2000000 in
theorem cwalk1 (w : List Nat) (r : Nat) (hrow : r + 1 ≤ w.length) (hw : w.length ≤ 20) (k : Nat) (fl : List Bool) (hs ids : List Hs) (at_ : List Nat) (hk : (k + 1) * 2 ^ (r + 1) ≤ 100000) (hh : allH hs) (hl0 : hs.length ≤ 1000000) (hi : ids.length + fl.length ≤ 100000) (ha : at_.length + fl.length ≤ 100000) (ih : ∀ (k : Nat) (fl : List Bool) (hs ids : List Hs) (at_ : List Nat),(k + 1) * 2 ^ r ≤ 100000 → allH hs → hs.length ≤ 1000000 → ids.length + fl.length ≤ 100000 → at_.length + fl.length ≤ 100000 → CwP w r k fl hs ids at_) : FnB Tryd.prog gl 29 [.int ((r + 1 : Nat) : Int),.int ((k : Nat) : Int),.ptr 0 0 [],.ptr 1 0 [],.ptr 2 0 [],.ptr 3 0 [],.ptr 4 0 [],.ptr 5 0 []] [(0,.var (.sl none 1 (fl.map D.bool))),(1,.var (.sl none 32 (hs.map hashD))),(2,.var (.sl (some 38) 32 (ids.map hashD))),(3,.var (.sl (some 3) 1 (at_.map natD))),(4,.var (.fn 29 [.ptr 0 0 [],.ptr 1 0 [],.ptr 2 0 [],.ptr 3 0 [],.ptr 4 0 [],.ptr 5 0 []])),(5,.var (.sl none 1 (w.map natD)))] (.tup [hashD (ckW w (r + 1) k (fl,hs,ids,at_)).1.1,.bool (ckW w (r + 1) k (fl,hs,ids,at_)).1.2]) [(0,.var (.sl none 1 ((ckW w (r + 1) k (fl,hs,ids,at_)).2.1.map D.bool))),(1,.var (.sl none 32 ((ckW w (r + 1) k (fl,hs,ids,at_)).2.2.1.map hashD))),(2,.var (.sl (some 38) 32 ((ckW w (r + 1) k (fl,hs,ids,at_)).2.2.2.1.map hashD))),(3,.var (.sl (some 3) 1 ((ckW w (r + 1) k (fl,hs,ids,at_)).2.2.2.2.map natD))),(4,.var (.fn 29 [.ptr 0 0 [],.ptr 1 0 [],.ptr 2 0 [],.ptr 3 0 [],.ptr 4 0 [],.ptr 5 0 []])),(5,.var (.sl none 1 (w.map natD)))] [] := by
 refine FnB.of (n := 92) (ids := [0,1,2,3,4,5]) Tryd.func29 rfl rfl rfl (nU rfl) fun C hC hD => ?_
 refine W.seq ?_
 refine W.l0 2 [] [] [] [(0,_),(1,_),(2,_),(3,_),(4,_),(5,_),(6,_),(7,_)] [(0,.var _),(1,.var _),(2,.var _),(3,.var _),(4,.var _),(5,.var _)] 92 trivial rfl rfl rfl rfl (⟨rfl,_,R.alloc rfl (nU rfl),⟨rfl,_,R.asg (kB false rfl) rfl (nU rfl),tV [(0,_),(1,_),(2,_),(3,_),(4,_),(5,_),(6,_),(7,_),(10,_)] [(10,.var _),(0,.var _),(1,.var _),(2,.var _),(3,.var _),(4,.var _),(5,.var _)] 92 rfl rfl rfl ?_⟩⟩)
 refine W.seq ?_
 refine W.seq ?_
 refine W.l0 3 [.y 15 _,.y 16 _,.y 17 _] [] [] [(0,_),(1,_),(2,_),(3,_),(4,_),(5,_),(6,_),(7,_),(10,_),(17,_)] [(10,.var _),(0,.var _),(1,.var _),(2,.var _),(3,.var _),(4,.var _),(5,.var _)] 92 ⟨aU (lU 2 rfl rfl rfl rfl rfl rfl rfl),aU fun _ _ H K => R.lenE (SC.sl (K 15 _ rfl)) (List.length_map _) H,aU fun _ _ H K => R.eqlN (fl.length) (0) (eU K 16 rfl) (kI 0 rfl) H,trivial⟩ rfl rfl rfl rfl (tU rfl ?_)
 refine W.condD rfl (fun hc17 => ?_) (fun hc17 => ?_)
 · refine W.seq ?_
   refine W.l0 3 [.y 18 _] [] [] [(10,_),(18,_)] [(10,.var _),(0,.var _),(1,.var _),(2,.var _),(3,.var _),(4,.var _),(5,.var _)] 92 ⟨aU (lU 10 rfl rfl rfl rfl rfl rfl rfl),trivial⟩ rfl rfl rfl rfl (⟨rfl,_,R.stZ (gU 10 rfl) (xU 10 rfl) rfl (gV 18 rfl) (by rfl) (by rfl) (by rfl) (by rfl) rfl,⟨rfl,_,R.asg (kB false rfl) rfl (nU rfl),tV [(10,_),(11,_)] [(10,.var _),(0,.var _),(1,.var _),(2,.var _),(3,.var _),(4,.var _),(5,.var _)] 92 rfl rfl rfl ?_⟩⟩)
   refine W.ret ?_
   exact EndsB.many' (.inr rfl) (.cons rfl rfl (show LdT _ 38 32 true from inferInstance) (.cons rfl rfl trivial .nil)) (by rw [ck_1 hc17] <;> rfl) (show [(10,false),(11,true)].Nodup by decide) rfl rfl (by rw [ck_1 hc17] <;> rfl) ⟨rfl,⟨rfl,⟨rfl,⟨rfl,⟨rfl,⟨rfl,trivial⟩⟩⟩⟩⟩⟩ rfl
 · refine W.skip ?_
   refine W.seq ?_
   refine W.l0 4 [.y 19 _,.y 20 _,.y 21 _,.y 12 _] [] [] [(0,_),(1,_),(2,_),(3,_),(4,_),(5,_),(6,_),(7,_),(10,_),(12,_)] [(10,.var _),(0,.var _),(1,.var _),(2,.var _),(3,.var _),(4,.var _),(5,.var _)] 92 ⟨aU (lU 2 rfl rfl rfl rfl rfl rfl rfl),aU fun _ _ H K => R.idxN (0) (SC.sl (K 19 _ rfl)) (evoI (kI 0 rfl)) rfl bU H (by decide),aU fun _ _ H K => R.ldE (K 20 _ rfl) (SC.sl (K 19 _ rfl)) (map_get! (l := fl) bU) rfl rfl rfl rfl H,aU fun _ _ H K => R.asg (eU K 21 rfl) rfl H,trivial⟩ rfl rfl rfl rfl (tU rfl ?_)
   refine W.seq ?_
   refine W.l0 3 [.y 22 _,.y 23 _] [] [] [(0,_),(1,_),(2,_),(3,_),(4,_),(5,_),(6,_),(7,_),(10,_),(12,_),(23,_)] [(10,.var _),(0,.var _),(1,.var _),(2,.var _),(3,.var _),(4,.var _),(5,.var _)] 92 ⟨aU (lU 2 rfl rfl rfl rfl rfl rfl rfl),aU fun _ _ H K => R.slIN (1) (fl.length) ((fl.length - 1)) (eU K 22 rfl) (evoI (kI 1 rfl)) rfl rfl (by simp) bU bU rfl (show _ = (fl.drop 1).map D.bool from by rw [List.take_of_length_le (by simp)]; simp) H,trivial⟩ rfl rfl rfl rfl (⟨rfl,_,R.stZ (gU 2 rfl) (xU 0 rfl) rfl (gV 23 rfl) (by rfl) (by rfl) (by rfl) (by rfl) rfl,tV [(0,_),(1,_),(3,_),(4,_),(5,_),(6,_),(7,_),(10,_),(12,_)] [(10,.var _),(0,.var _),(1,.var _),(2,.var _),(3,.var _),(4,.var _),(5,.var _)] 92 rfl rfl rfl ?_⟩)
   refine W.seq ?_
   refine W.seq ?_
   refine W.l0 6 [.y 24 _,.y 25 _,.y 26 _,.y 27 _,.y 28 _,.y 29 _] [] [] [(0,_),(1,_),(3,_),(4,_),(5,_),(6,_),(7,_),(10,_),(12,_),(29,_)] [(10,.var _),(0,.var _),(1,.var _),(2,.var _),(3,.var _),(4,.var _),(5,.var _)] 92 ⟨mU 0 rfl rfl,aU fun _ _ H K => R.eqlN (r + 1) (0) (eU K 24 rfl) (kI 0 rfl) H,mU 25 rfl rfl,aW rfl rfl (gF (decide_eq_false (Nat.succ_ne_zero _)) rfl) fun _ _ H K => R.mov (eU K 12 rfl) rfl H,aW rfl rfl (gF (decide_eq_false (Nat.succ_ne_zero _)) rfl) fun _ _ H K => R.un (eU K 27 rfl) rfl H,aU fun _ _ H K => R.pickF (eU K 26 rfl) (decide_eq_false (Nat.succ_ne_zero _)) (eU K 28 rfl) rfl H,trivial⟩ rfl rfl rfl rfl (tU rfl ?_)
   refine W.cond rfl (fun hc29 => ?_) (fun hc29 => ?_)
   · refine W.seq ?_
     refine W.seq ?_
     refine W.l0 3 [.y 30 _,.y 31 _,.y 32 _] [] [] [(1,_),(3,_),(4,_),(5,_),(10,_),(12,_),(32,_)] [(10,.var _),(0,.var _),(1,.var _),(2,.var _),(3,.var _),(4,.var _),(5,.var _)] 92 ⟨aU (lU 3 rfl rfl rfl rfl rfl rfl rfl),aU fun _ _ H K => R.lenE (SC.sl (K 30 _ rfl)) (List.length_map _) H,aU fun _ _ H K => R.eqlN (hs.length) (0) (eU K 31 rfl) (kI 0 rfl) H,trivial⟩ rfl rfl rfl rfl (tU rfl ?_)
     refine W.condD rfl (fun hc32 => ?_) (fun hc32 => ?_)
     · refine W.seq ?_
       refine W.l0 3 [.y 33 _] [] [] [(10,_),(33,_)] [(10,.var _),(0,.var _),(1,.var _),(2,.var _),(3,.var _),(4,.var _),(5,.var _)] 92 ⟨aU (lU 10 rfl rfl rfl rfl rfl rfl rfl),trivial⟩ rfl rfl rfl rfl (⟨rfl,_,R.stZ (gU 10 rfl) (xU 10 rfl) rfl (gV 33 rfl) (by rfl) (by rfl) (by rfl) (by rfl) rfl,⟨rfl,_,R.asg (kB false rfl) rfl (nU rfl),tV [(10,_),(11,_)] [(10,.var _),(0,.var _),(1,.var _),(2,.var _),(3,.var _),(4,.var _),(5,.var _)] 92 rfl rfl rfl ?_⟩⟩)
       refine W.ret ?_
       exact EndsB.many' (.inr rfl) (.cons rfl rfl (show LdT _ 38 32 true from inferInstance) (.cons rfl rfl trivial .nil)) (by rw [ck_l hc17 (by simpa using hc29),cl_1 hc32] <;> rfl) (show [(10,false),(11,true)].Nodup by decide) rfl rfl (by rw [ck_l hc17 (by simpa using hc29),cl_1 hc32] <;> rfl) ⟨rfl,⟨rfl,⟨rfl,⟨rfl,⟨rfl,⟨rfl,trivial⟩⟩⟩⟩⟩⟩ rfl
     · refine W.skip ?_
       refine W.seq ?_
       refine W.drawE (m := 6) (an := [0,1,3,0,8,7,63]) (its := [.y 34 _,.y 35 _,.y 36 _,.y 37 _,.y 38 _,⟨97,.dead,true⟩]) (ks := [(5,97)]) (kk := []) (efs := [(5,[(10,.var _)])]) (live := [1,3,4,5,10,12,38]) (env' := [(1,_),(3,_),(4,_),(5,_),(10,_),(12,_),(38,_)]) (nd := 40) (bx1 := [(10,.var _),(0,.var _),(1,.var _),(2,.var _),(3,.var _),(4,.var _),(5,.var _)]) hP (by decide) rfl ⟨⟨104,rfl⟩,nU rfl,rfl,rfl,rfl,rfl⟩ (            ⟨⟨rfl,nU rfl,rfl,fun _ τ hb ht hτ => R.ldP (hτ 3 _ rfl) (hb 1 _ rfl) rfl rfl rfl rfl ht⟩,⟨⟨rfl,nU rfl,rfl,fun _ τ hb ht hτ => R.idxN (0) (SC.sl (hτ 34 _ rfl)) (evoI (kI 0 rfl)) rfl bU ht (by decide)⟩,⟨⟨rfl,nU rfl,rfl,fun _ τ hb ht hτ => R.ldE (hτ 35 _ rfl) (SC.sl (hτ 34 _ rfl)) (map_get! (l := hs) bU) rfl rfl rfl rfl ht⟩,⟨⟨rfl,nU rfl,rfl,fun _ τ hb ht hτ => R.ldP (hτ 3 _ rfl) (hb 1 _ rfl) rfl rfl rfl rfl ht⟩,⟨⟨rfl,nU rfl,rfl,fun _ τ hb ht hτ => R.slIN (1) (hs.length) ((hs.length - 1)) (evt (hτ 37 _ rfl)) (evoI (kI 1 rfl)) rfl rfl (by simp) bU bU rfl (show _ = (hs.drop 1).map hashD from by rw [List.take_of_length_le (by simp)]; simp) ht⟩,⟨⟨rfl,rfl,rfl,(SpE.st (p := 10) (id := 10) rfl rfl rfl (fun τ hτ => (evt (hτ 36 _ rfl))) (by rfl) (by rfl) (by rfl) (by rfl) rfl)⟩,trivial⟩⟩⟩⟩⟩⟩) rfl rfl rfl (n' := 92) rfl (⟨rfl,_,R.stZ (gU 3 rfl) (xU 1 rfl) rfl (gV 38 rfl) (by rfl) (by rfl) (by rfl) (by rfl) rfl,⟨[1,4,5,10,12],[(1,_),(4,_),(5,_),(10,_),(12,_)],[(10,.var _),(0,.var _),(1,.var _),(2,.var _),(3,.var _),(4,.var _),(5,.var _)],92,rfl,rfl,rfl, ?_⟩⟩)
       refine W.seq ?_
       refine W.seq ?_
       refine W.l0 1 [.y 39 _] [] [] [(1,_),(4,_),(5,_),(10,_),(39,_)] [(10,.var _),(0,.var _),(1,.var _),(2,.var _),(3,.var _),(4,.var _),(5,.var _)] 92 ⟨mU 12 rfl rfl,trivial⟩ rfl rfl rfl rfl (tU rfl ?_)
       refine W.condF rfl (by simpa using hc29) ?_
       refine W.skip ?_
       refine W.seq ?_
       refine W.l0 3 [.y 48 _] [] [] [(10,_),(48,_)] [(10,.var _),(0,.var _),(1,.var _),(2,.var _),(3,.var _),(4,.var _),(5,.var _)] 92 ⟨aU (lU 10 rfl rfl rfl rfl rfl rfl rfl),trivial⟩ rfl rfl rfl rfl (⟨rfl,_,R.stZ (gU 10 rfl) (xU 10 rfl) rfl (gV 48 rfl) (by rfl) (by rfl) (by rfl) (by rfl) rfl,⟨rfl,_,R.asg (kB true rfl) rfl (nU rfl),tV [(10,_),(11,_)] [(10,.var _),(0,.var _),(1,.var _),(2,.var _),(3,.var _),(4,.var _),(5,.var _)] 92 rfl rfl rfl ?_⟩⟩)
       refine W.ret ?_
       exact EndsB.many' (.inr rfl) (.cons rfl rfl (show LdT _ 38 32 true from inferInstance) (.cons rfl rfl trivial .nil)) (by rw [ck_l hc17 (by simpa using hc29),cl_f hc32 (by simpa using hc29)] <;> rfl) (show [(10,false),(11,true)].Nodup by decide) rfl rfl (by rw [ck_l hc17 (by simpa using hc29),cl_f hc32 (by simpa using hc29)] <;> rfl) ⟨rfl,⟨rfl,⟨rfl,⟨rfl,⟨rfl,⟨rfl,trivial⟩⟩⟩⟩⟩⟩ rfl
   · refine W.skip ?_
     refine W.seq ?_
     have hft : fl[0]! = true := by simpa using hc29
     have hpw : (k + 1) * 2 ^ (r + 1) = (2 * k + 1 + 1) * 2 ^ r := by rw [Nat.pow_succ,← Nat.mul_assoc,Nat.mul_right_comm,show 2 * k + 1 + 1 = (k + 1) * 2 by omega]
     have hpk : 1 ≤ 2 ^ r := Nat.one_le_two_pow
     have hkk : 2 * k + 1 + 1 ≤ 100000 := Nat.le_trans (Nat.le_mul_of_pos_right _ hpk) (by omega)
     have hk0 : (2 * k + 1) * 2 ^ r ≤ 100000 := Nat.le_trans (Nat.mul_le_mul_right _ (Nat.le_succ _)) (Nat.le_trans (Nat.le_of_eq hpw.symm) hk)
     obtain ⟨⟨a,x⟩,fl1,hs1,ids1,at1,hX⟩ : ∃ o_ f_ h_ i_ a_,ckW w r (2 * k) ((fl.drop 1),hs,ids,at_) = (o_,f_,h_,i_,a_) := ⟨_,_,_,_,_,rfl⟩
     have hXo := ckW_ok w r (2 * k) (fl.drop 1,hs,ids,at_) hh
     rw [hX] at hXo
     obtain ⟨ho1,ho2,ho3,ho4,ho5,_⟩ := hXo
     simp only [List.length_drop] at ho1 ho3 ho4 ho5
     refine W.l0 12 [.y 50 _,.y 51 _,.y 52 _,.y 53 _,.y 54 _] [] [] [(0,_),(1,_),(6,_),(7,_),(10,_),(50,_),(52,_),(54,_)] [(10,.var _),(0,.var _),(1,.var _),(2,.var _),(3,.var _),(4,.var _),(5,.var _)] 92 ⟨aU (lU 6 rfl rfl rfl rfl rfl rfl rfl),mU 0 rfl rfl,aU fun _ _ H K => R.subN (r + 1) (1) (eU K 51 rfl) (kI 1 rfl) bU bU H,mU 1 rfl rfl,aU fun _ _ H K => R.mulN (2) (k) (kI 2 rfl) (eU K 53 rfl) bU H,trivial⟩ rfl rfl rfl rfl (⟨rfl,_,R.callVB (ds := [.int ((r : Nat) : Int),.int ((2 * k : Nat) : Int)]) (caps := [.ptr 0 0 [],.ptr 1 0 [],.ptr 2 0 [],.ptr 3 0 [],.ptr 4 0 [],.ptr 5 0 []]) [(0,0),(1,1),(2,2),(3,3),(4,4),(5,5)] hC (gU 50 rfl) rfl rfl (show FnB Tryd.prog gl 29 [.int ((r : Nat) : Int),.int ((2 * k : Nat) : Int),.ptr 0 0 [],.ptr 1 0 [],.ptr 2 0 [],.ptr 3 0 [],.ptr 4 0 [],.ptr 5 0 []] [(0,.var (.sl none 1 ((fl.drop 1).map D.bool))),(1,.var (.sl none 32 (hs.map hashD))),(2,.var (.sl (some 38) 32 (ids.map hashD))),(3,.var (.sl (some 3) 1 (at_.map natD))),(4,.var (.fn 29 [.ptr 0 0 [],.ptr 1 0 [],.ptr 2 0 [],.ptr 3 0 [],.ptr 4 0 [],.ptr 5 0 []])),(5,.var (.sl none 1 (w.map natD)))] (.tup [hashD a,.bool x]) [(0,.var (.sl none 1 (fl1.map D.bool))),(1,.var (.sl none 32 (hs1.map hashD))),(2,.var (.sl (some 38) 32 (ids1.map hashD))),(3,.var (.sl (some 3) 1 (at1.map natD))),(4,.var (.fn 29 [.ptr 0 0 [],.ptr 1 0 [],.ptr 2 0 [],.ptr 3 0 [],.ptr 4 0 [],.ptr 5 0 []])),(5,.var (.sl none 1 (w.map natD)))] [] from by have h := ih (2 * k) (fl.drop 1) hs ids at_ hk0 hh hl0 (by simp only [List.length_drop]; omega) (by simp only [List.length_drop]; omega); unfold CwP at h; rw [hX] at h; exact h) (EvB.cons (gV 52 rfl) rfl rfl rfl (EvB.cons (gV 54 rfl) rfl rfl rfl EvB.nil)) rfl ⟨rfl,⟨rfl,⟨rfl,⟨rfl,⟨rfl,⟨rfl,trivial⟩⟩⟩⟩⟩⟩ ⟨rfl,⟨rfl,⟨rfl,⟨rfl,⟨rfl,⟨rfl,trivial⟩⟩⟩⟩⟩⟩ rfl rfl rfl rfl rfl rfl (nU rfl),⟨rfl,_,R.movT (gU 55 rfl) rfl (nU rfl),⟨rfl,_,R.ext (gU 49 rfl) rfl rfl (nU rfl),⟨rfl,_,R.ext (gU 49 rfl) rfl rfl (nU rfl),⟨rfl,_,R.alloc rfl (nU rfl),⟨rfl,_,R.stZ (gU 13 rfl) (xU 13 rfl) rfl (gV 56 rfl) (by rfl) (by rfl) (by rfl) (by rfl) rfl,⟨rfl,_,R.asg (gV 57 rfl) rfl (nU rfl),tV [(0,_),(1,_),(6,_),(7,_),(10,_),(11,_),(13,_)] [(13,.var _),(10,.var _),(0,.var _),(1,.var _),(2,.var _),(3,.var _),(4,.var _),(5,.var _)] 92 rfl rfl rfl ?_⟩⟩⟩⟩⟩⟩⟩)
     refine W.seq ?_
     refine W.seq ?_
     refine W.l0 2 [.y 58 _,.y 59 _] [] [] [(0,_),(1,_),(6,_),(7,_),(10,_),(13,_),(59,_)] [(13,.var _),(10,.var _),(0,.var _),(1,.var _),(2,.var _),(3,.var _),(4,.var _),(5,.var _)] 92 ⟨mU 11 rfl rfl,aU fun _ _ H K => R.un (eU K 58 rfl) rfl H,trivial⟩ rfl rfl rfl rfl (tU rfl ?_)
     refine W.cond rfl (fun hc59 => ?_) (fun hc59 => ?_)
     · refine W.seq ?_
       refine W.l0 3 [.y 60 _] [] [] [(10,_),(60,_)] [(13,.var _),(10,.var _),(0,.var _),(1,.var _),(2,.var _),(3,.var _),(4,.var _),(5,.var _)] 92 ⟨aU (lU 10 rfl rfl rfl rfl rfl rfl rfl),trivial⟩ rfl rfl rfl rfl (⟨rfl,_,R.stZ (gU 10 rfl) (xU 10 rfl) rfl (gV 60 rfl) (by rfl) (by rfl) (by rfl) (by rfl) rfl,⟨rfl,_,R.asg (kB false rfl) rfl (nU rfl),tV [(10,_),(11,_)] [(13,.var _),(10,.var _),(0,.var _),(1,.var _),(2,.var _),(3,.var _),(4,.var _),(5,.var _)] 92 rfl rfl rfl ?_⟩⟩)
       refine W.ret ?_
       exact EndsB.many' (.inr rfl) (.cons rfl rfl (show LdT _ 38 32 true from inferInstance) (.cons rfl rfl trivial .nil)) (by rw [ck_n hc17 hft hX (by simpa using hc59)] <;> rfl) (show [(10,false),(11,true)].Nodup by decide) rfl rfl (by rw [ck_n hc17 hft hX (by simpa using hc59)] <;> rfl) ⟨rfl,⟨rfl,⟨rfl,⟨rfl,⟨rfl,⟨rfl,trivial⟩⟩⟩⟩⟩⟩ rfl
     · refine W.skip ?_
       refine W.seq ?_
       refine W.seq ?_
       refine W.l0 9 [.y 61 _,.y 62 _,.y 63 _,.y 64 _,.y 65 _,.y 66 _,.y 67 _,.y 68 _,.y 69 _] [] [] [(0,_),(1,_),(6,_),(10,_),(13,_),(69,_)] [(13,.var _),(10,.var _),(0,.var _),(1,.var _),(2,.var _),(3,.var _),(4,.var _),(5,.var _)] 92 ⟨mU 1 rfl rfl,aU fun _ _ H K => R.mulN (2) (k) (kI 2 rfl) (eU K 61 rfl) bU H,aU fun _ _ H K => R.addN ((2 * k)) (1) (eU K 62 rfl) (kI 1 rfl) bU H,aU (lU 7 rfl rfl rfl rfl rfl rfl rfl),mU 0 rfl rfl,aU fun _ _ H K => R.subN (r + 1) (1) (eU K 65 rfl) (kI 1 rfl) bU bU H,aU fun _ _ H K => R.idxN ((r + 1 - 1)) (SC.sl (K 64 _ rfl)) (evoI (eU K 66 rfl)) rfl bU H (by decide),aU fun _ _ H K => R.ldE (K 67 _ rfl) (SC.sl (K 64 _ rfl)) (map_get! (l := w) bU) rfl rfl rfl rfl H,aU fun _ _ H K => R.eqlN (((2 * k) + 1)) (w[(r + 1 - 1)]!) (eU K 63 rfl) (eU K 68 rfl) H,trivial⟩ rfl rfl rfl rfl (tU rfl ?_)
       refine W.condD rfl (fun hc69 => ?_) (fun hc69 => ?_)
       · refine W.seq ?_
         refine W.l0 5 [.y 70 _,.y 71 _,.y 72 _] [] [] [(10,_),(72,_)] [(13,.var _),(10,.var _),(0,.var _),(1,.var _),(2,.var _),(3,.var _),(4,.var _),(5,.var _)] 92 ⟨aU (lU 13 rfl rfl rfl rfl rfl rfl rfl),aU (lU 13 rfl rfl rfl rfl rfl rfl rfl),aU fun _ _ H K => R.callG hC (join_ok a a ho1 ho1) (Bors.cons (Bor.pur (eU K 70 rfl) rfl rfl) (Bors.cons (Bor.pur (eU K 71 rfl) rfl rfl) Bors.nil)) (FrsR.one (frs_hash _)) H,trivial⟩ rfl rfl rfl rfl (⟨rfl,_,R.stZ (gU 10 rfl) (xU 10 rfl) rfl (gV 72 rfl) (by rfl) (by rfl) (by rfl) (by rfl) rfl,⟨rfl,_,R.asg (kB true rfl) rfl (nU rfl),tV [(10,_),(11,_)] [(13,.var _),(10,.var _),(0,.var _),(1,.var _),(2,.var _),(3,.var _),(4,.var _),(5,.var _)] 92 rfl rfl rfl ?_⟩⟩)
         refine W.ret ?_
         exact EndsB.many' (.inr rfl) (.cons rfl rfl (show LdT _ 38 32 true from inferInstance) (.cons rfl rfl trivial .nil)) (by rw [ck_s hc17 hft hX (by simpa using hc59) hc69] <;> rfl) (show [(10,false),(11,true)].Nodup by decide) rfl rfl (by rw [ck_s hc17 hft hX (by simpa using hc59) hc69] <;> rfl) ⟨rfl,⟨rfl,⟨rfl,⟨rfl,⟨rfl,⟨rfl,trivial⟩⟩⟩⟩⟩⟩ rfl
       · refine W.skip ?_
         refine W.seq ?_
         obtain ⟨⟨b,y⟩,fl2,hs2,ids2,at2,hY⟩ : ∃ o_ f_ h_ i_ a_,ckW w r (2 * k + 1) (fl1,hs1,ids1,at1) = (o_,f_,h_,i_,a_) := ⟨_,_,_,_,_,rfl⟩
         have hYo := (ckW_ok w r (2 * k + 1) (fl1,hs1,ids1,at1) ho2).h
         rw [hY] at hYo
         refine W.l0 13 [.y 74 _,.y 75 _,.y 76 _,.y 77 _,.y 78 _,.y 79 _] [] [] [(10,_),(13,_),(74,_),(76,_),(79,_)] [(13,.var _),(10,.var _),(0,.var _),(1,.var _),(2,.var _),(3,.var _),(4,.var _),(5,.var _)] 92 ⟨aU (lU 6 rfl rfl rfl rfl rfl rfl rfl),mU 0 rfl rfl,aU fun _ _ H K => R.subN (r + 1) (1) (eU K 75 rfl) (kI 1 rfl) bU bU H,mU 1 rfl rfl,aU fun _ _ H K => R.mulN (2) (k) (kI 2 rfl) (eU K 77 rfl) bU H,aU fun _ _ H K => R.addN ((2 * k)) (1) (eU K 78 rfl) (kI 1 rfl) bU H,trivial⟩ rfl rfl rfl rfl (⟨rfl,_,R.callVB (ds := [.int ((r : Nat) : Int),.int ((2 * k + 1 : Nat) : Int)]) (caps := [.ptr 0 0 [],.ptr 1 0 [],.ptr 2 0 [],.ptr 3 0 [],.ptr 4 0 [],.ptr 5 0 []]) [(0,0),(1,1),(2,2),(3,3),(4,4),(5,5)] hC (gU 74 rfl) rfl rfl (show FnB Tryd.prog gl 29 [.int ((r : Nat) : Int),.int ((2 * k + 1 : Nat) : Int),.ptr 0 0 [],.ptr 1 0 [],.ptr 2 0 [],.ptr 3 0 [],.ptr 4 0 [],.ptr 5 0 []] [(0,.var (.sl none 1 (fl1.map D.bool))),(1,.var (.sl none 32 (hs1.map hashD))),(2,.var (.sl (some 38) 32 (ids1.map hashD))),(3,.var (.sl (some 3) 1 (at1.map natD))),(4,.var (.fn 29 [.ptr 0 0 [],.ptr 1 0 [],.ptr 2 0 [],.ptr 3 0 [],.ptr 4 0 [],.ptr 5 0 []])),(5,.var (.sl none 1 (w.map natD)))] (.tup [hashD b,.bool y]) [(0,.var (.sl none 1 (fl2.map D.bool))),(1,.var (.sl none 32 (hs2.map hashD))),(2,.var (.sl (some 38) 32 (ids2.map hashD))),(3,.var (.sl (some 3) 1 (at2.map natD))),(4,.var (.fn 29 [.ptr 0 0 [],.ptr 1 0 [],.ptr 2 0 [],.ptr 3 0 [],.ptr 4 0 [],.ptr 5 0 []])),(5,.var (.sl none 1 (w.map natD)))] [] from by have h := ih (2 * k + 1) fl1 hs1 ids1 at1 (by omega) ho2 (by omega) (by omega) (by omega); unfold CwP at h; rw [hY] at h; exact h) (EvB.cons (gV 76 rfl) rfl rfl rfl (EvB.cons (gV 79 rfl) rfl rfl rfl EvB.nil)) rfl ⟨rfl,⟨rfl,⟨rfl,⟨rfl,⟨rfl,⟨rfl,trivial⟩⟩⟩⟩⟩⟩ ⟨rfl,⟨rfl,⟨rfl,⟨rfl,⟨rfl,⟨rfl,trivial⟩⟩⟩⟩⟩⟩ rfl rfl rfl rfl rfl rfl (nU rfl),⟨rfl,_,R.movT (gU 80 rfl) rfl (nU rfl),⟨rfl,_,R.ext (gU 73 rfl) rfl rfl (nU rfl),⟨rfl,_,R.ext (gU 73 rfl) rfl rfl (nU rfl),⟨rfl,_,R.alloc rfl (nU rfl),⟨rfl,_,R.stZ (gU 14 rfl) (xU 14 rfl) rfl (gV 81 rfl) (by rfl) (by rfl) (by rfl) (by rfl) rfl,⟨rfl,_,R.asg (gV 82 rfl) rfl (nU rfl),tV [(10,_),(11,_),(13,_),(14,_)] [(14,.var _),(13,.var _),(10,.var _),(0,.var _),(1,.var _),(2,.var _),(3,.var _),(4,.var _),(5,.var _)] 92 rfl rfl rfl ?_⟩⟩⟩⟩⟩⟩⟩)
         refine W.seq ?_
         by_cases hy : y = true
         · refine W.drawE (m := 10) (an := [0,0,3,0,15,31,31,127,255,31,1023]) (its := [.y 83 _,.y 84 _,.y 85 _,.y 86 _,.y 87 _,.y 88 _,.y 89 _,.y 90 _,.y 91 _,⟨101,.dead,true⟩]) (ks := [(9,101)]) (kk := []) (efs := [(9,[(10,.var _)])]) (live := [10,11,91]) (env' := [(10,_),(11,_),(91,_)]) (nd := 40) (bx1 := [(10,.var _),(14,.var _),(13,.var _),(0,.var _),(1,.var _),(2,.var _),(3,.var _),(4,.var _),(5,.var _)]) hP (by decide) rfl ⟨⟨108,rfl⟩,nU rfl,rfl,rfl,rfl,rfl⟩ (                ⟨⟨rfl,nU rfl,rfl,fun _ τ hb ht hτ => R.ldP (hτ 13 _ rfl) (hb 13 _ rfl) rfl rfl rfl rfl ht⟩,⟨⟨rfl,nU rfl,rfl,fun _ τ hb ht hτ => R.ldP (hτ 14 _ rfl) (hb 14 _ rfl) rfl rfl rfl rfl ht⟩,⟨⟨rfl,nU rfl,rfl,fun _ τ hb ht hτ => R.callG hC (join_ok a b ho1 hYo) (Bors.cons (Bor.pur (evt (hτ 83 _ rfl)) rfl rfl) (Bors.cons (Bor.pur (evt (hτ 84 _ rfl)) rfl rfl) Bors.nil)) (FrsR.one (frs_hash _)) ht⟩,⟨⟨rfl,nU rfl,rfl,fun _ τ hb ht hτ => R.mov (evt (hτ 11 _ rfl)) rfl ht⟩,⟨⟨rfl,nU rfl,rfl,fun _ τ hb ht hτ => R.mov (evt (hτ 86 _ rfl)) rfl ht⟩,⟨⟨rfl,nU rfl,⟨_,87,rfl,rfl,.inl ⟨_,rfl,gw (v := true) (hy) rfl⟩⟩,fun _ τ hb ht hτ => R.ldP (hτ 13 _ rfl) (hb 13 _ rfl) rfl rfl rfl rfl ht⟩,⟨⟨rfl,nU rfl,⟨_,87,rfl,rfl,.inl ⟨_,rfl,gw (v := true) (hy) rfl⟩⟩,fun _ τ hb ht hτ => R.ldP (hτ 14 _ rfl) (hb 14 _ rfl) rfl rfl rfl rfl ht⟩,⟨⟨rfl,nU rfl,⟨_,87,rfl,rfl,.inl ⟨_,rfl,gw (v := true) (hy) rfl⟩⟩,fun _ τ hb ht hτ => R.eqAX (evt (hτ 88 _ rfl)) (evt (hτ 89 _ rfl)) ht⟩,⟨⟨rfl,nU rfl,rfl,fun _ τ hb ht hτ => R.pickT (evt (hτ 87 _ rfl)) (hy) (evt (hτ 90 _ rfl)) rfl ht⟩,⟨⟨rfl,rfl,rfl,(SpE.st (p := 10) (id := 10) rfl rfl rfl (fun τ hτ => (evt (hτ 85 _ rfl))) (by rfl) (by rfl) (by rfl) (by rfl) rfl)⟩,trivial⟩⟩⟩⟩⟩⟩⟩⟩⟩⟩) rfl rfl rfl (n' := 92) rfl (⟨rfl,_,R.asg (gV 91 rfl) rfl (nU rfl),⟨[10,11],[(10,_),(11,_)],[(10,.var _),(14,.var _),(13,.var _),(0,.var _),(1,.var _),(2,.var _),(3,.var _),(4,.var _),(5,.var _)],92,rfl,rfl,rfl, ?_⟩⟩)
           refine W.ret ?_
           exact EndsB.many' (.inr rfl) (.cons rfl rfl (show LdT _ 38 32 true from inferInstance) (.cons rfl rfl trivial .nil)) (by rw [ck_b hc17 hft hX (by simpa using hc59) hc69 hY,hy,Bool.true_and]) (show [(10,false),(11,true)].Nodup by decide) rfl rfl (by rw [ck_b hc17 hft hX (by simpa using hc59) hc69 hY] <;> rfl) ⟨rfl,⟨rfl,⟨rfl,⟨rfl,⟨rfl,⟨rfl,trivial⟩⟩⟩⟩⟩⟩ rfl
         · refine W.drawE (m := 10) (an := [0,0,3,0,15,31,31,127,255,31,1023]) (its := [.y 83 _,.y 84 _,.y 85 _,.y 86 _,.y 87 _,.x 88,.x 89,.x 90,.y 91 _,⟨101,.dead,true⟩]) (ks := [(9,101)]) (kk := []) (efs := [(9,[(10,.var _)])]) (live := [10,11,91]) (env' := [(10,_),(11,_),(91,_)]) (nd := 40) (bx1 := [(10,.var _),(14,.var _),(13,.var _),(0,.var _),(1,.var _),(2,.var _),(3,.var _),(4,.var _),(5,.var _)]) hP (by decide) rfl ⟨⟨108,rfl⟩,nU rfl,rfl,rfl,rfl,rfl⟩ (                ⟨⟨rfl,nU rfl,rfl,fun _ τ hb ht hτ => R.ldP (hτ 13 _ rfl) (hb 13 _ rfl) rfl rfl rfl rfl ht⟩,⟨⟨rfl,nU rfl,rfl,fun _ τ hb ht hτ => R.ldP (hτ 14 _ rfl) (hb 14 _ rfl) rfl rfl rfl rfl ht⟩,⟨⟨rfl,nU rfl,rfl,fun _ τ hb ht hτ => R.callG hC (join_ok a b ho1 hYo) (Bors.cons (Bor.pur (evt (hτ 83 _ rfl)) rfl rfl) (Bors.cons (Bor.pur (evt (hτ 84 _ rfl)) rfl rfl) Bors.nil)) (FrsR.one (frs_hash _)) ht⟩,⟨⟨rfl,nU rfl,rfl,fun _ τ hb ht hτ => R.mov (evt (hτ 11 _ rfl)) rfl ht⟩,⟨⟨rfl,nU rfl,rfl,fun _ τ hb ht hτ => R.mov (evt (hτ 86 _ rfl)) rfl ht⟩,⟨⟨rfl,nU rfl,⟨_,87,rfl,rfl,.inl ⟨_,rfl,gw (v := false) (bfalse hy) rfl⟩⟩,fun h => absurd h (by decide)⟩,⟨⟨rfl,nU rfl,⟨_,87,rfl,rfl,.inl ⟨_,rfl,gw (v := false) (bfalse hy) rfl⟩⟩,fun h => absurd h (by decide)⟩,⟨⟨rfl,nU rfl,⟨_,87,rfl,rfl,.inl ⟨_,rfl,gw (v := false) (bfalse hy) rfl⟩⟩,fun h => absurd h (by decide)⟩,⟨⟨rfl,nU rfl,rfl,fun _ τ hb ht hτ => R.pickF (evt (hτ 87 _ rfl)) (bfalse hy) (kB false rfl) rfl ht⟩,⟨⟨rfl,rfl,rfl,(SpE.st (p := 10) (id := 10) rfl rfl rfl (fun τ hτ => (evt (hτ 85 _ rfl))) (by rfl) (by rfl) (by rfl) (by rfl) rfl)⟩,trivial⟩⟩⟩⟩⟩⟩⟩⟩⟩⟩) rfl rfl rfl (n' := 92) rfl (⟨rfl,_,R.asg (gV 91 rfl) rfl (nU rfl),⟨[10,11],[(10,_),(11,_)],[(10,.var _),(14,.var _),(13,.var _),(0,.var _),(1,.var _),(2,.var _),(3,.var _),(4,.var _),(5,.var _)],92,rfl,rfl,rfl, ?_⟩⟩)
           refine W.ret ?_
           exact EndsB.many' (.inr rfl) (.cons rfl rfl (show LdT _ 38 32 true from inferInstance) (.cons rfl rfl trivial .nil)) (by rw [ck_b hc17 hft hX (by simpa using hc59) hc69 hY,bfalse hy,Bool.false_and]) (show [(10,false),(11,true)].Nodup by decide) rfl rfl (by rw [ck_b hc17 hft hX (by simpa using hc59) hc69 hY] <;> rfl) ⟨rfl,⟨rfl,⟨rfl,⟨rfl,⟨rfl,⟨rfl,trivial⟩⟩⟩⟩⟩⟩ rfl

end Go.Sx

namespace Go.Sx
open Go.Proofs
theorem cwalk {w : List Nat} (hw : w.length ≤ 20) :
 ∀ (r : Nat),r ≤ w.length → ∀ (k : Nat) (fl : List Bool) (hs ids : List Hs) (at_ : List Nat),(k + 1) * 2 ^ r ≤ 100000 → allH hs → hs.length ≤ 1000000 → ids.length + fl.length ≤ 100000 → at_.length + fl.length ≤ 100000 → CwP w r k fl hs ids at_ := by
 intro r
 induction r with
 | zero => intro hr k fl hs ids at_ hk hh hl hi ha; exact cwalk0 w hr hw k fl hs ids at_ (by simpa using hk) hh hl hi ha
 | succ r ih => intro hr k fl hs ids at_ hk hh hl hi ha; exact cwalk1 w r hr hw k fl hs ids at_ hk hh hl hi ha (ih (by omega))
def wdS (n : Nat) : List Nat := wdI n (nRows n)
def ckR (n : Nat) (hs : List Hs) (fl : List Bool) : (Hs × Bool) × CS := ckW (wdS n) ((wdS n).length - 1) 0 (fl,hs,[],[])
def chkS (n : Int) (hs : List Hs) (fl : List Bool) : Hs × List Hs × List Nat × Nat :=
 if n < 1 ∨ n > 256 then (zero32,[],[],1) else if (hs.length : Int) > n ∨ fl.length < hs.length then (zero32,[],[],6) else
 if (ckR n.toNat hs fl).1.2 = true ∧ (ckR n.toNat hs fl).2.1.length = 0 ∧ (ckR n.toNat hs fl).2.2.1.length = 0 then ((ckR n.toNat hs fl).1.1,(ckR n.toNat hs fl).2.2.2.1,(ckR n.toNat hs fl).2.2.2.2,0) else (zero32,[],[],15)
section
variable {n : Int} {hs : List Hs} {fl : List Bool}
theorem chk_1 (h : n < 1) : chkS n hs fl = (zero32,[],[],1) := if_pos (.inl h)
theorem chk_2 (h : n > 256) : chkS n hs fl = (zero32,[],[],1) := if_pos (.inr h)
variable {m : Nat}
theorem chk_c (h : ¬ (m : Int) < 1) (h2 : ¬ (m : Int) > 256) : chkS (m : Int) hs fl = if m < hs.length ∨ fl.length < hs.length then (zero32,[],[],6) else
 if (ckR m hs fl).1.2 = true ∧ (ckR m hs fl).2.1.length = 0 ∧ (ckR m hs fl).2.2.1.length = 0 then ((ckR m hs fl).1.1,(ckR m hs fl).2.2.2.1,(ckR m hs fl).2.2.2.2,0) else (zero32,[],[],15) := by
 rw [chkS,if_neg (by omega)]
 by_cases h3 : m < hs.length ∨ fl.length < hs.length
 · rw [if_pos h3,if_pos (by omega)]
 · rw [if_neg h3,if_neg (by omega)]; rfl
theorem chk_3 (h : ¬ (m : Int) < 1) (h2 : ¬ (m : Int) > 256) (h3 : m < hs.length ∨ fl.length < hs.length) : chkS (m : Int) hs fl = (zero32,[],[],6) := by rw [chk_c h h2,if_pos h3]
variable {a : Hs} {x : Bool} {fl1 : List Bool} {hs1 ids1 : List Hs} {at1 : List Nat}
theorem chk_4 (h : ¬ (m : Int) < 1) (h2 : ¬ (m : Int) > 256) (h3 : ¬ m < hs.length) (h4 : ¬ fl.length < hs.length) (hX : ckW (wdI m (nRows m)) ((wdI m (nRows m)).length - 1) 0 (fl,hs,[],[]) = ((a,x),fl1,hs1,ids1,at1)) (h5 : ¬ (x = true ∧ fl1.length = 0 ∧ hs1.length = 0)) : chkS (m : Int) hs fl = (zero32,[],[],15) := by
 have hX' : ckR m hs fl = ((a,x),fl1,hs1,ids1,at1) := hX
 rw [chk_c h h2,if_neg (by intro h; exact h.elim h3 h4),hX',if_neg h5]
theorem chk_5 (h : ¬ (m : Int) < 1) (h2 : ¬ (m : Int) > 256) (h3 : ¬ m < hs.length) (h4 : ¬ fl.length < hs.length) (hX : ckW (wdI m (nRows m)) ((wdI m (nRows m)).length - 1) 0 (fl,hs,[],[]) = ((a,x),fl1,hs1,ids1,at1)) (h5 : x = true) (h6 : fl1.length = 0) (h7 : hs1.length = 0) : chkS (m : Int) hs fl = (a,ids1,at1,0) := by
 have hX' : ckR m hs fl = ((a,x),fl1,hs1,ids1,at1) := hX
 rw [chk_c h h2,if_neg (by intro h; exact h.elim h3 h4),hX',if_pos ⟨h5,h6,h7⟩]
theorem wd_len {n : Nat} (h0 : 0 < n) (h : n ≤ 256) : (wdI n (nRows n)).length = nRows n ∧ 1 ≤ nRows n ∧ nRows n ≤ 9 := ⟨wdI_len _ _,nRows_pos h0,nRows_9 _ h⟩
theorem ck_call {m : Nat} (h0 : 0 < m) (h : m ≤ 256) (hh : allH hs) (hl : hs.length ≤ 1000000) (hf : fl.length ≤ 100000) : CwP (wdI m (nRows m)) ((wdI m (nRows m)).length - 1) 0 fl hs [] [] := by
 obtain ⟨h1,h2,h3⟩ := wd_len h0 h
 have hp : 2 ^ ((wdI m (nRows m)).length - 1) ≤ 2 ^ 9 := Nat.pow_le_pow_right (by decide) (by omega)
 exact cwalk (by omega) _ (by omega) 0 fl hs [] [] (by omega) hh hl (by simp only [List.length_nil]; omega) (by simp only [List.length_nil]; omega)
end
theorem brw_nt (o : Option Nat) (z : Nat) (l : List Nat) : (D.sl o z (l.map natD)).brw = .sl none z (l.map natD) := by
 simp only [D.brw,brws_eq]
 rw [brw_map (fun _ => rfl)]
theorem wk_hs0 : Wk (.nils) (.sl none 32 (([] : List Hs).map hashD)) := .nils none 32
theorem wk_is0 : Wk (.nils) (.sl none 1 (([] : List Nat).map natD)) := .nils none 1
end Go.Sx

namespace Go.Sx
open Go.Proofs
set_option maxHeartbeats 2000000 in
theorem check_ok (n : Int) (hs : List Hs) (fl : List Bool) (hh : allH hs) (hl0 : hs.length ≤ 1000000) (hf0 : fl.length ≤ 100000) : Fn Tryd.prog gl 12 [.agg [.int n,.sl none 32 (hs.map hashD),.sl none 1 (fl.map D.bool)]] (.tup [hashD (chkS n hs fl).1,.sl none 32 ((chkS n hs fl).2.1.map hashD),.sl none 1 ((chkS n hs fl).2.2.1.map natD),.int (((chkS n hs fl).2.2.2 : Nat) : Int)]) := by
 refine Fn.of (n := 66) Tryd.func12 rfl rfl rfl (nU rfl) fun C hC hD => ?_
 refine W.seq ?_
 refine W.l0 5 [] [] [] [(0,_)] [] 66 trivial rfl rfl rfl rfl (⟨rfl,_,R.box (gV 0 rfl) rfl rfl (nU rfl),⟨rfl,_,R.alloc rfl (nU rfl),⟨rfl,_,R.alloc rfl (nU rfl),⟨rfl,_,R.alloc rfl (nU rfl),⟨rfl,_,R.asg (kI 0 rfl) rfl (nU rfl),tV [(1,_),(2,_),(3,_),(4,_)] [(4,.var _),(3,.var _),(2,.var _),(1,.var _)] 66 rfl rfl rfl ?_⟩⟩⟩⟩⟩)
 refine W.seq ?_
 refine W.block ?_
 refine W.seq ?_
 refine W.seq ?_
 by_cases hn1 : n < 1
 · refine W.l0 4 [.y 12 _,.y 13 _,.y 14 _,.y 11 _] [] [] [(1,_),(2,_),(3,_),(4,_),(11,_)] [(4,.var _),(3,.var _),(2,.var _),(1,.var _)] 66 ⟨aU (fU 1 rfl rfl),aU (lU 12 rfl rfl rfl rfl rfl rfl rfl),aU fun _ _ H K => R.bin (eU K 13 rfl) (kI 1 rfl) rfl trivial H,aU fun _ _ H K => R.asg (eU K 14 rfl) rfl H,trivial⟩ rfl rfl rfl rfl (tU rfl ?_)
   refine W.condT rfl (decide_eq_true hn1) ?_
   refine W.skip ?_
   refine W.condT rfl (decide_eq_true hn1) ?_
   refine W.seq ?_
   refine W.l0 5 [.y 18 _] [] [] [(2,_),(3,_),(4,_),(18,_)] [(4,.var _),(3,.var _),(2,.var _),(1,.var _)] 66 ⟨aU (lU 2 rfl rfl rfl rfl rfl rfl rfl),trivial⟩ rfl rfl rfl rfl (⟨rfl,_,R.stZ (gU 2 rfl) (xU 2 rfl) rfl (gV 18 rfl) (by rfl) (by rfl) (by rfl) (by rfl) rfl,⟨rfl,_,R.stZ (gU 3 rfl) (xU 3 rfl) rfl (kN rfl) (by rfl) (by rfl) (by rfl) (by rfl) rfl,⟨rfl,_,R.stZ (gU 4 rfl) (xU 4 rfl) rfl (kN rfl) (by rfl) (by rfl) (by rfl) (by rfl) rfl,⟨rfl,_,R.asg (kI 1 rfl) rfl (nU rfl),tV [(2,_),(3,_),(4,_),(5,_)] [(4,.var _),(3,.var _),(2,.var _),(1,.var _)] 66 rfl rfl rfl ?_⟩⟩⟩⟩)
   refine W.wkB 3 (d' := .sl none 32 (([] : List Hs).map hashD)) (bx' := [(4,.var _),(3,.var _),(2,.var _),(1,.var _)]) rfl wk_hs0 rfl ?_
   refine W.wkB 4 (d' := .sl none 1 (([] : List Nat).map natD)) (bx' := [(4,.var _),(3,.var _),(2,.var _),(1,.var _)]) rfl wk_is0 rfl ?_
   refine W.ret ?_
   exact Ends.many (.inr rfl) (.cons rfl rfl rfl (show LdT _ 38 32 true from inferInstance) (.cons rfl rfl rfl (show LdT _ 22 1 false from inferInstance) (.cons rfl rfl rfl (show LdT _ 40 1 false from inferInstance) (.cons rfl rfl rfl trivial .nil)))) (by rw [chk_1 hn1]; rfl) (show [(2,false),(3,false),(4,false),(5,true)].Nodup by decide)
 · refine W.l0 4 [.y 12 _,.y 13 _,.y 14 _,.y 11 _] [] [] [(1,_),(2,_),(3,_),(4,_),(11,_)] [(4,.var _),(3,.var _),(2,.var _),(1,.var _)] 66 ⟨aU (fU 1 rfl rfl),aU (lU 12 rfl rfl rfl rfl rfl rfl rfl),aU fun _ _ H K => R.bin (eU K 13 rfl) (kI 1 rfl) rfl trivial H,aU fun _ _ H K => R.asg (eU K 14 rfl) rfl H,trivial⟩ rfl rfl rfl rfl (tU rfl ?_)
   refine W.condF rfl (decide_eq_false hn1) ?_
   refine W.l0 4 [.y 15 _,.y 16 _,.y 17 _,.y 11 _] [] [] [(1,_),(2,_),(3,_),(4,_),(11,_)] [(4,.var _),(3,.var _),(2,.var _),(1,.var _)] 66 ⟨aU (fU 1 rfl rfl),aU (lU 15 rfl rfl rfl rfl rfl rfl rfl),aU fun _ _ H K => R.bin (eU K 16 rfl) (kI 256 rfl) rfl trivial H,aU fun _ _ H K => R.asg (eU K 17 rfl) rfl H,trivial⟩ rfl rfl rfl rfl (tU rfl ?_)
   refine W.cond rfl (fun hc11 => ?_) (fun hc11 => ?_)
   · refine W.seq ?_
     refine W.l0 5 [.y 18 _] [] [] [(2,_),(3,_),(4,_),(18,_)] [(4,.var _),(3,.var _),(2,.var _),(1,.var _)] 66 ⟨aU (lU 2 rfl rfl rfl rfl rfl rfl rfl),trivial⟩ rfl rfl rfl rfl (⟨rfl,_,R.stZ (gU 2 rfl) (xU 2 rfl) rfl (gV 18 rfl) (by rfl) (by rfl) (by rfl) (by rfl) rfl,⟨rfl,_,R.stZ (gU 3 rfl) (xU 3 rfl) rfl (kN rfl) (by rfl) (by rfl) (by rfl) (by rfl) rfl,⟨rfl,_,R.stZ (gU 4 rfl) (xU 4 rfl) rfl (kN rfl) (by rfl) (by rfl) (by rfl) (by rfl) rfl,⟨rfl,_,R.asg (kI 1 rfl) rfl (nU rfl),tV [(2,_),(3,_),(4,_),(5,_)] [(4,.var _),(3,.var _),(2,.var _),(1,.var _)] 66 rfl rfl rfl ?_⟩⟩⟩⟩)
     refine W.wkB 3 (d' := .sl none 32 (([] : List Hs).map hashD)) (bx' := [(4,.var _),(3,.var _),(2,.var _),(1,.var _)]) rfl wk_hs0 rfl ?_
     refine W.wkB 4 (d' := .sl none 1 (([] : List Nat).map natD)) (bx' := [(4,.var _),(3,.var _),(2,.var _),(1,.var _)]) rfl wk_is0 rfl ?_
     refine W.ret ?_
     exact Ends.many (.inr rfl) (.cons rfl rfl rfl (show LdT _ 38 32 true from inferInstance) (.cons rfl rfl rfl (show LdT _ 22 1 false from inferInstance) (.cons rfl rfl rfl (show LdT _ 40 1 false from inferInstance) (.cons rfl rfl rfl trivial .nil)))) (by rw [chk_2 (of_decide_eq_true hc11)]; rfl) (show [(2,false),(3,false),(4,false),(5,true)].Nodup by decide)
   · refine W.seq ?_
     refine W.seq ?_
     by_cases hm1 : n < (hs.length : Int)
     · have hn2 : ¬ n > 256 := of_decide_eq_false hc11
       obtain ⟨m,rfl⟩ : ∃ m : Nat,n = ((m : Nat) : Int) := ⟨n.toNat,by omega⟩
       refine W.l0 7 [.y 20 _,.y 21 _,.y 22 _,.y 23 _,.y 24 _,.y 25 _,.y 19 _] [] [] [(1,_),(2,_),(3,_),(4,_),(19,_)] [(4,.var _),(3,.var _),(2,.var _),(1,.var _)] 66 ⟨aU (fU 1 rfl rfl),aU (lU 20 rfl rfl rfl rfl rfl rfl rfl),aU fun _ _ H K => R.lenE (SC.sl (K 21 _ rfl)) (List.length_map _) H,aU (fU 1 rfl rfl),aU (lU 23 rfl rfl rfl rfl rfl rfl rfl),aU fun _ _ H K => R.gtrN (hs.length) (m) (eU K 22 rfl) (eU K 24 rfl) H,aU fun _ _ H K => R.asg (eU K 25 rfl) rfl H,trivial⟩ rfl rfl rfl rfl (tU rfl ?_)
       refine W.condT rfl (decide_eq_true (by omega)) ?_
       refine W.skip ?_
       refine W.condT rfl (decide_eq_true (by omega)) ?_
       refine W.seq ?_
       refine W.l0 5 [.y 33 _] [] [] [(2,_),(3,_),(4,_),(33,_)] [(4,.var _),(3,.var _),(2,.var _),(1,.var _)] 66 ⟨aU (lU 2 rfl rfl rfl rfl rfl rfl rfl),trivial⟩ rfl rfl rfl rfl (⟨rfl,_,R.stZ (gU 2 rfl) (xU 2 rfl) rfl (gV 33 rfl) (by rfl) (by rfl) (by rfl) (by rfl) rfl,⟨rfl,_,R.stZ (gU 3 rfl) (xU 3 rfl) rfl (kN rfl) (by rfl) (by rfl) (by rfl) (by rfl) rfl,⟨rfl,_,R.stZ (gU 4 rfl) (xU 4 rfl) rfl (kN rfl) (by rfl) (by rfl) (by rfl) (by rfl) rfl,⟨rfl,_,R.asg (kI 6 rfl) rfl (nU rfl),tV [(2,_),(3,_),(4,_),(5,_)] [(4,.var _),(3,.var _),(2,.var _),(1,.var _)] 66 rfl rfl rfl ?_⟩⟩⟩⟩)
       refine W.wkB 3 (d' := .sl none 32 (([] : List Hs).map hashD)) (bx' := [(4,.var _),(3,.var _),(2,.var _),(1,.var _)]) rfl wk_hs0 rfl ?_
       refine W.wkB 4 (d' := .sl none 1 (([] : List Nat).map natD)) (bx' := [(4,.var _),(3,.var _),(2,.var _),(1,.var _)]) rfl wk_is0 rfl ?_
       refine W.ret ?_
       exact Ends.many (.inr rfl) (.cons rfl rfl rfl (show LdT _ 38 32 true from inferInstance) (.cons rfl rfl rfl (show LdT _ 22 1 false from inferInstance) (.cons rfl rfl rfl (show LdT _ 40 1 false from inferInstance) (.cons rfl rfl rfl trivial .nil)))) (by rw [chk_3 hn1 hn2 (.inl (by omega))]; rfl) (show [(2,false),(3,false),(4,false),(5,true)].Nodup by decide)
     · have hn2 : ¬ n > 256 := of_decide_eq_false hc11
       obtain ⟨m,rfl⟩ : ∃ m : Nat,n = ((m : Nat) : Int) := ⟨n.toNat,by omega⟩
       refine W.l0 7 [.y 20 _,.y 21 _,.y 22 _,.y 23 _,.y 24 _,.y 25 _,.y 19 _] [] [] [(1,_),(2,_),(3,_),(4,_),(19,_)] [(4,.var _),(3,.var _),(2,.var _),(1,.var _)] 66 ⟨aU (fU 1 rfl rfl),aU (lU 20 rfl rfl rfl rfl rfl rfl rfl),aU fun _ _ H K => R.lenE (SC.sl (K 21 _ rfl)) (List.length_map _) H,aU (fU 1 rfl rfl),aU (lU 23 rfl rfl rfl rfl rfl rfl rfl),aU fun _ _ H K => R.gtrN (hs.length) (m) (eU K 22 rfl) (eU K 24 rfl) H,aU fun _ _ H K => R.asg (eU K 25 rfl) rfl H,trivial⟩ rfl rfl rfl rfl (tU rfl ?_)
       refine W.condF rfl (decide_eq_false (by omega)) ?_
       refine W.l0 8 [.y 26 _,.y 27 _,.y 28 _,.y 29 _,.y 30 _,.y 31 _,.y 32 _,.y 19 _] [] [] [(1,_),(2,_),(3,_),(4,_),(19,_)] [(4,.var _),(3,.var _),(2,.var _),(1,.var _)] 66 ⟨aU (fU 1 rfl rfl),aU (lU 26 rfl rfl rfl rfl rfl rfl rfl),aU fun _ _ H K => R.lenE (SC.sl (K 27 _ rfl)) (List.length_map _) H,aU (fU 1 rfl rfl),aU (lU 29 rfl rfl rfl rfl rfl rfl rfl),aU fun _ _ H K => R.lenE (SC.sl (K 30 _ rfl)) (List.length_map _) H,aU fun _ _ H K => R.lssN (fl.length) (hs.length) (eU K 28 rfl) (eU K 31 rfl) H,aU fun _ _ H K => R.asg (eU K 32 rfl) rfl H,trivial⟩ rfl rfl rfl rfl (tU rfl ?_)
       refine W.condD rfl (fun hc19 => ?_) (fun hc19 => ?_)
       · refine W.seq ?_
         refine W.l0 5 [.y 33 _] [] [] [(2,_),(3,_),(4,_),(33,_)] [(4,.var _),(3,.var _),(2,.var _),(1,.var _)] 66 ⟨aU (lU 2 rfl rfl rfl rfl rfl rfl rfl),trivial⟩ rfl rfl rfl rfl (⟨rfl,_,R.stZ (gU 2 rfl) (xU 2 rfl) rfl (gV 33 rfl) (by rfl) (by rfl) (by rfl) (by rfl) rfl,⟨rfl,_,R.stZ (gU 3 rfl) (xU 3 rfl) rfl (kN rfl) (by rfl) (by rfl) (by rfl) (by rfl) rfl,⟨rfl,_,R.stZ (gU 4 rfl) (xU 4 rfl) rfl (kN rfl) (by rfl) (by rfl) (by rfl) (by rfl) rfl,⟨rfl,_,R.asg (kI 6 rfl) rfl (nU rfl),tV [(2,_),(3,_),(4,_),(5,_)] [(4,.var _),(3,.var _),(2,.var _),(1,.var _)] 66 rfl rfl rfl ?_⟩⟩⟩⟩)
         refine W.wkB 3 (d' := .sl none 32 (([] : List Hs).map hashD)) (bx' := [(4,.var _),(3,.var _),(2,.var _),(1,.var _)]) rfl wk_hs0 rfl ?_
         refine W.wkB 4 (d' := .sl none 1 (([] : List Nat).map natD)) (bx' := [(4,.var _),(3,.var _),(2,.var _),(1,.var _)]) rfl wk_is0 rfl ?_
         refine W.ret ?_
         exact Ends.many (.inr rfl) (.cons rfl rfl rfl (show LdT _ 38 32 true from inferInstance) (.cons rfl rfl rfl (show LdT _ 22 1 false from inferInstance) (.cons rfl rfl rfl (show LdT _ 40 1 false from inferInstance) (.cons rfl rfl rfl trivial .nil)))) (by rw [chk_3 hn1 hn2 (.inr hc19)]; rfl) (show [(2,false),(3,false),(4,false),(5,true)].Nodup by decide)
       · refine W.skip ?_
         refine W.seq ?_
         obtain ⟨hw1,hw2,hw3⟩ := wd_len (n := m) (by omega) (by omega)
         refine W.l0 5 [.y 34 _,.y 35 _,.y 36 _] [] [] [(1,_),(2,_),(3,_),(4,_),(36,_)] [(4,.var _),(3,.var _),(2,.var _),(1,.var _)] 66 ⟨aU (fU 1 rfl rfl),aU (lU 34 rfl rfl rfl rfl rfl rfl rfl),aU fun _ _ H K => R.callG hC (wide_ok m (by omega) (by omega)) (Bors.cons (Bor.pur (eU K 35 rfl) rfl rfl) Bors.nil) (FrsR.one (.sl _ _ _ (frs_map fun _ => .int _))) H,trivial⟩ rfl rfl rfl rfl (⟨rfl,_,R.alloc rfl (nU rfl),⟨rfl,_,R.stOZ (gU 6 rfl) (xU 6 rfl) rfl (gU 36 rfl) rfl rfl (by rfl) (by rfl) rfl rfl,tV [(1,_),(2,_),(3,_),(4,_),(6,_)] [(6,.var _),(4,.var _),(3,.var _),(2,.var _),(1,.var _)] 66 rfl rfl rfl ?_⟩⟩)
         refine W.seq ?_
         refine W.brwB 6 (d' := .sl none 1 ((wdI m (nRows m)).map natD)) (bx' := [(6,.var _),(4,.var _),(3,.var _),(2,.var _),(1,.var _)]) rfl (brw_nt _ _ _) rfl ?_
         refine W.drawE (m := 7) (an := [0,1,0,4,0,0,51,127]) (its := [.y 37 _,.y 38 _,.y 39 _,.y 40 _,.y 7 _,.y 8 _,⟨72,.dead,true⟩]) (ks := [(6,72)]) (kk := []) (efs := [(4,[(7,.var _)]),(5,[(8,.var _)]),(6,[(7,.var _)])]) (live := [2,3,4,6,7,8,40]) (env' := [(2,_),(3,_),(4,_),(6,_),(7,_),(8,_),(40,_)]) (nd := 40) (bx1 := [(7,.var _),(8,.var _),(6,.var _),(4,.var _),(3,.var _),(2,.var _),(1,.var _)]) hP (by decide) rfl ⟨⟨79,rfl⟩,nU rfl,rfl,rfl,rfl,rfl⟩ (              ⟨⟨rfl,nU rfl,rfl,fun _ τ hb ht hτ => R.fdP (hτ 1 _ rfl) ht⟩,⟨⟨rfl,nU rfl,rfl,fun _ τ hb ht hτ => R.ldP (hτ 37 _ rfl) (hb 1 _ rfl) rfl rfl rfl rfl ht⟩,⟨⟨rfl,nU rfl,rfl,fun _ τ hb ht hτ => R.fdP (hτ 1 _ rfl) ht⟩,⟨⟨rfl,nU rfl,rfl,fun _ τ hb ht hτ => R.ldP (hτ 39 _ rfl) (hb 1 _ rfl) rfl rfl rfl rfl ht⟩,⟨⟨rfl,rfl,⟨rfl,nU rfl⟩,(SpE.alloc rfl (nU rfl))⟩,⟨⟨rfl,rfl,⟨rfl,nU rfl⟩,(SpE.alloc rfl (nU rfl))⟩,⟨⟨rfl,rfl,rfl,(SpE.st (p := 7) (id := 7) rfl rfl rfl (fun τ hτ => (evt (hτ 38 _ rfl))) (by rfl) (by rfl) (by rfl) (by rfl) rfl)⟩,trivial⟩⟩⟩⟩⟩⟩⟩) rfl rfl rfl (n' := 66) rfl (⟨rfl,_,R.stZ (gU 8 rfl) (xU 8 rfl) rfl (gV 40 rfl) (by rfl) (by rfl) (by rfl) (by rfl) rfl,⟨[2,3,4,6,7,8],[(2,_),(3,_),(4,_),(6,_),(7,_),(8,_)],[(7,.var _),(8,.var _),(6,.var _),(4,.var _),(3,.var _),(2,.var _),(1,.var _)],66,rfl,rfl,rfl, ?_⟩⟩)
         refine W.seq ?_
         refine W.l0 1 [] [] [] [(2,_),(3,_),(4,_),(6,_),(7,_),(8,_)] [(7,.var _),(8,.var _),(6,.var _),(4,.var _),(3,.var _),(2,.var _),(1,.var _)] 66 trivial rfl rfl rfl rfl (⟨rfl,_,R.alloc rfl (nU rfl),tV [(2,_),(3,_),(4,_),(6,_),(7,_),(8,_),(9,_)] [(9,.var _),(7,.var _),(8,.var _),(6,.var _),(4,.var _),(3,.var _),(2,.var _),(1,.var _)] 66 rfl rfl rfl ?_⟩)
         refine W.seq ?_
         refine W.l0 2 [.y 41 _] [] [] [(2,_),(3,_),(4,_),(6,_),(7,_),(8,_),(9,_),(41,_)] [(9,.var _),(7,.var _),(8,.var _),(6,.var _),(4,.var _),(3,.var _),(2,.var _),(1,.var _)] 66 ⟨aU fun _ _ H K => R.mkfnL (EvFs.cons (eU K 7 rfl) rfl rfl (EvFs.cons (eU K 8 rfl) rfl rfl (EvFs.cons (eU K 3 rfl) rfl rfl (EvFs.cons (eU K 4 rfl) rfl rfl (EvFs.cons (eU K 9 rfl) rfl rfl (EvFs.cons (eU K 6 rfl) rfl rfl EvFs.nil)))))) H,trivial⟩ rfl rfl rfl rfl (⟨rfl,_,R.stP (gU 9 rfl) (xU 9 rfl) rfl (gV 41 rfl) rfl rfl (by rfl) (by rfl) rfl,tV [(2,_),(3,_),(4,_),(6,_),(7,_),(8,_),(9,_)] [(9,.var _),(7,.var _),(8,.var _),(6,.var _),(4,.var _),(3,.var _),(2,.var _),(1,.var _)] 66 rfl rfl rfl ?_⟩)
         refine W.seq ?_
         refine W.asOwnP 3 [] 38 32 (bx' := [(9,.var _),(7,.var _),(8,.var _),(6,.var _),(4,.var _),(3,.var _),(2,.var _),(1,.var _)]) rfl rfl rfl rfl rfl ?_
         refine W.asOwnP 4 [] 3 1 (bx' := [(9,.var _),(7,.var _),(8,.var _),(6,.var _),(4,.var _),(3,.var _),(2,.var _),(1,.var _)]) rfl rfl rfl rfl rfl ?_
         obtain ⟨⟨a,x⟩,fl1,hs1,ids1,at1,hX⟩ : ∃ o_ f_ h_ i_ a_,ckW (wdI m (nRows m)) ((wdI m (nRows m)).length - 1) 0 (fl,hs,[],[]) = (o_,f_,h_,i_,a_) := ⟨_,_,_,_,_,rfl⟩
         obtain ⟨ho1,ho2,ho3,ho4,ho5,_⟩ := hX ▸ ckW_ok (wdI m (nRows m)) ((wdI m (nRows m)).length - 1) 0 (fl,hs,[],[]) hh
         simp only [List.length_nil] at ho1 ho3 ho4 ho5
         refine W.l0 10 [.y 43 _,.y 44 _,.y 45 _,.y 46 _] [] [] [(2,_),(3,_),(4,_),(7,_),(8,_),(43,_),(46,_)] [(9,.var _),(7,.var _),(8,.var _),(6,.var _),(4,.var _),(3,.var _),(2,.var _),(1,.var _)] 66 ⟨aU (lU 9 rfl rfl rfl rfl rfl rfl rfl),aU (lU 6 rfl rfl rfl rfl rfl rfl rfl),aU fun _ _ H K => R.lenE (SC.sl (K 44 _ rfl)) (List.length_map _) H,aU fun _ _ H K => R.subN ((wdI m (nRows m)).length) (1) (eU K 45 rfl) (kI 1 rfl) bU bU H,trivial⟩ rfl rfl rfl rfl (⟨rfl,_,R.callVB (ds := [.int ((((wdI m (nRows m)).length - 1) : Nat) : Int),.int ((0 : Nat) : Int)]) (caps := [.ptr 0 0 [],.ptr 1 0 [],.ptr 2 0 [],.ptr 3 0 [],.ptr 4 0 [],.ptr 5 0 []]) [(0,7),(1,8),(2,3),(3,4),(4,9),(5,6)] hC (gU 43 rfl) rfl rfl (show FnB Tryd.prog gl 29 [.int ((((wdI m (nRows m)).length - 1) : Nat) : Int),.int ((0 : Nat) : Int),.ptr 0 0 [],.ptr 1 0 [],.ptr 2 0 [],.ptr 3 0 [],.ptr 4 0 [],.ptr 5 0 []] [(0,.var (.sl none 1 (fl.map D.bool))),(1,.var (.sl none 32 (hs.map hashD))),(2,.var (.sl (some 38) 32 (([] : List Hs).map hashD))),(3,.var (.sl (some 3) 1 (([] : List Nat).map natD))),(4,.var (.fn 29 [.ptr 0 0 [],.ptr 1 0 [],.ptr 2 0 [],.ptr 3 0 [],.ptr 4 0 [],.ptr 5 0 []])),(5,.var (.sl none 1 ((wdI m (nRows m)).map natD)))] (.tup [hashD a,.bool x]) [(0,.var (.sl none 1 (fl1.map D.bool))),(1,.var (.sl none 32 (hs1.map hashD))),(2,.var (.sl (some 38) 32 (ids1.map hashD))),(3,.var (.sl (some 3) 1 (at1.map natD))),(4,.var (.fn 29 [.ptr 0 0 [],.ptr 1 0 [],.ptr 2 0 [],.ptr 3 0 [],.ptr 4 0 [],.ptr 5 0 []])),(5,.var (.sl none 1 ((wdI m (nRows m)).map natD)))] [] from by have h := ck_call (m := m) (by omega) (by omega) hh (by omega) hf0; unfold CwP at h; rw [hX] at h; exact h) (EvB.cons (gV 46 rfl) rfl rfl rfl (EvB.cons (kI 0 rfl) rfl rfl rfl EvB.nil)) rfl ⟨rfl,⟨rfl,⟨rfl,⟨rfl,⟨rfl,⟨rfl,trivial⟩⟩⟩⟩⟩⟩ ⟨rfl,⟨rfl,⟨rfl,⟨rfl,⟨rfl,⟨rfl,trivial⟩⟩⟩⟩⟩⟩ rfl rfl rfl rfl rfl rfl (nU rfl),⟨rfl,_,R.movT (gU 47 rfl) rfl (nU rfl),⟨rfl,_,R.ext (gU 42 rfl) rfl rfl (nU rfl),⟨rfl,_,R.ext (gU 42 rfl) rfl rfl (nU rfl),⟨rfl,_,R.stZ (gU 2 rfl) (xU 2 rfl) rfl (gV 48 rfl) (by rfl) (by rfl) (by rfl) (by rfl) rfl,⟨rfl,_,R.asg (gV 49 rfl) rfl (nU rfl),tV [(2,_),(3,_),(4,_),(7,_),(8,_),(10,_)] [(9,.var _),(7,.var _),(8,.var _),(6,.var _),(4,.var _),(3,.var _),(2,.var _),(1,.var _)] 66 rfl rfl rfl ?_⟩⟩⟩⟩⟩⟩)
         refine W.seq ?_
         refine W.seq ?_
         by_cases hx : x = true
         · by_cases hf1 : fl1.length = 0
           · refine W.l0 12 [.y 50 _,.y 51 _,.y 52 _,.y 53 _,.y 54 _,.y 55 _,.y 56 _,.y 57 _,.y 58 _,.y 59 _,.y 60 _,.y 61 _] [] [] [(2,_),(3,_),(4,_),(61,_)] [(9,.var _),(7,.var _),(8,.var _),(6,.var _),(4,.var _),(3,.var _),(2,.var _),(1,.var _)] 66 ⟨mU 10 rfl rfl,aU fun _ _ H K => R.un (eU K 50 rfl) rfl H,mU 51 rfl rfl,aW rfl rfl (gF (by rw [hx]; rfl) rfl) (lU 7 rfl rfl rfl rfl rfl rfl rfl),aW rfl rfl (gF (by rw [hx]; rfl) rfl) fun _ _ H K => R.lenE (SC.sl (K 53 _ rfl)) (List.length_map _) H,aW rfl rfl (gF (by rw [hx]; rfl) rfl) fun _ _ H K => R.gtrN (fl1.length) (0) (eU K 54 rfl) (kI 0 rfl) H,aU fun _ _ H K => R.pickF (eU K 52 rfl) (by rw [hx]; rfl) (eU K 55 rfl) rfl H,mU 56 rfl rfl,aW rfl rfl (gF (decide_eq_false (by omega)) rfl) (lU 8 rfl rfl rfl rfl rfl rfl rfl),aW rfl rfl (gF (decide_eq_false (by omega)) rfl) fun _ _ H K => R.lenE (SC.sl (K 58 _ rfl)) (List.length_map _) H,aW rfl rfl (gF (decide_eq_false (by omega)) rfl) fun _ _ H K => R.gtrN (hs1.length) (0) (eU K 59 rfl) (kI 0 rfl) H,aU fun _ _ H K => R.pickF (eU K 57 rfl) (decide_eq_false (by omega)) (eU K 60 rfl) rfl H,trivial⟩ rfl rfl rfl rfl (tU rfl ?_)
             refine W.condD rfl (fun hc61 => ?_) (fun hc61 => ?_)
             · refine W.seq ?_
               refine W.brwB 3 (d' := .sl none 32 (ids1.map hashD)) (bx' := [(9,.var _),(7,.var _),(8,.var _),(6,.var _),(4,.var _),(3,.var _),(2,.var _),(1,.var _)]) rfl (brw_hs _ _ _) rfl ?_
               refine W.brwB 4 (d' := .sl none 1 (at1.map natD)) (bx' := [(9,.var _),(7,.var _),(8,.var _),(6,.var _),(4,.var _),(3,.var _),(2,.var _),(1,.var _)]) rfl (brw_nt _ _ _) rfl ?_
               refine W.l0 5 [.y 62 _] [] [] [(2,_),(3,_),(4,_),(62,_)] [(9,.var _),(7,.var _),(8,.var _),(6,.var _),(4,.var _),(3,.var _),(2,.var _),(1,.var _)] 66 ⟨aU fun _ _ H _ => R.bldAZ rfl H,trivial⟩ rfl rfl rfl rfl (⟨rfl,_,R.stZ (gU 2 rfl) (xU 2 rfl) rfl (gV 62 rfl) (by rfl) (by rfl) (by rfl) (by rfl) rfl,⟨rfl,_,R.stZ (gU 3 rfl) (xU 3 rfl) rfl (kN rfl) (by rfl) (by rfl) (by rfl) (by rfl) rfl,⟨rfl,_,R.stZ (gU 4 rfl) (xU 4 rfl) rfl (kN rfl) (by rfl) (by rfl) (by rfl) (by rfl) rfl,⟨rfl,_,R.asg (kI 15 rfl) rfl (nU rfl),tV [(2,_),(3,_),(4,_),(5,_)] [(9,.var _),(7,.var _),(8,.var _),(6,.var _),(4,.var _),(3,.var _),(2,.var _),(1,.var _)] 66 rfl rfl rfl ?_⟩⟩⟩⟩)
               refine W.wkB 3 (d' := .sl none 32 (([] : List Hs).map hashD)) (bx' := [(9,.var _),(7,.var _),(8,.var _),(6,.var _),(4,.var _),(3,.var _),(2,.var _),(1,.var _)]) rfl wk_hs0 rfl ?_
               refine W.wkB 4 (d' := .sl none 1 (([] : List Nat).map natD)) (bx' := [(9,.var _),(7,.var _),(8,.var _),(6,.var _),(4,.var _),(3,.var _),(2,.var _),(1,.var _)]) rfl wk_is0 rfl ?_
               refine W.ret ?_
               exact Ends.many (.inr rfl) (.cons rfl rfl rfl (show LdT _ 38 32 true from inferInstance) (.cons rfl rfl rfl (show LdT _ 22 1 false from inferInstance) (.cons rfl rfl rfl (show LdT _ 40 1 false from inferInstance) (.cons rfl rfl rfl trivial .nil)))) (by rw [chk_4 hn1 hn2 (by omega) hc19 hX (by rintro ⟨_,_,h⟩; omega)]; rfl) (show [(2,false),(3,false),(4,false),(5,true)].Nodup by decide)
             · refine W.skip ?_
               refine W.seq ?_
               refine W.brwB 3 (d' := .sl none 32 (ids1.map hashD)) (bx' := [(9,.var _),(7,.var _),(8,.var _),(6,.var _),(4,.var _),(3,.var _),(2,.var _),(1,.var _)]) rfl (brw_hs _ _ _) rfl ?_
               refine W.brwB 4 (d' := .sl none 1 (at1.map natD)) (bx' := [(9,.var _),(7,.var _),(8,.var _),(6,.var _),(4,.var _),(3,.var _),(2,.var _),(1,.var _)]) rfl (brw_nt _ _ _) rfl ?_
               refine W.drawE (m := 5) (an := [0,0,0,1,11,31,63]) (its := [.y 63 _,.y 64 _,.y 65 _,⟨69,.dead,true⟩,⟨70,.dead,true⟩]) (ks := [(3,69),(4,70)]) (kk := []) (efs := [(3,[(2,.var _)]),(4,[(3,.var _)])]) (live := [2,3,4,65]) (env' := [(2,_),(3,_),(4,_),(65,_)]) (nd := 40) (bx1 := [(3,.var _),(2,.var _),(9,.var _),(7,.var _),(8,.var _),(6,.var _),(4,.var _),(1,.var _)]) hP (by decide) rfl ⟨⟨78,rfl⟩,nU rfl,rfl,rfl,rfl,rfl⟩ (                    ⟨⟨rfl,nU rfl,rfl,fun _ τ hb ht hτ => R.ldP (hτ 2 _ rfl) (hb 2 _ rfl) rfl rfl rfl rfl ht⟩,⟨⟨rfl,nU rfl,rfl,fun _ τ hb ht hτ => R.ldP (hτ 3 _ rfl) (hb 3 _ rfl) rfl rfl rfl rfl ht⟩,⟨⟨rfl,nU rfl,rfl,fun _ τ hb ht hτ => R.ldP (hτ 4 _ rfl) (hb 4 _ rfl) rfl rfl rfl rfl ht⟩,⟨⟨rfl,rfl,rfl,(SpE.st (p := 2) (id := 2) rfl rfl rfl (fun τ hτ => (evt (hτ 63 _ rfl))) (by rfl) (by rfl) (by rfl) (by rfl) rfl)⟩,⟨⟨rfl,rfl,rfl,(SpE.st (p := 3) (id := 3) rfl rfl rfl (fun τ hτ => (evt (hτ 64 _ rfl))) (by rfl) (by rfl) (by rfl) (by rfl) rfl)⟩,trivial⟩⟩⟩⟩⟩) rfl rfl rfl (n' := 66) rfl (⟨rfl,_,R.stZ (gU 4 rfl) (xU 4 rfl) rfl (gV 65 rfl) (by rfl) (by rfl) (by rfl) (by rfl) rfl,⟨rfl,_,R.asg (kI 0 rfl) rfl (nU rfl),⟨[2,3,4,5],[(2,_),(3,_),(4,_),(5,_)],[(3,.var _),(2,.var _),(9,.var _),(7,.var _),(8,.var _),(6,.var _),(4,.var _),(1,.var _)],66,rfl,rfl,rfl, ?_⟩⟩⟩)
               refine W.ret ?_
               exact Ends.many (.inr rfl) (.cons rfl rfl rfl (show LdT _ 38 32 true from inferInstance) (.cons rfl rfl rfl (show LdT _ 22 1 false from inferInstance) (.cons rfl rfl rfl (show LdT _ 40 1 false from inferInstance) (.cons rfl rfl rfl trivial .nil)))) (by rw [chk_5 hn1 hn2 (by omega) hc19 hX hx hf1 (by omega)]; rfl) (show [(2,false),(3,false),(4,false),(5,true)].Nodup by decide)
           · refine W.l0 12 [.y 50 _,.y 51 _,.y 52 _,.y 53 _,.y 54 _,.y 55 _,.y 56 _,.y 57 _,.x 58,.x 59,.x 60,.y 61 _] [] [] [(2,_),(3,_),(4,_),(61,_)] [(9,.var _),(7,.var _),(8,.var _),(6,.var _),(4,.var _),(3,.var _),(2,.var _),(1,.var _)] 66 ⟨mU 10 rfl rfl,aU fun _ _ H K => R.un (eU K 50 rfl) rfl H,mU 51 rfl rfl,aW rfl rfl (gF (by rw [hx]; rfl) rfl) (lU 7 rfl rfl rfl rfl rfl rfl rfl),aW rfl rfl (gF (by rw [hx]; rfl) rfl) fun _ _ H K => R.lenE (SC.sl (K 53 _ rfl)) (List.length_map _) H,aW rfl rfl (gF (by rw [hx]; rfl) rfl) fun _ _ H K => R.gtrN (fl1.length) (0) (eU K 54 rfl) (kI 0 rfl) H,aU fun _ _ H K => R.pickF (eU K 52 rfl) (by rw [hx]; rfl) (eU K 55 rfl) rfl H,mU 56 rfl rfl,aF rfl rfl (gT (decide_eq_true (by omega)) rfl),aF rfl rfl (gT (decide_eq_true (by omega)) rfl),aF rfl rfl (gT (decide_eq_true (by omega)) rfl),aU fun _ _ H K => R.pickT (eU K 57 rfl) (decide_eq_true (by omega)) (kB true rfl) rfl H,trivial⟩ rfl rfl rfl rfl (tU rfl ?_)
             refine W.condT rfl (rfl) ?_
             refine W.seq ?_
             refine W.brwB 3 (d' := .sl none 32 (ids1.map hashD)) (bx' := [(9,.var _),(7,.var _),(8,.var _),(6,.var _),(4,.var _),(3,.var _),(2,.var _),(1,.var _)]) rfl (brw_hs _ _ _) rfl ?_
             refine W.brwB 4 (d' := .sl none 1 (at1.map natD)) (bx' := [(9,.var _),(7,.var _),(8,.var _),(6,.var _),(4,.var _),(3,.var _),(2,.var _),(1,.var _)]) rfl (brw_nt _ _ _) rfl ?_
             refine W.l0 5 [.y 62 _] [] [] [(2,_),(3,_),(4,_),(62,_)] [(9,.var _),(7,.var _),(8,.var _),(6,.var _),(4,.var _),(3,.var _),(2,.var _),(1,.var _)] 66 ⟨aU fun _ _ H _ => R.bldAZ rfl H,trivial⟩ rfl rfl rfl rfl (⟨rfl,_,R.stZ (gU 2 rfl) (xU 2 rfl) rfl (gV 62 rfl) (by rfl) (by rfl) (by rfl) (by rfl) rfl,⟨rfl,_,R.stZ (gU 3 rfl) (xU 3 rfl) rfl (kN rfl) (by rfl) (by rfl) (by rfl) (by rfl) rfl,⟨rfl,_,R.stZ (gU 4 rfl) (xU 4 rfl) rfl (kN rfl) (by rfl) (by rfl) (by rfl) (by rfl) rfl,⟨rfl,_,R.asg (kI 15 rfl) rfl (nU rfl),tV [(2,_),(3,_),(4,_),(5,_)] [(9,.var _),(7,.var _),(8,.var _),(6,.var _),(4,.var _),(3,.var _),(2,.var _),(1,.var _)] 66 rfl rfl rfl ?_⟩⟩⟩⟩)
             refine W.wkB 3 (d' := .sl none 32 (([] : List Hs).map hashD)) (bx' := [(9,.var _),(7,.var _),(8,.var _),(6,.var _),(4,.var _),(3,.var _),(2,.var _),(1,.var _)]) rfl wk_hs0 rfl ?_
             refine W.wkB 4 (d' := .sl none 1 (([] : List Nat).map natD)) (bx' := [(9,.var _),(7,.var _),(8,.var _),(6,.var _),(4,.var _),(3,.var _),(2,.var _),(1,.var _)]) rfl wk_is0 rfl ?_
             refine W.ret ?_
             exact Ends.many (.inr rfl) (.cons rfl rfl rfl (show LdT _ 38 32 true from inferInstance) (.cons rfl rfl rfl (show LdT _ 22 1 false from inferInstance) (.cons rfl rfl rfl (show LdT _ 40 1 false from inferInstance) (.cons rfl rfl rfl trivial .nil)))) (by rw [chk_4 hn1 hn2 (by omega) hc19 hX (by rintro ⟨_,h,_⟩; omega)]; rfl) (show [(2,false),(3,false),(4,false),(5,true)].Nodup by decide)
         · refine W.l0 12 [.y 50 _,.y 51 _,.y 52 _,.x 53,.x 54,.x 55,.y 56 _,.y 57 _,.x 58,.x 59,.x 60,.y 61 _] [] [] [(2,_),(3,_),(4,_),(61,_)] [(9,.var _),(7,.var _),(8,.var _),(6,.var _),(4,.var _),(3,.var _),(2,.var _),(1,.var _)] 66 ⟨mU 10 rfl rfl,aU fun _ _ H K => R.un (eU K 50 rfl) rfl H,mU 51 rfl rfl,aF rfl rfl (gT (by rw [bfalse hx]; rfl) rfl),aF rfl rfl (gT (by rw [bfalse hx]; rfl) rfl),aF rfl rfl (gT (by rw [bfalse hx]; rfl) rfl),aU fun _ _ H K => R.pickT (eU K 52 rfl) (by rw [bfalse hx]; rfl) (kB true rfl) rfl H,mU 56 rfl rfl,aF rfl rfl (gT (rfl) rfl),aF rfl rfl (gT (rfl) rfl),aF rfl rfl (gT (rfl) rfl),aU fun _ _ H K => R.pickT (eU K 57 rfl) (rfl) (kB true rfl) rfl H,trivial⟩ rfl rfl rfl rfl (tU rfl ?_)
           refine W.condT rfl (rfl) ?_
           refine W.seq ?_
           refine W.brwB 3 (d' := .sl none 32 (ids1.map hashD)) (bx' := [(9,.var _),(7,.var _),(8,.var _),(6,.var _),(4,.var _),(3,.var _),(2,.var _),(1,.var _)]) rfl (brw_hs _ _ _) rfl ?_
           refine W.brwB 4 (d' := .sl none 1 (at1.map natD)) (bx' := [(9,.var _),(7,.var _),(8,.var _),(6,.var _),(4,.var _),(3,.var _),(2,.var _),(1,.var _)]) rfl (brw_nt _ _ _) rfl ?_
           refine W.l0 5 [.y 62 _] [] [] [(2,_),(3,_),(4,_),(62,_)] [(9,.var _),(7,.var _),(8,.var _),(6,.var _),(4,.var _),(3,.var _),(2,.var _),(1,.var _)] 66 ⟨aU fun _ _ H _ => R.bldAZ rfl H,trivial⟩ rfl rfl rfl rfl (⟨rfl,_,R.stZ (gU 2 rfl) (xU 2 rfl) rfl (gV 62 rfl) (by rfl) (by rfl) (by rfl) (by rfl) rfl,⟨rfl,_,R.stZ (gU 3 rfl) (xU 3 rfl) rfl (kN rfl) (by rfl) (by rfl) (by rfl) (by rfl) rfl,⟨rfl,_,R.stZ (gU 4 rfl) (xU 4 rfl) rfl (kN rfl) (by rfl) (by rfl) (by rfl) (by rfl) rfl,⟨rfl,_,R.asg (kI 15 rfl) rfl (nU rfl),tV [(2,_),(3,_),(4,_),(5,_)] [(9,.var _),(7,.var _),(8,.var _),(6,.var _),(4,.var _),(3,.var _),(2,.var _),(1,.var _)] 66 rfl rfl rfl ?_⟩⟩⟩⟩)
           refine W.wkB 3 (d' := .sl none 32 (([] : List Hs).map hashD)) (bx' := [(9,.var _),(7,.var _),(8,.var _),(6,.var _),(4,.var _),(3,.var _),(2,.var _),(1,.var _)]) rfl wk_hs0 rfl ?_
           refine W.wkB 4 (d' := .sl none 1 (([] : List Nat).map natD)) (bx' := [(9,.var _),(7,.var _),(8,.var _),(6,.var _),(4,.var _),(3,.var _),(2,.var _),(1,.var _)]) rfl wk_is0 rfl ?_
           refine W.ret ?_
           exact Ends.many (.inr rfl) (.cons rfl rfl rfl (show LdT _ 38 32 true from inferInstance) (.cons rfl rfl rfl (show LdT _ 22 1 false from inferInstance) (.cons rfl rfl rfl (show LdT _ 40 1 false from inferInstance) (.cons rfl rfl rfl trivial .nil)))) (by rw [chk_4 hn1 hn2 (by omega) hc19 hX (by rintro ⟨h,_,_⟩; exact hx h)]; rfl) (show [(2,false),(3,false),(4,false),(5,true)].Nodup by decide)

end Go.Sx

namespace Go.Sx

variable {P : Program} {C : Ctx} {σ σ' σ1 σ2 : Sg} {a : Act} {w w' : World} {ρ ρ2 : Nat → Nat} {Fe Fe' Fb Fb2 : Nat → List Nat}

end Go.Sx
