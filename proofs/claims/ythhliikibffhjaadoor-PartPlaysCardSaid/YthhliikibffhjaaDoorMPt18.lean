/- Proved: what functions of the given program compute (used by the theorem of this claim). Conditions: none but those that each theorem states. -/
import Derived.Test.YthhliikibffhjaaDoorMSxBs2
import Derived.Test.YthhliikibffhjaaDoorMPt15
import Derived.Test.YthhliikibffhjaaDoorMPt5
set_option linter.unusedVariables false
set_option linter.unusedSimpArgs false
set_option linter.unnecessarySimpa false

namespace Go.Sx
open Go.Proofs
theorem rrows_ok (l : List Hs) (hl : allH l) (h0 : 0 < l.length) (hl0 : l.length ≤ 1000) : Fn Tryd.prog gl 26 [.sl none 32 (l.map hashD)] (.sl none 1 ((rowsL joinR l (nRows l.length)).map hsD)) := by
 refine Fn.of (n := 51) Tryd.func26 rfl rfl rfl (nU rfl) fun C hC hD => ?_
 refine W.seq ?_
 refine W.l0 1 [.y 2 _] [] [] [(0,_)] [] 51 ⟨aU fun _ _ H _ => R.asg (kN O) O H,trivial⟩ O O O O (tU O ?_)
 refine W.seq ?_
 refine W.l0 3 [.y 7 _,.y 8 _,.y 3 _] [(2,8)] [(2,8)] [(3,_)] [] 51 ⟨mU 0 O O,aU fun _ _ H K => R.bslE (z := 1) (.cons (eU K 7 O) .nil) ⟨⟨O,O,O⟩,trivial⟩ O H (by decide),aU fun _ _ H K => R.asgO (K 8 _ O) O H (by decide),trivial⟩ O O O O (tU O ?_)
 refine W.seq ?_
 refine W.block ?_
 refine W.loop (α := {q__ : Nat // q__ + nRows (rowA joinR l q__).length = nRows l.length}) (fun q__ => ⟨51,[(3,.sl (some 22) 1 ((rowsL joinR l (q__.1 + 1)).map hsD))],[]⟩) (fun q__ => nRows l.length - q__.1) ⟨(0),(by show 0 + _ = _; rw [Nat.zero_add]; rfl)⟩ O ?_
 rintro ⟨k,hk⟩
 show W _ _ _ _ ⟨51,[(3,.sl (some 22) 1 ((rowsL joinR l (k + 1)).map hsD))],[]⟩
 have hrl := rowA_len joinR l k
 have hle := lenA_le l.length k
 have hra := rowA_all joinR_len hl k
 have hrp := rowA_pos1 joinR h0 k
 have hnl := nRows_le l.length
 have hsl := rowsL_len joinR l (k + 1)
 have hk : k + nRows (rowA joinR l k).length = nRows l.length := hk
 have hkp := nRows_pos (n := (rowA joinR l k).length) hrp
 refine W.seq ?_
 refine W.seq ?_
 refine W.l0 8 [.y 9 _,.y 10 _,.y 11 _,.y 12 _,.y 13 _,.y 14 _,.y 15 _,.y 16 _] [] [] [(3,_),(16,_)] [] 51 ⟨aU fun _ _ H K => R.al (K 3 _ O) H (by decide),aU fun _ _ H K => R.al (K 3 _ O) H (by decide),aU fun _ _ H K => R.lenE (SC.al (K 10 _ O) (K 3 _ O)) (List.length_map _) H,aU fun _ _ H K => R.subN ((rowsL joinR l (k + 1)).length) (1) (eU K 11 O) (kI 1 O) bU bU H,aU fun _ _ H K => R.idxN (((rowsL joinR l (k + 1)).length - 1)) (SC.al (K 9 _ O) (K 3 _ O)) (evoI (eU K 12 O)) O bU H (by decide),aU fun _ _ H K => R.ldE (K 13 _ O) (SC.al (K 9 _ O) (K 3 _ O)) (rowsL_lastM joinR l k) O O O O H,aU fun _ _ H K => R.lenE (SC.sl (K 14 _ O)) (List.length_map _) H,aU fun _ _ H K => R.gtrN ((rowA joinR l k).length) (1) (eU K 15 O) (kI 1 O) H,trivial⟩ O O O O (tU O ?_)
 refine W.condD O (fun hc16 => ?_) (fun hc16 => ?_)
 · refine W.skip ?_
   refine W.block ?_
   refine W.seq ?_
   refine W.l0 7 [.y 17 _,.y 18 _,.y 19 _,.y 20 _,.y 21 _,.y 22 _,.y 4 _] [] [] [(3,_),(4,_)] [] 51 ⟨aU fun _ _ H K => R.al (K 3 _ O) H (by decide),aU fun _ _ H K => R.al (K 3 _ O) H (by decide),aU fun _ _ H K => R.lenE (SC.al (K 18 _ O) (K 3 _ O)) (List.length_map _) H,aU fun _ _ H K => R.subN ((rowsL joinR l (k + 1)).length) (1) (eU K 19 O) (kI 1 O) bU bU H,aU fun _ _ H K => R.idxN (((rowsL joinR l (k + 1)).length - 1)) (SC.al (K 17 _ O) (K 3 _ O)) (evoI (eU K 20 O)) O bU H (by decide),aU fun _ _ H K => R.ldE (K 21 _ O) (SC.al (K 17 _ O) (K 3 _ O)) (rowsL_lastM joinR l k) O O O O H,aU fun _ _ H K => R.asg (eU K 22 O) O H,trivial⟩ O O O O (tU O ?_)
   refine W.seq ?_
   refine W.l0 1 [.y 5 _] [] [] [(3,_),(4,_),(5,_)] [] 51 ⟨aU fun _ _ H _ => R.asg (kN O) O H,trivial⟩ O O O O (tU O ?_)
   refine W.seq ?_
   refine W.seq ?_
   refine W.l0 1 [.y 6 _] [] [] [(3,_),(4,_),(5,_),(6,_)] [] 51 ⟨aU fun _ _ H _ => R.asg (kI 0 O) O H,trivial⟩ O O O O (tU O ?_)
   refine W.block ?_
   refine W.asOwn (s := 5) 38 32 O ?_
   refine W.loop (α := {q__ : Nat // q__ ≤ ((rowA joinR l k).length + 1) / 2}) (fun q__ => ⟨51,[(3,.sl (some 22) 1 ((rowsL joinR l (k + 1)).map hsD)),(4,.sl none 32 ((rowA joinR l k).map hashD)),(5,.sl (some 38) 32 ((upI joinR (rowA joinR l k) q__.1).map hashD)),(6,.int ((2 * q__.1 : Nat) : Int))],[]⟩) (fun q__ => ((rowA joinR l k).length + 1) / 2 - q__.1) ⟨(0),bU⟩ O ?_
   rintro ⟨i,hi⟩
   show W _ _ _ _ ⟨51,[(3,.sl (some 22) 1 ((rowsL joinR l (k + 1)).map hsD)),(4,.sl none 32 ((rowA joinR l k).map hashD)),(5,.sl (some 38) 32 ((upI joinR (rowA joinR l k) i).map hashD)),(6,.int ((2 * i : Nat) : Int))],[]⟩
   have hul := upI_len joinR (rowA joinR l k) i
   refine W.seq ?_
   refine W.seq ?_
   refine W.l0 4 [.y 23 _,.y 24 _,.y 25 _,.y 26 _] [] [] [(3,_),(4,_),(5,_),(6,_),(26,_)] [] 51 ⟨mU 6 O O,mU 4 O O,aU fun _ _ H K => R.lenE (SC.sl (K 24 _ O)) (List.length_map _) H,aU fun _ _ H K => R.lssN (2 * i) ((rowA joinR l k).length) (eU K 23 O) (eU K 25 O) H,trivial⟩ O O O O (tU O ?_)
   refine W.condD O (fun hc26 => ?_) (fun hc26 => ?_)
   · refine W.skip ?_
     refine W.seq ?_
     refine W.block ?_
     refine W.draw (m := 18) (an := [0,0,0,6,14,0,0,64,0,256,768,1984,4064,8160,16382,32766,65535,131071]) hP (by decide) O (its := [.y 29 _,.y 30 _,.y 31 _,.y 32 _,.y 33 _,.y 34 _,.y 35 _,.y 36 _,.y 37 _,.y 38 _,.y 39 _,.y 40 _,.y 41 _,.y 42 _,.y 43 _,.y 44 _,.y 45 _,.y 5 _]) (ks := [(16,5),(17,45),(17,29)]) (kk := [(16,5),(17,45)]) (live := [3,4,5,6]) (env' := [(3,_),(4,_),(5,_),(6,_)]) (⟨nU O,O,⟨aU fun _ _ H K => R.al (K 5 _ O) H (by decide),mU 4 O O,mU 6 O O,aU fun _ _ H K => R.idxN (2 * i) (SC.sl (K 30 _ O)) (evoI (eU K 31 O)) O bU H (by decide),aU fun _ _ H K => R.ldE (K 32 _ O) (SC.sl (K 30 _ O)) (map_get! (l := (rowA joinR l k)) bU) O O O O H,mU 4 O O,mU 6 O O,aU fun _ _ H K => R.addN (2 * i) (1) (eU K 35 O) (kI 1 O) bU H,mU 4 O O,aU fun _ _ H K => R.lenE (SC.sl (K 37 _ O)) (List.length_map _) H,aU fun _ _ H K => R.subN ((rowA joinR l k).length) (1) (eU K 38 O) (kI 1 O) bU bU H,aU fun _ _ H K => R.minI (r := ((min (2 * i + 1) ((rowA joinR l k).length - 1) : Nat) : Int)) (eU K 36 O) (eU K 39 O) (by omega) H,aU fun _ _ H K => R.idxN (min (2 * i + 1) ((rowA joinR l k).length - 1)) (SC.sl (K 34 _ O)) (evoI (eU K 40 O)) O bU H (by decide),aU fun _ _ H K => R.ldE (K 41 _ O) (SC.sl (K 34 _ O)) (map_get! (l := (rowA joinR l k)) bU) O O O O H,aU fun _ _ H K => R.callG hC (rjoin_ok _ _ (hra.get (by omega)) (hra.get (by omega))) (Bors.cons (Bor.pur (eU K 33 O) O O) (Bors.cons (Bor.pur (eU K 42 O) O O) Bors.nil)) (FrsR.one (frs_hash _)) H,aU fun _ _ H K => R.bslE (z := 32) (.cons (eU K 43 O) .nil) ⟨⟨O,O,O⟩,trivial⟩ O H (by decide),aU fun _ _ H K => R.appE (Or.inr (K 29 _ O)) (K 5 _ O) (SrcO.sc (SC.sl (K 44 _ O)) (pur_lit O)) (show _ = ((upI joinR (rowA joinR l k) (i + 1)).map hashD) from (by rw [upI_snoc,List.map_append]; rfl)) bU H (by decide) (by decide),aU fun _ _ H K => R.asgO (K 45 _ O) O H (by decide),trivial⟩,O,O,O⟩) O (bx' := []) O (n' := 51) O (tV [(3,_),(4,_),(5,_),(6,_)] [] 51 O O O ?_)
     refine W.l0 3 [.y 27 _,.y 28 _,.y 6 _] [] [] [(3,_),(4,_),(5,_),(6,_)] [] 51 ⟨mU 6 O O,aU fun _ _ H K => R.addN (2 * i) (2) (eU K 27 O) (kI 2 O) bU H,aU fun _ _ H K => R.asg (eU K 28 O) O H,trivial⟩ O O O O (tU O ?_)
     exact ⟨⟨(i + 1),bU⟩,rfl,(by simp only []; omega)⟩
   · obtain rfl : i = ((rowA joinR l k).length + 1) / 2 := by omega
     refine W.exit ?_
     refine W.frzS (s := 5) (d' := .sl none 32 ((rowA joinR l (k + 1)).map hashD)) O O (brw_hs _ _ _) ?_
     refine W.l0 5 [.y 46 _,.y 47 _,.y 48 _,.y 49 _,.y 3 _] [(3,3),(4,49),(4,46)] [(3,3),(4,49)] [(3,_)] [] 51 ⟨aU fun _ _ H K => R.al (K 3 _ O) H (by decide),mU 5 O O,aU fun _ _ H K => R.bslE (z := 1) (.cons (eU K 47 O) .nil) ⟨⟨O,O,O⟩,trivial⟩ O H (by decide),aU fun _ _ H K => R.appE (Or.inr (K 46 _ O)) (K 3 _ O) (SrcO.sc (SC.sl (K 48 _ O)) (pur_lit O)) (show _ = ((rowsL joinR l (k + 1 + 1)).map hsD) from (show _ = (rowsL joinR l (k + 1 + 1)).map hsD from by rw [rowsL_succ _ _ (k + 1),List.map_append]; rfl)) bU H (by decide) (by decide),aU fun _ _ H K => R.asgO (K 49 _ O) O H (by decide),trivial⟩ O O O O (tU O ?_)
     exact ⟨⟨(k + 1),(by have h2 := nRows_2 (n := (rowA joinR l k).length) (by omega); have h3 : (rowA joinR l (k + 1)).length = ((rowA joinR l k).length + 1) / 2 := upR_len _ _; rw [h2,← h3] at hk; show k + 1 + _ = _; omega)⟩,rfl,(by simp only []; omega)⟩
 · have hkn : nRows l.length = k + 1 := by rw [← hk,show (rowA joinR l k).length = 1 by omega,nRows_1]
   rw [← hkn]
   refine W.exit ?_
   refine W.seq ?_
   refine W.l0 2 [.y 50 _,.y 2 _] [(0,3),(1,50)] [(0,3),(1,50)] [(2,_)] [] 51 ⟨aU fun _ _ H K => R.movO (K 3 _ O) O H (by decide),aU fun _ _ H K => R.asgO (K 50 _ O) O H (by decide),trivial⟩ O O O O (tU O ?_)
   refine W.frzS (s := 2) (d' := .sl none 1 ((rowsL joinR l (nRows l.length)).map hsD)) O O (brw_hss _ _ _) ?_
   refine W.ret ?_
   exact Ends.one' (.inr O) O (O) O O trivial

theorem called_ok (is : List Bool) (row k : Nat) (hi0 : is.length ≤ 1000000) (hr : row ≤ 20) (hk : k ≤ 1000000) : Fn Tryd.prog gl 41 [.sl none 1 (is.map D.bool),.int ((row : Nat) : Int),.int ((k : Nat) : Int)] (.bool (calS is row k)) := by
 refine Fn.of (n := 26) Tryd.func41 rfl rfl rfl (nU rfl) fun C hC hD => ?_
 refine W.seq ?_
 refine W.l0 1 [.y 6 _] [] [] [(0,_),(1,_),(2,_)] [] 26 ⟨aU fun _ _ H _ => R.asg (kB false O) O H,trivial⟩ O O O O (tU O ?_)
 refine W.seq ?_
 refine W.seq ?_
 refine W.l0 1 [.y 7 _] [] [] [(0,_),(1,_),(2,_),(7,_)] [] 26 ⟨aU fun _ _ H _ => R.asg (kI 0 O) O H,trivial⟩ O O O O (tU O ?_)
 refine W.block ?_
 refine W.loop (α := {q__ : Nat // q__ ≤ is.length ∧ ∀ j,j < q__ → ¬ (j / 2 ^ row = k ∧ is[j]! = true)}) (fun q__ => ⟨26,[(0,.sl none 1 (is.map D.bool)),(1,.int ((row : Nat) : Int)),(2,.int ((k : Nat) : Int)),(7,.int ((q__.1 : Nat) : Int))],[]⟩) (fun q__ => is.length - q__.1) ⟨(0),⟨Nat.zero_le _,fun j hj => absurd hj (Nat.not_lt_zero j)⟩⟩ O ?_
 rintro ⟨i,⟨hi,hall⟩⟩
 show W _ _ _ _ ⟨26,[(0,.sl none 1 (is.map D.bool)),(1,.int ((row : Nat) : Int)),(2,.int ((k : Nat) : Int)),(7,.int ((i : Nat) : Int))],[]⟩
 refine W.seq ?_
 refine W.seq ?_
 refine W.l0 4 [.y 8 _,.y 9 _,.y 10 _,.y 11 _] [] [] [(0,_),(1,_),(2,_),(7,_),(11,_)] [] 26 ⟨mU 7 O O,mU 0 O O,aU fun _ _ H K => R.lenE (SC.sl (K 9 _ O)) (List.length_map _) H,aU fun _ _ H K => R.lssN (i) (is.length) (eU K 8 O) (eU K 10 O) H,trivial⟩ O O O O (tU O ?_)
 refine W.condD O (fun hc11 => ?_) (fun hc11 => ?_)
 · refine W.skip ?_
   refine W.seq ?_
   refine W.block ?_
   refine W.seq ?_
   by_cases hq : i / 2 ^ row = k
   · refine W.l0 12 [.y 14 _,.y 15 _,.y 16 _,.y 17 _,.y 18 _,.y 19 _,.y 20 _,.y 21 _,.y 22 _,.y 23 _,.y 24 _,.y 25 _] [] [] [(0,_),(1,_),(2,_),(7,_),(25,_)] [] 26 ⟨mU 7 O O,mU 1 O O,aU fun _ _ H K => R.conv (eU K 15 O) O H,aU fun _ _ H K => R.binE (d := .int (((i / 2 ^ row) : Nat) : Int)) (eU K 14 O) (eU K 16 O) O bV (shrN i row (by omega)) H,mU 2 O O,aU fun _ _ H K => R.eqlN ((i / 2 ^ row)) (k) (eU K 17 O) (eU K 18 O) H,mU 19 O O,aW O O (gT (decide_eq_true hq) O) fun _ _ H K => R.mov (eU K 0 O) O H,aW O O (gT (decide_eq_true hq) O) fun _ _ H K => R.mov (eU K 7 O) O H,aW O O (gT (decide_eq_true hq) O) fun _ _ H K => R.idxN (i) (SC.sl (K 21 _ O)) (evoI (eU K 22 O)) O bU H (by decide),aW O O (gT (decide_eq_true hq) O) fun _ _ H K => R.ldE (K 23 _ O) (SC.sl (K 21 _ O)) (map_get! (l := is) bU) O O O O H,aU fun _ _ H K => R.pickT (eU K 20 O) (decide_eq_true hq) (eU K 24 O) O H,trivial⟩ O O O O (tU O ?_)
     refine W.cond O (fun hc25 => ?_) (fun hc25 => ?_)
     · refine W.seq ?_
       refine W.l0 1 [.y 6 _] [] [] [(6,_)] [] 26 ⟨aU fun _ _ H _ => R.asg (kB true O) O H,trivial⟩ O O O O (tU O ?_)
       refine W.ret ?_
       exact Ends.one' (.inr O) O (by rw [calS_t (by omega) hq hc25]) O O trivial
     · refine W.skip ?_
       refine W.l0 3 [.y 12 _,.y 13 _,.y 7 _] [] [] [(0,_),(1,_),(2,_),(7,_)] [] 26 ⟨mU 7 O O,aU fun _ _ H K => R.addN (i) (1) (eU K 12 O) (kI 1 O) bU H,aU fun _ _ H K => R.asg (eU K 13 O) O H,trivial⟩ O O O O (tU O ?_)
       exact ⟨⟨(i + 1),⟨by omega,fun j hj => by rcases Nat.lt_or_ge j i with h | h; exact hall j h; obtain rfl : j = i := (by omega); first | (intro h; exact hq h.1) | (intro h; rw [hc25] at h; cases h.2)⟩⟩,rfl,(by simp only []; omega)⟩
   · refine W.l0 12 [.y 14 _,.y 15 _,.y 16 _,.y 17 _,.y 18 _,.y 19 _,.y 20 _,.x 21,.x 22,.x 23,.x 24,.y 25 _] [] [] [(0,_),(1,_),(2,_),(7,_),(25,_)] [] 26 ⟨mU 7 O O,mU 1 O O,aU fun _ _ H K => R.conv (eU K 15 O) O H,aU fun _ _ H K => R.binE (d := .int (((i / 2 ^ row) : Nat) : Int)) (eU K 14 O) (eU K 16 O) O bV (shrN i row (by omega)) H,mU 2 O O,aU fun _ _ H K => R.eqlN ((i / 2 ^ row)) (k) (eU K 17 O) (eU K 18 O) H,mU 19 O O,aF O O (gF (decide_eq_false hq) O),aF O O (gF (decide_eq_false hq) O),aF O O (gF (decide_eq_false hq) O),aF O O (gF (decide_eq_false hq) O),aU fun _ _ H K => R.pickF (eU K 20 O) (decide_eq_false hq) (kB false O) O H,trivial⟩ O O O O (tU O ?_)
     refine W.condF O (O) ?_
     refine W.skip ?_
     refine W.l0 3 [.y 12 _,.y 13 _,.y 7 _] [] [] [(0,_),(1,_),(2,_),(7,_)] [] 26 ⟨mU 7 O O,aU fun _ _ H K => R.addN (i) (1) (eU K 12 O) (kI 1 O) bU H,aU fun _ _ H K => R.asg (eU K 13 O) O H,trivial⟩ O O O O (tU O ?_)
     exact ⟨⟨(i + 1),⟨by omega,fun j hj => by rcases Nat.lt_or_ge j i with h | h; exact hall j h; obtain rfl : j = i := (by omega); first | (intro h; exact hq h.1) | (intro h; rw [hc25] at h; cases h.2)⟩⟩,rfl,(by simp only []; omega)⟩
 · refine W.exit ?_
   refine W.seq ?_
   refine W.l0 1 [.y 6 _] [] [] [(6,_)] [] 26 ⟨aU fun _ _ H _ => R.asg (kB false O) O H,trivial⟩ O O O O (tU O ?_)
   refine W.ret ?_
   exact Ends.one' (.inr O) O (by rw [calS_f (fun j hj => hall j (by omega))]) O O trivial

end Go.Sx

namespace Go.Sx
open Go.Proofs
abbrev RbP (L : List (List Hs)) (F : List (List Bool)) (is : List Bool) (n : Int) (row k : Nat) (hs : List Hs) (fl : List Bool) : Prop :=
 FnT Tryd.prog gl 27 (.agg [.int n,.sl (some 38) 32 (hs.map hashD),.sl (some 4) 1 (fl.map D.bool)]) [.sl none 1 (L.map hsD),.sl none 1 (is.map D.bool),.int ((row : Nat) : Int),.int ((k : Nat) : Int)]
  (.agg [.int n,.sl (some 38) 32 ((wkB L F row k (hs,fl)).1.map hashD),.sl (some 4) 1 ((wkB L F row k (hs,fl)).2.map D.bool)])
theorem wk_in2 {L : List (List Hs)} {F : List (List Bool)} {r k : Nat} {p : List Hs × List Bool} (h : ¬ L[r + 1]!.length ≤ k) (hf : F[r + 1]![k]! = true) (h2 : ¬ 2 * k + 1 < L[r]!.length) : wkB L F (r + 1) k p = wkB L F r (2 * k) (p.1,p.2 ++ [F[r + 1]![k]!]) := by
 rw [wk_in h hf,wk_skip (by omega)]
end Go.Sx

namespace Go.Sx
open Go.Proofs
theorem rbuild0 (L : List (List Hs)) (F : List (List Bool)) (n : Int) (is : List Bool) (hi0 : is.length ≤ 1000000) (hL : L.length ≤ 20) (hLl : ∀ j : Nat,L[j]!.length ≤ 1000) (hLs : ∀ j : Nat,j + 1 < L.length → L[j + 1]!.length = (L[j]!.length + 1) / 2) (hF : ∀ r k : Nat,r < L.length → k < L[r]!.length → F[r]![k]! = calS is r k) (hrow : 0 < L.length) (k : Nat) (hk : k < L[0]!.length) (hs : List Hs) (fl : List Bool) (hhs : hs.length + 2 ^ (0 + 1) ≤ 100000) (hfl : fl.length + 2 ^ (0 + 1) ≤ 100000) : FnT Tryd.prog gl 27 (.agg [.int n,.sl (some 38) 32 (hs.map hashD),.sl (some 4) 1 (fl.map D.bool)]) [.sl none 1 (L.map hsD),.sl none 1 (is.map D.bool),.int ((0 : Nat) : Int),.int ((k : Nat) : Int)] (.agg [.int n,.sl (some 38) 32 ((wkB L F 0 k (hs,fl)).1.map hashD),.sl (some 4) 1 ((wkB L F 0 k (hs,fl)).2.map D.bool)]) := by
 refine FnT.of (n := 69) Tryd.func27 rfl rfl rfl (nU rfl) fun C hC hD => ?_
 refine W.seq ?_
 refine W.l0 2 [] [] [] [(0,_),(1,_),(2,_),(3,_),(4,_)] [] 69 trivial O O O O (⟨O,_,R.boxO (gU 0 O) O O O (nU O) (by decide),⟨O,_,R.alloc O (nU O),tV [(1,_),(2,_),(3,_),(4,_),(5,_),(10,_)] [(10,.var _),(5,.var _)] 69 O O O ?_⟩⟩)
 refine W.seq ?_
 have hll := hLl (0)
 have hFk := hF (0) k hrow hk
 have hpw : 1 ≤ 2 ^ (0) := Nat.one_le_two_pow
 have hpw2 : 2 ^ (0 + 1) = 2 * 2 ^ (0) := by first | rfl | (rw [Nat.pow_succ]; omega)
 refine W.l0 5 [.y 12 _,.y 13 _,.y 14 _,.y 15 _,.y 11 _] [] [] [(1,_),(2,_),(3,_),(4,_),(5,_),(10,_),(11,_)] [(10,.var _),(5,.var _)] 69 ⟨mU 2 O O,mU 3 O O,mU 4 O O,aU fun _ _ H K => R.callG hC (called_ok is (0) k hi0 (by omega) (by omega)) (Bors.cons (Bor.pur (eU K 12 O) O O) (Bors.cons (Bor.pur (eU K 13 O) O O) (Bors.cons (Bor.pur (eU K 14 O) O O) Bors.nil))) (FrsR.one (.bool _)) H,aU fun _ _ H K => R.asg (eU K 15 O) O H,trivial⟩ O O O O (tU O ?_)
 refine W.seq ?_
 refine W.l0 7 [.y 16 _,.y 17 _,.y 18 _,.y 19 _] [] [] [(1,_),(2,_),(3,_),(4,_),(5,_),(10,_),(11,_),(17,_),(19,_)] [(10,.var _),(5,.var _)] 69 ⟨aU (fU 5 O O),aU fun _ B H K => R.ldO (K 16 _ O) (B 5 _ O) O H,mU 11 O O,aU fun _ _ H K => R.bslE (z := 1) (.cons (eU K 18 O) .nil) ⟨⟨O,O,O⟩,trivial⟩ O H (by decide),trivial⟩ O O O O (⟨O,_,R.appBP (gU 17 O) (xU 5 O) O O O O (gU 17 O) (SrcO.sc (SC.sl (gU 19 O)) (pur_lit O)) (show _ = ((fl ++ [F[0]![k]!]).map D.bool) from (by rw [hFk,List.map_append] <;> rfl)) bU (nU O) (by decide) (by decide),⟨O,_,R.fdP (gU 5 O) (nU O),⟨O,_,R.stOZ (gU 21 O) (xU 5 O) O (gU 20 O) O O (by rfl) (by rfl) O O,tV [(1,_),(2,_),(3,_),(4,_),(5,_),(10,_),(11,_)] [(10,.var _),(5,.var _)] 69 O O O ?_⟩⟩⟩)
 refine W.seq ?_
 refine W.seq ?_
 by_cases hcl : calS is 0 k = true
 · refine W.l0 6 [.y 22 _,.y 23 _,.y 24 _,.y 25 _,.y 26 _,.y 27 _] [] [] [(1,_),(2,_),(3,_),(4,_),(5,_),(10,_),(27,_)] [(10,.var _),(5,.var _)] 69 ⟨mU 11 O O,aU fun _ _ H K => R.un (eU K 22 O) O H,mU 23 O O,aW O O (gF (by rw [hcl] <;> rfl) O) fun _ _ H K => R.mov (eU K 3 O) O H,aW O O (gF (by rw [hcl] <;> rfl) O) fun _ _ H K => R.eqlN (0) (0) (eU K 25 O) (kI 0 O) H,aU fun _ _ H K => R.pickF (eU K 24 O) (by rw [hcl] <;> rfl) (eU K 26 O) O H,trivial⟩ O O O O (tU O ?_)
   refine W.condT O (decide_eq_true O) ?_
   refine W.seq ?_
   refine W.draw (m := 10) (an := [0,1,0,0,12,28,0,124,252,508,1023,2047,4095]) hP (by decide) O (its := [.y 28 _,.y 29 _,.y 30 _,.y 31 _,.y 32 _,.y 33 _,.y 34 _,.y 35 _,.y 36 _,.y 37 _]) (ks := []) (kk := []) (live := [5,10,29,37]) (env' := [(5,_),(10,_),(29,_),(37,_)]) (⟨nU O,O,⟨aU (fU 5 O O),aU fun _ B H K => R.ldO (K 28 _ O) (B 5 _ O) O H,mU 1 O O,mU 3 O O,aU fun _ _ H K => R.idxN (0) (SC.sl (K 30 _ O)) (evoI (eU K 31 O)) O bU H (by decide),aU fun _ _ H K => R.ldE (K 32 _ O) (SC.sl (K 30 _ O)) (map_get! (l := L) bU) O O O O H,mU 4 O O,aU fun _ _ H K => R.idxN (k) (SC.sl (K 33 _ O)) (evoI (eU K 34 O)) O bU H (by decide),aU fun _ _ H K => R.ldE (K 35 _ O) (SC.sl (K 33 _ O)) (map_get! (l := L[0]!) bU) O O O O H,aU fun _ _ H K => R.bslE (z := 32) (.cons (eU K 36 O) .nil) ⟨⟨O,O,O⟩,trivial⟩ O H (by decide),trivial⟩,O,O,O⟩) O (bx' := [(10,.var _),(5,.var _)]) O (n' := 69) O (⟨O,_,R.appBP (gU 29 O) (xU 5 O) O O O O (gU 29 O) (SrcO.sc (SC.sl (gU 37 O)) (pur_lit O)) (show _ = ((hs ++ [L[0]![k]!]).map hashD) from (by rw [List.map_append] <;> rfl)) bU (nU O) (by decide) (by decide),⟨O,_,R.fdP (gU 5 O) (nU O),⟨O,_,R.stOZ (gU 39 O) (xU 5 O) O (gU 38 O) O O (by rfl) (by rfl) O O,tV [(5,_),(10,_)] [(10,.var _),(5,.var _)] 69 O O O ?_⟩⟩⟩)
   refine W.seq ?_
   refine W.l0 2 [] [] [] [(5,_),(10,_)] [(10,.var _),(5,.var _)] 69 trivial O O O O (⟨O,_,R.ldTake (gU 5 O) (xU 5 O) O O O (nU O),⟨O,_,R.stOZ (gU 10 O) (xU 10 O) O (gU 40 O) O O (by rfl) (by rfl) O O,tV [(10,_)] [(10,.var _),(5,.var _)] 69 O O O ?_⟩⟩)
   refine W.ret ?_
   exact Ends.one' (.inr O) O (by rw [wk_leaf0 (by omega)] <;> rfl) O O (show LdT _ 33 3 true from inferInstance)
 · refine W.l0 6 [.y 22 _,.y 23 _,.y 24 _,.x 25,.x 26,.y 27 _] [] [] [(1,_),(2,_),(3,_),(4,_),(5,_),(10,_),(27,_)] [(10,.var _),(5,.var _)] 69 ⟨mU 11 O O,aU fun _ _ H K => R.un (eU K 22 O) O H,mU 23 O O,aF O O (gT (by rw [bfalse hcl] <;> rfl) O),aF O O (gT (by rw [bfalse hcl] <;> rfl) O),aU fun _ _ H K => R.pickT (eU K 24 O) (by rw [bfalse hcl] <;> rfl) (kB true O) O H,trivial⟩ O O O O (tU O ?_)
   refine W.condT O (O) ?_
   refine W.seq ?_
   refine W.draw (m := 10) (an := [0,1,0,0,12,28,0,124,252,508,1023,2047,4095]) hP (by decide) O (its := [.y 28 _,.y 29 _,.y 30 _,.y 31 _,.y 32 _,.y 33 _,.y 34 _,.y 35 _,.y 36 _,.y 37 _]) (ks := []) (kk := []) (live := [5,10,29,37]) (env' := [(5,_),(10,_),(29,_),(37,_)]) (⟨nU O,O,⟨aU (fU 5 O O),aU fun _ B H K => R.ldO (K 28 _ O) (B 5 _ O) O H,mU 1 O O,mU 3 O O,aU fun _ _ H K => R.idxN (0) (SC.sl (K 30 _ O)) (evoI (eU K 31 O)) O bU H (by decide),aU fun _ _ H K => R.ldE (K 32 _ O) (SC.sl (K 30 _ O)) (map_get! (l := L) bU) O O O O H,mU 4 O O,aU fun _ _ H K => R.idxN (k) (SC.sl (K 33 _ O)) (evoI (eU K 34 O)) O bU H (by decide),aU fun _ _ H K => R.ldE (K 35 _ O) (SC.sl (K 33 _ O)) (map_get! (l := L[0]!) bU) O O O O H,aU fun _ _ H K => R.bslE (z := 32) (.cons (eU K 36 O) .nil) ⟨⟨O,O,O⟩,trivial⟩ O H (by decide),trivial⟩,O,O,O⟩) O (bx' := [(10,.var _),(5,.var _)]) O (n' := 69) O (⟨O,_,R.appBP (gU 29 O) (xU 5 O) O O O O (gU 29 O) (SrcO.sc (SC.sl (gU 37 O)) (pur_lit O)) (show _ = ((hs ++ [L[0]![k]!]).map hashD) from (by rw [List.map_append] <;> rfl)) bU (nU O) (by decide) (by decide),⟨O,_,R.fdP (gU 5 O) (nU O),⟨O,_,R.stOZ (gU 39 O) (xU 5 O) O (gU 38 O) O O (by rfl) (by rfl) O O,tV [(5,_),(10,_)] [(10,.var _),(5,.var _)] 69 O O O ?_⟩⟩⟩)
   refine W.seq ?_
   refine W.l0 2 [] [] [] [(5,_),(10,_)] [(10,.var _),(5,.var _)] 69 trivial O O O O (⟨O,_,R.ldTake (gU 5 O) (xU 5 O) O O O (nU O),⟨O,_,R.stOZ (gU 10 O) (xU 10 O) O (gU 40 O) O O (by rfl) (by rfl) O O,tV [(10,_)] [(10,.var _),(5,.var _)] 69 O O O ?_⟩⟩)
   refine W.ret ?_
   exact Ends.one' (.inr O) O (by rw [wk_leaf0 (by omega)] <;> rfl) O O (show LdT _ 33 3 true from inferInstance)

set_option maxHeartbeats 1000000 in
theorem rbuild1 (L : List (List Hs)) (F : List (List Bool)) (n : Int) (is : List Bool) (r : Nat) (hi0 : is.length ≤ 1000000) (hL : L.length ≤ 20) (hLl : ∀ j : Nat,L[j]!.length ≤ 1000) (hLs : ∀ j : Nat,j + 1 < L.length → L[j + 1]!.length = (L[j]!.length + 1) / 2) (hF : ∀ r k : Nat,r < L.length → k < L[r]!.length → F[r]![k]! = calS is r k) (hrow : (r + 1) < L.length) (k : Nat) (hk : k < L[(r + 1)]!.length) (hs : List Hs) (fl : List Bool) (hhs : hs.length + 2 ^ ((r + 1) + 1) ≤ 100000) (hfl : fl.length + 2 ^ ((r + 1) + 1) ≤ 100000) (ih : ∀ (k : Nat),k < L[r]!.length → ∀ (hs : List Hs) (fl : List Bool),hs.length + 2 ^ (r + 1) ≤ 100000 → fl.length + 2 ^ (r + 1) ≤ 100000 → RbP L F is n r k hs fl) : FnT Tryd.prog gl 27 (.agg [.int n,.sl (some 38) 32 (hs.map hashD),.sl (some 4) 1 (fl.map D.bool)]) [.sl none 1 (L.map hsD),.sl none 1 (is.map D.bool),.int ((r + 1 : Nat) : Int),.int ((k : Nat) : Int)] (.agg [.int n,.sl (some 38) 32 ((wkB L F (r + 1) k (hs,fl)).1.map hashD),.sl (some 4) 1 ((wkB L F (r + 1) k (hs,fl)).2.map D.bool)]) := by
 refine FnT.of (n := 69) Tryd.func27 rfl rfl rfl (nU rfl) fun C hC hD => ?_
 refine W.seq ?_
 refine W.l0 2 [] [] [] [(0,_),(1,_),(2,_),(3,_),(4,_)] [] 69 trivial O O O O (⟨O,_,R.boxO (gU 0 O) O O O (nU O) (by decide),⟨O,_,R.alloc O (nU O),tV [(1,_),(2,_),(3,_),(4,_),(5,_),(10,_)] [(10,.var _),(5,.var _)] 69 O O O ?_⟩⟩)
 refine W.seq ?_
 have hll := hLl (r + 1)
 have hFk := hF (r + 1) k hrow hk
 have hpw : 1 ≤ 2 ^ (r + 1) := Nat.one_le_two_pow
 have hpw2 : 2 ^ (r + 1 + 1) = 2 * 2 ^ (r + 1) := by first | rfl | (rw [Nat.pow_succ]; omega)
 refine W.l0 5 [.y 12 _,.y 13 _,.y 14 _,.y 15 _,.y 11 _] [] [] [(1,_),(2,_),(3,_),(4,_),(5,_),(10,_),(11,_)] [(10,.var _),(5,.var _)] 69 ⟨mU 2 O O,mU 3 O O,mU 4 O O,aU fun _ _ H K => R.callG hC (called_ok is (r + 1) k hi0 (by omega) (by omega)) (Bors.cons (Bor.pur (eU K 12 O) O O) (Bors.cons (Bor.pur (eU K 13 O) O O) (Bors.cons (Bor.pur (eU K 14 O) O O) Bors.nil))) (FrsR.one (.bool _)) H,aU fun _ _ H K => R.asg (eU K 15 O) O H,trivial⟩ O O O O (tU O ?_)
 refine W.seq ?_
 refine W.l0 7 [.y 16 _,.y 17 _,.y 18 _,.y 19 _] [] [] [(1,_),(2,_),(3,_),(4,_),(5,_),(10,_),(11,_),(17,_),(19,_)] [(10,.var _),(5,.var _)] 69 ⟨aU (fU 5 O O),aU fun _ B H K => R.ldO (K 16 _ O) (B 5 _ O) O H,mU 11 O O,aU fun _ _ H K => R.bslE (z := 1) (.cons (eU K 18 O) .nil) ⟨⟨O,O,O⟩,trivial⟩ O H (by decide),trivial⟩ O O O O (⟨O,_,R.appBP (gU 17 O) (xU 5 O) O O O O (gU 17 O) (SrcO.sc (SC.sl (gU 19 O)) (pur_lit O)) (show _ = ((fl ++ [F[r + 1]![k]!]).map D.bool) from (by rw [hFk,List.map_append] <;> rfl)) bU (nU O) (by decide) (by decide),⟨O,_,R.fdP (gU 5 O) (nU O),⟨O,_,R.stOZ (gU 21 O) (xU 5 O) O (gU 20 O) O O (by rfl) (by rfl) O O,tV [(1,_),(2,_),(3,_),(4,_),(5,_),(10,_),(11,_)] [(10,.var _),(5,.var _)] 69 O O O ?_⟩⟩⟩)
 refine W.seq ?_
 refine W.seq ?_
 by_cases hcl : calS is (r + 1) k = true
 · refine W.l0 6 [.y 22 _,.y 23 _,.y 24 _,.y 25 _,.y 26 _,.y 27 _] [] [] [(1,_),(2,_),(3,_),(4,_),(5,_),(10,_),(27,_)] [(10,.var _),(5,.var _)] 69 ⟨mU 11 O O,aU fun _ _ H K => R.un (eU K 22 O) O H,mU 23 O O,aW O O (gF (by rw [hcl] <;> rfl) O) fun _ _ H K => R.mov (eU K 3 O) O H,aW O O (gF (by rw [hcl] <;> rfl) O) fun _ _ H K => R.eqlN (r + 1) (0) (eU K 25 O) (kI 0 O) H,aU fun _ _ H K => R.pickF (eU K 24 O) (by rw [hcl] <;> rfl) (eU K 26 O) O H,trivial⟩ O O O O (tU O ?_)
   refine W.condF O (decide_eq_false (Nat.succ_ne_zero _)) ?_
   refine W.skip ?_
   refine W.seq ?_
   have hl1 := hLs r hrow
   have hl2 := hLl r
   have hin : F[r + 1]![k]! = true := hFk.trans hcl
   have hln := wkB_len L F r (2 * k) (hs,fl ++ [F[r + 1]![k]!])
   simp only [List.length_append,List.length_cons,List.length_nil] at hln
   refine W.l0 9 [] [] [] [(1,_),(2,_),(3,_),(4,_),(5,_),(10,_)] [(10,.var _),(5,.var _)] 69 trivial O O O O (⟨O,_,R.ldTake (gU 5 O) (xU 5 O) O O O (nU O),⟨O,_,R.mov (gV 1 O) O (nU O),⟨O,_,R.mov (gV 2 O) O (nU O),⟨O,_,R.mov (gV 3 O) O (nU O),⟨O,_,R.binE (d := .int ((r : Nat) : Int)) (gV 44 O) (kI 1 O) O trivial (wr_eq (by omega) (by omega) (by omega)) (nU O),⟨O,_,R.mov (gV 4 O) O (nU O),⟨O,_,R.mulN (2) (k) (kI 2 O) (gV 46 O) bU (nU O),⟨O,_,R.callT hC (show FnT Tryd.prog gl 27 (.agg [.int n,.sl (some 38) 32 (hs.map hashD),.sl (some 4) 1 ((fl ++ [F[r + 1]![k]!]).map D.bool)]) [.sl none 1 (L.map hsD),.sl none 1 (is.map D.bool),.int ((r : Nat) : Int),.int ((2 * k : Nat) : Int)] (.agg [.int n,.sl (some 38) 32 ((wkB L F r (2 * k) (hs,fl ++ [F[r + 1]![k]!])).1.map hashD),.sl (some 4) 1 ((wkB L F r (2 * k) (hs,fl ++ [F[r + 1]![k]!])).2.map D.bool)]) from ih (2 * k) (by omega) hs (fl ++ [F[r + 1]![k]!]) (by first | omega | (simp only [List.length_append,List.length_cons,List.length_nil]; omega)) (by first | omega | (simp only [List.length_append,List.length_cons,List.length_nil]; omega))) (gU 41 O) O O (EvP.cons (gV 42 O) O O (EvP.cons (gV 43 O) O O (EvP.cons (gV 45 O) O O (EvP.cons (gV 47 O) O O EvP.nil)))) (nU O) (by decide),⟨O,_,R.stOZ (gU 5 O) (xU 5 O) O (gU 48 O) O O (by rfl) (by rfl) O O,tV [(1,_),(2,_),(3,_),(4,_),(5,_),(10,_)] [(10,.var _),(5,.var _)] 69 O O O ?_⟩⟩⟩⟩⟩⟩⟩⟩⟩)
   refine W.seq ?_
   refine W.seq ?_
   refine W.l0 10 [.y 49 _,.y 50 _,.y 51 _,.y 52 _,.y 53 _,.y 54 _,.y 55 _,.y 56 _,.y 57 _,.y 58 _] [] [] [(1,_),(2,_),(3,_),(4,_),(5,_),(10,_),(58,_)] [(10,.var _),(5,.var _)] 69 ⟨mU 4 O O,aU fun _ _ H K => R.mulN (2) (k) (kI 2 O) (eU K 49 O) bU H,aU fun _ _ H K => R.addN ((2 * k)) (1) (eU K 50 O) (kI 1 O) bU H,mU 1 O O,mU 3 O O,aU fun _ _ H K => R.binE (d := .int ((r : Nat) : Int)) (eU K 53 O) (kI 1 O) O trivial (wr_eq (by omega) (by omega) (by omega)) H,aU fun _ _ H K => R.idxN (r) (SC.sl (K 52 _ O)) (evoI (eU K 54 O)) O bU H (by decide),aU fun _ _ H K => R.ldE (K 55 _ O) (SC.sl (K 52 _ O)) (map_get! (l := L) bU) O O O O H,aU fun _ _ H K => R.lenE (SC.sl (K 56 _ O)) (List.length_map _) H,aU fun _ _ H K => R.lssN (((2 * k) + 1)) (L[r]!.length) (eU K 51 O) (eU K 57 O) H,trivial⟩ O O O O (tU O ?_)
   refine W.condD O (fun hc58 => ?_) (fun hc58 => ?_)
   · refine W.l0 10 [] [] [] [(1,_),(2,_),(3,_),(4,_),(5,_),(10,_)] [(10,.var _),(5,.var _)] 69 trivial O O O O (⟨O,_,R.ldTake (gU 5 O) (xU 5 O) O O O (nU O),⟨O,_,R.mov (gV 1 O) O (nU O),⟨O,_,R.mov (gV 2 O) O (nU O),⟨O,_,R.mov (gV 3 O) O (nU O),⟨O,_,R.binE (d := .int ((r : Nat) : Int)) (gV 62 O) (kI 1 O) O trivial (wr_eq (by omega) (by omega) (by omega)) (nU O),⟨O,_,R.mov (gV 4 O) O (nU O),⟨O,_,R.mulN (2) (k) (kI 2 O) (gV 64 O) bU (nU O),⟨O,_,R.addN ((2 * k)) (1) (gV 65 O) (kI 1 O) bU (nU O),⟨O,_,R.callT hC (show FnT Tryd.prog gl 27 (.agg [.int n,.sl (some 38) 32 ((wkB L F r (2 * k) (hs,fl ++ [F[r + 1]![k]!])).1.map hashD),.sl (some 4) 1 ((wkB L F r (2 * k) (hs,fl ++ [F[r + 1]![k]!])).2.map D.bool)]) [.sl none 1 (L.map hsD),.sl none 1 (is.map D.bool),.int ((r : Nat) : Int),.int ((2 * k + 1 : Nat) : Int)] (.agg [.int n,.sl (some 38) 32 ((wkB L F r (2 * k + 1) (wkB L F r (2 * k) (hs,fl ++ [F[r + 1]![k]!]))).1.map hashD),.sl (some 4) 1 ((wkB L F r (2 * k + 1) (wkB L F r (2 * k) (hs,fl ++ [F[r + 1]![k]!]))).2.map D.bool)]) from ih (2 * k + 1) (by omega) (wkB L F r (2 * k) (hs,fl ++ [F[r + 1]![k]!])).1 (wkB L F r (2 * k) (hs,fl ++ [F[r + 1]![k]!])).2 (by first | omega | (simp only [List.length_append,List.length_cons,List.length_nil]; omega)) (by first | omega | (simp only [List.length_append,List.length_cons,List.length_nil]; omega))) (gU 59 O) O O (EvP.cons (gV 60 O) O O (EvP.cons (gV 61 O) O O (EvP.cons (gV 63 O) O O (EvP.cons (gV 66 O) O O EvP.nil)))) (nU O) (by decide),⟨O,_,R.stOZ (gU 5 O) (xU 5 O) O (gU 67 O) O O (by rfl) (by rfl) O O,tV [(5,_),(10,_)] [(10,.var _),(5,.var _)] 69 O O O ?_⟩⟩⟩⟩⟩⟩⟩⟩⟩⟩)
     refine W.seq ?_
     refine W.l0 2 [] [] [] [(5,_),(10,_)] [(10,.var _),(5,.var _)] 69 trivial O O O O (⟨O,_,R.ldTake (gU 5 O) (xU 5 O) O O O (nU O),⟨O,_,R.stOZ (gU 10 O) (xU 10 O) O (gU 68 O) O O (by rfl) (by rfl) O O,tV [(10,_)] [(10,.var _),(5,.var _)] 69 O O O ?_⟩⟩)
     refine W.ret ?_
     exact Ends.one' (.inr O) O (by rw [wk_in (by omega) hin] <;> rfl) O O (show LdT _ 33 3 true from inferInstance)
   · refine W.skip ?_
     refine W.seq ?_
     refine W.l0 2 [] [] [] [(5,_),(10,_)] [(10,.var _),(5,.var _)] 69 trivial O O O O (⟨O,_,R.ldTake (gU 5 O) (xU 5 O) O O O (nU O),⟨O,_,R.stOZ (gU 10 O) (xU 10 O) O (gU 68 O) O O (by rfl) (by rfl) O O,tV [(10,_)] [(10,.var _),(5,.var _)] 69 O O O ?_⟩⟩)
     refine W.ret ?_
     exact Ends.one' (.inr O) O (by rw [wk_in2 (by omega) hin hc58] <;> rfl) O O (show LdT _ 33 3 true from inferInstance)
 · refine W.l0 6 [.y 22 _,.y 23 _,.y 24 _,.x 25,.x 26,.y 27 _] [] [] [(1,_),(2,_),(3,_),(4,_),(5,_),(10,_),(27,_)] [(10,.var _),(5,.var _)] 69 ⟨mU 11 O O,aU fun _ _ H K => R.un (eU K 22 O) O H,mU 23 O O,aF O O (gT (by rw [bfalse hcl] <;> rfl) O),aF O O (gT (by rw [bfalse hcl] <;> rfl) O),aU fun _ _ H K => R.pickT (eU K 24 O) (by rw [bfalse hcl] <;> rfl) (kB true O) O H,trivial⟩ O O O O (tU O ?_)
   refine W.condT O (O) ?_
   refine W.seq ?_
   refine W.draw (m := 10) (an := [0,1,0,0,12,28,0,124,252,508,1023,2047,4095]) hP (by decide) O (its := [.y 28 _,.y 29 _,.y 30 _,.y 31 _,.y 32 _,.y 33 _,.y 34 _,.y 35 _,.y 36 _,.y 37 _]) (ks := []) (kk := []) (live := [5,10,29,37]) (env' := [(5,_),(10,_),(29,_),(37,_)]) (⟨nU O,O,⟨aU (fU 5 O O),aU fun _ B H K => R.ldO (K 28 _ O) (B 5 _ O) O H,mU 1 O O,mU 3 O O,aU fun _ _ H K => R.idxN (r + 1) (SC.sl (K 30 _ O)) (evoI (eU K 31 O)) O bU H (by decide),aU fun _ _ H K => R.ldE (K 32 _ O) (SC.sl (K 30 _ O)) (map_get! (l := L) bU) O O O O H,mU 4 O O,aU fun _ _ H K => R.idxN (k) (SC.sl (K 33 _ O)) (evoI (eU K 34 O)) O bU H (by decide),aU fun _ _ H K => R.ldE (K 35 _ O) (SC.sl (K 33 _ O)) (map_get! (l := L[r + 1]!) bU) O O O O H,aU fun _ _ H K => R.bslE (z := 32) (.cons (eU K 36 O) .nil) ⟨⟨O,O,O⟩,trivial⟩ O H (by decide),trivial⟩,O,O,O⟩) O (bx' := [(10,.var _),(5,.var _)]) O (n' := 69) O (⟨O,_,R.appBP (gU 29 O) (xU 5 O) O O O O (gU 29 O) (SrcO.sc (SC.sl (gU 37 O)) (pur_lit O)) (show _ = ((hs ++ [L[r + 1]![k]!]).map hashD) from (by rw [List.map_append] <;> rfl)) bU (nU O) (by decide) (by decide),⟨O,_,R.fdP (gU 5 O) (nU O),⟨O,_,R.stOZ (gU 39 O) (xU 5 O) O (gU 38 O) O O (by rfl) (by rfl) O O,tV [(5,_),(10,_)] [(10,.var _),(5,.var _)] 69 O O O ?_⟩⟩⟩)
   refine W.seq ?_
   refine W.l0 2 [] [] [] [(5,_),(10,_)] [(10,.var _),(5,.var _)] 69 trivial O O O O (⟨O,_,R.ldTake (gU 5 O) (xU 5 O) O O O (nU O),⟨O,_,R.stOZ (gU 10 O) (xU 10 O) O (gU 40 O) O O (by rfl) (by rfl) O O,tV [(10,_)] [(10,.var _),(5,.var _)] 69 O O O ?_⟩⟩)
   refine W.ret ?_
   exact Ends.one' (.inr O) O (by rw [wk_leaf (by omega) (hFk.trans (bfalse hcl))] <;> rfl) O O (show LdT _ 33 3 true from inferInstance)

end Go.Sx

namespace Go.Sx
open Go.Proofs
abbrev BCS := Bool × CS
def fwLeaf (k : Nat) (f : Bool) (s : CS) : Hs × BCS :=
 if s.2.1.length = 0 then (zero32,true,s) else (s.2.1[0]!,false,(s.1,s.2.1.drop 1,(if f = true then s.2.2.1 ++ [s.2.1[0]!] else s.2.2.1),(if f = true then s.2.2.2 ++ [k] else s.2.2.2)))
def fwW (w : List Nat) : Nat → Nat → BCS → Hs × BCS
 | 0,k,s => if s.1 = true ∨ s.2.1.length = 0 then (zero32,true,s.2) else fwLeaf k s.2.1[0]! (s.2.1.drop 1,s.2.2)
 | r + 1,k,s => if s.1 = true ∨ s.2.1.length = 0 then (zero32,true,s.2) else if s.2.1[0]! = false then fwLeaf k false (s.2.1.drop 1,s.2.2) else
  if 2 * k + 1 ≥ w[r]! then (joinR (fwW w r (2 * k) (false,s.2.1.drop 1,s.2.2)).1 (fwW w r (2 * k) (false,s.2.1.drop 1,s.2.2)).1,(fwW w r (2 * k) (false,s.2.1.drop 1,s.2.2)).2) else
  (joinR (fwW w r (2 * k) (false,s.2.1.drop 1,s.2.2)).1 (fwW w r (2 * k + 1) (fwW w r (2 * k) (false,s.2.1.drop 1,s.2.2)).2).1,
   ((fwW w r (2 * k + 1) (fwW w r (2 * k) (false,s.2.1.drop 1,s.2.2)).2).2.1 || (fwW w r (2 * k) (false,s.2.1.drop 1,s.2.2)).1 == (fwW w r (2 * k + 1) (fwW w r (2 * k) (false,s.2.1.drop 1,s.2.2)).2).1),
   (fwW w r (2 * k + 1) (fwW w r (2 * k) (false,s.2.1.drop 1,s.2.2)).2).2.2)
theorem ckLeaf_fw (k : Nat) (f : Bool) (s : CS) : ((ckLeaf k f s).1.1,!(ckLeaf k f s).1.2,(ckLeaf k f s).2) = fwLeaf k f s := by
 unfold ckLeaf fwLeaf
 split <;> rfl
theorem fwLeaf_ok {k : Nat} {f : Bool} {s : CS} (hs : allH s.2.1) (s0 : CS) (h1 : s.1.length + 1 ≤ s0.1.length) (h2 : s.2 = s0.2) : CkOk s0 (((fwLeaf k f s).1,true),(fwLeaf k f s).2.2) := by
 have h := ckLeaf_ok (k := k) (f := f) hs s0 h1 h2
 rw [← ckLeaf_fw]
 exact ⟨h.h,h.hs,h.ids,h.at_,h.hl,h.all⟩
theorem fwW_ok (w : List Nat) : ∀ (r k : Nat) (s : BCS),allH s.2.2.1 → CkOk s.2 (((fwW w r k s).1,true),(fwW w r k s).2.2) := by
 intro r
 induction r with
 | zero =>
  intro k s hs
  simp only [fwW]
  split
  · exact ⟨rfl,hs,Nat.le_refl _,Nat.le_refl _,Nat.le_refl _,fun h => h⟩
  · rename_i h; exact fwLeaf_ok (s := (s.2.1.drop 1,s.2.2)) hs s.2 (by show (s.2.1.drop 1).length + 1 ≤ s.2.1.length; rw [List.length_drop]; omega) rfl
 | succ r ih =>
  intro k s hs
  simp only [fwW]
  split
  · exact ⟨rfl,hs,Nat.le_refl _,Nat.le_refl _,Nat.le_refl _,fun h => h⟩
  · split
    · exact fwLeaf_ok (s := (s.2.1.drop 1,s.2.2)) hs s.2 (by show (s.2.1.drop 1).length + 1 ≤ s.2.1.length; rw [List.length_drop]; omega) rfl
    · have hx := ih (2 * k) (false,s.2.1.drop 1,s.2.2) hs
      generalize fwW w r (2 * k) (false,s.2.1.drop 1,s.2.2) = X at hx ⊢
      have hy := ih (2 * k + 1) X.2 hx.hs
      generalize fwW w r (2 * k + 1) X.2 = Y at hy ⊢
      have h0 : (s.2.1.drop 1).length = s.2.1.length - 1 := List.length_drop
      have h1 : X.2.2.2.2.1.length + X.2.2.1.length ≤ s.2.2.2.1.length + (s.2.1.drop 1).length := hx.ids
      have h2 : X.2.2.2.2.2.length + X.2.2.1.length ≤ s.2.2.2.2.length + (s.2.1.drop 1).length := hx.at_
      have h3 : X.2.2.2.1.length ≤ s.2.2.1.length := hx.hl
      have h4 := hy.ids
      have h5 := hy.at_
      have h6 := hy.hl
      dsimp only at h4 h5 h6
      split
      · dsimp only
        exact ck_mk (joinR_len _ _) hx.hs (by omega) (by omega) h3 hx.all
      · dsimp only
        exact ck_mk (joinR_len _ _) hy.hs (by omega) (by omega) (by omega) (fun h => hy.all (hx.all h))
abbrev FwX (n : Int) (w : List Nat) (bad : Bool) (fl : List Bool) (hs ids : List Hs) (at_ : List Nat) : List (Nat × Bx) :=
 [(0,.var (.agg [.agg [.int n,.sl none 32 (hs.map hashD),.sl none 1 (fl.map D.bool)],.sl none 1 (w.map natD),.sl (some 38) 32 (ids.map hashD),.sl (some 3) 1 (at_.map natD),.bool bad]))]
abbrev FwP (n : Int) (w : List Nat) (row k : Nat) (bad : Bool) (fl : List Bool) (hs ids : List Hs) (at_ : List Nat) : Prop :=
 FnB Tryd.prog gl 31 [.ptr 0 0 [],.int ((row : Nat) : Int),.int ((k : Nat) : Int)] (FwX n w bad fl hs ids at_) (hashD (fwW w row k (bad,fl,hs,ids,at_)).1)
  (FwX n w (fwW w row k (bad,fl,hs,ids,at_)).2.1 (fwW w row k (bad,fl,hs,ids,at_)).2.2.1 (fwW w row k (bad,fl,hs,ids,at_)).2.2.2.1 (fwW w row k (bad,fl,hs,ids,at_)).2.2.2.2.1 (fwW w row k (bad,fl,hs,ids,at_)).2.2.2.2.2) []
section
variable {w : List Nat} {r k : Nat} {bad bad1 bad2 : Bool} {fl fl1 fl2 : List Bool} {hs hs1 hs2 ids ids1 ids2 : List Hs} {at_ at1 at2 : List Nat} {a b : Hs}
theorem fw_1 (h : bad = true ∨ fl.length = 0) : fwW w r k (bad,fl,hs,ids,at_) = (zero32,true,fl,hs,ids,at_) := by cases r <;> rw [fwW,if_pos h]
theorem fw_0 (h : ¬ fl.length = 0) : fwW w 0 k (false,fl,hs,ids,at_) = fwLeaf k fl[0]! (fl.drop 1,hs,ids,at_) := by rw [fwW,if_neg (by simp only [Bool.false_eq_true,false_or]; exact h)]
theorem fw_l (h : ¬ fl.length = 0) (h2 : fl[0]! = false) : fwW w (r + 1) k (false,fl,hs,ids,at_) = fwLeaf k fl[0]! (fl.drop 1,hs,ids,at_) := by rw [fwW,if_neg (by simp only [Bool.false_eq_true,false_or]; exact h),if_pos h2,h2]
theorem fl_1 {f : Bool} (h : hs.length = 0) : fwLeaf k f (fl,hs,ids,at_) = (zero32,true,fl,hs,ids,at_) := if_pos h
theorem fl_t {f : Bool} (h : ¬ hs.length = 0) (h2 : f = true) : fwLeaf k f (fl,hs,ids,at_) = (hs[0]!,false,fl,hs.drop 1,ids ++ [hs[0]!],at_ ++ [k]) := by rw [fwLeaf,if_neg h,if_pos h2,if_pos h2]
theorem fl_f {f : Bool} (h : ¬ hs.length = 0) (h2 : f = false) : fwLeaf k f (fl,hs,ids,at_) = (hs[0]!,false,fl,hs.drop 1,ids,at_) := by rw [fwLeaf,if_neg h,if_neg (by simp [h2]),if_neg (by simp [h2])]
theorem fw_s (h : ¬ fl.length = 0) (h2 : fl[0]! = true) (hx : fwW w r (2 * k) (false,fl.drop 1,hs,ids,at_) = (a,bad1,fl1,hs1,ids1,at1)) (hw : 2 * k + 1 ≥ w[r]!) : fwW w (r + 1) k (false,fl,hs,ids,at_) = (joinR a a,bad1,fl1,hs1,ids1,at1) := by
 rw [fwW,if_neg (by simp only [Bool.false_eq_true,false_or]; exact h),if_neg (by simp [h2]),if_pos hw]
 simp only [hx]
theorem fw_b (h : ¬ fl.length = 0) (h2 : fl[0]! = true) (hx : fwW w r (2 * k) (false,fl.drop 1,hs,ids,at_) = (a,bad1,fl1,hs1,ids1,at1)) (hw : ¬ 2 * k + 1 ≥ w[r]!) (hy : fwW w r (2 * k + 1) (bad1,fl1,hs1,ids1,at1) = (b,bad2,fl2,hs2,ids2,at2)) :
 fwW w (r + 1) k (false,fl,hs,ids,at_) = (joinR a b,(bad2 || a == b),fl2,hs2,ids2,at2) := by
 rw [fwW,if_neg (by simp only [Bool.false_eq_true,false_or]; exact h),if_neg (by simp [h2]),if_neg hw]
 simp only [hx,hy]
theorem or_t {x y : Bool} (h : y = true) : (x || y) = true := by rw [h,Bool.or_true]
theorem or_f {x y : Bool} (h : y = false) : (x || y) = x := by rw [h,Bool.or_false]
end
end Go.Sx

namespace Go.Sx
open Go.Proofs
theorem from0 (n : Int) (w : List Nat) (hrow : 0 ≤ w.length) (hw : w.length ≤ 20) (hwb : ∀ j : Nat,w[j]! ≤ 1000) (k : Nat) (bad : Bool) (fl : List Bool) (hs ids : List Hs) (at_ : List Nat) (hk : (k + 1) * 2 ^ (0) ≤ 100000) (hh : allH hs) (hl0 : hs.length ≤ 1000000) (hi : ids.length + fl.length ≤ 100000) (ha : at_.length + fl.length ≤ 100000) : FnB Tryd.prog gl 31 [.ptr 0 0 [],.int ((0 : Nat) : Int),.int ((k : Nat) : Int)] [(0,.var (.agg [.agg [.int n,.sl none 32 (hs.map hashD),.sl none 1 (fl.map D.bool)],.sl none 1 (w.map natD),.sl (some 38) 32 (ids.map hashD),.sl (some 3) 1 (at_.map natD),.bool bad]))] (hashD (fwW w 0 k (bad,fl,hs,ids,at_)).1) [(0,.var (.agg [.agg [.int n,.sl none 32 ((fwW w 0 k (bad,fl,hs,ids,at_)).2.2.2.1.map hashD),.sl none 1 ((fwW w 0 k (bad,fl,hs,ids,at_)).2.2.1.map D.bool)],.sl none 1 (w.map natD),.sl (some 38) 32 ((fwW w 0 k (bad,fl,hs,ids,at_)).2.2.2.2.1.map hashD),.sl (some 3) 1 ((fwW w 0 k (bad,fl,hs,ids,at_)).2.2.2.2.2.map natD),.bool (fwW w 0 k (bad,fl,hs,ids,at_)).2.1]))] [] := by
 refine FnB.of (n := 138) (ids := [0]) Tryd.func31 rfl rfl rfl (nU rfl) fun C hC hD => ?_
 refine W.seq ?_
 refine W.l0 1 [] [] [] [(0,_),(1,_),(2,_)] [(0,.var _)] 138 trivial O O O O (⟨O,_,R.alloc O (nU O),tV [(0,_),(1,_),(2,_),(6,_)] [(6,.var _),(0,.var _)] 138 O O O ?_⟩)
 refine W.seq ?_
 refine W.seq ?_
 by_cases hbad : bad = true
 · refine W.l0 13 [.y 11 _,.y 12 _,.y 13 _,.y 14 _,.y 15 _,.x 16,.x 17,.x 18,.x 19,.x 20,.x 21,.x 22,.y 23 _] [] [] [(0,_),(1,_),(2,_),(6,_),(23,_)] [(6,.var _),(0,.var _)] 138 ⟨mU 0 O O,aU fun _ _ H K => R.nilcP (K 11 _ O) H,aU (fU 12 O O),aU (lU 13 O O O O O O O),mU 14 O O,aF O O (gT (hbad) O),aF O O (gT (hbad) O),aF O O (gT (hbad) O),aF O O (gT (hbad) O),aF O O (gT (hbad) O),aF O O (gT (hbad) O),aF O O (gT (hbad) O),aU fun _ _ H K => R.pickT (eU K 15 O) (hbad) (kB true O) O H,trivial⟩ O O O O (tU O ?_)
   refine W.condT O (O) ?_
   refine W.seq ?_
   refine W.l0 4 [.y 24 _,.y 25 _,.y 26 _] [] [] [(6,_),(26,_)] [(6,.var _),(0,.var _)] 138 ⟨mU 0 O O,aU fun _ _ H K => R.nilcP (K 24 _ O) H,aU (fU 25 O O),trivial⟩ O O O O (⟨O,_,R.stZ (gU 26 O) (xU 0 O) O (kB true O) (by rfl) (by rfl) (by rfl) (by rfl) O,tV [(6,_)] [(6,.var _),(0,.var _)] 138 O O O ?_⟩)
   refine W.seq ?_
   refine W.l0 2 [.y 27 _] [] [] [(6,_),(27,_)] [(6,.var _),(0,.var _)] 138 ⟨aU fun _ _ H _ => R.bldAZ O H,trivial⟩ O O O O (⟨O,_,R.stZ (gU 6 O) (xU 6 O) O (gV 27 O) (by rfl) (by rfl) (by rfl) (by rfl) O,tV [(6,_)] [(6,.var _),(0,.var _)] 138 O O O ?_⟩)
   refine W.ret ?_
   exact EndsB.one' (.inr O) O (by rw [fw_1 (.inl hbad)] <;> rfl) O (show LdT _ 38 32 true from inferInstance) O O (by rw [fw_1 (.inl hbad)] <;> rfl) ⟨O,trivial⟩ O
 · refine W.l0 13 [.y 11 _,.y 12 _,.y 13 _,.y 14 _,.y 15 _,.y 16 _,.y 17 _,.y 18 _,.y 19 _,.y 20 _,.y 21 _,.y 22 _,.y 23 _] [] [] [(0,_),(1,_),(2,_),(6,_),(23,_)] [(6,.var _),(0,.var _)] 138 ⟨mU 0 O O,aU fun _ _ H K => R.nilcP (K 11 _ O) H,aU (fU 12 O O),aU (lU 13 O O O O O O O),mU 14 O O,aW O O (gF (bfalse hbad) O) fun _ _ H K => R.mov (eU K 0 O) O H,aW O O (gF (bfalse hbad) O) fun _ _ H K => R.nilcP (K 16 _ O) H,aW O O (gF (bfalse hbad) O) (fU 17 O O),aW O O (gF (bfalse hbad) O) (fU 18 O O),aW O O (gF (bfalse hbad) O) (lU 19 O O O O O O O),aW O O (gF (bfalse hbad) O) fun _ _ H K => R.lenE (SC.sl (K 20 _ O)) (List.length_map _) H,aW O O (gF (bfalse hbad) O) fun _ _ H K => R.eqlN (fl.length) (0) (eU K 21 O) (kI 0 O) H,aU fun _ _ H K => R.pickF (eU K 15 O) (bfalse hbad) (eU K 22 O) O H,trivial⟩ O O O O (tU O ?_)
   refine W.condD O (fun hc23 => ?_) (fun hc23 => ?_)
   · refine W.seq ?_
     refine W.l0 4 [.y 24 _,.y 25 _,.y 26 _] [] [] [(6,_),(26,_)] [(6,.var _),(0,.var _)] 138 ⟨mU 0 O O,aU fun _ _ H K => R.nilcP (K 24 _ O) H,aU (fU 25 O O),trivial⟩ O O O O (⟨O,_,R.stZ (gU 26 O) (xU 0 O) O (kB true O) (by rfl) (by rfl) (by rfl) (by rfl) O,tV [(6,_)] [(6,.var _),(0,.var _)] 138 O O O ?_⟩)
     refine W.seq ?_
     refine W.l0 2 [.y 27 _] [] [] [(6,_),(27,_)] [(6,.var _),(0,.var _)] 138 ⟨aU fun _ _ H _ => R.bldAZ O H,trivial⟩ O O O O (⟨O,_,R.stZ (gU 6 O) (xU 6 O) O (gV 27 O) (by rfl) (by rfl) (by rfl) (by rfl) O,tV [(6,_)] [(6,.var _),(0,.var _)] 138 O O O ?_⟩)
     refine W.ret ?_
     exact EndsB.one' (.inr O) O (by rw [fw_1 (.inr hc23)] <;> rfl) O (show LdT _ 38 32 true from inferInstance) O O (by rw [fw_1 (.inr hc23)] <;> rfl) ⟨O,trivial⟩ O
   · refine W.skip ?_
     refine W.seq ?_
     obtain rfl : bad = false := bfalse hbad
     refine W.l0 8 [.y 28 _,.y 29 _,.y 30 _,.y 31 _,.y 32 _,.y 33 _,.y 34 _,.y 7 _] [] [] [(0,_),(1,_),(2,_),(6,_),(7,_)] [(6,.var _),(0,.var _)] 138 ⟨mU 0 O O,aU fun _ _ H K => R.nilcP (K 28 _ O) H,aU (fU 29 O O),aU (fU 30 O O),aU (lU 31 O O O O O O O),aU fun _ _ H K => R.idxN (0) (SC.sl (K 32 _ O)) (evoI (kI 0 O)) O bU H (by decide),aU fun _ _ H K => R.ldE (K 33 _ O) (SC.sl (K 32 _ O)) (map_get! (l := fl) bU) O O O O H,aU fun _ _ H K => R.asg (eU K 34 O) O H,trivial⟩ O O O O (tU O ?_)
     refine W.seq ?_
     refine W.l0 11 [.y 35 _,.y 36 _,.y 37 _,.y 38 _,.y 39 _,.y 40 _,.y 41 _,.y 42 _,.y 43 _,.y 44 _] [] [] [(0,_),(1,_),(2,_),(6,_),(7,_),(41,_),(44,_)] [(6,.var _),(0,.var _)] 138 ⟨mU 0 O O,mU 0 O O,aU fun _ _ H K => R.nilcP (K 36 _ O) H,aU (fU 37 O O),aU (fU 38 O O),aU (lU 39 O O O O O O O),aU fun _ _ H K => R.slIN (1) (fl.length) ((fl.length - 1)) (eU K 40 O) (evoI (kI 1 O)) O O (by simp) bU bU O (show _ = (fl.drop 1).map D.bool from by rw [List.take_of_length_le (by simp)]; simp) H,aU fun _ _ H K => R.nilcP (K 35 _ O) H,aU (fU 42 O O),aU (fU 43 O O),trivial⟩ O O O O (⟨O,_,R.stZ (gU 44 O) (xU 0 O) O (gV 41 O) (by rfl) (by rfl) (by rfl) (by rfl) O,tV [(0,_),(1,_),(2,_),(6,_),(7,_)] [(6,.var _),(0,.var _)] 138 O O O ?_⟩)
     refine W.seq ?_
     refine W.seq ?_
     by_cases hf : fl[0]! = true
     · refine W.l0 6 [.y 45 _,.y 46 _,.y 47 _,.y 48 _,.y 49 _,.y 50 _] [] [] [(0,_),(1,_),(2,_),(6,_),(7,_),(50,_)] [(6,.var _),(0,.var _)] 138 ⟨mU 7 O O,aU fun _ _ H K => R.un (eU K 45 O) O H,mU 46 O O,aW O O (gF (by rw [hf]; rfl) O) fun _ _ H K => R.mov (eU K 1 O) O H,aW O O (gF (by rw [hf]; rfl) O) fun _ _ H K => R.eqlN (0) (0) (eU K 48 O) (kI 0 O) H,aU fun _ _ H K => R.pickF (eU K 47 O) (by rw [hf]; rfl) (eU K 49 O) O H,trivial⟩ O O O O (tU O ?_)
       refine W.condT O (decide_eq_true O) ?_
       refine W.seq ?_
       refine W.seq ?_
       refine W.l0 7 [.y 51 _,.y 52 _,.y 53 _,.y 54 _,.y 55 _,.y 56 _,.y 57 _] [] [] [(0,_),(2,_),(6,_),(7,_),(57,_)] [(6,.var _),(0,.var _)] 138 ⟨mU 0 O O,aU fun _ _ H K => R.nilcP (K 51 _ O) H,aU (fU 52 O O),aU (fU 53 O O),aU (lU 54 O O O O O O O),aU fun _ _ H K => R.lenE (SC.sl (K 55 _ O)) (List.length_map _) H,aU fun _ _ H K => R.eqlN (hs.length) (0) (eU K 56 O) (kI 0 O) H,trivial⟩ O O O O (tU O ?_)
       refine W.condD O (fun hc57 => ?_) (fun hc57 => ?_)
       · refine W.seq ?_
         refine W.l0 4 [.y 58 _,.y 59 _,.y 60 _] [] [] [(6,_),(60,_)] [(6,.var _),(0,.var _)] 138 ⟨mU 0 O O,aU fun _ _ H K => R.nilcP (K 58 _ O) H,aU (fU 59 O O),trivial⟩ O O O O (⟨O,_,R.stZ (gU 60 O) (xU 0 O) O (kB true O) (by rfl) (by rfl) (by rfl) (by rfl) O,tV [(6,_)] [(6,.var _),(0,.var _)] 138 O O O ?_⟩)
         refine W.seq ?_
         refine W.l0 2 [.y 61 _] [] [] [(6,_),(61,_)] [(6,.var _),(0,.var _)] 138 ⟨aU fun _ _ H _ => R.bldAZ O H,trivial⟩ O O O O (⟨O,_,R.stZ (gU 6 O) (xU 6 O) O (gV 61 O) (by rfl) (by rfl) (by rfl) (by rfl) O,tV [(6,_)] [(6,.var _),(0,.var _)] 138 O O O ?_⟩)
         refine W.ret ?_
         exact EndsB.one' (.inr O) O (by rw [fw_0 hc23,fl_1 hc57] <;> rfl) O (show LdT _ 38 32 true from inferInstance) O O (by rw [fw_0 hc23,fl_1 hc57] <;> rfl) ⟨O,trivial⟩ O
       · refine W.skip ?_
         refine W.seq ?_
         refine W.l0 9 [.y 62 _,.y 63 _,.y 64 _,.y 65 _,.y 66 _,.y 67 _,.y 68 _] [] [] [(0,_),(2,_),(6,_),(7,_),(68,_)] [(6,.var _),(0,.var _)] 138 ⟨mU 0 O O,aU fun _ _ H K => R.nilcP (K 62 _ O) H,aU (fU 63 O O),aU (fU 64 O O),aU (lU 65 O O O O O O O),aU fun _ _ H K => R.idxN (0) (SC.sl (K 66 _ O)) (evoI (kI 0 O)) O bU H (by decide),aU fun _ _ H K => R.ldE (K 67 _ O) (SC.sl (K 66 _ O)) (map_get! (l := hs) bU) O O O O H,trivial⟩ O O O O (⟨O,_,R.alloc O (nU O),⟨O,_,R.stZ (gU 8 O) (xU 8 O) O (gV 68 O) (by rfl) (by rfl) (by rfl) (by rfl) O,tV [(0,_),(2,_),(6,_),(7,_),(8,_)] [(8,.var _),(6,.var _),(0,.var _)] 138 O O O ?_⟩⟩)
         refine W.seq ?_
         refine W.l0 11 [.y 69 _,.y 70 _,.y 71 _,.y 72 _,.y 73 _,.y 74 _,.y 75 _,.y 76 _,.y 77 _,.y 78 _] [] [] [(0,_),(2,_),(6,_),(7,_),(8,_),(75,_),(78,_)] [(8,.var _),(6,.var _),(0,.var _)] 138 ⟨mU 0 O O,mU 0 O O,aU fun _ _ H K => R.nilcP (K 70 _ O) H,aU (fU 71 O O),aU (fU 72 O O),aU (lU 73 O O O O O O O),aU fun _ _ H K => R.slIN (1) (hs.length) ((hs.length - 1)) (eU K 74 O) (evoI (kI 1 O)) O O (by simp) bU bU O (show _ = (hs.drop 1).map hashD from by rw [List.take_of_length_le (by simp)]; simp) H,aU fun _ _ H K => R.nilcP (K 69 _ O) H,aU (fU 76 O O),aU (fU 77 O O),trivial⟩ O O O O (⟨O,_,R.stZ (gU 78 O) (xU 0 O) O (gV 75 O) (by rfl) (by rfl) (by rfl) (by rfl) O,tV [(0,_),(2,_),(6,_),(7,_),(8,_)] [(8,.var _),(6,.var _),(0,.var _)] 138 O O O ?_⟩)
         refine W.seq ?_
         refine W.seq ?_
         refine W.l0 1 [.y 79 _] [] [] [(0,_),(2,_),(6,_),(8,_),(79,_)] [(8,.var _),(6,.var _),(0,.var _)] 138 ⟨mU 7 O O,trivial⟩ O O O O (tU O ?_)
         refine W.condT O (hf) ?_
         refine W.seq ?_
         refine W.drawC (m := 8) (an := [0,0,2,6,14,0,32,126,255,511,1023]) (its := [.y 80 _,.y 81 _,.y 82 _,.y 83 _,.y 84 _,.y 85 _,.y 86 _,.y 87 _]) (ks := [(7,84)]) (kk := [(7,84)]) (live := [0,2,6,8,80,87]) (env' := [(0,_),(2,_),(6,_),(8,_),(80,_),(87,_)]) (bx1 := [(8,.var _),(6,.var _),(0,.var _)]) [(8,_),(6,_)] 7 [0] hP (by decide) O ⟨nU O,O,O,O⟩ ⟨O,⟨O,trivial⟩⟩ (              ⟨⟨O,O,fun _ τ hb ht hτ => R.mov (evt (hτ 0 _ O)) O ht⟩,⟨⟨O,O,fun _ τ hb ht hτ => R.mov (evt (hτ 0 _ O)) O ht⟩,⟨⟨O,O,fun _ τ hb ht hτ => R.nilcP (hτ 81 _ O) ht⟩,⟨⟨O,O,fun _ τ hb ht hτ => R.fdP (hτ 82 _ O) ht⟩,⟨⟨O,O,fun _ τ hb ht hτ => R.ldO (hτ 83 _ O) (hb 0 _ O) O ht⟩,⟨⟨O,O,fun _ τ hb ht hτ => R.ldP (hτ 8 _ O) (hb 8 _ O) O O O O ht⟩,⟨⟨O,O,fun _ τ hb ht hτ => R.bslE (z := 32) (.cons (evt (hτ 85 _ O)) .nil) ⟨⟨O,O,O⟩,trivial⟩ O ht (by decide)⟩,⟨⟨O,O,O,(SpC.appB (s := 84) O O O O O O (fun τ hb hτ => (SrcO.sc (SC.sl (hτ 86 _ O O O)) (pur_lit O))) (show _ = ((ids ++ [hs[0]!]).map hashD) from (by rw [List.map_append]; rfl)) bU (by decide) (by decide) O)⟩,trivial⟩⟩⟩⟩⟩⟩⟩⟩) O O O (nU O) ⟨O,⟨O,trivial⟩⟩ O (n' := 138) O (⟨O,_,R.nilcP (gU 80 O) (nU O),⟨O,_,R.fdP (gU 88 O) (nU O),⟨O,_,R.stOZ (gU 89 O) (xU 0 O) O (gU 87 O) O O (by rfl) (by rfl) O O,⟨[0,2,6,8],[(0,_),(2,_),(6,_),(8,_)],[(8,.var _),(6,.var _),(0,.var _)],138,O,O,O, ?_⟩⟩⟩⟩)
         refine W.l0 11 [.y 90 _,.y 91 _,.y 92 _,.y 93 _,.y 94 _,.y 95 _,.y 96 _] [] [] [(6,_),(8,_),(90,_),(94,_),(96,_)] [(8,.var _),(6,.var _),(0,.var _)] 138 ⟨mU 0 O O,mU 0 O O,aU fun _ _ H K => R.nilcP (K 91 _ O) H,aU (fU 92 O O),aU fun _ B H K => R.ldO (K 93 _ O) (B 0 _ O) O H,mU 2 O O,aU fun _ _ H K => R.bslE (z := 1) (.cons (eU K 95 O) .nil) ⟨⟨O,O,O⟩,trivial⟩ O H (by decide),trivial⟩ O O O O (⟨O,_,R.appBP (gU 94 O) (xU 0 O) O O O O (gU 94 O) (SrcO.sc (SC.sl (gU 96 O)) (pur_lit O)) (show _ = ((at_ ++ [k]).map natD) from (by rw [List.map_append]; rfl)) bU (nU O) (by decide) (by decide),⟨O,_,R.nilcP (gU 90 O) (nU O),⟨O,_,R.fdP (gU 98 O) (nU O),⟨O,_,R.stOZ (gU 99 O) (xU 0 O) O (gU 97 O) O O (by rfl) (by rfl) O O,tV [(6,_),(8,_)] [(8,.var _),(6,.var _),(0,.var _)] 138 O O O ?_⟩⟩⟩⟩)
         refine W.seq ?_
         refine W.l0 2 [.y 100 _] [] [] [(6,_),(100,_)] [(8,.var _),(6,.var _),(0,.var _)] 138 ⟨aU (lU 8 O O O O O O O),trivial⟩ O O O O (⟨O,_,R.stZ (gU 6 O) (xU 6 O) O (gV 100 O) (by rfl) (by rfl) (by rfl) (by rfl) O,tV [(6,_)] [(8,.var _),(6,.var _),(0,.var _)] 138 O O O ?_⟩)
         refine W.ret ?_
         exact EndsB.one' (.inr O) O (by rw [fw_0 hc23,fl_t hc57 hf] <;> rfl) O (show LdT _ 38 32 true from inferInstance) O O (by rw [fw_0 hc23,fl_t hc57 hf] <;> rfl) ⟨O,trivial⟩ O
     · refine W.l0 6 [.y 45 _,.y 46 _,.y 47 _,.x 48,.x 49,.y 50 _] [] [] [(0,_),(1,_),(2,_),(6,_),(7,_),(50,_)] [(6,.var _),(0,.var _)] 138 ⟨mU 7 O O,aU fun _ _ H K => R.un (eU K 45 O) O H,mU 46 O O,aF O O (gT (by rw [bfalse hf]; rfl) O),aF O O (gT (by rw [bfalse hf]; rfl) O),aU fun _ _ H K => R.pickT (eU K 47 O) (by rw [bfalse hf]; rfl) (kB true O) O H,trivial⟩ O O O O (tU O ?_)
       refine W.condT O (O) ?_
       refine W.seq ?_
       refine W.seq ?_
       refine W.l0 7 [.y 51 _,.y 52 _,.y 53 _,.y 54 _,.y 55 _,.y 56 _,.y 57 _] [] [] [(0,_),(2,_),(6,_),(7,_),(57,_)] [(6,.var _),(0,.var _)] 138 ⟨mU 0 O O,aU fun _ _ H K => R.nilcP (K 51 _ O) H,aU (fU 52 O O),aU (fU 53 O O),aU (lU 54 O O O O O O O),aU fun _ _ H K => R.lenE (SC.sl (K 55 _ O)) (List.length_map _) H,aU fun _ _ H K => R.eqlN (hs.length) (0) (eU K 56 O) (kI 0 O) H,trivial⟩ O O O O (tU O ?_)
       refine W.condD O (fun hc57 => ?_) (fun hc57 => ?_)
       · refine W.seq ?_
         refine W.l0 4 [.y 58 _,.y 59 _,.y 60 _] [] [] [(6,_),(60,_)] [(6,.var _),(0,.var _)] 138 ⟨mU 0 O O,aU fun _ _ H K => R.nilcP (K 58 _ O) H,aU (fU 59 O O),trivial⟩ O O O O (⟨O,_,R.stZ (gU 60 O) (xU 0 O) O (kB true O) (by rfl) (by rfl) (by rfl) (by rfl) O,tV [(6,_)] [(6,.var _),(0,.var _)] 138 O O O ?_⟩)
         refine W.seq ?_
         refine W.l0 2 [.y 61 _] [] [] [(6,_),(61,_)] [(6,.var _),(0,.var _)] 138 ⟨aU fun _ _ H _ => R.bldAZ O H,trivial⟩ O O O O (⟨O,_,R.stZ (gU 6 O) (xU 6 O) O (gV 61 O) (by rfl) (by rfl) (by rfl) (by rfl) O,tV [(6,_)] [(6,.var _),(0,.var _)] 138 O O O ?_⟩)
         refine W.ret ?_
         exact EndsB.one' (.inr O) O (by rw [fw_0 hc23,fl_1 hc57] <;> rfl) O (show LdT _ 38 32 true from inferInstance) O O (by rw [fw_0 hc23,fl_1 hc57] <;> rfl) ⟨O,trivial⟩ O
       · refine W.skip ?_
         refine W.seq ?_
         refine W.l0 9 [.y 62 _,.y 63 _,.y 64 _,.y 65 _,.y 66 _,.y 67 _,.y 68 _] [] [] [(0,_),(2,_),(6,_),(7,_),(68,_)] [(6,.var _),(0,.var _)] 138 ⟨mU 0 O O,aU fun _ _ H K => R.nilcP (K 62 _ O) H,aU (fU 63 O O),aU (fU 64 O O),aU (lU 65 O O O O O O O),aU fun _ _ H K => R.idxN (0) (SC.sl (K 66 _ O)) (evoI (kI 0 O)) O bU H (by decide),aU fun _ _ H K => R.ldE (K 67 _ O) (SC.sl (K 66 _ O)) (map_get! (l := hs) bU) O O O O H,trivial⟩ O O O O (⟨O,_,R.alloc O (nU O),⟨O,_,R.stZ (gU 8 O) (xU 8 O) O (gV 68 O) (by rfl) (by rfl) (by rfl) (by rfl) O,tV [(0,_),(2,_),(6,_),(7,_),(8,_)] [(8,.var _),(6,.var _),(0,.var _)] 138 O O O ?_⟩⟩)
         refine W.seq ?_
         refine W.l0 11 [.y 69 _,.y 70 _,.y 71 _,.y 72 _,.y 73 _,.y 74 _,.y 75 _,.y 76 _,.y 77 _,.y 78 _] [] [] [(0,_),(2,_),(6,_),(7,_),(8,_),(75,_),(78,_)] [(8,.var _),(6,.var _),(0,.var _)] 138 ⟨mU 0 O O,mU 0 O O,aU fun _ _ H K => R.nilcP (K 70 _ O) H,aU (fU 71 O O),aU (fU 72 O O),aU (lU 73 O O O O O O O),aU fun _ _ H K => R.slIN (1) (hs.length) ((hs.length - 1)) (eU K 74 O) (evoI (kI 1 O)) O O (by simp) bU bU O (show _ = (hs.drop 1).map hashD from by rw [List.take_of_length_le (by simp)]; simp) H,aU fun _ _ H K => R.nilcP (K 69 _ O) H,aU (fU 76 O O),aU (fU 77 O O),trivial⟩ O O O O (⟨O,_,R.stZ (gU 78 O) (xU 0 O) O (gV 75 O) (by rfl) (by rfl) (by rfl) (by rfl) O,tV [(0,_),(2,_),(6,_),(7,_),(8,_)] [(8,.var _),(6,.var _),(0,.var _)] 138 O O O ?_⟩)
         refine W.seq ?_
         refine W.seq ?_
         refine W.l0 1 [.y 79 _] [] [] [(0,_),(2,_),(6,_),(8,_),(79,_)] [(8,.var _),(6,.var _),(0,.var _)] 138 ⟨mU 7 O O,trivial⟩ O O O O (tU O ?_)
         refine W.condF O (bfalse hf) ?_
         refine W.skip ?_
         refine W.seq ?_
         refine W.l0 2 [.y 100 _] [] [] [(6,_),(100,_)] [(8,.var _),(6,.var _),(0,.var _)] 138 ⟨aU (lU 8 O O O O O O O),trivial⟩ O O O O (⟨O,_,R.stZ (gU 6 O) (xU 6 O) O (gV 100 O) (by rfl) (by rfl) (by rfl) (by rfl) O,tV [(6,_)] [(8,.var _),(6,.var _),(0,.var _)] 138 O O O ?_⟩)
         refine W.ret ?_
         exact EndsB.one' (.inr O) O (by rw [fw_0 hc23,fl_f hc57 (bfalse hf)] <;> rfl) O (show LdT _ 38 32 true from inferInstance) O O (by rw [fw_0 hc23,fl_f hc57 (bfalse hf)] <;> rfl) ⟨O,trivial⟩ O

set_option maxHeartbeats 2000000 in
theorem from1 (n : Int) (w : List Nat) (r : Nat) (hrow : r + 1 ≤ w.length) (hw : w.length ≤ 20) (hwb : ∀ j : Nat,w[j]! ≤ 1000) (k : Nat) (bad : Bool) (fl : List Bool) (hs ids : List Hs) (at_ : List Nat) (hk : (k + 1) * 2 ^ (r + 1) ≤ 100000) (hh : allH hs) (hl0 : hs.length ≤ 1000000) (hi : ids.length + fl.length ≤ 100000) (ha : at_.length + fl.length ≤ 100000) (ih : ∀ (k : Nat) (bad : Bool) (fl : List Bool) (hs ids : List Hs) (at_ : List Nat),(k + 1) * 2 ^ r ≤ 100000 → allH hs → hs.length ≤ 1000000 → ids.length + fl.length ≤ 100000 → at_.length + fl.length ≤ 100000 → FwP n w r k bad fl hs ids at_) : FnB Tryd.prog gl 31 [.ptr 0 0 [],.int ((r + 1 : Nat) : Int),.int ((k : Nat) : Int)] [(0,.var (.agg [.agg [.int n,.sl none 32 (hs.map hashD),.sl none 1 (fl.map D.bool)],.sl none 1 (w.map natD),.sl (some 38) 32 (ids.map hashD),.sl (some 3) 1 (at_.map natD),.bool bad]))] (hashD (fwW w (r + 1) k (bad,fl,hs,ids,at_)).1) [(0,.var (.agg [.agg [.int n,.sl none 32 ((fwW w (r + 1) k (bad,fl,hs,ids,at_)).2.2.2.1.map hashD),.sl none 1 ((fwW w (r + 1) k (bad,fl,hs,ids,at_)).2.2.1.map D.bool)],.sl none 1 (w.map natD),.sl (some 38) 32 ((fwW w (r + 1) k (bad,fl,hs,ids,at_)).2.2.2.2.1.map hashD),.sl (some 3) 1 ((fwW w (r + 1) k (bad,fl,hs,ids,at_)).2.2.2.2.2.map natD),.bool (fwW w (r + 1) k (bad,fl,hs,ids,at_)).2.1]))] [] := by
 refine FnB.of (n := 138) (ids := [0]) Tryd.func31 rfl rfl rfl (nU rfl) fun C hC hD => ?_
 refine W.seq ?_
 refine W.l0 1 [] [] [] [(0,_),(1,_),(2,_)] [(0,.var _)] 138 trivial O O O O (⟨O,_,R.alloc O (nU O),tV [(0,_),(1,_),(2,_),(6,_)] [(6,.var _),(0,.var _)] 138 O O O ?_⟩)
 refine W.seq ?_
 refine W.seq ?_
 by_cases hbad : bad = true
 · refine W.l0 13 [.y 11 _,.y 12 _,.y 13 _,.y 14 _,.y 15 _,.x 16,.x 17,.x 18,.x 19,.x 20,.x 21,.x 22,.y 23 _] [] [] [(0,_),(1,_),(2,_),(6,_),(23,_)] [(6,.var _),(0,.var _)] 138 ⟨mU 0 O O,aU fun _ _ H K => R.nilcP (K 11 _ O) H,aU (fU 12 O O),aU (lU 13 O O O O O O O),mU 14 O O,aF O O (gT (hbad) O),aF O O (gT (hbad) O),aF O O (gT (hbad) O),aF O O (gT (hbad) O),aF O O (gT (hbad) O),aF O O (gT (hbad) O),aF O O (gT (hbad) O),aU fun _ _ H K => R.pickT (eU K 15 O) (hbad) (kB true O) O H,trivial⟩ O O O O (tU O ?_)
   refine W.condT O (O) ?_
   refine W.seq ?_
   refine W.l0 4 [.y 24 _,.y 25 _,.y 26 _] [] [] [(6,_),(26,_)] [(6,.var _),(0,.var _)] 138 ⟨mU 0 O O,aU fun _ _ H K => R.nilcP (K 24 _ O) H,aU (fU 25 O O),trivial⟩ O O O O (⟨O,_,R.stZ (gU 26 O) (xU 0 O) O (kB true O) (by rfl) (by rfl) (by rfl) (by rfl) O,tV [(6,_)] [(6,.var _),(0,.var _)] 138 O O O ?_⟩)
   refine W.seq ?_
   refine W.l0 2 [.y 27 _] [] [] [(6,_),(27,_)] [(6,.var _),(0,.var _)] 138 ⟨aU fun _ _ H _ => R.bldAZ O H,trivial⟩ O O O O (⟨O,_,R.stZ (gU 6 O) (xU 6 O) O (gV 27 O) (by rfl) (by rfl) (by rfl) (by rfl) O,tV [(6,_)] [(6,.var _),(0,.var _)] 138 O O O ?_⟩)
   refine W.ret ?_
   exact EndsB.one' (.inr O) O (by rw [fw_1 (.inl hbad)] <;> rfl) O (show LdT _ 38 32 true from inferInstance) O O (by rw [fw_1 (.inl hbad)] <;> rfl) ⟨O,trivial⟩ O
 · refine W.l0 13 [.y 11 _,.y 12 _,.y 13 _,.y 14 _,.y 15 _,.y 16 _,.y 17 _,.y 18 _,.y 19 _,.y 20 _,.y 21 _,.y 22 _,.y 23 _] [] [] [(0,_),(1,_),(2,_),(6,_),(23,_)] [(6,.var _),(0,.var _)] 138 ⟨mU 0 O O,aU fun _ _ H K => R.nilcP (K 11 _ O) H,aU (fU 12 O O),aU (lU 13 O O O O O O O),mU 14 O O,aW O O (gF (bfalse hbad) O) fun _ _ H K => R.mov (eU K 0 O) O H,aW O O (gF (bfalse hbad) O) fun _ _ H K => R.nilcP (K 16 _ O) H,aW O O (gF (bfalse hbad) O) (fU 17 O O),aW O O (gF (bfalse hbad) O) (fU 18 O O),aW O O (gF (bfalse hbad) O) (lU 19 O O O O O O O),aW O O (gF (bfalse hbad) O) fun _ _ H K => R.lenE (SC.sl (K 20 _ O)) (List.length_map _) H,aW O O (gF (bfalse hbad) O) fun _ _ H K => R.eqlN (fl.length) (0) (eU K 21 O) (kI 0 O) H,aU fun _ _ H K => R.pickF (eU K 15 O) (bfalse hbad) (eU K 22 O) O H,trivial⟩ O O O O (tU O ?_)
   refine W.condD O (fun hc23 => ?_) (fun hc23 => ?_)
   · refine W.seq ?_
     refine W.l0 4 [.y 24 _,.y 25 _,.y 26 _] [] [] [(6,_),(26,_)] [(6,.var _),(0,.var _)] 138 ⟨mU 0 O O,aU fun _ _ H K => R.nilcP (K 24 _ O) H,aU (fU 25 O O),trivial⟩ O O O O (⟨O,_,R.stZ (gU 26 O) (xU 0 O) O (kB true O) (by rfl) (by rfl) (by rfl) (by rfl) O,tV [(6,_)] [(6,.var _),(0,.var _)] 138 O O O ?_⟩)
     refine W.seq ?_
     refine W.l0 2 [.y 27 _] [] [] [(6,_),(27,_)] [(6,.var _),(0,.var _)] 138 ⟨aU fun _ _ H _ => R.bldAZ O H,trivial⟩ O O O O (⟨O,_,R.stZ (gU 6 O) (xU 6 O) O (gV 27 O) (by rfl) (by rfl) (by rfl) (by rfl) O,tV [(6,_)] [(6,.var _),(0,.var _)] 138 O O O ?_⟩)
     refine W.ret ?_
     exact EndsB.one' (.inr O) O (by rw [fw_1 (.inr hc23)] <;> rfl) O (show LdT _ 38 32 true from inferInstance) O O (by rw [fw_1 (.inr hc23)] <;> rfl) ⟨O,trivial⟩ O
   · refine W.skip ?_
     refine W.seq ?_
     obtain rfl : bad = false := bfalse hbad
     refine W.l0 8 [.y 28 _,.y 29 _,.y 30 _,.y 31 _,.y 32 _,.y 33 _,.y 34 _,.y 7 _] [] [] [(0,_),(1,_),(2,_),(6,_),(7,_)] [(6,.var _),(0,.var _)] 138 ⟨mU 0 O O,aU fun _ _ H K => R.nilcP (K 28 _ O) H,aU (fU 29 O O),aU (fU 30 O O),aU (lU 31 O O O O O O O),aU fun _ _ H K => R.idxN (0) (SC.sl (K 32 _ O)) (evoI (kI 0 O)) O bU H (by decide),aU fun _ _ H K => R.ldE (K 33 _ O) (SC.sl (K 32 _ O)) (map_get! (l := fl) bU) O O O O H,aU fun _ _ H K => R.asg (eU K 34 O) O H,trivial⟩ O O O O (tU O ?_)
     refine W.seq ?_
     refine W.l0 11 [.y 35 _,.y 36 _,.y 37 _,.y 38 _,.y 39 _,.y 40 _,.y 41 _,.y 42 _,.y 43 _,.y 44 _] [] [] [(0,_),(1,_),(2,_),(6,_),(7,_),(41,_),(44,_)] [(6,.var _),(0,.var _)] 138 ⟨mU 0 O O,mU 0 O O,aU fun _ _ H K => R.nilcP (K 36 _ O) H,aU (fU 37 O O),aU (fU 38 O O),aU (lU 39 O O O O O O O),aU fun _ _ H K => R.slIN (1) (fl.length) ((fl.length - 1)) (eU K 40 O) (evoI (kI 1 O)) O O (by simp) bU bU O (show _ = (fl.drop 1).map D.bool from by rw [List.take_of_length_le (by simp)]; simp) H,aU fun _ _ H K => R.nilcP (K 35 _ O) H,aU (fU 42 O O),aU (fU 43 O O),trivial⟩ O O O O (⟨O,_,R.stZ (gU 44 O) (xU 0 O) O (gV 41 O) (by rfl) (by rfl) (by rfl) (by rfl) O,tV [(0,_),(1,_),(2,_),(6,_),(7,_)] [(6,.var _),(0,.var _)] 138 O O O ?_⟩)
     refine W.seq ?_
     refine W.seq ?_
     by_cases hf : fl[0]! = true
     · refine W.l0 6 [.y 45 _,.y 46 _,.y 47 _,.y 48 _,.y 49 _,.y 50 _] [] [] [(0,_),(1,_),(2,_),(6,_),(7,_),(50,_)] [(6,.var _),(0,.var _)] 138 ⟨mU 7 O O,aU fun _ _ H K => R.un (eU K 45 O) O H,mU 46 O O,aW O O (gF (by rw [hf]; rfl) O) fun _ _ H K => R.mov (eU K 1 O) O H,aW O O (gF (by rw [hf]; rfl) O) fun _ _ H K => R.eqlN (r + 1) (0) (eU K 48 O) (kI 0 O) H,aU fun _ _ H K => R.pickF (eU K 47 O) (by rw [hf]; rfl) (eU K 49 O) O H,trivial⟩ O O O O (tU O ?_)
       refine W.condF O (decide_eq_false (Nat.succ_ne_zero _)) ?_
       refine W.skip ?_
       refine W.seq ?_
       have hpw : (k + 1) * 2 ^ (r + 1) = (2 * k + 1 + 1) * 2 ^ r := by rw [Nat.pow_succ,← Nat.mul_assoc,Nat.mul_right_comm,show 2 * k + 1 + 1 = (k + 1) * 2 by omega]
       have hpk : 1 ≤ 2 ^ r := Nat.one_le_two_pow
       have hkk : 2 * k + 1 + 1 ≤ 100000 := Nat.le_trans (Nat.le_mul_of_pos_right _ hpk) (by omega)
       have hk0 : (2 * k + 1) * 2 ^ r ≤ 100000 := Nat.le_trans (Nat.mul_le_mul_right _ (Nat.le_succ _)) (Nat.le_trans (Nat.le_of_eq hpw.symm) hk)
       obtain ⟨a,bad1,fl1,hs1,ids1,at1,hX⟩ : ∃ o_ q_ f_ h_ i_ a_,fwW w r (2 * k) (false,(fl.drop 1),hs,ids,at_) = (o_,q_,f_,h_,i_,a_) := ⟨_,_,_,_,_,_,rfl⟩
       have hXo := fwW_ok w r (2 * k) (false,fl.drop 1,hs,ids,at_) hh
       rw [hX] at hXo
       obtain ⟨ho1,ho2,ho3,ho4,ho5,_⟩ := hXo
       simp only [List.length_drop] at ho1 ho3 ho4 ho5
       refine W.l0 8 [.y 101 _,.y 102 _,.y 103 _,.y 104 _,.y 105 _] [] [] [(0,_),(1,_),(2,_),(6,_),(101,_),(103,_),(105,_)] [(6,.var _),(0,.var _)] 138 ⟨mU 0 O O,mU 1 O O,aU fun _ _ H K => R.binE (d := .int ((r : Nat) : Int)) (eU K 102 O) (kI 1 O) O trivial (wr_eq (by omega) (by omega) (by omega)) H,mU 2 O O,aU fun _ _ H K => R.mulN (2) (k) (kI 2 O) (eU K 104 O) bU H,trivial⟩ O O O O (⟨O,_,R.callB [(0,0)] hC (show FnB Tryd.prog gl 31 [.ptr 0 0 [],.int ((r : Nat) : Int),.int ((2 * k : Nat) : Int)] [(0,.var (.agg [.agg [.int n,.sl none 32 (hs.map hashD),.sl none 1 ((fl.drop 1).map D.bool)],.sl none 1 (w.map natD),.sl (some 38) 32 (ids.map hashD),.sl (some 3) 1 (at_.map natD),.bool false]))] (hashD a) [(0,.var (.agg [.agg [.int n,.sl none 32 (hs1.map hashD),.sl none 1 (fl1.map D.bool)],.sl none 1 (w.map natD),.sl (some 38) 32 (ids1.map hashD),.sl (some 3) 1 (at1.map natD),.bool bad1]))] [] from by have h := ih (2 * k) false (fl.drop 1) hs ids at_ hk0 hh hl0 (by simp only [List.length_drop]; omega) (by simp only [List.length_drop]; omega); unfold FwP at h; rw [hX] at h; exact h) (EvB.cons (gV 101 O) O O O (EvB.cons (gV 103 O) O O O (EvB.cons (gV 105 O) O O O EvB.nil))) O ⟨O,trivial⟩ ⟨O,trivial⟩ O O O O O O (nU O),⟨O,_,R.alloc O (nU O),⟨O,_,R.stZ (gU 9 O) (xU 9 O) O (gV 106 O) (by rfl) (by rfl) (by rfl) (by rfl) O,tV [(0,_),(1,_),(2,_),(6,_),(9,_)] [(9,.var _),(6,.var _),(0,.var _)] 138 O O O ?_⟩⟩⟩)
       refine W.seq ?_
       refine W.seq ?_
       refine W.l0 12 [.y 107 _,.y 108 _,.y 109 _,.y 110 _,.y 111 _,.y 112 _,.y 113 _,.y 114 _,.y 115 _,.y 116 _,.y 117 _,.y 118 _] [] [] [(0,_),(1,_),(2,_),(6,_),(9,_),(118,_)] [(9,.var _),(6,.var _),(0,.var _)] 138 ⟨mU 2 O O,aU fun _ _ H K => R.mulN (2) (k) (kI 2 O) (eU K 107 O) bU H,aU fun _ _ H K => R.addN ((2 * k)) (1) (eU K 108 O) (kI 1 O) bU H,mU 0 O O,aU fun _ _ H K => R.nilcP (K 110 _ O) H,aU (fU 111 O O),aU (lU 112 O O O O O O O),mU 1 O O,aU fun _ _ H K => R.binE (d := .int ((r : Nat) : Int)) (eU K 114 O) (kI 1 O) O trivial (wr_eq (by omega) (by omega) (by omega)) H,aU fun _ _ H K => R.idxN (r) (SC.sl (K 113 _ O)) (evoI (eU K 115 O)) O bU H (by decide),aU fun _ _ H K => R.ldE (K 116 _ O) (SC.sl (K 113 _ O)) (map_get! (l := w) bU) O O O O H,aU fun _ _ H K => R.geqN (((2 * k) + 1)) (w[r]!) (eU K 109 O) (eU K 117 O) H,trivial⟩ O O O O (tU O ?_)
       refine W.condD O (fun hc118 => ?_) (fun hc118 => ?_)
       · refine W.seq ?_
         refine W.l0 4 [.y 119 _,.y 120 _,.y 121 _] [] [] [(6,_),(121,_)] [(9,.var _),(6,.var _),(0,.var _)] 138 ⟨aU (lU 9 O O O O O O O),aU (lU 9 O O O O O O O),aU fun _ _ H K => R.callG hC (rjoin_ok a a ho1 ho1) (Bors.cons (Bor.pur (eU K 119 O) O O) (Bors.cons (Bor.pur (eU K 120 O) O O) Bors.nil)) (FrsR.one (frs_hash _)) H,trivial⟩ O O O O (⟨O,_,R.stZ (gU 6 O) (xU 6 O) O (gV 121 O) (by rfl) (by rfl) (by rfl) (by rfl) O,tV [(6,_)] [(9,.var _),(6,.var _),(0,.var _)] 138 O O O ?_⟩)
         refine W.ret ?_
         exact EndsB.one' (.inr O) O (by rw [fw_s hc23 hf hX (by omega)] <;> rfl) O (show LdT _ 38 32 true from inferInstance) O O (by rw [fw_s hc23 hf hX (by omega)] <;> rfl) ⟨O,trivial⟩ O
       · refine W.skip ?_
         refine W.seq ?_
         obtain ⟨b,bad2,fl2,hs2,ids2,at2,hY⟩ : ∃ o_ q_ f_ h_ i_ a_,fwW w r (2 * k + 1) (bad1,fl1,hs1,ids1,at1) = (o_,q_,f_,h_,i_,a_) := ⟨_,_,_,_,_,_,rfl⟩
         have hYo := (fwW_ok w r (2 * k + 1) (bad1,fl1,hs1,ids1,at1) ho2).h
         rw [hY] at hYo
         refine W.l0 9 [.y 122 _,.y 123 _,.y 124 _,.y 125 _,.y 126 _,.y 127 _] [] [] [(0,_),(6,_),(9,_),(122,_),(124,_),(127,_)] [(9,.var _),(6,.var _),(0,.var _)] 138 ⟨mU 0 O O,mU 1 O O,aU fun _ _ H K => R.binE (d := .int ((r : Nat) : Int)) (eU K 123 O) (kI 1 O) O trivial (wr_eq (by omega) (by omega) (by omega)) H,mU 2 O O,aU fun _ _ H K => R.mulN (2) (k) (kI 2 O) (eU K 125 O) bU H,aU fun _ _ H K => R.addN ((2 * k)) (1) (eU K 126 O) (kI 1 O) bU H,trivial⟩ O O O O (⟨O,_,R.callB [(0,0)] hC (show FnB Tryd.prog gl 31 [.ptr 0 0 [],.int ((r : Nat) : Int),.int ((2 * k + 1 : Nat) : Int)] [(0,.var (.agg [.agg [.int n,.sl none 32 (hs1.map hashD),.sl none 1 (fl1.map D.bool)],.sl none 1 (w.map natD),.sl (some 38) 32 (ids1.map hashD),.sl (some 3) 1 (at1.map natD),.bool bad1]))] (hashD b) [(0,.var (.agg [.agg [.int n,.sl none 32 (hs2.map hashD),.sl none 1 (fl2.map D.bool)],.sl none 1 (w.map natD),.sl (some 38) 32 (ids2.map hashD),.sl (some 3) 1 (at2.map natD),.bool bad2]))] [] from by have h := ih (2 * k + 1) bad1 fl1 hs1 ids1 at1 (by omega) ho2 (by omega) (by omega) (by omega); unfold FwP at h; rw [hY] at h; exact h) (EvB.cons (gV 122 O) O O O (EvB.cons (gV 124 O) O O O (EvB.cons (gV 127 O) O O O EvB.nil))) O ⟨O,trivial⟩ ⟨O,trivial⟩ O O O O O O (nU O),⟨O,_,R.alloc O (nU O),⟨O,_,R.stZ (gU 10 O) (xU 10 O) O (gV 128 O) (by rfl) (by rfl) (by rfl) (by rfl) O,tV [(0,_),(6,_),(9,_),(10,_)] [(10,.var _),(9,.var _),(6,.var _),(0,.var _)] 138 O O O ?_⟩⟩⟩)
         refine W.seq ?_
         refine W.seq ?_
         refine W.l0 3 [.y 129 _,.y 130 _,.y 131 _] [] [] [(0,_),(6,_),(9,_),(10,_),(131,_)] [(10,.var _),(9,.var _),(6,.var _),(0,.var _)] 138 ⟨aU (lU 9 O O O O O O O),aU (lU 10 O O O O O O O),aU fun _ _ H K => R.eqAE (eU K 129 O) (eU K 130 O) H,trivial⟩ O O O O (tU O ?_)
         refine W.cond O (fun hc131 => ?_) (fun hc131 => ?_)
         · refine W.l0 4 [.y 132 _,.y 133 _,.y 134 _] [] [] [(6,_),(9,_),(10,_),(134,_)] [(10,.var _),(9,.var _),(6,.var _),(0,.var _)] 138 ⟨mU 0 O O,aU fun _ _ H K => R.nilcP (K 132 _ O) H,aU (fU 133 O O),trivial⟩ O O O O (⟨O,_,R.stZ (gU 134 O) (xU 0 O) O (kB true O) (by rfl) (by rfl) (by rfl) (by rfl) O,tV [(6,_),(9,_),(10,_)] [(10,.var _),(9,.var _),(6,.var _),(0,.var _)] 138 O O O ?_⟩)
           refine W.seq ?_
           refine W.l0 4 [.y 135 _,.y 136 _,.y 137 _] [] [] [(6,_),(137,_)] [(10,.var _),(9,.var _),(6,.var _),(0,.var _)] 138 ⟨aU (lU 9 O O O O O O O),aU (lU 10 O O O O O O O),aU fun _ _ H K => R.callG hC (rjoin_ok a b ho1 hYo) (Bors.cons (Bor.pur (eU K 135 O) O O) (Bors.cons (Bor.pur (eU K 136 O) O O) Bors.nil)) (FrsR.one (frs_hash _)) H,trivial⟩ O O O O (⟨O,_,R.stZ (gU 6 O) (xU 6 O) O (gV 137 O) (by rfl) (by rfl) (by rfl) (by rfl) O,tV [(6,_)] [(10,.var _),(9,.var _),(6,.var _),(0,.var _)] 138 O O O ?_⟩)
           refine W.ret ?_
           exact EndsB.one' (.inr O) O (by rw [fw_b hc23 hf hX (by omega) hY] <;> rfl) O (show LdT _ 38 32 true from inferInstance) O O (by rw [fw_b hc23 hf hX (by omega) hY,or_t hc131] <;> rfl) ⟨O,trivial⟩ O
         · refine W.skip ?_
           refine W.seq ?_
           refine W.l0 4 [.y 135 _,.y 136 _,.y 137 _] [] [] [(6,_),(137,_)] [(10,.var _),(9,.var _),(6,.var _),(0,.var _)] 138 ⟨aU (lU 9 O O O O O O O),aU (lU 10 O O O O O O O),aU fun _ _ H K => R.callG hC (rjoin_ok a b ho1 hYo) (Bors.cons (Bor.pur (eU K 135 O) O O) (Bors.cons (Bor.pur (eU K 136 O) O O) Bors.nil)) (FrsR.one (frs_hash _)) H,trivial⟩ O O O O (⟨O,_,R.stZ (gU 6 O) (xU 6 O) O (gV 137 O) (by rfl) (by rfl) (by rfl) (by rfl) O,tV [(6,_)] [(10,.var _),(9,.var _),(6,.var _),(0,.var _)] 138 O O O ?_⟩)
           refine W.ret ?_
           exact EndsB.one' (.inr O) O (by rw [fw_b hc23 hf hX (by omega) hY] <;> rfl) O (show LdT _ 38 32 true from inferInstance) O O (by rw [fw_b hc23 hf hX (by omega) hY,or_f hc131] <;> rfl) ⟨O,trivial⟩ O
     · refine W.l0 6 [.y 45 _,.y 46 _,.y 47 _,.x 48,.x 49,.y 50 _] [] [] [(0,_),(1,_),(2,_),(6,_),(7,_),(50,_)] [(6,.var _),(0,.var _)] 138 ⟨mU 7 O O,aU fun _ _ H K => R.un (eU K 45 O) O H,mU 46 O O,aF O O (gT (by rw [bfalse hf]; rfl) O),aF O O (gT (by rw [bfalse hf]; rfl) O),aU fun _ _ H K => R.pickT (eU K 47 O) (by rw [bfalse hf]; rfl) (kB true O) O H,trivial⟩ O O O O (tU O ?_)
       refine W.condT O (O) ?_
       refine W.seq ?_
       refine W.seq ?_
       refine W.l0 7 [.y 51 _,.y 52 _,.y 53 _,.y 54 _,.y 55 _,.y 56 _,.y 57 _] [] [] [(0,_),(2,_),(6,_),(7,_),(57,_)] [(6,.var _),(0,.var _)] 138 ⟨mU 0 O O,aU fun _ _ H K => R.nilcP (K 51 _ O) H,aU (fU 52 O O),aU (fU 53 O O),aU (lU 54 O O O O O O O),aU fun _ _ H K => R.lenE (SC.sl (K 55 _ O)) (List.length_map _) H,aU fun _ _ H K => R.eqlN (hs.length) (0) (eU K 56 O) (kI 0 O) H,trivial⟩ O O O O (tU O ?_)
       refine W.condD O (fun hc57 => ?_) (fun hc57 => ?_)
       · refine W.seq ?_
         refine W.l0 4 [.y 58 _,.y 59 _,.y 60 _] [] [] [(6,_),(60,_)] [(6,.var _),(0,.var _)] 138 ⟨mU 0 O O,aU fun _ _ H K => R.nilcP (K 58 _ O) H,aU (fU 59 O O),trivial⟩ O O O O (⟨O,_,R.stZ (gU 60 O) (xU 0 O) O (kB true O) (by rfl) (by rfl) (by rfl) (by rfl) O,tV [(6,_)] [(6,.var _),(0,.var _)] 138 O O O ?_⟩)
         refine W.seq ?_
         refine W.l0 2 [.y 61 _] [] [] [(6,_),(61,_)] [(6,.var _),(0,.var _)] 138 ⟨aU fun _ _ H _ => R.bldAZ O H,trivial⟩ O O O O (⟨O,_,R.stZ (gU 6 O) (xU 6 O) O (gV 61 O) (by rfl) (by rfl) (by rfl) (by rfl) O,tV [(6,_)] [(6,.var _),(0,.var _)] 138 O O O ?_⟩)
         refine W.ret ?_
         exact EndsB.one' (.inr O) O (by rw [fw_l hc23 (bfalse hf),fl_1 hc57] <;> rfl) O (show LdT _ 38 32 true from inferInstance) O O (by rw [fw_l hc23 (bfalse hf),fl_1 hc57] <;> rfl) ⟨O,trivial⟩ O
       · refine W.skip ?_
         refine W.seq ?_
         refine W.l0 9 [.y 62 _,.y 63 _,.y 64 _,.y 65 _,.y 66 _,.y 67 _,.y 68 _] [] [] [(0,_),(2,_),(6,_),(7,_),(68,_)] [(6,.var _),(0,.var _)] 138 ⟨mU 0 O O,aU fun _ _ H K => R.nilcP (K 62 _ O) H,aU (fU 63 O O),aU (fU 64 O O),aU (lU 65 O O O O O O O),aU fun _ _ H K => R.idxN (0) (SC.sl (K 66 _ O)) (evoI (kI 0 O)) O bU H (by decide),aU fun _ _ H K => R.ldE (K 67 _ O) (SC.sl (K 66 _ O)) (map_get! (l := hs) bU) O O O O H,trivial⟩ O O O O (⟨O,_,R.alloc O (nU O),⟨O,_,R.stZ (gU 8 O) (xU 8 O) O (gV 68 O) (by rfl) (by rfl) (by rfl) (by rfl) O,tV [(0,_),(2,_),(6,_),(7,_),(8,_)] [(8,.var _),(6,.var _),(0,.var _)] 138 O O O ?_⟩⟩)
         refine W.seq ?_
         refine W.l0 11 [.y 69 _,.y 70 _,.y 71 _,.y 72 _,.y 73 _,.y 74 _,.y 75 _,.y 76 _,.y 77 _,.y 78 _] [] [] [(0,_),(2,_),(6,_),(7,_),(8,_),(75,_),(78,_)] [(8,.var _),(6,.var _),(0,.var _)] 138 ⟨mU 0 O O,mU 0 O O,aU fun _ _ H K => R.nilcP (K 70 _ O) H,aU (fU 71 O O),aU (fU 72 O O),aU (lU 73 O O O O O O O),aU fun _ _ H K => R.slIN (1) (hs.length) ((hs.length - 1)) (eU K 74 O) (evoI (kI 1 O)) O O (by simp) bU bU O (show _ = (hs.drop 1).map hashD from by rw [List.take_of_length_le (by simp)]; simp) H,aU fun _ _ H K => R.nilcP (K 69 _ O) H,aU (fU 76 O O),aU (fU 77 O O),trivial⟩ O O O O (⟨O,_,R.stZ (gU 78 O) (xU 0 O) O (gV 75 O) (by rfl) (by rfl) (by rfl) (by rfl) O,tV [(0,_),(2,_),(6,_),(7,_),(8,_)] [(8,.var _),(6,.var _),(0,.var _)] 138 O O O ?_⟩)
         refine W.seq ?_
         refine W.seq ?_
         refine W.l0 1 [.y 79 _] [] [] [(0,_),(2,_),(6,_),(8,_),(79,_)] [(8,.var _),(6,.var _),(0,.var _)] 138 ⟨mU 7 O O,trivial⟩ O O O O (tU O ?_)
         refine W.condF O (bfalse hf) ?_
         refine W.skip ?_
         refine W.seq ?_
         refine W.l0 2 [.y 100 _] [] [] [(6,_),(100,_)] [(8,.var _),(6,.var _),(0,.var _)] 138 ⟨aU (lU 8 O O O O O O O),trivial⟩ O O O O (⟨O,_,R.stZ (gU 6 O) (xU 6 O) O (gV 100 O) (by rfl) (by rfl) (by rfl) (by rfl) O,tV [(6,_)] [(8,.var _),(6,.var _),(0,.var _)] 138 O O O ?_⟩)
         refine W.ret ?_
         exact EndsB.one' (.inr O) O (by rw [fw_l hc23 (bfalse hf),fl_f hc57 (bfalse hf)] <;> rfl) O (show LdT _ 38 32 true from inferInstance) O O (by rw [fw_l hc23 (bfalse hf),fl_f hc57 (bfalse hf)] <;> rfl) ⟨O,trivial⟩ O

end Go.Sx

namespace Go.Sx
open Go.Proofs
theorem fwalk {n : Int} {w : List Nat} (hw : w.length ≤ 20) (hwb : ∀ j : Nat,w[j]! ≤ 1000) :
 ∀ (r : Nat),r ≤ w.length → ∀ (k : Nat) (bad : Bool) (fl : List Bool) (hs ids : List Hs) (at_ : List Nat),(k + 1) * 2 ^ r ≤ 100000 → allH hs → hs.length ≤ 1000000 → ids.length + fl.length ≤ 100000 → at_.length + fl.length ≤ 100000 → FwP n w r k bad fl hs ids at_ := by
 intro r
 induction r with
 | zero => intro hr k bad fl hs ids at_ hk hh hl hi ha; exact from0 n w hr hw hwb k bad fl hs ids at_ (by simpa using hk) hh hl hi ha
 | succ r ih => intro hr k bad fl hs ids at_ hk hh hl hi ha; exact from1 n w r hr hw hwb k bad fl hs ids at_ hk hh hl hi ha (ih (by omega))
def fwR (n : Nat) (hs : List Hs) (fl : List Bool) : Hs × BCS := fwW (wdS n) ((wdS n).length - 1) 0 (false,fl,hs,[],[])
def rchkS (n : Int) (hs : List Hs) (fl : List Bool) : Hs × List Hs × List Nat × Nat :=
 if n < 1 ∨ n > 256 then (zero32,[],[],1) else if (hs.length : Int) > n ∨ fl.length < hs.length then (zero32,[],[],6) else
 if (fwR n.toNat hs fl).2.1 = true ∨ 0 < (fwR n.toNat hs fl).2.2.2.1.length + (fwR n.toNat hs fl).2.2.1.length then (zero32,[],[],15) else ((fwR n.toNat hs fl).1,(fwR n.toNat hs fl).2.2.2.2.1,(fwR n.toNat hs fl).2.2.2.2.2,0)
section
variable {n : Int} {m : Nat} {hs hs1 ids1 : List Hs} {fl fl1 : List Bool} {a : Hs} {bad1 : Bool} {at1 : List Nat}
theorem rchk_1 (h : n < 1 ∨ n > 256) : rchkS n hs fl = (zero32,[],[],1) := if_pos h
theorem rchk_2 (h : ¬ (n < 1 ∨ n > 256)) (h2 : (hs.length : Int) > n ∨ fl.length < hs.length) : rchkS n hs fl = (zero32,[],[],6) := by rw [rchkS,if_neg h,if_pos h2]
theorem rchk_3 (h : ¬ ((m : Int) < 1 ∨ (m : Int) > 256)) (h2 : ¬ ((hs.length : Int) > m ∨ fl.length < hs.length)) (hX : fwW (wdI m (nRows m)) ((wdI m (nRows m)).length - 1) 0 (false,fl,hs,[],[]) = (a,bad1,fl1,hs1,ids1,at1)) (h5 : bad1 = true ∨ 0 < hs1.length + fl1.length) : rchkS (m : Int) hs fl = (zero32,[],[],15) := by
 have hX' : fwR m hs fl = (a,bad1,fl1,hs1,ids1,at1) := hX
 rw [rchkS,if_neg h,if_neg h2,show ((m : Int)).toNat = m from rfl,hX',if_pos h5]
theorem rchk_4 (h : ¬ ((m : Int) < 1 ∨ (m : Int) > 256)) (h2 : ¬ ((hs.length : Int) > m ∨ fl.length < hs.length)) (hX : fwW (wdI m (nRows m)) ((wdI m (nRows m)).length - 1) 0 (false,fl,hs,[],[]) = (a,bad1,fl1,hs1,ids1,at1)) (h5 : ¬ (bad1 = true ∨ 0 < hs1.length + fl1.length)) : rchkS (m : Int) hs fl = (a,ids1,at1,0) := by
 have hX' : fwR m hs fl = (a,bad1,fl1,hs1,ids1,at1) := hX
 rw [rchkS,if_neg h,if_neg h2,show ((m : Int)).toNat = m from rfl,hX',if_neg h5]
theorem fw_call {n : Int} {m : Nat} (h0 : 0 < m) (h : m ≤ 256) (hh : allH hs) (hl : hs.length ≤ 1000000) (hf : fl.length ≤ 100000) : FwP n (wdI m (nRows m)) ((wdI m (nRows m)).length - 1) 0 false fl hs [] [] := by
 obtain ⟨h1,h2,h3⟩ := wd_len h0 h
 have hp : 2 ^ ((wdI m (nRows m)).length - 1) ≤ 2 ^ 9 := Nat.pow_le_pow_right (by decide) (by omega)
 refine fwalk (by omega) (fun j => ?_) _ (by omega) 0 false fl hs [] [] (by omega) hh hl (by simp only [List.length_nil]; omega) (by simp only [List.length_nil]; omega)
 by_cases hj : j < nRows m
 · rw [wdI_get hj]; have := lenA_le m j; omega
 · rw [getElem!_neg _ j (by rw [wdI_len]; exact hj)]; decide
theorem wdI_lastM (n k : Nat) : ((wdI n (k + 1)).map natD)[(wdI n (k + 1)).length - 1]? = some (natD (lenA n k)) := by
 rw [wdI_len,List.getElem?_map,List.getElem?_eq_getElem (by rw [wdI_len]; omega),Option.map_some,← getElem!_pos,wdI_get (by omega)]
 rfl
end
def fcS (l : List Hs) (f : List Bool) : List (List Bool) := (List.range (nRows l.length)).map fun r => (List.range (rowA joinR l r).length).map (calS f r)
theorem fcS_get {l : List Hs} {f : List Bool} {r k : Nat} (h : r < nRows l.length) (h2 : k < (rowA joinR l r).length) : (fcS l f)[r]![k]! = calS f r k := by
 have h1 : (fcS l f)[r]! = (List.range (rowA joinR l r).length).map (calS f r) := by
  rw [getElem!_pos _ r (by simp [fcS]; exact h)]; simp [fcS]
 rw [h1,getElem!_pos _ k (by simp; exact h2)]
 simp
def rbwS (l : List Hs) (f : List Bool) : List Hs × List Bool := wkB (rowsL joinR l (nRows l.length)) (fcS l f) ((rowsL joinR l (nRows l.length)).length - 1) 0 ([],[])
def rbldS (l : List Hs) (f : List Bool) : PartS × Nat :=
 if l.length = 0 ∨ f.length ≠ l.length then (zeroP,1) else if 256 < l.length then (zeroP,6) else (⟨(l.length : Nat),(rbwS l f).1,(rbwS l f).2⟩,0)
theorem rb {L : List (List Hs)} {F : List (List Bool)} {is : List Bool} {n : Int} (hi0 : is.length ≤ 1000000) (hL : L.length ≤ 20) (hLl : ∀ j : Nat,L[j]!.length ≤ 1000) (hLs : ∀ j : Nat,j + 1 < L.length → L[j + 1]!.length = (L[j]!.length + 1) / 2) (hF : ∀ r k : Nat,r < L.length → k < L[r]!.length → F[r]![k]! = calS is r k) :
 ∀ (r : Nat),r < L.length → ∀ (k : Nat),k < L[r]!.length → ∀ (hs : List Hs) (fl : List Bool),hs.length + 2 ^ (r + 1) ≤ 100000 → fl.length + 2 ^ (r + 1) ≤ 100000 → RbP L F is n r k hs fl := by
 intro r
 induction r with
 | zero => intro hr k hk hs fl h1 h2; exact rbuild0 L F n is hi0 hL hLl hLs hF hr k hk hs fl h1 h2
 | succ r ih => intro hr k hk hs fl h1 h2; exact rbuild1 L F n is r hi0 hL hLl hLs hF hr k hk hs fl h1 h2 (ih (by omega))
theorem lenA_succ (n k : Nat) : lenA n (k + 1) = (lenA n k + 1) / 2 := rfl
theorem lenA_last {n : Nat} (h : 0 < n) : lenA n (nRows n - 1) = 1 := by
 have key : ∀ k,k + 1 ≤ nRows n → k + nRows (lenA n k) = nRows n := by
  intro k
  induction k with
  | zero => intro _; show 0 + nRows n = _; omega
  | succ k ih =>
   intro hk
   have h1 := ih (by omega)
   have hp := lenA_pos h k
   have h2 : 2 ≤ lenA n k := by
    rcases Nat.lt_or_ge (lenA n k) 2 with h3 | h3
    · have := nRows_short (n := lenA n k) (by omega); omega
    · exact h3
   rw [nRows_2 h2] at h1
   rw [lenA_succ]; omega
 have hp := nRows_pos h
 have h1 := key (nRows n - 1) (by omega)
 rcases Nat.lt_or_ge (lenA n (nRows n - 1)) 2 with h3 | h3
 · have := lenA_pos h (nRows n - 1); omega
 · rw [nRows_2 h3] at h1
   have := nRows_pos (n := (lenA n (nRows n - 1) + 1) / 2) (by omega)
   omega
section
variable {l : List Hs} {f : List Bool}
theorem rbld_1 (h : l.length = 0 ∨ f.length ≠ l.length) : rbldS l f = (zeroP,1) := if_pos h
theorem rbld_3 (h1 : ¬ (l.length = 0 ∨ f.length ≠ l.length)) (h3 : 256 < l.length) : rbldS l f = (zeroP,6) := by rw [rbldS,if_neg h1,if_pos h3]
theorem rbld_4 (h1 : ¬ (l.length = 0 ∨ f.length ≠ l.length)) (h3 : ¬ 256 < l.length) : rbldS l f = (⟨(l.length : Nat),(rbwS l f).1,(rbwS l f).2⟩,0) := by rw [rbldS,if_neg h1,if_neg h3]
theorem rb_call {n : Int} (h0 : 0 < l.length) (h1 : l.length ≤ 256) (hf : f.length = l.length) : RbP (rowsL joinR l (nRows l.length)) (fcS l f) f n ((rowsL joinR l (nRows l.length)).length - 1) 0 [] [] := by
 have hn := nRows_9 l.length h1
 have hnp := nRows_pos (n := l.length) h0
 have hlen := rowsL_len joinR l (nRows l.length)
 have hp : 2 ^ ((rowsL joinR l (nRows l.length)).length - 1 + 1) ≤ 2 ^ 9 := Nat.pow_le_pow_right (by decide) (by omega)
 have get : ∀ j : Nat,(j < nRows l.length → (rowsL joinR l (nRows l.length))[j]! = rowA joinR l j) ∧ (¬ j < nRows l.length → (rowsL joinR l (nRows l.length))[j]! = []) := by
  intro j
  refine ⟨fun h => rowsL_get h,fun h => ?_⟩
  rw [getElem!_neg _ j (by rw [rowsL_len]; exact h)]; rfl
 refine rb (by omega) (by omega) (fun j => ?_) (fun j hj => ?_) (fun r k hr hk => ?_) _ (by omega) 0 ?_ [] [] (by simp only [List.length_nil]; omega) (by simp only [List.length_nil]; omega)
 · by_cases h : j < nRows l.length
   · rw [(get j).1 h,rowA_len]; have := lenA_le l.length j; omega
   · rw [(get j).2 h]; simp
 · rw [(get (j + 1)).1 (by omega),(get j).1 (by omega),rowA_len,rowA_len]; rfl
 · rw [(get r).1 (by omega)] at hk
   exact fcS_get (by omega) hk
 · rw [hlen,(get _).1 (by omega),rowA_len,lenA_last h0]; decide
end
theorem wk_emp (n : Int) : Wk (.agg [.int n,.nils,.nils]) (.agg [.int n,.sl (some 38) 32 (([] : List Hs).map hashD),.sl (some 4) 1 (([] : List Bool).map D.bool)]) := .aggL (.cons (.refl _) (.cons (.nils _ _) (.cons (.nils _ _) .nil)))
def mayB (n : Int) (hs : List Hs) (fl : List Bool) : Bool := decide (1 ≤ n) && decide (n ≤ 256) && decide (hs.length ≤ 512) && decide (fl.length ≤ 1024)
theorem mayB_iff {n : Int} {hs : List Hs} {fl : List Bool} : mayB n hs fl = true ↔ 1 ≤ n ∧ n ≤ 256 ∧ hs.length ≤ 512 ∧ fl.length ≤ 1024 := by
 simp [mayB,and_assoc]
def rpkI (p : List UInt8) (fl : List Bool) : Nat → List UInt8
 | 0 => p
 | k + 1 => if fl[k]! = true then (if k % 8 = 0 then rpkI p fl k ++ [0] else rpkI p fl k).set ((if k % 8 = 0 then rpkI p fl k ++ [0] else rpkI p fl k).length - 1) ((if k % 8 = 0 then rpkI p fl k ++ [0] else rpkI p fl k)[(if k % 8 = 0 then rpkI p fl k ++ [0] else rpkI p fl k).length - 1]! ||| shl_u8 1 (k % 8))
  else (if k % 8 = 0 then rpkI p fl k ++ [0] else rpkI p fl k)
section
variable {p : List UInt8} {fl : List Bool} {k : Nat}
theorem rpk_1 (h : k % 8 = 0) (hf : fl[k]! = true) : (rpkI p fl k ++ [0]).set ((rpkI p fl k ++ [0]).length - 1) ((rpkI p fl k ++ [0])[(rpkI p fl k ++ [0]).length - 1]! ||| shl_u8 1 (k % 8)) = rpkI p fl (k + 1) := by rw [rpkI,if_pos hf,if_pos h]
theorem rpk_2 (h : k % 8 = 0) (hf : fl[k]! = false) : rpkI p fl k ++ [0] = rpkI p fl (k + 1) := by rw [rpkI,if_neg (by simp [hf]),if_pos h]
theorem rpk_3 (h : ¬ k % 8 = 0) (hf : fl[k]! = true) : (rpkI p fl k).set ((rpkI p fl k).length - 1) ((rpkI p fl k)[(rpkI p fl k).length - 1]! ||| shl_u8 1 (k % 8)) = rpkI p fl (k + 1) := by rw [rpkI,if_pos hf,if_neg h]
theorem rpk_4 (h : ¬ k % 8 = 0) (hf : fl[k]! = false) : rpkI p fl k = rpkI p fl (k + 1) := by rw [rpkI,if_neg (by simp [hf]),if_neg h]
end
theorem rpkI_len (p : List UInt8) (fl : List Bool) (k : Nat) : (rpkI p fl k).length = p.length + (k + 7) / 8 := by
 induction k with
 | zero => simp [rpkI]
 | succ k ih =>
  by_cases h : k % 8 = 0 <;> cases hf : fl[k]!
  · rw [← rpk_2 h hf,List.length_append,ih]; simp; omega
  · rw [← rpk_1 h hf,List.length_set,List.length_append,ih]; simp; omega
  · rw [← rpk_4 h hf,ih]; omega
  · rw [← rpk_3 h hf,List.length_set,ih]; omega
def rputB (m : Nat) (hs : List Hs) (fl : List Bool) : List UInt8 := rpkI (hdI [m,hs.length,fl.length] 3 ++ flatI hs hs.length) fl fl.length
def rputS (n : Int) (hs : List Hs) (fl : List Bool) : List UInt8 × Nat := if mayB n hs fl = true then (rputB n.toNat hs fl,0) else ([],1)
theorem rput4L (b : List UInt8) (n : UInt64) (hb0 : b.length ≤ 1000000) : Fn Tryd.prog gl 34 [.sl none 1 (b.map D.u8),.u64 n,.int ((2 : Nat) : Int)] (.sl (some 5) 1 ((b ++ leB n 2).map D.u8)) := by
 rw [← lowB_eq]
 exact rput4_ok b n hb0
theorem shlN (k : Nat) (h : k < 256) : D.u8 (shl_u8 1 (UInt64.ofInt ((k : Nat) : Int)).toNat) = .u8 (shl_u8 1 k) := by rw [ofInt64 (by omega)]
def samP (p q : PartS) : Bool := decide (p.n = q.n) && (p.hs == q.hs) && (p.fl == q.fl)
theorem samP_2 {p q : PartS} (h1 : p.n = q.n) (h2 : (p.hs == q.hs) = true) (h3 : p.fl = q.fl) : samP p q = true := by
 rw [samP,h2,h3,decide_eq_true h1]; simp
theorem sam_ne {p q : List Bool} {i : Nat} (h : p[i]! ≠ q[i]!) : p.length ≠ q.length ∨ p ≠ q := .inr (fun e => h (by rw [e]))
theorem samP_1 {p q : PartS} (h : ¬ p.n = q.n ∨ ¬ (p.hs == q.hs) = true ∨ p.fl.length ≠ q.fl.length ∨ p.fl ≠ q.fl) : samP p q = false := by
 rcases h with h | h | h
 · simp [samP,h]
 · simp only [samP,Bool.and_eq_false_iff]; exact .inl (.inr (bfalse h))
 · have h' : p.fl ≠ q.fl := h.elim (fun h e => h (by rw [e])) id
   simp only [samP,Bool.and_eq_false_iff]; exact .inr (beq_eq_false_iff_ne.2 h')
end Go.Sx

namespace Go.Sx
open Go.Proofs
theorem rmay_ok (n : Int) (hs : List Hs) (fl : List Bool) : Fn Tryd.prog gl 33 [.agg [.int n,.sl none 32 (hs.map hashD),.sl none 1 (fl.map D.bool)]] (.bool (mayB n hs fl)) := by
 refine Fn.of (n := 23) Tryd.func33 rfl rfl rfl (nU rfl) fun C hC hD => ?_
 refine W.seq ?_
 refine W.l0 2 [] [] [] [(0,_)] [] 23 trivial O O O O (⟨O,_,R.box (gV 0 O) O O (nU O),⟨O,_,R.asg (kB false O) O (nU O),tV [(1,_)] [(1,.var _)] 23 O O O ?_⟩⟩)
 refine W.seq ?_
 by_cases g0 : 1 ≤ n
 · by_cases g1 : n ≤ 256
   · by_cases g2 : hs.length ≤ 512
     · refine W.l0 21 [.y 3 _,.y 4 _,.y 5 _,.y 6 _,.y 7 _,.y 8 _,.y 9 _,.y 10 _,.y 11 _,.y 12 _,.y 13 _,.y 14 _,.y 15 _,.y 16 _,.y 17 _,.y 18 _,.y 19 _,.y 20 _,.y 21 _,.y 22 _,.y 2 _] [] [] [(2,_)] [(1,.var _)] 23 ⟨aU (fU 1 O O),aU (lU 3 O O O O O O O),aU fun _ _ H K => R.bin (eU K 4 O) (kI 1 O) O trivial H,mU 5 O O,aW O O (gT (decide_eq_true g0) O) (fU 1 O O),aW O O (gT (decide_eq_true g0) O) (lU 7 O O O O O O O),aW O O (gT (decide_eq_true g0) O) fun _ _ H K => R.bin (eU K 8 O) (kI 256 O) O trivial H,aU fun _ _ H K => R.pickT (eU K 6 O) (decide_eq_true g0) (eU K 9 O) O H,mU 10 O O,aW O O (gT (decide_eq_true g1) O) (fU 1 O O),aW O O (gT (decide_eq_true g1) O) (lU 12 O O O O O O O),aW O O (gT (decide_eq_true g1) O) fun _ _ H K => R.lenE (SC.sl (K 13 _ O)) (List.length_map _) H,aW O O (gT (decide_eq_true g1) O) fun _ _ H K => R.leqN (hs.length) (512) (eU K 14 O) (kI 512 O) H,aU fun _ _ H K => R.pickT (eU K 11 O) (decide_eq_true g1) (eU K 15 O) O H,mU 16 O O,aW O O (gT (decide_eq_true g2) O) (fU 1 O O),aW O O (gT (decide_eq_true g2) O) (lU 18 O O O O O O O),aW O O (gT (decide_eq_true g2) O) fun _ _ H K => R.lenE (SC.sl (K 19 _ O)) (List.length_map _) H,aW O O (gT (decide_eq_true g2) O) fun _ _ H K => R.leqN (fl.length) (1024) (eU K 20 O) (kI 1024 O) H,aU fun _ _ H K => R.pickT (eU K 17 O) (decide_eq_true g2) (eU K 21 O) O H,aU fun _ _ H K => R.asg (eU K 22 O) O H,trivial⟩ O O O O (tU O ?_)
       refine W.ret ?_
       exact Ends.one' (.inr O) O (by simp only [mayB,decide_eq_true g0,decide_eq_true g1,decide_eq_true g2,Bool.true_and]) O O trivial
     · refine W.l0 21 [.y 3 _,.y 4 _,.y 5 _,.y 6 _,.y 7 _,.y 8 _,.y 9 _,.y 10 _,.y 11 _,.y 12 _,.y 13 _,.y 14 _,.y 15 _,.y 16 _,.y 17 _,.x 18,.x 19,.x 20,.x 21,.y 22 _,.y 2 _] [] [] [(2,_)] [(1,.var _)] 23 ⟨aU (fU 1 O O),aU (lU 3 O O O O O O O),aU fun _ _ H K => R.bin (eU K 4 O) (kI 1 O) O trivial H,mU 5 O O,aW O O (gT (decide_eq_true g0) O) (fU 1 O O),aW O O (gT (decide_eq_true g0) O) (lU 7 O O O O O O O),aW O O (gT (decide_eq_true g0) O) fun _ _ H K => R.bin (eU K 8 O) (kI 256 O) O trivial H,aU fun _ _ H K => R.pickT (eU K 6 O) (decide_eq_true g0) (eU K 9 O) O H,mU 10 O O,aW O O (gT (decide_eq_true g1) O) (fU 1 O O),aW O O (gT (decide_eq_true g1) O) (lU 12 O O O O O O O),aW O O (gT (decide_eq_true g1) O) fun _ _ H K => R.lenE (SC.sl (K 13 _ O)) (List.length_map _) H,aW O O (gT (decide_eq_true g1) O) fun _ _ H K => R.leqN (hs.length) (512) (eU K 14 O) (kI 512 O) H,aU fun _ _ H K => R.pickT (eU K 11 O) (decide_eq_true g1) (eU K 15 O) O H,mU 16 O O,aF O O (gF (decide_eq_false g2) O),aF O O (gF (decide_eq_false g2) O),aF O O (gF (decide_eq_false g2) O),aF O O (gF (decide_eq_false g2) O),aU fun _ _ H K => R.pickF (eU K 17 O) (decide_eq_false g2) (kB false O) O H,aU fun _ _ H K => R.asg (eU K 22 O) O H,trivial⟩ O O O O (tU O ?_)
       refine W.ret ?_
       exact Ends.one' (.inr O) O (by simp only [mayB,decide_eq_true g0,decide_eq_true g1,decide_eq_false g2,Bool.true_and,Bool.false_and]) O O trivial
   · refine W.l0 21 [.y 3 _,.y 4 _,.y 5 _,.y 6 _,.y 7 _,.y 8 _,.y 9 _,.y 10 _,.y 11 _,.x 12,.x 13,.x 14,.x 15,.y 16 _,.y 17 _,.x 18,.x 19,.x 20,.x 21,.y 22 _,.y 2 _] [] [] [(2,_)] [(1,.var _)] 23 ⟨aU (fU 1 O O),aU (lU 3 O O O O O O O),aU fun _ _ H K => R.bin (eU K 4 O) (kI 1 O) O trivial H,mU 5 O O,aW O O (gT (decide_eq_true g0) O) (fU 1 O O),aW O O (gT (decide_eq_true g0) O) (lU 7 O O O O O O O),aW O O (gT (decide_eq_true g0) O) fun _ _ H K => R.bin (eU K 8 O) (kI 256 O) O trivial H,aU fun _ _ H K => R.pickT (eU K 6 O) (decide_eq_true g0) (eU K 9 O) O H,mU 10 O O,aF O O (gF (decide_eq_false g1) O),aF O O (gF (decide_eq_false g1) O),aF O O (gF (decide_eq_false g1) O),aF O O (gF (decide_eq_false g1) O),aU fun _ _ H K => R.pickF (eU K 11 O) (decide_eq_false g1) (kB false O) O H,mU 16 O O,aF O O (gF (O) O),aF O O (gF (O) O),aF O O (gF (O) O),aF O O (gF (O) O),aU fun _ _ H K => R.pickF (eU K 17 O) (O) (kB false O) O H,aU fun _ _ H K => R.asg (eU K 22 O) O H,trivial⟩ O O O O (tU O ?_)
     refine W.ret ?_
     exact Ends.one' (.inr O) O (by simp only [mayB,decide_eq_true g0,decide_eq_false g1,Bool.true_and,Bool.false_and]) O O trivial
 · refine W.l0 21 [.y 3 _,.y 4 _,.y 5 _,.y 6 _,.x 7,.x 8,.x 9,.y 10 _,.y 11 _,.x 12,.x 13,.x 14,.x 15,.y 16 _,.y 17 _,.x 18,.x 19,.x 20,.x 21,.y 22 _,.y 2 _] [] [] [(2,_)] [(1,.var _)] 23 ⟨aU (fU 1 O O),aU (lU 3 O O O O O O O),aU fun _ _ H K => R.bin (eU K 4 O) (kI 1 O) O trivial H,mU 5 O O,aF O O (gF (decide_eq_false g0) O),aF O O (gF (decide_eq_false g0) O),aF O O (gF (decide_eq_false g0) O),aU fun _ _ H K => R.pickF (eU K 6 O) (decide_eq_false g0) (kB false O) O H,mU 10 O O,aF O O (gF (O) O),aF O O (gF (O) O),aF O O (gF (O) O),aF O O (gF (O) O),aU fun _ _ H K => R.pickF (eU K 11 O) (O) (kB false O) O H,mU 16 O O,aF O O (gF (O) O),aF O O (gF (O) O),aF O O (gF (O) O),aF O O (gF (O) O),aU fun _ _ H K => R.pickF (eU K 17 O) (O) (kB false O) O H,aU fun _ _ H K => R.asg (eU K 22 O) O H,trivial⟩ O O O O (tU O ?_)
   refine W.ret ?_
   exact Ends.one' (.inr O) O (by simp only [mayB,decide_eq_false g0,Bool.false_and]) O O trivial

set_option maxHeartbeats 1000000 in
theorem rpput_ok (n : Int) (hs : List Hs) (fl : List Bool) (hh : allH hs) : Fn Tryd.prog gl 15 [.agg [.int n,.sl none 32 (hs.map hashD),.sl none 1 (fl.map D.bool)]] (.tup [.sl (some 5) 1 ((rputS n hs fl).1.map D.u8),.int (((rputS n hs fl).2 : Nat) : Int)]) := by
 refine Fn.of (n := 71) Tryd.func15 rfl rfl rfl (nU rfl) fun C hC hD => ?_
 refine W.seq ?_
 refine W.l0 3 [] [] [] [(0,_)] [] 71 trivial O O O O (⟨O,_,R.box (gV 0 O) O O (nU O),⟨O,_,R.asg (kN O) O (nU O),⟨O,_,R.asg (kI 0 O) O (nU O),tV [(1,_)] [(1,.var _)] 71 O O O ?_⟩⟩⟩)
 refine W.seq ?_
 refine W.seq ?_
 refine W.l0 3 [.y 7 _,.y 8 _,.y 9 _] [] [] [(1,_),(9,_)] [(1,.var _)] 71 ⟨aU (lU 1 O O O O O O O),aU fun _ _ H K => R.callG hC (rmay_ok n hs fl) (Bors.cons (Bor.pur (eU K 7 O) O O) Bors.nil) (FrsR.one (.bool _)) H,aU fun _ _ H K => R.un (eU K 8 O) O H,trivial⟩ O O O O (tU O ?_)
 refine W.cond O (fun hc9 => ?_) (fun hc9 => ?_)
 · refine W.seq ?_
   refine W.l0 2 [.y 2 _,.y 3 _] [] [] [(2,_),(3,_)] [(1,.var _)] 71 ⟨aU fun _ _ H _ => R.asg (kN O) O H,aU fun _ _ H _ => R.asg (kI 1 O) O H,trivial⟩ O O O O (tU O ?_)
   refine W.asOwn (s := 2) 5 1 O ?_
   refine W.ret ?_
   exact Ends.many (.inr O) (.cons O O O trivial (.cons O O O trivial .nil)) (by rw [rputS,if_neg (by simpa using hc9)]; rfl) (show [(2,true),(3,true)].Nodup by decide)
 · refine W.skip ?_
   refine W.seq ?_
   have hm : mayB n hs fl = true := by simpa using hc9
   obtain ⟨m1,m2,m3,m4⟩ := mayB_iff.1 hm
   obtain ⟨m,rfl⟩ : ∃ m : Nat,n = ((m : Nat) : Int) := ⟨n.toNat,by omega⟩
   refine W.l0 5 [.y 10 _,.y 11 _,.y 12 _,.y 13 _,.y 4 _] [(4,13)] [(4,13)] [(1,_),(4,_)] [(1,.var _)] 71 ⟨aU (fU 1 O O),aU (lU 10 O O O O O O O),aU fun _ _ H K => R.convE (d := .u64 (UInt64.ofInt ((m : Nat) : Int))) (eU K 11 O) O (O) H,aU fun _ _ H K => R.callG hC (rput4L [] (UInt64.ofInt ((m : Nat) : Int)) (by simp)) (Bors.cons (Bor.nils (kN O)) (Bors.cons (Bor.pur (eU K 12 O) O O) (Bors.cons (Bor.pur (kI 2 O) O O) Bors.nil))) (FrsR.one (.sl _ _ _ (frs_map fun _ => .u8 _))) H,aU fun _ _ H K => R.asgO (K 13 _ O) O H (by decide),trivial⟩ O O O O (tU O ?_)
   refine W.seq ?_
   refine W.l0 7 [.y 14 _,.y 15 _,.y 16 _,.y 17 _,.y 18 _,.y 19 _,.y 4 _] [(6,19),(6,14)] [(6,19)] [(1,_),(4,_)] [(1,.var _)] 71 ⟨aU fun _ _ H K => R.al (K 4 _ O) H (by decide),aU (fU 1 O O),aU (lU 15 O O O O O O O),aU fun _ _ H K => R.lenE (SC.sl (K 16 _ O)) (List.length_map _) H,aU fun _ _ H K => R.convE (d := .u64 (UInt64.ofInt ((hs.length : Nat) : Int))) (eU K 17 O) O (O) H,aU fun _ _ H K => R.callG hC (rput4L (hdI [m,hs.length,fl.length] 1) (UInt64.ofInt ((hs.length : Nat) : Int)) (by rw [hdI_len]; omega)) (Bors.cons (Bor.sc (SC.al (K 14 _ O) (K 4 _ O)) (brw_map (fun _ => rfl))) (Bors.cons (Bor.pur (eU K 18 O) O O) (Bors.cons (Bor.pur (kI 2 O) O O) Bors.nil))) (FrsR.one (.sl _ _ _ (frs_map fun _ => .u8 _))) H,aU fun _ _ H K => R.asgO (K 19 _ O) O H (by decide),trivial⟩ O O O O (tU O ?_)
   refine W.seq ?_
   refine W.l0 7 [.y 20 _,.y 21 _,.y 22 _,.y 23 _,.y 24 _,.y 25 _,.y 4 _] [(6,25),(6,20)] [(6,25)] [(1,_),(4,_)] [(1,.var _)] 71 ⟨aU fun _ _ H K => R.al (K 4 _ O) H (by decide),aU (fU 1 O O),aU (lU 21 O O O O O O O),aU fun _ _ H K => R.lenE (SC.sl (K 22 _ O)) (List.length_map _) H,aU fun _ _ H K => R.convE (d := .u64 (UInt64.ofInt ((fl.length : Nat) : Int))) (eU K 23 O) O (O) H,aU fun _ _ H K => R.callG hC (rput4L (hdI [m,hs.length,fl.length] 2) (UInt64.ofInt ((fl.length : Nat) : Int)) (by rw [hdI_len]; omega)) (Bors.cons (Bor.sc (SC.al (K 20 _ O) (K 4 _ O)) (brw_map (fun _ => rfl))) (Bors.cons (Bor.pur (eU K 24 O) O O) (Bors.cons (Bor.pur (kI 2 O) O O) Bors.nil))) (FrsR.one (.sl _ _ _ (frs_map fun _ => .u8 _))) H,aU fun _ _ H K => R.asgO (K 25 _ O) O H (by decide),trivial⟩ O O O O (tU O ?_)
   refine W.seq ?_
   refine W.seq ?_
   refine W.l0 1 [.y 5 _] [] [] [(1,_),(4,_),(5,_)] [(1,.var _)] 71 ⟨aU fun _ _ H _ => R.asg (kI 0 O) O H,trivial⟩ O O O O (tU O ?_)
   refine W.block ?_
   refine W.loop (α := {q__ : Nat // q__ ≤ hs.length}) (fun q__ => ⟨71,[(1,.ptr 1 0 []),(4,.sl (some 5) 1 ((hdI [m,hs.length,fl.length] 3 ++ flatI hs q__.1).map D.u8)),(5,.int ((q__.1 : Nat) : Int))],[(1,.var (.agg [.int ((m : Nat) : Int),.sl none 32 (hs.map hashD),.sl none 1 (fl.map D.bool)]))]⟩) (fun q__ => hs.length - q__.1) ⟨(0),bU⟩ (by simp only [flatI,List.take_zero,List.flatten_nil,List.append_nil]; rfl) ?_
   rintro ⟨k,hk⟩
   show W _ _ _ _ ⟨71,[(1,.ptr 1 0 []),(4,.sl (some 5) 1 ((hdI [m,hs.length,fl.length] 3 ++ flatI hs k).map D.u8)),(5,.int ((k : Nat) : Int))],[(1,.var (.agg [.int ((m : Nat) : Int),.sl none 32 (hs.map hashD),.sl none 1 (fl.map D.bool)]))]⟩
   have hk : k ≤ hs.length := hk
   refine W.seq ?_
   refine W.seq ?_
   refine W.l0 5 [.y 26 _,.y 27 _,.y 28 _,.y 29 _,.y 30 _] [] [] [(1,_),(4,_),(5,_),(30,_)] [(1,.var _)] 71 ⟨mU 5 O O,aU (fU 1 O O),aU (lU 27 O O O O O O O),aU fun _ _ H K => R.lenE (SC.sl (K 28 _ O)) (List.length_map _) H,aU fun _ _ H K => R.lssN (k) (hs.length) (eU K 26 O) (eU K 29 O) H,trivial⟩ O O O O (tU O ?_)
   refine W.condD O (fun hc30 => ?_) (fun hc30 => ?_)
   · refine W.skip ?_
     refine W.seq ?_
     refine W.block ?_
     refine W.l0 8 [.y 33 _,.y 34 _,.y 35 _,.y 36 _,.y 37 _,.y 38 _,.y 39 _,.y 4 _] [(6,4),(7,39),(7,33)] [(6,4),(7,39)] [(1,_),(4,_),(5,_)] [(1,.var _)] 71 ⟨aU fun _ _ H K => R.al (K 4 _ O) H (by decide),aU (fU 1 O O),aU (lU 34 O O O O O O O),mU 5 O O,aU fun _ _ H K => R.idxI (k) (eU K 35 O) (evoI (eU K 36 O)) O (map_get! (l := hs) bU) O H,aU fun _ _ H K => R.slRN (0) (32) (32) (eU K 37 O) O O O O bU bU O (part32 _ (hh.get (by omega))) H,aU fun _ _ H K => R.appE (Or.inr (K 33 _ O)) (K 4 _ O) (SrcO.sc (SC.sl (K 38 _ O)) (pur_map (fun _ => rfl))) (show _ = ((hdI [m,hs.length,fl.length] 3 ++ flatI hs (k + 1)).map D.u8) from (by rw [flatI_succ (by omega),← List.append_assoc,← List.map_append])) (by simp only [List.length_map,List.length_append,hdI_len,flatI_len hh k (by omega),hh.get (show k < hs.length by omega)]; omega) H (by decide) (by decide),aU fun _ _ H K => R.asgO (K 39 _ O) O H (by decide),trivial⟩ O O O O (tU O ?_)
     refine W.l0 3 [.y 31 _,.y 32 _,.y 5 _] [] [] [(1,_),(4,_),(5,_)] [(1,.var _)] 71 ⟨mU 5 O O,aU fun _ _ H K => R.addN (k) (1) (eU K 31 O) (kI 1 O) bU H,aU fun _ _ H K => R.asg (eU K 32 O) O H,trivial⟩ O O O O (tU O ?_)
     exact ⟨⟨(k + 1),bU⟩,rfl,(by simp only []; omega)⟩
   · obtain rfl : k = hs.length := by omega
     refine W.exit ?_
     refine W.seq ?_
     refine W.seq ?_
     refine W.l0 1 [.y 6 _] [] [] [(1,_),(4,_),(6,_)] [(1,.var _)] 71 ⟨aU fun _ _ H _ => R.asg (kI 0 O) O H,trivial⟩ O O O O (tU O ?_)
     refine W.block ?_
     refine W.loop (α := {q__ : Nat // q__ ≤ fl.length}) (fun q__ => ⟨71,[(1,.ptr 1 0 []),(4,.sl (some 5) 1 ((rpkI (hdI [m,hs.length,fl.length] 3 ++ flatI hs hs.length) fl q__.1).map D.u8)),(6,.int ((q__.1 : Nat) : Int))],[(1,.var (.agg [.int ((m : Nat) : Int),.sl none 32 (hs.map hashD),.sl none 1 (fl.map D.bool)]))]⟩) (fun q__ => fl.length - q__.1) ⟨(0),bU⟩ (by rw [rpkI]) ?_
     rintro ⟨k,hk⟩
     show W _ _ _ _ ⟨71,[(1,.ptr 1 0 []),(4,.sl (some 5) 1 ((rpkI (hdI [m,hs.length,fl.length] 3 ++ flatI hs hs.length) fl k).map D.u8)),(6,.int ((k : Nat) : Int))],[(1,.var (.agg [.int ((m : Nat) : Int),.sl none 32 (hs.map hashD),.sl none 1 (fl.map D.bool)]))]⟩
     have hk : k ≤ fl.length := hk
     have hrl := rpkI_len (hdI [m,hs.length,fl.length] 3 ++ flatI hs hs.length) fl k
     simp only [List.length_append,hdI_len,flatI_len hh hs.length (Nat.le_refl _)] at hrl
     refine W.seq ?_
     refine W.seq ?_
     refine W.l0 5 [.y 40 _,.y 41 _,.y 42 _,.y 43 _,.y 44 _] [] [] [(1,_),(4,_),(6,_),(44,_)] [(1,.var _)] 71 ⟨mU 6 O O,aU (fU 1 O O),aU (lU 41 O O O O O O O),aU fun _ _ H K => R.lenE (SC.sl (K 42 _ O)) (List.length_map _) H,aU fun _ _ H K => R.lssN (k) (fl.length) (eU K 40 O) (eU K 43 O) H,trivial⟩ O O O O (tU O ?_)
     refine W.condD O (fun hc44 => ?_) (fun hc44 => ?_)
     · refine W.skip ?_
       refine W.seq ?_
       refine W.block ?_
       refine W.seq ?_
       refine W.seq ?_
       refine W.l0 3 [.y 47 _,.y 48 _,.y 49 _] [] [] [(1,_),(4,_),(6,_),(49,_)] [(1,.var _)] 71 ⟨mU 6 O O,aU fun _ _ H K => R.remN (k) (8) (eU K 47 O) (kI 8 O) bU H,aU fun _ _ H K => R.eqlN ((k % 8)) (0) (eU K 48 O) (kI 0 O) H,trivial⟩ O O O O (tU O ?_)
       refine W.condD O (fun hc49 => ?_) (fun hc49 => ?_)
       · refine W.l0 4 [.y 50 _,.y 51 _,.y 52 _,.y 4 _] [(2,4),(3,52),(3,50)] [(2,4),(3,52)] [(1,_),(4,_),(6,_)] [(1,.var _)] 71 ⟨aU fun _ _ H K => R.al (K 4 _ O) H (by decide),aU fun _ _ H _ => R.bslE (z := 1) (.cons (show ev _ _ (.const (.int .u8 0)) = some (.u8 0) from O) .nil) ⟨⟨O,O,O⟩,trivial⟩ O H (by decide),aU fun _ _ H K => R.appE (Or.inr (K 50 _ O)) (K 4 _ O) (SrcO.sc (SC.sl (K 51 _ O)) (pur_lit O)) (show _ = (((rpkI (hdI [m,hs.length,fl.length] 3 ++ flatI hs hs.length) fl k) ++ ([0] : List UInt8)).map D.u8) from (by rw [List.map_append]; rfl)) (by simp; omega) H (by decide) (by decide),aU fun _ _ H K => R.asgO (K 52 _ O) O H (by decide),trivial⟩ O O O O (tU O ?_)
         refine W.seq ?_
         refine W.l0 5 [.y 53 _,.y 54 _,.y 55 _,.y 56 _,.y 57 _] [] [] [(1,_),(4,_),(6,_),(57,_)] [(1,.var _)] 71 ⟨aU (fU 1 O O),aU (lU 53 O O O O O O O),mU 6 O O,aU fun _ _ H K => R.idxN (k) (SC.sl (K 54 _ O)) (evoI (eU K 55 O)) O bU H (by decide),aU fun _ _ H K => R.ldE (K 56 _ O) (SC.sl (K 54 _ O)) (map_get! (l := fl) bU) O O O O H,trivial⟩ O O O O (tU O ?_)
         refine W.cond O (fun hc57 => ?_) (fun hc57 => ?_)
         · refine W.l0 13 [.y 58 _,.y 59 _,.y 60 _,.y 61 _,.y 62 _,.y 63 _,.y 64 _,.y 65 _,.y 66 _,.y 67 _,.y 68 _,.y 69 _] [] [] [(1,_),(4,_),(6,_),(58,_),(68,_),(69,_)] [(1,.var _)] 71 ⟨aU fun _ _ H K => R.al (K 4 _ O) H (by decide),aU fun _ _ H K => R.al (K 4 _ O) H (by decide),aU fun _ _ H K => R.lenE (SC.al (K 59 _ O) (K 4 _ O)) (List.length_map _) H,aU fun _ _ H K => R.subN (((rpkI (hdI [m,hs.length,fl.length] 3 ++ flatI hs hs.length) fl k) ++ ([0] : List UInt8)).length) (1) (eU K 60 O) (kI 1 O) bU bU H,aU fun _ _ H K => R.idxN ((((rpkI (hdI [m,hs.length,fl.length] 3 ++ flatI hs hs.length) fl k) ++ ([0] : List UInt8)).length - 1)) (SC.al (K 58 _ O) (K 4 _ O)) (evoI (eU K 61 O)) O bU H (by decide),aU fun _ _ H K => R.ldE (K 62 _ O) (SC.al (K 58 _ O) (K 4 _ O)) (map_get! (l := ((rpkI (hdI [m,hs.length,fl.length] 3 ++ flatI hs hs.length) fl k) ++ ([0] : List UInt8))) bU) O O O O H,mU 6 O O,aU fun _ _ H K => R.remN (k) (8) (eU K 64 O) (kI 8 O) bU H,aU fun _ _ H K => R.conv (eU K 65 O) O H,aU fun _ _ H K => R.binE (d := .u8 (shl_u8 1 (k % 8))) (show ev _ _ (.const (.int .u8 1)) = some (.u8 1) from O) (eU K 66 O) O bV (shlN (k % 8) (by omega)) H,aU fun _ _ H K => R.bin (eU K 63 O) (eU K 67 O) O trivial H,aU fun _ _ H K => R.idxN ((((rpkI (hdI [m,hs.length,fl.length] 3 ++ flatI hs hs.length) fl k) ++ ([0] : List UInt8)).length - 1)) (SC.al (K 58 _ O) (K 4 _ O)) (evoI (eU K 61 O)) O bU H (by decide),trivial⟩ O O O O (⟨O,_,R.stEY (gU 69 O) (Or.inr (gU 58 O)) (gU 4 O) (map_get! (l := ((rpkI (hdI [m,hs.length,fl.length] 3 ++ flatI hs hs.length) fl k) ++ ([0] : List UInt8))) bU) O (gV 68 O) (by rfl) (by rfl) (by rfl) (by rfl) upd_nil set_map,tV [(1,_),(4,_),(6,_)] [(1,.var _)] 71 O O O ?_⟩)
           refine W.l0 3 [.y 45 _,.y 46 _,.y 6 _] [] [] [(1,_),(4,_),(6,_)] [(1,.var _)] 71 ⟨mU 6 O O,aU fun _ _ H K => R.addN (k) (1) (eU K 45 O) (kI 1 O) bU H,aU fun _ _ H K => R.asg (eU K 46 O) O H,trivial⟩ O O O O (tU O ?_)
           exact ⟨⟨(k + 1),bU⟩,(by first | (rw [rpk_1 hc49 hc57] <;> rfl) | (rw [rpk_2 hc49 hc57] <;> rfl) | (rw [rpk_3 hc49 hc57] <;> rfl) | (rw [rpk_4 hc49 hc57] <;> rfl)),(by simp only []; omega)⟩
         · refine W.skip ?_
           refine W.l0 3 [.y 45 _,.y 46 _,.y 6 _] [] [] [(1,_),(4,_),(6,_)] [(1,.var _)] 71 ⟨mU 6 O O,aU fun _ _ H K => R.addN (k) (1) (eU K 45 O) (kI 1 O) bU H,aU fun _ _ H K => R.asg (eU K 46 O) O H,trivial⟩ O O O O (tU O ?_)
           exact ⟨⟨(k + 1),bU⟩,(by first | (rw [rpk_1 hc49 hc57] <;> rfl) | (rw [rpk_2 hc49 hc57] <;> rfl) | (rw [rpk_3 hc49 hc57] <;> rfl) | (rw [rpk_4 hc49 hc57] <;> rfl)),(by simp only []; omega)⟩
       · refine W.skip ?_
         refine W.seq ?_
         refine W.l0 5 [.y 53 _,.y 54 _,.y 55 _,.y 56 _,.y 57 _] [] [] [(1,_),(4,_),(6,_),(57,_)] [(1,.var _)] 71 ⟨aU (fU 1 O O),aU (lU 53 O O O O O O O),mU 6 O O,aU fun _ _ H K => R.idxN (k) (SC.sl (K 54 _ O)) (evoI (eU K 55 O)) O bU H (by decide),aU fun _ _ H K => R.ldE (K 56 _ O) (SC.sl (K 54 _ O)) (map_get! (l := fl) bU) O O O O H,trivial⟩ O O O O (tU O ?_)
         refine W.cond O (fun hc57 => ?_) (fun hc57 => ?_)
         · refine W.l0 13 [.y 58 _,.y 59 _,.y 60 _,.y 61 _,.y 62 _,.y 63 _,.y 64 _,.y 65 _,.y 66 _,.y 67 _,.y 68 _,.y 69 _] [] [] [(1,_),(4,_),(6,_),(58,_),(68,_),(69,_)] [(1,.var _)] 71 ⟨aU fun _ _ H K => R.al (K 4 _ O) H (by decide),aU fun _ _ H K => R.al (K 4 _ O) H (by decide),aU fun _ _ H K => R.lenE (SC.al (K 59 _ O) (K 4 _ O)) (List.length_map _) H,aU fun _ _ H K => R.subN ((rpkI (hdI [m,hs.length,fl.length] 3 ++ flatI hs hs.length) fl k).length) (1) (eU K 60 O) (kI 1 O) bU bU H,aU fun _ _ H K => R.idxN (((rpkI (hdI [m,hs.length,fl.length] 3 ++ flatI hs hs.length) fl k).length - 1)) (SC.al (K 58 _ O) (K 4 _ O)) (evoI (eU K 61 O)) O bU H (by decide),aU fun _ _ H K => R.ldE (K 62 _ O) (SC.al (K 58 _ O) (K 4 _ O)) (map_get! (l := (rpkI (hdI [m,hs.length,fl.length] 3 ++ flatI hs hs.length) fl k)) bU) O O O O H,mU 6 O O,aU fun _ _ H K => R.remN (k) (8) (eU K 64 O) (kI 8 O) bU H,aU fun _ _ H K => R.conv (eU K 65 O) O H,aU fun _ _ H K => R.binE (d := .u8 (shl_u8 1 (k % 8))) (show ev _ _ (.const (.int .u8 1)) = some (.u8 1) from O) (eU K 66 O) O bV (shlN (k % 8) (by omega)) H,aU fun _ _ H K => R.bin (eU K 63 O) (eU K 67 O) O trivial H,aU fun _ _ H K => R.idxN (((rpkI (hdI [m,hs.length,fl.length] 3 ++ flatI hs hs.length) fl k).length - 1)) (SC.al (K 58 _ O) (K 4 _ O)) (evoI (eU K 61 O)) O bU H (by decide),trivial⟩ O O O O (⟨O,_,R.stEY (gU 69 O) (Or.inr (gU 58 O)) (gU 4 O) (map_get! (l := (rpkI (hdI [m,hs.length,fl.length] 3 ++ flatI hs hs.length) fl k)) bU) O (gV 68 O) (by rfl) (by rfl) (by rfl) (by rfl) upd_nil set_map,tV [(1,_),(4,_),(6,_)] [(1,.var _)] 71 O O O ?_⟩)
           refine W.l0 3 [.y 45 _,.y 46 _,.y 6 _] [] [] [(1,_),(4,_),(6,_)] [(1,.var _)] 71 ⟨mU 6 O O,aU fun _ _ H K => R.addN (k) (1) (eU K 45 O) (kI 1 O) bU H,aU fun _ _ H K => R.asg (eU K 46 O) O H,trivial⟩ O O O O (tU O ?_)
           exact ⟨⟨(k + 1),bU⟩,(by first | (rw [rpk_1 hc49 hc57] <;> rfl) | (rw [rpk_2 hc49 hc57] <;> rfl) | (rw [rpk_3 hc49 hc57] <;> rfl) | (rw [rpk_4 hc49 hc57] <;> rfl)),(by simp only []; omega)⟩
         · refine W.skip ?_
           refine W.l0 3 [.y 45 _,.y 46 _,.y 6 _] [] [] [(1,_),(4,_),(6,_)] [(1,.var _)] 71 ⟨mU 6 O O,aU fun _ _ H K => R.addN (k) (1) (eU K 45 O) (kI 1 O) bU H,aU fun _ _ H K => R.asg (eU K 46 O) O H,trivial⟩ O O O O (tU O ?_)
           exact ⟨⟨(k + 1),bU⟩,(by first | (rw [rpk_1 hc49 hc57] <;> rfl) | (rw [rpk_2 hc49 hc57] <;> rfl) | (rw [rpk_3 hc49 hc57] <;> rfl) | (rw [rpk_4 hc49 hc57] <;> rfl)),(by simp only []; omega)⟩
     · obtain rfl : k = fl.length := by omega
       refine W.exit ?_
       refine W.seq ?_
       refine W.l0 3 [.y 70 _,.y 2 _,.y 3 _] [(0,4),(1,70)] [(0,4),(1,70)] [(2,_),(3,_)] [(1,.var _)] 71 ⟨aU fun _ _ H K => R.movO (K 4 _ O) O H (by decide),aU fun _ _ H K => R.asgO (K 70 _ O) O H (by decide),aU fun _ _ H _ => R.asg (kI 0 O) O H,trivial⟩ O O O O (tU O ?_)
       refine W.ret ?_
       exact Ends.many (.inr O) (.cons O O O trivial (.cons O O O trivial .nil)) (by rw [rputS,if_pos hm]; rfl) (show [(2,true),(3,true)].Nodup by decide)

end Go.Sx

namespace Go.Sx
open Go.Proofs
set_option maxHeartbeats 2000000 in
theorem rcheck_ok (n : Int) (hs : List Hs) (fl : List Bool) (hh : allH hs) (hl0 : hs.length ≤ 1000000) (hf0 : fl.length ≤ 100000) : Fn Tryd.prog gl 13 [.agg [.int n,.sl none 32 (hs.map hashD),.sl none 1 (fl.map D.bool)]] (.tup [hashD (rchkS n hs fl).1,.sl none 32 ((rchkS n hs fl).2.1.map hashD),.sl none 1 ((rchkS n hs fl).2.2.1.map natD),.int (((rchkS n hs fl).2.2.2 : Nat) : Int)]) := by
 refine Fn.of (n := 113) Tryd.func13 rfl rfl rfl (nU rfl) fun C hC hD => ?_
 refine W.seq ?_
 refine W.l0 5 [] [] [] [(0,_)] [] 113 trivial O O O O (⟨O,_,R.box (gV 0 O) O O (nU O),⟨O,_,R.alloc O (nU O),⟨O,_,R.asg (kN O) O (nU O),⟨O,_,R.asg (kN O) O (nU O),⟨O,_,R.asg (kI 0 O) O (nU O),tV [(1,_),(2,_)] [(2,.var _),(1,.var _)] 113 O O O ?_⟩⟩⟩⟩⟩)
 refine W.seq ?_
 refine W.seq ?_
 by_cases h1 : n < 1
 · refine W.l0 8 [.y 8 _,.y 9 _,.y 10 _,.y 11 _,.x 12,.x 13,.x 14,.y 15 _] [] [] [(1,_),(2,_),(15,_)] [(2,.var _),(1,.var _)] 113 ⟨aU (fU 1 O O),aU (lU 8 O O O O O O O),aU fun _ _ H K => R.bin (eU K 9 O) (kI 1 O) O trivial H,mU 10 O O,aF O O (gT (decide_eq_true h1) O),aF O O (gT (decide_eq_true h1) O),aF O O (gT (decide_eq_true h1) O),aU fun _ _ H K => R.pickT (eU K 11 O) (decide_eq_true h1) (kB true O) O H,trivial⟩ O O O O (tU O ?_)
   refine W.condT O (O) ?_
   refine W.seq ?_
   refine W.l0 5 [.y 16 _] [] [] [(2,_),(16,_)] [(2,.var _),(1,.var _)] 113 ⟨aU fun _ _ H _ => R.bldAZ O H,trivial⟩ O O O O (⟨O,_,R.stZ (gU 2 O) (xU 2 O) O (gV 16 O) (by rfl) (by rfl) (by rfl) (by rfl) O,⟨O,_,R.asg (kN O) O (nU O),⟨O,_,R.asg (kN O) O (nU O),⟨O,_,R.asg (kI 1 O) O (nU O),tV [(2,_),(3,_),(4,_),(5,_)] [(2,.var _),(1,.var _)] 113 O O O ?_⟩⟩⟩⟩)
   refine W.asOwn (s := 3) 38 32 O ?_
   refine W.frzS (s := 3) (d' := .sl none 32 []) O O O ?_
   refine W.asOwn (s := 4) 3 1 O ?_
   refine W.frzS (s := 4) (d' := .sl none 1 []) O O O ?_
   refine W.ret ?_
   exact Ends.many (.inr O) (.cons O O O (show LdT _ 38 32 true from inferInstance) (.cons O O O trivial (.cons O O O trivial (.cons O O O trivial .nil)))) (by rw [rchk_1 (.inl h1)]; rfl) (show [(2,false),(3,true),(4,true),(5,true)].Nodup by decide)
 · refine W.l0 8 [.y 8 _,.y 9 _,.y 10 _,.y 11 _,.y 12 _,.y 13 _,.y 14 _,.y 15 _] [] [] [(1,_),(2,_),(15,_)] [(2,.var _),(1,.var _)] 113 ⟨aU (fU 1 O O),aU (lU 8 O O O O O O O),aU fun _ _ H K => R.bin (eU K 9 O) (kI 1 O) O trivial H,mU 10 O O,aW O O (gF (decide_eq_false h1) O) (fU 1 O O),aW O O (gF (decide_eq_false h1) O) (lU 12 O O O O O O O),aW O O (gF (decide_eq_false h1) O) fun _ _ H K => R.bin (eU K 13 O) (kI 256 O) O trivial H,aU fun _ _ H K => R.pickF (eU K 11 O) (decide_eq_false h1) (eU K 14 O) O H,trivial⟩ O O O O (tU O ?_)
   refine W.cond O (fun hc15 => ?_) (fun hc15 => ?_)
   · refine W.seq ?_
     refine W.l0 5 [.y 16 _] [] [] [(2,_),(16,_)] [(2,.var _),(1,.var _)] 113 ⟨aU fun _ _ H _ => R.bldAZ O H,trivial⟩ O O O O (⟨O,_,R.stZ (gU 2 O) (xU 2 O) O (gV 16 O) (by rfl) (by rfl) (by rfl) (by rfl) O,⟨O,_,R.asg (kN O) O (nU O),⟨O,_,R.asg (kN O) O (nU O),⟨O,_,R.asg (kI 1 O) O (nU O),tV [(2,_),(3,_),(4,_),(5,_)] [(2,.var _),(1,.var _)] 113 O O O ?_⟩⟩⟩⟩)
     refine W.asOwn (s := 3) 38 32 O ?_
     refine W.frzS (s := 3) (d' := .sl none 32 []) O O O ?_
     refine W.asOwn (s := 4) 3 1 O ?_
     refine W.frzS (s := 4) (d' := .sl none 1 []) O O O ?_
     refine W.ret ?_
     exact Ends.many (.inr O) (.cons O O O (show LdT _ 38 32 true from inferInstance) (.cons O O O trivial (.cons O O O trivial (.cons O O O trivial .nil)))) (by rw [rchk_1 (.inr (of_decide_eq_true hc15))]; rfl) (show [(2,false),(3,true),(4,true),(5,true)].Nodup by decide)
   · refine W.skip ?_
     refine W.seq ?_
     refine W.seq ?_
     by_cases h3 : (hs.length : Int) > n
     · have h2 : ¬ n > 256 := of_decide_eq_false hc15
       refine W.l0 15 [.y 17 _,.y 18 _,.y 19 _,.y 20 _,.y 21 _,.y 22 _,.y 23 _,.x 24,.x 25,.x 26,.x 27,.x 28,.x 29,.x 30,.y 31 _] [] [] [(1,_),(2,_),(31,_)] [(2,.var _),(1,.var _)] 113 ⟨aU (fU 1 O O),aU (lU 17 O O O O O O O),aU fun _ _ H K => R.lenE (SC.sl (K 18 _ O)) (List.length_map _) H,aU (fU 1 O O),aU (lU 20 O O O O O O O),aU fun _ _ H K => R.bin (eU K 19 O) (eU K 21 O) O trivial H,mU 22 O O,aF O O (gT (decide_eq_true h3) O),aF O O (gT (decide_eq_true h3) O),aF O O (gT (decide_eq_true h3) O),aF O O (gT (decide_eq_true h3) O),aF O O (gT (decide_eq_true h3) O),aF O O (gT (decide_eq_true h3) O),aF O O (gT (decide_eq_true h3) O),aU fun _ _ H K => R.pickT (eU K 23 O) (decide_eq_true h3) (kB true O) O H,trivial⟩ O O O O (tU O ?_)
       refine W.condT O (O) ?_
       refine W.seq ?_
       refine W.l0 5 [.y 32 _] [] [] [(2,_),(32,_)] [(2,.var _),(1,.var _)] 113 ⟨aU fun _ _ H _ => R.bldAZ O H,trivial⟩ O O O O (⟨O,_,R.stZ (gU 2 O) (xU 2 O) O (gV 32 O) (by rfl) (by rfl) (by rfl) (by rfl) O,⟨O,_,R.asg (kN O) O (nU O),⟨O,_,R.asg (kN O) O (nU O),⟨O,_,R.asg (kI 6 O) O (nU O),tV [(2,_),(3,_),(4,_),(5,_)] [(2,.var _),(1,.var _)] 113 O O O ?_⟩⟩⟩⟩)
       refine W.asOwn (s := 3) 38 32 O ?_
       refine W.frzS (s := 3) (d' := .sl none 32 []) O O O ?_
       refine W.asOwn (s := 4) 3 1 O ?_
       refine W.frzS (s := 4) (d' := .sl none 1 []) O O O ?_
       refine W.ret ?_
       exact Ends.many (.inr O) (.cons O O O (show LdT _ 38 32 true from inferInstance) (.cons O O O trivial (.cons O O O trivial (.cons O O O trivial .nil)))) (by rw [rchk_2 (by omega) (.inl h3)]; rfl) (show [(2,false),(3,true),(4,true),(5,true)].Nodup by decide)
     · have h2 : ¬ n > 256 := of_decide_eq_false hc15
       refine W.l0 15 [.y 17 _,.y 18 _,.y 19 _,.y 20 _,.y 21 _,.y 22 _,.y 23 _,.y 24 _,.y 25 _,.y 26 _,.y 27 _,.y 28 _,.y 29 _,.y 30 _,.y 31 _] [] [] [(1,_),(2,_),(31,_)] [(2,.var _),(1,.var _)] 113 ⟨aU (fU 1 O O),aU (lU 17 O O O O O O O),aU fun _ _ H K => R.lenE (SC.sl (K 18 _ O)) (List.length_map _) H,aU (fU 1 O O),aU (lU 20 O O O O O O O),aU fun _ _ H K => R.bin (eU K 19 O) (eU K 21 O) O trivial H,mU 22 O O,aW O O (gF (decide_eq_false h3) O) (fU 1 O O),aW O O (gF (decide_eq_false h3) O) (lU 24 O O O O O O O),aW O O (gF (decide_eq_false h3) O) fun _ _ H K => R.lenE (SC.sl (K 25 _ O)) (List.length_map _) H,aW O O (gF (decide_eq_false h3) O) (fU 1 O O),aW O O (gF (decide_eq_false h3) O) (lU 27 O O O O O O O),aW O O (gF (decide_eq_false h3) O) fun _ _ H K => R.lenE (SC.sl (K 28 _ O)) (List.length_map _) H,aW O O (gF (decide_eq_false h3) O) fun _ _ H K => R.lssN (fl.length) (hs.length) (eU K 26 O) (eU K 29 O) H,aU fun _ _ H K => R.pickF (eU K 23 O) (decide_eq_false h3) (eU K 30 O) O H,trivial⟩ O O O O (tU O ?_)
       refine W.condD O (fun hc31 => ?_) (fun hc31 => ?_)
       · refine W.seq ?_
         refine W.l0 5 [.y 32 _] [] [] [(2,_),(32,_)] [(2,.var _),(1,.var _)] 113 ⟨aU fun _ _ H _ => R.bldAZ O H,trivial⟩ O O O O (⟨O,_,R.stZ (gU 2 O) (xU 2 O) O (gV 32 O) (by rfl) (by rfl) (by rfl) (by rfl) O,⟨O,_,R.asg (kN O) O (nU O),⟨O,_,R.asg (kN O) O (nU O),⟨O,_,R.asg (kI 6 O) O (nU O),tV [(2,_),(3,_),(4,_),(5,_)] [(2,.var _),(1,.var _)] 113 O O O ?_⟩⟩⟩⟩)
         refine W.asOwn (s := 3) 38 32 O ?_
         refine W.frzS (s := 3) (d' := .sl none 32 []) O O O ?_
         refine W.asOwn (s := 4) 3 1 O ?_
         refine W.frzS (s := 4) (d' := .sl none 1 []) O O O ?_
         refine W.ret ?_
         exact Ends.many (.inr O) (.cons O O O (show LdT _ 38 32 true from inferInstance) (.cons O O O trivial (.cons O O O trivial (.cons O O O trivial .nil)))) (by rw [rchk_2 (by omega) (.inr hc31)]; rfl) (show [(2,false),(3,true),(4,true),(5,true)].Nodup by decide)
       · refine W.skip ?_
         refine W.seq ?_
         obtain ⟨m,rfl⟩ : ∃ m : Nat,n = ((m : Nat) : Int) := ⟨n.toNat,by omega⟩
         obtain ⟨hw1,hw2,hw3⟩ := wd_len (n := m) (by omega) (by omega)
         refine W.l0 7 [.y 33 _,.y 34 _,.y 35 _,.y 36 _,.y 37 _] [(4,36)] [(4,36)] [(2,_),(37,_)] [(2,.var _),(1,.var _)] 113 ⟨aU (lU 1 O O O O O O O),aU (fU 1 O O),aU (lU 34 O O O O O O O),aU fun _ _ H K => R.bslE (z := 1) (.cons (eU K 35 O) .nil) ⟨⟨O,O,O⟩,trivial⟩ O H (by decide),aU fun _ _ H K => R.bldO (l := [.agg [.int 0,.nils,.nils],.nils,.nils,.nils,.bool false]) (l' := [_,_,_,_,_]) (.pur (eU K 33 O) O O O (.own (K 36 _ O) O O O O (.nil O))) O H,trivial⟩ O O O O (⟨O,_,R.boxO (gU 37 O) O O O (nU O) (by decide),⟨O,_,R.asg (gV 38 O) O (nU O),tV [(2,_),(6,_)] [(38,.var _),(2,.var _),(1,.var _)] 113 O O O ?_⟩⟩)
         refine W.seq ?_
         refine W.block ?_
         refine W.loop (α := {q__ : Nat // q__ + nRows (lenA m q__) = nRows m}) (fun q__ => ⟨113,[(2,.ptr 2 0 []),(6,.ptr 38 0 [])],[(38,.var (.agg [.agg [.int ((m : Nat) : Int),.sl none 32 (hs.map hashD),.sl none 1 (fl.map D.bool)],.sl (some 3) 1 ((wdI m (q__.1 + 1)).map natD),.nils,.nils,.bool false])),(2,.var (.arr 32 1 ((List.replicate 32 0).map D.u8))),(1,.var (.agg [.int ((m : Nat) : Int),.sl none 32 (hs.map hashD),.sl none 1 (fl.map D.bool)]))]⟩) (fun q__ => nRows m - q__.1) ⟨(0),(by show 0 + _ = _; rw [Nat.zero_add]; rfl)⟩ O ?_
         rintro ⟨k,hk⟩
         show W _ _ _ _ ⟨113,[(2,.ptr 2 0 []),(6,.ptr 38 0 [])],[(38,.var (.agg [.agg [.int ((m : Nat) : Int),.sl none 32 (hs.map hashD),.sl none 1 (fl.map D.bool)],.sl (some 3) 1 ((wdI m (k + 1)).map natD),.nils,.nils,.bool false])),(2,.var (.arr 32 1 ((List.replicate 32 0).map D.u8))),(1,.var (.agg [.int ((m : Nat) : Int),.sl none 32 (hs.map hashD),.sl none 1 (fl.map D.bool)]))]⟩
         have hle := lenA_le m k
         have hlp := lenA_pos (show 0 < m by omega) k
         have hkp := nRows_pos (n := lenA m k) hlp
         have hnl := nRows_le m
         have hwl := wdI_len m (k + 1)
         have hk : k + nRows (lenA m k) = nRows m := hk
         refine W.seq ?_
         refine W.seq ?_
         refine W.draw (m := 13) (an := [0,1,3,7,0,16,48,112,240,496,1023,2047,4095]) hP (by decide) O (its := [.y 39 _,.y 40 _,.y 41 _,.y 42 _,.y 43 _,.y 44 _,.y 45 _,.y 46 _,.y 47 _,.y 48 _,.y 49 _,.y 50 _,.y 51 _]) (ks := []) (kk := []) (live := [2,6,51]) (env' := [(2,_),(6,_),(51,_)]) (⟨nU O,O,⟨mU 6 O O,aU fun _ _ H K => R.nilcP (K 39 _ O) H,aU (fU 40 O O),aU fun _ B H K => R.ldO (K 41 _ O) (B 38 _ O) O H,mU 6 O O,aU fun _ _ H K => R.nilcP (K 43 _ O) H,aU (fU 44 O O),aU fun _ B H K => R.ldO (K 45 _ O) (B 38 _ O) O H,aU fun _ B H K => R.lenE (SC.alb (K 46 _ O) (B 38 _ O) O) (List.length_map _) H,aU fun _ _ H K => R.subN ((wdI m (k + 1)).length) (1) (eU K 47 O) (kI 1 O) bU bU H,aU fun _ B H K => R.idxN (((wdI m (k + 1)).length - 1)) (SC.alb (K 42 _ O) (B 38 _ O) O) (evoI (eU K 48 O)) O bU H (by decide),aU fun _ B H K => R.ldE (K 49 _ O) (SC.alb (K 42 _ O) (B 38 _ O) O) (wdI_lastM m k) O O O O H,aU fun _ _ H K => R.gtrN (lenA m k) (1) (eU K 50 O) (kI 1 O) H,trivial⟩,O,O,O⟩) O (bx' := [(38,.var _),(2,.var _),(1,.var _)]) O (n' := 113) O (tV [(2,_),(6,_),(51,_)] [(38,.var _),(2,.var _),(1,.var _)] 113 O O O ?_)
         refine W.condD O (fun hc51 => ?_) (fun hc51 => ?_)
         · refine W.skip ?_
           refine W.block ?_
           refine W.drawC (m := 21) (an := [0,0,2,6,14,0,32,96,224,0,512,1536,3584,7680,15872,32736,65504,131040,262112,524256,1048574,2097151,4194303,8388607]) (its := [.y 52 _,.y 53 _,.y 54 _,.y 55 _,.y 56 _,.y 57 _,.y 58 _,.y 59 _,.y 60 _,.y 61 _,.y 62 _,.y 63 _,.y 64 _,.y 65 _,.y 66 _,.y 67 _,.y 68 _,.y 69 _,.y 70 _,.y 71 _,.y 72 _]) (ks := [(20,56),(20,60),(20,64)]) (kk := [(20,56),(20,60),(20,64)]) (live := [2,6,52,72]) (env' := [(2,_),(6,_),(52,_),(72,_)]) (bx1 := [(38,.var _),(2,.var _),(1,.var _)]) [(2,_),(1,_)] 20 [38] hP (by decide) O ⟨nU O,O,O,O⟩ ⟨O,⟨O,trivial⟩⟩ (                ⟨⟨O,O,fun _ τ hb ht hτ => R.mov (evt (hτ 6 _ O)) O ht⟩,⟨⟨O,O,fun _ τ hb ht hτ => R.mov (evt (hτ 6 _ O)) O ht⟩,⟨⟨O,O,fun _ τ hb ht hτ => R.nilcP (hτ 53 _ O) ht⟩,⟨⟨O,O,fun _ τ hb ht hτ => R.fdP (hτ 54 _ O) ht⟩,⟨⟨O,O,fun _ τ hb ht hτ => R.ldO (hτ 55 _ O) (hb 38 _ O) O ht⟩,⟨⟨O,O,fun _ τ hb ht hτ => R.mov (evt (hτ 6 _ O)) O ht⟩,⟨⟨O,O,fun _ τ hb ht hτ => R.nilcP (hτ 57 _ O) ht⟩,⟨⟨O,O,fun _ τ hb ht hτ => R.fdP (hτ 58 _ O) ht⟩,⟨⟨O,O,fun _ τ hb ht hτ => R.ldO (hτ 59 _ O) (hb 38 _ O) O ht⟩,⟨⟨O,O,fun _ τ hb ht hτ => R.mov (evt (hτ 6 _ O)) O ht⟩,⟨⟨O,O,fun _ τ hb ht hτ => R.nilcP (hτ 61 _ O) ht⟩,⟨⟨O,O,fun _ τ hb ht hτ => R.fdP (hτ 62 _ O) ht⟩,⟨⟨O,O,fun _ τ hb ht hτ => R.ldO (hτ 63 _ O) (hb 38 _ O) O ht⟩,⟨⟨O,O,fun _ τ hb ht hτ => R.lenE (SC.alb (hτ 64 _ O) (hb 38 _ O) O) (List.length_map _) ht⟩,⟨⟨O,O,fun _ τ hb ht hτ => R.subN ((wdI m (k + 1)).length) (1) (evt (hτ 65 _ O)) (kI 1 O) bU bU ht⟩,⟨⟨O,O,fun _ τ hb ht hτ => R.idxN (((wdI m (k + 1)).length - 1)) (SC.alb (hτ 60 _ O) (hb 38 _ O) O) (evoI (evt (hτ 66 _ O))) O bU ht (by decide)⟩,⟨⟨O,O,fun _ τ hb ht hτ => R.ldE (hτ 67 _ O) (SC.alb (hτ 60 _ O) (hb 38 _ O) O) (wdI_lastM m k) O O O O ht⟩,⟨⟨O,O,fun _ τ hb ht hτ => R.addN (lenA m k) (1) (evt (hτ 68 _ O)) (kI 1 O) bU ht⟩,⟨⟨O,O,fun _ τ hb ht hτ => R.quoN ((lenA m k + 1)) (2) (evt (hτ 69 _ O)) (kI 2 O) bU bU ht⟩,⟨⟨O,O,fun _ τ hb ht hτ => R.bslE (z := 1) (.cons (evt (hτ 70 _ O)) .nil) ⟨⟨O,O,O⟩,trivial⟩ O ht (by decide)⟩,⟨⟨O,O,O,(SpC.appB (s := 56) O O O O O O (fun τ hb hτ => (SrcO.sc (SC.sl (hτ 71 _ O O O)) (pur_lit O))) (show _ = ((wdI m (k + 1 + 1)).map natD) from (by rw [wdI_succ _ (k + 1),List.map_append]; rfl)) bU (by decide) (by decide) O)⟩,trivial⟩⟩⟩⟩⟩⟩⟩⟩⟩⟩⟩⟩⟩⟩⟩⟩⟩⟩⟩⟩⟩) O O O (nU O) ⟨O,⟨O,trivial⟩⟩ O (n' := 113) O (⟨O,_,R.nilcP (gU 52 O) (nU O),⟨O,_,R.fdP (gU 73 O) (nU O),⟨O,_,R.stOZ (gU 74 O) (xU 38 O) O (gU 72 O) O O (by rfl) (by rfl) O O,⟨[2,6],[(2,_),(6,_)],[(38,.var _),(2,.var _),(1,.var _)],113,O,O,O, ?_⟩⟩⟩⟩)
           exact ⟨⟨(k + 1),(by have h2 := nRows_2 (n := lenA m k) (by omega); rw [h2] at hk; show k + 1 + nRows ((lenA m k + 1) / 2) = _; omega)⟩,rfl,(by simp only []; omega)⟩
         · have hkn : nRows m = k + 1 := by rw [← hk,show lenA m k = 1 by omega,nRows_1]
           rw [← hkn]
           refine W.exit ?_
           refine W.seq ?_
           refine W.brwB 38 (d' := .agg [.agg [.int ((m : Nat) : Int),.sl none 32 (hs.map hashD),.sl none 1 (fl.map D.bool)],.sl none 1 ((wdI m (nRows m)).map natD),.nils,.nils,.bool false]) (bx' := [(38,.var _),(2,.var _),(1,.var _)]) O (show (D.agg [.agg [.int ((m : Nat) : Int),.sl none 32 (hs.map hashD),.sl none 1 (fl.map D.bool)],.sl (some 3) 1 ((wdI m (nRows m)).map natD),.nils,.nils,.bool false]).brw = _ from by simp only [D.brw,brws_eq,List.map_cons,List.map_nil]; rw [brw_map brw_hash,brw_map (fun _ => rfl),brw_map (fun _ => rfl)]) O ?_
           refine W.asOwnP 38 [2] 38 32 (bx' := [(38,.var _),(2,.var _),(1,.var _)]) O O O O O ?_
           refine W.asOwnP 38 [3] 3 1 (bx' := [(38,.var _),(2,.var _),(1,.var _)]) O O O O O ?_
           obtain ⟨a,bad1,fl1,hs1,ids1,at1,hX⟩ : ∃ o_ q_ f_ h_ i_ a_,fwW (wdI m (nRows m)) ((wdI m (nRows m)).length - 1) 0 (false,fl,hs,[],[]) = (o_,q_,f_,h_,i_,a_) := ⟨_,_,_,_,_,_,rfl⟩
           have hXo := fwW_ok (wdI m (nRows m)) ((wdI m (nRows m)).length - 1) 0 (false,fl,hs,[],[]) hh
           rw [hX] at hXo
           obtain ⟨ho1,ho2,ho3,ho4,ho5,_⟩ := hXo
           simp only [List.length_nil] at ho1 ho3 ho4 ho5
           refine W.l0 10 [.y 75 _,.y 76 _,.y 77 _,.y 78 _,.y 79 _,.y 80 _,.y 81 _] [] [] [(2,_),(6,_),(75,_),(81,_)] [(38,.var _),(2,.var _),(1,.var _)] 113 ⟨mU 6 O O,mU 6 O O,aU fun _ _ H K => R.nilcP (K 76 _ O) H,aU (fU 77 O O),aU (lU 78 O O O O O O O),aU fun _ _ H K => R.lenE (SC.sl (K 79 _ O)) (List.length_map _) H,aU fun _ _ H K => R.subN ((wdI m (nRows m)).length) (1) (eU K 80 O) (kI 1 O) bU bU H,trivial⟩ O O O O (⟨O,_,R.callB [(0,38)] hC (show FnB Tryd.prog gl 31 [.ptr 0 0 [],.int ((((wdI m (nRows m)).length - 1) : Nat) : Int),.int ((0 : Nat) : Int)] [(0,.var (.agg [.agg [.int ((m : Nat) : Int),.sl none 32 (hs.map hashD),.sl none 1 (fl.map D.bool)],.sl none 1 ((wdI m (nRows m)).map natD),.sl (some 38) 32 (([] : List Hs).map hashD),.sl (some 3) 1 (([] : List Nat).map natD),.bool false]))] (hashD a) [(0,.var (.agg [.agg [.int ((m : Nat) : Int),.sl none 32 (hs1.map hashD),.sl none 1 (fl1.map D.bool)],.sl none 1 ((wdI m (nRows m)).map natD),.sl (some 38) 32 (ids1.map hashD),.sl (some 3) 1 (at1.map natD),.bool bad1]))] [] from by have h := fw_call (n := ((m : Nat) : Int)) (m := m) (by omega) (by omega) hh (by omega) hf0; unfold FwP at h; rw [hX] at h; exact h) (EvB.cons (gV 75 O) O O O (EvB.cons (gV 81 O) O O O (EvB.cons (kI 0 O) O O O EvB.nil))) O ⟨O,trivial⟩ ⟨O,trivial⟩ O O O O O O (nU O),⟨O,_,R.alloc O (nU O),⟨O,_,R.stZ (gU 7 O) (xU 7 O) O (gV 82 O) (by rfl) (by rfl) (by rfl) (by rfl) O,tV [(2,_),(6,_),(7,_)] [(7,.var _),(38,.var _),(2,.var _),(1,.var _)] 113 O O O ?_⟩⟩⟩)
           refine W.seq ?_
           refine W.seq ?_
           by_cases hb1 : bad1 = true
           · refine W.draw (m := 20) (an := [0,1,3,7,15,31,63,127,255,511,1023,31,2079,6175,14367,30751,63519,131071,262143,524287]) hP (by decide) O (its := [.y 83 _,.y 84 _,.y 85 _,.y 86 _,.y 87 _,.x 88,.x 89,.x 90,.x 91,.x 92,.x 93,.x 94,.x 95,.x 96,.x 97,.x 98,.x 99,.x 100,.x 101,.y 102 _]) (ks := []) (kk := []) (live := [2,6,7,102]) (env' := [(2,_),(6,_),(7,_),(102,_)]) (⟨nU O,O,⟨mU 6 O O,aU fun _ _ H K => R.nilcP (K 83 _ O) H,aU (fU 84 O O),aU (lU 85 O O O O O O O),mU 86 O O,aF O O (gT (hb1) O),aF O O (gT (hb1) O),aF O O (gT (hb1) O),aF O O (gT (hb1) O),aF O O (gT (hb1) O),aF O O (gT (hb1) O),aF O O (gT (hb1) O),aF O O (gT (hb1) O),aF O O (gT (hb1) O),aF O O (gT (hb1) O),aF O O (gT (hb1) O),aF O O (gT (hb1) O),aF O O (gT (hb1) O),aF O O (gT (hb1) O),aU fun _ _ H K => R.pickT (eU K 87 O) (hb1) (kB true O) O H,trivial⟩,O,O,O⟩) O (bx' := [(7,.var _),(38,.var _),(2,.var _),(1,.var _)]) O (n' := 113) O (tV [(2,_),(6,_),(7,_),(102,_)] [(7,.var _),(38,.var _),(2,.var _),(1,.var _)] 113 O O O ?_)
             refine W.condT O (O) ?_
             refine W.seq ?_
             refine W.l0 5 [.y 103 _] [] [] [(2,_),(103,_)] [(7,.var _),(38,.var _),(2,.var _),(1,.var _)] 113 ⟨aU fun _ _ H _ => R.bldAZ O H,trivial⟩ O O O O (⟨O,_,R.stZ (gU 2 O) (xU 2 O) O (gV 103 O) (by rfl) (by rfl) (by rfl) (by rfl) O,⟨O,_,R.asg (kN O) O (nU O),⟨O,_,R.asg (kN O) O (nU O),⟨O,_,R.asg (kI 15 O) O (nU O),tV [(2,_),(3,_),(4,_),(5,_)] [(7,.var _),(38,.var _),(2,.var _),(1,.var _)] 113 O O O ?_⟩⟩⟩⟩)
             refine W.asOwn (s := 3) 38 32 O ?_
             refine W.frzS (s := 3) (d' := .sl none 32 []) O O O ?_
             refine W.asOwn (s := 4) 3 1 O ?_
             refine W.frzS (s := 4) (d' := .sl none 1 []) O O O ?_
             refine W.ret ?_
             exact Ends.many (.inr O) (.cons O O O (show LdT _ 38 32 true from inferInstance) (.cons O O O trivial (.cons O O O trivial (.cons O O O trivial .nil)))) (by rw [rchk_3 (by omega) (by omega) hX (.inl hb1)]; rfl) (show [(2,false),(3,true),(4,true),(5,true)].Nodup by decide)
           · refine W.draw (m := 20) (an := [0,1,3,7,15,31,63,127,255,511,1023,31,2079,6175,14367,30751,63519,131071,262143,524287]) hP (by decide) O (its := [.y 83 _,.y 84 _,.y 85 _,.y 86 _,.y 87 _,.y 88 _,.y 89 _,.y 90 _,.y 91 _,.y 92 _,.y 93 _,.y 94 _,.y 95 _,.y 96 _,.y 97 _,.y 98 _,.y 99 _,.y 100 _,.y 101 _,.y 102 _]) (ks := []) (kk := []) (live := [2,6,7,102]) (env' := [(2,_),(6,_),(7,_),(102,_)]) (⟨nU O,O,⟨mU 6 O O,aU fun _ _ H K => R.nilcP (K 83 _ O) H,aU (fU 84 O O),aU (lU 85 O O O O O O O),mU 86 O O,aW O O (gF (bfalse hb1) O) fun _ _ H K => R.mov (eU K 6 O) O H,aW O O (gF (bfalse hb1) O) fun _ _ H K => R.nilcP (K 88 _ O) H,aW O O (gF (bfalse hb1) O) (fU 89 O O),aW O O (gF (bfalse hb1) O) (fU 90 O O),aW O O (gF (bfalse hb1) O) (lU 91 O O O O O O O),aW O O (gF (bfalse hb1) O) fun _ _ H K => R.lenE (SC.sl (K 92 _ O)) (List.length_map _) H,aW O O (gF (bfalse hb1) O) fun _ _ H K => R.mov (eU K 6 O) O H,aW O O (gF (bfalse hb1) O) fun _ _ H K => R.nilcP (K 94 _ O) H,aW O O (gF (bfalse hb1) O) (fU 95 O O),aW O O (gF (bfalse hb1) O) (fU 96 O O),aW O O (gF (bfalse hb1) O) (lU 97 O O O O O O O),aW O O (gF (bfalse hb1) O) fun _ _ H K => R.lenE (SC.sl (K 98 _ O)) (List.length_map _) H,aW O O (gF (bfalse hb1) O) fun _ _ H K => R.addN (hs1.length) (fl1.length) (eU K 93 O) (eU K 99 O) bU H,aW O O (gF (bfalse hb1) O) fun _ _ H K => R.gtrN ((hs1.length + fl1.length)) (0) (eU K 100 O) (kI 0 O) H,aU fun _ _ H K => R.pickF (eU K 87 O) (bfalse hb1) (eU K 101 O) O H,trivial⟩,O,O,O⟩) O (bx' := [(7,.var _),(38,.var _),(2,.var _),(1,.var _)]) O (n' := 113) O (tV [(2,_),(6,_),(7,_),(102,_)] [(7,.var _),(38,.var _),(2,.var _),(1,.var _)] 113 O O O ?_)
             refine W.condD O (fun hc102 => ?_) (fun hc102 => ?_)
             · refine W.seq ?_
               refine W.l0 5 [.y 103 _] [] [] [(2,_),(103,_)] [(7,.var _),(38,.var _),(2,.var _),(1,.var _)] 113 ⟨aU fun _ _ H _ => R.bldAZ O H,trivial⟩ O O O O (⟨O,_,R.stZ (gU 2 O) (xU 2 O) O (gV 103 O) (by rfl) (by rfl) (by rfl) (by rfl) O,⟨O,_,R.asg (kN O) O (nU O),⟨O,_,R.asg (kN O) O (nU O),⟨O,_,R.asg (kI 15 O) O (nU O),tV [(2,_),(3,_),(4,_),(5,_)] [(7,.var _),(38,.var _),(2,.var _),(1,.var _)] 113 O O O ?_⟩⟩⟩⟩)
               refine W.asOwn (s := 3) 38 32 O ?_
               refine W.frzS (s := 3) (d' := .sl none 32 []) O O O ?_
               refine W.asOwn (s := 4) 3 1 O ?_
               refine W.frzS (s := 4) (d' := .sl none 1 []) O O O ?_
               refine W.ret ?_
               exact Ends.many (.inr O) (.cons O O O (show LdT _ 38 32 true from inferInstance) (.cons O O O trivial (.cons O O O trivial (.cons O O O trivial .nil)))) (by rw [rchk_3 (by omega) (by omega) hX (.inr hc102)]; rfl) (show [(2,false),(3,true),(4,true),(5,true)].Nodup by decide)
             · refine W.skip ?_
               refine W.seq ?_
               refine W.brwB 38 (d' := .agg [.agg [.int ((m : Nat) : Int),.sl none 32 (hs1.map hashD),.sl none 1 (fl1.map D.bool)],.sl none 1 ((wdI m (nRows m)).map natD),.sl none 32 (ids1.map hashD),.sl none 1 (at1.map natD),.bool bad1]) (bx' := [(7,.var _),(38,.var _),(2,.var _),(1,.var _)]) O (show (D.agg [.agg [.int ((m : Nat) : Int),.sl none 32 (hs1.map hashD),.sl none 1 (fl1.map D.bool)],.sl none 1 ((wdI m (nRows m)).map natD),.sl (some 38) 32 (ids1.map hashD),.sl (some 3) 1 (at1.map natD),.bool bad1] : D).brw = _ from by simp only [D.brw,brws_eq,List.map_cons,List.map_nil]; rw [brw_map brw_hash,brw_map (fun _ => rfl),brw_map (fun _ => rfl),brw_map brw_hash,brw_map (fun _ => rfl)]) O ?_
               refine W.drawE (m := 11) (an := [0,0,2,6,14,0,32,96,224,1,543,2047,4095]) (its := [.y 104 _,.y 105 _,.y 106 _,.y 107 _,.y 108 _,.y 109 _,.y 110 _,.y 111 _,.y 112 _,⟨122,.dead,true⟩,.y 3 _]) (ks := [(9,122)]) (kk := []) (efs := [(9,[(2,.var _)])]) (live := [2,3,112]) (env' := [(2,_),(3,_),(112,_)]) (nd := 40) (bx1 := [(2,.var _),(7,.var _),(38,.var _),(1,.var _)]) hP (by decide) O ⟨⟨131,O⟩,nU O,O,O,O,O⟩ (                    ⟨⟨O,nU O,O,fun _ τ hb ht hτ => R.ldP (hτ 7 _ O) (hb 7 _ O) O O O O ht⟩,⟨⟨O,nU O,O,fun _ τ hb ht hτ => R.mov (evt (hτ 6 _ O)) O ht⟩,⟨⟨O,nU O,O,fun _ τ hb ht hτ => R.nilcP (hτ 105 _ O) ht⟩,⟨⟨O,nU O,O,fun _ τ hb ht hτ => R.fdP (hτ 106 _ O) ht⟩,⟨⟨O,nU O,O,fun _ τ hb ht hτ => R.ldP (hτ 107 _ O) (hb 38 _ O) O O O O ht⟩,⟨⟨O,nU O,O,fun _ τ hb ht hτ => R.mov (evt (hτ 6 _ O)) O ht⟩,⟨⟨O,nU O,O,fun _ τ hb ht hτ => R.nilcP (hτ 109 _ O) ht⟩,⟨⟨O,nU O,O,fun _ τ hb ht hτ => R.fdP (hτ 110 _ O) ht⟩,⟨⟨O,nU O,O,fun _ τ hb ht hτ => R.ldP (hτ 111 _ O) (hb 38 _ O) O O O O ht⟩,⟨⟨O,O,O,(SpE.st (p := 2) (id := 2) O O O (fun τ hτ => (evt (hτ 104 _ O))) (by rfl) (by rfl) (by rfl) (by rfl) O)⟩,⟨⟨O,nU O,O,fun _ τ hb ht hτ => R.asg (evt (hτ 108 _ O)) O ht⟩,trivial⟩⟩⟩⟩⟩⟩⟩⟩⟩⟩⟩) O O O (n' := 113) O (⟨O,_,R.asg (gV 112 O) O (nU O),⟨O,_,R.asg (kI 0 O) O (nU O),⟨[2,3,4,5],[(2,_),(3,_),(4,_),(5,_)],[(2,.var _),(7,.var _),(38,.var _),(1,.var _)],113,O,O,O, ?_⟩⟩⟩)
               refine W.ret ?_
               exact Ends.many (.inr rfl) (.cons rfl rfl rfl (show LdT _ 38 32 true from inferInstance) (.cons rfl rfl rfl trivial (.cons rfl rfl rfl trivial (.cons rfl rfl rfl trivial .nil)))) (by rw [rchk_4 (by omega) (by omega) hX (by intro h; exact h.elim hb1 hc102)] <;> rfl) (show [(2,false),(3,true),(4,true),(5,true)].Nodup by decide)

end Go.Sx
