/-
 The plain law of trees of hashes: where branches lead.
-/
import Derived.Test.YthhliikibffhjaaDoorMSxBs2
import Derived.Test.YthhliikibffhjaaDoorMPt2
import Derived.Test.YthhliikibffhjaaDoorMSxOwn
set_option linter.unusedVariables false
set_option linter.unusedSimpArgs false
set_option linter.unnecessarySimpa false

namespace Go.Sx
open Go.Proofs
theorem rows_ok (l : List Hs) : Fn Tryd.prog gl 38 [.sl none 32 (l.map hashD)] (.fn 48 [.rp (.sl none 32 (l.map hashD))]) := by
 refine Fn.of (n := 4) Tryd.func38 rfl rfl rfl (nU rfl) fun C hC hD => ?_
 refine W.seq ?_
 refine W.l0 2 [] [] [] [(0,_)] [] 4 trivial O O O O (⟨O,_,R.box (gV 0 O) O O (nU O),⟨O,_,R.asg (show ev _ _ (.const (.nilFunc)) = some (.nilf) from O) O (nU O),tV [(1,_)] [(1,.var _)] 4 O O O ?_⟩⟩)
 refine W.seq ?_
 refine W.frzB 1 [] (d' := .sl none 32 (l.map hashD)) (bx' := []) O (brw_hs _ _ _) O O O O O O (pin_sub hD O) ?_
 refine W.l0 2 [.y 3 _,.y 2 _] [] [] [(2,_)] [] 4 ⟨aU fun _ _ H K => R.mkfn1 (eU K 1 O) O O H,aU fun _ _ H K => R.asg (eU K 3 O) O H,trivial⟩ O O O O (tU O ?_)
 refine W.ret ?_
 exact Ends.one' (.inr O) O (O) O O trivial

theorem rows_itr (l : List Hs) (hl : allH l) (hl0 : l.length ≤ 1000) : Itr Tryd.prog gl 48 [.rp (.sl none 32 (l.map hashD))] ((List.range (nRows l.length)).map fun k => .sl none 32 ((rowA joinS l k).map hashD)) := by
 refine Itr.of (n := 43) Tryd.func48 rfl rfl rfl rfl (nU rfl) fun G Y lo hY hyl => ?_
 refine V.scope ?_
 refine V.seq ?_
 refine V.of fun C hC hD => ?_
 refine W.l0 2 [.y 6 _,.y 3 _] [] [] [(0,_),(3,_)] [] 43 ⟨aU fun _ _ H K => R.ldR (eU K 1 O) O O O H,aU fun _ _ H K => R.asg (eU K 6 O) O H,trivial⟩ O O O O (tU O ?_)
 refine V.seq ?_
 refine V.label ?_
 refine V.block ?_
 refine V.loop (α := {q__ : Nat // q__ + nRows (rowA joinS l q__).length = nRows l.length}) (fun q__ => ((q__.1,false),(⟨43,[(0,.yld lo),(3,.sl none 32 ((rowA joinS l q__.1).map hashD))],[]⟩ : Sg))) (fun q__ => nRows l.length - q__.1) ⟨(0),(by show 0 + _ = _; rw [Nat.zero_add]; rfl)⟩ rfl ?_
 rintro ⟨k,hk⟩
 show V _ _ _ _ _ ((k,false),(⟨43,[(0,.yld lo),(3,.sl none 32 ((rowA joinS l k).map hashD))],[]⟩ : Sg))
 have hrl := rowA_len joinS l k
 have hle := lenA_le l.length k
 have hra := rowA_all joinS_len hl k
 have hk : k + nRows (rowA joinS l k).length = nRows l.length := hk
 refine V.seq ?_
 refine V.of fun C hC hD => ?_
 refine W.seq ?_
 refine W.l0 3 [.y 7 _,.y 8 _,.y 9 _] [] [] [(0,_),(3,_),(9,_)] [] 43 ⟨mU 3 O O,aU fun _ _ H K => R.lenE (SC.sl (K 7 _ O)) (List.length_map _) H,aU fun _ _ H K => R.gtrN ((rowA joinS l k).length) (0) (eU K 8 O) (kI 0 O) H,trivial⟩ O O O O (tU O ?_)
 refine W.condD O (fun hc9 => ?_) (fun hc9 => ?_)
 · refine W.skip ?_
   refine V.block ?_
   refine V.seq ?_
   refine V.seq ?_
   refine V.region ?_
   refine VL.step rfl (fun C hC => R.mov (gV 0 rfl) rfl (nU rfl)) ?_
   refine VL.step rfl (fun C hC => R.mov (gV 3 rfl) rfl (nU rfl)) ?_
   refine VL.yield hY hyl (gU 10 rfl) (gV 11 rfl) rfl rfl (by rw [List.length_map,List.length_range]; have := nRows_pos (n := (rowA joinS l k).length) (by omega); omega) (by rw [List.getElem_map,List.getElem_range]) (nU rfl) (fun s__ => ?_)
   cases s__
   · refine VL.step rfl (fun C hC => R.un (gV 12 rfl) rfl (nU rfl)) ?_
     refine VL.step rfl (fun C hC => R.mov (gV 13 rfl) rfl (nU rfl)) ?_
     refine VL.stepG ⟨_,14,rfl,rfl,.inl ⟨_,rfl,gw (v := false) (rfl) rfl⟩⟩ (fun C hC => R.mov (gV 3 rfl) rfl (nU rfl)) ?_
     refine VL.stepG ⟨_,14,rfl,rfl,.inl ⟨_,rfl,gw (v := false) (rfl) rfl⟩⟩ (fun C hC => R.lenE (SC.sl (gU 15 rfl)) (List.length_map _) (nU rfl)) ?_
     refine VL.stepG ⟨_,14,rfl,rfl,.inl ⟨_,rfl,gw (v := false) (rfl) rfl⟩⟩ (fun C hC => R.eqlN ((rowA joinS l k).length) (1) (gV 16 rfl) (kI 1 rfl) (nU rfl)) ?_
     refine VL.step rfl (fun C hC => R.pickF (gV 14 rfl) (rfl) (gV 17 rfl) rfl (nU rfl)) ?_
     refine VL.nil ?_
     refine V.dropS (live := [0,3,18]) (env' := [(0,_),(3,_),(18,_)]) (bx' := []) (n' := 43) rfl rfl rfl ?_
     refine V.of fun C hC hD => ?_
     refine W.condD O (fun hc18 => ?_) (fun hc18 => ?_)
     · refine W.exit ?_
       exact ⟨fun _ h => (by cases h),.inl rfl,.inr (by rw [List.length_map,List.length_range]; show k + 1 = _; rw [show (rowA joinS l k).length = 1 by omega,nRows_1] at hk; omega)⟩
     · refine W.skip ?_
       refine V.of fun C hC hD => ?_
       refine W.seq ?_
       refine W.l0 1 [.y 4 _] [] [] [(0,_),(3,_),(4,_)] [] 43 ⟨aU fun _ _ H _ => R.asg (kN O) O H,trivial⟩ O O O O (tU O ?_)
       refine W.seq ?_
       refine W.seq ?_
       refine W.l0 1 [.y 5 _] [] [] [(0,_),(3,_),(4,_),(5,_)] [] 43 ⟨aU fun _ _ H _ => R.asg (kI 0 O) O H,trivial⟩ O O O O (tU O ?_)
       refine W.block ?_
       refine W.asOwn (s := 4) 38 32 O ?_
       refine W.loop (α := {q__ : Nat // q__ ≤ ((rowA joinS l k).length + 1) / 2}) (fun q__ => ⟨43,[(0,.yld lo),(3,.sl none 32 ((rowA joinS l k).map hashD)),(4,.sl (some 38) 32 ((upI joinS (rowA joinS l k) q__.1).map hashD)),(5,.int ((2 * q__.1 : Nat) : Int))],[]⟩) (fun q__ => ((rowA joinS l k).length + 1) / 2 - q__.1) ⟨(0),bU⟩ O ?_
       rintro ⟨i,hi⟩
       show W _ _ _ _ ⟨43,[(0,.yld lo),(3,.sl none 32 ((rowA joinS l k).map hashD)),(4,.sl (some 38) 32 ((upI joinS (rowA joinS l k) i).map hashD)),(5,.int ((2 * i : Nat) : Int))],[]⟩
       have hul := upI_len joinS (rowA joinS l k) i
       refine W.seq ?_
       refine W.seq ?_
       refine W.l0 4 [.y 19 _,.y 20 _,.y 21 _,.y 22 _] [] [] [(0,_),(3,_),(4,_),(5,_),(22,_)] [] 43 ⟨mU 5 O O,mU 3 O O,aU fun _ _ H K => R.lenE (SC.sl (K 20 _ O)) (List.length_map _) H,aU fun _ _ H K => R.lssN (2 * i) ((rowA joinS l k).length) (eU K 19 O) (eU K 21 O) H,trivial⟩ O O O O (tU O ?_)
       refine W.condD O (fun hc22 => ?_) (fun hc22 => ?_)
       · refine W.skip ?_
         refine W.seq ?_
         refine W.block ?_
         refine W.draw (m := 18) (an := [0,0,0,6,14,0,0,64,0,256,768,1984,4064,8160,16382,32766,65535,131071]) hP (by decide) O (its := [.y 25 _,.y 26 _,.y 27 _,.y 28 _,.y 29 _,.y 30 _,.y 31 _,.y 32 _,.y 33 _,.y 34 _,.y 35 _,.y 36 _,.y 37 _,.y 38 _,.y 39 _,.y 40 _,.y 41 _,.y 4 _]) (ks := [(16,4),(17,41),(17,25)]) (kk := [(16,4),(17,41)]) (live := [0,3,4,5]) (env' := [(0,_),(3,_),(4,_),(5,_)]) (⟨nU O,O,⟨aU fun _ _ H K => R.al (K 4 _ O) H (by decide),mU 3 O O,mU 5 O O,aU fun _ _ H K => R.idxN (2 * i) (SC.sl (K 26 _ O)) (evoI (eU K 27 O)) O bU H (by decide),aU fun _ _ H K => R.ldE (K 28 _ O) (SC.sl (K 26 _ O)) (map_get! (l := (rowA joinS l k)) bU) O O O O H,mU 3 O O,mU 5 O O,aU fun _ _ H K => R.addN (2 * i) (1) (eU K 31 O) (kI 1 O) bU H,mU 3 O O,aU fun _ _ H K => R.lenE (SC.sl (K 33 _ O)) (List.length_map _) H,aU fun _ _ H K => R.subN ((rowA joinS l k).length) (1) (eU K 34 O) (kI 1 O) bU bU H,aU fun _ _ H K => R.minI (r := ((min (2 * i + 1) ((rowA joinS l k).length - 1) : Nat) : Int)) (eU K 32 O) (eU K 35 O) (by omega) H,aU fun _ _ H K => R.idxN (min (2 * i + 1) ((rowA joinS l k).length - 1)) (SC.sl (K 30 _ O)) (evoI (eU K 36 O)) O bU H (by decide),aU fun _ _ H K => R.ldE (K 37 _ O) (SC.sl (K 30 _ O)) (map_get! (l := (rowA joinS l k)) bU) O O O O H,aU fun _ _ H K => R.callG hC (join_ok _ _ (hra.get (by omega)) (hra.get (by omega))) (Bors.cons (Bor.pur (eU K 29 O) O O) (Bors.cons (Bor.pur (eU K 38 O) O O) Bors.nil)) (FrsR.one (frs_hash _)) H,aU fun _ _ H K => R.bslE (z := 32) (.cons (eU K 39 O) .nil) ⟨⟨O,O,O⟩,trivial⟩ O H (by decide),aU fun _ _ H K => R.appE (Or.inr (K 25 _ O)) (K 4 _ O) (SrcO.sc (SC.sl (K 40 _ O)) (pur_lit O)) (app_one) bU H (by decide) (by decide),aU fun _ _ H K => R.asgO (K 41 _ O) O H (by decide),trivial⟩,O,O,O⟩) O (bx' := []) O (n' := 43) O (tV [(0,_),(3,_),(4,_),(5,_)] [] 43 O O O ?_)
         refine W.l0 3 [.y 23 _,.y 24 _,.y 5 _] [] [] [(0,_),(3,_),(4,_),(5,_)] [] 43 ⟨mU 5 O O,aU fun _ _ H K => R.addN (2 * i) (2) (eU K 23 O) (kI 2 O) bU H,aU fun _ _ H K => R.asg (eU K 24 O) O H,trivial⟩ O O O O (tU O ?_)
         exact ⟨⟨(i + 1),bU⟩,rfl,(by simp only []; omega)⟩
       · obtain rfl : i = ((rowA joinS l k).length + 1) / 2 := by omega
         refine W.exit ?_
         refine W.frzS (s := 4) (d' := .sl none 32 ((rowA joinS l (k + 1)).map hashD)) O O (brw_hs _ _ _) ?_
         refine W.l0 2 [.y 42 _,.y 3 _] [] [] [(0,_),(3,_)] [] 43 ⟨mU 4 O O,aU fun _ _ H K => R.asg (eU K 42 O) O H,trivial⟩ O O O O (tU O ?_)
         exact ⟨⟨(k + 1),(by have h2 := nRows_2 (n := (rowA joinS l k).length) (by omega); have h3 : (rowA joinS l (k + 1)).length = ((rowA joinS l k).length + 1) / 2 := upR_len _ _; rw [h2,← h3] at hk; show k + 1 + _ = _; omega)⟩,rfl,(by have := nRows_pos (n := (rowA joinS l k).length) (by omega); simp only []; omega)⟩
   · refine VL.step rfl (fun C hC => R.un (gV 12 rfl) rfl (nU rfl)) ?_
     refine VL.step rfl (fun C hC => R.mov (gV 13 rfl) rfl (nU rfl)) ?_
     refine VL.stepU ⟨_,14,rfl,rfl,.inl ⟨_,rfl,gw (v := true) (rfl) rfl⟩⟩ rfl (nU rfl) ?_
     refine VL.stepU ⟨_,14,rfl,rfl,.inl ⟨_,rfl,gw (v := true) (rfl) rfl⟩⟩ rfl (nU rfl) ?_
     refine VL.stepU ⟨_,14,rfl,rfl,.inl ⟨_,rfl,gw (v := true) (rfl) rfl⟩⟩ rfl (nU rfl) ?_
     refine VL.step rfl (fun C hC => R.pickT (gV 14 rfl) (rfl) (kB true rfl) rfl (nU rfl)) ?_
     refine VL.nil ?_
     refine V.dropS (live := [0,3,18]) (env' := [(0,_),(3,_),(18,_)]) (bx' := []) (n' := 43) rfl rfl rfl ?_
     refine V.of fun C hC hD => ?_
     refine W.condT O (O) ?_
     refine W.exit ?_
     exact ⟨fun _ h => (by cases h),.inl rfl,.inl rfl⟩
 · refine W.exit ?_
   exact ⟨fun _ h => (by cases h),.inl rfl,.inr (by rw [List.length_map,List.length_range]; show k = _; rw [show (rowA joinS l k).length = 0 by omega,nRows_0] at hk; omega)⟩

end Go.Sx

namespace Go.Sx
open Go.Proofs
theorem root_ok (l : List Hs) (hl : allH l) (hl0 : l.length ≤ 1000) : Fn Tryd.prog gl 22 [.sl none 32 (l.map hashD)] (hashD (rootS joinS l)) := by
 refine Fn.ofR (n := 11) Tryd.func22 rfl rfl rfl (Nat.le_of_ble_eq_true rfl) fun W0 G hgl => ?_
 refine V.seq ?_
 refine V.of fun C hC hD => ?_
 refine W.line (n := 1) (by decide) (its := []) (ks := []) (kk := []) (live := [0]) (env' := [(0,_)])
  (⟨Nat.le_of_ble_eq_true rfl,rfl,
   trivial,rfl,rfl,rfl⟩)
  rfl (bx' := []) rfl (n' := 11) rfl (⟨rfl,_,R.alloc rfl (Nat.le_of_ble_eq_true rfl),⟨[0,2],[(0,_),(2,_)],[(2,.var _)],11,rfl,rfl,rfl, ?_⟩⟩)
 refine V.seq ?_
 refine V.seq ?_
 refine V.of fun C hC hD => ?_
 refine W.line (n := 2) (by decide) (its := [⟨4,_,true⟩,⟨5,_,true⟩]) (ks := []) (kk := []) (live := [2,5]) (env' := [(2,_),(5,_)])
  (⟨Nat.le_of_ble_eq_true rfl,rfl,
   ⟨⟨rfl,rfl,fun _ τ hb ht hτ => R.mov (evt (hτ 0 _ rfl)) rfl ht⟩,
   ⟨⟨rfl,rfl,fun _ τ hb ht hτ => R.callPE hC (rows_ok l) (EvP.cons (evt (hτ 4 _ rfl)) rfl rfl EvP.nil) ht⟩,
   trivial⟩⟩,rfl,rfl,rfl⟩)
  rfl (bx' := [(2,.var _)]) rfl (n' := 11) rfl (⟨[2,5],[(2,_),(5,_)],[(2,.var _)],11,rfl,rfl,rfl, ?_⟩)
 refine V.block ?_
 refine V.rangeE [2] (nRows l.length) (fun k => .sl none 32 ((rowA joinS l k).map hashD)) (fun k => [(2,.var (hashD (rootA joinS l k)))]) (fun _ _ => False) (fun _ => True) hgl (rows_itr l hl hl0) rfl rfl rfl rfl (rfl) rfl ⟨frs_hash' _,rfl,trivial⟩ (fun _ => ⟨rfl,rfl⟩) (trivial) (fun k hk hJ C hC hD => ?_) ?_ ?_
 · have hrl := rowA_len joinS l k
   have hle := lenA_le l.length k
   have hra := rowA_all joinS_len hl k
   have hrp := rowA_pos joinS l k hk
   show W _ _ _ _ _
   refine W.dropS (live := [2,6]) (env' := [(2,_),(6,_)]) (bx' := [(2,.var _)]) (n' := 11) rfl rfl rfl ?_
   refine W.line (n := 1) (by decide) (its := [⟨3,_,true⟩]) (ks := []) (kk := []) (live := [2,3]) (env' := [(2,_),(3,_)])
    (⟨Nat.le_of_ble_eq_true rfl,rfl,
     ⟨⟨rfl,rfl,fun _ τ hb ht hτ => R.asg (evt (hτ 6 _ rfl)) rfl ht⟩,
     trivial⟩,rfl,rfl,rfl⟩)
    rfl (bx' := [(2,.var _)]) rfl (n' := 11) rfl (⟨[2,3],[(2,_),(3,_)],[(2,.var _)],11,rfl,rfl,rfl, ?_⟩)
   refine ⟨rfl,fun C hC hD => ?_⟩
   refine W.block ?_
   refine W.line (n := 4) (by decide) (its := [⟨7,_,true⟩,⟨8,_,true⟩,⟨9,_,true⟩]) (ks := []) (kk := []) (live := [2,9]) (env' := [(2,_),(9,_)])
    (⟨Nat.le_of_ble_eq_true rfl,rfl,
     ⟨⟨rfl,rfl,fun _ τ hb ht hτ => R.mov (evt (hτ 3 _ rfl)) rfl ht⟩,
     ⟨⟨rfl,rfl,fun _ τ hb ht hτ => R.idxN (0) (SC.sl (hτ 7 _ rfl)) (evoI (show ev _ _ (.const (.int .i64 0)) = some (.int ((0 : Nat) : Int)) from rfl)) rfl (by first | omega | (simp only [List.length_map,List.length_append,List.length_cons,List.length_nil,List.length_take,List.length_drop,List.length_replicate]; omega) | (simp; omega)) ht (by decide)⟩,
     ⟨⟨rfl,rfl,fun _ τ hb ht hτ => R.ldE (hτ 8 _ rfl) (SC.sl (hτ 7 _ rfl)) (map_get! (l := (rowA joinS l k)) (by first | omega | (simp only [List.length_map,List.length_append,List.length_cons,List.length_nil,List.length_take,List.length_drop,List.length_replicate]; omega) | (simp; omega))) rfl rfl rfl rfl ht⟩,
     trivial⟩⟩⟩,rfl,rfl,rfl⟩)
    rfl (bx' := [(2,.var _)]) rfl (n' := 11) rfl (⟨rfl,_,R.stZ (show Sg.get _ 2 = some _ from rfl) (show Sg.box _ 2 = some _ from rfl) rfl (evt (show Sg.get _ 9 = some _ from rfl)) (by rfl) (by rfl) (by rfl) (by rfl) rfl,⟨[],[],[(2,.var _)],11,rfl,rfl,rfl, ?_⟩⟩)
   exact ⟨.inl ⟨rfl,rfl,trivial⟩,⟨frs_hash' _,rfl,trivial⟩⟩
 · intro hJ
   refine V.of fun C hC hD => ?_
   refine W.seq ?_
   refine W.line (n := 2) (by decide) (its := [⟨10,_,true⟩]) (ks := []) (kk := []) (live := [2,10]) (env' := [(2,_),(10,_)])
    (⟨Nat.le_of_ble_eq_true rfl,rfl,
     ⟨⟨rfl,rfl,fun _ τ hb ht hτ => R.ldP (hτ 2 _ rfl) (hb 2 _ rfl) rfl rfl rfl rfl ht⟩,
     trivial⟩,rfl,rfl,rfl⟩)
    rfl (bx' := [(2,.var _)]) rfl (n' := 11) rfl (⟨rfl,_,R.stZ (show Sg.get _ 2 = some _ from rfl) (show Sg.box _ 2 = some _ from rfl) rfl (evt (show Sg.get _ 10 = some _ from rfl)) (by rfl) (by rfl) (by rfl) (by rfl) rfl,⟨[2],[(2,_)],[(2,.var _)],11,rfl,rfl,rfl, ?_⟩⟩)
   refine W.ret ?_
   exact Ends.one' (.inr rfl) rfl (rfl) rfl rfl (show LdT _ 38 32 true from inferInstance)
 · exact fun e bx he hs => hs.elim

end Go.Sx

namespace Go.Sx
open Go.Proofs
end Go.Sx

namespace Go.Sx

theorem upI_get (J : Hs → Hs → Hs) (l : List Hs) (i j : Nat) (h : j < i) : (upI J l i)[j]! = J l[2 * j]! l[min (2 * j + 1) (l.length - 1)]! := by
 induction i with
 | zero => omega
 | succ i ih =>
  simp only [upI]
  rcases Nat.lt_or_ge j i with h1 | h1
  · rw [get!_append (by rw [upI_len]; exact h1)]; exact ih h1
  · obtain rfl : j = i := by omega
    rw [get!_last (upI_len J l j).symm]
theorem rowA_get (J : Hs → Hs → Hs) (l : List Hs) (k j : Nat) (h : j < (rowA J l (k + 1)).length) : (rowA J l (k + 1))[j]! = J (rowA J l k)[2 * j]! (rowA J l k)[min (2 * j + 1) ((rowA J l k).length - 1)]! := by
 simp only [rowA,upR] at h ⊢
 rw [upI_len] at h
 exact upI_get J _ _ _ h

theorem idx_lt {n m : Nat} (h : m < n) (j : Nat) : m / 2 ^ j < lenA n j := by
 induction j with
 | zero => simpa [lenA] using h
 | succ j ih =>
  simp only [lenA,Nat.pow_succ,← Nat.div_div_eq_div_mul]
  omega
theorem idx_back {n i : Nat} (j : Nat) (h : i < lenA n j) : i * 2 ^ j < n := by
 induction j generalizing i with
 | zero => simpa [lenA] using h
 | succ j ih =>
  simp only [lenA] at h
  have := ih (i := 2 * i) (by omega)
  rw [Nat.pow_succ,Nat.mul_comm (2 ^ j) 2,← Nat.mul_assoc,Nat.mul_comm i 2]
  exact this

def bad (J : Hs → Hs → Hs) (l : List Hs) (m j : Nat) : Bool := decide ((m / 2 ^ j) % 2 = 1) && ((rowA J l j)[m / 2 ^ j]! == (rowA J l j)[m / 2 ^ j - 1]!)

def hv (n : UInt8) : Hs := n :: List.replicate 31 0
def abc : List Hs := [hv 1,hv 2,hv 3]
theorem abc_all : allH abc := by
 intro h hh
 simp only [abc,List.mem_cons,List.not_mem_nil,or_false] at hh
 rcases hh with rfl | rfl | rfl <;> rfl
theorem nRows_3 : nRows 3 = 3 := by rw [nRows_2 (by decide),nRows_2 (by decide),nRows_1]
theorem abc_r1 (J : Hs → Hs → Hs) : rowA J abc 1 = [J (hv 1) (hv 2),J (hv 3) (hv 3)] := by simp [rowA,upR,upI,abc]
theorem abc_r2 (J : Hs → Hs → Hs) : rowA J abc 2 = [J (J (hv 1) (hv 2)) (J (hv 3) (hv 3))] := by rw [rowA,abc_r1]; simp [upR,upI]
theorem wk_ne0 : (twiceR (hv 1 ++ hv 2))[0]! ≠ (twiceR (hv 3 ++ hv 3))[0]! := by decide +kernel
theorem wk_ne : joinS (hv 1) (hv 2) ≠ joinS (hv 3) (hv 3) := by
 intro h
 rw [join_r] at h
 exact wk_ne0 (congrArg (fun l : Hs => l[0]!) h)
theorem wk_d1J (J : Hs → Hs → Hs) (h : J (hv 1) (hv 2) ≠ J (hv 3) (hv 3)) : dblS J abc = false := by
 have h1 : rowDbl (rowA J abc 0) = false := by show rowDbl abc = false; decide
 have h2 : rowDbl (rowA J abc 1) = false := by
  refine rowDbl_false fun j hj => ?_
  have : (rowA J abc 1).length = 2 := by rw [abc_r1]; rfl
  obtain rfl : j = 0 := by omega
  rw [abc_r1]
  show (J (hv 3) (hv 3) == J (hv 1) (hv 2)) = false
  exact beq_false_of_ne (fun e => h e.symm)
 have h3 : rowDbl (rowA J abc 2) = false := by
  refine rowDbl_false fun j hj => ?_
  have : (rowA J abc 2).length = 1 := by rw [abc_r2]; rfl
  omega
 refine dblS_false fun j hj => ?_
 rw [show abc.length = 3 from rfl,nRows_3] at hj
 have : j = 0 ∨ j = 1 ∨ j = 2 := by omega
 rcases this with rfl | rfl | rfl <;> assumption
theorem wk_d1 : dblS joinS abc = false := wk_d1J joinS wk_ne
end Go.Sx

namespace Go.Sx
structure PartS where
 n : Int
 hs : List Hs
 fl : List Bool
 deriving Inhabited
def partD (p : PartS) : D := .agg [.int p.n,.sl none 32 (p.hs.map hashD),.sl none 1 (p.fl.map D.bool)]
def hsD (l : List Hs) : D := .sl none 32 (l.map hashD)
def flD (l : List Bool) : D := .sl none 1 (l.map D.bool)
def szB (n : Nat) : Bool := decide (n = 1) || decide (n = 2) || decide (n = 4) || decide (n = 8)
def shr8 (n : UInt64) : Nat → UInt64
 | 0 => n
 | k + 1 => shr_u64 (shr8 n k) 8
def leB (n : UInt64) : Nat → List UInt8
 | 0 => []
 | k + 1 => leB n k ++ [(shr8 n k).toUInt8]
theorem leB_len (n : UInt64) (k : Nat) : (leB n k).length = k := by
 induction k with
 | zero => rfl
 | succ k ih => simp [leB,ih]
def div8 (n : UInt64) : Nat → UInt64
 | 0 => n
 | k + 1 => div8 n k / 256
def lowB (n : UInt64) : Nat → List UInt8
 | 0 => []
 | k + 1 => lowB n k ++ [(div8 n k % 256).toUInt8]
theorem div8_eq (n : UInt64) (k : Nat) : div8 n k = shr8 n k := by
 induction k with
 | zero => rfl
 | succ k ih =>
  simp only [div8,shr8,ih]
  apply UInt64.toNat_inj.1
  simp [shr_u64,UInt64.toNat_div,UInt64.toNat_shiftRight,Nat.shiftRight_eq_div_pow]
theorem lowB_eq (n : UInt64) (k : Nat) : lowB n k = leB n k := by
 induction k with
 | zero => rfl
 | succ k ih =>
  simp only [lowB,leB,ih,div8_eq]
  congr 2
  apply UInt8.toNat_inj.1
  simp [UInt64.toNat_toUInt8,UInt64.toNat_mod]
def le2 (b : List UInt8) (k : Nat) : UInt64 := UInt64.ofNat (b[k]!.toNat + 256 * b[k + 1]!.toNat)
def takS (b : List UInt8) (k : Nat) : UInt64 × Nat × Nat := if b.length < k then (0,0,1) else if b.length < k + 2 then (0,0,5) else (le2 b k,k + 2,0)
theorem le2_or (b : List UInt8) (k : Nat) : (0 : UInt64) ||| shl_u64 b[k]!.toUInt64 0 ||| shl_u64 b[k + 1]!.toUInt64 8 = le2 b k := by
 apply UInt64.toNat_inj.1
 have h1 := b[k]!.toNat_lt
 have h2 := b[k + 1]!.toNat_lt
 have e0 : (shl_u64 b[k]!.toUInt64 0) = b[k]!.toUInt64 := by simp [shl_u64]
 have e1 : (shl_u64 b[k + 1]!.toUInt64 8).toNat = b[k + 1]!.toNat <<< 8 := by
  simp only [shl_u64,Nat.reduceLT,if_true,UInt64.toNat_shiftLeft,UInt8.toNat_toUInt64]
  rw [show (UInt64.ofNat 8).toNat % 64 = 8 from rfl,Nat.shiftLeft_eq]
  omega
 rw [e0,UInt64.toNat_or,UInt64.toNat_or,e1,UInt8.toNat_toUInt64]
 simp only [le2,UInt64.toNat_ofNat',UInt64.toNat_zero,Nat.zero_or]
 rw [Nat.or_comm,← Nat.shiftLeft_add_eq_or_of_lt (by omega : b[k]!.toNat < 2 ^ 8),Nat.shiftLeft_eq]
 omega
theorem le2_sum (b : List UInt8) (k : Nat) : 256 * (256 * (0 : UInt64) + b[k + 1]!.toUInt64) + b[k]!.toUInt64 = le2 b k := by
 apply UInt64.toNat_inj.1
 have h1 := b[k]!.toNat_lt
 have h2 := b[k + 1]!.toNat_lt
 simp only [le2,UInt64.toNat_ofNat',UInt64.toNat_add,UInt64.toNat_mul,UInt8.toNat_toUInt64,UInt64.toNat_zero]
 have e : (256 : UInt64).toNat = 256 := rfl
 rw [e]
 omega
def numJ (l : List UInt8) : Nat → UInt64
 | 0 => 0
 | k + 1 => numJ l k ||| shl_u64 l[k]!.toUInt64 (8 * k)
def numK (b : List UInt8) (m : Nat) : Nat → UInt64
 | 0 => 0
 | k + 1 => 256 * numK b m k + b[m + (1 - k)]!.toUInt64
theorem numJ_le2 {b : List UInt8} {m : Nat} (h : m + 2 ≤ b.length) : numJ ((b.drop m).take 2) 2 = le2 b m := by
 have h0 : ((b.drop m).take 2)[0]! = b[m]! := by
  rw [getElem!_pos ((b.drop m).take 2) 0 (by simp; omega),getElem!_pos b m (by omega)]; simp
 have h1 : ((b.drop m).take 2)[1]! = b[m + 1]! := by
  rw [getElem!_pos ((b.drop m).take 2) 1 (by simp; omega),getElem!_pos b (m + 1) (by omega)]; simp
 show (0 ||| shl_u64 _ (8 * 0)) ||| shl_u64 _ (8 * 1) = _
 rw [h0,h1]
 exact le2_or b m
theorem numK_le2 (b : List UInt8) (m : Nat) : numK b m 2 = le2 b m := le2_sum b m
theorem list_ext! {α : Type} [Inhabited α] {a b : List α} (hl : a.length = b.length) (h : ∀ j,j < a.length → a[j]! = b[j]!) : a = b := by
 refine List.ext_getElem hl fun i h1 h2 => ?_
 have := h i h1
 rwa [getElem!_pos a i h1,getElem!_pos b i h2] at this
theorem takS_1 {b : List UInt8} {m : Nat} (h : b.length < m) : takS b m = (0,0,1) := if_pos h
theorem takS_2 {b : List UInt8} {m : Nat} (h : ¬ b.length < m) (h2 : b.length < m + 2) : takS b m = (0,0,5) := by rw [takS,if_neg h,if_pos h2]
theorem takS_3 {b : List UInt8} {m : Nat} (h : ¬ b.length < m) (h2 : m + 2 ≤ b.length) : takS b m = (le2 b m,m + 2,0) := by rw [takS,if_neg h,if_neg (by omega)]
theorem nRows_short {n : Nat} (h : n ≤ 1) : nRows n ≤ 1 := by
 rcases (by omega : n = 0 ∨ n = 1) with rfl | rfl
 · rw [nRows_0]; omega
 · rw [nRows_1]; omega
end Go.Sx

namespace Go.Sx
open Go.Proofs
theorem same10_ok (a b : List Hs) (ha : a.length ≤ 1000000) : Fn Tryd.prog gl 16 [.sl none 32 (a.map hashD),.sl none 32 (b.map hashD)] (.bool (a == b)) := by
 refine Fn.of (n := 26) Tryd.func16 rfl rfl rfl (nU rfl) fun C hC hD => ?_
 refine W.seq ?_
 refine W.l0 1 [.y 4 _] [] [] [(0,_),(1,_)] [] 26 ⟨aU fun _ _ H _ => R.asg (kB false O) O H,trivial⟩ O O O O (tU O ?_)
 refine W.seq ?_
 refine W.seq ?_
 refine W.l0 5 [.y 6 _,.y 7 _,.y 8 _,.y 9 _,.y 10 _] [] [] [(0,_),(1,_),(10,_)] [] 26 ⟨mU 0 O O,aU fun _ _ H K => R.lenE (SC.sl (K 6 _ O)) (List.length_map _) H,mU 1 O O,aU fun _ _ H K => R.lenE (SC.sl (K 8 _ O)) (List.length_map _) H,aU fun _ _ H K => R.neqN (a.length) (b.length) (eU K 7 O) (eU K 9 O) H,trivial⟩ O O O O (tU O ?_)
 refine W.condD O (fun hc10 => ?_) (fun hc10 => ?_)
 · refine W.seq ?_
   refine W.l0 1 [.y 4 _] [] [] [(4,_)] [] 26 ⟨aU fun _ _ H _ => R.asg (kB false O) O H,trivial⟩ O O O O (tU O ?_)
   refine W.ret ?_
   exact Ends.one' (.inr rfl) rfl (by have := hc10; congr 1; symm; rw [beq_eq_false_iff_ne]; rintro rfl; exact this rfl) rfl rfl trivial
 · refine W.skip ?_
   refine W.seq ?_
   refine W.seq ?_
   refine W.l0 1 [.y 5 _] [] [] [(0,_),(1,_),(5,_)] [] 26 ⟨aU fun _ _ H _ => R.asg (kI 0 O) O H,trivial⟩ O O O O (tU O ?_)
   refine W.block ?_
   refine W.loop (α := {q__ : Nat // q__ ≤ a.length ∧ ∀ j,j < q__ → a[j]! = b[j]!}) (fun q__ => ⟨26,[(0,.sl none 32 (a.map hashD)),(1,.sl none 32 (b.map hashD)),(5,.int ((q__.1 : Nat) : Int))],[]⟩) (fun q__ => a.length - q__.1) ⟨(0),⟨Nat.zero_le _,fun j hj => absurd hj (Nat.not_lt_zero j)⟩⟩ O ?_
   rintro ⟨i,⟨hi,hall⟩⟩
   show W _ _ _ _ ⟨26,[(0,.sl none 32 (a.map hashD)),(1,.sl none 32 (b.map hashD)),(5,.int ((i : Nat) : Int))],[]⟩
   refine W.seq ?_
   refine W.seq ?_
   refine W.l0 4 [.y 11 _,.y 12 _,.y 13 _,.y 14 _] [] [] [(0,_),(1,_),(5,_),(14,_)] [] 26 ⟨mU 5 O O,mU 0 O O,aU fun _ _ H K => R.lenE (SC.sl (K 12 _ O)) (List.length_map _) H,aU fun _ _ H K => R.lssN (i) (a.length) (eU K 11 O) (eU K 13 O) H,trivial⟩ O O O O (tU O ?_)
   refine W.condD O (fun hc14 => ?_) (fun hc14 => ?_)
   · refine W.skip ?_
     refine W.seq ?_
     refine W.block ?_
     refine W.seq ?_
     refine W.draw (m := 9) (an := [0,0,3,7,0,0,48,112,255]) hP (by decide) O (its := [.y 17 _,.y 18 _,.y 19 _,.y 20 _,.y 21 _,.y 22 _,.y 23 _,.y 24 _,.y 25 _]) (ks := []) (kk := []) (live := [0,1,5,25]) (env' := [(0,_),(1,_),(5,_),(25,_)]) (⟨nU O,O,⟨mU 0 O O,mU 5 O O,aU fun _ _ H K => R.idxN (i) (SC.sl (K 17 _ O)) (evoI (eU K 18 O)) O bU H (by decide),aU fun _ _ H K => R.ldE (K 19 _ O) (SC.sl (K 17 _ O)) (map_get! (l := a) bU) O O O O H,mU 1 O O,mU 5 O O,aU fun _ _ H K => R.idxN (i) (SC.sl (K 21 _ O)) (evoI (eU K 22 O)) O bU H (by decide),aU fun _ _ H K => R.ldE (K 23 _ O) (SC.sl (K 21 _ O)) (map_get! (l := b) bU) O O O O H,aU fun _ _ H K => R.eqAX (eU K 20 O) (eU K 24 O) H,trivial⟩,O,O,O⟩) O (bx' := []) O (n' := 26) O (tV [(0,_),(1,_),(5,_),(25,_)] [] 26 O O O ?_)
     refine W.cond O (fun hc25 => ?_) (fun hc25 => ?_)
     · refine W.seq ?_
       refine W.l0 1 [.y 4 _] [] [] [(4,_)] [] 26 ⟨aU fun _ _ H _ => R.asg (kB false O) O H,trivial⟩ O O O O (tU O ?_)
       refine W.ret ?_
       exact Ends.one' (.inr rfl) rfl (by congr 1; symm; rw [beq_eq_false_iff_ne]; rintro rfl; simp at hc25) rfl rfl trivial
     · refine W.skip ?_
       refine W.l0 3 [.y 15 _,.y 16 _,.y 5 _] [] [] [(0,_),(1,_),(5,_)] [] 26 ⟨mU 5 O O,aU fun _ _ H K => R.addN (i) (1) (eU K 15 O) (kI 1 O) bU H,aU fun _ _ H K => R.asg (eU K 16 O) O H,trivial⟩ O O O O (tU O ?_)
       exact ⟨⟨(i + 1),⟨by omega,fun j hj => by rcases Nat.lt_or_ge j i with h | h; exact hall j h; obtain rfl : j = i := (by omega); simpa using hc25⟩⟩,rfl,(by simp only []; omega)⟩
   · refine W.exit ?_
     refine W.seq ?_
     refine W.l0 1 [.y 4 _] [] [] [(4,_)] [] 26 ⟨aU fun _ _ H _ => R.asg (kB true O) O H,trivial⟩ O O O O (tU O ?_)
     refine W.ret ?_
     exact Ends.one' (.inr O) O (by congr 1; symm; rw [beq_iff_eq]; exact list_ext! (by omega) (fun j hj => hall j (by omega))) O O trivial

end Go.Sx

namespace Go.Sx
theorem bfalse {b : Bool} (h : ¬ b = true) : b = false := by simpa using h
def upFI (f : List Bool) : Nat → List Bool
 | 0 => []
 | i + 1 => upFI f i ++ [f[2 * i]! || f[min (2 * i + 1) (f.length - 1)]!]
def upF (f : List Bool) : List Bool := upFI f ((f.length + 1) / 2)
theorem upFI_t {f : List Bool} {i : Nat} (h : f[2 * i]! = true) : upFI f i ++ [true] = upFI f (i + 1) := by rw [upFI,h]; rfl
theorem upFI_f {f : List Bool} {i m : Nat} (h : f[2 * i]! = false) (hm : f.length = m) : upFI f i ++ [f[min (2 * i + 1) (m - 1)]!] = upFI f (i + 1) := by rw [upFI,h,← hm]; rfl
def flA (f : List Bool) : Nat → List Bool
 | 0 => f
 | k + 1 => upF (flA f k)
theorem upFI_len (f : List Bool) (i : Nat) : (upFI f i).length = i := by
 induction i with
 | zero => rfl
 | succ i ih => simp [upFI,ih]
theorem flA_len {J : Hs → Hs → Hs} {l : List Hs} {f : List Bool} (h : f.length = l.length) (k : Nat) : (flA f k).length = (rowA J l k).length := by
 induction k with
 | zero => exact h
 | succ k ih =>
  show (upFI _ _).length = (upI J _ _).length
  rw [upFI_len,upI_len,ih]
def rowsL (J : Hs → Hs → Hs) (l : List Hs) (n : Nat) : List (List Hs) := (List.range n).map (rowA J l)
def flsL (f : List Bool) (n : Nat) : List (List Bool) := (List.range n).map (flA f)
theorem rowsL_len (J : Hs → Hs → Hs) (l : List Hs) (n : Nat) : (rowsL J l n).length = n := by simp [rowsL]
theorem flsL_len (f : List Bool) (n : Nat) : (flsL f n).length = n := by simp [flsL]
theorem rowsL_succ (J : Hs → Hs → Hs) (l : List Hs) (n : Nat) : rowsL J l (n + 1) = rowsL J l n ++ [rowA J l n] := by simp [rowsL,List.range_succ]
theorem flsL_succ (f : List Bool) (n : Nat) : flsL f (n + 1) = flsL f n ++ [flA f n] := by simp [flsL,List.range_succ]
theorem rowsL_get {J : Hs → Hs → Hs} {l : List Hs} {n k : Nat} (h : k < n) : (rowsL J l n)[k]! = rowA J l k := by
 rw [getElem!_pos _ k (by rw [rowsL_len]; exact h)]; simp [rowsL]
theorem flsL_get {f : List Bool} {n k : Nat} (h : k < n) : (flsL f n)[k]! = flA f k := by
 rw [getElem!_pos _ k (by rw [flsL_len]; exact h)]; simp [flsL]
theorem brw_fl (o : Option Nat) (z : Nat) (l : List Bool) : (D.sl o z (l.map D.bool)).brw = .sl none z (l.map D.bool) := by
 simp only [D.brw,brws_eq]
 rw [brw_map (fun _ => rfl)]
theorem brw_hsD (l : List Hs) : (hsD l).brw = hsD l := brw_hs _ _ _
theorem brw_flD (l : List Bool) : (flD l).brw = flD l := brw_fl _ _ _
theorem brw_hss (o : Option Nat) (z : Nat) (l : List (List Hs)) : (D.sl o z (l.map hsD)).brw = .sl none z (l.map hsD) := by
 simp only [D.brw,brws_eq]
 rw [brw_map brw_hsD]
theorem brw_fls (o : Option Nat) (z : Nat) (l : List (List Bool)) : (D.sl o z (l.map flD)).brw = .sl none z (l.map flD) := by
 simp only [D.brw,brws_eq]
 rw [brw_map brw_flD]
theorem lenA_pos {n : Nat} (h : 0 < n) (k : Nat) : 1 ≤ lenA n k := by
 induction k with
 | zero => exact h
 | succ k ih => show 1 ≤ (lenA n k + 1) / 2; omega
theorem rowA_pos1 (J : Hs → Hs → Hs) {l : List Hs} (h : 0 < l.length) (k : Nat) : 1 ≤ (rowA J l k).length := by
 rw [rowA_len]; exact lenA_pos h k
abbrev natD (j : Nat) : D := .int ((j : Nat) : Int)
def wdI (n : Nat) (k : Nat) : List Nat := (List.range k).map (lenA n)
theorem wdI_len (n k : Nat) : (wdI n k).length = k := by simp [wdI]
theorem wdI_succ (n k : Nat) : wdI n (k + 1) = wdI n k ++ [lenA n k] := by simp [wdI,List.range_succ]
theorem wdI_get {n m k : Nat} (h : k < m) : (wdI n m)[k]! = lenA n k := by
 rw [getElem!_pos _ k (by rw [wdI_len]; exact h)]; simp [wdI]
end Go.Sx

namespace Go.Sx
open Go.Proofs
theorem prows_ok (l : List Hs) (f : List Bool) (hl : allH l) (h0 : 0 < l.length) (hl0 : l.length ≤ 1000) (hf : f.length = l.length) : Fn Tryd.prog gl 24 [.sl none 32 (l.map hashD),.sl none 1 (f.map D.bool)] (.tup [.sl none 1 ((rowsL joinS l (nRows l.length)).map hsD),.sl none 1 ((flsL f (nRows l.length)).map flD)]) := by
 refine Fn.of (n := 68) Tryd.func24 rfl rfl rfl (nU rfl) fun C hC hD => ?_
 refine W.seq ?_
 refine W.l0 2 [.y 4 _,.y 5 _] [] [] [(0,_),(1,_)] [] 68 ⟨aU fun _ _ H _ => R.asg (kN O) O H,aU fun _ _ H _ => R.asg (kN O) O H,trivial⟩ O O O O (tU O ?_)
 refine W.seq ?_
 refine W.l0 6 [.y 12 _,.y 13 _,.y 14 _,.y 15 _,.y 6 _,.y 7 _] [(4,13),(5,15)] [(4,13),(5,15)] [(0,_),(1,_),(6,_),(7,_)] [] 68 ⟨mU 0 O O,aU fun _ _ H K => R.bslE (z := 1) (.cons (eU K 12 O) .nil) ⟨⟨O,O,O⟩,trivial⟩ O H (by decide),mU 1 O O,aU fun _ _ H K => R.bslE (z := 1) (.cons (eU K 14 O) .nil) ⟨⟨O,O,O⟩,trivial⟩ O H (by decide),aU fun _ _ H K => R.asgO (K 13 _ O) O H (by decide),aU fun _ _ H K => R.asgO (K 15 _ O) O H (by decide),trivial⟩ O O O O (tU O ?_)
 refine W.seq ?_
 refine W.block ?_
 refine W.loop (α := {q__ : Nat // q__ + nRows (rowA joinS l q__).length = nRows l.length}) (fun q__ => ⟨68,[(0,.sl none 32 ((rowA joinS l q__.1).map hashD)),(1,.sl none 1 ((flA f q__.1).map D.bool)),(6,.sl (some 22) 1 ((rowsL joinS l (q__.1 + 1)).map hsD)),(7,.sl (some 23) 1 ((flsL f (q__.1 + 1)).map flD))],[]⟩) (fun q__ => nRows l.length - q__.1) ⟨(0),(by show 0 + _ = _; rw [Nat.zero_add]; rfl)⟩ O ?_
 rintro ⟨k,hk⟩
 show W _ _ _ _ ⟨68,[(0,.sl none 32 ((rowA joinS l k).map hashD)),(1,.sl none 1 ((flA f k).map D.bool)),(6,.sl (some 22) 1 ((rowsL joinS l (k + 1)).map hsD)),(7,.sl (some 23) 1 ((flsL f (k + 1)).map flD))],[]⟩
 have hrl := rowA_len joinS l k
 have hle := lenA_le l.length k
 have hra := rowA_all joinS_len hl k
 have hrp := rowA_pos1 joinS h0 k
 have hfl := flA_len (J := joinS) hf k
 have hnl := nRows_le l.length
 have hsl := rowsL_len joinS l (k + 1)
 have hsf := flsL_len f (k + 1)
 have hk : k + nRows (rowA joinS l k).length = nRows l.length := hk
 have hkp := nRows_pos (n := (rowA joinS l k).length) hrp
 refine W.seq ?_
 refine W.seq ?_
 refine W.l0 3 [.y 16 _,.y 17 _,.y 18 _] [] [] [(0,_),(1,_),(6,_),(7,_),(18,_)] [] 68 ⟨mU 0 O O,aU fun _ _ H K => R.lenE (SC.sl (K 16 _ O)) (List.length_map _) H,aU fun _ _ H K => R.gtrN ((rowA joinS l k).length) (1) (eU K 17 O) (kI 1 O) H,trivial⟩ O O O O (tU O ?_)
 refine W.condD O (fun hc18 => ?_) (fun hc18 => ?_)
 · refine W.skip ?_
   refine W.block ?_
   refine W.seq ?_
   refine W.l0 1 [.y 8 _] [] [] [(0,_),(1,_),(6,_),(7,_),(8,_)] [] 68 ⟨aU fun _ _ H _ => R.asg (kN O) O H,trivial⟩ O O O O (tU O ?_)
   refine W.seq ?_
   refine W.l0 1 [.y 9 _] [] [] [(0,_),(1,_),(6,_),(7,_),(8,_),(9,_)] [] 68 ⟨aU fun _ _ H _ => R.asg (kN O) O H,trivial⟩ O O O O (tU O ?_)
   refine W.seq ?_
   refine W.seq ?_
   refine W.l0 1 [.y 10 _] [] [] [(0,_),(1,_),(6,_),(7,_),(8,_),(9,_),(10,_)] [] 68 ⟨aU fun _ _ H _ => R.asg (kI 0 O) O H,trivial⟩ O O O O (tU O ?_)
   refine W.block ?_
   refine W.asOwn (s := 8) 38 32 O ?_
   refine W.asOwn (s := 9) 4 1 O ?_
   refine W.loop (α := {q__ : Nat // q__ ≤ ((rowA joinS l k).length + 1) / 2}) (fun q__ => ⟨68,[(0,.sl none 32 ((rowA joinS l k).map hashD)),(1,.sl none 1 ((flA f k).map D.bool)),(6,.sl (some 22) 1 ((rowsL joinS l (k + 1)).map hsD)),(7,.sl (some 23) 1 ((flsL f (k + 1)).map flD)),(8,.sl (some 38) 32 ((upI joinS (rowA joinS l k) q__.1).map hashD)),(9,.sl (some 4) 1 ((upFI (flA f k) q__.1).map D.bool)),(10,.int ((2 * q__.1 : Nat) : Int))],[]⟩) (fun q__ => ((rowA joinS l k).length + 1) / 2 - q__.1) ⟨(0),bU⟩ O ?_
   rintro ⟨i,hi⟩
   show W _ _ _ _ ⟨68,[(0,.sl none 32 ((rowA joinS l k).map hashD)),(1,.sl none 1 ((flA f k).map D.bool)),(6,.sl (some 22) 1 ((rowsL joinS l (k + 1)).map hsD)),(7,.sl (some 23) 1 ((flsL f (k + 1)).map flD)),(8,.sl (some 38) 32 ((upI joinS (rowA joinS l k) i).map hashD)),(9,.sl (some 4) 1 ((upFI (flA f k) i).map D.bool)),(10,.int ((2 * i : Nat) : Int))],[]⟩
   have hul := upI_len joinS (rowA joinS l k) i
   have hvl := upFI_len (flA f k) i
   refine W.seq ?_
   refine W.seq ?_
   refine W.l0 4 [.y 19 _,.y 20 _,.y 21 _,.y 22 _] [] [] [(0,_),(1,_),(6,_),(7,_),(8,_),(9,_),(10,_),(22,_)] [] 68 ⟨mU 10 O O,mU 0 O O,aU fun _ _ H K => R.lenE (SC.sl (K 20 _ O)) (List.length_map _) H,aU fun _ _ H K => R.lssN (2 * i) ((rowA joinS l k).length) (eU K 19 O) (eU K 21 O) H,trivial⟩ O O O O (tU O ?_)
   refine W.condD O (fun hc22 => ?_) (fun hc22 => ?_)
   · refine W.skip ?_
     refine W.seq ?_
     refine W.block ?_
     refine W.seq ?_
     refine W.l0 7 [.y 25 _,.y 26 _,.y 27 _,.y 28 _,.y 29 _,.y 30 _,.y 11 _] [] [] [(0,_),(1,_),(6,_),(7,_),(8,_),(9,_),(10,_),(11,_)] [] 68 ⟨mU 10 O O,aU fun _ _ H K => R.addN (2 * i) (1) (eU K 25 O) (kI 1 O) bU H,mU 0 O O,aU fun _ _ H K => R.lenE (SC.sl (K 27 _ O)) (List.length_map _) H,aU fun _ _ H K => R.subN ((rowA joinS l k).length) (1) (eU K 28 O) (kI 1 O) bU bU H,aU fun _ _ H K => R.minI (r := ((min (2 * i + 1) ((rowA joinS l k).length - 1) : Nat) : Int)) (eU K 26 O) (eU K 29 O) (by omega) H,aU fun _ _ H K => R.asg (eU K 30 O) O H,trivial⟩ O O O O (tU O ?_)
     refine W.seq ?_
     refine W.draw (m := 13) (an := [0,0,0,6,14,0,0,96,224,510,1022,2047,4095]) hP (by decide) O (its := [.y 31 _,.y 32 _,.y 33 _,.y 34 _,.y 35 _,.y 36 _,.y 37 _,.y 38 _,.y 39 _,.y 40 _,.y 41 _,.y 42 _,.y 8 _]) (ks := [(11,8),(12,42),(12,31)]) (kk := [(11,8),(12,42)]) (live := [0,1,6,7,8,9,10,11]) (env' := [(0,_),(1,_),(6,_),(7,_),(8,_),(9,_),(10,_),(11,_)]) (⟨nU O,O,⟨aU fun _ _ H K => R.al (K 8 _ O) H (by decide),mU 0 O O,mU 10 O O,aU fun _ _ H K => R.idxN (2 * i) (SC.sl (K 32 _ O)) (evoI (eU K 33 O)) O bU H (by decide),aU fun _ _ H K => R.ldE (K 34 _ O) (SC.sl (K 32 _ O)) (map_get! (l := (rowA joinS l k)) bU) O O O O H,mU 0 O O,mU 11 O O,aU fun _ _ H K => R.idxN (min (2 * i + 1) ((rowA joinS l k).length - 1)) (SC.sl (K 36 _ O)) (evoI (eU K 37 O)) O bU H (by decide),aU fun _ _ H K => R.ldE (K 38 _ O) (SC.sl (K 36 _ O)) (map_get! (l := (rowA joinS l k)) bU) O O O O H,aU fun _ _ H K => R.callG hC (join_ok _ _ (hra.get (by omega)) (hra.get (by omega))) (Bors.cons (Bor.pur (eU K 35 O) O O) (Bors.cons (Bor.pur (eU K 39 O) O O) Bors.nil)) (FrsR.one (frs_hash _)) H,aU fun _ _ H K => R.bslE (z := 32) (.cons (eU K 40 O) .nil) ⟨⟨O,O,O⟩,trivial⟩ O H (by decide),aU fun _ _ H K => R.appE (Or.inr (K 31 _ O)) (K 8 _ O) (SrcO.sc (SC.sl (K 41 _ O)) (pur_lit O)) (app_one) bU H (by decide) (by decide),aU fun _ _ H K => R.asgO (K 42 _ O) O H (by decide),trivial⟩,O,O,O⟩) O (bx' := []) O (n' := 68) O (tV [(0,_),(1,_),(6,_),(7,_),(8,_),(9,_),(10,_),(11,_)] [] 68 O O O ?_)
     by_cases hfi : (flA f k)[2 * i]! = true
     · refine W.l0 14 [.y 43 _,.y 44 _,.y 45 _,.y 46 _,.y 47 _,.y 48 _,.x 49,.x 50,.x 51,.x 52,.y 53 _,.y 54 _,.y 55 _,.y 9 _] [(12,9),(13,55),(13,43)] [(12,9),(13,55)] [(0,_),(1,_),(6,_),(7,_),(8,_),(9,_),(10,_)] [] 68 ⟨aU fun _ _ H K => R.al (K 9 _ O) H (by decide),mU 1 O O,mU 10 O O,aU fun _ _ H K => R.idxN (2 * i) (SC.sl (K 44 _ O)) (evoI (eU K 45 O)) O bU H (by decide),aU fun _ _ H K => R.ldE (K 46 _ O) (SC.sl (K 44 _ O)) (map_get! (l := (flA f k)) bU) O O O O H,mU 47 O O,aF O O (gT (hfi) O),aF O O (gT (hfi) O),aF O O (gT (hfi) O),aF O O (gT (hfi) O),aU fun _ _ H K => R.pickT (eU K 48 O) (hfi) (kB true O) O H,aU fun _ _ H K => R.bslE (z := 1) (.cons (eU K 53 O) .nil) ⟨⟨O,O,O⟩,trivial⟩ O H (by decide),aU fun _ _ H K => R.appE (Or.inr (K 43 _ O)) (K 9 _ O) (SrcO.sc (SC.sl (K 54 _ O)) (pur_lit O)) (show _ = ((upFI (flA f k) (i + 1)).map D.bool) from (show _ = (upFI (flA f k) (i + 1)).map D.bool from by rw [← upFI_t hfi,List.map_append]; rfl)) bU H (by decide) (by decide),aU fun _ _ H K => R.asgO (K 55 _ O) O H (by decide),trivial⟩ O O O O (tU O ?_)
       refine W.l0 3 [.y 23 _,.y 24 _,.y 10 _] [] [] [(0,_),(1,_),(6,_),(7,_),(8,_),(9,_),(10,_)] [] 68 ⟨mU 10 O O,aU fun _ _ H K => R.addN (2 * i) (2) (eU K 23 O) (kI 2 O) bU H,aU fun _ _ H K => R.asg (eU K 24 O) O H,trivial⟩ O O O O (tU O ?_)
       exact ⟨⟨(i + 1),bU⟩,rfl,(by simp only []; omega)⟩
     · refine W.l0 14 [.y 43 _,.y 44 _,.y 45 _,.y 46 _,.y 47 _,.y 48 _,.y 49 _,.y 50 _,.y 51 _,.y 52 _,.y 53 _,.y 54 _,.y 55 _,.y 9 _] [(12,9),(13,55),(13,43)] [(12,9),(13,55)] [(0,_),(1,_),(6,_),(7,_),(8,_),(9,_),(10,_)] [] 68 ⟨aU fun _ _ H K => R.al (K 9 _ O) H (by decide),mU 1 O O,mU 10 O O,aU fun _ _ H K => R.idxN (2 * i) (SC.sl (K 44 _ O)) (evoI (eU K 45 O)) O bU H (by decide),aU fun _ _ H K => R.ldE (K 46 _ O) (SC.sl (K 44 _ O)) (map_get! (l := (flA f k)) bU) O O O O H,mU 47 O O,aW O O (gF (bfalse hfi) O) fun _ _ H K => R.mov (eU K 1 O) O H,aW O O (gF (bfalse hfi) O) fun _ _ H K => R.mov (eU K 11 O) O H,aW O O (gF (bfalse hfi) O) fun _ _ H K => R.idxN (min (2 * i + 1) ((rowA joinS l k).length - 1)) (SC.sl (K 49 _ O)) (evoI (eU K 50 O)) O bU H (by decide),aW O O (gF (bfalse hfi) O) fun _ _ H K => R.ldE (K 51 _ O) (SC.sl (K 49 _ O)) (map_get! (l := (flA f k)) bU) O O O O H,aU fun _ _ H K => R.pickF (eU K 48 O) (bfalse hfi) (eU K 52 O) O H,aU fun _ _ H K => R.bslE (z := 1) (.cons (eU K 53 O) .nil) ⟨⟨O,O,O⟩,trivial⟩ O H (by decide),aU fun _ _ H K => R.appE (Or.inr (K 43 _ O)) (K 9 _ O) (SrcO.sc (SC.sl (K 54 _ O)) (pur_lit O)) (show _ = ((upFI (flA f k) (i + 1)).map D.bool) from (show _ = (upFI (flA f k) (i + 1)).map D.bool from by rw [← upFI_f (bfalse hfi) hfl,List.map_append]; rfl)) bU H (by decide) (by decide),aU fun _ _ H K => R.asgO (K 55 _ O) O H (by decide),trivial⟩ O O O O (tU O ?_)
       refine W.l0 3 [.y 23 _,.y 24 _,.y 10 _] [] [] [(0,_),(1,_),(6,_),(7,_),(8,_),(9,_),(10,_)] [] 68 ⟨mU 10 O O,aU fun _ _ H K => R.addN (2 * i) (2) (eU K 23 O) (kI 2 O) bU H,aU fun _ _ H K => R.asg (eU K 24 O) O H,trivial⟩ O O O O (tU O ?_)
       exact ⟨⟨(i + 1),bU⟩,rfl,(by simp only []; omega)⟩
   · obtain rfl : i = ((rowA joinS l k).length + 1) / 2 := by omega
     refine W.exit ?_
     refine W.seq ?_
     refine W.l0 4 [.y 56 _,.y 57 _,.y 0 _,.y 1 _] [(0,8),(1,9),(2,56),(3,57)] [(0,8),(1,9),(2,56),(3,57)] [(0,_),(1,_),(6,_),(7,_)] [] 68 ⟨aU fun _ _ H K => R.movO (K 8 _ O) O H (by decide),aU fun _ _ H K => R.movO (K 9 _ O) O H (by decide),aU fun _ _ H K => R.asgO (K 56 _ O) O H (by decide),aU fun _ _ H K => R.asgO (K 57 _ O) O H (by decide),trivial⟩ O O O O (tU O ?_)
     refine W.frzS (s := 0) (d' := .sl none 32 ((rowA joinS l (k + 1)).map hashD)) O O (brw_hs _ _ _) ?_
     refine W.frzS (s := 1) (d' := .sl none 1 ((flA f (k + 1)).map D.bool)) O O (by rw [show flA f (k + 1) = upFI (flA f k) (((rowA joinS l k).length + 1) / 2) from by rw [← hfl]; rfl]; exact brw_fl _ _ _) ?_
     refine W.l0 10 [.y 58 _,.y 59 _,.y 60 _,.y 61 _,.y 62 _,.y 63 _,.y 64 _,.y 65 _,.y 6 _,.y 7 _] [(3,6),(7,7),(8,61),(9,65),(8,58),(9,62)] [(3,6),(7,7),(8,61),(9,65)] [(0,_),(1,_),(6,_),(7,_)] [] 68 ⟨aU fun _ _ H K => R.al (K 6 _ O) H (by decide),mU 0 O O,aU fun _ _ H K => R.bslE (z := 1) (.cons (eU K 59 O) .nil) ⟨⟨O,O,O⟩,trivial⟩ O H (by decide),aU fun _ _ H K => R.appE (Or.inr (K 58 _ O)) (K 6 _ O) (SrcO.sc (SC.sl (K 60 _ O)) (pur_lit O)) (show _ = ((rowsL joinS l (k + 1 + 1)).map hsD) from (show _ = (rowsL joinS l (k + 1 + 1)).map hsD from by rw [rowsL_succ _ _ (k + 1),List.map_append]; rfl)) bU H (by decide) (by decide),aU fun _ _ H K => R.al (K 7 _ O) H (by decide),mU 1 O O,aU fun _ _ H K => R.bslE (z := 1) (.cons (eU K 63 O) .nil) ⟨⟨O,O,O⟩,trivial⟩ O H (by decide),aU fun _ _ H K => R.appE (Or.inr (K 62 _ O)) (K 7 _ O) (SrcO.sc (SC.sl (K 64 _ O)) (pur_lit O)) (show _ = ((flsL f (k + 1 + 1)).map flD) from (show _ = (flsL f (k + 1 + 1)).map flD from by rw [flsL_succ _ (k + 1),List.map_append]; rfl)) bU H (by decide) (by decide),aU fun _ _ H K => R.asgO (K 61 _ O) O H (by decide),aU fun _ _ H K => R.asgO (K 65 _ O) O H (by decide),trivial⟩ O O O O (tU O ?_)
     exact ⟨⟨(k + 1),(by have h2 := nRows_2 (n := (rowA joinS l k).length) (by omega); have h3 : (rowA joinS l (k + 1)).length = ((rowA joinS l k).length + 1) / 2 := upR_len _ _; rw [h2,← h3] at hk; show k + 1 + _ = _; omega)⟩,rfl,(by simp only []; omega)⟩
 · have hkn : nRows l.length = k + 1 := by rw [← hk,show (rowA joinS l k).length = 1 by omega,nRows_1]
   refine W.exit ?_
   refine W.seq ?_
   refine W.frzS (s := 6) (d' := .sl none 1 ((rowsL joinS l (k + 1)).map hsD)) O O (brw_hss _ _ _) ?_
   refine W.frzS (s := 7) (d' := .sl none 1 ((flsL f (k + 1)).map flD)) O O (brw_fls _ _ _) ?_
   refine W.l0 4 [.y 66 _,.y 67 _,.y 4 _,.y 5 _] [] [] [(4,_),(5,_)] [] 68 ⟨mU 6 O O,mU 7 O O,aU fun _ _ H K => R.asg (eU K 66 O) O H,aU fun _ _ H K => R.asg (eU K 67 O) O H,trivial⟩ O O O O (tU O ?_)
   refine W.ret ?_
   exact Ends.many (.inr O) (.cons O O O trivial (.cons O O O trivial .nil)) (by rw [hkn]) (show [(4,true),(5,true)].Nodup by decide)

end Go.Sx

namespace Go.Sx
open Go.Proofs
theorem wide_ok (n : Nat) (h0 : 0 < n) (hn : n ≤ 1000) : Fn Tryd.prog gl 28 [.int ((n : Nat) : Int)] (.sl (some 3) 1 ((wdI n (nRows n)).map natD)) := by
 refine Fn.of (n := 16) Tryd.func28 rfl rfl rfl (nU rfl) fun C hC hD => ?_
 refine W.seq ?_
 refine W.l0 1 [.y 2 _] [] [] [(0,_)] [] 16 ⟨aU fun _ _ H _ => R.asg (kN O) O H,trivial⟩ O O O O (tU O ?_)
 refine W.seq ?_
 refine W.l0 3 [.y 4 _,.y 5 _,.y 3 _] [(2,5)] [(2,5)] [(0,_),(3,_)] [] 16 ⟨mU 0 O O,aU fun _ _ H K => R.bslE (z := 1) (.cons (eU K 4 O) .nil) ⟨⟨O,O,O⟩,trivial⟩ O H (by decide),aU fun _ _ H K => R.asgO (K 5 _ O) O H (by decide),trivial⟩ O O O O (tU O ?_)
 refine W.seq ?_
 refine W.block ?_
 refine W.loop (α := {q__ : Nat // q__ + nRows (lenA n q__) = nRows n}) (fun q__ => ⟨16,[(0,.int ((lenA n q__.1 : Nat) : Int)),(3,.sl (some 3) 1 ((wdI n (q__.1 + 1)).map natD))],[]⟩) (fun q__ => nRows n - q__.1) ⟨(0),(by show 0 + _ = _; rw [Nat.zero_add]; rfl)⟩ O ?_
 rintro ⟨k,hk⟩
 show W _ _ _ _ ⟨16,[(0,.int ((lenA n k : Nat) : Int)),(3,.sl (some 3) 1 ((wdI n (k + 1)).map natD))],[]⟩
 have hle := lenA_le n k
 have hlp := lenA_pos h0 k
 have hkp := nRows_pos (n := lenA n k) hlp
 have hnl := nRows_le n
 have hwl := wdI_len n (k + 1)
 have hk : k + nRows (lenA n k) = nRows n := hk
 refine W.seq ?_
 refine W.seq ?_
 refine W.l0 2 [.y 6 _,.y 7 _] [] [] [(0,_),(3,_),(7,_)] [] 16 ⟨mU 0 O O,aU fun _ _ H K => R.gtrN (lenA n k) (1) (eU K 6 O) (kI 1 O) H,trivial⟩ O O O O (tU O ?_)
 refine W.condD O (fun hc7 => ?_) (fun hc7 => ?_)
 · refine W.skip ?_
   refine W.block ?_
   refine W.seq ?_
   refine W.l0 4 [.y 8 _,.y 9 _,.y 10 _,.y 0 _] [] [] [(0,_),(3,_)] [] 16 ⟨mU 0 O O,aU fun _ _ H K => R.addN (lenA n k) (1) (eU K 8 O) (kI 1 O) bU H,aU fun _ _ H K => R.quoN ((lenA n k + 1)) (2) (eU K 9 O) (kI 2 O) bU bU H,aU fun _ _ H K => R.asg (eU K 10 O) O H,trivial⟩ O O O O (tU O ?_)
   refine W.l0 5 [.y 11 _,.y 12 _,.y 13 _,.y 14 _,.y 3 _] [(3,3),(4,14),(4,11)] [(3,3),(4,14)] [(0,_),(3,_)] [] 16 ⟨aU fun _ _ H K => R.al (K 3 _ O) H (by decide),mU 0 O O,aU fun _ _ H K => R.bslE (z := 1) (.cons (eU K 12 O) .nil) ⟨⟨O,O,O⟩,trivial⟩ O H (by decide),aU fun _ _ H K => R.appE (Or.inr (K 11 _ O)) (K 3 _ O) (SrcO.sc (SC.sl (K 13 _ O)) (pur_lit O)) (show _ = ((wdI n (k + 1 + 1)).map natD) from (show _ = (wdI n (k + 1 + 1)).map natD from by rw [wdI_succ _ (k + 1),List.map_append]; rfl)) bU H (by decide) (by decide),aU fun _ _ H K => R.asgO (K 14 _ O) O H (by decide),trivial⟩ O O O O (tU O ?_)
   exact ⟨⟨(k + 1),(by have h2 := nRows_2 (n := lenA n k) (by omega); rw [h2] at hk; show k + 1 + nRows ((lenA n k + 1) / 2) = _; omega)⟩,rfl,(by simp only []; omega)⟩
 · have hkn : nRows n = k + 1 := by rw [← hk,show lenA n k = 1 by omega,nRows_1]
   refine W.exit ?_
   refine W.seq ?_
   refine W.l0 2 [.y 15 _,.y 2 _] [(0,3),(1,15)] [(0,3),(1,15)] [(2,_)] [] 16 ⟨aU fun _ _ H K => R.movO (K 3 _ O) O H (by decide),aU fun _ _ H K => R.asgO (K 15 _ O) O H (by decide),trivial⟩ O O O O (tU O ?_)
   refine W.ret ?_
   exact Ends.one' (.inr O) O (by rw [hkn]) O O trivial

theorem nums_ok (a b : List Nat) (ha : a.length ≤ 1000000) : Fn Tryd.prog gl 17 [.sl none 1 (a.map natD),.sl none 1 (b.map natD)] (.bool (a == b)) := by
 refine Fn.of (n := 26) Tryd.func17 rfl rfl rfl (nU rfl) fun C hC hD => ?_
 refine W.seq ?_
 refine W.l0 1 [.y 4 _] [] [] [(0,_),(1,_)] [] 26 ⟨aU fun _ _ H _ => R.asg (kB false O) O H,trivial⟩ O O O O (tU O ?_)
 refine W.seq ?_
 refine W.seq ?_
 refine W.l0 5 [.y 6 _,.y 7 _,.y 8 _,.y 9 _,.y 10 _] [] [] [(0,_),(1,_),(10,_)] [] 26 ⟨mU 0 O O,aU fun _ _ H K => R.lenE (SC.sl (K 6 _ O)) (List.length_map _) H,mU 1 O O,aU fun _ _ H K => R.lenE (SC.sl (K 8 _ O)) (List.length_map _) H,aU fun _ _ H K => R.neqN (a.length) (b.length) (eU K 7 O) (eU K 9 O) H,trivial⟩ O O O O (tU O ?_)
 refine W.condD O (fun hc10 => ?_) (fun hc10 => ?_)
 · refine W.seq ?_
   refine W.l0 1 [.y 4 _] [] [] [(4,_)] [] 26 ⟨aU fun _ _ H _ => R.asg (kB false O) O H,trivial⟩ O O O O (tU O ?_)
   refine W.ret ?_
   exact Ends.one' (.inr rfl) rfl (by have := hc10; congr 1; symm; rw [beq_eq_false_iff_ne]; rintro rfl; exact this rfl) rfl rfl trivial
 · refine W.skip ?_
   refine W.seq ?_
   refine W.seq ?_
   refine W.l0 1 [.y 5 _] [] [] [(0,_),(1,_),(5,_)] [] 26 ⟨aU fun _ _ H _ => R.asg (kI 0 O) O H,trivial⟩ O O O O (tU O ?_)
   refine W.block ?_
   refine W.loop (α := {q__ : Nat // q__ ≤ a.length ∧ ∀ j,j < q__ → a[j]! = b[j]!}) (fun q__ => ⟨26,[(0,.sl none 1 (a.map natD)),(1,.sl none 1 (b.map natD)),(5,.int ((q__.1 : Nat) : Int))],[]⟩) (fun q__ => a.length - q__.1) ⟨(0),⟨Nat.zero_le _,fun j hj => absurd hj (Nat.not_lt_zero j)⟩⟩ O ?_
   rintro ⟨i,⟨hi,hall⟩⟩
   show W _ _ _ _ ⟨26,[(0,.sl none 1 (a.map natD)),(1,.sl none 1 (b.map natD)),(5,.int ((i : Nat) : Int))],[]⟩
   refine W.seq ?_
   refine W.seq ?_
   refine W.l0 4 [.y 11 _,.y 12 _,.y 13 _,.y 14 _] [] [] [(0,_),(1,_),(5,_),(14,_)] [] 26 ⟨mU 5 O O,mU 0 O O,aU fun _ _ H K => R.lenE (SC.sl (K 12 _ O)) (List.length_map _) H,aU fun _ _ H K => R.lssN (i) (a.length) (eU K 11 O) (eU K 13 O) H,trivial⟩ O O O O (tU O ?_)
   refine W.condD O (fun hc14 => ?_) (fun hc14 => ?_)
   · refine W.skip ?_
     refine W.seq ?_
     refine W.block ?_
     refine W.seq ?_
     refine W.draw (m := 9) (an := [0,0,3,7,0,0,48,112,255]) hP (by decide) O (its := [.y 17 _,.y 18 _,.y 19 _,.y 20 _,.y 21 _,.y 22 _,.y 23 _,.y 24 _,.y 25 _]) (ks := []) (kk := []) (live := [0,1,5,25]) (env' := [(0,_),(1,_),(5,_),(25,_)]) (⟨nU O,O,⟨mU 0 O O,mU 5 O O,aU fun _ _ H K => R.idxN (i) (SC.sl (K 17 _ O)) (evoI (eU K 18 O)) O bU H (by decide),aU fun _ _ H K => R.ldE (K 19 _ O) (SC.sl (K 17 _ O)) (map_get! (l := a) bU) O O O O H,mU 1 O O,mU 5 O O,aU fun _ _ H K => R.idxN (i) (SC.sl (K 21 _ O)) (evoI (eU K 22 O)) O bU H (by decide),aU fun _ _ H K => R.ldE (K 23 _ O) (SC.sl (K 21 _ O)) (map_get! (l := b) bU) O O O O H,aU fun _ _ H K => R.neqN (a[i]!) (b[i]!) (eU K 20 O) (eU K 24 O) H,trivial⟩,O,O,O⟩) O (bx' := []) O (n' := 26) O (tV [(0,_),(1,_),(5,_),(25,_)] [] 26 O O O ?_)
     refine W.condD O (fun hc25 => ?_) (fun hc25 => ?_)
     · refine W.seq ?_
       refine W.l0 1 [.y 4 _] [] [] [(4,_)] [] 26 ⟨aU fun _ _ H _ => R.asg (kB false O) O H,trivial⟩ O O O O (tU O ?_)
       refine W.ret ?_
       exact Ends.one' (.inr rfl) rfl (by congr 1; symm; rw [beq_eq_false_iff_ne]; rintro rfl; simp at hc25) rfl rfl trivial
     · refine W.skip ?_
       refine W.l0 3 [.y 15 _,.y 16 _,.y 5 _] [] [] [(0,_),(1,_),(5,_)] [] 26 ⟨mU 5 O O,aU fun _ _ H K => R.addN (i) (1) (eU K 15 O) (kI 1 O) bU H,aU fun _ _ H K => R.asg (eU K 16 O) O H,trivial⟩ O O O O (tU O ?_)
       exact ⟨⟨(i + 1),⟨by omega,fun j hj => by rcases Nat.lt_or_ge j i with h | h; exact hall j h; obtain rfl : j = i := (by omega); simpa using hc25⟩⟩,rfl,(by simp only []; omega)⟩
   · refine W.exit ?_
     refine W.seq ?_
     refine W.l0 1 [.y 4 _] [] [] [(4,_)] [] 26 ⟨aU fun _ _ H _ => R.asg (kB true O) O H,trivial⟩ O O O O (tU O ?_)
     refine W.ret ?_
     exact Ends.one' (.inr O) O (by congr 1; symm; rw [beq_iff_eq]; exact list_ext! (by omega) (fun j hj => hall j (by omega))) O O trivial

end Go.Sx

namespace Go.Sx
open Go.Proofs
def wkB (L : List (List Hs)) (F : List (List Bool)) : Nat → Nat → List Hs × List Bool → List Hs × List Bool
 | 0,k,p => if L[0]!.length ≤ k then p else (p.1 ++ [L[0]![k]!],p.2 ++ [F[0]![k]!])
 | r + 1,k,p => if L[r + 1]!.length ≤ k then p else if F[r + 1]![k]! = true then wkB L F r (2 * k + 1) (wkB L F r (2 * k) (p.1,p.2 ++ [true])) else (p.1 ++ [L[r + 1]![k]!],p.2 ++ [false])
theorem wkB_len (L : List (List Hs)) (F : List (List Bool)) : ∀ (r k : Nat) (p : List Hs × List Bool),(wkB L F r k p).1.length + 1 ≤ p.1.length + 2 ^ (r + 1) ∧ (wkB L F r k p).2.length + 1 ≤ p.2.length + 2 ^ (r + 1) := by
 intro r
 induction r with
 | zero =>
  intro k p
  simp only [wkB]
  split
  · constructor <;> omega
  · simp
 | succ r ih =>
  intro k p
  have hp : 2 ^ (r + 1 + 1) = 2 * 2 ^ (r + 1) := by rw [Nat.pow_succ]; omega
  have h1 : 1 ≤ 2 ^ (r + 1) := Nat.one_le_two_pow
  simp only [wkB]
  split
  · constructor <;> omega
  · split
    · have ha := ih (2 * k) (p.1,p.2 ++ [true])
      have hb := ih (2 * k + 1) (wkB L F r (2 * k) (p.1,p.2 ++ [true]))
      simp only [List.length_append,List.length_cons,List.length_nil] at ha
      constructor <;> omega
    · simp only [List.length_append,List.length_cons,List.length_nil]
      constructor <;> omega
abbrev BwX (L : List (List Hs)) (F : List (List Bool)) (n : Int) (hs : List Hs) (fl : List Bool) : List (Nat × Bx) :=
 [(0,.var (.sl none 1 (L.map hsD))),(1,.var (.agg [.int n,.sl (some 38) 32 (hs.map hashD),.sl (some 4) 1 (fl.map D.bool)])),(2,.var (.sl none 1 (F.map flD))),(3,.var (.fn 25 [.ptr 0 0 [],.ptr 1 0 [],.ptr 2 0 [],.ptr 3 0 []]))]
abbrev BwP (L : List (List Hs)) (F : List (List Bool)) (n : Int) (row k : Nat) (hs : List Hs) (fl : List Bool) : Prop :=
 FnB Tryd.prog gl 25 [.int ((row : Nat) : Int),.int ((k : Nat) : Int),.ptr 0 0 [],.ptr 1 0 [],.ptr 2 0 [],.ptr 3 0 []] (BwX L F n hs fl) (.tup []) (BwX L F n (wkB L F row k (hs,fl)).1 (wkB L F row k (hs,fl)).2) []
theorem wk_skip {L : List (List Hs)} {F : List (List Bool)} {r k : Nat} {p : List Hs × List Bool} (h : L[r]!.length ≤ k) : wkB L F r k p = p := by cases r <;> rw [wkB,if_pos h]
theorem wk_leaf0 {L : List (List Hs)} {F : List (List Bool)} {k : Nat} {p : List Hs × List Bool} (h : ¬ L[0]!.length ≤ k) : wkB L F 0 k p = (p.1 ++ [L[0]![k]!],p.2 ++ [F[0]![k]!]) := by rw [wkB,if_neg h]
theorem wk_leaf {L : List (List Hs)} {F : List (List Bool)} {r k : Nat} {p : List Hs × List Bool} (h : ¬ L[r + 1]!.length ≤ k) (hf : F[r + 1]![k]! = false) : wkB L F (r + 1) k p = (p.1 ++ [L[r + 1]![k]!],p.2 ++ [F[r + 1]![k]!]) := by
 rw [wkB,if_neg h,hf,if_neg (by simp)]
theorem wk_in {L : List (List Hs)} {F : List (List Bool)} {r k : Nat} {p : List Hs × List Bool} (h : ¬ L[r + 1]!.length ≤ k) (hf : F[r + 1]![k]! = true) : wkB L F (r + 1) k p = wkB L F r (2 * k + 1) (wkB L F r (2 * k) (p.1,p.2 ++ [F[r + 1]![k]!])) := by
 rw [wkB,if_neg h,if_pos hf,hf]
end Go.Sx

namespace Go.Sx
open Go.Proofs
theorem bwalk0 (L : List (List Hs)) (F : List (List Bool)) (n : Int) (hL : L.length ≤ 20) (hF : F.length = L.length) (hLF : ∀ j : Nat,F[j]!.length = L[j]!.length) (hLl : ∀ j : Nat,L[j]!.length ≤ 1000) (hrow : 0 < L.length) (k : Nat) (hs : List Hs) (fl : List Bool) (hk : k ≤ 100000) (hhs : hs.length + 2 ^ (0 + 1) ≤ 100000) (hfl : fl.length + 2 ^ (0 + 1) ≤ 100000) : FnB Tryd.prog gl 25 [.int ((0 : Nat) : Int),.int ((k : Nat) : Int),.ptr 0 0 [],.ptr 1 0 [],.ptr 2 0 [],.ptr 3 0 []] [(0,.var (.sl none 1 (L.map hsD))),(1,.var (.agg [.int n,.sl (some 38) 32 (hs.map hashD),.sl (some 4) 1 (fl.map D.bool)])),(2,.var (.sl none 1 (F.map flD))),(3,.var (.fn 25 [.ptr 0 0 [],.ptr 1 0 [],.ptr 2 0 [],.ptr 3 0 []]))] (.tup []) [(0,.var (.sl none 1 (L.map hsD))),(1,.var (.agg [.int n,.sl (some 38) 32 ((wkB L F 0 k (hs,fl)).1.map hashD),.sl (some 4) 1 ((wkB L F 0 k (hs,fl)).2.map D.bool)])),(2,.var (.sl none 1 (F.map flD))),(3,.var (.fn 25 [.ptr 0 0 [],.ptr 1 0 [],.ptr 2 0 [],.ptr 3 0 []]))] [] := by
 refine FnB.of (n := 64) (ids := [0,1,2,3]) Tryd.func25 rfl rfl rfl (nU rfl) fun C hC hD => ?_
 refine W.seq ?_
 refine W.seq ?_
 have hlf := hLF (0)
 have hll := hLl (0)
 have hpw : 1 ≤ 2 ^ (0) := Nat.one_le_two_pow
 have hpw2 : 2 ^ (0 + 1) = 2 * 2 ^ (0) := by first | rfl | (rw [Nat.pow_succ]; omega)
 refine W.l0 7 [.y 8 _,.y 9 _,.y 10 _,.y 11 _,.y 12 _,.y 13 _,.y 14 _] [] [] [(0,_),(1,_),(2,_),(3,_),(4,_),(5,_),(14,_)] [(0,.var _),(1,.var _),(2,.var _),(3,.var _)] 64 ⟨mU 1 O O,aU (lU 2 O O O O O O O),mU 0 O O,aU fun _ _ H K => R.idxN (0) (SC.sl (K 9 _ O)) (evoI (eU K 10 O)) O bU H (by decide),aU fun _ _ H K => R.ldE (K 11 _ O) (SC.sl (K 9 _ O)) (map_get! (l := L) bU) O O O O H,aU fun _ _ H K => R.lenE (SC.sl (K 12 _ O)) (List.length_map _) H,aU fun _ _ H K => R.geqN (k) (L[0]!.length) (eU K 8 O) (eU K 13 O) H,trivial⟩ O O O O (tU O ?_)
 refine W.condD O (fun hc14 => ?_) (fun hc14 => ?_)
 · refine W.ret ?_
   exact EndsB.none' (r := .dead) (.inr O) O (by rw [wk_skip hc14]; rfl) ⟨O,⟨O,⟨O,⟨O,trivial⟩⟩⟩⟩
 · refine W.skip ?_
   refine W.seq ?_
   refine W.draw (m := 10) (an := [0,1,0,0,12,28,0,124,252,508,1023,2047,4095]) hP (by decide) O (its := [.y 15 _,.y 16 _,.y 17 _,.y 18 _,.y 19 _,.y 20 _,.y 21 _,.y 22 _,.y 23 _,.y 24 _]) (ks := []) (kk := []) (live := [0,1,2,3,4,5,16,24]) (env' := [(0,_),(1,_),(2,_),(3,_),(4,_),(5,_),(16,_),(24,_)]) (⟨nU O,O,⟨aU (fU 3 O O),aU fun _ B H K => R.ldO (K 15 _ O) (B 1 _ O) O H,aU (lU 4 O O O O O O O),mU 0 O O,aU fun _ _ H K => R.idxN (0) (SC.sl (K 17 _ O)) (evoI (eU K 18 O)) O bU H (by decide),aU fun _ _ H K => R.ldE (K 19 _ O) (SC.sl (K 17 _ O)) (map_get! (l := F) bU) O O O O H,mU 1 O O,aU fun _ _ H K => R.idxN (k) (SC.sl (K 20 _ O)) (evoI (eU K 21 O)) O bU H (by decide),aU fun _ _ H K => R.ldE (K 22 _ O) (SC.sl (K 20 _ O)) (map_get! (l := F[0]!) bU) O O O O H,aU fun _ _ H K => R.bslE (z := 1) (.cons (eU K 23 O) .nil) ⟨⟨O,O,O⟩,trivial⟩ O H (by decide),trivial⟩,O,O,O⟩) O (bx' := [(0,.var _),(1,.var _),(2,.var _),(3,.var _)]) O (n' := 64) O (⟨O,_,R.appBP (gU 16 O) (xU 1 O) O O O O (gU 16 O) (SrcO.sc (SC.sl (gU 24 O)) (pur_lit O)) (show _ = ((fl ++ [F[0]![k]!]).map D.bool) from (by rw [List.map_append]; rfl)) bU (nU O) (by decide) (by decide),⟨O,_,R.fdP (gU 3 O) (nU O),⟨O,_,R.stOZ (gU 26 O) (xU 1 O) O (gU 25 O) O O (by rfl) (by rfl) O O,tV [(0,_),(1,_),(2,_),(3,_),(4,_),(5,_)] [(0,.var _),(1,.var _),(2,.var _),(3,.var _)] 64 O O O ?_⟩⟩⟩)
   refine W.seq ?_
   refine W.seq ?_
   refine W.l0 12 [.y 27 _,.y 28 _,.y 29 _,.x 30,.x 31,.x 32,.x 33,.x 34,.x 35,.x 36,.x 37,.y 38 _] [] [] [(0,_),(1,_),(2,_),(3,_),(5,_),(38,_)] [(0,.var _),(1,.var _),(2,.var _),(3,.var _)] 64 ⟨mU 0 O O,aU fun _ _ H K => R.eqlN (0) (0) (eU K 27 O) (kI 0 O) H,mU 28 O O,aF O O (gT (decide_eq_true O) O),aF O O (gT (decide_eq_true O) O),aF O O (gT (decide_eq_true O) O),aF O O (gT (decide_eq_true O) O),aF O O (gT (decide_eq_true O) O),aF O O (gT (decide_eq_true O) O),aF O O (gT (decide_eq_true O) O),aF O O (gT (decide_eq_true O) O),aU fun _ _ H K => R.pickT (eU K 29 O) (decide_eq_true O) (kB true O) O H,trivial⟩ O O O O (tU O ?_)
   refine W.condT O (O) ?_
   refine W.seq ?_
   refine W.draw (m := 10) (an := [0,1,0,0,12,28,0,124,252,508,1023,2047,4095]) hP (by decide) O (its := [.y 39 _,.y 40 _,.y 41 _,.y 42 _,.y 43 _,.y 44 _,.y 45 _,.y 46 _,.y 47 _,.y 48 _]) (ks := []) (kk := []) (live := [3,40,48]) (env' := [(3,_),(40,_),(48,_)]) (⟨nU O,O,⟨aU (fU 3 O O),aU fun _ B H K => R.ldO (K 39 _ O) (B 1 _ O) O H,aU (lU 2 O O O O O O O),mU 0 O O,aU fun _ _ H K => R.idxN (0) (SC.sl (K 41 _ O)) (evoI (eU K 42 O)) O bU H (by decide),aU fun _ _ H K => R.ldE (K 43 _ O) (SC.sl (K 41 _ O)) (map_get! (l := L) bU) O O O O H,mU 1 O O,aU fun _ _ H K => R.idxN (k) (SC.sl (K 44 _ O)) (evoI (eU K 45 O)) O bU H (by decide),aU fun _ _ H K => R.ldE (K 46 _ O) (SC.sl (K 44 _ O)) (map_get! (l := L[0]!) bU) O O O O H,aU fun _ _ H K => R.bslE (z := 32) (.cons (eU K 47 O) .nil) ⟨⟨O,O,O⟩,trivial⟩ O H (by decide),trivial⟩,O,O,O⟩) O (bx' := [(0,.var _),(1,.var _),(2,.var _),(3,.var _)]) O (n' := 64) O (⟨O,_,R.appBP (gU 40 O) (xU 1 O) O O O O (gU 40 O) (SrcO.sc (SC.sl (gU 48 O)) (pur_lit O)) (show _ = ((hs ++ [L[0]![k]!]).map hashD) from (by rw [List.map_append]; rfl)) bU (nU O) (by decide) (by decide),⟨O,_,R.fdP (gU 3 O) (nU O),⟨O,_,R.stOZ (gU 50 O) (xU 1 O) O (gU 49 O) O O (by rfl) (by rfl) O O,tV [] [(0,.var _),(1,.var _),(2,.var _),(3,.var _)] 64 O O O ?_⟩⟩⟩)
   refine W.ret ?_
   exact EndsB.none' (r := .dead) (.inr O) O (by rw [wk_leaf0 hc14]; rfl) ⟨O,⟨O,⟨O,⟨O,trivial⟩⟩⟩⟩

theorem bwalk1 (L : List (List Hs)) (F : List (List Bool)) (n : Int) (r : Nat) (hL : L.length ≤ 20) (hF : F.length = L.length) (hLF : ∀ j : Nat,F[j]!.length = L[j]!.length) (hLl : ∀ j : Nat,L[j]!.length ≤ 1000) (hrow : (r + 1) < L.length) (k : Nat) (hs : List Hs) (fl : List Bool) (hk : k ≤ 100000) (hhs : hs.length + 2 ^ ((r + 1) + 1) ≤ 100000) (hfl : fl.length + 2 ^ ((r + 1) + 1) ≤ 100000) (ih : ∀ (k : Nat) (hs : List Hs) (fl : List Bool),k ≤ 100000 → hs.length + 2 ^ (r + 1) ≤ 100000 → fl.length + 2 ^ (r + 1) ≤ 100000 → BwP L F n r k hs fl) : FnB Tryd.prog gl 25 [.int ((r + 1 : Nat) : Int),.int ((k : Nat) : Int),.ptr 0 0 [],.ptr 1 0 [],.ptr 2 0 [],.ptr 3 0 []] [(0,.var (.sl none 1 (L.map hsD))),(1,.var (.agg [.int n,.sl (some 38) 32 (hs.map hashD),.sl (some 4) 1 (fl.map D.bool)])),(2,.var (.sl none 1 (F.map flD))),(3,.var (.fn 25 [.ptr 0 0 [],.ptr 1 0 [],.ptr 2 0 [],.ptr 3 0 []]))] (.tup []) [(0,.var (.sl none 1 (L.map hsD))),(1,.var (.agg [.int n,.sl (some 38) 32 ((wkB L F (r + 1) k (hs,fl)).1.map hashD),.sl (some 4) 1 ((wkB L F (r + 1) k (hs,fl)).2.map D.bool)])),(2,.var (.sl none 1 (F.map flD))),(3,.var (.fn 25 [.ptr 0 0 [],.ptr 1 0 [],.ptr 2 0 [],.ptr 3 0 []]))] [] := by
 refine FnB.of (n := 64) (ids := [0,1,2,3]) Tryd.func25 rfl rfl rfl (nU rfl) fun C hC hD => ?_
 refine W.seq ?_
 refine W.seq ?_
 have hlf := hLF (r + 1)
 have hll := hLl (r + 1)
 have hpw : 1 ≤ 2 ^ (r + 1) := Nat.one_le_two_pow
 have hpw2 : 2 ^ (r + 1 + 1) = 2 * 2 ^ (r + 1) := by first | rfl | (rw [Nat.pow_succ]; omega)
 refine W.l0 7 [.y 8 _,.y 9 _,.y 10 _,.y 11 _,.y 12 _,.y 13 _,.y 14 _] [] [] [(0,_),(1,_),(2,_),(3,_),(4,_),(5,_),(14,_)] [(0,.var _),(1,.var _),(2,.var _),(3,.var _)] 64 ⟨mU 1 O O,aU (lU 2 O O O O O O O),mU 0 O O,aU fun _ _ H K => R.idxN (r + 1) (SC.sl (K 9 _ O)) (evoI (eU K 10 O)) O bU H (by decide),aU fun _ _ H K => R.ldE (K 11 _ O) (SC.sl (K 9 _ O)) (map_get! (l := L) bU) O O O O H,aU fun _ _ H K => R.lenE (SC.sl (K 12 _ O)) (List.length_map _) H,aU fun _ _ H K => R.geqN (k) (L[r + 1]!.length) (eU K 8 O) (eU K 13 O) H,trivial⟩ O O O O (tU O ?_)
 refine W.condD O (fun hc14 => ?_) (fun hc14 => ?_)
 · refine W.ret ?_
   exact EndsB.none' (r := .dead) (.inr O) O (by rw [wk_skip hc14]; rfl) ⟨O,⟨O,⟨O,⟨O,trivial⟩⟩⟩⟩
 · refine W.skip ?_
   refine W.seq ?_
   refine W.draw (m := 10) (an := [0,1,0,0,12,28,0,124,252,508,1023,2047,4095]) hP (by decide) O (its := [.y 15 _,.y 16 _,.y 17 _,.y 18 _,.y 19 _,.y 20 _,.y 21 _,.y 22 _,.y 23 _,.y 24 _]) (ks := []) (kk := []) (live := [0,1,2,3,4,5,16,24]) (env' := [(0,_),(1,_),(2,_),(3,_),(4,_),(5,_),(16,_),(24,_)]) (⟨nU O,O,⟨aU (fU 3 O O),aU fun _ B H K => R.ldO (K 15 _ O) (B 1 _ O) O H,aU (lU 4 O O O O O O O),mU 0 O O,aU fun _ _ H K => R.idxN (r + 1) (SC.sl (K 17 _ O)) (evoI (eU K 18 O)) O bU H (by decide),aU fun _ _ H K => R.ldE (K 19 _ O) (SC.sl (K 17 _ O)) (map_get! (l := F) bU) O O O O H,mU 1 O O,aU fun _ _ H K => R.idxN (k) (SC.sl (K 20 _ O)) (evoI (eU K 21 O)) O bU H (by decide),aU fun _ _ H K => R.ldE (K 22 _ O) (SC.sl (K 20 _ O)) (map_get! (l := F[r + 1]!) bU) O O O O H,aU fun _ _ H K => R.bslE (z := 1) (.cons (eU K 23 O) .nil) ⟨⟨O,O,O⟩,trivial⟩ O H (by decide),trivial⟩,O,O,O⟩) O (bx' := [(0,.var _),(1,.var _),(2,.var _),(3,.var _)]) O (n' := 64) O (⟨O,_,R.appBP (gU 16 O) (xU 1 O) O O O O (gU 16 O) (SrcO.sc (SC.sl (gU 24 O)) (pur_lit O)) (show _ = ((fl ++ [F[r + 1]![k]!]).map D.bool) from (by rw [List.map_append]; rfl)) bU (nU O) (by decide) (by decide),⟨O,_,R.fdP (gU 3 O) (nU O),⟨O,_,R.stOZ (gU 26 O) (xU 1 O) O (gU 25 O) O O (by rfl) (by rfl) O O,tV [(0,_),(1,_),(2,_),(3,_),(4,_),(5,_)] [(0,.var _),(1,.var _),(2,.var _),(3,.var _)] 64 O O O ?_⟩⟩⟩)
   refine W.seq ?_
   refine W.seq ?_
   refine W.l0 12 [.y 27 _,.y 28 _,.y 29 _,.y 30 _,.y 31 _,.y 32 _,.y 33 _,.y 34 _,.y 35 _,.y 36 _,.y 37 _,.y 38 _] [] [] [(0,_),(1,_),(2,_),(3,_),(5,_),(38,_)] [(0,.var _),(1,.var _),(2,.var _),(3,.var _)] 64 ⟨mU 0 O O,aU fun _ _ H K => R.eqlN (r + 1) (0) (eU K 27 O) (kI 0 O) H,mU 28 O O,aW O O (gF (decide_eq_false (Nat.succ_ne_zero _)) O) (lU 4 O O O O O O O),aW O O (gF (decide_eq_false (Nat.succ_ne_zero _)) O) fun _ _ H K => R.mov (eU K 0 O) O H,aW O O (gF (decide_eq_false (Nat.succ_ne_zero _)) O) fun _ _ H K => R.idxN (r + 1) (SC.sl (K 30 _ O)) (evoI (eU K 31 O)) O bU H (by decide),aW O O (gF (decide_eq_false (Nat.succ_ne_zero _)) O) fun _ _ H K => R.ldE (K 32 _ O) (SC.sl (K 30 _ O)) (map_get! (l := F) bU) O O O O H,aW O O (gF (decide_eq_false (Nat.succ_ne_zero _)) O) fun _ _ H K => R.mov (eU K 1 O) O H,aW O O (gF (decide_eq_false (Nat.succ_ne_zero _)) O) fun _ _ H K => R.idxN (k) (SC.sl (K 33 _ O)) (evoI (eU K 34 O)) O bU H (by decide),aW O O (gF (decide_eq_false (Nat.succ_ne_zero _)) O) fun _ _ H K => R.ldE (K 35 _ O) (SC.sl (K 33 _ O)) (map_get! (l := F[r + 1]!) bU) O O O O H,aW O O (gF (decide_eq_false (Nat.succ_ne_zero _)) O) fun _ _ H K => R.un (eU K 36 O) O H,aU fun _ _ H K => R.pickF (eU K 29 O) (decide_eq_false (Nat.succ_ne_zero _)) (eU K 37 O) O H,trivial⟩ O O O O (tU O ?_)
   refine W.cond O (fun hc38 => ?_) (fun hc38 => ?_)
   · refine W.seq ?_
     refine W.draw (m := 10) (an := [0,1,0,0,12,28,0,124,252,508,1023,2047,4095]) hP (by decide) O (its := [.y 39 _,.y 40 _,.y 41 _,.y 42 _,.y 43 _,.y 44 _,.y 45 _,.y 46 _,.y 47 _,.y 48 _]) (ks := []) (kk := []) (live := [3,40,48]) (env' := [(3,_),(40,_),(48,_)]) (⟨nU O,O,⟨aU (fU 3 O O),aU fun _ B H K => R.ldO (K 39 _ O) (B 1 _ O) O H,aU (lU 2 O O O O O O O),mU 0 O O,aU fun _ _ H K => R.idxN (r + 1) (SC.sl (K 41 _ O)) (evoI (eU K 42 O)) O bU H (by decide),aU fun _ _ H K => R.ldE (K 43 _ O) (SC.sl (K 41 _ O)) (map_get! (l := L) bU) O O O O H,mU 1 O O,aU fun _ _ H K => R.idxN (k) (SC.sl (K 44 _ O)) (evoI (eU K 45 O)) O bU H (by decide),aU fun _ _ H K => R.ldE (K 46 _ O) (SC.sl (K 44 _ O)) (map_get! (l := L[r + 1]!) bU) O O O O H,aU fun _ _ H K => R.bslE (z := 32) (.cons (eU K 47 O) .nil) ⟨⟨O,O,O⟩,trivial⟩ O H (by decide),trivial⟩,O,O,O⟩) O (bx' := [(0,.var _),(1,.var _),(2,.var _),(3,.var _)]) O (n' := 64) O (⟨O,_,R.appBP (gU 40 O) (xU 1 O) O O O O (gU 40 O) (SrcO.sc (SC.sl (gU 48 O)) (pur_lit O)) (show _ = ((hs ++ [L[r + 1]![k]!]).map hashD) from (by rw [List.map_append]; rfl)) bU (nU O) (by decide) (by decide),⟨O,_,R.fdP (gU 3 O) (nU O),⟨O,_,R.stOZ (gU 50 O) (xU 1 O) O (gU 49 O) O O (by rfl) (by rfl) O O,tV [] [(0,.var _),(1,.var _),(2,.var _),(3,.var _)] 64 O O O ?_⟩⟩⟩)
     refine W.ret ?_
     exact EndsB.none' (r := .dead) (.inr O) O (by rw [wk_leaf hc14 (by simpa using hc38)]; rfl) ⟨O,⟨O,⟨O,⟨O,trivial⟩⟩⟩⟩
   · refine W.skip ?_
     refine W.seq ?_
     have hin : F[r + 1]![k]! = true := by simpa using hc38
     have hln := wkB_len L F r (2 * k) (hs,fl ++ [F[r + 1]![k]!])
     simp only [List.length_append,List.length_cons,List.length_nil] at hln
     refine W.l0 6 [.y 51 _,.y 52 _,.y 53 _,.y 54 _,.y 55 _] [] [] [(0,_),(1,_),(5,_),(51,_),(53,_),(55,_)] [(0,.var _),(1,.var _),(2,.var _),(3,.var _)] 64 ⟨aU (lU 5 O O O O O O O),mU 0 O O,aU fun _ _ H K => R.subN (r + 1) (1) (eU K 52 O) (kI 1 O) bU bU H,mU 1 O O,aU fun _ _ H K => R.mulN (2) (k) (kI 2 O) (eU K 54 O) bU H,trivial⟩ O O O O (⟨O,_,R.callVB (ds := [.int ((r : Nat) : Int),.int ((2 * k : Nat) : Int)]) (caps := [.ptr 0 0 [],.ptr 1 0 [],.ptr 2 0 [],.ptr 3 0 []]) [(0,0),(1,1),(2,2),(3,3)] hC (gU 51 O) O O (show FnB Tryd.prog gl 25 [.int ((r : Nat) : Int),.int ((2 * k : Nat) : Int),.ptr 0 0 [],.ptr 1 0 [],.ptr 2 0 [],.ptr 3 0 []] [(0,.var (.sl none 1 (L.map hsD))),(1,.var (.agg [.int n,.sl (some 38) 32 (hs.map hashD),.sl (some 4) 1 ((fl ++ [F[r + 1]![k]!]).map D.bool)])),(2,.var (.sl none 1 (F.map flD))),(3,.var (.fn 25 [.ptr 0 0 [],.ptr 1 0 [],.ptr 2 0 [],.ptr 3 0 []]))] (.tup []) [(0,.var (.sl none 1 (L.map hsD))),(1,.var (.agg [.int n,.sl (some 38) 32 ((wkB L F r (2 * k) (hs,fl ++ [F[r + 1]![k]!])).1.map hashD),.sl (some 4) 1 ((wkB L F r (2 * k) (hs,fl ++ [F[r + 1]![k]!])).2.map D.bool)])),(2,.var (.sl none 1 (F.map flD))),(3,.var (.fn 25 [.ptr 0 0 [],.ptr 1 0 [],.ptr 2 0 [],.ptr 3 0 []]))] [] from ih (2 * k) hs (fl ++ [F[r + 1]![k]!]) (by omega) (by first | omega | (simp only [List.length_append,List.length_cons,List.length_nil]; omega)) (by first | omega | (simp only [List.length_append,List.length_cons,List.length_nil]; omega))) (EvB.cons (gV 53 O) O O O (EvB.cons (gV 55 O) O O O EvB.nil)) O ⟨O,⟨O,⟨O,⟨O,trivial⟩⟩⟩⟩ ⟨O,⟨O,⟨O,⟨O,trivial⟩⟩⟩⟩ O O O O O O (nU O),tV [(0,_),(1,_),(5,_)] [(0,.var _),(1,.var _),(2,.var _),(3,.var _)] 64 O O O ?_⟩)
     refine W.l0 7 [.y 57 _,.y 58 _,.y 59 _,.y 60 _,.y 61 _,.y 62 _] [] [] [(57,_),(59,_),(62,_)] [(0,.var _),(1,.var _),(2,.var _),(3,.var _)] 64 ⟨aU (lU 5 O O O O O O O),mU 0 O O,aU fun _ _ H K => R.subN (r + 1) (1) (eU K 58 O) (kI 1 O) bU bU H,mU 1 O O,aU fun _ _ H K => R.mulN (2) (k) (kI 2 O) (eU K 60 O) bU H,aU fun _ _ H K => R.addN ((2 * k)) (1) (eU K 61 O) (kI 1 O) bU H,trivial⟩ O O O O (⟨O,_,R.callVB (ds := [.int ((r : Nat) : Int),.int ((2 * k + 1 : Nat) : Int)]) (caps := [.ptr 0 0 [],.ptr 1 0 [],.ptr 2 0 [],.ptr 3 0 []]) [(0,0),(1,1),(2,2),(3,3)] hC (gU 57 O) O O (show FnB Tryd.prog gl 25 [.int ((r : Nat) : Int),.int ((2 * k + 1 : Nat) : Int),.ptr 0 0 [],.ptr 1 0 [],.ptr 2 0 [],.ptr 3 0 []] [(0,.var (.sl none 1 (L.map hsD))),(1,.var (.agg [.int n,.sl (some 38) 32 ((wkB L F r (2 * k) (hs,fl ++ [F[r + 1]![k]!])).1.map hashD),.sl (some 4) 1 ((wkB L F r (2 * k) (hs,fl ++ [F[r + 1]![k]!])).2.map D.bool)])),(2,.var (.sl none 1 (F.map flD))),(3,.var (.fn 25 [.ptr 0 0 [],.ptr 1 0 [],.ptr 2 0 [],.ptr 3 0 []]))] (.tup []) [(0,.var (.sl none 1 (L.map hsD))),(1,.var (.agg [.int n,.sl (some 38) 32 ((wkB L F r (2 * k + 1) (wkB L F r (2 * k) (hs,fl ++ [F[r + 1]![k]!]))).1.map hashD),.sl (some 4) 1 ((wkB L F r (2 * k + 1) (wkB L F r (2 * k) (hs,fl ++ [F[r + 1]![k]!]))).2.map D.bool)])),(2,.var (.sl none 1 (F.map flD))),(3,.var (.fn 25 [.ptr 0 0 [],.ptr 1 0 [],.ptr 2 0 [],.ptr 3 0 []]))] [] from ih (2 * k + 1) (wkB L F r (2 * k) (hs,fl ++ [F[r + 1]![k]!])).1 (wkB L F r (2 * k) (hs,fl ++ [F[r + 1]![k]!])).2 (by omega) (by first | omega | (simp only [List.length_append,List.length_cons,List.length_nil]; omega)) (by first | omega | (simp only [List.length_append,List.length_cons,List.length_nil]; omega))) (EvB.cons (gV 59 O) O O O (EvB.cons (gV 62 O) O O O EvB.nil)) O ⟨O,⟨O,⟨O,⟨O,trivial⟩⟩⟩⟩ ⟨O,⟨O,⟨O,⟨O,trivial⟩⟩⟩⟩ O O O O O O (nU O),tV [] [(0,.var _),(1,.var _),(2,.var _),(3,.var _)] 64 O O O ?_⟩)
     exact EndsB.none' (r := .dead) (.inl O) O (by rw [wk_in hc14 hin]; rfl) ⟨O,⟨O,⟨O,⟨O,trivial⟩⟩⟩⟩

end Go.Sx

namespace Go.Sx
open Go.Proofs
theorem bwalk {L : List (List Hs)} {F : List (List Bool)} {n : Int} (hL : L.length ≤ 20) (hF : F.length = L.length) (hLF : ∀ j : Nat,F[j]!.length = L[j]!.length) (hLl : ∀ j : Nat,L[j]!.length ≤ 1000) :
 ∀ (r : Nat),r < L.length → ∀ (k : Nat) (hs : List Hs) (fl : List Bool),k ≤ 100000 → hs.length + 2 ^ (r + 1) ≤ 100000 → fl.length + 2 ^ (r + 1) ≤ 100000 → BwP L F n r k hs fl := by
 intro r
 induction r with
 | zero => intro hr k hs fl hk h1 h2; exact bwalk0 L F n hL hF hLF hLl hr k hs fl hk h1 h2
 | succ r ih => intro hr k hs fl hk h1 h2; exact bwalk1 L F n r hL hF hLF hLl hr k hs fl hk h1 h2 (ih (by omega))
def zeroP : PartS := ⟨0,[],[]⟩
def bwS (l : List Hs) (f : List Bool) : List Hs × List Bool := wkB (rowsL joinS l (nRows l.length)) (flsL f (nRows l.length)) ((rowsL joinS l (nRows l.length)).length - 1) 0 ([],[])
def bldS (l : List Hs) (f : List Bool) : PartS × Nat :=
 if l.length = 0 ∨ f.length ≠ l.length then (zeroP,1) else if 256 < l.length then (zeroP,6) else (⟨(l.length : Nat),(bwS l f).1,(bwS l f).2⟩,0)
section
variable {l : List Hs} {f : List Bool}
theorem bld_1 (h : l.length = 0) : bldS l f = (zeroP,1) := if_pos (.inl h)
theorem bld_2 (h : f.length ≠ l.length) : bldS l f = (zeroP,1) := if_pos (.inr h)
theorem bld_3 (h1 : ¬ l.length = 0) (h2 : ¬ f.length ≠ l.length) (h3 : 256 < l.length) : bldS l f = (zeroP,6) := by rw [bldS,if_neg (by intro h; exact h.elim h1 h2),if_pos h3]
theorem bld_4 (h1 : ¬ l.length = 0) (h2 : ¬ f.length ≠ l.length) (h3 : ¬ 256 < l.length) : bldS l f = (⟨(l.length : Nat),(bwS l f).1,(bwS l f).2⟩,0) := by rw [bldS,if_neg (by intro h; exact h.elim h1 h2),if_neg h3]
theorem nRows_9 : ∀ n,n ≤ 256 → nRows n ≤ 9 := by
 have key : ∀ k n,n ≤ 2 ^ k → nRows n ≤ k + 1 := by
  intro k
  induction k with
  | zero => intro n h; have := nRows_short (n := n) (by simpa using h); omega
  | succ k ih =>
   intro n h
   rcases Nat.lt_or_ge n 2 with h2 | h2
   · have := nRows_short (n := n) (by omega); omega
   · rw [nRows_2 h2]
     have := ih ((n + 1) / 2) (by rw [Nat.pow_succ] at h; omega)
     omega
 intro n h
 exact key 8 n h
theorem bw_call {n : Int} (h0 : 0 < l.length) (h1 : l.length ≤ 256) (hf : f.length = l.length) :
 BwP (rowsL joinS l (nRows l.length)) (flsL f (nRows l.length)) n ((rowsL joinS l (nRows l.length)).length - 1) 0 [] [] := by
 have hn := nRows_9 l.length h1
 have hnp := nRows_pos (n := l.length) h0
 have hlen := rowsL_len joinS l (nRows l.length)
 have hp : 2 ^ ((rowsL joinS l (nRows l.length)).length - 1 + 1) ≤ 2 ^ 9 := Nat.pow_le_pow_right (by decide) (by omega)
 have get : ∀ j : Nat,(j < nRows l.length → (rowsL joinS l (nRows l.length))[j]! = rowA joinS l j ∧ (flsL f (nRows l.length))[j]! = flA f j) ∧ (¬ j < nRows l.length → (rowsL joinS l (nRows l.length))[j]! = [] ∧ (flsL f (nRows l.length))[j]! = []) := by
  intro j
  refine ⟨fun h => ⟨rowsL_get h,flsL_get h⟩,fun h => ⟨?_, ?_⟩⟩
  · rw [getElem!_neg _ j (by rw [rowsL_len]; exact h)]; rfl
  · rw [getElem!_neg _ j (by rw [flsL_len]; exact h)]; rfl
 refine bwalk (by omega) (by rw [rowsL_len,flsL_len]) (fun j => ?_) (fun j => ?_) _ (by omega) 0 [] [] (by omega) (by simp only [List.length_nil]; omega) (by simp only [List.length_nil]; omega)
 · by_cases h : j < nRows l.length
   · rw [((get j).1 h).1,((get j).1 h).2]; exact flA_len hf j
   · rw [((get j).2 h).1,((get j).2 h).2]; rfl
 · by_cases h : j < nRows l.length
   · rw [((get j).1 h).1,rowA_len]; have := lenA_le l.length j; omega
   · rw [((get j).2 h).1]; simp
theorem wk_zeroP : Wk (.agg [.int 0,.nils,.nils]) (partD zeroP) := .aggL (.cons (.refl _) (.cons (.nils none 32) (.cons (.nils none 1) .nil)))
end
end Go.Sx

namespace Go.Sx
open Go.Proofs
theorem build_ok (l : List Hs) (f : List Bool) (hl : allH l) (hl0 : l.length ≤ 1000000) (hf0 : f.length ≤ 1000000) : Fn Tryd.prog gl 9 [.sl none 32 (l.map hashD),.sl none 1 (f.map D.bool)] (.tup [partD (bldS l f).1,.int (((bldS l f).2 : Nat) : Int)]) := by
 refine Fn.of (n := 41) Tryd.func9 rfl rfl rfl (nU rfl) fun C hC hD => ?_
 refine W.seq ?_
 refine W.l0 2 [] [] [] [(0,_),(1,_)] [] 41 trivial O O O O (⟨O,_,R.alloc O (nU O),⟨O,_,R.asg (kI 0 O) O (nU O),tV [(0,_),(1,_),(4,_)] [(4,.var _)] 41 O O O ?_⟩⟩)
 refine W.seq ?_
 refine W.block ?_
 refine W.seq ?_
 refine W.seq ?_
 by_cases hz : l.length = 0
 · refine W.l0 4 [.y 11 _,.y 12 _,.y 13 _,.y 10 _] [] [] [(0,_),(1,_),(4,_),(10,_)] [(4,.var _)] 41 ⟨mU 0 O O,aU fun _ _ H K => R.lenE (SC.sl (K 11 _ O)) (List.length_map _) H,aU fun _ _ H K => R.eqlN (l.length) (0) (eU K 12 O) (kI 0 O) H,aU fun _ _ H K => R.asg (eU K 13 O) O H,trivial⟩ O O O O (tU O ?_)
   refine W.condT O (decide_eq_true hz) ?_
   refine W.skip ?_
   refine W.condT O (decide_eq_true hz) ?_
   refine W.seq ?_
   refine W.l0 3 [.y 19 _] [] [] [(4,_),(19,_)] [(4,.var _)] 41 ⟨aU fun _ _ H _ => R.bldSE (l := [.int 0,.nils,.nils]) (l' := [_,_,_]) (.nil O) trivial H,trivial⟩ O O O O (⟨O,_,R.stZ (gU 4 O) (xU 4 O) O (gV 19 O) (by rfl) (by rfl) (by rfl) (by rfl) O,⟨O,_,R.asg (kI 1 O) O (nU O),tV [(4,_),(5,_)] [(4,.var _)] 41 O O O ?_⟩⟩)
   refine W.wkB 4 (d' := partD zeroP) (bx' := [(4,.var _)]) O wk_zeroP O ?_
   refine W.ret ?_
   exact Ends.many (.inr O) (.cons O O O (show LdT _ 25 3 true from inferInstance) (.cons O O O trivial .nil)) (by rw [bld_1 hz]) (show [(4,false),(5,true)].Nodup by decide)
 · refine W.l0 4 [.y 11 _,.y 12 _,.y 13 _,.y 10 _] [] [] [(0,_),(1,_),(4,_),(10,_)] [(4,.var _)] 41 ⟨mU 0 O O,aU fun _ _ H K => R.lenE (SC.sl (K 11 _ O)) (List.length_map _) H,aU fun _ _ H K => R.eqlN (l.length) (0) (eU K 12 O) (kI 0 O) H,aU fun _ _ H K => R.asg (eU K 13 O) O H,trivial⟩ O O O O (tU O ?_)
   refine W.condF O (decide_eq_false hz) ?_
   refine W.l0 6 [.y 14 _,.y 15 _,.y 16 _,.y 17 _,.y 18 _,.y 10 _] [] [] [(0,_),(1,_),(4,_),(10,_)] [(4,.var _)] 41 ⟨mU 1 O O,aU fun _ _ H K => R.lenE (SC.sl (K 14 _ O)) (List.length_map _) H,mU 0 O O,aU fun _ _ H K => R.lenE (SC.sl (K 16 _ O)) (List.length_map _) H,aU fun _ _ H K => R.neqN (f.length) (l.length) (eU K 15 O) (eU K 17 O) H,aU fun _ _ H K => R.asg (eU K 18 O) O H,trivial⟩ O O O O (tU O ?_)
   refine W.condD O (fun hc10 => ?_) (fun hc10 => ?_)
   · refine W.seq ?_
     refine W.l0 3 [.y 19 _] [] [] [(4,_),(19,_)] [(4,.var _)] 41 ⟨aU fun _ _ H _ => R.bldSE (l := [.int 0,.nils,.nils]) (l' := [_,_,_]) (.nil O) trivial H,trivial⟩ O O O O (⟨O,_,R.stZ (gU 4 O) (xU 4 O) O (gV 19 O) (by rfl) (by rfl) (by rfl) (by rfl) O,⟨O,_,R.asg (kI 1 O) O (nU O),tV [(4,_),(5,_)] [(4,.var _)] 41 O O O ?_⟩⟩)
     refine W.wkB 4 (d' := partD zeroP) (bx' := [(4,.var _)]) O wk_zeroP O ?_
     refine W.ret ?_
     exact Ends.many (.inr O) (.cons O O O (show LdT _ 25 3 true from inferInstance) (.cons O O O trivial .nil)) (by rw [bld_2 hc10]) (show [(4,false),(5,true)].Nodup by decide)
   · refine W.seq ?_
     refine W.l0 4 [.y 21 _,.y 22 _,.y 23 _,.y 20 _] [] [] [(0,_),(1,_),(4,_),(20,_)] [(4,.var _)] 41 ⟨mU 0 O O,aU fun _ _ H K => R.lenE (SC.sl (K 21 _ O)) (List.length_map _) H,aU fun _ _ H K => R.gtrN (l.length) (256) (eU K 22 O) (kI 256 O) H,aU fun _ _ H K => R.asg (eU K 23 O) O H,trivial⟩ O O O O (tU O ?_)
     refine W.condD O (fun hc20 => ?_) (fun hc20 => ?_)
     · refine W.seq ?_
       refine W.l0 3 [.y 24 _] [] [] [(4,_),(24,_)] [(4,.var _)] 41 ⟨aU fun _ _ H _ => R.bldSE (l := [.int 0,.nils,.nils]) (l' := [_,_,_]) (.nil O) trivial H,trivial⟩ O O O O (⟨O,_,R.stZ (gU 4 O) (xU 4 O) O (gV 24 O) (by rfl) (by rfl) (by rfl) (by rfl) O,⟨O,_,R.asg (kI 6 O) O (nU O),tV [(4,_),(5,_)] [(4,.var _)] 41 O O O ?_⟩⟩)
       refine W.wkB 4 (d' := partD zeroP) (bx' := [(4,.var _)]) O wk_zeroP O ?_
       refine W.ret ?_
       exact Ends.many (.inr O) (.cons O O O (show LdT _ 25 3 true from inferInstance) (.cons O O O trivial .nil)) (by rw [bld_3 hz hc10 hc20]) (show [(4,false),(5,true)].Nodup by decide)
     · refine W.skip ?_
       refine W.seq ?_
       refine W.l0 10 [.y 26 _,.y 27 _,.y 28 _,.y 25 _,.y 29 _,.y 30 _] [] [] [(0,_),(4,_),(29,_),(30,_)] [(4,.var _)] 41 ⟨mU 0 O O,mU 1 O O,aU fun _ _ H K => R.callPE hC (prows_ok l f hl (by omega) (by omega) (by omega)) (EvP.cons (eU K 26 O) O O (EvP.cons (eU K 27 O) O O EvP.nil)) H,aU fun _ _ H K => R.movT (K 28 _ O) O H,aU fun _ _ H K => R.ext (K 25 _ O) O O H,aU fun _ _ H K => R.ext (K 25 _ O) O O H,trivial⟩ O O O O (⟨O,_,R.alloc O (nU O),⟨O,_,R.alloc O (nU O),⟨O,_,R.stZ (gU 6 O) (xU 6 O) O (gV 29 O) (by rfl) (by rfl) (by rfl) (by rfl) O,⟨O,_,R.stZ (gU 7 O) (xU 7 O) O (gV 30 O) (by rfl) (by rfl) (by rfl) (by rfl) O,tV [(0,_),(4,_),(6,_),(7,_)] [(7,.var _),(6,.var _),(4,.var _)] 41 O O O ?_⟩⟩⟩⟩)
       refine W.seq ?_
       refine W.l0 5 [.y 31 _,.y 32 _,.y 33 _] [] [] [(4,_),(6,_),(7,_),(33,_)] [(7,.var _),(6,.var _),(4,.var _)] 41 ⟨mU 0 O O,aU fun _ _ H K => R.lenE (SC.sl (K 31 _ O)) (List.length_map _) H,aU fun _ _ H K => R.bldSE (l := [.int 0,.nils,.nils]) (l' := [_,_,_]) (.cons (eU K 32 O) (.nil O)) ⟨⟨_,(eU K 32 O),O,O,O⟩,trivial⟩ H,trivial⟩ O O O O (⟨O,_,R.alloc O (nU O),⟨O,_,R.stZ (gU 8 O) (xU 8 O) O (gV 33 O) (by rfl) (by rfl) (by rfl) (by rfl) O,tV [(4,_),(6,_),(7,_),(8,_)] [(8,.var _),(7,.var _),(6,.var _),(4,.var _)] 41 O O O ?_⟩⟩)
       refine W.seq ?_
       refine W.asOwnP 8 [1] 38 32 (bx' := [(8,.var _),(7,.var _),(6,.var _),(4,.var _)]) O O O O O ?_
       refine W.asOwnP 8 [2] 4 1 (bx' := [(8,.var _),(7,.var _),(6,.var _),(4,.var _)]) O O O O O ?_
       refine W.l0 1 [] [] [] [(4,_),(6,_),(7,_),(8,_)] [(8,.var _),(7,.var _),(6,.var _),(4,.var _)] 41 trivial O O O O (⟨O,_,R.alloc O (nU O),tV [(4,_),(6,_),(7,_),(8,_),(9,_)] [(9,.var _),(8,.var _),(7,.var _),(6,.var _),(4,.var _)] 41 O O O ?_⟩)
       refine W.seq ?_
       refine W.l0 2 [.y 34 _] [] [] [(4,_),(6,_),(8,_),(9,_),(34,_)] [(9,.var _),(8,.var _),(7,.var _),(6,.var _),(4,.var _)] 41 ⟨aU fun _ _ H K => R.mkfnL (EvFs.cons (eU K 6 O) O O (EvFs.cons (eU K 8 O) O O (EvFs.cons (eU K 7 O) O O (EvFs.cons (eU K 9 O) O O EvFs.nil)))) H,trivial⟩ O O O O (⟨O,_,R.stP (gU 9 O) (xU 9 O) O (gV 34 O) O O (by rfl) (by rfl) O,tV [(4,_),(6,_),(8,_),(9,_)] [(9,.var _),(8,.var _),(7,.var _),(6,.var _),(4,.var _)] 41 O O O ?_⟩)
       refine W.seq ?_
       have hlr := rowsL_len joinS l (nRows l.length)
       have hnp := nRows_pos (n := l.length) (by omega)
       have hnl := nRows_le l.length
       refine W.l0 5 [.y 35 _,.y 36 _,.y 37 _,.y 38 _] [] [] [(4,_),(8,_),(35,_),(38,_)] [(9,.var _),(8,.var _),(7,.var _),(6,.var _),(4,.var _)] 41 ⟨aU (lU 9 O O O O O O O),aU (lU 6 O O O O O O O),aU fun _ _ H K => R.lenE (SC.sl (K 36 _ O)) (List.length_map _) H,aU fun _ _ H K => R.subN ((rowsL joinS l (nRows l.length)).length) (1) (eU K 37 O) (kI 1 O) bU bU H,trivial⟩ O O O O (⟨O,_,R.callVB (ds := [.int ((((rowsL joinS l (nRows l.length)).length - 1) : Nat) : Int),.int ((0 : Nat) : Int)]) (caps := [.ptr 0 0 [],.ptr 1 0 [],.ptr 2 0 [],.ptr 3 0 []]) [(0,6),(1,8),(2,7),(3,9)] hC (gU 35 O) O O (show FnB Tryd.prog gl 25 [.int ((((rowsL joinS l (nRows l.length)).length - 1) : Nat) : Int),.int ((0 : Nat) : Int),.ptr 0 0 [],.ptr 1 0 [],.ptr 2 0 [],.ptr 3 0 []] [(0,.var (.sl none 1 ((rowsL joinS l (nRows l.length)).map hsD))),(1,.var (.agg [.int ((l.length : Nat) : Int),.sl (some 38) 32 (([] : List Hs).map hashD),.sl (some 4) 1 (([] : List Bool).map D.bool)])),(2,.var (.sl none 1 ((flsL f (nRows l.length)).map flD))),(3,.var (.fn 25 [.ptr 0 0 [],.ptr 1 0 [],.ptr 2 0 [],.ptr 3 0 []]))] (.tup []) [(0,.var (.sl none 1 ((rowsL joinS l (nRows l.length)).map hsD))),(1,.var (.agg [.int ((l.length : Nat) : Int),.sl (some 38) 32 ((bwS l f).1.map hashD),.sl (some 4) 1 ((bwS l f).2.map D.bool)])),(2,.var (.sl none 1 ((flsL f (nRows l.length)).map flD))),(3,.var (.fn 25 [.ptr 0 0 [],.ptr 1 0 [],.ptr 2 0 [],.ptr 3 0 []]))] [] from bw_call (by omega) (by omega) (by omega)) (EvB.cons (gV 38 O) O O O (EvB.cons (kI 0 O) O O O EvB.nil)) O ⟨O,⟨O,⟨O,⟨O,trivial⟩⟩⟩⟩ ⟨O,⟨O,⟨O,⟨O,trivial⟩⟩⟩⟩ O O O O O O (nU O),tV [(4,_),(8,_)] [(9,.var _),(8,.var _),(7,.var _),(6,.var _),(4,.var _)] 41 O O O ?_⟩)
       refine W.seq ?_
       refine W.brwB 8 (d' := .agg [.int ((l.length : Nat) : Int),.sl none 32 ((bwS l f).1.map hashD),.sl none 1 ((bwS l f).2.map D.bool)]) (bx' := [(9,.var _),(8,.var _),(7,.var _),(6,.var _),(4,.var _)]) O (show (D.agg [.int ((l.length : Nat) : Int),.sl (some 38) 32 ((bwS l f).1.map hashD),.sl (some 4) 1 ((bwS l f).2.map D.bool)]).brw = _ from by simp only [D.brw,brws_eq,List.map_cons,List.map_nil]; rw [brw_map brw_hash,brw_map (fun _ => rfl)]) O ?_
       refine W.l0 3 [.y 40 _] [] [] [(4,_),(40,_)] [(9,.var _),(8,.var _),(7,.var _),(6,.var _),(4,.var _)] 41 ⟨aU (lU 8 O O O O O O O),trivial⟩ O O O O (⟨O,_,R.stZ (gU 4 O) (xU 4 O) O (gV 40 O) (by rfl) (by rfl) (by rfl) (by rfl) O,⟨O,_,R.asg (kI 0 O) O (nU O),tV [(4,_),(5,_)] [(9,.var _),(8,.var _),(7,.var _),(6,.var _),(4,.var _)] 41 O O O ?_⟩⟩)
       refine W.ret ?_
       exact Ends.many (.inr O) (.cons O O O (show LdT _ 25 3 true from inferInstance) (.cons O O O trivial .nil)) (by rw [bld_4 hz hc10 hc20]; rfl) (show [(4,false),(5,true)].Nodup by decide)

end Go.Sx

namespace Go.Sx
open Go.Proofs
abbrev CS := List Bool × List Hs × List Hs × List Nat
def ckLeaf (k : Nat) (f : Bool) (s : CS) : (Hs × Bool) × CS :=
 if s.2.1.length = 0 then ((zero32,false),s) else ((s.2.1[0]!,true),(s.1,s.2.1.drop 1,(if f = true then s.2.2.1 ++ [s.2.1[0]!] else s.2.2.1),(if f = true then s.2.2.2 ++ [k] else s.2.2.2)))
def ckW (w : List Nat) : Nat → Nat → CS → (Hs × Bool) × CS
 | 0,k,s => if s.1.length = 0 then ((zero32,false),s) else ckLeaf k s.1[0]! (s.1.drop 1,s.2)
 | r + 1,k,s => if s.1.length = 0 then ((zero32,false),s) else if s.1[0]! = false then ckLeaf k false (s.1.drop 1,s.2) else
  if (ckW w r (2 * k) (s.1.drop 1,s.2)).1.2 = false then ((zero32,false),(ckW w r (2 * k) (s.1.drop 1,s.2)).2) else
  if 2 * k + 1 = w[r]! then ((joinS (ckW w r (2 * k) (s.1.drop 1,s.2)).1.1 (ckW w r (2 * k) (s.1.drop 1,s.2)).1.1,true),(ckW w r (2 * k) (s.1.drop 1,s.2)).2) else
  ((joinS (ckW w r (2 * k) (s.1.drop 1,s.2)).1.1 (ckW w r (2 * k + 1) (ckW w r (2 * k) (s.1.drop 1,s.2)).2).1.1,(ckW w r (2 * k + 1) (ckW w r (2 * k) (s.1.drop 1,s.2)).2).1.2 && (ckW w r (2 * k) (s.1.drop 1,s.2)).1.1 != (ckW w r (2 * k + 1) (ckW w r (2 * k) (s.1.drop 1,s.2)).2).1.1),(ckW w r (2 * k + 1) (ckW w r (2 * k) (s.1.drop 1,s.2)).2).2)
structure CkOk (s : CS) (o : (Hs × Bool) × CS) : Prop where
 h : o.1.1.length = 32
 hs : allH o.2.2.1
 ids : o.2.2.2.1.length + o.2.1.length ≤ s.2.2.1.length + s.1.length
 at_ : o.2.2.2.2.length + o.2.1.length ≤ s.2.2.2.length + s.1.length
 hl : o.2.2.1.length ≤ s.2.1.length
 all : allH s.2.2.1 → allH o.2.2.2.1
theorem ck_mk {s st : CS} {h : Hs} {b : Bool} (h1 : h.length = 32) (h2 : allH st.2.1) (h3 : st.2.2.1.length + st.1.length ≤ s.2.2.1.length + s.1.length) (h4 : st.2.2.2.length + st.1.length ≤ s.2.2.2.length + s.1.length) (h5 : st.2.1.length ≤ s.2.1.length)
 (h6 : allH s.2.2.1 → allH st.2.2.1) : CkOk s ((h,b),st) := ⟨h1,h2,h3,h4,h5,h6⟩
theorem zero32_len : zero32.length = 32 := rfl
theorem allH.drop1 {l : List Hs} (h : allH l) (n : Nat) : allH (l.drop n) := fun x hx => h x (List.mem_of_mem_drop hx)
theorem ckLeaf_ok {k : Nat} {f : Bool} {s : CS} (hs : allH s.2.1) (s0 : CS) (h1 : s.1.length + 1 ≤ s0.1.length) (h2 : s.2 = s0.2) : CkOk s0 (ckLeaf k f s) := by
 unfold ckLeaf
 obtain ⟨fl,hh,ids,at_⟩ := s
 obtain ⟨fl0,hh0,ids0,at0⟩ := s0
 simp only [Prod.mk.injEq] at h2
 obtain ⟨rfl,rfl,rfl⟩ := h2
 simp only at hs h1 ⊢
 split
 · exact ⟨rfl,hs,by simp only; omega,by simp only; omega,Nat.le_refl _,fun h => h⟩
 · rename_i hne
   refine ⟨hs.get (by omega),hs.drop1 1, ?_, ?_,by simp, ?_⟩
   · by_cases hf : f = true
     · simp only [if_pos hf,List.length_append,List.length_cons,List.length_nil]; omega
     · simp only [if_neg hf]; omega
   · by_cases hf : f = true
     · simp only [if_pos hf,List.length_append,List.length_cons,List.length_nil]; omega
     · simp only [if_neg hf]; omega
   · intro h
     show allH (if f = true then _ else _)
     split
     · intro x hx
       rcases List.mem_append.1 hx with h3 | h3
       · exact h x h3
       · rw [List.mem_singleton.1 h3]; exact hs.get (by omega)
     · exact h
theorem ckW_ok (w : List Nat) : ∀ (r k : Nat) (s : CS),allH s.2.1 → CkOk s (ckW w r k s) := by
 intro r
 induction r with
 | zero =>
  intro k s hs
  simp only [ckW]
  split
  · exact ⟨rfl,hs,Nat.le_refl _,Nat.le_refl _,Nat.le_refl _,fun h => h⟩
  · exact ckLeaf_ok (s := (s.1.drop 1,s.2)) hs s (by show (s.1.drop 1).length + 1 ≤ s.1.length; rw [List.length_drop]; omega) rfl
 | succ r ih =>
  intro k s hs
  simp only [ckW]
  split
  · exact ⟨rfl,hs,Nat.le_refl _,Nat.le_refl _,Nat.le_refl _,fun h => h⟩
  · split
    · exact ckLeaf_ok (s := (s.1.drop 1,s.2)) hs s (by show (s.1.drop 1).length + 1 ≤ s.1.length; rw [List.length_drop]; omega) rfl
    · have hx := ih (2 * k) (s.1.drop 1,s.2) hs
      generalize ckW w r (2 * k) (s.1.drop 1,s.2) = X at hx ⊢
      have hy := ih (2 * k + 1) X.2 hx.hs
      generalize ckW w r (2 * k + 1) X.2 = Y at hy ⊢
      have h0 : (s.1.drop 1).length = s.1.length - 1 := List.length_drop
      have h1 : X.2.2.2.1.length + X.2.1.length ≤ s.2.2.1.length + (s.1.drop 1).length := hx.ids
      have h2 : X.2.2.2.2.length + X.2.1.length ≤ s.2.2.2.length + (s.1.drop 1).length := hx.at_
      have h3 : X.2.2.1.length ≤ s.2.1.length := hx.hl
      have h4 := hy.ids
      have h5 := hy.at_
      have h6 := hy.hl
      split
      · exact ck_mk zero32_len hx.hs (by omega) (by omega) h3 hx.all
      · split
        · exact ck_mk (joinS_len _ _) hx.hs (by omega) (by omega) h3 hx.all
        · exact ck_mk (joinS_len _ _) hy.hs (by omega) (by omega) (by omega) (fun h => hy.all (hx.all h))
abbrev CwX (w : List Nat) (fl : List Bool) (hs ids : List Hs) (at_ : List Nat) : List (Nat × Bx) :=
 [(0,.var (.sl none 1 (fl.map D.bool))),(1,.var (.sl none 32 (hs.map hashD))),(2,.var (.sl (some 38) 32 (ids.map hashD))),(3,.var (.sl (some 3) 1 (at_.map natD))),(4,.var (.fn 29 [.ptr 0 0 [],.ptr 1 0 [],.ptr 2 0 [],.ptr 3 0 [],.ptr 4 0 [],.ptr 5 0 []])),(5,.var (.sl none 1 (w.map natD)))]
abbrev CwP (w : List Nat) (row k : Nat) (fl : List Bool) (hs ids : List Hs) (at_ : List Nat) : Prop :=
 FnB Tryd.prog gl 29 [.int ((row : Nat) : Int),.int ((k : Nat) : Int),.ptr 0 0 [],.ptr 1 0 [],.ptr 2 0 [],.ptr 3 0 [],.ptr 4 0 [],.ptr 5 0 []] (CwX w fl hs ids at_)
  (.tup [hashD (ckW w row k (fl,hs,ids,at_)).1.1,.bool (ckW w row k (fl,hs,ids,at_)).1.2])
  (CwX w (ckW w row k (fl,hs,ids,at_)).2.1 (ckW w row k (fl,hs,ids,at_)).2.2.1 (ckW w row k (fl,hs,ids,at_)).2.2.2.1 (ckW w row k (fl,hs,ids,at_)).2.2.2.2) []
section
variable {w : List Nat} {r k : Nat} {fl fl1 fl2 : List Bool} {hs hs1 hs2 ids ids1 ids2 : List Hs} {at_ at1 at2 : List Nat} {a b : Hs} {x y : Bool}
theorem ck_1 (h : fl.length = 0) : ckW w r k (fl,hs,ids,at_) = ((zero32,false),fl,hs,ids,at_) := by cases r <;> rw [ckW,if_pos h]
theorem ck_0 (h : ¬ fl.length = 0) : ckW w 0 k (fl,hs,ids,at_) = ckLeaf k fl[0]! (fl.drop 1,hs,ids,at_) := by rw [ckW,if_neg h]
theorem ck_l (h : ¬ fl.length = 0) (h2 : fl[0]! = false) : ckW w (r + 1) k (fl,hs,ids,at_) = ckLeaf k fl[0]! (fl.drop 1,hs,ids,at_) := by rw [ckW,if_neg h,if_pos h2,h2]
theorem cl_1 {f : Bool} (h : hs.length = 0) : ckLeaf k f (fl,hs,ids,at_) = ((zero32,false),fl,hs,ids,at_) := if_pos h
theorem cl_t {f : Bool} (h : ¬ hs.length = 0) (h2 : f = true) : ckLeaf k f (fl,hs,ids,at_) = ((hs[0]!,true),fl,hs.drop 1,ids ++ [hs[0]!],at_ ++ [k]) := by rw [ckLeaf,if_neg h,if_pos h2,if_pos h2]
theorem cl_f {f : Bool} (h : ¬ hs.length = 0) (h2 : f = false) : ckLeaf k f (fl,hs,ids,at_) = ((hs[0]!,true),fl,hs.drop 1,ids,at_) := by rw [ckLeaf,if_neg h,if_neg (by simp [h2]),if_neg (by simp [h2])]
theorem ck_n (h : ¬ fl.length = 0) (h2 : fl[0]! = true) (hx : ckW w r (2 * k) (fl.drop 1,hs,ids,at_) = ((a,x),fl1,hs1,ids1,at1)) (hn : x = false) : ckW w (r + 1) k (fl,hs,ids,at_) = ((zero32,false),fl1,hs1,ids1,at1) := by
 rw [ckW,if_neg h,if_neg (by simp [h2])]
 simp only [hx]
 rw [if_pos hn]
theorem ck_s (h : ¬ fl.length = 0) (h2 : fl[0]! = true) (hx : ckW w r (2 * k) (fl.drop 1,hs,ids,at_) = ((a,x),fl1,hs1,ids1,at1)) (hn : x = true) (hw : 2 * k + 1 = w[r]!) : ckW w (r + 1) k (fl,hs,ids,at_) = ((joinS a a,true),fl1,hs1,ids1,at1) := by
 rw [ckW,if_neg h,if_neg (by simp [h2])]
 simp only [hx]
 rw [if_neg (by simp [hn]),if_pos hw]
theorem ck_b (h : ¬ fl.length = 0) (h2 : fl[0]! = true) (hx : ckW w r (2 * k) (fl.drop 1,hs,ids,at_) = ((a,x),fl1,hs1,ids1,at1)) (hn : x = true) (hw : ¬ 2 * k + 1 = w[r]!) (hy : ckW w r (2 * k + 1) (fl1,hs1,ids1,at1) = ((b,y),fl2,hs2,ids2,at2)) :
 ckW w (r + 1) k (fl,hs,ids,at_) = ((joinS a b,y && a != b),fl2,hs2,ids2,at2) := by
 rw [ckW,if_neg h,if_neg (by simp [h2])]
 simp only [hx,hy]
 rw [if_neg (by simp [hn]),if_neg hw]
end
end Go.Sx

namespace Go.Sx
open Go.Proofs
theorem cwalk0 (w : List Nat) (hrow : 0 ≤ w.length) (hw : w.length ≤ 20) (k : Nat) (fl : List Bool) (hs ids : List Hs) (at_ : List Nat) (hk : (k + 1) * 2 ^ (0) ≤ 100000) (hh : allH hs) (hl0 : hs.length ≤ 1000000) (hi : ids.length + fl.length ≤ 100000) (ha : at_.length + fl.length ≤ 100000) : FnB Tryd.prog gl 29 [.int ((0 : Nat) : Int),.int ((k : Nat) : Int),.ptr 0 0 [],.ptr 1 0 [],.ptr 2 0 [],.ptr 3 0 [],.ptr 4 0 [],.ptr 5 0 []] [(0,.var (.sl none 1 (fl.map D.bool))),(1,.var (.sl none 32 (hs.map hashD))),(2,.var (.sl (some 38) 32 (ids.map hashD))),(3,.var (.sl (some 3) 1 (at_.map natD))),(4,.var (.fn 29 [.ptr 0 0 [],.ptr 1 0 [],.ptr 2 0 [],.ptr 3 0 [],.ptr 4 0 [],.ptr 5 0 []])),(5,.var (.sl none 1 (w.map natD)))] (.tup [hashD (ckW w 0 k (fl,hs,ids,at_)).1.1,.bool (ckW w 0 k (fl,hs,ids,at_)).1.2]) [(0,.var (.sl none 1 ((ckW w 0 k (fl,hs,ids,at_)).2.1.map D.bool))),(1,.var (.sl none 32 ((ckW w 0 k (fl,hs,ids,at_)).2.2.1.map hashD))),(2,.var (.sl (some 38) 32 ((ckW w 0 k (fl,hs,ids,at_)).2.2.2.1.map hashD))),(3,.var (.sl (some 3) 1 ((ckW w 0 k (fl,hs,ids,at_)).2.2.2.2.map natD))),(4,.var (.fn 29 [.ptr 0 0 [],.ptr 1 0 [],.ptr 2 0 [],.ptr 3 0 [],.ptr 4 0 [],.ptr 5 0 []])),(5,.var (.sl none 1 (w.map natD)))] [] := by
 refine FnB.of (n := 92) (ids := [0,1,2,3,4,5]) Tryd.func29 rfl rfl rfl (nU rfl) fun C hC hD => ?_
 refine W.seq ?_
 refine W.l0 2 [] [] [] [(0,_),(1,_),(2,_),(3,_),(4,_),(5,_),(6,_),(7,_)] [(0,.var _),(1,.var _),(2,.var _),(3,.var _),(4,.var _),(5,.var _)] 92 trivial O O O O (⟨O,_,R.alloc O (nU O),⟨O,_,R.asg (kB false O) O (nU O),tV [(0,_),(1,_),(2,_),(3,_),(4,_),(5,_),(6,_),(7,_),(10,_)] [(10,.var _),(0,.var _),(1,.var _),(2,.var _),(3,.var _),(4,.var _),(5,.var _)] 92 O O O ?_⟩⟩)
 refine W.seq ?_
 refine W.seq ?_
 refine W.l0 3 [.y 15 _,.y 16 _,.y 17 _] [] [] [(0,_),(1,_),(2,_),(3,_),(4,_),(5,_),(6,_),(7,_),(10,_),(17,_)] [(10,.var _),(0,.var _),(1,.var _),(2,.var _),(3,.var _),(4,.var _),(5,.var _)] 92 ⟨aU (lU 2 O O O O O O O),aU fun _ _ H K => R.lenE (SC.sl (K 15 _ O)) (List.length_map _) H,aU fun _ _ H K => R.eqlN (fl.length) (0) (eU K 16 O) (kI 0 O) H,trivial⟩ O O O O (tU O ?_)
 refine W.condD O (fun hc17 => ?_) (fun hc17 => ?_)
 · refine W.seq ?_
   refine W.l0 3 [.y 18 _] [] [] [(10,_),(18,_)] [(10,.var _),(0,.var _),(1,.var _),(2,.var _),(3,.var _),(4,.var _),(5,.var _)] 92 ⟨aU (lU 10 O O O O O O O),trivial⟩ O O O O (⟨O,_,R.stZ (gU 10 O) (xU 10 O) O (gV 18 O) (by rfl) (by rfl) (by rfl) (by rfl) O,⟨O,_,R.asg (kB false O) O (nU O),tV [(10,_),(11,_)] [(10,.var _),(0,.var _),(1,.var _),(2,.var _),(3,.var _),(4,.var _),(5,.var _)] 92 O O O ?_⟩⟩)
   refine W.ret ?_
   exact EndsB.many' (.inr O) (.cons O O (show LdT _ 38 32 true from inferInstance) (.cons O O trivial .nil)) (by rw [ck_1 hc17] <;> rfl) (show [(10,false),(11,true)].Nodup by decide) O O (by rw [ck_1 hc17] <;> rfl) ⟨O,⟨O,⟨O,⟨O,⟨O,⟨O,trivial⟩⟩⟩⟩⟩⟩ O
 · refine W.skip ?_
   refine W.seq ?_
   refine W.l0 4 [.y 19 _,.y 20 _,.y 21 _,.y 12 _] [] [] [(0,_),(1,_),(2,_),(3,_),(4,_),(5,_),(6,_),(7,_),(10,_),(12,_)] [(10,.var _),(0,.var _),(1,.var _),(2,.var _),(3,.var _),(4,.var _),(5,.var _)] 92 ⟨aU (lU 2 O O O O O O O),aU fun _ _ H K => R.idxN (0) (SC.sl (K 19 _ O)) (evoI (kI 0 O)) O bU H (by decide),aU fun _ _ H K => R.ldE (K 20 _ O) (SC.sl (K 19 _ O)) (map_get! (l := fl) bU) O O O O H,aU fun _ _ H K => R.asg (eU K 21 O) O H,trivial⟩ O O O O (tU O ?_)
   refine W.seq ?_
   refine W.l0 3 [.y 22 _,.y 23 _] [] [] [(0,_),(1,_),(2,_),(3,_),(4,_),(5,_),(6,_),(7,_),(10,_),(12,_),(23,_)] [(10,.var _),(0,.var _),(1,.var _),(2,.var _),(3,.var _),(4,.var _),(5,.var _)] 92 ⟨aU (lU 2 O O O O O O O),aU fun _ _ H K => R.slIN (1) (fl.length) ((fl.length - 1)) (eU K 22 O) (evoI (kI 1 O)) O O (by simp) bU bU O (show _ = (fl.drop 1).map D.bool from by rw [List.take_of_length_le (by simp)]; simp) H,trivial⟩ O O O O (⟨O,_,R.stZ (gU 2 O) (xU 0 O) O (gV 23 O) (by rfl) (by rfl) (by rfl) (by rfl) O,tV [(0,_),(1,_),(3,_),(4,_),(5,_),(6,_),(7,_),(10,_),(12,_)] [(10,.var _),(0,.var _),(1,.var _),(2,.var _),(3,.var _),(4,.var _),(5,.var _)] 92 O O O ?_⟩)
   refine W.seq ?_
   refine W.seq ?_
   refine W.l0 6 [.y 24 _,.y 25 _,.y 26 _,.x 27,.x 28,.y 29 _] [] [] [(0,_),(1,_),(3,_),(4,_),(5,_),(6,_),(7,_),(10,_),(12,_),(29,_)] [(10,.var _),(0,.var _),(1,.var _),(2,.var _),(3,.var _),(4,.var _),(5,.var _)] 92 ⟨mU 0 O O,aU fun _ _ H K => R.eqlN (0) (0) (eU K 24 O) (kI 0 O) H,mU 25 O O,aF O O (gT (decide_eq_true O) O),aF O O (gT (decide_eq_true O) O),aU fun _ _ H K => R.pickT (eU K 26 O) (decide_eq_true O) (kB true O) O H,trivial⟩ O O O O (tU O ?_)
   refine W.condT O (O) ?_
   refine W.seq ?_
   refine W.seq ?_
   refine W.l0 3 [.y 30 _,.y 31 _,.y 32 _] [] [] [(1,_),(3,_),(4,_),(5,_),(10,_),(12,_),(32,_)] [(10,.var _),(0,.var _),(1,.var _),(2,.var _),(3,.var _),(4,.var _),(5,.var _)] 92 ⟨aU (lU 3 O O O O O O O),aU fun _ _ H K => R.lenE (SC.sl (K 30 _ O)) (List.length_map _) H,aU fun _ _ H K => R.eqlN (hs.length) (0) (eU K 31 O) (kI 0 O) H,trivial⟩ O O O O (tU O ?_)
   refine W.condD O (fun hc32 => ?_) (fun hc32 => ?_)
   · refine W.seq ?_
     refine W.l0 3 [.y 33 _] [] [] [(10,_),(33,_)] [(10,.var _),(0,.var _),(1,.var _),(2,.var _),(3,.var _),(4,.var _),(5,.var _)] 92 ⟨aU (lU 10 O O O O O O O),trivial⟩ O O O O (⟨O,_,R.stZ (gU 10 O) (xU 10 O) O (gV 33 O) (by rfl) (by rfl) (by rfl) (by rfl) O,⟨O,_,R.asg (kB false O) O (nU O),tV [(10,_),(11,_)] [(10,.var _),(0,.var _),(1,.var _),(2,.var _),(3,.var _),(4,.var _),(5,.var _)] 92 O O O ?_⟩⟩)
     refine W.ret ?_
     exact EndsB.many' (.inr O) (.cons O O (show LdT _ 38 32 true from inferInstance) (.cons O O trivial .nil)) (by rw [ck_0 hc17,cl_1 hc32] <;> rfl) (show [(10,false),(11,true)].Nodup by decide) O O (by rw [ck_0 hc17,cl_1 hc32] <;> rfl) ⟨O,⟨O,⟨O,⟨O,⟨O,⟨O,trivial⟩⟩⟩⟩⟩⟩ O
   · refine W.skip ?_
     refine W.seq ?_
     refine W.drawE (m := 6) (an := [0,1,3,0,8,7,63]) (its := [.y 34 _,.y 35 _,.y 36 _,.y 37 _,.y 38 _,⟨97,.dead,true⟩]) (ks := [(5,97)]) (kk := []) (efs := [(5,[(10,.var _)])]) (live := [1,3,4,5,10,12,38]) (env' := [(1,_),(3,_),(4,_),(5,_),(10,_),(12,_),(38,_)]) (nd := 40) (bx1 := [(10,.var _),(0,.var _),(1,.var _),(2,.var _),(3,.var _),(4,.var _),(5,.var _)]) hP (by decide) O ⟨⟨104,O⟩,nU O,O,O,O,O⟩ (          ⟨⟨O,nU O,O,fun _ τ hb ht hτ => R.ldP (hτ 3 _ O) (hb 1 _ O) O O O O ht⟩,⟨⟨O,nU O,O,fun _ τ hb ht hτ => R.idxN (0) (SC.sl (hτ 34 _ O)) (evoI (kI 0 O)) O bU ht (by decide)⟩,⟨⟨O,nU O,O,fun _ τ hb ht hτ => R.ldE (hτ 35 _ O) (SC.sl (hτ 34 _ O)) (map_get! (l := hs) bU) O O O O ht⟩,⟨⟨O,nU O,O,fun _ τ hb ht hτ => R.ldP (hτ 3 _ O) (hb 1 _ O) O O O O ht⟩,⟨⟨O,nU O,O,fun _ τ hb ht hτ => R.slIN (1) (hs.length) ((hs.length - 1)) (evt (hτ 37 _ O)) (evoI (kI 1 O)) O O (by simp) bU bU O (show _ = (hs.drop 1).map hashD from by rw [List.take_of_length_le (by simp)]; simp) ht⟩,⟨⟨O,O,O,(SpE.st (p := 10) (id := 10) O O O (fun τ hτ => (evt (hτ 36 _ O))) (by rfl) (by rfl) (by rfl) (by rfl) O)⟩,trivial⟩⟩⟩⟩⟩⟩) O O O (n' := 92) O (⟨O,_,R.stZ (gU 3 O) (xU 1 O) O (gV 38 O) (by rfl) (by rfl) (by rfl) (by rfl) O,⟨[1,4,5,10,12],[(1,_),(4,_),(5,_),(10,_),(12,_)],[(10,.var _),(0,.var _),(1,.var _),(2,.var _),(3,.var _),(4,.var _),(5,.var _)],92,O,O,O, ?_⟩⟩)
     refine W.seq ?_
     refine W.seq ?_
     refine W.l0 1 [.y 39 _] [] [] [(1,_),(4,_),(5,_),(10,_),(39,_)] [(10,.var _),(0,.var _),(1,.var _),(2,.var _),(3,.var _),(4,.var _),(5,.var _)] 92 ⟨mU 12 O O,trivial⟩ O O O O (tU O ?_)
     refine W.cond O (fun hc39 => ?_) (fun hc39 => ?_)
     · refine W.drawC (m := 7) (an := [0,0,2,7,0,0,32,127,255,511]) (its := [.y 40 _,.y 41 _,.y 42 _,.y 43 _,.y 44 _,.y 45 _,.y 46 _]) (ks := [(3,40)]) (kk := [(3,40)]) (live := [4,5,10,43,44,46]) (env' := [(4,_),(5,_),(10,_),(43,_),(44,_),(46,_)]) (bx1 := [(10,.var _),(0,.var _),(1,.var _),(2,.var _),(3,.var _),(4,.var _),(5,.var _)]) [(10,_),(0,_),(1,_),(3,_),(4,_),(5,_)] 3 [2] hP (by decide) O ⟨nU O,O,O,O⟩ ⟨O,⟨O,⟨O,⟨O,⟨O,⟨O,trivial⟩⟩⟩⟩⟩⟩ (            ⟨⟨O,O,fun _ τ hb ht hτ => R.ldO (hτ 4 _ O) (hb 2 _ O) O ht⟩,⟨⟨O,O,fun _ τ hb ht hτ => R.ldP (hτ 10 _ O) (hb 10 _ O) O O O O ht⟩,⟨⟨O,O,fun _ τ hb ht hτ => R.bslE (z := 32) (.cons (evt (hτ 41 _ O)) .nil) ⟨⟨O,O,O⟩,trivial⟩ O ht (by decide)⟩,⟨⟨O,O,O,(SpC.appB (s := 40) O O O O O O (fun τ hb hτ => (SrcO.sc (SC.sl (hτ 42 _ O O O)) (pur_lit O))) (show _ = ((ids ++ [hs[0]!]).map hashD) from (by rw [List.map_append]; rfl)) bU (by decide) (by decide) O)⟩,⟨⟨O,O,fun _ τ hb ht hτ => R.ldO (hτ 5 _ O) (hb 3 _ O) O ht⟩,⟨⟨O,O,fun _ τ hb ht hτ => R.mov (evt (hτ 1 _ O)) O ht⟩,⟨⟨O,O,fun _ τ hb ht hτ => R.bslE (z := 1) (.cons (evt (hτ 45 _ O)) .nil) ⟨⟨O,O,O⟩,trivial⟩ O ht (by decide)⟩,trivial⟩⟩⟩⟩⟩⟩⟩) O O O (nU O) ⟨O,⟨O,⟨O,⟨O,⟨O,⟨O,trivial⟩⟩⟩⟩⟩⟩ O (n' := 92) O (⟨O,_,R.appB (gU 44 O) (xU 3 O) O (gU 44 O) (SrcO.sc (SC.sl (gU 46 O)) (pur_lit O)) (show _ = ((at_ ++ [k]).map natD) from (by rw [List.map_append]; rfl)) bU (nU O) (by decide) (by decide),⟨O,_,R.stOZ (gU 4 O) (xU 2 O) O (gU 43 O) O O (by rfl) (by rfl) O O,⟨O,_,R.stOZ (gU 5 O) (xU 3 O) O (gU 47 O) O O (by rfl) (by rfl) O O,⟨[10],[(10,_)],[(10,.var _),(0,.var _),(1,.var _),(2,.var _),(3,.var _),(4,.var _),(5,.var _)],92,O,O,O, ?_⟩⟩⟩⟩)
       refine W.seq ?_
       refine W.l0 3 [.y 48 _] [] [] [(10,_),(48,_)] [(10,.var _),(0,.var _),(1,.var _),(2,.var _),(3,.var _),(4,.var _),(5,.var _)] 92 ⟨aU (lU 10 O O O O O O O),trivial⟩ O O O O (⟨O,_,R.stZ (gU 10 O) (xU 10 O) O (gV 48 O) (by rfl) (by rfl) (by rfl) (by rfl) O,⟨O,_,R.asg (kB true O) O (nU O),tV [(10,_),(11,_)] [(10,.var _),(0,.var _),(1,.var _),(2,.var _),(3,.var _),(4,.var _),(5,.var _)] 92 O O O ?_⟩⟩)
       refine W.ret ?_
       exact EndsB.many' (.inr O) (.cons O O (show LdT _ 38 32 true from inferInstance) (.cons O O trivial .nil)) (by rw [ck_0 hc17,cl_t hc32 hc39] <;> rfl) (show [(10,false),(11,true)].Nodup by decide) O O (by rw [ck_0 hc17,cl_t hc32 hc39] <;> rfl) ⟨O,⟨O,⟨O,⟨O,⟨O,⟨O,trivial⟩⟩⟩⟩⟩⟩ O
     · refine W.skip ?_
       refine W.seq ?_
       refine W.l0 3 [.y 48 _] [] [] [(10,_),(48,_)] [(10,.var _),(0,.var _),(1,.var _),(2,.var _),(3,.var _),(4,.var _),(5,.var _)] 92 ⟨aU (lU 10 O O O O O O O),trivial⟩ O O O O (⟨O,_,R.stZ (gU 10 O) (xU 10 O) O (gV 48 O) (by rfl) (by rfl) (by rfl) (by rfl) O,⟨O,_,R.asg (kB true O) O (nU O),tV [(10,_),(11,_)] [(10,.var _),(0,.var _),(1,.var _),(2,.var _),(3,.var _),(4,.var _),(5,.var _)] 92 O O O ?_⟩⟩)
       refine W.ret ?_
       exact EndsB.many' (.inr O) (.cons O O (show LdT _ 38 32 true from inferInstance) (.cons O O trivial .nil)) (by rw [ck_0 hc17,cl_f hc32 hc39] <;> rfl) (show [(10,false),(11,true)].Nodup by decide) O O (by rw [ck_0 hc17,cl_f hc32 hc39] <;> rfl) ⟨O,⟨O,⟨O,⟨O,⟨O,⟨O,trivial⟩⟩⟩⟩⟩⟩ O

set_option maxHeartbeats 2000000 in
theorem cwalk1 (w : List Nat) (r : Nat) (hrow : r + 1 ≤ w.length) (hw : w.length ≤ 20) (k : Nat) (fl : List Bool) (hs ids : List Hs) (at_ : List Nat) (hk : (k + 1) * 2 ^ (r + 1) ≤ 100000) (hh : allH hs) (hl0 : hs.length ≤ 1000000) (hi : ids.length + fl.length ≤ 100000) (ha : at_.length + fl.length ≤ 100000) (ih : ∀ (k : Nat) (fl : List Bool) (hs ids : List Hs) (at_ : List Nat),(k + 1) * 2 ^ r ≤ 100000 → allH hs → hs.length ≤ 1000000 → ids.length + fl.length ≤ 100000 → at_.length + fl.length ≤ 100000 → CwP w r k fl hs ids at_) : FnB Tryd.prog gl 29 [.int ((r + 1 : Nat) : Int),.int ((k : Nat) : Int),.ptr 0 0 [],.ptr 1 0 [],.ptr 2 0 [],.ptr 3 0 [],.ptr 4 0 [],.ptr 5 0 []] [(0,.var (.sl none 1 (fl.map D.bool))),(1,.var (.sl none 32 (hs.map hashD))),(2,.var (.sl (some 38) 32 (ids.map hashD))),(3,.var (.sl (some 3) 1 (at_.map natD))),(4,.var (.fn 29 [.ptr 0 0 [],.ptr 1 0 [],.ptr 2 0 [],.ptr 3 0 [],.ptr 4 0 [],.ptr 5 0 []])),(5,.var (.sl none 1 (w.map natD)))] (.tup [hashD (ckW w (r + 1) k (fl,hs,ids,at_)).1.1,.bool (ckW w (r + 1) k (fl,hs,ids,at_)).1.2]) [(0,.var (.sl none 1 ((ckW w (r + 1) k (fl,hs,ids,at_)).2.1.map D.bool))),(1,.var (.sl none 32 ((ckW w (r + 1) k (fl,hs,ids,at_)).2.2.1.map hashD))),(2,.var (.sl (some 38) 32 ((ckW w (r + 1) k (fl,hs,ids,at_)).2.2.2.1.map hashD))),(3,.var (.sl (some 3) 1 ((ckW w (r + 1) k (fl,hs,ids,at_)).2.2.2.2.map natD))),(4,.var (.fn 29 [.ptr 0 0 [],.ptr 1 0 [],.ptr 2 0 [],.ptr 3 0 [],.ptr 4 0 [],.ptr 5 0 []])),(5,.var (.sl none 1 (w.map natD)))] [] := by
 refine FnB.of (n := 92) (ids := [0,1,2,3,4,5]) Tryd.func29 rfl rfl rfl (nU rfl) fun C hC hD => ?_
 refine W.seq ?_
 refine W.l0 2 [] [] [] [(0,_),(1,_),(2,_),(3,_),(4,_),(5,_),(6,_),(7,_)] [(0,.var _),(1,.var _),(2,.var _),(3,.var _),(4,.var _),(5,.var _)] 92 trivial O O O O (⟨O,_,R.alloc O (nU O),⟨O,_,R.asg (kB false O) O (nU O),tV [(0,_),(1,_),(2,_),(3,_),(4,_),(5,_),(6,_),(7,_),(10,_)] [(10,.var _),(0,.var _),(1,.var _),(2,.var _),(3,.var _),(4,.var _),(5,.var _)] 92 O O O ?_⟩⟩)
 refine W.seq ?_
 refine W.seq ?_
 refine W.l0 3 [.y 15 _,.y 16 _,.y 17 _] [] [] [(0,_),(1,_),(2,_),(3,_),(4,_),(5,_),(6,_),(7,_),(10,_),(17,_)] [(10,.var _),(0,.var _),(1,.var _),(2,.var _),(3,.var _),(4,.var _),(5,.var _)] 92 ⟨aU (lU 2 O O O O O O O),aU fun _ _ H K => R.lenE (SC.sl (K 15 _ O)) (List.length_map _) H,aU fun _ _ H K => R.eqlN (fl.length) (0) (eU K 16 O) (kI 0 O) H,trivial⟩ O O O O (tU O ?_)
 refine W.condD O (fun hc17 => ?_) (fun hc17 => ?_)
 · refine W.seq ?_
   refine W.l0 3 [.y 18 _] [] [] [(10,_),(18,_)] [(10,.var _),(0,.var _),(1,.var _),(2,.var _),(3,.var _),(4,.var _),(5,.var _)] 92 ⟨aU (lU 10 O O O O O O O),trivial⟩ O O O O (⟨O,_,R.stZ (gU 10 O) (xU 10 O) O (gV 18 O) (by rfl) (by rfl) (by rfl) (by rfl) O,⟨O,_,R.asg (kB false O) O (nU O),tV [(10,_),(11,_)] [(10,.var _),(0,.var _),(1,.var _),(2,.var _),(3,.var _),(4,.var _),(5,.var _)] 92 O O O ?_⟩⟩)
   refine W.ret ?_
   exact EndsB.many' (.inr O) (.cons O O (show LdT _ 38 32 true from inferInstance) (.cons O O trivial .nil)) (by rw [ck_1 hc17] <;> rfl) (show [(10,false),(11,true)].Nodup by decide) O O (by rw [ck_1 hc17] <;> rfl) ⟨O,⟨O,⟨O,⟨O,⟨O,⟨O,trivial⟩⟩⟩⟩⟩⟩ O
 · refine W.skip ?_
   refine W.seq ?_
   refine W.l0 4 [.y 19 _,.y 20 _,.y 21 _,.y 12 _] [] [] [(0,_),(1,_),(2,_),(3,_),(4,_),(5,_),(6,_),(7,_),(10,_),(12,_)] [(10,.var _),(0,.var _),(1,.var _),(2,.var _),(3,.var _),(4,.var _),(5,.var _)] 92 ⟨aU (lU 2 O O O O O O O),aU fun _ _ H K => R.idxN (0) (SC.sl (K 19 _ O)) (evoI (kI 0 O)) O bU H (by decide),aU fun _ _ H K => R.ldE (K 20 _ O) (SC.sl (K 19 _ O)) (map_get! (l := fl) bU) O O O O H,aU fun _ _ H K => R.asg (eU K 21 O) O H,trivial⟩ O O O O (tU O ?_)
   refine W.seq ?_
   refine W.l0 3 [.y 22 _,.y 23 _] [] [] [(0,_),(1,_),(2,_),(3,_),(4,_),(5,_),(6,_),(7,_),(10,_),(12,_),(23,_)] [(10,.var _),(0,.var _),(1,.var _),(2,.var _),(3,.var _),(4,.var _),(5,.var _)] 92 ⟨aU (lU 2 O O O O O O O),aU fun _ _ H K => R.slIN (1) (fl.length) ((fl.length - 1)) (eU K 22 O) (evoI (kI 1 O)) O O (by simp) bU bU O (show _ = (fl.drop 1).map D.bool from by rw [List.take_of_length_le (by simp)]; simp) H,trivial⟩ O O O O (⟨O,_,R.stZ (gU 2 O) (xU 0 O) O (gV 23 O) (by rfl) (by rfl) (by rfl) (by rfl) O,tV [(0,_),(1,_),(3,_),(4,_),(5,_),(6,_),(7,_),(10,_),(12,_)] [(10,.var _),(0,.var _),(1,.var _),(2,.var _),(3,.var _),(4,.var _),(5,.var _)] 92 O O O ?_⟩)
   refine W.seq ?_
   refine W.seq ?_
   refine W.l0 6 [.y 24 _,.y 25 _,.y 26 _,.y 27 _,.y 28 _,.y 29 _] [] [] [(0,_),(1,_),(3,_),(4,_),(5,_),(6,_),(7,_),(10,_),(12,_),(29,_)] [(10,.var _),(0,.var _),(1,.var _),(2,.var _),(3,.var _),(4,.var _),(5,.var _)] 92 ⟨mU 0 O O,aU fun _ _ H K => R.eqlN (r + 1) (0) (eU K 24 O) (kI 0 O) H,mU 25 O O,aW O O (gF (decide_eq_false (Nat.succ_ne_zero _)) O) fun _ _ H K => R.mov (eU K 12 O) O H,aW O O (gF (decide_eq_false (Nat.succ_ne_zero _)) O) fun _ _ H K => R.un (eU K 27 O) O H,aU fun _ _ H K => R.pickF (eU K 26 O) (decide_eq_false (Nat.succ_ne_zero _)) (eU K 28 O) O H,trivial⟩ O O O O (tU O ?_)
   refine W.cond O (fun hc29 => ?_) (fun hc29 => ?_)
   · refine W.seq ?_
     refine W.seq ?_
     refine W.l0 3 [.y 30 _,.y 31 _,.y 32 _] [] [] [(1,_),(3,_),(4,_),(5,_),(10,_),(12,_),(32,_)] [(10,.var _),(0,.var _),(1,.var _),(2,.var _),(3,.var _),(4,.var _),(5,.var _)] 92 ⟨aU (lU 3 O O O O O O O),aU fun _ _ H K => R.lenE (SC.sl (K 30 _ O)) (List.length_map _) H,aU fun _ _ H K => R.eqlN (hs.length) (0) (eU K 31 O) (kI 0 O) H,trivial⟩ O O O O (tU O ?_)
     refine W.condD O (fun hc32 => ?_) (fun hc32 => ?_)
     · refine W.seq ?_
       refine W.l0 3 [.y 33 _] [] [] [(10,_),(33,_)] [(10,.var _),(0,.var _),(1,.var _),(2,.var _),(3,.var _),(4,.var _),(5,.var _)] 92 ⟨aU (lU 10 O O O O O O O),trivial⟩ O O O O (⟨O,_,R.stZ (gU 10 O) (xU 10 O) O (gV 33 O) (by rfl) (by rfl) (by rfl) (by rfl) O,⟨O,_,R.asg (kB false O) O (nU O),tV [(10,_),(11,_)] [(10,.var _),(0,.var _),(1,.var _),(2,.var _),(3,.var _),(4,.var _),(5,.var _)] 92 O O O ?_⟩⟩)
       refine W.ret ?_
       exact EndsB.many' (.inr O) (.cons O O (show LdT _ 38 32 true from inferInstance) (.cons O O trivial .nil)) (by rw [ck_l hc17 (by simpa using hc29),cl_1 hc32] <;> rfl) (show [(10,false),(11,true)].Nodup by decide) O O (by rw [ck_l hc17 (by simpa using hc29),cl_1 hc32] <;> rfl) ⟨O,⟨O,⟨O,⟨O,⟨O,⟨O,trivial⟩⟩⟩⟩⟩⟩ O
     · refine W.skip ?_
       refine W.seq ?_
       refine W.drawE (m := 6) (an := [0,1,3,0,8,7,63]) (its := [.y 34 _,.y 35 _,.y 36 _,.y 37 _,.y 38 _,⟨97,.dead,true⟩]) (ks := [(5,97)]) (kk := []) (efs := [(5,[(10,.var _)])]) (live := [1,3,4,5,10,12,38]) (env' := [(1,_),(3,_),(4,_),(5,_),(10,_),(12,_),(38,_)]) (nd := 40) (bx1 := [(10,.var _),(0,.var _),(1,.var _),(2,.var _),(3,.var _),(4,.var _),(5,.var _)]) hP (by decide) O ⟨⟨104,O⟩,nU O,O,O,O,O⟩ (            ⟨⟨O,nU O,O,fun _ τ hb ht hτ => R.ldP (hτ 3 _ O) (hb 1 _ O) O O O O ht⟩,⟨⟨O,nU O,O,fun _ τ hb ht hτ => R.idxN (0) (SC.sl (hτ 34 _ O)) (evoI (kI 0 O)) O bU ht (by decide)⟩,⟨⟨O,nU O,O,fun _ τ hb ht hτ => R.ldE (hτ 35 _ O) (SC.sl (hτ 34 _ O)) (map_get! (l := hs) bU) O O O O ht⟩,⟨⟨O,nU O,O,fun _ τ hb ht hτ => R.ldP (hτ 3 _ O) (hb 1 _ O) O O O O ht⟩,⟨⟨O,nU O,O,fun _ τ hb ht hτ => R.slIN (1) (hs.length) ((hs.length - 1)) (evt (hτ 37 _ O)) (evoI (kI 1 O)) O O (by simp) bU bU O (show _ = (hs.drop 1).map hashD from by rw [List.take_of_length_le (by simp)]; simp) ht⟩,⟨⟨O,O,O,(SpE.st (p := 10) (id := 10) O O O (fun τ hτ => (evt (hτ 36 _ O))) (by rfl) (by rfl) (by rfl) (by rfl) O)⟩,trivial⟩⟩⟩⟩⟩⟩) O O O (n' := 92) O (⟨O,_,R.stZ (gU 3 O) (xU 1 O) O (gV 38 O) (by rfl) (by rfl) (by rfl) (by rfl) O,⟨[1,4,5,10,12],[(1,_),(4,_),(5,_),(10,_),(12,_)],[(10,.var _),(0,.var _),(1,.var _),(2,.var _),(3,.var _),(4,.var _),(5,.var _)],92,O,O,O, ?_⟩⟩)
       refine W.seq ?_
       refine W.seq ?_
       refine W.l0 1 [.y 39 _] [] [] [(1,_),(4,_),(5,_),(10,_),(39,_)] [(10,.var _),(0,.var _),(1,.var _),(2,.var _),(3,.var _),(4,.var _),(5,.var _)] 92 ⟨mU 12 O O,trivial⟩ O O O O (tU O ?_)
       refine W.condF O (by simpa using hc29) ?_
       refine W.skip ?_
       refine W.seq ?_
       refine W.l0 3 [.y 48 _] [] [] [(10,_),(48,_)] [(10,.var _),(0,.var _),(1,.var _),(2,.var _),(3,.var _),(4,.var _),(5,.var _)] 92 ⟨aU (lU 10 O O O O O O O),trivial⟩ O O O O (⟨O,_,R.stZ (gU 10 O) (xU 10 O) O (gV 48 O) (by rfl) (by rfl) (by rfl) (by rfl) O,⟨O,_,R.asg (kB true O) O (nU O),tV [(10,_),(11,_)] [(10,.var _),(0,.var _),(1,.var _),(2,.var _),(3,.var _),(4,.var _),(5,.var _)] 92 O O O ?_⟩⟩)
       refine W.ret ?_
       exact EndsB.many' (.inr O) (.cons O O (show LdT _ 38 32 true from inferInstance) (.cons O O trivial .nil)) (by rw [ck_l hc17 (by simpa using hc29),cl_f hc32 (by simpa using hc29)] <;> rfl) (show [(10,false),(11,true)].Nodup by decide) O O (by rw [ck_l hc17 (by simpa using hc29),cl_f hc32 (by simpa using hc29)] <;> rfl) ⟨O,⟨O,⟨O,⟨O,⟨O,⟨O,trivial⟩⟩⟩⟩⟩⟩ O
   · refine W.skip ?_
     refine W.seq ?_
     have hft : fl[0]! = true := by simpa using hc29
     have hpw : (k + 1) * 2 ^ (r + 1) = (2 * k + 1 + 1) * 2 ^ r := by rw [Nat.pow_succ,← Nat.mul_assoc,Nat.mul_right_comm,show 2 * k + 1 + 1 = (k + 1) * 2 by omega]
     have hpk : 1 ≤ 2 ^ r := Nat.one_le_two_pow
     have hkk : 2 * k + 1 + 1 ≤ 100000 := Nat.le_trans (Nat.le_mul_of_pos_right _ hpk) (by omega)
     have hk0 : (2 * k + 1) * 2 ^ r ≤ 100000 := Nat.le_trans (Nat.mul_le_mul_right _ (Nat.le_succ _)) (Nat.le_trans (Nat.le_of_eq hpw.symm) hk)
     obtain ⟨⟨a,x⟩,fl1,hs1,ids1,at1,hX⟩ : ∃ o_ f_ h_ i_ a_,ckW w r (2 * k) ((fl.drop 1),hs,ids,at_) = (o_,f_,h_,i_,a_) := ⟨_,_,_,_,_,rfl⟩
     have hXo := ckW_ok w r (2 * k) (fl.drop 1,hs,ids,at_) hh
     rw [hX] at hXo
     obtain ⟨ho1,ho2,ho3,ho4,ho5,_⟩ := hXo
     simp only [List.length_drop] at ho1 ho3 ho4 ho5
     refine W.l0 12 [.y 50 _,.y 51 _,.y 52 _,.y 53 _,.y 54 _] [] [] [(0,_),(1,_),(6,_),(7,_),(10,_),(50,_),(52,_),(54,_)] [(10,.var _),(0,.var _),(1,.var _),(2,.var _),(3,.var _),(4,.var _),(5,.var _)] 92 ⟨aU (lU 6 O O O O O O O),mU 0 O O,aU fun _ _ H K => R.subN (r + 1) (1) (eU K 51 O) (kI 1 O) bU bU H,mU 1 O O,aU fun _ _ H K => R.mulN (2) (k) (kI 2 O) (eU K 53 O) bU H,trivial⟩ O O O O (⟨O,_,R.callVB (ds := [.int ((r : Nat) : Int),.int ((2 * k : Nat) : Int)]) (caps := [.ptr 0 0 [],.ptr 1 0 [],.ptr 2 0 [],.ptr 3 0 [],.ptr 4 0 [],.ptr 5 0 []]) [(0,0),(1,1),(2,2),(3,3),(4,4),(5,5)] hC (gU 50 O) O O (show FnB Tryd.prog gl 29 [.int ((r : Nat) : Int),.int ((2 * k : Nat) : Int),.ptr 0 0 [],.ptr 1 0 [],.ptr 2 0 [],.ptr 3 0 [],.ptr 4 0 [],.ptr 5 0 []] [(0,.var (.sl none 1 ((fl.drop 1).map D.bool))),(1,.var (.sl none 32 (hs.map hashD))),(2,.var (.sl (some 38) 32 (ids.map hashD))),(3,.var (.sl (some 3) 1 (at_.map natD))),(4,.var (.fn 29 [.ptr 0 0 [],.ptr 1 0 [],.ptr 2 0 [],.ptr 3 0 [],.ptr 4 0 [],.ptr 5 0 []])),(5,.var (.sl none 1 (w.map natD)))] (.tup [hashD a,.bool x]) [(0,.var (.sl none 1 (fl1.map D.bool))),(1,.var (.sl none 32 (hs1.map hashD))),(2,.var (.sl (some 38) 32 (ids1.map hashD))),(3,.var (.sl (some 3) 1 (at1.map natD))),(4,.var (.fn 29 [.ptr 0 0 [],.ptr 1 0 [],.ptr 2 0 [],.ptr 3 0 [],.ptr 4 0 [],.ptr 5 0 []])),(5,.var (.sl none 1 (w.map natD)))] [] from by have h := ih (2 * k) (fl.drop 1) hs ids at_ hk0 hh hl0 (by simp only [List.length_drop]; omega) (by simp only [List.length_drop]; omega); unfold CwP at h; rw [hX] at h; exact h) (EvB.cons (gV 52 O) O O O (EvB.cons (gV 54 O) O O O EvB.nil)) O ⟨O,⟨O,⟨O,⟨O,⟨O,⟨O,trivial⟩⟩⟩⟩⟩⟩ ⟨O,⟨O,⟨O,⟨O,⟨O,⟨O,trivial⟩⟩⟩⟩⟩⟩ O O O O O O (nU O),⟨O,_,R.movT (gU 55 O) O (nU O),⟨O,_,R.ext (gU 49 O) O O (nU O),⟨O,_,R.ext (gU 49 O) O O (nU O),⟨O,_,R.alloc O (nU O),⟨O,_,R.stZ (gU 13 O) (xU 13 O) O (gV 56 O) (by rfl) (by rfl) (by rfl) (by rfl) O,⟨O,_,R.asg (gV 57 O) O (nU O),tV [(0,_),(1,_),(6,_),(7,_),(10,_),(11,_),(13,_)] [(13,.var _),(10,.var _),(0,.var _),(1,.var _),(2,.var _),(3,.var _),(4,.var _),(5,.var _)] 92 O O O ?_⟩⟩⟩⟩⟩⟩⟩)
     refine W.seq ?_
     refine W.seq ?_
     refine W.l0 2 [.y 58 _,.y 59 _] [] [] [(0,_),(1,_),(6,_),(7,_),(10,_),(13,_),(59,_)] [(13,.var _),(10,.var _),(0,.var _),(1,.var _),(2,.var _),(3,.var _),(4,.var _),(5,.var _)] 92 ⟨mU 11 O O,aU fun _ _ H K => R.un (eU K 58 O) O H,trivial⟩ O O O O (tU O ?_)
     refine W.cond O (fun hc59 => ?_) (fun hc59 => ?_)
     · refine W.seq ?_
       refine W.l0 3 [.y 60 _] [] [] [(10,_),(60,_)] [(13,.var _),(10,.var _),(0,.var _),(1,.var _),(2,.var _),(3,.var _),(4,.var _),(5,.var _)] 92 ⟨aU (lU 10 O O O O O O O),trivial⟩ O O O O (⟨O,_,R.stZ (gU 10 O) (xU 10 O) O (gV 60 O) (by rfl) (by rfl) (by rfl) (by rfl) O,⟨O,_,R.asg (kB false O) O (nU O),tV [(10,_),(11,_)] [(13,.var _),(10,.var _),(0,.var _),(1,.var _),(2,.var _),(3,.var _),(4,.var _),(5,.var _)] 92 O O O ?_⟩⟩)
       refine W.ret ?_
       exact EndsB.many' (.inr O) (.cons O O (show LdT _ 38 32 true from inferInstance) (.cons O O trivial .nil)) (by rw [ck_n hc17 hft hX (by simpa using hc59)] <;> rfl) (show [(10,false),(11,true)].Nodup by decide) O O (by rw [ck_n hc17 hft hX (by simpa using hc59)] <;> rfl) ⟨O,⟨O,⟨O,⟨O,⟨O,⟨O,trivial⟩⟩⟩⟩⟩⟩ O
     · refine W.skip ?_
       refine W.seq ?_
       refine W.seq ?_
       refine W.l0 9 [.y 61 _,.y 62 _,.y 63 _,.y 64 _,.y 65 _,.y 66 _,.y 67 _,.y 68 _,.y 69 _] [] [] [(0,_),(1,_),(6,_),(10,_),(13,_),(69,_)] [(13,.var _),(10,.var _),(0,.var _),(1,.var _),(2,.var _),(3,.var _),(4,.var _),(5,.var _)] 92 ⟨mU 1 O O,aU fun _ _ H K => R.mulN (2) (k) (kI 2 O) (eU K 61 O) bU H,aU fun _ _ H K => R.addN ((2 * k)) (1) (eU K 62 O) (kI 1 O) bU H,aU (lU 7 O O O O O O O),mU 0 O O,aU fun _ _ H K => R.subN (r + 1) (1) (eU K 65 O) (kI 1 O) bU bU H,aU fun _ _ H K => R.idxN ((r + 1 - 1)) (SC.sl (K 64 _ O)) (evoI (eU K 66 O)) O bU H (by decide),aU fun _ _ H K => R.ldE (K 67 _ O) (SC.sl (K 64 _ O)) (map_get! (l := w) bU) O O O O H,aU fun _ _ H K => R.eqlN (((2 * k) + 1)) (w[(r + 1 - 1)]!) (eU K 63 O) (eU K 68 O) H,trivial⟩ O O O O (tU O ?_)
       refine W.condD O (fun hc69 => ?_) (fun hc69 => ?_)
       · refine W.seq ?_
         refine W.l0 5 [.y 70 _,.y 71 _,.y 72 _] [] [] [(10,_),(72,_)] [(13,.var _),(10,.var _),(0,.var _),(1,.var _),(2,.var _),(3,.var _),(4,.var _),(5,.var _)] 92 ⟨aU (lU 13 O O O O O O O),aU (lU 13 O O O O O O O),aU fun _ _ H K => R.callG hC (join_ok a a ho1 ho1) (Bors.cons (Bor.pur (eU K 70 O) O O) (Bors.cons (Bor.pur (eU K 71 O) O O) Bors.nil)) (FrsR.one (frs_hash _)) H,trivial⟩ O O O O (⟨O,_,R.stZ (gU 10 O) (xU 10 O) O (gV 72 O) (by rfl) (by rfl) (by rfl) (by rfl) O,⟨O,_,R.asg (kB true O) O (nU O),tV [(10,_),(11,_)] [(13,.var _),(10,.var _),(0,.var _),(1,.var _),(2,.var _),(3,.var _),(4,.var _),(5,.var _)] 92 O O O ?_⟩⟩)
         refine W.ret ?_
         exact EndsB.many' (.inr O) (.cons O O (show LdT _ 38 32 true from inferInstance) (.cons O O trivial .nil)) (by rw [ck_s hc17 hft hX (by simpa using hc59) hc69] <;> rfl) (show [(10,false),(11,true)].Nodup by decide) O O (by rw [ck_s hc17 hft hX (by simpa using hc59) hc69] <;> rfl) ⟨O,⟨O,⟨O,⟨O,⟨O,⟨O,trivial⟩⟩⟩⟩⟩⟩ O
       · refine W.skip ?_
         refine W.seq ?_
         obtain ⟨⟨b,y⟩,fl2,hs2,ids2,at2,hY⟩ : ∃ o_ f_ h_ i_ a_,ckW w r (2 * k + 1) (fl1,hs1,ids1,at1) = (o_,f_,h_,i_,a_) := ⟨_,_,_,_,_,rfl⟩
         have hYo := (ckW_ok w r (2 * k + 1) (fl1,hs1,ids1,at1) ho2).h
         rw [hY] at hYo
         refine W.l0 13 [.y 74 _,.y 75 _,.y 76 _,.y 77 _,.y 78 _,.y 79 _] [] [] [(10,_),(13,_),(74,_),(76,_),(79,_)] [(13,.var _),(10,.var _),(0,.var _),(1,.var _),(2,.var _),(3,.var _),(4,.var _),(5,.var _)] 92 ⟨aU (lU 6 O O O O O O O),mU 0 O O,aU fun _ _ H K => R.subN (r + 1) (1) (eU K 75 O) (kI 1 O) bU bU H,mU 1 O O,aU fun _ _ H K => R.mulN (2) (k) (kI 2 O) (eU K 77 O) bU H,aU fun _ _ H K => R.addN ((2 * k)) (1) (eU K 78 O) (kI 1 O) bU H,trivial⟩ O O O O (⟨O,_,R.callVB (ds := [.int ((r : Nat) : Int),.int ((2 * k + 1 : Nat) : Int)]) (caps := [.ptr 0 0 [],.ptr 1 0 [],.ptr 2 0 [],.ptr 3 0 [],.ptr 4 0 [],.ptr 5 0 []]) [(0,0),(1,1),(2,2),(3,3),(4,4),(5,5)] hC (gU 74 O) O O (show FnB Tryd.prog gl 29 [.int ((r : Nat) : Int),.int ((2 * k + 1 : Nat) : Int),.ptr 0 0 [],.ptr 1 0 [],.ptr 2 0 [],.ptr 3 0 [],.ptr 4 0 [],.ptr 5 0 []] [(0,.var (.sl none 1 (fl1.map D.bool))),(1,.var (.sl none 32 (hs1.map hashD))),(2,.var (.sl (some 38) 32 (ids1.map hashD))),(3,.var (.sl (some 3) 1 (at1.map natD))),(4,.var (.fn 29 [.ptr 0 0 [],.ptr 1 0 [],.ptr 2 0 [],.ptr 3 0 [],.ptr 4 0 [],.ptr 5 0 []])),(5,.var (.sl none 1 (w.map natD)))] (.tup [hashD b,.bool y]) [(0,.var (.sl none 1 (fl2.map D.bool))),(1,.var (.sl none 32 (hs2.map hashD))),(2,.var (.sl (some 38) 32 (ids2.map hashD))),(3,.var (.sl (some 3) 1 (at2.map natD))),(4,.var (.fn 29 [.ptr 0 0 [],.ptr 1 0 [],.ptr 2 0 [],.ptr 3 0 [],.ptr 4 0 [],.ptr 5 0 []])),(5,.var (.sl none 1 (w.map natD)))] [] from by have h := ih (2 * k + 1) fl1 hs1 ids1 at1 (by omega) ho2 (by omega) (by omega) (by omega); unfold CwP at h; rw [hY] at h; exact h) (EvB.cons (gV 76 O) O O O (EvB.cons (gV 79 O) O O O EvB.nil)) O ⟨O,⟨O,⟨O,⟨O,⟨O,⟨O,trivial⟩⟩⟩⟩⟩⟩ ⟨O,⟨O,⟨O,⟨O,⟨O,⟨O,trivial⟩⟩⟩⟩⟩⟩ O O O O O O (nU O),⟨O,_,R.movT (gU 80 O) O (nU O),⟨O,_,R.ext (gU 73 O) O O (nU O),⟨O,_,R.ext (gU 73 O) O O (nU O),⟨O,_,R.alloc O (nU O),⟨O,_,R.stZ (gU 14 O) (xU 14 O) O (gV 81 O) (by rfl) (by rfl) (by rfl) (by rfl) O,⟨O,_,R.asg (gV 82 O) O (nU O),tV [(10,_),(11,_),(13,_),(14,_)] [(14,.var _),(13,.var _),(10,.var _),(0,.var _),(1,.var _),(2,.var _),(3,.var _),(4,.var _),(5,.var _)] 92 O O O ?_⟩⟩⟩⟩⟩⟩⟩)
         refine W.seq ?_
         by_cases hy : y = true
         · refine W.drawE (m := 10) (an := [0,0,3,0,15,31,31,127,255,31,1023]) (its := [.y 83 _,.y 84 _,.y 85 _,.y 86 _,.y 87 _,.y 88 _,.y 89 _,.y 90 _,.y 91 _,⟨101,.dead,true⟩]) (ks := [(9,101)]) (kk := []) (efs := [(9,[(10,.var _)])]) (live := [10,11,91]) (env' := [(10,_),(11,_),(91,_)]) (nd := 40) (bx1 := [(10,.var _),(14,.var _),(13,.var _),(0,.var _),(1,.var _),(2,.var _),(3,.var _),(4,.var _),(5,.var _)]) hP (by decide) O ⟨⟨108,O⟩,nU O,O,O,O,O⟩ (                ⟨⟨O,nU O,O,fun _ τ hb ht hτ => R.ldP (hτ 13 _ O) (hb 13 _ O) O O O O ht⟩,⟨⟨O,nU O,O,fun _ τ hb ht hτ => R.ldP (hτ 14 _ O) (hb 14 _ O) O O O O ht⟩,⟨⟨O,nU O,O,fun _ τ hb ht hτ => R.callG hC (join_ok a b ho1 hYo) (Bors.cons (Bor.pur (evt (hτ 83 _ O)) O O) (Bors.cons (Bor.pur (evt (hτ 84 _ O)) O O) Bors.nil)) (FrsR.one (frs_hash _)) ht⟩,⟨⟨O,nU O,O,fun _ τ hb ht hτ => R.mov (evt (hτ 11 _ O)) O ht⟩,⟨⟨O,nU O,O,fun _ τ hb ht hτ => R.mov (evt (hτ 86 _ O)) O ht⟩,⟨⟨O,nU O,⟨_,87,O,O,.inl ⟨_,O,gw (v := true) (hy) O⟩⟩,fun _ τ hb ht hτ => R.ldP (hτ 13 _ O) (hb 13 _ O) O O O O ht⟩,⟨⟨O,nU O,⟨_,87,O,O,.inl ⟨_,O,gw (v := true) (hy) O⟩⟩,fun _ τ hb ht hτ => R.ldP (hτ 14 _ O) (hb 14 _ O) O O O O ht⟩,⟨⟨O,nU O,⟨_,87,O,O,.inl ⟨_,O,gw (v := true) (hy) O⟩⟩,fun _ τ hb ht hτ => R.eqAX (evt (hτ 88 _ O)) (evt (hτ 89 _ O)) ht⟩,⟨⟨O,nU O,O,fun _ τ hb ht hτ => R.pickT (evt (hτ 87 _ O)) (hy) (evt (hτ 90 _ O)) O ht⟩,⟨⟨O,O,O,(SpE.st (p := 10) (id := 10) O O O (fun τ hτ => (evt (hτ 85 _ O))) (by rfl) (by rfl) (by rfl) (by rfl) O)⟩,trivial⟩⟩⟩⟩⟩⟩⟩⟩⟩⟩) O O O (n' := 92) O (⟨O,_,R.asg (gV 91 O) O (nU O),⟨[10,11],[(10,_),(11,_)],[(10,.var _),(14,.var _),(13,.var _),(0,.var _),(1,.var _),(2,.var _),(3,.var _),(4,.var _),(5,.var _)],92,O,O,O, ?_⟩⟩)
           refine W.ret ?_
           exact EndsB.many' (.inr O) (.cons O O (show LdT _ 38 32 true from inferInstance) (.cons O O trivial .nil)) (by rw [ck_b hc17 hft hX (by simpa using hc59) hc69 hY,hy,Bool.true_and]) (show [(10,false),(11,true)].Nodup by decide) O O (by rw [ck_b hc17 hft hX (by simpa using hc59) hc69 hY] <;> rfl) ⟨O,⟨O,⟨O,⟨O,⟨O,⟨O,trivial⟩⟩⟩⟩⟩⟩ O
         · refine W.drawE (m := 10) (an := [0,0,3,0,15,31,31,127,255,31,1023]) (its := [.y 83 _,.y 84 _,.y 85 _,.y 86 _,.y 87 _,.x 88,.x 89,.x 90,.y 91 _,⟨101,.dead,true⟩]) (ks := [(9,101)]) (kk := []) (efs := [(9,[(10,.var _)])]) (live := [10,11,91]) (env' := [(10,_),(11,_),(91,_)]) (nd := 40) (bx1 := [(10,.var _),(14,.var _),(13,.var _),(0,.var _),(1,.var _),(2,.var _),(3,.var _),(4,.var _),(5,.var _)]) hP (by decide) O ⟨⟨108,O⟩,nU O,O,O,O,O⟩ (                ⟨⟨O,nU O,O,fun _ τ hb ht hτ => R.ldP (hτ 13 _ O) (hb 13 _ O) O O O O ht⟩,⟨⟨O,nU O,O,fun _ τ hb ht hτ => R.ldP (hτ 14 _ O) (hb 14 _ O) O O O O ht⟩,⟨⟨O,nU O,O,fun _ τ hb ht hτ => R.callG hC (join_ok a b ho1 hYo) (Bors.cons (Bor.pur (evt (hτ 83 _ O)) O O) (Bors.cons (Bor.pur (evt (hτ 84 _ O)) O O) Bors.nil)) (FrsR.one (frs_hash _)) ht⟩,⟨⟨O,nU O,O,fun _ τ hb ht hτ => R.mov (evt (hτ 11 _ O)) O ht⟩,⟨⟨O,nU O,O,fun _ τ hb ht hτ => R.mov (evt (hτ 86 _ O)) O ht⟩,⟨⟨O,nU O,⟨_,87,O,O,.inl ⟨_,O,gw (v := false) (bfalse hy) O⟩⟩,fun h => absurd h (by decide)⟩,⟨⟨O,nU O,⟨_,87,O,O,.inl ⟨_,O,gw (v := false) (bfalse hy) O⟩⟩,fun h => absurd h (by decide)⟩,⟨⟨O,nU O,⟨_,87,O,O,.inl ⟨_,O,gw (v := false) (bfalse hy) O⟩⟩,fun h => absurd h (by decide)⟩,⟨⟨O,nU O,O,fun _ τ hb ht hτ => R.pickF (evt (hτ 87 _ O)) (bfalse hy) (kB false O) O ht⟩,⟨⟨O,O,O,(SpE.st (p := 10) (id := 10) O O O (fun τ hτ => (evt (hτ 85 _ O))) (by rfl) (by rfl) (by rfl) (by rfl) O)⟩,trivial⟩⟩⟩⟩⟩⟩⟩⟩⟩⟩) O O O (n' := 92) O (⟨O,_,R.asg (gV 91 O) O (nU O),⟨[10,11],[(10,_),(11,_)],[(10,.var _),(14,.var _),(13,.var _),(0,.var _),(1,.var _),(2,.var _),(3,.var _),(4,.var _),(5,.var _)],92,O,O,O, ?_⟩⟩)
           refine W.ret ?_
           exact EndsB.many' (.inr O) (.cons O O (show LdT _ 38 32 true from inferInstance) (.cons O O trivial .nil)) (by rw [ck_b hc17 hft hX (by simpa using hc59) hc69 hY,bfalse hy,Bool.false_and]) (show [(10,false),(11,true)].Nodup by decide) O O (by rw [ck_b hc17 hft hX (by simpa using hc59) hc69 hY] <;> rfl) ⟨O,⟨O,⟨O,⟨O,⟨O,⟨O,trivial⟩⟩⟩⟩⟩⟩ O

end Go.Sx

namespace Go.Sx
open Go.Proofs
theorem cwalk {w : List Nat} (hw : w.length ≤ 20) :
 ∀ (r : Nat),r ≤ w.length → ∀ (k : Nat) (fl : List Bool) (hs ids : List Hs) (at_ : List Nat),(k + 1) * 2 ^ r ≤ 100000 → allH hs → hs.length ≤ 1000000 → ids.length + fl.length ≤ 100000 → at_.length + fl.length ≤ 100000 → CwP w r k fl hs ids at_ := by
 intro r
 induction r with
 | zero => intro hr k fl hs ids at_ hk hh hl hi ha; exact cwalk0 w hr hw k fl hs ids at_ (by simpa using hk) hh hl hi ha
 | succ r ih => intro hr k fl hs ids at_ hk hh hl hi ha; exact cwalk1 w r hr hw k fl hs ids at_ hk hh hl hi ha (ih (by omega))
def wdS (n : Nat) : List Nat := wdI n (nRows n)
def ckR (n : Nat) (hs : List Hs) (fl : List Bool) : (Hs × Bool) × CS := ckW (wdS n) ((wdS n).length - 1) 0 (fl,hs,[],[])
def chkS (n : Int) (hs : List Hs) (fl : List Bool) : Hs × List Hs × List Nat × Nat :=
 if n < 1 ∨ n > 256 then (zero32,[],[],1) else if (hs.length : Int) > n ∨ fl.length < hs.length then (zero32,[],[],6) else
 if (ckR n.toNat hs fl).1.2 = true ∧ (ckR n.toNat hs fl).2.1.length = 0 ∧ (ckR n.toNat hs fl).2.2.1.length = 0 then ((ckR n.toNat hs fl).1.1,(ckR n.toNat hs fl).2.2.2.1,(ckR n.toNat hs fl).2.2.2.2,0) else (zero32,[],[],15)
section
variable {n : Int} {hs : List Hs} {fl : List Bool}
theorem chk_1 (h : n < 1) : chkS n hs fl = (zero32,[],[],1) := if_pos (.inl h)
theorem chk_2 (h : n > 256) : chkS n hs fl = (zero32,[],[],1) := if_pos (.inr h)
variable {m : Nat}
theorem chk_c (h : ¬ (m : Int) < 1) (h2 : ¬ (m : Int) > 256) : chkS (m : Int) hs fl = if m < hs.length ∨ fl.length < hs.length then (zero32,[],[],6) else
 if (ckR m hs fl).1.2 = true ∧ (ckR m hs fl).2.1.length = 0 ∧ (ckR m hs fl).2.2.1.length = 0 then ((ckR m hs fl).1.1,(ckR m hs fl).2.2.2.1,(ckR m hs fl).2.2.2.2,0) else (zero32,[],[],15) := by
 rw [chkS,if_neg (by omega)]
 by_cases h3 : m < hs.length ∨ fl.length < hs.length
 · rw [if_pos h3,if_pos (by omega)]
 · rw [if_neg h3,if_neg (by omega)]; rfl
theorem chk_3 (h : ¬ (m : Int) < 1) (h2 : ¬ (m : Int) > 256) (h3 : m < hs.length ∨ fl.length < hs.length) : chkS (m : Int) hs fl = (zero32,[],[],6) := by rw [chk_c h h2,if_pos h3]
variable {a : Hs} {x : Bool} {fl1 : List Bool} {hs1 ids1 : List Hs} {at1 : List Nat}
theorem chk_4 (h : ¬ (m : Int) < 1) (h2 : ¬ (m : Int) > 256) (h3 : ¬ m < hs.length) (h4 : ¬ fl.length < hs.length) (hX : ckW (wdI m (nRows m)) ((wdI m (nRows m)).length - 1) 0 (fl,hs,[],[]) = ((a,x),fl1,hs1,ids1,at1)) (h5 : ¬ (x = true ∧ fl1.length = 0 ∧ hs1.length = 0)) : chkS (m : Int) hs fl = (zero32,[],[],15) := by
 have hX' : ckR m hs fl = ((a,x),fl1,hs1,ids1,at1) := hX
 rw [chk_c h h2,if_neg (by intro h; exact h.elim h3 h4),hX',if_neg h5]
theorem chk_5 (h : ¬ (m : Int) < 1) (h2 : ¬ (m : Int) > 256) (h3 : ¬ m < hs.length) (h4 : ¬ fl.length < hs.length) (hX : ckW (wdI m (nRows m)) ((wdI m (nRows m)).length - 1) 0 (fl,hs,[],[]) = ((a,x),fl1,hs1,ids1,at1)) (h5 : x = true) (h6 : fl1.length = 0) (h7 : hs1.length = 0) : chkS (m : Int) hs fl = (a,ids1,at1,0) := by
 have hX' : ckR m hs fl = ((a,x),fl1,hs1,ids1,at1) := hX
 rw [chk_c h h2,if_neg (by intro h; exact h.elim h3 h4),hX',if_pos ⟨h5,h6,h7⟩]
theorem wd_len {n : Nat} (h0 : 0 < n) (h : n ≤ 256) : (wdI n (nRows n)).length = nRows n ∧ 1 ≤ nRows n ∧ nRows n ≤ 9 := ⟨wdI_len _ _,nRows_pos h0,nRows_9 _ h⟩
theorem ck_call {m : Nat} (h0 : 0 < m) (h : m ≤ 256) (hh : allH hs) (hl : hs.length ≤ 1000000) (hf : fl.length ≤ 100000) : CwP (wdI m (nRows m)) ((wdI m (nRows m)).length - 1) 0 fl hs [] [] := by
 obtain ⟨h1,h2,h3⟩ := wd_len h0 h
 have hp : 2 ^ ((wdI m (nRows m)).length - 1) ≤ 2 ^ 9 := Nat.pow_le_pow_right (by decide) (by omega)
 exact cwalk (by omega) _ (by omega) 0 fl hs [] [] (by omega) hh hl (by simp only [List.length_nil]; omega) (by simp only [List.length_nil]; omega)
end
theorem brw_nt (o : Option Nat) (z : Nat) (l : List Nat) : (D.sl o z (l.map natD)).brw = .sl none z (l.map natD) := by
 simp only [D.brw,brws_eq]
 rw [brw_map (fun _ => rfl)]
theorem wk_hs0 : Wk (.nils) (.sl none 32 (([] : List Hs).map hashD)) := .nils none 32
theorem wk_is0 : Wk (.nils) (.sl none 1 (([] : List Nat).map natD)) := .nils none 1
end Go.Sx
