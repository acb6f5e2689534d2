/-
 Own library: functions that are given what their first argument owns.
-/
import Derived.Test.YthhliikibffhjaaDoorMSxCallB
import Derived.Test.YthhliikibffhjaaDoorMMkLaw
set_option linter.unusedVariables false
set_option linter.unusedSimpArgs false
set_option linter.unnecessarySimpa false

namespace Go.Sx
open Go.Proofs
theorem cwalk0 (w : List Nat) (hrow : 0 ≤ w.length) (hw : w.length ≤ 20) (k : Nat) (fl : List Bool) (hs ids : List Hs) (at_ : List Nat) (hk : (k + 1) * 2 ^ (0) ≤ 100000) (hh : allH hs) (hl0 : hs.length ≤ 1000000) (hi : ids.length + fl.length ≤ 100000) (ha : at_.length + fl.length ≤ 100000) : FnB Tryd.prog gl 29 [.int ((0 : Nat) : Int),.int ((k : Nat) : Int),.ptr 0 0 [],.ptr 1 0 [],.ptr 2 0 [],.ptr 3 0 [],.ptr 4 0 [],.ptr 5 0 []] [(0,.var (.sl none 1 (fl.map D.bool))),(1,.var (.sl none 32 (hs.map hashD))),(2,.var (.sl (some 38) 32 (ids.map hashD))),(3,.var (.sl (some 3) 1 (at_.map natD))),(4,.var (.fn 29 [.ptr 0 0 [],.ptr 1 0 [],.ptr 2 0 [],.ptr 3 0 [],.ptr 4 0 [],.ptr 5 0 []])),(5,.var (.sl none 1 (w.map natD)))] (.tup [hashD (ckW w 0 k (fl,hs,ids,at_)).1.1,.bool (ckW w 0 k (fl,hs,ids,at_)).1.2]) [(0,.var (.sl none 1 ((ckW w 0 k (fl,hs,ids,at_)).2.1.map D.bool))),(1,.var (.sl none 32 ((ckW w 0 k (fl,hs,ids,at_)).2.2.1.map hashD))),(2,.var (.sl (some 38) 32 ((ckW w 0 k (fl,hs,ids,at_)).2.2.2.1.map hashD))),(3,.var (.sl (some 3) 1 ((ckW w 0 k (fl,hs,ids,at_)).2.2.2.2.map natD))),(4,.var (.fn 29 [.ptr 0 0 [],.ptr 1 0 [],.ptr 2 0 [],.ptr 3 0 [],.ptr 4 0 [],.ptr 5 0 []])),(5,.var (.sl none 1 (w.map natD)))] [] := by
 refine FnB.of (n := 92) (ids := [0,1,2,3,4,5]) Tryd.func29 rfl rfl rfl (nU rfl) fun C hC hD => ?_
 refine W.seq ?_
 refine W.l0 2 [] [] [] [(0,_),(1,_),(2,_),(3,_),(4,_),(5,_),(6,_),(7,_)] [(0,.var _),(1,.var _),(2,.var _),(3,.var _),(4,.var _),(5,.var _)] 92 trivial rfl rfl rfl rfl (⟨rfl,_,R.alloc rfl (nU rfl),⟨rfl,_,R.asg (kB false rfl) rfl (nU rfl),tV [(0,_),(1,_),(2,_),(3,_),(4,_),(5,_),(6,_),(7,_),(10,_)] [(10,.var _),(0,.var _),(1,.var _),(2,.var _),(3,.var _),(4,.var _),(5,.var _)] 92 rfl rfl rfl ?_⟩⟩)
 refine W.seq ?_
 refine W.seq ?_
 refine W.l0 3 [.y 15 _,.y 16 _,.y 17 _] [] [] [(0,_),(1,_),(2,_),(3,_),(4,_),(5,_),(6,_),(7,_),(10,_),(17,_)] [(10,.var _),(0,.var _),(1,.var _),(2,.var _),(3,.var _),(4,.var _),(5,.var _)] 92 ⟨aU (lU 2 rfl rfl rfl rfl rfl rfl rfl),aU fun _ _ H K => R.lenE (SC.sl (K 15 _ rfl)) (List.length_map _) H,aU fun _ _ H K => R.eqlN (fl.length) (0) (eU K 16 rfl) (kI 0 rfl) H,trivial⟩ rfl rfl rfl rfl (tU rfl ?_)
 refine W.condD rfl (fun hc17 => ?_) (fun hc17 => ?_)
 · refine W.seq ?_
   refine W.l0 3 [.y 18 _] [] [] [(10,_),(18,_)] [(10,.var _),(0,.var _),(1,.var _),(2,.var _),(3,.var _),(4,.var _),(5,.var _)] 92 ⟨aU (lU 10 rfl rfl rfl rfl rfl rfl rfl),trivial⟩ rfl rfl rfl rfl (⟨rfl,_,R.stZ (gU 10 rfl) (xU 10 rfl) rfl (gV 18 rfl) (by rfl) (by rfl) (by rfl) (by rfl) rfl,⟨rfl,_,R.asg (kB false rfl) rfl (nU rfl),tV [(10,_),(11,_)] [(10,.var _),(0,.var _),(1,.var _),(2,.var _),(3,.var _),(4,.var _),(5,.var _)] 92 rfl rfl rfl ?_⟩⟩)
   refine W.ret ?_
   exact EndsB.many' (.inr rfl) (.cons rfl rfl (show LdT _ 38 32 true from inferInstance) (.cons rfl rfl trivial .nil)) (by rw [ck_1 hc17] <;> rfl) (show [(10,false),(11,true)].Nodup by decide) rfl rfl (by rw [ck_1 hc17] <;> rfl) ⟨rfl,⟨rfl,⟨rfl,⟨rfl,⟨rfl,⟨rfl,trivial⟩⟩⟩⟩⟩⟩ rfl
 · refine W.skip ?_
   refine W.seq ?_
   refine W.l0 4 [.y 19 _,.y 20 _,.y 21 _,.y 12 _] [] [] [(0,_),(1,_),(2,_),(3,_),(4,_),(5,_),(6,_),(7,_),(10,_),(12,_)] [(10,.var _),(0,.var _),(1,.var _),(2,.var _),(3,.var _),(4,.var _),(5,.var _)] 92 ⟨aU (lU 2 rfl rfl rfl rfl rfl rfl rfl),aU fun _ _ H K => R.idxN (0) (SC.sl (K 19 _ rfl)) (evoI (kI 0 rfl)) rfl bU H (by decide),aU fun _ _ H K => R.ldE (K 20 _ rfl) (SC.sl (K 19 _ rfl)) (map_get! (l := fl) bU) rfl rfl rfl rfl H,aU fun _ _ H K => R.asg (eU K 21 rfl) rfl H,trivial⟩ rfl rfl rfl rfl (tU rfl ?_)
   refine W.seq ?_
   refine W.l0 3 [.y 22 _,.y 23 _] [] [] [(0,_),(1,_),(2,_),(3,_),(4,_),(5,_),(6,_),(7,_),(10,_),(12,_),(23,_)] [(10,.var _),(0,.var _),(1,.var _),(2,.var _),(3,.var _),(4,.var _),(5,.var _)] 92 ⟨aU (lU 2 rfl rfl rfl rfl rfl rfl rfl),aU fun _ _ H K => R.slIN (1) (fl.length) ((fl.length - 1)) (eU K 22 rfl) (evoI (kI 1 rfl)) rfl rfl (by simp) bU bU rfl (show _ = (fl.drop 1).map D.bool from by rw [List.take_of_length_le (by simp)]; simp) H,trivial⟩ rfl rfl rfl rfl (⟨rfl,_,R.stZ (gU 2 rfl) (xU 0 rfl) rfl (gV 23 rfl) (by rfl) (by rfl) (by rfl) (by rfl) rfl,tV [(0,_),(1,_),(3,_),(4,_),(5,_),(6,_),(7,_),(10,_),(12,_)] [(10,.var _),(0,.var _),(1,.var _),(2,.var _),(3,.var _),(4,.var _),(5,.var _)] 92 rfl rfl rfl ?_⟩)
   refine W.seq ?_
   refine W.seq ?_
   refine W.l0 6 [.y 24 _,.y 25 _,.y 26 _,.x 27,.x 28,.y 29 _] [] [] [(0,_),(1,_),(3,_),(4,_),(5,_),(6,_),(7,_),(10,_),(12,_),(29,_)] [(10,.var _),(0,.var _),(1,.var _),(2,.var _),(3,.var _),(4,.var _),(5,.var _)] 92 ⟨mU 0 rfl rfl,aU fun _ _ H K => R.eqlN (0) (0) (eU K 24 rfl) (kI 0 rfl) H,mU 25 rfl rfl,aF rfl rfl (gT (decide_eq_true rfl) rfl),aF rfl rfl (gT (decide_eq_true rfl) rfl),aU fun _ _ H K => R.pickT (eU K 26 rfl) (decide_eq_true rfl) (kB true rfl) rfl H,trivial⟩ rfl rfl rfl rfl (tU rfl ?_)
   refine W.condT rfl (rfl) ?_
   refine W.seq ?_
   refine W.seq ?_
   refine W.l0 3 [.y 30 _,.y 31 _,.y 32 _] [] [] [(1,_),(3,_),(4,_),(5,_),(10,_),(12,_),(32,_)] [(10,.var _),(0,.var _),(1,.var _),(2,.var _),(3,.var _),(4,.var _),(5,.var _)] 92 ⟨aU (lU 3 rfl rfl rfl rfl rfl rfl rfl),aU fun _ _ H K => R.lenE (SC.sl (K 30 _ rfl)) (List.length_map _) H,aU fun _ _ H K => R.eqlN (hs.length) (0) (eU K 31 rfl) (kI 0 rfl) H,trivial⟩ rfl rfl rfl rfl (tU rfl ?_)
   refine W.condD rfl (fun hc32 => ?_) (fun hc32 => ?_)
   · refine W.seq ?_
     refine W.l0 3 [.y 33 _] [] [] [(10,_),(33,_)] [(10,.var _),(0,.var _),(1,.var _),(2,.var _),(3,.var _),(4,.var _),(5,.var _)] 92 ⟨aU (lU 10 rfl rfl rfl rfl rfl rfl rfl),trivial⟩ rfl rfl rfl rfl (⟨rfl,_,R.stZ (gU 10 rfl) (xU 10 rfl) rfl (gV 33 rfl) (by rfl) (by rfl) (by rfl) (by rfl) rfl,⟨rfl,_,R.asg (kB false rfl) rfl (nU rfl),tV [(10,_),(11,_)] [(10,.var _),(0,.var _),(1,.var _),(2,.var _),(3,.var _),(4,.var _),(5,.var _)] 92 rfl rfl rfl ?_⟩⟩)
     refine W.ret ?_
     exact EndsB.many' (.inr rfl) (.cons rfl rfl (show LdT _ 38 32 true from inferInstance) (.cons rfl rfl trivial .nil)) (by rw [ck_0 hc17,cl_1 hc32] <;> rfl) (show [(10,false),(11,true)].Nodup by decide) rfl rfl (by rw [ck_0 hc17,cl_1 hc32] <;> rfl) ⟨rfl,⟨rfl,⟨rfl,⟨rfl,⟨rfl,⟨rfl,trivial⟩⟩⟩⟩⟩⟩ rfl
   · refine W.skip ?_
     refine W.seq ?_
     refine W.drawE (m := 6) (an := [0,1,3,0,8,7,63]) (its := [.y 34 _,.y 35 _,.y 36 _,.y 37 _,.y 38 _,⟨97,.dead,true⟩]) (ks := [(5,97)]) (kk := []) (efs := [(5,[(10,.var _)])]) (live := [1,3,4,5,10,12,38]) (env' := [(1,_),(3,_),(4,_),(5,_),(10,_),(12,_),(38,_)]) (nd := 40) (bx1 := [(10,.var _),(0,.var _),(1,.var _),(2,.var _),(3,.var _),(4,.var _),(5,.var _)]) hP (by decide) rfl ⟨⟨104,rfl⟩,nU rfl,rfl,rfl,rfl,rfl⟩ (          ⟨⟨rfl,nU rfl,rfl,fun _ τ hb ht hτ => R.ldP (hτ 3 _ rfl) (hb 1 _ rfl) rfl rfl rfl rfl ht⟩,⟨⟨rfl,nU rfl,rfl,fun _ τ hb ht hτ => R.idxN (0) (SC.sl (hτ 34 _ rfl)) (evoI (kI 0 rfl)) rfl bU ht (by decide)⟩,⟨⟨rfl,nU rfl,rfl,fun _ τ hb ht hτ => R.ldE (hτ 35 _ rfl) (SC.sl (hτ 34 _ rfl)) (map_get! (l := hs) bU) rfl rfl rfl rfl ht⟩,⟨⟨rfl,nU rfl,rfl,fun _ τ hb ht hτ => R.ldP (hτ 3 _ rfl) (hb 1 _ rfl) rfl rfl rfl rfl ht⟩,⟨⟨rfl,nU rfl,rfl,fun _ τ hb ht hτ => R.slIN (1) (hs.length) ((hs.length - 1)) (evt (hτ 37 _ rfl)) (evoI (kI 1 rfl)) rfl rfl (by simp) bU bU rfl (show _ = (hs.drop 1).map hashD from by rw [List.take_of_length_le (by simp)]; simp) ht⟩,⟨⟨rfl,rfl,rfl,(SpE.st (p := 10) (id := 10) rfl rfl rfl (fun τ hτ => (evt (hτ 36 _ rfl))) (by rfl) (by rfl) (by rfl) (by rfl) rfl)⟩,trivial⟩⟩⟩⟩⟩⟩) rfl rfl rfl (n' := 92) rfl (⟨rfl,_,R.stZ (gU 3 rfl) (xU 1 rfl) rfl (gV 38 rfl) (by rfl) (by rfl) (by rfl) (by rfl) rfl,⟨[1,4,5,10,12],[(1,_),(4,_),(5,_),(10,_),(12,_)],[(10,.var _),(0,.var _),(1,.var _),(2,.var _),(3,.var _),(4,.var _),(5,.var _)],92,rfl,rfl,rfl, ?_⟩⟩)
     refine W.seq ?_
     refine W.seq ?_
     refine W.l0 1 [.y 39 _] [] [] [(1,_),(4,_),(5,_),(10,_),(39,_)] [(10,.var _),(0,.var _),(1,.var _),(2,.var _),(3,.var _),(4,.var _),(5,.var _)] 92 ⟨mU 12 rfl rfl,trivial⟩ rfl rfl rfl rfl (tU rfl ?_)
     refine W.cond rfl (fun hc39 => ?_) (fun hc39 => ?_)
     · refine W.drawC (m := 7) (an := [0,0,2,7,0,0,32,127,255,511]) (its := [.y 40 _,.y 41 _,.y 42 _,.y 43 _,.y 44 _,.y 45 _,.y 46 _]) (ks := [(3,40)]) (kk := [(3,40)]) (live := [4,5,10,43,44,46]) (env' := [(4,_),(5,_),(10,_),(43,_),(44,_),(46,_)]) (bx1 := [(10,.var _),(0,.var _),(1,.var _),(2,.var _),(3,.var _),(4,.var _),(5,.var _)]) [(10,_),(0,_),(1,_),(3,_),(4,_),(5,_)] 3 [2] hP (by decide) rfl ⟨nU rfl,rfl,rfl,rfl⟩ ⟨rfl,⟨rfl,⟨rfl,⟨rfl,⟨rfl,⟨rfl,trivial⟩⟩⟩⟩⟩⟩ (            ⟨⟨rfl,rfl,fun _ τ hb ht hτ => R.ldO (hτ 4 _ rfl) (hb 2 _ rfl) rfl ht⟩,⟨⟨rfl,rfl,fun _ τ hb ht hτ => R.ldP (hτ 10 _ rfl) (hb 10 _ rfl) rfl rfl rfl rfl ht⟩,⟨⟨rfl,rfl,fun _ τ hb ht hτ => R.bslE (z := 32) (.cons (evt (hτ 41 _ rfl)) .nil) ⟨⟨rfl,rfl,rfl⟩,trivial⟩ rfl ht (by decide)⟩,⟨⟨rfl,rfl,rfl,(SpC.appB (s := 40) rfl rfl rfl rfl rfl rfl (fun τ hb hτ => (SrcO.sc (SC.sl (hτ 42 _ rfl rfl rfl)) (pur_lit rfl))) (show _ = ((ids ++ [hs[0]!]).map hashD) from (by rw [List.map_append]; rfl)) bU (by decide) (by decide) rfl)⟩,⟨⟨rfl,rfl,fun _ τ hb ht hτ => R.ldO (hτ 5 _ rfl) (hb 3 _ rfl) rfl ht⟩,⟨⟨rfl,rfl,fun _ τ hb ht hτ => R.mov (evt (hτ 1 _ rfl)) rfl ht⟩,⟨⟨rfl,rfl,fun _ τ hb ht hτ => R.bslE (z := 1) (.cons (evt (hτ 45 _ rfl)) .nil) ⟨⟨rfl,rfl,rfl⟩,trivial⟩ rfl ht (by decide)⟩,trivial⟩⟩⟩⟩⟩⟩⟩) rfl rfl rfl (nU rfl) ⟨rfl,⟨rfl,⟨rfl,⟨rfl,⟨rfl,⟨rfl,trivial⟩⟩⟩⟩⟩⟩ rfl (n' := 92) rfl (⟨rfl,_,R.appB (gU 44 rfl) (xU 3 rfl) rfl (gU 44 rfl) (SrcO.sc (SC.sl (gU 46 rfl)) (pur_lit rfl)) (show _ = ((at_ ++ [k]).map natD) from (by rw [List.map_append]; rfl)) bU (nU rfl) (by decide) (by decide),⟨rfl,_,R.stOZ (gU 4 rfl) (xU 2 rfl) rfl (gU 43 rfl) rfl rfl (by rfl) (by rfl) rfl rfl,⟨rfl,_,R.stOZ (gU 5 rfl) (xU 3 rfl) rfl (gU 47 rfl) rfl rfl (by rfl) (by rfl) rfl rfl,⟨[10],[(10,_)],[(10,.var _),(0,.var _),(1,.var _),(2,.var _),(3,.var _),(4,.var _),(5,.var _)],92,rfl,rfl,rfl, ?_⟩⟩⟩⟩)
       refine W.seq ?_
       refine W.l0 3 [.y 48 _] [] [] [(10,_),(48,_)] [(10,.var _),(0,.var _),(1,.var _),(2,.var _),(3,.var _),(4,.var _),(5,.var _)] 92 ⟨aU (lU 10 rfl rfl rfl rfl rfl rfl rfl),trivial⟩ rfl rfl rfl rfl (⟨rfl,_,R.stZ (gU 10 rfl) (xU 10 rfl) rfl (gV 48 rfl) (by rfl) (by rfl) (by rfl) (by rfl) rfl,⟨rfl,_,R.asg (kB true rfl) rfl (nU rfl),tV [(10,_),(11,_)] [(10,.var _),(0,.var _),(1,.var _),(2,.var _),(3,.var _),(4,.var _),(5,.var _)] 92 rfl rfl rfl ?_⟩⟩)
       refine W.ret ?_
       exact EndsB.many' (.inr rfl) (.cons rfl rfl (show LdT _ 38 32 true from inferInstance) (.cons rfl rfl trivial .nil)) (by rw [ck_0 hc17,cl_t hc32 hc39] <;> rfl) (show [(10,false),(11,true)].Nodup by decide) rfl rfl (by rw [ck_0 hc17,cl_t hc32 hc39] <;> rfl) ⟨rfl,⟨rfl,⟨rfl,⟨rfl,⟨rfl,⟨rfl,trivial⟩⟩⟩⟩⟩⟩ rfl
     · refine W.skip ?_
       refine W.seq ?_
       refine W.l0 3 [.y 48 _] [] [] [(10,_),(48,_)] [(10,.var _),(0,.var _),(1,.var _),(2,.var _),(3,.var _),(4,.var _),(5,.var _)] 92 ⟨aU (lU 10 rfl rfl rfl rfl rfl rfl rfl),trivial⟩ rfl rfl rfl rfl (⟨rfl,_,R.stZ (gU 10 rfl) (xU 10 rfl) rfl (gV 48 rfl) (by rfl) (by rfl) (by rfl) (by rfl) rfl,⟨rfl,_,R.asg (kB true rfl) rfl (nU rfl),tV [(10,_),(11,_)] [(10,.var _),(0,.var _),(1,.var _),(2,.var _),(3,.var _),(4,.var _),(5,.var _)] 92 rfl rfl rfl ?_⟩⟩)
       refine W.ret ?_
       exact EndsB.many' (.inr rfl) (.cons rfl rfl (show LdT _ 38 32 true from inferInstance) (.cons rfl rfl trivial .nil)) (by rw [ck_0 hc17,cl_f hc32 hc39] <;> rfl) (show [(10,false),(11,true)].Nodup by decide) rfl rfl (by rw [ck_0 hc17,cl_f hc32 hc39] <;> rfl) ⟨rfl,⟨rfl,⟨rfl,⟨rfl,⟨rfl,⟨rfl,trivial⟩⟩⟩⟩⟩⟩ rfl

set_option maxHeartbeats 2000000 in
theorem cwalk1 (w : List Nat) (r : Nat) (hrow : r + 1 ≤ w.length) (hw : w.length ≤ 20) (k : Nat) (fl : List Bool) (hs ids : List Hs) (at_ : List Nat) (hk : (k + 1) * 2 ^ (r + 1) ≤ 100000) (hh : allH hs) (hl0 : hs.length ≤ 1000000) (hi : ids.length + fl.length ≤ 100000) (ha : at_.length + fl.length ≤ 100000) (ih : ∀ (k : Nat) (fl : List Bool) (hs ids : List Hs) (at_ : List Nat),(k + 1) * 2 ^ r ≤ 100000 → allH hs → hs.length ≤ 1000000 → ids.length + fl.length ≤ 100000 → at_.length + fl.length ≤ 100000 → CwP w r k fl hs ids at_) : FnB Tryd.prog gl 29 [.int ((r + 1 : Nat) : Int),.int ((k : Nat) : Int),.ptr 0 0 [],.ptr 1 0 [],.ptr 2 0 [],.ptr 3 0 [],.ptr 4 0 [],.ptr 5 0 []] [(0,.var (.sl none 1 (fl.map D.bool))),(1,.var (.sl none 32 (hs.map hashD))),(2,.var (.sl (some 38) 32 (ids.map hashD))),(3,.var (.sl (some 3) 1 (at_.map natD))),(4,.var (.fn 29 [.ptr 0 0 [],.ptr 1 0 [],.ptr 2 0 [],.ptr 3 0 [],.ptr 4 0 [],.ptr 5 0 []])),(5,.var (.sl none 1 (w.map natD)))] (.tup [hashD (ckW w (r + 1) k (fl,hs,ids,at_)).1.1,.bool (ckW w (r + 1) k (fl,hs,ids,at_)).1.2]) [(0,.var (.sl none 1 ((ckW w (r + 1) k (fl,hs,ids,at_)).2.1.map D.bool))),(1,.var (.sl none 32 ((ckW w (r + 1) k (fl,hs,ids,at_)).2.2.1.map hashD))),(2,.var (.sl (some 38) 32 ((ckW w (r + 1) k (fl,hs,ids,at_)).2.2.2.1.map hashD))),(3,.var (.sl (some 3) 1 ((ckW w (r + 1) k (fl,hs,ids,at_)).2.2.2.2.map natD))),(4,.var (.fn 29 [.ptr 0 0 [],.ptr 1 0 [],.ptr 2 0 [],.ptr 3 0 [],.ptr 4 0 [],.ptr 5 0 []])),(5,.var (.sl none 1 (w.map natD)))] [] := by
 refine FnB.of (n := 92) (ids := [0,1,2,3,4,5]) Tryd.func29 rfl rfl rfl (nU rfl) fun C hC hD => ?_
 refine W.seq ?_
 refine W.l0 2 [] [] [] [(0,_),(1,_),(2,_),(3,_),(4,_),(5,_),(6,_),(7,_)] [(0,.var _),(1,.var _),(2,.var _),(3,.var _),(4,.var _),(5,.var _)] 92 trivial rfl rfl rfl rfl (⟨rfl,_,R.alloc rfl (nU rfl),⟨rfl,_,R.asg (kB false rfl) rfl (nU rfl),tV [(0,_),(1,_),(2,_),(3,_),(4,_),(5,_),(6,_),(7,_),(10,_)] [(10,.var _),(0,.var _),(1,.var _),(2,.var _),(3,.var _),(4,.var _),(5,.var _)] 92 rfl rfl rfl ?_⟩⟩)
 refine W.seq ?_
 refine W.seq ?_
 refine W.l0 3 [.y 15 _,.y 16 _,.y 17 _] [] [] [(0,_),(1,_),(2,_),(3,_),(4,_),(5,_),(6,_),(7,_),(10,_),(17,_)] [(10,.var _),(0,.var _),(1,.var _),(2,.var _),(3,.var _),(4,.var _),(5,.var _)] 92 ⟨aU (lU 2 rfl rfl rfl rfl rfl rfl rfl),aU fun _ _ H K => R.lenE (SC.sl (K 15 _ rfl)) (List.length_map _) H,aU fun _ _ H K => R.eqlN (fl.length) (0) (eU K 16 rfl) (kI 0 rfl) H,trivial⟩ rfl rfl rfl rfl (tU rfl ?_)
 refine W.condD rfl (fun hc17 => ?_) (fun hc17 => ?_)
 · refine W.seq ?_
   refine W.l0 3 [.y 18 _] [] [] [(10,_),(18,_)] [(10,.var _),(0,.var _),(1,.var _),(2,.var _),(3,.var _),(4,.var _),(5,.var _)] 92 ⟨aU (lU 10 rfl rfl rfl rfl rfl rfl rfl),trivial⟩ rfl rfl rfl rfl (⟨rfl,_,R.stZ (gU 10 rfl) (xU 10 rfl) rfl (gV 18 rfl) (by rfl) (by rfl) (by rfl) (by rfl) rfl,⟨rfl,_,R.asg (kB false rfl) rfl (nU rfl),tV [(10,_),(11,_)] [(10,.var _),(0,.var _),(1,.var _),(2,.var _),(3,.var _),(4,.var _),(5,.var _)] 92 rfl rfl rfl ?_⟩⟩)
   refine W.ret ?_
   exact EndsB.many' (.inr rfl) (.cons rfl rfl (show LdT _ 38 32 true from inferInstance) (.cons rfl rfl trivial .nil)) (by rw [ck_1 hc17] <;> rfl) (show [(10,false),(11,true)].Nodup by decide) rfl rfl (by rw [ck_1 hc17] <;> rfl) ⟨rfl,⟨rfl,⟨rfl,⟨rfl,⟨rfl,⟨rfl,trivial⟩⟩⟩⟩⟩⟩ rfl
 · refine W.skip ?_
   refine W.seq ?_
   refine W.l0 4 [.y 19 _,.y 20 _,.y 21 _,.y 12 _] [] [] [(0,_),(1,_),(2,_),(3,_),(4,_),(5,_),(6,_),(7,_),(10,_),(12,_)] [(10,.var _),(0,.var _),(1,.var _),(2,.var _),(3,.var _),(4,.var _),(5,.var _)] 92 ⟨aU (lU 2 rfl rfl rfl rfl rfl rfl rfl),aU fun _ _ H K => R.idxN (0) (SC.sl (K 19 _ rfl)) (evoI (kI 0 rfl)) rfl bU H (by decide),aU fun _ _ H K => R.ldE (K 20 _ rfl) (SC.sl (K 19 _ rfl)) (map_get! (l := fl) bU) rfl rfl rfl rfl H,aU fun _ _ H K => R.asg (eU K 21 rfl) rfl H,trivial⟩ rfl rfl rfl rfl (tU rfl ?_)
   refine W.seq ?_
   refine W.l0 3 [.y 22 _,.y 23 _] [] [] [(0,_),(1,_),(2,_),(3,_),(4,_),(5,_),(6,_),(7,_),(10,_),(12,_),(23,_)] [(10,.var _),(0,.var _),(1,.var _),(2,.var _),(3,.var _),(4,.var _),(5,.var _)] 92 ⟨aU (lU 2 rfl rfl rfl rfl rfl rfl rfl),aU fun _ _ H K => R.slIN (1) (fl.length) ((fl.length - 1)) (eU K 22 rfl) (evoI (kI 1 rfl)) rfl rfl (by simp) bU bU rfl (show _ = (fl.drop 1).map D.bool from by rw [List.take_of_length_le (by simp)]; simp) H,trivial⟩ rfl rfl rfl rfl (⟨rfl,_,R.stZ (gU 2 rfl) (xU 0 rfl) rfl (gV 23 rfl) (by rfl) (by rfl) (by rfl) (by rfl) rfl,tV [(0,_),(1,_),(3,_),(4,_),(5,_),(6,_),(7,_),(10,_),(12,_)] [(10,.var _),(0,.var _),(1,.var _),(2,.var _),(3,.var _),(4,.var _),(5,.var _)] 92 rfl rfl rfl ?_⟩)
   refine W.seq ?_
   refine W.seq ?_
   refine W.l0 6 [.y 24 _,.y 25 _,.y 26 _,.y 27 _,.y 28 _,.y 29 _] [] [] [(0,_),(1,_),(3,_),(4,_),(5,_),(6,_),(7,_),(10,_),(12,_),(29,_)] [(10,.var _),(0,.var _),(1,.var _),(2,.var _),(3,.var _),(4,.var _),(5,.var _)] 92 ⟨mU 0 rfl rfl,aU fun _ _ H K => R.eqlN (r + 1) (0) (eU K 24 rfl) (kI 0 rfl) H,mU 25 rfl rfl,aW rfl rfl (gF (decide_eq_false (Nat.succ_ne_zero _)) rfl) fun _ _ H K => R.mov (eU K 12 rfl) rfl H,aW rfl rfl (gF (decide_eq_false (Nat.succ_ne_zero _)) rfl) fun _ _ H K => R.un (eU K 27 rfl) rfl H,aU fun _ _ H K => R.pickF (eU K 26 rfl) (decide_eq_false (Nat.succ_ne_zero _)) (eU K 28 rfl) rfl H,trivial⟩ rfl rfl rfl rfl (tU rfl ?_)
   refine W.cond rfl (fun hc29 => ?_) (fun hc29 => ?_)
   · refine W.seq ?_
     refine W.seq ?_
     refine W.l0 3 [.y 30 _,.y 31 _,.y 32 _] [] [] [(1,_),(3,_),(4,_),(5,_),(10,_),(12,_),(32,_)] [(10,.var _),(0,.var _),(1,.var _),(2,.var _),(3,.var _),(4,.var _),(5,.var _)] 92 ⟨aU (lU 3 rfl rfl rfl rfl rfl rfl rfl),aU fun _ _ H K => R.lenE (SC.sl (K 30 _ rfl)) (List.length_map _) H,aU fun _ _ H K => R.eqlN (hs.length) (0) (eU K 31 rfl) (kI 0 rfl) H,trivial⟩ rfl rfl rfl rfl (tU rfl ?_)
     refine W.condD rfl (fun hc32 => ?_) (fun hc32 => ?_)
     · refine W.seq ?_
       refine W.l0 3 [.y 33 _] [] [] [(10,_),(33,_)] [(10,.var _),(0,.var _),(1,.var _),(2,.var _),(3,.var _),(4,.var _),(5,.var _)] 92 ⟨aU (lU 10 rfl rfl rfl rfl rfl rfl rfl),trivial⟩ rfl rfl rfl rfl (⟨rfl,_,R.stZ (gU 10 rfl) (xU 10 rfl) rfl (gV 33 rfl) (by rfl) (by rfl) (by rfl) (by rfl) rfl,⟨rfl,_,R.asg (kB false rfl) rfl (nU rfl),tV [(10,_),(11,_)] [(10,.var _),(0,.var _),(1,.var _),(2,.var _),(3,.var _),(4,.var _),(5,.var _)] 92 rfl rfl rfl ?_⟩⟩)
       refine W.ret ?_
       exact EndsB.many' (.inr rfl) (.cons rfl rfl (show LdT _ 38 32 true from inferInstance) (.cons rfl rfl trivial .nil)) (by rw [ck_l hc17 (by simpa using hc29),cl_1 hc32] <;> rfl) (show [(10,false),(11,true)].Nodup by decide) rfl rfl (by rw [ck_l hc17 (by simpa using hc29),cl_1 hc32] <;> rfl) ⟨rfl,⟨rfl,⟨rfl,⟨rfl,⟨rfl,⟨rfl,trivial⟩⟩⟩⟩⟩⟩ rfl
     · refine W.skip ?_
       refine W.seq ?_
       refine W.drawE (m := 6) (an := [0,1,3,0,8,7,63]) (its := [.y 34 _,.y 35 _,.y 36 _,.y 37 _,.y 38 _,⟨97,.dead,true⟩]) (ks := [(5,97)]) (kk := []) (efs := [(5,[(10,.var _)])]) (live := [1,3,4,5,10,12,38]) (env' := [(1,_),(3,_),(4,_),(5,_),(10,_),(12,_),(38,_)]) (nd := 40) (bx1 := [(10,.var _),(0,.var _),(1,.var _),(2,.var _),(3,.var _),(4,.var _),(5,.var _)]) hP (by decide) rfl ⟨⟨104,rfl⟩,nU rfl,rfl,rfl,rfl,rfl⟩ (            ⟨⟨rfl,nU rfl,rfl,fun _ τ hb ht hτ => R.ldP (hτ 3 _ rfl) (hb 1 _ rfl) rfl rfl rfl rfl ht⟩,⟨⟨rfl,nU rfl,rfl,fun _ τ hb ht hτ => R.idxN (0) (SC.sl (hτ 34 _ rfl)) (evoI (kI 0 rfl)) rfl bU ht (by decide)⟩,⟨⟨rfl,nU rfl,rfl,fun _ τ hb ht hτ => R.ldE (hτ 35 _ rfl) (SC.sl (hτ 34 _ rfl)) (map_get! (l := hs) bU) rfl rfl rfl rfl ht⟩,⟨⟨rfl,nU rfl,rfl,fun _ τ hb ht hτ => R.ldP (hτ 3 _ rfl) (hb 1 _ rfl) rfl rfl rfl rfl ht⟩,⟨⟨rfl,nU rfl,rfl,fun _ τ hb ht hτ => R.slIN (1) (hs.length) ((hs.length - 1)) (evt (hτ 37 _ rfl)) (evoI (kI 1 rfl)) rfl rfl (by simp) bU bU rfl (show _ = (hs.drop 1).map hashD from by rw [List.take_of_length_le (by simp)]; simp) ht⟩,⟨⟨rfl,rfl,rfl,(SpE.st (p := 10) (id := 10) rfl rfl rfl (fun τ hτ => (evt (hτ 36 _ rfl))) (by rfl) (by rfl) (by rfl) (by rfl) rfl)⟩,trivial⟩⟩⟩⟩⟩⟩) rfl rfl rfl (n' := 92) rfl (⟨rfl,_,R.stZ (gU 3 rfl) (xU 1 rfl) rfl (gV 38 rfl) (by rfl) (by rfl) (by rfl) (by rfl) rfl,⟨[1,4,5,10,12],[(1,_),(4,_),(5,_),(10,_),(12,_)],[(10,.var _),(0,.var _),(1,.var _),(2,.var _),(3,.var _),(4,.var _),(5,.var _)],92,rfl,rfl,rfl, ?_⟩⟩)
       refine W.seq ?_
       refine W.seq ?_
       refine W.l0 1 [.y 39 _] [] [] [(1,_),(4,_),(5,_),(10,_),(39,_)] [(10,.var _),(0,.var _),(1,.var _),(2,.var _),(3,.var _),(4,.var _),(5,.var _)] 92 ⟨mU 12 rfl rfl,trivial⟩ rfl rfl rfl rfl (tU rfl ?_)
       refine W.condF rfl (by simpa using hc29) ?_
       refine W.skip ?_
       refine W.seq ?_
       refine W.l0 3 [.y 48 _] [] [] [(10,_),(48,_)] [(10,.var _),(0,.var _),(1,.var _),(2,.var _),(3,.var _),(4,.var _),(5,.var _)] 92 ⟨aU (lU 10 rfl rfl rfl rfl rfl rfl rfl),trivial⟩ rfl rfl rfl rfl (⟨rfl,_,R.stZ (gU 10 rfl) (xU 10 rfl) rfl (gV 48 rfl) (by rfl) (by rfl) (by rfl) (by rfl) rfl,⟨rfl,_,R.asg (kB true rfl) rfl (nU rfl),tV [(10,_),(11,_)] [(10,.var _),(0,.var _),(1,.var _),(2,.var _),(3,.var _),(4,.var _),(5,.var _)] 92 rfl rfl rfl ?_⟩⟩)
       refine W.ret ?_
       exact EndsB.many' (.inr rfl) (.cons rfl rfl (show LdT _ 38 32 true from inferInstance) (.cons rfl rfl trivial .nil)) (by rw [ck_l hc17 (by simpa using hc29),cl_f hc32 (by simpa using hc29)] <;> rfl) (show [(10,false),(11,true)].Nodup by decide) rfl rfl (by rw [ck_l hc17 (by simpa using hc29),cl_f hc32 (by simpa using hc29)] <;> rfl) ⟨rfl,⟨rfl,⟨rfl,⟨rfl,⟨rfl,⟨rfl,trivial⟩⟩⟩⟩⟩⟩ rfl
   · refine W.skip ?_
     refine W.seq ?_
     have hft : fl[0]! = true := by simpa using hc29
     have hpw : (k + 1) * 2 ^ (r + 1) = (2 * k + 1 + 1) * 2 ^ r := by rw [Nat.pow_succ,← Nat.mul_assoc,Nat.mul_right_comm,show 2 * k + 1 + 1 = (k + 1) * 2 by omega]
     have hpk : 1 ≤ 2 ^ r := Nat.one_le_two_pow
     have hkk : 2 * k + 1 + 1 ≤ 100000 := Nat.le_trans (Nat.le_mul_of_pos_right _ hpk) (by omega)
     have hk0 : (2 * k + 1) * 2 ^ r ≤ 100000 := Nat.le_trans (Nat.mul_le_mul_right _ (Nat.le_succ _)) (Nat.le_trans (Nat.le_of_eq hpw.symm) hk)
     obtain ⟨⟨a,x⟩,fl1,hs1,ids1,at1,hX⟩ : ∃ o_ f_ h_ i_ a_,ckW w r (2 * k) ((fl.drop 1),hs,ids,at_) = (o_,f_,h_,i_,a_) := ⟨_,_,_,_,_,rfl⟩
     have hXo := ckW_ok w r (2 * k) (fl.drop 1,hs,ids,at_) hh
     rw [hX] at hXo
     obtain ⟨ho1,ho2,ho3,ho4,ho5,_⟩ := hXo
     simp only [List.length_drop] at ho1 ho3 ho4 ho5
     refine W.l0 12 [.y 50 _,.y 51 _,.y 52 _,.y 53 _,.y 54 _] [] [] [(0,_),(1,_),(6,_),(7,_),(10,_),(50,_),(52,_),(54,_)] [(10,.var _),(0,.var _),(1,.var _),(2,.var _),(3,.var _),(4,.var _),(5,.var _)] 92 ⟨aU (lU 6 rfl rfl rfl rfl rfl rfl rfl),mU 0 rfl rfl,aU fun _ _ H K => R.subN (r + 1) (1) (eU K 51 rfl) (kI 1 rfl) bU bU H,mU 1 rfl rfl,aU fun _ _ H K => R.mulN (2) (k) (kI 2 rfl) (eU K 53 rfl) bU H,trivial⟩ rfl rfl rfl rfl (⟨rfl,_,R.callVB (ds := [.int ((r : Nat) : Int),.int ((2 * k : Nat) : Int)]) (caps := [.ptr 0 0 [],.ptr 1 0 [],.ptr 2 0 [],.ptr 3 0 [],.ptr 4 0 [],.ptr 5 0 []]) [(0,0),(1,1),(2,2),(3,3),(4,4),(5,5)] hC (gU 50 rfl) rfl rfl (show FnB Tryd.prog gl 29 [.int ((r : Nat) : Int),.int ((2 * k : Nat) : Int),.ptr 0 0 [],.ptr 1 0 [],.ptr 2 0 [],.ptr 3 0 [],.ptr 4 0 [],.ptr 5 0 []] [(0,.var (.sl none 1 ((fl.drop 1).map D.bool))),(1,.var (.sl none 32 (hs.map hashD))),(2,.var (.sl (some 38) 32 (ids.map hashD))),(3,.var (.sl (some 3) 1 (at_.map natD))),(4,.var (.fn 29 [.ptr 0 0 [],.ptr 1 0 [],.ptr 2 0 [],.ptr 3 0 [],.ptr 4 0 [],.ptr 5 0 []])),(5,.var (.sl none 1 (w.map natD)))] (.tup [hashD a,.bool x]) [(0,.var (.sl none 1 (fl1.map D.bool))),(1,.var (.sl none 32 (hs1.map hashD))),(2,.var (.sl (some 38) 32 (ids1.map hashD))),(3,.var (.sl (some 3) 1 (at1.map natD))),(4,.var (.fn 29 [.ptr 0 0 [],.ptr 1 0 [],.ptr 2 0 [],.ptr 3 0 [],.ptr 4 0 [],.ptr 5 0 []])),(5,.var (.sl none 1 (w.map natD)))] [] from by have h := ih (2 * k) (fl.drop 1) hs ids at_ hk0 hh hl0 (by simp only [List.length_drop]; omega) (by simp only [List.length_drop]; omega); unfold CwP at h; rw [hX] at h; exact h) (EvB.cons (gV 52 rfl) rfl rfl rfl (EvB.cons (gV 54 rfl) rfl rfl rfl EvB.nil)) rfl ⟨rfl,⟨rfl,⟨rfl,⟨rfl,⟨rfl,⟨rfl,trivial⟩⟩⟩⟩⟩⟩ ⟨rfl,⟨rfl,⟨rfl,⟨rfl,⟨rfl,⟨rfl,trivial⟩⟩⟩⟩⟩⟩ rfl rfl rfl rfl rfl rfl (nU rfl),⟨rfl,_,R.movT (gU 55 rfl) rfl (nU rfl),⟨rfl,_,R.ext (gU 49 rfl) rfl rfl (nU rfl),⟨rfl,_,R.ext (gU 49 rfl) rfl rfl (nU rfl),⟨rfl,_,R.alloc rfl (nU rfl),⟨rfl,_,R.stZ (gU 13 rfl) (xU 13 rfl) rfl (gV 56 rfl) (by rfl) (by rfl) (by rfl) (by rfl) rfl,⟨rfl,_,R.asg (gV 57 rfl) rfl (nU rfl),tV [(0,_),(1,_),(6,_),(7,_),(10,_),(11,_),(13,_)] [(13,.var _),(10,.var _),(0,.var _),(1,.var _),(2,.var _),(3,.var _),(4,.var _),(5,.var _)] 92 rfl rfl rfl ?_⟩⟩⟩⟩⟩⟩⟩)
     refine W.seq ?_
     refine W.seq ?_
     refine W.l0 2 [.y 58 _,.y 59 _] [] [] [(0,_),(1,_),(6,_),(7,_),(10,_),(13,_),(59,_)] [(13,.var _),(10,.var _),(0,.var _),(1,.var _),(2,.var _),(3,.var _),(4,.var _),(5,.var _)] 92 ⟨mU 11 rfl rfl,aU fun _ _ H K => R.un (eU K 58 rfl) rfl H,trivial⟩ rfl rfl rfl rfl (tU rfl ?_)
     refine W.cond rfl (fun hc59 => ?_) (fun hc59 => ?_)
     · refine W.seq ?_
       refine W.l0 3 [.y 60 _] [] [] [(10,_),(60,_)] [(13,.var _),(10,.var _),(0,.var _),(1,.var _),(2,.var _),(3,.var _),(4,.var _),(5,.var _)] 92 ⟨aU (lU 10 rfl rfl rfl rfl rfl rfl rfl),trivial⟩ rfl rfl rfl rfl (⟨rfl,_,R.stZ (gU 10 rfl) (xU 10 rfl) rfl (gV 60 rfl) (by rfl) (by rfl) (by rfl) (by rfl) rfl,⟨rfl,_,R.asg (kB false rfl) rfl (nU rfl),tV [(10,_),(11,_)] [(13,.var _),(10,.var _),(0,.var _),(1,.var _),(2,.var _),(3,.var _),(4,.var _),(5,.var _)] 92 rfl rfl rfl ?_⟩⟩)
       refine W.ret ?_
       exact EndsB.many' (.inr rfl) (.cons rfl rfl (show LdT _ 38 32 true from inferInstance) (.cons rfl rfl trivial .nil)) (by rw [ck_n hc17 hft hX (by simpa using hc59)] <;> rfl) (show [(10,false),(11,true)].Nodup by decide) rfl rfl (by rw [ck_n hc17 hft hX (by simpa using hc59)] <;> rfl) ⟨rfl,⟨rfl,⟨rfl,⟨rfl,⟨rfl,⟨rfl,trivial⟩⟩⟩⟩⟩⟩ rfl
     · refine W.skip ?_
       refine W.seq ?_
       refine W.seq ?_
       refine W.l0 9 [.y 61 _,.y 62 _,.y 63 _,.y 64 _,.y 65 _,.y 66 _,.y 67 _,.y 68 _,.y 69 _] [] [] [(0,_),(1,_),(6,_),(10,_),(13,_),(69,_)] [(13,.var _),(10,.var _),(0,.var _),(1,.var _),(2,.var _),(3,.var _),(4,.var _),(5,.var _)] 92 ⟨mU 1 rfl rfl,aU fun _ _ H K => R.mulN (2) (k) (kI 2 rfl) (eU K 61 rfl) bU H,aU fun _ _ H K => R.addN ((2 * k)) (1) (eU K 62 rfl) (kI 1 rfl) bU H,aU (lU 7 rfl rfl rfl rfl rfl rfl rfl),mU 0 rfl rfl,aU fun _ _ H K => R.subN (r + 1) (1) (eU K 65 rfl) (kI 1 rfl) bU bU H,aU fun _ _ H K => R.idxN ((r + 1 - 1)) (SC.sl (K 64 _ rfl)) (evoI (eU K 66 rfl)) rfl bU H (by decide),aU fun _ _ H K => R.ldE (K 67 _ rfl) (SC.sl (K 64 _ rfl)) (map_get! (l := w) bU) rfl rfl rfl rfl H,aU fun _ _ H K => R.eqlN (((2 * k) + 1)) (w[(r + 1 - 1)]!) (eU K 63 rfl) (eU K 68 rfl) H,trivial⟩ rfl rfl rfl rfl (tU rfl ?_)
       refine W.condD rfl (fun hc69 => ?_) (fun hc69 => ?_)
       · refine W.seq ?_
         refine W.l0 5 [.y 70 _,.y 71 _,.y 72 _] [] [] [(10,_),(72,_)] [(13,.var _),(10,.var _),(0,.var _),(1,.var _),(2,.var _),(3,.var _),(4,.var _),(5,.var _)] 92 ⟨aU (lU 13 rfl rfl rfl rfl rfl rfl rfl),aU (lU 13 rfl rfl rfl rfl rfl rfl rfl),aU fun _ _ H K => R.callG hC (join_ok a a ho1 ho1) (Bors.cons (Bor.pur (eU K 70 rfl) rfl rfl) (Bors.cons (Bor.pur (eU K 71 rfl) rfl rfl) Bors.nil)) (FrsR.one (frs_hash _)) H,trivial⟩ rfl rfl rfl rfl (⟨rfl,_,R.stZ (gU 10 rfl) (xU 10 rfl) rfl (gV 72 rfl) (by rfl) (by rfl) (by rfl) (by rfl) rfl,⟨rfl,_,R.asg (kB true rfl) rfl (nU rfl),tV [(10,_),(11,_)] [(13,.var _),(10,.var _),(0,.var _),(1,.var _),(2,.var _),(3,.var _),(4,.var _),(5,.var _)] 92 rfl rfl rfl ?_⟩⟩)
         refine W.ret ?_
         exact EndsB.many' (.inr rfl) (.cons rfl rfl (show LdT _ 38 32 true from inferInstance) (.cons rfl rfl trivial .nil)) (by rw [ck_s hc17 hft hX (by simpa using hc59) hc69] <;> rfl) (show [(10,false),(11,true)].Nodup by decide) rfl rfl (by rw [ck_s hc17 hft hX (by simpa using hc59) hc69] <;> rfl) ⟨rfl,⟨rfl,⟨rfl,⟨rfl,⟨rfl,⟨rfl,trivial⟩⟩⟩⟩⟩⟩ rfl
       · refine W.skip ?_
         refine W.seq ?_
         obtain ⟨⟨b,y⟩,fl2,hs2,ids2,at2,hY⟩ : ∃ o_ f_ h_ i_ a_,ckW w r (2 * k + 1) (fl1,hs1,ids1,at1) = (o_,f_,h_,i_,a_) := ⟨_,_,_,_,_,rfl⟩
         have hYo := (ckW_ok w r (2 * k + 1) (fl1,hs1,ids1,at1) ho2).h
         rw [hY] at hYo
         refine W.l0 13 [.y 74 _,.y 75 _,.y 76 _,.y 77 _,.y 78 _,.y 79 _] [] [] [(10,_),(13,_),(74,_),(76,_),(79,_)] [(13,.var _),(10,.var _),(0,.var _),(1,.var _),(2,.var _),(3,.var _),(4,.var _),(5,.var _)] 92 ⟨aU (lU 6 rfl rfl rfl rfl rfl rfl rfl),mU 0 rfl rfl,aU fun _ _ H K => R.subN (r + 1) (1) (eU K 75 rfl) (kI 1 rfl) bU bU H,mU 1 rfl rfl,aU fun _ _ H K => R.mulN (2) (k) (kI 2 rfl) (eU K 77 rfl) bU H,aU fun _ _ H K => R.addN ((2 * k)) (1) (eU K 78 rfl) (kI 1 rfl) bU H,trivial⟩ rfl rfl rfl rfl (⟨rfl,_,R.callVB (ds := [.int ((r : Nat) : Int),.int ((2 * k + 1 : Nat) : Int)]) (caps := [.ptr 0 0 [],.ptr 1 0 [],.ptr 2 0 [],.ptr 3 0 [],.ptr 4 0 [],.ptr 5 0 []]) [(0,0),(1,1),(2,2),(3,3),(4,4),(5,5)] hC (gU 74 rfl) rfl rfl (show FnB Tryd.prog gl 29 [.int ((r : Nat) : Int),.int ((2 * k + 1 : Nat) : Int),.ptr 0 0 [],.ptr 1 0 [],.ptr 2 0 [],.ptr 3 0 [],.ptr 4 0 [],.ptr 5 0 []] [(0,.var (.sl none 1 (fl1.map D.bool))),(1,.var (.sl none 32 (hs1.map hashD))),(2,.var (.sl (some 38) 32 (ids1.map hashD))),(3,.var (.sl (some 3) 1 (at1.map natD))),(4,.var (.fn 29 [.ptr 0 0 [],.ptr 1 0 [],.ptr 2 0 [],.ptr 3 0 [],.ptr 4 0 [],.ptr 5 0 []])),(5,.var (.sl none 1 (w.map natD)))] (.tup [hashD b,.bool y]) [(0,.var (.sl none 1 (fl2.map D.bool))),(1,.var (.sl none 32 (hs2.map hashD))),(2,.var (.sl (some 38) 32 (ids2.map hashD))),(3,.var (.sl (some 3) 1 (at2.map natD))),(4,.var (.fn 29 [.ptr 0 0 [],.ptr 1 0 [],.ptr 2 0 [],.ptr 3 0 [],.ptr 4 0 [],.ptr 5 0 []])),(5,.var (.sl none 1 (w.map natD)))] [] from by have h := ih (2 * k + 1) fl1 hs1 ids1 at1 (by omega) ho2 (by omega) (by omega) (by omega); unfold CwP at h; rw [hY] at h; exact h) (EvB.cons (gV 76 rfl) rfl rfl rfl (EvB.cons (gV 79 rfl) rfl rfl rfl EvB.nil)) rfl ⟨rfl,⟨rfl,⟨rfl,⟨rfl,⟨rfl,⟨rfl,trivial⟩⟩⟩⟩⟩⟩ ⟨rfl,⟨rfl,⟨rfl,⟨rfl,⟨rfl,⟨rfl,trivial⟩⟩⟩⟩⟩⟩ rfl rfl rfl rfl rfl rfl (nU rfl),⟨rfl,_,R.movT (gU 80 rfl) rfl (nU rfl),⟨rfl,_,R.ext (gU 73 rfl) rfl rfl (nU rfl),⟨rfl,_,R.ext (gU 73 rfl) rfl rfl (nU rfl),⟨rfl,_,R.alloc rfl (nU rfl),⟨rfl,_,R.stZ (gU 14 rfl) (xU 14 rfl) rfl (gV 81 rfl) (by rfl) (by rfl) (by rfl) (by rfl) rfl,⟨rfl,_,R.asg (gV 82 rfl) rfl (nU rfl),tV [(10,_),(11,_),(13,_),(14,_)] [(14,.var _),(13,.var _),(10,.var _),(0,.var _),(1,.var _),(2,.var _),(3,.var _),(4,.var _),(5,.var _)] 92 rfl rfl rfl ?_⟩⟩⟩⟩⟩⟩⟩)
         refine W.seq ?_
         by_cases hy : y = true
         · refine W.drawE (m := 10) (an := [0,0,3,0,15,31,31,127,255,31,1023]) (its := [.y 83 _,.y 84 _,.y 85 _,.y 86 _,.y 87 _,.y 88 _,.y 89 _,.y 90 _,.y 91 _,⟨101,.dead,true⟩]) (ks := [(9,101)]) (kk := []) (efs := [(9,[(10,.var _)])]) (live := [10,11,91]) (env' := [(10,_),(11,_),(91,_)]) (nd := 40) (bx1 := [(10,.var _),(14,.var _),(13,.var _),(0,.var _),(1,.var _),(2,.var _),(3,.var _),(4,.var _),(5,.var _)]) hP (by decide) rfl ⟨⟨108,rfl⟩,nU rfl,rfl,rfl,rfl,rfl⟩ (                ⟨⟨rfl,nU rfl,rfl,fun _ τ hb ht hτ => R.ldP (hτ 13 _ rfl) (hb 13 _ rfl) rfl rfl rfl rfl ht⟩,⟨⟨rfl,nU rfl,rfl,fun _ τ hb ht hτ => R.ldP (hτ 14 _ rfl) (hb 14 _ rfl) rfl rfl rfl rfl ht⟩,⟨⟨rfl,nU rfl,rfl,fun _ τ hb ht hτ => R.callG hC (join_ok a b ho1 hYo) (Bors.cons (Bor.pur (evt (hτ 83 _ rfl)) rfl rfl) (Bors.cons (Bor.pur (evt (hτ 84 _ rfl)) rfl rfl) Bors.nil)) (FrsR.one (frs_hash _)) ht⟩,⟨⟨rfl,nU rfl,rfl,fun _ τ hb ht hτ => R.mov (evt (hτ 11 _ rfl)) rfl ht⟩,⟨⟨rfl,nU rfl,rfl,fun _ τ hb ht hτ => R.mov (evt (hτ 86 _ rfl)) rfl ht⟩,⟨⟨rfl,nU rfl,⟨_,87,rfl,rfl,.inl ⟨_,rfl,gw (v := true) (hy) rfl⟩⟩,fun _ τ hb ht hτ => R.ldP (hτ 13 _ rfl) (hb 13 _ rfl) rfl rfl rfl rfl ht⟩,⟨⟨rfl,nU rfl,⟨_,87,rfl,rfl,.inl ⟨_,rfl,gw (v := true) (hy) rfl⟩⟩,fun _ τ hb ht hτ => R.ldP (hτ 14 _ rfl) (hb 14 _ rfl) rfl rfl rfl rfl ht⟩,⟨⟨rfl,nU rfl,⟨_,87,rfl,rfl,.inl ⟨_,rfl,gw (v := true) (hy) rfl⟩⟩,fun _ τ hb ht hτ => R.eqAX (evt (hτ 88 _ rfl)) (evt (hτ 89 _ rfl)) ht⟩,⟨⟨rfl,nU rfl,rfl,fun _ τ hb ht hτ => R.pickT (evt (hτ 87 _ rfl)) (hy) (evt (hτ 90 _ rfl)) rfl ht⟩,⟨⟨rfl,rfl,rfl,(SpE.st (p := 10) (id := 10) rfl rfl rfl (fun τ hτ => (evt (hτ 85 _ rfl))) (by rfl) (by rfl) (by rfl) (by rfl) rfl)⟩,trivial⟩⟩⟩⟩⟩⟩⟩⟩⟩⟩) rfl rfl rfl (n' := 92) rfl (⟨rfl,_,R.asg (gV 91 rfl) rfl (nU rfl),⟨[10,11],[(10,_),(11,_)],[(10,.var _),(14,.var _),(13,.var _),(0,.var _),(1,.var _),(2,.var _),(3,.var _),(4,.var _),(5,.var _)],92,rfl,rfl,rfl, ?_⟩⟩)
           refine W.ret ?_
           exact EndsB.many' (.inr rfl) (.cons rfl rfl (show LdT _ 38 32 true from inferInstance) (.cons rfl rfl trivial .nil)) (by rw [ck_b hc17 hft hX (by simpa using hc59) hc69 hY,hy,Bool.true_and]) (show [(10,false),(11,true)].Nodup by decide) rfl rfl (by rw [ck_b hc17 hft hX (by simpa using hc59) hc69 hY] <;> rfl) ⟨rfl,⟨rfl,⟨rfl,⟨rfl,⟨rfl,⟨rfl,trivial⟩⟩⟩⟩⟩⟩ rfl
         · refine W.drawE (m := 10) (an := [0,0,3,0,15,31,31,127,255,31,1023]) (its := [.y 83 _,.y 84 _,.y 85 _,.y 86 _,.y 87 _,.x 88,.x 89,.x 90,.y 91 _,⟨101,.dead,true⟩]) (ks := [(9,101)]) (kk := []) (efs := [(9,[(10,.var _)])]) (live := [10,11,91]) (env' := [(10,_),(11,_),(91,_)]) (nd := 40) (bx1 := [(10,.var _),(14,.var _),(13,.var _),(0,.var _),(1,.var _),(2,.var _),(3,.var _),(4,.var _),(5,.var _)]) hP (by decide) rfl ⟨⟨108,rfl⟩,nU rfl,rfl,rfl,rfl,rfl⟩ (                ⟨⟨rfl,nU rfl,rfl,fun _ τ hb ht hτ => R.ldP (hτ 13 _ rfl) (hb 13 _ rfl) rfl rfl rfl rfl ht⟩,⟨⟨rfl,nU rfl,rfl,fun _ τ hb ht hτ => R.ldP (hτ 14 _ rfl) (hb 14 _ rfl) rfl rfl rfl rfl ht⟩,⟨⟨rfl,nU rfl,rfl,fun _ τ hb ht hτ => R.callG hC (join_ok a b ho1 hYo) (Bors.cons (Bor.pur (evt (hτ 83 _ rfl)) rfl rfl) (Bors.cons (Bor.pur (evt (hτ 84 _ rfl)) rfl rfl) Bors.nil)) (FrsR.one (frs_hash _)) ht⟩,⟨⟨rfl,nU rfl,rfl,fun _ τ hb ht hτ => R.mov (evt (hτ 11 _ rfl)) rfl ht⟩,⟨⟨rfl,nU rfl,rfl,fun _ τ hb ht hτ => R.mov (evt (hτ 86 _ rfl)) rfl ht⟩,⟨⟨rfl,nU rfl,⟨_,87,rfl,rfl,.inl ⟨_,rfl,gw (v := false) (bfalse hy) rfl⟩⟩,fun h => absurd h (by decide)⟩,⟨⟨rfl,nU rfl,⟨_,87,rfl,rfl,.inl ⟨_,rfl,gw (v := false) (bfalse hy) rfl⟩⟩,fun h => absurd h (by decide)⟩,⟨⟨rfl,nU rfl,⟨_,87,rfl,rfl,.inl ⟨_,rfl,gw (v := false) (bfalse hy) rfl⟩⟩,fun h => absurd h (by decide)⟩,⟨⟨rfl,nU rfl,rfl,fun _ τ hb ht hτ => R.pickF (evt (hτ 87 _ rfl)) (bfalse hy) (kB false rfl) rfl ht⟩,⟨⟨rfl,rfl,rfl,(SpE.st (p := 10) (id := 10) rfl rfl rfl (fun τ hτ => (evt (hτ 85 _ rfl))) (by rfl) (by rfl) (by rfl) (by rfl) rfl)⟩,trivial⟩⟩⟩⟩⟩⟩⟩⟩⟩⟩) rfl rfl rfl (n' := 92) rfl (⟨rfl,_,R.asg (gV 91 rfl) rfl (nU rfl),⟨[10,11],[(10,_),(11,_)],[(10,.var _),(14,.var _),(13,.var _),(0,.var _),(1,.var _),(2,.var _),(3,.var _),(4,.var _),(5,.var _)],92,rfl,rfl,rfl, ?_⟩⟩)
           refine W.ret ?_
           exact EndsB.many' (.inr rfl) (.cons rfl rfl (show LdT _ 38 32 true from inferInstance) (.cons rfl rfl trivial .nil)) (by rw [ck_b hc17 hft hX (by simpa using hc59) hc69 hY,bfalse hy,Bool.false_and]) (show [(10,false),(11,true)].Nodup by decide) rfl rfl (by rw [ck_b hc17 hft hX (by simpa using hc59) hc69 hY] <;> rfl) ⟨rfl,⟨rfl,⟨rfl,⟨rfl,⟨rfl,⟨rfl,trivial⟩⟩⟩⟩⟩⟩ rfl

end Go.Sx

namespace Go.Sx
open Go.Proofs
theorem cwalk {w : List Nat} (hw : w.length ≤ 20) :
 ∀ (r : Nat),r ≤ w.length → ∀ (k : Nat) (fl : List Bool) (hs ids : List Hs) (at_ : List Nat),(k + 1) * 2 ^ r ≤ 100000 → allH hs → hs.length ≤ 1000000 → ids.length + fl.length ≤ 100000 → at_.length + fl.length ≤ 100000 → CwP w r k fl hs ids at_ := by
 intro r
 induction r with
 | zero => intro hr k fl hs ids at_ hk hh hl hi ha; exact cwalk0 w hr hw k fl hs ids at_ (by simpa using hk) hh hl hi ha
 | succ r ih => intro hr k fl hs ids at_ hk hh hl hi ha; exact cwalk1 w r hr hw k fl hs ids at_ hk hh hl hi ha (ih (by omega))
def wdS (n : Nat) : List Nat := wdI n (nRows n)
def ckR (n : Nat) (hs : List Hs) (fl : List Bool) : (Hs × Bool) × CS := ckW (wdS n) ((wdS n).length - 1) 0 (fl,hs,[],[])
def chkS (n : Int) (hs : List Hs) (fl : List Bool) : Hs × List Hs × List Nat × Nat :=
 if n < 1 ∨ n > 256 then (zero32,[],[],1) else if (hs.length : Int) > n ∨ fl.length < hs.length then (zero32,[],[],6) else
 if (ckR n.toNat hs fl).1.2 = true ∧ (ckR n.toNat hs fl).2.1.length = 0 ∧ (ckR n.toNat hs fl).2.2.1.length = 0 then ((ckR n.toNat hs fl).1.1,(ckR n.toNat hs fl).2.2.2.1,(ckR n.toNat hs fl).2.2.2.2,0) else (zero32,[],[],15)
section
variable {n : Int} {hs : List Hs} {fl : List Bool}
theorem chk_1 (h : n < 1) : chkS n hs fl = (zero32,[],[],1) := if_pos (.inl h)
theorem chk_2 (h : n > 256) : chkS n hs fl = (zero32,[],[],1) := if_pos (.inr h)
variable {m : Nat}
theorem chk_c (h : ¬ (m : Int) < 1) (h2 : ¬ (m : Int) > 256) : chkS (m : Int) hs fl = if m < hs.length ∨ fl.length < hs.length then (zero32,[],[],6) else
 if (ckR m hs fl).1.2 = true ∧ (ckR m hs fl).2.1.length = 0 ∧ (ckR m hs fl).2.2.1.length = 0 then ((ckR m hs fl).1.1,(ckR m hs fl).2.2.2.1,(ckR m hs fl).2.2.2.2,0) else (zero32,[],[],15) := by
 rw [chkS,if_neg (by omega)]
 by_cases h3 : m < hs.length ∨ fl.length < hs.length
 · rw [if_pos h3,if_pos (by omega)]
 · rw [if_neg h3,if_neg (by omega)]; rfl
theorem chk_3 (h : ¬ (m : Int) < 1) (h2 : ¬ (m : Int) > 256) (h3 : m < hs.length ∨ fl.length < hs.length) : chkS (m : Int) hs fl = (zero32,[],[],6) := by rw [chk_c h h2,if_pos h3]
variable {a : Hs} {x : Bool} {fl1 : List Bool} {hs1 ids1 : List Hs} {at1 : List Nat}
theorem chk_4 (h : ¬ (m : Int) < 1) (h2 : ¬ (m : Int) > 256) (h3 : ¬ m < hs.length) (h4 : ¬ fl.length < hs.length) (hX : ckW (wdI m (nRows m)) ((wdI m (nRows m)).length - 1) 0 (fl,hs,[],[]) = ((a,x),fl1,hs1,ids1,at1)) (h5 : ¬ (x = true ∧ fl1.length = 0 ∧ hs1.length = 0)) : chkS (m : Int) hs fl = (zero32,[],[],15) := by
 have hX' : ckR m hs fl = ((a,x),fl1,hs1,ids1,at1) := hX
 rw [chk_c h h2,if_neg (by intro h; exact h.elim h3 h4),hX',if_neg h5]
theorem chk_5 (h : ¬ (m : Int) < 1) (h2 : ¬ (m : Int) > 256) (h3 : ¬ m < hs.length) (h4 : ¬ fl.length < hs.length) (hX : ckW (wdI m (nRows m)) ((wdI m (nRows m)).length - 1) 0 (fl,hs,[],[]) = ((a,x),fl1,hs1,ids1,at1)) (h5 : x = true) (h6 : fl1.length = 0) (h7 : hs1.length = 0) : chkS (m : Int) hs fl = (a,ids1,at1,0) := by
 have hX' : ckR m hs fl = ((a,x),fl1,hs1,ids1,at1) := hX
 rw [chk_c h h2,if_neg (by intro h; exact h.elim h3 h4),hX',if_pos ⟨h5,h6,h7⟩]
theorem wd_len {n : Nat} (h0 : 0 < n) (h : n ≤ 256) : (wdI n (nRows n)).length = nRows n ∧ 1 ≤ nRows n ∧ nRows n ≤ 9 := ⟨wdI_len _ _,nRows_pos h0,nRows_9 _ h⟩
theorem ck_call {m : Nat} (h0 : 0 < m) (h : m ≤ 256) (hh : allH hs) (hl : hs.length ≤ 1000000) (hf : fl.length ≤ 100000) : CwP (wdI m (nRows m)) ((wdI m (nRows m)).length - 1) 0 fl hs [] [] := by
 obtain ⟨h1,h2,h3⟩ := wd_len h0 h
 have hp : 2 ^ ((wdI m (nRows m)).length - 1) ≤ 2 ^ 9 := Nat.pow_le_pow_right (by decide) (by omega)
 exact cwalk (by omega) _ (by omega) 0 fl hs [] [] (by omega) hh hl (by simp only [List.length_nil]; omega) (by simp only [List.length_nil]; omega)
end
theorem brw_nt (o : Option Nat) (z : Nat) (l : List Nat) : (D.sl o z (l.map natD)).brw = .sl none z (l.map natD) := by
 simp only [D.brw,brws_eq]
 rw [brw_map (fun _ => rfl)]
theorem wk_hs0 : Wk (.nils) (.sl none 32 (([] : List Hs).map hashD)) := .nils none 32
theorem wk_is0 : Wk (.nils) (.sl none 1 (([] : List Nat).map natD)) := .nils none 1
end Go.Sx

namespace Go.Sx
open Go.Proofs
set_option maxHeartbeats 2000000 in
theorem check_ok (n : Int) (hs : List Hs) (fl : List Bool) (hh : allH hs) (hl0 : hs.length ≤ 1000000) (hf0 : fl.length ≤ 100000) : Fn Tryd.prog gl 12 [.agg [.int n,.sl none 32 (hs.map hashD),.sl none 1 (fl.map D.bool)]] (.tup [hashD (chkS n hs fl).1,.sl none 32 ((chkS n hs fl).2.1.map hashD),.sl none 1 ((chkS n hs fl).2.2.1.map natD),.int (((chkS n hs fl).2.2.2 : Nat) : Int)]) := by
 refine Fn.of (n := 66) Tryd.func12 rfl rfl rfl (nU rfl) fun C hC hD => ?_
 refine W.seq ?_
 refine W.l0 5 [] [] [] [(0,_)] [] 66 trivial rfl rfl rfl rfl (⟨rfl,_,R.box (gV 0 rfl) rfl rfl (nU rfl),⟨rfl,_,R.alloc rfl (nU rfl),⟨rfl,_,R.alloc rfl (nU rfl),⟨rfl,_,R.alloc rfl (nU rfl),⟨rfl,_,R.asg (kI 0 rfl) rfl (nU rfl),tV [(1,_),(2,_),(3,_),(4,_)] [(4,.var _),(3,.var _),(2,.var _),(1,.var _)] 66 rfl rfl rfl ?_⟩⟩⟩⟩⟩)
 refine W.seq ?_
 refine W.block ?_
 refine W.seq ?_
 refine W.seq ?_
 by_cases hn1 : n < 1
 · refine W.l0 4 [.y 12 _,.y 13 _,.y 14 _,.y 11 _] [] [] [(1,_),(2,_),(3,_),(4,_),(11,_)] [(4,.var _),(3,.var _),(2,.var _),(1,.var _)] 66 ⟨aU (fU 1 rfl rfl),aU (lU 12 rfl rfl rfl rfl rfl rfl rfl),aU fun _ _ H K => R.bin (eU K 13 rfl) (kI 1 rfl) rfl trivial H,aU fun _ _ H K => R.asg (eU K 14 rfl) rfl H,trivial⟩ rfl rfl rfl rfl (tU rfl ?_)
   refine W.condT rfl (decide_eq_true hn1) ?_
   refine W.skip ?_
   refine W.condT rfl (decide_eq_true hn1) ?_
   refine W.seq ?_
   refine W.l0 5 [.y 18 _] [] [] [(2,_),(3,_),(4,_),(18,_)] [(4,.var _),(3,.var _),(2,.var _),(1,.var _)] 66 ⟨aU (lU 2 rfl rfl rfl rfl rfl rfl rfl),trivial⟩ rfl rfl rfl rfl (⟨rfl,_,R.stZ (gU 2 rfl) (xU 2 rfl) rfl (gV 18 rfl) (by rfl) (by rfl) (by rfl) (by rfl) rfl,⟨rfl,_,R.stZ (gU 3 rfl) (xU 3 rfl) rfl (kN rfl) (by rfl) (by rfl) (by rfl) (by rfl) rfl,⟨rfl,_,R.stZ (gU 4 rfl) (xU 4 rfl) rfl (kN rfl) (by rfl) (by rfl) (by rfl) (by rfl) rfl,⟨rfl,_,R.asg (kI 1 rfl) rfl (nU rfl),tV [(2,_),(3,_),(4,_),(5,_)] [(4,.var _),(3,.var _),(2,.var _),(1,.var _)] 66 rfl rfl rfl ?_⟩⟩⟩⟩)
   refine W.wkB 3 (d' := .sl none 32 (([] : List Hs).map hashD)) (bx' := [(4,.var _),(3,.var _),(2,.var _),(1,.var _)]) rfl wk_hs0 rfl ?_
   refine W.wkB 4 (d' := .sl none 1 (([] : List Nat).map natD)) (bx' := [(4,.var _),(3,.var _),(2,.var _),(1,.var _)]) rfl wk_is0 rfl ?_
   refine W.ret ?_
   exact Ends.many (.inr rfl) (.cons rfl rfl rfl (show LdT _ 38 32 true from inferInstance) (.cons rfl rfl rfl (show LdT _ 22 1 false from inferInstance) (.cons rfl rfl rfl (show LdT _ 40 1 false from inferInstance) (.cons rfl rfl rfl trivial .nil)))) (by rw [chk_1 hn1]; rfl) (show [(2,false),(3,false),(4,false),(5,true)].Nodup by decide)
 · refine W.l0 4 [.y 12 _,.y 13 _,.y 14 _,.y 11 _] [] [] [(1,_),(2,_),(3,_),(4,_),(11,_)] [(4,.var _),(3,.var _),(2,.var _),(1,.var _)] 66 ⟨aU (fU 1 rfl rfl),aU (lU 12 rfl rfl rfl rfl rfl rfl rfl),aU fun _ _ H K => R.bin (eU K 13 rfl) (kI 1 rfl) rfl trivial H,aU fun _ _ H K => R.asg (eU K 14 rfl) rfl H,trivial⟩ rfl rfl rfl rfl (tU rfl ?_)
   refine W.condF rfl (decide_eq_false hn1) ?_
   refine W.l0 4 [.y 15 _,.y 16 _,.y 17 _,.y 11 _] [] [] [(1,_),(2,_),(3,_),(4,_),(11,_)] [(4,.var _),(3,.var _),(2,.var _),(1,.var _)] 66 ⟨aU (fU 1 rfl rfl),aU (lU 15 rfl rfl rfl rfl rfl rfl rfl),aU fun _ _ H K => R.bin (eU K 16 rfl) (kI 256 rfl) rfl trivial H,aU fun _ _ H K => R.asg (eU K 17 rfl) rfl H,trivial⟩ rfl rfl rfl rfl (tU rfl ?_)
   refine W.cond rfl (fun hc11 => ?_) (fun hc11 => ?_)
   · refine W.seq ?_
     refine W.l0 5 [.y 18 _] [] [] [(2,_),(3,_),(4,_),(18,_)] [(4,.var _),(3,.var _),(2,.var _),(1,.var _)] 66 ⟨aU (lU 2 rfl rfl rfl rfl rfl rfl rfl),trivial⟩ rfl rfl rfl rfl (⟨rfl,_,R.stZ (gU 2 rfl) (xU 2 rfl) rfl (gV 18 rfl) (by rfl) (by rfl) (by rfl) (by rfl) rfl,⟨rfl,_,R.stZ (gU 3 rfl) (xU 3 rfl) rfl (kN rfl) (by rfl) (by rfl) (by rfl) (by rfl) rfl,⟨rfl,_,R.stZ (gU 4 rfl) (xU 4 rfl) rfl (kN rfl) (by rfl) (by rfl) (by rfl) (by rfl) rfl,⟨rfl,_,R.asg (kI 1 rfl) rfl (nU rfl),tV [(2,_),(3,_),(4,_),(5,_)] [(4,.var _),(3,.var _),(2,.var _),(1,.var _)] 66 rfl rfl rfl ?_⟩⟩⟩⟩)
     refine W.wkB 3 (d' := .sl none 32 (([] : List Hs).map hashD)) (bx' := [(4,.var _),(3,.var _),(2,.var _),(1,.var _)]) rfl wk_hs0 rfl ?_
     refine W.wkB 4 (d' := .sl none 1 (([] : List Nat).map natD)) (bx' := [(4,.var _),(3,.var _),(2,.var _),(1,.var _)]) rfl wk_is0 rfl ?_
     refine W.ret ?_
     exact Ends.many (.inr rfl) (.cons rfl rfl rfl (show LdT _ 38 32 true from inferInstance) (.cons rfl rfl rfl (show LdT _ 22 1 false from inferInstance) (.cons rfl rfl rfl (show LdT _ 40 1 false from inferInstance) (.cons rfl rfl rfl trivial .nil)))) (by rw [chk_2 (of_decide_eq_true hc11)]; rfl) (show [(2,false),(3,false),(4,false),(5,true)].Nodup by decide)
   · refine W.seq ?_
     refine W.seq ?_
     by_cases hm1 : n < (hs.length : Int)
     · have hn2 : ¬ n > 256 := of_decide_eq_false hc11
       obtain ⟨m,rfl⟩ : ∃ m : Nat,n = ((m : Nat) : Int) := ⟨n.toNat,by omega⟩
       refine W.l0 7 [.y 20 _,.y 21 _,.y 22 _,.y 23 _,.y 24 _,.y 25 _,.y 19 _] [] [] [(1,_),(2,_),(3,_),(4,_),(19,_)] [(4,.var _),(3,.var _),(2,.var _),(1,.var _)] 66 ⟨aU (fU 1 rfl rfl),aU (lU 20 rfl rfl rfl rfl rfl rfl rfl),aU fun _ _ H K => R.lenE (SC.sl (K 21 _ rfl)) (List.length_map _) H,aU (fU 1 rfl rfl),aU (lU 23 rfl rfl rfl rfl rfl rfl rfl),aU fun _ _ H K => R.gtrN (hs.length) (m) (eU K 22 rfl) (eU K 24 rfl) H,aU fun _ _ H K => R.asg (eU K 25 rfl) rfl H,trivial⟩ rfl rfl rfl rfl (tU rfl ?_)
       refine W.condT rfl (decide_eq_true (by omega)) ?_
       refine W.skip ?_
       refine W.condT rfl (decide_eq_true (by omega)) ?_
       refine W.seq ?_
       refine W.l0 5 [.y 33 _] [] [] [(2,_),(3,_),(4,_),(33,_)] [(4,.var _),(3,.var _),(2,.var _),(1,.var _)] 66 ⟨aU (lU 2 rfl rfl rfl rfl rfl rfl rfl),trivial⟩ rfl rfl rfl rfl (⟨rfl,_,R.stZ (gU 2 rfl) (xU 2 rfl) rfl (gV 33 rfl) (by rfl) (by rfl) (by rfl) (by rfl) rfl,⟨rfl,_,R.stZ (gU 3 rfl) (xU 3 rfl) rfl (kN rfl) (by rfl) (by rfl) (by rfl) (by rfl) rfl,⟨rfl,_,R.stZ (gU 4 rfl) (xU 4 rfl) rfl (kN rfl) (by rfl) (by rfl) (by rfl) (by rfl) rfl,⟨rfl,_,R.asg (kI 6 rfl) rfl (nU rfl),tV [(2,_),(3,_),(4,_),(5,_)] [(4,.var _),(3,.var _),(2,.var _),(1,.var _)] 66 rfl rfl rfl ?_⟩⟩⟩⟩)
       refine W.wkB 3 (d' := .sl none 32 (([] : List Hs).map hashD)) (bx' := [(4,.var _),(3,.var _),(2,.var _),(1,.var _)]) rfl wk_hs0 rfl ?_
       refine W.wkB 4 (d' := .sl none 1 (([] : List Nat).map natD)) (bx' := [(4,.var _),(3,.var _),(2,.var _),(1,.var _)]) rfl wk_is0 rfl ?_
       refine W.ret ?_
       exact Ends.many (.inr rfl) (.cons rfl rfl rfl (show LdT _ 38 32 true from inferInstance) (.cons rfl rfl rfl (show LdT _ 22 1 false from inferInstance) (.cons rfl rfl rfl (show LdT _ 40 1 false from inferInstance) (.cons rfl rfl rfl trivial .nil)))) (by rw [chk_3 hn1 hn2 (.inl (by omega))]; rfl) (show [(2,false),(3,false),(4,false),(5,true)].Nodup by decide)
     · have hn2 : ¬ n > 256 := of_decide_eq_false hc11
       obtain ⟨m,rfl⟩ : ∃ m : Nat,n = ((m : Nat) : Int) := ⟨n.toNat,by omega⟩
       refine W.l0 7 [.y 20 _,.y 21 _,.y 22 _,.y 23 _,.y 24 _,.y 25 _,.y 19 _] [] [] [(1,_),(2,_),(3,_),(4,_),(19,_)] [(4,.var _),(3,.var _),(2,.var _),(1,.var _)] 66 ⟨aU (fU 1 rfl rfl),aU (lU 20 rfl rfl rfl rfl rfl rfl rfl),aU fun _ _ H K => R.lenE (SC.sl (K 21 _ rfl)) (List.length_map _) H,aU (fU 1 rfl rfl),aU (lU 23 rfl rfl rfl rfl rfl rfl rfl),aU fun _ _ H K => R.gtrN (hs.length) (m) (eU K 22 rfl) (eU K 24 rfl) H,aU fun _ _ H K => R.asg (eU K 25 rfl) rfl H,trivial⟩ rfl rfl rfl rfl (tU rfl ?_)
       refine W.condF rfl (decide_eq_false (by omega)) ?_
       refine W.l0 8 [.y 26 _,.y 27 _,.y 28 _,.y 29 _,.y 30 _,.y 31 _,.y 32 _,.y 19 _] [] [] [(1,_),(2,_),(3,_),(4,_),(19,_)] [(4,.var _),(3,.var _),(2,.var _),(1,.var _)] 66 ⟨aU (fU 1 rfl rfl),aU (lU 26 rfl rfl rfl rfl rfl rfl rfl),aU fun _ _ H K => R.lenE (SC.sl (K 27 _ rfl)) (List.length_map _) H,aU (fU 1 rfl rfl),aU (lU 29 rfl rfl rfl rfl rfl rfl rfl),aU fun _ _ H K => R.lenE (SC.sl (K 30 _ rfl)) (List.length_map _) H,aU fun _ _ H K => R.lssN (fl.length) (hs.length) (eU K 28 rfl) (eU K 31 rfl) H,aU fun _ _ H K => R.asg (eU K 32 rfl) rfl H,trivial⟩ rfl rfl rfl rfl (tU rfl ?_)
       refine W.condD rfl (fun hc19 => ?_) (fun hc19 => ?_)
       · refine W.seq ?_
         refine W.l0 5 [.y 33 _] [] [] [(2,_),(3,_),(4,_),(33,_)] [(4,.var _),(3,.var _),(2,.var _),(1,.var _)] 66 ⟨aU (lU 2 rfl rfl rfl rfl rfl rfl rfl),trivial⟩ rfl rfl rfl rfl (⟨rfl,_,R.stZ (gU 2 rfl) (xU 2 rfl) rfl (gV 33 rfl) (by rfl) (by rfl) (by rfl) (by rfl) rfl,⟨rfl,_,R.stZ (gU 3 rfl) (xU 3 rfl) rfl (kN rfl) (by rfl) (by rfl) (by rfl) (by rfl) rfl,⟨rfl,_,R.stZ (gU 4 rfl) (xU 4 rfl) rfl (kN rfl) (by rfl) (by rfl) (by rfl) (by rfl) rfl,⟨rfl,_,R.asg (kI 6 rfl) rfl (nU rfl),tV [(2,_),(3,_),(4,_),(5,_)] [(4,.var _),(3,.var _),(2,.var _),(1,.var _)] 66 rfl rfl rfl ?_⟩⟩⟩⟩)
         refine W.wkB 3 (d' := .sl none 32 (([] : List Hs).map hashD)) (bx' := [(4,.var _),(3,.var _),(2,.var _),(1,.var _)]) rfl wk_hs0 rfl ?_
         refine W.wkB 4 (d' := .sl none 1 (([] : List Nat).map natD)) (bx' := [(4,.var _),(3,.var _),(2,.var _),(1,.var _)]) rfl wk_is0 rfl ?_
         refine W.ret ?_
         exact Ends.many (.inr rfl) (.cons rfl rfl rfl (show LdT _ 38 32 true from inferInstance) (.cons rfl rfl rfl (show LdT _ 22 1 false from inferInstance) (.cons rfl rfl rfl (show LdT _ 40 1 false from inferInstance) (.cons rfl rfl rfl trivial .nil)))) (by rw [chk_3 hn1 hn2 (.inr hc19)]; rfl) (show [(2,false),(3,false),(4,false),(5,true)].Nodup by decide)
       · refine W.skip ?_
         refine W.seq ?_
         obtain ⟨hw1,hw2,hw3⟩ := wd_len (n := m) (by omega) (by omega)
         refine W.l0 5 [.y 34 _,.y 35 _,.y 36 _] [] [] [(1,_),(2,_),(3,_),(4,_),(36,_)] [(4,.var _),(3,.var _),(2,.var _),(1,.var _)] 66 ⟨aU (fU 1 rfl rfl),aU (lU 34 rfl rfl rfl rfl rfl rfl rfl),aU fun _ _ H K => R.callG hC (wide_ok m (by omega) (by omega)) (Bors.cons (Bor.pur (eU K 35 rfl) rfl rfl) Bors.nil) (FrsR.one (.sl _ _ _ (frs_map fun _ => .int _))) H,trivial⟩ rfl rfl rfl rfl (⟨rfl,_,R.alloc rfl (nU rfl),⟨rfl,_,R.stOZ (gU 6 rfl) (xU 6 rfl) rfl (gU 36 rfl) rfl rfl (by rfl) (by rfl) rfl rfl,tV [(1,_),(2,_),(3,_),(4,_),(6,_)] [(6,.var _),(4,.var _),(3,.var _),(2,.var _),(1,.var _)] 66 rfl rfl rfl ?_⟩⟩)
         refine W.seq ?_
         refine W.brwB 6 (d' := .sl none 1 ((wdI m (nRows m)).map natD)) (bx' := [(6,.var _),(4,.var _),(3,.var _),(2,.var _),(1,.var _)]) rfl (brw_nt _ _ _) rfl ?_
         refine W.drawE (m := 7) (an := [0,1,0,4,0,0,51,127]) (its := [.y 37 _,.y 38 _,.y 39 _,.y 40 _,.y 7 _,.y 8 _,⟨72,.dead,true⟩]) (ks := [(6,72)]) (kk := []) (efs := [(4,[(7,.var _)]),(5,[(8,.var _)]),(6,[(7,.var _)])]) (live := [2,3,4,6,7,8,40]) (env' := [(2,_),(3,_),(4,_),(6,_),(7,_),(8,_),(40,_)]) (nd := 40) (bx1 := [(7,.var _),(8,.var _),(6,.var _),(4,.var _),(3,.var _),(2,.var _),(1,.var _)]) hP (by decide) rfl ⟨⟨79,rfl⟩,nU rfl,rfl,rfl,rfl,rfl⟩ (              ⟨⟨rfl,nU rfl,rfl,fun _ τ hb ht hτ => R.fdP (hτ 1 _ rfl) ht⟩,⟨⟨rfl,nU rfl,rfl,fun _ τ hb ht hτ => R.ldP (hτ 37 _ rfl) (hb 1 _ rfl) rfl rfl rfl rfl ht⟩,⟨⟨rfl,nU rfl,rfl,fun _ τ hb ht hτ => R.fdP (hτ 1 _ rfl) ht⟩,⟨⟨rfl,nU rfl,rfl,fun _ τ hb ht hτ => R.ldP (hτ 39 _ rfl) (hb 1 _ rfl) rfl rfl rfl rfl ht⟩,⟨⟨rfl,rfl,⟨rfl,nU rfl⟩,(SpE.alloc rfl (nU rfl))⟩,⟨⟨rfl,rfl,⟨rfl,nU rfl⟩,(SpE.alloc rfl (nU rfl))⟩,⟨⟨rfl,rfl,rfl,(SpE.st (p := 7) (id := 7) rfl rfl rfl (fun τ hτ => (evt (hτ 38 _ rfl))) (by rfl) (by rfl) (by rfl) (by rfl) rfl)⟩,trivial⟩⟩⟩⟩⟩⟩⟩) rfl rfl rfl (n' := 66) rfl (⟨rfl,_,R.stZ (gU 8 rfl) (xU 8 rfl) rfl (gV 40 rfl) (by rfl) (by rfl) (by rfl) (by rfl) rfl,⟨[2,3,4,6,7,8],[(2,_),(3,_),(4,_),(6,_),(7,_),(8,_)],[(7,.var _),(8,.var _),(6,.var _),(4,.var _),(3,.var _),(2,.var _),(1,.var _)],66,rfl,rfl,rfl, ?_⟩⟩)
         refine W.seq ?_
         refine W.l0 1 [] [] [] [(2,_),(3,_),(4,_),(6,_),(7,_),(8,_)] [(7,.var _),(8,.var _),(6,.var _),(4,.var _),(3,.var _),(2,.var _),(1,.var _)] 66 trivial rfl rfl rfl rfl (⟨rfl,_,R.alloc rfl (nU rfl),tV [(2,_),(3,_),(4,_),(6,_),(7,_),(8,_),(9,_)] [(9,.var _),(7,.var _),(8,.var _),(6,.var _),(4,.var _),(3,.var _),(2,.var _),(1,.var _)] 66 rfl rfl rfl ?_⟩)
         refine W.seq ?_
         refine W.l0 2 [.y 41 _] [] [] [(2,_),(3,_),(4,_),(6,_),(7,_),(8,_),(9,_),(41,_)] [(9,.var _),(7,.var _),(8,.var _),(6,.var _),(4,.var _),(3,.var _),(2,.var _),(1,.var _)] 66 ⟨aU fun _ _ H K => R.mkfnL (EvFs.cons (eU K 7 rfl) rfl rfl (EvFs.cons (eU K 8 rfl) rfl rfl (EvFs.cons (eU K 3 rfl) rfl rfl (EvFs.cons (eU K 4 rfl) rfl rfl (EvFs.cons (eU K 9 rfl) rfl rfl (EvFs.cons (eU K 6 rfl) rfl rfl EvFs.nil)))))) H,trivial⟩ rfl rfl rfl rfl (⟨rfl,_,R.stP (gU 9 rfl) (xU 9 rfl) rfl (gV 41 rfl) rfl rfl (by rfl) (by rfl) rfl,tV [(2,_),(3,_),(4,_),(6,_),(7,_),(8,_),(9,_)] [(9,.var _),(7,.var _),(8,.var _),(6,.var _),(4,.var _),(3,.var _),(2,.var _),(1,.var _)] 66 rfl rfl rfl ?_⟩)
         refine W.seq ?_
         refine W.asOwnP 3 [] 38 32 (bx' := [(9,.var _),(7,.var _),(8,.var _),(6,.var _),(4,.var _),(3,.var _),(2,.var _),(1,.var _)]) rfl rfl rfl rfl rfl ?_
         refine W.asOwnP 4 [] 3 1 (bx' := [(9,.var _),(7,.var _),(8,.var _),(6,.var _),(4,.var _),(3,.var _),(2,.var _),(1,.var _)]) rfl rfl rfl rfl rfl ?_
         obtain ⟨⟨a,x⟩,fl1,hs1,ids1,at1,hX⟩ : ∃ o_ f_ h_ i_ a_,ckW (wdI m (nRows m)) ((wdI m (nRows m)).length - 1) 0 (fl,hs,[],[]) = (o_,f_,h_,i_,a_) := ⟨_,_,_,_,_,rfl⟩
         obtain ⟨ho1,ho2,ho3,ho4,ho5,_⟩ := hX ▸ ckW_ok (wdI m (nRows m)) ((wdI m (nRows m)).length - 1) 0 (fl,hs,[],[]) hh
         simp only [List.length_nil] at ho1 ho3 ho4 ho5
         refine W.l0 10 [.y 43 _,.y 44 _,.y 45 _,.y 46 _] [] [] [(2,_),(3,_),(4,_),(7,_),(8,_),(43,_),(46,_)] [(9,.var _),(7,.var _),(8,.var _),(6,.var _),(4,.var _),(3,.var _),(2,.var _),(1,.var _)] 66 ⟨aU (lU 9 rfl rfl rfl rfl rfl rfl rfl),aU (lU 6 rfl rfl rfl rfl rfl rfl rfl),aU fun _ _ H K => R.lenE (SC.sl (K 44 _ rfl)) (List.length_map _) H,aU fun _ _ H K => R.subN ((wdI m (nRows m)).length) (1) (eU K 45 rfl) (kI 1 rfl) bU bU H,trivial⟩ rfl rfl rfl rfl (⟨rfl,_,R.callVB (ds := [.int ((((wdI m (nRows m)).length - 1) : Nat) : Int),.int ((0 : Nat) : Int)]) (caps := [.ptr 0 0 [],.ptr 1 0 [],.ptr 2 0 [],.ptr 3 0 [],.ptr 4 0 [],.ptr 5 0 []]) [(0,7),(1,8),(2,3),(3,4),(4,9),(5,6)] hC (gU 43 rfl) rfl rfl (show FnB Tryd.prog gl 29 [.int ((((wdI m (nRows m)).length - 1) : Nat) : Int),.int ((0 : Nat) : Int),.ptr 0 0 [],.ptr 1 0 [],.ptr 2 0 [],.ptr 3 0 [],.ptr 4 0 [],.ptr 5 0 []] [(0,.var (.sl none 1 (fl.map D.bool))),(1,.var (.sl none 32 (hs.map hashD))),(2,.var (.sl (some 38) 32 (([] : List Hs).map hashD))),(3,.var (.sl (some 3) 1 (([] : List Nat).map natD))),(4,.var (.fn 29 [.ptr 0 0 [],.ptr 1 0 [],.ptr 2 0 [],.ptr 3 0 [],.ptr 4 0 [],.ptr 5 0 []])),(5,.var (.sl none 1 ((wdI m (nRows m)).map natD)))] (.tup [hashD a,.bool x]) [(0,.var (.sl none 1 (fl1.map D.bool))),(1,.var (.sl none 32 (hs1.map hashD))),(2,.var (.sl (some 38) 32 (ids1.map hashD))),(3,.var (.sl (some 3) 1 (at1.map natD))),(4,.var (.fn 29 [.ptr 0 0 [],.ptr 1 0 [],.ptr 2 0 [],.ptr 3 0 [],.ptr 4 0 [],.ptr 5 0 []])),(5,.var (.sl none 1 ((wdI m (nRows m)).map natD)))] [] from by have h := ck_call (m := m) (by omega) (by omega) hh (by omega) hf0; unfold CwP at h; rw [hX] at h; exact h) (EvB.cons (gV 46 rfl) rfl rfl rfl (EvB.cons (kI 0 rfl) rfl rfl rfl EvB.nil)) rfl ⟨rfl,⟨rfl,⟨rfl,⟨rfl,⟨rfl,⟨rfl,trivial⟩⟩⟩⟩⟩⟩ ⟨rfl,⟨rfl,⟨rfl,⟨rfl,⟨rfl,⟨rfl,trivial⟩⟩⟩⟩⟩⟩ rfl rfl rfl rfl rfl rfl (nU rfl),⟨rfl,_,R.movT (gU 47 rfl) rfl (nU rfl),⟨rfl,_,R.ext (gU 42 rfl) rfl rfl (nU rfl),⟨rfl,_,R.ext (gU 42 rfl) rfl rfl (nU rfl),⟨rfl,_,R.stZ (gU 2 rfl) (xU 2 rfl) rfl (gV 48 rfl) (by rfl) (by rfl) (by rfl) (by rfl) rfl,⟨rfl,_,R.asg (gV 49 rfl) rfl (nU rfl),tV [(2,_),(3,_),(4,_),(7,_),(8,_),(10,_)] [(9,.var _),(7,.var _),(8,.var _),(6,.var _),(4,.var _),(3,.var _),(2,.var _),(1,.var _)] 66 rfl rfl rfl ?_⟩⟩⟩⟩⟩⟩)
         refine W.seq ?_
         refine W.seq ?_
         by_cases hx : x = true
         · by_cases hf1 : fl1.length = 0
           · refine W.l0 12 [.y 50 _,.y 51 _,.y 52 _,.y 53 _,.y 54 _,.y 55 _,.y 56 _,.y 57 _,.y 58 _,.y 59 _,.y 60 _,.y 61 _] [] [] [(2,_),(3,_),(4,_),(61,_)] [(9,.var _),(7,.var _),(8,.var _),(6,.var _),(4,.var _),(3,.var _),(2,.var _),(1,.var _)] 66 ⟨mU 10 rfl rfl,aU fun _ _ H K => R.un (eU K 50 rfl) rfl H,mU 51 rfl rfl,aW rfl rfl (gF (by rw [hx]; rfl) rfl) (lU 7 rfl rfl rfl rfl rfl rfl rfl),aW rfl rfl (gF (by rw [hx]; rfl) rfl) fun _ _ H K => R.lenE (SC.sl (K 53 _ rfl)) (List.length_map _) H,aW rfl rfl (gF (by rw [hx]; rfl) rfl) fun _ _ H K => R.gtrN (fl1.length) (0) (eU K 54 rfl) (kI 0 rfl) H,aU fun _ _ H K => R.pickF (eU K 52 rfl) (by rw [hx]; rfl) (eU K 55 rfl) rfl H,mU 56 rfl rfl,aW rfl rfl (gF (decide_eq_false (by omega)) rfl) (lU 8 rfl rfl rfl rfl rfl rfl rfl),aW rfl rfl (gF (decide_eq_false (by omega)) rfl) fun _ _ H K => R.lenE (SC.sl (K 58 _ rfl)) (List.length_map _) H,aW rfl rfl (gF (decide_eq_false (by omega)) rfl) fun _ _ H K => R.gtrN (hs1.length) (0) (eU K 59 rfl) (kI 0 rfl) H,aU fun _ _ H K => R.pickF (eU K 57 rfl) (decide_eq_false (by omega)) (eU K 60 rfl) rfl H,trivial⟩ rfl rfl rfl rfl (tU rfl ?_)
             refine W.condD rfl (fun hc61 => ?_) (fun hc61 => ?_)
             · refine W.seq ?_
               refine W.brwB 3 (d' := .sl none 32 (ids1.map hashD)) (bx' := [(9,.var _),(7,.var _),(8,.var _),(6,.var _),(4,.var _),(3,.var _),(2,.var _),(1,.var _)]) rfl (brw_hs _ _ _) rfl ?_
               refine W.brwB 4 (d' := .sl none 1 (at1.map natD)) (bx' := [(9,.var _),(7,.var _),(8,.var _),(6,.var _),(4,.var _),(3,.var _),(2,.var _),(1,.var _)]) rfl (brw_nt _ _ _) rfl ?_
               refine W.l0 5 [.y 62 _] [] [] [(2,_),(3,_),(4,_),(62,_)] [(9,.var _),(7,.var _),(8,.var _),(6,.var _),(4,.var _),(3,.var _),(2,.var _),(1,.var _)] 66 ⟨aU fun _ _ H _ => R.bldAZ rfl H,trivial⟩ rfl rfl rfl rfl (⟨rfl,_,R.stZ (gU 2 rfl) (xU 2 rfl) rfl (gV 62 rfl) (by rfl) (by rfl) (by rfl) (by rfl) rfl,⟨rfl,_,R.stZ (gU 3 rfl) (xU 3 rfl) rfl (kN rfl) (by rfl) (by rfl) (by rfl) (by rfl) rfl,⟨rfl,_,R.stZ (gU 4 rfl) (xU 4 rfl) rfl (kN rfl) (by rfl) (by rfl) (by rfl) (by rfl) rfl,⟨rfl,_,R.asg (kI 15 rfl) rfl (nU rfl),tV [(2,_),(3,_),(4,_),(5,_)] [(9,.var _),(7,.var _),(8,.var _),(6,.var _),(4,.var _),(3,.var _),(2,.var _),(1,.var _)] 66 rfl rfl rfl ?_⟩⟩⟩⟩)
               refine W.wkB 3 (d' := .sl none 32 (([] : List Hs).map hashD)) (bx' := [(9,.var _),(7,.var _),(8,.var _),(6,.var _),(4,.var _),(3,.var _),(2,.var _),(1,.var _)]) rfl wk_hs0 rfl ?_
               refine W.wkB 4 (d' := .sl none 1 (([] : List Nat).map natD)) (bx' := [(9,.var _),(7,.var _),(8,.var _),(6,.var _),(4,.var _),(3,.var _),(2,.var _),(1,.var _)]) rfl wk_is0 rfl ?_
               refine W.ret ?_
               exact Ends.many (.inr rfl) (.cons rfl rfl rfl (show LdT _ 38 32 true from inferInstance) (.cons rfl rfl rfl (show LdT _ 22 1 false from inferInstance) (.cons rfl rfl rfl (show LdT _ 40 1 false from inferInstance) (.cons rfl rfl rfl trivial .nil)))) (by rw [chk_4 hn1 hn2 (by omega) hc19 hX (by rintro ⟨_,_,h⟩; omega)]; rfl) (show [(2,false),(3,false),(4,false),(5,true)].Nodup by decide)
             · refine W.skip ?_
               refine W.seq ?_
               refine W.brwB 3 (d' := .sl none 32 (ids1.map hashD)) (bx' := [(9,.var _),(7,.var _),(8,.var _),(6,.var _),(4,.var _),(3,.var _),(2,.var _),(1,.var _)]) rfl (brw_hs _ _ _) rfl ?_
               refine W.brwB 4 (d' := .sl none 1 (at1.map natD)) (bx' := [(9,.var _),(7,.var _),(8,.var _),(6,.var _),(4,.var _),(3,.var _),(2,.var _),(1,.var _)]) rfl (brw_nt _ _ _) rfl ?_
               refine W.drawE (m := 5) (an := [0,0,0,1,11,31,63]) (its := [.y 63 _,.y 64 _,.y 65 _,⟨69,.dead,true⟩,⟨70,.dead,true⟩]) (ks := [(3,69),(4,70)]) (kk := []) (efs := [(3,[(2,.var _)]),(4,[(3,.var _)])]) (live := [2,3,4,65]) (env' := [(2,_),(3,_),(4,_),(65,_)]) (nd := 40) (bx1 := [(3,.var _),(2,.var _),(9,.var _),(7,.var _),(8,.var _),(6,.var _),(4,.var _),(1,.var _)]) hP (by decide) rfl ⟨⟨78,rfl⟩,nU rfl,rfl,rfl,rfl,rfl⟩ (                    ⟨⟨rfl,nU rfl,rfl,fun _ τ hb ht hτ => R.ldP (hτ 2 _ rfl) (hb 2 _ rfl) rfl rfl rfl rfl ht⟩,⟨⟨rfl,nU rfl,rfl,fun _ τ hb ht hτ => R.ldP (hτ 3 _ rfl) (hb 3 _ rfl) rfl rfl rfl rfl ht⟩,⟨⟨rfl,nU rfl,rfl,fun _ τ hb ht hτ => R.ldP (hτ 4 _ rfl) (hb 4 _ rfl) rfl rfl rfl rfl ht⟩,⟨⟨rfl,rfl,rfl,(SpE.st (p := 2) (id := 2) rfl rfl rfl (fun τ hτ => (evt (hτ 63 _ rfl))) (by rfl) (by rfl) (by rfl) (by rfl) rfl)⟩,⟨⟨rfl,rfl,rfl,(SpE.st (p := 3) (id := 3) rfl rfl rfl (fun τ hτ => (evt (hτ 64 _ rfl))) (by rfl) (by rfl) (by rfl) (by rfl) rfl)⟩,trivial⟩⟩⟩⟩⟩) rfl rfl rfl (n' := 66) rfl (⟨rfl,_,R.stZ (gU 4 rfl) (xU 4 rfl) rfl (gV 65 rfl) (by rfl) (by rfl) (by rfl) (by rfl) rfl,⟨rfl,_,R.asg (kI 0 rfl) rfl (nU rfl),⟨[2,3,4,5],[(2,_),(3,_),(4,_),(5,_)],[(3,.var _),(2,.var _),(9,.var _),(7,.var _),(8,.var _),(6,.var _),(4,.var _),(1,.var _)],66,rfl,rfl,rfl, ?_⟩⟩⟩)
               refine W.ret ?_
               exact Ends.many (.inr rfl) (.cons rfl rfl rfl (show LdT _ 38 32 true from inferInstance) (.cons rfl rfl rfl (show LdT _ 22 1 false from inferInstance) (.cons rfl rfl rfl (show LdT _ 40 1 false from inferInstance) (.cons rfl rfl rfl trivial .nil)))) (by rw [chk_5 hn1 hn2 (by omega) hc19 hX hx hf1 (by omega)]; rfl) (show [(2,false),(3,false),(4,false),(5,true)].Nodup by decide)
           · refine W.l0 12 [.y 50 _,.y 51 _,.y 52 _,.y 53 _,.y 54 _,.y 55 _,.y 56 _,.y 57 _,.x 58,.x 59,.x 60,.y 61 _] [] [] [(2,_),(3,_),(4,_),(61,_)] [(9,.var _),(7,.var _),(8,.var _),(6,.var _),(4,.var _),(3,.var _),(2,.var _),(1,.var _)] 66 ⟨mU 10 rfl rfl,aU fun _ _ H K => R.un (eU K 50 rfl) rfl H,mU 51 rfl rfl,aW rfl rfl (gF (by rw [hx]; rfl) rfl) (lU 7 rfl rfl rfl rfl rfl rfl rfl),aW rfl rfl (gF (by rw [hx]; rfl) rfl) fun _ _ H K => R.lenE (SC.sl (K 53 _ rfl)) (List.length_map _) H,aW rfl rfl (gF (by rw [hx]; rfl) rfl) fun _ _ H K => R.gtrN (fl1.length) (0) (eU K 54 rfl) (kI 0 rfl) H,aU fun _ _ H K => R.pickF (eU K 52 rfl) (by rw [hx]; rfl) (eU K 55 rfl) rfl H,mU 56 rfl rfl,aF rfl rfl (gT (decide_eq_true (by omega)) rfl),aF rfl rfl (gT (decide_eq_true (by omega)) rfl),aF rfl rfl (gT (decide_eq_true (by omega)) rfl),aU fun _ _ H K => R.pickT (eU K 57 rfl) (decide_eq_true (by omega)) (kB true rfl) rfl H,trivial⟩ rfl rfl rfl rfl (tU rfl ?_)
             refine W.condT rfl (rfl) ?_
             refine W.seq ?_
             refine W.brwB 3 (d' := .sl none 32 (ids1.map hashD)) (bx' := [(9,.var _),(7,.var _),(8,.var _),(6,.var _),(4,.var _),(3,.var _),(2,.var _),(1,.var _)]) rfl (brw_hs _ _ _) rfl ?_
             refine W.brwB 4 (d' := .sl none 1 (at1.map natD)) (bx' := [(9,.var _),(7,.var _),(8,.var _),(6,.var _),(4,.var _),(3,.var _),(2,.var _),(1,.var _)]) rfl (brw_nt _ _ _) rfl ?_
             refine W.l0 5 [.y 62 _] [] [] [(2,_),(3,_),(4,_),(62,_)] [(9,.var _),(7,.var _),(8,.var _),(6,.var _),(4,.var _),(3,.var _),(2,.var _),(1,.var _)] 66 ⟨aU fun _ _ H _ => R.bldAZ rfl H,trivial⟩ rfl rfl rfl rfl (⟨rfl,_,R.stZ (gU 2 rfl) (xU 2 rfl) rfl (gV 62 rfl) (by rfl) (by rfl) (by rfl) (by rfl) rfl,⟨rfl,_,R.stZ (gU 3 rfl) (xU 3 rfl) rfl (kN rfl) (by rfl) (by rfl) (by rfl) (by rfl) rfl,⟨rfl,_,R.stZ (gU 4 rfl) (xU 4 rfl) rfl (kN rfl) (by rfl) (by rfl) (by rfl) (by rfl) rfl,⟨rfl,_,R.asg (kI 15 rfl) rfl (nU rfl),tV [(2,_),(3,_),(4,_),(5,_)] [(9,.var _),(7,.var _),(8,.var _),(6,.var _),(4,.var _),(3,.var _),(2,.var _),(1,.var _)] 66 rfl rfl rfl ?_⟩⟩⟩⟩)
             refine W.wkB 3 (d' := .sl none 32 (([] : List Hs).map hashD)) (bx' := [(9,.var _),(7,.var _),(8,.var _),(6,.var _),(4,.var _),(3,.var _),(2,.var _),(1,.var _)]) rfl wk_hs0 rfl ?_
             refine W.wkB 4 (d' := .sl none 1 (([] : List Nat).map natD)) (bx' := [(9,.var _),(7,.var _),(8,.var _),(6,.var _),(4,.var _),(3,.var _),(2,.var _),(1,.var _)]) rfl wk_is0 rfl ?_
             refine W.ret ?_
             exact Ends.many (.inr rfl) (.cons rfl rfl rfl (show LdT _ 38 32 true from inferInstance) (.cons rfl rfl rfl (show LdT _ 22 1 false from inferInstance) (.cons rfl rfl rfl (show LdT _ 40 1 false from inferInstance) (.cons rfl rfl rfl trivial .nil)))) (by rw [chk_4 hn1 hn2 (by omega) hc19 hX (by rintro ⟨_,h,_⟩; omega)]; rfl) (show [(2,false),(3,false),(4,false),(5,true)].Nodup by decide)
         · refine W.l0 12 [.y 50 _,.y 51 _,.y 52 _,.x 53,.x 54,.x 55,.y 56 _,.y 57 _,.x 58,.x 59,.x 60,.y 61 _] [] [] [(2,_),(3,_),(4,_),(61,_)] [(9,.var _),(7,.var _),(8,.var _),(6,.var _),(4,.var _),(3,.var _),(2,.var _),(1,.var _)] 66 ⟨mU 10 rfl rfl,aU fun _ _ H K => R.un (eU K 50 rfl) rfl H,mU 51 rfl rfl,aF rfl rfl (gT (by rw [bfalse hx]; rfl) rfl),aF rfl rfl (gT (by rw [bfalse hx]; rfl) rfl),aF rfl rfl (gT (by rw [bfalse hx]; rfl) rfl),aU fun _ _ H K => R.pickT (eU K 52 rfl) (by rw [bfalse hx]; rfl) (kB true rfl) rfl H,mU 56 rfl rfl,aF rfl rfl (gT (rfl) rfl),aF rfl rfl (gT (rfl) rfl),aF rfl rfl (gT (rfl) rfl),aU fun _ _ H K => R.pickT (eU K 57 rfl) (rfl) (kB true rfl) rfl H,trivial⟩ rfl rfl rfl rfl (tU rfl ?_)
           refine W.condT rfl (rfl) ?_
           refine W.seq ?_
           refine W.brwB 3 (d' := .sl none 32 (ids1.map hashD)) (bx' := [(9,.var _),(7,.var _),(8,.var _),(6,.var _),(4,.var _),(3,.var _),(2,.var _),(1,.var _)]) rfl (brw_hs _ _ _) rfl ?_
           refine W.brwB 4 (d' := .sl none 1 (at1.map natD)) (bx' := [(9,.var _),(7,.var _),(8,.var _),(6,.var _),(4,.var _),(3,.var _),(2,.var _),(1,.var _)]) rfl (brw_nt _ _ _) rfl ?_
           refine W.l0 5 [.y 62 _] [] [] [(2,_),(3,_),(4,_),(62,_)] [(9,.var _),(7,.var _),(8,.var _),(6,.var _),(4,.var _),(3,.var _),(2,.var _),(1,.var _)] 66 ⟨aU fun _ _ H _ => R.bldAZ rfl H,trivial⟩ rfl rfl rfl rfl (⟨rfl,_,R.stZ (gU 2 rfl) (xU 2 rfl) rfl (gV 62 rfl) (by rfl) (by rfl) (by rfl) (by rfl) rfl,⟨rfl,_,R.stZ (gU 3 rfl) (xU 3 rfl) rfl (kN rfl) (by rfl) (by rfl) (by rfl) (by rfl) rfl,⟨rfl,_,R.stZ (gU 4 rfl) (xU 4 rfl) rfl (kN rfl) (by rfl) (by rfl) (by rfl) (by rfl) rfl,⟨rfl,_,R.asg (kI 15 rfl) rfl (nU rfl),tV [(2,_),(3,_),(4,_),(5,_)] [(9,.var _),(7,.var _),(8,.var _),(6,.var _),(4,.var _),(3,.var _),(2,.var _),(1,.var _)] 66 rfl rfl rfl ?_⟩⟩⟩⟩)
           refine W.wkB 3 (d' := .sl none 32 (([] : List Hs).map hashD)) (bx' := [(9,.var _),(7,.var _),(8,.var _),(6,.var _),(4,.var _),(3,.var _),(2,.var _),(1,.var _)]) rfl wk_hs0 rfl ?_
           refine W.wkB 4 (d' := .sl none 1 (([] : List Nat).map natD)) (bx' := [(9,.var _),(7,.var _),(8,.var _),(6,.var _),(4,.var _),(3,.var _),(2,.var _),(1,.var _)]) rfl wk_is0 rfl ?_
           refine W.ret ?_
           exact Ends.many (.inr rfl) (.cons rfl rfl rfl (show LdT _ 38 32 true from inferInstance) (.cons rfl rfl rfl (show LdT _ 22 1 false from inferInstance) (.cons rfl rfl rfl (show LdT _ 40 1 false from inferInstance) (.cons rfl rfl rfl trivial .nil)))) (by rw [chk_4 hn1 hn2 (by omega) hc19 hX (by rintro ⟨h,_,_⟩; exact hx h)]; rfl) (show [(2,false),(3,false),(4,false),(5,true)].Nodup by decide)

end Go.Sx

namespace Go.Sx

variable {P : Program} {C : Ctx} {σ σ' σ1 σ2 : Sg} {a : Act} {w w' : World} {ρ ρ2 : Nat → Nat} {Fe Fe' Fb Fb2 : Nat → List Nat}

end Go.Sx

namespace Go.Sx

variable {P : Program} {C : Ctx} {σ σ' : Sg} {a : Act} {w w' : World} {ρ : Nat → Nat} {Fe Fb : Nat → List Nat}

theorem R.sap {x : Operand} {t e n z : Nat} {l : List D} {ty rt : TypeId} {pos : String} {aft : Array Edge} {g : Option (Nat × Bool)} [hT : ArT P ty n e]
 (hx : ev C.gl σ x = some (.sl none z l)) (hl : l.length = n) (hn : 0 < n) (ht : t < σ.n) :
 OpS P C ⟨some t,.sliceToArrayPointer ty x,rt,pos,aft,g⟩ σ (σ.set t (.rp (.arr n z l))) := by
 refine OpS.value fun a w ⟨ρ,Fe,Fb,st⟩ => ?_
 obtain ⟨F,hv,_⟩ := ev_ok st hx rfl
 have hF := hv.pur rfl
 subst hF
 simp only [VR,D.isAgg,Bool.false_eq_true,if_false] at hv
 generalize hex : a.eval x = vx at hv
 cases hv with
 | slN => simp at hl; omega
 | slE => simp at hl; omega
 | slI b off cs e' fz cap _ _ hb hG hc hs hr =>
  refine ⟨.pointer (some ⟨b,off,none⟩),w, ?_,st.put ht rfl ?_⟩
  · unfold execOp
    simp [Instr.arrayAt,run_underlying hT.u,hex,hl]
  · simp only [VR,D.isAgg,Bool.false_eq_true,if_false]
    refine .rp _ b off cs e' fz hb hG (by rw [sz_arr,← hl]; exact hs) ?_
    rw [sz_arr,← hl]
    refine .arr _ z l _ rfl (by have hcs : cs.toList.length = cs.size := by { simp }; simp only [List.length_take,List.length_drop,hcs]; omega) (fun i hi => ?_)
    have h6 : i * z + z ≤ l.length * z := by
     have := Nat.mul_le_mul_right z (show i + 1 ≤ l.length by omega)
     rw [Nat.add_mul] at this; omega
    rw [sub_sub _ _ _ _ _ h6]
    exact hr i hi

theorem Fn.wkA {gl : List (Nat × D)} {f : FuncId} {ds ds' : List D} {r : D} (hw : WkL ds ds') (hF : Fn P gl f ds' r) : Fn P gl f ds r := by
 intro w G vs h1 h2 h3
 have hl := hw.len
 refine hF w G vs h1 (by omega) (fun k hk => ?_)
 have hk' : k < ds.length := by omega
 exact (h3 k hk').wk (hw.get k hk' hk)
end Go.Sx

namespace Go.Sx
open Go.Proofs
theorem sclone_ok (b : List UInt8) (hb0 : b.length ≤ 1000000000) : Fn Tryd.prog gl 43 [.sl none 1 (b.map D.u8)] (.sl (some 5) 1 (b.map D.u8)) := by
 refine Fn.of (n := 8) Tryd.func43 rfl rfl rfl (nU rfl) fun C hC hD => ?_
 refine W.seq ?_
 refine W.l0 1 [.y 2 _] [] [] [(0,_)] [] 8 ⟨aU fun _ _ H _ => R.asg (kN rfl) rfl H,trivial⟩ rfl rfl rfl rfl (tU rfl ?_)
 refine W.seq ?_
 refine W.seq ?_
 refine W.region (WL.cons rfl (R.mov (gV 0 rfl) rfl (nU rfl)) (WL.nilq (SC.sl (gU 3 rfl)) (nU rfl) (fun b__ hb__ => WL.nil ?_)))
 show W _ _ _ _ _
 refine W.dropS (live := [0,4]) (env' := [(0,_),(4,_)]) (bx' := []) (n' := 8) rfl rfl rfl ?_
 refine W.cond rfl (fun hc4 => ?_) (fun hc4 => ?_)
 · refine W.seq ?_
   refine W.l0 1 [.y 2 _] [] [] [(2,_)] [] 8 ⟨aU fun _ _ H _ => R.asg (kN rfl) rfl H,trivial⟩ rfl rfl rfl rfl (tU rfl ?_)
   refine W.asOwn (s := 2) 5 1 rfl ?_
   refine W.ret ?_
   exact Ends.one' (.inr rfl) rfl (by obtain rfl := nil_of hb__ hc4; rfl) rfl rfl trivial
 · refine W.skip ?_
   refine W.seq ?_
   refine W.l0 4 [.y 5 _,.y 6 _,.y 7 _,.y 2 _] [(2,5),(3,7)] [(2,5),(3,7)] [(2,_)] [] 8 ⟨aU fun _ _ H _ => R.bslE .nil trivial rfl H (by decide),mU 0 rfl rfl,aU fun _ _ H K => R.appE (Or.inl rfl) (K 5 _ rfl) (SrcO.sc (SC.sl (K 6 _ rfl)) (pur_map (fun _ => rfl))) (List.nil_append _) bU H (by decide) (by decide),aU fun _ _ H K => R.asgO (K 7 _ rfl) rfl H (by decide),trivial⟩ rfl rfl rfl rfl (tU rfl ?_)
   refine W.ret ?_
   exact Ends.one' (.inr rfl) rfl (rfl) rfl rfl trivial

theorem oright_ok (n : Nat) : Fn Tryd.prog gl 44 [.int ((n : Nat) : Int)] (.bool (szB n)) := by
 refine Fn.of (n := 9) Tryd.func44 rfl rfl rfl (nU rfl) fun C hC hD => ?_
 refine W.seq ?_
 refine W.l0 1 [.y 2 _] [] [] [(0,_)] [] 9 ⟨aU fun _ _ H _ => R.asg (kB false rfl) rfl H,trivial⟩ rfl rfl rfl rfl (tU rfl ?_)
 refine W.seq ?_
 refine W.seq ?_
 refine W.l0 1 [.y 3 _] [] [] [(3,_)] [] 9 ⟨mU 0 rfl rfl,trivial⟩ rfl rfl rfl rfl (tU rfl ?_)
 refine W.block ?_
 refine W.seq ?_
 refine W.seq ?_
 refine W.l0 2 [.y 5 _,.y 4 _] [] [] [(3,_),(4,_)] [] 9 ⟨aU fun _ _ H K => R.eqlN (n) (1) (eU K 3 rfl) (kI 1 rfl) H,aU fun _ _ H K => R.asg (eU K 5 rfl) rfl H,trivial⟩ rfl rfl rfl rfl (tU rfl ?_)
 refine W.condD rfl (fun hc4 => ?_) (fun hc4 => ?_)
 · refine W.skip ?_
   refine W.condD rfl (fun hc4 => ?_) (fun hc4 => ?_)
   · refine W.seq ?_
     refine W.l0 1 [.y 2 _] [] [] [(2,_)] [] 9 ⟨aU fun _ _ H _ => R.asg (kB true rfl) rfl H,trivial⟩ rfl rfl rfl rfl (tU rfl ?_)
     refine W.ret ?_
     exact Ends.one' (.inr rfl) rfl (by first | (exfalso; omega) | (simp [szB, *]; done) | (simp [szB]; omega)) rfl rfl trivial
   · refine W.skip ?_
     refine W.seq ?_
     refine W.l0 1 [.y 2 _] [] [] [(2,_)] [] 9 ⟨aU fun _ _ H _ => R.asg (kB false rfl) rfl H,trivial⟩ rfl rfl rfl rfl (tU rfl ?_)
     refine W.ret ?_
     exact Ends.one' (.inr rfl) rfl (by first | (exfalso; omega) | (simp [szB, *]; done) | (simp [szB]; omega)) rfl rfl trivial
 · refine W.seq ?_
   refine W.l0 2 [.y 6 _,.y 4 _] [] [] [(3,_),(4,_)] [] 9 ⟨aU fun _ _ H K => R.eqlN (n) (2) (eU K 3 rfl) (kI 2 rfl) H,aU fun _ _ H K => R.asg (eU K 6 rfl) rfl H,trivial⟩ rfl rfl rfl rfl (tU rfl ?_)
   refine W.condD rfl (fun hc4 => ?_) (fun hc4 => ?_)
   · refine W.skip ?_
     refine W.condD rfl (fun hc4 => ?_) (fun hc4 => ?_)
     · refine W.seq ?_
       refine W.l0 1 [.y 2 _] [] [] [(2,_)] [] 9 ⟨aU fun _ _ H _ => R.asg (kB true rfl) rfl H,trivial⟩ rfl rfl rfl rfl (tU rfl ?_)
       refine W.ret ?_
       exact Ends.one' (.inr rfl) rfl (by first | (exfalso; omega) | (simp [szB, *]; done) | (simp [szB]; omega)) rfl rfl trivial
     · refine W.skip ?_
       refine W.seq ?_
       refine W.l0 1 [.y 2 _] [] [] [(2,_)] [] 9 ⟨aU fun _ _ H _ => R.asg (kB false rfl) rfl H,trivial⟩ rfl rfl rfl rfl (tU rfl ?_)
       refine W.ret ?_
       exact Ends.one' (.inr rfl) rfl (by first | (exfalso; omega) | (simp [szB, *]; done) | (simp [szB]; omega)) rfl rfl trivial
   · refine W.seq ?_
     refine W.l0 2 [.y 7 _,.y 4 _] [] [] [(3,_),(4,_)] [] 9 ⟨aU fun _ _ H K => R.eqlN (n) (4) (eU K 3 rfl) (kI 4 rfl) H,aU fun _ _ H K => R.asg (eU K 7 rfl) rfl H,trivial⟩ rfl rfl rfl rfl (tU rfl ?_)
     refine W.condD rfl (fun hc4 => ?_) (fun hc4 => ?_)
     · refine W.skip ?_
       refine W.condD rfl (fun hc4 => ?_) (fun hc4 => ?_)
       · refine W.seq ?_
         refine W.l0 1 [.y 2 _] [] [] [(2,_)] [] 9 ⟨aU fun _ _ H _ => R.asg (kB true rfl) rfl H,trivial⟩ rfl rfl rfl rfl (tU rfl ?_)
         refine W.ret ?_
         exact Ends.one' (.inr rfl) rfl (by first | (exfalso; omega) | (simp [szB, *]; done) | (simp [szB]; omega)) rfl rfl trivial
       · refine W.skip ?_
         refine W.seq ?_
         refine W.l0 1 [.y 2 _] [] [] [(2,_)] [] 9 ⟨aU fun _ _ H _ => R.asg (kB false rfl) rfl H,trivial⟩ rfl rfl rfl rfl (tU rfl ?_)
         refine W.ret ?_
         exact Ends.one' (.inr rfl) rfl (by first | (exfalso; omega) | (simp [szB, *]; done) | (simp [szB]; omega)) rfl rfl trivial
     · refine W.l0 2 [.y 8 _,.y 4 _] [] [] [(4,_)] [] 9 ⟨aU fun _ _ H K => R.eqlN (n) (8) (eU K 3 rfl) (kI 8 rfl) H,aU fun _ _ H K => R.asg (eU K 8 rfl) rfl H,trivial⟩ rfl rfl rfl rfl (tU rfl ?_)
       refine W.condD rfl (fun hc4 => ?_) (fun hc4 => ?_)
       · refine W.seq ?_
         refine W.l0 1 [.y 2 _] [] [] [(2,_)] [] 9 ⟨aU fun _ _ H _ => R.asg (kB true rfl) rfl H,trivial⟩ rfl rfl rfl rfl (tU rfl ?_)
         refine W.ret ?_
         exact Ends.one' (.inr rfl) rfl (by first | (exfalso; omega) | (simp [szB, *]; done) | (simp [szB]; omega)) rfl rfl trivial
       · refine W.skip ?_
         refine W.seq ?_
         refine W.l0 1 [.y 2 _] [] [] [(2,_)] [] 9 ⟨aU fun _ _ H _ => R.asg (kB false rfl) rfl H,trivial⟩ rfl rfl rfl rfl (tU rfl ?_)
         refine W.ret ?_
         exact Ends.one' (.inr rfl) rfl (by first | (exfalso; omega) | (simp [szB, *]; done) | (simp [szB]; omega)) rfl rfl trivial

theorem oput_ok (b : List UInt8) (n : UInt64) (hb0 : b.length ≤ 1000000) : Fn Tryd.prog gl 32 [.sl none 1 (b.map D.u8),.u64 n,.int ((2 : Nat) : Int)] (.sl (some 5) 1 ((b ++ leB n 2).map D.u8)) := by
 refine Fn.of (n := 26) Tryd.func32 rfl rfl rfl (nU rfl) fun C hC hD => ?_
 refine W.seq ?_
 refine W.l0 1 [.y 6 _] [] [] [(0,_),(1,_),(2,_)] [] 26 ⟨aU fun _ _ H _ => R.asg (kN rfl) rfl H,trivial⟩ rfl rfl rfl rfl (tU rfl ?_)
 refine W.seq ?_
 refine W.l0 3 [.y 8 _,.y 9 _,.y 7 _] [(2,9)] [(2,9)] [(1,_),(2,_),(7,_)] [] 26 ⟨mU 0 rfl rfl,aU fun _ _ H K => R.callG hC (sclone_ok b (by omega)) (Bors.cons (Bor.pur (eU K 8 rfl) rfl rfl) Bors.nil) (FrsR.one (.sl _ _ _ (frs_map fun _ => .u8 _))) H,aU fun _ _ H K => R.asgO (K 9 _ rfl) rfl H (by decide),trivial⟩ rfl rfl rfl rfl (tU rfl ?_)
 refine W.seq ?_
 refine W.seq ?_
 refine W.l0 3 [.y 10 _,.y 11 _,.y 12 _] [] [] [(1,_),(2,_),(7,_),(12,_)] [] 26 ⟨mU 2 rfl rfl,aU fun _ _ H K => R.callG hC (oright_ok 2) (Bors.cons (Bor.pur (eU K 10 rfl) rfl rfl) Bors.nil) (FrsR.one (.bool _)) H,aU fun _ _ H K => R.un (eU K 11 rfl) rfl H,trivial⟩ rfl rfl rfl rfl (tU rfl ?_)
 refine W.condF rfl (by decide) ?_
 refine W.skip ?_
 refine W.seq ?_
 refine W.seq ?_
 refine W.l0 2 [.y 14 _,.y 15 _] [] [] [(1,_),(7,_),(14,_),(15,_)] [] 26 ⟨mU 2 rfl rfl,aU fun _ _ H _ => R.mov (kI 0 rfl) rfl H,trivial⟩ rfl rfl rfl rfl (tU rfl ?_)
 refine W.block ?_
 refine W.loop (α := {q__ : Nat // q__ ≤ 2}) (fun q__ => ⟨26,[(1,.u64 (shr8 n q__.1)),(7,.sl (some 5) 1 ((b ++ leB n q__.1).map D.u8)),(14,.int ((2 : Nat) : Int)),(15,.int ((q__.1 : Nat) : Int))],[]⟩) (fun q__ => 2 - q__.1) ⟨(0),bU⟩ (by simp [leB]; rfl) ?_
 rintro ⟨k,hk⟩
 show W _ _ _ _ ⟨26,[(1,.u64 (shr8 n k)),(7,.sl (some 5) 1 ((b ++ leB n k).map D.u8)),(14,.int ((2 : Nat) : Int)),(15,.int ((k : Nat) : Int))],[]⟩
 have hll := leB_len n k
 refine W.seq ?_
 refine W.l0 1 [.y 16 _] [] [] [(1,_),(7,_),(14,_),(15,_),(16,_)] [] 26 ⟨aU fun _ _ H K => R.lssN (k) (2) (eU K 15 rfl) (eU K 14 rfl) H,trivial⟩ rfl rfl rfl rfl (tU rfl ?_)
 refine W.seq ?_
 refine W.condD rfl (fun hc16 => ?_) (fun hc16 => ?_)
 · refine W.skip ?_
   refine W.seq ?_
   refine W.block ?_
   refine W.l0 9 [.y 17 _,.y 18 _,.y 19 _,.y 20 _,.y 21 _,.y 22 _,.y 23 _,.y 7 _,.y 1 _] [(4,7),(7,21),(7,17)] [(4,7),(7,21)] [(1,_),(7,_),(14,_),(15,_)] [] 26 ⟨aU fun _ _ H K => R.al (K 7 _ rfl) H (by decide),mU 1 rfl rfl,aU fun _ _ H K => R.conv (eU K 18 rfl) rfl H,aU fun _ _ H K => R.bslE (z := 1) (.cons (eU K 19 rfl) .nil) ⟨⟨rfl,rfl,rfl⟩,trivial⟩ rfl H (by decide),aU fun _ _ H K => R.appE (Or.inr (K 17 _ rfl)) (K 7 _ rfl) (SrcO.sc (SC.sl (K 20 _ rfl)) (pur_lit rfl)) (app_one) bU H (by decide) (by decide),mU 1 rfl rfl,aU fun _ _ H K => R.bin (eU K 22 rfl) (show ev _ _ (.const (.int .u64 8)) = some (.u64 8) from rfl) rfl bV H,aU fun _ _ H K => R.asgO (K 21 _ rfl) rfl H (by decide),aU fun _ _ H K => R.asg (eU K 23 rfl) rfl H,trivial⟩ rfl rfl rfl rfl (tU rfl ?_)
   refine W.l0 2 [.y 24 _,.y 15 _] [] [] [(1,_),(7,_),(14,_),(15,_)] [] 26 ⟨aU fun _ _ H K => R.addN (k) (1) (eU K 15 rfl) (kI 1 rfl) bU H,mU 24 rfl rfl,trivial⟩ rfl rfl rfl rfl (tU rfl ?_)
   exact ⟨⟨(k + 1),bU⟩,(by simp only [leB,← List.append_assoc]; rfl),(by simp only []; omega)⟩
 · obtain rfl : k = 2 := by omega
   refine W.exit ?_
   refine W.seq ?_
   refine W.l0 2 [.y 25 _,.y 6 _] [(0,7),(1,25)] [(0,7),(1,25)] [(6,_)] [] 26 ⟨aU fun _ _ H K => R.movO (K 7 _ rfl) rfl H (by decide),aU fun _ _ H K => R.asgO (K 25 _ rfl) rfl H (by decide),trivial⟩ rfl rfl rfl rfl (tU rfl ?_)
   refine W.ret ?_
   exact Ends.one' (.inr rfl) rfl (rfl) rfl rfl trivial

theorem otake_ok (b : List UInt8) (m : Nat) (hb0 : b.length ≤ 1000000) (hm : m ≤ 1000000) : Fn Tryd.prog gl 35 [.sl none 1 (b.map D.u8),.int ((m : Nat) : Int),.int ((2 : Nat) : Int)] (.tup [.u64 (takS b m).1,.int (((takS b m).2.1 : Nat) : Int),.int (((takS b m).2.2 : Nat) : Int)]) := by
 refine Fn.of (n := 52) Tryd.func35 rfl rfl rfl (nU rfl) fun C hC hD => ?_
 refine W.seq ?_
 refine W.l0 3 [.y 6 _,.y 7 _,.y 8 _] [] [] [(0,_),(1,_),(2,_),(6,_)] [] 52 ⟨aU fun _ _ H _ => R.asg (show ev _ _ (.const (.int .u64 0)) = some (.u64 0) from rfl) rfl H,aU fun _ _ H _ => R.asg (kI 0 rfl) rfl H,aU fun _ _ H _ => R.asg (kI 0 rfl) rfl H,trivial⟩ rfl rfl rfl rfl (tU rfl ?_)
 refine W.seq ?_
 refine W.block ?_
 refine W.seq ?_
 refine W.seq ?_
 refine W.l0 4 [.y 12 _,.y 13 _,.y 14 _,.y 11 _] [] [] [(0,_),(1,_),(2,_),(6,_),(11,_)] [] 52 ⟨mU 2 rfl rfl,aU fun _ _ H K => R.callG hC (oright_ok 2) (Bors.cons (Bor.pur (eU K 12 rfl) rfl rfl) Bors.nil) (FrsR.one (.bool _)) H,aU fun _ _ H K => R.un (eU K 13 rfl) rfl H,aU fun _ _ H K => R.asg (eU K 14 rfl) rfl H,trivial⟩ rfl rfl rfl rfl (tU rfl ?_)
 refine W.condF rfl (by decide) ?_
 refine W.seq ?_
 refine W.l0 3 [.y 15 _,.y 16 _,.y 11 _] [] [] [(0,_),(1,_),(2,_),(6,_),(11,_)] [] 52 ⟨mU 1 rfl rfl,aU fun _ _ H K => R.lssN (m) (0) (eU K 15 rfl) (kI 0 rfl) H,aU fun _ _ H K => R.asg (eU K 16 rfl) rfl H,trivial⟩ rfl rfl rfl rfl (tU rfl ?_)
 refine W.condF rfl (decide_eq_false (Nat.not_lt_zero _)) ?_
 refine W.l0 5 [.y 17 _,.y 18 _,.y 19 _,.y 20 _,.y 11 _] [] [] [(0,_),(1,_),(2,_),(6,_),(11,_)] [] 52 ⟨mU 1 rfl rfl,mU 0 rfl rfl,aU fun _ _ H K => R.lenE (SC.sl (K 18 _ rfl)) (List.length_map _) H,aU fun _ _ H K => R.gtrN (m) (b.length) (eU K 17 rfl) (eU K 19 rfl) H,aU fun _ _ H K => R.asg (eU K 20 rfl) rfl H,trivial⟩ rfl rfl rfl rfl (tU rfl ?_)
 refine W.condD rfl (fun hc11 => ?_) (fun hc11 => ?_)
 · refine W.seq ?_
   refine W.l0 3 [.y 6 _,.y 7 _,.y 8 _] [] [] [(6,_),(7,_),(8,_)] [] 52 ⟨aU fun _ _ H _ => R.asg (show ev _ _ (.const (.int .u64 0)) = some (.u64 0) from rfl) rfl H,aU fun _ _ H _ => R.asg (kI 0 rfl) rfl H,aU fun _ _ H _ => R.asg (kI 1 rfl) rfl H,trivial⟩ rfl rfl rfl rfl (tU rfl ?_)
   refine W.ret ?_
   exact Ends.many (.inr rfl) (.cons rfl rfl rfl trivial (.cons rfl rfl rfl trivial (.cons rfl rfl rfl trivial .nil))) (by rw [takS_1 hc11]) (show [(6,true),(7,true),(8,true)].Nodup by decide)
 · refine W.seq ?_
   refine W.l0 7 [.y 22 _,.y 23 _,.y 24 _,.y 25 _,.y 26 _,.y 27 _,.y 21 _] [] [] [(0,_),(1,_),(2,_),(6,_),(21,_)] [] 52 ⟨mU 2 rfl rfl,mU 0 rfl rfl,aU fun _ _ H K => R.lenE (SC.sl (K 23 _ rfl)) (List.length_map _) H,mU 1 rfl rfl,aU fun _ _ H K => R.subN (b.length) (m) (eU K 24 rfl) (eU K 25 rfl) bU bU H,aU fun _ _ H K => R.gtrN (2) ((b.length - m)) (eU K 22 rfl) (eU K 26 rfl) H,aU fun _ _ H K => R.asg (eU K 27 rfl) rfl H,trivial⟩ rfl rfl rfl rfl (tU rfl ?_)
   refine W.condD rfl (fun hc21 => ?_) (fun hc21 => ?_)
   · refine W.seq ?_
     refine W.l0 3 [.y 6 _,.y 7 _,.y 8 _] [] [] [(6,_),(7,_),(8,_)] [] 52 ⟨aU fun _ _ H _ => R.asg (show ev _ _ (.const (.int .u64 0)) = some (.u64 0) from rfl) rfl H,aU fun _ _ H _ => R.asg (kI 0 rfl) rfl H,aU fun _ _ H _ => R.asg (kI 5 rfl) rfl H,trivial⟩ rfl rfl rfl rfl (tU rfl ?_)
     refine W.ret ?_
     exact Ends.many (.inr rfl) (.cons rfl rfl rfl trivial (.cons rfl rfl rfl trivial (.cons rfl rfl rfl trivial .nil))) (by rw [takS_2 hc11 (by omega : b.length < m + 2)]) (show [(6,true),(7,true),(8,true)].Nodup by decide)
   · refine W.skip ?_
     refine W.seq ?_
     refine W.seq ?_
     refine W.l0 8 [.y 28 _,.y 29 _,.y 30 _,.y 31 _,.y 32 _,.y 33 _,.y 34 _,.y 35 _] [] [] [(1,_),(2,_),(6,_),(33,_),(34,_),(35,_)] [] 52 ⟨mU 0 rfl rfl,mU 1 rfl rfl,mU 1 rfl rfl,mU 2 rfl rfl,aU fun _ _ H K => R.addN (m) (2) (eU K 30 rfl) (eU K 31 rfl) bU H,aU fun _ _ H K => R.slIN (m) ((m + 2)) (2) (eU K 28 rfl) (evoI (eU K 29 rfl)) (evoI (eU K 32 rfl)) rfl rfl bU bU bU (show _ = ((b.drop m).take 2).map D.u8 from by simp) H,aU fun _ _ H K => R.lenE (SC.sl (K 33 _ rfl)) (List.length_map _) H,aU fun _ _ H _ => R.mov (kI 0 rfl) rfl H,trivial⟩ rfl rfl rfl rfl (tU rfl ?_)
     refine W.block ?_
     refine W.loop (α := {q__ : Nat // q__ ≤ 2}) (fun q__ => ⟨52,[(1,.int ((m : Nat) : Int)),(2,.int ((2 : Nat) : Int)),(6,.u64 (numJ ((b.drop m).take 2) q__.1)),(33,.sl none 1 (((b.drop m).take 2).map D.u8)),(34,.int ((((b.drop m).take 2).length : Nat) : Int)),(35,.int ((q__.1 : Nat) : Int))],[]⟩) (fun q__ => 2 - q__.1) ⟨(0),bU⟩ rfl ?_
     rintro ⟨k,hk⟩
     show W _ _ _ _ ⟨52,[(1,.int ((m : Nat) : Int)),(2,.int ((2 : Nat) : Int)),(6,.u64 (numJ ((b.drop m).take 2) k)),(33,.sl none 1 (((b.drop m).take 2).map D.u8)),(34,.int ((((b.drop m).take 2).length : Nat) : Int)),(35,.int ((k : Nat) : Int))],[]⟩
     have hk : k ≤ 2 := hk
     have hl2 : ((b.drop m).take 2).length = 2 := by simp; omega
     refine W.seq ?_
     refine W.l0 1 [.y 36 _] [] [] [(1,_),(2,_),(6,_),(33,_),(34,_),(35,_),(36,_)] [] 52 ⟨aU fun _ _ H K => R.lssN (k) (((b.drop m).take 2).length) (eU K 35 rfl) (eU K 34 rfl) H,trivial⟩ rfl rfl rfl rfl (tU rfl ?_)
     refine W.seq ?_
     refine W.condD rfl (fun hc36 => ?_) (fun hc36 => ?_)
     · refine W.skip ?_
       refine W.seq ?_
       refine W.block ?_
       refine W.seq ?_
       refine W.l0 5 [.y 37 _,.y 38 _,.y 39 _,.y 9 _,.y 10 _] [] [] [(1,_),(2,_),(6,_),(9,_),(10,_),(33,_),(34,_),(35,_)] [] 52 ⟨mU 35 rfl rfl,aU fun _ _ H K => R.idxN (k) (SC.sl (K 33 _ rfl)) (evoI (eU K 35 rfl)) rfl bU H (by decide),aU fun _ _ H K => R.ldE (K 38 _ rfl) (SC.sl (K 33 _ rfl)) (map_get! (l := ((b.drop m).take 2)) bU) rfl rfl rfl rfl H,aU fun _ _ H K => R.asg (eU K 37 rfl) rfl H,aU fun _ _ H K => R.asg (eU K 39 rfl) rfl H,trivial⟩ rfl rfl rfl rfl (tU rfl ?_)
       refine W.l0 8 [.y 40 _,.y 41 _,.y 42 _,.y 43 _,.y 44 _,.y 45 _,.y 46 _,.y 6 _] [] [] [(1,_),(2,_),(6,_),(33,_),(34,_),(35,_)] [] 52 ⟨mU 6 rfl rfl,mU 10 rfl rfl,aU fun _ _ H K => R.conv (eU K 41 rfl) rfl H,mU 9 rfl rfl,aU fun _ _ H K => R.mulN (8) (k) (kI 8 rfl) (eU K 43 rfl) bU H,aU fun _ _ H K => R.bin (eU K 42 rfl) (eU K 44 rfl) rfl bV H,aU fun _ _ H K => R.bin (eU K 40 rfl) (eU K 45 rfl) rfl trivial H,aU fun _ _ H K => R.asg (eU K 46 rfl) rfl H,trivial⟩ rfl rfl rfl rfl (tU rfl ?_)
       refine W.l0 2 [.y 47 _,.y 35 _] [] [] [(1,_),(2,_),(6,_),(33,_),(34,_),(35,_)] [] 52 ⟨aU fun _ _ H K => R.addN (k) (1) (eU K 35 rfl) (kI 1 rfl) bU H,mU 47 rfl rfl,trivial⟩ rfl rfl rfl rfl (tU rfl ?_)
       exact ⟨⟨(k + 1),bU⟩,rfl,(by simp only []; omega)⟩
     · obtain rfl : k = 2 := by omega
       refine W.exit ?_
       refine W.seq ?_
       refine W.l0 7 [.y 48 _,.y 49 _,.y 50 _,.y 51 _,.y 6 _,.y 7 _,.y 8 _] [] [] [(6,_),(7,_),(8,_)] [] 52 ⟨mU 6 rfl rfl,mU 1 rfl rfl,mU 2 rfl rfl,aU fun _ _ H K => R.addN (m) (2) (eU K 49 rfl) (eU K 50 rfl) bU H,aU fun _ _ H K => R.asg (eU K 48 rfl) rfl H,aU fun _ _ H K => R.asg (eU K 51 rfl) rfl H,aU fun _ _ H _ => R.asg (kI 0 rfl) rfl H,trivial⟩ rfl rfl rfl rfl (tU rfl ?_)
       refine W.ret ?_
       exact Ends.many (.inr rfl) (.cons rfl rfl rfl trivial (.cons rfl rfl rfl trivial (.cons rfl rfl rfl trivial .nil))) (by rw [takS_3 hc11 (by omega : m + 2 ≤ b.length),← numJ_le2 (by omega : m + 2 ≤ b.length)]) (show [(6,true),(7,true),(8,true)].Nodup by decide)

end Go.Sx

namespace Go.Sx
open Go.Proofs
def hdI (l : List Nat) : Nat → List UInt8
 | 0 => []
 | k + 1 => hdI l k ++ leB (UInt64.ofInt ((l[k]! : Nat) : Int)) 2
theorem hdI_len (l : List Nat) (k : Nat) : (hdI l k).length = 2 * k := by
 induction k with
 | zero => rfl
 | succ k ih => simp only [hdI,List.length_append,ih,leB_len]; omega
def flatI (hs : List Hs) (k : Nat) : List UInt8 := (hs.take k).flatten
theorem flatI_succ {hs : List Hs} {k : Nat} (h : k < hs.length) : flatI hs (k + 1) = flatI hs k ++ hs[k]! := by
 unfold flatI
 rw [List.take_add_one,List.getElem?_eq_getElem h,getElem!_pos hs k h]
 simp only [List.flatten_append,Option.toList_some,List.flatten_cons,List.flatten_nil,List.append_nil]
theorem flatI_len {hs : List Hs} (hh : allH hs) (k : Nat) (h : k ≤ hs.length) : (flatI hs k).length = 32 * k := by
 induction k with
 | zero => simp [flatI]
 | succ k ih => rw [flatI_succ (by omega),List.length_append,ih (by omega),hh.get (by omega)]; omega
def pkI (fl : List Bool) : Nat → List UInt8
 | 0 => List.replicate ((fl.length + 7) / 8) 0
 | k + 1 => if fl[k]! = true then (pkI fl k).set (k / 8) ((pkI fl k)[k / 8]! ||| shl_u8 1 (k % 8)) else pkI fl k
theorem pkI_len (fl : List Bool) (k : Nat) : (pkI fl k).length = (fl.length + 7) / 8 := by
 induction k with
 | zero => simp [pkI]
 | succ k ih => simp only [pkI]; split <;> simp [ih]
def putB (m : Nat) (hs : List Hs) (fl : List Bool) : List UInt8 := hdI [m,hs.length,fl.length] 3 ++ flatI hs hs.length ++ pkI fl fl.length
def putS (n : Int) (hs : List Hs) (fl : List Bool) : List UInt8 × Nat := if n < 1 ∨ n > 256 ∨ 512 < hs.length ∨ 1024 < fl.length then ([],1) else (putB n.toNat hs fl,0)
section
variable {n : Int} {m : Nat} {hs : List Hs} {fl : List Bool}
theorem put_no (h : n < 1 ∨ n > 256 ∨ 512 < hs.length ∨ 1024 < fl.length) : putS n hs fl = ([],1) := if_pos h
theorem put_ok (h : ¬ ((m : Int) < 1 ∨ (m : Int) > 256 ∨ 512 < hs.length ∨ 1024 < fl.length)) : putS (m : Int) hs fl = (putB m hs fl,0) := by rw [putS,if_neg h]; rfl
end
theorem frs_tak (x : UInt64) (y z : Int) : FrsR (.tup [.u64 x,.int y,.int z]) := .inl ⟨_,rfl,frs_cons (.u64 _) (frs_cons (.int _) (frs_cons (.int _) frs_nil))⟩
def nsI (b : List UInt8) : Nat → List Nat
 | 0 => [0,0,0]
 | k + 1 => (nsI b k).set k (le2 b (2 * k)).toNat
theorem nsI_len (b : List UInt8) (k : Nat) : (nsI b k).length = 3 := by
 induction k with
 | zero => rfl
 | succ k ih => simp [nsI,ih]
theorem le2_lt (b : List UInt8) (k : Nat) : (le2 b k).toNat < 65536 := by
 have h1 := b[k]!.toNat_lt
 have h2 := b[k + 1]!.toNat_lt
 simp only [le2,UInt64.toNat_ofNat']
 omega
def hsI (b : List UInt8) (o : Nat) : Nat → List Hs
 | 0 => []
 | k + 1 => hsI b o k ++ [(b.drop (o + 32 * k)).take 32]
theorem hsI_len (b : List UInt8) (o k : Nat) : (hsI b o k).length = k := by
 induction k with
 | zero => rfl
 | succ k ih => simp [hsI,ih]
def bitS (b : List UInt8) (o i : Nat) : Bool := (shr_u8 b[o + i / 8]! (i % 8) &&& 1) == 1
def flI (b : List UInt8) (o k : Nat) : List Bool := (List.range k).map (bitS b o)
theorem flI_len (b : List UInt8) (o k : Nat) : (flI b o k).length = k := by simp [flI]
theorem flI_succ (b : List UInt8) (o k : Nat) : flI b o (k + 1) = flI b o k ++ [bitS b o k] := by simp [flI,List.range_succ]
def gN (b : List UInt8) : Nat × Nat × Nat := ((le2 b 0).toNat,(le2 b 2).toNat,(le2 b 4).toNat)
def gPart (b : List UInt8) : PartS := ⟨((gN b).1 : Nat),hsI b 6 (gN b).2.1,flI b (6 + 32 * (gN b).2.1) (gN b).2.2⟩
def getOk (b : List UInt8) : Prop := 6 ≤ b.length ∧ 1 ≤ (gN b).1 ∧ (gN b).1 ≤ 256 ∧ (gN b).2.1 ≤ 512 ∧ (gN b).2.2 ≤ 1024 ∧ b.length = 6 + 32 * (gN b).2.1 + ((gN b).2.2 + 7) / 8 ∧ ∀ j,(gN b).2.2 ≤ j → j < 8 * (((gN b).2.2 + 7) / 8) → bitS b (6 + 32 * (gN b).2.1) j = false
open Classical in
noncomputable def getS (b : List UInt8) : PartS × Nat := if getOk b then (gPart b,0) else (zeroP,5)
section
variable {b : List UInt8}
theorem get_no (h : ¬ getOk b) : getS b = (zeroP,5) := if_neg h
theorem get_ok (h : getOk b) : getS b = (gPart b,0) := if_pos h
end
end Go.Sx

namespace Go.Sx
open Go.Proofs
theorem pput_ok (n : Int) (hs : List Hs) (fl : List Bool) (hh : allH hs) : Fn Tryd.prog gl 14 [.agg [.int n,.sl none 32 (hs.map hashD),.sl none 1 (fl.map D.bool)]] (.tup [.sl (some 5) 1 ((putS n hs fl).1.map D.u8),.int (((putS n hs fl).2 : Nat) : Int)]) := by
 refine Fn.of (n := 91) Tryd.func14 rfl rfl rfl (nU rfl) fun C hC hD => ?_
 refine W.seq ?_
 refine W.l0 3 [] [] [] [(0,_)] [] 91 trivial rfl rfl rfl rfl (⟨rfl,_,R.box (gV 0 rfl) rfl rfl (nU rfl),⟨rfl,_,R.asg (kN rfl) rfl (nU rfl),⟨rfl,_,R.asg (kI 0 rfl) rfl (nU rfl),tV [(1,_)] [(1,.var _)] 91 rfl rfl rfl ?_⟩⟩⟩)
 refine W.seq ?_
 refine W.seq ?_
 by_cases h1 : n < 1
 · refine W.l0 20 [.y 12 _,.y 13 _,.y 14 _,.y 15 _,.x 16,.x 17,.x 18,.y 19 _,.y 20 _,.x 21,.x 22,.x 23,.x 24,.y 25 _,.y 26 _,.x 27,.x 28,.x 29,.x 30,.y 31 _] [] [] [(1,_),(31,_)] [(1,.var _)] 91 ⟨aU (fU 1 rfl rfl),aU (lU 12 rfl rfl rfl rfl rfl rfl rfl),aU fun _ _ H K => R.bin (eU K 13 rfl) (kI 1 rfl) rfl trivial H,mU 14 rfl rfl,aF rfl rfl (gT (decide_eq_true h1) rfl),aF rfl rfl (gT (decide_eq_true h1) rfl),aF rfl rfl (gT (decide_eq_true h1) rfl),aU fun _ _ H K => R.pickT (eU K 15 rfl) (decide_eq_true h1) (kB true rfl) rfl H,mU 19 rfl rfl,aF rfl rfl (gT (rfl) rfl),aF rfl rfl (gT (rfl) rfl),aF rfl rfl (gT (rfl) rfl),aF rfl rfl (gT (rfl) rfl),aU fun _ _ H K => R.pickT (eU K 20 rfl) (rfl) (kB true rfl) rfl H,mU 25 rfl rfl,aF rfl rfl (gT (rfl) rfl),aF rfl rfl (gT (rfl) rfl),aF rfl rfl (gT (rfl) rfl),aF rfl rfl (gT (rfl) rfl),aU fun _ _ H K => R.pickT (eU K 26 rfl) (rfl) (kB true rfl) rfl H,trivial⟩ rfl rfl rfl rfl (tU rfl ?_)
   refine W.condT rfl (rfl) ?_
   refine W.seq ?_
   refine W.l0 2 [.y 2 _,.y 3 _] [] [] [(2,_),(3,_)] [(1,.var _)] 91 ⟨aU fun _ _ H _ => R.asg (kN rfl) rfl H,aU fun _ _ H _ => R.asg (kI 1 rfl) rfl H,trivial⟩ rfl rfl rfl rfl (tU rfl ?_)
   refine W.asOwn (s := 2) 5 1 rfl ?_
   refine W.ret ?_
   exact Ends.many (.inr rfl) (.cons rfl rfl rfl trivial (.cons rfl rfl rfl trivial .nil)) (by rw [put_no (.inl h1)]; rfl) (show [(2,true),(3,true)].Nodup by decide)
 · by_cases h2 : n > 256
   · refine W.l0 20 [.y 12 _,.y 13 _,.y 14 _,.y 15 _,.y 16 _,.y 17 _,.y 18 _,.y 19 _,.y 20 _,.x 21,.x 22,.x 23,.x 24,.y 25 _,.y 26 _,.x 27,.x 28,.x 29,.x 30,.y 31 _] [] [] [(1,_),(31,_)] [(1,.var _)] 91 ⟨aU (fU 1 rfl rfl),aU (lU 12 rfl rfl rfl rfl rfl rfl rfl),aU fun _ _ H K => R.bin (eU K 13 rfl) (kI 1 rfl) rfl trivial H,mU 14 rfl rfl,aW rfl rfl (gF (decide_eq_false h1) rfl) (fU 1 rfl rfl),aW rfl rfl (gF (decide_eq_false h1) rfl) (lU 16 rfl rfl rfl rfl rfl rfl rfl),aW rfl rfl (gF (decide_eq_false h1) rfl) fun _ _ H K => R.bin (eU K 17 rfl) (kI 256 rfl) rfl trivial H,aU fun _ _ H K => R.pickF (eU K 15 rfl) (decide_eq_false h1) (eU K 18 rfl) rfl H,mU 19 rfl rfl,aF rfl rfl (gT (decide_eq_true h2) rfl),aF rfl rfl (gT (decide_eq_true h2) rfl),aF rfl rfl (gT (decide_eq_true h2) rfl),aF rfl rfl (gT (decide_eq_true h2) rfl),aU fun _ _ H K => R.pickT (eU K 20 rfl) (decide_eq_true h2) (kB true rfl) rfl H,mU 25 rfl rfl,aF rfl rfl (gT (rfl) rfl),aF rfl rfl (gT (rfl) rfl),aF rfl rfl (gT (rfl) rfl),aF rfl rfl (gT (rfl) rfl),aU fun _ _ H K => R.pickT (eU K 26 rfl) (rfl) (kB true rfl) rfl H,trivial⟩ rfl rfl rfl rfl (tU rfl ?_)
     refine W.condT rfl (rfl) ?_
     refine W.seq ?_
     refine W.l0 2 [.y 2 _,.y 3 _] [] [] [(2,_),(3,_)] [(1,.var _)] 91 ⟨aU fun _ _ H _ => R.asg (kN rfl) rfl H,aU fun _ _ H _ => R.asg (kI 1 rfl) rfl H,trivial⟩ rfl rfl rfl rfl (tU rfl ?_)
     refine W.asOwn (s := 2) 5 1 rfl ?_
     refine W.ret ?_
     exact Ends.many (.inr rfl) (.cons rfl rfl rfl trivial (.cons rfl rfl rfl trivial .nil)) (by rw [put_no (.inr (.inl h2))]; rfl) (show [(2,true),(3,true)].Nodup by decide)
   · by_cases h3 : 512 < hs.length
     · refine W.l0 20 [.y 12 _,.y 13 _,.y 14 _,.y 15 _,.y 16 _,.y 17 _,.y 18 _,.y 19 _,.y 20 _,.y 21 _,.y 22 _,.y 23 _,.y 24 _,.y 25 _,.y 26 _,.x 27,.x 28,.x 29,.x 30,.y 31 _] [] [] [(1,_),(31,_)] [(1,.var _)] 91 ⟨aU (fU 1 rfl rfl),aU (lU 12 rfl rfl rfl rfl rfl rfl rfl),aU fun _ _ H K => R.bin (eU K 13 rfl) (kI 1 rfl) rfl trivial H,mU 14 rfl rfl,aW rfl rfl (gF (decide_eq_false h1) rfl) (fU 1 rfl rfl),aW rfl rfl (gF (decide_eq_false h1) rfl) (lU 16 rfl rfl rfl rfl rfl rfl rfl),aW rfl rfl (gF (decide_eq_false h1) rfl) fun _ _ H K => R.bin (eU K 17 rfl) (kI 256 rfl) rfl trivial H,aU fun _ _ H K => R.pickF (eU K 15 rfl) (decide_eq_false h1) (eU K 18 rfl) rfl H,mU 19 rfl rfl,aW rfl rfl (gF (decide_eq_false h2) rfl) (fU 1 rfl rfl),aW rfl rfl (gF (decide_eq_false h2) rfl) (lU 21 rfl rfl rfl rfl rfl rfl rfl),aW rfl rfl (gF (decide_eq_false h2) rfl) fun _ _ H K => R.lenE (SC.sl (K 22 _ rfl)) (List.length_map _) H,aW rfl rfl (gF (decide_eq_false h2) rfl) fun _ _ H K => R.gtrN (hs.length) (512) (eU K 23 rfl) (kI 512 rfl) H,aU fun _ _ H K => R.pickF (eU K 20 rfl) (decide_eq_false h2) (eU K 24 rfl) rfl H,mU 25 rfl rfl,aF rfl rfl (gT (decide_eq_true h3) rfl),aF rfl rfl (gT (decide_eq_true h3) rfl),aF rfl rfl (gT (decide_eq_true h3) rfl),aF rfl rfl (gT (decide_eq_true h3) rfl),aU fun _ _ H K => R.pickT (eU K 26 rfl) (decide_eq_true h3) (kB true rfl) rfl H,trivial⟩ rfl rfl rfl rfl (tU rfl ?_)
       refine W.condT rfl (rfl) ?_
       refine W.seq ?_
       refine W.l0 2 [.y 2 _,.y 3 _] [] [] [(2,_),(3,_)] [(1,.var _)] 91 ⟨aU fun _ _ H _ => R.asg (kN rfl) rfl H,aU fun _ _ H _ => R.asg (kI 1 rfl) rfl H,trivial⟩ rfl rfl rfl rfl (tU rfl ?_)
       refine W.asOwn (s := 2) 5 1 rfl ?_
       refine W.ret ?_
       exact Ends.many (.inr rfl) (.cons rfl rfl rfl trivial (.cons rfl rfl rfl trivial .nil)) (by rw [put_no (.inr (.inr (.inl h3)))]; rfl) (show [(2,true),(3,true)].Nodup by decide)
     · refine W.l0 20 [.y 12 _,.y 13 _,.y 14 _,.y 15 _,.y 16 _,.y 17 _,.y 18 _,.y 19 _,.y 20 _,.y 21 _,.y 22 _,.y 23 _,.y 24 _,.y 25 _,.y 26 _,.y 27 _,.y 28 _,.y 29 _,.y 30 _,.y 31 _] [] [] [(1,_),(31,_)] [(1,.var _)] 91 ⟨aU (fU 1 rfl rfl),aU (lU 12 rfl rfl rfl rfl rfl rfl rfl),aU fun _ _ H K => R.bin (eU K 13 rfl) (kI 1 rfl) rfl trivial H,mU 14 rfl rfl,aW rfl rfl (gF (decide_eq_false h1) rfl) (fU 1 rfl rfl),aW rfl rfl (gF (decide_eq_false h1) rfl) (lU 16 rfl rfl rfl rfl rfl rfl rfl),aW rfl rfl (gF (decide_eq_false h1) rfl) fun _ _ H K => R.bin (eU K 17 rfl) (kI 256 rfl) rfl trivial H,aU fun _ _ H K => R.pickF (eU K 15 rfl) (decide_eq_false h1) (eU K 18 rfl) rfl H,mU 19 rfl rfl,aW rfl rfl (gF (decide_eq_false h2) rfl) (fU 1 rfl rfl),aW rfl rfl (gF (decide_eq_false h2) rfl) (lU 21 rfl rfl rfl rfl rfl rfl rfl),aW rfl rfl (gF (decide_eq_false h2) rfl) fun _ _ H K => R.lenE (SC.sl (K 22 _ rfl)) (List.length_map _) H,aW rfl rfl (gF (decide_eq_false h2) rfl) fun _ _ H K => R.gtrN (hs.length) (512) (eU K 23 rfl) (kI 512 rfl) H,aU fun _ _ H K => R.pickF (eU K 20 rfl) (decide_eq_false h2) (eU K 24 rfl) rfl H,mU 25 rfl rfl,aW rfl rfl (gF (decide_eq_false h3) rfl) (fU 1 rfl rfl),aW rfl rfl (gF (decide_eq_false h3) rfl) (lU 27 rfl rfl rfl rfl rfl rfl rfl),aW rfl rfl (gF (decide_eq_false h3) rfl) fun _ _ H K => R.lenE (SC.sl (K 28 _ rfl)) (List.length_map _) H,aW rfl rfl (gF (decide_eq_false h3) rfl) fun _ _ H K => R.gtrN (fl.length) (1024) (eU K 29 rfl) (kI 1024 rfl) H,aU fun _ _ H K => R.pickF (eU K 26 rfl) (decide_eq_false h3) (eU K 30 rfl) rfl H,trivial⟩ rfl rfl rfl rfl (tU rfl ?_)
       refine W.condD rfl (fun hc31 => ?_) (fun hc31 => ?_)
       · refine W.seq ?_
         refine W.l0 2 [.y 2 _,.y 3 _] [] [] [(2,_),(3,_)] [(1,.var _)] 91 ⟨aU fun _ _ H _ => R.asg (kN rfl) rfl H,aU fun _ _ H _ => R.asg (kI 1 rfl) rfl H,trivial⟩ rfl rfl rfl rfl (tU rfl ?_)
         refine W.asOwn (s := 2) 5 1 rfl ?_
         refine W.ret ?_
         exact Ends.many (.inr rfl) (.cons rfl rfl rfl trivial (.cons rfl rfl rfl trivial .nil)) (by rw [put_no (.inr (.inr (.inr hc31)))]; rfl) (show [(2,true),(3,true)].Nodup by decide)
       · refine W.skip ?_
         refine W.seq ?_
         obtain ⟨m,rfl⟩ : ∃ m : Nat,n = ((m : Nat) : Int) := ⟨n.toNat,by omega⟩
         have h4 : ¬ 1024 < fl.length := hc31
         refine W.l0 1 [.y 4 _] [] [] [(1,_),(4,_)] [(1,.var _)] 91 ⟨aU fun _ _ H _ => R.asg (kN rfl) rfl H,trivial⟩ rfl rfl rfl rfl (tU rfl ?_)
         refine W.seq ?_
         refine W.seq ?_
         refine W.l0 11 [.y 32 _,.y 33 _,.y 34 _,.y 35 _,.y 36 _,.y 37 _,.y 38 _,.y 39 _,.y 40 _,.y 41 _,.y 42 _] [] [] [(1,_),(4,_),(40,_),(41,_),(42,_)] [(1,.var _)] 91 ⟨aU (fU 1 rfl rfl),aU (lU 32 rfl rfl rfl rfl rfl rfl rfl),aU (fU 1 rfl rfl),aU (lU 34 rfl rfl rfl rfl rfl rfl rfl),aU fun _ _ H K => R.lenE (SC.sl (K 35 _ rfl)) (List.length_map _) H,aU (fU 1 rfl rfl),aU (lU 37 rfl rfl rfl rfl rfl rfl rfl),aU fun _ _ H K => R.lenE (SC.sl (K 38 _ rfl)) (List.length_map _) H,aU fun _ _ H K => R.bslE (z := 1) (.cons (eU K 33 rfl) (.cons (eU K 36 rfl) (.cons (eU K 39 rfl) .nil))) ⟨⟨rfl,rfl,rfl⟩,⟨rfl,rfl,rfl⟩,⟨rfl,rfl,rfl⟩,trivial⟩ rfl H (by decide),aU fun _ _ H K => R.lenE (n := 3) (SC.sl (K 40 _ rfl)) (rfl) H,aU fun _ _ H _ => R.mov (kI 0 rfl) rfl H,trivial⟩ rfl rfl rfl rfl (tU rfl ?_)
         refine W.block ?_
         refine W.asOwn (s := 4) 5 1 rfl ?_
         refine W.loop (α := {q__ : Nat // q__ ≤ 3}) (fun q__ => ⟨91,[(1,.ptr 1 0 []),(4,.sl (some 5) 1 ((hdI [m,hs.length,fl.length] q__.1).map D.u8)),(40,.sl (some 3) 1 ([m,hs.length,fl.length].map natD)),(41,.int ((3 : Nat) : Int)),(42,.int ((q__.1 : Nat) : Int))],[(1,.var (.agg [.int ((m : Nat) : Int),.sl none 32 (hs.map hashD),.sl none 1 (fl.map D.bool)]))]⟩) (fun q__ => 3 - q__.1) ⟨(0),bU⟩ rfl ?_
         rintro ⟨k,hk⟩
         show W _ _ _ _ ⟨91,[(1,.ptr 1 0 []),(4,.sl (some 5) 1 ((hdI [m,hs.length,fl.length] k).map D.u8)),(40,.sl (some 3) 1 ([m,hs.length,fl.length].map natD)),(41,.int ((3 : Nat) : Int)),(42,.int ((k : Nat) : Int))],[(1,.var (.agg [.int ((m : Nat) : Int),.sl none 32 (hs.map hashD),.sl none 1 (fl.map D.bool)]))]⟩
         have hk : k ≤ 3 := hk
         refine W.seq ?_
         refine W.l0 1 [.y 43 _] [] [] [(1,_),(4,_),(40,_),(41,_),(42,_),(43,_)] [(1,.var _)] 91 ⟨aU fun _ _ H K => R.lssN (k) (3) (eU K 42 rfl) (eU K 41 rfl) H,trivial⟩ rfl rfl rfl rfl (tU rfl ?_)
         refine W.seq ?_
         refine W.condD rfl (fun hc43 => ?_) (fun hc43 => ?_)
         · refine W.skip ?_
           refine W.seq ?_
           refine W.block ?_
           refine W.seq ?_
           refine W.l0 3 [.y 44 _,.y 45 _,.y 6 _] [] [] [(1,_),(4,_),(6,_),(40,_),(41,_),(42,_)] [(1,.var _)] 91 ⟨aU fun _ _ H K => R.idxN (k) (SC.sl (K 40 _ rfl)) (evoI (eU K 42 rfl)) rfl bU H (by decide),aU fun _ _ H K => R.ldE (K 44 _ rfl) (SC.sl (K 40 _ rfl)) (map_get! (l := [m,hs.length,fl.length]) bU) rfl rfl rfl rfl H,aU fun _ _ H K => R.asg (eU K 45 rfl) rfl H,trivial⟩ rfl rfl rfl rfl (tU rfl ?_)
           refine W.l0 5 [.y 46 _,.y 47 _,.y 48 _,.y 49 _,.y 4 _] [(4,49),(4,46)] [(4,49)] [(1,_),(4,_),(40,_),(41,_),(42,_)] [(1,.var _)] 91 ⟨aU fun _ _ H K => R.al (K 4 _ rfl) H (by decide),mU 6 rfl rfl,aU fun _ _ H K => R.convE (d := .u64 (UInt64.ofInt (([m,hs.length,fl.length][k]! : Nat) : Int))) (eU K 47 rfl) rfl (rfl) H,aU fun _ _ H K => R.callG hC (oput_ok (hdI [m,hs.length,fl.length] k) (UInt64.ofInt (([m,hs.length,fl.length][k]! : Nat) : Int)) (by rw [hdI_len]; omega)) (Bors.cons (Bor.sc (SC.al (K 46 _ rfl) (K 4 _ rfl)) (brw_map (fun _ => rfl))) (Bors.cons (Bor.pur (eU K 48 rfl) rfl rfl) (Bors.cons (Bor.pur (kI 2 rfl) rfl rfl) Bors.nil))) (FrsR.one (.sl _ _ _ (frs_map fun _ => .u8 _))) H,aU fun _ _ H K => R.asgO (K 49 _ rfl) rfl H (by decide),trivial⟩ rfl rfl rfl rfl (tU rfl ?_)
           refine W.l0 2 [.y 50 _,.y 42 _] [] [] [(1,_),(4,_),(40,_),(41,_),(42,_)] [(1,.var _)] 91 ⟨aU fun _ _ H K => R.addN (k) (1) (eU K 42 rfl) (kI 1 rfl) bU H,mU 50 rfl rfl,trivial⟩ rfl rfl rfl rfl (tU rfl ?_)
           exact ⟨⟨(k + 1),bU⟩,rfl,(by simp only []; omega)⟩
         · obtain rfl : k = 3 := by omega
           refine W.exit ?_
           refine W.seq ?_
           refine W.seq ?_
           refine W.l0 4 [.y 51 _,.y 52 _,.y 53 _,.y 54 _] [] [] [(1,_),(4,_),(52,_),(53,_),(54,_)] [(1,.var _)] 91 ⟨aU (fU 1 rfl rfl),aU (lU 51 rfl rfl rfl rfl rfl rfl rfl),aU fun _ _ H K => R.lenE (SC.sl (K 52 _ rfl)) (List.length_map _) H,aU fun _ _ H _ => R.mov (kI 0 rfl) rfl H,trivial⟩ rfl rfl rfl rfl (tU rfl ?_)
           refine W.block ?_
           refine W.loop (α := {q__ : Nat // q__ ≤ hs.length}) (fun q__ => ⟨91,[(1,.ptr 1 0 []),(4,.sl (some 5) 1 ((hdI [m,hs.length,fl.length] 3 ++ flatI hs q__.1).map D.u8)),(52,.sl none 32 (hs.map hashD)),(53,.int ((hs.length : Nat) : Int)),(54,.int ((q__.1 : Nat) : Int))],[(1,.var (.agg [.int ((m : Nat) : Int),.sl none 32 (hs.map hashD),.sl none 1 (fl.map D.bool)]))]⟩) (fun q__ => hs.length - q__.1) ⟨(0),bU⟩ (by simp [flatI]) ?_
           rintro ⟨k,hk⟩
           show W _ _ _ _ ⟨91,[(1,.ptr 1 0 []),(4,.sl (some 5) 1 ((hdI [m,hs.length,fl.length] 3 ++ flatI hs k).map D.u8)),(52,.sl none 32 (hs.map hashD)),(53,.int ((hs.length : Nat) : Int)),(54,.int ((k : Nat) : Int))],[(1,.var (.agg [.int ((m : Nat) : Int),.sl none 32 (hs.map hashD),.sl none 1 (fl.map D.bool)]))]⟩
           have hk : k ≤ hs.length := hk
           refine W.seq ?_
           refine W.l0 1 [.y 55 _] [] [] [(1,_),(4,_),(52,_),(53,_),(54,_),(55,_)] [(1,.var _)] 91 ⟨aU fun _ _ H K => R.lssN (k) (hs.length) (eU K 54 rfl) (eU K 53 rfl) H,trivial⟩ rfl rfl rfl rfl (tU rfl ?_)
           refine W.seq ?_
           refine W.condD rfl (fun hc55 => ?_) (fun hc55 => ?_)
           · refine W.skip ?_
             refine W.seq ?_
             refine W.block ?_
             refine W.seq ?_
             refine W.l0 4 [.y 56 _,.y 57 _] [] [] [(1,_),(4,_),(52,_),(53,_),(54,_),(57,_)] [(1,.var _)] 91 ⟨aU fun _ _ H K => R.idxN (k) (SC.sl (K 52 _ rfl)) (evoI (eU K 54 rfl)) rfl bU H (by decide),aU fun _ _ H K => R.ldE (K 56 _ rfl) (SC.sl (K 52 _ rfl)) (map_get! (l := hs) bU) rfl rfl rfl rfl H,trivial⟩ rfl rfl rfl rfl (⟨rfl,_,R.alloc rfl (nU rfl),⟨rfl,_,R.stZ (gU 8 rfl) (xU 8 rfl) rfl (gV 57 rfl) (by rfl) (by rfl) (by rfl) (by rfl) rfl,tV [(1,_),(4,_),(8,_),(52,_),(53,_),(54,_)] [(8,.var _),(1,.var _)] 91 rfl rfl rfl ?_⟩⟩)
             refine W.l0 4 [.y 58 _,.y 59 _,.y 60 _,.y 4 _] [(2,4),(3,60),(3,58)] [(2,4),(3,60)] [(1,_),(4,_),(52,_),(53,_),(54,_)] [(8,.var _),(1,.var _)] 91 ⟨aU fun _ _ H K => R.al (K 4 _ rfl) H (by decide),aU fun _ B H K => R.slAN (0) (32) (32) (K 8 _ rfl) (B 8 _ rfl) rfl rfl rfl rfl rfl bU bU rfl H,aU fun _ B H K => R.appE (Or.inr (K 58 _ rfl)) (K 4 _ rfl) (SrcO.sc (SC.va (K 59 _ rfl) (B 8 _ rfl) rfl (by decide)) (pur_part (fun _ => rfl))) (show _ = ((hdI [m,hs.length,fl.length] 3 ++ flatI hs (k + 1)).map D.u8) from (by rw [flatI_succ (by omega),← List.append_assoc,part32 _ (hh.get (by omega)),← List.map_append])) (by simp [hdI_len,flatI_len hh k (by omega),hh.get (show k < hs.length by omega)]; omega) H (by decide) (by decide),aU fun _ _ H K => R.asgO (K 60 _ rfl) rfl H (by decide),trivial⟩ rfl rfl rfl rfl (tU rfl ?_)
             refine W.dropB [1] (bx' := [(1,.var _)]) rfl rfl rfl (pin_sub hD rfl) ?_
             refine W.l0 2 [.y 61 _,.y 54 _] [] [] [(1,_),(4,_),(52,_),(53,_),(54,_)] [(1,.var _)] 91 ⟨aU fun _ _ H K => R.addN (k) (1) (eU K 54 rfl) (kI 1 rfl) bU H,mU 61 rfl rfl,trivial⟩ rfl rfl rfl rfl (tU rfl ?_)
             exact ⟨⟨(k + 1),bU⟩,rfl,(by simp only []; omega)⟩
           · obtain rfl : k = hs.length := by omega
             refine W.exit ?_
             refine W.seq ?_
             refine W.l0 7 [.y 62 _,.y 63 _,.y 64 _,.y 65 _,.y 66 _,.y 67 _,.y 9 _] [(6,67)] [(6,67)] [(1,_),(4,_),(9,_)] [(1,.var _)] 91 ⟨aU (fU 1 rfl rfl),aU (lU 62 rfl rfl rfl rfl rfl rfl rfl),aU fun _ _ H K => R.lenE (SC.sl (K 63 _ rfl)) (List.length_map _) H,aU fun _ _ H K => R.addN (fl.length) (7) (eU K 64 rfl) (kI 7 rfl) bU H,aU fun _ _ H K => R.quoN ((fl.length + 7)) (8) (eU K 65 rfl) (kI 8 rfl) bU bU H,aU fun _ _ H K => R.mk (n := ((fl.length + 7) / 8)) (eU K 66 rfl) (eU K 66 rfl) bU (by decide) H,aU fun _ _ H K => R.asgO (K 67 _ rfl) rfl H (by decide),trivial⟩ rfl rfl rfl rfl (tU rfl ?_)
             refine W.seq ?_
             refine W.seq ?_
             refine W.l0 4 [.y 68 _,.y 69 _,.y 70 _,.y 71 _] [] [] [(4,_),(9,_),(69,_),(70,_),(71,_)] [(1,.var _)] 91 ⟨aU (fU 1 rfl rfl),aU (lU 68 rfl rfl rfl rfl rfl rfl rfl),aU fun _ _ H K => R.lenE (SC.sl (K 69 _ rfl)) (List.length_map _) H,aU fun _ _ H _ => R.mov (kI 0 rfl) rfl H,trivial⟩ rfl rfl rfl rfl (tU rfl ?_)
             refine W.block ?_
             refine W.loop (α := {q__ : Nat // q__ ≤ fl.length}) (fun q__ => ⟨91,[(4,.sl (some 5) 1 ((hdI [m,hs.length,fl.length] 3 ++ flatI hs hs.length).map D.u8)),(9,.sl (some 5) 1 ((pkI fl q__.1).map D.u8)),(69,.sl none 1 (fl.map D.bool)),(70,.int ((fl.length : Nat) : Int)),(71,.int ((q__.1 : Nat) : Int))],[(1,.var (.agg [.int ((m : Nat) : Int),.sl none 32 (hs.map hashD),.sl none 1 (fl.map D.bool)]))]⟩) (fun q__ => fl.length - q__.1) ⟨(0),bU⟩ (by simp only [pkI,List.map_replicate]) ?_
             rintro ⟨k,hk⟩
             show W _ _ _ _ ⟨91,[(4,.sl (some 5) 1 ((hdI [m,hs.length,fl.length] 3 ++ flatI hs hs.length).map D.u8)),(9,.sl (some 5) 1 ((pkI fl k).map D.u8)),(69,.sl none 1 (fl.map D.bool)),(70,.int ((fl.length : Nat) : Int)),(71,.int ((k : Nat) : Int))],[(1,.var (.agg [.int ((m : Nat) : Int),.sl none 32 (hs.map hashD),.sl none 1 (fl.map D.bool)]))]⟩
             have hk : k ≤ fl.length := hk
             have hpl := pkI_len fl k
             refine W.seq ?_
             refine W.l0 1 [.y 72 _] [] [] [(4,_),(9,_),(69,_),(70,_),(71,_),(72,_)] [(1,.var _)] 91 ⟨aU fun _ _ H K => R.lssN (k) (fl.length) (eU K 71 rfl) (eU K 70 rfl) H,trivial⟩ rfl rfl rfl rfl (tU rfl ?_)
             refine W.seq ?_
             refine W.condD rfl (fun hc72 => ?_) (fun hc72 => ?_)
             · refine W.skip ?_
               refine W.seq ?_
               refine W.block ?_
               refine W.seq ?_
               refine W.l0 5 [.y 73 _,.y 74 _,.y 75 _,.y 10 _,.y 11 _] [] [] [(4,_),(9,_),(10,_),(11,_),(69,_),(70,_),(71,_)] [(1,.var _)] 91 ⟨mU 71 rfl rfl,aU fun _ _ H K => R.idxN (k) (SC.sl (K 69 _ rfl)) (evoI (eU K 71 rfl)) rfl bU H (by decide),aU fun _ _ H K => R.ldE (K 74 _ rfl) (SC.sl (K 69 _ rfl)) (map_get! (l := fl) bU) rfl rfl rfl rfl H,aU fun _ _ H K => R.asg (eU K 73 rfl) rfl H,aU fun _ _ H K => R.asg (eU K 75 rfl) rfl H,trivial⟩ rfl rfl rfl rfl (tU rfl ?_)
               refine W.seq ?_
               refine W.l0 1 [.y 76 _] [] [] [(4,_),(9,_),(10,_),(69,_),(70,_),(71,_),(76,_)] [(1,.var _)] 91 ⟨mU 11 rfl rfl,trivial⟩ rfl rfl rfl rfl (tU rfl ?_)
               refine W.cond rfl (fun hc76 => ?_) (fun hc76 => ?_)
               · refine W.draw (m := 10) (an := [0,0,2,7,15,0,32,96,255,511,1023]) hP (by decide) rfl (its := [.y 77 _,.y 78 _,.y 79 _,.y 80 _,.y 81 _,.y 82 _,.y 83 _,.y 84 _,.y 85 _,.y 86 _]) (ks := []) (kk := []) (live := [4,9,69,70,71,77,85,86]) (env' := [(4,_),(9,_),(69,_),(70,_),(71,_),(77,_),(85,_),(86,_)]) (⟨nU rfl,rfl,⟨aU fun _ _ H K => R.al (K 9 _ rfl) H (by decide),mU 10 rfl rfl,aU fun _ _ H K => R.quoN (k) (8) (eU K 78 rfl) (kI 8 rfl) bU bU H,aU fun _ _ H K => R.idxN ((k / 8)) (SC.al (K 77 _ rfl) (K 9 _ rfl)) (evoI (eU K 79 rfl)) rfl bU H (by decide),aU fun _ _ H K => R.ldE (K 80 _ rfl) (SC.al (K 77 _ rfl) (K 9 _ rfl)) (map_get! (l := (pkI fl k)) bU) rfl rfl rfl rfl H,mU 10 rfl rfl,aU fun _ _ H K => R.remN (k) (8) (eU K 82 rfl) (kI 8 rfl) bU H,aU fun _ _ H K => R.bin (show ev _ _ (.const (.int .u8 1)) = some (.u8 1) from rfl) (eU K 83 rfl) rfl bV H,aU fun _ _ H K => R.bin (eU K 81 rfl) (eU K 84 rfl) rfl trivial H,aU fun _ _ H K => R.idxN ((k / 8)) (SC.al (K 77 _ rfl) (K 9 _ rfl)) (evoI (eU K 79 rfl)) rfl bU H (by decide),trivial⟩,rfl,rfl,rfl⟩) rfl (bx' := [(1,.var _)]) rfl (n' := 91) rfl (⟨rfl,_,R.stEY (gU 86 rfl) (Or.inr (gU 77 rfl)) (gU 9 rfl) (map_get! (l := (pkI fl k)) bU) rfl (gV 85 rfl) (by rfl) (by rfl) (by rfl) (by rfl) upd_nil set_map,tV [(4,_),(9,_),(69,_),(70,_),(71,_)] [(1,.var _)] 91 rfl rfl rfl ?_⟩)
                 refine W.l0 2 [.y 87 _,.y 71 _] [] [] [(4,_),(9,_),(69,_),(70,_),(71,_)] [(1,.var _)] 91 ⟨aU fun _ _ H K => R.addN (k) (1) (eU K 71 rfl) (kI 1 rfl) bU H,mU 87 rfl rfl,trivial⟩ rfl rfl rfl rfl (tU rfl ?_)
                 exact ⟨⟨(k + 1),bU⟩,(by simp only [pkI,hc76,if_true,if_false,Bool.false_eq_true] <;> rfl),(by simp only []; omega)⟩
               · refine W.skip ?_
                 refine W.l0 2 [.y 87 _,.y 71 _] [] [] [(4,_),(9,_),(69,_),(70,_),(71,_)] [(1,.var _)] 91 ⟨aU fun _ _ H K => R.addN (k) (1) (eU K 71 rfl) (kI 1 rfl) bU H,mU 87 rfl rfl,trivial⟩ rfl rfl rfl rfl (tU rfl ?_)
                 exact ⟨⟨(k + 1),bU⟩,(by simp only [pkI,hc76,if_true,if_false,Bool.false_eq_true] <;> rfl),(by simp only []; omega)⟩
             · obtain rfl : k = fl.length := by omega
               refine W.exit ?_
               refine W.seq ?_
               refine W.l0 5 [.y 88 _,.y 89 _,.y 90 _,.y 2 _,.y 3 _] [(2,4),(3,90)] [(2,4),(3,90)] [(2,_),(3,_)] [(1,.var _)] 91 ⟨aU fun _ _ H K => R.al (K 4 _ rfl) H (by decide),aU fun _ _ H K => R.al (K 9 _ rfl) H (by decide),aU fun _ _ H K => R.appE (Or.inr (K 88 _ rfl)) (K 4 _ rfl) (SrcO.sc (SC.al (K 89 _ rfl) (K 9 _ rfl)) (pur_map (fun _ => rfl))) (show _ = ((putB m hs fl).map D.u8) from (by rw [putB,← List.map_append])) (by simp [hdI_len,flatI_len hh hs.length (Nat.le_refl _),pkI_len]; omega) H (by decide) (by decide),aU fun _ _ H K => R.asgO (K 90 _ rfl) rfl H (by decide),aU fun _ _ H _ => R.asg (kI 0 rfl) rfl H,trivial⟩ rfl rfl rfl rfl (tU rfl ?_)
               refine W.ret ?_
               exact Ends.many (.inr rfl) (.cons rfl rfl rfl trivial (.cons rfl rfl rfl trivial .nil)) (by rw [put_ok (by omega)]) (show [(2,true),(3,true)].Nodup by decide)

end Go.Sx
