/-
 Own library: a part of the code that several ways lead to is walked once.
-/
import Derived.Test.YtdjoepmmffghhaaDoorMSxBldO
import Derived.Test.YtdjoepmmffghhaaDoorMTx18
import Derived.Test.YtdjoepmmffghhaaDoorMSxOwn
import Derived.OpenShut
import Derived.Carry
import Derived.Deep.Slices
import Derived.Deep.DeepHandedRow
import Derived.Lib.LaidTab
set_option linter.unusedVariables false
set_option linter.unusedSimpArgs false
set_option linter.unnecessarySimpa false

namespace Go.Sx
open Go.Proofs
theorem get_ok (b : List UInt8) (hb0 : b.length ≤ 100000) : Fn Tryd.prog gl 23 [.sl none 1 (b.map D.u8)] (.tup [txD (getS b).1,.int (((getS b).2 : Nat) : Int)]) := by
 refine Fn.ofD (n := 65) Tryd.func23 rfl rfl rfl (nU rfl) fun C hC hD hdf hrd hkp => ?_
 refine WD.seq ?_
 refine W.l0 2 [] [] [] [(0,_)] [] 65 trivial rfl rfl rfl rfl (⟨rfl,_,R.alloc rfl (nU rfl),⟨rfl,_,R.alloc rfl (nU rfl),tV [(0,_),(2,_),(3,_)] [(3,.var _),(2,.var _)] 65 rfl rfl rfl ?_⟩⟩)
 refine WD.seq ?_
 refine W.seq ?_
 refine W.l0 3 [.y 6 _,.y 7 _,.y 8 _] [] [] [(0,_),(2,_),(3,_),(8,_)] [(3,.var _),(2,.var _)] 65 ⟨mU 0 rfl rfl,aU fun _ _ H K => R.lenE (SC.sl (K 6 _ rfl)) (List.length_map _) H,aU fun _ _ H K => R.gtrN (b.length) (16384) (eU K 7 rfl) (kI 16384 rfl) H,trivial⟩ rfl rfl rfl rfl (tU rfl ?_)
 refine W.condD rfl (fun hc8 => ?_) (fun hc8 => ?_)
 · refine W.seq ?_
   refine W.wkB 2 (d' := txD zeroT) (bx' := [(3,.var _),(2,.var _)]) rfl wk_zero rfl ?_
   refine W.l0 3 [.y 9 _] [] [] [(2,_),(3,_),(9,_)] [(3,.var _),(2,.var _)] 65 ⟨aU (lU 2 rfl rfl rfl rfl rfl rfl rfl),trivial⟩ rfl rfl rfl rfl (⟨rfl,_,R.stZ (gU 2 rfl) (xU 2 rfl) rfl (gV 9 rfl) (by rfl) (by rfl) (by rfl) (by rfl) rfl,⟨rfl,_,R.stZ (gU 3 rfl) (xU 3 rfl) rfl (kI 6 rfl) (by rfl) (by rfl) (by rfl) (by rfl) rfl,tV [(2,_),(3,_)] [(3,.var _),(2,.var _)] 65 rfl rfl rfl ?_⟩⟩)
   refine W.ret ?_
   exact fun a w hs => end0 hdf hkp hs (Ends.many (.inr rfl) (.cons rfl rfl rfl (show LdT _ 26 4 true from inferInstance) (.cons rfl rfl rfl (show LdT _ 34 1 false from inferInstance) .nil)) (by rw [gt_big hc8]) (show [(2,false),(3,false)].Nodup by decide))
 · refine W.skip ?_
   refine WD.defer hrd rfl rfl rfl rfl (nU rfl) fun b2 b3 hb23 => ?_
   obtain ⟨C1,hC1⟩ : ∃ C1,C1 = C.put (dfr 41 b2 b3) 2 3 b2 b3 := ⟨_,rfl⟩
   rw [← hC1]
   have hC0 := hC
   have hC : C1.gl = gl := by rw [hC1]; exact hC0
   have hD0 := hD
   have hD : ∀ id c_,C1.pin id = some c_ → memN [2,3] id = true := by rw [hC1]; exact put_pin hD0
   refine WD.of ?_
   refine W.dropS (live := [0,2,3]) (env' := [(0,_),(2,_),(3,_)]) (bx' := [(3,.var _),(2,.var _)]) (n' := 65) rfl rfl rfl ?_
   refine W.seq ?_
   refine W.l0 4 [.y 11 _,.y 12 _] [] [] [(0,_),(2,_),(3,_),(12,_)] [(3,.var _),(2,.var _)] 65 ⟨mU 0 rfl rfl,aU fun _ _ H K => R.bldSE (l := [.nils]) (l' := [_]) (.cons (eU K 11 rfl) (.nil rfl)) ⟨⟨_,(eU K 11 rfl),rfl,rfl,rfl⟩,trivial⟩ H,trivial⟩ rfl rfl rfl rfl (⟨rfl,_,R.box (gV 12 rfl) rfl rfl (nU rfl),⟨rfl,_,R.asg (gV 13 rfl) rfl (nU rfl),tV [(0,_),(2,_),(3,_),(4,_)] [(13,.var _),(3,.var _),(2,.var _)] 65 rfl rfl rfl ?_⟩⟩)
   refine W.seq ?_
   rcases hE : numO b 4 with _ | ⟨x,r⟩
   · refine W.lineX (n := 5) (by decide) (its := [.y 14 _]) (ks := []) (kk := []) (live := [0,2,3,4,14]) (env' := [(0,_),(2,_),(3,_),(4,_),(14,_)]) (⟨nU rfl,rfl,⟨mU 4 rfl rfl,trivial⟩,rfl,rfl,rfl⟩) rfl (bx' := [(13,.var _),(3,.var _),(2,.var _)]) rfl (n' := 65) rfl (⟨rfl,.inr (R.callXk [(0,13)] hC (FnO.none' (rnumber_ok b (by omega) 4 (by decide)) (by rw [hE]; rfl)) (EvB.cons (gV 14 rfl) rfl rfl rfl (EvB.cons (kI 4 rfl) rfl rfl rfl EvB.nil)) rfl ⟨rfl,trivial⟩ ⟨rfl,trivial⟩ rfl (fun e he => ?_))⟩)
     obtain ⟨ch,rfl,hch⟩ := he
     intro a w hs
     show bodyPostD _ _ _ _ _ _
     rw [gt_none hc8 (go_1 hE)]
     exact endDP (z2 := #[.int .u32 0,.slice none 0 0,.slice none 0 0,.int .u32 0]) (z3 := #[.int .i64 5]) (r2 := .agg [.u32 0,.nils,.nils,.u32 0]) hC1 hdf hkp (by decide) (hb23 (by decide)) rfl inferInstance (fun w ch hch cs2 cs3 e2 e3 q2 s2 q3 s3 => get1P b2 b3 w hch (hb23 (by decide)) q2 s2 q3 s3) ⟨ch,rfl,hch⟩ rfl rfl rfl rfl rfl rfl rfl rfl rfl rfl rfl rfl rfl rfl wk_zero rfl hs
   have hr := numO_len hE
   refine W.l0 5 [.y 14 _] [] [] [(0,_),(2,_),(3,_),(4,_),(14,_)] [(13,.var _),(3,.var _),(2,.var _)] 65 ⟨mU 4 rfl rfl,trivial⟩ rfl rfl rfl rfl (⟨rfl,_,R.callB [(0,13)] hC (FnO.some' (r := .u64 x) (bx' := [(0,.var (.agg [.sl none 1 (r.map D.u8)]))]) (nw := []) (rnumber_ok b (by omega) 4 (by decide)) (by rw [hE]; rfl)) (EvB.cons (gV 14 rfl) rfl rfl rfl (EvB.cons (kI 4 rfl) rfl rfl rfl EvB.nil)) rfl ⟨rfl,trivial⟩ ⟨rfl,trivial⟩ rfl rfl rfl rfl rfl rfl (nU rfl),⟨rfl,_,R.conv (gV 15 rfl) rfl (nU rfl),⟨rfl,_,R.fdP (gU 2 rfl) (nU rfl),⟨rfl,_,R.stZ (gU 17 rfl) (xU 2 rfl) rfl (gV 16 rfl) (by rfl) (by rfl) (by rfl) (by rfl) rfl,tV [(0,_),(2,_),(3,_),(4,_)] [(13,.var _),(3,.var _),(2,.var _)] 65 rfl rfl rfl ?_⟩⟩⟩⟩)
   refine W.seq ?_
   by_cases hs1 : 0 < r.length
   · by_cases hs2 : (r[0]! == 0) = true
     · refine W.l0 16 [.y 18 _,.y 19 _,.y 20 _,.y 21 _,.y 22 _,.y 23 _,.y 24 _,.y 25 _,.y 26 _,.y 27 _,.y 28 _,.y 29 _,.y 30 _,.y 31 _,.y 32 _,.y 5 _] [] [] [(0,_),(2,_),(3,_),(4,_),(5,_)] [(13,.var _),(3,.var _),(2,.var _)] 65 ⟨mU 4 rfl rfl,aU fun _ _ H K => R.nilcP (K 18 _ rfl) H,aU (fU 19 rfl rfl),aU (lU 20 rfl rfl rfl rfl rfl rfl rfl),aU fun _ _ H K => R.lenE (SC.sl (K 21 _ rfl)) (List.length_map _) H,aU fun _ _ H K => R.gtrN (r.length) (0) (eU K 22 rfl) (kI 0 rfl) H,mU 23 rfl rfl,aW rfl rfl (gT (decide_eq_true hs1) rfl) fun _ _ H K => R.mov (eU K 4 rfl) rfl H,aW rfl rfl (gT (decide_eq_true hs1) rfl) fun _ _ H K => R.nilcP (K 25 _ rfl) H,aW rfl rfl (gT (decide_eq_true hs1) rfl) (fU 26 rfl rfl),aW rfl rfl (gT (decide_eq_true hs1) rfl) (lU 27 rfl rfl rfl rfl rfl rfl rfl),aW rfl rfl (gT (decide_eq_true hs1) rfl) fun _ _ H K => R.idxN (0) (SC.sl (K 28 _ rfl)) (evoI (kI 0 rfl)) rfl bU H (by decide),aW rfl rfl (gT (decide_eq_true hs1) rfl) fun _ _ H K => R.ldE (K 29 _ rfl) (SC.sl (K 28 _ rfl)) (map_get! (l := r) bU) rfl rfl rfl rfl H,aW rfl rfl (gT (decide_eq_true hs1) rfl) fun _ _ H K => R.bin (eU K 30 rfl) (show ev _ _ (.const (.int .u8 0)) = some (.u8 0) from rfl) rfl trivial H,aU fun _ _ H K => R.pickT (eU K 24 rfl) (decide_eq_true hs1) (eU K 31 rfl) rfl H,aU fun _ _ H K => R.asg (eU K 32 rfl) rfl H,trivial⟩ rfl rfl rfl rfl (tU rfl ?_)
       refine W.seq ?_
       refine W.seq ?_
       refine W.l0 1 [.y 33 _] [] [] [(0,_),(2,_),(3,_),(4,_),(5,_),(33,_)] [(13,.var _),(3,.var _),(2,.var _)] 65 ⟨mU 5 rfl rfl,trivial⟩ rfl rfl rfl rfl (tU rfl ?_)
       refine W.condT rfl (hs2) ?_
       rcases hE2 : takeO r 2 with _ | ⟨u,r1⟩
       · refine W.lineX (n := 2) (by decide) (its := [.y 34 _]) (ks := []) (kk := []) (live := [0,2,3,4,5,34]) (env' := [(0,_),(2,_),(3,_),(4,_),(5,_),(34,_)]) (⟨nU rfl,rfl,⟨mU 4 rfl rfl,trivial⟩,rfl,rfl,rfl⟩) rfl (bx' := [(13,.var _),(3,.var _),(2,.var _)]) rfl (n' := 65) rfl (⟨rfl,.inr (R.callXk [(0,13)] hC (FnO.none' (rtake_ok r (by omega) 2 (by omega)) (by rw [hE2]; rfl)) (EvB.cons (gV 34 rfl) rfl rfl rfl (EvB.cons (kI 2 rfl) rfl rfl rfl EvB.nil)) rfl ⟨rfl,trivial⟩ ⟨rfl,trivial⟩ rfl (fun e he => ?_))⟩)
         obtain ⟨ch,rfl,hch⟩ := he
         intro a w hs
         show bodyPostD _ _ _ _ _ _
         rw [gt_none hc8 (go_2 hE (pre_n (sn_t hs1 hs2) hE2))]
         exact endDP (z2 := #[.int .u32 0,.slice none 0 0,.slice none 0 0,.int .u32 0]) (z3 := #[.int .i64 5]) (r2 := .agg [.u32 0,.nils,.nils,.u32 0]) hC1 hdf hkp (by decide) (hb23 (by decide)) rfl inferInstance (fun w ch hch cs2 cs3 e2 e3 q2 s2 q3 s3 => get1P b2 b3 w hch (hb23 (by decide)) q2 s2 q3 s3) ⟨ch,rfl,hch⟩ rfl rfl rfl rfl rfl rfl rfl rfl rfl rfl rfl rfl rfl rfl wk_zero rfl hs
       have hr1 := takeO_len hE2
       refine W.l0 2 [.y 34 _] [] [] [(0,_),(2,_),(3,_),(4,_),(5,_),(34,_)] [(13,.var _),(3,.var _),(2,.var _)] 65 ⟨mU 4 rfl rfl,trivial⟩ rfl rfl rfl rfl (⟨rfl,_,R.callB [(0,13)] hC (FnO.some' (r := .sl none 1 (u.map D.u8)) (bx' := [(0,.var (.agg [.sl none 1 (r1.map D.u8)]))]) (nw := []) (rtake_ok r (by omega) 2 (by omega)) (by rw [hE2]; rfl)) (EvB.cons (gV 34 rfl) rfl rfl rfl (EvB.cons (kI 2 rfl) rfl rfl rfl EvB.nil)) rfl ⟨rfl,trivial⟩ ⟨rfl,trivial⟩ rfl rfl rfl rfl rfl rfl (nU rfl),tV [(0,_),(2,_),(3,_),(4,_),(5,_)] [(13,.var _),(3,.var _),(2,.var _)] 65 rfl rfl rfl ?_⟩)
       refine W.seq ?_
       rcases hE3 : bodyO r1 with _ | ⟨⟨ins,outs⟩,r2⟩
       · refine W.asOwnP 2 [1] 56 36 (bx' := [(13,.var _),(3,.var _),(2,.var _)]) rfl rfl rfl rfl rfl ?_
         refine W.asOwnP 2 [2] 46 2 (bx' := [(13,.var _),(3,.var _),(2,.var _)]) rfl rfl rfl rfl rfl ?_
         refine W.lineX (n := 2) (by decide) (its := [.y 36 _]) (ks := []) (kk := []) (live := [0,2,3,4,5,36]) (env' := [(0,_),(2,_),(3,_),(4,_),(5,_),(36,_)]) (⟨nU rfl,rfl,⟨mU 4 rfl rfl,trivial⟩,rfl,rfl,rfl⟩) rfl (bx' := [(13,.var _),(3,.var _),(2,.var _)]) rfl (n' := 65) rfl (⟨rfl,.inr (R.callXk [(0,13),(1,2)] hC (FnO.none' (rbody_ok r1 (by omega) x.toUInt32 0) (by rw [hE3]; rfl)) (EvB.cons (gV 36 rfl) rfl rfl rfl (EvB.cons (gV 2 rfl) rfl rfl rfl EvB.nil)) rfl ⟨rfl,⟨rfl,trivial⟩⟩ ⟨rfl,⟨rfl,trivial⟩⟩ rfl (fun e he => ?_))⟩)
         obtain ⟨ch,rfl,hch⟩ := he
         intro a w hs
         show bodyPostD _ _ _ _ _ _
         rw [gt_none hc8 (go_3 hE (pre_s (sn_t hs1 hs2) hE2) hE3)]
         exact endDP (z2 := #[.int .u32 0,.slice none 0 0,.slice none 0 0,.int .u32 0]) (z3 := #[.int .i64 5]) (r2 := .agg [.u32 0,.nils,.nils,.u32 0]) hC1 hdf hkp (by decide) (hb23 (by decide)) rfl inferInstance (fun w ch hch cs2 cs3 e2 e3 q2 s2 q3 s3 => get1P b2 b3 w hch (hb23 (by decide)) q2 s2 q3 s3) ⟨ch,rfl,hch⟩ rfl rfl rfl rfl rfl rfl rfl rfl rfl rfl rfl rfl rfl rfl wk_zero rfl hs
       have hbs := bodyO_sz hE3 (by omega)
       have hil := szI_len ins
       refine W.asOwnP 2 [1] 56 36 (bx' := [(13,.var _),(3,.var _),(2,.var _)]) rfl rfl rfl rfl rfl ?_
       refine W.asOwnP 2 [2] 46 2 (bx' := [(13,.var _),(3,.var _),(2,.var _)]) rfl rfl rfl rfl rfl ?_
       refine W.l0 2 [.y 36 _] [] [] [(0,_),(2,_),(3,_),(4,_),(5,_),(36,_)] [(13,.var _),(3,.var _),(2,.var _)] 65 ⟨mU 4 rfl rfl,trivial⟩ rfl rfl rfl rfl (⟨rfl,_,R.callB [(0,13),(1,2)] hC (FnO.some' (r := .tup []) (bx' := [(0,.var (.agg [.sl none 1 (r2.map D.u8)])),(1,.var (.agg [.u32 x.toUInt32,.sl (some 56) 36 (ins.map inN),.sl (some 46) 2 (outs.map outD),.u32 0]))]) (nw := []) (rbody_ok r1 (by omega) x.toUInt32 0) (by rw [hE3]; rfl)) (EvB.cons (gV 36 rfl) rfl rfl rfl (EvB.cons (gV 2 rfl) rfl rfl rfl EvB.nil)) rfl ⟨rfl,⟨rfl,trivial⟩⟩ ⟨rfl,⟨rfl,trivial⟩⟩ rfl rfl rfl rfl rfl rfl (nU rfl),tV [(0,_),(2,_),(3,_),(4,_),(5,_)] [(13,.var _),(3,.var _),(2,.var _)] 65 rfl rfl rfl ?_⟩)
       refine W.seq ?_
       refine W.seq ?_
       refine W.l0 1 [.y 38 _] [] [] [(0,_),(2,_),(3,_),(4,_),(38,_)] [(13,.var _),(3,.var _),(2,.var _)] 65 ⟨mU 5 rfl rfl,trivial⟩ rfl rfl rfl rfl (tU rfl ?_)
       refine W.condT rfl (hs2) ?_
       rcases hE4 : witsO ins r2 with _ | ⟨l,r3⟩
       · refine W.lineX (n := 2) (by decide) (its := [.y 39 _]) (ks := []) (kk := []) (live := [0,2,3,4,39]) (env' := [(0,_),(2,_),(3,_),(4,_),(39,_)]) (⟨nU rfl,rfl,⟨mU 4 rfl rfl,trivial⟩,rfl,rfl,rfl⟩) rfl (bx' := [(13,.var _),(3,.var _),(2,.var _)]) rfl (n' := 65) rfl (⟨rfl,.inr (R.callXk [(0,13),(1,2)] hC (FnO.none' (rwits r2 (by omega) x.toUInt32 0 ins outs (by omega)) (by rw [hE4]; rfl)) (EvB.cons (gV 39 rfl) rfl rfl rfl (EvB.cons (gV 2 rfl) rfl rfl rfl EvB.nil)) rfl ⟨rfl,⟨rfl,trivial⟩⟩ ⟨rfl,⟨rfl,trivial⟩⟩ rfl (fun e he => ?_))⟩)
         obtain ⟨ch,rfl,hch⟩ := he
         intro a w hs
         show bodyPostD _ _ _ _ _ _
         rw [gt_none hc8 (go_4 hE (pre_s (sn_t hs1 hs2) hE2) hE3 ((wq_t (sn_t hs1 hs2)).trans hE4))]
         exact endDP (z2 := #[.int .u32 0,.slice none 0 0,.slice none 0 0,.int .u32 0]) (z3 := #[.int .i64 5]) (r2 := .agg [.u32 0,.nils,.nils,.u32 0]) hC1 hdf hkp (by decide) (hb23 (by decide)) rfl inferInstance (fun w ch hch cs2 cs3 e2 e3 q2 s2 q3 s3 => get1P b2 b3 w hch (hb23 (by decide)) q2 s2 q3 s3) ⟨ch,rfl,hch⟩ rfl rfl rfl rfl rfl rfl rfl rfl rfl rfl rfl rfl rfl rfl wk_zero rfl hs
       have hws := witsO_sz hE4 (by omega) hbs.1
       refine W.l0 2 [.y 39 _] [] [] [(0,_),(2,_),(3,_),(4,_),(39,_)] [(13,.var _),(3,.var _),(2,.var _)] 65 ⟨mU 4 rfl rfl,trivial⟩ rfl rfl rfl rfl (⟨rfl,_,R.callB [(0,13),(1,2)] hC (FnO.some' (r := .tup []) (bx' := [(0,.var (.agg [.sl none 1 (r3.map D.u8)])),(1,.var (.agg [.u32 x.toUInt32,.sl none 36 (l.map inD),.sl none 2 (outs.map outD),.u32 0]))]) (nw := []) (rwits r2 (by omega) x.toUInt32 0 ins outs (by omega)) (by rw [hE4]; rfl)) (EvB.cons (gV 39 rfl) rfl rfl rfl (EvB.cons (gV 2 rfl) rfl rfl rfl EvB.nil)) rfl ⟨rfl,⟨rfl,trivial⟩⟩ ⟨rfl,⟨rfl,trivial⟩⟩ rfl rfl rfl rfl rfl rfl (nU rfl),tV [(0,_),(2,_),(3,_),(4,_)] [(13,.var _),(3,.var _),(2,.var _)] 65 rfl rfl rfl ?_⟩)
       refine W.seq ?_
       rcases hE5 : numO r3 4 with _ | ⟨k,r4⟩
       · refine W.lineX (n := 5) (by decide) (its := [.y 41 _]) (ks := []) (kk := []) (live := [0,2,3,4,41]) (env' := [(0,_),(2,_),(3,_),(4,_),(41,_)]) (⟨nU rfl,rfl,⟨mU 4 rfl rfl,trivial⟩,rfl,rfl,rfl⟩) rfl (bx' := [(13,.var _),(3,.var _),(2,.var _)]) rfl (n' := 65) rfl (⟨rfl,.inr (R.callXk [(0,13)] hC (FnO.none' (rnumber_ok r3 (by omega) 4 (by decide)) (by rw [hE5]; rfl)) (EvB.cons (gV 41 rfl) rfl rfl rfl (EvB.cons (kI 4 rfl) rfl rfl rfl EvB.nil)) rfl ⟨rfl,trivial⟩ ⟨rfl,trivial⟩ rfl (fun e he => ?_))⟩)
         obtain ⟨ch,rfl,hch⟩ := he
         intro a w hs
         show bodyPostD _ _ _ _ _ _
         rw [gt_none hc8 (go_5 hE (pre_s (sn_t hs1 hs2) hE2) hE3 ((wq_t (sn_t hs1 hs2)).trans hE4) hE5)]
         exact endDP (z2 := #[.int .u32 0,.slice none 0 0,.slice none 0 0,.int .u32 0]) (z3 := #[.int .i64 5]) (r2 := .agg [.u32 0,.nils,.nils,.u32 0]) hC1 hdf hkp (by decide) (hb23 (by decide)) rfl inferInstance (fun w ch hch cs2 cs3 e2 e3 q2 s2 q3 s3 => get1P b2 b3 w hch (hb23 (by decide)) q2 s2 q3 s3) ⟨ch,rfl,hch⟩ rfl rfl rfl rfl rfl rfl rfl rfl rfl rfl rfl rfl rfl rfl wk_zero rfl hs
       refine W.l0 5 [.y 41 _] [] [] [(0,_),(2,_),(3,_),(4,_),(41,_)] [(13,.var _),(3,.var _),(2,.var _)] 65 ⟨mU 4 rfl rfl,trivial⟩ rfl rfl rfl rfl (⟨rfl,_,R.callB [(0,13)] hC (FnO.some' (r := .u64 k) (bx' := [(0,.var (.agg [.sl none 1 (r4.map D.u8)]))]) (nw := []) (rnumber_ok r3 (by omega) 4 (by decide)) (by rw [hE5]; rfl)) (EvB.cons (gV 41 rfl) rfl rfl rfl (EvB.cons (kI 4 rfl) rfl rfl rfl EvB.nil)) rfl ⟨rfl,trivial⟩ ⟨rfl,trivial⟩ rfl rfl rfl rfl rfl rfl (nU rfl),⟨rfl,_,R.conv (gV 42 rfl) rfl (nU rfl),⟨rfl,_,R.fdP (gU 2 rfl) (nU rfl),⟨rfl,_,R.stZ (gU 44 rfl) (xU 2 rfl) rfl (gV 43 rfl) (by rfl) (by rfl) (by rfl) (by rfl) rfl,tV [(0,_),(2,_),(3,_),(4,_)] [(13,.var _),(3,.var _),(2,.var _)] 65 rfl rfl rfl ?_⟩⟩⟩⟩)
       refine W.seq ?_
       refine W.seq ?_
       by_cases d1 : 0 < r4.length
       · have hwf : ((⟨x.toUInt32,l,outs,k.toUInt32⟩ : TxS)).wf := get_wf (by omega) (pre_s (sn_t hs1 hs2) hE2) hE3 ((wq_t (sn_t hs1 hs2)).trans hE4)
         refine W.l0 18 [.y 45 _,.y 46 _,.y 47 _,.y 48 _,.y 49 _,.y 50 _,.y 51 _,.x 52,.x 53,.x 54,.y 55 _,.y 56 _,.x 57,.x 58,.x 59,.x 60,.x 61,.y 62 _] [] [] [(2,_),(3,_),(62,_)] [(13,.var _),(3,.var _),(2,.var _)] 65 ⟨mU 4 rfl rfl,aU fun _ _ H K => R.nilcP (K 45 _ rfl) H,aU (fU 46 rfl rfl),aU (lU 47 rfl rfl rfl rfl rfl rfl rfl),aU fun _ _ H K => R.lenE (SC.sl (K 48 _ rfl)) (List.length_map _) H,aU fun _ _ H K => R.gtrN (r4.length) (0) (eU K 49 rfl) (kI 0 rfl) H,mU 50 rfl rfl,aF rfl rfl (gT (decide_eq_true d1) rfl),aF rfl rfl (gT (decide_eq_true d1) rfl),aF rfl rfl (gT (decide_eq_true d1) rfl),aU fun _ _ H K => R.pickT (eU K 51 rfl) (decide_eq_true d1) (kB true rfl) rfl H,mU 55 rfl rfl,aF rfl rfl (gT (rfl) rfl),aF rfl rfl (gT (rfl) rfl),aF rfl rfl (gT (rfl) rfl),aF rfl rfl (gT (rfl) rfl),aF rfl rfl (gT (rfl) rfl),aU fun _ _ H K => R.pickT (eU K 56 rfl) (rfl) (kB true rfl) rfl H,trivial⟩ rfl rfl rfl rfl (tU rfl ?_)
         refine W.condT rfl (rfl) ?_
         refine W.lineX (n := 2) (by decide) (its := [.y 63 _]) (ks := []) (kk := []) (live := [2,3,63]) (env' := [(2,_),(3,_),(63,_)]) (⟨nU rfl,rfl,⟨aU fun _ _ H _ => R.mkifc (kI 5 rfl) rfl rfl H,trivial⟩,rfl,rfl,rfl⟩) rfl (bx' := [(13,.var _),(3,.var _),(2,.var _)]) rfl (n' := 65) rfl (⟨rfl,.inr (R.panic (gU 63 rfl) (fun e he => ?_))⟩)
         obtain ⟨ch,rfl,hch⟩ := he
         intro a w hs
         show bodyPostD _ _ _ _ _ _
         rw [gt_none hc8 (by rw [go_6 hE (pre_s (sn_t hs1 hs2) hE2) hE3 ((wq_t (sn_t hs1 hs2)).trans hE4) hE5]; first | exact fin_1 d1 | exact fin_2 d2 | exact fin_3 hc62)]
         exact endDP (z2 := #[.int .u32 0,.slice none 0 0,.slice none 0 0,.int .u32 0]) (z3 := #[.int .i64 5]) (r2 := .agg [.u32 0,.nils,.nils,.u32 0]) hC1 hdf hkp (by decide) (hb23 (by decide)) rfl inferInstance (fun w ch hch cs2 cs3 e2 e3 q2 s2 q3 s3 => get1P b2 b3 w hch (hb23 (by decide)) q2 s2 q3 s3) ⟨ch,rfl,hch⟩ rfl rfl rfl rfl rfl rfl rfl rfl rfl rfl rfl rfl rfl rfl wk_zero rfl hs
       · by_cases d2 : mayS (⟨x.toUInt32,l,outs,k.toUInt32⟩ : TxS) = false
         · have hwf : ((⟨x.toUInt32,l,outs,k.toUInt32⟩ : TxS)).wf := get_wf (by omega) (pre_s (sn_t hs1 hs2) hE2) hE3 ((wq_t (sn_t hs1 hs2)).trans hE4)
           refine W.l0 18 [.y 45 _,.y 46 _,.y 47 _,.y 48 _,.y 49 _,.y 50 _,.y 51 _,.y 52 _,.y 53 _,.y 54 _,.y 55 _,.y 56 _,.x 57,.x 58,.x 59,.x 60,.x 61,.y 62 _] [] [] [(2,_),(3,_),(62,_)] [(13,.var _),(3,.var _),(2,.var _)] 65 ⟨mU 4 rfl rfl,aU fun _ _ H K => R.nilcP (K 45 _ rfl) H,aU (fU 46 rfl rfl),aU (lU 47 rfl rfl rfl rfl rfl rfl rfl),aU fun _ _ H K => R.lenE (SC.sl (K 48 _ rfl)) (List.length_map _) H,aU fun _ _ H K => R.gtrN (r4.length) (0) (eU K 49 rfl) (kI 0 rfl) H,mU 50 rfl rfl,aW rfl rfl (gF (decide_eq_false d1) rfl) (lU 2 rfl rfl rfl rfl rfl rfl rfl),aW rfl rfl (gF (decide_eq_false d1) rfl) fun _ _ H K => R.callG hC (may_ok (⟨x.toUInt32,l,outs,k.toUInt32⟩ : TxS) hwf) (Bors.cons (Bor.pur (eU K 52 rfl) rfl rfl) Bors.nil) (FrsR.one (.bool _)) H,aW rfl rfl (gF (decide_eq_false d1) rfl) fun _ _ H K => R.un (eU K 53 rfl) rfl H,aU fun _ _ H K => R.pickF (eU K 51 rfl) (decide_eq_false d1) (eU K 54 rfl) rfl H,mU 55 rfl rfl,aF rfl rfl (gT (by rw [d2]; rfl) rfl),aF rfl rfl (gT (by rw [d2]; rfl) rfl),aF rfl rfl (gT (by rw [d2]; rfl) rfl),aF rfl rfl (gT (by rw [d2]; rfl) rfl),aF rfl rfl (gT (by rw [d2]; rfl) rfl),aU fun _ _ H K => R.pickT (eU K 56 rfl) (by rw [d2]; rfl) (kB true rfl) rfl H,trivial⟩ rfl rfl rfl rfl (tU rfl ?_)
           refine W.condT rfl (rfl) ?_
           refine W.lineX (n := 2) (by decide) (its := [.y 63 _]) (ks := []) (kk := []) (live := [2,3,63]) (env' := [(2,_),(3,_),(63,_)]) (⟨nU rfl,rfl,⟨aU fun _ _ H _ => R.mkifc (kI 5 rfl) rfl rfl H,trivial⟩,rfl,rfl,rfl⟩) rfl (bx' := [(13,.var _),(3,.var _),(2,.var _)]) rfl (n' := 65) rfl (⟨rfl,.inr (R.panic (gU 63 rfl) (fun e he => ?_))⟩)
           obtain ⟨ch,rfl,hch⟩ := he
           intro a w hs
           show bodyPostD _ _ _ _ _ _
           rw [gt_none hc8 (by rw [go_6 hE (pre_s (sn_t hs1 hs2) hE2) hE3 ((wq_t (sn_t hs1 hs2)).trans hE4) hE5]; first | exact fin_1 d1 | exact fin_2 d2 | exact fin_3 hc62)]
           exact endDP (z2 := #[.int .u32 0,.slice none 0 0,.slice none 0 0,.int .u32 0]) (z3 := #[.int .i64 5]) (r2 := .agg [.u32 0,.nils,.nils,.u32 0]) hC1 hdf hkp (by decide) (hb23 (by decide)) rfl inferInstance (fun w ch hch cs2 cs3 e2 e3 q2 s2 q3 s3 => get1P b2 b3 w hch (hb23 (by decide)) q2 s2 q3 s3) ⟨ch,rfl,hch⟩ rfl rfl rfl rfl rfl rfl rfl rfl rfl rfl rfl rfl rfl rfl wk_zero rfl hs
         · have hwf : ((⟨x.toUInt32,l,outs,k.toUInt32⟩ : TxS)).wf := get_wf (by omega) (pre_s (sn_t hs1 hs2) hE2) hE3 ((wq_t (sn_t hs1 hs2)).trans hE4)
           refine W.l0 18 [.y 45 _,.y 46 _,.y 47 _,.y 48 _,.y 49 _,.y 50 _,.y 51 _,.y 52 _,.y 53 _,.y 54 _,.y 55 _,.y 56 _,.y 57 _,.y 58 _,.y 59 _,.y 60 _,.y 61 _,.y 62 _] [] [] [(2,_),(3,_),(62,_)] [(13,.var _),(3,.var _),(2,.var _)] 65 ⟨mU 4 rfl rfl,aU fun _ _ H K => R.nilcP (K 45 _ rfl) H,aU (fU 46 rfl rfl),aU (lU 47 rfl rfl rfl rfl rfl rfl rfl),aU fun _ _ H K => R.lenE (SC.sl (K 48 _ rfl)) (List.length_map _) H,aU fun _ _ H K => R.gtrN (r4.length) (0) (eU K 49 rfl) (kI 0 rfl) H,mU 50 rfl rfl,aW rfl rfl (gF (decide_eq_false d1) rfl) (lU 2 rfl rfl rfl rfl rfl rfl rfl),aW rfl rfl (gF (decide_eq_false d1) rfl) fun _ _ H K => R.callG hC (may_ok (⟨x.toUInt32,l,outs,k.toUInt32⟩ : TxS) hwf) (Bors.cons (Bor.pur (eU K 52 rfl) rfl rfl) Bors.nil) (FrsR.one (.bool _)) H,aW rfl rfl (gF (decide_eq_false d1) rfl) fun _ _ H K => R.un (eU K 53 rfl) rfl H,aU fun _ _ H K => R.pickF (eU K 51 rfl) (decide_eq_false d1) (eU K 54 rfl) rfl H,mU 55 rfl rfl,aW rfl rfl (gF (by simpa using d2) rfl) (lU 2 rfl rfl rfl rfl rfl rfl rfl),aW rfl rfl (gF (by simpa using d2) rfl) fun _ _ H K => R.callG hC (put_ok (⟨x.toUInt32,l,outs,k.toUInt32⟩ : TxS) hwf) (Bors.cons (Bor.pur (eU K 57 rfl) rfl rfl) Bors.nil) (FrsR.one (.sl _ _ _ (frs_map fun _ => .u8 _))) H,aW rfl rfl (gF (by simpa using d2) rfl) fun _ _ H K => R.mov (eU K 0 rfl) rfl H,aW rfl rfl (gF (by simpa using d2) rfl) fun _ _ H K => R.callG hC (beq_ok (putS (⟨x.toUInt32,l,outs,k.toUInt32⟩ : TxS)) b) (Bors.cons (Bor.sc (SC.sl (K 58 _ rfl)) (brw_map (fun _ => rfl))) (Bors.cons (Bor.pur (eU K 59 rfl) rfl rfl) Bors.nil)) (FrsR.one (.bool _)) H,aW rfl rfl (gF (by simpa using d2) rfl) fun _ _ H K => R.un (eU K 60 rfl) rfl H,aU fun _ _ H K => R.pickF (eU K 56 rfl) (by simpa using d2) (eU K 61 rfl) rfl H,trivial⟩ rfl rfl rfl rfl (tU rfl ?_)
           refine W.cond rfl (fun hc62 => ?_) (fun hc62 => ?_)
           · refine W.lineX (n := 2) (by decide) (its := [.y 63 _]) (ks := []) (kk := []) (live := [2,3,63]) (env' := [(2,_),(3,_),(63,_)]) (⟨nU rfl,rfl,⟨aU fun _ _ H _ => R.mkifc (kI 5 rfl) rfl rfl H,trivial⟩,rfl,rfl,rfl⟩) rfl (bx' := [(13,.var _),(3,.var _),(2,.var _)]) rfl (n' := 65) rfl (⟨rfl,.inr (R.panic (gU 63 rfl) (fun e he => ?_))⟩)
             obtain ⟨ch,rfl,hch⟩ := he
             intro a w hs
             show bodyPostD _ _ _ _ _ _
             rw [gt_none hc8 (by rw [go_6 hE (pre_s (sn_t hs1 hs2) hE2) hE3 ((wq_t (sn_t hs1 hs2)).trans hE4) hE5]; first | exact fin_1 d1 | exact fin_2 d2 | exact fin_3 hc62)]
             exact endDP (z2 := #[.int .u32 0,.slice none 0 0,.slice none 0 0,.int .u32 0]) (z3 := #[.int .i64 5]) (r2 := .agg [.u32 0,.nils,.nils,.u32 0]) hC1 hdf hkp (by decide) (hb23 (by decide)) rfl inferInstance (fun w ch hch cs2 cs3 e2 e3 q2 s2 q3 s3 => get1P b2 b3 w hch (hb23 (by decide)) q2 s2 q3 s3) ⟨ch,rfl,hch⟩ rfl rfl rfl rfl rfl rfl rfl rfl rfl rfl rfl rfl rfl rfl wk_zero rfl hs
           · refine W.skip ?_
             refine W.seq ?_
             refine W.l0 3 [.y 64 _] [] [] [(2,_),(3,_),(64,_)] [(13,.var _),(3,.var _),(2,.var _)] 65 ⟨aU (lU 2 rfl rfl rfl rfl rfl rfl rfl),trivial⟩ rfl rfl rfl rfl (⟨rfl,_,R.stZ (gU 2 rfl) (xU 2 rfl) rfl (gV 64 rfl) (by rfl) (by rfl) (by rfl) (by rfl) rfl,⟨rfl,_,R.stZ (gU 3 rfl) (xU 3 rfl) rfl (kI 0 rfl) (by rfl) (by rfl) (by rfl) (by rfl) rfl,tV [(2,_),(3,_)] [(13,.var _),(3,.var _),(2,.var _)] 65 rfl rfl rfl ?_⟩⟩)
             refine W.ret ?_
             intro a w hs
             show bodyPostD _ _ _ _ _ _
             rw [gt_some hc8 (by rw [go_6 hE (pre_s (sn_t hs1 hs2) hE2) hE3 ((wq_t (sn_t hs1 hs2)).trans hE4) hE5]; exact fin_s d1 (by simpa using d2) hc62)]
             exact endD hC1 hdf hkp (by decide) rfl inferInstance (get1R b2 b3) (.inr rfl) rfl rfl rfl rfl rfl rfl rfl rfl rfl rfl rfl rfl hs
     · refine W.l0 16 [.y 18 _,.y 19 _,.y 20 _,.y 21 _,.y 22 _,.y 23 _,.y 24 _,.y 25 _,.y 26 _,.y 27 _,.y 28 _,.y 29 _,.y 30 _,.y 31 _,.y 32 _,.y 5 _] [] [] [(0,_),(2,_),(3,_),(4,_),(5,_)] [(13,.var _),(3,.var _),(2,.var _)] 65 ⟨mU 4 rfl rfl,aU fun _ _ H K => R.nilcP (K 18 _ rfl) H,aU (fU 19 rfl rfl),aU (lU 20 rfl rfl rfl rfl rfl rfl rfl),aU fun _ _ H K => R.lenE (SC.sl (K 21 _ rfl)) (List.length_map _) H,aU fun _ _ H K => R.gtrN (r.length) (0) (eU K 22 rfl) (kI 0 rfl) H,mU 23 rfl rfl,aW rfl rfl (gT (decide_eq_true hs1) rfl) fun _ _ H K => R.mov (eU K 4 rfl) rfl H,aW rfl rfl (gT (decide_eq_true hs1) rfl) fun _ _ H K => R.nilcP (K 25 _ rfl) H,aW rfl rfl (gT (decide_eq_true hs1) rfl) (fU 26 rfl rfl),aW rfl rfl (gT (decide_eq_true hs1) rfl) (lU 27 rfl rfl rfl rfl rfl rfl rfl),aW rfl rfl (gT (decide_eq_true hs1) rfl) fun _ _ H K => R.idxN (0) (SC.sl (K 28 _ rfl)) (evoI (kI 0 rfl)) rfl bU H (by decide),aW rfl rfl (gT (decide_eq_true hs1) rfl) fun _ _ H K => R.ldE (K 29 _ rfl) (SC.sl (K 28 _ rfl)) (map_get! (l := r) bU) rfl rfl rfl rfl H,aW rfl rfl (gT (decide_eq_true hs1) rfl) fun _ _ H K => R.bin (eU K 30 rfl) (show ev _ _ (.const (.int .u8 0)) = some (.u8 0) from rfl) rfl trivial H,aU fun _ _ H K => R.pickT (eU K 24 rfl) (decide_eq_true hs1) (eU K 31 rfl) rfl H,aU fun _ _ H K => R.asg (eU K 32 rfl) rfl H,trivial⟩ rfl rfl rfl rfl (tU rfl ?_)
       refine W.seq ?_
       refine W.seq ?_
       refine W.l0 1 [.y 33 _] [] [] [(0,_),(2,_),(3,_),(4,_),(5,_),(33,_)] [(13,.var _),(3,.var _),(2,.var _)] 65 ⟨mU 5 rfl rfl,trivial⟩ rfl rfl rfl rfl (tU rfl ?_)
       refine W.condF rfl (by simpa using hs2) ?_
       refine W.skip ?_
       refine W.seq ?_
       rcases hE3 : bodyO r with _ | ⟨⟨ins,outs⟩,r2⟩
       · refine W.asOwnP 2 [1] 56 36 (bx' := [(13,.var _),(3,.var _),(2,.var _)]) rfl rfl rfl rfl rfl ?_
         refine W.asOwnP 2 [2] 46 2 (bx' := [(13,.var _),(3,.var _),(2,.var _)]) rfl rfl rfl rfl rfl ?_
         refine W.lineX (n := 2) (by decide) (its := [.y 36 _]) (ks := []) (kk := []) (live := [0,2,3,4,5,36]) (env' := [(0,_),(2,_),(3,_),(4,_),(5,_),(36,_)]) (⟨nU rfl,rfl,⟨mU 4 rfl rfl,trivial⟩,rfl,rfl,rfl⟩) rfl (bx' := [(13,.var _),(3,.var _),(2,.var _)]) rfl (n' := 65) rfl (⟨rfl,.inr (R.callXk [(0,13),(1,2)] hC (FnO.none' (rbody_ok r (by omega) x.toUInt32 0) (by rw [hE3]; rfl)) (EvB.cons (gV 36 rfl) rfl rfl rfl (EvB.cons (gV 2 rfl) rfl rfl rfl EvB.nil)) rfl ⟨rfl,⟨rfl,trivial⟩⟩ ⟨rfl,⟨rfl,trivial⟩⟩ rfl (fun e he => ?_))⟩)
         obtain ⟨ch,rfl,hch⟩ := he
         intro a w hs
         show bodyPostD _ _ _ _ _ _
         rw [gt_none hc8 (go_3 hE (pre_0 (sn_f2 hs2)) hE3)]
         exact endDP (z2 := #[.int .u32 0,.slice none 0 0,.slice none 0 0,.int .u32 0]) (z3 := #[.int .i64 5]) (r2 := .agg [.u32 0,.nils,.nils,.u32 0]) hC1 hdf hkp (by decide) (hb23 (by decide)) rfl inferInstance (fun w ch hch cs2 cs3 e2 e3 q2 s2 q3 s3 => get1P b2 b3 w hch (hb23 (by decide)) q2 s2 q3 s3) ⟨ch,rfl,hch⟩ rfl rfl rfl rfl rfl rfl rfl rfl rfl rfl rfl rfl rfl rfl wk_zero rfl hs
       have hbs := bodyO_sz hE3 (by omega)
       have hil := szI_len ins
       refine W.asOwnP 2 [1] 56 36 (bx' := [(13,.var _),(3,.var _),(2,.var _)]) rfl rfl rfl rfl rfl ?_
       refine W.asOwnP 2 [2] 46 2 (bx' := [(13,.var _),(3,.var _),(2,.var _)]) rfl rfl rfl rfl rfl ?_
       refine W.l0 2 [.y 36 _] [] [] [(0,_),(2,_),(3,_),(4,_),(5,_),(36,_)] [(13,.var _),(3,.var _),(2,.var _)] 65 ⟨mU 4 rfl rfl,trivial⟩ rfl rfl rfl rfl (⟨rfl,_,R.callB [(0,13),(1,2)] hC (FnO.some' (r := .tup []) (bx' := [(0,.var (.agg [.sl none 1 (r2.map D.u8)])),(1,.var (.agg [.u32 x.toUInt32,.sl (some 56) 36 (ins.map inN),.sl (some 46) 2 (outs.map outD),.u32 0]))]) (nw := []) (rbody_ok r (by omega) x.toUInt32 0) (by rw [hE3]; rfl)) (EvB.cons (gV 36 rfl) rfl rfl rfl (EvB.cons (gV 2 rfl) rfl rfl rfl EvB.nil)) rfl ⟨rfl,⟨rfl,trivial⟩⟩ ⟨rfl,⟨rfl,trivial⟩⟩ rfl rfl rfl rfl rfl rfl (nU rfl),tV [(0,_),(2,_),(3,_),(4,_),(5,_)] [(13,.var _),(3,.var _),(2,.var _)] 65 rfl rfl rfl ?_⟩)
       refine W.seq ?_
       refine W.seq ?_
       refine W.l0 1 [.y 38 _] [] [] [(0,_),(2,_),(3,_),(4,_),(38,_)] [(13,.var _),(3,.var _),(2,.var _)] 65 ⟨mU 5 rfl rfl,trivial⟩ rfl rfl rfl rfl (tU rfl ?_)
       refine W.condF rfl (by simpa using hs2) ?_
       refine W.skip ?_
       refine W.seq ?_
       rcases hE5 : numO r2 4 with _ | ⟨k,r4⟩
       · refine W.brwB 2 (d' := .agg [.u32 x.toUInt32,.sl none 36 (ins.map inN),.sl none 2 (outs.map outD),.u32 0]) (bx' := [(13,.var _),(3,.var _),(2,.var _)]) rfl (show (.agg [.u32 x.toUInt32,.sl (some 56) 36 (ins.map inN),.sl (some 46) 2 (outs.map outD),.u32 0] : D).brw = _ from by simp only [D.brw,brws_eq,List.map_cons,List.map_nil]; rw [brw_map brw_inN,brw_map brw_outD]) rfl ?_
         refine W.wkB 2 (d' := .agg [.u32 x.toUInt32,.sl none 36 (ins.map inD),.sl none 2 (outs.map outD),.u32 0]) (bx' := [(13,.var _),(3,.var _),(2,.var _)]) rfl (wk_txN fun z hz => (hbs.1 z hz).2) rfl ?_
         refine W.lineX (n := 5) (by decide) (its := [.y 41 _]) (ks := []) (kk := []) (live := [0,2,3,4,41]) (env' := [(0,_),(2,_),(3,_),(4,_),(41,_)]) (⟨nU rfl,rfl,⟨mU 4 rfl rfl,trivial⟩,rfl,rfl,rfl⟩) rfl (bx' := [(13,.var _),(3,.var _),(2,.var _)]) rfl (n' := 65) rfl (⟨rfl,.inr (R.callXk [(0,13)] hC (FnO.none' (rnumber_ok r2 (by omega) 4 (by decide)) (by rw [hE5]; rfl)) (EvB.cons (gV 41 rfl) rfl rfl rfl (EvB.cons (kI 4 rfl) rfl rfl rfl EvB.nil)) rfl ⟨rfl,trivial⟩ ⟨rfl,trivial⟩ rfl (fun e he => ?_))⟩)
         obtain ⟨ch,rfl,hch⟩ := he
         intro a w hs
         show bodyPostD _ _ _ _ _ _
         rw [gt_none hc8 (go_5 hE (pre_0 (sn_f2 hs2)) hE3 (wq_f (sn_f2 hs2)) hE5)]
         exact endDP (z2 := #[.int .u32 0,.slice none 0 0,.slice none 0 0,.int .u32 0]) (z3 := #[.int .i64 5]) (r2 := .agg [.u32 0,.nils,.nils,.u32 0]) hC1 hdf hkp (by decide) (hb23 (by decide)) rfl inferInstance (fun w ch hch cs2 cs3 e2 e3 q2 s2 q3 s3 => get1P b2 b3 w hch (hb23 (by decide)) q2 s2 q3 s3) ⟨ch,rfl,hch⟩ rfl rfl rfl rfl rfl rfl rfl rfl rfl rfl rfl rfl rfl rfl wk_zero rfl hs
       refine W.brwB 2 (d' := .agg [.u32 x.toUInt32,.sl none 36 (ins.map inN),.sl none 2 (outs.map outD),.u32 0]) (bx' := [(13,.var _),(3,.var _),(2,.var _)]) rfl (show (.agg [.u32 x.toUInt32,.sl (some 56) 36 (ins.map inN),.sl (some 46) 2 (outs.map outD),.u32 0] : D).brw = _ from by simp only [D.brw,brws_eq,List.map_cons,List.map_nil]; rw [brw_map brw_inN,brw_map brw_outD]) rfl ?_
       refine W.wkB 2 (d' := .agg [.u32 x.toUInt32,.sl none 36 (ins.map inD),.sl none 2 (outs.map outD),.u32 0]) (bx' := [(13,.var _),(3,.var _),(2,.var _)]) rfl (wk_txN fun z hz => (hbs.1 z hz).2) rfl ?_
       refine W.l0 5 [.y 41 _] [] [] [(0,_),(2,_),(3,_),(4,_),(41,_)] [(13,.var _),(3,.var _),(2,.var _)] 65 ⟨mU 4 rfl rfl,trivial⟩ rfl rfl rfl rfl (⟨rfl,_,R.callB [(0,13)] hC (FnO.some' (r := .u64 k) (bx' := [(0,.var (.agg [.sl none 1 (r4.map D.u8)]))]) (nw := []) (rnumber_ok r2 (by omega) 4 (by decide)) (by rw [hE5]; rfl)) (EvB.cons (gV 41 rfl) rfl rfl rfl (EvB.cons (kI 4 rfl) rfl rfl rfl EvB.nil)) rfl ⟨rfl,trivial⟩ ⟨rfl,trivial⟩ rfl rfl rfl rfl rfl rfl (nU rfl),⟨rfl,_,R.conv (gV 42 rfl) rfl (nU rfl),⟨rfl,_,R.fdP (gU 2 rfl) (nU rfl),⟨rfl,_,R.stZ (gU 44 rfl) (xU 2 rfl) rfl (gV 43 rfl) (by rfl) (by rfl) (by rfl) (by rfl) rfl,tV [(0,_),(2,_),(3,_),(4,_)] [(13,.var _),(3,.var _),(2,.var _)] 65 rfl rfl rfl ?_⟩⟩⟩⟩)
       refine W.seq ?_
       refine W.seq ?_
       by_cases d1 : 0 < r4.length
       · have hwf : ((⟨x.toUInt32,ins,outs,k.toUInt32⟩ : TxS)).wf := get_wf (by omega) (pre_0 (sn_f2 hs2)) hE3 (wq_f (sn_f2 hs2))
         refine W.l0 18 [.y 45 _,.y 46 _,.y 47 _,.y 48 _,.y 49 _,.y 50 _,.y 51 _,.x 52,.x 53,.x 54,.y 55 _,.y 56 _,.x 57,.x 58,.x 59,.x 60,.x 61,.y 62 _] [] [] [(2,_),(3,_),(62,_)] [(13,.var _),(3,.var _),(2,.var _)] 65 ⟨mU 4 rfl rfl,aU fun _ _ H K => R.nilcP (K 45 _ rfl) H,aU (fU 46 rfl rfl),aU (lU 47 rfl rfl rfl rfl rfl rfl rfl),aU fun _ _ H K => R.lenE (SC.sl (K 48 _ rfl)) (List.length_map _) H,aU fun _ _ H K => R.gtrN (r4.length) (0) (eU K 49 rfl) (kI 0 rfl) H,mU 50 rfl rfl,aF rfl rfl (gT (decide_eq_true d1) rfl),aF rfl rfl (gT (decide_eq_true d1) rfl),aF rfl rfl (gT (decide_eq_true d1) rfl),aU fun _ _ H K => R.pickT (eU K 51 rfl) (decide_eq_true d1) (kB true rfl) rfl H,mU 55 rfl rfl,aF rfl rfl (gT (rfl) rfl),aF rfl rfl (gT (rfl) rfl),aF rfl rfl (gT (rfl) rfl),aF rfl rfl (gT (rfl) rfl),aF rfl rfl (gT (rfl) rfl),aU fun _ _ H K => R.pickT (eU K 56 rfl) (rfl) (kB true rfl) rfl H,trivial⟩ rfl rfl rfl rfl (tU rfl ?_)
         refine W.condT rfl (rfl) ?_
         refine W.lineX (n := 2) (by decide) (its := [.y 63 _]) (ks := []) (kk := []) (live := [2,3,63]) (env' := [(2,_),(3,_),(63,_)]) (⟨nU rfl,rfl,⟨aU fun _ _ H _ => R.mkifc (kI 5 rfl) rfl rfl H,trivial⟩,rfl,rfl,rfl⟩) rfl (bx' := [(13,.var _),(3,.var _),(2,.var _)]) rfl (n' := 65) rfl (⟨rfl,.inr (R.panic (gU 63 rfl) (fun e he => ?_))⟩)
         obtain ⟨ch,rfl,hch⟩ := he
         intro a w hs
         show bodyPostD _ _ _ _ _ _
         rw [gt_none hc8 (by rw [go_6 hE (pre_0 (sn_f2 hs2)) hE3 (wq_f (sn_f2 hs2)) hE5]; first | exact fin_1 d1 | exact fin_2 d2 | exact fin_3 hc62)]
         exact endDP (z2 := #[.int .u32 0,.slice none 0 0,.slice none 0 0,.int .u32 0]) (z3 := #[.int .i64 5]) (r2 := .agg [.u32 0,.nils,.nils,.u32 0]) hC1 hdf hkp (by decide) (hb23 (by decide)) rfl inferInstance (fun w ch hch cs2 cs3 e2 e3 q2 s2 q3 s3 => get1P b2 b3 w hch (hb23 (by decide)) q2 s2 q3 s3) ⟨ch,rfl,hch⟩ rfl rfl rfl rfl rfl rfl rfl rfl rfl rfl rfl rfl rfl rfl wk_zero rfl hs
       · by_cases d2 : mayS (⟨x.toUInt32,ins,outs,k.toUInt32⟩ : TxS) = false
         · have hwf : ((⟨x.toUInt32,ins,outs,k.toUInt32⟩ : TxS)).wf := get_wf (by omega) (pre_0 (sn_f2 hs2)) hE3 (wq_f (sn_f2 hs2))
           refine W.l0 18 [.y 45 _,.y 46 _,.y 47 _,.y 48 _,.y 49 _,.y 50 _,.y 51 _,.y 52 _,.y 53 _,.y 54 _,.y 55 _,.y 56 _,.x 57,.x 58,.x 59,.x 60,.x 61,.y 62 _] [] [] [(2,_),(3,_),(62,_)] [(13,.var _),(3,.var _),(2,.var _)] 65 ⟨mU 4 rfl rfl,aU fun _ _ H K => R.nilcP (K 45 _ rfl) H,aU (fU 46 rfl rfl),aU (lU 47 rfl rfl rfl rfl rfl rfl rfl),aU fun _ _ H K => R.lenE (SC.sl (K 48 _ rfl)) (List.length_map _) H,aU fun _ _ H K => R.gtrN (r4.length) (0) (eU K 49 rfl) (kI 0 rfl) H,mU 50 rfl rfl,aW rfl rfl (gF (decide_eq_false d1) rfl) (lU 2 rfl rfl rfl rfl rfl rfl rfl),aW rfl rfl (gF (decide_eq_false d1) rfl) fun _ _ H K => R.callG hC (may_ok (⟨x.toUInt32,ins,outs,k.toUInt32⟩ : TxS) hwf) (Bors.cons (Bor.pur (eU K 52 rfl) rfl rfl) Bors.nil) (FrsR.one (.bool _)) H,aW rfl rfl (gF (decide_eq_false d1) rfl) fun _ _ H K => R.un (eU K 53 rfl) rfl H,aU fun _ _ H K => R.pickF (eU K 51 rfl) (decide_eq_false d1) (eU K 54 rfl) rfl H,mU 55 rfl rfl,aF rfl rfl (gT (by rw [d2]; rfl) rfl),aF rfl rfl (gT (by rw [d2]; rfl) rfl),aF rfl rfl (gT (by rw [d2]; rfl) rfl),aF rfl rfl (gT (by rw [d2]; rfl) rfl),aF rfl rfl (gT (by rw [d2]; rfl) rfl),aU fun _ _ H K => R.pickT (eU K 56 rfl) (by rw [d2]; rfl) (kB true rfl) rfl H,trivial⟩ rfl rfl rfl rfl (tU rfl ?_)
           refine W.condT rfl (rfl) ?_
           refine W.lineX (n := 2) (by decide) (its := [.y 63 _]) (ks := []) (kk := []) (live := [2,3,63]) (env' := [(2,_),(3,_),(63,_)]) (⟨nU rfl,rfl,⟨aU fun _ _ H _ => R.mkifc (kI 5 rfl) rfl rfl H,trivial⟩,rfl,rfl,rfl⟩) rfl (bx' := [(13,.var _),(3,.var _),(2,.var _)]) rfl (n' := 65) rfl (⟨rfl,.inr (R.panic (gU 63 rfl) (fun e he => ?_))⟩)
           obtain ⟨ch,rfl,hch⟩ := he
           intro a w hs
           show bodyPostD _ _ _ _ _ _
           rw [gt_none hc8 (by rw [go_6 hE (pre_0 (sn_f2 hs2)) hE3 (wq_f (sn_f2 hs2)) hE5]; first | exact fin_1 d1 | exact fin_2 d2 | exact fin_3 hc62)]
           exact endDP (z2 := #[.int .u32 0,.slice none 0 0,.slice none 0 0,.int .u32 0]) (z3 := #[.int .i64 5]) (r2 := .agg [.u32 0,.nils,.nils,.u32 0]) hC1 hdf hkp (by decide) (hb23 (by decide)) rfl inferInstance (fun w ch hch cs2 cs3 e2 e3 q2 s2 q3 s3 => get1P b2 b3 w hch (hb23 (by decide)) q2 s2 q3 s3) ⟨ch,rfl,hch⟩ rfl rfl rfl rfl rfl rfl rfl rfl rfl rfl rfl rfl rfl rfl wk_zero rfl hs
         · have hwf : ((⟨x.toUInt32,ins,outs,k.toUInt32⟩ : TxS)).wf := get_wf (by omega) (pre_0 (sn_f2 hs2)) hE3 (wq_f (sn_f2 hs2))
           refine W.l0 18 [.y 45 _,.y 46 _,.y 47 _,.y 48 _,.y 49 _,.y 50 _,.y 51 _,.y 52 _,.y 53 _,.y 54 _,.y 55 _,.y 56 _,.y 57 _,.y 58 _,.y 59 _,.y 60 _,.y 61 _,.y 62 _] [] [] [(2,_),(3,_),(62,_)] [(13,.var _),(3,.var _),(2,.var _)] 65 ⟨mU 4 rfl rfl,aU fun _ _ H K => R.nilcP (K 45 _ rfl) H,aU (fU 46 rfl rfl),aU (lU 47 rfl rfl rfl rfl rfl rfl rfl),aU fun _ _ H K => R.lenE (SC.sl (K 48 _ rfl)) (List.length_map _) H,aU fun _ _ H K => R.gtrN (r4.length) (0) (eU K 49 rfl) (kI 0 rfl) H,mU 50 rfl rfl,aW rfl rfl (gF (decide_eq_false d1) rfl) (lU 2 rfl rfl rfl rfl rfl rfl rfl),aW rfl rfl (gF (decide_eq_false d1) rfl) fun _ _ H K => R.callG hC (may_ok (⟨x.toUInt32,ins,outs,k.toUInt32⟩ : TxS) hwf) (Bors.cons (Bor.pur (eU K 52 rfl) rfl rfl) Bors.nil) (FrsR.one (.bool _)) H,aW rfl rfl (gF (decide_eq_false d1) rfl) fun _ _ H K => R.un (eU K 53 rfl) rfl H,aU fun _ _ H K => R.pickF (eU K 51 rfl) (decide_eq_false d1) (eU K 54 rfl) rfl H,mU 55 rfl rfl,aW rfl rfl (gF (by simpa using d2) rfl) (lU 2 rfl rfl rfl rfl rfl rfl rfl),aW rfl rfl (gF (by simpa using d2) rfl) fun _ _ H K => R.callG hC (put_ok (⟨x.toUInt32,ins,outs,k.toUInt32⟩ : TxS) hwf) (Bors.cons (Bor.pur (eU K 57 rfl) rfl rfl) Bors.nil) (FrsR.one (.sl _ _ _ (frs_map fun _ => .u8 _))) H,aW rfl rfl (gF (by simpa using d2) rfl) fun _ _ H K => R.mov (eU K 0 rfl) rfl H,aW rfl rfl (gF (by simpa using d2) rfl) fun _ _ H K => R.callG hC (beq_ok (putS (⟨x.toUInt32,ins,outs,k.toUInt32⟩ : TxS)) b) (Bors.cons (Bor.sc (SC.sl (K 58 _ rfl)) (brw_map (fun _ => rfl))) (Bors.cons (Bor.pur (eU K 59 rfl) rfl rfl) Bors.nil)) (FrsR.one (.bool _)) H,aW rfl rfl (gF (by simpa using d2) rfl) fun _ _ H K => R.un (eU K 60 rfl) rfl H,aU fun _ _ H K => R.pickF (eU K 56 rfl) (by simpa using d2) (eU K 61 rfl) rfl H,trivial⟩ rfl rfl rfl rfl (tU rfl ?_)
           refine W.cond rfl (fun hc62 => ?_) (fun hc62 => ?_)
           · refine W.lineX (n := 2) (by decide) (its := [.y 63 _]) (ks := []) (kk := []) (live := [2,3,63]) (env' := [(2,_),(3,_),(63,_)]) (⟨nU rfl,rfl,⟨aU fun _ _ H _ => R.mkifc (kI 5 rfl) rfl rfl H,trivial⟩,rfl,rfl,rfl⟩) rfl (bx' := [(13,.var _),(3,.var _),(2,.var _)]) rfl (n' := 65) rfl (⟨rfl,.inr (R.panic (gU 63 rfl) (fun e he => ?_))⟩)
             obtain ⟨ch,rfl,hch⟩ := he
             intro a w hs
             show bodyPostD _ _ _ _ _ _
             rw [gt_none hc8 (by rw [go_6 hE (pre_0 (sn_f2 hs2)) hE3 (wq_f (sn_f2 hs2)) hE5]; first | exact fin_1 d1 | exact fin_2 d2 | exact fin_3 hc62)]
             exact endDP (z2 := #[.int .u32 0,.slice none 0 0,.slice none 0 0,.int .u32 0]) (z3 := #[.int .i64 5]) (r2 := .agg [.u32 0,.nils,.nils,.u32 0]) hC1 hdf hkp (by decide) (hb23 (by decide)) rfl inferInstance (fun w ch hch cs2 cs3 e2 e3 q2 s2 q3 s3 => get1P b2 b3 w hch (hb23 (by decide)) q2 s2 q3 s3) ⟨ch,rfl,hch⟩ rfl rfl rfl rfl rfl rfl rfl rfl rfl rfl rfl rfl rfl rfl wk_zero rfl hs
           · refine W.skip ?_
             refine W.seq ?_
             refine W.l0 3 [.y 64 _] [] [] [(2,_),(3,_),(64,_)] [(13,.var _),(3,.var _),(2,.var _)] 65 ⟨aU (lU 2 rfl rfl rfl rfl rfl rfl rfl),trivial⟩ rfl rfl rfl rfl (⟨rfl,_,R.stZ (gU 2 rfl) (xU 2 rfl) rfl (gV 64 rfl) (by rfl) (by rfl) (by rfl) (by rfl) rfl,⟨rfl,_,R.stZ (gU 3 rfl) (xU 3 rfl) rfl (kI 0 rfl) (by rfl) (by rfl) (by rfl) (by rfl) rfl,tV [(2,_),(3,_)] [(13,.var _),(3,.var _),(2,.var _)] 65 rfl rfl rfl ?_⟩⟩)
             refine W.ret ?_
             intro a w hs
             show bodyPostD _ _ _ _ _ _
             rw [gt_some hc8 (by rw [go_6 hE (pre_0 (sn_f2 hs2)) hE3 (wq_f (sn_f2 hs2)) hE5]; exact fin_s d1 (by simpa using d2) hc62)]
             exact endD hC1 hdf hkp (by decide) rfl inferInstance (get1R b2 b3) (.inr rfl) rfl rfl rfl rfl rfl rfl rfl rfl rfl rfl rfl rfl hs
   · refine W.l0 16 [.y 18 _,.y 19 _,.y 20 _,.y 21 _,.y 22 _,.y 23 _,.y 24 _,.x 25,.x 26,.x 27,.x 28,.x 29,.x 30,.x 31,.y 32 _,.y 5 _] [] [] [(0,_),(2,_),(3,_),(4,_),(5,_)] [(13,.var _),(3,.var _),(2,.var _)] 65 ⟨mU 4 rfl rfl,aU fun _ _ H K => R.nilcP (K 18 _ rfl) H,aU (fU 19 rfl rfl),aU (lU 20 rfl rfl rfl rfl rfl rfl rfl),aU fun _ _ H K => R.lenE (SC.sl (K 21 _ rfl)) (List.length_map _) H,aU fun _ _ H K => R.gtrN (r.length) (0) (eU K 22 rfl) (kI 0 rfl) H,mU 23 rfl rfl,aF rfl rfl (gF (decide_eq_false hs1) rfl),aF rfl rfl (gF (decide_eq_false hs1) rfl),aF rfl rfl (gF (decide_eq_false hs1) rfl),aF rfl rfl (gF (decide_eq_false hs1) rfl),aF rfl rfl (gF (decide_eq_false hs1) rfl),aF rfl rfl (gF (decide_eq_false hs1) rfl),aF rfl rfl (gF (decide_eq_false hs1) rfl),aU fun _ _ H K => R.pickF (eU K 24 rfl) (decide_eq_false hs1) (kB false rfl) rfl H,aU fun _ _ H K => R.asg (eU K 32 rfl) rfl H,trivial⟩ rfl rfl rfl rfl (tU rfl ?_)
     refine W.seq ?_
     refine W.seq ?_
     refine W.l0 1 [.y 33 _] [] [] [(0,_),(2,_),(3,_),(4,_),(5,_),(33,_)] [(13,.var _),(3,.var _),(2,.var _)] 65 ⟨mU 5 rfl rfl,trivial⟩ rfl rfl rfl rfl (tU rfl ?_)
     refine W.condF rfl (rfl) ?_
     refine W.skip ?_
     refine W.seq ?_
     rcases hE3 : bodyO r with _ | ⟨⟨ins,outs⟩,r2⟩
     · refine W.asOwnP 2 [1] 56 36 (bx' := [(13,.var _),(3,.var _),(2,.var _)]) rfl rfl rfl rfl rfl ?_
       refine W.asOwnP 2 [2] 46 2 (bx' := [(13,.var _),(3,.var _),(2,.var _)]) rfl rfl rfl rfl rfl ?_
       refine W.lineX (n := 2) (by decide) (its := [.y 36 _]) (ks := []) (kk := []) (live := [0,2,3,4,5,36]) (env' := [(0,_),(2,_),(3,_),(4,_),(5,_),(36,_)]) (⟨nU rfl,rfl,⟨mU 4 rfl rfl,trivial⟩,rfl,rfl,rfl⟩) rfl (bx' := [(13,.var _),(3,.var _),(2,.var _)]) rfl (n' := 65) rfl (⟨rfl,.inr (R.callXk [(0,13),(1,2)] hC (FnO.none' (rbody_ok r (by omega) x.toUInt32 0) (by rw [hE3]; rfl)) (EvB.cons (gV 36 rfl) rfl rfl rfl (EvB.cons (gV 2 rfl) rfl rfl rfl EvB.nil)) rfl ⟨rfl,⟨rfl,trivial⟩⟩ ⟨rfl,⟨rfl,trivial⟩⟩ rfl (fun e he => ?_))⟩)
       obtain ⟨ch,rfl,hch⟩ := he
       intro a w hs
       show bodyPostD _ _ _ _ _ _
       rw [gt_none hc8 (go_3 hE (pre_0 (sn_f1 hs1)) hE3)]
       exact endDP (z2 := #[.int .u32 0,.slice none 0 0,.slice none 0 0,.int .u32 0]) (z3 := #[.int .i64 5]) (r2 := .agg [.u32 0,.nils,.nils,.u32 0]) hC1 hdf hkp (by decide) (hb23 (by decide)) rfl inferInstance (fun w ch hch cs2 cs3 e2 e3 q2 s2 q3 s3 => get1P b2 b3 w hch (hb23 (by decide)) q2 s2 q3 s3) ⟨ch,rfl,hch⟩ rfl rfl rfl rfl rfl rfl rfl rfl rfl rfl rfl rfl rfl rfl wk_zero rfl hs
     have hbs := bodyO_sz hE3 (by omega)
     have hil := szI_len ins
     refine W.asOwnP 2 [1] 56 36 (bx' := [(13,.var _),(3,.var _),(2,.var _)]) rfl rfl rfl rfl rfl ?_
     refine W.asOwnP 2 [2] 46 2 (bx' := [(13,.var _),(3,.var _),(2,.var _)]) rfl rfl rfl rfl rfl ?_
     refine W.l0 2 [.y 36 _] [] [] [(0,_),(2,_),(3,_),(4,_),(5,_),(36,_)] [(13,.var _),(3,.var _),(2,.var _)] 65 ⟨mU 4 rfl rfl,trivial⟩ rfl rfl rfl rfl (⟨rfl,_,R.callB [(0,13),(1,2)] hC (FnO.some' (r := .tup []) (bx' := [(0,.var (.agg [.sl none 1 (r2.map D.u8)])),(1,.var (.agg [.u32 x.toUInt32,.sl (some 56) 36 (ins.map inN),.sl (some 46) 2 (outs.map outD),.u32 0]))]) (nw := []) (rbody_ok r (by omega) x.toUInt32 0) (by rw [hE3]; rfl)) (EvB.cons (gV 36 rfl) rfl rfl rfl (EvB.cons (gV 2 rfl) rfl rfl rfl EvB.nil)) rfl ⟨rfl,⟨rfl,trivial⟩⟩ ⟨rfl,⟨rfl,trivial⟩⟩ rfl rfl rfl rfl rfl rfl (nU rfl),tV [(0,_),(2,_),(3,_),(4,_),(5,_)] [(13,.var _),(3,.var _),(2,.var _)] 65 rfl rfl rfl ?_⟩)
     refine W.seq ?_
     refine W.seq ?_
     refine W.l0 1 [.y 38 _] [] [] [(0,_),(2,_),(3,_),(4,_),(38,_)] [(13,.var _),(3,.var _),(2,.var _)] 65 ⟨mU 5 rfl rfl,trivial⟩ rfl rfl rfl rfl (tU rfl ?_)
     refine W.condF rfl (rfl) ?_
     refine W.skip ?_
     refine W.seq ?_
     rcases hE5 : numO r2 4 with _ | ⟨k,r4⟩
     · refine W.brwB 2 (d' := .agg [.u32 x.toUInt32,.sl none 36 (ins.map inN),.sl none 2 (outs.map outD),.u32 0]) (bx' := [(13,.var _),(3,.var _),(2,.var _)]) rfl (show (.agg [.u32 x.toUInt32,.sl (some 56) 36 (ins.map inN),.sl (some 46) 2 (outs.map outD),.u32 0] : D).brw = _ from by simp only [D.brw,brws_eq,List.map_cons,List.map_nil]; rw [brw_map brw_inN,brw_map brw_outD]) rfl ?_
       refine W.wkB 2 (d' := .agg [.u32 x.toUInt32,.sl none 36 (ins.map inD),.sl none 2 (outs.map outD),.u32 0]) (bx' := [(13,.var _),(3,.var _),(2,.var _)]) rfl (wk_txN fun z hz => (hbs.1 z hz).2) rfl ?_
       refine W.lineX (n := 5) (by decide) (its := [.y 41 _]) (ks := []) (kk := []) (live := [0,2,3,4,41]) (env' := [(0,_),(2,_),(3,_),(4,_),(41,_)]) (⟨nU rfl,rfl,⟨mU 4 rfl rfl,trivial⟩,rfl,rfl,rfl⟩) rfl (bx' := [(13,.var _),(3,.var _),(2,.var _)]) rfl (n' := 65) rfl (⟨rfl,.inr (R.callXk [(0,13)] hC (FnO.none' (rnumber_ok r2 (by omega) 4 (by decide)) (by rw [hE5]; rfl)) (EvB.cons (gV 41 rfl) rfl rfl rfl (EvB.cons (kI 4 rfl) rfl rfl rfl EvB.nil)) rfl ⟨rfl,trivial⟩ ⟨rfl,trivial⟩ rfl (fun e he => ?_))⟩)
       obtain ⟨ch,rfl,hch⟩ := he
       intro a w hs
       show bodyPostD _ _ _ _ _ _
       rw [gt_none hc8 (go_5 hE (pre_0 (sn_f1 hs1)) hE3 (wq_f (sn_f1 hs1)) hE5)]
       exact endDP (z2 := #[.int .u32 0,.slice none 0 0,.slice none 0 0,.int .u32 0]) (z3 := #[.int .i64 5]) (r2 := .agg [.u32 0,.nils,.nils,.u32 0]) hC1 hdf hkp (by decide) (hb23 (by decide)) rfl inferInstance (fun w ch hch cs2 cs3 e2 e3 q2 s2 q3 s3 => get1P b2 b3 w hch (hb23 (by decide)) q2 s2 q3 s3) ⟨ch,rfl,hch⟩ rfl rfl rfl rfl rfl rfl rfl rfl rfl rfl rfl rfl rfl rfl wk_zero rfl hs
     refine W.brwB 2 (d' := .agg [.u32 x.toUInt32,.sl none 36 (ins.map inN),.sl none 2 (outs.map outD),.u32 0]) (bx' := [(13,.var _),(3,.var _),(2,.var _)]) rfl (show (.agg [.u32 x.toUInt32,.sl (some 56) 36 (ins.map inN),.sl (some 46) 2 (outs.map outD),.u32 0] : D).brw = _ from by simp only [D.brw,brws_eq,List.map_cons,List.map_nil]; rw [brw_map brw_inN,brw_map brw_outD]) rfl ?_
     refine W.wkB 2 (d' := .agg [.u32 x.toUInt32,.sl none 36 (ins.map inD),.sl none 2 (outs.map outD),.u32 0]) (bx' := [(13,.var _),(3,.var _),(2,.var _)]) rfl (wk_txN fun z hz => (hbs.1 z hz).2) rfl ?_
     refine W.l0 5 [.y 41 _] [] [] [(0,_),(2,_),(3,_),(4,_),(41,_)] [(13,.var _),(3,.var _),(2,.var _)] 65 ⟨mU 4 rfl rfl,trivial⟩ rfl rfl rfl rfl (⟨rfl,_,R.callB [(0,13)] hC (FnO.some' (r := .u64 k) (bx' := [(0,.var (.agg [.sl none 1 (r4.map D.u8)]))]) (nw := []) (rnumber_ok r2 (by omega) 4 (by decide)) (by rw [hE5]; rfl)) (EvB.cons (gV 41 rfl) rfl rfl rfl (EvB.cons (kI 4 rfl) rfl rfl rfl EvB.nil)) rfl ⟨rfl,trivial⟩ ⟨rfl,trivial⟩ rfl rfl rfl rfl rfl rfl (nU rfl),⟨rfl,_,R.conv (gV 42 rfl) rfl (nU rfl),⟨rfl,_,R.fdP (gU 2 rfl) (nU rfl),⟨rfl,_,R.stZ (gU 44 rfl) (xU 2 rfl) rfl (gV 43 rfl) (by rfl) (by rfl) (by rfl) (by rfl) rfl,tV [(0,_),(2,_),(3,_),(4,_)] [(13,.var _),(3,.var _),(2,.var _)] 65 rfl rfl rfl ?_⟩⟩⟩⟩)
     refine W.seq ?_
     refine W.seq ?_
     by_cases d1 : 0 < r4.length
     · have hwf : ((⟨x.toUInt32,ins,outs,k.toUInt32⟩ : TxS)).wf := get_wf (by omega) (pre_0 (sn_f1 hs1)) hE3 (wq_f (sn_f1 hs1))
       refine W.l0 18 [.y 45 _,.y 46 _,.y 47 _,.y 48 _,.y 49 _,.y 50 _,.y 51 _,.x 52,.x 53,.x 54,.y 55 _,.y 56 _,.x 57,.x 58,.x 59,.x 60,.x 61,.y 62 _] [] [] [(2,_),(3,_),(62,_)] [(13,.var _),(3,.var _),(2,.var _)] 65 ⟨mU 4 rfl rfl,aU fun _ _ H K => R.nilcP (K 45 _ rfl) H,aU (fU 46 rfl rfl),aU (lU 47 rfl rfl rfl rfl rfl rfl rfl),aU fun _ _ H K => R.lenE (SC.sl (K 48 _ rfl)) (List.length_map _) H,aU fun _ _ H K => R.gtrN (r4.length) (0) (eU K 49 rfl) (kI 0 rfl) H,mU 50 rfl rfl,aF rfl rfl (gT (decide_eq_true d1) rfl),aF rfl rfl (gT (decide_eq_true d1) rfl),aF rfl rfl (gT (decide_eq_true d1) rfl),aU fun _ _ H K => R.pickT (eU K 51 rfl) (decide_eq_true d1) (kB true rfl) rfl H,mU 55 rfl rfl,aF rfl rfl (gT (rfl) rfl),aF rfl rfl (gT (rfl) rfl),aF rfl rfl (gT (rfl) rfl),aF rfl rfl (gT (rfl) rfl),aF rfl rfl (gT (rfl) rfl),aU fun _ _ H K => R.pickT (eU K 56 rfl) (rfl) (kB true rfl) rfl H,trivial⟩ rfl rfl rfl rfl (tU rfl ?_)
       refine W.condT rfl (rfl) ?_
       refine W.lineX (n := 2) (by decide) (its := [.y 63 _]) (ks := []) (kk := []) (live := [2,3,63]) (env' := [(2,_),(3,_),(63,_)]) (⟨nU rfl,rfl,⟨aU fun _ _ H _ => R.mkifc (kI 5 rfl) rfl rfl H,trivial⟩,rfl,rfl,rfl⟩) rfl (bx' := [(13,.var _),(3,.var _),(2,.var _)]) rfl (n' := 65) rfl (⟨rfl,.inr (R.panic (gU 63 rfl) (fun e he => ?_))⟩)
       obtain ⟨ch,rfl,hch⟩ := he
       intro a w hs
       show bodyPostD _ _ _ _ _ _
       rw [gt_none hc8 (by rw [go_6 hE (pre_0 (sn_f1 hs1)) hE3 (wq_f (sn_f1 hs1)) hE5]; first | exact fin_1 d1 | exact fin_2 d2 | exact fin_3 hc62)]
       exact endDP (z2 := #[.int .u32 0,.slice none 0 0,.slice none 0 0,.int .u32 0]) (z3 := #[.int .i64 5]) (r2 := .agg [.u32 0,.nils,.nils,.u32 0]) hC1 hdf hkp (by decide) (hb23 (by decide)) rfl inferInstance (fun w ch hch cs2 cs3 e2 e3 q2 s2 q3 s3 => get1P b2 b3 w hch (hb23 (by decide)) q2 s2 q3 s3) ⟨ch,rfl,hch⟩ rfl rfl rfl rfl rfl rfl rfl rfl rfl rfl rfl rfl rfl rfl wk_zero rfl hs
     · by_cases d2 : mayS (⟨x.toUInt32,ins,outs,k.toUInt32⟩ : TxS) = false
       · have hwf : ((⟨x.toUInt32,ins,outs,k.toUInt32⟩ : TxS)).wf := get_wf (by omega) (pre_0 (sn_f1 hs1)) hE3 (wq_f (sn_f1 hs1))
         refine W.l0 18 [.y 45 _,.y 46 _,.y 47 _,.y 48 _,.y 49 _,.y 50 _,.y 51 _,.y 52 _,.y 53 _,.y 54 _,.y 55 _,.y 56 _,.x 57,.x 58,.x 59,.x 60,.x 61,.y 62 _] [] [] [(2,_),(3,_),(62,_)] [(13,.var _),(3,.var _),(2,.var _)] 65 ⟨mU 4 rfl rfl,aU fun _ _ H K => R.nilcP (K 45 _ rfl) H,aU (fU 46 rfl rfl),aU (lU 47 rfl rfl rfl rfl rfl rfl rfl),aU fun _ _ H K => R.lenE (SC.sl (K 48 _ rfl)) (List.length_map _) H,aU fun _ _ H K => R.gtrN (r4.length) (0) (eU K 49 rfl) (kI 0 rfl) H,mU 50 rfl rfl,aW rfl rfl (gF (decide_eq_false d1) rfl) (lU 2 rfl rfl rfl rfl rfl rfl rfl),aW rfl rfl (gF (decide_eq_false d1) rfl) fun _ _ H K => R.callG hC (may_ok (⟨x.toUInt32,ins,outs,k.toUInt32⟩ : TxS) hwf) (Bors.cons (Bor.pur (eU K 52 rfl) rfl rfl) Bors.nil) (FrsR.one (.bool _)) H,aW rfl rfl (gF (decide_eq_false d1) rfl) fun _ _ H K => R.un (eU K 53 rfl) rfl H,aU fun _ _ H K => R.pickF (eU K 51 rfl) (decide_eq_false d1) (eU K 54 rfl) rfl H,mU 55 rfl rfl,aF rfl rfl (gT (by rw [d2]; rfl) rfl),aF rfl rfl (gT (by rw [d2]; rfl) rfl),aF rfl rfl (gT (by rw [d2]; rfl) rfl),aF rfl rfl (gT (by rw [d2]; rfl) rfl),aF rfl rfl (gT (by rw [d2]; rfl) rfl),aU fun _ _ H K => R.pickT (eU K 56 rfl) (by rw [d2]; rfl) (kB true rfl) rfl H,trivial⟩ rfl rfl rfl rfl (tU rfl ?_)
         refine W.condT rfl (rfl) ?_
         refine W.lineX (n := 2) (by decide) (its := [.y 63 _]) (ks := []) (kk := []) (live := [2,3,63]) (env' := [(2,_),(3,_),(63,_)]) (⟨nU rfl,rfl,⟨aU fun _ _ H _ => R.mkifc (kI 5 rfl) rfl rfl H,trivial⟩,rfl,rfl,rfl⟩) rfl (bx' := [(13,.var _),(3,.var _),(2,.var _)]) rfl (n' := 65) rfl (⟨rfl,.inr (R.panic (gU 63 rfl) (fun e he => ?_))⟩)
         obtain ⟨ch,rfl,hch⟩ := he
         intro a w hs
         show bodyPostD _ _ _ _ _ _
         rw [gt_none hc8 (by rw [go_6 hE (pre_0 (sn_f1 hs1)) hE3 (wq_f (sn_f1 hs1)) hE5]; first | exact fin_1 d1 | exact fin_2 d2 | exact fin_3 hc62)]
         exact endDP (z2 := #[.int .u32 0,.slice none 0 0,.slice none 0 0,.int .u32 0]) (z3 := #[.int .i64 5]) (r2 := .agg [.u32 0,.nils,.nils,.u32 0]) hC1 hdf hkp (by decide) (hb23 (by decide)) rfl inferInstance (fun w ch hch cs2 cs3 e2 e3 q2 s2 q3 s3 => get1P b2 b3 w hch (hb23 (by decide)) q2 s2 q3 s3) ⟨ch,rfl,hch⟩ rfl rfl rfl rfl rfl rfl rfl rfl rfl rfl rfl rfl rfl rfl wk_zero rfl hs
       · have hwf : ((⟨x.toUInt32,ins,outs,k.toUInt32⟩ : TxS)).wf := get_wf (by omega) (pre_0 (sn_f1 hs1)) hE3 (wq_f (sn_f1 hs1))
         refine W.l0 18 [.y 45 _,.y 46 _,.y 47 _,.y 48 _,.y 49 _,.y 50 _,.y 51 _,.y 52 _,.y 53 _,.y 54 _,.y 55 _,.y 56 _,.y 57 _,.y 58 _,.y 59 _,.y 60 _,.y 61 _,.y 62 _] [] [] [(2,_),(3,_),(62,_)] [(13,.var _),(3,.var _),(2,.var _)] 65 ⟨mU 4 rfl rfl,aU fun _ _ H K => R.nilcP (K 45 _ rfl) H,aU (fU 46 rfl rfl),aU (lU 47 rfl rfl rfl rfl rfl rfl rfl),aU fun _ _ H K => R.lenE (SC.sl (K 48 _ rfl)) (List.length_map _) H,aU fun _ _ H K => R.gtrN (r4.length) (0) (eU K 49 rfl) (kI 0 rfl) H,mU 50 rfl rfl,aW rfl rfl (gF (decide_eq_false d1) rfl) (lU 2 rfl rfl rfl rfl rfl rfl rfl),aW rfl rfl (gF (decide_eq_false d1) rfl) fun _ _ H K => R.callG hC (may_ok (⟨x.toUInt32,ins,outs,k.toUInt32⟩ : TxS) hwf) (Bors.cons (Bor.pur (eU K 52 rfl) rfl rfl) Bors.nil) (FrsR.one (.bool _)) H,aW rfl rfl (gF (decide_eq_false d1) rfl) fun _ _ H K => R.un (eU K 53 rfl) rfl H,aU fun _ _ H K => R.pickF (eU K 51 rfl) (decide_eq_false d1) (eU K 54 rfl) rfl H,mU 55 rfl rfl,aW rfl rfl (gF (by simpa using d2) rfl) (lU 2 rfl rfl rfl rfl rfl rfl rfl),aW rfl rfl (gF (by simpa using d2) rfl) fun _ _ H K => R.callG hC (put_ok (⟨x.toUInt32,ins,outs,k.toUInt32⟩ : TxS) hwf) (Bors.cons (Bor.pur (eU K 57 rfl) rfl rfl) Bors.nil) (FrsR.one (.sl _ _ _ (frs_map fun _ => .u8 _))) H,aW rfl rfl (gF (by simpa using d2) rfl) fun _ _ H K => R.mov (eU K 0 rfl) rfl H,aW rfl rfl (gF (by simpa using d2) rfl) fun _ _ H K => R.callG hC (beq_ok (putS (⟨x.toUInt32,ins,outs,k.toUInt32⟩ : TxS)) b) (Bors.cons (Bor.sc (SC.sl (K 58 _ rfl)) (brw_map (fun _ => rfl))) (Bors.cons (Bor.pur (eU K 59 rfl) rfl rfl) Bors.nil)) (FrsR.one (.bool _)) H,aW rfl rfl (gF (by simpa using d2) rfl) fun _ _ H K => R.un (eU K 60 rfl) rfl H,aU fun _ _ H K => R.pickF (eU K 56 rfl) (by simpa using d2) (eU K 61 rfl) rfl H,trivial⟩ rfl rfl rfl rfl (tU rfl ?_)
         refine W.cond rfl (fun hc62 => ?_) (fun hc62 => ?_)
         · refine W.lineX (n := 2) (by decide) (its := [.y 63 _]) (ks := []) (kk := []) (live := [2,3,63]) (env' := [(2,_),(3,_),(63,_)]) (⟨nU rfl,rfl,⟨aU fun _ _ H _ => R.mkifc (kI 5 rfl) rfl rfl H,trivial⟩,rfl,rfl,rfl⟩) rfl (bx' := [(13,.var _),(3,.var _),(2,.var _)]) rfl (n' := 65) rfl (⟨rfl,.inr (R.panic (gU 63 rfl) (fun e he => ?_))⟩)
           obtain ⟨ch,rfl,hch⟩ := he
           intro a w hs
           show bodyPostD _ _ _ _ _ _
           rw [gt_none hc8 (by rw [go_6 hE (pre_0 (sn_f1 hs1)) hE3 (wq_f (sn_f1 hs1)) hE5]; first | exact fin_1 d1 | exact fin_2 d2 | exact fin_3 hc62)]
           exact endDP (z2 := #[.int .u32 0,.slice none 0 0,.slice none 0 0,.int .u32 0]) (z3 := #[.int .i64 5]) (r2 := .agg [.u32 0,.nils,.nils,.u32 0]) hC1 hdf hkp (by decide) (hb23 (by decide)) rfl inferInstance (fun w ch hch cs2 cs3 e2 e3 q2 s2 q3 s3 => get1P b2 b3 w hch (hb23 (by decide)) q2 s2 q3 s3) ⟨ch,rfl,hch⟩ rfl rfl rfl rfl rfl rfl rfl rfl rfl rfl rfl rfl rfl rfl wk_zero rfl hs
         · refine W.skip ?_
           refine W.seq ?_
           refine W.l0 3 [.y 64 _] [] [] [(2,_),(3,_),(64,_)] [(13,.var _),(3,.var _),(2,.var _)] 65 ⟨aU (lU 2 rfl rfl rfl rfl rfl rfl rfl),trivial⟩ rfl rfl rfl rfl (⟨rfl,_,R.stZ (gU 2 rfl) (xU 2 rfl) rfl (gV 64 rfl) (by rfl) (by rfl) (by rfl) (by rfl) rfl,⟨rfl,_,R.stZ (gU 3 rfl) (xU 3 rfl) rfl (kI 0 rfl) (by rfl) (by rfl) (by rfl) (by rfl) rfl,tV [(2,_),(3,_)] [(13,.var _),(3,.var _),(2,.var _)] 65 rfl rfl rfl ?_⟩⟩)
           refine W.ret ?_
           intro a w hs
           show bodyPostD _ _ _ _ _ _
           rw [gt_some hc8 (by rw [go_6 hE (pre_0 (sn_f1 hs1)) hE3 (wq_f (sn_f1 hs1)) hE5]; exact fin_s d1 (by simpa using d2) hc62)]
           exact endD hC1 hdf hkp (by decide) rfl inferInstance (get1R b2 b3) (.inr rfl) rfl rfl rfl rfl rfl rfl rfl rfl rfl rfl rfl rfl hs

end Go.Sx

namespace Go.Sx
open Go.Proofs
theorem small_ok : Fn Tryd.prog gl 28 [] (.agg [.u32 1,.sl (some 56) 36 [.agg [.agg [hashD (List.replicate 32 0),.u32 4294967295],.nils,.u32 4294967295,.nils]],.sl (some 46) 2 [.agg [.u64 5,.sl none 1 [.u8 81]]],.u32 0]) := by
 refine Fn.of (n := 8) Tryd.func28 rfl rfl rfl (nU rfl) fun C hC hD => ?_
 refine W.seq ?_
 refine W.l0 1 [] [] [] [] [] 8 trivial rfl rfl rfl rfl (⟨rfl,_,R.alloc rfl (nU rfl),tV [(0,_)] [(0,.var _)] 8 rfl rfl rfl ?_⟩)
 refine W.seq ?_
 refine W.l0 8 [.y 1 _,.y 2 _,.y 3 _,.y 4 _,.y 5 _,.y 6 _,.y 7 _] [(6,3),(6,6)] [(6,3),(6,6)] [(0,_),(7,_)] [(0,.var _)] 8 ⟨aU fun _ _ H _ => R.bldSE (l := [.arr 32 1 ((List.replicate 32 0).map D.u8),.u32 0]) (l' := [_,_]) (.cons (show ev _ _ (.const (.int .u32 4294967295)) = some (.u32 4294967295) from rfl) (.nil rfl)) ⟨⟨_,(show ev _ _ (.const (.int .u32 4294967295)) = some (.u32 4294967295) from rfl),rfl,rfl,rfl⟩,trivial⟩ H,aU fun _ _ H K => R.bldSE (l := [.agg [.arr 32 1 ((List.replicate 32 0).map D.u8),.u32 0],.nils,.u32 0,.nils]) (l' := [_,_,_,_]) (.cons (eU K 1 rfl) (.cons (show ev _ _ (.const (.int .u32 4294967295)) = some (.u32 4294967295) from rfl) (.nil rfl))) ⟨⟨_,(eU K 1 rfl),rfl,rfl,rfl⟩,⟨⟨_,(show ev _ _ (.const (.int .u32 4294967295)) = some (.u32 4294967295) from rfl),rfl,rfl,rfl⟩,trivial⟩⟩ H,aU fun _ _ H K => R.bslE (z := 36) (.cons (eU K 2 rfl) .nil) ⟨⟨rfl,rfl,rfl⟩,trivial⟩ rfl H (by decide),aU fun _ _ H _ => R.frzT (r' := .sl none 1 [.u8 81]) (R.bslE (z := 1) (.cons (show ev _ _ (.const (.int .u8 81)) = some (.u8 81) from rfl) .nil) ⟨⟨rfl,rfl,rfl⟩,trivial⟩ rfl H (by decide)) rfl (rfl),aU fun _ _ H K => R.bldSE (l := [.u64 0,.nils]) (l' := [_,_]) (.cons (show ev _ _ (.const (.int .u64 5)) = some (.u64 5) from rfl) (.cons (eU K 4 rfl) (.nil rfl))) ⟨⟨_,(show ev _ _ (.const (.int .u64 5)) = some (.u64 5) from rfl),rfl,rfl,rfl⟩,⟨⟨_,(eU K 4 rfl),rfl,rfl,rfl⟩,trivial⟩⟩ H,aU fun _ _ H K => R.bslE (z := 2) (.cons (eU K 5 rfl) .nil) ⟨⟨rfl,rfl,rfl⟩,trivial⟩ rfl H (by decide),aU fun _ _ H K => R.bldO (l := [.u32 0,.nils,.nils,.u32 0]) (l' := [_,_,_,_]) (.pur (show ev _ _ (.const (.int .u32 1)) = some (.u32 1) from rfl) rfl rfl rfl (.own (K 3 _ rfl) rfl rfl rfl rfl (.own (K 6 _ rfl) rfl rfl rfl rfl (.nil rfl)))) rfl H,trivial⟩ rfl rfl rfl rfl (⟨rfl,_,R.stOZ (gU 0 rfl) (xU 0 rfl) rfl (gU 7 rfl) rfl rfl (by rfl) (by rfl) rfl rfl,tV [(0,_)] [(0,.var _)] 8 rfl rfl rfl ?_⟩)
 refine W.ret ?_
 exact Ends.one' (.inr rfl) rfl (rfl) rfl rfl (show LdT _ 26 4 true from inferInstance)

end Go.Sx

namespace Go.Sx
open Go.Proofs
section
variable {b r r0 r1 r2 r3 r4 r5 x s u : List UInt8} {bad e e0 e1 e2 e3 e4 e5 e6 : Bool} {p q : UInt64} {i j n m : Nat} {l : List InS} {o : List OutS}
end
end Go.Sx

namespace Go.Sx
open Go.Proofs
end Go.Sx

namespace Go.Sx
open Go.Proofs
end Go.Sx

namespace Go.Sx
def val : List UInt8 → Nat
 | [] => 0
 | x :: r => x.toNat + 256 * val r
theorem val_lt (l : List UInt8) : val l < 256 ^ l.length := by
 induction l with
 | nil => simp [val]
 | cons x r ih =>
  have := x.toNat_lt
  simp only [val,List.length_cons,Nat.pow_succ]
  omega
theorem val_snoc (l : List UInt8) (x : UInt8) : val (l ++ [x]) = val l + 256 ^ l.length * x.toNat := by
 induction l with
 | nil => simp [val]
 | cons y r ih =>
  simp only [List.cons_append,val,ih,List.length_cons,Nat.pow_succ]
  rw [Nat.mul_add,← Nat.mul_assoc,Nat.mul_comm 256 (256 ^ r.length)]
  omega
theorem p256 (i : Nat) : (256 : Nat) ^ i = 2 ^ (8 * i) := by
 rw [Nat.pow_mul]
theorem numI_val (l : List UInt8) : ∀ i,i ≤ l.length → i ≤ 8 → (numI l i).toNat = val (l.take i) := by
 intro i
 induction i with
 | zero => intro _ _; simp [numI,val]
 | succ i ih =>
  intro h1 h2
  have hi := ih (by omega) (by omega)
  rw [take_snoc (by omega),val_snoc]
  simp only [numI,UInt64.toNat_or,hi,shl_u64_toNat,UInt8.toNat_toUInt64]
  have hl : (l.take i).length = i := by simp; omega
  rw [hl,Nat.min_eq_left (by omega)]
  have hx := l[i]!.toNat_lt
  have hv : val (l.take i) < 2 ^ (8 * i) := by have := val_lt (l.take i); rw [hl,p256] at this; exact this
  have hp : 2 ^ (8 * i) ≤ 2 ^ 56 := Nat.pow_le_pow_right (by decide) (by omega)
  rw [Nat.mod_eq_of_lt (by
   have : l[i]!.toNat * 2 ^ (8 * i) ≤ 255 * 2 ^ 56 := Nat.mul_le_mul (by omega) hp
   omega)]
  rw [Nat.or_comm,Nat.mul_comm,← Nat.two_pow_add_eq_or_of_lt hv,p256]
  omega
section
variable {b r u : List UInt8} {e : Bool} {n : Nat} {x y : UInt64} {s : List UInt8} {ins l : List InS} {outs o : List OutS}
end
end Go.Sx

namespace Go.Sx
open Go.Proofs
section
variable {b r r1 r2 r3 r4 u x : List UInt8} {e e1 e2 e3 e4 f : Bool} {n j : Nat} {ws : List (List UInt8)} {ins l rest : List InS} {outs : List OutS} {y : InS} {Z : List InS × List UInt8 × Bool} {Y : List (List UInt8) × List UInt8 × Bool} {p k : UInt64}
end
end Go.Sx

namespace Go.Sx
def dropSeq : Nat → Code → Code
 | 0,c => c
 | k + 1,.seq _ c => dropSeq k c
 | _ + 1,c => c
theorem W.tailS {P : Program} {C : Ctx} {Q : Exit → Sg → Prop} {σ : Sg} {c : Code} (k : Nat) (M : Sg → Prop) (h2 : ∀ s,M s → W P C (dropSeq k c) Q s) (h1 : (∀ s,M s → W P C (dropSeq k c) Q s) → W P C c Q σ) : W P C c Q σ := h1 h2
end Go.Sx

namespace Go.Sx
section
variable {b r r1 r2 r3 r4 u : List UInt8} {x k : UInt64} {e e1 e2 e3 e4 : Bool} {ins l : List InS} {outs : List OutS}
end
end Go.Sx

namespace Go.Sx
open Go.Proofs
end Go.Sx

namespace Go.Sx
open Go.Proofs
def smI : InS := ⟨List.replicate 32 0,4294967295,[],4294967295,[]⟩
def smO : OutS := ⟨5,[81]⟩
def smT : TxS := ⟨1,[smI],[smO],0⟩
def smT2 : TxS := ⟨1,[setW smI [[]]],[smO],0⟩
theorem sm_wf : smT.wf := wf_of_sz (by decide) (by intro x hx; simp [smT] at hx; subst hx; rfl)
theorem sm2_wf : smT2.wf := wf_of_sz (by decide) (by intro x hx; simp [smT2] at hx; subst hx; rfl)
theorem zero_wf : zeroT.wf := wf_of_sz (by decide) (by intro x hx; cases hx)
theorem w_len : (putS smT).length = 61 := by decide +kernel
theorem w_0 : (putS smT)[0]! = 1 := by decide +kernel
theorem w_4 : (putS smT)[4]! = 1 := by decide +kernel
theorem w_37 : (putS smT)[37]! = 255 := by decide +kernel
theorem w_46 : (putS smT)[46]! = 1 := by decide +kernel
theorem w_47 : (putS smT)[47]! = 5 := by decide +kernel
theorem w_56 : (putS smT)[56]! = 81 := by decide +kernel
theorem w2_len : (putS smT2).length = 65 := by decide +kernel
theorem w2_4 : (putS smT2)[4]! = 0 := by decide +kernel
theorem w2_5 : (putS smT2)[5]! = 1 := by decide +kernel
theorem w_bare : bareS smT2 = putS smT := by decide +kernel
theorem w_mint : mintS smT2 = true := by decide +kernel
theorem w_may : mayS smT2 = true := by decide +kernel
theorem w_may0 : mayS zeroT = false := by decide +kernel
theorem w_same : sameS smT smT = true := by decide +kernel
theorem w_same2 : sameS smT smT2 = false := by decide +kernel
theorem w_get : getS (putS smT) = (smT,0) := by kernel_rfl
theorem w_short : getS ((putS smT).take 60) = (zeroT,5) := by kernel_rfl
abbrev smIr : D := .agg [.agg [hashD (List.replicate 32 0),.u32 4294967295],.nils,.u32 4294967295,.nils]
abbrev smOr : D := .agg [.u64 5,.sl none 1 [.u8 81]]
theorem brw_smIr : smIr.brw = smIr := by
 simp only [D.brw,brws_eq,List.map_cons,List.map_nil,brw_hash]
theorem wk_smI : Wk smIr (inD smI) := .aggL (.cons (.refl _) (.cons (.nils none 1) (.cons (.refl _) (.cons (.nils none 1) .nil))))
theorem wk_sm : Wk (.agg [.u32 1,.sl none 36 [smIr],.sl none 2 [smOr],.u32 0]) (txD smT) :=
 .aggL (.cons (.refl _) (.cons (.slL (.cons wk_smI .nil)) (.cons (.refl _) (.cons (.refl _) .nil))))
abbrev smIw : D := .agg [.agg [hashD (List.replicate 32 0),.u32 4294967295],.nils,.u32 4294967295,.sl none 1 [.sl none 1 []]]
theorem wk_smIw : Wk smIw (inD (setW smI [[]])) := .aggL (.cons (.refl _) (.cons (.nils none 1) (.cons (.refl _) (.cons (.refl _) .nil))))
theorem wk_sm2 : Wk (.agg [.u32 1,.sl none 36 [smIw],.sl none 2 [smOr],.u32 0]) (txD smT2) :=
 .aggL (.cons (.refl _) (.cons (.slL (.cons wk_smIw .nil)) (.cons (.refl _) (.cons (.refl _) .nil))))
theorem smIr_sz : smIr.sz = 36 := rfl
theorem bw_sm {σ : Sg} {q cap : Nat} (hb : σ.box 9 = some (.var (.agg ([smIr] ++ List.replicate q .dead)))) : Bw σ (.agg [.u32 1,.bs 9 36 1 cap,.sl none 2 [smOr],.u32 0]) (.agg [.u32 1,.sl none 36 [smIr],.sl none 2 [smOr],.u32 0]) :=
 .aggL (.cons (.pur rfl rfl) (.cons (.bs hb rfl (by intro x hx; simp only [List.mem_singleton] at hx; subst hx; exact smIr_sz) (by rw [List.map_cons,List.map_nil,brw_smIr]) (by intro x hx; simp only [List.mem_singleton] at hx; subst hx; rfl))
  (.cons (.pur (by simp only [D.brw,brws_eq,List.map_cons,List.map_nil]) rfl) (.cons (.pur rfl rfl) .nil))))
theorem bw_sm0 {σ : Sg} : Bw σ (.agg [.u32 1,.sl (some 56) 36 [smIr],.sl (some 46) 2 [smOr],.u32 0]) (.agg [.u32 1,.sl none 36 [smIr],.sl none 2 [smOr],.u32 0]) :=
 .pur (by simp only [D.brw,brws_eq,List.map_cons,List.map_nil,brw_hash]) rfl
end Go.Sx

namespace Go.Sx
open Go.Proofs
set_option maxHeartbeats 2000000 in
theorem works_ok : Fn Tryd.prog gl 12 [] (.bool true) := by
 refine Fn.of (n := 131) Tryd.func12 rfl rfl rfl (nU rfl) fun C hC hD => ?_
 refine W.seq ?_
 refine W.l0 1 [.y 0 _] [] [] [] [] 131 ⟨aU fun _ _ H _ => R.asg (kB false rfl) rfl H,trivial⟩ rfl rfl rfl rfl (tU rfl ?_)
 refine W.seq ?_
 refine W.l0 3 [.y 8 _] [] [] [(8,_)] [] 131 ⟨aU fun _ _ H _ => R.callPE hC (small_ok) EvP.nil H,trivial⟩ rfl rfl rfl rfl (⟨rfl,_,R.alloc rfl (nU rfl),⟨rfl,_,R.stOZ (gU 1 rfl) (xU 1 rfl) rfl (gU 8 rfl) rfl rfl (by rfl) (by rfl) rfl rfl,tV [(1,_)] [(1,.var _)] 131 rfl rfl rfl ?_⟩⟩)
 refine W.seq ?_
 refine W.openB 9 1 [1] rfl rfl rfl rfl rfl rfl (fun _ => rfl) (by simp) rfl (fun _ => rfl) fun cap q _ _ _ => ?_
 refine W.brwB 1 (d' := .agg [.u32 1,.bs 9 36 1 cap,.sl none 2 [smOr],.u32 0]) (bx' := [(9,.var _),(1,.var _)]) rfl (show (D.agg [.u32 1,.bs 9 36 1 cap,.sl (some 46) 2 [smOr],.u32 0]).brw = _ from by simp only [D.brw,brws_eq,List.map_cons,List.map_nil]) rfl ?_
 refine W.l0 3 [.y 9 _,.y 10 _,.y 2 _] [(2,10)] [(2,10)] [(1,_),(2,_)] [(9,.var _),(1,.var _)] 131 ⟨aU (lU 1 rfl rfl rfl rfl rfl rfl rfl),aU fun _ B H K => R.callL hC (put_ok smT sm_wf) (.cons (eU K 9 rfl) rfl (bw_sm (B 9 _ rfl)) (wk_sm) .nil) (FrsR.one (.sl _ _ _ (frs_map fun _ => .u8 _))) H,aU fun _ _ H K => R.asgO (K 10 _ rfl) rfl H (by decide),trivial⟩ rfl rfl rfl rfl (tU rfl ?_)
 refine W.seq ?_
 refine W.seq ?_
 have hl61 := w_len
 refine W.l0 39 (.y 11 _ :: .y 12 _ :: .y 13 _ :: .y 14 _ :: .y 15 _ :: .y 16 _ :: .y 17 _ :: .y 18 _ :: .y 19 _ :: .y 20 _ :: .y 21 _ :: .y 22 _ :: .y 23 _ :: .y 24 _ :: .y 25 _ :: .y 26 _ :: .y 27 _ :: .y 28 _ :: .y 29 _ :: .y 30 _ :: .y 31 _ :: .y 32 _ :: .y 33 _ :: .y 34 _ :: .y 35 _ :: .y 36 _ :: .y 37 _ :: .y 38 _ :: .y 39 _ :: .y 40 _ :: .y 41 _ :: .y 42 _ :: .y 43 _ :: .y 44 _ :: .y 45 _ :: .y 46 _ :: .y 47 _ :: .y 48 _ :: .y 49 _ :: []) [] [] [(1,_),(2,_),(49,_)] [(9,.var _),(1,.var _)] 131 ⟨aU fun _ _ H K => R.al (K 2 _ rfl) H (by decide),aU fun _ _ H K => R.lenE (SC.al (K 11 _ rfl) (K 2 _ rfl)) (List.length_map _) H,aU fun _ _ H K => R.neqN ((putS smT).length) (61) (eU K 12 rfl) (kI 61 rfl) H,mU 13 rfl rfl,aW rfl rfl (gF (decide_eq_false (by rw [w_len]; decide)) rfl) fun _ _ H K => R.al (K 2 _ rfl) H (by decide),aW rfl rfl (gF (decide_eq_false (by rw [w_len]; decide)) rfl) fun _ _ H K => R.idxN (0) (SC.al (K 15 _ rfl) (K 2 _ rfl)) (evoI (kI 0 rfl)) rfl bU H (by decide),aW rfl rfl (gF (decide_eq_false (by rw [w_len]; decide)) rfl) fun _ _ H K => R.ldE (K 16 _ rfl) (SC.al (K 15 _ rfl) (K 2 _ rfl)) (map_get! (l := (putS smT)) bU) rfl rfl rfl rfl H,aW rfl rfl (gF (decide_eq_false (by rw [w_len]; decide)) rfl) fun _ _ H K => R.bin (eU K 17 rfl) (show ev _ _ (.const (.int .u8 1)) = some (.u8 1) from rfl) rfl trivial H,aU fun _ _ H K => R.pickF (eU K 14 rfl) (decide_eq_false (by rw [w_len]; decide)) (eU K 18 rfl) rfl H,mU 19 rfl rfl,aW rfl rfl (gF (by rw [w_0]; rfl) rfl) fun _ _ H K => R.al (K 2 _ rfl) H (by decide),aW rfl rfl (gF (by rw [w_0]; rfl) rfl) fun _ _ H K => R.idxN (4) (SC.al (K 21 _ rfl) (K 2 _ rfl)) (evoI (kI 4 rfl)) rfl bU H (by decide),aW rfl rfl (gF (by rw [w_0]; rfl) rfl) fun _ _ H K => R.ldE (K 22 _ rfl) (SC.al (K 21 _ rfl) (K 2 _ rfl)) (map_get! (l := (putS smT)) bU) rfl rfl rfl rfl H,aW rfl rfl (gF (by rw [w_0]; rfl) rfl) fun _ _ H K => R.bin (eU K 23 rfl) (show ev _ _ (.const (.int .u8 1)) = some (.u8 1) from rfl) rfl trivial H,aU fun _ _ H K => R.pickF (eU K 20 rfl) (by rw [w_0]; rfl) (eU K 24 rfl) rfl H,mU 25 rfl rfl,aW rfl rfl (gF (by rw [w_4]; rfl) rfl) fun _ _ H K => R.al (K 2 _ rfl) H (by decide),aW rfl rfl (gF (by rw [w_4]; rfl) rfl) fun _ _ H K => R.idxN (37) (SC.al (K 27 _ rfl) (K 2 _ rfl)) (evoI (kI 37 rfl)) rfl bU H (by decide),aW rfl rfl (gF (by rw [w_4]; rfl) rfl) fun _ _ H K => R.ldE (K 28 _ rfl) (SC.al (K 27 _ rfl) (K 2 _ rfl)) (map_get! (l := (putS smT)) bU) rfl rfl rfl rfl H,aW rfl rfl (gF (by rw [w_4]; rfl) rfl) fun _ _ H K => R.bin (eU K 29 rfl) (show ev _ _ (.const (.int .u8 255)) = some (.u8 255) from rfl) rfl trivial H,aU fun _ _ H K => R.pickF (eU K 26 rfl) (by rw [w_4]; rfl) (eU K 30 rfl) rfl H,mU 31 rfl rfl,aW rfl rfl (gF (by rw [w_37]; rfl) rfl) fun _ _ H K => R.al (K 2 _ rfl) H (by decide),aW rfl rfl (gF (by rw [w_37]; rfl) rfl) fun _ _ H K => R.idxN (46) (SC.al (K 33 _ rfl) (K 2 _ rfl)) (evoI (kI 46 rfl)) rfl bU H (by decide),aW rfl rfl (gF (by rw [w_37]; rfl) rfl) fun _ _ H K => R.ldE (K 34 _ rfl) (SC.al (K 33 _ rfl) (K 2 _ rfl)) (map_get! (l := (putS smT)) bU) rfl rfl rfl rfl H,aW rfl rfl (gF (by rw [w_37]; rfl) rfl) fun _ _ H K => R.bin (eU K 35 rfl) (show ev _ _ (.const (.int .u8 1)) = some (.u8 1) from rfl) rfl trivial H,aU fun _ _ H K => R.pickF (eU K 32 rfl) (by rw [w_37]; rfl) (eU K 36 rfl) rfl H,mU 37 rfl rfl,aW rfl rfl (gF (by rw [w_46]; rfl) rfl) fun _ _ H K => R.al (K 2 _ rfl) H (by decide),aW rfl rfl (gF (by rw [w_46]; rfl) rfl) fun _ _ H K => R.idxN (47) (SC.al (K 39 _ rfl) (K 2 _ rfl)) (evoI (kI 47 rfl)) rfl bU H (by decide),aW rfl rfl (gF (by rw [w_46]; rfl) rfl) fun _ _ H K => R.ldE (K 40 _ rfl) (SC.al (K 39 _ rfl) (K 2 _ rfl)) (map_get! (l := (putS smT)) bU) rfl rfl rfl rfl H,aW rfl rfl (gF (by rw [w_46]; rfl) rfl) fun _ _ H K => R.bin (eU K 41 rfl) (show ev _ _ (.const (.int .u8 5)) = some (.u8 5) from rfl) rfl trivial H,aU fun _ _ H K => R.pickF (eU K 38 rfl) (by rw [w_46]; rfl) (eU K 42 rfl) rfl H,mU 43 rfl rfl,aW rfl rfl (gF (by rw [w_47]; rfl) rfl) fun _ _ H K => R.al (K 2 _ rfl) H (by decide),aW rfl rfl (gF (by rw [w_47]; rfl) rfl) fun _ _ H K => R.idxN (56) (SC.al (K 45 _ rfl) (K 2 _ rfl)) (evoI (kI 56 rfl)) rfl bU H (by decide),aW rfl rfl (gF (by rw [w_47]; rfl) rfl) fun _ _ H K => R.ldE (K 46 _ rfl) (SC.al (K 45 _ rfl) (K 2 _ rfl)) (map_get! (l := (putS smT)) bU) rfl rfl rfl rfl H,aW rfl rfl (gF (by rw [w_47]; rfl) rfl) fun _ _ H K => R.bin (eU K 47 rfl) (show ev _ _ (.const (.int .u8 81)) = some (.u8 81) from rfl) rfl trivial H,aU fun _ _ H K => R.pickF (eU K 44 rfl) (by rw [w_47]; rfl) (eU K 48 rfl) rfl H,trivial⟩ rfl rfl rfl rfl (tU rfl ?_)
 refine W.condF rfl (by rw [w_56]; rfl) ?_
 refine W.skip ?_
 refine W.seq ?_
 refine W.frzS (s := 2) (d' := .sl none 1 ((putS smT).map D.u8)) rfl rfl (by simp only [D.brw,brws_eq]; rw [brw_map (fun _ => rfl)]) ?_
 refine W.l0 8 [.y 51 _,.y 52 _,.y 50 _,.y 53 _,.y 54 _] [] [] [(1,_),(2,_),(53,_),(54,_)] [(9,.var _),(1,.var _)] 131 ⟨mU 2 rfl rfl,aU fun _ _ H K => R.callPE hC (show Fn Tryd.prog gl 23 [.sl none 1 ((putS smT).map D.u8)] (.tup [txD smT,.int ((0 : Nat) : Int)]) from by have h := get_ok (putS smT) (by rw [w_len]; decide); rw [w_get] at h; exact h) (EvP.cons (eU K 51 rfl) rfl rfl EvP.nil) H,aU fun _ _ H K => R.movT (K 52 _ rfl) rfl H,aU fun _ _ H K => R.ext (K 50 _ rfl) rfl rfl H,aU fun _ _ H K => R.ext (K 50 _ rfl) rfl rfl H,trivial⟩ rfl rfl rfl rfl (⟨rfl,_,R.alloc rfl (nU rfl),⟨rfl,_,R.stZ (gU 3 rfl) (xU 3 rfl) rfl (gV 53 rfl) (by rfl) (by rfl) (by rfl) (by rfl) rfl,⟨rfl,_,R.asg (gV 54 rfl) rfl (nU rfl),tV [(1,_),(2,_),(3,_),(4,_)] [(3,.var _),(9,.var _),(1,.var _)] 131 rfl rfl rfl ?_⟩⟩⟩)
 refine W.seq ?_
 refine W.l0 9 [.y 56 _,.y 57 _,.y 58 _,.y 55 _,.y 59 _,.y 60 _] [] [] [(1,_),(2,_),(3,_),(4,_),(59,_),(60,_)] [(3,.var _),(9,.var _),(1,.var _)] 131 ⟨mU 2 rfl rfl,aU fun _ _ H K => R.slIN (0) (60) (60) (eU K 56 rfl) rfl (evoI (kI 60 rfl)) rfl rfl (by decide) (by rw [List.length_map,w_len]; decide) rfl (show _ = ((putS smT).take 60).map D.u8 from by simp) H,aU fun _ _ H K => R.callPE hC (show Fn Tryd.prog gl 23 [.sl none 1 (((putS smT).take 60).map D.u8)] (.tup [txD zeroT,.int ((5 : Nat) : Int)]) from by have h := get_ok ((putS smT).take 60) (by simp; omega); rw [w_short] at h; exact h) (EvP.cons (eU K 57 rfl) rfl rfl EvP.nil) H,aU fun _ _ H K => R.movT (K 58 _ rfl) rfl H,aU fun _ _ H K => R.ext (K 55 _ rfl) rfl rfl H,aU fun _ _ H K => R.ext (K 55 _ rfl) rfl rfl H,trivial⟩ rfl rfl rfl rfl (⟨rfl,_,R.alloc rfl (nU rfl),⟨rfl,_,R.stZ (gU 5 rfl) (xU 5 rfl) rfl (gV 59 rfl) (by rfl) (by rfl) (by rfl) (by rfl) rfl,⟨rfl,_,R.asg (gV 60 rfl) rfl (nU rfl),tV [(1,_),(2,_),(3,_),(4,_),(6,_)] [(5,.var _),(3,.var _),(9,.var _),(1,.var _)] 131 rfl rfl rfl ?_⟩⟩⟩)
 refine W.seq ?_
 refine W.l0 7 [.y 61 _,.y 62 _,.y 63 _,.y 64 _,.y 65 _,.y 66 _] [] [] [(1,_),(2,_),(3,_),(4,_),(6,_),(64,_),(66,_)] [(5,.var _),(3,.var _),(9,.var _),(1,.var _)] 131 ⟨aU (fU 1 rfl rfl),aU (lU 61 rfl rfl rfl rfl rfl rfl rfl),aU fun _ _ H _ => R.frzT (r' := .sl none 1 []) (R.bslE .nil trivial rfl H (by decide)) rfl (rfl),aU fun _ _ H K => R.bslE (z := 1) (.cons (eU K 63 rfl) .nil) ⟨⟨rfl,rfl,rfl⟩,trivial⟩ rfl H (by decide),aU fun _ _ H K => R.idxBs (0) (K 62 _ rfl) (evoI (kI 0 rfl)) rfl bU H,aU (fU 65 rfl rfl),trivial⟩ rfl rfl rfl rfl (⟨rfl,_,R.stOZ (gU 66 rfl) (xU 9 rfl) rfl (gU 64 rfl) rfl rfl (by rfl) (by rfl) rfl rfl,tV [(1,_),(2,_),(3,_),(4,_),(6,_)] [(5,.var _),(3,.var _),(9,.var _),(1,.var _)] 131 rfl rfl rfl ?_⟩)
 refine W.seq ?_
 refine W.brwB 9 (d' := .agg ([smIw] ++ List.replicate q .dead)) (bx' := [(5,.var _),(3,.var _),(9,.var _),(1,.var _)]) rfl (show (D.agg ([.agg [.agg [hashD (List.replicate 32 0),.u32 4294967295],.nils,.u32 4294967295,.sl (some 29) 1 [.sl none 1 []]]] ++ List.replicate q .dead)).brw = _ from by simp only [D.brw,brws_eq,List.map_append,List.map_cons,List.map_nil,brw_hash,brw_deads]) rfl ?_
 refine W.shutB 9 1 [1] [5,3,1] (l := [smIw]) (bx' := [(5,.var _),(3,.var _),(1,.var _)]) rfl rfl (by decide) rfl rfl rfl rfl (by intro x hx; simp only [List.mem_singleton] at hx; subst hx; rfl) (by intro x hx; simp only [List.mem_singleton] at hx; subst hx; rfl) (by intro x hx; simp only [List.mem_singleton] at hx; subst hx; rfl) rfl rfl rfl rfl (pin_sub hD rfl) ?_
 refine W.wkB 1 (d' := txD smT2) (bx' := [(5,.var _),(3,.var _),(1,.var _)]) rfl wk_sm2 rfl ?_
 refine W.l0 3 [.y 67 _,.y 68 _,.y 7 _] [(2,68)] [(2,68)] [(1,_),(2,_),(3,_),(4,_),(6,_),(7,_)] [(5,.var _),(3,.var _),(1,.var _)] 131 ⟨aU (lU 1 rfl rfl rfl rfl rfl rfl rfl),aU fun _ _ H K => R.callG hC (put_ok smT2 sm2_wf) (Bors.cons (Bor.pur (eU K 67 rfl) rfl rfl) Bors.nil) (FrsR.one (.sl _ _ _ (frs_map fun _ => .u8 _))) H,aU fun _ _ H K => R.asgO (K 68 _ rfl) rfl H (by decide),trivial⟩ rfl rfl rfl rfl (tU rfl ?_)
 refine W.seq ?_
 have hl65 := w2_len
 refine W.draw (m := 63) (an := (0 :: 0 :: 3 :: 7 :: 15 :: 15 :: 63 :: 127 :: 255 :: 511 :: 1023 :: 2047 :: 4095 :: 8191 :: 16383 :: 32767 :: 65535 :: 131071 :: 262143 :: 524287 :: 1048575 :: 2097151 :: 4194303 :: 8388607 :: 16777215 :: 33554431 :: 67108863 :: 134217727 :: 268435455 :: 536870911 :: 1073741823 :: 2147483647 :: 4294967295 :: 8589934591 :: 17179869183 :: 34359738367 :: 68719476735 :: 137438953471 :: 34359738367 :: 309237645311 :: 1099511627775 :: 2199023255551 :: 4398046511103 :: 8796093022207 :: 17592186044415 :: 35184372088831 :: 70368744177663 :: 140737488355327 :: 281474976710655 :: 562949953421311 :: 1125899906842623 :: 2251799813685247 :: 4503599627370495 :: 9007199254740991 :: 18014398509481983 :: 36028797018963967 :: 72057594037927935 :: 144115188075855871 :: 72057594037927935 :: 576460752303423487 :: 1152921504606846975 :: 2305843009213693951 :: 4611686018427387903 :: [])) hP (by decide) rfl (its := (.y 69 _ :: .y 70 _ :: .y 71 _ :: .y 72 _ :: .y 73 _ :: .y 74 _ :: .y 75 _ :: .y 76 _ :: .y 77 _ :: .y 78 _ :: .y 79 _ :: .y 80 _ :: .y 81 _ :: .y 82 _ :: .y 83 _ :: .y 84 _ :: .y 85 _ :: .y 86 _ :: .y 87 _ :: .y 88 _ :: .y 89 _ :: .y 90 _ :: .y 91 _ :: .y 92 _ :: .y 93 _ :: .y 94 _ :: .y 95 _ :: .y 96 _ :: .y 97 _ :: .y 98 _ :: .y 99 _ :: .y 100 _ :: .y 101 _ :: .y 102 _ :: .y 103 _ :: .y 104 _ :: .y 105 _ :: .y 106 _ :: .y 107 _ :: .y 108 _ :: .y 109 _ :: .y 110 _ :: .y 111 _ :: .y 112 _ :: .y 113 _ :: .y 114 _ :: .y 115 _ :: .y 116 _ :: .y 117 _ :: .y 118 _ :: .y 119 _ :: .y 120 _ :: .y 121 _ :: .y 122 _ :: .y 123 _ :: .y 124 _ :: .y 125 _ :: .y 126 _ :: .y 127 _ :: .y 128 _ :: .y 129 _ :: .y 130 _ :: .y 0 _ :: [])) (ks := []) (kk := []) (live := [0]) (env' := [(0,_)]) (⟨nU rfl,rfl,⟨aU (lU 3 rfl rfl rfl rfl rfl rfl rfl),aU fun _ _ H _ => R.callPE hC (small_ok) EvP.nil H,aU fun _ _ H K => R.callL hC (same_ok smT smT sm_wf sm_wf) (.old (Bor.pur (eU K 69 rfl) rfl rfl) (.cons (eU K 70 rfl) rfl (bw_sm0) (wk_sm) .nil)) (FrsR.one (.bool _)) H,mU 71 rfl rfl,aW rfl rfl (gT (w_same) rfl) (lU 3 rfl rfl rfl rfl rfl rfl rfl),aW rfl rfl (gT (w_same) rfl) (lU 1 rfl rfl rfl rfl rfl rfl rfl),aW rfl rfl (gT (w_same) rfl) fun _ _ H K => R.callG hC (same_ok smT smT2 sm_wf sm2_wf) (Bors.cons (Bor.pur (eU K 73 rfl) rfl rfl) (Bors.cons (Bor.pur (eU K 74 rfl) rfl rfl) Bors.nil)) (FrsR.one (.bool _)) H,aW rfl rfl (gT (w_same) rfl) fun _ _ H K => R.un (eU K 75 rfl) rfl H,aU fun _ _ H K => R.pickT (eU K 72 rfl) (w_same) (eU K 76 rfl) rfl H,mU 77 rfl rfl,aW rfl rfl (gT (by rw [w_same2]; rfl) rfl) fun _ _ H K => R.mov (eU K 4 rfl) rfl H,aW rfl rfl (gT (by rw [w_same2]; rfl) rfl) fun _ _ H K => R.eqlN (0) (0) (eU K 79 rfl) (kI 0 rfl) H,aU fun _ _ H K => R.pickT (eU K 78 rfl) (by rw [w_same2]; rfl) (eU K 80 rfl) rfl H,mU 81 rfl rfl,aW rfl rfl (gT (rfl) rfl) fun _ _ H K => R.mov (eU K 6 rfl) rfl H,aW rfl rfl (gT (rfl) rfl) fun _ _ H K => R.eqlN (5) (5) (eU K 83 rfl) (kI 5 rfl) H,aU fun _ _ H K => R.pickT (eU K 82 rfl) (rfl) (eU K 84 rfl) rfl H,mU 85 rfl rfl,aW rfl rfl (gT (rfl) rfl) fun _ _ H K => R.al (K 7 _ rfl) H (by decide),aW rfl rfl (gT (rfl) rfl) fun _ _ H K => R.lenE (SC.al (K 87 _ rfl) (K 7 _ rfl)) (List.length_map _) H,aW rfl rfl (gT (rfl) rfl) fun _ _ H K => R.eqlN ((putS smT2).length) (65) (eU K 88 rfl) (kI 65 rfl) H,aU fun _ _ H K => R.pickT (eU K 86 rfl) (rfl) (eU K 89 rfl) rfl H,mU 90 rfl rfl,aW rfl rfl (gT (decide_eq_true w2_len) rfl) fun _ _ H K => R.al (K 7 _ rfl) H (by decide),aW rfl rfl (gT (decide_eq_true w2_len) rfl) fun _ _ H K => R.idxN (4) (SC.al (K 92 _ rfl) (K 7 _ rfl)) (evoI (kI 4 rfl)) rfl bU H (by decide),aW rfl rfl (gT (decide_eq_true w2_len) rfl) fun _ _ H K => R.ldE (K 93 _ rfl) (SC.al (K 92 _ rfl) (K 7 _ rfl)) (map_get! (l := (putS smT2)) bU) rfl rfl rfl rfl H,aW rfl rfl (gT (decide_eq_true w2_len) rfl) fun _ _ H K => R.bin (eU K 94 rfl) (show ev _ _ (.const (.int .u8 0)) = some (.u8 0) from rfl) rfl trivial H,aU fun _ _ H K => R.pickT (eU K 91 rfl) (decide_eq_true w2_len) (eU K 95 rfl) rfl H,mU 96 rfl rfl,aW rfl rfl (gT (by rw [w2_4]; rfl) rfl) fun _ _ H K => R.al (K 7 _ rfl) H (by decide),aW rfl rfl (gT (by rw [w2_4]; rfl) rfl) fun _ _ H K => R.idxN (5) (SC.al (K 98 _ rfl) (K 7 _ rfl)) (evoI (kI 5 rfl)) rfl bU H (by decide),aW rfl rfl (gT (by rw [w2_4]; rfl) rfl) fun _ _ H K => R.ldE (K 99 _ rfl) (SC.al (K 98 _ rfl) (K 7 _ rfl)) (map_get! (l := (putS smT2)) bU) rfl rfl rfl rfl H,aW rfl rfl (gT (by rw [w2_4]; rfl) rfl) fun _ _ H K => R.bin (eU K 100 rfl) (show ev _ _ (.const (.int .u8 1)) = some (.u8 1) from rfl) rfl trivial H,aU fun _ _ H K => R.pickT (eU K 97 rfl) (by rw [w2_4]; rfl) (eU K 101 rfl) rfl H,mU 102 rfl rfl,aW rfl rfl (gT (by rw [w2_5]; rfl) rfl) (lU 1 rfl rfl rfl rfl rfl rfl rfl),aW rfl rfl (gT (by rw [w2_5]; rfl) rfl) fun _ _ H K => R.callG hC (bare_ok smT2 sm2_wf) (Bors.cons (Bor.pur (eU K 104 rfl) rfl rfl) Bors.nil) (FrsR.one (.sl _ _ _ (frs_map fun _ => .u8 _))) H,aW rfl rfl (gT (by rw [w2_5]; rfl) rfl) fun _ _ H K => R.cvS (xs := (bareS smT2)) (SC.sl (K 105 _ rfl)) H,aW rfl rfl (gT (by rw [w2_5]; rfl) rfl) fun _ _ H K => R.mov (eU K 2 rfl) rfl H,aW rfl rfl (gT (by rw [w2_5]; rfl) rfl) fun _ _ H K => R.cvS (xs := (putS smT)) (SC.sl (K 107 _ rfl)) H,aW rfl rfl (gT (by rw [w2_5]; rfl) rfl) fun _ _ H K => R.bin (eU K 106 rfl) (eU K 108 rfl) rfl trivial H,aU fun _ _ H K => R.pickT (eU K 103 rfl) (by rw [w2_5]; rfl) (eU K 109 rfl) rfl H,mU 110 rfl rfl,aW rfl rfl (gT (by rw [w_bare]; simp) rfl) (lU 1 rfl rfl rfl rfl rfl rfl rfl),aW rfl rfl (gT (by rw [w_bare]; simp) rfl) fun _ _ H K => R.callG hC (mint_ok smT2 sm2_wf) (Bors.cons (Bor.pur (eU K 112 rfl) rfl rfl) Bors.nil) (FrsR.one (.bool _)) H,aU fun _ _ H K => R.pickT (eU K 111 rfl) (by rw [w_bare]; simp) (eU K 113 rfl) rfl H,mU 114 rfl rfl,aW rfl rfl (gT (w_mint) rfl) (lU 1 rfl rfl rfl rfl rfl rfl rfl),aW rfl rfl (gT (w_mint) rfl) fun _ _ H K => R.callG hC (may_ok smT2 sm2_wf) (Bors.cons (Bor.pur (eU K 116 rfl) rfl rfl) Bors.nil) (FrsR.one (.bool _)) H,aU fun _ _ H K => R.pickT (eU K 115 rfl) (w_mint) (eU K 117 rfl) rfl H,mU 118 rfl rfl,aW rfl rfl (gT (w_may) rfl) fun _ _ H _ => R.bldSE (l := [.u32 0,.nils,.nils,.u32 0]) (l' := [_,_,_,_]) (.nil rfl) trivial H,aW rfl rfl (gT (w_may) rfl) fun _ _ H K => R.callL hC (may_ok zeroT zero_wf) (.cons (eU K 120 rfl) rfl (.pur rfl rfl) (wk_zero) .nil) (FrsR.one (.bool _)) H,aW rfl rfl (gT (w_may) rfl) fun _ _ H K => R.un (eU K 121 rfl) rfl H,aU fun _ _ H K => R.pickT (eU K 119 rfl) (w_may) (eU K 122 rfl) rfl H,mU 123 rfl rfl,aW rfl rfl (gT (by rw [w_may0]; rfl) rfl) (lU 1 rfl rfl rfl rfl rfl rfl rfl),aW rfl rfl (gT (by rw [w_may0]; rfl) rfl) fun _ _ H K => R.callG hC (id_ok smT2 sm2_wf) (Bors.cons (Bor.pur (eU K 125 rfl) rfl rfl) Bors.nil) (FrsR.one (frs_hash _)) H,aW rfl rfl (gT (by rw [w_may0]; rfl) rfl) (lU 1 rfl rfl rfl rfl rfl rfl rfl),aW rfl rfl (gT (by rw [w_may0]; rfl) rfl) fun _ _ H K => R.callG hC (rid_ok smT2 sm2_wf) (Bors.cons (Bor.pur (eU K 127 rfl) rfl rfl) Bors.nil) (FrsR.one (frs_hash _)) H,aW rfl rfl (gT (by rw [w_may0]; rfl) rfl) fun _ _ H K => R.eqAE (eU K 126 rfl) (eU K 128 rfl) H,aU fun _ _ H K => R.pickT (eU K 124 rfl) (by rw [w_may0]; rfl) (eU K 129 rfl) rfl H,aU fun _ _ H K => R.asg (eU K 130 rfl) rfl H,trivial⟩,rfl,rfl,rfl⟩) rfl (bx' := [(5,.var _),(3,.var _),(1,.var _)]) rfl (n' := 131) rfl (tV [(0,_)] [(5,.var _),(3,.var _),(1,.var _)] 131 rfl rfl rfl ?_)
 refine W.ret ?_
 exact Ends.one' (.inr rfl) rfl (by simp) rfl rfl trivial

end Go.Sx

namespace Go.Sx
open Go.ChangeShapes Go.WideShapes

structure Rd (P : Program) (t : TypeId) (z : Nat) {α : Type} (f : α → D) (q : α → Prop) : Prop where
 cells : P.cellsOf t = z
 sz : ∀ a,q a → (f a).sz = z
 rd : ∀ {H : Type} {enc : TypeId × Value → H} {w : World} {n : Nat} {cs : List Value} {x : DataW H × List MemPlace},DataW.trod enc P w 0 (fun _ => true) true n t cs = some x →
  (x.1.weights P t).all (· ≤ reachBytes) = true → ∃ a,q a ∧ Rc w (fun x => x) (fun b => b < w.heap.size) (fun _ => False) false (f a) cs []

variable {P : Program} {t e z : Nat}

theorem Rd.u8 (ht : P.underlying t = some (.int .u8)) (hz : P.cellsOf t = 1) : Rd P t 1 D.u8 (fun _ => True) :=
 ⟨hz,fun _ _ => rfl,fun h _ => by
  obtain ⟨n,rfl,_,hw⟩ := DataW.trod_int ht h
  simp [Lit.wf,IntKind.min,IntKind.max,IntKind.signed,IntKind.bits] at hw
  refine ⟨UInt8.ofNat n.toNat,trivial, ?_⟩
  have : ((UInt8.ofNat n.toNat).toNat : Int) = n := by simp [UInt8.toNat_ofNat']; omega
  have h1 := Rc.u8 (w := ‹World›) (ρ := fun x => x) (G := fun b => b < (‹World›).heap.size) (L := fun _ => False) (p := false) (UInt8.ofNat n.toNat)
  rw [this] at h1
  exact h1⟩
theorem Rd.u32 (ht : P.underlying t = some (.int .u32)) (hz : P.cellsOf t = 1) : Rd P t 1 D.u32 (fun _ => True) :=
 ⟨hz,fun _ _ => rfl,fun h _ => by
  obtain ⟨n,rfl,_,hw⟩ := DataW.trod_int ht h
  simp [Lit.wf,IntKind.min,IntKind.max,IntKind.signed,IntKind.bits] at hw
  refine ⟨UInt32.ofNat n.toNat,trivial, ?_⟩
  have : ((UInt32.ofNat n.toNat).toNat : Int) = n := by simp [UInt32.toNat_ofNat']; omega
  have h1 := Rc.u32 (w := ‹World›) (ρ := fun x => x) (G := fun b => b < (‹World›).heap.size) (L := fun _ => False) (p := false) (UInt32.ofNat n.toNat)
  rw [this] at h1
  exact h1⟩
theorem Rd.u64 (ht : P.underlying t = some (.int .u64)) (hz : P.cellsOf t = 1) : Rd P t 1 D.u64 (fun _ => True) :=
 ⟨hz,fun _ _ => rfl,fun h _ => by
  obtain ⟨n,rfl,_,hw⟩ := DataW.trod_int ht h
  simp [Lit.wf,IntKind.min,IntKind.max,IntKind.signed,IntKind.bits] at hw
  refine ⟨UInt64.ofNat n.toNat,trivial, ?_⟩
  have : ((UInt64.ofNat n.toNat).toNat : Int) = n := by simp [UInt64.toNat_ofNat']; omega
  have h1 := Rc.u64 (w := ‹World›) (ρ := fun x => x) (G := fun b => b < (‹World›).heap.size) (L := fun _ => False) (p := false) (UInt64.ofNat n.toNat)
  rw [this] at h1
  exact h1⟩

theorem weightsAll_mem {H : Type} {p : Nat → Bool} {l : List (DataW H)} (h : (DataW.weightsAll P e l).all p = true) : ∀ d ∈ l,(d.weights P e).all p = true := by
 induction l with
 | nil => intro d hd; cases hd
 | cons x r ih =>
  simp only [DataW.weightsAll,List.all_append,Bool.and_eq_true] at h
  intro d hd
  rcases List.mem_cons.1 hd with rfl | hd
  · exact h.1
  · exact ih h.2 d hd
theorem weightsEach_get {H : Type} {p : Nat → Bool} : ∀ {ts : List TypeId} {l : List (DataW H)},(DataW.weightsEach P ts l).all p = true → ∀ (i : Nat) (t : TypeId) (d : DataW H),ts[i]? = some t → l[i]? = some d → (d.weights P t).all p = true := by
 intro ts
 induction ts with
 | nil => intro l _ i t d ht; simp at ht
 | cons t0 ts ih =>
  intro l h i t d ht hd
  cases l with
  | nil => simp at hd
  | cons x r =>
   simp only [DataW.weightsEach,List.all_append,Bool.and_eq_true] at h
   cases i with
   | zero => simp at ht hd; subst ht; subst hd; exact h.1
   | succ i => exact ih h.2 i t d (by simpa using ht) (by simpa using hd)

theorem list_of {α : Type} {n : Nat} {p : Nat → α → Prop} (h : ∀ i,i < n → ∃ a,p i a) : ∃ l : List α,l.length = n ∧ ∀ i (hi : i < l.length),p i l[i] := by
 induction n with
 | zero => exact ⟨[],rfl,fun i hi => by simp at hi⟩
 | succ n ih =>
  obtain ⟨l,hl,hp⟩ := ih (fun i hi => h i (by omega))
  obtain ⟨a,ha⟩ := h n (by omega)
  refine ⟨l ++ [a],by simp [hl],fun i hi => ?_⟩
  rcases Nat.lt_or_ge i l.length with h1 | h1
  · rw [List.getElem_append_left h1]; exact hp i h1
  · have : i = n := by simp at hi; omega
    subst this
    rw [List.getElem_append_right h1]
    simpa [hl] using ha

theorem cells_row {w : World} {b off n : Nat} {c : Array Value} {ty : TypeId} {fz : Nat × Nat} {cs : List Value} (hb : w.heap[b]? = some (.cells c ty fz)) (h : w.cells? 0 ⟨b,off,none⟩ n = some cs) (hn : 0 < n) :
 off + n ≤ c.size ∧ cs = (c.toList.drop off).take n := by
 obtain ⟨_,hl,hc⟩ := World.cells?_some h
 have hc' : ∀ i,i < n → c[off + i]? = cs[i]? := fun i hi => by
  have := hc i hi
  rw [add_lit,cell_of_row w b _ c ty fz hb] at this
  exact this
 have h1 := hc' (n - 1) (by omega)
 have h2 : off + (n - 1) < c.size := by
  rw [List.getElem?_eq_getElem (by omega)] at h1
  exact (Array.getElem?_eq_some_iff.1 h1).1
 refine ⟨by omega, ?_⟩
 apply List.ext_getElem?
 intro i
 rw [List.getElem?_take]
 split
 · rw [List.getElem?_drop]
   rw [← hc' i (by assumption)]
   simp
 · rw [List.getElem?_eq_none (by omega)]

theorem Rd.sl {α : Type} {f : α → D} {q : α → Prop} (ht : P.underlying t = some (.slice e)) (hz : P.cellsOf t = 1) (h0 : 0 < z) (hby : 0 < P.bytesOf e) (he : Rd P e z f q) :
 Rd P t 1 (fun l : List α => .sl none z (l.map f)) (fun l => l.length ≤ 140737488355328 ∧ ∀ x ∈ l,q x) :=
 ⟨hz,fun _ _ => rfl,fun {H enc w n cs x} h hwt => by
  rcases Go.Deep.open_slice ht h with ⟨rfl,_⟩ | ⟨a,len,cap,m,n',Dd,Pl,rfl,_,hlc,hcm,hm,rfl,hx⟩
  · exact ⟨[],⟨by simp,by simp⟩,.slN none z⟩
  · simp only [if_true] at hm
    have hx := fun i (hi : i < cap) => hx i (by omega)
    simp only [DataW.weights,ht,List.all_cons,List.all_append,Bool.and_eq_true,decide_eq_true_eq,List.length_map,List.length_range] at hwt
    obtain ⟨hw1,hw2,hw3⟩ := hwt
    have hw4 : ∀ i,i < len → ((Dd i).weights P e).all (· ≤ reachBytes) = true := fun i hi => weightsAll_mem hw2 _ (List.mem_map.2 ⟨i,List.mem_range.2 hi,rfl⟩)
    have hlen : len ≤ 140737488355328 := by
     have h6 : len * 1 ≤ (len + (m - len)) * P.bytesOf e := Nat.mul_le_mul (by omega) hby
     simp only [reachBytes] at hw1
     omega
    rcases Nat.eq_zero_or_pos cap with rfl | hcap
    · have : len = 0 := by omega
      subst this
      exact ⟨[],⟨by simp,by simp⟩,.slE none z a⟩
    · rw [he.cells] at hx
      obtain ⟨b,off,sp⟩ := a
      obtain ⟨cs0,hc0,_⟩ := hx 0 hcap
      obtain ⟨_,hl0,hv0⟩ := World.cells?_some hc0
      have h1 := hv0 0 h0
      rw [List.getElem?_eq_getElem (by omega)] at h1
      have hblk : ∃ c ty fz,w.heap[b]? = some (.cells c ty fz) ∧ sp = none := by
       have e0 : ((⟨b,off,sp⟩ : Addr).add (0 * z)).add 0 = ⟨b,off,sp⟩ := by simp [Addr.add]
       rw [e0] at h1
       unfold World.cell? at h1
       simp only at h1
       split at h1
       · rename_i c ty fz hh
         cases sp with
         | none => exact ⟨c,ty,fz,hh,rfl⟩
         | some s => simp at h1
       · cases h1
      obtain ⟨c,ty,fz,hb,rfl⟩ := hblk
      have hrow : ∀ i,i < cap → off + i * z + z ≤ c.size ∧ (i < len → ∃ a,q a ∧ Rc w (fun x => x) (fun b => b < w.heap.size) (fun _ => False) false (f a) ((c.toList.drop (off + i * z)).take z) []) := fun i hi => by
       obtain ⟨cs',h2,h3⟩ := hx i hi
       rw [add_lit] at h2
       obtain ⟨h4,rfl⟩ := cells_row hb h2 h0
       exact ⟨h4,fun hi => he.rd h3 (hw4 i hi)⟩
      obtain ⟨l,hl,hp⟩ := list_of (fun i hi => (hrow i (by omega : i < cap)).2 hi : ∀ i,i < len → _)
      have hsz : off + cap * z ≤ c.size := by
       have h5 := (hrow (cap - 1) (by omega)).1
       have : (cap - 1) * z + z = cap * z := by rw [← Nat.succ_mul]; congr 1; omega
       omega
      have hlz : len * z ≤ cap * z := Nat.mul_le_mul_right z hlc
      refine ⟨l,⟨by omega,fun y hy => ?_⟩, ?_⟩
      · obtain ⟨i,hi,rfl⟩ := List.mem_iff_getElem.1 hy
        exact (hp i hi).1
      · have := Rc.slI (w := w) (ρ := fun x => x) (G := fun b => b < w.heap.size) (L := fun _ => False) (p := false) b off c ty fz cap z (l.map f) hb (Array.getElem?_eq_some_iff.1 hb).1 (by simp; omega) (by simp [hl]; omega)
         (fun i hi => by simp only [List.getElem_map]; exact (hp i (by simpa using hi)).2)
        simpa [hl] using this⟩

theorem Rd.arr {α : Type} {f : α → D} {q : α → Prop} {n zz : Nat} (ht : P.underlying t = some (.array n e)) (hz : P.cellsOf t = zz) (hzz : zz = n * z) (he : Rd P e z f q) :
 Rd P t zz (fun l : List α => .arr n z (l.map f)) (fun l => l.length = n ∧ ∀ x ∈ l,q x) :=
 ⟨hz,fun _ _ => by simp [hzz],fun {H enc w m cs x} h hwt => by
  obtain ⟨xs,m',_,rfl,hlen,hxl,hx⟩ := DataW.trod_array ht h
  rw [hz] at hlen
  rw [he.cells] at hx
  obtain ⟨l,hl,hp⟩ := list_of (p := fun i a => q a ∧ Rc w (fun x => x) (fun b => b < w.heap.size) (fun _ => False) false (f a) ((cs.drop (i * z)).take z) []) (n := n) (fun i hi => by
   have := hx i hi
   rw [List.getElem?_eq_getElem (by omega)] at this
   simp only [DataW.weights,ht] at hwt
   exact he.rd this (weightsAll_mem hwt _ (List.mem_map.2 ⟨_,List.getElem_mem _,rfl⟩)))
  refine ⟨l,⟨hl,fun y hy => ?_⟩,.arr n z _ cs (by simpa using hl) (by omega) (fun i hi => by simp only [List.getElem_map]; exact (hp i (by simpa using hi)).2)⟩
  obtain ⟨i,hi,rfl⟩ := List.mem_iff_getElem.1 hy
  exact (hp i hi).1⟩

theorem Rd.map {α β : Type} {f : α → D} {q : α → Prop} {g : β → D} {q' : β → Prop} (h : Rd P t z f q) (m : α → β) (hm : ∀ a,q a → q' (m a) ∧ g (m a) = f a) (hs : ∀ b,q' b → (g b).sz = z) : Rd P t z g q' :=
 ⟨h.cells,hs,fun hx hw => by
  obtain ⟨a,ha,hr⟩ := h.rd hx hw
  obtain ⟨h1,h2⟩ := hm a ha
  exact ⟨m a,h1,by rw [h2]; exact hr⟩⟩

structure RdF (P : Program) (off : Nat) (fs : List Field) (e : Nat) {α : Type} (f : α → List D) (q : α → Prop) : Prop where
 sz : ∀ a,q a → off + D.szs (f a) = e
 rd : ∀ {H : Type} {enc : TypeId × Value → H} {w : World} {n : Nat} {cs : List Value},(∀ fld ∈ fs,∃ x,DataW.trod enc P w 0 (fun _ => true) true n fld.type ((cs.drop fld.offset).take (P.cellsOf fld.type)) = some x ∧ (x.1.weights P fld.type).all (· ≤ reachBytes) = true) →
  ∃ a,q a ∧ ∀ k (hk : k < (f a).length),Rc w (fun x => x) (fun b => b < w.heap.size) (fun _ => False) false (f a)[k] ((cs.drop (off + offk (f a) k)).take (f a)[k].sz) []

theorem RdF.nil {off : Nat} : RdF P off [] off (fun _ : Unit => []) (fun _ => True) :=
 ⟨fun _ _ => by simp,fun _ => ⟨(),trivial,fun k hk => by simp at hk⟩⟩
theorem RdF.cons {α β : Type} {f : α → D} {q : α → Prop} {g : β → List D} {q' : β → Prop} {off e' : Nat} {fld : Field} {fs : List Field} (h : Rd P fld.type z f q) (ho : fld.offset = off) (hr : RdF P (off + z) fs e' g q') :
 RdF P off (fld :: fs) e' (fun a : α × β => f a.1 :: g a.2) (fun a => q a.1 ∧ q' a.2) :=
 ⟨fun a ha => by have := hr.sz a.2 ha.2; have := h.sz a.1 ha.1; simp only [szs_cons]; omega,fun {H enc w n cs} hx => by
  obtain ⟨x,h1,hw⟩ := hx fld (by simp)
  rw [ho,h.cells] at h1
  obtain ⟨a,ha,hra⟩ := h.rd h1 hw
  obtain ⟨b,hb,hrb⟩ := hr.rd (fun f hf => hx f (List.mem_cons_of_mem _ hf))
  refine ⟨(a,b),⟨ha,hb⟩,fun k hk => ?_⟩
  cases k with
  | zero => simpa [offk,h.sz a ha] using hra
  | succ k =>
   have := hrb k (by simpa using hk)
   simp only [offk,List.take_succ_cons,szs_cons,List.getElem_cons_succ,h.sz a ha]
   rw [← Nat.add_assoc]
   exact this⟩
theorem Rd.struct {α : Type} {g : α → List D} {q : α → Prop} {fs : Array Field} (ht : P.underlying t = some (.struct fs)) (hz : P.cellsOf t = z) (h : RdF P 0 fs.toList z g q) : Rd P t z (fun a => .agg (g a)) q :=
 ⟨hz,fun a ha => by have := h.sz a ha; simp; omega,fun {H enc w n cs x} hx hwt => by
  obtain ⟨xs,m,_,rfl,hlen,hxl,hf⟩ := DataW.trod_struct ht hx
  obtain ⟨a,ha,hr⟩ := h.rd (H := H) (enc := enc) (w := w) (n := m) (cs := cs) (fun fld hm => by
   obtain ⟨i,hi,rfl⟩ := List.mem_iff_getElem.1 hm
   have h1 := hf i fs[i] (by simp at hi; simp [hi])
   rw [List.getElem?_eq_getElem (by simp at hi; omega)] at h1
   simp only [DataW.weights,ht] at hwt
   refine ⟨_,by simpa using h1, ?_⟩
   exact weightsEach_get hwt i _ _ (by simp at hi; simp [hi]) (by simp at hi; rw [List.getElem?_map,List.getElem?_eq_getElem (by omega)]; rfl))
  refine ⟨a,ha, ?_⟩
  have := Rc.agg (w := w) (ρ := fun x => x) (G := fun b => b < w.heap.size) (L := fun _ => False) (p := false) (g a) cs (fun _ => []) (by have := h.sz a ha; omega) (fun k hk => by have := hr k hk; rwa [Nat.zero_add] at this)
  rw [flat0] at this
  exact this⟩

def isAggT (P : Program) (t : TypeId) : Bool := match P.underlying t with
 | some (.struct _) => true
 | some (.array _ _) => true
 | _ => false
theorem cells_one {r : Reach} {W : World} {base : Nat} {v : Value} (hu : isAggT P t = false) (hv : Value.okWide P W r base t v) : v.cells = #[v] := by
 cases v with
 | agg cs =>
  exfalso
  unfold isAggT at hu
  unfold Value.okWide at hv
  split at hv
  · rename_i h; simp [h] at hu
  · rename_i h; simp [h] at hu
  · unfold Cell.okWide Cell.ok at hv
    split at hv <;> simp_all
 | _ => rfl
theorem Rd.arg {H : Type} {enc : TypeId × Value → H} {α : Type} {f : α → D} {q : α → Prop} {g : Bool} {r : Reach} {W : World} {base : Nat} {v : Value} {d : DataW H} {ps : List MemPlace} (h : Rd P t z f q) (hu : isAggT P t = g) (hg : ∀ a,q a → (f a).isAgg = g)
 (hv : Value.okWide P W r base t v) (hd : DataW.Trod enc P W 0 (fun _ => true) true t v d ps) (hw : (d.weights P t).all (· ≤ reachBytes) = true) :
 ∃ a,q a ∧ VR W (fun x => x) (fun b => b < W.heap.size) (fun _ => False) (f a) v [] := by
 obtain ⟨fuel,hd⟩ := hd
 obtain ⟨a,ha,hr⟩ := h.rd hd hw
 refine ⟨a,ha, ?_⟩
 have hga := hg a ha
 cases g with
 | true =>
  have : ∃ cs,v = .agg cs := by
   unfold isAggT at hu
   unfold Value.okWide at hv
   split at hv
   · exact ⟨_,hv.choose_spec.1⟩
   · exact ⟨_,hv.choose_spec.1⟩
   · split at hu <;> simp_all
  obtain ⟨cs,rfl⟩ := this
  simp only [VR,hga,if_true]
  exact ⟨cs,rfl,hr.flag⟩
 | false =>
  rw [cells_one hu hv] at hr
  simp only [VR,hga,if_false,Bool.false_eq_true]
  exact hr.flag

theorem trodAll_stays {H : Type} {enc : TypeId × Value → H} {W W' : World} {sp : Nat → Bool} (hl : laidOutB P = true) (hb : ∀ b,b < W.heap.size → W'.heap[b]? = W.heap[b]?) :
 ∀ {ts : List TypeId} {vs : List Value} {ds : List (DataW H)} {ps : List MemPlace},(ts.all fun t => P.readableRec t && decide (t < P.types.size)) = true → (∀ x ∈ ps,x.block < W.heap.size) → (∀ x ∈ ps,sp x.block = true) →
  DataW.TrodAll enc P W 0 (fun _ => true) true ts vs ds ps → DataW.TrodAll enc P W' 0 sp true ts vs ds ps := by
 intro ts
 induction ts with
 | nil => intro vs ds ps _ _ _ h; obtain ⟨rfl,rfl,rfl⟩ := trodAll_nil h; exact trodAll_mk0
 | cons t ts ih =>
  intro vs ds ps ht hlt hs h
  obtain ⟨v,vs1,d,ds1,a,b,rfl,rfl,rfl,h1,h2⟩ := trodAll_cons h
  simp only [List.all_cons,Bool.and_eq_true,decide_eq_true_eq] at ht
  refine trodAll_cons_mk (Go.WideElems.Trod_stays hl ht.1.1 ht.1.2 h1 (fun x hx => ?_) (fun x hx => hs x (List.mem_append.2 (.inl hx)))) (ih ht.2 (fun x hx => hlt x (List.mem_append.2 (.inr hx))) (fun x hx => hs x (List.mem_append.2 (.inr hx))) h2)
  have hx' := hlt x (List.mem_append.2 (.inl hx))
  cases x with
  | cell b o => exact World.cell?_of_block (w := W) (hb b hx')
  | map b => exact hb b hx'

theorem contract_of {H : Type} {enc : TypeId × Value → H} {fn : Func} {f : FuncId} {s : ChangeSpec} {W : World} {args : Array Value} {ds gs : List (DataW H)} {before : List MemPlace} {tb : TypeId} {gl : List (Nat × D)} {Ds : List D}
 (hl : laidOutB P = true) (hpar : (fn.params.toList.all fun t => P.readableRec t && decide (t < P.types.size)) = true) (hres : fn.resultTypes = #[tb]) (htb : P.underlying tb = some .bool) (hsv : s.vars = [])
 (hfn : s.fn H ds = { results := [.lit (.bool true)],args := ds }) (hW : DataW.Whole enc P fn.params.toList s.vars false W args.toList ds gs before)
 (hgl : ∀ g d,(g,d) ∈ gl → g < W.heap.size ∧ ∃ cs e fz,W.heap[g]? = some (.cells cs e fz) ∧ Rc W (fun x => x) (fun _ => False) (fun _ => False) false d cs.toList [])
 (hlen : args.toList.length = Ds.length) (hargs : ∀ k (h : k < Ds.length),VR W (fun x => x) (fun b => b < W.heap.size) (fun _ => False) Ds[k] (args.toList.getD k undef) [])
 (hf : Fn P gl f Ds (.bool true)) : Calls P f args W fun e W' => ∃ v,e = .returned v ∧ s.post enc P fn false true false false W args v W' := by
 have hrun := hf W (fun b => b < W.heap.size) args.toList hgl hlen hargs
 rw [Array.toArray_toList] at hrun
 refine hrun.mono fun ex W' ⟨v,F,he,hext,_,_,hrv⟩ => ⟨v,he, ?_⟩
 have hv : v = .bool true := by
  obtain ⟨_,h2⟩ := hrv
  simp only [VR,D.isAgg,Bool.false_eq_true,if_false] at h2
  cases h2
  rfl
 subst hv
 have hlt := hW.lt
 have hW0 := hW
 obtain ⟨p,q',hA,hV,rfl,hfz,hnd⟩ := hW
 rw [hsv] at hV
 obtain ⟨rfl,rfl⟩ := trodVars_none hV
 simp only [List.append_nil] at hlt hW0
 have hst : ∀ sp : Nat → Bool,(∀ x ∈ p,sp x.block = true) → DataW.TrodAll enc P W' 0 sp true fn.params.toList args.toList ds p := fun sp hs => trodAll_stays hl (fun b hb => hext.block b hb) hpar hlt hs hA
 refine ⟨ds,[],p,[],p,[],hW0, ?_, ?_, ?_,⟨hext.os,hext.output,fun i hi => ?_⟩,fun h => by cases h⟩
 · rw [hres]
   simp only [List.append_nil,hfn]
   exact trodAll_cons_mk (Go.RowKit.shut_bool htb true) trodAll_mk0
 · simp only [List.append_nil,hfn]
   exact hst _ (fun x hx => by simpa using hlt x hx)
 · simp only [List.append_nil,hfn,hsv]
   rfl
 · rw [hext.block i hi]
   cases hh : W.heap[i]? with
   | none => simp
   | some o => cases o <;> simp

theorem rc_tab32 {w : World} {ρ : Nat → Nat} {G L : Nat → Prop} (l : List UInt32) {n : Nat} (hn : l.length = n) : Rc w ρ G L false (.arr n 1 (l.map D.u32)) (l.map fun x => Value.int .u32 x.toNat) [] := by
 refine .arr n 1 _ _ (by simpa using hn) (by simp [hn]) (fun i hi => ?_)
 have hi' : i < l.length := by simpa using hi
 simp only [Nat.mul_one,List.getElem_map]
 rw [List.drop_eq_getElem_cons (by simpa using hi'),List.take_succ_cons,List.take_zero,List.getElem_map]
 exact .u32 _
theorem gl_tab32 {W : World} {name : String} {g n : Nat} (l : List UInt32) (hg : P.globalNamed name = some g) (hn : l.length = n) (h : Lib.TabIs P W name .u32 (l.map fun x => ((x.toNat : Nat) : Int))) :
 g < W.heap.size ∧ ∃ cs e fz,W.heap[g]? = some (.cells cs e fz) ∧ Rc W (fun x => x) (fun _ => False) (fun _ => False) false (.arr n 1 (l.map D.u32)) cs.toList [] := by
 unfold Lib.TabIs World.var? at h
 simp only [hg,Option.bind_some,List.map_map] at h
 split at h
 · rename_i cs e fz hh
   simp only [Option.some.injEq] at h
   refine ⟨(Array.getElem?_eq_some_iff.1 hh).1,cs,e,fz,hh, ?_⟩
   rw [h]
   exact rc_tab32 l hn
 · cases h
end Go.Sx

namespace Go.Sx
open Go.Proofs
structure TxS.arg (t : TxS) : Prop where
 bd : t.bd
 hash : ∀ x ∈ t.ins,x.tx.length = 32
theorem rd_tx : Rd Tryd.prog 26 4 txD TxS.arg := by
 have h32 := Rd.u32 (P := Tryd.prog) Tryd.underlying22 (by kernel_rfl)
 have h64 := Rd.u64 (P := Tryd.prog) Tryd.underlying44 (by kernel_rfl)
 have hb := Rd.sl (P := Tryd.prog) Tryd.underlying29 (by kernel_rfl) (by decide) (of_decide_eq_true (by kernel_rfl)) (Rd.u8 Tryd.underlying5 (by kernel_rfl))
 have hbb := Rd.sl (P := Tryd.prog) Tryd.underlying54 (by kernel_rfl) (by decide) (of_decide_eq_true (by kernel_rfl)) hb
 have hh := Rd.arr (P := Tryd.prog) (n := 32) Tryd.underlying32 (by kernel_rfl) rfl (Rd.u8 Tryd.underlying5 (by kernel_rfl))
 have hpl := Rd.struct (P := Tryd.prog) (z := 33) Tryd.underlying53 (by kernel_rfl) (.cons hh rfl (.cons h32 rfl .nil))
 have hin0 := Rd.struct (P := Tryd.prog) (z := 36) Tryd.underlying56 (by kernel_rfl) (.cons hpl rfl (.cons hb rfl (.cons h32 rfl (.cons hbb rfl .nil))))
 have hin := hin0.map (q' := fun x : InS => x.tx.length = 32 ∧ x.script.length ≤ 140737488355328 ∧ x.wit.length ≤ 140737488355328 ∧ ∀ b ∈ x.wit,b.length ≤ 140737488355328) (g := inD)
  (fun a => ⟨a.1.1,a.1.2.1,a.2.1,a.2.2.1,a.2.2.2.1⟩) (fun a ha => ⟨⟨ha.1.1.1,ha.2.1.1,ha.2.2.2.1.1,fun b hb => (ha.2.2.2.1.2 b hb).1⟩,rfl⟩) (fun b hb => rfl)
 have hout0 := Rd.struct (P := Tryd.prog) (z := 2) Tryd.underlying46 (by kernel_rfl) (.cons h64 rfl (.cons hb rfl .nil))
 have hout := hout0.map (q' := fun x : OutS => x.script.length ≤ 140737488355328) (g := outD) (fun a => ⟨a.1,a.2.1⟩) (fun a ha => ⟨ha.2.1.1,rfl⟩) (fun b hb => rfl)
 have hins := Rd.sl (P := Tryd.prog) Tryd.underlying23 (by kernel_rfl) (by decide) (of_decide_eq_true (by kernel_rfl)) hin
 have houts := Rd.sl (P := Tryd.prog) Tryd.underlying24 (by kernel_rfl) (by decide) (of_decide_eq_true (by kernel_rfl)) hout
 have htx := Rd.struct (P := Tryd.prog) (z := 4) Tryd.underlying26 (by kernel_rfl) (.cons h32 rfl (.cons hins rfl (.cons houts rfl (.cons h32 rfl .nil))))
 exact htx.map (fun a => ⟨a.1,a.2.1,a.2.2.1,a.2.2.2.1⟩) (fun a ha => ⟨⟨⟨ha.2.1.1,ha.2.2.1.1,fun x hx => (ha.2.1.2 x hx).2.1,fun x hx => (ha.2.1.2 x hx).2.2.1,fun x hx => (ha.2.1.2 x hx).2.2.2,fun x hx => ha.2.2.1.2 x hx⟩,fun x hx => (ha.2.1.2 x hx).1⟩,rfl⟩) (fun b hb => rfl)
theorem arg_wf {t : TxS} (h : t.arg) (hh : heavyS t = false) : t.wf := wf_of_sz (Nat.le_trans (heavy_sz hh) (by decide)) h.hash
theorem getO_wf {b : List UInt8} {t : TxS} (hb : b.length ≤ 100000) (h : getO b = some t) : t.wf ∧ mayS t = true ∧ putS t = b := by
 cases k1 : numO b 4 with
 | none => rw [go_1 k1] at h; cases h
 | some q =>
  obtain ⟨p,r⟩ := q
  have hr := numO_len k1
  cases k2 : preO r with
  | none => rw [go_2 k1 k2] at h; cases h
  | some r1 =>
   cases k3 : bodyO r1 with
   | none => rw [go_3 k1 k2 k3] at h; cases h
   | some q =>
    obtain ⟨⟨ins,outs⟩,r2⟩ := q
    cases k4 : witQ (seenB r) ins r2 with
    | none => rw [go_4 k1 k2 k3 k4] at h; cases h
    | some q =>
     obtain ⟨l,r3⟩ := q
     cases k5 : numO r3 4 with
     | none => rw [go_5 k1 k2 k3 k4 k5] at h; cases h
     | some q =>
      obtain ⟨k,r4⟩ := q
      rw [go_6 k1 k2 k3 k4 k5] at h
      unfold finO at h
      split at h
      · rename_i hc
        cases h
        exact ⟨get_wf (by omega) k2 k3 k4,hc.2.1,hc.2.2⟩
      · cases h
theorem getS_cases (b : List UInt8) : (getS b = (zeroT,6) ∧ 16384 < b.length) ∨ (getS b = (zeroT,5) ∧ getO b = none) ∨ ∃ t,getS b = (t,0) ∧ getO b = some t ∧ b.length ≤ 16384 := by
 by_cases h : 16384 < b.length
 · exact .inl ⟨gt_big h,h⟩
 · cases hg : getO b with
   | none => exact .inr (.inl ⟨gt_none h hg,rfl⟩)
   | some t => exact .inr (.inr ⟨t,gt_some h hg,rfl,by omega⟩)
theorem getS_wf {b : List UInt8} (hb : b.length ≤ 100000) : (getS b).1.wf := by
 rcases getS_cases b with ⟨h,_⟩ | ⟨h,_⟩ | ⟨t,h,hg,_⟩
 · rw [h]; exact zero_wf
 · rw [h]; exact zero_wf
 · rw [h]; exact (getO_wf hb hg).1
theorem eqIn_refl (x : InS) : eqIn x x = true := by simp [eqIn,eqB_list]
theorem eqOut_refl (x : OutS) : eqOut x x = true := by simp [eqOut]
theorem sameS_refl (t : TxS) : sameS t t = true := sm_t rfl rfl rfl rfl (fun j _ => eqIn_refl _) (fun j _ => eqOut_refl _)
end Go.Sx

namespace Go.Sx
theorem shN_nat (x : UInt64) (i : Nat) : (shN x i).toNat = x.toNat / 256 ^ i := by
 induction i with
 | zero => simp [shN]
 | succ i ih =>
  simp only [shN,shr_u64_toNat,ih,Nat.pow_succ]
  rw [Nat.div_div_eq_div_mul]
  rfl
theorem val_low (x : UInt64) (i : Nat) : val (lowI x i) = x.toNat % 256 ^ i := by
 induction i with
 | zero => simp [lowI,val,Nat.mod_one]
 | succ i ih =>
  rw [lowI,val_snoc,ih,lowI_len,UInt64.toNat_toUInt8,shN_nat,Nat.pow_succ]
  exact (Nat.mod_mul (a := 256 ^ i) (b := 256)).symm
theorem numI_low (x : UInt64) {n : Nat} (hn : n ≤ 8) (hx : x.toNat < 256 ^ n) : numI (lowI x n) n = x := by
 apply UInt64.toNat_inj.1
 rw [numI_val _ _ (by rw [lowI_len]; omega) hn,List.take_of_length_le (by rw [lowI_len]; omega),val_low,Nat.mod_eq_of_lt hx]
theorem takeO_app {b r : List UInt8} {n : Nat} (h : b.length = n) : takeO (b ++ r) n = some (b,r) := by
 subst h
 unfold takeO
 rw [if_pos (by simp),List.take_left,List.drop_left]
theorem numO_low {x : UInt64} {n : Nat} {r : List UInt8} (hn : n ≤ 8) (hx : x.toNat < 256 ^ n) : numO (lowI x n ++ r) n = some (x,r) := by
 unfold numO
 rw [takeO_app (lowI_len x n)]
 simp only [Option.map_some,lowI_len,numI_low x hn hx]
theorem num32 (x : UInt32) {r : List UInt8} : numO (lowI x.toUInt64 4 ++ r) 4 = some (x.toUInt64,r) :=
 numO_low (by decide) (by have := x.toNat_lt; simp only [UInt32.toNat_toUInt64]; omega)
theorem num64 (x : UInt64) {r : List UInt8} : numO (lowI x 8 ++ r) 8 = some (x,r) := numO_low (by decide) (by have := x.toNat_lt; omega)
theorem u32_back (x : UInt32) : x.toUInt64.toUInt32 = x := by simp
theorem cU_nat {n : Nat} (hn : n < 18446744073709551616) : (cU n).toNat = n := ofInt_nat hn
theorem cU_not {n m : Nat} (h : n ≤ m) (hm : m < 18446744073709551616) : ¬ UInt64.ofInt ((m : Nat) : Int) < cU n := by
 rw [UInt64.lt_iff_toNat_lt,ofInt_nat hm,cU_nat (by omega)]; omega
theorem cnt_fin {n : Nat} {r : List UInt8} (h : n ≤ r.length) (hr : r.length ≤ 100000000) : (if UInt64.ofInt ((r.length : Nat) : Int) < cU n then none else some ((cU n).toNat,r)) = some (n,r) := by
 rw [if_neg (cU_not h (by omega)),cU_nat (by omega)]
theorem cnt_back {n : Nat} {r : List UInt8} (h : n ≤ r.length) (hr : r.length ≤ 100000000) : cntO (countS n ++ r) = some (n,r) := by
 have hn : (cU n).toNat = n := cU_nat (by omega)
 unfold countS
 split
 · rename_i h1
   rw [UInt64.lt_iff_toNat_lt,hn] at h1
   have e : (253 : UInt64).toNat = 253 := rfl
   rw [cntO_small (numO_low (by decide) (by omega)) (by rw [UInt64.le_iff_toNat_le,hn]; omega)]
   exact cnt_fin h hr
 · split
   · rename_i h1
     rw [UInt64.le_iff_toNat_le,hn] at h1
     have e : (65535 : UInt64).toNat = 65535 := rfl
     rw [List.append_assoc,cntO_big (numO_low (x := 253) (by decide) (by decide)) (by decide) (y := cU n) (r2 := r) (numO_low (n := 2) (by decide) (by omega))]
     exact cnt_fin h hr
   · split
     · rw [List.append_assoc,cntO_big (numO_low (x := 254) (by decide) (by decide)) (by decide) (y := cU n) (r2 := r) (numO_low (n := 4) (by decide) (by omega))]
       exact cnt_fin h hr
     · rw [List.append_assoc,cntO_big (numO_low (x := 255) (by decide) (by decide)) (by decide) (y := cU n) (r2 := r) (numO_low (n := 8) (by decide) (by omega))]
       exact cnt_fin h hr
theorem item_back {b r : List UInt8} (h : b.length + r.length ≤ 100000000) : itemO (itemS b ++ r) = some (b,r) := by
 unfold itemO itemS
 rw [List.append_assoc,cnt_back (by simp) (by simpa using h)]
 exact takeO_app rfl
theorem in_back {x : InS} {r : List UInt8} (hx : x.tx.length = 32) (h : x.script.length + r.length ≤ 10000000) : inO (inS x ++ r) = some (plP x,r) := by
 unfold inS
 simp only [List.append_assoc]
 rw [inO_s (takeO_app hx) (num32 x.n) (item_back (by simp [lowI_len]; omega)) (num32 x.seq),u32_back,u32_back]
 rfl
theorem out_back {x : OutS} {r : List UInt8} (h : x.script.length + r.length ≤ 10000000) : outO (outS' x ++ r) = some (x,r) := by
 unfold outS'
 simp only [List.append_assoc]
 rw [outO_s (num64 x.value) (item_back (by omega))]
theorem ins_back {l : List InS} (hh : ∀ x ∈ l,x.tx.length = 32) (hs : ∀ x ∈ l,x.script.length ≤ 1000000) : ∀ i,i ≤ l.length → ∀ {r : List UInt8},(insS l i).length + r.length ≤ 9000000 → insO (insS l i ++ r) i = some ((l.take i).map plP,r) := by
 intro i
 induction i with
 | zero => intro _ r _; simp [insS,insO]
 | succ i ih =>
  intro hi r hr
  have hm : l[i]! ∈ l := get_mem (by omega)
  simp only [insS,List.length_append] at hr
  rw [insS,List.append_assoc,insO_s (ih (by omega) (r := inS l[i]! ++ r) (by simp only [List.length_append]; omega)) (in_back (hh _ hm) (by have := hs _ hm; omega)),take_snoc (by omega)]
  simp
theorem outs_back {l : List OutS} (hs : ∀ x ∈ l,x.script.length ≤ 1000000) : ∀ i,i ≤ l.length → ∀ {r : List UInt8},(outsS l i).length + r.length ≤ 9000000 → outsO (outsS l i ++ r) i = some (l.take i,r) := by
 intro i
 induction i with
 | zero => intro _ r _; simp [outsS,outsO]
 | succ i ih =>
  intro hi r hr
  have hm : l[i]! ∈ l := get_mem (by omega)
  simp only [outsS,List.length_append] at hr
  rw [outsS,List.append_assoc,outsO_s (ih (by omega) (r := outS' l[i]! ++ r) (by simp only [List.length_append]; omega)) (out_back (by have := hs _ hm; omega)),take_snoc (by omega)]
theorem insS_len_ge (l : List InS) : ∀ i,i ≤ (insS l i).length := by
 intro i
 induction i with
 | zero => simp
 | succ i ih => simp only [insS,List.length_append,inS,lowI_len]; omega
theorem outsS_len_ge (l : List OutS) : ∀ i,i ≤ (outsS l i).length := by
 intro i
 induction i with
 | zero => simp
 | succ i ih => simp only [outsS,List.length_append,outS',lowI_len]; omega
theorem body_back' {t : TxS} (hw : t.wf) {c r : List UInt8} (hc : ∀ {u : List UInt8},t.ins.length ≤ u.length → u.length ≤ 9000000 → cntO (c ++ u) = some (t.ins.length,u)) (hr : r.length ≤ 4000000) :
 bodyO (c ++ (insS t.ins t.ins.length ++ (countS t.outs.length ++ (outsS t.outs t.outs.length ++ r)))) = some ((t.ins.map plP,t.outs),r) := by
 have h1 := hw.insb _ (Nat.le_refl _)
 have h2 := hw.outsb _ (Nat.le_refl _)
 have h3 := countS_len t.outs.length
 have h4 := insS_len_ge t.ins t.ins.length
 have h5 := outsS_len_ge t.outs t.outs.length
 unfold bodyO
 rw [hc (by simp only [List.length_append]; omega) (by simp only [List.length_append]; omega),Option.bind_some,
  ins_back hw.hash hw.scr _ (Nat.le_refl _) (by simp only [List.length_append]; omega),Option.bind_some,cnt_back (by simp only [List.length_append]; omega) (by simp only [List.length_append]; omega),Option.bind_some,
  outs_back hw.oscr _ (Nat.le_refl _) (by omega)]
 simp
theorem body_back {t : TxS} (hw : t.wf) {r : List UInt8} (hr : r.length ≤ 4000000) : bodyO (bodyS t ++ r) = some ((t.ins.map plP,t.outs),r) := by
 unfold bodyS
 simp only [List.append_assoc]
 exact body_back' hw (fun h1 h2 => cnt_back h1 (by omega)) hr
theorem witS_cons (x : List UInt8) (l : List (List UInt8)) (n : Nat) : witS (x :: l) (n + 1) = itemS x ++ witS l n := by
 induction n with
 | zero => simp [witS]
 | succ n ih =>
  rw [witS,ih,witS,List.append_assoc]
  simp
theorem witsS_cons (x : InS) (l : List InS) (n : Nat) : witsS (x :: l) (n + 1) = countS x.wit.length ++ (witS x.wit x.wit.length ++ witsS l n) := by
 induction n with
 | zero => simp [witsS]
 | succ n ih =>
  rw [witsS,ih,witsS]
  simp
theorem items_back (l : List (List UInt8)) {r : List UInt8} (h : (witS l l.length).length + r.length ≤ 9000000) : itemsO l.length (witS l l.length ++ r) = some (l,r) := by
 induction l with
 | nil => simp [itemsO,witS]
 | cons x l ih =>
  rw [List.length_cons,witS_cons] at h
  simp only [List.length_append,itemS] at h
  rw [List.length_cons,witS_cons,List.append_assoc,itemsO,item_back (by simp only [List.length_append]; omega),Option.bind_some,ih (by omega)]
  rfl
theorem witS_len_ge (l : List (List UInt8)) : ∀ i,i ≤ (witS l i).length := by
 intro i
 induction i with
 | zero => simp
 | succ i ih =>
  have : 1 ≤ (countS l[i]!.length).length := by
   unfold countS
   split
   · simp [lowI_len]
   · split
     · simp [lowI_len]
     · split <;> simp [lowI_len]
  simp only [witS,List.length_append,itemS]; omega
theorem wits_back (l : List InS) {r : List UInt8} (h : (witsS l l.length).length + r.length ≤ 9000000) : witsO (l.map plP) (witsS l l.length ++ r) = some (l,r) := by
 induction l with
 | nil => simp [witsO,witsS]
 | cons x l ih =>
  rw [List.length_cons,witsS_cons] at h
  simp only [List.length_append] at h
  have hx := witS_len_ge x.wit x.wit.length
  rw [List.length_cons,witsS_cons,List.map_cons,witsO]
  simp only [List.append_assoc]
  rw [wo_s (cnt_back (by simp only [List.length_append]; omega) (by simp only [List.length_append]; omega)) (items_back x.wit (by simp only [List.length_append]; omega)),Option.bind_some,ih (by omega)]
  rfl
theorem seenB_cons {x : UInt8} {r : List UInt8} : seenB (x :: r) = (x == 0) := by simp [seenB]
theorem count_head {n : Nat} (h1 : 0 < n) (h2 : n ≤ 1000000) : ∃ x r,countS n = x :: r ∧ (x == 0) = false := by
 have hn : (cU n).toNat = n := cU_nat (by omega)
 unfold countS
 split
 · rename_i h
   rw [UInt64.lt_iff_toNat_lt,hn] at h
   have e : (253 : UInt64).toNat = 253 := rfl
   refine ⟨(cU n).toUInt8,[],rfl, ?_⟩
   rw [beq_eq_false_iff_ne]
   intro hc
   have := congrArg UInt8.toNat hc
   rw [UInt64.toNat_toUInt8,hn] at this
   have e0 : (0 : UInt8).toNat = 0 := rfl
   omega
 · split
   · exact ⟨_,_,rfl,by decide⟩
   · split
     · exact ⟨_,_,rfl,by decide⟩
     · exact ⟨_,_,rfl,by decide⟩
theorem plI_map (l : List InS) : ∀ i,i ≤ l.length → plI l i = (l.take i).map plP := by
 intro i
 induction i with
 | zero => intro _; simp [plI]
 | succ i ih => intro h; rw [plI,ih (by omega),take_snoc (by omega)]; simp
theorem plain_ins (t : TxS) : (plainS t).ins = t.ins.map plP := by
 show plI t.ins t.ins.length = _
 rw [plI_map _ _ (Nat.le_refl _),List.take_length]
theorem plP_of {x : InS} (h : x.wit = []) : plP x = x := by cases x; simp only [plP] at *; simp [h]
theorem map_pl {l : List InS} (h : ∀ x ∈ l,x.wit = []) : l.map plP = l := by
 induction l with
 | nil => rfl
 | cons x l ih => rw [List.map_cons,plP_of (h x (by simp)),ih (fun y hy => h y (by simp [hy]))]
theorem seenS_false {t : TxS} (h : seenS t = false) : ∀ x ∈ t.ins,x.wit = [] := by
 unfold seenS at h
 rw [List.any_eq_false] at h
 intro x hx
 have := h x hx
 exact List.eq_nil_of_length_eq_zero (by simpa using this)
theorem read_bare {t : TxS} (hw : t.wf) {c : List UInt8} {x : UInt8} {c' : List UInt8} (hx : c = x :: c') (h0 : (x == 0) = false)
 (hc : ∀ {u : List UInt8},t.ins.length ≤ u.length → u.length ≤ 9000000 → cntO (c ++ u) = some (t.ins.length,u)) {b : List UInt8}
 (hb : b = lowI t.ver.toUInt64 4 ++ (c ++ (insS t.ins t.ins.length ++ (countS t.outs.length ++ (outsS t.outs t.outs.length ++ lowI t.lock.toUInt64 4))))) :
 getO b = finO b ⟨t.ver,t.ins.map plP,t.outs,t.lock⟩ [] := by
 have hs : seenB (c ++ (insS t.ins t.ins.length ++ (countS t.outs.length ++ (outsS t.outs t.outs.length ++ lowI t.lock.toUInt64 4)))) = false := by
  rw [hx,List.cons_append,seenB_cons,h0]
 have h1 := num32 t.ver (r := c ++ (insS t.ins t.ins.length ++ (countS t.outs.length ++ (outsS t.outs t.outs.length ++ lowI t.lock.toUInt64 4))))
 rw [← hb] at h1
 have h2 := pre_0 hs
 have h3 := body_back' hw hc (r := lowI t.lock.toUInt64 4) (by simp [lowI_len])
 have h4 := wq_f hs (ins := t.ins.map plP) (r1 := lowI t.lock.toUInt64 4)
 have h5 : numO (lowI t.lock.toUInt64 4) 4 = some (t.lock.toUInt64,[]) := by have := num32 t.lock (r := []); rwa [List.append_nil] at this
 rw [go_6 h1 h2 h3 h4 h5,u32_back,u32_back]
theorem read_seen {t : TxS} (hw : t.wf) {w : List UInt8} {l : List InS} (hl : witsO (t.ins.map plP) (w ++ lowI t.lock.toUInt64 4) = some (l,lowI t.lock.toUInt64 4)) (hwl : w.length ≤ 2000000) {b : List UInt8}
 (hb : b = lowI t.ver.toUInt64 4 ++ ([0,1] ++ (bodyS t ++ (w ++ lowI t.lock.toUInt64 4)))) :
 getO b = finO b ⟨t.ver,l,t.outs,t.lock⟩ [] := by
 have hs : seenB ([0,1] ++ (bodyS t ++ (w ++ lowI t.lock.toUInt64 4))) = true := by rw [List.cons_append,seenB_cons]; rfl
 have h1 := num32 t.ver (r := [0,1] ++ (bodyS t ++ (w ++ lowI t.lock.toUInt64 4)))
 rw [← hb] at h1
 have h2 := pre_s hs (takeO_app (b := [0,1]) rfl)
 have h3 := body_back hw (r := w ++ lowI t.lock.toUInt64 4) (by simp [lowI_len]; omega)
 have h4 := (wq_t hs (ins := t.ins.map plP) (r1 := w ++ lowI t.lock.toUInt64 4)).trans hl
 have h5 : numO (lowI t.lock.toUInt64 4) 4 = some (t.lock.toUInt64,[]) := by have := num32 t.lock (r := []); rwa [List.append_nil] at this
 rw [go_6 h1 h2 h3 h4 h5,u32_back,u32_back]
theorem get_put {t : TxS} (hw : t.wf) (hi : 0 < t.ins.length) : getO (putS t) = finO (putS t) t [] := by
 cases hs : seenS t with
 | true =>
  have hb : putS t = lowI t.ver.toUInt64 4 ++ ([0,1] ++ (bodyS t ++ (witsS t.ins t.ins.length ++ lowI t.lock.toUInt64 4))) := by simp [putS,hs]
  have h1 := hw.witsb _ (Nat.le_refl _)
  rw [read_seen hw (wits_back t.ins (by simp [lowI_len]; omega)) (by omega) hb]
 | false =>
  have hb : putS t = lowI t.ver.toUInt64 4 ++ (countS t.ins.length ++ (insS t.ins t.ins.length ++ (countS t.outs.length ++ (outsS t.outs t.outs.length ++ lowI t.lock.toUInt64 4)))) := by simp [putS,hs,bareS,bodyS]
  obtain ⟨x,r,hx,h0⟩ := count_head hi hw.ins
  rw [read_bare hw hx h0 (fun h1 h2 => cnt_back h1 (by omega)) hb,map_pl (seenS_false hs)]
theorem fin_nil (b : List UInt8) (t : TxS) : finO b t [] = if mayS t = true ∧ putS t = b then some t else none := by
 unfold finO
 simp
theorem get_put' {t : TxS} (hw : t.wf) (hi : 0 < t.ins.length) : getO (putS t) = if mayS t = true then some t else none := by
 rw [get_put hw hi,fin_nil]; simp
theorem mayS_ins {t : TxS} (h : mayS t = true) : 0 < t.ins.length := by
 have := of_decide_eq_true h
 unfold mayP at this
 omega
end Go.Sx

namespace Go.Sx
theorem bk_get {t : TxS} (hw : t.wf) (h : mayS t = true) : getS (putS t) = (t,0) := by
 have hl : (putS t).length ≤ 16384 := (of_decide_eq_true h : mayP t).2.2.2.2
 exact gt_some (by omega) (by rw [get_put' hw (mayS_ins h),if_pos h])
theorem bk_put {s : List UInt8} (hs : s.length ≤ 100000) (h : (getS s).2 = 0) : putS (getS s).1 = s ∧ mayS (getS s).1 = true := by
 rcases getS_cases s with ⟨e,_⟩ | ⟨e,_⟩ | ⟨t,e,hg,_⟩
 · rw [e] at h; cases h
 · rw [e] at h; cases h
 · rw [e]; exact ⟨(getO_wf hs hg).2.2,(getO_wf hs hg).2.1⟩
theorem insS_pl (l : List InS) : ∀ i,i ≤ l.length → insS (l.map plP) i = insS l i := by
 intro i
 induction i with
 | zero => intro _; rfl
 | succ i ih =>
  intro h
  have : (l.map plP)[i]! = plP l[i]! := by rw [getElem!_pos (l.map plP) i (by rw [List.length_map]; omega),getElem!_pos l i (by omega),List.getElem_map]
  rw [insS,insS,ih (by omega),this]
  rfl
theorem bare_plain (t : TxS) : bareS (plainS t) = bareS t := by
 unfold bareS bodyS
 rw [plain_ins,List.length_map,insS_pl _ _ (Nat.le_refl _)]
 rfl
theorem seen_plain (t : TxS) : seenS (plainS t) = false := by
 unfold seenS
 rw [List.any_eq_false,plain_ins]
 intro x hx
 obtain ⟨y,_,rfl⟩ := List.mem_map.1 hx
 simp [plP]
theorem put_plain (t : TxS) : putS (plainS t) = bareS t := by rw [putS,seen_plain,if_neg (by simp),bare_plain]
theorem id_plain (t : TxS) : idS (plainS t) = idS t := by rw [idS,idS,bare_plain]
theorem eqIn_eq {x y : InS} (h : eqIn x y = true) : x = y := by
 unfold eqIn at h
 simp only [Bool.and_eq_true,beq_iff_eq] at h
 obtain ⟨⟨⟨h1,h2⟩,h3⟩,h4⟩ := h
 have hw : x.wit = y.wit := by
  unfold eqL at h4
  rw [Bool.and_eq_true,decide_eq_true_eq,List.all_eq_true] at h4
  refine List.ext_getElem h4.1 fun i hi hj => ?_
  have := h4.2 i (List.mem_range.2 hi)
  rw [getElem!_pos _ i hi,getElem!_pos _ i hj] at this
  simpa [eqB] using this
 have h5 : x.tx = y.tx ∧ x.n = y.n := by unfold plc at h1; exact ⟨congrArg Prod.fst h1,congrArg Prod.snd h1⟩
 cases x; cases y; simp only at *; simp [h5.1,h5.2,h2,h3,hw]
theorem eqOut_eq {x y : OutS} (h : eqOut x y = true) : x = y := by
 unfold eqOut at h
 simp only [Bool.and_eq_true,beq_iff_eq] at h
 cases x; cases y; simp only at *; simp [h.1,h.2]
theorem eqL_eq {α : Type} [Inhabited α] {f : α → α → Bool} {a b : List α} (hf : ∀ x y,f x y = true → x = y) (h : eqL f a b = true) : a = b := by
 unfold eqL at h
 rw [Bool.and_eq_true,decide_eq_true_eq,List.all_eq_true] at h
 refine List.ext_getElem h.1 fun i hi hj => ?_
 have := hf _ _ (h.2 i (List.mem_range.2 hi))
 rwa [getElem!_pos _ i hi,getElem!_pos _ i hj] at this
theorem sameS_eq {t u : TxS} (h : sameS t u = true) : t = u := by
 unfold sameS at h
 simp only [Bool.and_eq_true,beq_iff_eq] at h
 have h1 := eqL_eq (fun _ _ => eqIn_eq) h.1.2
 have h2 := eqL_eq (fun _ _ => eqOut_eq) h.2
 cases t; cases u; simp only at *; simp [h.1.1.1,h.1.1.2,h1,h2]
theorem read_body {t : TxS} (hw : t.wf) : numO (bareS t) 4 = some (t.ver.toUInt64,bodyS t ++ lowI t.lock.toUInt64 4) ∧ bodyO (bodyS t ++ lowI t.lock.toUInt64 4) = some ((t.ins.map plP,t.outs),lowI t.lock.toUInt64 4) := by
 refine ⟨?_,body_back hw (by simp [lowI_len])⟩
 unfold bareS
 rw [List.append_assoc]
 exact num32 t.ver
theorem bare_inj {t u : TxS} (ht : t.wf) (hu : u.wf) (h : bareS t = bareS u) : plainS t = plainS u := by
 obtain ⟨h1,h2⟩ := read_body ht
 obtain ⟨h3,h4⟩ := read_body hu
 rw [h,h3] at h1
 have e1 := Prod.mk.inj (Option.some.inj h1)
 rw [← e1.2,h4] at h2
 have e2 := Prod.mk.inj (Option.some.inj h2)
 have e3 := Prod.mk.inj e2.1
 have e4 : u.ver = t.ver := by have := congrArg UInt64.toUInt32 e1.1; rwa [u32_back,u32_back] at this
 have e5 : u.lock = t.lock := by
  have : numI (lowI u.lock.toUInt64 4) 4 = numI (lowI t.lock.toUInt64 4) 4 := by rw [e2.2]
  rw [numI_low _ (by decide) (by have := u.lock.toNat_lt; simp only [UInt32.toNat_toUInt64]; omega),numI_low _ (by decide) (by have := t.lock.toNat_lt; simp only [UInt32.toNat_toUInt64]; omega)] at this
  have := congrArg UInt64.toUInt32 this
  rwa [u32_back,u32_back] at this
 have e6 : (plainS t).ins = (plainS u).ins := by rw [plain_ins,plain_ins]; exact e3.1.symm
 show TxS.mk t.ver (plainS t).ins t.outs t.lock = TxS.mk u.ver (plainS u).ins u.outs u.lock
 rw [e6,e4,e5,e3.2]
theorem bk_same {t u : TxS} (ht : t.wf) (hu : u.wf) : (bareS t == bareS u) = sameS (plainS t) (plainS u) := by
 cases h : sameS (plainS t) (plainS u) with
 | true =>
  have := sameS_eq h
  rw [beq_iff_eq,← bare_plain t,← bare_plain u,this]
 | false =>
  rw [beq_eq_false_iff_ne]
  intro hc
  rw [bare_inj ht hu hc,sameS_refl] at h
  cases h
theorem plain_wf {t : TxS} (h : szT t ≤ 100000) (hh : ∀ x ∈ t.ins,x.tx.length = 32) : (plainS t).wf := by
 refine wf_of_sz (Nat.le_trans ?_ h) ?_
 · unfold szT
   rw [plain_ins]
   have : ∀ l : List InS,szI (l.map plP) ≤ szI l := by
    intro l
    induction l with
    | nil => exact Nat.le_refl _
    | cons x l ih => simp only [List.map_cons,szI,plP,szW]; omega
   exact Nat.add_le_add_right (this _) _
 · rw [plain_ins]
   intro x hx
   obtain ⟨y,hy,rfl⟩ := List.mem_map.1 hx
   exact hh y hy
section
variable {s : List UInt8} {k : Nat}
end
end Go.Sx

namespace Go.Sx
section
variable {t : TxS}
end
end Go.Sx
