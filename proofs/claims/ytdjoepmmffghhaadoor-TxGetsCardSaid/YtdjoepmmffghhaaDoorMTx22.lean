/-
 Own library: a part of the code that several ways lead to is walked once.
-/
import Derived.Test.YtdjoepmmffghhaaDoorMSxBldO
import Derived.Test.YtdjoepmmffghhaaDoorMTx16
import Derived.Test.YtdjoepmmffghhaaDoorMSxOwn
set_option linter.unusedVariables false
set_option linter.unusedSimpArgs false
set_option linter.unnecessarySimpa false

namespace Go.Sx
open Go.Proofs
theorem get_ok (b : List UInt8) (hb0 : b.length ≤ 100000) : Fn Tryd.prog gl 23 [.sl none 1 (b.map D.u8)] (.tup [txD (getS b).1,.int (((getS b).2 : Nat) : Int)]) := by
 refine Fn.ofD (n := 65) Tryd.func23 rfl rfl rfl (nU rfl) fun C hC hD hdf hrd hkp => ?_
 refine WD.seq ?_
 refine W.l0 2 [] [] [] [(0,_)] [] 65 trivial rfl rfl rfl rfl (⟨rfl,_,R.alloc rfl (nU rfl),⟨rfl,_,R.alloc rfl (nU rfl),tV [(0,_),(2,_),(3,_)] [(3,.var _),(2,.var _)] 65 rfl rfl rfl ?_⟩⟩)
 refine WD.seq ?_
 refine W.seq ?_
 refine W.l0 3 [.y 6 _,.y 7 _,.y 8 _] [] [] [(0,_),(2,_),(3,_),(8,_)] [(3,.var _),(2,.var _)] 65 ⟨mU 0 rfl rfl,aU fun _ _ H K => R.lenE (SC.sl (K 6 _ rfl)) (List.length_map _) H,aU fun _ _ H K => R.gtrN (b.length) (16384) (eU K 7 rfl) (kI 16384 rfl) H,trivial⟩ rfl rfl rfl rfl (tU rfl ?_)
 refine W.condD rfl (fun hc8 => ?_) (fun hc8 => ?_)
 · refine W.seq ?_
   refine W.wkB 2 (d' := txD zeroT) (bx' := [(3,.var _),(2,.var _)]) rfl wk_zero rfl ?_
   refine W.l0 3 [.y 9 _] [] [] [(2,_),(3,_),(9,_)] [(3,.var _),(2,.var _)] 65 ⟨aU (lU 2 rfl rfl rfl rfl rfl rfl rfl),trivial⟩ rfl rfl rfl rfl (⟨rfl,_,R.stZ (gU 2 rfl) (xU 2 rfl) rfl (gV 9 rfl) (by rfl) (by rfl) (by rfl) (by rfl) rfl,⟨rfl,_,R.stZ (gU 3 rfl) (xU 3 rfl) rfl (kI 6 rfl) (by rfl) (by rfl) (by rfl) (by rfl) rfl,tV [(2,_),(3,_)] [(3,.var _),(2,.var _)] 65 rfl rfl rfl ?_⟩⟩)
   refine W.ret ?_
   exact fun a w hs => end0 hdf hkp hs (Ends.many (.inr rfl) (.cons rfl rfl rfl (show LdT _ 26 4 true from inferInstance) (.cons rfl rfl rfl (show LdT _ 34 1 false from inferInstance) .nil)) (by rw [gt_big hc8]) (show [(2,false),(3,false)].Nodup by decide))
 · refine W.skip ?_
   refine WD.defer hrd rfl rfl rfl rfl (nU rfl) fun b2 b3 hb23 => ?_
   obtain ⟨C1,hC1⟩ : ∃ C1,C1 = C.put (dfr 41 b2 b3) 2 3 b2 b3 := ⟨_,rfl⟩
   rw [← hC1]
   have hC0 := hC
   have hC : C1.gl = gl := by rw [hC1]; exact hC0
   have hD0 := hD
   have hD : ∀ id c_,C1.pin id = some c_ → memN [2,3] id = true := by rw [hC1]; exact put_pin hD0
   refine WD.of ?_
   refine W.dropS (live := [0,2,3]) (env' := [(0,_),(2,_),(3,_)]) (bx' := [(3,.var _),(2,.var _)]) (n' := 65) rfl rfl rfl ?_
   refine W.seq ?_
   refine W.l0 4 [.y 11 _,.y 12 _] [] [] [(0,_),(2,_),(3,_),(12,_)] [(3,.var _),(2,.var _)] 65 ⟨mU 0 rfl rfl,aU fun _ _ H K => R.bldSE (l := [.nils]) (l' := [_]) (.cons (eU K 11 rfl) (.nil rfl)) ⟨⟨_,(eU K 11 rfl),rfl,rfl,rfl⟩,trivial⟩ H,trivial⟩ rfl rfl rfl rfl (⟨rfl,_,R.box (gV 12 rfl) rfl rfl (nU rfl),⟨rfl,_,R.asg (gV 13 rfl) rfl (nU rfl),tV [(0,_),(2,_),(3,_),(4,_)] [(13,.var _),(3,.var _),(2,.var _)] 65 rfl rfl rfl ?_⟩⟩)
   refine W.seq ?_
   rcases hE : numO b 4 with _ | ⟨x,r⟩
   · refine W.lineX (n := 5) (by decide) (its := [.y 14 _]) (ks := []) (kk := []) (live := [0,2,3,4,14]) (env' := [(0,_),(2,_),(3,_),(4,_),(14,_)]) (⟨nU rfl,rfl,⟨mU 4 rfl rfl,trivial⟩,rfl,rfl,rfl⟩) rfl (bx' := [(13,.var _),(3,.var _),(2,.var _)]) rfl (n' := 65) rfl (⟨rfl,.inr (R.callXk [(0,13)] hC (FnO.none' (rnumber_ok b (by omega) 4 (by decide)) (by rw [hE]; rfl)) (EvB.cons (gV 14 rfl) rfl rfl rfl (EvB.cons (kI 4 rfl) rfl rfl rfl EvB.nil)) rfl ⟨rfl,trivial⟩ ⟨rfl,trivial⟩ rfl (fun e he => ?_))⟩)
     obtain ⟨ch,rfl,hch⟩ := he
     intro a w hs
     show bodyPostD _ _ _ _ _ _
     rw [gt_none hc8 (go_1 hE)]
     exact endDP (z2 := #[.int .u32 0,.slice none 0 0,.slice none 0 0,.int .u32 0]) (z3 := #[.int .i64 5]) (r2 := .agg [.u32 0,.nils,.nils,.u32 0]) hC1 hdf hkp (by decide) (hb23 (by decide)) rfl inferInstance (fun w ch hch cs2 cs3 e2 e3 q2 s2 q3 s3 => get1P b2 b3 w hch (hb23 (by decide)) q2 s2 q3 s3) ⟨ch,rfl,hch⟩ rfl rfl rfl rfl rfl rfl rfl rfl rfl rfl rfl rfl rfl rfl wk_zero rfl hs
   have hr := numO_len hE
   refine W.l0 5 [.y 14 _] [] [] [(0,_),(2,_),(3,_),(4,_),(14,_)] [(13,.var _),(3,.var _),(2,.var _)] 65 ⟨mU 4 rfl rfl,trivial⟩ rfl rfl rfl rfl (⟨rfl,_,R.callB [(0,13)] hC (FnO.some' (r := .u64 x) (bx' := [(0,.var (.agg [.sl none 1 (r.map D.u8)]))]) (nw := []) (rnumber_ok b (by omega) 4 (by decide)) (by rw [hE]; rfl)) (EvB.cons (gV 14 rfl) rfl rfl rfl (EvB.cons (kI 4 rfl) rfl rfl rfl EvB.nil)) rfl ⟨rfl,trivial⟩ ⟨rfl,trivial⟩ rfl rfl rfl rfl rfl rfl (nU rfl),⟨rfl,_,R.conv (gV 15 rfl) rfl (nU rfl),⟨rfl,_,R.fdP (gU 2 rfl) (nU rfl),⟨rfl,_,R.stZ (gU 17 rfl) (xU 2 rfl) rfl (gV 16 rfl) (by rfl) (by rfl) (by rfl) (by rfl) rfl,tV [(0,_),(2,_),(3,_),(4,_)] [(13,.var _),(3,.var _),(2,.var _)] 65 rfl rfl rfl ?_⟩⟩⟩⟩)
   refine W.seq ?_
   by_cases hs1 : 0 < r.length
   · by_cases hs2 : (r[0]! == 0) = true
     · refine W.l0 16 [.y 18 _,.y 19 _,.y 20 _,.y 21 _,.y 22 _,.y 23 _,.y 24 _,.y 25 _,.y 26 _,.y 27 _,.y 28 _,.y 29 _,.y 30 _,.y 31 _,.y 32 _,.y 5 _] [] [] [(0,_),(2,_),(3,_),(4,_),(5,_)] [(13,.var _),(3,.var _),(2,.var _)] 65 ⟨mU 4 rfl rfl,aU fun _ _ H K => R.nilcP (K 18 _ rfl) H,aU (fU 19 rfl rfl),aU (lU 20 rfl rfl rfl rfl rfl rfl rfl),aU fun _ _ H K => R.lenE (SC.sl (K 21 _ rfl)) (List.length_map _) H,aU fun _ _ H K => R.gtrN (r.length) (0) (eU K 22 rfl) (kI 0 rfl) H,mU 23 rfl rfl,aW rfl rfl (gT (decide_eq_true hs1) rfl) fun _ _ H K => R.mov (eU K 4 rfl) rfl H,aW rfl rfl (gT (decide_eq_true hs1) rfl) fun _ _ H K => R.nilcP (K 25 _ rfl) H,aW rfl rfl (gT (decide_eq_true hs1) rfl) (fU 26 rfl rfl),aW rfl rfl (gT (decide_eq_true hs1) rfl) (lU 27 rfl rfl rfl rfl rfl rfl rfl),aW rfl rfl (gT (decide_eq_true hs1) rfl) fun _ _ H K => R.idxN (0) (SC.sl (K 28 _ rfl)) (evoI (kI 0 rfl)) rfl bU H (by decide),aW rfl rfl (gT (decide_eq_true hs1) rfl) fun _ _ H K => R.ldE (K 29 _ rfl) (SC.sl (K 28 _ rfl)) (map_get! (l := r) bU) rfl rfl rfl rfl H,aW rfl rfl (gT (decide_eq_true hs1) rfl) fun _ _ H K => R.bin (eU K 30 rfl) (show ev _ _ (.const (.int .u8 0)) = some (.u8 0) from rfl) rfl trivial H,aU fun _ _ H K => R.pickT (eU K 24 rfl) (decide_eq_true hs1) (eU K 31 rfl) rfl H,aU fun _ _ H K => R.asg (eU K 32 rfl) rfl H,trivial⟩ rfl rfl rfl rfl (tU rfl ?_)
       refine W.seq ?_
       refine W.seq ?_
       refine W.l0 1 [.y 33 _] [] [] [(0,_),(2,_),(3,_),(4,_),(5,_),(33,_)] [(13,.var _),(3,.var _),(2,.var _)] 65 ⟨mU 5 rfl rfl,trivial⟩ rfl rfl rfl rfl (tU rfl ?_)
       refine W.condT rfl (hs2) ?_
       rcases hE2 : takeO r 2 with _ | ⟨u,r1⟩
       · refine W.lineX (n := 2) (by decide) (its := [.y 34 _]) (ks := []) (kk := []) (live := [0,2,3,4,5,34]) (env' := [(0,_),(2,_),(3,_),(4,_),(5,_),(34,_)]) (⟨nU rfl,rfl,⟨mU 4 rfl rfl,trivial⟩,rfl,rfl,rfl⟩) rfl (bx' := [(13,.var _),(3,.var _),(2,.var _)]) rfl (n' := 65) rfl (⟨rfl,.inr (R.callXk [(0,13)] hC (FnO.none' (rtake_ok r (by omega) 2 (by omega)) (by rw [hE2]; rfl)) (EvB.cons (gV 34 rfl) rfl rfl rfl (EvB.cons (kI 2 rfl) rfl rfl rfl EvB.nil)) rfl ⟨rfl,trivial⟩ ⟨rfl,trivial⟩ rfl (fun e he => ?_))⟩)
         obtain ⟨ch,rfl,hch⟩ := he
         intro a w hs
         show bodyPostD _ _ _ _ _ _
         rw [gt_none hc8 (go_2 hE (pre_n (sn_t hs1 hs2) hE2))]
         exact endDP (z2 := #[.int .u32 0,.slice none 0 0,.slice none 0 0,.int .u32 0]) (z3 := #[.int .i64 5]) (r2 := .agg [.u32 0,.nils,.nils,.u32 0]) hC1 hdf hkp (by decide) (hb23 (by decide)) rfl inferInstance (fun w ch hch cs2 cs3 e2 e3 q2 s2 q3 s3 => get1P b2 b3 w hch (hb23 (by decide)) q2 s2 q3 s3) ⟨ch,rfl,hch⟩ rfl rfl rfl rfl rfl rfl rfl rfl rfl rfl rfl rfl rfl rfl wk_zero rfl hs
       have hr1 := takeO_len hE2
       refine W.l0 2 [.y 34 _] [] [] [(0,_),(2,_),(3,_),(4,_),(5,_),(34,_)] [(13,.var _),(3,.var _),(2,.var _)] 65 ⟨mU 4 rfl rfl,trivial⟩ rfl rfl rfl rfl (⟨rfl,_,R.callB [(0,13)] hC (FnO.some' (r := .sl none 1 (u.map D.u8)) (bx' := [(0,.var (.agg [.sl none 1 (r1.map D.u8)]))]) (nw := []) (rtake_ok r (by omega) 2 (by omega)) (by rw [hE2]; rfl)) (EvB.cons (gV 34 rfl) rfl rfl rfl (EvB.cons (kI 2 rfl) rfl rfl rfl EvB.nil)) rfl ⟨rfl,trivial⟩ ⟨rfl,trivial⟩ rfl rfl rfl rfl rfl rfl (nU rfl),tV [(0,_),(2,_),(3,_),(4,_),(5,_)] [(13,.var _),(3,.var _),(2,.var _)] 65 rfl rfl rfl ?_⟩)
       refine W.seq ?_
       rcases hE3 : bodyO r1 with _ | ⟨⟨ins,outs⟩,r2⟩
       · refine W.asOwnP 2 [1] 56 36 (bx' := [(13,.var _),(3,.var _),(2,.var _)]) rfl rfl rfl rfl rfl ?_
         refine W.asOwnP 2 [2] 46 2 (bx' := [(13,.var _),(3,.var _),(2,.var _)]) rfl rfl rfl rfl rfl ?_
         refine W.lineX (n := 2) (by decide) (its := [.y 36 _]) (ks := []) (kk := []) (live := [0,2,3,4,5,36]) (env' := [(0,_),(2,_),(3,_),(4,_),(5,_),(36,_)]) (⟨nU rfl,rfl,⟨mU 4 rfl rfl,trivial⟩,rfl,rfl,rfl⟩) rfl (bx' := [(13,.var _),(3,.var _),(2,.var _)]) rfl (n' := 65) rfl (⟨rfl,.inr (R.callXk [(0,13),(1,2)] hC (FnO.none' (rbody_ok r1 (by omega) x.toUInt32 0) (by rw [hE3]; rfl)) (EvB.cons (gV 36 rfl) rfl rfl rfl (EvB.cons (gV 2 rfl) rfl rfl rfl EvB.nil)) rfl ⟨rfl,⟨rfl,trivial⟩⟩ ⟨rfl,⟨rfl,trivial⟩⟩ rfl (fun e he => ?_))⟩)
         obtain ⟨ch,rfl,hch⟩ := he
         intro a w hs
         show bodyPostD _ _ _ _ _ _
         rw [gt_none hc8 (go_3 hE (pre_s (sn_t hs1 hs2) hE2) hE3)]
         exact endDP (z2 := #[.int .u32 0,.slice none 0 0,.slice none 0 0,.int .u32 0]) (z3 := #[.int .i64 5]) (r2 := .agg [.u32 0,.nils,.nils,.u32 0]) hC1 hdf hkp (by decide) (hb23 (by decide)) rfl inferInstance (fun w ch hch cs2 cs3 e2 e3 q2 s2 q3 s3 => get1P b2 b3 w hch (hb23 (by decide)) q2 s2 q3 s3) ⟨ch,rfl,hch⟩ rfl rfl rfl rfl rfl rfl rfl rfl rfl rfl rfl rfl rfl rfl wk_zero rfl hs
       have hbs := bodyO_sz hE3 (by omega)
       have hil := szI_len ins
       refine W.asOwnP 2 [1] 56 36 (bx' := [(13,.var _),(3,.var _),(2,.var _)]) rfl rfl rfl rfl rfl ?_
       refine W.asOwnP 2 [2] 46 2 (bx' := [(13,.var _),(3,.var _),(2,.var _)]) rfl rfl rfl rfl rfl ?_
       refine W.l0 2 [.y 36 _] [] [] [(0,_),(2,_),(3,_),(4,_),(5,_),(36,_)] [(13,.var _),(3,.var _),(2,.var _)] 65 ⟨mU 4 rfl rfl,trivial⟩ rfl rfl rfl rfl (⟨rfl,_,R.callB [(0,13),(1,2)] hC (FnO.some' (r := .tup []) (bx' := [(0,.var (.agg [.sl none 1 (r2.map D.u8)])),(1,.var (.agg [.u32 x.toUInt32,.sl (some 56) 36 (ins.map inN),.sl (some 46) 2 (outs.map outD),.u32 0]))]) (nw := []) (rbody_ok r1 (by omega) x.toUInt32 0) (by rw [hE3]; rfl)) (EvB.cons (gV 36 rfl) rfl rfl rfl (EvB.cons (gV 2 rfl) rfl rfl rfl EvB.nil)) rfl ⟨rfl,⟨rfl,trivial⟩⟩ ⟨rfl,⟨rfl,trivial⟩⟩ rfl rfl rfl rfl rfl rfl (nU rfl),tV [(0,_),(2,_),(3,_),(4,_),(5,_)] [(13,.var _),(3,.var _),(2,.var _)] 65 rfl rfl rfl ?_⟩)
       refine W.seq ?_
       refine W.seq ?_
       refine W.l0 1 [.y 38 _] [] [] [(0,_),(2,_),(3,_),(4,_),(38,_)] [(13,.var _),(3,.var _),(2,.var _)] 65 ⟨mU 5 rfl rfl,trivial⟩ rfl rfl rfl rfl (tU rfl ?_)
       refine W.condT rfl (hs2) ?_
       rcases hE4 : witsO ins r2 with _ | ⟨l,r3⟩
       · refine W.lineX (n := 2) (by decide) (its := [.y 39 _]) (ks := []) (kk := []) (live := [0,2,3,4,39]) (env' := [(0,_),(2,_),(3,_),(4,_),(39,_)]) (⟨nU rfl,rfl,⟨mU 4 rfl rfl,trivial⟩,rfl,rfl,rfl⟩) rfl (bx' := [(13,.var _),(3,.var _),(2,.var _)]) rfl (n' := 65) rfl (⟨rfl,.inr (R.callXk [(0,13),(1,2)] hC (FnO.none' (rwits r2 (by omega) x.toUInt32 0 ins outs (by omega)) (by rw [hE4]; rfl)) (EvB.cons (gV 39 rfl) rfl rfl rfl (EvB.cons (gV 2 rfl) rfl rfl rfl EvB.nil)) rfl ⟨rfl,⟨rfl,trivial⟩⟩ ⟨rfl,⟨rfl,trivial⟩⟩ rfl (fun e he => ?_))⟩)
         obtain ⟨ch,rfl,hch⟩ := he
         intro a w hs
         show bodyPostD _ _ _ _ _ _
         rw [gt_none hc8 (go_4 hE (pre_s (sn_t hs1 hs2) hE2) hE3 ((wq_t (sn_t hs1 hs2)).trans hE4))]
         exact endDP (z2 := #[.int .u32 0,.slice none 0 0,.slice none 0 0,.int .u32 0]) (z3 := #[.int .i64 5]) (r2 := .agg [.u32 0,.nils,.nils,.u32 0]) hC1 hdf hkp (by decide) (hb23 (by decide)) rfl inferInstance (fun w ch hch cs2 cs3 e2 e3 q2 s2 q3 s3 => get1P b2 b3 w hch (hb23 (by decide)) q2 s2 q3 s3) ⟨ch,rfl,hch⟩ rfl rfl rfl rfl rfl rfl rfl rfl rfl rfl rfl rfl rfl rfl wk_zero rfl hs
       have hws := witsO_sz hE4 (by omega) hbs.1
       refine W.l0 2 [.y 39 _] [] [] [(0,_),(2,_),(3,_),(4,_),(39,_)] [(13,.var _),(3,.var _),(2,.var _)] 65 ⟨mU 4 rfl rfl,trivial⟩ rfl rfl rfl rfl (⟨rfl,_,R.callB [(0,13),(1,2)] hC (FnO.some' (r := .tup []) (bx' := [(0,.var (.agg [.sl none 1 (r3.map D.u8)])),(1,.var (.agg [.u32 x.toUInt32,.sl none 36 (l.map inD),.sl none 2 (outs.map outD),.u32 0]))]) (nw := []) (rwits r2 (by omega) x.toUInt32 0 ins outs (by omega)) (by rw [hE4]; rfl)) (EvB.cons (gV 39 rfl) rfl rfl rfl (EvB.cons (gV 2 rfl) rfl rfl rfl EvB.nil)) rfl ⟨rfl,⟨rfl,trivial⟩⟩ ⟨rfl,⟨rfl,trivial⟩⟩ rfl rfl rfl rfl rfl rfl (nU rfl),tV [(0,_),(2,_),(3,_),(4,_)] [(13,.var _),(3,.var _),(2,.var _)] 65 rfl rfl rfl ?_⟩)
       refine W.seq ?_
       rcases hE5 : numO r3 4 with _ | ⟨k,r4⟩
       · refine W.lineX (n := 5) (by decide) (its := [.y 41 _]) (ks := []) (kk := []) (live := [0,2,3,4,41]) (env' := [(0,_),(2,_),(3,_),(4,_),(41,_)]) (⟨nU rfl,rfl,⟨mU 4 rfl rfl,trivial⟩,rfl,rfl,rfl⟩) rfl (bx' := [(13,.var _),(3,.var _),(2,.var _)]) rfl (n' := 65) rfl (⟨rfl,.inr (R.callXk [(0,13)] hC (FnO.none' (rnumber_ok r3 (by omega) 4 (by decide)) (by rw [hE5]; rfl)) (EvB.cons (gV 41 rfl) rfl rfl rfl (EvB.cons (kI 4 rfl) rfl rfl rfl EvB.nil)) rfl ⟨rfl,trivial⟩ ⟨rfl,trivial⟩ rfl (fun e he => ?_))⟩)
         obtain ⟨ch,rfl,hch⟩ := he
         intro a w hs
         show bodyPostD _ _ _ _ _ _
         rw [gt_none hc8 (go_5 hE (pre_s (sn_t hs1 hs2) hE2) hE3 ((wq_t (sn_t hs1 hs2)).trans hE4) hE5)]
         exact endDP (z2 := #[.int .u32 0,.slice none 0 0,.slice none 0 0,.int .u32 0]) (z3 := #[.int .i64 5]) (r2 := .agg [.u32 0,.nils,.nils,.u32 0]) hC1 hdf hkp (by decide) (hb23 (by decide)) rfl inferInstance (fun w ch hch cs2 cs3 e2 e3 q2 s2 q3 s3 => get1P b2 b3 w hch (hb23 (by decide)) q2 s2 q3 s3) ⟨ch,rfl,hch⟩ rfl rfl rfl rfl rfl rfl rfl rfl rfl rfl rfl rfl rfl rfl wk_zero rfl hs
       refine W.l0 5 [.y 41 _] [] [] [(0,_),(2,_),(3,_),(4,_),(41,_)] [(13,.var _),(3,.var _),(2,.var _)] 65 ⟨mU 4 rfl rfl,trivial⟩ rfl rfl rfl rfl (⟨rfl,_,R.callB [(0,13)] hC (FnO.some' (r := .u64 k) (bx' := [(0,.var (.agg [.sl none 1 (r4.map D.u8)]))]) (nw := []) (rnumber_ok r3 (by omega) 4 (by decide)) (by rw [hE5]; rfl)) (EvB.cons (gV 41 rfl) rfl rfl rfl (EvB.cons (kI 4 rfl) rfl rfl rfl EvB.nil)) rfl ⟨rfl,trivial⟩ ⟨rfl,trivial⟩ rfl rfl rfl rfl rfl rfl (nU rfl),⟨rfl,_,R.conv (gV 42 rfl) rfl (nU rfl),⟨rfl,_,R.fdP (gU 2 rfl) (nU rfl),⟨rfl,_,R.stZ (gU 44 rfl) (xU 2 rfl) rfl (gV 43 rfl) (by rfl) (by rfl) (by rfl) (by rfl) rfl,tV [(0,_),(2,_),(3,_),(4,_)] [(13,.var _),(3,.var _),(2,.var _)] 65 rfl rfl rfl ?_⟩⟩⟩⟩)
       refine W.seq ?_
       refine W.seq ?_
       by_cases d1 : 0 < r4.length
       · have hwf : ((⟨x.toUInt32,l,outs,k.toUInt32⟩ : TxS)).wf := get_wf (by omega) (pre_s (sn_t hs1 hs2) hE2) hE3 ((wq_t (sn_t hs1 hs2)).trans hE4)
         refine W.l0 18 [.y 45 _,.y 46 _,.y 47 _,.y 48 _,.y 49 _,.y 50 _,.y 51 _,.x 52,.x 53,.x 54,.y 55 _,.y 56 _,.x 57,.x 58,.x 59,.x 60,.x 61,.y 62 _] [] [] [(2,_),(3,_),(62,_)] [(13,.var _),(3,.var _),(2,.var _)] 65 ⟨mU 4 rfl rfl,aU fun _ _ H K => R.nilcP (K 45 _ rfl) H,aU (fU 46 rfl rfl),aU (lU 47 rfl rfl rfl rfl rfl rfl rfl),aU fun _ _ H K => R.lenE (SC.sl (K 48 _ rfl)) (List.length_map _) H,aU fun _ _ H K => R.gtrN (r4.length) (0) (eU K 49 rfl) (kI 0 rfl) H,mU 50 rfl rfl,aF rfl rfl (gT (decide_eq_true d1) rfl),aF rfl rfl (gT (decide_eq_true d1) rfl),aF rfl rfl (gT (decide_eq_true d1) rfl),aU fun _ _ H K => R.pickT (eU K 51 rfl) (decide_eq_true d1) (kB true rfl) rfl H,mU 55 rfl rfl,aF rfl rfl (gT (rfl) rfl),aF rfl rfl (gT (rfl) rfl),aF rfl rfl (gT (rfl) rfl),aF rfl rfl (gT (rfl) rfl),aF rfl rfl (gT (rfl) rfl),aU fun _ _ H K => R.pickT (eU K 56 rfl) (rfl) (kB true rfl) rfl H,trivial⟩ rfl rfl rfl rfl (tU rfl ?_)
         refine W.condT rfl (rfl) ?_
         refine W.lineX (n := 2) (by decide) (its := [.y 63 _]) (ks := []) (kk := []) (live := [2,3,63]) (env' := [(2,_),(3,_),(63,_)]) (⟨nU rfl,rfl,⟨aU fun _ _ H _ => R.mkifc (kI 5 rfl) rfl rfl H,trivial⟩,rfl,rfl,rfl⟩) rfl (bx' := [(13,.var _),(3,.var _),(2,.var _)]) rfl (n' := 65) rfl (⟨rfl,.inr (R.panic (gU 63 rfl) (fun e he => ?_))⟩)
         obtain ⟨ch,rfl,hch⟩ := he
         intro a w hs
         show bodyPostD _ _ _ _ _ _
         rw [gt_none hc8 (by rw [go_6 hE (pre_s (sn_t hs1 hs2) hE2) hE3 ((wq_t (sn_t hs1 hs2)).trans hE4) hE5]; first | exact fin_1 d1 | exact fin_2 d2 | exact fin_3 hc62)]
         exact endDP (z2 := #[.int .u32 0,.slice none 0 0,.slice none 0 0,.int .u32 0]) (z3 := #[.int .i64 5]) (r2 := .agg [.u32 0,.nils,.nils,.u32 0]) hC1 hdf hkp (by decide) (hb23 (by decide)) rfl inferInstance (fun w ch hch cs2 cs3 e2 e3 q2 s2 q3 s3 => get1P b2 b3 w hch (hb23 (by decide)) q2 s2 q3 s3) ⟨ch,rfl,hch⟩ rfl rfl rfl rfl rfl rfl rfl rfl rfl rfl rfl rfl rfl rfl wk_zero rfl hs
       · by_cases d2 : mayS (⟨x.toUInt32,l,outs,k.toUInt32⟩ : TxS) = false
         · have hwf : ((⟨x.toUInt32,l,outs,k.toUInt32⟩ : TxS)).wf := get_wf (by omega) (pre_s (sn_t hs1 hs2) hE2) hE3 ((wq_t (sn_t hs1 hs2)).trans hE4)
           refine W.l0 18 [.y 45 _,.y 46 _,.y 47 _,.y 48 _,.y 49 _,.y 50 _,.y 51 _,.y 52 _,.y 53 _,.y 54 _,.y 55 _,.y 56 _,.x 57,.x 58,.x 59,.x 60,.x 61,.y 62 _] [] [] [(2,_),(3,_),(62,_)] [(13,.var _),(3,.var _),(2,.var _)] 65 ⟨mU 4 rfl rfl,aU fun _ _ H K => R.nilcP (K 45 _ rfl) H,aU (fU 46 rfl rfl),aU (lU 47 rfl rfl rfl rfl rfl rfl rfl),aU fun _ _ H K => R.lenE (SC.sl (K 48 _ rfl)) (List.length_map _) H,aU fun _ _ H K => R.gtrN (r4.length) (0) (eU K 49 rfl) (kI 0 rfl) H,mU 50 rfl rfl,aW rfl rfl (gF (decide_eq_false d1) rfl) (lU 2 rfl rfl rfl rfl rfl rfl rfl),aW rfl rfl (gF (decide_eq_false d1) rfl) fun _ _ H K => R.callG hC (may_ok (⟨x.toUInt32,l,outs,k.toUInt32⟩ : TxS) hwf) (Bors.cons (Bor.pur (eU K 52 rfl) rfl rfl) Bors.nil) (FrsR.one (.bool _)) H,aW rfl rfl (gF (decide_eq_false d1) rfl) fun _ _ H K => R.un (eU K 53 rfl) rfl H,aU fun _ _ H K => R.pickF (eU K 51 rfl) (decide_eq_false d1) (eU K 54 rfl) rfl H,mU 55 rfl rfl,aF rfl rfl (gT (by rw [d2]; rfl) rfl),aF rfl rfl (gT (by rw [d2]; rfl) rfl),aF rfl rfl (gT (by rw [d2]; rfl) rfl),aF rfl rfl (gT (by rw [d2]; rfl) rfl),aF rfl rfl (gT (by rw [d2]; rfl) rfl),aU fun _ _ H K => R.pickT (eU K 56 rfl) (by rw [d2]; rfl) (kB true rfl) rfl H,trivial⟩ rfl rfl rfl rfl (tU rfl ?_)
           refine W.condT rfl (rfl) ?_
           refine W.lineX (n := 2) (by decide) (its := [.y 63 _]) (ks := []) (kk := []) (live := [2,3,63]) (env' := [(2,_),(3,_),(63,_)]) (⟨nU rfl,rfl,⟨aU fun _ _ H _ => R.mkifc (kI 5 rfl) rfl rfl H,trivial⟩,rfl,rfl,rfl⟩) rfl (bx' := [(13,.var _),(3,.var _),(2,.var _)]) rfl (n' := 65) rfl (⟨rfl,.inr (R.panic (gU 63 rfl) (fun e he => ?_))⟩)
           obtain ⟨ch,rfl,hch⟩ := he
           intro a w hs
           show bodyPostD _ _ _ _ _ _
           rw [gt_none hc8 (by rw [go_6 hE (pre_s (sn_t hs1 hs2) hE2) hE3 ((wq_t (sn_t hs1 hs2)).trans hE4) hE5]; first | exact fin_1 d1 | exact fin_2 d2 | exact fin_3 hc62)]
           exact endDP (z2 := #[.int .u32 0,.slice none 0 0,.slice none 0 0,.int .u32 0]) (z3 := #[.int .i64 5]) (r2 := .agg [.u32 0,.nils,.nils,.u32 0]) hC1 hdf hkp (by decide) (hb23 (by decide)) rfl inferInstance (fun w ch hch cs2 cs3 e2 e3 q2 s2 q3 s3 => get1P b2 b3 w hch (hb23 (by decide)) q2 s2 q3 s3) ⟨ch,rfl,hch⟩ rfl rfl rfl rfl rfl rfl rfl rfl rfl rfl rfl rfl rfl rfl wk_zero rfl hs
         · have hwf : ((⟨x.toUInt32,l,outs,k.toUInt32⟩ : TxS)).wf := get_wf (by omega) (pre_s (sn_t hs1 hs2) hE2) hE3 ((wq_t (sn_t hs1 hs2)).trans hE4)
           refine W.l0 18 [.y 45 _,.y 46 _,.y 47 _,.y 48 _,.y 49 _,.y 50 _,.y 51 _,.y 52 _,.y 53 _,.y 54 _,.y 55 _,.y 56 _,.y 57 _,.y 58 _,.y 59 _,.y 60 _,.y 61 _,.y 62 _] [] [] [(2,_),(3,_),(62,_)] [(13,.var _),(3,.var _),(2,.var _)] 65 ⟨mU 4 rfl rfl,aU fun _ _ H K => R.nilcP (K 45 _ rfl) H,aU (fU 46 rfl rfl),aU (lU 47 rfl rfl rfl rfl rfl rfl rfl),aU fun _ _ H K => R.lenE (SC.sl (K 48 _ rfl)) (List.length_map _) H,aU fun _ _ H K => R.gtrN (r4.length) (0) (eU K 49 rfl) (kI 0 rfl) H,mU 50 rfl rfl,aW rfl rfl (gF (decide_eq_false d1) rfl) (lU 2 rfl rfl rfl rfl rfl rfl rfl),aW rfl rfl (gF (decide_eq_false d1) rfl) fun _ _ H K => R.callG hC (may_ok (⟨x.toUInt32,l,outs,k.toUInt32⟩ : TxS) hwf) (Bors.cons (Bor.pur (eU K 52 rfl) rfl rfl) Bors.nil) (FrsR.one (.bool _)) H,aW rfl rfl (gF (decide_eq_false d1) rfl) fun _ _ H K => R.un (eU K 53 rfl) rfl H,aU fun _ _ H K => R.pickF (eU K 51 rfl) (decide_eq_false d1) (eU K 54 rfl) rfl H,mU 55 rfl rfl,aW rfl rfl (gF (by simpa using d2) rfl) (lU 2 rfl rfl rfl rfl rfl rfl rfl),aW rfl rfl (gF (by simpa using d2) rfl) fun _ _ H K => R.callG hC (put_ok (⟨x.toUInt32,l,outs,k.toUInt32⟩ : TxS) hwf) (Bors.cons (Bor.pur (eU K 57 rfl) rfl rfl) Bors.nil) (FrsR.one (.sl _ _ _ (frs_map fun _ => .u8 _))) H,aW rfl rfl (gF (by simpa using d2) rfl) fun _ _ H K => R.mov (eU K 0 rfl) rfl H,aW rfl rfl (gF (by simpa using d2) rfl) fun _ _ H K => R.callG hC (beq_ok (putS (⟨x.toUInt32,l,outs,k.toUInt32⟩ : TxS)) b) (Bors.cons (Bor.sc (SC.sl (K 58 _ rfl)) (brw_map (fun _ => rfl))) (Bors.cons (Bor.pur (eU K 59 rfl) rfl rfl) Bors.nil)) (FrsR.one (.bool _)) H,aW rfl rfl (gF (by simpa using d2) rfl) fun _ _ H K => R.un (eU K 60 rfl) rfl H,aU fun _ _ H K => R.pickF (eU K 56 rfl) (by simpa using d2) (eU K 61 rfl) rfl H,trivial⟩ rfl rfl rfl rfl (tU rfl ?_)
           refine W.cond rfl (fun hc62 => ?_) (fun hc62 => ?_)
           · refine W.lineX (n := 2) (by decide) (its := [.y 63 _]) (ks := []) (kk := []) (live := [2,3,63]) (env' := [(2,_),(3,_),(63,_)]) (⟨nU rfl,rfl,⟨aU fun _ _ H _ => R.mkifc (kI 5 rfl) rfl rfl H,trivial⟩,rfl,rfl,rfl⟩) rfl (bx' := [(13,.var _),(3,.var _),(2,.var _)]) rfl (n' := 65) rfl (⟨rfl,.inr (R.panic (gU 63 rfl) (fun e he => ?_))⟩)
             obtain ⟨ch,rfl,hch⟩ := he
             intro a w hs
             show bodyPostD _ _ _ _ _ _
             rw [gt_none hc8 (by rw [go_6 hE (pre_s (sn_t hs1 hs2) hE2) hE3 ((wq_t (sn_t hs1 hs2)).trans hE4) hE5]; first | exact fin_1 d1 | exact fin_2 d2 | exact fin_3 hc62)]
             exact endDP (z2 := #[.int .u32 0,.slice none 0 0,.slice none 0 0,.int .u32 0]) (z3 := #[.int .i64 5]) (r2 := .agg [.u32 0,.nils,.nils,.u32 0]) hC1 hdf hkp (by decide) (hb23 (by decide)) rfl inferInstance (fun w ch hch cs2 cs3 e2 e3 q2 s2 q3 s3 => get1P b2 b3 w hch (hb23 (by decide)) q2 s2 q3 s3) ⟨ch,rfl,hch⟩ rfl rfl rfl rfl rfl rfl rfl rfl rfl rfl rfl rfl rfl rfl wk_zero rfl hs
           · refine W.skip ?_
             refine W.seq ?_
             refine W.l0 3 [.y 64 _] [] [] [(2,_),(3,_),(64,_)] [(13,.var _),(3,.var _),(2,.var _)] 65 ⟨aU (lU 2 rfl rfl rfl rfl rfl rfl rfl),trivial⟩ rfl rfl rfl rfl (⟨rfl,_,R.stZ (gU 2 rfl) (xU 2 rfl) rfl (gV 64 rfl) (by rfl) (by rfl) (by rfl) (by rfl) rfl,⟨rfl,_,R.stZ (gU 3 rfl) (xU 3 rfl) rfl (kI 0 rfl) (by rfl) (by rfl) (by rfl) (by rfl) rfl,tV [(2,_),(3,_)] [(13,.var _),(3,.var _),(2,.var _)] 65 rfl rfl rfl ?_⟩⟩)
             refine W.ret ?_
             intro a w hs
             show bodyPostD _ _ _ _ _ _
             rw [gt_some hc8 (by rw [go_6 hE (pre_s (sn_t hs1 hs2) hE2) hE3 ((wq_t (sn_t hs1 hs2)).trans hE4) hE5]; exact fin_s d1 (by simpa using d2) hc62)]
             exact endD hC1 hdf hkp (by decide) rfl inferInstance (get1R b2 b3) (.inr rfl) rfl rfl rfl rfl rfl rfl rfl rfl rfl rfl rfl rfl hs
     · refine W.l0 16 [.y 18 _,.y 19 _,.y 20 _,.y 21 _,.y 22 _,.y 23 _,.y 24 _,.y 25 _,.y 26 _,.y 27 _,.y 28 _,.y 29 _,.y 30 _,.y 31 _,.y 32 _,.y 5 _] [] [] [(0,_),(2,_),(3,_),(4,_),(5,_)] [(13,.var _),(3,.var _),(2,.var _)] 65 ⟨mU 4 rfl rfl,aU fun _ _ H K => R.nilcP (K 18 _ rfl) H,aU (fU 19 rfl rfl),aU (lU 20 rfl rfl rfl rfl rfl rfl rfl),aU fun _ _ H K => R.lenE (SC.sl (K 21 _ rfl)) (List.length_map _) H,aU fun _ _ H K => R.gtrN (r.length) (0) (eU K 22 rfl) (kI 0 rfl) H,mU 23 rfl rfl,aW rfl rfl (gT (decide_eq_true hs1) rfl) fun _ _ H K => R.mov (eU K 4 rfl) rfl H,aW rfl rfl (gT (decide_eq_true hs1) rfl) fun _ _ H K => R.nilcP (K 25 _ rfl) H,aW rfl rfl (gT (decide_eq_true hs1) rfl) (fU 26 rfl rfl),aW rfl rfl (gT (decide_eq_true hs1) rfl) (lU 27 rfl rfl rfl rfl rfl rfl rfl),aW rfl rfl (gT (decide_eq_true hs1) rfl) fun _ _ H K => R.idxN (0) (SC.sl (K 28 _ rfl)) (evoI (kI 0 rfl)) rfl bU H (by decide),aW rfl rfl (gT (decide_eq_true hs1) rfl) fun _ _ H K => R.ldE (K 29 _ rfl) (SC.sl (K 28 _ rfl)) (map_get! (l := r) bU) rfl rfl rfl rfl H,aW rfl rfl (gT (decide_eq_true hs1) rfl) fun _ _ H K => R.bin (eU K 30 rfl) (show ev _ _ (.const (.int .u8 0)) = some (.u8 0) from rfl) rfl trivial H,aU fun _ _ H K => R.pickT (eU K 24 rfl) (decide_eq_true hs1) (eU K 31 rfl) rfl H,aU fun _ _ H K => R.asg (eU K 32 rfl) rfl H,trivial⟩ rfl rfl rfl rfl (tU rfl ?_)
       refine W.seq ?_
       refine W.seq ?_
       refine W.l0 1 [.y 33 _] [] [] [(0,_),(2,_),(3,_),(4,_),(5,_),(33,_)] [(13,.var _),(3,.var _),(2,.var _)] 65 ⟨mU 5 rfl rfl,trivial⟩ rfl rfl rfl rfl (tU rfl ?_)
       refine W.condF rfl (by simpa using hs2) ?_
       refine W.skip ?_
       refine W.seq ?_
       rcases hE3 : bodyO r with _ | ⟨⟨ins,outs⟩,r2⟩
       · refine W.asOwnP 2 [1] 56 36 (bx' := [(13,.var _),(3,.var _),(2,.var _)]) rfl rfl rfl rfl rfl ?_
         refine W.asOwnP 2 [2] 46 2 (bx' := [(13,.var _),(3,.var _),(2,.var _)]) rfl rfl rfl rfl rfl ?_
         refine W.lineX (n := 2) (by decide) (its := [.y 36 _]) (ks := []) (kk := []) (live := [0,2,3,4,5,36]) (env' := [(0,_),(2,_),(3,_),(4,_),(5,_),(36,_)]) (⟨nU rfl,rfl,⟨mU 4 rfl rfl,trivial⟩,rfl,rfl,rfl⟩) rfl (bx' := [(13,.var _),(3,.var _),(2,.var _)]) rfl (n' := 65) rfl (⟨rfl,.inr (R.callXk [(0,13),(1,2)] hC (FnO.none' (rbody_ok r (by omega) x.toUInt32 0) (by rw [hE3]; rfl)) (EvB.cons (gV 36 rfl) rfl rfl rfl (EvB.cons (gV 2 rfl) rfl rfl rfl EvB.nil)) rfl ⟨rfl,⟨rfl,trivial⟩⟩ ⟨rfl,⟨rfl,trivial⟩⟩ rfl (fun e he => ?_))⟩)
         obtain ⟨ch,rfl,hch⟩ := he
         intro a w hs
         show bodyPostD _ _ _ _ _ _
         rw [gt_none hc8 (go_3 hE (pre_0 (sn_f2 hs2)) hE3)]
         exact endDP (z2 := #[.int .u32 0,.slice none 0 0,.slice none 0 0,.int .u32 0]) (z3 := #[.int .i64 5]) (r2 := .agg [.u32 0,.nils,.nils,.u32 0]) hC1 hdf hkp (by decide) (hb23 (by decide)) rfl inferInstance (fun w ch hch cs2 cs3 e2 e3 q2 s2 q3 s3 => get1P b2 b3 w hch (hb23 (by decide)) q2 s2 q3 s3) ⟨ch,rfl,hch⟩ rfl rfl rfl rfl rfl rfl rfl rfl rfl rfl rfl rfl rfl rfl wk_zero rfl hs
       have hbs := bodyO_sz hE3 (by omega)
       have hil := szI_len ins
       refine W.asOwnP 2 [1] 56 36 (bx' := [(13,.var _),(3,.var _),(2,.var _)]) rfl rfl rfl rfl rfl ?_
       refine W.asOwnP 2 [2] 46 2 (bx' := [(13,.var _),(3,.var _),(2,.var _)]) rfl rfl rfl rfl rfl ?_
       refine W.l0 2 [.y 36 _] [] [] [(0,_),(2,_),(3,_),(4,_),(5,_),(36,_)] [(13,.var _),(3,.var _),(2,.var _)] 65 ⟨mU 4 rfl rfl,trivial⟩ rfl rfl rfl rfl (⟨rfl,_,R.callB [(0,13),(1,2)] hC (FnO.some' (r := .tup []) (bx' := [(0,.var (.agg [.sl none 1 (r2.map D.u8)])),(1,.var (.agg [.u32 x.toUInt32,.sl (some 56) 36 (ins.map inN),.sl (some 46) 2 (outs.map outD),.u32 0]))]) (nw := []) (rbody_ok r (by omega) x.toUInt32 0) (by rw [hE3]; rfl)) (EvB.cons (gV 36 rfl) rfl rfl rfl (EvB.cons (gV 2 rfl) rfl rfl rfl EvB.nil)) rfl ⟨rfl,⟨rfl,trivial⟩⟩ ⟨rfl,⟨rfl,trivial⟩⟩ rfl rfl rfl rfl rfl rfl (nU rfl),tV [(0,_),(2,_),(3,_),(4,_),(5,_)] [(13,.var _),(3,.var _),(2,.var _)] 65 rfl rfl rfl ?_⟩)
       refine W.seq ?_
       refine W.seq ?_
       refine W.l0 1 [.y 38 _] [] [] [(0,_),(2,_),(3,_),(4,_),(38,_)] [(13,.var _),(3,.var _),(2,.var _)] 65 ⟨mU 5 rfl rfl,trivial⟩ rfl rfl rfl rfl (tU rfl ?_)
       refine W.condF rfl (by simpa using hs2) ?_
       refine W.skip ?_
       refine W.seq ?_
       rcases hE5 : numO r2 4 with _ | ⟨k,r4⟩
       · refine W.brwB 2 (d' := .agg [.u32 x.toUInt32,.sl none 36 (ins.map inN),.sl none 2 (outs.map outD),.u32 0]) (bx' := [(13,.var _),(3,.var _),(2,.var _)]) rfl (show (.agg [.u32 x.toUInt32,.sl (some 56) 36 (ins.map inN),.sl (some 46) 2 (outs.map outD),.u32 0] : D).brw = _ from by simp only [D.brw,brws_eq,List.map_cons,List.map_nil]; rw [brw_map brw_inN,brw_map brw_outD]) rfl ?_
         refine W.wkB 2 (d' := .agg [.u32 x.toUInt32,.sl none 36 (ins.map inD),.sl none 2 (outs.map outD),.u32 0]) (bx' := [(13,.var _),(3,.var _),(2,.var _)]) rfl (wk_txN fun z hz => (hbs.1 z hz).2) rfl ?_
         refine W.lineX (n := 5) (by decide) (its := [.y 41 _]) (ks := []) (kk := []) (live := [0,2,3,4,41]) (env' := [(0,_),(2,_),(3,_),(4,_),(41,_)]) (⟨nU rfl,rfl,⟨mU 4 rfl rfl,trivial⟩,rfl,rfl,rfl⟩) rfl (bx' := [(13,.var _),(3,.var _),(2,.var _)]) rfl (n' := 65) rfl (⟨rfl,.inr (R.callXk [(0,13)] hC (FnO.none' (rnumber_ok r2 (by omega) 4 (by decide)) (by rw [hE5]; rfl)) (EvB.cons (gV 41 rfl) rfl rfl rfl (EvB.cons (kI 4 rfl) rfl rfl rfl EvB.nil)) rfl ⟨rfl,trivial⟩ ⟨rfl,trivial⟩ rfl (fun e he => ?_))⟩)
         obtain ⟨ch,rfl,hch⟩ := he
         intro a w hs
         show bodyPostD _ _ _ _ _ _
         rw [gt_none hc8 (go_5 hE (pre_0 (sn_f2 hs2)) hE3 (wq_f (sn_f2 hs2)) hE5)]
         exact endDP (z2 := #[.int .u32 0,.slice none 0 0,.slice none 0 0,.int .u32 0]) (z3 := #[.int .i64 5]) (r2 := .agg [.u32 0,.nils,.nils,.u32 0]) hC1 hdf hkp (by decide) (hb23 (by decide)) rfl inferInstance (fun w ch hch cs2 cs3 e2 e3 q2 s2 q3 s3 => get1P b2 b3 w hch (hb23 (by decide)) q2 s2 q3 s3) ⟨ch,rfl,hch⟩ rfl rfl rfl rfl rfl rfl rfl rfl rfl rfl rfl rfl rfl rfl wk_zero rfl hs
       refine W.brwB 2 (d' := .agg [.u32 x.toUInt32,.sl none 36 (ins.map inN),.sl none 2 (outs.map outD),.u32 0]) (bx' := [(13,.var _),(3,.var _),(2,.var _)]) rfl (show (.agg [.u32 x.toUInt32,.sl (some 56) 36 (ins.map inN),.sl (some 46) 2 (outs.map outD),.u32 0] : D).brw = _ from by simp only [D.brw,brws_eq,List.map_cons,List.map_nil]; rw [brw_map brw_inN,brw_map brw_outD]) rfl ?_
       refine W.wkB 2 (d' := .agg [.u32 x.toUInt32,.sl none 36 (ins.map inD),.sl none 2 (outs.map outD),.u32 0]) (bx' := [(13,.var _),(3,.var _),(2,.var _)]) rfl (wk_txN fun z hz => (hbs.1 z hz).2) rfl ?_
       refine W.l0 5 [.y 41 _] [] [] [(0,_),(2,_),(3,_),(4,_),(41,_)] [(13,.var _),(3,.var _),(2,.var _)] 65 ⟨mU 4 rfl rfl,trivial⟩ rfl rfl rfl rfl (⟨rfl,_,R.callB [(0,13)] hC (FnO.some' (r := .u64 k) (bx' := [(0,.var (.agg [.sl none 1 (r4.map D.u8)]))]) (nw := []) (rnumber_ok r2 (by omega) 4 (by decide)) (by rw [hE5]; rfl)) (EvB.cons (gV 41 rfl) rfl rfl rfl (EvB.cons (kI 4 rfl) rfl rfl rfl EvB.nil)) rfl ⟨rfl,trivial⟩ ⟨rfl,trivial⟩ rfl rfl rfl rfl rfl rfl (nU rfl),⟨rfl,_,R.conv (gV 42 rfl) rfl (nU rfl),⟨rfl,_,R.fdP (gU 2 rfl) (nU rfl),⟨rfl,_,R.stZ (gU 44 rfl) (xU 2 rfl) rfl (gV 43 rfl) (by rfl) (by rfl) (by rfl) (by rfl) rfl,tV [(0,_),(2,_),(3,_),(4,_)] [(13,.var _),(3,.var _),(2,.var _)] 65 rfl rfl rfl ?_⟩⟩⟩⟩)
       refine W.seq ?_
       refine W.seq ?_
       by_cases d1 : 0 < r4.length
       · have hwf : ((⟨x.toUInt32,ins,outs,k.toUInt32⟩ : TxS)).wf := get_wf (by omega) (pre_0 (sn_f2 hs2)) hE3 (wq_f (sn_f2 hs2))
         refine W.l0 18 [.y 45 _,.y 46 _,.y 47 _,.y 48 _,.y 49 _,.y 50 _,.y 51 _,.x 52,.x 53,.x 54,.y 55 _,.y 56 _,.x 57,.x 58,.x 59,.x 60,.x 61,.y 62 _] [] [] [(2,_),(3,_),(62,_)] [(13,.var _),(3,.var _),(2,.var _)] 65 ⟨mU 4 rfl rfl,aU fun _ _ H K => R.nilcP (K 45 _ rfl) H,aU (fU 46 rfl rfl),aU (lU 47 rfl rfl rfl rfl rfl rfl rfl),aU fun _ _ H K => R.lenE (SC.sl (K 48 _ rfl)) (List.length_map _) H,aU fun _ _ H K => R.gtrN (r4.length) (0) (eU K 49 rfl) (kI 0 rfl) H,mU 50 rfl rfl,aF rfl rfl (gT (decide_eq_true d1) rfl),aF rfl rfl (gT (decide_eq_true d1) rfl),aF rfl rfl (gT (decide_eq_true d1) rfl),aU fun _ _ H K => R.pickT (eU K 51 rfl) (decide_eq_true d1) (kB true rfl) rfl H,mU 55 rfl rfl,aF rfl rfl (gT (rfl) rfl),aF rfl rfl (gT (rfl) rfl),aF rfl rfl (gT (rfl) rfl),aF rfl rfl (gT (rfl) rfl),aF rfl rfl (gT (rfl) rfl),aU fun _ _ H K => R.pickT (eU K 56 rfl) (rfl) (kB true rfl) rfl H,trivial⟩ rfl rfl rfl rfl (tU rfl ?_)
         refine W.condT rfl (rfl) ?_
         refine W.lineX (n := 2) (by decide) (its := [.y 63 _]) (ks := []) (kk := []) (live := [2,3,63]) (env' := [(2,_),(3,_),(63,_)]) (⟨nU rfl,rfl,⟨aU fun _ _ H _ => R.mkifc (kI 5 rfl) rfl rfl H,trivial⟩,rfl,rfl,rfl⟩) rfl (bx' := [(13,.var _),(3,.var _),(2,.var _)]) rfl (n' := 65) rfl (⟨rfl,.inr (R.panic (gU 63 rfl) (fun e he => ?_))⟩)
         obtain ⟨ch,rfl,hch⟩ := he
         intro a w hs
         show bodyPostD _ _ _ _ _ _
         rw [gt_none hc8 (by rw [go_6 hE (pre_0 (sn_f2 hs2)) hE3 (wq_f (sn_f2 hs2)) hE5]; first | exact fin_1 d1 | exact fin_2 d2 | exact fin_3 hc62)]
         exact endDP (z2 := #[.int .u32 0,.slice none 0 0,.slice none 0 0,.int .u32 0]) (z3 := #[.int .i64 5]) (r2 := .agg [.u32 0,.nils,.nils,.u32 0]) hC1 hdf hkp (by decide) (hb23 (by decide)) rfl inferInstance (fun w ch hch cs2 cs3 e2 e3 q2 s2 q3 s3 => get1P b2 b3 w hch (hb23 (by decide)) q2 s2 q3 s3) ⟨ch,rfl,hch⟩ rfl rfl rfl rfl rfl rfl rfl rfl rfl rfl rfl rfl rfl rfl wk_zero rfl hs
       · by_cases d2 : mayS (⟨x.toUInt32,ins,outs,k.toUInt32⟩ : TxS) = false
         · have hwf : ((⟨x.toUInt32,ins,outs,k.toUInt32⟩ : TxS)).wf := get_wf (by omega) (pre_0 (sn_f2 hs2)) hE3 (wq_f (sn_f2 hs2))
           refine W.l0 18 [.y 45 _,.y 46 _,.y 47 _,.y 48 _,.y 49 _,.y 50 _,.y 51 _,.y 52 _,.y 53 _,.y 54 _,.y 55 _,.y 56 _,.x 57,.x 58,.x 59,.x 60,.x 61,.y 62 _] [] [] [(2,_),(3,_),(62,_)] [(13,.var _),(3,.var _),(2,.var _)] 65 ⟨mU 4 rfl rfl,aU fun _ _ H K => R.nilcP (K 45 _ rfl) H,aU (fU 46 rfl rfl),aU (lU 47 rfl rfl rfl rfl rfl rfl rfl),aU fun _ _ H K => R.lenE (SC.sl (K 48 _ rfl)) (List.length_map _) H,aU fun _ _ H K => R.gtrN (r4.length) (0) (eU K 49 rfl) (kI 0 rfl) H,mU 50 rfl rfl,aW rfl rfl (gF (decide_eq_false d1) rfl) (lU 2 rfl rfl rfl rfl rfl rfl rfl),aW rfl rfl (gF (decide_eq_false d1) rfl) fun _ _ H K => R.callG hC (may_ok (⟨x.toUInt32,ins,outs,k.toUInt32⟩ : TxS) hwf) (Bors.cons (Bor.pur (eU K 52 rfl) rfl rfl) Bors.nil) (FrsR.one (.bool _)) H,aW rfl rfl (gF (decide_eq_false d1) rfl) fun _ _ H K => R.un (eU K 53 rfl) rfl H,aU fun _ _ H K => R.pickF (eU K 51 rfl) (decide_eq_false d1) (eU K 54 rfl) rfl H,mU 55 rfl rfl,aF rfl rfl (gT (by rw [d2]; rfl) rfl),aF rfl rfl (gT (by rw [d2]; rfl) rfl),aF rfl rfl (gT (by rw [d2]; rfl) rfl),aF rfl rfl (gT (by rw [d2]; rfl) rfl),aF rfl rfl (gT (by rw [d2]; rfl) rfl),aU fun _ _ H K => R.pickT (eU K 56 rfl) (by rw [d2]; rfl) (kB true rfl) rfl H,trivial⟩ rfl rfl rfl rfl (tU rfl ?_)
           refine W.condT rfl (rfl) ?_
           refine W.lineX (n := 2) (by decide) (its := [.y 63 _]) (ks := []) (kk := []) (live := [2,3,63]) (env' := [(2,_),(3,_),(63,_)]) (⟨nU rfl,rfl,⟨aU fun _ _ H _ => R.mkifc (kI 5 rfl) rfl rfl H,trivial⟩,rfl,rfl,rfl⟩) rfl (bx' := [(13,.var _),(3,.var _),(2,.var _)]) rfl (n' := 65) rfl (⟨rfl,.inr (R.panic (gU 63 rfl) (fun e he => ?_))⟩)
           obtain ⟨ch,rfl,hch⟩ := he
           intro a w hs
           show bodyPostD _ _ _ _ _ _
           rw [gt_none hc8 (by rw [go_6 hE (pre_0 (sn_f2 hs2)) hE3 (wq_f (sn_f2 hs2)) hE5]; first | exact fin_1 d1 | exact fin_2 d2 | exact fin_3 hc62)]
           exact endDP (z2 := #[.int .u32 0,.slice none 0 0,.slice none 0 0,.int .u32 0]) (z3 := #[.int .i64 5]) (r2 := .agg [.u32 0,.nils,.nils,.u32 0]) hC1 hdf hkp (by decide) (hb23 (by decide)) rfl inferInstance (fun w ch hch cs2 cs3 e2 e3 q2 s2 q3 s3 => get1P b2 b3 w hch (hb23 (by decide)) q2 s2 q3 s3) ⟨ch,rfl,hch⟩ rfl rfl rfl rfl rfl rfl rfl rfl rfl rfl rfl rfl rfl rfl wk_zero rfl hs
         · have hwf : ((⟨x.toUInt32,ins,outs,k.toUInt32⟩ : TxS)).wf := get_wf (by omega) (pre_0 (sn_f2 hs2)) hE3 (wq_f (sn_f2 hs2))
           refine W.l0 18 [.y 45 _,.y 46 _,.y 47 _,.y 48 _,.y 49 _,.y 50 _,.y 51 _,.y 52 _,.y 53 _,.y 54 _,.y 55 _,.y 56 _,.y 57 _,.y 58 _,.y 59 _,.y 60 _,.y 61 _,.y 62 _] [] [] [(2,_),(3,_),(62,_)] [(13,.var _),(3,.var _),(2,.var _)] 65 ⟨mU 4 rfl rfl,aU fun _ _ H K => R.nilcP (K 45 _ rfl) H,aU (fU 46 rfl rfl),aU (lU 47 rfl rfl rfl rfl rfl rfl rfl),aU fun _ _ H K => R.lenE (SC.sl (K 48 _ rfl)) (List.length_map _) H,aU fun _ _ H K => R.gtrN (r4.length) (0) (eU K 49 rfl) (kI 0 rfl) H,mU 50 rfl rfl,aW rfl rfl (gF (decide_eq_false d1) rfl) (lU 2 rfl rfl rfl rfl rfl rfl rfl),aW rfl rfl (gF (decide_eq_false d1) rfl) fun _ _ H K => R.callG hC (may_ok (⟨x.toUInt32,ins,outs,k.toUInt32⟩ : TxS) hwf) (Bors.cons (Bor.pur (eU K 52 rfl) rfl rfl) Bors.nil) (FrsR.one (.bool _)) H,aW rfl rfl (gF (decide_eq_false d1) rfl) fun _ _ H K => R.un (eU K 53 rfl) rfl H,aU fun _ _ H K => R.pickF (eU K 51 rfl) (decide_eq_false d1) (eU K 54 rfl) rfl H,mU 55 rfl rfl,aW rfl rfl (gF (by simpa using d2) rfl) (lU 2 rfl rfl rfl rfl rfl rfl rfl),aW rfl rfl (gF (by simpa using d2) rfl) fun _ _ H K => R.callG hC (put_ok (⟨x.toUInt32,ins,outs,k.toUInt32⟩ : TxS) hwf) (Bors.cons (Bor.pur (eU K 57 rfl) rfl rfl) Bors.nil) (FrsR.one (.sl _ _ _ (frs_map fun _ => .u8 _))) H,aW rfl rfl (gF (by simpa using d2) rfl) fun _ _ H K => R.mov (eU K 0 rfl) rfl H,aW rfl rfl (gF (by simpa using d2) rfl) fun _ _ H K => R.callG hC (beq_ok (putS (⟨x.toUInt32,ins,outs,k.toUInt32⟩ : TxS)) b) (Bors.cons (Bor.sc (SC.sl (K 58 _ rfl)) (brw_map (fun _ => rfl))) (Bors.cons (Bor.pur (eU K 59 rfl) rfl rfl) Bors.nil)) (FrsR.one (.bool _)) H,aW rfl rfl (gF (by simpa using d2) rfl) fun _ _ H K => R.un (eU K 60 rfl) rfl H,aU fun _ _ H K => R.pickF (eU K 56 rfl) (by simpa using d2) (eU K 61 rfl) rfl H,trivial⟩ rfl rfl rfl rfl (tU rfl ?_)
           refine W.cond rfl (fun hc62 => ?_) (fun hc62 => ?_)
           · refine W.lineX (n := 2) (by decide) (its := [.y 63 _]) (ks := []) (kk := []) (live := [2,3,63]) (env' := [(2,_),(3,_),(63,_)]) (⟨nU rfl,rfl,⟨aU fun _ _ H _ => R.mkifc (kI 5 rfl) rfl rfl H,trivial⟩,rfl,rfl,rfl⟩) rfl (bx' := [(13,.var _),(3,.var _),(2,.var _)]) rfl (n' := 65) rfl (⟨rfl,.inr (R.panic (gU 63 rfl) (fun e he => ?_))⟩)
             obtain ⟨ch,rfl,hch⟩ := he
             intro a w hs
             show bodyPostD _ _ _ _ _ _
             rw [gt_none hc8 (by rw [go_6 hE (pre_0 (sn_f2 hs2)) hE3 (wq_f (sn_f2 hs2)) hE5]; first | exact fin_1 d1 | exact fin_2 d2 | exact fin_3 hc62)]
             exact endDP (z2 := #[.int .u32 0,.slice none 0 0,.slice none 0 0,.int .u32 0]) (z3 := #[.int .i64 5]) (r2 := .agg [.u32 0,.nils,.nils,.u32 0]) hC1 hdf hkp (by decide) (hb23 (by decide)) rfl inferInstance (fun w ch hch cs2 cs3 e2 e3 q2 s2 q3 s3 => get1P b2 b3 w hch (hb23 (by decide)) q2 s2 q3 s3) ⟨ch,rfl,hch⟩ rfl rfl rfl rfl rfl rfl rfl rfl rfl rfl rfl rfl rfl rfl wk_zero rfl hs
           · refine W.skip ?_
             refine W.seq ?_
             refine W.l0 3 [.y 64 _] [] [] [(2,_),(3,_),(64,_)] [(13,.var _),(3,.var _),(2,.var _)] 65 ⟨aU (lU 2 rfl rfl rfl rfl rfl rfl rfl),trivial⟩ rfl rfl rfl rfl (⟨rfl,_,R.stZ (gU 2 rfl) (xU 2 rfl) rfl (gV 64 rfl) (by rfl) (by rfl) (by rfl) (by rfl) rfl,⟨rfl,_,R.stZ (gU 3 rfl) (xU 3 rfl) rfl (kI 0 rfl) (by rfl) (by rfl) (by rfl) (by rfl) rfl,tV [(2,_),(3,_)] [(13,.var _),(3,.var _),(2,.var _)] 65 rfl rfl rfl ?_⟩⟩)
             refine W.ret ?_
             intro a w hs
             show bodyPostD _ _ _ _ _ _
             rw [gt_some hc8 (by rw [go_6 hE (pre_0 (sn_f2 hs2)) hE3 (wq_f (sn_f2 hs2)) hE5]; exact fin_s d1 (by simpa using d2) hc62)]
             exact endD hC1 hdf hkp (by decide) rfl inferInstance (get1R b2 b3) (.inr rfl) rfl rfl rfl rfl rfl rfl rfl rfl rfl rfl rfl rfl hs
   · refine W.l0 16 [.y 18 _,.y 19 _,.y 20 _,.y 21 _,.y 22 _,.y 23 _,.y 24 _,.x 25,.x 26,.x 27,.x 28,.x 29,.x 30,.x 31,.y 32 _,.y 5 _] [] [] [(0,_),(2,_),(3,_),(4,_),(5,_)] [(13,.var _),(3,.var _),(2,.var _)] 65 ⟨mU 4 rfl rfl,aU fun _ _ H K => R.nilcP (K 18 _ rfl) H,aU (fU 19 rfl rfl),aU (lU 20 rfl rfl rfl rfl rfl rfl rfl),aU fun _ _ H K => R.lenE (SC.sl (K 21 _ rfl)) (List.length_map _) H,aU fun _ _ H K => R.gtrN (r.length) (0) (eU K 22 rfl) (kI 0 rfl) H,mU 23 rfl rfl,aF rfl rfl (gF (decide_eq_false hs1) rfl),aF rfl rfl (gF (decide_eq_false hs1) rfl),aF rfl rfl (gF (decide_eq_false hs1) rfl),aF rfl rfl (gF (decide_eq_false hs1) rfl),aF rfl rfl (gF (decide_eq_false hs1) rfl),aF rfl rfl (gF (decide_eq_false hs1) rfl),aF rfl rfl (gF (decide_eq_false hs1) rfl),aU fun _ _ H K => R.pickF (eU K 24 rfl) (decide_eq_false hs1) (kB false rfl) rfl H,aU fun _ _ H K => R.asg (eU K 32 rfl) rfl H,trivial⟩ rfl rfl rfl rfl (tU rfl ?_)
     refine W.seq ?_
     refine W.seq ?_
     refine W.l0 1 [.y 33 _] [] [] [(0,_),(2,_),(3,_),(4,_),(5,_),(33,_)] [(13,.var _),(3,.var _),(2,.var _)] 65 ⟨mU 5 rfl rfl,trivial⟩ rfl rfl rfl rfl (tU rfl ?_)
     refine W.condF rfl (rfl) ?_
     refine W.skip ?_
     refine W.seq ?_
     rcases hE3 : bodyO r with _ | ⟨⟨ins,outs⟩,r2⟩
     · refine W.asOwnP 2 [1] 56 36 (bx' := [(13,.var _),(3,.var _),(2,.var _)]) rfl rfl rfl rfl rfl ?_
       refine W.asOwnP 2 [2] 46 2 (bx' := [(13,.var _),(3,.var _),(2,.var _)]) rfl rfl rfl rfl rfl ?_
       refine W.lineX (n := 2) (by decide) (its := [.y 36 _]) (ks := []) (kk := []) (live := [0,2,3,4,5,36]) (env' := [(0,_),(2,_),(3,_),(4,_),(5,_),(36,_)]) (⟨nU rfl,rfl,⟨mU 4 rfl rfl,trivial⟩,rfl,rfl,rfl⟩) rfl (bx' := [(13,.var _),(3,.var _),(2,.var _)]) rfl (n' := 65) rfl (⟨rfl,.inr (R.callXk [(0,13),(1,2)] hC (FnO.none' (rbody_ok r (by omega) x.toUInt32 0) (by rw [hE3]; rfl)) (EvB.cons (gV 36 rfl) rfl rfl rfl (EvB.cons (gV 2 rfl) rfl rfl rfl EvB.nil)) rfl ⟨rfl,⟨rfl,trivial⟩⟩ ⟨rfl,⟨rfl,trivial⟩⟩ rfl (fun e he => ?_))⟩)
       obtain ⟨ch,rfl,hch⟩ := he
       intro a w hs
       show bodyPostD _ _ _ _ _ _
       rw [gt_none hc8 (go_3 hE (pre_0 (sn_f1 hs1)) hE3)]
       exact endDP (z2 := #[.int .u32 0,.slice none 0 0,.slice none 0 0,.int .u32 0]) (z3 := #[.int .i64 5]) (r2 := .agg [.u32 0,.nils,.nils,.u32 0]) hC1 hdf hkp (by decide) (hb23 (by decide)) rfl inferInstance (fun w ch hch cs2 cs3 e2 e3 q2 s2 q3 s3 => get1P b2 b3 w hch (hb23 (by decide)) q2 s2 q3 s3) ⟨ch,rfl,hch⟩ rfl rfl rfl rfl rfl rfl rfl rfl rfl rfl rfl rfl rfl rfl wk_zero rfl hs
     have hbs := bodyO_sz hE3 (by omega)
     have hil := szI_len ins
     refine W.asOwnP 2 [1] 56 36 (bx' := [(13,.var _),(3,.var _),(2,.var _)]) rfl rfl rfl rfl rfl ?_
     refine W.asOwnP 2 [2] 46 2 (bx' := [(13,.var _),(3,.var _),(2,.var _)]) rfl rfl rfl rfl rfl ?_
     refine W.l0 2 [.y 36 _] [] [] [(0,_),(2,_),(3,_),(4,_),(5,_),(36,_)] [(13,.var _),(3,.var _),(2,.var _)] 65 ⟨mU 4 rfl rfl,trivial⟩ rfl rfl rfl rfl (⟨rfl,_,R.callB [(0,13),(1,2)] hC (FnO.some' (r := .tup []) (bx' := [(0,.var (.agg [.sl none 1 (r2.map D.u8)])),(1,.var (.agg [.u32 x.toUInt32,.sl (some 56) 36 (ins.map inN),.sl (some 46) 2 (outs.map outD),.u32 0]))]) (nw := []) (rbody_ok r (by omega) x.toUInt32 0) (by rw [hE3]; rfl)) (EvB.cons (gV 36 rfl) rfl rfl rfl (EvB.cons (gV 2 rfl) rfl rfl rfl EvB.nil)) rfl ⟨rfl,⟨rfl,trivial⟩⟩ ⟨rfl,⟨rfl,trivial⟩⟩ rfl rfl rfl rfl rfl rfl (nU rfl),tV [(0,_),(2,_),(3,_),(4,_),(5,_)] [(13,.var _),(3,.var _),(2,.var _)] 65 rfl rfl rfl ?_⟩)
     refine W.seq ?_
     refine W.seq ?_
     refine W.l0 1 [.y 38 _] [] [] [(0,_),(2,_),(3,_),(4,_),(38,_)] [(13,.var _),(3,.var _),(2,.var _)] 65 ⟨mU 5 rfl rfl,trivial⟩ rfl rfl rfl rfl (tU rfl ?_)
     refine W.condF rfl (rfl) ?_
     refine W.skip ?_
     refine W.seq ?_
     rcases hE5 : numO r2 4 with _ | ⟨k,r4⟩
     · refine W.brwB 2 (d' := .agg [.u32 x.toUInt32,.sl none 36 (ins.map inN),.sl none 2 (outs.map outD),.u32 0]) (bx' := [(13,.var _),(3,.var _),(2,.var _)]) rfl (show (.agg [.u32 x.toUInt32,.sl (some 56) 36 (ins.map inN),.sl (some 46) 2 (outs.map outD),.u32 0] : D).brw = _ from by simp only [D.brw,brws_eq,List.map_cons,List.map_nil]; rw [brw_map brw_inN,brw_map brw_outD]) rfl ?_
       refine W.wkB 2 (d' := .agg [.u32 x.toUInt32,.sl none 36 (ins.map inD),.sl none 2 (outs.map outD),.u32 0]) (bx' := [(13,.var _),(3,.var _),(2,.var _)]) rfl (wk_txN fun z hz => (hbs.1 z hz).2) rfl ?_
       refine W.lineX (n := 5) (by decide) (its := [.y 41 _]) (ks := []) (kk := []) (live := [0,2,3,4,41]) (env' := [(0,_),(2,_),(3,_),(4,_),(41,_)]) (⟨nU rfl,rfl,⟨mU 4 rfl rfl,trivial⟩,rfl,rfl,rfl⟩) rfl (bx' := [(13,.var _),(3,.var _),(2,.var _)]) rfl (n' := 65) rfl (⟨rfl,.inr (R.callXk [(0,13)] hC (FnO.none' (rnumber_ok r2 (by omega) 4 (by decide)) (by rw [hE5]; rfl)) (EvB.cons (gV 41 rfl) rfl rfl rfl (EvB.cons (kI 4 rfl) rfl rfl rfl EvB.nil)) rfl ⟨rfl,trivial⟩ ⟨rfl,trivial⟩ rfl (fun e he => ?_))⟩)
       obtain ⟨ch,rfl,hch⟩ := he
       intro a w hs
       show bodyPostD _ _ _ _ _ _
       rw [gt_none hc8 (go_5 hE (pre_0 (sn_f1 hs1)) hE3 (wq_f (sn_f1 hs1)) hE5)]
       exact endDP (z2 := #[.int .u32 0,.slice none 0 0,.slice none 0 0,.int .u32 0]) (z3 := #[.int .i64 5]) (r2 := .agg [.u32 0,.nils,.nils,.u32 0]) hC1 hdf hkp (by decide) (hb23 (by decide)) rfl inferInstance (fun w ch hch cs2 cs3 e2 e3 q2 s2 q3 s3 => get1P b2 b3 w hch (hb23 (by decide)) q2 s2 q3 s3) ⟨ch,rfl,hch⟩ rfl rfl rfl rfl rfl rfl rfl rfl rfl rfl rfl rfl rfl rfl wk_zero rfl hs
     refine W.brwB 2 (d' := .agg [.u32 x.toUInt32,.sl none 36 (ins.map inN),.sl none 2 (outs.map outD),.u32 0]) (bx' := [(13,.var _),(3,.var _),(2,.var _)]) rfl (show (.agg [.u32 x.toUInt32,.sl (some 56) 36 (ins.map inN),.sl (some 46) 2 (outs.map outD),.u32 0] : D).brw = _ from by simp only [D.brw,brws_eq,List.map_cons,List.map_nil]; rw [brw_map brw_inN,brw_map brw_outD]) rfl ?_
     refine W.wkB 2 (d' := .agg [.u32 x.toUInt32,.sl none 36 (ins.map inD),.sl none 2 (outs.map outD),.u32 0]) (bx' := [(13,.var _),(3,.var _),(2,.var _)]) rfl (wk_txN fun z hz => (hbs.1 z hz).2) rfl ?_
     refine W.l0 5 [.y 41 _] [] [] [(0,_),(2,_),(3,_),(4,_),(41,_)] [(13,.var _),(3,.var _),(2,.var _)] 65 ⟨mU 4 rfl rfl,trivial⟩ rfl rfl rfl rfl (⟨rfl,_,R.callB [(0,13)] hC (FnO.some' (r := .u64 k) (bx' := [(0,.var (.agg [.sl none 1 (r4.map D.u8)]))]) (nw := []) (rnumber_ok r2 (by omega) 4 (by decide)) (by rw [hE5]; rfl)) (EvB.cons (gV 41 rfl) rfl rfl rfl (EvB.cons (kI 4 rfl) rfl rfl rfl EvB.nil)) rfl ⟨rfl,trivial⟩ ⟨rfl,trivial⟩ rfl rfl rfl rfl rfl rfl (nU rfl),⟨rfl,_,R.conv (gV 42 rfl) rfl (nU rfl),⟨rfl,_,R.fdP (gU 2 rfl) (nU rfl),⟨rfl,_,R.stZ (gU 44 rfl) (xU 2 rfl) rfl (gV 43 rfl) (by rfl) (by rfl) (by rfl) (by rfl) rfl,tV [(0,_),(2,_),(3,_),(4,_)] [(13,.var _),(3,.var _),(2,.var _)] 65 rfl rfl rfl ?_⟩⟩⟩⟩)
     refine W.seq ?_
     refine W.seq ?_
     by_cases d1 : 0 < r4.length
     · have hwf : ((⟨x.toUInt32,ins,outs,k.toUInt32⟩ : TxS)).wf := get_wf (by omega) (pre_0 (sn_f1 hs1)) hE3 (wq_f (sn_f1 hs1))
       refine W.l0 18 [.y 45 _,.y 46 _,.y 47 _,.y 48 _,.y 49 _,.y 50 _,.y 51 _,.x 52,.x 53,.x 54,.y 55 _,.y 56 _,.x 57,.x 58,.x 59,.x 60,.x 61,.y 62 _] [] [] [(2,_),(3,_),(62,_)] [(13,.var _),(3,.var _),(2,.var _)] 65 ⟨mU 4 rfl rfl,aU fun _ _ H K => R.nilcP (K 45 _ rfl) H,aU (fU 46 rfl rfl),aU (lU 47 rfl rfl rfl rfl rfl rfl rfl),aU fun _ _ H K => R.lenE (SC.sl (K 48 _ rfl)) (List.length_map _) H,aU fun _ _ H K => R.gtrN (r4.length) (0) (eU K 49 rfl) (kI 0 rfl) H,mU 50 rfl rfl,aF rfl rfl (gT (decide_eq_true d1) rfl),aF rfl rfl (gT (decide_eq_true d1) rfl),aF rfl rfl (gT (decide_eq_true d1) rfl),aU fun _ _ H K => R.pickT (eU K 51 rfl) (decide_eq_true d1) (kB true rfl) rfl H,mU 55 rfl rfl,aF rfl rfl (gT (rfl) rfl),aF rfl rfl (gT (rfl) rfl),aF rfl rfl (gT (rfl) rfl),aF rfl rfl (gT (rfl) rfl),aF rfl rfl (gT (rfl) rfl),aU fun _ _ H K => R.pickT (eU K 56 rfl) (rfl) (kB true rfl) rfl H,trivial⟩ rfl rfl rfl rfl (tU rfl ?_)
       refine W.condT rfl (rfl) ?_
       refine W.lineX (n := 2) (by decide) (its := [.y 63 _]) (ks := []) (kk := []) (live := [2,3,63]) (env' := [(2,_),(3,_),(63,_)]) (⟨nU rfl,rfl,⟨aU fun _ _ H _ => R.mkifc (kI 5 rfl) rfl rfl H,trivial⟩,rfl,rfl,rfl⟩) rfl (bx' := [(13,.var _),(3,.var _),(2,.var _)]) rfl (n' := 65) rfl (⟨rfl,.inr (R.panic (gU 63 rfl) (fun e he => ?_))⟩)
       obtain ⟨ch,rfl,hch⟩ := he
       intro a w hs
       show bodyPostD _ _ _ _ _ _
       rw [gt_none hc8 (by rw [go_6 hE (pre_0 (sn_f1 hs1)) hE3 (wq_f (sn_f1 hs1)) hE5]; first | exact fin_1 d1 | exact fin_2 d2 | exact fin_3 hc62)]
       exact endDP (z2 := #[.int .u32 0,.slice none 0 0,.slice none 0 0,.int .u32 0]) (z3 := #[.int .i64 5]) (r2 := .agg [.u32 0,.nils,.nils,.u32 0]) hC1 hdf hkp (by decide) (hb23 (by decide)) rfl inferInstance (fun w ch hch cs2 cs3 e2 e3 q2 s2 q3 s3 => get1P b2 b3 w hch (hb23 (by decide)) q2 s2 q3 s3) ⟨ch,rfl,hch⟩ rfl rfl rfl rfl rfl rfl rfl rfl rfl rfl rfl rfl rfl rfl wk_zero rfl hs
     · by_cases d2 : mayS (⟨x.toUInt32,ins,outs,k.toUInt32⟩ : TxS) = false
       · have hwf : ((⟨x.toUInt32,ins,outs,k.toUInt32⟩ : TxS)).wf := get_wf (by omega) (pre_0 (sn_f1 hs1)) hE3 (wq_f (sn_f1 hs1))
         refine W.l0 18 [.y 45 _,.y 46 _,.y 47 _,.y 48 _,.y 49 _,.y 50 _,.y 51 _,.y 52 _,.y 53 _,.y 54 _,.y 55 _,.y 56 _,.x 57,.x 58,.x 59,.x 60,.x 61,.y 62 _] [] [] [(2,_),(3,_),(62,_)] [(13,.var _),(3,.var _),(2,.var _)] 65 ⟨mU 4 rfl rfl,aU fun _ _ H K => R.nilcP (K 45 _ rfl) H,aU (fU 46 rfl rfl),aU (lU 47 rfl rfl rfl rfl rfl rfl rfl),aU fun _ _ H K => R.lenE (SC.sl (K 48 _ rfl)) (List.length_map _) H,aU fun _ _ H K => R.gtrN (r4.length) (0) (eU K 49 rfl) (kI 0 rfl) H,mU 50 rfl rfl,aW rfl rfl (gF (decide_eq_false d1) rfl) (lU 2 rfl rfl rfl rfl rfl rfl rfl),aW rfl rfl (gF (decide_eq_false d1) rfl) fun _ _ H K => R.callG hC (may_ok (⟨x.toUInt32,ins,outs,k.toUInt32⟩ : TxS) hwf) (Bors.cons (Bor.pur (eU K 52 rfl) rfl rfl) Bors.nil) (FrsR.one (.bool _)) H,aW rfl rfl (gF (decide_eq_false d1) rfl) fun _ _ H K => R.un (eU K 53 rfl) rfl H,aU fun _ _ H K => R.pickF (eU K 51 rfl) (decide_eq_false d1) (eU K 54 rfl) rfl H,mU 55 rfl rfl,aF rfl rfl (gT (by rw [d2]; rfl) rfl),aF rfl rfl (gT (by rw [d2]; rfl) rfl),aF rfl rfl (gT (by rw [d2]; rfl) rfl),aF rfl rfl (gT (by rw [d2]; rfl) rfl),aF rfl rfl (gT (by rw [d2]; rfl) rfl),aU fun _ _ H K => R.pickT (eU K 56 rfl) (by rw [d2]; rfl) (kB true rfl) rfl H,trivial⟩ rfl rfl rfl rfl (tU rfl ?_)
         refine W.condT rfl (rfl) ?_
         refine W.lineX (n := 2) (by decide) (its := [.y 63 _]) (ks := []) (kk := []) (live := [2,3,63]) (env' := [(2,_),(3,_),(63,_)]) (⟨nU rfl,rfl,⟨aU fun _ _ H _ => R.mkifc (kI 5 rfl) rfl rfl H,trivial⟩,rfl,rfl,rfl⟩) rfl (bx' := [(13,.var _),(3,.var _),(2,.var _)]) rfl (n' := 65) rfl (⟨rfl,.inr (R.panic (gU 63 rfl) (fun e he => ?_))⟩)
         obtain ⟨ch,rfl,hch⟩ := he
         intro a w hs
         show bodyPostD _ _ _ _ _ _
         rw [gt_none hc8 (by rw [go_6 hE (pre_0 (sn_f1 hs1)) hE3 (wq_f (sn_f1 hs1)) hE5]; first | exact fin_1 d1 | exact fin_2 d2 | exact fin_3 hc62)]
         exact endDP (z2 := #[.int .u32 0,.slice none 0 0,.slice none 0 0,.int .u32 0]) (z3 := #[.int .i64 5]) (r2 := .agg [.u32 0,.nils,.nils,.u32 0]) hC1 hdf hkp (by decide) (hb23 (by decide)) rfl inferInstance (fun w ch hch cs2 cs3 e2 e3 q2 s2 q3 s3 => get1P b2 b3 w hch (hb23 (by decide)) q2 s2 q3 s3) ⟨ch,rfl,hch⟩ rfl rfl rfl rfl rfl rfl rfl rfl rfl rfl rfl rfl rfl rfl wk_zero rfl hs
       · have hwf : ((⟨x.toUInt32,ins,outs,k.toUInt32⟩ : TxS)).wf := get_wf (by omega) (pre_0 (sn_f1 hs1)) hE3 (wq_f (sn_f1 hs1))
         refine W.l0 18 [.y 45 _,.y 46 _,.y 47 _,.y 48 _,.y 49 _,.y 50 _,.y 51 _,.y 52 _,.y 53 _,.y 54 _,.y 55 _,.y 56 _,.y 57 _,.y 58 _,.y 59 _,.y 60 _,.y 61 _,.y 62 _] [] [] [(2,_),(3,_),(62,_)] [(13,.var _),(3,.var _),(2,.var _)] 65 ⟨mU 4 rfl rfl,aU fun _ _ H K => R.nilcP (K 45 _ rfl) H,aU (fU 46 rfl rfl),aU (lU 47 rfl rfl rfl rfl rfl rfl rfl),aU fun _ _ H K => R.lenE (SC.sl (K 48 _ rfl)) (List.length_map _) H,aU fun _ _ H K => R.gtrN (r4.length) (0) (eU K 49 rfl) (kI 0 rfl) H,mU 50 rfl rfl,aW rfl rfl (gF (decide_eq_false d1) rfl) (lU 2 rfl rfl rfl rfl rfl rfl rfl),aW rfl rfl (gF (decide_eq_false d1) rfl) fun _ _ H K => R.callG hC (may_ok (⟨x.toUInt32,ins,outs,k.toUInt32⟩ : TxS) hwf) (Bors.cons (Bor.pur (eU K 52 rfl) rfl rfl) Bors.nil) (FrsR.one (.bool _)) H,aW rfl rfl (gF (decide_eq_false d1) rfl) fun _ _ H K => R.un (eU K 53 rfl) rfl H,aU fun _ _ H K => R.pickF (eU K 51 rfl) (decide_eq_false d1) (eU K 54 rfl) rfl H,mU 55 rfl rfl,aW rfl rfl (gF (by simpa using d2) rfl) (lU 2 rfl rfl rfl rfl rfl rfl rfl),aW rfl rfl (gF (by simpa using d2) rfl) fun _ _ H K => R.callG hC (put_ok (⟨x.toUInt32,ins,outs,k.toUInt32⟩ : TxS) hwf) (Bors.cons (Bor.pur (eU K 57 rfl) rfl rfl) Bors.nil) (FrsR.one (.sl _ _ _ (frs_map fun _ => .u8 _))) H,aW rfl rfl (gF (by simpa using d2) rfl) fun _ _ H K => R.mov (eU K 0 rfl) rfl H,aW rfl rfl (gF (by simpa using d2) rfl) fun _ _ H K => R.callG hC (beq_ok (putS (⟨x.toUInt32,ins,outs,k.toUInt32⟩ : TxS)) b) (Bors.cons (Bor.sc (SC.sl (K 58 _ rfl)) (brw_map (fun _ => rfl))) (Bors.cons (Bor.pur (eU K 59 rfl) rfl rfl) Bors.nil)) (FrsR.one (.bool _)) H,aW rfl rfl (gF (by simpa using d2) rfl) fun _ _ H K => R.un (eU K 60 rfl) rfl H,aU fun _ _ H K => R.pickF (eU K 56 rfl) (by simpa using d2) (eU K 61 rfl) rfl H,trivial⟩ rfl rfl rfl rfl (tU rfl ?_)
         refine W.cond rfl (fun hc62 => ?_) (fun hc62 => ?_)
         · refine W.lineX (n := 2) (by decide) (its := [.y 63 _]) (ks := []) (kk := []) (live := [2,3,63]) (env' := [(2,_),(3,_),(63,_)]) (⟨nU rfl,rfl,⟨aU fun _ _ H _ => R.mkifc (kI 5 rfl) rfl rfl H,trivial⟩,rfl,rfl,rfl⟩) rfl (bx' := [(13,.var _),(3,.var _),(2,.var _)]) rfl (n' := 65) rfl (⟨rfl,.inr (R.panic (gU 63 rfl) (fun e he => ?_))⟩)
           obtain ⟨ch,rfl,hch⟩ := he
           intro a w hs
           show bodyPostD _ _ _ _ _ _
           rw [gt_none hc8 (by rw [go_6 hE (pre_0 (sn_f1 hs1)) hE3 (wq_f (sn_f1 hs1)) hE5]; first | exact fin_1 d1 | exact fin_2 d2 | exact fin_3 hc62)]
           exact endDP (z2 := #[.int .u32 0,.slice none 0 0,.slice none 0 0,.int .u32 0]) (z3 := #[.int .i64 5]) (r2 := .agg [.u32 0,.nils,.nils,.u32 0]) hC1 hdf hkp (by decide) (hb23 (by decide)) rfl inferInstance (fun w ch hch cs2 cs3 e2 e3 q2 s2 q3 s3 => get1P b2 b3 w hch (hb23 (by decide)) q2 s2 q3 s3) ⟨ch,rfl,hch⟩ rfl rfl rfl rfl rfl rfl rfl rfl rfl rfl rfl rfl rfl rfl wk_zero rfl hs
         · refine W.skip ?_
           refine W.seq ?_
           refine W.l0 3 [.y 64 _] [] [] [(2,_),(3,_),(64,_)] [(13,.var _),(3,.var _),(2,.var _)] 65 ⟨aU (lU 2 rfl rfl rfl rfl rfl rfl rfl),trivial⟩ rfl rfl rfl rfl (⟨rfl,_,R.stZ (gU 2 rfl) (xU 2 rfl) rfl (gV 64 rfl) (by rfl) (by rfl) (by rfl) (by rfl) rfl,⟨rfl,_,R.stZ (gU 3 rfl) (xU 3 rfl) rfl (kI 0 rfl) (by rfl) (by rfl) (by rfl) (by rfl) rfl,tV [(2,_),(3,_)] [(13,.var _),(3,.var _),(2,.var _)] 65 rfl rfl rfl ?_⟩⟩)
           refine W.ret ?_
           intro a w hs
           show bodyPostD _ _ _ _ _ _
           rw [gt_some hc8 (by rw [go_6 hE (pre_0 (sn_f1 hs1)) hE3 (wq_f (sn_f1 hs1)) hE5]; exact fin_s d1 (by simpa using d2) hc62)]
           exact endD hC1 hdf hkp (by decide) rfl inferInstance (get1R b2 b3) (.inr rfl) rfl rfl rfl rfl rfl rfl rfl rfl rfl rfl rfl rfl hs

end Go.Sx

namespace Go.Sx
open Go.Proofs
theorem small_ok : Fn Tryd.prog gl 28 [] (.agg [.u32 1,.sl (some 56) 36 [.agg [.agg [hashD (List.replicate 32 0),.u32 4294967295],.nils,.u32 4294967295,.nils]],.sl (some 46) 2 [.agg [.u64 5,.sl none 1 [.u8 81]]],.u32 0]) := by
 refine Fn.of (n := 8) Tryd.func28 rfl rfl rfl (nU rfl) fun C hC hD => ?_
 refine W.seq ?_
 refine W.l0 1 [] [] [] [] [] 8 trivial rfl rfl rfl rfl (⟨rfl,_,R.alloc rfl (nU rfl),tV [(0,_)] [(0,.var _)] 8 rfl rfl rfl ?_⟩)
 refine W.seq ?_
 refine W.l0 8 [.y 1 _,.y 2 _,.y 3 _,.y 4 _,.y 5 _,.y 6 _,.y 7 _] [(6,3),(6,6)] [(6,3),(6,6)] [(0,_),(7,_)] [(0,.var _)] 8 ⟨aU fun _ _ H _ => R.bldSE (l := [.arr 32 1 ((List.replicate 32 0).map D.u8),.u32 0]) (l' := [_,_]) (.cons (show ev _ _ (.const (.int .u32 4294967295)) = some (.u32 4294967295) from rfl) (.nil rfl)) ⟨⟨_,(show ev _ _ (.const (.int .u32 4294967295)) = some (.u32 4294967295) from rfl),rfl,rfl,rfl⟩,trivial⟩ H,aU fun _ _ H K => R.bldSE (l := [.agg [.arr 32 1 ((List.replicate 32 0).map D.u8),.u32 0],.nils,.u32 0,.nils]) (l' := [_,_,_,_]) (.cons (eU K 1 rfl) (.cons (show ev _ _ (.const (.int .u32 4294967295)) = some (.u32 4294967295) from rfl) (.nil rfl))) ⟨⟨_,(eU K 1 rfl),rfl,rfl,rfl⟩,⟨⟨_,(show ev _ _ (.const (.int .u32 4294967295)) = some (.u32 4294967295) from rfl),rfl,rfl,rfl⟩,trivial⟩⟩ H,aU fun _ _ H K => R.bslE (z := 36) (.cons (eU K 2 rfl) .nil) ⟨⟨rfl,rfl,rfl⟩,trivial⟩ rfl H (by decide),aU fun _ _ H _ => R.frzT (r' := .sl none 1 [.u8 81]) (R.bslE (z := 1) (.cons (show ev _ _ (.const (.int .u8 81)) = some (.u8 81) from rfl) .nil) ⟨⟨rfl,rfl,rfl⟩,trivial⟩ rfl H (by decide)) rfl (rfl),aU fun _ _ H K => R.bldSE (l := [.u64 0,.nils]) (l' := [_,_]) (.cons (show ev _ _ (.const (.int .u64 5)) = some (.u64 5) from rfl) (.cons (eU K 4 rfl) (.nil rfl))) ⟨⟨_,(show ev _ _ (.const (.int .u64 5)) = some (.u64 5) from rfl),rfl,rfl,rfl⟩,⟨⟨_,(eU K 4 rfl),rfl,rfl,rfl⟩,trivial⟩⟩ H,aU fun _ _ H K => R.bslE (z := 2) (.cons (eU K 5 rfl) .nil) ⟨⟨rfl,rfl,rfl⟩,trivial⟩ rfl H (by decide),aU fun _ _ H K => R.bldO (l := [.u32 0,.nils,.nils,.u32 0]) (l' := [_,_,_,_]) (.pur (show ev _ _ (.const (.int .u32 1)) = some (.u32 1) from rfl) rfl rfl rfl (.own (K 3 _ rfl) rfl rfl rfl rfl (.own (K 6 _ rfl) rfl rfl rfl rfl (.nil rfl)))) rfl H,trivial⟩ rfl rfl rfl rfl (⟨rfl,_,R.stOZ (gU 0 rfl) (xU 0 rfl) rfl (gU 7 rfl) rfl rfl (by rfl) (by rfl) rfl rfl,tV [(0,_)] [(0,.var _)] 8 rfl rfl rfl ?_⟩)
 refine W.ret ?_
 exact Ends.one' (.inr rfl) rfl (rfl) rfl rfl (show LdT _ 26 4 true from inferInstance)

end Go.Sx

namespace Go.Sx
open Go.Proofs
def cpI (x : List UInt8) (i : Nat) : List UInt8 := x.take i ++ List.replicate (32 - i) 0
def padH (x : List UInt8) : Hs := cpI x x.length
theorem cpI_0 (x : List UInt8) : cpI x 0 = List.replicate 32 0 := by simp [cpI]
theorem cpI_len (x : List UInt8) (i : Nat) (h : i ≤ x.length) (h2 : x.length ≤ 32) : (cpI x i).length = 32 := by simp [cpI]; omega
theorem cpI_set (x : List UInt8) (i : Nat) (h : i < x.length) (h2 : x.length ≤ 32) : (cpI x i).set i x[i]! = cpI x (i + 1) := by
 unfold cpI
 rw [take_snoc h,List.set_append]
 have e1 : (x.take i).length = i := by simp; omega
 rw [if_neg (by omega),e1,Nat.sub_self,show 32 - i = (32 - (i + 1)) + 1 by omega,List.replicate_succ,List.set_cons_zero,List.append_assoc]
 rfl
def inQ (b : List UInt8) (bad : Bool) : InS × List UInt8 × Bool :=
 match takeB b bad 32 with
 | (x,r1,e1) => match numQ r1 e1 4 with
  | (p,r2,e2) => match itmQ r2 e2 with
   | (s,r3,e3) => match numQ r3 e3 4 with
    | (q,r4,e4) => (⟨padH x,p.toUInt32,s,q.toUInt32,[]⟩,r4,e4)
def outQ (b : List UInt8) (bad : Bool) : OutS × List UInt8 × Bool :=
 match numQ b bad 8 with
 | (p,r1,e1) => match itmQ r1 e1 with
  | (s,r2,e2) => (⟨p,s⟩,r2,e2)
def insQ : Nat → List InS → List UInt8 → Bool → List InS × List UInt8 × Bool
 | 0,l,b,e => (l,b,e)
 | n + 1,l,b,e => if e = true then (l,b,e) else match inQ b e with
  | (a,r,e') => insQ n (l ++ [a]) r e'
def outsQ : Nat → List OutS → List UInt8 → Bool → List OutS × List UInt8 × Bool
 | 0,l,b,e => (l,b,e)
 | n + 1,l,b,e => if e = true then (l,b,e) else match outQ b e with
  | (a,r,e') => outsQ n (l ++ [a]) r e'
def bodyQ (b : List UInt8) (bad : Bool) : (List InS × List OutS) × List UInt8 × Bool :=
 match cntQ b bad with
 | (n,r0,e0) => match insQ n [] r0 e0 with
  | (l,r,e) => match cntQ r e with
   | (m,r5,e5) => match outsQ m [] r5 e5 with
    | (o,u,e6) => ((l,o),u,e6)
section
variable {b r r0 r1 r2 r3 r4 r5 x s u : List UInt8} {bad e e0 e1 e2 e3 e4 e5 e6 : Bool} {p q : UInt64} {i j n m : Nat} {l : List InS} {o : List OutS}
theorem inQ_eq (h1 : takeB b bad 32 = (x,r1,e1)) (h2 : numQ r1 e1 4 = (p,r2,e2)) (h3 : itmQ r2 e2 = (s,r3,e3)) (h4 : numQ r3 e3 4 = (q,r4,e4)) : inQ b bad = (⟨padH x,p.toUInt32,s,q.toUInt32,[]⟩,r4,e4) := by
 unfold inQ; simp only [h1,h2,h3,h4]
theorem outQ_eq (h1 : numQ b bad 8 = (p,r1,e1)) (h2 : itmQ r1 e1 = (s,r2,e2)) : outQ b bad = (⟨p,s⟩,r2,e2) := by
 unfold outQ; simp only [h1,h2]
theorem bodyQ_eq (h1 : cntQ b bad = (n,r0,e0)) (h2 : insQ n [] r0 e0 = (l,r,e)) (h3 : cntQ r e = (m,r5,e5)) (h4 : outsQ m [] r5 e5 = (o,u,e6)) : bodyQ b bad = ((l,o),u,e6) := by
 unfold bodyQ; simp only [h1,h2,h3,h4]
theorem insQ_step {a : InS} {z : List InS × List UInt8 × Bool} (h : insQ (n - i) l r e = z) (hi : i < n) (he : (!e) = true) (h2 : inQ r e = (a,r1,e1)) : insQ (n - (i + 1)) (l ++ [a]) r1 e1 = z := by
 rw [← h,show n - i = (n - (i + 1)) + 1 by omega]
 have : ¬ e = true := by simpa using he
 simp only [insQ,if_neg this,h2]
theorem insQ_end {z : List InS × List UInt8 × Bool} (h : insQ (n - i) l r e = z) (hi : ¬ i < n ∨ (!e) = false) : z = (l,r,e) := by
 rw [← h]
 rcases hi with hi | hi
 · rw [show n - i = 0 by omega]; rfl
 · have : e = true := by simpa using hi
   subst this
   cases n - i <;> simp [insQ]
theorem outsQ_step {a : OutS} {z : List OutS × List UInt8 × Bool} (h : outsQ (n - i) o r e = z) (hi : i < n) (he : (!e) = true) (h2 : outQ r e = (a,r1,e1)) : outsQ (n - (i + 1)) (o ++ [a]) r1 e1 = z := by
 rw [← h,show n - i = (n - (i + 1)) + 1 by omega]
 have : ¬ e = true := by simpa using he
 simp only [outsQ,if_neg this,h2]
theorem outsQ_end {z : List OutS × List UInt8 × Bool} (h : outsQ (n - i) o r e = z) (hi : ¬ i < n ∨ (!e) = false) : z = (o,r,e) := by
 rw [← h]
 rcases hi with hi | hi
 · rw [show n - i = 0 by omega]; rfl
 · have : e = true := by simpa using hi
   subst this
   cases n - i <;> simp [outsQ]
theorem itmQ_len (hb : b.length ≤ 100000) (h : itmQ b bad = (s,r,e)) : s.length ≤ b.length ∧ r.length ≤ b.length := by
 unfold itmQ at h
 obtain ⟨n,r1,e1,hc⟩ : ∃ a c d,cntQ b bad = (a,c,d) := ⟨_,_,_,rfl⟩
 rw [hc] at h
 have h1 := cntQ_len hb hc
 have h2 := takeB_len r1 e1 n
 have h3 : takeB r1 e1 n = (s,r,e) := h
 rw [h3] at h2
 simp only [] at h2
 omega
theorem inQ_len (hb : b.length ≤ 100000) {a : InS} (h : inQ b bad = (a,r,e)) : r.length ≤ b.length := by
 obtain ⟨x,r1,e1,h1⟩ : ∃ a c d,takeB b bad 32 = (a,c,d) := ⟨_,_,_,rfl⟩
 obtain ⟨p,r2,e2,h2⟩ : ∃ a c d,numQ r1 e1 4 = (a,c,d) := ⟨_,_,_,rfl⟩
 obtain ⟨s,r3,e3,h3⟩ : ∃ a c d,itmQ r2 e2 = (a,c,d) := ⟨_,_,_,rfl⟩
 obtain ⟨q,r4,e4,h4⟩ : ∃ a c d,numQ r3 e3 4 = (a,c,d) := ⟨_,_,_,rfl⟩
 rw [inQ_eq h1 h2 h3 h4] at h
 cases h
 have a1 := takeB_len b bad 32
 rw [h1] at a1
 simp only [] at a1
 have a2 := numQ_len h2
 have a3 := itmQ_len (by omega) h3
 have a4 := numQ_len h4
 omega
theorem outQ_len (hb : b.length ≤ 100000) {a : OutS} (h : outQ b bad = (a,r,e)) : r.length ≤ b.length := by
 obtain ⟨p,r2,e2,h2⟩ : ∃ a c d,numQ b bad 8 = (a,c,d) := ⟨_,_,_,rfl⟩
 obtain ⟨s,r3,e3,h3⟩ : ∃ a c d,itmQ r2 e2 = (a,c,d) := ⟨_,_,_,rfl⟩
 rw [outQ_eq h2 h3] at h
 cases h
 have a2 := numQ_len h2
 have a3 := itmQ_len (by omega) h3
 omega
theorem insQ_len {k : List InS} (hb : b.length ≤ 100000) (h : insQ n l b bad = (k,r,e)) : r.length ≤ b.length ∧ k.length ≤ l.length + n := by
 induction n generalizing l b bad with
 | zero => cases h; simp
 | succ n ih =>
  simp only [insQ] at h
  split at h
  · cases h; simp; try omega
  · obtain ⟨a,r1,e1,h1⟩ : ∃ a c d,inQ b bad = (a,c,d) := ⟨_,_,_,rfl⟩
    simp only [h1] at h
    have a1 := inQ_len hb h1
    have a2 := ih (by omega) h
    simp at a2; omega
end
end Go.Sx

namespace Go.Sx
open Go.Proofs
theorem qinput_ok (b : List UInt8) (bad : Bool) (hb0 : b.length ≤ 100000) : FnB Tryd.prog gl 63 [.ptr 0 0 []] [(0,.var (.agg [.sl none 1 (b.map D.u8),.bool bad]))] (inN (inQ b bad).1) [(0,.var (.agg [.sl none 1 ((inQ b bad).2.1.map D.u8),.bool (inQ b bad).2.2]))] [] := by
 refine FnB.of (n := 35) (ids := [0]) Tryd.func63 rfl rfl rfl (nU rfl) fun C hC hD => ?_
 refine W.seq ?_
 refine W.l0 1 [] [] [] [(0,_)] [(0,.var _)] 35 trivial rfl rfl rfl rfl (⟨rfl,_,R.alloc rfl (nU rfl),tV [(0,_),(2,_)] [(2,.var _),(0,.var _)] 35 rfl rfl rfl ?_⟩)
 refine W.seq ?_
 refine W.l0 1 [] [] [] [(0,_),(2,_)] [(2,.var _),(0,.var _)] 35 trivial rfl rfl rfl rfl (⟨rfl,_,R.alloc rfl (nU rfl),tV [(0,_),(2,_),(3,_)] [(3,.var _),(2,.var _),(0,.var _)] 35 rfl rfl rfl ?_⟩)
 refine W.seq ?_
 obtain ⟨x,r1,e1,hp1⟩ : ∃ a_ b_ c_,takeB b bad 32 = (a_,b_,c_) := ⟨_,_,_,rfl⟩
 have hp1l := takeB_len b bad 32
 rw [hp1] at hp1l
 simp only [] at hp1l
 refine W.l0 3 [.y 6 _] [] [] [(0,_),(2,_),(3,_),(6,_)] [(3,.var _),(2,.var _),(0,.var _)] 35 ⟨mU 0 rfl rfl,trivial⟩ rfl rfl rfl rfl (⟨rfl,_,R.callB [(0,0)] hC (show FnB Tryd.prog gl 48 [.ptr 0 0 [],.int ((32 : Nat) : Int)] [(0,.var (.agg [.sl none 1 (b.map D.u8),.bool bad]))] (.sl none 1 (x.map D.u8)) [(0,.var (.agg [.sl none 1 (r1.map D.u8),.bool e1]))] [] from by have h := qtake_ok b bad (by omega) 32 (by omega); rw [hp1] at h; exact h) (EvB.cons (gV 6 rfl) rfl rfl rfl (EvB.cons (kI 32 rfl) rfl rfl rfl EvB.nil)) rfl ⟨rfl,trivial⟩ ⟨rfl,trivial⟩ rfl rfl rfl rfl rfl rfl (nU rfl),⟨rfl,_,R.asg (gV 7 rfl) rfl (nU rfl),tV [(0,_),(2,_),(3,_),(4,_)] [(3,.var _),(2,.var _),(0,.var _)] 35 rfl rfl rfl ?_⟩⟩)
 refine W.seq ?_
 refine W.seq ?_
 refine W.l0 1 [.y 5 _] [] [] [(0,_),(2,_),(3,_),(4,_),(5,_)] [(3,.var _),(2,.var _),(0,.var _)] 35 ⟨aU fun _ _ H _ => R.asg (kI 0 rfl) rfl H,trivial⟩ rfl rfl rfl rfl (tU rfl ?_)
 refine W.block ?_
 refine W.loop (α := {q__ : Nat // q__ ≤ x.length}) (fun q__ => ⟨35,[(0,.ptr 0 0 []),(2,.ptr 2 0 []),(3,.ptr 3 0 []),(4,.sl none 1 (x.map D.u8)),(5,.int ((q__.1 : Nat) : Int))],[(3,.var (.agg [.agg [.arr 32 1 ((cpI x q__.1).map D.u8),.u32 0],.nils,.u32 0,.nils])),(2,.var (.agg [.agg [.arr 32 1 ((List.replicate 32 (0 : UInt8)).map D.u8),.u32 0],.nils,.u32 0,.nils])),(0,.var (.agg [.sl none 1 (r1.map D.u8),.bool e1]))]⟩) (fun q__ => x.length - q__.1) ⟨(0),bU⟩ (by simp only [cpI_0]; rfl) ?_
 rintro ⟨i,hi⟩
 show W _ _ _ _ ⟨35,[(0,.ptr 0 0 []),(2,.ptr 2 0 []),(3,.ptr 3 0 []),(4,.sl none 1 (x.map D.u8)),(5,.int ((i : Nat) : Int))],[(3,.var (.agg [.agg [.arr 32 1 ((cpI x i).map D.u8),.u32 0],.nils,.u32 0,.nils])),(2,.var (.agg [.agg [.arr 32 1 ((List.replicate 32 (0 : UInt8)).map D.u8),.u32 0],.nils,.u32 0,.nils])),(0,.var (.agg [.sl none 1 (r1.map D.u8),.bool e1]))]⟩
 have hi : i ≤ x.length := hi
 have hcl := cpI_len x i hi hp1l.1
 refine W.seq ?_
 refine W.seq ?_
 refine W.l0 4 [.y 8 _,.y 9 _,.y 10 _,.y 11 _] [] [] [(0,_),(2,_),(3,_),(4,_),(5,_),(11,_)] [(3,.var _),(2,.var _),(0,.var _)] 35 ⟨mU 5 rfl rfl,mU 4 rfl rfl,aU fun _ _ H K => R.lenE (SC.sl (K 9 _ rfl)) (List.length_map _) H,aU fun _ _ H K => R.lssN (i) (x.length) (eU K 8 rfl) (eU K 10 rfl) H,trivial⟩ rfl rfl rfl rfl (tU rfl ?_)
 refine W.condD rfl (fun hc11 => ?_) (fun hc11 => ?_)
 · refine W.skip ?_
   refine W.seq ?_
   refine W.block ?_
   refine W.l0 9 [.y 14 _,.y 15 _,.y 16 _,.y 17 _,.y 18 _,.y 19 _,.y 20 _,.y 21 _] [] [] [(0,_),(2,_),(3,_),(4,_),(5,_),(18,_),(21,_)] [(3,.var _),(2,.var _),(0,.var _)] 35 ⟨mU 5 rfl rfl,mU 4 rfl rfl,mU 5 rfl rfl,aU fun _ _ H K => R.idxN (i) (SC.sl (K 15 _ rfl)) (evoI (eU K 16 rfl)) rfl bU H (by decide),aU fun _ _ H K => R.ldE (K 17 _ rfl) (SC.sl (K 15 _ rfl)) (map_get! (l := x) bU) rfl rfl rfl rfl H,aU (fU 3 rfl rfl),aU (fU 19 rfl rfl),aU fun _ _ H K => R.idxP (i) (K 20 _ rfl) (evoI (eU K 14 rfl)) rfl bU H,trivial⟩ rfl rfl rfl rfl (⟨rfl,_,R.stZ (gU 21 rfl) (xU 3 rfl) (loc_agg (m := 0) rfl rfl (loc_agg (m := 0) rfl rfl (loc_arr (map_get! (l := (cpI x i)) bU) loc_nil rfl) rfl) bU) (gV 18 rfl) (by rfl) (by rfl) (by rfl) (by rfl) (upd_agg rfl (upd_agg rfl (upd_arr (map_get! (l := (cpI x i)) bU) upd_nil set_map) rfl) rfl),tV [(0,_),(2,_),(3,_),(4,_),(5,_)] [(3,.var _),(2,.var _),(0,.var _)] 35 rfl rfl rfl ?_⟩)
   refine W.l0 3 [.y 12 _,.y 13 _,.y 5 _] [] [] [(0,_),(2,_),(3,_),(4,_),(5,_)] [(3,.var _),(2,.var _),(0,.var _)] 35 ⟨mU 5 rfl rfl,aU fun _ _ H K => R.addN (i) (1) (eU K 12 rfl) (kI 1 rfl) bU H,aU fun _ _ H K => R.asg (eU K 13 rfl) rfl H,trivial⟩ rfl rfl rfl rfl (tU rfl ?_)
   exact ⟨⟨(i + 1),bU⟩,(by rw [← cpI_set x i (by omega) hp1l.1]; rfl),(by simp only []; omega)⟩
 · obtain rfl : i = x.length := by omega
   refine W.exit ?_
   refine W.seq ?_
   obtain ⟨p,r2,e2,hp2⟩ : ∃ a_ b_ c_,numQ r1 e1 4 = (a_,b_,c_) := ⟨_,_,_,rfl⟩
   have hp2l := numQ_len hp2
   refine W.l0 6 [.y 22 _] [] [] [(0,_),(2,_),(3,_),(22,_)] [(3,.var _),(2,.var _),(0,.var _)] 35 ⟨mU 0 rfl rfl,trivial⟩ rfl rfl rfl rfl (⟨rfl,_,R.callB [(0,0)] hC (show FnB Tryd.prog gl 47 [.ptr 0 0 [],.int ((4 : Nat) : Int)] [(0,.var (.agg [.sl none 1 (r1.map D.u8),.bool e1]))] (.u64 p) [(0,.var (.agg [.sl none 1 (r2.map D.u8),.bool e2]))] [] from by have h := qnumber_ok r1 e1 (by omega) 4 (by decide); rw [hp2] at h; exact h) (EvB.cons (gV 22 rfl) rfl rfl rfl (EvB.cons (kI 4 rfl) rfl rfl rfl EvB.nil)) rfl ⟨rfl,trivial⟩ ⟨rfl,trivial⟩ rfl rfl rfl rfl rfl rfl (nU rfl),⟨rfl,_,R.conv (gV 23 rfl) rfl (nU rfl),⟨rfl,_,R.fdP (gU 3 rfl) (nU rfl),⟨rfl,_,R.fdP (gU 25 rfl) (nU rfl),⟨rfl,_,R.stZ (gU 26 rfl) (xU 3 rfl) rfl (gV 24 rfl) (by rfl) (by rfl) (by rfl) (by rfl) rfl,tV [(0,_),(2,_),(3,_)] [(3,.var _),(2,.var _),(0,.var _)] 35 rfl rfl rfl ?_⟩⟩⟩⟩⟩)
   refine W.seq ?_
   obtain ⟨s,r3,e3,hp3⟩ : ∃ a_ b_ c_,itmQ r2 e2 = (a_,b_,c_) := ⟨_,_,_,rfl⟩
   have hp3l := itmQ_len (by omega) hp3
   refine W.l0 4 [.y 27 _] [] [] [(0,_),(2,_),(3,_),(27,_)] [(3,.var _),(2,.var _),(0,.var _)] 35 ⟨mU 0 rfl rfl,trivial⟩ rfl rfl rfl rfl (⟨rfl,_,R.frzT (r' := .sl none 1 (s.map D.u8)) (R.callB [(0,0)] hC (show FnB Tryd.prog gl 51 [.ptr 0 0 []] [(0,.var (.agg [.sl none 1 (r2.map D.u8),.bool e2]))] (.sl (some 5) 1 (s.map D.u8)) [(0,.var (.agg [.sl none 1 (r3.map D.u8),.bool e3]))] [] from by have h := qitem_ok r2 e2 (by omega); rw [hp3] at h; exact h) (EvB.cons (gV 27 rfl) rfl rfl rfl EvB.nil) rfl ⟨rfl,trivial⟩ ⟨rfl,trivial⟩ rfl rfl rfl rfl rfl rfl (nU rfl)) rfl (show (.sl (some 5) 1 (s.map D.u8) : D).brw = _ from by simp only [D.brw,brws_eq]; rw [brw_map (fun _ => rfl)]),⟨rfl,_,R.fdP (gU 3 rfl) (nU rfl),⟨rfl,_,R.stZ (gU 29 rfl) (xU 3 rfl) rfl (gV 28 rfl) (by rfl) (by rfl) (by rfl) (by rfl) rfl,tV [(0,_),(2,_),(3,_)] [(3,.var _),(2,.var _),(0,.var _)] 35 rfl rfl rfl ?_⟩⟩⟩)
   refine W.seq ?_
   obtain ⟨q,r4,e4,hp4⟩ : ∃ a_ b_ c_,numQ r3 e3 4 = (a_,b_,c_) := ⟨_,_,_,rfl⟩
   have hp4l := numQ_len hp4
   refine W.l0 5 [.y 30 _] [] [] [(2,_),(3,_),(30,_)] [(3,.var _),(2,.var _),(0,.var _)] 35 ⟨mU 0 rfl rfl,trivial⟩ rfl rfl rfl rfl (⟨rfl,_,R.callB [(0,0)] hC (show FnB Tryd.prog gl 47 [.ptr 0 0 [],.int ((4 : Nat) : Int)] [(0,.var (.agg [.sl none 1 (r3.map D.u8),.bool e3]))] (.u64 q) [(0,.var (.agg [.sl none 1 (r4.map D.u8),.bool e4]))] [] from by have h := qnumber_ok r3 e3 (by omega) 4 (by decide); rw [hp4] at h; exact h) (EvB.cons (gV 30 rfl) rfl rfl rfl (EvB.cons (kI 4 rfl) rfl rfl rfl EvB.nil)) rfl ⟨rfl,trivial⟩ ⟨rfl,trivial⟩ rfl rfl rfl rfl rfl rfl (nU rfl),⟨rfl,_,R.conv (gV 31 rfl) rfl (nU rfl),⟨rfl,_,R.fdP (gU 3 rfl) (nU rfl),⟨rfl,_,R.stZ (gU 33 rfl) (xU 3 rfl) rfl (gV 32 rfl) (by rfl) (by rfl) (by rfl) (by rfl) rfl,tV [(2,_),(3,_)] [(3,.var _),(2,.var _),(0,.var _)] 35 rfl rfl rfl ?_⟩⟩⟩⟩)
   refine W.seq ?_
   refine W.l0 2 [.y 34 _] [] [] [(2,_),(34,_)] [(3,.var _),(2,.var _),(0,.var _)] 35 ⟨aU (lU 3 rfl rfl rfl rfl rfl rfl rfl),trivial⟩ rfl rfl rfl rfl (⟨rfl,_,R.stZ (gU 2 rfl) (xU 2 rfl) rfl (gV 34 rfl) (by rfl) (by rfl) (by rfl) (by rfl) rfl,tV [(2,_)] [(3,.var _),(2,.var _),(0,.var _)] 35 rfl rfl rfl ?_⟩)
   refine W.ret ?_
   exact EndsB.one' (.inr rfl) rfl (by rw [inQ_eq hp1 hp2 hp3 hp4]; rfl) rfl (show LdT _ 56 36 true from inferInstance) rfl rfl (by rw [inQ_eq hp1 hp2 hp3 hp4]; rfl) ⟨rfl,trivial⟩ rfl

end Go.Sx

namespace Go.Sx
open Go.Proofs
theorem qbody_ok (b : List UInt8) (bad : Bool) (hb0 : b.length ≤ 100000) (v k : UInt32) : FnB Tryd.prog gl 49 [.ptr 0 0 [],.agg [.u32 v,.nils,.nils,.u32 k]] [(0,.var (.agg [.sl none 1 (b.map D.u8),.bool bad]))] (.agg [.u32 v,.sl (some 56) 36 ((bodyQ b bad).1.1.map inN),.sl (some 46) 2 ((bodyQ b bad).1.2.map outD),.u32 k]) [(0,.var (.agg [.sl none 1 ((bodyQ b bad).2.1.map D.u8),.bool (bodyQ b bad).2.2]))] [] := by
 refine FnB.of (n := 60) (ids := [0]) Tryd.func49 rfl rfl rfl (nU rfl) fun C hC hD => ?_
 refine W.seq ?_
 refine W.l0 2 [] [] [] [(0,_),(1,_)] [(0,.var _)] 60 trivial rfl rfl rfl rfl (⟨rfl,_,R.box (gV 1 rfl) rfl rfl (nU rfl),⟨rfl,_,R.alloc rfl (nU rfl),tV [(0,_),(3,_),(4,_)] [(4,.var _),(3,.var _),(0,.var _)] 60 rfl rfl rfl ?_⟩⟩)
 refine W.seq ?_
 refine W.asOwnP 3 [1] 56 36 (bx' := [(4,.var _),(3,.var _),(0,.var _)]) rfl rfl rfl rfl rfl ?_
 refine W.asOwnP 3 [2] 46 2 (bx' := [(4,.var _),(3,.var _),(0,.var _)]) rfl rfl rfl rfl rfl ?_
 obtain ⟨n,r0,e0,hp⟩ : ∃ a_ b_ c_,cntQ b bad = (a_,b_,c_) := ⟨_,_,_,rfl⟩
 have hpl := cntQ_len hb0 hp
 refine W.l0 3 [.y 11 _] [] [] [(0,_),(3,_),(4,_),(11,_)] [(4,.var _),(3,.var _),(0,.var _)] 60 ⟨mU 0 rfl rfl,trivial⟩ rfl rfl rfl rfl (⟨rfl,_,R.callB [(0,0)] hC (show FnB Tryd.prog gl 50 [.ptr 0 0 []] [(0,.var (.agg [.sl none 1 (b.map D.u8),.bool bad]))] (.int ((n : Nat) : Int)) [(0,.var (.agg [.sl none 1 (r0.map D.u8),.bool e0]))] [] from by have h := qcount_ok b bad (by omega); rw [hp] at h; exact h) (EvB.cons (gV 11 rfl) rfl rfl rfl EvB.nil) rfl ⟨rfl,trivial⟩ ⟨rfl,trivial⟩ rfl rfl rfl rfl rfl rfl (nU rfl),⟨rfl,_,R.asg (gV 12 rfl) rfl (nU rfl),tV [(0,_),(3,_),(4,_),(5,_)] [(4,.var _),(3,.var _),(0,.var _)] 60 rfl rfl rfl ?_⟩⟩)
 refine W.seq ?_
 refine W.seq ?_
 refine W.l0 1 [.y 6 _] [] [] [(0,_),(3,_),(4,_),(5,_),(6,_)] [(4,.var _),(3,.var _),(0,.var _)] 60 ⟨aU fun _ _ H _ => R.asg (kI 0 rfl) rfl H,trivial⟩ rfl rfl rfl rfl (tU rfl ?_)
 refine W.block ?_
 refine W.loop (α := {q__ : Nat × List InS × List UInt8 × Bool // q__.1 ≤ n ∧ q__.2.1.length = q__.1 ∧ q__.2.2.1.length ≤ 100000 ∧ insQ (n - q__.1) q__.2.1 q__.2.2.1 q__.2.2.2 = insQ n [] r0 e0}) (fun q__ => ⟨60,[(0,.ptr 0 0 []),(3,.ptr 3 0 []),(4,.ptr 4 0 []),(5,.int ((n : Nat) : Int)),(6,.int ((q__.1.1 : Nat) : Int))],[(4,.var (.agg [.u32 0,.nils,.nils,.u32 0])),(3,.var (.agg [.u32 v,.sl (some 56) 36 (q__.1.2.1.map inN),.sl (some 46) 2 (([] : List OutS).map outD),.u32 k])),(0,.var (.agg [.sl none 1 (q__.1.2.2.1.map D.u8),.bool q__.1.2.2.2]))]⟩) (fun q__ => n - q__.1.1) ⟨(0,[],r0,e0),⟨Nat.zero_le _,rfl,(show r0.length ≤ 100000 by omega),rfl⟩⟩ rfl ?_
 rintro ⟨⟨i,l,r,e⟩,⟨hi,hll,hrl,hv⟩⟩
 show W _ _ _ _ ⟨60,[(0,.ptr 0 0 []),(3,.ptr 3 0 []),(4,.ptr 4 0 []),(5,.int ((n : Nat) : Int)),(6,.int ((i : Nat) : Int))],[(4,.var (.agg [.u32 0,.nils,.nils,.u32 0])),(3,.var (.agg [.u32 v,.sl (some 56) 36 (l.map inN),.sl (some 46) 2 (([] : List OutS).map outD),.u32 k])),(0,.var (.agg [.sl none 1 (r.map D.u8),.bool e]))]⟩
 have hi : i ≤ n := hi
 have hll : l.length = i := hll
 have hrl : r.length ≤ 100000 := hrl
 have hv : insQ (n - i) l r e = insQ n [] r0 e0 := hv
 refine W.seq ?_
 refine W.seq ?_
 by_cases h1 : i < n
 · refine W.l0 10 [.y 13 _,.y 14 _,.y 15 _,.y 16 _,.y 17 _,.y 18 _,.y 19 _,.y 20 _,.y 21 _,.y 22 _] [] [] [(0,_),(3,_),(4,_),(5,_),(6,_),(22,_)] [(4,.var _),(3,.var _),(0,.var _)] 60 ⟨mU 6 rfl rfl,mU 5 rfl rfl,aU fun _ _ H K => R.lssN (i) (n) (eU K 13 rfl) (eU K 14 rfl) H,mU 15 rfl rfl,aW rfl rfl (gT (decide_eq_true h1) rfl) fun _ _ H K => R.mov (eU K 0 rfl) rfl H,aW rfl rfl (gT (decide_eq_true h1) rfl) fun _ _ H K => R.nilcP (K 17 _ rfl) H,aW rfl rfl (gT (decide_eq_true h1) rfl) (fU 18 rfl rfl),aW rfl rfl (gT (decide_eq_true h1) rfl) (lU 19 rfl rfl rfl rfl rfl rfl rfl),aW rfl rfl (gT (decide_eq_true h1) rfl) fun _ _ H K => R.un (eU K 20 rfl) rfl H,aU fun _ _ H K => R.pickT (eU K 16 rfl) (decide_eq_true h1) (eU K 21 rfl) rfl H,trivial⟩ rfl rfl rfl rfl (tU rfl ?_)
   refine W.cond rfl (fun hc22 => ?_) (fun hc22 => ?_)
   · refine W.skip ?_
     refine W.seq ?_
     refine W.block ?_
     refine W.seq ?_
     obtain ⟨a,r1,e1,hq1⟩ : ∃ a_ b_ c_,inQ r e = (a_,b_,c_) := ⟨_,_,_,rfl⟩
     have hq1l := inQ_len hrl hq1
     refine W.l0 4 [.y 25 _] [] [] [(0,_),(3,_),(4,_),(5,_),(6,_),(25,_)] [(4,.var _),(3,.var _),(0,.var _)] 60 ⟨mU 0 rfl rfl,trivial⟩ rfl rfl rfl rfl (⟨rfl,_,R.callB [(0,0)] hC (show FnB Tryd.prog gl 63 [.ptr 0 0 []] [(0,.var (.agg [.sl none 1 (r.map D.u8),.bool e]))] (inN a) [(0,.var (.agg [.sl none 1 (r1.map D.u8),.bool e1]))] [] from by have h := qinput_ok r e (by omega); rw [hq1] at h; exact h) (EvB.cons (gV 25 rfl) rfl rfl rfl EvB.nil) rfl ⟨rfl,trivial⟩ ⟨rfl,trivial⟩ rfl rfl rfl rfl rfl rfl (nU rfl),⟨rfl,_,R.alloc rfl (nU rfl),⟨rfl,_,R.stZ (gU 7 rfl) (xU 7 rfl) rfl (gV 26 rfl) (by rfl) (by rfl) (by rfl) (by rfl) rfl,tV [(0,_),(3,_),(4,_),(5,_),(6,_),(7,_)] [(7,.var _),(4,.var _),(3,.var _),(0,.var _)] 60 rfl rfl rfl ?_⟩⟩⟩)
     refine W.l0 7 [.y 27 _,.y 28 _,.y 29 _,.y 30 _] [] [] [(0,_),(3,_),(4,_),(5,_),(6,_),(28,_),(30,_)] [(7,.var _),(4,.var _),(3,.var _),(0,.var _)] 60 ⟨aU (fU 3 rfl rfl),aU fun _ B H K => R.ldO (K 27 _ rfl) (B 3 _ rfl) rfl H,aU (lU 7 rfl rfl rfl rfl rfl rfl rfl),aU fun _ _ H K => R.bslE (z := 36) (.cons (eU K 29 rfl) .nil) ⟨⟨rfl,rfl,rfl⟩,trivial⟩ rfl H (by decide),trivial⟩ rfl rfl rfl rfl (⟨rfl,_,R.appBP (gU 28 rfl) (xU 3 rfl) rfl rfl rfl rfl (gU 28 rfl) (SrcO.sc (SC.sl (gU 30 rfl)) (pur_lit rfl)) (show _ = ((l ++ [a]).map inN) from (by rw [List.map_append]; rfl)) bU (nU rfl) (by decide) (by decide),⟨rfl,_,R.fdP (gU 3 rfl) (nU rfl),⟨rfl,_,R.stOZ (gU 32 rfl) (xU 3 rfl) rfl (gU 31 rfl) rfl rfl (by rfl) (by rfl) rfl rfl,tV [(0,_),(3,_),(4,_),(5,_),(6,_)] [(7,.var _),(4,.var _),(3,.var _),(0,.var _)] 60 rfl rfl rfl ?_⟩⟩⟩)
     refine W.dropB [0,3,4] (bx' := [(4,.var _),(3,.var _),(0,.var _)]) rfl rfl rfl (pin_sub hD rfl) ?_
     refine W.l0 3 [.y 23 _,.y 24 _,.y 6 _] [] [] [(0,_),(3,_),(4,_),(5,_),(6,_)] [(4,.var _),(3,.var _),(0,.var _)] 60 ⟨mU 6 rfl rfl,aU fun _ _ H K => R.addN (i) (1) (eU K 23 rfl) (kI 1 rfl) bU H,aU fun _ _ H K => R.asg (eU K 24 rfl) rfl H,trivial⟩ rfl rfl rfl rfl (tU rfl ?_)
     exact ⟨⟨(i + 1,l ++ [a],r1,e1),⟨by omega,by simp [hll],(show r1.length ≤ 100000 by omega),insQ_step hv h1 hc22 hq1⟩⟩,rfl,(by simp only []; omega)⟩
   · have hI : insQ n [] r0 e0 = (l,r,e) := insQ_end hv (by first | exact .inl h1 | exact .inr hc22)
     refine W.exit ?_
     refine W.seq ?_
     obtain ⟨m,r5,e5,hq⟩ : ∃ a_ b_ c_,cntQ r e = (a_,b_,c_) := ⟨_,_,_,rfl⟩
     have hql := cntQ_len (by omega) hq
     refine W.l0 3 [.y 33 _] [] [] [(0,_),(3,_),(4,_),(5,_),(33,_)] [(4,.var _),(3,.var _),(0,.var _)] 60 ⟨mU 0 rfl rfl,trivial⟩ rfl rfl rfl rfl (⟨rfl,_,R.callB [(0,0)] hC (show FnB Tryd.prog gl 50 [.ptr 0 0 []] [(0,.var (.agg [.sl none 1 (r.map D.u8),.bool e]))] (.int ((m : Nat) : Int)) [(0,.var (.agg [.sl none 1 (r5.map D.u8),.bool e5]))] [] from by have h := qcount_ok r e (by omega); rw [hq] at h; exact h) (EvB.cons (gV 33 rfl) rfl rfl rfl EvB.nil) rfl ⟨rfl,trivial⟩ ⟨rfl,trivial⟩ rfl rfl rfl rfl rfl rfl (nU rfl),⟨rfl,_,R.asg (gV 34 rfl) rfl (nU rfl),tV [(0,_),(3,_),(4,_),(5,_)] [(4,.var _),(3,.var _),(0,.var _)] 60 rfl rfl rfl ?_⟩⟩)
     refine W.seq ?_
     refine W.seq ?_
     refine W.l0 1 [.y 8 _] [] [] [(0,_),(3,_),(4,_),(5,_),(8,_)] [(4,.var _),(3,.var _),(0,.var _)] 60 ⟨aU fun _ _ H _ => R.asg (kI 0 rfl) rfl H,trivial⟩ rfl rfl rfl rfl (tU rfl ?_)
     refine W.block ?_
     refine W.loop (α := {q__ : Nat × List OutS × List UInt8 × Bool // q__.1 ≤ m ∧ q__.2.1.length = q__.1 ∧ q__.2.2.1.length ≤ 100000 ∧ outsQ (m - q__.1) q__.2.1 q__.2.2.1 q__.2.2.2 = outsQ m [] r5 e5}) (fun q__ => ⟨60,[(0,.ptr 0 0 []),(3,.ptr 3 0 []),(4,.ptr 4 0 []),(5,.int ((m : Nat) : Int)),(8,.int ((q__.1.1 : Nat) : Int))],[(4,.var (.agg [.u32 0,.nils,.nils,.u32 0])),(3,.var (.agg [.u32 v,.sl (some 56) 36 (l.map inN),.sl (some 46) 2 (q__.1.2.1.map outD),.u32 k])),(0,.var (.agg [.sl none 1 (q__.1.2.2.1.map D.u8),.bool q__.1.2.2.2]))]⟩) (fun q__ => m - q__.1.1) ⟨(0,[],r5,e5),⟨Nat.zero_le _,rfl,(show r5.length ≤ 100000 by omega),rfl⟩⟩ rfl ?_
     rintro ⟨⟨j,o,u,f⟩,⟨hj,hol,hul,hv2⟩⟩
     show W _ _ _ _ ⟨60,[(0,.ptr 0 0 []),(3,.ptr 3 0 []),(4,.ptr 4 0 []),(5,.int ((m : Nat) : Int)),(8,.int ((j : Nat) : Int))],[(4,.var (.agg [.u32 0,.nils,.nils,.u32 0])),(3,.var (.agg [.u32 v,.sl (some 56) 36 (l.map inN),.sl (some 46) 2 (o.map outD),.u32 k])),(0,.var (.agg [.sl none 1 (u.map D.u8),.bool f]))]⟩
     have hj : j ≤ m := hj
     have hol : o.length = j := hol
     have hul : u.length ≤ 100000 := hul
     have hv2 : outsQ (m - j) o u f = outsQ m [] r5 e5 := hv2
     refine W.seq ?_
     refine W.seq ?_
     by_cases h2 : j < m
     · refine W.l0 10 [.y 35 _,.y 36 _,.y 37 _,.y 38 _,.y 39 _,.y 40 _,.y 41 _,.y 42 _,.y 43 _,.y 44 _] [] [] [(0,_),(3,_),(4,_),(5,_),(8,_),(44,_)] [(4,.var _),(3,.var _),(0,.var _)] 60 ⟨mU 8 rfl rfl,mU 5 rfl rfl,aU fun _ _ H K => R.lssN (j) (m) (eU K 35 rfl) (eU K 36 rfl) H,mU 37 rfl rfl,aW rfl rfl (gT (decide_eq_true h2) rfl) fun _ _ H K => R.mov (eU K 0 rfl) rfl H,aW rfl rfl (gT (decide_eq_true h2) rfl) fun _ _ H K => R.nilcP (K 39 _ rfl) H,aW rfl rfl (gT (decide_eq_true h2) rfl) (fU 40 rfl rfl),aW rfl rfl (gT (decide_eq_true h2) rfl) (lU 41 rfl rfl rfl rfl rfl rfl rfl),aW rfl rfl (gT (decide_eq_true h2) rfl) fun _ _ H K => R.un (eU K 42 rfl) rfl H,aU fun _ _ H K => R.pickT (eU K 38 rfl) (decide_eq_true h2) (eU K 43 rfl) rfl H,trivial⟩ rfl rfl rfl rfl (tU rfl ?_)
       refine W.cond rfl (fun hc44 => ?_) (fun hc44 => ?_)
       · refine W.skip ?_
         refine W.seq ?_
         refine W.block ?_
         refine W.seq ?_
         obtain ⟨p,u1,f1,hq3⟩ : ∃ a_ b_ c_,numQ u f 8 = (a_,b_,c_) := ⟨_,_,_,rfl⟩
         have hq3l := numQ_len hq3
         refine W.l0 3 [.y 47 _] [] [] [(0,_),(3,_),(4,_),(5,_),(8,_),(47,_)] [(4,.var _),(3,.var _),(0,.var _)] 60 ⟨mU 0 rfl rfl,trivial⟩ rfl rfl rfl rfl (⟨rfl,_,R.callB [(0,0)] hC (show FnB Tryd.prog gl 47 [.ptr 0 0 [],.int ((8 : Nat) : Int)] [(0,.var (.agg [.sl none 1 (u.map D.u8),.bool f]))] (.u64 p) [(0,.var (.agg [.sl none 1 (u1.map D.u8),.bool f1]))] [] from by have h := qnumber_ok u f (by omega) 8 (by decide); rw [hq3] at h; exact h) (EvB.cons (gV 47 rfl) rfl rfl rfl (EvB.cons (kI 8 rfl) rfl rfl rfl EvB.nil)) rfl ⟨rfl,trivial⟩ ⟨rfl,trivial⟩ rfl rfl rfl rfl rfl rfl (nU rfl),⟨rfl,_,R.asg (gV 48 rfl) rfl (nU rfl),tV [(0,_),(3,_),(4,_),(5,_),(8,_),(9,_)] [(4,.var _),(3,.var _),(0,.var _)] 60 rfl rfl rfl ?_⟩⟩)
         refine W.seq ?_
         obtain ⟨s,u2,f2,hq4⟩ : ∃ a_ b_ c_,itmQ u1 f1 = (a_,b_,c_) := ⟨_,_,_,rfl⟩
         have hq4l := itmQ_len (by omega) hq4
         refine W.l0 3 [.y 49 _] [] [] [(0,_),(3,_),(4,_),(5,_),(8,_),(9,_),(49,_)] [(4,.var _),(3,.var _),(0,.var _)] 60 ⟨mU 0 rfl rfl,trivial⟩ rfl rfl rfl rfl (⟨rfl,_,R.frzT (r' := .sl none 1 (s.map D.u8)) (R.callB [(0,0)] hC (show FnB Tryd.prog gl 51 [.ptr 0 0 []] [(0,.var (.agg [.sl none 1 (u1.map D.u8),.bool f1]))] (.sl (some 5) 1 (s.map D.u8)) [(0,.var (.agg [.sl none 1 (u2.map D.u8),.bool f2]))] [] from by have h := qitem_ok u1 f1 (by omega); rw [hq4] at h; exact h) (EvB.cons (gV 49 rfl) rfl rfl rfl EvB.nil) rfl ⟨rfl,trivial⟩ ⟨rfl,trivial⟩ rfl rfl rfl rfl rfl rfl (nU rfl)) rfl (show (.sl (some 5) 1 (s.map D.u8) : D).brw = _ from by simp only [D.brw,brws_eq]; rw [brw_map (fun _ => rfl)]),⟨rfl,_,R.asg (gV 50 rfl) rfl (nU rfl),tV [(0,_),(3,_),(4,_),(5,_),(8,_),(9,_),(10,_)] [(4,.var _),(3,.var _),(0,.var _)] 60 rfl rfl rfl ?_⟩⟩)
         refine W.l0 9 [.y 51 _,.y 52 _,.y 53 _,.y 54 _,.y 55 _,.y 56 _] [] [] [(0,_),(3,_),(4,_),(5,_),(8,_),(52,_),(56,_)] [(4,.var _),(3,.var _),(0,.var _)] 60 ⟨aU (fU 3 rfl rfl),aU fun _ B H K => R.ldO (K 51 _ rfl) (B 3 _ rfl) rfl H,mU 9 rfl rfl,mU 10 rfl rfl,aU fun _ _ H K => R.bldSE (l := [.u64 0,.nils]) (l' := [_,_]) (.cons (eU K 53 rfl) (.cons (eU K 54 rfl) (.nil rfl))) ⟨⟨_,(eU K 53 rfl),rfl,rfl,rfl⟩,⟨⟨_,(eU K 54 rfl),rfl,rfl,rfl⟩,trivial⟩⟩ H,aU fun _ _ H K => R.bslE (z := 2) (.cons (eU K 55 rfl) .nil) ⟨⟨rfl,rfl,rfl⟩,trivial⟩ rfl H (by decide),trivial⟩ rfl rfl rfl rfl (⟨rfl,_,R.appBP (gU 52 rfl) (xU 3 rfl) rfl rfl rfl rfl (gU 52 rfl) (SrcO.sc (SC.sl (gU 56 rfl)) (pur_lit rfl)) (show _ = ((o ++ [(⟨p,s⟩ : OutS)]).map outD) from (by rw [List.map_append]; rfl)) bU (nU rfl) (by decide) (by decide),⟨rfl,_,R.fdP (gU 3 rfl) (nU rfl),⟨rfl,_,R.stOZ (gU 58 rfl) (xU 3 rfl) rfl (gU 57 rfl) rfl rfl (by rfl) (by rfl) rfl rfl,tV [(0,_),(3,_),(4,_),(5,_),(8,_)] [(4,.var _),(3,.var _),(0,.var _)] 60 rfl rfl rfl ?_⟩⟩⟩)
         refine W.l0 3 [.y 45 _,.y 46 _,.y 8 _] [] [] [(0,_),(3,_),(4,_),(5,_),(8,_)] [(4,.var _),(3,.var _),(0,.var _)] 60 ⟨mU 8 rfl rfl,aU fun _ _ H K => R.addN (j) (1) (eU K 45 rfl) (kI 1 rfl) bU H,aU fun _ _ H K => R.asg (eU K 46 rfl) rfl H,trivial⟩ rfl rfl rfl rfl (tU rfl ?_)
         exact ⟨⟨(j + 1,o ++ [(⟨p,s⟩ : OutS)],u2,f2),⟨by omega,by simp [hol],(show u2.length ≤ 100000 by omega),outsQ_step hv2 h2 hc44 (outQ_eq hq3 hq4)⟩⟩,rfl,(by simp only []; omega)⟩
       · have hO : outsQ m [] r5 e5 = (o,u,f) := outsQ_end hv2 (by first | exact .inl h2 | exact .inr hc44)
         refine W.exit ?_
         refine W.seq ?_
         refine W.l0 2 [] [] [] [(3,_),(4,_)] [(4,.var _),(3,.var _),(0,.var _)] 60 trivial rfl rfl rfl rfl (⟨rfl,_,R.ldTake (gU 3 rfl) (xU 3 rfl) rfl rfl rfl (nU rfl),⟨rfl,_,R.stOZ (gU 4 rfl) (xU 4 rfl) rfl (gU 59 rfl) rfl rfl (by rfl) (by rfl) rfl rfl,tV [(4,_)] [(4,.var _),(3,.var _),(0,.var _)] 60 rfl rfl rfl ?_⟩⟩)
         refine W.ret ?_
         exact EndsB.one' (.inr rfl) rfl (by rw [bodyQ_eq hp hI hq hO] <;> rfl) rfl (show LdT _ 26 4 true from inferInstance) rfl rfl (by rw [bodyQ_eq hp hI hq hO] <;> rfl) ⟨rfl,trivial⟩ rfl
     · refine W.l0 10 [.y 35 _,.y 36 _,.y 37 _,.y 38 _,.x 39,.x 40,.x 41,.x 42,.x 43,.y 44 _] [] [] [(0,_),(3,_),(4,_),(5,_),(8,_),(44,_)] [(4,.var _),(3,.var _),(0,.var _)] 60 ⟨mU 8 rfl rfl,mU 5 rfl rfl,aU fun _ _ H K => R.lssN (j) (m) (eU K 35 rfl) (eU K 36 rfl) H,mU 37 rfl rfl,aF rfl rfl (gF (decide_eq_false h2) rfl),aF rfl rfl (gF (decide_eq_false h2) rfl),aF rfl rfl (gF (decide_eq_false h2) rfl),aF rfl rfl (gF (decide_eq_false h2) rfl),aF rfl rfl (gF (decide_eq_false h2) rfl),aU fun _ _ H K => R.pickF (eU K 38 rfl) (decide_eq_false h2) (kB false rfl) rfl H,trivial⟩ rfl rfl rfl rfl (tU rfl ?_)
       refine W.condF rfl (rfl) ?_
       have hO : outsQ m [] r5 e5 = (o,u,f) := outsQ_end hv2 (by first | exact .inl h2 | exact .inr hc44)
       refine W.exit ?_
       refine W.seq ?_
       refine W.l0 2 [] [] [] [(3,_),(4,_)] [(4,.var _),(3,.var _),(0,.var _)] 60 trivial rfl rfl rfl rfl (⟨rfl,_,R.ldTake (gU 3 rfl) (xU 3 rfl) rfl rfl rfl (nU rfl),⟨rfl,_,R.stOZ (gU 4 rfl) (xU 4 rfl) rfl (gU 59 rfl) rfl rfl (by rfl) (by rfl) rfl rfl,tV [(4,_)] [(4,.var _),(3,.var _),(0,.var _)] 60 rfl rfl rfl ?_⟩⟩)
       refine W.ret ?_
       exact EndsB.one' (.inr rfl) rfl (by rw [bodyQ_eq hp hI hq hO] <;> rfl) rfl (show LdT _ 26 4 true from inferInstance) rfl rfl (by rw [bodyQ_eq hp hI hq hO] <;> rfl) ⟨rfl,trivial⟩ rfl
 · refine W.l0 10 [.y 13 _,.y 14 _,.y 15 _,.y 16 _,.x 17,.x 18,.x 19,.x 20,.x 21,.y 22 _] [] [] [(0,_),(3,_),(4,_),(5,_),(6,_),(22,_)] [(4,.var _),(3,.var _),(0,.var _)] 60 ⟨mU 6 rfl rfl,mU 5 rfl rfl,aU fun _ _ H K => R.lssN (i) (n) (eU K 13 rfl) (eU K 14 rfl) H,mU 15 rfl rfl,aF rfl rfl (gF (decide_eq_false h1) rfl),aF rfl rfl (gF (decide_eq_false h1) rfl),aF rfl rfl (gF (decide_eq_false h1) rfl),aF rfl rfl (gF (decide_eq_false h1) rfl),aF rfl rfl (gF (decide_eq_false h1) rfl),aU fun _ _ H K => R.pickF (eU K 16 rfl) (decide_eq_false h1) (kB false rfl) rfl H,trivial⟩ rfl rfl rfl rfl (tU rfl ?_)
   refine W.condF rfl (rfl) ?_
   have hI : insQ n [] r0 e0 = (l,r,e) := insQ_end hv (by first | exact .inl h1 | exact .inr hc22)
   refine W.exit ?_
   refine W.seq ?_
   obtain ⟨m,r5,e5,hq⟩ : ∃ a_ b_ c_,cntQ r e = (a_,b_,c_) := ⟨_,_,_,rfl⟩
   have hql := cntQ_len (by omega) hq
   refine W.l0 3 [.y 33 _] [] [] [(0,_),(3,_),(4,_),(5,_),(33,_)] [(4,.var _),(3,.var _),(0,.var _)] 60 ⟨mU 0 rfl rfl,trivial⟩ rfl rfl rfl rfl (⟨rfl,_,R.callB [(0,0)] hC (show FnB Tryd.prog gl 50 [.ptr 0 0 []] [(0,.var (.agg [.sl none 1 (r.map D.u8),.bool e]))] (.int ((m : Nat) : Int)) [(0,.var (.agg [.sl none 1 (r5.map D.u8),.bool e5]))] [] from by have h := qcount_ok r e (by omega); rw [hq] at h; exact h) (EvB.cons (gV 33 rfl) rfl rfl rfl EvB.nil) rfl ⟨rfl,trivial⟩ ⟨rfl,trivial⟩ rfl rfl rfl rfl rfl rfl (nU rfl),⟨rfl,_,R.asg (gV 34 rfl) rfl (nU rfl),tV [(0,_),(3,_),(4,_),(5,_)] [(4,.var _),(3,.var _),(0,.var _)] 60 rfl rfl rfl ?_⟩⟩)
   refine W.seq ?_
   refine W.seq ?_
   refine W.l0 1 [.y 8 _] [] [] [(0,_),(3,_),(4,_),(5,_),(8,_)] [(4,.var _),(3,.var _),(0,.var _)] 60 ⟨aU fun _ _ H _ => R.asg (kI 0 rfl) rfl H,trivial⟩ rfl rfl rfl rfl (tU rfl ?_)
   refine W.block ?_
   refine W.loop (α := {q__ : Nat × List OutS × List UInt8 × Bool // q__.1 ≤ m ∧ q__.2.1.length = q__.1 ∧ q__.2.2.1.length ≤ 100000 ∧ outsQ (m - q__.1) q__.2.1 q__.2.2.1 q__.2.2.2 = outsQ m [] r5 e5}) (fun q__ => ⟨60,[(0,.ptr 0 0 []),(3,.ptr 3 0 []),(4,.ptr 4 0 []),(5,.int ((m : Nat) : Int)),(8,.int ((q__.1.1 : Nat) : Int))],[(4,.var (.agg [.u32 0,.nils,.nils,.u32 0])),(3,.var (.agg [.u32 v,.sl (some 56) 36 (l.map inN),.sl (some 46) 2 (q__.1.2.1.map outD),.u32 k])),(0,.var (.agg [.sl none 1 (q__.1.2.2.1.map D.u8),.bool q__.1.2.2.2]))]⟩) (fun q__ => m - q__.1.1) ⟨(0,[],r5,e5),⟨Nat.zero_le _,rfl,(show r5.length ≤ 100000 by omega),rfl⟩⟩ rfl ?_
   rintro ⟨⟨j,o,u,f⟩,⟨hj,hol,hul,hv2⟩⟩
   show W _ _ _ _ ⟨60,[(0,.ptr 0 0 []),(3,.ptr 3 0 []),(4,.ptr 4 0 []),(5,.int ((m : Nat) : Int)),(8,.int ((j : Nat) : Int))],[(4,.var (.agg [.u32 0,.nils,.nils,.u32 0])),(3,.var (.agg [.u32 v,.sl (some 56) 36 (l.map inN),.sl (some 46) 2 (o.map outD),.u32 k])),(0,.var (.agg [.sl none 1 (u.map D.u8),.bool f]))]⟩
   have hj : j ≤ m := hj
   have hol : o.length = j := hol
   have hul : u.length ≤ 100000 := hul
   have hv2 : outsQ (m - j) o u f = outsQ m [] r5 e5 := hv2
   refine W.seq ?_
   refine W.seq ?_
   by_cases h2 : j < m
   · refine W.l0 10 [.y 35 _,.y 36 _,.y 37 _,.y 38 _,.y 39 _,.y 40 _,.y 41 _,.y 42 _,.y 43 _,.y 44 _] [] [] [(0,_),(3,_),(4,_),(5,_),(8,_),(44,_)] [(4,.var _),(3,.var _),(0,.var _)] 60 ⟨mU 8 rfl rfl,mU 5 rfl rfl,aU fun _ _ H K => R.lssN (j) (m) (eU K 35 rfl) (eU K 36 rfl) H,mU 37 rfl rfl,aW rfl rfl (gT (decide_eq_true h2) rfl) fun _ _ H K => R.mov (eU K 0 rfl) rfl H,aW rfl rfl (gT (decide_eq_true h2) rfl) fun _ _ H K => R.nilcP (K 39 _ rfl) H,aW rfl rfl (gT (decide_eq_true h2) rfl) (fU 40 rfl rfl),aW rfl rfl (gT (decide_eq_true h2) rfl) (lU 41 rfl rfl rfl rfl rfl rfl rfl),aW rfl rfl (gT (decide_eq_true h2) rfl) fun _ _ H K => R.un (eU K 42 rfl) rfl H,aU fun _ _ H K => R.pickT (eU K 38 rfl) (decide_eq_true h2) (eU K 43 rfl) rfl H,trivial⟩ rfl rfl rfl rfl (tU rfl ?_)
     refine W.cond rfl (fun hc44 => ?_) (fun hc44 => ?_)
     · refine W.skip ?_
       refine W.seq ?_
       refine W.block ?_
       refine W.seq ?_
       obtain ⟨p,u1,f1,hq3⟩ : ∃ a_ b_ c_,numQ u f 8 = (a_,b_,c_) := ⟨_,_,_,rfl⟩
       have hq3l := numQ_len hq3
       refine W.l0 3 [.y 47 _] [] [] [(0,_),(3,_),(4,_),(5,_),(8,_),(47,_)] [(4,.var _),(3,.var _),(0,.var _)] 60 ⟨mU 0 rfl rfl,trivial⟩ rfl rfl rfl rfl (⟨rfl,_,R.callB [(0,0)] hC (show FnB Tryd.prog gl 47 [.ptr 0 0 [],.int ((8 : Nat) : Int)] [(0,.var (.agg [.sl none 1 (u.map D.u8),.bool f]))] (.u64 p) [(0,.var (.agg [.sl none 1 (u1.map D.u8),.bool f1]))] [] from by have h := qnumber_ok u f (by omega) 8 (by decide); rw [hq3] at h; exact h) (EvB.cons (gV 47 rfl) rfl rfl rfl (EvB.cons (kI 8 rfl) rfl rfl rfl EvB.nil)) rfl ⟨rfl,trivial⟩ ⟨rfl,trivial⟩ rfl rfl rfl rfl rfl rfl (nU rfl),⟨rfl,_,R.asg (gV 48 rfl) rfl (nU rfl),tV [(0,_),(3,_),(4,_),(5,_),(8,_),(9,_)] [(4,.var _),(3,.var _),(0,.var _)] 60 rfl rfl rfl ?_⟩⟩)
       refine W.seq ?_
       obtain ⟨s,u2,f2,hq4⟩ : ∃ a_ b_ c_,itmQ u1 f1 = (a_,b_,c_) := ⟨_,_,_,rfl⟩
       have hq4l := itmQ_len (by omega) hq4
       refine W.l0 3 [.y 49 _] [] [] [(0,_),(3,_),(4,_),(5,_),(8,_),(9,_),(49,_)] [(4,.var _),(3,.var _),(0,.var _)] 60 ⟨mU 0 rfl rfl,trivial⟩ rfl rfl rfl rfl (⟨rfl,_,R.frzT (r' := .sl none 1 (s.map D.u8)) (R.callB [(0,0)] hC (show FnB Tryd.prog gl 51 [.ptr 0 0 []] [(0,.var (.agg [.sl none 1 (u1.map D.u8),.bool f1]))] (.sl (some 5) 1 (s.map D.u8)) [(0,.var (.agg [.sl none 1 (u2.map D.u8),.bool f2]))] [] from by have h := qitem_ok u1 f1 (by omega); rw [hq4] at h; exact h) (EvB.cons (gV 49 rfl) rfl rfl rfl EvB.nil) rfl ⟨rfl,trivial⟩ ⟨rfl,trivial⟩ rfl rfl rfl rfl rfl rfl (nU rfl)) rfl (show (.sl (some 5) 1 (s.map D.u8) : D).brw = _ from by simp only [D.brw,brws_eq]; rw [brw_map (fun _ => rfl)]),⟨rfl,_,R.asg (gV 50 rfl) rfl (nU rfl),tV [(0,_),(3,_),(4,_),(5,_),(8,_),(9,_),(10,_)] [(4,.var _),(3,.var _),(0,.var _)] 60 rfl rfl rfl ?_⟩⟩)
       refine W.l0 9 [.y 51 _,.y 52 _,.y 53 _,.y 54 _,.y 55 _,.y 56 _] [] [] [(0,_),(3,_),(4,_),(5,_),(8,_),(52,_),(56,_)] [(4,.var _),(3,.var _),(0,.var _)] 60 ⟨aU (fU 3 rfl rfl),aU fun _ B H K => R.ldO (K 51 _ rfl) (B 3 _ rfl) rfl H,mU 9 rfl rfl,mU 10 rfl rfl,aU fun _ _ H K => R.bldSE (l := [.u64 0,.nils]) (l' := [_,_]) (.cons (eU K 53 rfl) (.cons (eU K 54 rfl) (.nil rfl))) ⟨⟨_,(eU K 53 rfl),rfl,rfl,rfl⟩,⟨⟨_,(eU K 54 rfl),rfl,rfl,rfl⟩,trivial⟩⟩ H,aU fun _ _ H K => R.bslE (z := 2) (.cons (eU K 55 rfl) .nil) ⟨⟨rfl,rfl,rfl⟩,trivial⟩ rfl H (by decide),trivial⟩ rfl rfl rfl rfl (⟨rfl,_,R.appBP (gU 52 rfl) (xU 3 rfl) rfl rfl rfl rfl (gU 52 rfl) (SrcO.sc (SC.sl (gU 56 rfl)) (pur_lit rfl)) (show _ = ((o ++ [(⟨p,s⟩ : OutS)]).map outD) from (by rw [List.map_append]; rfl)) bU (nU rfl) (by decide) (by decide),⟨rfl,_,R.fdP (gU 3 rfl) (nU rfl),⟨rfl,_,R.stOZ (gU 58 rfl) (xU 3 rfl) rfl (gU 57 rfl) rfl rfl (by rfl) (by rfl) rfl rfl,tV [(0,_),(3,_),(4,_),(5,_),(8,_)] [(4,.var _),(3,.var _),(0,.var _)] 60 rfl rfl rfl ?_⟩⟩⟩)
       refine W.l0 3 [.y 45 _,.y 46 _,.y 8 _] [] [] [(0,_),(3,_),(4,_),(5,_),(8,_)] [(4,.var _),(3,.var _),(0,.var _)] 60 ⟨mU 8 rfl rfl,aU fun _ _ H K => R.addN (j) (1) (eU K 45 rfl) (kI 1 rfl) bU H,aU fun _ _ H K => R.asg (eU K 46 rfl) rfl H,trivial⟩ rfl rfl rfl rfl (tU rfl ?_)
       exact ⟨⟨(j + 1,o ++ [(⟨p,s⟩ : OutS)],u2,f2),⟨by omega,by simp [hol],(show u2.length ≤ 100000 by omega),outsQ_step hv2 h2 hc44 (outQ_eq hq3 hq4)⟩⟩,rfl,(by simp only []; omega)⟩
     · have hO : outsQ m [] r5 e5 = (o,u,f) := outsQ_end hv2 (by first | exact .inl h2 | exact .inr hc44)
       refine W.exit ?_
       refine W.seq ?_
       refine W.l0 2 [] [] [] [(3,_),(4,_)] [(4,.var _),(3,.var _),(0,.var _)] 60 trivial rfl rfl rfl rfl (⟨rfl,_,R.ldTake (gU 3 rfl) (xU 3 rfl) rfl rfl rfl (nU rfl),⟨rfl,_,R.stOZ (gU 4 rfl) (xU 4 rfl) rfl (gU 59 rfl) rfl rfl (by rfl) (by rfl) rfl rfl,tV [(4,_)] [(4,.var _),(3,.var _),(0,.var _)] 60 rfl rfl rfl ?_⟩⟩)
       refine W.ret ?_
       exact EndsB.one' (.inr rfl) rfl (by rw [bodyQ_eq hp hI hq hO] <;> rfl) rfl (show LdT _ 26 4 true from inferInstance) rfl rfl (by rw [bodyQ_eq hp hI hq hO] <;> rfl) ⟨rfl,trivial⟩ rfl
   · refine W.l0 10 [.y 35 _,.y 36 _,.y 37 _,.y 38 _,.x 39,.x 40,.x 41,.x 42,.x 43,.y 44 _] [] [] [(0,_),(3,_),(4,_),(5,_),(8,_),(44,_)] [(4,.var _),(3,.var _),(0,.var _)] 60 ⟨mU 8 rfl rfl,mU 5 rfl rfl,aU fun _ _ H K => R.lssN (j) (m) (eU K 35 rfl) (eU K 36 rfl) H,mU 37 rfl rfl,aF rfl rfl (gF (decide_eq_false h2) rfl),aF rfl rfl (gF (decide_eq_false h2) rfl),aF rfl rfl (gF (decide_eq_false h2) rfl),aF rfl rfl (gF (decide_eq_false h2) rfl),aF rfl rfl (gF (decide_eq_false h2) rfl),aU fun _ _ H K => R.pickF (eU K 38 rfl) (decide_eq_false h2) (kB false rfl) rfl H,trivial⟩ rfl rfl rfl rfl (tU rfl ?_)
     refine W.condF rfl (rfl) ?_
     have hO : outsQ m [] r5 e5 = (o,u,f) := outsQ_end hv2 (by first | exact .inl h2 | exact .inr hc44)
     refine W.exit ?_
     refine W.seq ?_
     refine W.l0 2 [] [] [] [(3,_),(4,_)] [(4,.var _),(3,.var _),(0,.var _)] 60 trivial rfl rfl rfl rfl (⟨rfl,_,R.ldTake (gU 3 rfl) (xU 3 rfl) rfl rfl rfl (nU rfl),⟨rfl,_,R.stOZ (gU 4 rfl) (xU 4 rfl) rfl (gU 59 rfl) rfl rfl (by rfl) (by rfl) rfl rfl,tV [(4,_)] [(4,.var _),(3,.var _),(0,.var _)] 60 rfl rfl rfl ?_⟩⟩)
     refine W.ret ?_
     exact EndsB.one' (.inr rfl) rfl (by rw [bodyQ_eq hp hI hq hO] <;> rfl) rfl (show LdT _ 26 4 true from inferInstance) rfl rfl (by rw [bodyQ_eq hp hI hq hO] <;> rfl) ⟨rfl,trivial⟩ rfl

end Go.Sx

namespace Go.Sx
def val : List UInt8 → Nat
 | [] => 0
 | x :: r => x.toNat + 256 * val r
theorem val_lt (l : List UInt8) : val l < 256 ^ l.length := by
 induction l with
 | nil => simp [val]
 | cons x r ih =>
  have := x.toNat_lt
  simp only [val,List.length_cons,Nat.pow_succ]
  omega
theorem val_snoc (l : List UInt8) (x : UInt8) : val (l ++ [x]) = val l + 256 ^ l.length * x.toNat := by
 induction l with
 | nil => simp [val]
 | cons y r ih =>
  simp only [List.cons_append,val,ih,List.length_cons,Nat.pow_succ]
  rw [Nat.mul_add,← Nat.mul_assoc,Nat.mul_comm 256 (256 ^ r.length)]
  omega
theorem p256 (i : Nat) : (256 : Nat) ^ i = 2 ^ (8 * i) := by
 rw [Nat.pow_mul]
theorem numI_val (l : List UInt8) : ∀ i,i ≤ l.length → i ≤ 8 → (numI l i).toNat = val (l.take i) := by
 intro i
 induction i with
 | zero => intro _ _; simp [numI,val]
 | succ i ih =>
  intro h1 h2
  have hi := ih (by omega) (by omega)
  rw [take_snoc (by omega),val_snoc]
  simp only [numI,UInt64.toNat_or,hi,shl_u64_toNat,UInt8.toNat_toUInt64]
  have hl : (l.take i).length = i := by simp; omega
  rw [hl,Nat.min_eq_left (by omega)]
  have hx := l[i]!.toNat_lt
  have hv : val (l.take i) < 2 ^ (8 * i) := by have := val_lt (l.take i); rw [hl,p256] at this; exact this
  have hp : 2 ^ (8 * i) ≤ 2 ^ 56 := Nat.pow_le_pow_right (by decide) (by omega)
  rw [Nat.mod_eq_of_lt (by
   have : l[i]!.toNat * 2 ^ (8 * i) ≤ 255 * 2 ^ 56 := Nat.mul_le_mul (by omega) hp
   omega)]
  rw [Nat.or_comm,Nat.mul_comm,← Nat.two_pow_add_eq_or_of_lt hv,p256]
  omega
theorem numB_val (l : List UInt8) (h8 : l.length ≤ 8) : ∀ k,k ≤ l.length → (numB l k).toNat = val (l.drop (l.length - k)) := by
 intro k
 induction k with
 | zero => intro _; simp [numB,val]
 | succ k ih =>
  intro h1
  have hi := ih (by omega)
  have hd : l.drop (l.length - (k + 1)) = l[l.length - 1 - k]! :: l.drop (l.length - k) := by
   rw [List.drop_eq_getElem_cons (show l.length - (k + 1) < l.length by omega)]
   rw [getElem!_pos l (l.length - 1 - k) (by omega)]
   have e1 : l.length - (k + 1) + 1 = l.length - k := by omega
   have e2 : l[l.length - (k + 1)] = l[l.length - 1 - k] := by congr 1; omega
   rw [e1,e2]
  rw [hd]
  simp only [numB,UInt64.toNat_or,hi,shl_u64_toNat,UInt8.toNat_toUInt64,val]
  have hx := (l[l.length - 1 - k]!).toNat_lt
  have hl : (l.drop (l.length - k)).length = k := by simp; omega
  have hv : val (l.drop (l.length - k)) < 2 ^ (8 * k) := by have := val_lt (l.drop (l.length - k)); rw [hl,p256] at this; exact this
  have hp : 2 ^ (8 * k) ≤ 2 ^ 56 := Nat.pow_le_pow_right (by decide) (by omega)
  have e8 : (2 : Nat) ^ (min 8 64) = 2 ^ 8 := rfl
  rw [e8,Nat.mod_eq_of_lt (by omega),Nat.mul_comm,← Nat.two_pow_add_eq_or_of_lt (show (l[l.length - 1 - k]!).toNat < 2 ^ 8 by omega)]
  omega
theorem numB_numI (l : List UInt8) (h : l.length ≤ 8) : numB l l.length = numI l l.length := by
 apply UInt64.toNat_inj.1
 rw [numB_val l h _ (Nat.le_refl _),numI_val l _ (Nat.le_refl _) h,Nat.sub_self,List.drop_zero,List.take_length]

section
variable {b r u : List UInt8} {e : Bool} {n : Nat} {x y : UInt64} {s : List UInt8} {ins l : List InS} {outs o : List OutS}
theorem takeB_iff : takeB b e n = (s,r,false) ↔ e = false ∧ takeO b n = some (s,r) := by
 unfold takeB takeO
 cases e with
 | true => simp
 | false =>
  by_cases h : b.length < n
  · have h2 : ¬ n ≤ b.length := by omega
    simp [h,h2]
  · have h2 : n ≤ b.length := by omega
    simp [h,h2]
theorem numQ_iff (hn : n ≤ 8) : numQ b e n = (x,r,false) ↔ e = false ∧ numO b n = some (x,r) := by
 unfold numQ numO
 obtain ⟨s,r',e',hs⟩ : ∃ a c d,takeB b e n = (a,c,d) := ⟨_,_,_,rfl⟩
 rw [hs]
 simp only
 constructor
 · intro h
   simp only [Prod.mk.injEq] at h
   obtain ⟨h1,rfl,rfl⟩ := h
   obtain ⟨h2,h3⟩ := takeB_iff.1 hs
   refine ⟨h2, ?_⟩
   rw [h3,Option.map_some,← h1,numB_numI _ (by have := takeO_len h3; omega)]
 · rintro ⟨h1,h2⟩
   cases ht : takeO b n with
   | none => rw [ht] at h2; cases h2
   | some q =>
    obtain ⟨s2,r2⟩ := q
    rw [ht] at h2
    simp only [Option.map_some,Option.some.injEq,Prod.mk.injEq] at h2
    have h3 := takeB_iff.2 ⟨h1,ht⟩
    rw [hs] at h3
    simp only [Prod.mk.injEq] at h3
    obtain ⟨rfl,rfl,rfl⟩ := h3
    obtain ⟨h4,rfl⟩ := h2
    rw [numB_numI _ (by have := takeO_len ht; omega),h4]
theorem cntF_iff {m : Nat} : cntF y u e = (m,r,false) ↔ e = false ∧ (if UInt64.ofInt ((u.length : Nat) : Int) < y then none else some (y.toNat,u)) = some (m,r) := by
 unfold cntF
 split
 · simp
 · simp only [Prod.mk.injEq,Option.some.injEq]
   constructor
   · rintro ⟨h1,h2,h3⟩; exact ⟨h3,h1,h2⟩
   · rintro ⟨h3,h1,h2⟩; exact ⟨h1,h2,h3⟩
theorem cntQ_iff : cntQ b e = (n,r,false) ↔ e = false ∧ cntO b = some (n,r) := by
 obtain ⟨x,r1,e1,hp⟩ : ∃ x r d,numQ b e 1 = (x,r,d) := ⟨_,_,_,rfl⟩
 -- the second number
 have two : ∀ m y r2 e2,m ≤ 8 → m = n2 x → 253 ≤ x → numQ r1 e1 m = (y,r2,e2) → cntQ b e = cntF y r2 e2 → (cntQ b e = (n,r,false) ↔ e = false ∧ cntO b = some (n,r)) := by
  intro m y r2 e2 hm hm2 h7 hq hc
  rw [hc]
  constructor
  · intro h
    obtain ⟨he2,h2⟩ := cntF_iff.1 h
    subst he2
    obtain ⟨he1,h3⟩ := (numQ_iff hm).1 hq
    subst he1
    obtain ⟨he,h4⟩ := (numQ_iff (by decide)).1 hp
    exact ⟨he,by rw [cntO_big h4 h7 (by rw [← hm2]; exact h3)]; exact h2⟩
  · rintro ⟨he,h⟩
    cases h1 : numO b 1 with
    | none => rw [cntO_none1 h1] at h; cases h
    | some q =>
     obtain ⟨x',r1'⟩ := q
     have h2 := (numQ_iff (by decide)).2 ⟨he,h1⟩
     rw [hp] at h2
     simp only [Prod.mk.injEq] at h2
     obtain ⟨rfl,rfl,rfl⟩ := h2
     cases h3 : numO r1 (n2 x) with
     | none => rw [cntO_none2 h1 h7 h3] at h; cases h
     | some q =>
      obtain ⟨y',r2'⟩ := q
      have h4 := (numQ_iff hm).2 ⟨rfl,by rw [hm2]; exact h3⟩
      rw [hq] at h4
      simp only [Prod.mk.injEq] at h4
      obtain ⟨rfl,rfl,rfl⟩ := h4
      rw [cntO_big h1 h7 h3] at h
      exact cntF_iff.2 ⟨rfl,h⟩
 have nx : ∀ m,∃ y r2 e2,numQ r1 e1 m = (y,r2,e2) := fun m => ⟨_,_,_,rfl⟩
 by_cases h1 : x = 253
 · obtain ⟨y,r2,e2,hq⟩ := nx 2
   subst h1
   exact two 2 y r2 e2 (by decide) rfl (by decide) hq (cq_253 hp rfl hq)
 · by_cases h2 : x = 254
   · obtain ⟨y,r2,e2,hq⟩ := nx 4
     subst h2
     exact two 4 y r2 e2 (by decide) rfl (by decide) hq (cq_254 hp h1 rfl hq)
   · by_cases h3 : x = 255
     · obtain ⟨y,r2,e2,hq⟩ := nx 8
       subst h3
       exact two 8 y r2 e2 (by decide) rfl (by decide) hq (cq_255 hp h1 h2 rfl hq)
     · rw [cq_0 hp h1 h2 h3]
       have small : ∀ {z : UInt64} {r' : List UInt8},numO b 1 = some (z,r') → z = x → ¬ 253 ≤ x := by
        intro z r' hz hzx
        have := numO_one hz
        rw [hzx] at this
        intro hc
        rw [UInt64.le_iff_toNat_le] at hc
        have e3 : (253 : UInt64).toNat = 253 := rfl
        have h1' : x.toNat ≠ 253 := fun h => h1 (UInt64.toNat_inj.1 h)
        have h2' : x.toNat ≠ 254 := fun h => h2 (UInt64.toNat_inj.1 h)
        have h3' : x.toNat ≠ 255 := fun h => h3 (UInt64.toNat_inj.1 h)
        omega
       constructor
       · intro h
         obtain ⟨he1,h4⟩ := cntF_iff.1 h
         subst he1
         obtain ⟨he,h5⟩ := (numQ_iff (by decide)).1 hp
         exact ⟨he,by rw [cntO_small h5 (small h5 rfl)]; exact h4⟩
       · rintro ⟨he,h⟩
         cases h5 : numO b 1 with
         | none => rw [cntO_none1 h5] at h; cases h
         | some q =>
          obtain ⟨x',r1'⟩ := q
          have h6 := (numQ_iff (by decide)).2 ⟨he,h5⟩
          rw [hp] at h6
          simp only [Prod.mk.injEq] at h6
          obtain ⟨rfl,rfl,rfl⟩ := h6
          rw [cntO_small h5 (small h5 rfl)] at h
          exact cntF_iff.2 ⟨rfl,h⟩
theorem itmQ_iff : itmQ b e = (s,r,false) ↔ e = false ∧ itemO b = some (s,r) := by
 obtain ⟨n,r1,e1,hc⟩ : ∃ a c d,cntQ b e = (a,c,d) := ⟨_,_,_,rfl⟩
 have hi : itmQ b e = takeB r1 e1 n := by unfold itmQ; rw [hc]
 rw [hi]
 unfold itemO
 constructor
 · intro h
   obtain ⟨he1,h2⟩ := takeB_iff.1 h
   subst he1
   obtain ⟨he,h3⟩ := cntQ_iff.1 hc
   exact ⟨he,by rw [h3]; exact h2⟩
 · rintro ⟨he,h⟩
   cases h3 : cntO b with
   | none => rw [h3] at h; cases h
   | some q =>
    obtain ⟨n',r'⟩ := q
    rw [h3] at h
    have h4 := cntQ_iff.2 ⟨he,h3⟩
    rw [hc] at h4
    simp only [Prod.mk.injEq] at h4
    obtain ⟨rfl,rfl,rfl⟩ := h4
    exact takeB_iff.2 ⟨rfl,h⟩
theorem padH_full {x : List UInt8} (h : x.length = 32) : padH x = x := by
 unfold padH cpI
 rw [List.take_length,h]; simp
theorem inQ_iff {a : InS} : inQ b e = (a,r,false) ↔ e = false ∧ inO b = some (a,r) := by
 obtain ⟨x,r1,e1,h1⟩ : ∃ a c d,takeB b e 32 = (a,c,d) := ⟨_,_,_,rfl⟩
 obtain ⟨p,r2,e2,h2⟩ : ∃ a c d,numQ r1 e1 4 = (a,c,d) := ⟨_,_,_,rfl⟩
 obtain ⟨s,r3,e3,h3⟩ : ∃ a c d,itmQ r2 e2 = (a,c,d) := ⟨_,_,_,rfl⟩
 obtain ⟨q,r4,e4,h4⟩ : ∃ a c d,numQ r3 e3 4 = (a,c,d) := ⟨_,_,_,rfl⟩
 rw [inQ_eq h1 h2 h3 h4]
 constructor
 · intro h
   simp only [Prod.mk.injEq] at h
   obtain ⟨ha,rfl,rfl⟩ := h
   obtain ⟨g3,k4⟩ := (numQ_iff (by decide)).1 h4
   subst g3
   obtain ⟨g2,k3⟩ := itmQ_iff.1 h3
   subst g2
   obtain ⟨g1,k2⟩ := (numQ_iff (by decide)).1 h2
   subst g1
   obtain ⟨g0,k1⟩ := takeB_iff.1 h1
   refine ⟨g0, ?_⟩
   rw [inO_s k1 k2 k3 k4,← ha,padH_full (takeO_len k1).1]
 · rintro ⟨he,h⟩
   cases k1 : takeO b 32 with
   | none => rw [inO_n1 k1] at h; cases h
   | some y =>
    obtain ⟨x',r1'⟩ := y
    have g1 := takeB_iff.2 ⟨he,k1⟩
    rw [h1] at g1
    simp only [Prod.mk.injEq] at g1
    obtain ⟨rfl,rfl,rfl⟩ := g1
    cases k2 : numO r1 4 with
    | none => rw [inO_n2 k1 k2] at h; cases h
    | some y =>
     obtain ⟨p',r2'⟩ := y
     have g2 := (numQ_iff (by decide)).2 ⟨rfl,k2⟩
     rw [h2] at g2
     simp only [Prod.mk.injEq] at g2
     obtain ⟨rfl,rfl,rfl⟩ := g2
     cases k3 : itemO r2 with
     | none => rw [inO_n3 k1 k2 k3] at h; cases h
     | some y =>
      obtain ⟨s',r3'⟩ := y
      have g3 := itmQ_iff.2 ⟨rfl,k3⟩
      rw [h3] at g3
      simp only [Prod.mk.injEq] at g3
      obtain ⟨rfl,rfl,rfl⟩ := g3
      cases k4 : numO r3 4 with
      | none => rw [inO_n4 k1 k2 k3 k4] at h; cases h
      | some y =>
       obtain ⟨q',r4'⟩ := y
       have g4 := (numQ_iff (by decide)).2 ⟨rfl,k4⟩
       rw [h4] at g4
       simp only [Prod.mk.injEq] at g4
       obtain ⟨rfl,rfl,rfl⟩ := g4
       rw [inO_s k1 k2 k3 k4] at h
       cases h
       rw [padH_full (takeO_len k1).1]
theorem outQ_iff {a : OutS} : outQ b e = (a,r,false) ↔ e = false ∧ outO b = some (a,r) := by
 obtain ⟨p,r2,e2,h2⟩ : ∃ a c d,numQ b e 8 = (a,c,d) := ⟨_,_,_,rfl⟩
 obtain ⟨s,r3,e3,h3⟩ : ∃ a c d,itmQ r2 e2 = (a,c,d) := ⟨_,_,_,rfl⟩
 rw [outQ_eq h2 h3]
 constructor
 · intro h
   simp only [Prod.mk.injEq] at h
   obtain ⟨ha,rfl,rfl⟩ := h
   obtain ⟨g2,k3⟩ := itmQ_iff.1 h3
   subst g2
   obtain ⟨g1,k2⟩ := (numQ_iff (by decide)).1 h2
   exact ⟨g1,by rw [outO_s k2 k3,← ha]⟩
 · rintro ⟨he,h⟩
   cases k2 : numO b 8 with
   | none => rw [outO_n1 k2] at h; cases h
   | some y =>
    obtain ⟨p',r2'⟩ := y
    have g2 := (numQ_iff (by decide)).2 ⟨he,k2⟩
    rw [h2] at g2
    simp only [Prod.mk.injEq] at g2
    obtain ⟨rfl,rfl,rfl⟩ := g2
    cases k3 : itemO r2 with
    | none => rw [outO_n2 k2 k3] at h; cases h
    | some y =>
     obtain ⟨s',r3'⟩ := y
     have g3 := itmQ_iff.2 ⟨rfl,k3⟩
     rw [h3] at g3
     simp only [Prod.mk.injEq] at g3
     obtain ⟨rfl,rfl,rfl⟩ := g3
     rw [outO_s k2 k3] at h
     cases h; rfl
theorem insO_succ : insO b (n + 1) = (inO b).bind fun p => (insO p.2 n).map fun q => (p.1 :: q.1,q.2) := by
 induction n with
 | zero =>
  simp only [insO,Option.bind_some]
  cases inO b <;> simp
 | succ n ih =>
  rw [insO,ih]
  cases h : inO b with
  | none => simp
  | some p =>
   simp only [Option.bind_some]
   rw [insO]
   cases insO p.2 n with
   | none => simp
   | some q =>
    simp only [Option.map_some,Option.bind_some]
    cases inO q.2 <;> simp
theorem outsO_succ : outsO b (n + 1) = (outO b).bind fun p => (outsO p.2 n).map fun q => (p.1 :: q.1,q.2) := by
 induction n with
 | zero =>
  simp only [outsO,Option.bind_some]
  cases outO b <;> simp
 | succ n ih =>
  rw [outsO,ih]
  cases h : outO b with
  | none => simp
  | some p =>
   simp only [Option.bind_some]
   rw [outsO]
   cases outsO p.2 n with
   | none => simp
   | some q =>
    simp only [Option.map_some,Option.bind_some]
    cases outO q.2 <;> simp
theorem insQ_iff {acc : List InS} : insQ n acc b e = (l,r,false) ↔ e = false ∧ ∃ l',insO b n = some (l',r) ∧ l = acc ++ l' := by
 induction n generalizing acc b e with
 | zero =>
  simp only [insQ,insO,Prod.mk.injEq,Option.some.injEq]
  constructor
  · rintro ⟨rfl,rfl,rfl⟩; exact ⟨rfl,[],⟨rfl,rfl⟩,by simp⟩
  · rintro ⟨rfl,l',⟨rfl,rfl⟩,rfl⟩; simp
 | succ n ih =>
  cases e with
  | true => simp [insQ]
  | false =>
   obtain ⟨a,r1,e1,h1⟩ : ∃ x y z,inQ b false = (x,y,z) := ⟨_,_,_,rfl⟩
   have hq : insQ (n + 1) acc b false = insQ n (acc ++ [a]) r1 e1 := by simp [insQ,h1]
   rw [hq,ih,insO_succ]
   constructor
   · rintro ⟨rfl,l',h2,rfl⟩
     obtain ⟨_,h3⟩ := inQ_iff.1 h1
     exact ⟨rfl,a :: l',by rw [h3]; simp [h2],by simp⟩
   · rintro ⟨_,l',h2,rfl⟩
     cases h3 : inO b with
     | none => rw [h3] at h2; cases h2
     | some p =>
      obtain ⟨a',r'⟩ := p
      have h4 := inQ_iff.2 ⟨rfl,h3⟩
      rw [h1] at h4
      simp only [Prod.mk.injEq] at h4
      obtain ⟨rfl,rfl,rfl⟩ := h4
      rw [h3,Option.bind_some] at h2
      cases h5 : insO r1 n with
      | none => rw [h5] at h2; cases h2
      | some q =>
       obtain ⟨l2,r2⟩ := q
       rw [h5] at h2
       cases h2
       exact ⟨rfl,l2,rfl,by simp⟩
theorem outsQ_iff {acc : List OutS} : outsQ n acc b e = (o,r,false) ↔ e = false ∧ ∃ l',outsO b n = some (l',r) ∧ o = acc ++ l' := by
 induction n generalizing acc b e with
 | zero =>
  simp only [outsQ,outsO,Prod.mk.injEq,Option.some.injEq]
  constructor
  · rintro ⟨rfl,rfl,rfl⟩; exact ⟨rfl,[],⟨rfl,rfl⟩,by simp⟩
  · rintro ⟨rfl,l',⟨rfl,rfl⟩,rfl⟩; simp
 | succ n ih =>
  cases e with
  | true => simp [outsQ]
  | false =>
   obtain ⟨a,r1,e1,h1⟩ : ∃ x y z,outQ b false = (x,y,z) := ⟨_,_,_,rfl⟩
   have hq : outsQ (n + 1) acc b false = outsQ n (acc ++ [a]) r1 e1 := by simp [outsQ,h1]
   rw [hq,ih,outsO_succ]
   constructor
   · rintro ⟨rfl,l',h2,rfl⟩
     obtain ⟨_,h3⟩ := outQ_iff.1 h1
     exact ⟨rfl,a :: l',by rw [h3]; simp [h2],by simp⟩
   · rintro ⟨_,l',h2,rfl⟩
     cases h3 : outO b with
     | none => rw [h3] at h2; cases h2
     | some p =>
      obtain ⟨a',r'⟩ := p
      have h4 := outQ_iff.2 ⟨rfl,h3⟩
      rw [h1] at h4
      simp only [Prod.mk.injEq] at h4
      obtain ⟨rfl,rfl,rfl⟩ := h4
      rw [h3,Option.bind_some] at h2
      cases h5 : outsO r1 n with
      | none => rw [h5] at h2; cases h2
      | some q =>
       obtain ⟨l2,r2⟩ := q
       rw [h5] at h2
       cases h2
       exact ⟨rfl,l2,rfl,by simp⟩
theorem bodyQ_iff : bodyQ b e = ((l,o),r,false) ↔ e = false ∧ bodyO b = some ((l,o),r) := by
 obtain ⟨n,r0,e0,h1⟩ : ∃ x y z,cntQ b e = (x,y,z) := ⟨_,_,_,rfl⟩
 obtain ⟨l1,r1,e1,h2⟩ : ∃ x y z,insQ n [] r0 e0 = (x,y,z) := ⟨_,_,_,rfl⟩
 obtain ⟨m,r5,e5,h3⟩ : ∃ x y z,cntQ r1 e1 = (x,y,z) := ⟨_,_,_,rfl⟩
 obtain ⟨o1,u,e6,h4⟩ : ∃ x y z,outsQ m [] r5 e5 = (x,y,z) := ⟨_,_,_,rfl⟩
 rw [bodyQ_eq h1 h2 h3 h4]
 constructor
 · intro h
   simp only [Prod.mk.injEq] at h
   obtain ⟨⟨rfl,rfl⟩,rfl,rfl⟩ := h
   obtain ⟨g5,o',k4,rfl⟩ := outsQ_iff.1 h4
   subst g5
   obtain ⟨g1,k3⟩ := cntQ_iff.1 h3
   subst g1
   obtain ⟨g0,l',k2,rfl⟩ := insQ_iff.1 h2
   subst g0
   obtain ⟨g,k1⟩ := cntQ_iff.1 h1
   exact ⟨g,by rw [bodyO_s k1 k2 k3 k4]⟩
 · rintro ⟨he,h⟩
   cases k1 : cntO b with
   | none => rw [bodyO_n1 k1] at h; cases h
   | some y =>
    obtain ⟨n',r0'⟩ := y
    have g1 := cntQ_iff.2 ⟨he,k1⟩
    rw [h1] at g1
    simp only [Prod.mk.injEq] at g1
    obtain ⟨rfl,rfl,rfl⟩ := g1
    cases k2 : insO r0 n with
    | none => rw [bodyO_n2 k1 k2] at h; cases h
    | some y =>
     obtain ⟨l',r1'⟩ := y
     have g2 := insQ_iff.2 ⟨rfl,l',k2,(List.nil_append _).symm⟩
     rw [h2] at g2
     simp only [Prod.mk.injEq] at g2
     obtain ⟨rfl,rfl,rfl⟩ := g2
     cases k3 : cntO r1 with
     | none => rw [bodyO_n3 k1 k2 k3] at h; cases h
     | some y =>
      obtain ⟨m',r5'⟩ := y
      have g3 := cntQ_iff.2 ⟨rfl,k3⟩
      rw [h3] at g3
      simp only [Prod.mk.injEq] at g3
      obtain ⟨rfl,rfl,rfl⟩ := g3
      cases k4 : outsO r5 m with
      | none => rw [bodyO_n4 k1 k2 k3 k4] at h; cases h
      | some y =>
       obtain ⟨o',u'⟩ := y
       have g4 := outsQ_iff.2 ⟨rfl,o',k4,(List.nil_append _).symm⟩
       rw [h4] at g4
       simp only [Prod.mk.injEq] at g4
       obtain ⟨rfl,rfl,rfl⟩ := g4
       rw [bodyO_s k1 k2 k3 k4] at h
       cases h; rfl
end
end Go.Sx

namespace Go.Sx
open Go.Proofs
def itsQ : Nat → List (List UInt8) → List UInt8 → Bool → List (List UInt8) × List UInt8 × Bool
 | 0,ws,b,e => (ws,b,e)
 | n + 1,ws,b,e => if e = true then (ws,b,e) else match itmQ b e with
  | (x,r,e') => itsQ n (ws ++ [x]) r e'
def wtQ (b : List UInt8) (e : Bool) : List (List UInt8) × List UInt8 × Bool := match cntQ b e with
 | (n,r,e1) => itsQ n [] r e1
def witsQ : List InS → List UInt8 → Bool → List InS × List UInt8 × Bool
 | [],b,e => ([],b,e)
 | x :: xs,b,e => match wtQ b e with
  | (ws,r,e1) => match witsQ xs r e1 with
   | (ys,u,e2) => (setW x ws :: ys,u,e2)
def plQ (l : List InS) (z : List InS × List UInt8 × Bool) : List InS × List UInt8 × Bool := (l ++ z.1,z.2)
section
variable {b r r1 r2 r3 r4 u x : List UInt8} {e e1 e2 e3 e4 f : Bool} {n j : Nat} {ws : List (List UInt8)} {ins l rest : List InS} {outs : List OutS} {y : InS} {Z : List InS × List UInt8 × Bool} {Y : List (List UInt8) × List UInt8 × Bool} {p k : UInt64}
theorem itsQ_step (h : itsQ (n - j) ws u e = Y) (hj : j < n) (he : (!e) = true) (h2 : itmQ u e = (x,r1,e1)) : itsQ (n - (j + 1)) (ws ++ [x]) r1 e1 = Y := by
 rw [← h,show n - j = (n - (j + 1)) + 1 by omega]
 have : ¬ e = true := by simpa using he
 simp only [itsQ,if_neg this,h2]
theorem itsQ_end (h : itsQ (n - j) ws u e = Y) (hj : ¬ j < n ∨ (!e) = false) : Y = (ws,u,e) := by
 rw [← h]
 rcases hj with hj | hj
 · rw [show n - j = 0 by omega]; rfl
 · have : e = true := by simpa using hj
   subst this
   cases n - j <;> simp [itsQ]
theorem wtQ_eq (h : cntQ b e = (n,r,e1)) (h2 : itsQ n [] r e1 = (ws,u,f)) : wtQ b e = (ws,u,f) := by unfold wtQ; simp only [h,h2]
theorem wq_step (h : Z = plQ l (witsQ (y :: rest) r e)) (h2 : wtQ r e = (ws,u,f)) : Z = plQ (l ++ [setW y ws]) (witsQ rest u f) := by
 rw [h]; simp only [witsQ,h2,plQ]; simp
theorem wq_end (h : Z = plQ l (witsQ [] r e)) : Z = (l,r,e) := by rw [h]; simp [witsQ,plQ]
theorem itsQ_iff {acc : List (List UInt8)} : itsQ n acc b e = (ws,r,false) ↔ e = false ∧ ∃ w',itemsO n b = some (w',r) ∧ ws = acc ++ w' := by
 induction n generalizing acc b e with
 | zero =>
  simp only [itsQ,itemsO,Prod.mk.injEq,Option.some.injEq]
  constructor
  · rintro ⟨rfl,rfl,rfl⟩; exact ⟨rfl,[],⟨rfl,rfl⟩,by simp⟩
  · rintro ⟨rfl,l',⟨rfl,rfl⟩,rfl⟩; simp
 | succ n ih =>
  cases e with
  | true => simp [itsQ]
  | false =>
   obtain ⟨a,r1,e1,h1⟩ : ∃ x y z,itmQ b false = (x,y,z) := ⟨_,_,_,rfl⟩
   have hq : itsQ (n + 1) acc b false = itsQ n (acc ++ [a]) r1 e1 := by simp [itsQ,h1]
   rw [hq,ih]
   simp only [itemsO]
   constructor
   · rintro ⟨rfl,l',h2,rfl⟩
     obtain ⟨_,h3⟩ := itmQ_iff.1 h1
     exact ⟨by trivial,a :: l',by rw [h3]; simp [h2],by simp⟩
   · rintro ⟨_,l',h2,rfl⟩
     cases h3 : itemO b with
     | none => rw [h3] at h2; cases h2
     | some p =>
      obtain ⟨a',r'⟩ := p
      have h4 := itmQ_iff.2 ⟨rfl,h3⟩
      rw [h1] at h4
      simp only [Prod.mk.injEq] at h4
      obtain ⟨rfl,rfl,rfl⟩ := h4
      rw [h3,Option.bind_some] at h2
      cases h5 : itemsO n r1 with
      | none => simp only [h5] at h2; cases h2
      | some q =>
       obtain ⟨l2,r2⟩ := q
       simp only [h5,Option.bind_some,Option.some.injEq,Prod.mk.injEq] at h2
       obtain ⟨rfl,rfl⟩ := h2
       exact ⟨rfl,l2,rfl,by simp⟩
theorem wtQ_iff : wtQ b e = (ws,r,false) ↔ e = false ∧ witO b = some (ws,r) := by
 obtain ⟨n,r1,e1,h1⟩ : ∃ x y z,cntQ b e = (x,y,z) := ⟨_,_,_,rfl⟩
 have hq : wtQ b e = itsQ n [] r1 e1 := by unfold wtQ; simp only [h1]
 rw [hq,itsQ_iff]
 constructor
 · rintro ⟨rfl,w',h2,rfl⟩
   obtain ⟨g,h3⟩ := cntQ_iff.1 h1
   exact ⟨g,wo_s h3 h2⟩
 · rintro ⟨he,h⟩
   cases h3 : cntO b with
   | none => rw [wo_n1 h3] at h; cases h
   | some p =>
    obtain ⟨n',r'⟩ := p
    have h4 := cntQ_iff.2 ⟨he,h3⟩
    rw [h1] at h4
    simp only [Prod.mk.injEq] at h4
    obtain ⟨rfl,rfl,rfl⟩ := h4
    unfold witO at h
    rw [h3] at h
    exact ⟨rfl,ws,h,(List.nil_append _).symm⟩
theorem witsQ_iff : witsQ ins b e = (l,r,false) ↔ e = false ∧ witsO ins b = some (l,r) := by
 induction ins generalizing b e l r with
 | nil =>
  simp only [witsQ,witsO,Prod.mk.injEq,Option.some.injEq]
  constructor
  · rintro ⟨h1,h2,h3⟩; exact ⟨h3,h1,h2⟩
  · rintro ⟨h3,h1,h2⟩; exact ⟨h1,h2,h3⟩
 | cons x xs ih =>
  obtain ⟨ws,r1,e1,h1⟩ : ∃ x y z,wtQ b e = (x,y,z) := ⟨_,_,_,rfl⟩
  obtain ⟨ys,u,e2,h2⟩ : ∃ x y z,witsQ xs r1 e1 = (x,y,z) := ⟨_,_,_,rfl⟩
  have hq : witsQ (x :: xs) b e = (setW x ws :: ys,u,e2) := by simp only [witsQ,h1,h2]
  rw [hq]
  simp only [witsO]
  constructor
  · intro h
    simp only [Prod.mk.injEq] at h
    obtain ⟨rfl,rfl,rfl⟩ := h
    obtain ⟨rfl,h3⟩ := ih.1 h2
    obtain ⟨g,h4⟩ := wtQ_iff.1 h1
    exact ⟨g,by rw [h4]; simp [h3]⟩
  · rintro ⟨he,h⟩
    cases h4 : witO b with
    | none => rw [h4] at h; cases h
    | some p =>
     obtain ⟨ws',r'⟩ := p
     have h5 := wtQ_iff.2 ⟨he,h4⟩
     rw [h1] at h5
     simp only [Prod.mk.injEq] at h5
     obtain ⟨rfl,rfl,rfl⟩ := h5
     simp only [h4,Option.bind_some] at h
     cases h6 : witsO xs r1 with
     | none => rw [h6] at h; cases h
     | some q =>
      obtain ⟨ys',u'⟩ := q
      have h7 := ih.2 ⟨rfl,h6⟩
      rw [h2] at h7
      simp only [Prod.mk.injEq] at h7
      obtain ⟨rfl,rfl,rfl⟩ := h7
      simp only [h6,Option.bind_some,Option.some.injEq,Prod.mk.injEq] at h
      obtain ⟨rfl,rfl⟩ := h
      rfl
structure GQ (b : List UInt8) (p : UInt64) (r : List UInt8) (e : Bool) (r1 : List UInt8) (e1 : Bool) (ins : List InS) (outs : List OutS) (r2 : List UInt8) (e2 : Bool) (l : List InS) (r3 : List UInt8) (e3 : Bool) (k : UInt64) (r4 : List UInt8) (e4 : Bool) : Prop where
 h1 : numQ b false 4 = (p,r,e)
 h2 : (seenB r = true ∧ ∃ u,takeB r e 2 = (u,r1,e1)) ∨ (seenB r = false ∧ r1 = r ∧ e1 = e)
 h3 : bodyQ r1 e1 = ((ins,outs),r2,e2)
 h4 : (seenB r = true ∧ witsQ ins r2 e2 = (l,r3,e3)) ∨ (seenB r = false ∧ l = ins ∧ r3 = r2 ∧ e3 = e2)
 h5 : numQ r3 e3 4 = (k,r4,e4)
theorem GQ.ok (h : GQ b p r e r1 e1 ins outs r2 e2 l r3 e3 k r4 e4) (he : e4 = false) : numO b 4 = some (p,r) ∧ preO r = some r1 ∧ bodyO r1 = some ((ins,outs),r2) ∧ witQ (seenB r) ins r2 = some (l,r3) ∧ numO r3 4 = some (k,r4) := by
 obtain ⟨h1,h2,h3,h4,h5⟩ := h
 subst he
 obtain ⟨rfl,k5⟩ := (numQ_iff (by decide)).1 h5
 have a4 : e2 = false ∧ witQ (seenB r) ins r2 = some (l,r3) := by
  rcases h4 with ⟨hs,h4⟩ | ⟨hs,rfl,rfl,h4⟩
  · obtain ⟨g,k4⟩ := witsQ_iff.1 h4
    exact ⟨g,by rw [wq_t hs]; exact k4⟩
  · exact ⟨h4.symm,wq_f hs⟩
 obtain ⟨rfl,k4⟩ := a4
 obtain ⟨rfl,k3⟩ := bodyQ_iff.1 h3
 have a2 : e = false ∧ preO r = some r1 := by
  rcases h2 with ⟨hs,u,h2⟩ | ⟨hs,rfl,h2⟩
  · obtain ⟨g,k2⟩ := takeB_iff.1 h2
    exact ⟨g,pre_s hs k2⟩
  · exact ⟨h2.symm,pre_0 hs⟩
 obtain ⟨rfl,k2⟩ := a2
 obtain ⟨_,k1⟩ := (numQ_iff (by decide)).1 h1
 exact ⟨k1,k2,k3,k4,k5⟩
theorem GQ.bad (h : GQ b p r e r1 e1 ins outs r2 e2 l r3 e3 k r4 e4) (he : e4 = true) : getO b = none := by
 obtain ⟨h1,h2,h3,h4,h5⟩ := h
 cases k1 : numO b 4 with
 | none => exact go_1 k1
 | some q =>
  obtain ⟨p',r'⟩ := q
  have g1 := (numQ_iff (by decide)).2 ⟨rfl,k1⟩
  rw [h1] at g1
  simp only [Prod.mk.injEq] at g1
  obtain ⟨rfl,rfl,rfl⟩ := g1
  have a2 : preO r = none ∨ (preO r = some r1 ∧ e1 = false) := by
   rcases h2 with ⟨hs,u,h2⟩ | ⟨hs,rfl,h2⟩
   · cases k2 : takeO r 2 with
     | none => exact .inl (pre_n hs k2)
     | some q =>
      obtain ⟨u',r1'⟩ := q
      have g2 := takeB_iff.2 ⟨rfl,k2⟩
      rw [h2] at g2
      simp only [Prod.mk.injEq] at g2
      obtain ⟨rfl,rfl,rfl⟩ := g2
      exact .inr ⟨pre_s hs k2,rfl⟩
   · exact .inr ⟨pre_0 hs,h2⟩
  rcases a2 with k2 | ⟨k2,rfl⟩
  · exact go_2 k1 k2
  cases k3 : bodyO r1 with
  | none => exact go_3 k1 k2 k3
  | some q =>
   obtain ⟨⟨ins',outs'⟩,r2'⟩ := q
   have g3 := bodyQ_iff.2 ⟨rfl,k3⟩
   rw [h3] at g3
   simp only [Prod.mk.injEq] at g3
   obtain ⟨⟨rfl,rfl⟩,rfl,rfl⟩ := g3
   have a4 : witQ (seenB r) ins r2 = none ∨ (witQ (seenB r) ins r2 = some (l,r3) ∧ e3 = false) := by
    rcases h4 with ⟨hs,h4⟩ | ⟨hs,rfl,rfl,h4⟩
    · rw [wq_t hs]
      cases k4 : witsO ins r2 with
      | none => exact .inl rfl
      | some q =>
       obtain ⟨l',r3'⟩ := q
       have g4 := witsQ_iff.2 ⟨rfl,k4⟩
       rw [h4] at g4
       simp only [Prod.mk.injEq] at g4
       obtain ⟨rfl,rfl,rfl⟩ := g4
       exact .inr ⟨rfl,rfl⟩
    · exact .inr ⟨wq_f hs,h4⟩
   rcases a4 with k4 | ⟨k4,rfl⟩
   · exact go_4 k1 k2 k3 k4
   cases k5 : numO r3 4 with
   | none => exact go_5 k1 k2 k3 k4 k5
   | some q =>
    obtain ⟨k',r4'⟩ := q
    have g5 := (numQ_iff (by decide)).2 ⟨rfl,k5⟩
    rw [h5] at g5
    simp only [Prod.mk.injEq] at g5
    obtain ⟨_,_,g5⟩ := g5
    rw [he] at g5; cases g5
theorem GQ.fin (h : GQ b p r e r1 e1 ins outs r2 e2 l r3 e3 k r4 e4) (he : e4 = false) : getO b = finO b ⟨p.toUInt32,l,outs,k.toUInt32⟩ r4 := by
 obtain ⟨k1,k2,k3,k4,k5⟩ := h.ok he
 exact go_6 k1 k2 k3 k4 k5
theorem GQ.wf {v w : UInt32} (h : GQ b p r e r1 e1 ins outs r2 e2 l r3 e3 k r4 e4) (he : e4 = false) (hr : r.length ≤ 100000) : (⟨v,l,outs,w⟩ : TxS).wf := by
 obtain ⟨k1,k2,k3,k4,k5⟩ := h.ok he
 exact get_wf hr k2 k3 k4
theorem insQ_wit {acc : List InS} (h : insQ n acc b e = (l,r,f)) (ha : ∀ x ∈ acc,x.wit = []) : ∀ x ∈ l,x.wit = [] := by
 induction n generalizing acc b e with
 | zero => cases h; exact ha
 | succ n ih =>
  simp only [insQ] at h
  split at h
  · cases h; exact ha
  · obtain ⟨x,r1,e1,h1⟩ : ∃ a c d,takeB b e 32 = (a,c,d) := ⟨_,_,_,rfl⟩
    obtain ⟨p,r2,e2,h2⟩ : ∃ a c d,numQ r1 e1 4 = (a,c,d) := ⟨_,_,_,rfl⟩
    obtain ⟨s,r3,e3,h3⟩ : ∃ a c d,itmQ r2 e2 = (a,c,d) := ⟨_,_,_,rfl⟩
    obtain ⟨q,r4,e4,h4⟩ : ∃ a c d,numQ r3 e3 4 = (a,c,d) := ⟨_,_,_,rfl⟩
    simp only [inQ_eq h1 h2 h3 h4] at h
    refine ih h fun z hz => ?_
    rcases List.mem_append.1 hz with hz | hz
    · exact ha z hz
    · simp at hz; subst hz; rfl
theorem bodyQ_wit (h : bodyQ b e = ((ins,outs),r,f)) : ∀ x ∈ ins,x.wit = [] := by
 obtain ⟨n,r0,e0,h1⟩ : ∃ x y z,cntQ b e = (x,y,z) := ⟨_,_,_,rfl⟩
 obtain ⟨l1,r1,e1,h2⟩ : ∃ x y z,insQ n [] r0 e0 = (x,y,z) := ⟨_,_,_,rfl⟩
 obtain ⟨m,r5,e5,h3⟩ : ∃ x y z,cntQ r1 e1 = (x,y,z) := ⟨_,_,_,rfl⟩
 obtain ⟨o1,u,e6,h4⟩ : ∃ x y z,outsQ m [] r5 e5 = (x,y,z) := ⟨_,_,_,rfl⟩
 rw [bodyQ_eq h1 h2 h3 h4] at h
 cases h
 exact insQ_wit h2 (fun x hx => by cases hx)
theorem outsQ_len {o o' : List OutS} (hb : b.length ≤ 100000) (h : outsQ n o b e = (o',r,f)) : r.length ≤ b.length := by
 induction n generalizing o b e with
 | zero => cases h; simp
 | succ n ih =>
  simp only [outsQ] at h
  split at h
  · cases h; simp
  · obtain ⟨a,r1,e1,h1⟩ : ∃ a c d,outQ b e = (a,c,d) := ⟨_,_,_,rfl⟩
    simp only [h1] at h
    have a1 := outQ_len hb h1
    have a2 := ih (by omega) h
    omega
theorem bodyQ_len (hb : b.length ≤ 100000) (h : bodyQ b e = ((ins,outs),r,f)) : r.length ≤ b.length ∧ ins.length ≤ b.length := by
 obtain ⟨n,r0,e0,h1⟩ : ∃ x y z,cntQ b e = (x,y,z) := ⟨_,_,_,rfl⟩
 obtain ⟨l1,r1,e1,h2⟩ : ∃ x y z,insQ n [] r0 e0 = (x,y,z) := ⟨_,_,_,rfl⟩
 obtain ⟨m,r5,e5,h3⟩ : ∃ x y z,cntQ r1 e1 = (x,y,z) := ⟨_,_,_,rfl⟩
 obtain ⟨o1,u,e6,h4⟩ : ∃ x y z,outsQ m [] r5 e5 = (x,y,z) := ⟨_,_,_,rfl⟩
 rw [bodyQ_eq h1 h2 h3 h4] at h
 simp only [Prod.mk.injEq] at h
 obtain ⟨⟨rfl,rfl⟩,rfl,rfl⟩ := h
 have a1 := cntQ_len hb h1
 have a2 := insQ_len (by omega) h2
 have a3 := cntQ_len (by omega) h3
 have a4 := outsQ_len (by omega) h4
 simp at a2
 omega
end
end Go.Sx

namespace Go.Sx
def dropSeq : Nat → Code → Code
 | 0,c => c
 | k + 1,.seq _ c => dropSeq k c
 | _ + 1,c => c
theorem W.tailS {P : Program} {C : Ctx} {Q : Exit → Sg → Prop} {σ : Sg} {c : Code} (k : Nat) (M : Sg → Prop) (h2 : ∀ s,M s → W P C (dropSeq k c) Q s) (h1 : (∀ s,M s → W P C (dropSeq k c) Q s) → W P C c Q σ) : W P C c Q σ := h1 h2
end Go.Sx

namespace Go.Sx
def GP (x : UInt64) (r : List UInt8) (e : Bool) (l : List InS) (outs : List OutS) (r3 : List UInt8) (e3 : Bool) : Prop :=
 ∃ (r1 : List UInt8) (e1 : Bool) (ins : List InS) (r2 : List UInt8) (e2 : Bool),((seenB r = true ∧ ∃ u,takeB r e 2 = (u,r1,e1)) ∨ (seenB r = false ∧ r1 = r ∧ e1 = e)) ∧ bodyQ r1 e1 = ((ins,outs),r2,e2) ∧
  ((seenB r = true ∧ witsQ ins r2 e2 = (l,r3,e3)) ∨ (seenB r = false ∧ l = ins ∧ r3 = r2 ∧ e3 = e2)) ∧ r3.length ≤ 100000
section
variable {b r r1 r2 r3 r4 u : List UInt8} {x k : UInt64} {e e1 e2 e3 e4 : Bool} {ins l : List InS} {outs : List OutS}
theorem GP.to (h : GP x r e l outs r3 e3) (hE : numQ b false 4 = (x,r,e)) (h5 : numQ r3 e3 4 = (k,r4,e4)) : ∃ r1 e1 ins r2 e2,GQ b x r e r1 e1 ins outs r2 e2 l r3 e3 k r4 e4 := by
 obtain ⟨r1,e1,ins,r2,e2,h2,h3,h4,_⟩ := h
 exact ⟨r1,e1,ins,r2,e2,hE,h2,h3,h4,h5⟩
theorem GP.len (h : GP x r e l outs r3 e3) : r3.length ≤ 100000 := by obtain ⟨_,_,_,_,_,_,_,_,h⟩ := h; exact h
theorem gp_w (hs : seenB r = true) (h2 : takeB r e 2 = (u,r1,e1)) (h3 : bodyQ r1 e1 = ((ins,outs),r2,e2)) (h4 : witsQ ins r2 e2 = (l,r3,e3)) (hl : r3.length ≤ 100000) : GP x r e l outs r3 e3 :=
 ⟨r1,e1,ins,r2,e2,.inl ⟨hs,u,h2⟩,h3,.inl ⟨hs,h4⟩,hl⟩
theorem gp_n (hs : seenB r = false) (h3 : bodyQ r e = ((ins,outs),r2,e2)) (hl : r2.length ≤ 100000) : GP x r e ins outs r2 e2 :=
 ⟨r,e,ins,r2,e2,.inr ⟨hs,rfl,rfl⟩,h3,.inr ⟨hs,rfl,rfl,rfl⟩,hl⟩
end
end Go.Sx
