/-
 Between the walks: what a spend makes.
-/
import Derived.Test.YtgilikgghknbhaaDoorMLd15
import Derived.Test.YtgilikgghknbhaaDoorMSxPanic
set_option linter.unusedVariables false
set_option linter.unusedSimpArgs false
set_option linter.unnecessarySimpa false

namespace Go.Sx
theorem wk_in (h : Hs) (n q : UInt32) : Wk (.agg [.agg [hashD h,.u32 n],.nils,.u32 q,.nils]) (inOwn ⟨h,n,[],q,[]⟩):=
 .aggL (.cons (.refl _) (.cons (.nils _ _) (.cons (.refl _) (.cons (.nils _ _) .nil))))
theorem wk_zeroT : Wk (.agg [.u32 0,.nils,.nils,.u32 0]) (txOwn zeroT):=
 .aggL (.cons (.refl _) (.cons (.nils _ _) (.cons (.nils _ _) (.cons (.refl _) .nil))))
theorem wk_tx1 (v k : UInt32) (h : Hs) (n q : UInt32) : Wk (.agg [.u32 v,.sl (some 67) 36 [.agg [.agg [hashD h,.u32 n],.nils,.u32 q,.nils]],.nils,.u32 k]) (.agg [.u32 v,.sl (some 67) 36 ([(⟨h,n,[],q,[]⟩ : InS)].map inOwn),.sl (some 64) 2 (([] : List OutS).map outOwn),.u32 k]):=
 .aggL (.cons (.refl _) (.cons (.slL (.cons (wk_in h n q) .nil)) (.cons (.nils _ _) (.cons (.refl _) .nil))))
def spV (s : SpS) (sum : UInt64) (i : Nat) : UInt64:=
 let v:=sum / UInt64.ofInt ((s.to.length : Nat) : Int)
 if i = 0 then v - min v s.part.toUInt64 else v
theorem spV_0 {s : SpS} {sum : UInt64} {i : Nat} (h : i = 0) : spV s sum i = sum / UInt64.ofInt ((s.to.length : Nat) : Int) - (if s.part.toUInt64 < sum / UInt64.ofInt ((s.to.length : Nat) : Int) then s.part.toUInt64 else sum / UInt64.ofInt ((s.to.length : Nat) : Int)):=by
 unfold spV
 rw [if_pos h]
 congr 1
 show (if _ <= _ then _ else _) = _
 by_cases hc : s.part.toUInt64 < sum / UInt64.ofInt ((s.to.length : Nat) : Int)
 · rw [if_pos hc,if_neg (fun h=>by rw [UInt64.le_iff_toNat_le] at h; rw [UInt64.lt_iff_toNat_lt] at hc; omega)]
 · rw [if_neg hc,if_pos (by rw [UInt64.le_iff_toNat_le]; rw [UInt64.lt_iff_toNat_lt] at hc; omega)]
theorem spV_1 {s : SpS} {sum : UInt64} {i : Nat} (h : ¬ i = 0) : spV s sum i = sum / UInt64.ofInt ((s.to.length : Nat) : Int):=by
 unfold spV
 rw [if_neg h]
theorem spOuts_succ (s : SpS) (sum : UInt64) (i : Nat) : spOuts s sum (i + 1) = spOuts s sum i ++ [⟨spV s sum i,keyS (s.to[i]! % 12)⟩]:=by
 unfold spOuts
 rw [List.range_succ,List.map_append]
 rfl
theorem spOuts_app (s : SpS) (sum : UInt64) (i : Nat) : (spOuts s sum i).map outOwn ++ [.agg [.u64 (spV s sum i),.sl (some 5) 1 ((keyS (s.to[i]! % 12)).map D.u8)]] = (spOuts s sum (i + 1)).map outOwn:=by
 rw [spOuts_succ,List.map_append]
 rfl
theorem u64_ne {n : Nat} (h0 : ¬ n = 0) (h : n <= 140737488355328) : UInt64.ofInt ((n : Nat) : Int) ≠ 0:=by
 intro e
 have:=congrArg UInt64.toNat e
 have h2 : (UInt64.ofInt ((n : Nat) : Int)).toNat = n % 2 ^ 64:=by
  unfold UInt64.ofInt
  rw [UInt64.toNat_ofNat']
  omega
 rw [h2] at this
 have h3 : (0 : UInt64).toNat = 0:=rfl
 omega
section
variable {s : SpS} {av : List (Plc × UInt64)} {mark : UInt32}
theorem spIns_y (h : s.two = true) (h2 : s.from_.toNat % av.length + 1 < av.length) : spIns s av = [⟨av[s.from_.toNat % av.length]!.1.1,av[s.from_.toNat % av.length]!.1.2,[],s.extra.toUInt32,[]⟩,⟨av[s.from_.toNat % av.length + 1]!.1.1,av[s.from_.toNat % av.length + 1]!.1.2,[s.extra],0,[[s.part],[]]⟩]:=by
 unfold spIns
 exact if_pos ⟨h,h2⟩
theorem spIns_n (h : ¬ (s.two = true /\ s.from_.toNat % av.length + 1 < av.length)) : spIns s av = [⟨av[s.from_.toNat % av.length]!.1.1,av[s.from_.toNat % av.length]!.1.2,[],s.extra.toUInt32,[]⟩]:=by
 unfold spIns
 exact if_neg h
theorem spSum_y (h : s.two = true) (h2 : s.from_.toNat % av.length + 1 < av.length) : spSum s av = av[s.from_.toNat % av.length]!.2 + av[s.from_.toNat % av.length + 1]!.2:=by
 unfold spSum
 exact if_pos ⟨h,h2⟩
theorem spSum_n (h : ¬ (s.two = true /\ s.from_.toNat % av.length + 1 < av.length)) : spSum s av = av[s.from_.toNat % av.length]!.2:=by
 unfold spSum
 exact if_neg h
theorem spS_1 (h : av.length = 0) : spS s av mark = (zeroT,false):=by
 unfold spS spNo
 rw [decide_eq_true h]
 rfl
theorem spS_2 (h : s.to.length = 0) : spS s av mark = (zeroT,false):=by
 unfold spS spNo
 rw [decide_eq_true h,Bool.or_true]
 rfl
theorem spS_3 (h : ¬ av.length = 0) (h2 : ¬ s.to.length = 0) : spS s av mark = (spT s av mark,true):=by
 unfold spS spNo
 rw [decide_eq_false h,decide_eq_false h2]
 rfl
end
end Go.Sx

namespace Go.Sx
open Go.Proofs
theorem spend15_ok (s : SpS) (av : List (Plc × UInt64)) (mark : UInt32) (ha : av.length <= 1000000000) (ht0 : s.to.length <= 140737488355328) : Fn Tryd.prog gl 39 [spD s,.sl none 33 (av.map plcP),.sl none 1 (av.map valP),.u32 mark] (.tup [txOwn (spS s av mark).1,.bool (spS s av mark).2]):=by
 refine Fn.of (n:=122) Tryd.func39 rfl rfl rfl (nU rfl) fun C hC hD=>?_
 refine W.seq ?_
 refine W.l0 3 [] [] [] [(0,_),(1,_),(2,_),(3,_)] [] 122 Zt O O O O (⟨O,_,R.box (gV 0 O) O O (nU O),⟨O,_,R.alloc O (nU O),⟨O,_,R.asg (kB false O) O (nU O),tV [(1,_),(2,_),(3,_),(4,_),(8,_)] [(8,.var _),(4,.var _)] 122 O O O ?_⟩⟩⟩)
 refine W.seq (W.seq ?_)
 by_cases h1 : av.length = 0
 · refine W.l0 9 [.y 15 _,.y 16 _,.y 17 _,.y 18 _,.x 19,.x 20,.x 21,.x 22,.y 23 _] [] [] [(1,_),(2,_),(3,_),(4,_),(8,_),(23,_)] [(8,.var _),(4,.var _)] 122 ⟨mU 1 O O,aU fun _ _ H K=>R.lenE (SC.sl (K 15 _ O)) (lN _) H,aU fun _ _ H K=>R.eqlN (av.length) (0) (eU K 16 O) (kI 0 O) H,mU 17 O O,aF O O (gT (dT h1) O),aF O O (gT (dT h1) O),aF O O (gT (dT h1) O),aF O O (gT (dT h1) O),aU fun _ _ H K=>R.pickT (eU K 18 O) (dT h1) (kB true O) O H,Zt⟩ O O O O (tU O ?_)
   refine W.condT O (O) ?_
   refine W.seq ?_
   refine W.l0 3 [.y 24 _] [] [] [(8,_),(24,_)] [(8,.var _),(4,.var _)] 122 ⟨aU fun _ _ H _=>R.bldSE (l:=[.u32 0,.nils,.nils,.u32 0]) (l':=[_,_,_,_]) (.nil O) Zt H,Zt⟩ O O O O (⟨O,_,R.stZ (gU 8 O) (xU 8 O) O (gV 24 O) (by rfl) (by rfl) (by rfl) (by rfl) O,⟨O,_,R.asg (kB false O) O (nU O),tV [(8,_),(9,_)] [(8,.var _),(4,.var _)] 122 O O O ?_⟩⟩)
   refine W.wkB 8 (d':=txOwn zeroT) (bx':=[(8,.var _),(4,.var _)]) O wk_zeroT O ?_
   refine W.ret ?_
   exact Ends.many (.inr O) (.cons O O O (show LdT _ 54 4 true from inferInstance) (.cons O O O Zt .nil)) (by rw [spS_1 h1]) (show [(8,false),(9,true)].Nodup by decide)
 · refine W.l0 9 [.y 15 _,.y 16 _,.y 17 _,.y 18 _,.y 19 _,.y 20 _,.y 21 _,.y 22 _,.y 23 _] [] [] [(1,_),(2,_),(3,_),(4,_),(8,_),(23,_)] [(8,.var _),(4,.var _)] 122 ⟨mU 1 O O,aU fun _ _ H K=>R.lenE (SC.sl (K 15 _ O)) (lN _) H,aU fun _ _ H K=>R.eqlN (av.length) (0) (eU K 16 O) (kI 0 O) H,mU 17 O O,aW O O (gF (dF h1) O) (fU 4 O O),aW O O (gF (dF h1) O) (lU 19 O O O O O O O),aW O O (gF (dF h1) O) fun _ _ H K=>R.lenE (SC.sl (K 20 _ O)) (lN _) H,aW O O (gF (dF h1) O) fun _ _ H K=>R.eqlN (s.to.length) (0) (eU K 21 O) (kI 0 O) H,aU fun _ _ H K=>R.pickF (eU K 18 O) (dF h1) (eU K 22 O) O H,Zt⟩ O O O O (tU O ?_)
   refine W.condD O (fun hc23=>?_) (fun hc23=>?_)
   · refine W.seq ?_
     refine W.l0 3 [.y 24 _] [] [] [(8,_),(24,_)] [(8,.var _),(4,.var _)] 122 ⟨aU fun _ _ H _=>R.bldSE (l:=[.u32 0,.nils,.nils,.u32 0]) (l':=[_,_,_,_]) (.nil O) Zt H,Zt⟩ O O O O (⟨O,_,R.stZ (gU 8 O) (xU 8 O) O (gV 24 O) (by rfl) (by rfl) (by rfl) (by rfl) O,⟨O,_,R.asg (kB false O) O (nU O),tV [(8,_),(9,_)] [(8,.var _),(4,.var _)] 122 O O O ?_⟩⟩)
     refine W.wkB 8 (d':=txOwn zeroT) (bx':=[(8,.var _),(4,.var _)]) O wk_zeroT O ?_
     refine W.ret ?_
     exact Ends.many (.inr O) (.cons O O O (show LdT _ 54 4 true from inferInstance) (.cons O O O Zt .nil)) (by rw [spS_2 hc23]) (show [(8,false),(9,true)].Nodup by decide)
   · refine W.skip (W.seq ?_)
     refine W.l0 7 [.y 25 _,.y 26 _,.y 27 _,.y 28 _,.y 29 _,.y 30 _,.y 10 _] [] [] [(1,_),(2,_),(3,_),(4,_),(8,_),(10,_)] [(8,.var _),(4,.var _)] 122 ⟨aU (fU 4 O O),aU (lU 25 O O O O O O O),aU fun _ _ H K=>R.conv (eU K 26 O) O H,mU 1 O O,aU fun _ _ H K=>R.lenE (SC.sl (K 28 _ O)) (lN _) H,aU fun _ _ H K=>R.remN (s.from_.toNat) (av.length) (eU K 27 O) (eU K 29 O) bU H,aU fun _ _ H K=>R.asg (eU K 30 O) O H,Zt⟩ O O O O (tU O ?_)
     refine W.seq ?_
     have hkl:=Nat.mod_lt s.from_.toNat (show 0 < av.length by omega)
     refine W.drawE (m:=12) (an:=[0,0,0,6,14,0,32,96,254,510,1023,0,4095]) (its:=[.y 31 _,.y 32 _,.y 33 _,.y 34 _,.y 35 _,.y 36 _,.y 37 _,.y 38 _,.y 39 _,.y 40 _,.y 41 _,.y 11 _]) (ks:=[(10,40)]) (kk:=[(10,40)]) (efs:=[(11,[(11,.var _)])]) (live:=[1,2,4,8,10,11,41]) (env':=[(1,_),(2,_),(4,_),(8,_),(10,_),(11,_),(41,_)]) (nd:=40) (bx1:=[(11,.var _),(8,.var _),(4,.var _)]) hP dU O ⟨⟨140,O⟩,nU O,O,O,O,O⟩ (          ⟨⟨O,nU O,O,fun _ τ hb ht hτ=>R.mov (evt (hτ 3 _ O)) O ht⟩,⟨⟨O,nU O,O,fun _ τ hb ht hτ=>R.mov (evt (hτ 1 _ O)) O ht⟩,⟨⟨O,nU O,O,fun _ τ hb ht hτ=>R.mov (evt (hτ 10 _ O)) O ht⟩,⟨⟨O,nU O,O,fun _ τ hb ht hτ=>R.idxN ((s.from_.toNat % av.length)) (SC.sl (hτ 32 _ O)) (evoI (evt (hτ 33 _ O))) O bU ht dU⟩,⟨⟨O,nU O,O,fun _ τ hb ht hτ=>R.ldE (hτ 34 _ O) (SC.sl (hτ 32 _ O)) (map_get! (l:=av) bU) O O O O ht⟩,⟨⟨O,nU O,O,fun _ τ hb ht hτ=>R.fdP (hτ 4 _ O) ht⟩,⟨⟨O,nU O,O,fun _ τ hb ht hτ=>R.ldP (hτ 36 _ O) (hb 4 _ O) O O O O ht⟩,⟨⟨O,nU O,O,fun _ τ hb ht hτ=>R.convE (d:=.u32 s.extra.toUInt32) (evt (hτ 37 _ O)) O (O) ht⟩,⟨⟨O,nU O,O,fun _ τ hb ht hτ=>R.bldSE (l:=[.agg [.arr 32 1 ((List.replicate 32 0).map D.u8),.u32 0],.nils,.u32 0,.nils]) (l':=[_,_,_,_]) (.cons (evt (hτ 35 _ O)) (.cons (evt (hτ 38 _ O)) (.nil O))) ⟨⟨_,(evt (hτ 35 _ O)),O,O,O⟩,⟨⟨_,(evt (hτ 38 _ O)),O,O,O⟩,Zt⟩⟩ ht⟩,⟨⟨O,nU O,O,fun _ τ hb ht hτ=>R.bslE (z:=36) (.cons (evt (hτ 39 _ O)) .nil) ⟨⟨O,O,O⟩,Zt⟩ O ht dU⟩,⟨⟨O,nU O,O,fun _ τ hb ht hτ=>R.bldO (l:=[.u32 0,.nils,.nils,.u32 0]) (l':=[_,_,_,_]) (.pur (show ev _ _ (.const (.int .u32 2)) = some (.u32 2) from O) O O O (.pur (evt (hτ 31 _ O)) O O O (.own (hτ 40 _ O) O O O O (.nil O)))) O ht⟩,⟨⟨O,O,⟨O,nU O⟩,(SpE.alloc O (nU O))⟩,Zt⟩⟩⟩⟩⟩⟩⟩⟩⟩⟩⟩⟩) O O O (n':=122) O (⟨O,_,R.stOZ (gU 11 O) (xU 11 O) O (gU 41 O) O O (by rfl) (by rfl) O O,⟨[1,2,4,8,10,11],[(1,_),(2,_),(4,_),(8,_),(10,_),(11,_)],[(11,.var _),(8,.var _),(4,.var _)],122,O,O,O, ?_⟩⟩)
     refine W.seq ?_
     refine W.wkB 11 (d':=.agg [.u32 2,.sl (some 67) 36 ([(⟨av[(s.from_.toNat % av.length)]!.1.1,av[(s.from_.toNat % av.length)]!.1.2,[],s.extra.toUInt32,[]⟩ : InS)].map inOwn),.sl (some 64) 2 (([] : List OutS).map outOwn),.u32 mark]) (bx':=[(11,.var _),(8,.var _),(4,.var _)]) O (wk_tx1 _ _ _ _ _) O ?_
     refine W.l0 5 [.y 42 _,.y 43 _,.y 44 _,.y 45 _,.y 12 _] [] [] [(1,_),(2,_),(4,_),(8,_),(10,_),(11,_),(12,_)] [(11,.var _),(8,.var _),(4,.var _)] 122 ⟨mU 2 O O,mU 10 O O,aU fun _ _ H K=>R.idxN ((s.from_.toNat % av.length)) (SC.sl (K 42 _ O)) (evoI (eU K 43 O)) O bU H dU,aU fun _ _ H K=>R.ldE (K 44 _ O) (SC.sl (K 42 _ O)) (map_get! (l:=av) bU) O O O O H,aU fun _ _ H K=>R.asg (eU K 45 O) O H,Zt⟩ O O O O (tU O ?_)
     refine W.seqM (fun s__=>∃ q__ : {q__ : Unit // True},s__ = ⟨122,[(4,.ptr 4 0 []),(8,.ptr 8 0 []),(11,.ptr 11 0 []),(12,.u64 (spSum s av))],[(11,.var (.agg [.u32 2,.sl (some 67) 36 ((spIns s av).map inOwn),.sl (some 64) 2 (([] : List OutS).map outOwn),.u32 mark])),(8,.var (.agg [.u32 0,.nils,.nils,.u32 0])),(4,.var (spD s))]⟩) ?_ ?_
     · refine W.seq ?_
       by_cases h2 : s.two = true
       · refine W.l0 9 [.y 46 _,.y 47 _,.y 48 _,.y 49 _,.y 50 _,.y 51 _,.y 52 _,.y 53 _,.y 54 _] [] [] [(1,_),(2,_),(4,_),(8,_),(10,_),(11,_),(12,_),(54,_)] [(11,.var _),(8,.var _),(4,.var _)] 122 ⟨aU (fU 4 O O),aU (lU 46 O O O O O O O),mU 47 O O,aW O O (gT (h2) O) fun _ _ H K=>R.mov (eU K 10 O) O H,aW O O (gT (h2) O) fun _ _ H K=>R.addN ((s.from_.toNat % av.length)) (1) (eU K 49 O) (kI 1 O) bU H,aW O O (gT (h2) O) fun _ _ H K=>R.mov (eU K 1 O) O H,aW O O (gT (h2) O) fun _ _ H K=>R.lenE (SC.sl (K 51 _ O)) (lN _) H,aW O O (gT (h2) O) fun _ _ H K=>R.lssN (((s.from_.toNat % av.length) + 1)) (av.length) (eU K 50 O) (eU K 52 O) H,aU fun _ _ H K=>R.pickT (eU K 48 O) (h2) (eU K 53 O) O H,Zt⟩ O O O O (tU O ?_)
         refine W.condD O (fun hc54=>?_) (fun hc54=>?_)
         · refine W.seq ?_
           refine W.draw (m:=17) (an:=[0,1,0,0,8,28,60,0,128,384,0,1024,3072,0,15360,32764,65532,131071,262143,524287]) hP dU O (its:=[.y 55 _,.y 56 _,.y 57 _,.y 58 _,.y 59 _,.y 60 _,.y 61 _,.y 62 _,.y 63 _,.y 64 _,.y 65 _,.y 66 _,.y 67 _,.y 68 _,.y 69 _,.y 70 _,.y 71 _]) (ks:=[(14,67),(14,68),(15,64),(15,69),(16,70)]) (kk:=[(14,67),(14,68),(15,64),(15,69),(16,70)]) (live:=[2,4,8,10,11,12,56,71]) (env':=[(2,_),(4,_),(8,_),(10,_),(11,_),(12,_),(56,_),(71,_)]) (⟨nU O,O,⟨aU (fU 11 O O),aU fun _ B H K=>R.ldO (K 55 _ O) (B 11 _ O) O H,mU 1 O O,mU 10 O O,aU fun _ _ H K=>R.addN ((s.from_.toNat % av.length)) (1) (eU K 58 O) (kI 1 O) bU H,aU fun _ _ H K=>R.idxN (((s.from_.toNat % av.length) + 1)) (SC.sl (K 57 _ O)) (evoI (eU K 59 O)) O bU H dU,aU fun _ _ H K=>R.ldE (K 60 _ O) (SC.sl (K 57 _ O)) (map_get! (l:=av) bU) O O O O H,aU (fU 4 O O),aU (lU 62 O O O O O O O),aU fun _ _ H K=>R.bslE (z:=1) (.cons (eU K 63 O) .nil) ⟨⟨O,O,O⟩,Zt⟩ O H dU,aU (fU 4 O O),aU (lU 65 O O O O O O O),aU fun _ _ H K=>R.bslE (z:=1) (.cons (eU K 66 O) .nil) ⟨⟨O,O,O⟩,Zt⟩ O H dU,aU fun _ _ H _=>R.bslE .nil Zt O H dU,aU fun _ _ H K=>R.bslO (z:=1) (.own (K 67 _ O) O O O O (.own (K 68 _ O) O O O O .nil)) O O H dU,aU fun _ _ H K=>R.bldO (l:=[.agg [.arr 32 1 ((List.replicate 32 0).map D.u8),.u32 0],.nils,.u32 0,.nils]) (l':=[_,_,_,_]) (.pur (eU K 61 O) O O O (.own (K 64 _ O) O O O O (.own (K 69 _ O) O O O O (.nil O)))) O H,aU fun _ _ H K=>R.bslO (z:=36) (.own (K 70 _ O) O O O O .nil) O O H dU,Zt⟩,O,O,O⟩) O (bx':=[(11,.var _),(8,.var _),(4,.var _)]) O (n':=122) O (⟨O,_,R.appBP2 (gU 56 O) (xU 11 O) O O O O (gU 56 O) (gU 71 O) O (show _ = ([(⟨av[(s.from_.toNat % av.length)]!.1.1,av[(s.from_.toNat % av.length)]!.1.2,[],s.extra.toUInt32,[]⟩ : InS),(⟨av[(s.from_.toNat % av.length) + 1]!.1.1,av[(s.from_.toNat % av.length) + 1]!.1.2,[s.extra],0,[[s.part],[]]⟩ : InS)].map inOwn) from (O)) (by simp) (nU O) dU dU,⟨O,_,R.fdP (gU 11 O) (nU O),⟨O,_,R.stOZ (gU 73 O) (xU 11 O) O (gU 72 O) O O (by rfl) (by rfl) O O,tV [(2,_),(4,_),(8,_),(10,_),(11,_),(12,_)] [(11,.var _),(8,.var _),(4,.var _)] 122 O O O ?_⟩⟩⟩)
           refine W.l0 8 [.y 74 _,.y 75 _,.y 76 _,.y 77 _,.y 78 _,.y 79 _,.y 80 _,.y 12 _] [] [] [(4,_),(8,_),(11,_),(12,_)] [(11,.var _),(8,.var _),(4,.var _)] 122 ⟨mU 12 O O,mU 2 O O,mU 10 O O,aU fun _ _ H K=>R.addN ((s.from_.toNat % av.length)) (1) (eU K 76 O) (kI 1 O) bU H,aU fun _ _ H K=>R.idxN (((s.from_.toNat % av.length) + 1)) (SC.sl (K 75 _ O)) (evoI (eU K 77 O)) O bU H dU,aU fun _ _ H K=>R.ldE (K 78 _ O) (SC.sl (K 75 _ O)) (map_get! (l:=av) bU) O O O O H,aU fun _ _ H K=>R.bin (eU K 74 O) (eU K 79 O) O Zt H,aU fun _ _ H K=>R.asg (eU K 80 O) O H,Zt⟩ O O O O (tU O ?_)
           exact ⟨⟨(()),Zt⟩,(by rw [spIns_y h2 hc54,spSum_y h2 hc54] <;> rfl)⟩
         · refine W.dropS (live:=[4,8,11,12]) (env':=[(4,_),(8,_),(11,_),(12,_)]) (bx':=[(11,.var _),(8,.var _),(4,.var _)]) (n':=122) O O O ?_
           refine W.skip ?_
           exact ⟨⟨(()),Zt⟩,(by rw [spIns_n (fun h=>hc54 h.2),spSum_n (fun h=>hc54 h.2)] <;> rfl)⟩
       · refine W.l0 9 [.y 46 _,.y 47 _,.y 48 _,.x 49,.x 50,.x 51,.x 52,.x 53,.y 54 _] [] [] [(1,_),(2,_),(4,_),(8,_),(10,_),(11,_),(12,_),(54,_)] [(11,.var _),(8,.var _),(4,.var _)] 122 ⟨aU (fU 4 O O),aU (lU 46 O O O O O O O),mU 47 O O,aF O O (gF (bfalse h2) O),aF O O (gF (bfalse h2) O),aF O O (gF (bfalse h2) O),aF O O (gF (bfalse h2) O),aF O O (gF (bfalse h2) O),aU fun _ _ H K=>R.pickF (eU K 48 O) (bfalse h2) (kB false O) O H,Zt⟩ O O O O (tU O ?_)
         refine W.condF O (O) ?_
         refine W.dropS (live:=[4,8,11,12]) (env':=[(4,_),(8,_),(11,_),(12,_)]) (bx':=[(11,.var _),(8,.var _),(4,.var _)]) (n':=122) O O O ?_
         refine W.skip ?_
         exact ⟨⟨(()),Zt⟩,(by rw [spIns_n (fun h=>h2 h.1),spSum_n (fun h=>h2 h.1)] <;> rfl)⟩
     · rintro s__ ⟨⟨_,_⟩,rfl⟩
       refine W.seq (W.seq ?_)
       refine W.l0 1 [.y 13 _] [] [] [(4,_),(8,_),(11,_),(12,_),(13,_)] [(11,.var _),(8,.var _),(4,.var _)] 122 ⟨aU fun _ _ H _=>R.asg (kI 0 O) O H,Zt⟩ O O O O (tU O ?_)
       refine W.block ?_
       refine W.loop (α:={q__ : Nat // q__ <= min s.to.length 4}) (fun q__=>⟨122,[(4,.ptr 4 0 []),(8,.ptr 8 0 []),(11,.ptr 11 0 []),(12,.u64 (spSum s av)),(13,.int ((q__.1 : Nat) : Int))],[(11,.var (.agg [.u32 2,.sl (some 67) 36 ((spIns s av).map inOwn),.sl (some 64) 2 ((spOuts s (spSum s av) q__.1).map outOwn),.u32 mark])),(8,.var (.agg [.u32 0,.nils,.nils,.u32 0])),(4,.var (spD s))]⟩) (fun q__=>min s.to.length 4 - q__.1) ⟨(0),bU⟩ O ?_
       rintro ⟨i,hi⟩
       show W _ _ _ _ ⟨122,[(4,.ptr 4 0 []),(8,.ptr 8 0 []),(11,.ptr 11 0 []),(12,.u64 (spSum s av)),(13,.int ((i : Nat) : Int))],[(11,.var (.agg [.u32 2,.sl (some 67) 36 ((spIns s av).map inOwn),.sl (some 64) 2 ((spOuts s (spSum s av) i).map outOwn),.u32 mark])),(8,.var (.agg [.u32 0,.nils,.nils,.u32 0])),(4,.var (spD s))]⟩
       have hi : i <= min s.to.length 4:=hi
       refine W.seq (W.seq ?_)
       by_cases h4 : i < s.to.length
       · refine W.l0 9 [.y 81 _,.y 82 _,.y 83 _,.y 84 _,.y 85 _,.y 86 _,.y 87 _,.y 88 _,.y 89 _] [] [] [(4,_),(8,_),(11,_),(12,_),(13,_),(89,_)] [(11,.var _),(8,.var _),(4,.var _)] 122 ⟨mU 13 O O,aU (fU 4 O O),aU (lU 82 O O O O O O O),aU fun _ _ H K=>R.lenE (SC.sl (K 83 _ O)) (lN _) H,aU fun _ _ H K=>R.lssN (i) (s.to.length) (eU K 81 O) (eU K 84 O) H,mU 85 O O,aW O O (gT (dT h4) O) fun _ _ H K=>R.mov (eU K 13 O) O H,aW O O (gT (dT h4) O) fun _ _ H K=>R.lssN (i) (4) (eU K 87 O) (kI 4 O) H,aU fun _ _ H K=>R.pickT (eU K 86 O) (dT h4) (eU K 88 O) O H,Zt⟩ O O O O (tU O ?_)
         refine W.condD O (fun hc89=>?_) (fun hc89=>?_)
         · refine W.skip (W.seq (W.block (W.seq ?_)))
           refine W.l0 7 [.y 92 _,.y 93 _,.y 94 _,.y 95 _,.y 96 _,.y 97 _,.y 14 _] [] [] [(4,_),(8,_),(11,_),(12,_),(13,_),(14,_)] [(11,.var _),(8,.var _),(4,.var _)] 122 ⟨mU 12 O O,aU (fU 4 O O),aU (lU 93 O O O O O O O),aU fun _ _ H K=>R.lenE (SC.sl (K 94 _ O)) (lN _) H,aU fun _ _ H K=>R.conv (eU K 95 O) O H,aU fun _ _ H K=>R.bin (eU K 92 O) (eU K 96 O) O (u64_ne hc23 ht0) H,aU fun _ _ H K=>R.asg (eU K 97 O) O H,Zt⟩ O O O O (tU O ?_)
           refine W.seqM (fun s__=>∃ q__ : {q__ : Unit // True},s__ = ⟨122,[(4,.ptr 4 0 []),(8,.ptr 8 0 []),(11,.ptr 11 0 []),(12,.u64 (spSum s av)),(13,.int ((i : Nat) : Int)),(14,.u64 (spV s (spSum s av) i))],[(11,.var (.agg [.u32 2,.sl (some 67) 36 ((spIns s av).map inOwn),.sl (some 64) 2 ((spOuts s (spSum s av) i).map outOwn),.u32 mark])),(8,.var (.agg [.u32 0,.nils,.nils,.u32 0])),(4,.var (spD s))]⟩) ?_ ?_
           · refine W.seq ?_
             refine W.l0 2 [.y 98 _,.y 99 _] [] [] [(4,_),(8,_),(11,_),(12,_),(13,_),(14,_),(99,_)] [(11,.var _),(8,.var _),(4,.var _)] 122 ⟨mU 13 O O,aU fun _ _ H K=>R.eqlN (i) (0) (eU K 98 O) (kI 0 O) H,Zt⟩ O O O O (tU O ?_)
             refine W.condD O (fun hc99=>?_) (fun hc99=>?_)
             · refine W.l0 8 [.y 100 _,.y 101 _,.y 102 _,.y 103 _,.y 104 _,.y 105 _,.y 106 _,.y 14 _] [] [] [(4,_),(8,_),(11,_),(12,_),(13,_),(14,_)] [(11,.var _),(8,.var _),(4,.var _)] 122 ⟨mU 14 O O,mU 14 O O,aU (fU 4 O O),aU (lU 102 O O O O O O O),aU fun _ _ H K=>R.convE (d:=.u64 s.part.toUInt64) (eU K 103 O) O (O) H,aU fun _ _ H K=>R.minU (eU K 101 O) (eU K 104 O) H,aU fun _ _ H K=>R.bin (eU K 100 O) (eU K 105 O) O Zt H,aU fun _ _ H K=>R.asg (eU K 106 O) O H,Zt⟩ O O O O (tU O ?_)
               exact ⟨⟨(()),Zt⟩,(by rw [spV_0 hc99] <;> rfl)⟩
             · refine W.dropS (live:=[4,8,11,12,13,14]) (env':=[(4,_),(8,_),(11,_),(12,_),(13,_),(14,_)]) (bx':=[(11,.var _),(8,.var _),(4,.var _)]) (n':=122) O O O ?_
               refine W.skip ?_
               exact ⟨⟨(()),Zt⟩,(by rw [spV_1 hc99] <;> rfl)⟩
           · rintro s__ ⟨⟨_,_⟩,rfl⟩
             refine W.draw (m:=12) (an:=[0,1,0,0,8,0,56,120,248,504,1020,2044,4095,8191,16383]) hP dU O (its:=[.y 107 _,.y 108 _,.y 109 _,.y 110 _,.y 111 _,.y 112 _,.y 113 _,.y 114 _,.y 115 _,.y 116 _,.y 117 _,.y 118 _]) (ks:=[(10,116),(11,117)]) (kk:=[(10,116),(11,117)]) (live:=[4,8,11,12,13,108,118]) (env':=[(4,_),(8,_),(11,_),(12,_),(13,_),(108,_),(118,_)]) (⟨nU O,O,⟨aU (fU 11 O O),aU fun _ B H K=>R.ldO (K 107 _ O) (B 11 _ O) O H,mU 14 O O,aU (fU 4 O O),aU (lU 110 O O O O O O O),mU 13 O O,aU fun _ _ H K=>R.idxN (i) (SC.sl (K 111 _ O)) (evoI (eU K 112 O)) O bU H dU,aU fun _ _ H K=>R.ldE (K 113 _ O) (SC.sl (K 111 _ O)) (map_get! (l:=s.to) bU) O O O O H,aU fun _ _ H K=>R.bin (eU K 114 O) (show ev _ _ (.const (.int .u8 12)) = some (.u8 12) from O) O dU H,aU fun _ _ H K=>R.callG hC (key15_ok (s.to[i]! % 12)) (Bc (Bp (eU K 115 O) O O) Bn) (FrsR.one (frs_bytOwn _)) H,aU fun _ _ H K=>R.bldO (l:=[.u64 0,.nils]) (l':=[_,_]) (.pur (eU K 109 O) O O O (.own (K 116 _ O) O O O O (.nil O))) O H,aU fun _ _ H K=>R.bslO (z:=2) (.own (K 117 _ O) O O O O .nil) O O H dU,Zt⟩,O,O,O⟩) O (bx':=[(11,.var _),(8,.var _),(4,.var _)]) O (n':=122) O (⟨O,_,R.appBP2 (gU 108 O) (xU 11 O) O O O O (gU 108 O) (gU 118 O) O (show _ = ((spOuts s (spSum s av) (i + 1)).map outOwn) from (spOuts_app _ _ _)) (by simp only [List.length_map,spOuts,List.length_range,List.length_cons,List.length_nil]; omega) (nU O) dU dU,⟨O,_,R.fdP (gU 11 O) (nU O),⟨O,_,R.stOZ (gU 120 O) (xU 11 O) O (gU 119 O) O O (by rfl) (by rfl) O O,tV [(4,_),(8,_),(11,_),(12,_),(13,_)] [(11,.var _),(8,.var _),(4,.var _)] 122 O O O ?_⟩⟩⟩)
             refine W.l0 3 [.y 90 _,.y 91 _,.y 13 _] [] [] [(4,_),(8,_),(11,_),(12,_),(13,_)] [(11,.var _),(8,.var _),(4,.var _)] 122 ⟨mU 13 O O,aU fun _ _ H K=>R.addN (i) (1) (eU K 90 O) (kI 1 O) bU H,aU fun _ _ H K=>R.asg (eU K 91 O) O H,Zt⟩ O O O O (tU O ?_)
             exact ⟨⟨(i + 1),bU⟩,rfl,(by show min s.to.length 4 - (i + 1) < min s.to.length 4 - i; omega)⟩
         · obtain rfl : i = min s.to.length 4:=by omega
           refine W.exit (W.seq ?_)
           refine W.l0 3 [] [] [] [(8,_),(11,_)] [(11,.var _),(8,.var _),(4,.var _)] 122 Zt O O O O (⟨O,_,R.ldTake (gU 11 O) (xU 11 O) O O O (nU O),⟨O,_,R.stOZ (gU 8 O) (xU 8 O) O (gU 121 O) O O (by rfl) (by rfl) O O,⟨O,_,R.asg (kB true O) O (nU O),tV [(8,_),(9,_)] [(11,.var _),(8,.var _),(4,.var _)] 122 O O O ?_⟩⟩⟩)
           refine W.ret ?_
           exact Ends.many (.inr O) (.cons O O O (show LdT _ 54 4 true from inferInstance) (.cons O O O Zt .nil)) (by rw [spS_3 h1 hc23] <;> rfl) (show [(8,false),(9,true)].Nodup by decide)
       · refine W.l0 9 [.y 81 _,.y 82 _,.y 83 _,.y 84 _,.y 85 _,.y 86 _,.x 87,.x 88,.y 89 _] [] [] [(4,_),(8,_),(11,_),(12,_),(13,_),(89,_)] [(11,.var _),(8,.var _),(4,.var _)] 122 ⟨mU 13 O O,aU (fU 4 O O),aU (lU 82 O O O O O O O),aU fun _ _ H K=>R.lenE (SC.sl (K 83 _ O)) (lN _) H,aU fun _ _ H K=>R.lssN (i) (s.to.length) (eU K 81 O) (eU K 84 O) H,mU 85 O O,aF O O (gF (dF h4) O),aF O O (gF (dF h4) O),aU fun _ _ H K=>R.pickF (eU K 86 O) (dF h4) (kB false O) O H,Zt⟩ O O O O (tU O ?_)
         refine W.condF O (O) ?_
         obtain rfl : i = min s.to.length 4:=by omega
         refine W.exit (W.seq ?_)
         refine W.l0 3 [] [] [] [(8,_),(11,_)] [(11,.var _),(8,.var _),(4,.var _)] 122 Zt O O O O (⟨O,_,R.ldTake (gU 11 O) (xU 11 O) O O O (nU O),⟨O,_,R.stOZ (gU 8 O) (xU 8 O) O (gU 121 O) O O (by rfl) (by rfl) O O,⟨O,_,R.asg (kB true O) O (nU O),tV [(8,_),(9,_)] [(11,.var _),(8,.var _),(4,.var _)] 122 O O O ?_⟩⟩⟩)
         refine W.ret ?_
         exact Ends.many (.inr O) (.cons O O O (show LdT _ 54 4 true from inferInstance) (.cons O O O Zt .nil)) (by rw [spS_3 h1 hc23] <;> rfl) (show [(8,false),(9,true)].Nodup by decide)
end Go.Sx

namespace Go.Sx
theorem u8_int (n : Nat) : D.u8 (UInt8.ofInt ((n : Nat) : Int)) = .u8 (UInt8.ofNat n):=by
 congr 1
 unfold UInt8.ofInt
 apply UInt8.toNat_inj.1
 rw [UInt8.toNat_ofNat',UInt8.toNat_ofNat']
 omega
theorem shr256 (n : Nat) : D.int (((n : Nat) : Int).fdiv (2 ^ min (8 : Int).toNat 64)) = .int ((n / 256 : Nat) : Int):=by
 have:=fdiv_pow ((n : Nat) : Int) 8 (Int.natCast_nonneg _) (by decide)
 rw [Int.toNat_natCast] at this
 exact congrArg D.int this
theorem brw_sp (s : SpS) : (spD s).brw = spD s:=by
 simp only [spD,D.brw,brws_eq,List.map_cons,List.map_nil]
 rw [brw_map (fun _=>rfl)]
theorem brw_pl (x : PlS) : (plD x).brw = plD x:=by
 simp only [plD,D.brw,brws_eq,List.map_cons,List.map_nil]
 rw [brw_map brw_sp]
theorem brw_blkK (b : BlkS) : (blkD b).brw = blkD b:=by
 simp only [blkD,D.brw,brws_eq,List.map_cons,List.map_nil,brw_hdr]
 rw [brw_map brw_txK]
theorem brw_thr (a e : Nat) (l : List (Plc × UInt64)) : D.brwR (.tup [.sl (some a) 33 (l.map plcP),.sl (some e) 1 (l.map valP)]) = .tup [.sl none 33 (l.map plcP),.sl none 1 (l.map valP)]:=by
 show D.tup [D.sl none 33 (D.brws (l.map plcP)),D.sl none 1 (D.brws (l.map valP))] = _
 rw [brws_eq,brws_eq,brw_map (fun x=>by simp only [plcP,placeK,D.brw,brws_eq,List.map_cons,List.map_nil,brw_hash]),brw_map (fun _=>rfl)]
theorem frs_thr (a e : Nat) (l : List (Plc × UInt64)) : FrsR (.tup [.sl (some a) 33 (l.map plcP),.sl (some e) 1 (l.map valP)]):=
 .inl ⟨_,rfl,frs_mem2 (.sl _ _ _ (frs_map fun x=>.agg _ (frs_mem2 (frs_hash _) (.u32 _)))) (.sl _ _ _ (frs_map fun _=>.u64 _))⟩
theorem frs_mine (h : HdS) (b : Bool) : FrsR (.tup [hdrD h,.bool b]):=.inl ⟨_,rfl,frs_mem2 (frs_hdr h) (.bool b)⟩
theorem wk_mint (n : Nat) (x : PlS) (mark : UInt32) : Wk (.agg [.u32 1,.sl (some 67) 36 [.agg [.agg [hashD zero32,.u32 4294967295],.sl (some 5) 1 [.u8 (UInt8.ofNat n),.u8 (UInt8.ofNat (n / 256)),.u8 mark.toUInt8],.u32 0,.nils]],.sl (some 64) 2 [.agg [.u64 5000,.sl (some 5) 1 ((keyS (x.pays % 12)).map D.u8)]],.u32 mark]) (txOwn (mintT n x mark)):=
 .aggL (.cons (.refl _) (.cons (.slL (.cons (.aggL (.cons (.refl _) (.cons (.refl _) (.cons (.refl _) (.cons (.nils _ _) .nil))))) .nil)) (.cons (.refl _) (.cons (.refl _) .nil))))
section
variable {l : List BlkS} {x : PlS} {mark : UInt32} {i : Nat}
theorem grT_y (h : (spS x.spends[i]! (thrS (l ++ [⟨zeroH,grT l x mark i⟩])) mark).2 = true) : grT l x mark (i + 1) = grT l x mark i ++ [(spS x.spends[i]! (thrS (l ++ [⟨zeroH,grT l x mark i⟩])) mark).1]:=by rw [grT,if_pos h]
theorem grT_n (h : ¬ (spS x.spends[i]! (thrS (l ++ [⟨zeroH,grT l x mark i⟩])) mark).2 = true) : grT l x mark (i + 1) = grT l x mark i:=by rw [grT,if_neg h]
theorem grT_app (h : (spS x.spends[i]! (thrS (l ++ [⟨zeroH,grT l x mark i⟩])) mark).2 = true) : (grT l x mark i).map txOwn ++ [txOwn (spS x.spends[i]! (thrS (l ++ [⟨zeroH,grT l x mark i⟩])) mark).1] = (grT l x mark (i + 1)).map txOwn:=by
 rw [grT_y h,List.map_append]
 rfl
end
theorem take_app {α : Type} [Inhabited α] {l : List α} {f : α -> D} {j : Nat} (h : j < l.length) : (l.take j).map f ++ [f l[j]!] = (l.take (j + 1)).map f:=by
 rw [getElem!_pos l j h,<- List.take_append_getElem h,List.map_append]
 rfl
theorem heads_len (l : List BlkS) : (heads l).length = l.length:=List.length_map _
theorem heads_at {l : List BlkS} {j : Nat} (h : j < l.length) : (heads l)[j]! = l[j]!.hd:=by
 rw [getElem!_pos (heads l) j (by rw [heads_len]; exact h),getElem!_pos l j h]
 exact List.getElem_map _
theorem heads_app {l : List BlkS} {j : Nat} (h : j < l.length) : ((heads l).take j).map hdrD ++ [hdrD l[j]!.hd] = ((heads l).take (j + 1)).map hdrD:=by
 rw [<- take_app (by rw [heads_len]; exact h),heads_at h]
theorem heads_all (l : List BlkS) : (heads l).take l.length = heads l:=by rw [<- heads_len l,List.take_length]
theorem heads_wf {l : List BlkS} (h : allBl l) : allW (heads l):=fun x hx=>by
 obtain ⟨b,hb,rfl⟩:=List.mem_map.1 hx
 exact (h.2 b hb).hd
def idsK (l : List TxS) (k : Nat) : List Hs:=(l.take k).map ridS
theorem idsK_app {l : List TxS} {k : Nat} (h : k < l.length) : (idsK l k).map hashD ++ [hashD (ridS l[k]!)] = (idsK l (k + 1)).map hashD:=by
 unfold idsK
 rw [List.map_map,List.map_map,<- take_app h]
 rfl
theorem idsK_len {l : List TxS} {k : Nat} (h : k <= l.length) : (idsK l k).length = k:=by
 unfold idsK
 rw [List.length_map,List.length_take,Nat.min_eq_left h]
theorem idsK_all (l : List TxS) : idsK l l.length = l.map ridS:=by
 unfold idsK
 rw [List.take_length]
end Go.Sx

namespace Go.Sx
open Go.Proofs
set_option maxHeartbeats 1000000 in
theorem grow15_ok (l : List BlkS) (x : PlS) (mark : UInt32) (hl : allBl l) (h1 : 1 <= l.length) (h99 : l.length <= 99) (hto : ∀ s ∈ x.spends,s.to.length <= 140737488355328) : Fn Tryd.prog gl 22 [.agg [.u32 545259519,.int 10,.u32 10,.nils,hdrD easyH],.sl none 69 (l.map blkD),plD x,.u32 mark] (.tup [blkOwn (growS l x mark).1,.bool (growS l x mark).2]):=by
 refine Fn.of (n:=136) Tryd.func22 rfl rfl rfl (nU rfl) fun C hC hD=>?_
 refine W.seq ?_
 refine W.l0 4 [] [] [] [(0,_),(1,_),(2,_),(3,_)] [] 136 Zt O O O O (⟨O,_,R.box (gV 0 O) O O (nU O),⟨O,_,R.box (gV 2 O) O O (nU O),⟨O,_,R.alloc O (nU O),⟨O,_,R.asg (kB false O) O (nU O),tV [(1,_),(3,_),(4,_),(6,_),(8,_)] [(8,.var _),(6,.var _),(4,.var _)] 136 O O O ?_⟩⟩⟩⟩)
 refine W.seq ?_
 refine W.l0 23 [.y 23 _,.y 24 _,.y 25 _,.y 26 _,.y 27 _,.y 28 _,.y 29 _,.y 30 _,.y 31 _,.y 32 _,.y 33 _,.y 34 _,.y 35 _,.y 36 _,.y 37 _,.y 38 _,.y 39 _,.y 40 _,.y 41 _,.y 42 _,.y 43 _] [(12,34),(13,35),(18,40),(19,41),(20,36),(20,42)] [(12,34),(13,35),(18,40),(19,41),(20,36),(20,42)] [(1,_),(3,_),(4,_),(6,_),(8,_),(43,_)] [(8,.var _),(6,.var _),(4,.var _)] 136 ⟨mU 3 O O,aU fun _ _ H _=>R.bldSE (l:=[.arr 32 1 ((List.replicate 32 0).map D.u8),.u32 0]) (l':=[_,_]) (.cons (show ev _ _ (.const (.int .u32 4294967295)) = some (.u32 4294967295) from O) (.nil O)) ⟨⟨_,(show ev _ _ (.const (.int .u32 4294967295)) = some (.u32 4294967295) from O),O,O,O⟩,Zt⟩ H,mU 1 O O,aU fun _ _ H K=>R.lenE (SC.sl (K 25 _ O)) (lN _) H,aU fun _ _ H K=>R.convE (d:=.u8 (UInt8.ofNat l.length)) (eU K 26 O) O (u8_int _) H,mU 1 O O,aU fun _ _ H K=>R.lenE (SC.sl (K 28 _ O)) (lN _) H,aU fun _ _ H K=>R.binE (d:=.int (((l.length / 256) : Nat) : Int)) (eU K 29 O) (show ev _ _ (.const (.int .u64 8)) = some (.u64 8) from O) O bV (shr256 _) H,aU fun _ _ H K=>R.convE (d:=.u8 (UInt8.ofNat (l.length / 256))) (eU K 30 O) O (u8_int _) H,mU 3 O O,aU fun _ _ H K=>R.convE (d:=.u8 mark.toUInt8) (eU K 32 O) O (O) H,aU fun _ _ H K=>R.bslE (z:=1) (.cons (eU K 27 O) (.cons (eU K 31 O) (.cons (eU K 33 O) .nil))) ⟨⟨O,O,O⟩,⟨O,O,O⟩,⟨O,O,O⟩,Zt⟩ O H dU,aU fun _ _ H K=>R.bldO (l:=[.agg [.arr 32 1 ((List.replicate 32 0).map D.u8),.u32 0],.nils,.u32 0,.nils]) (l':=[_,_,_,_]) (.pur (eU K 24 O) O O O (.own (K 34 _ O) O O O O (.nil O))) O H,aU fun _ _ H K=>R.bslO (z:=36) (.own (K 35 _ O) O O O O .nil) O O H dU,aU (fU 6 O O),aU (lU 37 O O O O O O O),aU fun _ _ H K=>R.bin (eU K 38 O) (show ev _ _ (.const (.int .u8 12)) = some (.u8 12) from O) O dU H,aU fun _ _ H K=>R.callG hC (key15_ok (x.pays % 12)) (Bc (Bp (eU K 39 O) O O) Bn) (FrsR.one (frs_bytOwn _)) H,aU fun _ _ H K=>R.bldO (l:=[.u64 0,.nils]) (l':=[_,_]) (.pur (show ev _ _ (.const (.int .u64 5000)) = some (.u64 5000) from O) O O O (.own (K 40 _ O) O O O O (.nil O))) O H,aU fun _ _ H K=>R.bslO (z:=2) (.own (K 41 _ O) O O O O .nil) O O H dU,aU fun _ _ H K=>R.bldO (l:=[.u32 0,.nils,.nils,.u32 0]) (l':=[_,_,_,_]) (.pur (show ev _ _ (.const (.int .u32 1)) = some (.u32 1) from O) O O O (.pur (eU K 23 O) O O O (.own (K 36 _ O) O O O O (.own (K 42 _ O) O O O O (.nil O))))) O H,Zt⟩ O O O O (⟨O,_,R.alloc O (nU O),⟨O,_,R.stOZ (gU 10 O) (xU 10 O) O (gU 43 O) O O (by rfl) (by rfl) O O,tV [(1,_),(3,_),(4,_),(6,_),(8,_),(10,_)] [(10,.var _),(8,.var _),(6,.var _),(4,.var _)] 136 O O O ?_⟩⟩)
 refine W.seq ?_
 refine W.wkB 10 (d':=txOwn (mintT l.length x mark)) (bx':=[(10,.var _),(8,.var _),(6,.var _),(4,.var _)]) O (wk_mint _ _ _) O ?_
 refine W.l0 5 [] [] [] [(1,_),(3,_),(4,_),(6,_),(8,_),(10,_)] [(10,.var _),(8,.var _),(6,.var _),(4,.var _)] 136 Zt O O O O (⟨O,_,R.ldTake (gU 10 O) (xU 10 O) O O O (nU O),⟨O,_,R.bslO (z:=4) (.own (gU 44 O) O O O O .nil) O O (nU O) dU,⟨O,_,R.bldO (l:=[.agg [.u32 0,.arr 32 1 ((List.replicate 32 0).map D.u8),.arr 32 1 ((List.replicate 32 0).map D.u8),.u32 0,.u32 0,.u32 0],.nils]) (l':=[_,_]) (.own (gU 45 O) O O O O (.nil O)) O (nU O),⟨O,_,R.alloc O (nU O),⟨O,_,R.stOZ (gU 11 O) (xU 11 O) O (gU 46 O) O O (by rfl) (by rfl) O O,tV [(1,_),(3,_),(4,_),(6,_),(8,_),(11,_)] [(11,.var _),(10,.var _),(8,.var _),(6,.var _),(4,.var _)] 136 O O O ?_⟩⟩⟩⟩⟩)
 refine W.tailS 1 (fun s__=>∃ q__ : {q__ : Unit // True},s__ = ⟨136,[(1,.sl none 69 (l.map blkD)),(4,.ptr 4 0 []),(6,.ptr 6 0 []),(8,.ptr 8 0 []),(11,.ptr 11 0 [])],[(11,.var (.agg [hdrD zeroH,.sl (some 54) 4 ((grTx l x mark).map txOwn)])),(8,.var (.agg [hdrD zeroH,.nils])),(6,.var (plD x)),(4,.var (.agg [.u32 545259519,.int 10,.u32 10,.nils,hdrD easyH]))]⟩) ?_ ?_
 · rintro s__ ⟨⟨_,_⟩,rfl⟩
   have hsm:=grTx_sm hl h99 x mark
   refine W.seq ?_
   refine W.l0 1 [.y 17 _] [] [] [(1,_),(4,_),(6,_),(8,_),(11,_),(17,_)] [(11,.var _),(8,.var _),(6,.var _),(4,.var _)] 136 ⟨aU fun _ _ H _=>R.asg (kN O) O H,Zt⟩ O O O O (tU O ?_)
   refine W.seq (W.seq ?_)
   refine W.l0 1 [.y 18 _] [] [] [(1,_),(4,_),(6,_),(8,_),(11,_),(17,_),(18,_)] [(11,.var _),(8,.var _),(6,.var _),(4,.var _)] 136 ⟨aU fun _ _ H _=>R.asg (kI 0 O) O H,Zt⟩ O O O O (tU O ?_)
   refine W.block ?_
   refine W.asOwn (s:=17) 35 68 O ?_
   refine W.loop (α:={q__ : Nat // q__ <= l.length}) (fun q__=>⟨136,[(1,.sl none 69 (l.map blkD)),(4,.ptr 4 0 []),(6,.ptr 6 0 []),(8,.ptr 8 0 []),(11,.ptr 11 0 []),(17,.sl (some 35) 68 (((heads l).take q__.1).map hdrD)),(18,.int ((q__.1 : Nat) : Int))],[(11,.var (.agg [hdrD zeroH,.sl (some 54) 4 ((grTx l x mark).map txOwn)])),(8,.var (.agg [hdrD zeroH,.nils])),(6,.var (plD x)),(4,.var (.agg [.u32 545259519,.int 10,.u32 10,.nils,hdrD easyH]))]⟩) (fun q__=>l.length - q__.1) ⟨(0),bU⟩ O ?_
   rintro ⟨j,hj⟩
   show W _ _ _ _ ⟨136,[(1,.sl none 69 (l.map blkD)),(4,.ptr 4 0 []),(6,.ptr 6 0 []),(8,.ptr 8 0 []),(11,.ptr 11 0 []),(17,.sl (some 35) 68 (((heads l).take j).map hdrD)),(18,.int ((j : Nat) : Int))],[(11,.var (.agg [hdrD zeroH,.sl (some 54) 4 ((grTx l x mark).map txOwn)])),(8,.var (.agg [hdrD zeroH,.nils])),(6,.var (plD x)),(4,.var (.agg [.u32 545259519,.int 10,.u32 10,.nils,hdrD easyH]))]⟩
   have hj : j <= l.length:=hj
   have hsm:=grTx_sm hl h99 x mark
   refine W.seq (W.seq ?_)
   refine W.l0 4 [.y 87 _,.y 88 _,.y 89 _,.y 90 _] [] [] [(1,_),(4,_),(6,_),(8,_),(11,_),(17,_),(18,_),(90,_)] [(11,.var _),(8,.var _),(6,.var _),(4,.var _)] 136 ⟨mU 18 O O,mU 1 O O,aU fun _ _ H K=>R.lenE (SC.sl (K 88 _ O)) (lN _) H,aU fun _ _ H K=>R.lssN (j) (l.length) (eU K 87 O) (eU K 89 O) H,Zt⟩ O O O O (tU O ?_)
   refine W.condD O (fun hc90=>?_) (fun hc90=>?_)
   · refine W.skip (W.seq (W.block ?_))
     refine W.l0 9 [.y 93 _,.y 94 _,.y 95 _,.y 96 _,.y 97 _,.y 98 _,.y 99 _,.y 100 _,.y 17 _] [(7,17),(8,100),(8,93)] [(7,17),(8,100)] [(1,_),(4,_),(6,_),(8,_),(11,_),(17,_),(18,_)] [(11,.var _),(8,.var _),(6,.var _),(4,.var _)] 136 ⟨aU fun _ _ H K=>R.al (K 17 _ O) H dU,mU 1 O O,mU 18 O O,aU fun _ _ H K=>R.idxN (j) (SC.sl (K 94 _ O)) (evoI (eU K 95 O)) O bU H dU,aU fun _ _ H K=>R.fdE (K 96 _ O) H dU,aU fun _ _ H K=>R.ldE (K 97 _ O) (SC.sl (K 94 _ O)) (map_get! (l:=l) bU) O O O O H,aU fun _ _ H K=>R.bslE (z:=68) (.cons (eU K 98 O) .nil) ⟨⟨O,O,O⟩,Zt⟩ O H dU,aU fun _ _ H K=>R.appE (Or.inr (K 93 _ O)) (K 17 _ O) (SrcO.sc (SC.sl (K 99 _ O)) (pur_lit O)) (show _ = (((heads l).take (j + 1)).map hdrD) from (heads_app (by omega))) (by simp only [List.length_map,List.length_take,heads_len,List.length_cons,List.length_nil]; omega) H dU dU,aU fun _ _ H K=>R.asgO (K 100 _ O) O H dU,Zt⟩ O O O O (tU O ?_)
     refine W.l0 3 [.y 91 _,.y 92 _,.y 18 _] [] [] [(1,_),(4,_),(6,_),(8,_),(11,_),(17,_),(18,_)] [(11,.var _),(8,.var _),(6,.var _),(4,.var _)] 136 ⟨mU 18 O O,aU fun _ _ H K=>R.addN (j) (1) (eU K 91 O) (kI 1 O) bU H,aU fun _ _ H K=>R.asg (eU K 92 O) O H,Zt⟩ O O O O (tU O ?_)
     exact ⟨⟨(j + 1),bU⟩,rfl,(by simp only []; omega)⟩
   · obtain rfl : j = l.length:=by omega
     rw [heads_all]
     refine W.exit (W.seq ?_)
     refine W.l0 1 [.y 19 _] [] [] [(4,_),(6,_),(8,_),(11,_),(17,_),(19,_)] [(11,.var _),(8,.var _),(6,.var _),(4,.var _)] 136 ⟨aU fun _ _ H _=>R.asg (kN O) O H,Zt⟩ O O O O (tU O ?_)
     refine W.seq (W.seq ?_)
     refine W.l0 1 [.y 20 _] [] [] [(4,_),(6,_),(8,_),(11,_),(17,_),(19,_),(20,_)] [(11,.var _),(8,.var _),(6,.var _),(4,.var _)] 136 ⟨aU fun _ _ H _=>R.asg (kI 0 O) O H,Zt⟩ O O O O (tU O ?_)
     refine W.block ?_
     refine W.asOwn (s:=19) 26 32 O ?_
     refine W.loop (α:={q__ : Nat // q__ <= (grTx l x mark).length}) (fun q__=>⟨136,[(4,.ptr 4 0 []),(6,.ptr 6 0 []),(8,.ptr 8 0 []),(11,.ptr 11 0 []),(17,.sl (some 35) 68 ((heads l).map hdrD)),(19,.sl (some 26) 32 ((idsK (grTx l x mark) q__.1).map hashD)),(20,.int ((q__.1 : Nat) : Int))],[(11,.var (.agg [hdrD zeroH,.sl (some 54) 4 ((grTx l x mark).map txOwn)])),(8,.var (.agg [hdrD zeroH,.nils])),(6,.var (plD x)),(4,.var (.agg [.u32 545259519,.int 10,.u32 10,.nils,hdrD easyH]))]⟩) (fun q__=>(grTx l x mark).length - q__.1) ⟨(0),bU⟩ O ?_
     rintro ⟨k,hk⟩
     show W _ _ _ _ ⟨136,[(4,.ptr 4 0 []),(6,.ptr 6 0 []),(8,.ptr 8 0 []),(11,.ptr 11 0 []),(17,.sl (some 35) 68 ((heads l).map hdrD)),(19,.sl (some 26) 32 ((idsK (grTx l x mark) k).map hashD)),(20,.int ((k : Nat) : Int))],[(11,.var (.agg [hdrD zeroH,.sl (some 54) 4 ((grTx l x mark).map txOwn)])),(8,.var (.agg [hdrD zeroH,.nils])),(6,.var (plD x)),(4,.var (.agg [.u32 545259519,.int 10,.u32 10,.nils,hdrD easyH]))]⟩
     have hk : k <= (grTx l x mark).length:=hk
     refine W.seq (W.seq ?_)
     refine W.l0 5 [.y 101 _,.y 102 _,.y 103 _,.y 104 _,.y 105 _] [] [] [(4,_),(6,_),(8,_),(11,_),(17,_),(19,_),(20,_),(105,_)] [(11,.var _),(8,.var _),(6,.var _),(4,.var _)] 136 ⟨mU 20 O O,aU (fU 11 O O),aU fun _ B H K=>R.ldO (K 102 _ O) (B 11 _ O) O H,aU fun _ B H K=>R.lenE (SC.alb (K 103 _ O) (B 11 _ O) O) (lN _) H,aU fun _ _ H K=>R.lssN (k) ((grTx l x mark).length) (eU K 101 O) (eU K 104 O) H,Zt⟩ O O O O (tU O ?_)
     refine W.condD O (fun hc105=>?_) (fun hc105=>?_)
     · refine W.skip (W.seq (W.block ?_))
       refine W.region (WL.cons O (R.al (gU 19 O) (nU O) dU) (WL.inlT 6 [(11,.rp (.agg [hdrD zeroH,.sl none 4 ((grTx l x mark).map txD)])),(20,.int ((k : Nat) : Int))] [(4,.ptr 4 0 []),(6,.ptr 6 0 []),(8,.ptr 8 0 []),(11,.ptr 11 0 []),(17,.sl (some 35) 68 ((heads l).map hdrD)),(19,.sl (some 26) 32 ((idsK (grTx l x mark) k).map hashD)),(20,.int ((k : Nat) : Int)),(108,.al 19),(114,hashD (ridS (grTx l x mark)[k]!))] (.cons (Bor.ptr (gU 11 O) (xU 11 O) O (brw_blkOwn (⟨zeroH,grTx l x mark⟩ : BlkS)) O) O (.cons (Bp (gV 20 O) O O) O .nil)) (fun C hC0 _ _ hD=>?_) ?_))
       · have hC:=hC0.trans hC
         exact ⟨rfl,_,R.fdR (gV 11 rfl) rfl rfl (nU rfl),⟨rfl,_,R.ldR (gV 109 rfl) rfl rfl rfl (nU rfl),⟨rfl,_,R.mov (gV 20 rfl) rfl (nU rfl),⟨rfl,_,R.idxN (k) (SC.sl (gU 110 rfl)) (evoI (gV 111 rfl)) rfl bU (nU rfl) dU,⟨rfl,_,R.ldE (gU 112 rfl) (SC.sl (gU 110 rfl)) (map_get! (l:=(grTx l x mark)) bU) rfl rfl rfl rfl (nU rfl),⟨rfl,_,R.callG hC (rid_ok (grTx l x mark)[k]! (hsm.1 _ (get_mem (by omega))).wf) (Bc (Bp (gV 113 rfl) rfl rfl) Bn) (FrsR.one (frs_hash' _)) (nU rfl),⟨[114],[(114,_)],[],136,rfl,rfl,rfl,rfl,rfl,⟨⟨rfl,rfl⟩,⟨rfl,rfl⟩,⟨rfl,rfl⟩,⟨rfl,rfl⟩,⟨rfl,rfl⟩,⟨rfl,rfl⟩,⟨rfl,rfl⟩,⟨rfl,rfl⟩,⟨rfl,rfl,rfl,frs_hash _⟩,Zt⟩⟩⟩⟩⟩⟩⟩⟩
       · refine ⟨rfl,_,R.bslE (z:=32) (.cons (gV 114 rfl) .nil) ⟨⟨rfl,rfl,rfl⟩,Zt⟩ rfl (nU rfl) dU,⟨rfl,_,R.appE (Or.inr (gU 108 rfl)) (gU 19 rfl) (SrcO.sc (SC.sl (gU 115 rfl)) (pur_lit rfl)) (show _ = ((idsK (grTx l x mark) (k + 1)).map hashD) from (idsK_app (by omega))) (by simp only [List.length_map,idsK_len hk,List.length_cons,List.length_nil]; omega) (nU rfl) dU dU,⟨rfl,_,R.asgO (gU 116 rfl) rfl (nU rfl) dU,⟨[4,6,8,11,17,19,20],[(4,_),(6,_),(8,_),(11,_),(17,_),(19,_),(20,_)],[(11,.var _),(8,.var _),(6,.var _),(4,.var _)],136,rfl,rfl,rfl, ?_⟩⟩⟩⟩
         refine W.l0 3 [.y 106 _,.y 107 _,.y 20 _] [] [] [(4,_),(6,_),(8,_),(11,_),(17,_),(19,_),(20,_)] [(11,.var _),(8,.var _),(6,.var _),(4,.var _)] 136 ⟨mU 20 O O,aU fun _ _ H K=>R.addN (k) (1) (eU K 106 O) (kI 1 O) bU H,aU fun _ _ H K=>R.asg (eU K 107 O) O H,Zt⟩ O O O O (tU O ?_)
         exact ⟨⟨(k + 1),bU⟩,rfl,(by simp only []; omega)⟩
     · obtain rfl : k = (grTx l x mark).length:=by omega
       rw [idsK_all]
       refine W.exit (W.seq ?_)
       refine W.drawE (m:=17) (an:=[0,0,0,4,12,0,32,96,252,0,524,2047,4095,8191,8191,0,49151,131071]) (its:=[.y 118 _,.y 119 _,.y 120 _,.y 121 _,.y 122 _,.y 123 _,.y 124 _,.y 125 _,.y 126 _,.y 127 _,.y 128 _,.y 129 _,.y 117 _,.y 130 _,.y 131 _,.y 21 _,⟨152,.dead,true⟩]) (ks:=[(16,152)]) (kk:=[]) (efs:=[(15,[(21,.var _)]),(16,[(21,.var _)])]) (live:=[8,11,21,131]) (env':=[(8,_),(11,_),(21,_),(131,_)]) (nd:=40) (bx1:=[(21,.var _),(11,.var _),(8,.var _),(6,.var _),(4,.var _)]) hP dU O ⟨⟨159,O⟩,nU O,O,O,O,O⟩ (            ⟨⟨O,nU O,O,fun _ τ hb ht hτ=>R.ldP (hτ 4 _ O) (hb 4 _ O) O O O O ht⟩,⟨⟨O,nU O,O,fun _ τ hb ht hτ=>R.al (hτ 17 _ O) ht dU⟩,⟨⟨O,nU O,O,fun _ τ hb ht hτ=>R.al (hτ 17 _ O) ht dU⟩,⟨⟨O,nU O,O,fun _ τ hb ht hτ=>R.callG hC (med13_ok (heads l) (by rw [heads_len]; omega)) (Bc (Bor.sc (SC.al (hτ 120 _ O) (hτ 17 _ O)) (brw_map brw_hdr)) Bn) (FrsR.one (.u32 _)) ht⟩,⟨⟨O,nU O,O,fun _ τ hb ht hτ=>R.bin (evt (hτ 121 _ O)) (show ev _ _ (.const (.int .u32 1)) = some (.u32 1) from O) O Zt ht⟩,⟨⟨O,nU O,O,fun _ τ hb ht hτ=>R.fdP (hτ 6 _ O) ht⟩,⟨⟨O,nU O,O,fun _ τ hb ht hτ=>R.ldP (hτ 123 _ O) (hb 6 _ O) O O O O ht⟩,⟨⟨O,nU O,O,fun _ τ hb ht hτ=>R.convE (d:=.u32 x.step.toUInt32) (evt (hτ 124 _ O)) O (O) ht⟩,⟨⟨O,nU O,O,fun _ τ hb ht hτ=>R.bin (evt (hτ 122 _ O)) (evt (hτ 125 _ O)) O Zt ht⟩,⟨⟨O,nU O,O,fun _ τ hb ht hτ=>R.al (hτ 19 _ O) ht dU⟩,⟨⟨O,nU O,O,fun _ τ hb ht hτ=>R.callG hC (rroot_ok ((grTx l x mark).map ridS) (ids_all _) (by rw [List.length_map]; omega)) (Bc (Bor.sc (SC.al (hτ 127 _ O) (hτ 19 _ O)) (brw_map brw_hash)) Bn) (FrsR.one (frs_hash' _)) ht⟩,⟨⟨O,nU O,O,fun _ τ hb ht hτ=>R.callG hC (mine_ok (heads l) (medS (heads l) + 1 + x.step.toUInt32) (rootS joinR ((grTx l x mark).map ridS)) (heads_wf hl) (by rw [heads_len]; omega) (by rw [heads_len]; omega) (rootS_len joinR_len (ids_all _))) (Bc (Bp (evt (hτ 118 _ O)) O O) (Bc (Bor.sc (SC.al (hτ 119 _ O) (hτ 17 _ O)) (brw_map brw_hdr)) (Bc (Bp (evt (hτ 126 _ O)) O O) (Bc (Bp (evt (hτ 128 _ O)) O O) (Bc (Bp (show ev _ _ (.const (.int .u32 200)) = some (.u32 200) from O) O O) Bn))))) (frs_mine _ _) ht⟩,⟨⟨O,nU O,O,fun _ τ hb ht hτ=>R.movT (hτ 129 _ O) O ht⟩,⟨⟨O,nU O,O,fun _ τ hb ht hτ=>R.ext (hτ 117 _ O) O O ht⟩,⟨⟨O,nU O,O,fun _ τ hb ht hτ=>R.ext (hτ 117 _ O) O O ht⟩,⟨⟨O,O,⟨O,nU O⟩,(SpE.alloc O (nU O))⟩,⟨⟨O,O,O,(SpE.st (p:=21) (id:=21) O O O (fun τ hτ=>(evt (hτ 130 _ O))) (by rfl) (by rfl) (by rfl) (by rfl) O)⟩,Zt⟩⟩⟩⟩⟩⟩⟩⟩⟩⟩⟩⟩⟩⟩⟩⟩⟩) O O O (n':=136) O (⟨O,_,R.asg (gV 131 O) O (nU O),⟨[8,11,21,22],[(8,_),(11,_),(21,_),(22,_)],[(21,.var _),(11,.var _),(8,.var _),(6,.var _),(4,.var _)],136,O,O,O, ?_⟩⟩)
       refine W.seq ?_
       refine W.l0 3 [.y 132 _,.y 133 _] [] [] [(8,_),(11,_),(22,_),(132,_),(133,_)] [(21,.var _),(11,.var _),(8,.var _),(6,.var _),(4,.var _)] 136 ⟨aU (lU 21 O O O O O O O),aU (fU 11 O O),Zt⟩ O O O O (⟨O,_,R.stZ (gU 133 O) (xU 11 O) O (gV 132 O) (by rfl) (by rfl) (by rfl) (by rfl) O,tV [(8,_),(11,_),(22,_)] [(21,.var _),(11,.var _),(8,.var _),(6,.var _),(4,.var _)] 136 O O O ?_⟩)
       refine W.seq ?_
       refine W.l0 4 [] [] [] [(8,_),(11,_),(22,_)] [(21,.var _),(11,.var _),(8,.var _),(6,.var _),(4,.var _)] 136 Zt O O O O (⟨O,_,R.ldTake (gU 11 O) (xU 11 O) O O O (nU O),⟨O,_,R.mov (gV 22 O) O (nU O),⟨O,_,R.stOZ (gU 8 O) (xU 8 O) O (gU 134 O) O O (by rfl) (by rfl) O O,⟨O,_,R.asg (gV 135 O) O (nU O),tV [(8,_),(9,_)] [(21,.var _),(11,.var _),(8,.var _),(6,.var _),(4,.var _)] 136 O O O ?_⟩⟩⟩⟩)
       refine W.ret ?_
       exact Ends.many (.inr O) (.cons O O O (show LdT _ 72 69 true from inferInstance) (.cons O O O Zt .nil)) (O) (show [(8,false),(9,true)].Nodup by decide)
 · intro htail
   refine W.seq (W.seq ?_)
   refine W.dropS (live:=[1,3,4,6,8,11]) (env':=[(1,_),(3,_),(4,_),(6,_),(8,_),(11,_)]) (bx':=[(11,.var _),(10,.var _),(8,.var _),(6,.var _),(4,.var _)]) (n':=136) O O O ?_
   refine W.dropB [4,6,8,11] (bx':=[(11,.var _),(8,.var _),(6,.var _),(4,.var _)]) O O O (pin_sub hD O) ?_
   refine W.l0 1 [.y 12 _] [] [] [(1,_),(3,_),(4,_),(6,_),(8,_),(11,_),(12,_)] [(11,.var _),(8,.var _),(6,.var _),(4,.var _)] 136 ⟨aU fun _ _ H _=>R.asg (kI 0 O) O H,Zt⟩ O O O O (tU O ?_)
   refine W.block ?_
   refine W.loop (α:={q__ : Nat // q__ <= min x.spends.length 6}) (fun q__=>⟨136,[(1,.sl none 69 (l.map blkD)),(3,.u32 mark),(4,.ptr 4 0 []),(6,.ptr 6 0 []),(8,.ptr 8 0 []),(11,.ptr 11 0 []),(12,.int ((q__.1 : Nat) : Int))],[(11,.var (.agg [hdrD zeroH,.sl (some 54) 4 ((grT l x mark q__.1).map txOwn)])),(8,.var (.agg [hdrD zeroH,.nils])),(6,.var (plD x)),(4,.var (.agg [.u32 545259519,.int 10,.u32 10,.nils,hdrD easyH]))]⟩) (fun q__=>min x.spends.length 6 - q__.1) ⟨(0),bU⟩ O ?_
   rintro ⟨i,hi⟩
   show W _ _ _ _ ⟨136,[(1,.sl none 69 (l.map blkD)),(3,.u32 mark),(4,.ptr 4 0 []),(6,.ptr 6 0 []),(8,.ptr 8 0 []),(11,.ptr 11 0 []),(12,.int ((i : Nat) : Int))],[(11,.var (.agg [hdrD zeroH,.sl (some 54) 4 ((grT l x mark i).map txOwn)])),(8,.var (.agg [hdrD zeroH,.nils])),(6,.var (plD x)),(4,.var (.agg [.u32 545259519,.int 10,.u32 10,.nils,hdrD easyH]))]⟩
   have hi : i <= min x.spends.length 6:=hi
   have hsm:=grT_sm hl h99 x mark i (by omega)
   have hlb:=allBl_one hl h99 (blkI_ zeroH_wf hsm.1 (by omega))
   have hthl:=Nat.le_trans (thrS_len hlb) (show 100000000 <= 1000000000 by decide)
   refine W.seq (W.seq ?_)
   by_cases h4 : i < x.spends.length
   · refine W.l0 9 [.y 47 _,.y 48 _,.y 49 _,.y 50 _,.y 51 _,.y 52 _,.y 53 _,.y 54 _,.y 55 _] [] [] [(1,_),(3,_),(4,_),(6,_),(8,_),(11,_),(12,_),(55,_)] [(11,.var _),(8,.var _),(6,.var _),(4,.var _)] 136 ⟨mU 12 O O,aU (fU 6 O O),aU (lU 48 O O O O O O O),aU fun _ _ H K=>R.lenE (SC.sl (K 49 _ O)) (lN _) H,aU fun _ _ H K=>R.lssN (i) (x.spends.length) (eU K 47 O) (eU K 50 O) H,mU 51 O O,aW O O (gT (dT h4) O) fun _ _ H K=>R.mov (eU K 12 O) O H,aW O O (gT (dT h4) O) fun _ _ H K=>R.lssN (i) (6) (eU K 53 O) (kI 6 O) H,aU fun _ _ H K=>R.pickT (eU K 52 O) (dT h4) (eU K 54 O) O H,Zt⟩ O O O O (tU O ?_)
     refine W.condD O (fun hc55=>?_) (fun hc55=>?_)
     · refine W.skip (W.seq (W.block ?_))
       refine W.inl [(1,.sl none 69 (l.map blkD)),(3,.u32 mark),(6,.rp (plD x)),(11,.rp (.agg [hdrD zeroH,.sl none 4 ((grT l x mark i).map txD)])),(12,.int ((i : Nat) : Int))] (.cons (Bp (gV 1 O) O O) O (.cons (Bp (gV 3 O) O O) O (.cons (Bor.ptr (gU 6 O) (xU 6 O) O (brw_pl x) O) O (.cons (Bor.ptr (gU 11 O) (xU 11 O) O (brw_blkOwn (⟨zeroH,grT l x mark i⟩ : BlkS)) O) O (.cons (Bp (gV 12 O) O O) O .nil))))) ?_
       refine WIn.seqA (σ2:=⟨136,[(3,.u32 mark),(6,.rp (plD x)),(12,.int ((i : Nat) : Int)),(13,.sl none 33 ((thrS (l ++ [(⟨zeroH,grT l x mark i⟩ : BlkS)])).map plcP)),(14,.sl none 1 ((thrS (l ++ [(⟨zeroH,grT l x mark i⟩ : BlkS)])).map valP))],[]⟩) hP (fun C hC0 _ _ hD=>?_) ?_
       · have hC:=hC0.trans hC
         refine WA.draw (m:=12) (an:=[0,0,3,0,8,31,63,127,255,255,511,2047]) dU rfl (its:=[.y 59 _,.y 60 _,.y 61 _,.y 62 _,.y 63 _,.y 64 _,.y 65 _,.y 58 _,.y 66 _,.y 67 _,.y 13 _,.y 14 _]) (ks:=[(2,59),(5,61)]) (kk:=[(2,59),(5,61)]) (live:=[3,6,12,13,14]) (env':=[(3,_),(6,_),(12,_),(13,_),(14,_)]) (⟨nU rfl,rfl,⟨aU fun _ _ H _=>R.bslE .nil Zt rfl H dU,mU 1 rfl rfl,aU fun _ _ H K=>R.appE (Or.inl rfl) (K 59 _ rfl) (SrcO.sc (SC.sl (K 60 _ rfl)) (pur_map (fun _=>rfl))) (List.nil_append _) bU H dU dU,aU fun _ _ H K=>R.ldR (eU K 11 rfl) rfl rfl rfl H,aU fun _ _ H K=>R.bslE (z:=69) (.cons (eU K 62 rfl) .nil) ⟨⟨rfl,rfl,rfl⟩,Zt⟩ rfl H dU,aU fun _ _ H K=>R.appE (Or.inl rfl) (K 61 _ rfl) (SrcO.sc (SC.sl (K 63 _ rfl)) (pur_lit rfl)) (show _ = ((l ++ [(⟨zeroH,grT l x mark i⟩ : BlkS)]).map blkD) from (by rw [List.map_append]; rfl)) (by simp only [List.length_map,List.length_cons,List.length_nil]; omega) H dU dU,aU fun _ _ H K=>R.callZ (r':=.tup [.sl none 33 ((thrS (l ++ [(⟨zeroH,grT l x mark i⟩ : BlkS)])).map plcP),.sl none 1 ((thrS (l ++ [(⟨zeroH,grT l x mark i⟩ : BlkS)])).map valP)]) (thr15_ok (l ++ [(⟨zeroH,grT l x mark i⟩ : BlkS)]) hlb) hC (Bc (Bor.sc (SC.sl (K 64 _ rfl)) (brw_map brw_blkK)) Bn) (frs_thr _ _ _) (brw_thr _ _ _) H,aU fun _ _ H K=>R.movT (K 65 _ rfl) rfl H,aU fun _ _ H K=>R.ext (K 58 _ rfl) rfl rfl H,aU fun _ _ H K=>R.ext (K 58 _ rfl) rfl rfl H,aU fun _ _ H K=>R.asg (eU K 66 rfl) rfl H,aU fun _ _ H K=>R.asg (eU K 67 rfl) rfl H,Zt⟩,rfl,rfl,rfl⟩) rfl (bx':=[]) rfl (n':=136) rfl (tV [(3,_),(6,_),(12,_),(13,_),(14,_)] [] 136 rfl rfl rfl ?_)
         exact ⟨rfl,rfl⟩
       · refine WIn.seq ?_
         refine WIn.region 12 [(1,.sl none 69 (l.map blkD)),(3,.u32 mark),(4,.ptr 4 0 []),(6,.ptr 6 0 []),(8,.ptr 8 0 []),(11,.ptr 11 0 []),(12,.int ((i : Nat) : Int)),(78,txOwn (spS x.spends[i]! (thrS (l ++ [(⟨zeroH,grT l x mark i⟩ : BlkS)])) mark).1),(79,.bool (spS x.spends[i]! (thrS (l ++ [(⟨zeroH,grT l x mark i⟩ : BlkS)])) mark).2)] (fun C hC0 _ _ hD=>?_) ?_
         · have hC:=hC0.trans hC
           exact ⟨rfl,_,R.fdR (gV 6 rfl) rfl rfl (nU rfl),⟨rfl,_,R.ldR (gV 69 rfl) rfl rfl rfl (nU rfl),⟨rfl,_,R.mov (gV 12 rfl) rfl (nU rfl),⟨rfl,_,R.idxN (i) (SC.sl (gU 70 rfl)) (evoI (gV 71 rfl)) rfl bU (nU rfl) dU,⟨rfl,_,R.ldE (gU 72 rfl) (SC.sl (gU 70 rfl)) (map_get! (l:=x.spends) bU) rfl rfl rfl rfl (nU rfl),⟨rfl,_,R.mov (gV 13 rfl) rfl (nU rfl),⟨rfl,_,R.mov (gV 14 rfl) rfl (nU rfl),⟨rfl,_,R.mov (gV 3 rfl) rfl (nU rfl),⟨rfl,_,R.callG hC (spend15_ok x.spends[i]! (thrS (l ++ [(⟨zeroH,grT l x mark i⟩ : BlkS)])) mark hthl (hto _ (get_mem h4))) (Bc (Bp (gV 73 rfl) rfl rfl) (Bc (Bp (gV 74 rfl) rfl rfl) (Bc (Bp (gV 75 rfl) rfl rfl) (Bc (Bp (gV 76 rfl) rfl rfl) Bn)))) (frs_spend _ _) (nU rfl),⟨rfl,_,R.movTO (gU 77 rfl) rfl (nU rfl),⟨rfl,_,R.extO (gU 68 rfl) rfl rfl rfl rfl rfl (nU rfl),⟨rfl,_,R.ext (gU 68 rfl) rfl rfl (nU rfl),⟨[78,79],[(78,_),(79,_)],[],136,rfl,rfl,rfl,rfl,rfl,⟨⟨rfl,rfl⟩,⟨rfl,rfl⟩,⟨rfl,rfl⟩,⟨rfl,rfl⟩,⟨rfl,rfl⟩,⟨rfl,rfl⟩,⟨rfl,rfl⟩,⟨rfl,rfl,rfl,frs_txOwn _⟩,⟨rfl,rfl,rfl,.bool _⟩,Zt⟩⟩⟩⟩⟩⟩⟩⟩⟩⟩⟩⟩⟩⟩
         · refine ⟨rfl,_,R.alloc rfl (nU rfl),⟨rfl,_,R.stOZ (gU 15 rfl) (xU 15 rfl) rfl (gU 78 rfl) rfl rfl (by rfl) (by rfl) rfl rfl,⟨rfl,_,R.asg (gV 79 rfl) rfl (nU rfl),⟨[1,3,4,6,8,11,12,15,16],[(1,_),(3,_),(4,_),(6,_),(8,_),(11,_),(12,_),(15,_),(16,_)],[(15,.var _),(11,.var _),(8,.var _),(6,.var _),(4,.var _)],136,rfl,rfl,rfl, ?_⟩⟩⟩⟩
           refine W.seq ?_
           refine W.l0 1 [.y 80 _] [] [] [(1,_),(3,_),(4,_),(6,_),(8,_),(11,_),(12,_),(15,_),(80,_)] [(15,.var _),(11,.var _),(8,.var _),(6,.var _),(4,.var _)] 136 ⟨mU 16 O O,Zt⟩ O O O O (tU O ?_)
           refine W.cond O (fun hc80=>?_) (fun hc80=>?_)
           · refine W.l0 7 [.y 81 _,.y 82 _] [] [] [(1,_),(3,_),(4,_),(6,_),(8,_),(11,_),(12,_),(15,_),(82,_)] [(15,.var _),(11,.var _),(8,.var _),(6,.var _),(4,.var _)] 136 ⟨aU (fU 11 O O),aU fun _ B H K=>R.ldO (K 81 _ O) (B 11 _ O) O H,Zt⟩ O O O O (⟨O,_,R.ldTake (gU 15 O) (xU 15 O) O O O (nU O),⟨O,_,R.bslO (z:=4) (.own (gU 83 O) O O O O .nil) O O (nU O) dU,⟨O,_,R.appBP2 (gU 82 O) (xU 11 O) O O O O (gU 82 O) (gU 84 O) O (show _ = ((grT l x mark (i + 1)).map txOwn) from (grT_app hc80)) (by simp only [List.length_map,List.length_cons,List.length_nil]; omega) (nU O) dU dU,⟨O,_,R.fdP (gU 11 O) (nU O),⟨O,_,R.stOZ (gU 86 O) (xU 11 O) O (gU 85 O) O O (by rfl) (by rfl) O O,tV [(1,_),(3,_),(4,_),(6,_),(8,_),(11,_),(12,_)] [(15,.var _),(11,.var _),(8,.var _),(6,.var _),(4,.var _)] 136 O O O ?_⟩⟩⟩⟩⟩)
             refine W.dropB [4,6,8,11] (bx':=[(11,.var _),(8,.var _),(6,.var _),(4,.var _)]) O O O (pin_sub hD O) ?_
             refine W.l0 3 [.y 56 _,.y 57 _,.y 12 _] [] [] [(1,_),(3,_),(4,_),(6,_),(8,_),(11,_),(12,_)] [(11,.var _),(8,.var _),(6,.var _),(4,.var _)] 136 ⟨mU 12 O O,aU fun _ _ H K=>R.addN (i) (1) (eU K 56 O) (kI 1 O) bU H,aU fun _ _ H K=>R.asg (eU K 57 O) O H,Zt⟩ O O O O (tU O ?_)
             exact ⟨⟨(i + 1),bU⟩,(by first | (dsimp only; rw [grT_n (by rw [hc80]; exact Bool.false_ne_true)]) | rfl),(by show min x.spends.length 6 - (i + 1) < min x.spends.length 6 - i; omega)⟩
           · refine W.skip ?_
             refine W.dropS (live:=[1,3,4,6,8,11,12]) (env':=[(1,_),(3,_),(4,_),(6,_),(8,_),(11,_),(12,_)]) (bx':=[(15,.var _),(11,.var _),(8,.var _),(6,.var _),(4,.var _)]) (n':=136) O O O ?_
             refine W.dropB [4,6,8,11] (bx':=[(11,.var _),(8,.var _),(6,.var _),(4,.var _)]) O O O (pin_sub hD O) ?_
             refine W.l0 3 [.y 56 _,.y 57 _,.y 12 _] [] [] [(1,_),(3,_),(4,_),(6,_),(8,_),(11,_),(12,_)] [(11,.var _),(8,.var _),(6,.var _),(4,.var _)] 136 ⟨mU 12 O O,aU fun _ _ H K=>R.addN (i) (1) (eU K 56 O) (kI 1 O) bU H,aU fun _ _ H K=>R.asg (eU K 57 O) O H,Zt⟩ O O O O (tU O ?_)
             exact ⟨⟨(i + 1),bU⟩,(by first | (dsimp only; rw [grT_n (by rw [hc80]; exact Bool.false_ne_true)]) | rfl),(by show min x.spends.length 6 - (i + 1) < min x.spends.length 6 - i; omega)⟩
     · obtain rfl : i = min x.spends.length 6:=by omega
       refine W.exit ?_
       refine W.dropS (live:=[1,4,6,8,11]) (env':=[(1,_),(4,_),(6,_),(8,_),(11,_)]) (bx':=[(11,.var _),(8,.var _),(6,.var _),(4,.var _)]) (n':=136) O O O ?_
       exact htail _ ⟨⟨(()),Zt⟩,rfl⟩
   · refine W.l0 9 [.y 47 _,.y 48 _,.y 49 _,.y 50 _,.y 51 _,.y 52 _,.x 53,.x 54,.y 55 _] [] [] [(1,_),(3,_),(4,_),(6,_),(8,_),(11,_),(12,_),(55,_)] [(11,.var _),(8,.var _),(6,.var _),(4,.var _)] 136 ⟨mU 12 O O,aU (fU 6 O O),aU (lU 48 O O O O O O O),aU fun _ _ H K=>R.lenE (SC.sl (K 49 _ O)) (lN _) H,aU fun _ _ H K=>R.lssN (i) (x.spends.length) (eU K 47 O) (eU K 50 O) H,mU 51 O O,aF O O (gF (dF h4) O),aF O O (gF (dF h4) O),aU fun _ _ H K=>R.pickF (eU K 52 O) (dF h4) (kB false O) O H,Zt⟩ O O O O (tU O ?_)
     refine W.condF O (O) ?_
     obtain rfl : i = min x.spends.length 6:=by omega
     refine W.exit ?_
     refine W.dropS (live:=[1,4,6,8,11]) (env':=[(1,_),(4,_),(6,_),(8,_),(11,_)]) (bx':=[(11,.var _),(8,.var _),(6,.var _),(4,.var _)]) (n':=136) O O O ?_
     exact htail _ ⟨⟨(()),Zt⟩,rfl⟩
end Go.Sx

namespace Go.Sx
theorem u32_int (n : Nat) : D.u32 (UInt32.ofInt ((n : Nat) : Int)) = .u32 (UInt32.ofNat n):=by
 congr 1
 unfold UInt32.ofInt
 apply UInt32.toNat_inj.1
 rw [UInt32.toNat_ofNat',UInt32.toNat_ofNat']
 omega
theorem wk_blk0 (h : HdS) : Wk (.sl (some 72) 69 [.agg [hdrD h,.nils]]) (.sl (some 72) 69 ([(⟨h,[]⟩ : BlkS)].map blkD)):=
 .slL (.cons (.aggL (.cons (.refl _) (.cons (.nils _ _) .nil))) .nil)
theorem brw_grow (b : BlkS) (c : Bool) : D.brwR (.tup [blkOwn b,.bool c]) = .tup [blkD b,.bool c]:=by
 show D.tup [(blkOwn b).brw,.bool c] = _
 rw [brw_blkOwn]
def allPl (ps : List PlS) : Prop:=∀ x ∈ ps,∀ s ∈ x.spends,s.to.length <= 140737488355328
section
variable {ps : List PlS} {i : Nat}
theorem blkI_n (h : (growS (blkI ps i) ps[i]! (UInt32.ofNat i)).2 = false) : blkI ps (i + 1) = blkI ps i:=by rw [blkI,if_neg (by rw [h]; exact Bool.false_ne_true)]
theorem blkI_app (h : (growS (blkI ps i) ps[i]! (UInt32.ofNat i)).2 = true) : (blkI ps i).map blkD ++ [blkD (growS (blkI ps i) ps[i]! (UInt32.ofNat i)).1] = (blkI ps (i + 1)).map blkD:=by
 rw [blkI,if_pos h,List.map_append]
 rfl
end
theorem brw_blks (o : Option Nat) (z : Nat) (l : List BlkS) : (D.sl o z (l.map blkD)).brw = .sl none z (l.map blkD):=by
 simp only [D.brw,brws_eq]
 rw [brw_map brw_blkK]
end Go.Sx

namespace Go.Sx
variable {pos : String} {aft : Array Edge} {g : Option (Nat × Bool)}
variable {P : Program} {C : Ctx} {σ σ' σ1 : Sg} {a : Act} {w w' : World} {ρ : Nat -> Nat} {Fe Fe' Fb : Nat -> List Nat}
variable {κ α : Type} [DecidableEq κ]
def kEnt (z : α) (m : List (κ × α)) (k : κ) : List (κ × α):=if kIdx m k < m.length then m else m ++ [(k,z)]
theorem kEnt_at (z : α) (m : List (κ × α)) (k : κ) : (kEnt z m k)[kIdx m k]? = some (k,kGet z m k):=by
 have hle : kIdx m k <= m.length:=List.findIdx_le_length
 unfold kEnt kGet
 split
 · rename_i h
   rw [List.getElem?_eq_getElem h]
   have hk : m[kIdx m k].1 = k:=by
    have:=List.findIdx_getElem (xs:=m) (p:=fun e : κ × α=>e.1 == k) (w:=h)
    exact eq_of_beq this
   have hk2 : m[kIdx m k] = (k,m[kIdx m k].2):=Prod.ext hk rfl
   simpa using hk2
 · have : kIdx m k = m.length:=by omega
   rw [this]
   simp
theorem kGet_set (z : α) (m : List (κ × α)) (k : κ) (v : α) (k' : κ) : kGet z ((kEnt z m k).set (kIdx m k) (k,v)) k' = if k' = k then v else kGet z m k':=by
 induction m with
 | nil=>
  simp only [kEnt,kIdx,kGet,List.findIdx_nil,List.length_nil,Nat.lt_irrefl,if_false,List.nil_append,List.set_cons_zero,List.findIdx_cons]
  by_cases h : k' = k
  · simp [h]
  · have h' : (k == k') = false:=by simpa using fun e=>h e.symm
    simp [h,h']
 | cons e r hr=>
  by_cases he : e.1 = k
  · have h0 : kIdx (e :: r) k = 0:=by simp [kIdx,List.findIdx_cons,he]
    have h1 : kEnt z (e :: r) k = e :: r:=by simp [kEnt,h0]
    rw [h0,h1,List.set_cons_zero]
    by_cases h : k' = k
    · subst h; simp [kGet,kIdx,List.findIdx_cons]
    · have h' : (k == k') = false:=by simpa using fun e=>h e.symm
      simp [kGet,kIdx,List.findIdx_cons,h,h',he]
  · have he' : (e.1 == k) = false:=by simpa using he
    have h0 : kIdx (e :: r) k = kIdx r k + 1:=by simp [kIdx,List.findIdx_cons,he']
    have h1 : kEnt z (e :: r) k = e :: kEnt z r k:=by
     simp only [kEnt,h0,List.length_cons,Nat.add_lt_add_iff_right]
     split <;> simp
    rw [h0,h1,List.set_cons_succ]
    by_cases hk : e.1 = k'
    · have hne : ¬ k' = k:=fun h=>he (hk.trans h)
      simp [kGet,kIdx,List.findIdx_cons,hk,hne]
    · have hk' : (e.1 == k') = false:=by simpa using hk
      have e1 : ∀ l : List (κ × α),kGet z (e :: l) k' = kGet z l k':=fun l=>by simp [kGet,kIdx,List.findIdx_cons,hk']
      rw [e1,e1]
      exact hr
def kCnt (m : List (κ × Nat)) (k : κ) : List (κ × Nat):=(kEnt 0 m k).set (kIdx m k) (k,kGet 0 m k + 1)
def cntL (ks : List κ) : List (κ × Nat):=ks.foldl kCnt []
theorem cntL_app (ks : List κ) (k : κ) : cntL (ks ++ [k]) = kCnt (cntL ks) k:=by simp [cntL,List.foldl_append]
theorem cntL_get (ks : List κ) (k : κ) : kGet 0 (cntL ks) k = ks.count k:=by
 have h : ∀ (ks : List κ) (m : List (κ × Nat)),kGet 0 (ks.foldl kCnt m) k = kGet 0 m k + ks.count k:=by
  intro ks
  induction ks with
  | nil=>intro m; simp
  | cons x r ih=>
   intro m
   rw [List.foldl_cons,ih,kCnt,kGet_set,List.count_cons]
   by_cases hx : k = x
   · subst hx; simp; omega
   · have hx' : (x == k) = false:=by simpa using fun e=>hx e.symm
     simp [hx,hx']
 have h0 : kGet 0 ([] : List (κ × Nat)) k = 0:=by simp [kGet]
 rw [cntL,h,h0,Nat.zero_add]
theorem cntL_le (ks : List κ) (k : κ) : kGet 0 (cntL ks) k <= ks.length:=by rw [cntL_get]; exact List.count_le_length
theorem cntL_pos (ks : List κ) (k : κ) : 0 < kGet 0 (cntL ks) k ↔ k ∈ ks:=by rw [cntL_get]; exact List.count_pos_iff
structure KeyD (P : Program) (kd : κ -> D) : Prop where
 same : ∀ (w : World) (ρ : Nat -> Nat) (G L : Nat -> Prop) (k : κ) (v v' : Value) (F F' : List Nat),VR w ρ G L (kd k) v F -> VR w ρ G L (kd k) v' F' -> Instr.sameBits 10000 v v' = true
theorem R.mentryK {kd : κ -> D} {f : α -> D} {m : List (κ × α)} {z : α} {n : Nat} {p t id : Nat} {x : Operand} {k : κ} {dk : D} {ty kt et rt : TypeId} [hT : MkT P ty kt et] {zd : D} [hZ : ZrT P et zd]
 (H : KeyC P kt kd n) (H2 : KeyD P kd) (h : σ.get p = some (.map id)) (hb : σ.box id = some (mpK kd f m)) (hx : ev C.gl σ x = some dk) (hdk : dk = kd k) (hz : zd = f z) (hr : ∀ v,(f v).isRef = false) (ht : t < σ.n) :
 OpS P C ⟨some t,.mapEntry ty (.tmp p) x,rt,pos,aft,g⟩ σ ((σ.putB id (mpK kd f (kEnt z m k))).set t (.tup [f (kGet z m k),.int (kIdx m k : Nat)])):=by
 subst hdk
 refine OpS.value fun a w ⟨ρ,Fe,Fb,st⟩=>?_
 have hp:=map_slot st h
 obtain ⟨Fx,hvx,_⟩:=ev_ok st hx (pur_ref (H.p k))
 have hF0:=hvx.pur (H.p k)
 rw [hF0] at hvx
 obtain ⟨hF,es,h2,h3,h4⟩:=mpK_at (st.bx _ _ hb)
 obtain ⟨zi,zv,z1,z2,z3,z4⟩:=hZ.i
 have hfk:=H.findKey hvx es.toList m (by simpa using h3) (fun j hj=>by have:=(h4 j hj).1; simpa [Array.getD_eq_getD_getElem?] using this)
 have hzv : VR w ρ (gd C Fe Fb) (fun i=>(σ.box i).isSome) (f z) zv []:=by rw [<- hz]; exact chk_VR z3 z4
 have hck:=fun b=>H.check hvx b
 have key : ∃ v : Value,∃ w' : World,(Instr.mapEntry ty (.map (some (ρ id))) (a.eval x)).run P w = .ok (.tuple #[v,.int .i64 ((kIdx m k : Nat) : Int)]) w' /\ VR w ρ (gd C Fe Fb) (fun i=>(σ.box i).isSome) (f (kGet z m k)) v [] /\
  ∃ es',w' = { w with heap:=w.heap.setIfInBounds (ρ id) (.map es' (kEnt z m k).length) } /\ es'.size = (kEnt z m k).length /\ ∀ j (hj : j < (kEnt z m k).length),VR w ρ (gd C Fe Fb) (fun i=>(σ.box i).isSome) (kd (kEnt z m k)[j].1) (es'.getD j default).key [] /\ VR w ρ (gd C Fe Fb) (fun i=>(σ.box i).isSome) (f (kEnt z m k)[j].2) (es'.getD j default).val [] /\ (es'.getD j default).born = j:=by
  by_cases hin : kIdx m k < m.length
  · have he : kEnt z m k = m:=by simp [kEnt,hin]
    have hgv : kGet z m k = m[kIdx m k].2:=by simp [kGet,hin]
    have hk:=kEnt_at z m k
    rw [he,List.getElem?_eq_getElem hin] at hk
    have hkk : m[kIdx m k].1 = k:=by injection hk with hk; rw [hk]
    obtain ⟨q1,q2,q3⟩:=h4 _ hin
    have hsz : kIdx m k < es.size:=by omega
    have hgd : es.getD (kIdx m k) default = es[kIdx m k]:=by simp [Array.getD_eq_getD_getElem?,hsz]
    rw [hgd] at q1 q2 q3
    rw [hkk] at q1
    have hsame:=H2.same w ρ _ _ k _ _ _ _ q1 hvx
    refine ⟨(es[kIdx m k]).val,_, ?_,by rw [hgv]; exact q2,es.modify (kIdx m k) (fun e=>{ e with key:=a.eval x }),rfl,by rw [he]; simpa using h3,fun j hj=>?_⟩
    · have hgl : (es.toList.getD (kIdx m k) default) = es[kIdx m k]:=by simp [hsz]
      simp [Instr.mapEntry,run_underlying hT.u,MapKept.run_getObj_map h2,hck,hfk,hin,Instr.keyThatStays,hsame,hsz,MapKept.run_setObj_map _ h2,goInt,q3,he]
    · simp only [he] at hj ⊢
      have hjs : j < es.size:=by omega
      obtain ⟨r1,r2,r3⟩:=h4 j hj
      have hgj : es.getD j default = es[j]:=by simp [Array.getD_eq_getD_getElem?,hjs]
      rw [hgj] at r1 r2 r3
      rw [Array.getD_eq_getD_getElem?,Array.getElem?_eq_getElem (by simpa using hjs),Option.getD_some,Array.getElem_modify]
      split
      · rename_i hij
        subst hij
        rw [hkk]
        exact ⟨hvx,r2,r3⟩
      · exact ⟨r1,r2,r3⟩
  · have he : kEnt z m k = m ++ [(k,z)]:=by simp [kEnt,hin]
    have hle : kIdx m k <= m.length:=List.findIdx_le_length
    have hix : kIdx m k = m.length:=by omega
    have hgv : kGet z m k = z:=by simp [kGet,hix]
    refine ⟨zv,_, ?_,by rw [hgv]; exact hzv,es.push { key:=a.eval x,val:=zv,born:=m.length },rfl,by rw [he]; simp [h3],fun j hj=>?_⟩
    · simp [Instr.mapEntry,run_underlying hT.u,MapKept.run_getObj_map h2,hck,hfk,hin,he,MapKept.run_setObj_map _ h2,goInt,hix,zeroValue,typeInfo,z1,z2]
    · simp only [he] at hj ⊢
      rcases Nat.lt_or_ge j m.length with hjm | hjm
      · obtain ⟨r1,r2,r3⟩:=h4 j hjm
        have hgj : (es.push { key:=a.eval x,val:=zv,born:=m.length }).getD j default = es.getD j default:=by
         simp only [Array.getD_eq_getD_getElem?,Array.getElem?_push]
         rw [if_neg (by omega)]
        rw [hgj,List.getElem_append_left hjm]
        exact ⟨r1,r2,r3⟩
      · have hje : j = m.length:=by simp at hj; omega
        subst hje
        have hgj : (es.push { key:=a.eval x,val:=zv,born:=m.length }).getD m.length default = { key:=a.eval x,val:=zv,born:=m.length }:=by
         simp only [Array.getD_eq_getD_getElem?,Array.getElem?_push,h3,if_true,Option.getD_some]
        rw [hgj]
        simp only [List.getElem_append_right (Nat.le_refl _),Nat.sub_self,List.getElem_cons_zero]
        exact ⟨hvx,hzv,trivial⟩
 obtain ⟨v,w',hrun,hv,es',rfl,hs',h5⟩:=key
 have st2:=st.putMk hb hs' h5
 have hblk : ∀ b,b ≠ ρ id -> (w.heap.setIfInBounds (ρ id) (.map es' (kEnt z m k).length))[b]? = w.heap[b]?:=fun b hne=>by
  rw [Array.getElem?_setIfInBounds]; simp [show ¬ ρ id = b from fun e=>hne e.symm]
 have hnot : ∀ b,gd C Fe Fb b -> b ≠ ρ id:=fun b hg he=>hg.2 (.inr ⟨id,by rw [hF,he]; simp⟩)
 have hg : ∀ b,gd C Fe Fb b -> gd C Fe (upd Fb id [ρ id]) b:=fun b hb'=>⟨hb'.1,fun hc=>hb'.2 (hc.imp (fun h=>h) (fun ⟨i,hi⟩=>by
  by_cases hii : i = id
  · subst hii; simp at hi; exact ⟨i,by rw [hF,hi]; simp⟩
  · rw [upd_other hii] at hi; exact ⟨i,hi⟩))⟩
 have hL : ∀ i,(σ.box i).isSome = true -> ((σ.putB id (mpK kd f (kEnt z m k))).box i).isSome = true:=fun i hi=>by
  rw [box_putB]
  by_cases hii : i = id
  · subst hii; simp [hb]
  · simp [hii,hi]
 refine ⟨.tuple #[v,.int .i64 ((kIdx m k : Nat) : Int)],{ w with heap:=w.heap.setIfInBounds (ρ id) (.map es' (kEnt z m k).length) }, ?_, ?_⟩
 · unfold execOp
   simp [eval_tmp hp,hrun]
 · refine st2.putRef ht ⟨[v,.int .i64 ((kIdx m k : Nat) : Int)],fun _=>[],by rw [put_get a t _ t (by rw [st.size]; exact ht)]; simp,rfl,(flat0 _).symm,fun j hj=>.inr ?_⟩
   have hup : ∀ d v,VR w ρ (gd C Fe Fb) (fun i=>(σ.box i).isSome) d v [] -> VR { w with heap:=w.heap.setIfInBounds (ρ id) (.map es' (kEnt z m k).length) } ρ (gd C (upd Fe t []) (upd Fb id [ρ id])) (fun i=>((σ.putB id (mpK kd f (kEnt z m k))).box i).isSome) d v []:=
    fun d v h=>(h.mono (fun b hb' _=>hblk b (hnot b (hb'.resolve_right (by simp)))) (fun b hb' _=>hg b hb') (fun i hi=>⟨hL i hi,rfl⟩)).mono (fun _ _ _=>rfl) (fun b hb _=>⟨hb.1,fun ho=>hb.2 (own_upd ho)⟩) (fun i hi=>⟨hi,rfl⟩)
   match j,hj with
   | 0,_=>exact ⟨hr _,hup _ _ hv⟩
   | 1,_=>exact ⟨rfl,hup _ _ (by simp only [List.getElem_cons_succ,List.getElem_cons_zero,VR,D.isAgg,Bool.false_eq_true,if_false]; exact .int _)⟩
omit [DecidableEq κ] in
theorem R.estoreK {kd : κ -> D} {f : α -> D} {m : List (κ × α)} {p id i : Nat} {k : κ} {u : α} {x y : Operand} {ty rt : TypeId} {dv : D}
 (h : σ.get p = some (.map id)) (hb : σ.box id = some (mpK kd f m)) (hx : ev C.gl σ x = some (.int (i : Nat))) (hy : ev C.gl σ y = some dv) (hd : dv = f u) (hp : dv.pur = true) (hk : (m[i]?).map (·.1) = some k) :
 OpS P C ⟨none,.entryStore ty (.tmp p) x y,rt,pos,aft,g⟩ σ (σ.putB id (mpK kd f (m.set i (k,u)))):=by
 refine OpS.skip rfl fun a w ⟨ρ,Fe,Fb,st⟩=>?_
 have hpm:=map_slot st h
 obtain ⟨Fx,hvx,_⟩:=ev_ok st hx rfl
 have hvx:=VR_int hvx
 obtain ⟨Fy,hvy,_⟩:=ev_ok st hy (pur_ref hp)
 have hFy:=hvy.pur hp
 subst hFy
 rw [hd] at hvy
 obtain ⟨hF,es,h2,h3,h4⟩:=mpK_at (st.bx _ _ hb)
 have hi : i < m.length:=by
  rcases Nat.lt_or_ge i m.length with h | h
  · exact h
  · rw [List.getElem?_eq_none h] at hk; cases hk
 rw [List.getElem?_eq_getElem hi] at hk
 simp only [Option.map_some,Option.some.injEq] at hk
 have hsz : i < es.size:=by omega
 have hfi : es.findIdx? (fun e=>(e.born : Int) == ((i : Nat) : Int)) = some i:=by
  rw [Array.findIdx?_eq_some_iff_getElem]
  refine ⟨hsz, ?_,fun j hj=>?_⟩
  · obtain ⟨_,_,r3⟩:=h4 i hi
    have hgj : es.getD i default = es[i]:=by simp [Array.getD_eq_getD_getElem?,hsz]
    rw [hgj] at r3
    simp [r3]
  · obtain ⟨_,_,r3⟩:=h4 j (by omega)
    have hgj : es.getD j default = es[j]:=by simp [Array.getD_eq_getD_getElem?,show j < es.size by omega]
    rw [hgj] at r3
    simp [r3]; omega
 have st2:=st.putMk (es:=es.modify i fun e=>{ e with val:=a.eval y }) (m':=m.set i (k,u)) hb (by simpa using h3) (fun j hj=>by
  have hj' : j < m.length:=by simpa using hj
  obtain ⟨r1,r2,r3⟩:=h4 j hj'
  have hjs : j < es.size:=by omega
  have hgj : es.getD j default = es[j]:=by simp [Array.getD_eq_getD_getElem?,hjs]
  rw [hgj] at r1 r2 r3
  rw [Array.getD_eq_getD_getElem?,Array.getElem?_eq_getElem (by simpa using hjs),Option.getD_some,Array.getElem_modify,List.getElem_set]
  by_cases hij : i = j
  · subst hij
    simp only [if_true]
    exact ⟨by rw [<- hk]; exact r1,hvy,r3⟩
  · simp only [hij,if_false]
    exact ⟨r1,r2,r3⟩)
 refine ⟨_, ?_,ρ,Fe,_,st2⟩
 unfold execOp
 simp [Instr.entryStore,eval_tmp hpm,hvx,MapKept.run_getObj_map h2,asInt,asIntOf,hfi,MapKept.run_setObj_map _ h2]
theorem R.lookKv {kd : κ -> D} {f : α -> D} {m : List (κ × α)} {z : α} {n : Nat} {p t id : Nat} {x : Operand} {k : κ} {dk : D} {ty kt et rt : TypeId} [hT : MkT P ty kt et] {zd : D} [hZ : ZrT P et zd]
 (H : KeyC P kt kd n) (h : σ.get p = some (.map id)) (hb : σ.box id = some (mpK kd f m)) (hx : ev C.gl σ x = some dk) (hdk : dk = kd k) (hz : zd = f z) (hr : ∀ v,(f v).isRef = false) (ht : t < σ.n) :
 OpS P C ⟨some t,.lookup ty (.tmp p) x false,rt,pos,aft,g⟩ σ (σ.set t (f (kGet z m k))):=by
 subst hdk
 refine OpS.value fun a w ⟨ρ,Fe,Fb,st⟩=>?_
 have hp:=map_slot st h
 obtain ⟨Fx,hvx,_⟩:=ev_ok st hx (pur_ref (H.p k))
 have hF0:=hvx.pur (H.p k)
 rw [hF0] at hvx
 obtain ⟨hF,es,h2,h3,h4⟩:=mpK_at (st.bx _ _ hb)
 obtain ⟨zi,zv,z1,z2,z3,z4⟩:=hZ.i
 have hfk:=H.findKey hvx es.toList m (by simpa using h3) (fun j hj=>by have:=(h4 j hj).1; simpa [Array.getD_eq_getD_getElem?] using this)
 have hzv : VR w ρ (gd C Fe Fb) (fun i=>(σ.box i).isSome) (f z) zv []:=by rw [<- hz]; exact chk_VR z3 z4
 have hck:=fun b=>H.check hvx b
 by_cases hin : kIdx m k < m.length
 · have hgv : kGet z m k = m[kIdx m k].2:=by simp [kGet,hin]
   obtain ⟨q1,q2,q3⟩:=h4 _ hin
   have hsz : kIdx m k < es.size:=by omega
   have hgd : es.getD (kIdx m k) default = es[kIdx m k]:=by simp [Array.getD_eq_getD_getElem?,hsz]
   rw [hgd] at q2
   refine ⟨es[kIdx m k].val,w, ?_,by rw [hgv]; exact st.put ht (hr _) q2⟩
   unfold execOp
   simp [Instr.lookup,run_underlying hT.u,eval_tmp hp,MapKept.run_getObj_map h2,hck,hfk,hin,hsz]
 · have hle : kIdx m k <= m.length:=List.findIdx_le_length
   have hgv : kGet z m k = z:=by simp [kGet,show kIdx m k = m.length by omega]
   refine ⟨zv,w, ?_,by rw [hgv]; exact st.put ht (hr _) hzv⟩
   unfold execOp
   simp [Instr.lookup,run_underlying hT.u,eval_tmp hp,MapKept.run_getObj_map h2,hck,hfk,hin,zeroValue,typeInfo,z1,z2]
theorem kGet_ent (z : α) (m : List (κ × α)) (k : κ) : kGet z (kEnt z m k) k = kGet z m k:=by
 have h:=kEnt_at z m k
 have hi : kIdx (kEnt z m k) k = kIdx m k:=by
  unfold kEnt
  split
  · rfl
  · rename_i hn
    have hle : kIdx m k <= m.length:=List.findIdx_le_length
    have he : kIdx m k = m.length:=by omega
    unfold kIdx at he hn ⊢
    rw [List.findIdx_append]
    simp [he]
 show ((((kEnt z m k)[kIdx (kEnt z m k) k]?).map (·.2)).getD z) = _
 rw [hi,h]
 rfl
theorem R.lookKe {kd : κ -> D} {f : α -> D} {m : List (κ × α)} {z : α} {n : Nat} {p t id : Nat} {x : Operand} {k : κ} {dk : D} {ty kt et rt : TypeId} [hT : MkT P ty kt et] {zd : D} [hZ : ZrT P et zd]
 (H : KeyC P kt kd n) (h : σ.get p = some (.map id)) (hb : σ.box id = some (mpK kd f m) ∨ σ.box id = some (mpK kd f (kEnt z m k))) (hx : ev C.gl σ x = some dk) (hdk : dk = kd k) (hz : zd = f z) (hr : ∀ v,(f v).isRef = false) (ht : t < σ.n) :
 OpS P C ⟨some t,.lookup ty (.tmp p) x false,rt,pos,aft,g⟩ σ (σ.set t (f (kGet z m k))):=by
 rcases hb with hb | hb
 · exact R.lookKv H h hb hx hdk hz hr ht
 · have:=R.lookKv (hT:=hT) (hZ:=hZ) (rt:=rt) (pos:=pos) (aft:=aft) (g:=g) (t:=t) H h hb hx hdk hz hr ht
   rwa [kGet_ent] at this
section
variable {ops : List Oper} {an : List Nat} {ks kk : List (Nat × Nat)} {its : List It}
theorem SpC.mentryK {kd : κ -> D} {f : α -> D} {m : List (κ × α)} {z : α} {n c : Nat} {p t id : Nat} {x : Operand} {k : κ} {dk : D} {ty kt et rt : TypeId} {bx1 : List (Nat × Bx)} [hT : MkT P ty kt et] {zd : D} [hZ : ZrT P et zd]
 (H : KeyC P kt kd n) (H2 : KeyD P kd) (h : facts an ks σ.env its c p = some (.map id)) (hb : lk σ.bx id = some (mpK kd f m)) (hx : ∀ τ : Sg,(∀ u x,facts an ks σ.env its c u = some x -> τ.get u = some x) -> ev C.gl τ x = some dk) (hdk : dk = kd k) (hz : zd = f z) (hr : ∀ v,(f v).isRef = false)
 (hbx : setb id (mpK kd f (kEnt z m k)) σ.bx = bx1) :
 SpC P C σ bx1 c [id] an ks its ⟨some t,.mapEntry ty (.tmp p) x,rt,pos,aft,g⟩ t (.tup [f (kGet z m k),.int (kIdx m k : Nat)]):=by
 intro τ hτb hτn ht hf
 have hbτ : τ.box id = some (mpK kd f m):=by simp only [Sg.box,hτb]; exact hb
 refine ⟨τ.putB id (mpK kd f (kEnt z m k)),R.mentryK (hT:=hT) (zd:=zd) (hZ:=hZ) H H2 (hf _ _ h) hbτ (hx τ hf) hdk hz hr ht,rfl,by rw [<- hbx,<- hτb]; rfl,fun u y _ hy ha=>?_⟩
 rw [get_putB,hy,Option.map_some,scrubB_alb ha]
end
theorem kEnt_key (z : α) (m : List (κ × α)) (k : κ) : ((kEnt z m k)[kIdx m k]?).map (·.1) = some k:=by rw [kEnt_at]; rfl
omit [DecidableEq κ] in
theorem renMp {m : Nat -> Nat} {kd : κ -> D} {f : α -> D} (h1 : ∀ a,(kd a).ren m = kd a) (h2 : ∀ u,(f u).ren m = f u) (M : List (κ × α)) (i : Nat) (r : List (Nat × Bx)) : renBx m ((i,mpK kd f M) :: r) = (m i,mpK kd f M) :: renBx m r:=by
 have e : (M.map fun e=>(kd e.1,f e.2)).map (fun kv=>(kv.1.ren m,kv.2.ren m)) = M.map fun e=>(kd e.1,f e.2):=by
  rw [List.map_map]
  exact List.map_congr_left fun e _=>by simp [h1,h2]
 simp only [renBx,mpK,Bx.ren,e]
end Go.Sx

namespace Go.Sx
open Go.Proofs
theorem place_key : KeyC Tryd.prog 60 placeK 3 where
 s:=⟨_,Tryd.underlying60⟩
 eq:=fun a b=>by
  have h:=eqv_place a b
  have e : (@BEq.beq Plc instBEqProd a b) = (@BEq.beq Plc instBEqOfDecidableEq a b):=by
   rw [Bool.eq_iff_iff,@beq_iff_eq Plc instBEqProd _ a b,@beq_iff_eq Plc instBEqOfDecidableEq _ a b]
  rw [<- e]
  exact h
 ck:=fun a=>CkV.struct (k:=2) Tryd.underlying60 (.cons rfl rfl inferInstance rfl rfl (CkV.arr a.1) (.cons rfl rfl inferInstance rfl rfl (CkV.more (CkV.u32 Tryd.underlying32 a.2)) .nil))
 n:=rfl
 p:=fun _=>rfl
theorem num_bytes {w : World} {ρ : Nat -> Nat} {G L : Nat -> Prop} {p : Bool} {n : Nat} {h : List UInt8} {cs : List Value} {F : List Nat} (hr : Rc w ρ G L p (.arr n 1 (h.map D.u8)) cs F) : cs = h.map fun b=>Value.int .u8 b.toNat:=by
 cases hr with
 | arr _ _ _ _ hl hs hr=>
  rw [List.length_map] at hl
  refine List.ext_getElem (by rw [hs,List.length_map]; omega) fun i h1 h2=>?_
  have hi : i < h.length:=by simpa using h2
  have:=hr i (by simpa using hi)
  rw [List.getElem_map] at this
  have e : (cs.drop (i * 1)).take 1 = [cs[i]]:=by
   rw [Nat.mul_one,List.drop_eq_getElem_cons h1]
   rfl
  rw [e] at this
  rw [List.getElem_map]
  generalize cs[i] = v at this
  cases this
  rfl
theorem plc_bytes {w : World} {ρ : Nat -> Nat} {G L : Nat -> Prop} {p : Bool} {k : Plc} {cs : List Value} {F : List Nat} (hr : Rc w ρ G L p (placeK k) cs F) : cs = (k.1.map fun b=>Value.int .u8 b.toNat) ++ [.int .u32 k.2.toNat]:=by
 cases hr with
 | agg _ _ Fs hs hr=>
  have h0:=hr 0 (by simp)
  have h1:=hr 1 (by simp)
  have e0 : offk [hashD k.1,D.u32 k.2] 0 = 0:=rfl
  have e1 : offk [hashD k.1,D.u32 k.2] 1 = 32:=rfl
  simp only [List.getElem_cons_zero,List.getElem_cons_succ,e0,e1,List.drop_zero] at h0 h1
  have hs' : cs.length = 33:=hs
  have q0:=num_bytes h0
  have q1 : (cs.drop 32).take 1 = [.int .u32 k.2.toNat]:=by
   have e2 : (D.u32 k.2).sz = 1:=rfl
   rw [e2] at h1
   generalize (cs.drop 32).take 1 = c at h1
   generalize Fs 1 = F1 at h1
   cases h1
   rfl
  have e3 : (hashD k.1).sz = 32:=rfl
  rw [e3] at q0
  have e4 : (cs.drop 32).take 1 = cs.drop 32:=List.take_of_length_le (by rw [List.length_drop]; omega)
  rw [e4] at q1
  rw [<- q0,<- q1,List.take_append_drop]
theorem same_ints : ∀ (l : List Value),(∀ v ∈ l,∃ k n,v = .int k n) -> ((l.zip l).all fun (x,y)=>Instr.sameBits 9999 x y) = true:=by
 intro l
 induction l with
 | nil=>intro _; rfl
 | cons v l ih=>
  intro h
  obtain ⟨k,n,rfl⟩:=h v (by simp)
  have hl:=ih fun v hv=>h v (by simp [hv])
  simp only [List.zip_cons_cons,List.all_cons,hl,Bool.and_true]
  simp [Instr.sameBits]
theorem place_same : KeyD Tryd.prog placeK where
 same:=fun w ρ G L k v v' F F' h h'=>by
  have a1 : (placeK k).isAgg = true:=rfl
  simp only [VR,a1,if_true] at h h'
  obtain ⟨cs,rfl,h⟩:=h
  obtain ⟨cs',rfl,h'⟩:=h'
  have q:=plc_bytes h
  have q':=plc_bytes h'
  have e : cs = cs':=Array.toList_inj.1 (q.trans q'.symm)
  subst e
  show Instr.sameBits (9999 + 1) _ _ = true
  simp only [Instr.sameBits,beq_self_eq_true,Bool.true_and]
  refine same_ints _ fun v hv=>?_
  rw [q] at hv
  rcases List.mem_append.1 hv with hv | hv
  · obtain ⟨b,_,rfl⟩:=List.mem_map.1 hv; exact ⟨_,_,rfl⟩
  · rw [List.mem_singleton.1 hv]; exact ⟨_,_,rfl⟩
theorem ren_hash (m : Nat -> Nat) (h : Hs) : (hashD h).ren m = hashD h:=by
 simp only [hashD,D.ren,rens_eq,List.map_map,Function.comp_def]
theorem ren_plc (m : Nat -> Nat) (k : Plc) : (placeK k).ren m = placeK k:=by
 simp only [placeK,D.ren,D.rens,ren_hash]
structure PvS where
 h : Int
 head : Hs
 at_ : Int
 id : Hs
 raw : List UInt8
 br : List Hs
 t : TxS
 deriving Inhabited
def pvD (p : PvS) : D:=.agg [.int p.h,hashD p.head,.int p.at_,hashD p.id,bytesD p.raw,.sl none 32 (p.br.map hashD),txD p.t]
def pvN (s : StS) : D:=.agg [natD s.h,hashD zero32,natD s.at_,hashD s.id,.nils,.nils,txD s.t]
def pvO (s : StS) : PvS:=⟨((s.h : Nat) : Int),zero32,((s.at_ : Nat) : Int),s.id,[],[],s.t⟩
theorem wk_pv (s : StS) : Wk (pvN s) (pvD (pvO s)):=
 .aggL (.cons (.refl _) (.cons (.refl _) (.cons (.refl _) (.cons (.refl _) (.cons (.nils _ _) (.cons (.nils _ _) (.cons (.refl _) .nil)))))))
theorem wk_pvs (o : Option Nat) (z : Nat) (l : List StS) : Wk (.sl o z (l.map pvN)) (.sl o z ((l.map pvO).map pvD)):=by
 rw [List.map_map]
 exact Wk.slM fun x _=>wk_pv x
abbrev EnS:=Int × Hs
def enD (e : EnS) : D:=.agg [.int e.1,hashD e.2]
abbrev UnS:=Plc × UInt64 × Int
def unD' (u : UnS) : D:=.agg [placeK u.1,.u64 u.2.1,.int u.2.2]
def sumK (k : UInt8) : Hs:=sumR (keyS k)
def paysR (o : OutS) (sc : Hs) : Bool:=sumR o.script == sc
def orO (t : TxS) (sc : Hs) (k : Nat) : Bool:=(List.range k).any fun j=>paysR t.outs[j]! sc
def inP (all : List StS) (i : Nat) (x : InS) (sc : Hs) : Bool:=match prvO all i (plc x) with
 | some o=>paysR o sc
 | none=>false
def orI (all : List StS) (i : Nat) (sc : Hs) (k : Nat) : Bool:=(List.range k).any fun j=>inP all i all[i]!.t.ins[j]! sc
def isT (all : List StS) (i : Nat) (sc : Hs) : Bool:=orO all[i]!.t sc all[i]!.t.outs.length || orI all i sc all[i]!.t.ins.length
def hstI (all : List StS) (sc : Hs) : Nat -> List EnS
 | 0=>[]
 | i + 1=>if isT all i sc = true then hstI all sc i ++ [(((all[i]!.h : Nat) : Int),all[i]!.id)] else hstI all sc i
def histS (l : List BlkS) (sc : Hs) : List EnS:=hstI (allS l) sc (allS l).length
theorem any_succ (f : Nat -> Bool) (k : Nat) : ((List.range (k + 1)).any f) = ((List.range k).any f || f k):=by
 rw [List.range_succ,List.any_append]
 simp
theorem orO_t {t : TxS} {sc : Hs} {k : Nat} (h : orO t sc k = true) : orO t sc (k + 1) = true:=by unfold orO at *; rw [any_succ,h]; rfl
theorem orO_f {t : TxS} {sc : Hs} {k : Nat} (h : orO t sc k = false) : orO t sc (k + 1) = paysR t.outs[k]! sc:=by unfold orO at *; rw [any_succ,h,Bool.false_or]
theorem orI_0 (all : List StS) (i : Nat) (sc : Hs) : orI all i sc 0 = false:=rfl
theorem orI_s (all : List StS) (i : Nat) (sc : Hs) (k : Nat) : orI all i sc (k + 1) = (orI all i sc k || inP all i all[i]!.t.ins[k]! sc):=any_succ _ _
theorem inP_some {all : List StS} {i : Nat} {x : InS} {sc : Hs} (h : (prvO all i (plc x)).isSome = true) : inP all i x sc = paysR ((prvO all i (plc x)).getD ⟨0,[]⟩) sc:=by
 unfold inP
 cases hp : prvO all i (plc x) with
 | none=>rw [hp] at h; cases h
 | some o=>rfl
theorem inP_none {all : List StS} {i : Nat} {x : InS} {sc : Hs} (h : (prvO all i (plc x)).isSome = false) : inP all i x sc = false:=by
 unfold inP
 cases hp : prvO all i (plc x) with
 | none=>rfl
 | some o=>rw [hp] at h; cases h
theorem hstI_t {all : List StS} {sc : Hs} {i : Nat} (h : isT all i sc = true) : hstI all sc (i + 1) = hstI all sc i ++ [(((all[i]!.h : Nat) : Int),all[i]!.id)]:=by rw [hstI,if_pos h]
theorem hstI_f {all : List StS} {sc : Hs} {i : Nat} (h : isT all i sc = false) : hstI all sc (i + 1) = hstI all sc i:=by rw [hstI,if_neg (by rw [h]; exact Bool.false_ne_true)]
theorem hstI_app {all : List StS} {sc : Hs} {i : Nat} (h : isT all i sc = true) : (hstI all sc i).map enD ++ [.agg [natD all[i]!.h,hashD all[i]!.id]] = (hstI all sc (i + 1)).map enD:=by
 rw [hstI_t h,List.map_append]
 rfl
theorem hstI_len (all : List StS) (sc : Hs) (i : Nat) : (hstI all sc i).length <= i:=by
 induction i with
 | zero=>exact Nat.le_refl _
 | succ i ih=>
  rw [hstI]
  split
  · rw [List.length_append,List.length_singleton]; omega
  · omega
theorem prvO_mono {l : List StS} {p : Plc} {o : OutS} {i n : Nat} (h : prvO l i p = some o) (hn : i <= n) : prvO l n p = some o:=by
 induction n with
 | zero=>rw [show i = 0 by omega] at h; exact h
 | succ n ih=>
  by_cases he : i = n + 1
  · rw [<- he]; exact h
  · rw [prvO,ih (by omega)]
theorem prvO_at {l : List StS} {p : Plc} {i n : Nat} (h0 : prvO l i p = none) (h : hasO l[i]! p = true) (hn : i < n) : prvO l n p = some l[i]!.t.outs[p.2.toNat]!:=by
 refine prvO_mono (i:=i + 1) ?_ (by omega)
 rw [prvO,h0]
 exact if_pos h
theorem prvO_no {l : List StS} {p : Plc} {i : Nat} (h0 : prvO l i p = none) (h : hasO l[i]! p = false) : prvO l (i + 1) p = none:=by
 rw [prvO,h0]
 exact if_neg (by rw [h]; exact Bool.false_ne_true)
theorem hasO_1 {s : StS} {p : Plc} (h : (s.id == p.1) = false) : hasO s p = false:=by unfold hasO; rw [h]; rfl
theorem u64len_lt {a : UInt32} {n : Nat} (hn : n <= 1000000000) : (a.toUInt64 < UInt64.ofInt ((n : Nat) : Int)) ↔ a.toNat < n:=by
 rw [UInt64.lt_iff_toNat_lt,UInt32.toNat_toUInt64]
 have h2 : (UInt64.ofInt ((n : Nat) : Int)).toNat = n:=by
  unfold UInt64.ofInt
  rw [UInt64.toNat_ofNat']
  omega
 rw [h2]
theorem hasO_2 {s : StS} {p : Plc} (h : (s.id == p.1) = true) : hasO s p = decide (p.2.toNat < s.t.outs.length):=by unfold hasO; rw [h]; rfl
theorem hasO_y {s : StS} {p : Plc} (h : (s.id == p.1) = true) (hn : s.t.outs.length <= 1000) (h2 : decide (p.2.toUInt64 < UInt64.ofInt ((s.t.outs.length : Nat) : Int)) = true) : hasO s p = true /\ p.2.toNat < s.t.outs.length:=by
 have h3:=(u64len_lt (by omega)).1 (of_decide_eq_true h2)
 exact ⟨by rw [hasO_2 h]; exact decide_eq_true h3,h3⟩
theorem hasO_n {s : StS} {p : Plc} (h : (s.id == p.1) = true) (hn : s.t.outs.length <= 1000) (h2 : decide (p.2.toUInt64 < UInt64.ofInt ((s.t.outs.length : Nat) : Int)) = false) : hasO s p = false:=by
 rw [hasO_2 h]
 exact decide_eq_false fun h3=>of_decide_eq_false h2 ((u64len_lt (by omega)).2 h3)
theorem wk_out0 : Wk (.agg [.u64 0,.nils]) (outD ⟨0,[]⟩):=.aggL (.cons (.refl _) (.cons (.nils _ _) .nil))
theorem or3_t {a : Bool} {all : List StS} {i : Nat} {sc : Hs} {k : Nat} (h : (a || orI all i sc k) = true) : (a || orI all i sc (k + 1)) = true:=by
 rw [orI_s,<- Bool.or_assoc,h]; rfl
theorem or3_y {a : Bool} {all : List StS} {i : Nat} {sc : Hs} {k : Nat} (h : (a || orI all i sc k) = false) (h2 : (prvO all i (plc all[i]!.t.ins[k]!)).isSome = true) : (a || orI all i sc (k + 1)) = paysR ((prvO all i (plc all[i]!.t.ins[k]!)).getD ⟨0,[]⟩) sc:=by
 rw [orI_s,<- Bool.or_assoc,h,inP_some h2]; rfl
theorem or3_n {a : Bool} {all : List StS} {i : Nat} {sc : Hs} {k : Nat} (h : (a || orI all i sc k) = false) (h2 : (prvO all i (plc all[i]!.t.ins[k]!)).isSome = false) : (a || orI all i sc (k + 1)) = false:=by
 rw [orI_s,<- Bool.or_assoc,h,inP_none h2]; rfl
theorem prvO_out {l : List StS} (hl : allSt l) {p : Plc} {i : Nat} {o : OutS} (hi : i <= l.length) (h : prvO l i p = some o) : o.script.length <= 1000000:=by
 induction i with
 | zero=>cases h
 | succ i ih=>
  rw [prvO] at h
  cases hp : prvO l i p with
  | some o'=>rw [hp] at h; cases h; exact ih (by omega) hp
  | none=>
   rw [hp] at h
   simp only at h
   split at h
   · rename_i hh
     cases h
     have hlt : p.2.toNat < l[i]!.t.outs.length:=by
      unfold hasO at hh
      rw [Bool.and_eq_true] at hh
      exact of_decide_eq_true hh.2
     exact (hl.get (by omega)).2.1.outScript hlt
   · cases h
theorem prvO_outD {l : List StS} (hl : allSt l) {p : Plc} {i : Nat} (hi : i <= l.length) : ((prvO l i p).getD ⟨0,[]⟩).script.length <= 1000000:=by
 cases h : prvO l i p with
 | none=>exact Nat.zero_le _
 | some o=>exact prvO_out hl hi h
end Go.Sx

namespace Go.Sx
def hasT (es : List EnS) (id : Hs) (j : Nat) : Bool:=(List.range j).any fun q=>es[q]!.2 == id
def kyT (l : List BlkS) (ks : List UInt8) (id : Hs) (k : Nat) : Bool:=(List.range k).any fun q=>hasT (histS l (sumK (ks[q]! % 12))) id (histS l (sumK (ks[q]! % 12))).length
def touI (l : List BlkS) (ks : List UInt8) : Nat -> List StS
 | 0=>[]
 | i + 1=>if kyT l ks (allS l)[i]!.id ks.length = true then touI l ks i ++ [(allS l)[i]!] else touI l ks i
def touS (l : List BlkS) (ks : List UInt8) : List StS:=touI l ks (allS l).length
theorem hasT_0 (es : List EnS) (id : Hs) : hasT es id 0 = false:=rfl
theorem hasT_t {a : Bool} {es : List EnS} {id : Hs} {j : Nat} (h : (a || hasT es id j) = true) : (a || hasT es id (j + 1)) = true:=by
 unfold hasT at *
 rw [any_succ,<- Bool.or_assoc,h]; rfl
theorem hasT_f {a : Bool} {es : List EnS} {id : Hs} {j : Nat} (h : (a || hasT es id j) = false) : (a || hasT es id (j + 1)) = (es[j]!.2 == id):=by
 unfold hasT at *
 rw [any_succ,<- Bool.or_assoc,h]; rfl
theorem kyT_s (l : List BlkS) (ks : List UInt8) (id : Hs) (k : Nat) : kyT l ks id (k + 1) = (kyT l ks id k || hasT (histS l (sumK (ks[k]! % 12))) id (histS l (sumK (ks[k]! % 12))).length):=any_succ _ _
theorem any_mono {f : Nat -> Bool} {k n : Nat} (h : (List.range k).any f = true) (hk : k <= n) : (List.range n).any f = true:=by
 rw [List.any_eq_true] at *
 obtain ⟨x,hx,hf⟩:=h
 exact ⟨x,List.mem_range.2 (Nat.lt_of_lt_of_le (List.mem_range.1 hx) hk),hf⟩
theorem kyT_end {l : List BlkS} {ks : List UInt8} {id : Hs} {k : Nat} (hk : k <= ks.length) (h : kyT l ks id k = true) : kyT l ks id k = kyT l ks id ks.length:=by
 rw [h]
 exact (any_mono h hk).symm
theorem not_f {b : Bool} (h : (!b) = false) : b = true:=by cases b; cases h; rfl
theorem not_t {b : Bool} (h : (!b) = true) : b = false:=by cases b; rfl; cases h
section
variable {l : List BlkS} {ks : List UInt8} {i : Nat}
theorem touI_n (h : kyT l ks (allS l)[i]!.id ks.length = false) : touI l ks (i + 1) = touI l ks i:=by rw [touI,if_neg (by rw [h]; exact Bool.false_ne_true)]
theorem touI_app (h : kyT l ks (allS l)[i]!.id ks.length = true) : (touI l ks i).map pvN ++ [pvN (allS l)[i]!] = (touI l ks (i + 1)).map pvN:=by
 rw [touI,if_pos h,List.map_append]
 rfl
end
theorem touI_len (l : List BlkS) (ks : List UInt8) (i : Nat) : (touI l ks i).length <= i:=by
 induction i with
 | zero=>exact Nat.le_refl _
 | succ i ih=>
  rw [touI]
  split
  · rw [List.length_append,List.length_singleton]; omega
  · omega
theorem touI_mem {l : List BlkS} (hl : allBl l) (ks : List UInt8) (i : Nat) (hi : i <= (allS l).length) : ∀ s ∈ touI l ks i,s.wf:=by
 induction i with
 | zero=>intro s h; cases h
 | succ i ih=>
  intro s h
  rw [touI] at h
  split at h
  · rcases List.mem_append.1 h with h | h
    · exact ih (by omega) s h
    · rw [List.mem_singleton.1 h]; exact (allS_wf hl).get (by omega)
  · exact ih (by omega) s h
theorem frs_ens (e z : Nat) (l : List EnS) : FrsR (.sl (some e) z (l.map enD)):=.inr ⟨fun ds e=>(by cases e),.sl _ _ _ (frs_map fun x=>.agg _ (frs_mem2 (.int _) (frs_hash _)))⟩
theorem frs_uns (e z : Nat) (l : List UnS) : FrsR (.sl (some e) z (l.map unD')):=.inr ⟨fun ds e=>(by cases e),.sl _ _ _ (frs_map fun x=>.agg _ (fun y hy=>by
 simp only [List.mem_cons,List.not_mem_nil,or_false] at hy
 rcases hy with rfl | rfl | rfl
 · exact .agg _ (frs_mem2 (frs_hash _) (.u32 _))
 · exact .u64 _
 · exact .int _))⟩
theorem brw_pvK (p : PvS) : (pvD p).brw = pvD p:=by
 simp only [pvD,D.brw,brws_eq,List.map_cons,List.map_nil,brw_hash,brw_byt,brw_txK]
 rw [brw_map brw_hash]
theorem brw_pvs (o : Option Nat) (z : Nat) (l : List PvS) : (D.sl o z (l.map pvD)).brw = .sl none z (l.map pvD):=by
 simp only [D.brw,brws_eq]
 rw [brw_map brw_pvK]
structure PvS.wf (p : PvS) : Prop where
 id : p.id.length = 32
 ins : p.t.ins.length <= 1000
 outs : p.t.outs.length <= 1000
 scr : ∀ o ∈ p.t.outs,o.script.length <= 1000000
def allPv (l : List PvS) : Prop:=l.length <= 100000 /\ ∀ p ∈ l,p.wf
theorem allPv.get {l : List PvS} (h : allPv l) {i : Nat} (hi : i < l.length) : l[i]!.wf:=h.2 _ (get_mem hi)
theorem PvS.wf.out {p : PvS} (h : p.wf) {n : Nat} (hn : n < p.t.outs.length) : p.t.outs[n]!.script.length <= 1000000:=h.scr _ (get_mem hn)
theorem pvO_wf {s : StS} (h : s.wf) : (pvO s).wf:=⟨h.1,h.2.2.1,h.2.2.2,h.2.1.oscr⟩
theorem tou_pv {l : List BlkS} (hl : allBl l) (ks : List UInt8) : allPv ((touS l ks).map pvO):=by
 refine ⟨?_,fun p hp=>?_⟩
 · rw [List.length_map]
   exact Nat.le_trans (touI_len l ks _) (allS_wf hl).1
 · obtain ⟨s,hs,rfl⟩:=List.mem_map.1 hp
   exact pvO_wf (touI_mem hl ks _ (Nat.le_refl _) s hs)
def nK (n : Nat) : UInt32:=UInt32.ofInt ((n : Nat) : Int)
def paysV (o : OutS) (sc : Hs) : Bool:=sumS o.script == sc
theorem paysV_eq (o : OutS) (sc : Hs) : paysV o sc = paysR o sc:=by unfold paysV paysR; rw [sum_r]
def pyK (p : PvS) (sc : Hs) : Nat -> List Plc
 | 0=>[]
 | n + 1=>if paysV p.t.outs[n]! sc = true then pyK p sc n ++ [(p.id,nK n)] else pyK p sc n
def pyI (l : List PvS) (sc : Hs) : Nat -> List Plc
 | 0=>[]
 | i + 1=>pyI l sc i ++ pyK l[i]! sc l[i]!.t.outs.length
def spK (p : PvS) : Nat -> List Plc
 | 0=>[]
 | n + 1=>spK p n ++ [plc p.t.ins[n]!]
def spI (l : List PvS) : Nat -> List Plc
 | 0=>[]
 | i + 1=>spI l i ++ spK l[i]! l[i]!.t.ins.length
def orV (t : TxS) (sc : Hs) (k : Nat) : Bool:=(List.range k).any fun j=>paysV t.outs[j]! sc
def inV (ks : List Plc) (t : TxS) (k : Nat) : Bool:=(List.range k).any fun j=>decide (0 < kGet 0 (cntL ks) (plc t.ins[j]!))
def tchV (ks : List Plc) (p : PvS) (sc : Hs) : Bool:=orV p.t sc p.t.outs.length || inV ks p.t p.t.ins.length
def hvI (l : List PvS) (sc : Hs) : Nat -> List EnS
 | 0=>[]
 | i + 1=>if tchV (pyI l sc l.length) l[i]! sc = true then hvI l sc i ++ [(l[i]!.h,l[i]!.id)] else hvI l sc i
def hvS (l : List PvS) (sc : Hs) : List EnS:=hvI l sc l.length
def uvC (gone : List Plc) (p : PvS) (sc : Hs) (n : Nat) : Bool:=decide (kGet 0 (cntL gone) (p.id,nK n) = 0) && paysV p.t.outs[n]! sc
def uvK (gone : List Plc) (p : PvS) (sc : Hs) : Nat -> List UnS
 | 0=>[]
 | n + 1=>if uvC gone p sc n = true then uvK gone p sc n ++ [((p.id,nK n),p.t.outs[n]!.value,p.h)] else uvK gone p sc n
def uvI (gone : List Plc) (l : List PvS) (sc : Hs) : Nat -> List UnS
 | 0=>[]
 | i + 1=>uvI gone l sc i ++ uvK gone l[i]! sc l[i]!.t.outs.length
def uvS (l : List PvS) (sc : Hs) : List UnS:=uvI (spI l l.length) l sc l.length
def blI (u : List UnS) : Nat -> UInt64
 | 0=>0
 | i + 1=>blI u i + u[i]!.2.1
def blS (u : List UnS) : UInt64:=blI u u.length
def pR (l : List PvS) (p : Plc) (sc : Hs) (i : Nat) : Bool:=(List.range i).any fun j=>l[j]!.id == p.1 && (decide (p.2.toNat < l[j]!.t.outs.length) && paysR l[j]!.t.outs[p.2.toNat]! sc)
def sK (t : TxS) (p : Plc) (k : Nat) : Bool:=(List.range k).any fun j=>plc t.ins[j]! == p
def sR (l : List PvS) (p : Plc) (i : Nat) : Bool:=(List.range i).any fun j=>sK l[j]!.t p l[j]!.t.ins.length
def inR (l : List PvS) (t : TxS) (sc : Hs) (k : Nat) : Bool:=(List.range k).any fun j=>pR l (plc t.ins[j]!) sc l.length
def tchR (l : List PvS) (p : PvS) (sc : Hs) : Bool:=orO p.t sc p.t.outs.length || inR l p.t sc p.t.ins.length
def hrI (l : List PvS) (sc : Hs) : Nat -> List EnS
 | 0=>[]
 | i + 1=>if tchR l l[i]! sc = true then hrI l sc i ++ [(l[i]!.h,l[i]!.id)] else hrI l sc i
def hrS (l : List PvS) (sc : Hs) : List EnS:=hrI l sc l.length
def urC (l : List PvS) (p : PvS) (sc : Hs) (n : Nat) : Bool:=paysR p.t.outs[n]! sc && !sR l (p.id,nK n) l.length
def urK (l : List PvS) (p : PvS) (sc : Hs) : Nat -> List UnS
 | 0=>[]
 | n + 1=>if urC l p sc n = true then urK l p sc n ++ [((p.id,nK n),p.t.outs[n]!.value,p.h)] else urK l p sc n
def urI (l : List PvS) (sc : Hs) : Nat -> List UnS
 | 0=>[]
 | i + 1=>urI l sc i ++ urK l l[i]! sc l[i]!.t.outs.length
def urS (l : List PvS) (sc : Hs) : List UnS:=urI l sc l.length
section
variable {l : List PvS} {p : PvS} {sc : Hs} {n i k : Nat} {t : TxS} {ks : List Plc}
theorem pyK_n (h : paysV p.t.outs[n]! sc = false) : pyK p sc (n + 1) = pyK p sc n:=by rw [pyK,if_neg (by rw [h]; exact Bool.false_ne_true)]
theorem pyK_y (h : paysV p.t.outs[n]! sc = true) : pyK p sc (n + 1) = pyK p sc n ++ [(p.id,nK n)]:=by rw [pyK,if_pos h]
theorem pyK_len (p : PvS) (sc : Hs) (n : Nat) : (pyK p sc n).length <= n:=by
 induction n with
 | zero=>exact Nat.le_refl _
 | succ n ih=>
  rw [pyK]
  split
  · rw [List.length_append,List.length_singleton]; omega
  · omega
theorem pyI_len (hl : allPv l) (sc : Hs) (i : Nat) (hi : i <= l.length) : (pyI l sc i).length <= 1000 * i:=by
 induction i with
 | zero=>exact Nat.le_refl _
 | succ i ih=>
  have h1:=ih (by omega)
  have h2:=pyK_len l[i]! sc l[i]!.t.outs.length
  have h3:=(hl.get (show i < l.length by omega)).outs
  rw [pyI,List.length_append]
  omega
theorem spK_len (p : PvS) (n : Nat) : (spK p n).length = n:=by
 induction n with
 | zero=>rfl
 | succ n ih=>rw [spK,List.length_append,List.length_singleton,ih]
theorem spI_len (hl : allPv l) (i : Nat) (hi : i <= l.length) : (spI l i).length <= 1000 * i:=by
 induction i with
 | zero=>exact Nat.le_refl _
 | succ i ih=>
  have h1:=ih (by omega)
  have h2:=spK_len l[i]! l[i]!.t.ins.length
  have h3:=(hl.get (show i < l.length by omega)).ins
  rw [spI,List.length_append]
  omega
theorem cnt_le (ks : List Plc) (k : Plc) : kGet 0 (cntL ks) k <= ks.length:=cntL_le ks k
theorem cnt_y (a : List Plc) (h : paysV p.t.outs[n]! sc = true) : cntL (a ++ pyK p sc (n + 1)) = kCnt (cntL (a ++ pyK p sc n)) (p.id,nK n):=by
 rw [pyK_y h,<- List.append_assoc,cntL_app]
theorem cnt_s (a : List Plc) (p : PvS) (n : Nat) : cntL (a ++ spK p (n + 1)) = kCnt (cntL (a ++ spK p n)) (plc p.t.ins[n]!):=by
 rw [spK,<- List.append_assoc,cntL_app]
theorem orV_y (h : paysV t.outs[k]! sc = true) (hk : k < n) : orV t sc n = true:=by
 refine any_mono (k:=k + 1) ?_ (by omega)
 rw [any_succ,h,Bool.or_true]
theorem orV_n (h0 : orV t sc k = false) (h : paysV t.outs[k]! sc = false) : orV t sc (k + 1) = false:=by
 unfold orV at *
 rw [any_succ,h0,h]; rfl
theorem inV_y (h : 0 < kGet 0 (cntL ks) (plc t.ins[k]!)) (hk : k < n) : inV ks t n = true:=by
 refine any_mono (k:=k + 1) ?_ (by omega)
 rw [any_succ,decide_eq_true h,Bool.or_true]
theorem inV_n (h0 : inV ks t k = false) (h : ¬ 0 < kGet 0 (cntL ks) (plc t.ins[k]!)) : inV ks t (k + 1) = false:=by
 unfold inV at *
 rw [any_succ,h0,decide_eq_false h]; rfl
theorem tch_1 (h : paysV p.t.outs[k]! sc = true) (hk : k < p.t.outs.length) : tchV ks p sc = true:=by unfold tchV; rw [orV_y h hk]; rfl
theorem tch_2 (h : 0 < kGet 0 (cntL ks) (plc p.t.ins[k]!)) (hk : k < p.t.ins.length) : tchV ks p sc = true:=by unfold tchV; rw [inV_y h hk,Bool.or_true]
theorem tch_3 (h1 : orV p.t sc p.t.outs.length = false) (h2 : inV ks p.t p.t.ins.length = false) : tchV ks p sc = false:=by unfold tchV; rw [h1,h2]; rfl
theorem hvI_n (h : tchV (pyI l sc l.length) l[i]! sc = false) : hvI l sc (i + 1) = hvI l sc i:=by rw [hvI,if_neg (by rw [h]; exact Bool.false_ne_true)]
theorem hvI_app (h : tchV (pyI l sc l.length) l[i]! sc = true) : (hvI l sc i).map enD ++ [.agg [.int l[i]!.h,hashD l[i]!.id]] = (hvI l sc (i + 1)).map enD:=by
 rw [hvI,if_pos h,List.map_append]
 rfl
theorem hvI_len (l : List PvS) (sc : Hs) (i : Nat) : (hvI l sc i).length <= i:=by
 induction i with
 | zero=>exact Nat.le_refl _
 | succ i ih=>
  rw [hvI]
  split
  · rw [List.length_append,List.length_singleton]; omega
  · omega
theorem uvC_1 {gone : List Plc} (h : kGet 0 (cntL gone) (p.id,nK n) = 0) : uvC gone p sc n = paysV p.t.outs[n]! sc:=by unfold uvC; rw [decide_eq_true h]; rfl
theorem uvC_0 {gone : List Plc} (h : ¬ kGet 0 (cntL gone) (p.id,nK n) = 0) : uvC gone p sc n = false:=by unfold uvC; rw [decide_eq_false h]; rfl
theorem uvK_n {gone : List Plc} (h : uvC gone p sc n = false) : uvK gone p sc (n + 1) = uvK gone p sc n:=by rw [uvK,if_neg (by rw [h]; exact Bool.false_ne_true)]
theorem uvK_app {gone : List Plc} (a : List UnS) (h : uvC gone p sc n = true) : (a ++ uvK gone p sc n).map unD' ++ [.agg [placeK (p.id,nK n),.u64 p.t.outs[n]!.value,.int p.h]] = (a ++ uvK gone p sc (n + 1)).map unD':=by
 rw [uvK,if_pos h,<- List.append_assoc,List.map_append (l₁:=a ++ uvK gone p sc n)]
 rfl
theorem uvK_len (gone : List Plc) (p : PvS) (sc : Hs) (n : Nat) : (uvK gone p sc n).length <= n:=by
 induction n with
 | zero=>exact Nat.le_refl _
 | succ n ih=>
  rw [uvK]
  split
  · rw [List.length_append,List.length_singleton]; omega
  · omega
theorem uvI_len (gone : List Plc) (hl : allPv l) (sc : Hs) (i : Nat) (hi : i <= l.length) : (uvI gone l sc i).length <= 1000 * i:=by
 induction i with
 | zero=>exact Nat.le_refl _
 | succ i ih=>
  have h1:=ih (by omega)
  have h2:=uvK_len gone l[i]! sc l[i]!.t.outs.length
  have h3:=(hl.get (show i < l.length by omega)).outs
  rw [uvI,List.length_append]
  omega
end
theorem pyK_mem {p : PvS} {sc : Hs} {n : Nat} {q : Plc} : q ∈ pyK p sc n ↔ ∃ k < n,paysV p.t.outs[k]! sc = true /\ q = (p.id,nK k):=by
 induction n with
 | zero=>simp [pyK]
 | succ n ih=>
  rw [pyK]
  constructor
  · intro h
    split at h
    · rename_i hp
      rcases List.mem_append.1 h with h | h
      · obtain ⟨k,h1,h2⟩:=ih.1 h; exact ⟨k,by omega,h2⟩
      · exact ⟨n,by omega,hp,List.mem_singleton.1 h⟩
    · obtain ⟨k,h1,h2⟩:=ih.1 h; exact ⟨k,by omega,h2⟩
  · rintro ⟨k,h1,h2,h3⟩
    by_cases hk : k = n
    · subst hk
      rw [if_pos h2]
      exact List.mem_append.2 (.inr (by rw [h3]; simp))
    · have:=ih.2 ⟨k,by omega,h2,h3⟩
      split
      · exact List.mem_append.2 (.inl this)
      · exact this
theorem pyI_mem {l : List PvS} {sc : Hs} {i : Nat} {q : Plc} : q ∈ pyI l sc i ↔ ∃ j < i,∃ k < l[j]!.t.outs.length,paysV l[j]!.t.outs[k]! sc = true /\ q = (l[j]!.id,nK k):=by
 induction i with
 | zero=>simp [pyI]
 | succ i ih=>
  rw [pyI,List.mem_append,ih,pyK_mem]
  constructor
  · rintro (⟨j,h1,h2⟩ | h)
    · exact ⟨j,by omega,h2⟩
    · exact ⟨i,by omega,h⟩
  · rintro ⟨j,h1,h2⟩
    by_cases hj : j = i
    · subst hj; exact .inr h2
    · exact .inl ⟨j,by omega,h2⟩
theorem spK_mem {p : PvS} {n : Nat} {q : Plc} : q ∈ spK p n ↔ ∃ k < n,q = plc p.t.ins[k]!:=by
 induction n with
 | zero=>simp [spK]
 | succ n ih=>
  rw [spK,List.mem_append,ih,List.mem_singleton]
  constructor
  · rintro (⟨k,h1,h2⟩ | h)
    · exact ⟨k,by omega,h2⟩
    · exact ⟨n,by omega,h⟩
  · rintro ⟨k,h1,h2⟩
    by_cases hk : k = n
    · subst hk; exact .inr h2
    · exact .inl ⟨k,by omega,h2⟩
theorem spI_mem {l : List PvS} {i : Nat} {q : Plc} : q ∈ spI l i ↔ ∃ j < i,∃ k < l[j]!.t.ins.length,q = plc l[j]!.t.ins[k]!:=by
 induction i with
 | zero=>simp [spI]
 | succ i ih=>
  rw [spI,List.mem_append,ih,spK_mem]
  constructor
  · rintro (⟨j,h1,h2⟩ | h)
    · exact ⟨j,by omega,h2⟩
    · exact ⟨i,by omega,h⟩
  · rintro ⟨j,h1,h2⟩
    by_cases hj : j = i
    · subst hj; exact .inr h2
    · exact .inl ⟨j,by omega,h2⟩
theorem nK_toNat {k : Nat} (h : k <= 1000) : (nK k).toNat = k:=by
 unfold nK UInt32.ofInt
 rw [UInt32.toNat_ofNat']
 omega
theorem pR_iff {l : List PvS} (hl : allPv l) {sc : Hs} {q : Plc} : (0 < kGet 0 (cntL (pyI l sc l.length)) q) ↔ pR l q sc l.length = true:=by
 rw [cntL_pos,pyI_mem]
 unfold pR
 rw [List.any_eq_true]
 constructor
 · rintro ⟨j,hj,k,hk,h1,rfl⟩
   refine ⟨j,List.mem_range.2 hj, ?_⟩
   have:=(hl.get hj).outs
   rw [nK_toNat (by omega),decide_eq_true hk,<- paysV_eq,h1]
   simp
 · rintro ⟨j,hj,h⟩
   rw [Bool.and_eq_true,Bool.and_eq_true] at h
   obtain ⟨h1,h2,h3⟩:=h
   have hj:=List.mem_range.1 hj
   have h2:=of_decide_eq_true h2
   have:=(hl.get hj).outs
   refine ⟨j,hj,q.2.toNat,h2,by rw [paysV_eq]; exact h3,Prod.ext (beq_iff_eq.1 h1).symm ?_⟩
   apply UInt32.toNat_inj.1
   rw [nK_toNat (by omega)]
theorem sR_iff {l : List PvS} {q : Plc} : (0 < kGet 0 (cntL (spI l l.length)) q) ↔ sR l q l.length = true:=by
 rw [cntL_pos,spI_mem]
 unfold sR sK
 rw [List.any_eq_true]
 constructor
 · rintro ⟨j,hj,k,hk,rfl⟩
   exact ⟨j,List.mem_range.2 hj,List.any_eq_true.2 ⟨k,List.mem_range.2 hk,beq_self_eq_true _⟩⟩
 · rintro ⟨j,hj,h⟩
   obtain ⟨k,hk,h⟩:=List.any_eq_true.1 h
   exact ⟨j,List.mem_range.1 hj,k,List.mem_range.1 hk,(beq_iff_eq.1 h).symm⟩
theorem any_congr {f g : Nat -> Bool} (k : Nat) (h : ∀ j,f j = g j) : (List.range k).any f = (List.range k).any g:=by
 rw [show f = g from funext h]
theorem tch_eq {l : List PvS} (hl : allPv l) (p : PvS) (sc : Hs) : tchV (pyI l sc l.length) p sc = tchR l p sc:=by
 unfold tchV tchR orV orO inV inR
 rw [any_congr _ fun j=>paysV_eq p.t.outs[j]! sc,any_congr _ fun j=>show decide (0 < kGet 0 (cntL (pyI l sc l.length)) (plc p.t.ins[j]!)) = pR l (plc p.t.ins[j]!) sc l.length by
  rw [Bool.eq_iff_iff,decide_eq_true_iff]; exact pR_iff hl]
theorem hv_eq {l : List PvS} (hl : allPv l) (sc : Hs) (i : Nat) : hvI l sc i = hrI l sc i:=by
 induction i with
 | zero=>rfl
 | succ i ih=>rw [hvI,hrI,ih,tch_eq hl]
theorem hvS_eq {l : List PvS} (hl : allPv l) (sc : Hs) : hvS l sc = hrS l sc:=hv_eq hl sc _
theorem uvC_eq (l : List PvS) (p : PvS) (sc : Hs) (n : Nat) : uvC (spI l l.length) p sc n = urC l p sc n:=by
 unfold uvC urC
 rw [paysV_eq,Bool.and_comm]
 congr 1
 have:=sR_iff (l:=l) (q:=(p.id,nK n))
 cases h : sR l (p.id,nK n) l.length with
 | true=>rw [h] at this; exact decide_eq_false (by have:=this.2 rfl; omega)
 | false=>rw [h] at this; exact decide_eq_true (by
  rcases Nat.eq_zero_or_pos (kGet 0 (cntL (spI l l.length)) (p.id,nK n)) with h0 | h0
  · exact h0
  · cases this.1 h0)
theorem uvK_eq (l : List PvS) (p : PvS) (sc : Hs) (n : Nat) : uvK (spI l l.length) p sc n = urK l p sc n:=by
 induction n with
 | zero=>rfl
 | succ n ih=>rw [uvK,urK,ih,uvC_eq]
theorem uvI_eq (l : List PvS) (sc : Hs) (i : Nat) : uvI (spI l l.length) l sc i = urI l sc i:=by
 induction i with
 | zero=>rfl
 | succ i ih=>rw [uvI,urI,ih,uvK_eq]
theorem uvS_eq (l : List PvS) (sc : Hs) : uvS l sc = urS l sc:=uvI_eq l sc _
open Go.Proofs
instance : MkT Tryd.prog 94 60 3:=⟨Tryd.underlying94⟩
theorem okPm (ids : List Nat) (m : List (Plc × Nat)) : ∀ kv ∈ m.map (fun e=>(placeK e.1,natD e.2)),kv.1.okB ids = true /\ kv.2.okB ids = true:=okMpK (fun _=>rfl) (fun _=>rfl)
theorem renPm (m : Nat -> Nat) (M : List (Plc × Nat)) (i : Nat) (r : List (Nat × Bx)) : renBx m ((i,mpK placeK natD M) :: r) = (m i,mpK placeK natD M) :: renBx m r:=renMp (fun _=>ren_plc _ _) (fun _=>rfl) M i r
theorem eqv_ent (a b : EnS) : EqV Tryd.prog 3 58 (enD a) (enD b) (a == b):=by
 have h1 : ∀ x y : Int,EqV Tryd.prog 2 3 (.int x) (.int y) (x == y):=fun x y=>(EqV.int Tryd.underlying3 x y).up 1
 have hh : ∀ x y : Hs,EqV Tryd.prog 2 26 (hashD x) (hashD y) (x == y):=fun x y=>EqV.arr x y
 have:=EqV.struct (k:=2) Tryd.underlying58 (by kernel_rfl) (.cons rfl rfl inferInstance rfl rfl rfl rfl (h1 a.1 b.1) (.cons rfl rfl inferInstance rfl rfl rfl rfl (hh a.2 b.2) .nil))
 rw [Bool.and_true] at this
 exact this
end Go.Sx

namespace Go.Sx
open Go.Proofs
theorem sum15_ok (k : UInt8) : Fn Tryd.prog gl 11 [.u8 k] (hashD (sumK k)):=by
 refine Fn.of (n:=6) Tryd.func11 rfl rfl rfl (Nat.le_of_ble_eq_true rfl) fun C hC hD=>?_
 refine W.seq ?_
 refine W.line (n:=1) (by decide) (its:=[]) (ks:=[]) (kk:=[]) (live:=[0]) (env':=[(0,_)])
  (⟨Nat.le_of_ble_eq_true rfl,rfl,
   trivial,rfl,rfl,rfl⟩)
  rfl (bx':=[]) rfl (n':=6) rfl (⟨rfl,_,R.alloc rfl (Nat.le_of_ble_eq_true rfl),⟨[0,2],[(0,_),(2,_)],[(2,.var _)],6,rfl,rfl,rfl, ?_⟩⟩)
 refine W.seq ?_
 refine W.line (n:=4) (by decide) (its:=[⟨3,_,true⟩,⟨4,_,true⟩,⟨5,_,true⟩]) (ks:=[]) (kk:=[]) (live:=[2,5]) (env':=[(2,_),(5,_)])
  (⟨Nat.le_of_ble_eq_true rfl,rfl,
   ⟨⟨rfl,rfl,fun _ τ hb ht hτ=>R.mov (evt (hτ 0 _ rfl)) rfl ht⟩,
   ⟨⟨rfl,rfl,fun _ τ hb ht hτ=>R.callG hC (key15_ok k) (Bors.cons (Bor.pur (evt (hτ 3 _ rfl)) rfl rfl) Bors.nil) (FrsR.one (frs_bytOwn _)) ht⟩,
   ⟨⟨rfl,rfl,fun _ τ hb ht hτ=>R.callG hC (rsum_ok (keyS k) (by rw [keyS_len]; decide)) (Bors.cons (Bor.sc (SC.sl (hτ 4 _ rfl)) (brw_map (fun _=>rfl))) Bors.nil) (FrsR.one (frs_hash' _)) ht⟩,
   trivial⟩⟩⟩,rfl,rfl,rfl⟩)
  rfl (bx':=[(2,.var _)]) rfl (n':=6) rfl (⟨rfl,_,R.stZ (show Sg.get _ 2 = some _ from rfl) (show Sg.box _ 2 = some _ from rfl) rfl (evt (show Sg.get _ 5 = some _ from rfl)) (by rfl) (by rfl) (by rfl) (by rfl) rfl,⟨[2],[(2,_)],[(2,.var _)],6,rfl,rfl,rfl, ?_⟩⟩)
 refine W.ret ?_
 exact Ends.one' (.inr rfl) rfl (rfl) rfl rfl (show LdT _ 26 32 true from inferInstance)
theorem rpays15_ok (o : OutS) (sc : Hs) (ho : o.script.length <= 1000000) : Fn Tryd.prog gl 33 [outD o,hashD sc] (.bool (paysR o sc)):=by
 refine Fn.of (n:=10) Tryd.func33 rfl rfl rfl (Nat.le_of_ble_eq_true rfl) fun C hC hD=>?_
 refine W.seq ?_
 refine W.line (n:=3) (by decide) (its:=[]) (ks:=[]) (kk:=[]) (live:=[0,1]) (env':=[(0,_),(1,_)])
  (⟨Nat.le_of_ble_eq_true rfl,rfl,
   trivial,rfl,rfl,rfl⟩)
  rfl (bx':=[]) rfl (n':=10) rfl (⟨rfl,_,R.box (evt (show Sg.get _ 0 = some _ from rfl)) rfl rfl (Nat.le_of_ble_eq_true rfl),⟨rfl,_,R.box (evt (show Sg.get _ 1 = some _ from rfl)) rfl rfl (Nat.le_of_ble_eq_true rfl),⟨rfl,_,R.asg (show ev _ _ (.const (.bool false)) = some (.bool false) from rfl) rfl (Nat.le_of_ble_eq_true rfl),⟨[2,3],[(2,_),(3,_)],[(3,.var _),(2,.var _)],10,rfl,rfl,rfl, ?_⟩⟩⟩⟩)
 refine W.seq ?_
 refine W.draw (m:=6) (an:=[0,1,3,0,15,31]) hP (by decide) rfl (its:=[⟨5,_,true⟩,⟨6,_,true⟩,⟨7,_,true⟩,⟨8,_,true⟩,⟨9,_,true⟩,⟨4,_,true⟩]) (ks:=[]) (kk:=[]) (live:=[4]) (env':=[(4,_)])
  (⟨Nat.le_of_ble_eq_true rfl,rfl,
   ⟨⟨rfl,rfl,fun _ τ hb ht hτ=>R.fdP (hτ 2 _ rfl) ht⟩,
   ⟨⟨rfl,rfl,fun _ τ hb ht hτ=>R.ldP (hτ 5 _ rfl) (hb 2 _ rfl) rfl rfl rfl rfl ht⟩,
   ⟨⟨rfl,rfl,fun _ τ hb ht hτ=>R.callG hC (rsum_ok o.script (Nat.le_trans ho (by decide))) (Bors.cons (Bor.pur (evt (hτ 6 _ rfl)) rfl rfl) Bors.nil) (FrsR.one (frs_hash' _)) ht⟩,
   ⟨⟨rfl,rfl,fun _ τ hb ht hτ=>R.ldP (hτ 3 _ rfl) (hb 3 _ rfl) rfl rfl rfl rfl ht⟩,
   ⟨⟨rfl,rfl,fun _ τ hb ht hτ=>R.eqAE (evt (hτ 7 _ rfl)) (evt (hτ 8 _ rfl)) ht⟩,
   ⟨⟨rfl,rfl,fun _ τ hb ht hτ=>R.asg (evt (hτ 9 _ rfl)) rfl ht⟩,
   trivial⟩⟩⟩⟩⟩⟩,rfl,rfl,rfl⟩)
  rfl (bx':=[(3,.var _),(2,.var _)]) rfl (n':=10) rfl (⟨[4],[(4,_)],[(3,.var _),(2,.var _)],10,rfl,rfl,rfl, ?_⟩)
 refine W.ret ?_
 exact Ends.one' (.inr rfl) rfl (rfl) rfl rfl trivial
end Go.Sx

namespace Go.Sx
open Go.Proofs
theorem out15_ok (l : List StS) (hl : allSt l) (before : Nat) (p : Plc) (hb0 : before <= l.length) : Fn Tryd.prog gl 50 [.sl none 38 (l.map stsD),.int ((before : Nat) : Int),placeK p] (.tup [outD ((prvO l before p).getD (⟨0,[]⟩ : OutS)),.bool (prvO l before p).isSome]):=by
 refine Fn.of (n:=47) Tryd.func50 rfl rfl rfl (nU rfl) fun C hC hD=>?_
 have hl1:=hl.1
 refine W.seq ?_
 refine W.l0 3 [] [] [] [(0,_),(1,_),(2,_)] [] 47 Zt O O O O (⟨O,_,R.box (gV 2 O) O O (nU O),⟨O,_,R.alloc O (nU O),⟨O,_,R.asg (kB false O) O (nU O),tV [(0,_),(1,_),(5,_),(6,_)] [(6,.var _),(5,.var _)] 47 O O O ?_⟩⟩⟩)
 refine W.seq (W.seq ?_)
 refine W.l0 1 [.y 8 _] [] [] [(0,_),(1,_),(5,_),(6,_),(8,_)] [(6,.var _),(5,.var _)] 47 ⟨aU fun _ _ H _=>R.asg (kI 0 O) O H,Zt⟩ O O O O (tU O ?_)
 refine W.block ?_
 refine W.loop (α:={q__ : Nat // q__ <= before /\ prvO l q__ p = none}) (fun q__=>⟨47,[(0,.sl none 38 (l.map stsD)),(1,.int ((before : Nat) : Int)),(5,.ptr 5 0 []),(6,.ptr 6 0 []),(8,.int ((q__.1 : Nat) : Int))],[(6,.var (.agg [.u64 0,.nils])),(5,.var (placeK p))]⟩) (fun q__=>before - q__.1) ⟨(0),⟨Nat.zero_le _,O⟩⟩ O ?_
 rintro ⟨i,⟨hi,hno⟩⟩
 show W _ _ _ _ ⟨47,[(0,.sl none 38 (l.map stsD)),(1,.int ((before : Nat) : Int)),(5,.ptr 5 0 []),(6,.ptr 6 0 []),(8,.int ((i : Nat) : Int))],[(6,.var (.agg [.u64 0,.nils])),(5,.var (placeK p))]⟩
 have hi : i <= before:=hi
 have hno : prvO l i p = none:=hno
 have hsi:=fun (h : i < before)=>hl.get (show i < l.length by omega)
 refine W.seq (W.seq ?_)
 refine W.l0 3 [.y 9 _,.y 10 _,.y 11 _] [] [] [(0,_),(1,_),(5,_),(6,_),(8,_),(11,_)] [(6,.var _),(5,.var _)] 47 ⟨mU 8 O O,mU 1 O O,aU fun _ _ H K=>R.lssN (i) (before) (eU K 9 O) (eU K 10 O) H,Zt⟩ O O O O (tU O ?_)
 refine W.condD O (fun hc11=>?_) (fun hc11=>?_)
 · refine W.skip (W.seq (W.block (W.seq ?_)))
   by_cases h1 : (l[i]!.id == p.1) = true
   · have hsi:=hsi hc11
     refine W.draw (m:=22) (an:=[0,0,3,7,15,0,32,127,255,511,1023,2047,511,511,12799,29183,61951,127487,258559,520703,1048575,2097151]) hP dU O (its:=[.y 14 _,.y 15 _,.y 16 _,.y 17 _,.y 18 _,.y 19 _,.y 20 _,.y 21 _,.y 22 _,.y 23 _,.y 24 _,.y 25 _,.y 26 _,.y 27 _,.y 28 _,.y 29 _,.y 30 _,.y 31 _,.y 32 _,.y 33 _,.y 34 _,.y 35 _]) (ks:=[]) (kk:=[]) (live:=[0,1,5,6,8,35]) (env':=[(0,_),(1,_),(5,_),(6,_),(8,_),(35,_)]) (⟨nU O,O,⟨mU 0 O O,mU 8 O O,aU fun _ _ H K=>R.idxN (i) (SC.sl (K 14 _ O)) (evoI (eU K 15 O)) O bU H dU,aU fun _ _ H K=>R.fdE (K 16 _ O) H dU,aU fun _ _ H K=>R.ldE (K 17 _ O) (SC.sl (K 14 _ O)) (map_get! (l:=l) bU) O O O O H,aU (fU 5 O O),aU (lU 19 O O O O O O O),aU fun _ _ H K=>R.eqAE (eU K 18 O) (eU K 20 O) H,mU 21 O O,aW O O (gT (h1) O) (fU 5 O O),aW O O (gT (h1) O) (lU 23 O O O O O O O),aW O O (gT (h1) O) fun _ _ H K=>R.conv (eU K 24 O) O H,aW O O (gT (h1) O) fun _ _ H K=>R.mov (eU K 0 O) O H,aW O O (gT (h1) O) fun _ _ H K=>R.mov (eU K 8 O) O H,aW O O (gT (h1) O) fun _ _ H K=>R.idxN (i) (SC.sl (K 26 _ O)) (evoI (eU K 27 O)) O bU H dU,aW O O (gT (h1) O) fun _ _ H K=>R.fdE (K 28 _ O) H dU,aW O O (gT (h1) O) fun _ _ H K=>R.fdE (K 29 _ O) H dU,aW O O (gT (h1) O) fun _ _ H K=>R.ldE (K 30 _ O) (SC.sl (K 26 _ O)) (map_get! (l:=l) bU) O O O O H,aW O O (gT (h1) O) fun _ _ H K=>R.lenE (SC.sl (K 31 _ O)) (lN _) H,aW O O (gT (h1) O) fun _ _ H K=>R.conv (eU K 32 O) O H,aW O O (gT (h1) O) fun _ _ H K=>R.bin (eU K 25 O) (eU K 33 O) O Zt H,aU fun _ _ H K=>R.pickT (eU K 22 O) (h1) (eU K 34 O) O H,Zt⟩,O,O,O⟩) O (bx':=[(6,.var _),(5,.var _)]) O (n':=47) O (tV [(0,_),(1,_),(5,_),(6,_),(8,_),(35,_)] [(6,.var _),(5,.var _)] 47 O O O ?_)
     refine W.cond O (fun hc35=>?_) (fun hc35=>?_)
     · refine W.seq ?_
       have hlt:=(hasO_y h1 hsi.2.2.2 hc35).2
       refine W.draw (m:=10) (an:=[0,0,3,7,15,31,0,64,255,511,1023,2047]) hP dU O (its:=[.y 36 _,.y 37 _,.y 38 _,.y 39 _,.y 40 _,.y 41 _,.y 42 _,.y 43 _,.y 44 _,.y 45 _]) (ks:=[]) (kk:=[]) (live:=[6,45]) (env':=[(6,_),(45,_)]) (⟨nU O,O,⟨mU 0 O O,mU 8 O O,aU fun _ _ H K=>R.idxN (i) (SC.sl (K 36 _ O)) (evoI (eU K 37 O)) O bU H dU,aU fun _ _ H K=>R.fdE (K 38 _ O) H dU,aU fun _ _ H K=>R.fdE (K 39 _ O) H dU,aU fun _ _ H K=>R.ldE (K 40 _ O) (SC.sl (K 36 _ O)) (map_get! (l:=l) bU) O O O O H,aU (fU 5 O O),aU (lU 42 O O O O O O O),aU fun _ _ H K=>R.idxN (p.2.toNat) (SC.sl (K 41 _ O)) (evo32 (eU K 43 O)) O bU H dU,aU fun _ _ H K=>R.ldE (K 44 _ O) (SC.sl (K 41 _ O)) (map_get! (l:=l[i]!.t.outs) bU) O O O O H,Zt⟩,O,O,O⟩) O (bx':=[(6,.var _),(5,.var _)]) O (n':=47) O (⟨O,_,R.stZ (gU 6 O) (xU 6 O) O (gV 45 O) (by rfl) (by rfl) (by rfl) (by rfl) O,⟨O,_,R.asg (kB true O) O (nU O),tV [(6,_),(7,_)] [(6,.var _),(5,.var _)] 47 O O O ?_⟩⟩)
       refine W.ret ?_
       exact Ends.many (.inr O) (.cons O O O (show LdT _ 64 2 true from inferInstance) (.cons O O O Zt .nil)) (by rw [prvO_at hno (hasO_y h1 hsi.2.2.2 hc35).1 hc11] <;> rfl) (show [(6,false),(7,true)].Nodup by decide)
     · refine W.skip ?_
       refine W.l0 3 [.y 12 _,.y 13 _,.y 8 _] [] [] [(0,_),(1,_),(5,_),(6,_),(8,_)] [(6,.var _),(5,.var _)] 47 ⟨mU 8 O O,aU fun _ _ H K=>R.addN (i) (1) (eU K 12 O) (kI 1 O) bU H,aU fun _ _ H K=>R.asg (eU K 13 O) O H,Zt⟩ O O O O (tU O ?_)
       exact ⟨⟨(i + 1),⟨(by show i + 1 <= before; omega),(by first | exact prvO_no hno (hasO_1 (bfalse h1)) | exact prvO_no hno (hasO_n h1 hsi.2.2.2 hc35))⟩⟩,rfl,(by simp only []; omega)⟩
   · have hsi:=hsi hc11
     refine W.draw (m:=22) (an:=[0,0,3,7,15,0,32,127,255,511,1023,2047,511,511,12799,29183,61951,127487,258559,520703,1048575,2097151]) hP dU O (its:=[.y 14 _,.y 15 _,.y 16 _,.y 17 _,.y 18 _,.y 19 _,.y 20 _,.y 21 _,.y 22 _,.x 23,.x 24,.x 25,.x 26,.x 27,.x 28,.x 29,.x 30,.x 31,.x 32,.x 33,.x 34,.y 35 _]) (ks:=[]) (kk:=[]) (live:=[0,1,5,6,8,35]) (env':=[(0,_),(1,_),(5,_),(6,_),(8,_),(35,_)]) (⟨nU O,O,⟨mU 0 O O,mU 8 O O,aU fun _ _ H K=>R.idxN (i) (SC.sl (K 14 _ O)) (evoI (eU K 15 O)) O bU H dU,aU fun _ _ H K=>R.fdE (K 16 _ O) H dU,aU fun _ _ H K=>R.ldE (K 17 _ O) (SC.sl (K 14 _ O)) (map_get! (l:=l) bU) O O O O H,aU (fU 5 O O),aU (lU 19 O O O O O O O),aU fun _ _ H K=>R.eqAE (eU K 18 O) (eU K 20 O) H,mU 21 O O,aF O O (gF (bfalse h1) O),aF O O (gF (bfalse h1) O),aF O O (gF (bfalse h1) O),aF O O (gF (bfalse h1) O),aF O O (gF (bfalse h1) O),aF O O (gF (bfalse h1) O),aF O O (gF (bfalse h1) O),aF O O (gF (bfalse h1) O),aF O O (gF (bfalse h1) O),aF O O (gF (bfalse h1) O),aF O O (gF (bfalse h1) O),aF O O (gF (bfalse h1) O),aU fun _ _ H K=>R.pickF (eU K 22 O) (bfalse h1) (kB false O) O H,Zt⟩,O,O,O⟩) O (bx':=[(6,.var _),(5,.var _)]) O (n':=47) O (tV [(0,_),(1,_),(5,_),(6,_),(8,_),(35,_)] [(6,.var _),(5,.var _)] 47 O O O ?_)
     refine W.condF O (O) ?_
     refine W.skip ?_
     refine W.l0 3 [.y 12 _,.y 13 _,.y 8 _] [] [] [(0,_),(1,_),(5,_),(6,_),(8,_)] [(6,.var _),(5,.var _)] 47 ⟨mU 8 O O,aU fun _ _ H K=>R.addN (i) (1) (eU K 12 O) (kI 1 O) bU H,aU fun _ _ H K=>R.asg (eU K 13 O) O H,Zt⟩ O O O O (tU O ?_)
     exact ⟨⟨(i + 1),⟨(by show i + 1 <= before; omega),(by first | exact prvO_no hno (hasO_1 (bfalse h1)) | exact prvO_no hno (hasO_n h1 hsi.2.2.2 hc35))⟩⟩,rfl,(by simp only []; omega)⟩
 · obtain rfl : i = before:=by omega
   refine W.exit (W.seq ?_)
   refine W.l0 3 [.y 46 _] [] [] [(6,_),(46,_)] [(6,.var _),(5,.var _)] 47 ⟨aU fun _ _ H _=>R.bldSE (l:=[.u64 0,.nils]) (l':=[_,_]) (.nil O) Zt H,Zt⟩ O O O O (⟨O,_,R.stZ (gU 6 O) (xU 6 O) O (gV 46 O) (by rfl) (by rfl) (by rfl) (by rfl) O,⟨O,_,R.asg (kB false O) O (nU O),tV [(6,_),(7,_)] [(6,.var _),(5,.var _)] 47 O O O ?_⟩⟩)
   refine W.wkB 6 (d':=outD ⟨0,[]⟩) (bx':=[(6,.var _),(5,.var _)]) O wk_out0 O ?_
   refine W.ret ?_
   exact Ends.many (.inr O) (.cons O O O (show LdT _ 64 2 true from inferInstance) (.cons O O O Zt .nil)) (by rw [hno] <;> rfl) (show [(6,false),(7,true)].Nodup by decide)
end Go.Sx

namespace Go.Sx
open Go.Proofs
theorem hist15_ok (l : List BlkS) (hl : allBl l) (sc : Hs) : Fn Tryd.prog gl 28 [.sl none 69 (l.map blkD),hashD sc] (.sl (some 58) 33 ((histS l sc).map enD)):=by
 refine Fn.of (n:=98) Tryd.func28 rfl rfl rfl (nU rfl) fun C hC hD=>?_
 have hsa:=allS_wf hl
 have hal:=hsa.1
 refine W.seq ?_
 refine W.l0 2 [] [] [] [(0,_),(1,_)] [] 98 Zt O O O O (⟨O,_,R.box (gV 1 O) O O (nU O),⟨O,_,R.asg (kN O) O (nU O),tV [(0,_),(3,_)] [(3,.var _)] 98 O O O ?_⟩⟩)
 refine W.seq ?_
 refine W.l0 3 [.y 13 _,.y 14 _,.y 5 _] [(2,14)] [(2,14)] [(3,_),(5,_)] [(3,.var _)] 98 ⟨mU 0 O O,aU fun _ _ H K=>R.callPE hC (all15_ok l hl) (EvP.cons (eU K 13 O) O O EvP.nil) H,aU fun _ _ H K=>R.asgO (K 14 _ O) O H dU,Zt⟩ O O O O (tU O ?_)
 refine W.seq ?_
 refine W.frzS (s:=5) (d':=.sl none 38 ((allS l).map stsD)) O O (brw_sts _ _ _) ?_
 refine W.l0 1 [.y 6 _] [] [] [(3,_),(5,_),(6,_)] [(3,.var _)] 98 ⟨aU fun _ _ H _=>R.asg (kN O) O H,Zt⟩ O O O O (tU O ?_)
 refine W.seq (W.seq ?_)
 refine W.l0 1 [.y 7 _] [] [] [(3,_),(5,_),(6,_),(7,_)] [(3,.var _)] 98 ⟨aU fun _ _ H _=>R.asg (kI 0 O) O H,Zt⟩ O O O O (tU O ?_)
 refine W.block ?_
 refine W.asOwn (s:=6) 58 33 O ?_
 refine W.loop (α:={q__ : Nat // q__ <= (allS l).length}) (fun q__=>⟨98,[(3,.ptr 3 0 []),(5,.sl none 38 ((allS l).map stsD)),(6,.sl (some 58) 33 ((hstI (allS l) sc q__.1).map enD)),(7,.int ((q__.1 : Nat) : Int))],[(3,.var (hashD sc))]⟩) (fun q__=>(allS l).length - q__.1) ⟨(0),bU⟩ O ?_
 rintro ⟨i,hi⟩
 show W _ _ _ _ ⟨98,[(3,.ptr 3 0 []),(5,.sl none 38 ((allS l).map stsD)),(6,.sl (some 58) 33 ((hstI (allS l) sc i).map enD)),(7,.int ((i : Nat) : Int))],[(3,.var (hashD sc))]⟩
 have hi : i <= (allS l).length:=hi
 have hhl:=hstI_len (allS l) sc i
 have hsi:=fun (h : i < (allS l).length)=>hsa.get h
 refine W.seq (W.seq ?_)
 refine W.l0 4 [.y 15 _,.y 16 _,.y 17 _,.y 18 _] [] [] [(3,_),(5,_),(6,_),(7,_),(18,_)] [(3,.var _)] 98 ⟨mU 7 O O,mU 5 O O,aU fun _ _ H K=>R.lenE (SC.sl (K 16 _ O)) (lN _) H,aU fun _ _ H K=>R.lssN (i) ((allS l).length) (eU K 15 O) (eU K 17 O) H,Zt⟩ O O O O (tU O ?_)
 refine W.condD O (fun hc18=>?_) (fun hc18=>?_)
 · refine W.skip (W.seq (W.block (W.seq ?_)))
   have hsi:=hsi hc18
   have hin:=hsi.2.2.1
   have hout:=hsi.2.2.2
   refine W.l0 1 [.y 8 _] [] [] [(3,_),(5,_),(6,_),(7,_),(8,_)] [(3,.var _)] 98 ⟨aU fun _ _ H _=>R.asg (kB false O) O H,Zt⟩ O O O O (tU O ?_)
   refine W.seq (W.seq ?_)
   refine W.l0 1 [.y 9 _] [] [] [(3,_),(5,_),(6,_),(7,_),(8,_),(9,_)] [(3,.var _)] 98 ⟨aU fun _ _ H _=>R.asg (kI 0 O) O H,Zt⟩ O O O O (tU O ?_)
   refine W.block ?_
   refine W.loop (α:={q__ : Nat // q__ <= (allS l)[i]!.t.outs.length}) (fun q__=>⟨98,[(3,.ptr 3 0 []),(5,.sl none 38 ((allS l).map stsD)),(6,.sl (some 58) 33 ((hstI (allS l) sc i).map enD)),(7,.int ((i : Nat) : Int)),(8,.bool (orO (allS l)[i]!.t sc q__.1)),(9,.int ((q__.1 : Nat) : Int))],[(3,.var (hashD sc))]⟩) (fun q__=>(allS l)[i]!.t.outs.length - q__.1) ⟨(0),bU⟩ O ?_
   rintro ⟨k,hk⟩
   show W _ _ _ _ ⟨98,[(3,.ptr 3 0 []),(5,.sl none 38 ((allS l).map stsD)),(6,.sl (some 58) 33 ((hstI (allS l) sc i).map enD)),(7,.int ((i : Nat) : Int)),(8,.bool (orO (allS l)[i]!.t sc k)),(9,.int ((k : Nat) : Int))],[(3,.var (hashD sc))]⟩
   have hk : k <= (allS l)[i]!.t.outs.length:=hk
   refine W.seq (W.seq ?_)
   refine W.l0 9 [.y 21 _,.y 22 _,.y 23 _,.y 24 _,.y 25 _,.y 26 _,.y 27 _,.y 28 _,.y 29 _] [] [] [(3,_),(5,_),(6,_),(7,_),(8,_),(9,_),(29,_)] [(3,.var _)] 98 ⟨mU 9 O O,mU 5 O O,mU 7 O O,aU fun _ _ H K=>R.idxN (i) (SC.sl (K 22 _ O)) (evoI (eU K 23 O)) O bU H dU,aU fun _ _ H K=>R.fdE (K 24 _ O) H dU,aU fun _ _ H K=>R.fdE (K 25 _ O) H dU,aU fun _ _ H K=>R.ldE (K 26 _ O) (SC.sl (K 22 _ O)) (map_get! (l:=(allS l)) bU) O O O O H,aU fun _ _ H K=>R.lenE (SC.sl (K 27 _ O)) (lN _) H,aU fun _ _ H K=>R.lssN (k) (((allS l))[i]!.t.outs.length) (eU K 21 O) (eU K 28 O) H,Zt⟩ O O O O (tU O ?_)
   refine W.condD O (fun hc29=>?_) (fun hc29=>?_)
   · refine W.skip (W.seq (W.block ?_))
     by_cases hbo : orO (allS l)[i]!.t sc k = true
     · refine W.draw (m:=15) (an:=[0,1,3,3,15,31,63,127,3,511,1023,3,4095,8191,16383]) hP dU O (its:=[.y 32 _,.y 33 _,.x 34,.x 35,.x 36,.x 37,.x 38,.x 39,.x 40,.x 41,.x 42,.x 43,.x 44,.y 45 _,.y 8 _]) (ks:=[]) (kk:=[]) (live:=[3,5,6,7,8,9]) (env':=[(3,_),(5,_),(6,_),(7,_),(8,_),(9,_)]) (⟨nU O,O,⟨mU 8 O O,mU 32 O O,aF O O (gT (hbo) O),aF O O (gT (hbo) O),aF O O (gT (hbo) O),aF O O (gT (hbo) O),aF O O (gT (hbo) O),aF O O (gT (hbo) O),aF O O (gT (hbo) O),aF O O (gT (hbo) O),aF O O (gT (hbo) O),aF O O (gT (hbo) O),aF O O (gT (hbo) O),aU fun _ _ H K=>R.pickT (eU K 33 O) (hbo) (kB true O) O H,aU fun _ _ H K=>R.asg (eU K 45 O) O H,Zt⟩,O,O,O⟩) O (bx':=[(3,.var _)]) O (n':=98) O (tV [(3,_),(5,_),(6,_),(7,_),(8,_),(9,_)] [(3,.var _)] 98 O O O ?_)
       refine W.l0 3 [.y 30 _,.y 31 _,.y 9 _] [] [] [(3,_),(5,_),(6,_),(7,_),(8,_),(9,_)] [(3,.var _)] 98 ⟨mU 9 O O,aU fun _ _ H K=>R.addN (k) (1) (eU K 30 O) (kI 1 O) bU H,aU fun _ _ H K=>R.asg (eU K 31 O) O H,Zt⟩ O O O O (tU O ?_)
       exact ⟨⟨(k + 1),bU⟩,(by first | (dsimp only; rw [orO_t hbo]) | (dsimp only; rw [orO_f (bfalse hbo)])),(by simp only []; omega)⟩
     · refine W.draw (m:=15) (an:=[0,1,3,3,15,31,63,127,3,511,1023,3,4095,8191,16383]) hP dU O (its:=[.y 32 _,.y 33 _,.y 34 _,.y 35 _,.y 36 _,.y 37 _,.y 38 _,.y 39 _,.y 40 _,.y 41 _,.y 42 _,.y 43 _,.y 44 _,.y 45 _,.y 8 _]) (ks:=[]) (kk:=[]) (live:=[3,5,6,7,8,9]) (env':=[(3,_),(5,_),(6,_),(7,_),(8,_),(9,_)]) (⟨nU O,O,⟨mU 8 O O,mU 32 O O,aW O O (gF (bfalse hbo) O) fun _ _ H K=>R.mov (eU K 5 O) O H,aW O O (gF (bfalse hbo) O) fun _ _ H K=>R.mov (eU K 7 O) O H,aW O O (gF (bfalse hbo) O) fun _ _ H K=>R.idxN (i) (SC.sl (K 34 _ O)) (evoI (eU K 35 O)) O bU H dU,aW O O (gF (bfalse hbo) O) fun _ _ H K=>R.fdE (K 36 _ O) H dU,aW O O (gF (bfalse hbo) O) fun _ _ H K=>R.fdE (K 37 _ O) H dU,aW O O (gF (bfalse hbo) O) fun _ _ H K=>R.ldE (K 38 _ O) (SC.sl (K 34 _ O)) (map_get! (l:=(allS l)) bU) O O O O H,aW O O (gF (bfalse hbo) O) fun _ _ H K=>R.mov (eU K 9 O) O H,aW O O (gF (bfalse hbo) O) fun _ _ H K=>R.idxN (k) (SC.sl (K 39 _ O)) (evoI (eU K 40 O)) O bU H dU,aW O O (gF (bfalse hbo) O) fun _ _ H K=>R.ldE (K 41 _ O) (SC.sl (K 39 _ O)) (map_get! (l:=((allS l))[i]!.t.outs) bU) O O O O H,aW O O (gF (bfalse hbo) O) (lU 3 O O O O O O O),aW O O (gF (bfalse hbo) O) fun _ _ H K=>R.callG hC (rpays15_ok (allS l)[i]!.t.outs[k]! sc (hsi.2.1.outScript (by omega))) (Bc (Bp (eU K 42 O) O O) (Bc (Bp (eU K 43 O) O O) Bn)) (FrsR.one (.bool _)) H,aU fun _ _ H K=>R.pickF (eU K 33 O) (bfalse hbo) (eU K 44 O) O H,aU fun _ _ H K=>R.asg (eU K 45 O) O H,Zt⟩,O,O,O⟩) O (bx':=[(3,.var _)]) O (n':=98) O (tV [(3,_),(5,_),(6,_),(7,_),(8,_),(9,_)] [(3,.var _)] 98 O O O ?_)
       refine W.l0 3 [.y 30 _,.y 31 _,.y 9 _] [] [] [(3,_),(5,_),(6,_),(7,_),(8,_),(9,_)] [(3,.var _)] 98 ⟨mU 9 O O,aU fun _ _ H K=>R.addN (k) (1) (eU K 30 O) (kI 1 O) bU H,aU fun _ _ H K=>R.asg (eU K 31 O) O H,Zt⟩ O O O O (tU O ?_)
       exact ⟨⟨(k + 1),bU⟩,(by first | (dsimp only; rw [orO_t hbo]) | (dsimp only; rw [orO_f (bfalse hbo)])),(by simp only []; omega)⟩
   · obtain rfl : k = (allS l)[i]!.t.outs.length:=by omega
     refine W.exit (W.seq (W.seq ?_))
     refine W.l0 1 [.y 10 _] [] [] [(3,_),(5,_),(6,_),(7,_),(8,_),(10,_)] [(3,.var _)] 98 ⟨aU fun _ _ H _=>R.asg (kI 0 O) O H,Zt⟩ O O O O (tU O ?_)
     refine W.block ?_
     refine W.loop (α:={q__ : Nat // q__ <= (allS l)[i]!.t.ins.length}) (fun q__=>⟨98,[(3,.ptr 3 0 []),(5,.sl none 38 ((allS l).map stsD)),(6,.sl (some 58) 33 ((hstI (allS l) sc i).map enD)),(7,.int ((i : Nat) : Int)),(8,.bool (orO (allS l)[i]!.t sc (allS l)[i]!.t.outs.length || orI (allS l) i sc q__.1)),(10,.int ((q__.1 : Nat) : Int))],[(3,.var (hashD sc))]⟩) (fun q__=>(allS l)[i]!.t.ins.length - q__.1) ⟨(0),bU⟩ (by rw [orI_0,Bool.or_false] <;> rfl) ?_
     rintro ⟨k,hk⟩
     show W _ _ _ _ ⟨98,[(3,.ptr 3 0 []),(5,.sl none 38 ((allS l).map stsD)),(6,.sl (some 58) 33 ((hstI (allS l) sc i).map enD)),(7,.int ((i : Nat) : Int)),(8,.bool (orO (allS l)[i]!.t sc (allS l)[i]!.t.outs.length || orI (allS l) i sc k)),(10,.int ((k : Nat) : Int))],[(3,.var (hashD sc))]⟩
     have hk : k <= (allS l)[i]!.t.ins.length:=hk
     refine W.seq (W.seq ?_)
     refine W.l0 9 [.y 46 _,.y 47 _,.y 48 _,.y 49 _,.y 50 _,.y 51 _,.y 52 _,.y 53 _,.y 54 _] [] [] [(3,_),(5,_),(6,_),(7,_),(8,_),(10,_),(54,_)] [(3,.var _)] 98 ⟨mU 10 O O,mU 5 O O,mU 7 O O,aU fun _ _ H K=>R.idxN (i) (SC.sl (K 47 _ O)) (evoI (eU K 48 O)) O bU H dU,aU fun _ _ H K=>R.fdE (K 49 _ O) H dU,aU fun _ _ H K=>R.fdE (K 50 _ O) H dU,aU fun _ _ H K=>R.ldE (K 51 _ O) (SC.sl (K 47 _ O)) (map_get! (l:=(allS l)) bU) O O O O H,aU fun _ _ H K=>R.lenE (SC.sl (K 52 _ O)) (lN _) H,aU fun _ _ H K=>R.lssN (k) (((allS l))[i]!.t.ins.length) (eU K 46 O) (eU K 53 O) H,Zt⟩ O O O O (tU O ?_)
     refine W.condD O (fun hc54=>?_) (fun hc54=>?_)
     · refine W.skip (W.seq (W.block (W.seq ?_)))
       refine W.l0 19 [.y 58 _,.y 59 _,.y 60 _,.y 61 _,.y 62 _,.y 63 _,.y 64 _,.y 65 _,.y 66 _,.y 67 _,.y 68 _,.y 69 _,.y 70 _,.y 57 _,.y 71 _,.y 72 _] [] [] [(3,_),(5,_),(6,_),(7,_),(8,_),(10,_),(71,_),(72,_)] [(3,.var _)] 98 ⟨mU 5 O O,mU 7 O O,mU 5 O O,mU 7 O O,aU fun _ _ H K=>R.idxN (i) (SC.sl (K 60 _ O)) (evoI (eU K 61 O)) O bU H dU,aU fun _ _ H K=>R.fdE (K 62 _ O) H dU,aU fun _ _ H K=>R.fdE (K 63 _ O) H dU,aU fun _ _ H K=>R.ldE (K 64 _ O) (SC.sl (K 60 _ O)) (map_get! (l:=(allS l)) bU) O O O O H,mU 10 O O,aU fun _ _ H K=>R.idxN (k) (SC.sl (K 65 _ O)) (evoI (eU K 66 O)) O bU H dU,aU fun _ _ H K=>R.fdE (K 67 _ O) H dU,aU fun _ _ H K=>R.ldE (K 68 _ O) (SC.sl (K 65 _ O)) (map_get! (l:=((allS l))[i]!.t.ins) bU) O O O O H,aU fun _ _ H K=>R.callPE hC (out15_ok (allS l) hsa i (plc (allS l)[i]!.t.ins[k]!) (by omega)) (EvP.cons (eU K 58 O) O O (EvP.cons (eU K 59 O) O O (EvP.cons (eU K 69 O) O O EvP.nil))) H,aU fun _ _ H K=>R.movT (K 70 _ O) O H,aU fun _ _ H K=>R.ext (K 57 _ O) O O H,aU fun _ _ H K=>R.ext (K 57 _ O) O O H,Zt⟩ O O O O (⟨O,_,R.alloc O (nU O),⟨O,_,R.stZ (gU 11 O) (xU 11 O) O (gV 71 O) (by rfl) (by rfl) (by rfl) (by rfl) O,⟨O,_,R.asg (gV 72 O) O (nU O),tV [(3,_),(5,_),(6,_),(7,_),(8,_),(10,_),(11,_),(12,_)] [(11,.var _),(3,.var _)] 98 O O O ?_⟩⟩⟩)
       by_cases hb3 : (orO (allS l)[i]!.t sc (allS l)[i]!.t.outs.length || orI (allS l) i sc k) = true
       · refine W.l0 10 [.y 73 _,.y 74 _,.x 75,.x 76,.x 77,.x 78,.x 79,.x 80,.y 81 _,.y 8 _] [] [] [(3,_),(5,_),(6,_),(7,_),(8,_),(10,_)] [(11,.var _),(3,.var _)] 98 ⟨mU 8 O O,mU 73 O O,aF O O (gT (hb3) O),aF O O (gT (hb3) O),⟨O,⟨_,76,O,O,.inr ⟨O,O⟩⟩,fun h=>absurd h dU⟩,⟨O,⟨_,76,O,O,.inr ⟨O,O⟩⟩,fun h=>absurd h dU⟩,⟨O,⟨_,76,O,O,.inr ⟨O,O⟩⟩,fun h=>absurd h dU⟩,aF O O (gT (hb3) O),aU fun _ _ H K=>R.pickT (eU K 74 O) (hb3) (kB true O) O H,aU fun _ _ H K=>R.asg (eU K 81 O) O H,Zt⟩ O O O O (tU O ?_)
         refine W.dropB [3] (bx':=[(3,.var _)]) O O O (pin_sub hD O) ?_
         refine W.l0 3 [.y 55 _,.y 56 _,.y 10 _] [] [] [(3,_),(5,_),(6,_),(7,_),(8,_),(10,_)] [(3,.var _)] 98 ⟨mU 10 O O,aU fun _ _ H K=>R.addN (k) (1) (eU K 55 O) (kI 1 O) bU H,aU fun _ _ H K=>R.asg (eU K 56 O) O H,Zt⟩ O O O O (tU O ?_)
         exact ⟨⟨(k + 1),bU⟩,(by first | (dsimp only; rw [or3_t hb3]) | (dsimp only; rw [or3_y (bfalse hb3) hb4]) | (dsimp only; rw [or3_n (bfalse hb3) (bfalse hb4)])),(by simp only []; omega)⟩
       · by_cases hb4 : (prvO (allS l) i (plc (allS l)[i]!.t.ins[k]!)).isSome = true
         · refine W.l0 10 [.y 73 _,.y 74 _,.y 75 _,.y 76 _,.y 77 _,.y 78 _,.y 79 _,.y 80 _,.y 81 _,.y 8 _] [] [] [(3,_),(5,_),(6,_),(7,_),(8,_),(10,_)] [(11,.var _),(3,.var _)] 98 ⟨mU 8 O O,mU 73 O O,aW O O (gF (bfalse hb3) O) fun _ _ H K=>R.mov (eU K 12 O) O H,aW O O (gF (bfalse hb3) O) fun _ _ H K=>R.mov (eU K 75 O) O H,aW O O (gT (hb4) O) (lU 11 O O O O O O O),aW O O (gT (hb4) O) (lU 3 O O O O O O O),aW O O (gT (hb4) O) fun _ _ H K=>R.callG hC (rpays15_ok ((prvO (allS l) i (plc (allS l)[i]!.t.ins[k]!)).getD (⟨0,[]⟩ : OutS)) sc (prvO_outD hsa (by omega))) (Bc (Bp (eU K 77 O) O O) (Bc (Bp (eU K 78 O) O O) Bn)) (FrsR.one (.bool _)) H,aW O O (gF (bfalse hb3) O) fun _ _ H K=>R.pickT (eU K 76 O) (hb4) (eU K 79 O) O H,aU fun _ _ H K=>R.pickF (eU K 74 O) (bfalse hb3) (eU K 80 O) O H,aU fun _ _ H K=>R.asg (eU K 81 O) O H,Zt⟩ O O O O (tU O ?_)
           refine W.dropB [3] (bx':=[(3,.var _)]) O O O (pin_sub hD O) ?_
           refine W.l0 3 [.y 55 _,.y 56 _,.y 10 _] [] [] [(3,_),(5,_),(6,_),(7,_),(8,_),(10,_)] [(3,.var _)] 98 ⟨mU 10 O O,aU fun _ _ H K=>R.addN (k) (1) (eU K 55 O) (kI 1 O) bU H,aU fun _ _ H K=>R.asg (eU K 56 O) O H,Zt⟩ O O O O (tU O ?_)
           exact ⟨⟨(k + 1),bU⟩,(by first | (dsimp only; rw [or3_t hb3]) | (dsimp only; rw [or3_y (bfalse hb3) hb4]) | (dsimp only; rw [or3_n (bfalse hb3) (bfalse hb4)])),(by simp only []; omega)⟩
         · refine W.l0 10 [.y 73 _,.y 74 _,.y 75 _,.y 76 _,.x 77,.x 78,.x 79,.y 80 _,.y 81 _,.y 8 _] [] [] [(3,_),(5,_),(6,_),(7,_),(8,_),(10,_)] [(11,.var _),(3,.var _)] 98 ⟨mU 8 O O,mU 73 O O,aW O O (gF (bfalse hb3) O) fun _ _ H K=>R.mov (eU K 12 O) O H,aW O O (gF (bfalse hb3) O) fun _ _ H K=>R.mov (eU K 75 O) O H,aF O O (gF (bfalse hb4) O),aF O O (gF (bfalse hb4) O),aF O O (gF (bfalse hb4) O),aW O O (gF (bfalse hb3) O) fun _ _ H K=>R.pickF (eU K 76 O) (bfalse hb4) (kB false O) O H,aU fun _ _ H K=>R.pickF (eU K 74 O) (bfalse hb3) (eU K 80 O) O H,aU fun _ _ H K=>R.asg (eU K 81 O) O H,Zt⟩ O O O O (tU O ?_)
           refine W.dropB [3] (bx':=[(3,.var _)]) O O O (pin_sub hD O) ?_
           refine W.l0 3 [.y 55 _,.y 56 _,.y 10 _] [] [] [(3,_),(5,_),(6,_),(7,_),(8,_),(10,_)] [(3,.var _)] 98 ⟨mU 10 O O,aU fun _ _ H K=>R.addN (k) (1) (eU K 55 O) (kI 1 O) bU H,aU fun _ _ H K=>R.asg (eU K 56 O) O H,Zt⟩ O O O O (tU O ?_)
           exact ⟨⟨(k + 1),bU⟩,(by first | (dsimp only; rw [or3_t hb3]) | (dsimp only; rw [or3_y (bfalse hb3) hb4]) | (dsimp only; rw [or3_n (bfalse hb3) (bfalse hb4)])),(by simp only []; omega)⟩
     · obtain rfl : k = (allS l)[i]!.t.ins.length:=by omega
       refine W.exit (W.seq ?_)
       refine W.l0 1 [.y 82 _] [] [] [(3,_),(5,_),(6,_),(7,_),(82,_)] [(3,.var _)] 98 ⟨mU 8 O O,Zt⟩ O O O O (tU O ?_)
       refine W.cond O (fun hc82=>?_) (fun hc82=>?_)
       · refine W.draw (m:=15) (an:=[0,0,0,6,14,30,0,0,192,448,960,2046,4094,8191,16383]) hP dU O (its:=[.y 83 _,.y 84 _,.y 85 _,.y 86 _,.y 87 _,.y 88 _,.y 89 _,.y 90 _,.y 91 _,.y 92 _,.y 93 _,.y 94 _,.y 95 _,.y 96 _,.y 6 _]) (ks:=[(13,6),(14,96),(14,83)]) (kk:=[(13,6),(14,96)]) (live:=[3,5,6,7]) (env':=[(3,_),(5,_),(6,_),(7,_)]) (⟨nU O,O,⟨aU fun _ _ H K=>R.al (K 6 _ O) H dU,mU 5 O O,mU 7 O O,aU fun _ _ H K=>R.idxN (i) (SC.sl (K 84 _ O)) (evoI (eU K 85 O)) O bU H dU,aU fun _ _ H K=>R.fdE (K 86 _ O) H dU,aU fun _ _ H K=>R.ldE (K 87 _ O) (SC.sl (K 84 _ O)) (map_get! (l:=(allS l)) bU) O O O O H,mU 5 O O,mU 7 O O,aU fun _ _ H K=>R.idxN (i) (SC.sl (K 89 _ O)) (evoI (eU K 90 O)) O bU H dU,aU fun _ _ H K=>R.fdE (K 91 _ O) H dU,aU fun _ _ H K=>R.ldE (K 92 _ O) (SC.sl (K 89 _ O)) (map_get! (l:=(allS l)) bU) O O O O H,aU fun _ _ H K=>R.bldSE (l:=[.int 0,.arr 32 1 ((List.replicate 32 0).map D.u8)]) (l':=[_,_]) (.cons (eU K 88 O) (.cons (eU K 93 O) (.nil O))) ⟨⟨_,(eU K 88 O),O,O,O⟩,⟨⟨_,(eU K 93 O),O,O,szH O⟩,Zt⟩⟩ H,aU fun _ _ H K=>R.bslE (z:=33) (.cons (eU K 94 O) .nil) ⟨⟨O,O,O⟩,Zt⟩ O H dU,aU fun _ _ H K=>R.appE (Or.inr (K 83 _ O)) (K 6 _ O) (SrcO.sc (SC.sl (K 95 _ O)) (pur_lit O)) (show _ = ((hstI (allS l) sc (i + 1)).map enD) from (hstI_app hc82)) (by simp only [List.length_map,List.length_cons,List.length_nil]; omega) H dU dU,aU fun _ _ H K=>R.asgO (K 96 _ O) O H dU,Zt⟩,O,O,O⟩) O (bx':=[(3,.var _)]) O (n':=98) O (tV [(3,_),(5,_),(6,_),(7,_)] [(3,.var _)] 98 O O O ?_)
         refine W.l0 3 [.y 19 _,.y 20 _,.y 7 _] [] [] [(3,_),(5,_),(6,_),(7,_)] [(3,.var _)] 98 ⟨mU 7 O O,aU fun _ _ H K=>R.addN (i) (1) (eU K 19 O) (kI 1 O) bU H,aU fun _ _ H K=>R.asg (eU K 20 O) O H,Zt⟩ O O O O (tU O ?_)
         exact ⟨⟨(i + 1),bU⟩,(by first | (dsimp only; rw [hstI_f hc82]) | rfl),(by simp only []; omega)⟩
       · refine W.skip ?_
         refine W.l0 3 [.y 19 _,.y 20 _,.y 7 _] [] [] [(3,_),(5,_),(6,_),(7,_)] [(3,.var _)] 98 ⟨mU 7 O O,aU fun _ _ H K=>R.addN (i) (1) (eU K 19 O) (kI 1 O) bU H,aU fun _ _ H K=>R.asg (eU K 20 O) O H,Zt⟩ O O O O (tU O ?_)
         exact ⟨⟨(i + 1),bU⟩,(by first | (dsimp only; rw [hstI_f hc82]) | rfl),(by simp only []; omega)⟩
 · obtain rfl : i = (allS l).length:=by omega
   refine W.exit (W.seq ?_)
   refine W.l0 2 [.y 97 _,.y 4 _] [(0,6),(1,97)] [(0,6),(1,97)] [(4,_)] [(3,.var _)] 98 ⟨aU fun _ _ H K=>R.movO (K 6 _ O) O H dU,aU fun _ _ H K=>R.asgO (K 97 _ O) O H dU,Zt⟩ O O O O (tU O ?_)
   refine W.ret ?_
   exact Ends.one' (.inr O) O (O) O O Zt
end Go.Sx

namespace Go.Sx
section
variable {α : Type} [Inhabited α] [BEq α] [LawfulBEq α] {a b : List α}
end
end Go.Sx
