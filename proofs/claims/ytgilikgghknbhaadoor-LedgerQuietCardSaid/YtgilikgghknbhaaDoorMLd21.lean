/- Proved: what functions of the given program compute (used by the theorem of this claim). Conditions: none but those that each theorem states. -/
import Derived.Test.YtgilikgghknbhaaDoorMSxTake
import Derived.Test.YtgilikgghknbhaaDoorMLd14
import Derived.Test.YtgilikgghknbhaaDoorMShaDefs
import Derived.Test.YtgilikgghknbhaaDoorMSxRange3
set_option linter.unusedVariables false
set_option linter.unusedSimpArgs false
set_option linter.unnecessarySimpa false

namespace Go.Sx
open Go.Proofs
theorem EG(s:SpS)(av:List (Plc×UInt64))(mark:UInt32)(ha:av.length<=1000000000)(ht0:s.to.length<=140737488355328):Fn Tryd.prog gl 39 [WE s,.sl none 33 (av.map t4),.sl none 1 (av.map l4),.u32 mark] (.tup [X3 (HY s av mark).1,.bool (HY s av mark).2]):=by
 refine Fn.of (n:=122) Tryd.func39 rfl rfl rfl (nU rfl) fun C hC hD=>?_;refine z7 3 [] [] [] (V4 0 1 2 3) Zt O O (⟨O,_,R.box (gV 0 O) O O (nU O),(o0 O O ⟨O,_,v3 (kB false O) O (nU O),tV (V5 1 2 3 4 8) (b2 8 4) 122 O O O ?_⟩)⟩);refine W.seq (W.seq ?_);by_cases h1:av.length=0
 ·refine j1 9 [.y 15 _,.y 16 _,.y 17 _,.y 18 _,.x 19,.x 20,.x 21,.x 22,.y 23 _] (V6 1 2 3 4 8 23) ⟨mU 1 O O,aU<|zN O (lN _) O,aU<|r7 0 O O O,mU 17 O O,aF O O (gT (dT h1) O),aF O O (gT (dT h1) O),aF O O (gT (dT h1) O),aF O O (gT (dT h1) O),aU<|AT O (dT h1) (kB true O) O O,Zt⟩ O O O O ?_;refine d6 O (O) ?_;refine z7 3 (y1 24) [] [] (V2 8 24) ⟨aU fun _ _ H _=>p6 (l:=[.u32 0,.nils,.nils,.u32 0]) (l':=[_,_,_,_]) (.nil O) Zt H,Zt⟩ O O (m1 O O O O O ⟨O,_,v3 (kB false O) O (nU O),tV (V2 8 9) (b2 8 4) 122 O O O ?_⟩);refine SI 8 (d':=X3 HW) (bx':=(b2 8 4)) O MJ O ?_;refine W.ret ?_;exact Ends.many (.inr O) (.cons O O O (show LdT _ 54 4 true from inferInstance) (.cons O O O Zt .nil)) (by rw[spS_1 h1]) (show[(8,false),(9,true)].Nodup by decide)
 ·refine j1 9 (y9 15 16 17 18 19 20 21 22 23) (V6 1 2 3 4 8 23) ⟨mU 1 O O,aU<|zN O (lN _) O,aU<|r7 0 O O O,mU 17 O O,aW O O (gF (dF h1) O) (fU 4 O O),aW O O (gF (dF h1) O) (lU 19 O O O O O O O),aW O O (gF (dF h1) O)<|zN O (lN _) O,aW O O (gF (dF h1) O)<|r7 0 O O O,aU<|zF O (dF h1) O O O,Zt⟩ O O O O ?_;refine z9 O (fun hc23=>?_) (fun hc23=>?_)
  ·refine z7 3 (y1 24) [] [] (V2 8 24) ⟨aU fun _ _ H _=>p6 (l:=[.u32 0,.nils,.nils,.u32 0]) (l':=[_,_,_,_]) (.nil O) Zt H,Zt⟩ O O (m1 O O O O O ⟨O,_,v3 (kB false O) O (nU O),tV (V2 8 9) (b2 8 4) 122 O O O ?_⟩);refine SI 8 (d':=X3 HW) (bx':=(b2 8 4)) O MJ O ?_;refine W.ret ?_;exact Ends.many (.inr O) (.cons O O O (show LdT _ 54 4 true from inferInstance) (.cons O O O Zt .nil)) (by rw[spS_2 hc23]) (show[(8,false),(9,true)].Nodup by decide)
  ·refine W.skip (z6 7 (y7 25 26 27 28 29 30 10) (V6 1 2 3 4 8 10) ⟨aU (fU 4 O O),aU (lU 25 O O O O O O O),aU<|zW O O O,mU 1 O O,aU<|zN O (lN _) O,aU fun _ _ H K=>E7 (s.from_.toNat) (av.length) (eU K 27 O) (eU K 29 O) bU H,aU<|zA O O O,Zt⟩ O O O O ?_);refine W.seq ?_;have hkl:=Nat.mod_lt s.from_.toNat (show 0<av.length by omega);refine J7 (m:=12) (an:=[0,0,0,6,14,0,32,96,254,510,1023,0,4095]) (its:=[.y 31 _,.y 32 _,.y 33 _,.y 34 _,.y 35 _,.y 36 _,.y 37 _,.y 38 _,.y 39 _,.y 40 _,.y 41 _,.y 11 _]) (ks:=[(10,40)]) (kk:=[(10,40)]) (efs:=[(11,(b1 11))]) (live:=[1,2,4,8,10,11,41]) (env':=(V7 1 2 4 8 10 11 41)) (nd:=40) (bx1:=(b3 11 8 4)) hP dU O ⟨⟨140,O⟩,nU O,O,O,O,O⟩ (          ⟨⟨O,nU O,O,fun _ τ hb ht hτ=>R.mov (evt (hτ 3 _ O)) O ht⟩,⟨⟨O,nU O,O,fun _ τ hb ht hτ=>R.mov (evt (hτ 1 _ O)) O ht⟩,⟨⟨O,nU O,O,fun _ τ hb ht hτ=>R.mov (evt (hτ 10 _ O)) O ht⟩,⟨⟨O,nU O,O,fun _ τ hb ht hτ=>R.idxN ((s.from_.toNat%av.length)) (SC.sl (hτ 32 _ O)) (m2 (evt (hτ 33 _ O))) O bU ht dU⟩,⟨⟨O,nU O,O,fun _ τ hb ht hτ=>R.ldE (hτ 34 _ O) (SC.sl (hτ 32 _ O)) (mG av) O O O O ht⟩,⟨⟨O,nU O,O,fun _ τ hb ht hτ=>R.fdP (hτ 4 _ O) ht⟩,⟨⟨O,nU O,O,fun _ τ hb ht hτ=>R.ldP (hτ 36 _ O) (hb 4 _ O) O O O O ht⟩,⟨⟨O,nU O,O,fun _ τ hb ht hτ=>Z3 (d:=.u32 s.extra.toUInt32) (evt (hτ 37 _ O)) O (O) ht⟩,⟨⟨O,nU O,O,fun _ τ hb ht hτ=>p6 (l:=[.agg [.arr 32 1 ((List.replicate 32 0).map D.u8),.u32 0],.nils,.u32 0,.nils]) (l':=[_,_,_,_]) (.cons (evt (hτ 35 _ O)) (.cons (evt (hτ 38 _ O)) (.nil O))) ⟨⟨_,(evt (hτ 35 _ O)),O,O,O⟩,⟨⟨_,(evt (hτ 38 _ O)),O,O,O⟩,Zt⟩⟩ ht⟩,⟨⟨O,nU O,O,fun _ τ hb ht hτ=>w9 (z:=36) (.cons (evt (hτ 39 _ O)) .nil) ⟨⟨O,O,O⟩,Zt⟩ O ht dU⟩,⟨⟨O,nU O,O,fun _ τ hb ht hτ=>R.bldO (l:=[.u32 0,.nils,.nils,.u32 0]) (l':=[_,_,_,_]) (.pur (kW (.int .u32 2) (.u32 2) O) O O O (.pur (evt (hτ 31 _ O)) O O O (.own (hτ 40 _ O) O O O O (.nil O)))) O ht⟩,⟨⟨O,O,⟨O,nU O⟩,(SpE.alloc O (nU O))⟩,Zt⟩⟩⟩⟩⟩⟩⟩⟩⟩⟩⟩⟩) O O O (n':=122) O (⟨O,_,G0 (gU 11 O) (xU 11 O) O (gU 41 O) O O (by rfl) (by rfl) O O,⟨[1,2,4,8,10,11],(V6 1 2 4 8 10 11),(b3 11 8 4),122,O,O,O, ?_⟩⟩);refine W.seq ?_;refine SI 11 (d':=.agg [.u32 2,.sl (some 67) 36 ([(⟨av[(s.from_.toNat%av.length)]!.1.1,av[(s.from_.toNat%av.length)]!.1.2,[],s.extra.toUInt32,[]⟩:InS)].map R9),.sl (some 64) 2 (([]:List OutS).map D8),.u32 mark]) (bx':=(b3 11 8 4)) O (wk_tx1 _ _ _ _ _) O ?_;refine j1 5 (y5 42 43 44 45 12) (V7 1 2 4 8 10 11 12) ⟨mU 2 O O,mU 10 O O,aU<|zI ((s.from_.toNat%av.length)) O O O bU O,aU<|zL O O (mG av) O O O O O,aU<|zA O O O,Zt⟩ O O O O ?_;refine PE (fun s__=>∃ q__:{q__:Unit//True},s__=⟨122,[(4,.ptr 4 0 []),(8,.ptr 8 0 []),(11,.ptr 11 0 []),(12,.u64 (G4 s av))],[(11,.var (.agg [.u32 2,.sl (some 67) 36 ((B8 s av).map R9),.sl (some 64) 2 (([]:List OutS).map D8),.u32 mark])),(8,.var (.agg [.u32 0,.nils,.nils,.u32 0])),(4,.var (WE s))]⟩) ?_ ?_
   ·refine W.seq ?_;by_cases h2:s.two=true
    ·refine j1 9 (y9 46 47 48 49 50 51 52 53 54) (V8 1 2 4 8 10 11 12 54) ⟨aU (fU 4 O O),aU (lU 46 O O O O O O O),mU 47 O O,aW O O (gT (h2) O)<|zV O O O,aW O O (gT (h2) O)<|m8 1 O O bU O,aW O O (gT (h2) O)<|zV O O O,aW O O (gT (h2) O)<|zN O (lN _) O,aW O O (gT (h2) O)<|zS O O O,aU<|zT O (h2) O O O,Zt⟩ O O O O ?_;refine z9 O (fun hc54=>?_) (fun hc54=>?_)
     ·refine W.seq ?_;refine w7 (m:=17) (an:=[0,1,0,0,8,28,60,0,128,384,0,1024,3072,0,15360,32764,65532,131071,262143,524287]) hP dU O (its:=[.y 55 _,.y 56 _,.y 57 _,.y 58 _,.y 59 _,.y 60 _,.y 61 _,.y 62 _,.y 63 _,.y 64 _,.y 65 _,.y 66 _,.y 67 _,.y 68 _,.y 69 _,.y 70 _,.y 71 _]) (ks:=[(14,67),(14,68),(15,64),(15,69),(16,70)]) (kk:=[(14,67),(14,68),(15,64),(15,69),(16,70)]) (live:=[2,4,8,10,11,12,56,71]) (env':=(V8 2 4 8 10 11 12 56 71)) (⟨nU O,O,⟨aU (fU 11 O O),aU fun _ B H K=>R.ldO (K 55 _ O) (B 11 _ O) O H,mU 1 O O,mU 10 O O,aU<|m8 1 O O bU O,aU<|zI (((s.from_.toNat%av.length)+1)) O O O bU O,aU<|zL O O (mG av) O O O O O,aU (fU 4 O O),aU (lU 62 O O O O O O O),aU fun _ _ H K=>w9 (z:=1) (.cons (eU K 63 O) .nil) ⟨⟨O,O,O⟩,Zt⟩ O H dU,aU (fU 4 O O),aU (lU 65 O O O O O O O),aU fun _ _ H K=>w9 (z:=1) (.cons (eU K 66 O) .nil) ⟨⟨O,O,O⟩,Zt⟩ O H dU,aU fun _ _ H _=>w9 .nil Zt O H dU,aU fun _ _ H K=>R.bslO (z:=1) (.own (K 67 _ O) O O O O (.own (K 68 _ O) O O O O .nil)) O O H dU,aU fun _ _ H K=>R.bldO (l:=[.agg [.arr 32 1 ((List.replicate 32 0).map D.u8),.u32 0],.nils,.u32 0,.nils]) (l':=[_,_,_,_]) (.pur (eU K 61 O) O O O (.own (K 64 _ O) O O O O (.own (K 69 _ O) O O O O (.nil O)))) O H,aU fun _ _ H K=>R.bslO (z:=36) (.own (K 70 _ O) O O O O .nil) O O H dU,Zt⟩,O,O,O⟩) O (bx':=(b3 11 8 4)) O (n':=122) O (⟨O,_,GL (gU 56 O) (xU 11 O) O O O O (gU 56 O) (gU 71 O) O (show _=([(⟨av[(s.from_.toNat%av.length)]!.1.1,av[(s.from_.toNat%av.length)]!.1.2,[],s.extra.toUInt32,[]⟩:InS),(⟨av[(s.from_.toNat%av.length)+1]!.1.1,av[(s.from_.toNat%av.length)+1]!.1.2,[s.extra],0,[[s.part],[]]⟩:InS)].map R9) from(O)) (by simp) (nU O) dU dU,⟨O,_,R.fdP (gU 11 O) (nU O),⟨O,_,G0 (gU 73 O) (xU 11 O) O (gU 72 O) O O (by rfl) (by rfl) O O,tV (V6 2 4 8 10 11 12) (b3 11 8 4) 122 O O O ?_⟩⟩⟩);refine j1 8 (y8 74 75 76 77 78 79 80 12) (V4 4 8 11 12) ⟨mU 12 O O,mU 2 O O,mU 10 O O,aU<|m8 1 O O bU O,aU<|zI (((s.from_.toNat%av.length)+1)) O O O bU O,aU<|zL O O (mG av) O O O O O,aU<|zB O O O O,aU<|zA O O O,Zt⟩ O O O O ?_;exact⟨⟨(()),Zt⟩,(by rw[spIns_y h2 hc54,spSum_y h2 hc54]<;>rfl)⟩
     ·refine u3 (live:=[4,8,11,12]) (env':=(V4 4 8 11 12)) (bx':=(b3 11 8 4)) (n':=122) O O O ?_;refine W.skip ?_;exact⟨⟨(()),Zt⟩,(by rw[LD (fun h=>hc54 h.2),LH (fun h=>hc54 h.2)]<;>rfl)⟩
    ·refine j1 9 [.y 46 _,.y 47 _,.y 48 _,.x 49,.x 50,.x 51,.x 52,.x 53,.y 54 _] (V8 1 2 4 8 10 11 12 54) ⟨aU (fU 4 O O),aU (lU 46 O O O O O O O),mU 47 O O,aF O O (gF (bfalse h2) O),aF O O (gF (bfalse h2) O),aF O O (gF (bfalse h2) O),aF O O (gF (bfalse h2) O),aF O O (gF (bfalse h2) O),aU<|MQ O (bfalse h2) (kB false O) O O,Zt⟩ O O O O ?_;refine g9 O (O) ?_;refine u3 (live:=[4,8,11,12]) (env':=(V4 4 8 11 12)) (bx':=(b3 11 8 4)) (n':=122) O O O ?_;refine W.skip ?_;exact⟨⟨(()),Zt⟩,(by rw[LD (fun h=>h2 h.1),LH (fun h=>h2 h.1)]<;>rfl)⟩
   ·rintro s__ ⟨⟨_,_⟩,rfl⟩;refine W.seq (z6 1 (y1 13) (V5 4 8 11 12 13) ⟨aU<|zK (kI 0 O) O O,Zt⟩ O O O O ?_);refine W.block ?_;refine W.loop (α:={q__:Nat//q__<=min s.to.length 4}) (fun q__=>⟨122,[(4,.ptr 4 0 []),(8,.ptr 8 0 []),(11,.ptr 11 0 []),(12,.u64 (G4 s av)),(13,.int ((q__.1:Nat):Int))],[(11,.var (.agg [.u32 2,.sl (some 67) 36 ((B8 s av).map R9),.sl (some 64) 2 ((Z0 s (G4 s av) q__.1).map D8),.u32 mark])),(8,.var (.agg [.u32 0,.nils,.nils,.u32 0])),(4,.var (WE s))]⟩) (fun q__=>min s.to.length 4-q__.1) ⟨(0),bU⟩ O ?_;rintro ⟨i,hi⟩;show W _ _ _ _ ⟨122,[(4,.ptr 4 0 []),(8,.ptr 8 0 []),(11,.ptr 11 0 []),(12,.u64 (G4 s av)),(13,.int ((i:Nat):Int))],[(11,.var (.agg [.u32 2,.sl (some 67) 36 ((B8 s av).map R9),.sl (some 64) 2 ((Z0 s (G4 s av) i).map D8),.u32 mark])),(8,.var (.agg [.u32 0,.nils,.nils,.u32 0])),(4,.var (WE s))]⟩;have hi:i<=min s.to.length 4:=hi;refine W.seq (W.seq ?_);by_cases h4:i<s.to.length
    ·refine j1 9 (y9 81 82 83 84 85 86 87 88 89) (V6 4 8 11 12 13 89) ⟨mU 13 O O,aU (fU 4 O O),aU (lU 82 O O O O O O O),aU<|zN O (lN _) O,aU<|zS O O O,mU 85 O O,aW O O (gT (dT h4) O)<|zV O O O,aW O O (gT (dT h4) O)<|I7 4 O O O,aU<|zT O (dT h4) O O O,Zt⟩ O O O O ?_;refine z9 O (fun hc89=>?_) (fun hc89=>?_)
     ·refine W.skip (W.seq (W.block (z6 7 (y7 92 93 94 95 96 97 14) (V6 4 8 11 12 13 14) ⟨mU 12 O O,aU (fU 4 O O),aU (lU 93 O O O O O O O),aU<|zN O (lN _) O,aU<|zW O O O,aU fun _ _ H K=>R.bin (eU K 92 O) (eU K 96 O) O (u64_ne hc23 ht0) H,aU<|zA O O O,Zt⟩ O O O O ?_)));refine PE (fun s__=>∃ q__:{q__:Unit//True},s__=⟨122,[(4,.ptr 4 0 []),(8,.ptr 8 0 []),(11,.ptr 11 0 []),(12,.u64 (G4 s av)),(13,.int ((i:Nat):Int)),(14,.u64 (spV s (G4 s av) i))],[(11,.var (.agg [.u32 2,.sl (some 67) 36 ((B8 s av).map R9),.sl (some 64) 2 ((Z0 s (G4 s av) i).map D8),.u32 mark])),(8,.var (.agg [.u32 0,.nils,.nils,.u32 0])),(4,.var (WE s))]⟩) ?_ ?_
      ·refine z6 2 (y2 98 99) (V7 4 8 11 12 13 14 99) ⟨mU 13 O O,aU<|r7 0 O O O,Zt⟩ O O O O ?_;refine z9 O (fun hc99=>?_) (fun hc99=>?_)
       ·refine j1 8 (y8 100 101 102 103 104 105 106 14) (V6 4 8 11 12 13 14) ⟨mU 14 O O,mU 14 O O,aU (fU 4 O O),aU (lU 102 O O O O O O O),aU fun _ _ H K=>Z3 (d:=.u64 s.part.toUInt64) (eU K 103 O) O (O) H,aU fun _ _ H K=>R.minU (eU K 101 O) (eU K 104 O) H,aU<|zB O O O O,aU<|zA O O O,Zt⟩ O O O O ?_;exact⟨⟨(()),Zt⟩,(by rw[spV_0 hc99]<;>rfl)⟩
       ·refine u3 (live:=[4,8,11,12,13,14]) (env':=(V6 4 8 11 12 13 14)) (bx':=(b3 11 8 4)) (n':=122) O O O ?_;refine W.skip ?_;exact⟨⟨(()),Zt⟩,(by rw[spV_1 hc99]<;>rfl)⟩
      ·rintro s__ ⟨⟨_,_⟩,rfl⟩;refine w7 (m:=12) (an:=[0,1,0,0,8,0,56,120,248,504,1020,2044,4095,8191,16383]) hP dU O (its:=[.y 107 _,.y 108 _,.y 109 _,.y 110 _,.y 111 _,.y 112 _,.y 113 _,.y 114 _,.y 115 _,.y 116 _,.y 117 _,.y 118 _]) (ks:=[(10,116),(11,117)]) (kk:=[(10,116),(11,117)]) (live:=[4,8,11,12,13,108,118]) (env':=(V7 4 8 11 12 13 108 118)) (⟨nU O,O,⟨aU (fU 11 O O),aU fun _ B H K=>R.ldO (K 107 _ O) (B 11 _ O) O H,mU 14 O O,aU (fU 4 O O),aU (lU 110 O O O O O O O),mU 13 O O,aU<|zI i O O O bU O,aU<|zL O O (mG s.to) O O O O O,aU fun _ _ H K=>R.bin (eU K 114 O) (kW (.int .u8 12) (.u8 12) O) O dU H,aU<|zC hC (YI (s.to[i]!%12)) O O O (F1 (B0 _)) O,aU fun _ _ H K=>R.bldO (l:=[.u64 0,.nils]) (l':=[_,_]) (.pur (eU K 109 O) O O O (.own (K 116 _ O) O O O O (.nil O))) O H,aU fun _ _ H K=>R.bslO (z:=2) (.own (K 117 _ O) O O O O .nil) O O H dU,Zt⟩,O,O,O⟩) O (bx':=(b3 11 8 4)) O (n':=122) O (⟨O,_,GL (gU 108 O) (xU 11 O) O O O O (gU 108 O) (gU 118 O) O (show _=((Z0 s (G4 s av) (i+1)).map D8) from(ED _ _ _)) (by simp only[List.length_map,Z0,List.length_range,List.length_cons,List.length_nil];omega) (nU O) dU dU,⟨O,_,R.fdP (gU 11 O) (nU O),⟨O,_,G0 (gU 120 O) (xU 11 O) O (gU 119 O) O O (by rfl) (by rfl) O O,tV (V5 4 8 11 12 13) (b3 11 8 4) 122 O O O ?_⟩⟩⟩);refine j1 3 (y3 90 91 13) (V5 4 8 11 12 13) ⟨mU 13 O O,aU<|m8 1 O O bU O,aU<|zA O O O,Zt⟩ O O O O ?_;exact⟨⟨(i+1),bU⟩,rfl,(by show min s.to.length 4-(i+1)<min s.to.length 4-i;omega)⟩
     ·obtain rfl:i=min s.to.length 4:=by omega
      refine W.exit (z7 3 [] [] [] (V2 8 11) Zt O O (⟨O,_,R.ldTake (gU 11 O) (xU 11 O) O O O (nU O),⟨O,_,G0 (gU 8 O) (xU 8 O) O (gU 121 O) O O (by rfl) (by rfl) O O,⟨O,_,v3 (kB true O) O (nU O),tV (V2 8 9) (b3 11 8 4) 122 O O O ?_⟩⟩⟩));refine W.ret ?_;exact Ends.many (.inr O) (.cons O O O (show LdT _ 54 4 true from inferInstance) (.cons O O O Zt .nil)) (by rw[spS_3 h1 hc23]<;>rfl) (show[(8,false),(9,true)].Nodup by decide)
    ·refine j1 9 [.y 81 _,.y 82 _,.y 83 _,.y 84 _,.y 85 _,.y 86 _,.x 87,.x 88,.y 89 _] (V6 4 8 11 12 13 89) ⟨mU 13 O O,aU (fU 4 O O),aU (lU 82 O O O O O O O),aU<|zN O (lN _) O,aU<|zS O O O,mU 85 O O,aF O O (gF (dF h4) O),aF O O (gF (dF h4) O),aU<|MQ O (dF h4) (kB false O) O O,Zt⟩ O O O O ?_;refine g9 O (O) ?_
     obtain rfl:i=min s.to.length 4:=by omega
     refine W.exit (z7 3 [] [] [] (V2 8 11) Zt O O (⟨O,_,R.ldTake (gU 11 O) (xU 11 O) O O O (nU O),⟨O,_,G0 (gU 8 O) (xU 8 O) O (gU 121 O) O O (by rfl) (by rfl) O O,⟨O,_,v3 (kB true O) O (nU O),tV (V2 8 9) (b3 11 8 4) 122 O O O ?_⟩⟩⟩));refine W.ret ?_;exact Ends.many (.inr O) (.cons O O O (show LdT _ 54 4 true from inferInstance) (.cons O O O Zt .nil)) (by rw[spS_3 h1 hc23]<;>rfl) (show[(8,false),(9,true)].Nodup by decide)
end Go.Sx

namespace Go.Sx
theorem u8_int(n:Nat):D.u8 (UInt8.ofInt ((n:Nat):Int))=.u8 (UInt8.ofNat n):=by
 congr 1
 unfold UInt8.ofInt;apply UInt8.toNat_inj.1;rw[UInt8.toNat_ofNat',UInt8.toNat_ofNat'];omega
theorem shr256(n:Nat):D.int (((n:Nat):Int).fdiv (2^min (8:Int).toNat 64))=.int ((n/256:Nat):Int):=by
 have:=fdiv_pow ((n:Nat):Int) 8 (Int.natCast_nonneg _) (by decide);rw[Int.toNat_natCast] at this;exact congrArg D.int this
theorem brw_sp(s:SpS):(WE s).brw=WE s:=by
 simp only[WE,D.brw,d5,List.map_cons,List.map_nil];rw[j9 (fun _=>rfl)]
theorem IP(x:PlS):(QU x).brw=QU x:=by
 simp only[QU,D.brw,d5,List.map_cons,List.map_nil];rw[j9 brw_sp]
theorem n3(b:BlkS):(v9 b).brw=v9 b:=by
 simp only[v9,D.brw,d5,List.map_cons,List.map_nil,XT];rw[j9 PC]
theorem brw_thr(a e:Nat)(l:List (Plc×UInt64)):D.brwR (.tup [.sl (some a) 33 (l.map t4),.sl (some e) 1 (l.map l4)])=.tup [.sl none 33 (l.map t4),.sl none 1 (l.map l4)]:=by
 show D.tup [D.sl none 33 (D.brws (l.map t4)),D.sl none 1 (D.brws (l.map l4))]=_;rw[d5,d5,j9 (fun x=>by simp only[t4,q7,D.brw,d5,List.map_cons,List.map_nil,X9]),j9 (fun _=>rfl)]
theorem frs_thr(a e:Nat)(l:List (Plc×UInt64)):FrsR (.tup [.sl (some a) 33 (l.map t4),.sl (some e) 1 (l.map l4)]):=
 .inl ⟨_,rfl,X7 (.sl _ _ _ (u2 fun x=>.agg _ (X7 (d9 _) (.u32 _)))) (.sl _ _ _ (u2 fun _=>.u64 _))⟩
theorem frs_mine(h:HdS)(b:Bool):FrsR (.tup [d7 h,.bool b]):=.inl ⟨_,rfl,X7 (RN h) (.bool b)⟩
theorem wk_mint(n:Nat)(x:PlS)(mark:UInt32):Wk (.agg [.u32 1,.sl (some 67) 36 [.agg [.agg [z5 zero32,.u32 4294967295],.sl (some 5) 1 [.u8 (UInt8.ofNat n),.u8 (UInt8.ofNat (n/256)),.u8 mark.toUInt8],.u32 0,.nils]],.sl (some 64) 2 [.agg [.u64 5000,.sl (some 5) 1 ((t6 (x.pays%12)).map D.u8)]],.u32 mark]) (X3 (o4 n x mark)):=
 .aggL (.cons (.refl _) (.cons (.slL (.cons (.aggL (.cons (.refl _) (.cons (.refl _) (.cons (.refl _) (.cons (.nils _ _) .nil))))) .nil)) (.cons (.refl _) (.cons (.refl _) .nil))))
section
variable{l:List BlkS}{x:PlS}{mark:UInt32}{i:Nat}
theorem grT_y(h:(HY x.spends[i]! (P7 (l++[⟨zeroH,P6 l x mark i⟩])) mark).2=true):P6 l x mark (i+1)=P6 l x mark i++[(HY x.spends[i]! (P7 (l++[⟨zeroH,P6 l x mark i⟩])) mark).1]:=by rw[P6,if_pos h]
theorem grT_n(h:¬ (HY x.spends[i]! (P7 (l++[⟨zeroH,P6 l x mark i⟩])) mark).2=true):P6 l x mark (i+1)=P6 l x mark i:=by rw[P6,if_neg h]
theorem grT_app(h:(HY x.spends[i]! (P7 (l++[⟨zeroH,P6 l x mark i⟩])) mark).2=true):(P6 l x mark i).map X3++[X3 (HY x.spends[i]! (P7 (l++[⟨zeroH,P6 l x mark i⟩])) mark).1]=(P6 l x mark (i+1)).map X3:=by
 rw[grT_y h,List.map_append];rfl
end
theorem MC{α:Type}[Inhabited α]{l:List α}{f:α->D}{j:Nat}(h:j<l.length):(l.take j).map f++[f l[j]!]=(l.take (j+1)).map f:=by
 rw[getElem!_pos l j h,<- List.take_append_getElem h,List.map_append];rfl
theorem C8(l:List BlkS):(heads l).length=l.length:=List.length_map _
theorem heads_at{l:List BlkS}{j:Nat}(h:j<l.length):(heads l)[j]! = l[j]!.hd:=by
 rw[getElem!_pos (heads l) j (by rw[C8];exact h),getElem!_pos l j h];exact List.getElem_map _
theorem VY{l:List BlkS}{j:Nat}(h:j<l.length):((heads l).take j).map d7++[d7 l[j]!.hd]=((heads l).take (j+1)).map d7:=by
 rw[<- MC (by rw[C8];exact h),heads_at h]
theorem VG(l:List BlkS):(heads l).take l.length=heads l:=by rw[<- C8 l,List.take_length]
theorem heads_wf{l:List BlkS}(h:allBl l):allW (heads l):=fun x hx=>by
 obtain⟨b,hb,rfl⟩:=List.mem_map.1 hx;exact(h.2 b hb).hd
def YV(l:List TxS)(k:Nat):List Hs:=(l.take k).map O9
theorem idsK_app{l:List TxS}{k:Nat}(h:k<l.length):(YV l k).map z5++[z5 (O9 l[k]!)]=(YV l (k+1)).map z5:=by
 unfold YV;rw[List.map_map,List.map_map,<- MC h];rfl
theorem idsK_len{l:List TxS}{k:Nat}(h:k<=l.length):(YV l k).length=k:=by
 unfold YV;rw[List.length_map,List.length_take,Nat.min_eq_left h]
theorem idsK_all(l:List TxS):YV l l.length=l.map O9:=by
 unfold YV;rw[List.take_length]
end Go.Sx

namespace Go.Sx
open Go.Proofs
set_option maxHeartbeats 1000000 in
theorem s6(l:List BlkS)(x:PlS)(mark:UInt32)(hl:allBl l)(h1:1<=l.length)(h99:l.length<=99)(hto:∀ s∈x.spends,s.to.length<=140737488355328):Fn Tryd.prog gl 22 [.agg [.u32 545259519,.int 10,.u32 10,.nils,d7 Z9],.sl none 69 (l.map v9),QU x,.u32 mark] (.tup [QK (j8 l x mark).1,.bool (j8 l x mark).2]):=by
 refine Fn.of (n:=136) Tryd.func22 rfl rfl rfl (nU rfl) fun C hC hD=>?_;refine z7 4 [] [] [] (V4 0 1 2 3) Zt O O (⟨O,_,R.box (gV 0 O) O O (nU O),⟨O,_,R.box (gV 2 O) O O (nU O),(o0 O O ⟨O,_,v3 (kB false O) O (nU O),tV (V5 1 3 4 6 8) (b3 8 6 4) 136 O O O ?_⟩)⟩⟩);refine z7 23 [.y 23 _,.y 24 _,.y 25 _,.y 26 _,.y 27 _,.y 28 _,.y 29 _,.y 30 _,.y 31 _,.y 32 _,.y 33 _,.y 34 _,.y 35 _,.y 36 _,.y 37 _,.y 38 _,.y 39 _,.y 40 _,.y 41 _,.y 42 _,.y 43 _] [(12,34),(13,35),(18,40),(19,41),(20,36),(20,42)] [(12,34),(13,35),(18,40),(19,41),(20,36),(20,42)] (V6 1 3 4 6 8 43) ⟨mU 3 O O,aU fun _ _ H _=>p6 (l:=[.arr 32 1 ((List.replicate 32 0).map D.u8),.u32 0]) (l':=[_,_]) (.cons (kW (.int .u32 4294967295) (.u32 4294967295) O) (.nil O)) ⟨⟨_,(kW (.int .u32 4294967295) (.u32 4294967295) O),O,O,O⟩,Zt⟩ H,mU 1 O O,aU<|zN O (lN _) O,aU fun _ _ H K=>Z3 (d:=.u8 (UInt8.ofNat l.length)) (eU K 26 O) O (u8_int _) H,mU 1 O O,aU<|zN O (lN _) O,aU fun _ _ H K=>m3 (d:=.int (((l.length/256):Nat):Int)) (eU K 29 O) (kW (.int .u64 8) (.u64 8) O) O bV (shr256 _) H,aU fun _ _ H K=>Z3 (d:=.u8 (UInt8.ofNat (l.length/256))) (eU K 30 O) O (u8_int _) H,mU 3 O O,aU fun _ _ H K=>Z3 (d:=.u8 mark.toUInt8) (eU K 32 O) O (O) H,aU fun _ _ H K=>w9 (z:=1) (.cons (eU K 27 O) (.cons (eU K 31 O) (.cons (eU K 33 O) .nil))) ⟨⟨O,O,O⟩,⟨O,O,O⟩,⟨O,O,O⟩,Zt⟩ O H dU,aU fun _ _ H K=>R.bldO (l:=[.agg [.arr 32 1 ((List.replicate 32 0).map D.u8),.u32 0],.nils,.u32 0,.nils]) (l':=[_,_,_,_]) (.pur (eU K 24 O) O O O (.own (K 34 _ O) O O O O (.nil O))) O H,aU fun _ _ H K=>R.bslO (z:=36) (.own (K 35 _ O) O O O O .nil) O O H dU,aU (fU 6 O O),aU (lU 37 O O O O O O O),aU fun _ _ H K=>R.bin (eU K 38 O) (kW (.int .u8 12) (.u8 12) O) O dU H,aU<|zC hC (YI (x.pays%12)) O O O (F1 (B0 _)) O,aU fun _ _ H K=>R.bldO (l:=[.u64 0,.nils]) (l':=[_,_]) (.pur (kW (.int .u64 5000) (.u64 5000) O) O O O (.own (K 40 _ O) O O O O (.nil O))) O H,aU fun _ _ H K=>R.bslO (z:=2) (.own (K 41 _ O) O O O O .nil) O O H dU,aU fun _ _ H K=>R.bldO (l:=[.u32 0,.nils,.nils,.u32 0]) (l':=[_,_,_,_]) (.pur (kW (.int .u32 1) (.u32 1) O) O O O (.pur (eU K 23 O) O O O (.own (K 36 _ O) O O O O (.own (K 42 _ O) O O O O (.nil O))))) O H,Zt⟩ O O (o0 O O ⟨O,_,G0 (gU 10 O) (xU 10 O) O (gU 43 O) O O (by rfl) (by rfl) O O,tV (V6 1 3 4 6 8 10) (b4 10 8 6 4) 136 O O O ?_⟩);refine W.seq ?_;refine SI 10 (d':=X3 (o4 l.length x mark)) (bx':=(b4 10 8 6 4)) O (wk_mint _ _ _) O ?_;refine c9 5 [] [] [] (V6 1 3 4 6 8 10) Zt O O (⟨O,_,R.ldTake (gU 10 O) (xU 10 O) O O O (nU O),⟨O,_,R.bslO (z:=4) (.own (gU 44 O) O O O O .nil) O O (nU O) dU,⟨O,_,R.bldO (l:=[.agg [.u32 0,.arr 32 1 ((List.replicate 32 0).map D.u8),.arr 32 1 ((List.replicate 32 0).map D.u8),.u32 0,.u32 0,.u32 0],.nils]) (l':=[_,_]) (.own (gU 45 O) O O O O (.nil O)) O (nU O),(o0 O O ⟨O,_,G0 (gU 11 O) (xU 11 O) O (gU 46 O) O O (by rfl) (by rfl) O O,tV (V6 1 3 4 6 8 11) (b5 11 10 8 6 4) 136 O O O ?_⟩)⟩⟩⟩);refine W.tailS 1 (fun s__=>∃ q__:{q__:Unit//True},s__=⟨136,[(1,.sl none 69 (l.map v9)),(4,.ptr 4 0 []),(6,.ptr 6 0 []),(8,.ptr 8 0 []),(11,.ptr 11 0 [])],[(11,.var (.agg [d7 zeroH,.sl (some 54) 4 ((Y1 l x mark).map X3)])),(8,.var (.agg [d7 zeroH,.nils])),(6,.var (QU x)),(4,.var (.agg [.u32 545259519,.int 10,.u32 10,.nils,d7 Z9]))]⟩) ?_ ?_
 ·rintro s__ ⟨⟨_,_⟩,rfl⟩;have hsm:=s7 hl h99 x mark;refine z6 1 (y1 17) (V6 1 4 6 8 11 17) ⟨aU<|zK (kN O) O O,Zt⟩ O O O O ?_;refine W.seq (z6 1 (y1 18) (V7 1 4 6 8 11 17 18) ⟨aU<|zK (kI 0 O) O O,Zt⟩ O O O O ?_);refine W.block ?_;refine Q7 (s:=17) 35 68 O ?_;refine W.loop (α:={q__:Nat//q__<=l.length}) (fun q__=>⟨136,[(1,.sl none 69 (l.map v9)),(4,.ptr 4 0 []),(6,.ptr 6 0 []),(8,.ptr 8 0 []),(11,.ptr 11 0 []),(17,.sl (some 35) 68 (((heads l).take q__.1).map d7)),(18,.int ((q__.1:Nat):Int))],[(11,.var (.agg [d7 zeroH,.sl (some 54) 4 ((Y1 l x mark).map X3)])),(8,.var (.agg [d7 zeroH,.nils])),(6,.var (QU x)),(4,.var (.agg [.u32 545259519,.int 10,.u32 10,.nils,d7 Z9]))]⟩) (fun q__=>l.length-q__.1) ⟨(0),bU⟩ O ?_;rintro ⟨j,hj⟩;show W _ _ _ _ ⟨136,[(1,.sl none 69 (l.map v9)),(4,.ptr 4 0 []),(6,.ptr 6 0 []),(8,.ptr 8 0 []),(11,.ptr 11 0 []),(17,.sl (some 35) 68 (((heads l).take j).map d7)),(18,.int ((j:Nat):Int))],[(11,.var (.agg [d7 zeroH,.sl (some 54) 4 ((Y1 l x mark).map X3)])),(8,.var (.agg [d7 zeroH,.nils])),(6,.var (QU x)),(4,.var (.agg [.u32 545259519,.int 10,.u32 10,.nils,d7 Z9]))]⟩;have hj:j<=l.length:=hj;have hsm:=s7 hl h99 x mark;refine W.seq (z6 4 (y4 87 88 89 90) (V8 1 4 6 8 11 17 18 90) ⟨mU 18 O O,mU 1 O O,aU<|zN O (lN _) O,aU<|zS O O O,Zt⟩ O O O O ?_);refine z9 O (fun hc90=>?_) (fun hc90=>?_)
  ·refine W.skip (W.seq (W.block ?_));refine c9 9 (y9 93 94 95 96 97 98 99 100 17) [(7,17),(8,100),(8,93)] [(7,17),(8,100)] (V7 1 4 6 8 11 17 18) ⟨aU<|zM O O,mU 1 O O,mU 18 O O,aU<|zI j O O O bU O,aU<|H9 O O,aU<|zL O O (mG l) O O O O O,aU fun _ _ H K=>w9 (z:=68) (.cons (eU K 98 O) .nil) ⟨⟨O,O,O⟩,Zt⟩ O H dU,aU<|R5 O O O (g6 O) (show _=(((heads l).take (j+1)).map d7) from(VY bO)) (by simp only[List.length_map,List.length_take,C8,List.length_cons,List.length_nil];omega) O,aU<|zO O O O,Zt⟩ O O (tU O ?_);refine j1 3 (y3 91 92 18) (V7 1 4 6 8 11 17 18) ⟨mU 18 O O,aU<|m8 1 O O bU O,aU<|zA O O O,Zt⟩ O O O O ?_;exact⟨⟨(j+1),bU⟩,rfl,(by simp only[];omega)⟩
  ·obtain rfl:j=l.length:=by omega
   rw[VG];refine W.exit (z6 1 (y1 19) (V6 4 6 8 11 17 19) ⟨aU<|zK (kN O) O O,Zt⟩ O O O O ?_);refine W.seq (z6 1 (y1 20) (V7 4 6 8 11 17 19 20) ⟨aU<|zK (kI 0 O) O O,Zt⟩ O O O O ?_);refine W.block ?_;refine Q7 (s:=19) 26 32 O ?_;refine W.loop (α:={q__:Nat//q__<=(Y1 l x mark).length}) (fun q__=>⟨136,[(4,.ptr 4 0 []),(6,.ptr 6 0 []),(8,.ptr 8 0 []),(11,.ptr 11 0 []),(17,.sl (some 35) 68 ((heads l).map d7)),(19,.sl (some 26) 32 ((YV (Y1 l x mark) q__.1).map z5)),(20,.int ((q__.1:Nat):Int))],[(11,.var (.agg [d7 zeroH,.sl (some 54) 4 ((Y1 l x mark).map X3)])),(8,.var (.agg [d7 zeroH,.nils])),(6,.var (QU x)),(4,.var (.agg [.u32 545259519,.int 10,.u32 10,.nils,d7 Z9]))]⟩) (fun q__=>(Y1 l x mark).length-q__.1) ⟨(0),bU⟩ O ?_;rintro ⟨k,hk⟩;show W _ _ _ _ ⟨136,[(4,.ptr 4 0 []),(6,.ptr 6 0 []),(8,.ptr 8 0 []),(11,.ptr 11 0 []),(17,.sl (some 35) 68 ((heads l).map d7)),(19,.sl (some 26) 32 ((YV (Y1 l x mark) k).map z5)),(20,.int ((k:Nat):Int))],[(11,.var (.agg [d7 zeroH,.sl (some 54) 4 ((Y1 l x mark).map X3)])),(8,.var (.agg [d7 zeroH,.nils])),(6,.var (QU x)),(4,.var (.agg [.u32 545259519,.int 10,.u32 10,.nils,d7 Z9]))]⟩;have hk:k<=(Y1 l x mark).length:=hk;refine W.seq (z6 5 (y5 101 102 103 104 105) (V8 4 6 8 11 17 19 20 105) ⟨mU 20 O O,aU (fU 11 O O),aU fun _ B H K=>R.ldO (K 102 _ O) (B 11 _ O) O H,aU fun _ B H K=>GI (SC.alb (K 103 _ O) (B 11 _ O) O) (lN _) H,aU<|zS O O O,Zt⟩ O O O O ?_);refine z9 O (fun hc105=>?_) (fun hc105=>?_)
   ·refine W.skip (W.seq (W.block ?_));refine W.region (WL.cons O (R.al (gU 19 O) (nU O) dU) (WL.inlT 6 [(11,.rp (.agg [d7 zeroH,.sl none 4 ((Y1 l x mark).map U7)])),(20,.int ((k:Nat):Int))] [(4,.ptr 4 0 []),(6,.ptr 6 0 []),(8,.ptr 8 0 []),(11,.ptr 11 0 []),(17,.sl (some 35) 68 ((heads l).map d7)),(19,.sl (some 26) 32 ((YV (Y1 l x mark) k).map z5)),(20,.int ((k:Nat):Int)),(108,.al 19),(114,z5 (O9 (Y1 l x mark)[k]!))] (.cons (Bor.ptr (gU 11 O) (xU 11 O) O (QZ (⟨zeroH,Y1 l x mark⟩:BlkS)) O) O (.cons (Bp (gV 20 O) O O) O .nil)) (fun C hC0 _ _ hD=>?_) ?_))
    ·have hC:=hC0.trans hC;exact⟨rfl,_,R.fdR (gV 11 rfl) rfl rfl (nU rfl),⟨rfl,_,R.ldR (gV 109 rfl) rfl rfl rfl (nU rfl),⟨rfl,_,R.mov (gV 20 rfl) rfl (nU rfl),⟨rfl,_,R.idxN (k) (SC.sl (gU 110 rfl)) (m2 (gV 111 rfl)) rfl bU (nU rfl) dU,⟨rfl,_,R.ldE (gU 112 rfl) (SC.sl (gU 110 rfl)) (j4 (l:=(Y1 l x mark)) bU) rfl rfl rfl rfl (nU rfl),⟨rfl,_,j5 hC (rid_ok (Y1 l x mark)[k]! (hsm.1 _ (u9 (by omega))).wf) (Bc (Bp (gV 113 rfl) rfl rfl) Bn) (FrsR.one (v8 _)) (nU rfl),⟨[114],[(114,_)],[],136,rfl,rfl,rfl,rfl,rfl,⟨⟨rfl,rfl⟩,⟨rfl,rfl⟩,⟨rfl,rfl⟩,⟨rfl,rfl⟩,⟨rfl,rfl⟩,⟨rfl,rfl⟩,⟨rfl,rfl⟩,⟨rfl,rfl⟩,⟨rfl,rfl,rfl,d9 _⟩,Zt⟩⟩⟩⟩⟩⟩⟩⟩
    ·refine⟨rfl,_,w9 (z:=32) (.cons (gV 114 rfl) .nil) ⟨⟨rfl,rfl,rfl⟩,Zt⟩ rfl (nU rfl) dU,⟨rfl,_,Q6 (Or.inr (gU 108 rfl)) (gU 19 rfl) (SrcO.sc (SC.sl (gU 115 rfl)) (g6 rfl)) (show _=((YV (Y1 l x mark) (k+1)).map z5) from(idsK_app (by omega))) (by simp only[List.length_map,idsK_len hk,List.length_cons,List.length_nil];omega) (nU rfl) dU dU,⟨rfl,_,R.asgO (gU 116 rfl) rfl (nU rfl) dU,⟨[4,6,8,11,17,19,20],[(4,_),(6,_),(8,_),(11,_),(17,_),(19,_),(20,_)],[(11,.var _),(8,.var _),(6,.var _),(4,.var _)],136,rfl,rfl,rfl, ?_⟩⟩⟩⟩;refine j1 3 (y3 106 107 20) (V7 4 6 8 11 17 19 20) ⟨mU 20 O O,aU<|m8 1 O O bU O,aU<|zA O O O,Zt⟩ O O O O ?_;exact⟨⟨(k+1),bU⟩,rfl,(by simp only[];omega)⟩
   ·obtain rfl:k=(Y1 l x mark).length:=by omega
    rw[idsK_all];refine W.exit (W.seq ?_);refine J7 (m:=17) (an:=[0,0,0,4,12,0,32,96,252,0,524,2047,4095,8191,8191,0,49151,131071]) (its:=[.y 118 _,.y 119 _,.y 120 _,.y 121 _,.y 122 _,.y 123 _,.y 124 _,.y 125 _,.y 126 _,.y 127 _,.y 128 _,.y 129 _,.y 117 _,.y 130 _,.y 131 _,.y 21 _,⟨152,.dead,true⟩]) (ks:=[(16,152)]) (kk:=[]) (efs:=[(15,(b1 21)),(16,(b1 21))]) (live:=[8,11,21,131]) (env':=(V4 8 11 21 131)) (nd:=40) (bx1:=(b5 21 11 8 6 4)) hP dU O ⟨⟨159,O⟩,nU O,O,O,O,O⟩ (            ⟨⟨O,nU O,O,fun _ τ hb ht hτ=>R.ldP (hτ 4 _ O) (hb 4 _ O) O O O O ht⟩,⟨⟨O,nU O,O,fun _ τ hb ht hτ=>R.al (hτ 17 _ O) ht dU⟩,⟨⟨O,nU O,O,fun _ τ hb ht hτ=>R.al (hτ 17 _ O) ht dU⟩,⟨⟨O,nU O,O,fun _ τ hb ht hτ=>j5 hC (med13_ok (heads l) (by rw[C8];omega)) (Bc (Bor.sc (SC.al (hτ 120 _ O) (hτ 17 _ O)) (j9 XT)) Bn) (F1 (.u32 _)) ht⟩,⟨⟨O,nU O,O,fun _ τ hb ht hτ=>R.bin (evt (hτ 121 _ O)) (kW (.int .u32 1) (.u32 1) O) O Zt ht⟩,⟨⟨O,nU O,O,fun _ τ hb ht hτ=>R.fdP (hτ 6 _ O) ht⟩,⟨⟨O,nU O,O,fun _ τ hb ht hτ=>R.ldP (hτ 123 _ O) (hb 6 _ O) O O O O ht⟩,⟨⟨O,nU O,O,fun _ τ hb ht hτ=>Z3 (d:=.u32 x.step.toUInt32) (evt (hτ 124 _ O)) O (O) ht⟩,⟨⟨O,nU O,O,fun _ τ hb ht hτ=>R.bin (evt (hτ 122 _ O)) (evt (hτ 125 _ O)) O Zt ht⟩,⟨⟨O,nU O,O,fun _ τ hb ht hτ=>R.al (hτ 19 _ O) ht dU⟩,⟨⟨O,nU O,O,fun _ τ hb ht hτ=>j5 hC (rroot_ok ((Y1 l x mark).map O9) (BI _) (by rw[List.length_map];omega)) (Bc (Bor.sc (SC.al (hτ 127 _ O) (hτ 19 _ O)) (j9 X9)) Bn) (F1 (v8 _)) ht⟩,⟨⟨O,nU O,O,fun _ τ hb ht hτ=>j5 hC (mine_ok (heads l) (NV (heads l)+1+x.step.toUInt32) (M1 n9 ((Y1 l x mark).map O9)) (heads_wf hl) (by rw[C8];omega) (by rw[C8];omega) (DU KA (BI _))) (Bc (Bp (evt (hτ 118 _ O)) O O) (Bc (Bor.sc (SC.al (hτ 119 _ O) (hτ 17 _ O)) (j9 XT)) (Bc (Bp (evt (hτ 126 _ O)) O O) (Bc (Bp (evt (hτ 128 _ O)) O O) (Bc (Bp (kW (.int .u32 200) (.u32 200) O) O O) Bn))))) (frs_mine _ _) ht⟩,⟨⟨O,nU O,O,fun _ τ hb ht hτ=>R.movT (hτ 129 _ O) O ht⟩,⟨⟨O,nU O,O,fun _ τ hb ht hτ=>R.ext (hτ 117 _ O) O O ht⟩,⟨⟨O,nU O,O,fun _ τ hb ht hτ=>R.ext (hτ 117 _ O) O O ht⟩,⟨⟨O,O,⟨O,nU O⟩,(SpE.alloc O (nU O))⟩,⟨⟨O,O,O,(O6 (p:=21) (id:=21) O O O (fun τ hτ=>(evt (hτ 130 _ O))) (by rfl) (by rfl) (by rfl) (by rfl) O)⟩,Zt⟩⟩⟩⟩⟩⟩⟩⟩⟩⟩⟩⟩⟩⟩⟩⟩⟩) O O O (n':=136) O (E9 O O O ⟨[8,11,21,22],(V4 8 11 21 22),(b5 21 11 8 6 4),136,O,O,O, ?_⟩);refine z7 3 (y2 132 133) [] [] (V5 8 11 22 132 133) ⟨aU (lU 21 O O O O O O O),aU (fU 11 O O),Zt⟩ O O (m1 O O O O O (tV (V3 8 11 22) (b5 21 11 8 6 4) 136 O O O ?_));refine z7 4 [] [] [] (V3 8 11 22) Zt O O (⟨O,_,R.ldTake (gU 11 O) (xU 11 O) O O O (nU O),⟨O,_,R.mov (gV 22 O) O (nU O),⟨O,_,G0 (gU 8 O) (xU 8 O) O (gU 134 O) O O (by rfl) (by rfl) O O,(E9 O O O (tV (V2 8 9) (b5 21 11 8 6 4) 136 O O O ?_))⟩⟩⟩);refine W.ret ?_;exact Ends.many (.inr O) (.cons O O O (show LdT _ 72 69 true from inferInstance) (.cons O O O Zt .nil)) (O) (show[(8,false),(9,true)].Nodup by decide)
 ·intro htail;refine W.seq (W.seq ?_);refine u3 (live:=[1,3,4,6,8,11]) (env':=(V6 1 3 4 6 8 11)) (bx':=(b5 11 10 8 6 4)) (n':=136) O O O ?_;refine p9 [4,6,8,11] (bx':=(b4 11 8 6 4)) O O O (j7 hD O) ?_;refine j1 1 (y1 12) (V7 1 3 4 6 8 11 12) ⟨aU<|zK (kI 0 O) O O,Zt⟩ O O O O ?_;refine W.block ?_;refine W.loop (α:={q__:Nat//q__<=min x.spends.length 6}) (fun q__=>⟨136,[(1,.sl none 69 (l.map v9)),(3,.u32 mark),(4,.ptr 4 0 []),(6,.ptr 6 0 []),(8,.ptr 8 0 []),(11,.ptr 11 0 []),(12,.int ((q__.1:Nat):Int))],[(11,.var (.agg [d7 zeroH,.sl (some 54) 4 ((P6 l x mark q__.1).map X3)])),(8,.var (.agg [d7 zeroH,.nils])),(6,.var (QU x)),(4,.var (.agg [.u32 545259519,.int 10,.u32 10,.nils,d7 Z9]))]⟩) (fun q__=>min x.spends.length 6-q__.1) ⟨(0),bU⟩ O ?_;rintro ⟨i,hi⟩;show W _ _ _ _ ⟨136,[(1,.sl none 69 (l.map v9)),(3,.u32 mark),(4,.ptr 4 0 []),(6,.ptr 6 0 []),(8,.ptr 8 0 []),(11,.ptr 11 0 []),(12,.int ((i:Nat):Int))],[(11,.var (.agg [d7 zeroH,.sl (some 54) 4 ((P6 l x mark i).map X3)])),(8,.var (.agg [d7 zeroH,.nils])),(6,.var (QU x)),(4,.var (.agg [.u32 545259519,.int 10,.u32 10,.nils,d7 Z9]))]⟩;have hi:i<=min x.spends.length 6:=hi;have hsm:=grT_sm hl h99 x mark i (by omega);have hlb:=I5 hl h99 (AD UY hsm.1 (by omega));have hthl:=Nat.le_trans (thrS_len hlb) (show 100000000<=1000000000 by decide);refine W.seq (W.seq ?_);by_cases h4:i<x.spends.length
  ·refine j1 9 (y9 47 48 49 50 51 52 53 54 55) (V8 1 3 4 6 8 11 12 55) ⟨mU 12 O O,aU (fU 6 O O),aU (lU 48 O O O O O O O),aU<|zN O (lN _) O,aU<|zS O O O,mU 51 O O,aW O O (gT (dT h4) O)<|zV O O O,aW O O (gT (dT h4) O)<|I7 6 O O O,aU<|zT O (dT h4) O O O,Zt⟩ O O O O ?_;refine z9 O (fun hc55=>?_) (fun hc55=>?_)
   ·refine W.skip (W.seq (W.block ?_));refine W.inl [(1,.sl none 69 (l.map v9)),(3,.u32 mark),(6,.rp (QU x)),(11,.rp (.agg [d7 zeroH,.sl none 4 ((P6 l x mark i).map U7)])),(12,.int ((i:Nat):Int))] (.cons (Bp (gV 1 O) O O) O (.cons (Bp (gV 3 O) O O) O (.cons (Bor.ptr (gU 6 O) (xU 6 O) O (IP x) O) O (.cons (Bor.ptr (gU 11 O) (xU 11 O) O (QZ (⟨zeroH,P6 l x mark i⟩:BlkS)) O) O (.cons (Bp (gV 12 O) O O) O .nil))))) ?_;refine WIn.seqA (σ2:=⟨136,[(3,.u32 mark),(6,.rp (QU x)),(12,.int ((i:Nat):Int)),(13,.sl none 33 ((P7 (l++[(⟨zeroH,P6 l x mark i⟩:BlkS)])).map t4)),(14,.sl none 1 ((P7 (l++[(⟨zeroH,P6 l x mark i⟩:BlkS)])).map l4))],[]⟩) hP (fun C hC0 _ _ hD=>?_) ?_
    ·have hC:=hC0.trans hC;refine WA.draw (m:=12) (an:=[0,0,3,0,8,31,63,127,255,255,511,2047]) dU rfl (its:=[.y 59 _,.y 60 _,.y 61 _,.y 62 _,.y 63 _,.y 64 _,.y 65 _,.y 58 _,.y 66 _,.y 67 _,.y 13 _,.y 14 _]) (ks:=[(2,59),(5,61)]) (kk:=[(2,59),(5,61)]) (live:=[3,6,12,13,14]) (env':=[(3,_),(6,_),(12,_),(13,_),(14,_)]) (⟨nU rfl,rfl,⟨aU fun _ _ H _=>w9 .nil Zt rfl H dU,mU 1 rfl rfl,aU fun _ _ H K=>Q6 (Or.inl rfl) (K 59 _ rfl) (SrcO.sc (SC.sl (K 60 _ rfl)) (p8 (fun _=>rfl))) (List.nil_append _) bU H dU dU,aU fun _ _ H K=>R.ldR (eU K 11 rfl) rfl rfl rfl H,aU fun _ _ H K=>w9 (z:=69) (.cons (eU K 62 rfl) .nil) ⟨⟨rfl,rfl,rfl⟩,Zt⟩ rfl H dU,aU fun _ _ H K=>Q6 (Or.inl rfl) (K 61 _ rfl) (SrcO.sc (SC.sl (K 63 _ rfl)) (g6 rfl)) (show _=((l++[(⟨zeroH,P6 l x mark i⟩:BlkS)]).map v9) from(by rw[List.map_append];rfl)) (by simp only[List.length_map,List.length_cons,List.length_nil];omega) H dU dU,aU fun _ _ H K=>R.callZ (r':=.tup [.sl none 33 ((P7 (l++[(⟨zeroH,P6 l x mark i⟩:BlkS)])).map t4),.sl none 1 ((P7 (l++[(⟨zeroH,P6 l x mark i⟩:BlkS)])).map l4)]) (thr15_ok (l++[(⟨zeroH,P6 l x mark i⟩:BlkS)]) hlb) hC (Bc (Bor.sc (SC.sl (K 64 _ rfl)) (j9 n3)) Bn) (frs_thr _ _ _) (brw_thr _ _ _) H,aU fun _ _ H K=>R.movT (K 65 _ rfl) rfl H,aU fun _ _ H K=>R.ext (K 58 _ rfl) rfl rfl H,aU fun _ _ H K=>R.ext (K 58 _ rfl) rfl rfl H,aU fun _ _ H K=>v3 (eU K 66 rfl) rfl H,aU fun _ _ H K=>v3 (eU K 67 rfl) rfl H,Zt⟩,rfl,rfl,rfl⟩) rfl (bx':=[]) rfl (n':=136) rfl (tV [(3,_),(6,_),(12,_),(13,_),(14,_)] [] 136 rfl rfl rfl ?_);exact⟨rfl,rfl⟩
    ·refine WIn.seq ?_;refine WIn.region 12 [(1,.sl none 69 (l.map v9)),(3,.u32 mark),(4,.ptr 4 0 []),(6,.ptr 6 0 []),(8,.ptr 8 0 []),(11,.ptr 11 0 []),(12,.int ((i:Nat):Int)),(78,X3 (HY x.spends[i]! (P7 (l++[(⟨zeroH,P6 l x mark i⟩:BlkS)])) mark).1),(79,.bool (HY x.spends[i]! (P7 (l++[(⟨zeroH,P6 l x mark i⟩:BlkS)])) mark).2)] (fun C hC0 _ _ hD=>?_) ?_
     ·have hC:=hC0.trans hC;exact⟨rfl,_,R.fdR (gV 6 rfl) rfl rfl (nU rfl),⟨rfl,_,R.ldR (gV 69 rfl) rfl rfl rfl (nU rfl),⟨rfl,_,R.mov (gV 12 rfl) rfl (nU rfl),⟨rfl,_,R.idxN (i) (SC.sl (gU 70 rfl)) (m2 (gV 71 rfl)) rfl bU (nU rfl) dU,⟨rfl,_,R.ldE (gU 72 rfl) (SC.sl (gU 70 rfl)) (j4 (l:=x.spends) bU) rfl rfl rfl rfl (nU rfl),⟨rfl,_,R.mov (gV 13 rfl) rfl (nU rfl),⟨rfl,_,R.mov (gV 14 rfl) rfl (nU rfl),⟨rfl,_,R.mov (gV 3 rfl) rfl (nU rfl),⟨rfl,_,j5 hC (EG x.spends[i]! (P7 (l++[(⟨zeroH,P6 l x mark i⟩:BlkS)])) mark hthl (hto _ (u9 h4))) (Bc (Bp (gV 73 rfl) rfl rfl) (Bc (Bp (gV 74 rfl) rfl rfl) (Bc (Bp (gV 75 rfl) rfl rfl) (Bc (Bp (gV 76 rfl) rfl rfl) Bn)))) (VM _ _) (nU rfl),⟨rfl,_,R.movTO (gU 77 rfl) rfl (nU rfl),⟨rfl,_,R.extO (gU 68 rfl) rfl rfl rfl rfl rfl (nU rfl),⟨rfl,_,R.ext (gU 68 rfl) rfl rfl (nU rfl),⟨[78,79],[(78,_),(79,_)],[],136,rfl,rfl,rfl,rfl,rfl,⟨⟨rfl,rfl⟩,⟨rfl,rfl⟩,⟨rfl,rfl⟩,⟨rfl,rfl⟩,⟨rfl,rfl⟩,⟨rfl,rfl⟩,⟨rfl,rfl⟩,⟨rfl,rfl,rfl,KS _⟩,⟨rfl,rfl,rfl,.bool _⟩,Zt⟩⟩⟩⟩⟩⟩⟩⟩⟩⟩⟩⟩⟩⟩
     ·refine⟨rfl,_,R.alloc rfl (nU rfl),⟨rfl,_,G0 (gU 15 rfl) (xU 15 rfl) rfl (gU 78 rfl) rfl rfl (by rfl) (by rfl) rfl rfl,⟨rfl,_,v3 (gV 79 rfl) rfl (nU rfl),⟨[1,3,4,6,8,11,12,15,16],[(1,_),(3,_),(4,_),(6,_),(8,_),(11,_),(12,_),(15,_),(16,_)],[(15,.var _),(11,.var _),(8,.var _),(6,.var _),(4,.var _)],136,rfl,rfl,rfl, ?_⟩⟩⟩⟩;refine z6 1 (y1 80) (V9 1 3 4 6 8 11 12 15 80) ⟨mU 16 O O,Zt⟩ O O O O ?_;refine W.cond O (fun hc80=>?_) (fun hc80=>?_)
      ·refine c9 7 (y2 81 82) [] [] (V9 1 3 4 6 8 11 12 15 82) ⟨aU (fU 11 O O),aU fun _ B H K=>R.ldO (K 81 _ O) (B 11 _ O) O H,Zt⟩ O O (⟨O,_,R.ldTake (gU 15 O) (xU 15 O) O O O (nU O),⟨O,_,R.bslO (z:=4) (.own (gU 83 O) O O O O .nil) O O (nU O) dU,⟨O,_,GL (gU 82 O) (xU 11 O) O O O O (gU 82 O) (gU 84 O) O (show _=((P6 l x mark (i+1)).map X3) from(grT_app hc80)) (by simp only[List.length_map,List.length_cons,List.length_nil];omega) (nU O) dU dU,⟨O,_,R.fdP (gU 11 O) (nU O),⟨O,_,G0 (gU 86 O) (xU 11 O) O (gU 85 O) O O (by rfl) (by rfl) O O,tV (V7 1 3 4 6 8 11 12) (b5 15 11 8 6 4) 136 O O O ?_⟩⟩⟩⟩⟩);refine p9 [4,6,8,11] (bx':=(b4 11 8 6 4)) O O O (j7 hD O) ?_;refine j1 3 (y3 56 57 12) (V7 1 3 4 6 8 11 12) ⟨mU 12 O O,aU<|m8 1 O O bU O,aU<|zA O O O,Zt⟩ O O O O ?_;exact⟨⟨(i+1),bU⟩,(by first|(dsimp only;rw[grT_n (by rw[hc80];exact Bool.false_ne_true)])|rfl),(by show min x.spends.length 6-(i+1)<min x.spends.length 6-i;omega)⟩
      ·refine W.skip ?_;refine u3 (live:=[1,3,4,6,8,11,12]) (env':=(V7 1 3 4 6 8 11 12)) (bx':=(b5 15 11 8 6 4)) (n':=136) O O O ?_;refine p9 [4,6,8,11] (bx':=(b4 11 8 6 4)) O O O (j7 hD O) ?_;refine j1 3 (y3 56 57 12) (V7 1 3 4 6 8 11 12) ⟨mU 12 O O,aU<|m8 1 O O bU O,aU<|zA O O O,Zt⟩ O O O O ?_;exact⟨⟨(i+1),bU⟩,(by first|(dsimp only;rw[grT_n (by rw[hc80];exact Bool.false_ne_true)])|rfl),(by show min x.spends.length 6-(i+1)<min x.spends.length 6-i;omega)⟩
   ·obtain rfl:i=min x.spends.length 6:=by omega
    refine W.exit ?_;refine u3 (live:=[1,4,6,8,11]) (env':=(V5 1 4 6 8 11)) (bx':=(b4 11 8 6 4)) (n':=136) O O O ?_;exact htail _ ⟨⟨(()),Zt⟩,rfl⟩
  ·refine j1 9 [.y 47 _,.y 48 _,.y 49 _,.y 50 _,.y 51 _,.y 52 _,.x 53,.x 54,.y 55 _] (V8 1 3 4 6 8 11 12 55) ⟨mU 12 O O,aU (fU 6 O O),aU (lU 48 O O O O O O O),aU<|zN O (lN _) O,aU<|zS O O O,mU 51 O O,aF O O (gF (dF h4) O),aF O O (gF (dF h4) O),aU<|MQ O (dF h4) (kB false O) O O,Zt⟩ O O O O ?_;refine g9 O (O) ?_
   obtain rfl:i=min x.spends.length 6:=by omega
   refine W.exit ?_;refine u3 (live:=[1,4,6,8,11]) (env':=(V5 1 4 6 8 11)) (bx':=(b4 11 8 6 4)) (n':=136) O O O ?_;exact htail _ ⟨⟨(()),Zt⟩,rfl⟩
end Go.Sx

namespace Go.Sx
theorem LK(n:Nat):D.u32 (UInt32.ofInt ((n:Nat):Int))=.u32 (UInt32.ofNat n):=by
 congr 1
 unfold UInt32.ofInt;apply UInt32.toNat_inj.1;rw[UInt32.toNat_ofNat',UInt32.toNat_ofNat'];omega
theorem IT(h:HdS):Wk (.sl (some 72) 69 [.agg [d7 h,.nils]]) (.sl (some 72) 69 ([(⟨h,[]⟩:BlkS)].map v9)):=
 .slL (.cons (.aggL (.cons (.refl _) (.cons (.nils _ _) .nil))) .nil)
theorem ZM(b:BlkS)(c:Bool):D.brwR (.tup [QK b,.bool c])=.tup [v9 b,.bool c]:=by
 show D.tup [(QK b).brw,.bool c]=_;rw[QZ]
def CM(ps:List PlS):Prop:=∀ x∈ps,∀ s∈x.spends,s.to.length<=140737488355328
section
variable{ps:List PlS}{i:Nat}
theorem PM(h:(j8 (J3 ps i) ps[i]! (UInt32.ofNat i)).2=false):J3 ps (i+1)=J3 ps i:=by rw[J3,if_neg (by rw[h];exact Bool.false_ne_true)]
theorem AH(h:(j8 (J3 ps i) ps[i]! (UInt32.ofNat i)).2=true):(J3 ps i).map v9++[v9 (j8 (J3 ps i) ps[i]! (UInt32.ofNat i)).1]=(J3 ps (i+1)).map v9:=by
 rw[J3,if_pos h,List.map_append];rfl
end
theorem AX(o:Option Nat)(z:Nat)(l:List BlkS):(D.sl o z (l.map v9)).brw=.sl none z (l.map v9):=by
 simp only[D.brw,d5];rw[j9 n3]
end Go.Sx

namespace Go.Sx
variable{P:Program}{C:Ctx}{σ σ' σ1:Sg}{a:Act}{w w':World}{ρ:Nat->Nat}{Fe Fe' Fb:Nat->List Nat}
variable{κ α:Type}[DecidableEq κ]
structure KeyD(P:Program)(kd:κ->D):Prop where
 same:∀ (w:World) (ρ:Nat->Nat) (G L:Nat->Prop) (k:κ) (v v':Value) (F F':List Nat),VR w ρ G L (kd k) v F->VR w ρ G L (kd k) v' F'->Instr.sameBits 10000 v v'=true
section
variable{ops:List Oper}{an:List Nat}{ks kk:List (Nat×Nat)}{its:List It}
end
omit [DecidableEq κ] in
theorem renMp{m:Nat->Nat}{kd:κ->D}{f:α->D}(h1:∀ a,(kd a).ren m=kd a)(h2:∀ u,(f u).ren m=f u)(M:List (κ×α))(i:Nat)(r:List (Nat×Bx)):u1 m ((i,z8 kd f M)::r)=(m i,z8 kd f M)::u1 m r:=by
 have e:(M.map fun e=>(kd e.1,f e.2)).map (fun kv=>(kv.1.ren m,kv.2.ren m))=M.map fun e=>(kd e.1,f e.2):=by
  rw[List.map_map]
  exact List.map_congr_left fun e _=>by simp[h1,h2]
 simp only[u1,z8,Bx.ren,e]
end Go.Sx

namespace Go.Sx
open Go.Proofs
theorem G6:KeyC Tryd.prog 60 q7 3 where
 s:=⟨_,Tryd.underlying60,trivial⟩
 eq:=fun a b=>by
  have h:=G8 a b
  have e:(@BEq.beq Plc instBEqProd a b)=(@BEq.beq Plc instBEqOfDecidableEq a b):=by
   rw[Bool.eq_iff_iff,@beq_iff_eq Plc instBEqProd _ a b,@beq_iff_eq Plc instBEqOfDecidableEq _ a b]
  rw[<- e];exact h
 ck:=fun a=>CkV.struct (k:=2) Tryd.underlying60 (.cons rfl rfl inferInstance rfl rfl (CkV.arr a.1) (.cons rfl rfl inferInstance rfl rfl (CkV.more (CkV.u32 Tryd.underlying32 a.2)) .nil))
 n:=rfl
 p:=fun _=>rfl
theorem KH{w:World}{ρ:Nat->Nat}{G L:Nat->Prop}{p:Bool}{n:Nat}{h:List UInt8}{cs:List Value}{F:List Nat}(hr:Rc w ρ G L p (.arr n 1 (h.map D.u8)) cs F):cs=h.map fun b=>Value.int .u8 b.toNat:=by
 cases hr with
 | arr _ _ _ _ hl hs hr=>
  rw[List.length_map] at hl;refine List.ext_getElem (by rw[hs,List.length_map];omega) fun i h1 h2=>?_
  have hi:i<h.length:=by simpa using h2
  have:=hr i (by simpa using hi);rw[List.getElem_map] at this
  have e:(cs.drop (i*1)).take 1=[cs[i]]:=by
   rw[Nat.mul_one,List.drop_eq_getElem_cons h1];rfl
  rw[e] at this;rw[List.getElem_map];generalize cs[i]=v at this;cases this;rfl
theorem DH{w:World}{ρ:Nat->Nat}{G L:Nat->Prop}{p:Bool}{k:Plc}{cs:List Value}{F:List Nat}(hr:Rc w ρ G L p (q7 k) cs F):cs=(k.1.map fun b=>Value.int .u8 b.toNat)++[.int .u32 k.2.toNat]:=by
 cases hr with
 | agg _ _ Fs hs hr=>
  have h0:=hr 0 (by simp);have h1:=hr 1 (by simp);have e0:offk [z5 k.1,D.u32 k.2] 0=0:=rfl;have e1:offk [z5 k.1,D.u32 k.2] 1=32:=rfl;simp only[List.getElem_cons_zero,List.getElem_cons_succ,e0,e1,List.drop_zero] at h0 h1;have hs':cs.length=33:=hs;have q0:=KH h0
  have q1:(cs.drop 32).take 1=[.int .u32 k.2.toNat]:=by
   have e2:(D.u32 k.2).sz=1:=rfl;rw[e2] at h1;generalize (cs.drop 32).take 1=c at h1;generalize Fs 1=F1 at h1;cases h1;rfl
  have e3:(z5 k.1).sz=32:=rfl;rw[e3] at q0;have e4:(cs.drop 32).take 1=cs.drop 32:=List.take_of_length_le (by rw[List.length_drop];omega);rw[e4] at q1;rw[<- q0,<- q1,List.take_append_drop]
theorem DX:∀ (l:List Value),(∀ v∈l,∃ k n,v=.int k n)->((l.zip l).all fun(x,y)=>Instr.sameBits 9999 x y)=true:=by
 intro l
 induction l with
 | nil=>intro _;rfl
 | cons v l ih=>
  intro h;obtain⟨k,n,rfl⟩:=h v (by simp);have hl:=ih fun v hv=>h v (by simp[hv]);simp only[List.zip_cons_cons,List.all_cons,hl,Bool.and_true];simp[Instr.sameBits]
theorem UT:KeyD Tryd.prog q7 where
 same:=fun w ρ G L k v v' F F' h h'=>by
  have a1:(q7 k).isAgg=true:=rfl;simp only[VR,a1,if_true] at h h';obtain⟨cs,rfl,h⟩:=h;obtain⟨cs',rfl,h'⟩:=h';have q:=DH h;have q':=DH h';have e:cs=cs':=Array.toList_inj.1 (q.trans q'.symm);subst e;show Instr.sameBits (9999+1) _ _=true;simp only[Instr.sameBits,beq_self_eq_true,Bool.true_and];refine DX _ fun v hv=>?_;rw[q] at hv
  rcases List.mem_append.1 hv with hv|hv
  ·obtain⟨b,_,rfl⟩:=List.mem_map.1 hv;exact⟨_,_,rfl⟩
  ·rw[List.mem_singleton.1 hv];exact⟨_,_,rfl⟩
theorem NY(m:Nat->Nat)(h:Hs):(z5 h).ren m=z5 h:=by
 simp only[z5,D.ren,B4,List.map_map,Function.comp_def]
theorem LF(m:Nat->Nat)(k:Plc):(q7 k).ren m=q7 k:=by
 simp only[q7,D.ren,D.rens,NY]
structure PvS where
 h:Int
 head:Hs
 at_:Int
 id:Hs
 raw:List UInt8
 br:List Hs
 t:TxS
 deriving Inhabited
abbrev AL:=Int×Hs
def JV(e:AL):D:=.agg [.int e.1,z5 e.2]
abbrev HZ:=Plc×UInt64×Int
def U8(u:HZ):D:=.agg [q7 u.1,.u64 u.2.1,.int u.2.2]
def c7(k:UInt8):Hs:=JA (t6 k)
def paysR(o:OutS)(sc:Hs):Bool:=JA o.script==sc
def orO(t:TxS)(sc:Hs)(k:Nat):Bool:=(List.range k).any fun j=>paysR t.outs[j]! sc
def inP(all:List StS)(i:Nat)(x:InS)(sc:Hs):Bool:=match prvO all i (plc x) with
 | some o=>paysR o sc
 | none=>false
def orI(all:List StS)(i:Nat)(sc:Hs)(k:Nat):Bool:=(List.range k).any fun j=>inP all i all[i]!.t.ins[j]! sc
def isT(all:List StS)(i:Nat)(sc:Hs):Bool:=orO all[i]!.t sc all[i]!.t.outs.length||orI all i sc all[i]!.t.ins.length
def hstI(all:List StS)(sc:Hs):Nat->List AL
 | 0=>[]
 | i+1=>if isT all i sc=true then hstI all sc i++[(((all[i]!.h:Nat):Int),all[i]!.id)] else hstI all sc i
def histS(l:List BlkS)(sc:Hs):List AL:=hstI (b9 l) sc (b9 l).length
end Go.Sx

namespace Go.Sx
def hasT(es:List AL)(id:Hs)(j:Nat):Bool:=(List.range j).any fun q=>es[q]!.2==id
def kyT(l:List BlkS)(ks:List UInt8)(id:Hs)(k:Nat):Bool:=(List.range k).any fun q=>hasT (histS l (c7 (ks[q]!%12))) id (histS l (c7 (ks[q]!%12))).length
def touI(l:List BlkS)(ks:List UInt8):Nat->List StS
 | 0=>[]
 | i+1=>if kyT l ks (b9 l)[i]!.id ks.length=true then touI l ks i++[(b9 l)[i]!] else touI l ks i
theorem NS{b:Bool}(h:(!b)=false):b=true:=by cases b;cases h;rfl
theorem LV{b:Bool}(h:(!b)=true):b=false:=by cases b;rfl;cases h
section
variable{l:List BlkS}{ks:List UInt8}{i:Nat}
end
theorem XI(e z:Nat)(l:List AL):FrsR (.sl (some e) z (l.map JV)):=.inr ⟨fun ds e=>(by cases e),.sl _ _ _ (u2 fun x=>.agg _ (X7 (.int _) (d9 _)))⟩
theorem ZY(e z:Nat)(l:List HZ):FrsR (.sl (some e) z (l.map U8)):=.inr ⟨fun ds e=>(by cases e),.sl _ _ _ (u2 fun x=>.agg _ (fun y hy=>by
 simp only[List.mem_cons,List.not_mem_nil,or_false] at hy
 rcases hy with rfl|rfl|rfl
 ·exact .agg _ (X7 (d9 _) (.u32 _))
 ·exact .u64 _
 ·exact .int _))⟩
theorem ZN(e:AL):(JV e).brw=JV e:=by simp only[JV,D.brw,d5,List.map_cons,List.map_nil,X9]
theorem SU(e:HZ):(U8 e).brw=U8 e:=by simp only[U8,q7,D.brw,d5,List.map_cons,List.map_nil,X9]
def nK(n:Nat):UInt32:=UInt32.ofInt ((n:Nat):Int)
def blI(u:List HZ):Nat->UInt64
 | 0=>0
 | i+1=>blI u i+u[i]!.2.1
def blS(u:List HZ):UInt64:=blI u u.length
section
variable{l:List PvS}{p:PvS}{sc:Hs}{n i k:Nat}{t:TxS}{ks:List Plc}
end
theorem QI{k:Nat}(h:k<=1000):(nK k).toNat=k:=by
 unfold nK UInt32.ofInt;rw[UInt32.toNat_ofNat'];omega
open Go.Proofs
instance:MkT Tryd.prog 94 60 3:=⟨Tryd.underlying94⟩
theorem eqv_ent(a b:AL):EqV Tryd.prog 3 58 (JV a) (JV b) (a==b):=by
 have h1:∀ x y:Int,EqV Tryd.prog 2 3 (.int x) (.int y) (x==y):=fun x y=>(EqV.int Tryd.underlying3 x y).up 1;have hh:∀ x y:Hs,EqV Tryd.prog 2 26 (z5 x) (z5 y) (x==y):=fun x y=>EqV.arr x y;have:=EqV.struct (k:=2) Tryd.underlying58 (by kernel_rfl) (.cons rfl rfl inferInstance rfl rfl rfl rfl (h1 a.1 b.1) (.cons rfl rfl inferInstance rfl rfl rfl rfl (hh a.2 b.2) .nil));rw[Bool.and_true] at this;exact this
theorem eqv_uns(a b:HZ):EqV Tryd.prog 4 62 (U8 a) (U8 b) (a==b):=by
 have h1:∀ x y:Int,EqV Tryd.prog 3 3 (.int x) (.int y) (x==y):=fun x y=>(EqV.int Tryd.underlying3 x y).up 2;have h2:∀ x y:UInt64,EqV Tryd.prog 3 48 (.u64 x) (.u64 y) (x==y):=fun x y=>(EqV.u64 Tryd.underlying48 x y).up 2;have:=EqV.struct (k:=3) Tryd.underlying62 (by kernel_rfl) (.cons rfl rfl inferInstance rfl rfl rfl rfl (G8 a.1 b.1) (.cons rfl rfl inferInstance rfl rfl rfl rfl (h2 a.2.1 b.2.1) (.cons rfl rfl inferInstance rfl rfl rfl rfl (h1 a.2.2 b.2.2) .nil)));rw[Bool.and_true] at this;exact this
end Go.Sx

namespace Go.Sx
open Go.Proofs
def T2(l:List InS):Nat->List (Plc×Int)
 | 0=>[]
 | i+1=>T2 l i++[(plc l[i]!,((i:Nat):Int))]
def QH(l:List OutS):Nat->UInt64
 | 0=>0
 | i+1=>QH l i+l[i]!.value
def mayP(t:TxS):Prop:=
 t.ins.length≠0/\t.outs.length≠0/\(∀ i<t.ins.length,c4 (T2 t.ins i) (plc t.ins[i]!)=false)/\(∀ i<t.outs.length,¬ 2100000000000000<t.outs[i]!.value/\¬ 2100000000000000<QH t.outs (i+1))/\(NG t).length<=16384
instance(t:TxS):Decidable (mayP t):=by unfold mayP;infer_instance
def L8(t:TxS):Bool:=decide (mayP t)
theorem may_f1{t:TxS}(h:t.ins.length=0):L8 t=false:=decide_eq_false fun hm=>hm.1 h
theorem may_f2{t:TxS}(h:t.outs.length=0):L8 t=false:=decide_eq_false fun hm=>hm.2.1 h
theorem may_f3{t:TxS}{i:Nat}(hi:i<t.ins.length)(h:c4 (T2 t.ins i) (plc t.ins[i]!)=true):L8 t=false:=decide_eq_false fun hm=>by have:=hm.2.2.1 i hi;rw[h] at this;cases this
theorem may_f4{t:TxS}{i:Nat}(hi:i<t.outs.length)(h:2100000000000000<t.outs[i]!.value):L8 t=false:=decide_eq_false fun hm=>(hm.2.2.2.1 i hi).1 h
theorem may_f5{t:TxS}{i:Nat}(hi:i<t.outs.length)(h:2100000000000000<QH t.outs (i+1)):L8 t=false:=decide_eq_false fun hm=>(hm.2.2.2.1 i hi).2 h
theorem may_fin{t:TxS}(h1:¬ t.ins.length=0)(h2:¬ t.outs.length=0)(h3:∀ i<t.ins.length,c4 (T2 t.ins i) (plc t.ins[i]!)=false)
 (h4:∀ i<t.outs.length,¬ 2100000000000000<t.outs[i]!.value/\¬ 2100000000000000<QH t.outs (i+1)):L8 t=decide ((NG t).length<=16384):=by
 unfold L8 mayP;simp only[ne_eq,h1,h2,not_false_eq_true,true_and,decide_eq_decide];exact⟨fun h=>h.2.2,fun h=>⟨h3,h4,h⟩⟩
end Go.Sx

namespace Go.Sx
open Go.Proofs
theorem QD(k:UInt8):Fn Tryd.prog gl 11 [.u8 k] (z5 (c7 k)):=by
 refine Fn.of (n:=6) Tryd.func11 rfl rfl rfl (Nat.le_of_ble_eq_true rfl) fun C hC hD=>?_;refine W.seq ?_;refine JX (n:=1) (by decide) (its:=[]) (ks:=[]) (kk:=[]) (live:=[0]) (env':=[(0,_)])
  (⟨Nat.le_of_ble_eq_true rfl,rfl,
   trivial,rfl,rfl,rfl⟩)
  rfl (bx':=[]) rfl (n':=6) rfl (⟨rfl,_,R.alloc rfl (Nat.le_of_ble_eq_true rfl),⟨[0,2],[(0,_),(2,_)],[(2,.var _)],6,rfl,rfl,rfl, ?_⟩⟩)
 refine W.seq ?_;refine JX (n:=4) (by decide) (its:=[⟨3,_,true⟩,⟨4,_,true⟩,⟨5,_,true⟩]) (ks:=[]) (kk:=[]) (live:=[2,5]) (env':=[(2,_),(5,_)])
  (⟨Nat.le_of_ble_eq_true rfl,rfl,
   ⟨⟨rfl,rfl,fun _ τ hb ht hτ=>R.mov (evt (hτ 0 _ rfl)) rfl ht⟩,
   ⟨⟨rfl,rfl,fun _ τ hb ht hτ=>j5 hC (YI k) (Bors.cons (Bor.pur (evt (hτ 3 _ rfl)) rfl rfl) Bors.nil) (FrsR.one (B0 _)) ht⟩,
   ⟨⟨rfl,rfl,fun _ τ hb ht hτ=>j5 hC (XU (t6 k) (by rw[YF];decide)) (Bors.cons (Bor.sc (SC.sl (hτ 4 _ rfl)) (j9 (fun _=>rfl))) Bors.nil) (FrsR.one (v8 _)) ht⟩,
   trivial⟩⟩⟩,rfl,rfl,rfl⟩)
  rfl (bx':=[(2,.var _)]) rfl (n':=6) rfl (⟨rfl,_,r6 (show Sg.get _ 2=some _ from rfl) (show Sg.box _ 2=some _ from rfl) rfl (evt (show Sg.get _ 5=some _ from rfl)) (by rfl) (by rfl) (by rfl) (by rfl) rfl,⟨[2],[(2,_)],[(2,.var _)],6,rfl,rfl,rfl, ?_⟩⟩)
 refine W.ret ?_;exact Ends.one' (.inr rfl) rfl (rfl) rfl rfl (show LdT _ 26 32 true from inferInstance)
end Go.Sx

namespace Go.Sx
open Go.Proofs
end Go.Sx

namespace Go.Sx
open Go.Proofs
end Go.Sx

namespace Go.Sx
section
variable{α:Type}[Inhabited α][BEq α][LawfulBEq α]{a b:List α}
omit [Inhabited α] in
theorem DF(h:a.length≠b.length):(a==b)=false:=by
 rw[beq_eq_false_iff_ne];intro e;exact h (by rw[e])
theorem OQ{i:Nat}(hi:i<a.length)(hl:a.length=b.length)(h:(a[i]! == b[i]!)=false):(a==b)=false:=by
 rw[beq_eq_false_iff_ne];intro e;rw[beq_eq_false_iff_ne] at h;exact h (by rw[e])
theorem OZ(hl:a.length=b.length)(h:∀ q<a.length,a[q]! = b[q]!):(a==b)=true:=by
 rw[beq_iff_eq];refine List.ext_getElem hl fun i h1 h2=>?_;have:=h i h1
 rwa [getElem!_pos a i h1,getElem!_pos b i h2] at this
end
end Go.Sx

namespace Go.Sx
variable{P:Program}{C:Ctx}{σ σ' σ1:Sg}{a:Act}{w w':World}{ρ:Nat->Nat}{Fe Fe' Fb:Nat->List Nat}
variable{κ α:Type}[DecidableEq κ]
def YL(m:List (κ×α))(k:κ)(u:α):List (κ×α):=if K6 m k<m.length then m.set (K6 m k) (k,u) else m++[(k,u)]
theorem OK{m:List (κ×α)}{k:κ}(h:K6 m k<m.length):m[K6 m k].1=k:=by
 have h1:(fun e:κ×α=>e.1==k) m[m.findIdx (fun e:κ×α=>e.1==k)]=true:=List.findIdx_getElem (w:=h);exact beq_iff_eq.1 h1
theorem YS{m:List (κ×α)}{k:κ}:c4 m k=true↔∃ e∈m,e.1=k:=by
 unfold c4;rw[List.any_eq_true];constructor
 ·rintro ⟨e,he,h⟩;exact⟨e,he,by simpa using h⟩
 ·rintro ⟨e,he,h⟩;exact⟨e,he,by simpa using h⟩
theorem YR(m:List (κ×α))(k:κ)(u:α)(k':κ):c4 (YL m k u) k'=(k==k'||c4 m k'):=by
 rw[Bool.eq_iff_iff,Bool.or_eq_true,YS,YS,beq_iff_eq];unfold YL;split
 ·rename_i hi;constructor
  ·rintro ⟨e,he,h⟩
   rcases List.mem_or_eq_of_mem_set he with h1|h1
   ·exact .inr ⟨e,h1,h⟩
   ·rw[h1] at h;exact .inl h
  ·rintro (rfl|⟨e,he,rfl⟩)
   ·exact⟨(k,u),List.mem_set hi _,rfl⟩
   ·by_cases hk:e.1=k
    ·exact⟨(k,u),List.mem_set hi _,hk.symm⟩
    ·obtain⟨j,hj,rfl⟩:=List.mem_iff_getElem.1 he;refine⟨m[j], ?_,rfl⟩;have hne:K6 m k≠j:=fun e=>hk (by subst e;exact OK hi);refine List.mem_iff_getElem.2 ⟨j,by simpa using hj, ?_⟩;rw[List.getElem_set_ne hne]
 ·constructor
  ·rintro ⟨e,he,h⟩
   rcases List.mem_append.1 he with h1|h1
   ·exact .inr ⟨e,h1,h⟩
   ·rw[List.mem_singleton.1 h1] at h;exact .inl h
  ·rintro (rfl|⟨e,he,h⟩)
   ·exact⟨(k,u),by simp,rfl⟩
   ·exact⟨e,List.mem_append_left _ he,h⟩
theorem R.mupdU{kd:κ->D}{f:α->D}{m:List (κ×α)}{n:Nat}{p id:Nat}{x y:Operand}{k:κ}{u:α}{dk dv:D}{ty kt et rt:TypeId}{pos:String}{aft:Array Edge}{g:Option (Nat×Bool)}[hT:MkT P ty kt et]
 (H:KeyC P kt kd n) (H2:KeyD P kd) (h:σ.get p=some (.map id)) (hb:σ.box id=some (z8 kd f m)) (hx:ev C.gl σ x=some dk) (hdk:dk=kd k) (hy:ev C.gl σ y=some dv) (hd:dv=f u) (hp:dv.pur=true) :
 OpS P C ⟨none,.mapUpdate ty (.tmp p) x y,rt,pos,aft,g⟩ σ (σ.putB id (z8 kd f (YL m k u))):=by
 by_cases hin:K6 m k<m.length
 ·have he:YL m k u=m.set (K6 m k) (k,u):=if_pos hin;rw[he];subst hdk;subst hd;refine OpS.skip rfl fun a w ⟨ρ,Fe,Fb,st⟩=>?_;have hpm:=YP st h;obtain⟨Fx,hvx,_⟩:=c3 st hx (c6 (H.p k));have hF0:=hvx.pur (H.p k);rw[hF0] at hvx;obtain⟨Fy,hvy,_⟩:=c3 st hy (c6 hp);have hFy:=hvy.pur hp;rw[hFy] at hvy;obtain⟨hF,es,h2,h3,h4⟩:=BC (st.bx _ _ hb);have hfk:=H.findKey hvx es.toList m (by simpa using h3) (fun j hj=>by have:=(h4 j hj).1;simpa [Array.getD_eq_getD_getElem?] using this);obtain⟨q1,q2,q3⟩:=h4 _ hin
  have hsz:K6 m k<es.size:=by omega
  have hgd:es.getD (K6 m k) default=es[K6 m k]:=by simp[Array.getD_eq_getD_getElem?,hsz]
  rw[hgd,OK hin] at q1;have hsame:=H2.same w ρ _ _ k _ _ _ _ q1 hvx
  have st2:=st.putMk (es:=es.modify (K6 m k) fun e=>{ e with key:=a.eval x,val:=a.eval y }) (m':=m.set (K6 m k) (k,u)) hb (by simpa using h3) (fun j hj=>by
   have hj':j<m.length:=by simpa using hj
   obtain⟨r1,r2,r3⟩:=h4 j hj'
   have hjs:j<es.size:=by omega
   have hgj:es.getD j default=es[j]:=by simp[Array.getD_eq_getD_getElem?,hjs]
   rw[hgj] at r1 r2 r3;rw[Array.getD_eq_getD_getElem?,Array.getElem?_eq_getElem (by simpa using hjs),Option.getD_some,Array.getElem_modify,List.getElem_set];by_cases hij:K6 m k=j
   ·subst hij;simp only[if_true];exact⟨hvx,hvy,r3⟩
   ·simp only[hij,if_false]
    exact⟨r1,r2,r3⟩)
  refine⟨_, ?_,ρ,Fe,_,st2⟩;unfold execOp;simp[Instr.mapUpdate,run_underlying hT.u,w3 hpm,MapKept.run_getObj_map h2,H.check hvx,hfk,hin,Instr.keyThatStays,hsame,hsz,MapKept.run_setObj_map _ h2]
 ·have he:YL m k u=m++[(k,u)]:=if_neg hin;rw[he];refine R.mupdN H h hb hx hdk hy hd hp ?_
  cases hh:c4 m k with
  | false=>rfl
  | true=>exact absurd ((XA m k).2 hh) hin
theorem St.frzBP{id:Nat}{d d':D}{ids:List Nat}{bx':List (Nat×Bx)}{env':List (Nat×D)}(hb0:σ.box id=some (.var d))(he:d.brw=d')(hnp:d'.np=true)(hid:u6 ids id=false)(hb:n8 ids σ.bx=bx')
 (hE:FW id d' σ.env=env') (hoE:C0 ids env'=true) (hoB:A3 ids bx') (hpn:∀ id b,C.pin id=some b->u6 ids id=true) (hs:St C σ a w):St C ⟨σ.n,env',bx'⟩ a w:=by
 obtain⟨ρ,Fe,Fb,st⟩:=hs
 have hl:∀ u,lk bx' u=if u6 ids u then σ.box u else none:=fun u=>by rw[<- hb];exact Y0 ids σ.bx u
 have hsub:∀ id,∀ b∈(if u6 ids id then Fb id else[]),b∈Fb id:=fun id b hm=>by split at hm;exact hm;cases hm
 have hown:∀ b,own Fe (fun id=>if u6 ids id then Fb id else[]) b->own Fe Fb b:=fun b hb=>hb.imp (fun h=>h) fun⟨i,hi⟩=>⟨i,hsub i b hi⟩
 have hgd:∀ b,gd C Fe Fb b->gd C Fe (fun id=>if u6 ids id then Fb id else[]) b:=fun b hb=>⟨hb.1,fun hc=>hb.2 (hown b hc)⟩
 have hgd2:∀ b∈Fb id,gd C Fe (fun id=>if u6 ids id then Fb id else[]) b:=fun b hb=>⟨st.okO b (.inr ⟨id,hb⟩),by
  rintro (⟨u,hu⟩|⟨i,hi⟩)
  ·exact st.dEB u id b hu hb
  ·by_cases hii:i=id
   ·subst hii;simp[hid] at hi
   ·exact st.dBB i id hii b (hsub i b hi) hb⟩
 have hL:∀ i,(u6 ids i=true/\(σ.box i).isSome)->(lk bx' i).isSome:=fun i ⟨h1,h2⟩=>by rw[hl,if_pos h1];exact h2
 refine⟨ρ,Fe,(fun id=>if u6 ids id then Fb id else[]),{
  size:=st.size
  defs:=st.defs
  pin:=fun id b hp=>⟨(st.pin id b hp).1,hL id ⟨hpn id b hp,(st.pin id b hp).2⟩⟩
  env:=fun t x hx=>?_
  envN:=fun t ht=>?_
  bx:=fun i b hd=>?_
  bxN:=fun i hn=>?_
  nodE:=st.nodE
  nodB:=fun id=>by show(if u6 ids id then Fb id else[]).Nodup;split;exact st.nodB id;exact List.nodup_nil
  dEE:=st.dEE
  dEB:=fun t i b hb hm=>st.dEB t i b hb (hsub i b hm)
  dBB:=fun i i' hne b hb hm=>st.dBB i i' hne b (hsub i b hb) (hsub i' b hm)
  new:=fun b hb=>st.new b (hown b hb)
  kept:=st.kept
  os:=st.os
  tape:=⟨st.tape.tp,st.tape.dr⟩
  output:=st.output
  grown:=st.grown
  gl:=st.gl
  okN:=st.okN
  okO:=fun b hb=>st.okO b (hown b hb) }⟩
 ·have hx0:lk env' t=some x:=hx;have hok:=D9 hoE hx0;rw[<- hE,XN,Option.map_eq_some_iff] at hx0;obtain⟨x0,hx1,hx2⟩:=hx0
  rcases GH id d' x0 with ⟨rfl,hf⟩|hf
  ·rw[hf] at hx2;subst hx2;obtain⟨v,hv,hr⟩:=(j2 rfl).1 (st.env t _ hx1);refine(j2 rfl).2 ⟨v,hv, ?_⟩;simp only[VR,D.isAgg,Bool.false_eq_true,if_false] at hr ⊢;generalize Fe t=F at hr ⊢;cases hr;obtain⟨cs,e,F',q1,q2,q3⟩:=st.bx id _ hb0;have h4:=q2.brw (G':=gd C Fe (fun id=>if u6 ids id then Fb id else[])) (fun b hb=>hgd2 b (by rw[q3];exact List.mem_cons_of_mem _ hb)) (fun b hb _=>hgd b hb);have hlen:=q2.len;rw[he] at h4
   have hsz:d'.sz=d.sz:=by rw[<- he,KX]
   refine .rp d' (ρ id) 0 cs e (0,0) q1 (hgd2 _ (by rw[q3];simp)) (by rw[hsz];simp at hlen;omega) ?_
   have hcs:(cs.toList.drop 0).take d'.sz=cs.toList:=by rw[hsz,<- hlen,List.drop_zero];exact List.take_length
   rw[hcs];exact(h4.unflag hnp).noL
  ·rw[hf] at hx2;subst hx2;exact(st.env t _ hx1).okB hok (fun b hb _=>hgd b hb) hL
 ·have ht':lk env' t=none:=ht;rw[<- hE,XN,Option.map_eq_none_iff] at ht';exact st.envN t ht'
 ·have hok:=M9 hoB hd;have h1:=hl i;by_cases hm:u6 ids i=true
  ·rw[if_pos hm] at h1
   have h2:σ.box i=some b:=by rw[<- h1];exact hd
   have hF':(if u6 ids i then Fb i else[])=Fb i:=if_pos hm;show BR w ρ _ _ (ρ i) b (if u6 ids i then Fb i else[]);rw[hF'];exact((st.bx i b h2).okB hok).mono (fun _ _ _=>rfl) (fun b hb _=>hgd b hb) (fun i hi=>⟨hL i hi,rfl⟩)
  ·rw[if_neg hm] at h1;rw[show lk bx' i=some b from hd] at h1;cases h1
 ·have h1:=hl i;by_cases hm:u6 ids i=true
  ·rw[if_pos hm] at h1;simp only[hm,if_true];exact st.bxN i (by rw[<- h1];exact hn)
  ·simp[hm]
theorem SS{c:Code}{Q:Exit->Sg->Prop}(id:Nat){d d':D}(ids:List Nat){bx':List (Nat×Bx)}{env':List (Nat×D)}(hb0:σ.box id=some (.var d))(he:d.brw=d')(hnp:d'.np=true)(hid:u6 ids id=false)(hb:n8 ids σ.bx=bx')
 (hE:FW id d' σ.env=env') (hoE:C0 ids env'=true) (hoB:A3 ids bx') (hpn:∀ id b,C.pin id=some b->u6 ids id=true) (h:W P C c Q ⟨σ.n,env',bx'⟩):W P C c Q σ:=
 fun a w hs=>h a w (St.frzBP hb0 he hnp hid hb hE hoE hoB hpn hs)
end Go.Sx

namespace Go.Sx
abbrev GR:=UInt64×Hs
def g0(o:GR):D:=.agg [.u64 o.1,z5 o.2]
def q9(_:Unit):D:=.agg []
def z0B:GR:=(0,zero32)
structure BkS where
 outs:List (Plc×GR)
 spent:List (Plc×Unit)
 ids:List (Hs×Unit)
def bk0:BkS:=⟨[],[],[]⟩
def gSp(m:List (Plc×Unit))(l:List InS):Nat->List (Plc×Unit)
 | 0=>m
 | i+1=>YL (gSp m l i) (plc l[i]!) ()
def FI(m:List (Plc×GR))(id:Hs)(l:List OutS):Nat->List (Plc×GR)
 | 0=>m
 | k+1=>YL (FI m id l k) (id,nK k) (l[k]!.value,S9 l[k]!.script)
def HR(b:BkS)(t:TxS):List (Plc×Unit):=if m9 t=true then b.spent else gSp b.spent t.ins t.ins.length
def R0(b:BkS)(id:Hs)(t:TxS):BkS:=if c4 b.ids id=true then⟨b.outs,HR b t,b.ids⟩ else⟨FI b.outs id t.outs t.outs.length,HR b t,YL b.ids id ()⟩
theorem FA{b:BkS}{id:Hs}{t:TxS}(h:c4 b.ids id=true):R0 b id t=⟨b.outs,HR b t,b.ids⟩:=if_pos h
theorem FE{b:BkS}{id:Hs}{t:TxS}(h:c4 b.ids id=false):R0 b id t=⟨FI b.outs id t.outs t.outs.length,HR b t,YL b.ids id ()⟩:=if_neg (by rw[h];exact Bool.false_ne_true)
theorem FO{b:BkS}{t:TxS}(h:m9 t=true):HR b t=b.spent:=if_pos h
theorem gSpT_n{b:BkS}{t:TxS}(h:m9 t=false):HR b t=gSp b.spent t.ins t.ins.length:=if_neg (by rw[h];exact Bool.false_ne_true)
def C9(b:BkS)(l:List InS):Nat->List Hs
 | 0=>[]
 | i+1=>if c4 b.outs (plc l[i]!)=true then C9 b l i++[(ZQ z0B b.outs (plc l[i]!)).2] else C9 b l i
def KR(l:List OutS):Nat->List Hs
 | 0=>[]
 | k+1=>KR l k++[S9 l[k]!.script]
def D0(b:BkS)(t:TxS):List Hs:=C9 b t.ins t.ins.length++KR t.outs t.outs.length
theorem OP(l:List OutS)(k:Nat):(KR l k).length=k:=by
 induction k with
 | zero=>rfl
 | succ k ih=>simp[KR,ih]
theorem FM{b:BkS}{l:List InS}{i:Nat}(h:c4 b.outs (plc l[i]!)=true):C9 b l (i+1)=C9 b l i++[(ZQ z0B b.outs (plc l[i]!)).2]:=by rw[C9,if_pos h]
theorem FN{b:BkS}{l:List InS}{i:Nat}(h:c4 b.outs (plc l[i]!)=false):C9 b l (i+1)=C9 b l i:=by rw[C9,if_neg (by rw[h];exact Bool.false_ne_true)]
theorem gTcI_pre(b:BkS)(l:List InS){i n:Nat}(h:i<=n):∃ r,C9 b l n=C9 b l i++r:=by
 induction n with
 | zero=>rw[show i=0 by omega];exact⟨[],by simp⟩
 | succ n ih=>
  by_cases he:i=n+1
  ·rw[he];exact⟨[],by simp⟩
  ·obtain⟨r,hr⟩:=ih (by omega);rw[C9];split
   ·exact⟨r++[(ZQ z0B b.outs (plc l[n]!)).2],by rw[hr,List.append_assoc]⟩
   ·exact⟨r,hr⟩
theorem gTcO_pre(l:List OutS){i n:Nat}(h:i<=n):∃ r,KR l n=KR l i++r:=by
 induction n with
 | zero=>rw[show i=0 by omega];exact⟨[],by simp⟩
 | succ n ih=>
  by_cases he:i=n+1
  ·rw[he];exact⟨[],by simp⟩
  ·obtain⟨r,hr⟩:=ih (by omega);exact⟨r++[S9 l[n]!.script],by rw[KR,hr,List.append_assoc]⟩
theorem app_at{p r:List Hs}{x:Hs}:(p++[x]++r)[p.length]! = x:=by
 rw[List.append_assoc,getElem!_pos _ _ (by simp)];simp
theorem RB{b:BkS}{t:TxS}{i:Nat}(hi:i<t.ins.length)(h:c4 b.outs (plc t.ins[i]!)=true):(C9 b t.ins i).length<(D0 b t).length/\(D0 b t)[(C9 b t.ins i).length]! = (ZQ z0B b.outs (plc t.ins[i]!)).2:=by
 obtain⟨r,hr⟩:=gTcI_pre b t.ins (show i+1<=t.ins.length by omega);rw[FM h] at hr
 have e:D0 b t=C9 b t.ins i++[(ZQ z0B b.outs (plc t.ins[i]!)).2]++(r++KR t.outs t.outs.length):=by rw[D0,hr,List.append_assoc (_++_)]
 rw[e];exact⟨by simp,app_at⟩
theorem OB{b:BkS}{t:TxS}{k:Nat}(hk:k<t.outs.length):(C9 b t.ins t.ins.length).length+k<(D0 b t).length/\(D0 b t)[(C9 b t.ins t.ins.length).length+k]! = S9 t.outs[k]!.script:=by
 obtain⟨r,hr⟩:=gTcO_pre t.outs (show k+1<=t.outs.length by omega);rw[KR] at hr
 have e:D0 b t=(C9 b t.ins t.ins.length++KR t.outs k)++[S9 t.outs[k]!.script]++r:=by rw[D0,hr];simp only[List.append_assoc]
 have hl:(C9 b t.ins t.ins.length).length+k=(C9 b t.ins t.ins.length++KR t.outs k).length:=by rw[List.length_append,OP]
 rw[e,hl];exact⟨by simp,app_at⟩
theorem gTch_len(b:BkS)(t:TxS):(D0 b t).length=(C9 b t.ins t.ins.length).length+t.outs.length:=by rw[D0,List.length_append,OP]
def gIn(b:BkS)(l:List InS):Nat->UInt64
 | 0=>0
 | i+1=>gIn b l i+(ZQ z0B b.outs (plc l[i]!)).1
def FL(b:BkS)(p:Plc):Bool:=c4 b.outs p&&!c4 b.spent p
def U4(b:BkS)(id:Hs)(t:TxS):Bool:=
 !c4 b.ids id&&(m9 t||((List.range t.ins.length).all (fun i=>FL b (plc t.ins[i]!))&&decide (QH t.outs t.outs.length<=gIn b t.ins t.ins.length)))
theorem BV{b:BkS}{id:Hs}{t:TxS}(h:c4 b.ids id=true):U4 b id t=false:=by unfold U4;rw[h];rfl
theorem gSums_2{b:BkS}{id:Hs}{t:TxS}(h:c4 b.ids id=false)(h2:m9 t=true):U4 b id t=true:=by unfold U4;rw[h,h2];rfl
theorem RP{b:BkS}{id:Hs}{t:TxS}(h:c4 b.ids id=false)(h2:m9 t=false){i:Nat}(hi:i<t.ins.length)(h3:FL b (plc t.ins[i]!)=false):U4 b id t=false:=by
 have:(List.range t.ins.length).all (fun i=>FL b (plc t.ins[i]!))=false:=by
  rw[List.all_eq_false];exact⟨i,List.mem_range.2 hi,by rw[h3];exact Bool.false_ne_true⟩
 unfold U4;rw[h,h2,this];rfl
theorem gSums_4{b:BkS}{id:Hs}{t:TxS}(h:c4 b.ids id=false)(h2:m9 t=false)(h3:∀ i<t.ins.length,FL b (plc t.ins[i]!)=true):U4 b id t=decide (QH t.outs t.outs.length<=gIn b t.ins t.ins.length):=by
 have:(List.range t.ins.length).all (fun i=>FL b (plc t.ins[i]!))=true:=by
  rw[List.all_eq_true];exact fun i hi=>h3 i (List.mem_range.1 hi)
 unfold U4;rw[h,h2,this];simp
theorem gOk_y{b:BkS}{p:Plc}(h:c4 b.outs p=true)(h2:c4 b.spent p=false):FL b p=true:=by unfold FL;rw[h,h2];rfl
theorem gOk_s{b:BkS}{p:Plc}(h:c4 b.outs p=true)(h2:c4 b.spent p=true):FL b p=false:=by unfold FL;rw[h,h2];rfl
theorem gOk_n{b:BkS}{p:Plc}(h:c4 b.outs p=false):FL b p=false:=by unfold FL;rw[h];rfl
def JS(l:List TxS):Nat->List Hs
 | 0=>[]
 | i+1=>JS l i++[J0 l[i]!]
theorem gIds_app{l:List TxS}{i:Nat}:(JS l i).map z5++[z5 (J0 l[i]!)]=(JS l (i+1)).map z5:=by
 rw[JS,List.map_append];rfl
theorem gIds_len(l:List TxS)(i:Nat):(JS l i).length=i:=by
 induction i with
 | zero=>rfl
 | succ i ih=>simp[JS,ih]
theorem VP(l:List TxS)(i:Nat)(hi:i<=l.length):JS l i=(l.take i).map J0:=by
 induction i with
 | zero=>rfl
 | succ i ih=>rw[JS,ih (by omega),List.take_succ_eq_append_getElem (by omega),List.map_append,getElem!_pos l i (by omega)];rfl
theorem gIds_all(l:List TxS):JS l l.length=l.map J0:=by rw[VP l _ (Nat.le_refl _),List.take_length]
def gB(b:BkS)(txs:List TxS):Nat->BkS
 | 0=>b
 | i+1=>R0 (gB b txs i) (J0 txs[i]!) txs[i]!
theorem gB_s(b:BkS)(txs:List TxS)(i:Nat):gB b txs (i+1)=R0 (gB b txs i) (J0 txs[i]!) txs[i]!:=by rw[gB]
def X6(b:BkS)(txs:List TxS)(i:Nat):Int:=
 if L8 txs[i]! = false∨m9 txs[i]!≠decide (i=0) then 1 else if U4 (gB b txs i) (J0 txs[i]!) txs[i]! = false then 14 else 0
def PZ(b:BkS)(txs:List TxS):Nat:=((List.range txs.length).find? (fun q=>decide (X6 b txs q≠0))).getD txs.length
def KL(b:BkS)(txs:List TxS):Int×BkS:=(if PZ b txs<txs.length then X6 b txs (PZ b txs) else 0,gB b txs (PZ b txs))
theorem RI{n i:Nat}{f:Nat->Bool}(hi:i<n)(h:∀ j,j<i->f j=false)(ho:f i=true):(List.range n).find? f=some i:=by
 rw[List.find?_range_eq_some];exact⟨ho,List.mem_range.2 hi,fun j hj=>by rw[h j hj];rfl⟩
theorem RF{n:Nat}{f:Nat->Bool}(h:∀ j,j<n->f j=false):(List.range n).find? f=none:=by
 rw[List.find?_eq_none]
 exact fun j hj=>by rw[h j (List.mem_range.1 hj)];exact Bool.false_ne_true
theorem RC{b:BkS}{txs:List TxS}{i:Nat}(hi:i<txs.length)(h:∀ q<i,X6 b txs q=0)(ho:X6 b txs i≠0):KL b txs=(X6 b txs i,gB b txs i):=by
 have e:PZ b txs=i:=by unfold PZ;rw[RI (f:=fun q=>decide (X6 b txs q≠0)) hi (fun j hj=>decide_eq_false (fun hn=>hn (h j hj))) (decide_eq_true ho)];rfl
 unfold KL;rw[e,if_pos hi]
theorem BT{b:BkS}{txs:List TxS}(h:∀ q<txs.length,X6 b txs q=0):KL b txs=(0,gB b txs txs.length):=by
 have e:PZ b txs=txs.length:=by unfold PZ;rw[RF (f:=fun q=>decide (X6 b txs q≠0)) (fun j hj=>decide_eq_false (fun hn=>hn (h j hj)))];rfl
 unfold KL;rw[e,if_neg (Nat.lt_irrefl _)]
def JC(l:List BlkS)(h:Nat):Int:=
 if 0<h/\l[h]!.hd.prev≠YW l[h-1]!.hd then 9 else if l[h]!.txs.length=0 then(if h=0 then 0 else 6) else if 256<l[h]!.txs.length then 6 else if l[h]!.hd.root≠M1 p7 (l[h]!.txs.map J0) then 15 else 0
def R1(b:BkS)(l:List BlkS)(h:Nat):Int×BkS:=if JC l h≠0 then(JC l h,b) else KL b l[h]!.txs
def gH(l:List BlkS):Nat->BkS
 | 0=>bk0
 | h+1=>(R1 (gH l h) l h).2
def gE(l:List BlkS)(h:Nat):Int:=(R1 (gH l h) l h).1
def K3(l:List BlkS):Int×Int:=match (List.range l.length).find? (fun h=>decide (gE l h≠0)) with
 | some h=>(((h:Nat):Int),gE l h)
 | none=>(0,0)
theorem VB{l:List BlkS}{h:Nat}(hh:h<l.length)(h0:∀ q<h,gE l q=0)(ho:gE l h≠0):K3 l=(((h:Nat):Int),gE l h):=by
 unfold K3;rw[RI (f:=fun h=>decide (gE l h≠0)) hh (fun j hj=>decide_eq_false (fun hn=>hn (h0 j hj))) (decide_eq_true ho)]
theorem gE_0{l:List BlkS}{h:Nat}(hc:((R1 (gH l h) l h).1 != 0)=false):gE l h=0:=by simpa [gE] using hc
theorem gE_n{l:List BlkS}{h:Nat}(hc:((R1 (gH l h) l h).1 != 0)=true):gE l h≠0:=by simpa [gE] using hc
theorem VC{l:List BlkS}(h0:∀ q<l.length,gE l q=0):K3 l=(0,0):=by
 unfold K3;rw[RF (f:=fun h=>decide (gE l h≠0)) (fun j hj=>decide_eq_false (fun hn=>hn (h0 j hj)))]
section
variable{l:List BlkS}{h:Nat}{b:BkS}{i:Nat}
theorem gHd_9(h1:0<h)(h2:(l[h]!.hd.prev != YW l[h-1]!.hd)=true):JC l h=9:=by unfold JC;rw[if_pos ⟨h1,bne_iff_ne.1 h2⟩]
theorem OO(hp:¬ 0<h∨(l[h]!.hd.prev != YW l[h-1]!.hd)=false):¬ (0<h/\l[h]!.hd.prev≠YW l[h-1]!.hd):=fun⟨h1,h2⟩=>hp.elim (fun h=>h h1) (fun h=>h2 (bne_eq_false_iff_eq.1 h))
theorem gHd_0(h1:¬ 0<h)(hz:l[h]!.txs.length=0):JC l h=0:=by unfold JC;rw[if_neg (OO (.inl h1)),if_pos hz,if_pos (by omega)]
theorem gHd_6a(h1:0<h)(hp:¬ 0<h∨(l[h]!.hd.prev != YW l[h-1]!.hd)=false)(hz:l[h]!.txs.length=0):JC l h=6:=by unfold JC;rw[if_neg (OO hp),if_pos hz,if_neg (by omega)]
theorem BW(hp:¬ 0<h∨(l[h]!.hd.prev != YW l[h-1]!.hd)=false)(hz:¬ l[h]!.txs.length=0)(h2:256<l[h]!.txs.length):JC l h=6:=by unfold JC;rw[if_neg (OO hp),if_neg hz,if_pos h2]
theorem PQ(hp:¬ 0<h∨(l[h]!.hd.prev != YW l[h-1]!.hd)=false)(hz:¬ l[h]!.txs.length=0)(h2:¬ 256<l[h]!.txs.length)(hr:(l[h]!.hd.root != M1 p7 (l[h]!.txs.map J0))=true):JC l h=15:=by
 unfold JC;rw[if_neg (OO hp),if_neg hz,if_neg h2,if_pos (bne_iff_ne.1 hr)]
theorem U6(hp:¬ 0<h∨(l[h]!.hd.prev != YW l[h-1]!.hd)=false)(hz:¬ l[h]!.txs.length=0)(h2:¬ 256<l[h]!.txs.length)(hr:(l[h]!.hd.root != M1 p7 (l[h]!.txs.map J0))=false):JC l h=0:=by
 unfold JC;rw[if_neg (OO hp),if_neg hz,if_neg h2,if_neg (fun hn=>hn (bne_eq_false_iff_eq.1 hr))]
theorem Y7{e:Int}(he:JC l h=e)(h0:e≠0):R1 b l h=(e,b):=by unfold R1;rw[he,if_pos h0]
theorem ZX(h0:JC l h=0):R1 b l h=KL b l[h]!.txs:=by unfold R1;rw[h0];exact if_neg (by simp)
theorem Y8{e:Int}(h0:JC l h=0)(hi:i<l[h]!.txs.length)(hn:∀ q<i,X6 b l[h]!.txs q=0)(he:X6 b l[h]!.txs i=e)(h1:e≠0):R1 b l h=(e,gB b l[h]!.txs i):=by
 rw[ZX h0,RC hi hn (by rw[he];exact h1),he]
theorem ZU(h0:JC l h=0)(hn:∀ q<l[h]!.txs.length,X6 b l[h]!.txs q=0):R1 b l h=(0,gB b l[h]!.txs l[h]!.txs.length):=by rw[ZX h0,BT hn]
theorem RM(h1:¬ 0<h)(hz:l[h]!.txs.length=0):R1 b l h=(0,b):=by
 rw[ZU (gHd_0 h1 hz) (fun q hq=>by omega),hz];rfl
variable{txs:List TxS}
theorem PK(hm:¬ L8 txs[i]! = true):X6 b txs i=1:=by unfold X6;rw[if_pos (.inl (by simpa using hm))]
theorem PJ(h:(m9 txs[i]! != decide (i=0))=true):X6 b txs i=1:=by unfold X6;rw[if_pos (.inr (bne_iff_ne.1 h))]
theorem f9(hm:L8 txs[i]! = true)(h:(m9 txs[i]! != decide (i=0))=false)(h2:(!U4 (gB b txs i) (J0 txs[i]!) txs[i]!)=true):X6 b txs i=14:=by
 unfold X6;rw[if_neg (by rintro (h1|h1);rw[hm] at h1;cases h1;exact h1 (bne_eq_false_iff_eq.1 h)),if_pos (by simpa using h2)]
theorem FV(hm:L8 txs[i]! = true)(h:(m9 txs[i]! != decide (i=0))=false)(h2:(!U4 (gB b txs i) (J0 txs[i]!) txs[i]!)=false):X6 b txs i=0:=by
 unfold X6;rw[if_neg (by rintro (h1|h1);rw[hm] at h1;cases h1;exact h1 (bne_eq_false_iff_eq.1 h)),if_neg (by simpa using h2)]
theorem nm_all(l:List TxS):allH (l.map J0):=fun x hx=>by
 obtain⟨t,_,rfl⟩:=List.mem_map.1 hx;exact UB _
theorem BD(hi:i<txs.length):((txs.map J0).map z5)[i]? = some (z5 (J0 txs[i]!)):=by
 rw[List.getElem?_map,List.getElem?_map,List.getElem?_eq_getElem hi,getElem!_pos txs i hi];rfl
end
def v5(l:List BlkS):Nat->BkS
 | 0=>bk0
 | h+1=>gB (v5 l h) l[h]!.txs l[h]!.txs.length
def T9(b:BkS)(h:Nat)(txs:List TxS)(sc:Hs):Nat->List AL
 | 0=>[]
 | i+1=>if sc∈D0 (gB b txs i) txs[i]! then T9 b h txs sc i++[(((h:Nat):Int),J0 txs[i]!)] else T9 b h txs sc i
def t7(l:List BlkS)(sc:Hs):Nat->List AL
 | 0=>[]
 | h+1=>t7 l sc h++T9 (v5 l h) h l[h]!.txs sc l[h]!.txs.length
def Z8(l:List BlkS)(sc:Hs):List AL:=t7 l sc l.length
def S2(h:Nat)(id:Hs)(l:List OutS)(sc:Hs):Nat->List HZ
 | 0=>[]
 | k+1=>if(S9 l[k]!.script==sc)=true then S2 h id l sc k++[((id,nK k),l[k]!.value,((h:Nat):Int))] else S2 h id l sc k
def ZJ(h:Nat)(txs:List TxS)(sc:Hs):Nat->List HZ
 | 0=>[]
 | i+1=>ZJ h txs sc i++S2 h (J0 txs[i]!) txs[i]!.outs sc txs[i]!.outs.length
def J1(l:List BlkS)(sc:Hs):Nat->List HZ
 | 0=>[]
 | h+1=>J1 l sc h++ZJ h l[h]!.txs sc l[h]!.txs.length
def L9(m:List (Plc×Unit))(u:List HZ):Nat->List HZ
 | 0=>[]
 | i+1=>if c4 m u[i]!.1=true then L9 m u i else L9 m u i++[u[i]!]
def X2(l:List BlkS)(sc:Hs):List HZ:=L9 (v5 l l.length).spent (J1 l sc l.length) (J1 l sc l.length).length
end Go.Sx
namespace Go.Sx
section
variable{l:List BlkS}{h i k j:Nat}{b:BlkS}{sc id:Hs}{o:List OutS}{m:List (Plc×Unit)}{u:List HZ}
theorem gUnK_app(p:List HZ)(hc:(S9 o[k]!.script==sc)=true):(p++S2 h id o sc k).map U8++[.agg [.agg [z5 id,.u32 (nK k)],.u64 o[k]!.value,.int ((h:Nat):Int)]]=(p++S2 h id o sc (k+1)).map U8:=by
 rw[S2,if_pos hc,<- List.append_assoc,List.map_append (l₁:=p++S2 h id o sc k)];rfl
theorem gUnK_n(hc:(S9 o[k]!.script==sc)=false):S2 h id o sc (k+1)=S2 h id o sc k:=by rw[S2,if_neg (by rw[hc];exact Bool.false_ne_true)]
theorem OG(h:Nat)(id:Hs)(o:List OutS)(sc:Hs)(k:Nat):(S2 h id o sc k).length<=k:=by
 induction k with
 | zero=>exact Nat.le_refl _
 | succ k ih=>
  rw[S2];split
  ·rw[List.length_append,List.length_singleton];omega
  ·omega
theorem OH(hb:b.wf)(h:Nat)(sc:Hs)(i:Nat)(hi:i<=b.txs.length):(ZJ h b.txs sc i).length<=1000*i:=by
 induction i with
 | zero=>exact Nat.le_refl _
 | succ i ih=>
  have h1:=ih (by omega);have h2:=OG h (J0 b.txs[i]!) b.txs[i]!.outs sc b.txs[i]!.outs.length;have h3:=(hb.small (show i<b.txs.length by omega)).2;rw[ZJ,List.length_append];omega
theorem OD(hl:allBl l)(sc:Hs)(h:Nat)(hh:h<=l.length):(J1 l sc h).length<=1000000*h:=by
 induction h with
 | zero=>exact Nat.le_refl _
 | succ h ih=>
  have h1:=ih (by omega);have hb:=hl.get (show h<l.length by omega);have h2:=OH hb h sc l[h]!.txs.length (Nat.le_refl _);have h3:=hb.len;rw[J1,List.length_append];omega
theorem gUnF_n(hc:c4 m u[j]!.1=true):L9 m u (j+1)=L9 m u j:=by rw[L9,if_pos hc]
theorem gUnF_app(hc:c4 m u[j]!.1=false):(L9 m u j).map U8++[U8 u[j]!]=(L9 m u (j+1)).map U8:=by
 rw[L9,if_neg (by rw[hc];exact Bool.false_ne_true),List.map_append];rfl
theorem OC(m:List (Plc×Unit))(u:List HZ)(j:Nat):(L9 m u j).length<=j:=by
 induction j with
 | zero=>exact Nat.le_refl _
 | succ j ih=>
  rw[L9];split
  ·omega
  ·rw[List.length_append,List.length_singleton];omega
theorem ZK(hl:allBl l)(sc:Hs):(X2 l sc).length<=100000000:=by
 have h1:=OC (v5 l l.length).spent (J1 l sc l.length) (J1 l sc l.length).length;have h2:=OD hl sc l.length (Nat.le_refl _);have h3:=hl.1;unfold X2;omega
end
end Go.Sx
namespace Go.Sx
section
variable{l:List BlkS}{h i k j:Nat}{b:BkS}{sc:Hs}{t:TxS}{txs:List TxS}
theorem tch_mem(hk:k<(D0 b t).length)(h:((D0 b t)[k]! == sc)=true):sc∈D0 b t:=by
 rw[<- beq_iff_eq.1 h];exact u9 hk
theorem tch_no(h:∀ j,j<(D0 b t).length->(D0 b t)[j]!≠sc):sc∉D0 b t:=fun hc=>by
 obtain⟨j,hj,e⟩:=List.mem_iff_getElem.1 hc;exact h j hj (by rw[getElem!_pos _ j hj];exact e)
theorem FS(hn:sc∉D0 (gB b txs i) txs[i]!):T9 b h txs sc (i+1)=T9 b h txs sc i:=by rw[T9,if_neg hn]
theorem FR(hy:sc∈D0 (gB b txs i) txs[i]!):T9 b h txs sc (i+1)=T9 b h txs sc i++[(((h:Nat):Int),J0 txs[i]!)]:=by rw[T9,if_pos hy]
theorem OM(b:BkS)(h:Nat)(txs:List TxS)(sc:Hs)(i:Nat):(T9 b h txs sc i).length<=i:=by
 induction i with
 | zero=>exact Nat.le_refl _
 | succ i ih=>
  rw[T9];split
  ·rw[List.length_append,List.length_singleton];omega
  ·omega
theorem ON(l:List BlkS)(hl:allBl l)(sc:Hs)(h:Nat)(hh:h<=l.length):(t7 l sc h).length<=1000*h:=by
 induction h with
 | zero=>exact Nat.le_refl _
 | succ h ih=>
  have h1:=ih (by omega);have h2:=OM (v5 l h) h l[h]!.txs sc l[h]!.txs.length;have h3:=(hl.get (show h<l.length by omega)).len;rw[t7,List.length_append];omega
theorem ent_app{es:List AL}{n:Int}{id:Hs}:es.map JV++[.agg [.int n,z5 id]]=(es++[(n,id)]).map JV:=by
 rw[List.map_append];rfl
theorem IZ(e z:Nat)(l:List AL):Frs (.sl (some e) z (l.map JV)):=.sl _ _ _ (u2 fun x=>.agg _ (X7 (.int _) (d9 _)))
end
end Go.Sx

namespace Go.Sx
open Go.Proofs Go.Proofs.Tryd
set_option maxRecDepth 100000
instance:LdT prog 93 1 false:=⟨_,_,O,O,O,O⟩
instance:ElT prog 93 1 8:=⟨_,_,O,O,O,O,O,by decide,O⟩
instance:LdT prog 94 1 false:=⟨_,_,O,O,O,O⟩
instance:ElT prog 94 1 8:=⟨_,_,O,O,O,O,O,by decide,O⟩
instance:LdT prog 114 1 false:=⟨_,_,O,O,O,O⟩
instance:ElT prog 114 1 8:=⟨_,_,O,O,O,O,O,by decide,O⟩
instance:LdT prog 120 0 true:=⟨_,_,O,O,O,O⟩
instance:ZrT prog 120 (.agg []):=⟨_,_,O,O,by decide,O⟩
instance:BsT prog 120 ([]):=⟨_,_,_,O,O,O,O,by decide⟩
instance:LdT prog 122 1 false:=⟨_,_,O,O,O,O⟩
instance:ElT prog 122 1 8:=⟨_,_,O,O,O,O,O,by decide,O⟩
instance:LdT prog 123 1 false:=⟨_,_,O,O,O,O⟩
instance:ElT prog 123 1 8:=⟨_,_,O,O,O,O,O,by decide,O⟩
instance:LdT prog 124 1 false:=⟨_,_,O,O,O,O⟩
instance:ElT prog 124 1 8:=⟨_,_,O,O,O,O,O,by decide,O⟩
instance:LdT prog 125 3 true:=⟨_,_,O,O,O,O⟩
instance:ElT prog 125 3 24:=⟨_,_,O,O,O,O,O,by decide,O⟩
instance:FtT prog 125 0 122 0:=⟨_,_,O,O,O,O⟩
instance:FdT prog 125 0 0:=⟨_,_,_,O,O,O,O,by decide⟩
instance:FtT prog 125 1 123 1:=⟨_,_,O,O,O,O⟩
instance:FdT prog 125 1 1:=⟨_,_,_,O,O,O,O,by decide⟩
instance:FtT prog 125 2 124 2:=⟨_,_,O,O,O,O⟩
instance:FdT prog 125 2 2:=⟨_,_,_,O,O,O,O,by decide⟩
instance:ZrT prog 125 (.agg [.nilmap,.nilmap,.nilmap]):=⟨_,_,O,O,by decide,O⟩
instance:BsT prog 125 ([.nilmap,.nilmap,.nilmap]):=⟨_,_,_,O,O,O,O,by decide⟩
instance:LdT prog 126 3 true:=⟨_,_,O,O,O,O⟩
instance:ElT prog 126 3 24:=⟨_,_,O,O,O,O,O,by decide,O⟩
instance:FtT prog 126 0 122 0:=⟨_,_,O,O,O,O⟩
instance:FdT prog 126 0 0:=⟨_,_,_,O,O,O,O,by decide⟩
instance:FtT prog 126 1 123 1:=⟨_,_,O,O,O,O⟩
instance:FdT prog 126 1 1:=⟨_,_,_,O,O,O,O,by decide⟩
instance:FtT prog 126 2 124 2:=⟨_,_,O,O,O,O⟩
instance:FdT prog 126 2 2:=⟨_,_,_,O,O,O,O,by decide⟩
instance:ZrT prog 126 (.agg [.nilmap,.nilmap,.nilmap]):=⟨_,_,O,O,by decide,O⟩
instance:BsT prog 126 ([.nilmap,.nilmap,.nilmap]):=⟨_,_,_,O,O,O,O,by decide⟩
instance:MkT prog 93 60 3:=⟨Tryd.underlying93⟩
instance:MkT prog 94 60 3:=⟨Tryd.underlying94⟩
instance:MkT prog 122 60 150:=⟨Tryd.underlying122⟩
instance:MkT prog 123 60 120:=⟨Tryd.underlying123⟩
instance:MkT prog 124 26 120:=⟨Tryd.underlying124⟩
end Go.Sx

namespace Go.Sx
variable{P:Program}{C:Ctx}{σ σ' σ1:Sg}{a:Act}{w w':World}{ρ:Nat->Nat}{Fe Fe' Fb:Nat->List Nat}
variable{gl:List (Nat×D)}{W0:World}{G:Nat->Prop}
def ItrK(P:Program)(gl:List (Nat×D))(f:FuncId)(caps:List D)(bx0:List (Nat×Bx))(xs:List D):Prop:=
 ∀ (w:World) (G:Nat->Prop) (ρ:Nat->Nat) (Fb:Nat->List Nat) (vs:List Value) (l:Nat) (Y:Yt),
  (∀ b,G b->b<w.heap.size) ->
  (∀ g d,(g,d)∈gl->G g/\∃ cs e fz,w.heap[g]? = some (.cells cs e fz)/\Rc w (fun x=>x) (fun _=>False) (fun _=>False) false d cs.toList []) ->
  vs.length=caps.length->(∀ k (h:k<caps.length),VR w ρ G (fun i=>(lk bx0 i).isSome=true) caps[k] (vs.getD k undef) [])->Hand bx0 w ρ G Fb ->
  Stable Y ->
  (∀ k O w v,(h:k<xs.length)->Y k false O w->(∀ b,O b->b<w.heap.size)->VR w (fun x=>x) (fun b=>G b∨O b) (fun _=>False) xs[k] v []->R4 P l v w (Rnd Y G O k w)) ->
  Y 0 false (fun b=>∃ id,b∈Fb id) w ->
  Calls P f (#[.func (.yield l) #[] #[]]++vs.toArray) w (fun e w'=>(∃ v,e=.returned v)/\∃ k s O Fb',Y k s O w'/\(s=true∨k=xs.length)/\(∀ id b,b∈Fb' id->O b)/\Hand bx0 w' ρ (fun b=>(G b∨O b)/\¬ ∃ id,b∈Fb' id) Fb')
theorem ItrK.of{gl:List (Nat×D)}{f:FuncId}{fn:Func}{c:Code}{caps xs:List D}{bx0:List (Nat×Bx)}{n:Nat}(hf:P.funcs[f]? = some fn)(hb:fn.body=some c)(hnn:fn.ntmps=n)(hres:fn.results=#[])
 (hd:caps.all (fun d=>!d.isRef)=true) (hn:caps.length+1<=n)
 (hob:A3 (bx0.map Prod.fst) bx0)
 (h:∀ (G:Nat->Prop) (Y:Yt) (l:Nat) (pn:Nat->Option Nat),Stable Y->(∀ k O w v,(h:k<xs.length)->Y k false O w->(∀ b,O b->b<w.heap.size)->VR w (fun x=>x) (fun b=>G b∨O b) (fun _=>False) xs[k] v []->R4 P l v w (Rnd Y G O k w)) ->
  V P none (AM (UI gl G Y (bx0.map Prod.fst) pn)) c (fun e i=>(e=.normal∨e=.ret)/\(i.1.2=true∨i.1.1=xs.length)/\n8 (bx0.map Prod.fst) i.2.bx=bx0) ((0,false),⟨n,ini 0 (.yld l::caps),bx0⟩)):ItrK P gl f caps bx0 xs:=by
 subst hnn;intro w G ρ0 Fb0 vs l Y hG hgl hl hv hand hY hyl h0;refine calls_of_wp hf hb ?_
 let C:Ctx:=⟨w,fun b=>b<w.heap.size/\¬ ∃ id,b∈Fb0 id,fun b=>G b∨(∃ id,b∈Fb0 id)∨w.heap.size<=b,gl,none,fun id=>if(lk bx0 id).isSome then some (ρ0 id) else none,[]⟩
 let ds:List D:=.yld l::caps
 have hget:∀ t d,(⟨fn.ntmps,ini 0 ds,bx0⟩:Sg).get t=some d->∃ h:t<ds.length,ds[t]=d:=by
  intro t d hd;simp only[Sg.get,YE,Nat.zero_le,if_true,Nat.sub_zero] at hd;obtain⟨h,e⟩:=List.getElem?_eq_some_iff.1 hd;exact⟨h,e⟩
 have hown:∀ b,own (fun _=>[]) Fb0 b->∃ id,b∈Fb0 id:=by
  rintro b (⟨_,h⟩|h)
  ·cases h
  ·exact h
 have hFlt:∀ id b,b∈Fb0 id->b<w.heap.size:=fun id b hb=>by
  cases hx:lk bx0 id with
  | none=>rw[hand.boxN id hx] at hb;cases hb
  | some x=>exact(hand.box id x hx).lt b hb
 have hG2:∀ b,G b->gd C (fun _=>[]) Fb0 b:=fun b hb=>⟨.inl hb,fun ho=>by obtain⟨id,hid⟩:=hown b ho;exact hand.out id b hid hb⟩
 have st:StW C ⟨fn.ntmps,ini 0 ds,bx0⟩ { tmps:=(#[Value.func (.yield l) #[] #[]]++vs.toArray)++Array.replicate (fn.ntmps-(#[Value.func (.yield l) #[] #[]]++vs.toArray).size) undef,defers:=[] } w ρ0 (fun _=>[]) Fb0:=by
  refine⟨?_,rfl,(fun id b hp=>by
   by_cases hs:(lk bx0 id).isSome=true
   ·simp only[C,hs,if_true,Option.some.injEq] at hp;exact⟨hp,hs⟩
   ·simp[C,hs] at hp), ?_,fun _ _=>rfl, ?_,hand.boxN,fun _=>List.nodup_nil,hand.nodB,(fun _ _ _ _ h=>by cases h),(fun _ _ _ h=>by cases h),hand.dBB,fun b hb hc=>hc.2 (hown b hb), ?_,rfl,⟨rfl,Nat.le_refl _⟩,rfl,Nat.le_refl _, ?_,fun b hb=>.inr (.inr hb),fun b hb=>.inr (.inl (hown b hb))⟩
  ·simp[hl];omega
  ·intro t d hd';obtain⟨ht,rfl⟩:=hget t d hd'
   cases t with
   | zero=>
    refine(j2 rfl).2 ⟨.func (.yield l) #[] #[], ?_, ?_⟩
    ·rw[Array.getElem?_append_left (by simp)];simp
    ·show VR w _ _ _ (D.yld l) _ _;simp only[VR,D.isAgg,Bool.false_eq_true,if_false];exact .yld l
   | succ t=>
    have ht':t<caps.length:=by simpa [ds] using ht
    have hr:caps[t].isRef=false:=by
     have:=List.all_eq_true.1 hd caps[t] (List.getElem_mem ht');simpa using this
    refine(j2 hr).2 ⟨vs.getD t undef, ?_,(hv t ht').mono (fun _ _ _=>rfl) (fun b hb _=>hG2 b hb) (fun id hid=>⟨hid,rfl⟩)⟩
    have htv:t<vs.length:=by omega
    rw[Array.getElem?_append_left (by simp;omega)];simp[htv,Array.getElem?_append]
  ·intro id x hx;exact(hand.box id x hx).mono (fun _ _ _=>rfl) (fun b hb _=>hG2 b hb) (fun id hid=>⟨hid,rfl⟩)
  ·intro b hb;exact⟨rfl,hb.1⟩
  ·intro g d hg;obtain⟨h1,cs,e,fz,h2,h3⟩:=hgl g d hg;exact⟨⟨(Array.getElem?_eq_some_iff.1 h2).1,fun⟨id,hid⟩=>hand.out id g hid h1⟩,.inl h1,cs,e,fz,h2,h3⟩
 have hAI:AM (UI gl G Y (bx0.map Prod.fst) C.pin) ((0,false),⟨fn.ntmps,ini 0 ds,bx0⟩) { tmps:=(#[Value.func (.yield l) #[] #[]]++vs.toArray)++Array.replicate (fn.ntmps-(#[Value.func (.yield l) #[] #[]]++vs.toArray).size) undef,defers:=[] } w:=
  ⟨C,⟨rfl,rfl,rfl,⟨rfl,fun id b hp=>by
   by_cases hs:(lk bx0 id).isSome=true
   ·simp only[o3,List.any_eq_true];exact⟨id,o8.1 hs,by simp⟩
   ·simp[C,hs] at hp⟩,fun b=>∃ id,b∈Fb0 id,fun _=>Iff.rfl,fun _=>Iff.rfl,fun b hb=>⟨hG b hb,fun⟨id,hid⟩=>hand.out id b hid hb⟩,fun b ⟨id,hid⟩=>hFlt id b hid,h0⟩,_,_,_,st⟩
 refine Go.Code.wp_mono ?_ (wpIn_wide.1 (h G Y l C.pin hY hyl _ w hAI));rintro e a' w' ⟨⟨⟨k,s⟩,σ'⟩,⟨C',⟨h1,h2,h3,⟨h4,_⟩,O,hkeep,hok,hG',hO,hYk⟩,ρ,Fe,Fb,st'⟩,he,hend,hkb⟩;have hrun:=G5 (P:=P) (tmps:=a'.tmps) (rs:=[]) (fn:=fn) (by rw[hres]) (fun _=>undef) w' (fun k hk=>absurd hk (Nat.not_lt_zero _))
 let O':Nat->Prop:=fun b=>(O b∨C'.w0.heap.size<=b)/\b<w'.heap.size
 have hY1:Y k s O' w':=hY _ _ _ _ _ _ hYk {
  same:=fun b hb hn=>(st'.kept b ((hkeep b).2 ⟨hb,hn⟩)).1
  size:=st'.grown
  sub:=fun b hb=>hb.1
  lt:=fun b hb=>hb.2
  os:=st'.os
  tape:=⟨st'.tape.tp,st'.tape.dr⟩
  output:=st'.output }
 have hdf:a'.defers=[]:=by rw[st'.defs,h3]
 have hlt':=st'.lt
 have hownO:∀ b,own Fe Fb b->O' b:=fun b hb=>by
  refine⟨?_,hlt' b hb⟩;by_cases h0:C'.w0.heap.size<=b
  ·exact .inr h0
  ·left;by_cases hOb:O b
   ·exact hOb
   ·exact absurd ((hkeep b).2 ⟨by omega,hOb⟩) (st'.new b hb)
 let Fb':Nat->List Nat:=fun id=>if(lk bx0 id).isSome then Fb id else[]
 have hFs:∀ id b,b∈Fb' id->(lk bx0 id).isSome=true/\b∈Fb id:=fun id b hb=>by
  by_cases hs:(lk bx0 id).isSome=true
  ·exact⟨hs,by simpa [Fb',hs] using hb⟩
  ·simp[Fb',hs] at hb
 have hbx:∀ id x,lk bx0 id=some x->σ'.box id=some x:=fun id x hx=>by
  have e:=Y0 (bx0.map Prod.fst) σ'.bx id;rw[hkb,hx] at e;split at e
  ·exact e.symm
  ·cases e
 have hρ:∀ id,(lk bx0 id).isSome=true->ρ id=ρ0 id:=fun id hs=>(st'.pin id (ρ0 id) (by rw[h4];simp[C,hs])).1
 have hmem:∀ i,u6 (bx0.map Prod.fst) i=true->(lk bx0 i).isSome=true:=fun i hi=>by
  rw[o8];simp only[u6,List.any_eq_true] at hi;obtain⟨j,hj,he⟩:=hi;rw[Nat.eq_of_beq_eq_true he];exact hj
 have hhand:Hand bx0 w' ρ0 (fun b=>(G b∨O' b)/\¬ ∃ id,b∈Fb' id) Fb':=by
  refine⟨fun id x hx=>?_,fun id hx=>by simp[Fb',hx],fun id=>?_,fun id id' hne b hb hb'=>st'.dBB id id' hne b (hFs id b hb).2 (hFs id' b hb').2,fun id b hb hc=>hc.2 ⟨id,hb⟩⟩
  ·have h1:=(st'.bx id x (hbx id x hx)).okB (M9 hob hx)
   have hs:(lk bx0 id).isSome=true:=by rw[hx];rfl
   have h2:=h1.mono (w':=w') (G':=fun b=>(G b∨O' b)/\¬ ∃ id,b∈Fb' id) (L':=fun i=>(lk bx0 i).isSome=true) (ρ':=ρ0) (fun _ _ _=>rfl) (fun b hb hl=>⟨?_,fun⟨i,hi⟩=>hb.2 (.inr ⟨i,(hFs i b hi).2⟩)⟩) (fun i hi=>⟨hmem i hi.1,(hρ i (hmem i hi.1)).symm⟩)
   ·rw[hρ id hs] at h2;show BR w' ρ0 _ _ (ρ0 id) x (if(lk bx0 id).isSome then Fb id else[]);rw[if_pos hs];exact h2
   ·rcases(hok b).1 hb.1 with h|h|h
    ·exact .inl h
    ·exact .inr ⟨.inl h,hl⟩
    ·exact .inr ⟨.inr h,hl⟩
  ·show(if(lk bx0 id).isSome then Fb id else[]).Nodup;split
   ·exact st'.nodB id
   ·exact List.nodup_nil
 have hfin:∃ k s O Fb',Y k s O w'/\(s=true∨k=xs.length)/\(∀ id b,b∈Fb' id->O b)/\Hand bx0 w' ρ0 (fun b=>(G b∨O b)/\¬ ∃ id,b∈Fb' id) Fb':=
  ⟨k,s,O',Fb',hY1,hend,fun id b hb=>hownO b (.inr ⟨id,(hFs id b hb).2⟩),hhand⟩
 rcases he with rfl|rfl
 ·exact⟨hdf,_,hrun,⟨_,rfl⟩,hfin⟩
 ·exact⟨hdf,_,hrun,⟨_,rfl⟩,hfin⟩
theorem HI{m:Nat->Nat}{l:List (Nat×Bx)}(hinj:∀ i∈l.map Prod.fst,∀ j∈l.map Prod.fst,m i=m j->i=j){k:Nat}{x:Bx}(h:lk (u1 m l) k=some x):∃ i y,lk l i=some y/\m i=k/\x=y.ren m:=by
 have hk:k∈(u1 m l).map Prod.fst:=o8.1 (by rw[h];rfl);rw[C5,List.mem_map] at hk;obtain⟨i,hi,rfl⟩:=hk;rw[YA (fun j hj he=>hinj j hj i hi he)] at h
 cases hy:lk l i with
 | none=>rw[hy] at h;cases h
 | some y=>rw[hy] at h;cases h;exact⟨i,y,hy,rfl,rfl⟩
theorem P9{m:Nat->Nat}{l:List (Nat×Bx)}{i:Nat}(h:(lk l i).isSome=true):(lk (u1 m l) (m i)).isSome=true:=by
 rw[o8,C5,List.mem_map];exact⟨i,o8.1 h,rfl⟩
theorem Last.finishK{n:Nat}{env0 envZ:List (Nat×D)}{ids:List Nat}{G1:Nat->Prop}{sz l dd:Nat}{bx bx0:List (Nat×Bx)}{O:Nat->Prop}{m:Nat->Nat}{Fbk:Nat->List Nat}(h:Last C n a env0 ids ρ G1 sz l dd bx Fb O w)(hsz:a.tmps.size=n)(hpe:D7 envZ=true)
 (hk:∀ b,b<W0.heap.size->C.keep b) (hG1:∀ b,G1 b->G b∨W0.heap.size<=b) (hx:Ext W0 C.w0) (hdd:W0.heap.size<=dd)
 (hgl:Glw gl W0 G) (o:Obj) {dds:List Nat} (hnd:dds.Nodup) (hdds:∀ d∈dds,W0.heap.size<=d/\C.keep d/\C.w0.heap[d]? = some (.deferred (some []))) (hGd:∀ b,G1 b->b∉dds)
 (hFO:∀ id b,b∈Fbk id->O b) (hOl:∀ b,O b->b<w.heap.size) (hH:Hand bx0 w (fun i=>ρ (m i)) (fun b=>(G1 b∨O b)/\¬ ∃ id,b∈Fbk id) Fbk) (hij:∀ i∈bx0.map Prod.fst,∀ j∈bx0.map Prod.fst,m i=m j->i=j) (hout:∀ i∈bx0.map Prod.fst,u6 ids (m i)=false)
 (hZ:∀ t d,lk envZ t=some d->∃ v,a.tmps[t]? = some v/\VR w ρ G1 (fun id=>(lk (u1 m bx0++bx) id).isSome=true) d v []) :
 AM (JF gl W0 G) (true,⟨n,envZ,u1 m bx0++bx⟩) { a with defers:=(dd::dds).map H5 } (w.putObj l o):=by
 have h4o:∀ b,b≠l->(w.putObj l o).heap[b]? = w.heap[b]?:=fun b hb=>World.putObj_heap_other hb
 have hW0:∀ b,b<W0.heap.size->(w.putObj l o).heap[b]? = W0.heap[b]?:=fun b hb=>by
  obtain⟨q1,q2,q3,q4⟩:=h.keep b (hk b hb);rw[h4o b q3,q1,hx.block b hb]
 have hd4:(w.putObj l o).heap[dd]? = some (.deferred (some [])):=by rw[h4o dd (fun hc=>h.ld hc.symm)];exact h.def_
 have hddw:dd<(w.putObj l o).heap.size:=by rw[World.putObj_size];exact h.d_lt
 have hWs:W0.heap.size<=(w.putObj l o).heap.size:=Nat.le_trans hdd (Nat.le_of_lt hddw)
 have hall:∀ d∈dd::dds,W0.heap.size<=d/\d<(w.putObj l o).heap.size/\(w.putObj l o).heap[d]? = some (.deferred (some [])):=fun d hd=>by
  rcases List.mem_cons.1 hd with rfl|hd
  ·exact⟨hdd,hddw,hd4⟩
  ·obtain⟨q1,q2,q3⟩:=hdds d hd;obtain⟨k1,k2,k3,k4⟩:=h.keep d q2;have:=h.size;exact⟨q1,by rw[World.putObj_size];omega,by rw[h4o d k3,k1,q3]⟩
 have hndd:(dd::dds).Nodup:=List.nodup_cons.2 ⟨fun hc=>(h.keep dd (hdds dd hc).2.1).2.2.2 rfl,hnd⟩
 have hod:∀ b,¬ C.keep b->b≠dd->b∉dd::dds:=fun b hb hn hc=>by
  rcases List.mem_cons.1 hc with rfl|hc
  ·exact hn rfl
  ·exact hb (hdds b hc).2.1
 let C':Ctx:=⟨w.putObj l o,fun b=>b<W0.heap.size∨b∈dd::dds,fun b=>(G b∨W0.heap.size<=b)/\b∉dd::dds,gl,none,fun _=>none,(dd::dds).map H5⟩
 let inv:Nat->Option Nat:=fun k=>if h:∃ i,i∈bx0.map Prod.fst/\m i=k then some (Classical.choose h) else none
 have hinv:∀ i,i∈bx0.map Prod.fst->inv (m i)=some i:=fun i hi=>by
  have h:∃ j,j∈bx0.map Prod.fst/\m j=m i:=⟨i,hi,rfl⟩
  simp only[inv,dif_pos h];obtain⟨q1,q2⟩:=Classical.choose_spec h;rw[hij _ q1 i hi q2]
 have hinvS:∀ k i,inv k=some i->i∈bx0.map Prod.fst/\m i=k:=fun k i hi=>by
  by_cases h:∃ j,j∈bx0.map Prod.fst/\m j=k
  ·simp only[inv,dif_pos h,Option.some.injEq] at hi;rw[<- hi];exact Classical.choose_spec h
  ·simp only[inv,dif_neg h] at hi;cases hi
 let Fb2:Nat->List Nat:=fun k=>match inv k with|some i=>Fbk i|none=>Fb k
 have hF2:∀ k b,b∈Fb2 k->(∃ i,inv k=some i/\b∈Fbk i)∨(inv k=none/\b∈Fb k):=fun k b hb=>by
  cases hi:inv k with
  | some i=>exact .inl ⟨i,rfl,by simpa [Fb2,hi] using hb⟩
  | none=>exact .inr ⟨rfl,by simpa [Fb2,hi] using hb⟩
 have hbk:∀ id b,b∈Fb id->inv id=none:=fun id b hb=>by
  cases hi:inv id with
  | none=>rfl
  | some i=>
   obtain⟨q1,q2⟩:=hinvS id i hi;have h1:=hout i q1;rw[q2] at h1;have h2:=h.keys id;have h3:o3 ids id=false:=h1;rw[h3,Option.isSome_eq_false_iff,Option.isNone_iff_eq_none] at h2;rw[h.boxN id h2] at hb;cases hb
 have hown:∀ b,Go.Sx.own (fun _=>[]) Fb2 b->(¬ C.keep b/\¬ G1 b/\b≠l/\b≠dd/\b<w.heap.size):=by
  rintro b (⟨_,h⟩|⟨k,hb⟩)
  ·cases h
  ·rcases hF2 k b hb with ⟨i,_,hi⟩|⟨_,hi⟩
   ·have hO:=hFO i b hi;obtain⟨⟨q1,q2⟩,q3,q4⟩:=h.O_ge b hO;exact⟨q1,q2,q3,q4,hOl b hO⟩
   ·obtain⟨q1,_,q3,q4,q5,q6⟩:=h.own k b hi;exact⟨q1,q3,q4,q5,q6⟩
 have hgdG:∀ b,G1 b->gd C' (fun _=>[]) Fb2 b:=fun b hb=>⟨⟨hG1 b hb,fun hc=>(List.mem_cons.1 hc).elim (h.G1_lt b hb).2.2 (hGd b hb)⟩,fun hc=>(hown b hc).2.1 hb⟩
 have hgdO:∀ b,O b->(¬ ∃ id,b∈Fbk id)->gd C' (fun _=>[]) Fb2 b:=fun b hb hn=>by
  obtain⟨⟨q1,q2⟩,q3,q4⟩:=h.O_ge b hb;refine⟨⟨.inr (Nat.le_of_not_lt (fun hc=>q1 (hk b hc))),hod b q1 q4⟩, ?_⟩;rintro (⟨_,hc⟩|⟨k,hc⟩)
  ·cases hc
  ·rcases hF2 k b hc with ⟨i,_,hi⟩|⟨_,hi⟩
   ·exact hn ⟨i,hi⟩
   ·exact(h.own k b hi).2.1 hb
 refine⟨C',⟨rfl,rfl,fun _=>rfl,fun b hb=>.inl hb,⟨h.os.trans hx.os,⟨h.tape.tp.trans hx.tape.tp,Nat.le_trans hx.tape.dr h.tape.dr⟩,h.output.trans hx.output,hWs,hW0⟩,fun b hb=>hb.1,⟨dd::dds,rfl,hndd,fun d hd=>⟨(hall d hd).1,.inr hd,(hall d hd).2.2,fun hc=>hc.2 hd⟩⟩⟩,ρ,fun _=>[],Fb2, ?_⟩;refine StW.mk (by simpa using hsz) rfl (fun _ _ hp=>by cases hp) (fun t x hx'=>?_) (fun _ _=>rfl) (fun id x hx'=>?_) (fun id hid=>?_) (fun _=>List.nodup_nil) (fun id=>?_) (fun _ _ _ _ h=>by cases h) (fun _ _ _ h=>by cases h) (fun id id' hne b hb hb'=>?_)
  (fun b hb hc=>?_) (fun b hb=>⟨rfl, ?_⟩) rfl ⟨rfl,Nat.le_refl _⟩ rfl (Nat.le_refl _) (fun g d hg=>?_) (fun b hb=>⟨.inr (Nat.le_trans hWs hb),fun hc=>by have:=(hall b hc).2.1;omega⟩) (fun b hb=>?_)
 ·obtain⟨hp1,hp2⟩:=D6 hpe (show lk envZ t=some x from hx');obtain⟨v0,k1,k2⟩:=hZ t x hx';exact(j2 hp2).2 ⟨v0,k1,k2.mono (fun b hb hl=>h4o b (h.G1_lt b (hb.resolve_right (by simp))).2.1) (fun b hb hl=>hgdG b hb) (fun id hid=>⟨hid,rfl⟩)⟩
 ·have hx2:lk (u1 m bx0++bx) id=some x:=hx';rw[G7] at hx2
  cases hr:lk (u1 m bx0) id with
  | some y=>
   rw[hr] at hx2;cases hx2;obtain⟨i,y0,hy0,rfl,rfl⟩:=HI hij hr;have h1:=hH.box i y0 hy0
   have hs:(lk bx0 i).isSome=true:=by rw[hy0];rfl
   have h2:=h1.mono (w':=w.putObj l o) (G':=gd C' (fun _=>[]) Fb2) (L':=fun i=>(lk bx0 i).isSome=true) (ρ':=fun i=>ρ (m i)) (fun b hb hl=>h4o b (hb.elim (fun hg=>hg.1.elim (fun hg=>(h.G1_lt b hg).2.1) (fun ho=>(h.O_ge b ho).2.1)) (fun hf=>(h.O_ge b (hFO i b hf)).2.1)))
    (fun b hb hl=>hb.1.elim (fun hg=>hgdG b hg) (fun ho=>hgdO b ho hb.2)) (fun i hi=>⟨hi,rfl⟩)
   have h3:=h2.ren (ρ2:=ρ) (L':=fun id=>((⟨n,envZ,u1 m bx0++bx⟩:Sg).box id).isSome=true) (m:=m) (fun i hi=>⟨by
    show(lk (u1 m bx0++bx) (m i)).isSome=true;rw[G7];have h7:=P9 (m:=m) hi
    cases hq:lk (u1 m bx0) (m i) with
    | some q=>rfl
    | none=>exact absurd h7 (by rw[hq];simp),rfl⟩)
   have e:Fb2 (m i)=Fbk i:=by simp only[Fb2,hinv i (o8.1 hs)]
   rw[e];exact h3
  | none=>
   rw[hr] at hx2;obtain⟨d0,rfl,hf,hn0⟩:=N0 h.frs (show lk bx id=some x from hx2);obtain⟨cs,e,F',k1,k2,k3⟩:=h.box id d0 hx2;have hnl:∀ b∈Fb id,b≠l:=fun b hb=>(h.own id b hb).2.2.2.1
   have e2:Fb2 id=Fb id:=by
    have:=hbk id (ρ id) (by rw[k3];simp);simp only[Fb2,this]
   rw[e2];refine⟨cs,e,F', ?_,k2.frsAll hf hn0 (fun b hb _=>h4o b (hnl b (by rw[k3];exact List.mem_cons_of_mem _ hb))),k3⟩;rw[h4o _ (hnl _ (by rw[k3];simp))];exact k1
 ·have hid2:lk (u1 m bx0++bx) id=none:=hid;rw[G7] at hid2
  cases hi:inv id with
  | some i=>
   obtain⟨q1,q2⟩:=hinvS id i hi;have:=P9 (m:=m) (o8.2 q1);rw[q2] at this
   cases hq:lk (u1 m bx0) id with
   | some q=>rw[hq] at hid2;cases hid2
   | none=>rw[hq] at this;cases this
  | none=>
   cases hq:lk (u1 m bx0) id with
   | some q=>rw[hq] at hid2;cases hid2
   | none=>
    rw[hq] at hid2;show Fb2 id=[];simp only[Fb2,hi];exact h.boxN id hid2
 ·cases hi:inv id with
  | some i=>simp only[Fb2,hi];exact hH.nodB i
  | none=>simp only[Fb2,hi];exact h.nodB id
 ·rcases hF2 id b hb with ⟨i,hi,hbi⟩|⟨hi,hbi⟩<;>rcases hF2 id' b hb' with ⟨j,hj,hbj⟩|⟨hj,hbj⟩
  ·refine hH.dBB i j (fun e=>hne ?_) b hbi hbj;rw[<- (hinvS id i hi).2,<- (hinvS id' j hj).2,e]
  ·exact(h.own id' b hbj).2.1 (hFO i b hbi)
  ·exact(h.own id b hbi).2.1 (hFO j b hbj)
  ·exact h.dBB id id' hne b hbi hbj
 ·obtain⟨q1,_,_,q5,_⟩:=hown b hb
  rcases hc with hc|hc
  ·exact q1 (hk b hc)
  ·exact hod b q1 q5 hc
 ·rcases hb with hb|hb
  ·show b<(w.putObj l o).heap.size;omega
  ·exact(hall b hb).2.1
 ·obtain⟨q1,q2,cs,e,fz,q3,q4⟩:=hgl g d hg;refine⟨.inl q1,⟨.inl q2,fun hc=>by have:=(hall g hc).1;omega⟩,cs,e,fz,(hW0 g q1).trans q3,q4.mono (fun b hb _=>?_) (fun _ h=>h.elim) (fun _ h=>h.elim)⟩
  rcases hb with hb|hb
  ·exact hb.elim
  ·cases hb
 ·obtain⟨q1,_,_,q5,_⟩:=hown b hb;exact⟨.inr (Nat.le_of_not_lt (fun hc=>q1 (hk b hc))),hod b q1 q5⟩
theorem V.rangeK{g p n:Nat}{asg body:Code}{envA env0:List (Nat×D)}{ids:List Nat}{f:FuncId}[hf:CaT P f]{capsA caps xs:List D}{MK bx0:List (Nat×Bx)}{m:Nat->Nat}{bxs:Nat->List (Nat×Bx)}{Stop:Exit->List (Nat×Bx)->Prop}(J:Nat->Prop)
 {Q:Exit->Bool×Sg->Prop} {m0:Bool} (hgl:Glw gl W0 G) (hI:ItrK P gl f caps bx0 xs) (hg:lk envA g=some (.fn f capsA)) (hca:D.rens m caps=capsA) (hcp:D.okBs (bx0.map Prod.fst) caps=true) (hhas:GX MK (u1 m bx0)) (hob:A3 (bx0.map Prod.fst) bx0) (hinj:injB m (bx0.map Prod.fst)=true)
 (hout:∀ i∈bx0.map Prod.fst,u6 ids (m i)=false) (hsub:∀ t d,lk env0 t=some d->lk envA t=some d) (hoe:C0 ids env0=true) {envZ:List (Nat×D)} (hsubZ:∀ t d,lk envZ t=some d->lk envA t=some d) (hoZ:C0 (ids++(bx0.map Prod.fst).map m) envZ=true) (hpZ:D7 envZ=true) (hkp:n8 ids MK=bxs 0) (hp:p<n) (hpe:D7 env0=true)
 (hkeys:∀ id,(lk (bxs 0) id).isSome=o3 ids id) (hf0:S0 (bxs 0)) (hxs:∀ k (h:k<xs.length),xs[k].pur=true/\xs[k].np=true)
 (hJ:J 0)
 (hround:∀ k (h:k<xs.length),J k->∀ C':Ctx,C'.gl=gl->(∀ id b,C'.pin id=some b->o3 ids id=true)->W P C' asg (fun e σ'=>e=.normal/\∀ C':Ctx,C'.gl=gl->(∀ id b,C'.pin id=some b->o3 ids id=true) ->
  W P C' body (fun e σ'=>(e=.normal/\(n8 ids σ'.bx=bxs (k+1)/\J (k+1))∨(e=.ret∨∃ id,e=.exit id)/\Stop e (n8 ids σ'.bx))/\S0 (n8 ids σ'.bx)) σ') ((⟨n,env0,bxs k⟩:Sg).set p xs[k]))
 (hN:J xs.length->Q .normal (true,⟨n,envZ,u1 m bx0++bxs xs.length⟩)) (hS:∀ e bx,(e=.ret∨∃ id,e=.exit id)->Stop e bx->Q e (true,⟨n,envZ,u1 m bx0++bx⟩)) :
 V P none (AM (JF gl W0 G)) (.rangeFunc (.tmp g) #[p] asg body) Q (m0,⟨n,envA,MK⟩):=by
 intro a w ⟨C,⟨h1,h2,h3,h4,h5,h6,h7⟩,ρ,Fe,Fb,st⟩;have hlt:=st.lt
 have hpure:∀ t d,lk env0 t=some d->∃ v,a.tmps[t]? = some v/\VR w ρ (gd C Fe Fb) (fun id=>o3 ids id=true) d v []:=by
  intro t d hd;obtain⟨hp1,hp2⟩:=D6 hpe hd;obtain⟨v,hv,hr⟩:=(j2 hp2).1 (st.env t d (hsub t d hd));have:=hr.pur hp1;rw[this] at hr;exact⟨v,hv,(hr.okB (D9 hoe hd)).mono (fun _ _ _=>rfl) (fun _ h _=>h) (fun id hid=>⟨hid.1,rfl⟩)⟩
 have hpureZ:∀ t d,lk envZ t=some d->∃ v,a.tmps[t]? = some v/\VR w ρ (gd C Fe Fb) (fun id=>u6 (ids++(bx0.map Prod.fst).map m) id=true) d v []:=by
  intro t d hd;obtain⟨hp1,hp2⟩:=D6 hpZ hd;obtain⟨v,hv,hr⟩:=(j2 hp2).1 (st.env t d (hsubZ t d hd));have:=hr.pur hp1;rw[this] at hr;exact⟨v,hv,(hr.okB (D9 hoZ hd)).mono (fun _ _ _=>rfl) (fun _ h _=>h) (fun id hid=>⟨hid.1,rfl⟩)⟩
 obtain⟨vg,hvg,hrg⟩:=(j2 rfl).1 (st.env g _ hg);simp only[VR,D.isAgg,Bool.false_eq_true,if_false] at hrg
 have hbL:∀ u,lk (bxs 0) u=if u6 ids u then lk MK u else none:=fun u=>by rw[<- hkp];exact Y0 ids MK u
 let FbK:Nat->List Nat:=fun id=>if u6 ids id then Fb id else[]
 let Fbc:Nat->List Nat:=fun i=>if(lk bx0 i).isSome then Fb (m i) else[]
 have hKsub:∀ id b,b∈FbK id->u6 ids id=true/\b∈Fb id:=fun id b hb=>by
  by_cases hi:u6 ids id=true
  ·exact⟨hi,by simpa [FbK,hi] using hb⟩
  ·simp[FbK,hi] at hb
 have hFc:∀ i b,b∈Fbc i->i∈bx0.map Prod.fst/\b∈Fb (m i):=fun i b hb=>by
  by_cases h:(lk bx0 i).isSome=true
  ·exact⟨o8.1 h,by simpa [Fbc,h] using hb⟩
  ·simp[Fbc,h] at hb
 have hij:=OJ hinj
 have hmem:∀ i,u6 (bx0.map Prod.fst) i=true->(lk bx0 i).isSome=true:=fun i hi=>by
  rw[o8];simp only[u6,List.any_eq_true] at hi;obtain⟨j,hj,he⟩:=hi;rw[Nat.eq_of_beq_eq_true he];exact hj
 have hb1:∀ i x,lk bx0 i=some x->(⟨n,envA,MK⟩:Sg).box (m i)=some (x.ren m):=fun i x hx=>KI hhas _ _ (DY (BM hx))
 obtain⟨vs,rfl,hvl,hva,hvr⟩:∃ vs:List Value,vg=.func (.func f) #[] vs.toArray/\vs.length=caps.length/\(∀ k (h:k<caps.length),caps[k].isAgg=false)/\∀ k (h:k<caps.length),Rc w (fun i=>ρ (m i)) (gd C Fe Fb) (fun i=>(lk bx0 i).isSome=true) true caps[k] [vs.getD k undef] []:=by
  rw[B4] at hca;subst hca;generalize Fe g=Fg at hrg
  cases hrg with
  | fn _ _ vs hl ha hr=>
   refine⟨vs,rfl,by simpa using hl,fun k hk=>?_,fun k hk=>?_⟩
   ·have:=ha k (by simpa using hk);rw[List.getElem_map,C7] at this;exact this
   ·have h1:=hr k (by simpa using hk);rw[List.getElem_map] at h1;have h2:Rc w (fun i=>ρ (m i)) (gd C Fe Fb) (fun i=>((⟨n,envA,MK⟩:Sg).box (m i)).isSome=true) true caps[k] [vs.getD k undef] []:=h1.unren rfl (fun i hi=>⟨hi,rfl⟩);exact(h2.okB (T6 caps hcp k hk)).mono (fun _ _ _=>rfl) (fun _ h _=>h) (fun i hi=>⟨hmem i hi.1,rfl⟩)
 refine wpIn_rangeFunc fun fn _=>?_
 let r0:=rec0 fn a.tmps p asg body w.heap.size
 let w2:World:=(w.alloc (.deferred (some []))).alloc (.loop r0)
 have hw2:∀ b,b<w.heap.size->w2.heap[b]? = w.heap[b]?:=fun b hb=>by
  show((w.heap.push _).push _)[b]? = _;rw[Array.getElem?_push_lt (by simp;omega),Array.getElem_push_lt hb,Array.getElem?_eq_getElem hb]
 have hw2d:w2.heap[w.heap.size]? = some (.deferred (some [])):=by
  show((w.heap.push _).push _)[w.heap.size]? = _;rw[Array.getElem?_push_lt (by simp)];simp
 have hw2l:w2.heap[w.heap.size+1]? = some (.loop r0):=by
  show((w.heap.push (.deferred (some []))).push _)[w.heap.size+1]? = _
  have e:w.heap.size+1=(w.heap.push (Obj.deferred (some []))).size:=by simp
  rw[e,Array.getElem?_push_size]
 have hw2s:w2.heap.size=w.heap.size+2:=by
  show((w.heap.push _).push _).size=_;simp
 have hevg:a.eval (.tmp g)=.func (.func f) #[] vs.toArray:=w3 hvg;obtain⟨ff,hff1,hff2,hff3⟩:=hf.i;refine⟨w.heap.size+1,[H5 w.heap.size],w2,{ target:=.fn (.func f) vs.toArray,args:=#[.func (.yield (w.heap.size+1)) #[] #[]] },w2,f,#[.func (.yield (w.heap.size+1)) #[] #[]]++vs.toArray,w2, ?_, ?_,(fun _ _=>trivial), ?_,(fun h=>by cases h), ?_⟩
 ·exact run_enterLoop_outer fn a.tmps #[p] asg body
 ·simp[resolve,rangeCall,hvg,Deferred.ofValue,Act.eval]
 ·simp[invoke,L6 hff1 hff2 hff3]
 let sz:=w.heap.size
 let l:=w.heap.size+1
 let dd:=w.heap.size
 let G1:Nat->Prop:=fun b=>gd C Fe Fb b/\b<w.heap.size
 let Y:Yt:=fun k s O w'=>((∀ b,G1 b->w'.heap[b]? = w.heap[b]?)/\∀ b,O b->b<w'.heap.size)/\(s=false->(k<=xs.length/\J k)/\w'.heap[l]? = some (.loop r0)/\∃ Fb',Last C n a env0 ids ρ G1 sz l dd (bxs k) Fb' O w') /\
  (s=true->∃ e c bx Fb',(e=.ret∨∃ id,e=.exit id)/\Stop e bx/\jmp e=some c/\w'.heap[l]? = some (.loop { r0 with state:=.done,pending:=some c })/\Last C n a env0 ids ρ G1 sz l dd bx Fb' O w')
 have hkl:∀ b,C.keep b->b<w.heap.size:=fun b hb=>Nat.lt_of_lt_of_le (st.kept b hb).2 st.grown
 have hz:∀ b,sz<=b->¬ C.keep b:=fun b hb hc=>by have:=hkl b hc;have:sz=w.heap.size:=rfl;omega
 have hY:Stable Y:=by
  intro k s O O' w₁ w₂ ⟨⟨y0,_⟩,y1,y2⟩ ha
  have hrec:∀ bx Fb' o,Last C n a env0 ids ρ G1 sz l dd bx Fb' O w₁->w₁.heap[l]? = some o->w₂.heap[l]? = some o:=fun bx Fb' o hL ho=>by
   rw[ha.same l (Array.getElem?_eq_some_iff.1 ho).1 (fun hc=>(hL.O_ge l hc).2.1 rfl)];exact ho
  refine⟨⟨fun b hb=>?_,ha.lt⟩,fun hs=>?_,fun hs=>?_⟩
  ·obtain⟨bx,Fb',hL⟩:∃ bx Fb',Last C n a env0 ids ρ G1 sz l dd bx Fb' O w₁:=by
    cases s with
    | false=>obtain⟨_,_,Fb',q3⟩:=y1 rfl;exact⟨_,Fb',q3⟩
    | true=>obtain⟨_,_,bx,Fb',_,_,_,_,q5⟩:=y2 rfl;exact⟨bx,Fb',q5⟩
   have h1:=(hL.G1_lt b hb).1;have h2:=hL.size;rw[ha.same b (by omega) (fun hc=>(hL.O_ge b hc).1.2 hb)];exact y0 b hb
  ·obtain⟨q1,q2,Fb',q3⟩:=y1 hs;exact⟨q1,hrec _ _ _ q3 q2,Fb',q3.apart hz ha⟩
  ·obtain⟨e,c,bx,Fb',q1,q2,q3,q4,q5⟩:=y2 hs;exact⟨e,c,bx,Fb',q1,q2,q3,hrec _ _ _ q5 q4,q5.apart hz ha⟩
 have hgC:∀ g' d,(g',d)∈C.gl->C.keep g'/\G1 g'/\∃ cs e fz,C.w0.heap[g']? = some (.cells cs e fz)/\Rc C.w0 (fun x=>x) (fun _=>False) (fun _=>False) false d cs.toList []:=fun g' d hgd=>by
  obtain⟨q1,q2,q3⟩:=st.gl g' d hgd;exact⟨q1,⟨⟨q2,fun ho=>st.new g' ho q1⟩,hkl g' q1⟩,q3⟩
 have hO0:∀ b,(∃ i,b∈Fbc i)->own Fe Fb b:=fun b ⟨i,hi⟩=>.inr ⟨m i,(hFc i b hi).2⟩
 have hL0:Last C n a env0 ids ρ G1 sz l dd (bxs 0) FbK (fun b=>∃ i,b∈Fbc i) w2:=by
  refine Last.mk hkeys hf0 (fun t d hd=>?_) (fun id d hd=>?_) (fun id hid=>?_) (fun id=>?_) (fun id id' hne b hb hb'=>st.dBB id id' hne b (hKsub id b hb).2 (hKsub id' b hb').2) (fun id b hb=>?_) (fun b hb=>⟨⟨st.new b (hO0 b hb),fun hc=>hc.1.2 (hO0 b hb)⟩,by have:=hlt b (hO0 b hb);show b≠w.heap.size+1;omega,by have:=hlt b (hO0 b hb);show b≠w.heap.size;omega⟩) (fun b hb=>?_) (fun b hb=>?_) st.os ⟨st.tape.tp,st.tape.dr⟩ st.output (by rw[hw2s];show w.heap.size<=_;omega) (by rw[hw2s];show w.heap.size+1<_;omega) (by rw[hw2s];show w.heap.size<_;omega) (by show w.heap.size+1≠w.heap.size;omega) hw2d
  ·obtain⟨v,q1,q2⟩:=hpure t d hd;exact⟨v,q1,q2.mono (fun b hb hl=>hw2 b hl) (fun b hb hl=>⟨hb,hl⟩) (fun _ h=>⟨h,rfl⟩)⟩
  ·obtain⟨d0,hd0,hfr,hn0⟩:=N0 hf0 hd;cases hd0;have hx:=hbL id;rw[hd] at hx
   have hm:u6 ids id=true:=by
    by_cases hm:u6 ids id=true
    ·exact hm
    ·rw[if_neg hm] at hx;cases hx
   rw[if_pos hm] at hx;obtain⟨cs,e,F',q1,q2,q3⟩:=st.bx id _ hx.symm;have hbl:ρ id<w.heap.size:=(Array.getElem?_eq_some_iff.1 q1).1;exact⟨cs,e,F',(hw2 _ hbl).trans q1,q2.frsAll hfr hn0 (fun b hb hl=>hw2 b hl),by simp only[FbK,hm,if_true];exact q3⟩
  ·have hx:=hbL id;rw[hid] at hx;by_cases hm:u6 ids id=true
   ·rw[if_pos hm] at hx;simp only[FbK,hm,if_true];exact st.bxN id hx.symm
   ·simp[FbK,hm]
  ·show(if u6 ids id then Fb id else[]).Nodup;split
   ·exact st.nodB id
   ·exact List.nodup_nil
  ·obtain⟨hm,hb⟩:=hKsub id b hb;have hbl:b<w.heap.size:=hlt b (.inr ⟨id,hb⟩)
   exact⟨st.new b (.inr ⟨id,hb⟩),(fun⟨i,hi⟩=>by
    obtain⟨h1,h2⟩:=hFc i b hi;refine st.dBB id (m i) (fun e=>?_) b hb h2;have:=hout i h1;rw[<- e,hm] at this
    cases this),(fun hc=>hc.1.2 (.inr ⟨id,hb⟩)),by show b≠w.heap.size+1;omega,by show b≠w.heap.size;omega,by rw[hw2s];omega⟩
  ·have hbl:b<w.heap.size:=hb.2;exact⟨hb.2,by show b≠w.heap.size+1;omega,by show b≠w.heap.size;omega⟩
  ·have hbl:=hkl b hb;exact⟨(hw2 b hbl).trans (st.kept b hb).1,hbl,by show b≠w.heap.size+1;omega,by show b≠w.heap.size;omega⟩
 have hcalls:=hI w2 G1 (fun i=>ρ (m i)) Fbc vs l Y (fun b hb=>by rw[hw2s];have:b<w.heap.size:=hb.2;omega) (fun g' d hgd=>by
  obtain⟨q1,cs,e,fz,q2,q3⟩:=GU st g' d (by rw[h1];exact hgd);have hbl:=(Array.getElem?_eq_some_iff.1 q2).1
  exact⟨⟨q1,hbl⟩,cs,e,fz,(hw2 g' hbl).trans q2,q3.mono (fun b hb _=>by rcases hb with hb|hb;exact hb.elim;cases hb) (fun _ h=>h.elim) (fun _ h=>h.elim)⟩) hvl (fun k hk=>by
  have hv:VR w (fun i=>ρ (m i)) (gd C Fe Fb) (fun i=>(lk bx0 i).isSome=true) caps[k] (vs.getD k undef) []:=by
   simp only[VR,hva k hk,Bool.false_eq_true,if_false];exact hvr k hk
  exact hv.mono (fun b hb hl=>hw2 b hl) (fun b hb hl=>⟨hb,hl⟩) (fun _ h=>⟨h,rfl⟩))
  ⟨fun id x hx=>by
   have h1:=st.bx _ _ (hb1 id x hx);have h2:BR w (fun i=>ρ (m i)) (gd C Fe Fb) (fun i=>((⟨n,envA,MK⟩:Sg).box (m i)).isSome=true) (ρ (m id)) x (Fb (m id)):=h1.unren (fun i hi=>⟨hi,rfl⟩);have h3:=(h2.okB (M9 hob hx)).mono (w':=w2) (G':=G1) (L':=fun i=>(lk bx0 i).isSome=true) (ρ':=fun i=>ρ (m i)) (fun b hb hl=>hw2 b hl) (fun b hb hl=>⟨hb,hl⟩) (fun i hi=>⟨hmem i hi.1,rfl⟩);show BR w2 _ _ _ _ _ (if(lk bx0 id).isSome then Fb (m id) else[]);rw[if_pos (by rw[hx];rfl)]
   exact h3,fun id hx=>by simp[Fbc,hx],fun id=>by
   show(if(lk bx0 id).isSome then Fb (m id) else[]).Nodup;split
   ·exact st.nodB _
   ·exact List.nodup_nil,fun id id' hne b hb hb'=>by
   obtain⟨h1,h2⟩:=hFc id b hb;obtain⟨h3,h4⟩:=hFc id' b hb'
   exact st.dBB (m id) (m id') (fun e=>hne (hij id h1 id' h3 e)) b h2 h4,fun id b hb hc=>hc.1.2 (.inr ⟨m id,(hFc id b hb).2⟩)⟩ hY
  (fun k O w₁ v hk hYk hO hv=>by
   obtain⟨⟨_,hJk⟩,hrec,Fb',hL⟩:=hYk.2.1 rfl;have ha:=hround k hk hJk;have hround':=hL.round (r:=r0) hrec rfl rfl rfl rfl rfl st.size hO hp hv (hxs k hk).1 (hxs k hk).2 hpe hgC (E:=fun e bx'=>e=.normal/\(bx'=bxs (k+1)/\J (k+1))∨(e=.ret∨∃ id,e=.exit id)/\Stop e bx')
    (fun C' hC' hD'=>(ha C' (hC'.trans h1) hD').mono (fun e s h=>⟨h.1,fun C'' hC'' hD''=>h.2 C'' (hC''.trans h1) hD''⟩)) (fun e bx' he=>he.elim (fun h=>.inl h.1) (fun h=>.inr h.1))
   obtain⟨f',tm,as',bd,hrun,hR⟩:=hround';refine⟨f',tm,as',bd,hrun,hR.mono ?_⟩;rintro e' w₂ ⟨s,he',e,bx',Fb'',hE,hs,hrec',hL',hsame,hsz⟩
   have hG:∀ b,G1 b->w₂.heap[b]? = w.heap[b]?:=fun b hb=>by
    have h1:=(hL.G1_lt b hb).1;have h2:=hL.size;rw[hsame b (by omega) (fun⟨id,hid⟩=>(hL.own id b hid).2.2.1 hb) (hL.G1_lt b hb).2.1];exact hYk.1.1 b hb
   have hOz:∀ b,O b->b<w₂.heap.size:=fun b hb=>Nat.lt_of_lt_of_le (hO b hb) hsz;refine⟨s,he',⟨⟨hG,hOz⟩, ?_⟩,fun b hb hl=>?_,hsz⟩
   ·rcases hE with ⟨rfl,rfl,hJ1⟩|⟨hee,hst⟩
    ·have:s=false:=hs;subst this;exact⟨fun _=>⟨⟨hk,hJ1⟩,hrec',Fb'',hL'⟩,fun h=>by cases h⟩
    ·obtain⟨c,hc⟩:∃ c,jmp e=some c:=by rcases hee with rfl|⟨id,rfl⟩<;>exact⟨_,rfl⟩
     rw[hc] at hs hrec';have:s=true:=hs;subst this;exact⟨fun h=>(by cases h),fun _=>⟨e,c,bx',Fb'',hee,hst,hc,hrec',hL'⟩⟩
   ·refine hsame b hl (fun⟨id,hid⟩=>?_) (fun hbl=>?_)
    ·obtain⟨q1,q2,q3,q4,q5,q6⟩:=hL.own id b hid;exact hb.elim q3 q2
    ·rcases hb with hb|hb
     ·exact(hL.G1_lt b hb).2.1 hbl
     ·exact(hL.O_ge b hb).2.1 hbl)
  ⟨⟨fun b hb=>hw2 b hb.2,fun b hb=>by have:=hlt b (hO0 b hb);rw[hw2s];omega⟩,fun _=>⟨⟨Nat.zero_le _,hJ⟩,hw2l,FbK,hL0⟩,fun h=>by cases h⟩
 refine callsIn_wide.2 (Calls.mono hcalls ?_);rintro e w₃ ⟨⟨v,rfl⟩,k,s,O,Fbk,hYk,hend,hFO,hHand⟩;obtain⟨dds,hd1,hd2,hd3⟩:=h7.l
 have hdfs:a.defers=dds.map H5:=by rw[st.defs,hd1]
 have hfin:∀ bx Fb' (o:Obj),Last C n a env0 ids ρ G1 sz l dd bx Fb' O w₃->AM (JF gl W0 G) (true,⟨n,envZ,u1 m bx0++bx⟩) { a with defers:=[H5 w.heap.size]++a.defers } (w₃.putObj l o):=fun bx Fb' o hL=>by
  rw[hdfs];refine hL.finishK st.size hpZ h4 (fun b hb=>h6 b hb.1.1) h5 (Nat.le_trans h5.size st.grown) hgl o hd2 (fun d hd=>⟨(hd3 d hd).1,(hd3 d hd).2.1,(hd3 d hd).2.2.1⟩) (fun b hb hc=>(hd3 b hc).2.2.2 hb.1.1) hFO hYk.1.2 hHand hij hout (fun t d hd=>?_);obtain⟨v0,k1,k2⟩:=hpureZ t d hd;refine⟨v0,k1,k2.mono (fun b hb hl=>hYk.1.1 b ⟨hb.resolve_right (by simp),hl⟩) (fun b hb hl=>⟨hb,hl⟩) (fun id hid=>⟨?_,rfl⟩)⟩;simp only[u6,List.any_append,Bool.or_eq_true] at hid;rw[G7]
  cases hq:lk (u1 m bx0) id with
  | some q=>rfl
  | none=>
   rcases hid with hid|hid
   ·show(lk bx id).isSome=true;rw[hL.keys];exact hid
   ·simp only[List.any_eq_true] at hid;obtain⟨j,hj,he⟩:=hid;rw[Nat.eq_of_beq_eq_true he] at hq;obtain⟨i,hi,rfl⟩:=List.mem_map.1 hj;have:=P9 (m:=m) (o8.2 hi);rw[hq] at this;cases this
 cases s with
 | false=>
  have hke:k=xs.length:=hend.resolve_left (by simp);subst hke;obtain⟨⟨_,hJk⟩,hrec,Fb',hL⟩:=hYk.2.1 rfl;refine⟨_,_,run_endLoop hrec (by simp[r0,rec0]), ?_⟩;exact⟨_,hfin _ Fb' _ hL,hN hJk⟩
 | true=>
  obtain⟨e,c,bx,Fb',hee,hst,hc,hrec,hL⟩:=hYk.2.2 rfl;refine⟨_,_,run_endLoop hrec (by simp), ?_⟩
  rcases hee with rfl|⟨id,rfl⟩
  ·cases hc;exact wpIn_ret ⟨_,hfin _ Fb' _ hL,hS _ _ (.inl rfl) hst⟩
  ·cases hc;exact wpIn_exit ⟨_,hfin _ Fb' _ hL,hS _ _ (.inr ⟨_,rfl⟩) hst⟩
theorem WN{gl:List (Nat×D)}{W0:World}{G:Nat->Prop}{g p n:Nat}{asg body:Code}{envA env0:List (Nat×D)}{MK bx0:List (Nat×Bx)}{f:FuncId}[hf:CaT P f]{capsA caps:List D}(ml:List (Nat×Nat))(live liveZ:List Nat){envZ:List (Nat×D)}
 (ids:List Nat) (N:Nat) (xd:Nat->D) (bxs:Nat->List (Nat×Bx)) (Stop:Exit->List (Nat×Bx)->Prop) (J:Nat->Prop)
 {Q:Exit->Bool×Sg->Prop} {m0:Bool} (hgl:Glw gl W0 G) (hI:ItrK P gl f caps bx0 ((List.range N).map xd)) (hg:lk envA g=some (.fn f capsA)) (hca:D.rens (mlk ml) caps=capsA) (hcp:D.okBs (bx0.map Prod.fst) caps=true) (hhas:GX MK (u1 (mlk ml) bx0)) (hob:A3 (bx0.map Prod.fst) bx0) (hinj:injB (mlk ml) (bx0.map Prod.fst)=true)
 (hout:(bx0.map Prod.fst).all (fun i=>!u6 ids (mlk ml i))=true) (hsub:picks (lk envA) live=env0) (hoe:C0 ids env0=true) (hsubZ:picks (lk envA) liveZ=envZ) (hoZ:C0 (ids++(bx0.map Prod.fst).map (mlk ml)) envZ=true) (hpZ:D7 envZ=true) (hkp:n8 ids MK=bxs 0) (hp:Nat.blt p n=true) (hpe:D7 env0=true)
 (hkeys:(bxs 0).map Prod.fst=ids) (hf0:S0 (bxs 0)) (hxs:∀ k,(xd k).pur=true/\(xd k).np=true) (hJ:J 0)
 (hround:∀ k,k<N->J k->∀ C':Ctx,C'.gl=gl->(∀ id b,C'.pin id=some b->o3 ids id=true)->W P C' asg (fun e σ'=>e=.normal/\∀ C':Ctx,C'.gl=gl->(∀ id b,C'.pin id=some b->o3 ids id=true) ->
  W P C' body (fun e σ'=>(e=.normal/\(n8 ids σ'.bx=bxs (k+1)/\J (k+1))∨(e=.ret∨∃ id,e=.exit id)/\Stop e (n8 ids σ'.bx))/\S0 (n8 ids σ'.bx)) σ') ((⟨n,env0,bxs k⟩:Sg).set p (xd k)))
 (hN:J N->Q .normal (true,⟨n,envZ,u1 (mlk ml) bx0++bxs N⟩)) (hS:∀ e bx,(e=.ret∨∃ id,e=.exit id)->Stop e bx->Q e (true,⟨n,envZ,u1 (mlk ml) bx0++bx⟩)) :
 V P none (AM (JF gl W0 G)) (.rangeFunc (.tmp g) #[p] asg body) Q (m0,⟨n,envA,MK⟩):=by
 have hlen:((List.range N).map xd).length=N:=by simp
 have hkeys':∀ id,(lk (bxs 0) id).isSome=o3 ids id:=by
  intro id;rw[<- hkeys];generalize bxs 0=l
  induction l with
  | nil=>rfl
  | cons x r ih=>
   obtain⟨k,b⟩:=x;rw[v4];simp only[o3,List.map_cons,List.any_cons] at ih ⊢;by_cases hk:k=id
   ·subst hk;simp
   ·simp only[hk,if_false,ih];rw[nbeq (fun h=>hk h.symm)];simp
 have e:∀ k (h:k<((List.range N).map xd).length),((List.range N).map xd)[k]=xd k:=fun k h=>by simp
 refine V.rangeK (ids:=ids) (bxs:=bxs) (Stop:=Stop) J hgl hI hg hca hcp hhas hob hinj (fun i hi=>by have:=List.all_eq_true.1 hout i hi;simpa using this) (fun t d hd=>H6 (f:=lk envA) (l:=live) (by rw[hsub];exact hd)) hoe (fun t d hd=>H6 (f:=lk envA) (l:=liveZ) (by rw[hsubZ];exact hd)) hoZ hpZ hkp (Nat.le_of_ble_eq_true hp) hpe hkeys' hf0 (fun k hk=>by rw[e];exact hxs k) hJ (fun k hk hJk=>?_) (by rw[hlen];exact hN) hS;rw[e];exact hround k (by simpa using hk) hJk
theorem PF{c:Code}{Q:Exit->Sg->Prop}{bx':List (Nat×Bx)}(h1:GX σ.bx bx')(h2:(σ.bx.map Prod.fst).all (u6 (bx'.map Prod.fst))=true)(h:W P C c Q ⟨σ.n,σ.env,bx'⟩):W P C c Q σ:=by
 have e:∀ id,lk bx' id=lk σ.bx id:=fun id=>by
  cases hx:lk bx' id with
  | some x=>exact(KI h1 _ _ (BM hx)).symm
  | none=>
   cases hy:lk σ.bx id with
   | none=>rfl
   | some y=>
    have h3:=List.all_eq_true.1 h2 id (o8.1 (by rw[hy];rfl));simp only[u6,List.any_eq_true] at h3;obtain⟨j,hj,he⟩:=h3;have:=o8.2 hj;rw[<- Nat.eq_of_beq_eq_true he,hx] at this;cases this
 have e2:(⟨σ.n,σ.env,bx'⟩:Sg).box=σ.box:=funext e;rintro a w ⟨ρ,Fe,Fb,st⟩;refine h a w ⟨ρ,Fe,Fb, ?_⟩;exact⟨st.size,st.defs,by rw[e2];exact st.pin,by rw[e2];exact st.env,st.envN,by rw[e2];exact st.bx,by rw[e2];exact st.bxN,st.nodE,st.nodB,st.dEE,st.dEB,st.dBB,st.new,st.kept,st.os,st.tape,st.output,st.grown,st.gl,st.okN,st.okO⟩
end Go.Sx

namespace Go.Sx
open Go.Proofs
theorem eqv_hash(a b:Hs):EqV Tryd.prog 2 26 (z5 a) (z5 b) (a==b):=EqV.arr a b
theorem GJ:KeyC Tryd.prog 26 z5 2 where
 s:=⟨_,Tryd.underlying26,trivial⟩
 eq:=fun a b=>by
  have h:=eqv_hash a b
  have e:(@BEq.beq Hs List.instBEq a b)=(@BEq.beq Hs instBEqOfDecidableEq a b):=by
   rw[Bool.eq_iff_iff,@beq_iff_eq Hs List.instBEq _ a b,@beq_iff_eq Hs instBEqOfDecidableEq _ a b]
  rw[<- e];exact h
 ck:=fun a=>CkV.arr a
 n:=rfl
 p:=fun _=>rfl
theorem VH:KeyD Tryd.prog z5 where
 same:=fun w ρ G L k v v' F F' h h'=>by
  have a1:(z5 k).isAgg=true:=rfl;simp only[VR,a1,if_true] at h h';obtain⟨cs,rfl,h⟩:=h;obtain⟨cs',rfl,h'⟩:=h';have q:=KH h;have q':=KH h';have e:cs=cs':=Array.toList_inj.1 (q.trans q'.symm);subst e;show Instr.sameBits (9999+1) _ _=true;simp only[Instr.sameBits,beq_self_eq_true,Bool.true_and];refine DX _ fun v hv=>?_;rw[q] at hv;obtain⟨b,_,rfl⟩:=List.mem_map.1 hv;exact⟨_,_,rfl⟩
theorem szP{o:Option Nat}{h:Hs}{n:UInt32}(e:o=some 33):o=some (D.agg [z5 h,.u32 n]).sz:=e.trans (congrArg some (show 33=(D.agg [z5 h,.u32 n]).sz from rfl))
theorem otB_mk(v:UInt64)(h:Hs):D.agg [.u64 v,z5 h]=g0 (v,h):=rfl
theorem plK_mk(h:Hs)(n:UInt32):D.agg [z5 h,.u32 n]=q7 (h,n):=rfl
theorem X1(ids:List Nat)(m:List (Plc×GR)):∀ kv∈m.map (fun e=>(q7 e.1,g0 e.2)),kv.1.okB ids=true/\kv.2.okB ids=true:=j6 (fun _=>rfl) (fun _=>rfl)
theorem X0(ids:List Nat)(m:List (Plc×Unit)):∀ kv∈m.map (fun e=>(q7 e.1,q9 e.2)),kv.1.okB ids=true/\kv.2.okB ids=true:=j6 (fun _=>rfl) (fun _=>rfl)
theorem J9(ids:List Nat)(m:List (Hs×Unit)):∀ kv∈m.map (fun e=>(z5 e.1,q9 e.2)),kv.1.okB ids=true/\kv.2.okB ids=true:=j6 (fun _=>rfl) (fun _=>rfl)
theorem renB1(m:Nat->Nat)(M:List (Plc×GR))(i:Nat)(r:List (Nat×Bx)):u1 m ((i,z8 q7 g0 M)::r)=(m i,z8 q7 g0 M)::u1 m r:=renMp (fun _=>LF _ _) (fun _=>rfl) M i r
theorem renB2(m:Nat->Nat)(M:List (Plc×Unit))(i:Nat)(r:List (Nat×Bx)):u1 m ((i,z8 q7 q9 M)::r)=(m i,z8 q7 q9 M)::u1 m r:=renMp (fun _=>LF _ _) (fun _=>rfl) M i r
theorem renB3(m:Nat->Nat)(M:List (Hs×Unit))(i:Nat)(r:List (Nat×Bx)):u1 m ((i,z8 z5 q9 M)::r)=(m i,z8 z5 q9 M)::u1 m r:=renMp (fun _=>NY _ _) (fun _=>rfl) M i r
theorem D1(m:Nat->Nat)(o:List (Plc×GR))(s:List (Plc×Unit))(d:List (Hs×Unit))(i0 i1 i2 i3:Nat) :
 u1 m [(i0,.var (.agg [.map i1,.map i2,.map i3])),(i1,z8 q7 g0 o),(i2,z8 q7 q9 s),(i3,z8 z5 q9 d)]=[(m i0,.var (.agg [.map (m i1),.map (m i2),.map (m i3)])),(m i1,z8 q7 g0 o),(m i2,z8 q7 q9 s),(m i3,z8 z5 q9 d)]:=by
 show(m i0,Bx.var (.agg [.map (m i1),.map (m i2),.map (m i3)]))::u1 m _=_;rw[renB1,renB2,renB3];rfl
theorem renBn(m:Nat->Nat)(o:List (Plc×GR))(s:List (Plc×Unit))(d:List (Hs×Unit))(i0 i1 i2 i3:Nat) :
 u1 m [(i0,.var (.agg [.map i1,.map i2,.map i3])),(i3,z8 z5 q9 d),(i2,z8 q7 q9 s),(i1,z8 q7 g0 o)]=[(m i0,.var (.agg [.map (m i1),.map (m i2),.map (m i3)])),(m i3,z8 z5 q9 d),(m i2,z8 q7 q9 s),(m i1,z8 q7 g0 o)]:=by
 show(m i0,Bx.var (.agg [.map (m i1),.map (m i2),.map (m i3)]))::u1 m _=_;rw[renB3,renB2,renB1];rfl
theorem renTc(m:Nat->Nat)(t:TxS)(o:List (Plc×GR))(s:List (Plc×Unit))(d:List (Hs×Unit))(a b i0 i1 i2 i3:Nat) :
 u1 m [(a,.var (U7 t)),(b,.var (.ptr i0 0 [])),(i0,.var (.agg [.map i1,.map i2,.map i3])),(i1,z8 q7 g0 o),(i2,z8 q7 q9 s),(i3,z8 z5 q9 d)] =
  [(m a,.var (U7 t)),(m b,.var (.ptr (m i0) 0 [])),(m i0,.var (.agg [.map (m i1),.map (m i2),.map (m i3)])),(m i1,z8 q7 g0 o),(m i2,z8 q7 q9 s),(m i3,z8 z5 q9 d)]:=by
 show(m a,Bx.var (U7 t))::(m b,Bx.var (.ptr (m i0) 0 []))::(m i0,Bx.var (.agg [.map (m i1),.map (m i2),.map (m i3)]))::u1 m _=_;rw[renB1,renB2,renB3];rfl
end Go.Sx

namespace Go.Sx
def VA(x:InS):Nat->Nat
 | 0=>0
 | w+1=>VA x w+x.wit[w]!.length
def fnI(t:TxS):Nat->Nat
 | 0=>0
 | i+1=>fnI t i+t.ins[i]!.script.length+t.ins[i]!.wit.length+VA t.ins[i]! t.ins[i]!.wit.length
def fnO(t:TxS):Nat->Nat
 | 0=>fnI t t.ins.length
 | k+1=>fnO t k+t.outs[k]!.script.length
def fewT(t:TxS):Prop:=t.ins.length<=8/\t.outs.length<=8/\fnO t t.outs.length<=1000
instance(t:TxS):Decidable (fewT t):=by unfold fewT;infer_instance
def fewK(b:BlkS):Prop:=b.txs.length<=12/\∀ k<b.txs.length,fewT b.txs[k]!
instance(b:BlkS):Decidable (fewK b):=by unfold fewK;infer_instance
def fewL(l:List BlkS):Prop:=l.length<=20/\∀ i<l.length,fewK l[i]!
instance(l:List BlkS):Decidable (fewL l):=by unfold fewL;infer_instance
structure TxH(t:TxS):Prop where
 ins:t.ins.length<=140737488355328
 outs:t.outs.length<=140737488355328
 inw:∀ x∈t.ins,x.script.length<=140737488355328/\x.wit.length<=140737488355328/\VA x x.wit.length<=36028797018963968
 outw:∀ o∈t.outs,o.script.length<=140737488355328
def blkH(b:BlkS):Prop:=b.txs.length<=140737488355328/\∀ t∈b.txs,TxH t
def blksH(l:List BlkS):Prop:=l.length<=140737488355328/\∀ b∈l,blkH b
theorem fnW_le(x:InS){w n:Nat}(h:w<=n):VA x w<=VA x n:=by
 induction n with
 | zero=>rw[show w=0 by omega];exact Nat.le_refl _
 | succ n ih=>
  by_cases he:w=n+1
  ·rw[he];exact Nat.le_refl _
  ·have:=ih (by omega);rw[VA];omega
theorem fnI_le{t:TxS}(h:TxH t)(i:Nat)(hi:i<=t.ins.length):fnI t i<=i*36310272000000000:=by
 induction i with
 | zero=>exact Nat.zero_le _
 | succ i ih=>
  have h1:=ih (by omega);obtain⟨h2,h3,h4⟩:=h.inw _ (u9 (show i<t.ins.length by omega));rw[fnI];omega
theorem fnO_le{t:TxS}(h:TxH t)(k:Nat)(hk:k<=t.outs.length):fnO t k<=t.ins.length*36310272000000000+k*140737488355328:=by
 induction k with
 | zero=>exact Nat.le_trans (fnI_le h t.ins.length (Nat.le_refl _)) (Nat.le_add_right _ _)
 | succ k ih=>
  have h1:=ih (by omega);have h2:=h.outw _ (u9 (show k<t.outs.length by omega));rw[fnO];omega
theorem fnW_wit(x:InS)(n:Nat):VA x n<=(KZ x.wit n).length:=by
 induction n with
 | zero=>exact Nat.zero_le _
 | succ n ih=>
  rw[VA,KZ,List.length_append]
  have:x.wit[n]!.length<=(M2 x.wit[n]!).length:=by simp[M2]
  omega
theorem TxS.wf.fewH{t:TxS}(hw:t.wf):TxH t:=by
 have h1:=hw.ins;have h2:=hw.outs;refine⟨by omega,by omega,fun x hx=>?_,fun o ho=>?_⟩
 ·have h3:=hw.scr x hx;have h4:=hw.witl x hx;have h5:=h4.2 _ (Nat.le_refl _);have h6:=fnW_wit x x.wit.length;exact⟨by omega,by omega,by omega⟩
 ·have:=hw.oscr o ho;omega
theorem BlkS.wf.fewH{b:BlkS}(h:b.wf):blkH b:=⟨by have:=h.len;omega,fun t ht=>(h.txs t ht).fewH⟩
theorem allBl.fewH{l:List BlkS}(h:allBl l):blksH l:=⟨by have:=h.1;omega,fun b hb=>(h.2 b hb).fewH⟩
theorem ext_i{p:Nat->Prop}{i:Nat}(h:∀ q<i,p q)(hi:p i):∀ q<i+1,p q:=fun q hq=>(Nat.lt_succ_iff_lt_or_eq.1 hq).elim (h q) (fun e=>e▸hi)
end Go.Sx

namespace Go.Sx
section
variable{α:Type}(f:α->Nat)(p:α->Bool)
theorem sf_le(l:List α):((l.filter p).map f).sum<=(l.map f).sum:=by
 induction l with
 | nil=>exact Nat.le_refl _
 | cons a l ih=>
  rw[List.filter_cons]
  split<;>simp only[List.map_cons,List.sum_cons]<;>omega
theorem sf_one(l:List α):∀ (k:Nat) (hk:k<l.length),p l[k]=false->((l.filter p).map f).sum+f l[k]<=(l.map f).sum:=by
 induction l with
 | nil=>intro k hk;cases hk
 | cons a l ih=>
  intro k hk hp
  cases k with
  | zero=>
   simp only[List.getElem_cons_zero] at hp ⊢;rw[List.filter_cons,if_neg (by rw[hp];exact Bool.false_ne_true)];have:=sf_le f p l;simp only[List.map_cons,List.sum_cons];omega
  | succ k=>
   simp only[List.getElem_cons_succ] at hp ⊢;have:=ih k (by simpa using hk) hp;rw[List.filter_cons]
   split<;>simp only[List.map_cons,List.sum_cons]<;>omega
theorem sf_two(l:List α):∀ (k j:Nat) (hkj:k<j) (hj:j<l.length),p (l[k]'(Nat.lt_trans hkj hj))=false->p l[j]=false->((l.filter p).map f).sum+f (l[k]'(Nat.lt_trans hkj hj))+f l[j]<=(l.map f).sum:=by
 induction l with
 | nil=>intro k j hkj hj;cases hj
 | cons a l ih=>
  intro k j hkj hj hp hq
  obtain⟨j,rfl⟩:∃ i,j=i+1:=⟨j-1,by omega⟩
  have hj':j<l.length:=by simpa using hj
  cases k with
  | zero=>
   simp only[List.getElem_cons_zero,List.getElem_cons_succ] at hp hq ⊢;rw[List.filter_cons,if_neg (by rw[hp];exact Bool.false_ne_true)];have:=sf_one f p l j hj' hq;simp only[List.map_cons,List.sum_cons];omega
  | succ k=>
   simp only[List.getElem_cons_succ] at hp hq ⊢;have:=ih k j (by omega) hj' hp hq;rw[List.filter_cons]
   split<;>simp only[List.map_cons,List.sum_cons]<;>omega
theorem le_sum2(l:List α)(k j:Nat)(hkj:k<j)(hj:j<l.length):f (l[k]'(Nat.lt_trans hkj hj))+f l[j]<=(l.map f).sum:=by
 have:=sf_two f (fun _=>false) l k j hkj hj rfl rfl;omega
end
def thr(A:List StS):List (Plc×UInt64):=P8 A A.length
def frA(A:List StS)(p:Plc):Bool:=A.any fun s=>KW s.t p s.t.ins.length
theorem OI(A:List StS)(p:Plc):JT A A.length 0 p=frA A p:=by
 rw[Bool.eq_iff_iff];unfold JT frA;rw[List.any_eq_true,List.any_eq_true];constructor
 ·rintro ⟨i,hi,h⟩
  have hi':i<A.length:=by have:=List.mem_range.1 hi;omega
  rw[W1 hi'] at h;exact⟨_,u9 hi',h⟩
 ·rintro ⟨s,hs,h⟩;obtain⟨i,hi,rfl⟩:=List.mem_iff_getElem.1 hs;refine⟨i,List.mem_range.2 (by omega), ?_⟩;rw[W1 hi,getElem!_pos A i hi];exact h
theorem frA_app(A:List StS)(s:StS)(p:Plc):frA (A++[s]) p=(frA A p||KW s.t p s.t.ins.length):=by
 unfold frA;rw[List.any_append];simp
theorem J5{α:Type}[Inhabited α]{A r:List α}{i:Nat}(hi:i<A.length):(A++r)[i]! = A[i]!:=by
 rw[getElem!_pos (A++r) i (by rw[List.length_append];omega),getElem!_pos A i hi,List.getElem_append_left hi]
theorem Q5{α:Type}[Inhabited α]{A:List α}{s:α}:(A++[s])[A.length]! = s:=by
 rw[getElem!_pos (A++[s]) A.length (by simp)];simp
def B9(t:TxS)(x:Plc×UInt64):Bool:=!KW t x.1 t.ins.length
theorem thrK_app(A:List StS)(s:StS){i:Nat}(hi:i<A.length)(k:Nat):K0 (A++[s]) i k=(K0 A i k).filter (B9 s.t):=by
 induction k with
 | zero=>rfl
 | succ k ih=>
  rw[K0,K0,OI,OI,frA_app,J5 hi,ih]
  cases hA:frA A (A[i]!.id,UInt32.ofInt ((k:Nat):Int)) with
  | true=>rfl
  | false=>
   cases hs:KW s.t (A[i]!.id,UInt32.ofInt ((k:Nat):Int)) s.t.ins.length with
   | true=>
    rw[Bool.false_or,if_pos rfl,if_neg Bool.false_ne_true,List.filter_append,List.filter_cons,if_neg (by unfold B9;rw[hs];exact Bool.false_ne_true),List.filter_nil,List.append_nil]
   | false=>
    rw[Bool.false_or,if_neg Bool.false_ne_true,if_neg Bool.false_ne_true,List.filter_append,List.filter_cons,if_pos (by unfold B9;rw[hs];rfl),List.filter_nil]
theorem thrI_app(A:List StS)(s:StS)(i:Nat)(hi:i<=A.length):P8 (A++[s]) i=(P8 A i).filter (B9 s.t):=by
 induction i with
 | zero=>rfl
 | succ i ih=>rw[P8,P8,ih (by omega),thrK_app A s (by omega),J5 (by omega),List.filter_append]
theorem LJ(A:List StS)(s:StS):thr (A++[s])=(thr A).filter (B9 s.t)++K0 (A++[s]) A.length s.t.outs.length:=by
 unfold thr;rw[List.length_append,List.length_singleton,P8,thrI_app A s _ (Nat.le_refl _),Q5]
def osum(os:List OutS):Nat->Nat
 | 0=>0
 | k+1=>osum os k+os[k]!.value.toNat
theorem thrK_sum(l:List StS)(i k:Nat):((K0 l i k).map fun x=>x.2.toNat).sum<=osum l[i]!.t.outs k:=by
 induction k with
 | zero=>exact Nat.le_refl _
 | succ k ih=>
  rw[K0,osum];split
  ·omega
  ·rw[List.map_append,List.sum_append,List.map_cons,List.map_nil,List.sum_cons,List.sum_nil];dsimp only;omega
theorem UP{l:List StS}{i k:Nat}{x:Plc×UInt64}(h:x∈K0 l i k):∃ j<k,x=((l[i]!.id,nK j),l[i]!.t.outs[j]!.value):=by
 induction k with
 | zero=>cases h
 | succ k ih=>
  rw[K0] at h;split at h
  ·obtain⟨j,hj,e⟩:=ih h;exact⟨j,by omega,e⟩
  ·rcases List.mem_append.1 h with h|h
   ·obtain⟨j,hj,e⟩:=ih h;exact⟨j,by omega,e⟩
   ·exact⟨k,by omega,List.mem_singleton.1 h⟩
theorem MH{l:List StS}{i:Nat}{x:Plc×UInt64}(h:x∈P8 l i):∃ q<i,∃ j<l[q]!.t.outs.length,x=((l[q]!.id,nK j),l[q]!.t.outs[j]!.value):=by
 induction i with
 | zero=>cases h
 | succ i ih=>
  rcases List.mem_append.1 h with h|h
  ·obtain⟨q,hq,r⟩:=ih h;exact⟨q,by omega,r⟩
  ·obtain⟨j,hj,e⟩:=UP h;exact⟨i,by omega,j,hj,e⟩
theorem nK_inj{a b:Nat}(ha:a<=1000)(hb:b<=1000)(h:nK a=nK b):a=b:=by rw[<- QI ha,<- QI hb,h]
theorem TX(l:List StS)(i k:Nat)(hk:k<=1000):((K0 l i k).map Prod.fst).Nodup:=by
 induction k with
 | zero=>exact List.nodup_nil
 | succ k ih=>
  rw[K0];split
  ·exact ih (by omega)
  ·rw[List.map_append];refine List.nodup_append.2 ⟨ih (by omega),by simp,fun a ha b hb=>?_⟩;obtain⟨x,hx,rfl⟩:=List.mem_map.1 ha;obtain⟨j,hj,rfl⟩:=UP hx;simp only[List.map_cons,List.map_nil,List.mem_singleton] at hb;rw[hb];intro e;have:=nK_inj (by omega) (by omega) (congrArg Prod.snd e:nK j=nK k);omega
structure GoodT(A:List StS):Prop where
 outs:∀ s∈A,s.t.outs.length<=8
 ids:(A.map StS.id).Nodup
 keys:((thr A).map Prod.fst).Nodup
 val:((thr A).map fun x=>x.2.toNat).sum<=5000*A.length
theorem GoodT.nil:GoodT []:=⟨(fun _ h=>by cases h),List.nodup_nil,List.nodup_nil,Nat.le_refl _⟩
theorem GoodT.step{A:List StS}{s:StS}(g:GoodT A)(hid:∀ a∈A,a.id≠s.id)(ho:s.t.outs.length<=8)
 (hv:(((thr A).filter (B9 s.t)).map fun x=>x.2.toNat).sum+osum s.t.outs s.t.outs.length<=((thr A).map fun x=>x.2.toNat).sum+5000):GoodT (A++[s]) where
 outs:=fun x hx=>by
  rcases List.mem_append.1 hx with h|h
  ·exact g.outs x h
  ·rw[List.mem_singleton.1 h];exact ho
 ids:=by
  rw[List.map_append];refine List.nodup_append.2 ⟨g.ids,by simp,fun a ha b hb=>?_⟩;obtain⟨x,hx,rfl⟩:=List.mem_map.1 ha;simp only[List.map_cons,List.map_nil,List.mem_singleton] at hb;rw[hb];exact hid x hx
 keys:=by
  rw[LJ,List.map_append];refine List.nodup_append.2 ⟨g.keys.sublist (List.filter_sublist.map _),TX _ _ _ (by omega),fun a ha b hb=>?_⟩;obtain⟨x,hx,rfl⟩:=List.mem_map.1 ha;obtain⟨y,hy,rfl⟩:=List.mem_map.1 hb;obtain⟨q,hq,j,hj,rfl⟩:=MH (List.mem_filter.1 hx).1;obtain⟨k,hk,rfl⟩:=UP hy;rw[Q5];intro e;exact hid _ (u9 hq) (congrArg Prod.fst e)
 val:=by
  rw[LJ,List.map_append,List.sum_append,List.length_append,List.length_singleton];have h1:=thrK_sum (A++[s]) A.length s.t.outs.length;rw[Q5] at h1;have h2:=g.val;omega
end Go.Sx
