/- Proved: what functions of the given program compute (used by the theorem of this claim). Conditions: none but those that each theorem states. -/
import Derived.Test.YtgilikgghknbhaaDoorMSxTake
import Derived.Test.YtgilikgghknbhaaDoorMShaDefs
set_option linter.unusedVariables false
set_option linter.unusedSimpArgs false
set_option linter.unnecessarySimpa false

namespace Go.Sx
open Go.Proofs
theorem H8(a:Bg)(i:Nat)(ha:a.length=4)(hi0:i<=1000000):Fn Tryd.prog gl 105 [Q3 a,.int ((i:Nat):Int)] (.int ((c8 a i:Nat):Int)):=by
 refine Fn.of (n:=21) Tryd.func105 rfl rfl rfl (nU rfl) fun C hC hD=>?_;refine z7 2 [] [] [] (V2 0 1) Zt O O (⟨O,_,R.box (gV 0 O) O O (nU O),⟨O,_,v3 (kI 0 O) O (nU O),tV (V2 1 2) (b1 2) 21 O O O ?_⟩⟩);refine W.seq (z6 6 (y6 5 6 7 8 9 10) (V3 1 2 10) ⟨mU 1 O O,aU<|I7 0 O O O,mU 6 O O,aW O O (gF (dF (Nat.not_lt_zero _)) O)<|zV O O O,aW O O (gF (dF (Nat.not_lt_zero _)) O) fun _ _ H K=>R.geqN (i) (256) (eU K 8 O) (kI 256 O) H,aU<|zF O (dF (Nat.not_lt_zero _)) O O O,Zt⟩ O O O O ?_);refine z9 O (fun hc10=>?_) (fun hc10=>?_)
 ·refine z6 1 (y1 4) (V1 4) ⟨aU<|zK (kI 0 O) O O,Zt⟩ O O O O ?_;refine W.ret ?_;exact Ends.one' (.inr O) O (by rw[c8,if_pos hc10]) O O Zt
 ·refine W.skip (z6 11 (y11 11 12 13 14 15 16 17 18 19 20 4) (V1 4) ⟨mU 1 O O,aU fun _ _ H K=>O8 (i) (64) (eU K 11 O) (kI 64 O) bU bU H,aU<|PW ((i/64)) O O O bU O,aU fun _ B H K=>R.ldP (K 13 _ O) (B 2 _ O) (g8 (mG a) g7 bU) O O O H,mU 1 O O,aU fun _ _ H K=>E7 (i) (64) (eU K 15 O) (kI 64 O) bU H,aU<|zW O O O,aU fun _ _ H K=>m3 (d:=.u64 (o6 a[i/64]! (i%64))) (eU K 14 O) (eU K 17 O) O bV (congrArg D.u64 (shr_of _ _ bO)) H,aU<|P5 O (kW (.int .u64 1) (.u64 1) O) O O,aU fun _ _ H K=>Z3 (d:=.int (((o6 a[i/64]! (i%64)&&&1).toNat:Nat):Int)) (eU K 19 O) O (wr_and1 _) H,aU<|zA O O O,Zt⟩ O O O O ?_);refine W.ret ?_;exact Ends.one' (.inr O) O (by rw[c8,if_neg hc10]) O O Zt
theorem bit_neg(a:Bg)(i:Int)(hn:i<0)(hi0:-1000000<=i):Fn Tryd.prog gl 105 [Q3 a,.int i] (.int ((0:Nat):Int)):=by
 refine Fn.of (n:=21) Tryd.func105 rfl rfl rfl (nU rfl) fun C hC hD=>?_;refine z7 2 [] [] [] (V2 0 1) Zt O O (⟨O,_,R.box (gV 0 O) O O (nU O),⟨O,_,v3 (kI 0 O) O (nU O),tV (V2 1 2) (b1 2) 21 O O O ?_⟩⟩);refine W.seq (z6 6 [.y 5 _,.y 6 _,.y 7 _,.x 8,.x 9,.y 10 _] (V3 1 2 10) ⟨mU 1 O O,aU<|P5 O (kI 0 O) O O,mU 6 O O,aF O O (gT (dT hn) O),aF O O (gT (dT hn) O),aU<|AT O (dT hn) (kB true O) O O,Zt⟩ O O O O ?_);refine d6 O (O) ?_;refine z6 1 (y1 4) (V1 4) ⟨aU<|zK (kI 0 O) O O,Zt⟩ O O O O ?_;refine W.ret ?_;exact Ends.one' (.inr O) O (O) O O Zt
theorem O4(l:List Nat)(hl0:l.length<=1000000):Fn Tryd.prog gl 106 [.sl none 1 (l.map Q8)] (Q3 (A8 l)):=by
 refine Fn.of (n:=33) Tryd.func106 rfl rfl rfl (nU rfl) fun C hC hD=>?_;refine z7 1 [] [] [] (V1 0) Zt O O (o0 O O (tV (V2 0 2) (b1 2) 33 O O O ?_));refine z7 1 [] [] [] (V2 0 2) Zt O O (o0 O O (tV (V3 0 2 3) (b2 3 2) 33 O O O ?_));refine W.seq (z6 1 (y1 4) (V4 0 2 3 4) ⟨aU<|zK (kI 0 O) O O,Zt⟩ O O O O ?_);refine W.block ?_;refine W.loop (α:={q__:Nat//q__<=l.length/\q__<=256}) (fun q__=>⟨33,[(0,.sl none 1 (l.map Q8)),(2,.ptr 2 0 []),(3,.ptr 3 0 []),(4,.int ((q__.1:Nat):Int))],[(3,.var (Q3 (D3 l q__.1))),(2,.var (Q3 u4))]⟩) (fun q__=>256-q__.1) ⟨(0),⟨Nat.zero_le _,Nat.zero_le _⟩⟩ O ?_;rintro ⟨i,⟨hi,hi2⟩⟩;show W _ _ _ _ ⟨33,[(0,.sl none 1 (l.map Q8)),(2,.ptr 2 0 []),(3,.ptr 3 0 []),(4,.int ((i:Nat):Int))],[(3,.var (Q3 (D3 l i))),(2,.var (Q3 u4))]⟩;have hi:i<=l.length:=hi;have hi2:i<=256:=hi2;have hfl:=CQ l i;refine W.seq (W.seq ?_);by_cases hs:i<l.length
 ·refine j1 8 (y8 5 6 7 8 9 10 11 12) (V5 0 2 3 4 12) ⟨mU 4 O O,mU 0 O O,aU<|zN O (lN _) O,aU<|zS O O O,mU 8 O O,aW O O (gT (dT hs) O)<|zV O O O,aW O O (gT (dT hs) O)<|I7 256 O O O,aU<|zT O (dT hs) O O O,Zt⟩ O O O O ?_;refine z9 O (fun hc12=>?_) (fun hc12=>?_)
  ·refine W.skip (W.seq (W.block (z6 5 (y5 15 16 17 18 19) (V5 0 2 3 4 19) ⟨mU 0 O O,mU 4 O O,aU<|zI i O O O bU O,aU<|zL O O (mG l) O O O O O,aU<|r7 1 O O O,Zt⟩ O O O O ?_)));refine z9 O (fun hc19=>?_) (fun hc19=>?_)
   ·refine c9 13 (y12 20 21 22 23 24 25 26 27 28 29 30 31) [] [] (V6 0 2 3 4 30 31) ⟨mU 4 O O,aU fun _ _ H K=>O8 (i) (64) (eU K 20 O) (kI 64 O) bU bU H,mU 4 O O,aU fun _ _ H K=>O8 (i) (64) (eU K 22 O) (kI 64 O) bU bU H,aU<|PW ((i/64)) O O O bU O,aU fun _ B H K=>R.ldP (K 24 _ O) (B 3 _ O) (g8 (mG (D3 l i)) g7 bU) O O O H,mU 4 O O,aU fun _ _ H K=>E7 (i) (64) (eU K 26 O) (kI 64 O) bU H,aU<|zW O O O,aU fun _ _ H K=>m3 (d:=.u64 (H0 1 (i%64))) (kW (.int .u64 1) (.u64 1) O) (eU K 28 O) O bV (congrArg D.u64 (shl_of _ _ bO)) H,aU<|zB O O O O,aU<|PW ((i/64)) O O O bU O,Zt⟩ O O (⟨O,_,r6 (gU 31 O) (xU 3 O) (g8 (mG (D3 l i)) g7 bU) (gV 30 O) (by rfl) (by rfl) (by rfl) (by rfl) (A1 (mG (D3 l i)) o5 o7),tV (V4 0 2 3 4) (b2 3 2) 33 O O O ?_⟩);refine j1 3 (y3 13 14 4) (V4 0 2 3 4) ⟨mU 4 O O,aU<|m8 1 O O bU O,aU<|zA O O O,Zt⟩ O O O O ?_;exact⟨⟨(i+1),⟨by omega,by omega⟩⟩,(by first|(rw[RO hc19]<;>rfl)|(rw[RA hc19]<;>rfl)),(by simp only[];omega)⟩
   ·refine W.skip ?_;refine j1 3 (y3 13 14 4) (V4 0 2 3 4) ⟨mU 4 O O,aU<|m8 1 O O bU O,aU<|zA O O O,Zt⟩ O O O O ?_;exact⟨⟨(i+1),⟨by omega,by omega⟩⟩,(by first|(rw[RO hc19]<;>rfl)|(rw[RA hc19]<;>rfl)),(by simp only[];omega)⟩
  ·refine W.exit (z7 2 (y1 32) [] [] (V2 2 32) ⟨aU (lU 3 O O O O O O O),Zt⟩ O O (m1 O O O O O (tV (V1 2) (b2 3 2) 33 O O O ?_)));refine W.ret ?_;exact Ends.one' (.inr O) O (by rw[A8,show min l.length 256=i by omega]) O O (show LdT _ 139 4 true from inferInstance)
 ·refine j1 8 [.y 5 _,.y 6 _,.y 7 _,.y 8 _,.y 9 _,.x 10,.x 11,.y 12 _] (V5 0 2 3 4 12) ⟨mU 4 O O,mU 0 O O,aU<|zN O (lN _) O,aU<|zS O O O,mU 8 O O,aF O O (gF (dF hs) O),aF O O (gF (dF hs) O),aU<|MQ O (dF hs) (kB false O) O O,Zt⟩ O O O O ?_;refine g9 O (O) ?_;refine W.exit (z7 2 (y1 32) [] [] (V2 2 32) ⟨aU (lU 3 O O O O O O O),Zt⟩ O O (m1 O O O O O (tV (V1 2) (b2 3 2) 33 O O O ?_)));refine W.ret ?_;exact Ends.one' (.inr O) O (by rw[A8,show min l.length 256=i by omega]) O O (show LdT _ 139 4 true from inferInstance)
theorem bof_ok(n:UInt64):Fn Tryd.prog gl 82 [.u64 n] (Q3 [n,0,0,0]):=by
 refine Fn.of (n:=5) Tryd.func82 rfl rfl rfl (nU rfl) fun C hC hD=>?_;refine z7 1 [] [] [] (V1 0) Zt O O (o0 O O (tV (V2 0 2) (b1 2) 5 O O O ?_));refine z7 3 (y2 3 4) [] [] (V2 2 4) ⟨mU 0 O O,aU fun _ _ H K=>R.bldAP (z:=1) (l2:=([n,0,0,0].map D.u64)) (.cons (eU K 3 O) (.nil O)) ⟨⟨_,(eU K 3 O),O,O,O,O⟩,Zt⟩ (O) H,Zt⟩ O O (m1 O O O O O (tV (V1 2) (b1 2) 5 O O O ?_));refine W.ret ?_;exact Ends.one' (.inr O) O (O) O O (show LdT _ 139 4 true from inferInstance)
end Go.Sx

namespace Go.Sx
open Go.Proofs
theorem badd_ok(a b:Bg)(ha:a.length=4)(hlb:b.length=4):Fn Tryd.prog gl 103 [Q3 a,Q3 b] (.tup [Q3 (HT a b),.bool (WC a b)]):=by
 refine Fn.of (n:=34) Tryd.func103 rfl rfl rfl (nU rfl) fun C hC hD=>?_;refine z7 4 [] [] [] (V2 0 1) Zt O O (⟨O,_,R.box (gV 0 O) O O (nU O),⟨O,_,R.box (gV 1 O) O O (nU O),(o0 O O ⟨O,_,v3 (kB false O) O (nU O),tV (V3 2 3 4) (b3 4 3 2) 34 O O O ?_⟩)⟩⟩);refine z6 1 (y1 6) (V4 2 3 4 6) ⟨aU<|zK (kN O) O O,Zt⟩ O O O O ?_;refine z6 1 (y1 7) (V5 2 3 4 6 7) ⟨aU<|zK (kI 0 O) O O,Zt⟩ O O O O ?_;refine W.seq (z6 1 (y1 8) (V6 2 3 4 6 7 8) ⟨aU<|zK (kI 0 O) O O,Zt⟩ O O O O ?_);refine W.block ?_;refine Q7 (s:=6) 3 1 O ?_;refine W.loop (α:={q__:Nat//q__<=256}) (fun q__=>⟨34,[(2,.ptr 2 0 []),(3,.ptr 3 0 []),(4,.ptr 4 0 []),(6,.sl (some 3) 1 ((ZL a b q__.1).map Q8)),(7,.int ((ZI a b q__.1:Nat):Int)),(8,.int ((q__.1:Nat):Int))],[(4,.var (Q3 u4)),(3,.var (Q3 b)),(2,.var (Q3 a))]⟩) (fun q__=>256-q__.1) ⟨(0),bU⟩ O ?_;rintro ⟨i,hi⟩;show W _ _ _ _ ⟨34,[(2,.ptr 2 0 []),(3,.ptr 3 0 []),(4,.ptr 4 0 []),(6,.sl (some 3) 1 ((ZL a b i).map Q8)),(7,.int ((ZI a b i:Nat):Int)),(8,.int ((i:Nat):Int))],[(4,.var (Q3 u4)),(3,.var (Q3 b)),(2,.var (Q3 a))]⟩;have hi:i<=256:=hi;have h1:=M7 a i;have h2:=M7 b i;have h3:=bAddM_le a b i;have hll:=CP a b i;refine W.seq (z6 2 (y2 10 11) (V7 2 3 4 6 7 8 11) ⟨mU 8 O O,aU<|I7 256 O O O,Zt⟩ O O O O ?_);refine z9 O (fun hc11=>?_) (fun hc11=>?_)
 ·refine W.skip (W.seq (W.block (W.seq ?_)));refine w7 (m:=10) (an:=[0,0,3,0,0,31,63,0,255,511]) hP dU O (its:=[.y 14 _,.y 15 _,.y 16 _,.y 17 _,.y 18 _,.y 19 _,.y 20 _,.y 21 _,.y 22 _,.y 9 _]) (ks:=[]) (kk:=[]) (live:=[2,3,4,6,8,9]) (env':=(V6 2 3 4 6 8 9)) (⟨nU O,O,⟨aU (lU 2 O O O O O O O),mU 8 O O,aU<|zD hC (H8 a i ha bO) O O O O O O (F1 (.int _)) O,aU (lU 3 O O O O O O O),mU 8 O O,aU<|zD hC (H8 b i hlb bO) O O O O O O (F1 (.int _)) O,aU<|zP O O bU O,mU 7 O O,aU<|zP O O bU O,aU<|zA O O O,Zt⟩,O,O,O⟩) O (bx':=(b3 4 3 2)) O (n':=34) O (tV (V6 2 3 4 6 8 9) (b3 4 3 2) 34 O O O ?_);refine z7 6 (y6 23 24 25 26 27 6) [(4,6),(5,27),(5,23)] [(4,6),(5,27)] (V6 2 3 4 6 8 9) ⟨aU<|zM O O,mU 9 O O,aU fun _ _ H K=>E7 (((c8 a i+c8 b i)+ZI a b i)) (2) (eU K 24 O) (kI 2 O) bU H,aU fun _ _ H K=>w9 (z:=1) (.cons (eU K 25 O) .nil) ⟨⟨O,O,O⟩,Zt⟩ O H dU,aU<|R5 O O O (g6 O) (show _=((ZL a b (i+1)).map Q8) from(by rw[ZL,List.map_append];rfl)) bU O,aU<|zO O O O,Zt⟩ O O (tU O ?_);refine j1 3 (y3 28 29 7) (V6 2 3 4 6 7 8) ⟨mU 9 O O,aU fun _ _ H K=>O8 (((c8 a i+c8 b i)+ZI a b i)) (2) (eU K 28 O) (kI 2 O) bU bU H,aU<|zA O O O,Zt⟩ O O O O ?_;refine j1 3 (y3 12 13 8) (V6 2 3 4 6 7 8) ⟨mU 8 O O,aU<|m8 1 O O bU O,aU<|zA O O O,Zt⟩ O O O O ?_;exact⟨⟨(i+1),bU⟩,rfl,(by simp only[];omega)⟩
 ·obtain rfl:i=256:=by omega
  refine W.exit (z7 6 (y4 30 31 32 33) [] [] (V3 4 31 33) ⟨aU<|zM O O,aU fun _ _ H K=>j5 hC (O4 (ZL a b 256) (by rw[CP];decide)) (Bc (Bor.sc (SC.al (K 30 _ O) (K 6 _ O)) (j9 (fun _=>rfl))) Bn) (F1 (m4 _)) H,mU 7 O O,aU<|r7 1 O O O,Zt⟩ O O (m1 O O O O O (E9 O O O (tV (V2 4 5) (b3 4 3 2) 34 O O O ?_))));refine W.ret ?_;exact Ends.many (.inr O) (.cons O O O (show LdT _ 139 4 true from inferInstance) (.cons O O O Zt .nil)) (by unfold HT WC;rfl) (show[(4,false),(5,true)].Nodup by decide)
theorem SX(a b:Bg)(ha:a.length=4)(hlb:b.length=4):Fn Tryd.prog gl 115 [Q3 a,Q3 b] (.tup [Q3 (WD a b),.bool (decide (Y4 a b 256=1))]):=by
 refine Fn.of (n:=35) Tryd.func115 rfl rfl rfl (nU rfl) fun C hC hD=>?_;refine z7 4 [] [] [] (V2 0 1) Zt O O (⟨O,_,R.box (gV 0 O) O O (nU O),⟨O,_,R.box (gV 1 O) O O (nU O),(o0 O O ⟨O,_,v3 (kB false O) O (nU O),tV (V3 2 3 4) (b3 4 3 2) 35 O O O ?_⟩)⟩⟩);refine z6 1 (y1 6) (V4 2 3 4 6) ⟨aU<|zK (kN O) O O,Zt⟩ O O O O ?_;refine z6 1 (y1 7) (V5 2 3 4 6 7) ⟨aU<|zK (kI 0 O) O O,Zt⟩ O O O O ?_;refine W.seq (z6 1 (y1 8) (V6 2 3 4 6 7 8) ⟨aU<|zK (kI 0 O) O O,Zt⟩ O O O O ?_);refine W.block ?_;refine Q7 (s:=6) 3 1 O ?_;refine W.loop (α:={q__:Nat//q__<=256}) (fun q__=>⟨35,[(2,.ptr 2 0 []),(3,.ptr 3 0 []),(4,.ptr 4 0 []),(6,.sl (some 3) 1 ((O5 a b q__.1).map Q8)),(7,.int ((Y4 a b q__.1:Nat):Int)),(8,.int ((q__.1:Nat):Int))],[(4,.var (Q3 u4)),(3,.var (Q3 b)),(2,.var (Q3 a))]⟩) (fun q__=>256-q__.1) ⟨(0),bU⟩ O ?_;rintro ⟨i,hi⟩;show W _ _ _ _ ⟨35,[(2,.ptr 2 0 []),(3,.ptr 3 0 []),(4,.ptr 4 0 []),(6,.sl (some 3) 1 ((O5 a b i).map Q8)),(7,.int ((Y4 a b i:Nat):Int)),(8,.int ((i:Nat):Int))],[(4,.var (Q3 u4)),(3,.var (Q3 b)),(2,.var (Q3 a))]⟩;have hi:i<=256:=hi;have h1:=M7 a i;have h2:=M7 b i;have h3:=AB a b i;have hll:=CC a b i;refine W.seq (z6 2 (y2 10 11) (V7 2 3 4 6 7 8 11) ⟨mU 8 O O,aU<|I7 256 O O O,Zt⟩ O O O O ?_);refine z9 O (fun hc11=>?_) (fun hc11=>?_)
 ·refine W.skip (W.seq (W.block (W.seq ?_)));refine w7 (m:=10) (an:=[0,0,3,0,0,31,63,0,255,511]) hP dU O (its:=[.y 14 _,.y 15 _,.y 16 _,.y 17 _,.y 18 _,.y 19 _,.y 20 _,.y 21 _,.y 22 _,.y 9 _]) (ks:=[]) (kk:=[]) (live:=[2,3,4,6,8,9]) (env':=(V6 2 3 4 6 8 9)) (⟨nU O,O,⟨aU (lU 2 O O O O O O O),mU 8 O O,aU<|zD hC (H8 a i ha bO) O O O O O O (F1 (.int _)) O,aU (lU 3 O O O O O O O),mU 8 O O,aU<|zD hC (H8 b i hlb bO) O O O O O O (F1 (.int _)) O,aU fun _ _ H K=>m3 (d:=.int (((c8 a i:Nat):Int)-((c8 b i:Nat):Int))) (eU K 16 O) (eU K 19 O) O Zt (B6 bO bO bO) H,mU 7 O O,aU fun _ _ H K=>m3 (d:=.int (((c8 a i:Nat):Int)-((c8 b i:Nat):Int)-((Y4 a b i:Nat):Int))) (eU K 20 O) (eU K 21 O) O Zt (B6 bO bO bO) H,aU<|zA O O O,Zt⟩,O,O,O⟩) O (bx':=(b3 4 3 2)) O (n':=35) O (tV (V6 2 3 4 6 8 9) (b3 4 3 2) 35 O O O ?_);refine z6 1 (y1 7) (V7 2 3 4 6 7 8 9) ⟨aU<|zK (kI 0 O) O O,Zt⟩ O O O O ?_;refine W.seq (z6 2 (y2 23 24) (V8 2 3 4 6 7 8 9 24) ⟨mU 9 O O,aU<|P5 O (kI 0 O) O O,Zt⟩ O O O O ?_);refine W.cond O (fun hc24=>?_) (fun hc24=>?_)
  ·refine z6 3 (y3 25 26 9) (V6 2 3 4 6 8 9) ⟨mU 9 O O,aU fun _ _ H K=>m3 (d:=.int (((c8 a i:Nat):Int)-((c8 b i:Nat):Int)-((Y4 a b i:Nat):Int)+2)) (eU K 25 O) (kI 2 O) O Zt (B6 bO bO bO) H,aU<|zA O O O,Zt⟩ O O O O ?_;refine j1 1 (y1 7) (V7 2 3 4 6 7 8 9) ⟨aU<|zK (kI 1 O) O O,Zt⟩ O O O O ?_;refine c9 5 (y5 27 28 29 30 6) [(3,6),(4,30),(4,27)] [(3,6),(4,30)] (V6 2 3 4 6 7 8) ⟨aU<|zM O O,mU 9 O O,aU fun _ _ H K=>w9 (z:=1) (.cons (eU K 28 O) .nil) ⟨⟨O,O,O⟩,Zt⟩ O H dU,aU<|R5 O O O (g6 O) (show _=((O5 a b (i+1)).map Q8) from(by first|exact subL_t (of_decide_eq_true hc24)|exact subL_f (of_decide_eq_false hc24))) bU O,aU<|zO O O O,Zt⟩ O O (tU O ?_);refine j1 3 (y3 12 13 8) (V6 2 3 4 6 7 8) ⟨mU 8 O O,aU<|m8 1 O O bU O,aU<|zA O O O,Zt⟩ O O O O ?_;exact⟨⟨(i+1),bU⟩,(by first|(rw[subM_t (of_decide_eq_true hc24)]<;>rfl)|(rw[subM_f (of_decide_eq_false hc24)]<;>rfl)),(by simp only[];omega)⟩
  ·refine W.skip ?_;refine c9 5 (y5 27 28 29 30 6) [(3,6),(4,30),(4,27)] [(3,6),(4,30)] (V6 2 3 4 6 7 8) ⟨aU<|zM O O,mU 9 O O,aU fun _ _ H K=>w9 (z:=1) (.cons (eU K 28 O) .nil) ⟨⟨O,O,O⟩,Zt⟩ O H dU,aU<|R5 O O O (g6 O) (show _=((O5 a b (i+1)).map Q8) from(by first|exact subL_t (of_decide_eq_true hc24)|exact subL_f (of_decide_eq_false hc24))) bU O,aU<|zO O O O,Zt⟩ O O (tU O ?_);refine j1 3 (y3 12 13 8) (V6 2 3 4 6 7 8) ⟨mU 8 O O,aU<|m8 1 O O bU O,aU<|zA O O O,Zt⟩ O O O O ?_;exact⟨⟨(i+1),bU⟩,(by first|(rw[subM_t (of_decide_eq_true hc24)]<;>rfl)|(rw[subM_f (of_decide_eq_false hc24)]<;>rfl)),(by simp only[];omega)⟩
 ·obtain rfl:i=256:=by omega
  refine W.exit (z7 6 (y4 31 32 33 34) [] [] (V3 4 32 34) ⟨aU<|zM O O,aU fun _ _ H K=>j5 hC (O4 (O5 a b 256) (by rw[CC];decide)) (Bc (Bor.sc (SC.al (K 31 _ O) (K 6 _ O)) (j9 (fun _=>rfl))) Bn) (F1 (m4 _)) H,mU 7 O O,aU<|r7 1 O O O,Zt⟩ O O (m1 O O O O O (E9 O O O (tV (V2 4 5) (b3 4 3 2) 35 O O O ?_))));refine W.ret ?_;exact Ends.many (.inr O) (.cons O O O (show LdT _ 139 4 true from inferInstance) (.cons O O O Zt .nil)) (by unfold WD;rfl) (show[(4,false),(5,true)].Nodup by decide)
theorem IB(a:Bg)(n:Nat)(ha:a.length=4)(hn:n<=100000):Fn Tryd.prog gl 84 [Q3 a,.int ((n:Nat):Int)] (Q3 (KK a n)):=by
 refine Fn.of (n:=29) Tryd.func84 rfl rfl rfl (nU rfl) fun C hC hD=>?_;refine z7 2 [] [] [] (V2 0 1) Zt O O (⟨O,_,R.box (gV 0 O) O O (nU O),(o0 O O (tV (V3 1 2 4) (b2 4 2) 29 O O O ?_))⟩);refine W.seq (z6 2 (y2 7 8) (V4 1 2 4 8) ⟨mU 1 O O,aU fun _ _ H K=>GF (n) (0) (eU K 7 O) (kI 0 O) H,Zt⟩ O O O O ?_);refine z9 O (fun hc8=>?_) (fun hc8=>?_)
 ·refine z7 2 (y1 9) [] [] (V2 4 9) ⟨aU (lU 2 O O O O O O O),Zt⟩ O O (m1 O O O O O (tV (V1 4) (b2 4 2) 29 O O O ?_));refine W.ret ?_;exact Ends.one' (.inr rfl) rfl (by obtain rfl:n=0:=bO;rw[upS_0]) rfl rfl (show LdT _ 139 4 true from inferInstance)
 ·refine W.skip (z6 1 (y1 5) (V4 1 2 4 5) ⟨aU<|zK (kN O) O O,Zt⟩ O O O O ?_);refine W.seq (z6 1 (y1 6) (V5 1 2 4 5 6) ⟨aU<|zK (kI 0 O) O O,Zt⟩ O O O O ?_);refine W.block ?_;refine Q7 (s:=5) 3 1 O ?_;refine W.loop (α:={q__:Nat//q__<=256}) (fun q__=>⟨29,[(1,.int ((n:Nat):Int)),(2,.ptr 2 0 []),(4,.ptr 4 0 []),(5,.sl (some 3) 1 ((EK a n q__.1).map Q8)),(6,.int ((q__.1:Nat):Int))],[(4,.var (Q3 u4)),(2,.var (Q3 a))]⟩) (fun q__=>256-q__.1) ⟨(0),bU⟩ O ?_;rintro ⟨i,hi⟩;show W _ _ _ _ ⟨29,[(1,.int ((n:Nat):Int)),(2,.ptr 2 0 []),(4,.ptr 4 0 []),(5,.sl (some 3) 1 ((EK a n i).map Q8)),(6,.int ((i:Nat):Int))],[(4,.var (Q3 u4)),(2,.var (Q3 a))]⟩;have hi:i<=256:=hi;have hll:=LQ a n i;refine W.seq (z6 2 (y2 10 11) (V6 1 2 4 5 6 11) ⟨mU 6 O O,aU<|I7 256 O O O,Zt⟩ O O O O ?_);refine z9 O (fun hc11=>?_) (fun hc11=>?_)
  ·refine W.skip (W.seq (W.block (z6 2 (y2 14 15) (V6 1 2 4 5 6 15) ⟨mU 1 O O,aU<|HQ 256 O O O,Zt⟩ O O O O ?_)));refine z9 O (fun hc15=>?_) (fun hc15=>?_)
   ·refine c9 4 (y4 16 17 18 5) [(2,5),(3,18),(3,16)] [(2,5),(3,18)] (V5 1 2 4 5 6) ⟨aU<|zM O O,aU fun _ _ H _=>w9 (z:=1) (.cons (kI 0 O) .nil) ⟨⟨O,O,O⟩,Zt⟩ O H dU,aU<|R5 O O O (g6 O) (show _=((EK a n (i+1)).map Q8) from(EQ (if_pos (.inl hc15)))) bU O,aU<|zO O O O,Zt⟩ O O (tU O ?_);refine j1 3 (y3 12 13 6) (V5 1 2 4 5 6) ⟨mU 6 O O,aU<|m8 1 O O bU O,aU<|zA O O O,Zt⟩ O O O O ?_;exact⟨⟨(i+1),bU⟩,rfl,(by simp only[];omega)⟩
   ·by_cases hin:i<n
    ·refine c9 9 (y9 19 20 21 22 23 24 25 26 5) [(7,5),(8,26),(8,19)] [(7,5),(8,26)] (V5 1 2 4 5 6) ⟨aU<|zM O O,aU (lU 2 O O O O O O O),mU 6 O O,mU 1 O O,aU fun _ _ H K=>m3 (d:=.int (((i:Nat):Int)-((n:Nat):Int))) (eU K 21 O) (eU K 22 O) O Zt (B6 bO bO bO) H,aU<|zD hC (bit_neg a (((i:Nat):Int)-((n:Nat):Int)) bO bO) O O O O O O (F1 (.int _)) O,aU fun _ _ H K=>w9 (z:=1) (.cons (eU K 24 O) .nil) ⟨⟨O,O,O⟩,Zt⟩ O H dU,aU<|R5 O O O (g6 O) (show _=((EK a n (i+1)).map Q8) from(EQ (if_pos (.inr hin)))) bU O,aU<|zO O O O,Zt⟩ O O (tU O ?_);refine j1 3 (y3 12 13 6) (V5 1 2 4 5 6) ⟨mU 6 O O,aU<|m8 1 O O bU O,aU<|zA O O O,Zt⟩ O O O O ?_;exact⟨⟨(i+1),bU⟩,rfl,(by simp only[];omega)⟩
    ·refine c9 9 (y9 19 20 21 22 23 24 25 26 5) [(7,5),(8,26),(8,19)] [(7,5),(8,26)] (V5 1 2 4 5 6) ⟨aU<|zM O O,aU (lU 2 O O O O O O O),mU 6 O O,mU 1 O O,aU<|zQ O O bU bU O,aU<|zD hC (H8 a (i-n) ha bO) O O O O O O (F1 (.int _)) O,aU fun _ _ H K=>w9 (z:=1) (.cons (eU K 24 O) .nil) ⟨⟨O,O,O⟩,Zt⟩ O H dU,aU<|R5 O O O (g6 O) (show _=((EK a n (i+1)).map Q8) from(EQ (if_neg bO))) bU O,aU<|zO O O O,Zt⟩ O O (tU O ?_);refine j1 3 (y3 12 13 6) (V5 1 2 4 5 6) ⟨mU 6 O O,aU<|m8 1 O O bU O,aU<|zA O O O,Zt⟩ O O O O ?_;exact⟨⟨(i+1),bU⟩,rfl,(by simp only[];omega)⟩
  ·obtain rfl:i=256:=by omega
   refine W.exit (z7 3 (y2 27 28) [] [] (V2 4 28) ⟨aU<|zM O O,aU fun _ _ H K=>j5 hC (O4 (EK a n 256) (by rw[LQ];decide)) (Bc (Bor.sc (SC.al (K 27 _ O) (K 5 _ O)) (j9 (fun _=>rfl))) Bn) (F1 (m4 _)) H,Zt⟩ O O (m1 O O O O O (tV (V1 4) (b2 4 2) 29 O O O ?_)));refine W.ret ?_;exact Ends.one' (.inr O) O (by rw[upS_n hc8]) O O (show LdT _ 139 4 true from inferInstance)
theorem ZE(a:Bg)(n:Nat)(ha:a.length=4)(hn:n<=100000):Fn Tryd.prog gl 83 [Q3 a,.int ((n:Nat):Int)] (Q3 (X8 a n)):=by
 refine Fn.of (n:=29) Tryd.func83 rfl rfl rfl (nU rfl) fun C hC hD=>?_;refine z7 2 [] [] [] (V2 0 1) Zt O O (⟨O,_,R.box (gV 0 O) O O (nU O),(o0 O O (tV (V3 1 2 4) (b2 4 2) 29 O O O ?_))⟩);refine W.seq (z6 2 (y2 7 8) (V4 1 2 4 8) ⟨mU 1 O O,aU fun _ _ H K=>GF (n) (0) (eU K 7 O) (kI 0 O) H,Zt⟩ O O O O ?_);refine z9 O (fun hc8=>?_) (fun hc8=>?_)
 ·refine z7 2 (y1 9) [] [] (V2 4 9) ⟨aU (lU 2 O O O O O O O),Zt⟩ O O (m1 O O O O O (tV (V1 4) (b2 4 2) 29 O O O ?_));refine W.ret ?_;exact Ends.one' (.inr rfl) rfl (by obtain rfl:n=0:=bO;rw[downS_0]) rfl rfl (show LdT _ 139 4 true from inferInstance)
 ·refine W.skip (z6 1 (y1 5) (V4 1 2 4 5) ⟨aU<|zK (kN O) O O,Zt⟩ O O O O ?_);refine W.seq (z6 1 (y1 6) (V5 1 2 4 5 6) ⟨aU<|zK (kI 0 O) O O,Zt⟩ O O O O ?_);refine W.block ?_;refine Q7 (s:=5) 3 1 O ?_;refine W.loop (α:={q__:Nat//q__<=256}) (fun q__=>⟨29,[(1,.int ((n:Nat):Int)),(2,.ptr 2 0 []),(4,.ptr 4 0 []),(5,.sl (some 3) 1 ((A9 a n q__.1).map Q8)),(6,.int ((q__.1:Nat):Int))],[(4,.var (Q3 u4)),(2,.var (Q3 a))]⟩) (fun q__=>256-q__.1) ⟨(0),bU⟩ O ?_;rintro ⟨i,hi⟩;show W _ _ _ _ ⟨29,[(1,.int ((n:Nat):Int)),(2,.ptr 2 0 []),(4,.ptr 4 0 []),(5,.sl (some 3) 1 ((A9 a n i).map Q8)),(6,.int ((i:Nat):Int))],[(4,.var (Q3 u4)),(2,.var (Q3 a))]⟩;have hi:i<=256:=hi;have hll:=CU a n i;refine W.seq (z6 2 (y2 10 11) (V6 1 2 4 5 6 11) ⟨mU 6 O O,aU<|I7 256 O O O,Zt⟩ O O O O ?_);refine z9 O (fun hc11=>?_) (fun hc11=>?_)
  ·refine W.skip (W.seq (W.block (z6 2 (y2 14 15) (V6 1 2 4 5 6 15) ⟨mU 1 O O,aU<|HQ 256 O O O,Zt⟩ O O O O ?_)));refine z9 O (fun hc15=>?_) (fun hc15=>?_)
   ·refine c9 4 (y4 16 17 18 5) [(2,5),(3,18),(3,16)] [(2,5),(3,18)] (V5 1 2 4 5 6) ⟨aU<|zM O O,aU fun _ _ H _=>w9 (z:=1) (.cons (kI 0 O) .nil) ⟨⟨O,O,O⟩,Zt⟩ O H dU,aU<|R5 O O O (g6 O) (show _=((A9 a n (i+1)).map Q8) from(OW (if_pos hc15))) bU O,aU<|zO O O O,Zt⟩ O O (tU O ?_);refine j1 3 (y3 12 13 6) (V5 1 2 4 5 6) ⟨mU 6 O O,aU<|m8 1 O O bU O,aU<|zA O O O,Zt⟩ O O O O ?_;exact⟨⟨(i+1),bU⟩,rfl,(by simp only[];omega)⟩
   ·refine c9 9 (y9 19 20 21 22 23 24 25 26 5) [(7,5),(8,26),(8,19)] [(7,5),(8,26)] (V5 1 2 4 5 6) ⟨aU<|zM O O,aU (lU 2 O O O O O O O),mU 6 O O,mU 1 O O,aU<|zP O O bU O,aU<|zD hC (H8 a (i+n) ha bO) O O O O O O (F1 (.int _)) O,aU fun _ _ H K=>w9 (z:=1) (.cons (eU K 24 O) .nil) ⟨⟨O,O,O⟩,Zt⟩ O H dU,aU<|R5 O O O (g6 O) (show _=((A9 a n (i+1)).map Q8) from(OW (if_neg hc15))) bU O,aU<|zO O O O,Zt⟩ O O (tU O ?_);refine j1 3 (y3 12 13 6) (V5 1 2 4 5 6) ⟨mU 6 O O,aU<|m8 1 O O bU O,aU<|zA O O O,Zt⟩ O O O O ?_;exact⟨⟨(i+1),bU⟩,rfl,(by simp only[];omega)⟩
  ·obtain rfl:i=256:=by omega
   refine W.exit (z7 3 (y2 27 28) [] [] (V2 4 28) ⟨aU<|zM O O,aU fun _ _ H K=>j5 hC (O4 (A9 a n 256) (by rw[CU];decide)) (Bc (Bor.sc (SC.al (K 27 _ O) (K 5 _ O)) (j9 (fun _=>rfl))) Bn) (F1 (m4 _)) H,Zt⟩ O O (m1 O O O O O (tV (V1 4) (b2 4 2) 29 O O O ?_)));refine W.ret ?_;exact Ends.one' (.inr O) O (by rw[downS_n hc8]) O O (show LdT _ 139 4 true from inferInstance)
theorem bofh_ok(h:Hs)(hh:h.length=32):Fn Tryd.prog gl 87 [z5 h] (Q3 (EW h)):=by
 refine Fn.of (n:=24) Tryd.func87 rfl rfl rfl (nU rfl) fun C hC hD=>?_;refine z7 2 [] [] [] (V1 0) Zt O O (⟨O,_,R.box (gV 0 O) O O (nU O),(o0 O O (tV (V2 1 2) (b2 2 1) 24 O O O ?_))⟩);refine z6 1 (y1 3) (V3 1 2 3) ⟨aU<|zK (kN O) O O,Zt⟩ O O O O ?_;refine W.seq (z6 1 (y1 4) (V4 1 2 3 4) ⟨aU<|zK (kI 0 O) O O,Zt⟩ O O O O ?_);refine W.block ?_;refine Q7 (s:=3) 3 1 O ?_;refine W.loop (α:={q__:Nat//q__<=256}) (fun q__=>⟨24,[(1,.ptr 1 0 []),(2,.ptr 2 0 []),(3,.sl (some 3) 1 ((HE h q__.1).map Q8)),(4,.int ((q__.1:Nat):Int))],[(2,.var (Q3 u4)),(1,.var (z5 h))]⟩) (fun q__=>256-q__.1) ⟨(0),bU⟩ O ?_;rintro ⟨i,hi⟩;show W _ _ _ _ ⟨24,[(1,.ptr 1 0 []),(2,.ptr 2 0 []),(3,.sl (some 3) 1 ((HE h i).map Q8)),(4,.int ((i:Nat):Int))],[(2,.var (Q3 u4)),(1,.var (z5 h))]⟩;have hi:i<=256:=hi;have hll:=NR h i;refine W.seq (z6 2 (y2 5 6) (V5 1 2 3 4 6) ⟨mU 4 O O,aU<|I7 256 O O O,Zt⟩ O O O O ?_);refine z9 O (fun hc6=>?_) (fun hc6=>?_)
 ·refine W.skip (W.seq (W.block ?_));refine c9 14 (y14 9 10 11 12 13 14 15 16 17 18 19 20 21 3) [(12,3),(13,21),(13,9)] [(12,3),(13,21)] (V4 1 2 3 4) ⟨aU<|zM O O,mU 4 O O,aU fun _ _ H K=>O8 (i) (8) (eU K 10 O) (kI 8 O) bU bU H,aU<|PW ((i/8)) O O O bU O,aU fun _ B H K=>R.ldP (K 12 _ O) (B 1 _ O) (g8 (mG h) g7 bU) O O O H,mU 4 O O,aU fun _ _ H K=>E7 (i) (8) (eU K 14 O) (kI 8 O) bU H,aU<|zW O O O,aU fun _ _ H K=>m3 (d:=.u8 (T1 h[i/8]! (i%8))) (eU K 13 O) (eU K 16 O) O bV (congrArg D.u8 (shr8_of _ _ bO)) H,aU<|P5 O (kW (.int .u8 1) (.u8 1) O) O O,aU<|zW O O O,aU fun _ _ H K=>w9 (z:=1) (.cons (eU K 19 O) .nil) ⟨⟨O,O,O⟩,Zt⟩ O H dU,aU<|R5 O O O (g6 O) (show _=((HE h (i+1)).map Q8) from(by rw[TT,List.map_append];rfl)) bU O,aU<|zO O O O,Zt⟩ O O (tU O ?_);refine j1 3 (y3 7 8 4) (V4 1 2 3 4) ⟨mU 4 O O,aU<|m8 1 O O bU O,aU<|zA O O O,Zt⟩ O O O O ?_;exact⟨⟨(i+1),bU⟩,rfl,(by simp only[];omega)⟩
 ·obtain rfl:i=256:=by omega
  refine W.exit (z7 3 (y2 22 23) [] [] (V2 2 23) ⟨aU<|zM O O,aU fun _ _ H K=>j5 hC (O4 (HE h 256) (by rw[NR];decide)) (Bc (Bor.sc (SC.al (K 22 _ O) (K 3 _ O)) (j9 (fun _=>rfl))) Bn) (F1 (m4 _)) H,Zt⟩ O O (m1 O O O O O (tV (V1 2) (b2 2 1) 24 O O O ?_)));refine W.ret ?_;exact Ends.one' (.inr O) O (by rw[EW]) O O (show LdT _ 139 4 true from inferInstance)
theorem YH(a:Bg)(ha:a.length=4):Fn Tryd.prog gl 85 [Q3 a] (.int ((KD a:Nat):Int)):=by
 refine Fn.of (n:=16) Tryd.func85 rfl rfl rfl (nU rfl) fun C hC hD=>?_;refine z7 2 [] [] [] (V1 0) Zt O O (⟨O,_,R.box (gV 0 O) O O (nU O),⟨O,_,v3 (kI 0 O) O (nU O),tV (V1 1) (b1 1) 16 O O O ?_⟩⟩);refine z6 1 (y1 3) (V2 1 3) ⟨aU<|zK (kI 0 O) O O,Zt⟩ O O O O ?_;refine W.seq (z6 1 (y1 4) (V3 1 3 4) ⟨aU<|zK (kI 0 O) O O,Zt⟩ O O O O ?_);refine W.block ?_;refine W.loop (α:={q__:Nat//q__<=256}) (fun q__=>⟨16,[(1,.ptr 1 0 []),(3,.int ((nbI a q__.1:Nat):Int)),(4,.int ((q__.1:Nat):Int))],[(1,.var (Q3 a))]⟩) (fun q__=>256-q__.1) ⟨(0),bU⟩ O ?_;rintro ⟨i,hi⟩;show W _ _ _ _ ⟨16,[(1,.ptr 1 0 []),(3,.int ((nbI a i:Nat):Int)),(4,.int ((i:Nat):Int))],[(1,.var (Q3 a))]⟩;have hi:i<=256:=hi;have hnl:=nbI_le a i;refine W.seq (z6 2 (y2 5 6) (V4 1 3 4 6) ⟨mU 4 O O,aU<|I7 256 O O O,Zt⟩ O O O O ?_);refine z9 O (fun hc6=>?_) (fun hc6=>?_)
 ·refine W.skip (W.seq (W.block (z6 4 (y4 9 10 11 12) (V4 1 3 4 12) ⟨aU (lU 1 O O O O O O O),mU 4 O O,aU<|zD hC (H8 a i ha bO) O O O O O O (F1 (.int _)) O,aU<|r7 1 O O O,Zt⟩ O O O O ?_)));refine z9 O (fun hc12=>?_) (fun hc12=>?_)
  ·refine j1 3 (y3 13 14 3) (V3 1 3 4) ⟨mU 4 O O,aU<|m8 1 O O bU O,aU<|zA O O O,Zt⟩ O O O O ?_;refine j1 3 (y3 7 8 4) (V3 1 3 4) ⟨mU 4 O O,aU<|m8 1 O O bU O,aU<|zA O O O,Zt⟩ O O O O ?_;exact⟨⟨(i+1),bU⟩,(by first|(rw[nbI_t hc12]<;>rfl)|(rw[nbI_f hc12]<;>rfl)),(by simp only[];omega)⟩
  ·refine W.skip ?_;refine j1 3 (y3 7 8 4) (V3 1 3 4) ⟨mU 4 O O,aU<|m8 1 O O bU O,aU<|zA O O O,Zt⟩ O O O O ?_;exact⟨⟨(i+1),bU⟩,(by first|(rw[nbI_t hc12]<;>rfl)|(rw[nbI_f hc12]<;>rfl)),(by simp only[];omega)⟩
 ·obtain rfl:i=256:=by omega
  refine W.exit (z6 2 (y2 15 2) (V1 2) ⟨mU 3 O O,aU<|zA O O O,Zt⟩ O O O O ?_);refine W.ret ?_;exact Ends.one' (.inr O) O (by rw[KD]) O O Zt
end Go.Sx

namespace Go.Sx
open Go.Proofs
theorem B2(a b:Bg):EqV Tryd.prog 2 139 (Q3 a) (Q3 b) (a==b):=EqV.arr64 a b
end Go.Sx

namespace Go.Sx
open Go.Proofs
theorem GB(a b:Bg)(ha:a.length=4)(hlb:b.length=4):Fn Tryd.prog gl 86 [Q3 a,Q3 b] (.bool (T8 a b)):=by
 refine Fn.of (n:=24) Tryd.func86 rfl rfl rfl (nU rfl) fun C hC hD=>?_;refine z7 3 [] [] [] (V2 0 1) Zt O O (⟨O,_,R.box (gV 0 O) O O (nU O),⟨O,_,R.box (gV 1 O) O O (nU O),⟨O,_,v3 (kB false O) O (nU O),tV (V2 2 3) (b2 3 2) 24 O O O ?_⟩⟩⟩);refine W.seq (z6 1 (y1 5) (V3 2 3 5) ⟨aU<|zK (kI 255 O) O O,Zt⟩ O O O O ?_);refine W.block ?_;refine W.loop (α:={q__:Nat//q__<=256/\R7 a b (256-q__)=R7 a b 256}) (fun q__=>⟨24,[(2,.ptr 2 0 []),(3,.ptr 3 0 []),(5,.int ((255:Int)-((q__.1:Nat):Int)))],[(3,.var (Q3 b)),(2,.var (Q3 a))]⟩) (fun q__=>256-q__.1) ⟨(0),⟨Nat.zero_le _,by rw[Nat.sub_zero]⟩⟩ O ?_;rintro ⟨k,⟨hk,hle⟩⟩;show W _ _ _ _ ⟨24,[(2,.ptr 2 0 []),(3,.ptr 3 0 []),(5,.int ((255:Int)-((k:Nat):Int)))],[(3,.var (Q3 b)),(2,.var (Q3 a))]⟩;have hk:k<=256:=hk;have hle:R7 a b (256-k)=R7 a b 256:=hle;refine W.seq (z6 2 (y2 6 7) (V4 2 3 5 7) ⟨mU 5 O O,aU<|P5 O (kI 0 O) O O,Zt⟩ O O O O ?_);refine W.cond O (fun hc7=>?_) (fun hc7=>?_)
 ·refine W.skip (W.seq (W.block (W.seq ?_)));have h7:=of_decide_eq_true hc7;rw[show(255:Int)-((k:Nat):Int)=((255-k:Nat):Int) by omega];refine w7 (m:=7) (an:=[0,0,3,0,0,31,63]) hP dU O (its:=[.y 10 _,.y 11 _,.y 12 _,.y 13 _,.y 14 _,.y 15 _,.y 16 _]) (ks:=[]) (kk:=[]) (live:=[2,3,5,16]) (env':=(V4 2 3 5 16)) (⟨nU O,O,⟨aU (lU 2 O O O O O O O),mU 5 O O,aU<|zD hC (H8 a (255-k) ha bO) O O O O O O (F1 (.int _)) O,aU (lU 3 O O O O O O O),mU 5 O O,aU<|zD hC (H8 b (255-k) hlb bO) O O O O O O (F1 (.int _)) O,aU<|zNe O O O,Zt⟩,O,O,O⟩) O (bx':=(b2 3 2)) O (n':=24) O (tV (V4 2 3 5 16) (b2 3 2) 24 O O O ?_);refine z9 O (fun hc16=>?_) (fun hc16=>?_)
  ·refine W.seq ?_;refine w7 (m:=8) (an:=[0,0,3,0,0,31,63,127]) hP dU O (its:=[.y 17 _,.y 18 _,.y 19 _,.y 20 _,.y 21 _,.y 22 _,.y 23 _,.y 4 _]) (ks:=[]) (kk:=[]) (live:=[4]) (env':=(V1 4)) (⟨nU O,O,⟨aU (lU 2 O O O O O O O),mU 5 O O,aU<|zD hC (H8 a (255-k) ha bO) O O O O O O (F1 (.int _)) O,aU (lU 3 O O O O O O O),mU 5 O O,aU<|zD hC (H8 b (255-k) hlb bO) O O O O O O (F1 (.int _)) O,aU<|zS O O O,aU<|zA O O O,Zt⟩,O,O,O⟩) O (bx':=(b2 3 2)) O (n':=24) O (tV (V1 4) (b2 3 2) 24 O O O ?_);refine W.ret ?_;exact Ends.one' (.inr O) O (by rw[T8,<- hle,show 256-k=255-k+1 by omega,lessI_t hc16]) O O Zt
  ·refine W.skip ?_;refine j1 3 (y3 8 9 5) (V3 2 3 5) ⟨mU 5 O O,aU fun _ _ H K=>m3 (d:=.int ((255:Int)-((k+1:Nat):Int))) (eU K 8 O) (kI 1 O) O Zt (B6 bO bO bO) H,aU<|zA O O O,Zt⟩ O O O O ?_;exact⟨⟨(k+1),⟨by omega,by rw[<- hle,show 256-k=255-k+1 by omega,lessI_f hc16,show 256-(k+1)=255-k by omega]⟩⟩,rfl,(by simp only[];omega)⟩
 ·have h7:=of_decide_eq_false hc7
  obtain rfl:k=256:=by omega
  refine W.exit (z6 1 (y1 4) (V1 4) ⟨aU<|zK (kB false O) O O,Zt⟩ O O O O ?_);refine W.ret ?_;exact Ends.one' (.inr O) O (by rw[T8,<- hle,Nat.sub_self,R7]) O O Zt
theorem SH(a:Bg)(n:UInt64)(ha:a.length=4):Fn Tryd.prog gl 102 [Q3 a,.u64 n] (.tup [Q3 (G9 a n),.u64 (CB a n)]):=by
 refine Fn.of (n:=66) Tryd.func102 rfl rfl rfl (nU rfl) fun C hC hD=>?_;refine z7 3 [] [] [] (V2 0 1) Zt O O (⟨O,_,R.box (gV 0 O) O O (nU O),(o0 O O ⟨O,_,v3 (kW (.int .u64 0) (.u64 0) O) O (nU O),tV (V3 1 2 4) (b2 4 2) 66 O O O ?_⟩)⟩);refine z7 2 (y2 13 6) [(1,13)] [(1,13)] (V4 1 2 4 6) ⟨aU fun _ _ H _=>R.mk (n:=320) (kI 320 O) (kI 320 O) bU dU H,aU<|zO O O O,Zt⟩ O O (tU O ?_);refine W.seq (z6 1 (y1 7) (V5 1 2 4 6 7) ⟨aU<|zK (kI 0 O) O O,Zt⟩ O O O O ?_);refine W.block ?_;refine W.loop (α:={q__:Nat//q__<=64}) (fun q__=>⟨66,[(1,.u64 n),(2,.ptr 2 0 []),(4,.ptr 4 0 []),(6,.sl (some 3) 1 ((K9 a n q__.1).map Q8)),(7,.int ((q__.1:Nat):Int))],[(4,.var (Q3 u4)),(2,.var (Q3 a))]⟩) (fun q__=>64-q__.1) ⟨(0),bU⟩ (by rw[mulI_0,zl];rfl) ?_;rintro ⟨k,hk⟩;show W _ _ _ _ ⟨66,[(1,.u64 n),(2,.ptr 2 0 []),(4,.ptr 4 0 []),(6,.sl (some 3) 1 ((K9 a n k).map Q8)),(7,.int ((k:Nat):Int))],[(4,.var (Q3 u4)),(2,.var (Q3 a))]⟩;have hk:k<=64:=hk;have hml:=YD a n k;have hmb:=mulI_bit a n k;refine W.seq (z6 2 (y2 14 15) (V6 1 2 4 6 7 15) ⟨mU 7 O O,aU<|I7 64 O O O,Zt⟩ O O O O ?_);refine z9 O (fun hc15=>?_) (fun hc15=>?_)
 ·refine W.skip (W.seq (W.block (W.seq (z6 6 (y6 18 19 20 21 22 23) (V6 1 2 4 6 7 23) ⟨mU 1 O O,mU 7 O O,aU<|zW O O O,aU fun _ _ H K=>m3 (d:=.u64 (o6 n k)) (eU K 18 O) (eU K 20 O) O bV (congrArg D.u64 (shr_of _ _ bO)) H,aU<|P5 O (kW (.int .u64 1) (.u64 1) O) O O,aU<|P5 O (kW (.int .u64 0) (.u64 0) O) O O,Zt⟩ O O O O ?_))));refine W.cond O (fun hc23=>?_) (fun hc23=>?_)
  ·refine W.exit ?_;refine j1 3 (y3 16 17 7) (V5 1 2 4 6 7) ⟨mU 7 O O,aU<|m8 1 O O bU O,aU<|zA O O O,Zt⟩ O O O O ?_;exact⟨⟨(k+1),bU⟩,(by first|(rw[mulI_f (eq_of_beq hc23)]<;>rfl)|(rw[mulI_t (ne_of_beq_false hc23)]<;>rfl)),(by simp only[];omega)⟩
  ·refine W.skip (z6 1 (y1 8) (V6 1 2 4 6 7 8) ⟨aU<|zK (kI 0 O) O O,Zt⟩ O O O O ?_);refine z6 2 (y2 24 9) (V7 1 2 4 6 7 8 9) ⟨mU 7 O O,aU<|zA O O O,Zt⟩ O O O O ?_;refine W.block ?_;refine W.loop (α:={q__:Nat//q__<=320-k}) (fun q__=>⟨66,[(1,.u64 n),(2,.ptr 2 0 []),(4,.ptr 4 0 []),(6,.sl (some 3) 1 ((Z1 a k (K9 a n k) q__.1).1.map Q8)),(7,.int ((k:Nat):Int)),(8,.int (((Z1 a k (K9 a n k) q__.1).2:Nat):Int)),(9,.int (((k+q__.1):Nat):Int))],[(4,.var (Q3 u4)),(2,.var (Q3 a))]⟩) (fun q__=>320-k-q__.1) ⟨(0),bU⟩ (by rw[mulJ_0]<;>rfl) ?_;rintro ⟨j,hj⟩;show W _ _ _ _ ⟨66,[(1,.u64 n),(2,.ptr 2 0 []),(4,.ptr 4 0 []),(6,.sl (some 3) 1 ((Z1 a k (K9 a n k) j).1.map Q8)),(7,.int ((k:Nat):Int)),(8,.int (((Z1 a k (K9 a n k) j).2:Nat):Int)),(9,.int (((k+j):Nat):Int))],[(4,.var (Q3 u4)),(2,.var (Q3 a))]⟩;have hj:j<=320-k:=hj;have hjl:=DO a k (K9 a n k) j;have hjb:=DA a k _ hmb j;have hj1:=hjb.1.get (k+j);have hj2:=hjb.2;have hj3:=M7 a j;have hj4:=mulJ_2 a k (K9 a n k) j;refine W.seq (z6 2 (y2 25 26) (V8 1 2 4 6 7 8 9 26) ⟨mU 9 O O,aU<|I7 320 O O O,Zt⟩ O O O O ?_);refine z9 O (fun hc26=>?_) (fun hc26=>?_)
   ·refine W.skip (W.seq (W.block (W.seq ?_)));refine w7 (m:=13) (an:=[0,0,3,7,0,0,0,96,240,511,0,2047,4095]) hP dU O (its:=[.y 29 _,.y 30 _,.y 31 _,.y 32 _,.y 33 _,.y 34 _,.y 35 _,.y 36 _,.y 37 _,.y 38 _,.y 39 _,.y 40 _,.y 10 _]) (ks:=[]) (kk:=[]) (live:=[1,2,4,6,7,9,10]) (env':=(V7 1 2 4 6 7 9 10)) (⟨nU O,O,⟨aU<|zM O O,mU 9 O O,aU<|t3 ((k+j)) O O O O bU O,aU<|I8 O O O (j4 (l:=(Z1 a k (K9 a n k) j).1) bU) O O O O O,aU (lU 2 O O O O O O O),mU 9 O O,mU 7 O O,aU fun _ _ H K=>m3 (d:=.int ((j:Nat):Int)) (eU K 34 O) (eU K 35 O) O Zt (B6 bO bO bO) H,aU<|zD hC (H8 a j ha bO) O O O O O O (F1 (.int _)) O,aU<|zP O O bU O,mU 8 O O,aU<|zP O O bU O,aU<|zA O O O,Zt⟩,O,O,O⟩) O (bx':=(b2 4 2)) O (n':=66) O (tV (V7 1 2 4 6 7 9 10) (b2 4 2) 66 O O O ?_);refine z7 6 (y5 41 42 43 44 45) [] [] (AS 1 2 4 6 7 9 10 41 44 45) ⟨aU<|zM O O,mU 9 O O,mU 10 O O,aU fun _ _ H K=>E7 (((((Z1 a k (K9 a n k) j).1)[(k+j)]!+c8 a j)+(Z1 a k (K9 a n k) j).2)) (2) (eU K 43 O) (kI 2 O) bU H,aU<|t3 ((k+j)) O O O O bU O,Zt⟩ O O (⟨O,_,M0 (gU 45 O) (Or.inr (gU 41 O)) (gU 6 O) (j4 (l:=(Z1 a k (K9 a n k) j).1) bU) O (gV 44 O) (by rfl) (by rfl) (by rfl) (by rfl) o5 o7,tV (V7 1 2 4 6 7 9 10) (b2 4 2) 66 O O O ?_⟩);refine j1 3 (y3 46 47 8) (V7 1 2 4 6 7 8 9) ⟨mU 10 O O,aU fun _ _ H K=>O8 (((((Z1 a k (K9 a n k) j).1)[(k+j)]!+c8 a j)+(Z1 a k (K9 a n k) j).2)) (2) (eU K 46 O) (kI 2 O) bU bU H,aU<|zA O O O,Zt⟩ O O O O ?_;refine j1 3 (y3 27 28 9) (V7 1 2 4 6 7 8 9) ⟨mU 9 O O,aU<|m8 1 O O bU O,aU<|zA O O O,Zt⟩ O O O O ?_;exact⟨⟨(j+1),bU⟩,(by rw[hj4]<;>rfl),(by simp only[];omega)⟩
   ·obtain rfl:j=320-k:=by omega
    refine W.exit ?_;refine j1 3 (y3 16 17 7) (V5 1 2 4 6 7) ⟨mU 7 O O,aU<|m8 1 O O bU O,aU<|zA O O O,Zt⟩ O O O O ?_;exact⟨⟨(k+1),bU⟩,(by first|(rw[mulI_f (eq_of_beq hc23)]<;>rfl)|(rw[mulI_t (ne_of_beq_false hc23)]<;>rfl)),(by simp only[];omega)⟩
 ·obtain rfl:k=64:=by omega
  refine W.exit (z6 1 (y1 11) (V3 4 6 11) ⟨aU<|zK (kW (.int .u64 0) (.u64 0) O) O O,Zt⟩ O O O O ?_);refine W.seq (z6 1 (y1 12) (V4 4 6 11 12) ⟨aU<|zK (kI 0 O) O O,Zt⟩ O O O O ?_);refine W.block ?_;refine W.loop (α:={q__:Nat//q__<=64}) (fun q__=>⟨66,[(4,.ptr 4 0 []),(6,.sl (some 3) 1 ((K9 a n 64).map Q8)),(11,.u64 (LR (K9 a n 64) q__.1)),(12,.int ((q__.1:Nat):Int))],[(4,.var (Q3 u4)),(2,.var (Q3 a))]⟩) (fun q__=>64-q__.1) ⟨(0),bU⟩ O ?_;rintro ⟨k,hk⟩;show W _ _ _ _ ⟨66,[(4,.ptr 4 0 []),(6,.sl (some 3) 1 ((K9 a n 64).map Q8)),(11,.u64 (LR (K9 a n 64) k)),(12,.int ((k:Nat):Int))],[(4,.var (Q3 u4)),(2,.var (Q3 a))]⟩;have hk:k<=64:=hk;have hml:=YD a n 64;refine W.seq (z6 2 (y2 48 49) (V5 4 6 11 12 49) ⟨mU 12 O O,aU<|I7 64 O O O,Zt⟩ O O O O ?_);refine z9 O (fun hc49=>?_) (fun hc49=>?_)
  ·refine W.skip (W.seq (W.block ?_));refine j1 12 (y12 52 53 54 55 56 57 58 59 60 61 62 11) (V4 4 6 11 12) ⟨mU 11 O O,aU<|zM O O,mU 12 O O,aU fun _ _ H K=>IS (256) (k) (kI 256 O) (eU K 54 O) bU H,aU<|t3 ((256+k)) O O O O bU O,aU<|I8 O O O (mG (K9 a n 64)) O O O O O,aU<|zW O O O,mU 12 O O,aU<|zW O O O,aU fun _ _ H K=>m3 (d:=.u64 (H0 (UInt64.ofInt (((K9 a n 64)[256+k]!:Nat):Int)) k)) (eU K 58 O) (eU K 60 O) O bV (congrArg D.u64 (shl_of _ _ bO)) H,aU<|zB O O O O,aU<|zA O O O,Zt⟩ O O O O ?_;refine j1 3 (y3 50 51 12) (V4 4 6 11 12) ⟨mU 12 O O,aU<|m8 1 O O bU O,aU<|zA O O O,Zt⟩ O O O O ?_;exact⟨⟨(k+1),bU⟩,rfl,(by simp only[];omega)⟩
  ·obtain rfl:k=64:=by omega
   refine W.exit (z7 5 (y3 63 64 65) [] [] (V3 4 64 65) ⟨aU<|zM O O,aU fun _ _ H K=>j5 hC (O4 (K9 a n 64) (by rw[YD];decide)) (Bc (Bor.sc (SC.al (K 63 _ O) (K 6 _ O)) (j9 (fun _=>rfl))) Bn) (F1 (m4 _)) H,mU 11 O O,Zt⟩ O O (m1 O O O O O (E9 O O O (tV (V2 4 5) (b2 4 2) 66 O O O ?_))));refine W.ret ?_;exact Ends.many (.inr O) (.cons O O O (show LdT _ 139 4 true from inferInstance) (.cons O O O Zt .nil)) (by rw[G9,CB]) (show[(4,false),(5,true)].Nodup by decide)
end Go.Sx

namespace Go.Sx
open Go.Proofs
theorem SM(a b:Bg)(ha:a.length=4)(hlb:b.length=4):Fn Tryd.prog gl 101 [Q3 a,Q3 b] (.tup [Q3 (J2 a b),Q3 (M6 a b),.int ((divE b:Nat):Int)]):=by
 refine Fn.of (n:=54) Tryd.func101 rfl rfl rfl (nU rfl) fun C hC hD=>?_;refine z7 5 [] [] [] (V2 0 1) Zt O O (⟨O,_,R.box (gV 0 O) O O (nU O),⟨O,_,R.box (gV 1 O) O O (nU O),(o0 O O (o0 O O ⟨O,_,v3 (kI 0 O) O (nU O),tV (V4 2 3 4 5) (b4 5 4 3 2) 54 O O O ?_⟩))⟩⟩);refine z7 2 [] [] [] (V4 2 3 4 5) Zt O O (o0 O O (o0 O O (tV (V6 2 3 4 5 7 8) (b6 8 7 5 4 3 2) 54 O O O ?_)));refine W.seq (z6 3 (y3 12 13 14) (V7 2 3 4 5 7 8 14) ⟨aU (lU 3 O O O O O O O),aU fun _ _ H _=>R.bldAZ O H,aU fun _ _ H K=>R.eqD (neg:=false) (b':=(b==u4)) (B2 _ _) O (eU K 12 O) (eU K 13 O) O O O O (O) H,Zt⟩ O O O O ?_);refine W.cond O (fun hc14=>?_) (fun hc14=>?_)
 ·refine W.seq ?_;refine J7 (m:=3) (an:=[0,0,1,7,15]) (its:=[.y 15 _,.y 16 _,⟨56,.dead,true⟩]) (ks:=[(2,56)]) (kk:=[]) (efs:=[(2,(b1 4))]) (live:=[4,5,16]) (env':=(V3 4 5 16)) (nd:=40) (bx1:=(b6 4 8 7 5 3 2)) hP dU O ⟨⟨64,O⟩,nU O,O,O,O,O⟩ (        ⟨⟨O,nU O,O,fun _ τ hb ht hτ=>R.ldP (hτ 7 _ O) (hb 7 _ O) O O O O ht⟩,⟨⟨O,nU O,O,fun _ τ hb ht hτ=>R.ldP (hτ 8 _ O) (hb 8 _ O) O O O O ht⟩,⟨⟨O,O,O,(O6 (p:=4) (id:=4) O O O (fun τ hτ=>(evt (hτ 15 _ O))) (by rfl) (by rfl) (by rfl) (by rfl) O)⟩,Zt⟩⟩⟩) O O O (n':=54) O (m1 O O O O O ⟨O,_,v3 (kI 1 O) O (nU O),⟨[4,5,6],(V3 4 5 6),(b6 4 8 7 5 3 2),54,O,O,O, ?_⟩⟩);refine W.ret ?_;exact Ends.many (.inr O) (.cons O O O (show LdT _ 139 4 true from inferInstance) (.cons O O O (show LdT _ 139 4 true from inferInstance) (.cons O O O Zt .nil))) (by rw[(div_z (a:=a) hc14).1,(div_z (a:=a) hc14).2.1,(div_z (a:=a) hc14).2.2]<;>rfl) (show[(4,false),(5,false),(6,true)].Nodup by decide)
 ·refine W.skip (z7 2 (y2 17 9) [(1,17)] [(1,17)] (V6 2 3 4 5 8 9) ⟨aU fun _ _ H _=>R.mk (n:=256) (kI 256 O) (kI 256 O) bU dU H,aU<|zO O O O,Zt⟩ O O (tU O ?_));refine W.seq (z6 1 (y1 10) (V7 2 3 4 5 8 9 10) ⟨aU<|zK (kI 255 O) O O,Zt⟩ O O O O ?_);refine W.block ?_;refine W.loop (α:={q__:Nat×List Nat×Bg//q__.1<=256/\Y3 a b q__.1=(q__.2.1,q__.2.2)}) (fun q__=>⟨54,[(2,.ptr 2 0 []),(3,.ptr 3 0 []),(4,.ptr 4 0 []),(5,.ptr 5 0 []),(8,.ptr 8 0 []),(9,.sl (some 3) 1 (q__.1.2.1.map Q8)),(10,.int ((255:Int)-((q__.1.1:Nat):Int)))],[(8,.var (Q3 q__.1.2.2)),(7,.var (Q3 u4)),(5,.var (Q3 u4)),(4,.var (Q3 u4)),(3,.var (Q3 b)),(2,.var (Q3 a))]⟩) (fun q__=>256-q__.1.1) ⟨(0,List.replicate 256 0,u4),⟨Nat.zero_le _,divI_0 a b⟩⟩ (by rw[zl];rfl) ?_;rintro ⟨⟨k,q,r⟩,⟨hk,hq⟩⟩;show W _ _ _ _ ⟨54,[(2,.ptr 2 0 []),(3,.ptr 3 0 []),(4,.ptr 4 0 []),(5,.ptr 5 0 []),(8,.ptr 8 0 []),(9,.sl (some 3) 1 (q.map Q8)),(10,.int ((255:Int)-((k:Nat):Int)))],[(8,.var (Q3 r)),(7,.var (Q3 u4)),(5,.var (Q3 u4)),(4,.var (Q3 u4)),(3,.var (Q3 b)),(2,.var (Q3 a))]⟩;have hk:k<=256:=hk;have hq:Y3 a b k=(q,r):=hq;have hql:=(RR hq).1;have hr:=(RR hq).2;have hul:=JW hr 1;refine W.seq (z6 2 (y2 18 19) (V8 2 3 4 5 8 9 10 19) ⟨mU 10 O O,aU<|P5 O (kI 0 O) O O,Zt⟩ O O O O ?_);refine W.cond O (fun hc19=>?_) (fun hc19=>?_)
  ·refine W.skip (W.seq (W.block (z6 3 (y3 22 23 11) (V8 2 3 4 5 8 9 10 11) ⟨aU (lU 8 O O O O O O O),aU<|t9 hC (H8 r 255 hr bO) O O O (kI 255 O) O O (F1 (.int _)) O,aU<|zA O O O,Zt⟩ O O O O ?_)));refine z7 3 (y2 24 25) [] [] (V9 2 3 4 5 8 9 10 11 25) ⟨aU (lU 8 O O O O O O O),aU<|t9 hC (IB r 1 hr dU) O O O (kI 1 O) O O (F1 (m4 _)) O,Zt⟩ O O (m1 O O O O O (tV (V8 2 3 4 5 8 9 10 11) (b6 8 7 5 4 3 2) 54 O O O ?_));refine W.seq ?_;have h7:=of_decide_eq_true hc19;rw[show(255:Int)-((k:Nat):Int)=((255-k:Nat):Int) by omega];refine w7 (m:=8) (an:=[0,1,0,0,12,28,63,127,255]) hP dU O (its:=[.y 26 _,.y 27 _,.y 28 _,.y 29 _,.y 30 _,.y 31 _,.y 32 _,.y 33 _]) (ks:=[]) (kk:=[]) (live:=[2,3,4,5,8,9,10,11,32,33]) (env':=(AS 2 3 4 5 8 9 10 11 32 33)) (⟨nU O,O,⟨aU fun _ _ H K=>R.idxP (0) (K 8 _ O) (m2 (kI 0 O)) O bU H,aU fun _ B H K=>R.ldP (K 26 _ O) (B 8 _ O) (g8 (mG (KK r 1)) g7 bU) O O O H,aU (lU 2 O O O O O O O),mU 10 O O,aU<|zD hC (H8 a (255-k) ha bO) O O O O O O (F1 (.int _)) O,aU<|zW O O O,aU<|zB O O O O,aU fun _ _ H K=>R.idxP (0) (K 8 _ O) (m2 (kI 0 O)) O bU H,Zt⟩,O,O,O⟩) O (bx':=(b6 8 7 5 4 3 2)) O (n':=54) O (⟨O,_,r6 (gU 33 O) (xU 8 O) (g8 (mG (KK r 1)) g7 bU) (gV 32 O) (by rfl) (by rfl) (by rfl) (by rfl) (A1 (mG (KK r 1)) o5 o7),tV (V8 2 3 4 5 8 9 10 11) (b6 8 7 5 4 3 2) 54 O O O ?_⟩);refine W.seq ?_;by_cases h55:c8 r 255=1
   ·refine j1 8 [.y 34 _,.y 35 _,.y 36 _,.x 37,.x 38,.x 39,.x 40,.y 41 _] (V8 2 3 4 5 8 9 10 41) ⟨mU 11 O O,aU<|r7 1 O O O,mU 35 O O,aF O O (gT (dT h55) O),aF O O (gT (dT h55) O),aF O O (gT (dT h55) O),aF O O (gT (dT h55) O),aU<|AT O (dT h55) (kB true O) O O,Zt⟩ O O O O ?_;refine d6 O (O) ?_;refine z7 7 (y6 43 44 45 42 46 47) [] [] (V8 2 3 4 5 8 9 10 46) ⟨aU (lU 8 O O O O O O O),aU (lU 3 O O O O O O O),aU<|zD hC (SX (EZ a r (255-k)) b (XZ hr _) hlb) O O O O O O (FrsR.two (m4 _) (.bool _)) O,aU<|zY O O O,aU<|zX O O O O,aU<|zX O O O O,Zt⟩ O O (m1 O O O O O (tV (V7 2 3 4 5 8 9 10) (b6 8 7 5 4 3 2) 54 O O O ?_));refine c9 4 (y3 48 49 50) [] [] (V9 2 3 4 5 8 9 10 48 50) ⟨aU<|zM O O,mU 10 O O,aU<|t3 ((255-k)) O O O O bU O,Zt⟩ O O (⟨O,_,M0 (gU 50 O) (Or.inr (gU 48 O)) (gU 9 O) (mG q) O (kI 1 O) (by rfl) (by rfl) (by rfl) (by rfl) o5 o7,tV (V7 2 3 4 5 8 9 10) (b6 8 7 5 4 3 2) 54 O O O ?_⟩);refine j1 3 (y3 20 21 10) (V7 2 3 4 5 8 9 10) ⟨mU 10 O O,aU fun _ _ H K=>m3 (d:=.int ((255:Int)-((k+1:Nat):Int))) (eU K 20 O) (kI 1 O) O Zt (B6 bO bO bO) H,aU<|zA O O O,Zt⟩ O O O O ?_;exact⟨⟨(k+1,(Y3 a b (k+1)).1,(Y3 a b (k+1)).2),⟨by omega,(Prod.eta _).symm⟩⟩,(by first|(simp only[JZ hq (.inl h55)];done)|(simp only[JZ hq (.inr (by simpa using hc41))];done)|(simp only[IC hq h55 (by simpa using hc41),Q3,EZ];done)),(by simp only[];omega)⟩
   ·refine j1 8 (y8 34 35 36 37 38 39 40 41) (V8 2 3 4 5 8 9 10 41) ⟨mU 11 O O,aU<|r7 1 O O O,mU 35 O O,aW O O (gF (dF h55) O) (lU 8 O O O O O O O),aW O O (gF (dF h55) O) (lU 3 O O O O O O O),aW O O (gF (dF h55) O)<|zD hC (GB (EZ a r (255-k)) b (XZ hr _) hlb) O O O O O O (F1 (.bool _)) O,aW O O (gF (dF h55) O)<|JY O O O,aU<|zF O (dF h55) O O O,Zt⟩ O O O O ?_;refine W.cond O (fun hc41=>?_) (fun hc41=>?_)
    ·refine z7 7 (y6 43 44 45 42 46 47) [] [] (V8 2 3 4 5 8 9 10 46) ⟨aU (lU 8 O O O O O O O),aU (lU 3 O O O O O O O),aU<|zD hC (SX (EZ a r (255-k)) b (XZ hr _) hlb) O O O O O O (FrsR.two (m4 _) (.bool _)) O,aU<|zY O O O,aU<|zX O O O O,aU<|zX O O O O,Zt⟩ O O (m1 O O O O O (tV (V7 2 3 4 5 8 9 10) (b6 8 7 5 4 3 2) 54 O O O ?_));refine c9 4 (y3 48 49 50) [] [] (V9 2 3 4 5 8 9 10 48 50) ⟨aU<|zM O O,mU 10 O O,aU<|t3 ((255-k)) O O O O bU O,Zt⟩ O O (⟨O,_,M0 (gU 50 O) (Or.inr (gU 48 O)) (gU 9 O) (mG q) O (kI 1 O) (by rfl) (by rfl) (by rfl) (by rfl) o5 o7,tV (V7 2 3 4 5 8 9 10) (b6 8 7 5 4 3 2) 54 O O O ?_⟩);refine j1 3 (y3 20 21 10) (V7 2 3 4 5 8 9 10) ⟨mU 10 O O,aU fun _ _ H K=>m3 (d:=.int ((255:Int)-((k+1:Nat):Int))) (eU K 20 O) (kI 1 O) O Zt (B6 bO bO bO) H,aU<|zA O O O,Zt⟩ O O O O ?_;exact⟨⟨(k+1,(Y3 a b (k+1)).1,(Y3 a b (k+1)).2),⟨by omega,(Prod.eta _).symm⟩⟩,(by first|(simp only[JZ hq (.inl h55)];done)|(simp only[JZ hq (.inr (by simpa using hc41))];done)|(simp only[IC hq h55 (by simpa using hc41),Q3,EZ];done)),(by simp only[];omega)⟩
    ·refine W.skip ?_;refine j1 3 (y3 20 21 10) (V7 2 3 4 5 8 9 10) ⟨mU 10 O O,aU fun _ _ H K=>m3 (d:=.int ((255:Int)-((k+1:Nat):Int))) (eU K 20 O) (kI 1 O) O Zt (B6 bO bO bO) H,aU<|zA O O O,Zt⟩ O O O O ?_;exact⟨⟨(k+1,(Y3 a b (k+1)).1,(Y3 a b (k+1)).2),⟨by omega,(Prod.eta _).symm⟩⟩,(by first|(simp only[JZ hq (.inl h55)];done)|(simp only[JZ hq (.inr (by simpa using hc41))];done)|(simp only[IC hq h55 (by simpa using hc41),Q3,EZ];done)),(by simp only[];omega)⟩
  ·have h7:=of_decide_eq_false hc19
   obtain rfl:k=256:=by omega
   refine W.exit (W.seq ?_);refine J7 (m:=4) (an:=[0,1,0,3,15,31]) (its:=[.y 51 _,.y 52 _,.y 53 _,⟨57,.dead,true⟩]) (ks:=[(3,57)]) (kk:=[]) (efs:=[(3,(b1 4))]) (live:=[4,5,53]) (env':=(V3 4 5 53)) (nd:=40) (bx1:=(b6 4 8 7 5 3 2)) hP dU O ⟨⟨65,O⟩,nU O,O,O,O,O⟩ (          ⟨⟨O,nU O,O,fun _ τ hb ht hτ=>R.al (hτ 9 _ O) ht dU⟩,⟨⟨O,nU O,O,fun _ τ hb ht hτ=>j5 hC (O4 q bO) (Bc (Bor.sc (SC.al (hτ 51 _ O) (hτ 9 _ O)) (j9 (fun _=>rfl))) Bn) (F1 (m4 _)) ht⟩,⟨⟨O,nU O,O,fun _ τ hb ht hτ=>R.ldP (hτ 8 _ O) (hb 8 _ O) O O O O ht⟩,⟨⟨O,O,O,(O6 (p:=4) (id:=4) O O O (fun τ hτ=>(evt (hτ 52 _ O))) (by rfl) (by rfl) (by rfl) (by rfl) O)⟩,Zt⟩⟩⟩⟩) O O O (n':=54) O (m1 O O O O O ⟨O,_,v3 (kI 0 O) O (nU O),⟨[4,5,6],(V3 4 5 6),(b6 4 8 7 5 3 2),54,O,O,O, ?_⟩⟩);refine W.ret ?_;exact Ends.many (.inr O) (.cons O O O (show LdT _ 139 4 true from inferInstance) (.cons O O O (show LdT _ 139 4 true from inferInstance) (.cons O O O Zt .nil))) (by rw[(div_n hc14 hq).1,(div_n hc14 hq).2.1,(div_n hc14 hq).2.2]<;>rfl) (show[(4,false),(5,false),(6,true)].Nodup by decide)
end Go.Sx

namespace Go.Sx
open Go.Proofs
theorem EJ(bits:UInt32):Fn Tryd.prog gl 60 [.u32 bits] (.tup [Q3 (HF bits),.bool (i8 bits).isSome]):=by
 refine Fn.of (n:=49) Tryd.func60 rfl rfl rfl (nU rfl) fun C hC hD=>?_;have hsz:=shr24_le bits;have hpl:(Z5 bits).length=4:=rfl;have hnb:=nbS_le (Z5 bits);refine z7 2 [] [] [] (V1 0) Zt O O (o0 O O ⟨O,_,v3 (kB false O) O (nU O),tV (V2 0 2) (b1 2) 49 O O O ?_⟩);refine z6 4 (y4 7 8 9 4) (V3 0 2 4) ⟨mU 0 O O,aU fun _ _ H K=>m3 (d:=.u32 (u0 bits 24)) (eU K 7 O) (kW (.int .u64 24) (.u64 24) O) O bV (O) H,aU<|zW O O O,aU<|zA O O O,Zt⟩ O O O O ?_;refine z7 6 (y4 10 11 12 13) [] [] (V4 0 2 4 13) ⟨mU 0 O O,aU<|P5 O (kW (.int .u32 8388607) (.u32 8388607) O) O O,aU<|zW O O O,aU<|zC hC (bof_ok (bits&&&8388607).toUInt64) O O O (F1 (m4 _)) O,Zt⟩ O O (o0 O O (m1 O O O O O (tV (V4 0 2 4 5) (b2 5 2) 49 O O O ?_)));refine z7 1 [] [] [] (V4 0 2 4 5) Zt O O (o0 O O (tV (V5 0 2 4 5 6) (b3 6 5 2) 49 O O O ?_));refine W.seq (W.seq ?_);by_cases h3:(u0 bits 24).toNat<3
 ·refine j1 2 (y2 14 15) (V6 0 2 4 5 6 15) ⟨mU 4 O O,aU<|I7 3 O O O,Zt⟩ O O O O ?_;refine d6 O (dT h3) ?_;refine c9 6 (y5 16 17 18 19 20) [] [] (V4 0 2 6 20) ⟨aU (lU 5 O O O O O O O),mU 4 O O,aU fun _ _ H K=>QX (3) ((u0 bits 24).toNat) (kI 3 O) (eU K 17 O) bU bU H,aU<|E8 8 O O bU O,aU<|zD hC (ZE (Z5 bits) (8*(3-(u0 bits 24).toNat)) O bO) O O O O O O (F1 (m4 _)) O,Zt⟩ O O (m1 O O O O O (tV (V3 0 2 6) (b3 6 5 2) 49 O O O ?_));refine W.seq (W.seq ?_);by_cases hz:(X8 (Z5 bits) (8*(3-(u0 bits 24).toNat)))=u4
  ·refine j1 8 [.y 39 _,.y 40 _,.y 41 _,.y 42 _,.x 43,.x 44,.x 45,.y 46 _] (V3 2 6 46) ⟨aU (lU 6 O O O O O O O),aU fun _ _ H _=>R.bldAZ O H,aU fun _ _ H K=>R.eqD (neg:=false) (b':=((X8 (Z5 bits) (8*(3-(u0 bits 24).toNat)))==u4)) (B2 _ _) O (eU K 39 O) (eU K 40 O) O O O O (O) H,mU 41 O O,aF O O (gT (beq_iff_eq.2 hz) O),aF O O (gT (beq_iff_eq.2 hz) O),aF O O (gT (beq_iff_eq.2 hz) O),aU<|AT O (beq_iff_eq.2 hz) (kB true O) O O,Zt⟩ O O O O ?_;refine d6 O (O) ?_;refine z7 3 (y1 47) [] [] (V2 2 47) ⟨aU fun _ _ H _=>R.bldAZ O H,Zt⟩ O O (m1 O O O O O ⟨O,_,v3 (kB false O) O (nU O),tV (V2 2 3) (b3 6 5 2) 49 O O O ?_⟩);refine W.ret ?_;exact Ends.many (.inr O) (.cons O O O (show LdT _ 139 4 true from inferInstance) (.cons O O O Zt .nil)) (by rw[i9 (DM (D2 (.inl h3)) (LX h3) hz),DM (D2 (.inl h3)) (LX h3) hz]<;>rfl) (show[(2,false),(3,true)].Nodup by decide)
  ·refine j1 8 (y8 39 40 41 42 43 44 45 46) (V3 2 6 46) ⟨aU (lU 6 O O O O O O O),aU fun _ _ H _=>R.bldAZ O H,aU fun _ _ H K=>R.eqD (neg:=false) (b':=((X8 (Z5 bits) (8*(3-(u0 bits 24).toNat)))==u4)) (B2 _ _) O (eU K 39 O) (eU K 40 O) O O O O (O) H,mU 41 O O,aW O O (gF (beq_eq_false_iff_ne.2 hz) O)<|zV O O O,aW O O (gF (beq_eq_false_iff_ne.2 hz) O)<|P5 O (kW (.int .u32 8388608) (.u32 8388608) O) O O,aW O O (gF (beq_eq_false_iff_ne.2 hz) O)<|P5 O (kW (.int .u32 0) (.u32 0) O) O O,aU<|zF O (beq_eq_false_iff_ne.2 hz) O O O,Zt⟩ O O O O ?_;refine W.cond O (fun hc46=>?_) (fun hc46=>?_)
   ·refine z7 3 (y1 47) [] [] (V2 2 47) ⟨aU fun _ _ H _=>R.bldAZ O H,Zt⟩ O O (m1 O O O O O ⟨O,_,v3 (kB false O) O (nU O),tV (V2 2 3) (b3 6 5 2) 49 O O O ?_⟩);refine W.ret ?_;exact Ends.many (.inr O) (.cons O O O (show LdT _ 139 4 true from inferInstance) (.cons O O O Zt .nil)) (by rw[i9 (DP (D2 (.inl h3)) hc46),DP (D2 (.inl h3)) hc46]<;>rfl) (show[(2,false),(3,true)].Nodup by decide)
   ·refine W.skip (z7 3 (y1 48) [] [] (V2 2 48) ⟨aU (lU 6 O O O O O O O),Zt⟩ O O (m1 O O O O O ⟨O,_,v3 (kB true O) O (nU O),tV (V2 2 3) (b3 6 5 2) 49 O O O ?_⟩));refine W.ret ?_;exact Ends.many (.inr O) (.cons O O O (show LdT _ 139 4 true from inferInstance) (.cons O O O Zt .nil)) (by rw[BY (DB (D2 (.inl h3)) (LX h3) hz hc46),DB (D2 (.inl h3)) (LX h3) hz hc46]<;>rfl) (show[(2,false),(3,true)].Nodup by decide)
 ·refine j1 2 (y2 14 15) (V6 0 2 4 5 6 15) ⟨mU 4 O O,aU<|I7 3 O O O,Zt⟩ O O O O ?_;refine g9 O (dF h3) ?_;refine z7 6 (y5 21 22 23 24 25) [] [] (V6 0 2 4 5 6 25) ⟨aU (lU 5 O O O O O O O),mU 4 O O,aU<|GW 3 O O bU bU O,aU<|E8 8 O O bU O,aU<|zD hC (IB (Z5 bits) (8*((u0 bits 24).toNat-3)) O bO) O O O O O O (F1 (m4 _)) O,Zt⟩ O O (m1 O O O O O (tV (V5 0 2 4 5 6) (b3 6 5 2) 49 O O O ?_));refine W.seq ?_;by_cases hb7:256<KD (Z5 bits)+8*((u0 bits 24).toNat-3)
  ·refine j1 12 (y12 26 27 28 29 30 31 32 33 34 35 36 37) (V4 0 2 6 37) ⟨aU (lU 5 O O O O O O O),aU<|zC hC (YH (Z5 bits) O) O O O (F1 (.int _)) O,mU 4 O O,aU<|GW 3 O O bU bU O,aU<|E8 8 O O bU O,aU<|zP O O bU O,aU<|HQ 256 O O O,mU 32 O O,aW O O (gT (dT hb7) O) (lU 5 O O O O O O O),aW O O (gT (dT hb7) O) fun _ _ H _=>R.bldAZ O H,aW O O (gT (dT hb7) O) fun _ _ H K=>R.eqD (neg:=true) (b':=((Z5 bits) != u4)) (B2 _ _) O (eU K 34 O) (eU K 35 O) O O O O (O) H,aU<|zT O (dT hb7) O O O,Zt⟩ O O O O ?_;refine W.cond O (fun hc37=>?_) (fun hc37=>?_)
   ·refine z7 3 (y1 38) [] [] (V2 2 38) ⟨aU fun _ _ H _=>R.bldAZ O H,Zt⟩ O O (m1 O O O O O ⟨O,_,v3 (kB false O) O (nU O),tV (V2 2 3) (b3 6 5 2) 49 O O O ?_⟩);refine W.ret ?_;exact Ends.many (.inr O) (.cons O O O (show LdT _ 139 4 true from inferInstance) (.cons O O O Zt .nil)) (by rw[i9 (of_no1 h3 hb7 hc37),of_no1 h3 hb7 hc37]<;>rfl) (show[(2,false),(3,true)].Nodup by decide)
   ·refine W.skip (W.seq (W.seq ?_));by_cases hz:(KK (Z5 bits) (8*((u0 bits 24).toNat-3)))=u4
    ·refine j1 8 [.y 39 _,.y 40 _,.y 41 _,.y 42 _,.x 43,.x 44,.x 45,.y 46 _] (V3 2 6 46) ⟨aU (lU 6 O O O O O O O),aU fun _ _ H _=>R.bldAZ O H,aU fun _ _ H K=>R.eqD (neg:=false) (b':=((KK (Z5 bits) (8*((u0 bits 24).toNat-3)))==u4)) (B2 _ _) O (eU K 39 O) (eU K 40 O) O O O O (O) H,mU 41 O O,aF O O (gT (beq_iff_eq.2 hz) O),aF O O (gT (beq_iff_eq.2 hz) O),aF O O (gT (beq_iff_eq.2 hz) O),aU<|AT O (beq_iff_eq.2 hz) (kB true O) O O,Zt⟩ O O O O ?_;refine d6 O (O) ?_;refine z7 3 (y1 47) [] [] (V2 2 47) ⟨aU fun _ _ H _=>R.bldAZ O H,Zt⟩ O O (m1 O O O O O ⟨O,_,v3 (kB false O) O (nU O),tV (V2 2 3) (b3 6 5 2) 49 O O O ?_⟩);refine W.ret ?_;exact Ends.many (.inr O) (.cons O O O (show LdT _ 139 4 true from inferInstance) (.cons O O O Zt .nil)) (by rw[i9 (DM (D2 (.inr (.inr hc37))) (JG h3) hz),DM (D2 (.inr (.inr hc37))) (JG h3) hz]<;>rfl) (show[(2,false),(3,true)].Nodup by decide)
    ·refine j1 8 (y8 39 40 41 42 43 44 45 46) (V3 2 6 46) ⟨aU (lU 6 O O O O O O O),aU fun _ _ H _=>R.bldAZ O H,aU fun _ _ H K=>R.eqD (neg:=false) (b':=((KK (Z5 bits) (8*((u0 bits 24).toNat-3)))==u4)) (B2 _ _) O (eU K 39 O) (eU K 40 O) O O O O (O) H,mU 41 O O,aW O O (gF (beq_eq_false_iff_ne.2 hz) O)<|zV O O O,aW O O (gF (beq_eq_false_iff_ne.2 hz) O)<|P5 O (kW (.int .u32 8388608) (.u32 8388608) O) O O,aW O O (gF (beq_eq_false_iff_ne.2 hz) O)<|P5 O (kW (.int .u32 0) (.u32 0) O) O O,aU<|zF O (beq_eq_false_iff_ne.2 hz) O O O,Zt⟩ O O O O ?_;refine W.cond O (fun hc46=>?_) (fun hc46=>?_)
     ·refine z7 3 (y1 47) [] [] (V2 2 47) ⟨aU fun _ _ H _=>R.bldAZ O H,Zt⟩ O O (m1 O O O O O ⟨O,_,v3 (kB false O) O (nU O),tV (V2 2 3) (b3 6 5 2) 49 O O O ?_⟩);refine W.ret ?_;exact Ends.many (.inr O) (.cons O O O (show LdT _ 139 4 true from inferInstance) (.cons O O O Zt .nil)) (by rw[i9 (DP (D2 (.inr (.inr hc37))) hc46),DP (D2 (.inr (.inr hc37))) hc46]<;>rfl) (show[(2,false),(3,true)].Nodup by decide)
     ·refine W.skip (z7 3 (y1 48) [] [] (V2 2 48) ⟨aU (lU 6 O O O O O O O),Zt⟩ O O (m1 O O O O O ⟨O,_,v3 (kB true O) O (nU O),tV (V2 2 3) (b3 6 5 2) 49 O O O ?_⟩));refine W.ret ?_;exact Ends.many (.inr O) (.cons O O O (show LdT _ 139 4 true from inferInstance) (.cons O O O Zt .nil)) (by rw[BY (DB (D2 (.inr (.inr hc37))) (JG h3) hz hc46),DB (D2 (.inr (.inr hc37))) (JG h3) hz hc46]<;>rfl) (show[(2,false),(3,true)].Nodup by decide)
  ·refine j1 12 [.y 26 _,.y 27 _,.y 28 _,.y 29 _,.y 30 _,.y 31 _,.y 32 _,.y 33 _,.x 34,.x 35,.x 36,.y 37 _] (V4 0 2 6 37) ⟨aU (lU 5 O O O O O O O),aU<|zC hC (YH (Z5 bits) O) O O O (F1 (.int _)) O,mU 4 O O,aU<|GW 3 O O bU bU O,aU<|E8 8 O O bU O,aU<|zP O O bU O,aU<|HQ 256 O O O,mU 32 O O,aF O O (gF (dF hb7) O),aF O O (gF (dF hb7) O),aF O O (gF (dF hb7) O),aU<|MQ O (dF hb7) (kB false O) O O,Zt⟩ O O O O ?_;refine g9 O (O) ?_;refine W.skip (W.seq (W.seq ?_));by_cases hz:(KK (Z5 bits) (8*((u0 bits 24).toNat-3)))=u4
   ·refine j1 8 [.y 39 _,.y 40 _,.y 41 _,.y 42 _,.x 43,.x 44,.x 45,.y 46 _] (V3 2 6 46) ⟨aU (lU 6 O O O O O O O),aU fun _ _ H _=>R.bldAZ O H,aU fun _ _ H K=>R.eqD (neg:=false) (b':=((KK (Z5 bits) (8*((u0 bits 24).toNat-3)))==u4)) (B2 _ _) O (eU K 39 O) (eU K 40 O) O O O O (O) H,mU 41 O O,aF O O (gT (beq_iff_eq.2 hz) O),aF O O (gT (beq_iff_eq.2 hz) O),aF O O (gT (beq_iff_eq.2 hz) O),aU<|AT O (beq_iff_eq.2 hz) (kB true O) O O,Zt⟩ O O O O ?_;refine d6 O (O) ?_;refine z7 3 (y1 47) [] [] (V2 2 47) ⟨aU fun _ _ H _=>R.bldAZ O H,Zt⟩ O O (m1 O O O O O ⟨O,_,v3 (kB false O) O (nU O),tV (V2 2 3) (b3 6 5 2) 49 O O O ?_⟩);refine W.ret ?_;exact Ends.many (.inr O) (.cons O O O (show LdT _ 139 4 true from inferInstance) (.cons O O O Zt .nil)) (by rw[i9 (DM (D2 (.inr (.inl hb7))) (JG h3) hz),DM (D2 (.inr (.inl hb7))) (JG h3) hz]<;>rfl) (show[(2,false),(3,true)].Nodup by decide)
   ·refine j1 8 (y8 39 40 41 42 43 44 45 46) (V3 2 6 46) ⟨aU (lU 6 O O O O O O O),aU fun _ _ H _=>R.bldAZ O H,aU fun _ _ H K=>R.eqD (neg:=false) (b':=((KK (Z5 bits) (8*((u0 bits 24).toNat-3)))==u4)) (B2 _ _) O (eU K 39 O) (eU K 40 O) O O O O (O) H,mU 41 O O,aW O O (gF (beq_eq_false_iff_ne.2 hz) O)<|zV O O O,aW O O (gF (beq_eq_false_iff_ne.2 hz) O)<|P5 O (kW (.int .u32 8388608) (.u32 8388608) O) O O,aW O O (gF (beq_eq_false_iff_ne.2 hz) O)<|P5 O (kW (.int .u32 0) (.u32 0) O) O O,aU<|zF O (beq_eq_false_iff_ne.2 hz) O O O,Zt⟩ O O O O ?_;refine W.cond O (fun hc46=>?_) (fun hc46=>?_)
    ·refine z7 3 (y1 47) [] [] (V2 2 47) ⟨aU fun _ _ H _=>R.bldAZ O H,Zt⟩ O O (m1 O O O O O ⟨O,_,v3 (kB false O) O (nU O),tV (V2 2 3) (b3 6 5 2) 49 O O O ?_⟩);refine W.ret ?_;exact Ends.many (.inr O) (.cons O O O (show LdT _ 139 4 true from inferInstance) (.cons O O O Zt .nil)) (by rw[i9 (DP (D2 (.inr (.inl hb7))) hc46),DP (D2 (.inr (.inl hb7))) hc46]<;>rfl) (show[(2,false),(3,true)].Nodup by decide)
    ·refine W.skip (z7 3 (y1 48) [] [] (V2 2 48) ⟨aU (lU 6 O O O O O O O),Zt⟩ O O (m1 O O O O O ⟨O,_,v3 (kB true O) O (nU O),tV (V2 2 3) (b3 6 5 2) 49 O O O ?_⟩));refine W.ret ?_;exact Ends.many (.inr O) (.cons O O O (show LdT _ 139 4 true from inferInstance) (.cons O O O Zt .nil)) (by rw[BY (DB (D2 (.inr (.inl hb7))) (JG h3) hz hc46),DB (D2 (.inr (.inl hb7))) (JG h3) hz hc46]<;>rfl) (show[(2,false),(3,true)].Nodup by decide)
theorem UM(t:Bg)(htl:t.length=4):Fn Tryd.prog gl 80 [Q3 t] (.u32 (W2 t)):=by
 refine Fn.of (n:=38) Tryd.func80 rfl rfl rfl (nU rfl) fun C hC hD=>?_;have hnb:=nbS_le t;refine z7 2 [] [] [] (V1 0) Zt O O (⟨O,_,R.box (gV 0 O) O O (nU O),⟨O,_,v3 (kW (.int .u32 0) (.u32 0) O) O (nU O),tV (V1 1) (b1 1) 38 O O O ?_⟩⟩);refine W.seq (z6 3 (y3 5 6 7) (V2 1 7) ⟨aU (lU 1 O O O O O O O),aU fun _ _ H _=>R.bldAZ O H,aU fun _ _ H K=>R.eqD (neg:=false) (b':=(t==u4)) (B2 _ _) O (eU K 5 O) (eU K 6 O) O O O O (O) H,Zt⟩ O O O O ?_);refine W.cond O (fun hc7=>?_) (fun hc7=>?_)
 ·refine z6 1 (y1 2) (V1 2) ⟨aU<|zK (kW (.int .u32 0) (.u32 0) O) O O,Zt⟩ O O O O ?_;refine W.ret ?_;exact Ends.one' (.inr O) O (by rw[comp_z hc7]) O O Zt
 ·refine W.skip (z6 5 (y5 8 9 10 11 3) (V2 1 3) ⟨aU (lU 1 O O O O O O O),aU<|zC hC (YH t htl) O O O (F1 (.int _)) O,aU<|m8 7 O O bU O,aU fun _ _ H K=>O8 ((KD t+7)) (8) (eU K 10 O) (kI 8 O) bU bU H,aU<|zA O O O,Zt⟩ O O O O ?_);refine z7 1 [] [] [] (V2 1 3) Zt O O (o0 O O (tV (V3 1 3 4) (b2 4 1) 38 O O O ?_));refine W.seq (W.seq ?_);by_cases h3:(KD t+7)/8<3
  ·refine j1 2 (y2 12 13) (V4 1 3 4 13) ⟨mU 3 O O,aU<|I7 3 O O O,Zt⟩ O O O O ?_;refine d6 O (dT h3) ?_;refine c9 6 (y5 14 15 16 17 18) [] [] (V3 3 4 18) ⟨aU (lU 1 O O O O O O O),mU 3 O O,aU fun _ _ H K=>QX (3) (((KD t+7)/8)) (kI 3 O) (eU K 15 O) bU bU H,aU<|E8 8 O O bU O,aU<|zD hC (IB t (8*(3-(KD t+7)/8)) htl bO) O O O O O O (F1 (m4 _)) O,Zt⟩ O O (m1 O O O O O (tV (V2 3 4) (b2 4 1) 38 O O O ?_));refine W.seq (W.seq ?_);have hxl:(KK t (8*(3-(KD t+7)/8))).length=4:=JW htl _;refine j1 3 (y3 24 25 26) (V3 3 4 26) ⟨aU fun _ _ H K=>R.idxP (0) (K 4 _ O) (m2 (kI 0 O)) O bU H,aU fun _ B H K=>R.ldP (K 24 _ O) (B 4 _ O) (g8 (j4 (l:=(KK t (8*(3-(KD t+7)/8)))) bU) g7 bU) O O O H,aU<|P5 O (kW (.int .u64 8388608) (.u64 8388608) O) O O,Zt⟩ O O O O ?_;refine W.cond O (fun hc26=>?_) (fun hc26=>?_)
   ·refine z7 3 (y2 27 28) [] [] (V3 3 4 28) ⟨aU (lU 4 O O O O O O O),aU<|t9 hC (ZE (KK t (8*(3-(KD t+7)/8))) 8 hxl dU) O O O (kI 8 O) O O (F1 (m4 _)) O,Zt⟩ O O (m1 O O O O O (tV (V2 3 4) (b2 4 1) 38 O O O ?_));refine j1 3 (y3 29 30 3) (V2 3 4) ⟨mU 3 O O,aU<|m8 1 O O bU O,aU<|zA O O O,Zt⟩ O O O O ?_;refine W.seq ?_;have hyl:=N2 hxl 8;refine j1 8 (y8 31 32 33 34 35 36 37 2) (V1 2) ⟨mU 3 O O,aU<|zW O O O,aU fun _ _ H K=>R.bin (eU K 32 O) (kW (.int .u64 24) (.u64 24) O) O bV H,aU fun _ _ H K=>R.idxP (0) (K 4 _ O) (m2 (kI 0 O)) O bU H,aU fun _ B H K=>R.ldP (K 34 _ O) (B 4 _ O) (g8 (j4 (l:=(X8 (KK t (8*(3-(KD t+7)/8))) 8)) bU) g7 bU) O O O H,aU<|zW O O O,aU<|zB O O O O,aU<|zA O O O,Zt⟩ O O O O ?_;refine W.ret ?_;exact Ends.one' (.inr O) O (by rw[comp_t hc7 (RT h3) (of_decide_eq_true hc26)]<;>rfl) O O Zt
   ·refine W.skip (W.seq ?_);have hyl:=N2 hxl 8;refine j1 8 (y8 31 32 33 34 35 36 37 2) (V1 2) ⟨mU 3 O O,aU<|zW O O O,aU fun _ _ H K=>R.bin (eU K 32 O) (kW (.int .u64 24) (.u64 24) O) O bV H,aU fun _ _ H K=>R.idxP (0) (K 4 _ O) (m2 (kI 0 O)) O bU H,aU fun _ B H K=>R.ldP (K 34 _ O) (B 4 _ O) (g8 (j4 (l:=(KK t (8*(3-(KD t+7)/8)))) bU) g7 bU) O O O H,aU<|zW O O O,aU<|zB O O O O,aU<|zA O O O,Zt⟩ O O O O ?_;refine W.ret ?_;exact Ends.one' (.inr O) O (by rw[comp_f hc7 (RT h3) (of_decide_eq_false hc26)]<;>rfl) O O Zt
  ·refine j1 2 (y2 12 13) (V4 1 3 4 13) ⟨mU 3 O O,aU<|I7 3 O O O,Zt⟩ O O O O ?_;refine g9 O (dF h3) ?_;refine c9 6 (y5 19 20 21 22 23) [] [] (V3 3 4 23) ⟨aU (lU 1 O O O O O O O),mU 3 O O,aU<|GW 3 O O bU bU O,aU<|E8 8 O O bU O,aU<|zD hC (ZE t (8*((KD t+7)/8-3)) htl bO) O O O O O O (F1 (m4 _)) O,Zt⟩ O O (m1 O O O O O (tV (V2 3 4) (b2 4 1) 38 O O O ?_));refine W.seq (W.seq ?_);have hxl:(X8 t (8*((KD t+7)/8-3))).length=4:=N2 htl _;refine j1 3 (y3 24 25 26) (V3 3 4 26) ⟨aU fun _ _ H K=>R.idxP (0) (K 4 _ O) (m2 (kI 0 O)) O bU H,aU fun _ B H K=>R.ldP (K 24 _ O) (B 4 _ O) (g8 (j4 (l:=(X8 t (8*((KD t+7)/8-3)))) bU) g7 bU) O O O H,aU<|P5 O (kW (.int .u64 8388608) (.u64 8388608) O) O O,Zt⟩ O O O O ?_;refine W.cond O (fun hc26=>?_) (fun hc26=>?_)
   ·refine z7 3 (y2 27 28) [] [] (V3 3 4 28) ⟨aU (lU 4 O O O O O O O),aU<|t9 hC (ZE (X8 t (8*((KD t+7)/8-3))) 8 hxl dU) O O O (kI 8 O) O O (F1 (m4 _)) O,Zt⟩ O O (m1 O O O O O (tV (V2 3 4) (b2 4 1) 38 O O O ?_));refine j1 3 (y3 29 30 3) (V2 3 4) ⟨mU 3 O O,aU<|m8 1 O O bU O,aU<|zA O O O,Zt⟩ O O O O ?_;refine W.seq ?_;have hyl:=N2 hxl 8;refine j1 8 (y8 31 32 33 34 35 36 37 2) (V1 2) ⟨mU 3 O O,aU<|zW O O O,aU fun _ _ H K=>R.bin (eU K 32 O) (kW (.int .u64 24) (.u64 24) O) O bV H,aU fun _ _ H K=>R.idxP (0) (K 4 _ O) (m2 (kI 0 O)) O bU H,aU fun _ B H K=>R.ldP (K 34 _ O) (B 4 _ O) (g8 (j4 (l:=(X8 (X8 t (8*((KD t+7)/8-3))) 8)) bU) g7 bU) O O O H,aU<|zW O O O,aU<|zB O O O O,aU<|zA O O O,Zt⟩ O O O O ?_;refine W.ret ?_;exact Ends.one' (.inr O) O (by rw[comp_t hc7 (RW h3) (of_decide_eq_true hc26)]<;>rfl) O O Zt
   ·refine W.skip (W.seq ?_);have hyl:=N2 hxl 8;refine j1 8 (y8 31 32 33 34 35 36 37 2) (V1 2) ⟨mU 3 O O,aU<|zW O O O,aU fun _ _ H K=>R.bin (eU K 32 O) (kW (.int .u64 24) (.u64 24) O) O bV H,aU fun _ _ H K=>R.idxP (0) (K 4 _ O) (m2 (kI 0 O)) O bU H,aU fun _ B H K=>R.ldP (K 34 _ O) (B 4 _ O) (g8 (j4 (l:=(X8 t (8*((KD t+7)/8-3)))) bU) g7 bU) O O O H,aU<|zW O O O,aU<|zB O O O O,aU<|zA O O O,Zt⟩ O O O O ?_;refine W.ret ?_;exact Ends.one' (.inr O) O (by rw[comp_f hc7 (RW h3) (of_decide_eq_false hc26)]<;>rfl) O O Zt
theorem tmeet_ok(h:Hs)(t:Bg)(hh:h.length=32)(htl:t.length=4):Fn Tryd.prog gl 61 [z5 h,Q3 t] (.bool (QR h t)):=by
 refine Fn.of (n:=15) Tryd.func61 rfl rfl rfl (nU rfl) fun C hC hD=>?_;refine z7 3 [] [] [] (V2 0 1) Zt O O (⟨O,_,R.box (gV 0 O) O O (nU O),⟨O,_,R.box (gV 1 O) O O (nU O),⟨O,_,v3 (kB false O) O (nU O),tV (V2 2 3) (b2 3 2) 15 O O O ?_⟩⟩⟩);refine W.seq ?_;by_cases hz:t=u4
 ·refine w7 (m:=11) (an:=[0,0,3,7,15,15,47,127,255,511,1023]) hP dU O (its:=[.y 5 _,.y 6 _,.y 7 _,.y 8 _,.x 9,.x 10,.x 11,.x 12,.x 13,.y 14 _,.y 4 _]) (ks:=[]) (kk:=[]) (live:=[4]) (env':=(V1 4)) (⟨nU O,O,⟨aU (lU 3 O O O O O O O),aU fun _ _ H _=>R.bldAZ O H,aU fun _ _ H K=>R.eqD (neg:=true) (b':=(t != u4)) (B2 _ _) O (eU K 5 O) (eU K 6 O) O O O O (O) H,mU 7 O O,aF O O (gF (by rw[hz];rfl) O),aF O O (gF (by rw[hz];rfl) O),aF O O (gF (by rw[hz];rfl) O),aF O O (gF (by rw[hz];rfl) O),aF O O (gF (by rw[hz];rfl) O),aU<|MQ O (by rw[hz];rfl) (kB false O) O O,aU<|zA O O O,Zt⟩,O,O,O⟩) O (bx':=(b2 3 2)) O (n':=15) O (tV (V1 4) (b2 3 2) 15 O O O ?_);refine W.ret ?_;exact Ends.one' (.inr O) O (by rw[meet_f hz]) O O Zt
 ·refine w7 (m:=11) (an:=[0,0,3,7,15,15,47,127,255,511,1023]) hP dU O (its:=[.y 5 _,.y 6 _,.y 7 _,.y 8 _,.y 9 _,.y 10 _,.y 11 _,.y 12 _,.y 13 _,.y 14 _,.y 4 _]) (ks:=[]) (kk:=[]) (live:=[4]) (env':=(V1 4)) (⟨nU O,O,⟨aU (lU 3 O O O O O O O),aU fun _ _ H _=>R.bldAZ O H,aU fun _ _ H K=>R.eqD (neg:=true) (b':=(t != u4)) (B2 _ _) O (eU K 5 O) (eU K 6 O) O O O O (O) H,mU 7 O O,aW O O (gT (bne_iff_ne.2 hz) O) (lU 3 O O O O O O O),aW O O (gT (bne_iff_ne.2 hz) O) (lU 2 O O O O O O O),aW O O (gT (bne_iff_ne.2 hz) O)<|zC hC (bofh_ok h hh) O O O (F1 (m4 _)) O,aW O O (gT (bne_iff_ne.2 hz) O)<|zD hC (GB t (EW h) htl (ofHS_len h)) O O O O O O (F1 (.bool _)) O,aW O O (gT (bne_iff_ne.2 hz) O)<|JY O O O,aU<|zT O (bne_iff_ne.2 hz) O O O,aU<|zA O O O,Zt⟩,O,O,O⟩) O (bx':=(b2 3 2)) O (n':=15) O (tV (V1 4) (b2 3 2) 15 O O O ?_);refine W.ret ?_;exact Ends.one' (.inr O) O (by rw[meet_t hz]) O O Zt
end Go.Sx

namespace Go.Sx
structure HdS where
 ver:UInt32
 prev:Hs
 root:Hs
 time:UInt32
 bits:UInt32
 nonce:UInt32
 deriving DecidableEq,Inhabited
def d7(h:HdS):D:=.agg [.u32 h.ver,z5 h.prev,z5 h.root,.u32 h.time,.u32 h.bits,.u32 h.nonce]
def HdS.wf(h:HdS):Prop:=h.prev.length=32/\h.root.length=32
def zeroH:HdS:=⟨0,zero32,zero32,0,0,0⟩
def byt(v:UInt32)(i:Nat):UInt8:=(u0 v (8*i)).toUInt8
def R8(v:UInt32):List UInt8:=[byt v 0,byt v 1,byt v 2,byt v 3]
def l3(h:HdS):List UInt8:=R8 h.ver++h.prev++h.root++R8 h.time++R8 h.bits++R8 h.nonce
def D4(b:List UInt8)(at_:Nat)(v:UInt32):Nat->List UInt8
 | 0=>b
 | i+1=>(D4 b at_ v i).set (at_+i) (byt v i)
theorem H1(b:List UInt8)(at_:Nat)(v:UInt32)(i:Nat):(D4 b at_ v i).length=b.length:=by
 induction i with
 | zero=>rfl
 | succ i ih=>simp[D4,ih]
def b80:List UInt8:=List.replicate 80 0
def EF(h:HdS):List UInt8:=D4 b80 0 h.ver 4
def NC(h:HdS):List UInt8:=D4 (EF h) 68 h.time 4
def HO(h:HdS):List UInt8:=D4 (NC h) 72 h.bits 4
def EE(h:HdS):List UInt8:=D4 (HO h) 76 h.nonce 4
def KY(h:HdS):List UInt8:=(EE h).take 4++h.prev++(EE h).drop 36
def put6(h:HdS):List UInt8:=(KY h).take 36++h.root++(KY h).drop 68
theorem NB(h:HdS):(EF h).length=80:=H1 _ _ _ _
theorem ND(h:HdS):(NC h).length=80:=(H1 _ _ _ _).trans (NB h)
theorem UR(h:HdS):(HO h).length=80:=(H1 _ _ _ _).trans (ND h)
theorem NH(h:HdS):(EE h).length=80:=(H1 _ _ _ _).trans (UR h)
theorem put5_len(h:HdS)(hw:h.wf):(KY h).length=80:=by simp[KY,NH,hw.1]
theorem DT(h:HdS)(hw:h.wf):(l3 h).length=80:=by simp[l3,R8,hw.1,hw.2]
theorem set4(v:UInt32)(p r:List UInt8)(a b c d:UInt8)(at_:Nat)(hp:p.length=at_):D4 (p++([a,b,c,d]++r)) at_ v 4=p++(R8 v++r):=by
 subst hp;simp only[D4,Nat.add_zero];rw[List.set_append,if_neg (by omega),Nat.sub_self];simp only[List.cons_append,List.set_cons_zero];rw[List.set_append,if_neg (by omega),show p.length+1-p.length=1 by omega];simp only[List.set_cons_succ,List.set_cons_zero];rw[List.set_append,if_neg (by omega),show p.length+2-p.length=2 by omega];simp only[List.set_cons_succ,List.set_cons_zero];rw[List.set_append,if_neg (by omega),show p.length+3-p.length=3 by omega];rfl
theorem put_eq(h:HdS)(hw:h.wf):put6 h=l3 h:=by
 have e1:EF h=R8 h.ver++List.replicate 76 0:=set4 h.ver [] (List.replicate 76 0) 0 0 0 0 0 rfl
 have e2:NC h=(R8 h.ver++List.replicate 64 0)++(R8 h.time++List.replicate 8 0):=by
  unfold NC;rw[e1,show(List.replicate 76 (0:UInt8))=List.replicate 64 0++([0,0,0,0]++List.replicate 8 0) from rfl,<- List.append_assoc];exact set4 h.time _ _ 0 0 0 0 68 rfl
 have e3:HO h=(R8 h.ver++List.replicate 64 0++R8 h.time)++(R8 h.bits++List.replicate 4 0):=by
  unfold HO;rw[e2,show(List.replicate 8 (0:UInt8))=[0,0,0,0]++List.replicate 4 0 from rfl,<- List.append_assoc];exact set4 h.bits _ _ 0 0 0 0 72 rfl
 have e4:EE h=R8 h.ver++(List.replicate 64 0++(R8 h.time++(R8 h.bits++R8 h.nonce))):=by
  unfold EE;have:=set4 h.nonce ((R8 h.ver++List.replicate 64 0++R8 h.time)++R8 h.bits) [] 0 0 0 0 76 rfl;rw[e3,show(List.replicate 4 (0:UInt8))=[0,0,0,0]++[] from rfl,<- List.append_assoc];rw[this];simp only[List.append_assoc,List.append_nil]
 have e5:KY h=R8 h.ver++(h.prev++(List.replicate 32 0++(R8 h.time++(R8 h.bits++R8 h.nonce)))):=by
  unfold KY;rw[e4];rw[List.take_left' (show(R8 h.ver).length=4 from rfl)];rw[show(36:Nat)=(R8 h.ver).length+32 from rfl,<- List.drop_drop,List.drop_left' rfl,show(List.replicate 64 (0:UInt8))=List.replicate 32 0++List.replicate 32 0 from rfl,List.append_assoc (List.replicate 32 (0:UInt8)),List.drop_left' (show(List.replicate 32 (0:UInt8)).length=32 from rfl),List.append_assoc]
 unfold put6;rw[e5]
 have h36:(R8 h.ver++h.prev).length=36:=by simp[R8,hw.1]
 rw[<- List.append_assoc (R8 h.ver),List.take_left' h36,show(68:Nat)=36+32 from rfl,<- List.drop_drop,List.drop_left' h36,List.drop_left' (show(List.replicate 32 (0:UInt8)).length=32 from rfl)];simp only[l3,List.append_assoc]
theorem put5_map(h:HdS)(hw:h.wf):((EE h).map D.u8).take 4++(((h.prev.map D.u8).drop 0).take 32).take 32++((EE h).map D.u8).drop (4+32)=(KY h).map D.u8:=by
 have h1:(h.prev.map D.u8).take 32=h.prev.map D.u8:=List.take_of_length_le (by simp[hw.1]);simp only[List.drop_zero,List.take_take,Nat.min_self,h1,KY,List.map_append,List.map_take,List.map_drop]
theorem put6_map(h:HdS)(hw:h.wf):((KY h).map D.u8).take 36++(((h.root.map D.u8).drop 0).take 32).take 32++((KY h).map D.u8).drop (36+32)=(put6 h).map D.u8:=by
 have h1:(h.root.map D.u8).take 32=h.root.map D.u8:=List.take_of_length_le (by simp[hw.2]);simp only[List.drop_zero,List.take_take,Nat.min_self,h1,put6,List.map_append,List.map_take,List.map_drop]
theorem RN(h:HdS):Frs (d7 h):=by
 refine .agg _ fun x hx=>?_;simp only[List.mem_cons,List.not_mem_nil,or_false] at hx
 rcases hx with rfl|rfl|rfl|rfl|rfl|rfl
 ·exact .u32 _
 ·exact v8 _
 ·exact v8 _
 ·exact .u32 _
 ·exact .u32 _
 ·exact .u32 _
theorem XT(h:HdS):(d7 h).brw=d7 h:=by
 simp only[d7,D.brw,D.brws,X9]
def YW(h:HdS):Hs:=S7 (l3 h)
def allW(l:List HdS):Prop:=∀ h∈l,h.wf
theorem allW.get{l:List HdS}(h:allW l){i:Nat}(hi:i<l.length):l[i]!.wf:=by
 rw[getElem!_pos l i hi];exact h _ (List.getElem_mem hi)
theorem le4_eq(v:UInt32):[D.u8 v.toUInt8,.u8 (u0 v 8).toUInt8,.u8 (u0 v 16).toUInt8,.u8 (u0 v 24).toUInt8]=(R8 v).map D.u8:=by
 have:u0 v 0=v:=by unfold u0;simp
 simp only[R8,byt,List.map_cons,List.map_nil,Nat.mul_zero,this]
theorem AA(a b:List UInt8)(n:Nat)(h:b.length=n):a.map D.u8++((b.map D.u8).drop 0).take n=(a++b).map D.u8:=by
 rw[List.drop_zero,List.take_of_length_le (by simp[h]),List.map_append]
def F8(h:HdS):Hs:=S8 (l3 h)
theorem id_r:F8=YW:=by funext h;exact(CV _).symm
end Go.Sx

namespace Go.Sx
open Go.Proofs
theorem XE(v:UInt32):Fn Tryd.prog gl 104 [.u32 v] (.sl (some 5) 1 ((R8 v).map D.u8)):=by
 refine Fn.of (n:=15) Tryd.func104 rfl rfl rfl (nU rfl) fun C hC hD=>?_;refine z6 1 (y1 2) (V1 0) ⟨aU<|zK (kN O) O O,Zt⟩ O O O O ?_;refine z7 13 (y13 3 4 5 6 7 8 9 10 11 12 13 14 2) [(12,14)] [(12,14)] (V1 2) ⟨mU 0 O O,aU<|zW O O O,mU 0 O O,aU fun _ _ H K=>R.bin (eU K 5 O) (kW (.int .u64 8) (.u64 8) O) O bV H,aU<|zW O O O,mU 0 O O,aU fun _ _ H K=>R.bin (eU K 8 O) (kW (.int .u64 16) (.u64 16) O) O bV H,aU<|zW O O O,mU 0 O O,aU fun _ _ H K=>R.bin (eU K 11 O) (kW (.int .u64 24) (.u64 24) O) O bV H,aU<|zW O O O,aU fun _ _ H K=>w9 (z:=1) (.cons (eU K 4 O) (.cons (eU K 7 O) (.cons (eU K 10 O) (.cons (eU K 13 O) .nil)))) ⟨⟨O,O,O⟩,⟨O,O,O⟩,⟨O,O,O⟩,⟨O,O,O⟩,Zt⟩ O H dU,aU<|zO O O O,Zt⟩ O O (tU O ?_);refine W.ret ?_;exact Ends.one' (.inr O) O (congrArg (D.sl (some 5) 1) (le4_eq v)) O O Zt
theorem hrput_ok(h:HdS)(hw:h.wf):Fn Tryd.prog gl 81 [d7 h] (.sl (some 5) 1 ((l3 h).map D.u8)):=by
 refine Fn.of (n:=30) Tryd.func81 rfl rfl rfl (nU rfl) fun C hC hD=>?_;have hw1:=hw.1;have hw2:=hw.2;refine z7 2 [] [] [] (V1 0) Zt O O (⟨O,_,R.box (gV 0 O) O O (nU O),⟨O,_,v3 (kN O) O (nU O),tV (V1 1) (b1 1) 30 O O O ?_⟩⟩);refine z7 4 (y4 4 5 6 3) [(3,6)] [(3,6)] (V2 1 3) ⟨aU (fU 1 O O),aU (lU 4 O O O O O O O),aU<|zC hC (XE h.ver) O O O (F1 (.sl _ _ _ (u2 fun _=>.u8 _))) O,aU<|zO O O O,Zt⟩ O O (tU O ?_);refine z7 5 (y5 7 8 9 10 3) [(3,3),(4,10),(4,7)] [(3,3),(4,10)] (V2 1 3) ⟨aU<|zM O O,aU (fU 1 O O),aU fun _ B H K=>J4 (0) (32) (32) (K 8 _ O) (B 1 _ O) O O O O O bU bU O H,aU fun _ B H K=>Q6 (Or.inr (K 7 _ O)) (K 3 _ O) (SrcO.sc (SC.va (K 9 _ O) (B 1 _ O) O dU) (X5 (fun _=>rfl))) (show _=((R8 h.ver++h.prev).map D.u8) from(AA _ h.prev 32 hw1)) (by simp[R8,hw1,hw2]) H dU dU,aU<|zO O O O,Zt⟩ O O (tU O ?_);refine z7 5 (y5 11 12 13 14 3) [(3,3),(4,14),(4,11)] [(3,3),(4,14)] (V2 1 3) ⟨aU<|zM O O,aU (fU 1 O O),aU fun _ B H K=>J4 (0) (32) (32) (K 12 _ O) (B 1 _ O) O O O O O bU bU O H,aU fun _ B H K=>Q6 (Or.inr (K 11 _ O)) (K 3 _ O) (SrcO.sc (SC.va (K 13 _ O) (B 1 _ O) O dU) (X5 (fun _=>rfl))) (show _=((R8 h.ver++h.prev++h.root).map D.u8) from(AA _ h.root 32 hw2)) (by simp[R8,hw1,hw2]) H dU dU,aU<|zO O O O,Zt⟩ O O (tU O ?_);refine z7 6 (y6 15 16 17 18 19 3) [(4,3),(5,19),(5,15)] [(4,3),(5,19)] (V2 1 3) ⟨aU<|zM O O,aU (fU 1 O O),aU (lU 16 O O O O O O O),aU<|zC hC (XE h.time) O O O (F1 (.sl _ _ _ (u2 fun _=>.u8 _))) O,aU<|R5 O O O (p8 (fun _=>rfl)) (UQ) (by simp[R8,hw1,hw2]) O,aU<|zO O O O,Zt⟩ O O (tU O ?_);refine z7 6 (y6 20 21 22 23 24 3) [(4,3),(5,24),(5,20)] [(4,3),(5,24)] (V2 1 3) ⟨aU<|zM O O,aU (fU 1 O O),aU (lU 21 O O O O O O O),aU<|zC hC (XE h.bits) O O O (F1 (.sl _ _ _ (u2 fun _=>.u8 _))) O,aU<|R5 O O O (p8 (fun _=>rfl)) (UQ) (by simp[R8,hw1,hw2]) O,aU<|zO O O O,Zt⟩ O O (tU O ?_);refine z7 6 (y6 25 26 27 28 29 2) [(4,3),(5,29)] [(4,3),(5,29)] (V1 2) ⟨aU<|zM O O,aU (fU 1 O O),aU (lU 26 O O O O O O O),aU<|zC hC (XE h.nonce) O O O (F1 (.sl _ _ _ (u2 fun _=>.u8 _))) O,aU<|R5 O O O (p8 (fun _=>rfl)) (UQ) (by simp[R8,hw1,hw2]) O,aU<|zO O O O,Zt⟩ O O (tU O ?_);refine W.ret ?_;exact Ends.one' (.inr O) O (O) O O Zt
theorem RD(h:HdS)(hw:h.wf):Fn Tryd.prog gl 59 [d7 h] (z5 (F8 h)):=by
 refine Fn.of (n:=6) Tryd.func59 rfl rfl rfl (nU rfl) fun C hC hD=>?_;refine z7 2 [] [] [] (V1 0) Zt O O (⟨O,_,R.box (gV 0 O) O O (nU O),(o0 O O (tV (V2 1 2) (b2 2 1) 6 O O O ?_))⟩);refine z7 4 (y3 3 4 5) [] [] (V2 2 5) ⟨aU (lU 1 O O O O O O O),aU<|zC hC (hrput_ok h hw) O O O (F1 (.sl _ _ _ (u2 fun _=>.u8 _))) O,aU fun _ _ H K=>j5 hC (KU (l3 h) (by rw[DT h hw];decide)) (Bc (Bor.sc (SC.sl (K 4 _ O)) (j9 (fun _=>rfl))) Bn) (F1 (d9 _)) H,Zt⟩ O O (m1 O O O O O (tV (V1 2) (b2 2 1) 6 O O O ?_));refine W.ret ?_;exact Ends.one' (.inr O) O (O) O O (show LdT _ 26 32 true from inferInstance)
end Go.Sx

namespace Go.Sx
open Go.Proofs
theorem rjoin_ok(a b:Hs)(hx:a.length=32)(hy:b.length=32):Fn Tryd.prog gl 88 [z5 a,z5 b] (z5 (n9 a b)):=by
 refine Fn.of (n:=13) Tryd.func88 rfl rfl rfl (nU rfl) fun C hC hD=>?_;refine z7 3 [] [] [] (V2 0 1) Zt O O (⟨O,_,R.box (gV 0 O) O O (nU O),⟨O,_,R.box (gV 1 O) O O (nU O),(o0 O O (tV (V3 2 3 4) (b3 4 3 2) 13 O O O ?_))⟩⟩);refine z7 4 (y4 6 7 8 5) [(2,6),(3,8)] [(2,6),(3,8)] (V3 3 4 5) ⟨aU fun _ _ H _=>w9 .nil Zt O H dU,aU fun _ B H K=>J4 (0) (32) (32) (K 2 _ O) (B 2 _ O) O O O O O bU bU O H,aU fun _ B H K=>Q6 (Or.inl O) (K 6 _ O) (SrcO.sc (SC.va (K 7 _ O) (B 2 _ O) O dU) (X5 (fun _=>rfl))) (show _=(a.map D.u8) from((List.nil_append _).trans (part32 a hx))) (by simp[hx]) H dU dU,aU<|zO O O O,Zt⟩ O O (tU O ?_);refine z7 5 (y4 9 10 11 12) [(2,5)] [(2,5)] (V2 4 12) ⟨aU<|zM O O,aU fun _ B H K=>J4 (0) (32) (32) (K 3 _ O) (B 3 _ O) O O O O O bU bU O H,aU fun _ B H K=>Q6 (Or.inr (K 9 _ O)) (K 5 _ O) (SrcO.sc (SC.va (K 10 _ O) (B 3 _ O) O dU) (X5 (fun _=>rfl))) (show _=((a++b).map D.u8) from(by rw[part32 b hy,List.map_append])) (by simp[hx,hy]) H dU dU,aU fun _ _ H K=>j5 hC (KU (a++b) (by simp only[List.length_append,hx,hy];decide)) (Bc (Bor.sc (SC.sl (K 11 _ O)) (j9 (fun _=>rfl))) Bn) (F1 (d9 _)) H,Zt⟩ O O (m1 O O O O O (tV (V1 4) (b3 4 3 2) 13 O O O ?_));refine W.ret ?_;exact Ends.one' (.inr O) O (O) O O (show LdT _ 26 32 true from inferInstance)
theorem rat_ok(l:List Hs)(k:Nat)(h0:0<l.length)(hl0:l.length<=1000)(hk0:k<=1000000):Fn Tryd.prog gl 89 [.sl none 32 (l.map z5),.int ((k:Nat):Int)] (z5 l[min k (l.length-1)]!):=by
 refine Fn.of (n:=13) Tryd.func89 rfl rfl rfl (nU rfl) fun C hC hD=>?_;refine z7 1 [] [] [] (V2 0 1) Zt O O (o0 O O (tV (V3 0 1 4) (b1 4) 13 O O O ?_));refine z7 9 (y8 5 6 7 8 9 10 11 12) [] [] (V2 4 12) ⟨mU 0 O O,mU 1 O O,mU 0 O O,aU<|zN O (lN _) O,aU<|GW 1 O O bU bU O,aU fun _ _ H K=>R.minI (r:=((min k (l.length-1):Nat):Int)) (eU K 6 O) (eU K 9 O) bO H,aU<|zI (min k (l.length-1)) O O O bU O,aU<|zL O O (mG l) O O O O O,Zt⟩ O O (m1 O O O O O (tV (V1 4) (b1 4) 13 O O O ?_));refine W.ret ?_;exact Ends.one' (.inr O) O (O) O O (show LdT _ 26 32 true from inferInstance)
theorem TB(l:List Hs)(hl:allH l)(hl0:l.length<=1000):Fn Tryd.prog gl 62 [.sl none 32 (l.map z5)] (.sl (some 26) 32 ((upR n9 l).map z5)):=by
 refine Fn.of (n:=24) Tryd.func62 rfl rfl rfl (nU rfl) fun C hC hD=>?_;refine z6 1 (y1 2) (V1 0) ⟨aU<|zK (kN O) O O,Zt⟩ O O O O ?_;refine z6 1 (y1 3) (V2 0 3) ⟨aU<|zK (kN O) O O,Zt⟩ O O O O ?_;refine W.seq (z6 1 (y1 4) (V3 0 3 4) ⟨aU<|zK (kI 0 O) O O,Zt⟩ O O O O ?_);refine W.block ?_;refine Q7 (s:=3) 26 32 O ?_;refine W.loop (α:={q__:Nat//q__<=(l.length+1)/2}) (fun q__=>⟨24,[(0,.sl none 32 (l.map z5)),(3,.sl (some 26) 32 ((upI n9 l q__.1).map z5)),(4,.int ((2*q__.1:Nat):Int))],[]⟩) (fun q__=>(l.length+1)/2-q__.1) ⟨(0),bU⟩ O ?_;rintro ⟨i,hi⟩;show W _ _ _ _ ⟨24,[(0,.sl none 32 (l.map z5)),(3,.sl (some 26) 32 ((upI n9 l i).map z5)),(4,.int ((2*i:Nat):Int))],[]⟩;have hul:=CS n9 l i;refine W.seq (z6 4 (y4 5 6 7 8) (V4 0 3 4 8) ⟨mU 4 O O,mU 0 O O,aU<|zN O (lN _) O,aU<|zS O O O,Zt⟩ O O O O ?_);refine z9 O (fun hc8=>?_) (fun hc8=>?_)
 ·refine W.skip (W.seq (W.block ?_));refine w7 (m:=13) (an:=[0,0,0,6,14,0,0,64,224,510,1022,2047,4095]) hP dU O (its:=[.y 11 _,.y 12 _,.y 13 _,.y 14 _,.y 15 _,.y 16 _,.y 17 _,.y 18 _,.y 19 _,.y 20 _,.y 21 _,.y 22 _,.y 3 _]) (ks:=[(11,3),(12,22),(12,11)]) (kk:=[(11,3),(12,22)]) (live:=[0,3,4]) (env':=(V3 0 3 4)) (⟨nU O,O,⟨aU<|zM O O,mU 0 O O,mU 4 O O,aU<|zI (2*i) O O O bU O,aU<|zL O O (mG l) O O O O O,mU 0 O O,mU 4 O O,aU<|m8 1 O O bU O,aU<|zD hC (rat_ok l (2*i+1) bO hl0 bO) O O O O O O (F1 (d9 _)) O,aU<|zD hC (rjoin_ok _ _ (hl.get bO) (hl.get bO)) O O O O O O (F1 (d9 _)) O,aU fun _ _ H K=>w9 (z:=32) (.cons (eU K 20 O) .nil) ⟨⟨O,O,O⟩,Zt⟩ O H dU,aU<|R5 O O O (g6 O) (R3) bU O,aU<|zO O O O,Zt⟩,O,O,O⟩) O (bx':=[]) O (n':=24) O (tV (V3 0 3 4) [] 24 O O O ?_);refine j1 3 (y3 9 10 4) (V3 0 3 4) ⟨mU 4 O O,aU<|m8 2 O O bU O,aU<|zA O O O,Zt⟩ O O O O ?_;exact⟨⟨(i+1),bU⟩,rfl,(by simp only[];omega)⟩
 ·obtain rfl:i=(l.length+1)/2:=by omega
  refine W.exit (z7 2 (y2 23 2) [(0,3),(1,23)] [(0,3),(1,23)] (V1 2) ⟨aU fun _ _ H K=>G3 (K 3 _ O) O H dU,aU<|zO O O O,Zt⟩ O O (tU O ?_));refine W.ret ?_;exact Ends.one' (.inr O) O (O) O O Zt
end Go.Sx

namespace Go.Sx
structure InS where
 tx:Hs
 n:UInt32
 script:List UInt8
 seq:UInt32
 wit:List (List UInt8)
 deriving Inhabited
structure OutS where
 value:UInt64
 script:List UInt8
 deriving Inhabited
structure TxS where
 ver:UInt32
 ins:List InS
 outs:List OutS
 lock:UInt32
 deriving Inhabited
def E3(x:InS):D:=.agg [.agg [z5 x.tx,.u32 x.n],E5 x.script,.u32 x.seq,.sl none 1 (x.wit.map E5)]
def J8(o:OutS):D:=.agg [.u64 o.value,E5 o.script]
def U7(t:TxS):D:=.agg [.u32 t.ver,.sl none 36 (t.ins.map E3),.sl none 2 (t.outs.map J8),.u32 t.lock]
def WF(x:UInt64):Nat->UInt64
 | 0=>x
 | i+1=>o6 (WF x i) 8
def m5(x:UInt64):Nat->List UInt8
 | 0=>[]
 | i+1=>m5 x i++[(WF x i).toUInt8]
theorem w5(x:UInt64)(i:Nat):(m5 x i).length=i:=by induction i with
 | zero=>rfl
 | succ i ih=>simp[m5,ih]
def cU(n:Nat):UInt64:=UInt64.ofInt ((n:Nat):Int)
def v6(n:Nat):List UInt8:=
 if cU n<253 then m5 (cU n) 1 else if cU n<=65535 then m5 253 1++m5 (cU n) 2 else if cU n<=4294967295 then m5 254 1++m5 (cU n) 4 else m5 255 1++m5 (cU n) 8
theorem n6(n:Nat):(v6 n).length<=9:=by
 unfold v6;split
 ·simp[w5]
 ·split
  ·simp[w5]
  ·split<;>simp[w5]
def M2(b:List UInt8):List UInt8:=v6 b.length++b
theorem C6(b:List UInt8):(M2 b).length<=9+b.length:=by
 have:=n6 b.length;simp[M2];omega
def inS(x:InS):List UInt8:=x.tx++m5 x.n.toUInt64 4++M2 x.script++m5 x.seq.toUInt64 4
def DD(o:OutS):List UInt8:=m5 o.value 8++M2 o.script
def U5(l:List InS):Nat->List UInt8
 | 0=>[]
 | i+1=>U5 l i++inS l[i]!
def U3(l:List OutS):Nat->List UInt8
 | 0=>[]
 | i+1=>U3 l i++DD l[i]!
def H7(t:TxS):List UInt8:=v6 t.ins.length++U5 t.ins t.ins.length++v6 t.outs.length++U3 t.outs t.outs.length
def I0(t:TxS):List UInt8:=m5 t.ver.toUInt64 4++H7 t++m5 t.lock.toUInt64 4
def KZ(l:List (List UInt8)):Nat->List UInt8
 | 0=>[]
 | i+1=>KZ l i++M2 l[i]!
def A0(l:List InS):Nat->List UInt8
 | 0=>[]
 | i+1=>A0 l i++v6 l[i]!.wit.length++KZ l[i]!.wit l[i]!.wit.length
def DK(t:TxS):Bool:=t.ins.any fun x=>decide (0<x.wit.length)
def NG(t:TxS):List UInt8:=if DK t then m5 t.ver.toUInt64 4++[0,1]++H7 t++A0 t.ins t.ins.length++m5 t.lock.toUInt64 4 else I0 t
structure TxS.wf(t:TxS):Prop where
 ins:t.ins.length<=1000000
 outs:t.outs.length<=1000000
 hash:∀ x∈t.ins,x.tx.length=32
 scr:∀ x∈t.ins,x.script.length<=1000000
 oscr:∀ x∈t.outs,x.script.length<=1000000
 insb:∀ i ≤ t.ins.length,(U5 t.ins i).length<=1500000
 outsb:∀ i ≤ t.outs.length,(U3 t.outs i).length<=1500000
 witsb:∀ i ≤ t.ins.length,(A0 t.ins i).length<=1500000
 witl:∀ x∈t.ins,x.wit.length<=1000000/\∀ i ≤ x.wit.length,(KZ x.wit i).length<=1500000
 witi:∀ x∈t.ins,∀ b∈x.wit,b.length<=1000000
theorem u9{α:Type}[Inhabited α]{l:List α}{i:Nat}(h:i<l.length):l[i]!∈l:=by
 rw[getElem!_pos l i h];exact List.getElem_mem h
theorem TxS.wf.insScript{t:TxS}(h:t.wf){i:Nat}(hi:i<t.ins.length):t.ins[i]!.script.length<=1000000:=h.scr _ (u9 hi)
theorem TxS.wf.outScript{t:TxS}(h:t.wf){i:Nat}(hi:i<t.outs.length):t.outs[i]!.script.length<=1000000:=h.oscr _ (u9 hi)
theorem TxS.wf.body{t:TxS}(h:t.wf):(H7 t).length<=3000018:=by
 have h1:=n6 t.ins.length;have h2:=n6 t.outs.length;have h3:=h.insb _ (Nat.le_refl _);have h4:=h.outsb _ (Nat.le_refl _);simp only[H7,List.length_append];omega
theorem TxS.wf.bareL{t:TxS}(h:t.wf):(I0 t).length<=4000000:=by
 have h1:=h.body;simp only[I0,List.length_append,w5];omega
theorem TH{t:TxS}{i:Nat}(hi:i<t.ins.length)(h:0<t.ins[i]!.wit.length):DK t=true:=by
 unfold DK;rw[List.any_eq_true];exact⟨_,u9 hi,by simpa using h⟩
theorem EC{t:TxS}(h:∀ k<t.ins.length,¬ 0<t.ins[k]!.wit.length):DK t=false:=by
 unfold DK;rw[List.any_eq_false];intro x hx;obtain⟨k,hk,rfl⟩:=List.mem_iff_getElem.1 hx;have:=h k hk;rw[getElem!_pos t.ins k hk] at this;simpa using this
def J0(t:TxS):Hs:=S7 (I0 t)
def n2(x:UInt64):Nat:=if x=253 then 2 else if x=254 then 4 else 8
theorem DN{n:Nat}(hn:n<18446744073709551616):(UInt64.ofInt ((n:Nat):Int)).toNat=n:=by
 have:UInt64.ofInt ((n:Nat):Int)=UInt64.ofNat n:=by
  unfold UInt64.ofInt
  congr 1
  omega
 rw[this];simp[UInt64.toNat_ofNat];omega
section
variable{b r r0 r1 r2 r3 r4 r5 x s u:List UInt8}{p q:UInt64}{i j n m:Nat}{l:List InS}{o:List OutS}
end
end Go.Sx

namespace Go.Sx
theorem shN_eq(x:UInt64)(i:Nat)(hi:i<8):o6 x ((((cU (8*i)).toNat:Nat):Int)).toNat=WF x i:=by
 have h1:(cU (8*i)).toNat=8*i:=DN (by omega);rw[h1];show o6 x (8*i)=WF x i
 induction i with
 | zero=>simp[WF,o6]
 | succ i ih=>
  rw[WF,<- ih (by omega) (DN (by omega))];apply UInt64.toNat_inj.1;rw[B3,B3,B3,Nat.div_div_eq_div_mul,<- Nat.pow_add]
  congr 2
  omega
theorem FD{x:UInt64}(h:x<65536):x<=65535:=by
 rw[UInt64.lt_iff_toNat_lt] at h;rw[UInt64.le_iff_toNat_le];have e1:(65536:UInt64).toNat=65536:=rfl;have e2:(65535:UInt64).toNat=65535:=rfl;omega
theorem YN{x:UInt64}(h:x<=65535):x<65536:=by
 rw[UInt64.le_iff_toNat_le] at h;rw[UInt64.lt_iff_toNat_lt];have e1:(65536:UInt64).toNat=65536:=rfl;have e2:(65535:UInt64).toNat=65535:=rfl;omega
theorem FH{x:UInt64}(h:x<4294967296):x<=4294967295:=by
 rw[UInt64.lt_iff_toNat_lt] at h;rw[UInt64.le_iff_toNat_le];have e1:(4294967296:UInt64).toNat=4294967296:=rfl;have e2:(4294967295:UInt64).toNat=4294967295:=rfl;omega
theorem FY{x:UInt64}(h:x<=4294967295):x<4294967296:=by
 rw[UInt64.le_iff_toNat_le] at h;rw[UInt64.lt_iff_toNat_lt];have e1:(4294967296:UInt64).toNat=4294967296:=rfl;have e2:(4294967295:UInt64).toNat=4294967295:=rfl;omega
end Go.Sx

namespace Go.Sx
open Go.Proofs
theorem A2(x:UInt64)(n:Nat)(hn:n<=8):Fn Tryd.prog gl 76 [.u64 x,.int ((n:Nat):Int)] (.sl (some 5) 1 ((m5 x n).map D.u8)):=by
 refine Fn.of (n:=22) Tryd.func76 rfl rfl rfl (nU rfl) fun C hC hD=>?_;refine z6 1 (y1 4) (V2 0 1) ⟨aU<|zK (kN O) O O,Zt⟩ O O O O ?_;refine z6 1 (y1 5) (V3 0 1 5) ⟨aU<|zK (kN O) O O,Zt⟩ O O O O ?_;refine W.seq (z6 1 (y1 6) (V4 0 1 5 6) ⟨aU<|zK (kI 0 O) O O,Zt⟩ O O O O ?_);refine W.block ?_;refine Q7 (s:=5) 5 1 O ?_;refine W.loop (α:={q__:Nat//q__<=n}) (fun q__=>⟨22,[(0,.u64 x),(1,.int ((n:Nat):Int)),(5,.sl (some 5) 1 ((m5 x q__.1).map D.u8)),(6,.int ((q__.1:Nat):Int))],[]⟩) (fun q__=>n-q__.1) ⟨(0),bU⟩ O ?_;rintro ⟨i,hi⟩;show W _ _ _ _ ⟨22,[(0,.u64 x),(1,.int ((n:Nat):Int)),(5,.sl (some 5) 1 ((m5 x i).map D.u8)),(6,.int ((i:Nat):Int))],[]⟩;have hi:i<=n:=hi;have hll:=w5 x i;refine W.seq (z6 3 (y3 7 8 9) (V5 0 1 5 6 9) ⟨mU 6 O O,mU 1 O O,aU<|zS O O O,Zt⟩ O O O O ?_);refine z9 O (fun hc9=>?_) (fun hc9=>?_)
 ·refine W.skip (W.seq (W.block ?_));refine c9 10 (y10 12 13 14 15 16 17 18 19 20 5) [(8,5),(9,20),(9,12)] [(8,5),(9,20)] (V4 0 1 5 6) ⟨aU<|zM O O,mU 0 O O,mU 6 O O,aU<|E8 8 O O bU O,aU fun _ _ H K=>Z3 (d:=.u64 (cU (8*i))) (eU K 15 O) O (O) H,aU fun _ _ H K=>m3 (d:=.u64 (WF x i)) (eU K 13 O) (eU K 16 O) O bV (congrArg D.u64 (shN_eq x i bO)) H,aU<|zW O O O,aU fun _ _ H K=>w9 (z:=1) (.cons (eU K 18 O) .nil) ⟨⟨O,O,O⟩,Zt⟩ O H dU,aU<|R5 O O O (g6 O) (show _=((m5 x (i+1)).map D.u8) from(by simp[m5])) bU O,aU<|zO O O O,Zt⟩ O O (tU O ?_);refine j1 3 (y3 10 11 6) (V4 0 1 5 6) ⟨mU 6 O O,aU<|m8 1 O O bU O,aU<|zA O O O,Zt⟩ O O O O ?_;exact⟨⟨(i+1),bU⟩,rfl,(by simp only[];omega)⟩
 ·obtain rfl:i=n:=by omega
  refine W.exit (z7 2 (y2 21 4) [(0,5),(1,21)] [(0,5),(1,21)] (V1 4) ⟨aU fun _ _ H K=>G3 (K 5 _ O) O H dU,aU<|zO O O O,Zt⟩ O O (tU O ?_));refine W.ret ?_;exact Ends.one' (.inr O) O (O) O O Zt
theorem BK(n:Nat):Fn Tryd.prog gl 98 [.int ((n:Nat):Int)] (.sl (some 5) 1 ((v6 n).map D.u8)):=by
 refine Fn.of (n:=27) Tryd.func98 rfl rfl rfl (nU rfl) fun C hC hD=>?_;refine z6 1 (y1 2) (V1 0) ⟨aU<|zK (kN O) O O,Zt⟩ O O O O ?_;refine z6 3 (y3 4 5 3) (V1 3) ⟨mU 0 O O,aU fun _ _ H K=>Z3 (d:=.u64 (cU n)) (eU K 4 O) O (O) H,aU<|zA O O O,Zt⟩ O O O O ?_;refine W.seq (z6 2 (y2 6 7) (V2 3 7) ⟨mU 3 O O,aU<|P5 O (kW (.int .u64 253) (.u64 253) O) O O,Zt⟩ O O O O ?_);refine W.cond O (fun hc7=>?_) (fun hc7=>?_)
 ·refine z7 4 (y4 8 9 10 2) [(3,10)] [(3,10)] (V1 2) ⟨mU 3 O O,aU<|zW O O O,aU fun _ _ H K=>w9 (z:=1) (.cons (eU K 9 O) .nil) ⟨⟨O,O,O⟩,Zt⟩ O H dU,aU<|zO O O O,Zt⟩ O O (tU O ?_);refine W.ret ?_;exact Ends.one' (.inr O) O (by rw[v6,if_pos (of_decide_eq_true hc7)];rfl) O O Zt
 ·refine W.skip (W.seq (z6 2 (y2 11 12) (V2 3 12) ⟨mU 3 O O,aU<|P5 O (kW (.int .u64 65536) (.u64 65536) O) O O,Zt⟩ O O O O ?_));refine W.cond O (fun hc12=>?_) (fun hc12=>?_)
  ·refine z7 5 (y5 13 14 15 16 2) [(3,13),(4,16)] [(3,13),(4,16)] (V1 2) ⟨aU fun _ _ H _=>w9 (z:=1) (.cons (kW (.int .u8 253) (.u8 253) O) .nil) ⟨⟨O,O,O⟩,Zt⟩ O H dU,mU 3 O O,aU<|t9 hC (A2 (cU n) 2 dU) O O O (kI 2 O) O O (F1 (.sl _ _ _ (u2 fun _=>.u8 _))) O,aU fun _ _ H K=>Q6 (Or.inl O) (K 13 _ O) (SrcO.sc (SC.sl (K 15 _ O)) (p8 (fun _=>rfl))) (show _=((m5 253 1++m5 (cU n) 2).map D.u8) from(by simp[m5,WF])) (by simp[w5]) H dU dU,aU<|zO O O O,Zt⟩ O O (tU O ?_);refine W.ret ?_;exact Ends.one' (.inr O) O (by rw[v6,if_neg (of_decide_eq_false hc7),if_pos (FD (of_decide_eq_true hc12))]) O O Zt
  ·refine W.skip (W.seq (z6 2 (y2 17 18) (V2 3 18) ⟨mU 3 O O,aU<|P5 O (kW (.int .u64 4294967296) (.u64 4294967296) O) O O,Zt⟩ O O O O ?_));refine W.cond O (fun hc18=>?_) (fun hc18=>?_)
   ·refine z7 5 (y5 19 20 21 22 2) [(3,19),(4,22)] [(3,19),(4,22)] (V1 2) ⟨aU fun _ _ H _=>w9 (z:=1) (.cons (kW (.int .u8 254) (.u8 254) O) .nil) ⟨⟨O,O,O⟩,Zt⟩ O H dU,mU 3 O O,aU<|t9 hC (A2 (cU n) 4 dU) O O O (kI 4 O) O O (F1 (.sl _ _ _ (u2 fun _=>.u8 _))) O,aU fun _ _ H K=>Q6 (Or.inl O) (K 19 _ O) (SrcO.sc (SC.sl (K 21 _ O)) (p8 (fun _=>rfl))) (show _=((m5 254 1++m5 (cU n) 4).map D.u8) from(by simp[m5,WF])) (by simp[w5]) H dU dU,aU<|zO O O O,Zt⟩ O O (tU O ?_);refine W.ret ?_;exact Ends.one' (.inr O) O (by rw[v6,if_neg (of_decide_eq_false hc7),if_neg (fun h=>of_decide_eq_false hc12 (YN h)),if_pos (FH (of_decide_eq_true hc18))]) O O Zt
   ·refine W.skip (z7 5 (y5 23 24 25 26 2) [(3,23),(4,26)] [(3,23),(4,26)] (V1 2) ⟨aU fun _ _ H _=>w9 (z:=1) (.cons (kW (.int .u8 255) (.u8 255) O) .nil) ⟨⟨O,O,O⟩,Zt⟩ O H dU,mU 3 O O,aU<|t9 hC (A2 (cU n) 8 dU) O O O (kI 8 O) O O (F1 (.sl _ _ _ (u2 fun _=>.u8 _))) O,aU fun _ _ H K=>Q6 (Or.inl O) (K 23 _ O) (SrcO.sc (SC.sl (K 25 _ O)) (p8 (fun _=>rfl))) (show _=((m5 255 1++m5 (cU n) 8).map D.u8) from(by simp[m5,WF])) (by simp[w5]) H dU dU,aU<|zO O O O,Zt⟩ O O (tU O ?_));refine W.ret ?_;exact Ends.one' (.inr O) O (by rw[v6,if_neg (of_decide_eq_false hc7),if_neg (fun h=>of_decide_eq_false hc12 (YN h)),if_neg (fun h=>of_decide_eq_false hc18 (FY h))]) O O Zt
theorem LE(x:List UInt8)(hx:x.length<=1000000):Fn Tryd.prog gl 100 [.sl none 1 (x.map D.u8)] (.sl (some 5) 1 ((M2 x).map D.u8)):=by
 refine Fn.of (n:=8) Tryd.func100 rfl rfl rfl (nU rfl) fun C hC hD=>?_;have hcl:=n6 x.length;refine z6 1 (y1 2) (V1 0) ⟨aU<|zK (kN O) O O,Zt⟩ O O O O ?_;refine z7 6 (y6 3 4 5 6 7 2) [(4,5),(5,7)] [(4,5),(5,7)] (V1 2) ⟨mU 0 O O,aU<|zN O (lN _) O,aU<|zC hC (BK x.length) O O O (F1 (.sl _ _ _ (u2 fun _=>.u8 _))) O,mU 0 O O,aU fun _ _ H K=>Q6 (Or.inl O) (K 5 _ O) (SrcO.sc (SC.sl (K 6 _ O)) (p8 (fun _=>rfl))) (show _=((M2 x).map D.u8) from(by simp[M2])) bU H dU dU,aU<|zO O O O,Zt⟩ O O (tU O ?_);refine W.ret ?_;exact Ends.one' (.inr O) O (O) O O Zt
theorem TD(x:InS)(hh:x.tx.length=32)(hx:x.script.length<=1000000):Fn Tryd.prog gl 99 [E3 x] (.sl (some 5) 1 ((inS x).map D.u8)):=by
 refine Fn.of (n:=27) Tryd.func99 rfl rfl rfl (nU rfl) fun C hC hD=>?_;have hil:=C6 x.script;refine z7 2 [] [] [] (V1 0) Zt O O (⟨O,_,R.box (gV 0 O) O O (nU O),⟨O,_,v3 (kN O) O (nU O),tV (V1 1) (b1 1) 27 O O O ?_⟩⟩);refine z7 6 (y6 4 5 6 7 8 3) [(4,4),(5,8)] [(4,4),(5,8)] (V2 1 3) ⟨aU fun _ _ H _=>w9 .nil Zt O H dU,aU (fU 1 O O),aU (fU 5 O O),aU fun _ B H K=>J4 (0) (32) (32) (K 6 _ O) (B 1 _ O) O O O O O bU bU O H,aU fun _ B H K=>Q6 (Or.inl O) (K 4 _ O) (SrcO.sc (SC.va (K 7 _ O) (B 1 _ O) O bU) (X5 (fun _=>rfl))) (show _=(x.tx.map D.u8) from(by rw[List.drop_zero,List.take_of_length_le (by rw[List.length_map,hh];exact Nat.le_refl _)];simp)) bU H dU dU,aU<|zO O O O,Zt⟩ O O (tU O ?_);refine z7 8 (y8 9 10 11 12 13 14 15 3) [(6,3),(7,15),(7,9)] [(6,3),(7,15)] (V2 1 3) ⟨aU<|zM O O,aU (fU 1 O O),aU (fU 10 O O),aU (lU 11 O O O O O O O),aU<|zW O O O,aU<|t9 hC (A2 x.n.toUInt64 4 dU) O O O (kI 4 O) O O (F1 (.sl _ _ _ (u2 fun _=>.u8 _))) O,aU<|R5 O O O (p8 (fun _=>rfl)) (show _=(((x.tx++m5 x.n.toUInt64 4)).map D.u8) from(by simp)) (by simp only[List.length_map,List.length_append,w5,List.length_cons,List.length_nil];omega) O,aU<|zO O O O,Zt⟩ O O (tU O ?_);refine z7 6 (y6 16 17 18 19 20 3) [(4,3),(5,20),(5,16)] [(4,3),(5,20)] (V2 1 3) ⟨aU<|zM O O,aU (fU 1 O O),aU (lU 17 O O O O O O O),aU<|zC hC (LE x.script (hx)) O O O (F1 (.sl _ _ _ (u2 fun _=>.u8 _))) O,aU<|R5 O O O (p8 (fun _=>rfl)) (show _=((((x.tx++m5 x.n.toUInt64 4)++M2 x.script)).map D.u8) from(by simp)) (by simp only[List.length_map,List.length_append,w5,List.length_cons,List.length_nil];omega) O,aU<|zO O O O,Zt⟩ O O (tU O ?_);refine z7 7 (y7 21 22 23 24 25 26 2) [(5,3),(6,26)] [(5,3),(6,26)] (V1 2) ⟨aU<|zM O O,aU (fU 1 O O),aU (lU 22 O O O O O O O),aU<|zW O O O,aU<|t9 hC (A2 x.seq.toUInt64 4 dU) O O O (kI 4 O) O O (F1 (.sl _ _ _ (u2 fun _=>.u8 _))) O,aU<|R5 O O O (p8 (fun _=>rfl)) (show _=((((x.tx++m5 x.n.toUInt64 4)++M2 x.script)++m5 x.seq.toUInt64 4).map D.u8) from(by simp)) (by simp only[List.length_map,List.length_append,w5,List.length_cons,List.length_nil];omega) O,aU<|zO O O O,Zt⟩ O O (tU O ?_);refine W.ret ?_;exact Ends.one' (.inr O) O (by simp only[inS]) O O Zt
theorem rbdy_ok(t:TxS)(hwf:t.wf):Fn Tryd.prog gl 77 [U7 t] (.sl (some 5) 1 ((H7 t).map D.u8)):=by
 refine Fn.of (n:=57) Tryd.func77 rfl rfl rfl (nU rfl) fun C hC hD=>?_;have hc1:=n6 t.ins.length;have hc2:=n6 t.outs.length;have h1:=hwf.ins;have h2:=hwf.outs;have h3:=hwf.insb _ (Nat.le_refl _);have h4:=hwf.outsb _ (Nat.le_refl _);refine z7 2 [] [] [] (V1 0) Zt O O (⟨O,_,R.box (gV 0 O) O O (nU O),⟨O,_,v3 (kN O) O (nU O),tV (V1 1) (b1 1) 57 O O O ?_⟩⟩);refine z7 5 (y5 6 7 8 9 3) [(4,9)] [(4,9)] (V2 1 3) ⟨aU (fU 1 O O),aU (lU 6 O O O O O O O),aU<|zN O (lN _) O,aU<|zC hC (BK t.ins.length) O O O (F1 (.sl _ _ _ (u2 fun _=>.u8 _))) O,aU<|zO O O O,Zt⟩ O O (tU O ?_);refine W.seq (z6 1 (y1 4) (V3 1 3 4) ⟨aU<|zK (kI 0 O) O O,Zt⟩ O O O O ?_);refine W.block ?_;refine W.loop (α:={q__:Nat//q__<=t.ins.length}) (fun q__=>⟨57,[(1,.ptr 1 0 []),(3,.sl (some 5) 1 ((v6 t.ins.length++U5 t.ins q__.1).map D.u8)),(4,.int ((q__.1:Nat):Int))],[(1,.var (.agg [.u32 t.ver,.sl none 36 (t.ins.map E3),.sl none 2 (t.outs.map J8),.u32 t.lock]))]⟩) (fun q__=>t.ins.length-q__.1) ⟨(0),bU⟩ (by simp only[U5,List.append_nil];rfl) ?_;rintro ⟨i,hi⟩;show W _ _ _ _ ⟨57,[(1,.ptr 1 0 []),(3,.sl (some 5) 1 ((v6 t.ins.length++U5 t.ins i).map D.u8)),(4,.int ((i:Nat):Int))],[(1,.var (.agg [.u32 t.ver,.sl none 36 (t.ins.map E3),.sl none 2 (t.outs.map J8),.u32 t.lock]))]⟩;have hi:i<=t.ins.length:=hi;have hib:=hwf.insb i hi;have hib1:i<t.ins.length->(U5 t.ins (i+1)).length<=1500000:=fun h=>hwf.insb (i+1) h
 have hx:i<t.ins.length->t.ins[i]!.tx.length=32/\t.ins[i]!.script.length<=1000000:=fun h=>⟨hwf.hash _ (u9 h),hwf.insScript h⟩
 have hiS:(U5 t.ins (i+1)).length=(U5 t.ins i).length+(inS t.ins[i]!).length:=by simp[U5]
 refine W.seq (z6 5 (y5 10 11 12 13 14) (V4 1 3 4 14) ⟨mU 4 O O,aU (fU 1 O O),aU (lU 11 O O O O O O O),aU<|zN O (lN _) O,aU<|zS O O O,Zt⟩ O O O O ?_);refine z9 O (fun hc14=>?_) (fun hc14=>?_)
 ·refine W.skip (W.seq (W.block ?_));refine c9 9 (y9 17 18 19 20 21 22 23 24 3) [(7,3),(8,24),(8,17)] [(7,3),(8,24)] (V3 1 3 4) ⟨aU<|zM O O,aU (fU 1 O O),aU (lU 18 O O O O O O O),mU 4 O O,aU<|zI i O O O bU O,aU<|zL O O (mG t.ins) O O O O O,aU<|zC hC (TD t.ins[i]! ((hx bO).1) ((hx bO).2)) O O O (F1 (.sl _ _ _ (u2 fun _=>.u8 _))) O,aU<|R5 O O O (p8 (fun _=>rfl)) (show _=((v6 t.ins.length++U5 t.ins (i+1)).map D.u8) from(by simp[U5,U3,DD,List.append_assoc])) (by simp only[List.length_map,List.length_append,w5,List.length_cons,List.length_nil];omega) O,aU<|zO O O O,Zt⟩ O O (tU O ?_);refine j1 3 (y3 15 16 4) (V3 1 3 4) ⟨mU 4 O O,aU<|m8 1 O O bU O,aU<|zA O O O,Zt⟩ O O O O ?_;exact⟨⟨(i+1),bU⟩,rfl,(by simp only[];omega)⟩
 ·obtain rfl:i=t.ins.length:=by omega
  refine W.exit (z7 7 (y7 25 26 27 28 29 30 3) [(5,3),(6,30),(6,25)] [(5,3),(6,30)] (V2 1 3) ⟨aU<|zM O O,aU (fU 1 O O),aU (lU 26 O O O O O O O),aU<|zN O (lN _) O,aU<|zC hC (BK t.outs.length) O O O (F1 (.sl _ _ _ (u2 fun _=>.u8 _))) O,aU<|R5 O O O (p8 (fun _=>rfl)) (show _=(((v6 t.ins.length++U5 t.ins t.ins.length)++v6 t.outs.length).map D.u8) from(by simp)) (by simp only[List.length_map,List.length_append,w5,List.length_cons,List.length_nil];omega) O,aU<|zO O O O,Zt⟩ O O (tU O ?_));refine W.seq (z6 1 (y1 5) (V3 1 3 5) ⟨aU<|zK (kI 0 O) O O,Zt⟩ O O O O ?_);refine W.block ?_;refine W.loop (α:={q__:Nat//q__<=t.outs.length}) (fun q__=>⟨57,[(1,.ptr 1 0 []),(3,.sl (some 5) 1 (((v6 t.ins.length++U5 t.ins t.ins.length)++v6 t.outs.length++U3 t.outs q__.1).map D.u8)),(5,.int ((q__.1:Nat):Int))],[(1,.var (.agg [.u32 t.ver,.sl none 36 (t.ins.map E3),.sl none 2 (t.outs.map J8),.u32 t.lock]))]⟩) (fun q__=>t.outs.length-q__.1) ⟨(0),bU⟩ (by simp only[U3,List.append_nil]) ?_;rintro ⟨i,hi⟩;show W _ _ _ _ ⟨57,[(1,.ptr 1 0 []),(3,.sl (some 5) 1 (((v6 t.ins.length++U5 t.ins t.ins.length)++v6 t.outs.length++U3 t.outs i).map D.u8)),(5,.int ((i:Nat):Int))],[(1,.var (.agg [.u32 t.ver,.sl none 36 (t.ins.map E3),.sl none 2 (t.outs.map J8),.u32 t.lock]))]⟩;have hi:i<=t.outs.length:=hi;have hib:=hwf.outsb i hi;have hib1:i<t.outs.length->(U3 t.outs (i+1)).length<=1500000:=fun h=>hwf.outsb (i+1) h;have hx:i<t.outs.length->t.outs[i]!.script.length<=1000000:=fun h=>hwf.outScript h
  have hiS:(U3 t.outs (i+1)).length=(U3 t.outs i).length+(8+(M2 t.outs[i]!.script).length):=by simp[U3,DD,w5]
  refine W.seq (z6 5 (y5 31 32 33 34 35) (V4 1 3 5 35) ⟨mU 5 O O,aU (fU 1 O O),aU (lU 32 O O O O O O O),aU<|zN O (lN _) O,aU<|zS O O O,Zt⟩ O O O O ?_);refine z9 O (fun hc35=>?_) (fun hc35=>?_)
  ·refine W.skip (W.seq (W.block (z7 10 (y10 38 39 40 41 42 43 44 45 46 3) [(8,3),(9,46),(9,38)] [(8,3),(9,46)] (V3 1 3 5) ⟨aU<|zM O O,aU (fU 1 O O),aU (lU 39 O O O O O O O),mU 5 O O,aU<|zI i O O O bU O,aU<|H9 O O,aU<|zL O O (mG t.outs) O O O O O,aU<|t9 hC (A2 t.outs[i]!.value 8 dU) O O O (kI 8 O) O O (F1 (.sl _ _ _ (u2 fun _=>.u8 _))) O,aU<|R5 O O O (p8 (fun _=>rfl)) (show _=((((v6 t.ins.length++U5 t.ins t.ins.length)++v6 t.outs.length++U3 t.outs i)++m5 t.outs[i]!.value 8).map D.u8) from(by simp)) (by simp only[List.length_map,List.length_append,w5,List.length_cons,List.length_nil];omega) O,aU<|zO O O O,Zt⟩ O O (tU O ?_))));refine c9 10 (y10 47 48 49 50 51 52 53 54 55 3) [(8,3),(9,55),(9,47)] [(8,3),(9,55)] (V3 1 3 5) ⟨aU<|zM O O,aU (fU 1 O O),aU (lU 48 O O O O O O O),mU 5 O O,aU<|zI i O O O bU O,aU<|H9 O O,aU<|zL O O (mG t.outs) O O O O O,aU<|zC hC (LE t.outs[i]!.script (hx bO)) O O O (F1 (.sl _ _ _ (u2 fun _=>.u8 _))) O,aU<|R5 O O O (p8 (fun _=>rfl)) (show _=(((v6 t.ins.length++U5 t.ins t.ins.length)++v6 t.outs.length++U3 t.outs (i+1)).map D.u8) from(by simp[U5,U3,DD,List.append_assoc])) (by simp only[List.length_map,List.length_append,w5,List.length_cons,List.length_nil];omega) O,aU<|zO O O O,Zt⟩ O O (tU O ?_);refine j1 3 (y3 36 37 5) (V3 1 3 5) ⟨mU 5 O O,aU<|m8 1 O O bU O,aU<|zA O O O,Zt⟩ O O O O ?_;exact⟨⟨(i+1),bU⟩,rfl,(by simp only[];omega)⟩
  ·obtain rfl:i=t.outs.length:=by omega
   refine W.exit (z7 2 (y2 56 2) [(0,3),(1,56)] [(0,3),(1,56)] (V1 2) ⟨aU fun _ _ H K=>G3 (K 3 _ O) O H dU,aU<|zO O O O,Zt⟩ O O (tU O ?_));refine W.ret ?_;exact Ends.one' (.inr O) O (by simp only[H7]) O O Zt
theorem rbare_ok(t:TxS)(hwf:t.wf):Fn Tryd.prog gl 57 [U7 t] (.sl (some 5) 1 ((I0 t).map D.u8)):=by
 refine Fn.of (n:=17) Tryd.func57 rfl rfl rfl (nU rfl) fun C hC hD=>?_;have hbl:=hwf.body;refine z7 2 [] [] [] (V1 0) Zt O O (⟨O,_,R.box (gV 0 O) O O (nU O),⟨O,_,v3 (kN O) O (nU O),tV (V1 1) (b1 1) 17 O O O ?_⟩⟩);refine W.seq ?_;refine w7 (m:=8) (an:=[0,1,3,7,0,31,63,127]) hP dU O (its:=[.y 4 _,.y 5 _,.y 6 _,.y 7 _,.y 8 _,.y 9 _,.y 10 _,.y 3 _]) (ks:=[(6,7),(7,10)]) (kk:=[(6,7),(7,10)]) (live:=[1,3]) (env':=(V2 1 3)) (⟨nU O,O,⟨aU (fU 1 O O),aU (lU 4 O O O O O O O),aU<|zW O O O,aU<|t9 hC (A2 t.ver.toUInt64 4 dU) O O O (kI 4 O) O O (F1 (.sl _ _ _ (u2 fun _=>.u8 _))) O,aU (lU 1 O O O O O O O),aU<|zC hC (rbdy_ok t hwf) O O O (F1 (.sl _ _ _ (u2 fun _=>.u8 _))) O,aU fun _ _ H K=>Q6 (Or.inl O) (K 7 _ O) (SrcO.sc (SC.sl (K 9 _ O)) (p8 (fun _=>rfl))) (show _=((m5 t.ver.toUInt64 4++H7 t).map D.u8) from(by simp)) (by simp only[List.length_map,List.length_append,w5,List.length_cons,List.length_nil];omega) H dU dU,aU<|zO O O O,Zt⟩,O,O,O⟩) O (bx':=(b1 1)) O (n':=17) O (tV (V2 1 3) (b1 1) 17 O O O ?_);refine z7 7 (y7 11 12 13 14 15 16 2) [(5,3),(6,16)] [(5,3),(6,16)] (V1 2) ⟨aU<|zM O O,aU (fU 1 O O),aU (lU 12 O O O O O O O),aU<|zW O O O,aU<|t9 hC (A2 t.lock.toUInt64 4 dU) O O O (kI 4 O) O O (F1 (.sl _ _ _ (u2 fun _=>.u8 _))) O,aU<|R5 O O O (p8 (fun _=>rfl)) (show _=((I0 t).map D.u8) from(by simp[I0])) (by simp only[List.length_map,List.length_append,w5,List.length_cons,List.length_nil];omega) O,aU<|zO O O O,Zt⟩ O O (tU O ?_);refine W.ret ?_;exact Ends.one' (.inr O) O (O) O O Zt
end Go.Sx

namespace Go.Sx
def Z9:HdS:=⟨1,zero32,zero32,1000,545259519,0⟩
def lim:UInt32:=545259519
def HA(x:Bg)(n m:UInt64)(most:Bg):Bg:=
 if CB (J2 x [m,0,0,0]) n≠0 then most
 else if WC (G9 (J2 x [m,0,0,0]) n) (J2 (G9 (M6 x [m,0,0,0]) n) [m,0,0,0])=true∨T8 most (HT (G9 (J2 x [m,0,0,0]) n) (J2 (G9 (M6 x [m,0,0,0]) n) [m,0,0,0]))=true then most
 else HT (G9 (J2 x [m,0,0,0]) n) (J2 (G9 (M6 x [m,0,0,0]) n) [m,0,0,0])
def spanZ(l:List HdS):Int:=min (max (((l[l.length-1]!.time.toNat:Nat):Int)-((l[l.length-10]!.time.toNat:Nat):Int)) 25) 400
def YG(l:List HdS):Bg:=HA (HF l[l.length-1]!.bits) (UInt64.ofInt (spanZ l)) 100 (HF lim)
def Q0(l:List HdS):UInt32:=
 if l.length=0 then 0 else if l.length%10≠0 then l[l.length-1]!.bits else W2 (if YG l=u4 then[1,0,0,0] else YG l)
theorem bitsP_0{l:List HdS}(h:l.length=0):Q0 l=0:=by unfold Q0;exact if_pos h
theorem bitsP_1{l:List HdS}(h:¬ l.length=0)(h1:l.length%10≠0):Q0 l=l[l.length-1]!.bits:=by
 unfold Q0;rw[if_neg h,if_pos h1]
theorem bitsP_2{l:List HdS}(h:¬ l.length=0)(h1:¬ l.length%10≠0)(hz:YG l=u4):Q0 l=W2 [1,0,0,0]:=by
 unfold Q0;rw[if_neg h,if_neg h1,if_pos hz]
theorem bitsP_3{l:List HdS}(h:¬ l.length=0)(h1:¬ l.length%10≠0)(hz:¬ YG l=u4):Q0 l=W2 (YG l):=by
 unfold Q0;rw[if_neg h,if_neg h1,if_neg hz]
theorem prtS_len{x most:Bg}{n m:UInt64}(h:most.length=4):(HA x n m most).length=4:=by
 unfold HA;split
 ·exact h
 ·split
  ·exact h
  ·exact AN _ _
theorem newT_len(l:List HdS):(YG l).length=4:=by unfold YG;exact prtS_len (QF _)
def shf(x:UInt32):List UInt32->Nat->List UInt32
 | ts,0=>ts.set 0 x
 | ts,k+1=>if x<ts[k]! then shf x (ts.set (k+1) ts[k]!) k else ts.set (k+1) x
def VJ(ts:List UInt32)(x:UInt32):List UInt32:=shf x (ts++[x]) ts.length
def JL(l:List HdS):Nat->List UInt32
 | 0=>[]
 | j+1=>VJ (JL l j) l[l.length-11+j]!.time
def NV(l:List HdS):UInt32:=if l.length=0 then 0 else(JL l (min l.length 11))[min l.length 11/2]!
theorem shf_len(x:UInt32)(k:Nat):∀ ts:List UInt32,(shf x ts k).length=ts.length:=by
 induction k with
 | zero=>intro ts;simp[shf]
 | succ k ih=>intro ts;simp only[shf];split<;>simp[ih]
theorem insT_len(ts:List UInt32)(x:UInt32):(VJ ts x).length=ts.length+1:=by simp[VJ,shf_len]
theorem medI_len(l:List HdS)(j:Nat):(JL l j).length=j:=by
 induction j with
 | zero=>rfl
 | succ j ih=>simp only[JL,insT_len,ih]
theorem shf_t{x:UInt32}{ts:List UInt32}{k:Nat}(h0:0<k)(h:x<ts[k-1]!):shf x ts k=shf x (ts.set k ts[k-1]!) (k-1):=by
 obtain⟨j,rfl⟩:∃ j,k=j+1:=⟨k-1,by omega⟩
 rw[shf];exact if_pos h
theorem LB{x:UInt32}{ts:List UInt32}{k:Nat}(h:0<k->¬ x<ts[k-1]!):shf x ts k=ts.set k x:=by
 cases k with
 | zero=>rw[shf]
 | succ j=>
  rw[shf];exact if_neg (h (by omega))
def F7(h:HdS)(t:Bg):Nat->HdS×Bool
 | 0=>(h,false)
 | k+1=>if QR (F8 { h with nonce:=UInt32.ofNat (199-k) }) t=true then({ h with nonce:=UInt32.ofNat (199-k) },true) else F7 { h with nonce:=UInt32.ofNat (199-k) } t k
def A6(l:List HdS)(time:UInt32)(root:Hs):HdS:=⟨1,F8 l[l.length-1]!,root,time,Q0 l,0⟩
def A5(l:List HdS)(time:UInt32)(root:Hs):HdS×Bool:=
 match i8 (Q0 l) with
 | none=>(A6 l time root,false)
 | some t=>F7 (A6 l time root) t 200
theorem DS(h:HdS):(F8 h).length=32:=by unfold F8;exact l6 _
theorem wfI{v t b n:UInt32}{p r:Hs}(hp:p.length=32)(hr:r.length=32):HdS.wf ⟨v,p,r,t,b,n⟩:=⟨hp,hr⟩
theorem mineF_wf(t:Bg)(k:Nat):∀ h:HdS,h.wf->(F7 h t k).1.wf:=by
 induction k with
 | zero=>intro h hw;exact hw
 | succ k ih=>
  intro h hw;rw[F7];split
  ·exact wfI hw.1 hw.2
  ·exact ih _ (wfI hw.1 hw.2)
theorem GQ(l:List HdS)(time:UInt32)(root:Hs)(hr:root.length=32):(A6 l time root).wf:=by
 unfold A6;exact wfI (DS _) hr
theorem f7{l:List HdS}{time:UInt32}{root:Hs}(h:i8 (Q0 l)=none):A5 l time root=(A6 l time root,false):=by
 unfold A5;rw[h]
theorem f6{l:List HdS}{time:UInt32}{root:Hs}{t:Bg}(h:i8 (Q0 l)=some t):A5 l time root=F7 (A6 l time root) t 200:=by
 unfold A5;rw[h]
theorem mineS_wf(l:List HdS)(time:UInt32)(root:Hs)(hr:root.length=32):(A5 l time root).1.wf:=by
 cases h:i8 (Q0 l) with
 | none=>rw[f7 h];exact GQ l time root hr
 | some t=>rw[f6 h];exact mineF_wf t _ _ (GQ l time root hr)
end Go.Sx

namespace Go.Sx
abbrev Plc:=Hs×UInt32
def q7(p:Plc):D:=.agg [z5 p.1,.u32 p.2]
def plc(x:InS):Plc:=(x.tx,x.n)
def m9(t:TxS):Bool:=decide (t.ins.length=1)&&(plc t.ins[0]! == (List.replicate 32 0,4294967295))
@[irreducible] def O9 (t:TxS):Hs:=S8 (I0 t)
theorem M4(t:TxS):O9 t=J0 t:=by unfold O9 J0;exact(CV _).symm
theorem NX(t:TxS):(O9 t).length=32:=by unfold O9;exact l6 _
structure BlkS where
 hd:HdS
 txs:List TxS
 deriving Inhabited
def v9(b:BlkS):D:=.agg [d7 b.hd,.sl none 4 (b.txs.map U7)]
structure StS where
 h:Nat
 at_:Nat
 id:Hs
 t:TxS
 deriving Inhabited
def N6(s:StS):D:=.agg [Q8 s.h,Q8 s.at_,z5 s.id,U7 s.t]
structure BlkS.wf(b:BlkS):Prop where
 hd:b.hd.wf
 txs:∀ t∈b.txs,t.wf
 sm:∀ t∈b.txs,t.ins.length<=1000/\t.outs.length<=1000
 len:b.txs.length<=1000
def allBl(l:List BlkS):Prop:=l.length<=100/\∀ b∈l,b.wf
theorem allBl.get{l:List BlkS}(h:allBl l){i:Nat}(hi:i<l.length):l[i]!.wf:=by rw[getElem!_pos l i hi];exact h.2 _ (List.getElem_mem hi)
theorem BlkS.wf.small{b:BlkS}(h:b.wf){i:Nat}(hi:i<b.txs.length):b.txs[i]!.ins.length<=1000/\b.txs[i]!.outs.length<=1000:=by rw[getElem!_pos b.txs i hi];exact h.sm _ (List.getElem_mem hi)
theorem BlkS.wf.get{b:BlkS}(h:b.wf){i:Nat}(hi:i<b.txs.length):b.txs[i]!.wf:=by rw[getElem!_pos b.txs i hi];exact h.txs _ (List.getElem_mem hi)
def U0(b:BlkS)(h:Nat):Nat->List StS
 | 0=>[]
 | i+1=>U0 b h i++[⟨h,i,O9 b.txs[i]!,b.txs[i]!⟩]
def t8(l:List BlkS):Nat->List StS
 | 0=>[]
 | h+1=>t8 l h++U0 l[h]! h l[h]!.txs.length
def b9(l:List BlkS):List StS:=t8 l l.length
theorem I4(l:List BlkS)(h:Nat):t8 l (h+1)=t8 l h++U0 l[h]! h l[h]!.txs.length:=by rw[t8]
theorem all_app(p:List StS)(b:BlkS)(h i:Nat):(p++U0 b h i).map N6++[.agg [Q8 h,Q8 i,z5 (O9 b.txs[i]!),U7 b.txs[i]!]]=(p++U0 b h (i+1)).map N6:=by
 rw[U0,<- List.append_assoc,List.map_append (l₁:=p++U0 b h i)];rfl
theorem ZR(b:BlkS)(h i:Nat):(U0 b h i).length=i:=by
 induction i with
 | zero=>rfl
 | succ i ih=>simp[U0,ih]
theorem AE{l:List BlkS}(hl:allBl l)(h:Nat)(hh:h<=l.length):(t8 l h).length<=1000*h:=by
 induction h with
 | zero=>exact Nat.le_refl _
 | succ h ih=>
  have:=(hl.get (show h<l.length by omega)).len;have:=ih (by omega);simp only[t8,List.length_append,ZR];omega
theorem allS_len{l:List BlkS}(hl:allBl l):(b9 l).length<=100000:=by
 have:=AE hl l.length (Nat.le_refl _);have:=hl.1;unfold b9;omega
def StS.wf(s:StS):Prop:=s.id.length=32/\s.t.wf/\s.t.ins.length<=1000/\s.t.outs.length<=1000
theorem stI{h a:Nat}{id:Hs}{t:TxS}(hi:id.length=32)(ht:t.wf)(hs:t.ins.length<=1000/\t.outs.length<=1000):StS.wf ⟨h,a,id,t⟩:=⟨hi,ht,hs⟩
def allSt(l:List StS):Prop:=l.length<=100000/\∀ s∈l,s.wf
theorem allSt.get{l:List StS}(h:allSt l){i:Nat}(hi:i<l.length):l[i]!.wf:=by rw[getElem!_pos l i hi];exact h.2 _ (List.getElem_mem hi)
theorem allJ_wf{b:BlkS}(hb:b.wf)(h:Nat){i:Nat}(hi:i<=b.txs.length):∀ s∈U0 b h i,s.wf:=by
 induction i with
 | zero=>intro s hs;cases hs
 | succ i ih=>
  intro s hs
  rcases List.mem_append.1 hs with h1|h1
  ·exact ih (by omega) s h1
  ·rw[List.mem_singleton.1 h1];exact stI (NX _) (hb.get (by omega)) (hb.small (by omega))
theorem allI_wf{l:List BlkS}(hl:allBl l)(h:Nat)(hh:h<=l.length):∀ s∈t8 l h,s.wf:=by
 induction h with
 | zero=>intro s hs;cases hs
 | succ h ih=>
  intro s hs
  rcases List.mem_append.1 hs with h1|h1
  ·exact ih (by omega) s h1
  ·exact allJ_wf (hl.get (by omega)) h (Nat.le_refl _) s h1
theorem UZ{l:List BlkS}(hl:allBl l):allSt (b9 l):=⟨allS_len hl,allI_wf hl _ (Nat.le_refl _)⟩
def hasO(s:StS)(p:Plc):Bool:=s.id==p.1&&decide (p.2.toNat<s.t.outs.length)
def prvO(l:List StS):Nat->Plc->Option OutS
 | 0,_=>none
 | i+1,p=>match prvO l i p with
  | some o=>some o
  | none=>if hasO l[i]! p then some l[i]!.t.outs[p.2.toNat]! else none
def KW(t:TxS)(p:Plc)(k:Nat):Bool:=(List.range k).any fun j=>plc t.ins[j]! == p&&!m9 t
def P1(l:List StS)(before input:Nat)(i:Nat):Nat:=if i<before then l[i]!.t.ins.length else min l[i]!.t.ins.length input
def JT(l:List StS)(before input:Nat)(p:Plc):Bool:=(List.range (min (before+1) l.length)).any fun i=>KW l[i]!.t p (P1 l before input i)
theorem frmJ_t{t:TxS}{p:Plc}{k n:Nat}(hk:k<n)(h4:plc t.ins[k]! = p)(hm:(!m9 t)=true):KW t p n=true:=by
 unfold KW;rw[List.any_eq_true];exact⟨k,List.mem_range.2 hk,by rw[Bool.and_eq_true];exact⟨beq_iff_eq.2 h4,hm⟩⟩
theorem IJ{t:TxS}{p:Plc}{n:Nat}(h:∀ q<n,(plc t.ins[q]! == p&&!m9 t)=false):KW t p n=false:=by
 unfold KW;rw[List.any_eq_false];intro q hq;rw[h q (List.mem_range.1 hq)];simp
theorem OF{l:List StS}{before input i k:Nat}{p:Plc}(hi:i<=before)(hi2:i<l.length)(hk:k<P1 l before input i)(h4:plc l[i]!.t.ins[k]! = p)(hm:(!m9 l[i]!.t)=true):JT l before input p=true:=by
 unfold JT;rw[List.any_eq_true];exact⟨i,List.mem_range.2 (by omega),frmJ_t hk h4 hm⟩
theorem CZ{l:List StS}{before input:Nat}{p:Plc}(h:∀ q<min (before+1) l.length,KW l[q]!.t p (P1 l before input q)=false):JT l before input p=false:=by
 unfold JT;rw[List.any_eq_false];intro q hq;rw[h q (List.mem_range.1 hq)];simp
theorem W1{l:List StS}{before input i:Nat}(h:i<before):P1 l before input i=l[i]!.t.ins.length:=by unfold P1;exact if_pos h
theorem KV{l:List StS}{before input i:Nat}(h:¬ i<before):P1 l before input i=min l[i]!.t.ins.length input:=by unfold P1;exact if_neg h
theorem LL{t:TxS}{p:Plc}{k:Nat}(h:¬ plc t.ins[k]! = p):(plc t.ins[k]! == p&&!m9 t)=false:=by rw[beq_eq_false_iff_ne.2 h];rfl
theorem XG{t:TxS}{p:Plc}{k:Nat}(h:¬ (!m9 t)=true):(plc t.ins[k]! == p&&!m9 t)=false:=by
 cases hm:m9 t with
 | true=>simp
 | false=>rw[hm] at h;exact absurd rfl h
def t4(x:Plc×UInt64):D:=q7 x.1
def l4(x:Plc×UInt64):D:=.u64 x.2
def K0(l:List StS)(i:Nat):Nat->List (Plc×UInt64)
 | 0=>[]
 | k+1=>if JT l l.length 0 (l[i]!.id,UInt32.ofInt ((k:Nat):Int))=true then K0 l i k else K0 l i k++[((l[i]!.id,UInt32.ofInt ((k:Nat):Int)),l[i]!.t.outs[k]!.value)]
def P8(l:List StS):Nat->List (Plc×UInt64)
 | 0=>[]
 | i+1=>P8 l i++K0 l i l[i]!.t.outs.length
theorem TU(l:List StS)(i:Nat):P8 l (i+1)=P8 l i++K0 l i l[i]!.t.outs.length:=by rw[P8]
theorem thrK_0(l:List StS)(i:Nat):K0 l i 0=[]:=by rw[K0]
theorem MG(l:List StS)(i k:Nat):(K0 l i k).length<=k:=by
 induction k with
 | zero=>exact Nat.le_refl _
 | succ k ih=>
  simp only[K0];split
  ·omega
  ·rw[List.length_append,List.length_singleton];omega
theorem MD{l:List StS}(hl:allSt l)(i:Nat)(hi:i<=l.length):(P8 l i).length<=1000*i:=by
 induction i with
 | zero=>exact Nat.le_refl _
 | succ i ih=>
  have h1:=ih (by omega);have h2:=(hl.get (show i<l.length by omega)).2.2.2;have h3:=MG l i l[i]!.t.outs.length;simp only[P8,List.length_append];omega
theorem thrK_t{l:List StS}{i k:Nat}(h:JT l l.length 0 (l[i]!.id,UInt32.ofInt ((k:Nat):Int))=true):K0 l i (k+1)=K0 l i k:=by rw[K0,if_pos h]
theorem thrK_f{l:List StS}{i k:Nat}(h:¬ JT l l.length 0 (l[i]!.id,UInt32.ofInt ((k:Nat):Int))=true):K0 l i (k+1)=K0 l i k++[((l[i]!.id,UInt32.ofInt ((k:Nat):Int)),l[i]!.t.outs[k]!.value)]:=by rw[K0,if_neg h]
theorem thr_p{l:List StS}{i k:Nat}{p:List (Plc×UInt64)}(h:¬ JT l l.length 0 (l[i]!.id,UInt32.ofInt ((k:Nat):Int))=true):(p++K0 l i k).map t4++[.agg [z5 l[i]!.id,.u32 (UInt32.ofInt ((k:Nat):Int))]]=(p++K0 l i (k+1)).map t4:=by
 rw[thrK_f h,<- List.append_assoc,List.map_append (l₁:=p++K0 l i k)];rfl
theorem thr_v{l:List StS}{i k:Nat}{p:List (Plc×UInt64)}(h:¬ JT l l.length 0 (l[i]!.id,UInt32.ofInt ((k:Nat):Int))=true):(p++K0 l i k).map l4++[.u64 l[i]!.t.outs[k]!.value]=(p++K0 l i (k+1)).map l4:=by
 rw[thrK_f h,<- List.append_assoc,List.map_append (l₁:=p++K0 l i k)];rfl
theorem PB(b:List UInt8):(E5 b).brw=E5 b:=by
 simp only[E5,D.brw,d5];rw[j9 (fun _=>rfl)]
theorem brw_inK(x:InS):(E3 x).brw=E3 x:=by
 simp only[E3,D.brw,d5,List.map_cons,List.map_nil,X9,PB];rw[j9 PB]
theorem brw_outK(x:OutS):(J8 x).brw=J8 x:=by
 simp only[J8,D.brw,d5,List.map_cons,List.map_nil,PB]
theorem PC(t:TxS):(U7 t).brw=U7 t:=by
 simp only[U7,D.brw,d5,List.map_cons,List.map_nil];rw[j9 brw_inK,j9 brw_outK]
theorem brw_stsK(x:StS):(N6 x).brw=N6 x:=by
 simp only[N6,Q8,D.brw,d5,List.map_cons,List.map_nil,X9,PC]
theorem brw_sts(o:Option Nat)(z:Nat)(l:List StS):(D.sl o z (l.map N6)).brw=.sl none z (l.map N6):=by
 simp only[D.brw,d5];rw[j9 brw_stsK]
def P7(l:List BlkS):List (Plc×UInt64):=P8 (b9 l) (b9 l).length
structure SpS where
 from_:UInt8
 two:Bool
 to:List UInt8
 part:UInt8
 extra:UInt8
 deriving Inhabited
def WE(s:SpS):D:=.agg [.u8 s.from_,.bool s.two,.sl none 1 (s.to.map .u8),.u8 s.part,.u8 s.extra]
structure PlS where
 pays:UInt8
 spends:List SpS
 step:UInt8
 deriving Inhabited
def QU(x:PlS):D:=.agg [.u8 x.pays,.sl none 5 (x.spends.map WE),.u8 x.step]
def t6(k:UInt8):List UInt8:=[0,20]++(JA [115,k,0,0,0]).take 20
def B8(s:SpS)(av:List (Plc×UInt64)):List InS:=
 let k:=s.from_.toNat%av.length
 if s.two=true/\k+1<av.length then[⟨av[k]!.1.1,av[k]!.1.2,[],s.extra.toUInt32,[]⟩,⟨av[k+1]!.1.1,av[k+1]!.1.2,[s.extra],0,[[s.part],[]]⟩]
 else[⟨av[k]!.1.1,av[k]!.1.2,[],s.extra.toUInt32,[]⟩]
def G4(s:SpS)(av:List (Plc×UInt64)):UInt64:=
 let k:=s.from_.toNat%av.length
 if s.two=true/\k+1<av.length then av[k]!.2+av[k+1]!.2 else av[k]!.2
def spOut(s:SpS)(sum:UInt64)(i:Nat):OutS:=
 let v:=sum/UInt64.ofInt ((s.to.length:Nat):Int)
 ⟨if i=0 then v-min v s.part.toUInt64 else v,t6 (s.to[i]!%12)⟩
def Z0(s:SpS)(sum:UInt64)(i:Nat):List OutS:=(List.range i).map (spOut s sum)
def spT(s:SpS)(av:List (Plc×UInt64))(mark:UInt32):TxS:=⟨2,B8 s av,Z0 s (G4 s av) (min s.to.length 4),mark⟩
def UF(s:SpS)(av:List (Plc×UInt64)):Bool:=decide (av.length=0)||decide (s.to.length=0)
def HW:TxS:=⟨0,[],[],0⟩
def HY(s:SpS)(av:List (Plc×UInt64))(mark:UInt32):TxS×Bool:=if UF s av then(HW,false) else(spT s av mark,true)
def o4(n:Nat)(x:PlS)(mark:UInt32):TxS:=
 ⟨1,[⟨zero32,4294967295,[UInt8.ofNat n,UInt8.ofNat (n/256),mark.toUInt8],0,[]⟩],[⟨5000,t6 (x.pays%12)⟩],mark⟩
def P6(l:List BlkS)(x:PlS)(mark:UInt32):Nat->List TxS
 | 0=>[o4 l.length x mark]
 | i+1=>if(HY x.spends[i]! (P7 (l++[⟨zeroH,P6 l x mark i⟩])) mark).2 then P6 l x mark i++[(HY x.spends[i]! (P7 (l++[⟨zeroH,P6 l x mark i⟩])) mark).1] else P6 l x mark i
def Y1(l:List BlkS)(x:PlS)(mark:UInt32):List TxS:=P6 l x mark (min x.spends.length 6)
def heads(l:List BlkS):List HdS:=l.map BlkS.hd
def grH(l:List BlkS)(x:PlS)(mark:UInt32):HdS×Bool:=
 A5 (heads l) (NV (heads l)+1+x.step.toUInt32) (M1 n9 ((Y1 l x mark).map O9))
def j8(l:List BlkS)(x:PlS)(mark:UInt32):BlkS×Bool:=(⟨(grH l x mark).1,Y1 l x mark⟩,(grH l x mark).2)
def J3(ps:List PlS):Nat->List BlkS
 | 0=>[⟨Z9,[]⟩]
 | i+1=>if(j8 (J3 ps i) ps[i]! (UInt32.ofNat i)).2 then J3 ps i++[(j8 (J3 ps i) ps[i]! (UInt32.ofNat i)).1] else J3 ps i
def d8(ps:List PlS):List BlkS:=J3 ps (min ps.length 14)
end Go.Sx

namespace Go.Sx
open Go.Proofs
theorem sz_hash(h:Hs):(z5 h).sz=32:=rfl
theorem szH{o:Option Nat}{h:Hs}(e:o=some 32):o=some (z5 h).sz:=e.trans (congrArg some (sz_hash h).symm)
theorem EqV.up{P:Program}{k:Nat}{t:TypeId}{d1 d2:D}{b:Bool}(h:EqV P k t d1 d2 b)(j:Nat):EqV P (k+j) t d1 d2 b:=by
 intro n w ρ1 ρ2 G1 G2 L1 L2 v1 v2 F1 F2 h1 h2;have:=h (n+j) w ρ1 ρ2 G1 G2 L1 L2 v1 v2 F1 F2 h1 h2
 rwa [show n+(k+j)=n+j+k by omega]
theorem G8(a b:Plc):EqV Tryd.prog 3 60 (q7 a) (q7 b) (a==b):=by
 have h32:∀ x y:UInt32,EqV Tryd.prog 2 32 (.u32 x) (.u32 y) (x==y):=fun x y=>(EqV.u32 Tryd.underlying32 x y).up 1;have hh:∀ x y:Hs,EqV Tryd.prog 2 26 (z5 x) (z5 y) (x==y):=fun x y=>EqV.arr x y;have:=EqV.struct (k:=2) Tryd.underlying60 (by kernel_rfl) (.cons rfl rfl inferInstance rfl rfl rfl rfl (hh a.1 b.1) (.cons rfl rfl inferInstance rfl rfl rfl rfl (h32 a.2 b.2) .nil));rw[Bool.and_true] at this;exact this
end Go.Sx

namespace Go.Sx
theorem bfalse{b:Bool}(h:¬ b=true):b=false:=by cases b;rfl;exact absurd rfl h
theorem GV{x y z:D}(h1:Frs x)(h2:Frs y)(h3:Frs z):FrsR (.tup [x,y,z]):=.inl ⟨_,rfl,fun d hd=>by
 rcases List.mem_cons.1 hd with rfl|hd
 ·exact h1
 ·rcases List.mem_cons.1 hd with rfl|hd
  ·exact h2
  ·rw[List.mem_singleton.1 hd];exact h3⟩
theorem root_nil{l:List Hs}(h:l.length=0):M1 n9 l=zero32:=by
 obtain rfl:=List.length_eq_zero_iff.1 h;unfold M1;rw[List.length_nil,XP,LA]
theorem root_end{l:List Hs}{k:Nat}(hk:k+Q9 (n7 n9 l k).length=Q9 l.length)(h:(n7 n9 l k).length=1):M1 n9 l=(n7 n9 l k)[0]!:=by
 rw[h,XB] at hk;unfold M1;rw[<- hk,LA]
theorem prt_1{x most:Bg}{n m:UInt64}(h:CB (J2 x [m,0,0,0]) n≠0):HA x n m most=most:=by unfold HA;exact if_pos h
theorem prt_2{x most:Bg}{n m:UInt64}(h:CB (J2 x [m,0,0,0]) n=0)(h2:WC (G9 (J2 x [m,0,0,0]) n) (J2 (G9 (M6 x [m,0,0,0]) n) [m,0,0,0])=true∨T8 most (HT (G9 (J2 x [m,0,0,0]) n) (J2 (G9 (M6 x [m,0,0,0]) n) [m,0,0,0]))=true):HA x n m most=most:=by
 unfold HA;rw[if_neg (fun h1=>h1 h),if_pos h2]
theorem prt_3{x most:Bg}{n m:UInt64}(h:CB (J2 x [m,0,0,0]) n=0)(h2:¬ WC (G9 (J2 x [m,0,0,0]) n) (J2 (G9 (M6 x [m,0,0,0]) n) [m,0,0,0])=true)(h3:¬ T8 most (HT (G9 (J2 x [m,0,0,0]) n) (J2 (G9 (M6 x [m,0,0,0]) n) [m,0,0,0]))=true):HA x n m most=HT (G9 (J2 x [m,0,0,0]) n) (J2 (G9 (M6 x [m,0,0,0]) n) [m,0,0,0]):=by
 unfold HA;rw[if_neg (fun h1=>h1 h),if_neg (fun hc=>hc.elim h2 h3)]
end Go.Sx

namespace Go.Sx
open Go.Proofs
theorem rmint_ok(t:TxS)(hwf:t.wf):Fn Tryd.prog gl 97 [U7 t] (.bool (m9 t)):=by
 refine Fn.of (n:=16) Tryd.func97 rfl rfl rfl (nU rfl) fun C hC hD=>?_;have h1:=hwf.ins;refine z7 2 [] [] [] (V1 0) Zt O O (⟨O,_,R.box (gV 0 O) O O (nU O),⟨O,_,v3 (kB false O) O (nU O),tV (V1 1) (b1 1) 16 O O O ?_⟩⟩);refine W.seq ?_;by_cases hz:t.ins.length=1
 ·refine j1 14 (y14 3 4 5 6 7 8 9 10 11 12 13 14 15 2) (V1 2) ⟨aU (fU 1 O O),aU (lU 3 O O O O O O O),aU<|zN O (lN _) O,aU<|r7 1 O O O,mU 6 O O,aW O O (gT (dT hz) O) (fU 1 O O),aW O O (gT (dT hz) O) (lU 8 O O O O O O O),aW O O (gT (dT hz) O) fun _ _ H K=>R.idxN (0) (SC.sl (K 9 _ O)) (m2 (kI 0 O)) O bU H dU,aW O O (gT (dT hz) O)<|H9 O O,aW O O (gT (dT hz) O)<|zL O O (mG t.ins) O O O O O,aW O O (gT (dT hz) O) fun _ _ H _=>p6 (l:=[.arr 32 1 ((List.replicate 32 0).map D.u8),.u32 0]) (l':=[_,_]) (.cons (kW (.int .u32 4294967295) (.u32 4294967295) O) (.nil O)) ⟨⟨_,(kW (.int .u32 4294967295) (.u32 4294967295) O),O,O,O⟩,Zt⟩ H,aW O O (gT (dT hz) O) fun _ _ H K=>R.eqD (neg:=false) (b':=(plc t.ins[0]! == (List.replicate 32 0,4294967295))) (G8 (plc t.ins[0]!) (List.replicate 32 0,4294967295)) O (eU K 12 O) (eU K 13 O) O O O O (O) H,aU<|zT O (dT hz) O O O,aU<|zA O O O,Zt⟩ O O O O ?_;refine W.ret ?_;exact Ends.one' (.inr O) O (by rw[m9,dT hz];rfl) O O Zt
 ·refine j1 14 [.y 3 _,.y 4 _,.y 5 _,.y 6 _,.y 7 _,.x 8,.x 9,.x 10,.x 11,.x 12,.x 13,.x 14,.y 15 _,.y 2 _] (V1 2) ⟨aU (fU 1 O O),aU (lU 3 O O O O O O O),aU<|zN O (lN _) O,aU<|r7 1 O O O,mU 6 O O,aF O O (gF (dF hz) O),aF O O (gF (dF hz) O),aF O O (gF (dF hz) O),aF O O (gF (dF hz) O),aF O O (gF (dF hz) O),aF O O (gF (dF hz) O),aF O O (gF (dF hz) O),aU<|MQ O (dF hz) (kB false O) O O,aU<|zA O O O,Zt⟩ O O O O ?_;refine W.ret ?_;exact Ends.one' (.inr O) O (by rw[m9,dF hz];rfl) O O Zt
theorem rid_ok(t:TxS)(hwf:t.wf):Fn Tryd.prog gl 40 [U7 t] (z5 (O9 t)):=by
 refine Fn.of (n:=6) Tryd.func40 rfl rfl rfl (nU rfl) fun C hC hD=>?_;refine z7 2 [] [] [] (V1 0) Zt O O (⟨O,_,R.box (gV 0 O) O O (nU O),(o0 O O (tV (V2 1 2) (b2 2 1) 6 O O O ?_))⟩);refine z7 4 (y3 3 4 5) [] [] (V2 2 5) ⟨aU (lU 1 O O O O O O O),aU<|zC hC (rbare_ok t hwf) O O O (F1 (.sl _ _ _ (u2 fun _=>.u8 _))) O,aU fun _ _ H K=>j5 hC (KU (I0 t) (Nat.le_trans hwf.bareL dU)) (Bc (Bor.sc (SC.sl (K 4 _ O)) (j9 (fun _=>rfl))) Bn) (F1 (v8 _)) H,Zt⟩ O O (m1 O O O O O (tV (V1 2) (b2 2 1) 6 O O O ?_));refine W.ret ?_;exact Ends.one' (.inr O) O (by unfold O9;rfl) O O (show LdT _ 26 32 true from inferInstance)
theorem rroot_ok(l:List Hs)(hl:allH l)(hl0:l.length<=1000):Fn Tryd.prog gl 43 [.sl none 32 (l.map z5)] (z5 (M1 n9 l)):=by
 refine Fn.of (n:=17) Tryd.func43 rfl rfl rfl (nU rfl) fun C hC hD=>?_;refine z7 1 [] [] [] (V1 0) Zt O O (o0 O O (tV (V2 0 2) (b1 2) 17 O O O ?_));refine z6 2 (y2 4 3) (V2 2 3) ⟨mU 0 O O,aU<|zA O O O,Zt⟩ O O O O ?_;refine W.seq (z6 3 (y3 5 6 7) (V3 2 3 7) ⟨mU 3 O O,aU<|zN O (lN _) O,aU<|r7 0 O O O,Zt⟩ O O O O ?_);refine z9 O (fun hc7=>?_) (fun hc7=>?_)
 ·refine z7 2 (y1 8) [] [] (V2 2 8) ⟨aU fun _ _ H _=>R.bldAZ O H,Zt⟩ O O (m1 O O O O O (tV (V1 2) (b1 2) 17 O O O ?_));refine W.ret ?_;exact Ends.one' (.inr O) O (by rw[root_nil hc7]<;>rfl) O O (show LdT _ 26 32 true from inferInstance)
 ·refine W.skip (W.seq (W.block ?_));refine u3 (live:=[2,3]) (env':=(V2 2 3)) (bx':=(b1 2)) (n':=17) O O O ?_;refine W.loop (α:={q__:Nat//q__+Q9 (n7 n9 l q__).length=Q9 l.length/\0<(n7 n9 l q__).length}) (fun q__=>⟨17,[(2,.ptr 2 0 []),(3,.sl none 32 ((n7 n9 l q__.1).map z5))],[(2,.var (z5 zero32))]⟩) (fun q__=>Q9 l.length-q__.1) ⟨(0),⟨(by show 0+_=_;rw[Nat.zero_add];rfl),(by show 0<l.length;omega)⟩⟩ O ?_;rintro ⟨k,⟨hk,hpos⟩⟩;show W _ _ _ _ ⟨17,[(2,.ptr 2 0 []),(3,.sl none 32 ((n7 n9 l k).map z5))],[(2,.var (z5 zero32))]⟩;have hrl:=QM n9 l k;have hle:=BO l.length k;have hra:=QN KA hl k;have hk:k+Q9 (n7 n9 l k).length=Q9 l.length:=hk;have hpos:0<(n7 n9 l k).length:=hpos;refine W.seq (z6 3 (y3 9 10 11) (V3 2 3 11) ⟨mU 3 O O,aU<|zN O (lN _) O,aU<|HQ 1 O O O,Zt⟩ O O O O ?_);refine z9 O (fun hc11=>?_) (fun hc11=>?_)
  ·refine W.skip (W.block ?_);refine j1 3 (y3 12 13 3) (V2 2 3) ⟨mU 3 O O,aU fun _ _ H K=>PT (r':=.sl none 32 ((upR n9 (n7 n9 l k)).map z5)) (j5 hC (TB (n7 n9 l k) hra bO) (Bc (Bp (eU K 12 O) O O) Bn) (F1 (frs_hs _ _ _)) H) O (IN _ _ _),aU<|zA O O O,Zt⟩ O O O O ?_;exact⟨⟨(k+1),⟨(by have h2:=XC (n:=(n7 n9 l k).length) (by omega);have h3:(n7 n9 l (k+1)).length=((n7 n9 l k).length+1)/2:=XQ _ _;rw[h2,<- h3] at hk;show k+1+_=_;omega),(by have h3:(n7 n9 l (k+1)).length=((n7 n9 l k).length+1)/2:=XQ _ _;show 0<(n7 n9 l (k+1)).length;omega)⟩⟩,rfl,(by have:=KC (n:=(n7 n9 l k).length) (by omega);simp only[];omega)⟩
  ·refine W.exit (z7 4 (y3 14 15 16) [] [] (V2 2 16) ⟨mU 3 O O,aU fun _ _ H K=>R.idxN (0) (SC.sl (K 14 _ O)) (m2 (kI 0 O)) O bU H dU,aU<|zL O O (mG (n7 n9 l k)) O O O O O,Zt⟩ O O (m1 O O O O O (tV (V1 2) (b1 2) 17 O O O ?_)));refine W.ret ?_;exact Ends.one' (.inr O) O (by rw[root_end hk bO]) O O (show LdT _ 26 32 true from inferInstance)
end Go.Sx

namespace Go.Sx
open Go.Proofs
theorem part_ok(x:Bg)(n m:UInt64)(most:Bg)(hx:x.length=4)(hm:most.length=4):Fn Tryd.prog gl 79 [Q3 x,.u64 n,.u64 m,Q3 most] (Q3 (HA x n m most)):=by
 refine Fn.of (n:=67) Tryd.func79 rfl rfl rfl (nU rfl) fun C hC hD=>?_;have hq4:(J2 x [m,0,0,0]).length=4:=AQ _ _;have hr4:(M6 x [m,0,0,0]).length=4:=divR_ok _ _;have hA:(G9 (J2 x [m,0,0,0]) n).length=4:=AP _ _;have hB:(G9 (M6 x [m,0,0,0]) n).length=4:=AP _ _;have hC4:(J2 (G9 (M6 x [m,0,0,0]) n) [m,0,0,0]).length=4:=AQ _ _;refine z7 3 [] [] [] (V4 0 1 2 3) Zt O O (⟨O,_,R.box (gV 0 O) O O (nU O),⟨O,_,R.box (gV 3 O) O O (nU O),(o0 O O (tV (V5 1 2 4 7 8) (b3 8 7 4) 67 O O O ?_))⟩⟩);refine z7 4 (y2 22 23) [] [] (V5 1 4 7 8 23) ⟨mU 2 O O,aU fun _ _ H K=>R.bldAP (z:=1) (l2:=([m,0,0,0].map D.u64)) (.cons (eU K 22 O) (.nil O)) ⟨⟨_,(eU K 22 O),O,O,O,O⟩,Zt⟩ (O) H,Zt⟩ O O (o0 O O (m1 O O O O O (tV (V5 1 4 7 8 9) (b4 9 8 7 4) 67 O O O ?_)));refine z7 12 (y7 25 26 27 24 28 29 30) [] [] (V7 1 7 8 9 28 29 30) ⟨aU (lU 4 O O O O O O O),aU (lU 9 O O O O O O O),aU<|zD hC (SM x [m,0,0,0] hx O) O O O O O O (GV (m4 _) (m4 _) (.int _)) O,aU<|zY O O O,aU<|zX O O O O,aU<|zX O O O O,aU<|zX O O O O,Zt⟩ O O (o0 O O (o0 O O (m1 O O O O O (m1 O O O O O (E9 O O O (tV (V6 1 7 8 9 10 11) (b6 11 10 9 8 7 4) 67 O O O ?_))))));refine z7 9 (y6 32 33 34 31 35 36) [] [] (V7 1 7 8 9 11 35 36) ⟨aU (lU 10 O O O O O O O),mU 1 O O,aU<|zD hC (SH (J2 x [m,0,0,0]) n hq4) O O O O O O (FrsR.two (m4 _) (.u64 _)) O,aU<|zY O O O,aU<|zX O O O O,aU<|zX O O O O,Zt⟩ O O (o0 O O (m1 O O O O O (E9 O O O (tV (V7 1 7 8 9 11 13 14) (b7 13 11 10 9 8 7 4) 67 O O O ?_))));refine W.seq (z6 2 (y2 37 38) (V7 1 7 8 9 11 13 38) ⟨mU 14 O O,aU<|P5 O (kW (.int .u64 0) (.u64 0) O) O O,Zt⟩ O O O O ?_);refine W.cond O (fun hc38=>?_) (fun hc38=>?_)
 ·refine z7 2 (y1 39) [] [] (V2 8 39) ⟨aU (lU 7 O O O O O O O),Zt⟩ O O (m1 O O O O O (tV (V1 8) (b7 13 11 10 9 8 7 4) 67 O O O ?_));refine W.ret ?_;exact Ends.one' (.inr O) O (by rw[prt_1 (bne_iff_ne.1 hc38)]) O O (show LdT _ 139 4 true from inferInstance)
 ·refine W.skip (z7 9 (y6 41 42 43 40 44 45) [] [] (V6 7 8 9 13 44 45) ⟨aU (lU 11 O O O O O O O),mU 1 O O,aU<|zD hC (SH (M6 x [m,0,0,0]) n hr4) O O O O O O (FrsR.two (m4 _) (.u64 _)) O,aU<|zY O O O,aU<|zX O O O O,aU<|zX O O O O,Zt⟩ O O (o0 O O (m1 O O O O O (E9 O O O (tV (V5 7 8 9 13 15) (b8 15 13 11 10 9 8 7 4) 67 O O O ?_)))));refine z7 12 (y7 47 48 49 46 50 51 52) [] [] (V6 7 8 13 50 51 52) ⟨aU (lU 15 O O O O O O O),aU (lU 9 O O O O O O O),aU<|zD hC (SM (G9 (M6 x [m,0,0,0]) n) [m,0,0,0] hB O) O O O O O O (GV (m4 _) (m4 _) (.int _)) O,aU<|zY O O O,aU<|zX O O O O,aU<|zX O O O O,aU<|zX O O O O,Zt⟩ O O (o0 O O (o0 O O (m1 O O O O O (m1 O O O O O (E9 O O O (tV (V4 7 8 13 17) [(18,.var _),(17,.var _),(15,.var _),(13,.var _),(11,.var _),(10,.var _),(9,.var _),(8,.var _),(7,.var _),(4,.var _)] 67 O O O ?_))))));refine z7 9 (y6 54 55 56 53 57 58) [] [] (V4 7 8 57 58) ⟨aU (lU 13 O O O O O O O),aU (lU 17 O O O O O O O),aU<|zD hC (badd_ok (G9 (J2 x [m,0,0,0]) n) (J2 (G9 (M6 x [m,0,0,0]) n) [m,0,0,0]) hA hC4) O O O O O O (FrsR.two (m4 _) (.bool _)) O,aU<|zY O O O,aU<|zX O O O O,aU<|zX O O O O,Zt⟩ O O (o0 O O (m1 O O O O O (E9 O O O (tV (V4 7 8 20 21) [(20,.var _),(18,.var _),(17,.var _),(15,.var _),(13,.var _),(11,.var _),(10,.var _),(9,.var _),(8,.var _),(7,.var _),(4,.var _)] 67 O O O ?_))));refine W.seq (W.seq ?_);by_cases hov:WC (G9 (J2 x [m,0,0,0]) n) (J2 (G9 (M6 x [m,0,0,0]) n) [m,0,0,0])=true
  ·refine j1 6 [.y 59 _,.y 60 _,.x 61,.x 62,.x 63,.y 64 _] (V4 7 8 20 64) ⟨mU 21 O O,mU 59 O O,aF O O (gT (hov) O),aF O O (gT (hov) O),aF O O (gT (hov) O),aU<|AT O (hov) (kB true O) O O,Zt⟩ O O O O ?_;refine d6 O (O) ?_;refine z7 2 (y1 65) [] [] (V2 8 65) ⟨aU (lU 7 O O O O O O O),Zt⟩ O O (m1 O O O O O (tV (V1 8) [(20,.var _),(18,.var _),(17,.var _),(15,.var _),(13,.var _),(11,.var _),(10,.var _),(9,.var _),(8,.var _),(7,.var _),(4,.var _)] 67 O O O ?_));refine W.ret ?_;exact Ends.one' (.inr O) O (by rw[prt_2 (bne_eq_false_iff_eq.1 hc38) (.inl hov)]) O O (show LdT _ 139 4 true from inferInstance)
  ·refine j1 6 (y6 59 60 61 62 63 64) (V4 7 8 20 64) ⟨mU 21 O O,mU 59 O O,aW O O (gF (bfalse hov) O) (lU 7 O O O O O O O),aW O O (gF (bfalse hov) O) (lU 20 O O O O O O O),aW O O (gF (bfalse hov) O)<|zD hC (GB most (HT (G9 (J2 x [m,0,0,0]) n) (J2 (G9 (M6 x [m,0,0,0]) n) [m,0,0,0])) hm (AN _ _)) O O O O O O (F1 (.bool _)) O,aU<|zF O (bfalse hov) O O O,Zt⟩ O O O O ?_;refine W.cond O (fun hc64=>?_) (fun hc64=>?_)
   ·refine z7 2 (y1 65) [] [] (V2 8 65) ⟨aU (lU 7 O O O O O O O),Zt⟩ O O (m1 O O O O O (tV (V1 8) [(20,.var _),(18,.var _),(17,.var _),(15,.var _),(13,.var _),(11,.var _),(10,.var _),(9,.var _),(8,.var _),(7,.var _),(4,.var _)] 67 O O O ?_));refine W.ret ?_;exact Ends.one' (.inr O) O (by rw[prt_2 (bne_eq_false_iff_eq.1 hc38) (.inr hc64)]) O O (show LdT _ 139 4 true from inferInstance)
   ·refine W.skip (z7 2 (y1 66) [] [] (V2 8 66) ⟨aU (lU 20 O O O O O O O),Zt⟩ O O (m1 O O O O O (tV (V1 8) [(20,.var _),(18,.var _),(17,.var _),(15,.var _),(13,.var _),(11,.var _),(10,.var _),(9,.var _),(8,.var _),(7,.var _),(4,.var _)] 67 O O O ?_)));refine W.ret ?_;exact Ends.one' (.inr O) O (by rw[prt_3 (bne_eq_false_iff_eq.1 hc38) hov (by simpa using hc64)]) O O (show LdT _ 139 4 true from inferInstance)
end Go.Sx

namespace Go.Sx
open Go.Proofs
theorem ofS_lim:(i8 lim).isSome=true:=by decide +kernel
theorem comp_lim:W2 (HF lim)=lim:=by decide +kernel
theorem of_lim:Fn Tryd.prog gl 60 [.u32 545259519] (.tup [Q3 (HF lim),.bool true]):=by
 have h:=EJ lim;rw[ofS_lim] at h;exact h
theorem VS:Fn Tryd.prog gl 80 [Q3 (HF lim)] (.u32 545259519):=by
 have h:=UM (HF lim) (QF _);rw[comp_lim] at h;exact h
end Go.Sx
