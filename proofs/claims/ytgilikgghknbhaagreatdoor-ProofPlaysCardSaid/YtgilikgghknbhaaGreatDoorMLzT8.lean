/- Own texts. -/
import Derived.Test.YtgilikgghknbhaaGreatDoorMSxBldO
import Derived.Test.YtgilikgghknbhaaGreatDoorMLdTxDefs
import Derived.Recover
set_option linter.unusedVariables false
set_option linter.unusedSimpArgs false
set_option linter.unnecessarySimpa false

namespace Go.Sx
open Go.Proofs
theorem W2(b:List UInt8)(hb0:b.length<=100000)(v k:UInt32):FnO Tryz.prog gl 95 [.ptr 0 0 [],.ptr 1 0 []] [(0,.var (.agg [.sl none 1 (b.map D.u8)])),(1,.var (.agg [.u32 v,.sl (some 112) 36 (([]:List InS).map G6),.sl (some 115) 2 (([]:List OutS).map j9),.u32 k]))] ((U2 b).map fun q=>(.tup [],[(0,.var (.agg [b5 q.2])),(1,.var (.agg [.u32 v,.sl (some 112) 36 (q.1.1.map G6),.sl (some 115) 2 (q.1.2.map j9),.u32 k]))],[])):=by
 refine FnO.of (n:=60) (ids:=[0,1]) Tryz.func95 rfl rfl rfl (nU rfl) fun C hC hD=>?_;refine W.seq (W.seq ?_)
 rcases hE:U7 b with _|⟨n,r0⟩
 ·refine g8 (n:=3) dU (its:=[.y 6 _]) (ks:=[]) (kk:=[]) (live:=[0,1,6]) (env':=(V3 0 1 6)) (⟨nU O,O,⟨mU 0 O O,Zt⟩,O,O,O⟩) O (bx':=(p7 0 1)) O (n':=60) O (⟨O,.inr (R.callX [(0,0)] hC (g9 (H7 b bO) (by rw[hE];rfl)) (EvB.cons (gV 6 O) O O O EvB.nil) O ⟨O,Zt⟩ ⟨O,Zt⟩ O (fun e he=>?_))⟩);obtain⟨ch,rfl,hch⟩:=he;exact d6 (by rw[FX hE];rfl) ⟨⟨ch,O,hch⟩,⟨⟨_,O,by first|rfl|simp[o0,m6,D.sz]⟩,⟨⟨_,O,by first|rfl|simp[o0,m6,D.sz]⟩,Zt⟩⟩⟩
 have hr0:=S7 hE hb0;refine u4 3 (y1 6) [] [] (V3 0 1 6) ⟨mU 0 O O,Zt⟩ O O (⟨O,_,R.callB [(0,0)] hC (v7 (r:=.int ((n:Nat):Int)) (bx':=[(0,.var (.agg [.sl none 1 (r0.map D.u8)]))]) (nw:=[]) (H7 b bO) (by rw[hE];rfl)) (EvB.cons (gV 6 O) O O O EvB.nil) O ⟨O,Zt⟩ ⟨O,Zt⟩ O O O O O O (nU O),⟨O,_,R.mov (kI 0 O) O (nU O),tV (V4 0 1 7 8) (p7 0 1) 60 O O O ?_⟩⟩);refine W.block ?_;refine W.loop (α:={q__:Nat×List InS×List UInt8//q__.1<=n/\C4 r0 q__.1=some (q__.2.1,q__.2.2)}) (fun q__=>⟨60,[(0,.ptr 0 0 []),(1,.ptr 1 0 []),(7,.int ((n:Nat):Int)),(8,.int ((q__.1.1:Nat):Int))],[(0,.var (.agg [.sl none 1 (q__.1.2.2.map D.u8)])),(1,.var (.agg [.u32 v,.sl (some 112) 36 (q__.1.2.1.map G6),.sl (some 115) 2 (([]:List OutS).map j9),.u32 k]))]⟩) (fun q__=>n-q__.1.1) ⟨(0,[],r0),⟨Nat.zero_le _,O⟩⟩ O ?_;rintro ⟨⟨i,l,r⟩,⟨hi,hins⟩⟩;show W _ _ _ _ ⟨60,[(0,.ptr 0 0 []),(1,.ptr 1 0 []),(7,.int ((n:Nat):Int)),(8,.int ((i:Nat):Int))],[(0,.var (.agg [.sl none 1 (r.map D.u8)])),(1,.var (.agg [.u32 v,.sl (some 112) 36 (l.map G6),.sl (some 115) 2 (([]:List OutS).map j9),.u32 k]))]⟩;have hi:i<=n:=hi;have hins:C4 r0 i=some (l,r):=hins;have hll:=z71 hins (by omega);refine q9 1 (y1 9) (V5 0 1 7 8 9) ⟨aU<|zS O O O,Zt⟩ ?_;refine W.seq ?_;refine z6 O (fun hc9=>?_) (fun hc9=>?_)
 ·refine W.skip (W.seq (W.block (z5 1 [] [] [] (V4 0 1 7 8) Zt O O (Q7 O O (tV (V5 0 1 4 7 8) (d7 4 0 1) 60 O O O ?_)))));refine W.seq ?_
  rcases hE1:K0 r 32 with _|⟨x,r1⟩
  ·refine VC (m:=5) (an:=[0,1,3,0,8,31]) (its:=[.y 10 _,.y 11 _,.y 12 _,.y 13 _,⟨14,.dead,true⟩]) (ks:=[]) (kk:=[]) 4 hP dU O ⟨nU O,O,O,O⟩ (          ⟨⟨O,O,fun _ τ hb ht hτ=>R.fdP (hτ 4 _ O) ht⟩,⟨⟨O,O,fun _ τ hb ht hτ=>R.fdP (hτ 10 _ O) ht⟩,⟨⟨O,O,fun _ τ hb ht hτ=>G5 (0) (32) (32) (hτ 11 _ O) (hb 4 _ O) O O O O O bU bU O ht⟩,⟨⟨O,O,fun _ τ hb ht hτ=>R.mov (evt (hτ 0 _ O)) O ht⟩,⟨⟨O,O,PS [(0,0)] hC (g9 (O9 r bO 32 bO) (by rw[hE1];rfl)) (fun τ hτ=>(EvB.cons (evt (hτ 13 _ O)) O O O (EvB.cons (kI 32 O) O O O EvB.nil))) O ⟨O,Zt⟩ ⟨O,Zt⟩ O (fun e he=>?_)⟩,Zt⟩⟩⟩⟩⟩) O (nU O);obtain⟨ch,rfl,hch⟩:=he;exact d6 (by rw[ZY hE (ZV hins bO (z77 hE1))];rfl) ⟨⟨ch,O,hch⟩,⟨⟨_,O,by first|rfl|simp[o0,m6,D.sz]⟩,⟨⟨_,O,by first|rfl|simp[o0,m6,D.sz]⟩,Zt⟩⟩⟩
  have hx:=Q8 hE1;refine U9 (m:=5) (an:=[0,1,3,0,8,31]) (its:=[.y 10 _,.y 11 _,.y 12 _,.y 13 _,.y 14 _]) (ks:=[]) (kk:=[]) (efs:=[(4,(p6 0))]) (live:=[0,1,4,7,8,12,14]) (env':=(V7 0 1 4 7 8 12 14)) (nd:=40) (bx1:=(d7 0 4 1)) hP dU O ⟨⟨71,O⟩,nU O,O,O,O,O⟩ (        ⟨⟨O,nU O,O,fun _ τ hb ht hτ=>R.fdP (hτ 4 _ O) ht⟩,⟨⟨O,nU O,O,fun _ τ hb ht hτ=>R.fdP (hτ 10 _ O) ht⟩,⟨⟨O,nU O,O,fun _ τ hb ht hτ=>G5 (0) (32) (32) (hτ 11 _ O) (hb 4 _ O) O O O O O bU bU O ht⟩,⟨⟨O,nU O,O,fun _ τ hb ht hτ=>R.mov (evt (hτ 0 _ O)) O ht⟩,⟨⟨O,O,⟨O,nU O⟩,(SpE.callB [(0,0)] hC (v7 (r:=.sl none 1 (x.map D.u8)) (bx':=[(0,.var (.agg [.sl none 1 (r1.map D.u8)]))]) (nw:=[]) (O9 r bO 32 bO) (by rw[hE1];rfl)) (fun τ hτ=>(EvB.cons (evt (hτ 13 _ O)) O O O (EvB.cons (kI 32 O) O O O EvB.nil))) O ⟨O,Zt⟩ ⟨O,Zt⟩ O O O O (nU O))⟩,Zt⟩⟩⟩⟩⟩) O O O (n':=60) O (⟨O,_,OY (k:=32) (l2:=(x.map D.u8)) (gU 12 O) (xU 4 O) O dU (SrcO.sc (SC.sl (gU 14 O)) (c6 (fun _=>rfl))) (MV (fun _=>rfl)) (nU O) (by rw[List.length_map,hx.1];rfl) (x64 hx.1) O,⟨[0,1,4,7,8],(V5 0 1 4 7 8),(d7 0 4 1),60,O,O,O, ?_⟩⟩);refine W.seq ?_
  rcases hE2:m0 r1 4 with _|⟨p,r2⟩
  ·refine g8 (n:=6) dU (its:=[.y 16 _]) (ks:=[]) (kk:=[]) (live:=[0,1,4,7,8,16]) (env':=(V6 0 1 4 7 8 16)) (⟨nU O,O,⟨mU 0 O O,Zt⟩,O,O,O⟩) O (bx':=(d7 0 4 1)) O (n':=60) O (⟨O,.inr (R.callX [(0,0)] hC (g9 (c7 r1 bO 4 dU) (by rw[hE2];rfl)) (EvB.cons (gV 16 O) O O O (EvB.cons (kI 4 O) O O O EvB.nil)) O ⟨O,Zt⟩ ⟨O,Zt⟩ O (fun e he=>?_))⟩);obtain⟨ch,rfl,hch⟩:=he;exact d6 (by rw[ZY hE (ZV hins bO (z76 hE1 hE2))];rfl) ⟨⟨ch,O,hch⟩,⟨⟨_,O,by first|rfl|simp[o0,m6,D.sz]⟩,⟨⟨_,O,by first|rfl|simp[o0,m6,D.sz]⟩,Zt⟩⟩⟩
  have hr2:=K3 hE2;refine u4 6 (y1 16) [] [] (V6 0 1 4 7 8 16) ⟨mU 0 O O,Zt⟩ O O (⟨O,_,R.callB [(0,0)] hC (v7 (r:=.u64 p) (bx':=[(0,.var (.agg [.sl none 1 (r2.map D.u8)]))]) (nw:=[]) (c7 r1 bO 4 dU) (by rw[hE2];rfl)) (EvB.cons (gV 16 O) O O O (EvB.cons (kI 4 O) O O O EvB.nil)) O ⟨O,Zt⟩ ⟨O,Zt⟩ O O O O O O (nU O),⟨O,_,R.conv (gV 17 O) O (nU O),⟨O,_,R.fdP (gU 4 O) (nU O),⟨O,_,R.fdP (gU 19 O) (nU O),(d5 O O O O O (tV (V5 0 1 4 7 8) (d7 0 4 1) 60 O O O ?_))⟩⟩⟩⟩);refine W.seq ?_
  rcases hE3:J6 r2 with _|⟨s,r3⟩
  ·refine g8 (n:=4) dU (its:=[.y 21 _]) (ks:=[]) (kk:=[]) (live:=[0,1,4,7,8,21]) (env':=(V6 0 1 4 7 8 21)) (⟨nU O,O,⟨mU 0 O O,Zt⟩,O,O,O⟩) O (bx':=(d7 0 4 1)) O (n':=60) O (⟨O,.inr (R.callX [(0,0)] hC (g9 (W1 r2 bO) (by rw[hE3];rfl)) (EvB.cons (gV 21 O) O O O EvB.nil) O ⟨O,Zt⟩ ⟨O,Zt⟩ O (fun e he=>?_))⟩);obtain⟨ch,rfl,hch⟩:=he;exact d6 (by rw[ZY hE (ZV hins bO (z75 hE1 hE2 hE3))];rfl) ⟨⟨ch,O,hch⟩,⟨⟨_,O,by first|rfl|simp[o0,m6,D.sz]⟩,⟨⟨_,O,by first|rfl|simp[o0,m6,D.sz]⟩,Zt⟩⟩⟩
  have hr3:=B3 hE3 (by omega);refine u4 4 (y1 21) [] [] (V6 0 1 4 7 8 21) ⟨mU 0 O O,Zt⟩ O O (⟨O,_,e9 (r':=.sl none 1 (s.map D.u8)) (R.callB [(0,0)] hC (v7 (r:=.sl (some 5) 1 (s.map D.u8)) (bx':=[(0,.var (.agg [.sl none 1 (r3.map D.u8)]))]) (nw:=[]) (W1 r2 bO) (by rw[hE3];rfl)) (EvB.cons (gV 21 O) O O O EvB.nil) O ⟨O,Zt⟩ ⟨O,Zt⟩ O O O O O O (nU O)) O (show(.sl (some 5) 1 (s.map D.u8):D).brw=_ from by simp only[D.brw,j7];rw[j2 (fun _=>rfl)]),⟨O,_,R.fdP (gU 4 O) (nU O),(d5 O O O O O (tV (V5 0 1 4 7 8) (d7 0 4 1) 60 O O O ?_))⟩⟩);refine W.seq ?_
  rcases hE4:m0 r3 4 with _|⟨q,r4⟩
  ·refine g8 (n:=5) dU (its:=[.y 24 _]) (ks:=[]) (kk:=[]) (live:=[0,1,4,7,8,24]) (env':=(V6 0 1 4 7 8 24)) (⟨nU O,O,⟨mU 0 O O,Zt⟩,O,O,O⟩) O (bx':=(d7 0 4 1)) O (n':=60) O (⟨O,.inr (R.callX [(0,0)] hC (g9 (c7 r3 bO 4 dU) (by rw[hE4];rfl)) (EvB.cons (gV 24 O) O O O (EvB.cons (kI 4 O) O O O EvB.nil)) O ⟨O,Zt⟩ ⟨O,Zt⟩ O (fun e he=>?_))⟩);obtain⟨ch,rfl,hch⟩:=he;exact d6 (by rw[ZY hE (ZV hins bO (z74 hE1 hE2 hE3 hE4))];rfl) ⟨⟨ch,O,hch⟩,⟨⟨_,O,by first|rfl|simp[o0,m6,D.sz]⟩,⟨⟨_,O,by first|rfl|simp[o0,m6,D.sz]⟩,Zt⟩⟩⟩
  have hr4:=K3 hE4;have hin:=z73 hE1 hE2 hE3 hE4;refine u4 5 (y1 24) [] [] (V6 0 1 4 7 8 24) ⟨mU 0 O O,Zt⟩ O O (⟨O,_,R.callB [(0,0)] hC (v7 (r:=.u64 q) (bx':=[(0,.var (.agg [.sl none 1 (r4.map D.u8)]))]) (nw:=[]) (c7 r3 bO 4 dU) (by rw[hE4];rfl)) (EvB.cons (gV 24 O) O O O (EvB.cons (kI 4 O) O O O EvB.nil)) O ⟨O,Zt⟩ ⟨O,Zt⟩ O O O O O O (nU O),⟨O,_,R.conv (gV 25 O) O (nU O),⟨O,_,R.fdP (gU 4 O) (nU O),(d5 O O O O O (tV (V5 0 1 4 7 8) (d7 0 4 1) 60 O O O ?_))⟩⟩⟩);refine U9 (m:=8) (an:=[0,0,2,6,14,0,32,126,255,511,1023]) (its:=[.y 28 _,.y 29 _,.y 30 _,.y 31 _,.y 32 _,.y 33 _,.y 34 _,.y 35 _]) (ks:=[(7,32)]) (kk:=[]) (efs:=[(7,(p6 1))]) (live:=[0,1,7,8,28,35]) (env':=(V6 0 1 7 8 28 35)) (nd:=40) (bx1:=(d7 1 0 4)) hP dU O ⟨⟨76,O⟩,nU O,O,O,O,O⟩ (        ⟨⟨O,nU O,O,fun _ τ hb ht hτ=>R.mov (evt (hτ 1 _ O)) O ht⟩,⟨⟨O,nU O,O,fun _ τ hb ht hτ=>R.mov (evt (hτ 1 _ O)) O ht⟩,⟨⟨O,nU O,O,fun _ τ hb ht hτ=>R.nilcP (hτ 29 _ O) ht⟩,⟨⟨O,nU O,O,fun _ τ hb ht hτ=>R.fdP (hτ 30 _ O) ht⟩,⟨⟨O,nU O,O,fun _ τ hb ht hτ=>R.ldO (hτ 31 _ O) (hb 1 _ O) O ht⟩,⟨⟨O,nU O,O,fun _ τ hb ht hτ=>R.ldP (hτ 4 _ O) (hb 4 _ O) O O O O ht⟩,⟨⟨O,nU O,O,fun _ τ hb ht hτ=>w8 (z:=36) (.cons (evt (hτ 33 _ O)) .nil) ⟨⟨O,O,O⟩,Zt⟩ O ht dU⟩,⟨⟨O,O,⟨O,nU O⟩,(ZD (s:=32) (id:=1) O O O O O (fun τ hb hτ=>(SrcO.sc (SC.sl (hτ 34 _ O O O)) (g6 O))) (show _=((l++[(⟨x,p.toUInt32,s,q.toUInt32,[]⟩:InS)]).map G6) from(by rw[List.map_append];rfl)) bU dU dU O (nU O))⟩,Zt⟩⟩⟩⟩⟩⟩⟩⟩) O O O (n':=60) O (⟨O,_,R.nilcP (gU 28 O) (nU O),⟨O,_,R.fdP (gU 36 O) (nU O),⟨O,_,o8 (gU 37 O) (xU 1 O) O (gU 35 O) O O (by rfl) (by rfl) O O,⟨[0,1,7,8],(V4 0 1 7 8),(d7 1 0 4),60,O,O,O, ?_⟩⟩⟩⟩);refine b7 [0,1] (bx':=(p7 1 0)) O O O (g7 hD O) ?_;refine OQ (bx':=(p7 0 1)) ⟨O,O,Zt⟩ O ?_;refine z8 2 (y2 38 8) (V4 0 1 7 8) ⟨aU<|Q6 1 O O bU O,mU 38 O O,Zt⟩ ?_;exact⟨⟨(i+1,l++[(⟨x,p.toUInt32,s,q.toUInt32,[]⟩:InS)],r4),⟨by omega,x48 hins hin⟩⟩,rfl,(by simp only[];omega)⟩
 ·obtain rfl:i=n:=by omega
  have hI:=hins;refine W.exit (W.seq ?_)
  rcases hE9:U7 r with _|⟨n2,r5⟩
  ·refine g8 (n:=3) dU (its:=[.y 39 _]) (ks:=[]) (kk:=[]) (live:=[0,1,39]) (env':=(V3 0 1 39)) (⟨nU O,O,⟨mU 0 O O,Zt⟩,O,O,O⟩) O (bx':=(p7 0 1)) O (n':=60) O (⟨O,.inr (R.callX [(0,0)] hC (g9 (H7 r bO) (by rw[hE9];rfl)) (EvB.cons (gV 39 O) O O O EvB.nil) O ⟨O,Zt⟩ ⟨O,Zt⟩ O (fun e he=>?_))⟩);obtain⟨ch,rfl,hch⟩:=he;exact d6 (by rw[FJ hE hI hE9];rfl) ⟨⟨ch,O,hch⟩,⟨⟨_,O,by first|rfl|simp[o0,m6,D.sz]⟩,⟨⟨_,O,by first|rfl|simp[o0,m6,D.sz]⟩,Zt⟩⟩⟩
  have hr5:=S7 hE9 (by omega);refine u4 3 (y1 39) [] [] (V3 0 1 39) ⟨mU 0 O O,Zt⟩ O O (⟨O,_,R.callB [(0,0)] hC (v7 (r:=.int ((n2:Nat):Int)) (bx':=[(0,.var (.agg [.sl none 1 (r5.map D.u8)]))]) (nw:=[]) (H7 r bO) (by rw[hE9];rfl)) (EvB.cons (gV 39 O) O O O EvB.nil) O ⟨O,Zt⟩ ⟨O,Zt⟩ O O O O O O (nU O),⟨O,_,R.mov (kI 0 O) O (nU O),tV (V4 0 1 40 41) (p7 0 1) 60 O O O ?_⟩⟩);refine W.block ?_;refine W.loop (α:={q__:Nat×List OutS×List UInt8//q__.1<=n2/\J3 r5 q__.1=some (q__.2.1,q__.2.2)}) (fun q__=>⟨60,[(0,.ptr 0 0 []),(1,.ptr 1 0 []),(40,.int ((n2:Nat):Int)),(41,.int ((q__.1.1:Nat):Int))],[(0,.var (.agg [.sl none 1 (q__.1.2.2.map D.u8)])),(1,.var (.agg [.u32 v,.sl (some 112) 36 (l.map G6),.sl (some 115) 2 (q__.1.2.1.map j9),.u32 k]))]⟩) (fun q__=>n2-q__.1.1) ⟨(0,[],r5),⟨Nat.zero_le _,O⟩⟩ O ?_;rintro ⟨⟨j,m,u⟩,⟨hj,houts⟩⟩;show W _ _ _ _ ⟨60,[(0,.ptr 0 0 []),(1,.ptr 1 0 []),(40,.int ((n2:Nat):Int)),(41,.int ((j:Nat):Int))],[(0,.var (.agg [.sl none 1 (u.map D.u8)])),(1,.var (.agg [.u32 v,.sl (some 112) 36 (l.map G6),.sl (some 115) 2 (m.map j9),.u32 k]))]⟩;have hj:j<=n2:=hj;have houts:J3 r5 j=some (m,u):=houts;have hml:=WF houts (by omega);refine q9 1 (y1 42) (V5 0 1 40 41 42) ⟨aU<|zS O O O,Zt⟩ ?_;refine W.seq ?_;refine z6 O (fun hc42=>?_) (fun hc42=>?_)
  ·refine W.skip (W.seq (W.block (z5 1 [] [] [] (V4 0 1 40 41) Zt O O (Q7 O O (tV (V5 0 1 5 40 41) (d7 5 0 1) 60 O O O ?_)))));refine W.seq ?_
   rcases hE10:m0 u 8 with _|⟨p,u1⟩
   ·refine g8 (n:=4) dU (its:=[.y 43 _]) (ks:=[]) (kk:=[]) (live:=[0,1,5,40,41,43]) (env':=(V6 0 1 5 40 41 43)) (⟨nU O,O,⟨mU 0 O O,Zt⟩,O,O,O⟩) O (bx':=(d7 5 0 1)) O (n':=60) O (⟨O,.inr (R.callX [(0,0)] hC (g9 (c7 u bO 8 dU) (by rw[hE10];rfl)) (EvB.cons (gV 43 O) O O O (EvB.cons (kI 8 O) O O O EvB.nil)) O ⟨O,Zt⟩ ⟨O,Zt⟩ O (fun e he=>?_))⟩);obtain⟨ch,rfl,hch⟩:=he;exact d6 (by rw[DA hE hI hE9 (HF houts bO (SA hE10))];rfl) ⟨⟨ch,O,hch⟩,⟨⟨_,O,by first|rfl|simp[o0,m6,D.sz]⟩,⟨⟨_,O,by first|rfl|simp[o0,m6,D.sz]⟩,Zt⟩⟩⟩
   have hu1:=K3 hE10;refine u4 4 (y1 43) [] [] (V6 0 1 5 40 41 43) ⟨mU 0 O O,Zt⟩ O O (⟨O,_,R.callB [(0,0)] hC (v7 (r:=.u64 p) (bx':=[(0,.var (.agg [.sl none 1 (u1.map D.u8)]))]) (nw:=[]) (c7 u bO 8 dU) (by rw[hE10];rfl)) (EvB.cons (gV 43 O) O O O (EvB.cons (kI 8 O) O O O EvB.nil)) O ⟨O,Zt⟩ ⟨O,Zt⟩ O O O O O O (nU O),⟨O,_,R.fdP (gU 5 O) (nU O),(d5 O O O O O (tV (V5 0 1 5 40 41) (d7 5 0 1) 60 O O O ?_))⟩⟩);refine W.seq ?_
   rcases hE11:J6 u1 with _|⟨s,u2⟩
   ·refine g8 (n:=4) dU (its:=[.y 46 _]) (ks:=[]) (kk:=[]) (live:=[0,1,5,40,41,46]) (env':=(V6 0 1 5 40 41 46)) (⟨nU O,O,⟨mU 0 O O,Zt⟩,O,O,O⟩) O (bx':=(d7 5 0 1)) O (n':=60) O (⟨O,.inr (R.callX [(0,0)] hC (g9 (W1 u1 bO) (by rw[hE11];rfl)) (EvB.cons (gV 46 O) O O O EvB.nil) O ⟨O,Zt⟩ ⟨O,Zt⟩ O (fun e he=>?_))⟩);obtain⟨ch,rfl,hch⟩:=he;exact d6 (by rw[DA hE hI hE9 (HF houts bO (SO hE10 hE11))];rfl) ⟨⟨ch,O,hch⟩,⟨⟨_,O,by first|rfl|simp[o0,m6,D.sz]⟩,⟨⟨_,O,by first|rfl|simp[o0,m6,D.sz]⟩,Zt⟩⟩⟩
   have hu2:=B3 hE11 (by omega);have hout:=IN hE10 hE11;refine u4 4 (y1 46) [] [] (V6 0 1 5 40 41 46) ⟨mU 0 O O,Zt⟩ O O (⟨O,_,e9 (r':=.sl none 1 (s.map D.u8)) (R.callB [(0,0)] hC (v7 (r:=.sl (some 5) 1 (s.map D.u8)) (bx':=[(0,.var (.agg [.sl none 1 (u2.map D.u8)]))]) (nw:=[]) (W1 u1 bO) (by rw[hE11];rfl)) (EvB.cons (gV 46 O) O O O EvB.nil) O ⟨O,Zt⟩ ⟨O,Zt⟩ O O O O O O (nU O)) O (show(.sl (some 5) 1 (s.map D.u8):D).brw=_ from by simp only[D.brw,j7];rw[j2 (fun _=>rfl)]),⟨O,_,R.fdP (gU 5 O) (nU O),(d5 O O O O O (tV (V5 0 1 5 40 41) (d7 5 0 1) 60 O O O ?_))⟩⟩);refine U9 (m:=8) (an:=[0,0,2,6,14,0,32,126,255,511,1023]) (its:=[.y 49 _,.y 50 _,.y 51 _,.y 52 _,.y 53 _,.y 54 _,.y 55 _,.y 56 _]) (ks:=[(7,53)]) (kk:=[]) (efs:=[(7,(p6 1))]) (live:=[0,1,40,41,49,56]) (env':=(V6 0 1 40 41 49 56)) (nd:=40) (bx1:=(d7 1 5 0)) hP dU O ⟨⟨76,O⟩,nU O,O,O,O,O⟩ (          ⟨⟨O,nU O,O,fun _ τ hb ht hτ=>R.mov (evt (hτ 1 _ O)) O ht⟩,⟨⟨O,nU O,O,fun _ τ hb ht hτ=>R.mov (evt (hτ 1 _ O)) O ht⟩,⟨⟨O,nU O,O,fun _ τ hb ht hτ=>R.nilcP (hτ 50 _ O) ht⟩,⟨⟨O,nU O,O,fun _ τ hb ht hτ=>R.fdP (hτ 51 _ O) ht⟩,⟨⟨O,nU O,O,fun _ τ hb ht hτ=>R.ldO (hτ 52 _ O) (hb 1 _ O) O ht⟩,⟨⟨O,nU O,O,fun _ τ hb ht hτ=>R.ldP (hτ 5 _ O) (hb 5 _ O) O O O O ht⟩,⟨⟨O,nU O,O,fun _ τ hb ht hτ=>w8 (z:=2) (.cons (evt (hτ 54 _ O)) .nil) ⟨⟨O,O,O⟩,Zt⟩ O ht dU⟩,⟨⟨O,O,⟨O,nU O⟩,(ZD (s:=53) (id:=1) O O O O O (fun τ hb hτ=>(SrcO.sc (SC.sl (hτ 55 _ O O O)) (g6 O))) (show _=((m++[(⟨p,s⟩:OutS)]).map j9) from(by rw[List.map_append];rfl)) bU dU dU O (nU O))⟩,Zt⟩⟩⟩⟩⟩⟩⟩⟩) O O O (n':=60) O (⟨O,_,R.nilcP (gU 49 O) (nU O),⟨O,_,R.fdP (gU 57 O) (nU O),⟨O,_,o8 (gU 58 O) (xU 1 O) O (gU 56 O) O O (by rfl) (by rfl) O O,⟨[0,1,40,41],(V4 0 1 40 41),(d7 1 5 0),60,O,O,O, ?_⟩⟩⟩⟩);refine b7 [0,1] (bx':=(p7 1 0)) O O O (g7 hD O) ?_;refine OQ (bx':=(p7 0 1)) ⟨O,O,Zt⟩ O ?_;refine z8 2 (y2 59 41) (V4 0 1 40 41) ⟨aU<|Q6 1 O O bU O,mU 59 O O,Zt⟩ ?_;exact⟨⟨(j+1,m++[(⟨p,s⟩:OutS)],u2),⟨by omega,k88 houts hout⟩⟩,rfl,(by simp only[];omega)⟩
  ·obtain rfl:j=n2:=by omega
   refine W.exit ?_;exact U4 (r:=.tup []) (bx':=[(0,.var (.agg [.sl none 1 (u.map D.u8)])),(1,.var (.agg [.u32 v,.sl (some 112) 36 (l.map G6),.sl (some 115) 2 (m.map j9),.u32 k]))]) (nw:=[]) (by rw[NF hE hI hE9 houts];rfl) (Z8 (r:=.dead) (.inl O) O (O) ⟨O,⟨O,Zt⟩⟩)
end Go.Sx

namespace Go.Sx
open Go.Proofs
theorem q89(t:TxS)(hwf:t.wf):Fn Tryz.prog gl 87 [D1 t] (.bool (HH t)):=by
 refine Fn.of (n:=19) Tryz.func87 rfl rfl rfl (nU rfl) fun C hC hD=>?_;have h1:=hwf.ins;refine z5 2 [] [] [] (V1 0) Zt O O (⟨O,_,R.box (gV 0 O) O O (nU O),⟨O,_,j4 (kB false O) O (nU O),tV (V1 1) (p6 1) 19 O O O ?_⟩⟩);refine W.seq (q9 1 (y1 3) (V2 1 3) ⟨aU<|zK (kI 0 O) O O,Zt⟩ ?_);refine W.block ?_;refine W.loop (α:={q__:Nat//q__<=t.ins.length/\∀ k<q__,¬ 0<t.ins[k]!.wit.length}) (fun q__=>⟨19,[(1,.ptr 1 0 []),(3,.int ((q__.1:Nat):Int))],[(1,.var (.agg [.u32 t.ver,.sl none 36 (t.ins.map K4),.sl none 2 (t.outs.map j9),.u32 t.lock]))]⟩) (fun q__=>t.ins.length-q__.1) ⟨(0),⟨Nat.zero_le _,fun k h=>absurd h (Nat.not_lt_zero _)⟩⟩ O ?_;rintro ⟨i,⟨hi,hno⟩⟩;show W _ _ _ _ ⟨19,[(1,.ptr 1 0 []),(3,.int ((i:Nat):Int))],[(1,.var (.agg [.u32 t.ver,.sl none 36 (t.ins.map K4),.sl none 2 (t.outs.map j9),.u32 t.lock]))]⟩;have hi:i<=t.ins.length:=hi;have hno:∀ k<i,¬ 0<t.ins[k]!.wit.length:=hno;have hwl:i<t.ins.length->t.ins[i]!.wit.length<=1000000:=fun h=>(hwf.witl _ (m1 h)).1;refine W.seq (q9 5 (y5 4 5 6 7 8) (V3 1 3 8) ⟨mU 3 O O,aU (fU 1 O O),aU (lU 5 O O O O O O O),aU<|zN O (lN _) O,aU<|zS O O O,Zt⟩ ?_);refine z6 O (fun hc8=>?_) (fun hc8=>?_)
 ·refine W.skip (W.seq (W.block (q9 8 (y8 11 12 13 14 15 16 17 18) (V3 1 3 18) ⟨aU (fU 1 O O),aU (lU 11 O O O O O O O),mU 3 O O,aU<|zI i O O O bU O,aU<|P9 O O,aU<|zL O O (mG t.ins) O O O O O,aU<|zN O (lN _) O,aU<|l5 0 O O O,Zt⟩ ?_)));refine z6 O (fun hc18=>?_) (fun hc18=>?_)
  ·refine q9 1 (y1 2) (V1 2) ⟨aU<|zK (kB true O) O O,Zt⟩ ?_;refine W.ret ?_;exact q8 (.inr O) O ((congrArg D.bool (BH hc8 hc18)).symm) O O Zt
  ·refine W.skip ?_;refine z8 3 (y3 9 10 3) (V2 1 3) ⟨mU 3 O O,aU<|Q6 1 O O bU O,aU<|zA O O O,Zt⟩ ?_;exact⟨⟨(i+1),⟨by omega,fun k hk=>(Nat.lt_succ_iff_lt_or_eq.1 hk).elim (hno k) (fun e=>e▸hc18)⟩⟩,rfl,(by simp only[];omega)⟩
 ·obtain rfl:i=t.ins.length:=by omega
  refine W.exit (q9 1 (y1 2) (V1 2) ⟨aU<|zK (kB false O) O O,Zt⟩ ?_);refine W.ret ?_;exact q8 (.inr O) O ((congrArg D.bool (HY hno)).symm) O O Zt
theorem MO(t:TxS)(hwf:t.wf):Fn Tryz.prog gl 43 [D1 t] (.sl (some 5) 1 ((H8 t).map D.u8)):=by
 refine Fn.of (n:=59) Tryz.func43 rfl rfl rfl (nU rfl) fun C hC hD=>?_;have h1:=hwf.ins;have hbl:=hwf.body;have hw0:=hwf.witsb _ (Nat.le_refl _);refine z5 2 [] [] [] (V1 0) Zt O O (⟨O,_,R.box (gV 0 O) O O (nU O),⟨O,_,j4 (kN O) O (nU O),tV (V1 1) (p6 1) 59 O O O ?_⟩⟩);refine W.seq (q9 3 (y3 7 8 9) (V2 1 9) ⟨aU (lU 1 O O O O O O O),aU<|zC hC (q89 t hwf) O O O (F1 (.bool _)) O,aU<|UQ O O O,Zt⟩ ?_);refine W.cond O (fun hc9=>?_) (fun hc9=>?_)
 ·refine z5 3 (y3 10 11 2) [(2,11)] [(2,11)] (V1 2) ⟨aU (lU 1 O O O O O O O),aU<|zC hC (HB t hwf) O O O (F1 (.sl _ _ _ (j6 fun _=>.u8 _))) O,aU<|zO O O O,Zt⟩ O O (tU O ?_);refine W.ret ?_;exact q8 (.inr O) O (by rw[H8,if_neg (by simpa using hc9)]) O O Zt
 ·refine W.skip (z5 7 (y7 12 13 14 15 16 17 3) [(5,15),(6,17)] [(5,15),(6,17)] (V2 1 3) ⟨aU (fU 1 O O),aU (lU 12 O O O O O O O),aU<|zW O O O,aU<|ZB hC (O5 t.ver.toUInt64 4 dU) O O O (kI 4 O) O O (F1 (.sl _ _ _ (j6 fun _=>.u8 _))) O,aU fun _ _ H _=>w8 (z:=1) (.cons (kW (.int .u8 0) (.u8 0) O) (.cons (kW (.int .u8 1) (.u8 1) O) .nil)) ⟨⟨O,O,O⟩,⟨O,O,O⟩,Zt⟩ O H dU,aU fun _ _ H K=>J8 (Or.inl O) (K 15 _ O) (SrcO.sc (SC.sl (K 16 _ O)) (g6 O)) (show _=(((p8 t.ver.toUInt64 4++[0,1])).map D.u8) from(by simp)) (by simp only[List.length_map,List.length_append,j3,List.length_cons,List.length_nil];omega) H dU dU,aU<|zO O O O,Zt⟩ O O (tU O ?_));refine z5 5 (y5 18 19 20 21 3) [(3,3),(4,21),(4,18)] [(3,3),(4,21)] (V2 1 3) ⟨aU<|zM O O,aU (lU 1 O O O O O O O),aU<|zC hC (SP t hwf) O O O (F1 (.sl _ _ _ (j6 fun _=>.u8 _))) O,aU<|QH O O O (c6 (fun _=>rfl)) (show _=((((p8 t.ver.toUInt64 4++[0,1])++Y4 t)).map D.u8) from(by simp)) (by simp only[List.length_map,List.length_append,j3,List.length_cons,List.length_nil];omega) O,aU<|zO O O O,Zt⟩ O O (tU O ?_);refine W.seq (q9 1 (y1 4) (V3 1 3 4) ⟨aU<|zK (kI 0 O) O O,Zt⟩ ?_);refine W.block ?_;refine W.loop (α:={q__:Nat//q__<=t.ins.length}) (fun q__=>⟨59,[(1,.ptr 1 0 []),(3,.sl (some 5) 1 ((((p8 t.ver.toUInt64 4++[0,1])++Y4 t)++U1 t.ins q__.1).map D.u8)),(4,.int ((q__.1:Nat):Int))],[(1,.var (.agg [.u32 t.ver,.sl none 36 (t.ins.map K4),.sl none 2 (t.outs.map j9),.u32 t.lock]))]⟩) (fun q__=>t.ins.length-q__.1) ⟨(0),bU⟩ (by simp only[U1,List.append_nil];rfl) ?_;rintro ⟨i,hi⟩;show W _ _ _ _ ⟨59,[(1,.ptr 1 0 []),(3,.sl (some 5) 1 ((((p8 t.ver.toUInt64 4++[0,1])++Y4 t)++U1 t.ins i).map D.u8)),(4,.int ((i:Nat):Int))],[(1,.var (.agg [.u32 t.ver,.sl none 36 (t.ins.map K4),.sl none 2 (t.outs.map j9),.u32 t.lock]))]⟩;have hi:i<=t.ins.length:=hi;have hib:=hwf.witsb i hi;have hx:i<t.ins.length->t.ins[i]!.wit.length<=1000000/\∀ j ≤ t.ins[i]!.wit.length,(E6 t.ins[i]!.wit j).length<=1500000:=fun h=>hwf.witl _ (m1 h);have hcl:=Q0 t.ins[i]!.wit.length;refine W.seq (q9 5 (y5 22 23 24 25 26) (V4 1 3 4 26) ⟨mU 4 O O,aU (fU 1 O O),aU (lU 23 O O O O O O O),aU<|zN O (lN _) O,aU<|zS O O O,Zt⟩ ?_);refine z6 O (fun hc26=>?_) (fun hc26=>?_)
  ·refine W.skip (W.seq (W.block (q9 7 (y7 29 30 31 32 33 34 5) (V4 1 3 4 5) ⟨aU (fU 1 O O),aU (lU 29 O O O O O O O),mU 4 O O,aU<|zI i O O O bU O,aU<|P9 O O,aU<|zL O O (mG t.ins) O O O O O,aU<|zA O O O,Zt⟩ ?_)));refine z5 6 (y6 35 36 37 38 39 3) [(4,3),(5,39),(5,35)] [(4,3),(5,39)] (V4 1 3 4 5) ⟨aU<|zM O O,mU 5 O O,aU<|zN O (lN _) O,aU<|zC hC (GG t.ins[i]!.wit.length) O O O (F1 (.sl _ _ _ (j6 fun _=>.u8 _))) O,aU<|QH O O O (c6 (fun _=>rfl)) (show _=((((((p8 t.ver.toUInt64 4++[0,1])++Y4 t)++U1 t.ins i)++u9 t.ins[i]!.wit.length)).map D.u8) from(by simp)) (by simp only[List.length_map,List.length_append,j3,List.length_cons,List.length_nil];omega) O,aU<|zO O O O,Zt⟩ O O (tU O ?_);refine q9 1 (y1 6) (V5 1 3 4 5 6) ⟨aU<|zK (kI 0 O) O O,Zt⟩ ?_;refine W.block ?_;refine W.loop (α:={q__:Nat//q__<=t.ins[i]!.wit.length}) (fun q__=>⟨59,[(1,.ptr 1 0 []),(3,.sl (some 5) 1 ((((((p8 t.ver.toUInt64 4++[0,1])++Y4 t)++U1 t.ins i)++u9 t.ins[i]!.wit.length)++E6 t.ins[i]!.wit q__.1).map D.u8)),(4,.int ((i:Nat):Int)),(5,.sl none 1 (t.ins[i]!.wit.map b5)),(6,.int ((q__.1:Nat):Int))],[(1,.var (.agg [.u32 t.ver,.sl none 36 (t.ins.map K4),.sl none 2 (t.outs.map j9),.u32 t.lock]))]⟩) (fun q__=>t.ins[i]!.wit.length-q__.1) ⟨(0),bU⟩ (by simp only[E6,List.append_nil]) ?_;rintro ⟨j,hj⟩;show W _ _ _ _ ⟨59,[(1,.ptr 1 0 []),(3,.sl (some 5) 1 ((((((p8 t.ver.toUInt64 4++[0,1])++Y4 t)++U1 t.ins i)++u9 t.ins[i]!.wit.length)++E6 t.ins[i]!.wit j).map D.u8)),(4,.int ((i:Nat):Int)),(5,.sl none 1 (t.ins[i]!.wit.map b5)),(6,.int ((j:Nat):Int))],[(1,.var (.agg [.u32 t.ver,.sl none 36 (t.ins.map K4),.sl none 2 (t.outs.map j9),.u32 t.lock]))]⟩;have hj:j<=t.ins[i]!.wit.length:=hj;have hjb:=(hx (by omega)).2 j hj;have hjb1:j<t.ins[i]!.wit.length->(E6 t.ins[i]!.wit (j+1)).length<=1500000:=fun h=>(hx (by omega)).2 (j+1) h
   have hjS:(E6 t.ins[i]!.wit (j+1)).length=(E6 t.ins[i]!.wit j).length+(L5 t.ins[i]!.wit[j]!).length:=by simp[E6]
   have hwl:=(hx (by omega)).1;have hwi:j<t.ins[i]!.wit.length->t.ins[i]!.wit[j]!.length<=1000000:=fun h=>hwf.witi _ (m1 (show i<t.ins.length by omega)) _ (m1 h);refine W.seq (q9 4 (y4 40 41 42 43) (V6 1 3 4 5 6 43) ⟨mU 6 O O,mU 5 O O,aU<|zN O (lN _) O,aU<|zS O O O,Zt⟩ ?_);refine z6 O (fun hc43=>?_) (fun hc43=>?_)
   ·refine W.skip (W.seq (W.block ?_));refine u4 8 (y8 46 47 48 49 50 51 52 3) [(6,3),(7,52),(7,46)] [(6,3),(7,52)] (V5 1 3 4 5 6) ⟨aU<|zM O O,mU 5 O O,mU 6 O O,aU<|zI j O O O bU O,aU<|zL O O (j5 (l:=t.ins[i]!.wit) bU) O O O O O,aU<|zC hC (MA t.ins[i]!.wit[j]! (hwi bO)) O O O (F1 (.sl _ _ _ (j6 fun _=>.u8 _))) O,aU<|QH O O O (c6 (fun _=>rfl)) (show _=((((((p8 t.ver.toUInt64 4++[0,1])++Y4 t)++U1 t.ins i)++u9 t.ins[i]!.wit.length)++E6 t.ins[i]!.wit (j+1)).map D.u8) from(by simp[E6,List.append_assoc])) (by simp only[List.length_map,List.length_append,j3,List.length_cons,List.length_nil];omega) O,aU<|zO O O O,Zt⟩ O O (tU O ?_);refine z8 3 (y3 44 45 6) (V5 1 3 4 5 6) ⟨mU 6 O O,aU<|Q6 1 O O bU O,aU<|zA O O O,Zt⟩ ?_;exact⟨⟨(j+1),bU⟩,rfl,(by simp only[];omega)⟩
   ·obtain rfl:j=t.ins[i]!.wit.length:=by omega
    refine W.exit ?_;refine z8 3 (y3 27 28 4) (V3 1 3 4) ⟨mU 4 O O,aU<|Q6 1 O O bU O,aU<|zA O O O,Zt⟩ ?_;exact⟨⟨(i+1),bU⟩,(by simp only[U1,List.append_assoc]),(by simp only[];omega)⟩
  ·obtain rfl:i=t.ins.length:=by omega
   refine W.exit (z5 7 (y7 53 54 55 56 57 58 2) [(5,3),(6,58)] [(5,3),(6,58)] (V1 2) ⟨aU<|zM O O,aU (fU 1 O O),aU (lU 54 O O O O O O O),aU<|zW O O O,aU<|ZB hC (O5 t.lock.toUInt64 4 dU) O O O (kI 4 O) O O (F1 (.sl _ _ _ (j6 fun _=>.u8 _))) O,aU<|QH O O O (c6 (fun _=>rfl)) (show _=(((((p8 t.ver.toUInt64 4++[0,1])++Y4 t)++U1 t.ins t.ins.length)++p8 t.lock.toUInt64 4).map D.u8) from(by simp)) (by simp only[List.length_map,List.length_append,j3,List.length_cons,List.length_nil];omega) O,aU<|zO O O O,Zt⟩ O O (tU O ?_));refine W.ret ?_;exact q8 (.inr O) O (by rw[H8,if_pos (by simpa using hc9)]) O O Zt
end Go.Sx

namespace Go.Sx
open Go.Proofs
theorem BD{l:List InS}{i:Nat}{p:Plc}:N4 (D5 l i) p=true↔∃ j<i,plc l[j]! = p:=by
 induction i with
 | zero=>simp[D5,N4]
 | succ i ih=>
  have e:N4 (D5 l (i+1)) p=(N4 (D5 l i) p||decide (plc l[i]! = p)):=by
   simp only[D5,N4,List.any_append,List.any_cons,List.any_nil,Bool.or_false];rfl
  rw[e,Bool.or_eq_true,ih,decide_eq_true_iff];constructor
  ·rintro (⟨j,hj,h⟩|h)
   ·exact⟨j,by omega,h⟩
   ·exact⟨i,by omega,h⟩
  ·rintro ⟨j,hj,h⟩
   rcases Nat.lt_succ_iff_lt_or_eq.1 hj with h1|rfl
   ·exact .inl ⟨j,h1,h⟩
   ·exact .inr h
theorem WX{l:List InS}{i j:Nat}(hj:j<i)(h:plc l[j]! = plc l[i]!):N4 (D5 l i) (plc l[i]!)=true:=BD.2 ⟨j,hj,h⟩
theorem q84{l:List InS}{i:Nat}(h:∀ k<i,plc l[k]!≠plc l[i]!):N4 (D5 l i) (plc l[i]!)=false:=by
 cases hh:N4 (D5 l i) (plc l[i]!) with
 | false=>rfl
 | true=>obtain⟨j,hj,he⟩:=BD.1 hh;exact absurd he (h j hj)
theorem x37{t:TxS}(h:16384<(H8 t).length):i7 t=false:=decide_eq_false fun hm=>by have:=hm.2.2.2.2;omega
theorem z46{t:TxS}(h1:¬ t.ins.length=0)(h2:¬ t.outs.length=0)(h3:∀ i<t.ins.length,N4 (D5 t.ins i) (plc t.ins[i]!)=false)
 (h4:∀ i<t.outs.length,¬ 2100000000000000<t.outs[i]!.value/\¬ 2100000000000000<UX t.outs (i+1)) (h5:(H8 t).length<=16384):i7 t=true:=by
 rw[SV h1 h2 h3 h4];exact decide_eq_true h5
theorem z08{t:TxS}(h:t.wf):(H8 t).length<=5000000:=by
 have h1:=h.body;have h2:=h.witsb _ (Nat.le_refl _);have h3:=h.bareL;unfold H8;split
 ·simp only[List.length_append,j3,List.length_cons,List.length_nil];omega
 ·omega
theorem j94{a b:List UInt8}(h:(a != b)=false):a=b:=by simpa using h
theorem j93{a b:List UInt8}(h:(a != b)=true):a≠b:=by simpa using h
theorem j75{a b:List (List UInt8)}(h:a.length≠b.length):(a==b)=false:=beq_eq_false_iff_ne.2 fun e=>h (by rw[e])
theorem w27{a b:List (List UInt8)}{i:Nat}(hi:i<a.length)(h:a[i]!≠b[i]!):(a==b)=false:=beq_eq_false_iff_ne.2 fun e=>h (by rw[e])
theorem w80{a b:List (List UInt8)}(h:a.length=b.length)(he:∀ j<a.length,a[j]! = b[j]!):(a==b)=true:=by
 refine beq_iff_eq.2 (List.ext_getElem h fun i h1 h2=>?_);have:=he i h1
 rwa [getElem!_pos a i h1,getElem!_pos b i h2] at this
end Go.Sx

namespace Go.Sx
open Go.Proofs
theorem RJ(a b:List UInt8):Fn Tryz.prog gl 98 [.sl none 1 (a.map D.u8),.sl none 1 (b.map D.u8)] (.bool (a==b)):=by
 refine Fn.of (n:=10) Tryz.func98 rfl rfl rfl (nU rfl) fun C hC hD=>?_;refine q9 1 (y1 4) (V2 0 1) ⟨aU<|zK (kB false O) O O,Zt⟩ ?_;refine q9 6 (y6 5 6 7 8 9 4) (V1 4) ⟨mU 0 O O,aU fun _ _ H K=>R.cvS (xs:=a) (SC.sl (K 5 _ O)) H,mU 1 O O,aU fun _ _ H K=>R.cvS (xs:=b) (SC.sl (K 7 _ O)) H,aU<|zB O O O O,aU<|zA O O O,Zt⟩ ?_;refine W.ret ?_;exact q8 (.inr O) O (O) O O Zt
theorem SH(t:TxS)(hwf:t.wf):Fn Tryz.prog gl 109 [D1 t] (.bool (i7 t)):=by
 refine Fn.of (n:=72) Tryz.func109 rfl rfl rfl (nU rfl) fun C hC hD=>?_;have h1:=hwf.ins;have h2:=hwf.outs;have hpl:=z08 hwf;refine z5 2 [] [] [] (V1 0) Zt O O (⟨O,_,R.box (gV 0 O) O O (nU O),⟨O,_,j4 (kB false O) O (nU O),tV (V1 1) (p6 1) 72 O O O ?_⟩⟩);refine W.seq (W.seq ?_);by_cases hz:t.ins.length=0
 ·refine z8 16 [.y 7 _,.y 8 _,.y 9 _,.y 10 _,.y 11 _,.x 12,.x 13,.x 14,.x 15,.y 16 _,.y 17 _,.x 18,.x 19,.x 20,.x 21,.y 22 _] (V2 1 22) ⟨aU (fU 1 O O),aU (lU 7 O O O O O O O),aU<|zN O (lN _) O,aU<|KD 0 O O O,mU 10 O O,aF O O (gT (dT hz) O),aF O O (gT (dT hz) O),aF O O (gT (dT hz) O),aF O O (gT (dT hz) O),aU<|I4 O (dT hz) (kB true O) O O,mU 16 O O,aF O O (gT (O) O),aF O O (gT (O) O),aF O O (gT (O) O),aF O O (gT (O) O),aU<|I4 O (O) (kB true O) O O,Zt⟩ ?_;refine u7 O (O) ?_;refine q9 1 (y1 2) (V1 2) ⟨aU<|zK (kB false O) O O,Zt⟩ ?_;refine W.ret ?_;exact q8 (.inr O) O (congrArg D.bool (z51 hz).symm) O O Zt
 ·by_cases ho:t.outs.length=0
  ·refine z8 16 [.y 7 _,.y 8 _,.y 9 _,.y 10 _,.y 11 _,.y 12 _,.y 13 _,.y 14 _,.y 15 _,.y 16 _,.y 17 _,.x 18,.x 19,.x 20,.x 21,.y 22 _] (V2 1 22) ⟨aU (fU 1 O O),aU (lU 7 O O O O O O O),aU<|zN O (lN _) O,aU<|KD 0 O O O,mU 10 O O,aW O O (gF (dF hz) O) (fU 1 O O),aW O O (gF (dF hz) O) (lU 12 O O O O O O O),aW O O (gF (dF hz) O)<|zN O (lN _) O,aW O O (gF (dF hz) O)<|KD 0 O O O,aU<|zF O (dF hz) O O O,mU 16 O O,aF O O (gT (dT ho) O),aF O O (gT (dT ho) O),aF O O (gT (dT ho) O),aF O O (gT (dT ho) O),aU<|I4 O (dT ho) (kB true O) O O,Zt⟩ ?_;refine u7 O (O) ?_;refine q9 1 (y1 2) (V1 2) ⟨aU<|zK (kB false O) O O,Zt⟩ ?_;refine W.ret ?_;exact q8 (.inr O) O (congrArg D.bool (z50 ho).symm) O O Zt
  ·refine z8 16 (x87 7 8 9 10 11 12 13 14 15 16 17 18 19 20 21 22) (V2 1 22) ⟨aU (fU 1 O O),aU (lU 7 O O O O O O O),aU<|zN O (lN _) O,aU<|KD 0 O O O,mU 10 O O,aW O O (gF (dF hz) O) (fU 1 O O),aW O O (gF (dF hz) O) (lU 12 O O O O O O O),aW O O (gF (dF hz) O)<|zN O (lN _) O,aW O O (gF (dF hz) O)<|KD 0 O O O,aU<|zF O (dF hz) O O O,mU 16 O O,aW O O (gF (dF ho) O) (lU 1 O O O O O O O),aW O O (gF (dF ho) O)<|zC hC (MO t hwf) O O O (F1 (.sl _ _ _ (j6 fun _=>.u8 _))) O,aW O O (gF (dF ho) O)<|zN O (lN _) O,aW O O (gF (dF ho) O)<|l5 16384 O O O,aU<|zF O (dF ho) O O O,Zt⟩ ?_;refine z6 O (fun hc22=>?_) (fun hc22=>?_)
   ·refine q9 1 (y1 2) (V1 2) ⟨aU<|zK (kB false O) O O,Zt⟩ ?_;refine W.ret ?_;exact q8 (.inr O) O (congrArg D.bool (x37 hc22).symm) O O Zt
   ·refine W.skip (W.seq (q9 1 (y1 3) (V2 1 3) ⟨aU<|zK (kI 0 O) O O,Zt⟩ ?_));refine W.block ?_;refine W.loop (α:={q__:Nat//q__<=t.ins.length/\∀ j<q__,N4 (D5 t.ins j) (plc t.ins[j]!)=false}) (fun q__=>⟨72,[(1,.ptr 1 0 []),(3,.int ((q__.1:Nat):Int))],[(1,.var (.agg [.u32 t.ver,.sl none 36 (t.ins.map K4),.sl none 2 (t.outs.map j9),.u32 t.lock]))]⟩) (fun q__=>t.ins.length-q__.1) ⟨(0),⟨Nat.zero_le _,fun j h=>absurd h (Nat.not_lt_zero _)⟩⟩ O ?_;rintro ⟨i,⟨hi,hno⟩⟩;show W _ _ _ _ ⟨72,[(1,.ptr 1 0 []),(3,.int ((i:Nat):Int))],[(1,.var (.agg [.u32 t.ver,.sl none 36 (t.ins.map K4),.sl none 2 (t.outs.map j9),.u32 t.lock]))]⟩;have hi:i<=t.ins.length:=hi;have hno:∀ j<i,N4 (D5 t.ins j) (plc t.ins[j]!)=false:=hno;refine W.seq (q9 5 (y5 23 24 25 26 27) (V3 1 3 27) ⟨mU 3 O O,aU (fU 1 O O),aU (lU 24 O O O O O O O),aU<|zN O (lN _) O,aU<|zS O O O,Zt⟩ ?_);refine z6 O (fun hc27=>?_) (fun hc27=>?_)
    ·refine W.skip (W.seq (W.block (q9 1 (y1 4) (V3 1 3 4) ⟨aU<|zK (kI 0 O) O O,Zt⟩ ?_)));refine W.block ?_;refine W.loop (α:={q__:Nat//q__<=i/\∀ k<q__,plc t.ins[k]!≠plc t.ins[i]!}) (fun q__=>⟨72,[(1,.ptr 1 0 []),(3,.int ((i:Nat):Int)),(4,.int ((q__.1:Nat):Int))],[(1,.var (.agg [.u32 t.ver,.sl none 36 (t.ins.map K4),.sl none 2 (t.outs.map j9),.u32 t.lock]))]⟩) (fun q__=>i-q__.1) ⟨(0),⟨Nat.zero_le _,fun j h=>absurd h (Nat.not_lt_zero _)⟩⟩ O ?_;rintro ⟨j,⟨hj,hne⟩⟩;show W _ _ _ _ ⟨72,[(1,.ptr 1 0 []),(3,.int ((i:Nat):Int)),(4,.int ((j:Nat):Int))],[(1,.var (.agg [.u32 t.ver,.sl none 36 (t.ins.map K4),.sl none 2 (t.outs.map j9),.u32 t.lock]))]⟩;have hj:j<=i:=hj;have hne:∀ k<j,plc t.ins[k]!≠plc t.ins[i]!:=hne;refine W.seq (q9 3 (y3 30 31 32) (V4 1 3 4 32) ⟨mU 4 O O,mU 3 O O,aU<|zS O O O,Zt⟩ ?_);refine z6 O (fun hc32=>?_) (fun hc32=>?_)
     ·refine W.skip (W.seq (W.block (W.seq ?_)));refine W.dr (m:=13) (an:=[0,1,0,7,15,31,0,64,0,448,960,1984,4095]) hP dU O (its:=[.y 35 _,.y 36 _,.y 37 _,.y 38 _,.y 39 _,.y 40 _,.y 41 _,.y 42 _,.y 43 _,.y 44 _,.y 45 _,.y 46 _,.y 47 _]) (ks:=[]) (kk:=[]) (env':=(V4 1 3 4 47)) (⟨nU O,O,⟨aU (fU 1 O O),aU (lU 35 O O O O O O O),mU 3 O O,aU<|zI i O O O bU O,aU<|P9 O O,aU<|zL O O (mG t.ins) O O O O O,aU (fU 1 O O),aU (lU 41 O O O O O O O),mU 4 O O,aU<|zI j O O O bU O,aU<|P9 O O,aU<|zL O O (mG t.ins) O O O O O,aU fun _ _ H K=>R.eqD (neg:=false) (b':=(plc t.ins[i]! == plc t.ins[j]!)) (X9 (plc t.ins[i]!) (plc t.ins[j]!)) O (eU K 40 O) (eU K 46 O) O O O O (O) H,Zt⟩,O,O,O⟩) O (bx':=(p6 1)) O (n':=72) O (tV (V4 1 3 4 47) (p6 1) 72 O O O ?_);refine W.cond O (fun hc47=>?_) (fun hc47=>?_)
      ·refine q9 1 (y1 2) (V1 2) ⟨aU<|zK (kB false O) O O,Zt⟩ ?_;refine W.ret ?_;exact q8 (.inr O) O (congrArg D.bool (z49 hc27 (WX hc32 (beq_iff_eq.1 hc47).symm)).symm) O O Zt
      ·refine W.skip ?_;refine z8 3 (y3 33 34 4) (V3 1 3 4) ⟨mU 4 O O,aU<|Q6 1 O O bU O,aU<|zA O O O,Zt⟩ ?_;exact⟨⟨(j+1),⟨by omega,fun k hk=>(Nat.lt_succ_iff_lt_or_eq.1 hk).elim (hne k) (fun e=>by rw[e];exact fun he=>by have:=beq_iff_eq.2 he.symm;rw[hc47] at this;cases this)⟩⟩,rfl,(by simp only[];omega)⟩
     ·obtain rfl:i=j:=by omega
      refine W.exit ?_;refine z8 3 (y3 28 29 3) (V2 1 3) ⟨mU 3 O O,aU<|Q6 1 O O bU O,aU<|zA O O O,Zt⟩ ?_;exact⟨⟨(i+1),⟨by omega,fun k hk=>(Nat.lt_succ_iff_lt_or_eq.1 hk).elim (hno k) (fun e=>by rw[e];exact q84 hne)⟩⟩,rfl,(by simp only[];omega)⟩
    ·obtain rfl:i=t.ins.length:=by omega
     refine W.exit (q9 1 (y1 5) (V2 1 5) ⟨aU<|zK (kW (.int .u64 0) (.u64 0) O) O O,Zt⟩ ?_);refine W.seq (q9 1 (y1 6) (V3 1 5 6) ⟨aU<|zK (kI 0 O) O O,Zt⟩ ?_);refine W.block ?_;refine W.loop (α:={q__:Nat//q__<=t.outs.length/\∀ j<q__,¬ 2100000000000000<t.outs[j]!.value/\¬ 2100000000000000<UX t.outs (j+1)}) (fun q__=>⟨72,[(1,.ptr 1 0 []),(5,.u64 (UX t.outs q__.1)),(6,.int ((q__.1:Nat):Int))],[(1,.var (.agg [.u32 t.ver,.sl none 36 (t.ins.map K4),.sl none 2 (t.outs.map j9),.u32 t.lock]))]⟩) (fun q__=>t.outs.length-q__.1) ⟨(0),⟨Nat.zero_le _,fun j h=>absurd h (Nat.not_lt_zero _)⟩⟩ O ?_;rintro ⟨i,⟨hi,hmo⟩⟩;show W _ _ _ _ ⟨72,[(1,.ptr 1 0 []),(5,.u64 (UX t.outs i)),(6,.int ((i:Nat):Int))],[(1,.var (.agg [.u32 t.ver,.sl none 36 (t.ins.map K4),.sl none 2 (t.outs.map j9),.u32 t.lock]))]⟩;have hi:i<=t.outs.length:=hi;have hmo:∀ j<i,¬ 2100000000000000<t.outs[j]!.value/\¬ 2100000000000000<UX t.outs (j+1):=hmo;refine W.seq (q9 5 (y5 48 49 50 51 52) (V4 1 5 6 52) ⟨mU 6 O O,aU (fU 1 O O),aU (lU 49 O O O O O O O),aU<|zN O (lN _) O,aU<|zS O O O,Zt⟩ ?_);refine z6 O (fun hc52=>?_) (fun hc52=>?_)
     ·refine W.skip (W.seq (W.block (W.seq (q9 7 (y7 55 56 57 58 59 60 61) (V4 1 5 6 61) ⟨aU (fU 1 O O),aU (lU 55 O O O O O O O),mU 6 O O,aU<|zI i O O O bU O,aU<|P9 O O,aU<|zL O O (mG t.outs) O O O O O,aU<|B6 O (kW (.int .u64 2100000000000000) (.u64 2100000000000000) O) O O,Zt⟩ ?_))));refine W.cond O (fun hc61=>?_) (fun hc61=>?_)
      ·refine q9 1 (y1 2) (V1 2) ⟨aU<|zK (kB false O) O O,Zt⟩ ?_;refine W.ret ?_;exact q8 (.inr O) O (congrArg D.bool (z48 hc52 (of_decide_eq_true hc61)).symm) O O Zt
      ·refine W.skip (q9 9 (y9 62 63 64 65 66 67 68 69 5) (V3 1 5 6) ⟨mU 5 O O,aU (fU 1 O O),aU (lU 63 O O O O O O O),mU 6 O O,aU<|zI i O O O bU O,aU<|P9 O O,aU<|zL O O (mG t.outs) O O O O O,aU<|zB O O O O,aU<|zA O O O,Zt⟩ ?_);refine q9 2 (y2 70 71) (V4 1 5 6 71) ⟨mU 5 O O,aU<|B6 O (kW (.int .u64 2100000000000000) (.u64 2100000000000000) O) O O,Zt⟩ ?_;refine W.cond O (fun hc71=>?_) (fun hc71=>?_)
       ·refine q9 1 (y1 2) (V1 2) ⟨aU<|zK (kB false O) O O,Zt⟩ ?_;refine W.ret ?_;exact q8 (.inr O) O (congrArg D.bool (z47 hc52 (of_decide_eq_true hc71)).symm) O O Zt
       ·refine W.skip ?_;refine z8 3 (y3 53 54 6) (V3 1 5 6) ⟨mU 6 O O,aU<|Q6 1 O O bU O,aU<|zA O O O,Zt⟩ ?_;exact⟨⟨(i+1),⟨by omega,fun j hj=>(Nat.lt_succ_iff_lt_or_eq.1 hj).elim (hmo j) (fun e=>e▸⟨of_decide_eq_false hc61,of_decide_eq_false hc71⟩)⟩⟩,rfl,(by simp only[];omega)⟩
     ·obtain rfl:i=t.outs.length:=by omega
      refine W.exit (q9 1 (y1 2) (V1 2) ⟨aU<|zK (kB true O) O O,Zt⟩ ?_);refine W.ret ?_;exact q8 (.inr O) O (congrArg D.bool (z46 hz ho hno hmo bO).symm) O O Zt
theorem z58(a b:List (List UInt8))(ha:a.length<=1000000)(hb:b.length<=1000000):Fn Tryz.prog gl 58 [.sl none 1 (a.map b5),.sl none 1 (b.map b5)] (.bool (a==b)):=by
 refine Fn.of (n:=28) Tryz.func58 rfl rfl rfl (nU rfl) fun C hC hD=>?_;refine q9 1 (y1 4) (V2 0 1) ⟨aU<|zK (kB false O) O O,Zt⟩ ?_;refine W.seq (q9 5 (y5 6 7 8 9 10) (V3 0 1 10) ⟨mU 0 O O,aU<|zN O (lN _) O,mU 1 O O,aU<|zN O (lN _) O,aU<|x86 O O O,Zt⟩ ?_);refine z6 O (fun hc10=>?_) (fun hc10=>?_)
 ·refine q9 1 (y1 4) (V1 4) ⟨aU<|zK (kB false O) O O,Zt⟩ ?_;refine W.ret ?_;exact q8 (.inr O) O (congrArg D.bool (j75 hc10).symm) O O Zt
 ·refine W.skip (W.seq (q9 1 (y1 5) (V3 0 1 5) ⟨aU<|zK (kI 0 O) O O,Zt⟩ ?_));refine W.block ?_;refine W.loop (α:={q__:Nat//q__<=a.length/\∀ j<q__,a[j]! = b[j]!}) (fun q__=>⟨28,[(0,.sl none 1 (a.map b5)),(1,.sl none 1 (b.map b5)),(5,.int ((q__.1:Nat):Int))],[]⟩) (fun q__=>a.length-q__.1) ⟨(0),⟨Nat.zero_le _,fun j h=>absurd h (Nat.not_lt_zero _)⟩⟩ O ?_;rintro ⟨i,⟨hi,heq⟩⟩;show W _ _ _ _ ⟨28,[(0,.sl none 1 (a.map b5)),(1,.sl none 1 (b.map b5)),(5,.int ((i:Nat):Int))],[]⟩;have hi:i<=a.length:=hi;have hlen:a.length=b.length:=Decidable.not_not.1 hc10;have heq:∀ j<i,a[j]! = b[j]!:=heq;refine W.seq (q9 4 (y4 11 12 13 14) (V4 0 1 5 14) ⟨mU 5 O O,mU 0 O O,aU<|zN O (lN _) O,aU<|zS O O O,Zt⟩ ?_);refine z6 O (fun hc14=>?_) (fun hc14=>?_)
  ·refine W.skip (W.seq (W.block (W.seq ?_)));refine W.dr (m:=11) (an:=[0,0,3,7,15,0,0,96,224,480,1023]) hP dU O (its:=[.y 17 _,.y 18 _,.y 19 _,.y 20 _,.y 21 _,.y 22 _,.y 23 _,.y 24 _,.y 25 _,.y 26 _,.y 27 _]) (ks:=[]) (kk:=[]) (env':=(V4 0 1 5 27)) (⟨nU O,O,⟨mU 0 O O,mU 5 O O,aU<|zI i O O O bU O,aU<|zL O O (mG a) O O O O O,aU fun _ _ H K=>R.cvS (xs:=a[i]!) (SC.sl (K 20 _ O)) H,mU 1 O O,mU 5 O O,aU<|zI i O O O bU O,aU<|zL O O (mG b) O O O O O,aU fun _ _ H K=>R.cvS (xs:=b[i]!) (SC.sl (K 25 _ O)) H,aU<|zB O O O O,Zt⟩,O,O,O⟩) O (bx':=[]) O (n':=28) O (tV (V4 0 1 5 27) [] 28 O O O ?_);refine W.cond O (fun hc27=>?_) (fun hc27=>?_)
   ·refine q9 1 (y1 4) (V1 4) ⟨aU<|zK (kB false O) O O,Zt⟩ ?_;refine W.ret ?_;exact q8 (.inr O) O (congrArg D.bool (w27 hc14 (j93 hc27)).symm) O O Zt
   ·refine W.skip ?_;refine z8 3 (y3 15 16 5) (V3 0 1 5) ⟨mU 5 O O,aU<|Q6 1 O O bU O,aU<|zA O O O,Zt⟩ ?_;exact⟨⟨(i+1),⟨by omega,fun k hk=>(Nat.lt_succ_iff_lt_or_eq.1 hk).elim (heq k) (fun e=>by rw[e];exact j94 hc27)⟩⟩,rfl,(by simp only[];omega)⟩
  ·obtain rfl:i=a.length:=by omega
   refine W.exit (q9 1 (y1 4) (V1 4) ⟨aU<|zK (kB true O) O O,Zt⟩ ?_);refine W.ret ?_;exact q8 (.inr O) O (congrArg D.bool (w80 hlen heq).symm) O O Zt
end Go.Sx

namespace Go.Sx
open Go.Proofs
def k45{α:Type}[Inhabited α](f:α->α->Bool)(a b:List α):Bool:=decide (a.length=b.length)&&(List.range a.length).all fun i=>f a[i]! b[i]!
def w55(a b:List UInt8):Bool:=a==b
theorem LF{α:Type}[Inhabited α]{f:α->α->Bool}{a b:List α}(h:a.length≠b.length):k45 f a b=false:=by simp[k45,h]
theorem LE{α:Type}[Inhabited α]{f:α->α->Bool}{a b:List α}(h:a.length=b.length){i:Nat}(hi:i<a.length)(hf:f a[i]! b[i]! = false):k45 f a b=false:=by
 unfold k45;rw[decide_eq_true h,Bool.true_and,List.all_eq_false];exact⟨i,List.mem_range.2 hi,by rw[hf];simp⟩
theorem k02{α:Type}[Inhabited α]{f:α->α->Bool}{a b:List α}(h:a.length=b.length)(he:∀ j<a.length,f a[j]! b[j]! = true):k45 f a b=true:=by
 unfold k45;rw[decide_eq_true h,Bool.true_and,List.all_eq_true];exact fun i hi=>he i (List.mem_range.1 hi)
def ZQ(x y:InS):Bool:=plc x==plc y&&x.seq==y.seq&&x.script==y.script&&k45 w55 x.wit y.wit
def r9(x y:OutS):Bool:=x.value==y.value&&x.script==y.script
theorem q02{b:Bool}(h:(!b)=true):b=false:=by cases b<;>simp_all
theorem IL{b:Bool}(h:(!b)=false):b=true:=by cases b<;>simp_all
def E4(t u:TxS):Bool:=t.ver==u.ver&&t.lock==u.lock&&k45 ZQ t.ins u.ins&&k45 r9 t.outs u.outs
end Go.Sx

namespace Go.Sx
open Go.Proofs
def c4(b:List UInt8)(bad:Bool)(n:Nat):List UInt8×List UInt8×Bool:=if bad=true∨b.length<n then([],b,true) else(b.take n,b.drop n,false)
theorem RT{b:List UInt8}{bad:Bool}{n:Nat}(h:¬ bad=true)(h2:¬ b.length<n):¬ (bad=true∨b.length<n):=fun hc=>hc.elim h h2
theorem w84{bad:Bool}(h:¬ bad=true):bad=false:=by simpa using h
theorem M6(b:List UInt8)(bad:Bool)(n:Nat):(c4 b bad n).1.length<=n/\(c4 b bad n).1.length<=b.length/\(c4 b bad n).2.1.length<=b.length:=by
 unfold c4
 split<;>simp<;>omega
def AW(l:List UInt8):Nat->UInt64
 | 0=>0
 | k+1=>U6 (AW l k) 8|||(l[l.length-1-k]!).toUInt64
def Q2(b:List UInt8)(bad:Bool)(n:Nat):UInt64×List UInt8×Bool:=(AW (c4 b bad n).1 (c4 b bad n).1.length,(c4 b bad n).2)
theorem J5{b r:List UInt8}{bad e:Bool}{n:Nat}{x:UInt64}(h:Q2 b bad n=(x,r,e)):r.length<=b.length:=by
 have:=M6 b bad n
 have h2:(c4 b bad n).2.1=r:=by
  have:=congrArg (fun q=>q.2.1) h;exact this
 rw[h2] at this;exact this.2.2
def O3(y:UInt64)(r:List UInt8)(e:Bool):Nat×List UInt8×Bool:=if UInt64.ofInt ((r.length:Nat):Int)<y then(0,r,true) else(y.toNat,r,e)
def Y2(b:List UInt8)(bad:Bool):Nat×List UInt8×Bool:=
 match Q2 b bad 1 with
 | (x,r,e)=>match (if x=253 then Q2 r e 2 else if x=254 then Q2 r e 4 else if x=255 then Q2 r e 8 else(x,r,e)) with
  | (y,r2,e2)=>O3 y r2 e2
def A1(b:List UInt8)(bad:Bool):List UInt8×List UInt8×Bool:=
 match Y2 b bad with
 | (n,r,e)=>c4 r e n
section
variable{b r r2:List UInt8}{bad e e2:Bool}{x y:UInt64}
theorem UV(hp:Q2 b bad 1=(x,r,e))(h:x=253)(hq:Q2 r e 2=(y,r2,e2)):Y2 b bad=O3 y r2 e2:=by
 unfold Y2;rw[hp];simp only[if_pos h,hq]
theorem UT(hp:Q2 b bad 1=(x,r,e))(h:x≠253)(h2:x=254)(hq:Q2 r e 4=(y,r2,e2)):Y2 b bad=O3 y r2 e2:=by
 unfold Y2;rw[hp];simp only[if_neg h,if_pos h2,hq]
theorem US(hp:Q2 b bad 1=(x,r,e))(h:x≠253)(h2:x≠254)(h3:x=255)(hq:Q2 r e 8=(y,r2,e2)):Y2 b bad=O3 y r2 e2:=by
 unfold Y2;rw[hp];simp only[if_neg h,if_neg h2,if_pos h3,hq]
theorem q24(hp:Q2 b bad 1=(x,r,e))(h:x≠253)(h2:x≠254)(h3:x≠255):Y2 b bad=O3 x r e:=by
 unfold Y2;rw[hp];simp only[if_neg h,if_neg h2,if_neg h3]
theorem k15{n:Nat}(hr:r2.length<=100000)(h:O3 y r2 e2=(n,r,e)):n<=r.length/\r=r2:=by
 unfold O3 at h;split at h
 ·cases h;simp
 ·rename_i hn;cases h;exact⟨S2 hn (by omega),rfl⟩
theorem A5{n:Nat}(hb:b.length<=100000)(h:Y2 b bad=(n,r,e)):n<=r.length/\r.length<=b.length:=by
 obtain⟨x,r1,e1,hp⟩:∃ x r e,Q2 b bad 1=(x,r,e):=⟨_,_,_,rfl⟩
 have hl:=J5 hp
 have fin:∀ {y r2 e2},r2.length<=b.length->Y2 b bad=O3 y r2 e2->n<=r.length/\r.length<=b.length:=by
  intro y r2 e2 hr hc;rw[hc] at h;obtain⟨h1,rfl⟩:=k15 (by omega) h;exact⟨h1,hr⟩
 have nx:∀ m,∃ y r2 e2,Q2 r1 e1 m=(y,r2,e2)/\r2.length<=b.length:=fun m=>⟨_,_,_,rfl,Nat.le_trans (J5 (x:=(Q2 r1 e1 m).1) (r:=(Q2 r1 e1 m).2.1) (e:=(Q2 r1 e1 m).2.2) rfl) hl⟩
 by_cases h1:x=253
 ·obtain⟨y,r2,e2,hq,hr⟩:=nx 2;exact fin hr (UV hp h1 hq)
 ·by_cases h2:x=254
  ·obtain⟨y,r2,e2,hq,hr⟩:=nx 4;exact fin hr (UT hp h1 h2 hq)
  ·by_cases h3:x=255
   ·obtain⟨y,r2,e2,hq,hr⟩:=nx 8;exact fin hr (US hp h1 h2 h3 hq)
   ·exact fin hl (q24 hp h1 h2 h3)
theorem z67{n:Nat}{w:List UInt8}(hp:Y2 b bad=(n,r,e))(hq:c4 r e n=(w,r2,e2)):A1 b bad=(w,r2,e2):=by
 unfold A1;rw[hp];exact hq
end
end Go.Sx

namespace Go.Sx
open Go.Proofs
theorem JV(b:List UInt8)(bad:Bool)(hb0:b.length<=100000)(n:Nat)(hn:n<=1000000):FnB Tryz.prog gl 105 [.ptr 0 0 [],.int ((n:Nat):Int)] [(0,.var (.agg [.sl none 1 (b.map D.u8),.bool bad]))] (.sl none 1 ((c4 b bad n).1.map D.u8)) [(0,.var (.agg [.sl none 1 ((c4 b bad n).2.1.map D.u8),.bool (c4 b bad n).2.2]))] []:=by
 refine FnB.of (n:=42) (ids:=[0]) Tryz.func105 rfl rfl rfl (nU rfl) fun C hC hD=>?_;refine q9 1 (y1 4) (V2 0 1) ⟨aU<|zK (kN O) O O,Zt⟩ ?_;refine W.seq (W.seq ?_);by_cases hbd:bad=true
 ·refine z8 17 [.y 6 _,.y 7 _,.y 8 _,.y 9 _,.y 10 _,.x 11,.x 12,.y 13 _,.y 14 _,.x 15,.x 16,.x 17,.x 18,.x 19,.x 20,.x 21,.y 22 _] (V3 0 1 22) ⟨mU 0 O O,aU<|P7 O O,aU (fU 7 O O),aU (lU 8 O O O O O O O),mU 9 O O,aF O O (gT (hbd) O),aF O O (gT (hbd) O),aU<|I4 O (hbd) (kB true O) O O,mU 13 O O,aF O O (gT (O) O),aF O O (gT (O) O),aF O O (gT (O) O),aF O O (gT (O) O),aF O O (gT (O) O),aF O O (gT (O) O),aF O O (gT (O) O),aU<|I4 O (O) (kB true O) O O,Zt⟩ ?_;refine u7 O (O) ?_;refine z5 4 (y3 23 24 25) [] [] (V1 25) ⟨mU 0 O O,aU<|P7 O O,aU (fU 24 O O),Zt⟩ O O (⟨O,_,Z7 (gU 25 O) (xU 0 O) O (kB true O) (by rfl) (by rfl) (by rfl) (by rfl) O,tV [] (p6 0) 42 O O O ?_⟩);refine q9 1 (y1 4) (V1 4) ⟨aU<|zK (kN O) O O,Zt⟩ ?_;refine X5 (s:=4) 5 1 O ?_;refine YX (s:=4) (d':=.sl none 1 []) O O O ?_;refine W.ret ?_;exact u0 (.inr O) O (by rw[c4,if_pos (.inl hbd)];rfl) O Zt O O (by rw[c4,if_pos (.inl hbd)];rfl) ⟨O,Zt⟩ O
 ·refine z8 17 (u03 6 7 8 9 10 11 12 13 14 15 16 17 18 19 20 21 22) (V3 0 1 22) ⟨mU 0 O O,aU<|P7 O O,aU (fU 7 O O),aU (lU 8 O O O O O O O),mU 9 O O,aW O O (gF (by simpa using hbd) O)<|zV O O O,aW O O (gF (by simpa using hbd) O)<|KO 0 O O O,aU<|zF O (by simpa using hbd) O O O,mU 13 O O,aW O O (gF (dF bO) O)<|zV O O O,aW O O (gF (dF bO) O)<|zV O O O,aW O O (gF (dF bO) O)<|P7 O O,aW O O (gF (dF bO) O) (fU 17 O O),aW O O (gF (dF bO) O) (lU 18 O O O O O O O),aW O O (gF (dF bO) O)<|zN O (lN _) O,aW O O (gF (dF bO) O)<|zG O O O,aU<|zF O (dF bO) O O O,Zt⟩ ?_;refine z6 O (fun hc22=>?_) (fun hc22=>?_)
  ·refine z5 4 (y3 23 24 25) [] [] (V1 25) ⟨mU 0 O O,aU<|P7 O O,aU (fU 24 O O),Zt⟩ O O (⟨O,_,Z7 (gU 25 O) (xU 0 O) O (kB true O) (by rfl) (by rfl) (by rfl) (by rfl) O,tV [] (p6 0) 42 O O O ?_⟩);refine q9 1 (y1 4) (V1 4) ⟨aU<|zK (kN O) O O,Zt⟩ ?_;refine X5 (s:=4) 5 1 O ?_;refine YX (s:=4) (d':=.sl none 1 []) O O O ?_;refine W.ret ?_;exact u0 (.inr O) O (by rw[c4,if_pos (.inr hc22)];rfl) O Zt O O (by rw[c4,if_pos (.inr hc22)];rfl) ⟨O,Zt⟩ O
  ·refine W.skip (q9 7 (y7 26 27 28 29 30 31 5) (V3 0 1 5) ⟨mU 0 O O,aU<|P7 O O,aU (fU 27 O O),aU (lU 28 O O O O O O O),mU 1 O O,aU fun _ _ H K=>DV (0) (n) (n) (eU K 29 O) O (b4 (eU K 30 O)) O O bU bU O (show _=(b.take n).map D.u8 from by simp) H,aU<|zA O O O,Zt⟩ ?_);refine z5 10 (y9 32 33 34 35 36 37 38 39 40) [] [] (V3 5 38 40) ⟨mU 0 O O,mU 0 O O,aU<|P7 O O,aU (fU 34 O O),aU (lU 35 O O O O O O O),mU 1 O O,aU fun _ _ H K=>DV (n) (b.length) ((b.length-n)) (eU K 36 O) (b4 (eU K 37 O)) O O (by simp) bU bU O (show _=(b.drop n).map D.u8 from by rw[List.take_of_length_le (by simp)];simp) H,aU<|P7 O O,aU (fU 39 O O),Zt⟩ O O (d5 O O O O O (tV (V1 5) (p6 0) 42 O O O ?_));refine q9 2 (y2 41 4) (V1 4) ⟨mU 5 O O,aU<|zA O O O,Zt⟩ ?_;refine W.ret ?_;exact u0 (.inr O) O (by rw[c4,if_neg (RT hbd hc22)]) O Zt O O (by rw[c4,if_neg (RT hbd hc22),w84 hbd];rfl) ⟨O,Zt⟩ O
theorem J7(b:List UInt8)(bad:Bool)(hb0:b.length<=100000)(n:Nat)(hn:n<=1000000):FnB Tryz.prog gl 104 [.ptr 0 0 [],.int ((n:Nat):Int)] [(0,.var (.agg [.sl none 1 (b.map D.u8),.bool bad]))] (.u64 (Q2 b bad n).1) [(0,.var (.agg [.sl none 1 ((Q2 b bad n).2.1.map D.u8),.bool (Q2 b bad n).2.2]))] []:=by
 refine FnB.of (n:=27) (ids:=[0]) Tryz.func104 rfl rfl rfl (nU rfl) fun C hC hD=>?_;have hxl:=M6 b bad n;refine q9 1 (y1 4) (V2 0 1) ⟨aU<|zK (kW (.int .u64 0) (.u64 0) O) O O,Zt⟩ ?_;refine z5 4 (y2 8 9) [] [] (V2 8 9) ⟨mU 0 O O,mU 1 O O,Zt⟩ O O (⟨O,_,R.callB [(0,0)] hC (JV b bad (by first|assumption|omega) n hn) (EvB.cons (gV 8 O) O O O (EvB.cons (gV 9 O) O O O EvB.nil)) O ⟨O,Zt⟩ ⟨O,Zt⟩ O O O O O O (nU O),(P8 O O O (tV (V1 5) (p6 0) 27 O O O ?_))⟩);refine q9 1 (y1 6) (V2 5 6) ⟨aU<|zK (kW (.int .u64 0) (.u64 0) O) O O,Zt⟩ ?_;refine W.seq (q9 4 (y4 11 12 13 7) (V3 5 6 7) ⟨mU 5 O O,aU<|zN O (lN _) O,aU fun _ _ H K=>c8 (d:=.int ((((c4 b bad n).1.length:Nat):Int)-1)) (eU K 12 O) (kI 1 O) O Zt (C9 O bO bO) H,aU<|zA O O O,Zt⟩ ?_);refine W.block ?_;refine W.loop (α:={q__:Nat//q__<=(c4 b bad n).1.length}) (fun q__=>⟨27,[(5,.sl none 1 ((c4 b bad n).1.map D.u8)),(6,.u64 (AW (c4 b bad n).1 q__.1)),(7,.int ((((c4 b bad n).1.length:Nat):Int)-1-((q__.1:Nat):Int)))],[(0,.var (.agg [.sl none 1 ((c4 b bad n).2.1.map D.u8),.bool (c4 b bad n).2.2]))]⟩) (fun q__=>(c4 b bad n).1.length-q__.1) ⟨(0),bU⟩ (by simp only[Int.natCast_zero,Int.sub_zero];rfl) ?_;rintro ⟨k,hk⟩;show W _ _ _ _ ⟨27,[(5,.sl none 1 ((c4 b bad n).1.map D.u8)),(6,.u64 (AW (c4 b bad n).1 k)),(7,.int ((((c4 b bad n).1.length:Nat):Int)-1-((k:Nat):Int)))],[(0,.var (.agg [.sl none 1 ((c4 b bad n).2.1.map D.u8),.bool (c4 b bad n).2.2]))]⟩;have hk:k<=(c4 b bad n).1.length:=hk;refine W.seq (q9 2 (y2 14 15) (V4 5 6 7 15) ⟨mU 7 O O,aU<|B6 O (kI 0 O) O O,Zt⟩ ?_);refine W.cond O (fun hc15=>?_) (fun hc15=>?_)
 ·refine W.skip (W.seq (W.block ?_));have h15:=of_decide_eq_true hc15;refine z8 9 (y9 18 19 20 21 22 23 24 25 6) (V3 5 6 7) ⟨mU 6 O O,aU fun _ _ H K=>R.bin (eU K 18 O) (kW (.int .u64 8) (.u64 8) O) O bV H,mU 5 O O,mU 7 O O,aU fun _ _ H K=>R.idxN (((c4 b bad n).1.length-1-k)) (SC.sl (K 20 _ O)) (b4 (eU K 21 O)) bO bU H dU,aU<|zL O O (j5 (l:=(c4 b bad n).1) bU) O O O O O,aU<|zW O O O,aU<|zB O O O O,aU<|zA O O O,Zt⟩ ?_;refine z8 3 (y3 16 17 7) (V3 5 6 7) ⟨mU 7 O O,aU fun _ _ H K=>c8 (d:=.int ((((c4 b bad n).1.length:Nat):Int)-1-((k+1:Nat):Int))) (eU K 16 O) (kI 1 O) O Zt (C9 bO bO bO) H,aU<|zA O O O,Zt⟩ ?_;exact⟨⟨(k+1),(by have:=of_decide_eq_true hc15;omega)⟩,rfl,(by have:=of_decide_eq_true hc15;simp only[];omega)⟩
 ·have hke:k=(c4 b bad n).1.length:=by have:=of_decide_eq_false hc15;omega
  refine W.exit (q9 2 (y2 26 4) (V1 4) ⟨mU 6 O O,aU<|zA O O O,Zt⟩ ?_);refine W.ret ?_;exact u0 (.inr O) O (by rw[Q2,<- hke]) O Zt O O (O) ⟨O,Zt⟩ O
end Go.Sx

namespace Go.Sx
open Go.Proofs
theorem W3(b:List UInt8)(bad:Bool)(hb0:b.length<=100000):FnB Tryz.prog gl 107 [.ptr 0 0 []] [(0,.var (.agg [.sl none 1 (b.map D.u8),.bool bad]))] (.int (((Y2 b bad).1:Nat):Int)) [(0,.var (.agg [.sl none 1 ((Y2 b bad).2.1.map D.u8),.bool (Y2 b bad).2.2]))] []:=by
 refine FnB.of (n:=31) (ids:=[0]) Tryz.func107 rfl rfl rfl (nU rfl) fun C hC hD=>?_;refine q9 1 (y1 2) (V1 0) ⟨aU<|zK (kI 0 O) O O,Zt⟩ ?_;refine W.seq ?_
 obtain⟨x,r,e,hp⟩:∃ a_ b_ c_,Q2 b bad 1=(a_,b_,c_):=⟨_,_,_,rfl⟩
 have hpl:=J5 hp;refine u4 3 (y1 4) [] [] (V2 0 4) ⟨mU 0 O O,Zt⟩ O O (⟨O,_,R.callB [(0,0)] hC (show FnB Tryz.prog gl 104 [.ptr 0 0 [],.int ((1:Nat):Int)] [(0,.var (.agg [.sl none 1 (b.map D.u8),.bool bad]))] (.u64 x) [(0,.var (.agg [.sl none 1 (r.map D.u8),.bool e]))] [] from by have h:=J7 b bad bO 1 dU;rw[hp] at h;exact h) (EvB.cons (gV 4 O) O O O (EvB.cons (kI 1 O) O O O EvB.nil)) O ⟨O,Zt⟩ ⟨O,Zt⟩ O O O O O O (nU O),(P8 O O O (tV (V2 0 3) (p6 0) 31 O O O ?_))⟩);refine W.seq (q9 2 (y2 6 7) (V3 0 3 7) ⟨mU 3 O O,aU<|B6 O (kW (.int .u64 253) (.u64 253) O) O O,Zt⟩ ?_);refine W.cond O (fun hc7=>?_) (fun hc7=>?_)
 ·obtain⟨y,r2,e2,hq⟩:∃ a_ b_ c_,Q2 r e 2=(a_,b_,c_):=⟨_,_,_,rfl⟩
  have hql:=J5 hq;refine u4 3 (y1 8) [] [] (V3 0 3 8) ⟨mU 0 O O,Zt⟩ O O (⟨O,_,R.callB [(0,0)] hC (show FnB Tryz.prog gl 104 [.ptr 0 0 [],.int ((2:Nat):Int)] [(0,.var (.agg [.sl none 1 (r.map D.u8),.bool e]))] (.u64 y) [(0,.var (.agg [.sl none 1 (r2.map D.u8),.bool e2]))] [] from by have h:=J7 r e bO 2 dU;rw[hq] at h;exact h) (EvB.cons (gV 8 O) O O O (EvB.cons (kI 2 O) O O O EvB.nil)) O ⟨O,Zt⟩ ⟨O,Zt⟩ O O O O O O (nU O),(P8 O O O (tV (V2 0 3) (p6 0) 31 O O O ?_))⟩);refine W.seq (q9 8 (y8 18 19 20 21 22 23 24 25) (V3 0 3 25) ⟨mU 3 O O,mU 0 O O,aU<|P7 O O,aU (fU 20 O O),aU (lU 21 O O O O O O O),aU<|zN O (lN _) O,aU<|zW O O O,aU<|zB O O O O,Zt⟩ ?_);refine W.cond O (fun hc25=>?_) (fun hc25=>?_)
  ·refine z5 4 (y3 26 27 28) [] [] (V1 28) ⟨mU 0 O O,aU<|P7 O O,aU (fU 27 O O),Zt⟩ O O (⟨O,_,Z7 (gU 28 O) (xU 0 O) O (kB true O) (by rfl) (by rfl) (by rfl) (by rfl) O,tV [] (p6 0) 31 O O O ?_⟩);refine q9 1 (y1 2) (V1 2) ⟨aU<|zK (kI 0 O) O O,Zt⟩ ?_;refine W.ret ?_;exact u0 (.inr O) O (by rw[UV hp (beq_iff_eq.1 hc7) hq,O3,if_pos (of_decide_eq_true hc25)]<;>rfl) O Zt O O (by rw[UV hp (beq_iff_eq.1 hc7) hq,O3,if_pos (of_decide_eq_true hc25)]<;>rfl) ⟨O,Zt⟩ O
  ·refine W.skip (q9 3 (y3 29 30 2) (V1 2) ⟨mU 3 O O,aU fun _ _ H K=>Q5 (d:=.int ((_:Nat):Int)) (eU K 29 O) O (PP (of_decide_eq_false hc25) bO) H,aU<|zA O O O,Zt⟩ ?_);refine W.ret ?_;exact u0 (.inr O) O (by rw[UV hp (beq_iff_eq.1 hc7) hq,O3,if_neg (of_decide_eq_false hc25)]<;>rfl) O Zt O O (by rw[UV hp (beq_iff_eq.1 hc7) hq,O3,if_neg (of_decide_eq_false hc25)]<;>rfl) ⟨O,Zt⟩ O
 ·refine q9 2 (y2 10 11) (V3 0 3 11) ⟨mU 3 O O,aU<|B6 O (kW (.int .u64 254) (.u64 254) O) O O,Zt⟩ ?_;refine W.cond O (fun hc11=>?_) (fun hc11=>?_)
  ·obtain⟨y,r2,e2,hq⟩:∃ a_ b_ c_,Q2 r e 4=(a_,b_,c_):=⟨_,_,_,rfl⟩
   have hql:=J5 hq;refine u4 3 (y1 12) [] [] (V3 0 3 12) ⟨mU 0 O O,Zt⟩ O O (⟨O,_,R.callB [(0,0)] hC (show FnB Tryz.prog gl 104 [.ptr 0 0 [],.int ((4:Nat):Int)] [(0,.var (.agg [.sl none 1 (r.map D.u8),.bool e]))] (.u64 y) [(0,.var (.agg [.sl none 1 (r2.map D.u8),.bool e2]))] [] from by have h:=J7 r e bO 4 dU;rw[hq] at h;exact h) (EvB.cons (gV 12 O) O O O (EvB.cons (kI 4 O) O O O EvB.nil)) O ⟨O,Zt⟩ ⟨O,Zt⟩ O O O O O O (nU O),(P8 O O O (tV (V2 0 3) (p6 0) 31 O O O ?_))⟩);refine W.seq (q9 8 (y8 18 19 20 21 22 23 24 25) (V3 0 3 25) ⟨mU 3 O O,mU 0 O O,aU<|P7 O O,aU (fU 20 O O),aU (lU 21 O O O O O O O),aU<|zN O (lN _) O,aU<|zW O O O,aU<|zB O O O O,Zt⟩ ?_);refine W.cond O (fun hc25=>?_) (fun hc25=>?_)
   ·refine z5 4 (y3 26 27 28) [] [] (V1 28) ⟨mU 0 O O,aU<|P7 O O,aU (fU 27 O O),Zt⟩ O O (⟨O,_,Z7 (gU 28 O) (xU 0 O) O (kB true O) (by rfl) (by rfl) (by rfl) (by rfl) O,tV [] (p6 0) 31 O O O ?_⟩);refine q9 1 (y1 2) (V1 2) ⟨aU<|zK (kI 0 O) O O,Zt⟩ ?_;refine W.ret ?_;exact u0 (.inr O) O (by rw[UT hp (beq_eq_false_iff_ne.1 hc7) (beq_iff_eq.1 hc11) hq,O3,if_pos (of_decide_eq_true hc25)]<;>rfl) O Zt O O (by rw[UT hp (beq_eq_false_iff_ne.1 hc7) (beq_iff_eq.1 hc11) hq,O3,if_pos (of_decide_eq_true hc25)]<;>rfl) ⟨O,Zt⟩ O
   ·refine W.skip (q9 3 (y3 29 30 2) (V1 2) ⟨mU 3 O O,aU fun _ _ H K=>Q5 (d:=.int ((_:Nat):Int)) (eU K 29 O) O (PP (of_decide_eq_false hc25) bO) H,aU<|zA O O O,Zt⟩ ?_);refine W.ret ?_;exact u0 (.inr O) O (by rw[UT hp (beq_eq_false_iff_ne.1 hc7) (beq_iff_eq.1 hc11) hq,O3,if_neg (of_decide_eq_false hc25)]<;>rfl) O Zt O O (by rw[UT hp (beq_eq_false_iff_ne.1 hc7) (beq_iff_eq.1 hc11) hq,O3,if_neg (of_decide_eq_false hc25)]<;>rfl) ⟨O,Zt⟩ O
  ·refine q9 2 (y2 14 15) (V3 0 3 15) ⟨mU 3 O O,aU<|B6 O (kW (.int .u64 255) (.u64 255) O) O O,Zt⟩ ?_;refine W.cond O (fun hc15=>?_) (fun hc15=>?_)
   ·obtain⟨y,r2,e2,hq⟩:∃ a_ b_ c_,Q2 r e 8=(a_,b_,c_):=⟨_,_,_,rfl⟩
    have hql:=J5 hq;refine u4 3 (y1 16) [] [] (V3 0 3 16) ⟨mU 0 O O,Zt⟩ O O (⟨O,_,R.callB [(0,0)] hC (show FnB Tryz.prog gl 104 [.ptr 0 0 [],.int ((8:Nat):Int)] [(0,.var (.agg [.sl none 1 (r.map D.u8),.bool e]))] (.u64 y) [(0,.var (.agg [.sl none 1 (r2.map D.u8),.bool e2]))] [] from by have h:=J7 r e bO 8 dU;rw[hq] at h;exact h) (EvB.cons (gV 16 O) O O O (EvB.cons (kI 8 O) O O O EvB.nil)) O ⟨O,Zt⟩ ⟨O,Zt⟩ O O O O O O (nU O),(P8 O O O (tV (V2 0 3) (p6 0) 31 O O O ?_))⟩);refine W.seq (q9 8 (y8 18 19 20 21 22 23 24 25) (V3 0 3 25) ⟨mU 3 O O,mU 0 O O,aU<|P7 O O,aU (fU 20 O O),aU (lU 21 O O O O O O O),aU<|zN O (lN _) O,aU<|zW O O O,aU<|zB O O O O,Zt⟩ ?_);refine W.cond O (fun hc25=>?_) (fun hc25=>?_)
    ·refine z5 4 (y3 26 27 28) [] [] (V1 28) ⟨mU 0 O O,aU<|P7 O O,aU (fU 27 O O),Zt⟩ O O (⟨O,_,Z7 (gU 28 O) (xU 0 O) O (kB true O) (by rfl) (by rfl) (by rfl) (by rfl) O,tV [] (p6 0) 31 O O O ?_⟩);refine q9 1 (y1 2) (V1 2) ⟨aU<|zK (kI 0 O) O O,Zt⟩ ?_;refine W.ret ?_;exact u0 (.inr O) O (by rw[US hp (beq_eq_false_iff_ne.1 hc7) (beq_eq_false_iff_ne.1 hc11) (beq_iff_eq.1 hc15) hq,O3,if_pos (of_decide_eq_true hc25)]<;>rfl) O Zt O O (by rw[US hp (beq_eq_false_iff_ne.1 hc7) (beq_eq_false_iff_ne.1 hc11) (beq_iff_eq.1 hc15) hq,O3,if_pos (of_decide_eq_true hc25)]<;>rfl) ⟨O,Zt⟩ O
    ·refine W.skip (q9 3 (y3 29 30 2) (V1 2) ⟨mU 3 O O,aU fun _ _ H K=>Q5 (d:=.int ((_:Nat):Int)) (eU K 29 O) O (PP (of_decide_eq_false hc25) bO) H,aU<|zA O O O,Zt⟩ ?_);refine W.ret ?_;exact u0 (.inr O) O (by rw[US hp (beq_eq_false_iff_ne.1 hc7) (beq_eq_false_iff_ne.1 hc11) (beq_iff_eq.1 hc15) hq,O3,if_neg (of_decide_eq_false hc25)]<;>rfl) O Zt O O (by rw[US hp (beq_eq_false_iff_ne.1 hc7) (beq_eq_false_iff_ne.1 hc11) (beq_iff_eq.1 hc15) hq,O3,if_neg (of_decide_eq_false hc25)]<;>rfl) ⟨O,Zt⟩ O
   ·refine W.skip (W.seq (q9 8 (y8 18 19 20 21 22 23 24 25) (V3 0 3 25) ⟨mU 3 O O,mU 0 O O,aU<|P7 O O,aU (fU 20 O O),aU (lU 21 O O O O O O O),aU<|zN O (lN _) O,aU<|zW O O O,aU<|zB O O O O,Zt⟩ ?_));refine W.cond O (fun hc25=>?_) (fun hc25=>?_)
    ·refine z5 4 (y3 26 27 28) [] [] (V1 28) ⟨mU 0 O O,aU<|P7 O O,aU (fU 27 O O),Zt⟩ O O (⟨O,_,Z7 (gU 28 O) (xU 0 O) O (kB true O) (by rfl) (by rfl) (by rfl) (by rfl) O,tV [] (p6 0) 31 O O O ?_⟩);refine q9 1 (y1 2) (V1 2) ⟨aU<|zK (kI 0 O) O O,Zt⟩ ?_;refine W.ret ?_;exact u0 (.inr O) O (by rw[q24 hp (beq_eq_false_iff_ne.1 hc7) (beq_eq_false_iff_ne.1 hc11) (beq_eq_false_iff_ne.1 hc15),O3,if_pos (of_decide_eq_true hc25)]<;>rfl) O Zt O O (by rw[q24 hp (beq_eq_false_iff_ne.1 hc7) (beq_eq_false_iff_ne.1 hc11) (beq_eq_false_iff_ne.1 hc15),O3,if_pos (of_decide_eq_true hc25)]<;>rfl) ⟨O,Zt⟩ O
    ·refine W.skip (q9 3 (y3 29 30 2) (V1 2) ⟨mU 3 O O,aU fun _ _ H K=>Q5 (d:=.int ((_:Nat):Int)) (eU K 29 O) O (PP (of_decide_eq_false hc25) bO) H,aU<|zA O O O,Zt⟩ ?_);refine W.ret ?_;exact u0 (.inr O) O (by rw[q24 hp (beq_eq_false_iff_ne.1 hc7) (beq_eq_false_iff_ne.1 hc11) (beq_eq_false_iff_ne.1 hc15),O3,if_neg (of_decide_eq_false hc25)]<;>rfl) O Zt O O (by rw[q24 hp (beq_eq_false_iff_ne.1 hc7) (beq_eq_false_iff_ne.1 hc11) (beq_eq_false_iff_ne.1 hc15),O3,if_neg (of_decide_eq_false hc25)]<;>rfl) ⟨O,Zt⟩ O
theorem JW(b:List UInt8)(bad:Bool)(hb0:b.length<=100000):FnB Tryz.prog gl 108 [.ptr 0 0 []] [(0,.var (.agg [.sl none 1 (b.map D.u8),.bool bad]))] (.sl (some 5) 1 ((A1 b bad).1.map D.u8)) [(0,.var (.agg [.sl none 1 ((A1 b bad).2.1.map D.u8),.bool (A1 b bad).2.2]))] []:=by
 refine FnB.of (n:=10) (ids:=[0]) Tryz.func108 rfl rfl rfl (nU rfl) fun C hC hD=>?_;refine q9 1 (y1 2) (V1 0) ⟨aU<|zK (kN O) O O,Zt⟩ ?_;refine W.seq ?_
 obtain⟨n,r,e,hp⟩:∃ a_ b_ c_,Y2 b bad=(a_,b_,c_):=⟨_,_,_,rfl⟩
 have hpl:=A5 hb0 hp;refine u4 3 (y1 4) [] [] (V2 0 4) ⟨mU 0 O O,Zt⟩ O O (⟨O,_,R.callB [(0,0)] hC (show FnB Tryz.prog gl 107 [.ptr 0 0 []] [(0,.var (.agg [.sl none 1 (b.map D.u8),.bool bad]))] (.int ((n:Nat):Int)) [(0,.var (.agg [.sl none 1 (r.map D.u8),.bool e]))] [] from by have h:=W3 b bad hb0;rw[hp] at h;exact h) (EvB.cons (gV 4 O) O O O EvB.nil) O ⟨O,Zt⟩ ⟨O,Zt⟩ O O O O O O (nU O),(P8 O O O (tV (V2 0 3) (p6 0) 10 O O O ?_))⟩);refine W.seq ?_
 obtain⟨x,r2,e2,hq⟩:∃ a_ b_ c_,c4 r e n=(a_,b_,c_):=⟨_,_,_,rfl⟩
 have hql:=M6 r e n;rw[hq] at hql;simp only[] at hql;refine u4 5 (y2 6 7) [] [] (V2 6 7) ⟨mU 0 O O,mU 3 O O,Zt⟩ O O (⟨O,_,R.callB [(0,0)] hC (show FnB Tryz.prog gl 105 [.ptr 0 0 [],.int ((n:Nat):Int)] [(0,.var (.agg [.sl none 1 (r.map D.u8),.bool e]))] (.sl none 1 (x.map D.u8)) [(0,.var (.agg [.sl none 1 (r2.map D.u8),.bool e2]))] [] from by have h:=JV r e bO n bO;rw[hq] at h;exact h) (EvB.cons (gV 6 O) O O O (EvB.cons (gV 7 O) O O O EvB.nil)) O ⟨O,Zt⟩ ⟨O,Zt⟩ O O O O O O (nU O),⟨O,_,R.appN (kN O) (SrcO.sc (SC.sl (gU 8 O)) (c6 (fun _=>rfl))) bU (nU O) dU,⟨O,_,R.asgO (gU 9 O) O (nU O) dU,tV (V1 2) (p6 0) 10 O O O ?_⟩⟩⟩);refine W.ret ?_;exact u0 (.inr O) O (by rw[z67 hp hq]<;>rfl) O Zt O O (by rw[z67 hp hq]<;>rfl) ⟨O,Zt⟩ O
end Go.Sx

namespace Go.Sx
open Go.Proofs
end Go.Sx

namespace Go.Sx
open Go.Proofs
theorem Y9{α:Type}[BEq α][LawfulBEq α]{a b:α}(h:a≠b):(!(a==b))=true:=by rw[beq_eq_false_iff_ne.2 h];rfl
theorem n5{α:Type}[BEq α][LawfulBEq α]{a b:α}(h:¬ a≠b):(!(a==b))=false:=by
 have:a=b:=Classical.byContradiction h;subst this;simp
theorem DN(a b:List (List UInt8)):k45 w55 a b=(a==b):=by
 by_cases h:a.length=b.length
 ·cases he:(a==b) with
  | true=>
   have:=eq_of_beq he;subst this
   exact k02 rfl fun j _=>by simp[w55]
  | false=>
   have hne:a≠b:=by simpa using he
   have:∃ i,i<a.length/\a[i]!≠b[i]!:=by
    apply Classical.byContradiction;intro hn;apply hne;refine List.ext_getElem h fun i h1 h2=>?_;have h3:a[i]! = b[i]!:=Classical.byContradiction fun h3=>hn ⟨i,h1,h3⟩
    rwa [getElem!_pos a i h1,getElem!_pos b i h2] at h3
   obtain⟨i,hi,hx⟩:=this;exact LE h hi (by simpa [w55] using hx)
 ·rw[LF h,j75 h]
theorem w08{t u:TxS}(h:t.ver≠u.ver):E4 t u=false:=by simp[E4,h]
theorem w07{t u:TxS}(h:t.lock≠u.lock):E4 t u=false:=by simp[E4,h]
theorem w06{t u:TxS}(h:t.ins.length≠u.ins.length):E4 t u=false:=by simp[E4,LF h]
theorem w05{t u:TxS}(h:t.outs.length≠u.outs.length):E4 t u=false:=by simp[E4,LF h]
theorem SK{t u:TxS}{i:Nat}(h:t.ins.length=u.ins.length)(hi:i<t.ins.length)(he:ZQ t.ins[i]! u.ins[i]! = false):E4 t u=false:=by simp[E4,LE h hi he]
theorem j62{t u:TxS}{i:Nat}(h:t.outs.length=u.outs.length)(hi:i<t.outs.length)(he:r9 t.outs[i]! u.outs[i]! = false):E4 t u=false:=by simp[E4,LE h hi he]
theorem w04{t u:TxS}(h1:t.ver=u.ver)(h2:t.lock=u.lock)(h3:t.ins.length=u.ins.length)(h4:t.outs.length=u.outs.length)(h5:∀ j<t.ins.length,ZQ t.ins[j]! u.ins[j]! = true)(h6:∀ j<t.outs.length,r9 t.outs[j]! u.outs[j]! = true):E4 t u=true:=by
 simp[E4,h1,h2,k02 h3 h5,k02 h4 h6]
theorem w42{x y:InS}(h:plc x≠plc y):ZQ x y=false:=by simp[ZQ,h]
theorem w41{x y:InS}(h:x.script≠y.script):ZQ x y=false:=by simp[ZQ,h]
theorem w40{x y:InS}(h:x.seq≠y.seq):ZQ x y=false:=by simp[ZQ,h]
theorem w39{x y:InS}(h:(!(x.wit==y.wit))=true):ZQ x y=false:=by simp[ZQ,DN,q02 h]
theorem w87{x y:InS}(h1:¬ plc x≠plc y)(h2:¬ x.script≠y.script)(h3:¬ x.seq≠y.seq)(h4:(!(x.wit==y.wit))=false):ZQ x y=true:=by
 have h1':plc x=plc y:=Classical.byContradiction h1;have h2':x.script=y.script:=Classical.byContradiction h2;have h3':x.seq=y.seq:=Classical.byContradiction h3;simp[ZQ,DN,IL h4,h1',h2',h3']
theorem w37{x y:OutS}(h:x.value≠y.value):r9 x y=false:=by simp[r9,h]
theorem w36{x y:OutS}(h:(x.script != y.script)=true):r9 x y=false:=by simp[r9];intro _;simpa using h
theorem w85{x y:OutS}(h1:¬ x.value≠y.value)(h2:(x.script != y.script)=false):r9 x y=true:=by
 have h1':x.value=y.value:=Classical.byContradiction h1;simp only[r9,h1',beq_self_eq_true,Bool.true_and];simpa using h2
theorem j78{P:Nat->Prop}{i:Nat}(h:∀ j<i,P j)(hi:P i):∀ j<i+1,P j:=fun j hj=>by
 rcases Nat.lt_succ_iff_lt_or_eq.1 hj with h1|h1
 ·exact h j h1
 ·rw[h1];exact hi
theorem I2(l:List UInt8):(b5 l).brw=b5 l:=by simp only[b5,D.brw,j7];rw[j2 (fun _=>rfl)]
theorem GF(x:InS):(K4 x).brw=K4 x:=by
 simp only[K4,D.brw,j7,List.map_cons,List.map_nil];rw[j2 (fun b=>I2 b)];simp only[I2,D8]
theorem O7(x:InS):(G6 x).brw=G6 x:=by
 simp only[G6,D.brw,j7,List.map_cons,List.map_nil,I2,D8]
theorem Y3(x:OutS):(j9 x).brw=j9 x:=by
 simp only[j9,D.brw,j7,List.map_cons,List.map_nil,I2]
end Go.Sx

namespace Go.Sx
open Go.Proofs
theorem q90(t u:TxS)(hwf:t.wf)(huf:u.wf):Fn Tryz.prog gl 10 [D1 t,D1 u] (.bool (E4 t u)):=by
 refine Fn.of (n:=122) Tryz.func10 rfl rfl rfl (nU rfl) fun C hC hD=>?_;have h1:=hwf.ins;have h2:=hwf.outs;have g1:=huf.ins;have g2:=huf.outs;refine z5 3 [] [] [] (V2 0 1) Zt O O (⟨O,_,R.box (gV 0 O) O O (nU O),⟨O,_,R.box (gV 1 O) O O (nU O),⟨O,_,j4 (kB false O) O (nU O),tV (V2 2 3) (p7 3 2) 122 O O O ?_⟩⟩⟩);refine W.seq (W.seq ?_);by_cases k1:t.ver≠u.ver
 ·refine z8 30 (.y 9 _::.y 10 _::.y 11 _::.y 12 _::.y 13 _::.y 14 _::.x 15::.x 16::.x 17::.x 18::.x 19::.y 20 _::.y 21 _::.x 22::.x 23::.x 24::.x 25::.x 26::.x 27::.x 28::.y 29 _::.y 30 _::.x 31::.x 32::.x 33::.x 34::.x 35::.x 36::.x 37::.y 38 _::[]) (V3 2 3 38) ⟨aU (fU 2 O O),aU (lU 9 O O O O O O O),aU (fU 3 O O),aU (lU 11 O O O O O O O),aU<|zB O O O O,mU 13 O O,aF O O (gT (by simp[k1]) O),aF O O (gT (by simp[k1]) O),aF O O (gT (by simp[k1]) O),aF O O (gT (by simp[k1]) O),aF O O (gT (by simp[k1]) O),aU<|I4 O (by simp[k1]) (kB true O) O O,mU 20 O O,aF O O (gT (O) O),aF O O (gT (O) O),aF O O (gT (O) O),aF O O (gT (O) O),aF O O (gT (O) O),aF O O (gT (O) O),aF O O (gT (O) O),aU<|I4 O (O) (kB true O) O O,mU 29 O O,aF O O (gT (O) O),aF O O (gT (O) O),aF O O (gT (O) O),aF O O (gT (O) O),aF O O (gT (O) O),aF O O (gT (O) O),aF O O (gT (O) O),aU<|I4 O (O) (kB true O) O O,Zt⟩ ?_;refine u7 O (O) ?_;refine q9 1 (y1 4) (V1 4) ⟨aU<|zK (kB false O) O O,Zt⟩ ?_;refine W.ret ?_;exact q8 (.inr O) O (by rw[w08 k1]) O O Zt
 ·by_cases k2:t.lock≠u.lock
  ·refine z8 30 (.y 9 _::.y 10 _::.y 11 _::.y 12 _::.y 13 _::.y 14 _::.y 15 _::.y 16 _::.y 17 _::.y 18 _::.y 19 _::.y 20 _::.y 21 _::.x 22::.x 23::.x 24::.x 25::.x 26::.x 27::.x 28::.y 29 _::.y 30 _::.x 31::.x 32::.x 33::.x 34::.x 35::.x 36::.x 37::.y 38 _::[]) (V3 2 3 38) ⟨aU (fU 2 O O),aU (lU 9 O O O O O O O),aU (fU 3 O O),aU (lU 11 O O O O O O O),aU<|zB O O O O,mU 13 O O,aW O O (gF (by simpa using k1) O) (fU 2 O O),aW O O (gF (by simpa using k1) O) (lU 15 O O O O O O O),aW O O (gF (by simpa using k1) O) (fU 3 O O),aW O O (gF (by simpa using k1) O) (lU 17 O O O O O O O),aW O O (gF (by simpa using k1) O)<|zB O O O O,aU<|zF O (by simpa using k1) O O O,mU 20 O O,aF O O (gT (by simp[k2]) O),aF O O (gT (by simp[k2]) O),aF O O (gT (by simp[k2]) O),aF O O (gT (by simp[k2]) O),aF O O (gT (by simp[k2]) O),aF O O (gT (by simp[k2]) O),aF O O (gT (by simp[k2]) O),aU<|I4 O (by simp[k2]) (kB true O) O O,mU 29 O O,aF O O (gT (O) O),aF O O (gT (O) O),aF O O (gT (O) O),aF O O (gT (O) O),aF O O (gT (O) O),aF O O (gT (O) O),aF O O (gT (O) O),aU<|I4 O (O) (kB true O) O O,Zt⟩ ?_;refine u7 O (O) ?_;refine q9 1 (y1 4) (V1 4) ⟨aU<|zK (kB false O) O O,Zt⟩ ?_;refine W.ret ?_;exact q8 (.inr O) O (by rw[w07 k2]) O O Zt
  ·by_cases k3:t.ins.length≠u.ins.length
   ·refine z8 30 (.y 9 _::.y 10 _::.y 11 _::.y 12 _::.y 13 _::.y 14 _::.y 15 _::.y 16 _::.y 17 _::.y 18 _::.y 19 _::.y 20 _::.y 21 _::.y 22 _::.y 23 _::.y 24 _::.y 25 _::.y 26 _::.y 27 _::.y 28 _::.y 29 _::.y 30 _::.x 31::.x 32::.x 33::.x 34::.x 35::.x 36::.x 37::.y 38 _::[]) (V3 2 3 38) ⟨aU (fU 2 O O),aU (lU 9 O O O O O O O),aU (fU 3 O O),aU (lU 11 O O O O O O O),aU<|zB O O O O,mU 13 O O,aW O O (gF (by simpa using k1) O) (fU 2 O O),aW O O (gF (by simpa using k1) O) (lU 15 O O O O O O O),aW O O (gF (by simpa using k1) O) (fU 3 O O),aW O O (gF (by simpa using k1) O) (lU 17 O O O O O O O),aW O O (gF (by simpa using k1) O)<|zB O O O O,aU<|zF O (by simpa using k1) O O O,mU 20 O O,aW O O (gF (by simpa using k2) O) (fU 2 O O),aW O O (gF (by simpa using k2) O) (lU 22 O O O O O O O),aW O O (gF (by simpa using k2) O)<|zN O (lN _) O,aW O O (gF (by simpa using k2) O) (fU 3 O O),aW O O (gF (by simpa using k2) O) (lU 25 O O O O O O O),aW O O (gF (by simpa using k2) O)<|zN O (lN _) O,aW O O (gF (by simpa using k2) O)<|x86 O O O,aU<|zF O (by simpa using k2) O O O,mU 29 O O,aF O O (gT (by simp[k3]) O),aF O O (gT (by simp[k3]) O),aF O O (gT (by simp[k3]) O),aF O O (gT (by simp[k3]) O),aF O O (gT (by simp[k3]) O),aF O O (gT (by simp[k3]) O),aF O O (gT (by simp[k3]) O),aU<|I4 O (by simp[k3]) (kB true O) O O,Zt⟩ ?_;refine u7 O (O) ?_;refine q9 1 (y1 4) (V1 4) ⟨aU<|zK (kB false O) O O,Zt⟩ ?_;refine W.ret ?_;exact q8 (.inr O) O (by rw[w06 k3]) O O Zt
   ·refine z8 30 (.y 9 _::.y 10 _::.y 11 _::.y 12 _::.y 13 _::.y 14 _::.y 15 _::.y 16 _::.y 17 _::.y 18 _::.y 19 _::.y 20 _::.y 21 _::.y 22 _::.y 23 _::.y 24 _::.y 25 _::.y 26 _::.y 27 _::.y 28 _::.y 29 _::.y 30 _::.y 31 _::.y 32 _::.y 33 _::.y 34 _::.y 35 _::.y 36 _::.y 37 _::.y 38 _::[]) (V3 2 3 38) ⟨aU (fU 2 O O),aU (lU 9 O O O O O O O),aU (fU 3 O O),aU (lU 11 O O O O O O O),aU<|zB O O O O,mU 13 O O,aW O O (gF (by simpa using k1) O) (fU 2 O O),aW O O (gF (by simpa using k1) O) (lU 15 O O O O O O O),aW O O (gF (by simpa using k1) O) (fU 3 O O),aW O O (gF (by simpa using k1) O) (lU 17 O O O O O O O),aW O O (gF (by simpa using k1) O)<|zB O O O O,aU<|zF O (by simpa using k1) O O O,mU 20 O O,aW O O (gF (by simpa using k2) O) (fU 2 O O),aW O O (gF (by simpa using k2) O) (lU 22 O O O O O O O),aW O O (gF (by simpa using k2) O)<|zN O (lN _) O,aW O O (gF (by simpa using k2) O) (fU 3 O O),aW O O (gF (by simpa using k2) O) (lU 25 O O O O O O O),aW O O (gF (by simpa using k2) O)<|zN O (lN _) O,aW O O (gF (by simpa using k2) O)<|x86 O O O,aU<|zF O (by simpa using k2) O O O,mU 29 O O,aW O O (gF (by simpa using k3) O) (fU 2 O O),aW O O (gF (by simpa using k3) O) (lU 31 O O O O O O O),aW O O (gF (by simpa using k3) O)<|zN O (lN _) O,aW O O (gF (by simpa using k3) O) (fU 3 O O),aW O O (gF (by simpa using k3) O) (lU 34 O O O O O O O),aW O O (gF (by simpa using k3) O)<|zN O (lN _) O,aW O O (gF (by simpa using k3) O)<|x86 O O O,aU<|zF O (by simpa using k3) O O O,Zt⟩ ?_;refine z6 O (fun hc38=>?_) (fun hc38=>?_)
    ·refine q9 1 (y1 4) (V1 4) ⟨aU<|zK (kB false O) O O,Zt⟩ ?_;refine W.ret ?_;exact q8 (.inr O) O (by rw[w05 hc38]) O O Zt
    ·refine W.skip (W.seq (q9 1 (y1 5) (V3 2 3 5) ⟨aU<|zK (kI 0 O) O O,Zt⟩ ?_));refine W.block ?_;refine W.loop (α:={q__:Nat//q__<=t.ins.length/\∀ j<q__,ZQ t.ins[j]! u.ins[j]! = true}) (fun q__=>⟨122,[(2,.ptr 2 0 []),(3,.ptr 3 0 []),(5,.int ((q__.1:Nat):Int))],[(3,.var (.agg [.u32 u.ver,.sl none 36 (u.ins.map K4),.sl none 2 (u.outs.map j9),.u32 u.lock])),(2,.var (.agg [.u32 t.ver,.sl none 36 (t.ins.map K4),.sl none 2 (t.outs.map j9),.u32 t.lock]))]⟩) (fun q__=>t.ins.length-q__.1) ⟨(0),⟨Nat.zero_le _,fun j h=>absurd h (Nat.not_lt_zero _)⟩⟩ O ?_;rintro ⟨i,⟨hi,hp⟩⟩;show W _ _ _ _ ⟨122,[(2,.ptr 2 0 []),(3,.ptr 3 0 []),(5,.int ((i:Nat):Int))],[(3,.var (.agg [.u32 u.ver,.sl none 36 (u.ins.map K4),.sl none 2 (u.outs.map j9),.u32 u.lock])),(2,.var (.agg [.u32 t.ver,.sl none 36 (t.ins.map K4),.sl none 2 (t.outs.map j9),.u32 t.lock]))]⟩;have hi:i<=t.ins.length:=hi;have hp:∀ j<i,ZQ t.ins[j]! u.ins[j]! = true:=hp;have hl:t.ins.length=u.ins.length:=Classical.byContradiction k3;have hol:t.outs.length=u.outs.length:=Classical.byContradiction hc38;refine W.seq (q9 5 (y5 39 40 41 42 43) (V4 2 3 5 43) ⟨mU 5 O O,aU (fU 2 O O),aU (lU 40 O O O O O O O),aU<|zN O (lN _) O,aU<|zS O O O,Zt⟩ ?_);refine z6 O (fun hc43=>?_) (fun hc43=>?_)
     ·refine W.skip (W.seq (W.block (W.seq ?_)));refine U9 (m:=13) (an:=[0,1,0,7,15,0,32,0,224,480,0,0,3103,8191]) (its:=[.y 46 _,.y 47 _,.y 48 _,.y 49 _,.y 50 _,.y 51 _,.y 52 _,.y 53 _,.y 54 _,.y 55 _,.y 6 _,.y 7 _,⟨134,.dead,true⟩]) (ks:=[(12,134)]) (kk:=[]) (efs:=[(10,(p6 6)),(11,(p6 7)),(12,(p6 6))]) (live:=[2,3,5,6,7,55]) (env':=(V6 2 3 5 6 7 55)) (nd:=40) (bx1:=(T6 6 7 3 2)) hP dU O ⟨⟨141,O⟩,nU O,O,O,O,O⟩ (                ⟨⟨O,nU O,O,fun _ τ hb ht hτ=>R.fdP (hτ 2 _ O) ht⟩,⟨⟨O,nU O,O,fun _ τ hb ht hτ=>R.ldP (hτ 46 _ O) (hb 2 _ O) O O O O ht⟩,⟨⟨O,nU O,O,fun _ τ hb ht hτ=>R.mov (evt (hτ 5 _ O)) O ht⟩,⟨⟨O,nU O,O,fun _ τ hb ht hτ=>R.idxN (i) (SC.sl (hτ 47 _ O)) (b4 (evt (hτ 48 _ O))) O bU ht dU⟩,⟨⟨O,nU O,O,fun _ τ hb ht hτ=>R.ldE (hτ 49 _ O) (SC.sl (hτ 47 _ O)) (mG t.ins) O O O O ht⟩,⟨⟨O,nU O,O,fun _ τ hb ht hτ=>R.fdP (hτ 3 _ O) ht⟩,⟨⟨O,nU O,O,fun _ τ hb ht hτ=>R.ldP (hτ 51 _ O) (hb 3 _ O) O O O O ht⟩,⟨⟨O,nU O,O,fun _ τ hb ht hτ=>R.mov (evt (hτ 5 _ O)) O ht⟩,⟨⟨O,nU O,O,fun _ τ hb ht hτ=>R.idxN (i) (SC.sl (hτ 52 _ O)) (b4 (evt (hτ 53 _ O))) O bU ht dU⟩,⟨⟨O,nU O,O,fun _ τ hb ht hτ=>R.ldE (hτ 54 _ O) (SC.sl (hτ 52 _ O)) (mG u.ins) O O O O ht⟩,⟨⟨O,O,⟨O,nU O⟩,(SpE.alloc O (nU O))⟩,⟨⟨O,O,⟨O,nU O⟩,(SpE.alloc O (nU O))⟩,⟨⟨O,O,O,(JD (p:=6) (id:=6) O O O (fun τ hτ=>(evt (hτ 50 _ O))) (by rfl) (by rfl) (by rfl) (by rfl) O)⟩,Zt⟩⟩⟩⟩⟩⟩⟩⟩⟩⟩⟩⟩⟩) O O O (n':=122) O (d5 O O O O O ⟨[2,3,5,6,7],(V5 2 3 5 6 7),(T6 6 7 3 2),122,O,O,O, ?_⟩);refine W.seq ?_;by_cases e1:plc t.ins[i]!≠plc u.ins[i]!
      ·refine z8 29 (.y 56 _::.y 57 _::.y 58 _::.y 59 _::.y 60 _::.y 61 _::.x 62::.x 63::.x 64::.x 65::.x 66::.x 67::.x 68::.y 69 _::.y 70 _::.x 71::.x 72::.x 73::.x 74::.x 75::.y 76 _::.y 77 _::.x 78::.x 79::.x 80::.x 81::.x 82::.x 83::.y 84 _::[]) (V4 2 3 5 84) ⟨aU (fU 6 O O),aU (lU 56 O O O O O O O),aU (fU 7 O O),aU (lU 58 O O O O O O O),aU fun _ _ H K=>R.eqD (neg:=true) (b':=(!(plc t.ins[i]! == plc u.ins[i]!))) (X9 (plc t.ins[i]!) (plc u.ins[i]!)) O (eU K 57 O) (eU K 59 O) O O O O (O) H,mU 60 O O,aF O O (gT (Y9 e1) O),aF O O (gT (Y9 e1) O),aF O O (gT (Y9 e1) O),aF O O (gT (Y9 e1) O),aF O O (gT (Y9 e1) O),aF O O (gT (Y9 e1) O),aF O O (gT (Y9 e1) O),aU<|I4 O (Y9 e1) (kB true O) O O,mU 69 O O,aF O O (gT (O) O),aF O O (gT (O) O),aF O O (gT (O) O),aF O O (gT (O) O),aF O O (gT (O) O),aU<|I4 O (O) (kB true O) O O,mU 76 O O,aF O O (gT (O) O),aF O O (gT (O) O),aF O O (gT (O) O),aF O O (gT (O) O),aF O O (gT (O) O),aF O O (gT (O) O),aU<|I4 O (O) (kB true O) O O,Zt⟩ ?_;refine u7 O (O) ?_;refine W.seq ?_;refine b7 [2,3] (bx':=(p7 3 2)) O O O (g7 hD O) ?_;refine z8 1 (y1 4) (V1 4) ⟨aU<|zK (kB false O) O O,Zt⟩ ?_;refine W.ret ?_;exact q8 (.inr O) O (by rw[SK hl bO (w42 e1)]) O O Zt
      ·by_cases e2:t.ins[i]!.script≠u.ins[i]!.script
       ·refine z8 29 (.y 56 _::.y 57 _::.y 58 _::.y 59 _::.y 60 _::.y 61 _::.y 62 _::.y 63 _::.y 64 _::.y 65 _::.y 66 _::.y 67 _::.y 68 _::.y 69 _::.y 70 _::.x 71::.x 72::.x 73::.x 74::.x 75::.y 76 _::.y 77 _::.x 78::.x 79::.x 80::.x 81::.x 82::.x 83::.y 84 _::[]) (V4 2 3 5 84) ⟨aU (fU 6 O O),aU (lU 56 O O O O O O O),aU (fU 7 O O),aU (lU 58 O O O O O O O),aU fun _ _ H K=>R.eqD (neg:=true) (b':=(!(plc t.ins[i]! == plc u.ins[i]!))) (X9 (plc t.ins[i]!) (plc u.ins[i]!)) O (eU K 57 O) (eU K 59 O) O O O O (O) H,mU 60 O O,aW O O (gF (n5 e1) O) (fU 6 O O),aW O O (gF (n5 e1) O) (lU 62 O O O O O O O),aW O O (gF (n5 e1) O) fun _ _ H K=>R.cvS (xs:=t.ins[i]!.script) (SC.sl (K 63 _ O)) H,aW O O (gF (n5 e1) O) (fU 7 O O),aW O O (gF (n5 e1) O) (lU 65 O O O O O O O),aW O O (gF (n5 e1) O) fun _ _ H K=>R.cvS (xs:=u.ins[i]!.script) (SC.sl (K 66 _ O)) H,aW O O (gF (n5 e1) O)<|zB O O O O,aU<|zF O (n5 e1) O O O,mU 69 O O,aF O O (gT (Y9 e2) O),aF O O (gT (Y9 e2) O),aF O O (gT (Y9 e2) O),aF O O (gT (Y9 e2) O),aF O O (gT (Y9 e2) O),aU<|I4 O (Y9 e2) (kB true O) O O,mU 76 O O,aF O O (gT (O) O),aF O O (gT (O) O),aF O O (gT (O) O),aF O O (gT (O) O),aF O O (gT (O) O),aF O O (gT (O) O),aU<|I4 O (O) (kB true O) O O,Zt⟩ ?_;refine u7 O (O) ?_;refine W.seq ?_;refine b7 [2,3] (bx':=(p7 3 2)) O O O (g7 hD O) ?_;refine z8 1 (y1 4) (V1 4) ⟨aU<|zK (kB false O) O O,Zt⟩ ?_;refine W.ret ?_;exact q8 (.inr O) O (by rw[SK hl bO (w41 e2)]) O O Zt
       ·by_cases e3:t.ins[i]!.seq≠u.ins[i]!.seq
        ·refine z8 29 (.y 56 _::.y 57 _::.y 58 _::.y 59 _::.y 60 _::.y 61 _::.y 62 _::.y 63 _::.y 64 _::.y 65 _::.y 66 _::.y 67 _::.y 68 _::.y 69 _::.y 70 _::.y 71 _::.y 72 _::.y 73 _::.y 74 _::.y 75 _::.y 76 _::.y 77 _::.x 78::.x 79::.x 80::.x 81::.x 82::.x 83::.y 84 _::[]) (V4 2 3 5 84) ⟨aU (fU 6 O O),aU (lU 56 O O O O O O O),aU (fU 7 O O),aU (lU 58 O O O O O O O),aU fun _ _ H K=>R.eqD (neg:=true) (b':=(!(plc t.ins[i]! == plc u.ins[i]!))) (X9 (plc t.ins[i]!) (plc u.ins[i]!)) O (eU K 57 O) (eU K 59 O) O O O O (O) H,mU 60 O O,aW O O (gF (n5 e1) O) (fU 6 O O),aW O O (gF (n5 e1) O) (lU 62 O O O O O O O),aW O O (gF (n5 e1) O) fun _ _ H K=>R.cvS (xs:=t.ins[i]!.script) (SC.sl (K 63 _ O)) H,aW O O (gF (n5 e1) O) (fU 7 O O),aW O O (gF (n5 e1) O) (lU 65 O O O O O O O),aW O O (gF (n5 e1) O) fun _ _ H K=>R.cvS (xs:=u.ins[i]!.script) (SC.sl (K 66 _ O)) H,aW O O (gF (n5 e1) O)<|zB O O O O,aU<|zF O (n5 e1) O O O,mU 69 O O,aW O O (gF (n5 e2) O) (fU 6 O O),aW O O (gF (n5 e2) O) (lU 71 O O O O O O O),aW O O (gF (n5 e2) O) (fU 7 O O),aW O O (gF (n5 e2) O) (lU 73 O O O O O O O),aW O O (gF (n5 e2) O)<|zB O O O O,aU<|zF O (n5 e2) O O O,mU 76 O O,aF O O (gT (Y9 e3) O),aF O O (gT (Y9 e3) O),aF O O (gT (Y9 e3) O),aF O O (gT (Y9 e3) O),aF O O (gT (Y9 e3) O),aF O O (gT (Y9 e3) O),aU<|I4 O (Y9 e3) (kB true O) O O,Zt⟩ ?_;refine u7 O (O) ?_;refine W.seq ?_;refine b7 [2,3] (bx':=(p7 3 2)) O O O (g7 hD O) ?_;refine z8 1 (y1 4) (V1 4) ⟨aU<|zK (kB false O) O O,Zt⟩ ?_;refine W.ret ?_;exact q8 (.inr O) O (by rw[SK hl bO (w40 e3)]) O O Zt
        ·refine z8 29 (.y 56 _::.y 57 _::.y 58 _::.y 59 _::.y 60 _::.y 61 _::.y 62 _::.y 63 _::.y 64 _::.y 65 _::.y 66 _::.y 67 _::.y 68 _::.y 69 _::.y 70 _::.y 71 _::.y 72 _::.y 73 _::.y 74 _::.y 75 _::.y 76 _::.y 77 _::.y 78 _::.y 79 _::.y 80 _::.y 81 _::.y 82 _::.y 83 _::.y 84 _::[]) (V4 2 3 5 84) ⟨aU (fU 6 O O),aU (lU 56 O O O O O O O),aU (fU 7 O O),aU (lU 58 O O O O O O O),aU fun _ _ H K=>R.eqD (neg:=true) (b':=(!(plc t.ins[i]! == plc u.ins[i]!))) (X9 (plc t.ins[i]!) (plc u.ins[i]!)) O (eU K 57 O) (eU K 59 O) O O O O (O) H,mU 60 O O,aW O O (gF (n5 e1) O) (fU 6 O O),aW O O (gF (n5 e1) O) (lU 62 O O O O O O O),aW O O (gF (n5 e1) O) fun _ _ H K=>R.cvS (xs:=t.ins[i]!.script) (SC.sl (K 63 _ O)) H,aW O O (gF (n5 e1) O) (fU 7 O O),aW O O (gF (n5 e1) O) (lU 65 O O O O O O O),aW O O (gF (n5 e1) O) fun _ _ H K=>R.cvS (xs:=u.ins[i]!.script) (SC.sl (K 66 _ O)) H,aW O O (gF (n5 e1) O)<|zB O O O O,aU<|zF O (n5 e1) O O O,mU 69 O O,aW O O (gF (n5 e2) O) (fU 6 O O),aW O O (gF (n5 e2) O) (lU 71 O O O O O O O),aW O O (gF (n5 e2) O) (fU 7 O O),aW O O (gF (n5 e2) O) (lU 73 O O O O O O O),aW O O (gF (n5 e2) O)<|zB O O O O,aU<|zF O (n5 e2) O O O,mU 76 O O,aW O O (gF (n5 e3) O) (fU 6 O O),aW O O (gF (n5 e3) O) (lU 78 O O O O O O O),aW O O (gF (n5 e3) O) (fU 7 O O),aW O O (gF (n5 e3) O) (lU 80 O O O O O O O),aW O O (gF (n5 e3) O)<|zD hC (z58 t.ins[i]!.wit u.ins[i]!.wit (hwf.witl _ (m1 bO)).1 (huf.witl _ (m1 bO)).1) O O O O O O (F1 (.bool _)) O,aW O O (gF (n5 e3) O)<|UQ O O O,aU<|zF O (n5 e3) O O O,Zt⟩ ?_;refine W.cond O (fun hc84=>?_) (fun hc84=>?_)
         ·refine W.seq ?_;refine b7 [2,3] (bx':=(p7 3 2)) O O O (g7 hD O) ?_;refine z8 1 (y1 4) (V1 4) ⟨aU<|zK (kB false O) O O,Zt⟩ ?_;refine W.ret ?_;exact q8 (.inr O) O (by rw[SK hl bO (w39 hc84)]) O O Zt
         ·refine W.skip ?_;refine b7 [2,3] (bx':=(p7 3 2)) O O O (g7 hD O) ?_;refine z8 3 (y3 44 45 5) (V3 2 3 5) ⟨mU 5 O O,aU<|Q6 1 O O bU O,aU<|zA O O O,Zt⟩ ?_;exact⟨⟨(i+1),⟨by omega,j78 hp (w87 e1 e2 e3 hc84)⟩⟩,rfl,(by simp only[];omega)⟩
     ·obtain rfl:i=t.ins.length:=by omega
      refine W.exit (W.seq (q9 1 (y1 8) (V3 2 3 8) ⟨aU<|zK (kI 0 O) O O,Zt⟩ ?_));refine W.block ?_;refine W.loop (α:={q__:Nat//q__<=t.outs.length/\∀ j<q__,r9 t.outs[j]! u.outs[j]! = true}) (fun q__=>⟨122,[(2,.ptr 2 0 []),(3,.ptr 3 0 []),(8,.int ((q__.1:Nat):Int))],[(3,.var (.agg [.u32 u.ver,.sl none 36 (u.ins.map K4),.sl none 2 (u.outs.map j9),.u32 u.lock])),(2,.var (.agg [.u32 t.ver,.sl none 36 (t.ins.map K4),.sl none 2 (t.outs.map j9),.u32 t.lock]))]⟩) (fun q__=>t.outs.length-q__.1) ⟨(0),⟨Nat.zero_le _,fun j h=>absurd h (Nat.not_lt_zero _)⟩⟩ O ?_;rintro ⟨i,⟨hi2,hp2⟩⟩;show W _ _ _ _ ⟨122,[(2,.ptr 2 0 []),(3,.ptr 3 0 []),(8,.int ((i:Nat):Int))],[(3,.var (.agg [.u32 u.ver,.sl none 36 (u.ins.map K4),.sl none 2 (u.outs.map j9),.u32 u.lock])),(2,.var (.agg [.u32 t.ver,.sl none 36 (t.ins.map K4),.sl none 2 (t.outs.map j9),.u32 t.lock]))]⟩;have hi2:i<=t.outs.length:=hi2;have hp2:∀ j<i,r9 t.outs[j]! u.outs[j]! = true:=hp2;refine W.seq (q9 5 (y5 85 86 87 88 89) (V4 2 3 8 89) ⟨mU 8 O O,aU (fU 2 O O),aU (lU 86 O O O O O O O),aU<|zN O (lN _) O,aU<|zS O O O,Zt⟩ ?_);refine z6 O (fun hc89=>?_) (fun hc89=>?_)
      ·refine W.skip (W.seq (W.block (W.seq ?_)));by_cases o1:t.outs[i]!.value≠u.outs[i]!.value
       ·refine W.dr (m:=30) (an:=(0::1::0::7::15::31::0::64::0::448::960::1984::4095::8191::16383::32767::16383::131071::262143::524287::1048575::16383::2113535::16383::14696447::31473663::65028095::132136959::268435455::536870911::[])) hP dU O (its:=(.y 92 _::.y 93 _::.y 94 _::.y 95 _::.y 96 _::.y 97 _::.y 98 _::.y 99 _::.y 100 _::.y 101 _::.y 102 _::.y 103 _::.y 104 _::.y 105 _::.x 106::.x 107::.x 108::.x 109::.x 110::.x 111::.x 112::.x 113::.x 114::.x 115::.x 116::.x 117::.x 118::.x 119::.x 120::.y 121 _::[])) (ks:=[]) (kk:=[]) (env':=(V4 2 3 8 121)) (⟨nU O,O,⟨aU (fU 2 O O),aU (lU 92 O O O O O O O),mU 8 O O,aU<|zI i O O O bU O,aU<|P9 O O,aU<|zL O O (mG t.outs) O O O O O,aU (fU 3 O O),aU (lU 98 O O O O O O O),mU 8 O O,aU<|zI i O O O bU O,aU<|P9 O O,aU<|zL O O (mG u.outs) O O O O O,aU<|zB O O O O,mU 104 O O,aF O O (gT (Y9 o1) O),aF O O (gT (Y9 o1) O),aF O O (gT (Y9 o1) O),aF O O (gT (Y9 o1) O),aF O O (gT (Y9 o1) O),aF O O (gT (Y9 o1) O),aF O O (gT (Y9 o1) O),aF O O (gT (Y9 o1) O),aF O O (gT (Y9 o1) O),aF O O (gT (Y9 o1) O),aF O O (gT (Y9 o1) O),aF O O (gT (Y9 o1) O),aF O O (gT (Y9 o1) O),aF O O (gT (Y9 o1) O),aF O O (gT (Y9 o1) O),aU<|I4 O (Y9 o1) (kB true O) O O,Zt⟩,O,O,O⟩) O (bx':=(p7 3 2)) O (n':=122) O (tV (V4 2 3 8 121) (p7 3 2) 122 O O O ?_);refine u7 O (O) ?_;refine q9 1 (y1 4) (V1 4) ⟨aU<|zK (kB false O) O O,Zt⟩ ?_;refine W.ret ?_;exact q8 (.inr O) O (by rw[j62 hol bO (w37 o1)]) O O Zt
       ·refine W.dr (m:=30) (an:=(0::1::0::7::15::31::0::64::0::448::960::1984::4095::8191::16383::32767::16383::131071::262143::524287::1048575::16383::2113535::16383::14696447::31473663::65028095::132136959::268435455::536870911::[])) hP dU O (its:=(.y 92 _::.y 93 _::.y 94 _::.y 95 _::.y 96 _::.y 97 _::.y 98 _::.y 99 _::.y 100 _::.y 101 _::.y 102 _::.y 103 _::.y 104 _::.y 105 _::.y 106 _::.y 107 _::.y 108 _::.y 109 _::.y 110 _::.y 111 _::.y 112 _::.y 113 _::.y 114 _::.y 115 _::.y 116 _::.y 117 _::.y 118 _::.y 119 _::.y 120 _::.y 121 _::[])) (ks:=[]) (kk:=[]) (env':=(V4 2 3 8 121)) (⟨nU O,O,⟨aU (fU 2 O O),aU (lU 92 O O O O O O O),mU 8 O O,aU<|zI i O O O bU O,aU<|P9 O O,aU<|zL O O (mG t.outs) O O O O O,aU (fU 3 O O),aU (lU 98 O O O O O O O),mU 8 O O,aU<|zI i O O O bU O,aU<|P9 O O,aU<|zL O O (mG u.outs) O O O O O,aU<|zB O O O O,mU 104 O O,aW O O (gF (n5 o1) O) (fU 2 O O),aW O O (gF (n5 o1) O) (lU 106 O O O O O O O),aW O O (gF (n5 o1) O)<|zV O O O,aW O O (gF (n5 o1) O)<|zI i O O O bU O,aW O O (gF (n5 o1) O)<|P9 O O,aW O O (gF (n5 o1) O)<|zL O O (mG t.outs) O O O O O,aW O O (gF (n5 o1) O) fun _ _ H K=>R.cvS (xs:=t.outs[i]!.script) (SC.sl (K 111 _ O)) H,aW O O (gF (n5 o1) O) (fU 3 O O),aW O O (gF (n5 o1) O) (lU 113 O O O O O O O),aW O O (gF (n5 o1) O)<|zV O O O,aW O O (gF (n5 o1) O)<|zI i O O O bU O,aW O O (gF (n5 o1) O)<|P9 O O,aW O O (gF (n5 o1) O)<|zL O O (mG u.outs) O O O O O,aW O O (gF (n5 o1) O) fun _ _ H K=>R.cvS (xs:=u.outs[i]!.script) (SC.sl (K 118 _ O)) H,aW O O (gF (n5 o1) O)<|zB O O O O,aU<|zF O (n5 o1) O O O,Zt⟩,O,O,O⟩) O (bx':=(p7 3 2)) O (n':=122) O (tV (V4 2 3 8 121) (p7 3 2) 122 O O O ?_);refine W.cond O (fun hc121=>?_) (fun hc121=>?_)
        ·refine q9 1 (y1 4) (V1 4) ⟨aU<|zK (kB false O) O O,Zt⟩ ?_;refine W.ret ?_;exact q8 (.inr O) O (by rw[j62 hol bO (w36 hc121)]) O O Zt
        ·refine W.skip ?_;refine z8 3 (y3 90 91 8) (V3 2 3 8) ⟨mU 8 O O,aU<|Q6 1 O O bU O,aU<|zA O O O,Zt⟩ ?_;exact⟨⟨(i+1),⟨by omega,j78 hp2 (w85 o1 hc121)⟩⟩,rfl,(by simp only[];omega)⟩
      ·obtain rfl:i=t.outs.length:=by omega
       refine W.exit (q9 1 (y1 4) (V1 4) ⟨aU<|zK (kB true O) O O,Zt⟩ ?_);refine W.ret ?_;exact q8 (.inr O) O (by rw[w04 (Classical.byContradiction k1) (Classical.byContradiction k2) hl hol hp hp2]) O O Zt
end Go.Sx

namespace Go.Sx
open Go.Proofs
def n7:Nat->List UInt8->Option (List (List UInt8)×List UInt8)
 | 0,b=>some ([],b)
 | n+1,b=>(J6 b).bind fun p=>(n7 n p.2).bind fun q=>some (p.1::q.1,q.2)
def KE(b:List UInt8):Option (List (List UInt8)×List UInt8):=(U7 b).bind fun c=>n7 c.1 c.2
def KS(x:InS)(ws:List (List UInt8)):InS:={ x with wit:=ws }
def Z3:List InS->List UInt8->Option (List InS×List UInt8)
 | [],b=>some ([],b)
 | x::xs,b=>(KE b).bind fun p=>(Z3 xs p.2).bind fun q=>some (KS x p.1::q.1,q.2)
section
variable{b u u2 r x:List UInt8}{n j:Nat}{ws:List (List UInt8)}{ins l rest:List InS}{y:InS}
theorem j06(h:n7 n r=(n7 (n-j) u).map fun z=>(ws++z.1,z.2))(hj:j<n)(h2:J6 u=some (x,u2)):n7 n r=(n7 (n-(j+1)) u2).map fun z=>((ws++[x])++z.1,z.2):=by
 rw[h,show n-j=(n-(j+1))+1 by omega];simp only[n7,h2,Option.bind_some]
 cases n7 (n-(j+1)) u2<;>simp
theorem j07(h:n7 n r=(n7 (n-j) u).map fun z=>(ws++z.1,z.2))(hj:j<n)(h2:J6 u=none):n7 n r=none:=by
 rw[h,show n-j=(n-(j+1))+1 by omega];simp[n7,h2]
theorem x46(h:n7 n r=(n7 (n-n) u).map fun z=>(ws++z.1,z.2)):n7 n r=some (ws,u):=by
 rw[h,Nat.sub_self];simp[n7]
theorem j58(h:U7 b=none):KE b=none:=by unfold KE;rw[h];rfl
theorem x89(h:U7 b=some (n,r))(h2:n7 n r=none):KE b=none:=by unfold KE;rw[h,Option.bind_some,h2]
theorem x88(h:U7 b=some (n,r))(h2:n7 n r=some (ws,u)):KE b=some (ws,u):=by unfold KE;rw[h,Option.bind_some,h2]
theorem k47{b0:List UInt8}(h:Z3 ins b0=(Z3 (y::rest) b).map fun z=>(l++z.1,z.2))(h2:KE b=some (ws,u)):Z3 ins b0=(Z3 rest u).map fun z=>((l++[KS y ws])++z.1,z.2):=by
 rw[h];simp only[Z3,h2,Option.bind_some]
 cases Z3 rest u<;>simp
theorem RO{b0:List UInt8}(h:Z3 ins b0=(Z3 (y::rest) b).map fun z=>(l++z.1,z.2))(h2:KE b=none):Z3 ins b0=none:=by
 rw[h];simp[Z3,h2]
theorem j83{b0:List UInt8}(h:Z3 ins b0=(Z3 [] b).map fun z=>(l++z.1,z.2)):Z3 ins b0=some (l,b):=by
 rw[h];simp[Z3]
theorem BP(h:l.length+rest.length=n)(hi:l.length<n):∃ y r,rest=y::r:=by
 cases rest with
 | nil=>simp at h;omega
 | cons y r=>exact⟨y,r,rfl⟩
theorem AB(h:l.length+rest.length=n)(hi:¬ l.length<n):rest=[]:=by
 cases rest with
 | nil=>rfl
 | cons y r=>simp at h;omega
end
def LU(x:InS)(ws:List (List UInt8)):D:=.agg [.agg [z7 x.tx,.u32 x.n],b5 x.script,.u32 x.seq,.sl (some 24) 1 (ws.map b5)]
def wl(l:List InS)(m:List D)(q:Nat):D:=.agg ((l.map K4++m)++List.replicate q .dead)
theorem LY(x:InS):(K4 x).sz=36:=by simp[K4,z7,b5,D.sz]
section
variable{l:List InS}{r:List D}{q i:Nat}{a b c x y:D}
theorem q54(hi:l.length=i)(m:D):((l.map K4++m::r)++List.replicate q D.dead)[i]? = some m:=by
 subst hi;rw[List.append_assoc,List.getElem?_append_right (by simp)];simp
theorem S8(hi:l.length=i)(ha:a.sz=33)(hb:b.sz=1)(hc:c.sz=1):(wl l (.agg [a,b,c,x]::r) q).loc [i,3]=some (i*36+35,x):=by
 unfold wl;simp only[D.loc,q54 hi]
 have e1:offk ((l.map K4++D.agg [a,b,c,x]::r)++List.replicate q D.dead) i=i*36:=by
  rw[List.append_assoc];exact XK _ _ (fun d hd=>by obtain⟨z,_,rfl⟩:=List.mem_map.1 hd;exact LY z) i (by simp;omega)
 have e2:offk [a,b,c,x] 3=35:=by simp[offk,ha,hb,hc]
 rw[e1,e2];rfl
theorem KA(hi:l.length=i):(wl l (.agg [a,b,c,x]::r) q).upd [i,3] y=some (wl l (.agg [a,b,c,y]::r) q):=by
 unfold wl;simp only[D.upd,q54 hi];subst hi;simp
theorem I7(hi:l.length=i):(wl l (.agg [a,b,c,x]::r) q).noArr [i,3]=true:=by
 unfold wl;simp only[D.noArr,q54 hi];rfl
theorem k20(z:InS)(ws:List (List UInt8)):(LU z ws).brw=K4 (KS z ws):=by
 simp only[LU,K4,KS,D.brw,j7,List.map_cons,List.map_nil,I2,D8];rw[j2 (fun b=>I2 b)]
theorem PA(q:Nat):(List.replicate q D.dead).map D.brw=List.replicate q D.dead:=by simp[D.brw]
theorem FE(z:InS)(ws:List (List UInt8))(rs:List InS):(wl l (LU z ws::rs.map G6) q).brw=wl (l++[KS z ws]) (rs.map G6) q:=by
 unfold wl;simp only[D.brw,j7,List.map_append,List.map_cons,List.map_nil,k20,PA];rw[j2 GF,j2 O7];simp
theorem q53:(wl l (([]:List InS).map G6) q).brw=.agg (l.map K4++List.replicate q .dead):=by
 unfold wl;simp only[D.brw,j7,List.map_append,List.map_nil,PA,List.append_nil];rw[j2 GF]
end
end Go.Sx

namespace Go.Sx
open Go.Proofs
theorem q87(b:List UInt8)(hb0:b.length<=100000)(v k:UInt32)(ins:List InS)(outs:List OutS)(hil:ins.length<=1000000)(hne:ins≠[]):FnO Tryz.prog gl 96 [.ptr 0 0 [],.ptr 1 0 []] [(0,.var (.agg [.sl none 1 (b.map D.u8)])),(1,.var (.agg [.u32 v,.sl (some 112) 36 (ins.map G6),.sl (some 115) 2 (outs.map j9),.u32 k]))] (((Z3 ins b).map fun q=>(.tup [],[(0,.var (.agg [b5 q.2])),(1,.var (.agg [.u32 v,.sl none 36 (q.1.map K4),.sl none 2 (outs.map j9),.u32 k]))],[]))):=by
 refine FnO.of (n:=38) (ids:=[0,1]) Tryz.func96 rfl rfl rfl (nU rfl) fun C hC hD=>?_;refine W.seq ?_;refine VG 9 1 [1] O O O O O O (fun _=>rfl) (by simpa using hne) O (fun _=>rfl) fun cap q _ _ _=>?_;refine z8 6 (y6 5 6 7 8 9 10) (V4 0 1 9 10) ⟨mU 1 O O,aU<|P7 O O,aU (fU 6 O O),aU (lU 7 O O O O O O O),aU fun _ _ H K=>R.lenBs (K 8 _ O) H,aU<|OP (kI 0 O) O O,Zt⟩ ?_;refine W.block ?_;refine W.loop (α:={q__:Nat×List InS×List InS×List UInt8//q__.2.1.length=q__.1/\q__.2.1.length+q__.2.2.1.length=ins.length/\q__.2.2.2.length<=b.length/\Z3 ins b=(Z3 q__.2.2.1 q__.2.2.2).map fun z=>(q__.2.1++z.1,z.2)}) (fun q__=>⟨38,[(0,.ptr 0 0 []),(1,.ptr 1 0 []),(9,.int ((ins.length:Nat):Int)),(10,.int ((q__.1.1:Nat):Int))],[(9,.var (wl q__.1.2.1 (q__.1.2.2.1.map G6) q)),(0,.var (.agg [.sl none 1 (q__.1.2.2.2.map D.u8)])),(1,.var (.agg [.u32 v,.bs 9 36 ins.length cap,.sl (some 115) 2 (outs.map j9),.u32 k]))]⟩) (fun q__=>ins.length-q__.1.1) ⟨(0,[],ins,b),⟨O,by simp,Nat.le_refl _,by simp⟩⟩ (by simp only[List.length_map];rfl) ?_;rintro ⟨⟨i,l,rest,r⟩,⟨hli,hlen,hrb,hO⟩⟩;show W _ _ _ _ ⟨38,[(0,.ptr 0 0 []),(1,.ptr 1 0 []),(9,.int ((ins.length:Nat):Int)),(10,.int ((i:Nat):Int))],[(9,.var (wl l (rest.map G6) q)),(0,.var (.agg [.sl none 1 (r.map D.u8)])),(1,.var (.agg [.u32 v,.bs 9 36 ins.length cap,.sl (some 115) 2 (outs.map j9),.u32 k]))]⟩;have hli:l.length=i:=hli;have hlen:l.length+rest.length=ins.length:=hlen;have hrb:r.length<=b.length:=hrb;have hO:Z3 ins b=(Z3 rest r).map fun z=>(l++z.1,z.2):=hO;refine q9 1 (y1 11) (V5 0 1 9 10 11) ⟨aU<|zS O O O,Zt⟩ ?_;refine W.seq ?_;refine z6 O (fun hc11=>?_) (fun hc11=>?_)
 ·refine W.skip (W.seq (W.block (W.seq ?_)));obtain⟨x,rs,rfl⟩:=BP hlen (by omega);show W _ _ _ _ _
  have hlr:l.length+rs.length+1=ins.length:=by simp at hlen;omega
  refine z8 2 (y2 12 4) (V5 0 1 4 9 10) ⟨mU 10 O O,aU<|zA O O O,Zt⟩ ?_;refine W.seq ?_
  rcases hE:U7 r with _|⟨n,r1⟩
  ·refine n9 9 [i,3] 24 1 (bx':=(d7 9 0 1)) O (S8 hli O O O) (I7 hli) (KA hli) O ?_;refine g8 (n:=3) dU (its:=[.y 13 _]) (ks:=[]) (kk:=[]) (live:=[0,1,4,9,10,13]) (env':=(V6 0 1 4 9 10 13)) (⟨nU O,O,⟨mU 0 O O,Zt⟩,O,O,O⟩) O (bx':=(d7 9 0 1)) O (n':=38) O (⟨O,.inr (R.callX [(0,0)] hC (g9 (H7 r bO) (by rw[hE];rfl)) (EvB.cons (gV 13 O) O O O EvB.nil) O ⟨O,Zt⟩ ⟨O,Zt⟩ O (fun e he=>?_))⟩);obtain⟨ch,rfl,hch⟩:=he;exact d6 (by rw[RO hO (j58 hE)];rfl) ⟨⟨ch,O,hch⟩,⟨⟨_,O,by first|rfl|simp[o0,m6,D.sz]⟩,⟨⟨_,O,by first|rfl|simp[o0,m6,D.sz]⟩,Zt⟩⟩⟩
  have hr1:=S7 hE (by omega);refine n9 9 [i,3] 24 1 (bx':=(d7 9 0 1)) O (S8 hli O O O) (I7 hli) (KA hli) O ?_;refine u4 3 (y1 13) [] [] (V6 0 1 4 9 10 13) ⟨mU 0 O O,Zt⟩ O O (⟨O,_,R.callB [(0,0)] hC (v7 (r:=.int ((n:Nat):Int)) (bx':=[(0,.var (.agg [.sl none 1 (r1.map D.u8)]))]) (nw:=[]) (H7 r bO) (by rw[hE];rfl)) (EvB.cons (gV 13 O) O O O EvB.nil) O ⟨O,Zt⟩ ⟨O,Zt⟩ O O O O O O (nU O),⟨O,_,R.mov (kI 0 O) O (nU O),tV (V7 0 1 4 9 10 14 15) (d7 9 0 1) 38 O O O ?_⟩⟩);refine W.block ?_;refine W.loop (α:={q__:Nat×List (List UInt8)×List UInt8//q__.1<=n/\q__.2.1.length=q__.1/\q__.2.2.length+q__.1<=r1.length/\n7 n r1=(n7 (n-q__.1) q__.2.2).map fun z=>(q__.2.1++z.1,z.2)}) (fun q__=>⟨38,[(0,.ptr 0 0 []),(1,.ptr 1 0 []),(4,.int ((i:Nat):Int)),(9,.int ((ins.length:Nat):Int)),(10,.int ((i:Nat):Int)),(14,.int ((n:Nat):Int)),(15,.int ((q__.1.1:Nat):Int))],[(9,.var (wl l (LU x q__.1.2.1::rs.map G6) q)),(0,.var (.agg [.sl none 1 (q__.1.2.2.map D.u8)])),(1,.var (.agg [.u32 v,.bs 9 36 ins.length cap,.sl (some 115) 2 (outs.map j9),.u32 k]))]⟩) (fun q__=>n-q__.1.1) ⟨(0,[],r1),⟨Nat.zero_le _,O,by simp,by simp⟩⟩ O ?_;rintro ⟨⟨j,ws,u⟩,⟨hj,hwj,hub,hI⟩⟩;show W _ _ _ _ ⟨38,[(0,.ptr 0 0 []),(1,.ptr 1 0 []),(4,.int ((i:Nat):Int)),(9,.int ((ins.length:Nat):Int)),(10,.int ((i:Nat):Int)),(14,.int ((n:Nat):Int)),(15,.int ((j:Nat):Int))],[(9,.var (wl l (LU x ws::rs.map G6) q)),(0,.var (.agg [.sl none 1 (u.map D.u8)])),(1,.var (.agg [.u32 v,.bs 9 36 ins.length cap,.sl (some 115) 2 (outs.map j9),.u32 k]))]⟩;have hj:j<=n:=hj;have hwj:ws.length=j:=hwj;have hub:u.length+j<=r1.length:=hub;have hI:n7 n r1=(n7 (n-j) u).map fun z=>(ws++z.1,z.2):=hI;refine q9 1 (y1 16) (V8 0 1 4 9 10 14 15 16) ⟨aU<|zS O O O,Zt⟩ ?_;refine W.seq ?_;refine z6 O (fun hc16=>?_) (fun hc16=>?_)
  ·refine W.skip (W.seq (W.block ?_))
   rcases hE2:J6 u with _|⟨y,u2⟩
   ·refine VC (m:=17) (an:=[0,1,3,7,0,0,32,96,224,0,992,2016,4064,0,8192,24576,65504,131071,262143,524287]) (its:=[.y 17 _,.y 18 _,.y 19 _,.y 20 _,.y 21 _,.y 22 _,.y 23 _,.y 24 _,.y 25 _,.y 26 _,.y 27 _,.y 28 _,.y 29 _,.y 30 _,⟨31,.dead,true⟩,⟨32,.dead,true⟩,⟨33,.dead,true⟩]) (ks:=[]) (kk:=[]) 14 hP dU O ⟨nU O,O,O,O⟩ (            ⟨⟨O,O,fun _ τ hb ht hτ=>R.mov (evt (hτ 1 _ O)) O ht⟩,⟨⟨O,O,fun _ τ hb ht hτ=>R.nilcP (hτ 17 _ O) ht⟩,⟨⟨O,O,fun _ τ hb ht hτ=>R.fdP (hτ 18 _ O) ht⟩,⟨⟨O,O,fun _ τ hb ht hτ=>R.ldP (hτ 19 _ O) (hb 1 _ O) O O O O ht⟩,⟨⟨O,O,fun _ τ hb ht hτ=>R.mov (evt (hτ 4 _ O)) O ht⟩,⟨⟨O,O,fun _ τ hb ht hτ=>R.mov (evt (hτ 1 _ O)) O ht⟩,⟨⟨O,O,fun _ τ hb ht hτ=>R.nilcP (hτ 22 _ O) ht⟩,⟨⟨O,O,fun _ τ hb ht hτ=>R.fdP (hτ 23 _ O) ht⟩,⟨⟨O,O,fun _ τ hb ht hτ=>R.ldP (hτ 24 _ O) (hb 1 _ O) O O O O ht⟩,⟨⟨O,O,fun _ τ hb ht hτ=>R.mov (evt (hτ 4 _ O)) O ht⟩,⟨⟨O,O,fun _ τ hb ht hτ=>R.idxBs (i) (hτ 25 _ O) (b4 (evt (hτ 26 _ O))) O bU ht⟩,⟨⟨O,O,fun _ τ hb ht hτ=>R.fdP (hτ 27 _ O) ht⟩,⟨⟨O,O,fun _ τ hb ht hτ=>R.ldO (hτ 28 _ O) (hb 9 _ O) (S8 hli O O O) ht⟩,⟨⟨O,O,fun _ τ hb ht hτ=>R.mov (evt (hτ 0 _ O)) O ht⟩,⟨⟨O,O,PS [(0,0)] hC (g9 (W1 u bO) (by rw[hE2];rfl)) (fun τ hτ=>(EvB.cons (evt (hτ 30 _ O)) O O O EvB.nil)) O ⟨O,Zt⟩ ⟨O,Zt⟩ O (fun e he=>?_)⟩,⟨Zt,⟨Zt,Zt⟩⟩⟩⟩⟩⟩⟩⟩⟩⟩⟩⟩⟩⟩⟩⟩⟩) O (nU O);obtain⟨ch,rfl,hch⟩:=he;exact d6 (by rw[RO hO (x89 hE (j07 hI bO hE2))];rfl) ⟨⟨ch,O,hch⟩,⟨⟨_,O,by first|rfl|simp[o0,m6,D.sz]⟩,⟨⟨_,O,by first|rfl|simp[o0,m6,D.sz]⟩,Zt⟩⟩⟩
   have hu2:=B3 hE2 (by omega);refine U9 (m:=17) (an:=[0,1,3,7,0,0,32,96,224,0,992,2016,4064,0,8192,24576,65504,131071,262143,524287]) (its:=[.y 17 _,.y 18 _,.y 19 _,.y 20 _,.y 21 _,.y 22 _,.y 23 _,.y 24 _,.y 25 _,.y 26 _,.y 27 _,.y 28 _,.y 29 _,.y 30 _,.y 31 _,.y 32 _,.y 33 _]) (ks:=[(16,29)]) (kk:=[]) (efs:=[(14,(p6 0)),(16,(p6 9))]) (live:=[0,1,4,9,10,14,15,20,21,33]) (env':=(j81 0 1 4 9 10 14 15 20 21 33)) (nd:=40) (bx1:=(d7 9 0 1)) hP dU O ⟨⟨63,O⟩,nU O,O,O,O,O⟩ (          ⟨⟨O,nU O,O,fun _ τ hb ht hτ=>R.mov (evt (hτ 1 _ O)) O ht⟩,⟨⟨O,nU O,O,fun _ τ hb ht hτ=>R.nilcP (hτ 17 _ O) ht⟩,⟨⟨O,nU O,O,fun _ τ hb ht hτ=>R.fdP (hτ 18 _ O) ht⟩,⟨⟨O,nU O,O,fun _ τ hb ht hτ=>R.ldP (hτ 19 _ O) (hb 1 _ O) O O O O ht⟩,⟨⟨O,nU O,O,fun _ τ hb ht hτ=>R.mov (evt (hτ 4 _ O)) O ht⟩,⟨⟨O,nU O,O,fun _ τ hb ht hτ=>R.mov (evt (hτ 1 _ O)) O ht⟩,⟨⟨O,nU O,O,fun _ τ hb ht hτ=>R.nilcP (hτ 22 _ O) ht⟩,⟨⟨O,nU O,O,fun _ τ hb ht hτ=>R.fdP (hτ 23 _ O) ht⟩,⟨⟨O,nU O,O,fun _ τ hb ht hτ=>R.ldP (hτ 24 _ O) (hb 1 _ O) O O O O ht⟩,⟨⟨O,nU O,O,fun _ τ hb ht hτ=>R.mov (evt (hτ 4 _ O)) O ht⟩,⟨⟨O,nU O,O,fun _ τ hb ht hτ=>R.idxBs (i) (hτ 25 _ O) (b4 (evt (hτ 26 _ O))) O bU ht⟩,⟨⟨O,nU O,O,fun _ τ hb ht hτ=>R.fdP (hτ 27 _ O) ht⟩,⟨⟨O,nU O,O,fun _ τ hb ht hτ=>R.ldO (hτ 28 _ O) (hb 9 _ O) (S8 hli O O O) ht⟩,⟨⟨O,nU O,O,fun _ τ hb ht hτ=>R.mov (evt (hτ 0 _ O)) O ht⟩,⟨⟨O,O,⟨O,nU O⟩,(j50 (d':=.sl none 1 (y.map D.u8)) (SpE.callB [(0,0)] hC (v7 (r:=.sl (some 5) 1 (y.map D.u8)) (bx':=[(0,.var (.agg [.sl none 1 (u2.map D.u8)]))]) (nw:=[]) (W1 u bO) (by rw[hE2];rfl)) (fun τ hτ=>(EvB.cons (evt (hτ 30 _ O)) O O O EvB.nil)) O ⟨O,Zt⟩ ⟨O,Zt⟩ O O O O (nU O)) O O (show(.sl (some 5) 1 (y.map D.u8):D).brw=_ from by simp only[D.brw,j7];rw[j2 (fun _=>rfl)]))⟩,⟨⟨O,nU O,O,fun _ τ hb ht hτ=>w8 (z:=1) (.cons (evt (hτ 31 _ O)) .nil) ⟨⟨O,O,O⟩,Zt⟩ O ht dU⟩,⟨⟨O,O,⟨O,nU O⟩,(ZD (s:=29) (id:=9) O O (S8 hli O O O) (I7 hli) (KA hli) (fun τ hb hτ=>(SrcO.sc (SC.sl (hτ 32 _ O O O)) (g6 O))) (show _=((ws++[y]).map b5) from(by rw[List.map_append];rfl)) bU dU dU O (nU O))⟩,Zt⟩⟩⟩⟩⟩⟩⟩⟩⟩⟩⟩⟩⟩⟩⟩⟩⟩) O O O (n':=38) O (⟨O,_,R.idxBs (i) (gU 20 O) (b4 (gV 21 O)) O bU (nU O),⟨O,_,R.fdP (gU 34 O) (nU O),⟨O,_,o8 (gU 35 O) (xU 9 O) (S8 hli O O O) (gU 33 O) O O (by rfl) (by rfl) (KA hli) (I7 hli),⟨[0,1,4,9,10,14,15],(V7 0 1 4 9 10 14 15),(d7 9 0 1),38,O,O,O, ?_⟩⟩⟩⟩);refine z8 2 (y2 36 15) (V7 0 1 4 9 10 14 15) ⟨aU<|Q6 1 O O bU O,mU 36 O O,Zt⟩ ?_;exact⟨⟨(j+1,ws++[y],u2),⟨by omega,by simp[hwj],(show u2.length+(j+1)<=r1.length by omega),j06 hI (by omega) hE2⟩⟩,rfl,(by simp only[];omega)⟩
  ·obtain rfl:j=n:=by omega
   have hWo:=x88 hE (x46 hI);refine W.exit ?_;refine H5 9 (d':=wl (l++[KS x ws]) (rs.map G6) q) (bx':=(d7 9 0 1)) O (FE x ws rs) O ?_;refine z8 2 (y2 37 10) (V4 0 1 9 10) ⟨aU<|Q6 1 O O bU O,mU 37 O O,Zt⟩ ?_;exact⟨⟨(i+1,l++[KS x ws],rs,u),⟨by simp[hli],by simp;omega,(show u.length<=b.length by omega),k47 hO hWo⟩⟩,rfl,(by simp only[];omega)⟩
 ·obtain rfl:=AB hlen (by omega);show W _ _ _ _ _
  have hlen:l.length=ins.length:=by simpa using hlen
  refine H5 9 (d':=.agg (l.map K4++List.replicate q .dead)) (bx':=(d7 9 0 1)) O q53 O ?_;refine VY 9 1 [1] [0,1] (bx':=(p7 0 1)) rfl rfl dU rfl rfl rfl (by simpa using hlen) (fun d hd=>by obtain⟨z,_,rfl⟩:=List.mem_map.1 hd;rfl) (fun d hd=>by obtain⟨z,_,rfl⟩:=List.mem_map.1 hd;rfl) (fun d hd=>by obtain⟨z,_,rfl⟩:=List.mem_map.1 hd;exact LY z) rfl rfl rfl rfl (g7 hD rfl) ?_;refine H5 1 (d':=.agg [.u32 v,.sl none 36 (l.map K4),.sl none 2 (outs.map j9),.u32 k]) (bx':=(p7 0 1)) O (show(D.agg [.u32 v,.sl none 36 (l.map K4),.sl (some 115) 2 (outs.map j9),.u32 k]).brw=_ from by simp only[D.brw,j7,List.map_cons,List.map_nil];rw[j2 GF,j2 Y3]) O ?_;refine W.exit ?_;exact U4 (r:=.tup []) (bx':=[(0,.var (.agg [.sl none 1 (r.map D.u8)])),(1,.var (.agg [.u32 v,.sl none 36 (l.map K4),.sl none 2 (outs.map j9),.u32 k]))]) (nw:=[]) (by rw[j83 hO];rfl) (Z8 (r:=.dead) (.inl O) O (O) ⟨O,⟨O,Zt⟩⟩)
end Go.Sx

namespace Go.Sx
def YW:List (List UInt8)->Nat
 | []=>0
 | x::r=>1+x.length+YW r
def UZ:List InS->Nat
 | []=>0
 | x::r=>41+x.script.length+YW x.wit+UZ r
def CP:List OutS->Nat
 | []=>0
 | x::r=>9+x.script.length+CP r
def w93(t:TxS):Nat:=UZ t.ins+CP t.outs
theorem k64{l:List (List UInt8)}{b:List UInt8}(h:b∈l):b.length+1<=YW l:=by
 induction l with
 | nil=>cases h
 | cons x r ih=>
  simp only[YW]
  rcases List.mem_cons.1 h with rfl|h
  ·omega
  ·have:=ih h;omega
theorem GK{l:List InS}{x:InS}(h:x∈l):41+x.script.length+YW x.wit<=UZ l:=by
 induction l with
 | nil=>cases h
 | cons y r ih=>
  simp only[UZ]
  rcases List.mem_cons.1 h with rfl|h
  ·omega
  ·have:=ih h;omega
theorem k66{l:List OutS}{x:OutS}(h:x∈l):9+x.script.length<=CP l:=by
 induction l with
 | nil=>cases h
 | cons y r ih=>
  simp only[CP]
  rcases List.mem_cons.1 h with rfl|h
  ·omega
  ·have:=ih h;omega
theorem k63(l:List (List UInt8)):l.length<=YW l:=by
 induction l with
 | nil=>exact Nat.le_refl _
 | cons x r ih=>simp only[YW,List.length_cons];omega
theorem GZ(l:List InS):41*l.length<=UZ l:=by
 induction l with
 | nil=>exact Nat.le_refl _
 | cons x r ih=>simp only[UZ,List.length_cons];omega
theorem k65(l:List OutS):9*l.length<=CP l:=by
 induction l with
 | nil=>exact Nat.le_refl _
 | cons x r ih=>simp only[CP,List.length_cons];omega
theorem RW(l r:List (List UInt8)):YW (l++r)=YW l+YW r:=by
 induction l with
 | nil=>simp[YW]
 | cons x l ih=>simp only[List.cons_append,YW,ih];omega
theorem GJ(l r:List InS):UZ (l++r)=UZ l+UZ r:=by
 induction l with
 | nil=>simp[UZ]
 | cons x l ih=>simp only[List.cons_append,UZ,ih];omega
theorem MH(l r:List OutS):CP (l++r)=CP l+CP r:=by
 induction l with
 | nil=>simp[CP]
 | cons x l ih=>simp only[List.cons_append,CP,ih];omega
theorem F8{α:Type}[Inhabited α]{l:List α}{i:Nat}(h:i<l.length):l.take (i+1)=l.take i++[l[i]!]:=by
 rw[getElem!_pos l i h,List.take_succ_eq_append_getElem h]
theorem q69(l:List (List UInt8))(i:Nat):YW (l.take i)<=YW l:=by
 have:=RW (l.take i) (l.drop i);rw[List.take_append_drop] at this;omega
theorem OL(l:List InS)(i:Nat):UZ (l.take i)<=UZ l:=by
 have:=GJ (l.take i) (l.drop i);rw[List.take_append_drop] at this;omega
theorem q70(l:List OutS)(i:Nat):CP (l.take i)<=CP l:=by
 have:=MH (l.take i) (l.drop i);rw[List.take_append_drop] at this;omega
theorem RF(l:List (List UInt8)):∀ i,i<=l.length->(E6 l i).length<=10*YW (l.take i):=by
 intro i
 induction i with
 | zero=>intro _;simp[E6]
 | succ i ih=>
  intro h;have:=ih (by omega);have h2:=Y7 l[i]!;rw[F8 (by omega),RW];simp only[E6,List.length_append,YW];omega
theorem j10(l:List InS)(hh:∀ x∈l,x.tx.length=32):∀ i,i<=l.length->(G7 l i).length<=2*UZ (l.take i):=by
 intro i
 induction i with
 | zero=>intro _;simp[G7]
 | succ i ih=>
  intro h;have:=ih (by omega);have h2:=Y7 l[i]!.script;have h3:=hh _ (m1 (show i<l.length by omega));rw[F8 (by omega),GJ];simp only[G7,x49,List.length_append,UZ,j3];omega
theorem z16(l:List OutS):∀ i,i<=l.length->(Y0 l i).length<=2*CP (l.take i):=by
 intro i
 induction i with
 | zero=>intro _;simp[Y0]
 | succ i ih=>
  intro h;have:=ih (by omega);have h2:=Y7 l[i]!.script;rw[F8 (by omega),MH];simp only[Y0,HI,List.length_append,CP,j3];omega
theorem q56(l:List InS):∀ i,i<=l.length->(U1 l i).length<=10*UZ (l.take i):=by
 intro i
 induction i with
 | zero=>intro _;simp[U1]
 | succ i ih=>
  intro h;have:=ih (by omega);have h2:=Q0 l[i]!.wit.length;have h3:=RF l[i]!.wit _ (Nat.le_refl _);rw[List.take_length] at h3;rw[F8 (by omega),GJ];simp only[U1,List.length_append,UZ];omega
theorem OO{t:TxS}(h:w93 t<=100000)(hh:∀ x∈t.ins,x.tx.length=32):t.wf:=by
 unfold w93 at h;have a1:=GZ t.ins;have a2:=k65 t.outs;refine⟨by omega,by omega,hh,fun x hx=>?_,fun x hx=>?_,fun i hi=>?_,fun i hi=>?_,fun i hi=>?_,fun x hx=>⟨?_,fun i hi=>?_⟩,fun x hx b hb=>?_⟩
 ·have:=GK hx;omega
 ·have:=k66 hx;omega
 ·have:=j10 t.ins hh i hi;have:=OL t.ins i;omega
 ·have:=z16 t.outs i hi;have:=q70 t.outs i;omega
 ·have:=q56 t.ins i hi;have:=OL t.ins i;omega
 ·have:=GK hx;have:=k63 x.wit;omega
 ·have:=GK hx;have:=RF x.wit i hi;have:=q69 x.wit i;omega
 ·have:=GK hx;have:=k64 hb;omega
section
variable{b r:List UInt8}{n i:Nat}{l:List InS}{o:List OutS}{ws:List (List UInt8)}
theorem x50{a:InS}(h:YI b=some (a,r))(hb:b.length<=100000):a.tx.length=32/\a.wit=[]/\41+a.script.length+r.length<=b.length:=by
 unfold YI at h
 cases h1:K0 b 32 with
 | none=>rw[h1] at h;cases h
 | some y=>
  obtain⟨x,r1⟩:=y;rw[h1,Option.bind_some] at h
  cases h2:m0 r1 4 with
  | none=>rw[h2] at h;cases h
  | some y=>
   obtain⟨p,r2⟩:=y;rw[h2,Option.bind_some] at h
   cases h3:J6 r2 with
   | none=>rw[h3] at h;cases h
   | some y=>
    obtain⟨s,r3⟩:=y;rw[h3,Option.bind_some] at h
    cases h4:m0 r3 4 with
    | none=>rw[h4] at h;cases h
    | some y=>
     obtain⟨q,r4⟩:=y;rw[h4,Option.bind_some] at h;cases h;have e1:=Q8 h1;have e2:=K3 h2;have e3:=B3 h3 (by omega);have e4:=K3 h4;exact⟨e1.1,rfl,by show 41+s.length+r4.length<=b.length;omega⟩
theorem k89{a:OutS}(h:T1 b=some (a,r))(hb:b.length<=100000):9+a.script.length+r.length<=b.length:=by
 unfold T1 at h
 cases h1:m0 b 8 with
 | none=>rw[h1] at h;cases h
 | some y=>
  obtain⟨p,r1⟩:=y;rw[h1,Option.bind_some] at h
  cases h2:J6 r1 with
  | none=>rw[h2] at h;cases h
  | some y=>
   obtain⟨s,r2⟩:=y;rw[h2,Option.bind_some] at h;cases h;have e1:=K3 h1;have e2:=B3 h2 (by omega);show 9+s.length+r2.length<=b.length;omega
theorem j11(h:C4 b i=some (l,r))(hb:b.length<=100000):(∀ x∈l,x.tx.length=32/\x.wit=[])/\UZ l+r.length<=b.length:=by
 induction i generalizing l r with
 | zero=>cases h;simp[UZ]
 | succ i ih=>
  simp only[C4] at h
  cases h1:C4 b i with
  | none=>rw[h1] at h;cases h
  | some y=>
   obtain⟨l1,r1⟩:=y;rw[h1,Option.bind_some] at h
   cases h2:YI r1 with
   | none=>rw[h2] at h;cases h
   | some y=>
    obtain⟨a,r2⟩:=y;rw[h2,Option.bind_some] at h;cases h;have e1:=ih h1;have e2:=x50 h2 (by omega);refine⟨fun x hx=>?_, ?_⟩
    ·rcases List.mem_append.1 hx with hx|hx
     ·exact e1.1 x hx
     ·simp at hx;subst hx;exact⟨e2.1,e2.2.1⟩
    ·simp only[GJ,UZ,e2.2.1,YW];show UZ l1+(41+a.script.length+0+0)+r2.length<=b.length;omega
theorem z17(h:J3 b i=some (o,r))(hb:b.length<=100000):CP o+r.length<=b.length:=by
 induction i generalizing o r with
 | zero=>cases h;simp[CP]
 | succ i ih=>
  simp only[J3] at h
  cases h1:J3 b i with
  | none=>rw[h1] at h;cases h
  | some y=>
   obtain⟨l1,r1⟩:=y;rw[h1,Option.bind_some] at h
   cases h2:T1 r1 with
   | none=>rw[h2] at h;cases h
   | some y=>
    obtain⟨a,r2⟩:=y;rw[h2,Option.bind_some] at h;cases h;have e1:=ih h1;have e2:=k89 h2 (by omega);simp only[MH,CP];show CP l1+(9+a.script.length+0)+r2.length<=b.length;omega
theorem XA(h:U2 b=some ((l,o),r))(hb:b.length<=100000):(∀ x∈l,x.tx.length=32/\x.wit=[])/\UZ l+CP o+r.length<=b.length:=by
 unfold U2 at h
 cases h1:U7 b with
 | none=>rw[h1] at h;cases h
 | some y=>
  obtain⟨n,r1⟩:=y;rw[h1,Option.bind_some] at h
  cases h2:C4 r1 n with
  | none=>simp only[h2] at h;cases h
  | some y=>
   obtain⟨l1,r2⟩:=y;simp only[h2,Option.bind_some] at h
   cases h3:U7 r2 with
   | none=>rw[h3] at h;cases h
   | some y=>
    obtain⟨m,r3⟩:=y;simp only[h3,Option.bind_some] at h
    cases h4:J3 r3 m with
    | none=>rw[h4] at h;cases h
    | some y=>
     obtain⟨o1,r4⟩:=y;simp only[h4,Option.bind_some,Option.some.injEq,Prod.mk.injEq] at h;obtain⟨⟨rfl,rfl⟩,rfl⟩:=h;have e1:=S7 h1 hb;have e2:=j11 h2 (by omega);have e3:=S7 h3 (by omega);have e4:=z17 h4 (by omega);exact⟨e2.1,by omega⟩
theorem q07(h:n7 n b=some (ws,r))(hb:b.length<=100000):YW ws+r.length<=b.length:=by
 induction n generalizing b ws r with
 | zero=>cases h;simp[YW]
 | succ n ih=>
  simp only[n7] at h
  cases h1:J6 b with
  | none=>rw[h1] at h;cases h
  | some y=>
   obtain⟨x,r1⟩:=y;simp only[h1,Option.bind_some] at h
   cases h2:n7 n r1 with
   | none=>rw[h2] at h;cases h
   | some y=>
    obtain⟨xs,r2⟩:=y;simp only[h2,Option.bind_some,Option.some.injEq,Prod.mk.injEq] at h;obtain⟨rfl,rfl⟩:=h;have e1:=B3 h1 hb;have e2:=ih h2 (by omega);simp only[YW];omega
theorem k55(h:KE b=some (ws,r))(hb:b.length<=100000):YW ws+r.length<=b.length:=by
 unfold KE at h
 cases h1:U7 b with
 | none=>rw[h1] at h;cases h
 | some y=>
  obtain⟨n,r1⟩:=y;rw[h1,Option.bind_some] at h;have e1:=S7 h1 hb;have e2:=q07 h (by show r1.length<=100000;omega);show YW ws+r.length<=b.length;have:YW ws+r.length<=r1.length:=e2;omega
theorem ON{l':List InS}(h:Z3 l b=some (l',r))(hb:b.length<=100000)(hw:∀ x∈l,x.tx.length=32/\x.wit=[]):(∀ x∈l',x.tx.length=32)/\UZ l'+r.length<=UZ l+b.length/\l'.length=l.length:=by
 induction l generalizing b l' r with
 | nil=>cases h;simp
 | cons x xs ih=>
  simp only[Z3] at h
  cases h1:KE b with
  | none=>rw[h1] at h;cases h
  | some y=>
   obtain⟨ws,r1⟩:=y;simp only[h1,Option.bind_some] at h
   cases h2:Z3 xs r1 with
   | none=>rw[h2] at h;cases h
   | some y=>
    obtain⟨ys,r2⟩:=y;simp only[h2,Option.bind_some,Option.some.injEq,Prod.mk.injEq] at h;obtain⟨rfl,rfl⟩:=h;have e1:=k55 h1 hb;have e2:=ih h2 (by omega) (fun z hz=>hw z (List.mem_cons_of_mem _ hz));have e3:=hw x (by simp);refine⟨fun z hz=>?_, ?_,by simp[e2.2.2]⟩
    ·rcases List.mem_cons.1 hz with rfl|hz
     ·exact e3.1
     ·exact e2.1 z hz
    ·simp only[UZ,KS,e3.2,YW];omega
end
end Go.Sx

namespace Go.Sx
open Go.Proofs
set_option maxRecDepth 100000
theorem j59:∃ ms,Tryz.prog.underlying 20=some (.interface ms):=⟨_,rfl⟩
theorem k95(w:World):(binOp .neq 20 .nilIface .nilIface).run Tryz.prog w=.ok (.bool false) w:=by
 obtain⟨ms,h⟩:=j59
 have:(Op.equal 20 .nilIface .nilIface).run Tryz.prog w=.ok true w:=by
  unfold Op.equal;rw[show Op.maxDepth=9999+1 from rfl,Op.equalIn];simp[run_underlying h]
 simp[binOp,this]
theorem k94(w:World)(t:TypeId)(v:Value):(binOp .neq 20 (.iface t v) .nilIface).run Tryz.prog w=.ok (.bool true) w:=by
 obtain⟨ms,h⟩:=j59
 have:(Op.equal 20 (.iface t v) .nilIface).run Tryz.prog w=.ok false w:=by
  unfold Op.equal;rw[show Op.maxDepth=9999+1 from rfl,Op.equalIn];simp[run_underlying h]
 simp[binOp,this]
theorem DM(w:World)(op:BinOp)(t:TypeId)(o:Operand)(x y:Value)(hx:∀ cs,x≠.agg cs):(eqGuard op t o (.const y) x .nilIface).run Tryz.prog w=.ok () w:=by
 unfold eqGuard
 cases op<;>simp<;>cases x<;>simp_all
theorem z95(b2 b3:Nat)(w:World):CallsD Tryz.prog 92 #[.pointer (some ⟨b2,0,none⟩),.pointer (some ⟨b3,0,none⟩)] .returning w (fun e u' w'=>(∃ v,e=.returned v)/\u'=.returning/\w'=w):=by
 refine callsD_of_wpS Tryz.func92 rfl fun c0 cs hm=>?_;refine wpS_seq (wpS_region ?_)
 have hr:recoverD (c0::cs)=none:=by simp[recoverD,hm]
 simp[wpOpsS,List.range,List.range.loop,Region.wanted,execOp,resolve,invoke,builtin,hr,Act.put,Oper.upon,Act.eval,undef,DM,k95];show Code.wpS Tryz.prog _ _ _ _ _;refine wpS_cond (t:=false) rfl (wpS_of_wp (wp_skip ?_));exact⟨rfl,.returning,by rw[<- hm],.tuple #[],by simp[results,Tryz.f92],⟨_,rfl⟩,rfl,rfl⟩
theorem M3(b2 b3:Nat)(w:World){ch:List PanicEntry}(hch:k90 ch){cs2 cs3:Array Value}{e2 e3:TypeId}(h23:b2≠b3)(h2:w.heap[b2]? = some (.cells cs2 e2 (0,0)))(hs2:cs2.size=4)(h3:w.heap[b3]? = some (.cells cs3 e3 (0,0)))(hs3:cs3.size=1) :
 CallsD Tryz.prog 92 #[.pointer (some ⟨b2,0,none⟩),.pointer (some ⟨b3,0,none⟩)] (.panicking ch) w (fun e u' w'=>(∃ v,e=.returned v)/\settle u'=.returning /\
  w'=(w.setRow b2 #[.int .u32 0,.slice none 0 0,.slice none 0 0,.int .u32 0]).setRow b3 #[.int .i64 5]):=by
 obtain⟨t,x,rfl⟩:=hch;refine callsD_of_wpS Tryz.func92 rfl fun c0 cs hm=>?_;refine wpS_seq (wpS_region ?_)
 have hr:recoverD (c0::cs)=some (.iface t x,{ c0 with mode:=.panicking [{ v:=.iface t x,recovered:=true }] }::cs):=by simp[recoverD,hm]
 simp[wpOpsS,List.range,List.range.loop,Region.wanted,execOp,resolve,invoke,builtin,hr,Act.put,Oper.upon,Act.eval,undef,DM,k94];show Code.wpS Tryz.prog _ _ _ _ _;refine wpS_cond (t:=true) rfl (wpS_region ?_);have hb:(Instr.build 31 #[]).run Tryz.prog w=.ok (.agg #[.int .u32 0,.slice none 0 0,.slice none 0 0,.int .u32 0]) w:=run_build w 31 #[] _ rfl
 have s1:(storeVar 31 ⟨b2,0,none⟩ (.agg #[.int .u32 0,.slice none 0 0,.slice none 0 0,.int .u32 0])).run Tryz.prog w=.ok () (w.setRow b2 #[.int .u32 0,.slice none 0 0,.slice none 0 0,.int .u32 0]):=by
  have:=H6 (P:=Tryz.prog) (ty:=31) (n:=4) (w:=w) (off:=0) (v:=.agg #[.int .u32 0,.slice none 0 0,.slice none 0 0,.int .u32 0]) h2 rfl (by omega) (by intro u hu;simp[Value.cells] at hu;rcases hu with rfl|rfl|rfl|rfl<;>rfl);rw[this]
  have e:cs2.toList.drop 4=[]:=by apply List.drop_of_length_le;simp;omega
  simp[Value.cells,e]
 have s2:(storeVar 32 ⟨b3,0,none⟩ (.int .i64 5)).run Tryz.prog (w.setRow b2 #[.int .u32 0,.slice none 0 0,.slice none 0 0,.int .u32 0])=.ok () ((w.setRow b2 #[.int .u32 0,.slice none 0 0,.slice none 0 0,.int .u32 0]).setRow b3 #[.int .i64 5]):=by
  have:=H6 (P:=Tryz.prog) (ty:=32) (n:=1) (w:=w.setRow b2 #[.int .u32 0,.slice none 0 0,.slice none 0 0,.int .u32 0]) (off:=0) (v:=.int .i64 5) ((setRow_other w b2 b3 _ (fun e=>h23 e.symm)).trans h3) rfl (by omega) (by intro u hu;simp[Value.cells] at hu;subst hu;rfl);rw[this]
  have e:cs3.toList.drop 1=[]:=by apply List.drop_of_length_le;simp;omega
  simp[Value.cells,e]
 simp[wpOpsS,List.range,List.range.loop,Region.wanted,execOp,hb,Act.put,Oper.upon,Act.eval,Instr.storeAt,Instr.sureAddr,s1,s2];exact⟨rfl,_,rfl,.tuple #[],by simp[results,Tryz.f92],⟨_,rfl⟩,rfl,rfl⟩
end Go.Sx

namespace Go.Sx
open Go.Proofs
def Q9(r:List UInt8):Bool:=decide (0<r.length)&&(r[0]! == 0)
def W4(r:List UInt8):Option (List UInt8):=if Q9 r=true then(K0 r 2).map Prod.snd else some r
def KJ(s:Bool)(ins:List InS)(r:List UInt8):Option (List InS×List UInt8):=if s=true then Z3 ins r else some (ins,r)
def EE(b:List UInt8)(t:TxS)(r:List UInt8):Option TxS:=if r.length=0/\i7 t=true/\H8 t=b then some t else none
def T3(b:List UInt8):Option TxS:=
 (m0 b 4).bind fun v=>(W4 v.2).bind fun r=>(U2 r).bind fun p=>(KJ (Q9 v.2) p.1.1 p.2).bind fun q=>(m0 q.2 4).bind fun k=>EE b ⟨v.1.toUInt32,q.1,p.1.2,k.1.toUInt32⟩ k.2
def Q3(b:List UInt8):TxS×Nat:=if 16384<b.length then(zeroT,6) else match T3 b with
 | some t=>(t,0)
 | none=>(zeroT,5)
section
variable{b r r1 r2 r3 r4 u:List UInt8}{x k:UInt64}{ins l:List InS}{outs:List OutS}{t:TxS}
theorem LD(h:16384<b.length):Q3 b=(zeroT,6):=by simp[Q3,h]
theorem n8(h:¬ 16384<b.length)(hg:T3 b=none):Q3 b=(zeroT,5):=by simp[Q3,h,hg]
theorem XD(h:¬ 16384<b.length)(hg:T3 b=some t):Q3 b=(t,0):=by simp[Q3,h,hg]
theorem x54(h:m0 b 4=none):T3 b=none:=by unfold T3;rw[h];rfl
theorem x53(h:m0 b 4=some (x,r))(h2:W4 r=none):T3 b=none:=by unfold T3;rw[h,Option.bind_some,h2];rfl
theorem z93(h:m0 b 4=some (x,r))(h2:W4 r=some r1)(h3:U2 r1=none):T3 b=none:=by unfold T3;rw[h,Option.bind_some,h2,Option.bind_some,h3];rfl
theorem x52(h:m0 b 4=some (x,r))(h2:W4 r=some r1)(h3:U2 r1=some ((ins,outs),r2))(h4:KJ (Q9 r) ins r2=none):T3 b=none:=by
 unfold T3;rw[h,Option.bind_some,h2,Option.bind_some,h3,Option.bind_some,h4];rfl
theorem z92(h:m0 b 4=some (x,r))(h2:W4 r=some r1)(h3:U2 r1=some ((ins,outs),r2))(h4:KJ (Q9 r) ins r2=some (l,r3))(h5:m0 r3 4=none):T3 b=none:=by
 unfold T3;rw[h,Option.bind_some,h2,Option.bind_some,h3,Option.bind_some,h4,Option.bind_some,h5];rfl
theorem XC(h:m0 b 4=some (x,r))(h2:W4 r=some r1)(h3:U2 r1=some ((ins,outs),r2))(h4:KJ (Q9 r) ins r2=some (l,r3))(h5:m0 r3 4=some (k,r4)):T3 b=EE b ⟨x.toUInt32,l,outs,k.toUInt32⟩ r4:=by
 unfold T3;rw[h,Option.bind_some,h2,Option.bind_some,h3,Option.bind_some,h4,Option.bind_some,h5];rfl
theorem j66(h:Q9 r=true)(h2:K0 r 2=none):W4 r=none:=by simp[W4,h,h2]
theorem QJ(h:Q9 r=true)(h2:K0 r 2=some (u,r1)):W4 r=some r1:=by simp[W4,h,h2]
theorem B2(h:Q9 r=false):W4 r=some r:=by simp[W4,h]
theorem GV(h:Q9 r=true):KJ (Q9 r) ins r1=Z3 ins r1:=by simp[KJ,h]
theorem QD(h:Q9 r=false):KJ (Q9 r) ins r1=some (ins,r1):=by simp[KJ,h]
theorem R7(h1:0<r.length)(h2:(r[0]! == 0)=true):Q9 r=true:=by unfold Q9;rw[decide_eq_true h1,h2];rfl
theorem B8(h1:¬ 0<r.length):Q9 r=false:=by unfold Q9;rw[decide_eq_false h1];rfl
theorem B7(h2:¬ (r[0]! == 0)=true):Q9 r=false:=by unfold Q9;rw[Bool.eq_false_iff.2 h2,Bool.and_false]
theorem KN(h:0<r.length):EE b t r=none:=if_neg fun hc=>by have:=hc.1;omega
theorem KM(h:i7 t=false):EE b t r=none:=if_neg fun hc=>by have:=hc.2.1;rw[h] at this;cases this
theorem KP(h:(!(H8 t==b))=true):EE b t r=none:=if_neg fun hc=>by rw[hc.2.2] at h;simp at h
theorem TB(h1:¬ 0<r.length)(h2:i7 t=true)(h3:(!(H8 t==b))=false):EE b t r=some t:=if_pos ⟨by omega,h2,by simpa using h3⟩
end
theorem j86(x:InS)(h:x.wit=[]):Wk (G6 x) (K4 x):=by
 unfold G6 K4;rw[h];exact .aggL (.cons (.refl _) (.cons (.refl _) (.cons (.refl _) (.cons (.nils none 1) .nil))))
theorem l7{v k:UInt32}{ins:List InS}{outs:List OutS}(h:∀ x∈ins,x.wit=[]):Wk (.agg [.u32 v,.sl none 36 (ins.map G6),.sl none 2 (outs.map j9),.u32 k]) (.agg [.u32 v,.sl none 36 (ins.map K4),.sl none 2 (outs.map j9),.u32 k]):=
 .aggL (.cons (.refl _) (.cons (.slM fun x hx=>j86 x (h x hx)) (.cons (.refl _) (.cons (.refl _) .nil))))
theorem c5:Wk (.agg [.u32 0,.nils,.nils,.u32 0]) (D1 zeroT):=.aggL (.cons (.refl _) (.cons (.nils none 36) (.cons (.nils none 2) (.cons (.refl _) .nil))))
end Go.Sx

namespace Go.Sx
open Go.Proofs
theorem WY(b:List UInt8)(hb0:b.length<=100000)(v k:UInt32)(outs:List OutS)(w:List InS)(hw:w=[]):FnO Tryz.prog gl 96 [.ptr 0 0 [],.ptr 1 0 []] [(0,.var (.agg [.sl none 1 (b.map D.u8)])),(1,.var (.agg [.u32 v,.sl (some 112) 36 (([]:List InS).map G6),.sl (some 115) 2 (outs.map j9),.u32 k]))] (((Z3 w b).map fun q=>(.tup [],[(0,.var (.agg [b5 q.2])),(1,.var (.agg [.u32 v,.sl none 36 (q.1.map K4),.sl none 2 (outs.map j9),.u32 k]))],[]))):=by
 refine FnO.of (n:=38) (ids:=[0,1]) Tryz.func96 rfl rfl rfl (Nat.le_of_ble_eq_true rfl) fun C hC hD=>?_;refine W.seq ?_;refine D4 (n:=6) (by decide) (its:=[⟨5,_,true⟩,⟨6,_,true⟩,⟨7,_,true⟩,⟨8,_,true⟩,⟨9,_,true⟩,⟨10,_,true⟩]) (ks:=[]) (kk:=[]) (live:=[0,1,9,10]) (env':=[(0,_),(1,_),(9,_),(10,_)])
  (⟨Nat.le_of_ble_eq_true rfl,rfl,
   ⟨⟨rfl,rfl,fun _ τ hb ht hτ=>R.mov (evt (hτ 1 _ rfl)) rfl ht⟩,
   ⟨⟨rfl,rfl,fun _ τ hb ht hτ=>R.nilcP (hτ 5 _ rfl) ht⟩,
   ⟨⟨rfl,rfl,fun _ τ hb ht hτ=>R.fdP (hτ 6 _ rfl) ht⟩,
   ⟨⟨rfl,rfl,fun _ τ hb ht hτ=>R.ldO (hτ 7 _ rfl) (hb 1 _ rfl) rfl ht⟩,
   ⟨⟨rfl,rfl,fun _ τ hb ht hτ=>R6 (SC.alb (hτ 8 _ rfl) (hb 1 _ rfl) rfl) (List.length_map _) ht⟩,
   ⟨⟨rfl,rfl,fun _ τ hb ht hτ=>R.mov (show ev _ _ (.const (.int .i64 0))=some (.int ((0:Nat):Int)) from rfl) rfl ht⟩,
   trivial⟩⟩⟩⟩⟩⟩,rfl,rfl,rfl⟩)
  rfl (bx':=[(0,.var _),(1,.var _)]) rfl (n':=38) rfl (⟨[0,1,9,10],[(0,_),(1,_),(9,_),(10,_)],[(0,.var _),(1,.var _)],38,rfl,rfl,rfl, ?_⟩)
 refine W.block ?_;refine W.loop (α:={q__:Unit//True}) (fun q__=>⟨38,[(0,.ptr 0 0 []),(1,.ptr 1 0 []),(9,.int ((([]:List InS).length:Nat):Int)),(10,.int ((0:Nat):Int))],[(0,.var (.agg [.sl none 1 (b.map D.u8)])),(1,.var (.agg [.u32 v,.sl (some 112) 36 (([]:List InS).map G6),.sl (some 115) 2 (outs.map j9),.u32 k]))]⟩) (fun q__=>0) ⟨(()),trivial⟩ rfl ?_;rintro ⟨_,hinv⟩;show W _ _ _ _ ⟨38,[(0,.ptr 0 0 []),(1,.ptr 1 0 []),(9,.int ((([]:List InS).length:Nat):Int)),(10,.int ((0:Nat):Int))],[(0,.var (.agg [.sl none 1 (b.map D.u8)])),(1,.var (.agg [.u32 v,.sl (some 112) 36 (([]:List InS).map G6),.sl (some 115) 2 (outs.map j9),.u32 k]))]⟩;refine W.seq ?_;refine D4 (n:=1) (by decide) (its:=[⟨11,_,true⟩]) (ks:=[]) (kk:=[]) (live:=[0,1,9,10,11]) (env':=[(0,_),(1,_),(9,_),(10,_),(11,_)])
  (⟨Nat.le_of_ble_eq_true rfl,rfl,
   ⟨⟨rfl,rfl,fun _ τ hb ht hτ=>RD (0) (([]:List InS).length) (evt (hτ 10 _ rfl)) (evt (hτ 9 _ rfl)) ht⟩,
   trivial⟩,rfl,rfl,rfl⟩)
  rfl (bx':=[(0,.var _),(1,.var _)]) rfl (n':=38) rfl (⟨[0,1,9,10,11],[(0,_),(1,_),(9,_),(10,_),(11,_)],[(0,.var _),(1,.var _)],38,rfl,rfl,rfl, ?_⟩)
 refine W.seq ?_;refine v4 rfl (decide_eq_false (Nat.not_lt_zero _)) ?_;refine H5 1 (d':=.agg [.u32 v,.sl none 36 (([]:List InS).map K4),.sl none 2 (outs.map j9),.u32 k]) (bx':=[(0,.var _),(1,.var _)]) rfl (show(D.agg [.u32 v,.sl (some 112) 36 (([]:List InS).map G6),.sl (some 115) 2 (outs.map j9),.u32 k]).brw=_ from by simp only[D.brw,j7,List.map_cons,List.map_nil];rw[j2 Y3]) rfl ?_;refine W.exit ?_;exact U4 (r:=.tup []) (bx':=[(0,.var (.agg [.sl none 1 (b.map D.u8)])),(1,.var (.agg [.u32 v,.sl none 36 (([]:List InS).map K4),.sl none 2 (outs.map j9),.u32 k]))]) (nw:=[]) (by rw[hw];rfl) (Z8 (r:=.dead) (.inl rfl) rfl (rfl) ⟨rfl,⟨rfl,trivial⟩⟩)
end Go.Sx

namespace Go.Sx
open Go.Proofs
theorem rwits(b:List UInt8)(hb0:b.length<=100000)(v k:UInt32)(ins:List InS)(outs:List OutS)(hil:ins.length<=1000000) :
 FnO Tryz.prog gl 96 [.ptr 0 0 [],.ptr 1 0 []] [(0,.var (.agg [.sl none 1 (b.map D.u8)])),(1,.var (.agg [.u32 v,.sl (some 112) 36 (ins.map G6),.sl (some 115) 2 (outs.map j9),.u32 k]))]
  ((Z3 ins b).map fun q=>(.tup [],[(0,.var (.agg [b5 q.2])),(1,.var (.agg [.u32 v,.sl none 36 (q.1.map K4),.sl none 2 (outs.map j9),.u32 k]))],[])):=by
 by_cases hne:ins=[]
 ·subst hne;exact WY b hb0 v k outs [] rfl
 ·exact q87 b hb0 v k ins outs hil hne
section
variable{b r r1 r2 r3 r4 u:List UInt8}{x:UInt64}{v k:UInt32}{ins l:List InS}{outs:List OutS}
theorem z10(h:W4 r=some r1):r1.length<=r.length:=by
 unfold W4 at h;split at h
 ·cases h2:K0 r 2 with
  | none=>rw[h2] at h;cases h
  | some q=>
   obtain⟨y,z⟩:=q;rw[h2] at h;cases h;have:=Q8 h2;show z.length<=r.length;omega
 ·cases h;exact Nat.le_refl _
theorem k54{s:Bool}(h:KJ s ins r2=some (l,r3))(hb:r2.length<=100000)(hw:∀ x∈ins,x.tx.length=32/\x.wit=[]):(∀ x∈l,x.tx.length=32)/\UZ l+r3.length<=UZ ins+r2.length:=by
 unfold KJ at h;split at h
 ·have:=ON h hb hw;exact⟨this.1,this.2.1⟩
 ·cases h;exact⟨fun x hx=>(hw x hx).1,Nat.le_refl _⟩
theorem L6(h1:r.length<=100000)(h2:W4 r=some r1)(h3:U2 r1=some ((ins,outs),r2))(h4:KJ (Q9 r) ins r2=some (l,r3)):(⟨v,l,outs,k⟩:TxS).wf:=by
 have a1:=z10 h2;have a2:=XA h3 (by omega);have a3:=k54 h4 (by omega) a2.1;exact OO (by show UZ l+CP outs<=100000;omega) a3.1
end
end Go.Sx

namespace Go.Sx
open Go.Proofs Go.Proofs.Tryz
set_option maxRecDepth 100000
instance:LdT prog 64 1 false:=⟨_,_,O,O,O,O⟩
instance:ElT prog 64 1 8:=⟨_,_,O,O,O,O,O,dU,O⟩
instance:LdT prog 125 1 false:=⟨_,_,O,O,O,O⟩
instance:ElT prog 125 1 8:=⟨_,_,O,O,O,O,O,dU,O⟩
instance:LdT prog 141 0 true:=⟨_,_,O,O,O,O⟩
instance:ZrT prog 141 (.agg []):=⟨_,_,O,O,dU,O⟩
instance:BsT prog 141 ([]):=⟨_,_,_,O,O,O,O,dU⟩
instance:LdT prog 143 1 false:=⟨_,_,O,O,O,O⟩
instance:ElT prog 143 1 8:=⟨_,_,O,O,O,O,O,dU,O⟩
instance:LdT prog 144 1 false:=⟨_,_,O,O,O,O⟩
instance:ElT prog 144 1 8:=⟨_,_,O,O,O,O,O,dU,O⟩
instance:LdT prog 145 1 false:=⟨_,_,O,O,O,O⟩
instance:ElT prog 145 1 8:=⟨_,_,O,O,O,O,O,dU,O⟩
instance:LdT prog 146 3 true:=⟨_,_,O,O,O,O⟩
instance:ElT prog 146 3 24:=⟨_,_,O,O,O,O,O,dU,O⟩
instance:FtT prog 146 0 143 0:=⟨_,_,O,O,O,O⟩
instance:FdT prog 146 0 0:=⟨_,_,_,O,O,O,O,dU⟩
instance:FtT prog 146 1 144 1:=⟨_,_,O,O,O,O⟩
instance:FdT prog 146 1 1:=⟨_,_,_,O,O,O,O,dU⟩
instance:FtT prog 146 2 145 2:=⟨_,_,O,O,O,O⟩
instance:FdT prog 146 2 2:=⟨_,_,_,O,O,O,O,dU⟩
instance:ZrT prog 146 (.agg [.nilmap,.nilmap,.nilmap]):=⟨_,_,O,O,dU,O⟩
instance:BsT prog 146 ([.nilmap,.nilmap,.nilmap]):=⟨_,_,_,O,O,O,O,dU⟩
instance:LdT prog 147 3 true:=⟨_,_,O,O,O,O⟩
instance:ElT prog 147 3 24:=⟨_,_,O,O,O,O,O,dU,O⟩
instance:FtT prog 147 0 143 0:=⟨_,_,O,O,O,O⟩
instance:FdT prog 147 0 0:=⟨_,_,_,O,O,O,O,dU⟩
instance:FtT prog 147 1 144 1:=⟨_,_,O,O,O,O⟩
instance:FdT prog 147 1 1:=⟨_,_,_,O,O,O,O,dU⟩
instance:FtT prog 147 2 145 2:=⟨_,_,O,O,O,O⟩
instance:FdT prog 147 2 2:=⟨_,_,_,O,O,O,O,dU⟩
instance:ZrT prog 147 (.agg [.nilmap,.nilmap,.nilmap]):=⟨_,_,O,O,dU,O⟩
instance:BsT prog 147 ([.nilmap,.nilmap,.nilmap]):=⟨_,_,_,O,O,O,O,dU⟩
instance:LdT prog 149 1 false:=⟨_,_,O,O,O,O⟩
instance:ElT prog 149 1 8:=⟨_,_,O,O,O,O,O,dU,O⟩
instance:LdT prog 151 3 true:=⟨_,_,O,O,O,O⟩
instance:ElT prog 151 3 56:=⟨_,_,O,O,O,O,O,dU,O⟩
instance:FtT prog 151 0 37 0:=⟨_,_,O,O,O,O⟩
instance:FdT prog 151 0 0:=⟨_,_,_,O,O,O,O,dU⟩
instance:FtT prog 151 1 149 1:=⟨_,_,O,O,O,O⟩
instance:FdT prog 151 1 1:=⟨_,_,_,O,O,O,O,dU⟩
instance:FtT prog 151 2 150 2:=⟨_,_,O,O,O,O⟩
instance:FdT prog 151 2 2:=⟨_,_,_,O,O,O,O,dU⟩
instance:ZrT prog 151 (.agg [.nils,.nilmap,.nils]):=⟨_,_,O,O,dU,O⟩
instance:BsT prog 151 ([.nils,.nilmap,.nils]):=⟨_,_,_,O,O,O,O,dU⟩
instance:LdT prog 152 3 true:=⟨_,_,O,O,O,O⟩
instance:ElT prog 152 3 56:=⟨_,_,O,O,O,O,O,dU,O⟩
instance:FtT prog 152 0 37 0:=⟨_,_,O,O,O,O⟩
instance:FdT prog 152 0 0:=⟨_,_,_,O,O,O,O,dU⟩
instance:FtT prog 152 1 149 1:=⟨_,_,O,O,O,O⟩
instance:FdT prog 152 1 1:=⟨_,_,_,O,O,O,O,dU⟩
instance:FtT prog 152 2 150 2:=⟨_,_,O,O,O,O⟩
instance:FdT prog 152 2 2:=⟨_,_,_,O,O,O,O,dU⟩
instance:ZrT prog 152 (.agg [.nils,.nilmap,.nils]):=⟨_,_,O,O,dU,O⟩
instance:BsT prog 152 ([.nils,.nilmap,.nils]):=⟨_,_,_,O,O,O,O,dU⟩
instance:LdT prog 233 1 false:=⟨_,_,O,O,O,O⟩
instance:ElT prog 233 1 8:=⟨_,_,O,O,O,O,O,dU,O⟩
instance:MkT prog 143 109 205:=⟨Tryz.underlying143⟩
instance:MkT prog 144 109 141:=⟨Tryz.underlying144⟩
instance:MkT prog 145 23 141:=⟨Tryz.underlying145⟩
instance:MkT prog 149 23 168:=⟨Tryz.underlying149⟩
instance:MkT prog 233 109 3:=⟨Tryz.underlying233⟩
end Go.Sx

namespace Go.Sx
open Go.Proofs
theorem UG(t:TxS)(hwf:t.wf):Fn Tryz.prog gl 97 [D1 t] (.bool (i7 t)):=by
 refine Fn.of (n:=64) Tryz.func97 rfl rfl rfl (nU rfl) fun C hC hD=>?_;have h1:=hwf.ins;have h2:=hwf.outs;refine z5 2 [] [] [] (V1 0) Zt O O (⟨O,_,R.box (gV 0 O) O O (nU O),⟨O,_,j4 (kB false O) O (nU O),tV (V1 1) (p6 1) 64 O O O ?_⟩⟩);refine W.seq (W.seq ?_);by_cases hz:t.ins.length=0
 ·refine z8 10 [.y 11 _,.y 12 _,.y 13 _,.y 14 _,.y 15 _,.x 16,.x 17,.x 18,.x 19,.y 20 _] (V2 1 20) ⟨aU (fU 1 O O),aU (lU 11 O O O O O O O),aU<|zN O (lN _) O,aU<|KD 0 O O O,mU 14 O O,aF O O (gT (dT hz) O),aF O O (gT (dT hz) O),aF O O (gT (dT hz) O),aF O O (gT (dT hz) O),aU<|I4 O (dT hz) (kB true O) O O,Zt⟩ ?_;refine u7 O (O) ?_;refine q9 1 (y1 2) (V1 2) ⟨aU<|zK (kB false O) O O,Zt⟩ ?_;refine W.ret ?_;exact q8 (.inr O) O (congrArg D.bool (z51 hz).symm) O O Zt
 ·refine z8 10 (VS 11 12 13 14 15 16 17 18 19 20) (V2 1 20) ⟨aU (fU 1 O O),aU (lU 11 O O O O O O O),aU<|zN O (lN _) O,aU<|KD 0 O O O,mU 14 O O,aW O O (gF (dF hz) O) (fU 1 O O),aW O O (gF (dF hz) O) (lU 16 O O O O O O O),aW O O (gF (dF hz) O)<|zN O (lN _) O,aW O O (gF (dF hz) O)<|KD 0 O O O,aU<|zF O (dF hz) O O O,Zt⟩ ?_;refine z6 O (fun hc20=>?_) (fun hc20=>?_)
  ·refine q9 1 (y1 2) (V1 2) ⟨aU<|zK (kB false O) O O,Zt⟩ ?_;refine W.ret ?_;exact q8 (.inr O) O (congrArg D.bool (z50 hc20).symm) O O Zt
  ·refine W.skip (z5 2 [] [] [] (V1 1) Zt O O (⟨O,_,k40 Z2 D.int O (nU O),(P8 O O O (tV (V2 1 3) [(21,CG Z2 D.int _),(1,.var _)] 64 O O O ?_))⟩));refine W.seq (q9 4 (y4 22 23 24 25) (V5 1 3 23 24 25) ⟨aU (fU 1 O O),aU (lU 22 O O O O O O O),aU<|zN O (lN _) O,aU<|OP (kI 0 O) O O,Zt⟩ ?_);refine W.block ?_;refine W.loop (α:={q__:Nat//q__<=t.ins.length/\∀ j<q__,N4 (D5 t.ins j) (plc t.ins[j]!)=false}) (fun q__=>⟨64,[(1,.ptr 1 0 []),(3,.map 21),(23,.sl none 36 (t.ins.map K4)),(24,.int ((t.ins.length:Nat):Int)),(25,.int ((q__.1:Nat):Int))],[(21,CG Z2 D.int (D5 t.ins q__.1)),(1,.var (.agg [.u32 t.ver,.sl none 36 (t.ins.map K4),.sl none 2 (t.outs.map j9),.u32 t.lock]))]⟩) (fun q__=>t.ins.length-q__.1) ⟨(0),⟨Nat.zero_le _,fun j h=>absurd h (Nat.not_lt_zero _)⟩⟩ O ?_;rintro ⟨i,⟨hi,hno⟩⟩;show W _ _ _ _ ⟨64,[(1,.ptr 1 0 []),(3,.map 21),(23,.sl none 36 (t.ins.map K4)),(24,.int ((t.ins.length:Nat):Int)),(25,.int ((i:Nat):Int))],[(21,CG Z2 D.int (D5 t.ins i)),(1,.var (.agg [.u32 t.ver,.sl none 36 (t.ins.map K4),.sl none 2 (t.outs.map j9),.u32 t.lock]))]⟩;have hi:i<=t.ins.length:=hi;have hno:∀ j<i,N4 (D5 t.ins j) (plc t.ins[j]!)=false:=hno;refine q9 1 (y1 26) (V6 1 3 23 24 25 26) ⟨aU<|zS O O O,Zt⟩ ?_;refine W.seq ?_;refine z6 O (fun hc26=>?_) (fun hc26=>?_)
   ·refine W.skip (W.seq (W.block (z5 6 (y3 27 28 29) [] [] (V7 1 3 23 24 25 27 29) ⟨mU 25 O O,aU<|zI i O O O bU O,aU<|zL O O (mG t.ins) O O O O O,Zt⟩ O O (Q7 O O (P8 O O O (d5 O O O O O (tV (V7 1 3 4 5 23 24 25) [(5,.var _),(21,CG Z2 D.int _),(1,.var _)] 64 O O O ?_)))))));refine W.seq (q9 9 (y9 31 32 33 34 30 35 36 6 7) (V8 1 3 4 5 7 23 24 25) ⟨mU 3 O O,aU (fU 5 O O),aU (lU 32 O O O O O O O),aU fun _ B H K=>R.lookK (k:=plc t.ins[i]!) (z:=0) BN (K 31 _ O) (B 21 _ O) (eU K 33 O) O O (fun _=>rfl) H,aU<|zY O O O,aU<|zX O O O O,aU<|zX O O O O,aU<|zA O O O,aU<|zA O O O,Zt⟩ ?_);refine q9 1 (y1 37) (V8 1 3 4 5 23 24 25 37) ⟨mU 7 O O,Zt⟩ ?_;refine W.cond O (fun hc37=>?_) (fun hc37=>?_)
    ·refine W.seq ?_;refine C6 [] [(5,.var _),(21,CG Z2 D.int _),(1,.var _)] 64 O O O ?_;refine XS [1,21] (bx':=[(21,CG Z2 D.int _),(1,.var _)]) O O ⟨SE (fun _=>rfl) (fun _=>rfl),⟨O,Zt⟩⟩ (g7 hD O) ?_;refine z8 1 (y1 2) (V1 2) ⟨aU<|zK (kB false O) O O,Zt⟩ ?_;refine W.ret ?_;exact q8 (.inr O) O (congrArg D.bool (z49 hc26 hc37).symm) O O Zt
    ·refine W.skip ?_;refine u4 5 (y4 38 39 40 41) [] [] (V8 1 3 23 24 25 38 40 41) ⟨mU 3 O O,aU (fU 5 O O),aU (lU 39 O O O O O O O),mU 4 O O,Zt⟩ O O (⟨O,_,R.mupdN (k:=plc t.ins[i]!) (u:=((i:Nat):Int)) BN (gU 38 O) (xU 21 O) (gV 40 O) O (gV 41 O) O O (hc37),tV (V5 1 3 23 24 25) [(5,.var _),(21,CG Z2 D.int _),(1,.var _)] 64 O O O ?_⟩);refine XS [1,21] (bx':=[(21,CG Z2 D.int _),(1,.var _)]) O O ⟨SE (fun _=>rfl) (fun _=>rfl),⟨O,Zt⟩⟩ (g7 hD O) ?_;refine z8 2 (y2 42 25) (V5 1 3 23 24 25) ⟨aU<|Q6 1 O O bU O,mU 42 O O,Zt⟩ ?_;exact⟨⟨(i+1),⟨by omega,fun j hj=>(Nat.lt_succ_iff_lt_or_eq.1 hj).elim (hno j) (fun e=>e▸hc37)⟩⟩,rfl,(by simp only[];omega)⟩
   ·obtain rfl:i=t.ins.length:=by omega
    refine W.exit (q9 1 (y1 8) (V2 1 8) ⟨aU<|zK (kW (.int .u64 0) (.u64 0) O) O O,Zt⟩ ?_);refine W.seq (q9 4 (y4 43 44 45 46) (V5 1 8 44 45 46) ⟨aU (fU 1 O O),aU (lU 43 O O O O O O O),aU<|zN O (lN _) O,aU<|OP (kI 0 O) O O,Zt⟩ ?_);refine W.block ?_;refine W.loop (α:={q__:Nat//q__<=t.outs.length/\∀ j<q__,¬ 2100000000000000<t.outs[j]!.value/\¬ 2100000000000000<UX t.outs (j+1)}) (fun q__=>⟨64,[(1,.ptr 1 0 []),(8,.u64 (UX t.outs q__.1)),(44,.sl none 2 (t.outs.map j9)),(45,.int ((t.outs.length:Nat):Int)),(46,.int ((q__.1:Nat):Int))],[(21,CG Z2 D.int (D5 t.ins t.ins.length)),(1,.var (.agg [.u32 t.ver,.sl none 36 (t.ins.map K4),.sl none 2 (t.outs.map j9),.u32 t.lock]))]⟩) (fun q__=>t.outs.length-q__.1) ⟨(0),⟨Nat.zero_le _,fun j h=>absurd h (Nat.not_lt_zero _)⟩⟩ O ?_;rintro ⟨i,⟨hi,hmo⟩⟩;show W _ _ _ _ ⟨64,[(1,.ptr 1 0 []),(8,.u64 (UX t.outs i)),(44,.sl none 2 (t.outs.map j9)),(45,.int ((t.outs.length:Nat):Int)),(46,.int ((i:Nat):Int))],[(21,CG Z2 D.int (D5 t.ins t.ins.length)),(1,.var (.agg [.u32 t.ver,.sl none 36 (t.ins.map K4),.sl none 2 (t.outs.map j9),.u32 t.lock]))]⟩;have hi:i<=t.outs.length:=hi;have hmo:∀ j<i,¬ 2100000000000000<t.outs[j]!.value/\¬ 2100000000000000<UX t.outs (j+1):=hmo;refine q9 1 (y1 47) (V6 1 8 44 45 46 47) ⟨aU<|zS O O O,Zt⟩ ?_;refine W.seq ?_;refine z6 O (fun hc47=>?_) (fun hc47=>?_)
    ·refine W.skip (W.seq (W.block (z5 4 (y2 48 49) [] [] (V6 1 8 44 45 46 49) ⟨aU<|zI i O O O bU O,aU<|zL O O (mG t.outs) O O O O O,Zt⟩ O O (Q7 O O (d5 O O O O O (tV (V6 1 8 10 44 45 46) [(10,.var _),(21,CG Z2 D.int _),(1,.var _)] 64 O O O ?_))))));refine W.seq (q9 3 (y3 50 51 52) (V7 1 8 10 44 45 46 52) ⟨aU (fU 10 O O),aU (lU 50 O O O O O O O),aU<|B6 O (kW (.int .u64 2100000000000000) (.u64 2100000000000000) O) O O,Zt⟩ ?_);refine W.cond O (fun hc52=>?_) (fun hc52=>?_)
     ·refine W.seq ?_;refine C6 [] [(10,.var _),(21,CG Z2 D.int _),(1,.var _)] 64 O O O ?_;refine XS [1,21] (bx':=[(21,CG Z2 D.int _),(1,.var _)]) O O ⟨SE (fun _=>rfl) (fun _=>rfl),⟨O,Zt⟩⟩ (g7 hD O) ?_;refine z8 1 (y1 2) (V1 2) ⟨aU<|zK (kB false O) O O,Zt⟩ ?_;refine W.ret ?_;exact q8 (.inr O) O (congrArg D.bool (z48 hc47 (of_decide_eq_true hc52)).symm) O O Zt
     ·refine W.skip (q9 5 (y5 53 54 55 56 8) (V5 1 8 44 45 46) ⟨mU 8 O O,aU (fU 10 O O),aU (lU 54 O O O O O O O),aU<|zB O O O O,aU<|zA O O O,Zt⟩ ?_);refine W.seq ?_;refine XS [1,21] (bx':=[(21,CG Z2 D.int _),(1,.var _)]) O O ⟨SE (fun _=>rfl) (fun _=>rfl),⟨O,Zt⟩⟩ (g7 hD O) ?_;refine z8 2 (y2 57 58) (V6 1 8 44 45 46 58) ⟨mU 8 O O,aU<|B6 O (kW (.int .u64 2100000000000000) (.u64 2100000000000000) O) O O,Zt⟩ ?_;refine W.cond O (fun hc58=>?_) (fun hc58=>?_)
      ·refine q9 1 (y1 2) (V1 2) ⟨aU<|zK (kB false O) O O,Zt⟩ ?_;refine W.ret ?_;exact q8 (.inr O) O (congrArg D.bool (z47 hc47 (of_decide_eq_true hc58)).symm) O O Zt
      ·refine W.skip ?_;refine z8 2 (y2 59 46) (V5 1 8 44 45 46) ⟨aU<|Q6 1 O O bU O,mU 59 O O,Zt⟩ ?_;exact⟨⟨(i+1),⟨by omega,fun j hj=>(Nat.lt_succ_iff_lt_or_eq.1 hj).elim (hmo j) (fun e=>e▸⟨of_decide_eq_false hc52,of_decide_eq_false hc58⟩)⟩⟩,rfl,(by simp only[];omega)⟩
    ·obtain rfl:i=t.outs.length:=by omega
     refine W.exit (q9 5 (y5 60 61 62 63 2) (V1 2) ⟨aU (lU 1 O O O O O O O),aU<|zC hC (MF t hwf) O O O (F1 (.sl _ _ _ (j6 fun _=>.u8 _))) O,aU<|zN O (lN _) O,aU fun _ _ H K=>DW ((H8 t).length) (16384) (eU K 62 O) (kI 16384 O) H,aU<|zA O O O,Zt⟩ ?_);refine W.ret ?_;exact q8 (.inr O) O (congrArg D.bool (SV hz hc20 hno hmo).symm) O O Zt
end Go.Sx

namespace Go.Sx
open Go.Proofs
theorem x55(b:List UInt8)(hb0:b.length<=100000):Fn Tryz.prog gl 45 [.sl none 1 (b.map D.u8)] (.tup [D1 (Q3 b).1,.int (((Q3 b).2:Nat):Int)]):=by
 refine x82 (n:=65) Tryz.func45 rfl rfl rfl (nU rfl) fun C hC hD hdf hrd hkp=>?_;refine WD.seq ?_;refine u4 2 [] [] [] (V1 0) Zt O O (Q7 O O (Q7 O O (tV (V3 0 2 3) (p7 3 2) 65 O O O ?_)));refine WD.seq ?_;refine q9 3 (y3 6 7 8) (V4 0 2 3 8) ⟨mU 0 O O,aU<|zN O (lN _) O,aU<|l5 16384 O O O,Zt⟩ ?_;refine z6 O (fun hc8=>?_) (fun hc8=>?_)
 ·refine W.seq ?_;refine U3 2 (d':=D1 zeroT) (bx':=(p7 3 2)) O c5 O ?_;refine u4 3 (y1 9) [] [] (V3 2 3 9) ⟨aU (lU 2 O O O O O O O),Zt⟩ O O (d5 O O O O O ⟨O,_,Z7 (gU 3 O) (xU 3 O) O (kI 6 O) (by rfl) (by rfl) (by rfl) (by rfl) O,tV (V2 2 3) (p7 3 2) 65 O O O ?_⟩);refine W.ret ?_;exact fun a w hs=>w86 hdf hkp hs (Ends.many (.inr rfl) (.cons rfl rfl rfl (show LdT _ 31 4 true from inferInstance) (.cons rfl rfl rfl (show LdT _ 32 1 false from inferInstance) .nil)) (by rw[LD hc8]) (show[(2,false),(3,false)].Nodup by decide))
 ·refine W.skip ?_;refine WD.defer hrd rfl rfl rfl rfl (nU rfl) fun b2 b3 hb23=>?_
  obtain⟨C1,hC1⟩:∃ C1,C1=C.put (dfr 92 b2 b3) 2 3 b2 b3:=⟨_,rfl⟩
  rw[<- hC1];have hC0:=hC
  have hC:C1.gl=gl:=by rw[hC1];exact hC0
  have hD0:=hD
  have hD:∀ id c_,C1.pin id=some c_->T2 [2,3] id=true:=by rw[hC1];exact k83 hD0
  refine WD.of ?_;refine VD (live:=[0,2,3]) (env':=[(0,_),(2,_),(3,_)]) (bx':=[(3,.var _),(2,.var _)]) (n':=65) O O O ?_;refine W.seq ?_;refine KG 4 [.y 11 _,.y 12 _] [] [] [(0,_),(2,_),(3,_),(12,_)] [(3,.var _),(2,.var _)] 65 ⟨mU 0 O O,aU fun _ _ H K=>c9 (l:=[.nils]) (l':=[_]) (.cons (eU K 11 O) (.nil O)) ⟨⟨_,(eU K 11 O),O,O,O⟩,Zt⟩ H,Zt⟩ O O O O (⟨O,_,R.box (gV 12 O) O O (nU O),⟨O,_,j4 (gV 13 O) O (nU O),tV [(0,_),(2,_),(3,_),(4,_)] [(13,.var _),(3,.var _),(2,.var _)] 65 O O O ?_⟩⟩);refine W.seq ?_
  rcases hE:m0 b 4 with _|⟨x,r⟩
  ·refine g8 (n:=5) dU (its:=[.y 14 _]) (ks:=[]) (kk:=[]) (live:=[0,2,3,4,14]) (env':=[(0,_),(2,_),(3,_),(4,_),(14,_)]) (⟨nU O,O,⟨mU 4 O O,Zt⟩,O,O,O⟩) O (bx':=[(13,.var _),(3,.var _),(2,.var _)]) O (n':=65) O (⟨O,.inr (R.callXk [(0,13)] hC (g9 (c7 b (by omega) 4 dU) (by rw[hE];rfl)) (EvB.cons (gV 14 O) O O O (EvB.cons (kI 4 O) O O O EvB.nil)) O ⟨O,Zt⟩ ⟨O,Zt⟩ O (fun e he=>?_))⟩);obtain⟨ch,rfl,hch⟩:=he;intro a w hs;show bodyPostD _ _ _ _ _ _;rw[n8 hc8 (x54 hE)];exact M5 (z2:=#[.int .u32 0,.slice none 0 0,.slice none 0 0,.int .u32 0]) (z3:=#[.int .i64 5]) (r2:=.agg [.u32 0,.nils,.nils,.u32 0]) hC1 hdf hkp dU (hb23 dU) rfl inferInstance (fun w ch hch cs2 cs3 e2 e3 q2 s2 q3 s3=>M3 b2 b3 w hch (hb23 dU) q2 s2 q3 s3) ⟨ch,rfl,hch⟩ rfl rfl rfl rfl rfl rfl rfl rfl rfl rfl rfl rfl rfl rfl c5 rfl hs
  have hr:=K3 hE;refine KG 5 [.y 14 _] [] [] [(0,_),(2,_),(3,_),(4,_),(14,_)] [(13,.var _),(3,.var _),(2,.var _)] 65 ⟨mU 4 O O,Zt⟩ O O O O (⟨O,_,R.callB [(0,13)] hC (v7 (r:=.u64 x) (bx':=[(0,.var (.agg [.sl none 1 (r.map D.u8)]))]) (nw:=[]) (c7 b (by omega) 4 dU) (by rw[hE];rfl)) (EvB.cons (gV 14 O) O O O (EvB.cons (kI 4 O) O O O EvB.nil)) O ⟨O,Zt⟩ ⟨O,Zt⟩ O O O O O O (nU O),⟨O,_,R.conv (gV 15 O) O (nU O),⟨O,_,R.fdP (gU 2 O) (nU O),⟨O,_,Z7 (gU 17 O) (xU 2 O) O (gV 16 O) (by rfl) (by rfl) (by rfl) (by rfl) O,tV [(0,_),(2,_),(3,_),(4,_)] [(13,.var _),(3,.var _),(2,.var _)] 65 O O O ?_⟩⟩⟩⟩);refine W.seq ?_;by_cases hs1:0<r.length
  ·by_cases hs2:(r[0]! == 0)=true
   ·refine z8 16 (x87 18 19 20 21 22 23 24 25 26 27 28 29 30 31 32 5) (V5 0 2 3 4 5) ⟨mU 4 O O,aU<|P7 O O,aU (fU 19 O O),aU (lU 20 O O O O O O O),aU<|zN O (lN _) O,aU<|l5 0 O O O,mU 23 O O,aW O O (gT (dT hs1) O)<|zV O O O,aW O O (gT (dT hs1) O)<|P7 O O,aW O O (gT (dT hs1) O) (fU 26 O O),aW O O (gT (dT hs1) O) (lU 27 O O O O O O O),aW O O (gT (dT hs1) O) fun _ _ H K=>R.idxN (0) (SC.sl (K 28 _ O)) (b4 (kI 0 O)) O bU H dU,aW O O (gT (dT hs1) O)<|zL O O (mG r) O O O O O,aW O O (gT (dT hs1) O)<|B6 O (kW (.int .u8 0) (.u8 0) O) O O,aU<|zT O (dT hs1) O O O,aU<|zA O O O,Zt⟩ ?_;refine W.seq (q9 1 (y1 33) (V6 0 2 3 4 5 33) ⟨mU 5 O O,Zt⟩ ?_);refine u7 O (hs2) ?_
    rcases hE2:K0 r 2 with _|⟨u,r1⟩
    ·refine g8 (n:=2) dU (its:=[.y 34 _]) (ks:=[]) (kk:=[]) (live:=[0,2,3,4,5,34]) (env':=[(0,_),(2,_),(3,_),(4,_),(5,_),(34,_)]) (⟨nU O,O,⟨mU 4 O O,Zt⟩,O,O,O⟩) O (bx':=[(13,.var _),(3,.var _),(2,.var _)]) O (n':=65) O (⟨O,.inr (R.callXk [(0,13)] hC (g9 (O9 r (by omega) 2 (by omega)) (by rw[hE2];rfl)) (EvB.cons (gV 34 O) O O O (EvB.cons (kI 2 O) O O O EvB.nil)) O ⟨O,Zt⟩ ⟨O,Zt⟩ O (fun e he=>?_))⟩);obtain⟨ch,rfl,hch⟩:=he;intro a w hs;show bodyPostD _ _ _ _ _ _;rw[n8 hc8 (x53 hE (j66 (R7 hs1 hs2) hE2))];exact M5 (z2:=#[.int .u32 0,.slice none 0 0,.slice none 0 0,.int .u32 0]) (z3:=#[.int .i64 5]) (r2:=.agg [.u32 0,.nils,.nils,.u32 0]) hC1 hdf hkp dU (hb23 dU) rfl inferInstance (fun w ch hch cs2 cs3 e2 e3 q2 s2 q3 s3=>M3 b2 b3 w hch (hb23 dU) q2 s2 q3 s3) ⟨ch,rfl,hch⟩ rfl rfl rfl rfl rfl rfl rfl rfl rfl rfl rfl rfl rfl rfl c5 rfl hs
    have hr1:=Q8 hE2;refine KG 2 [.y 34 _] [] [] [(0,_),(2,_),(3,_),(4,_),(5,_),(34,_)] [(13,.var _),(3,.var _),(2,.var _)] 65 ⟨mU 4 O O,Zt⟩ O O O O (⟨O,_,R.callB [(0,13)] hC (v7 (r:=.sl none 1 (u.map D.u8)) (bx':=[(0,.var (.agg [.sl none 1 (r1.map D.u8)]))]) (nw:=[]) (O9 r (by omega) 2 (by omega)) (by rw[hE2];rfl)) (EvB.cons (gV 34 O) O O O (EvB.cons (kI 2 O) O O O EvB.nil)) O ⟨O,Zt⟩ ⟨O,Zt⟩ O O O O O O (nU O),tV [(0,_),(2,_),(3,_),(4,_),(5,_)] [(13,.var _),(3,.var _),(2,.var _)] 65 O O O ?_⟩);refine W.seq ?_
    rcases hE3:U2 r1 with _|⟨⟨ins,outs⟩,r2⟩
    ·refine n9 2 [1] 112 36 (bx':=[(13,.var _),(3,.var _),(2,.var _)]) O O O O O ?_;refine n9 2 [2] 115 2 (bx':=[(13,.var _),(3,.var _),(2,.var _)]) O O O O O ?_;refine g8 (n:=2) dU (its:=[.y 36 _]) (ks:=[]) (kk:=[]) (live:=[0,2,3,4,5,36]) (env':=[(0,_),(2,_),(3,_),(4,_),(5,_),(36,_)]) (⟨nU O,O,⟨mU 4 O O,Zt⟩,O,O,O⟩) O (bx':=[(13,.var _),(3,.var _),(2,.var _)]) O (n':=65) O (⟨O,.inr (R.callXk [(0,13),(1,2)] hC (g9 (W2 r1 (by omega) x.toUInt32 0) (by rw[hE3];rfl)) (EvB.cons (gV 36 O) O O O (EvB.cons (gV 2 O) O O O EvB.nil)) O ⟨O,⟨O,Zt⟩⟩ ⟨O,⟨O,Zt⟩⟩ O (fun e he=>?_))⟩);obtain⟨ch,rfl,hch⟩:=he;intro a w hs;show bodyPostD _ _ _ _ _ _;rw[n8 hc8 (z93 hE (QJ (R7 hs1 hs2) hE2) hE3)];exact M5 (z2:=#[.int .u32 0,.slice none 0 0,.slice none 0 0,.int .u32 0]) (z3:=#[.int .i64 5]) (r2:=.agg [.u32 0,.nils,.nils,.u32 0]) hC1 hdf hkp dU (hb23 dU) rfl inferInstance (fun w ch hch cs2 cs3 e2 e3 q2 s2 q3 s3=>M3 b2 b3 w hch (hb23 dU) q2 s2 q3 s3) ⟨ch,rfl,hch⟩ rfl rfl rfl rfl rfl rfl rfl rfl rfl rfl rfl rfl rfl rfl c5 rfl hs
    have hbs:=XA hE3 (by omega);have hil:=GZ ins;refine n9 2 [1] 112 36 (bx':=[(13,.var _),(3,.var _),(2,.var _)]) O O O O O ?_;refine n9 2 [2] 115 2 (bx':=[(13,.var _),(3,.var _),(2,.var _)]) O O O O O ?_;refine KG 2 [.y 36 _] [] [] [(0,_),(2,_),(3,_),(4,_),(5,_),(36,_)] [(13,.var _),(3,.var _),(2,.var _)] 65 ⟨mU 4 O O,Zt⟩ O O O O (⟨O,_,R.callB [(0,13),(1,2)] hC (v7 (r:=.tup []) (bx':=[(0,.var (.agg [.sl none 1 (r2.map D.u8)])),(1,.var (.agg [.u32 x.toUInt32,.sl (some 112) 36 (ins.map G6),.sl (some 115) 2 (outs.map j9),.u32 0]))]) (nw:=[]) (W2 r1 (by omega) x.toUInt32 0) (by rw[hE3];rfl)) (EvB.cons (gV 36 O) O O O (EvB.cons (gV 2 O) O O O EvB.nil)) O ⟨O,⟨O,Zt⟩⟩ ⟨O,⟨O,Zt⟩⟩ O O O O O O (nU O),tV [(0,_),(2,_),(3,_),(4,_),(5,_)] [(13,.var _),(3,.var _),(2,.var _)] 65 O O O ?_⟩);refine W.seq (q9 1 (y1 38) (V5 0 2 3 4 38) ⟨mU 5 O O,Zt⟩ ?_);refine u7 O (hs2) ?_
    rcases hE4:Z3 ins r2 with _|⟨l,r3⟩
    ·refine g8 (n:=2) dU (its:=[.y 39 _]) (ks:=[]) (kk:=[]) (live:=[0,2,3,4,39]) (env':=[(0,_),(2,_),(3,_),(4,_),(39,_)]) (⟨nU O,O,⟨mU 4 O O,Zt⟩,O,O,O⟩) O (bx':=[(13,.var _),(3,.var _),(2,.var _)]) O (n':=65) O (⟨O,.inr (R.callXk [(0,13),(1,2)] hC (g9 (rwits r2 (by omega) x.toUInt32 0 ins outs (by omega)) (by rw[hE4];rfl)) (EvB.cons (gV 39 O) O O O (EvB.cons (gV 2 O) O O O EvB.nil)) O ⟨O,⟨O,Zt⟩⟩ ⟨O,⟨O,Zt⟩⟩ O (fun e he=>?_))⟩);obtain⟨ch,rfl,hch⟩:=he;intro a w hs;show bodyPostD _ _ _ _ _ _;rw[n8 hc8 (x52 hE (QJ (R7 hs1 hs2) hE2) hE3 ((GV (R7 hs1 hs2)).trans hE4))];exact M5 (z2:=#[.int .u32 0,.slice none 0 0,.slice none 0 0,.int .u32 0]) (z3:=#[.int .i64 5]) (r2:=.agg [.u32 0,.nils,.nils,.u32 0]) hC1 hdf hkp dU (hb23 dU) rfl inferInstance (fun w ch hch cs2 cs3 e2 e3 q2 s2 q3 s3=>M3 b2 b3 w hch (hb23 dU) q2 s2 q3 s3) ⟨ch,rfl,hch⟩ rfl rfl rfl rfl rfl rfl rfl rfl rfl rfl rfl rfl rfl rfl c5 rfl hs
    have hws:=ON hE4 (by omega) hbs.1;refine KG 2 [.y 39 _] [] [] [(0,_),(2,_),(3,_),(4,_),(39,_)] [(13,.var _),(3,.var _),(2,.var _)] 65 ⟨mU 4 O O,Zt⟩ O O O O (⟨O,_,R.callB [(0,13),(1,2)] hC (v7 (r:=.tup []) (bx':=[(0,.var (.agg [.sl none 1 (r3.map D.u8)])),(1,.var (.agg [.u32 x.toUInt32,.sl none 36 (l.map K4),.sl none 2 (outs.map j9),.u32 0]))]) (nw:=[]) (rwits r2 (by omega) x.toUInt32 0 ins outs (by omega)) (by rw[hE4];rfl)) (EvB.cons (gV 39 O) O O O (EvB.cons (gV 2 O) O O O EvB.nil)) O ⟨O,⟨O,Zt⟩⟩ ⟨O,⟨O,Zt⟩⟩ O O O O O O (nU O),tV [(0,_),(2,_),(3,_),(4,_)] [(13,.var _),(3,.var _),(2,.var _)] 65 O O O ?_⟩);refine W.seq ?_
    rcases hE5:m0 r3 4 with _|⟨k,r4⟩
    ·refine g8 (n:=5) dU (its:=[.y 41 _]) (ks:=[]) (kk:=[]) (live:=[0,2,3,4,41]) (env':=[(0,_),(2,_),(3,_),(4,_),(41,_)]) (⟨nU O,O,⟨mU 4 O O,Zt⟩,O,O,O⟩) O (bx':=[(13,.var _),(3,.var _),(2,.var _)]) O (n':=65) O (⟨O,.inr (R.callXk [(0,13)] hC (g9 (c7 r3 (by omega) 4 dU) (by rw[hE5];rfl)) (EvB.cons (gV 41 O) O O O (EvB.cons (kI 4 O) O O O EvB.nil)) O ⟨O,Zt⟩ ⟨O,Zt⟩ O (fun e he=>?_))⟩);obtain⟨ch,rfl,hch⟩:=he;intro a w hs;show bodyPostD _ _ _ _ _ _;rw[n8 hc8 (z92 hE (QJ (R7 hs1 hs2) hE2) hE3 ((GV (R7 hs1 hs2)).trans hE4) hE5)];exact M5 (z2:=#[.int .u32 0,.slice none 0 0,.slice none 0 0,.int .u32 0]) (z3:=#[.int .i64 5]) (r2:=.agg [.u32 0,.nils,.nils,.u32 0]) hC1 hdf hkp dU (hb23 dU) rfl inferInstance (fun w ch hch cs2 cs3 e2 e3 q2 s2 q3 s3=>M3 b2 b3 w hch (hb23 dU) q2 s2 q3 s3) ⟨ch,rfl,hch⟩ rfl rfl rfl rfl rfl rfl rfl rfl rfl rfl rfl rfl rfl rfl c5 rfl hs
    refine KG 5 [.y 41 _] [] [] [(0,_),(2,_),(3,_),(4,_),(41,_)] [(13,.var _),(3,.var _),(2,.var _)] 65 ⟨mU 4 O O,Zt⟩ O O O O (⟨O,_,R.callB [(0,13)] hC (v7 (r:=.u64 k) (bx':=[(0,.var (.agg [.sl none 1 (r4.map D.u8)]))]) (nw:=[]) (c7 r3 (by omega) 4 dU) (by rw[hE5];rfl)) (EvB.cons (gV 41 O) O O O (EvB.cons (kI 4 O) O O O EvB.nil)) O ⟨O,Zt⟩ ⟨O,Zt⟩ O O O O O O (nU O),⟨O,_,R.conv (gV 42 O) O (nU O),⟨O,_,R.fdP (gU 2 O) (nU O),⟨O,_,Z7 (gU 44 O) (xU 2 O) O (gV 43 O) (by rfl) (by rfl) (by rfl) (by rfl) O,tV [(0,_),(2,_),(3,_),(4,_)] [(13,.var _),(3,.var _),(2,.var _)] 65 O O O ?_⟩⟩⟩⟩);refine W.seq (W.seq ?_);by_cases d1:0<r4.length
    ·have hwf:((⟨x.toUInt32,l,outs,k.toUInt32⟩:TxS)).wf:=L6 (by omega) (QJ (R7 hs1 hs2) hE2) hE3 ((GV (R7 hs1 hs2)).trans hE4);refine z8 18 [.y 45 _,.y 46 _,.y 47 _,.y 48 _,.y 49 _,.y 50 _,.y 51 _,.x 52,.x 53,.x 54,.y 55 _,.y 56 _,.x 57,.x 58,.x 59,.x 60,.x 61,.y 62 _] (V3 2 3 62) ⟨mU 4 O O,aU<|P7 O O,aU (fU 46 O O),aU (lU 47 O O O O O O O),aU<|zN O (lN _) O,aU<|l5 0 O O O,mU 50 O O,aF O O (gT (dT d1) O),aF O O (gT (dT d1) O),aF O O (gT (dT d1) O),aU<|I4 O (dT d1) (kB true O) O O,mU 55 O O,aF O O (gT (O) O),aF O O (gT (O) O),aF O O (gT (O) O),aF O O (gT (O) O),aF O O (gT (O) O),aU<|I4 O (O) (kB true O) O O,Zt⟩ ?_;refine u7 O (O) ?_;refine g8 (n:=2) dU (its:=[.y 63 _]) (ks:=[]) (kk:=[]) (live:=[2,3,63]) (env':=[(2,_),(3,_),(63,_)]) (⟨nU O,O,⟨aU fun _ _ H _=>R.mkifc (kI 5 O) O O H,Zt⟩,O,O,O⟩) O (bx':=[(13,.var _),(3,.var _),(2,.var _)]) O (n':=65) O (⟨O,.inr (R.panic (gU 63 O) (fun e he=>?_))⟩);obtain⟨ch,rfl,hch⟩:=he;intro a w hs;show bodyPostD _ _ _ _ _ _;rw[n8 hc8 (by rw[XC hE (QJ (R7 hs1 hs2) hE2) hE3 ((GV (R7 hs1 hs2)).trans hE4) hE5];first|exact KN d1|exact KM d2|exact KP hc62)];exact M5 (z2:=#[.int .u32 0,.slice none 0 0,.slice none 0 0,.int .u32 0]) (z3:=#[.int .i64 5]) (r2:=.agg [.u32 0,.nils,.nils,.u32 0]) hC1 hdf hkp dU (hb23 dU) rfl inferInstance (fun w ch hch cs2 cs3 e2 e3 q2 s2 q3 s3=>M3 b2 b3 w hch (hb23 dU) q2 s2 q3 s3) ⟨ch,rfl,hch⟩ rfl rfl rfl rfl rfl rfl rfl rfl rfl rfl rfl rfl rfl rfl c5 rfl hs
    ·by_cases d2:i7 (⟨x.toUInt32,l,outs,k.toUInt32⟩:TxS)=false
     ·have hwf:((⟨x.toUInt32,l,outs,k.toUInt32⟩:TxS)).wf:=L6 (by omega) (QJ (R7 hs1 hs2) hE2) hE3 ((GV (R7 hs1 hs2)).trans hE4);refine z8 18 [.y 45 _,.y 46 _,.y 47 _,.y 48 _,.y 49 _,.y 50 _,.y 51 _,.y 52 _,.y 53 _,.y 54 _,.y 55 _,.y 56 _,.x 57,.x 58,.x 59,.x 60,.x 61,.y 62 _] (V3 2 3 62) ⟨mU 4 O O,aU<|P7 O O,aU (fU 46 O O),aU (lU 47 O O O O O O O),aU<|zN O (lN _) O,aU<|l5 0 O O O,mU 50 O O,aW O O (gF (dF d1) O) (lU 2 O O O O O O O),aW O O (gF (dF d1) O)<|zC hC (UG (⟨x.toUInt32,l,outs,k.toUInt32⟩:TxS) hwf) O O O (F1 (.bool _)) O,aW O O (gF (dF d1) O)<|UQ O O O,aU<|zF O (dF d1) O O O,mU 55 O O,aF O O (gT (by rw[d2];rfl) O),aF O O (gT (by rw[d2];rfl) O),aF O O (gT (by rw[d2];rfl) O),aF O O (gT (by rw[d2];rfl) O),aF O O (gT (by rw[d2];rfl) O),aU<|I4 O (by rw[d2];rfl) (kB true O) O O,Zt⟩ ?_;refine u7 O (O) ?_;refine g8 (n:=2) dU (its:=[.y 63 _]) (ks:=[]) (kk:=[]) (live:=[2,3,63]) (env':=[(2,_),(3,_),(63,_)]) (⟨nU O,O,⟨aU fun _ _ H _=>R.mkifc (kI 5 O) O O H,Zt⟩,O,O,O⟩) O (bx':=[(13,.var _),(3,.var _),(2,.var _)]) O (n':=65) O (⟨O,.inr (R.panic (gU 63 O) (fun e he=>?_))⟩);obtain⟨ch,rfl,hch⟩:=he;intro a w hs;show bodyPostD _ _ _ _ _ _;rw[n8 hc8 (by rw[XC hE (QJ (R7 hs1 hs2) hE2) hE3 ((GV (R7 hs1 hs2)).trans hE4) hE5];first|exact KN d1|exact KM d2|exact KP hc62)];exact M5 (z2:=#[.int .u32 0,.slice none 0 0,.slice none 0 0,.int .u32 0]) (z3:=#[.int .i64 5]) (r2:=.agg [.u32 0,.nils,.nils,.u32 0]) hC1 hdf hkp dU (hb23 dU) rfl inferInstance (fun w ch hch cs2 cs3 e2 e3 q2 s2 q3 s3=>M3 b2 b3 w hch (hb23 dU) q2 s2 q3 s3) ⟨ch,rfl,hch⟩ rfl rfl rfl rfl rfl rfl rfl rfl rfl rfl rfl rfl rfl rfl c5 rfl hs
     ·have hwf:((⟨x.toUInt32,l,outs,k.toUInt32⟩:TxS)).wf:=L6 (by omega) (QJ (R7 hs1 hs2) hE2) hE3 ((GV (R7 hs1 hs2)).trans hE4);refine z8 18 (w57 45 46 47 48 49 50 51 52 53 54 55 56 57 58 59 60 61 62) (V3 2 3 62) ⟨mU 4 O O,aU<|P7 O O,aU (fU 46 O O),aU (lU 47 O O O O O O O),aU<|zN O (lN _) O,aU<|l5 0 O O O,mU 50 O O,aW O O (gF (dF d1) O) (lU 2 O O O O O O O),aW O O (gF (dF d1) O)<|zC hC (UG (⟨x.toUInt32,l,outs,k.toUInt32⟩:TxS) hwf) O O O (F1 (.bool _)) O,aW O O (gF (dF d1) O)<|UQ O O O,aU<|zF O (dF d1) O O O,mU 55 O O,aW O O (gF (by simpa using d2) O) (lU 2 O O O O O O O),aW O O (gF (by simpa using d2) O)<|zC hC (MF (⟨x.toUInt32,l,outs,k.toUInt32⟩:TxS) hwf) O O O (F1 (.sl _ _ _ (j6 fun _=>.u8 _))) O,aW O O (gF (by simpa using d2) O)<|zV O O O,aW O O (gF (by simpa using d2) O) fun _ _ H K=>w6 hC (RJ (H8 (⟨x.toUInt32,l,outs,k.toUInt32⟩:TxS)) b) (Bc (Bor.sc (SC.sl (K 58 _ O)) (j2 (fun _=>rfl))) (Bc (Bp (eU K 59 O) O O) Bn)) (F1 (.bool _)) H,aW O O (gF (by simpa using d2) O)<|UQ O O O,aU<|zF O (by simpa using d2) O O O,Zt⟩ ?_;refine W.cond O (fun hc62=>?_) (fun hc62=>?_)
      ·refine g8 (n:=2) dU (its:=[.y 63 _]) (ks:=[]) (kk:=[]) (live:=[2,3,63]) (env':=[(2,_),(3,_),(63,_)]) (⟨nU O,O,⟨aU fun _ _ H _=>R.mkifc (kI 5 O) O O H,Zt⟩,O,O,O⟩) O (bx':=[(13,.var _),(3,.var _),(2,.var _)]) O (n':=65) O (⟨O,.inr (R.panic (gU 63 O) (fun e he=>?_))⟩);obtain⟨ch,rfl,hch⟩:=he;intro a w hs;show bodyPostD _ _ _ _ _ _;rw[n8 hc8 (by rw[XC hE (QJ (R7 hs1 hs2) hE2) hE3 ((GV (R7 hs1 hs2)).trans hE4) hE5];first|exact KN d1|exact KM d2|exact KP hc62)];exact M5 (z2:=#[.int .u32 0,.slice none 0 0,.slice none 0 0,.int .u32 0]) (z3:=#[.int .i64 5]) (r2:=.agg [.u32 0,.nils,.nils,.u32 0]) hC1 hdf hkp dU (hb23 dU) rfl inferInstance (fun w ch hch cs2 cs3 e2 e3 q2 s2 q3 s3=>M3 b2 b3 w hch (hb23 dU) q2 s2 q3 s3) ⟨ch,rfl,hch⟩ rfl rfl rfl rfl rfl rfl rfl rfl rfl rfl rfl rfl rfl rfl c5 rfl hs
      ·refine W.skip (W.seq ?_);refine KG 3 [.y 64 _] [] [] [(2,_),(3,_),(64,_)] [(13,.var _),(3,.var _),(2,.var _)] 65 ⟨aU (lU 2 O O O O O O O),Zt⟩ O O O O (⟨O,_,Z7 (gU 2 O) (xU 2 O) O (gV 64 O) (by rfl) (by rfl) (by rfl) (by rfl) O,⟨O,_,Z7 (gU 3 O) (xU 3 O) O (kI 0 O) (by rfl) (by rfl) (by rfl) (by rfl) O,tV [(2,_),(3,_)] [(13,.var _),(3,.var _),(2,.var _)] 65 O O O ?_⟩⟩);refine W.ret ?_;intro a w hs;show bodyPostD _ _ _ _ _ _;rw[XD hc8 (by rw[XC hE (QJ (R7 hs1 hs2) hE2) hE3 ((GV (R7 hs1 hs2)).trans hE4) hE5];exact TB d1 (by simpa using d2) hc62)];exact x61 hC1 hdf hkp dU rfl inferInstance (z95 b2 b3) (.inr rfl) rfl rfl rfl rfl rfl rfl rfl rfl rfl rfl rfl rfl hs
   ·refine z8 16 (x87 18 19 20 21 22 23 24 25 26 27 28 29 30 31 32 5) (V5 0 2 3 4 5) ⟨mU 4 O O,aU<|P7 O O,aU (fU 19 O O),aU (lU 20 O O O O O O O),aU<|zN O (lN _) O,aU<|l5 0 O O O,mU 23 O O,aW O O (gT (dT hs1) O)<|zV O O O,aW O O (gT (dT hs1) O)<|P7 O O,aW O O (gT (dT hs1) O) (fU 26 O O),aW O O (gT (dT hs1) O) (lU 27 O O O O O O O),aW O O (gT (dT hs1) O) fun _ _ H K=>R.idxN (0) (SC.sl (K 28 _ O)) (b4 (kI 0 O)) O bU H dU,aW O O (gT (dT hs1) O)<|zL O O (mG r) O O O O O,aW O O (gT (dT hs1) O)<|B6 O (kW (.int .u8 0) (.u8 0) O) O O,aU<|zT O (dT hs1) O O O,aU<|zA O O O,Zt⟩ ?_;refine W.seq (q9 1 (y1 33) (V6 0 2 3 4 5 33) ⟨mU 5 O O,Zt⟩ ?_);refine v4 O (by simpa using hs2) ?_;refine W.skip (W.seq ?_)
    rcases hE3:U2 r with _|⟨⟨ins,outs⟩,r2⟩
    ·refine n9 2 [1] 112 36 (bx':=[(13,.var _),(3,.var _),(2,.var _)]) O O O O O ?_;refine n9 2 [2] 115 2 (bx':=[(13,.var _),(3,.var _),(2,.var _)]) O O O O O ?_;refine g8 (n:=2) dU (its:=[.y 36 _]) (ks:=[]) (kk:=[]) (live:=[0,2,3,4,5,36]) (env':=[(0,_),(2,_),(3,_),(4,_),(5,_),(36,_)]) (⟨nU O,O,⟨mU 4 O O,Zt⟩,O,O,O⟩) O (bx':=[(13,.var _),(3,.var _),(2,.var _)]) O (n':=65) O (⟨O,.inr (R.callXk [(0,13),(1,2)] hC (g9 (W2 r (by omega) x.toUInt32 0) (by rw[hE3];rfl)) (EvB.cons (gV 36 O) O O O (EvB.cons (gV 2 O) O O O EvB.nil)) O ⟨O,⟨O,Zt⟩⟩ ⟨O,⟨O,Zt⟩⟩ O (fun e he=>?_))⟩);obtain⟨ch,rfl,hch⟩:=he;intro a w hs;show bodyPostD _ _ _ _ _ _;rw[n8 hc8 (z93 hE (B2 (B7 hs2)) hE3)];exact M5 (z2:=#[.int .u32 0,.slice none 0 0,.slice none 0 0,.int .u32 0]) (z3:=#[.int .i64 5]) (r2:=.agg [.u32 0,.nils,.nils,.u32 0]) hC1 hdf hkp dU (hb23 dU) rfl inferInstance (fun w ch hch cs2 cs3 e2 e3 q2 s2 q3 s3=>M3 b2 b3 w hch (hb23 dU) q2 s2 q3 s3) ⟨ch,rfl,hch⟩ rfl rfl rfl rfl rfl rfl rfl rfl rfl rfl rfl rfl rfl rfl c5 rfl hs
    have hbs:=XA hE3 (by omega);have hil:=GZ ins;refine n9 2 [1] 112 36 (bx':=[(13,.var _),(3,.var _),(2,.var _)]) O O O O O ?_;refine n9 2 [2] 115 2 (bx':=[(13,.var _),(3,.var _),(2,.var _)]) O O O O O ?_;refine KG 2 [.y 36 _] [] [] [(0,_),(2,_),(3,_),(4,_),(5,_),(36,_)] [(13,.var _),(3,.var _),(2,.var _)] 65 ⟨mU 4 O O,Zt⟩ O O O O (⟨O,_,R.callB [(0,13),(1,2)] hC (v7 (r:=.tup []) (bx':=[(0,.var (.agg [.sl none 1 (r2.map D.u8)])),(1,.var (.agg [.u32 x.toUInt32,.sl (some 112) 36 (ins.map G6),.sl (some 115) 2 (outs.map j9),.u32 0]))]) (nw:=[]) (W2 r (by omega) x.toUInt32 0) (by rw[hE3];rfl)) (EvB.cons (gV 36 O) O O O (EvB.cons (gV 2 O) O O O EvB.nil)) O ⟨O,⟨O,Zt⟩⟩ ⟨O,⟨O,Zt⟩⟩ O O O O O O (nU O),tV [(0,_),(2,_),(3,_),(4,_),(5,_)] [(13,.var _),(3,.var _),(2,.var _)] 65 O O O ?_⟩);refine W.seq (q9 1 (y1 38) (V5 0 2 3 4 38) ⟨mU 5 O O,Zt⟩ ?_);refine v4 O (by simpa using hs2) ?_;refine W.skip (W.seq ?_)
    rcases hE5:m0 r2 4 with _|⟨k,r4⟩
    ·refine H5 2 (d':=.agg [.u32 x.toUInt32,.sl none 36 (ins.map G6),.sl none 2 (outs.map j9),.u32 0]) (bx':=[(13,.var _),(3,.var _),(2,.var _)]) O (show(.agg [.u32 x.toUInt32,.sl (some 112) 36 (ins.map G6),.sl (some 115) 2 (outs.map j9),.u32 0]:D).brw=_ from by simp only[D.brw,j7,List.map_cons,List.map_nil];rw[j2 O7,j2 Y3]) O ?_;refine U3 2 (d':=.agg [.u32 x.toUInt32,.sl none 36 (ins.map K4),.sl none 2 (outs.map j9),.u32 0]) (bx':=[(13,.var _),(3,.var _),(2,.var _)]) O (l7 fun z hz=>(hbs.1 z hz).2) O ?_;refine g8 (n:=5) dU (its:=[.y 41 _]) (ks:=[]) (kk:=[]) (live:=[0,2,3,4,41]) (env':=[(0,_),(2,_),(3,_),(4,_),(41,_)]) (⟨nU O,O,⟨mU 4 O O,Zt⟩,O,O,O⟩) O (bx':=[(13,.var _),(3,.var _),(2,.var _)]) O (n':=65) O (⟨O,.inr (R.callXk [(0,13)] hC (g9 (c7 r2 (by omega) 4 dU) (by rw[hE5];rfl)) (EvB.cons (gV 41 O) O O O (EvB.cons (kI 4 O) O O O EvB.nil)) O ⟨O,Zt⟩ ⟨O,Zt⟩ O (fun e he=>?_))⟩);obtain⟨ch,rfl,hch⟩:=he;intro a w hs;show bodyPostD _ _ _ _ _ _;rw[n8 hc8 (z92 hE (B2 (B7 hs2)) hE3 (QD (B7 hs2)) hE5)];exact M5 (z2:=#[.int .u32 0,.slice none 0 0,.slice none 0 0,.int .u32 0]) (z3:=#[.int .i64 5]) (r2:=.agg [.u32 0,.nils,.nils,.u32 0]) hC1 hdf hkp dU (hb23 dU) rfl inferInstance (fun w ch hch cs2 cs3 e2 e3 q2 s2 q3 s3=>M3 b2 b3 w hch (hb23 dU) q2 s2 q3 s3) ⟨ch,rfl,hch⟩ rfl rfl rfl rfl rfl rfl rfl rfl rfl rfl rfl rfl rfl rfl c5 rfl hs
    refine H5 2 (d':=.agg [.u32 x.toUInt32,.sl none 36 (ins.map G6),.sl none 2 (outs.map j9),.u32 0]) (bx':=[(13,.var _),(3,.var _),(2,.var _)]) O (show(.agg [.u32 x.toUInt32,.sl (some 112) 36 (ins.map G6),.sl (some 115) 2 (outs.map j9),.u32 0]:D).brw=_ from by simp only[D.brw,j7,List.map_cons,List.map_nil];rw[j2 O7,j2 Y3]) O ?_;refine U3 2 (d':=.agg [.u32 x.toUInt32,.sl none 36 (ins.map K4),.sl none 2 (outs.map j9),.u32 0]) (bx':=[(13,.var _),(3,.var _),(2,.var _)]) O (l7 fun z hz=>(hbs.1 z hz).2) O ?_;refine KG 5 [.y 41 _] [] [] [(0,_),(2,_),(3,_),(4,_),(41,_)] [(13,.var _),(3,.var _),(2,.var _)] 65 ⟨mU 4 O O,Zt⟩ O O O O (⟨O,_,R.callB [(0,13)] hC (v7 (r:=.u64 k) (bx':=[(0,.var (.agg [.sl none 1 (r4.map D.u8)]))]) (nw:=[]) (c7 r2 (by omega) 4 dU) (by rw[hE5];rfl)) (EvB.cons (gV 41 O) O O O (EvB.cons (kI 4 O) O O O EvB.nil)) O ⟨O,Zt⟩ ⟨O,Zt⟩ O O O O O O (nU O),⟨O,_,R.conv (gV 42 O) O (nU O),⟨O,_,R.fdP (gU 2 O) (nU O),⟨O,_,Z7 (gU 44 O) (xU 2 O) O (gV 43 O) (by rfl) (by rfl) (by rfl) (by rfl) O,tV [(0,_),(2,_),(3,_),(4,_)] [(13,.var _),(3,.var _),(2,.var _)] 65 O O O ?_⟩⟩⟩⟩);refine W.seq (W.seq ?_);by_cases d1:0<r4.length
    ·have hwf:((⟨x.toUInt32,ins,outs,k.toUInt32⟩:TxS)).wf:=L6 (by omega) (B2 (B7 hs2)) hE3 (QD (B7 hs2));refine z8 18 [.y 45 _,.y 46 _,.y 47 _,.y 48 _,.y 49 _,.y 50 _,.y 51 _,.x 52,.x 53,.x 54,.y 55 _,.y 56 _,.x 57,.x 58,.x 59,.x 60,.x 61,.y 62 _] (V3 2 3 62) ⟨mU 4 O O,aU<|P7 O O,aU (fU 46 O O),aU (lU 47 O O O O O O O),aU<|zN O (lN _) O,aU<|l5 0 O O O,mU 50 O O,aF O O (gT (dT d1) O),aF O O (gT (dT d1) O),aF O O (gT (dT d1) O),aU<|I4 O (dT d1) (kB true O) O O,mU 55 O O,aF O O (gT (O) O),aF O O (gT (O) O),aF O O (gT (O) O),aF O O (gT (O) O),aF O O (gT (O) O),aU<|I4 O (O) (kB true O) O O,Zt⟩ ?_;refine u7 O (O) ?_;refine g8 (n:=2) dU (its:=[.y 63 _]) (ks:=[]) (kk:=[]) (live:=[2,3,63]) (env':=[(2,_),(3,_),(63,_)]) (⟨nU O,O,⟨aU fun _ _ H _=>R.mkifc (kI 5 O) O O H,Zt⟩,O,O,O⟩) O (bx':=[(13,.var _),(3,.var _),(2,.var _)]) O (n':=65) O (⟨O,.inr (R.panic (gU 63 O) (fun e he=>?_))⟩);obtain⟨ch,rfl,hch⟩:=he;intro a w hs;show bodyPostD _ _ _ _ _ _;rw[n8 hc8 (by rw[XC hE (B2 (B7 hs2)) hE3 (QD (B7 hs2)) hE5];first|exact KN d1|exact KM d2|exact KP hc62)];exact M5 (z2:=#[.int .u32 0,.slice none 0 0,.slice none 0 0,.int .u32 0]) (z3:=#[.int .i64 5]) (r2:=.agg [.u32 0,.nils,.nils,.u32 0]) hC1 hdf hkp dU (hb23 dU) rfl inferInstance (fun w ch hch cs2 cs3 e2 e3 q2 s2 q3 s3=>M3 b2 b3 w hch (hb23 dU) q2 s2 q3 s3) ⟨ch,rfl,hch⟩ rfl rfl rfl rfl rfl rfl rfl rfl rfl rfl rfl rfl rfl rfl c5 rfl hs
    ·by_cases d2:i7 (⟨x.toUInt32,ins,outs,k.toUInt32⟩:TxS)=false
     ·have hwf:((⟨x.toUInt32,ins,outs,k.toUInt32⟩:TxS)).wf:=L6 (by omega) (B2 (B7 hs2)) hE3 (QD (B7 hs2));refine z8 18 [.y 45 _,.y 46 _,.y 47 _,.y 48 _,.y 49 _,.y 50 _,.y 51 _,.y 52 _,.y 53 _,.y 54 _,.y 55 _,.y 56 _,.x 57,.x 58,.x 59,.x 60,.x 61,.y 62 _] (V3 2 3 62) ⟨mU 4 O O,aU<|P7 O O,aU (fU 46 O O),aU (lU 47 O O O O O O O),aU<|zN O (lN _) O,aU<|l5 0 O O O,mU 50 O O,aW O O (gF (dF d1) O) (lU 2 O O O O O O O),aW O O (gF (dF d1) O)<|zC hC (UG (⟨x.toUInt32,ins,outs,k.toUInt32⟩:TxS) hwf) O O O (F1 (.bool _)) O,aW O O (gF (dF d1) O)<|UQ O O O,aU<|zF O (dF d1) O O O,mU 55 O O,aF O O (gT (by rw[d2];rfl) O),aF O O (gT (by rw[d2];rfl) O),aF O O (gT (by rw[d2];rfl) O),aF O O (gT (by rw[d2];rfl) O),aF O O (gT (by rw[d2];rfl) O),aU<|I4 O (by rw[d2];rfl) (kB true O) O O,Zt⟩ ?_;refine u7 O (O) ?_;refine g8 (n:=2) dU (its:=[.y 63 _]) (ks:=[]) (kk:=[]) (live:=[2,3,63]) (env':=[(2,_),(3,_),(63,_)]) (⟨nU O,O,⟨aU fun _ _ H _=>R.mkifc (kI 5 O) O O H,Zt⟩,O,O,O⟩) O (bx':=[(13,.var _),(3,.var _),(2,.var _)]) O (n':=65) O (⟨O,.inr (R.panic (gU 63 O) (fun e he=>?_))⟩);obtain⟨ch,rfl,hch⟩:=he;intro a w hs;show bodyPostD _ _ _ _ _ _;rw[n8 hc8 (by rw[XC hE (B2 (B7 hs2)) hE3 (QD (B7 hs2)) hE5];first|exact KN d1|exact KM d2|exact KP hc62)];exact M5 (z2:=#[.int .u32 0,.slice none 0 0,.slice none 0 0,.int .u32 0]) (z3:=#[.int .i64 5]) (r2:=.agg [.u32 0,.nils,.nils,.u32 0]) hC1 hdf hkp dU (hb23 dU) rfl inferInstance (fun w ch hch cs2 cs3 e2 e3 q2 s2 q3 s3=>M3 b2 b3 w hch (hb23 dU) q2 s2 q3 s3) ⟨ch,rfl,hch⟩ rfl rfl rfl rfl rfl rfl rfl rfl rfl rfl rfl rfl rfl rfl c5 rfl hs
     ·have hwf:((⟨x.toUInt32,ins,outs,k.toUInt32⟩:TxS)).wf:=L6 (by omega) (B2 (B7 hs2)) hE3 (QD (B7 hs2));refine z8 18 (w57 45 46 47 48 49 50 51 52 53 54 55 56 57 58 59 60 61 62) (V3 2 3 62) ⟨mU 4 O O,aU<|P7 O O,aU (fU 46 O O),aU (lU 47 O O O O O O O),aU<|zN O (lN _) O,aU<|l5 0 O O O,mU 50 O O,aW O O (gF (dF d1) O) (lU 2 O O O O O O O),aW O O (gF (dF d1) O)<|zC hC (UG (⟨x.toUInt32,ins,outs,k.toUInt32⟩:TxS) hwf) O O O (F1 (.bool _)) O,aW O O (gF (dF d1) O)<|UQ O O O,aU<|zF O (dF d1) O O O,mU 55 O O,aW O O (gF (by simpa using d2) O) (lU 2 O O O O O O O),aW O O (gF (by simpa using d2) O)<|zC hC (MF (⟨x.toUInt32,ins,outs,k.toUInt32⟩:TxS) hwf) O O O (F1 (.sl _ _ _ (j6 fun _=>.u8 _))) O,aW O O (gF (by simpa using d2) O)<|zV O O O,aW O O (gF (by simpa using d2) O) fun _ _ H K=>w6 hC (RJ (H8 (⟨x.toUInt32,ins,outs,k.toUInt32⟩:TxS)) b) (Bc (Bor.sc (SC.sl (K 58 _ O)) (j2 (fun _=>rfl))) (Bc (Bp (eU K 59 O) O O) Bn)) (F1 (.bool _)) H,aW O O (gF (by simpa using d2) O)<|UQ O O O,aU<|zF O (by simpa using d2) O O O,Zt⟩ ?_;refine W.cond O (fun hc62=>?_) (fun hc62=>?_)
      ·refine g8 (n:=2) dU (its:=[.y 63 _]) (ks:=[]) (kk:=[]) (live:=[2,3,63]) (env':=[(2,_),(3,_),(63,_)]) (⟨nU O,O,⟨aU fun _ _ H _=>R.mkifc (kI 5 O) O O H,Zt⟩,O,O,O⟩) O (bx':=[(13,.var _),(3,.var _),(2,.var _)]) O (n':=65) O (⟨O,.inr (R.panic (gU 63 O) (fun e he=>?_))⟩);obtain⟨ch,rfl,hch⟩:=he;intro a w hs;show bodyPostD _ _ _ _ _ _;rw[n8 hc8 (by rw[XC hE (B2 (B7 hs2)) hE3 (QD (B7 hs2)) hE5];first|exact KN d1|exact KM d2|exact KP hc62)];exact M5 (z2:=#[.int .u32 0,.slice none 0 0,.slice none 0 0,.int .u32 0]) (z3:=#[.int .i64 5]) (r2:=.agg [.u32 0,.nils,.nils,.u32 0]) hC1 hdf hkp dU (hb23 dU) rfl inferInstance (fun w ch hch cs2 cs3 e2 e3 q2 s2 q3 s3=>M3 b2 b3 w hch (hb23 dU) q2 s2 q3 s3) ⟨ch,rfl,hch⟩ rfl rfl rfl rfl rfl rfl rfl rfl rfl rfl rfl rfl rfl rfl c5 rfl hs
      ·refine W.skip (W.seq ?_);refine KG 3 [.y 64 _] [] [] [(2,_),(3,_),(64,_)] [(13,.var _),(3,.var _),(2,.var _)] 65 ⟨aU (lU 2 O O O O O O O),Zt⟩ O O O O (⟨O,_,Z7 (gU 2 O) (xU 2 O) O (gV 64 O) (by rfl) (by rfl) (by rfl) (by rfl) O,⟨O,_,Z7 (gU 3 O) (xU 3 O) O (kI 0 O) (by rfl) (by rfl) (by rfl) (by rfl) O,tV [(2,_),(3,_)] [(13,.var _),(3,.var _),(2,.var _)] 65 O O O ?_⟩⟩);refine W.ret ?_;intro a w hs;show bodyPostD _ _ _ _ _ _;rw[XD hc8 (by rw[XC hE (B2 (B7 hs2)) hE3 (QD (B7 hs2)) hE5];exact TB d1 (by simpa using d2) hc62)];exact x61 hC1 hdf hkp dU rfl inferInstance (z95 b2 b3) (.inr rfl) rfl rfl rfl rfl rfl rfl rfl rfl rfl rfl rfl rfl hs
  ·refine z8 16 [.y 18 _,.y 19 _,.y 20 _,.y 21 _,.y 22 _,.y 23 _,.y 24 _,.x 25,.x 26,.x 27,.x 28,.x 29,.x 30,.x 31,.y 32 _,.y 5 _] (V5 0 2 3 4 5) ⟨mU 4 O O,aU<|P7 O O,aU (fU 19 O O),aU (lU 20 O O O O O O O),aU<|zN O (lN _) O,aU<|l5 0 O O O,mU 23 O O,aF O O (gF (dF hs1) O),aF O O (gF (dF hs1) O),aF O O (gF (dF hs1) O),aF O O (gF (dF hs1) O),aF O O (gF (dF hs1) O),aF O O (gF (dF hs1) O),aF O O (gF (dF hs1) O),aU<|YL O (dF hs1) (kB false O) O O,aU<|zA O O O,Zt⟩ ?_;refine W.seq (q9 1 (y1 33) (V6 0 2 3 4 5 33) ⟨mU 5 O O,Zt⟩ ?_);refine v4 O (O) ?_;refine W.skip (W.seq ?_)
   rcases hE3:U2 r with _|⟨⟨ins,outs⟩,r2⟩
   ·refine n9 2 [1] 112 36 (bx':=[(13,.var _),(3,.var _),(2,.var _)]) O O O O O ?_;refine n9 2 [2] 115 2 (bx':=[(13,.var _),(3,.var _),(2,.var _)]) O O O O O ?_;refine g8 (n:=2) dU (its:=[.y 36 _]) (ks:=[]) (kk:=[]) (live:=[0,2,3,4,5,36]) (env':=[(0,_),(2,_),(3,_),(4,_),(5,_),(36,_)]) (⟨nU O,O,⟨mU 4 O O,Zt⟩,O,O,O⟩) O (bx':=[(13,.var _),(3,.var _),(2,.var _)]) O (n':=65) O (⟨O,.inr (R.callXk [(0,13),(1,2)] hC (g9 (W2 r (by omega) x.toUInt32 0) (by rw[hE3];rfl)) (EvB.cons (gV 36 O) O O O (EvB.cons (gV 2 O) O O O EvB.nil)) O ⟨O,⟨O,Zt⟩⟩ ⟨O,⟨O,Zt⟩⟩ O (fun e he=>?_))⟩);obtain⟨ch,rfl,hch⟩:=he;intro a w hs;show bodyPostD _ _ _ _ _ _;rw[n8 hc8 (z93 hE (B2 (B8 hs1)) hE3)];exact M5 (z2:=#[.int .u32 0,.slice none 0 0,.slice none 0 0,.int .u32 0]) (z3:=#[.int .i64 5]) (r2:=.agg [.u32 0,.nils,.nils,.u32 0]) hC1 hdf hkp dU (hb23 dU) rfl inferInstance (fun w ch hch cs2 cs3 e2 e3 q2 s2 q3 s3=>M3 b2 b3 w hch (hb23 dU) q2 s2 q3 s3) ⟨ch,rfl,hch⟩ rfl rfl rfl rfl rfl rfl rfl rfl rfl rfl rfl rfl rfl rfl c5 rfl hs
   have hbs:=XA hE3 (by omega);have hil:=GZ ins;refine n9 2 [1] 112 36 (bx':=[(13,.var _),(3,.var _),(2,.var _)]) O O O O O ?_;refine n9 2 [2] 115 2 (bx':=[(13,.var _),(3,.var _),(2,.var _)]) O O O O O ?_;refine KG 2 [.y 36 _] [] [] [(0,_),(2,_),(3,_),(4,_),(5,_),(36,_)] [(13,.var _),(3,.var _),(2,.var _)] 65 ⟨mU 4 O O,Zt⟩ O O O O (⟨O,_,R.callB [(0,13),(1,2)] hC (v7 (r:=.tup []) (bx':=[(0,.var (.agg [.sl none 1 (r2.map D.u8)])),(1,.var (.agg [.u32 x.toUInt32,.sl (some 112) 36 (ins.map G6),.sl (some 115) 2 (outs.map j9),.u32 0]))]) (nw:=[]) (W2 r (by omega) x.toUInt32 0) (by rw[hE3];rfl)) (EvB.cons (gV 36 O) O O O (EvB.cons (gV 2 O) O O O EvB.nil)) O ⟨O,⟨O,Zt⟩⟩ ⟨O,⟨O,Zt⟩⟩ O O O O O O (nU O),tV [(0,_),(2,_),(3,_),(4,_),(5,_)] [(13,.var _),(3,.var _),(2,.var _)] 65 O O O ?_⟩);refine W.seq (q9 1 (y1 38) (V5 0 2 3 4 38) ⟨mU 5 O O,Zt⟩ ?_);refine v4 O (O) ?_;refine W.skip (W.seq ?_)
   rcases hE5:m0 r2 4 with _|⟨k,r4⟩
   ·refine H5 2 (d':=.agg [.u32 x.toUInt32,.sl none 36 (ins.map G6),.sl none 2 (outs.map j9),.u32 0]) (bx':=[(13,.var _),(3,.var _),(2,.var _)]) O (show(.agg [.u32 x.toUInt32,.sl (some 112) 36 (ins.map G6),.sl (some 115) 2 (outs.map j9),.u32 0]:D).brw=_ from by simp only[D.brw,j7,List.map_cons,List.map_nil];rw[j2 O7,j2 Y3]) O ?_;refine U3 2 (d':=.agg [.u32 x.toUInt32,.sl none 36 (ins.map K4),.sl none 2 (outs.map j9),.u32 0]) (bx':=[(13,.var _),(3,.var _),(2,.var _)]) O (l7 fun z hz=>(hbs.1 z hz).2) O ?_;refine g8 (n:=5) dU (its:=[.y 41 _]) (ks:=[]) (kk:=[]) (live:=[0,2,3,4,41]) (env':=[(0,_),(2,_),(3,_),(4,_),(41,_)]) (⟨nU O,O,⟨mU 4 O O,Zt⟩,O,O,O⟩) O (bx':=[(13,.var _),(3,.var _),(2,.var _)]) O (n':=65) O (⟨O,.inr (R.callXk [(0,13)] hC (g9 (c7 r2 (by omega) 4 dU) (by rw[hE5];rfl)) (EvB.cons (gV 41 O) O O O (EvB.cons (kI 4 O) O O O EvB.nil)) O ⟨O,Zt⟩ ⟨O,Zt⟩ O (fun e he=>?_))⟩);obtain⟨ch,rfl,hch⟩:=he;intro a w hs;show bodyPostD _ _ _ _ _ _;rw[n8 hc8 (z92 hE (B2 (B8 hs1)) hE3 (QD (B8 hs1)) hE5)];exact M5 (z2:=#[.int .u32 0,.slice none 0 0,.slice none 0 0,.int .u32 0]) (z3:=#[.int .i64 5]) (r2:=.agg [.u32 0,.nils,.nils,.u32 0]) hC1 hdf hkp dU (hb23 dU) rfl inferInstance (fun w ch hch cs2 cs3 e2 e3 q2 s2 q3 s3=>M3 b2 b3 w hch (hb23 dU) q2 s2 q3 s3) ⟨ch,rfl,hch⟩ rfl rfl rfl rfl rfl rfl rfl rfl rfl rfl rfl rfl rfl rfl c5 rfl hs
   refine H5 2 (d':=.agg [.u32 x.toUInt32,.sl none 36 (ins.map G6),.sl none 2 (outs.map j9),.u32 0]) (bx':=[(13,.var _),(3,.var _),(2,.var _)]) O (show(.agg [.u32 x.toUInt32,.sl (some 112) 36 (ins.map G6),.sl (some 115) 2 (outs.map j9),.u32 0]:D).brw=_ from by simp only[D.brw,j7,List.map_cons,List.map_nil];rw[j2 O7,j2 Y3]) O ?_;refine U3 2 (d':=.agg [.u32 x.toUInt32,.sl none 36 (ins.map K4),.sl none 2 (outs.map j9),.u32 0]) (bx':=[(13,.var _),(3,.var _),(2,.var _)]) O (l7 fun z hz=>(hbs.1 z hz).2) O ?_;refine KG 5 [.y 41 _] [] [] [(0,_),(2,_),(3,_),(4,_),(41,_)] [(13,.var _),(3,.var _),(2,.var _)] 65 ⟨mU 4 O O,Zt⟩ O O O O (⟨O,_,R.callB [(0,13)] hC (v7 (r:=.u64 k) (bx':=[(0,.var (.agg [.sl none 1 (r4.map D.u8)]))]) (nw:=[]) (c7 r2 (by omega) 4 dU) (by rw[hE5];rfl)) (EvB.cons (gV 41 O) O O O (EvB.cons (kI 4 O) O O O EvB.nil)) O ⟨O,Zt⟩ ⟨O,Zt⟩ O O O O O O (nU O),⟨O,_,R.conv (gV 42 O) O (nU O),⟨O,_,R.fdP (gU 2 O) (nU O),⟨O,_,Z7 (gU 44 O) (xU 2 O) O (gV 43 O) (by rfl) (by rfl) (by rfl) (by rfl) O,tV [(0,_),(2,_),(3,_),(4,_)] [(13,.var _),(3,.var _),(2,.var _)] 65 O O O ?_⟩⟩⟩⟩);refine W.seq (W.seq ?_);by_cases d1:0<r4.length
   ·have hwf:((⟨x.toUInt32,ins,outs,k.toUInt32⟩:TxS)).wf:=L6 (by omega) (B2 (B8 hs1)) hE3 (QD (B8 hs1));refine z8 18 [.y 45 _,.y 46 _,.y 47 _,.y 48 _,.y 49 _,.y 50 _,.y 51 _,.x 52,.x 53,.x 54,.y 55 _,.y 56 _,.x 57,.x 58,.x 59,.x 60,.x 61,.y 62 _] (V3 2 3 62) ⟨mU 4 O O,aU<|P7 O O,aU (fU 46 O O),aU (lU 47 O O O O O O O),aU<|zN O (lN _) O,aU<|l5 0 O O O,mU 50 O O,aF O O (gT (dT d1) O),aF O O (gT (dT d1) O),aF O O (gT (dT d1) O),aU<|I4 O (dT d1) (kB true O) O O,mU 55 O O,aF O O (gT (O) O),aF O O (gT (O) O),aF O O (gT (O) O),aF O O (gT (O) O),aF O O (gT (O) O),aU<|I4 O (O) (kB true O) O O,Zt⟩ ?_;refine u7 O (O) ?_;refine g8 (n:=2) dU (its:=[.y 63 _]) (ks:=[]) (kk:=[]) (live:=[2,3,63]) (env':=[(2,_),(3,_),(63,_)]) (⟨nU O,O,⟨aU fun _ _ H _=>R.mkifc (kI 5 O) O O H,Zt⟩,O,O,O⟩) O (bx':=[(13,.var _),(3,.var _),(2,.var _)]) O (n':=65) O (⟨O,.inr (R.panic (gU 63 O) (fun e he=>?_))⟩);obtain⟨ch,rfl,hch⟩:=he;intro a w hs;show bodyPostD _ _ _ _ _ _;rw[n8 hc8 (by rw[XC hE (B2 (B8 hs1)) hE3 (QD (B8 hs1)) hE5];first|exact KN d1|exact KM d2|exact KP hc62)];exact M5 (z2:=#[.int .u32 0,.slice none 0 0,.slice none 0 0,.int .u32 0]) (z3:=#[.int .i64 5]) (r2:=.agg [.u32 0,.nils,.nils,.u32 0]) hC1 hdf hkp dU (hb23 dU) rfl inferInstance (fun w ch hch cs2 cs3 e2 e3 q2 s2 q3 s3=>M3 b2 b3 w hch (hb23 dU) q2 s2 q3 s3) ⟨ch,rfl,hch⟩ rfl rfl rfl rfl rfl rfl rfl rfl rfl rfl rfl rfl rfl rfl c5 rfl hs
   ·by_cases d2:i7 (⟨x.toUInt32,ins,outs,k.toUInt32⟩:TxS)=false
    ·have hwf:((⟨x.toUInt32,ins,outs,k.toUInt32⟩:TxS)).wf:=L6 (by omega) (B2 (B8 hs1)) hE3 (QD (B8 hs1));refine z8 18 [.y 45 _,.y 46 _,.y 47 _,.y 48 _,.y 49 _,.y 50 _,.y 51 _,.y 52 _,.y 53 _,.y 54 _,.y 55 _,.y 56 _,.x 57,.x 58,.x 59,.x 60,.x 61,.y 62 _] (V3 2 3 62) ⟨mU 4 O O,aU<|P7 O O,aU (fU 46 O O),aU (lU 47 O O O O O O O),aU<|zN O (lN _) O,aU<|l5 0 O O O,mU 50 O O,aW O O (gF (dF d1) O) (lU 2 O O O O O O O),aW O O (gF (dF d1) O)<|zC hC (UG (⟨x.toUInt32,ins,outs,k.toUInt32⟩:TxS) hwf) O O O (F1 (.bool _)) O,aW O O (gF (dF d1) O)<|UQ O O O,aU<|zF O (dF d1) O O O,mU 55 O O,aF O O (gT (by rw[d2];rfl) O),aF O O (gT (by rw[d2];rfl) O),aF O O (gT (by rw[d2];rfl) O),aF O O (gT (by rw[d2];rfl) O),aF O O (gT (by rw[d2];rfl) O),aU<|I4 O (by rw[d2];rfl) (kB true O) O O,Zt⟩ ?_;refine u7 O (O) ?_;refine g8 (n:=2) dU (its:=[.y 63 _]) (ks:=[]) (kk:=[]) (live:=[2,3,63]) (env':=[(2,_),(3,_),(63,_)]) (⟨nU O,O,⟨aU fun _ _ H _=>R.mkifc (kI 5 O) O O H,Zt⟩,O,O,O⟩) O (bx':=[(13,.var _),(3,.var _),(2,.var _)]) O (n':=65) O (⟨O,.inr (R.panic (gU 63 O) (fun e he=>?_))⟩);obtain⟨ch,rfl,hch⟩:=he;intro a w hs;show bodyPostD _ _ _ _ _ _;rw[n8 hc8 (by rw[XC hE (B2 (B8 hs1)) hE3 (QD (B8 hs1)) hE5];first|exact KN d1|exact KM d2|exact KP hc62)];exact M5 (z2:=#[.int .u32 0,.slice none 0 0,.slice none 0 0,.int .u32 0]) (z3:=#[.int .i64 5]) (r2:=.agg [.u32 0,.nils,.nils,.u32 0]) hC1 hdf hkp dU (hb23 dU) rfl inferInstance (fun w ch hch cs2 cs3 e2 e3 q2 s2 q3 s3=>M3 b2 b3 w hch (hb23 dU) q2 s2 q3 s3) ⟨ch,rfl,hch⟩ rfl rfl rfl rfl rfl rfl rfl rfl rfl rfl rfl rfl rfl rfl c5 rfl hs
    ·have hwf:((⟨x.toUInt32,ins,outs,k.toUInt32⟩:TxS)).wf:=L6 (by omega) (B2 (B8 hs1)) hE3 (QD (B8 hs1));refine z8 18 (w57 45 46 47 48 49 50 51 52 53 54 55 56 57 58 59 60 61 62) (V3 2 3 62) ⟨mU 4 O O,aU<|P7 O O,aU (fU 46 O O),aU (lU 47 O O O O O O O),aU<|zN O (lN _) O,aU<|l5 0 O O O,mU 50 O O,aW O O (gF (dF d1) O) (lU 2 O O O O O O O),aW O O (gF (dF d1) O)<|zC hC (UG (⟨x.toUInt32,ins,outs,k.toUInt32⟩:TxS) hwf) O O O (F1 (.bool _)) O,aW O O (gF (dF d1) O)<|UQ O O O,aU<|zF O (dF d1) O O O,mU 55 O O,aW O O (gF (by simpa using d2) O) (lU 2 O O O O O O O),aW O O (gF (by simpa using d2) O)<|zC hC (MF (⟨x.toUInt32,ins,outs,k.toUInt32⟩:TxS) hwf) O O O (F1 (.sl _ _ _ (j6 fun _=>.u8 _))) O,aW O O (gF (by simpa using d2) O)<|zV O O O,aW O O (gF (by simpa using d2) O) fun _ _ H K=>w6 hC (RJ (H8 (⟨x.toUInt32,ins,outs,k.toUInt32⟩:TxS)) b) (Bc (Bor.sc (SC.sl (K 58 _ O)) (j2 (fun _=>rfl))) (Bc (Bp (eU K 59 O) O O) Bn)) (F1 (.bool _)) H,aW O O (gF (by simpa using d2) O)<|UQ O O O,aU<|zF O (by simpa using d2) O O O,Zt⟩ ?_;refine W.cond O (fun hc62=>?_) (fun hc62=>?_)
     ·refine g8 (n:=2) dU (its:=[.y 63 _]) (ks:=[]) (kk:=[]) (live:=[2,3,63]) (env':=[(2,_),(3,_),(63,_)]) (⟨nU O,O,⟨aU fun _ _ H _=>R.mkifc (kI 5 O) O O H,Zt⟩,O,O,O⟩) O (bx':=[(13,.var _),(3,.var _),(2,.var _)]) O (n':=65) O (⟨O,.inr (R.panic (gU 63 O) (fun e he=>?_))⟩);obtain⟨ch,rfl,hch⟩:=he;intro a w hs;show bodyPostD _ _ _ _ _ _;rw[n8 hc8 (by rw[XC hE (B2 (B8 hs1)) hE3 (QD (B8 hs1)) hE5];first|exact KN d1|exact KM d2|exact KP hc62)];exact M5 (z2:=#[.int .u32 0,.slice none 0 0,.slice none 0 0,.int .u32 0]) (z3:=#[.int .i64 5]) (r2:=.agg [.u32 0,.nils,.nils,.u32 0]) hC1 hdf hkp dU (hb23 dU) rfl inferInstance (fun w ch hch cs2 cs3 e2 e3 q2 s2 q3 s3=>M3 b2 b3 w hch (hb23 dU) q2 s2 q3 s3) ⟨ch,rfl,hch⟩ rfl rfl rfl rfl rfl rfl rfl rfl rfl rfl rfl rfl rfl rfl c5 rfl hs
     ·refine W.skip (W.seq ?_);refine KG 3 [.y 64 _] [] [] [(2,_),(3,_),(64,_)] [(13,.var _),(3,.var _),(2,.var _)] 65 ⟨aU (lU 2 O O O O O O O),Zt⟩ O O O O (⟨O,_,Z7 (gU 2 O) (xU 2 O) O (gV 64 O) (by rfl) (by rfl) (by rfl) (by rfl) O,⟨O,_,Z7 (gU 3 O) (xU 3 O) O (kI 0 O) (by rfl) (by rfl) (by rfl) (by rfl) O,tV [(2,_),(3,_)] [(13,.var _),(3,.var _),(2,.var _)] 65 O O O ?_⟩⟩);refine W.ret ?_;intro a w hs;show bodyPostD _ _ _ _ _ _;rw[XD hc8 (by rw[XC hE (B2 (B8 hs1)) hE3 (QD (B8 hs1)) hE5];exact TB d1 (by simpa using d2) hc62)];exact x61 hC1 hdf hkp dU rfl inferInstance (z95 b2 b3) (.inr rfl) rfl rfl rfl rfl rfl rfl rfl rfl rfl rfl rfl rfl hs
end Go.Sx

namespace Go.Sx
open Go.Proofs
def q25(x:List UInt8)(i:Nat):List UInt8:=x.take i++List.replicate (32-i) 0
def k87(x:List UInt8):Hs:=q25 x x.length
theorem w44(x:List UInt8):q25 x 0=List.replicate 32 0:=by simp[q25]
theorem j28(x:List UInt8)(i:Nat)(h:i<=x.length)(h2:x.length<=32):(q25 x i).length=32:=by simp[q25];omega
theorem j27(x:List UInt8)(i:Nat)(h:i<x.length)(h2:x.length<=32):(q25 x i).set i x[i]! = q25 x (i+1):=by
 unfold q25;rw[F8 h,List.set_append]
 have e1:(x.take i).length=i:=by simp;omega
 rw[if_neg (by omega),e1,Nat.sub_self,show 32-i=(32-(i+1))+1 by omega,List.replicate_succ,List.set_cons_zero,List.append_assoc];rfl
def q46(b:List UInt8)(bad:Bool):InS×List UInt8×Bool:=
 match c4 b bad 32 with
 | (x,r1,e1)=>match Q2 r1 e1 4 with
  | (p,r2,e2)=>match A1 r2 e2 with
   | (s,r3,e3)=>match Q2 r3 e3 4 with
    | (q,r4,e4)=>(⟨k87 x,p.toUInt32,s,q.toUInt32,[]⟩,r4,e4)
def AE(b:List UInt8)(bad:Bool):OutS×List UInt8×Bool:=
 match Q2 b bad 8 with
 | (p,r1,e1)=>match A1 r1 e1 with
  | (s,r2,e2)=>(⟨p,s⟩,r2,e2)
def N6:Nat->List InS->List UInt8->Bool->List InS×List UInt8×Bool
 | 0,l,b,e=>(l,b,e)
 | n+1,l,b,e=>if e=true then(l,b,e) else match q46 b e with
  | (a,r,e')=>N6 n (l++[a]) r e'
def K1:Nat->List OutS->List UInt8->Bool->List OutS×List UInt8×Bool
 | 0,l,b,e=>(l,b,e)
 | n+1,l,b,e=>if e=true then(l,b,e) else match AE b e with
  | (a,r,e')=>K1 n (l++[a]) r e'
def E5(b:List UInt8)(bad:Bool):(List InS×List OutS)×List UInt8×Bool:=
 match Y2 b bad with
 | (n,r0,e0)=>match N6 n [] r0 e0 with
  | (l,r,e)=>match Y2 r e with
   | (m,r5,e5)=>match K1 m [] r5 e5 with
    | (o,u,e6)=>((l,o),u,e6)
section
variable{b r r0 r1 r2 r3 r4 r5 x s u:List UInt8}{bad e e0 e1 e2 e3 e4 e5 e6:Bool}{p q:UInt64}{i j n m:Nat}{l:List InS}{o:List OutS}
theorem DH(h1:c4 b bad 32=(x,r1,e1))(h2:Q2 r1 e1 4=(p,r2,e2))(h3:A1 r2 e2=(s,r3,e3))(h4:Q2 r3 e3 4=(q,r4,e4)):q46 b bad=(⟨k87 x,p.toUInt32,s,q.toUInt32,[]⟩,r4,e4):=by
 unfold q46;simp only[h1,h2,h3,h4]
theorem GB(h1:Q2 b bad 8=(p,r1,e1))(h2:A1 r1 e1=(s,r2,e2)):AE b bad=(⟨p,s⟩,r2,e2):=by
 unfold AE;simp only[h1,h2]
theorem H4(h1:Y2 b bad=(n,r0,e0))(h2:N6 n [] r0 e0=(l,r,e))(h3:Y2 r e=(m,r5,e5))(h4:K1 m [] r5 e5=(o,u,e6)):E5 b bad=((l,o),u,e6):=by
 unfold E5;simp only[h1,h2,h3,h4]
theorem q10{a:InS}{z:List InS×List UInt8×Bool}(h:N6 (n-i) l r e=z)(hi:i<n)(he:(!e)=true)(h2:q46 r e=(a,r1,e1)):N6 (n-(i+1)) (l++[a]) r1 e1=z:=by
 rw[<- h,show n-i=(n-(i+1))+1 by omega]
 have:¬ e=true:=by simpa using he
 simp only[N6,if_neg this,h2]
theorem EH{z:List InS×List UInt8×Bool}(h:N6 (n-i) l r e=z)(hi:¬ i<n∨(!e)=false):z=(l,r,e):=by
 rw[<- h]
 rcases hi with hi|hi
 ·rw[show n-i=0 by omega];rfl
 ·have:e=true:=by simpa using hi
  subst this
  cases n-i<;>simp[N6]
theorem HE{a:OutS}{z:List OutS×List UInt8×Bool}(h:K1 (n-i) o r e=z)(hi:i<n)(he:(!e)=true)(h2:AE r e=(a,r1,e1)):K1 (n-(i+1)) (o++[a]) r1 e1=z:=by
 rw[<- h,show n-i=(n-(i+1))+1 by omega]
 have:¬ e=true:=by simpa using he
 simp only[K1,if_neg this,h2]
theorem ZF{z:List OutS×List UInt8×Bool}(h:K1 (n-i) o r e=z)(hi:¬ i<n∨(!e)=false):z=(o,r,e):=by
 rw[<- h]
 rcases hi with hi|hi
 ·rw[show n-i=0 by omega];rfl
 ·have:e=true:=by simpa using hi
  subst this
  cases n-i<;>simp[K1]
theorem r6(hb:b.length<=100000)(h:A1 b bad=(s,r,e)):s.length<=b.length/\r.length<=b.length:=by
 unfold A1 at h
 obtain⟨n,r1,e1,hc⟩:∃ a c d,Y2 b bad=(a,c,d):=⟨_,_,_,rfl⟩
 rw[hc] at h;have h1:=A5 hb hc;have h2:=M6 r1 e1 n;have h3:c4 r1 e1 n=(s,r,e):=h;rw[h3] at h2;simp only[] at h2;omega
theorem TJ(hb:b.length<=100000){a:InS}(h:q46 b bad=(a,r,e)):r.length<=b.length:=by
 obtain⟨x,r1,e1,h1⟩:∃ a c d,c4 b bad 32=(a,c,d):=⟨_,_,_,rfl⟩
 obtain⟨p,r2,e2,h2⟩:∃ a c d,Q2 r1 e1 4=(a,c,d):=⟨_,_,_,rfl⟩
 obtain⟨s,r3,e3,h3⟩:∃ a c d,A1 r2 e2=(a,c,d):=⟨_,_,_,rfl⟩
 obtain⟨q,r4,e4,h4⟩:∃ a c d,Q2 r3 e3 4=(a,c,d):=⟨_,_,_,rfl⟩
 rw[DH h1 h2 h3 h4] at h;cases h;have a1:=M6 b bad 32;rw[h1] at a1;simp only[] at a1;have a2:=J5 h2;have a3:=r6 (by omega) h3;have a4:=J5 h4;omega
theorem z18(hb:b.length<=100000){a:OutS}(h:AE b bad=(a,r,e)):r.length<=b.length:=by
 obtain⟨p,r2,e2,h2⟩:∃ a c d,Q2 b bad 8=(a,c,d):=⟨_,_,_,rfl⟩
 obtain⟨s,r3,e3,h3⟩:∃ a c d,A1 r2 e2=(a,c,d):=⟨_,_,_,rfl⟩
 rw[GB h2 h3] at h;cases h;have a2:=J5 h2;have a3:=r6 (by omega) h3;omega
theorem z70{k:List InS}(hb:b.length<=100000)(h:N6 n l b bad=(k,r,e)):r.length<=b.length/\k.length<=l.length+n:=by
 induction n generalizing l b bad with
 | zero=>cases h;simp
 | succ n ih=>
  simp only[N6] at h;split at h
  ·cases h;simp;try omega
  ·obtain⟨a,r1,e1,h1⟩:∃ a c d,q46 b bad=(a,c,d):=⟨_,_,_,rfl⟩
   simp only[h1] at h;have a1:=TJ hb h1;have a2:=ih (by omega) h;simp at a2;omega
end
end Go.Sx

namespace Go.Sx
open Go.Proofs
theorem WN(b:List UInt8)(bad:Bool)(hb0:b.length<=100000):FnB Tryz.prog gl 144 [.ptr 0 0 []] [(0,.var (.agg [.sl none 1 (b.map D.u8),.bool bad]))] (G6 (q46 b bad).1) [(0,.var (.agg [.sl none 1 ((q46 b bad).2.1.map D.u8),.bool (q46 b bad).2.2]))] []:=by
 refine FnB.of (n:=35) (ids:=[0]) Tryz.func144 rfl rfl rfl (nU rfl) fun C hC hD=>?_;refine z5 1 [] [] [] (V1 0) Zt O O (Q7 O O (tV (V2 0 2) (p7 2 0) 35 O O O ?_));refine z5 1 [] [] [] (V2 0 2) Zt O O (Q7 O O (tV (V3 0 2 3) (d7 3 2 0) 35 O O O ?_));refine W.seq ?_
 obtain⟨x,r1,e1,hp1⟩:∃ a_ b_ c_,c4 b bad 32=(a_,b_,c_):=⟨_,_,_,rfl⟩
 have hp1l:=M6 b bad 32;rw[hp1] at hp1l;simp only[] at hp1l;refine u4 3 (y1 6) [] [] (V4 0 2 3 6) ⟨mU 0 O O,Zt⟩ O O (⟨O,_,R.callB [(0,0)] hC (show FnB Tryz.prog gl 105 [.ptr 0 0 [],.int ((32:Nat):Int)] [(0,.var (.agg [.sl none 1 (b.map D.u8),.bool bad]))] (.sl none 1 (x.map D.u8)) [(0,.var (.agg [.sl none 1 (r1.map D.u8),.bool e1]))] [] from by have h:=JV b bad bO 32 bO;rw[hp1] at h;exact h) (EvB.cons (gV 6 O) O O O (EvB.cons (kI 32 O) O O O EvB.nil)) O ⟨O,Zt⟩ ⟨O,Zt⟩ O O O O O O (nU O),(P8 O O O (tV (V4 0 2 3 4) (d7 3 2 0) 35 O O O ?_))⟩);refine W.seq (q9 1 (y1 5) (V5 0 2 3 4 5) ⟨aU<|zK (kI 0 O) O O,Zt⟩ ?_);refine W.block ?_;refine W.loop (α:={q__:Nat//q__<=x.length}) (fun q__=>⟨35,[(0,.ptr 0 0 []),(2,.ptr 2 0 []),(3,.ptr 3 0 []),(4,.sl none 1 (x.map D.u8)),(5,.int ((q__.1:Nat):Int))],[(3,.var (.agg [.agg [.arr 32 1 ((q25 x q__.1).map D.u8),.u32 0],.nils,.u32 0,.nils])),(2,.var (.agg [.agg [.arr 32 1 ((List.replicate 32 (0:UInt8)).map D.u8),.u32 0],.nils,.u32 0,.nils])),(0,.var (.agg [.sl none 1 (r1.map D.u8),.bool e1]))]⟩) (fun q__=>x.length-q__.1) ⟨(0),bU⟩ (by simp only[w44];rfl) ?_;rintro ⟨i,hi⟩;show W _ _ _ _ ⟨35,[(0,.ptr 0 0 []),(2,.ptr 2 0 []),(3,.ptr 3 0 []),(4,.sl none 1 (x.map D.u8)),(5,.int ((i:Nat):Int))],[(3,.var (.agg [.agg [.arr 32 1 ((q25 x i).map D.u8),.u32 0],.nils,.u32 0,.nils])),(2,.var (.agg [.agg [.arr 32 1 ((List.replicate 32 (0:UInt8)).map D.u8),.u32 0],.nils,.u32 0,.nils])),(0,.var (.agg [.sl none 1 (r1.map D.u8),.bool e1]))]⟩;have hi:i<=x.length:=hi;have hcl:=j28 x i hi hp1l.1;refine W.seq (q9 4 (y4 8 9 10 11) (V6 0 2 3 4 5 11) ⟨mU 5 O O,mU 4 O O,aU<|zN O (lN _) O,aU<|zS O O O,Zt⟩ ?_);refine z6 O (fun hc11=>?_) (fun hc11=>?_)
 ·refine W.skip (W.seq (W.block ?_));refine u4 9 (y8 14 15 16 17 18 19 20 21) [] [] (V7 0 2 3 4 5 18 21) ⟨mU 5 O O,mU 4 O O,mU 5 O O,aU<|zI i O O O bU O,aU<|zL O O (mG x) O O O O O,aU (fU 3 O O),aU (fU 19 O O),aU<|PT i O O O bU O,Zt⟩ O O (⟨O,_,Z7 (gU 21 O) (xU 3 O) (NK (m:=0) O O (NK (m:=0) O O (v9 (mG (q25 x i)) v8 O) O) bU) (gV 18 O) (by rfl) (by rfl) (by rfl) (by rfl) (RI O (RI O (E7 (mG (q25 x i)) X2 X3) O) O),tV (V5 0 2 3 4 5) (d7 3 2 0) 35 O O O ?_⟩);refine z8 3 (y3 12 13 5) (V5 0 2 3 4 5) ⟨mU 5 O O,aU<|Q6 1 O O bU O,aU<|zA O O O,Zt⟩ ?_;exact⟨⟨(i+1),bU⟩,(by rw[<- j27 x i (by omega) hp1l.1];rfl),(by simp only[];omega)⟩
 ·obtain rfl:i=x.length:=by omega
  refine W.exit (W.seq ?_)
  obtain⟨p,r2,e2,hp2⟩:∃ a_ b_ c_,Q2 r1 e1 4=(a_,b_,c_):=⟨_,_,_,rfl⟩
  have hp2l:=J5 hp2;refine u4 6 (y1 22) [] [] (V4 0 2 3 22) ⟨mU 0 O O,Zt⟩ O O (⟨O,_,R.callB [(0,0)] hC (show FnB Tryz.prog gl 104 [.ptr 0 0 [],.int ((4:Nat):Int)] [(0,.var (.agg [.sl none 1 (r1.map D.u8),.bool e1]))] (.u64 p) [(0,.var (.agg [.sl none 1 (r2.map D.u8),.bool e2]))] [] from by have h:=J7 r1 e1 bO 4 dU;rw[hp2] at h;exact h) (EvB.cons (gV 22 O) O O O (EvB.cons (kI 4 O) O O O EvB.nil)) O ⟨O,Zt⟩ ⟨O,Zt⟩ O O O O O O (nU O),⟨O,_,R.conv (gV 23 O) O (nU O),⟨O,_,R.fdP (gU 3 O) (nU O),⟨O,_,R.fdP (gU 25 O) (nU O),(d5 O O O O O (tV (V3 0 2 3) (d7 3 2 0) 35 O O O ?_))⟩⟩⟩⟩);refine W.seq ?_
  obtain⟨s,r3,e3,hp3⟩:∃ a_ b_ c_,A1 r2 e2=(a_,b_,c_):=⟨_,_,_,rfl⟩
  have hp3l:=r6 (by omega) hp3;refine u4 4 (y1 27) [] [] (V4 0 2 3 27) ⟨mU 0 O O,Zt⟩ O O (⟨O,_,e9 (r':=.sl none 1 (s.map D.u8)) (R.callB [(0,0)] hC (show FnB Tryz.prog gl 108 [.ptr 0 0 []] [(0,.var (.agg [.sl none 1 (r2.map D.u8),.bool e2]))] (.sl (some 5) 1 (s.map D.u8)) [(0,.var (.agg [.sl none 1 (r3.map D.u8),.bool e3]))] [] from by have h:=JW r2 e2 bO;rw[hp3] at h;exact h) (EvB.cons (gV 27 O) O O O EvB.nil) O ⟨O,Zt⟩ ⟨O,Zt⟩ O O O O O O (nU O)) O (show(.sl (some 5) 1 (s.map D.u8):D).brw=_ from by simp only[D.brw,j7];rw[j2 (fun _=>rfl)]),⟨O,_,R.fdP (gU 3 O) (nU O),(d5 O O O O O (tV (V3 0 2 3) (d7 3 2 0) 35 O O O ?_))⟩⟩);refine W.seq ?_
  obtain⟨q,r4,e4,hp4⟩:∃ a_ b_ c_,Q2 r3 e3 4=(a_,b_,c_):=⟨_,_,_,rfl⟩
  have hp4l:=J5 hp4;refine u4 5 (y1 30) [] [] (V3 2 3 30) ⟨mU 0 O O,Zt⟩ O O (⟨O,_,R.callB [(0,0)] hC (show FnB Tryz.prog gl 104 [.ptr 0 0 [],.int ((4:Nat):Int)] [(0,.var (.agg [.sl none 1 (r3.map D.u8),.bool e3]))] (.u64 q) [(0,.var (.agg [.sl none 1 (r4.map D.u8),.bool e4]))] [] from by have h:=J7 r3 e3 bO 4 dU;rw[hp4] at h;exact h) (EvB.cons (gV 30 O) O O O (EvB.cons (kI 4 O) O O O EvB.nil)) O ⟨O,Zt⟩ ⟨O,Zt⟩ O O O O O O (nU O),⟨O,_,R.conv (gV 31 O) O (nU O),⟨O,_,R.fdP (gU 3 O) (nU O),(d5 O O O O O (tV (V2 2 3) (d7 3 2 0) 35 O O O ?_))⟩⟩⟩);refine z5 2 (y1 34) [] [] (V2 2 34) ⟨aU (lU 3 O O O O O O O),Zt⟩ O O (d5 O O O O O (tV (V1 2) (d7 3 2 0) 35 O O O ?_));refine W.ret ?_;exact u0 (.inr O) O (by rw[DH hp1 hp2 hp3 hp4];rfl) O (iL 112 36) O O (by rw[DH hp1 hp2 hp3 hp4];rfl) ⟨O,Zt⟩ O
end Go.Sx

namespace Go.Sx
open Go.Proofs
theorem HP(b:List UInt8)(bad:Bool)(hb0:b.length<=100000)(v k:UInt32):FnB Tryz.prog gl 106 [.ptr 0 0 [],.agg [.u32 v,.nils,.nils,.u32 k]] [(0,.var (.agg [.sl none 1 (b.map D.u8),.bool bad]))] (.agg [.u32 v,.sl (some 112) 36 ((E5 b bad).1.1.map G6),.sl (some 115) 2 ((E5 b bad).1.2.map j9),.u32 k]) [(0,.var (.agg [.sl none 1 ((E5 b bad).2.1.map D.u8),.bool (E5 b bad).2.2]))] []:=by
 refine FnB.of (n:=60) (ids:=[0]) Tryz.func106 rfl rfl rfl (nU rfl) fun C hC hD=>?_;refine z5 2 [] [] [] (V2 0 1) Zt O O (⟨O,_,R.box (gV 1 O) O O (nU O),(Q7 O O (tV (V3 0 3 4) (d7 4 3 0) 60 O O O ?_))⟩);refine W.seq ?_;refine n9 3 [1] 112 36 (bx':=(d7 4 3 0)) O O O O O ?_;refine n9 3 [2] 115 2 (bx':=(d7 4 3 0)) O O O O O ?_
 obtain⟨n,r0,e0,hp⟩:∃ a_ b_ c_,Y2 b bad=(a_,b_,c_):=⟨_,_,_,rfl⟩
 have hpl:=A5 hb0 hp;refine u4 3 (y1 11) [] [] (V4 0 3 4 11) ⟨mU 0 O O,Zt⟩ O O (⟨O,_,R.callB [(0,0)] hC (show FnB Tryz.prog gl 107 [.ptr 0 0 []] [(0,.var (.agg [.sl none 1 (b.map D.u8),.bool bad]))] (.int ((n:Nat):Int)) [(0,.var (.agg [.sl none 1 (r0.map D.u8),.bool e0]))] [] from by have h:=W3 b bad bO;rw[hp] at h;exact h) (EvB.cons (gV 11 O) O O O EvB.nil) O ⟨O,Zt⟩ ⟨O,Zt⟩ O O O O O O (nU O),(P8 O O O (tV (V4 0 3 4 5) (d7 4 3 0) 60 O O O ?_))⟩);refine W.seq (q9 1 (y1 6) (V5 0 3 4 5 6) ⟨aU<|zK (kI 0 O) O O,Zt⟩ ?_);refine W.block ?_;refine W.loop (α:={q__:Nat×List InS×List UInt8×Bool//q__.1<=n/\q__.2.1.length=q__.1/\q__.2.2.1.length<=100000/\N6 (n-q__.1) q__.2.1 q__.2.2.1 q__.2.2.2=N6 n [] r0 e0}) (fun q__=>⟨60,[(0,.ptr 0 0 []),(3,.ptr 3 0 []),(4,.ptr 4 0 []),(5,.int ((n:Nat):Int)),(6,.int ((q__.1.1:Nat):Int))],[(4,.var (.agg [.u32 0,.nils,.nils,.u32 0])),(3,.var (.agg [.u32 v,.sl (some 112) 36 (q__.1.2.1.map G6),.sl (some 115) 2 (([]:List OutS).map j9),.u32 k])),(0,.var (.agg [.sl none 1 (q__.1.2.2.1.map D.u8),.bool q__.1.2.2.2]))]⟩) (fun q__=>n-q__.1.1) ⟨(0,[],r0,e0),⟨Nat.zero_le _,O,(show r0.length<=100000 by omega),O⟩⟩ O ?_;rintro ⟨⟨i,l,r,e⟩,⟨hi,hll,hrl,hv⟩⟩;show W _ _ _ _ ⟨60,[(0,.ptr 0 0 []),(3,.ptr 3 0 []),(4,.ptr 4 0 []),(5,.int ((n:Nat):Int)),(6,.int ((i:Nat):Int))],[(4,.var (.agg [.u32 0,.nils,.nils,.u32 0])),(3,.var (.agg [.u32 v,.sl (some 112) 36 (l.map G6),.sl (some 115) 2 (([]:List OutS).map j9),.u32 k])),(0,.var (.agg [.sl none 1 (r.map D.u8),.bool e]))]⟩;have hi:i<=n:=hi;have hll:l.length=i:=hll;have hrl:r.length<=100000:=hrl;have hv:N6 (n-i) l r e=N6 n [] r0 e0:=hv;refine W.seq (W.seq ?_);by_cases h1:i<n
 ·refine z8 10 (VS 13 14 15 16 17 18 19 20 21 22) (V6 0 3 4 5 6 22) ⟨mU 6 O O,mU 5 O O,aU<|zS O O O,mU 15 O O,aW O O (gT (dT h1) O)<|zV O O O,aW O O (gT (dT h1) O)<|P7 O O,aW O O (gT (dT h1) O) (fU 18 O O),aW O O (gT (dT h1) O) (lU 19 O O O O O O O),aW O O (gT (dT h1) O)<|UQ O O O,aU<|zT O (dT h1) O O O,Zt⟩ ?_;refine W.cond O (fun hc22=>?_) (fun hc22=>?_)
  ·refine W.skip (W.seq (W.block (W.seq ?_)))
   obtain⟨a,r1,e1,hq1⟩:∃ a_ b_ c_,q46 r e=(a_,b_,c_):=⟨_,_,_,rfl⟩
   have hq1l:=TJ hrl hq1;refine u4 4 (y1 25) [] [] (V6 0 3 4 5 6 25) ⟨mU 0 O O,Zt⟩ O O (⟨O,_,R.callB [(0,0)] hC (show FnB Tryz.prog gl 144 [.ptr 0 0 []] [(0,.var (.agg [.sl none 1 (r.map D.u8),.bool e]))] (G6 a) [(0,.var (.agg [.sl none 1 (r1.map D.u8),.bool e1]))] [] from by have h:=WN r e bO;rw[hq1] at h;exact h) (EvB.cons (gV 25 O) O O O EvB.nil) O ⟨O,Zt⟩ ⟨O,Zt⟩ O O O O O O (nU O),(Q7 O O (d5 O O O O O (tV (V6 0 3 4 5 6 7) (T6 7 4 3 0) 60 O O O ?_)))⟩);refine u4 7 (y4 27 28 29 30) [] [] (V7 0 3 4 5 6 28 30) ⟨aU (fU 3 O O),aU fun _ B H K=>R.ldO (K 27 _ O) (B 3 _ O) O H,aU (lU 7 O O O O O O O),aU fun _ _ H K=>w8 (z:=36) (.cons (eU K 29 O) .nil) ⟨⟨O,O,O⟩,Zt⟩ O H dU,Zt⟩ O O (⟨O,_,QQ (gU 28 O) (xU 3 O) O O O O (gU 28 O) (SrcO.sc (SC.sl (gU 30 O)) (g6 O)) (show _=((l++[a]).map G6) from(by rw[List.map_append];rfl)) bU (nU O) dU dU,⟨O,_,R.fdP (gU 3 O) (nU O),⟨O,_,o8 (gU 32 O) (xU 3 O) O (gU 31 O) O O (by rfl) (by rfl) O O,tV (V5 0 3 4 5 6) (T6 7 4 3 0) 60 O O O ?_⟩⟩⟩);refine b7 [0,3,4] (bx':=(d7 4 3 0)) O O O (g7 hD O) ?_;refine z8 3 (y3 23 24 6) (V5 0 3 4 5 6) ⟨mU 6 O O,aU<|Q6 1 O O bU O,aU<|zA O O O,Zt⟩ ?_;exact⟨⟨(i+1,l++[a],r1,e1),⟨by omega,by simp[hll],(show r1.length<=100000 by omega),q10 hv h1 hc22 hq1⟩⟩,rfl,(by simp only[];omega)⟩
  ·have hI:N6 n [] r0 e0=(l,r,e):=EH hv (by first|exact .inl h1|exact .inr hc22);refine W.exit (W.seq ?_)
   obtain⟨m,r5,e5,hq⟩:∃ a_ b_ c_,Y2 r e=(a_,b_,c_):=⟨_,_,_,rfl⟩
   have hql:=A5 (by omega) hq;refine u4 3 (y1 33) [] [] (V5 0 3 4 5 33) ⟨mU 0 O O,Zt⟩ O O (⟨O,_,R.callB [(0,0)] hC (show FnB Tryz.prog gl 107 [.ptr 0 0 []] [(0,.var (.agg [.sl none 1 (r.map D.u8),.bool e]))] (.int ((m:Nat):Int)) [(0,.var (.agg [.sl none 1 (r5.map D.u8),.bool e5]))] [] from by have h:=W3 r e bO;rw[hq] at h;exact h) (EvB.cons (gV 33 O) O O O EvB.nil) O ⟨O,Zt⟩ ⟨O,Zt⟩ O O O O O O (nU O),(P8 O O O (tV (V4 0 3 4 5) (d7 4 3 0) 60 O O O ?_))⟩);refine W.seq (q9 1 (y1 8) (V5 0 3 4 5 8) ⟨aU<|zK (kI 0 O) O O,Zt⟩ ?_);refine W.block ?_;refine W.loop (α:={q__:Nat×List OutS×List UInt8×Bool//q__.1<=m/\q__.2.1.length=q__.1/\q__.2.2.1.length<=100000/\K1 (m-q__.1) q__.2.1 q__.2.2.1 q__.2.2.2=K1 m [] r5 e5}) (fun q__=>⟨60,[(0,.ptr 0 0 []),(3,.ptr 3 0 []),(4,.ptr 4 0 []),(5,.int ((m:Nat):Int)),(8,.int ((q__.1.1:Nat):Int))],[(4,.var (.agg [.u32 0,.nils,.nils,.u32 0])),(3,.var (.agg [.u32 v,.sl (some 112) 36 (l.map G6),.sl (some 115) 2 (q__.1.2.1.map j9),.u32 k])),(0,.var (.agg [.sl none 1 (q__.1.2.2.1.map D.u8),.bool q__.1.2.2.2]))]⟩) (fun q__=>m-q__.1.1) ⟨(0,[],r5,e5),⟨Nat.zero_le _,O,(show r5.length<=100000 by omega),O⟩⟩ O ?_;rintro ⟨⟨j,o,u,f⟩,⟨hj,hol,hul,hv2⟩⟩;show W _ _ _ _ ⟨60,[(0,.ptr 0 0 []),(3,.ptr 3 0 []),(4,.ptr 4 0 []),(5,.int ((m:Nat):Int)),(8,.int ((j:Nat):Int))],[(4,.var (.agg [.u32 0,.nils,.nils,.u32 0])),(3,.var (.agg [.u32 v,.sl (some 112) 36 (l.map G6),.sl (some 115) 2 (o.map j9),.u32 k])),(0,.var (.agg [.sl none 1 (u.map D.u8),.bool f]))]⟩;have hj:j<=m:=hj;have hol:o.length=j:=hol;have hul:u.length<=100000:=hul;have hv2:K1 (m-j) o u f=K1 m [] r5 e5:=hv2;refine W.seq (W.seq ?_);by_cases h2:j<m
   ·refine z8 10 (VS 35 36 37 38 39 40 41 42 43 44) (V6 0 3 4 5 8 44) ⟨mU 8 O O,mU 5 O O,aU<|zS O O O,mU 37 O O,aW O O (gT (dT h2) O)<|zV O O O,aW O O (gT (dT h2) O)<|P7 O O,aW O O (gT (dT h2) O) (fU 40 O O),aW O O (gT (dT h2) O) (lU 41 O O O O O O O),aW O O (gT (dT h2) O)<|UQ O O O,aU<|zT O (dT h2) O O O,Zt⟩ ?_;refine W.cond O (fun hc44=>?_) (fun hc44=>?_)
    ·refine W.skip (W.seq (W.block (W.seq ?_)))
     obtain⟨p,u1,f1,hq3⟩:∃ a_ b_ c_,Q2 u f 8=(a_,b_,c_):=⟨_,_,_,rfl⟩
     have hq3l:=J5 hq3;refine u4 3 (y1 47) [] [] (V6 0 3 4 5 8 47) ⟨mU 0 O O,Zt⟩ O O (⟨O,_,R.callB [(0,0)] hC (show FnB Tryz.prog gl 104 [.ptr 0 0 [],.int ((8:Nat):Int)] [(0,.var (.agg [.sl none 1 (u.map D.u8),.bool f]))] (.u64 p) [(0,.var (.agg [.sl none 1 (u1.map D.u8),.bool f1]))] [] from by have h:=J7 u f bO 8 dU;rw[hq3] at h;exact h) (EvB.cons (gV 47 O) O O O (EvB.cons (kI 8 O) O O O EvB.nil)) O ⟨O,Zt⟩ ⟨O,Zt⟩ O O O O O O (nU O),(P8 O O O (tV (V6 0 3 4 5 8 9) (d7 4 3 0) 60 O O O ?_))⟩);refine W.seq ?_
     obtain⟨s,u2,f2,hq4⟩:∃ a_ b_ c_,A1 u1 f1=(a_,b_,c_):=⟨_,_,_,rfl⟩
     have hq4l:=r6 (by omega) hq4;refine u4 3 (y1 49) [] [] (V7 0 3 4 5 8 9 49) ⟨mU 0 O O,Zt⟩ O O (⟨O,_,e9 (r':=.sl none 1 (s.map D.u8)) (R.callB [(0,0)] hC (show FnB Tryz.prog gl 108 [.ptr 0 0 []] [(0,.var (.agg [.sl none 1 (u1.map D.u8),.bool f1]))] (.sl (some 5) 1 (s.map D.u8)) [(0,.var (.agg [.sl none 1 (u2.map D.u8),.bool f2]))] [] from by have h:=JW u1 f1 bO;rw[hq4] at h;exact h) (EvB.cons (gV 49 O) O O O EvB.nil) O ⟨O,Zt⟩ ⟨O,Zt⟩ O O O O O O (nU O)) O (show(.sl (some 5) 1 (s.map D.u8):D).brw=_ from by simp only[D.brw,j7];rw[j2 (fun _=>rfl)]),(P8 O O O (tV (V7 0 3 4 5 8 9 10) (d7 4 3 0) 60 O O O ?_))⟩);refine u4 9 (y6 51 52 53 54 55 56) [] [] (V7 0 3 4 5 8 52 56) ⟨aU (fU 3 O O),aU fun _ B H K=>R.ldO (K 51 _ O) (B 3 _ O) O H,mU 9 O O,mU 10 O O,aU fun _ _ H K=>c9 (l:=[.u64 0,.nils]) (l':=[_,_]) (.cons (eU K 53 O) (.cons (eU K 54 O) (.nil O))) ⟨⟨_,(eU K 53 O),O,O,O⟩,⟨⟨_,(eU K 54 O),O,O,O⟩,Zt⟩⟩ H,aU fun _ _ H K=>w8 (z:=2) (.cons (eU K 55 O) .nil) ⟨⟨O,O,O⟩,Zt⟩ O H dU,Zt⟩ O O (⟨O,_,QQ (gU 52 O) (xU 3 O) O O O O (gU 52 O) (SrcO.sc (SC.sl (gU 56 O)) (g6 O)) (show _=((o++[(⟨p,s⟩:OutS)]).map j9) from(by rw[List.map_append];rfl)) bU (nU O) dU dU,⟨O,_,R.fdP (gU 3 O) (nU O),⟨O,_,o8 (gU 58 O) (xU 3 O) O (gU 57 O) O O (by rfl) (by rfl) O O,tV (V5 0 3 4 5 8) (d7 4 3 0) 60 O O O ?_⟩⟩⟩);refine z8 3 (y3 45 46 8) (V5 0 3 4 5 8) ⟨mU 8 O O,aU<|Q6 1 O O bU O,aU<|zA O O O,Zt⟩ ?_;exact⟨⟨(j+1,o++[(⟨p,s⟩:OutS)],u2,f2),⟨by omega,by simp[hol],(show u2.length<=100000 by omega),HE hv2 h2 hc44 (GB hq3 hq4)⟩⟩,rfl,(by simp only[];omega)⟩
    ·have hO:K1 m [] r5 e5=(o,u,f):=ZF hv2 (by first|exact .inl h2|exact .inr hc44);refine W.exit (z5 2 [] [] [] (V2 3 4) Zt O O (⟨O,_,R.ldTake (gU 3 O) (xU 3 O) O O O (nU O),⟨O,_,o8 (gU 4 O) (xU 4 O) O (gU 59 O) O O (by rfl) (by rfl) O O,tV (V1 4) (d7 4 3 0) 60 O O O ?_⟩⟩));refine W.ret ?_;exact u0 (.inr O) O (by rw[H4 hp hI hq hO]<;>rfl) O (iL 31 4) O O (by rw[H4 hp hI hq hO]<;>rfl) ⟨O,Zt⟩ O
   ·refine z8 10 [.y 35 _,.y 36 _,.y 37 _,.y 38 _,.x 39,.x 40,.x 41,.x 42,.x 43,.y 44 _] (V6 0 3 4 5 8 44) ⟨mU 8 O O,mU 5 O O,aU<|zS O O O,mU 37 O O,aF O O (gF (dF h2) O),aF O O (gF (dF h2) O),aF O O (gF (dF h2) O),aF O O (gF (dF h2) O),aF O O (gF (dF h2) O),aU<|YL O (dF h2) (kB false O) O O,Zt⟩ ?_;refine v4 O (O) ?_;have hO:K1 m [] r5 e5=(o,u,f):=ZF hv2 (by first|exact .inl h2|exact .inr hc44);refine W.exit (z5 2 [] [] [] (V2 3 4) Zt O O (⟨O,_,R.ldTake (gU 3 O) (xU 3 O) O O O (nU O),⟨O,_,o8 (gU 4 O) (xU 4 O) O (gU 59 O) O O (by rfl) (by rfl) O O,tV (V1 4) (d7 4 3 0) 60 O O O ?_⟩⟩));refine W.ret ?_;exact u0 (.inr O) O (by rw[H4 hp hI hq hO]<;>rfl) O (iL 31 4) O O (by rw[H4 hp hI hq hO]<;>rfl) ⟨O,Zt⟩ O
 ·refine z8 10 [.y 13 _,.y 14 _,.y 15 _,.y 16 _,.x 17,.x 18,.x 19,.x 20,.x 21,.y 22 _] (V6 0 3 4 5 6 22) ⟨mU 6 O O,mU 5 O O,aU<|zS O O O,mU 15 O O,aF O O (gF (dF h1) O),aF O O (gF (dF h1) O),aF O O (gF (dF h1) O),aF O O (gF (dF h1) O),aF O O (gF (dF h1) O),aU<|YL O (dF h1) (kB false O) O O,Zt⟩ ?_;refine v4 O (O) ?_;have hI:N6 n [] r0 e0=(l,r,e):=EH hv (by first|exact .inl h1|exact .inr hc22);refine W.exit (W.seq ?_)
  obtain⟨m,r5,e5,hq⟩:∃ a_ b_ c_,Y2 r e=(a_,b_,c_):=⟨_,_,_,rfl⟩
  have hql:=A5 (by omega) hq;refine u4 3 (y1 33) [] [] (V5 0 3 4 5 33) ⟨mU 0 O O,Zt⟩ O O (⟨O,_,R.callB [(0,0)] hC (show FnB Tryz.prog gl 107 [.ptr 0 0 []] [(0,.var (.agg [.sl none 1 (r.map D.u8),.bool e]))] (.int ((m:Nat):Int)) [(0,.var (.agg [.sl none 1 (r5.map D.u8),.bool e5]))] [] from by have h:=W3 r e bO;rw[hq] at h;exact h) (EvB.cons (gV 33 O) O O O EvB.nil) O ⟨O,Zt⟩ ⟨O,Zt⟩ O O O O O O (nU O),(P8 O O O (tV (V4 0 3 4 5) (d7 4 3 0) 60 O O O ?_))⟩);refine W.seq (q9 1 (y1 8) (V5 0 3 4 5 8) ⟨aU<|zK (kI 0 O) O O,Zt⟩ ?_);refine W.block ?_;refine W.loop (α:={q__:Nat×List OutS×List UInt8×Bool//q__.1<=m/\q__.2.1.length=q__.1/\q__.2.2.1.length<=100000/\K1 (m-q__.1) q__.2.1 q__.2.2.1 q__.2.2.2=K1 m [] r5 e5}) (fun q__=>⟨60,[(0,.ptr 0 0 []),(3,.ptr 3 0 []),(4,.ptr 4 0 []),(5,.int ((m:Nat):Int)),(8,.int ((q__.1.1:Nat):Int))],[(4,.var (.agg [.u32 0,.nils,.nils,.u32 0])),(3,.var (.agg [.u32 v,.sl (some 112) 36 (l.map G6),.sl (some 115) 2 (q__.1.2.1.map j9),.u32 k])),(0,.var (.agg [.sl none 1 (q__.1.2.2.1.map D.u8),.bool q__.1.2.2.2]))]⟩) (fun q__=>m-q__.1.1) ⟨(0,[],r5,e5),⟨Nat.zero_le _,O,(show r5.length<=100000 by omega),O⟩⟩ O ?_;rintro ⟨⟨j,o,u,f⟩,⟨hj,hol,hul,hv2⟩⟩;show W _ _ _ _ ⟨60,[(0,.ptr 0 0 []),(3,.ptr 3 0 []),(4,.ptr 4 0 []),(5,.int ((m:Nat):Int)),(8,.int ((j:Nat):Int))],[(4,.var (.agg [.u32 0,.nils,.nils,.u32 0])),(3,.var (.agg [.u32 v,.sl (some 112) 36 (l.map G6),.sl (some 115) 2 (o.map j9),.u32 k])),(0,.var (.agg [.sl none 1 (u.map D.u8),.bool f]))]⟩;have hj:j<=m:=hj;have hol:o.length=j:=hol;have hul:u.length<=100000:=hul;have hv2:K1 (m-j) o u f=K1 m [] r5 e5:=hv2;refine W.seq (W.seq ?_);by_cases h2:j<m
  ·refine z8 10 (VS 35 36 37 38 39 40 41 42 43 44) (V6 0 3 4 5 8 44) ⟨mU 8 O O,mU 5 O O,aU<|zS O O O,mU 37 O O,aW O O (gT (dT h2) O)<|zV O O O,aW O O (gT (dT h2) O)<|P7 O O,aW O O (gT (dT h2) O) (fU 40 O O),aW O O (gT (dT h2) O) (lU 41 O O O O O O O),aW O O (gT (dT h2) O)<|UQ O O O,aU<|zT O (dT h2) O O O,Zt⟩ ?_;refine W.cond O (fun hc44=>?_) (fun hc44=>?_)
   ·refine W.skip (W.seq (W.block (W.seq ?_)))
    obtain⟨p,u1,f1,hq3⟩:∃ a_ b_ c_,Q2 u f 8=(a_,b_,c_):=⟨_,_,_,rfl⟩
    have hq3l:=J5 hq3;refine u4 3 (y1 47) [] [] (V6 0 3 4 5 8 47) ⟨mU 0 O O,Zt⟩ O O (⟨O,_,R.callB [(0,0)] hC (show FnB Tryz.prog gl 104 [.ptr 0 0 [],.int ((8:Nat):Int)] [(0,.var (.agg [.sl none 1 (u.map D.u8),.bool f]))] (.u64 p) [(0,.var (.agg [.sl none 1 (u1.map D.u8),.bool f1]))] [] from by have h:=J7 u f bO 8 dU;rw[hq3] at h;exact h) (EvB.cons (gV 47 O) O O O (EvB.cons (kI 8 O) O O O EvB.nil)) O ⟨O,Zt⟩ ⟨O,Zt⟩ O O O O O O (nU O),(P8 O O O (tV (V6 0 3 4 5 8 9) (d7 4 3 0) 60 O O O ?_))⟩);refine W.seq ?_
    obtain⟨s,u2,f2,hq4⟩:∃ a_ b_ c_,A1 u1 f1=(a_,b_,c_):=⟨_,_,_,rfl⟩
    have hq4l:=r6 (by omega) hq4;refine u4 3 (y1 49) [] [] (V7 0 3 4 5 8 9 49) ⟨mU 0 O O,Zt⟩ O O (⟨O,_,e9 (r':=.sl none 1 (s.map D.u8)) (R.callB [(0,0)] hC (show FnB Tryz.prog gl 108 [.ptr 0 0 []] [(0,.var (.agg [.sl none 1 (u1.map D.u8),.bool f1]))] (.sl (some 5) 1 (s.map D.u8)) [(0,.var (.agg [.sl none 1 (u2.map D.u8),.bool f2]))] [] from by have h:=JW u1 f1 bO;rw[hq4] at h;exact h) (EvB.cons (gV 49 O) O O O EvB.nil) O ⟨O,Zt⟩ ⟨O,Zt⟩ O O O O O O (nU O)) O (show(.sl (some 5) 1 (s.map D.u8):D).brw=_ from by simp only[D.brw,j7];rw[j2 (fun _=>rfl)]),(P8 O O O (tV (V7 0 3 4 5 8 9 10) (d7 4 3 0) 60 O O O ?_))⟩);refine u4 9 (y6 51 52 53 54 55 56) [] [] (V7 0 3 4 5 8 52 56) ⟨aU (fU 3 O O),aU fun _ B H K=>R.ldO (K 51 _ O) (B 3 _ O) O H,mU 9 O O,mU 10 O O,aU fun _ _ H K=>c9 (l:=[.u64 0,.nils]) (l':=[_,_]) (.cons (eU K 53 O) (.cons (eU K 54 O) (.nil O))) ⟨⟨_,(eU K 53 O),O,O,O⟩,⟨⟨_,(eU K 54 O),O,O,O⟩,Zt⟩⟩ H,aU fun _ _ H K=>w8 (z:=2) (.cons (eU K 55 O) .nil) ⟨⟨O,O,O⟩,Zt⟩ O H dU,Zt⟩ O O (⟨O,_,QQ (gU 52 O) (xU 3 O) O O O O (gU 52 O) (SrcO.sc (SC.sl (gU 56 O)) (g6 O)) (show _=((o++[(⟨p,s⟩:OutS)]).map j9) from(by rw[List.map_append];rfl)) bU (nU O) dU dU,⟨O,_,R.fdP (gU 3 O) (nU O),⟨O,_,o8 (gU 58 O) (xU 3 O) O (gU 57 O) O O (by rfl) (by rfl) O O,tV (V5 0 3 4 5 8) (d7 4 3 0) 60 O O O ?_⟩⟩⟩);refine z8 3 (y3 45 46 8) (V5 0 3 4 5 8) ⟨mU 8 O O,aU<|Q6 1 O O bU O,aU<|zA O O O,Zt⟩ ?_;exact⟨⟨(j+1,o++[(⟨p,s⟩:OutS)],u2,f2),⟨by omega,by simp[hol],(show u2.length<=100000 by omega),HE hv2 h2 hc44 (GB hq3 hq4)⟩⟩,rfl,(by simp only[];omega)⟩
   ·have hO:K1 m [] r5 e5=(o,u,f):=ZF hv2 (by first|exact .inl h2|exact .inr hc44);refine W.exit (z5 2 [] [] [] (V2 3 4) Zt O O (⟨O,_,R.ldTake (gU 3 O) (xU 3 O) O O O (nU O),⟨O,_,o8 (gU 4 O) (xU 4 O) O (gU 59 O) O O (by rfl) (by rfl) O O,tV (V1 4) (d7 4 3 0) 60 O O O ?_⟩⟩));refine W.ret ?_;exact u0 (.inr O) O (by rw[H4 hp hI hq hO]<;>rfl) O (iL 31 4) O O (by rw[H4 hp hI hq hO]<;>rfl) ⟨O,Zt⟩ O
  ·refine z8 10 [.y 35 _,.y 36 _,.y 37 _,.y 38 _,.x 39,.x 40,.x 41,.x 42,.x 43,.y 44 _] (V6 0 3 4 5 8 44) ⟨mU 8 O O,mU 5 O O,aU<|zS O O O,mU 37 O O,aF O O (gF (dF h2) O),aF O O (gF (dF h2) O),aF O O (gF (dF h2) O),aF O O (gF (dF h2) O),aF O O (gF (dF h2) O),aU<|YL O (dF h2) (kB false O) O O,Zt⟩ ?_;refine v4 O (O) ?_;have hO:K1 m [] r5 e5=(o,u,f):=ZF hv2 (by first|exact .inl h2|exact .inr hc44);refine W.exit (z5 2 [] [] [] (V2 3 4) Zt O O (⟨O,_,R.ldTake (gU 3 O) (xU 3 O) O O O (nU O),⟨O,_,o8 (gU 4 O) (xU 4 O) O (gU 59 O) O O (by rfl) (by rfl) O O,tV (V1 4) (d7 4 3 0) 60 O O O ?_⟩⟩));refine W.ret ?_;exact u0 (.inr O) O (by rw[H4 hp hI hq hO]<;>rfl) O (iL 31 4) O O (by rw[H4 hp hI hq hO]<;>rfl) ⟨O,Zt⟩ O
end Go.Sx

namespace Go.Sx
def val:List UInt8->Nat
 | []=>0
 | x::r=>x.toNat+256*val r
theorem q58(l:List UInt8):val l<256^l.length:=by
 induction l with
 | nil=>simp[val]
 | cons x r ih=>
  have:=x.toNat_lt;simp only[val,List.length_cons,Nat.pow_succ];omega
theorem q57(l:List UInt8)(x:UInt8):val (l++[x])=val l+256^l.length*x.toNat:=by
 induction l with
 | nil=>simp[val]
 | cons y r ih=>
  simp only[List.cons_append,val,ih,List.length_cons,Nat.pow_succ];rw[Nat.mul_add,<- Nat.mul_assoc,Nat.mul_comm 256 (256^r.length)];omega
theorem x26(i:Nat):(256:Nat)^i=2^(8*i):=by
 rw[Nat.pow_mul]
theorem z25(l:List UInt8):∀ i,i<=l.length->i<=8->(CV l i).toNat=val (l.take i):=by
 intro i
 induction i with
 | zero=>intro _ _;simp[CV,val]
 | succ i ih=>
  intro h1 h2;have hi:=ih (by omega) (by omega);rw[F8 (by omega),q57];simp only[CV,UInt64.toNat_or,hi,T0,UInt8.toNat_toUInt64]
  have hl:(l.take i).length=i:=by simp;omega
  rw[hl,Nat.min_eq_left (by omega)];have hx:=l[i]!.toNat_lt
  have hv:val (l.take i)<2^(8*i):=by have:=q58 (l.take i);rw[hl,x26] at this;exact this
  have hp:2^(8*i)<=2^56:=Nat.pow_le_pow_right (by decide) (by omega)
  rw[Nat.mod_eq_of_lt (by
   have:l[i]!.toNat*2^(8*i)<=255*2^56:=Nat.mul_le_mul (by omega) hp
   omega)]
  rw[Nat.or_comm,Nat.mul_comm,<- Nat.two_pow_add_eq_or_of_lt hv,x26];omega
theorem z26(l:List UInt8)(h8:l.length<=8):∀ k,k<=l.length->(AW l k).toNat=val (l.drop (l.length-k)):=by
 intro k
 induction k with
 | zero=>intro _;simp[AW,val]
 | succ k ih=>
  intro h1;have hi:=ih (by omega)
  have hd:l.drop (l.length-(k+1))=l[l.length-1-k]!::l.drop (l.length-k):=by
   rw[List.drop_eq_getElem_cons (show l.length-(k+1)<l.length by omega)];rw[getElem!_pos l (l.length-1-k) (by omega)]
   have e1:l.length-(k+1)+1=l.length-k:=by omega
   have e2:l[l.length-(k+1)]=l[l.length-1-k]:=by congr 1;omega
   rw[e1,e2]
  rw[hd];simp only[AW,UInt64.toNat_or,hi,T0,UInt8.toNat_toUInt64,val];have hx:=(l[l.length-1-k]!).toNat_lt
  have hl:(l.drop (l.length-k)).length=k:=by simp;omega
  have hv:val (l.drop (l.length-k))<2^(8*k):=by have:=q58 (l.drop (l.length-k));rw[hl,x26] at this;exact this
  have hp:2^(8*k)<=2^56:=Nat.pow_le_pow_right (by decide) (by omega);have e8:(2:Nat)^(min 8 64)=2^8:=rfl;rw[e8,Nat.mod_eq_of_lt (by omega),Nat.mul_comm,<- Nat.two_pow_add_eq_or_of_lt (show(l[l.length-1-k]!).toNat<2^8 by omega)];omega
theorem BT(l:List UInt8)(h:l.length<=8):AW l l.length=CV l l.length:=by
 apply UInt64.toNat_inj.1;rw[z26 l h _ (Nat.le_refl _),z25 l _ (Nat.le_refl _) h,Nat.sub_self,List.drop_zero,List.take_length]
section
variable{b r u:List UInt8}{e:Bool}{n:Nat}{x y:UInt64}{s:List UInt8}{ins l:List InS}{outs o:List OutS}
theorem B0:c4 b e n=(s,r,false)↔e=false/\K0 b n=some (s,r):=by
 unfold c4 K0
 cases e with
 | true=>simp
 | false=>
  by_cases h:b.length<n
  ·have h2:¬ n<=b.length:=by omega
   simp[h,h2]
  ·have h2:n<=b.length:=by omega
   simp[h,h2]
theorem Z4(hn:n<=8):Q2 b e n=(x,r,false)↔e=false/\m0 b n=some (x,r):=by
 unfold Q2 m0
 obtain⟨s,r',e',hs⟩:∃ a c d,c4 b e n=(a,c,d):=⟨_,_,_,rfl⟩
 rw[hs];simp only;constructor
 ·intro h;simp only[Prod.mk.injEq] at h;obtain⟨h1,rfl,rfl⟩:=h;obtain⟨h2,h3⟩:=B0.1 hs;refine⟨h2, ?_⟩;rw[h3,Option.map_some,<- h1,BT _ (by have:=Q8 h3;omega)]
 ·rintro ⟨h1,h2⟩
  cases ht:K0 b n with
  | none=>rw[ht] at h2;cases h2
  | some q=>
   obtain⟨s2,r2⟩:=q;rw[ht] at h2;simp only[Option.map_some,Option.some.injEq,Prod.mk.injEq] at h2;have h3:=B0.2 ⟨h1,ht⟩;rw[hs] at h3;simp only[Prod.mk.injEq] at h3;obtain⟨rfl,rfl,rfl⟩:=h3;obtain⟨h4,rfl⟩:=h2;rw[BT _ (by have:=Q8 ht;omega),h4]
theorem XN{m:Nat}:O3 y u e=(m,r,false)↔e=false/\(if UInt64.ofInt ((u.length:Nat):Int)<y then none else some (y.toNat,u))=some (m,r):=by
 unfold O3;split
 ·simp
 ·simp only[Prod.mk.injEq,Option.some.injEq];constructor
  ·rintro ⟨h1,h2,h3⟩;exact⟨h3,h1,h2⟩
  ·rintro ⟨h3,h1,h2⟩;exact⟨h1,h2,h3⟩
theorem A6:Y2 b e=(n,r,false)↔e=false/\U7 b=some (n,r):=by
 obtain⟨x,r1,e1,hp⟩:∃ x r d,Q2 b e 1=(x,r,d):=⟨_,_,_,rfl⟩
 -- the second number
 have two:∀ m y r2 e2,m<=8->m=n2 x->253<=x->Q2 r1 e1 m=(y,r2,e2)->Y2 b e=O3 y r2 e2->(Y2 b e=(n,r,false)↔e=false/\U7 b=some (n,r)):=by
  intro m y r2 e2 hm hm2 h7 hq hc;rw[hc];constructor
  ·intro h;obtain⟨he2,h2⟩:=XN.1 h;subst he2;obtain⟨he1,h3⟩:=(Z4 hm).1 hq;subst he1;obtain⟨he,h4⟩:=(Z4 (by decide)).1 hp;exact⟨he,by rw[s4 h4 h7 (by rw[<- hm2];exact h3)];exact h2⟩
  ·rintro ⟨he,h⟩
   cases h1:m0 b 1 with
   | none=>rw[f8 h1] at h;cases h
   | some q=>
    obtain⟨x',r1'⟩:=q;have h2:=(Z4 (by decide)).2 ⟨he,h1⟩;rw[hp] at h2;simp only[Prod.mk.injEq] at h2;obtain⟨rfl,rfl,rfl⟩:=h2
    cases h3:m0 r1 (n2 x) with
    | none=>rw[JX h1 h7 h3] at h;cases h
    | some q=>
     obtain⟨y',r2'⟩:=q;have h4:=(Z4 hm).2 ⟨rfl,by rw[hm2];exact h3⟩;rw[hq] at h4;simp only[Prod.mk.injEq] at h4;obtain⟨rfl,rfl,rfl⟩:=h4;rw[s4 h1 h7 h3] at h;exact XN.2 ⟨rfl,h⟩
 have nx:∀ m,∃ y r2 e2,Q2 r1 e1 m=(y,r2,e2):=fun m=>⟨_,_,_,rfl⟩
 by_cases h1:x=253
 ·obtain⟨y,r2,e2,hq⟩:=nx 2;subst h1;exact two 2 y r2 e2 (by decide) rfl (by decide) hq (UV hp rfl hq)
 ·by_cases h2:x=254
  ·obtain⟨y,r2,e2,hq⟩:=nx 4;subst h2;exact two 4 y r2 e2 (by decide) rfl (by decide) hq (UT hp h1 rfl hq)
  ·by_cases h3:x=255
   ·obtain⟨y,r2,e2,hq⟩:=nx 8;subst h3;exact two 8 y r2 e2 (by decide) rfl (by decide) hq (US hp h1 h2 rfl hq)
   ·rw[q24 hp h1 h2 h3]
    have small:∀ {z:UInt64} {r':List UInt8},m0 b 1=some (z,r')->z=x->¬ 253<=x:=by
     intro z r' hz hzx;have:=AV hz;rw[hzx] at this;intro hc;rw[UInt64.le_iff_toNat_le] at hc;have e3:(253:UInt64).toNat=253:=rfl;have h1':x.toNat≠253:=fun h=>h1 (UInt64.toNat_inj.1 h);have h2':x.toNat≠254:=fun h=>h2 (UInt64.toNat_inj.1 h);have h3':x.toNat≠255:=fun h=>h3 (UInt64.toNat_inj.1 h);omega
    constructor
    ·intro h;obtain⟨he1,h4⟩:=XN.1 h;subst he1;obtain⟨he,h5⟩:=(Z4 (by decide)).1 hp;exact⟨he,by rw[O2 h5 (small h5 rfl)];exact h4⟩
    ·rintro ⟨he,h⟩
     cases h5:m0 b 1 with
     | none=>rw[f8 h5] at h;cases h
     | some q=>
      obtain⟨x',r1'⟩:=q;have h6:=(Z4 (by decide)).2 ⟨he,h5⟩;rw[hp] at h6;simp only[Prod.mk.injEq] at h6;obtain⟨rfl,rfl,rfl⟩:=h6;rw[O2 h5 (small h5 rfl)] at h;exact XN.2 ⟨rfl,h⟩
theorem r7:A1 b e=(s,r,false)↔e=false/\J6 b=some (s,r):=by
 obtain⟨n,r1,e1,hc⟩:∃ a c d,Y2 b e=(a,c,d):=⟨_,_,_,rfl⟩
 have hi:A1 b e=c4 r1 e1 n:=by unfold A1;rw[hc]
 rw[hi];unfold J6;constructor
 ·intro h;obtain⟨he1,h2⟩:=B0.1 h;subst he1;obtain⟨he,h3⟩:=A6.1 hc;exact⟨he,by rw[h3];exact h2⟩
 ·rintro ⟨he,h⟩
  cases h3:U7 b with
  | none=>rw[h3] at h;cases h
  | some q=>
   obtain⟨n',r'⟩:=q;rw[h3] at h;have h4:=A6.2 ⟨he,h3⟩;rw[hc] at h4;simp only[Prod.mk.injEq] at h4;obtain⟨rfl,rfl,rfl⟩:=h4;exact B0.2 ⟨rfl,h⟩
theorem BA{x:List UInt8}(h:x.length=32):k87 x=x:=by
 unfold k87 q25;rw[List.take_length,h];simp
theorem TU{a:InS}:q46 b e=(a,r,false)↔e=false/\YI b=some (a,r):=by
 obtain⟨x,r1,e1,h1⟩:∃ a c d,c4 b e 32=(a,c,d):=⟨_,_,_,rfl⟩
 obtain⟨p,r2,e2,h2⟩:∃ a c d,Q2 r1 e1 4=(a,c,d):=⟨_,_,_,rfl⟩
 obtain⟨s,r3,e3,h3⟩:∃ a c d,A1 r2 e2=(a,c,d):=⟨_,_,_,rfl⟩
 obtain⟨q,r4,e4,h4⟩:∃ a c d,Q2 r3 e3 4=(a,c,d):=⟨_,_,_,rfl⟩
 rw[DH h1 h2 h3 h4];constructor
 ·intro h;simp only[Prod.mk.injEq] at h;obtain⟨ha,rfl,rfl⟩:=h;obtain⟨g3,k4⟩:=(Z4 (by decide)).1 h4;subst g3;obtain⟨g2,k3⟩:=r7.1 h3;subst g2;obtain⟨g1,k2⟩:=(Z4 (by decide)).1 h2;subst g1;obtain⟨g0,k1⟩:=B0.1 h1;refine⟨g0, ?_⟩;rw[z73 k1 k2 k3 k4,<- ha,BA (Q8 k1).1]
 ·rintro ⟨he,h⟩
  cases k1:K0 b 32 with
  | none=>rw[z77 k1] at h;cases h
  | some y=>
   obtain⟨x',r1'⟩:=y;have g1:=B0.2 ⟨he,k1⟩;rw[h1] at g1;simp only[Prod.mk.injEq] at g1;obtain⟨rfl,rfl,rfl⟩:=g1
   cases k2:m0 r1 4 with
   | none=>rw[z76 k1 k2] at h;cases h
   | some y=>
    obtain⟨p',r2'⟩:=y;have g2:=(Z4 (by decide)).2 ⟨rfl,k2⟩;rw[h2] at g2;simp only[Prod.mk.injEq] at g2;obtain⟨rfl,rfl,rfl⟩:=g2
    cases k3:J6 r2 with
    | none=>rw[z75 k1 k2 k3] at h;cases h
    | some y=>
     obtain⟨s',r3'⟩:=y;have g3:=r7.2 ⟨rfl,k3⟩;rw[h3] at g3;simp only[Prod.mk.injEq] at g3;obtain⟨rfl,rfl,rfl⟩:=g3
     cases k4:m0 r3 4 with
     | none=>rw[z74 k1 k2 k3 k4] at h;cases h
     | some y=>
      obtain⟨q',r4'⟩:=y;have g4:=(Z4 (by decide)).2 ⟨rfl,k4⟩;rw[h4] at g4;simp only[Prod.mk.injEq] at g4;obtain⟨rfl,rfl,rfl⟩:=g4;rw[z73 k1 k2 k3 k4] at h;cases h;rw[BA (Q8 k1).1]
theorem AA{a:OutS}:AE b e=(a,r,false)↔e=false/\T1 b=some (a,r):=by
 obtain⟨p,r2,e2,h2⟩:∃ a c d,Q2 b e 8=(a,c,d):=⟨_,_,_,rfl⟩
 obtain⟨s,r3,e3,h3⟩:∃ a c d,A1 r2 e2=(a,c,d):=⟨_,_,_,rfl⟩
 rw[GB h2 h3];constructor
 ·intro h;simp only[Prod.mk.injEq] at h;obtain⟨ha,rfl,rfl⟩:=h;obtain⟨g2,k3⟩:=r7.1 h3;subst g2;obtain⟨g1,k2⟩:=(Z4 (by decide)).1 h2;exact⟨g1,by rw[IN k2 k3,<- ha]⟩
 ·rintro ⟨he,h⟩
  cases k2:m0 b 8 with
  | none=>rw[SA k2] at h;cases h
  | some y=>
   obtain⟨p',r2'⟩:=y;have g2:=(Z4 (by decide)).2 ⟨he,k2⟩;rw[h2] at g2;simp only[Prod.mk.injEq] at g2;obtain⟨rfl,rfl,rfl⟩:=g2
   cases k3:J6 r2 with
   | none=>rw[SO k2 k3] at h;cases h
   | some y=>
    obtain⟨s',r3'⟩:=y;have g3:=r7.2 ⟨rfl,k3⟩;rw[h3] at g3;simp only[Prod.mk.injEq] at g3;obtain⟨rfl,rfl,rfl⟩:=g3;rw[IN k2 k3] at h;cases h;rfl
theorem q11:C4 b (n+1)=(YI b).bind fun p=>(C4 p.2 n).map fun q=>(p.1::q.1,q.2):=by
 induction n with
 | zero=>
  simp only[C4,Option.bind_some]
  cases YI b<;>simp
 | succ n ih=>
  rw[C4,ih]
  cases h:YI b with
  | none=>simp
  | some p=>
   simp only[Option.bind_some];rw[C4]
   cases C4 p.2 n with
   | none=>simp
   | some q=>
    simp only[Option.map_some,Option.bind_some]
    cases YI q.2<;>simp
theorem IM:J3 b (n+1)=(T1 b).bind fun p=>(J3 p.2 n).map fun q=>(p.1::q.1,q.2):=by
 induction n with
 | zero=>
  simp only[J3,Option.bind_some]
  cases T1 b<;>simp
 | succ n ih=>
  rw[J3,ih]
  cases h:T1 b with
  | none=>simp
  | some p=>
   simp only[Option.bind_some];rw[J3]
   cases J3 p.2 n with
   | none=>simp
   | some q=>
    simp only[Option.map_some,Option.bind_some]
    cases T1 q.2<;>simp
theorem EG{acc:List InS}:N6 n acc b e=(l,r,false)↔e=false/\∃ l',C4 b n=some (l',r)/\l=acc++l':=by
 induction n generalizing acc b e with
 | zero=>
  simp only[N6,C4,Prod.mk.injEq,Option.some.injEq];constructor
  ·rintro ⟨rfl,rfl,rfl⟩;exact⟨rfl,[],⟨rfl,rfl⟩,by simp⟩
  ·rintro ⟨rfl,l',⟨rfl,rfl⟩,rfl⟩;simp
 | succ n ih=>
  cases e with
  | true=>simp[N6]
  | false=>
   obtain⟨a,r1,e1,h1⟩:∃ x y z,q46 b false=(x,y,z):=⟨_,_,_,rfl⟩
   have hq:N6 (n+1) acc b false=N6 n (acc++[a]) r1 e1:=by simp[N6,h1]
   rw[hq,ih,q11];constructor
   ·rintro ⟨rfl,l',h2,rfl⟩;obtain⟨_,h3⟩:=TU.1 h1;exact⟨rfl,a::l',by rw[h3];simp[h2],by simp⟩
   ·rintro ⟨_,l',h2,rfl⟩
    cases h3:YI b with
    | none=>rw[h3] at h2;cases h2
    | some p=>
     obtain⟨a',r'⟩:=p;have h4:=TU.2 ⟨rfl,h3⟩;rw[h1] at h4;simp only[Prod.mk.injEq] at h4;obtain⟨rfl,rfl,rfl⟩:=h4;rw[h3,Option.bind_some] at h2
     cases h5:C4 r1 n with
     | none=>rw[h5] at h2;cases h2
     | some q=>
      obtain⟨l2,r2⟩:=q;rw[h5] at h2;cases h2;exact⟨rfl,l2,rfl,by simp⟩
theorem BE{acc:List OutS}:K1 n acc b e=(o,r,false)↔e=false/\∃ l',J3 b n=some (l',r)/\o=acc++l':=by
 induction n generalizing acc b e with
 | zero=>
  simp only[K1,J3,Prod.mk.injEq,Option.some.injEq];constructor
  ·rintro ⟨rfl,rfl,rfl⟩;exact⟨rfl,[],⟨rfl,rfl⟩,by simp⟩
  ·rintro ⟨rfl,l',⟨rfl,rfl⟩,rfl⟩;simp
 | succ n ih=>
  cases e with
  | true=>simp[K1]
  | false=>
   obtain⟨a,r1,e1,h1⟩:∃ x y z,AE b false=(x,y,z):=⟨_,_,_,rfl⟩
   have hq:K1 (n+1) acc b false=K1 n (acc++[a]) r1 e1:=by simp[K1,h1]
   rw[hq,ih,IM];constructor
   ·rintro ⟨rfl,l',h2,rfl⟩;obtain⟨_,h3⟩:=AA.1 h1;exact⟨rfl,a::l',by rw[h3];simp[h2],by simp⟩
   ·rintro ⟨_,l',h2,rfl⟩
    cases h3:T1 b with
    | none=>rw[h3] at h2;cases h2
    | some p=>
     obtain⟨a',r'⟩:=p;have h4:=AA.2 ⟨rfl,h3⟩;rw[h1] at h4;simp only[Prod.mk.injEq] at h4;obtain⟨rfl,rfl,rfl⟩:=h4;rw[h3,Option.bind_some] at h2
     cases h5:J3 r1 n with
     | none=>rw[h5] at h2;cases h2
     | some q=>
      obtain⟨l2,r2⟩:=q;rw[h5] at h2;cases h2;exact⟨rfl,l2,rfl,by simp⟩
theorem PF:E5 b e=((l,o),r,false)↔e=false/\U2 b=some ((l,o),r):=by
 obtain⟨n,r0,e0,h1⟩:∃ x y z,Y2 b e=(x,y,z):=⟨_,_,_,rfl⟩
 obtain⟨l1,r1,e1,h2⟩:∃ x y z,N6 n [] r0 e0=(x,y,z):=⟨_,_,_,rfl⟩
 obtain⟨m,r5,e5,h3⟩:∃ x y z,Y2 r1 e1=(x,y,z):=⟨_,_,_,rfl⟩
 obtain⟨o1,u,e6,h4⟩:∃ x y z,K1 m [] r5 e5=(x,y,z):=⟨_,_,_,rfl⟩
 rw[H4 h1 h2 h3 h4];constructor
 ·intro h;simp only[Prod.mk.injEq] at h;obtain⟨⟨rfl,rfl⟩,rfl,rfl⟩:=h;obtain⟨g5,o',k4,rfl⟩:=BE.1 h4;subst g5;obtain⟨g1,k3⟩:=A6.1 h3;subst g1;obtain⟨g0,l',k2,rfl⟩:=EG.1 h2;subst g0;obtain⟨g,k1⟩:=A6.1 h1;exact⟨g,by rw[NF k1 k2 k3 k4]⟩
 ·rintro ⟨he,h⟩
  cases k1:U7 b with
  | none=>rw[FX k1] at h;cases h
  | some y=>
   obtain⟨n',r0'⟩:=y;have g1:=A6.2 ⟨he,k1⟩;rw[h1] at g1;simp only[Prod.mk.injEq] at g1;obtain⟨rfl,rfl,rfl⟩:=g1
   cases k2:C4 r0 n with
   | none=>rw[ZY k1 k2] at h;cases h
   | some y=>
    obtain⟨l',r1'⟩:=y;have g2:=EG.2 ⟨rfl,l',k2,(List.nil_append _).symm⟩;rw[h2] at g2;simp only[Prod.mk.injEq] at g2;obtain⟨rfl,rfl,rfl⟩:=g2
    cases k3:U7 r1 with
    | none=>rw[FJ k1 k2 k3] at h;cases h
    | some y=>
     obtain⟨m',r5'⟩:=y;have g3:=A6.2 ⟨rfl,k3⟩;rw[h3] at g3;simp only[Prod.mk.injEq] at g3;obtain⟨rfl,rfl,rfl⟩:=g3
     cases k4:J3 r5 m with
     | none=>rw[DA k1 k2 k3 k4] at h;cases h
     | some y=>
      obtain⟨o',u'⟩:=y;have g4:=BE.2 ⟨rfl,o',k4,(List.nil_append _).symm⟩;rw[h4] at g4;simp only[Prod.mk.injEq] at g4;obtain⟨rfl,rfl,rfl⟩:=g4;rw[NF k1 k2 k3 k4] at h;cases h;rfl
end
end Go.Sx

namespace Go.Sx
open Go.Proofs
def i8:Nat->List (List UInt8)->List UInt8->Bool->List (List UInt8)×List UInt8×Bool
 | 0,ws,b,e=>(ws,b,e)
 | n+1,ws,b,e=>if e=true then(ws,b,e) else match A1 b e with
  | (x,r,e')=>i8 n (ws++[x]) r e'
def j57(b:List UInt8)(e:Bool):List (List UInt8)×List UInt8×Bool:=match Y2 b e with
 | (n,r,e1)=>i8 n [] r e1
def M1:List InS->List UInt8->Bool->List InS×List UInt8×Bool
 | [],b,e=>([],b,e)
 | x::xs,b,e=>match j57 b e with
  | (ws,r,e1)=>match M1 xs r e1 with
   | (ys,u,e2)=>(KS x ws::ys,u,e2)
def j67(l:List InS)(z:List InS×List UInt8×Bool):List InS×List UInt8×Bool:=(l++z.1,z.2)
section
variable{b r r1 r2 r3 r4 u x:List UInt8}{e e1 e2 e3 e4 f:Bool}{n j:Nat}{ws:List (List UInt8)}{ins l rest:List InS}{outs:List OutS}{y:InS}{Z:List InS×List UInt8×Bool}{Y:List (List UInt8)×List UInt8×Bool}{p k:UInt64}
theorem q06(h:i8 (n-j) ws u e=Y)(hj:j<n)(he:(!e)=true)(h2:A1 u e=(x,r1,e1)):i8 (n-(j+1)) (ws++[x]) r1 e1=Y:=by
 rw[<- h,show n-j=(n-(j+1))+1 by omega]
 have:¬ e=true:=by simpa using he
 simp only[i8,if_neg this,h2]
theorem EY(h:i8 (n-j) ws u e=Y)(hj:¬ j<n∨(!e)=false):Y=(ws,u,e):=by
 rw[<- h]
 rcases hj with hj|hj
 ·rw[show n-j=0 by omega];rfl
 ·have:e=true:=by simpa using hj
  subst this
  cases n-j<;>simp[i8]
theorem q51(h:Y2 b e=(n,r,e1))(h2:i8 n [] r e1=(ws,u,f)):j57 b e=(ws,u,f):=by unfold j57;simp only[h,h2]
theorem RA(h:Z=j67 l (M1 (y::rest) r e))(h2:j57 r e=(ws,u,f)):Z=j67 (l++[KS y ws]) (M1 rest u f):=by
 rw[h];simp only[M1,h2,j67];simp
theorem j84(h:Z=j67 l (M1 [] r e)):Z=(l,r,e):=by rw[h];simp[M1,j67]
theorem z66{acc:List (List UInt8)}:i8 n acc b e=(ws,r,false)↔e=false/\∃ w',n7 n b=some (w',r)/\ws=acc++w':=by
 induction n generalizing acc b e with
 | zero=>
  simp only[i8,n7,Prod.mk.injEq,Option.some.injEq];constructor
  ·rintro ⟨rfl,rfl,rfl⟩;exact⟨rfl,[],⟨rfl,rfl⟩,by simp⟩
  ·rintro ⟨rfl,l',⟨rfl,rfl⟩,rfl⟩;simp
 | succ n ih=>
  cases e with
  | true=>simp[i8]
  | false=>
   obtain⟨a,r1,e1,h1⟩:∃ x y z,A1 b false=(x,y,z):=⟨_,_,_,rfl⟩
   have hq:i8 (n+1) acc b false=i8 n (acc++[a]) r1 e1:=by simp[i8,h1]
   rw[hq,ih];simp only[n7];constructor
   ·rintro ⟨rfl,l',h2,rfl⟩;obtain⟨_,h3⟩:=r7.1 h1;exact⟨by trivial,a::l',by rw[h3];simp[h2],by simp⟩
   ·rintro ⟨_,l',h2,rfl⟩
    cases h3:J6 b with
    | none=>rw[h3] at h2;cases h2
    | some p=>
     obtain⟨a',r'⟩:=p;have h4:=r7.2 ⟨rfl,h3⟩;rw[h1] at h4;simp only[Prod.mk.injEq] at h4;obtain⟨rfl,rfl,rfl⟩:=h4;rw[h3,Option.bind_some] at h2
     cases h5:n7 n r1 with
     | none=>simp only[h5] at h2;cases h2
     | some q=>
      obtain⟨l2,r2⟩:=q;simp only[h5,Option.bind_some,Option.some.injEq,Prod.mk.injEq] at h2;obtain⟨rfl,rfl⟩:=h2;exact⟨rfl,l2,rfl,by simp⟩
theorem RN:j57 b e=(ws,r,false)↔e=false/\KE b=some (ws,r):=by
 obtain⟨n,r1,e1,h1⟩:∃ x y z,Y2 b e=(x,y,z):=⟨_,_,_,rfl⟩
 have hq:j57 b e=i8 n [] r1 e1:=by unfold j57;simp only[h1]
 rw[hq,z66];constructor
 ·rintro ⟨rfl,w',h2,rfl⟩;obtain⟨g,h3⟩:=A6.1 h1;exact⟨g,x88 h3 h2⟩
 ·rintro ⟨he,h⟩
  cases h3:U7 b with
  | none=>rw[j58 h3] at h;cases h
  | some p=>
   obtain⟨n',r'⟩:=p;have h4:=A6.2 ⟨he,h3⟩;rw[h1] at h4;simp only[Prod.mk.injEq] at h4;obtain⟨rfl,rfl,rfl⟩:=h4;unfold KE at h;rw[h3] at h;exact⟨rfl,ws,h,(List.nil_append _).symm⟩
theorem BX:M1 ins b e=(l,r,false)↔e=false/\Z3 ins b=some (l,r):=by
 induction ins generalizing b e l r with
 | nil=>
  simp only[M1,Z3,Prod.mk.injEq,Option.some.injEq];constructor
  ·rintro ⟨h1,h2,h3⟩;exact⟨h3,h1,h2⟩
  ·rintro ⟨h3,h1,h2⟩;exact⟨h1,h2,h3⟩
 | cons x xs ih=>
  obtain⟨ws,r1,e1,h1⟩:∃ x y z,j57 b e=(x,y,z):=⟨_,_,_,rfl⟩
  obtain⟨ys,u,e2,h2⟩:∃ x y z,M1 xs r1 e1=(x,y,z):=⟨_,_,_,rfl⟩
  have hq:M1 (x::xs) b e=(KS x ws::ys,u,e2):=by simp only[M1,h1,h2]
  rw[hq];simp only[Z3];constructor
  ·intro h;simp only[Prod.mk.injEq] at h;obtain⟨rfl,rfl,rfl⟩:=h;obtain⟨rfl,h3⟩:=ih.1 h2;obtain⟨g,h4⟩:=RN.1 h1;exact⟨g,by rw[h4];simp[h3]⟩
  ·rintro ⟨he,h⟩
   cases h4:KE b with
   | none=>rw[h4] at h;cases h
   | some p=>
    obtain⟨ws',r'⟩:=p;have h5:=RN.2 ⟨he,h4⟩;rw[h1] at h5;simp only[Prod.mk.injEq] at h5;obtain⟨rfl,rfl,rfl⟩:=h5;simp only[h4,Option.bind_some] at h
    cases h6:Z3 xs r1 with
    | none=>rw[h6] at h;cases h
    | some q=>
     obtain⟨ys',u'⟩:=q;have h7:=ih.2 ⟨rfl,h6⟩;rw[h2] at h7;simp only[Prod.mk.injEq] at h7;obtain⟨rfl,rfl,rfl⟩:=h7;simp only[h6,Option.bind_some,Option.some.injEq,Prod.mk.injEq] at h;obtain⟨rfl,rfl⟩:=h;rfl
structure GQ(b:List UInt8)(p:UInt64)(r:List UInt8)(e:Bool)(r1:List UInt8)(e1:Bool)(ins:List InS)(outs:List OutS)(r2:List UInt8)(e2:Bool)(l:List InS)(r3:List UInt8)(e3:Bool)(k:UInt64)(r4:List UInt8)(e4:Bool):Prop where
 h1:Q2 b false 4=(p,r,e)
 h2:(Q9 r=true/\∃ u,c4 r e 2=(u,r1,e1))∨(Q9 r=false/\r1=r/\e1=e)
 h3:E5 r1 e1=((ins,outs),r2,e2)
 h4:(Q9 r=true/\M1 ins r2 e2=(l,r3,e3))∨(Q9 r=false/\l=ins/\r3=r2/\e3=e2)
 h5:Q2 r3 e3 4=(k,r4,e4)
theorem GQ.ok(h:GQ b p r e r1 e1 ins outs r2 e2 l r3 e3 k r4 e4)(he:e4=false):m0 b 4=some (p,r)/\W4 r=some r1/\U2 r1=some ((ins,outs),r2)/\KJ (Q9 r) ins r2=some (l,r3)/\m0 r3 4=some (k,r4):=by
 obtain⟨h1,h2,h3,h4,h5⟩:=h;subst he;obtain⟨rfl,k5⟩:=(Z4 (by decide)).1 h5
 have a4:e2=false/\KJ (Q9 r) ins r2=some (l,r3):=by
  rcases h4 with ⟨hs,h4⟩|⟨hs,rfl,rfl,h4⟩
  ·obtain⟨g,k4⟩:=BX.1 h4;exact⟨g,by rw[GV hs];exact k4⟩
  ·exact⟨h4.symm,QD hs⟩
 obtain⟨rfl,k4⟩:=a4;obtain⟨rfl,k3⟩:=PF.1 h3
 have a2:e=false/\W4 r=some r1:=by
  rcases h2 with ⟨hs,u,h2⟩|⟨hs,rfl,h2⟩
  ·obtain⟨g,k2⟩:=B0.1 h2;exact⟨g,QJ hs k2⟩
  ·exact⟨h2.symm,B2 hs⟩
 obtain⟨rfl,k2⟩:=a2;obtain⟨_,k1⟩:=(Z4 (by decide)).1 h1;exact⟨k1,k2,k3,k4,k5⟩
theorem GQ.bad(h:GQ b p r e r1 e1 ins outs r2 e2 l r3 e3 k r4 e4)(he:e4=true):T3 b=none:=by
 obtain⟨h1,h2,h3,h4,h5⟩:=h
 cases k1:m0 b 4 with
 | none=>exact x54 k1
 | some q=>
  obtain⟨p',r'⟩:=q;have g1:=(Z4 (by decide)).2 ⟨rfl,k1⟩;rw[h1] at g1;simp only[Prod.mk.injEq] at g1;obtain⟨rfl,rfl,rfl⟩:=g1
  have a2:W4 r=none∨(W4 r=some r1/\e1=false):=by
   rcases h2 with ⟨hs,u,h2⟩|⟨hs,rfl,h2⟩
   ·cases k2:K0 r 2 with
    | none=>exact .inl (j66 hs k2)
    | some q=>
     obtain⟨u',r1'⟩:=q;have g2:=B0.2 ⟨rfl,k2⟩;rw[h2] at g2;simp only[Prod.mk.injEq] at g2;obtain⟨rfl,rfl,rfl⟩:=g2;exact .inr ⟨QJ hs k2,rfl⟩
   ·exact .inr ⟨B2 hs,h2⟩
  rcases a2 with k2|⟨k2,rfl⟩
  ·exact x53 k1 k2
  cases k3:U2 r1 with
  | none=>exact z93 k1 k2 k3
  | some q=>
   obtain⟨⟨ins',outs'⟩,r2'⟩:=q;have g3:=PF.2 ⟨rfl,k3⟩;rw[h3] at g3;simp only[Prod.mk.injEq] at g3;obtain⟨⟨rfl,rfl⟩,rfl,rfl⟩:=g3
   have a4:KJ (Q9 r) ins r2=none∨(KJ (Q9 r) ins r2=some (l,r3)/\e3=false):=by
    rcases h4 with ⟨hs,h4⟩|⟨hs,rfl,rfl,h4⟩
    ·rw[GV hs]
     cases k4:Z3 ins r2 with
     | none=>exact .inl rfl
     | some q=>
      obtain⟨l',r3'⟩:=q;have g4:=BX.2 ⟨rfl,k4⟩;rw[h4] at g4;simp only[Prod.mk.injEq] at g4;obtain⟨rfl,rfl,rfl⟩:=g4;exact .inr ⟨rfl,rfl⟩
    ·exact .inr ⟨QD hs,h4⟩
   rcases a4 with k4|⟨k4,rfl⟩
   ·exact x52 k1 k2 k3 k4
   cases k5:m0 r3 4 with
   | none=>exact z92 k1 k2 k3 k4 k5
   | some q=>
    obtain⟨k',r4'⟩:=q;have g5:=(Z4 (by decide)).2 ⟨rfl,k5⟩;rw[h5] at g5;simp only[Prod.mk.injEq] at g5;obtain⟨_,_,g5⟩:=g5;rw[he] at g5;cases g5
theorem GQ.fin(h:GQ b p r e r1 e1 ins outs r2 e2 l r3 e3 k r4 e4)(he:e4=false):T3 b=EE b ⟨p.toUInt32,l,outs,k.toUInt32⟩ r4:=by
 obtain⟨k1,k2,k3,k4,k5⟩:=h.ok he;exact XC k1 k2 k3 k4 k5
theorem GQ.wf{v w:UInt32}(h:GQ b p r e r1 e1 ins outs r2 e2 l r3 e3 k r4 e4)(he:e4=false)(hr:r.length<=100000):(⟨v,l,outs,w⟩:TxS).wf:=by
 obtain⟨k1,k2,k3,k4,k5⟩:=h.ok he;exact L6 hr k2 k3 k4
theorem z69{acc:List InS}(h:N6 n acc b e=(l,r,f))(ha:∀ x∈acc,x.wit=[]):∀ x∈l,x.wit=[]:=by
 induction n generalizing acc b e with
 | zero=>cases h;exact ha
 | succ n ih=>
  simp only[N6] at h;split at h
  ·cases h;exact ha
  ·obtain⟨x,r1,e1,h1⟩:∃ a c d,c4 b e 32=(a,c,d):=⟨_,_,_,rfl⟩
   obtain⟨p,r2,e2,h2⟩:∃ a c d,Q2 r1 e1 4=(a,c,d):=⟨_,_,_,rfl⟩
   obtain⟨s,r3,e3,h3⟩:∃ a c d,A1 r2 e2=(a,c,d):=⟨_,_,_,rfl⟩
   obtain⟨q,r4,e4,h4⟩:∃ a c d,Q2 r3 e3 4=(a,c,d):=⟨_,_,_,rfl⟩
   simp only[DH h1 h2 h3 h4] at h;refine ih h fun z hz=>?_
   rcases List.mem_append.1 hz with hz|hz
   ·exact ha z hz
   ·simp at hz;subst hz;rfl
theorem s5(h:E5 b e=((ins,outs),r,f)):∀ x∈ins,x.wit=[]:=by
 obtain⟨n,r0,e0,h1⟩:∃ x y z,Y2 b e=(x,y,z):=⟨_,_,_,rfl⟩
 obtain⟨l1,r1,e1,h2⟩:∃ x y z,N6 n [] r0 e0=(x,y,z):=⟨_,_,_,rfl⟩
 obtain⟨m,r5,e5,h3⟩:∃ x y z,Y2 r1 e1=(x,y,z):=⟨_,_,_,rfl⟩
 obtain⟨o1,u,e6,h4⟩:∃ x y z,K1 m [] r5 e5=(x,y,z):=⟨_,_,_,rfl⟩
 rw[H4 h1 h2 h3 h4] at h;cases h;exact z69 h2 (fun x hx=>by cases hx)
theorem WE{o o':List OutS}(hb:b.length<=100000)(h:K1 n o b e=(o',r,f)):r.length<=b.length:=by
 induction n generalizing o b e with
 | zero=>cases h;simp
 | succ n ih=>
  simp only[K1] at h;split at h
  ·cases h;simp
  ·obtain⟨a,r1,e1,h1⟩:∃ a c d,AE b e=(a,c,d):=⟨_,_,_,rfl⟩
   simp only[h1] at h;have a1:=z18 hb h1;have a2:=ih (by omega) h;omega
theorem YZ(hb:b.length<=100000)(h:E5 b e=((ins,outs),r,f)):r.length<=b.length/\ins.length<=b.length:=by
 obtain⟨n,r0,e0,h1⟩:∃ x y z,Y2 b e=(x,y,z):=⟨_,_,_,rfl⟩
 obtain⟨l1,r1,e1,h2⟩:∃ x y z,N6 n [] r0 e0=(x,y,z):=⟨_,_,_,rfl⟩
 obtain⟨m,r5,e5,h3⟩:∃ x y z,Y2 r1 e1=(x,y,z):=⟨_,_,_,rfl⟩
 obtain⟨o1,u,e6,h4⟩:∃ x y z,K1 m [] r5 e5=(x,y,z):=⟨_,_,_,rfl⟩
 rw[H4 h1 h2 h3 h4] at h;simp only[Prod.mk.injEq] at h;obtain⟨⟨rfl,rfl⟩,rfl,rfl⟩:=h;have a1:=A5 hb h1;have a2:=z70 (by omega) h2;have a3:=A5 (by omega) h3;have a4:=WE (by omega) h4;simp at a2;omega
end
end Go.Sx

namespace Go.Sx
def GP(x:UInt64)(r:List UInt8)(e:Bool)(l:List InS)(outs:List OutS)(r3:List UInt8)(e3:Bool):Prop:=
 ∃ (r1:List UInt8) (e1:Bool) (ins:List InS) (r2:List UInt8) (e2:Bool),((Q9 r=true/\∃ u,c4 r e 2=(u,r1,e1))∨(Q9 r=false/\r1=r/\e1=e))/\E5 r1 e1=((ins,outs),r2,e2) /\
  ((Q9 r=true/\M1 ins r2 e2=(l,r3,e3))∨(Q9 r=false/\l=ins/\r3=r2/\e3=e2))/\r3.length<=100000
section
variable{b r r1 r2 r3 r4 u:List UInt8}{x k:UInt64}{e e1 e2 e3 e4:Bool}{ins l:List InS}{outs:List OutS}
theorem GP.to(h:GP x r e l outs r3 e3)(hE:Q2 b false 4=(x,r,e))(h5:Q2 r3 e3 4=(k,r4,e4)):∃ r1 e1 ins r2 e2,GQ b x r e r1 e1 ins outs r2 e2 l r3 e3 k r4 e4:=by
 obtain⟨r1,e1,ins,r2,e2,h2,h3,h4,_⟩:=h;exact⟨r1,e1,ins,r2,e2,hE,h2,h3,h4,h5⟩
theorem GP.len(h:GP x r e l outs r3 e3):r3.length<=100000:=by obtain⟨_,_,_,_,_,_,_,_,h⟩:=h;exact h
theorem w30(hs:Q9 r=true)(h2:c4 r e 2=(u,r1,e1))(h3:E5 r1 e1=((ins,outs),r2,e2))(h4:M1 ins r2 e2=(l,r3,e3))(hl:r3.length<=100000):GP x r e l outs r3 e3:=
 ⟨r1,e1,ins,r2,e2,.inl ⟨hs,u,h2⟩,h3,.inl ⟨hs,h4⟩,hl⟩
theorem j15(hs:Q9 r=false)(h3:E5 r e=((ins,outs),r2,e2))(hl:r2.length<=100000):GP x r e ins outs r2 e2:=
 ⟨r,e,ins,r2,e2,.inr ⟨hs,rfl,rfl⟩,h3,.inr ⟨hs,rfl,rfl,rfl⟩,hl⟩
end
end Go.Sx

namespace Go.Sx
open Go.Proofs
set_option maxHeartbeats 2000000 in
theorem k78(b:List UInt8)(hb0:b.length<=100000):Fn Tryz.prog gl 53 [.sl none 1 (b.map D.u8)] (.tup [D1 (Q3 b).1,.int (((Q3 b).2:Nat):Int)]):=by
 refine Fn.of (n:=114) Tryz.func53 rfl rfl rfl (nU rfl) fun C hC hD=>?_;refine z5 2 [] [] [] (V1 0) Zt O O (Q7 O O ⟨O,_,j4 (kI 0 O) O (nU O),tV (V2 0 2) (p6 2) 114 O O O ?_⟩);refine W.seq (q9 3 (y3 11 12 13) (V3 0 2 13) ⟨mU 0 O O,aU<|zN O (lN _) O,aU<|l5 16384 O O O,Zt⟩ ?_);refine z6 O (fun hc13=>?_) (fun hc13=>?_)
 ·refine z5 3 (y1 14) [] [] (V2 2 14) ⟨aU fun _ _ H _=>c9 (l:=[.u32 0,.nils,.nils,.u32 0]) (l':=[_,_,_,_]) (.nil O) Zt H,Zt⟩ O O (d5 O O O O O ⟨O,_,j4 (kI 6 O) O (nU O),tV (V2 2 3) (p6 2) 114 O O O ?_⟩);refine U3 2 (d':=D1 zeroT) (bx':=(p6 2)) O c5 O ?_;refine W.ret ?_;exact Ends.many (.inr O) (.cons O O O (iL 31 4) (.cons O O O Zt .nil)) (by rw[LD hc13]) (show[(2,false),(3,true)].Nodup by decide)
 ·refine W.skip (z5 4 (y2 15 16) [] [] (V3 0 2 16) ⟨mU 0 O O,aU fun _ _ H K=>c9 (l:=[.nils,.bool false]) (l':=[_,_]) (.cons (eU K 15 O) (.nil O)) ⟨⟨_,(eU K 15 O),O,O,O⟩,Zt⟩ H,Zt⟩ O O (⟨O,_,R.box (gV 16 O) O O (nU O),(P8 O O O (tV (V3 0 2 4) (p7 17 2) 114 O O O ?_))⟩));refine W.seq ?_
  obtain⟨x,r,e,hE⟩:∃ a_ b_ c_,Q2 b false 4=(a_,b_,c_):=⟨_,_,_,rfl⟩
  have hr:=J5 hE;refine u4 6 (y1 18) [] [] (V4 0 2 4 18) ⟨mU 4 O O,Zt⟩ O O (⟨O,_,R.callB [(0,17)] hC (show FnB Tryz.prog gl 104 [.ptr 0 0 [],.int ((4:Nat):Int)] [(0,.var (.agg [.sl none 1 (b.map D.u8),.bool false]))] (.u64 x) [(0,.var (.agg [.sl none 1 (r.map D.u8),.bool e]))] [] from by have h:=J7 b false bO 4 dU;rw[hE] at h;exact h) (EvB.cons (gV 18 O) O O O (EvB.cons (kI 4 O) O O O EvB.nil)) O ⟨O,Zt⟩ ⟨O,Zt⟩ O O O O O O (nU O),⟨O,_,Q5 (d:=.u32 x.toUInt32) (gV 19 O) O (O) (nU O),⟨O,_,c9 (l:=[.u32 0,.nils,.nils,.u32 0]) (l':=[_,_,_,_]) (.cons (gV 20 O) (.nil O)) ⟨⟨_,(gV 20 O),O,O,O⟩,Zt⟩ (nU O),(Q7 O O (d5 O O O O O (tV (V4 0 2 4 5) (d7 5 17 2) 114 O O O ?_)))⟩⟩⟩);refine VU 4 (fun s__=>∃ q__:{q__:List InS×List OutS×List UInt8×Bool//GP x r e q__.1 q__.2.1 q__.2.2.1 q__.2.2.2},s__=⟨114,[(0,.sl none 1 (b.map D.u8)),(2,.ptr 2 0 []),(4,.ptr 17 0 []),(5,.ptr 5 0 [])],[(5,.var (.agg [.u32 x.toUInt32,.sl none 36 (q__.1.1.map K4),.sl none 2 (q__.1.2.1.map j9),.u32 0])),(17,.var (.agg [.sl none 1 (q__.1.2.2.1.map D.u8),.bool q__.1.2.2.2])),(2,.var (.agg [.u32 0,.nils,.nils,.u32 0]))]⟩) ?_ ?_
  ·rintro s__ ⟨⟨⟨l,outs,r3,e3⟩,hGP⟩,rfl⟩;have hGP:GP x r e l outs r3 e3:=hGP;have hrb:=hGP.len;show W _ _ _ _ ⟨_,[(0,_),(2,_),(4,_),(5,_)],[(5,.var (.agg [.u32 x.toUInt32,.sl none 36 (l.map K4),.sl none 2 (outs.map j9),.u32 0])),(17,.var (.agg [.sl none 1 (r3.map D.u8),.bool e3])),(2,_)]⟩;refine W.seq ?_
   obtain⟨k,r4,e4,hE5⟩:∃ a_ b_ c_,Q2 r3 e3 4=(a_,b_,c_):=⟨_,_,_,rfl⟩
   refine u4 5 (y1 83) [] [] (V5 0 2 4 5 83) ⟨mU 4 O O,Zt⟩ O O (⟨O,_,R.callB [(0,17)] hC (show FnB Tryz.prog gl 104 [.ptr 0 0 [],.int ((4:Nat):Int)] [(0,.var (.agg [.sl none 1 (r3.map D.u8),.bool e3]))] (.u64 k) [(0,.var (.agg [.sl none 1 (r4.map D.u8),.bool e4]))] [] from by have h:=J7 r3 e3 bO 4 dU;rw[hE5] at h;exact h) (EvB.cons (gV 83 O) O O O (EvB.cons (kI 4 O) O O O EvB.nil)) O ⟨O,Zt⟩ ⟨O,Zt⟩ O O O O O O (nU O),⟨O,_,R.conv (gV 84 O) O (nU O),⟨O,_,R.fdP (gU 5 O) (nU O),(d5 O O O O O (tV (V4 0 2 4 5) (d7 5 17 2) 114 O O O ?_))⟩⟩⟩);refine W.seq (W.seq ?_);by_cases hb4:e4=true
   ·obtain⟨r1,e1,ins,r2,e2,hG⟩:=hGP.to hE hE5;have hwf:e4=false->((⟨x.toUInt32,l,outs,k.toUInt32⟩:TxS)).wf:=fun h=>hG.wf h (by omega);refine W.dr (m:=25) (an:=(0::1::3::7::15::31::63::127::255::511::1023::2047::4095::8191::16383::32767::65535::131071::262143::524287::1048575::262143::2359295::8388607::16777215::[])) hP dU O (its:=(.y 87 _::.y 88 _::.y 89 _::.y 90 _::.y 91 _::.x 92::.x 93::.x 94::.x 95::.x 96::.x 97::.y 98 _::.y 99 _::.x 100::.x 101::.x 102::.y 103 _::.y 104 _::.x 105::.x 106::.x 107::.x 108::.x 109::.x 110::.y 111 _::[])) (ks:=[]) (kk:=[]) (env':=(V3 2 5 111)) (⟨nU O,O,⟨mU 4 O O,aU<|P7 O O,aU (fU 88 O O),aU (lU 89 O O O O O O O),mU 90 O O,aF O O (gT (hb4) O),aF O O (gT (hb4) O),aF O O (gT (hb4) O),aF O O (gT (hb4) O),aF O O (gT (hb4) O),aF O O (gT (hb4) O),aU<|I4 O (hb4) (kB true O) O O,mU 98 O O,aF O O (gT (O) O),aF O O (gT (O) O),aF O O (gT (O) O),aU<|I4 O (O) (kB true O) O O,mU 103 O O,aF O O (gT (O) O),aF O O (gT (O) O),aF O O (gT (O) O),aF O O (gT (O) O),aF O O (gT (O) O),aF O O (gT (O) O),aU<|I4 O (O) (kB true O) O O,Zt⟩,O,O,O⟩) O (bx':=(d7 5 17 2)) O (n':=114) O (tV (V3 2 5 111) (d7 5 17 2) 114 O O O ?_);refine u7 O (O) ?_;refine z5 3 (y1 112) [] [] (V2 2 112) ⟨aU fun _ _ H _=>c9 (l:=[.u32 0,.nils,.nils,.u32 0]) (l':=[_,_,_,_]) (.nil O) Zt H,Zt⟩ O O (d5 O O O O O ⟨O,_,j4 (kI 5 O) O (nU O),tV (V2 2 3) (d7 5 17 2) 114 O O O ?_⟩);refine U3 2 (d':=D1 zeroT) (bx':=(d7 5 17 2)) O c5 O ?_;refine W.ret ?_;exact Ends.many (.inr O) (.cons O O O (iL 31 4) (.cons O O O Zt .nil)) (by rw[n8 hc13 (hG.bad hb4)]) (show[(2,false),(3,true)].Nodup by decide)
   ·by_cases d1:0<r4.length
    ·obtain⟨r1,e1,ins,r2,e2,hG⟩:=hGP.to hE hE5;have hwf:e4=false->((⟨x.toUInt32,l,outs,k.toUInt32⟩:TxS)).wf:=fun h=>hG.wf h (by omega);refine W.dr (m:=25) (an:=(0::1::3::7::15::31::63::127::255::511::1023::2047::4095::8191::16383::32767::65535::131071::262143::524287::1048575::262143::2359295::8388607::16777215::[])) hP dU O (its:=(.y 87 _::.y 88 _::.y 89 _::.y 90 _::.y 91 _::.y 92 _::.y 93 _::.y 94 _::.y 95 _::.y 96 _::.y 97 _::.y 98 _::.y 99 _::.x 100::.x 101::.x 102::.y 103 _::.y 104 _::.x 105::.x 106::.x 107::.x 108::.x 109::.x 110::.y 111 _::[])) (ks:=[]) (kk:=[]) (env':=(V3 2 5 111)) (⟨nU O,O,⟨mU 4 O O,aU<|P7 O O,aU (fU 88 O O),aU (lU 89 O O O O O O O),mU 90 O O,aW O O (gF (by simpa using hb4) O)<|zV O O O,aW O O (gF (by simpa using hb4) O)<|P7 O O,aW O O (gF (by simpa using hb4) O) (fU 93 O O),aW O O (gF (by simpa using hb4) O) (lU 94 O O O O O O O),aW O O (gF (by simpa using hb4) O)<|zN O (lN _) O,aW O O (gF (by simpa using hb4) O)<|l5 0 O O O,aU<|zF O (by simpa using hb4) O O O,mU 98 O O,aF O O (gT (dT d1) O),aF O O (gT (dT d1) O),aF O O (gT (dT d1) O),aU<|I4 O (dT d1) (kB true O) O O,mU 103 O O,aF O O (gT (O) O),aF O O (gT (O) O),aF O O (gT (O) O),aF O O (gT (O) O),aF O O (gT (O) O),aF O O (gT (O) O),aU<|I4 O (O) (kB true O) O O,Zt⟩,O,O,O⟩) O (bx':=(d7 5 17 2)) O (n':=114) O (tV (V3 2 5 111) (d7 5 17 2) 114 O O O ?_);refine u7 O (O) ?_;refine z5 3 (y1 112) [] [] (V2 2 112) ⟨aU fun _ _ H _=>c9 (l:=[.u32 0,.nils,.nils,.u32 0]) (l':=[_,_,_,_]) (.nil O) Zt H,Zt⟩ O O (d5 O O O O O ⟨O,_,j4 (kI 5 O) O (nU O),tV (V2 2 3) (d7 5 17 2) 114 O O O ?_⟩);refine U3 2 (d':=D1 zeroT) (bx':=(d7 5 17 2)) O c5 O ?_;refine W.ret ?_;exact Ends.many (.inr O) (.cons O O O (iL 31 4) (.cons O O O Zt .nil)) (by rw[n8 hc13 (by rw[hG.fin (by simpa using hb4)];exact KN d1)]) (show[(2,false),(3,true)].Nodup by decide)
    ·by_cases d2:i7 (⟨x.toUInt32,l,outs,k.toUInt32⟩:TxS)=false
     ·obtain⟨r1,e1,ins,r2,e2,hG⟩:=hGP.to hE hE5;have hwf:e4=false->((⟨x.toUInt32,l,outs,k.toUInt32⟩:TxS)).wf:=fun h=>hG.wf h (by omega);refine W.dr (m:=25) (an:=(0::1::3::7::15::31::63::127::255::511::1023::2047::4095::8191::16383::32767::65535::131071::262143::524287::1048575::262143::2359295::8388607::16777215::[])) hP dU O (its:=(.y 87 _::.y 88 _::.y 89 _::.y 90 _::.y 91 _::.y 92 _::.y 93 _::.y 94 _::.y 95 _::.y 96 _::.y 97 _::.y 98 _::.y 99 _::.y 100 _::.y 101 _::.y 102 _::.y 103 _::.y 104 _::.x 105::.x 106::.x 107::.x 108::.x 109::.x 110::.y 111 _::[])) (ks:=[]) (kk:=[]) (env':=(V3 2 5 111)) (⟨nU O,O,⟨mU 4 O O,aU<|P7 O O,aU (fU 88 O O),aU (lU 89 O O O O O O O),mU 90 O O,aW O O (gF (by simpa using hb4) O)<|zV O O O,aW O O (gF (by simpa using hb4) O)<|P7 O O,aW O O (gF (by simpa using hb4) O) (fU 93 O O),aW O O (gF (by simpa using hb4) O) (lU 94 O O O O O O O),aW O O (gF (by simpa using hb4) O)<|zN O (lN _) O,aW O O (gF (by simpa using hb4) O)<|l5 0 O O O,aU<|zF O (by simpa using hb4) O O O,mU 98 O O,aW O O (gF (dF d1) O) (lU 5 O O O O O O O),aW O O (gF (dF d1) O)<|zC hC (SH (⟨x.toUInt32,l,outs,k.toUInt32⟩:TxS) (hwf (by simpa using hb4))) O O O (F1 (.bool _)) O,aW O O (gF (dF d1) O)<|UQ O O O,aU<|zF O (dF d1) O O O,mU 103 O O,aF O O (gT (by rw[d2];rfl) O),aF O O (gT (by rw[d2];rfl) O),aF O O (gT (by rw[d2];rfl) O),aF O O (gT (by rw[d2];rfl) O),aF O O (gT (by rw[d2];rfl) O),aF O O (gT (by rw[d2];rfl) O),aU<|I4 O (by rw[d2];rfl) (kB true O) O O,Zt⟩,O,O,O⟩) O (bx':=(d7 5 17 2)) O (n':=114) O (tV (V3 2 5 111) (d7 5 17 2) 114 O O O ?_);refine u7 O (O) ?_;refine z5 3 (y1 112) [] [] (V2 2 112) ⟨aU fun _ _ H _=>c9 (l:=[.u32 0,.nils,.nils,.u32 0]) (l':=[_,_,_,_]) (.nil O) Zt H,Zt⟩ O O (d5 O O O O O ⟨O,_,j4 (kI 5 O) O (nU O),tV (V2 2 3) (d7 5 17 2) 114 O O O ?_⟩);refine U3 2 (d':=D1 zeroT) (bx':=(d7 5 17 2)) O c5 O ?_;refine W.ret ?_;exact Ends.many (.inr O) (.cons O O O (iL 31 4) (.cons O O O Zt .nil)) (by rw[n8 hc13 (by rw[hG.fin (by simpa using hb4)];exact KM d2)]) (show[(2,false),(3,true)].Nodup by decide)
     ·obtain⟨r1,e1,ins,r2,e2,hG⟩:=hGP.to hE hE5;have hwf:e4=false->((⟨x.toUInt32,l,outs,k.toUInt32⟩:TxS)).wf:=fun h=>hG.wf h (by omega);refine W.dr (m:=25) (an:=(0::1::3::7::15::31::63::127::255::511::1023::2047::4095::8191::16383::32767::65535::131071::262143::524287::1048575::262143::2359295::8388607::16777215::[])) hP dU O (its:=(.y 87 _::.y 88 _::.y 89 _::.y 90 _::.y 91 _::.y 92 _::.y 93 _::.y 94 _::.y 95 _::.y 96 _::.y 97 _::.y 98 _::.y 99 _::.y 100 _::.y 101 _::.y 102 _::.y 103 _::.y 104 _::.y 105 _::.y 106 _::.y 107 _::.y 108 _::.y 109 _::.y 110 _::.y 111 _::[])) (ks:=[]) (kk:=[]) (env':=(V3 2 5 111)) (⟨nU O,O,⟨mU 4 O O,aU<|P7 O O,aU (fU 88 O O),aU (lU 89 O O O O O O O),mU 90 O O,aW O O (gF (by simpa using hb4) O)<|zV O O O,aW O O (gF (by simpa using hb4) O)<|P7 O O,aW O O (gF (by simpa using hb4) O) (fU 93 O O),aW O O (gF (by simpa using hb4) O) (lU 94 O O O O O O O),aW O O (gF (by simpa using hb4) O)<|zN O (lN _) O,aW O O (gF (by simpa using hb4) O)<|l5 0 O O O,aU<|zF O (by simpa using hb4) O O O,mU 98 O O,aW O O (gF (dF d1) O) (lU 5 O O O O O O O),aW O O (gF (dF d1) O)<|zC hC (SH (⟨x.toUInt32,l,outs,k.toUInt32⟩:TxS) (hwf (by simpa using hb4))) O O O (F1 (.bool _)) O,aW O O (gF (dF d1) O)<|UQ O O O,aU<|zF O (dF d1) O O O,mU 103 O O,aW O O (gF (by simpa using d2) O) (lU 5 O O O O O O O),aW O O (gF (by simpa using d2) O)<|zC hC (MO (⟨x.toUInt32,l,outs,k.toUInt32⟩:TxS) (hwf (by simpa using hb4))) O O O (F1 (.sl _ _ _ (j6 fun _=>.u8 _))) O,aW O O (gF (by simpa using d2) O) fun _ _ H K=>R.cvS (xs:=(H8 (⟨x.toUInt32,l,outs,k.toUInt32⟩:TxS))) (SC.sl (K 106 _ O)) H,aW O O (gF (by simpa using d2) O)<|zV O O O,aW O O (gF (by simpa using d2) O) fun _ _ H K=>R.cvS (xs:=b) (SC.sl (K 108 _ O)) H,aW O O (gF (by simpa using d2) O)<|zB O O O O,aU<|zF O (by simpa using d2) O O O,Zt⟩,O,O,O⟩) O (bx':=(d7 5 17 2)) O (n':=114) O (tV (V3 2 5 111) (d7 5 17 2) 114 O O O ?_);refine W.cond O (fun hc111=>?_) (fun hc111=>?_)
      ·refine z5 3 (y1 112) [] [] (V2 2 112) ⟨aU fun _ _ H _=>c9 (l:=[.u32 0,.nils,.nils,.u32 0]) (l':=[_,_,_,_]) (.nil O) Zt H,Zt⟩ O O (d5 O O O O O ⟨O,_,j4 (kI 5 O) O (nU O),tV (V2 2 3) (d7 5 17 2) 114 O O O ?_⟩);refine U3 2 (d':=D1 zeroT) (bx':=(d7 5 17 2)) O c5 O ?_;refine W.ret ?_;exact Ends.many (.inr O) (.cons O O O (iL 31 4) (.cons O O O Zt .nil)) (by rw[n8 hc13 (by rw[hG.fin (by simpa using hb4)];exact KP hc111)]) (show[(2,false),(3,true)].Nodup by decide)
      ·refine W.skip (z5 3 (y1 113) [] [] (V2 2 113) ⟨aU (lU 5 O O O O O O O),Zt⟩ O O (d5 O O O O O ⟨O,_,j4 (kI 0 O) O (nU O),tV (V2 2 3) (d7 5 17 2) 114 O O O ?_⟩));refine W.ret ?_;exact Ends.many (.inr O) (.cons O O O (iL 31 4) (.cons O O O Zt .nil)) (by rw[XD hc13 (by rw[hG.fin (by simpa using hb4)];exact TB d1 (by simpa using d2) hc111)]<;>rfl) (show[(2,false),(3,true)].Nodup by decide)
  ·intro htail;refine W.seq ?_;by_cases hs1:0<r.length
   ·by_cases hs2:(r[0]! == 0)=true
    ·refine z8 16 (x87 22 23 24 25 26 27 28 29 30 31 32 33 34 35 36 6) (V5 0 2 4 5 6) ⟨mU 4 O O,aU<|P7 O O,aU (fU 23 O O),aU (lU 24 O O O O O O O),aU<|zN O (lN _) O,aU<|l5 0 O O O,mU 27 O O,aW O O (gT (dT hs1) O)<|zV O O O,aW O O (gT (dT hs1) O)<|P7 O O,aW O O (gT (dT hs1) O) (fU 30 O O),aW O O (gT (dT hs1) O) (lU 31 O O O O O O O),aW O O (gT (dT hs1) O) fun _ _ H K=>R.idxN (0) (SC.sl (K 32 _ O)) (b4 (kI 0 O)) O bU H dU,aW O O (gT (dT hs1) O)<|zL O O (mG r) O O O O O,aW O O (gT (dT hs1) O)<|B6 O (kW (.int .u8 0) (.u8 0) O) O O,aU<|zT O (dT hs1) O O O,aU<|zA O O O,Zt⟩ ?_;refine W.seq (q9 1 (y1 37) (V6 0 2 4 5 6 37) ⟨mU 6 O O,Zt⟩ ?_);refine u7 O (hs2) ?_
     obtain⟨u,r1,e1,hE2⟩:∃ a_ b_ c_,c4 r e 2=(a_,b_,c_):=⟨_,_,_,rfl⟩
     have hE2l:=M6 r e 2;rw[hE2] at hE2l;simp only[] at hE2l;refine u4 2 (y1 38) [] [] (V6 0 2 4 5 6 38) ⟨mU 4 O O,Zt⟩ O O (⟨O,_,R.callB [(0,17)] hC (show FnB Tryz.prog gl 105 [.ptr 0 0 [],.int ((2:Nat):Int)] [(0,.var (.agg [.sl none 1 (r.map D.u8),.bool e]))] (.sl none 1 (u.map D.u8)) [(0,.var (.agg [.sl none 1 (r1.map D.u8),.bool e1]))] [] from by have h:=JV r e bO 2 bO;rw[hE2] at h;exact h) (EvB.cons (gV 38 O) O O O (EvB.cons (kI 2 O) O O O EvB.nil)) O ⟨O,Zt⟩ ⟨O,Zt⟩ O O O O O O (nU O),tV (V5 0 2 4 5 6) (d7 5 17 2) 114 O O O ?_⟩);refine W.seq ?_
     obtain⟨⟨ins,outs⟩,r2,e2,hE3⟩:∃ p_ r_ e_,E5 r1 e1=(p_,r_,e_):=⟨_,_,_,rfl⟩
     have hbs:=YZ (by omega) hE3;refine u4 4 (y2 40 41) [] [] (V7 0 2 4 5 6 40 41) ⟨mU 4 O O,aU (lU 5 O O O O O O O),Zt⟩ O O (⟨O,_,R.callB [(0,17)] hC (show FnB Tryz.prog gl 106 [.ptr 0 0 [],.agg [.u32 x.toUInt32,.nils,.nils,.u32 0]] [(0,.var (.agg [.sl none 1 (r1.map D.u8),.bool e1]))] (.agg [.u32 x.toUInt32,.sl (some 112) 36 (ins.map G6),.sl (some 115) 2 (outs.map j9),.u32 0]) [(0,.var (.agg [.sl none 1 (r2.map D.u8),.bool e2]))] [] from by have h:=HP r1 e1 bO x.toUInt32 0;rw[hE3] at h;exact h) (EvB.cons (gV 40 O) O O O (EvB.cons (gV 41 O) O O O EvB.nil)) O ⟨O,Zt⟩ ⟨O,Zt⟩ O O O O O O (nU O),⟨O,_,o8 (gU 5 O) (xU 5 O) O (gU 42 O) O O (by rfl) (by rfl) O O,tV (V5 0 2 4 5 6) (d7 5 17 2) 114 O O O ?_⟩⟩);refine W.seq (W.seq ?_);by_cases hne:ins=[]
     ·refine z8 1 (y1 7) (V6 0 2 4 5 6 7) ⟨aU<|zK (kI 0 O) O O,Zt⟩ ?_;refine W.block ?_;refine W.loop (α:={q__:Unit//True}) (fun q__=>⟨114,[(0,.sl none 1 (b.map D.u8)),(2,.ptr 2 0 []),(4,.ptr 17 0 []),(5,.ptr 5 0 []),(6,.bool (r[0]! == 0)),(7,.int ((0:Nat):Int))],[(5,.var (.agg [.u32 x.toUInt32,.sl (some 112) 36 (ins.map G6),.sl (some 115) 2 (outs.map j9),.u32 0])),(17,.var (.agg [.sl none 1 (r2.map D.u8),.bool e2])),(2,.var (.agg [.u32 0,.nils,.nils,.u32 0]))]⟩) (fun q__=>0) ⟨(()),Zt⟩ O ?_;rintro ⟨_,hinv⟩;show W _ _ _ _ ⟨114,[(0,.sl none 1 (b.map D.u8)),(2,.ptr 2 0 []),(4,.ptr 17 0 []),(5,.ptr 5 0 []),(6,.bool (r[0]! == 0)),(7,.int ((0:Nat):Int))],[(5,.var (.agg [.u32 x.toUInt32,.sl (some 112) 36 (ins.map G6),.sl (some 115) 2 (outs.map j9),.u32 0])),(17,.var (.agg [.sl none 1 (r2.map D.u8),.bool e2])),(2,.var (.agg [.u32 0,.nils,.nils,.u32 0]))]⟩;refine W.seq (q9 8 [.y 43 _,.y 44 _,.y 45 _,.y 46 _,.y 47 _,.y 48 _,.x 49,.y 50 _] (V7 0 2 4 5 6 7 50) ⟨mU 7 O O,aU (fU 5 O O),aU fun _ B H K=>R.ldO (K 44 _ O) (B 5 _ O) O H,aU fun _ B H K=>R6 (SC.alb (K 45 _ O) (B 5 _ O) O) (lN _) H,aU<|zS O O O,mU 47 O O,aF O O (gF (dF (by simp[hne])) O),aU<|YL O (dF (by simp[hne])) (kB false O) O O,Zt⟩ ?_);refine v4 O (O) ?_;refine W.exit ?_;refine H5 5 (d':=.agg [.u32 x.toUInt32,.sl none 36 (ins.map G6),.sl none 2 (outs.map j9),.u32 0]) (bx':=(d7 5 17 2)) O (show(.agg [.u32 x.toUInt32,.sl (some 112) 36 (ins.map G6),.sl (some 115) 2 (outs.map j9),.u32 0]:D).brw=_ from by simp only[D.brw,j7,List.map_cons,List.map_nil];rw[j2 O7,j2 Y3]) O ?_;refine U3 5 (d':=.agg [.u32 x.toUInt32,.sl none 36 (ins.map K4),.sl none 2 (outs.map j9),.u32 0]) (bx':=(d7 5 17 2)) O (l7 (s5 hE3)) O ?_;refine C6 (V4 0 2 4 5) (d7 5 17 2) 114 O O O ?_;exact htail _ ⟨⟨(ins,outs,r2,e2),(w30 (R7 hs1 hs2) hE2 hE3 (by rw[hne];rfl) (show r2.length<=100000 by omega))⟩,rfl⟩
     ·refine VG 9 5 [1] O O O O O O (fun _=>rfl) (by simpa using hne) O (fun _=>rfl) fun cap q _ _ _=>?_;refine z8 1 (y1 7) (V6 0 2 4 5 6 7) ⟨aU<|zK (kI 0 O) O O,Zt⟩ ?_;refine W.block ?_;refine W.loop (α:={q__:Nat×List InS×List InS×List UInt8×Bool//q__.2.1.length=q__.1/\q__.2.1.length+q__.2.2.1.length=ins.length/\q__.2.2.2.1.length<=100000/\M1 ins r2 e2=j67 q__.2.1 (M1 q__.2.2.1 q__.2.2.2.1 q__.2.2.2.2)}) (fun q__=>⟨114,[(0,.sl none 1 (b.map D.u8)),(2,.ptr 2 0 []),(4,.ptr 17 0 []),(5,.ptr 5 0 []),(6,.bool (r[0]! == 0)),(7,.int ((q__.1.1:Nat):Int))],[(9,.var (wl q__.1.2.1 (q__.1.2.2.1.map G6) q)),(5,.var (.agg [.u32 x.toUInt32,.bs 9 36 ins.length cap,.sl (some 115) 2 (outs.map j9),.u32 0])),(17,.var (.agg [.sl none 1 (q__.1.2.2.2.1.map D.u8),.bool q__.1.2.2.2.2])),(2,.var (.agg [.u32 0,.nils,.nils,.u32 0]))]⟩) (fun q__=>ins.length-q__.1.1) ⟨(0,[],ins,r2,e2),⟨O,by simp,(show r2.length<=100000 by omega),by simp[j67]⟩⟩ (by simp only[List.length_map];rfl) ?_;rintro ⟨⟨i,l,rest,r3,e3⟩,⟨hli,hlen,hrb,hO⟩⟩;show W _ _ _ _ ⟨114,[(0,.sl none 1 (b.map D.u8)),(2,.ptr 2 0 []),(4,.ptr 17 0 []),(5,.ptr 5 0 []),(6,.bool (r[0]! == 0)),(7,.int ((i:Nat):Int))],[(9,.var (wl l (rest.map G6) q)),(5,.var (.agg [.u32 x.toUInt32,.bs 9 36 ins.length cap,.sl (some 115) 2 (outs.map j9),.u32 0])),(17,.var (.agg [.sl none 1 (r3.map D.u8),.bool e3])),(2,.var (.agg [.u32 0,.nils,.nils,.u32 0]))]⟩;have hli:l.length=i:=hli;have hlen:l.length+rest.length=ins.length:=hlen;have hrb:r3.length<=100000:=hrb;have hO:M1 ins r2 e2=j67 l (M1 rest r3 e3):=hO;refine W.seq (W.seq ?_);by_cases hi1:i<ins.length
      ·refine z8 8 (y8 43 44 45 46 47 48 49 50) (V7 0 2 4 5 6 7 50) ⟨mU 7 O O,aU (fU 5 O O),aU (lU 44 O O O O O O O),aU fun _ _ H K=>R.lenBs (K 45 _ O) H,aU<|zS O O O,mU 47 O O,aW O O (gT (dT hi1) O)<|zV O O O,aU<|zT O (dT hi1) O O O,Zt⟩ ?_;refine u7 O (hs2) ?_;refine W.skip (W.seq (W.block (W.seq ?_)));obtain⟨y,rs,rfl⟩:=BP hlen (by omega);show W _ _ _ _ _
       have hlr:l.length+rs.length+1=ins.length:=by simp at hlen;omega
       obtain⟨n,r5,e5,hq5⟩:∃ a_ b_ c_,Y2 r3 e3=(a_,b_,c_):=⟨_,_,_,rfl⟩
       have hq5l:=A5 (by omega) hq5;refine u4 3 (y1 53) [] [] (V7 0 2 4 5 6 7 53) ⟨mU 4 O O,Zt⟩ O O (⟨O,_,R.callB [(0,17)] hC (show FnB Tryz.prog gl 107 [.ptr 0 0 []] [(0,.var (.agg [.sl none 1 (r3.map D.u8),.bool e3]))] (.int ((n:Nat):Int)) [(0,.var (.agg [.sl none 1 (r5.map D.u8),.bool e5]))] [] from by have h:=W3 r3 e3 bO;rw[hq5] at h;exact h) (EvB.cons (gV 53 O) O O O EvB.nil) O ⟨O,Zt⟩ ⟨O,Zt⟩ O O O O O O (nU O),(P8 O O O (tV (V7 0 2 4 5 6 7 8) (T6 9 5 17 2) 114 O O O ?_))⟩);refine W.seq ?_;refine n9 9 [i,3] 24 1 (bx':=(T6 9 5 17 2)) O (S8 hli O O O) (I7 hli) (KA hli) O ?_;refine z8 1 (y1 9) (V8 0 2 4 5 6 7 8 9) ⟨aU<|zK (kI 0 O) O O,Zt⟩ ?_;refine W.block ?_;refine W.loop (α:={q__:Nat×List (List UInt8)×List UInt8×Bool//q__.1<=n/\q__.2.1.length=q__.1/\q__.2.2.1.length<=100000/\i8 (n-q__.1) q__.2.1 q__.2.2.1 q__.2.2.2=i8 n [] r5 e5}) (fun q__=>⟨114,[(0,.sl none 1 (b.map D.u8)),(2,.ptr 2 0 []),(4,.ptr 17 0 []),(5,.ptr 5 0 []),(6,.bool (r[0]! == 0)),(7,.int ((i:Nat):Int)),(8,.int ((n:Nat):Int)),(9,.int ((q__.1.1:Nat):Int))],[(9,.var (wl l (LU y q__.1.2.1::rs.map G6) q)),(5,.var (.agg [.u32 x.toUInt32,.bs 9 36 ins.length cap,.sl (some 115) 2 (outs.map j9),.u32 0])),(17,.var (.agg [.sl none 1 (q__.1.2.2.1.map D.u8),.bool q__.1.2.2.2])),(2,.var (.agg [.u32 0,.nils,.nils,.u32 0]))]⟩) (fun q__=>n-q__.1.1) ⟨(0,[],r5,e5),⟨Nat.zero_le _,O,(show r5.length<=100000 by omega),O⟩⟩ O ?_;rintro ⟨⟨j,ws,u5,f5⟩,⟨hj,hwj,hub,hI⟩⟩;show W _ _ _ _ ⟨114,[(0,.sl none 1 (b.map D.u8)),(2,.ptr 2 0 []),(4,.ptr 17 0 []),(5,.ptr 5 0 []),(6,.bool (r[0]! == 0)),(7,.int ((i:Nat):Int)),(8,.int ((n:Nat):Int)),(9,.int ((j:Nat):Int))],[(9,.var (wl l (LU y ws::rs.map G6) q)),(5,.var (.agg [.u32 x.toUInt32,.bs 9 36 ins.length cap,.sl (some 115) 2 (outs.map j9),.u32 0])),(17,.var (.agg [.sl none 1 (u5.map D.u8),.bool f5])),(2,.var (.agg [.u32 0,.nils,.nils,.u32 0]))]⟩;have hj:j<=n:=hj;have hwj:ws.length=j:=hwj;have hub:u5.length<=100000:=hub;have hI:i8 (n-j) ws u5 f5=i8 n [] r5 e5:=hI;refine W.seq (W.seq ?_);by_cases hj1:j<n
       ·refine z8 10 (VS 55 56 57 58 59 60 61 62 63 64) (V9 0 2 4 5 6 7 8 9 64) ⟨mU 9 O O,mU 8 O O,aU<|zS O O O,mU 57 O O,aW O O (gT (dT hj1) O)<|zV O O O,aW O O (gT (dT hj1) O)<|P7 O O,aW O O (gT (dT hj1) O) (fU 60 O O),aW O O (gT (dT hj1) O) (lU 61 O O O O O O O),aW O O (gT (dT hj1) O)<|UQ O O O,aU<|zT O (dT hj1) O O O,Zt⟩ ?_;refine W.cond O (fun hc64=>?_) (fun hc64=>?_)
        ·refine W.skip (W.seq (W.block (W.seq ?_)))
         obtain⟨z,u6,f6,hq6⟩:∃ a_ b_ c_,A1 u5 f5=(a_,b_,c_):=⟨_,_,_,rfl⟩
         have hq6l:=r6 (by omega) hq6;refine u4 3 (y1 67) [] [] (V9 0 2 4 5 6 7 8 9 67) ⟨mU 4 O O,Zt⟩ O O (⟨O,_,e9 (r':=.sl none 1 (z.map D.u8)) (R.callB [(0,17)] hC (show FnB Tryz.prog gl 108 [.ptr 0 0 []] [(0,.var (.agg [.sl none 1 (u5.map D.u8),.bool f5]))] (.sl (some 5) 1 (z.map D.u8)) [(0,.var (.agg [.sl none 1 (u6.map D.u8),.bool f6]))] [] from by have h:=JW u5 f5 bO;rw[hq6] at h;exact h) (EvB.cons (gV 67 O) O O O EvB.nil) O ⟨O,Zt⟩ ⟨O,Zt⟩ O O O O O O (nU O)) O (show(.sl (some 5) 1 (z.map D.u8):D).brw=_ from by simp only[D.brw,j7];rw[j2 (fun _=>rfl)]),(P8 O O O (tV (V9 0 2 4 5 6 7 8 9 10) (T6 9 5 17 2) 114 O O O ?_))⟩);refine U9 (m:=12) (an:=[0,1,0,0,8,0,56,120,248,0,512,2040,4095,8191,16383]) (its:=[.y 69 _,.y 70 _,.y 71 _,.y 72 _,.y 73 _,.y 74 _,.y 75 _,.y 76 _,.y 77 _,.y 78 _,.y 79 _,.y 80 _]) (ks:=[(11,77)]) (kk:=[]) (efs:=[(11,(p6 9))]) (live:=[0,2,4,5,6,7,8,9,70,71,80]) (env':=(j80 0 2 4 5 6 7 8 9 70 71 80)) (nd:=40) (bx1:=(T6 9 5 17 2)) hP dU O ⟨⟨134,O⟩,nU O,O,O,O,O⟩ (                      ⟨⟨O,nU O,O,fun _ τ hb ht hτ=>R.fdP (hτ 5 _ O) ht⟩,⟨⟨O,nU O,O,fun _ τ hb ht hτ=>R.ldP (hτ 69 _ O) (hb 5 _ O) O O O O ht⟩,⟨⟨O,nU O,O,fun _ τ hb ht hτ=>R.mov (evt (hτ 7 _ O)) O ht⟩,⟨⟨O,nU O,O,fun _ τ hb ht hτ=>R.fdP (hτ 5 _ O) ht⟩,⟨⟨O,nU O,O,fun _ τ hb ht hτ=>R.ldP (hτ 72 _ O) (hb 5 _ O) O O O O ht⟩,⟨⟨O,nU O,O,fun _ τ hb ht hτ=>R.mov (evt (hτ 7 _ O)) O ht⟩,⟨⟨O,nU O,O,fun _ τ hb ht hτ=>R.idxBs (i) (hτ 73 _ O) (b4 (evt (hτ 74 _ O))) O bU ht⟩,⟨⟨O,nU O,O,fun _ τ hb ht hτ=>R.fdP (hτ 75 _ O) ht⟩,⟨⟨O,nU O,O,fun _ τ hb ht hτ=>R.ldO (hτ 76 _ O) (hb 9 _ O) (S8 hli O O O) ht⟩,⟨⟨O,nU O,O,fun _ τ hb ht hτ=>R.mov (evt (hτ 10 _ O)) O ht⟩,⟨⟨O,nU O,O,fun _ τ hb ht hτ=>w8 (z:=1) (.cons (evt (hτ 78 _ O)) .nil) ⟨⟨O,O,O⟩,Zt⟩ O ht dU⟩,⟨⟨O,O,⟨O,nU O⟩,(ZD (s:=77) (id:=9) O O (S8 hli O O O) (I7 hli) (KA hli) (fun τ hb hτ=>(SrcO.sc (SC.sl (hτ 79 _ O O O)) (g6 O))) (show _=((ws++[z]).map b5) from(by rw[List.map_append];rfl)) bU dU dU O (nU O))⟩,Zt⟩⟩⟩⟩⟩⟩⟩⟩⟩⟩⟩⟩) O O O (n':=114) O (⟨O,_,R.idxBs (i) (gU 70 O) (b4 (gV 71 O)) O bU (nU O),⟨O,_,R.fdP (gU 81 O) (nU O),⟨O,_,o8 (gU 82 O) (xU 9 O) (S8 hli O O O) (gU 80 O) O O (by rfl) (by rfl) (KA hli) (I7 hli),⟨[0,2,4,5,6,7,8,9],(V8 0 2 4 5 6 7 8 9),(T6 9 5 17 2),114,O,O,O, ?_⟩⟩⟩⟩);refine z8 3 (y3 65 66 9) (V8 0 2 4 5 6 7 8 9) ⟨mU 9 O O,aU<|Q6 1 O O bU O,aU<|zA O O O,Zt⟩ ?_;exact⟨⟨(j+1,ws++[z],u6,f6),⟨by omega,by simp[hwj],(show u6.length<=100000 by omega),q06 hI hj1 hc64 hq6⟩⟩,rfl,(by simp only[];omega)⟩
        ·have hWo:=q51 hq5 (EY hI (by first|exact .inl hj1|exact .inr hc64));refine W.exit ?_;refine H5 9 (d':=wl (l++[KS y ws]) (rs.map G6) q) (bx':=(T6 9 5 17 2)) O (FE y ws rs) O ?_;refine z8 3 (y3 51 52 7) (V6 0 2 4 5 6 7) ⟨mU 7 O O,aU<|Q6 1 O O bU O,aU<|zA O O O,Zt⟩ ?_;exact⟨⟨(i+1,l++[KS y ws],rs,u5,f5),⟨by simp[hli],by simp;omega,(show u5.length<=100000 by omega),RA hO hWo⟩⟩,rfl,(by simp only[];omega)⟩
       ·refine z8 10 [.y 55 _,.y 56 _,.y 57 _,.y 58 _,.x 59,.x 60,.x 61,.x 62,.x 63,.y 64 _] (V9 0 2 4 5 6 7 8 9 64) ⟨mU 9 O O,mU 8 O O,aU<|zS O O O,mU 57 O O,aF O O (gF (dF hj1) O),aF O O (gF (dF hj1) O),aF O O (gF (dF hj1) O),aF O O (gF (dF hj1) O),aF O O (gF (dF hj1) O),aU<|YL O (dF hj1) (kB false O) O O,Zt⟩ ?_;refine v4 O (O) ?_;have hWo:=q51 hq5 (EY hI (by first|exact .inl hj1|exact .inr hc64));refine W.exit ?_;refine H5 9 (d':=wl (l++[KS y ws]) (rs.map G6) q) (bx':=(T6 9 5 17 2)) O (FE y ws rs) O ?_;refine z8 3 (y3 51 52 7) (V6 0 2 4 5 6 7) ⟨mU 7 O O,aU<|Q6 1 O O bU O,aU<|zA O O O,Zt⟩ ?_;exact⟨⟨(i+1,l++[KS y ws],rs,u5,f5),⟨by simp[hli],by simp;omega,(show u5.length<=100000 by omega),RA hO hWo⟩⟩,rfl,(by simp only[];omega)⟩
      ·refine z8 8 [.y 43 _,.y 44 _,.y 45 _,.y 46 _,.y 47 _,.y 48 _,.x 49,.y 50 _] (V7 0 2 4 5 6 7 50) ⟨mU 7 O O,aU (fU 5 O O),aU (lU 44 O O O O O O O),aU fun _ _ H K=>R.lenBs (K 45 _ O) H,aU<|zS O O O,mU 47 O O,aF O O (gF (dF hi1) O),aU<|YL O (dF hi1) (kB false O) O O,Zt⟩ ?_;refine v4 O (O) ?_;obtain rfl:=AB hlen (by omega);show W _ _ _ _ _
       have hlen:l.length=ins.length:=by simpa using hlen
       have hE4:=j84 hO;refine H5 9 (d':=.agg (l.map K4++List.replicate q .dead)) (bx':=(T6 9 5 17 2)) O q53 O ?_;refine C6 (V4 0 2 4 5) (T6 9 5 17 2) 114 O O O ?_;refine VY 9 5 [1] [2,5,17] (bx':=(d7 5 17 2)) rfl rfl dU rfl rfl rfl (by simpa using hlen) (fun d hd=>by obtain⟨z,_,rfl⟩:=List.mem_map.1 hd;rfl) (fun d hd=>by obtain⟨z,_,rfl⟩:=List.mem_map.1 hd;rfl) (fun d hd=>by obtain⟨z,_,rfl⟩:=List.mem_map.1 hd;exact LY z) rfl rfl rfl rfl (g7 hD rfl) ?_;refine H5 5 (d':=.agg [.u32 x.toUInt32,.sl none 36 (l.map K4),.sl none 2 (outs.map j9),.u32 0]) (bx':=(d7 5 17 2)) O (show(D.agg [.u32 x.toUInt32,.sl none 36 (l.map K4),.sl (some 115) 2 (outs.map j9),.u32 0]).brw=_ from by simp only[D.brw,j7,List.map_cons,List.map_nil];rw[j2 GF,j2 Y3]) O ?_;refine W.exit ?_;exact htail _ ⟨⟨(l,outs,r3,e3),(w30 (R7 hs1 hs2) hE2 hE3 hE4 hrb)⟩,rfl⟩
    ·refine z8 16 (x87 22 23 24 25 26 27 28 29 30 31 32 33 34 35 36 6) (V5 0 2 4 5 6) ⟨mU 4 O O,aU<|P7 O O,aU (fU 23 O O),aU (lU 24 O O O O O O O),aU<|zN O (lN _) O,aU<|l5 0 O O O,mU 27 O O,aW O O (gT (dT hs1) O)<|zV O O O,aW O O (gT (dT hs1) O)<|P7 O O,aW O O (gT (dT hs1) O) (fU 30 O O),aW O O (gT (dT hs1) O) (lU 31 O O O O O O O),aW O O (gT (dT hs1) O) fun _ _ H K=>R.idxN (0) (SC.sl (K 32 _ O)) (b4 (kI 0 O)) O bU H dU,aW O O (gT (dT hs1) O)<|zL O O (mG r) O O O O O,aW O O (gT (dT hs1) O)<|B6 O (kW (.int .u8 0) (.u8 0) O) O O,aU<|zT O (dT hs1) O O O,aU<|zA O O O,Zt⟩ ?_;refine W.seq (q9 1 (y1 37) (V6 0 2 4 5 6 37) ⟨mU 6 O O,Zt⟩ ?_);refine v4 O (by simpa using hs2) ?_;refine W.skip (W.seq ?_)
     obtain⟨⟨ins,outs⟩,r2,e2,hE3⟩:∃ p_ r_ e_,E5 r e=(p_,r_,e_):=⟨_,_,_,rfl⟩
     have hbs:=YZ (by omega) hE3;refine u4 4 (y2 40 41) [] [] (V7 0 2 4 5 6 40 41) ⟨mU 4 O O,aU (lU 5 O O O O O O O),Zt⟩ O O (⟨O,_,R.callB [(0,17)] hC (show FnB Tryz.prog gl 106 [.ptr 0 0 [],.agg [.u32 x.toUInt32,.nils,.nils,.u32 0]] [(0,.var (.agg [.sl none 1 (r.map D.u8),.bool e]))] (.agg [.u32 x.toUInt32,.sl (some 112) 36 (ins.map G6),.sl (some 115) 2 (outs.map j9),.u32 0]) [(0,.var (.agg [.sl none 1 (r2.map D.u8),.bool e2]))] [] from by have h:=HP r e bO x.toUInt32 0;rw[hE3] at h;exact h) (EvB.cons (gV 40 O) O O O (EvB.cons (gV 41 O) O O O EvB.nil)) O ⟨O,Zt⟩ ⟨O,Zt⟩ O O O O O O (nU O),⟨O,_,o8 (gU 5 O) (xU 5 O) O (gU 42 O) O O (by rfl) (by rfl) O O,tV (V5 0 2 4 5 6) (d7 5 17 2) 114 O O O ?_⟩⟩);refine W.seq (q9 1 (y1 7) (V6 0 2 4 5 6 7) ⟨aU<|zK (kI 0 O) O O,Zt⟩ ?_);refine W.block ?_;refine W.loop (α:={q__:Unit//True}) (fun q__=>⟨114,[(0,.sl none 1 (b.map D.u8)),(2,.ptr 2 0 []),(4,.ptr 17 0 []),(5,.ptr 5 0 []),(6,.bool (r[0]! == 0)),(7,.int ((0:Nat):Int))],[(5,.var (.agg [.u32 x.toUInt32,.sl (some 112) 36 (ins.map G6),.sl (some 115) 2 (outs.map j9),.u32 0])),(17,.var (.agg [.sl none 1 (r2.map D.u8),.bool e2])),(2,.var (.agg [.u32 0,.nils,.nils,.u32 0]))]⟩) (fun q__=>0) ⟨(()),Zt⟩ O ?_;rintro ⟨_,hinv⟩;show W _ _ _ _ ⟨114,[(0,.sl none 1 (b.map D.u8)),(2,.ptr 2 0 []),(4,.ptr 17 0 []),(5,.ptr 5 0 []),(6,.bool (r[0]! == 0)),(7,.int ((0:Nat):Int))],[(5,.var (.agg [.u32 x.toUInt32,.sl (some 112) 36 (ins.map G6),.sl (some 115) 2 (outs.map j9),.u32 0])),(17,.var (.agg [.sl none 1 (r2.map D.u8),.bool e2])),(2,.var (.agg [.u32 0,.nils,.nils,.u32 0]))]⟩;refine W.seq (W.seq ?_);by_cases hl0:0<ins.length
     ·refine z8 8 (y8 43 44 45 46 47 48 49 50) (V7 0 2 4 5 6 7 50) ⟨mU 7 O O,aU (fU 5 O O),aU fun _ B H K=>R.ldO (K 44 _ O) (B 5 _ O) O H,aU fun _ B H K=>R6 (SC.alb (K 45 _ O) (B 5 _ O) O) (lN _) H,aU<|zS O O O,mU 47 O O,aW O O (gT (dT hl0) O)<|zV O O O,aU<|zT O (dT hl0) O O O,Zt⟩ ?_;refine v4 O (by simpa using hs2) ?_;refine W.exit ?_;refine H5 5 (d':=.agg [.u32 x.toUInt32,.sl none 36 (ins.map G6),.sl none 2 (outs.map j9),.u32 0]) (bx':=(d7 5 17 2)) O (show(.agg [.u32 x.toUInt32,.sl (some 112) 36 (ins.map G6),.sl (some 115) 2 (outs.map j9),.u32 0]:D).brw=_ from by simp only[D.brw,j7,List.map_cons,List.map_nil];rw[j2 O7,j2 Y3]) O ?_;refine U3 5 (d':=.agg [.u32 x.toUInt32,.sl none 36 (ins.map K4),.sl none 2 (outs.map j9),.u32 0]) (bx':=(d7 5 17 2)) O (l7 (s5 hE3)) O ?_;refine C6 (V4 0 2 4 5) (d7 5 17 2) 114 O O O ?_;exact htail _ ⟨⟨(ins,outs,r2,e2),(j15 (B7 hs2) hE3 (show r2.length<=100000 by omega))⟩,rfl⟩
     ·refine z8 8 [.y 43 _,.y 44 _,.y 45 _,.y 46 _,.y 47 _,.y 48 _,.x 49,.y 50 _] (V7 0 2 4 5 6 7 50) ⟨mU 7 O O,aU (fU 5 O O),aU fun _ B H K=>R.ldO (K 44 _ O) (B 5 _ O) O H,aU fun _ B H K=>R6 (SC.alb (K 45 _ O) (B 5 _ O) O) (lN _) H,aU<|zS O O O,mU 47 O O,aF O O (gF (dF hl0) O),aU<|YL O (dF hl0) (kB false O) O O,Zt⟩ ?_;refine v4 O (O) ?_;refine W.exit ?_;refine H5 5 (d':=.agg [.u32 x.toUInt32,.sl none 36 (ins.map G6),.sl none 2 (outs.map j9),.u32 0]) (bx':=(d7 5 17 2)) O (show(.agg [.u32 x.toUInt32,.sl (some 112) 36 (ins.map G6),.sl (some 115) 2 (outs.map j9),.u32 0]:D).brw=_ from by simp only[D.brw,j7,List.map_cons,List.map_nil];rw[j2 O7,j2 Y3]) O ?_;refine U3 5 (d':=.agg [.u32 x.toUInt32,.sl none 36 (ins.map K4),.sl none 2 (outs.map j9),.u32 0]) (bx':=(d7 5 17 2)) O (l7 (s5 hE3)) O ?_;refine C6 (V4 0 2 4 5) (d7 5 17 2) 114 O O O ?_;exact htail _ ⟨⟨(ins,outs,r2,e2),(j15 (B7 hs2) hE3 (show r2.length<=100000 by omega))⟩,rfl⟩
   ·refine z8 16 [.y 22 _,.y 23 _,.y 24 _,.y 25 _,.y 26 _,.y 27 _,.y 28 _,.x 29,.x 30,.x 31,.x 32,.x 33,.x 34,.x 35,.y 36 _,.y 6 _] (V5 0 2 4 5 6) ⟨mU 4 O O,aU<|P7 O O,aU (fU 23 O O),aU (lU 24 O O O O O O O),aU<|zN O (lN _) O,aU<|l5 0 O O O,mU 27 O O,aF O O (gF (dF hs1) O),aF O O (gF (dF hs1) O),aF O O (gF (dF hs1) O),aF O O (gF (dF hs1) O),aF O O (gF (dF hs1) O),aF O O (gF (dF hs1) O),aF O O (gF (dF hs1) O),aU<|YL O (dF hs1) (kB false O) O O,aU<|zA O O O,Zt⟩ ?_;refine W.seq (q9 1 (y1 37) (V6 0 2 4 5 6 37) ⟨mU 6 O O,Zt⟩ ?_);refine v4 O (O) ?_;refine W.skip (W.seq ?_)
    obtain⟨⟨ins,outs⟩,r2,e2,hE3⟩:∃ p_ r_ e_,E5 r e=(p_,r_,e_):=⟨_,_,_,rfl⟩
    have hbs:=YZ (by omega) hE3;refine u4 4 (y2 40 41) [] [] (V7 0 2 4 5 6 40 41) ⟨mU 4 O O,aU (lU 5 O O O O O O O),Zt⟩ O O (⟨O,_,R.callB [(0,17)] hC (show FnB Tryz.prog gl 106 [.ptr 0 0 [],.agg [.u32 x.toUInt32,.nils,.nils,.u32 0]] [(0,.var (.agg [.sl none 1 (r.map D.u8),.bool e]))] (.agg [.u32 x.toUInt32,.sl (some 112) 36 (ins.map G6),.sl (some 115) 2 (outs.map j9),.u32 0]) [(0,.var (.agg [.sl none 1 (r2.map D.u8),.bool e2]))] [] from by have h:=HP r e bO x.toUInt32 0;rw[hE3] at h;exact h) (EvB.cons (gV 40 O) O O O (EvB.cons (gV 41 O) O O O EvB.nil)) O ⟨O,Zt⟩ ⟨O,Zt⟩ O O O O O O (nU O),⟨O,_,o8 (gU 5 O) (xU 5 O) O (gU 42 O) O O (by rfl) (by rfl) O O,tV (V5 0 2 4 5 6) (d7 5 17 2) 114 O O O ?_⟩⟩);refine W.seq (q9 1 (y1 7) (V6 0 2 4 5 6 7) ⟨aU<|zK (kI 0 O) O O,Zt⟩ ?_);refine W.block ?_;refine W.loop (α:={q__:Unit//True}) (fun q__=>⟨114,[(0,.sl none 1 (b.map D.u8)),(2,.ptr 2 0 []),(4,.ptr 17 0 []),(5,.ptr 5 0 []),(6,.bool false),(7,.int ((0:Nat):Int))],[(5,.var (.agg [.u32 x.toUInt32,.sl (some 112) 36 (ins.map G6),.sl (some 115) 2 (outs.map j9),.u32 0])),(17,.var (.agg [.sl none 1 (r2.map D.u8),.bool e2])),(2,.var (.agg [.u32 0,.nils,.nils,.u32 0]))]⟩) (fun q__=>0) ⟨(()),Zt⟩ O ?_;rintro ⟨_,hinv⟩;show W _ _ _ _ ⟨114,[(0,.sl none 1 (b.map D.u8)),(2,.ptr 2 0 []),(4,.ptr 17 0 []),(5,.ptr 5 0 []),(6,.bool false),(7,.int ((0:Nat):Int))],[(5,.var (.agg [.u32 x.toUInt32,.sl (some 112) 36 (ins.map G6),.sl (some 115) 2 (outs.map j9),.u32 0])),(17,.var (.agg [.sl none 1 (r2.map D.u8),.bool e2])),(2,.var (.agg [.u32 0,.nils,.nils,.u32 0]))]⟩;refine W.seq (W.seq ?_);by_cases hl0:0<ins.length
    ·refine z8 8 (y8 43 44 45 46 47 48 49 50) (V7 0 2 4 5 6 7 50) ⟨mU 7 O O,aU (fU 5 O O),aU fun _ B H K=>R.ldO (K 44 _ O) (B 5 _ O) O H,aU fun _ B H K=>R6 (SC.alb (K 45 _ O) (B 5 _ O) O) (lN _) H,aU<|zS O O O,mU 47 O O,aW O O (gT (dT hl0) O)<|zV O O O,aU<|zT O (dT hl0) O O O,Zt⟩ ?_;refine v4 O (O) ?_;refine W.exit ?_;refine H5 5 (d':=.agg [.u32 x.toUInt32,.sl none 36 (ins.map G6),.sl none 2 (outs.map j9),.u32 0]) (bx':=(d7 5 17 2)) O (show(.agg [.u32 x.toUInt32,.sl (some 112) 36 (ins.map G6),.sl (some 115) 2 (outs.map j9),.u32 0]:D).brw=_ from by simp only[D.brw,j7,List.map_cons,List.map_nil];rw[j2 O7,j2 Y3]) O ?_;refine U3 5 (d':=.agg [.u32 x.toUInt32,.sl none 36 (ins.map K4),.sl none 2 (outs.map j9),.u32 0]) (bx':=(d7 5 17 2)) O (l7 (s5 hE3)) O ?_;refine C6 (V4 0 2 4 5) (d7 5 17 2) 114 O O O ?_;exact htail _ ⟨⟨(ins,outs,r2,e2),(j15 (B8 hs1) hE3 (show r2.length<=100000 by omega))⟩,rfl⟩
    ·refine z8 8 [.y 43 _,.y 44 _,.y 45 _,.y 46 _,.y 47 _,.y 48 _,.x 49,.y 50 _] (V7 0 2 4 5 6 7 50) ⟨mU 7 O O,aU (fU 5 O O),aU fun _ B H K=>R.ldO (K 44 _ O) (B 5 _ O) O H,aU fun _ B H K=>R6 (SC.alb (K 45 _ O) (B 5 _ O) O) (lN _) H,aU<|zS O O O,mU 47 O O,aF O O (gF (dF hl0) O),aU<|YL O (dF hl0) (kB false O) O O,Zt⟩ ?_;refine v4 O (O) ?_;refine W.exit ?_;refine H5 5 (d':=.agg [.u32 x.toUInt32,.sl none 36 (ins.map G6),.sl none 2 (outs.map j9),.u32 0]) (bx':=(d7 5 17 2)) O (show(.agg [.u32 x.toUInt32,.sl (some 112) 36 (ins.map G6),.sl (some 115) 2 (outs.map j9),.u32 0]:D).brw=_ from by simp only[D.brw,j7,List.map_cons,List.map_nil];rw[j2 O7,j2 Y3]) O ?_;refine U3 5 (d':=.agg [.u32 x.toUInt32,.sl none 36 (ins.map K4),.sl none 2 (outs.map j9),.u32 0]) (bx':=(d7 5 17 2)) O (l7 (s5 hE3)) O ?_;refine C6 (V4 0 2 4 5) (d7 5 17 2) 114 O O O ?_;exact htail _ ⟨⟨(ins,outs,r2,e2),(j15 (B8 hs1) hE3 (show r2.length<=100000 by omega))⟩,rfl⟩
end Go.Sx

namespace Go.Sx
open Go.Proofs
theorem TZ(a b:Hs)(hx:a.length=32)(hy:b.length=32):Fn Tryz.prog gl 103 [z7 a,z7 b] (z7 (X0 a b)):=by
 refine Fn.of (n:=14) Tryz.func103 rfl rfl rfl (nU rfl) fun C hC hD=>?_;refine z5 3 [] [] [] (V2 0 1) Zt O O (⟨O,_,R.box (gV 0 O) O O (nU O),⟨O,_,R.box (gV 1 O) O O (nU O),(Q7 O O (tV (V3 2 3 4) (d7 4 3 2) 14 O O O ?_))⟩⟩);refine z5 1 [] [] [] (V3 2 3 4) Zt O O (Q7 O O (tV (V4 2 3 4 5) (T6 5 4 3 2) 14 O O O ?_));refine W.seq ?_;refine W.dr (m:=2) (an:=[0,0,3]) hP dU O (its:=[.y 6 _,.y 7 _]) (ks:=[]) (kk:=[]) (env':=(V5 3 4 5 6 7)) (⟨nU O,O,⟨aU fun _ B H K=>G5 (0) (64) (64) (K 5 _ O) (B 5 _ O) O O O O O bU bU O H,aU fun _ B H K=>G5 (0) (32) (32) (K 2 _ O) (B 2 _ O) O O O O O bU bU O H,Zt⟩,O,O,O⟩) O (bx':=(T6 5 4 3 2)) O (n':=14) O (⟨O,_,OY (k:=32) (l2:=((a++List.replicate 32 0).map D.u8)) (gU 6 O) (xU 5 O) O dU (SrcO.sc (SC.va (gU 7 O) (xU 2 O) O dU) (P0 (fun _=>rfl))) (fun y q=>MV (fun _=>rfl) y (List.mem_of_mem_drop (List.mem_of_mem_take q))) (nU O) (by simp[hx]) (w48 a hx) O,tV (V3 3 4 5) (T6 5 4 3 2) 14 O O O ?_⟩);refine W.seq ?_;refine W.dr (m:=2) (an:=[0,0,3]) hP dU O (its:=[.y 9 _,.y 10 _]) (ks:=[]) (kk:=[]) (env':=(V4 4 5 9 10)) (⟨nU O,O,⟨aU fun _ B H K=>G5 (32) (64) ((64-32)) (K 5 _ O) (B 5 _ O) O (b4 (kI 32 O)) O O O bU bU O H,aU fun _ B H K=>G5 (0) (32) (32) (K 3 _ O) (B 3 _ O) O O O O O bU bU O H,Zt⟩,O,O,O⟩) O (bx':=(T6 5 4 3 2)) O (n':=14) O (⟨O,_,OY (k:=32) (l2:=((a++b).map D.u8)) (gU 9 O) (xU 5 O) O dU (SrcO.sc (SC.va (gU 10 O) (xU 3 O) O dU) (P0 (fun _=>rfl))) (fun y q=>MV (fun _=>rfl) y (List.mem_of_mem_drop (List.mem_of_mem_take q))) (nU O) (by simp[hy]) (w47 a b hx hy) O,tV (V2 4 5) (T6 5 4 3 2) 14 O O O ?_⟩);refine z5 3 (y2 12 13) [] [] (V2 4 13) ⟨aU fun _ B H K=>G5 (0) (64) (64) (K 5 _ O) (B 5 _ O) O O O O O bU bU O H,aU fun _ B H K=>w6 hC (HQ (a++b) (by simp only[List.length_append,hx,hy];decide)) (Bc (Bor.sc (SC.va (K 12 _ O) (B 5 _ O) O dU) (GL (fun _=>rfl) (by simp only[List.length_append,hx,hy]))) Bn) (F1 (m4 _)) H,Zt⟩ O O (d5 O O O O O (tV (V1 4) (T6 5 4 3 2) 14 O O O ?_));refine W.ret ?_;exact q8 (.inr O) O (O) O O (iL 23 32)
end Go.Sx

namespace Go.Sx
open Go.Proofs
theorem j04(b:List UInt8)(hb0:b.length<=4000000):Fn Tryz.prog gl 47 [.sl none 1 (b.map D.u8)] (.tup [z7 (Y1 Y8 b).1,.int (Y1 Y8 b).2]):=by
 refine Fn.of (n:=10) Tryz.func47 rfl rfl rfl (nU rfl) fun C hC hD=>?_;refine z5 2 [] [] [] (V1 0) Zt O O (Q7 O O ⟨O,_,j4 (kI 0 O) O (nU O),tV (V2 0 2) (p6 2) 10 O O O ?_⟩);refine W.seq (q9 3 (y3 4 5 6) (V3 0 2 6) ⟨mU 0 O O,aU<|zN O (lN _) O,aU<|KD 64 O O O,Zt⟩ ?_);refine z6 O (fun hc6=>?_) (fun hc6=>?_)
 ·refine z5 3 (y1 7) [] [] (V2 2 7) ⟨aU fun _ _ H _=>R.bldAZ O H,Zt⟩ O O (d5 O O O O O ⟨O,_,j4 (kI 15 O) O (nU O),tV (V2 2 3) (p6 2) 10 O O O ?_⟩);refine W.ret ?_;exact Ends.many (.inr O) (.cons O O O (iL 23 32) (.cons O O O Zt .nil)) (by simp only[Y1,if_pos hc6];rfl) (show[(2,false),(3,true)].Nodup by decide)
 ·refine W.skip (z5 4 (y2 8 9) [] [] (V2 2 9) ⟨mU 0 O O,aU<|zC hC (HQ b bO) O O O (F1 (m4 _)) O,Zt⟩ O O (d5 O O O O O ⟨O,_,j4 (kI 0 O) O (nU O),tV (V2 2 3) (p6 2) 10 O O O ?_⟩));refine W.ret ?_;exact Ends.many (.inr O) (.cons O O O (iL 23 32) (.cons O O O Zt .nil)) (by simp only[Y1,if_neg hc6];rfl) (show[(2,false),(3,true)].Nodup by decide)
theorem q97(b:List UInt8)(hb0:b.length<=4000000):Fn Tryz.prog gl 54 [.sl none 1 (b.map D.u8)] (.tup [z7 (Y1 D2 b).1,.int (Y1 D2 b).2]):=by
 refine Fn.of (n:=10) Tryz.func54 rfl rfl rfl (nU rfl) fun C hC hD=>?_;refine z5 2 [] [] [] (V1 0) Zt O O (Q7 O O ⟨O,_,j4 (kI 0 O) O (nU O),tV (V2 0 2) (p6 2) 10 O O O ?_⟩);refine W.seq (q9 3 (y3 4 5 6) (V3 0 2 6) ⟨mU 0 O O,aU<|zN O (lN _) O,aU<|KD 64 O O O,Zt⟩ ?_);refine z6 O (fun hc6=>?_) (fun hc6=>?_)
 ·refine z5 3 (y1 7) [] [] (V2 2 7) ⟨aU fun _ _ H _=>R.bldAZ O H,Zt⟩ O O (d5 O O O O O ⟨O,_,j4 (kI 15 O) O (nU O),tV (V2 2 3) (p6 2) 10 O O O ?_⟩);refine W.ret ?_;exact Ends.many (.inr O) (.cons O O O (iL 23 32) (.cons O O O Zt .nil)) (by simp only[Y1,if_pos hc6];rfl) (show[(2,false),(3,true)].Nodup by decide)
 ·refine W.skip (z5 4 (y2 8 9) [] [] (V2 2 9) ⟨mU 0 O O,aU<|zC hC (ZO b bO) O O O (F1 (m4 _)) O,Zt⟩ O O (d5 O O O O O ⟨O,_,j4 (kI 0 O) O (nU O),tV (V2 2 3) (p6 2) 10 O O O ?_⟩));refine W.ret ?_;exact Ends.many (.inr O) (.cons O O O (iL 23 32) (.cons O O O Zt .nil)) (by simp only[Y1,if_neg hc6];rfl) (show[(2,false),(3,true)].Nodup by decide)
theorem j22(id:Hs)(br:List Hs)(k:Int)(hi:id.length=32)(hbr:allH br)(hb0:br.length<=1000)(hk0:-9223372036854775808<=k/\k<=9223372036854775807):Fn Tryz.prog gl 51 [z7 id,.sl none 32 (br.map z7),.int k] (.tup [z7 (Z0 X0 id br k).1,.int (Z0 X0 id br k).2]):=by
 refine Fn.of (n:=51) Tryz.func51 rfl rfl rfl (nU rfl) fun C hC hD=>?_;refine z5 3 [] [] [] (V3 0 1 2) Zt O O (⟨O,_,R.box (gV 0 O) O O (nU O),(Q7 O O ⟨O,_,j4 (kI 0 O) O (nU O),tV (V4 1 2 3 6) (p7 6 3) 51 O O O ?_⟩)⟩);refine W.seq (W.block (q9 4 (y4 12 13 14 11) (V5 1 2 3 6 11) ⟨mU 1 O O,aU<|zN O (lN _) O,aU<|l5 32 O O O,aU<|zA O O O,Zt⟩ ?_));refine z6 O (fun hc11=>?_) (fun hc11=>?_)
 ·refine z5 3 (y1 15) [] [] (V2 6 15) ⟨aU fun _ _ H _=>R.bldAZ O H,Zt⟩ O O (d5 O O O O O ⟨O,_,j4 (kI 6 O) O (nU O),tV (V2 6 7) (p7 6 3) 51 O O O ?_⟩);refine W.ret ?_;exact Ends.many (.inr O) (.cons O O O (iL 23 32) (.cons O O O Zt .nil)) (by simp only[Z0,if_pos hc11];rfl) (show[(6,false),(7,true)].Nodup by decide)
 ·refine W.seq ?_;by_cases hn:k<0
  ·refine z8 10 [.y 17 _,.y 18 _,.y 19 _,.x 20,.x 21,.x 22,.x 23,.x 24,.y 25 _,.y 16 _] (V5 1 2 3 6 16) ⟨mU 2 O O,aU<|B6 O (kI 0 O) O O,mU 18 O O,aF O O (gT (dT hn) O),aF O O (gT (dT hn) O),aF O O (gT (dT hn) O),aF O O (gT (dT hn) O),aF O O (gT (dT hn) O),aU<|I4 O (dT hn) (kB true O) O O,aU<|zA O O O,Zt⟩ ?_;refine u7 O (O) ?_;refine z5 3 (y1 26) [] [] (V2 6 26) ⟨aU fun _ _ H _=>R.bldAZ O H,Zt⟩ O O (d5 O O O O O ⟨O,_,j4 (kI 1 O) O (nU O),tV (V2 6 7) (p7 6 3) 51 O O O ?_⟩);refine W.ret ?_;exact Ends.many (.inr O) (.cons O O O (iL 23 32) (.cons O O O Zt .nil)) (by simp only[Z0,if_neg hc11,if_pos (show k<0∨0<k.toNat/2^br.length from .inl hn)];rfl) (show[(6,false),(7,true)].Nodup by decide)
  ·refine z8 10 (VS 17 18 19 20 21 22 23 24 25 16) (V5 1 2 3 6 16) ⟨mU 2 O O,aU<|B6 O (kI 0 O) O O,mU 18 O O,aW O O (gF (dF hn) O)<|zV O O O,aW O O (gF (dF hn) O)<|zV O O O,aW O O (gF (dF hn) O)<|zN O (lN _) O,aW O O (gF (dF hn) O) fun _ _ H K=>c8 (d:=.int ((k.toNat/2^br.length:Nat):Int)) (eU K 20 O) (eU K 22 O) O bV (congrArg D.int (DB k br.length bO bO)) H,aW O O (gF (dF hn) O)<|l5 0 O O O,aU<|zF O (dF hn) O O O,aU<|zA O O O,Zt⟩ ?_;refine z6 O (fun hc16=>?_) (fun hc16=>?_)
   ·refine z5 3 (y1 26) [] [] (V2 6 26) ⟨aU fun _ _ H _=>R.bldAZ O H,Zt⟩ O O (d5 O O O O O ⟨O,_,j4 (kI 1 O) O (nU O),tV (V2 6 7) (p7 6 3) 51 O O O ?_⟩);refine W.ret ?_;exact Ends.many (.inr O) (.cons O O O (iL 23 32) (.cons O O O Zt .nil)) (by simp only[Z0,if_neg hc11,if_pos (show k<0∨0<k.toNat/2^br.length from .inr hc16)];rfl) (show[(6,false),(7,true)].Nodup by decide)
   ·refine W.skip (W.seq ?_);obtain⟨m,rfl⟩:=Int.eq_ofNat_of_zero_le (show 0<=k by omega)
    have hne:¬ ((m:Int)<0∨0<(m:Int).toNat/2^br.length):=by rintro (h|h)<;>first|omega|exact hc16 h
    have hfs:Z0 X0 id br (m:Int)=P4 X0 id br m:=by simp only[Z0,if_neg hc11,if_neg hne];rfl
    refine u4 3 (y1 27) [] [] (V4 1 2 6 27) ⟨aU (lU 3 O O O O O O O),Zt⟩ O O (Q7 O O (d5 O O O O O (tV (V4 1 2 6 8) (d7 8 6 3) 51 O O O ?_)));refine W.seq (q9 3 (y3 28 29 30) (V6 2 6 8 28 29 30) ⟨mU 1 O O,aU<|zN O (lN _) O,aU<|OP (kI 0 O) O O,Zt⟩ ?_);refine W.block ?_;refine W.loop (α:={q__:Nat×Nat×Hs//(q__.1<=br.length/\q__.2.1<=m)/\q__.2.2.length=32/\P4 X0 q__.2.2 (br.drop q__.1) q__.2.1=P4 X0 id br m}) (fun q__=>⟨51,[(2,.int ((q__.1.2.1:Nat):Int)),(6,.ptr 6 0 []),(8,.ptr 8 0 []),(28,.sl none 32 (br.map z7)),(29,.int ((br.length:Nat):Int)),(30,.int ((q__.1.1:Nat):Int))],[(8,.var (z7 q__.1.2.2)),(6,.var (z7 zero32)),(3,.var (z7 id))]⟩) (fun q__=>br.length-q__.1.1) ⟨(0,m,id),⟨⟨Nat.zero_le _,Nat.le_refl _⟩,hi,O⟩⟩ O ?_;rintro ⟨⟨j,kk,h⟩,⟨⟨hj,hkm⟩,hh,heq⟩⟩;show W _ _ _ _ ⟨51,[(2,.int ((kk:Nat):Int)),(6,.ptr 6 0 []),(8,.ptr 8 0 []),(28,.sl none 32 (br.map z7)),(29,.int ((br.length:Nat):Int)),(30,.int ((j:Nat):Int))],[(8,.var (z7 h)),(6,.var (z7 zero32)),(3,.var (z7 id))]⟩;have hj:j<=br.length:=hj;have hkm:kk<=m:=hkm;have hh:h.length=32:=hh;have heq:P4 X0 h (br.drop j) kk=P4 X0 id br m:=heq;refine q9 1 (y1 31) (V7 2 6 8 28 29 30 31) ⟨aU<|zS O O O,Zt⟩ ?_;refine W.seq ?_;refine z6 O (fun hc31=>?_) (fun hc31=>?_)
    ·refine W.skip (W.seq (W.block (z5 4 (y2 32 33) [] [] (V7 2 6 8 28 29 30 33) ⟨aU<|zI j O O O bU O,aU<|zL O O (mG br) O O O O O,Zt⟩ O O (Q7 O O (d5 O O O O O (tV (V7 2 6 8 10 28 29 30) (T6 10 8 6 3) 51 O O O ?_))))));refine W.seq (q9 3 (y3 34 35 36) (V8 2 6 8 10 28 29 30 36) ⟨mU 2 O O,aU fun _ _ H K=>E3 (kk) (2) (eU K 34 O) (kI 2 O) bU H,aU<|KD 0 O O O,Zt⟩ ?_);refine z6 O (fun hc36=>?_) (fun hc36=>?_)
     ·refine u4 4 (y3 37 38 39) [] [] (V7 2 6 8 28 29 30 39) ⟨aU (lU 8 O O O O O O O),aU (lU 10 O O O O O O O),aU<|zD hC (TZ _ _ hh (hbr.get bO)) O O O O O O (F1 (m4 _)) O,Zt⟩ O O (d5 O O O O O (tV (V6 2 6 8 28 29 30) (T6 10 8 6 3) 51 O O O ?_));refine b7 [3,6,8] (bx':=(d7 8 6 3)) O O O (g7 hD O) ?_;refine z8 3 (y3 47 48 2) (V6 2 6 8 28 29 30) ⟨mU 2 O O,aU fun _ _ H K=>C7 (kk) (2) (eU K 47 O) (kI 2 O) bU bU H,aU<|zA O O O,Zt⟩ ?_;refine z8 2 (y2 49 30) (V6 2 6 8 28 29 30) ⟨aU<|Q6 1 O O bU O,mU 49 O O,Zt⟩ ?_;exact⟨⟨(j+1,kk/2,(if kk%2=0 then X0 h br[j]! else X0 br[j]! h)),⟨⟨by omega,by show kk/2<=m;omega⟩,by(try dsimp only);split<;>exact PK _ _,by rw[<- heq,N9 X0 h br j kk (by omega)];(try dsimp only);first|(rw[if_pos hc36,if_pos hc36])|(rw[if_neg hc36,if_neg hc36,if_neg (ne_of_beq_false hc42)])⟩⟩,(by(try dsimp only);first|rw[if_pos hc36]|rw[if_neg hc36]),(by simp only[];omega)⟩
     ·refine W.seq (q9 3 (y3 40 41 42) (V8 2 6 8 10 28 29 30 42) ⟨aU (lU 10 O O O O O O O),aU (lU 8 O O O O O O O),aU fun _ _ H K=>RB (eU K 40 O) (eU K 41 O) H,Zt⟩ ?_);refine W.cond O (fun hc42=>?_) (fun hc42=>?_)
      ·refine W.seq ?_;refine C6 (V1 6) (T6 10 8 6 3) 51 O O O ?_;refine b7 [3,6,8] (bx':=(d7 8 6 3)) O O O (g7 hD O) ?_;refine u4 3 (y1 43) [] [] (V2 6 43) ⟨aU fun _ _ H _=>R.bldAZ O H,Zt⟩ O O (d5 O O O O O ⟨O,_,j4 (kI 15 O) O (nU O),tV (V2 6 7) (d7 8 6 3) 51 O O O ?_⟩);refine W.ret ?_;exact Ends.many (.inr O) (.cons O O O (iL 23 32) (.cons O O O Zt .nil)) (by have e:=N9 X0 h br j kk bO;rw[if_neg hc36,if_pos (eq_of_beq hc42)] at e;rw[hfs,<- heq,e];rfl) (show[(6,false),(7,true)].Nodup by decide)
      ·refine W.skip ?_;refine u4 4 (y3 44 45 46) [] [] (V7 2 6 8 28 29 30 46) ⟨aU (lU 10 O O O O O O O),aU (lU 8 O O O O O O O),aU<|zD hC (TZ _ _ (hbr.get bO) hh) O O O O O O (F1 (m4 _)) O,Zt⟩ O O (d5 O O O O O (tV (V6 2 6 8 28 29 30) (T6 10 8 6 3) 51 O O O ?_));refine b7 [3,6,8] (bx':=(d7 8 6 3)) O O O (g7 hD O) ?_;refine z8 3 (y3 47 48 2) (V6 2 6 8 28 29 30) ⟨mU 2 O O,aU fun _ _ H K=>C7 (kk) (2) (eU K 47 O) (kI 2 O) bU bU H,aU<|zA O O O,Zt⟩ ?_;refine z8 2 (y2 49 30) (V6 2 6 8 28 29 30) ⟨aU<|Q6 1 O O bU O,mU 49 O O,Zt⟩ ?_;exact⟨⟨(j+1,kk/2,(if kk%2=0 then X0 h br[j]! else X0 br[j]! h)),⟨⟨by omega,by show kk/2<=m;omega⟩,by(try dsimp only);split<;>exact PK _ _,by rw[<- heq,N9 X0 h br j kk (by omega)];(try dsimp only);first|(rw[if_pos hc36,if_pos hc36])|(rw[if_neg hc36,if_neg hc36,if_neg (ne_of_beq_false hc42)])⟩⟩,(by(try dsimp only);first|rw[if_pos hc36]|rw[if_neg hc36]),(by simp only[];omega)⟩
    ·obtain rfl:j=br.length:=by omega
     refine W.exit (z5 3 (y1 50) [] [] (V2 6 50) ⟨aU (lU 8 O O O O O O O),Zt⟩ O O (d5 O O O O O ⟨O,_,j4 (kI 0 O) O (nU O),tV (V2 6 7) (d7 8 6 3) 51 O O O ?_⟩));refine W.ret ?_;exact Ends.many (.inr O) (.cons O O O (iL 23 32) (.cons O O O Zt .nil)) (by have e:=PH X0 h br br.length kk (Nat.le_refl _);rw[hfs,<- heq,e];rfl) (show[(6,false),(7,true)].Nodup by decide)
theorem q98(id:Hs)(br:List Hs)(k:Int)(hi:id.length=32)(hbr:allH br)(hb0:br.length<=1000)(hk0:-9223372036854775808<=k/\k<=9223372036854775807):Fn Tryz.prog gl 57 [z7 id,.sl none 32 (br.map z7),.int k] (.tup [z7 (Z0 d9 id br k).1,.int (Z0 d9 id br k).2]):=by
 refine Fn.of (n:=57) Tryz.func57 rfl rfl rfl (nU rfl) fun C hC hD=>?_;refine z5 3 [] [] [] (V3 0 1 2) Zt O O (⟨O,_,R.box (gV 0 O) O O (nU O),(Q7 O O ⟨O,_,j4 (kI 0 O) O (nU O),tV (V4 1 2 3 6) (p7 6 3) 57 O O O ?_⟩)⟩);refine W.seq (q9 3 (y3 10 11 12) (V5 1 2 3 6 12) ⟨mU 1 O O,aU<|zN O (lN _) O,aU<|l5 32 O O O,Zt⟩ ?_);refine z6 O (fun hc12=>?_) (fun hc12=>?_)
 ·refine z5 3 (y1 13) [] [] (V2 6 13) ⟨aU fun _ _ H _=>R.bldAZ O H,Zt⟩ O O (d5 O O O O O ⟨O,_,j4 (kI 6 O) O (nU O),tV (V2 6 7) (p7 6 3) 57 O O O ?_⟩);refine W.ret ?_;exact Ends.many (.inr O) (.cons O O O (iL 23 32) (.cons O O O Zt .nil)) (by simp only[Z0,if_pos hc12];rfl) (show[(6,false),(7,true)].Nodup by decide)
 ·refine W.skip (W.seq (W.seq ?_));by_cases hn:k<0
  ·refine z8 10 [.y 14 _,.y 15 _,.y 16 _,.x 17,.x 18,.x 19,.x 20,.x 21,.x 22,.y 23 _] (V5 1 2 3 6 23) ⟨mU 2 O O,aU<|B6 O (kI 0 O) O O,mU 15 O O,aF O O (gT (dT hn) O),aF O O (gT (dT hn) O),aF O O (gT (dT hn) O),aF O O (gT (dT hn) O),aF O O (gT (dT hn) O),aF O O (gT (dT hn) O),aU<|I4 O (dT hn) (kB true O) O O,Zt⟩ ?_;refine u7 O (O) ?_;refine z5 3 (y1 24) [] [] (V2 6 24) ⟨aU fun _ _ H _=>R.bldAZ O H,Zt⟩ O O (d5 O O O O O ⟨O,_,j4 (kI 1 O) O (nU O),tV (V2 6 7) (p7 6 3) 57 O O O ?_⟩);refine W.ret ?_;exact Ends.many (.inr O) (.cons O O O (iL 23 32) (.cons O O O Zt .nil)) (by simp only[Z0,if_neg hc12,if_pos (show k<0∨0<k.toNat/2^br.length from .inl hn)];rfl) (show[(6,false),(7,true)].Nodup by decide)
  ·refine z8 10 (VS 14 15 16 17 18 19 20 21 22 23) (V5 1 2 3 6 23) ⟨mU 2 O O,aU<|B6 O (kI 0 O) O O,mU 15 O O,aW O O (gF (dF hn) O)<|zV O O O,aW O O (gF (dF hn) O)<|zV O O O,aW O O (gF (dF hn) O)<|zN O (lN _) O,aW O O (gF (dF hn) O) fun _ _ H K=>Q5 (d:=.u64 (UInt64.ofNat br.length)) (eU K 19 O) O (k58 br.length) H,aW O O (gF (dF hn) O) fun _ _ H K=>c8 (d:=.int ((k.toNat/2^br.length:Nat):Int)) (eU K 17 O) (eU K 20 O) O bV (congrArg D.int ((LO k br.length bO bO))) H,aW O O (gF (dF hn) O)<|l5 0 O O O,aU<|zF O (dF hn) O O O,Zt⟩ ?_;refine z6 O (fun hc23=>?_) (fun hc23=>?_)
   ·refine z5 3 (y1 24) [] [] (V2 6 24) ⟨aU fun _ _ H _=>R.bldAZ O H,Zt⟩ O O (d5 O O O O O ⟨O,_,j4 (kI 1 O) O (nU O),tV (V2 6 7) (p7 6 3) 57 O O O ?_⟩);refine W.ret ?_;exact Ends.many (.inr O) (.cons O O O (iL 23 32) (.cons O O O Zt .nil)) (by simp only[Z0,if_neg hc12,if_pos (show k<0∨0<k.toNat/2^br.length from .inr hc23)];rfl) (show[(6,false),(7,true)].Nodup by decide)
   ·refine W.skip (W.seq ?_);obtain⟨m,rfl⟩:=Int.eq_ofNat_of_zero_le (show 0<=k by omega)
    have hne:¬ ((m:Int)<0∨0<(m:Int).toNat/2^br.length):=by rintro (h|h)<;>first|omega|exact hc23 h
    have hfs:Z0 d9 id br (m:Int)=P4 d9 id br m:=by simp only[Z0,if_neg hc12,if_neg hne];rfl
    refine u4 3 (y1 25) [] [] (V4 1 2 6 25) ⟨aU (lU 3 O O O O O O O),Zt⟩ O O (Q7 O O (d5 O O O O O (tV (V4 1 2 6 8) (d7 8 6 3) 57 O O O ?_)));refine W.seq (q9 1 (y1 9) (V5 1 2 6 8 9) ⟨aU<|zK (kI 0 O) O O,Zt⟩ ?_);refine W.block ?_;refine W.loop (α:={q__:Nat×Nat×Hs//(q__.1<=br.length/\q__.2.1<=m)/\q__.2.2.length=32/\P4 d9 q__.2.2 (br.drop q__.1) q__.2.1=P4 d9 id br m}) (fun q__=>⟨57,[(1,.sl none 32 (br.map z7)),(2,.int ((q__.1.2.1:Nat):Int)),(6,.ptr 6 0 []),(8,.ptr 8 0 []),(9,.int ((q__.1.1:Nat):Int))],[(8,.var (z7 q__.1.2.2)),(6,.var (z7 zero32)),(3,.var (z7 id))]⟩) (fun q__=>br.length-q__.1.1) ⟨(0,m,id),⟨⟨Nat.zero_le _,Nat.le_refl _⟩,hi,O⟩⟩ O ?_;rintro ⟨⟨j,kk,h⟩,⟨⟨hj,hkm⟩,hh,heq⟩⟩;show W _ _ _ _ ⟨57,[(1,.sl none 32 (br.map z7)),(2,.int ((kk:Nat):Int)),(6,.ptr 6 0 []),(8,.ptr 8 0 []),(9,.int ((j:Nat):Int))],[(8,.var (z7 h)),(6,.var (z7 zero32)),(3,.var (z7 id))]⟩;have hj:j<=br.length:=hj;have hkm:kk<=m:=hkm;have hh:h.length=32:=hh;have heq:P4 d9 h (br.drop j) kk=P4 d9 id br m:=heq;refine W.seq (q9 4 (y4 26 27 28 29) (V6 1 2 6 8 9 29) ⟨mU 9 O O,mU 1 O O,aU<|zN O (lN _) O,aU<|zS O O O,Zt⟩ ?_);refine z6 O (fun hc29=>?_) (fun hc29=>?_)
    ·refine W.skip (W.seq (W.block (W.seq (q9 3 (y3 32 33 34) (V6 1 2 6 8 9 34) ⟨mU 2 O O,aU fun _ _ H K=>E3 (kk) (2) (eU K 32 O) (kI 2 O) bU H,aU<|KD 0 O O O,Zt⟩ ?_))));refine z6 O (fun hc34=>?_) (fun hc34=>?_)
     ·refine W.dr (m:=6) (an:=[0,0,0,6,14,31,63]) hP dU O (its:=[.y 35 _,.y 36 _,.y 37 _,.y 38 _,.y 39 _,.y 40 _]) (ks:=[]) (kk:=[]) (env':=(V6 1 2 6 8 9 40)) (⟨nU O,O,⟨aU (lU 8 O O O O O O O),mU 1 O O,mU 9 O O,aU<|zI j O O O bU O,aU<|zL O O (mG br) O O O O O,aU<|zD hC (HD _ _ hh (hbr.get bO)) O O O O O O (F1 (m4 _)) O,Zt⟩,O,O,O⟩) O (bx':=(d7 8 6 3)) O (n':=57) O (d5 O O O O O (tV (V5 1 2 6 8 9) (d7 8 6 3) 57 O O O ?_));refine z8 3 (y3 54 55 2) (V5 1 2 6 8 9) ⟨mU 2 O O,aU fun _ _ H K=>C7 (kk) (2) (eU K 54 O) (kI 2 O) bU bU H,aU<|zA O O O,Zt⟩ ?_;refine z8 3 (y3 30 31 9) (V5 1 2 6 8 9) ⟨mU 9 O O,aU<|Q6 1 O O bU O,aU<|zA O O O,Zt⟩ ?_;exact⟨⟨(j+1,kk/2,(if kk%2=0 then d9 h br[j]! else d9 br[j]! h)),⟨⟨by omega,by show kk/2<=m;omega⟩,by(try dsimp only);split<;>exact W9 _ _,by rw[<- heq,N9 d9 h br j kk (by omega)];(try dsimp only);first|(rw[if_pos hc34,if_pos hc34])|(rw[if_neg hc34,if_neg hc34,if_neg (ne_of_beq_false (RK hc46))])⟩⟩,(by(try dsimp only);first|rw[if_pos hc34]|rw[if_neg hc34]),(by simp only[];omega)⟩
     ·refine W.seq ?_;refine W.dr (m:=6) (an:=[0,0,0,6,14,31]) hP dU O (its:=[.y 41 _,.y 42 _,.y 43 _,.y 44 _,.y 45 _,.y 46 _]) (ks:=[]) (kk:=[]) (env':=(V6 1 2 6 8 9 46)) (⟨nU O,O,⟨aU (lU 8 O O O O O O O),mU 1 O O,mU 9 O O,aU<|zI j O O O bU O,aU<|zL O O (mG br) O O O O O,aU fun _ _ H K=>RB (eU K 41 O) (eU K 45 O) H,Zt⟩,O,O,O⟩) O (bx':=(d7 8 6 3)) O (n':=57) O (tV (V6 1 2 6 8 9 46) (d7 8 6 3) 57 O O O ?_);refine W.cond O (fun hc46=>?_) (fun hc46=>?_)
      ·refine z5 3 (y1 47) [] [] (V2 6 47) ⟨aU fun _ _ H _=>R.bldAZ O H,Zt⟩ O O (d5 O O O O O ⟨O,_,j4 (kI 15 O) O (nU O),tV (V2 6 7) (d7 8 6 3) 57 O O O ?_⟩);refine W.ret ?_;exact Ends.many (.inr O) (.cons O O O (iL 23 32) (.cons O O O Zt .nil)) (by have e:=N9 d9 h br j kk bO;rw[if_neg hc34,if_pos (eq_of_beq (RK hc46))] at e;rw[hfs,<- heq,e];rfl) (show[(6,false),(7,true)].Nodup by decide)
      ·refine W.dr (m:=6) (an:=[0,0,3,7,0,31,63]) hP dU O (its:=[.y 48 _,.y 49 _,.y 50 _,.y 51 _,.y 52 _,.y 53 _]) (ks:=[]) (kk:=[]) (env':=(V6 1 2 6 8 9 53)) (⟨nU O,O,⟨mU 1 O O,mU 9 O O,aU<|zI j O O O bU O,aU<|zL O O (mG br) O O O O O,aU (lU 8 O O O O O O O),aU<|zD hC (HD _ _ (hbr.get bO) hh) O O O O O O (F1 (m4 _)) O,Zt⟩,O,O,O⟩) O (bx':=(d7 8 6 3)) O (n':=57) O (d5 O O O O O (tV (V5 1 2 6 8 9) (d7 8 6 3) 57 O O O ?_));refine z8 3 (y3 54 55 2) (V5 1 2 6 8 9) ⟨mU 2 O O,aU fun _ _ H K=>C7 (kk) (2) (eU K 54 O) (kI 2 O) bU bU H,aU<|zA O O O,Zt⟩ ?_;refine z8 3 (y3 30 31 9) (V5 1 2 6 8 9) ⟨mU 9 O O,aU<|Q6 1 O O bU O,aU<|zA O O O,Zt⟩ ?_;exact⟨⟨(j+1,kk/2,(if kk%2=0 then d9 h br[j]! else d9 br[j]! h)),⟨⟨by omega,by show kk/2<=m;omega⟩,by(try dsimp only);split<;>exact W9 _ _,by rw[<- heq,N9 d9 h br j kk (by omega)];(try dsimp only);first|(rw[if_pos hc34,if_pos hc34])|(rw[if_neg hc34,if_neg hc34,if_neg (ne_of_beq_false (RK hc46))])⟩⟩,(by(try dsimp only);first|rw[if_pos hc34]|rw[if_neg hc34]),(by simp only[];omega)⟩
    ·obtain rfl:j=br.length:=by omega
     refine W.exit (z5 3 (y1 56) [] [] (V2 6 56) ⟨aU (lU 8 O O O O O O O),Zt⟩ O O (d5 O O O O O ⟨O,_,j4 (kI 0 O) O (nU O),tV (V2 6 7) (d7 8 6 3) 57 O O O ?_⟩));refine W.ret ?_;exact Ends.many (.inr O) (.cons O O O (iL 23 32) (.cons O O O Zt .nil)) (by have e:=PH d9 h br br.length kk (Nat.le_refl _);rw[hfs,<- heq,e];rfl) (show[(6,false),(7,true)].Nodup by decide)
end Go.Sx

namespace Go.Sx
open Go.Proofs
theorem x22(b:List UInt8)(hb0:b.length<=100000):FnB Tryz.prog gl 44 [.ptr 0 0 [],.ptr 1 0 []] [(0,.var (.sl none 1 (b.map D.u8))),(1,.var (D1 zeroT))] (.int (((Q3 b).2:Nat):Int)) [(0,.var (.sl none 1 (b.map D.u8))),(1,.var (D1 (Q3 b).1))] []:=by
 refine FnB.of (n:=9) (ids:=[0,1]) Tryz.func44 rfl rfl rfl (Nat.le_of_ble_eq_true rfl) fun C hC hD=>?_;refine W.seq ?_;refine D4 (n:=1) (by decide) (its:=[⟨2,_,true⟩]) (ks:=[]) (kk:=[]) (live:=[0,1]) (env':=[(0,_),(1,_)])
  (⟨Nat.le_of_ble_eq_true rfl,rfl,
   ⟨⟨rfl,rfl,fun _ τ hb ht hτ=>j4 (show ev _ _ (.const (.int .i64 0))=some (.int ((0:Nat):Int)) from rfl) rfl ht⟩,
   trivial⟩,rfl,rfl,rfl⟩)
  rfl (bx':=[(0,.var _),(1,.var _)]) rfl (n':=9) rfl (⟨[0,1],[(0,_),(1,_)],[(0,.var _),(1,.var _)],9,rfl,rfl,rfl, ?_⟩)
 refine W.seq ?_;refine D4 (n:=7) (by decide) (its:=[⟨4,_,true⟩,⟨5,_,true⟩,⟨3,_,true⟩,⟨6,_,true⟩,⟨7,_,true⟩]) (ks:=[]) (kk:=[]) (live:=[1,6,7]) (env':=[(1,_),(6,_),(7,_)])
  (⟨Nat.le_of_ble_eq_true rfl,rfl,
   ⟨⟨rfl,rfl,fun _ τ hb ht hτ=>R.ldP (hτ 0 _ rfl) (hb 0 _ rfl) rfl rfl rfl rfl ht⟩,
   ⟨⟨rfl,rfl,fun _ τ hb ht hτ=>Y5 hC (x55 b hb0) (EvP.cons (evt (hτ 4 _ rfl)) rfl rfl EvP.nil) ht⟩,
   ⟨⟨rfl,rfl,fun _ τ hb ht hτ=>R.movT (hτ 5 _ rfl) rfl ht⟩,
   ⟨⟨rfl,rfl,fun _ τ hb ht hτ=>R.ext (hτ 3 _ rfl) rfl rfl ht⟩,
   ⟨⟨rfl,rfl,fun _ τ hb ht hτ=>R.ext (hτ 3 _ rfl) rfl rfl ht⟩,
   trivial⟩⟩⟩⟩⟩,rfl,rfl,rfl⟩)
  rfl (bx':=[(0,.var _),(1,.var _)]) rfl (n':=9) rfl (⟨rfl,_,Z7 (show Sg.get _ 1=some _ from rfl) (show Sg.box _ 1=some _ from rfl) rfl (evt (show Sg.get _ 6=some _ from rfl)) (by rfl) (by rfl) (by rfl) (by rfl) rfl,⟨rfl,_,j4 (evt (show Sg.get _ 7=some _ from rfl)) rfl (Nat.le_of_ble_eq_true rfl),⟨[2],[(2,_)],[(0,.var _),(1,.var _)],9,rfl,rfl,rfl, ?_⟩⟩⟩)
 refine W.seq ?_;refine D4 (n:=2) (by decide) (its:=[⟨8,_,true⟩,⟨2,_,true⟩]) (ks:=[]) (kk:=[]) (live:=[2]) (env':=[(2,_)])
  (⟨Nat.le_of_ble_eq_true rfl,rfl,
   ⟨⟨rfl,rfl,fun _ τ hb ht hτ=>R.mov (evt (hτ 2 _ rfl)) rfl ht⟩,
   ⟨⟨rfl,rfl,fun _ τ hb ht hτ=>j4 (evt (hτ 8 _ rfl)) rfl ht⟩,
   trivial⟩⟩,rfl,rfl,rfl⟩)
  rfl (bx':=[(0,.var _),(1,.var _)]) rfl (n':=9) rfl (⟨[2],[(2,_)],[(0,.var _),(1,.var _)],9,rfl,rfl,rfl, ?_⟩)
 refine W.ret ?_;exact u0 (.inr rfl) rfl (rfl) rfl trivial rfl rfl (rfl) ⟨rfl,⟨rfl,trivial⟩⟩ rfl
end Go.Sx

namespace Go.Sx
open Go.Proofs
theorem x21(t:TxS)(hwf:t.wf):FnB Tryz.prog gl 46 [.ptr 0 0 []] [(0,.var (D1 t))] (.int (Y1 Y8 (Z1 t)).2) [(0,.var (D1 t))] []:=by
 refine FnB.of (n:=11) (ids:=[0]) Tryz.func46 rfl rfl rfl (Nat.le_of_ble_eq_true rfl) fun C hC hD=>?_;refine W.seq ?_;refine D4 (n:=1) (by decide) (its:=[⟨1,_,true⟩]) (ks:=[]) (kk:=[]) (live:=[0]) (env':=[(0,_)])
  (⟨Nat.le_of_ble_eq_true rfl,rfl,
   ⟨⟨rfl,rfl,fun _ τ hb ht hτ=>j4 (show ev _ _ (.const (.int .i64 0))=some (.int ((0:Nat):Int)) from rfl) rfl ht⟩,
   trivial⟩,rfl,rfl,rfl⟩)
  rfl (bx':=[(0,.var _)]) rfl (n':=11) rfl (⟨[0],[(0,_)],[(0,.var _)],11,rfl,rfl,rfl, ?_⟩)
 refine W.seq ?_;refine D4 (n:=9) (by decide) (its:=[⟨5,_,true⟩,⟨6,_,true⟩,⟨7,_,true⟩,⟨4,_,true⟩,⟨8,_,true⟩,⟨9,_,true⟩]) (ks:=[]) (kk:=[]) (live:=[8,9]) (env':=[(8,_),(9,_)])
  (⟨Nat.le_of_ble_eq_true rfl,rfl,
   ⟨⟨rfl,rfl,fun _ τ hb ht hτ=>R.ldP (hτ 0 _ rfl) (hb 0 _ rfl) rfl rfl rfl rfl ht⟩,
   ⟨⟨rfl,rfl,fun _ τ hb ht hτ=>w6 hC (NS t hwf) (Bors.cons (Bor.pur (evt (hτ 5 _ rfl)) rfl rfl) Bors.nil) (FrsR.one (.sl _ _ _ (j6 fun _=>.u8 _))) ht⟩,
   ⟨⟨rfl,rfl,fun _ τ hb ht hτ=>w6 hC (j04 (Z1 t) hwf.bareL) (Bors.cons (Bor.sc (SC.sl (hτ 6 _ rfl)) (j2 (fun _=>rfl))) Bors.nil) (FrsR.two (J0 _) (.int _)) ht⟩,
   ⟨⟨rfl,rfl,fun _ τ hb ht hτ=>R.movT (hτ 7 _ rfl) rfl ht⟩,
   ⟨⟨rfl,rfl,fun _ τ hb ht hτ=>R.ext (hτ 4 _ rfl) rfl rfl ht⟩,
   ⟨⟨rfl,rfl,fun _ τ hb ht hτ=>R.ext (hτ 4 _ rfl) rfl rfl ht⟩,
   trivial⟩⟩⟩⟩⟩⟩,rfl,rfl,rfl⟩)
  rfl (bx':=[(0,.var _)]) rfl (n':=11) rfl (⟨rfl,_,R.alloc rfl (Nat.le_of_ble_eq_true rfl),⟨rfl,_,Z7 (show Sg.get _ 2=some _ from rfl) (show Sg.box _ 2=some _ from rfl) rfl (evt (show Sg.get _ 8=some _ from rfl)) (by rfl) (by rfl) (by rfl) (by rfl) rfl,⟨rfl,_,j4 (evt (show Sg.get _ 9=some _ from rfl)) rfl (Nat.le_of_ble_eq_true rfl),⟨[3],[(3,_)],[(2,.var _),(0,.var _)],11,rfl,rfl,rfl, ?_⟩⟩⟩⟩)
 refine W.seq ?_;refine D4 (n:=2) (by decide) (its:=[⟨10,_,true⟩,⟨1,_,true⟩]) (ks:=[]) (kk:=[]) (live:=[1]) (env':=[(1,_)])
  (⟨Nat.le_of_ble_eq_true rfl,rfl,
   ⟨⟨rfl,rfl,fun _ τ hb ht hτ=>R.mov (evt (hτ 3 _ rfl)) rfl ht⟩,
   ⟨⟨rfl,rfl,fun _ τ hb ht hτ=>j4 (evt (hτ 10 _ rfl)) rfl ht⟩,
   trivial⟩⟩,rfl,rfl,rfl⟩)
  rfl (bx':=[(2,.var _),(0,.var _)]) rfl (n':=11) rfl (⟨[1],[(1,_)],[(2,.var _),(0,.var _)],11,rfl,rfl,rfl, ?_⟩)
 refine W.ret ?_;exact u0 (.inr rfl) rfl (rfl) rfl trivial rfl rfl (rfl) ⟨rfl,trivial⟩ rfl
end Go.Sx
