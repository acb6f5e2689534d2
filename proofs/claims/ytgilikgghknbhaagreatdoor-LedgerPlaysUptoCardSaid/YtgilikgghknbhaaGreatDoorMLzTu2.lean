/- Own texts. -/
import Derived.Test.YtgilikgghknbhaaGreatDoorMSxAl
import Derived.Test.YtgilikgghknbhaaGreatDoorMSxDrawE
import Derived.Test.YtgilikgghknbhaaGreatDoorMLzRl2
import Derived.Test.YtgilikgghknbhaaGreatDoorMLdTxDefs
import Derived.Test.YtgilikgghknbhaaGreatDoorMSxVal4
import Derived.OpenShut
import Derived.Carry
import Derived.Deep.Slices
import Derived.Deep.DeepHandedRow
import Derived.Lib.LaidTab
set_option linter.unusedVariables false
set_option linter.unusedSimpArgs false
set_option linter.unnecessarySimpa false

namespace Go.Sx
variable{base:Nat}
section
open Go.Proofs
set_option maxHeartbeats 4000000 in
theorem j01(l:List BlkS)(x:TnS)(hl:smBl l)(h1:1<=l.length)(hf:w72 l):Fn Tryz.prog gl 15 [.sl none 69 (l.map J7),g02 x] (.sl none 69 ((FU l x).map J7)):=by
 refine Fo 222 Tryz.func15 O λC hC hD=>?_;have hl0:=hl.1;have hbg:=λ(i:Nat) (h:i<l.length)=>(hl.get h).len;refine n5 2 [] (V2 0 1) Zt O (⟨O,_,R.box (gV 1 O) O O nU,⟨O,_,J9 (kN O) O nU,tW (V2 0 3) (B2 3) 222 O ?_⟩⟩);refine u4 1 (y1 5) (V3 0 3 5) ⟨i6 O,Zt⟩ ?_;refine W.seq (u4 1 (y1 6) (V4 0 3 5 6) ⟨O3 0 O,Zt⟩ ?_);refine W.block ?_;refine O6 (s:=5) 78 69 O ?_;refine P2 l.length (λi=>⟨222,[(0,.sl none 69 (l.map J7)),(3,.ptr 3 0 []),(5,.sl (some 78) 69 ((l.take i).map YQ)),(6,.int ((i:Nat):Int))],[(3,.var (g02 x))]⟩) O λi hi=>?_;have hbi:=hbg i;refine W.seq (u4 4 (y4 13 14 15 16) (V5 0 3 5 6 16) ⟨zV O,zV O,P8 O,zS O,Zt⟩ ?_);refine g7 O (λhc16=>?_) (λhc16=>?_)
 ·refine W.skip (W.seq (W.block (W.seq ?_)));refine BV 8 [.y 19 _,.y 20 _,.y 21 _,.y 22 _,.y 23 _,.y 24 _] [] [] [(0,_),(3,_),(5,_),(6,_),(24,_)] [(3,.var _)] 222 ⟨xM O,xM O,aU λ_ _ H K=>R.idxN (i) (SC.sl (K 19 _ O)) (C4 (eU K 20 O)) O bU H dU,aU λ_ _ H K=>R.fdE (K 21 _ O) H dU,aU λ_ _ H K=>R.ldE (K 22 _ O) (SC.sl (K 19 _ O)) (b8 (l:=l) bU) O O O O H,aU λ_ _ H K=>P5 (l:=[.agg [.u32 0,.arr 32 1 ((List.replicate 32 0).map D.u8),.arr 32 1 ((List.replicate 32 0).map D.u8),.u32 0,.u32 0,.u32 0],.nils]) (l':=[_,_]) (.cons (eU K 23 O) (.nil O)) ⟨⟨_,(eU K 23 O),O,O,O⟩,Zt⟩ H,Zt⟩ O O O O (⟨O,_,R.alloc O nU,⟨O,_,ZV (gU 7 O) (xU 7 O) O (gV 24 O) (by rfl) (by rfl) (by rfl) (by rfl) O,tW [(0,_),(3,_),(5,_),(6,_),(7,_)] [(7,.var _),(3,.var _)] 222 O ?_⟩⟩);refine W.seq (W.seq ?_);refine LT 7 [1] 31 4 (bx':=(B7 7 3)) O O O O O ?_;refine n4 1 (y1 8) (V6 0 3 5 6 7 8) ⟨O3 0 O,Zt⟩ ?_;refine W.block ?_;refine P2 (l[i]!.txs.length) (λk=>⟨222,[(0,.sl none 69 (l.map J7)),(3,.ptr 3 0 []),(5,.sl (some 78) 69 ((l.take i).map YQ)),(6,.int ((i:Nat):Int)),(7,.ptr 7 0 []),(8,.int ((k:Nat):Int))],[(7,.var (.agg [M5 l[i]!.hd,.sl (some 31) 4 ((l[i]!.txs.take k).map DC)])),(3,.var (g02 x))]⟩) O λk hk=>?_;have hbi2:=λ(h:k<l[i]!.txs.length)=>(hl.get (show i<l.length by omega)).txs _ (X0 h);have hbi:=hbi (by omega);refine W.seq (u4 8 (y8 25 26 27 28 29 30 31 32) (V7 0 3 5 6 7 8 32) ⟨zV O,zV O,zV O,zI i O,r7 O,zL O (mG l),P8 O,zS O,Zt⟩ ?_);refine g7 O (λhc32=>?_) (λhc32=>?_)
  ·refine W.skip (W.seq (W.block (n5 10 (y8 35 36 37 38 39 40 41 42) (V7 0 3 5 6 7 8 42) ⟨zV O,zV O,zI i O,r7 O,zL O (mG l),zV O,zI k O,zL O (b8 (l:=l[i]!.txs) bU),Zt⟩ O (I9 O (M9 O (tW (V7 0 3 5 6 7 8 9) (i5 9 7 3) 222 O ?_))))));refine P4 6 (y5 43 44 45 46 47) [(3,43)] [(3,43)] (V9 0 3 5 6 7 8 9 46 47) ⟨aU λ_ _ H _=>J3 .nil Zt O H dU,aU (xF O),aU (xL O),aU λ_ _ H K=>R0 (Or.inl O) (K 43 _ O) (SrcO.sc (SC.sl (K 45 _ O)) (P3 (λ_=>rfl))) (D9 _) (by have:=(hbi2 bO).ins;have:=(hbi2 bO).outs;simp only[z6,j3];omega) H dU dU,aU (xF O),Zt⟩ O (⟨O,_,e9 (gU 47 O) (xU 9 O) O (gU 46 O) O O (by rfl) (by rfl) O O,tW (V7 0 3 5 6 7 8 9) (i5 9 7 3) 222 O ?_⟩);refine P4 6 (y5 48 49 50 51 52) [(3,48)] [(3,48)] (V9 0 3 5 6 7 8 9 51 52) ⟨aU λ_ _ H _=>J3 .nil Zt O H dU,aU (xF O),aU (xL O),aU λ_ _ H K=>R0 (Or.inl O) (K 48 _ O) (SrcO.sc (SC.sl (K 50 _ O)) (P3 (λ_=>rfl))) (D9 _) (by have:=(hbi2 bO).ins;have:=(hbi2 bO).outs;simp only[z6,j3];omega) H dU dU,aU (xF O),Zt⟩ O (⟨O,_,e9 (gU 52 O) (xU 9 O) O (gU 51 O) O O (by rfl) (by rfl) O O,tW (V7 0 3 5 6 7 8 9) (i5 9 7 3) 222 O ?_⟩);refine L8 7 (y2 53 54) (V8 0 3 5 6 7 8 9 54) ⟨xF O,λ_ B H K=>R.ldO (K 53 _ O) (B 7 _ O) O H,Zt⟩ O (⟨O,_,R.ldTake (gU 9 O) (xU 9 O) O O O nU,⟨O,_,R.bslO (z:=4) (.own (gU 55 O) O O O O .nil) O O nU dU,⟨O,_,NQ (gU 54 O) (xU 7 O) O O O O (gU 54 O) (gU 56 O) O (show _=((l[i]!.txs.take (k+1)).map DC) from(PU bO)) (by simp only[z6,v8,j2,j3];omega) nU dU dU,⟨O,_,R.fdP (gU 7 O) nU,⟨O,_,e9 (gU 58 O) (xU 7 O) O (gU 57 O) O O (by rfl) (by rfl) O O,tW (V6 0 3 5 6 7 8) (i5 9 7 3) 222 O ?_⟩⟩⟩⟩⟩);refine H6 [3,7] (bx':=(B7 7 3)) O O O (o8 hD O) ?_;refine n4 3 (y3 33 34 8) (V6 0 3 5 6 7 8) ⟨zV O,P1 1 O,zA O,Zt⟩ ?_;exact⟨bU,rfl⟩
  ·obtain rfl:k=l[i]!.txs.length:=by omega
   rw[X4];refine W.exit ?_;refine L8 5 (y1 59) (V6 0 3 5 6 7 59) ⟨zM O,Zt⟩ O (⟨O,_,R.ldTake (gU 7 O) (xU 7 O) O O O nU,⟨O,_,R.bslO (z:=69) (.own (gU 60 O) O O O O .nil) O O nU dU,⟨O,_,R.appO2 (Or.inr (gU 59 O)) (gU 5 O) (gU 61 O) O (show _=((l.take (i+1)).map YQ) from(PU bO)) (by simp only[z6,v8,j2,j3];omega) nU O dU,⟨O,_,R.asgO (gU 62 O) O nU dU,tW (V4 0 3 5 6) (B7 7 3) 222 O ?_⟩⟩⟩⟩);refine H6 [3] (bx':=(B2 3)) O O O (o8 hD O) ?_;refine n4 3 (y3 17 18 6) (V4 0 3 5 6) ⟨zV O,P1 1 O,zA O,Zt⟩ ?_;exact⟨bU,rfl⟩
 ·obtain rfl:i=l.length:=by omega
  rw[X4];refine W.exit (u4 7 (y7 63 64 65 66 67 68 10) (V3 3 5 10) ⟨xF O,xL O,zW O,zM O,u47 O (lN _),λ_ _ H K=>KH (x.block.toNat) (l.length) (eU K 65 O) (eU K 67 O) bU H,zA O,Zt⟩ ?_);refine W.seq ?_
  obtain⟨n,hnx⟩:∃ n,n=x.block.toNat%l.length:=⟨_,rfl⟩
  rw[<- hnx]
  have hn:n<l.length:=by rw[hnx];exact G8 _ (by omega)
  have hne:l.map YQ≠[]:=λh=>by have h2:=g6 List.length h;rw[z6,j3] at h2;omega
  refine v57 5 1 O hne O (λ_=>rfl) λcap q hcap _ _=>?_;rw[show(l.map YQ).length=l.length from z6 _,FZ YQ hn q];have hA1:((l.take n).map YQ).length=n:=SD hn;have hA2:∀ x∈(l.take n).map YQ,x.sz=69:=KY (λ_=>rfl);have hbs:=hl.get hn;have hfu:=hf _ (X0 hn);have hwl:=hbs.len;refine n4 4 (y4 69 70 71 11) (V4 3 5 10 11) ⟨zV O,zV O,λ_ _ H K=>R.idxBs (n) (K 69 _ O) (C4 (eU K 70 O)) O bU H,zA O,Zt⟩ ?_;refine W.seq (u4 6 (y6 72 73 74 75 76 77) (V5 3 5 10 11 77) ⟨zV O,DY O,xF O,λ_ B H K=>R.ldO (K 74 _ O) (B 1 _ O) (D6 hA1 hA2 (Z9 (m:=68) O O Q2 O) bU) H,λ_ B H K=>QA (SC.alb (K 75 _ O) (B 1 _ O) (D6 hA1 hA2 (Z9 (m:=68) O O Q2 O) bU)) (lN _) H,GZ 0 O,Zt⟩ ?_);refine g7 O (λhc77=>?_) (λhc77=>?_)
  ·refine W.seq ?_;refine KA 1 (d':=.agg (l.map J7++List.replicate q D.dead)) (bx':=(B7 1 3)) O (by rw[<- FZ YQ hn q];exact Fz.blk YS l q) O ?_;refine E9 (V1 5) (B7 1 3) 222 O ?_;refine q33 5 1 [] (l:=l.map J7) (bx':=[]) (env':=(V1 5)) O O (lN _) (XM λ_=>rfl) (XM λ_=>rfl) (KY λ_=>rfl) O O O O O (o8 hD O) ?_;refine n4 2 (y2 78 4) (V1 4) ⟨zV O,zA O,Zt⟩ ?_;exact W.ret (En O (by rw[y03 hnx hc77]<;>rfl))
  ·refine W.skip ?_;refine k91 2 (λs__=>∃ q__:{q__:Unit//True},s__=⟨222,[(3,.ptr 3 0 []),(5,.bs 1 69 l.length cap),(10,.int ((n:Nat):Int))],[(1,.var (.agg ((l.set n (AX l[n]! x)).map J7++List.replicate q .dead))),(3,.var (g02 x))]⟩) ?_ ?_
   ·rintro s__ ⟨⟨_,_⟩,rfl⟩;have htl:smBl (l.set n (AX l[n]! x)):=hl.set _ (k22 hbs hfu.2 hfu.1 hc77 x);refine W.seq (u4 2 (y2 216 217) (V3 5 10 217) ⟨xF O,xL O,Zt⟩ ?_);refine W.cond O (λhc217=>?_) (λhc217=>?_)
    ·refine L8 3 (y2 218 219) (V3 5 218 219) ⟨zV O,zV O,Zt⟩ O (⟨O,_,R.callB [(0,1)] hC (j30 (l.set n (AX l[n]! x)) n q cap l.length htl (by rw[Q9];exact hn) (by rw[Q9])) (EvB.cons (gV 218 O) O O O (EvB.cons (gV 219 O) O O O EvB.nil)) (x42 _ _ _ _) ⟨O,Zt⟩ ⟨k43 q92,Zt⟩ (x42 _ _ _ _) O O O O O nU,tW (V1 5) (B7 1 3) 222 O ?_⟩);refine W.seq ?_;refine E9 (V1 5) (B7 1 3) 222 O ?_;refine q33 5 1 [] (l:=(IC (l.set n (AX l[n]! x)) n).map J7) (bx':=[]) (env':=(V1 5)) O O (by rw[z6,IC,NA,Q9]) (XM λ_=>rfl) (XM λ_=>rfl) (KY λ_=>rfl) O O O O O (o8 hD O) ?_;refine n4 2 (y2 221 4) (V1 4) ⟨zV O,zA O,Zt⟩ ?_;exact W.ret (En O (by rw[y02 hnx hc77 hc217]<;>rfl))
    ·refine W.skip (W.seq ?_);refine E9 (V1 5) (B7 1 3) 222 O ?_;refine q33 5 1 [] (l:=(l.set n (AX l[n]! x)).map J7) (bx':=[]) (env':=(V1 5)) O O (by rw[z6,Q9]) (XM λ_=>rfl) (XM λ_=>rfl) (KY λ_=>rfl) O O O O O (o8 hD O) ?_;refine n4 2 (y2 221 4) (V1 4) ⟨zV O,zA O,Zt⟩ ?_;exact W.ret (En O (by rw[y01 hnx hc77 hc217]<;>rfl))
   ·intro htail;refine W.seq ?_;by_cases h3:x.what%9=3
    ·obtain⟨k,hkx⟩:∃ k,k=x.tx.toNat%l[n]!.txs.length:=⟨_,rfl⟩
     have hk:k<l[n]!.txs.length:=by rw[hkx];exact G8 _ (by omega)
     refine KA 1 (d':=wz ((l.take n).map YQ) (.agg [M5 l[n]!.hd,.sl (some 31) 4 (l[n]!.txs.map r8)]) ((l.drop (n+1)).map YQ) q) (bx':=(B7 1 3)) O (Fz.wz (FzL.refl _) (v23 _) (FzL.refl _) q) O ?_;refine R5 15 [0,1,3,7,0,16,48,0,128,384,896,1920,4080,8191,16383] hP dU (g08 79 80 81 82 83 84 85 86 87 88 89 90 91 92 12) (V6 3 5 10 11 12 82) ⟨zV O,DY O,xF O,λ_ B H K=>R.ldO (K 81 _ O) (B 1 _ O) (D6 hA1 hA2 (Z9 (m:=68) O O Q2 O) bU) H,xF O,xL O,zW O,zV O,DY O,xF O,λ_ B H K=>R.ldO (K 88 _ O) (B 1 _ O) (D6 hA1 hA2 (Z9 (m:=68) O O Q2 O) bU) H,λ_ B H K=>QA (SC.alb (K 89 _ O) (B 1 _ O) (D6 hA1 hA2 (Z9 (m:=68) O O Q2 O) bU)) (lN _) H,λ_ _ H K=>KH (x.tx.toNat) (l[n]!.txs.length) (eU K 85 O) (eU K 90 O) bU H,λ_ B H K=>R.idxN (k) (SC.alb (K 82 _ O) (B 1 _ O) (D6 hA1 hA2 (Z9 (m:=68) O O Q2 O) bU)) (C4 (eU K 91 O)) (by rw[hkx]) bU H dU,λ_ _ H K=>R.asgE (K 92 _ O) H dU,Zt⟩ O (tW (V6 3 5 10 11 12 82) (B7 1 3) 222 O ?_);refine W.seq (u4 3 (y3 93 94 95) (V7 3 5 10 11 12 82 95) ⟨xF O,xL O,λ_ _ H K=>R.bin (eU K 94 O) (kW (.int .u8 9) (.u8 9) O) O dU H,Zt⟩ ?_);refine W.block (u4 2 (y2 97 96) (V8 3 5 10 11 12 82 95 96) ⟨ZP O (kW (.int .u8 0) (.u8 0) O),zA O,Zt⟩ ?_);refine Y7 O (by rw[h3];rfl) ?_;refine u4 2 (y2 113 112) (V8 3 5 10 11 12 82 95 112) ⟨ZP O (kW (.int .u8 1) (.u8 1) O),zA O,Zt⟩ ?_;refine Y7 O (by rw[h3];rfl) ?_;refine u4 2 (y2 134 133) (V8 3 5 10 11 12 82 95 133) ⟨ZP O (kW (.int .u8 2) (.u8 2) O),zA O,Zt⟩ ?_;refine Y7 O (by rw[h3];rfl) ?_;refine u4 2 (y2 157 156) (V8 3 5 10 11 12 82 95 156) ⟨ZP O (kW (.int .u8 3) (.u8 3) O),zA O,Zt⟩ ?_;refine G6 O (by rw[h3];rfl) ?_;refine v61 (m:=10) (an:=[0,0,2,6,14,0,32,96,224,510,1023,2047,4095]) (its:=[.y 158 _,.y 159 _,.y 160 _,.y 161 _,.y 162 _,.y 163 _,.y 164 _,.y 165 _,.y 166 _,.y 167 _]) (ks:=[(9,162),(9,82)]) (kk:=[(9,162),(9,82)]) (live:=[3,5,10,158,167]) (env':=[(3,_),(5,_),(10,_),(158,_),(167,_)]) (bx1:=[(1,.var _),(3,.var _)]) [(3,_)] 9 [1] hP dU O ⟨nU O,O,O,O⟩ ⟨O,Zt⟩ (              ⟨⟨O,O,λ_ τ hb ht hτ=>R.mov (evt (hτ 11 _ O)) O ht⟩,⟨⟨O,O,λ_ τ hb ht hτ=>R.mov (evt (hτ 11 _ O)) O ht⟩,⟨⟨O,O,λ_ τ hb ht hτ=>R.nilcP (hτ 159 _ O) ht⟩,⟨⟨O,O,λ_ τ hb ht hτ=>R.fdP (hτ 160 _ O) ht⟩,⟨⟨O,O,λ_ τ hb ht hτ=>R.ldO (hτ 161 _ O) (hb 1 _ O) (D6 hA1 hA2 (Z9 (m:=68) O O Q2 O) bU) ht⟩,⟨⟨O,O,λ_ τ hb ht hτ=>R.movE (hτ 12 _ O) ht dU⟩,⟨⟨O,O,λ_ τ hb ht hτ=>R.nilcE (hτ 163 _ O) ht dU⟩,⟨⟨O,O,λ_ τ hb ht hτ=>R.ldE (hτ 164 _ O) (SC.alb (hτ 82 _ O) (hb 1 _ O) (D6 hA1 hA2 (Z9 (m:=68) O O Q2 O) bU)) (b8 (l:=l[n]!.txs) bU) O O O O ht⟩,⟨⟨O,O,λ_ τ hb ht hτ=>J3 (z:=4) (.cons (evt (hτ 165 _ O)) .nil) ⟨⟨O,O,O⟩,Zt⟩ O ht dU⟩,⟨⟨O,O,O,(u39 (s:=162) O O (D6 hA1 hA2 (Z9 (m:=68) O O Q2 O) bU) (A9 hA1 O) (R6 hA1 O) O (λτ hb hτ=>(SrcO.sc (SC.sl (hτ 166 _ O O O)) (G5 O))) (show _=((l[n]!.txs++[l[n]!.txs[k]!]).map r8) from(by rw[d8];rfl)) bU dU dU O)⟩,Zt⟩⟩⟩⟩⟩⟩⟩⟩⟩⟩) O O O nU ⟨O,Zt⟩ O (n':=222) O (⟨O,_,R.nilcP (gU 158 O) nU,⟨O,_,R.fdP (gU 168 O) nU,⟨O,_,e9 (gU 169 O) (xU 1 O) (D6 hA1 hA2 (Z9 (m:=68) O O Q2 O) bU) (gU 167 O) O O (by rfl) (by rfl) (R6 hA1 O) (A9 hA1 O),⟨[3,5,10],[(3,_),(5,_),(10,_)],[(1,.var _),(3,.var _)],222,O,O,O, ?_⟩⟩⟩⟩);refine KA 1 (d':=.agg ((l.set n ⟨l[n]!.hd,(l[n]!.txs++[l[n]!.txs[k]!])⟩).map J7++List.replicate q D.dead)) (bx':=(B7 1 3)) O (Fz.cell (y:=⟨l[n]!.hd,(l[n]!.txs++[l[n]!.txs[k]!])⟩) YS hn (.eq (u05 _ _ _)) q) O ?_;exact htail _ ⟨⟨(()),Zt⟩,(by rw[g24 h3,show tK l[n]! x=k from hkx.symm]<;>rfl)⟩
    ·obtain⟨k,hkx⟩:∃ k,k=x.tx.toNat%l[n]!.txs.length:=⟨_,rfl⟩
     have hk:k<l[n]!.txs.length:=by rw[hkx];exact G8 _ (by omega)
     have hne2:l[n]!.txs.map DC≠[]:=λh=>by have h2:=g6 List.length h;rw[z6,j3] at h2;omega
     refine q36 2 1 [n,1] O (D6 hA1 hA2 (Z9 (m:=68) O O Q2 O) O) (A9 hA1 O) (R6 hA1 O) (D6 hA1 hA2 (Z9 (m:=68) O O Q2 O) O) (A9 hA1 O) (λ_=>R6 hA1 O) hne2 O (λ_=>rfl) λcap2 q2 hcap2 _ _=>?_;rw[show(l[n]!.txs.map DC).length=l[n]!.txs.length from z6 _,FZ DC hk q2];have hT1:((l[n]!.txs.take k).map DC).length=k:=SD hk;have hT2:∀ x∈(l[n]!.txs.take k).map DC,x.sz=4:=KY (λ_=>rfl);have hft:=hfu.1 _ (X0 hk);have hrl:=hbs.hd.2;have hpl:=hbs.hd.1
     have h32:(x.at_%32).toNat<32:=by rw[UInt8.toNat_mod];exact G8 _ dU
     refine R5 15 [0,1,3,7,0,16,48,0,128,384,896,1920,4080,8191,16383] hP dU (g08 79 80 81 82 83 84 85 86 87 88 89 90 91 92 12) (V5 3 5 10 11 12) ⟨zV O,DY O,xF O,λ_ B H K=>R.ldP (K 81 _ O) (B 1 _ O) (D6 hA1 hA2 (Z9 (m:=68) O O Q2 O) bU) O O O H,xF O,xL O,zW O,zV O,DY O,xF O,λ_ B H K=>R.ldP (K 88 _ O) (B 1 _ O) (D6 hA1 hA2 (Z9 (m:=68) O O Q2 O) bU) O O O H,λ_ _ H K=>R.lenBs (K 89 _ O) H,λ_ _ H K=>KH (x.tx.toNat) (l[n]!.txs.length) (eU K 85 O) (eU K 90 O) bU H,λ_ _ H K=>R.idxBs (k) (K 82 _ O) (C4 (eU K 91 O)) (by rw[hkx]) bU H,zA O,Zt⟩ O (tW (V5 3 5 10 11 12) (i5 2 1 3) 222 O ?_);refine W.seq (u4 3 (y3 93 94 95) (V6 3 5 10 11 12 95) ⟨xF O,xL O,λ_ _ H K=>R.bin (eU K 94 O) (kW (.int .u8 9) (.u8 9) O) O dU H,Zt⟩ ?_);refine W.block (u4 2 (y2 97 96) (V7 3 5 10 11 12 95 96) ⟨ZP O (kW (.int .u8 0) (.u8 0) O),zA O,Zt⟩ ?_);refine W.cond O (λhc96=>?_) (λhc96=>?_)
     ·refine KA 2 (d':=.agg (l[n]!.txs.map r8++List.replicate q2 D.dead)) (bx':=(i5 2 1 3)) O (by rw[<- FZ DC hk q2];exact Fz.blk BG _ q2) O ?_;refine E9 (V4 3 5 10 11) (i5 2 1 3) 222 O ?_;refine XK 2 1 [n,1] [1,3] (l:=l[n]!.txs.map r8) (bx':=(B7 1 3)) O O dU (D6 hA1 hA2 (Z9 (m:=68) O O Q2 O) O) (A9 hA1 O) (R6 hA1 O) (lN _) (XM λ_=>rfl) (XM λ_=>rfl) (KY λ_=>rfl) O O (B1 (XF (AW λ_=>rfl) O (AW λ_=>rfl)) (B1 O O)) O (o8 hD O) ?_;refine R5 14 [0,0,2,6,14,0,32,96,224,480,992,2046,4095,8191,16383] hP dU (z53 98 99 100 101 102 103 104 105 106 107 108 109 110 111) (V5 3 5 10 109 111) ⟨zV O,zV O,DY O,xF O,λ_ B H K=>R.ldP (K 101 _ O) (B 1 _ O) (D6 hA1 hA2 (Z9 (m:=68) O O Q2 O) bU) O O O H,zV O,DY O,xF O,λ_ B H K=>R.ldP (K 105 _ O) (B 1 _ O) (D6 hA1 hA2 (Z9 (m:=68) O O Q2 O) bU) O O O H,P8 O,AD 1 O,λ_ _ H K=>k11 (0) ((l[n]!.txs.length-1)) ((l[n]!.txs.length-1)) (eU K 102 O) O (C4 (eU K 108 O)) O O bU bU O (by rw[J0,<- U6]) H,DY O,xF O,Zt⟩ O (⟨O,_,ZV (gU 111 O) (xU 1 O) (D6 hA1 hA2 (Z9 (m:=68) O O Q2 O) bU) (gV 109 O) (by rfl) (by rfl) (by rfl) (by rfl) (R6 hA1 O),tW (V3 3 5 10) (B7 1 3) 222 O ?_⟩);refine KA 1 (d':=.agg ((l.set n ⟨l[n]!.hd,(l[n]!.txs.take (l[n]!.txs.length-1))⟩).map J7++List.replicate q D.dead)) (bx':=(B7 1 3)) O (Fz.cell (y:=⟨l[n]!.hd,(l[n]!.txs.take (l[n]!.txs.length-1))⟩) YS hn (.refl (J7 ⟨l[n]!.hd,(l[n]!.txs.take (l[n]!.txs.length-1))⟩)) q) O ?_;exact htail _ ⟨⟨(()),Zt⟩,(by rw[g27 (by simpa using hc96)]<;>rfl)⟩
     ·refine u4 2 (y2 113 112) (V7 3 5 10 11 12 95 112) ⟨ZP O (kW (.int .u8 1) (.u8 1) O),zA O,Zt⟩ ?_;refine W.cond O (λhc112=>?_) (λhc112=>?_)
      ·have hjm:=G8 x.at_.toNat (show 0<l[n]!.txs[k]!.outs.length by omega)
       have hne3:l[n]!.txs[k]!.outs.map r9≠[]:=λh=>by have h2:=g6 List.length h;rw[z6,j3] at h2;omega
       refine q36 30 2 [k,2] O (D6 hT1 hT2 (Z9 (m:=2) O O Q2 O) O) (A9 hT1 O) (R6 hT1 O) (D6 hT1 hT2 (Z9 (m:=2) O O Q2 O) O) (A9 hT1 O) (λ_=>R6 hT1 O) hne3 O (λ_=>rfl) λcap3 q3 hcap3 _ _=>?_;rw[show(l[n]!.txs[k]!.outs.map r9).length=l[n]!.txs[k]!.outs.length from z6 _];refine R5 19 [0,1,3,7,0,16,48,0,128,384,896,1920,4080,8191,16383,32767,65535,131071,262143,524287] hP dU (g78 114 115 116 117 118 119 120 121 122 123 124 125 126 127 128 129 130 131 132) (V5 3 5 10 130 132) ⟨zV O,DY O,xF O,λ_ B H K=>R.ldP (K 116 _ O) (B 2 _ O) (D6 hT1 hT2 (Z9 (m:=2) O O Q2 O) bU) O O O H,xF O,xL O,zW O,zV O,DY O,xF O,λ_ B H K=>R.ldP (K 123 _ O) (B 2 _ O) (D6 hT1 hT2 (Z9 (m:=2) O O Q2 O) bU) O O O H,λ_ _ H K=>R.lenBs (K 124 _ O) H,λ_ _ H K=>KH (x.at_.toNat) (l[n]!.txs[k]!.outs.length) (eU K 120 O) (eU K 125 O) bU H,λ_ _ H K=>R.idxBs ((x.at_.toNat%l[n]!.txs[k]!.outs.length)) (K 117 _ O) (C4 (eU K 126 O)) O bU H,xF O,λ_ B H K=>R.ldP (K 128 _ O) (B 30 _ O) (XW (f:=r9) (z:=2) (λ_=>rfl) bU (Z9 (m:=0) O O Q2 O) bU) O O O H,ZP O (kW (.int .u64 100000) (.u64 100000) O),λ_ _ H K=>R.idxBs ((x.at_.toNat%l[n]!.txs[k]!.outs.length)) (K 117 _ O) (C4 (eU K 126 O)) O bU H,xF O,Zt⟩ O (⟨O,_,ZV (gU 132 O) (xU 30 O) (XW (f:=r9) (z:=2) (λ_=>rfl) bU (Z9 (m:=0) O O Q2 O) bU) (gV 130 O) (by rfl) (by rfl) (by rfl) (by rfl) (EE (f:=r9) (y:=(HI l[n]!.txs[k]!.outs[x.at_.toNat%l[n]!.txs[k]!.outs.length]!)) bU (u97 _)),tW (V3 3 5 10) (OA 30 2 1 3) 222 O ?_⟩);refine E9 (V3 3 5 10) (OA 30 2 1 3) 222 O ?_;refine XK 30 2 [k,2] [1,2,3] (l:=(l[n]!.txs[k]!.outs.set (x.at_.toNat%l[n]!.txs[k]!.outs.length) (HI l[n]!.txs[k]!.outs[x.at_.toNat%l[n]!.txs[k]!.outs.length]!)).map r9) (bx':=(i5 2 1 3)) O O dU (D6 hT1 hT2 (Z9 (m:=2) O O Q2 O) O) (A9 hT1 O) (R6 hT1 O) (by rw[z6,Q9]) (XM λ_=>rfl) (XM λ_=>rfl) (KY λ_=>rfl) O O (B1 (XF (AW λ_=>rfl) O (AW λ_=>rfl)) (B1 (XF (AW λ_=>rfl) O (AW λ_=>rfl)) (B1 O O))) O (o8 hD O) ?_;refine KA 2 (d':=.agg ((l[n]!.txs.set k ⟨l[n]!.txs[k]!.ver,l[n]!.txs[k]!.ins,(l[n]!.txs[k]!.outs.set (x.at_.toNat%l[n]!.txs[k]!.outs.length) (HI l[n]!.txs[k]!.outs[x.at_.toNat%l[n]!.txs[k]!.outs.length]!)),l[n]!.txs[k]!.lock⟩).map r8++List.replicate q2 D.dead)) (bx':=(i5 2 1 3)) O (Fz.cell BG hk (.eq (q24 _ _ _ _ _ _)) q2) O ?_;refine XK 2 1 [n,1] [1,3] (l:=(l[n]!.txs.set k ⟨l[n]!.txs[k]!.ver,l[n]!.txs[k]!.ins,(l[n]!.txs[k]!.outs.set (x.at_.toNat%l[n]!.txs[k]!.outs.length) (HI l[n]!.txs[k]!.outs[x.at_.toNat%l[n]!.txs[k]!.outs.length]!)),l[n]!.txs[k]!.lock⟩).map r8) (bx':=(B7 1 3)) O O dU (D6 hA1 hA2 (Z9 (m:=68) O O Q2 O) O) (A9 hA1 O) (R6 hA1 O) (by rw[z6,Q9]) (XM λ_=>rfl) (XM λ_=>rfl) (KY λ_=>rfl) O O (B1 (XF (AW λ_=>rfl) O (AW λ_=>rfl)) (B1 O O)) O (o8 hD O) ?_;refine KA 1 (d':=.agg ((l.set n ⟨l[n]!.hd,(l[n]!.txs.set k ⟨l[n]!.txs[k]!.ver,l[n]!.txs[k]!.ins,(l[n]!.txs[k]!.outs.set (x.at_.toNat%l[n]!.txs[k]!.outs.length) (HI l[n]!.txs[k]!.outs[x.at_.toNat%l[n]!.txs[k]!.outs.length]!)),l[n]!.txs[k]!.lock⟩)⟩).map J7++List.replicate q D.dead)) (bx':=(B7 1 3)) O (Fz.cell (y:=⟨l[n]!.hd,(l[n]!.txs.set k ⟨l[n]!.txs[k]!.ver,l[n]!.txs[k]!.ins,(l[n]!.txs[k]!.outs.set (x.at_.toNat%l[n]!.txs[k]!.outs.length) (HI l[n]!.txs[k]!.outs[x.at_.toNat%l[n]!.txs[k]!.outs.length]!)),l[n]!.txs[k]!.lock⟩)⟩) YS hn (.refl (J7 ⟨l[n]!.hd,(l[n]!.txs.set k ⟨l[n]!.txs[k]!.ver,l[n]!.txs[k]!.ins,(l[n]!.txs[k]!.outs.set (x.at_.toNat%l[n]!.txs[k]!.outs.length) (HI l[n]!.txs[k]!.outs[x.at_.toNat%l[n]!.txs[k]!.outs.length]!)),l[n]!.txs[k]!.lock⟩)⟩)) q) O ?_;exact htail _ ⟨⟨(()),Zt⟩,(by rw[g26 (by simpa using hc112),show tK l[n]! x=k from hkx.symm]<;>rfl)⟩
      ·refine u4 2 (y2 134 133) (V7 3 5 10 11 12 95 133) ⟨ZP O (kW (.int .u8 2) (.u8 2) O),zA O,Zt⟩ ?_;refine W.cond O (λhc133=>?_) (λhc133=>?_)
       ·have hjm:=G8 x.at_.toNat (show 0<l[n]!.txs[k]!.ins.length by omega)
        have hne3:l[n]!.txs[k]!.ins.map YL≠[]:=λh=>by have h2:=g6 List.length h;rw[z6,j3] at h2;omega
        refine q36 30 2 [k,1] O (D6 hT1 hT2 (Z9 (m:=1) O O Q2 O) O) (A9 hT1 O) (R6 hT1 O) (D6 hT1 hT2 (Z9 (m:=1) O O Q2 O) O) (A9 hT1 O) (λ_=>R6 hT1 O) hne3 O (λ_=>rfl) λcap3 q3 hcap3 _ _=>?_;rw[show(l[n]!.txs[k]!.ins.map YL).length=l[n]!.txs[k]!.ins.length from z6 _];refine R5 21 [0,1,3,7,0,16,48,0,128,384,896,1920,4080,8191,16383,32767,65535,131071,262143,524287,1048575,2097151] hP dU [.y 135 _,.y 136 _,.y 137 _,.y 138 _,.y 139 _,.y 140 _,.y 141 _,.y 142 _,.y 143 _,.y 144 _,.y 145 _,.y 146 _,.y 147 _,.y 148 _,.y 149 _,.y 150 _,.y 151 _,.y 152 _,.y 153 _,.y 154 _,.y 155 _] (V5 3 5 10 152 155) ⟨zV O,DY O,xF O,λ_ B H K=>R.ldP (K 137 _ O) (B 2 _ O) (D6 hT1 hT2 (Z9 (m:=1) O O Q2 O) bU) O O O H,xF O,xL O,zW O,zV O,DY O,xF O,λ_ B H K=>R.ldP (K 144 _ O) (B 2 _ O) (D6 hT1 hT2 (Z9 (m:=1) O O Q2 O) bU) O O O H,λ_ _ H K=>R.lenBs (K 145 _ O) H,λ_ _ H K=>KH (x.at_.toNat) (l[n]!.txs[k]!.ins.length) (eU K 141 O) (eU K 146 O) bU H,λ_ _ H K=>R.idxBs ((x.at_.toNat%l[n]!.txs[k]!.ins.length)) (K 138 _ O) (C4 (eU K 147 O)) O bU H,xF O,xF O,λ_ B H K=>R.ldP (K 150 _ O) (B 30 _ O) (XW (f:=YL) (z:=36) (λ_=>rfl) bU (Z9 (m:=0) O O (Z9 (m:=32) O O Q2 O) O) bU) O O O H,ZP O (kW (.int .u32 1) (.u32 1) O),λ_ _ H K=>R.idxBs ((x.at_.toNat%l[n]!.txs[k]!.ins.length)) (K 138 _ O) (C4 (eU K 147 O)) O bU H,xF O,xF O,Zt⟩ O (⟨O,_,ZV (gU 155 O) (xU 30 O) (XW (f:=YL) (z:=36) (λ_=>rfl) bU (Z9 (m:=0) O O (Z9 (m:=32) O O Q2 O) O) bU) (gV 152 O) (by rfl) (by rfl) (by rfl) (by rfl) (EE (f:=YL) (y:=(RT l[n]!.txs[k]!.ins[x.at_.toNat%l[n]!.txs[k]!.ins.length]!)) bU (y74 _)),tW (V3 3 5 10) (OA 30 2 1 3) 222 O ?_⟩);refine E9 (V3 3 5 10) (OA 30 2 1 3) 222 O ?_;refine XK 30 2 [k,1] [1,2,3] (l:=(l[n]!.txs[k]!.ins.set (x.at_.toNat%l[n]!.txs[k]!.ins.length) (RT l[n]!.txs[k]!.ins[x.at_.toNat%l[n]!.txs[k]!.ins.length]!)).map YL) (bx':=(i5 2 1 3)) O O dU (D6 hT1 hT2 (Z9 (m:=1) O O Q2 O) O) (A9 hT1 O) (R6 hT1 O) (by rw[z6,Q9]) (XM λ_=>rfl) (XM λ_=>rfl) (KY λ_=>rfl) O O (B1 (XF (AW λ_=>rfl) O (AW λ_=>rfl)) (B1 (XF (AW λ_=>rfl) O (AW λ_=>rfl)) (B1 O O))) O (o8 hD O) ?_;refine KA 2 (d':=.agg ((l[n]!.txs.set k ⟨l[n]!.txs[k]!.ver,(l[n]!.txs[k]!.ins.set (x.at_.toNat%l[n]!.txs[k]!.ins.length) (RT l[n]!.txs[k]!.ins[x.at_.toNat%l[n]!.txs[k]!.ins.length]!)),l[n]!.txs[k]!.outs,l[n]!.txs[k]!.lock⟩).map r8++List.replicate q2 D.dead)) (bx':=(i5 2 1 3)) O (Fz.cell BG hk (.eq (q24 _ _ _ _ _ _)) q2) O ?_;refine XK 2 1 [n,1] [1,3] (l:=(l[n]!.txs.set k ⟨l[n]!.txs[k]!.ver,(l[n]!.txs[k]!.ins.set (x.at_.toNat%l[n]!.txs[k]!.ins.length) (RT l[n]!.txs[k]!.ins[x.at_.toNat%l[n]!.txs[k]!.ins.length]!)),l[n]!.txs[k]!.outs,l[n]!.txs[k]!.lock⟩).map r8) (bx':=(B7 1 3)) O O dU (D6 hA1 hA2 (Z9 (m:=68) O O Q2 O) O) (A9 hA1 O) (R6 hA1 O) (by rw[z6,Q9]) (XM λ_=>rfl) (XM λ_=>rfl) (KY λ_=>rfl) O O (B1 (XF (AW λ_=>rfl) O (AW λ_=>rfl)) (B1 O O)) O (o8 hD O) ?_;refine KA 1 (d':=.agg ((l.set n ⟨l[n]!.hd,(l[n]!.txs.set k ⟨l[n]!.txs[k]!.ver,(l[n]!.txs[k]!.ins.set (x.at_.toNat%l[n]!.txs[k]!.ins.length) (RT l[n]!.txs[k]!.ins[x.at_.toNat%l[n]!.txs[k]!.ins.length]!)),l[n]!.txs[k]!.outs,l[n]!.txs[k]!.lock⟩)⟩).map J7++List.replicate q D.dead)) (bx':=(B7 1 3)) O (Fz.cell (y:=⟨l[n]!.hd,(l[n]!.txs.set k ⟨l[n]!.txs[k]!.ver,(l[n]!.txs[k]!.ins.set (x.at_.toNat%l[n]!.txs[k]!.ins.length) (RT l[n]!.txs[k]!.ins[x.at_.toNat%l[n]!.txs[k]!.ins.length]!)),l[n]!.txs[k]!.outs,l[n]!.txs[k]!.lock⟩)⟩) YS hn (.refl (J7 ⟨l[n]!.hd,(l[n]!.txs.set k ⟨l[n]!.txs[k]!.ver,(l[n]!.txs[k]!.ins.set (x.at_.toNat%l[n]!.txs[k]!.ins.length) (RT l[n]!.txs[k]!.ins[x.at_.toNat%l[n]!.txs[k]!.ins.length]!)),l[n]!.txs[k]!.outs,l[n]!.txs[k]!.lock⟩)⟩)) q) O ?_;exact htail _ ⟨⟨(()),Zt⟩,(by rw[g25 (by simpa using hc133),show tK l[n]! x=k from hkx.symm]<;>rfl)⟩
       ·refine u4 2 (y2 157 156) (V7 3 5 10 11 12 95 156) ⟨ZP O (kW (.int .u8 3) (.u8 3) O),zA O,Zt⟩ ?_;refine Y7 O (v9.2 h3) ?_;refine u4 2 (y2 171 170) (V7 3 5 10 11 12 95 170) ⟨ZP O (kW (.int .u8 4) (.u8 4) O),zA O,Zt⟩ ?_;refine W.cond O (λhc170=>?_) (λhc170=>?_)
        ·refine R5 14 [0,0,2,6,1,17,49,127,255,511,1,1025,3073,8191,16383] hP dU (z53 172 173 174 175 176 177 178 179 180 181 182 183 184 185) (V5 3 5 10 181 185) ⟨zV O,xF O,xL O,λ_ _ H K=>R.bin (eU K 174 O) (kW (.int .u8 32) (.u8 32) O) O dU H,DY O,xF O,xF O,λ_ _ H K=>R.idxP ((x.at_%32).toNat) (K 178 _ O) (v29 (eU K 175 O)) O bU H,λ_ B H K=>R.ldP (K 179 _ O) (B 1 _ O) (D6 hA1 hA2 (Z9 (m:=0) O O (Z9 (m:=33) O O (H5 (b8 (l:=l[n]!.hd.root) bU) Q2 O) O) O) bU) O O O H,ZP O (kW (.int .u8 1) (.u8 1) O),DY O,xF O,xF O,λ_ _ H K=>R.idxP ((x.at_%32).toNat) (K 184 _ O) (v29 (eU K 175 O)) O bU H,Zt⟩ O (⟨O,_,ZV (gU 185 O) (xU 1 O) (D6 hA1 hA2 (Z9 (m:=0) O O (Z9 (m:=33) O O (H5 (b8 (l:=l[n]!.hd.root) bU) Q2 O) O) O) bU) (gV 181 O) (by rfl) (by rfl) (by rfl) (by rfl) (R6 hA1 (AC O (AC O (JV (b8 (l:=l[n]!.hd.root) bU) L0 L3) O) O)),tW (V3 3 5 10) (i5 2 1 3) 222 O ?_⟩);refine KA 2 (d':=.agg (l[n]!.txs.map r8++List.replicate q2 D.dead)) (bx':=(i5 2 1 3)) O (by rw[<- FZ DC hk q2];exact Fz.blk BG _ q2) O ?_;refine XK 2 1 [n,1] [1,3] (l:=l[n]!.txs.map r8) (bx':=(B7 1 3)) O O dU (D6 hA1 hA2 (Z9 (m:=68) O O Q2 O) O) (A9 hA1 O) (R6 hA1 O) (lN _) (XM λ_=>rfl) (XM λ_=>rfl) (KY λ_=>rfl) O O (B1 (XF (AW λ_=>rfl) O (AW λ_=>rfl)) (B1 O O)) O (o8 hD O) ?_;refine KA 1 (d':=.agg ((l.set n ⟨{ l[n]!.hd with root:=HF l[n]!.hd.root x.at_ },l[n]!.txs⟩).map J7++List.replicate q D.dead)) (bx':=(B7 1 3)) rfl (Fz.cell (y:=⟨{ l[n]!.hd with root:=HF l[n]!.hd.root x.at_ },l[n]!.txs⟩) YS hn (.refl (J7 ⟨{ l[n]!.hd with root:=HF l[n]!.hd.root x.at_ },l[n]!.txs⟩)) q) rfl ?_;exact htail _ ⟨⟨(()),Zt⟩,(by rw[g23 (by simpa using hc170)]<;>rfl)⟩
        ·refine u4 2 (y2 187 186) (V7 3 5 10 11 12 95 186) ⟨ZP O (kW (.int .u8 5) (.u8 5) O),zA O,Zt⟩ ?_;refine W.cond O (λhc186=>?_) (λhc186=>?_)
         ·refine R5 14 [0,0,2,6,1,17,49,127,255,511,1,1025,3073,8191,16383] hP dU (z53 188 189 190 191 192 193 194 195 196 197 198 199 200 201) (V5 3 5 10 197 201) ⟨zV O,xF O,xL O,λ_ _ H K=>R.bin (eU K 190 O) (kW (.int .u8 32) (.u8 32) O) O dU H,DY O,xF O,xF O,λ_ _ H K=>R.idxP ((x.at_%32).toNat) (K 194 _ O) (v29 (eU K 191 O)) O bU H,λ_ B H K=>R.ldP (K 195 _ O) (B 1 _ O) (D6 hA1 hA2 (Z9 (m:=0) O O (Z9 (m:=1) O O (H5 (b8 (l:=l[n]!.hd.prev) bU) Q2 O) O) O) bU) O O O H,ZP O (kW (.int .u8 1) (.u8 1) O),DY O,xF O,xF O,λ_ _ H K=>R.idxP ((x.at_%32).toNat) (K 200 _ O) (v29 (eU K 191 O)) O bU H,Zt⟩ O (⟨O,_,ZV (gU 201 O) (xU 1 O) (D6 hA1 hA2 (Z9 (m:=0) O O (Z9 (m:=1) O O (H5 (b8 (l:=l[n]!.hd.prev) bU) Q2 O) O) O) bU) (gV 197 O) (by rfl) (by rfl) (by rfl) (by rfl) (R6 hA1 (AC O (AC O (JV (b8 (l:=l[n]!.hd.prev) bU) L0 L3) O) O)),tW (V3 3 5 10) (i5 2 1 3) 222 O ?_⟩);refine KA 2 (d':=.agg (l[n]!.txs.map r8++List.replicate q2 D.dead)) (bx':=(i5 2 1 3)) O (by rw[<- FZ DC hk q2];exact Fz.blk BG _ q2) O ?_;refine XK 2 1 [n,1] [1,3] (l:=l[n]!.txs.map r8) (bx':=(B7 1 3)) O O dU (D6 hA1 hA2 (Z9 (m:=68) O O Q2 O) O) (A9 hA1 O) (R6 hA1 O) (lN _) (XM λ_=>rfl) (XM λ_=>rfl) (KY λ_=>rfl) O O (B1 (XF (AW λ_=>rfl) O (AW λ_=>rfl)) (B1 O O)) O (o8 hD O) ?_;refine KA 1 (d':=.agg ((l.set n ⟨{ l[n]!.hd with prev:=HF l[n]!.hd.prev x.at_ },l[n]!.txs⟩).map J7++List.replicate q D.dead)) (bx':=(B7 1 3)) rfl (Fz.cell (y:=⟨{ l[n]!.hd with prev:=HF l[n]!.hd.prev x.at_ },l[n]!.txs⟩) YS hn (.refl (J7 ⟨{ l[n]!.hd with prev:=HF l[n]!.hd.prev x.at_ },l[n]!.txs⟩)) q) rfl ?_;exact htail _ ⟨⟨(()),Zt⟩,(by rw[g22 (by simpa using hc186)]<;>rfl)⟩
         ·refine u4 2 (y2 203 202) (V6 3 5 10 12 95 202) ⟨ZP O (kW (.int .u8 6) (.u8 6) O),zA O,Zt⟩ ?_;refine W.cond O (λhc202=>?_) (λhc202=>?_)
          ·refine KA 2 (d':=wz ((l[n]!.txs.take k).map DC) (r8 l[n]!.txs[k]!) ((l[n]!.txs.drop (k+1)).map DC) q2) (bx':=(i5 2 1 3)) O (Fz.wz (FzL.refl _) (BG _) (FzL.refl _) q2) O ?_;refine L8 4 (y3 204 205 206) (V4 3 5 10 206) ⟨zV O,DY O,xF O,Zt⟩ O (⟨O,_,ZV (gU 206 O) (xU 2 O) (D6 hT1 hT2 (Z9 (m:=2) O O Q2 O) bU) (kN O) (by rfl) (by rfl) (by rfl) (by rfl) (R6 hT1 O),tW (V3 3 5 10) (i5 2 1 3) 222 O ?_⟩);refine u25 2 [k,2] 2 (bx':=(i5 2 1 3)) O (D6 hT1 hT2 (Z9 (m:=2) O O Q2 O) O) (A9 hT1 O) (R6 hT1 O) O ?_;refine KA 2 (d':=.agg ((l[n]!.txs.set k ⟨l[n]!.txs[k]!.ver,l[n]!.txs[k]!.ins,[],l[n]!.txs[k]!.lock⟩).map r8++List.replicate q2 D.dead)) (bx':=(i5 2 1 3)) O (Fz.cell (y:=⟨l[n]!.txs[k]!.ver,l[n]!.txs[k]!.ins,[],l[n]!.txs[k]!.lock⟩) BG hk (.refl (r8 ⟨l[n]!.txs[k]!.ver,l[n]!.txs[k]!.ins,[],l[n]!.txs[k]!.lock⟩)) q2) O ?_;refine XK 2 1 [n,1] [1,3] (l:=(l[n]!.txs.set k ⟨l[n]!.txs[k]!.ver,l[n]!.txs[k]!.ins,[],l[n]!.txs[k]!.lock⟩).map r8) (bx':=(B7 1 3)) O O dU (D6 hA1 hA2 (Z9 (m:=68) O O Q2 O) O) (A9 hA1 O) (R6 hA1 O) (by rw[z6,Q9]) (XM λ_=>rfl) (XM λ_=>rfl) (KY λ_=>rfl) O O (B1 (XF (AW λ_=>rfl) O (AW λ_=>rfl)) (B1 O O)) O (o8 hD O) ?_;refine KA 1 (d':=.agg ((l.set n ⟨l[n]!.hd,(l[n]!.txs.set k ⟨l[n]!.txs[k]!.ver,l[n]!.txs[k]!.ins,[],l[n]!.txs[k]!.lock⟩)⟩).map J7++List.replicate q D.dead)) (bx':=(B7 1 3)) O (Fz.cell (y:=⟨l[n]!.hd,(l[n]!.txs.set k ⟨l[n]!.txs[k]!.ver,l[n]!.txs[k]!.ins,[],l[n]!.txs[k]!.lock⟩)⟩) YS hn (.refl (J7 ⟨l[n]!.hd,(l[n]!.txs.set k ⟨l[n]!.txs[k]!.ver,l[n]!.txs[k]!.ins,[],l[n]!.txs[k]!.lock⟩)⟩)) q) O ?_;exact htail _ ⟨⟨(()),Zt⟩,(by rw[g21 (by simpa using hc202),show tK l[n]! x=k from hkx.symm]<;>rfl)⟩
          ·refine u4 2 (y2 208 207) (V5 3 5 10 12 207) ⟨ZP O (kW (.int .u8 7) (.u8 7) O),zA O,Zt⟩ ?_;refine W.cond O (λhc207=>?_) (λhc207=>?_)
           ·refine L8 8 (y7 209 210 211 212 213 214 215) (V5 3 5 10 213 215) ⟨zV O,DY O,xF O,λ_ B H K=>R.ldP (K 211 _ O) (B 2 _ O) (D6 hT1 hT2 (Z9 (m:=3) O O Q2 O) bU) O O O H,ZP O (kW (.int .u32 1) (.u32 1) O),DY O,xF O,Zt⟩ O (⟨O,_,ZV (gU 215 O) (xU 2 O) (D6 hT1 hT2 (Z9 (m:=3) O O Q2 O) bU) (gV 213 O) (by rfl) (by rfl) (by rfl) (by rfl) (R6 hT1 O),tW (V3 3 5 10) (i5 2 1 3) 222 O ?_⟩);refine KA 2 (d':=.agg ((l[n]!.txs.set k ⟨l[n]!.txs[k]!.ver,l[n]!.txs[k]!.ins,l[n]!.txs[k]!.outs,l[n]!.txs[k]!.lock+1⟩).map r8++List.replicate q2 D.dead)) (bx':=(i5 2 1 3)) O (Fz.cell BG hk (.eq (q24 _ _ _ _ _ _)) q2) O ?_;refine XK 2 1 [n,1] [1,3] (l:=(l[n]!.txs.set k ⟨l[n]!.txs[k]!.ver,l[n]!.txs[k]!.ins,l[n]!.txs[k]!.outs,l[n]!.txs[k]!.lock+1⟩).map r8) (bx':=(B7 1 3)) O O dU (D6 hA1 hA2 (Z9 (m:=68) O O Q2 O) O) (A9 hA1 O) (R6 hA1 O) (by rw[z6,Q9]) (XM λ_=>rfl) (XM λ_=>rfl) (KY λ_=>rfl) O O (B1 (XF (AW λ_=>rfl) O (AW λ_=>rfl)) (B1 O O)) O (o8 hD O) ?_;refine KA 1 (d':=.agg ((l.set n ⟨l[n]!.hd,(l[n]!.txs.set k ⟨l[n]!.txs[k]!.ver,l[n]!.txs[k]!.ins,l[n]!.txs[k]!.outs,l[n]!.txs[k]!.lock+1⟩)⟩).map J7++List.replicate q D.dead)) (bx':=(B7 1 3)) O (Fz.cell (y:=⟨l[n]!.hd,(l[n]!.txs.set k ⟨l[n]!.txs[k]!.ver,l[n]!.txs[k]!.ins,l[n]!.txs[k]!.outs,l[n]!.txs[k]!.lock+1⟩)⟩) YS hn (.refl (J7 ⟨l[n]!.hd,(l[n]!.txs.set k ⟨l[n]!.txs[k]!.ver,l[n]!.txs[k]!.ins,l[n]!.txs[k]!.outs,l[n]!.txs[k]!.lock+1⟩)⟩)) q) O ?_;exact htail _ ⟨⟨(()),Zt⟩,(by rw[g20 (by simpa using hc207),show tK l[n]! x=k from hkx.symm]<;>rfl)⟩
           ·refine W.skip ?_;refine KA 2 (d':=.agg (l[n]!.txs.map r8++List.replicate q2 D.dead)) (bx':=(i5 2 1 3)) O (by rw[<- FZ DC hk q2];exact Fz.blk BG _ q2) O ?_;refine E9 (V3 3 5 10) (i5 2 1 3) 222 O ?_;refine XK 2 1 [n,1] [1,3] (l:=l[n]!.txs.map r8) (bx':=(B7 1 3)) O O dU (D6 hA1 hA2 (Z9 (m:=68) O O Q2 O) O) (A9 hA1 O) (R6 hA1 O) (lN _) (XM λ_=>rfl) (XM λ_=>rfl) (KY λ_=>rfl) O O (B1 (XF (AW λ_=>rfl) O (AW λ_=>rfl)) (B1 O O)) O (o8 hD O) ?_;refine KA 1 (d':=.agg ((l.set n ⟨l[n]!.hd,l[n]!.txs⟩).map J7++List.replicate q D.dead)) (bx':=(B7 1 3)) O (Fz.cell (y:=⟨l[n]!.hd,l[n]!.txs⟩) YS hn (.refl (J7 ⟨l[n]!.hd,l[n]!.txs⟩)) q) O ?_;exact htail _ ⟨⟨(()),Zt⟩,(by rw[g19 (by simpa using hc96) (by simpa using hc112) (by simpa using hc133) h3 (by simpa using hc170) (by simpa using hc186) (by simpa using hc202) (by simpa using hc207)]<;>rfl)⟩
end
section
open Go.Proofs
set_option maxHeartbeats 1000000 in
theorem q88(l:List StS)(hl:allSt l)(i:Nat)(hi:i<l.length):Fn Tryz.prog gl 118 [.sl none 38 (l.map ZY),.int ((i:Nat):Int)] (.int (DK l i)):=by
 refine Fo 91 Tryz.func118 O λC hC hD=>?_;have hl1:=hl.1;have hsi:=hl.get hi;have hin:=hsi.2.2.1;have hout:=hsi.2.2.2;refine u4 1 (y1 4) (V2 0 1) ⟨O3 0 O,Zt⟩ ?_;refine n5 7 (y5 13 14 15 16 17) (V3 0 1 17) ⟨zV O,zV O,zI i O,r7 O,zL O (mG l),Zt⟩ O (I9 O (M9 O (tW (V3 0 1 5) (B2 5) 91 O ?_)));refine W.seq (u4 1 (y1 6) (V4 0 1 5 6) ⟨O3 0 O,Zt⟩ ?_);refine W.block ?_;refine UK i (λq__=>(∀ q<q__,(l[q]!.id==l[i]!.id)=false)) (λk=>⟨91,[(0,.sl none 38 (l.map ZY)),(1,.int ((i:Nat):Int)),(5,.ptr 5 0 []),(6,.int ((k:Nat):Int))],[(5,.var (r8 l[i]!.t))]⟩) ⟨v6 _,λq h=>absurd h (g9 _)⟩ O λk hinv=>?_;obtain⟨hk,hno⟩:=hinv;have hk:k<=i:=hk;have hno:(∀ q<k,(l[q]!.id==l[i]!.id)=false):=hno;refine W.seq (u4 3 (y3 18 19 20) (V5 0 1 5 6 20) ⟨zV O,zV O,zS O,Zt⟩ ?_);refine g7 O (λhc20=>?_) (λhc20=>?_)
 ·refine W.skip (W.seq (W.block (W.seq ?_)));refine R5 11 [0,0,3,7,15,0,0,96,224,480,1023] hP dU (g80 23 24 25 26 27 28 29 30 31 32 33) (V5 0 1 5 6 33) ⟨zV O,zV O,zI k O,r7 O,zL O (mG l),zV O,zV O,zI i O,r7 O,zL O (mG l),λ_ _ H K=>OO (eU K 27 O) (eU K 32 O) H,Zt⟩ O (tW (V5 0 1 5 6 33) (B2 5) 91 O ?_);refine W.cond O (λhc33=>?_) (λhc33=>?_)
  ·refine u4 1 (y1 4) (V1 4) ⟨O3 14 O,Zt⟩ ?_;exact W.ret (En O (by rw[y41 hc20 hc33]<;>rfl))
  ·refine W.skip ?_;refine n4 3 (y3 21 22 6) (V4 0 1 5 6) ⟨zV O,P1 1 O,zA O,Zt⟩ ?_;exact⟨⟨(by show k+1<=i;omega),λq hq=>(u7.1 hq).elim (hno q) (λe=>e▸hc33)⟩,rfl⟩
 ·obtain rfl:i=k:=by omega
  have hdup:=hno;refine W.exit (W.seq (u4 2 (y2 34 35) (V4 0 1 5 35) ⟨xL O,zC hC (MN l[i]!.t hsi.2.1) O (F1 (.bool _)),Zt⟩ ?_));refine W.cond O (λhc35=>?_) (λhc35=>?_)
  ·refine u4 1 (y1 4) (V1 4) ⟨O3 0 O,Zt⟩ ?_;exact W.ret (En O (by rw[y40 hdup hc35]<;>rfl))
  ·refine W.skip (u4 1 (y1 7) (V4 0 1 5 7) ⟨q42 (.u64 0) O,Zt⟩ ?_);refine W.seq (u4 1 (y1 8) (V5 0 1 5 7 8) ⟨O3 0 O,Zt⟩ ?_);refine W.block ?_;refine UK (l[i]!.t.ins.length) (λq__=>(∀ q<q__,DU l i q=false)) (λk=>⟨91,[(0,.sl none 38 (l.map ZY)),(1,.int ((i:Nat):Int)),(5,.ptr 5 0 []),(7,.u64 (j36 l i k)),(8,.int ((k:Nat):Int))],[(5,.var (r8 l[i]!.t))]⟩) ⟨v6 _,λq h=>absurd h (g9 _)⟩ O λk hinv=>?_;obtain⟨hk,hno⟩:=hinv;have hk:k<=l[i]!.t.ins.length:=hk;have hno:(∀ q<k,DU l i q=false):=hno;refine W.seq (u4 5 (y5 36 37 38 39 40) (V6 0 1 5 7 8 40) ⟨zV O,xF O,xL O,P8 O,zS O,Zt⟩ ?_);refine g7 O (λhc40=>?_) (λhc40=>?_)
   ·refine W.skip (W.seq (W.block (n5 15 (u51 44 45 46 47 48 49 50 51 52 43 53 54) (V7 0 1 5 7 8 53 54) ⟨zV O,zV O,xF O,xL O,zV O,zI k O,r7 O,zL O (b8 (l:=l[i]!.t.ins) bU),λ_ _ H K=>l7 hC (q87 l hl i (plc l[i]!.t.ins[k]!) bO) (EvP.cons (eU K 44 O) O O (EvP.cons (eU K 45 O) O O (EvP.cons (eU K 51 O) O O EvP.nil))) H,zY O,zX O,zX O,Zt⟩ O (I9 O (M9 O (GK O (tW (V7 0 1 5 7 8 9 10) (B7 9 5) 91 O ?_)))))));refine W.seq (W.seq ?_);by_cases hs_:(I1 l i (plc l[i]!.t.ins[k]!)).isSome=true
    ·refine N0 14 (z53 55 56 57 58 59 60 61 62 63 64 65 66 67 68) (V7 0 1 5 7 8 9 68) ⟨xM O,aU<|BH O,xM O,aN O (by rw[hs_];rfl)<|zV O,aN O (by rw[hs_];rfl)<|zV O,aN O (by rw[hs_];rfl)<|zV O,aN O (by rw[hs_];rfl) (xF O),aN O (by rw[hs_];rfl) (xL O),aN O (by rw[hs_];rfl)<|zV O,aN O (by rw[hs_];rfl)<|zI k O,aN O (by rw[hs_];rfl)<|r7 O,aN O (by rw[hs_];rfl)<|zL O (b8 (l:=l[i]!.t.ins) bU),aN O (by rw[hs_];rfl) λ_ _ H K=>Z7 hC (LG l hl i k (plc l[i]!.t.ins[k]!) bO bO) (Bc (Bp (eU K 58 O) O O) (Bc (Bp (eU K 59 O) O O) (Bc (Bp (eU K 60 O) O O) (Bc (Bp (eU K 66 O) O O) Bn)))) (F1 (.bool _)) H,aU<|zF O (by rw[hs_];rfl),Zt⟩ ?_;refine W.cond O (λhc68=>?_) (λhc68=>?_)
     ·refine W.seq ?_;refine E9 [] (B7 9 5) 91 O ?_;refine H6 [5] (bx':=(B2 5)) O O O (o8 hD O) ?_;refine n4 1 (y1 4) (V1 4) ⟨O3 14 O,Zt⟩ ?_;exact W.ret (En O (by rw[x54 hdup hc35 hc40 (g75 hc68)]<;>rfl))
     ·refine W.skip ?_;refine n4 5 (y5 69 70 71 72 7) (V5 0 1 5 7 8) ⟨zV O,xF O,xL O,zB O,zA O,Zt⟩ ?_;refine H6 [5] (bx':=(B2 5)) O O O (o8 hD O) ?_;refine n4 3 (y3 41 42 8) (V5 0 1 5 7 8) ⟨zV O,P1 1 O,zA O,Zt⟩ ?_;exact⟨⟨(by show k+1<=l[i]!.t.ins.length;omega),λq hq=>(u7.1 hq).elim (hno q) (λe=>e▸g77 hs_ hc68)⟩,(by first|rfl|(dsimp only;rw[j36]<;>rfl))⟩
    ·refine N0 14 [.y 55 _,.y 56 _,.y 57 _,.x 58,.x 59,.x 60,.x 61,.x 62,.x 63,.x 64,.x 65,.x 66,.x 67,.y 68 _] (V7 0 1 5 7 8 9 68) ⟨xM O,aU<|BH O,xM O,R3 O (by rw[bfalse hs_];rfl),R3 O (by rw[bfalse hs_];rfl),R3 O (by rw[bfalse hs_];rfl),R3 O (by rw[bfalse hs_];rfl),R3 O (by rw[bfalse hs_];rfl),R3 O (by rw[bfalse hs_];rfl),R3 O (by rw[bfalse hs_];rfl),R3 O (by rw[bfalse hs_];rfl),R3 O (by rw[bfalse hs_];rfl),R3 O (by rw[bfalse hs_];rfl),aU<|EW O (by rw[bfalse hs_];rfl) (kB true O),Zt⟩ ?_;refine G6 O (O) ?_;refine W.seq ?_;refine E9 [] (B7 9 5) 91 O ?_;refine H6 [5] (bx':=(B2 5)) O O O (o8 hD O) ?_;refine n4 1 (y1 4) (V1 4) ⟨O3 14 O,Zt⟩ ?_;exact W.ret (En O (by rw[x54 hdup hc35 hc40 (g76 (bfalse hs_))]<;>rfl))
   ·obtain rfl:k=l[i]!.t.ins.length:=by omega
    have hbad:=hno;refine W.exit (u4 1 (y1 11) (V3 5 7 11) ⟨q42 (.u64 0) O,Zt⟩ ?_);refine W.seq (u4 1 (y1 12) (V4 5 7 11 12) ⟨O3 0 O,Zt⟩ ?_);refine W.block ?_;refine P2 (l[i]!.t.outs.length) (λk=>⟨91,[(5,.ptr 5 0 []),(7,.u64 (j36 l i l[i]!.t.ins.length)),(11,.u64 (HJ l[i]!.t.outs k)),(12,.int ((k:Nat):Int))],[(5,.var (r8 l[i]!.t))]⟩) O λk hk=>?_;refine W.seq (u4 5 (y5 73 74 75 76 77) (V5 5 7 11 12 77) ⟨zV O,xF O,xL O,P8 O,zS O,Zt⟩ ?_);refine g7 O (λhc77=>?_) (λhc77=>?_)
    ·refine W.skip (W.seq (W.block ?_));refine n4 9 (y9 80 81 82 83 84 85 86 87 11) (V4 5 7 11 12) ⟨zV O,xF O,xL O,zV O,zI k O,r7 O,zL O (b8 (l:=l[i]!.t.outs) bU),zB O,zA O,Zt⟩ ?_;refine n4 3 (y3 78 79 12) (V4 5 7 11 12) ⟨zV O,P1 1 O,zA O,Zt⟩ ?_;exact⟨bU,rfl⟩
    ·obtain rfl:k=l[i]!.t.outs.length:=by omega
     refine W.exit (W.seq (u4 3 (y3 88 89 90) (V1 90) ⟨zV O,zV O,zB O,Zt⟩ ?_));refine W.cond O (λhc90=>?_) (λhc90=>?_)
     ·refine u4 1 (y1 4) (V1 4) ⟨O3 14 O,Zt⟩ ?_;exact W.ret (En O (by rw[y39 hdup hc35 hbad hc90]<;>rfl))
     ·refine W.skip (u4 1 (y1 4) (V1 4) ⟨O3 0 O,Zt⟩ ?_);exact W.ret (En O (by rw[y38 hdup hc35 hbad hc90]<;>rfl))
set_option maxHeartbeats 1000000 in
theorem u08(l:List BlkS)(hl:allBl l)(h1:1<=l.length):Fn Tryz.prog gl 62 [.sl none 69 (l.map J7)] (.int (YF l)):=by
 refine Fo 114 Tryz.func62 O λC hC hD=>?_;have hl0:=hl.1;have hbw:=hl.get (show l.length-1<l.length by omega);have hbl:=hbw.len;have hsa:=JJ hl;have hal:=hsa.1;have hle:=v09 h1;refine u4 1 (y1 2) (V1 0) ⟨O3 0 O,Zt⟩ ?_;refine u4 4 (y4 11 12 13 3) (V2 0 3) ⟨zV O,P8 O,AD 1 O,zA O,Zt⟩ ?_;refine n5 6 (y4 14 15 16 17) (V3 0 3 17) ⟨zV O,zV O,zI ((l.length-1)) O,zL O (mG l),Zt⟩ O (I9 O (M9 O (tW (V3 0 3 4) (B2 4) 114 O ?_)));refine W.seq (W.seq ?_);by_cases h1_:0<l.length-1
 ·refine KF 15 [0,1,3,7,15,31,7,7,135,455,967,1991,4039,8191,16383] hP dU (g08 18 19 20 21 22 23 24 25 26 27 28 29 30 31 32) [] [] (V4 0 3 4 32) ⟨xM O,aU<|OE 0 O,xM O,aT O (dT h1_) (xF O),aT O (dT h1_) (xF O),aT O (dT h1_) (xL O),aT O (dT h1_)<|zV O,aT O (dT h1_)<|zV O,aT O (dT h1_)<|AD 1 O,aT O (dT h1_)<|zI (((l.length-1)-1)) O,aT O (dT h1_)<|r7 O,aT O (dT h1_)<|zL O (mG l),aT O (dT h1_)<|zC hC (EY l[l.length-1-1]!.hd (hl.get (show l.length-1-1<l.length by omega)).hd) O (F1 (X6 _)),aT O (dT h1_) λ_ _ H K=>ON (eU K 23 O) (eU K 30 O) H,aU<|zT O (dT h1_),Zt⟩ O (tW (V4 0 3 4 32) (B2 4) 114 O ?_);refine W.cond O (λhc32=>?_) (λhc32=>?_)
  ·refine u4 1 (y1 2) (V1 2) ⟨O3 9 O,Zt⟩ ?_;exact W.ret (En O (by rw[CF (g41 h1_ hc32) dU]<;>rfl))
  ·refine W.skip (W.seq (j70 8 [.y 33 _,.y 34 _,.y 35 _,.x 36,.x 37,.x 38,.x 39,.y 40 _] (V3 0 4 40) ⟨xM O,aU<|GZ 0 O,xM O,O5 O (dF bO),O5 O (dF bO),O5 O (dF bO),O5 O (dF bO),aU<|FQ O (dF bO) (kB false O),Zt⟩ ?_));refine Y7 O (O) ?_;refine W.skip (W.seq (W.seq ?_));by_cases hz:l[l.length-1]!.txs.length=0
   ·refine N0 10 [.y 41 _,.y 42 _,.y 43 _,.y 44 _,.y 45 _,.x 46,.x 47,.x 48,.x 49,.y 50 _] (V3 0 4 50) ⟨aU (xF O),aU (xL O),aU<|P8 O,aU<|GZ 0 O,xM O,R3 O (dT hz),R3 O (dT hz),R3 O (dT hz),R3 O (dT hz),aU<|EW O (dT hz) (kB true O),Zt⟩ ?_;refine G6 O (O) ?_;refine u4 1 (y1 2) (V1 2) ⟨O3 6 O,Zt⟩ ?_;exact W.ret (En O (by rw[CF (y42 h1_ (.inr hc32) hz) dU]<;>rfl))
   ·refine N0 10 (VU 41 42 43 44 45 46 47 48 49 50) (V3 0 4 50) ⟨aU (xF O),aU (xL O),aU<|P8 O,aU<|GZ 0 O,xM O,aN O (dF hz) (xF O),aN O (dF hz) (xL O),aN O (dF hz)<|P8 O,aN O (dF hz)<|OE 256 O,aU<|zF O (dF hz),Zt⟩ ?_;refine g7 O (λhc50=>?_) (λhc50=>?_)
    ·refine u4 1 (y1 2) (V1 2) ⟨O3 6 O,Zt⟩ ?_;exact W.ret (En O (by rw[CF (x56 (.inr hc32) hz hc50) dU]<;>rfl))
    ·refine W.skip (u4 1 (y1 5) (V3 0 4 5) ⟨i6 O,Zt⟩ ?_);refine W.seq (u4 1 (y1 6) (V4 0 4 5 6) ⟨O3 0 O,Zt⟩ ?_);refine W.block ?_;refine O6 (s:=5) 23 32 O ?_;refine P2 (l[l.length-1]!.txs.length) (λi=>⟨114,[(0,.sl none 69 (l.map J7)),(4,.ptr 4 0 []),(5,.sl (some 23) 32 ((BK l[l.length-1]!.txs i).map w7)),(6,.int ((i:Nat):Int))],[(4,.var (J7 l[l.length-1]!))]⟩) O λi hi=>?_;refine W.seq (u4 5 (y5 51 52 53 54 55) (V5 0 4 5 6 55) ⟨zV O,xF O,xL O,P8 O,zS O,Zt⟩ ?_);refine g7 O (λhc55=>?_) (λhc55=>?_)
     ·refine W.skip (W.seq (W.block ?_));refine UZ 10 (VU 58 59 60 61 62 63 64 65 66 5) [(8,5),(9,66),(9,58)] [(8,5),(9,66)] (V4 0 4 5 6) ⟨aU<|zM O,aU (xF O),aU (xL O),xM O,aU<|zI i O,aU<|zL O (b8 (l:=l[l.length-1]!.txs) bU),aU<|zC hC (FA l[l.length-1]!.txs[i]! (hbw.get bO)) O (F1 (X6 _)),aU λ_ _ H K=>J3 (z:=32) (.cons (eU K 64 O) .nil) ⟨⟨O,O,O⟩,Zt⟩ O H dU,aU<|YC O (G5 O) (show _=((BK l[l.length-1]!.txs (i+1)).map w7) from(MK bO)) (by simp only[z6,MZ hi,j2,j3];omega),aU<|zO O,Zt⟩ O (tU O ?_);refine n4 3 (y3 56 57 6) (V4 0 4 5 6) ⟨zV O,P1 1 O,zA O,Zt⟩ ?_;exact⟨bU,rfl⟩
     ·obtain rfl:i=l[l.length-1]!.txs.length:=by omega
      rw[MJ];refine W.exit (W.seq (W.seq ?_));refine R5 6 [0,1,3,0,8,31] hP dU (y6 67 68 69 70 71 72) (V3 0 4 72) ⟨xF O,xF O,xL O,zM O,λ_ _ H K=>Z7 hC (PM (l[l.length-1]!.txs.map ZM) (HC _) (by rw[z6];omega)) (Bc (Bor.sc (SC.al (K 70 _ O) (K 5 _ O)) (J6 W3)) Bn) (F1 (X6 _)) H,λ_ _ H K=>ON (eU K 69 O) (eU K 71 O) H,Zt⟩ O (tW (V3 0 4 72) (B2 4) 114 O ?_);refine W.cond O (λhc72=>?_) (λhc72=>?_)
      ·refine u4 1 (y1 2) (V1 2) ⟨O3 15 O,Zt⟩ ?_;exact W.ret (En O (by rw[CF (x57 (.inr hc32) hz hc50 hc72) dU]<;>rfl))
      ·refine W.skip (P4 3 (y3 73 74 7) [(2,74)] [(2,74)] (V2 4 7) ⟨xM O,aU λ_ _ H K=>l7 hC (CD l hl) (EvP.cons (eU K 73 O) O O EvP.nil) H,aU<|zO O,Zt⟩ O (tU O ?_));refine W.seq ?_;refine CB (s:=7) (d':=.sl none 38 ((K6 l).map ZY)) O O (MA _ _ _) ?_;refine n4 7 (y7 75 76 77 78 79 80 8) (V3 4 7 8) ⟨zV O,P8 O,xF O,xL O,P8 O,zQ O,zA O,Zt⟩ ?_;refine W.seq (u4 1 (y1 9) (V4 4 7 8 9) ⟨O3 0 O,Zt⟩ ?_);refine W.block ?_;refine UK (l[l.length-1]!.txs.length) (λq__=>(∀ q<q__,q44 l q=0)) (λi=>⟨114,[(4,.ptr 4 0 []),(7,.sl none 38 ((K6 l).map ZY)),(8,.int ((((K6 l).length-l[l.length-1]!.txs.length):Nat):Int)),(9,.int ((i:Nat):Int))],[(4,.var (J7 l[l.length-1]!))]⟩) ⟨v6 _,λq h=>absurd h (g9 _)⟩ O λi hinv=>?_;obtain⟨hi,hno⟩:=hinv;have hi:i<=l[l.length-1]!.txs.length:=hi;have hno:(∀ q<i,q44 l q=0):=hno;refine W.seq (u4 5 (y5 81 82 83 84 85) (V5 4 7 8 9 85) ⟨zV O,xF O,xL O,P8 O,zS O,Zt⟩ ?_);refine g7 O (λhc85=>?_) (λhc85=>?_)
       ·refine W.skip (W.seq (W.block (W.seq (W.seq ?_))));by_cases hm:JU l[l.length-1]!.txs[i]! = true
        ·refine N0 18 (g79 88 89 90 91 92 93 94 95 96 97 98 99 100 101 102 103 104 105) (V5 4 7 8 9 105) ⟨aU (xF O),aU (xL O),xM O,aU<|zI i O,aU<|zL O (b8 (l:=l[l.length-1]!.txs) bU),aU<|zC hC (AF l[l.length-1]!.txs[i]! (hbw.get bO)) O (F1 (.bool _)),aU<|BH O,xM O,aN O (by rw[hm];rfl) (xF O),aN O (by rw[hm];rfl) (xL O),aN O (by rw[hm];rfl)<|zV O,aN O (by rw[hm];rfl)<|zI i O,aN O (by rw[hm];rfl)<|zL O (b8 (l:=l[l.length-1]!.txs) bU),aN O (by rw[hm];rfl)<|zC hC (MN l[l.length-1]!.txs[i]! (hbw.get bO)) O (F1 (.bool _)),aN O (by rw[hm];rfl)<|zV O,aN O (by rw[hm];rfl)<|GZ 0 O,aN O (by rw[hm];rfl) λ_ _ H K=>R.neB (eU K 101 O) (eU K 103 O) H,aU<|zF O (by rw[hm];rfl),Zt⟩ ?_;refine W.cond O (λhc105=>?_) (λhc105=>?_)
         ·refine u4 1 (y1 2) (V1 2) ⟨O3 1 O,Zt⟩ ?_;exact W.ret (En O (by rw[CI (DI (.inr hc32) hz hc50 hc72) hc85 hno (v75 hc105) dU]<;>rfl))
         ·refine W.skip (u4 6 (y6 106 107 108 109 110 10) (V5 4 7 8 9 10) ⟨zV O,zV O,zV O,zP O,zD hC (q88 (K6 l) hsa (((K6 l).length-l[l.length-1]!.txs.length)+i) bO) O (F1 (.int _)),zA O,Zt⟩ ?_);refine u4 2 (y2 111 112) (V6 4 7 8 9 10 112) ⟨zV O,ZP O (kI 0 O),Zt⟩ ?_;refine W.cond O (λhc112=>?_) (λhc112=>?_)
          ·refine u4 2 (y2 113 2) (V1 2) ⟨zV O,zA O,Zt⟩ ?_;exact W.ret (En O (by rw[CI (DI (.inr hc32) hz hc50 hc72) hc85 hno (k39 hm hc105) (x90 hc112)]<;>rfl))
          ·refine W.skip ?_;refine n4 3 (y3 86 87 9) (V4 4 7 8 9) ⟨zV O,P1 1 O,zA O,Zt⟩ ?_;exact⟨⟨(by show i+1<=l[l.length-1]!.txs.length;omega),λq hq=>(u7.1 hq).elim (hno q) (λe=>e▸(k39 hm hc105).trans (x91 hc112))⟩,rfl⟩
        ·refine N0 18 [.y 88 _,.y 89 _,.y 90 _,.y 91 _,.y 92 _,.y 93 _,.y 94 _,.y 95 _,.x 96,.x 97,.x 98,.x 99,.x 100,.x 101,.x 102,.x 103,.x 104,.y 105 _] (V5 4 7 8 9 105) ⟨aU (xF O),aU (xL O),xM O,aU<|zI i O,aU<|zL O (b8 (l:=l[l.length-1]!.txs) bU),aU<|zC hC (AF l[l.length-1]!.txs[i]! (hbw.get bO)) O (F1 (.bool _)),aU<|BH O,xM O,R3 O (by rw[bfalse hm];rfl),R3 O (by rw[bfalse hm];rfl),R3 O (by rw[bfalse hm];rfl),R3 O (by rw[bfalse hm];rfl),R3 O (by rw[bfalse hm];rfl),R3 O (by rw[bfalse hm];rfl),R3 O (by rw[bfalse hm];rfl),R3 O (by rw[bfalse hm];rfl),R3 O (by rw[bfalse hm];rfl),aU<|EW O (by rw[bfalse hm];rfl) (kB true O),Zt⟩ ?_;refine G6 O (O) ?_;refine u4 1 (y1 2) (V1 2) ⟨O3 1 O,Zt⟩ ?_;exact W.ret (En O (by rw[CI (DI (.inr hc32) hz hc50 hc72) hc85 hno (v74 (bfalse hm)) dU]<;>rfl))
       ·obtain rfl:i=l[l.length-1]!.txs.length:=by omega
        refine W.exit (u4 1 (y1 2) (V1 2) ⟨O3 0 O,Zt⟩ ?_);exact W.ret (En O (by rw[WK (DI (.inr hc32) hz hc50 hc72) hno]<;>rfl))
 ·refine KF 15 [0,1,3,7,15,31,7,7,135,455,967,1991,4039,8191,16383] hP dU [.y 18 _,.y 19 _,.y 20 _,.x 21,.x 22,.x 23,.x 24,.x 25,.x 26,.x 27,.x 28,.x 29,.x 30,.x 31,.y 32 _] [] [] (V4 0 3 4 32) ⟨xM O,aU<|OE 0 O,xM O,O5 O (dF h1_),O5 O (dF h1_),O5 O (dF h1_),O5 O (dF h1_),O5 O (dF h1_),O5 O (dF h1_),O5 O (dF h1_),O5 O (dF h1_),O5 O (dF h1_),O5 O (dF h1_),O5 O (dF h1_),aU<|FQ O (dF h1_) (kB false O),Zt⟩ O (tW (V4 0 3 4 32) (B2 4) 114 O ?_);refine Y7 O (O) ?_;refine W.skip (W.seq (j70 8 (y8 33 34 35 36 37 38 39 40) (V3 0 4 40) ⟨xM O,aU<|GZ 0 O,xM O,aT O (dT bO) (xF O),aT O (dT bO) (xL O),aT O (dT bO)<|P8 O,aT O (dT bO)<|GZ 0 O,aU<|zT O (dT bO),Zt⟩ ?_));refine g7 O (λhc40=>?_) (λhc40=>?_)
  ·refine u4 1 (y1 2) (V1 2) ⟨O3 0 O,Zt⟩ ?_;exact W.ret (En O (by rw[u92 h1_ hc40]<;>rfl))
  ·refine W.skip (W.seq (W.seq ?_));by_cases hz:l[l.length-1]!.txs.length=0
   ·refine N0 10 [.y 41 _,.y 42 _,.y 43 _,.y 44 _,.y 45 _,.x 46,.x 47,.x 48,.x 49,.y 50 _] (V3 0 4 50) ⟨aU (xF O),aU (xL O),aU<|P8 O,aU<|GZ 0 O,xM O,R3 O (dT hz),R3 O (dT hz),R3 O (dT hz),R3 O (dT hz),aU<|EW O (dT hz) (kB true O),Zt⟩ ?_;refine G6 O (O) ?_;refine u4 1 (y1 2) (V1 2) ⟨O3 6 O,Zt⟩ ?_;exact W.ret (En O (absurd hz hc40))
   ·refine N0 10 (VU 41 42 43 44 45 46 47 48 49 50) (V3 0 4 50) ⟨aU (xF O),aU (xL O),aU<|P8 O,aU<|GZ 0 O,xM O,aN O (dF hz) (xF O),aN O (dF hz) (xL O),aN O (dF hz)<|P8 O,aN O (dF hz)<|OE 256 O,aU<|zF O (dF hz),Zt⟩ ?_;refine g7 O (λhc50=>?_) (λhc50=>?_)
    ·refine u4 1 (y1 2) (V1 2) ⟨O3 6 O,Zt⟩ ?_;exact W.ret (En O (by rw[CF (x56 (.inl h1_) hz hc50) dU]<;>rfl))
    ·refine W.skip (u4 1 (y1 5) (V3 0 4 5) ⟨i6 O,Zt⟩ ?_);refine W.seq (u4 1 (y1 6) (V4 0 4 5 6) ⟨O3 0 O,Zt⟩ ?_);refine W.block ?_;refine O6 (s:=5) 23 32 O ?_;refine P2 (l[l.length-1]!.txs.length) (λi=>⟨114,[(0,.sl none 69 (l.map J7)),(4,.ptr 4 0 []),(5,.sl (some 23) 32 ((BK l[l.length-1]!.txs i).map w7)),(6,.int ((i:Nat):Int))],[(4,.var (J7 l[l.length-1]!))]⟩) O λi hi=>?_;refine W.seq (u4 5 (y5 51 52 53 54 55) (V5 0 4 5 6 55) ⟨zV O,xF O,xL O,P8 O,zS O,Zt⟩ ?_);refine g7 O (λhc55=>?_) (λhc55=>?_)
     ·refine W.skip (W.seq (W.block ?_));refine UZ 10 (VU 58 59 60 61 62 63 64 65 66 5) [(8,5),(9,66),(9,58)] [(8,5),(9,66)] (V4 0 4 5 6) ⟨aU<|zM O,aU (xF O),aU (xL O),xM O,aU<|zI i O,aU<|zL O (b8 (l:=l[l.length-1]!.txs) bU),aU<|zC hC (FA l[l.length-1]!.txs[i]! (hbw.get bO)) O (F1 (X6 _)),aU λ_ _ H K=>J3 (z:=32) (.cons (eU K 64 O) .nil) ⟨⟨O,O,O⟩,Zt⟩ O H dU,aU<|YC O (G5 O) (show _=((BK l[l.length-1]!.txs (i+1)).map w7) from(MK bO)) (by simp only[z6,MZ hi,j2,j3];omega),aU<|zO O,Zt⟩ O (tU O ?_);refine n4 3 (y3 56 57 6) (V4 0 4 5 6) ⟨zV O,P1 1 O,zA O,Zt⟩ ?_;exact⟨bU,rfl⟩
     ·obtain rfl:i=l[l.length-1]!.txs.length:=by omega
      rw[MJ];refine W.exit (W.seq (W.seq ?_));refine R5 6 [0,1,3,0,8,31] hP dU (y6 67 68 69 70 71 72) (V3 0 4 72) ⟨xF O,xF O,xL O,zM O,λ_ _ H K=>Z7 hC (PM (l[l.length-1]!.txs.map ZM) (HC _) (by rw[z6];omega)) (Bc (Bor.sc (SC.al (K 70 _ O) (K 5 _ O)) (J6 W3)) Bn) (F1 (X6 _)) H,λ_ _ H K=>ON (eU K 69 O) (eU K 71 O) H,Zt⟩ O (tW (V3 0 4 72) (B2 4) 114 O ?_);refine W.cond O (λhc72=>?_) (λhc72=>?_)
      ·refine u4 1 (y1 2) (V1 2) ⟨O3 15 O,Zt⟩ ?_;exact W.ret (En O (by rw[CF (x57 (.inl h1_) hz hc50 hc72) dU]<;>rfl))
      ·refine W.skip (P4 3 (y3 73 74 7) [(2,74)] [(2,74)] (V2 4 7) ⟨xM O,aU λ_ _ H K=>l7 hC (CD l hl) (EvP.cons (eU K 73 O) O O EvP.nil) H,aU<|zO O,Zt⟩ O (tU O ?_));refine W.seq ?_;refine CB (s:=7) (d':=.sl none 38 ((K6 l).map ZY)) O O (MA _ _ _) ?_;refine n4 7 (y7 75 76 77 78 79 80 8) (V3 4 7 8) ⟨zV O,P8 O,xF O,xL O,P8 O,zQ O,zA O,Zt⟩ ?_;refine W.seq (u4 1 (y1 9) (V4 4 7 8 9) ⟨O3 0 O,Zt⟩ ?_);refine W.block ?_;refine UK (l[l.length-1]!.txs.length) (λq__=>(∀ q<q__,q44 l q=0)) (λi=>⟨114,[(4,.ptr 4 0 []),(7,.sl none 38 ((K6 l).map ZY)),(8,.int ((((K6 l).length-l[l.length-1]!.txs.length):Nat):Int)),(9,.int ((i:Nat):Int))],[(4,.var (J7 l[l.length-1]!))]⟩) ⟨v6 _,λq h=>absurd h (g9 _)⟩ O λi hinv=>?_;obtain⟨hi,hno⟩:=hinv;have hi:i<=l[l.length-1]!.txs.length:=hi;have hno:(∀ q<i,q44 l q=0):=hno;refine W.seq (u4 5 (y5 81 82 83 84 85) (V5 4 7 8 9 85) ⟨zV O,xF O,xL O,P8 O,zS O,Zt⟩ ?_);refine g7 O (λhc85=>?_) (λhc85=>?_)
       ·refine W.skip (W.seq (W.block (W.seq (W.seq ?_))));by_cases hm:JU l[l.length-1]!.txs[i]! = true
        ·refine N0 18 (g79 88 89 90 91 92 93 94 95 96 97 98 99 100 101 102 103 104 105) (V5 4 7 8 9 105) ⟨aU (xF O),aU (xL O),xM O,aU<|zI i O,aU<|zL O (b8 (l:=l[l.length-1]!.txs) bU),aU<|zC hC (AF l[l.length-1]!.txs[i]! (hbw.get bO)) O (F1 (.bool _)),aU<|BH O,xM O,aN O (by rw[hm];rfl) (xF O),aN O (by rw[hm];rfl) (xL O),aN O (by rw[hm];rfl)<|zV O,aN O (by rw[hm];rfl)<|zI i O,aN O (by rw[hm];rfl)<|zL O (b8 (l:=l[l.length-1]!.txs) bU),aN O (by rw[hm];rfl)<|zC hC (MN l[l.length-1]!.txs[i]! (hbw.get bO)) O (F1 (.bool _)),aN O (by rw[hm];rfl)<|zV O,aN O (by rw[hm];rfl)<|GZ 0 O,aN O (by rw[hm];rfl) λ_ _ H K=>R.neB (eU K 101 O) (eU K 103 O) H,aU<|zF O (by rw[hm];rfl),Zt⟩ ?_;refine W.cond O (λhc105=>?_) (λhc105=>?_)
         ·refine u4 1 (y1 2) (V1 2) ⟨O3 1 O,Zt⟩ ?_;exact W.ret (En O (by rw[CI (DI (.inl h1_) hz hc50 hc72) hc85 hno (v75 hc105) dU]<;>rfl))
         ·refine W.skip (u4 6 (y6 106 107 108 109 110 10) (V5 4 7 8 9 10) ⟨zV O,zV O,zV O,zP O,zD hC (q88 (K6 l) hsa (((K6 l).length-l[l.length-1]!.txs.length)+i) bO) O (F1 (.int _)),zA O,Zt⟩ ?_);refine u4 2 (y2 111 112) (V6 4 7 8 9 10 112) ⟨zV O,ZP O (kI 0 O),Zt⟩ ?_;refine W.cond O (λhc112=>?_) (λhc112=>?_)
          ·refine u4 2 (y2 113 2) (V1 2) ⟨zV O,zA O,Zt⟩ ?_;exact W.ret (En O (by rw[CI (DI (.inl h1_) hz hc50 hc72) hc85 hno (k39 hm hc105) (x90 hc112)]<;>rfl))
          ·refine W.skip ?_;refine n4 3 (y3 86 87 9) (V4 4 7 8 9) ⟨zV O,P1 1 O,zA O,Zt⟩ ?_;exact⟨⟨(by show i+1<=l[l.length-1]!.txs.length;omega),λq hq=>(u7.1 hq).elim (hno q) (λe=>e▸(k39 hm hc105).trans (x91 hc112))⟩,rfl⟩
        ·refine N0 18 [.y 88 _,.y 89 _,.y 90 _,.y 91 _,.y 92 _,.y 93 _,.y 94 _,.y 95 _,.x 96,.x 97,.x 98,.x 99,.x 100,.x 101,.x 102,.x 103,.x 104,.y 105 _] (V5 4 7 8 9 105) ⟨aU (xF O),aU (xL O),xM O,aU<|zI i O,aU<|zL O (b8 (l:=l[l.length-1]!.txs) bU),aU<|zC hC (AF l[l.length-1]!.txs[i]! (hbw.get bO)) O (F1 (.bool _)),aU<|BH O,xM O,R3 O (by rw[bfalse hm];rfl),R3 O (by rw[bfalse hm];rfl),R3 O (by rw[bfalse hm];rfl),R3 O (by rw[bfalse hm];rfl),R3 O (by rw[bfalse hm];rfl),R3 O (by rw[bfalse hm];rfl),R3 O (by rw[bfalse hm];rfl),R3 O (by rw[bfalse hm];rfl),R3 O (by rw[bfalse hm];rfl),aU<|EW O (by rw[bfalse hm];rfl) (kB true O),Zt⟩ ?_;refine G6 O (O) ?_;refine u4 1 (y1 2) (V1 2) ⟨O3 1 O,Zt⟩ ?_;exact W.ret (En O (by rw[CI (DI (.inl h1_) hz hc50 hc72) hc85 hno (v74 (bfalse hm)) dU]<;>rfl))
       ·obtain rfl:i=l[l.length-1]!.txs.length:=by omega
        refine W.exit (u4 1 (y1 2) (V1 2) ⟨O3 0 O,Zt⟩ ?_);exact W.ret (En O (by rw[WK (DI (.inl h1_) hz hc50 hc72) hno]<;>rfl))
theorem q70(l:List BlkS)(hl:allBl l):Fn Tryz.prog gl 17 [.sl none 69 (l.map J7)] (.tup [.int (UE l).1,.int (UE l).2]):=by
 refine Fo 21 Tryz.func17 O λC hC hD=>?_;have hl0:=hl.1;refine u4 2 (y2 2 3) (V1 0) ⟨O3 0 O,O3 0 O,Zt⟩ ?_;refine W.seq (u4 1 (y1 4) (V2 0 4) ⟨O3 0 O,Zt⟩ ?_);refine W.block ?_;refine UK l.length (λq__=>(∀ q<q__,YF (l.take (q+1))=0)) (λh=>⟨21,[(0,.sl none 69 (l.map J7)),(4,.int ((h:Nat):Int))],[]⟩) ⟨v6 _,λq h=>absurd h (g9 _)⟩ O λh hinv=>?_;obtain⟨hh,hno⟩:=hinv;have hh:h<=l.length:=hh;have hno:∀ q<h,YF (l.take (q+1))=0:=hno;refine W.seq (u4 4 (y4 6 7 8 9) (V3 0 4 9) ⟨zV O,zV O,P8 O,zS O,Zt⟩ ?_);refine g7 O (λhc9=>?_) (λhc9=>?_)
 ·refine W.skip (W.seq (W.block (u4 6 (y6 12 13 14 15 16 5) (V3 0 4 5) ⟨zV O,zV O,P1 1 O,λ_ _ H K=>k11 (0) ((h+1)) ((h+1)) (eU K 12 O) O (C4 (eU K 14 O)) O O bU bU O (by rw[J0,<- U6]) H,zC hC (u08 (l.take (h+1)) (k07 hl _) (by rw[v8];omega)) O (F1 (.int _)),zA O,Zt⟩ ?_)));refine u4 2 (y2 17 18) (V4 0 4 5 18) ⟨zV O,ZP O (kI 0 O),Zt⟩ ?_;refine W.cond O (λhc18=>?_) (λhc18=>?_)
  ·refine u4 4 (y4 19 20 2 3) (V2 2 3) ⟨zV O,zV O,zA O,zA O,Zt⟩ ?_;exact W.ret (Ends.many (.inr O) (.cons O O O Zt (.cons O O O Zt .nil)) (by rw[j12 hc9 hno (x90 hc18)]<;>rfl) (show[(2,true),(3,true)].Nodup by decide))
  ·refine W.skip ?_;refine n4 3 (y3 10 11 4) (V2 0 4) ⟨zV O,P1 1 O,zA O,Zt⟩ ?_;exact⟨⟨(by show h+1<=l.length;omega),λq hq=>(u7.1 hq).elim (hno q) (λe=>e▸x91 hc18)⟩,rfl⟩
 ·obtain rfl:h=l.length:=by omega
  refine W.exit (u4 2 (y2 2 3) (V2 2 3) ⟨O3 0 O,O3 0 O,Zt⟩ ?_);exact W.ret (Ends.many (.inr O) (.cons O O O Zt (.cons O O O Zt .nil)) (by rw[j11 hno]<;>rfl) (show[(2,true),(3,true)].Nodup by decide))
end
section
open Go.Proofs
set_option maxHeartbeats 1000000 in
theorem SA(l:List BlkS)(hl:allBl l)(sc:Hs):Fn Tryz.prog gl 24 [.sl none 69 (l.map J7),w7 sc] (.sl (some 121) 35 ((PE l sc).map KK)):=by
 refine Fo 71 Tryz.func24 O λC hC hD=>?_;have hsa:=JJ hl;have hal:=hsa.1;refine n5 2 [] (V2 0 1) Zt O (⟨O,_,R.box (gV 1 O) O O nU,⟨O,_,J9 (kN O) O nU,tW (V2 0 3) (B2 3) 71 O ?_⟩⟩);refine P4 3 (y3 11 12 5) [(2,12)] [(2,12)] (V2 3 5) ⟨xM O,aU λ_ _ H K=>l7 hC (CD l hl) (EvP.cons (eU K 11 O) O O EvP.nil) H,aU<|zO O,Zt⟩ O (tU O ?_);refine W.seq ?_;refine CB (s:=5) (d':=.sl none 38 ((K6 l).map ZY)) O O (MA _ _ _) ?_;refine n4 1 (y1 6) (V3 3 5 6) ⟨i6 O,Zt⟩ ?_;refine W.seq (u4 1 (y1 7) (V4 3 5 6 7) ⟨O3 0 O,Zt⟩ ?_);refine W.block ?_;refine O6 (s:=6) 121 35 O ?_;refine P2 ((K6 l).length) (λi=>⟨71,[(3,.ptr 3 0 []),(5,.sl none 38 ((K6 l).map ZY)),(6,.sl (some 121) 35 ((NC (K6 l) sc i).map KK)),(7,.int ((i:Nat):Int))],[(3,.var (w7 sc))]⟩) O λi hi=>?_;have hul:=FI hsa sc i hi;have hsi:=λ(h:i<(K6 l).length)=>hsa.get h;refine W.seq (u4 4 (y4 13 14 15 16) (V5 3 5 6 7 16) ⟨zV O,zV O,P8 O,zS O,Zt⟩ ?_);refine g7 O (λhc16=>?_) (λhc16=>?_)
 ·refine W.skip (W.seq (W.block (W.seq ?_)));have hsi:=hsi hc16;have hout:=hsi.2.2.2;refine n4 1 (y1 8) (V5 3 5 6 7 8) ⟨O3 0 O,Zt⟩ ?_;refine W.block ?_;refine P2 ((K6 l)[i]!.t.outs.length) (λk=>⟨71,[(3,.ptr 3 0 []),(5,.sl none 38 ((K6 l).map ZY)),(6,.sl (some 121) 35 ((NC (K6 l) sc i++GG (K6 l) i sc k).map KK)),(7,.int ((i:Nat):Int)),(8,.int ((k:Nat):Int))],[(3,.var (w7 sc))]⟩) (by rw[GG,m4]<;>rfl) λk hk=>?_;have hkl:=q76 (K6 l) i sc k;refine W.seq (u4 9 (y9 19 20 21 22 23 24 25 26 27) (V6 3 5 6 7 8 27) ⟨zV O,zV O,zV O,zI i O,r7 O,r7 O,zL O (mG (K6 l)),P8 O,zS O,Zt⟩ ?_);refine g7 O (λhc27=>?_) (λhc27=>?_)
  ·refine W.skip (W.seq (W.block (n5 11 (y9 30 31 32 33 34 35 36 37 38) (V6 3 5 6 7 8 38) ⟨zV O,zV O,zI i O,r7 O,r7 O,zL O (mG (K6 l)),zV O,zI k O,zL O (b8 (l:=((K6 l))[i]!.t.outs) bU),Zt⟩ O (I9 O (M9 O (tW (V6 3 5 6 7 8 9) (B7 9 3) 71 O ?_))))));refine n5 10 (y8 39 40 41 42 43 44 45 46) (V7 3 5 6 7 8 9 46) ⟨zV O,zV O,zI i O,r7 O,zL O (mG (K6 l)),zV O,λ_ _ H K=>W5 (d:=.u32 (nK k)) (eU K 44 O) O (O) H,λ_ _ H K=>P5 (l:=[.arr 32 1 ((List.replicate 32 0).map D.u8),.u32 0]) (l':=[_,_]) (.cons (eU K 43 O) (.cons (eU K 45 O) (.nil O))) ⟨⟨_,(eU K 43 O),O,O,y22 O⟩,⟨⟨_,(eU K 45 O),O,O,O⟩,Zt⟩⟩ H,Zt⟩ O (I9 O (M9 O (tW (V7 3 5 6 7 8 9 10) (i5 10 9 3) 71 O ?_)));refine W.seq ?_;by_cases h6:UF (K6 l)[i]!.t.outs[k]! sc=true
   ·refine N0 11 (g80 47 48 49 50 51 52 53 54 55 56 57) (V8 3 5 6 7 8 9 10 57) ⟨aU (xL O),aU (xL O),aU<|zD hC (HY (K6 l)[i]!.t.outs[k]! sc (hsi.2.1.outScript bO)) O (F1 (.bool _)),xM O,aT O (h6)<|zV O,aT O (h6)<|zV O,aT O (h6)<|P8 O,aT O (h6) (xL O),aT O (h6) λ_ _ H K=>Z7 hC (LG (K6 l) hsa (K6 l).length 0 ((K6 l)[i]!.id,nK k) bO dU) (Bc (Bp (eU K 51 O) O O) (Bc (Bp (eU K 53 O) O O) (Bc (Bp (kI 0 O) O O) (Bc (Bp (eU K 54 O) O O) Bn)))) (F1 (.bool _)) H,aT O (h6)<|BH O,aU<|zT O (h6),Zt⟩ ?_;refine W.cond O (λhc57=>?_) (λhc57=>?_)
    ·refine LS (m:=13) (an:=[0,0,0,4,0,0,48,112,240,510,1022,2047,4095]) hP dU O (its:=[.y 58 _,.y 59 _,.y 60 _,.y 61 _,.y 62 _,.y 63 _,.y 64 _,.y 65 _,.y 66 _,.y 67 _,.y 68 _,.y 69 _,.y 6 _]) (ks:=[(11,6),(12,69),(12,58)]) (kk:=[(11,6),(12,69)]) (live:=[3,5,6,7,8]) (env':=[(3,_),(5,_),(6,_),(7,_),(8,_)]) (⟨nU O,O,⟨aU λ_ _ H K=>R.al (K 6 _ O) H dU,aU (xL O),aU (xF O),aU (xL O),xM O,xM O,aU λ_ _ H K=>R.idxN (i) (SC.sl (K 62 _ O)) (C4 (eU K 63 O)) O bU H dU,aU λ_ _ H K=>R.fdE (K 64 _ O) H dU,aU λ_ _ H K=>R.ldE (K 65 _ O) (SC.sl (K 62 _ O)) (b8 (l:=(K6 l)) bU) O O O O H,aU λ_ _ H K=>P5 (l:=[.agg [.arr 32 1 ((List.replicate 32 0).map D.u8),.u32 0],.u64 0,.int 0]) (l':=[_,_,_]) (.cons (eU K 59 O) (.cons (eU K 61 O) (.cons (eU K 66 O) (.nil O)))) ⟨⟨_,(eU K 59 O),O,O,h24 O⟩,⟨⟨_,(eU K 61 O),O,O,O⟩,⟨⟨_,(eU K 66 O),O,O,O⟩,Zt⟩⟩⟩ H,aU λ_ _ H K=>J3 (z:=35) (.cons (eU K 67 O) .nil) ⟨⟨O,O,O⟩,Zt⟩ O H dU,aU λ_ _ H K=>R0 (Or.inr (K 58 _ O)) (K 6 _ O) (SrcO.sc (SC.sl (K 68 _ O)) (G5 O)) (show _=((NC (K6 l) sc i++GG (K6 l) i sc (k+1)).map KK) from(y37 _ h6 hc57)) (by simp only[z6,q9,j2,j3];omega) H dU dU,aU λ_ _ H K=>R.asgO (K 69 _ O) O H dU,Zt⟩,O,O,O⟩) O (bx':=[(10,.var _),(9,.var _),(3,.var _)]) O (n':=71) O (tW [(3,_),(5,_),(6,_),(7,_),(8,_)] [(10,.var _),(9,.var _),(3,.var _)] 71 O ?_);refine H6 [3] (bx':=(B2 3)) O O O (o8 hD O) ?_;refine n4 3 (y3 28 29 8) (V5 3 5 6 7 8) ⟨zV O,P1 1 O,zA O,Zt⟩ ?_;exact⟨bU,(by first|(rw[z69 (bfalse h6)]<;>rfl)|(rw[z68 hc57]<;>rfl)|rfl)⟩
    ·refine W.skip ?_;refine E9 (V5 3 5 6 7 8) (i5 10 9 3) 71 O ?_;refine H6 [3] (bx':=(B2 3)) O O O (o8 hD O) ?_;refine n4 3 (y3 28 29 8) (V5 3 5 6 7 8) ⟨zV O,P1 1 O,zA O,Zt⟩ ?_;exact⟨bU,(by first|(rw[z69 (bfalse h6)]<;>rfl)|(rw[z68 hc57]<;>rfl)|rfl)⟩
   ·refine N0 11 [.y 47 _,.y 48 _,.y 49 _,.y 50 _,.x 51,.x 52,.x 53,.x 54,.x 55,.x 56,.y 57 _] (V8 3 5 6 7 8 9 10 57) ⟨aU (xL O),aU (xL O),aU<|zD hC (HY (K6 l)[i]!.t.outs[k]! sc (hsi.2.1.outScript bO)) O (F1 (.bool _)),xM O,O5 O (bfalse h6),O5 O (bfalse h6),O5 O (bfalse h6),O5 O (bfalse h6),O5 O (bfalse h6),O5 O (bfalse h6),aU<|FQ O (bfalse h6) (kB false O),Zt⟩ ?_;refine Y7 O (O) ?_;refine W.skip ?_;refine E9 (V5 3 5 6 7 8) (i5 10 9 3) 71 O ?_;refine H6 [3] (bx':=(B2 3)) O O O (o8 hD O) ?_;refine n4 3 (y3 28 29 8) (V5 3 5 6 7 8) ⟨zV O,P1 1 O,zA O,Zt⟩ ?_;exact⟨bU,(by first|(rw[z69 (bfalse h6)]<;>rfl)|(rw[z68 hc57]<;>rfl)|rfl)⟩
  ·obtain rfl:k=(K6 l)[i]!.t.outs.length:=by omega
   refine W.exit ?_;refine n4 3 (y3 17 18 7) (V4 3 5 6 7) ⟨zV O,P1 1 O,zA O,Zt⟩ ?_;exact⟨bU,(by rw[NC]<;>rfl)⟩
 ·obtain rfl:i=(K6 l).length:=by omega
  refine W.exit (P4 2 (y2 70 4) [(0,6),(1,70)] [(0,6),(1,70)] (V1 4) ⟨aU λ_ _ H K=>ZX (K 6 _ O) O H dU,aU<|zO O,Zt⟩ O (tU O ?_));exact W.ret (Eo O)
theorem j09(l:List BlkS)(hl:allBl l)(sc:Hs):Fn Tryz.prog gl 26 [.sl none 69 (l.map J7),w7 sc] (.u64 (g05 (PE l sc))):=by
 refine Fo 25 Tryz.func26 O λC hC hD=>?_;have hsa:=JJ hl;have hal:=hsa.1;have hul:=FI hsa sc (K6 l).length (z5 _);have hul:(PE l sc).length<=1000*(K6 l).length:=hul;refine n5 2 [] (V2 0 1) Zt O (⟨O,_,R.box (gV 1 O) O O nU,⟨O,_,J9 (kW (.int .u64 0) (.u64 0) O) O nU,tW (V2 0 3) (B2 3) 25 O ?_⟩⟩);refine u4 1 (y1 5) (V3 0 3 5) ⟨q42 (.u64 0) O,Zt⟩ ?_;refine P4 4 (y4 8 9 10 6) [(3,10)] [(3,10)] (V2 5 6) ⟨xM O,aU (xL O),aU<|zD hC (SA l hl sc) O (MH _ _ _),aU<|zO O,Zt⟩ O (tU O ?_);refine W.seq (u4 1 (y1 7) (V3 5 6 7) ⟨O3 0 O,Zt⟩ ?_);refine W.block ?_;refine P2 ((PE l sc).length) (λi=>⟨25,[(5,.u64 (g06 (PE l sc) i)),(6,.sl (some 121) 35 ((PE l sc).map KK)),(7,.int ((i:Nat):Int))],[(3,.var (w7 sc))]⟩) O λi hi=>?_;refine W.seq (u4 4 (y4 11 12 13 14) (V4 5 6 7 14) ⟨zV O,zM O,u47 O (lN _),zS O,Zt⟩ ?_);refine g7 O (λhc14=>?_) (λhc14=>?_)
 ·refine W.skip (W.seq (W.block ?_));refine n4 8 (y8 17 18 19 20 21 22 23 5) (V3 5 6 7) ⟨zV O,zM O,zV O,YD i O,r7 O,XA O (mG (PE l sc)),zB O,zA O,Zt⟩ ?_;refine n4 3 (y3 15 16 7) (V3 5 6 7) ⟨zV O,P1 1 O,zA O,Zt⟩ ?_;exact⟨bU,(by rw[g06]<;>rfl)⟩
 ·obtain rfl:i=(PE l sc).length:=by omega
  refine W.exit (u4 2 (y2 24 4) (V1 4) ⟨zV O,zA O,Zt⟩ ?_);exact W.ret (Eo O)
end
section
open Go.Proofs
set_option maxHeartbeats 2000000 in
theorem j31(raw:List BlkS)(hraw:u07 raw)(hrw:y35 raw)(ps:List PlS)(hps:k89 ps)(x:TnS)(key:UInt8)(sc:Hs):Fn Tryz.prog gl 4 [.sl none 69 (raw.map J7),.sl none 3 (ps.map SS),g02 x,.u8 key,w7 sc] (.bool true):=by
 refine Fo 147 Tryz.func4 O λC hC hD=>?_;refine n5 3 [] (V5 0 1 2 3 4) Zt O (⟨O,_,R.box (gV 2 O) O O nU,⟨O,_,R.box (gV 4 O) O O nU,⟨O,_,J9 (kB false O) O nU,tW (V5 0 1 3 7 9) (B7 9 7) 147 O ?_⟩⟩⟩);refine W.seq (W.seq ?_);by_cases h1:w85 raw
 ·refine N0 8 (y8 21 22 23 24 25 26 27 28) (V6 0 1 3 7 9 28) ⟨xM O,aU<|zC hC (z25 raw hraw) O (F1 (.bool _)),aU<|BH O,xM O,aN O (by rw[dT h1];rfl)<|zV O,aN O (by rw[dT h1];rfl)<|P8 O,aN O (by rw[dT h1];rfl)<|OE 14 O,aU<|zF O (by rw[dT h1];rfl),Zt⟩ ?_;refine g7 O (λhc28=>?_) (λhc28=>?_)
  ·refine u4 2 (y2 29 10) (V1 10) ⟨λ_ _ H _=>Z7 hC (VH) Bn (F1 (.bool _)) H,zA O,Zt⟩ ?_;exact W.ret (Eo O)
  ·refine W.skip (n5 3 (y1 30) (V6 0 1 3 7 9 30) ⟨λ_ _ H _=>l7 hC (k67) (EvP.cons (kI 10 O) O O (EvP.cons (kW (.int .u32 10) (.u32 10) O) O O EvP.nil)) H,Zt⟩ O (I9 O (M9 O (tW (V6 0 1 3 7 9 11) (i5 11 9 7) 147 O ?_))));refine u4 4 (y4 31 32 33 12) (V5 0 3 7 9 12) ⟨xL O,zV O,λ_ _ H K=>l7 hC (z36 ps hps) (EvP.cons (eU K 31 O) O O (EvP.cons (eU K 32 O) O O EvP.nil)) H,zA O,Zt⟩ ?_;refine P4 7 (y7 34 35 36 37 38 39 13) [(6,39)] [(6,39)] (V3 3 9 13) ⟨xM O,xM O,xM O,aU (xL O),aU λ_ _ H K=>l7 hC (j01 (BJ ps) x (q28 ps).1 (MF ps).2.1 (q28 ps).2) (EvP.cons (eU K 36 O) O O (EvP.cons (eU K 37 O) O O EvP.nil)) H,aU λ_ _ H K=>J3 (z:=1) (.cons (eU K 34 O) (.cons (eU K 35 O) (.cons (eU K 38 O) .nil))) ⟨⟨O,O,O⟩,⟨O,O,O⟩,⟨O,O,O⟩,Zt⟩ O H dU,aU<|zO O,Zt⟩ O (tU O ?_);refine W.seq (W.seq ?_);have hbs:=(MF ps).1;have hsm:=q28 ps;have hb1:=(MF ps).2.1
   obtain⟨al,hal⟩:∃ al,al=(k82 raw (BJ ps) (FU (BJ ps) x)):=⟨_,rfl⟩
   rw[show([.sl none 69 (raw.map J7),.sl none 69 ((BJ ps).map J7),.sl none 69 ((FU (BJ ps) x).map J7)]:List D)=al.map h09 from by rw[hal];rfl]
   have hall:∀ i<3,allBl al[i]!:=by rw[hal];exact z39 (y82 h1 hrw) hbs (u63 hsm.1 hb1 hsm.2 x).all
   have hlen:al.length=3:=by rw[hal];rfl
   refine H6 [9] (bx':=(B2 9)) O O O (o8 hD O) ?_;refine n4 1 (y1 14) (V4 3 9 13 14) ⟨O3 0 O,Zt⟩ ?_;refine W.block ?_;refine P2 3 (λi=>⟨147,[(3,.u8 key),(9,.ptr 9 0 []),(13,.sl (some 37) 1 (al.map h09)),(14,.int ((i:Nat):Int))],[(9,.var (w7 sc))]⟩) O λi hi=>?_;refine W.seq (u4 4 (y4 40 41 42 43) (V5 3 9 13 14 43) ⟨zV O,zM O,u47 O (lN _),zS O,Zt⟩ ?_);refine g7 O (λhc43=>?_) (λhc43=>?_)
   ·refine W.skip (W.seq (W.block (W.seq ?_)));have hA:=hall i (by omega);refine n4 10 (VU 47 48 49 50 51 46 52 53 15 16) (V6 3 9 13 14 15 16) ⟨zM O,zV O,YD i O,XA O (mG al),zC hC (NE al[i]! hA) O (FrsR.two (.int _) (.int _)),zY O,zX O,zX O,zA O,zA O,Zt⟩ ?_;refine u4 10 (VU 55 56 57 58 59 54 60 61 17 18) (V8 3 9 13 14 15 16 17 18) ⟨zM O,zV O,YD i O,XA O (mG al),zC hC (q70 al[i]! hA) O (FrsR.two (.int _) (.int _)),zY O,zX O,zX O,zA O,zA O,Zt⟩ ?_;refine W.seq (j70 8 (y8 62 63 64 65 66 67 68 69) (V6 3 9 13 14 18 69) ⟨xM O,xM O,aU<|zB O,xM O,aN O (k47 hA)<|zV O,aN O (k47 hA)<|zV O,aN O (k47 hA)<|zB O,aU<|zF O (k47 hA),Zt⟩ ?_);refine Y7 O (g46 hA) ?_;refine W.skip (W.seq (u4 2 (y2 70 71) (V5 3 9 13 14 71) ⟨zV O,ZP O (kI 0 O),Zt⟩ ?_));refine W.cond O (λhc71=>?_) (λhc71=>?_)
    ·refine W.exit ?_;refine n4 3 (y3 44 45 14) (V4 3 9 13 14) ⟨zV O,P1 1 O,zA O,Zt⟩ ?_;exact⟨bU,rfl⟩
    ·refine W.skip (W.seq ?_);have hr:=g89 hA hc71;refine KF 6 [0,1,3,0,15,31] hP dU (y6 72 73 74 75 76 19) [(5,76)] [(5,76)] (V5 3 9 13 14 19) ⟨xM O,aU λ_ _ H K=>R.bin (eU K 72 O) (kW (.int .u8 12) (.u8 12) O) O dU H,aU<|zC hC (PH (key%12)) O (F1 (X6 _)),aU (xL O),aU λ_ _ H K=>J3 (z:=32) (.cons (eU K 74 O) (.cons (eU K 75 O) .nil)) ⟨⟨O,O,O⟩,⟨⟨O,O,O⟩,Zt⟩⟩ O H dU,aU<|zO O,Zt⟩ O (tW (V5 3 9 13 14 19) (B2 9) 147 O ?_);refine W.seq ?_
     obtain⟨ks,hks⟩:∃ ks,ks=[GU (key%12),sc]:=⟨_,rfl⟩
     rw[show([w7 (GU (key%12)),w7 sc]:List D)=ks.map w7 from by rw[hks];rfl]
     have hkl:ks.length=2:=by rw[hks];rfl
     refine n4 1 (y1 20) (V6 3 9 13 14 19 20) ⟨O3 0 O,Zt⟩ ?_;refine W.block ?_;refine P2 2 (λk=>⟨147,[(3,.u8 key),(9,.ptr 9 0 []),(13,.sl (some 37) 1 (al.map h09)),(14,.int ((i:Nat):Int)),(19,.sl (some 23) 32 (ks.map w7)),(20,.int ((k:Nat):Int))],[(9,.var (w7 sc))]⟩) O λk hk=>?_;refine W.seq (u4 4 (y4 77 78 79 80) (V7 3 9 13 14 19 20 80) ⟨zV O,zM O,u47 O (lN _),zS O,Zt⟩ ?_);refine g7 O (λhc80=>?_) (λhc80=>?_)
     ·refine W.skip (W.seq (W.block (W.seq ?_)));refine KF 63 (0::0::3::7::0::0::48::112::255::0::0::1536::3584::0::0::24576::57344::131071::262143::524287::1048575::2097151::2097151::8388607::16777215::2097151::2097151::102760447::236978175::536870911::2097151::2097151::3223322623::7518289919::2097151::2097151::51541704703::120261181439::274877906943::549755813887::1099511627775::2199023255551::4398046511103::8796093022207::8796093022207::35184372088831::70368744177663::8796093022207::8796093022207::431008558088191::993958511509503::2251799813685247::8796093022207::8796093022207::13519594975133695::31533993484615679::8796093022207::8796093022207::216181578206806015::504411954358517759::1152921504606846975::2305843009213693951::4611686018427387903::[]) hP dU (.y 83 _::.y 84 _::.y 85 _::.y 86 _::.y 87 _::.y 88 _::.y 89 _::.y 90 _::.y 91 _::.y 92 _::.y 93 _::.y 94 _::.y 95 _::.y 96 _::.y 97 _::.y 98 _::.y 99 _::.y 100 _::.y 101 _::.y 102 _::.y 103 _::.y 104 _::.y 105 _::.y 106 _::.y 107 _::.y 108 _::.y 109 _::.y 110 _::.y 111 _::.y 112 _::.y 113 _::.y 114 _::.y 115 _::.y 116 _::.y 117 _::.y 118 _::.y 119 _::.y 120 _::.y 121 _::.y 122 _::.y 123 _::.y 124 _::.y 125 _::.y 126 _::.y 127 _::.y 128 _::.y 129 _::.y 130 _::.y 131 _::.y 132 _::.y 133 _::.y 134 _::.y 135 _::.y 136 _::.y 137 _::.y 138 _::.y 139 _::.y 140 _::.y 141 _::.y 142 _::.y 143 _::.y 144 _::.y 145 _::[]) [] [] (V7 3 9 13 14 19 20 145) ⟨aU<|zM O,xM O,aU<|YD i O,aU<|XA O (mG al),aU<|zM O,xM O,aU<|YD k O,aU<|XA O (mG ks),aU<|zD hC (z00 al[i]! hA ks[k]!) O (q14 _ _ _),aU<|zM O,xM O,aU<|YD i O,aU<|XA O (mG al),aU<|zM O,xM O,aU<|YD k O,aU<|XA O (mG ks),aU<|zD hC (j38 al[i]! hA ks[k]!) O (q14 _ _ _),aU λ_ _ H K=>Z7 hC (x27 _ _ (v5 (w68 hA _) dU) (v5 (w31 hA _) dU)) (Bc (Bor.sc (SC.sl (K 91 _ O)) (J6 k77)) (Bc (Bor.sc (SC.sl (K 100 _ O)) (J6 k77)) Bn)) (F1 (.bool _)) H,aU<|BH O,xM O,aN O (YI hA hr _)<|zM O,aN O (YI hA hr _)<|zV O,aN O (YI hA hr _)<|YD i O,aN O (YI hA hr _)<|XA O (mG al),aN O (YI hA hr _)<|zM O,aN O (YI hA hr _)<|zV O,aN O (YI hA hr _)<|YD k O,aN O (YI hA hr _)<|XA O (mG ks),aN O (YI hA hr _)<|zD hC (WE al[i]! hA ks[k]!) O (MH _ _ _),aN O (YI hA hr _)<|zM O,aN O (YI hA hr _)<|zV O,aN O (YI hA hr _)<|YD i O,aN O (YI hA hr _)<|XA O (mG al),aN O (YI hA hr _)<|zM O,aN O (YI hA hr _)<|zV O,aN O (YI hA hr _)<|YD k O,aN O (YI hA hr _)<|XA O (mG ks),aN O (YI hA hr _)<|zD hC (SA al[i]! hA ks[k]!) O (MH _ _ _),aN O (YI hA hr _) λ_ _ H K=>Z7 hC (x26 _ _ (v5 (z06 hA _) dU) (v5 (u91 hA _) dU)) (Bc (Bor.sc (SC.sl (K 112 _ O)) (J6 k76)) (Bc (Bor.sc (SC.sl (K 121 _ O)) (J6 k76)) Bn)) (F1 (.bool _)) H,aN O (YI hA hr _)<|BH O,aU<|zF O (YI hA hr _),xM O,aN O (GB hA hr _)<|zM O,aN O (GB hA hr _)<|zV O,aN O (GB hA hr _)<|YD i O,aN O (GB hA hr _)<|XA O (mG al),aN O (GB hA hr _)<|zM O,aN O (GB hA hr _)<|zV O,aN O (GB hA hr _)<|YD k O,aN O (GB hA hr _)<|XA O (mG ks),aN O (GB hA hr _)<|zD hC (k54 al[i]! hA ks[k]!) O (F1 (.u64 _)),aN O (GB hA hr _)<|zM O,aN O (GB hA hr _)<|zV O,aN O (GB hA hr _)<|YD i O,aN O (GB hA hr _)<|XA O (mG al),aN O (GB hA hr _)<|zM O,aN O (GB hA hr _)<|zV O,aN O (GB hA hr _)<|YD k O,aN O (GB hA hr _)<|XA O (mG ks),aN O (GB hA hr _)<|zD hC (j09 al[i]! hA ks[k]!) O (F1 (.u64 _)),aN O (GB hA hr _)<|zB O,aU<|zF O (GB hA hr _),Zt⟩ O (tW (V7 3 9 13 14 19 20 145) (B2 9) 147 O ?_);refine Y7 O (g93 hA hr _) ?_;refine W.skip ?_;refine n4 3 (y3 81 82 20) (V6 3 9 13 14 19 20) ⟨zV O,P1 1 O,zA O,Zt⟩ ?_;exact⟨bU,rfl⟩
     ·obtain rfl:k=2:=by omega
      refine W.exit ?_;refine n4 3 (y3 44 45 14) (V4 3 9 13 14) ⟨zV O,P1 1 O,zA O,Zt⟩ ?_;exact⟨bU,rfl⟩
   ·obtain rfl:i=3:=by omega
    refine W.exit (u4 2 (y2 146 10) (V1 10) ⟨λ_ _ H _=>Z7 hC (VH) Bn (F1 (.bool _)) H,zA O,Zt⟩ ?_);exact W.ret (Eo O)
 ·refine N0 8 [.y 21 _,.y 22 _,.y 23 _,.y 24 _,.x 25,.x 26,.x 27,.y 28 _] (V6 0 1 3 7 9 28) ⟨xM O,aU<|zC hC (z25 raw hraw) O (F1 (.bool _)),aU<|BH O,xM O,R3 O (by rw[dF h1];rfl),R3 O (by rw[dF h1];rfl),R3 O (by rw[dF h1];rfl),aU<|EW O (by rw[dF h1];rfl) (kB true O),Zt⟩ ?_;refine G6 O (O) ?_;refine u4 2 (y2 29 10) (V1 10) ⟨λ_ _ H _=>Z7 hC (VH) Bn (F1 (.bool _)) H,zA O,Zt⟩ ?_;exact W.ret (Eo O)
end
section
open Go.ChangeShapes Go.WideShapes
structure Rd(P:Program)(t:TypeId)(z:Nat){α:Type}(f:α->D)(q:α->Prop):Prop where
 cells:P.cellsOf t=z
 sz:∀ a,q a->(f a).sz=z
 rd:∀ {H:Type} {enc:TypeId×Value->H} {w:World} {n:Nat} {cs:List Value} {x:DataW H×List MemPlace},DataW.trod enc P w 0 (λ_=>true) true n t cs=some x ->
  (x.1.weights P t).all (·<=reachBytes)=true->∃ a,q a/\Rc w (λx=>x) (λb=>b<w.heap.size) (λ_=>False) false (f a) cs []
variable{P:Program}{t e z:Nat}
theorem Rd.bool(ht:P.underlying t=some .bool)(hz:P.cellsOf t=1):Rd P t 1 D.bool (λ_=>True):=
 ⟨hz,λ_ _=>rfl,λh _=>by obtain⟨b,rfl,_⟩:=DataW.trod_bool ht h;exact⟨b,trivial,.bool b⟩⟩
theorem Rd.u8(ht:P.underlying t=some (.int .u8))(hz:P.cellsOf t=1):Rd P t 1 D.u8 (λ_=>True):=
 ⟨hz,λ_ _=>rfl,λh _=>by
  obtain⟨n,rfl,_,hw⟩:=DataW.trod_int ht h;simp[Lit.wf,IntKind.min,IntKind.max,IntKind.signed,IntKind.bits] at hw;refine⟨UInt8.ofNat n.toNat,trivial, ?_⟩
  have:((UInt8.ofNat n.toNat).toNat:Int)=n:=by simp[N1];omega
  have h1:=Rc.u8 (w:=‹World›) (ρ:=λx=>x) (G:=λb=>b<(‹World›).heap.size) (L:=λ_=>False) (p:=false) (UInt8.ofNat n.toNat);rw[this] at h1
  exact h1⟩
theorem Rd.u32(ht:P.underlying t=some (.int .u32))(hz:P.cellsOf t=1):Rd P t 1 D.u32 (λ_=>True):=
 ⟨hz,λ_ _=>rfl,λh _=>by
  obtain⟨n,rfl,_,hw⟩:=DataW.trod_int ht h;simp[Lit.wf,IntKind.min,IntKind.max,IntKind.signed,IntKind.bits] at hw;refine⟨UInt32.ofNat n.toNat,trivial, ?_⟩
  have:((UInt32.ofNat n.toNat).toNat:Int)=n:=by simp[Y0];omega
  have h1:=Rc.u32 (w:=‹World›) (ρ:=λx=>x) (G:=λb=>b<(‹World›).heap.size) (L:=λ_=>False) (p:=false) (UInt32.ofNat n.toNat);rw[this] at h1
  exact h1⟩
theorem Rd.u64(ht:P.underlying t=some (.int .u64))(hz:P.cellsOf t=1):Rd P t 1 D.u64 (λ_=>True):=
 ⟨hz,λ_ _=>rfl,λh _=>by
  obtain⟨n,rfl,_,hw⟩:=DataW.trod_int ht h;simp[Lit.wf,IntKind.min,IntKind.max,IntKind.signed,IntKind.bits] at hw;refine⟨UInt64.ofNat n.toNat,trivial, ?_⟩
  have:((UInt64.ofNat n.toNat).toNat:Int)=n:=by simp[U9];omega
  have h1:=Rc.u64 (w:=‹World›) (ρ:=λx=>x) (G:=λb=>b<(‹World›).heap.size) (L:=λ_=>False) (p:=false) (UInt64.ofNat n.toNat);rw[this] at h1
  exact h1⟩
theorem UM{H:Type}{p:Nat->Bool}{l:List (DataW H)}(h:(DataW.weightsAll P e l).all p=true):∀ d∈l,(d.weights P e).all p=true:=by
 induction l with
 | nil=>intro d hd;cases hd
 | cons x r ih=>
  simp only[DataW.weightsAll,QX,u6] at h;intro d hd
  rcases w8.1 hd with rfl|hd
  ·exact h.1
  ·exact ih h.2 d hd
theorem L9{H:Type}{p:Nat->Bool}:∀ {ts:List TypeId} {l:List (DataW H)},(DataW.weightsEach P ts l).all p=true->∀ (i:Nat) (t:TypeId) (d:DataW H),ts[i]? = some t->l[i]? = some d->(d.weights P t).all p=true:=by
 intro ts
 induction ts with
 | nil=>intro l _ i t d ht;simp at ht
 | cons t0 ts ih=>
  intro l h i t d ht hd
  cases l with
  | nil=>simp at hd
  | cons x r=>
   simp only[DataW.weightsEach,QX,u6] at h
   cases i with
   | zero=>simp at ht hd;subst ht;subst hd;exact h.1
   | succ i=>exact ih h.2 i t d (by simpa using ht) (by simpa using hd)
theorem WI{α:Type}{n:Nat}{p:Nat->α->Prop}(h:∀ i,i<n->∃ a,p i a):∃ l:List α,l.length=n/\∀ i (hi:i<l.length),p i l[i]:=by
 induction n with
 | zero=>exact⟨[],rfl,λi hi=>by simp at hi⟩
 | succ n ih=>
  obtain⟨l,hl,hp⟩:=ih (λi hi=>h i (by omega));obtain⟨a,ha⟩:=h n (by omega);refine⟨l++[a],by simp[hl],λi hi=>?_⟩
  rcases G3 i l.length with h1|h1
  ·rw[o0 h1];exact hp i h1
  ·have:i=n:=by simp at hi;omega
   subst this;rw[K9 h1];simpa [hl] using ha
theorem TI{w:World}{b off n:Nat}{c:Array Value}{ty:TypeId}{fz:Nat×Nat}{cs:List Value}(hb:w.heap[b]? = some (.cells c ty fz))(h:w.cells? 0 ⟨b,off,none⟩ n=some cs)(hn:0<n) :
 off+n<=c.size/\cs=(c.toList.drop off).take n:=by
 obtain⟨_,hl,hc⟩:=World.cells?_some h
 have hc':∀ i,i<n->c[off+i]? = cs[i]?:=λi hi=>by
  have:=hc i hi;rw[s6,cell_of_row w b _ c ty fz hb] at this;exact this
 have h1:=hc' (n-1) (by omega)
 have h2:off+(n-1)<c.size:=by
  rw[j9 (by omega)] at h1;exact(j8.1 h1).1
 refine⟨by omega, ?_⟩;apply J8;intro i;rw[p8];split
 ·rw[Z2];rw[<- hc' i (by assumption)];simp
 ·rw[U1 (by omega)]
theorem Rd.sl{α:Type}{f:α->D}{q:α->Prop}(ht:P.underlying t=some (.slice e))(hz:P.cellsOf t=1)(h0:0<z)(hby:0<P.bytesOf e)(he:Rd P e z f q) :
 Rd P t 1 (λl:List α=>.sl none z (l.map f)) (λl=>l.length<=140737488355328/\∀ x∈l,q x):=
 ⟨hz,λ_ _=>rfl,λ{H enc w n cs x} h hwt=>by
  rcases Go.Deep.open_slice ht h with ⟨rfl,_⟩|⟨a,len,cap,m,n',Dd,Pl,rfl,_,hlc,hcm,hm,rfl,hx⟩
  ·exact⟨[],⟨by simp,by simp⟩,.slN none z⟩
  ·simp only[w5] at hm;have hx:=λi (hi:i<cap)=>hx i (by omega);simp only[DataW.weights,ht,I8,QX,u6,K2,z6,Y3] at hwt;obtain⟨hw1,hw2,hw3⟩:=hwt;have hw4:∀ i,i<len->((Dd i).weights P e).all (·<=reachBytes)=true:=λi hi=>UM hw2 _ (Q5.2 ⟨i,z7.2 hi,rfl⟩)
   have hlen:len<=140737488355328:=by
    have h6:len*1<=(len+(m-len))*P.bytesOf e:=QF (by omega) hby
    simp only[reachBytes] at hw1;omega
   rcases I3 cap with rfl|hcap
   ·have:len=0:=by omega
    subst this;exact⟨[],⟨by simp,by simp⟩,.slE none z a⟩
   ·rw[he.cells] at hx;obtain⟨b,off,sp⟩:=a;obtain⟨cs0,hc0,_⟩:=hx 0 hcap;obtain⟨_,hl0,hv0⟩:=World.cells?_some hc0;have h1:=hv0 0 h0;rw[j9 (by omega)] at h1
    have hblk:∃ c ty fz,w.heap[b]? = some (.cells c ty fz)/\sp=none:=by
     have e0:((⟨b,off,sp⟩:Addr).add (0*z)).add 0=⟨b,off,sp⟩:=by simp[Addr.add]
     rw[e0] at h1;unfold World.cell? at h1;simp only at h1;split at h1
     ·rename_i c ty fz hh
      cases sp with
      | none=>exact⟨c,ty,fz,hh,rfl⟩
      | some s=>simp at h1
     ·cases h1
    obtain⟨c,ty,fz,hb,rfl⟩:=hblk
    have hrow:∀ i,i<cap->off+i*z+z<=c.size/\(i<len->∃ a,q a/\Rc w (λx=>x) (λb=>b<w.heap.size) (λ_=>False) false (f a) ((c.toList.drop (off+i*z)).take z) []):=λi hi=>by
     obtain⟨cs',h2,h3⟩:=hx i hi;rw[s6] at h2;obtain⟨h4,rfl⟩:=TI hb h2 h0;exact⟨h4,λhi=>he.rd h3 (hw4 i hi)⟩
    obtain⟨l,hl,hp⟩:=WI (λi hi=>(hrow i (by omega:i<cap)).2 hi:∀ i,i<len->_)
    have hsz:off+cap*z<=c.size:=by
     have h5:=(hrow (cap-1) (by omega)).1
     have:(cap-1)*z+z=cap*z:=by rw[<- Nat.succ_mul];congr 1;omega
     omega
    have hlz:len*z<=cap*z:=u0 z hlc;refine⟨l,⟨by omega,λy hy=>?_⟩, ?_⟩
    ·obtain⟨i,hi,rfl⟩:=c9.1 hy;exact(hp i hi).1
    ·have:=Rc.slI (w:=w) (ρ:=λx=>x) (G:=λb=>b<w.heap.size) (L:=λ_=>False) (p:=false) b off c ty fz cap z (l.map f) hb (j8.1 hb).1 (by simp;omega) (by simp[hl];omega)
      (λi hi=>by simp only[n9];exact(hp i (by simpa using hi)).2)
     simpa [hl] using this⟩
theorem Rd.arr{α:Type}{f:α->D}{q:α->Prop}{n zz:Nat}(ht:P.underlying t=some (.array n e))(hz:P.cellsOf t=zz)(hzz:zz=n*z)(he:Rd P e z f q) :
 Rd P t zz (λl:List α=>.arr n z (l.map f)) (λl=>l.length=n/\∀ x∈l,q x):=
 ⟨hz,λ_ _=>by simp[hzz],λ{H enc w m cs x} h hwt=>by
  obtain⟨xs,m',_,rfl,hlen,hxl,hx⟩:=DataW.trod_array ht h;rw[hz] at hlen;rw[he.cells] at hx
  obtain⟨l,hl,hp⟩:=WI (p:=λi a=>q a/\Rc w (λx=>x) (λb=>b<w.heap.size) (λ_=>False) false (f a) ((cs.drop (i*z)).take z) []) (n:=n) (λi hi=>by
   have:=hx i hi;rw[j9 (by omega)] at this;simp only[DataW.weights,ht] at hwt
   exact he.rd this (UM hwt _ (Q5.2 ⟨_,d7 _,rfl⟩)))
  refine⟨l,⟨hl,λy hy=>?_⟩,.arr n z _ cs (by simpa using hl) (by omega) (λi hi=>by simp only[n9];exact(hp i (by simpa using hi)).2)⟩;obtain⟨i,hi,rfl⟩:=c9.1 hy
  exact(hp i hi).1⟩
theorem Rd.map{α β:Type}{f:α->D}{q:α->Prop}{g:β->D}{q':β->Prop}(h:Rd P t z f q)(m:α->β)(hm:∀ a,q a->q' (m a)/\g (m a)=f a)(hs:∀ b,q' b->(g b).sz=z):Rd P t z g q':=
 ⟨h.cells,hs,λhx hw=>by
  obtain⟨a,ha,hr⟩:=h.rd hx hw;obtain⟨h1,h2⟩:=hm a ha
  exact⟨m a,h1,by rw[h2];exact hr⟩⟩
structure RdF(P:Program)(off:Nat)(fs:List Field)(e:Nat){α:Type}(f:α->List D)(q:α->Prop):Prop where
 sz:∀ a,q a->off+I2 (f a)=e
 rd:∀ {H:Type} {enc:TypeId×Value->H} {w:World} {n:Nat} {cs:List Value},(∀ fld∈fs,∃ x,DataW.trod enc P w 0 (λ_=>true) true n fld.type ((cs.drop fld.offset).take (P.cellsOf fld.type))=some x/\(x.1.weights P fld.type).all (·<=reachBytes)=true) ->
  ∃ a,q a/\∀ k (hk:k<(f a).length),Rc w (λx=>x) (λb=>b<w.heap.size) (λ_=>False) false (f a)[k] ((cs.drop (off+offk (f a) k)).take (f a)[k].sz) []
theorem RdF.nil{off:Nat}:RdF P off [] off (λ_:Unit=>[]) (λ_=>True):=
 ⟨λ_ _=>by simp,λ_=>⟨(),trivial,λk hk=>by simp at hk⟩⟩
theorem RdF.cons{α β:Type}{f:α->D}{q:α->Prop}{g:β->List D}{q':β->Prop}{off e':Nat}{fld:Field}{fs:List Field}(h:Rd P fld.type z f q)(ho:fld.offset=off)(hr:RdF P (off+z) fs e' g q') :
 RdF P off (fld::fs) e' (λa:α×β=>f a.1::g a.2) (λa=>q a.1/\q' a.2):=
 ⟨λa ha=>by have:=hr.sz a.2 ha.2;have:=h.sz a.1 ha.1;simp only[S3];omega,λ{H enc w n cs} hx=>by
  obtain⟨x,h1,hw⟩:=hx fld (by simp);rw[ho,h.cells] at h1;obtain⟨a,ha,hra⟩:=h.rd h1 hw;obtain⟨b,hb,hrb⟩:=hr.rd (λf hf=>hx f (j5 _ hf));refine⟨(a,b),⟨ha,hb⟩,λk hk=>?_⟩
  cases k with
  | zero=>simpa [offk,h.sz a ha] using hra
  | succ k=>
   have:=hrb k (by simpa using hk);simp only[offk,J1,S3,J4,h.sz a ha];rw[<- U5]
   exact this⟩
theorem Rd.struct{α:Type}{g:α->List D}{q:α->Prop}{fs:Array Field}(ht:P.underlying t=some (.struct fs))(hz:P.cellsOf t=z)(h:RdF P 0 fs.toList z g q):Rd P t z (λa=>.agg (g a)) q:=
 ⟨hz,λa ha=>by have:=h.sz a ha;simp;omega,λ{H enc w n cs x} hx hwt=>by
  obtain⟨xs,m,_,rfl,hlen,hxl,hf⟩:=DataW.trod_struct ht hx
  obtain⟨a,ha,hr⟩:=h.rd (H:=H) (enc:=enc) (w:=w) (n:=m) (cs:=cs) (λfld hm=>by
   obtain⟨i,hi,rfl⟩:=c9.1 hm;have h1:=hf i fs[i] (by simp at hi;simp[hi]);rw[j9 (by simp at hi;omega)] at h1;simp only[DataW.weights,ht] at hwt;refine⟨_,by simpa using h1, ?_⟩
   exact L9 hwt i _ _ (by simp at hi;simp[hi]) (by simp at hi;rw[G9,j9 (by omega)];rfl))
  refine⟨a,ha, ?_⟩;have:=Rc.agg (w:=w) (ρ:=λx=>x) (G:=λb=>b<w.heap.size) (L:=λ_=>False) (p:=false) (g a) cs (λ_=>[]) (by have:=h.sz a ha;omega) (λk hk=>by have:=hr k hk;rwa [m5] at this);rw[LB] at this
  exact this⟩
def IT(P:Program)(t:TypeId):Bool:=match P.underlying t with
 | some (.struct _)=>true
 | some (.array _ _)=>true
 | _=>false
theorem TR{r:Reach}{W:World}{v:Value}(hu:IT P t=false)(hv:Value.okWide P W r base t v):v.cells=#[v]:=by
 cases v with
 | agg cs=>
  exfalso;unfold IT at hu;unfold Value.okWide at hv;split at hv
  ·rename_i h;simp[h] at hu
  ·rename_i h;simp[h] at hu
  ·unfold Cell.okWide Cell.ok at hv
   split at hv<;>simp_all
 | _=>rfl
theorem q39{H:Type}{enc:TypeId×Value->H}{α:Type}{f:α->D}{q:α->Prop}{g:Bool}{r:Reach}{W:World}{v:Value}{d:DataW H}{ps:List MemPlace}(h:Rd P t z f q)(hu:IT P t=g)(hg:∀ a,q a->(f a).isAgg=g)
 (hv:Value.okWide P W r base t v) (hd:DataW.Trod enc P W 0 (λ_=>true) true t v d ps) (hw:(d.weights P t).all (·<=reachBytes)=true) :
 ∃ a,q a/\VR W (λx=>x) (λb=>b<W.heap.size) (λ_=>False) (f a) v []:=by
 obtain⟨fuel,hd⟩:=hd;obtain⟨a,ha,hr⟩:=h.rd hd hw;refine⟨a,ha, ?_⟩;have hga:=hg a ha
 cases g with
 | true=>
  have:∃ cs,v=.agg cs:=by
   unfold IT at hu;unfold Value.okWide at hv;split at hv
   ·exact⟨_,hv.choose_spec.1⟩
   ·exact⟨_,hv.choose_spec.1⟩
   ·split at hu<;>simp_all
  obtain⟨cs,rfl⟩:=this;simp only[VR,hga,w5];exact⟨cs,rfl,hr.flag⟩
 | false=>
  rw[TR hu hv] at hr;simp only[VR,hga,q8,q7];exact hr.flag
theorem RG{H:Type}{enc:TypeId×Value->H}{W W':World}{sp:Nat->Bool}(hl:laidOutB P=true)(hb:∀ b,b<W.heap.size->W'.heap[b]? = W.heap[b]?) :
 ∀ {ts:List TypeId} {vs:List Value} {ds:List (DataW H)} {ps:List MemPlace},(ts.all λt=>P.readableRec t&&decide (t<P.types.size))=true->(∀ x∈ps,x.block<W.heap.size)->(∀ x∈ps,sp x.block=true) ->
  DataW.TrodAll enc P W 0 (λ_=>true) true ts vs ds ps->DataW.TrodAll enc P W' 0 sp true ts vs ds ps:=by
 intro ts
 induction ts with
 | nil=>intro vs ds ps _ _ _ h;obtain⟨rfl,rfl,rfl⟩:=trodAll_nil h;exact trodAll_mk0
 | cons t ts ih=>
  intro vs ds ps ht hlt hs h;obtain⟨v,vs1,d,ds1,a,b,rfl,rfl,rfl,h1,h2⟩:=trodAll_cons h;simp only[I8,u6,K2] at ht;refine trodAll_cons_mk (Go.WideElems.Trod_stays hl ht.1.1 ht.1.2 h1 (λx hx=>?_) (λx hx=>hs x (p9.2 (.inl hx)))) (ih ht.2 (λx hx=>hlt x (p9.2 (.inr hx))) (λx hx=>hs x (p9.2 (.inr hx))) h2);have hx':=hlt x (p9.2 (.inl hx))
  cases x with
  | cell b o=>exact World.cell?_of_block (w:=W) (hb b hx')
  | map b=>exact hb b hx'
theorem z30{H:Type}{enc:TypeId×Value->H}{fn:Func}{f:FuncId}{s:ChangeSpec}{W:World}{args:Array Value}{ds gs:List (DataW H)}{before:List MemPlace}{tb:TypeId}{gl:List (Nat×D)}{Ds:List D}
 (hl:laidOutB P=true) (hpar:(fn.params.toList.all λt=>P.readableRec t&&decide (t<P.types.size))=true) (hres:fn.resultTypes=#[tb]) (htb:P.underlying tb=some .bool) (hsv:s.vars=[])
 (hfn:s.fn H ds={ results:=[.lit (.bool true)],args:=ds }) (hW:DataW.Whole enc P fn.params.toList s.vars false W args.toList ds gs before)
 (hgl:∀ g d,(g,d)∈gl->g<W.heap.size/\∃ cs e fz,W.heap[g]? = some (.cells cs e fz)/\Rc W (λx=>x) (λ_=>False) (λ_=>False) false d cs.toList [])
 (hlen:args.toList.length=Ds.length) (hargs:∀ k (h:k<Ds.length),VR W (λx=>x) (λb=>b<W.heap.size) (λ_=>False) Ds[k] (args.toList.getD k undef) [])
 (hf:Fn P gl f Ds (.bool true)):Calls P f args W λe W'=>∃ v,e=.returned v/\s.post enc P fn false true false false W args v W':=by
 have hrun:=hf W (λb=>b<W.heap.size) args.toList hgl hlen hargs;rw[Array.toArray_toList] at hrun
 refine hrun.mono λex W' ⟨v,F,he,hext,_,_,hrv⟩=>⟨v,he, ?_⟩
 have hv:v=.bool true:=by
  obtain⟨_,h2⟩:=hrv;simp only[VR,D.isAgg,q7,q8] at h2;cases h2;rfl
 subst hv;have hlt:=hW.lt;have hW0:=hW;obtain⟨p,q',hA,hV,rfl,hfz,hnd⟩:=hW;rw[hsv] at hV;obtain⟨rfl,rfl⟩:=trodVars_none hV;simp only[m4] at hlt hW0;have hst:∀ sp:Nat->Bool,(∀ x∈p,sp x.block=true)->DataW.TrodAll enc P W' 0 sp true fn.params.toList args.toList ds p:=λsp hs=>RG hl (λb hb=>hext.block b hb) hpar hlt hs hA;refine⟨ds,[],p,[],p,[],hW0, ?_, ?_, ?_,⟨hext.os,hext.output,λi hi=>?_⟩,λh=>by cases h⟩
 ·rw[hres];simp only[m4,hfn];exact trodAll_cons_mk (Go.RowKit.shut_bool htb true) trodAll_mk0
 ·simp only[m4,hfn];exact hst _ (λx hx=>by simpa using hlt x hx)
 ·simp only[m4,hfn,hsv];rfl
 ·rw[hext.block i hi]
  cases hh:W.heap[i]? with
  | none=>simp
  | some o=>cases o<;>simp
theorem x51{w:World}{ρ:Nat->Nat}{G L:Nat->Prop}(l:List UInt32){n:Nat}(hn:l.length=n):Rc w ρ G L false (.arr n 1 (l.map D.u32)) (l.map λx=>Value.int .u32 x.toNat) []:=by
 refine .arr n 1 _ _ (by simpa using hn) (by simp[hn]) (λi hi=>?_)
 have hi':i<l.length:=by simpa using hi
 simp only[Nat.mul_one,n9];rw[o9 (by simpa using hi'),J1,D4,n9];exact .u32 _
theorem w47{W:World}{name:String}{g n:Nat}(l:List UInt32)(hg:P.globalNamed name=some g)(hn:l.length=n)(h:Lib.TabIs P W name .u32 (l.map λx=>((x.toNat:Nat):Int))) :
 g<W.heap.size/\∃ cs e fz,W.heap[g]? = some (.cells cs e fz)/\Rc W (λx=>x) (λ_=>False) (λ_=>False) false (.arr n 1 (l.map D.u32)) cs.toList []:=by
 unfold Lib.TabIs World.var? at h;simp only[hg,Option.bind_some,N7] at h;split at h
 ·rename_i cs e fz hh;simp only[z9] at h;refine⟨(j8.1 hh).1,cs,e,fz,hh, ?_⟩;rw[h];exact x51 l hn
 ·cases h
end
section
open Go.Proofs
theorem u89:Rd Tryz.prog 70 3 SS (λx=>∀ s∈x.spends,s.to.length<=140737488355328):=by
 have h8:=Rd.u8 (P:=Tryz.prog) Tryz.underlying5 (by kernel_rfl);have hbo:=Rd.bool (P:=Tryz.prog) Tryz.underlying4 (by kernel_rfl);have hb:=Rd.sl (P:=Tryz.prog) Tryz.underlying24 (by kernel_rfl) (by decide) (v7 (by kernel_rfl)) h8;have hs0:=Rd.struct (P:=Tryz.prog) (z:=5) Tryz.underlying117 (by kernel_rfl) (.cons h8 rfl (.cons hbo rfl (.cons hb rfl (.cons h8 rfl (.cons h8 rfl .nil)))));have hs:=hs0.map (q':=λx:SpS=>x.to.length<=140737488355328) (g:=x05) (λa=>⟨a.1,a.2.1,a.2.2.1,a.2.2.2.1,a.2.2.2.2.1⟩) (λa ha=>⟨ha.2.2.1.1,rfl⟩) (λb hb=>rfl);have hsl:=Rd.sl (P:=Tryz.prog) Tryz.underlying68 (by kernel_rfl) (by decide) (v7 (by kernel_rfl)) hs;have h0:=Rd.struct (P:=Tryz.prog) (z:=3) Tryz.underlying70 (by kernel_rfl) (.cons h8 rfl (.cons hsl rfl (.cons h8 rfl .nil)));exact h0.map (λa=>⟨a.1,a.2.1,a.2.2.1⟩) (λa ha=>⟨λx hx=>ha.2.1.2 x hx,rfl⟩) (λb hb=>rfl)
end
section
open Go.ChangeShapes Go.WideShapes
structure Bulk where
 bk:{H:Type}->DataW H->Nat
 one:∀ {H:Type} (d:DataW H),1<=bk d
 sl:∀ {H:Type} (es sp:List (DataW H)),(es.map λd=>bk d).sum<=bk (.slice es sp)
 ag:∀ {H:Type} (ps:List (DataW H)),(ps.map λd=>bk d).sum<=bk (.agg ps)
structure RdM(B:Bulk)(P:Program)(t:TypeId)(z:Nat){α:Type}(f:α->D)(q:α->Prop)(μ:α->Nat):Prop where
 cells:P.cellsOf t=z
 sz:∀ a,q a->(f a).sz=z
 rd:∀ {H:Type} {enc:TypeId×Value->H} {w:World} {n:Nat} {cs:List Value} {x:DataW H×List MemPlace},DataW.trod enc P w 0 (λ_=>true) true n t cs=some x ->
  (x.1.weights P t).all (·<=reachBytes)=true->∃ a,q a/\μ a<=B.bk x.1/\Rc w (λx=>x) (λb=>b<w.heap.size) (λ_=>False) false (f a) cs []
variable{B:Bulk}{P:Program}{t e z:Nat}
theorem RdM.of{α:Type}{f:α->D}{q:α->Prop}(h:Rd P t z f q):RdM B P t z f q (λ_=>0):=
 ⟨h.cells,h.sz,λhx hw=>by obtain⟨a,ha,hr⟩:=h.rd hx hw;exact⟨a,ha,v6 _,hr⟩⟩
theorem v65{α:Type}{f:α->D}{q:α->Prop}(h:Rd P t z f q):RdM B P t z f q (λ_=>1):=
 ⟨h.cells,h.sz,λhx hw=>by obtain⟨a,ha,hr⟩:=h.rd hx hw;exact⟨a,ha,B.one _,hr⟩⟩
theorem VF{α:Type}{μ:α->Nat}:∀ (l:List α) (g:Nat->Nat),(∀ i (h:i<l.length),μ l[i]<=g i)->(l.map μ).sum<=((List.range l.length).map g).sum:=by
 intro l
 induction l with
 | nil=>intro g _;simp
 | cons x r ih=>
  intro g h;have h0:=h 0 (by simp);have h1:=ih (λi=>g (i+1)) (λi hi=>h (i+1) (by simpa using hi));rw[j2,List.range_succ_eq_map];simp only[d9,List.sum_cons,N7,Function.comp_def];simp only[Z1] at h0;exact Nat.add_le_add h0 h1
theorem RdM.sl{α:Type}{f:α->D}{q:α->Prop}{μ:α->Nat}(ht:P.underlying t=some (.slice e))(hz:P.cellsOf t=1)(h0:0<z)(hby:0<P.bytesOf e)(he:RdM B P e z f q μ) :
 RdM B P t 1 (λl:List α=>.sl none z (l.map f)) (λl=>l.length<=140737488355328/\∀ x∈l,q x) (λl=>(l.map μ).sum):=
 ⟨hz,λ_ _=>rfl,λ{H enc w n cs x} h hwt=>by
  rcases Go.Deep.open_slice ht h with ⟨rfl,_⟩|⟨a,len,cap,m,n',Dd,Pl,rfl,_,hlc,hcm,hm,rfl,hx⟩
  ·exact⟨[],⟨by simp,by simp⟩,by simp,.slN none z⟩
  ·simp only[w5] at hm;have hx:=λi (hi:i<cap)=>hx i (by omega);simp only[DataW.weights,ht,I8,QX,u6,K2,z6,Y3] at hwt;obtain⟨hw1,hw2,hw3⟩:=hwt;have hw4:∀ i,i<len->((Dd i).weights P e).all (·<=reachBytes)=true:=λi hi=>UM hw2 _ (Q5.2 ⟨i,z7.2 hi,rfl⟩)
   have hlen:len<=140737488355328:=by
    have h6:len*1<=(len+(m-len))*P.bytesOf e:=QF (by omega) hby
    simp only[reachBytes] at hw1;omega
   rcases I3 cap with rfl|hcap
   ·have:len=0:=by omega
    subst this;exact⟨[],⟨by simp,by simp⟩,by simp,.slE none z a⟩
   ·rw[he.cells] at hx;obtain⟨b,off,sp⟩:=a;obtain⟨cs0,hc0,_⟩:=hx 0 hcap;obtain⟨_,hl0,hv0⟩:=World.cells?_some hc0;have h1:=hv0 0 h0;rw[j9 (by omega)] at h1
    have hblk:∃ c ty fz,w.heap[b]? = some (.cells c ty fz)/\sp=none:=by
     have e0:((⟨b,off,sp⟩:Addr).add (0*z)).add 0=⟨b,off,sp⟩:=by simp[Addr.add]
     rw[e0] at h1;unfold World.cell? at h1;simp only at h1;split at h1
     ·rename_i c ty fz hh
      cases sp with
      | none=>exact⟨c,ty,fz,hh,rfl⟩
      | some s=>simp at h1
     ·cases h1
    obtain⟨c,ty,fz,hb,rfl⟩:=hblk
    have hrow:∀ i,i<cap->off+i*z+z<=c.size/\(i<len->∃ a,q a/\μ a<=B.bk (Dd i)/\Rc w (λx=>x) (λb=>b<w.heap.size) (λ_=>False) false (f a) ((c.toList.drop (off+i*z)).take z) []):=λi hi=>by
     obtain⟨cs',h2,h3⟩:=hx i hi;rw[s6] at h2;obtain⟨h4,rfl⟩:=TI hb h2 h0;exact⟨h4,λhi=>he.rd h3 (hw4 i hi)⟩
    obtain⟨l,hl,hp⟩:=WI (λi hi=>(hrow i (by omega:i<cap)).2 hi:∀ i,i<len->_)
    have hsz:off+cap*z<=c.size:=by
     have h5:=(hrow (cap-1) (by omega)).1
     have:(cap-1)*z+z=cap*z:=by rw[<- Nat.succ_mul];congr 1;omega
     omega
    have hlz:len*z<=cap*z:=u0 z hlc;refine⟨l,⟨by omega,λy hy=>?_⟩, ?_, ?_⟩
    ·obtain⟨i,hi,rfl⟩:=c9.1 hy;exact(hp i hi).1
    ·refine v5 (VF l (λi=>B.bk (Dd i)) (λi hi=>(hp i hi).2.1)) (v5 (Nat.le_of_eq ?_) (B.sl _ _));rw[hl,N7];rfl
    ·have:=Rc.slI (w:=w) (ρ:=λx=>x) (G:=λb=>b<w.heap.size) (L:=λ_=>False) (p:=false) b off c ty fz cap z (l.map f) hb (j8.1 hb).1 (by simp;omega) (by simp[hl];omega)
      (λi hi=>by simp only[n9];exact(hp i (by simpa using hi)).2.2)
     simpa [hl] using this⟩
theorem RdM.map{α β:Type}{f:α->D}{q:α->Prop}{μ:α->Nat}{g:β->D}{q':β->Prop}{μ':β->Nat}(h:RdM B P t z f q μ)(m:α->β)(hm:∀ a,q a->q' (m a)/\g (m a)=f a)(hs:∀ b,q' b->(g b).sz=z)(hμ:∀ a,q a->μ' (m a)<=μ a):RdM B P t z g q' μ':=
 ⟨h.cells,hs,λhx hw=>by
  obtain⟨a,ha,hb,hr⟩:=h.rd hx hw;obtain⟨h1,h2⟩:=hm a ha
  exact⟨m a,h1,v5 (hμ a ha) hb,by rw[h2];exact hr⟩⟩
structure RdMF(B:Bulk)(P:Program)(off:Nat)(fs:List Field)(e:Nat){α:Type}(f:α->List D)(q:α->Prop)(μ:α->Nat):Prop where
 sz:∀ a,q a->off+I2 (f a)=e
 rd:∀ {H:Type} {enc:TypeId×Value->H} {w:World} {n:Nat} {cs:List Value} (xs:List (DataW H×List MemPlace)),xs.length=fs.length ->
  (∀ i (hi:i<fs.length) (hi':i<xs.length),DataW.trod enc P w 0 (λ_=>true) true n fs[i].type ((cs.drop fs[i].offset).take (P.cellsOf fs[i].type))=some xs[i]/\(xs[i].1.weights P fs[i].type).all (·<=reachBytes)=true) ->
  ∃ a,q a/\μ a<=(xs.map λx=>B.bk x.1).sum/\∀ k (hk:k<(f a).length),Rc w (λx=>x) (λb=>b<w.heap.size) (λ_=>False) false (f a)[k] ((cs.drop (off+offk (f a) k)).take (f a)[k].sz) []
theorem RdMF.nil{off:Nat}:RdMF B P off [] off (λ_:Unit=>[]) (λ_=>True) (λ_=>0):=
 ⟨λ_ _=>by simp,λ_ _ _=>⟨(),trivial,v6 _,λk hk=>by simp at hk⟩⟩
theorem RdMF.cons{α β:Type}{f:α->D}{q:α->Prop}{μ:α->Nat}{g:β->List D}{q':β->Prop}{μ':β->Nat}{off e':Nat}{fld:Field}{fs:List Field}(h:RdM B P fld.type z f q μ)(ho:fld.offset=off)(hr:RdMF B P (off+z) fs e' g q' μ') :
 RdMF B P off (fld::fs) e' (λa:α×β=>f a.1::g a.2) (λa=>q a.1/\q' a.2) (λa=>μ a.1+μ' a.2):=
 ⟨λa ha=>by have:=hr.sz a.2 ha.2;have:=h.sz a.1 ha.1;simp only[S3];omega,λ{H enc w n cs} xs hl hx=>by
  cases xs with
  | nil=>simp at hl
  | cons x xs=>
   obtain⟨h1,hw⟩:=hx 0 (by simp) (by simp);simp only[Z1] at h1 hw;rw[ho,h.cells] at h1;obtain⟨a,ha,hma,hra⟩:=h.rd h1 hw
   obtain⟨b,hb,hmb,hrb⟩:=hr.rd xs (by simpa using hl) (λi hi hi'=>by
    have:=hx (i+1) (by simpa using hi) (by simpa using hi')
    simpa only[J4] using this)
   refine⟨(a,b),⟨ha,hb⟩,by simp only[d9,List.sum_cons];exact Nat.add_le_add hma hmb,λk hk=>?_⟩
   cases k with
   | zero=>simpa [offk,h.sz a ha] using hra
   | succ k=>
    have:=hrb k (by simpa using hk);simp only[offk,J1,S3,J4,h.sz a ha];rw[<- U5]
    exact this⟩
theorem RdM.struct{α:Type}{g:α->List D}{q:α->Prop}{μ:α->Nat}{fs:Array Field}(ht:P.underlying t=some (.struct fs))(hz:P.cellsOf t=z)(h:RdMF B P 0 fs.toList z g q μ):RdM B P t z (λa=>.agg (g a)) q μ:=
 ⟨hz,λa ha=>by have:=h.sz a ha;simp;omega,λ{H enc w n cs x} hx hwt=>by
  obtain⟨xs,m,_,rfl,hlen,hxl,hf⟩:=DataW.trod_struct ht hx
  obtain⟨a,ha,hma,hr⟩:=h.rd (H:=H) (enc:=enc) (w:=w) (n:=m) (cs:=cs) xs (by simpa using hxl) (λi hi hi'=>by
   have h1:=hf i fs[i] (by simp at hi;simp[hi]);rw[j9 (by simp at hi;omega)] at h1;simp only[DataW.weights,ht] at hwt;refine⟨by simpa using h1, ?_⟩
   exact L9 hwt i _ _ (by simp at hi;simp[hi]) (by simp at hi;rw[G9,j9 (by omega)];rfl))
  refine⟨a,ha,v5 hma (v5 (Nat.le_of_eq ?_) (B.ag _)), ?_⟩
  ·rw[N7];rfl
  ·have:=Rc.agg (w:=w) (ρ:=λx=>x) (G:=λb=>b<w.heap.size) (L:=λ_=>False) (p:=false) (g a) cs (λ_=>[]) (by have:=h.sz a ha;omega) (λk hk=>by have:=hr k hk;rwa [m5] at this);rw[LB] at this
   exact this⟩
theorem v66{H:Type}{enc:TypeId×Value->H}{α:Type}{f:α->D}{q:α->Prop}{μ:α->Nat}{r:Reach}{W:World}{v:Value}{d:DataW H}{ps:List MemPlace}(h:RdM B P t z f q μ)(hu:IT P t=false)(hg:∀ a,q a->(f a).isAgg=false)
 (hv:Value.okWide P W r base t v) (hd:DataW.Trod enc P W 0 (λ_=>true) true t v d ps) (hw:(d.weights P t).all (·<=reachBytes)=true) :
 ∃ a,(q a/\μ a<=B.bk d)/\VR W (λx=>x) (λb=>b<W.heap.size) (λ_=>False) (f a) v []:=by
 obtain⟨fuel,hd⟩:=hd;obtain⟨a,ha,hm,hr⟩:=h.rd hd hw;refine⟨a,⟨ha,hm⟩, ?_⟩;have hga:=hg a ha;rw[TR hu hv] at hr;simp only[VR,hga,q8,q7];exact hr.flag
end
section
open Go.Proofs
def y56(x:InS):Nat:=(x.wit.map List.length).sum
def y55(t:TxS):Nat:=(t.ins.map y56).sum
def g03(b:BlkS):Nat:=(b.txs.map y55).sum
def h29(x:InS):Prop:=x.tx.length=32/\x.script.length<=140737488355328/\x.wit.length<=140737488355328
def h23(t:TxS):Prop:=t.ins.length<=140737488355328/\t.outs.length<=140737488355328/\(∀ x∈t.ins,h29 x)/\∀ o∈t.outs,o.script.length<=140737488355328
def v42(b:BlkS):Prop:=b.hd.wf/\b.txs.length<=140737488355328/\∀ t∈b.txs,h23 t
theorem u72(b:List UInt8):(b.map λ_=>1).sum=b.length:=by
 induction b with
 | nil=>rfl
 | cons x r ih=>simp[ih];omega
theorem u88:Rd Tryz.prog 40 5 g02 (λ_=>True):=by
 have h8:=Rd.u8 (P:=Tryz.prog) Tryz.underlying5 (by kernel_rfl);have hbo:=Rd.bool (P:=Tryz.prog) Tryz.underlying4 (by kernel_rfl);have h0:=Rd.struct (P:=Tryz.prog) (z:=5) Tryz.underlying40 (by kernel_rfl) (.cons h8 rfl (.cons h8 rfl (.cons h8 rfl (.cons h8 rfl (.cons hbo rfl .nil)))));exact h0.map (λa=>⟨a.1,a.2.1,a.2.2.1,a.2.2.2.1,a.2.2.2.2.1⟩) (λa ha=>⟨trivial,rfl⟩) (λb hb=>rfl)
theorem y34(B:Bulk):RdM B Tryz.prog 78 69 J7 v42 g03:=by
 have h32:=Rd.u32 (P:=Tryz.prog) Tryz.underlying27 (by kernel_rfl);have h64:=Rd.u64 (P:=Tryz.prog) Tryz.underlying60 (by kernel_rfl);have h8:=Rd.u8 (P:=Tryz.prog) Tryz.underlying5 (by kernel_rfl);have hb:=Rd.sl (P:=Tryz.prog) Tryz.underlying24 (by kernel_rfl) (by decide) (v7 (by kernel_rfl)) h8;have hbM:=RdM.sl (B:=B) (P:=Tryz.prog) Tryz.underlying24 (by kernel_rfl) (by decide) (v7 (by kernel_rfl)) (v65 h8);have hbb:=RdM.sl (P:=Tryz.prog) Tryz.underlying110 (by kernel_rfl) (by decide) (v7 (by kernel_rfl)) hbM;have hh:=Rd.arr (P:=Tryz.prog) (n:=32) Tryz.underlying23 (by kernel_rfl) rfl h8;have hpl:=Rd.struct (P:=Tryz.prog) (z:=33) Tryz.underlying109 (by kernel_rfl) (.cons hh rfl (.cons h32 rfl .nil));have hin0:=RdM.struct (P:=Tryz.prog) (z:=36) Tryz.underlying112 (by kernel_rfl) (.cons (RdM.of hpl) rfl (.cons (RdM.of hb) rfl (.cons (RdM.of h32) rfl (.cons hbb rfl .nil))))
 have hin:=hin0.map (q':=h29) (g:=YL) (μ':=y56) (λa=>⟨a.1.1,a.1.2.1,a.2.1,a.2.2.1,a.2.2.2.1⟩) (λa ha=>⟨⟨ha.1.1.1,ha.2.1.1,ha.2.2.2.1.1⟩,rfl⟩) (λb hb=>rfl) (λa ha=>by
  show(a.2.2.2.1.map List.length).sum<=0+(0+(0+((a.2.2.2.1.map λb=>(b.map λ_=>1).sum).sum+0)));simp only[u72,m5,X7]
  exact z5 _)
 have hout0:=Rd.struct (P:=Tryz.prog) (z:=2) Tryz.underlying115 (by kernel_rfl) (.cons h64 rfl (.cons hb rfl .nil));have hout:=hout0.map (q':=λo:OutS=>o.script.length<=140737488355328) (g:=r9) (λa=>⟨a.1,a.2.1⟩) (λa ha=>⟨ha.2.1.1,rfl⟩) (λb hb=>rfl);have hins:=RdM.sl (P:=Tryz.prog) Tryz.underlying28 (by kernel_rfl) (by decide) (v7 (by kernel_rfl)) hin;have houts:=Rd.sl (P:=Tryz.prog) Tryz.underlying29 (by kernel_rfl) (by decide) (v7 (by kernel_rfl)) hout;have htx0:=RdM.struct (P:=Tryz.prog) (z:=4) Tryz.underlying31 (by kernel_rfl) (.cons (RdM.of h32) rfl (.cons hins rfl (.cons (RdM.of houts) rfl (.cons (RdM.of h32) rfl .nil))))
 have htx:=htx0.map (q':=h23) (g:=r8) (μ':=y55) (λa=>⟨a.1,a.2.1,a.2.2.1,a.2.2.2.1⟩) (λa ha=>⟨⟨ha.2.1.1,ha.2.2.1.1,ha.2.1.2,ha.2.2.1.2⟩,rfl⟩) (λb hb=>rfl) (λa ha=>by
  show(a.2.1.map y56).sum<=0+((a.2.1.map y56).sum+(0+(0+0)))
  omega)
 have htxs:=RdM.sl (P:=Tryz.prog) Tryz.underlying76 (by kernel_rfl) (by decide) (v7 (by kernel_rfl)) htx;have hhd0:=Rd.struct (P:=Tryz.prog) (z:=68) Tryz.underlying44 (by kernel_rfl) (.cons h32 rfl (.cons hh rfl (.cons hh rfl (.cons h32 rfl (.cons h32 rfl (.cons h32 rfl .nil))))));have hhd:=hhd0.map (q':=HdS.wf) (g:=M5) (λa=>⟨a.1,a.2.1,a.2.2.1,a.2.2.2.1,a.2.2.2.2.1,a.2.2.2.2.2.1⟩) (λa ha=>⟨⟨ha.2.1.1,ha.2.2.1.1⟩,rfl⟩) (λb hb=>rfl);have hbk0:=RdM.struct (P:=Tryz.prog) (z:=69) Tryz.underlying78 (by kernel_rfl) (.cons (RdM.of hhd) rfl (.cons htxs rfl .nil))
 exact hbk0.map (q':=v42) (g:=J7) (μ':=g03) (λa=>⟨a.1,a.2.1⟩) (λa ha=>⟨⟨ha.1,ha.2.1.1,ha.2.1.2⟩,rfl⟩) (λb hb=>rfl) (λa ha=>by
  show(a.2.1.map y55).sum<=0+((a.2.1.map y55).sum+0)
  omega)
theorem u90(B:Bulk):RdM B Tryz.prog 37 1 (λl:List BlkS=>.sl none 69 (l.map J7)) (λl=>l.length<=140737488355328/\∀ b∈l,v42 b) (λl=>(l.map g03).sum):=
 RdM.sl (P:=Tryz.prog) Tryz.underlying37 (by kernel_rfl) (by decide) (v7 (by kernel_rfl)) (y34 B)
theorem VE{α:Type}{μ:α->Nat}{l:List α}{x:α}(h:x∈l):μ x<=(l.map μ).sum:=by
 induction l with
 | nil=>cases h
 | cons y r ih=>
  rw[d9,List.sum_cons]
  rcases w8.1 h with rfl|h
  ·omega
  ·have:=ih h;omega
theorem v28(x:InS)(n:Nat)(hn:n<=x.wit.length):q45 x n=((x.wit.take n).map List.length).sum:=by
 induction n with
 | zero=>rfl
 | succ n ih=>
  rw[q45,ih (by omega),N3 (by omega),d8,List.sum_append,b9 x.wit n (by omega)];simp
theorem k80{l:List BlkS}(h:l.length<=140737488355328/\∀ b∈l,v42 b)(hm:(l.map g03).sum<=1048576):u07 l/\y35 l:=by
 refine⟨⟨h.1,λb hb=>⟨(h.2 b hb).2.1,λt ht=>?_⟩⟩,λb hb=>⟨(h.2 b hb).1,λt ht x hx=>(((h.2 b hb).2.2 t ht).2.2.1 x hx).1⟩⟩;obtain⟨h1,h2,h3,h4⟩:=(h.2 b hb).2.2 t ht;refine⟨h1,h2,λx hx=>⟨(h3 x hx).2.1,(h3 x hx).2.2, ?_⟩,h4⟩;have e1:=VE (μ:=g03) hb;have e2:y55 t<=g03 b:=VE (μ:=y55) ht;have e3:y56 x<=y55 t:=VE (μ:=y56) hx;rw[v28 x _ (z5 _),X4];show y56 x<=_;omega
end
end Go.Sx
