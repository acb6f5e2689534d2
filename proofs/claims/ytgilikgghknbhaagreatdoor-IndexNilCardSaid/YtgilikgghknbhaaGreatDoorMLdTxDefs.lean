/- Own texts. -/
import Derived.Test.YtgilikgghknbhaaGreatDoorMSxAl
import Derived.Test.YtgilikgghknbhaaGreatDoorMSxDrawE
import Derived.Test.YtgilikgghknbhaaGreatDoorMSxVal4
set_option linter.unusedVariables false
set_option linter.unusedSimpArgs false
set_option linter.unnecessarySimpa false

namespace Go.Sx
structure InS where
 tx:Hs
 n:UInt32
 script:List UInt8
 seq:UInt32
 wit:List (List UInt8)
 deriving Inhabited
structure OutS where
 value:UInt64
 script:List UInt8
 deriving Inhabited
structure TxS where
 ver:UInt32
 ins:List InS
 outs:List OutS
 lock:UInt32
 deriving Inhabited
def XE(x:InS):D:=.agg [.agg [j4 x.tx,.u32 x.n],I5 x.script,.u32 x.seq,.sl none 1 (x.wit.map I5)]
def i7(o:OutS):D:=.agg [.u64 o.value,I5 o.script]
def QS(t:TxS):D:=.agg [.u32 t.ver,.sl none 36 (t.ins.map XE),.sl none 2 (t.outs.map i7),.u32 t.lock]
def k21(x:UInt64):Nat->UInt64
 | 0=>x
 | i+1=>E2 (k21 x i) 8
def M8(x:UInt64):Nat->List UInt8
 | 0=>[]
 | i+1=>M8 x i++[(k21 x i).toUInt8]
theorem K3(x:UInt64)(i:Nat):(M8 x i).length=i:=by induction i with
 | zero=>rfl
 | succ i ih=>simp[M8,ih]
def cU(n:Nat):UInt64:=UInt64.ofInt ((n:Nat):Int)
def H7(n:Nat):List UInt8:=
 if cU n<253 then M8 (cU n) 1 else if cU n<=65535 then M8 253 1++M8 (cU n) 2 else if cU n<=4294967295 then M8 254 1++M8 (cU n) 4 else M8 255 1++M8 (cU n) 8
theorem E9(n:Nat):(H7 n).length<=9:=by
 unfold H7;split
 ·simp[K3]
 ·split
  ·simp[K3]
  ·split<;>simp[K3]
def JO(b:List UInt8):List UInt8:=H7 b.length++b
theorem ZL(b:List UInt8):(JO b).length<=9+b.length:=by
 have:=E9 b.length;simp[JO];omega
def u28(x:InS):List UInt8:=x.tx++M8 x.n.toUInt64 4++JO x.script++M8 x.seq.toUInt64 4
def EV(o:OutS):List UInt8:=M8 o.value 8++JO o.script
def ZU(l:List InS):Nat->List UInt8
 | 0=>[]
 | i+1=>ZU l i++u28 l[i]!
def QE(l:List OutS):Nat->List UInt8
 | 0=>[]
 | i+1=>QE l i++EV l[i]!
def JT(t:TxS):List UInt8:=H7 t.ins.length++ZU t.ins t.ins.length++H7 t.outs.length++QE t.outs t.outs.length
def YZ(t:TxS):List UInt8:=M8 t.ver.toUInt64 4++JT t++M8 t.lock.toUInt64 4
def NQ(l:List (List UInt8)):Nat->List UInt8
 | 0=>[]
 | i+1=>NQ l i++JO l[i]!
def UL(l:List InS):Nat->List UInt8
 | 0=>[]
 | i+1=>UL l i++H7 l[i]!.wit.length++NQ l[i]!.wit l[i]!.wit.length
def EE(t:TxS):Bool:=t.ins.any λx=>decide (0<x.wit.length)
def z34(t:TxS):List UInt8:=if EE t then M8 t.ver.toUInt64 4++[0,1]++JT t++UL t.ins t.ins.length++M8 t.lock.toUInt64 4 else YZ t
structure TxS.wf(t:TxS):Prop where
 ins:t.ins.length<=1000000
 outs:t.outs.length<=1000000
 hash:∀ x∈t.ins,x.tx.length=32
 scr:∀ x∈t.ins,x.script.length<=1000000
 oscr:∀ x∈t.outs,x.script.length<=1000000
 insb:∀ i ≤ t.ins.length,(ZU t.ins i).length<=1500000
 outsb:∀ i ≤ t.outs.length,(QE t.outs i).length<=1500000
 witsb:∀ i ≤ t.ins.length,(UL t.ins i).length<=1500000
 witl:∀ x∈t.ins,x.wit.length<=1000000/\∀ i ≤ x.wit.length,(NQ x.wit i).length<=1500000
 witi:∀ x∈t.ins,∀ b∈x.wit,b.length<=1000000
theorem P3{α:Type}[Inhabited α]{l:List α}{i:Nat}(h:i<l.length):l[i]!∈l:=by
 rw[Z1 l i h];exact g6 h
theorem TxS.wf.insScript{t:TxS}(h:t.wf){i:Nat}(hi:i<t.ins.length):t.ins[i]!.script.length<=1000000:=h.scr _ (P3 hi)
theorem TxS.wf.outScript{t:TxS}(h:t.wf){i:Nat}(hi:i<t.outs.length):t.outs[i]!.script.length<=1000000:=h.oscr _ (P3 hi)
theorem TxS.wf.body{t:TxS}(h:t.wf):(JT t).length<=3000018:=by
 have h1:=E9 t.ins.length;have h2:=E9 t.outs.length;have h3:=h.insb _ (z7 _);have h4:=h.outsb _ (z7 _);simp only[JT,q9];omega
theorem TxS.wf.bareL{t:TxS}(h:t.wf):(YZ t).length<=4000000:=by
 have h1:=h.body;simp only[YZ,q9,K3];omega
theorem z31{t:TxS}{i:Nat}(hi:i<t.ins.length)(h:0<t.ins[i]!.wit.length):EE t=true:=by
 unfold EE;rw[Z4];exact⟨_,P3 hi,by simpa using h⟩
theorem WT{t:TxS}(h:∀ k<t.ins.length,¬ 0<t.ins[k]!.wit.length):EE t=false:=by
 unfold EE;rw[i4];intro x hx;obtain⟨k,hk,rfl⟩:=Q2.1 hx;have:=h k hk;rw[Z1 t.ins k hk] at this;simpa using this
def JA(t:TxS):Hs:=CF (YZ t)
def n2(x:UInt64):Nat:=if x=253 then 2 else if x=254 then 4 else 8
theorem FJ{n:Nat}(hn:n<18446744073709551616):(UInt64.ofInt ((n:Nat):Int)).toNat=n:=by
 have:UInt64.ofInt ((n:Nat):Int)=UInt64.ofNat n:=by
  unfold UInt64.ofInt
  congr 1
  omega
 rw[this];simp[UInt64.toNat_ofNat];omega
section
variable{b r r0 r1 r2 r3 r4 r5 x s u:List UInt8}{p q:UInt64}{i j n m:Nat}{l:List InS}{o:List OutS}
end
theorem w57(x:UInt64)(i:Nat)(hi:i<8):E2 x ((((cU (8*i)).toNat:Nat):Int)).toNat=k21 x i:=by
 have h1:(cU (8*i)).toNat=8*i:=FJ (by omega);rw[h1];show E2 x (8*i)=k21 x i
 induction i with
 | zero=>simp[k21,E2]
 | succ i ih=>
  rw[k21,<- ih (by omega) (FJ (by omega))];apply R7.1;rw[KU,KU,KU,Nat.div_div_eq_div_mul,<- Nat.pow_add]
  congr 2
  omega
theorem q15{x:UInt64}(h:x<65536):x<=65535:=by
 rw[J5] at h;rw[Y9];have e1:(65536:UInt64).toNat=65536:=rfl;have e2:(65535:UInt64).toNat=65535:=rfl;omega
theorem OY{x:UInt64}(h:x<=65535):x<65536:=by
 rw[Y9] at h;rw[J5];have e1:(65536:UInt64).toNat=65536:=rfl;have e2:(65535:UInt64).toNat=65535:=rfl;omega
theorem q14{x:UInt64}(h:x<4294967296):x<=4294967295:=by
 rw[J5] at h;rw[Y9];have e1:(4294967296:UInt64).toNat=4294967296:=rfl;have e2:(4294967295:UInt64).toNat=4294967295:=rfl;omega
theorem q12{x:UInt64}(h:x<=4294967295):x<4294967296:=by
 rw[Y9] at h;rw[J5];have e1:(4294967296:UInt64).toNat=4294967296:=rfl;have e2:(4294967295:UInt64).toNat=4294967295:=rfl;omega
section
open Go.Proofs
theorem XH(x:UInt64)(n:Nat)(hn:n<=8):Fn Tryz.prog gl 88 [.u64 x,.int ((n:Nat):Int)] (.sl (some 5) 1 ((M8 x n).map D.u8)):=by
 refine Fo 22 Tryz.func88 O λC hC hD=>?_;refine u7 1 (y1 4) (V2 0 1) ⟨QX O,Zt⟩ ?_;refine u7 1 (y1 5) (V3 0 1 5) ⟨QX O,Zt⟩ ?_;refine W.seq (u7 1 (y1 6) (V4 0 1 5 6) ⟨r6 0 O,Zt⟩ ?_);refine W.block ?_;refine P9 (s:=5) 5 1 O ?_;refine P6 n (λi=>⟨22,[(0,.u64 x),(1,.int ((n:Nat):Int)),(5,.sl (some 5) 1 ((M8 x i).map D.u8)),(6,.int ((i:Nat):Int))],[]⟩) O λi hi=>?_;have hll:=K3 x i;refine W.seq (u7 3 (y3 7 8 9) (V5 0 1 5 6 9) ⟨zV O,zV O,zS O,Zt⟩ ?_);refine c4 O (λhc9=>?_) (λhc9=>?_)
 ·refine W.skip (W.seq (W.block ?_));refine XU 10 (z91 12 13 14 15 16 17 18 19 20 5) [(8,5),(9,20),(9,12)] [(8,5),(9,20)] (V4 0 1 5 6) ⟨aU<|zM O,xM O,xM O,aU<|YK 8 O,aU λ_ _ H K=>T6 (d:=.u64 (cU (8*i))) (eU K 15 O) O (O) H,aU λ_ _ H K=>P1 (d:=.u64 (k21 x i)) (eU K 13 O) (eU K 16 O) O bV (g8 D.u64 (w57 x i bO)) H,aU<|zW O,aU λ_ _ H K=>Z7 (z:=1) (.cons (eU K 18 O) .nil) ⟨⟨O,O,O⟩,Zt⟩ O H dU,aU<|UI O (Y7 O) (show _=((M8 x (i+1)).map D.u8) from(by simp[M8])) bU,aU<|zO O,Zt⟩ O (tU O ?_);refine m7 3 (y3 10 11 6) (V4 0 1 5 6) ⟨zV O,N2 1 O,zA O,Zt⟩ ?_;exact⟨bU,rfl⟩
 ·obtain rfl:i=n:=by omega
  refine W.exit (M3 2 (y2 21 4) [(0,5),(1,21)] [(0,5),(1,21)] (V1 4) ⟨aU λ_ _ H K=>KK (K 5 _ O) O H dU,aU<|zO O,Zt⟩ O (tU O ?_));exact W.ret (Eo O)
theorem IL(n:Nat):Fn Tryz.prog gl 90 [.int ((n:Nat):Int)] (.sl (some 5) 1 ((H7 n).map D.u8)):=by
 refine Fo 27 Tryz.func90 O λC hC hD=>?_;refine u7 1 (y1 2) (V1 0) ⟨QX O,Zt⟩ ?_;refine u7 3 (y3 4 5 3) (V1 3) ⟨zV O,λ_ _ H K=>T6 (d:=.u64 (cU n)) (eU K 4 O) O (O) H,zA O,Zt⟩ ?_;refine W.seq (u7 2 (y2 6 7) (V2 3 7) ⟨zV O,UH O (kW (.int .u64 253) (.u64 253) O),Zt⟩ ?_);refine W.cond O (λhc7=>?_) (λhc7=>?_)
 ·refine M3 4 (y4 8 9 10 2) [(3,10)] [(3,10)] (V1 2) ⟨xM O,aU<|zW O,aU λ_ _ H K=>Z7 (z:=1) (.cons (eU K 9 O) .nil) ⟨⟨O,O,O⟩,Zt⟩ O H dU,aU<|zO O,Zt⟩ O (tU O ?_);exact W.ret (En O (by rw[H7,u4 (c3 hc7)];rfl))
 ·refine W.skip (W.seq (u7 2 (y2 11 12) (V2 3 12) ⟨zV O,UH O (kW (.int .u64 65536) (.u64 65536) O),Zt⟩ ?_));refine W.cond O (λhc12=>?_) (λhc12=>?_)
  ·refine M3 5 (y5 13 14 15 16 2) [(3,13),(4,16)] [(3,13),(4,16)] (V1 2) ⟨aU λ_ _ H _=>Z7 (z:=1) (.cons (kW (.int .u8 253) (.u8 253) O) .nil) ⟨⟨O,O,O⟩,Zt⟩ O H dU,xM O,aU<|GT hC (XH (cU n) 2 dU) O (kI 2 O) (F1 (.sl _ _ _ (K7 λ_=>.u8 _))),aU λ_ _ H K=>O6 (Or.inl O) (K 13 _ O) (SrcO.sc (SC.sl (K 15 _ O)) (B0 (λ_=>rfl))) (show _=((M8 253 1++M8 (cU n) 2).map D.u8) from(by simp[M8,k21])) (by simp[K3]) H dU dU,aU<|zO O,Zt⟩ O (tU O ?_);exact W.ret (En O (by rw[H7,w3 (g7 hc7),u4 (q15 (c3 hc12))]))
  ·refine W.skip (W.seq (u7 2 (y2 17 18) (V2 3 18) ⟨zV O,UH O (kW (.int .u64 4294967296) (.u64 4294967296) O),Zt⟩ ?_));refine W.cond O (λhc18=>?_) (λhc18=>?_)
   ·refine M3 5 (y5 19 20 21 22 2) [(3,19),(4,22)] [(3,19),(4,22)] (V1 2) ⟨aU λ_ _ H _=>Z7 (z:=1) (.cons (kW (.int .u8 254) (.u8 254) O) .nil) ⟨⟨O,O,O⟩,Zt⟩ O H dU,xM O,aU<|GT hC (XH (cU n) 4 dU) O (kI 4 O) (F1 (.sl _ _ _ (K7 λ_=>.u8 _))),aU λ_ _ H K=>O6 (Or.inl O) (K 19 _ O) (SrcO.sc (SC.sl (K 21 _ O)) (B0 (λ_=>rfl))) (show _=((M8 254 1++M8 (cU n) 4).map D.u8) from(by simp[M8,k21])) (by simp[K3]) H dU dU,aU<|zO O,Zt⟩ O (tU O ?_);exact W.ret (En O (by rw[H7,w3 (g7 hc7),w3 (λh=>g7 hc12 (OY h)),u4 (q14 (c3 hc18))]))
   ·refine W.skip (M3 5 (y5 23 24 25 26 2) [(3,23),(4,26)] [(3,23),(4,26)] (V1 2) ⟨aU λ_ _ H _=>Z7 (z:=1) (.cons (kW (.int .u8 255) (.u8 255) O) .nil) ⟨⟨O,O,O⟩,Zt⟩ O H dU,xM O,aU<|GT hC (XH (cU n) 8 dU) O (kI 8 O) (F1 (.sl _ _ _ (K7 λ_=>.u8 _))),aU λ_ _ H K=>O6 (Or.inl O) (K 23 _ O) (SrcO.sc (SC.sl (K 25 _ O)) (B0 (λ_=>rfl))) (show _=((M8 255 1++M8 (cU n) 8).map D.u8) from(by simp[M8,k21])) (by simp[K3]) H dU dU,aU<|zO O,Zt⟩ O (tU O ?_));exact W.ret (En O (by rw[H7,w3 (g7 hc7),w3 (λh=>g7 hc12 (OY h)),w3 (λh=>g7 hc18 (q12 h))]))
theorem q60(x:List UInt8)(hx:x.length<=1000000):Fn Tryz.prog gl 91 [.sl none 1 (x.map D.u8)] (.sl (some 5) 1 ((JO x).map D.u8)):=by
 refine Fo 8 Tryz.func91 O λC hC hD=>?_;have hcl:=E9 x.length;refine u7 1 (y1 2) (V1 0) ⟨QX O,Zt⟩ ?_;refine M3 6 (y6 3 4 5 6 7 2) [(4,5),(5,7)] [(4,5),(5,7)] (V1 2) ⟨xM O,aU<|R2 O,aU<|zC hC (IL x.length) O (F1 (.sl _ _ _ (K7 λ_=>.u8 _))),xM O,aU λ_ _ H K=>O6 (Or.inl O) (K 5 _ O) (SrcO.sc (SC.sl (K 6 _ O)) (B0 (λ_=>rfl))) (show _=((JO x).map D.u8) from(by simp[JO])) bU H dU dU,aU<|zO O,Zt⟩ O (tU O ?_);exact W.ret (Eo O)
theorem z32(x:InS)(hh:x.tx.length=32)(hx:x.script.length<=1000000):Fn Tryz.prog gl 138 [XE x] (.sl (some 5) 1 ((u28 x).map D.u8)):=by
 refine Fo 27 Tryz.func138 O λC hC hD=>?_;have hil:=ZL x.script;refine c6 2 [] (V1 0) Zt O (⟨O,_,R.box (gV 0 O) O O nU,⟨O,_,Z3 (kN O) O nU,tW (V1 1) (B8 1) 27 O ?_⟩⟩);refine M3 6 (y6 4 5 6 7 8 3) [(4,4),(5,8)] [(4,4),(5,8)] (V2 1 3) ⟨aU λ_ _ H _=>Z7 .nil Zt O H dU,aU (xF O),aU (xF O),aU λ_ B H K=>r9 (0) (32) (32) (K 6 _ O) (B 1 _ O) O O O O O bU bU O H,aU λ_ B H K=>O6 (Or.inl O) (K 4 _ O) (SrcO.sc (SC.va (K 7 _ O) (B 1 _ O) O bU) (l4 (λ_=>rfl))) (show _=(x.tx.map D.u8) from(by rw[K5,m4 (by rw[z9,hh];exact z7 _)];simp)) bU H dU dU,aU<|zO O,Zt⟩ O (tU O ?_);refine M3 8 (y8 9 10 11 12 13 14 15 3) [(6,3),(7,15),(7,9)] [(6,3),(7,15)] (V2 1 3) ⟨aU<|zM O,aU (xF O),aU (xF O),aU (xL O),aU<|zW O,aU<|GT hC (XH x.n.toUInt64 4 dU) O (kI 4 O) (F1 (.sl _ _ _ (K7 λ_=>.u8 _))),aU<|UI O (B0 (λ_=>rfl)) (show _=(((x.tx++M8 x.n.toUInt64 4)).map D.u8) from(by simp)) (by simp only[z9,q9,K3,j3,j5];omega),aU<|zO O,Zt⟩ O (tU O ?_);refine M3 6 (y6 16 17 18 19 20 3) [(4,3),(5,20),(5,16)] [(4,3),(5,20)] (V2 1 3) ⟨aU<|zM O,aU (xF O),aU (xL O),aU<|zC hC (q60 x.script (hx)) O (F1 (.sl _ _ _ (K7 λ_=>.u8 _))),aU<|UI O (B0 (λ_=>rfl)) (show _=((((x.tx++M8 x.n.toUInt64 4)++JO x.script)).map D.u8) from(by simp)) (by simp only[z9,q9,K3,j3,j5];omega),aU<|zO O,Zt⟩ O (tU O ?_);refine M3 7 (y7 21 22 23 24 25 26 2) [(5,3),(6,26)] [(5,3),(6,26)] (V1 2) ⟨aU<|zM O,aU (xF O),aU (xL O),aU<|zW O,aU<|GT hC (XH x.seq.toUInt64 4 dU) O (kI 4 O) (F1 (.sl _ _ _ (K7 λ_=>.u8 _))),aU<|UI O (B0 (λ_=>rfl)) (show _=((((x.tx++M8 x.n.toUInt64 4)++JO x.script)++M8 x.seq.toUInt64 4).map D.u8) from(by simp)) (by simp only[z9,q9,K3,j3,j5];omega),aU<|zO O,Zt⟩ O (tU O ?_);exact W.ret (En O (by simp only[u28]))
theorem x33(t:TxS)(hwf:t.wf):Fn Tryz.prog gl 89 [QS t] (.sl (some 5) 1 ((JT t).map D.u8)):=by
 refine Fo 57 Tryz.func89 O λC hC hD=>?_;have hc1:=E9 t.ins.length;have hc2:=E9 t.outs.length;have h1:=hwf.ins;have h2:=hwf.outs;have h3:=hwf.insb _ (z7 _);have h4:=hwf.outsb _ (z7 _);refine c6 2 [] (V1 0) Zt O (⟨O,_,R.box (gV 0 O) O O nU,⟨O,_,Z3 (kN O) O nU,tW (V1 1) (B8 1) 57 O ?_⟩⟩);refine M3 5 (y5 6 7 8 9 3) [(4,9)] [(4,9)] (V2 1 3) ⟨aU (xF O),aU (xL O),aU<|R2 O,aU<|zC hC (IL t.ins.length) O (F1 (.sl _ _ _ (K7 λ_=>.u8 _))),aU<|zO O,Zt⟩ O (tU O ?_);refine W.seq (u7 1 (y1 4) (V3 1 3 4) ⟨r6 0 O,Zt⟩ ?_);refine W.block ?_;refine P6 t.ins.length (λi=>⟨57,[(1,.ptr 1 0 []),(3,.sl (some 5) 1 ((H7 t.ins.length++ZU t.ins i).map D.u8)),(4,.int ((i:Nat):Int))],[(1,.var (.agg [.u32 t.ver,.sl none 36 (t.ins.map XE),.sl none 2 (t.outs.map i7),.u32 t.lock]))]⟩) (by simp only[ZU,m6];rfl) λi hi=>?_;have hib:=hwf.insb i hi;have hib1:i<t.ins.length->(ZU t.ins (i+1)).length<=1500000:=λh=>hwf.insb (i+1) h
 have hx:i<t.ins.length->t.ins[i]!.tx.length=32/\t.ins[i]!.script.length<=1000000:=λh=>⟨hwf.hash _ (P3 h),hwf.insScript h⟩
 have hiS:(ZU t.ins (i+1)).length=(ZU t.ins i).length+(u28 t.ins[i]!).length:=by simp[ZU]
 refine W.seq (u7 5 (y5 10 11 12 13 14) (V4 1 3 4 14) ⟨zV O,xF O,xL O,R2 O,zS O,Zt⟩ ?_);refine c4 O (λhc14=>?_) (λhc14=>?_)
 ·refine W.skip (W.seq (W.block ?_));refine XU 9 (y9 17 18 19 20 21 22 23 24 3) [(7,3),(8,24),(8,17)] [(7,3),(8,24)] (V3 1 3 4) ⟨aU<|zM O,aU (xF O),aU (xL O),xM O,aU<|zI i O,aU<|zL O (mG t.ins),aU<|zC hC (z32 t.ins[i]! ((hx bO).1) ((hx bO).2)) O (F1 (.sl _ _ _ (K7 λ_=>.u8 _))),aU<|UI O (B0 (λ_=>rfl)) (show _=((H7 t.ins.length++ZU t.ins (i+1)).map D.u8) from(by simp[ZU,QE,EV,u5])) (by simp only[z9,q9,K3,j3,j5];omega),aU<|zO O,Zt⟩ O (tU O ?_);refine m7 3 (y3 15 16 4) (V3 1 3 4) ⟨zV O,N2 1 O,zA O,Zt⟩ ?_;exact⟨bU,rfl⟩
 ·obtain rfl:i=t.ins.length:=by omega
  refine W.exit (M3 7 (y7 25 26 27 28 29 30 3) [(5,3),(6,30),(6,25)] [(5,3),(6,30)] (V2 1 3) ⟨aU<|zM O,aU (xF O),aU (xL O),aU<|R2 O,aU<|zC hC (IL t.outs.length) O (F1 (.sl _ _ _ (K7 λ_=>.u8 _))),aU<|UI O (B0 (λ_=>rfl)) (show _=(((H7 t.ins.length++ZU t.ins t.ins.length)++H7 t.outs.length).map D.u8) from(by simp)) (by simp only[z9,q9,K3,j3,j5];omega),aU<|zO O,Zt⟩ O (tU O ?_));refine W.seq (u7 1 (y1 5) (V3 1 3 5) ⟨r6 0 O,Zt⟩ ?_);refine W.block ?_;refine P6 t.outs.length (λi=>⟨57,[(1,.ptr 1 0 []),(3,.sl (some 5) 1 (((H7 t.ins.length++ZU t.ins t.ins.length)++H7 t.outs.length++QE t.outs i).map D.u8)),(5,.int ((i:Nat):Int))],[(1,.var (.agg [.u32 t.ver,.sl none 36 (t.ins.map XE),.sl none 2 (t.outs.map i7),.u32 t.lock]))]⟩) (by simp only[QE,m6]) λi hi=>?_;have hib:=hwf.outsb i hi;have hib1:i<t.outs.length->(QE t.outs (i+1)).length<=1500000:=λh=>hwf.outsb (i+1) h;have hx:i<t.outs.length->t.outs[i]!.script.length<=1000000:=λh=>hwf.outScript h
  have hiS:(QE t.outs (i+1)).length=(QE t.outs i).length+(8+(JO t.outs[i]!.script).length):=by simp[QE,EV,K3]
  refine W.seq (u7 5 (y5 31 32 33 34 35) (V4 1 3 5 35) ⟨zV O,xF O,xL O,R2 O,zS O,Zt⟩ ?_);refine c4 O (λhc35=>?_) (λhc35=>?_)
  ·refine W.skip (W.seq (W.block (M3 10 (z91 38 39 40 41 42 43 44 45 46 3) [(8,3),(9,46),(9,38)] [(8,3),(9,46)] (V3 1 3 5) ⟨aU<|zM O,aU (xF O),aU (xL O),xM O,aU<|zI i O,aU<|UF O,aU<|zL O (mG t.outs),aU<|GT hC (XH t.outs[i]!.value 8 dU) O (kI 8 O) (F1 (.sl _ _ _ (K7 λ_=>.u8 _))),aU<|UI O (B0 (λ_=>rfl)) (show _=((((H7 t.ins.length++ZU t.ins t.ins.length)++H7 t.outs.length++QE t.outs i)++M8 t.outs[i]!.value 8).map D.u8) from(by simp)) (by simp only[z9,q9,K3,j3,j5];omega),aU<|zO O,Zt⟩ O (tU O ?_))));refine XU 10 (z91 47 48 49 50 51 52 53 54 55 3) [(8,3),(9,55),(9,47)] [(8,3),(9,55)] (V3 1 3 5) ⟨aU<|zM O,aU (xF O),aU (xL O),xM O,aU<|zI i O,aU<|UF O,aU<|zL O (mG t.outs),aU<|zC hC (q60 t.outs[i]!.script (hx bO)) O (F1 (.sl _ _ _ (K7 λ_=>.u8 _))),aU<|UI O (B0 (λ_=>rfl)) (show _=(((H7 t.ins.length++ZU t.ins t.ins.length)++H7 t.outs.length++QE t.outs (i+1)).map D.u8) from(by simp[ZU,QE,EV,u5])) (by simp only[z9,q9,K3,j3,j5];omega),aU<|zO O,Zt⟩ O (tU O ?_);refine m7 3 (y3 36 37 5) (V3 1 3 5) ⟨zV O,N2 1 O,zA O,Zt⟩ ?_;exact⟨bU,rfl⟩
  ·obtain rfl:i=t.outs.length:=by omega
   refine W.exit (M3 2 (y2 56 2) [(0,3),(1,56)] [(0,3),(1,56)] (V1 2) ⟨aU λ_ _ H K=>KK (K 3 _ O) O H dU,aU<|zO O,Zt⟩ O (tU O ?_));exact W.ret (En O (by simp only[JT]))
theorem k41(t:TxS)(hwf:t.wf):Fn Tryz.prog gl 55 [QS t] (.sl (some 5) 1 ((YZ t).map D.u8)):=by
 refine Fo 17 Tryz.func55 O λC hC hD=>?_;have hbl:=hwf.body;refine c6 2 [] (V1 0) Zt O (⟨O,_,R.box (gV 0 O) O O nU,⟨O,_,Z3 (kN O) O nU,tW (V1 1) (B8 1) 17 O ?_⟩⟩);refine W.seq ?_;refine KL 8 [0,1,3,7,0,31,63,127] hP dU (y8 4 5 6 7 8 9 10 3) [(6,7),(7,10)] [(6,7),(7,10)] (V2 1 3) ⟨aU (xF O),aU (xL O),aU<|zW O,aU<|GT hC (XH t.ver.toUInt64 4 dU) O (kI 4 O) (F1 (.sl _ _ _ (K7 λ_=>.u8 _))),aU (xL O),aU<|zC hC (x33 t hwf) O (F1 (.sl _ _ _ (K7 λ_=>.u8 _))),aU λ_ _ H K=>O6 (Or.inl O) (K 7 _ O) (SrcO.sc (SC.sl (K 9 _ O)) (B0 (λ_=>rfl))) (show _=((M8 t.ver.toUInt64 4++JT t).map D.u8) from(by simp)) (by simp only[z9,q9,K3,j3,j5];omega) H dU dU,aU<|zO O,Zt⟩ O (tW (V2 1 3) (B8 1) 17 O ?_);refine M3 7 (y7 11 12 13 14 15 16 2) [(5,3),(6,16)] [(5,3),(6,16)] (V1 2) ⟨aU<|zM O,aU (xF O),aU (xL O),aU<|zW O,aU<|GT hC (XH t.lock.toUInt64 4 dU) O (kI 4 O) (F1 (.sl _ _ _ (K7 λ_=>.u8 _))),aU<|UI O (B0 (λ_=>rfl)) (show _=((YZ t).map D.u8) from(by simp[YZ])) (by simp only[z9,q9,K3,j3,j5];omega),aU<|zO O,Zt⟩ O (tU O ?_);exact W.ret (Eo O)
end
def ZM:HdS:=⟨1,zero32,zero32,1000,545259519,0⟩
def lim:UInt32:=545259519
def AT(x:Bg)(n m:UInt64)(most:Bg):Bg:=
 if FW (r8 x [m,0,0,0]) n≠0 then most
 else if z80 (QT (r8 x [m,0,0,0]) n) (r8 (QT (JZ x [m,0,0,0]) n) [m,0,0,0])=true∨YR most (EG (QT (r8 x [m,0,0,0]) n) (r8 (QT (JZ x [m,0,0,0]) n) [m,0,0,0]))=true then most
 else EG (QT (r8 x [m,0,0,0]) n) (r8 (QT (JZ x [m,0,0,0]) n) [m,0,0,0])
def k16(l:List HdS):Int:=min (max (((l[l.length-1]!.time.toNat:Nat):Int)-((l[l.length-10]!.time.toNat:Nat):Int)) 25) 400
def NS(l:List HdS):Bg:=AT (AV l[l.length-1]!.bits) (UInt64.ofInt (k16 l)) 100 (AV lim)
def F6(l:List HdS):UInt32:=
 if l.length=0 then 0 else if l.length%10≠0 then l[l.length-1]!.bits else GQ (if NS l=X3 then[1,0,0,0] else NS l)
theorem x92{l:List HdS}(h:l.length=0):F6 l=0:=by unfold F6;exact u4 h
theorem x91{l:List HdS}(h:¬ l.length=0)(h1:l.length%10≠0):F6 l=l[l.length-1]!.bits:=by
 unfold F6;rw[w3 h,u4 h1]
theorem x90{l:List HdS}(h:¬ l.length=0)(h1:¬ l.length%10≠0)(hz:NS l=X3):F6 l=GQ [1,0,0,0]:=by
 unfold F6;rw[w3 h,w3 h1,u4 hz]
theorem x89{l:List HdS}(h:¬ l.length=0)(h1:¬ l.length%10≠0)(hz:¬ NS l=X3):F6 l=GQ (NS l):=by
 unfold F6;rw[w3 h,w3 h1,w3 hz]
theorem k47{x most:Bg}{n m:UInt64}(h:most.length=4):(AT x n m most).length=4:=by
 unfold AT;split
 ·exact h
 ·split
  ·exact h
  ·exact VS _ _
theorem k65(l:List HdS):(NS l).length=4:=by unfold NS;exact k47 (DD _)
def shf(x:UInt32):List UInt32->Nat->List UInt32
 | ts,0=>ts.set 0 x
 | ts,k+1=>if x<ts[k]! then shf x (ts.set (k+1) ts[k]!) k else ts.set (k+1) x
def z49(ts:List UInt32)(x:UInt32):List UInt32:=shf x (ts++[x]) ts.length
def OJ(l:List HdS):Nat->List UInt32
 | 0=>[]
 | j+1=>z49 (OJ l j) l[l.length-11+j]!.time
def q11(l:List HdS):UInt32:=if l.length=0 then 0 else(OJ l (min l.length 11))[min l.length 11/2]!
theorem x26(x:UInt32)(k:Nat):∀ ts:List UInt32,(shf x ts k).length=ts.length:=by
 induction k with
 | zero=>intro ts;simp[shf]
 | succ k ih=>intro ts;simp only[shf];split<;>simp[ih]
theorem k94(ts:List UInt32)(x:UInt32):(z49 ts x).length=ts.length+1:=by simp[z49,x26]
theorem k78(l:List HdS)(j:Nat):(OJ l j).length=j:=by
 induction j with
 | zero=>rfl
 | succ j ih=>simp only[OJ,k94,ih]
theorem u60{x:UInt32}{ts:List UInt32}{k:Nat}(h0:0<k)(h:x<ts[k-1]!):shf x ts k=shf x (ts.set k ts[k-1]!) (k-1):=by
 obtain⟨j,rfl⟩:∃ j,k=j+1:=⟨k-1,by omega⟩
 rw[shf];exact u4 h
theorem q54{x:UInt32}{ts:List UInt32}{k:Nat}(h:0<k->¬ x<ts[k-1]!):shf x ts k=ts.set k x:=by
 cases k with
 | zero=>rw[shf]
 | succ j=>
  rw[shf];exact w3 (h (by omega))
def GW(h:HdS)(t:Bg):Nat->HdS×Bool
 | 0=>(h,false)
 | k+1=>if DC (DF { h with nonce:=UInt32.ofNat (199-k) }) t=true then({ h with nonce:=UInt32.ofNat (199-k) },true) else GW { h with nonce:=UInt32.ofNat (199-k) } t k
def DI(l:List HdS)(time:UInt32)(root:Hs):HdS:=⟨1,DF l[l.length-1]!,root,time,F6 l,0⟩
def US(l:List HdS)(time:UInt32)(root:Hs):HdS×Bool:=
 match HI (F6 l) with
 | none=>(DI l time root,false)
 | some t=>GW (DI l time root) t 200
theorem FD(h:HdS):(DF h).length=32:=by unfold DF;exact HJ _
theorem u47{v t b n:UInt32}{p r:Hs}(hp:p.length=32)(hr:r.length=32):HdS.wf ⟨v,p,r,t,b,n⟩:=⟨hp,hr⟩
theorem k76(t:Bg)(k:Nat):∀ h:HdS,h.wf->(GW h t k).1.wf:=by
 induction k with
 | zero=>intro h hw;exact hw
 | succ k ih=>
  intro h hw;rw[GW];split
  ·exact u47 hw.1 hw.2
  ·exact ih _ (u47 hw.1 hw.2)
theorem OP(l:List HdS)(time:UInt32)(root:Hs)(hr:root.length=32):(DI l time root).wf:=by
 unfold DI;exact u47 (FD _) hr
theorem OZ{l:List HdS}{time:UInt32}{root:Hs}(h:HI (F6 l)=none):US l time root=(DI l time root,false):=by
 unfold US;rw[h]
theorem OQ{l:List HdS}{time:UInt32}{root:Hs}{t:Bg}(h:HI (F6 l)=some t):US l time root=GW (DI l time root) t 200:=by
 unfold US;rw[h]
theorem k75(l:List HdS)(time:UInt32)(root:Hs)(hr:root.length=32):(US l time root).1.wf:=by
 cases h:HI (F6 l) with
 | none=>rw[OZ h];exact OP l time root hr
 | some t=>rw[OQ h];exact k76 t _ _ (OP l time root hr)
abbrev Plc:=Hs×UInt32
def z5(p:Plc):D:=.agg [j4 p.1,.u32 p.2]
def plc(x:InS):Plc:=(x.tx,x.n)
def R3(t:TxS):Bool:=decide (t.ins.length=1)&&(plc t.ins[0]! == (List.replicate 32 0,4294967295))
@[irreducible] def DU (t:TxS):Hs:=CI (YZ t)
theorem SI(t:TxS):(DU t).length=32:=by unfold DU;exact HJ _
structure BlkS where
 hd:HdS
 txs:List TxS
 deriving Inhabited
def G8(b:BlkS):D:=.agg [C7 b.hd,.sl none 4 (b.txs.map QS)]
structure StS where
 h:Nat
 at_:Nat
 id:Hs
 t:TxS
 deriving Inhabited
def YX(s:StS):D:=.agg [W3 s.h,W3 s.at_,j4 s.id,QS s.t]
structure BlkS.wf(b:BlkS):Prop where
 hd:b.hd.wf
 txs:∀ t∈b.txs,t.wf
 sm:∀ t∈b.txs,t.ins.length<=1000/\t.outs.length<=1000
 len:b.txs.length<=1000
def allBl(l:List BlkS):Prop:=l.length<=100/\∀ b∈l,b.wf
theorem allBl.get{l:List BlkS}(h:allBl l){i:Nat}(hi:i<l.length):l[i]!.wf:=by rw[Z1 l i hi];exact h.2 _ (g6 hi)
theorem BlkS.wf.small{b:BlkS}(h:b.wf){i:Nat}(hi:i<b.txs.length):b.txs[i]!.ins.length<=1000/\b.txs[i]!.outs.length<=1000:=by rw[Z1 b.txs i hi];exact h.sm _ (g6 hi)
theorem BlkS.wf.get{b:BlkS}(h:b.wf){i:Nat}(hi:i<b.txs.length):b.txs[i]!.wf:=by rw[Z1 b.txs i hi];exact h.txs _ (g6 hi)
def BT(b:BlkS)(h:Nat):Nat->List StS
 | 0=>[]
 | i+1=>BT b h i++[⟨h,i,DU b.txs[i]!,b.txs[i]!⟩]
def OW(l:List BlkS):Nat->List StS
 | 0=>[]
 | h+1=>OW l h++BT l[h]! h l[h]!.txs.length
def W4(l:List BlkS):List StS:=OW l l.length
theorem z82(l:List BlkS)(h:Nat):OW l (h+1)=OW l h++BT l[h]! h l[h]!.txs.length:=by rw[OW]
theorem x95(p:List StS)(b:BlkS)(h i:Nat):(p++BT b h i).map YX++[.agg [W3 h,W3 i,j4 (DU b.txs[i]!),QS b.txs[i]!]]=(p++BT b h (i+1)).map YX:=by
 rw[BT,<- u5,d5 (l₁:=p++BT b h i)];rfl
theorem VW(b:BlkS)(h i:Nat):(BT b h i).length=i:=by
 induction i with
 | zero=>rfl
 | succ i ih=>simp[BT,ih]
theorem WQ{l:List BlkS}(hl:allBl l)(h:Nat)(hh:h<=l.length):(OW l h).length<=1000*h:=by
 induction h with
 | zero=>exact z7 _
 | succ h ih=>
  have:=(hl.get (show h<l.length by omega)).len;have:=ih (by omega);simp only[OW,q9,VW];omega
theorem j67{l:List BlkS}(hl:allBl l):(W4 l).length<=100000:=by
 have:=WQ hl l.length (z7 _);have:=hl.1;unfold W4;omega
def StS.wf(s:StS):Prop:=s.id.length=32/\s.t.wf/\s.t.ins.length<=1000/\s.t.outs.length<=1000
theorem v59{h a:Nat}{id:Hs}{t:TxS}(hi:id.length=32)(ht:t.wf)(hs:t.ins.length<=1000/\t.outs.length<=1000):StS.wf ⟨h,a,id,t⟩:=⟨hi,ht,hs⟩
def allSt(l:List StS):Prop:=l.length<=100000/\∀ s∈l,s.wf
theorem allSt.get{l:List StS}(h:allSt l){i:Nat}(hi:i<l.length):l[i]!.wf:=by rw[Z1 l i hi];exact h.2 _ (g6 hi)
theorem x97{b:BlkS}(hb:b.wf)(h:Nat){i:Nat}(hi:i<=b.txs.length):∀ s∈BT b h i,s.wf:=by
 induction i with
 | zero=>intro s hs;cases hs
 | succ i ih=>
  intro s hs
  rcases Q9.1 hs with h1|h1
  ·exact ih (by omega) s h1
  ·rw[d8.1 h1];exact v59 (SI _) (hb.get (by omega)) (hb.small (by omega))
theorem x98{l:List BlkS}(hl:allBl l)(h:Nat)(hh:h<=l.length):∀ s∈OW l h,s.wf:=by
 induction h with
 | zero=>intro s hs;cases hs
 | succ h ih=>
  intro s hs
  rcases Q9.1 hs with h1|h1
  ·exact ih (by omega) s h1
  ·exact x97 (hl.get (by omega)) h (z7 _) s h1
theorem MR{l:List BlkS}(hl:allBl l):allSt (W4 l):=⟨j67 hl,x98 hl _ (z7 _)⟩
def v32(s:StS)(p:Plc):Bool:=s.id==p.1&&decide (p.2.toNat<s.t.outs.length)
def u65(l:List StS):Nat->Plc->Option OutS
 | 0,_=>none
 | i+1,p=>match u65 l i p with
  | some o=>some o
  | none=>if v32 l[i]! p then some l[i]!.t.outs[p.2.toNat]! else none
def VZ(t:TxS)(p:Plc)(k:Nat):Bool:=(List.range k).any λj=>plc t.ins[j]! == p&&!R3 t
def YW(l:List StS)(before input:Nat)(i:Nat):Nat:=if i<before then l[i]!.t.ins.length else min l[i]!.t.ins.length input
def EX(l:List StS)(before input:Nat)(p:Plc):Bool:=(List.range (min (before+1) l.length)).any λi=>VZ l[i]!.t p (YW l before input i)
theorem u00{t:TxS}{p:Plc}{k n:Nat}(hk:k<n)(h4:plc t.ins[k]! = p)(hm:(!R3 t)=true):VZ t p n=true:=by
 unfold VZ;rw[Z4];exact⟨k,j7.2 hk,by rw[u6];exact⟨p7.2 h4,hm⟩⟩
theorem j31{t:TxS}{p:Plc}{n:Nat}(h:∀ q<n,(plc t.ins[q]! == p&&!R3 t)=false):VZ t p n=false:=by
 unfold VZ;rw[i4];intro q hq;rw[h q (j7.1 hq)];simp
theorem VQ{l:List StS}{before input i k:Nat}{p:Plc}(hi:i<=before)(hi2:i<l.length)(hk:k<YW l before input i)(h4:plc l[i]!.t.ins[k]! = p)(hm:(!R3 l[i]!.t)=true):EX l before input p=true:=by
 unfold EX;rw[Z4];exact⟨i,j7.2 (by omega),u00 hk h4 hm⟩
theorem FN{l:List StS}{before input:Nat}{p:Plc}(h:∀ q<min (before+1) l.length,VZ l[q]!.t p (YW l before input q)=false):EX l before input p=false:=by
 unfold EX;rw[i4];intro q hq;rw[h q (j7.1 hq)];simp
theorem BO{l:List StS}{before input i:Nat}(h:i<before):YW l before input i=l[i]!.t.ins.length:=by unfold YW;exact u4 h
theorem BN{l:List StS}{before input i:Nat}(h:¬ i<before):YW l before input i=min l[i]!.t.ins.length input:=by unfold YW;exact w3 h
theorem q66{t:TxS}{p:Plc}{k:Nat}(h:¬ plc t.ins[k]! = p):(plc t.ins[k]! == p&&!R3 t)=false:=by rw[v4.2 h];rfl
theorem MJ{t:TxS}{p:Plc}{k:Nat}(h:¬ (!R3 t)=true):(plc t.ins[k]! == p&&!R3 t)=false:=by
 cases hm:R3 t with
 | true=>simp
 | false=>rw[hm] at h;exact absurd rfl h
def DY(x:Plc×UInt64):D:=z5 x.1
def CA(x:Plc×UInt64):D:=.u64 x.2
def KD(l:List StS)(i:Nat):Nat->List (Plc×UInt64)
 | 0=>[]
 | k+1=>if EX l l.length 0 (l[i]!.id,UInt32.ofInt ((k:Nat):Int))=true then KD l i k else KD l i k++[((l[i]!.id,UInt32.ofInt ((k:Nat):Int)),l[i]!.t.outs[k]!.value)]
def HS(l:List StS):Nat->List (Plc×UInt64)
 | 0=>[]
 | i+1=>HS l i++KD l i l[i]!.t.outs.length
theorem z27(l:List StS)(i:Nat):HS l (i+1)=HS l i++KD l i l[i]!.t.outs.length:=by rw[HS]
theorem w49(l:List StS)(i:Nat):KD l i 0=[]:=by rw[KD]
theorem SQ(l:List StS)(i k:Nat):(KD l i k).length<=k:=by
 induction k with
 | zero=>exact z7 _
 | succ k ih=>
  simp only[KD];split
  ·omega
  ·rw[q9,Q5];omega
theorem SZ{l:List StS}(hl:allSt l)(i:Nat)(hi:i<=l.length):(HS l i).length<=1000*i:=by
 induction i with
 | zero=>exact z7 _
 | succ i ih=>
  have h1:=ih (by omega);have h2:=(hl.get (show i<l.length by omega)).2.2.2;have h3:=SQ l i l[i]!.t.outs.length;simp only[HS,q9];omega
theorem k08{l:List StS}{i k:Nat}(h:EX l l.length 0 (l[i]!.id,UInt32.ofInt ((k:Nat):Int))=true):KD l i (k+1)=KD l i k:=by rw[KD,u4 h]
theorem k09{l:List StS}{i k:Nat}(h:¬ EX l l.length 0 (l[i]!.id,UInt32.ofInt ((k:Nat):Int))=true):KD l i (k+1)=KD l i k++[((l[i]!.id,UInt32.ofInt ((k:Nat):Int)),l[i]!.t.outs[k]!.value)]:=by rw[KD,w3 h]
theorem u53{l:List StS}{i k:Nat}{p:List (Plc×UInt64)}(h:¬ EX l l.length 0 (l[i]!.id,UInt32.ofInt ((k:Nat):Int))=true):(p++KD l i k).map DY++[.agg [j4 l[i]!.id,.u32 (UInt32.ofInt ((k:Nat):Int))]]=(p++KD l i (k+1)).map DY:=by
 rw[k09 h,<- u5,d5 (l₁:=p++KD l i k)];rfl
theorem u52{l:List StS}{i k:Nat}{p:List (Plc×UInt64)}(h:¬ EX l l.length 0 (l[i]!.id,UInt32.ofInt ((k:Nat):Int))=true):(p++KD l i k).map CA++[.u64 l[i]!.t.outs[k]!.value]=(p++KD l i (k+1)).map CA:=by
 rw[k09 h,<- u5,d5 (l₁:=p++KD l i k)];rfl
theorem RX(b:List UInt8):(I5 b).brw=I5 b:=by
 simp only[I5,D.brw,G4];rw[X5 (λ_=>rfl)]
theorem x83(x:InS):(XE x).brw=XE x:=by
 simp only[XE,D.brw,G4,b9,K0,QQ,RX];rw[X5 RX]
theorem j54(x:OutS):(i7 x).brw=i7 x:=by
 simp only[i7,D.brw,G4,b9,K0,RX]
theorem ME(t:TxS):(QS t).brw=QS t:=by
 simp only[QS,D.brw,G4,b9,K0];rw[X5 x83,X5 j54]
theorem j53(x:StS):(YX x).brw=YX x:=by
 simp only[YX,W3,D.brw,G4,b9,K0,QQ,ME]
theorem x82(o:Option Nat)(z:Nat)(l:List StS):(D.sl o z (l.map YX)).brw=.sl none z (l.map YX):=by
 simp only[D.brw,G4];rw[X5 j53]
def XF(l:List BlkS):List (Plc×UInt64):=HS (W4 l) (W4 l).length
structure SpS where
 from_:UInt8
 two:Bool
 to:List UInt8
 part:UInt8
 extra:UInt8
 deriving Inhabited
def j85(s:SpS):D:=.agg [.u8 s.from_,.bool s.two,.sl none 1 (s.to.map .u8),.u8 s.part,.u8 s.extra]
structure PlS where
 pays:UInt8
 spends:List SpS
 step:UInt8
 deriving Inhabited
def WX(x:PlS):D:=.agg [.u8 x.pays,.sl none 5 (x.spends.map j85),.u8 x.step]
def HD(k:UInt8):List UInt8:=[0,20]++(IN [115,k,0,0,0]).take 20
def UR(s:SpS)(av:List (Plc×UInt64)):List InS:=
 let k:=s.from_.toNat%av.length
 if s.two=true/\k+1<av.length then[⟨av[k]!.1.1,av[k]!.1.2,[],s.extra.toUInt32,[]⟩,⟨av[k+1]!.1.1,av[k+1]!.1.2,[s.extra],0,[[s.part],[]]⟩]
 else[⟨av[k]!.1.1,av[k]!.1.2,[],s.extra.toUInt32,[]⟩]
def XI(s:SpS)(av:List (Plc×UInt64)):UInt64:=
 let k:=s.from_.toNat%av.length
 if s.two=true/\k+1<av.length then av[k]!.2+av[k+1]!.2 else av[k]!.2
def u59(s:SpS)(sum:UInt64)(i:Nat):OutS:=
 let v:=sum/UInt64.ofInt ((s.to.length:Nat):Int)
 ⟨if i=0 then v-min v s.part.toUInt64 else v,HD (s.to[i]!%12)⟩
def KN(s:SpS)(sum:UInt64)(i:Nat):List OutS:=(List.range i).map (u59 s sum)
def v14(s:SpS)(av:List (Plc×UInt64))(mark:UInt32):TxS:=⟨2,UR s av,KN s (XI s av) (min s.to.length 4),mark⟩
def z28(s:SpS)(av:List (Plc×UInt64)):Bool:=decide (av.length=0)||decide (s.to.length=0)
def EP:TxS:=⟨0,[],[],0⟩
def EA(s:SpS)(av:List (Plc×UInt64))(mark:UInt32):TxS×Bool:=if z28 s av then(EP,false) else(v14 s av mark,true)
def q70(n:Nat)(x:PlS)(mark:UInt32):TxS:=
 ⟨1,[⟨zero32,4294967295,[UInt8.ofNat n,UInt8.ofNat (n/256),mark.toUInt8],0,[]⟩],[⟨5000,HD (x.pays%12)⟩],mark⟩
def YY(l:List BlkS)(x:PlS)(mark:UInt32):Nat->List TxS
 | 0=>[q70 l.length x mark]
 | i+1=>if(EA x.spends[i]! (XF (l++[⟨zeroH,YY l x mark i⟩])) mark).2 then YY l x mark i++[(EA x.spends[i]! (XF (l++[⟨zeroH,YY l x mark i⟩])) mark).1] else YY l x mark i
def UQ(l:List BlkS)(x:PlS)(mark:UInt32):List TxS:=YY l x mark (min x.spends.length 6)
def heads(l:List BlkS):List HdS:=l.map BlkS.hd
def v33(l:List BlkS)(x:PlS)(mark:UInt32):HdS×Bool:=
 US (heads l) (q11 (heads l)+1+x.step.toUInt32) (XR E7 ((UQ l x mark).map DU))
def KR(l:List BlkS)(x:PlS)(mark:UInt32):BlkS×Bool:=(⟨(v33 l x mark).1,UQ l x mark⟩,(v33 l x mark).2)
def ZD(ps:List PlS):Nat->List BlkS
 | 0=>[⟨ZM,[]⟩]
 | i+1=>if(KR (ZD ps i) ps[i]! (UInt32.ofNat i)).2 then ZD ps i++[(KR (ZD ps i) ps[i]! (UInt32.ofNat i)).1] else ZD ps i
def VO(ps:List PlS):List BlkS:=ZD ps (min ps.length 14)
section
open Go.Proofs
theorem x20(h:Hs):(j4 h).sz=32:=rfl
theorem u54{o:Option Nat}{h:Hs}(e:o=some 32):o=some (j4 h).sz:=e.trans (g8 some (x20 h).symm)
theorem EqV.up{P:Program}{k:Nat}{t:TypeId}{d1 d2:D}{b:Bool}(h:EqV P k t d1 d2 b)(j:Nat):EqV P (k+j) t d1 d2 b:=by
 intro n w ρ1 ρ2 G1 G2 L1 L2 v1 v2 F1 F2 h1 h2;have:=h (n+j) w ρ1 ρ2 G1 G2 L1 L2 v1 v2 F1 F2 h1 h2
 rwa [show n+(k+j)=n+j+k by omega]
theorem ZV(a b:Plc):EqV Tryz.prog 3 109 (z5 a) (z5 b) (a==b):=by
 have h32:∀ x y:UInt32,EqV Tryz.prog 2 27 (.u32 x) (.u32 y) (x==y):=λx y=>(EqV.u32 Tryz.underlying27 x y).up 1;have hh:∀ x y:Hs,EqV Tryz.prog 2 23 (j4 x) (j4 y) (x==y):=λx y=>EqV.arr x y;have:=EqV.struct (k:=2) Tryz.underlying109 (by kernel_rfl) (.cons rfl rfl inferInstance rfl rfl rfl rfl (hh a.1 b.1) (.cons rfl rfl inferInstance rfl rfl rfl rfl (h32 a.2 b.2) .nil));rw[i8] at this;exact this
end
theorem bfalse{b:Bool}(h:¬ b=true):b=false:=by cases b;rfl;exact absurd rfl h
theorem AH{x y z:D}(h1:Frs x)(h2:Frs y)(h3:Frs z):FrsR (.tup [x,y,z]):=.inl ⟨_,rfl,λd hd=>by
 rcases w5.1 hd with rfl|hd
 ·exact h1
 ·rcases w5.1 hd with rfl|hd
  ·exact h2
  ·rw[d8.1 hd];exact h3⟩
theorem k27{l:List Hs}(h:l.length=0):XR E7 l=zero32:=by
 obtain rfl:=Q4.1 h;unfold XR;rw[j5,MH,q59]
theorem k28{l:List Hs}{k:Nat}(hk:k+L6 (O9 E7 l k).length=L6 l.length)(h:(O9 E7 l k).length=1):XR E7 l=(O9 E7 l k)[0]!:=by
 rw[h,MG] at hk;unfold XR;rw[<- hk,q59]
theorem u67{x most:Bg}{n m:UInt64}(h:FW (r8 x [m,0,0,0]) n≠0):AT x n m most=most:=by unfold AT;exact u4 h
theorem w18{x most:Bg}{n m:UInt64}(h:FW (r8 x [m,0,0,0]) n=0)(h2:z80 (QT (r8 x [m,0,0,0]) n) (r8 (QT (JZ x [m,0,0,0]) n) [m,0,0,0])=true∨YR most (EG (QT (r8 x [m,0,0,0]) n) (r8 (QT (JZ x [m,0,0,0]) n) [m,0,0,0]))=true):AT x n m most=most:=by
 unfold AT;rw[w3 (λh1=>h1 h),u4 h2]
theorem u66{x most:Bg}{n m:UInt64}(h:FW (r8 x [m,0,0,0]) n=0)(h2:¬ z80 (QT (r8 x [m,0,0,0]) n) (r8 (QT (JZ x [m,0,0,0]) n) [m,0,0,0])=true)(h3:¬ YR most (EG (QT (r8 x [m,0,0,0]) n) (r8 (QT (JZ x [m,0,0,0]) n) [m,0,0,0]))=true):AT x n m most=EG (QT (r8 x [m,0,0,0]) n) (r8 (QT (JZ x [m,0,0,0]) n) [m,0,0,0]):=by
 unfold AT;rw[w3 (λh1=>h1 h),w3 (λhc=>hc.elim h2 h3)]
section
open Go.Proofs
theorem k29(t:TxS)(hwf:t.wf):Fn Tryz.prog gl 146 [QS t] (.bool (R3 t)):=by
 refine Fo 16 Tryz.func146 O λC hC hD=>?_;have h1:=hwf.ins;refine c6 2 [] (V1 0) Zt O (⟨O,_,R.box (gV 0 O) O O nU,⟨O,_,Z3 (kB false O) O nU,tW (V1 1) (B8 1) 16 O ?_⟩⟩);refine W.seq ?_;by_cases hz:t.ins.length=1
 ·refine R0 14 (z90 3 4 5 6 7 8 9 10 11 12 13 14 15 2) (V1 2) ⟨aU (xF O),aU (xL O),aU<|R2 O,aU<|PJ 1 O,xM O,aT O (dT hz) (xF O),aT O (dT hz) (xL O),aT O (dT hz) λ_ _ H K=>R.idxN (0) (SC.sl (K 9 _ O)) (C5 (kI 0 O)) O bU H dU,aT O (dT hz)<|UF O,aT O (dT hz)<|zL O (mG t.ins),aT O (dT hz) λ_ _ H _=>C0 (l:=[.arr 32 1 ((List.replicate 32 0).map D.u8),.u32 0]) (l':=[_,_]) (.cons (kW (.int .u32 4294967295) (.u32 4294967295) O) (.nil O)) ⟨⟨_,(kW (.int .u32 4294967295) (.u32 4294967295) O),O,O,O⟩,Zt⟩ H,aT O (dT hz) λ_ _ H K=>R.eqD (neg:=false) (b':=(plc t.ins[0]! == (List.replicate 32 0,4294967295))) (ZV (plc t.ins[0]!) (List.replicate 32 0,4294967295)) O (eU K 12 O) (eU K 13 O) O O O O (O) H,aU<|zT O (dT hz),aU<|zA O,Zt⟩ ?_;exact W.ret (En O (by rw[R3,dT hz];rfl))
 ·refine R0 14 [.y 3 _,.y 4 _,.y 5 _,.y 6 _,.y 7 _,.x 8,.x 9,.x 10,.x 11,.x 12,.x 13,.x 14,.y 15 _,.y 2 _] (V1 2) ⟨aU (xF O),aU (xL O),aU<|R2 O,aU<|PJ 1 O,xM O,L0 O (dF hz),L0 O (dF hz),L0 O (dF hz),L0 O (dF hz),L0 O (dF hz),L0 O (dF hz),L0 O (dF hz),aU<|RI O (dF hz) (kB false O),aU<|zA O,Zt⟩ ?_;exact W.ret (En O (by rw[R3,dF hz];rfl))
theorem k31(t:TxS)(hwf:t.wf):Fn Tryz.prog gl 56 [QS t] (j4 (DU t)):=by
 refine Fo 6 Tryz.func56 O λC hC hD=>?_;refine c6 2 [] (V1 0) Zt O (⟨O,_,R.box (gV 0 O) O O nU,(M7 O (tW (V2 1 2) (M4 2 1) 6 O ?_))⟩);refine c6 4 (y3 3 4 5) (V2 2 5) ⟨xL O,zC hC (k41 t hwf) O (F1 (.sl _ _ _ (K7 λ_=>.u8 _))),λ_ _ H K=>o9 hC (CR (YZ t) (u9 hwf.bareL dU)) (Bc (Bor.sc (SC.sl (K 4 _ O)) (X5 (λ_=>rfl))) Bn) (F1 (G3 _)) H,Zt⟩ O (B2 O (tW (V1 2) (M4 2 1) 6 O ?_));exact W.ret (En O (by unfold DU;rfl) (iL 23 32))
theorem k25(l:List Hs)(hl:allH l)(hl0:l.length<=1000):Fn Tryz.prog gl 76 [.sl none 32 (l.map j4)] (j4 (XR E7 l)):=by
 refine Fo 17 Tryz.func76 O λC hC hD=>?_;refine c6 1 [] (V1 0) Zt O (M7 O (tW (V2 0 2) (B8 2) 17 O ?_));refine u7 2 (y2 4 3) (V2 2 3) ⟨zV O,zA O,Zt⟩ ?_;refine W.seq (u7 3 (y3 5 6 7) (V3 2 3 7) ⟨zV O,R2 O,PJ 0 O,Zt⟩ ?_);refine c4 O (λhc7=>?_) (λhc7=>?_)
 ·refine c6 2 (y1 8) (V2 2 8) ⟨λ_ _ H _=>R.bldAZ O H,Zt⟩ O (B2 O (tW (V1 2) (B8 2) 17 O ?_));exact W.ret (En O (by rw[k27 hc7]<;>rfl) (iL 23 32))
 ·refine W.skip (W.seq (W.block ?_));refine A8 (V2 2 3) (B8 2) 17 O ?_;refine W.loop (α:={q__:Nat//q__+L6 (O9 E7 l q__).length=L6 l.length/\0<(O9 E7 l q__).length}) (λq__=>⟨17,[(2,.ptr 2 0 []),(3,.sl none 32 ((O9 E7 l q__.1).map j4))],[(2,.var (j4 zero32))]⟩) (λq__=>L6 l.length-q__.1) ⟨(0),⟨(by show 0+_=_;rw[c9];rfl),(by show 0<l.length;omega)⟩⟩ O ?_;rintro ⟨k,⟨hk,hpos⟩⟩;show W _ _ _ _ ⟨17,[(2,.ptr 2 0 []),(3,.sl none 32 ((O9 E7 l k).map j4))],[(2,.var (j4 zero32))]⟩;have hrl:=DJ E7 l k;have hle:=LG l.length k;have hra:=DX BY hl k;have hk:k+L6 (O9 E7 l k).length=L6 l.length:=hk;have hpos:0<(O9 E7 l k).length:=hpos;refine W.seq (u7 3 (y3 9 10 11) (V3 2 3 11) ⟨zV O,R2 O,z23 1 O,Zt⟩ ?_);refine c4 O (λhc11=>?_) (λhc11=>?_)
  ·refine W.skip (W.block ?_);refine m7 3 (y3 12 13 3) (V2 2 3) ⟨zV O,λ_ _ H K=>PK (r':=.sl none 32 ((u99 E7 (O9 E7 l k)).map j4)) (o9 hC (z33 (O9 E7 l k) hra bO) (Bc (Bp (eU K 12 O) O O) Bn) (F1 (j29 _ _ _)) H) O (q34 _ _ _),zA O,Zt⟩ ?_;exact⟨⟨(k+1),⟨(by have h2:=MY (n:=(O9 E7 l k).length) (by omega);have h3:(O9 E7 l (k+1)).length=((O9 E7 l k).length+1)/2:=PS _ _;rw[h2,<- h3] at hk;show k+1+_=_;omega),(by have h3:(O9 E7 l (k+1)).length=((O9 E7 l k).length+1)/2:=PS _ _;show 0<(O9 E7 l (k+1)).length;omega)⟩⟩,rfl,(by have:=BQ (n:=(O9 E7 l k).length) (by omega);simp only[];omega)⟩
  ·refine W.exit (c6 4 (y3 14 15 16) (V2 2 16) ⟨zV O,λ_ _ H K=>R.idxN (0) (SC.sl (K 14 _ O)) (C5 (kI 0 O)) O bU H dU,zL O (mG (O9 E7 l k)),Zt⟩ O (B2 O (tW (V1 2) (B8 2) 17 O ?_)));exact W.ret (En O (by rw[k28 hk bO]) (iL 23 32))
end
section
open Go.Proofs
theorem x36(x:Bg)(n m:UInt64)(most:Bg)(hx:x.length=4)(hm:most.length=4):Fn Tryz.prog gl 150 [W9 x,.u64 n,.u64 m,W9 most] (W9 (AT x n m most)):=by
 refine Fo 67 Tryz.func150 O λC hC hD=>?_;have hq4:(r8 x [m,0,0,0]).length=4:=VG _ _;have hr4:(JZ x [m,0,0,0]).length=4:=x78 _ _;have hA:(QT (r8 x [m,0,0,0]) n).length=4:=VI _ _;have hB:(QT (JZ x [m,0,0,0]) n).length=4:=VI _ _;have hC4:(r8 (QT (JZ x [m,0,0,0]) n) [m,0,0,0]).length=4:=VG _ _;refine c6 3 [] (V4 0 1 2 3) Zt O (⟨O,_,R.box (gV 0 O) O O nU,⟨O,_,R.box (gV 3 O) O O nU,(M7 O (tW (V5 1 2 4 7 8) (QB 8 7 4) 67 O ?_))⟩⟩);refine c6 4 (y2 22 23) (V5 1 4 7 8 23) ⟨zV O,λ_ _ H K=>R.bldAP (z:=1) (l2:=([m,0,0,0].map D.u64)) (.cons (eU K 22 O) (.nil O)) ⟨⟨_,(eU K 22 O),O,O,O,O⟩,Zt⟩ (O) H,Zt⟩ O (M7 O (B2 O (tW (V5 1 4 7 8 9) (CO 9 8 7 4) 67 O ?_)));refine c6 12 (y7 25 26 27 24 28 29 30) (V7 1 7 8 9 28 29 30) ⟨xL O,xL O,zD hC (z04 x [m,0,0,0] hx O) O (AH (P5 _) (P5 _) (.int _)),zY O,zX O,zX O,zX O,Zt⟩ O (M7 O (M7 O (B2 O (B2 O (JP O (tW (V6 1 7 8 9 10 11) (WG 11 10 9 8 7 4) 67 O ?_))))));refine c6 9 (y6 32 33 34 31 35 36) (V7 1 7 8 9 11 35 36) ⟨xL O,zV O,zD hC (q99 (r8 x [m,0,0,0]) n hq4) O (FrsR.two (P5 _) (.u64 _)),zY O,zX O,zX O,Zt⟩ O (M7 O (B2 O (JP O (tW (V7 1 7 8 9 11 13 14) (v50 13 11 10 9 8 7 4) 67 O ?_))));refine W.seq (u7 2 (y2 37 38) (V7 1 7 8 9 11 13 38) ⟨zV O,UH O (kW (.int .u64 0) (.u64 0) O),Zt⟩ ?_);refine W.cond O (λhc38=>?_) (λhc38=>?_)
 ·refine c6 2 (y1 39) (V2 8 39) ⟨xL O,Zt⟩ O (B2 O (tW (V1 8) (v50 13 11 10 9 8 7 4) 67 O ?_));exact W.ret (En O (by rw[u67 (G9.1 hc38)]) (iL 217 4))
 ·refine W.skip (c6 9 (y6 41 42 43 40 44 45) (V6 7 8 9 13 44 45) ⟨xL O,zV O,zD hC (q99 (JZ x [m,0,0,0]) n hr4) O (FrsR.two (P5 _) (.u64 _)),zY O,zX O,zX O,Zt⟩ O (M7 O (B2 O (JP O (tW (V5 7 8 9 13 15) (v71 15 13 11 10 9 8 7 4) 67 O ?_)))));refine c6 12 (y7 47 48 49 46 50 51 52) (V6 7 8 13 50 51 52) ⟨xL O,xL O,zD hC (z04 (QT (JZ x [m,0,0,0]) n) [m,0,0,0] hB O) O (AH (P5 _) (P5 _) (.int _)),zY O,zX O,zX O,zX O,Zt⟩ O (M7 O (M7 O (B2 O (B2 O (JP O (tW (V4 7 8 13 17) [(18,.var _),(17,.var _),(15,.var _),(13,.var _),(11,.var _),(10,.var _),(9,.var _),(8,.var _),(7,.var _),(4,.var _)] 67 O ?_))))));refine c6 9 (y6 54 55 56 53 57 58) (V4 7 8 57 58) ⟨xL O,xL O,zD hC (x94 (QT (r8 x [m,0,0,0]) n) (r8 (QT (JZ x [m,0,0,0]) n) [m,0,0,0]) hA hC4) O (FrsR.two (P5 _) (.bool _)),zY O,zX O,zX O,Zt⟩ O (M7 O (B2 O (JP O (tW (V4 7 8 20 21) [(20,.var _),(18,.var _),(17,.var _),(15,.var _),(13,.var _),(11,.var _),(10,.var _),(9,.var _),(8,.var _),(7,.var _),(4,.var _)] 67 O ?_))));refine W.seq (W.seq ?_);by_cases hov:z80 (QT (r8 x [m,0,0,0]) n) (r8 (QT (JZ x [m,0,0,0]) n) [m,0,0,0])=true
  ·refine R0 6 [.y 59 _,.y 60 _,.x 61,.x 62,.x 63,.y 64 _] (V4 7 8 20 64) ⟨xM O,xM O,GR O (hov),GR O (hov),GR O (hov),aU<|z89 O (hov) (kB true O),Zt⟩ ?_;refine Y8 O (O) ?_;refine c6 2 (y1 65) (V2 8 65) ⟨xL O,Zt⟩ O (B2 O (tW (V1 8) [(20,.var _),(18,.var _),(17,.var _),(15,.var _),(13,.var _),(11,.var _),(10,.var _),(9,.var _),(8,.var _),(7,.var _),(4,.var _)] 67 O ?_));exact W.ret (En O (by rw[w18 (D2.1 hc38) (.inl hov)]) (iL 217 4))
  ·refine R0 6 (y6 59 60 61 62 63 64) (V4 7 8 20 64) ⟨xM O,xM O,aN O (bfalse hov) (xL O),aN O (bfalse hov) (xL O),aN O (bfalse hov)<|zD hC (OR most (EG (QT (r8 x [m,0,0,0]) n) (r8 (QT (JZ x [m,0,0,0]) n) [m,0,0,0])) hm (VS _ _)) O (F1 (.bool _)),aU<|zF O (bfalse hov),Zt⟩ ?_;refine W.cond O (λhc64=>?_) (λhc64=>?_)
   ·refine c6 2 (y1 65) (V2 8 65) ⟨xL O,Zt⟩ O (B2 O (tW (V1 8) [(20,.var _),(18,.var _),(17,.var _),(15,.var _),(13,.var _),(11,.var _),(10,.var _),(9,.var _),(8,.var _),(7,.var _),(4,.var _)] 67 O ?_));exact W.ret (En O (by rw[w18 (D2.1 hc38) (.inr hc64)]) (iL 217 4))
   ·refine W.skip (c6 2 (y1 66) (V2 8 66) ⟨xL O,Zt⟩ O (B2 O (tW (V1 8) [(20,.var _),(18,.var _),(17,.var _),(15,.var _),(13,.var _),(11,.var _),(10,.var _),(9,.var _),(8,.var _),(7,.var _),(4,.var _)] 67 O ?_)));exact W.ret (En O (by rw[u66 (D2.1 hc38) hov (by simpa using hc64)]) (iL 217 4))
end
section
open Go.Proofs
theorem x42:(HI lim).isSome=true:=by decide +kernel
theorem j45:GQ (AV lim)=lim:=by decide +kernel
theorem k57:Fn Tryz.prog gl 128 [.u32 545259519] (.tup [W9 (AV lim),.bool true]):=by
 have h:=WO lim;rw[x42] at h;exact h
theorem z66:Fn Tryz.prog gl 151 [W9 (AV lim)] (.u32 545259519):=by
 have h:=NJ (AV lim) (DD _);rw[j45] at h;exact h
end
section
open Go.Proofs
theorem k80:Fn Tryz.prog gl 149 [.agg [.u32 545259519,.int 10,.u32 10,.nils,C7 ZM]] (.bool true):=by
 refine Fo 94 Tryz.func149 O λC hC hD=>?_;refine c6 2 [] (V1 0) Zt O (⟨O,_,R.box (gV 0 O) O O nU,⟨O,_,Z3 (kB false O) O nU,tW (V1 1) (B8 1) 94 O ?_⟩⟩);refine c6 9 (y6 8 9 10 7 11 12) (V3 1 11 12) ⟨xF O,xL O,zC hC (k57) O (FrsR.two (P5 _) (.bool _)),zY O,zX O,zX O,Zt⟩ O (M7 O (B2 O (JP O (tW (V3 1 3 4) (M4 3 1) 94 O ?_))));refine W.seq (W.seq ?_);refine KL 37 (0::1::3::7::15::7::39::127::255::511::1023::2047::4095::8191::16383::32767::65535::131071::262143::524287::1048575::2097151::4194303::8388607::16777215::33554431::67108863::134217727::268435455::536870911::1073741823::2147483647::4294967295::1073741823::9663676415::34359738367::68719476735::[]) hP dU (.y 13 _::.y 14 _::.y 15 _::.y 16 _::.y 17 _::.y 18 _::.y 19 _::.y 20 _::.y 21 _::.y 22 _::.y 23 _::.y 24 _::.y 25 _::.y 26 _::.y 27 _::.y 28 _::.y 29 _::.y 30 _::.y 31 _::.y 32 _::.y 33 _::.y 34 _::.y 35 _::.y 36 _::.y 37 _::.y 38 _::.y 39 _::.y 40 _::.y 41 _::.y 42 _::.y 43 _::.y 44 _::.y 45 _::.y 46 _::.y 47 _::.y 48 _::.y 49 _::[]) [] [] (V2 1 49) ⟨xM O,aU<|AC O,xM O,aN O (O) (xL O),aN O (O)<|zC hC (z66) O (F1 (.u32 _)),aN O (O) (xF O),aN O (O) (xL O),aN O (O)<|zB O,aU<|zF O (O),xM O,aN O dU (xF O),aN O dU (xL O),aN O dU<|UC 2 O,aU<|zF O dU,xM O,aN O dU (xF O),aN O dU (xL O),aN O dU<|z23 2016 O,aU<|zF O dU,xM O,aN O dU (xF O),aN O dU (xL O),aN O dU<|UH O (kW (.int .u32 1) (.u32 1) O),aU<|zF O dU,xM O,aN O dU (xF O),aN O dU (xL O),aN O dU<|UH O (kW (.int .u32 3600) (.u32 3600) O),aU<|zF O dU,xM O,aN O dU (xF O),aN O dU (xF O),aN O dU (xL O),aN O dU (xF O),aN O dU (xL O),aN O dU<|zB O,aU<|zF O dU,Zt⟩ O (tW (V2 1 49) (M4 3 1) 94 O ?_);refine Y3 O dU ?_;refine W.skip (W.seq (u7 1 (y1 5) (V2 1 5) ⟨r6 0 O,Zt⟩ ?_));refine W.block ?_;refine z13 ?_;refine WU.step ?_;show W _ _ _ _ _;refine A8 (V2 1 5) (M4 3 1) 94 O ?_;refine W.dropB [1] (bx':=(B8 1)) O O O (n7 hD O) ?_;refine W.seq (u7 5 (y5 50 51 52 53 54) (V3 1 5 54) ⟨zV O,xF O,xL O,λ_ _ H K=>E5 (n:=0) (SC.nil (z:=1) (K 52 _ O)) (O) H,zS O,Zt⟩ ?_);refine Y3 O dU ?_;refine W.exit (u7 1 (y1 2) (V1 2) ⟨QX O,Zt⟩ ?_);exact W.ret (Eo O)
theorem z78(l:List HdS)(hl0:l.length<=1000):Fn Tryz.prog gl 127 [.agg [.u32 545259519,.int 10,.u32 10,.nils,C7 ZM],.sl none 68 (l.map C7)] (.u32 (F6 l)):=by
 refine Fo 86 Tryz.func127 O λC hC hD=>?_;refine c6 2 [] (V2 0 1) Zt O (⟨O,_,R.box (gV 0 O) O O nU,⟨O,_,Z3 (kW (.int .u32 0) (.u32 0) O) O nU,tW (V2 1 2) (B8 2) 86 O ?_⟩⟩);refine u7 3 (y3 14 15 5) (V3 1 2 5) ⟨zV O,R2 O,zA O,Zt⟩ ?_;refine W.seq (W.seq ?_);by_cases hn:l.length=0
 ·refine R0 7 [.y 16 _,.y 17 _,.y 18 _,.x 19,.x 20,.x 21,.y 22 _] (V4 1 2 5 22) ⟨xM O,aU<|PJ 0 O,xM O,GR O (dT hn),GR O (dT hn),GR O (dT hn),aU<|z89 O (dT hn) (kB true O),Zt⟩ ?_;refine Y8 O (O) ?_;refine u7 1 (y1 4) (V1 4) ⟨WH (.u32 0) O,Zt⟩ ?_;exact W.ret (En O (by rw[x92 hn]))
 ·refine R0 7 (y7 16 17 18 19 20 21 22) (V4 1 2 5 22) ⟨xM O,aU<|PJ 0 O,xM O,aN O (dF hn) (xL O),aN O (dF hn)<|zC hC (k80) O (F1 (.bool _)),aN O (dF hn)<|AC O,aU<|zF O (dF hn),Zt⟩ ?_;refine Y3 O (O) ?_;refine W.skip (c6 7 (y5 23 24 25 26 27) (V4 1 2 5 27) ⟨zV O,zV O,AB 1 O,zI ((l.length-1)) O,zL O (mG l),Zt⟩ O (M7 O (B2 O (tW (V4 1 2 5 6) (M4 6 2) 86 O ?_))));refine W.seq (u7 5 (y5 28 29 30 31 32) (V5 1 2 5 6 32) ⟨zV O,xF O,xL O,λ_ _ H K=>XA (l.length) (10) (eU K 28 O) (eU K 30 O) bU H,u31 0 O,Zt⟩ ?_);refine c4 O (λhc32=>?_) (λhc32=>?_)
  ·refine u7 3 (y3 33 34 4) (V1 4) ⟨xF O,xL O,zA O,Zt⟩ ?_;exact W.ret (En O (by rw[x91 hn hc32]))
  ·refine W.skip (W.seq ?_);refine HO 7 [.y 35 _,.y 36 _,.y 37 _,.y 38 _,.y 39 _,.y 40 _,.y 7 _] [] [] [(1,_),(2,_),(5,_),(6,_),(7,_)] [(6,.var _),(2,.var _)] 86 ⟨aU (xF O),aU (xL O),aU (xF O),aU (xL O),aU λ_ _ H K=>R.conv (eU K 38 O) O H,aU λ_ _ H K=>AK (10) (10) (eU K 36 O) (eU K 39 O) bU H,aU λ_ _ H K=>Z3 (eU K 40 O) O H,Zt⟩ O O O O (tU O ?_);refine W.seq ?_;have ht1:=l[l.length-1]!.time.toNat_lt;have ht2:=l[l.length-10]!.time.toNat_lt;refine T5 14 [0,1,3,0,0,0,32,112,248,504,1016,2040,4095,8191] hP dU (z90 41 42 43 44 45 46 47 48 49 50 51 52 53 8) (V4 2 6 7 8) ⟨xF O,xL O,zW O,zV O,zV O,xF O,xL O,zQ O,zI ((l.length-10)) O,UF O,zL O (mG l),zW O,λ_ _ H K=>P1 (d:=.int (((l[l.length-1]!.time.toNat:Nat):Int)-((l[l.length-10]!.time.toNat:Nat):Int))) (eU K 43 O) (eU K 52 O) O Zt (KH bO bO bO) H,zA O,Zt⟩ O (tW (V4 2 6 7 8) (M4 6 2) 86 O ?_);refine W.seq ?_;refine HO 8 [.y 54 _,.y 55 _,.y 56 _,.y 57 _,.y 58 _,.y 59 _,.y 60 _,.y 8 _] [] [] [(2,_),(6,_),(7,_),(8,_)] [(6,.var _),(2,.var _)] 86 ⟨xM O,xM O,aU λ_ _ H K=>XJ (100) (4) (eU K 55 O) (kI 4 O) bU bU H,aU λ_ _ H K=>R.maxI (r:=(max (((l[l.length-1]!.time.toNat:Nat):Int)-((l[l.length-10]!.time.toNat:Nat):Int)) 25)) (eU K 54 O) (eU K 56 O) (O) H,xM O,aU λ_ _ H K=>AK (4) (100) (kI 4 O) (eU K 58 O) bU H,aU λ_ _ H K=>R.minI (r:=(k16 l)) (eU K 57 O) (eU K 59 O) (O) H,aU λ_ _ H K=>Z3 (eU K 60 O) O H,Zt⟩ O O O O (tU O ?_);refine c6 9 (y6 62 63 64 61 65 66) (V5 6 7 8 65 66) ⟨xF O,xL O,zC hC (k57) O (FrsR.two (P5 _) (.bool _)),zY O,zX O,zX O,Zt⟩ O (M7 O (B2 O (JP O (tW (V4 6 7 8 9) (QB 9 6 2) 86 O ?_))));refine c6 9 (y6 68 69 70 67 71 72) (V5 7 8 9 71 72) ⟨xF O,xL O,zC hC (WO l[l.length-1]!.bits) O (FrsR.two (P5 _) (.bool _)),zY O,zX O,zX O,Zt⟩ O (M7 O (B2 O (JP O (tW (V4 7 8 9 11) (CO 11 9 6 2) 86 O ?_))));refine c6 9 (y7 73 74 75 76 77 78 79) (V1 79) ⟨xL O,zV O,zW O,zV O,λ_ _ H K=>T6 (d:=.u64 100) (eU K 76 O) O (O) H,xL O,λ_ _ H K=>o9 hC (x36 (AV l[l.length-1]!.bits) (UInt64.ofInt (k16 l)) 100 (AV lim) (DD _) (DD _)) (Bc (Bp (eU K 73 O) O O) (Bc (Bp (eU K 75 O) O O) (Bc (Bp (eU K 77 O) O O) (Bc (Bp (eU K 78 O) O O) Bn)))) (F1 (P5 _)) H,Zt⟩ O (M7 O (B2 O (tW (V1 13) (RE 13 11 9 6 2) 86 O ?_)));refine W.seq (W.seq ?_);by_cases hz:NS l=X3
   ·refine m7 3 (y3 80 81 82) (V2 13 82) ⟨xL O,λ_ _ H _=>R.bldAZ O H,λ_ _ H K=>R.eqD (neg:=false) (b':=((NS l)==X3)) (ZW _ _) O (eU K 80 O) (eU K 81 O) O O O O (O) H,Zt⟩ ?_;refine Y8 O (p7.2 hz) ?_;refine O3 2 (y1 83) (V2 13 83) ⟨λ_ _ H _=>R.bldAP (z:=1) (l2:=([1,0,0,0].map D.u64)) (.cons (kW (.int .u64 1) (.u64 1) O) (.nil O)) ⟨⟨_,(kW (.int .u64 1) (.u64 1) O),O,O,O,O⟩,Zt⟩ (O) H,Zt⟩ O (B2 O (tW (V1 13) (RE 13 11 9 6 2) 86 O ?_));refine u7 3 (y3 84 85 4) (V1 4) ⟨xL O,zC hC (NJ [1,0,0,0] O) O (F1 (.u32 _)),zA O,Zt⟩ ?_;exact W.ret (En O (by rw[x90 hn hc32 hz]))
   ·refine m7 3 (y3 80 81 82) (V2 13 82) ⟨xL O,λ_ _ H _=>R.bldAZ O H,λ_ _ H K=>R.eqD (neg:=false) (b':=((NS l)==X3)) (ZW _ _) O (eU K 80 O) (eU K 81 O) O O O O (O) H,Zt⟩ ?_;refine Y3 O (v4.2 hz) ?_;refine W.skip (u7 3 (y3 84 85 4) (V1 4) ⟨xL O,zC hC (NJ (NS l) (k65 l)) O (F1 (.u32 _)),zA O,Zt⟩ ?_);exact W.ret (En O (by rw[x89 hn hc32 hz]))
theorem x75:Fn Tryz.prog gl 13 [.int ((10:Nat):Int),.u32 10] (.agg [.u32 545259519,.int 10,.u32 10,.nils,C7 ZM]):=by
 refine Fo 9 Tryz.func13 O λC hC hD=>?_;refine c6 1 [] (V2 0 1) Zt O (M7 O (tW (V3 0 1 4) (B8 4) 9 O ?_));refine c6 5 (y4 5 6 7 8) (V2 4 8) ⟨zV O,zV O,λ_ _ H _=>C0 (l:=[.u32 0,.arr 32 1 ((List.replicate 32 0).map D.u8),.arr 32 1 ((List.replicate 32 0).map D.u8),.u32 0,.u32 0,.u32 0]) (l':=[_,_,_,_,_,_]) (.cons (kW (.int .u32 1) (.u32 1) O) (.cons (kW (.int .u32 1000) (.u32 1000) O) (.cons (kW (.int .u32 545259519) (.u32 545259519) O) (.nil O)))) ⟨⟨_,(kW (.int .u32 1) (.u32 1) O),O,O,O⟩,⟨⟨_,(kW (.int .u32 1000) (.u32 1000) O),O,O,O⟩,⟨⟨_,(kW (.int .u32 545259519) (.u32 545259519) O),O,O,O⟩,Zt⟩⟩⟩ H,λ_ _ H K=>C0 (l:=[.u32 0,.int 0,.u32 0,.nils,.agg [.u32 0,.arr 32 1 ((List.replicate 32 0).map D.u8),.arr 32 1 ((List.replicate 32 0).map D.u8),.u32 0,.u32 0,.u32 0]]) (l':=[_,_,_,_,_]) (.cons (kW (.int .u32 545259519) (.u32 545259519) O) (.cons (eU K 5 O) (.cons (eU K 6 O) (.cons (eU K 7 O) (.nil O))))) ⟨⟨_,(kW (.int .u32 545259519) (.u32 545259519) O),O,O,O⟩,⟨⟨_,(eU K 5 O),O,O,O⟩,⟨⟨_,(eU K 6 O),O,O,O⟩,⟨⟨_,(eU K 7 O),O,O,O⟩,Zt⟩⟩⟩⟩ H,Zt⟩ O (B2 O (tW (V1 4) (B8 4) 9 O ?_));exact W.ret (Eo O (iL 46 72))
end
theorem u72{l:List HdS}(h:l.length=0):q11 l=0:=by unfold q11;exact u4 h
theorem u71{l:List HdS}(h:¬ l.length=0):q11 l=(OJ l (min l.length 11))[min l.length 11/2]!:=by unfold q11;exact w3 h
theorem k04(n:Nat):UInt32.ofNat n+1=UInt32.ofNat (n+1):=by
 apply R8.1;rw[UInt32.toNat_add,U3,U3];show(n%4294967296+1)%4294967296=_;omega
theorem IP{n:Nat}(h:n<=200):(UInt32.ofNat n<200)↔n<200:=by
 rw[UInt32.lt_iff_toNat_lt,U3];have e:(200:UInt32).toNat=200:=rfl;rw[e];omega
structure MI(l:List HdS)(time:UInt32)(root:Hs)(h:HdS)(n:Nat):Prop where
 wf:h.wf
 le:n<=200
 is:(HI (F6 l)).isSome=true->GW h (AV (F6 l)) (200-n)=US l time root
 no:(HI (F6 l)).isSome=false->US l time root=(h,false)
theorem w14{l:List HdS}{time:UInt32}{root:Hs}(hr:root.length=32):MI l time root (DI l time root) 0 where
 wf:=OP l time root hr
 le:=g9 _
 is:=λh=>by
  cases hs:HI (F6 l) with
  | none=>rw[hs] at h;cases h
  | some t=>rw[OQ hs,LZ hs]
 no:=λh=>by
  cases hs:HI (F6 l) with
  | none=>exact OZ hs
  | some t=>rw[hs] at h;cases h
theorem OK{h:HdS}{t:Bg}{n:Nat}(hn:n<200):GW h t (200-n)=if DC (DF { h with nonce:=UInt32.ofNat n }) t=true then({ h with nonce:=UInt32.ofNat n },true) else GW { h with nonce:=UInt32.ofNat n } t (200-(n+1)):=by
 obtain⟨k,hk⟩:∃ k,200-n=k+1:=⟨199-n,by omega⟩
 rw[hk,GW,show 199-k=n by omega,show 200-(n+1)=k by omega]
theorem MI.found{l:List HdS}{time:UInt32}{root:Hs}{h:HdS}{n:Nat}(hi:MI l time root h n)(hs:(HI (F6 l)).isSome=true)(hn:n<200)(hm:DC (DF { h with nonce:=UInt32.ofNat n }) (AV (F6 l))=true) :
 US l time root=({ h with nonce:=UInt32.ofNat n },true):=by rw[<- hi.is hs,OK hn,u4 hm]
theorem MI.next{l:List HdS}{time:UInt32}{root:Hs}{h:HdS}{n:Nat}(hi:MI l time root h n)(hs:(HI (F6 l)).isSome=true)(hn:n<200)(hm:¬ DC (DF { h with nonce:=UInt32.ofNat n }) (AV (F6 l))=true) :
 MI l time root { h with nonce:=UInt32.ofNat n } (n+1) where
 wf:=u47 hi.wf.1 hi.wf.2
 le:=by omega
 is:=λ_=>by rw[<- hi.is hs,OK hn,w3 hm]
 no:=λh=>by rw[h] at hs;cases hs
theorem MI.last{l:List HdS}{time:UInt32}{root:Hs}{h:HdS}{n:Nat}(hi:MI l time root h n)(hs:(HI (F6 l)).isSome=true)(hn:¬ n<200):US l time root=(h,false):=by
 rw[<- hi.is hs,show 200-n=0 by omega,GW]
section
open Go.Proofs
theorem k79(l:List HdS)(hl0:l.length<=1000):Fn Tryz.prog gl 75 [.sl none 68 (l.map C7)] (.u32 (q11 l)):=by
 refine Fo 68 Tryz.func75 O λC hC hD=>?_;refine u7 1 (y1 2) (V1 0) ⟨WH (.u32 0) O,Zt⟩ ?_;refine u7 1 (y1 3) (V2 0 3) ⟨QX O,Zt⟩ ?_;refine W.seq (u7 5 (y5 6 7 8 9 4) (V3 0 3 4) ⟨zV O,R2 O,λ_ _ H K=>P1 (d:=.int (((l.length:Nat):Int)-11)) (eU K 7 O) (kI 11 O) O Zt (KH bO bO bO) H,λ_ _ H K=>R.maxI (r:=(((l.length-11):Nat):Int)) (eU K 8 O) (kI 0 O) bO H,zA O,Zt⟩ ?_);refine W.block ?_;refine P9 (s:=3) 27 1 O ?_;refine P6 (min l.length 11) (λj=>⟨68,[(0,.sl none 68 (l.map C7)),(3,.sl (some 27) 1 ((OJ l j).map D.u32)),(4,.int (((l.length-11+j):Nat):Int))],[]⟩) O λj hj=>?_;have hml:=k78 l j;refine W.seq (u7 4 (y4 10 11 12 13) (V4 0 3 4 13) ⟨zV O,zV O,R2 O,zS O,Zt⟩ ?_);refine c4 O (λhc13=>?_) (λhc13=>?_)
 ·refine W.skip (W.seq (W.block (W.seq ?_)));refine HO 3 [.y 16 _,.y 17 _,.y 5 _] [] [] [(0,_),(3,_),(4,_),(5,_)] [] 68 ⟨aU λ_ _ H K=>R.al (K 3 _ O) H dU,aU λ_ _ H K=>E5 (n:=j) (SC.al (K 16 _ O) (K 3 _ O)) ((lN _).trans hml) H,aU λ_ _ H K=>Z3 (eU K 17 O) O H,Zt⟩ O O O O (tU O ?_);refine M3 9 (y9 18 19 20 21 22 23 24 25 3) [(7,3),(8,25),(8,18)] [(7,3),(8,25)] (V4 0 3 4 5) ⟨aU<|zM O,xM O,xM O,aU<|zI ((l.length-11+j)) O,aU<|UF O,aU<|zL O (mG l),aU λ_ _ H K=>Z7 (z:=1) (.cons (eU K 23 O) .nil) ⟨⟨O,O,O⟩,Zt⟩ O H dU,aU<|UI O (Y7 O) (show _=((OJ l j++[l[l.length-11+j]!.time]).map D.u32) from(by rw[d5];rfl)) bU,aU<|zO O,Zt⟩ O (tU O ?_);refine W.seq (W.block ?_);refine W.loop (α:={q__:List UInt32×Nat//(q__.2<=j/\q__.1.length=j+1)/\shf l[l.length-11+j]!.time q__.1 q__.2=z49 (OJ l j) l[l.length-11+j]!.time}) (λq__=>⟨68,[(0,.sl none 68 (l.map C7)),(3,.sl (some 27) 1 (q__.1.1.map D.u32)),(4,.int (((l.length-11+j):Nat):Int)),(5,.int ((q__.1.2:Nat):Int))],[]⟩) (λq__=>q__.1.2) ⟨(OJ l j++[l[l.length-11+j]!.time],j),⟨⟨z7 _,by rw[q9,hml];rfl⟩,by rw[z49,hml]⟩⟩ O ?_;rintro ⟨⟨ts,k⟩,⟨⟨hk,htl⟩,hsh⟩⟩;show W _ _ _ _ ⟨68,[(0,.sl none 68 (l.map C7)),(3,.sl (some 27) 1 (ts.map D.u32)),(4,.int (((l.length-11+j):Nat):Int)),(5,.int ((k:Nat):Int))],[]⟩;have hk:k<=j:=hk;have htl:ts.length=j+1:=htl;have hsh:shf l[l.length-11+j]!.time ts k=z49 (OJ l j) l[l.length-11+j]!.time:=hsh;refine W.seq (W.seq ?_);by_cases hk0:0<k
  ·refine KL 15 [0,1,3,7,7,23,63,127,7,7,775,1799,3847,8191,16383] hP dU (v55 26 27 28 29 30 31 32 33 34 35 36 37 38 39 40) [] [] (V5 0 3 4 5 40) ⟨xM O,aU<|z23 0 O,xM O,aT O (dT hk0)<|zM O,aT O (dT hk0)<|zV O,aT O (dT hk0)<|AB 1 O,aT O (dT hk0)<|HR ((k-1)) O,aT O (dT hk0)<|GS O (mG ts),aT O (dT hk0)<|zV O,aT O (dT hk0)<|zV O,aT O (dT hk0)<|zI ((l.length-11+j)) O,aT O (dT hk0)<|UF O,aT O (dT hk0)<|zL O (mG l),aT O (dT hk0)<|zB O,aU<|zT O (dT hk0),Zt⟩ O (tW (V5 0 3 4 5 40) [] 68 O ?_);refine W.cond O (λhc40=>?_) (λhc40=>?_)
   ·refine W.skip (W.block (c6 9 (y8 41 42 43 44 45 46 47 48) (V7 0 3 4 5 41 47 48) ⟨zM O,zV O,zM O,zV O,AB 1 O,HR ((k-1)) O,GS O (mG ts),HR k O,Zt⟩ O (⟨O,_,XK (gU 48 O) (Or.inr (gU 41 O)) (gU 3 O) (mG ts) O (gV 47 O) (by rfl) (by rfl) (by rfl) (by rfl) E1 E3,tW (V4 0 3 4 5) [] 68 O ?_⟩)));refine m7 3 (y3 49 50 5) (V4 0 3 4 5) ⟨zV O,AB 1 O,zA O,Zt⟩ ?_;exact⟨⟨(ts.set k ts[k-1]!,k-1),⟨⟨by show k-1<=j;omega,List.length_set.trans htl⟩,(u60 hk0 (c3 hc40)).symm.trans hsh⟩⟩,rfl,(by show k-1<k;omega)⟩
   ·refine W.exit ?_;refine O3 9 (y8 51 52 53 54 55 56 57 58) (V6 0 3 4 51 57 58) ⟨zM O,zV O,zV O,zV O,zI ((l.length-11+j)) O,UF O,zL O (mG l),HR k O,Zt⟩ O (⟨O,_,XK (gU 58 O) (Or.inr (gU 51 O)) (gU 3 O) (mG ts) O (gV 57 O) (by rfl) (by rfl) (by rfl) (by rfl) E1 E3,tW (V3 0 3 4) [] 68 O ?_⟩);refine m7 3 (y3 14 15 4) (V3 0 3 4) ⟨zV O,N2 1 O,zA O,Zt⟩ ?_;exact⟨bU,(by first|(rw[<- q54 (x:=l[l.length-11+j]!.time) (ts:=ts) (k:=k) (λ_=>g7 hc40),hsh]<;>rfl)|(rw[<- q54 (x:=l[l.length-11+j]!.time) (ts:=ts) (k:=k) (λh=>absurd h hk0),hsh]<;>rfl))⟩
  ·refine KL 15 [0,1,3,7,7,23,63,127,7,7,775,1799,3847,8191,16383] hP dU [.y 26 _,.y 27 _,.y 28 _,.x 29,.x 30,.x 31,.x 32,.x 33,.x 34,.x 35,.x 36,.x 37,.x 38,.x 39,.y 40 _] [] [] (V5 0 3 4 5 40) ⟨xM O,aU<|z23 0 O,xM O,L0 O (dF hk0),L0 O (dF hk0),L0 O (dF hk0),L0 O (dF hk0),L0 O (dF hk0),L0 O (dF hk0),L0 O (dF hk0),L0 O (dF hk0),L0 O (dF hk0),L0 O (dF hk0),L0 O (dF hk0),aU<|RI O (dF hk0) (kB false O),Zt⟩ O (tW (V5 0 3 4 5 40) [] 68 O ?_);refine Y3 O (O) ?_;refine W.exit ?_;refine O3 9 (y8 51 52 53 54 55 56 57 58) (V6 0 3 4 51 57 58) ⟨zM O,zV O,zV O,zV O,zI ((l.length-11+j)) O,UF O,zL O (mG l),HR k O,Zt⟩ O (⟨O,_,XK (gU 58 O) (Or.inr (gU 51 O)) (gU 3 O) (mG ts) O (gV 57 O) (by rfl) (by rfl) (by rfl) (by rfl) E1 E3,tW (V3 0 3 4) [] 68 O ?_⟩);refine m7 3 (y3 14 15 4) (V3 0 3 4) ⟨zV O,N2 1 O,zA O,Zt⟩ ?_;exact⟨bU,(by first|(rw[<- q54 (x:=l[l.length-11+j]!.time) (ts:=ts) (k:=k) (λ_=>g7 hc40),hsh]<;>rfl)|(rw[<- q54 (x:=l[l.length-11+j]!.time) (ts:=ts) (k:=k) (λh=>absurd h hk0),hsh]<;>rfl))⟩
 ·obtain rfl:j=min l.length 11:=by omega
  refine W.exit (W.seq (W.seq ?_));refine HO 3 [.y 59 _,.y 60 _,.y 61 _] [] [] [(3,_),(61,_)] [] 68 ⟨aU λ_ _ H K=>R.al (K 3 _ O) H dU,aU λ_ _ H K=>E5 (n:=(min l.length 11)) (SC.al (K 59 _ O) (K 3 _ O)) ((lN _).trans hml) H,aU λ_ _ H K=>s3 ((min l.length 11)) (0) (eU K 60 O) (kI 0 O) H,Zt⟩ O O O O (tU O ?_);refine c4 O (λhc61=>?_) (λhc61=>?_)
  ·refine u7 1 (y1 2) (V1 2) ⟨WH (.u32 0) O,Zt⟩ ?_;exact W.ret (En O (by rw[u72 bO]))
  ·refine W.skip (W.seq ?_);refine HO 7 [.y 62 _,.y 63 _,.y 64 _,.y 65 _,.y 66 _,.y 67 _,.y 2 _] [] [] [(2,_)] [] 68 ⟨aU λ_ _ H K=>R.al (K 3 _ O) H dU,aU λ_ _ H K=>R.al (K 3 _ O) H dU,aU λ_ _ H K=>E5 (n:=(min l.length 11)) (SC.al (K 63 _ O) (K 3 _ O)) ((lN _).trans hml) H,aU λ_ _ H K=>XJ ((min l.length 11)) (2) (eU K 64 O) (kI 2 O) bU bU H,aU λ_ _ H K=>R.idxN (((min l.length 11)/2)) (SC.al (K 62 _ O) (K 3 _ O)) (C5 (eU K 65 O)) O bU H dU,aU λ_ _ H K=>R.ldE (K 66 _ O) (SC.al (K 62 _ O) (K 3 _ O)) (n8 (l:=(OJ l (min l.length 11))) bU) O O O O H,aU λ_ _ H K=>Z3 (eU K 67 O) O H,Zt⟩ O O O O (tU O ?_);exact W.ret (En O (by rw[u71 bO]))
end
section
open Go.Proofs
theorem x43(l:List HdS)(time:UInt32)(root:Hs)(hw:allW l)(hl1:1<=l.length)(hl0:l.length<=1000)(hr:root.length=32):Fn Tryz.prog gl 74 [.agg [.u32 545259519,.int 10,.u32 10,.nils,C7 ZM],.sl none 68 (l.map C7),.u32 time,j4 root,.u32 200] (.tup [C7 (US l time root).1,.bool (US l time root).2]):=by
 refine Fo 56 Tryz.func74 O λC hC hD=>?_;refine c6 4 [] (V5 0 1 2 3 4) Zt O (⟨O,_,R.box (gV 0 O) O O nU,⟨O,_,R.box (gV 3 O) O O nU,(M7 O ⟨O,_,Z3 (kB false O) O nU,tW (V6 1 2 4 5 8 10) (QB 10 8 5) 56 O ?_⟩)⟩⟩);refine W.seq ?_;refine s6 (m:=7) (an:=[0,0,0,0,12,31,0,127]) (its:=(y7 16 17 18 19 20 21 12)) (ks:=[]) (kk:=[]) (efs:=[(6,(B8 12))]) (live:=[1,4,10,12,21]) (env':=(V5 1 4 10 12 21)) (nd:=40) (bx1:=(CO 12 10 8 5)) hP dU O ⟨⟨69,O⟩,nU O,O,O,O,O⟩ (      ⟨⟨O,nU O,O,λ_ τ hb ht hτ=>R.ldP (hτ 8 _ O) (hb 8 _ O) O O O O ht⟩,⟨⟨O,nU O,O,λ_ τ hb ht hτ=>R.mov (evt (hτ 2 _ O)) O ht⟩,⟨⟨O,nU O,O,λ_ τ hb ht hτ=>R.ldP (hτ 5 _ O) (hb 5 _ O) O O O O ht⟩,⟨⟨O,nU O,O,λ_ τ hb ht hτ=>R.mov (evt (hτ 1 _ O)) O ht⟩,⟨⟨O,nU O,O,λ_ τ hb ht hτ=>o9 hC (z78 l hl0) (Bc (Bp (evt (hτ 18 _ O)) O O) (Bc (Bp (evt (hτ 19 _ O)) O O) Bn)) (F1 (.u32 _)) ht⟩,⟨⟨O,nU O,O,λ_ τ hb ht hτ=>C0 (l:=[.u32 0,.arr 32 1 ((List.replicate 32 0).map D.u8),.arr 32 1 ((List.replicate 32 0).map D.u8),.u32 0,.u32 0,.u32 0]) (l':=[_,_,_,_,_,_]) (.cons (kW (.int .u32 1) (.u32 1) O) (.cons (evt (hτ 16 _ O)) (.cons (evt (hτ 17 _ O)) (.cons (evt (hτ 20 _ O)) (.nil O))))) ⟨⟨_,(kW (.int .u32 1) (.u32 1) O),O,O,O⟩,⟨⟨_,(evt (hτ 16 _ O)),O,O,O⟩,⟨⟨_,(evt (hτ 17 _ O)),O,O,O⟩,⟨⟨_,(evt (hτ 20 _ O)),O,O,O⟩,Zt⟩⟩⟩⟩ ht⟩,⟨⟨O,O,⟨O,nU O⟩,(SpE.alloc O nU)⟩,Zt⟩⟩⟩⟩⟩⟩⟩) O O O (n':=56) O (B2 O ⟨[1,4,10,12],(V4 1 4 10 12),(CO 12 10 8 5),56,O,O,O, ?_⟩);refine W.seq (u7 3 (y3 22 23 24) (V5 1 4 10 12 24) ⟨zV O,R2 O,PJ 0 O,Zt⟩ ?_);refine Y3 O (dF bO) ?_;refine W.skip (c6 9 (y8 26 27 28 29 30 31 32 33) (V5 4 10 12 32 33) ⟨zV O,zV O,R2 O,AB 1 O,zI ((l.length-1)) O,zL O (mG l),zC hC (q79 l[l.length-1]! (hw.get bO)) O (F1 (G3 _)),xF O,Zt⟩ O (B2 O (tW (V3 4 10 12) (CO 12 10 8 5) 56 O ?_)));refine c6 9 (y6 35 36 37 34 38 39) (V5 4 10 12 38 39) ⟨xF O,xL O,zC hC (WO (F6 l)) O (FrsR.two (P5 _) (.bool _)),zY O,zX O,zX O,Zt⟩ O (M7 O (B2 O (JP O (tW (V5 4 10 12 13 14) (RE 13 12 10 8 5) 56 O ?_))));refine W.seq (u7 1 (y1 15) (V6 4 10 12 13 14 15) ⟨WH (.u32 0) O,Zt⟩ ?_);refine W.block ?_;refine W.loop (α:={q__:HdS×Nat//MI l time root q__.1 q__.2}) (λq__=>⟨56,[(4,.u32 200),(10,.ptr 10 0 []),(12,.ptr 12 0 []),(13,.ptr 13 0 []),(14,.bool (HI (F6 l)).isSome),(15,.u32 (UInt32.ofNat q__.1.2))],[(13,.var (W9 (AV (F6 l)))),(12,.var (C7 q__.1.1)),(10,.var (C7 zeroH)),(8,.var (j4 root)),(5,.var (.agg [.u32 545259519,.int 10,.u32 10,.nils,C7 ZM]))]⟩) (λq__=>200-q__.1.2) ⟨(DI l time root,0),w14 hr⟩ (by dsimp only[DI,C7]<;>rfl) ?_;rintro ⟨⟨h,n⟩,hi⟩;show W _ _ _ _ ⟨56,[(4,.u32 200),(10,.ptr 10 0 []),(12,.ptr 12 0 []),(13,.ptr 13 0 []),(14,.bool (HI (F6 l)).isSome),(15,.u32 (UInt32.ofNat n))],[(13,.var (W9 (AV (F6 l)))),(12,.var (C7 h)),(10,.var (C7 zeroH)),(8,.var (j4 root)),(5,.var (.agg [.u32 545259519,.int 10,.u32 10,.nils,C7 ZM]))]⟩;have hi:MI l time root h n:=hi;have hle:=hi.le;refine W.seq (W.seq ?_);by_cases hs:(HI (F6 l)).isSome=true
 ·refine R0 6 (y6 40 41 42 43 44 45) (V7 4 10 12 13 14 15 45) ⟨xM O,xM O,aT O (hs)<|zV O,aT O (hs)<|zV O,aT O (hs)<|zB O,aU<|zT O (hs),Zt⟩ ?_;refine W.cond O (λhc45=>?_) (λhc45=>?_)
  ·refine W.skip (W.seq (W.block (c6 3 (y2 48 49) (V8 4 10 12 13 14 15 48 49) ⟨zV O,xF O,Zt⟩ O (B2 O (tW (V6 4 10 12 13 14 15) (RE 13 12 10 8 5) 56 O ?_)))));refine W.seq ?_;refine W.dr (m:=4) (an:=[0,1,0,7]) hP dU rfl (its:=(y4 50 51 52 53)) (ks:=[]) (kk:=[]) (env':=(V7 4 10 12 13 14 15 53)) (⟨nU rfl,rfl,⟨aU (lU 12 rfl rfl rfl rfl rfl rfl rfl),aU λ_ _ H K=>o9 hC (q79 { h with nonce:=UInt32.ofNat n } (u47 hi.wf.1 hi.wf.2)) (Bc (Bp (eU K 50 rfl) rfl rfl) Bn) (F1 (G3 _)) H,aU (lU 13 rfl rfl rfl rfl rfl rfl rfl),aU λ_ _ H K=>o9 hC (k06 (DF { h with nonce:=UInt32.ofNat n }) (AV (F6 l)) (FD _) (DD _)) (Bc (Bp (eU K 51 rfl) rfl rfl) (Bc (Bp (eU K 52 rfl) rfl rfl) Bn)) (F1 (.bool _)) H,Zt⟩,rfl,rfl,rfl⟩) rfl (bx':=(RE 13 12 10 8 5)) rfl (n':=56) rfl (tV (V7 4 10 12 13 14 15 53) (RE 13 12 10 8 5) 56 rfl rfl rfl ?_);refine W.cond O (λhc53=>?_) (λhc53=>?_)
   ·refine c6 3 (y1 54) (V2 10 54) ⟨xL O,Zt⟩ O (B2 O ⟨O,_,Z3 (kB true O) O nU,tW (V2 10 11) (RE 13 12 10 8 5) 56 O ?_⟩);exact W.ret (Ends.many (.inr O) (.cons O O O (iL 44 68) (.cons O O O Zt .nil)) (by rw[hi.found hs ((IP hi.le).1 (c3 hc45)) hc53]<;>rfl) (show[(10,false),(11,true)].Nodup by decide))
   ·refine W.skip ?_;refine m7 3 (y3 46 47 15) (V6 4 10 12 13 14 15) ⟨zV O,UH O (kW (.int .u32 1) (.u32 1) O),zA O,Zt⟩ ?_;exact⟨⟨({ h with nonce:=UInt32.ofNat n },n+1),hi.next hs ((IP hi.le).1 (c3 hc45)) (by simpa using hc53)⟩,(by rw[k04]<;>rfl),(by have:=(IP hi.le).1 (c3 hc45);show 200-(n+1)<200-n;omega)⟩
  ·refine W.exit (c6 3 (y1 55) (V2 10 55) ⟨xL O,Zt⟩ O (B2 O ⟨O,_,Z3 (kB false O) O nU,tW (V2 10 11) (RE 13 12 10 8 5) 56 O ?_⟩));exact W.ret (Ends.many (.inr O) (.cons O O O (iL 44 68) (.cons O O O Zt .nil)) (by rw[hi.last hs (λh=>g7 hc45 ((IP hi.le).2 h))]<;>rfl) (show[(10,false),(11,true)].Nodup by decide))
 ·refine R0 6 [.y 40 _,.y 41 _,.x 42,.x 43,.x 44,.y 45 _] (V7 4 10 12 13 14 15 45) ⟨xM O,xM O,L0 O (bfalse hs),L0 O (bfalse hs),L0 O (bfalse hs),aU<|RI O (bfalse hs) (kB false O),Zt⟩ ?_;refine Y3 O (O) ?_;refine W.exit (c6 3 (y1 55) (V2 10 55) ⟨xL O,Zt⟩ O (B2 O ⟨O,_,Z3 (kB false O) O nU,tW (V2 10 11) (RE 13 12 10 8 5) 56 O ?_⟩));exact W.ret (Ends.many (.inr O) (.cons O O O (iL 44 68) (.cons O O O Zt .nil)) (by rw[hi.no (bfalse hs)]<;>rfl) (show[(10,false),(11,true)].Nodup by decide))
end
section
open Go.Proofs
theorem q93(t:TxS)(hwf:t.wf):Fn Tryz.prog gl 117 [QS t] (.bool (R3 t)):=by
 refine Fo 5 Tryz.func117 O λC hC hD=>?_;refine c6 2 [] (V1 0) Zt O (⟨O,_,R.box (gV 0 O) O O nU,⟨O,_,Z3 (kB false O) O nU,tW (V1 1) (B8 1) 5 O ?_⟩⟩);refine u7 3 (y3 3 4 2) (V1 2) ⟨xL O,zC hC (k29 t hwf) O (F1 (.bool _)),zA O,Zt⟩ ?_;exact W.ret (Eo O)
theorem j68(l:List BlkS)(hl:allBl l):Fn Tryz.prog gl 67 [.sl none 69 (l.map G8)] (.sl (some 137) 38 ((W4 l).map YX)):=by
 refine Fo 46 Tryz.func67 O λC hC hD=>?_;have hl1:=hl.1;refine u7 1 (y1 2) (V1 0) ⟨QX O,Zt⟩ ?_;refine u7 1 (y1 3) (V2 0 3) ⟨QX O,Zt⟩ ?_;refine W.seq (u7 1 (y1 4) (V3 0 3 4) ⟨r6 0 O,Zt⟩ ?_);refine W.block ?_;refine P9 (s:=3) 137 38 O ?_;refine P6 l.length (λh=>⟨46,[(0,.sl none 69 (l.map G8)),(3,.sl (some 137) 38 ((OW l h).map YX)),(4,.int ((h:Nat):Int))],[]⟩) O λh hh=>?_;have hal:=WQ hl h hh;have hbl:h<l.length->l[h]!.txs.length<=1000:=λh=>(hl.get h).len;refine W.seq (u7 4 (y4 6 7 8 9) (V4 0 3 4 9) ⟨zV O,zV O,R2 O,zS O,Zt⟩ ?_);refine c4 O (λhc9=>?_) (λhc9=>?_)
 ·refine W.skip (W.seq (W.block (u7 1 (y1 5) (V4 0 3 4 5) ⟨r6 0 O,Zt⟩ ?_)));refine W.block ?_;refine P6 (l[h]!.txs.length) (λi=>⟨46,[(0,.sl none 69 (l.map G8)),(3,.sl (some 137) 38 ((OW l h++BT l[h]! h i).map YX)),(4,.int ((h:Nat):Int)),(5,.int ((i:Nat):Int))],[]⟩) (by rw[BT,m6]) λi hi=>?_;have hbw:=hl.get (show h<l.length by omega);have hbl2:=hbw.len;refine W.seq (u7 8 (y8 12 13 14 15 16 17 18 19) (V5 0 3 4 5 19) ⟨zV O,zV O,zV O,zI h O,UF O,zL O (mG l),R2 O,zS O,Zt⟩ ?_);refine c4 O (λhc19=>?_) (λhc19=>?_)
  ·refine W.skip (W.seq (W.block ?_));refine q38 (m:=24) (an:=[0,0,0,0,0,24,56,120,0,504,1016,2040,0,0,12288,28672,61440,0,258048,520192,1048574,2097150,4194303,8388607]) hP dU O (its:=[.y 22 _,.y 23 _,.y 24 _,.y 25 _,.y 26 _,.y 27 _,.y 28 _,.y 29 _,.y 30 _,.y 31 _,.y 32 _,.y 33 _,.y 34 _,.y 35 _,.y 36 _,.y 37 _,.y 38 _,.y 39 _,.y 40 _,.y 41 _,.y 42 _,.y 43 _,.y 44 _,.y 3 _]) (ks:=[(22,3),(23,44),(23,22)]) (kk:=[(22,3),(23,44)]) (live:=[0,3,4,5]) (env':=[(0,_),(3,_),(4,_),(5,_)]) (⟨nU O,O,⟨aU λ_ _ H K=>R.al (K 3 _ O) H dU,xM O,xM O,xM O,xM O,aU λ_ _ H K=>R.idxN (h) (SC.sl (K 25 _ O)) (C5 (eU K 26 O)) O bU H dU,aU λ_ _ H K=>R.fdE (K 27 _ O) H dU,aU λ_ _ H K=>R.ldE (K 28 _ O) (SC.sl (K 25 _ O)) (n8 (l:=l) bU) O O O O H,xM O,aU λ_ _ H K=>R.idxN (i) (SC.sl (K 29 _ O)) (C5 (eU K 30 O)) O bU H dU,aU λ_ _ H K=>R.ldE (K 31 _ O) (SC.sl (K 29 _ O)) (n8 (l:=l[h]!.txs) bU) O O O O H,aU λ_ _ H K=>o9 hC (k31 l[h]!.txs[i]! (hbw.get (by omega))) (Bc (Bp (eU K 32 O) O O) Bn) (FrsR.one (G3 _)) H,xM O,xM O,aU λ_ _ H K=>R.idxN (h) (SC.sl (K 34 _ O)) (C5 (eU K 35 O)) O bU H dU,aU λ_ _ H K=>R.fdE (K 36 _ O) H dU,aU λ_ _ H K=>R.ldE (K 37 _ O) (SC.sl (K 34 _ O)) (n8 (l:=l) bU) O O O O H,xM O,aU λ_ _ H K=>R.idxN (i) (SC.sl (K 38 _ O)) (C5 (eU K 39 O)) O bU H dU,aU λ_ _ H K=>R.ldE (K 40 _ O) (SC.sl (K 38 _ O)) (n8 (l:=l[h]!.txs) bU) O O O O H,aU λ_ _ H K=>C0 (l:=[.int 0,.int 0,.arr 32 1 ((List.replicate 32 0).map D.u8),.agg [.u32 0,.nils,.nils,.u32 0]]) (l':=[_,_,_,_]) (.cons (eU K 23 O) (.cons (eU K 24 O) (.cons (eU K 33 O) (.cons (eU K 41 O) (.nil O))))) ⟨⟨_,(eU K 23 O),O,O,O⟩,⟨⟨_,(eU K 24 O),O,O,O⟩,⟨⟨_,(eU K 33 O),O,O,u54 O⟩,⟨⟨_,(eU K 41 O),O,O,O⟩,Zt⟩⟩⟩⟩ H,aU λ_ _ H K=>Z7 (z:=38) (.cons (eU K 42 O) .nil) ⟨⟨O,O,O⟩,Zt⟩ O H dU,aU λ_ _ H K=>O6 (Or.inr (K 22 _ O)) (K 3 _ O) (SrcO.sc (SC.sl (K 43 _ O)) (Y7 O)) (show _=((OW l h++BT l[h]! h (i+1)).map YX) from(x95 _ _ _ _)) (by simp only[z9,q9,VW,j3,j5];omega) H dU dU,aU λ_ _ H K=>R.asgO (K 44 _ O) O H dU,Zt⟩,O,O,O⟩) O (bx':=[]) O (n':=46) O (tW [(0,_),(3,_),(4,_),(5,_)] [] 46 O ?_);refine m7 3 (y3 20 21 5) (V4 0 3 4 5) ⟨zV O,N2 1 O,zA O,Zt⟩ ?_;exact⟨bU,rfl⟩
  ·obtain rfl:i=l[h]!.txs.length:=by omega
   refine W.exit ?_;refine m7 3 (y3 10 11 4) (V3 0 3 4) ⟨zV O,N2 1 O,zA O,Zt⟩ ?_;exact⟨bU,(by rw[z82]<;>rfl)⟩
 ·obtain rfl:h=l.length:=by omega
  refine W.exit (M3 2 (y2 45 2) [(0,3),(1,45)] [(0,3),(1,45)] (V1 2) ⟨aU λ_ _ H K=>KK (K 3 _ O) O H dU,aU<|zO O,Zt⟩ O (tU O ?_));exact W.ret (En O (by rw[W4]))
end
section
open Go.Proofs
theorem j32(l:List StS)(hl:allSt l)(before input:Nat)(p:Plc)(hb0:before<=1000000)(hn0:input<=1000000):Fn Tryz.prog gl 71 [.sl none 38 (l.map YX),.int ((before:Nat):Int),.int ((input:Nat):Int),z5 p] (.bool (EX l before input p)):=by
 refine Fo 64 Tryz.func71 O λC hC hD=>?_;have hl1:=hl.1;refine c6 2 [] (V4 0 1 2 3) Zt O (⟨O,_,R.box (gV 3 O) O O nU,⟨O,_,Z3 (kB false O) O nU,tW (V4 0 1 2 7) (B8 7) 64 O ?_⟩⟩);refine W.seq (u7 1 (y1 9) (V5 0 1 2 7 9) ⟨r6 0 O,Zt⟩ ?_);refine W.block ?_;refine W.loop (α:={q__:Nat//q__<=min (before+1) l.length/\∀ q<q__,VZ l[q]!.t p (YW l before input q)=false}) (λq__=>⟨64,[(0,.sl none 38 (l.map YX)),(1,.int ((before:Nat):Int)),(2,.int ((input:Nat):Int)),(7,.ptr 7 0 []),(9,.int ((q__.1:Nat):Int))],[(7,.var (z5 p))]⟩) (λq__=>l.length-q__.1) ⟨(0),⟨g9 _,λq hq=>absurd hq (Q8 _)⟩⟩ O ?_;rintro ⟨i,⟨hi,hno⟩⟩;show W _ _ _ _ ⟨64,[(0,.sl none 38 (l.map YX)),(1,.int ((before:Nat):Int)),(2,.int ((input:Nat):Int)),(7,.ptr 7 0 []),(9,.int ((i:Nat):Int))],[(7,.var (z5 p))]⟩;have hi:i<=min (before+1) l.length:=hi;have hno:∀ q<i,VZ l[q]!.t p (YW l before input q)=false:=hno;refine W.seq (W.seq ?_);by_cases h1:i<=before
 ·refine R0 9 (y9 11 12 13 14 15 16 17 18 19) (V6 0 1 2 7 9 19) ⟨xM O,xM O,aU λ_ _ H K=>AJ (i) (before) (eU K 11 O) (eU K 12 O) H,xM O,aT O (dT h1)<|zV O,aT O (dT h1)<|zV O,aT O (dT h1)<|R2 O,aT O (dT h1)<|zS O,aU<|zT O (dT h1),Zt⟩ ?_;refine c4 O (λhc19=>?_) (λhc19=>?_)
  ·refine W.skip (W.seq (W.block (u7 1 (y1 10) (V6 0 1 2 7 9 10) ⟨r6 0 O,Zt⟩ ?_)));refine W.block ?_;refine ED (YW l before input i) (λq__=>∀ q<q__,(plc l[i]!.t.ins[q]! == p&&!R3 l[i]!.t)=false) (λk=>⟨64,[(0,.sl none 38 (l.map YX)),(1,.int ((before:Nat):Int)),(2,.int ((input:Nat):Int)),(7,.ptr 7 0 []),(9,.int ((i:Nat):Int)),(10,.int ((k:Nat):Int))],[(7,.var (z5 p))]⟩) ⟨g9 _,λq hq=>absurd hq (Q8 _)⟩ O λk hinv=>?_;obtain⟨hk,hnk⟩:=hinv;have hk:k<=YW l before input i:=hk;have hnk:∀ q<k,(plc l[i]!.t.ins[q]! == p&&!R3 l[i]!.t)=false:=hnk;have hiw:=hl.get (show i<l.length by omega);have hi1:=hiw.2.2.1
   have hfk:YW l before input i<=l[i]!.t.ins.length:=by unfold YW;split<;>omega
   refine W.seq (W.seq ?_);by_cases h2:k<l[i]!.t.ins.length
   ·by_cases h3:i<before
    ·refine R0 19 [.y 22 _,.y 23 _,.y 24 _,.y 25 _,.y 26 _,.y 27 _,.y 28 _,.y 29 _,.y 30 _,.y 31 _,.y 32 _,.y 33 _,.y 34 _,.y 35 _,.x 36,.x 37,.x 38,.y 39 _,.y 40 _] (V7 0 1 2 7 9 10 40) ⟨xM O,xM O,xM O,aU<|zI i O,aU<|UF O,aU<|UF O,aU<|zL O (mG l),aU<|R2 O,aU<|zS O,xM O,aT O (dT h2)<|zV O,aT O (dT h2)<|zV O,aT O (dT h2)<|zS O,aT O (dT h2)<|zV O,GR O (dT h3),GR O (dT h3),GR O (dT h3),aT O (dT h2)<|z89 O (dT h3) (kB true O),aU<|zT O (dT h2),Zt⟩ ?_;refine Y8 O (O) ?_;refine W.skip (W.seq (W.block (W.seq ?_)));by_cases h4:plc l[i]!.t.ins[k]! = p
     ·have hkn:k<YW l before input i:=by rw[BO h3];exact h2
      refine KL 21 [0,0,3,7,15,31,0,127,255,511,0,2047,4095,8191,8191,32767,65535,131071,262143,524287,1048575] hP dU [.y 43 _,.y 44 _,.y 45 _,.y 46 _,.y 47 _,.y 48 _,.y 49 _,.y 50 _,.y 51 _,.y 52 _,.y 53 _,.y 54 _,.y 55 _,.y 56 _,.y 57 _,.y 58 _,.y 59 _,.y 60 _,.y 61 _,.y 62 _,.y 63 _] [] [] (V7 0 1 2 7 9 10 63) ⟨xM O,xM O,aU<|zI i O,aU<|UF O,aU<|UF O,aU<|zL O (mG l),xM O,aU<|zI k O,aU<|UF O,aU<|zL O (n8 (l:=l[i]!.t.ins) bU),aU (xL O),aU λ_ _ H K=>R.eqD (neg:=false) (b':=(plc l[i]!.t.ins[k]! == p)) (ZV _ _) O (eU K 52 O) (eU K 53 O) O O O O (O) H,xM O,aT O (p7.2 h4)<|zV O,aT O (p7.2 h4)<|zV O,aT O (p7.2 h4)<|zI i O,aT O (p7.2 h4)<|UF O,aT O (p7.2 h4)<|zL O (mG l),aT O (p7.2 h4)<|zC hC (q93 l[i]!.t hiw.2.1) O (F1 (.bool _)),aT O (p7.2 h4)<|AC O,aU<|zT O (p7.2 h4),Zt⟩ O (tW (V7 0 1 2 7 9 10 63) (B8 7) 64 O ?_);refine W.cond O (λhc63=>?_) (λhc63=>?_)
      ·refine u7 1 (y1 8) (V1 8) ⟨QX O,Zt⟩ ?_;exact W.ret (En O (by rw[VQ h1 bO hkn h4 hc63]))
      ·refine W.skip ?_;refine m7 3 (y3 41 42 10) (V6 0 1 2 7 9 10) ⟨zV O,N2 1 O,zA O,Zt⟩ ?_;exact⟨⟨by omega,λq hq=>(m5.1 hq).elim (hnk q) (λe=>e▸(by first|exact q66 h4|exact MJ (by simpa using hc63)))⟩,rfl⟩
     ·have hkn:k<YW l before input i:=by rw[BO h3];exact h2
      refine KL 21 [0,0,3,7,15,31,0,127,255,511,0,2047,4095,8191,8191,32767,65535,131071,262143,524287,1048575] hP dU [.y 43 _,.y 44 _,.y 45 _,.y 46 _,.y 47 _,.y 48 _,.y 49 _,.y 50 _,.y 51 _,.y 52 _,.y 53 _,.y 54 _,.y 55 _,.x 56,.x 57,.x 58,.x 59,.x 60,.x 61,.x 62,.y 63 _] [] [] (V7 0 1 2 7 9 10 63) ⟨xM O,xM O,aU<|zI i O,aU<|UF O,aU<|UF O,aU<|zL O (mG l),xM O,aU<|zI k O,aU<|UF O,aU<|zL O (n8 (l:=l[i]!.t.ins) bU),aU (xL O),aU λ_ _ H K=>R.eqD (neg:=false) (b':=(plc l[i]!.t.ins[k]! == p)) (ZV _ _) O (eU K 52 O) (eU K 53 O) O O O O (O) H,xM O,L0 O (v4.2 h4),L0 O (v4.2 h4),L0 O (v4.2 h4),L0 O (v4.2 h4),L0 O (v4.2 h4),L0 O (v4.2 h4),L0 O (v4.2 h4),aU<|RI O (v4.2 h4) (kB false O),Zt⟩ O (tW (V7 0 1 2 7 9 10 63) (B8 7) 64 O ?_);refine Y3 O (O) ?_;refine W.skip ?_;refine m7 3 (y3 41 42 10) (V6 0 1 2 7 9 10) ⟨zV O,N2 1 O,zA O,Zt⟩ ?_;exact⟨⟨by omega,λq hq=>(m5.1 hq).elim (hnk q) (λe=>e▸(by first|exact q66 h4|exact MJ (by simpa using hc63)))⟩,rfl⟩
    ·refine R0 19 (v05 22 23 24 25 26 27 28 29 30 31 32 33 34 35 36 37 38 39 40) (V7 0 1 2 7 9 10 40) ⟨xM O,xM O,xM O,aU<|zI i O,aU<|UF O,aU<|UF O,aU<|zL O (mG l),aU<|R2 O,aU<|zS O,xM O,aT O (dT h2)<|zV O,aT O (dT h2)<|zV O,aT O (dT h2)<|zS O,aT O (dT h2)<|zV O,aN O (dF h3)<|zV O,aN O (dF h3)<|zV O,aN O (dF h3)<|zS O,aT O (dT h2)<|zF O (dF h3),aU<|zT O (dT h2),Zt⟩ ?_;refine c4 O (λhc40=>?_) (λhc40=>?_)
     ·refine W.skip (W.seq (W.block (W.seq ?_)));by_cases h4:plc l[i]!.t.ins[k]! = p
      ·have hkn:k<YW l before input i:=by rw[BN h3];omega
       refine KL 21 [0,0,3,7,15,31,0,127,255,511,0,2047,4095,8191,8191,32767,65535,131071,262143,524287,1048575] hP dU [.y 43 _,.y 44 _,.y 45 _,.y 46 _,.y 47 _,.y 48 _,.y 49 _,.y 50 _,.y 51 _,.y 52 _,.y 53 _,.y 54 _,.y 55 _,.y 56 _,.y 57 _,.y 58 _,.y 59 _,.y 60 _,.y 61 _,.y 62 _,.y 63 _] [] [] (V7 0 1 2 7 9 10 63) ⟨xM O,xM O,aU<|zI i O,aU<|UF O,aU<|UF O,aU<|zL O (mG l),xM O,aU<|zI k O,aU<|UF O,aU<|zL O (n8 (l:=l[i]!.t.ins) bU),aU (xL O),aU λ_ _ H K=>R.eqD (neg:=false) (b':=(plc l[i]!.t.ins[k]! == p)) (ZV _ _) O (eU K 52 O) (eU K 53 O) O O O O (O) H,xM O,aT O (p7.2 h4)<|zV O,aT O (p7.2 h4)<|zV O,aT O (p7.2 h4)<|zI i O,aT O (p7.2 h4)<|UF O,aT O (p7.2 h4)<|zL O (mG l),aT O (p7.2 h4)<|zC hC (q93 l[i]!.t hiw.2.1) O (F1 (.bool _)),aT O (p7.2 h4)<|AC O,aU<|zT O (p7.2 h4),Zt⟩ O (tW (V7 0 1 2 7 9 10 63) (B8 7) 64 O ?_);refine W.cond O (λhc63=>?_) (λhc63=>?_)
       ·refine u7 1 (y1 8) (V1 8) ⟨QX O,Zt⟩ ?_;exact W.ret (En O (by rw[VQ h1 bO hkn h4 hc63]))
       ·refine W.skip ?_;refine m7 3 (y3 41 42 10) (V6 0 1 2 7 9 10) ⟨zV O,N2 1 O,zA O,Zt⟩ ?_;exact⟨⟨by omega,λq hq=>(m5.1 hq).elim (hnk q) (λe=>e▸(by first|exact q66 h4|exact MJ (by simpa using hc63)))⟩,rfl⟩
      ·have hkn:k<YW l before input i:=by rw[BN h3];omega
       refine KL 21 [0,0,3,7,15,31,0,127,255,511,0,2047,4095,8191,8191,32767,65535,131071,262143,524287,1048575] hP dU [.y 43 _,.y 44 _,.y 45 _,.y 46 _,.y 47 _,.y 48 _,.y 49 _,.y 50 _,.y 51 _,.y 52 _,.y 53 _,.y 54 _,.y 55 _,.x 56,.x 57,.x 58,.x 59,.x 60,.x 61,.x 62,.y 63 _] [] [] (V7 0 1 2 7 9 10 63) ⟨xM O,xM O,aU<|zI i O,aU<|UF O,aU<|UF O,aU<|zL O (mG l),xM O,aU<|zI k O,aU<|UF O,aU<|zL O (n8 (l:=l[i]!.t.ins) bU),aU (xL O),aU λ_ _ H K=>R.eqD (neg:=false) (b':=(plc l[i]!.t.ins[k]! == p)) (ZV _ _) O (eU K 52 O) (eU K 53 O) O O O O (O) H,xM O,L0 O (v4.2 h4),L0 O (v4.2 h4),L0 O (v4.2 h4),L0 O (v4.2 h4),L0 O (v4.2 h4),L0 O (v4.2 h4),L0 O (v4.2 h4),aU<|RI O (v4.2 h4) (kB false O),Zt⟩ O (tW (V7 0 1 2 7 9 10 63) (B8 7) 64 O ?_);refine Y3 O (O) ?_;refine W.skip ?_;refine m7 3 (y3 41 42 10) (V6 0 1 2 7 9 10) ⟨zV O,N2 1 O,zA O,Zt⟩ ?_;exact⟨⟨by omega,λq hq=>(m5.1 hq).elim (hnk q) (λe=>e▸(by first|exact q66 h4|exact MJ (by simpa using hc63)))⟩,rfl⟩
     ·refine W.exit ?_;refine m7 3 (y3 20 21 9) (V5 0 1 2 7 9) ⟨zV O,N2 1 O,zA O,Zt⟩ ?_;exact⟨⟨(i+1),⟨by omega,λq hq=>(m5.1 hq).elim (hno q) (λe=>e▸j31 (λq hq=>hnk q (by first|(rw[BO h3] at hq;omega)|(rw[BN h3] at hq;omega)|(by_cases h3:i<before;(rw[BO h3] at hq;omega);(rw[BN h3] at hq;omega)))))⟩⟩,rfl,(by show l.length-(i+1)<l.length-i;omega)⟩
   ·refine R0 19 [.y 22 _,.y 23 _,.y 24 _,.y 25 _,.y 26 _,.y 27 _,.y 28 _,.y 29 _,.y 30 _,.y 31 _,.x 32,.x 33,.x 34,.x 35,.x 36,.x 37,.x 38,.x 39,.y 40 _] (V7 0 1 2 7 9 10 40) ⟨xM O,xM O,xM O,aU<|zI i O,aU<|UF O,aU<|UF O,aU<|zL O (mG l),aU<|R2 O,aU<|zS O,xM O,L0 O (dF h2),L0 O (dF h2),L0 O (dF h2),L0 O (dF h2),⟨O,⟨_,35,O,O,.inr ⟨O,O⟩⟩,λh=>absurd h dU⟩,⟨O,⟨_,35,O,O,.inr ⟨O,O⟩⟩,λh=>absurd h dU⟩,⟨O,⟨_,35,O,O,.inr ⟨O,O⟩⟩,λh=>absurd h dU⟩,L0 O (dF h2),aU<|RI O (dF h2) (kB false O),Zt⟩ ?_;refine Y3 O (O) ?_;refine W.exit ?_;refine m7 3 (y3 20 21 9) (V5 0 1 2 7 9) ⟨zV O,N2 1 O,zA O,Zt⟩ ?_;exact⟨⟨(i+1),⟨by omega,λq hq=>(m5.1 hq).elim (hno q) (λe=>e▸j31 (λq hq=>hnk q (by first|(rw[BO h3] at hq;omega)|(rw[BN h3] at hq;omega)|(by_cases h3:i<before;(rw[BO h3] at hq;omega);(rw[BN h3] at hq;omega)))))⟩⟩,rfl,(by show l.length-(i+1)<l.length-i;omega)⟩
  ·refine W.exit (u7 1 (y1 8) (V1 8) ⟨QX O,Zt⟩ ?_);exact W.ret (En O (by rw[FN (λq hq=>hno q bO)]))
 ·refine R0 9 [.y 11 _,.y 12 _,.y 13 _,.y 14 _,.x 15,.x 16,.x 17,.x 18,.y 19 _] (V6 0 1 2 7 9 19) ⟨xM O,xM O,aU λ_ _ H K=>AJ (i) (before) (eU K 11 O) (eU K 12 O) H,xM O,L0 O (dF h1),L0 O (dF h1),L0 O (dF h1),L0 O (dF h1),aU<|RI O (dF h1) (kB false O),Zt⟩ ?_;refine Y3 O (O) ?_;refine W.exit (u7 1 (y1 8) (V1 8) ⟨QX O,Zt⟩ ?_);exact W.ret (En O (by rw[FN (λq hq=>hno q bO)]))
end
section
open Go.Proofs
theorem OC(k:UInt8):Fn Tryz.prog gl 64 [.u8 k] (.sl (some 5) 1 ((HD k).map D.u8)):=by
 refine Fn.of (n:=10) Tryz.func64 rfl rfl rfl (g0 rfl) λC hC hD=>?_;have hsl:=YM [115,k,0,0,0];refine W.seq ?_;refine PQ (n:=1) (by decide) (its:=[⟨2,_,true⟩]) (ks:=[]) (kk:=[]) (live:=[0]) (env':=[(0,_)])
  (⟨g0 rfl,rfl,
   ⟨⟨rfl,rfl,λ_ τ hb ht hτ=>Z3 (show ev _ _ (.const (.slice none 0 0))=some (.nils) from rfl) rfl ht⟩,
   trivial⟩,rfl,rfl,rfl⟩)
  rfl (bx':=[]) rfl (n':=10) rfl (⟨[0],[(0,_)],[],10,rfl,rfl,rfl, ?_⟩)
 refine W.seq ?_;refine PQ (n:=5) (by decide) (its:=[⟨4,_,true⟩,⟨5,_,true⟩,⟨6,_,true⟩]) (ks:=[]) (kk:=[]) (live:=[6]) (env':=[(6,_)])
  (⟨g0 rfl,rfl,
   ⟨⟨rfl,rfl,λ_ τ hb ht hτ=>R.mov (evt (hτ 0 _ rfl)) rfl ht⟩,
   ⟨⟨rfl,rfl,λ_ τ hb ht hτ=>Z7 (z:=1) (.cons (show ev _ _ (.const (.int .u8 115))=some (.u8 115) from rfl) (.cons (evt (hτ 4 _ rfl)) (.cons (show ev _ _ (.const (.int .u8 0))=some (.u8 0) from rfl) (.cons (show ev _ _ (.const (.int .u8 0))=some (.u8 0) from rfl) (.cons (show ev _ _ (.const (.int .u8 0))=some (.u8 0) from rfl) .nil))))) ⟨⟨rfl,rfl,rfl⟩,⟨⟨rfl,rfl,rfl⟩,⟨⟨rfl,rfl,rfl⟩,⟨⟨rfl,rfl,rfl⟩,⟨⟨rfl,rfl,rfl⟩,trivial⟩⟩⟩⟩⟩ rfl ht (by decide)⟩,
   ⟨⟨rfl,rfl,λ_ τ hb ht hτ=>o9 hC (MK [115,k,0,0,0] (by simp)) (Bors.cons (Bor.sc (SC.sl (hτ 5 _ rfl)) rfl) Bors.nil) (FrsR.one (G3 _)) ht⟩,
   trivial⟩⟩⟩,rfl,rfl,rfl⟩)
  rfl (bx':=[]) rfl (n':=10) rfl (⟨rfl,_,R.alloc rfl (g0 rfl),⟨rfl,_,XP (show Sg.get _ 3=some _ from rfl) (show Sg.box _ 3=some _ from rfl) rfl (evt (show Sg.get _ 6=some _ from rfl)) (by rfl) (by rfl) (by rfl) (by rfl) rfl,⟨[3],[(3,_)],[(3,.var _)],10,rfl,rfl,rfl, ?_⟩⟩⟩)
 refine W.seq ?_;refine PQ (n:=4) (by decide) (its:=[⟨7,_,true⟩,⟨8,_,true⟩,⟨9,_,true⟩,⟨2,_,true⟩]) (ks:=[(2,7),(3,9)]) (kk:=[(2,7),(3,9)]) (live:=[2]) (env':=[(2,_)])
  (⟨g0 rfl,rfl,
   ⟨⟨rfl,rfl,λ_ τ hb ht hτ=>Z7 (z:=1) (.cons (show ev _ _ (.const (.int .u8 0))=some (.u8 0) from rfl) (.cons (show ev _ _ (.const (.int .u8 20))=some (.u8 20) from rfl) .nil)) ⟨⟨rfl,rfl,rfl⟩,⟨⟨rfl,rfl,rfl⟩,trivial⟩⟩ rfl ht (by decide)⟩,
   ⟨⟨rfl,rfl,λ_ τ hb ht hτ=>r9 (0) (20) (20) (hτ 3 _ rfl) (hb 3 _ rfl) rfl rfl (C5 (show ev _ _ (.const (.int .i64 20))=some (.int ((20:Nat):Int)) from rfl)) rfl rfl (by first|omega|(simp only[z9,q9,j3,j5,v5,v8,d6];omega)|(simp;omega)) (by first|omega|(simp only[z9,q9,j3,j5,v5,v8,d6];omega)|(simp;omega)) rfl ht⟩,
   ⟨⟨rfl,rfl,λ_ τ hb ht hτ=>O6 (Or.inl rfl) (hτ 7 _ rfl) (SrcO.sc (SC.va (hτ 8 _ rfl) (hb 3 _ rfl) rfl (by first|omega|(simp only[z9,q9,j3,j5,v5,v8,d6];omega)|(simp;omega))) (l4 (λ_=>rfl))) (show _=((HD k).map D.u8) from(by rw[HD,d5,U8];rfl)) (by first|omega|(simp only[z9,q9,j3,j5,v5,v8,d6];omega)|(simp;omega)) ht (by decide) (by decide)⟩,
   ⟨⟨rfl,rfl,λ_ τ hb ht hτ=>R.asgO (hτ 9 _ rfl) rfl ht (by decide)⟩,
   trivial⟩⟩⟩⟩,rfl,rfl,rfl⟩)
  rfl (bx':=[(3,.var _)]) rfl (n':=10) rfl (⟨[2],[(2,_)],[(3,.var _)],10,rfl,rfl,rfl, ?_⟩)
 refine W.ret ?_;exact Ends.one' (.inr rfl) rfl (rfl) rfl rfl trivial
end
section
open Go.Proofs
theorem k10(l:List BlkS)(hl:allBl l):Fn Tryz.prog gl 72 [.sl none 69 (l.map G8)] (.tup [.sl (some 109) 33 ((XF l).map DY),.sl (some 60) 1 ((XF l).map CA)]):=by
 refine Fo 62 Tryz.func72 O λC hC hD=>?_;have hsa:=MR hl;have hal:=hsa.1;refine u7 2 (y2 2 3) (V1 0) ⟨QX O,QX O,Zt⟩ ?_;refine M3 3 (y3 10 11 4) [(2,11)] [(2,11)] (V1 4) ⟨xM O,aU λ_ _ H K=>KM hC (j68 l hl) (EvP.cons (eU K 10 O) O O EvP.nil) H,aU<|zO O,Zt⟩ O (tU O ?_);refine W.seq ?_;refine HA (s:=4) (d':=.sl none 38 ((W4 l).map YX)) O O (x82 _ _ _) ?_;refine m7 1 (y1 5) (V2 4 5) ⟨QX O,Zt⟩ ?_;refine u7 1 (y1 6) (V3 4 5 6) ⟨QX O,Zt⟩ ?_;refine W.seq (u7 1 (y1 7) (V4 4 5 6 7) ⟨r6 0 O,Zt⟩ ?_);refine W.block ?_;refine P9 (s:=5) 109 33 O ?_;refine P9 (s:=6) 60 1 O ?_;refine P6 ((W4 l).length) (λi=>⟨62,[(4,.sl none 38 ((W4 l).map YX)),(5,.sl (some 109) 33 ((HS (W4 l) i).map DY)),(6,.sl (some 60) 1 ((HS (W4 l) i).map CA)),(7,.int ((i:Nat):Int))],[]⟩) O λi hi=>?_;have htl:=SZ hsa i hi;have hsm:i<(W4 l).length->(W4 l)[i]!.t.outs.length<=1000:=λh=>(hsa.get h).2.2.2;refine W.seq (u7 4 (y4 12 13 14 15) (V5 4 5 6 7 15) ⟨zV O,zV O,R2 O,zS O,Zt⟩ ?_);refine c4 O (λhc15=>?_) (λhc15=>?_)
 ·refine W.skip (W.seq (W.block (u7 1 (y1 8) (V5 4 5 6 7 8) ⟨r6 0 O,Zt⟩ ?_)));refine W.block ?_;refine P6 ((W4 l)[i]!.t.outs.length) (λk=>⟨62,[(4,.sl none 38 ((W4 l).map YX)),(5,.sl (some 109) 33 ((HS (W4 l) i++KD (W4 l) i k).map DY)),(6,.sl (some 60) 1 ((HS (W4 l) i++KD (W4 l) i k).map CA)),(7,.int ((i:Nat):Int)),(8,.int ((k:Nat):Int))],[]⟩) (by rw[w49,m6]) λk hk=>?_;have hkl:=SQ (W4 l) i k;refine W.seq (u7 9 (y9 18 19 20 21 22 23 24 25 26) (V6 4 5 6 7 8 26) ⟨zV O,zV O,zV O,zI i O,UF O,UF O,zL O (mG (W4 l)),R2 O,zS O,Zt⟩ ?_);refine c4 O (λhc26=>?_) (λhc26=>?_)
  ·refine W.skip (W.seq (W.block (c6 10 (y8 29 30 31 32 33 34 35 36) (V6 4 5 6 7 8 36) ⟨zV O,zV O,zI i O,UF O,zL O (mG (W4 l)),zV O,λ_ _ H K=>T6 (d:=.u32 (UInt32.ofInt ((k:Nat):Int))) (eU K 34 O) O (O) H,λ_ _ H K=>C0 (l:=[.arr 32 1 ((List.replicate 32 0).map D.u8),.u32 0]) (l':=[_,_]) (.cons (eU K 33 O) (.cons (eU K 35 O) (.nil O))) ⟨⟨_,(eU K 33 O),O,O,u54 O⟩,⟨⟨_,(eU K 35 O),O,O,O⟩,Zt⟩⟩ H,Zt⟩ O (M7 O (B2 O (tW (V6 4 5 6 7 8 9) (B8 9) 62 O ?_))))));refine u7 6 (y6 37 38 39 40 41 42) (V7 4 5 6 7 8 9 42) ⟨zV O,zV O,R2 O,xL O,λ_ _ H K=>o9 hC (j32 (W4 l) hsa (W4 l).length 0 ((W4 l)[i]!.id,UInt32.ofInt ((k:Nat):Int)) bO dU) (Bc (Bp (eU K 37 O) O O) (Bc (Bp (eU K 39 O) O O) (Bc (Bp (kI 0 O) O O) (Bc (Bp (eU K 40 O) O O) Bn)))) (F1 (.bool _)) H,AC O,Zt⟩ ?_;refine W.cond O (λhc42=>?_) (λhc42=>?_)
   ·refine M3 5 (y5 43 44 45 46 5) [(3,5),(4,46),(4,43)] [(3,5),(4,46)] (V5 4 5 6 7 8) ⟨aU<|zM O,aU (xL O),aU λ_ _ H K=>Z7 (z:=33) (.cons (eU K 44 O) .nil) ⟨⟨O,O,O⟩,Zt⟩ O H dU,aU<|UI O (Y7 O) (show _=((HS (W4 l) i++KD (W4 l) i (k+1)).map DY) from(u53 (by simpa using hc42))) (by simp only[z9,q9,j3,j5];omega),aU<|zO O,Zt⟩ O (tU O ?_);refine W.dropB [] (bx':=[]) O O O (n7 hD O) ?_;refine XU 14 (z90 47 48 49 50 51 52 53 54 55 56 57 58 59 6) [(12,6),(13,59),(13,47)] [(12,6),(13,59)] (V5 4 5 6 7 8) ⟨aU<|zM O,xM O,xM O,aU<|zI i O,aU<|UF O,aU<|UF O,aU<|zL O (mG (W4 l)),xM O,aU<|zI k O,aU<|UF O,aU<|zL O (n8 (l:=((W4 l))[i]!.t.outs) bU),aU λ_ _ H K=>Z7 (z:=1) (.cons (eU K 57 O) .nil) ⟨⟨O,O,O⟩,Zt⟩ O H dU,aU<|UI O (Y7 O) (show _=((HS (W4 l) i++KD (W4 l) i (k+1)).map CA) from(u52 (by simpa using hc42))) (by simp only[z9,q9,j3,j5];omega),aU<|zO O,Zt⟩ O (tU O ?_);refine m7 3 (y3 27 28 8) (V5 4 5 6 7 8) ⟨zV O,N2 1 O,zA O,Zt⟩ ?_;exact⟨bU,(by first|rfl|(rw[k08 (by simpa using hc42)]<;>rfl))⟩
   ·refine W.skip ?_;refine A8 (V5 4 5 6 7 8) (B8 9) 62 O ?_;refine W.dropB [] (bx':=[]) O O O (n7 hD O) ?_;refine m7 3 (y3 27 28 8) (V5 4 5 6 7 8) ⟨zV O,N2 1 O,zA O,Zt⟩ ?_;exact⟨bU,(by first|rfl|(rw[k08 (by simpa using hc42)]<;>rfl))⟩
  ·obtain rfl:k=(W4 l)[i]!.t.outs.length:=by omega
   refine W.exit ?_;refine m7 3 (y3 16 17 7) (V4 4 5 6 7) ⟨zV O,N2 1 O,zA O,Zt⟩ ?_;exact⟨bU,(by rw[z27]<;>rfl)⟩
 ·obtain rfl:i=(W4 l).length:=by omega
  refine W.exit (M3 4 (y4 60 61 2 3) [(0,5),(1,6),(2,60),(3,61)] [(0,5),(1,6),(2,60),(3,61)] (V2 2 3) ⟨aU λ_ _ H K=>KK (K 5 _ O) O H dU,aU λ_ _ H K=>KK (K 6 _ O) O H dU,aU<|zO O,aU<|zO O,Zt⟩ O (tU O ?_));exact W.ret (Ends.many (.inr O) (.cons O O O Zt (.cons O O O Zt .nil)) (by rw[XF]) (show[(2,true),(3,true)].Nodup by decide))
end
theorem OD(k:UInt8):(HD k).length=22:=by
 unfold HD;rw[q9,v5,YM];rfl
structure TxS.sm(t:TxS):Prop where
 ins:t.ins.length<=8
 outs:t.outs.length<=8
 hash:∀ x∈t.ins,x.tx.length=32
 scr:∀ x∈t.ins,x.script.length<=100
 oscr:∀ x∈t.outs,x.script.length<=100
 wit:∀ x∈t.ins,x.wit.length<=8
 witi:∀ x∈t.ins,∀ b∈x.wit,b.length<=100
theorem x56{l:List InS}(h1:∀ x∈l,x.tx.length=32)(h2:∀ x∈l,x.script.length<=100)(i:Nat)(hi:i<=l.length):(ZU l i).length<=200*i:=by
 induction i with
 | zero=>exact z7 _
 | succ i ih=>
  have:=ih (by omega);have h3:=h1 _ (P3 (show i<l.length by omega));have h4:=h2 _ (P3 (show i<l.length by omega));have h5:=ZL l[i]!.script;simp only[ZU,u28,q9,K3];omega
theorem k53{l:List OutS}(h2:∀ x∈l,x.script.length<=100)(i:Nat)(hi:i<=l.length):(QE l i).length<=200*i:=by
 induction i with
 | zero=>exact z7 _
 | succ i ih=>
  have:=ih (by omega);have h4:=h2 _ (P3 (show i<l.length by omega));have h5:=ZL l[i]!.script;simp only[QE,EV,q9,K3];omega
theorem q46{l:List (List UInt8)}(h2:∀ x∈l,x.length<=100)(i:Nat)(hi:i<=l.length):(NQ l i).length<=200*i:=by
 induction i with
 | zero=>exact z7 _
 | succ i ih=>
  have:=ih (by omega);have h4:=h2 _ (P3 (show i<l.length by omega));have h5:=ZL l[i]!;simp only[NQ,q9];omega
theorem k01{l:List InS}(h1:∀ x∈l,x.wit.length<=8)(h2:∀ x∈l,∀ b∈x.wit,b.length<=100)(i:Nat)(hi:i<=l.length):(UL l i).length<=2000*i:=by
 induction i with
 | zero=>exact z7 _
 | succ i ih=>
  have:=ih (by omega);have hm:=P3 (show i<l.length by omega);have h3:=h1 _ hm;have h4:=q46 (h2 _ hm) _ (z7 _);have h5:=E9 l[i]!.wit.length;simp only[UL,q9];omega
theorem TxS.sm.wf{t:TxS}(h:t.sm):t.wf where
 ins:=u9 h.ins (by decide)
 outs:=u9 h.outs (by decide)
 hash:=h.hash
 scr:=λx hx=>u9 (h.scr x hx) (by decide)
 oscr:=λx hx=>u9 (h.oscr x hx) (by decide)
 insb:=λi hi=>by
  have:=x56 h.hash h.scr i hi;have:=h.ins;omega
 outsb:=λi hi=>by
  have:=k53 h.oscr i hi;have:=h.outs;omega
 witsb:=λi hi=>by
  have:=k01 h.wit h.witi i hi;have:=h.ins;omega
 witl:=λx hx=>⟨u9 (h.wit x hx) (by decide),λi hi=>by
  have:=q46 (h.witi x hx) i hi;have:=h.wit x hx
  omega⟩
 witi:=λx hx b hb=>u9 (h.witi x hx b hb) (by decide)
theorem TxS.sm.le{t:TxS}(h:t.sm):t.ins.length<=1000/\t.outs.length<=1000:=⟨u9 h.ins (by decide),u9 h.outs (by decide)⟩
theorem UD:zero32.length=32:=rfl
theorem k74(n:Nat)(x:PlS)(mark:UInt32):(q70 n x mark).sm where
 ins:=(by decide:1<=8)
 outs:=(by decide:1<=8)
 hash:=λy hy=>by rw[d8.1 hy];exact UD
 scr:=λy hy=>by rw[d8.1 hy];exact(by decide:3<=100)
 oscr:=λy hy=>by
  rw[d8.1 hy];show(HD _).length<=100;rw[OD];decide
 wit:=λy hy=>by rw[d8.1 hy];exact(by decide:0<=8)
 witi:=λy hy b hb=>by rw[d8.1 hy] at hb;cases hb
theorem w48{l:List StS}{i:Nat}(hi:l[i]!.id.length=32)(k:Nat):∀ x∈KD l i k,x.1.1.length=32:=by
 induction k with
 | zero=>intro x hx;cases hx
 | succ k ih=>
  intro x hx;rw[KD] at hx;split at hx
  ·exact ih x hx
  ·rcases Q9.1 hx with h|h
   ·exact ih x h
   ·rw[d8.1 h];exact hi
theorem w50{l:List StS}(hl:allSt l)(i:Nat)(hi:i<=l.length):∀ x∈HS l i,x.1.1.length=32:=by
 induction i with
 | zero=>intro x hx;cases hx
 | succ i ih=>
  intro x hx
  rcases Q9.1 hx with h|h
  ·exact ih (by omega) x h
  ·exact w48 (hl.get (by omega)).1 _ x h
theorem w47{l:List BlkS}(hl:allBl l):∀ x∈XF l,x.1.1.length=32:=w50 (MR hl) _ (z7 _)
theorem k07{l:List BlkS}(hl:allBl l):(XF l).length<=100000000:=by
 have h1:=SZ (MR hl) _ (z7 _);have h2:=(MR hl).1;unfold XF;omega
theorem z29(s:SpS)(av:List (Plc×UInt64)):(UR s av).length<=2:=by
 unfold UR;dsimp only;split
 ·exact(by decide:2<=2)
 ·exact(by decide:1<=2)
theorem w54{s:SpS}{av:List (Plc×UInt64)}{mark:UInt32}(h0:¬ av.length=0)(hav:∀ x∈av,x.1.1.length=32):(v14 s av mark).sm:=by
 have hk:s.from_.toNat%av.length<av.length:=R1 _ (by omega)
 have key:∀ x∈UR s av,x.tx.length=32/\x.script.length<=100/\x.wit.length<=8/\∀ b∈x.wit,b.length<=100:=by
  intro x hx;unfold UR at hx;dsimp only at hx;split at hx
  ·rename_i h2
   rcases w5.1 hx with rfl|hx
   ·exact⟨hav _ (P3 hk),g9 _,g9 _,λb hb=>by cases hb⟩
   ·rw[d8.1 hx];refine⟨hav _ (P3 h2.2),(by decide:1<=100),(by decide:2<=8),λb hb=>?_⟩
    rcases w5.1 hb with rfl|hb
    ·exact(by decide:1<=100)
    ·rw[d8.1 hb];exact g9 _
  ·rw[d8.1 hx];exact⟨hav _ (P3 hk),g9 _,g9 _,λb hb=>by cases hb⟩
 refine { ins:=u9 (z29 s av) (by decide),outs:=?_,hash:=λx hx=>(key x hx).1,scr:=λx hx=>(key x hx).2.1,oscr:=λx hx=>?_,wit:=λx hx=>(key x hx).2.2.1,witi:=λx hx=>(key x hx).2.2.2 }
 ·show(KN s (XI s av) (min s.to.length 4)).length<=8;unfold KN;rw[z9,G6];omega
 ·obtain⟨j,_,rfl⟩:=n9.1 hx;show(HD _).length<=100;rw[OD];decide
theorem w55{s:SpS}{av:List (Plc×UInt64)}{mark:UInt32}(hav:∀ x∈av,x.1.1.length=32)(h:(EA s av mark).2=true):(EA s av mark).1.sm:=by
 unfold EA at h ⊢
 cases hn:z28 s av with
 | true=>rw[hn] at h;cases h
 | false=>
  refine w54 (λh0=>?_) hav;unfold z28 at hn;rw[O4 h0] at hn;cases hn
theorem z01{txs:List TxS}{h:HdS}(hh:h.wf)(ht:∀ t∈txs,t.sm)(hl:txs.length<=1000):BlkS.wf ⟨h,txs⟩ where
 hd:=hh
 txs:=λt h=>(ht t h).wf
 sm:=λt h=>(ht t h).le
 len:=hl
theorem RS:zeroH.wf:=⟨UD,UD⟩
theorem BV{l:List BlkS}{b:BlkS}(h:allBl l)(hl:l.length<=99)(hb:b.wf):allBl (l++[b]):=
 ⟨by rw[q9,Q5];omega,λx hx=>by
  rcases Q9.1 hx with h1|h1
  ·exact h.2 x h1
  ·rw[d8.1 h1];exact hb⟩
theorem j02{l:List BlkS}(hl:allBl l)(h99:l.length<=99)(x:PlS)(mark:UInt32)(i:Nat)(hi:i<=6):(∀ t∈YY l x mark i,t.sm)/\1<=(YY l x mark i).length/\(YY l x mark i).length<=i+1:=by
 induction i with
 | zero=>exact⟨λt ht=>by rw[YY,d8] at ht;rw[ht];exact k74 _ _ _,z7 _,z7 _⟩
 | succ i ih=>
  obtain⟨h1,h2,h3⟩:=ih (by omega);have hb:=BV hl h99 (z01 RS h1 (by omega));rw[YY];split
  ·rename_i h4;refine⟨λt ht=>?_,by rw[q9];omega,by rw[q9,Q5];omega⟩
   rcases Q9.1 ht with h5|h5
   ·exact h1 t h5
   ·rw[d8.1 h5];exact w55 (w47 hb) h4
  ·exact⟨h1,h2,by omega⟩
theorem LM{l:List BlkS}(hl:allBl l)(h99:l.length<=99)(x:PlS)(mark:UInt32):(∀ t∈UQ l x mark,t.sm)/\1<=(UQ l x mark).length/\(UQ l x mark).length<=7:=by
 obtain⟨h1,h2,h3⟩:=j02 hl h99 x mark (min x.spends.length 6) (f5 _ _);exact⟨h1,h2,by show(YY l x mark _).length<=7;omega⟩
theorem EL{J:Hs->Hs->Hs}(hJ:∀ a b,(J a b).length=32){l:List Hs}(hl:allH l):(XR J l).length=32:=by
 unfold XR
 cases hk:L6 l.length with
 | zero=>exact UD
 | succ k=>exact(DX hJ hl k).get (SF J l k (by omega))
theorem LB(l:List TxS):allH (l.map DU):=λh hh=>by
 obtain⟨t,_,rfl⟩:=n9.1 hh;exact SI t
theorem w94(l:List BlkS)(x:PlS)(mark:UInt32):(v33 l x mark).1.wf:=k75 _ _ _ (EL BY (LB _))
theorem j01{l:List BlkS}(hl:allBl l)(h99:l.length<=99)(x:PlS)(mark:UInt32):(KR l x mark).1.wf:=by
 obtain⟨h1,h2,h3⟩:=LM hl h99 x mark;exact z01 (w94 l x mark) h1 (by omega)
theorem VA(ps:List PlS)(i:Nat)(hi:i<=14):allBl (ZD ps i)/\1<=(ZD ps i).length/\(ZD ps i).length<=i+1:=by
 induction i with
 | zero=>
  refine⟨⟨(by decide:1<=100),λb hb=>?_⟩,z7 _,z7 _⟩;rw[ZD,d8] at hb;rw[hb];exact z01 ⟨rfl,rfl⟩ (λt h=>by cases h) (g9 _)
 | succ i ih=>
  obtain⟨h1,h2,h3⟩:=ih (by omega);rw[ZD];split
  ·refine⟨BV h1 (by omega) (j01 h1 (by omega) _ _),by rw[q9];omega,by rw[q9,Q5];omega⟩
  ·exact⟨h1,h2,by omega⟩
theorem j58(ps:List PlS):allBl (VO ps)/\1<=(VO ps).length/\(VO ps).length<=15:=by
 obtain⟨h1,h2,h3⟩:=VA ps (min ps.length 14) (f5 _ _);exact⟨h1,h2,by show(ZD ps _).length<=15;omega⟩
section
variable{P:Program}{C:Ctx}{σ σ' σ1:Sg}{a:Act}{w w':World}{ρ:Nat->Nat}{Fe Fe' Fb:Nat->List Nat}
theorem j71{G L:Nat->Prop}{n:UInt64}{v:Value}{F:List Nat}(h:VR w ρ G L (.u64 n) v F):v=.int .u64 n.toNat:=by
 simp only[VR,D.isAgg,q7,q8] at h;cases h;rfl
theorem R.minU{x y:Operand}{t:Nat}{m n:UInt64}{ta tb rt:TypeId}{pos:String}{aft:Array Edge}{g:Option (Nat×Bool)}(hx:ev C.gl σ x=some (.u64 m))(hy:ev C.gl σ y=some (.u64 n))(ht:t<σ.n) :
 OpS P C ⟨some t,.call { callee:=.builtin .min,args:=#[x,y],argTypes:=#[ta,tb] },rt,pos,aft,g⟩ σ (σ.set t (.u64 (if n<m then n else m))):=by
 refine OpS.value λa w ⟨ρ,Fe,Fb,st⟩=>?_;obtain⟨_,hvx,_⟩:=H5 st hx rfl;obtain⟨_,hvy,_⟩:=H5 st hy rfl;have hvx:=j71 hvx;have hvy:=j71 hvy;refine⟨.int .u64 (if n<m then n else m).toNat,w, ?_,st.put ht rfl (by simp only[VR,D.isAgg,q7,q8];exact .u64 _)⟩;unfold execOp;simp[hvx,hvy,resolve,invoke,builtin,Builtin.min_,Builtin.min2];by_cases h:n<m
 ·rw[u4 h,u4 (J5.1 h)]
 ·rw[w3 h,w3 (λh3=>h (J5.2 h3))]
theorem StW.takeX{S:List Nat}{t:Nat}{d:D}{v:Value}{F:List Nat}(h:StW C σ a w ρ Fe Fb)(ht:t<σ.n)(hst:t∉S)(hS:∀ s∈S,∃ d0,σ.get s=some d0)
 (hw:Ext w w') (hF:F.Nodup) (hFs:∀ b∈F,(∃ s∈S,b∈Fe s)∨w.heap.size<=b)
 (hv:SR w' ρ (gd C (upd (λu=>if u∈S then[] else Fe u) t F) Fb) (λid=>(σ.box id).isSome) (a.put (some t) v) t d F) :
 StW C ((S3 σ S).set t d) (a.put (some t) v) w' ρ (upd (λu=>if u∈S then[] else Fe u) t F) Fb:=by
 have hsz:t<a.tmps.size:=by rw[h.size];exact ht
 let Fx:Nat->List Nat:=upd (λu=>if u∈S then[] else Fe u) t F
 have hFx:∀ u,u≠t->∀ b∈Fx u,b∈Fe u/\u∉S:=λu hut b hb=>by
  simp only[Fx,j2 hut] at hb;by_cases hus:u∈S
  ·simp[hus] at hb
  ·simp only[hus,q8] at hb;exact⟨hb,hus⟩
 have hFt:Fx t=F:=by simp[Fx]
 have hlt:=h.lt;have hh:∀ b,b<w.heap.size->w'.heap[b]? = w.heap[b]?:=hw.block
 have ho:∀ b,own Fx Fb b->own Fe Fb b∨w.heap.size<=b:=by
  rintro b (⟨u,hu⟩|hid)
  ·by_cases hut:u=t
   ·subst hut;rw[hFt] at hu
    rcases hFs b hu with ⟨s,_,hs⟩|hn
    ·exact .inl (.inl ⟨s,hs⟩)
    ·exact .inr hn
   ·exact .inl (.inl ⟨u,(hFx u hut b hu).1⟩)
  ·exact .inl (.inr hid)
 have hg:∀ b,gd C Fe Fb b->b<w.heap.size->gd C Fx Fb b:=λb hb hbl=>⟨hb.1,λhc=>(ho b hc).elim hb.2 (λh2=>by omega)⟩
 obtain⟨hn,hbx⟩:=MB S σ
 have hbox:∀ id,((S3 σ S).set t d).box id=σ.box id:=λid=>by
  show lk (S3 σ S).bx id=_;rw[hbx];rfl
 have hLf:(λid=>(((S3 σ S).set t d).box id).isSome=true)=λid=>(σ.box id).isSome=true:=by funext id;rw[hbox]
 have hnotF:∀ u,u≠t->∀ b∈Fx u,b∉F:=λu hut b hb hbF=>by
  obtain⟨h1,h2⟩:=hFx u hut b hb
  rcases hFs b hbF with ⟨s,hs,h3⟩|hn
  ·exact h.dEE u s (λe=>h2 (e▸hs)) b h1 h3
  ·have:=hlt b (.inl ⟨u,h1⟩);omega
 refine {
  size:=?_
  defs:=h.defs
  pin:=λid b hp=>by rw[hbox];exact h.pin id b hp
  env:=λu x hx=>?_
  envN:=λu hu=>?_
  bx:=λid x hx=>by rw[hLf];exact(h.bx id x (by rw[<- hbox];exact hx)).mono (λb _ hb=>hh b hb) hg (λi hi=>⟨hi,rfl⟩)
  bxN:=λid hx=>h.bxN id (by rw[<- hbox];exact hx)
  nodE:=λu=>?_
  nodB:=h.nodB
  dEE:=λu u' huu b hb hb'=>?_
  dEB:=λu id b hb hb'=>?_
  dBB:=h.dBB
  new:=λb hb=>?_
  kept:=λb hb=>?_
  os:=hw.os.trans h.os
  tape:=hw.tape.trans h.tape
  output:=hw.output.trans h.output
  grown:=u9 h.grown hw.size
  gl:=h.gl
  okN:=λb hb=>h.okN b (u9 hw.size hb)
  okO:=λb hb=>(ho b hb).elim (h.okO b) (h.okN b) }
 ·simp[Act.put,h.size,hn]
 ·rw[hLf];rw[P8] at hx;by_cases hut:u=t
  ·subst hut;simp at hx;subst hx;simp only[c7];exact hv
  ·simp only[hut,q8] at hx;obtain⟨d1,hd1,rfl⟩:=p9.1 hx;rw[ZF] at hd1;by_cases hus:u∈S
   ·simp only[hus,j9,z6] at hd1;subst hd1;obtain⟨d0,hd0⟩:=hS u hus;obtain⟨v0,hv0⟩:=(h.env u d0 hd0).there;refine⟨by simp[j2 hut,hus],v0,by rw[Y0 a t v u hsz];simp[hut,hv0]⟩
   ·simp only[hus,q8] at hd1
    have hFu:upd (λu=>if u∈S then[] else Fe u) t F u=Fe u:=by simp[j2 hut,hus]
    rw[hFu];exact XQ hut hsz (h.env u d1 hd1) (λb _ hb=>hh b hb) hg (λid hid=>⟨hid,rfl⟩) (λid off v _ hc=>hw.cell hc)
 ·rw[P8] at hu;by_cases hut:u=t
  ·simp[hut] at hu
  ·simp only[hut,q8,n3] at hu;rw[ZF] at hu;by_cases hus:u∈S
   ·simp[hus] at hu
   ·simp only[hus,q8] at hu;simp[j2 hut,hus,h.envN u hu]
 ·by_cases hut:u=t
  ·subst hut;simpa using hF
  ·simp only[j2 hut];split
   ·exact w9
   ·exact h.nodE u
 ·by_cases hut:u=t
  ·subst hut
   have hb1:b∈F:=by rw[<- hFt];exact hb
   exact hnotF u' (λe=>huu e.symm) b hb' hb1
  ·by_cases hut':u'=t
   ·subst hut'
    have hb1:b∈F:=by rw[<- hFt];exact hb'
    exact hnotF u hut b hb hb1
   ·exact h.dEE u u' huu b (hFx u hut b hb).1 (hFx u' hut' b hb').1
 ·by_cases hut:u=t
  ·subst hut
   have hb1:b∈F:=by rw[<- hFt];exact hb
   rcases hFs b hb1 with ⟨s,_,hs⟩|hn
   ·exact h.dEB s id b hs hb'
   ·have:=hlt b (.inr ⟨id,hb'⟩);omega
  ·exact h.dEB u id b (hFx u hut b hb).1 hb'
 ·rcases ho b hb with h1|h1
  ·exact h.new b h1
  ·intro hk;have h2:=(h.kept b hk).2;have h3:=h.grown;omega
 ·obtain⟨h1,h2⟩:=h.kept b hb;exact⟨(hh b (u0 h2 h.grown)).trans h1,h2⟩
theorem z64{z i0:Nat}{cs:Array Value}{v:Value}{xc:List Value}(hxc:v.cells.toList=xc)(hl:xc.length=z)(hk:i0*z+z<=cs.size) :
 ∃ cs2:Array Value,(∀ rest,Instr.fill (λi=>some (i*z,z)) cs ((i0,v)::rest)=Instr.fill (λi=>some (i*z,z)) cs2 rest)/\cs2.size=cs.size/\(cs2.toList.drop (i0*z)).take z=xc/\cs2.toList.take (i0*z)=cs.toList.take (i0*z):=by
 have hsz:v.cells.size=z:=by rw[<- p6,hxc,hl]
 have hfold:=JG cs xc (i0*z) 0 (by omega);simp only[J8] at hfold
 have hcs2:(v.cells.zipIdx.foldl (λ(c:Array Value) (p:Value×Nat)=>c.setIfInBounds (i0*z+p.2) p.1) cs).toList=cs.toList.take (i0*z)++xc++cs.toList.drop (i0*z+xc.length):=by
  rw[<- hfold,<- hxc,<- B7];simp
 generalize hc2:(v.cells.zipIdx.foldl (λ(c:Array Value) (p:Value×Nat)=>c.setIfInBounds (i0*z+p.2) p.1) cs)=cs2 at hcs2;refine⟨cs2,λrest=>?_, ?_, ?_, ?_⟩
 ·simp only[Instr.fill]
  have hcond:¬ (v.cells.size≠z∨i0*z+v.cells.size>cs.size):=by rw[hsz];simp;omega
  simp only[ne_eq,Y2,Z5];rw[w3 (by simpa using hcond)];rw[hc2]
 ·have:=g8 List.length hcs2;rw[T1 _ _ _ (by simp;omega)] at this;simpa using this
 ·rw[hcs2,u5,P2 (by simp;omega),G5 (by omega),m4 (by omega)]
 ·rw[hcs2,u5,List.take_left' (by simp;omega)]
inductive EvL(gl:List (Nat×D))(σ:Sg)(z:Nat):Nat->List (Nat×Operand)->List D->List Nat->Prop
 | nil {k:Nat}:EvL gl σ z k [] [] []
 | pur {k:Nat} {x:Operand} {d:D} {ps:List (Nat×Operand)} {ds:List D} {S:List Nat} (h:ev gl σ x=some d) (hp:d.pur=true) (hn:d.np=true) (hz:d.sz=z) (t:EvL gl σ z (k+1) ps ds S):EvL gl σ z k ((k,x)::ps) (d::ds) S
 | own {k s:Nat} {d:D} {ps:List (Nat×Operand)} {ds:List D} {S:List Nat} (h:σ.get s=some d) (hr:d.isRef=false) (hn:d.np=true) (hz:d.sz=z) (hs:S.contains s=false) (t:EvL gl σ z (k+1) ps ds S):EvL gl σ z k ((k,.tmp s)::ps) (d::ds) (s::S)
theorem EvL.there{gl:List (Nat×D)}{z k:Nat}{ps:List (Nat×Operand)}{ds:List D}{S:List Nat}(h:EvL gl σ z k ps ds S):∀ s∈S,∃ d0,σ.get s=some d0:=by
 induction h with
 | nil=>intro s hs;cases hs
 | pur _ _ _ _ _ ih=>exact ih
 | own h _ _ _ _ _ ih=>
  intro s hs
  rcases w5.1 hs with rfl|hs
  ·exact⟨_,h⟩
  ·exact ih s hs
theorem EvL.fill(st:StW C σ a w ρ Fe Fb){z k:Nat}{ps:List (Nat×Operand)}{ds:List D}{S:List Nat}(h:EvL C.gl σ z k ps ds S) :
 ∀ cs:Array Value,(k+ds.length)*z<=cs.size ->
  ∃ (out:Array Value) (Fs:Nat->List Nat),Instr.fill (λi=>some (i*z,z)) cs (ps.map (λp=>(p.1,a.eval p.2)))=some out/\out.size=cs.size/\out.toList.take (k*z)=cs.toList.take (k*z) /\
   (∀ i (h:i<ds.length),Rc w ρ (gd C Fe Fb) (λid=>(σ.box id).isSome=true) false ds[i] ((out.toList.drop ((k+i)*z)).take z) (Fs i)) /\
   (∀ i,i<ds.length->(Fs i).Nodup/\∀ b∈Fs i,∃ s∈S,b∈Fe s)/\(∀ i j,i<ds.length->j<ds.length->i≠j->∀ b,b∈Fs i->b∉Fs j):=by
 have step:∀ {k:Nat} {x:Operand} {d:D} {ps:List (Nat×Operand)} {ds:List D} {S:List Nat} {xc:List Value} {Fx:List Nat},(a.eval x).cells.toList=xc->Rc w ρ (gd C Fe Fb) (λid=>(σ.box id).isSome=true) false d xc Fx->d.sz=z->Fx.Nodup->∀ (T:List Nat),(∀ b∈Fx,∃ s∈T,b∈Fe s)->(∀ s∈S,s∈T)->(∀ b∈Fx,∀ s∈S,b∉Fe s) ->
  (∀ cs:Array Value,(k+1+ds.length)*z<=cs.size->∃ (out:Array Value) (Fs:Nat->List Nat),Instr.fill (λi=>some (i*z,z)) cs (ps.map (λp=>(p.1,a.eval p.2)))=some out/\out.size=cs.size/\out.toList.take ((k+1)*z)=cs.toList.take ((k+1)*z) /\
   (∀ i (h:i<ds.length),Rc w ρ (gd C Fe Fb) (λid=>(σ.box id).isSome=true) false ds[i] ((out.toList.drop ((k+1+i)*z)).take z) (Fs i)) /\
   (∀ i,i<ds.length->(Fs i).Nodup/\∀ b∈Fs i,∃ s∈S,b∈Fe s)/\(∀ i j,i<ds.length->j<ds.length->i≠j->∀ b,b∈Fs i->b∉Fs j)) ->
  ∀ cs:Array Value,(k+(d::ds).length)*z<=cs.size->∃ (out:Array Value) (Fs:Nat->List Nat),Instr.fill (λi=>some (i*z,z)) cs (((k,x)::ps).map (λp=>(p.1,a.eval p.2)))=some out/\out.size=cs.size/\out.toList.take (k*z)=cs.toList.take (k*z) /\
   (∀ i (h:i<(d::ds).length),Rc w ρ (gd C Fe Fb) (λid=>(σ.box id).isSome=true) false (d::ds)[i] ((out.toList.drop ((k+i)*z)).take z) (Fs i)) /\
   (∀ i,i<(d::ds).length->(Fs i).Nodup/\∀ b∈Fs i,∃ s∈T,b∈Fe s)/\(∀ i j,i<(d::ds).length->j<(d::ds).length->i≠j->∀ b,b∈Fs i->b∉Fs j):=by
  intro k x d ps ds S xc Fx hxc hrc hz hnd T hFx hST hdis ih cs hs
  have hs1:(k+1+ds.length)*z<=cs.size:=by
   rw[j3] at hs;rw[show k+1+ds.length=k+(ds.length+1) by omega];exact hs
  have hkz:k*z+z<=cs.size:=by
   have:=u9 (w6 z (show k+1<=k+1+ds.length by omega)) hs1;rw[v7,l9] at this;exact this
  obtain⟨cs2,e1,e2,e3,e4⟩:=z64 (i0:=k) hxc (hrc.len.trans hz) hkz;obtain⟨out,Fs,q1,q2,q3,q4,q5,q6⟩:=ih cs2 (by rw[e2];exact hs1)
  have hz1:(k+1)*z=k*z+z:=by rw[v7,l9]
  have hmid:(out.toList.drop (k*z)).take z=xc:=by
   have:=g8 (List.drop (k*z)) q3;rw[hz1,L9,L9,Nat.add_sub_cancel_left] at this;rw[this];exact e3
  have hpre:out.toList.take (k*z)=cs.toList.take (k*z):=by
   have:=g8 (List.take (k*z)) q3;rw[hz1,X6,X6,n6 (by omega)] at this;rw[this];exact e4
  refine⟨out,λi=>match i with|0=>Fx|i+1=>Fs i, ?_,q2.trans e2,hpre, ?_, ?_, ?_⟩
  ·rw[b9,e1];exact q1
  ·intro i hi
   cases i with
   | zero=>simp only[J8,Z2,hmid];exact hrc
   | succ i=>
    simp only[J6];have:=q4 i (by simpa using hi);rw[show k+1+i=k+(i+1) by omega] at this;exact this
  ·intro i hi
   cases i with
   | zero=>exact⟨hnd,hFx⟩
   | succ i=>
    obtain⟨h1,h2⟩:=q5 i (by simpa using hi);exact⟨h1,λb hb=>by obtain⟨s,hs,hb'⟩:=h2 b hb;exact⟨s,hST s hs,hb'⟩⟩
  ·intro i j hi hj hij b hb
   cases i with
   | zero=>cases j with
    | zero=>exact absurd rfl hij
    | succ j=>
     intro hb';obtain⟨s,hs,h3⟩:=(q5 j (by simpa using hj)).2 b hb';exact hdis b hb s hs h3
   | succ i=>cases j with
    | zero=>
     intro hb';obtain⟨s,hs,h3⟩:=(q5 i (by simpa using hi)).2 b hb;exact hdis b hb' s hs h3
    | succ j=>exact q6 i j (by simpa using hi) (by simpa using hj) (by omega) b hb
 induction h with
 | nil=>intro cs _;exact⟨cs,λ_=>[],rfl,rfl,rfl,λi hi=>by simp at hi,λi hi=>by simp at hi,λi j hi=>by simp at hi⟩
 | @pur k x d ps ds S h hp hn hz t ih=>
  obtain⟨xc,hxc,hrc⟩:=KC st h hp;exact step hxc (hrc.unflag hn) hz w9 S (by simp) (λs hs=>hs) (by simp) ih
 | @own k s d ps ds S h hr hn hz hs t ih=>
  obtain⟨v,hv,hvr⟩:=(c5 hr).1 (st.env _ _ h)
  have hdead:d≠.dead:=by rintro rfl;simp[D.isRef] at hr
  have hrc:=(hvr.cells hdead).unflag hn
  have hs':s∉S:=by intro hm;rw[U5.2 hm] at hs;cases hs
  exact step (x:=.tmp s) (by rw[Q3 hv]) hrc hz (st.nodE s) (s::S) (λb hb=>⟨s,by simp,hb⟩) (λs' h'=>j1 _ h') (λb hb s' h'=>st.dEE s s' (λe=>hs' (e▸h')) b hb) ih
theorem R.bslO{t e z bytes k:Nat}{ps:List (Nat×Operand)}{ds:List D}{S:List Nat}{ty rt:TypeId}{pos:String}{aft:Array Edge}{g:Option (Nat×Bool)}[hT:SlT P ty e][hE:ElT P e z bytes]
 (hps:EvL C.gl σ z 0 ps ds S) (hk:ds.length=k) (hS:S.contains t=false) (ht:t<σ.n) (hsm:k*z<=16777216) :
 OpS P C ⟨some t,.buildSlice ty k ps.toArray,rt,pos,aft,g⟩ σ ((S3 σ S).set t (.sl (some e) z ds)):=by
 refine OpS.value λa w ⟨ρ,Fe,Fb,st⟩=>?_;obtain⟨i,zv,hi,hsz,hby,hz,hzs,hpos,hone⟩:=hE.i;subst hk
 have htS:t∉S:=by intro hm;rw[U5.2 hm] at hS;cases hS
 obtain⟨out,Fs,q1,q2,_,q4,q5,q6⟩:=hps.fill st ((Array.range (ds.length*z)).map (zv.cells[·%zv.cells.size]!)) (by simp);simp only[c9] at q4
 have hml:ds.length<=maxLen:=by
  have:ds.length*1<=ds.length*z:=Nat.mul_le_mul_left _ hpos;simp only[maxLen];omega
 have hos:out.size=ds.length*z:=by rw[q2];simp
 let F:List Nat:=w.heap.size::(List.range ds.length).flatMap Fs
 have hin:∀ b∈(List.range ds.length).flatMap Fs,∃ s∈S,b∈Fe s:=λb hb=>by
  obtain⟨j,hj,hx⟩:=w8.1 hb;exact(q5 j (j7.1 hj)).2 b hx
 have hlt:=st.lt
 have hF:F.Nodup:=by
  refine v3.2 ⟨λhm=>?_,N7 (λj hj=>(q5 j hj).1) (λi j hi hj hij=>q6 i j hi hj hij)⟩;obtain⟨s,_,h2⟩:=hin _ hm;have:=hlt _ (.inl ⟨s,h2⟩);omega
 have hFs:∀ b∈F,(∃ s∈S,b∈Fe s)∨w.heap.size<=b:=λb hb=>by
  rcases w5.1 hb with rfl|hb
  ·exact .inr (z7 _)
  ·exact .inl (hin b hb)
 have hgd:∀ b,gd C Fe Fb b->b<w.heap.size->gd C (upd (λu=>if u∈S then[] else Fe u) t F) Fb b:=λb hb hbl=>⟨hb.1,λhc=>hb.2 (by
  rcases hc with ⟨u,hu⟩|hid
  ·by_cases hut:u=t
   ·subst hut;rw[c7] at hu
    rcases hFs b hu with ⟨s,_,hs⟩|hn
    ·exact .inl ⟨s,hs⟩
    ·omega
   ·rw[j2 hut] at hu;by_cases hus:u∈S
    ·simp[hus] at hu
    ·simp only[hus,q8] at hu;exact .inl ⟨u,hu⟩
  ·exact .inr hid)⟩
 refine⟨.slice (some ⟨w.heap.size,0,none⟩) ds.length ds.length,w.alloc (.cells out e), ?_,ρ,_,Fb,st.takeX ht htS hps.there (Ext.alloc w _) hF hFs ((c5 rfl).2 ⟨.slice (some ⟨w.heap.size,0,none⟩) ds.length ds.length,by rw[Y0 a t _ t (by rw[st.size];exact ht)];simp, ?_⟩)⟩
 ·unfold execOp
  have hps2:(ps.toArray.map λx=>(x.1,a.eval x.2)).toList=ps.map (λp=>(p.1,a.eval p.2)):=by simp
  by_cases h0:ds.length*z=0
  ·have q1':=q1;simp only[h0] at q1'
   have e0:(Array.range 0).map (λx=>zv.cells[x%zv.cells.size]!)=(#[]:Array Value):=by simp[Array.range_zero']
   rw[e0] at q1';have e1:Array.range 0=#[]:=rfl;simp[Instr.buildSlice,run_underlying hT.u,ElT.size (P:=P) (e:=e),h0,hps2,e1,q1',newRow,newObj,Sem.run]
  ·simp[Instr.buildSlice,run_underlying hT.u,ElT.size (P:=P) (e:=e),h0,hps2,q1,newRow,newObj,Sem.run,zeroValue,typeInfo,hi,hz,show ¬ (16777216<ds.length*z) by omega]
 ·simp only[VR,D.isAgg,q7,q8]
  have hcell:∀ u∈out.toList,u.oneCell'=true:=by
   intro u hu;obtain⟨j,hj,rfl⟩:=Q2.1 hu
   have hj1:j<ds.length*z:=by simpa [hos] using hj
   have hjz:j/z<ds.length:=S7 (by rw[L4];exact hj1);have hdm:=Nat.div_add_mod j z;have hmod:=R1 j hpos;rw[L4] at hdm;refine(q4 (j/z) hjz).one _ (List.mem_iff_getElem?.2 ⟨j%z, ?_⟩);rw[d9,u4 hmod,n4,hdm,j8 hj]
  exact .slO w.heap.size out e ds.length z ds Fs (heap_alloc_new w _) (z7 _) hml hos hcell (λi hi=>(q4 i hi).mono (λb hb hbl=>heap_alloc_old w _ hbl) hgd (λid hid=>⟨hid,rfl⟩))
end
section
variable{pos:String}{aft:Array Edge}{g:Option (Nat×Bool)}
variable{P:Program}{C:Ctx}{σ σ' σ1:Sg}{a:Act}{w w':World}{ρ:Nat->Nat}{Fe Fe' Fb:Nat->List Nat}
theorem StW.takeY{S:List Nat}{t:Nat}{d:D}{v:Value}{F:List Nat}(h:StW C σ a w ρ Fe Fb)(ht:t<σ.n)(hst:t∉S)(hS:∀ s∈S,∃ d0,σ.get s=some d0)
 (hos:w'.os=w.os) (htape:TpR w' w) (hout:w'.output=w.output) (hsize:w.heap.size<=w'.heap.size)
 (hblk:∀ b,b<w.heap.size->(∀ s∈S,b∉Fe s)->w'.heap[b]? = w.heap[b]?) (hF:F.Nodup) (hFs:∀ b∈F,(∃ s∈S,b∈Fe s)∨w.heap.size<=b)
 (hv:SR w' ρ (gd C (upd (λu=>if u∈S then[] else Fe u) t F) Fb) (λid=>(σ.box id).isSome) (a.put (some t) v) t d F) :
 StW C ((S3 σ S).set t d) (a.put (some t) v) w' ρ (upd (λu=>if u∈S then[] else Fe u) t F) Fb:=by
 have hsz:t<a.tmps.size:=by rw[h.size];exact ht
 let Fx:Nat->List Nat:=upd (λu=>if u∈S then[] else Fe u) t F
 have hFx:∀ u,u≠t->∀ b∈Fx u,b∈Fe u/\u∉S:=λu hut b hb=>by
  simp only[Fx,j2 hut] at hb;by_cases hus:u∈S
  ·simp[hus] at hb
  ·simp only[hus,q8] at hb;exact⟨hb,hus⟩
 have hFt:Fx t=F:=by simp[Fx]
 have hlt:=h.lt;have hh:∀ b,gd C Fe Fb b->b<w.heap.size->w'.heap[b]? = w.heap[b]?:=λb hb hl=>hblk b hl (λs _ hm=>hb.2 (.inl ⟨s,hm⟩))
 have hcc:∀ id off v,(σ.box id).isSome=true->w.cell? ⟨ρ id,off,none⟩=some v->w'.cell? ⟨ρ id,off,none⟩=some v:=by
  intro id off v hid hc;have hl:=block_lt_of_cell hc;rw[<- hc];refine World.cell?_of_block (hblk _ hl ?_);intro s _ hm
  cases hb:σ.box id with
  | none=>simp[hb] at hid
  | some x=>exact h.dEB s id _ hm (h.bx id x hb).mem
 have ho:∀ b,own Fx Fb b->own Fe Fb b∨w.heap.size<=b:=by
  rintro b (⟨u,hu⟩|hid)
  ·by_cases hut:u=t
   ·subst hut;rw[hFt] at hu
    rcases hFs b hu with ⟨s,_,hs⟩|hn
    ·exact .inl (.inl ⟨s,hs⟩)
    ·exact .inr hn
   ·exact .inl (.inl ⟨u,(hFx u hut b hu).1⟩)
  ·exact .inl (.inr hid)
 have hg:∀ b,gd C Fe Fb b->b<w.heap.size->gd C Fx Fb b:=λb hb hbl=>⟨hb.1,λhc=>(ho b hc).elim hb.2 (λh2=>by omega)⟩
 obtain⟨hn,hbx⟩:=MB S σ
 have hbox:∀ id,((S3 σ S).set t d).box id=σ.box id:=λid=>by
  show lk (S3 σ S).bx id=_;rw[hbx];rfl
 have hLf:(λid=>(((S3 σ S).set t d).box id).isSome=true)=λid=>(σ.box id).isSome=true:=by funext id;rw[hbox]
 have hnotF:∀ u,u≠t->∀ b∈Fx u,b∉F:=λu hut b hb hbF=>by
  obtain⟨h1,h2⟩:=hFx u hut b hb
  rcases hFs b hbF with ⟨s,hs,h3⟩|hn
  ·exact h.dEE u s (λe=>h2 (e▸hs)) b h1 h3
  ·have:=hlt b (.inl ⟨u,h1⟩);omega
 refine {
  size:=?_
  defs:=h.defs
  pin:=λid b hp=>by rw[hbox];exact h.pin id b hp
  env:=λu x hx=>?_
  envN:=λu hu=>?_
  bx:=λid x hx=>by rw[hLf];exact(h.bx id x (by rw[<- hbox];exact hx)).mono (λb hb hl=>hb.elim (λhb=>hh b hb hl) (λhb=>hblk b hl (λs _ hm=>h.dEB s id b hm hb))) hg (λi hi=>⟨hi,rfl⟩)
  bxN:=λid hx=>h.bxN id (by rw[<- hbox];exact hx)
  nodE:=λu=>?_
  nodB:=h.nodB
  dEE:=λu u' huu b hb hb'=>?_
  dEB:=λu id b hb hb'=>?_
  dBB:=h.dBB
  new:=λb hb=>?_
  kept:=λb hb=>?_
  os:=hos.trans h.os
  tape:=htape.trans h.tape
  output:=hout.trans h.output
  grown:=u9 h.grown hsize
  gl:=h.gl
  okN:=λb hb=>h.okN b (u9 hsize hb)
  okO:=λb hb=>(ho b hb).elim (h.okO b) (h.okN b) }
 ·simp[Act.put,h.size,hn]
 ·rw[hLf];rw[P8] at hx;by_cases hut:u=t
  ·subst hut;simp at hx;subst hx;simp only[c7];exact hv
  ·simp only[hut,q8] at hx;obtain⟨d1,hd1,rfl⟩:=p9.1 hx;rw[ZF] at hd1;by_cases hus:u∈S
   ·simp only[hus,j9,z6] at hd1;subst hd1;obtain⟨d0,hd0⟩:=hS u hus;obtain⟨v0,hv0⟩:=(h.env u d0 hd0).there;refine⟨by simp[j2 hut,hus],v0,by rw[Y0 a t v u hsz];simp[hut,hv0]⟩
   ·simp only[hus,q8] at hd1
    have hFu:upd (λu=>if u∈S then[] else Fe u) t F u=Fe u:=by simp[j2 hut,hus]
    rw[hFu];exact XQ hut hsz (h.env u d1 hd1) (λb hb hl=>hb.elim (λhb=>hh b hb hl) (λhb=>hblk b hl (λs hs hm=>h.dEE u s (λe=>hus (e▸hs)) b hb hm))) hg (λid hid=>⟨hid,rfl⟩) hcc
 ·rw[P8] at hu;by_cases hut:u=t
  ·simp[hut] at hu
  ·simp only[hut,q8,n3] at hu;rw[ZF] at hu;by_cases hus:u∈S
   ·simp[hus] at hu
   ·simp only[hus,q8] at hu;simp[j2 hut,hus,h.envN u hu]
 ·by_cases hut:u=t
  ·subst hut;simpa using hF
  ·simp only[j2 hut];split
   ·exact w9
   ·exact h.nodE u
 ·by_cases hut:u=t
  ·subst hut
   have hb1:b∈F:=by rw[<- hFt];exact hb
   exact hnotF u' (λe=>huu e.symm) b hb' hb1
  ·by_cases hut':u'=t
   ·subst hut'
    have hb1:b∈F:=by rw[<- hFt];exact hb'
    exact hnotF u hut b hb hb1
   ·exact h.dEE u u' huu b (hFx u hut b hb).1 (hFx u' hut' b hb').1
 ·by_cases hut:u=t
  ·subst hut
   have hb1:b∈F:=by rw[<- hFt];exact hb
   rcases hFs b hb1 with ⟨s,_,hs⟩|hn
   ·exact h.dEB s id b hs hb'
   ·have:=hlt b (.inr ⟨id,hb'⟩);omega
  ·exact h.dEB u id b (hFx u hut b hb).1 hb'
 ·rcases ho b hb with h1|h1
  ·exact h.new b h1
  ·intro hk;have h2:=(h.kept b hk).2;have h3:=h.grown;omega
 ·obtain⟨h1,h2⟩:=h.kept b hb;exact⟨(hblk b (u0 h2 h.grown) (λs _ hm=>h.new b (.inl ⟨s,hm⟩) hb)).trans h1,h2⟩
theorem x22{G L:Nat->Prop}{e z:Nat}{l:List D}{v:Value}{F:List Nat}(h:Rc w ρ G L true (.sl (some e) z l) [v] F)(hF:F.Nodup) :
 ∃ (base:Option Addr) (cap:Nat) (news:List Value) (Fs2:Nat->List Nat),v=.slice base l.length cap/\((base=none/\l=[]/\cap=0)∨∃ a,base=some a/\∀ j u,news[j]? = some u->w.cell? (a.add j)=some u)/\news.length=l.length*z/\(∀ u∈news,u.oneCell'=true) /\
  (∀ j (h:j<l.length),Rc w ρ G L false l[j] ((news.drop (j*z)).take z) (Fs2 j))/\((List.range l.length).flatMap Fs2).Nodup/\∀ b∈(List.range l.length).flatMap Fs2,b∈F:=by
 generalize hv:[v]=cv at h
 cases h with
 | slN=>cases hv;exact⟨none,0,[],λ_=>[],rfl,.inl ⟨rfl,rfl,rfl⟩,by simp,by simp,λj hj=>by simp at hj,by simp,by simp⟩
 | slE _ _ a=>cases hv;exact⟨some a,0,[],λ_=>[],rfl,.inr ⟨a,rfl,by simp⟩,by simp,by simp,λj hj=>by simp at hj,by simp,by simp⟩
 | slO b cs e cap z l Fs hb hc hm hs ho hr=>
  cases hv
  have hsz:l.length*z<=cs.size:=by rw[hs];exact w6 z hc
  have hl:(cs.toList.take (l.length*z)).length=l.length*z:=by simp;omega
  refine⟨some ⟨b,0,none⟩,cap,cs.toList.take (l.length*z),Fs,rfl,.inr ⟨_,rfl,λj u hu=>?_⟩,hl,λu hu=>ho u (Q0 hu),λj hj=>?_,(v3.1 hF).2,λb' hb'=>j1 _ hb'⟩
  ·rw[R6,cell_of_row w b _ cs e _ hb];rw[d9] at hu;split at hu
   ·simpa using hu
   ·cases hu
  ·have h1:j*z+z<=l.length*z:=by
    have:=w6 z (show j+1<=l.length by omega);rw[v7] at this;omega
   have h2:((cs.toList.take (l.length*z)).drop (j*z)).take z=(cs.toList.drop (j*z)).take z:=by
    rw[L9,X6,n6 (by omega)]
   rw[h2];exact hr j hj
theorem R.appO2{s s0 s1 t e e1 z bytes:Nat}{l l' l2:List D}{ty rt:TypeId}[hT:SlT P ty e][hE:ElT P e z bytes]
 (ho:ownr σ s s0) (hs:σ.get s0=some (.sl (some e) z l)) (hs1:σ.get s1=some (.sl (some e1) z l')) (hne:Nat.beq s0 s1=false) (he:l++l'=l2) (hn:l.length+l'.length<=1073741824) (ht:t<σ.n) (hst:[s0,s1].contains t=false) (hby:bytes<=131072) :
 OpS P C ⟨some t,.call { callee:=.builtin .append,args:=#[.tmp s,.tmp s1],argTypes:=#[ty,ty] },rt,pos,aft,g⟩ σ ((S3 σ [s0,s1]).set t (.sl (some e) z l2)):=by
 subst he
 have hne':s0≠s1:=λe=>by rw[e] at hne;simp at hne
 have htS:t∉[s0,s1]:=by intro hm;rw[U5.2 hm] at hst;cases hst
 refine OpS.value λa w ⟨ρ,Fe,Fb,st⟩=>?_;obtain⟨v,hv,hv0,hr⟩:=YF st ho hs;obtain⟨v1,hv1,_,hr1⟩:=YF st (.inl rfl) hs1;obtain⟨base,cap,news,Fs2,rfl,q1,q2,q3,q4,q5,q6⟩:=x22 hr1 (st.nodE s1);obtain⟨f1,f2⟩:=fits hby hn;obtain⟨v',w',F',hrun,ht',hnd,hsub,hres⟩:=z07 (P:=P) (t:=ty) (e:=e) (bytes:=bytes) (ty:=rt) (Fs2:=Fs2) hr (.inr rfl) (st.nodE s0) q1 q2 q3 q4 q5 (λb hb hb'=>st.dEE s1 s0 (λe=>hne' e.symm) b (q6 b hb) hb') (λb hb hm=>hb.2 (.inl ⟨s0,hm⟩)) f1 f2
 have hFs:∀ b∈F',(∃ s∈[s0,s1],b∈Fe s)∨w.heap.size<=b:=λb hb=>by
  rcases hsub b hb with h|h|h
  ·exact .inl ⟨s0,by simp,h⟩
  ·exact .inl ⟨s1,by simp,q6 b h⟩
  ·exact .inr h
 have hthere:∀ u∈[s0,s1],∃ d0,σ.get u=some d0:=λu hu=>by
  rcases w5.1 hu with rfl|hu
  ·exact⟨_,hs⟩
  ·rw[d8.1 hu];exact⟨_,hs1⟩
 refine⟨v',w', ?_,ρ,_,Fb,st.takeY ht htS hthere ht'.os ht'.tape ht'.output ht'.size (λb hb hnb=>ht'.blk b hb (hnb s0 (by simp))) hnd hFs ((c5 rfl).2 ⟨v',by rw[Y0 a t _ t (by rw[st.size];exact ht)];simp, ?_⟩)⟩
 ·unfold execOp;simp[resolve,invoke,builtin,Q3 hv,Q3 hv1,hrun]
 ·simp only[VR,D.isAgg,q7,q8];refine hres _ (λb hb hl=>⟨hb.1,λhc=>?_⟩)
  rcases hc with ⟨u,hu⟩|hid
  ·by_cases hut:u=t
   ·subst hut;rw[c7] at hu
    rcases hFs b hu with ⟨s',_,h⟩|h
    ·exact hb.2 (.inl ⟨s',h⟩)
    ·omega
   ·rw[j2 hut] at hu;by_cases hus:u∈[s0,s1]
    ·simp only[hus,j9] at hu;cases hu
    ·simp only[hus,q8] at hu;exact hb.2 (.inl ⟨u,hu⟩)
  ·exact hb.2 (.inr hid)
theorem AU{s s1 id off t e e1 z bytes:Nat}{path:List Nat}{d0 d0':D}{l l' l2:List D}{ty rt:TypeId}[hT:SlT P ty e][hE:ElT P e z bytes]
 (h:σ.get s=some (.alb id off path)) (hb:σ.box id=some (.var d0)) (hl:d0.loc path=some (off,.sl (some e) z l)) (hna:d0.noArr path=true) (hu:d0.upd path .dead=some d0')
 {τ:Sg} (hτ:(σ.putB id (.var d0')).upd s (.sl (some e) z l)=τ) (hs:τ.get s=some (.sl (some e) z l)) (hs1:τ.get s1=some (.sl (some e1) z l')) (hne:Nat.beq s s1=false)
 (he:l++l'=l2) (hn:l.length+l'.length<=1073741824) (ht:t<σ.n) (hst:[s,s1].contains t=false) (hby:bytes<=131072) :
 OpS P C ⟨some t,.call { callee:=.builtin .append,args:=#[.tmp s,.tmp s1],argTypes:=#[ty,ty] },rt,pos,aft,g⟩ σ ((S3 τ [s,s1]).set t (.sl (some e) z l2)):=by
 subst hτ;exact CN (λa w hs=>CD h hb hl hna hu hs) (R.appO2 (.inl rfl) hs hs1 hne he hn ht hst hby)
end
section
variable{pos:String}{aft:Array Edge}{g:Option (Nat×Bool)}
variable{P:Program}{C:Ctx}{Q:Exit->Sg->Prop}{σ σ' σ1:Sg}{a:Act}{w w':World}{ρ:Nat->Nat}{Fe Fe' Fb:Nat->List Nat}{ops:Array Oper}
def dsts:List Oper->List Nat
 | []=>[]
 | o::r=>match o.dst with
  | some t=>t::dsts r
  | none=>dsts r
theorem ES{a:Act}{d:Option Nat}{v:Value}{t:Nat}(h:d≠some t):(a.put d v).tmps[t]? = a.tmps[t]?:=by
 cases d with
 | none=>rfl
 | some u=>
  have hne:u≠t:=λe=>h (e▸rfl);simp[Act.put,M5,hne]
theorem DO{Q Q':Exit->Act->World->Prop}(h:LetsOut Q)(hq:∀ e a w,e≠.normal->Q e a w->Q' e a w):LetsOut Q':=by
 obtain⟨a,w,h⟩:=h;exact⟨a,w,hq _ _ _ (by simp) h⟩
theorem YB{F:Fence}{n:Nat}{o:Oper}{a:Act}{K K':Act->World->Prop}{Q Q':Exit->Act->World->Prop}{r:Result Next}
 (hk:∀ (b:Act) (w:World) (v:Value),b.tmps=a.tmps->K (b.put o.dst v) w->K' (b.put o.dst v) w) (hq:∀ e a w,e≠.normal->Q e a w->Q' e a w)
 (h:o.uponIn F n P a K Q r):o.uponIn F n P a K' Q' r:=by
 cases r with
 | ok nx w'=>
  cases nx with
  | value v=>exact hk _ _ _ rfl h
  | skip=>exact hk _ _ _ rfl h
  | «defer» d=>exact hk { a with defers:=d::a.defers } _ _ rfl h
  | enter f args=>
   refine⟨h.1,h.2.mono λe w'' hx=>?_⟩
   cases e with
   | returned v=>exact hk _ _ _ rfl hx
   | panicked ch=>exact hq _ _ _ (by simp) hx
   | outgrown=>exact DO hx hq
  | row r args=>exact⟨h.1,h.2.mono λv w'' hx=>hk _ _ _ rfl hx⟩
  | round l f tmps assign body=>
   refine⟨h.1,h.2.mono λe w'' hx=>?_⟩
   cases e with
   | returned v=>exact hk _ _ _ rfl hx
   | panicked ch=>exact hq _ _ _ (by simp) hx
   | outgrown=>exact DO hx hq
  | _=>exact h
 | halt x w'=>
  cases x with
  | panic v=>exact hq _ _ _ (by simp) h
  | _=>exact h
theorem YD{F:Fence}{n:Nat}{Q Q1:Exit->Act->World->Prop}{l2:List Oper}:∀ (l1:List Oper) (a:Act) (w:World),wpListIn F n P ops Q1 l1 a w ->
 (∀ e a w,e≠.normal->Q1 e a w->Q e a w)->(∀ a' w',Q1 .normal a' w'->(∀ t,t∉dsts l1->a'.tmps[t]? = a.tmps[t]?)->wpListIn F n P ops Q l2 a' w')->wpListIn F n P ops Q (l1++l2) a w:=by
 intro l1
 induction l1 with
 | nil=>intro a w h _ k;exact k a w h (λ_ _=>rfl)
 | cons o l ih=>
  intro a w h hq k
  have hstep:∀ (b:Act) (w1:World) (v:Value),b.tmps=a.tmps->wpListIn F n P ops Q1 l (b.put o.dst v) w1->wpListIn F n P ops Q (l++l2) (b.put o.dst v) w1:=by
   intro b w1 v hb hx;refine ih _ _ hx hq (λa' w' h1 h2=>k a' w' h1 λt ht=>?_)
   have hne:o.dst≠some t:=by
    intro e;apply ht;simp[dsts,e]
   have hnl:t∉dsts l:=by
    intro hm;apply ht;unfold dsts;split
    ·exact j1 _ hm
    ·exact hm
   rw[h2 t hnl,ES hne,hb]
  simp only[E0,wpListIn] at h ⊢;split
  ·rename_i hw;simp only[hw,j9] at h;exact⟨h.1,YB hstep hq h.2⟩
  ·rename_i hw;simp only[hw,q8,q7] at h;exact⟨h.1,hstep a w undef rfl h.2⟩
inductive BorE(gl:List (Nat×D))(σ:Sg):List (Nat×D)->Prop
 | nil:BorE gl σ []
 | cons {t:Nat} {d:D} {r:List (Nat×D)} (h:Bor gl σ (.tmp t) d) (hr:d.isRef=false) (k:BorE gl σ r):BorE gl σ ((t,d)::r)
theorem BorE.get{gl:List (Nat×D)}{l:List (Nat×D)}(h:BorE gl σ l){t:Nat}{d:D}(ht:lk l t=some d):Bor gl σ (.tmp t) d/\d.isRef=false:=by
 induction h with
 | nil=>cases ht
 | @cons t' d' r h hr k ih=>
  rw[U2] at ht;by_cases e:t'=t
  ·subst e;simp only[j9,z6] at ht;subst ht;exact⟨h,hr⟩
  ·simp only[e,q8] at ht;exact ih ht
theorem Bor.there(st:StW C σ a w ρ Fe Fb){t:Nat}{d:D}(h:Bor C.gl σ (.tmp t) d):∃ v,a.tmps[t]? = some v:=by
 have key:∀ d0,σ.get t=some d0->∃ v,a.tmps[t]? = some v:=λd0 h0=>(st.env t d0 h0).there
 cases h with
 | pur h _ _=>exact key _ h
 | nils h=>exact key _ h
 | own h _ _ _=>exact key _ h
 | al h _ _ _ _=>exact key _ h
 | sc h _=>
  obtain⟨base,len,cap,hv,_⟩:=CC st h;exact⟨_,hv⟩
 | ptr h _ _ _ _=>exact key _ h
def stays(W:List Nat)(d:D):Bool:=
 match d with
 | .al s=>!(W.contains s)
 | d=>!d.isRef
theorem SU{W:List Nat}{d:D}(h:stays W d=true):d.isRef=false∨∃ s,d=.al s/\W.contains s=false:=by
 cases d with
 | al s=>exact .inr ⟨s,rfl,by simpa [stays] using h⟩
 | _=>left;simpa [stays] using h
def Back(σ σ1:Sg)(W:List Nat):List (Nat×D)->Prop
 | []=>True
 | (t,d)::r=>(bif W.contains t then σ1.get t=some d/\d.isRef=false/\d.np=true/\Frs d else σ.get t=some d/\stays W d=true)/\Back σ σ1 W r
theorem Back.get{σ σ1:Sg}{W:List Nat}:∀ {l:List (Nat×D)},Back σ σ1 W l->∀ {t:Nat} {d:D},lk l t=some d->(W.contains t=true/\σ1.get t=some d/\d.isRef=false/\d.np=true/\Frs d)∨(W.contains t=false/\σ.get t=some d/\stays W d=true):=by
 intro l
 induction l with
 | nil=>intro _ t d h;cases h
 | cons x r ih=>
  obtain⟨t',d'⟩:=x;intro h t d ht;rw[U2] at ht;by_cases e:t'=t
  ·subst e;simp only[j9,z6] at ht;subst ht;have h1:=h.1
   cases hW:W.contains t' with
   | true=>rw[hW] at h1;exact .inl ⟨rfl,h1⟩
   | false=>rw[hW] at h1;exact .inr ⟨rfl,h1⟩
  ·simp only[e,q8] at ht;exact ih h.2 ht
def Ctx.inl(C:Ctx)(w:World):Ctx:={ w0:=w,keep:=λb=>b<w.heap.size,ok:=λ_=>True,gl:=C.gl,rd:=C.rd,pin:=λ_=>none,df:=C.df }
theorem StW.inl(st:StW C σ a w ρ Fe Fb){env1:List (Nat×D)}(h:BorE C.gl σ env1):StW (C.inl w) ⟨σ.n,env1,[]⟩ a w (λx=>x) (λ_=>[]) (λ_=>[]):=by
 have hno:∀ b,¬ own (λ_=>[]) (λ_=>[]) b:=by
  rintro b (⟨t,ht⟩|⟨id,hid⟩)
  ·cases ht
  ·cases hid
 refine⟨st.size,st.defs,λid b hp=>(by cases hp),λt d hd=>?_,λt _=>rfl,λid d hd=>(by cases hd),λid _=>rfl,λ_=>w9,λ_=>w9,λ_ _ _ b hb=>(by cases hb),λ_ _ b hb=>(by cases hb),λ_ _ _ b hb=>(by cases hb),λb hb=>absurd hb (hno b),λb hb=>⟨rfl,hb⟩,rfl,⟨rfl,z7 _⟩,rfl,z7 _,λg d hg=>?_,λ_ _=>trivial,λ_ _=>trivial⟩
 ·obtain⟨hb,hr⟩:=h.get hd;obtain⟨v,hv⟩:=hb.there st;have:=hb.ok st;rw[Q3 hv] at this;exact(c5 hr).2 ⟨v,hv,this.mono (λ_ _ _=>rfl) (λb _ _=>⟨trivial,hno b⟩) (λid hid=>hid.elim)⟩
 ·obtain⟨_,cs,e,fz,h1,h2⟩:=PD st g d hg;exact⟨(j6.1 h1).1,trivial,cs,e,fz,h1,h2⟩
theorem StW.back{W:List Nat}{env2:List (Nat×D)}{a':Act}{ρ1:Nat->Nat}{Fe1 Fb1:Nat->List Nat}(st:StW C σ a w ρ Fe Fb)(st1:StW (C.inl w) σ1 a' w' ρ1 Fe1 Fb1)(hn:σ1.n=σ.n)
 (hfr:∀ t,W.contains t=false->a'.tmps[t]? = a.tmps[t]?) (h:Back σ σ1 W env2) :
 StW C ⟨σ.n,env2,σ.bx⟩ a' w' ρ (λt=>match lk env2 t with|none=>[]|some _=>bif W.contains t then Fe1 t else Fe t) Fb:=by
 let F2:Nat->List Nat:=λt=>match lk env2 t with|none=>[]|some _=>bif W.contains t then Fe1 t else Fe t
 have hlt:=st.lt;have hblk:∀ b,b<w.heap.size->w'.heap[b]? = w.heap[b]?:=λb hb=>(st1.kept b hb).1;have hnew1:∀ b,own Fe1 Fb1 b->w.heap.size<=b:=λb hb=>H4 (st1.new b hb)
 have hF2:∀ t b,b∈F2 t->(W.contains t=true/\b∈Fe1 t/\w.heap.size<=b)∨(W.contains t=false/\b∈Fe t/\b<w.heap.size):=by
  intro t b hb;simp only[F2] at hb;split at hb
  ·cases hb
  ·cases hW:W.contains t with
   | true=>rw[hW] at hb;exact .inl ⟨rfl,hb,hnew1 b (.inl ⟨t,hb⟩)⟩
   | false=>rw[hW] at hb;exact .inr ⟨rfl,hb,hlt b (.inl ⟨t,hb⟩)⟩
 have hown:∀ b,own F2 Fb b->own Fe Fb b∨w.heap.size<=b:=by
  rintro b (⟨t,ht⟩|hid)
  ·rcases hF2 t b ht with ⟨_,_,h3⟩|⟨_,h2,_⟩
   ·exact .inr h3
   ·exact .inl (.inl ⟨t,h2⟩)
  ·exact .inl (.inr hid)
 have hgd:∀ b,gd C Fe Fb b->b<w.heap.size->gd C F2 Fb b:=λb hb hl=>⟨hb.1,λho=>by
  rcases hown b ho with h1|h1
  ·exact hb.2 h1
  ·omega⟩
 have hsz:w.heap.size<=w'.heap.size:=st1.grown;refine { size:=st1.size.trans hn,defs:=st1.defs,pin:=st.pin,env:=λt d hd=>?_,envN:=λt ht=>?_,bx:=λid d hd=>?_,bxN:=st.bxN,nodE:=λt=>?_,nodB:=st.nodB,dEE:=λt t' htt b hb hb'=>?_,dEB:=λt id b hb hb'=>?_,dBB:=st.dBB,new:=λb hb hk=>?_,kept:=λb hk=>?_,os:=st1.os.trans st.os,tape:=st1.tape.trans st.tape,output:=st1.output.trans st.output,grown:=u9 st.grown hsz,gl:=st.gl,okN:=λb hb=>st.okN b (u9 hsz hb),okO:=λb hb=>?_ }
 ·have hd':lk env2 t=some d:=hd;show SR w' ρ (gd C F2 Fb) _ a' t d (F2 t)
  rcases h.get hd' with ⟨hW,h1,h2,h3,h4⟩|⟨hW,h1,h2⟩
  ·have e2:F2 t=Fe1 t:=by simp only[F2,hd',hW,m9]
   rw[e2];obtain⟨v,hv,hr⟩:=(c5 h2).1 (st1.env t d h1);exact(c5 h2).2 ⟨v,hv,(hr.frs h4).noL h3⟩
  ·have e2:F2 t=Fe t:=by simp only[F2,hd',hW,d7]
   rw[e2]
   rcases SU h2 with h9|⟨s,rfl,h9⟩
   ·obtain⟨v,hv,hr⟩:=(c5 h9).1 (st.env t d h1);exact(c5 h9).2 ⟨v,by rw[hfr t hW];exact hv,hr.mono (λb _ hb=>hblk b hb) hgd (λid hid=>⟨hid,rfl⟩)⟩
   ·obtain⟨h3,v,h4,h5⟩:=st.env t _ h1;exact⟨h3,v,by rw[hfr t hW];exact h4,by rw[hfr s h9];exact h5⟩
 ·have ht':lk env2 t=none:=ht;show F2 t=[];simp only[F2,ht']
 ·exact(st.bx id d hd).mono (λb _ hb=>hblk b hb) hgd (λid hid=>⟨hid,rfl⟩)
 ·show(F2 t).Nodup;simp only[F2];split
  ·exact w9
  ·cases W.contains t with
   | true=>exact st1.nodE t
   | false=>exact st.nodE t
 ·rcases hF2 t b hb with ⟨_,h2,h3⟩|⟨_,h2,h3⟩<;>rcases hF2 t' b hb' with ⟨_,h5,h6⟩|⟨_,h5,h6⟩
  ·exact st1.dEE t t' htt b h2 h5
  ·omega
  ·omega
  ·exact st.dEE t t' htt b h2 h5
 ·rcases hF2 t b hb with ⟨_,h2,h3⟩|⟨_,h2,h3⟩
  ·have:=hlt b (.inr ⟨id,hb'⟩);omega
  ·exact st.dEB t id b h2 hb'
 ·rcases hown b hb with h1|h1
  ·exact st.new b h1 hk
  ·have:=(st.kept b hk).2;have:=st.grown;omega
 ·have h1:=st.kept b hk;exact⟨(hblk b (u0 h1.2 st.grown)).trans h1.1,h1.2⟩
 ·rcases hown b hb with h1|h1
  ·exact st.okO b h1
  ·exact st.okN b h1
theorem R.extO{s t k:Nat}{ds ds':List D}{d:D}{rt:TypeId}
 (h:σ.get s=some (.tup ds)) (hk:ds[k]? = some d) (hr:d.isRef=false) (hds:ds.set k .dead=ds') (hp:ds'.all (λx=>x.pur||x.isRef)=true) (hst:Nat.beq t s=false) (ht:t<σ.n) :
 OpS P C ⟨some t,.extract (.tmp s) k,rt,pos,aft,g⟩ σ (((S3 σ [s]).set t d).upd s (.tup ds')):=by
 subst hds
 have hne:t≠s:=λe=>by rw[e] at hst;simp at hst
 refine OpS.value λa w ⟨ρ,Fe,Fb,st⟩=>?_;obtain⟨vs,Fs,h1,h2,h3,h4⟩:=st.env s _ h;obtain⟨hkl,hkd⟩:=z8.1 hk
 have hv:vs[k]? = some (vs.getD k undef):=by
  have:k<vs.length:=by omega
  rw[K8,j8 this];rfl
 rcases h4 k hkl with ⟨h5,_⟩|⟨h5,h6⟩
 ·rw[hkd] at h5;rw[h5] at hr;cases hr
 ·rw[hkd] at h6
  have hsub:∀ b∈Fs k,b∈Fe s:=λb hb=>by rw[h3];exact w8.2 ⟨k,j7.2 hkl,hb⟩
  have hnd:(Fs k).Nodup:=by
   have:=st.nodE s;rw[h3] at this;exact(l7 this).1 k hkl
  have hgd:∀ b,gd C Fe Fb b->gd C (upd (λu=>if u∈[s] then[] else Fe u) t (Fs k)) Fb b:=λb hb=>⟨hb.1,λhc=>hb.2 (by
   rcases hc with ⟨u,hu⟩|hid
   ·by_cases hut:u=t
    ·subst hut;rw[c7] at hu;exact .inl ⟨s,hsub b hu⟩
    ·rw[j2 hut] at hu;by_cases hus:u∈[s]
     ·simp only[hus,j9] at hu;cases hu
     ·simp only[hus,q8] at hu;exact .inl ⟨u,hu⟩
   ·exact .inr hid)⟩
  have hput:(a.put (some t) (vs.getD k undef)).tmps[t]? = some (vs.getD k undef):=by rw[Y0 a t _ t (by rw[st.size];exact ht)];simp
  have st2:=st.takeL (S:=[s]) (t:=t) (d:=d) (v:=vs.getD k undef) (F:=Fs k) ht (by simpa using hne) (λu hu=>by rw[d8.1 hu];exact⟨_,h⟩) hnd (λb hb=>⟨s,by simp,hsub b hb⟩)
   ((c5 hr).2 ⟨_,hput,h6.mono (λ_ _ _=>rfl) (λb hb _=>hgd b hb) (λid hid=>⟨hid,rfl⟩)⟩)
  have hgs:((S3 σ [s]).set t d).get s=some .dead:=by
   rw[P8,w3 (λe=>hne e.symm),ZF];simp[scrub]
  have hFs0:upd (λu=>if u∈[s] then[] else Fe u) t (Fs k) s=[]:=by rw[j2 (λe=>hne e.symm)];simp
  have st3:=st2.turn (s:=s) (d':=.tup (ds.set k .dead)) (F:=[]) hgs rfl ⟨rfl,z7 _⟩ rfl (z7 _) (λ_ _ _=>rfl) w9 (by simp) (by
   refine⟨vs,λ_=>[],by rw[Y0 a t _ s (by rw[st.size];exact ht)];simp[show ¬ s=t from λe=>hne e.symm,h1],by rw[h2];simp,(FO _).symm,λj hj=>?_⟩
   have hj0:j<ds.length:=by simpa using hj
   by_cases hjk:k=j
   ·subst hjk;left;exact⟨by simp,rfl⟩
   ·have e1:(ds.set k .dead)[j]=ds[j]:=by rw[List.getElem_set];simp[hjk]
    have e2:=o8.1 hp _ (g6 hj);rw[e1] at e2 ⊢
    rcases h4 j hj0 with h7|⟨h7,h8⟩
    ·exact .inl ⟨h7.1,rfl⟩
    ·right
     have hpj:ds[j].pur=true:=by simpa [h7] using e2
     have hF:=h8.pur hpj;rw[hF] at h8;refine⟨h7,h8.mono (λ_ _ _=>rfl) (λb hb _=>⟨hb.1,λhc=>(hgd b hb).2 ?_⟩) (λid hid=>⟨?_,rfl⟩)⟩
     ·rcases hc with ⟨u,hu⟩|hid
      ·by_cases hus:u=s
       ·subst hus;rw[c7] at hu;cases hu
       ·rw[j2 hus] at hu;exact .inl ⟨u,hu⟩
      ·exact .inr hid
     ·have:((S3 σ [s]).set t d).box id=σ.box id:=by
       show lk (S3 σ [s]).bx id=_;rw[(MB [s] σ).2];rfl
      rw[this];exact hid)
  refine⟨vs.getD k undef,w, ?_,ρ,_,Fb,st3⟩;clear st3 st2 hput h6;generalize vs.getD k undef=x at hv
  have hx:vs.toArray[k]? = some x:=by rw[H0];exact hv
  unfold execOp;simp only[Instr.extract,Q3 h1,hx,Sem.run_bind,Sem.run_pure,Result.andThen_ok]
theorem R.movTO{s t:Nat}{ds:List D}{rt:TypeId}(h:σ.get s=some (.tup ds))(hst:Nat.beq t s=false)(ht:t<σ.n) :
 OpS P C ⟨some t,.move (.tmp s),rt,pos,aft,g⟩ σ ((S3 σ [s]).set t (.tup ds)):=by
 have hne:t≠s:=λe=>by rw[e] at hst;simp at hst
 refine OpS.value λa w ⟨ρ,Fe,Fb,st⟩=>?_;obtain⟨vs,Fs,h1,h2,h3,h4⟩:=st.env s _ h
 have hgd:∀ b,gd C Fe Fb b->gd C (upd (λu=>if u∈[s] then[] else Fe u) t (Fe s)) Fb b:=λb hb=>⟨hb.1,λhc=>hb.2 (by
  rcases hc with ⟨u,hu⟩|hid
  ·by_cases hut:u=t
   ·subst hut;rw[c7] at hu;exact .inl ⟨s,hu⟩
   ·rw[j2 hut] at hu;by_cases hus:u∈[s]
    ·simp only[hus,j9] at hu;cases hu
    ·simp only[hus,q8] at hu;exact .inl ⟨u,hu⟩
  ·exact .inr hid)⟩
 have hput:(a.put (some t) (.tuple vs.toArray)).tmps[t]? = some (.tuple vs.toArray):=by rw[Y0 a t _ t (by rw[st.size];exact ht)];simp
 refine⟨.tuple vs.toArray,w, ?_,ρ,_,Fb,st.takeL (S:=[s]) (t:=t) (F:=Fe s) ht (by simpa using hne) (λu hu=>by rw[d8.1 hu];exact⟨_,h⟩) (st.nodE s) (λb hb=>⟨s,by simp,hb⟩)
  ⟨vs,Fs,hput,h2,h3,λk hk=>(h4 k hk).imp id λhx=>⟨hx.1,hx.2.mono (λ_ _ _=>rfl) (λb hb _=>hgd b hb) (λid hid=>⟨hid,rfl⟩)⟩⟩⟩
 unfold execOp;simp[Q3 h1]
theorem TL.wpListO{l:List Oper}(h:TL P C Q l σ)(ops:Array Oper):WL P C ops l Q σ:=by
 induction l generalizing σ with
 | nil=>
  obtain⟨live,env',bx',n',p1,p2,p4,p3⟩:=h
  exact λa w hs=>⟨_,hs.picks p1 p2 p4,p3⟩
 | cons o l ih=>
  obtain⟨h1,σ',h2,h3⟩:=h;exact WL.cons h1 h2 (ih h3)
def WIn(P:Program)(C:Ctx)(c:Code)(Q:Exit->Sg->Prop)(σ σ1:Sg)(W0:List Nat):Prop:=
 ∀ (a0:Act) (w0:World) (ρ:Nat->Nat) (Fe Fb:Nat->List Nat),StW C σ a0 w0 ρ Fe Fb->∀ (a:Act) (w:World),St (C.inl w0) σ1 a w->(∀ t,W0.contains t=false->a.tmps[t]? = a0.tmps[t]?) ->
  c.wpIn (Fx C) 3 P (λe a' w'=>∃ σ',St C σ' a' w'/\Q e σ') a w
theorem W.inl{c:Code}(env1:List (Nat×D))(hb:BorE C.gl σ env1)(h:WIn P C c Q σ ⟨σ.n,env1,[]⟩ []):W P C c Q σ:=by
 intro a w ⟨ρ,Fe,Fb,st⟩;exact h a w ρ Fe Fb st a w ⟨_,_,_,st.inl hb⟩ (λ_ _=>rfl)
theorem WIn.seq{x y:Code}{W0:List Nat}(h:WIn P C x (λe s=>match e with | .normal=>W P C y Q s|e=>Q e s) σ σ1 W0):WIn P C (.seq x y) Q σ σ1 W0:=by
 intro a0 w0 ρ Fe Fb st a w hs hf;refine wpIn_seq ?_;refine J4 ?_ (h a0 w0 ρ Fe Fb st a w hs hf);intro e a' w' ⟨s,hs',hq⟩
 cases e<;>first|exact hq a' w' hs'|exact⟨s,hs',hq⟩
theorem WIn.region{id:Nat}{W0:List Nat}(k:Nat)(env2:List (Nat×D)){l:List Oper}
 (h1:∀ C':Ctx,C'.gl=C.gl->C'.rd=C.rd->C'.df=C.df->(∀ id b,C'.pin id=some b->N3 [] id=true)->TL P C' (λe s=>e=.normal/\s.n=σ.n/\Back σ s (W0++dsts (l.take k)) env2) (l.take k) σ1)
 (h2:TL P C Q (l.drop k) ⟨σ.n,env2,σ.bx⟩):WIn P C (.region id l.toArray false) Q σ σ1 W0:=by
 intro a0 w0 ρ Fe Fb st a w hs hf;refine wpIn_region_lit ?_;generalize hl1:l.take k=l1 at h1;generalize hl2:l.drop k=l2 at h2
 have hl:l=l1++l2:=by rw[<- hl1,<- hl2,K9]
 clear hl1 hl2;subst hl;have hw1:=(h1 (C.inl w0) rfl rfl rfl (λid b hp=>by cases hp)).wpList (ops:=l1++l2) a w hs;refine YD l1 a w (F:=Fx C) hw1 ?_ ?_
 ·rintro e a' w' he ⟨s,_,rfl,_⟩;exact absurd rfl he
 ·rintro a' w' ⟨s,⟨ρ1,Fe1,Fb1,st1⟩,_,hn,hB⟩ hfr;refine(h2.wpList (ops:=l1++l2)) a' w' ⟨ρ,_,Fb,st.back st1 hn (λt ht=>?_) hB⟩
  have h3:W0.contains t=false/\(dsts l1).contains t=false:=by simpa [List.contains_append] using ht
  rw[hfr t (λhm=>by rw[U5.2 hm] at h3;cases h3.2),hf t h3.1]
theorem x99{l:List Oper}(k:Nat)(env1 env2:List (Nat×D))(hb:BorE C.gl σ env1)
 (h1:∀ C':Ctx,C'.gl=C.gl->C'.rd=C.rd->C'.df=C.df->(∀ id b,C'.pin id=some b->N3 [] id=true)->TL P C' (λe s=>e=.normal/\s.n=σ.n/\Back σ s (dsts (l.take k)) env2) (l.take k) ⟨σ.n,env1,[]⟩)
 (h2:TL P C Q (l.drop k) ⟨σ.n,env2,σ.bx⟩):WL P C ops l Q σ:=by
 generalize hl1:l.take k=l1 at h1;generalize hl2:l.drop k=l2 at h2
 have hl:l=l1++l2:=by rw[<- hl1,<- hl2,K9]
 clear hl1 hl2;subst hl;intro a w ⟨ρ,Fe,Fb,st⟩;have hw1:=(h1 (C.inl w) rfl rfl rfl (λid b hp=>by cases hp)).wpListO ops a w ⟨_,_,_,st.inl hb⟩;refine YD l1 a w (F:=Fx C) hw1 ?_ ?_
 ·rintro e a' w' he ⟨s,_,rfl,_⟩;exact absurd rfl he
 ·rintro a' w' ⟨s,⟨ρ1,Fe1,Fb1,st1⟩,_,hn,hB⟩ hfr;exact(h2.wpListO ops) a' w' ⟨ρ,_,Fb,st.back st1 hn (λt ht=>hfr t (by intro hm;rw[U5.2 hm] at ht;cases ht)) hB⟩
theorem AP{F:Fence}{n:Nat}{md:Region.Mode}{os:List Oper}{Q:Exit->Act->World->Prop}(a0:Act)(hd:∀ o∈os,∀ t,o.dst=some t->t∈dsts os):∀ (fuel:Nat) (listed:Array Bool) (a:Act) (w:World),
 (∀ t,(dsts os).contains t=false->a.tmps[t]? = a0.tmps[t]?)->wpAnyIn F n P md os.toArray Q fuel listed a w ->
 wpAnyIn F n P md os.toArray (λe a' w'=>Q e a' w'/\(e=.normal->∀ t,(dsts os).contains t=false->a'.tmps[t]? = a0.tmps[t]?)) fuel listed a w:=by
 intro fuel
 induction fuel with
 | zero=>intro listed a w hf h;exact⟨h.1,h.2,λ_=>hf⟩
 | succ fuel ih=>
  intro listed a w hf h;refine⟨λhr=>⟨h.1 hr,λ_=>hf⟩,λi hi=>?_⟩;have h1:=h.2 i hi;unfold wpOpIn at h1 ⊢
  cases ho:os.toArray[i]? with
  | none=>rw[ho] at h1;exact ih _ _ _ hf h1
  | some o=>
   rw[ho] at h1;simp only at h1 ⊢;have hmem:o∈os:=Y6 (by simpa using ho)
   have hput:∀ (b:Act) (v:Value),b.tmps=a.tmps->∀ t,(dsts os).contains t=false->(b.put o.dst v).tmps[t]? = a0.tmps[t]?:=λb v hb t ht=>by
    rw[ES (λe=>by rw[U5.2 (hd o hmem t e)] at ht;cases ht),hb];exact hf t ht
   have hstep:∀ (b:Act) (w1:World) (v:Value),b.tmps=a.tmps->wpAnyIn F n P md os.toArray Q fuel (listed.setIfInBounds i true) (b.put o.dst v) w1 ->
    wpAnyIn F n P md os.toArray (λe a' w'=>Q e a' w'/\(e=.normal->∀ t,(dsts os).contains t=false->a'.tmps[t]? = a0.tmps[t]?)) fuel (listed.setIfInBounds i true) (b.put o.dst v) w1:=λb w1 v hb hx=>ih _ _ _ (hput b v hb) hx
   split
   ·rename_i hw;simp only[hw,j9] at h1;exact⟨h1.1,YB hstep (λe a w he hq=>⟨hq,λhn=>absurd hn he⟩) h1.2⟩
   ·rename_i hw;simp only[hw,q8,q7] at h1;exact⟨h1.1,hstep a w undef rfl h1.2⟩
theorem j38{os:List Oper}:∀ o∈os,∀ t,o.dst=some t->t∈dsts os:=by
 induction os with
 | nil=>intro o h;cases h
 | cons x r ih=>
  intro o h t ht
  rcases w5.1 h with rfl|h
  ·simp[dsts,ht]
  ·have:=ih o h t ht;unfold dsts;split
   ·exact j1 _ this
   ·exact this
def WA(P:Program)(C:Ctx)(ops:List Oper)(Q:Exit->Sg->Prop)(σ:Sg):Prop:=
 ∀ a w,St C σ a w->wpAnyIn (Fx C) 3 P .any ops.toArray (λe a' w'=>∃ σ',St C σ' a' w'/\Q e σ') ops.toArray.size (Array.replicate ops.toArray.size false) a { w with drawn:=w.drawn+1 }
theorem w00{ops:List Oper}{an:List Nat}{ks kk:List (Nat×Nat)}{its:List It}{m n':Nat}{bx':List (Nat×Bx)}(hA0:YU ops an m=true)(hlen:its.length=m)(H:ItOk P C σ ops an ks kk its){live:List Nat}{env':List (Nat×D)}(hE:picks (afts an (λ_=>true) ks σ.env its) live=env')
 (hb:σ.bx=bx') (hn:σ.n=n') (hT:TL P C Q (ops.drop its.length) ⟨n',env',bx'⟩):WA P C ops Q σ:=by
 intro a w hs
 have hc:Cl ops (Array.replicate ops.toArray.size false):=⟨by simp,λi o _ hd=>by
  have:=N4 hd;simp at this
  simp[this] at hd⟩
 have hA:YU ops an its.length=true:=by rw[hlen];exact hA0
 subst hb;subst hn;refine FE hA H hE hT _ _ a _ σ hc ?_ ?_ (hs.ext (Ext.drew w)) ⟨rfl,rfl,λu x hx=>?_⟩
 ·simp
 ·intro j _ hj;simp[hj]
 ·unfold afts at hx;generalize hb:bads _ ks u=bb at hx
  cases bb with
  | true=>cases hx
  | false=>
   simp only[d7] at hx
   rcases B9 its u with hu|⟨k,dk,wk,hk⟩
   ·rw[P0 hu] at hx;exact hx
   ·rw[O1 (T2 H.ts).1 hk] at hx
    have e:(Array.replicate ops.toArray.size false).getD (0+k) false=false:=by
     simp only[v9,C4]
     split<;>rfl
    rw[e] at hx;exact hx
theorem IY{F:Fence}{n:Nat}{md:Region.Mode}{ops:Array Oper}{Q Q':Exit->Act->World->Prop}(hq:∀ e a w,Q e a w->Q' e a w):∀ (fuel:Nat) (listed:Array Bool) (a:Act) (w:World),wpAnyIn F n P md ops Q fuel listed a w->wpAnyIn F n P md ops Q' fuel listed a w:=by
 intro fuel
 induction fuel with
 | zero=>intro listed a w h;exact⟨h.1,hq _ _ _ h.2⟩
 | succ fuel ih=>
  intro listed a w h;refine⟨λhr=>hq _ _ _ (h.1 hr),λi hi=>?_⟩;have h1:=h.2 i hi;unfold wpOpIn at h1 ⊢
  cases ho:ops[i]? with
  | none=>rw[ho] at h1;exact ih _ _ _ h1
  | some o=>
   rw[ho] at h1;simp only at h1 ⊢;split
   ·rename_i hw;simp only[hw,j9] at h1;exact⟨h1.1,YB (λb w v _ hx=>ih _ _ _ hx) (λe a w _ hx=>hq e a w hx) h1.2⟩
   ·rename_i hw;simp only[hw,q8,q7] at h1;exact⟨h1.1,ih _ _ _ h1.2⟩
theorem j70{id:Nat}{ops:List Oper}{y:Code}{W0:List Nat}{σ2:Sg}(hm:P.follows .mixedOrders=true)
 (h1:∀ C':Ctx,C'.gl=C.gl->C'.rd=C.rd->C'.df=C.df->(∀ id b,C'.pin id=some b->N3 [] id=true)->WA P C' ops (λe s=>e=.normal/\s=σ2) σ1)
 (h2:WIn P C y Q σ σ2 (W0++dsts ops)):WIn P C (.seq (.region id ops.toArray true) y) Q σ σ1 W0:=by
 intro a0 w0 ρ Fe Fb st a w hs hf;refine wpIn_seq ?_;refine wpIn_region_any hm ?_;have h3:=AP (os:=ops) a j38 _ _ a _ (λ_ _=>rfl) (h1 (C.inl w0) rfl rfl rfl (λid b hp=>by cases hp) a w hs);refine IY ?_ _ _ _ _ h3;rintro e a' w' ⟨⟨s,hs',rfl,rfl⟩,hfr⟩;refine h2 a0 w0 ρ Fe Fb st a' w' hs' (λt ht=>?_)
 have h4:W0.contains t=false/\(dsts ops).contains t=false:=by simpa [List.contains_append] using ht
 rw[hfr rfl t h4.2,hf t h4.1]
theorem u95{c:Code}{s:Nat}{d d':D}(h:σ.get s=some d)(hr:d.isRef=false)(hr':d'.isRef=false)(hw:Wk d d')(k:W P C c Q (σ.upd s d')):W P C c Q σ:=by
 intro a w ⟨ρ,Fe,Fb,st⟩;obtain⟨v,hv,hvr⟩:=(c5 hr).1 (st.env _ _ h)
 have hgd:∀ b,gd C Fe Fb b->gd C (Go.Sx.upd Fe s (Fe s)) Fb b:=λb hb=>⟨hb.1,λhc=>hb.2 (hc.imp (λ⟨u,hu⟩=>⟨u,by
  by_cases hus:u=s
  ·subst hus;rwa [c7] at hu
  ·rwa [j2 hus] at hu⟩) id)⟩
 refine k a w ⟨ρ,_,Fb,st.turn (F:=Fe s) h rfl ⟨rfl,z7 _⟩ rfl (z7 _) (λ_ _ _=>rfl) (st.nodE s) (λb hb=>.inl hb) ((c5 hr').2 ⟨v,hv, ?_⟩)⟩;have h2:=hvr.mono (w':=w) (ρ':=ρ) (G':=gd C (Go.Sx.upd Fe s (Fe s)) Fb) (L':=λid=>(σ.box id).isSome) (λ_ _ _=>rfl) (λb hb _=>hgd b hb) (λid hid=>⟨hid,rfl⟩);unfold VR at h2 ⊢;rw[hw.isAgg]
 cases hd:d.isAgg<;>simp only[hd,j9,q8,q7] at h2 ⊢
 ·exact h2.wk hw
 ·obtain⟨cs,rfl,h2⟩:=h2;exact⟨cs,rfl,h2.wk hw⟩
theorem R.wkT{o:Oper}{τ:Sg}{t:Nat}{r r':D}(h:OpS P C o σ (τ.set t r))(hr:r.isRef=false)(hr':r'.isRef=false)(he:Wk r r'):OpS P C o σ (τ.set t r'):=by
 intro a w hs K Q hK;refine h a w hs K Q λa' w' hs'=>hK a' w' ?_
 have h1:(τ.set t r).get t=some r:=by rw[P8];simp
 obtain⟨ρ,Fe,Fb,st⟩:=hs';obtain⟨v,hv,hvr⟩:=(c5 hr).1 (st.env _ _ h1)
 have hgd:∀ b,gd C Fe Fb b->gd C (Go.Sx.upd Fe t (Fe t)) Fb b:=λb hb=>⟨hb.1,λhc=>hb.2 (hc.imp (λ⟨u,hu⟩=>⟨u,by
  by_cases hus:u=t
  ·subst hus;rwa [c7] at hu
  ·rwa [j2 hus] at hu⟩) id)⟩
 have st2:St C ((τ.set t r).upd t r') a' w':=by
  refine⟨ρ,_,Fb,st.turn (F:=Fe t) h1 rfl ⟨rfl,z7 _⟩ rfl (z7 _) (λ_ _ _=>rfl) (st.nodE t) (λb hb=>.inl hb) ((c5 hr').2 ⟨v,hv, ?_⟩)⟩;have h2:=hvr.mono (w':=w') (ρ':=ρ) (G':=gd C (Go.Sx.upd Fe t (Fe t)) Fb) (L':=λid=>((τ.set t r).box id).isSome) (λ_ _ _=>rfl) (λb hb _=>hgd b hb) (λid hid=>⟨hid,rfl⟩);unfold VR at h2 ⊢;rw[he.isAgg]
  cases hd:r.isAgg<;>simp only[hd,j9,q8,q7] at h2 ⊢
  ·exact h2.wk he
  ·obtain⟨cs,rfl,h2⟩:=h2;exact⟨cs,rfl,h2.wk he⟩
 refine st2.weaken rfl rfl λu d hd=>?_;rw[JQ,P8];rw[P8] at hd;by_cases hu:u=t
 ·subst hu;simpa using hd
 ·simpa [hu] using hd
end
section
variable{P:Program}{C:Ctx}{σ σ' σ1:Sg}{a:Act}{w w':World}{ρ:Nat->Nat}{Fe Fe' Fb:Nat->List Nat}
variable{ops:List Oper}{an:List Nat}{ks kk:List (Nat×Nat)}{its:List It}
end
def BL(b:List UInt8):D:=.sl (some 5) 1 (b.map D.u8)
def YS(x:InS):D:=.agg [.agg [j4 x.tx,.u32 x.n],BL x.script,.u32 x.seq,.sl (some 24) 1 (x.wit.map BL)]
def KO(o:OutS):D:=.agg [.u64 o.value,BL o.script]
def QN(t:TxS):D:=.agg [.u32 t.ver,.sl (some 112) 36 (t.ins.map YS),.sl (some 115) 2 (t.outs.map KO),.u32 t.lock]
def HN(b:BlkS):D:=.agg [C7 b.hd,.sl (some 31) 4 (b.txs.map QN)]
theorem JR{α:Type}{f g:α->D}(h:∀ x,(f x).brw=g x)(l:List α):(l.map f).map D.brw=l.map g:=by
 rw[L5];exact List.map_congr_left λx _=>h x
theorem HP(b:List UInt8):(BL b).brw=I5 b:=by
 simp only[BL,I5,D.brw,G4];rw[JR (g:=D.u8) (λ_=>rfl)]
theorem z77(x:InS):(YS x).brw=XE x:=by
 simp only[YS,XE,D.brw,G4,b9,K0,QQ,HP];rw[JR HP]
theorem q33(x:OutS):(KO x).brw=i7 x:=by
 simp only[KO,i7,D.brw,G4,b9,K0,HP]
theorem z73(t:TxS):(QN t).brw=QS t:=by
 simp only[QN,QS,D.brw,G4,b9,K0];rw[JR z77,JR q33]
theorem HM(b:BlkS):(HN b).brw=G8 b:=by
 simp only[HN,G8,D.brw,G4,b9,K0,CZ];rw[JR z73]
theorem TW{a b c d:D}(h1:Frs a)(h2:Frs b)(h3:Frs c)(h4:Frs d):∀ x∈[a,b,c,d],Frs x:=λx hx=>by
 simp only[w5,M2,QR] at hx
 rcases hx with rfl|rfl|rfl|rfl<;>assumption
theorem S5{a b:D}(h1:Frs a)(h2:Frs b):∀ x∈[a,b],Frs x:=λx hx=>by
 simp only[w5,M2,QR] at hx
 rcases hx with rfl|rfl<;>assumption
theorem ZS(b:List UInt8):Frs (BL b):=.sl _ _ _ (K7 (λx=>.u8 x))
theorem z60(x:InS):Frs (YS x):=.agg _ (TW (.agg _ (S5 (D4 _) (.u32 _))) (ZS _) (.u32 _) (.sl _ _ _ (K7 ZS)))
theorem q21(x:OutS):Frs (KO x):=.agg _ (S5 (.u64 _) (ZS _))
theorem BP(t:TxS):Frs (QN t):=.agg _ (TW (.u32 _) (.sl _ _ _ (K7 z60)) (.sl _ _ _ (K7 q21)) (.u32 _))
theorem q23(b:BlkS):Frs (HN b):=.agg _ (S5 (LT _) (.sl _ _ _ (K7 BP)))
theorem z59(t:TxS)(b:Bool):FrsR (.tup [QN t,.bool b]):=.inl ⟨_,rfl,S5 (BP t) (.bool b)⟩
theorem j30(x:BlkS)(b:Bool):FrsR (.tup [HN x,.bool b]):=.inl ⟨_,rfl,S5 (q23 x) (.bool b)⟩
theorem u45(h:Hs)(n q:UInt32):Wk (.agg [.agg [j4 h,.u32 n],.nils,.u32 q,.nils]) (YS ⟨h,n,[],q,[]⟩):=
 .aggL (.cons (.refl _) (.cons (.nils _ _) (.cons (.refl _) (.cons (.nils _ _) .nil))))
theorem RT:Wk (.agg [.u32 0,.nils,.nils,.u32 0]) (QN EP):=
 .aggL (.cons (.refl _) (.cons (.nils _ _) (.cons (.nils _ _) (.cons (.refl _) .nil))))
theorem w44(v k:UInt32)(h:Hs)(n q:UInt32):Wk (.agg [.u32 v,.sl (some 112) 36 [.agg [.agg [j4 h,.u32 n],.nils,.u32 q,.nils]],.nils,.u32 k]) (.agg [.u32 v,.sl (some 112) 36 ([(⟨h,n,[],q,[]⟩:InS)].map YS),.sl (some 115) 2 (([]:List OutS).map KO),.u32 k]):=
 .aggL (.cons (.refl _) (.cons (.slL (.cons (u45 h n q) .nil)) (.cons (.nils _ _) (.cons (.refl _) .nil))))
def w53(s:SpS)(sum:UInt64)(i:Nat):UInt64:=
 let v:=sum/UInt64.ofInt ((s.to.length:Nat):Int)
 if i=0 then v-min v s.part.toUInt64 else v
theorem u56{s:SpS}{sum:UInt64}{i:Nat}(h:i=0):w53 s sum i=sum/UInt64.ofInt ((s.to.length:Nat):Int)-(if s.part.toUInt64<sum/UInt64.ofInt ((s.to.length:Nat):Int) then s.part.toUInt64 else sum/UInt64.ofInt ((s.to.length:Nat):Int)):=by
 unfold w53;rw[u4 h]
 congr 1
 show(if _<=_ then _ else _)=_;by_cases hc:s.part.toUInt64<sum/UInt64.ofInt ((s.to.length:Nat):Int)
 ·rw[u4 hc,w3 (λh=>by rw[Y9] at h;rw[J5] at hc;omega)]
 ·rw[w3 hc,u4 (by rw[Y9];rw[J5] at hc;omega)]
theorem u55{s:SpS}{sum:UInt64}{i:Nat}(h:¬ i=0):w53 s sum i=sum/UInt64.ofInt ((s.to.length:Nat):Int):=by
 unfold w53;rw[w3 h]
theorem SG(s:SpS)(sum:UInt64)(i:Nat):KN s sum (i+1)=KN s sum i++[⟨w53 s sum i,HD (s.to[i]!%12)⟩]:=by
 unfold KN;rw[N5,d5];rfl
theorem WS(s:SpS)(sum:UInt64)(i:Nat):(KN s sum i).map KO++[.agg [.u64 (w53 s sum i),.sl (some 5) 1 ((HD (s.to[i]!%12)).map D.u8)]]=(KN s sum (i+1)).map KO:=by
 rw[SG,d5];rfl
theorem w46{n:Nat}(h0:¬ n=0)(h:n<=140737488355328):UInt64.ofInt ((n:Nat):Int)≠0:=by
 intro e;have:=g8 UInt64.toNat e
 have h2:(UInt64.ofInt ((n:Nat):Int)).toNat=n%2^64:=by
  unfold UInt64.ofInt;rw[M0];omega
 rw[h2] at this;have h3:(0:UInt64).toNat=0:=rfl;omega
section
variable{s:SpS}{av:List (Plc×UInt64)}{mark:UInt32}
theorem x24(h:s.two=true)(h2:s.from_.toNat%av.length+1<av.length):UR s av=[⟨av[s.from_.toNat%av.length]!.1.1,av[s.from_.toNat%av.length]!.1.2,[],s.extra.toUInt32,[]⟩,⟨av[s.from_.toNat%av.length+1]!.1.1,av[s.from_.toNat%av.length+1]!.1.2,[s.extra],0,[[s.part],[]]⟩]:=by
 unfold UR;exact u4 ⟨h,h2⟩
theorem q52(h:¬ (s.two=true/\s.from_.toNat%av.length+1<av.length)):UR s av=[⟨av[s.from_.toNat%av.length]!.1.1,av[s.from_.toNat%av.length]!.1.2,[],s.extra.toUInt32,[]⟩]:=by
 unfold UR;exact w3 h
theorem x23(h:s.two=true)(h2:s.from_.toNat%av.length+1<av.length):XI s av=av[s.from_.toNat%av.length]!.2+av[s.from_.toNat%av.length+1]!.2:=by
 unfold XI;exact u4 ⟨h,h2⟩
theorem q51(h:¬ (s.two=true/\s.from_.toNat%av.length+1<av.length)):XI s av=av[s.from_.toNat%av.length]!.2:=by
 unfold XI;exact w3 h
theorem u58(h:av.length=0):EA s av mark=(EP,false):=by
 unfold EA z28;rw[O4 h];rfl
theorem u57(h:s.to.length=0):EA s av mark=(EP,false):=by
 unfold EA z28;rw[O4 h,Bool.or_true];rfl
theorem w16(h:¬ av.length=0)(h2:¬ s.to.length=0):EA s av mark=(v14 s av mark,true):=by
 unfold EA z28;rw[J7 h,J7 h2];rfl
end
section
open Go.Proofs
theorem WR(s:SpS)(av:List (Plc×UInt64))(mark:UInt32)(ha:av.length<=1000000000)(ht0:s.to.length<=140737488355328):Fn Tryz.prog gl 73 [j85 s,.sl none 33 (av.map DY),.sl none 1 (av.map CA),.u32 mark] (.tup [QN (EA s av mark).1,.bool (EA s av mark).2]):=by
 refine Fo 122 Tryz.func73 O λC hC hD=>?_;refine c6 3 [] (V4 0 1 2 3) Zt O (⟨O,_,R.box (gV 0 O) O O nU,(M7 O ⟨O,_,Z3 (kB false O) O nU,tW (V5 1 2 3 4 8) (M4 8 4) 122 O ?_⟩)⟩);refine W.seq (W.seq ?_);by_cases h1:av.length=0
 ·refine R0 9 [.y 15 _,.y 16 _,.y 17 _,.y 18 _,.x 19,.x 20,.x 21,.x 22,.y 23 _] (V6 1 2 3 4 8 23) ⟨xM O,aU<|R2 O,aU<|PJ 0 O,xM O,GR O (dT h1),GR O (dT h1),GR O (dT h1),GR O (dT h1),aU<|z89 O (dT h1) (kB true O),Zt⟩ ?_;refine Y8 O (O) ?_;refine c6 3 (y1 24) (V2 8 24) ⟨λ_ _ H _=>C0 (l:=[.u32 0,.nils,.nils,.u32 0]) (l':=[_,_,_,_]) (.nil O) Zt H,Zt⟩ O (B2 O ⟨O,_,Z3 (kB false O) O nU,tW (V2 8 9) (M4 8 4) 122 O ?_⟩);refine z10 8 (d':=QN EP) (bx':=(M4 8 4)) O RT O ?_;exact W.ret (Ends.many (.inr O) (.cons O O O (iL 31 4) (.cons O O O Zt .nil)) (by rw[u58 h1]) (show[(8,false),(9,true)].Nodup by decide))
 ·refine R0 9 (y9 15 16 17 18 19 20 21 22 23) (V6 1 2 3 4 8 23) ⟨xM O,aU<|R2 O,aU<|PJ 0 O,xM O,aN O (dF h1) (xF O),aN O (dF h1) (xL O),aN O (dF h1)<|R2 O,aN O (dF h1)<|PJ 0 O,aU<|zF O (dF h1),Zt⟩ ?_;refine c4 O (λhc23=>?_) (λhc23=>?_)
  ·refine c6 3 (y1 24) (V2 8 24) ⟨λ_ _ H _=>C0 (l:=[.u32 0,.nils,.nils,.u32 0]) (l':=[_,_,_,_]) (.nil O) Zt H,Zt⟩ O (B2 O ⟨O,_,Z3 (kB false O) O nU,tW (V2 8 9) (M4 8 4) 122 O ?_⟩);refine z10 8 (d':=QN EP) (bx':=(M4 8 4)) O RT O ?_;exact W.ret (Ends.many (.inr O) (.cons O O O (iL 31 4) (.cons O O O Zt .nil)) (by rw[u57 hc23]) (show[(8,false),(9,true)].Nodup by decide))
  ·refine W.skip (u7 7 (y7 25 26 27 28 29 30 10) (V6 1 2 3 4 8 10) ⟨xF O,xL O,zW O,zV O,R2 O,λ_ _ H K=>XA (s.from_.toNat) (av.length) (eU K 27 O) (eU K 29 O) bU H,zA O,Zt⟩ ?_);refine W.seq ?_;have hkl:=R1 s.from_.toNat (show 0<av.length by omega);refine s6 (m:=12) (an:=[0,0,0,6,14,0,32,96,254,510,1023,0,4095]) (its:=(j89 31 32 33 34 35 36 37 38 39 40 41 11)) (ks:=[(10,40)]) (kk:=[(10,40)]) (efs:=[(11,(B8 11))]) (live:=[1,2,4,8,10,11,41]) (env':=(V7 1 2 4 8 10 11 41)) (nd:=40) (bx1:=(QB 11 8 4)) hP dU O ⟨⟨140,O⟩,nU O,O,O,O,O⟩ (          ⟨⟨O,nU O,O,λ_ τ hb ht hτ=>R.mov (evt (hτ 3 _ O)) O ht⟩,⟨⟨O,nU O,O,λ_ τ hb ht hτ=>R.mov (evt (hτ 1 _ O)) O ht⟩,⟨⟨O,nU O,O,λ_ τ hb ht hτ=>R.mov (evt (hτ 10 _ O)) O ht⟩,⟨⟨O,nU O,O,λ_ τ hb ht hτ=>R.idxN ((s.from_.toNat%av.length)) (SC.sl (hτ 32 _ O)) (C5 (evt (hτ 33 _ O))) O bU ht dU⟩,⟨⟨O,nU O,O,λ_ τ hb ht hτ=>R.ldE (hτ 34 _ O) (SC.sl (hτ 32 _ O)) (mG av) O O O O ht⟩,⟨⟨O,nU O,O,λ_ τ hb ht hτ=>R.fdP (hτ 4 _ O) ht⟩,⟨⟨O,nU O,O,λ_ τ hb ht hτ=>R.ldP (hτ 36 _ O) (hb 4 _ O) O O O O ht⟩,⟨⟨O,nU O,O,λ_ τ hb ht hτ=>T6 (d:=.u32 s.extra.toUInt32) (evt (hτ 37 _ O)) O (O) ht⟩,⟨⟨O,nU O,O,λ_ τ hb ht hτ=>C0 (l:=[.agg [.arr 32 1 ((List.replicate 32 0).map D.u8),.u32 0],.nils,.u32 0,.nils]) (l':=[_,_,_,_]) (.cons (evt (hτ 35 _ O)) (.cons (evt (hτ 38 _ O)) (.nil O))) ⟨⟨_,(evt (hτ 35 _ O)),O,O,O⟩,⟨⟨_,(evt (hτ 38 _ O)),O,O,O⟩,Zt⟩⟩ ht⟩,⟨⟨O,nU O,O,λ_ τ hb ht hτ=>Z7 (z:=36) (.cons (evt (hτ 39 _ O)) .nil) ⟨⟨O,O,O⟩,Zt⟩ O ht dU⟩,⟨⟨O,nU O,O,λ_ τ hb ht hτ=>R.bldO (l:=[.u32 0,.nils,.nils,.u32 0]) (l':=[_,_,_,_]) (.pur (kW (.int .u32 2) (.u32 2) O) O O O (.pur (evt (hτ 31 _ O)) O O O (.own (hτ 40 _ O) O O O O (.nil O)))) O ht⟩,⟨⟨O,O,⟨O,nU O⟩,(SpE.alloc O nU)⟩,Zt⟩⟩⟩⟩⟩⟩⟩⟩⟩⟩⟩⟩) O O O (n':=122) O (⟨O,_,S6 (gU 11 O) (xU 11 O) O (gU 41 O) O O (by rfl) (by rfl) O O,⟨[1,2,4,8,10,11],(V6 1 2 4 8 10 11),(QB 11 8 4),122,O,O,O, ?_⟩⟩);refine W.seq ?_;refine z10 11 (d':=.agg [.u32 2,.sl (some 112) 36 ([(⟨av[(s.from_.toNat%av.length)]!.1.1,av[(s.from_.toNat%av.length)]!.1.2,[],s.extra.toUInt32,[]⟩:InS)].map YS),.sl (some 115) 2 (([]:List OutS).map KO),.u32 mark]) (bx':=(QB 11 8 4)) O (w44 _ _ _ _ _) O ?_;refine m7 5 (y5 42 43 44 45 12) (V7 1 2 4 8 10 11 12) ⟨zV O,zV O,zI ((s.from_.toNat%av.length)) O,zL O (mG av),zA O,Zt⟩ ?_;refine RC (λs__=>∃ q__:{q__:Unit//True},s__=⟨122,[(4,.ptr 4 0 []),(8,.ptr 8 0 []),(11,.ptr 11 0 []),(12,.u64 (XI s av))],[(11,.var (.agg [.u32 2,.sl (some 112) 36 ((UR s av).map YS),.sl (some 115) 2 (([]:List OutS).map KO),.u32 mark])),(8,.var (.agg [.u32 0,.nils,.nils,.u32 0])),(4,.var (j85 s))]⟩) ?_ ?_
   ·refine W.seq ?_;by_cases h2:s.two=true
    ·refine R0 9 (y9 46 47 48 49 50 51 52 53 54) (V8 1 2 4 8 10 11 12 54) ⟨aU (xF O),aU (xL O),xM O,aT O (h2)<|zV O,aT O (h2)<|N2 1 O,aT O (h2)<|zV O,aT O (h2)<|R2 O,aT O (h2)<|zS O,aU<|zT O (h2),Zt⟩ ?_;refine c4 O (λhc54=>?_) (λhc54=>?_)
     ·refine W.seq ?_;refine KL 17 [0,1,0,0,8,28,60,0,128,384,0,1024,3072,0,15360,32764,65532,131071,262143,524287] hP dU (v40 55 56 57 58 59 60 61 62 63 64 65 66 67 68 69 70 71) [(14,67),(14,68),(15,64),(15,69),(16,70)] [(14,67),(14,68),(15,64),(15,69),(16,70)] (V8 2 4 8 10 11 12 56 71) ⟨aU (xF O),aU λ_ B H K=>R.ldO (K 55 _ O) (B 11 _ O) O H,xM O,xM O,aU<|N2 1 O,aU<|zI (((s.from_.toNat%av.length)+1)) O,aU<|zL O (mG av),aU (xF O),aU (xL O),aU λ_ _ H K=>Z7 (z:=1) (.cons (eU K 63 O) .nil) ⟨⟨O,O,O⟩,Zt⟩ O H dU,aU (xF O),aU (xL O),aU λ_ _ H K=>Z7 (z:=1) (.cons (eU K 66 O) .nil) ⟨⟨O,O,O⟩,Zt⟩ O H dU,aU λ_ _ H _=>Z7 .nil Zt O H dU,aU λ_ _ H K=>R.bslO (z:=1) (.own (K 67 _ O) O O O O (.own (K 68 _ O) O O O O .nil)) O O H dU,aU λ_ _ H K=>R.bldO (l:=[.agg [.arr 32 1 ((List.replicate 32 0).map D.u8),.u32 0],.nils,.u32 0,.nils]) (l':=[_,_,_,_]) (.pur (eU K 61 O) O O O (.own (K 64 _ O) O O O O (.own (K 69 _ O) O O O O (.nil O)))) O H,aU λ_ _ H K=>R.bslO (z:=36) (.own (K 70 _ O) O O O O .nil) O O H dU,Zt⟩ O (⟨O,_,AU (gU 56 O) (xU 11 O) O O O O (gU 56 O) (gU 71 O) O (show _=([(⟨av[(s.from_.toNat%av.length)]!.1.1,av[(s.from_.toNat%av.length)]!.1.2,[],s.extra.toUInt32,[]⟩:InS),(⟨av[(s.from_.toNat%av.length)+1]!.1.1,av[(s.from_.toNat%av.length)+1]!.1.2,[s.extra],0,[[s.part],[]]⟩:InS)].map YS) from(O)) (by simp) nU dU dU,⟨O,_,R.fdP (gU 11 O) nU,⟨O,_,S6 (gU 73 O) (xU 11 O) O (gU 72 O) O O (by rfl) (by rfl) O O,tW (V6 2 4 8 10 11 12) (QB 11 8 4) 122 O ?_⟩⟩⟩);refine m7 8 (y8 74 75 76 77 78 79 80 12) (V4 4 8 11 12) ⟨zV O,zV O,zV O,N2 1 O,zI (((s.from_.toNat%av.length)+1)) O,zL O (mG av),zB O,zA O,Zt⟩ ?_;exact⟨⟨(()),Zt⟩,(by rw[x24 h2 hc54,x23 h2 hc54]<;>rfl)⟩
     ·refine A8 (V4 4 8 11 12) (QB 11 8 4) 122 O ?_;refine W.skip ?_;exact⟨⟨(()),Zt⟩,(by rw[q52 (λh=>hc54 h.2),q51 (λh=>hc54 h.2)]<;>rfl)⟩
    ·refine R0 9 [.y 46 _,.y 47 _,.y 48 _,.x 49,.x 50,.x 51,.x 52,.x 53,.y 54 _] (V8 1 2 4 8 10 11 12 54) ⟨aU (xF O),aU (xL O),xM O,L0 O (bfalse h2),L0 O (bfalse h2),L0 O (bfalse h2),L0 O (bfalse h2),L0 O (bfalse h2),aU<|RI O (bfalse h2) (kB false O),Zt⟩ ?_;refine Y3 O (O) ?_;refine A8 (V4 4 8 11 12) (QB 11 8 4) 122 O ?_;refine W.skip ?_;exact⟨⟨(()),Zt⟩,(by rw[q52 (λh=>h2 h.1),q51 (λh=>h2 h.1)]<;>rfl)⟩
   ·rintro s__ ⟨⟨_,_⟩,rfl⟩;refine W.seq (u7 1 (y1 13) (V5 4 8 11 12 13) ⟨r6 0 O,Zt⟩ ?_);refine W.block ?_;refine P6 (min s.to.length 4) (λi=>⟨122,[(4,.ptr 4 0 []),(8,.ptr 8 0 []),(11,.ptr 11 0 []),(12,.u64 (XI s av)),(13,.int ((i:Nat):Int))],[(11,.var (.agg [.u32 2,.sl (some 112) 36 ((UR s av).map YS),.sl (some 115) 2 ((KN s (XI s av) i).map KO),.u32 mark])),(8,.var (.agg [.u32 0,.nils,.nils,.u32 0])),(4,.var (j85 s))]⟩) O λi hi=>?_;refine W.seq (W.seq ?_);by_cases h4:i<s.to.length
    ·refine R0 9 (y9 81 82 83 84 85 86 87 88 89) (V6 4 8 11 12 13 89) ⟨xM O,aU (xF O),aU (xL O),aU<|R2 O,aU<|zS O,xM O,aT O (dT h4)<|zV O,aT O (dT h4)<|UC 4 O,aU<|zT O (dT h4),Zt⟩ ?_;refine c4 O (λhc89=>?_) (λhc89=>?_)
     ·refine W.skip (W.seq (W.block (u7 7 (y7 92 93 94 95 96 97 14) (V6 4 8 11 12 13 14) ⟨zV O,xF O,xL O,R2 O,zW O,λ_ _ H K=>R.bin (eU K 92 O) (eU K 96 O) O (w46 hc23 ht0) H,zA O,Zt⟩ ?_)));refine RC (λs__=>∃ q__:{q__:Unit//True},s__=⟨122,[(4,.ptr 4 0 []),(8,.ptr 8 0 []),(11,.ptr 11 0 []),(12,.u64 (XI s av)),(13,.int ((i:Nat):Int)),(14,.u64 (w53 s (XI s av) i))],[(11,.var (.agg [.u32 2,.sl (some 112) 36 ((UR s av).map YS),.sl (some 115) 2 ((KN s (XI s av) i).map KO),.u32 mark])),(8,.var (.agg [.u32 0,.nils,.nils,.u32 0])),(4,.var (j85 s))]⟩) ?_ ?_
      ·refine u7 2 (y2 98 99) (V7 4 8 11 12 13 14 99) ⟨zV O,PJ 0 O,Zt⟩ ?_;refine c4 O (λhc99=>?_) (λhc99=>?_)
       ·refine m7 8 (y8 100 101 102 103 104 105 106 14) (V6 4 8 11 12 13 14) ⟨zV O,zV O,xF O,xL O,λ_ _ H K=>T6 (d:=.u64 s.part.toUInt64) (eU K 103 O) O (O) H,λ_ _ H K=>R.minU (eU K 101 O) (eU K 104 O) H,zB O,zA O,Zt⟩ ?_;exact⟨⟨(()),Zt⟩,(by rw[u56 hc99]<;>rfl)⟩
       ·refine A8 (V6 4 8 11 12 13 14) (QB 11 8 4) 122 O ?_;refine W.skip ?_;exact⟨⟨(()),Zt⟩,(by rw[u55 hc99]<;>rfl)⟩
      ·rintro s__ ⟨⟨_,_⟩,rfl⟩;refine KL 12 [0,1,0,0,8,0,56,120,248,504,1020,2044,4095,8191,16383] hP dU (j89 107 108 109 110 111 112 113 114 115 116 117 118) [(10,116),(11,117)] [(10,116),(11,117)] (V7 4 8 11 12 13 108 118) ⟨aU (xF O),aU λ_ B H K=>R.ldO (K 107 _ O) (B 11 _ O) O H,xM O,aU (xF O),aU (xL O),xM O,aU<|zI i O,aU<|zL O (mG s.to),aU λ_ _ H K=>R.bin (eU K 114 O) (kW (.int .u8 12) (.u8 12) O) O dU H,aU<|zC hC (OC (s.to[i]!%12)) O (F1 (ZS _)),aU λ_ _ H K=>R.bldO (l:=[.u64 0,.nils]) (l':=[_,_]) (.pur (eU K 109 O) O O O (.own (K 116 _ O) O O O O (.nil O))) O H,aU λ_ _ H K=>R.bslO (z:=2) (.own (K 117 _ O) O O O O .nil) O O H dU,Zt⟩ O (⟨O,_,AU (gU 108 O) (xU 11 O) O O O O (gU 108 O) (gU 118 O) O (show _=((KN s (XI s av) (i+1)).map KO) from(WS _ _ _)) (by simp only[z9,KN,G6,j3,j5];omega) nU dU dU,⟨O,_,R.fdP (gU 11 O) nU,⟨O,_,S6 (gU 120 O) (xU 11 O) O (gU 119 O) O O (by rfl) (by rfl) O O,tW (V5 4 8 11 12 13) (QB 11 8 4) 122 O ?_⟩⟩⟩);refine m7 3 (y3 90 91 13) (V5 4 8 11 12 13) ⟨zV O,N2 1 O,zA O,Zt⟩ ?_;exact⟨bU,rfl⟩
     ·obtain rfl:i=min s.to.length 4:=by omega
      refine W.exit (c6 3 [] (V2 8 11) Zt O (⟨O,_,R.ldTake (gU 11 O) (xU 11 O) O O O nU,⟨O,_,S6 (gU 8 O) (xU 8 O) O (gU 121 O) O O (by rfl) (by rfl) O O,⟨O,_,Z3 (kB true O) O nU,tW (V2 8 9) (QB 11 8 4) 122 O ?_⟩⟩⟩));exact W.ret (Ends.many (.inr O) (.cons O O O (iL 31 4) (.cons O O O Zt .nil)) (by rw[w16 h1 hc23]<;>rfl) (show[(8,false),(9,true)].Nodup by decide))
    ·refine R0 9 [.y 81 _,.y 82 _,.y 83 _,.y 84 _,.y 85 _,.y 86 _,.x 87,.x 88,.y 89 _] (V6 4 8 11 12 13 89) ⟨xM O,aU (xF O),aU (xL O),aU<|R2 O,aU<|zS O,xM O,L0 O (dF h4),L0 O (dF h4),aU<|RI O (dF h4) (kB false O),Zt⟩ ?_;refine Y3 O (O) ?_
     obtain rfl:i=min s.to.length 4:=by omega
     refine W.exit (c6 3 [] (V2 8 11) Zt O (⟨O,_,R.ldTake (gU 11 O) (xU 11 O) O O O nU,⟨O,_,S6 (gU 8 O) (xU 8 O) O (gU 121 O) O O (by rfl) (by rfl) O O,⟨O,_,Z3 (kB true O) O nU,tW (V2 8 9) (QB 11 8 4) 122 O ?_⟩⟩⟩));exact W.ret (Ends.many (.inr O) (.cons O O O (iL 31 4) (.cons O O O Zt .nil)) (by rw[w16 h1 hc23]<;>rfl) (show[(8,false),(9,true)].Nodup by decide))
end
theorem k03(n:Nat):D.u8 (UInt8.ofInt ((n:Nat):Int))=.u8 (UInt8.ofNat n):=by
 congr 1
 unfold UInt8.ofInt;apply UInt8.toNat_inj.1;rw[B6,B6];omega
theorem w56(n:Nat):D.int (((n:Nat):Int).fdiv (2^min (8:Int).toNat 64))=.int ((n/256:Nat):Int):=by
 have:=j35 ((n:Nat):Int) 8 (Y4 _) (by decide);rw[Int.toNat_natCast] at this;exact g8 D.int this
theorem u12(s:SpS):(j85 s).brw=j85 s:=by
 simp only[j85,D.brw,G4,b9,K0];rw[X5 (λ_=>rfl)]
theorem u13(x:PlS):(WX x).brw=WX x:=by
 simp only[WX,D.brw,G4,b9,K0];rw[X5 u12]
theorem GX(b:BlkS):(G8 b).brw=G8 b:=by
 simp only[G8,D.brw,G4,b9,K0,CZ];rw[X5 ME]
theorem x81(a e:Nat)(l:List (Plc×UInt64)):D.brwR (.tup [.sl (some a) 33 (l.map DY),.sl (some e) 1 (l.map CA)])=.tup [.sl none 33 (l.map DY),.sl none 1 (l.map CA)]:=by
 show D.tup [D.sl none 33 (QC (l.map DY)),D.sl none 1 (QC (l.map CA))]=_;rw[G4,G4,X5 (λx=>by simp only[DY,z5,D.brw,G4,b9,K0,QQ]),X5 (λ_=>rfl)]
theorem x71(a e:Nat)(l:List (Plc×UInt64)):FrsR (.tup [.sl (some a) 33 (l.map DY),.sl (some e) 1 (l.map CA)]):=
 .inl ⟨_,rfl,S5 (.sl _ _ _ (K7 λx=>.agg _ (S5 (D4 _) (.u32 _)))) (.sl _ _ _ (K7 λ_=>.u64 _))⟩
theorem j27(h:HdS)(b:Bool):FrsR (.tup [C7 h,.bool b]):=.inl ⟨_,rfl,S5 (LT h) (.bool b)⟩
theorem j94(n:Nat)(x:PlS)(mark:UInt32):Wk (.agg [.u32 1,.sl (some 112) 36 [.agg [.agg [j4 zero32,.u32 4294967295],.sl (some 5) 1 [.u8 (UInt8.ofNat n),.u8 (UInt8.ofNat (n/256)),.u8 mark.toUInt8],.u32 0,.nils]],.sl (some 115) 2 [.agg [.u64 5000,.sl (some 5) 1 ((HD (x.pays%12)).map D.u8)]],.u32 mark]) (QN (q70 n x mark)):=
 .aggL (.cons (.refl _) (.cons (.slL (.cons (.aggL (.cons (.refl _) (.cons (.refl _) (.cons (.refl _) (.cons (.nils _ _) .nil))))) .nil)) (.cons (.refl _) (.cons (.refl _) .nil))))
section
variable{l:List BlkS}{x:PlS}{mark:UInt32}{i:Nat}
theorem u78(h:(EA x.spends[i]! (XF (l++[⟨zeroH,YY l x mark i⟩])) mark).2=true):YY l x mark (i+1)=YY l x mark i++[(EA x.spends[i]! (XF (l++[⟨zeroH,YY l x mark i⟩])) mark).1]:=by rw[YY,u4 h]
theorem w33(h:¬ (EA x.spends[i]! (XF (l++[⟨zeroH,YY l x mark i⟩])) mark).2=true):YY l x mark (i+1)=YY l x mark i:=by rw[YY,w3 h]
theorem x61(h:(EA x.spends[i]! (XF (l++[⟨zeroH,YY l x mark i⟩])) mark).2=true):(YY l x mark i).map QN++[QN (EA x.spends[i]! (XF (l++[⟨zeroH,YY l x mark i⟩])) mark).1]=(YY l x mark (i+1)).map QN:=by
 rw[u78 h,d5];rfl
end
theorem HT{α:Type}[Inhabited α]{l:List α}{f:α->D}{j:Nat}(h:j<l.length):(l.take j).map f++[f l[j]!]=(l.take (j+1)).map f:=by
 rw[Z1 l j h,<- List.take_append_getElem h,d5];rfl
theorem ZR(l:List BlkS):(heads l).length=l.length:=z9 _
theorem j00{l:List BlkS}{j:Nat}(h:j<l.length):(heads l)[j]! = l[j]!.hd:=by
 rw[Z1 (heads l) j (by rw[ZR];exact h),Z1 l j h];exact c8 _
theorem z51{l:List BlkS}{j:Nat}(h:j<l.length):((heads l).take j).map C7++[C7 l[j]!.hd]=((heads l).take (j+1)).map C7:=by
 rw[<- HT (by rw[ZR];exact h),j00 h]
theorem z52(l:List BlkS):(heads l).take l.length=heads l:=by rw[<- ZR l,J9]
theorem k99{l:List BlkS}(h:allBl l):allW (heads l):=λx hx=>by
 obtain⟨b,hb,rfl⟩:=n9.1 hx;exact(h.2 b hb).hd
def EK(l:List TxS)(k:Nat):List Hs:=(l.take k).map DU
theorem k96{l:List TxS}{k:Nat}(h:k<l.length):(EK l k).map j4++[j4 (DU l[k]!)]=(EK l (k+1)).map j4:=by
 unfold EK;rw[L5,L5,<- HT h];rfl
theorem k95{l:List TxS}{k:Nat}(h:k<=l.length):(EK l k).length=k:=by
 unfold EK;rw[z9,v5,n6 h]
theorem k97(l:List TxS):EK l l.length=l.map DU:=by
 unfold EK;rw[J9]
section
open Go.Proofs
set_option maxHeartbeats 1000000 in
theorem z53(l:List BlkS)(x:PlS)(mark:UInt32)(hl:allBl l)(h1:1<=l.length)(h99:l.length<=99)(hto:∀ s∈x.spends,s.to.length<=140737488355328):Fn Tryz.prog gl 32 [.agg [.u32 545259519,.int 10,.u32 10,.nils,C7 ZM],.sl none 69 (l.map G8),WX x,.u32 mark] (.tup [HN (KR l x mark).1,.bool (KR l x mark).2]):=by
 refine Fo 136 Tryz.func32 O λC hC hD=>?_;refine c6 4 [] (V4 0 1 2 3) Zt O (⟨O,_,R.box (gV 0 O) O O nU,⟨O,_,R.box (gV 2 O) O O nU,(M7 O ⟨O,_,Z3 (kB false O) O nU,tW (V5 1 3 4 6 8) (QB 8 6 4) 136 O ?_⟩)⟩⟩);refine M3 23 [.y 23 _,.y 24 _,.y 25 _,.y 26 _,.y 27 _,.y 28 _,.y 29 _,.y 30 _,.y 31 _,.y 32 _,.y 33 _,.y 34 _,.y 35 _,.y 36 _,.y 37 _,.y 38 _,.y 39 _,.y 40 _,.y 41 _,.y 42 _,.y 43 _] [(12,34),(13,35),(18,40),(19,41),(20,36),(20,42)] [(12,34),(13,35),(18,40),(19,41),(20,36),(20,42)] (V6 1 3 4 6 8 43) ⟨xM O,aU λ_ _ H _=>C0 (l:=[.arr 32 1 ((List.replicate 32 0).map D.u8),.u32 0]) (l':=[_,_]) (.cons (kW (.int .u32 4294967295) (.u32 4294967295) O) (.nil O)) ⟨⟨_,(kW (.int .u32 4294967295) (.u32 4294967295) O),O,O,O⟩,Zt⟩ H,xM O,aU<|R2 O,aU λ_ _ H K=>T6 (d:=.u8 (UInt8.ofNat l.length)) (eU K 26 O) O (k03 _) H,xM O,aU<|R2 O,aU λ_ _ H K=>P1 (d:=.int (((l.length/256):Nat):Int)) (eU K 29 O) (kW (.int .u64 8) (.u64 8) O) O bV (w56 _) H,aU λ_ _ H K=>T6 (d:=.u8 (UInt8.ofNat (l.length/256))) (eU K 30 O) O (k03 _) H,xM O,aU λ_ _ H K=>T6 (d:=.u8 mark.toUInt8) (eU K 32 O) O (O) H,aU λ_ _ H K=>Z7 (z:=1) (.cons (eU K 27 O) (.cons (eU K 31 O) (.cons (eU K 33 O) .nil))) ⟨⟨O,O,O⟩,⟨O,O,O⟩,⟨O,O,O⟩,Zt⟩ O H dU,aU λ_ _ H K=>R.bldO (l:=[.agg [.arr 32 1 ((List.replicate 32 0).map D.u8),.u32 0],.nils,.u32 0,.nils]) (l':=[_,_,_,_]) (.pur (eU K 24 O) O O O (.own (K 34 _ O) O O O O (.nil O))) O H,aU λ_ _ H K=>R.bslO (z:=36) (.own (K 35 _ O) O O O O .nil) O O H dU,aU (xF O),aU (xL O),aU λ_ _ H K=>R.bin (eU K 38 O) (kW (.int .u8 12) (.u8 12) O) O dU H,aU<|zC hC (OC (x.pays%12)) O (F1 (ZS _)),aU λ_ _ H K=>R.bldO (l:=[.u64 0,.nils]) (l':=[_,_]) (.pur (kW (.int .u64 5000) (.u64 5000) O) O O O (.own (K 40 _ O) O O O O (.nil O))) O H,aU λ_ _ H K=>R.bslO (z:=2) (.own (K 41 _ O) O O O O .nil) O O H dU,aU λ_ _ H K=>R.bldO (l:=[.u32 0,.nils,.nils,.u32 0]) (l':=[_,_,_,_]) (.pur (kW (.int .u32 1) (.u32 1) O) O O O (.pur (eU K 23 O) O O O (.own (K 36 _ O) O O O O (.own (K 42 _ O) O O O O (.nil O))))) O H,Zt⟩ O (M7 O ⟨O,_,S6 (gU 10 O) (xU 10 O) O (gU 43 O) O O (by rfl) (by rfl) O O,tW (V6 1 3 4 6 8 10) (CO 10 8 6 4) 136 O ?_⟩);refine W.seq ?_;refine z10 10 (d':=QN (q70 l.length x mark)) (bx':=(CO 10 8 6 4)) O (j94 _ _ _) O ?_;refine O3 5 [] (V6 1 3 4 6 8 10) Zt O (⟨O,_,R.ldTake (gU 10 O) (xU 10 O) O O O nU,⟨O,_,R.bslO (z:=4) (.own (gU 44 O) O O O O .nil) O O nU dU,⟨O,_,R.bldO (l:=[.agg [.u32 0,.arr 32 1 ((List.replicate 32 0).map D.u8),.arr 32 1 ((List.replicate 32 0).map D.u8),.u32 0,.u32 0,.u32 0],.nils]) (l':=[_,_]) (.own (gU 45 O) O O O O (.nil O)) O nU,(M7 O ⟨O,_,S6 (gU 11 O) (xU 11 O) O (gU 46 O) O O (by rfl) (by rfl) O O,tW (V6 1 3 4 6 8 11) (RE 11 10 8 6 4) 136 O ?_⟩)⟩⟩⟩);refine w01 1 (λs__=>∃ q__:{q__:Unit//True},s__=⟨136,[(1,.sl none 69 (l.map G8)),(4,.ptr 4 0 []),(6,.ptr 6 0 []),(8,.ptr 8 0 []),(11,.ptr 11 0 [])],[(11,.var (.agg [C7 zeroH,.sl (some 31) 4 ((UQ l x mark).map QN)])),(8,.var (.agg [C7 zeroH,.nils])),(6,.var (WX x)),(4,.var (.agg [.u32 545259519,.int 10,.u32 10,.nils,C7 ZM]))]⟩) ?_ ?_
 ·rintro s__ ⟨⟨_,_⟩,rfl⟩;have hsm:=LM hl h99 x mark;refine u7 1 (y1 17) (V6 1 4 6 8 11 17) ⟨QX O,Zt⟩ ?_;refine W.seq (u7 1 (y1 18) (V7 1 4 6 8 11 17 18) ⟨r6 0 O,Zt⟩ ?_);refine W.block ?_;refine P9 (s:=17) 44 68 O ?_;refine P6 l.length (λj=>⟨136,[(1,.sl none 69 (l.map G8)),(4,.ptr 4 0 []),(6,.ptr 6 0 []),(8,.ptr 8 0 []),(11,.ptr 11 0 []),(17,.sl (some 44) 68 (((heads l).take j).map C7)),(18,.int ((j:Nat):Int))],[(11,.var (.agg [C7 zeroH,.sl (some 31) 4 ((UQ l x mark).map QN)])),(8,.var (.agg [C7 zeroH,.nils])),(6,.var (WX x)),(4,.var (.agg [.u32 545259519,.int 10,.u32 10,.nils,C7 ZM]))]⟩) O λj hj=>?_;have hsm:=LM hl h99 x mark;refine W.seq (u7 4 (y4 87 88 89 90) (V8 1 4 6 8 11 17 18 90) ⟨zV O,zV O,R2 O,zS O,Zt⟩ ?_);refine c4 O (λhc90=>?_) (λhc90=>?_)
  ·refine W.skip (W.seq (W.block ?_));refine XU 9 (y9 93 94 95 96 97 98 99 100 17) [(7,17),(8,100),(8,93)] [(7,17),(8,100)] (V7 1 4 6 8 11 17 18) ⟨aU<|zM O,xM O,xM O,aU<|zI j O,aU<|UF O,aU<|zL O (mG l),aU λ_ _ H K=>Z7 (z:=68) (.cons (eU K 98 O) .nil) ⟨⟨O,O,O⟩,Zt⟩ O H dU,aU<|UI O (Y7 O) (show _=(((heads l).take (j+1)).map C7) from(z51 bO)) (by simp only[z9,v5,ZR,j3,j5];omega),aU<|zO O,Zt⟩ O (tU O ?_);refine m7 3 (y3 91 92 18) (V7 1 4 6 8 11 17 18) ⟨zV O,N2 1 O,zA O,Zt⟩ ?_;exact⟨bU,rfl⟩
  ·obtain rfl:j=l.length:=by omega
   rw[z52];refine W.exit (u7 1 (y1 19) (V6 4 6 8 11 17 19) ⟨QX O,Zt⟩ ?_);refine W.seq (u7 1 (y1 20) (V7 4 6 8 11 17 19 20) ⟨r6 0 O,Zt⟩ ?_);refine W.block ?_;refine P9 (s:=19) 23 32 O ?_;refine P6 ((UQ l x mark).length) (λk=>⟨136,[(4,.ptr 4 0 []),(6,.ptr 6 0 []),(8,.ptr 8 0 []),(11,.ptr 11 0 []),(17,.sl (some 44) 68 ((heads l).map C7)),(19,.sl (some 23) 32 ((EK (UQ l x mark) k).map j4)),(20,.int ((k:Nat):Int))],[(11,.var (.agg [C7 zeroH,.sl (some 31) 4 ((UQ l x mark).map QN)])),(8,.var (.agg [C7 zeroH,.nils])),(6,.var (WX x)),(4,.var (.agg [.u32 545259519,.int 10,.u32 10,.nils,C7 ZM]))]⟩) O λk hk=>?_;refine W.seq (u7 5 (y5 101 102 103 104 105) (V8 4 6 8 11 17 19 20 105) ⟨zV O,xF O,λ_ B H K=>R.ldO (K 102 _ O) (B 11 _ O) O H,λ_ B H K=>E5 (SC.alb (K 103 _ O) (B 11 _ O) O) (lN _) H,zS O,Zt⟩ ?_);refine c4 O (λhc105=>?_) (λhc105=>?_)
   ·refine W.skip (W.seq (W.block ?_));refine W.region (WL.cons O (R.al (gU 19 O) nU dU) (x99 6 [(11,.rp (.agg [C7 zeroH,.sl none 4 ((UQ l x mark).map QS)])),(20,.int ((k:Nat):Int))] [(4,.ptr 4 0 []),(6,.ptr 6 0 []),(8,.ptr 8 0 []),(11,.ptr 11 0 []),(17,.sl (some 44) 68 ((heads l).map C7)),(19,.sl (some 23) 32 ((EK (UQ l x mark) k).map j4)),(20,.int ((k:Nat):Int)),(108,.al 19),(114,j4 (DU (UQ l x mark)[k]!))] (.cons (Bor.ptr (gU 11 O) (xU 11 O) O (HM (⟨zeroH,UQ l x mark⟩:BlkS)) O) O (.cons (Bp (gV 20 O) O O) O .nil)) (λC hC0 _ _ hD=>?_) ?_))
    ·have hC:=hC0.trans hC;exact⟨rfl,_,R.fdR (gV 11 rfl) rfl rfl (nU rfl),⟨rfl,_,R.ldR (gV 109 rfl) rfl rfl rfl (nU rfl),⟨rfl,_,R.mov (gV 20 rfl) rfl (nU rfl),⟨rfl,_,R.idxN (k) (SC.sl (gU 110 rfl)) (C5 (gV 111 rfl)) rfl bU (nU rfl) dU,⟨rfl,_,R.ldE (gU 112 rfl) (SC.sl (gU 110 rfl)) (n8 (l:=(UQ l x mark)) bU) rfl rfl rfl rfl (nU rfl),⟨rfl,_,o9 hC (k31 (UQ l x mark)[k]! (hsm.1 _ (P3 (by omega))).wf) (Bc (Bp (gV 113 rfl) rfl rfl) Bn) (FrsR.one (G3 _)) (nU rfl),⟨[114],[(114,_)],[],136,rfl,rfl,rfl,rfl,rfl,⟨⟨rfl,rfl⟩,⟨rfl,rfl⟩,⟨rfl,rfl⟩,⟨rfl,rfl⟩,⟨rfl,rfl⟩,⟨rfl,rfl⟩,⟨rfl,rfl⟩,⟨rfl,rfl⟩,⟨rfl,rfl,rfl,D4 _⟩,Zt⟩⟩⟩⟩⟩⟩⟩⟩
    ·refine⟨rfl,_,Z7 (z:=32) (.cons (gV 114 rfl) .nil) ⟨⟨rfl,rfl,rfl⟩,Zt⟩ rfl (nU rfl) dU,⟨rfl,_,O6 (Or.inr (gU 108 rfl)) (gU 19 rfl) (SrcO.sc (SC.sl (gU 115 rfl)) (Y7 rfl)) (show _=((EK (UQ l x mark) (k+1)).map j4) from(k96 (by omega))) (by simp only[z9,k95 hk,j3,j5];omega) (nU rfl) dU dU,⟨rfl,_,R.asgO (gU 116 rfl) rfl (nU rfl) dU,⟨[4,6,8,11,17,19,20],[(4,_),(6,_),(8,_),(11,_),(17,_),(19,_),(20,_)],[(11,.var _),(8,.var _),(6,.var _),(4,.var _)],136,rfl,rfl,rfl, ?_⟩⟩⟩⟩;refine m7 3 (y3 106 107 20) (V7 4 6 8 11 17 19 20) ⟨zV O,N2 1 O,zA O,Zt⟩ ?_;exact⟨bU,rfl⟩
   ·obtain rfl:k=(UQ l x mark).length:=by omega
    rw[k97];refine W.exit (W.seq ?_);refine s6 (m:=17) (an:=[0,0,0,4,12,0,32,96,252,0,524,2047,4095,8191,8191,0,49151,131071]) (its:=[.y 118 _,.y 119 _,.y 120 _,.y 121 _,.y 122 _,.y 123 _,.y 124 _,.y 125 _,.y 126 _,.y 127 _,.y 128 _,.y 129 _,.y 117 _,.y 130 _,.y 131 _,.y 21 _,⟨152,.dead,true⟩]) (ks:=[(16,152)]) (kk:=[]) (efs:=[(15,(B8 21)),(16,(B8 21))]) (live:=[8,11,21,131]) (env':=(V4 8 11 21 131)) (nd:=40) (bx1:=(RE 21 11 8 6 4)) hP dU O ⟨⟨159,O⟩,nU O,O,O,O,O⟩ (            ⟨⟨O,nU O,O,λ_ τ hb ht hτ=>R.ldP (hτ 4 _ O) (hb 4 _ O) O O O O ht⟩,⟨⟨O,nU O,O,λ_ τ hb ht hτ=>R.al (hτ 17 _ O) ht dU⟩,⟨⟨O,nU O,O,λ_ τ hb ht hτ=>R.al (hτ 17 _ O) ht dU⟩,⟨⟨O,nU O,O,λ_ τ hb ht hτ=>o9 hC (k79 (heads l) (by rw[ZR];omega)) (Bc (Bor.sc (SC.al (hτ 120 _ O) (hτ 17 _ O)) (X5 CZ)) Bn) (F1 (.u32 _)) ht⟩,⟨⟨O,nU O,O,λ_ τ hb ht hτ=>R.bin (evt (hτ 121 _ O)) (kW (.int .u32 1) (.u32 1) O) O Zt ht⟩,⟨⟨O,nU O,O,λ_ τ hb ht hτ=>R.fdP (hτ 6 _ O) ht⟩,⟨⟨O,nU O,O,λ_ τ hb ht hτ=>R.ldP (hτ 123 _ O) (hb 6 _ O) O O O O ht⟩,⟨⟨O,nU O,O,λ_ τ hb ht hτ=>T6 (d:=.u32 x.step.toUInt32) (evt (hτ 124 _ O)) O (O) ht⟩,⟨⟨O,nU O,O,λ_ τ hb ht hτ=>R.bin (evt (hτ 122 _ O)) (evt (hτ 125 _ O)) O Zt ht⟩,⟨⟨O,nU O,O,λ_ τ hb ht hτ=>R.al (hτ 19 _ O) ht dU⟩,⟨⟨O,nU O,O,λ_ τ hb ht hτ=>o9 hC (k25 ((UQ l x mark).map DU) (LB _) (by rw[z9];omega)) (Bc (Bor.sc (SC.al (hτ 127 _ O) (hτ 19 _ O)) (X5 QQ)) Bn) (F1 (G3 _)) ht⟩,⟨⟨O,nU O,O,λ_ τ hb ht hτ=>o9 hC (x43 (heads l) (q11 (heads l)+1+x.step.toUInt32) (XR E7 ((UQ l x mark).map DU)) (k99 hl) (by rw[ZR];omega) (by rw[ZR];omega) (EL BY (LB _))) (Bc (Bp (evt (hτ 118 _ O)) O O) (Bc (Bor.sc (SC.al (hτ 119 _ O) (hτ 17 _ O)) (X5 CZ)) (Bc (Bp (evt (hτ 126 _ O)) O O) (Bc (Bp (evt (hτ 128 _ O)) O O) (Bc (Bp (kW (.int .u32 200) (.u32 200) O) O O) Bn))))) (j27 _ _) ht⟩,⟨⟨O,nU O,O,λ_ τ hb ht hτ=>R.movT (hτ 129 _ O) O ht⟩,⟨⟨O,nU O,O,λ_ τ hb ht hτ=>R.ext (hτ 117 _ O) O O ht⟩,⟨⟨O,nU O,O,λ_ τ hb ht hτ=>R.ext (hτ 117 _ O) O O ht⟩,⟨⟨O,O,⟨O,nU O⟩,(SpE.alloc O nU)⟩,⟨⟨O,O,O,(JW (p:=21) (id:=21) O O O (λτ hτ=>(evt (hτ 130 _ O))) (by rfl) (by rfl) (by rfl) (by rfl) O)⟩,Zt⟩⟩⟩⟩⟩⟩⟩⟩⟩⟩⟩⟩⟩⟩⟩⟩⟩) O O O (n':=136) O (JP O ⟨[8,11,21,22],(V4 8 11 21 22),(RE 21 11 8 6 4),136,O,O,O, ?_⟩);refine c6 3 (y2 132 133) (V5 8 11 22 132 133) ⟨xL O,xF O,Zt⟩ O (B2 O (tW (V3 8 11 22) (RE 21 11 8 6 4) 136 O ?_));refine c6 4 [] (V3 8 11 22) Zt O (⟨O,_,R.ldTake (gU 11 O) (xU 11 O) O O O nU,⟨O,_,R.mov (gV 22 O) O nU,⟨O,_,S6 (gU 8 O) (xU 8 O) O (gU 134 O) O O (by rfl) (by rfl) O O,(JP O (tW (V2 8 9) (RE 21 11 8 6 4) 136 O ?_))⟩⟩⟩);exact W.ret (Ends.many (.inr O) (.cons O O O (iL 78 69) (.cons O O O Zt .nil)) (O) (show[(8,false),(9,true)].Nodup by decide))
 ·intro htail;refine W.seq (W.seq ?_);refine A8 (V6 1 3 4 6 8 11) (RE 11 10 8 6 4) 136 O ?_;refine W.dropB [4,6,8,11] (bx':=(CO 11 8 6 4)) O O O (n7 hD O) ?_;refine m7 1 (y1 12) (V7 1 3 4 6 8 11 12) ⟨r6 0 O,Zt⟩ ?_;refine W.block ?_;refine P6 (min x.spends.length 6) (λi=>⟨136,[(1,.sl none 69 (l.map G8)),(3,.u32 mark),(4,.ptr 4 0 []),(6,.ptr 6 0 []),(8,.ptr 8 0 []),(11,.ptr 11 0 []),(12,.int ((i:Nat):Int))],[(11,.var (.agg [C7 zeroH,.sl (some 31) 4 ((YY l x mark i).map QN)])),(8,.var (.agg [C7 zeroH,.nils])),(6,.var (WX x)),(4,.var (.agg [.u32 545259519,.int 10,.u32 10,.nils,C7 ZM]))]⟩) O λi hi=>?_;have hsm:=j02 hl h99 x mark i (by omega);have hlb:=BV hl h99 (z01 RS hsm.1 (by omega));have hthl:=u9 (k07 hlb) (show 100000000<=1000000000 by decide);refine W.seq (W.seq ?_);by_cases h4:i<x.spends.length
  ·refine R0 9 (y9 47 48 49 50 51 52 53 54 55) (V8 1 3 4 6 8 11 12 55) ⟨xM O,aU (xF O),aU (xL O),aU<|R2 O,aU<|zS O,xM O,aT O (dT h4)<|zV O,aT O (dT h4)<|UC 6 O,aU<|zT O (dT h4),Zt⟩ ?_;refine c4 O (λhc55=>?_) (λhc55=>?_)
   ·refine W.skip (W.seq (W.block ?_));refine W.inl [(1,.sl none 69 (l.map G8)),(3,.u32 mark),(6,.rp (WX x)),(11,.rp (.agg [C7 zeroH,.sl none 4 ((YY l x mark i).map QS)])),(12,.int ((i:Nat):Int))] (.cons (Bp (gV 1 O) O O) O (.cons (Bp (gV 3 O) O O) O (.cons (Bor.ptr (gU 6 O) (xU 6 O) O (u13 x) O) O (.cons (Bor.ptr (gU 11 O) (xU 11 O) O (HM (⟨zeroH,YY l x mark i⟩:BlkS)) O) O (.cons (Bp (gV 12 O) O O) O .nil))))) ?_;refine j70 (σ2:=⟨136,[(3,.u32 mark),(6,.rp (WX x)),(12,.int ((i:Nat):Int)),(13,.sl none 33 ((XF (l++[(⟨zeroH,YY l x mark i⟩:BlkS)])).map DY)),(14,.sl none 1 ((XF (l++[(⟨zeroH,YY l x mark i⟩:BlkS)])).map CA))],[]⟩) hP (λC hC0 _ _ hD=>?_) ?_
    ·have hC:=hC0.trans hC;refine w00 (m:=12) (an:=[0,0,3,0,8,31,63,127,255,255,511,2047]) dU rfl (its:=[.y 59 _,.y 60 _,.y 61 _,.y 62 _,.y 63 _,.y 64 _,.y 65 _,.y 58 _,.y 66 _,.y 67 _,.y 13 _,.y 14 _]) (ks:=[(2,59),(5,61)]) (kk:=[(2,59),(5,61)]) (live:=[3,6,12,13,14]) (env':=[(3,_),(6,_),(12,_),(13,_),(14,_)]) (⟨nU rfl,rfl,⟨aU λ_ _ H _=>Z7 .nil Zt rfl H dU,mU 1 rfl rfl,aU λ_ _ H K=>O6 (Or.inl rfl) (K 59 _ rfl) (SrcO.sc (SC.sl (K 60 _ rfl)) (B0 (λ_=>rfl))) (U0 _) bU H dU dU,aU λ_ _ H K=>R.ldR (eU K 11 rfl) rfl rfl rfl H,aU λ_ _ H K=>Z7 (z:=69) (.cons (eU K 62 rfl) .nil) ⟨⟨rfl,rfl,rfl⟩,Zt⟩ rfl H dU,aU λ_ _ H K=>O6 (Or.inl rfl) (K 61 _ rfl) (SrcO.sc (SC.sl (K 63 _ rfl)) (Y7 rfl)) (show _=((l++[(⟨zeroH,YY l x mark i⟩:BlkS)]).map G8) from(by rw[d5];rfl)) (by simp only[z9,j3,j5];omega) H dU dU,aU λ_ _ H K=>R.callZ (r':=.tup [.sl none 33 ((XF (l++[(⟨zeroH,YY l x mark i⟩:BlkS)])).map DY),.sl none 1 ((XF (l++[(⟨zeroH,YY l x mark i⟩:BlkS)])).map CA)]) (k10 (l++[(⟨zeroH,YY l x mark i⟩:BlkS)]) hlb) hC (Bc (Bor.sc (SC.sl (K 64 _ rfl)) (X5 GX)) Bn) (x71 _ _ _) (x81 _ _ _) H,aU λ_ _ H K=>R.movT (K 65 _ rfl) rfl H,aU λ_ _ H K=>R.ext (K 58 _ rfl) rfl rfl H,aU λ_ _ H K=>R.ext (K 58 _ rfl) rfl rfl H,aU λ_ _ H K=>Z3 (eU K 66 rfl) rfl H,aU λ_ _ H K=>Z3 (eU K 67 rfl) rfl H,Zt⟩,rfl,rfl,rfl⟩) rfl (bx':=[]) rfl (n':=136) rfl (tV [(3,_),(6,_),(12,_),(13,_),(14,_)] [] 136 rfl rfl rfl ?_);exact⟨rfl,rfl⟩
    ·refine WIn.seq ?_;refine WIn.region 12 [(1,.sl none 69 (l.map G8)),(3,.u32 mark),(4,.ptr 4 0 []),(6,.ptr 6 0 []),(8,.ptr 8 0 []),(11,.ptr 11 0 []),(12,.int ((i:Nat):Int)),(78,QN (EA x.spends[i]! (XF (l++[(⟨zeroH,YY l x mark i⟩:BlkS)])) mark).1),(79,.bool (EA x.spends[i]! (XF (l++[(⟨zeroH,YY l x mark i⟩:BlkS)])) mark).2)] (λC hC0 _ _ hD=>?_) ?_
     ·have hC:=hC0.trans hC;exact⟨rfl,_,R.fdR (gV 6 rfl) rfl rfl (nU rfl),⟨rfl,_,R.ldR (gV 69 rfl) rfl rfl rfl (nU rfl),⟨rfl,_,R.mov (gV 12 rfl) rfl (nU rfl),⟨rfl,_,R.idxN (i) (SC.sl (gU 70 rfl)) (C5 (gV 71 rfl)) rfl bU (nU rfl) dU,⟨rfl,_,R.ldE (gU 72 rfl) (SC.sl (gU 70 rfl)) (n8 (l:=x.spends) bU) rfl rfl rfl rfl (nU rfl),⟨rfl,_,R.mov (gV 13 rfl) rfl (nU rfl),⟨rfl,_,R.mov (gV 14 rfl) rfl (nU rfl),⟨rfl,_,R.mov (gV 3 rfl) rfl (nU rfl),⟨rfl,_,o9 hC (WR x.spends[i]! (XF (l++[(⟨zeroH,YY l x mark i⟩:BlkS)])) mark hthl (hto _ (P3 h4))) (Bc (Bp (gV 73 rfl) rfl rfl) (Bc (Bp (gV 74 rfl) rfl rfl) (Bc (Bp (gV 75 rfl) rfl rfl) (Bc (Bp (gV 76 rfl) rfl rfl) Bn)))) (z59 _ _) (nU rfl),⟨rfl,_,R.movTO (gU 77 rfl) rfl (nU rfl),⟨rfl,_,R.extO (gU 68 rfl) rfl rfl rfl rfl rfl (nU rfl),⟨rfl,_,R.ext (gU 68 rfl) rfl rfl (nU rfl),⟨[78,79],[(78,_),(79,_)],[],136,rfl,rfl,rfl,rfl,rfl,⟨⟨rfl,rfl⟩,⟨rfl,rfl⟩,⟨rfl,rfl⟩,⟨rfl,rfl⟩,⟨rfl,rfl⟩,⟨rfl,rfl⟩,⟨rfl,rfl⟩,⟨rfl,rfl,rfl,BP _⟩,⟨rfl,rfl,rfl,.bool _⟩,Zt⟩⟩⟩⟩⟩⟩⟩⟩⟩⟩⟩⟩⟩⟩
     ·refine⟨rfl,_,R.alloc rfl (nU rfl),⟨rfl,_,S6 (gU 15 rfl) (xU 15 rfl) rfl (gU 78 rfl) rfl rfl (by rfl) (by rfl) rfl rfl,⟨rfl,_,Z3 (gV 79 rfl) rfl (nU rfl),⟨[1,3,4,6,8,11,12,15,16],[(1,_),(3,_),(4,_),(6,_),(8,_),(11,_),(12,_),(15,_),(16,_)],[(15,.var _),(11,.var _),(8,.var _),(6,.var _),(4,.var _)],136,rfl,rfl,rfl, ?_⟩⟩⟩⟩;refine u7 1 (y1 80) (V9 1 3 4 6 8 11 12 15 80) ⟨zV O,Zt⟩ ?_;refine W.cond O (λhc80=>?_) (λhc80=>?_)
      ·refine O3 7 (y2 81 82) (V9 1 3 4 6 8 11 12 15 82) ⟨xF O,λ_ B H K=>R.ldO (K 81 _ O) (B 11 _ O) O H,Zt⟩ O (⟨O,_,R.ldTake (gU 15 O) (xU 15 O) O O O nU,⟨O,_,R.bslO (z:=4) (.own (gU 83 O) O O O O .nil) O O nU dU,⟨O,_,AU (gU 82 O) (xU 11 O) O O O O (gU 82 O) (gU 84 O) O (show _=((YY l x mark (i+1)).map QN) from(x61 hc80)) (by simp only[z9,j3,j5];omega) nU dU dU,⟨O,_,R.fdP (gU 11 O) nU,⟨O,_,S6 (gU 86 O) (xU 11 O) O (gU 85 O) O O (by rfl) (by rfl) O O,tW (V7 1 3 4 6 8 11 12) (RE 15 11 8 6 4) 136 O ?_⟩⟩⟩⟩⟩);refine W.dropB [4,6,8,11] (bx':=(CO 11 8 6 4)) O O O (n7 hD O) ?_;refine m7 3 (y3 56 57 12) (V7 1 3 4 6 8 11 12) ⟨zV O,N2 1 O,zA O,Zt⟩ ?_;exact⟨bU,(by first|(rw[w33 (by rw[hc80];exact X8)]<;>rfl)|rfl)⟩
      ·refine W.skip ?_;refine A8 (V7 1 3 4 6 8 11 12) (RE 15 11 8 6 4) 136 O ?_;refine W.dropB [4,6,8,11] (bx':=(CO 11 8 6 4)) O O O (n7 hD O) ?_;refine m7 3 (y3 56 57 12) (V7 1 3 4 6 8 11 12) ⟨zV O,N2 1 O,zA O,Zt⟩ ?_;exact⟨bU,(by first|(rw[w33 (by rw[hc80];exact X8)]<;>rfl)|rfl)⟩
   ·obtain rfl:i=min x.spends.length 6:=by omega
    refine W.exit ?_;refine A8 (V5 1 4 6 8 11) (CO 11 8 6 4) 136 O ?_;exact htail _ ⟨⟨(()),Zt⟩,rfl⟩
  ·refine R0 9 [.y 47 _,.y 48 _,.y 49 _,.y 50 _,.y 51 _,.y 52 _,.x 53,.x 54,.y 55 _] (V8 1 3 4 6 8 11 12 55) ⟨xM O,aU (xF O),aU (xL O),aU<|R2 O,aU<|zS O,xM O,L0 O (dF h4),L0 O (dF h4),aU<|RI O (dF h4) (kB false O),Zt⟩ ?_;refine Y3 O (O) ?_
   obtain rfl:i=min x.spends.length 6:=by omega
   refine W.exit ?_;refine A8 (V5 1 4 6 8 11) (CO 11 8 6 4) 136 O ?_;exact htail _ ⟨⟨(()),Zt⟩,rfl⟩
end
theorem x05(n:Nat):D.u32 (UInt32.ofInt ((n:Nat):Int))=.u32 (UInt32.ofNat n):=by
 congr 1
 unfold UInt32.ofInt;apply R8.1;rw[U3,U3];omega
theorem j95(h:HdS):Wk (.sl (some 78) 69 [.agg [C7 h,.nils]]) (.sl (some 78) 69 ([(⟨h,[]⟩:BlkS)].map G8)):=
 .slL (.cons (.aggL (.cons (.refl _) (.cons (.nils _ _) .nil))) .nil)
theorem j55(b:BlkS)(c:Bool):D.brwR (.tup [HN b,.bool c])=.tup [G8 b,.bool c]:=by
 show D.tup [(HN b).brw,.bool c]=_;rw[HM]
def w38(ps:List PlS):Prop:=∀ x∈ps,∀ s∈x.spends,s.to.length<=140737488355328
section
variable{ps:List PlS}{i:Nat}
theorem j59(h:(KR (ZD ps i) ps[i]! (UInt32.ofNat i)).2=false):ZD ps (i+1)=ZD ps i:=by rw[ZD,w3 (by rw[h];exact X8)]
theorem j60(h:(KR (ZD ps i) ps[i]! (UInt32.ofNat i)).2=true):(ZD ps i).map G8++[G8 (KR (ZD ps i) ps[i]! (UInt32.ofNat i)).1]=(ZD ps (i+1)).map G8:=by
 rw[ZD,u4 h,d5];rfl
end
theorem VP(o:Option Nat)(z:Nat)(l:List BlkS):(D.sl o z (l.map G8)).brw=.sl none z (l.map G8):=by
 simp only[D.brw,G4];rw[X5 GX]
section
variable{P:Program}{C:Ctx}{σ σ' σ1:Sg}{a:Act}{w w':World}{ρ:Nat->Nat}{Fe Fe' Fb:Nat->List Nat}
variable{κ α:Type}[DecidableEq κ]
structure KeyD(P:Program)(kd:κ->D):Prop where
 same:∀ (w:World) (ρ:Nat->Nat) (G L:Nat->Prop) (k:κ) (v v':Value) (F F':List Nat),VR w ρ G L (kd k) v F->VR w ρ G L (kd k) v' F'->Instr.sameBits 10000 v v'=true
omit [DecidableEq κ] in
theorem q62{m:Nat->Nat}{kd:κ->D}{f:α->D}(h1:∀ a,(kd a).ren m=kd a)(h2:∀ u,(f u).ren m=f u)(M:List (κ×α))(i:Nat)(r:List (Nat×Bx)):Z0 m ((i,v6 kd f M)::r)=(m i,v6 kd f M)::Z0 m r:=by
 have e:(M.map λe=>(kd e.1,f e.2)).map (λkv=>(kv.1.ren m,kv.2.ren m))=M.map λe=>(kd e.1,f e.2):=by
  rw[L5]
  exact List.map_congr_left λe _=>by simp[h1,h2]
 simp only[Z0,v6,Bx.ren,e]
end
section
open Go.Proofs
theorem QA:KeyC Tryz.prog 109 z5 3 where
 s:=⟨_,Tryz.underlying109,trivial⟩
 eq:=λa b=>by
  have h:=ZV a b
  have e:(@BEq.beq Plc instBEqProd a b)=(@BEq.beq Plc instBEqOfDecidableEq a b):=by
   rw[J1,@beq_iff_eq Plc instBEqProd _ a b,@beq_iff_eq Plc instBEqOfDecidableEq _ a b]
  rw[<- e];exact h
 ck:=λa=>CkV.struct (k:=2) Tryz.underlying109 (.cons rfl rfl inferInstance rfl rfl (CkV.arr a.1) (.cons rfl rfl inferInstance rfl rfl (j84 (CkV.u32 Tryz.underlying27 a.2)) .nil))
 n:=rfl
 p:=λ_=>rfl
theorem CV{w:World}{ρ:Nat->Nat}{G L:Nat->Prop}{p:Bool}{n:Nat}{h:List UInt8}{cs:List Value}{F:List Nat}(hr:Rc w ρ G L p (.arr n 1 (h.map D.u8)) cs F):cs=h.map λb=>Value.int .u8 b.toNat:=by
 cases hr with
 | arr _ _ _ _ hl hs hr=>
  rw[z9] at hl;refine List.ext_getElem (by rw[hs,z9];omega) λi h1 h2=>?_
  have hi:i<h.length:=by simpa using h2
  have:=hr i (by simpa using hi);rw[c8] at this
  have e:(cs.drop (i*1)).take 1=[cs[i]]:=by
   rw[Nat.mul_one,p8 h1];rfl
  rw[e] at this;rw[c8];generalize cs[i]=v at this;cases this;rfl
theorem ET{w:World}{ρ:Nat->Nat}{G L:Nat->Prop}{p:Bool}{k:Plc}{cs:List Value}{F:List Nat}(hr:Rc w ρ G L p (z5 k) cs F):cs=(k.1.map λb=>Value.int .u8 b.toNat)++[.int .u32 k.2.toNat]:=by
 cases hr with
 | agg _ _ Fs hs hr=>
  have h0:=hr 0 (by simp);have h1:=hr 1 (by simp);have e0:offk [j4 k.1,D.u32 k.2] 0=0:=rfl;have e1:offk [j4 k.1,D.u32 k.2] 1=32:=rfl;simp only[Z2,J6,e0,e1,K5] at h0 h1;have hs':cs.length=33:=hs;have q0:=CV h0
  have q1:(cs.drop 32).take 1=[.int .u32 k.2.toNat]:=by
   have e2:(D.u32 k.2).sz=1:=rfl;rw[e2] at h1;generalize (cs.drop 32).take 1=c at h1;generalize Fs 1=F1 at h1;cases h1;rfl
  have e3:(j4 k.1).sz=32:=rfl;rw[e3] at q0;have e4:(cs.drop 32).take 1=cs.drop 32:=m4 (by rw[v8];omega);rw[e4] at q1;rw[<- q0,<- q1,K9]
theorem EI:∀ (l:List Value),(∀ v∈l,∃ k n,v=.int k n)->((l.zip l).all λ(x,y)=>Instr.sameBits 9999 x y)=true:=by
 intro l
 induction l with
 | nil=>intro _;rfl
 | cons v l ih=>
  intro h;obtain⟨k,n,rfl⟩:=h v (by simp);have hl:=ih λv hv=>h v (by simp[hv]);simp only[List.zip_cons_cons,E6,hl,i8];simp[Instr.sameBits]
theorem NM:KeyD Tryz.prog z5 where
 same:=λw ρ G L k v v' F F' h h'=>by
  have a1:(z5 k).isAgg=true:=rfl;simp only[VR,a1,j9] at h h';obtain⟨cs,rfl,h⟩:=h;obtain⟨cs',rfl,h'⟩:=h';have q:=ET h;have q':=ET h';have e:cs=cs':=Array.toList_inj.1 (q.trans q'.symm);subst e;show Instr.sameBits (9999+1) _ _=true;simp only[Instr.sameBits,beq_self_eq_true,U9];refine EI _ λv hv=>?_;rw[q] at hv
  rcases Q9.1 hv with hv|hv
  ·obtain⟨b,_,rfl⟩:=n9.1 hv;exact⟨_,_,rfl⟩
  ·rw[d8.1 hv];exact⟨_,_,rfl⟩
theorem ND(m:Nat->Nat)(h:Hs):(j4 h).ren m=j4 h:=by
 simp only[j4,D.ren,ZZ,L5,Function.comp_def]
theorem q61(m:Nat->Nat)(k:Plc):(z5 k).ren m=z5 k:=by
 simp only[z5,D.ren,KJ,ND]
structure PvS where
 h:Int
 head:Hs
 at_:Int
 id:Hs
 raw:List UInt8
 br:List Hs
 t:TxS
 deriving Inhabited
abbrev j88:=Int×Hs
def q89(e:j88):D:=.agg [.int e.1,j4 e.2]
abbrev z85:=Plc×UInt64×Int
def GI(u:z85):D:=.agg [z5 u.1,.u64 u.2.1,.int u.2.2]
def PE(k:UInt8):Hs:=IN (HD k)
def w19(o:OutS)(sc:Hs):Bool:=IN o.script==sc
def v62(t:TxS)(sc:Hs)(k:Nat):Bool:=(List.range k).any λj=>w19 t.outs[j]! sc
def v67(all:List StS)(i:Nat)(x:InS)(sc:Hs):Bool:=match u65 all i (plc x) with
 | some o=>w19 o sc
 | none=>false
def v63(all:List StS)(i:Nat)(sc:Hs)(k:Nat):Bool:=(List.range k).any λj=>v67 all i all[i]!.t.ins[j]! sc
def v66(all:List StS)(i:Nat)(sc:Hs):Bool:=v62 all[i]!.t sc all[i]!.t.outs.length||v63 all i sc all[i]!.t.ins.length
def w91(all:List StS)(sc:Hs):Nat->List j88
 | 0=>[]
 | i+1=>if v66 all i sc=true then w91 all sc i++[(((all[i]!.h:Nat):Int),all[i]!.id)] else w91 all sc i
def w32(l:List BlkS)(sc:Hs):List j88:=w91 (W4 l) sc (W4 l).length
end
section
def v31(es:List j88)(id:Hs)(j:Nat):Bool:=(List.range j).any λq=>es[q]!.2==id
def v65(l:List BlkS)(ks:List UInt8)(id:Hs)(k:Nat):Bool:=(List.range k).any λq=>v31 (w32 l (PE (ks[q]!%12))) id (w32 l (PE (ks[q]!%12))).length
def u51(l:List BlkS)(ks:List UInt8):Nat->List StS
 | 0=>[]
 | i+1=>if v65 l ks (W4 l)[i]!.id ks.length=true then u51 l ks i++[(W4 l)[i]!] else u51 l ks i
theorem k61{b:Bool}(h:(!b)=false):b=true:=by cases b;cases h;rfl
theorem w21{b:Bool}(h:(!b)=true):b=false:=by cases b;rfl;cases h
section
variable{l:List BlkS}{ks:List UInt8}{i:Nat}
end
theorem LV(e z:Nat)(l:List j88):FrsR (.sl (some e) z (l.map q89)):=.inr ⟨λds e=>(by cases e),.sl _ _ _ (K7 λx=>.agg _ (S5 (.int _) (D4 _)))⟩
theorem LS(e z:Nat)(l:List z85):FrsR (.sl (some e) z (l.map GI)):=.inr ⟨λds e=>(by cases e),.sl _ _ _ (K7 λx=>.agg _ (λy hy=>by
 simp only[w5,M2,QR] at hy
 rcases hy with rfl|rfl|rfl
 ·exact .agg _ (S5 (D4 _) (.u32 _))
 ·exact .u64 _
 ·exact .int _))⟩
def nK(n:Nat):UInt32:=UInt32.ofInt ((n:Nat):Int)
def v02(u:List z85):Nat->UInt64
 | 0=>0
 | i+1=>v02 u i+u[i]!.2.1
def u29(u:List z85):UInt64:=v02 u u.length
section
variable{l:List PvS}{p:PvS}{sc:Hs}{n i k:Nat}{t:TxS}{ks:List Plc}
end
open Go.Proofs
end
section
open Go.Proofs
def PY(l:List InS):Nat->List (Plc×Int)
 | 0=>[]
 | i+1=>PY l i++[(plc l[i]!,((i:Nat):Int))]
def AA(l:List OutS):Nat->UInt64
 | 0=>0
 | i+1=>AA l i+l[i]!.value
def x45(t:TxS):Prop:=
 t.ins.length≠0/\t.outs.length≠0/\(∀ i<t.ins.length,S4 (PY t.ins i) (plc t.ins[i]!)=false)/\(∀ i<t.outs.length,¬ 2100000000000000<t.outs[i]!.value/\¬ 2100000000000000<AA t.outs (i+1))/\(z34 t).length<=16384
instance(t:TxS):Decidable (x45 t):=by unfold x45;infer_instance
def DB(t:TxS):Bool:=decide (x45 t)
theorem w82{t:TxS}(h:t.ins.length=0):DB t=false:=J7 λhm=>hm.1 h
theorem w81{t:TxS}(h:t.outs.length=0):DB t=false:=J7 λhm=>hm.2.1 h
theorem w80{t:TxS}{i:Nat}(hi:i<t.ins.length)(h:S4 (PY t.ins i) (plc t.ins[i]!)=true):DB t=false:=J7 λhm=>by have:=hm.2.2.1 i hi;rw[h] at this;cases this
theorem w79{t:TxS}{i:Nat}(hi:i<t.outs.length)(h:2100000000000000<t.outs[i]!.value):DB t=false:=J7 λhm=>(hm.2.2.2.1 i hi).1 h
theorem w78{t:TxS}{i:Nat}(hi:i<t.outs.length)(h:2100000000000000<AA t.outs (i+1)):DB t=false:=J7 λhm=>(hm.2.2.2.1 i hi).2 h
theorem x44{t:TxS}(h1:¬ t.ins.length=0)(h2:¬ t.outs.length=0)(h3:∀ i<t.ins.length,S4 (PY t.ins i) (plc t.ins[i]!)=false)
 (h4:∀ i<t.outs.length,¬ 2100000000000000<t.outs[i]!.value/\¬ 2100000000000000<AA t.outs (i+1)):DB t=decide ((z34 t).length<=16384):=by
 unfold DB x45;simp only[ne_eq,h1,h2,not_false_eq_true,true_and,H3];exact⟨λh=>h.2.2,λh=>⟨h3,h4,h⟩⟩
end
section
open Go.Proofs
theorem SK(k:UInt8):Fn Tryz.prog gl 18 [.u8 k] (j4 (PE k)):=by
 refine Fn.of (n:=6) Tryz.func18 rfl rfl rfl (g0 rfl) λC hC hD=>?_;refine W.seq ?_;refine PQ (n:=1) (by decide) (its:=[]) (ks:=[]) (kk:=[]) (live:=[0]) (env':=[(0,_)])
  (⟨g0 rfl,rfl,
   trivial,rfl,rfl,rfl⟩)
  rfl (bx':=[]) rfl (n':=6) rfl (⟨rfl,_,R.alloc rfl (g0 rfl),⟨[0,2],[(0,_),(2,_)],[(2,.var _)],6,rfl,rfl,rfl, ?_⟩⟩)
 refine W.seq ?_;refine PQ (n:=4) (by decide) (its:=[⟨3,_,true⟩,⟨4,_,true⟩,⟨5,_,true⟩]) (ks:=[]) (kk:=[]) (live:=[2,5]) (env':=[(2,_),(5,_)])
  (⟨g0 rfl,rfl,
   ⟨⟨rfl,rfl,λ_ τ hb ht hτ=>R.mov (evt (hτ 0 _ rfl)) rfl ht⟩,
   ⟨⟨rfl,rfl,λ_ τ hb ht hτ=>o9 hC (OC k) (Bors.cons (Bor.pur (evt (hτ 3 _ rfl)) rfl rfl) Bors.nil) (FrsR.one (ZS _)) ht⟩,
   ⟨⟨rfl,rfl,λ_ τ hb ht hτ=>o9 hC (MK (HD k) (by rw[OD];decide)) (Bors.cons (Bor.sc (SC.sl (hτ 4 _ rfl)) (X5 (λ_=>rfl))) Bors.nil) (FrsR.one (G3 _)) ht⟩,
   trivial⟩⟩⟩,rfl,rfl,rfl⟩)
  rfl (bx':=[(2,.var _)]) rfl (n':=6) rfl (⟨rfl,_,XP (show Sg.get _ 2=some _ from rfl) (show Sg.box _ 2=some _ from rfl) rfl (evt (show Sg.get _ 5=some _ from rfl)) (by rfl) (by rfl) (by rfl) (by rfl) rfl,⟨[2],[(2,_)],[(2,.var _)],6,rfl,rfl,rfl, ?_⟩⟩)
 refine W.ret ?_;exact Ends.one' (.inr rfl) rfl (rfl) rfl rfl (show LdT _ 23 32 true from inferInstance)
end
section
open Go.Proofs
end
section
open Go.Proofs
end
section
variable{α:Type}[Inhabited α][BEq α][LawfulBEq α]{a b:List α}
end
section
variable{P:Program}{C:Ctx}{σ σ' σ1:Sg}{a:Act}{w w':World}{ρ:Nat->Nat}{Fe Fe' Fb:Nat->List Nat}
variable{κ α:Type}[DecidableEq κ]
def LD(m:List (κ×α))(k:κ)(u:α):List (κ×α):=if R5 m k<m.length then m.set (R5 m k) (k,u) else m++[(k,u)]
theorem k93{m:List (κ×α)}{k:κ}(h:R5 m k<m.length):m[R5 m k].1=k:=by
 have h1:(λe:κ×α=>e.1==k) m[m.findIdx (λe:κ×α=>e.1==k)]=true:=List.findIdx_getElem (w:=h);exact p7.1 h1
theorem R.mupdU{kd:κ->D}{f:α->D}{m:List (κ×α)}{n:Nat}{p id:Nat}{x y:Operand}{k:κ}{u:α}{dk dv:D}{ty kt et rt:TypeId}{pos:String}{aft:Array Edge}{g:Option (Nat×Bool)}[hT:MkT P ty kt et]
 (H:KeyC P kt kd n) (H2:KeyD P kd) (h:σ.get p=some (.map id)) (hb:σ.box id=some (v6 kd f m)) (hx:ev C.gl σ x=some dk) (hdk:dk=kd k) (hy:ev C.gl σ y=some dv) (hd:dv=f u) (hp:dv.pur=true) :
 OpS P C ⟨none,.mapUpdate ty (.tmp p) x y,rt,pos,aft,g⟩ σ (σ.putB id (v6 kd f (LD m k u))):=by
 by_cases hin:R5 m k<m.length
 ·have he:LD m k u=m.set (R5 m k) (k,u):=u4 hin;rw[he];subst hdk;subst hd;refine OpS.skip rfl λa w ⟨ρ,Fe,Fb,st⟩=>?_;have hpm:=DP st h;obtain⟨Fx,hvx,_⟩:=H5 st hx (D9 (H.p k));have hF0:=hvx.pur (H.p k);rw[hF0] at hvx;obtain⟨Fy,hvy,_⟩:=H5 st hy (D9 hp);have hFy:=hvy.pur hp;rw[hFy] at hvy;obtain⟨hF,es,clock,h2,h3,h4⟩:=NW (st.bx _ _ hb);have hfk:=H.findKey hvx es.toList m (by simpa using h3) (λj hj=>by have:=(h4 j hj).1;simpa [v9] using this);obtain⟨q1,q2⟩:=h4 _ hin
  have hsz:R5 m k<es.size:=by omega
  have hgd:es.getD (R5 m k) default=es[R5 m k]:=by simp[v9,hsz]
  rw[hgd,k93 hin] at q1;have hsame:=H2.same w ρ _ _ k _ _ _ _ q1 hvx
  have st2:=st.putMk (clock:=clock) (es:=es.modify (R5 m k) λe=>{ e with key:=a.eval x,val:=a.eval y }) (m':=m.set (R5 m k) (k,u)) hb (by simpa using h3) (λj hj=>by
   have hj':j<m.length:=by simpa using hj
   obtain⟨r1,r2⟩:=h4 j hj'
   have hjs:j<es.size:=by omega
   have hgj:es.getD j default=es[j]:=by simp[v9,hjs]
   rw[hgj] at r1 r2;rw[v9,O8 (by simpa using hjs),Option.getD_some,Array.getElem_modify,List.getElem_set];by_cases hij:R5 m k=j
   ·subst hij;simp only[j9];exact⟨hvx,hvy⟩
   ·simp only[hij,q8]
    exact⟨r1,r2⟩)
  refine⟨_, ?_,ρ,Fe,_,st2⟩;unfold execOp;simp[Instr.mapUpdate,run_underlying hT.u,Q3 hpm,MapKept.run_getObj_map h2,H.check hvx,hfk,hin,Instr.keyThatStays,hsame,hsz,MapKept.run_setObj_map _ h2]
 ·have he:LD m k u=m++[(k,u)]:=w3 hin;rw[he];refine R.mupdN H h hb hx hdk hy hd hp ?_
  cases hh:S4 m k with
  | false=>rfl
  | true=>exact absurd ((MP m k).2 hh) hin
theorem j78{id:Nat}{d d':D}{ids:List Nat}{bx':List (Nat×Bx)}{env':List (Nat×D)}(hb0:σ.box id=some (.var d))(he:d.brw=d')(hnp:d'.np=true)(hid:K2 ids id=false)(hb:M9 ids σ.bx=bx')
 (hE:q20 id d' σ.env=env') (hoE:QG ids env'=true) (hoB:ZK ids bx') (hpn:∀ id b,C.pin id=some b->K2 ids id=true) (hs:St C σ a w):St C ⟨σ.n,env',bx'⟩ a w:=by
 obtain⟨ρ,Fe,Fb,st⟩:=hs
 have hl:∀ u,lk bx' u=if K2 ids u then σ.box u else none:=λu=>by rw[<- hb];exact l6 ids σ.bx u
 have hsub:∀ id,∀ b∈(if K2 ids id then Fb id else[]),b∈Fb id:=λid b hm=>by split at hm;exact hm;cases hm
 have hown:∀ b,own Fe (λid=>if K2 ids id then Fb id else[]) b->own Fe Fb b:=λb hb=>hb.imp (λh=>h) λ⟨i,hi⟩=>⟨i,hsub i b hi⟩
 have hgd:∀ b,gd C Fe Fb b->gd C Fe (λid=>if K2 ids id then Fb id else[]) b:=λb hb=>⟨hb.1,λhc=>hb.2 (hown b hc)⟩
 have hgd2:∀ b∈Fb id,gd C Fe (λid=>if K2 ids id then Fb id else[]) b:=λb hb=>⟨st.okO b (.inr ⟨id,hb⟩),by
  rintro (⟨u,hu⟩|⟨i,hi⟩)
  ·exact st.dEB u id b hu hb
  ·by_cases hii:i=id
   ·subst hii;simp[hid] at hi
   ·exact st.dBB i id hii b (hsub i b hi) hb⟩
 have hL:∀ i,(K2 ids i=true/\(σ.box i).isSome)->(lk bx' i).isSome:=λi ⟨h1,h2⟩=>by rw[hl,u4 h1];exact h2
 refine⟨ρ,Fe,(λid=>if K2 ids id then Fb id else[]),{
  size:=st.size
  defs:=st.defs
  pin:=λid b hp=>⟨(st.pin id b hp).1,hL id ⟨hpn id b hp,(st.pin id b hp).2⟩⟩
  env:=λt x hx=>?_
  envN:=λt ht=>?_
  bx:=λi b hd=>?_
  bxN:=λi hn=>?_
  nodE:=st.nodE
  nodB:=λid=>by show(if K2 ids id then Fb id else[]).Nodup;split;exact st.nodB id;exact w9
  dEE:=st.dEE
  dEB:=λt i b hb hm=>st.dEB t i b hb (hsub i b hm)
  dBB:=λi i' hne b hb hm=>st.dBB i i' hne b (hsub i b hb) (hsub i' b hm)
  new:=λb hb=>st.new b (hown b hb)
  kept:=st.kept
  os:=st.os
  tape:=⟨st.tape.tp,st.tape.dr⟩
  output:=st.output
  grown:=st.grown
  gl:=st.gl
  okN:=st.okN
  okO:=λb hb=>st.okO b (hown b hb) }⟩
 ·have hx0:lk env' t=some x:=hx;have hok:=QY hoE hx0;rw[<- hE,MC,p9] at hx0;obtain⟨x0,hx1,hx2⟩:=hx0
  rcases OO id d' x0 with ⟨rfl,hf⟩|hf
  ·rw[hf] at hx2;subst hx2;obtain⟨v,hv,hr⟩:=(c5 rfl).1 (st.env t _ hx1);refine(c5 rfl).2 ⟨v,hv, ?_⟩;simp only[VR,D.isAgg,q7,q8] at hr ⊢;generalize Fe t=F at hr ⊢;cases hr;obtain⟨cs,e,F',q1,q2,q3⟩:=st.bx id _ hb0;have h4:=q2.brw (G':=gd C Fe (λid=>if K2 ids id then Fb id else[])) (λb hb=>hgd2 b (by rw[q3];exact j1 _ hb)) (λb hb _=>hgd b hb);have hlen:=q2.len;rw[he] at h4
   have hsz:d'.sz=d.sz:=by rw[<- he,CL]
   refine .rp d' (ρ id) 0 cs e (0,0) q1 (hgd2 _ (by rw[q3];simp)) (by rw[hsz];simp at hlen;omega) ?_
   have hcs:(cs.toList.drop 0).take d'.sz=cs.toList:=by rw[hsz,<- hlen,K5];exact J9
   rw[hcs];exact(h4.unflag hnp).noL
  ·rw[hf] at hx2;subst hx2;exact(st.env t _ hx1).okB hok (λb hb _=>hgd b hb) hL
 ·have ht':lk env' t=none:=ht;rw[<- hE,MC,n3] at ht';exact st.envN t ht'
 ·have hok:=JU hoB hd;have h1:=hl i;by_cases hm:K2 ids i=true
  ·rw[u4 hm] at h1
   have h2:σ.box i=some b:=by rw[<- h1];exact hd
   have hF':(if K2 ids i then Fb i else[])=Fb i:=u4 hm;show BR w ρ _ _ (ρ i) b (if K2 ids i then Fb i else[]);rw[hF'];exact((st.bx i b h2).okB hok).mono (λ_ _ _=>rfl) (λb hb _=>hgd b hb) (λi hi=>⟨hL i hi,rfl⟩)
  ·rw[w3 hm] at h1;rw[show lk bx' i=some b from hd] at h1;cases h1
 ·have h1:=hl i;by_cases hm:K2 ids i=true
  ·rw[u4 hm] at h1;simp only[hm,j9];exact st.bxN i (by rw[<- h1];exact hn)
  ·simp[hm]
theorem CG{c:Code}{Q:Exit->Sg->Prop}(id:Nat){d d':D}(ids:List Nat){bx':List (Nat×Bx)}{env':List (Nat×D)}(hb0:σ.box id=some (.var d))(he:d.brw=d')(hnp:d'.np=true)(hid:K2 ids id=false)(hb:M9 ids σ.bx=bx')
 (hE:q20 id d' σ.env=env') (hoE:QG ids env'=true) (hoB:ZK ids bx') (hpn:∀ id b,C.pin id=some b->K2 ids id=true) (h:W P C c Q ⟨σ.n,env',bx'⟩):W P C c Q σ:=
 λa w hs=>h a w (j78 hb0 he hnp hid hb hE hoE hoB hpn hs)
end
end Go.Sx
namespace Go.Sx
abbrev EC:=UInt64×Hs
def H8(o:EC):D:=.agg [.u64 o.1,j4 o.2]
def w7(_:Unit):D:=.agg []
def w15:EC:=(0,zero32)
structure BkS where
 outs:List (Plc×EC)
 spent:List (Plc×Unit)
 ids:List (Hs×Unit)
def bk0:BkS:=⟨[],[],[]⟩
def v01(m:List (Plc×Unit))(l:List InS):Nat->List (Plc×Unit)
 | 0=>m
 | i+1=>LD (v01 m l i) (plc l[i]!) ()
def x69(m:List (Plc×EC))(id:Hs)(l:List OutS):Nat->List (Plc×EC)
 | 0=>m
 | k+1=>LD (x69 m id l k) (id,nK k) (l[k]!.value,HW l[k]!.script)
def TR(b:BkS)(t:TxS):List (Plc×Unit):=if R3 t=true then b.spent else v01 b.spent t.ins t.ins.length
def LA(b:BkS)(id:Hs)(t:TxS):BkS:=if S4 b.ids id=true then⟨b.outs,TR b t,b.ids⟩ else⟨x69 b.outs id t.outs t.outs.length,TR b t,LD b.ids id ()⟩
theorem w97{b:BkS}{id:Hs}{t:TxS}(h:S4 b.ids id=true):LA b id t=⟨b.outs,TR b t,b.ids⟩:=u4 h
theorem w98{b:BkS}{id:Hs}{t:TxS}(h:S4 b.ids id=false):LA b id t=⟨x69 b.outs id t.outs t.outs.length,TR b t,LD b.ids id ()⟩:=w3 (by rw[h];exact X8)
theorem w95{b:BkS}{t:TxS}(h:R3 t=true):TR b t=b.spent:=u4 h
theorem w96{b:BkS}{t:TxS}(h:R3 t=false):TR b t=v01 b.spent t.ins t.ins.length:=w3 (by rw[h];exact X8)
def KI(b:BkS)(l:List InS):Nat->List Hs
 | 0=>[]
 | i+1=>if S4 b.outs (plc l[i]!)=true then KI b l i++[(DA w15 b.outs (plc l[i]!)).2] else KI b l i
def OM(l:List OutS):Nat->List Hs
 | 0=>[]
 | k+1=>OM l k++[HW l[k]!.script]
def KF(b:BkS)(t:TxS):List Hs:=KI b t.ins t.ins.length++OM t.outs t.outs.length
theorem TI(l:List OutS)(k:Nat):(OM l k).length=k:=by
 induction k with
 | zero=>rfl
 | succ k ih=>simp[OM,ih]
theorem q18{b:BkS}{l:List InS}{i:Nat}(h:S4 b.outs (plc l[i]!)=true):KI b l (i+1)=KI b l i++[(DA w15 b.outs (plc l[i]!)).2]:=by rw[KI,u4 h]
theorem j17{b:BkS}{l:List InS}{i:Nat}(h:S4 b.outs (plc l[i]!)=false):KI b l (i+1)=KI b l i:=by rw[KI,w3 (by rw[h];exact X8)]
theorem j16(b:BkS)(l:List InS){i n:Nat}(h:i<=n):∃ r,KI b l n=KI b l i++r:=by
 induction n with
 | zero=>rw[show i=0 by omega];exact⟨[],by simp⟩
 | succ n ih=>
  by_cases he:i=n+1
  ·rw[he];exact⟨[],by simp⟩
  ·obtain⟨r,hr⟩:=ih (by omega);rw[KI];split
   ·exact⟨r++[(DA w15 b.outs (plc l[n]!)).2],by rw[hr,u5]⟩
   ·exact⟨r,hr⟩
theorem j15(l:List OutS){i n:Nat}(h:i<=n):∃ r,OM l n=OM l i++r:=by
 induction n with
 | zero=>rw[show i=0 by omega];exact⟨[],by simp⟩
 | succ n ih=>
  by_cases he:i=n+1
  ·rw[he];exact⟨[],by simp⟩
  ·obtain⟨r,hr⟩:=ih (by omega);exact⟨r++[HW l[n]!.script],by rw[OM,hr,u5]⟩
theorem j63{p r:List Hs}{x:Hs}:(p++[x]++r)[p.length]! = x:=by
 rw[u5,Z1 _ _ (by simp)];simp
theorem q80{b:BkS}{t:TxS}{i:Nat}(hi:i<t.ins.length)(h:S4 b.outs (plc t.ins[i]!)=true):(KI b t.ins i).length<(KF b t).length/\(KF b t)[(KI b t.ins i).length]! = (DA w15 b.outs (plc t.ins[i]!)).2:=by
 obtain⟨r,hr⟩:=j16 b t.ins (show i+1<=t.ins.length by omega);rw[q18 h] at hr
 have e:KF b t=KI b t.ins i++[(DA w15 b.outs (plc t.ins[i]!)).2]++(r++OM t.outs t.outs.length):=by rw[KF,hr,u5 (_++_)]
 rw[e];exact⟨by simp,j63⟩
theorem TF{b:BkS}{t:TxS}{k:Nat}(hk:k<t.outs.length):(KI b t.ins t.ins.length).length+k<(KF b t).length/\(KF b t)[(KI b t.ins t.ins.length).length+k]! = HW t.outs[k]!.script:=by
 obtain⟨r,hr⟩:=j15 t.outs (show k+1<=t.outs.length by omega);rw[OM] at hr
 have e:KF b t=(KI b t.ins t.ins.length++OM t.outs k)++[HW t.outs[k]!.script]++r:=by rw[KF,hr];simp only[u5]
 have hl:(KI b t.ins t.ins.length).length+k=(KI b t.ins t.ins.length++OM t.outs k).length:=by rw[q9,TI]
 rw[e,hl];exact⟨by simp,j63⟩
theorem j14(b:BkS)(t:TxS):(KF b t).length=(KI b t.ins t.ins.length).length+t.outs.length:=by rw[KF,q9,TI]
def u84(b:BkS)(l:List InS):Nat->UInt64
 | 0=>0
 | i+1=>u84 b l i+(DA w15 b.outs (plc l[i]!)).1
def z57(b:BkS)(p:Plc):Bool:=S4 b.outs p&&!S4 b.spent p
def UW(b:BkS)(id:Hs)(t:TxS):Bool:=
 !S4 b.ids id&&(R3 t||((List.range t.ins.length).all (λi=>z57 b (plc t.ins[i]!))&&decide (AA t.outs t.outs.length<=u84 b t.ins t.ins.length)))
theorem x68{b:BkS}{id:Hs}{t:TxS}(h:S4 b.ids id=true):UW b id t=false:=by unfold UW;rw[h];rfl
theorem x67{b:BkS}{id:Hs}{t:TxS}(h:S4 b.ids id=false)(h2:R3 t=true):UW b id t=true:=by unfold UW;rw[h,h2];rfl
theorem q81{b:BkS}{id:Hs}{t:TxS}(h:S4 b.ids id=false)(h2:R3 t=false){i:Nat}(hi:i<t.ins.length)(h3:z57 b (plc t.ins[i]!)=false):UW b id t=false:=by
 have:(List.range t.ins.length).all (λi=>z57 b (plc t.ins[i]!))=false:=by
  rw[List.all_eq_false];exact⟨i,j7.2 hi,by rw[h3];exact X8⟩
 unfold UW;rw[h,h2,this];rfl
theorem x66{b:BkS}{id:Hs}{t:TxS}(h:S4 b.ids id=false)(h2:R3 t=false)(h3:∀ i<t.ins.length,z57 b (plc t.ins[i]!)=true):UW b id t=decide (AA t.outs t.outs.length<=u84 b t.ins t.ins.length):=by
 have:(List.range t.ins.length).all (λi=>z57 b (plc t.ins[i]!))=true:=by
  rw[o8];exact λi hi=>h3 i (j7.1 hi)
 unfold UW;rw[h,h2,this];simp
theorem u81{b:BkS}{p:Plc}(h:S4 b.outs p=true)(h2:S4 b.spent p=false):z57 b p=true:=by unfold z57;rw[h,h2];rfl
theorem u82{b:BkS}{p:Plc}(h:S4 b.outs p=true)(h2:S4 b.spent p=true):z57 b p=false:=by unfold z57;rw[h,h2];rfl
theorem u83{b:BkS}{p:Plc}(h:S4 b.outs p=false):z57 b p=false:=by unfold z57;rw[h];rfl
def BB(l:List TxS):Nat->List Hs
 | 0=>[]
 | i+1=>BB l i++[JA l[i]!]
theorem j19{l:List TxS}{i:Nat}:(BB l i).map j4++[j4 (JA l[i]!)]=(BB l (i+1)).map j4:=by
 rw[BB,d5];rfl
theorem TS(l:List TxS)(i:Nat):(BB l i).length=i:=by
 induction i with
 | zero=>rfl
 | succ i ih=>simp[BB,ih]
theorem z58(l:List TxS)(i:Nat)(hi:i<=l.length):BB l i=(l.take i).map JA:=by
 induction i with
 | zero=>rfl
 | succ i ih=>rw[BB,ih (by omega),List.take_succ_eq_append_getElem (by omega),d5,Z1 l i (by omega)];rfl
theorem j20(l:List TxS):BB l l.length=l.map JA:=by rw[z58 l _ (z7 _),J9]
def gB(b:BkS)(txs:List TxS):Nat->BkS
 | 0=>b
 | i+1=>LA (gB b txs i) (JA txs[i]!) txs[i]!
def JF(b:BkS)(txs:List TxS)(i:Nat):Int:=
 if DB txs[i]! = false∨R3 txs[i]!≠decide (i=0) then 1 else if UW (gB b txs i) (JA txs[i]!) txs[i]! = false then 14 else 0
def q19(b:BkS)(txs:List TxS):Nat:=((List.range txs.length).find? (λq=>decide (JF b txs q≠0))).getD txs.length
def z54(b:BkS)(txs:List TxS):Int×BkS:=(if q19 b txs<txs.length then JF b txs (q19 b txs) else 0,gB b txs (q19 b txs))
theorem q88{n i:Nat}{f:Nat->Bool}(hi:i<n)(h:∀ j,j<i->f j=false)(ho:f i=true):(List.range n).find? f=some i:=by
 rw[List.find?_range_eq_some];exact⟨ho,j7.2 hi,λj hj=>by rw[h j hj];rfl⟩
theorem q87{n:Nat}{f:Nat->Bool}(h:∀ j,j<n->f j=false):(List.range n).find? f=none:=by
 rw[List.find?_eq_none]
 exact λj hj=>by rw[h j (j7.1 hj)];exact X8
theorem x65{b:BkS}{txs:List TxS}{i:Nat}(hi:i<txs.length)(h:∀ q<i,JF b txs q=0)(ho:JF b txs i≠0):z54 b txs=(JF b txs i,gB b txs i):=by
 have e:q19 b txs=i:=by unfold q19;rw[q88 (f:=λq=>decide (JF b txs q≠0)) hi (λj hj=>J7 (λhn=>hn (h j hj))) (O4 ho)];rfl
 unfold z54;rw[e,u4 hi]
theorem x64{b:BkS}{txs:List TxS}(h:∀ q<txs.length,JF b txs q=0):z54 b txs=(0,gB b txs txs.length):=by
 have e:q19 b txs=txs.length:=by unfold q19;rw[q87 (f:=λq=>decide (JF b txs q≠0)) (λj hj=>J7 (λhn=>hn (h j hj)))];rfl
 unfold z54;rw[e,w3 (Nat.lt_irrefl _)]
def RL(l:List BlkS)(h:Nat):Int:=
 if 0<h/\l[h]!.hd.prev≠LP l[h-1]!.hd then 9 else if l[h]!.txs.length=0 then(if h=0 then 0 else 6) else if 256<l[h]!.txs.length then 6 else if l[h]!.hd.root≠XR N0 (l[h]!.txs.map JA) then 15 else 0
def HB(b:BkS)(l:List BlkS)(h:Nat):Int×BkS:=if RL l h≠0 then(RL l h,b) else z54 b l[h]!.txs
def gH(l:List BlkS):Nat->BkS
 | 0=>bk0
 | h+1=>(HB (gH l h) l h).2
def gE(l:List BlkS)(h:Nat):Int:=(HB (gH l h) l h).1
def r7(l:List BlkS):Int×Int:=match (List.range l.length).find? (λh=>decide (gE l h≠0)) with
 | some h=>(((h:Nat):Int),gE l h)
 | none=>(0,0)
theorem z56{l:List BlkS}{h:Nat}(hh:h<l.length)(h0:∀ q<h,gE l q=0)(ho:gE l h≠0):r7 l=(((h:Nat):Int),gE l h):=by
 unfold r7;rw[q88 (f:=λh=>decide (gE l h≠0)) hh (λj hj=>J7 (λhn=>hn (h0 j hj))) (O4 ho)]
theorem v35{l:List BlkS}{h:Nat}(hc:((HB (gH l h) l h).1 != 0)=false):gE l h=0:=by simpa [gE] using hc
theorem v34{l:List BlkS}{h:Nat}(hc:((HB (gH l h) l h).1 != 0)=true):gE l h≠0:=by simpa [gE] using hc
theorem z55{l:List BlkS}(h0:∀ q<l.length,gE l q=0):r7 l=(0,0):=by
 unfold r7;rw[q87 (f:=λh=>decide (gE l h≠0)) (λj hj=>J7 (λhn=>hn (h0 j hj)))]
section
variable{l:List BlkS}{h:Nat}{b:BkS}{i:Nat}
theorem w34(h1:0<h)(h2:(l[h]!.hd.prev != LP l[h-1]!.hd)=true):RL l h=9:=by unfold RL;rw[u4 ⟨h1,G9.1 h2⟩]
theorem TV(hp:¬ 0<h∨(l[h]!.hd.prev != LP l[h-1]!.hd)=false):¬ (0<h/\l[h]!.hd.prev≠LP l[h-1]!.hd):=λ⟨h1,h2⟩=>hp.elim (λh=>h h1) (λh=>h2 (D2.1 h))
theorem u85(h1:¬ 0<h)(hz:l[h]!.txs.length=0):RL l h=0:=by unfold RL;rw[w3 (TV (.inl h1)),u4 hz,u4 (by omega)]
theorem j24(h1:0<h)(hp:¬ 0<h∨(l[h]!.hd.prev != LP l[h-1]!.hd)=false)(hz:l[h]!.txs.length=0):RL l h=6:=by unfold RL;rw[w3 (TV hp),u4 hz,w3 (by omega)]
theorem LE(hp:¬ 0<h∨(l[h]!.hd.prev != LP l[h-1]!.hd)=false)(hz:¬ l[h]!.txs.length=0)(h2:256<l[h]!.txs.length):RL l h=6:=by unfold RL;rw[w3 (TV hp),w3 hz,u4 h2]
theorem LF(hp:¬ 0<h∨(l[h]!.hd.prev != LP l[h-1]!.hd)=false)(hz:¬ l[h]!.txs.length=0)(h2:¬ 256<l[h]!.txs.length)(hr:(l[h]!.hd.root != XR N0 (l[h]!.txs.map JA))=true):RL l h=15:=by
 unfold RL;rw[w3 (TV hp),w3 hz,w3 h2,u4 (G9.1 hr)]
theorem i9(hp:¬ 0<h∨(l[h]!.hd.prev != LP l[h-1]!.hd)=false)(hz:¬ l[h]!.txs.length=0)(h2:¬ 256<l[h]!.txs.length)(hr:(l[h]!.hd.root != XR N0 (l[h]!.txs.map JA))=false):RL l h=0:=by
 unfold RL;rw[w3 (TV hp),w3 hz,w3 h2,w3 (λhn=>hn (D2.1 hr))]
theorem QK{e:Int}(he:RL l h=e)(h0:e≠0):HB b l h=(e,b):=by unfold HB;rw[he,u4 h0]
theorem q82(h0:RL l h=0):HB b l h=z54 b l[h]!.txs:=by unfold HB;rw[h0];exact w3 (by simp)
theorem QJ{e:Int}(h0:RL l h=0)(hi:i<l[h]!.txs.length)(hn:∀ q<i,JF b l[h]!.txs q=0)(he:JF b l[h]!.txs i=e)(h1:e≠0):HB b l h=(e,gB b l[h]!.txs i):=by
 rw[q82 h0,x65 hi hn (by rw[he];exact h1),he]
theorem DL(h0:RL l h=0)(hn:∀ q<l[h]!.txs.length,JF b l[h]!.txs q=0):HB b l h=(0,gB b l[h]!.txs l[h]!.txs.length):=by rw[q82 h0,x64 hn]
theorem q83(h1:¬ 0<h)(hz:l[h]!.txs.length=0):HB b l h=(0,b):=by
 rw[DL (u85 h1 hz) (λq hq=>by omega),hz];rfl
variable{txs:List TxS}
theorem LL(hm:¬ DB txs[i]! = true):JF b txs i=1:=by unfold JF;rw[u4 (.inl (by simpa using hm))]
theorem LR(h:(R3 txs[i]! != decide (i=0))=true):JF b txs i=1:=by unfold JF;rw[u4 (.inr (G9.1 h))]
theorem LI(hm:DB txs[i]! = true)(h:(R3 txs[i]! != decide (i=0))=false)(h2:(!UW (gB b txs i) (JA txs[i]!) txs[i]!)=true):JF b txs i=14:=by
 unfold JF;rw[w3 (by rintro (h1|h1);rw[hm] at h1;cases h1;exact h1 (D2.1 h)),u4 (by simpa using h2)]
theorem j25(hm:DB txs[i]! = true)(h:(R3 txs[i]! != decide (i=0))=false)(h2:(!UW (gB b txs i) (JA txs[i]!) txs[i]!)=false):JF b txs i=0:=by
 unfold JF;rw[w3 (by rintro (h1|h1);rw[hm] at h1;cases h1;exact h1 (D2.1 h)),w3 (by simpa using h2)]
theorem k63(l:List TxS):allH (l.map JA):=λx hx=>by
 obtain⟨t,_,rfl⟩:=n9.1 hx;exact NK _
theorem LX(hi:i<txs.length):((txs.map JA).map j4)[i]? = some (j4 (JA txs[i]!)):=by
 rw[J2,J2,j8 hi,Z1 txs i hi];rfl
end
def E8(l:List BlkS):Nat->BkS
 | 0=>bk0
 | h+1=>gB (E8 l h) l[h]!.txs l[h]!.txs.length
def YV(b:BkS)(h:Nat)(txs:List TxS)(sc:Hs):Nat->List j88
 | 0=>[]
 | i+1=>if sc∈KF (gB b txs i) txs[i]! then YV b h txs sc i++[(((h:Nat):Int),JA txs[i]!)] else YV b h txs sc i
def ON(l:List BlkS)(sc:Hs):Nat->List j88
 | 0=>[]
 | h+1=>ON l sc h++YV (E8 l h) h l[h]!.txs sc l[h]!.txs.length
def PC(l:List BlkS)(sc:Hs):List j88:=ON l sc l.length
def HC(h:Nat)(id:Hs)(l:List OutS)(sc:Hs):Nat->List z85
 | 0=>[]
 | k+1=>if(HW l[k]!.script==sc)=true then HC h id l sc k++[((id,nK k),l[k]!.value,((h:Nat):Int))] else HC h id l sc k
def EJ(h:Nat)(txs:List TxS)(sc:Hs):Nat->List z85
 | 0=>[]
 | i+1=>EJ h txs sc i++HC h (JA txs[i]!) txs[i]!.outs sc txs[i]!.outs.length
def XM(l:List BlkS)(sc:Hs):Nat->List z85
 | 0=>[]
 | h+1=>XM l sc h++EJ h l[h]!.txs sc l[h]!.txs.length
def BC(m:List (Plc×Unit))(u:List z85):Nat->List z85
 | 0=>[]
 | i+1=>if S4 m u[i]!.1=true then BC m u i else BC m u i++[u[i]!]
def GL(l:List BlkS)(sc:Hs):List z85:=BC (E8 l l.length).spent (XM l sc l.length) (XM l sc l.length).length
end Go.Sx
namespace Go.Sx
section
variable{l:List BlkS}{h i k j:Nat}{b:BlkS}{sc id:Hs}{o:List OutS}{m:List (Plc×Unit)}{u:List z85}
theorem j11(p:List z85)(hc:(HW o[k]!.script==sc)=true):(p++HC h id o sc k).map GI++[.agg [.agg [j4 id,.u32 (nK k)],.u64 o[k]!.value,.int ((h:Nat):Int)]]=(p++HC h id o sc (k+1)).map GI:=by
 rw[HC,u4 hc,<- u5,d5 (l₁:=p++HC h id o sc k)];rfl
theorem j10(hc:(HW o[k]!.script==sc)=false):HC h id o sc (k+1)=HC h id o sc k:=by rw[HC,w3 (by rw[hc];exact X8)]
theorem TN(h:Nat)(id:Hs)(o:List OutS)(sc:Hs)(k:Nat):(HC h id o sc k).length<=k:=by
 induction k with
 | zero=>exact z7 _
 | succ k ih=>
  rw[HC];split
  ·rw[q9,Q5];omega
  ·omega
theorem TO(hb:b.wf)(h:Nat)(sc:Hs)(i:Nat)(hi:i<=b.txs.length):(EJ h b.txs sc i).length<=1000*i:=by
 induction i with
 | zero=>exact z7 _
 | succ i ih=>
  have h1:=ih (by omega);have h2:=TN h (JA b.txs[i]!) b.txs[i]!.outs sc b.txs[i]!.outs.length;have h3:=(hb.small (show i<b.txs.length by omega)).2;rw[EJ,q9];omega
theorem TA(hl:allBl l)(sc:Hs)(h:Nat)(hh:h<=l.length):(XM l sc h).length<=1000000*h:=by
 induction h with
 | zero=>exact z7 _
 | succ h ih=>
  have h1:=ih (by omega);have hb:=hl.get (show h<l.length by omega);have h2:=TO hb h sc l[h]!.txs.length (z7 _);have h3:=hb.len;rw[XM,q9];omega
theorem j12(hc:S4 m u[j]!.1=true):BC m u (j+1)=BC m u j:=by rw[BC,u4 hc]
theorem j13(hc:S4 m u[j]!.1=false):(BC m u j).map GI++[GI u[j]!]=(BC m u (j+1)).map GI:=by
 rw[BC,w3 (by rw[hc];exact X8),d5];rfl
theorem TE(m:List (Plc×Unit))(u:List z85)(j:Nat):(BC m u j).length<=j:=by
 induction j with
 | zero=>exact z7 _
 | succ j ih=>
  rw[BC];split
  ·omega
  ·rw[q9,Q5];omega
theorem j09(hl:allBl l)(sc:Hs):(GL l sc).length<=100000000:=by
 have h1:=TE (E8 l l.length).spent (XM l sc l.length) (XM l sc l.length).length;have h2:=TA hl sc l.length (z7 _);have h3:=hl.1;unfold GL;omega
end
end Go.Sx
namespace Go.Sx
section
variable{l:List BlkS}{h i k j:Nat}{b:BkS}{sc:Hs}{t:TxS}{txs:List TxS}
theorem x07(hk:k<(KF b t).length)(h:((KF b t)[k]! == sc)=true):sc∈KF b t:=by
 rw[<- p7.1 h];exact P3 hk
theorem w52(h:∀ j,j<(KF b t).length->(KF b t)[j]!≠sc):sc∉KF b t:=λhc=>by
 obtain⟨j,hj,e⟩:=Q2.1 hc;exact h j hj (by rw[Z1 _ j hj];exact e)
theorem j22(hn:sc∉KF (gB b txs i) txs[i]!):YV b h txs sc (i+1)=YV b h txs sc i:=by rw[YV,w3 hn]
theorem j21(hy:sc∈KF (gB b txs i) txs[i]!):YV b h txs sc (i+1)=YV b h txs sc i++[(((h:Nat):Int),JA txs[i]!)]:=by rw[YV,u4 hy]
theorem TT(b:BkS)(h:Nat)(txs:List TxS)(sc:Hs)(i:Nat):(YV b h txs sc i).length<=i:=by
 induction i with
 | zero=>exact z7 _
 | succ i ih=>
  rw[YV];split
  ·rw[q9,Q5];omega
  ·omega
theorem j23(l:List BlkS)(hl:allBl l)(sc:Hs)(h:Nat)(hh:h<=l.length):(ON l sc h).length<=1000*h:=by
 induction h with
 | zero=>exact z7 _
 | succ h ih=>
  have h1:=ih (by omega);have h2:=TT (E8 l h) h l[h]!.txs sc l[h]!.txs.length;have h3:=(hl.get (show h<l.length by omega)).len;rw[ON,q9];omega
theorem x74{es:List j88}{n:Int}{id:Hs}:es.map q89++[.agg [.int n,j4 id]]=(es++[(n,id)]).map q89:=by
 rw[d5];rfl
theorem q22(e z:Nat)(l:List j88):Frs (.sl (some e) z (l.map q89)):=.sl _ _ _ (K7 λx=>.agg _ (S5 (.int _) (D4 _)))
end
end Go.Sx
namespace Go.Sx
section
open Go.Proofs
set_option maxRecDepth 100000
instance:LdT Tryz.prog 64 1 false:=⟨_,_,rfl,rfl,rfl,rfl⟩
instance:LdT Tryz.prog 125 1 false:=⟨_,_,rfl,rfl,rfl,rfl⟩
instance:LdT Tryz.prog 141 0 true:=⟨_,_,rfl,rfl,rfl,rfl⟩
instance:ZrT Tryz.prog 141 (.agg []):=⟨_,_,rfl,rfl,by decide,rfl⟩
instance:BsT Tryz.prog 141 ([]):=⟨_,_,_,rfl,rfl,rfl,rfl,by decide⟩
instance:LdT Tryz.prog 143 1 false:=⟨_,_,rfl,rfl,rfl,rfl⟩
instance:LdT Tryz.prog 144 1 false:=⟨_,_,rfl,rfl,rfl,rfl⟩
instance:LdT Tryz.prog 145 1 false:=⟨_,_,rfl,rfl,rfl,rfl⟩
instance:FdT Tryz.prog 147 0 0:=⟨_,_,_,rfl,rfl,rfl,rfl,by decide⟩
instance:FdT Tryz.prog 147 1 1:=⟨_,_,_,rfl,rfl,rfl,rfl,by decide⟩
instance:FdT Tryz.prog 147 2 2:=⟨_,_,_,rfl,rfl,rfl,rfl,by decide⟩
instance:BsT Tryz.prog 147 ([.nilmap,.nilmap,.nilmap]):=⟨_,_,_,rfl,rfl,rfl,rfl,by decide⟩
instance:LdT Tryz.prog 149 1 false:=⟨_,_,rfl,rfl,rfl,rfl⟩
instance:FdT Tryz.prog 152 0 0:=⟨_,_,_,rfl,rfl,rfl,rfl,by decide⟩
instance:FdT Tryz.prog 152 1 1:=⟨_,_,_,rfl,rfl,rfl,rfl,by decide⟩
instance:FdT Tryz.prog 152 2 2:=⟨_,_,_,rfl,rfl,rfl,rfl,by decide⟩
instance:BsT Tryz.prog 152 ([.nils,.nilmap,.nils]):=⟨_,_,_,rfl,rfl,rfl,rfl,by decide⟩
instance:MkT Tryz.prog 143 109 205:=⟨Tryz.underlying143⟩
instance:MkT Tryz.prog 144 109 141:=⟨Tryz.underlying144⟩
instance:MkT Tryz.prog 145 23 141:=⟨Tryz.underlying145⟩
instance:MkT Tryz.prog 149 23 168:=⟨Tryz.underlying149⟩
instance:MkT Tryz.prog 233 109 3:=⟨Tryz.underlying233⟩
end
section
variable{P:Program}{C:Ctx}{σ σ' σ1:Sg}{a:Act}{w w':World}{ρ:Nat->Nat}{Fe Fe' Fb:Nat->List Nat}
variable{gl:List (Nat×D)}{W0:World}{G:Nat->Prop}
def ItrK(P:Program)(gl:List (Nat×D))(f:FuncId)(caps:List D)(bx0:List (Nat×Bx))(xs:List D):Prop:=
 ∀ (w:World) (G:Nat->Prop) (ρ:Nat->Nat) (Fb:Nat->List Nat) (vs:List Value) (l:Nat) (Y:Yt),
  (∀ b,G b->b<w.heap.size) ->
  (∀ g d,(g,d)∈gl->G g/\∃ cs e fz,w.heap[g]? = some (.cells cs e fz)/\Rc w (λx=>x) (λ_=>False) (λ_=>False) false d cs.toList []) ->
  vs.length=caps.length->(∀ k (h:k<caps.length),VR w ρ G (λi=>(lk bx0 i).isSome=true) caps[k] (vs.getD k undef) [])->Hand bx0 w ρ G Fb ->
  Stable Y ->
  (∀ k O w v,(h:k<xs.length)->Y k false O w->(∀ b,O b->b<w.heap.size)->VR w (λx=>x) (λb=>G b∨O b) (λ_=>False) xs[k] v []->UE P l v w (Rnd Y G O k w)) ->
  Y 0 false (λb=>∃ id,b∈Fb id) w ->
  Calls P f (#[.func (.yield l) #[] #[]]++vs.toArray) w (λe w'=>(∃ v,e=.returned v)/\∃ k s O Fb',Y k s O w'/\(s=true∨k=xs.length)/\(∀ id b,b∈Fb' id->O b)/\Hand bx0 w' ρ (λb=>(G b∨O b)/\¬ ∃ id,b∈Fb' id) Fb')
theorem ItrK.of{gl:List (Nat×D)}{f:FuncId}{fn:Func}{c:Code}{caps xs:List D}{bx0:List (Nat×Bx)}{n:Nat}(hf:P.funcs[f]? = some fn)(hb:fn.body=some c)(hnn:fn.ntmps=n)(hres:fn.results=#[])
 (hd:caps.all (λd=>!d.isRef)=true) (hn:caps.length+1<=n)
 (hob:ZK (bx0.map Prod.fst) bx0)
 (h:∀ (G:Nat->Prop) (Y:Yt) (l:Nat) (pn:Nat->Option Nat),Stable Y->(∀ k O w v,(h:k<xs.length)->Y k false O w->(∀ b,O b->b<w.heap.size)->VR w (λx=>x) (λb=>G b∨O b) (λ_=>False) xs[k] v []->UE P l v w (Rnd Y G O k w)) ->
  V P none (AM (NC gl G Y (bx0.map Prod.fst) pn)) c (λe i=>(e=.normal∨e=.ret)/\(i.1.2=true∨i.1.1=xs.length)/\M9 (bx0.map Prod.fst) i.2.bx=bx0) ((0,false),⟨n,ini 0 (.yld l::caps),bx0⟩)):ItrK P gl f caps bx0 xs:=by
 subst hnn;intro w G ρ0 Fb0 vs l Y hG hgl hl hv hand hY hyl h0;refine calls_of_wp hf hb ?_
 let C:Ctx:=⟨w,λb=>b<w.heap.size/\¬ ∃ id,b∈Fb0 id,λb=>G b∨(∃ id,b∈Fb0 id)∨w.heap.size<=b,gl,none,λid=>if(lk bx0 id).isSome then some (ρ0 id) else none,[]⟩
 let ds:List D:=.yld l::caps
 have hget:∀ t d,(⟨fn.ntmps,ini 0 ds,bx0⟩:Sg).get t=some d->∃ h:t<ds.length,ds[t]=d:=by
  intro t d hd;simp only[Sg.get,OH,g9,j9,O7] at hd;obtain⟨h,e⟩:=z8.1 hd;exact⟨h,e⟩
 have hown:∀ b,own (λ_=>[]) Fb0 b->∃ id,b∈Fb0 id:=by
  rintro b (⟨_,h⟩|h)
  ·cases h
  ·exact h
 have hFlt:∀ id b,b∈Fb0 id->b<w.heap.size:=λid b hb=>by
  cases hx:lk bx0 id with
  | none=>rw[hand.boxN id hx] at hb;cases hb
  | some x=>exact(hand.box id x hx).lt b hb
 have hG2:∀ b,G b->gd C (λ_=>[]) Fb0 b:=λb hb=>⟨.inl hb,λho=>by obtain⟨id,hid⟩:=hown b ho;exact hand.out id b hid hb⟩
 have st:StW C ⟨fn.ntmps,ini 0 ds,bx0⟩ { tmps:=(#[Value.func (.yield l) #[] #[]]++vs.toArray)++Array.replicate (fn.ntmps-(#[Value.func (.yield l) #[] #[]]++vs.toArray).size) undef,defers:=[] } w ρ0 (λ_=>[]) Fb0:=by
  refine⟨?_,rfl,(λid b hp=>by
   by_cases hs:(lk bx0 id).isSome=true
   ·simp only[C,hs,j9,z6] at hp;exact⟨hp,hs⟩
   ·simp[C,hs] at hp), ?_,λ_ _=>rfl, ?_,hand.boxN,λ_=>w9,hand.nodB,(λ_ _ _ _ h=>by cases h),(λ_ _ _ h=>by cases h),hand.dBB,λb hb hc=>hc.2 (hown b hb), ?_,rfl,⟨rfl,z7 _⟩,rfl,z7 _, ?_,λb hb=>.inr (.inr hb),λb hb=>.inr (.inl (hown b hb))⟩
  ·simp[hl];omega
  ·intro t d hd';obtain⟨ht,rfl⟩:=hget t d hd'
   cases t with
   | zero=>
    refine(c5 rfl).2 ⟨.func (.yield l) #[] #[], ?_, ?_⟩
    ·rw[X2 (by simp)];simp
    ·show VR w _ _ _ (D.yld l) _ _;simp only[VR,D.isAgg,q7,q8];exact .yld l
   | succ t=>
    have ht':t<caps.length:=by simpa [ds] using ht
    have hr:caps[t].isRef=false:=by
     have:=o8.1 hd caps[t] (g6 ht');simpa using this
    refine(c5 hr).2 ⟨vs.getD t undef, ?_,(hv t ht').mono (λ_ _ _=>rfl) (λb hb _=>hG2 b hb) (λid hid=>⟨hid,rfl⟩)⟩
    have htv:t<vs.length:=by omega
    rw[X2 (by simp;omega)];simp[htv,Array.getElem?_append]
  ·intro id x hx;exact(hand.box id x hx).mono (λ_ _ _=>rfl) (λb hb _=>hG2 b hb) (λid hid=>⟨hid,rfl⟩)
  ·intro b hb;exact⟨rfl,hb.1⟩
  ·intro g d hg;obtain⟨h1,cs,e,fz,h2,h3⟩:=hgl g d hg;exact⟨⟨(j6.1 h2).1,λ⟨id,hid⟩=>hand.out id g hid h1⟩,.inl h1,cs,e,fz,h2,h3⟩
 have hAI:AM (NC gl G Y (bx0.map Prod.fst) C.pin) ((0,false),⟨fn.ntmps,ini 0 ds,bx0⟩) { tmps:=(#[Value.func (.yield l) #[] #[]]++vs.toArray)++Array.replicate (fn.ntmps-(#[Value.func (.yield l) #[] #[]]++vs.toArray).size) undef,defers:=[] } w:=
  ⟨C,⟨rfl,rfl,rfl,⟨rfl,λid b hp=>by
   by_cases hs:(lk bx0 id).isSome=true
   ·simp only[N3,Z4];exact⟨id,O5.1 hs,by simp⟩
   ·simp[C,hs] at hp⟩,λb=>∃ id,b∈Fb0 id,λ_=>Iff.rfl,λ_=>Iff.rfl,λb hb=>⟨hG b hb,λ⟨id,hid⟩=>hand.out id b hid hb⟩,λb ⟨id,hid⟩=>hFlt id b hid,h0⟩,_,_,_,st⟩
 refine W1 ?_ (wpIn_wide.1 (h G Y l C.pin hY hyl _ w hAI));rintro e a' w' ⟨⟨⟨k,s⟩,σ'⟩,⟨C',⟨h1,h2,h3,⟨h4,_⟩,O,hkeep,hok,hG',hO,hYk⟩,ρ,Fe,Fb,st'⟩,he,hend,hkb⟩;have hrun:=QO (P:=P) (tmps:=a'.tmps) (rs:=[]) (fn:=fn) (by rw[hres]) (λ_=>undef) w' (λk hk=>absurd hk (Q8 _))
 let O':Nat->Prop:=λb=>(O b∨C'.w0.heap.size<=b)/\b<w'.heap.size
 have hY1:Y k s O' w':=hY _ _ _ _ _ _ hYk {
  same:=λb hb hn=>(st'.kept b ((hkeep b).2 ⟨hb,hn⟩)).1
  size:=st'.grown
  sub:=λb hb=>hb.1
  lt:=λb hb=>hb.2
  os:=st'.os
  tape:=⟨st'.tape.tp,st'.tape.dr⟩
  output:=st'.output }
 have hdf:a'.defers=[]:=by rw[st'.defs,h3]
 have hlt':=st'.lt
 have hownO:∀ b,own Fe Fb b->O' b:=λb hb=>by
  refine⟨?_,hlt' b hb⟩;by_cases h0:C'.w0.heap.size<=b
  ·exact .inr h0
  ·left;by_cases hOb:O b
   ·exact hOb
   ·exact absurd ((hkeep b).2 ⟨by omega,hOb⟩) (st'.new b hb)
 let Fb':Nat->List Nat:=λid=>if(lk bx0 id).isSome then Fb id else[]
 have hFs:∀ id b,b∈Fb' id->(lk bx0 id).isSome=true/\b∈Fb id:=λid b hb=>by
  by_cases hs:(lk bx0 id).isSome=true
  ·exact⟨hs,by simpa [Fb',hs] using hb⟩
  ·simp[Fb',hs] at hb
 have hbx:∀ id x,lk bx0 id=some x->σ'.box id=some x:=λid x hx=>by
  have e:=l6 (bx0.map Prod.fst) σ'.bx id;rw[hkb,hx] at e;split at e
  ·exact e.symm
  ·cases e
 have hρ:∀ id,(lk bx0 id).isSome=true->ρ id=ρ0 id:=λid hs=>(st'.pin id (ρ0 id) (by rw[h4];simp[C,hs])).1
 have hmem:∀ i,K2 (bx0.map Prod.fst) i=true->(lk bx0 i).isSome=true:=λi hi=>by
  rw[O5];simp only[K2,Z4] at hi;obtain⟨j,hj,he⟩:=hi;rw[m8 he];exact hj
 have hhand:Hand bx0 w' ρ0 (λb=>(G b∨O' b)/\¬ ∃ id,b∈Fb' id) Fb':=by
  refine⟨λid x hx=>?_,λid hx=>by simp[Fb',hx],λid=>?_,λid id' hne b hb hb'=>st'.dBB id id' hne b (hFs id b hb).2 (hFs id' b hb').2,λid b hb hc=>hc.2 ⟨id,hb⟩⟩
  ·have h1:=(st'.bx id x (hbx id x hx)).okB (JU hob hx)
   have hs:(lk bx0 id).isSome=true:=by rw[hx];rfl
   have h2:=h1.mono (w':=w') (G':=λb=>(G b∨O' b)/\¬ ∃ id,b∈Fb' id) (L':=λi=>(lk bx0 i).isSome=true) (ρ':=ρ0) (λ_ _ _=>rfl) (λb hb hl=>⟨?_,λ⟨i,hi⟩=>hb.2 (.inr ⟨i,(hFs i b hi).2⟩)⟩) (λi hi=>⟨hmem i hi.1,(hρ i (hmem i hi.1)).symm⟩)
   ·rw[hρ id hs] at h2;show BR w' ρ0 _ _ (ρ0 id) x (if(lk bx0 id).isSome then Fb id else[]);rw[u4 hs];exact h2
   ·rcases(hok b).1 hb.1 with h|h|h
    ·exact .inl h
    ·exact .inr ⟨.inl h,hl⟩
    ·exact .inr ⟨.inr h,hl⟩
  ·show(if(lk bx0 id).isSome then Fb id else[]).Nodup;split
   ·exact st'.nodB id
   ·exact w9
 have hfin:∃ k s O Fb',Y k s O w'/\(s=true∨k=xs.length)/\(∀ id b,b∈Fb' id->O b)/\Hand bx0 w' ρ0 (λb=>(G b∨O b)/\¬ ∃ id,b∈Fb' id) Fb':=
  ⟨k,s,O',Fb',hY1,hend,λid b hb=>hownO b (.inr ⟨id,(hFs id b hb).2⟩),hhand⟩
 rcases he with rfl|rfl
 ·exact⟨hdf,_,hrun,⟨_,rfl⟩,hfin⟩
 ·exact⟨hdf,_,hrun,⟨_,rfl⟩,hfin⟩
theorem AW{m:Nat->Nat}{l:List (Nat×Bx)}(hinj:∀ i∈l.map Prod.fst,∀ j∈l.map Prod.fst,m i=m j->i=j){k:Nat}{x:Bx}(h:lk (Z0 m l) k=some x):∃ i y,lk l i=some y/\m i=k/\x=y.ren m:=by
 have hk:k∈(Z0 m l).map Prod.fst:=O5.1 (by rw[h];rfl);rw[ZI,n9] at hk;obtain⟨i,hi,rfl⟩:=hk;rw[OG (λj hj he=>hinj j hj i hi he)] at h
 cases hy:lk l i with
 | none=>rw[hy] at h;cases h
 | some y=>rw[hy] at h;cases h;exact⟨i,y,hy,rfl,rfl⟩
theorem KE{m:Nat->Nat}{l:List (Nat×Bx)}{i:Nat}(h:(lk l i).isSome=true):(lk (Z0 m l) (m i)).isSome=true:=by
 rw[O5,ZI,n9];exact⟨i,O5.1 h,rfl⟩
theorem Last.finishK{n:Nat}{env0 envZ:List (Nat×D)}{ids:List Nat}{G1:Nat->Prop}{sz l dd:Nat}{bx bx0:List (Nat×Bx)}{O:Nat->Prop}{m:Nat->Nat}{Fbk:Nat->List Nat}(h:Last C n a env0 ids ρ G1 sz l dd bx Fb O w)(hsz:a.tmps.size=n)(hpe:ZE envZ=true)
 (hk:∀ b,b<W0.heap.size->C.keep b) (hG1:∀ b,G1 b->G b∨W0.heap.size<=b) (hx:Ext W0 C.w0) (hdd:W0.heap.size<=dd)
 (hgl:Glw gl W0 G) (o:Obj) {dds:List Nat} (hnd:dds.Nodup) (hdds:∀ d∈dds,W0.heap.size<=d/\C.keep d/\C.w0.heap[d]? = some (.deferred (some []))) (hGd:∀ b,G1 b->b∉dds)
 (hFO:∀ id b,b∈Fbk id->O b) (hOl:∀ b,O b->b<w.heap.size) (hH:Hand bx0 w (λi=>ρ (m i)) (λb=>(G1 b∨O b)/\¬ ∃ id,b∈Fbk id) Fbk) (hij:∀ i∈bx0.map Prod.fst,∀ j∈bx0.map Prod.fst,m i=m j->i=j) (hout:∀ i∈bx0.map Prod.fst,K2 ids (m i)=false)
 (hZ:∀ t d,lk envZ t=some d->∃ v,a.tmps[t]? = some v/\VR w ρ G1 (λid=>(lk (Z0 m bx0++bx) id).isSome=true) d v []) :
 AM (PI gl W0 G) (true,⟨n,envZ,Z0 m bx0++bx⟩) { a with defers:=(dd::dds).map ZJ } (w.putObj l o):=by
 have h4o:∀ b,b≠l->(w.putObj l o).heap[b]? = w.heap[b]?:=λb hb=>World.putObj_heap_other hb
 have hW0:∀ b,b<W0.heap.size->(w.putObj l o).heap[b]? = W0.heap[b]?:=λb hb=>by
  obtain⟨q1,q2,q3,q4⟩:=h.keep b (hk b hb);rw[h4o b q3,q1,hx.block b hb]
 have hd4:(w.putObj l o).heap[dd]? = some (.deferred (some [])):=by rw[h4o dd (λhc=>h.ld hc.symm)];exact h.def_
 have hddw:dd<(w.putObj l o).heap.size:=by rw[World.putObj_size];exact h.d_lt
 have hWs:W0.heap.size<=(w.putObj l o).heap.size:=u9 hdd (Nat.le_of_lt hddw)
 have hall:∀ d∈dd::dds,W0.heap.size<=d/\d<(w.putObj l o).heap.size/\(w.putObj l o).heap[d]? = some (.deferred (some [])):=λd hd=>by
  rcases w5.1 hd with rfl|hd
  ·exact⟨hdd,hddw,hd4⟩
  ·obtain⟨q1,q2,q3⟩:=hdds d hd;obtain⟨k1,k2,k3,k4⟩:=h.keep d q2;have:=h.size;exact⟨q1,by rw[World.putObj_size];omega,by rw[h4o d k3,k1,q3]⟩
 have hndd:(dd::dds).Nodup:=v3.2 ⟨λhc=>(h.keep dd (hdds dd hc).2.1).2.2.2 rfl,hnd⟩
 have hod:∀ b,¬ C.keep b->b≠dd->b∉dd::dds:=λb hb hn hc=>by
  rcases w5.1 hc with rfl|hc
  ·exact hn rfl
  ·exact hb (hdds b hc).2.1
 let C':Ctx:=⟨w.putObj l o,λb=>b<W0.heap.size∨b∈dd::dds,λb=>(G b∨W0.heap.size<=b)/\b∉dd::dds,gl,none,λ_=>none,(dd::dds).map ZJ⟩
 let inv:Nat->Option Nat:=λk=>if h:∃ i,i∈bx0.map Prod.fst/\m i=k then some (Classical.choose h) else none
 have hinv:∀ i,i∈bx0.map Prod.fst->inv (m i)=some i:=λi hi=>by
  have h:∃ j,j∈bx0.map Prod.fst/\m j=m i:=⟨i,hi,rfl⟩
  simp only[inv,dif_pos h];obtain⟨q1,q2⟩:=N8 h;rw[hij _ q1 i hi q2]
 have hinvS:∀ k i,inv k=some i->i∈bx0.map Prod.fst/\m i=k:=λk i hi=>by
  by_cases h:∃ j,j∈bx0.map Prod.fst/\m j=k
  ·simp only[inv,dif_pos h,z6] at hi;rw[<- hi];exact N8 h
  ·simp only[inv,dif_neg h] at hi;cases hi
 let Fb2:Nat->List Nat:=λk=>match inv k with|some i=>Fbk i|none=>Fb k
 have hF2:∀ k b,b∈Fb2 k->(∃ i,inv k=some i/\b∈Fbk i)∨(inv k=none/\b∈Fb k):=λk b hb=>by
  cases hi:inv k with
  | some i=>exact .inl ⟨i,rfl,by simpa [Fb2,hi] using hb⟩
  | none=>exact .inr ⟨rfl,by simpa [Fb2,hi] using hb⟩
 have hbk:∀ id b,b∈Fb id->inv id=none:=λid b hb=>by
  cases hi:inv id with
  | none=>rfl
  | some i=>
   obtain⟨q1,q2⟩:=hinvS id i hi;have h1:=hout i q1;rw[q2] at h1;have h2:=h.keys id;have h3:N3 ids id=false:=h1;rw[h3,Option.isSome_eq_false_iff,D5] at h2;rw[h.boxN id h2] at hb;cases hb
 have hown:∀ b,Go.Sx.own (λ_=>[]) Fb2 b->(¬ C.keep b/\¬ G1 b/\b≠l/\b≠dd/\b<w.heap.size):=by
  rintro b (⟨_,h⟩|⟨k,hb⟩)
  ·cases h
  ·rcases hF2 k b hb with ⟨i,_,hi⟩|⟨_,hi⟩
   ·have hO:=hFO i b hi;obtain⟨⟨q1,q2⟩,q3,q4⟩:=h.O_ge b hO;exact⟨q1,q2,q3,q4,hOl b hO⟩
   ·obtain⟨q1,_,q3,q4,q5,q6⟩:=h.own k b hi;exact⟨q1,q3,q4,q5,q6⟩
 have hgdG:∀ b,G1 b->gd C' (λ_=>[]) Fb2 b:=λb hb=>⟨⟨hG1 b hb,λhc=>(w5.1 hc).elim (h.G1_lt b hb).2.2 (hGd b hb)⟩,λhc=>(hown b hc).2.1 hb⟩
 have hgdO:∀ b,O b->(¬ ∃ id,b∈Fbk id)->gd C' (λ_=>[]) Fb2 b:=λb hb hn=>by
  obtain⟨⟨q1,q2⟩,q3,q4⟩:=h.O_ge b hb;refine⟨⟨.inr (H4 (λhc=>q1 (hk b hc))),hod b q1 q4⟩, ?_⟩;rintro (⟨_,hc⟩|⟨k,hc⟩)
  ·cases hc
  ·rcases hF2 k b hc with ⟨i,_,hi⟩|⟨_,hi⟩
   ·exact hn ⟨i,hi⟩
   ·exact(h.own k b hi).2.1 hb
 refine⟨C',⟨rfl,rfl,λ_=>rfl,λb hb=>.inl hb,⟨h.os.trans hx.os,⟨h.tape.tp.trans hx.tape.tp,u9 hx.tape.dr h.tape.dr⟩,h.output.trans hx.output,hWs,hW0⟩,λb hb=>hb.1,⟨dd::dds,rfl,hndd,λd hd=>⟨(hall d hd).1,.inr hd,(hall d hd).2.2,λhc=>hc.2 hd⟩⟩⟩,ρ,λ_=>[],Fb2, ?_⟩;refine StW.mk (by simpa using hsz) rfl (λ_ _ hp=>by cases hp) (λt x hx'=>?_) (λ_ _=>rfl) (λid x hx'=>?_) (λid hid=>?_) (λ_=>w9) (λid=>?_) (λ_ _ _ _ h=>by cases h) (λ_ _ _ h=>by cases h) (λid id' hne b hb hb'=>?_)
  (λb hb hc=>?_) (λb hb=>⟨rfl, ?_⟩) rfl ⟨rfl,z7 _⟩ rfl (z7 _) (λg d hg=>?_) (λb hb=>⟨.inr (u9 hWs hb),λhc=>by have:=(hall b hc).2.1;omega⟩) (λb hb=>?_)
 ·obtain⟨hp1,hp2⟩:=ZA hpe (show lk envZ t=some x from hx');obtain⟨v0,k1,k2⟩:=hZ t x hx';exact(c5 hp2).2 ⟨v0,k1,k2.mono (λb hb hl=>h4o b (h.G1_lt b (hb.resolve_right (by simp))).2.1) (λb hb hl=>hgdG b hb) (λid hid=>⟨hid,rfl⟩)⟩
 ·have hx2:lk (Z0 m bx0++bx) id=some x:=hx';rw[QF] at hx2
  cases hr:lk (Z0 m bx0) id with
  | some y=>
   rw[hr] at hx2;cases hx2;obtain⟨i,y0,hy0,rfl,rfl⟩:=AW hij hr;have h1:=hH.box i y0 hy0
   have hs:(lk bx0 i).isSome=true:=by rw[hy0];rfl
   have h2:=h1.mono (w':=w.putObj l o) (G':=gd C' (λ_=>[]) Fb2) (L':=λi=>(lk bx0 i).isSome=true) (ρ':=λi=>ρ (m i)) (λb hb hl=>h4o b (hb.elim (λhg=>hg.1.elim (λhg=>(h.G1_lt b hg).2.1) (λho=>(h.O_ge b ho).2.1)) (λhf=>(h.O_ge b (hFO i b hf)).2.1)))
    (λb hb hl=>hb.1.elim (λhg=>hgdG b hg) (λho=>hgdO b ho hb.2)) (λi hi=>⟨hi,rfl⟩)
   have h3:=h2.ren (ρ2:=ρ) (L':=λid=>((⟨n,envZ,Z0 m bx0++bx⟩:Sg).box id).isSome=true) (m:=m) (λi hi=>⟨by
    show(lk (Z0 m bx0++bx) (m i)).isSome=true;rw[QF];have h7:=KE (m:=m) hi
    cases hq:lk (Z0 m bx0) (m i) with
    | some q=>rfl
    | none=>exact absurd h7 (by rw[hq];simp),rfl⟩)
   have e:Fb2 (m i)=Fbk i:=by simp only[Fb2,hinv i (O5.1 hs)]
   rw[e];exact h3
  | none=>
   rw[hr] at hx2;obtain⟨d0,rfl,hf,hn0⟩:=JY h.frs (show lk bx id=some x from hx2);obtain⟨cs,e,F',k1,k2,k3⟩:=h.box id d0 hx2;have hnl:∀ b∈Fb id,b≠l:=λb hb=>(h.own id b hb).2.2.2.1
   have e2:Fb2 id=Fb id:=by
    have:=hbk id (ρ id) (by rw[k3];simp);simp only[Fb2,this]
   rw[e2];refine⟨cs,e,F', ?_,k2.frsAll hf hn0 (λb hb _=>h4o b (hnl b (by rw[k3];exact j1 _ hb))),k3⟩;rw[h4o _ (hnl _ (by rw[k3];simp))];exact k1
 ·have hid2:lk (Z0 m bx0++bx) id=none:=hid;rw[QF] at hid2
  cases hi:inv id with
  | some i=>
   obtain⟨q1,q2⟩:=hinvS id i hi;have:=KE (m:=m) (O5.2 q1);rw[q2] at this
   cases hq:lk (Z0 m bx0) id with
   | some q=>rw[hq] at hid2;cases hid2
   | none=>rw[hq] at this;cases this
  | none=>
   cases hq:lk (Z0 m bx0) id with
   | some q=>rw[hq] at hid2;cases hid2
   | none=>
    rw[hq] at hid2;show Fb2 id=[];simp only[Fb2,hi];exact h.boxN id hid2
 ·cases hi:inv id with
  | some i=>simp only[Fb2,hi];exact hH.nodB i
  | none=>simp only[Fb2,hi];exact h.nodB id
 ·rcases hF2 id b hb with ⟨i,hi,hbi⟩|⟨hi,hbi⟩<;>rcases hF2 id' b hb' with ⟨j,hj,hbj⟩|⟨hj,hbj⟩
  ·refine hH.dBB i j (λe=>hne ?_) b hbi hbj;rw[<- (hinvS id i hi).2,<- (hinvS id' j hj).2,e]
  ·exact(h.own id' b hbj).2.1 (hFO i b hbi)
  ·exact(h.own id b hbi).2.1 (hFO j b hbj)
  ·exact h.dBB id id' hne b hbi hbj
 ·obtain⟨q1,_,_,q5,_⟩:=hown b hb
  rcases hc with hc|hc
  ·exact q1 (hk b hc)
  ·exact hod b q1 q5 hc
 ·rcases hb with hb|hb
  ·show b<(w.putObj l o).heap.size;omega
  ·exact(hall b hb).2.1
 ·obtain⟨q1,q2,cs,e,fz,q3,q4⟩:=hgl g d hg;refine⟨.inl q1,⟨.inl q2,λhc=>by have:=(hall g hc).1;omega⟩,cs,e,fz,(hW0 g q1).trans q3,q4.mono (λb hb _=>?_) (λ_ h=>h.elim) (λ_ h=>h.elim)⟩
  rcases hb with hb|hb
  ·exact hb.elim
  ·cases hb
 ·obtain⟨q1,_,_,q5,_⟩:=hown b hb;exact⟨.inr (H4 (λhc=>q1 (hk b hc))),hod b q1 q5⟩
theorem j72{g p n:Nat}{asg body:Code}{envA env0:List (Nat×D)}{ids:List Nat}{f:FuncId}[hf:CaT P f]{capsA caps xs:List D}{RR bx0:List (Nat×Bx)}{m:Nat->Nat}{bxs:Nat->List (Nat×Bx)}{Stop:Exit->List (Nat×Bx)->Prop}(J:Nat->Prop)
 {Q:Exit->Bool×Sg->Prop} {m0:Bool} (hgl:Glw gl W0 G) (hI:ItrK P gl f caps bx0 xs) (hg:lk envA g=some (.fn f capsA)) (hca:KJ m caps=capsA) (hcp:KX (bx0.map Prod.fst) caps=true) (hhas:XD RR (Z0 m bx0)) (hob:ZK (bx0.map Prod.fst) bx0) (hinj:EZ m (bx0.map Prod.fst)=true)
 (hout:∀ i∈bx0.map Prod.fst,K2 ids (m i)=false) (hsub:∀ t d,lk env0 t=some d->lk envA t=some d) (hoe:QG ids env0=true) {envZ:List (Nat×D)} (hsubZ:∀ t d,lk envZ t=some d->lk envA t=some d) (hoZ:QG (ids++(bx0.map Prod.fst).map m) envZ=true) (hpZ:ZE envZ=true) (hkp:M9 ids RR=bxs 0) (hp:p<n) (hpe:ZE env0=true)
 (hkeys:∀ id,(lk (bxs 0) id).isSome=N3 ids id) (hf0:YQ (bxs 0)) (hxs:∀ k (h:k<xs.length),xs[k].pur=true/\xs[k].np=true)
 (hJ:J 0)
 (hround:∀ k (h:k<xs.length),J k->∀ C':Ctx,C'.gl=gl->(∀ id b,C'.pin id=some b->N3 ids id=true)->W P C' asg (λe σ'=>e=.normal/\∀ C':Ctx,C'.gl=gl->(∀ id b,C'.pin id=some b->N3 ids id=true) ->
  W P C' body (λe σ'=>(e=.normal/\(M9 ids σ'.bx=bxs (k+1)/\J (k+1))∨(e=.ret∨∃ id,e=.exit id)/\Stop e (M9 ids σ'.bx))/\YQ (M9 ids σ'.bx)) σ') ((⟨n,env0,bxs k⟩:Sg).set p xs[k]))
 (hN:J xs.length->Q .normal (true,⟨n,envZ,Z0 m bx0++bxs xs.length⟩)) (hS:∀ e bx,(e=.ret∨∃ id,e=.exit id)->Stop e bx->Q e (true,⟨n,envZ,Z0 m bx0++bx⟩)) :
 V P none (AM (PI gl W0 G)) (.rangeFunc (.tmp g) #[p] asg body) Q (m0,⟨n,envA,RR⟩):=by
 intro a w ⟨C,⟨h1,h2,h3,h4,h5,h6,h7⟩,ρ,Fe,Fb,st⟩;have hlt:=st.lt
 have hpure:∀ t d,lk env0 t=some d->∃ v,a.tmps[t]? = some v/\VR w ρ (gd C Fe Fb) (λid=>N3 ids id=true) d v []:=by
  intro t d hd;obtain⟨hp1,hp2⟩:=ZA hpe hd;obtain⟨v,hv,hr⟩:=(c5 hp2).1 (st.env t d (hsub t d hd));have:=hr.pur hp1;rw[this] at hr;exact⟨v,hv,(hr.okB (QY hoe hd)).mono (λ_ _ _=>rfl) (λ_ h _=>h) (λid hid=>⟨hid.1,rfl⟩)⟩
 have hpureZ:∀ t d,lk envZ t=some d->∃ v,a.tmps[t]? = some v/\VR w ρ (gd C Fe Fb) (λid=>K2 (ids++(bx0.map Prod.fst).map m) id=true) d v []:=by
  intro t d hd;obtain⟨hp1,hp2⟩:=ZA hpZ hd;obtain⟨v,hv,hr⟩:=(c5 hp2).1 (st.env t d (hsubZ t d hd));have:=hr.pur hp1;rw[this] at hr;exact⟨v,hv,(hr.okB (QY hoZ hd)).mono (λ_ _ _=>rfl) (λ_ h _=>h) (λid hid=>⟨hid.1,rfl⟩)⟩
 obtain⟨vg,hvg,hrg⟩:=(c5 rfl).1 (st.env g _ hg);simp only[VR,D.isAgg,q7,q8] at hrg
 have hbL:∀ u,lk (bxs 0) u=if K2 ids u then lk RR u else none:=λu=>by rw[<- hkp];exact l6 ids RR u
 let FbK:Nat->List Nat:=λid=>if K2 ids id then Fb id else[]
 let Fbc:Nat->List Nat:=λi=>if(lk bx0 i).isSome then Fb (m i) else[]
 have hKsub:∀ id b,b∈FbK id->K2 ids id=true/\b∈Fb id:=λid b hb=>by
  by_cases hi:K2 ids id=true
  ·exact⟨hi,by simpa [FbK,hi] using hb⟩
  ·simp[FbK,hi] at hb
 have hFc:∀ i b,b∈Fbc i->i∈bx0.map Prod.fst/\b∈Fb (m i):=λi b hb=>by
  by_cases h:(lk bx0 i).isSome=true
  ·exact⟨O5.1 h,by simpa [Fbc,h] using hb⟩
  ·simp[Fbc,h] at hb
 have hij:=TP hinj
 have hmem:∀ i,K2 (bx0.map Prod.fst) i=true->(lk bx0 i).isSome=true:=λi hi=>by
  rw[O5];simp only[K2,Z4] at hi;obtain⟨j,hj,he⟩:=hi;rw[m8 he];exact hj
 have hb1:∀ i x,lk bx0 i=some x->(⟨n,envA,RR⟩:Sg).box (m i)=some (x.ren m):=λi x hx=>XW hhas _ _ (ER (BK hx))
 obtain⟨vs,rfl,hvl,hva,hvr⟩:∃ vs:List Value,vg=.func (.func f) #[] vs.toArray/\vs.length=caps.length/\(∀ k (h:k<caps.length),caps[k].isAgg=false)/\∀ k (h:k<caps.length),Rc w (λi=>ρ (m i)) (gd C Fe Fb) (λi=>(lk bx0 i).isSome=true) true caps[k] [vs.getD k undef] []:=by
  rw[ZZ] at hca;subst hca;generalize Fe g=Fg at hrg
  cases hrg with
  | fn _ _ vs hl ha hr=>
   refine⟨vs,rfl,by simpa using hl,λk hk=>?_,λk hk=>?_⟩
   ·have:=ha k (by simpa using hk);rw[c8,QI] at this;exact this
   ·have h1:=hr k (by simpa using hk);rw[c8] at h1;have h2:Rc w (λi=>ρ (m i)) (gd C Fe Fb) (λi=>((⟨n,envA,RR⟩:Sg).box (m i)).isSome=true) true caps[k] [vs.getD k undef] []:=h1.unren rfl (λi hi=>⟨hi,rfl⟩);exact(h2.okB (XT caps hcp k hk)).mono (λ_ _ _=>rfl) (λ_ h _=>h) (λi hi=>⟨hmem i hi.1,rfl⟩)
 refine wpIn_rangeFunc λfn _=>?_
 let r0:=x31 fn a.tmps p asg body w.heap.size
 let w2:World:=(w.alloc (.deferred (some []))).alloc (.loop r0)
 have hw2:∀ b,b<w.heap.size->w2.heap[b]? = w.heap[b]?:=λb hb=>by
  show((w.heap.push _).push _)[b]? = _;rw[M6 (by simp;omega),Array.getElem_push_lt hb,O8 hb]
 have hw2d:w2.heap[w.heap.size]? = some (.deferred (some [])):=by
  show((w.heap.push _).push _)[w.heap.size]? = _;rw[M6 (by simp)];simp
 have hw2l:w2.heap[w.heap.size+1]? = some (.loop r0):=by
  show((w.heap.push (.deferred (some []))).push _)[w.heap.size+1]? = _
  have e:w.heap.size+1=(w.heap.push (Obj.deferred (some []))).size:=by simp
  rw[e,Array.getElem?_push_size]
 have hw2s:w2.heap.size=w.heap.size+2:=by
  show((w.heap.push _).push _).size=_;simp
 have hevg:a.eval (.tmp g)=.func (.func f) #[] vs.toArray:=Q3 hvg;obtain⟨ff,hff1,hff2,hff3⟩:=hf.i;refine⟨w.heap.size+1,[ZJ w.heap.size],w2,{ target:=.fn (.func f) vs.toArray,args:=#[.func (.yield (w.heap.size+1)) #[] #[]] },w2,f,#[.func (.yield (w.heap.size+1)) #[] #[]]++vs.toArray,w2, ?_, ?_,(λ_ _=>trivial), ?_,(λh=>by cases h), ?_⟩
 ·exact run_enterLoop_outer fn a.tmps #[p] asg body
 ·simp[resolve,rangeCall,hvg,Deferred.ofValue,Act.eval]
 ·simp[invoke,KT hff1 hff2 hff3]
 let sz:=w.heap.size
 let l:=w.heap.size+1
 let dd:=w.heap.size
 let G1:Nat->Prop:=λb=>gd C Fe Fb b/\b<w.heap.size
 let Y:Yt:=λk s O w'=>((∀ b,G1 b->w'.heap[b]? = w.heap[b]?)/\∀ b,O b->b<w'.heap.size)/\(s=false->(k<=xs.length/\J k)/\w'.heap[l]? = some (.loop r0)/\∃ Fb',Last C n a env0 ids ρ G1 sz l dd (bxs k) Fb' O w') /\
  (s=true->∃ e c bx Fb',(e=.ret∨∃ id,e=.exit id)/\Stop e bx/\jmp e=some c/\w'.heap[l]? = some (.loop { r0 with state:=.done,pending:=some c })/\Last C n a env0 ids ρ G1 sz l dd bx Fb' O w')
 have hkl:∀ b,C.keep b->b<w.heap.size:=λb hb=>u0 (st.kept b hb).2 st.grown
 have hz:∀ b,sz<=b->¬ C.keep b:=λb hb hc=>by have:=hkl b hc;have:sz=w.heap.size:=rfl;omega
 have hY:Stable Y:=by
  intro k s O O' w₁ w₂ ⟨⟨y0,_⟩,y1,y2⟩ ha
  have hrec:∀ bx Fb' o,Last C n a env0 ids ρ G1 sz l dd bx Fb' O w₁->w₁.heap[l]? = some o->w₂.heap[l]? = some o:=λbx Fb' o hL ho=>by
   rw[ha.same l (j6.1 ho).1 (λhc=>(hL.O_ge l hc).2.1 rfl)];exact ho
  refine⟨⟨λb hb=>?_,ha.lt⟩,λhs=>?_,λhs=>?_⟩
  ·obtain⟨bx,Fb',hL⟩:∃ bx Fb',Last C n a env0 ids ρ G1 sz l dd bx Fb' O w₁:=by
    cases s with
    | false=>obtain⟨_,_,Fb',q3⟩:=y1 rfl;exact⟨_,Fb',q3⟩
    | true=>obtain⟨_,_,bx,Fb',_,_,_,_,q5⟩:=y2 rfl;exact⟨bx,Fb',q5⟩
   have h1:=(hL.G1_lt b hb).1;have h2:=hL.size;rw[ha.same b (by omega) (λhc=>(hL.O_ge b hc).1.2 hb)];exact y0 b hb
  ·obtain⟨q1,q2,Fb',q3⟩:=y1 hs;exact⟨q1,hrec _ _ _ q3 q2,Fb',q3.apart hz ha⟩
  ·obtain⟨e,c,bx,Fb',q1,q2,q3,q4,q5⟩:=y2 hs;exact⟨e,c,bx,Fb',q1,q2,q3,hrec _ _ _ q5 q4,q5.apart hz ha⟩
 have hgC:∀ g' d,(g',d)∈C.gl->C.keep g'/\G1 g'/\∃ cs e fz,C.w0.heap[g']? = some (.cells cs e fz)/\Rc C.w0 (λx=>x) (λ_=>False) (λ_=>False) false d cs.toList []:=λg' d hgd=>by
  obtain⟨q1,q2,q3⟩:=st.gl g' d hgd;exact⟨q1,⟨⟨q2,λho=>st.new g' ho q1⟩,hkl g' q1⟩,q3⟩
 have hO0:∀ b,(∃ i,b∈Fbc i)->own Fe Fb b:=λb ⟨i,hi⟩=>.inr ⟨m i,(hFc i b hi).2⟩
 have hL0:Last C n a env0 ids ρ G1 sz l dd (bxs 0) FbK (λb=>∃ i,b∈Fbc i) w2:=by
  refine Last.mk hkeys hf0 (λt d hd=>?_) (λid d hd=>?_) (λid hid=>?_) (λid=>?_) (λid id' hne b hb hb'=>st.dBB id id' hne b (hKsub id b hb).2 (hKsub id' b hb').2) (λid b hb=>?_) (λb hb=>⟨⟨st.new b (hO0 b hb),λhc=>hc.1.2 (hO0 b hb)⟩,by have:=hlt b (hO0 b hb);show b≠w.heap.size+1;omega,by have:=hlt b (hO0 b hb);show b≠w.heap.size;omega⟩) (λb hb=>?_) (λb hb=>?_) st.os ⟨st.tape.tp,st.tape.dr⟩ st.output (by rw[hw2s];show w.heap.size<=_;omega) (by rw[hw2s];show w.heap.size+1<_;omega) (by rw[hw2s];show w.heap.size<_;omega) (by show w.heap.size+1≠w.heap.size;omega) hw2d
  ·obtain⟨v,q1,q2⟩:=hpure t d hd;exact⟨v,q1,q2.mono (λb hb hl=>hw2 b hl) (λb hb hl=>⟨hb,hl⟩) (λ_ h=>⟨h,rfl⟩)⟩
  ·obtain⟨d0,hd0,hfr,hn0⟩:=JY hf0 hd;cases hd0;have hx:=hbL id;rw[hd] at hx
   have hm:K2 ids id=true:=by
    by_cases hm:K2 ids id=true
    ·exact hm
    ·rw[w3 hm] at hx;cases hx
   rw[u4 hm] at hx;obtain⟨cs,e,F',q1,q2,q3⟩:=st.bx id _ hx.symm;have hbl:ρ id<w.heap.size:=(j6.1 q1).1;exact⟨cs,e,F',(hw2 _ hbl).trans q1,q2.frsAll hfr hn0 (λb hb hl=>hw2 b hl),by simp only[FbK,hm,j9];exact q3⟩
  ·have hx:=hbL id;rw[hid] at hx;by_cases hm:K2 ids id=true
   ·rw[u4 hm] at hx;simp only[FbK,hm,j9];exact st.bxN id hx.symm
   ·simp[FbK,hm]
  ·show(if K2 ids id then Fb id else[]).Nodup;split
   ·exact st.nodB id
   ·exact w9
  ·obtain⟨hm,hb⟩:=hKsub id b hb;have hbl:b<w.heap.size:=hlt b (.inr ⟨id,hb⟩)
   exact⟨st.new b (.inr ⟨id,hb⟩),(λ⟨i,hi⟩=>by
    obtain⟨h1,h2⟩:=hFc i b hi;refine st.dBB id (m i) (λe=>?_) b hb h2;have:=hout i h1;rw[<- e,hm] at this
    cases this),(λhc=>hc.1.2 (.inr ⟨id,hb⟩)),by show b≠w.heap.size+1;omega,by show b≠w.heap.size;omega,by rw[hw2s];omega⟩
  ·have hbl:b<w.heap.size:=hb.2;exact⟨hb.2,by show b≠w.heap.size+1;omega,by show b≠w.heap.size;omega⟩
  ·have hbl:=hkl b hb;exact⟨(hw2 b hbl).trans (st.kept b hb).1,hbl,by show b≠w.heap.size+1;omega,by show b≠w.heap.size;omega⟩
 have hcalls:=hI w2 G1 (λi=>ρ (m i)) Fbc vs l Y (λb hb=>by rw[hw2s];have:b<w.heap.size:=hb.2;omega) (λg' d hgd=>by
  obtain⟨q1,cs,e,fz,q2,q3⟩:=PD st g' d (by rw[h1];exact hgd);have hbl:=(j6.1 q2).1
  exact⟨⟨q1,hbl⟩,cs,e,fz,(hw2 g' hbl).trans q2,q3.mono (λb hb _=>by rcases hb with hb|hb;exact hb.elim;cases hb) (λ_ h=>h.elim) (λ_ h=>h.elim)⟩) hvl (λk hk=>by
  have hv:VR w (λi=>ρ (m i)) (gd C Fe Fb) (λi=>(lk bx0 i).isSome=true) caps[k] (vs.getD k undef) []:=by
   simp only[VR,hva k hk,q7,q8];exact hvr k hk
  exact hv.mono (λb hb hl=>hw2 b hl) (λb hb hl=>⟨hb,hl⟩) (λ_ h=>⟨h,rfl⟩))
  ⟨λid x hx=>by
   have h1:=st.bx _ _ (hb1 id x hx);have h2:BR w (λi=>ρ (m i)) (gd C Fe Fb) (λi=>((⟨n,envA,RR⟩:Sg).box (m i)).isSome=true) (ρ (m id)) x (Fb (m id)):=h1.unren (λi hi=>⟨hi,rfl⟩);have h3:=(h2.okB (JU hob hx)).mono (w':=w2) (G':=G1) (L':=λi=>(lk bx0 i).isSome=true) (ρ':=λi=>ρ (m i)) (λb hb hl=>hw2 b hl) (λb hb hl=>⟨hb,hl⟩) (λi hi=>⟨hmem i hi.1,rfl⟩);show BR w2 _ _ _ _ _ (if(lk bx0 id).isSome then Fb (m id) else[]);rw[u4 (by rw[hx];rfl)]
   exact h3,λid hx=>by simp[Fbc,hx],λid=>by
   show(if(lk bx0 id).isSome then Fb (m id) else[]).Nodup;split
   ·exact st.nodB _
   ·exact w9,λid id' hne b hb hb'=>by
   obtain⟨h1,h2⟩:=hFc id b hb;obtain⟨h3,h4⟩:=hFc id' b hb'
   exact st.dBB (m id) (m id') (λe=>hne (hij id h1 id' h3 e)) b h2 h4,λid b hb hc=>hc.1.2 (.inr ⟨m id,(hFc id b hb).2⟩)⟩ hY
  (λk O w₁ v hk hYk hO hv=>by
   obtain⟨⟨_,hJk⟩,hrec,Fb',hL⟩:=hYk.2.1 rfl;have ha:=hround k hk hJk;have hround':=hL.round (r:=r0) hrec rfl rfl rfl rfl rfl st.size hO hp hv (hxs k hk).1 (hxs k hk).2 hpe hgC (E:=λe bx'=>e=.normal/\(bx'=bxs (k+1)/\J (k+1))∨(e=.ret∨∃ id,e=.exit id)/\Stop e bx')
    (λC' hC' hD'=>(ha C' (hC'.trans h1) hD').mono (λe s h=>⟨h.1,λC'' hC'' hD''=>h.2 C'' (hC''.trans h1) hD''⟩)) (λe bx' he=>he.elim (λh=>.inl h.1) (λh=>.inr h.1))
   obtain⟨f',tm,as',bd,hrun,hR⟩:=hround';refine⟨f',tm,as',bd,hrun,hR.mono ?_⟩;rintro e' w₂ ⟨s,he',e,bx',Fb'',hE,hs,hrec',hL',hsame,hsz⟩
   have hG:∀ b,G1 b->w₂.heap[b]? = w.heap[b]?:=λb hb=>by
    have h1:=(hL.G1_lt b hb).1;have h2:=hL.size;rw[hsame b (by omega) (λ⟨id,hid⟩=>(hL.own id b hid).2.2.1 hb) (hL.G1_lt b hb).2.1];exact hYk.1.1 b hb
   have hOz:∀ b,O b->b<w₂.heap.size:=λb hb=>u0 (hO b hb) hsz;refine⟨s,he',⟨⟨hG,hOz⟩, ?_⟩,λb hb hl=>?_,hsz⟩
   ·rcases hE with ⟨rfl,rfl,hJ1⟩|⟨hee,hst⟩
    ·have:s=false:=hs;subst this;exact⟨λ_=>⟨⟨hk,hJ1⟩,hrec',Fb'',hL'⟩,λh=>by cases h⟩
    ·obtain⟨c,hc⟩:∃ c,jmp e=some c:=by rcases hee with rfl|⟨id,rfl⟩<;>exact⟨_,rfl⟩
     rw[hc] at hs hrec';have:s=true:=hs;subst this;exact⟨λh=>(by cases h),λ_=>⟨e,c,bx',Fb'',hee,hst,hc,hrec',hL'⟩⟩
   ·refine hsame b hl (λ⟨id,hid⟩=>?_) (λhbl=>?_)
    ·obtain⟨q1,q2,q3,q4,q5,q6⟩:=hL.own id b hid;exact hb.elim q3 q2
    ·rcases hb with hb|hb
     ·exact(hL.G1_lt b hb).2.1 hbl
     ·exact(hL.O_ge b hb).2.1 hbl)
  ⟨⟨λb hb=>hw2 b hb.2,λb hb=>by have:=hlt b (hO0 b hb);rw[hw2s];omega⟩,λ_=>⟨⟨g9 _,hJ⟩,hw2l,FbK,hL0⟩,λh=>by cases h⟩
 refine callsIn_wide.2 (Calls.mono hcalls ?_);rintro e w₃ ⟨⟨v,rfl⟩,k,s,O,Fbk,hYk,hend,hFO,hHand⟩;obtain⟨dds,hd1,hd2,hd3⟩:=h7.l
 have hdfs:a.defers=dds.map ZJ:=by rw[st.defs,hd1]
 have hfin:∀ bx Fb' (o:Obj),Last C n a env0 ids ρ G1 sz l dd bx Fb' O w₃->AM (PI gl W0 G) (true,⟨n,envZ,Z0 m bx0++bx⟩) { a with defers:=[ZJ w.heap.size]++a.defers } (w₃.putObj l o):=λbx Fb' o hL=>by
  rw[hdfs];refine hL.finishK st.size hpZ h4 (λb hb=>h6 b hb.1.1) h5 (u9 h5.size st.grown) hgl o hd2 (λd hd=>⟨(hd3 d hd).1,(hd3 d hd).2.1,(hd3 d hd).2.2.1⟩) (λb hb hc=>(hd3 b hc).2.2.2 hb.1.1) hFO hYk.1.2 hHand hij hout (λt d hd=>?_);obtain⟨v0,k1,k2⟩:=hpureZ t d hd;refine⟨v0,k1,k2.mono (λb hb hl=>hYk.1.1 b ⟨hb.resolve_right (by simp),hl⟩) (λb hb hl=>⟨hb,hl⟩) (λid hid=>⟨?_,rfl⟩)⟩;simp only[K2,List.any_append,Y2] at hid;rw[QF]
  cases hq:lk (Z0 m bx0) id with
  | some q=>rfl
  | none=>
   rcases hid with hid|hid
   ·show(lk bx id).isSome=true;rw[hL.keys];exact hid
   ·simp only[Z4] at hid;obtain⟨j,hj,he⟩:=hid;rw[m8 he] at hq;obtain⟨i,hi,rfl⟩:=n9.1 hj;have:=KE (m:=m) (O5.2 hi);rw[hq] at this;cases this
 cases s with
 | false=>
  have hke:k=xs.length:=hend.resolve_left (by simp);subst hke;obtain⟨⟨_,hJk⟩,hrec,Fb',hL⟩:=hYk.2.1 rfl;refine⟨_,_,run_endLoop hrec (by simp[r0,x31]), ?_⟩;exact⟨_,hfin _ Fb' _ hL,hN hJk⟩
 | true=>
  obtain⟨e,c,bx,Fb',hee,hst,hc,hrec,hL⟩:=hYk.2.2 rfl;refine⟨_,_,run_endLoop hrec (by simp), ?_⟩
  rcases hee with rfl|⟨id,rfl⟩
  ·cases hc;exact wpIn_ret ⟨_,hfin _ Fb' _ hL,hS _ _ (.inl rfl) hst⟩
  ·cases hc;exact wpIn_exit ⟨_,hfin _ Fb' _ hL,hS _ _ (.inr ⟨_,rfl⟩) hst⟩
theorem z84{gl:List (Nat×D)}{W0:World}{G:Nat->Prop}{g p n:Nat}{asg body:Code}{envA env0:List (Nat×D)}{RR bx0:List (Nat×Bx)}{f:FuncId}[hf:CaT P f]{capsA caps:List D}(ml:List (Nat×Nat))(live liveZ:List Nat){envZ:List (Nat×D)}
 (ids:List Nat) (N:Nat) (xd:Nat->D) (bxs:Nat->List (Nat×Bx)) (Stop:Exit->List (Nat×Bx)->Prop) (J:Nat->Prop)
 {Q:Exit->Bool×Sg->Prop} {m0:Bool} (hgl:Glw gl W0 G) (hI:ItrK P gl f caps bx0 ((List.range N).map xd)) (hg:lk envA g=some (.fn f capsA)) (hca:KJ (mlk ml) caps=capsA) (hcp:KX (bx0.map Prod.fst) caps=true) (hhas:XD RR (Z0 (mlk ml) bx0)) (hob:ZK (bx0.map Prod.fst) bx0) (hinj:EZ (mlk ml) (bx0.map Prod.fst)=true)
 (hout:(bx0.map Prod.fst).all (λi=>!K2 ids (mlk ml i))=true) (hsub:picks (lk envA) live=env0) (hoe:QG ids env0=true) (hsubZ:picks (lk envA) liveZ=envZ) (hoZ:QG (ids++(bx0.map Prod.fst).map (mlk ml)) envZ=true) (hpZ:ZE envZ=true) (hkp:M9 ids RR=bxs 0) (hp:Nat.blt p n=true) (hpe:ZE env0=true)
 (hkeys:(bxs 0).map Prod.fst=ids) (hf0:YQ (bxs 0)) (hxs:∀ k,(xd k).pur=true/\(xd k).np=true) (hJ:J 0)
 (hround:∀ k,k<N->J k->∀ C':Ctx,C'.gl=gl->(∀ id b,C'.pin id=some b->N3 ids id=true)->W P C' asg (λe σ'=>e=.normal/\∀ C':Ctx,C'.gl=gl->(∀ id b,C'.pin id=some b->N3 ids id=true) ->
  W P C' body (λe σ'=>(e=.normal/\(M9 ids σ'.bx=bxs (k+1)/\J (k+1))∨(e=.ret∨∃ id,e=.exit id)/\Stop e (M9 ids σ'.bx))/\YQ (M9 ids σ'.bx)) σ') ((⟨n,env0,bxs k⟩:Sg).set p (xd k)))
 (hN:J N->Q .normal (true,⟨n,envZ,Z0 (mlk ml) bx0++bxs N⟩)) (hS:∀ e bx,(e=.ret∨∃ id,e=.exit id)->Stop e bx->Q e (true,⟨n,envZ,Z0 (mlk ml) bx0++bx⟩)) :
 V P none (AM (PI gl W0 G)) (.rangeFunc (.tmp g) #[p] asg body) Q (m0,⟨n,envA,RR⟩):=by
 have hlen:((List.range N).map xd).length=N:=by simp
 have hkeys':∀ id,(lk (bxs 0) id).isSome=N3 ids id:=by
  intro id;rw[<- hkeys];generalize bxs 0=l
  induction l with
  | nil=>rfl
  | cons x r ih=>
   obtain⟨k,b⟩:=x;rw[U2];simp only[N3,b9,List.any_cons] at ih ⊢;by_cases hk:k=id
   ·subst hk;simp
   ·simp only[hk,q8,ih];rw[nbeq (λh=>hk h.symm)];simp
 have e:∀ k (h:k<((List.range N).map xd).length),((List.range N).map xd)[k]=xd k:=λk h=>by simp
 refine j72 (ids:=ids) (bxs:=bxs) (Stop:=Stop) J hgl hI hg hca hcp hhas hob hinj (λi hi=>by have:=o8.1 hout i hi;simpa using this) (λt d hd=>l5 (f:=lk envA) (l:=live) (by rw[hsub];exact hd)) hoe (λt d hd=>l5 (f:=lk envA) (l:=liveZ) (by rw[hsubZ];exact hd)) hoZ hpZ hkp (g0 hp) hpe hkeys' hf0 (λk hk=>by rw[e];exact hxs k) hJ (λk hk hJk=>?_) (by rw[hlen];exact hN) hS;rw[e];exact hround k (by simpa using hk) hJk
theorem RB{c:Code}{Q:Exit->Sg->Prop}{bx':List (Nat×Bx)}(h1:XD σ.bx bx')(h2:(σ.bx.map Prod.fst).all (K2 (bx'.map Prod.fst))=true)(h:W P C c Q ⟨σ.n,σ.env,bx'⟩):W P C c Q σ:=by
 have e:∀ id,lk bx' id=lk σ.bx id:=λid=>by
  cases hx:lk bx' id with
  | some x=>exact(XW h1 _ _ (BK hx)).symm
  | none=>
   cases hy:lk σ.bx id with
   | none=>rfl
   | some y=>
    have h3:=o8.1 h2 id (O5.1 (by rw[hy];rfl));simp only[K2,Z4] at h3;obtain⟨j,hj,he⟩:=h3;have:=O5.2 hj;rw[<- m8 he,hx] at this;cases this
 have e2:(⟨σ.n,σ.env,bx'⟩:Sg).box=σ.box:=funext e;rintro a w ⟨ρ,Fe,Fb,st⟩;refine h a w ⟨ρ,Fe,Fb, ?_⟩;exact⟨st.size,st.defs,by rw[e2];exact st.pin,by rw[e2];exact st.env,st.envN,by rw[e2];exact st.bx,by rw[e2];exact st.bxN,st.nodE,st.nodB,st.dEE,st.dEB,st.dBB,st.new,st.kept,st.os,st.tape,st.output,st.grown,st.gl,st.okN,st.okO⟩
end
section
open Go.Proofs
theorem j36(a b:Hs):EqV Tryz.prog 2 23 (j4 a) (j4 b) (a==b):=EqV.arr a b
theorem YT:KeyC Tryz.prog 23 j4 2 where
 s:=⟨_,Tryz.underlying23,trivial⟩
 eq:=λa b=>by
  have h:=j36 a b
  have e:(@BEq.beq Hs List.instBEq a b)=(@BEq.beq Hs instBEqOfDecidableEq a b):=by
   rw[J1,@beq_iff_eq Hs List.instBEq _ a b,@beq_iff_eq Hs instBEqOfDecidableEq _ a b]
  rw[<- e];exact h
 ck:=λa=>CkV.arr a
 n:=rfl
 p:=λ_=>rfl
theorem FP:KeyD Tryz.prog j4 where
 same:=λw ρ G L k v v' F F' h h'=>by
  have a1:(j4 k).isAgg=true:=rfl;simp only[VR,a1,j9] at h h';obtain⟨cs,rfl,h⟩:=h;obtain⟨cs',rfl,h'⟩:=h';have q:=CV h;have q':=CV h';have e:cs=cs':=Array.toList_inj.1 (q.trans q'.symm);subst e;show Instr.sameBits (9999+1) _ _=true;simp only[Instr.sameBits,beq_self_eq_true,U9];refine EI _ λv hv=>?_;rw[q] at hv;obtain⟨b,_,rfl⟩:=n9.1 hv;exact⟨_,_,rfl⟩
theorem v58{o:Option Nat}{h:Hs}{n:UInt32}(e:o=some 33):o=some (D.agg [j4 h,.u32 n]).sz:=e.trans (g8 some (show 33=(D.agg [j4 h,.u32 n]).sz from rfl))
theorem w69(v:UInt64)(h:Hs):D.agg [.u64 v,j4 h]=H8 (v,h):=rfl
theorem w67(h:Hs)(n:UInt32):D.agg [j4 h,.u32 n]=z5 (h,n):=rfl
theorem s9(ids:List Nat)(m:List (Plc×EC)):∀ kv∈m.map (λe=>(z5 e.1,H8 e.2)),kv.1.okB ids=true/\kv.2.okB ids=true:=n5 (λ_=>rfl) (λ_=>rfl)
theorem s8(ids:List Nat)(m:List (Plc×Unit)):∀ kv∈m.map (λe=>(z5 e.1,w7 e.2)),kv.1.okB ids=true/\kv.2.okB ids=true:=n5 (λ_=>rfl) (λ_=>rfl)
theorem s7(ids:List Nat)(m:List (Hs×Unit)):∀ kv∈m.map (λe=>(j4 e.1,w7 e.2)),kv.1.okB ids=true/\kv.2.okB ids=true:=n5 (λ_=>rfl) (λ_=>rfl)
theorem k37(m:Nat->Nat)(M:List (Plc×EC))(i:Nat)(r:List (Nat×Bx)):Z0 m ((i,v6 z5 H8 M)::r)=(m i,v6 z5 H8 M)::Z0 m r:=q62 (λ_=>q61 _ _) (λ_=>rfl) M i r
theorem k36(m:Nat->Nat)(M:List (Plc×Unit))(i:Nat)(r:List (Nat×Bx)):Z0 m ((i,v6 z5 w7 M)::r)=(m i,v6 z5 w7 M)::Z0 m r:=q62 (λ_=>q61 _ _) (λ_=>rfl) M i r
theorem k35(m:Nat->Nat)(M:List (Hs×Unit))(i:Nat)(r:List (Nat×Bx)):Z0 m ((i,v6 j4 w7 M)::r)=(m i,v6 j4 w7 M)::Z0 m r:=q62 (λ_=>ND _ _) (λ_=>rfl) M i r
theorem ZC(m:Nat->Nat)(o:List (Plc×EC))(s:List (Plc×Unit))(d:List (Hs×Unit))(i0 i1 i2 i3:Nat) :
 Z0 m [(i0,.var (.agg [.map i1,.map i2,.map i3])),(i1,v6 z5 H8 o),(i2,v6 z5 w7 s),(i3,v6 j4 w7 d)]=[(m i0,.var (.agg [.map (m i1),.map (m i2),.map (m i3)])),(m i1,v6 z5 H8 o),(m i2,v6 z5 w7 s),(m i3,v6 j4 w7 d)]:=by
 show(m i0,Bx.var (.agg [.map (m i1),.map (m i2),.map (m i3)]))::Z0 m _=_;rw[k37,k36,k35];rfl
theorem k34(m:Nat->Nat)(o:List (Plc×EC))(s:List (Plc×Unit))(d:List (Hs×Unit))(i0 i1 i2 i3:Nat) :
 Z0 m [(i0,.var (.agg [.map i1,.map i2,.map i3])),(i3,v6 j4 w7 d),(i2,v6 z5 w7 s),(i1,v6 z5 H8 o)]=[(m i0,.var (.agg [.map (m i1),.map (m i2),.map (m i3)])),(m i3,v6 j4 w7 d),(m i2,v6 z5 w7 s),(m i1,v6 z5 H8 o)]:=by
 show(m i0,Bx.var (.agg [.map (m i1),.map (m i2),.map (m i3)]))::Z0 m _=_;rw[k35,k36,k37];rfl
theorem k33(m:Nat->Nat)(t:TxS)(o:List (Plc×EC))(s:List (Plc×Unit))(d:List (Hs×Unit))(a b i0 i1 i2 i3:Nat) :
 Z0 m [(a,.var (QS t)),(b,.var (.ptr i0 0 [])),(i0,.var (.agg [.map i1,.map i2,.map i3])),(i1,v6 z5 H8 o),(i2,v6 z5 w7 s),(i3,v6 j4 w7 d)] =
  [(m a,.var (QS t)),(m b,.var (.ptr (m i0) 0 [])),(m i0,.var (.agg [.map (m i1),.map (m i2),.map (m i3)])),(m i1,v6 z5 H8 o),(m i2,v6 z5 w7 s),(m i3,v6 j4 w7 d)]:=by
 show(m a,Bx.var (QS t))::(m b,Bx.var (.ptr (m i0) 0 []))::(m i0,Bx.var (.agg [.map (m i1),.map (m i2),.map (m i3)]))::Z0 m _=_;rw[k37,k36,k35];rfl
end
def v45(x:InS):Nat->Nat
 | 0=>0
 | w+1=>v45 x w+x.wit[w]!.length
def v47(t:TxS):Nat->Nat
 | 0=>0
 | i+1=>v47 t i+t.ins[i]!.script.length+t.ins[i]!.wit.length+v45 t.ins[i]! t.ins[i]!.wit.length
def v46(t:TxS):Nat->Nat
 | 0=>v47 t t.ins.length
 | k+1=>v46 t k+t.outs[k]!.script.length
def u01(t:TxS):Prop:=t.ins.length<=8/\t.outs.length<=8/\v46 t t.outs.length<=1000
instance(t:TxS):Decidable (u01 t):=by unfold u01;infer_instance
def u02(b:BlkS):Prop:=b.txs.length<=12/\∀ k<b.txs.length,u01 b.txs[k]!
instance(b:BlkS):Decidable (u02 b):=by unfold u02;infer_instance
def u87(l:List BlkS):Prop:=l.length<=20/\∀ i<l.length,u02 l[i]!
instance(l:List BlkS):Decidable (u87 l):=by unfold u87;infer_instance
section
variable{α:Type}(f:α->Nat)(p:α->Bool)
end

section
variable{l:List BlkS}{x:PlS}{mark:UInt32}
end
section
variable{l:List BlkS}{y:UInt8}{mark:UInt32}{sc:Hs}
end

section
variable{b:BkS}{A:List StS}{s:StS}
end
section
variable{l:List BlkS}{h:Nat}{b:BkS}
end
structure TnS where
 block:UInt8
 tx:UInt8
 at_:UInt8
 what:UInt8
 mend:Bool
 deriving Inhabited
def x70(b:BlkS):Prop:=∀ t∈b.txs,t.ins.length≠0/\t.outs.length≠0
section
variable{l:List StS}{i k:Nat}
end
section
variable{l:List BlkS}{i:Nat}
end
section
variable{all:List StS}{i k:Nat}{sc:Hs}
end
section
variable{P:Program}{C:Ctx}{σ σ' σ1:Sg}{a:Act}{w w':World}{ρ:Nat->Nat}{Fe Fe' Fb:Nat->List Nat}
theorem z00{α:Type}[Inhabited α]{f:α->D}{l:List α}{q k:Nat}(hk:k<l.length):(l.map f++List.replicate q .dead)[k]? = some (f l[k]!):=by
 rw[J3 (by simpa using hk),J2,j8 hk,Z1 l k hk];rfl
theorem GF{α:Type}[Inhabited α]{f:α->D}{l:List α}{z q k o off:Nat}{p:List Nat}{d:D}(hz:∀ x,(f x).sz=z)(hk:k<l.length)(h:(f l[k]!).loc p=some (o,d))(ho:k*z+o=off):(D.agg (l.map f++List.replicate q .dead)).loc (k::p)=some (off,d):=by
 simp only[D.loc,z00 hk,h];rw[NL _ _ (λx hx=>by obtain⟨y,_,rfl⟩:=n9.1 hx;exact hz y) _ (by simp;omega),ho]
theorem RU{α:Type}[Inhabited α]{f:α->D}{l:List α}{q k:Nat}{p:List Nat}{v:D}{y:α}(hk:k<l.length)(h:(f l[k]!).upd p v=some (f y)):(D.agg (l.map f++List.replicate q .dead)).upd (k::p) v=some (.agg ((l.set k y).map f++List.replicate q .dead)):=by
 simp only[D.upd,z00 hk,h];rw[List.set_append_left _ _ (by simpa using hk),W6]
section
variable{A B:List D}{c c' v d:D}{n z q o off:Nat}{p:List Nat}
end
theorem k81{α:Type}{f:α->D}{l:List α}{z:Nat}(h:∀ x,(f x).sz=z):∀ x∈l.map f,x.sz=z:=λx hx=>by obtain⟨y,_,rfl⟩:=n9.1 hx;exact h y
theorem z39{ids:List Nat}{i:Nat}{d:D}{r:List (Nat×Bx)}(h:d.okB ids=true)(hr:PL ids r=true):PL ids ((i,.var d)::r)=true:=by
 simp only[PL,h,hr,Bool.and_self]
theorem k54{ids:List Nat}:∀ {l:List D},(∀ x∈l,x.okB ids=true)->KX ids l=true:=by
 intro l
 induction l with
 | nil=>intro _;simp[KX]
 | cons x r ih=>intro h;simp[KX,h x (by simp),ih (λy hy=>h y (by simp[hy]))]
theorem x40{ids:List Nat}{α:Type}{f:α->D}{l:List α}{q:Nat}(h:∀ x,(f x).okB ids=true):(D.agg (l.map f++List.replicate q .dead)).okB ids=true:=by
 simp only[D.okB];refine k54 λx hx=>?_
 rcases Q9.1 hx with hx|hx
 ·obtain⟨y,_,rfl⟩:=n9.1 hx;exact h y
 ·rw[(List.mem_replicate.1 hx).2];rfl
section
variable{s t s' z i off:Nat}{path:List Nat}{ty rt:TypeId}{pos:String}{aft:Array Edge}{g:Option (Nat×Bool)}
end
end
theorem j56(h:HdS)(t:List TxS)(a:Option Nat):(D.agg [C7 h,.sl a 4 (t.map QS)]).brw=G8 ⟨h,t⟩:=by
 simp only[G8,D.brw,G4,b9,K0,CZ];rw[X5 ME]
theorem x96{α:Type}{f:α->D}{l:List α}{p:D->Prop}(h:∀ x,p (f x)):∀ x∈l.map f,p x:=λx hx=>by obtain⟨y,_,rfl⟩:=n9.1 hx;exact h y
section
variable{b:BlkS}{x:TnS}
theorem NH{α:Type}[Inhabited α](l:List α)(k:Nat):l.set k l[k]! = l:=by
 by_cases hk:k<l.length
 ·rw[Z1 l k hk,List.set_getElem_self]
 ·rw[List.set_eq_of_length_le (by omega)]
end
section
variable{l:List BlkS}{x:TnS}{n:Nat}
end
section
open Go.Proofs
theorem P7(b:List UInt8)(x:UInt64)(n:Nat)(hn:n<=8)(hb:b.length<=10000000):FnB Tryz.prog gl 101 [.ptr 0 0 [],.u64 x,.int ((n:Nat):Int)] [(0,.var (.agg [.sl (some 5) 1 (b.map D.u8)]))] (.tup []) [(0,.var (.agg [.sl (some 5) 1 ((b++M8 x n).map D.u8)]))] []:=by
 refine FnB.of (n:=23) (ids:=[0]) Tryz.func101 rfl rfl rfl (nU rfl) λC hC hD=>?_;refine u7 2 (y2 6 7) (V4 0 1 6 7) ⟨zV O,UG (kI 0 O) O,Zt⟩ ?_;refine W.block ?_;refine P6 n (λi=>⟨23,[(0,.ptr 0 0 []),(1,.u64 (k21 x i)),(6,.int ((n:Nat):Int)),(7,.int ((i:Nat):Int))],[(0,.var (.agg [.sl (some 5) 1 ((b++M8 x i).map D.u8)]))]⟩) (by simp only[M8,m6];rfl) λi hi=>?_;have hll:=K3 x i;refine u7 1 (y1 8) (V5 0 1 6 7 8) ⟨zS O,Zt⟩ ?_;refine W.seq ?_;refine c4 O (λhc8=>?_) (λhc8=>?_)
 ·refine W.skip (W.seq (W.block (c6 12 (y8 9 10 11 12 13 14 15 16) (V7 0 1 6 7 9 13 16) ⟨zV O,zV O,HL O,xF O,λ_ B H K=>R.ldO (K 12 _ O) (B 0 _ O) O H,zV O,zW O,λ_ _ H K=>Z7 (z:=1) (.cons (eU K 15 O) .nil) ⟨⟨O,O,O⟩,Zt⟩ O H dU,Zt⟩ O (⟨O,_,CM (gU 13 O) (xU 0 O) O O O O (gU 13 O) (SrcO.sc (SC.sl (gU 16 O)) (Y7 O)) (show _=((b++M8 x (i+1)).map D.u8) from(by simp[M8])) bU nU dU dU,⟨O,_,R.nilcP (gU 9 O) nU,⟨O,_,R.fdP (gU 18 O) nU,⟨O,_,S6 (gU 19 O) (xU 0 O) O (gU 17 O) O O (by rfl) (by rfl) O O,tW (V4 0 1 6 7) (B8 0) 23 O ?_⟩⟩⟩⟩))));refine m7 3 (y3 20 21 1) (V4 0 1 6 7) ⟨zV O,λ_ _ H K=>R.bin (eU K 20 O) (kW (.int .u64 8) (.u64 8) O) O bV H,zA O,Zt⟩ ?_;refine m7 2 (y2 22 7) (V4 0 1 6 7) ⟨N2 1 O,zV O,Zt⟩ ?_;exact⟨bU,rfl⟩
 ·obtain rfl:i=n:=by omega
  refine W.exit ?_;exact O2 (r:=.dead) (.inl O) O (O) ⟨O,Zt⟩
theorem GC(b:List UInt8)(n:Nat)(hb:b.length<=9000000):FnB Tryz.prog gl 142 [.ptr 0 0 [],.int ((n:Nat):Int)] [(0,.var (.agg [.sl (some 5) 1 (b.map D.u8)]))] (.tup []) [(0,.var (.agg [.sl (some 5) 1 ((b++H7 n).map D.u8)]))] []:=by
 refine FnB.of (n:=34) (ids:=[0]) Tryz.func142 rfl rfl rfl (nU rfl) λC hC hD=>?_;refine u7 3 (y3 5 6 4) (V2 0 4) ⟨zV O,λ_ _ H K=>T6 (d:=.u64 (cU n)) (eU K 5 O) O (O) H,zA O,Zt⟩ ?_;refine W.block (u7 3 (y3 13 14 12) (V3 0 4 12) ⟨zV O,UH O (kW (.int .u64 253) (.u64 253) O),zA O,Zt⟩ ?_);refine W.cond O (λhc12=>?_) (λhc12=>?_)
 ·refine O3 3 (y2 15 16) (V2 15 16) ⟨zV O,zV O,Zt⟩ O (⟨O,_,R.callB [(0,0)] hC (P7 b (cU n) 1 dU (by first|omega|(simp only[q9,K3,j3,j5];omega)|simp)) (EvB.cons (gV 15 O) O O O (EvB.cons (gV 16 O) O O O (EvB.cons (kI 1 O) O O O EvB.nil))) O ⟨O,Zt⟩ ⟨O,Zt⟩ O O O O O O nU,tW [] (B8 0) 34 O ?_⟩);exact O2 (r:=.dead) (.inl O) O (by simp only[H7,u4 (c3 hc12)];rfl) ⟨O,Zt⟩
 ·refine u7 3 (y3 19 20 18) (V3 0 4 18) ⟨zV O,UH O (kW (.int .u64 65535) (.u64 65535) O),zA O,Zt⟩ ?_;refine W.cond O (λhc18=>?_) (λhc18=>?_)
  ·refine c6 2 (y1 21) (V3 0 4 21) ⟨zV O,Zt⟩ O (⟨O,_,R.callB [(0,0)] hC (P7 b 253 1 dU (by first|omega|(simp only[q9,K3,j3,j5];omega)|simp)) (EvB.cons (gV 21 O) O O O (EvB.cons (kW (.int .u64 253) (.u64 253) O) O O O (EvB.cons (kI 1 O) O O O EvB.nil))) O ⟨O,Zt⟩ ⟨O,Zt⟩ O O O O O O nU,tW (V2 0 4) (B8 0) 34 O ?_⟩);refine O3 3 (y2 23 24) (V2 23 24) ⟨zV O,zV O,Zt⟩ O (⟨O,_,R.callB [(0,0)] hC (P7 (b++M8 253 1) (cU n) 2 dU (by first|omega|(simp only[q9,K3,j3,j5];omega)|simp)) (EvB.cons (gV 23 O) O O O (EvB.cons (gV 24 O) O O O (EvB.cons (kI 2 O) O O O EvB.nil))) O ⟨O,Zt⟩ ⟨O,Zt⟩ O O O O O O nU,tW [] (B8 0) 34 O ?_⟩);exact O2 (r:=.dead) (.inl O) O (by simp only[H7,w3 (g7 hc12),u4 (c3 hc18),u5];rfl) ⟨O,Zt⟩
  ·refine u7 3 (y3 27 28 26) (V3 0 4 26) ⟨zV O,UH O (kW (.int .u64 4294967295) (.u64 4294967295) O),zA O,Zt⟩ ?_;refine W.cond O (λhc26=>?_) (λhc26=>?_)
   ·refine c6 2 (y1 29) (V3 0 4 29) ⟨zV O,Zt⟩ O (⟨O,_,R.callB [(0,0)] hC (P7 b 254 1 dU (by first|omega|(simp only[q9,K3,j3,j5];omega)|simp)) (EvB.cons (gV 29 O) O O O (EvB.cons (kW (.int .u64 254) (.u64 254) O) O O O (EvB.cons (kI 1 O) O O O EvB.nil))) O ⟨O,Zt⟩ ⟨O,Zt⟩ O O O O O O nU,tW (V2 0 4) (B8 0) 34 O ?_⟩);refine O3 3 (y2 31 32) (V2 31 32) ⟨zV O,zV O,Zt⟩ O (⟨O,_,R.callB [(0,0)] hC (P7 (b++M8 254 1) (cU n) 4 dU (by first|omega|(simp only[q9,K3,j3,j5];omega)|simp)) (EvB.cons (gV 31 O) O O O (EvB.cons (gV 32 O) O O O (EvB.cons (kI 4 O) O O O EvB.nil))) O ⟨O,Zt⟩ ⟨O,Zt⟩ O O O O O O nU,tW [] (B8 0) 34 O ?_⟩);exact O2 (r:=.dead) (.inl O) O (by simp only[H7,w3 (g7 hc12),w3 (g7 hc18),u4 (c3 hc26),u5];rfl) ⟨O,Zt⟩
   ·refine c6 2 (y1 7) (V3 0 4 7) ⟨zV O,Zt⟩ O (⟨O,_,R.callB [(0,0)] hC (P7 b 255 1 dU (by first|omega|(simp only[q9,K3,j3,j5];omega)|simp)) (EvB.cons (gV 7 O) O O O (EvB.cons (kW (.int .u64 255) (.u64 255) O) O O O (EvB.cons (kI 1 O) O O O EvB.nil))) O ⟨O,Zt⟩ ⟨O,Zt⟩ O O O O O O nU,tW (V2 0 4) (B8 0) 34 O ?_⟩);refine O3 3 (y2 9 10) (V2 9 10) ⟨zV O,zV O,Zt⟩ O (⟨O,_,R.callB [(0,0)] hC (P7 (b++M8 255 1) (cU n) 8 dU (by first|omega|(simp only[q9,K3,j3,j5];omega)|simp)) (EvB.cons (gV 9 O) O O O (EvB.cons (gV 10 O) O O O (EvB.cons (kI 8 O) O O O EvB.nil))) O ⟨O,Zt⟩ ⟨O,Zt⟩ O O O O O O nU,tW [] (B8 0) 34 O ?_⟩);exact O2 (r:=.dead) (.inl O) O (by simp only[H7,w3 (g7 hc12),w3 (g7 hc18),w3 (g7 hc26),u5];rfl) ⟨O,Zt⟩
theorem MW(b x:List UInt8)(hb:b.length<=8000000)(hx:x.length<=1000000):FnB Tryz.prog gl 143 [.ptr 0 0 [],.sl none 1 (x.map D.u8)] [(0,.var (.agg [.sl (some 5) 1 (b.map D.u8)]))] (.tup []) [(0,.var (.agg [.sl (some 5) 1 ((b++JO x).map D.u8)]))] []:=by
 refine FnB.of (n:=17) (ids:=[0]) Tryz.func143 rfl rfl rfl (nU rfl) λC hC hD=>?_;refine c6 4 (y3 4 5 6) (V4 0 1 4 6) ⟨zV O,zV O,R2 O,Zt⟩ O (⟨O,_,R.callB [(0,0)] hC (GC b x.length bO) (EvB.cons (gV 4 O) O O O (EvB.cons (gV 6 O) O O O EvB.nil)) O ⟨O,Zt⟩ ⟨O,Zt⟩ O O O O O O nU,tW (V2 0 1) (B8 0) 17 O ?_⟩);have hcl:=E9 x.length;refine O3 10 (y6 8 9 10 11 12 13) (V3 8 12 13) ⟨zV O,zV O,HL O,xF O,λ_ B H K=>R.ldO (K 11 _ O) (B 0 _ O) O H,zV O,Zt⟩ O (⟨O,_,CM (gU 12 O) (xU 0 O) O O O O (gU 12 O) (SrcO.sc (SC.sl (gU 13 O)) (B0 (λ_=>rfl))) (ML) bU nU dU dU,⟨O,_,R.nilcP (gU 8 O) nU,⟨O,_,R.fdP (gU 15 O) nU,⟨O,_,S6 (gU 16 O) (xU 0 O) O (gU 14 O) O O (by rfl) (by rfl) O O,tW [] (B8 0) 17 O ?_⟩⟩⟩⟩);exact O2 (r:=.dead) (.inl O) O (by simp only[JO,u5];rfl) ⟨O,Zt⟩
theorem RW(b:List UInt8)(t:TxS)(hwf:t.wf)(hb:b.length<=100):FnB Tryz.prog gl 102 [.ptr 0 0 [],QS t] [(0,.var (.agg [.sl (some 5) 1 (b.map D.u8)]))] (.tup []) [(0,.var (.agg [.sl (some 5) 1 ((b++JT t).map D.u8)]))] []:=by
 refine FnB.of (n:=68) (ids:=[0]) Tryz.func102 rfl rfl rfl (nU rfl) λC hC hD=>?_;have hc1:=E9 t.ins.length;have hc2:=E9 t.outs.length;have h1:=hwf.ins;have h2:=hwf.outs;have h3:=hwf.insb _ (z7 _);have h4:=hwf.outsb _ (z7 _);refine c6 1 [] (V2 0 1) Zt O (⟨O,_,R.box (gV 1 O) O O nU,tW (V2 0 3) (M4 3 0) 68 O ?_⟩);refine c6 5 (y4 8 9 10 11) (V4 0 3 8 11) ⟨zV O,xF O,xL O,R2 O,Zt⟩ O (⟨O,_,R.callB [(0,0)] hC (GC b t.ins.length bO) (EvB.cons (gV 8 O) O O O (EvB.cons (gV 11 O) O O O EvB.nil)) O ⟨O,Zt⟩ ⟨O,Zt⟩ O O O O O O nU,tW (V2 0 3) (M4 3 0) 68 O ?_⟩);refine W.seq (u7 4 (y4 13 14 15 16) (V5 0 3 14 15 16) ⟨xF O,xL O,R2 O,UG (kI 0 O) O,Zt⟩ ?_);refine W.block ?_;refine P6 t.ins.length (λi=>⟨68,[(0,.ptr 0 0 []),(3,.ptr 3 0 []),(14,.sl none 36 (t.ins.map XE)),(15,.int ((t.ins.length:Nat):Int)),(16,.int ((i:Nat):Int))],[(3,.var (.agg [.u32 t.ver,.sl none 36 (t.ins.map XE),.sl none 2 (t.outs.map i7),.u32 t.lock])),(0,.var (.agg [.sl (some 5) 1 ((b++H7 t.ins.length++ZU t.ins i).map D.u8)]))]⟩) (by simp only[ZU,m6];rfl) λi hi=>?_;have hib:=hwf.insb i hi
 have hx:i<t.ins.length->t.ins[i]!.tx.length=32/\t.ins[i]!.script.length<=1000000:=λh=>⟨hwf.hash _ (P3 h),hwf.insScript h⟩
 have hil:=ZL t.ins[i]!.script;refine u7 1 (y1 17) (V6 0 3 14 15 16 17) ⟨zS O,Zt⟩ ?_;refine W.seq ?_;refine c4 O (λhc17=>?_) (λhc17=>?_)
 ·refine W.skip (W.seq (W.block (c6 4 (y2 18 19) (V6 0 3 14 15 16 19) ⟨zI i O,zL O (mG t.ins),Zt⟩ O (M7 O (B2 O (tW (V6 0 3 5 14 15 16) (QB 5 3 0) 68 O ?_))))));refine W.seq ?_;refine s6 (m:=9) (an:=[0,0,2,6,14,0,32,96,254,511,1023,2047]) (its:=(y9 20 21 22 23 24 25 26 27 28)) (ks:=[(8,24)]) (kk:=[]) (efs:=[(8,(B8 0))]) (live:=[0,3,5,14,15,16,20,28]) (env':=(V8 0 3 5 14 15 16 20 28)) (nd:=40) (bx1:=(QB 0 5 3)) hP dU O ⟨⟨85,O⟩,nU O,O,O,O,O⟩ (        ⟨⟨O,nU O,O,λ_ τ hb ht hτ=>R.mov (evt (hτ 0 _ O)) O ht⟩,⟨⟨O,nU O,O,λ_ τ hb ht hτ=>R.mov (evt (hτ 0 _ O)) O ht⟩,⟨⟨O,nU O,O,λ_ τ hb ht hτ=>R.nilcP (hτ 21 _ O) ht⟩,⟨⟨O,nU O,O,λ_ τ hb ht hτ=>R.fdP (hτ 22 _ O) ht⟩,⟨⟨O,nU O,O,λ_ τ hb ht hτ=>R.ldO (hτ 23 _ O) (hb 0 _ O) O ht⟩,⟨⟨O,nU O,O,λ_ τ hb ht hτ=>R.fdP (hτ 5 _ O) ht⟩,⟨⟨O,nU O,O,λ_ τ hb ht hτ=>R.fdP (hτ 25 _ O) ht⟩,⟨⟨O,nU O,O,λ_ τ hb ht hτ=>r9 (0) (32) (32) (hτ 26 _ O) (hb 5 _ O) O O O O O bU bU O ht⟩,⟨⟨O,O,⟨O,nU O⟩,(WZ (s:=24) (id:=0) O O O O O (λτ hb hτ=>(SrcO.sc (SC.va (hτ 27 _ O O O) (hb 5 _ dU O) O bU) (l4 (λ_=>rfl)))) (show _=((((b++H7 t.ins.length++ZU t.ins i)++t.ins[i]!.tx)).map D.u8) from(by rw[K5,m4 (by rw[z9,(hx hc17).1];exact z7 _)];simp)) bU dU dU O nU)⟩,Zt⟩⟩⟩⟩⟩⟩⟩⟩⟩) O O O (n':=68) O (⟨O,_,R.nilcP (gU 20 O) nU,⟨O,_,R.fdP (gU 29 O) nU,⟨O,_,S6 (gU 30 O) (xU 0 O) O (gU 28 O) O O (by rfl) (by rfl) O O,⟨[0,3,5,14,15,16],(V6 0 3 5 14 15 16),(QB 0 5 3),68,O,O,O, ?_⟩⟩⟩⟩);refine c6 6 (y5 31 32 33 34 35) (V8 0 3 5 14 15 16 31 35) ⟨zV O,xF O,xF O,xL O,zW O,Zt⟩ O (⟨O,_,R.callB [(0,0)] hC (P7 ((b++H7 t.ins.length++ZU t.ins i)++t.ins[i]!.tx) t.ins[i]!.n.toUInt64 4 dU (by first|omega|(simp only[q9,K3,j3,j5];omega)|simp)) (EvB.cons (gV 31 O) O O O (EvB.cons (gV 35 O) O O O (EvB.cons (kI 4 O) O O O EvB.nil))) O ⟨O,Zt⟩ ⟨O,Zt⟩ O O O O O O nU,tW (V6 0 3 5 14 15 16) (QB 0 5 3) 68 O ?_⟩);refine c6 4 (y3 37 38 39) (V8 0 3 5 14 15 16 37 39) ⟨zV O,xF O,xL O,Zt⟩ O (⟨O,_,R.callB [(0,0)] hC (MW (((b++H7 t.ins.length++ZU t.ins i)++t.ins[i]!.tx)++M8 t.ins[i]!.n.toUInt64 4) t.ins[i]!.script (by first|omega|(simp only[q9,K3,j3,j5];omega)|simp) bO) (EvB.cons (gV 37 O) O O O (EvB.cons (gV 39 O) O O O EvB.nil)) O ⟨O,Zt⟩ ⟨O,Zt⟩ O O O O O O nU,tW (V6 0 3 5 14 15 16) (QB 0 5 3) 68 O ?_⟩);refine O3 5 (y4 41 42 43 44) (V7 0 3 14 15 16 41 44) ⟨zV O,xF O,xL O,zW O,Zt⟩ O (⟨O,_,R.callB [(0,0)] hC (P7 ((((b++H7 t.ins.length++ZU t.ins i)++t.ins[i]!.tx)++M8 t.ins[i]!.n.toUInt64 4)++JO t.ins[i]!.script) t.ins[i]!.seq.toUInt64 4 dU (by first|omega|(simp only[q9,K3,j3,j5];omega)|simp)) (EvB.cons (gV 41 O) O O O (EvB.cons (gV 44 O) O O O (EvB.cons (kI 4 O) O O O EvB.nil))) O ⟨O,Zt⟩ ⟨O,Zt⟩ O O O O O O nU,tW (V5 0 3 14 15 16) (QB 0 5 3) 68 O ?_⟩);refine W.dropB [0,3] (bx':=(M4 0 3)) O O O (n7 hD O) ?_;refine RB (bx':=(M4 3 0)) ⟨O,O,Zt⟩ O ?_;refine m7 2 (y2 46 16) (V5 0 3 14 15 16) ⟨N2 1 O,zV O,Zt⟩ ?_;exact⟨bU,(by simp only[ZU,u28,u5];rfl)⟩
 ·obtain rfl:i=t.ins.length:=by omega
  refine W.exit (c6 5 (y4 47 48 49 50) (V4 0 3 47 50) ⟨zV O,xF O,xL O,R2 O,Zt⟩ O (⟨O,_,R.callB [(0,0)] hC (GC (b++H7 t.ins.length++ZU t.ins t.ins.length) t.outs.length (by simp only[q9];omega)) (EvB.cons (gV 47 O) O O O (EvB.cons (gV 50 O) O O O EvB.nil)) O ⟨O,Zt⟩ ⟨O,Zt⟩ O O O O O O nU,tW (V2 0 3) (M4 3 0) 68 O ?_⟩));refine u7 4 (y4 52 53 54 55) (V4 0 53 54 55) ⟨xF O,xL O,R2 O,UG (kI 0 O) O,Zt⟩ ?_;refine W.block ?_;refine P6 t.outs.length (λi=>⟨68,[(0,.ptr 0 0 []),(53,.sl none 2 (t.outs.map i7)),(54,.int ((t.outs.length:Nat):Int)),(55,.int ((i:Nat):Int))],[(3,.var (.agg [.u32 t.ver,.sl none 36 (t.ins.map XE),.sl none 2 (t.outs.map i7),.u32 t.lock])),(0,.var (.agg [.sl (some 5) 1 (((b++H7 t.ins.length++ZU t.ins t.ins.length)++H7 t.outs.length++QE t.outs i).map D.u8)]))]⟩) (by simp only[QE,m6];rfl) λi hi=>?_;have hib:=hwf.outsb i hi;have hx:i<t.outs.length->t.outs[i]!.script.length<=1000000:=λh=>hwf.outScript h;have hil:=ZL t.outs[i]!.script;refine u7 1 (y1 56) (V5 0 53 54 55 56) ⟨zS O,Zt⟩ ?_;refine W.seq ?_;refine c4 O (λhc56=>?_) (λhc56=>?_)
  ·refine W.skip (W.seq (W.block (c6 4 (y2 57 58) (V5 0 53 54 55 58) ⟨zI i O,zL O (mG t.outs),Zt⟩ O (M7 O (B2 O (tW (V5 0 7 53 54 55) (QB 7 3 0) 68 O ?_))))));refine c6 4 (y3 59 60 61) (V7 0 7 53 54 55 59 61) ⟨zV O,xF O,xL O,Zt⟩ O (⟨O,_,R.callB [(0,0)] hC (P7 ((b++H7 t.ins.length++ZU t.ins t.ins.length)++H7 t.outs.length++QE t.outs i) t.outs[i]!.value 8 dU (by first|omega|(simp only[q9,K3,j3,j5];omega)|simp)) (EvB.cons (gV 59 O) O O O (EvB.cons (gV 61 O) O O O (EvB.cons (kI 8 O) O O O EvB.nil))) O ⟨O,Zt⟩ ⟨O,Zt⟩ O O O O O O nU,tW (V5 0 7 53 54 55) (QB 7 3 0) 68 O ?_⟩);refine O3 4 (y3 63 64 65) (V6 0 53 54 55 63 65) ⟨zV O,xF O,xL O,Zt⟩ O (⟨O,_,R.callB [(0,0)] hC (MW (((b++H7 t.ins.length++ZU t.ins t.ins.length)++H7 t.outs.length++QE t.outs i)++M8 t.outs[i]!.value 8) t.outs[i]!.script (by first|omega|(simp only[q9,K3,j3,j5];omega)|simp) bO) (EvB.cons (gV 63 O) O O O (EvB.cons (gV 65 O) O O O EvB.nil)) O ⟨O,Zt⟩ ⟨O,Zt⟩ O O O O O O nU,tW (V4 0 53 54 55) (QB 7 3 0) 68 O ?_⟩);refine W.dropB [0,3] (bx':=(M4 3 0)) O O O (n7 hD O) ?_;refine m7 2 (y2 67 55) (V4 0 53 54 55) ⟨N2 1 O,zV O,Zt⟩ ?_;exact⟨bU,(by simp only[QE,EV,u5];rfl)⟩
  ·obtain rfl:i=t.outs.length:=by omega
   refine W.exit ?_;exact O2 (r:=.dead) (.inl O) O (by simp only[JT,u5];rfl) ⟨O,Zt⟩
end
section
open Go.Proofs
theorem z05(t:TxS)(hwf:t.wf):Fn Tryz.prog gl 48 [QS t] (.sl (some 5) 1 ((YZ t).map D.u8)):=by
 refine Fo 23 Tryz.func48 O λC hC hD=>?_;refine c6 2 [] (V1 0) Zt O (⟨O,_,R.box (gV 0 O) O O nU,⟨O,_,Z3 (kN O) O nU,tW (V1 1) (B8 1) 23 O ?_⟩⟩);refine c6 3 (y1 4) (V2 1 4) ⟨λ_ _ H _=>C0 (l:=[.nils]) (l':=[_]) (.nil O) Zt H,Zt⟩ O (⟨O,_,R.box (gV 4 O) O O nU,(JP O (tW (V2 1 3) (M4 5 1) 23 O ?_))⟩);refine W.seq ?_;refine CH 5 [0] 5 1 (bx':=(M4 5 1)) O O O O O ?_;have hbl:=hwf.body;refine O3 5 (y4 6 7 8 9) (V4 1 3 6 9) ⟨zV O,xF O,xL O,zW O,Zt⟩ O (⟨O,_,R.callB [(0,5)] hC (P7 [] t.ver.toUInt64 4 dU (by first|omega|(simp only[q9,K3,j3,j5];omega)|simp)) (EvB.cons (gV 6 O) O O O (EvB.cons (gV 9 O) O O O (EvB.cons (kI 4 O) O O O EvB.nil))) O ⟨O,Zt⟩ ⟨O,Zt⟩ O O O O O O nU,tW (V2 1 3) (M4 5 1) 23 O ?_⟩);refine c6 3 (y2 11 12) (V4 1 3 11 12) ⟨zV O,xL O,Zt⟩ O (⟨O,_,R.callB [(0,5)] hC (RW ([]++M8 t.ver.toUInt64 4) t hwf (by first|omega|(simp only[q9,K3,j3,j5];omega)|simp)) (EvB.cons (gV 11 O) O O O (EvB.cons (gV 12 O) O O O EvB.nil)) O ⟨O,Zt⟩ ⟨O,Zt⟩ O O O O O O nU,tW (V2 1 3) (M4 5 1) 23 O ?_⟩);refine c6 5 (y4 14 15 16 17) (V3 3 14 17) ⟨zV O,xF O,xL O,zW O,Zt⟩ O (⟨O,_,R.callB [(0,5)] hC (P7 (([]++M8 t.ver.toUInt64 4)++JT t) t.lock.toUInt64 4 dU (by first|omega|(simp only[q9,K3,j3,j5];omega)|simp)) (EvB.cons (gV 14 O) O O O (EvB.cons (gV 17 O) O O O (EvB.cons (kI 4 O) O O O EvB.nil))) O ⟨O,Zt⟩ ⟨O,Zt⟩ O O O O O O nU,tW (V1 3) (M4 5 1) 23 O ?_⟩);refine c6 5 (y4 19 20 21 22) (V1 22) ⟨zV O,HL O,xF O,λ_ B H K=>R.ldO (K 21 _ O) (B 5 _ O) O H,Zt⟩ O (⟨O,_,RO (gU 22 O) (xU 5 O) O O O O (gU 22 O) nU dU,tW (V1 2) (M4 5 1) 23 O ?_⟩);exact W.ret (En O (by simp only[YZ,U0]))
theorem IG(t:TxS)(hwf:t.wf):Fn Tryz.prog gl 141 [QS t] (.bool (EE t)):=by
 refine Fo 17 Tryz.func141 O λC hC hD=>?_;have h1:=hwf.ins;refine c6 2 [] (V1 0) Zt O (⟨O,_,R.box (gV 0 O) O O nU,⟨O,_,Z3 (kB false O) O nU,tW (V1 1) (B8 1) 17 O ?_⟩⟩);refine W.seq (u7 4 (y4 5 6 7 8) (V3 6 7 8) ⟨xF O,xL O,R2 O,UG (kI 0 O) O,Zt⟩ ?_);refine W.block ?_;refine ED t.ins.length (λq__=>∀ k<q__,¬ 0<t.ins[k]!.wit.length) (λi=>⟨17,[(6,.sl none 36 (t.ins.map XE)),(7,.int ((t.ins.length:Nat):Int)),(8,.int ((i:Nat):Int))],[(1,.var (.agg [.u32 t.ver,.sl none 36 (t.ins.map XE),.sl none 2 (t.outs.map i7),.u32 t.lock]))]⟩) ⟨g9 _,λk h=>absurd h (Q8 _)⟩ O λi hinv=>?_;obtain⟨hi,hno⟩:=hinv;have hi:i<=t.ins.length:=hi;have hno:∀ k<i,¬ 0<t.ins[k]!.wit.length:=hno;have hwl:i<t.ins.length->t.ins[i]!.wit.length<=1000000:=λh=>(hwf.witl _ (P3 h)).1;refine u7 1 (y1 9) (V4 6 7 8 9) ⟨zS O,Zt⟩ ?_;refine W.seq ?_;refine c4 O (λhc9=>?_) (λhc9=>?_)
 ·refine W.skip (W.seq (W.block (c6 4 (y2 10 11) (V4 6 7 8 11) ⟨zI i O,zL O (mG t.ins),Zt⟩ O (M7 O (B2 O (tW (V4 4 6 7 8) (M4 4 1) 17 O ?_))))));refine u7 4 (y4 12 13 14 15) (V4 6 7 8 15) ⟨xF O,xL O,R2 O,z23 0 O,Zt⟩ ?_;refine c4 O (λhc15=>?_) (λhc15=>?_)
  ·refine W.seq ?_;refine W.dropB [1] (bx':=(B8 1)) O O O (n7 hD O) ?_;refine m7 1 (y1 2) (V1 2) ⟨QX O,Zt⟩ ?_;exact W.ret (En O ((g8 D.bool (z31 hc9 hc15)).symm))
  ·refine W.skip ?_;refine W.dropB [1] (bx':=(B8 1)) O O O (n7 hD O) ?_;refine m7 2 (y2 16 8) (V3 6 7 8) ⟨N2 1 O,zV O,Zt⟩ ?_;exact⟨⟨by omega,λk hk=>(m5.1 hk).elim (hno k) (λe=>e▸hc15)⟩,rfl⟩
 ·obtain rfl:i=t.ins.length:=by omega
  refine W.exit (u7 1 (y1 2) (V1 2) ⟨QX O,Zt⟩ ?_);exact W.ret (En O ((g8 D.bool (WT hno)).symm))
theorem w62(t:TxS)(hwf:t.wf):Fn Tryz.prog gl 99 [QS t] (.sl (some 5) 1 ((z34 t).map D.u8)):=by
 refine Fo 65 Tryz.func99 O λC hC hD=>?_;have h1:=hwf.ins;have hbl:=hwf.body;have hw0:=hwf.witsb _ (z7 _);refine c6 2 [] (V1 0) Zt O (⟨O,_,R.box (gV 0 O) O O nU,⟨O,_,Z3 (kN O) O nU,tW (V1 1) (B8 1) 65 O ?_⟩⟩);refine W.seq (u7 3 (y3 8 9 10) (V2 1 10) ⟨xL O,zC hC (IG t hwf) O (F1 (.bool _)),AC O,Zt⟩ ?_);refine W.cond O (λhc10=>?_) (λhc10=>?_)
 ·refine M3 3 (y3 11 12 2) [(2,12)] [(2,12)] (V1 2) ⟨aU (xL O),aU<|zC hC (z05 t hwf) O (F1 (.sl _ _ _ (K7 λ_=>.u8 _))),aU<|zO O,Zt⟩ O (tU O ?_);exact W.ret (En O (by rw[z34,w3 (by simpa using hc10)]))
 ·refine W.skip (c6 3 (y1 13) (V2 1 13) ⟨λ_ _ H _=>C0 (l:=[.nils]) (l':=[_]) (.nil O) Zt H,Zt⟩ O (⟨O,_,R.box (gV 13 O) O O nU,(JP O (tW (V2 1 3) (M4 14 1) 65 O ?_))⟩));refine W.seq ?_;refine CH 14 [0] 5 1 (bx':=(M4 14 1)) O O O O O ?_;refine O3 5 (y4 15 16 17 18) (V4 1 3 15 18) ⟨zV O,xF O,xL O,zW O,Zt⟩ O (⟨O,_,R.callB [(0,14)] hC (P7 [] t.ver.toUInt64 4 dU (by first|omega|(simp only[q9,K3,j3,j5];omega)|simp)) (EvB.cons (gV 15 O) O O O (EvB.cons (gV 18 O) O O O (EvB.cons (kI 4 O) O O O EvB.nil))) O ⟨O,Zt⟩ ⟨O,Zt⟩ O O O O O O nU,tW (V2 1 3) (M4 14 1) 65 O ?_⟩);refine c6 10 (y6 20 21 22 23 24 25) (V5 1 3 20 24 25) ⟨zV O,zV O,HL O,xF O,λ_ B H K=>R.ldO (K 23 _ O) (B 14 _ O) O H,λ_ _ H _=>Z7 (z:=1) (.cons (kW (.int .u8 0) (.u8 0) O) (.cons (kW (.int .u8 1) (.u8 1) O) .nil)) ⟨⟨O,O,O⟩,⟨O,O,O⟩,Zt⟩ O H dU,Zt⟩ O (⟨O,_,CM (gU 24 O) (xU 14 O) O O O O (gU 24 O) (SrcO.sc (SC.sl (gU 25 O)) (Y7 O)) (show _=(((([]++M8 t.ver.toUInt64 4)++[0,1])).map D.u8) from(by simp)) (by simp[K3]) nU dU dU,⟨O,_,R.nilcP (gU 20 O) nU,⟨O,_,R.fdP (gU 27 O) nU,⟨O,_,S6 (gU 28 O) (xU 14 O) O (gU 26 O) O O (by rfl) (by rfl) O O,tW (V2 1 3) (M4 14 1) 65 O ?_⟩⟩⟩⟩);refine c6 3 (y2 29 30) (V4 1 3 29 30) ⟨zV O,xL O,Zt⟩ O (⟨O,_,R.callB [(0,14)] hC (RW (([]++M8 t.ver.toUInt64 4)++[0,1]) t hwf (by first|omega|(simp only[q9,K3,j3,j5];omega)|simp)) (EvB.cons (gV 29 O) O O O (EvB.cons (gV 30 O) O O O EvB.nil)) O ⟨O,Zt⟩ ⟨O,Zt⟩ O O O O O O nU,tW (V2 1 3) (M4 14 1) 65 O ?_⟩);refine W.seq (u7 4 (y4 32 33 34 35) (V5 1 3 33 34 35) ⟨xF O,xL O,R2 O,UG (kI 0 O) O,Zt⟩ ?_);refine W.block ?_;refine P6 t.ins.length (λi=>⟨65,[(1,.ptr 1 0 []),(3,.ptr 14 0 []),(33,.sl none 36 (t.ins.map XE)),(34,.int ((t.ins.length:Nat):Int)),(35,.int ((i:Nat):Int))],[(14,.var (.agg [.sl (some 5) 1 ((((([]++M8 t.ver.toUInt64 4)++[0,1])++JT t)++UL t.ins i).map D.u8)])),(1,.var (.agg [.u32 t.ver,.sl none 36 (t.ins.map XE),.sl none 2 (t.outs.map i7),.u32 t.lock]))]⟩) (by simp only[UL,m6];rfl) λi hi=>?_;have hib:=hwf.witsb i hi;have hx:i<t.ins.length->t.ins[i]!.wit.length<=1000000/\∀ j ≤ t.ins[i]!.wit.length,(NQ t.ins[i]!.wit j).length<=1500000:=λh=>hwf.witl _ (P3 h);have hcl:=E9 t.ins[i]!.wit.length;refine u7 1 (y1 36) (V6 1 3 33 34 35 36) ⟨zS O,Zt⟩ ?_;refine W.seq ?_;refine c4 O (λhc36=>?_) (λhc36=>?_)
  ·refine W.skip (W.seq (W.block (c6 4 (y2 37 38) (V6 1 3 33 34 35 38) ⟨zI i O,zL O (mG t.ins),Zt⟩ O (M7 O (B2 O (tW (V6 1 3 5 33 34 35) (QB 5 14 1) 65 O ?_))))));refine c6 5 (y4 39 40 41 42) (V8 1 3 5 33 34 35 39 42) ⟨zV O,xF O,xL O,R2 O,Zt⟩ O (⟨O,_,R.callB [(0,14)] hC (GC (((([]++M8 t.ver.toUInt64 4)++[0,1])++JT t)++UL t.ins i) t.ins[i]!.wit.length (by first|omega|(simp only[q9,K3,j3,j5];omega)|simp)) (EvB.cons (gV 39 O) O O O (EvB.cons (gV 42 O) O O O EvB.nil)) O ⟨O,Zt⟩ ⟨O,Zt⟩ O O O O O O nU,tW (V6 1 3 5 33 34 35) (QB 5 14 1) 65 O ?_⟩);refine u7 4 (y4 44 45 46 47) (V8 1 3 33 34 35 45 46 47) ⟨xF O,xL O,R2 O,UG (kI 0 O) O,Zt⟩ ?_;refine W.block ?_;refine P6 (t.ins[i]!.wit.length) (λj=>⟨65,[(1,.ptr 1 0 []),(3,.ptr 14 0 []),(33,.sl none 36 (t.ins.map XE)),(34,.int ((t.ins.length:Nat):Int)),(35,.int ((i:Nat):Int)),(45,.sl none 1 (t.ins[i]!.wit.map I5)),(46,.int ((t.ins[i]!.wit.length:Nat):Int)),(47,.int ((j:Nat):Int))],[(5,.var (XE t.ins[i]!)),(14,.var (.agg [.sl (some 5) 1 ((((((([]++M8 t.ver.toUInt64 4)++[0,1])++JT t)++UL t.ins i)++H7 t.ins[i]!.wit.length)++NQ t.ins[i]!.wit j).map D.u8)])),(1,.var (.agg [.u32 t.ver,.sl none 36 (t.ins.map XE),.sl none 2 (t.outs.map i7),.u32 t.lock]))]⟩) (by simp only[NQ,m6];rfl) λj hj=>?_;have hjb:=(hx (by omega)).2 j hj;have hil:=ZL t.ins[i]!.wit[j]!;have hwi:j<t.ins[i]!.wit.length->t.ins[i]!.wit[j]!.length<=1000000:=λh=>hwf.witi _ (P3 (show i<t.ins.length by omega)) _ (P3 h);refine u7 1 (y1 48) (V9 1 3 33 34 35 45 46 47 48) ⟨zS O,Zt⟩ ?_;refine W.seq ?_;refine c4 O (λhc48=>?_) (λhc48=>?_)
   ·refine W.skip (W.seq (W.block (u7 3 (y3 49 50 7) (V9 1 3 7 33 34 35 45 46 47) ⟨zI j O,zL O (n8 (l:=t.ins[i]!.wit) bU),zA O,Zt⟩ ?_)));refine O3 3 (y2 51 52) (IZ 1 3 33 34 35 45 46 47 51 52) ⟨zV O,zV O,Zt⟩ O (⟨O,_,R.callB [(0,14)] hC (MW (((((([]++M8 t.ver.toUInt64 4)++[0,1])++JT t)++UL t.ins i)++H7 t.ins[i]!.wit.length)++NQ t.ins[i]!.wit j) t.ins[i]!.wit[j]! (by first|omega|(simp only[q9,K3,j3,j5];omega)|simp) bO) (EvB.cons (gV 51 O) O O O (EvB.cons (gV 52 O) O O O EvB.nil)) O ⟨O,Zt⟩ ⟨O,Zt⟩ O O O O O O nU,tW (V8 1 3 33 34 35 45 46 47) (QB 5 14 1) 65 O ?_⟩);refine m7 2 (y2 54 47) (V8 1 3 33 34 35 45 46 47) ⟨N2 1 O,zV O,Zt⟩ ?_;exact⟨bU,(by simp only[NQ,u5];rfl)⟩
   ·obtain rfl:j=t.ins[i]!.wit.length:=by omega
    refine W.exit ?_;refine W.dropB [1,14] (bx':=(M4 14 1)) O O O (n7 hD O) ?_;refine m7 2 (y2 55 35) (V5 1 3 33 34 35) ⟨N2 1 O,zV O,Zt⟩ ?_;exact⟨bU,(by simp only[UL,u5])⟩
  ·obtain rfl:i=t.ins.length:=by omega
   refine W.exit (c6 5 (y4 56 57 58 59) (V3 3 56 59) ⟨zV O,xF O,xL O,zW O,Zt⟩ O (⟨O,_,R.callB [(0,14)] hC (P7 (((([]++M8 t.ver.toUInt64 4)++[0,1])++JT t)++UL t.ins t.ins.length) t.lock.toUInt64 4 dU (by first|omega|(simp only[q9,K3,j3,j5];omega)|simp)) (EvB.cons (gV 56 O) O O O (EvB.cons (gV 59 O) O O O (EvB.cons (kI 4 O) O O O EvB.nil))) O ⟨O,Zt⟩ ⟨O,Zt⟩ O O O O O O nU,tW (V1 3) (M4 14 1) 65 O ?_⟩));refine c6 5 (y4 61 62 63 64) (V1 64) ⟨zV O,HL O,xF O,λ_ B H K=>R.ldO (K 63 _ O) (B 14 _ O) O H,Zt⟩ O (⟨O,_,RO (gU 64 O) (xU 14 O) O O O O (gU 64 O) nU dU,tW (V1 2) (M4 14 1) 65 O ?_⟩);exact W.ret (En O (by rw[z34,u4 (by simpa using hc10)];rfl))
theorem q78(t:TxS)(hwf:t.wf):Fn Tryz.prog gl 50 [QS t] (j4 (JA t)):=by
 refine Fo 6 Tryz.func50 O λC hC hD=>?_;refine c6 2 [] (V1 0) Zt O (⟨O,_,R.box (gV 0 O) O O nU,(M7 O (tW (V2 1 2) (M4 2 1) 6 O ?_))⟩);refine c6 4 (y3 3 4 5) (V2 2 5) ⟨xL O,zC hC (z05 t hwf) O (F1 (.sl _ _ _ (K7 λ_=>.u8 _))),λ_ _ H K=>o9 hC (NZ (YZ t) (u9 hwf.bareL dU)) (Bc (Bor.sc (SC.sl (K 4 _ O)) (X5 (λ_=>rfl))) Bn) (F1 (D4 _)) H,Zt⟩ O (B2 O (tW (V1 2) (M4 2 1) 6 O ?_));exact W.ret (Eo O (iL 23 32))
end
section
open Go.Proofs
set_option maxRecDepth 100000
instance:MiT Tryz.prog 32 (.int .i64):=⟨Tryz.underlying32,rfl⟩
end
section
open Go.Proofs
end
section
open Go.Proofs
end
section
open Go.Proofs
end
section
open Go.Proofs
end
section
open Go.Proofs
end
section
open Go.Proofs
end
section
open Go.Proofs
section
variable{b r r2:List UInt8}{bad e e2:Bool}{x y:UInt64}
end
end
section
open Go.Proofs
end
section
open Go.Proofs
end
section
open Go.Proofs
end
section
open Go.Proofs
theorem FS(l:List UInt8):(I5 l).brw=I5 l:=by simp only[I5,D.brw,G4];rw[X5 (λ_=>rfl)]
end
def j97:PlS:=⟨1,[],0⟩
def q45:Hs:=[231,155,213,129,128,172,12,181,29,207,96,119,66,81,24,204,218,33,184,163,212,8,183,133,94,163,218,41,212,96,191,191]
def j98:List UInt8:=[0,20,138,240,216,11,215,197,179,88,156,148,224,101,219,16,246,18,123,165,146,36]
def v11:List UInt8:=[0,20,143,101,146,43,117,200,233,178,99,29,243,16,83,232,38,87,125,237,15,141]
def j96:Hs:=[88,128,126,102,154,37,48,62,205,63,43,185,6,163,233,243,86,103,198,107,96,78,127,163,32,14,156,156,58,151,93,141]
def v10:TxS:=⟨1,[⟨zero32,4294967295,[1,0,0],0,[]⟩],[⟨5000,j98⟩],0⟩
def v09:TxS:=⟨1,[⟨zero32,4294967295,[2,0,1],0,[]⟩],[⟨5000,v11⟩],1⟩
def i5:BlkS:=⟨ZM,[]⟩
def wkB1:BlkS:=⟨⟨1,[61,203,117,189,137,197,20,104,21,221,192,209,215,49,76,183,70,25,253,247,43,253,106,115,55,132,161,91,255,182,29,187],q45,1001,545259519,0⟩,[v10]⟩
theorem u44:HD 1=j98:=by kernel_rfl
theorem u43:IN j98=j96:=by kernel_rfl
theorem u46:KR [i5] j97 0=(wkB1,true):=by kernel_rfl

def u86(p:PvS):Prop:=p.t.ins.length<=8/\p.t.outs.length<=8/\∀ j<p.t.outs.length,p.t.outs[j]!.script.length<=200
instance(p:PvS):Decidable (u86 p):=by unfold u86;infer_instance
def k17(s:SpS):D:=.agg [.u8 s.from_,.bool s.two,.sl (some 5) 1 (s.to.map .u8),.u8 s.part,.u8 s.extra]
def TQ(x:PlS):D:=.agg [.u8 x.pays,.sl (some 117) 5 (x.spends.map k17),.u8 x.step]
theorem z74(s:SpS):(k17 s).brw=j85 s:=by
 simp only[k17,j85,D.brw,G4,b9,K0];rw[X5 (λ_=>rfl)]
theorem z76(x:PlS):(TQ x).brw=WX x:=by
 simp only[TQ,WX,D.brw,G4,b9,K0];rw[JR z74]
theorem z75(l:List PlS):(D.sl (some 70) 3 (l.map TQ)).brw=.sl none 3 (l.map WX):=by
 simp only[D.brw,G4];rw[JR z76]
end Go.Sx
