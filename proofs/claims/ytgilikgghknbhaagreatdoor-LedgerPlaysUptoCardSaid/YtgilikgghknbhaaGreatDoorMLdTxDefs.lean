/- Own texts. -/
import Derived.Test.YtgilikgghknbhaaGreatDoorMSxAl
import Derived.Test.YtgilikgghknbhaaGreatDoorMSxDrawE
import Derived.Test.YtgilikgghknbhaaGreatDoorMSxVal4
set_option linter.unusedVariables false
set_option linter.unusedSimpArgs false
set_option linter.unnecessarySimpa false

namespace Go.Sx
structure InS where
 tx:Hs
 n:UInt32
 script:List UInt8
 seq:UInt32
 wit:List (List UInt8)
 deriving Inhabited
structure OutS where
 value:UInt64
 script:List UInt8
 deriving Inhabited
structure TxS where
 ver:UInt32
 ins:List InS
 outs:List OutS
 lock:UInt32
 deriving Inhabited
def YL(x:InS):D:=.agg [.agg [w7 x.tx,.u32 x.n],YW x.script,.u32 x.seq,.sl none 1 (x.wit.map YW)]
def r9(o:OutS):D:=.agg [.u64 o.value,YW o.script]
def r8(t:TxS):D:=.agg [.u32 t.ver,.sl none 36 (t.ins.map YL),.sl none 2 (t.outs.map r9),.u32 t.lock]
def x20(x:UInt64):Nat->UInt64
 | 0=>x
 | i+1=>R7 (x20 x i) 8
def N4(x:UInt64):Nat->List UInt8
 | 0=>[]
 | i+1=>N4 x i++[(x20 x i).toUInt8]
theorem K0(x:UInt64)(i:Nat):(N4 x i).length=i:=by induction i with
 | zero=>rfl
 | succ i ih=>simp[N4,ih]
def cU(n:Nat):UInt64:=UInt64.ofInt ((n:Nat):Int)
def D7(n:Nat):List UInt8:=
 if cU n<253 then N4 (cU n) 1 else if cU n<=65535 then N4 253 1++N4 (cU n) 2 else if cU n<=4294967295 then N4 254 1++N4 (cU n) 4 else N4 255 1++N4 (cU n) 8
theorem I7(n:Nat):(D7 n).length<=9:=by
 unfold D7;split
 ·simp[K0]
 ·split
  ·simp[K0]
  ·split<;>simp[K0]
def UR(b:List UInt8):List UInt8:=D7 b.length++b
theorem QP(b:List UInt8):(UR b).length<=9+b.length:=by
 have:=I7 b.length;simp[UR];omega
def inS(x:InS):List UInt8:=x.tx++N4 x.n.toUInt64 4++UR x.script++N4 x.seq.toUInt64 4
def FW(o:OutS):List UInt8:=N4 o.value 8++UR o.script
def KG(l:List InS):Nat->List UInt8
 | 0=>[]
 | i+1=>KG l i++inS l[i]!
def ZC(l:List OutS):Nat->List UInt8
 | 0=>[]
 | i+1=>ZC l i++FW l[i]!
def ZT(t:TxS):List UInt8:=D7 t.ins.length++KG t.ins t.ins.length++D7 t.outs.length++ZC t.outs t.outs.length
def HV(t:TxS):List UInt8:=N4 t.ver.toUInt64 4++ZT t++N4 t.lock.toUInt64 4
def UP(l:List (List UInt8)):Nat->List UInt8
 | 0=>[]
 | i+1=>UP l i++UR l[i]!
def ZO(l:List InS):Nat->List UInt8
 | 0=>[]
 | i+1=>ZO l i++D7 l[i]!.wit.length++UP l[i]!.wit l[i]!.wit.length
def FN(t:TxS):Bool:=t.ins.any λx=>decide (0<x.wit.length)
def NB(t:TxS):List UInt8:=if FN t then N4 t.ver.toUInt64 4++[0,1]++ZT t++ZO t.ins t.ins.length++N4 t.lock.toUInt64 4 else HV t
structure TxS.wf(t:TxS):Prop where
 ins:t.ins.length<=1000000
 outs:t.outs.length<=1000000
 hash:∀ x∈t.ins,x.tx.length=32
 scr:∀ x∈t.ins,x.script.length<=1000000
 oscr:∀ x∈t.outs,x.script.length<=1000000
 insb:∀ i ≤ t.ins.length,(KG t.ins i).length<=1500000
 outsb:∀ i ≤ t.outs.length,(ZC t.outs i).length<=1500000
 witsb:∀ i ≤ t.ins.length,(ZO t.ins i).length<=1500000
 witl:∀ x∈t.ins,x.wit.length<=1000000/\∀ i ≤ x.wit.length,(UP x.wit i).length<=1500000
 witi:∀ x∈t.ins,∀ b∈x.wit,b.length<=1000000
theorem X0{α:Type}[Inhabited α]{l:List α}{i:Nat}(h:i<l.length):l[i]!∈l:=by
 rw[b9 l i h];exact d7 h
theorem TxS.wf.insScript{t:TxS}(h:t.wf){i:Nat}(hi:i<t.ins.length):t.ins[i]!.script.length<=1000000:=h.scr _ (X0 hi)
theorem TxS.wf.outScript{t:TxS}(h:t.wf){i:Nat}(hi:i<t.outs.length):t.outs[i]!.script.length<=1000000:=h.oscr _ (X0 hi)
theorem TxS.wf.body{t:TxS}(h:t.wf):(ZT t).length<=3000018:=by
 have h1:=I7 t.ins.length;have h2:=I7 t.outs.length;have h3:=h.insb _ (z5 _);have h4:=h.outsb _ (z5 _);simp only[ZT,q9];omega
theorem TxS.wf.bareL{t:TxS}(h:t.wf):(HV t).length<=4000000:=by
 have h1:=h.body;simp only[HV,q9,K0];omega
theorem SP{t:TxS}{i:Nat}(hi:i<t.ins.length)(h:0<t.ins[i]!.wit.length):FN t=true:=by
 unfold FN;rw[c6];exact⟨_,X0 hi,by simpa using h⟩
theorem FM{t:TxS}(h:∀ k<t.ins.length,¬ 0<t.ins[k]!.wit.length):FN t=false:=by
 unfold FN;rw[r6];intro x hx;obtain⟨k,hk,rfl⟩:=c9.1 hx;have:=h k hk;rw[b9 t.ins k hk] at this;simpa using this
def XR(t:TxS):Hs:=DB (HV t)
def n2(x:UInt64):Nat:=if x=253 then 2 else if x=254 then 4 else 8
theorem TZ{n:Nat}(hn:n<18446744073709551616):(UInt64.ofInt ((n:Nat):Int)).toNat=n:=by
 have:UInt64.ofInt ((n:Nat):Int)=UInt64.ofNat n:=by
  unfold UInt64.ofInt
  congr 1
  omega
 rw[this];simp[UInt64.toNat_ofNat];omega
section
variable{b r r0 r1 r2 r3 r4 r5 x s u:List UInt8}{p q:UInt64}{i j n m:Nat}{l:List InS}{o:List OutS}
end
theorem y29(x:UInt64)(i:Nat)(hi:i<8):R7 x ((((cU (8*i)).toNat:Nat):Int)).toNat=x20 x i:=by
 have h1:(cU (8*i)).toNat=8*i:=TZ (by omega);rw[h1];show R7 x (8*i)=x20 x i
 induction i with
 | zero=>simp[x20,R7]
 | succ i ih=>
  rw[x20,<- ih (by omega) (TZ (by omega))];apply M6.1;rw[JW,JW,JW,Nat.div_div_eq_div_mul,<- Nat.pow_add]
  congr 2
  omega
theorem z80{x:UInt64}(h:x<65536):x<=65535:=by
 rw[X5] at h;rw[D2];have e1:(65536:UInt64).toNat=65536:=rfl;have e2:(65535:UInt64).toNat=65535:=rfl;omega
theorem IN{x:UInt64}(h:x<=65535):x<65536:=by
 rw[D2] at h;rw[X5];have e1:(65536:UInt64).toNat=65536:=rfl;have e2:(65535:UInt64).toNat=65535:=rfl;omega
theorem z79{x:UInt64}(h:x<4294967296):x<=4294967295:=by
 rw[X5] at h;rw[D2];have e1:(4294967296:UInt64).toNat=4294967296:=rfl;have e2:(4294967295:UInt64).toNat=4294967295:=rfl;omega
theorem z77{x:UInt64}(h:x<=4294967295):x<4294967296:=by
 rw[D2] at h;rw[X5];have e1:(4294967296:UInt64).toNat=4294967296:=rfl;have e2:(4294967295:UInt64).toNat=4294967295:=rfl;omega
section
open Go.Proofs
theorem XQ(x:UInt64)(n:Nat)(hn:n<=8):Fn Tryz.prog gl 88 [.u64 x,.int ((n:Nat):Int)] (.sl (some 5) 1 ((N4 x n).map D.u8)):=by
 refine Fo 22 Tryz.func88 O λC hC hD=>?_;refine u4 1 (y1 4) (V2 0 1) ⟨i6 O,Zt⟩ ?_;refine u4 1 (y1 5) (V3 0 1 5) ⟨i6 O,Zt⟩ ?_;refine W.seq (u4 1 (y1 6) (V4 0 1 5 6) ⟨O3 0 O,Zt⟩ ?_);refine W.block ?_;refine O6 (s:=5) 5 1 O ?_;refine P2 n (λi=>⟨22,[(0,.u64 x),(1,.int ((n:Nat):Int)),(5,.sl (some 5) 1 ((N4 x i).map D.u8)),(6,.int ((i:Nat):Int))],[]⟩) O λi hi=>?_;have hll:=K0 x i;refine W.seq (u4 3 (y3 7 8 9) (V5 0 1 5 6 9) ⟨zV O,zV O,zS O,Zt⟩ ?_);refine g7 O (λhc9=>?_) (λhc9=>?_)
 ·refine W.skip (W.seq (W.block ?_));refine UZ 10 (VU 12 13 14 15 16 17 18 19 20 5) [(8,5),(9,20),(9,12)] [(8,5),(9,20)] (V4 0 1 5 6) ⟨aU<|zM O,xM O,xM O,aU<|HW 8 O,aU λ_ _ H K=>W5 (d:=.u64 (cU (8*i))) (eU K 15 O) O (O) H,aU λ_ _ H K=>O1 (d:=.u64 (x20 x i)) (eU K 13 O) (eU K 16 O) O bV (g6 D.u64 (y29 x i bO)) H,aU<|zW O,aU λ_ _ H K=>J3 (z:=1) (.cons (eU K 18 O) .nil) ⟨⟨O,O,O⟩,Zt⟩ O H dU,aU<|YC O (G5 O) (show _=((N4 x (i+1)).map D.u8) from(by simp[N4])) bU,aU<|zO O,Zt⟩ O (tU O ?_);refine n4 3 (y3 10 11 6) (V4 0 1 5 6) ⟨zV O,P1 1 O,zA O,Zt⟩ ?_;exact⟨bU,rfl⟩
 ·obtain rfl:i=n:=by omega
  refine W.exit (P4 2 (y2 21 4) [(0,5),(1,21)] [(0,5),(1,21)] (V1 4) ⟨aU λ_ _ H K=>ZX (K 5 _ O) O H dU,aU<|zO O,Zt⟩ O (tU O ?_));exact W.ret (Eo O)
theorem AL(n:Nat):Fn Tryz.prog gl 90 [.int ((n:Nat):Int)] (.sl (some 5) 1 ((D7 n).map D.u8)):=by
 refine Fo 27 Tryz.func90 O λC hC hD=>?_;refine u4 1 (y1 2) (V1 0) ⟨i6 O,Zt⟩ ?_;refine u4 3 (y3 4 5 3) (V1 3) ⟨zV O,λ_ _ H K=>W5 (d:=.u64 (cU n)) (eU K 4 O) O (O) H,zA O,Zt⟩ ?_;refine W.seq (u4 2 (y2 6 7) (V2 3 7) ⟨zV O,ZP O (kW (.int .u64 253) (.u64 253) O),Zt⟩ ?_);refine W.cond O (λhc7=>?_) (λhc7=>?_)
 ·refine P4 4 (y4 8 9 10 2) [(3,10)] [(3,10)] (V1 2) ⟨xM O,aU<|zW O,aU λ_ _ H K=>J3 (z:=1) (.cons (eU K 9 O) .nil) ⟨⟨O,O,O⟩,Zt⟩ O H dU,aU<|zO O,Zt⟩ O (tU O ?_);exact W.ret (En O (by rw[D7,j7 (v7 hc7)];rfl))
 ·refine W.skip (W.seq (u4 2 (y2 11 12) (V2 3 12) ⟨zV O,ZP O (kW (.int .u64 65536) (.u64 65536) O),Zt⟩ ?_));refine W.cond O (λhc12=>?_) (λhc12=>?_)
  ·refine P4 5 (y5 13 14 15 16 2) [(3,13),(4,16)] [(3,13),(4,16)] (V1 2) ⟨aU λ_ _ H _=>J3 (z:=1) (.cons (kW (.int .u8 253) (.u8 253) O) .nil) ⟨⟨O,O,O⟩,Zt⟩ O H dU,xM O,aU<|CM hC (XQ (cU n) 2 dU) O (kI 2 O) (F1 (.sl _ _ _ (J5 λ_=>.u8 _))),aU λ_ _ H K=>R0 (Or.inl O) (K 13 _ O) (SrcO.sc (SC.sl (K 15 _ O)) (P3 (λ_=>rfl))) (show _=((N4 253 1++N4 (cU n) 2).map D.u8) from(by simp[N4,x20])) (by simp[K0]) H dU dU,aU<|zO O,Zt⟩ O (tU O ?_);exact W.ret (En O (by rw[D7,z8 (d6 hc7),j7 (z80 (v7 hc12))]))
  ·refine W.skip (W.seq (u4 2 (y2 17 18) (V2 3 18) ⟨zV O,ZP O (kW (.int .u64 4294967296) (.u64 4294967296) O),Zt⟩ ?_));refine W.cond O (λhc18=>?_) (λhc18=>?_)
   ·refine P4 5 (y5 19 20 21 22 2) [(3,19),(4,22)] [(3,19),(4,22)] (V1 2) ⟨aU λ_ _ H _=>J3 (z:=1) (.cons (kW (.int .u8 254) (.u8 254) O) .nil) ⟨⟨O,O,O⟩,Zt⟩ O H dU,xM O,aU<|CM hC (XQ (cU n) 4 dU) O (kI 4 O) (F1 (.sl _ _ _ (J5 λ_=>.u8 _))),aU λ_ _ H K=>R0 (Or.inl O) (K 19 _ O) (SrcO.sc (SC.sl (K 21 _ O)) (P3 (λ_=>rfl))) (show _=((N4 254 1++N4 (cU n) 4).map D.u8) from(by simp[N4,x20])) (by simp[K0]) H dU dU,aU<|zO O,Zt⟩ O (tU O ?_);exact W.ret (En O (by rw[D7,z8 (d6 hc7),z8 (λh=>d6 hc12 (IN h)),j7 (z79 (v7 hc18))]))
   ·refine W.skip (P4 5 (y5 23 24 25 26 2) [(3,23),(4,26)] [(3,23),(4,26)] (V1 2) ⟨aU λ_ _ H _=>J3 (z:=1) (.cons (kW (.int .u8 255) (.u8 255) O) .nil) ⟨⟨O,O,O⟩,Zt⟩ O H dU,xM O,aU<|CM hC (XQ (cU n) 8 dU) O (kI 8 O) (F1 (.sl _ _ _ (J5 λ_=>.u8 _))),aU λ_ _ H K=>R0 (Or.inl O) (K 23 _ O) (SrcO.sc (SC.sl (K 25 _ O)) (P3 (λ_=>rfl))) (show _=((N4 255 1++N4 (cU n) 8).map D.u8) from(by simp[N4,x20])) (by simp[K0]) H dU dU,aU<|zO O,Zt⟩ O (tU O ?_));exact W.ret (En O (by rw[D7,z8 (d6 hc7),z8 (λh=>d6 hc12 (IN h)),z8 (λh=>d6 hc18 (z77 h))]))
theorem WQ(x:List UInt8)(hx:x.length<=1000000):Fn Tryz.prog gl 91 [.sl none 1 (x.map D.u8)] (.sl (some 5) 1 ((UR x).map D.u8)):=by
 refine Fo 8 Tryz.func91 O λC hC hD=>?_;have hcl:=I7 x.length;refine u4 1 (y1 2) (V1 0) ⟨i6 O,Zt⟩ ?_;refine P4 6 (y6 3 4 5 6 7 2) [(4,5),(5,7)] [(4,5),(5,7)] (V1 2) ⟨xM O,aU<|P8 O,aU<|zC hC (AL x.length) O (F1 (.sl _ _ _ (J5 λ_=>.u8 _))),xM O,aU λ_ _ H K=>R0 (Or.inl O) (K 5 _ O) (SrcO.sc (SC.sl (K 6 _ O)) (P3 (λ_=>rfl))) (show _=((UR x).map D.u8) from(by simp[UR])) bU H dU dU,aU<|zO O,Zt⟩ O (tU O ?_);exact W.ret (Eo O)
theorem j07(x:InS)(hh:x.tx.length=32)(hx:x.script.length<=1000000):Fn Tryz.prog gl 138 [YL x] (.sl (some 5) 1 ((inS x).map D.u8)):=by
 refine Fo 27 Tryz.func138 O λC hC hD=>?_;have hil:=QP x.script;refine n5 2 [] (V1 0) Zt O (⟨O,_,R.box (gV 0 O) O O nU,⟨O,_,J9 (kN O) O nU,tW (V1 1) (B2 1) 27 O ?_⟩⟩);refine P4 6 (y6 4 5 6 7 8 3) [(4,4),(5,8)] [(4,4),(5,8)] (V2 1 3) ⟨aU λ_ _ H _=>J3 .nil Zt O H dU,aU (xF O),aU (xF O),aU λ_ B H K=>QO (0) (32) (32) (K 6 _ O) (B 1 _ O) O O O O O bU bU O H,aU λ_ B H K=>R0 (Or.inl O) (K 4 _ O) (SrcO.sc (SC.va (K 7 _ O) (B 1 _ O) O bU) (QT (λ_=>rfl))) (show _=(x.tx.map D.u8) from(by rw[J0,Q0 (by rw[z6,hh];exact z5 _)];simp)) bU H dU dU,aU<|zO O,Zt⟩ O (tU O ?_);refine P4 8 (y8 9 10 11 12 13 14 15 3) [(6,3),(7,15),(7,9)] [(6,3),(7,15)] (V2 1 3) ⟨aU<|zM O,aU (xF O),aU (xF O),aU (xL O),aU<|zW O,aU<|CM hC (XQ x.n.toUInt64 4 dU) O (kI 4 O) (F1 (.sl _ _ _ (J5 λ_=>.u8 _))),aU<|YC O (P3 (λ_=>rfl)) (show _=(((x.tx++N4 x.n.toUInt64 4)).map D.u8) from(by simp)) (by simp only[z6,q9,K0,j2,j3];omega),aU<|zO O,Zt⟩ O (tU O ?_);refine P4 6 (y6 16 17 18 19 20 3) [(4,3),(5,20),(5,16)] [(4,3),(5,20)] (V2 1 3) ⟨aU<|zM O,aU (xF O),aU (xL O),aU<|zC hC (WQ x.script (hx)) O (F1 (.sl _ _ _ (J5 λ_=>.u8 _))),aU<|YC O (P3 (λ_=>rfl)) (show _=((((x.tx++N4 x.n.toUInt64 4)++UR x.script)).map D.u8) from(by simp)) (by simp only[z6,q9,K0,j2,j3];omega),aU<|zO O,Zt⟩ O (tU O ?_);refine P4 7 (y7 21 22 23 24 25 26 2) [(5,3),(6,26)] [(5,3),(6,26)] (V1 2) ⟨aU<|zM O,aU (xF O),aU (xL O),aU<|zW O,aU<|CM hC (XQ x.seq.toUInt64 4 dU) O (kI 4 O) (F1 (.sl _ _ _ (J5 λ_=>.u8 _))),aU<|YC O (P3 (λ_=>rfl)) (show _=((((x.tx++N4 x.n.toUInt64 4)++UR x.script)++N4 x.seq.toUInt64 4).map D.u8) from(by simp)) (by simp only[z6,q9,K0,j2,j3];omega),aU<|zO O,Zt⟩ O (tU O ?_);exact W.ret (En O (by simp only[inS]))
theorem k38(t:TxS)(hwf:t.wf):Fn Tryz.prog gl 89 [r8 t] (.sl (some 5) 1 ((ZT t).map D.u8)):=by
 refine Fo 57 Tryz.func89 O λC hC hD=>?_;have hc1:=I7 t.ins.length;have hc2:=I7 t.outs.length;have h1:=hwf.ins;have h2:=hwf.outs;have h3:=hwf.insb _ (z5 _);have h4:=hwf.outsb _ (z5 _);refine n5 2 [] (V1 0) Zt O (⟨O,_,R.box (gV 0 O) O O nU,⟨O,_,J9 (kN O) O nU,tW (V1 1) (B2 1) 57 O ?_⟩⟩);refine P4 5 (y5 6 7 8 9 3) [(4,9)] [(4,9)] (V2 1 3) ⟨aU (xF O),aU (xL O),aU<|P8 O,aU<|zC hC (AL t.ins.length) O (F1 (.sl _ _ _ (J5 λ_=>.u8 _))),aU<|zO O,Zt⟩ O (tU O ?_);refine W.seq (u4 1 (y1 4) (V3 1 3 4) ⟨O3 0 O,Zt⟩ ?_);refine W.block ?_;refine P2 t.ins.length (λi=>⟨57,[(1,.ptr 1 0 []),(3,.sl (some 5) 1 ((D7 t.ins.length++KG t.ins i).map D.u8)),(4,.int ((i:Nat):Int))],[(1,.var (.agg [.u32 t.ver,.sl none 36 (t.ins.map YL),.sl none 2 (t.outs.map r9),.u32 t.lock]))]⟩) (by simp only[KG,m4];rfl) λi hi=>?_;have hib:=hwf.insb i hi;have hib1:i<t.ins.length->(KG t.ins (i+1)).length<=1500000:=λh=>hwf.insb (i+1) h
 have hx:i<t.ins.length->t.ins[i]!.tx.length=32/\t.ins[i]!.script.length<=1000000:=λh=>⟨hwf.hash _ (X0 h),hwf.insScript h⟩
 have hiS:(KG t.ins (i+1)).length=(KG t.ins i).length+(inS t.ins[i]!).length:=by simp[KG]
 refine W.seq (u4 5 (y5 10 11 12 13 14) (V4 1 3 4 14) ⟨zV O,xF O,xL O,P8 O,zS O,Zt⟩ ?_);refine g7 O (λhc14=>?_) (λhc14=>?_)
 ·refine W.skip (W.seq (W.block ?_));refine UZ 9 (y9 17 18 19 20 21 22 23 24 3) [(7,3),(8,24),(8,17)] [(7,3),(8,24)] (V3 1 3 4) ⟨aU<|zM O,aU (xF O),aU (xL O),xM O,aU<|zI i O,aU<|zL O (mG t.ins),aU<|zC hC (j07 t.ins[i]! ((hx bO).1) ((hx bO).2)) O (F1 (.sl _ _ _ (J5 λ_=>.u8 _))),aU<|YC O (P3 (λ_=>rfl)) (show _=((D7 t.ins.length++KG t.ins (i+1)).map D.u8) from(by simp[KG,ZC,FW,w3])) (by simp only[z6,q9,K0,j2,j3];omega),aU<|zO O,Zt⟩ O (tU O ?_);refine n4 3 (y3 15 16 4) (V3 1 3 4) ⟨zV O,P1 1 O,zA O,Zt⟩ ?_;exact⟨bU,rfl⟩
 ·obtain rfl:i=t.ins.length:=by omega
  refine W.exit (P4 7 (y7 25 26 27 28 29 30 3) [(5,3),(6,30),(6,25)] [(5,3),(6,30)] (V2 1 3) ⟨aU<|zM O,aU (xF O),aU (xL O),aU<|P8 O,aU<|zC hC (AL t.outs.length) O (F1 (.sl _ _ _ (J5 λ_=>.u8 _))),aU<|YC O (P3 (λ_=>rfl)) (show _=(((D7 t.ins.length++KG t.ins t.ins.length)++D7 t.outs.length).map D.u8) from(by simp)) (by simp only[z6,q9,K0,j2,j3];omega),aU<|zO O,Zt⟩ O (tU O ?_));refine W.seq (u4 1 (y1 5) (V3 1 3 5) ⟨O3 0 O,Zt⟩ ?_);refine W.block ?_;refine P2 t.outs.length (λi=>⟨57,[(1,.ptr 1 0 []),(3,.sl (some 5) 1 (((D7 t.ins.length++KG t.ins t.ins.length)++D7 t.outs.length++ZC t.outs i).map D.u8)),(5,.int ((i:Nat):Int))],[(1,.var (.agg [.u32 t.ver,.sl none 36 (t.ins.map YL),.sl none 2 (t.outs.map r9),.u32 t.lock]))]⟩) (by simp only[ZC,m4]) λi hi=>?_;have hib:=hwf.outsb i hi;have hib1:i<t.outs.length->(ZC t.outs (i+1)).length<=1500000:=λh=>hwf.outsb (i+1) h;have hx:i<t.outs.length->t.outs[i]!.script.length<=1000000:=λh=>hwf.outScript h
  have hiS:(ZC t.outs (i+1)).length=(ZC t.outs i).length+(8+(UR t.outs[i]!.script).length):=by simp[ZC,FW,K0]
  refine W.seq (u4 5 (y5 31 32 33 34 35) (V4 1 3 5 35) ⟨zV O,xF O,xL O,P8 O,zS O,Zt⟩ ?_);refine g7 O (λhc35=>?_) (λhc35=>?_)
  ·refine W.skip (W.seq (W.block (P4 10 (VU 38 39 40 41 42 43 44 45 46 3) [(8,3),(9,46),(9,38)] [(8,3),(9,46)] (V3 1 3 5) ⟨aU<|zM O,aU (xF O),aU (xL O),xM O,aU<|zI i O,aU<|r7 O,aU<|zL O (mG t.outs),aU<|CM hC (XQ t.outs[i]!.value 8 dU) O (kI 8 O) (F1 (.sl _ _ _ (J5 λ_=>.u8 _))),aU<|YC O (P3 (λ_=>rfl)) (show _=((((D7 t.ins.length++KG t.ins t.ins.length)++D7 t.outs.length++ZC t.outs i)++N4 t.outs[i]!.value 8).map D.u8) from(by simp)) (by simp only[z6,q9,K0,j2,j3];omega),aU<|zO O,Zt⟩ O (tU O ?_))));refine UZ 10 (VU 47 48 49 50 51 52 53 54 55 3) [(8,3),(9,55),(9,47)] [(8,3),(9,55)] (V3 1 3 5) ⟨aU<|zM O,aU (xF O),aU (xL O),xM O,aU<|zI i O,aU<|r7 O,aU<|zL O (mG t.outs),aU<|zC hC (WQ t.outs[i]!.script (hx bO)) O (F1 (.sl _ _ _ (J5 λ_=>.u8 _))),aU<|YC O (P3 (λ_=>rfl)) (show _=(((D7 t.ins.length++KG t.ins t.ins.length)++D7 t.outs.length++ZC t.outs (i+1)).map D.u8) from(by simp[KG,ZC,FW,w3])) (by simp only[z6,q9,K0,j2,j3];omega),aU<|zO O,Zt⟩ O (tU O ?_);refine n4 3 (y3 36 37 5) (V3 1 3 5) ⟨zV O,P1 1 O,zA O,Zt⟩ ?_;exact⟨bU,rfl⟩
  ·obtain rfl:i=t.outs.length:=by omega
   refine W.exit (P4 2 (y2 56 2) [(0,3),(1,56)] [(0,3),(1,56)] (V1 2) ⟨aU λ_ _ H K=>ZX (K 3 _ O) O H dU,aU<|zO O,Zt⟩ O (tU O ?_));exact W.ret (En O (by simp only[ZT]))
theorem q75(t:TxS)(hwf:t.wf):Fn Tryz.prog gl 55 [r8 t] (.sl (some 5) 1 ((HV t).map D.u8)):=by
 refine Fo 17 Tryz.func55 O λC hC hD=>?_;have hbl:=hwf.body;refine n5 2 [] (V1 0) Zt O (⟨O,_,R.box (gV 0 O) O O nU,⟨O,_,J9 (kN O) O nU,tW (V1 1) (B2 1) 17 O ?_⟩⟩);refine W.seq ?_;refine KF 8 [0,1,3,7,0,31,63,127] hP dU (y8 4 5 6 7 8 9 10 3) [(6,7),(7,10)] [(6,7),(7,10)] (V2 1 3) ⟨aU (xF O),aU (xL O),aU<|zW O,aU<|CM hC (XQ t.ver.toUInt64 4 dU) O (kI 4 O) (F1 (.sl _ _ _ (J5 λ_=>.u8 _))),aU (xL O),aU<|zC hC (k38 t hwf) O (F1 (.sl _ _ _ (J5 λ_=>.u8 _))),aU λ_ _ H K=>R0 (Or.inl O) (K 7 _ O) (SrcO.sc (SC.sl (K 9 _ O)) (P3 (λ_=>rfl))) (show _=((N4 t.ver.toUInt64 4++ZT t).map D.u8) from(by simp)) (by simp only[z6,q9,K0,j2,j3];omega) H dU dU,aU<|zO O,Zt⟩ O (tW (V2 1 3) (B2 1) 17 O ?_);refine P4 7 (y7 11 12 13 14 15 16 2) [(5,3),(6,16)] [(5,3),(6,16)] (V1 2) ⟨aU<|zM O,aU (xF O),aU (xL O),aU<|zW O,aU<|CM hC (XQ t.lock.toUInt64 4 dU) O (kI 4 O) (F1 (.sl _ _ _ (J5 λ_=>.u8 _))),aU<|YC O (P3 (λ_=>rfl)) (show _=((HV t).map D.u8) from(by simp[HV])) (by simp only[z6,q9,K0,j2,j3];omega),aU<|zO O,Zt⟩ O (tU O ?_);exact W.ret (Eo O)
end
def JZ:HdS:=⟨1,zero32,zero32,1000,545259519,0⟩
def lim:UInt32:=545259519
def RE(x:Bg)(n m:UInt64)(most:Bg):Bg:=
 if VZ (QN x [m,0,0,0]) n≠0 then most
 else if j65 (KE (QN x [m,0,0,0]) n) (QN (KE (XV x [m,0,0,0]) n) [m,0,0,0])=true∨DW most (SK (KE (QN x [m,0,0,0]) n) (QN (KE (XV x [m,0,0,0]) n) [m,0,0,0]))=true then most
 else SK (KE (QN x [m,0,0,0]) n) (QN (KE (XV x [m,0,0,0]) n) [m,0,0,0])
def x02(l:List HdS):Int:=min (max (((l[l.length-1]!.time.toNat:Nat):Int)-((l[l.length-10]!.time.toNat:Nat):Int)) 25) 400
def IX(l:List HdS):Bg:=RE (RR l[l.length-1]!.bits) (UInt64.ofInt (x02 l)) 100 (RR lim)
def S5(l:List HdS):UInt32:=
 if l.length=0 then 0 else if l.length%10≠0 then l[l.length-1]!.bits else CJ (if IX l=Y6 then[1,0,0,0] else IX l)
theorem v47{l:List HdS}(h:l.length=0):S5 l=0:=by unfold S5;exact j7 h
theorem v46{l:List HdS}(h:¬ l.length=0)(h1:l.length%10≠0):S5 l=l[l.length-1]!.bits:=by
 unfold S5;rw[z8 h,j7 h1]
theorem v45{l:List HdS}(h:¬ l.length=0)(h1:¬ l.length%10≠0)(hz:IX l=Y6):S5 l=CJ [1,0,0,0]:=by
 unfold S5;rw[z8 h,z8 h1,j7 hz]
theorem v44{l:List HdS}(h:¬ l.length=0)(h1:¬ l.length%10≠0)(hz:¬ IX l=Y6):S5 l=CJ (IX l):=by
 unfold S5;rw[z8 h,z8 h1,z8 hz]
theorem x64{x most:Bg}{n m:UInt64}(h:most.length=4):(RE x n m most).length=4:=by
 unfold RE;split
 ·exact h
 ·split
  ·exact h
  ·exact z43 _ _
theorem x86(l:List HdS):(IX l).length=4:=by unfold IX;exact x64 (PS _)
def shf(x:UInt32):List UInt32->Nat->List UInt32
 | ts,0=>ts.set 0 x
 | ts,k+1=>if x<ts[k]! then shf x (ts.set (k+1) ts[k]!) k else ts.set (k+1) x
def j35(ts:List UInt32)(x:UInt32):List UInt32:=shf x (ts++[x]) ts.length
def IB(l:List HdS):Nat->List UInt32
 | 0=>[]
 | j+1=>j35 (IB l j) l[l.length-11+j]!.time
def z76(l:List HdS):UInt32:=if l.length=0 then 0 else(IB l (min l.length 11))[min l.length 11/2]!
theorem u79(x:UInt32)(k:Nat):∀ ts:List UInt32,(shf x ts k).length=ts.length:=by
 induction k with
 | zero=>intro ts;simp[shf]
 | succ k ih=>intro ts;simp only[shf];split<;>simp[ih]
theorem w23(ts:List UInt32)(x:UInt32):(j35 ts x).length=ts.length+1:=by simp[j35,u79]
theorem w01(l:List HdS)(j:Nat):(IB l j).length=j:=by
 induction j with
 | zero=>rfl
 | succ j ih=>simp only[IB,w23,ih]
theorem g37{x:UInt32}{ts:List UInt32}{k:Nat}(h0:0<k)(h:x<ts[k-1]!):shf x ts k=shf x (ts.set k ts[k-1]!) (k-1):=by
 obtain⟨j,rfl⟩:∃ j,k=j+1:=⟨k-1,by omega⟩
 rw[shf];exact j7 h
theorem k29{x:UInt32}{ts:List UInt32}{k:Nat}(h:0<k->¬ x<ts[k-1]!):shf x ts k=ts.set k x:=by
 cases k with
 | zero=>rw[shf]
 | succ j=>
  rw[shf];exact z8 (h (by omega))
def BX(h:HdS)(t:Bg):Nat->HdS×Bool
 | 0=>(h,false)
 | k+1=>if PT (ZB { h with nonce:=UInt32.ofNat (199-k) }) t=true then({ h with nonce:=UInt32.ofNat (199-k) },true) else BX { h with nonce:=UInt32.ofNat (199-k) } t k
def MX(l:List HdS)(time:UInt32)(root:Hs):HdS:=⟨1,ZB l[l.length-1]!,root,time,S5 l,0⟩
def HL(l:List HdS)(time:UInt32)(root:Hs):HdS×Bool:=
 match PK (S5 l) with
 | none=>(MX l time root,false)
 | some t=>BX (MX l time root) t 200
theorem OQ(h:HdS):(ZB h).length=32:=by unfold ZB;exact BD _
theorem g14{v t b n:UInt32}{p r:Hs}(hp:p.length=32)(hr:r.length=32):HdS.wf ⟨v,p,r,t,b,n⟩:=⟨hp,hr⟩
theorem x99(t:Bg)(k:Nat):∀ h:HdS,h.wf->(BX h t k).1.wf:=by
 induction k with
 | zero=>intro h hw;exact hw
 | succ k ih=>
  intro h hw;rw[BX];split
  ·exact g14 hw.1 hw.2
  ·exact ih _ (g14 hw.1 hw.2)
theorem LQ(l:List HdS)(time:UInt32)(root:Hs)(hr:root.length=32):(MX l time root).wf:=by
 unfold MX;exact g14 (OQ _) hr
theorem IH{l:List HdS}{time:UInt32}{root:Hs}(h:PK (S5 l)=none):HL l time root=(MX l time root,false):=by
 unfold HL;rw[h]
theorem IG{l:List HdS}{time:UInt32}{root:Hs}{t:Bg}(h:PK (S5 l)=some t):HL l time root=BX (MX l time root) t 200:=by
 unfold HL;rw[h]
theorem x98(l:List HdS)(time:UInt32)(root:Hs)(hr:root.length=32):(HL l time root).1.wf:=by
 cases h:PK (S5 l) with
 | none=>rw[IH h];exact LQ l time root hr
 | some t=>rw[IG h];exact x99 t _ _ (LQ l time root hr)
abbrev Plc:=Hs×UInt32
def j1(p:Plc):D:=.agg [w7 p.1,.u32 p.2]
def plc(x:InS):Plc:=(x.tx,x.n)
def N8(t:TxS):Bool:=decide (t.ins.length=1)&&(plc t.ins[0]! == (List.replicate 32 0,4294967295))
@[irreducible] def ZM (t:TxS):Hs:=DP (HV t)
theorem CE(t:TxS):ZM t=XR t:=by unfold ZM XR;exact(VA _).symm
theorem q73(t:TxS):(ZM t).length=32:=by unfold ZM;exact BD _
structure BlkS where
 hd:HdS
 txs:List TxS
 deriving Inhabited
def J7(b:BlkS):D:=.agg [M5 b.hd,.sl none 4 (b.txs.map r8)]
structure StS where
 h:Nat
 at_:Nat
 id:Hs
 t:TxS
 deriving Inhabited
def ZY(s:StS):D:=.agg [f8 s.h,f8 s.at_,w7 s.id,r8 s.t]
structure BlkS.wf(b:BlkS):Prop where
 hd:b.hd.wf
 txs:∀ t∈b.txs,t.wf
 sm:∀ t∈b.txs,t.ins.length<=1000/\t.outs.length<=1000
 len:b.txs.length<=1000
def allBl(l:List BlkS):Prop:=l.length<=100/\∀ b∈l,b.wf
theorem allBl.get{l:List BlkS}(h:allBl l){i:Nat}(hi:i<l.length):l[i]!.wf:=by rw[b9 l i hi];exact h.2 _ (d7 hi)
theorem BlkS.wf.small{b:BlkS}(h:b.wf){i:Nat}(hi:i<b.txs.length):b.txs[i]!.ins.length<=1000/\b.txs[i]!.outs.length<=1000:=by rw[b9 b.txs i hi];exact h.sm _ (d7 hi)
theorem BlkS.wf.get{b:BlkS}(h:b.wf){i:Nat}(hi:i<b.txs.length):b.txs[i]!.wf:=by rw[b9 b.txs i hi];exact h.txs _ (d7 hi)
def S1(b:BlkS)(h:Nat):Nat->List StS
 | 0=>[]
 | i+1=>S1 b h i++[⟨h,i,ZM b.txs[i]!,b.txs[i]!⟩]
def O9(l:List BlkS):Nat->List StS
 | 0=>[]
 | h+1=>O9 l h++S1 l[h]! h l[h]!.txs.length
def K6(l:List BlkS):List StS:=O9 l l.length
theorem j69(l:List BlkS)(h:Nat):O9 l (h+1)=O9 l h++S1 l[h]! h l[h]!.txs.length:=by rw[O9]
theorem v52(p:List StS)(b:BlkS)(h i:Nat):(p++S1 b h i).map ZY++[.agg [f8 h,f8 i,w7 (ZM b.txs[i]!),r8 b.txs[i]!]]=(p++S1 b h (i+1)).map ZY:=by
 rw[S1,<- w3,d8 (l₁:=p++S1 b h i)];rfl
theorem W4(b:BlkS)(h i:Nat):(S1 b h i).length=i:=by
 induction i with
 | zero=>rfl
 | succ i ih=>simp[S1,ih]
theorem z46{l:List BlkS}(hl:allBl l)(h:Nat)(hh:h<=l.length):(O9 l h).length<=1000*h:=by
 induction h with
 | zero=>exact z5 _
 | succ h ih=>
  have:=(hl.get (show h<l.length by omega)).len;have:=ih (by omega);simp only[O9,q9,W4];omega
theorem u19{l:List BlkS}(hl:allBl l):(K6 l).length<=100000:=by
 have:=z46 hl l.length (z5 _);have:=hl.1;unfold K6;omega
def StS.wf(s:StS):Prop:=s.id.length=32/\s.t.wf/\s.t.ins.length<=1000/\s.t.outs.length<=1000
theorem h35{h a:Nat}{id:Hs}{t:TxS}(hi:id.length=32)(ht:t.wf)(hs:t.ins.length<=1000/\t.outs.length<=1000):StS.wf ⟨h,a,id,t⟩:=⟨hi,ht,hs⟩
def allSt(l:List StS):Prop:=l.length<=100000/\∀ s∈l,s.wf
theorem allSt.get{l:List StS}(h:allSt l){i:Nat}(hi:i<l.length):l[i]!.wf:=by rw[b9 l i hi];exact h.2 _ (d7 hi)
theorem v53{b:BlkS}(hb:b.wf)(h:Nat){i:Nat}(hi:i<=b.txs.length):∀ s∈S1 b h i,s.wf:=by
 induction i with
 | zero=>intro s hs;cases hs
 | succ i ih=>
  intro s hs
  rcases p9.1 hs with h1|h1
  ·exact ih (by omega) s h1
  ·rw[g8.1 h1];exact h35 (q73 _) (hb.get (by omega)) (hb.small (by omega))
theorem v54{l:List BlkS}(hl:allBl l)(h:Nat)(hh:h<=l.length):∀ s∈O9 l h,s.wf:=by
 induction h with
 | zero=>intro s hs;cases hs
 | succ h ih=>
  intro s hs
  rcases p9.1 hs with h1|h1
  ·exact ih (by omega) s h1
  ·exact v53 (hl.get (by omega)) h (z5 _) s h1
theorem JJ{l:List BlkS}(hl:allBl l):allSt (K6 l):=⟨u19 hl,v54 hl _ (z5 _)⟩
def CZ(s:StS)(p:Plc):Bool:=s.id==p.1&&decide (p.2.toNat<s.t.outs.length)
def I1(l:List StS):Nat->Plc->Option OutS
 | 0,_=>none
 | i+1,p=>match I1 l i p with
  | some o=>some o
  | none=>if CZ l[i]! p then some l[i]!.t.outs[p.2.toNat]! else none
def HP(t:TxS)(p:Plc)(k:Nat):Bool:=(List.range k).any λj=>plc t.ins[j]! == p&&!N8 t
def GF(l:List StS)(before input:Nat)(i:Nat):Nat:=if i<before then l[i]!.t.ins.length else min l[i]!.t.ins.length input
def UT(l:List StS)(before input:Nat)(p:Plc):Bool:=(List.range (min (before+1) l.length)).any λi=>HP l[i]!.t p (GF l before input i)
theorem y79{t:TxS}{p:Plc}{k n:Nat}(hk:k<n)(h4:plc t.ins[k]! = p)(hm:(!N8 t)=true):HP t p n=true:=by
 unfold HP;rw[c6];exact⟨k,z7.2 hk,by rw[u6];exact⟨d5.2 h4,hm⟩⟩
theorem w79{t:TxS}{p:Plc}{n:Nat}(h:∀ q<n,(plc t.ins[q]! == p&&!N8 t)=false):HP t p n=false:=by
 unfold HP;rw[r6];intro q hq;rw[h q (z7.1 hq)];simp
theorem z20{l:List StS}{before input i k:Nat}{p:Plc}(hi:i<=before)(hi2:i<l.length)(hk:k<GF l before input i)(h4:plc l[i]!.t.ins[k]! = p)(hm:(!N8 l[i]!.t)=true):UT l before input p=true:=by
 unfold UT;rw[c6];exact⟨i,z7.2 (by omega),y79 hk h4 hm⟩
theorem TP{l:List StS}{before input:Nat}{p:Plc}(h:∀ q<min (before+1) l.length,HP l[q]!.t p (GF l before input q)=false):UT l before input p=false:=by
 unfold UT;rw[r6];intro q hq;rw[h q (z7.1 hq)];simp
theorem YT{l:List StS}{before input i:Nat}(h:i<before):GF l before input i=l[i]!.t.ins.length:=by unfold GF;exact j7 h
theorem BI{l:List StS}{before input i:Nat}(h:¬ i<before):GF l before input i=min l[i]!.t.ins.length input:=by unfold GF;exact z8 h
theorem k40{t:TxS}{p:Plc}{k:Nat}(h:¬ plc t.ins[k]! = p):(plc t.ins[k]! == p&&!N8 t)=false:=by rw[v9.2 h];rfl
theorem AS{t:TxS}{p:Plc}{k:Nat}(h:¬ (!N8 t)=true):(plc t.ins[k]! == p&&!N8 t)=false:=by
 cases hm:N8 t with
 | true=>simp
 | false=>rw[hm] at h;exact absurd rfl h
def PF(x:Plc×UInt64):D:=j1 x.1
def NX(x:Plc×UInt64):D:=.u64 x.2
def XU(l:List StS)(i:Nat):Nat->List (Plc×UInt64)
 | 0=>[]
 | k+1=>if UT l l.length 0 (l[i]!.id,UInt32.ofInt ((k:Nat):Int))=true then XU l i k else XU l i k++[((l[i]!.id,UInt32.ofInt ((k:Nat):Int)),l[i]!.t.outs[k]!.value)]
def PJ(l:List StS):Nat->List (Plc×UInt64)
 | 0=>[]
 | i+1=>PJ l i++XU l i l[i]!.t.outs.length
theorem j02(l:List StS)(i:Nat):PJ l (i+1)=PJ l i++XU l i l[i]!.t.outs.length:=by rw[PJ]
theorem y07(l:List StS)(i:Nat):XU l i 0=[]:=by rw[XU]
theorem q54(l:List StS)(i k:Nat):(XU l i k).length<=k:=by
 induction k with
 | zero=>exact z5 _
 | succ k ih=>
  simp only[XU];split
  ·omega
  ·rw[q9,n7];omega
theorem q55{l:List StS}(hl:allSt l)(i:Nat)(hi:i<=l.length):(PJ l i).length<=1000*i:=by
 induction i with
 | zero=>exact z5 _
 | succ i ih=>
  have h1:=ih (by omega);have h2:=(hl.get (show i<l.length by omega)).2.2.2;have h3:=q54 l i l[i]!.t.outs.length;simp only[PJ,q9];omega
theorem j93{l:List StS}{i k:Nat}(h:UT l l.length 0 (l[i]!.id,UInt32.ofInt ((k:Nat):Int))=true):XU l i (k+1)=XU l i k:=by rw[XU,j7 h]
theorem j94{l:List StS}{i k:Nat}(h:¬ UT l l.length 0 (l[i]!.id,UInt32.ofInt ((k:Nat):Int))=true):XU l i (k+1)=XU l i k++[((l[i]!.id,UInt32.ofInt ((k:Nat):Int)),l[i]!.t.outs[k]!.value)]:=by rw[XU,z8 h]
theorem g30{l:List StS}{i k:Nat}{p:List (Plc×UInt64)}(h:¬ UT l l.length 0 (l[i]!.id,UInt32.ofInt ((k:Nat):Int))=true):(p++XU l i k).map PF++[.agg [w7 l[i]!.id,.u32 (UInt32.ofInt ((k:Nat):Int))]]=(p++XU l i (k+1)).map PF:=by
 rw[j94 h,<- w3,d8 (l₁:=p++XU l i k)];rfl
theorem g29{l:List StS}{i k:Nat}{p:List (Plc×UInt64)}(h:¬ UT l l.length 0 (l[i]!.id,UInt32.ofInt ((k:Nat):Int))=true):(p++XU l i k).map NX++[.u64 l[i]!.t.outs[k]!.value]=(p++XU l i (k+1)).map NX:=by
 rw[j94 h,<- w3,d8 (l₁:=p++XU l i k)];rfl
theorem q26(b:List UInt8):(YW b).brw=YW b:=by
 simp only[YW,D.brw,D1];rw[J6 (λ_=>rfl)]
theorem q25(x:InS):(YL x).brw=YL x:=by
 simp only[YL,D.brw,D1,d9,Z8,W3,q26];rw[J6 q26]
theorem LN(x:OutS):(r9 x).brw=r9 x:=by
 simp only[r9,D.brw,D1,d9,Z8,q26]
theorem EN(t:TxS):(r8 t).brw=r8 t:=by
 simp only[r8,D.brw,D1,d9,Z8];rw[J6 q25,J6 LN]
theorem u04(x:StS):(ZY x).brw=ZY x:=by
 simp only[ZY,f8,D.brw,D1,d9,Z8,W3,EN]
theorem MA(o:Option Nat)(z:Nat)(l:List StS):(D.sl o z (l.map ZY)).brw=.sl none z (l.map ZY):=by
 simp only[D.brw,D1];rw[J6 u04]
def YE(l:List BlkS):List (Plc×UInt64):=PJ (K6 l) (K6 l).length
structure SpS where
 from_:UInt8
 two:Bool
 to:List UInt8
 part:UInt8
 extra:UInt8
 deriving Inhabited
def x05(s:SpS):D:=.agg [.u8 s.from_,.bool s.two,.sl none 1 (s.to.map .u8),.u8 s.part,.u8 s.extra]
structure PlS where
 pays:UInt8
 spends:List SpS
 step:UInt8
 deriving Inhabited
def SS(x:PlS):D:=.agg [.u8 x.pays,.sl none 5 (x.spends.map x05),.u8 x.step]
def BN(k:UInt8):List UInt8:=[0,20]++(NG [115,k,0,0,0]).take 20
def YP(s:SpS)(av:List (Plc×UInt64)):List InS:=
 let k:=s.from_.toNat%av.length
 if s.two=true/\k+1<av.length then[⟨av[k]!.1.1,av[k]!.1.2,[],s.extra.toUInt32,[]⟩,⟨av[k+1]!.1.1,av[k+1]!.1.2,[s.extra],0,[[s.part],[]]⟩]
 else[⟨av[k]!.1.1,av[k]!.1.2,[],s.extra.toUInt32,[]⟩]
def YB(s:SpS)(av:List (Plc×UInt64)):UInt64:=
 let k:=s.from_.toNat%av.length
 if s.two=true/\k+1<av.length then av[k]!.2+av[k+1]!.2 else av[k]!.2
def g36(s:SpS)(sum:UInt64)(i:Nat):OutS:=
 let v:=sum/UInt64.ofInt ((s.to.length:Nat):Int)
 ⟨if i=0 then v-min v s.part.toUInt64 else v,BN (s.to[i]!%12)⟩
def KI(s:SpS)(sum:UInt64)(i:Nat):List OutS:=(List.range i).map (g36 s sum)
def g33(s:SpS)(av:List (Plc×UInt64))(mark:UInt32):TxS:=⟨2,YP s av,KI s (YB s av) (min s.to.length 4),mark⟩
def VS(s:SpS)(av:List (Plc×UInt64)):Bool:=decide (av.length=0)||decide (s.to.length=0)
def SU:TxS:=⟨0,[],[],0⟩
def RD(s:SpS)(av:List (Plc×UInt64))(mark:UInt32):TxS×Bool:=if VS s av then(SU,false) else(g33 s av mark,true)
def k48(n:Nat)(x:PlS)(mark:UInt32):TxS:=
 ⟨1,[⟨zero32,4294967295,[UInt8.ofNat n,UInt8.ofNat (n/256),mark.toUInt8],0,[]⟩],[⟨5000,BN (x.pays%12)⟩],mark⟩
def GE(l:List BlkS)(x:PlS)(mark:UInt32):Nat->List TxS
 | 0=>[k48 l.length x mark]
 | i+1=>if(RD x.spends[i]! (YE (l++[⟨zeroH,GE l x mark i⟩])) mark).2 then GE l x mark i++[(RD x.spends[i]! (YE (l++[⟨zeroH,GE l x mark i⟩])) mark).1] else GE l x mark i
def YH(l:List BlkS)(x:PlS)(mark:UInt32):List TxS:=GE l x mark (min x.spends.length 6)
def heads(l:List BlkS):List HdS:=l.map BlkS.hd
def h04(l:List BlkS)(x:PlS)(mark:UInt32):HdS×Bool:=
 HL (heads l) (z76 (heads l)+1+x.step.toUInt32) (KS F7 ((YH l x mark).map ZM))
def ZL(l:List BlkS)(x:PlS)(mark:UInt32):BlkS×Bool:=(⟨(h04 l x mark).1,YH l x mark⟩,(h04 l x mark).2)
def f9(ps:List PlS):Nat->List BlkS
 | 0=>[⟨JZ,[]⟩]
 | i+1=>if(ZL (f9 ps i) ps[i]! (UInt32.ofNat i)).2 then f9 ps i++[(ZL (f9 ps i) ps[i]! (UInt32.ofNat i)).1] else f9 ps i
def BJ(ps:List PlS):List BlkS:=f9 ps (min ps.length 14)
section
open Go.Proofs
theorem u71(h:Hs):(w7 h).sz=32:=rfl
theorem y22{o:Option Nat}{h:Hs}(e:o=some 32):o=some (w7 h).sz:=e.trans (g6 some (u71 h).symm)
theorem EqV.up{P:Program}{k:Nat}{t:TypeId}{d1 d2:D}{b:Bool}(h:EqV P k t d1 d2 b)(j:Nat):EqV P (k+j) t d1 d2 b:=by
 intro n w ρ1 ρ2 G1 G2 L1 L2 v1 v2 F1 F2 h1 h2;have:=h (n+j) w ρ1 ρ2 G1 G2 L1 L2 v1 v2 F1 F2 h1 h2
 rwa [show n+(k+j)=n+j+k by omega]
theorem ZH(a b:Plc):EqV Tryz.prog 3 109 (j1 a) (j1 b) (a==b):=by
 have h32:∀ x y:UInt32,EqV Tryz.prog 2 27 (.u32 x) (.u32 y) (x==y):=λx y=>(EqV.u32 Tryz.underlying27 x y).up 1;have hh:∀ x y:Hs,EqV Tryz.prog 2 23 (w7 x) (w7 y) (x==y):=λx y=>EqV.arr x y;have:=EqV.struct (k:=2) Tryz.underlying109 (by kernel_rfl) (.cons rfl rfl inferInstance rfl rfl rfl rfl (hh a.1 b.1) (.cons rfl rfl inferInstance rfl rfl rfl rfl (h32 a.2 b.2) .nil));rw[S2] at this;exact this
end
theorem bfalse{b:Bool}(h:¬ b=true):b=false:=by cases b;rfl;exact absurd rfl h
theorem RX{x y z:D}(h1:Frs x)(h2:Frs y)(h3:Frs z):FrsR (.tup [x,y,z]):=.inl ⟨_,rfl,λd hd=>by
 rcases w8.1 hd with rfl|hd
 ·exact h1
 ·rcases w8.1 hd with rfl|hd
  ·exact h2
  ·rw[g8.1 hd];exact h3⟩
theorem x32{l:List Hs}(h:l.length=0):KS F7 l=zero32:=by
 obtain rfl:=Q7.1 h;unfold KS;rw[j3,EK,k34]
theorem x33{l:List Hs}{k:Nat}(hk:k+W2 (R4 F7 l k).length=W2 l.length)(h:(R4 F7 l k).length=1):KS F7 l=(R4 F7 l k)[0]!:=by
 rw[h,EZ] at hk;unfold KS;rw[<- hk,k34]
theorem g44{x most:Bg}{n m:UInt64}(h:VZ (QN x [m,0,0,0]) n≠0):RE x n m most=most:=by unfold RE;exact j7 h
theorem v76{x most:Bg}{n m:UInt64}(h:VZ (QN x [m,0,0,0]) n=0)(h2:j65 (KE (QN x [m,0,0,0]) n) (QN (KE (XV x [m,0,0,0]) n) [m,0,0,0])=true∨DW most (SK (KE (QN x [m,0,0,0]) n) (QN (KE (XV x [m,0,0,0]) n) [m,0,0,0]))=true):RE x n m most=most:=by
 unfold RE;rw[z8 (λh1=>h1 h),j7 h2]
theorem g43{x most:Bg}{n m:UInt64}(h:VZ (QN x [m,0,0,0]) n=0)(h2:¬ j65 (KE (QN x [m,0,0,0]) n) (QN (KE (XV x [m,0,0,0]) n) [m,0,0,0])=true)(h3:¬ DW most (SK (KE (QN x [m,0,0,0]) n) (QN (KE (XV x [m,0,0,0]) n) [m,0,0,0]))=true):RE x n m most=SK (KE (QN x [m,0,0,0]) n) (QN (KE (XV x [m,0,0,0]) n) [m,0,0,0]):=by
 unfold RE;rw[z8 (λh1=>h1 h),z8 (λhc=>hc.elim h2 h3)]
section
open Go.Proofs
theorem x34(t:TxS)(hwf:t.wf):Fn Tryz.prog gl 146 [r8 t] (.bool (N8 t)):=by
 refine Fo 16 Tryz.func146 O λC hC hD=>?_;have h1:=hwf.ins;refine n5 2 [] (V1 0) Zt O (⟨O,_,R.box (gV 0 O) O O nU,⟨O,_,J9 (kB false O) O nU,tW (V1 1) (B2 1) 16 O ?_⟩⟩);refine W.seq ?_;by_cases hz:t.ins.length=1
 ·refine N0 14 (z53 3 4 5 6 7 8 9 10 11 12 13 14 15 2) (V1 2) ⟨aU (xF O),aU (xL O),aU<|P8 O,aU<|GZ 1 O,xM O,aT O (dT hz) (xF O),aT O (dT hz) (xL O),aT O (dT hz) λ_ _ H K=>R.idxN (0) (SC.sl (K 9 _ O)) (C4 (kI 0 O)) O bU H dU,aT O (dT hz)<|r7 O,aT O (dT hz)<|zL O (mG t.ins),aT O (dT hz) λ_ _ H _=>P5 (l:=[.arr 32 1 ((List.replicate 32 0).map D.u8),.u32 0]) (l':=[_,_]) (.cons (kW (.int .u32 4294967295) (.u32 4294967295) O) (.nil O)) ⟨⟨_,(kW (.int .u32 4294967295) (.u32 4294967295) O),O,O,O⟩,Zt⟩ H,aT O (dT hz) λ_ _ H K=>R.eqD (neg:=false) (b':=(plc t.ins[0]! == (List.replicate 32 0,4294967295))) (ZH (plc t.ins[0]!) (List.replicate 32 0,4294967295)) O (eU K 12 O) (eU K 13 O) O O O O (O) H,aU<|zT O (dT hz),aU<|zA O,Zt⟩ ?_;exact W.ret (En O (by rw[N8,dT hz];rfl))
 ·refine N0 14 [.y 3 _,.y 4 _,.y 5 _,.y 6 _,.y 7 _,.x 8,.x 9,.x 10,.x 11,.x 12,.x 13,.x 14,.y 15 _,.y 2 _] (V1 2) ⟨aU (xF O),aU (xL O),aU<|P8 O,aU<|GZ 1 O,xM O,O5 O (dF hz),O5 O (dF hz),O5 O (dF hz),O5 O (dF hz),O5 O (dF hz),O5 O (dF hz),O5 O (dF hz),aU<|FQ O (dF hz) (kB false O),aU<|zA O,Zt⟩ ?_;exact W.ret (En O (by rw[N8,dF hz];rfl))
theorem FA(t:TxS)(hwf:t.wf):Fn Tryz.prog gl 56 [r8 t] (w7 (ZM t)):=by
 refine Fo 6 Tryz.func56 O λC hC hD=>?_;refine n5 2 [] (V1 0) Zt O (⟨O,_,R.box (gV 0 O) O O nU,(I9 O (tW (V2 1 2) (B7 2 1) 6 O ?_))⟩);refine n5 4 (y3 3 4 5) (V2 2 5) ⟨xL O,zC hC (q75 t hwf) O (F1 (.sl _ _ _ (J5 λ_=>.u8 _))),λ_ _ H K=>Z7 hC (NH (HV t) (v5 hwf.bareL dU)) (Bc (Bor.sc (SC.sl (K 4 _ O)) (J6 (λ_=>rfl))) Bn) (F1 (X6 _)) H,Zt⟩ O (M9 O (tW (V1 2) (B7 2 1) 6 O ?_));exact W.ret (En O (by unfold ZM;rfl) (iL 23 32))
theorem PM(l:List Hs)(hl:allH l)(hl0:l.length<=1000):Fn Tryz.prog gl 76 [.sl none 32 (l.map w7)] (w7 (KS F7 l)):=by
 refine Fo 17 Tryz.func76 O λC hC hD=>?_;refine n5 1 [] (V1 0) Zt O (I9 O (tW (V2 0 2) (B2 2) 17 O ?_));refine u4 2 (y2 4 3) (V2 2 3) ⟨zV O,zA O,Zt⟩ ?_;refine W.seq (u4 3 (y3 5 6 7) (V3 2 3 7) ⟨zV O,P8 O,GZ 0 O,Zt⟩ ?_);refine g7 O (λhc7=>?_) (λhc7=>?_)
 ·refine n5 2 (y1 8) (V2 2 8) ⟨λ_ _ H _=>R.bldAZ O H,Zt⟩ O (M9 O (tW (V1 2) (B2 2) 17 O ?_));exact W.ret (En O (by rw[x32 hc7]<;>rfl) (iL 23 32))
 ·refine W.skip (W.seq (W.block ?_));refine E9 (V2 2 3) (B2 2) 17 O ?_;refine W.loop (α:={q__:Nat//q__+W2 (R4 F7 l q__).length=W2 l.length/\0<(R4 F7 l q__).length}) (λq__=>⟨17,[(2,.ptr 2 0 []),(3,.sl none 32 ((R4 F7 l q__.1).map w7))],[(2,.var (w7 zero32))]⟩) (λq__=>W2 l.length-q__.1) ⟨(0),⟨(by show 0+_=_;rw[m5];rfl),(by show 0<l.length;omega)⟩⟩ O ?_;rintro ⟨k,⟨hk,hpos⟩⟩;show W _ _ _ _ ⟨17,[(2,.ptr 2 0 []),(3,.sl none 32 ((R4 F7 l k).map w7))],[(2,.var (w7 zero32))]⟩;have hrl:=PN F7 l k;have hle:=WR l.length k;have hra:=PO CS hl k;have hk:k+W2 (R4 F7 l k).length=W2 l.length:=hk;have hpos:0<(R4 F7 l k).length:=hpos;refine W.seq (u4 3 (y3 9 10 11) (V3 2 3 11) ⟨zV O,P8 O,OE 1 O,Zt⟩ ?_);refine g7 O (λhc11=>?_) (λhc11=>?_)
  ·refine W.skip (W.block ?_);refine n4 3 (y3 12 13 3) (V2 2 3) ⟨zV O,λ_ _ H K=>u44 (r':=.sl none 32 ((g81 F7 (R4 F7 l k)).map w7)) (Z7 hC (j10 (R4 F7 l k) hra bO) (Bc (Bp (eU K 12 O) O O) Bn) (F1 (w75 _ _ _)) H) O (k04 _ _ _),zA O,Zt⟩ ?_;exact⟨⟨(k+1),⟨(by have h2:=EQ (n:=(R4 F7 l k).length) (by omega);have h3:(R4 F7 l (k+1)).length=((R4 F7 l k).length+1)/2:=AP _ _;rw[h2,<- h3] at hk;show k+1+_=_;omega),(by have h3:(R4 F7 l (k+1)).length=((R4 F7 l k).length+1)/2:=AP _ _;show 0<(R4 F7 l (k+1)).length;omega)⟩⟩,rfl,(by have:=NO (n:=(R4 F7 l k).length) (by omega);simp only[];omega)⟩
  ·refine W.exit (n5 4 (y3 14 15 16) (V2 2 16) ⟨zV O,λ_ _ H K=>R.idxN (0) (SC.sl (K 14 _ O)) (C4 (kI 0 O)) O bU H dU,zL O (mG (R4 F7 l k)),Zt⟩ O (M9 O (tW (V1 2) (B2 2) 17 O ?_)));exact W.ret (En O (by rw[x33 hk bO]) (iL 23 32))
end
section
open Go.Proofs
theorem u95(x:Bg)(n m:UInt64)(most:Bg)(hx:x.length=4)(hm:most.length=4):Fn Tryz.prog gl 150 [QM x,.u64 n,.u64 m,QM most] (QM (RE x n m most)):=by
 refine Fo 67 Tryz.func150 O λC hC hD=>?_;have hq4:(QN x [m,0,0,0]).length=4:=z28 _ _;have hr4:(XV x [m,0,0,0]).length=4:=v35 _ _;have hA:(KE (QN x [m,0,0,0]) n).length=4:=z42 _ _;have hB:(KE (XV x [m,0,0,0]) n).length=4:=z42 _ _;have hC4:(QN (KE (XV x [m,0,0,0]) n) [m,0,0,0]).length=4:=z28 _ _;refine n5 3 [] (V4 0 1 2 3) Zt O (⟨O,_,R.box (gV 0 O) O O nU,⟨O,_,R.box (gV 3 O) O O nU,(I9 O (tW (V5 1 2 4 7 8) (i5 8 7 4) 67 O ?_))⟩⟩);refine n5 4 (y2 22 23) (V5 1 4 7 8 23) ⟨zV O,λ_ _ H K=>R.bldAP (z:=1) (l2:=([m,0,0,0].map D.u64)) (.cons (eU K 22 O) (.nil O)) ⟨⟨_,(eU K 22 O),O,O,O,O⟩,Zt⟩ (O) H,Zt⟩ O (I9 O (M9 O (tW (V5 1 4 7 8 9) (OA 9 8 7 4) 67 O ?_)));refine n5 12 (y7 25 26 27 24 28 29 30) (V7 1 7 8 9 28 29 30) ⟨xL O,xL O,zD hC (k84 x [m,0,0,0] hx O) O (RX (O8 _) (O8 _) (.int _)),zY O,zX O,zX O,zX O,Zt⟩ O (I9 O (I9 O (M9 O (M9 O (GK O (tW (V6 1 7 8 9 10 11) (j78 11 10 9 8 7 4) 67 O ?_))))));refine n5 9 (y6 32 33 34 31 35 36) (V7 1 7 8 9 11 35 36) ⟨xL O,zV O,zD hC (k79 (QN x [m,0,0,0]) n hq4) O (FrsR.two (O8 _) (.u64 _)),zY O,zX O,zX O,Zt⟩ O (I9 O (M9 O (GK O (tW (V7 1 7 8 9 11 13 14) (h33 13 11 10 9 8 7 4) 67 O ?_))));refine W.seq (u4 2 (y2 37 38) (V7 1 7 8 9 11 13 38) ⟨zV O,ZP O (kW (.int .u64 0) (.u64 0) O),Zt⟩ ?_);refine W.cond O (λhc38=>?_) (λhc38=>?_)
 ·refine n5 2 (y1 39) (V2 8 39) ⟨xL O,Zt⟩ O (M9 O (tW (V1 8) (h33 13 11 10 9 8 7 4) 67 O ?_));exact W.ret (En O (by rw[g44 (U8.1 hc38)]) (iL 217 4))
 ·refine W.skip (n5 9 (y6 41 42 43 40 44 45) (V6 7 8 9 13 44 45) ⟨xL O,zV O,zD hC (k79 (XV x [m,0,0,0]) n hr4) O (FrsR.two (O8 _) (.u64 _)),zY O,zX O,zX O,Zt⟩ O (I9 O (M9 O (GK O (tW (V5 7 8 9 13 15) (h42 15 13 11 10 9 8 7 4) 67 O ?_)))));refine n5 12 (y7 47 48 49 46 50 51 52) (V6 7 8 13 50 51 52) ⟨xL O,xL O,zD hC (k84 (KE (XV x [m,0,0,0]) n) [m,0,0,0] hB O) O (RX (O8 _) (O8 _) (.int _)),zY O,zX O,zX O,zX O,Zt⟩ O (I9 O (I9 O (M9 O (M9 O (GK O (tW (V4 7 8 13 17) [(18,.var _),(17,.var _),(15,.var _),(13,.var _),(11,.var _),(10,.var _),(9,.var _),(8,.var _),(7,.var _),(4,.var _)] 67 O ?_))))));refine n5 9 (y6 54 55 56 53 57 58) (V4 7 8 57 58) ⟨xL O,xL O,zD hC (v49 (KE (QN x [m,0,0,0]) n) (QN (KE (XV x [m,0,0,0]) n) [m,0,0,0]) hA hC4) O (FrsR.two (O8 _) (.bool _)),zY O,zX O,zX O,Zt⟩ O (I9 O (M9 O (GK O (tW (V4 7 8 20 21) [(20,.var _),(18,.var _),(17,.var _),(15,.var _),(13,.var _),(11,.var _),(10,.var _),(9,.var _),(8,.var _),(7,.var _),(4,.var _)] 67 O ?_))));refine W.seq (W.seq ?_);by_cases hov:j65 (KE (QN x [m,0,0,0]) n) (QN (KE (XV x [m,0,0,0]) n) [m,0,0,0])=true
  ·refine N0 6 [.y 59 _,.y 60 _,.x 61,.x 62,.x 63,.y 64 _] (V4 7 8 20 64) ⟨xM O,xM O,R3 O (hov),R3 O (hov),R3 O (hov),aU<|EW O (hov) (kB true O),Zt⟩ ?_;refine G6 O (O) ?_;refine n5 2 (y1 65) (V2 8 65) ⟨xL O,Zt⟩ O (M9 O (tW (V1 8) [(20,.var _),(18,.var _),(17,.var _),(15,.var _),(13,.var _),(11,.var _),(10,.var _),(9,.var _),(8,.var _),(7,.var _),(4,.var _)] 67 O ?_));exact W.ret (En O (by rw[v76 (X1.1 hc38) (.inl hov)]) (iL 217 4))
  ·refine N0 6 (y6 59 60 61 62 63 64) (V4 7 8 20 64) ⟨xM O,xM O,aN O (bfalse hov) (xL O),aN O (bfalse hov) (xL O),aN O (bfalse hov)<|zD hC (LO most (SK (KE (QN x [m,0,0,0]) n) (QN (KE (XV x [m,0,0,0]) n) [m,0,0,0])) hm (z43 _ _)) O (F1 (.bool _)),aU<|zF O (bfalse hov),Zt⟩ ?_;refine W.cond O (λhc64=>?_) (λhc64=>?_)
   ·refine n5 2 (y1 65) (V2 8 65) ⟨xL O,Zt⟩ O (M9 O (tW (V1 8) [(20,.var _),(18,.var _),(17,.var _),(15,.var _),(13,.var _),(11,.var _),(10,.var _),(9,.var _),(8,.var _),(7,.var _),(4,.var _)] 67 O ?_));exact W.ret (En O (by rw[v76 (X1.1 hc38) (.inr hc64)]) (iL 217 4))
   ·refine W.skip (n5 2 (y1 66) (V2 8 66) ⟨xL O,Zt⟩ O (M9 O (tW (V1 8) [(20,.var _),(18,.var _),(17,.var _),(15,.var _),(13,.var _),(11,.var _),(10,.var _),(9,.var _),(8,.var _),(7,.var _),(4,.var _)] 67 O ?_)));exact W.ret (En O (by rw[g43 (X1.1 hc38) hov (by simpa using hc64)]) (iL 217 4))
end
section
open Go.Proofs
theorem u99:(PK lim).isSome=true:=by decide +kernel
theorem w99:CJ (RR lim)=lim:=by decide +kernel
theorem x78:Fn Tryz.prog gl 128 [.u32 545259519] (.tup [QM (RR lim),.bool true]):=by
 have h:=z59 lim;rw[u99] at h;exact h
theorem j55:Fn Tryz.prog gl 151 [QM (RR lim)] (.u32 545259519):=by
 have h:=FY (RR lim) (PS _);rw[w99] at h;exact h
end
section
open Go.Proofs
theorem w09:Fn Tryz.prog gl 149 [.agg [.u32 545259519,.int 10,.u32 10,.nils,M5 JZ]] (.bool true):=by
 refine Fo 94 Tryz.func149 O λC hC hD=>?_;refine n5 2 [] (V1 0) Zt O (⟨O,_,R.box (gV 0 O) O O nU,⟨O,_,J9 (kB false O) O nU,tW (V1 1) (B2 1) 94 O ?_⟩⟩);refine n5 9 (y6 8 9 10 7 11 12) (V3 1 11 12) ⟨xF O,xL O,zC hC (x78) O (FrsR.two (O8 _) (.bool _)),zY O,zX O,zX O,Zt⟩ O (I9 O (M9 O (GK O (tW (V3 1 3 4) (B7 3 1) 94 O ?_))));refine W.seq (W.seq ?_);refine KF 37 (0::1::3::7::15::7::39::127::255::511::1023::2047::4095::8191::16383::32767::65535::131071::262143::524287::1048575::2097151::4194303::8388607::16777215::33554431::67108863::134217727::268435455::536870911::1073741823::2147483647::4294967295::1073741823::9663676415::34359738367::68719476735::[]) hP dU (.y 13 _::.y 14 _::.y 15 _::.y 16 _::.y 17 _::.y 18 _::.y 19 _::.y 20 _::.y 21 _::.y 22 _::.y 23 _::.y 24 _::.y 25 _::.y 26 _::.y 27 _::.y 28 _::.y 29 _::.y 30 _::.y 31 _::.y 32 _::.y 33 _::.y 34 _::.y 35 _::.y 36 _::.y 37 _::.y 38 _::.y 39 _::.y 40 _::.y 41 _::.y 42 _::.y 43 _::.y 44 _::.y 45 _::.y 46 _::.y 47 _::.y 48 _::.y 49 _::[]) [] [] (V2 1 49) ⟨xM O,aU<|BH O,xM O,aN O (O) (xL O),aN O (O)<|zC hC (j55) O (F1 (.u32 _)),aN O (O) (xF O),aN O (O) (xL O),aN O (O)<|zB O,aU<|zF O (O),xM O,aN O dU (xF O),aN O dU (xL O),aN O dU<|GV 2 O,aU<|zF O dU,xM O,aN O dU (xF O),aN O dU (xL O),aN O dU<|OE 2016 O,aU<|zF O dU,xM O,aN O dU (xF O),aN O dU (xL O),aN O dU<|ZP O (kW (.int .u32 1) (.u32 1) O),aU<|zF O dU,xM O,aN O dU (xF O),aN O dU (xL O),aN O dU<|ZP O (kW (.int .u32 3600) (.u32 3600) O),aU<|zF O dU,xM O,aN O dU (xF O),aN O dU (xF O),aN O dU (xL O),aN O dU (xF O),aN O dU (xL O),aN O dU<|zB O,aU<|zF O dU,Zt⟩ O (tW (V2 1 49) (B7 3 1) 94 O ?_);refine Y7 O dU ?_;refine W.skip (W.seq (u4 1 (y1 5) (V2 1 5) ⟨O3 0 O,Zt⟩ ?_));refine W.block ?_;refine k92 ?_;refine WU.step ?_;show W _ _ _ _ _;refine E9 (V2 1 5) (B7 3 1) 94 O ?_;refine H6 [1] (bx':=(B2 1)) O O O (o8 hD O) ?_;refine W.seq (u4 5 (y5 50 51 52 53 54) (V3 1 5 54) ⟨zV O,xF O,xL O,λ_ _ H K=>QA (n:=0) (SC.nil (z:=1) (K 52 _ O)) (O) H,zS O,Zt⟩ ?_);refine Y7 O dU ?_;refine W.exit (u4 1 (y1 2) (V1 2) ⟨i6 O,Zt⟩ ?_);exact W.ret (Eo O)
theorem j63(l:List HdS)(hl0:l.length<=1000):Fn Tryz.prog gl 127 [.agg [.u32 545259519,.int 10,.u32 10,.nils,M5 JZ],.sl none 68 (l.map M5)] (.u32 (S5 l)):=by
 refine Fo 86 Tryz.func127 O λC hC hD=>?_;refine n5 2 [] (V2 0 1) Zt O (⟨O,_,R.box (gV 0 O) O O nU,⟨O,_,J9 (kW (.int .u32 0) (.u32 0) O) O nU,tW (V2 1 2) (B2 2) 86 O ?_⟩⟩);refine u4 3 (y3 14 15 5) (V3 1 2 5) ⟨zV O,P8 O,zA O,Zt⟩ ?_;refine W.seq (W.seq ?_);by_cases hn:l.length=0
 ·refine N0 7 [.y 16 _,.y 17 _,.y 18 _,.x 19,.x 20,.x 21,.y 22 _] (V4 1 2 5 22) ⟨xM O,aU<|GZ 0 O,xM O,R3 O (dT hn),R3 O (dT hn),R3 O (dT hn),aU<|EW O (dT hn) (kB true O),Zt⟩ ?_;refine G6 O (O) ?_;refine u4 1 (y1 4) (V1 4) ⟨q42 (.u32 0) O,Zt⟩ ?_;exact W.ret (En O (by rw[v47 hn]))
 ·refine N0 7 (y7 16 17 18 19 20 21 22) (V4 1 2 5 22) ⟨xM O,aU<|GZ 0 O,xM O,aN O (dF hn) (xL O),aN O (dF hn)<|zC hC (w09) O (F1 (.bool _)),aN O (dF hn)<|BH O,aU<|zF O (dF hn),Zt⟩ ?_;refine Y7 O (O) ?_;refine W.skip (n5 7 (y5 23 24 25 26 27) (V4 1 2 5 27) ⟨zV O,zV O,AD 1 O,zI ((l.length-1)) O,zL O (mG l),Zt⟩ O (I9 O (M9 O (tW (V4 1 2 5 6) (B7 6 2) 86 O ?_))));refine W.seq (u4 5 (y5 28 29 30 31 32) (V5 1 2 5 6 32) ⟨zV O,xF O,xL O,λ_ _ H K=>KH (l.length) (10) (eU K 28 O) (eU K 30 O) bU H,v95 0 O,Zt⟩ ?_);refine g7 O (λhc32=>?_) (λhc32=>?_)
  ·refine u4 3 (y3 33 34 4) (V1 4) ⟨xF O,xL O,zA O,Zt⟩ ?_;exact W.ret (En O (by rw[v46 hn hc32]))
  ·refine W.skip (W.seq ?_);refine BV 7 [.y 35 _,.y 36 _,.y 37 _,.y 38 _,.y 39 _,.y 40 _,.y 7 _] [] [] [(1,_),(2,_),(5,_),(6,_),(7,_)] [(6,.var _),(2,.var _)] 86 ⟨aU (xF O),aU (xL O),aU (xF O),aU (xL O),aU λ_ _ H K=>R.conv (eU K 38 O) O H,aU λ_ _ H K=>RQ (10) (10) (eU K 36 O) (eU K 39 O) bU H,aU λ_ _ H K=>J9 (eU K 40 O) O H,Zt⟩ O O O O (tU O ?_);refine W.seq ?_;have ht1:=l[l.length-1]!.time.toNat_lt;have ht2:=l[l.length-10]!.time.toNat_lt;refine R5 14 [0,1,3,0,0,0,32,112,248,504,1016,2040,4095,8191] hP dU (z53 41 42 43 44 45 46 47 48 49 50 51 52 53 8) (V4 2 6 7 8) ⟨xF O,xL O,zW O,zV O,zV O,xF O,xL O,zQ O,zI ((l.length-10)) O,r7 O,zL O (mG l),zW O,λ_ _ H K=>O1 (d:=.int (((l[l.length-1]!.time.toNat:Nat):Int)-((l[l.length-10]!.time.toNat:Nat):Int))) (eU K 43 O) (eU K 52 O) O Zt (XX bO bO bO) H,zA O,Zt⟩ O (tW (V4 2 6 7 8) (B7 6 2) 86 O ?_);refine W.seq ?_;refine BV 8 [.y 54 _,.y 55 _,.y 56 _,.y 57 _,.y 58 _,.y 59 _,.y 60 _,.y 8 _] [] [] [(2,_),(6,_),(7,_),(8,_)] [(6,.var _),(2,.var _)] 86 ⟨xM O,xM O,aU λ_ _ H K=>YU (100) (4) (eU K 55 O) (kI 4 O) bU bU H,aU λ_ _ H K=>R.maxI (r:=(max (((l[l.length-1]!.time.toNat:Nat):Int)-((l[l.length-10]!.time.toNat:Nat):Int)) 25)) (eU K 54 O) (eU K 56 O) (O) H,xM O,aU λ_ _ H K=>RQ (4) (100) (kI 4 O) (eU K 58 O) bU H,aU λ_ _ H K=>R.minI (r:=(x02 l)) (eU K 57 O) (eU K 59 O) (O) H,aU λ_ _ H K=>J9 (eU K 60 O) O H,Zt⟩ O O O O (tU O ?_);refine n5 9 (y6 62 63 64 61 65 66) (V5 6 7 8 65 66) ⟨xF O,xL O,zC hC (x78) O (FrsR.two (O8 _) (.bool _)),zY O,zX O,zX O,Zt⟩ O (I9 O (M9 O (GK O (tW (V4 6 7 8 9) (i5 9 6 2) 86 O ?_))));refine n5 9 (y6 68 69 70 67 71 72) (V5 7 8 9 71 72) ⟨xF O,xL O,zC hC (z59 l[l.length-1]!.bits) O (FrsR.two (O8 _) (.bool _)),zY O,zX O,zX O,Zt⟩ O (I9 O (M9 O (GK O (tW (V4 7 8 9 11) (OA 11 9 6 2) 86 O ?_))));refine n5 9 (y7 73 74 75 76 77 78 79) (V1 79) ⟨xL O,zV O,zW O,zV O,λ_ _ H K=>W5 (d:=.u64 100) (eU K 76 O) O (O) H,xL O,λ_ _ H K=>Z7 hC (u95 (RR l[l.length-1]!.bits) (UInt64.ofInt (x02 l)) 100 (RR lim) (PS _) (PS _)) (Bc (Bp (eU K 73 O) O O) (Bc (Bp (eU K 75 O) O O) (Bc (Bp (eU K 77 O) O O) (Bc (Bp (eU K 78 O) O O) Bn)))) (F1 (O8 _)) H,Zt⟩ O (I9 O (M9 O (tW (V1 13) (q47 13 11 9 6 2) 86 O ?_)));refine W.seq (W.seq ?_);by_cases hz:IX l=Y6
   ·refine n4 3 (y3 80 81 82) (V2 13 82) ⟨xL O,λ_ _ H _=>R.bldAZ O H,λ_ _ H K=>R.eqD (neg:=false) (b':=((IX l)==Y6)) (JS _ _) O (eU K 80 O) (eU K 81 O) O O O O (O) H,Zt⟩ ?_;refine G6 O (d5.2 hz) ?_;refine L8 2 (y1 83) (V2 13 83) ⟨λ_ _ H _=>R.bldAP (z:=1) (l2:=([1,0,0,0].map D.u64)) (.cons (kW (.int .u64 1) (.u64 1) O) (.nil O)) ⟨⟨_,(kW (.int .u64 1) (.u64 1) O),O,O,O,O⟩,Zt⟩ (O) H,Zt⟩ O (M9 O (tW (V1 13) (q47 13 11 9 6 2) 86 O ?_));refine u4 3 (y3 84 85 4) (V1 4) ⟨xL O,zC hC (FY [1,0,0,0] O) O (F1 (.u32 _)),zA O,Zt⟩ ?_;exact W.ret (En O (by rw[v45 hn hc32 hz]))
   ·refine n4 3 (y3 80 81 82) (V2 13 82) ⟨xL O,λ_ _ H _=>R.bldAZ O H,λ_ _ H K=>R.eqD (neg:=false) (b':=((IX l)==Y6)) (JS _ _) O (eU K 80 O) (eU K 81 O) O O O O (O) H,Zt⟩ ?_;refine Y7 O (v9.2 hz) ?_;refine W.skip (u4 3 (y3 84 85 4) (V1 4) ⟨xL O,zC hC (FY (IX l) (x86 l)) O (F1 (.u32 _)),zA O,Zt⟩ ?_);exact W.ret (En O (by rw[v44 hn hc32 hz]))
theorem k67:Fn Tryz.prog gl 13 [.int ((10:Nat):Int),.u32 10] (.agg [.u32 545259519,.int 10,.u32 10,.nils,M5 JZ]):=by
 refine Fo 9 Tryz.func13 O λC hC hD=>?_;refine n5 1 [] (V2 0 1) Zt O (I9 O (tW (V3 0 1 4) (B2 4) 9 O ?_));refine n5 5 (y4 5 6 7 8) (V2 4 8) ⟨zV O,zV O,λ_ _ H _=>P5 (l:=[.u32 0,.arr 32 1 ((List.replicate 32 0).map D.u8),.arr 32 1 ((List.replicate 32 0).map D.u8),.u32 0,.u32 0,.u32 0]) (l':=[_,_,_,_,_,_]) (.cons (kW (.int .u32 1) (.u32 1) O) (.cons (kW (.int .u32 1000) (.u32 1000) O) (.cons (kW (.int .u32 545259519) (.u32 545259519) O) (.nil O)))) ⟨⟨_,(kW (.int .u32 1) (.u32 1) O),O,O,O⟩,⟨⟨_,(kW (.int .u32 1000) (.u32 1000) O),O,O,O⟩,⟨⟨_,(kW (.int .u32 545259519) (.u32 545259519) O),O,O,O⟩,Zt⟩⟩⟩ H,λ_ _ H K=>P5 (l:=[.u32 0,.int 0,.u32 0,.nils,.agg [.u32 0,.arr 32 1 ((List.replicate 32 0).map D.u8),.arr 32 1 ((List.replicate 32 0).map D.u8),.u32 0,.u32 0,.u32 0]]) (l':=[_,_,_,_,_]) (.cons (kW (.int .u32 545259519) (.u32 545259519) O) (.cons (eU K 5 O) (.cons (eU K 6 O) (.cons (eU K 7 O) (.nil O))))) ⟨⟨_,(kW (.int .u32 545259519) (.u32 545259519) O),O,O,O⟩,⟨⟨_,(eU K 5 O),O,O,O⟩,⟨⟨_,(eU K 6 O),O,O,O⟩,⟨⟨_,(eU K 7 O),O,O,O⟩,Zt⟩⟩⟩⟩ H,Zt⟩ O (M9 O (tW (V1 4) (B2 4) 9 O ?_));exact W.ret (Eo O (iL 46 72))
end
theorem g48{l:List HdS}(h:l.length=0):z76 l=0:=by unfold z76;exact j7 h
theorem g47{l:List HdS}(h:¬ l.length=0):z76 l=(IB l (min l.length 11))[min l.length 11/2]!:=by unfold z76;exact z8 h
theorem j88(n:Nat):UInt32.ofNat n+1=UInt32.ofNat (n+1):=by
 apply E4.1;rw[UInt32.toNat_add,Y0,Y0];show(n%4294967296+1)%4294967296=_;omega
theorem VO{n:Nat}(h:n<=200):(UInt32.ofNat n<200)↔n<200:=by
 rw[UInt32.lt_iff_toNat_lt,Y0];have e:(200:UInt32).toNat=200:=rfl;rw[e];omega
structure MI(l:List HdS)(time:UInt32)(root:Hs)(h:HdS)(n:Nat):Prop where
 wf:h.wf
 le:n<=200
 is:(PK (S5 l)).isSome=true->BX h (RR (S5 l)) (200-n)=HL l time root
 no:(PK (S5 l)).isSome=false->HL l time root=(h,false)
theorem v72{l:List HdS}{time:UInt32}{root:Hs}(hr:root.length=32):MI l time root (MX l time root) 0 where
 wf:=LQ l time root hr
 le:=v6 _
 is:=λh=>by
  cases hs:PK (S5 l) with
  | none=>rw[hs] at h;cases h
  | some t=>rw[IG hs,WC hs]
 no:=λh=>by
  cases hs:PK (S5 l) with
  | none=>exact IH hs
  | some t=>rw[hs] at h;cases h
theorem ID{h:HdS}{t:Bg}{n:Nat}(hn:n<200):BX h t (200-n)=if PT (ZB { h with nonce:=UInt32.ofNat n }) t=true then({ h with nonce:=UInt32.ofNat n },true) else BX { h with nonce:=UInt32.ofNat n } t (200-(n+1)):=by
 obtain⟨k,hk⟩:∃ k,200-n=k+1:=⟨199-n,by omega⟩
 rw[hk,BX,show 199-k=n by omega,show 200-(n+1)=k by omega]
theorem MI.found{l:List HdS}{time:UInt32}{root:Hs}{h:HdS}{n:Nat}(hi:MI l time root h n)(hs:(PK (S5 l)).isSome=true)(hn:n<200)(hm:PT (ZB { h with nonce:=UInt32.ofNat n }) (RR (S5 l))=true) :
 HL l time root=({ h with nonce:=UInt32.ofNat n },true):=by rw[<- hi.is hs,ID hn,j7 hm]
theorem MI.next{l:List HdS}{time:UInt32}{root:Hs}{h:HdS}{n:Nat}(hi:MI l time root h n)(hs:(PK (S5 l)).isSome=true)(hn:n<200)(hm:¬ PT (ZB { h with nonce:=UInt32.ofNat n }) (RR (S5 l))=true) :
 MI l time root { h with nonce:=UInt32.ofNat n } (n+1) where
 wf:=g14 hi.wf.1 hi.wf.2
 le:=by omega
 is:=λ_=>by rw[<- hi.is hs,ID hn,z8 hm]
 no:=λh=>by rw[h] at hs;cases hs
theorem MI.last{l:List HdS}{time:UInt32}{root:Hs}{h:HdS}{n:Nat}(hi:MI l time root h n)(hs:(PK (S5 l)).isSome=true)(hn:¬ n<200):HL l time root=(h,false):=by
 rw[<- hi.is hs,show 200-n=0 by omega,BX]
section
open Go.Proofs
theorem w02(l:List HdS)(hl0:l.length<=1000):Fn Tryz.prog gl 75 [.sl none 68 (l.map M5)] (.u32 (z76 l)):=by
 refine Fo 68 Tryz.func75 O λC hC hD=>?_;refine u4 1 (y1 2) (V1 0) ⟨q42 (.u32 0) O,Zt⟩ ?_;refine u4 1 (y1 3) (V2 0 3) ⟨i6 O,Zt⟩ ?_;refine W.seq (u4 5 (y5 6 7 8 9 4) (V3 0 3 4) ⟨zV O,P8 O,λ_ _ H K=>O1 (d:=.int (((l.length:Nat):Int)-11)) (eU K 7 O) (kI 11 O) O Zt (XX bO bO bO) H,λ_ _ H K=>R.maxI (r:=(((l.length-11):Nat):Int)) (eU K 8 O) (kI 0 O) bO H,zA O,Zt⟩ ?_);refine W.block ?_;refine O6 (s:=3) 27 1 O ?_;refine P2 (min l.length 11) (λj=>⟨68,[(0,.sl none 68 (l.map M5)),(3,.sl (some 27) 1 ((IB l j).map D.u32)),(4,.int (((l.length-11+j):Nat):Int))],[]⟩) O λj hj=>?_;have hml:=w01 l j;refine W.seq (u4 4 (y4 10 11 12 13) (V4 0 3 4 13) ⟨zV O,zV O,P8 O,zS O,Zt⟩ ?_);refine g7 O (λhc13=>?_) (λhc13=>?_)
 ·refine W.skip (W.seq (W.block (W.seq ?_)));refine BV 3 [.y 16 _,.y 17 _,.y 5 _] [] [] [(0,_),(3,_),(4,_),(5,_)] [] 68 ⟨aU λ_ _ H K=>R.al (K 3 _ O) H dU,aU λ_ _ H K=>QA (n:=j) (SC.al (K 16 _ O) (K 3 _ O)) ((lN _).trans hml) H,aU λ_ _ H K=>J9 (eU K 17 O) O H,Zt⟩ O O O O (tU O ?_);refine P4 9 (y9 18 19 20 21 22 23 24 25 3) [(7,3),(8,25),(8,18)] [(7,3),(8,25)] (V4 0 3 4 5) ⟨aU<|zM O,xM O,xM O,aU<|zI ((l.length-11+j)) O,aU<|r7 O,aU<|zL O (mG l),aU λ_ _ H K=>J3 (z:=1) (.cons (eU K 23 O) .nil) ⟨⟨O,O,O⟩,Zt⟩ O H dU,aU<|YC O (G5 O) (show _=((IB l j++[l[l.length-11+j]!.time]).map D.u32) from(by rw[d8];rfl)) bU,aU<|zO O,Zt⟩ O (tU O ?_);refine W.seq (W.block ?_);refine W.loop (α:={q__:List UInt32×Nat//(q__.2<=j/\q__.1.length=j+1)/\shf l[l.length-11+j]!.time q__.1 q__.2=j35 (IB l j) l[l.length-11+j]!.time}) (λq__=>⟨68,[(0,.sl none 68 (l.map M5)),(3,.sl (some 27) 1 (q__.1.1.map D.u32)),(4,.int (((l.length-11+j):Nat):Int)),(5,.int ((q__.1.2:Nat):Int))],[]⟩) (λq__=>q__.1.2) ⟨(IB l j++[l[l.length-11+j]!.time],j),⟨⟨z5 _,by rw[q9,hml];rfl⟩,by rw[j35,hml]⟩⟩ O ?_;rintro ⟨⟨ts,k⟩,⟨⟨hk,htl⟩,hsh⟩⟩;show W _ _ _ _ ⟨68,[(0,.sl none 68 (l.map M5)),(3,.sl (some 27) 1 (ts.map D.u32)),(4,.int (((l.length-11+j):Nat):Int)),(5,.int ((k:Nat):Int))],[]⟩;have hk:k<=j:=hk;have htl:ts.length=j+1:=htl;have hsh:shf l[l.length-11+j]!.time ts k=j35 (IB l j) l[l.length-11+j]!.time:=hsh;refine W.seq (W.seq ?_);by_cases hk0:0<k
  ·refine KF 15 [0,1,3,7,7,23,63,127,7,7,775,1799,3847,8191,16383] hP dU (g08 26 27 28 29 30 31 32 33 34 35 36 37 38 39 40) [] [] (V5 0 3 4 5 40) ⟨xM O,aU<|OE 0 O,xM O,aT O (dT hk0)<|zM O,aT O (dT hk0)<|zV O,aT O (dT hk0)<|AD 1 O,aT O (dT hk0)<|YD ((k-1)) O,aT O (dT hk0)<|XA O (mG ts),aT O (dT hk0)<|zV O,aT O (dT hk0)<|zV O,aT O (dT hk0)<|zI ((l.length-11+j)) O,aT O (dT hk0)<|r7 O,aT O (dT hk0)<|zL O (mG l),aT O (dT hk0)<|zB O,aU<|zT O (dT hk0),Zt⟩ O (tW (V5 0 3 4 5 40) [] 68 O ?_);refine W.cond O (λhc40=>?_) (λhc40=>?_)
   ·refine W.skip (W.block (n5 9 (y8 41 42 43 44 45 46 47 48) (V7 0 3 4 5 41 47 48) ⟨zM O,zV O,zM O,zV O,AD 1 O,YD ((k-1)) O,XA O (mG ts),YD k O,Zt⟩ O (⟨O,_,XS (gU 48 O) (Or.inr (gU 41 O)) (gU 3 O) (mG ts) O (gV 47 O) (by rfl) (by rfl) (by rfl) (by rfl) L0 L3,tW (V4 0 3 4 5) [] 68 O ?_⟩)));refine n4 3 (y3 49 50 5) (V4 0 3 4 5) ⟨zV O,AD 1 O,zA O,Zt⟩ ?_;exact⟨⟨(ts.set k ts[k-1]!,k-1),⟨⟨by show k-1<=j;omega,List.length_set.trans htl⟩,(g37 hk0 (v7 hc40)).symm.trans hsh⟩⟩,rfl,(by show k-1<k;omega)⟩
   ·refine W.exit ?_;refine L8 9 (y8 51 52 53 54 55 56 57 58) (V6 0 3 4 51 57 58) ⟨zM O,zV O,zV O,zV O,zI ((l.length-11+j)) O,r7 O,zL O (mG l),YD k O,Zt⟩ O (⟨O,_,XS (gU 58 O) (Or.inr (gU 51 O)) (gU 3 O) (mG ts) O (gV 57 O) (by rfl) (by rfl) (by rfl) (by rfl) L0 L3,tW (V3 0 3 4) [] 68 O ?_⟩);refine n4 3 (y3 14 15 4) (V3 0 3 4) ⟨zV O,P1 1 O,zA O,Zt⟩ ?_;exact⟨bU,(by first|(rw[<- k29 (x:=l[l.length-11+j]!.time) (ts:=ts) (k:=k) (λ_=>d6 hc40),hsh]<;>rfl)|(rw[<- k29 (x:=l[l.length-11+j]!.time) (ts:=ts) (k:=k) (λh=>absurd h hk0),hsh]<;>rfl))⟩
  ·refine KF 15 [0,1,3,7,7,23,63,127,7,7,775,1799,3847,8191,16383] hP dU [.y 26 _,.y 27 _,.y 28 _,.x 29,.x 30,.x 31,.x 32,.x 33,.x 34,.x 35,.x 36,.x 37,.x 38,.x 39,.y 40 _] [] [] (V5 0 3 4 5 40) ⟨xM O,aU<|OE 0 O,xM O,O5 O (dF hk0),O5 O (dF hk0),O5 O (dF hk0),O5 O (dF hk0),O5 O (dF hk0),O5 O (dF hk0),O5 O (dF hk0),O5 O (dF hk0),O5 O (dF hk0),O5 O (dF hk0),O5 O (dF hk0),aU<|FQ O (dF hk0) (kB false O),Zt⟩ O (tW (V5 0 3 4 5 40) [] 68 O ?_);refine Y7 O (O) ?_;refine W.exit ?_;refine L8 9 (y8 51 52 53 54 55 56 57 58) (V6 0 3 4 51 57 58) ⟨zM O,zV O,zV O,zV O,zI ((l.length-11+j)) O,r7 O,zL O (mG l),YD k O,Zt⟩ O (⟨O,_,XS (gU 58 O) (Or.inr (gU 51 O)) (gU 3 O) (mG ts) O (gV 57 O) (by rfl) (by rfl) (by rfl) (by rfl) L0 L3,tW (V3 0 3 4) [] 68 O ?_⟩);refine n4 3 (y3 14 15 4) (V3 0 3 4) ⟨zV O,P1 1 O,zA O,Zt⟩ ?_;exact⟨bU,(by first|(rw[<- k29 (x:=l[l.length-11+j]!.time) (ts:=ts) (k:=k) (λ_=>d6 hc40),hsh]<;>rfl)|(rw[<- k29 (x:=l[l.length-11+j]!.time) (ts:=ts) (k:=k) (λh=>absurd h hk0),hsh]<;>rfl))⟩
 ·obtain rfl:j=min l.length 11:=by omega
  refine W.exit (W.seq (W.seq ?_));refine BV 3 [.y 59 _,.y 60 _,.y 61 _] [] [] [(3,_),(61,_)] [] 68 ⟨aU λ_ _ H K=>R.al (K 3 _ O) H dU,aU λ_ _ H K=>QA (n:=(min l.length 11)) (SC.al (K 59 _ O) (K 3 _ O)) ((lN _).trans hml) H,aU λ_ _ H K=>HE ((min l.length 11)) (0) (eU K 60 O) (kI 0 O) H,Zt⟩ O O O O (tU O ?_);refine g7 O (λhc61=>?_) (λhc61=>?_)
  ·refine u4 1 (y1 2) (V1 2) ⟨q42 (.u32 0) O,Zt⟩ ?_;exact W.ret (En O (by rw[g48 bO]))
  ·refine W.skip (W.seq ?_);refine BV 7 [.y 62 _,.y 63 _,.y 64 _,.y 65 _,.y 66 _,.y 67 _,.y 2 _] [] [] [(2,_)] [] 68 ⟨aU λ_ _ H K=>R.al (K 3 _ O) H dU,aU λ_ _ H K=>R.al (K 3 _ O) H dU,aU λ_ _ H K=>QA (n:=(min l.length 11)) (SC.al (K 63 _ O) (K 3 _ O)) ((lN _).trans hml) H,aU λ_ _ H K=>YU ((min l.length 11)) (2) (eU K 64 O) (kI 2 O) bU bU H,aU λ_ _ H K=>R.idxN (((min l.length 11)/2)) (SC.al (K 62 _ O) (K 3 _ O)) (C4 (eU K 65 O)) O bU H dU,aU λ_ _ H K=>R.ldE (K 66 _ O) (SC.al (K 62 _ O) (K 3 _ O)) (b8 (l:=(IB l (min l.length 11))) bU) O O O O H,aU λ_ _ H K=>J9 (eU K 67 O) O H,Zt⟩ O O O O (tU O ?_);exact W.ret (En O (by rw[g47 bO]))
end
section
open Go.Proofs
theorem v00(l:List HdS)(time:UInt32)(root:Hs)(hw:allW l)(hl1:1<=l.length)(hl0:l.length<=1000)(hr:root.length=32):Fn Tryz.prog gl 74 [.agg [.u32 545259519,.int 10,.u32 10,.nils,M5 JZ],.sl none 68 (l.map M5),.u32 time,w7 root,.u32 200] (.tup [M5 (HL l time root).1,.bool (HL l time root).2]):=by
 refine Fo 56 Tryz.func74 O λC hC hD=>?_;refine n5 4 [] (V5 0 1 2 3 4) Zt O (⟨O,_,R.box (gV 0 O) O O nU,⟨O,_,R.box (gV 3 O) O O nU,(I9 O ⟨O,_,J9 (kB false O) O nU,tW (V6 1 2 4 5 8 10) (i5 10 8 5) 56 O ?_⟩)⟩⟩);refine W.seq ?_;refine QE (m:=7) (an:=[0,0,0,0,12,31,0,127]) (its:=(y7 16 17 18 19 20 21 12)) (ks:=[]) (kk:=[]) (efs:=[(6,(B2 12))]) (live:=[1,4,10,12,21]) (env':=(V5 1 4 10 12 21)) (nd:=40) (bx1:=(OA 12 10 8 5)) hP dU O ⟨⟨69,O⟩,nU O,O,O,O,O⟩ (      ⟨⟨O,nU O,O,λ_ τ hb ht hτ=>R.ldP (hτ 8 _ O) (hb 8 _ O) O O O O ht⟩,⟨⟨O,nU O,O,λ_ τ hb ht hτ=>R.mov (evt (hτ 2 _ O)) O ht⟩,⟨⟨O,nU O,O,λ_ τ hb ht hτ=>R.ldP (hτ 5 _ O) (hb 5 _ O) O O O O ht⟩,⟨⟨O,nU O,O,λ_ τ hb ht hτ=>R.mov (evt (hτ 1 _ O)) O ht⟩,⟨⟨O,nU O,O,λ_ τ hb ht hτ=>Z7 hC (j63 l hl0) (Bc (Bp (evt (hτ 18 _ O)) O O) (Bc (Bp (evt (hτ 19 _ O)) O O) Bn)) (F1 (.u32 _)) ht⟩,⟨⟨O,nU O,O,λ_ τ hb ht hτ=>P5 (l:=[.u32 0,.arr 32 1 ((List.replicate 32 0).map D.u8),.arr 32 1 ((List.replicate 32 0).map D.u8),.u32 0,.u32 0,.u32 0]) (l':=[_,_,_,_,_,_]) (.cons (kW (.int .u32 1) (.u32 1) O) (.cons (evt (hτ 16 _ O)) (.cons (evt (hτ 17 _ O)) (.cons (evt (hτ 20 _ O)) (.nil O))))) ⟨⟨_,(kW (.int .u32 1) (.u32 1) O),O,O,O⟩,⟨⟨_,(evt (hτ 16 _ O)),O,O,O⟩,⟨⟨_,(evt (hτ 17 _ O)),O,O,O⟩,⟨⟨_,(evt (hτ 20 _ O)),O,O,O⟩,Zt⟩⟩⟩⟩ ht⟩,⟨⟨O,O,⟨O,nU O⟩,(SpE.alloc O nU)⟩,Zt⟩⟩⟩⟩⟩⟩⟩) O O O (n':=56) O (M9 O ⟨[1,4,10,12],(V4 1 4 10 12),(OA 12 10 8 5),56,O,O,O, ?_⟩);refine W.seq (u4 3 (y3 22 23 24) (V5 1 4 10 12 24) ⟨zV O,P8 O,GZ 0 O,Zt⟩ ?_);refine Y7 O (dF bO) ?_;refine W.skip (n5 9 (y8 26 27 28 29 30 31 32 33) (V5 4 10 12 32 33) ⟨zV O,zV O,P8 O,AD 1 O,zI ((l.length-1)) O,zL O (mG l),zC hC (EY l[l.length-1]! (hw.get bO)) O (F1 (X6 _)),xF O,Zt⟩ O (M9 O (tW (V3 4 10 12) (OA 12 10 8 5) 56 O ?_)));refine n5 9 (y6 35 36 37 34 38 39) (V5 4 10 12 38 39) ⟨xF O,xL O,zC hC (z59 (S5 l)) O (FrsR.two (O8 _) (.bool _)),zY O,zX O,zX O,Zt⟩ O (I9 O (M9 O (GK O (tW (V5 4 10 12 13 14) (q47 13 12 10 8 5) 56 O ?_))));refine W.seq (u4 1 (y1 15) (V6 4 10 12 13 14 15) ⟨q42 (.u32 0) O,Zt⟩ ?_);refine W.block ?_;refine W.loop (α:={q__:HdS×Nat//MI l time root q__.1 q__.2}) (λq__=>⟨56,[(4,.u32 200),(10,.ptr 10 0 []),(12,.ptr 12 0 []),(13,.ptr 13 0 []),(14,.bool (PK (S5 l)).isSome),(15,.u32 (UInt32.ofNat q__.1.2))],[(13,.var (QM (RR (S5 l)))),(12,.var (M5 q__.1.1)),(10,.var (M5 zeroH)),(8,.var (w7 root)),(5,.var (.agg [.u32 545259519,.int 10,.u32 10,.nils,M5 JZ]))]⟩) (λq__=>200-q__.1.2) ⟨(MX l time root,0),v72 hr⟩ (by dsimp only[MX,M5]<;>rfl) ?_;rintro ⟨⟨h,n⟩,hi⟩;show W _ _ _ _ ⟨56,[(4,.u32 200),(10,.ptr 10 0 []),(12,.ptr 12 0 []),(13,.ptr 13 0 []),(14,.bool (PK (S5 l)).isSome),(15,.u32 (UInt32.ofNat n))],[(13,.var (QM (RR (S5 l)))),(12,.var (M5 h)),(10,.var (M5 zeroH)),(8,.var (w7 root)),(5,.var (.agg [.u32 545259519,.int 10,.u32 10,.nils,M5 JZ]))]⟩;have hi:MI l time root h n:=hi;have hle:=hi.le;refine W.seq (W.seq ?_);by_cases hs:(PK (S5 l)).isSome=true
 ·refine N0 6 (y6 40 41 42 43 44 45) (V7 4 10 12 13 14 15 45) ⟨xM O,xM O,aT O (hs)<|zV O,aT O (hs)<|zV O,aT O (hs)<|zB O,aU<|zT O (hs),Zt⟩ ?_;refine W.cond O (λhc45=>?_) (λhc45=>?_)
  ·refine W.skip (W.seq (W.block (n5 3 (y2 48 49) (V8 4 10 12 13 14 15 48 49) ⟨zV O,xF O,Zt⟩ O (M9 O (tW (V6 4 10 12 13 14 15) (q47 13 12 10 8 5) 56 O ?_)))));refine W.seq ?_;refine W.dr (m:=4) (an:=[0,1,0,7]) hP dU rfl (its:=(y4 50 51 52 53)) (ks:=[]) (kk:=[]) (env':=(V7 4 10 12 13 14 15 53)) (⟨nU rfl,rfl,⟨aU (lU 12 rfl rfl rfl rfl rfl rfl rfl),aU λ_ _ H K=>Z7 hC (EY { h with nonce:=UInt32.ofNat n } (g14 hi.wf.1 hi.wf.2)) (Bc (Bp (eU K 50 rfl) rfl rfl) Bn) (F1 (X6 _)) H,aU (lU 13 rfl rfl rfl rfl rfl rfl rfl),aU λ_ _ H K=>Z7 hC (j91 (ZB { h with nonce:=UInt32.ofNat n }) (RR (S5 l)) (OQ _) (PS _)) (Bc (Bp (eU K 51 rfl) rfl rfl) (Bc (Bp (eU K 52 rfl) rfl rfl) Bn)) (F1 (.bool _)) H,Zt⟩,rfl,rfl,rfl⟩) rfl (bx':=(q47 13 12 10 8 5)) rfl (n':=56) rfl (tV (V7 4 10 12 13 14 15 53) (q47 13 12 10 8 5) 56 rfl rfl rfl ?_);refine W.cond O (λhc53=>?_) (λhc53=>?_)
   ·refine n5 3 (y1 54) (V2 10 54) ⟨xL O,Zt⟩ O (M9 O ⟨O,_,J9 (kB true O) O nU,tW (V2 10 11) (q47 13 12 10 8 5) 56 O ?_⟩);exact W.ret (Ends.many (.inr O) (.cons O O O (iL 44 68) (.cons O O O Zt .nil)) (by rw[hi.found hs ((VO hi.le).1 (v7 hc45)) hc53]<;>rfl) (show[(10,false),(11,true)].Nodup by decide))
   ·refine W.skip ?_;refine n4 3 (y3 46 47 15) (V6 4 10 12 13 14 15) ⟨zV O,ZP O (kW (.int .u32 1) (.u32 1) O),zA O,Zt⟩ ?_;exact⟨⟨({ h with nonce:=UInt32.ofNat n },n+1),hi.next hs ((VO hi.le).1 (v7 hc45)) (by simpa using hc53)⟩,(by rw[j88]<;>rfl),(by have:=(VO hi.le).1 (v7 hc45);show 200-(n+1)<200-n;omega)⟩
  ·refine W.exit (n5 3 (y1 55) (V2 10 55) ⟨xL O,Zt⟩ O (M9 O ⟨O,_,J9 (kB false O) O nU,tW (V2 10 11) (q47 13 12 10 8 5) 56 O ?_⟩));exact W.ret (Ends.many (.inr O) (.cons O O O (iL 44 68) (.cons O O O Zt .nil)) (by rw[hi.last hs (λh=>d6 hc45 ((VO hi.le).2 h))]<;>rfl) (show[(10,false),(11,true)].Nodup by decide))
 ·refine N0 6 [.y 40 _,.y 41 _,.x 42,.x 43,.x 44,.y 45 _] (V7 4 10 12 13 14 15 45) ⟨xM O,xM O,O5 O (bfalse hs),O5 O (bfalse hs),O5 O (bfalse hs),aU<|FQ O (bfalse hs) (kB false O),Zt⟩ ?_;refine Y7 O (O) ?_;refine W.exit (n5 3 (y1 55) (V2 10 55) ⟨xL O,Zt⟩ O (M9 O ⟨O,_,J9 (kB false O) O nU,tW (V2 10 11) (q47 13 12 10 8 5) 56 O ?_⟩));exact W.ret (Ends.many (.inr O) (.cons O O O (iL 44 68) (.cons O O O Zt .nil)) (by rw[hi.no (bfalse hs)]<;>rfl) (show[(10,false),(11,true)].Nodup by decide))
end
section
open Go.Proofs
theorem MN(t:TxS)(hwf:t.wf):Fn Tryz.prog gl 117 [r8 t] (.bool (N8 t)):=by
 refine Fo 5 Tryz.func117 O λC hC hD=>?_;refine n5 2 [] (V1 0) Zt O (⟨O,_,R.box (gV 0 O) O O nU,⟨O,_,J9 (kB false O) O nU,tW (V1 1) (B2 1) 5 O ?_⟩⟩);refine u4 3 (y3 3 4 2) (V1 2) ⟨xL O,zC hC (x34 t hwf) O (F1 (.bool _)),zA O,Zt⟩ ?_;exact W.ret (Eo O)
theorem CD(l:List BlkS)(hl:allBl l):Fn Tryz.prog gl 67 [.sl none 69 (l.map J7)] (.sl (some 137) 38 ((K6 l).map ZY)):=by
 refine Fo 46 Tryz.func67 O λC hC hD=>?_;have hl1:=hl.1;refine u4 1 (y1 2) (V1 0) ⟨i6 O,Zt⟩ ?_;refine u4 1 (y1 3) (V2 0 3) ⟨i6 O,Zt⟩ ?_;refine W.seq (u4 1 (y1 4) (V3 0 3 4) ⟨O3 0 O,Zt⟩ ?_);refine W.block ?_;refine O6 (s:=3) 137 38 O ?_;refine P2 l.length (λh=>⟨46,[(0,.sl none 69 (l.map J7)),(3,.sl (some 137) 38 ((O9 l h).map ZY)),(4,.int ((h:Nat):Int))],[]⟩) O λh hh=>?_;have hal:=z46 hl h hh;have hbl:h<l.length->l[h]!.txs.length<=1000:=λh=>(hl.get h).len;refine W.seq (u4 4 (y4 6 7 8 9) (V4 0 3 4 9) ⟨zV O,zV O,P8 O,zS O,Zt⟩ ?_);refine g7 O (λhc9=>?_) (λhc9=>?_)
 ·refine W.skip (W.seq (W.block (u4 1 (y1 5) (V4 0 3 4 5) ⟨O3 0 O,Zt⟩ ?_)));refine W.block ?_;refine P2 (l[h]!.txs.length) (λi=>⟨46,[(0,.sl none 69 (l.map J7)),(3,.sl (some 137) 38 ((O9 l h++S1 l[h]! h i).map ZY)),(4,.int ((h:Nat):Int)),(5,.int ((i:Nat):Int))],[]⟩) (by rw[S1,m4]) λi hi=>?_;have hbw:=hl.get (show h<l.length by omega);have hbl2:=hbw.len;refine W.seq (u4 8 (y8 12 13 14 15 16 17 18 19) (V5 0 3 4 5 19) ⟨zV O,zV O,zV O,zI h O,r7 O,zL O (mG l),P8 O,zS O,Zt⟩ ?_);refine g7 O (λhc19=>?_) (λhc19=>?_)
  ·refine W.skip (W.seq (W.block ?_));refine LS (m:=24) (an:=[0,0,0,0,0,24,56,120,0,504,1016,2040,0,0,12288,28672,61440,0,258048,520192,1048574,2097150,4194303,8388607]) hP dU O (its:=[.y 22 _,.y 23 _,.y 24 _,.y 25 _,.y 26 _,.y 27 _,.y 28 _,.y 29 _,.y 30 _,.y 31 _,.y 32 _,.y 33 _,.y 34 _,.y 35 _,.y 36 _,.y 37 _,.y 38 _,.y 39 _,.y 40 _,.y 41 _,.y 42 _,.y 43 _,.y 44 _,.y 3 _]) (ks:=[(22,3),(23,44),(23,22)]) (kk:=[(22,3),(23,44)]) (live:=[0,3,4,5]) (env':=[(0,_),(3,_),(4,_),(5,_)]) (⟨nU O,O,⟨aU λ_ _ H K=>R.al (K 3 _ O) H dU,xM O,xM O,xM O,xM O,aU λ_ _ H K=>R.idxN (h) (SC.sl (K 25 _ O)) (C4 (eU K 26 O)) O bU H dU,aU λ_ _ H K=>R.fdE (K 27 _ O) H dU,aU λ_ _ H K=>R.ldE (K 28 _ O) (SC.sl (K 25 _ O)) (b8 (l:=l) bU) O O O O H,xM O,aU λ_ _ H K=>R.idxN (i) (SC.sl (K 29 _ O)) (C4 (eU K 30 O)) O bU H dU,aU λ_ _ H K=>R.ldE (K 31 _ O) (SC.sl (K 29 _ O)) (b8 (l:=l[h]!.txs) bU) O O O O H,aU λ_ _ H K=>Z7 hC (FA l[h]!.txs[i]! (hbw.get (by omega))) (Bc (Bp (eU K 32 O) O O) Bn) (FrsR.one (X6 _)) H,xM O,xM O,aU λ_ _ H K=>R.idxN (h) (SC.sl (K 34 _ O)) (C4 (eU K 35 O)) O bU H dU,aU λ_ _ H K=>R.fdE (K 36 _ O) H dU,aU λ_ _ H K=>R.ldE (K 37 _ O) (SC.sl (K 34 _ O)) (b8 (l:=l) bU) O O O O H,xM O,aU λ_ _ H K=>R.idxN (i) (SC.sl (K 38 _ O)) (C4 (eU K 39 O)) O bU H dU,aU λ_ _ H K=>R.ldE (K 40 _ O) (SC.sl (K 38 _ O)) (b8 (l:=l[h]!.txs) bU) O O O O H,aU λ_ _ H K=>P5 (l:=[.int 0,.int 0,.arr 32 1 ((List.replicate 32 0).map D.u8),.agg [.u32 0,.nils,.nils,.u32 0]]) (l':=[_,_,_,_]) (.cons (eU K 23 O) (.cons (eU K 24 O) (.cons (eU K 33 O) (.cons (eU K 41 O) (.nil O))))) ⟨⟨_,(eU K 23 O),O,O,O⟩,⟨⟨_,(eU K 24 O),O,O,O⟩,⟨⟨_,(eU K 33 O),O,O,y22 O⟩,⟨⟨_,(eU K 41 O),O,O,O⟩,Zt⟩⟩⟩⟩ H,aU λ_ _ H K=>J3 (z:=38) (.cons (eU K 42 O) .nil) ⟨⟨O,O,O⟩,Zt⟩ O H dU,aU λ_ _ H K=>R0 (Or.inr (K 22 _ O)) (K 3 _ O) (SrcO.sc (SC.sl (K 43 _ O)) (G5 O)) (show _=((O9 l h++S1 l[h]! h (i+1)).map ZY) from(v52 _ _ _ _)) (by simp only[z6,q9,W4,j2,j3];omega) H dU dU,aU λ_ _ H K=>R.asgO (K 44 _ O) O H dU,Zt⟩,O,O,O⟩) O (bx':=[]) O (n':=46) O (tW [(0,_),(3,_),(4,_),(5,_)] [] 46 O ?_);refine n4 3 (y3 20 21 5) (V4 0 3 4 5) ⟨zV O,P1 1 O,zA O,Zt⟩ ?_;exact⟨bU,rfl⟩
  ·obtain rfl:i=l[h]!.txs.length:=by omega
   refine W.exit ?_;refine n4 3 (y3 10 11 4) (V3 0 3 4) ⟨zV O,P1 1 O,zA O,Zt⟩ ?_;exact⟨bU,(by rw[j69]<;>rfl)⟩
 ·obtain rfl:h=l.length:=by omega
  refine W.exit (P4 2 (y2 45 2) [(0,3),(1,45)] [(0,3),(1,45)] (V1 2) ⟨aU λ_ _ H K=>ZX (K 3 _ O) O H dU,aU<|zO O,Zt⟩ O (tU O ?_));exact W.ret (En O (by rw[K6]))
end
section
open Go.Proofs
theorem LG(l:List StS)(hl:allSt l)(before input:Nat)(p:Plc)(hb0:before<=1000000)(hn0:input<=1000000):Fn Tryz.prog gl 71 [.sl none 38 (l.map ZY),.int ((before:Nat):Int),.int ((input:Nat):Int),j1 p] (.bool (UT l before input p)):=by
 refine Fo 64 Tryz.func71 O λC hC hD=>?_;have hl1:=hl.1;refine n5 2 [] (V4 0 1 2 3) Zt O (⟨O,_,R.box (gV 3 O) O O nU,⟨O,_,J9 (kB false O) O nU,tW (V4 0 1 2 7) (B2 7) 64 O ?_⟩⟩);refine W.seq (u4 1 (y1 9) (V5 0 1 2 7 9) ⟨O3 0 O,Zt⟩ ?_);refine W.block ?_;refine W.loop (α:={q__:Nat//q__<=min (before+1) l.length/\∀ q<q__,HP l[q]!.t p (GF l before input q)=false}) (λq__=>⟨64,[(0,.sl none 38 (l.map ZY)),(1,.int ((before:Nat):Int)),(2,.int ((input:Nat):Int)),(7,.ptr 7 0 []),(9,.int ((q__.1:Nat):Int))],[(7,.var (j1 p))]⟩) (λq__=>l.length-q__.1) ⟨(0),⟨v6 _,λq hq=>absurd hq (g9 _)⟩⟩ O ?_;rintro ⟨i,⟨hi,hno⟩⟩;show W _ _ _ _ ⟨64,[(0,.sl none 38 (l.map ZY)),(1,.int ((before:Nat):Int)),(2,.int ((input:Nat):Int)),(7,.ptr 7 0 []),(9,.int ((i:Nat):Int))],[(7,.var (j1 p))]⟩;have hi:i<=min (before+1) l.length:=hi;have hno:∀ q<i,HP l[q]!.t p (GF l before input q)=false:=hno;refine W.seq (W.seq ?_);by_cases h1:i<=before
 ·refine N0 9 (y9 11 12 13 14 15 16 17 18 19) (V6 0 1 2 7 9 19) ⟨xM O,xM O,aU λ_ _ H K=>RZ (i) (before) (eU K 11 O) (eU K 12 O) H,xM O,aT O (dT h1)<|zV O,aT O (dT h1)<|zV O,aT O (dT h1)<|P8 O,aT O (dT h1)<|zS O,aU<|zT O (dT h1),Zt⟩ ?_;refine g7 O (λhc19=>?_) (λhc19=>?_)
  ·refine W.skip (W.seq (W.block (u4 1 (y1 10) (V6 0 1 2 7 9 10) ⟨O3 0 O,Zt⟩ ?_)));refine W.block ?_;refine UK (GF l before input i) (λq__=>∀ q<q__,(plc l[i]!.t.ins[q]! == p&&!N8 l[i]!.t)=false) (λk=>⟨64,[(0,.sl none 38 (l.map ZY)),(1,.int ((before:Nat):Int)),(2,.int ((input:Nat):Int)),(7,.ptr 7 0 []),(9,.int ((i:Nat):Int)),(10,.int ((k:Nat):Int))],[(7,.var (j1 p))]⟩) ⟨v6 _,λq hq=>absurd hq (g9 _)⟩ O λk hinv=>?_;obtain⟨hk,hnk⟩:=hinv;have hk:k<=GF l before input i:=hk;have hnk:∀ q<k,(plc l[i]!.t.ins[q]! == p&&!N8 l[i]!.t)=false:=hnk;have hiw:=hl.get (show i<l.length by omega);have hi1:=hiw.2.2.1
   have hfk:GF l before input i<=l[i]!.t.ins.length:=by unfold GF;split<;>omega
   refine W.seq (W.seq ?_);by_cases h2:k<l[i]!.t.ins.length
   ·by_cases h3:i<before
    ·refine N0 19 [.y 22 _,.y 23 _,.y 24 _,.y 25 _,.y 26 _,.y 27 _,.y 28 _,.y 29 _,.y 30 _,.y 31 _,.y 32 _,.y 33 _,.y 34 _,.y 35 _,.x 36,.x 37,.x 38,.y 39 _,.y 40 _] (V7 0 1 2 7 9 10 40) ⟨xM O,xM O,xM O,aU<|zI i O,aU<|r7 O,aU<|r7 O,aU<|zL O (mG l),aU<|P8 O,aU<|zS O,xM O,aT O (dT h2)<|zV O,aT O (dT h2)<|zV O,aT O (dT h2)<|zS O,aT O (dT h2)<|zV O,R3 O (dT h3),R3 O (dT h3),R3 O (dT h3),aT O (dT h2)<|EW O (dT h3) (kB true O),aU<|zT O (dT h2),Zt⟩ ?_;refine G6 O (O) ?_;refine W.skip (W.seq (W.block (W.seq ?_)));by_cases h4:plc l[i]!.t.ins[k]! = p
     ·have hkn:k<GF l before input i:=by rw[YT h3];exact h2
      refine KF 21 [0,0,3,7,15,31,0,127,255,511,0,2047,4095,8191,8191,32767,65535,131071,262143,524287,1048575] hP dU [.y 43 _,.y 44 _,.y 45 _,.y 46 _,.y 47 _,.y 48 _,.y 49 _,.y 50 _,.y 51 _,.y 52 _,.y 53 _,.y 54 _,.y 55 _,.y 56 _,.y 57 _,.y 58 _,.y 59 _,.y 60 _,.y 61 _,.y 62 _,.y 63 _] [] [] (V7 0 1 2 7 9 10 63) ⟨xM O,xM O,aU<|zI i O,aU<|r7 O,aU<|r7 O,aU<|zL O (mG l),xM O,aU<|zI k O,aU<|r7 O,aU<|zL O (b8 (l:=l[i]!.t.ins) bU),aU (xL O),aU λ_ _ H K=>R.eqD (neg:=false) (b':=(plc l[i]!.t.ins[k]! == p)) (ZH _ _) O (eU K 52 O) (eU K 53 O) O O O O (O) H,xM O,aT O (d5.2 h4)<|zV O,aT O (d5.2 h4)<|zV O,aT O (d5.2 h4)<|zI i O,aT O (d5.2 h4)<|r7 O,aT O (d5.2 h4)<|zL O (mG l),aT O (d5.2 h4)<|zC hC (MN l[i]!.t hiw.2.1) O (F1 (.bool _)),aT O (d5.2 h4)<|BH O,aU<|zT O (d5.2 h4),Zt⟩ O (tW (V7 0 1 2 7 9 10 63) (B2 7) 64 O ?_);refine W.cond O (λhc63=>?_) (λhc63=>?_)
      ·refine u4 1 (y1 8) (V1 8) ⟨i6 O,Zt⟩ ?_;exact W.ret (En O (by rw[z20 h1 bO hkn h4 hc63]))
      ·refine W.skip ?_;refine n4 3 (y3 41 42 10) (V6 0 1 2 7 9 10) ⟨zV O,P1 1 O,zA O,Zt⟩ ?_;exact⟨⟨by omega,λq hq=>(u7.1 hq).elim (hnk q) (λe=>e▸(by first|exact k40 h4|exact AS (by simpa using hc63)))⟩,rfl⟩
     ·have hkn:k<GF l before input i:=by rw[YT h3];exact h2
      refine KF 21 [0,0,3,7,15,31,0,127,255,511,0,2047,4095,8191,8191,32767,65535,131071,262143,524287,1048575] hP dU [.y 43 _,.y 44 _,.y 45 _,.y 46 _,.y 47 _,.y 48 _,.y 49 _,.y 50 _,.y 51 _,.y 52 _,.y 53 _,.y 54 _,.y 55 _,.x 56,.x 57,.x 58,.x 59,.x 60,.x 61,.x 62,.y 63 _] [] [] (V7 0 1 2 7 9 10 63) ⟨xM O,xM O,aU<|zI i O,aU<|r7 O,aU<|r7 O,aU<|zL O (mG l),xM O,aU<|zI k O,aU<|r7 O,aU<|zL O (b8 (l:=l[i]!.t.ins) bU),aU (xL O),aU λ_ _ H K=>R.eqD (neg:=false) (b':=(plc l[i]!.t.ins[k]! == p)) (ZH _ _) O (eU K 52 O) (eU K 53 O) O O O O (O) H,xM O,O5 O (v9.2 h4),O5 O (v9.2 h4),O5 O (v9.2 h4),O5 O (v9.2 h4),O5 O (v9.2 h4),O5 O (v9.2 h4),O5 O (v9.2 h4),aU<|FQ O (v9.2 h4) (kB false O),Zt⟩ O (tW (V7 0 1 2 7 9 10 63) (B2 7) 64 O ?_);refine Y7 O (O) ?_;refine W.skip ?_;refine n4 3 (y3 41 42 10) (V6 0 1 2 7 9 10) ⟨zV O,P1 1 O,zA O,Zt⟩ ?_;exact⟨⟨by omega,λq hq=>(u7.1 hq).elim (hnk q) (λe=>e▸(by first|exact k40 h4|exact AS (by simpa using hc63)))⟩,rfl⟩
    ·refine N0 19 (g78 22 23 24 25 26 27 28 29 30 31 32 33 34 35 36 37 38 39 40) (V7 0 1 2 7 9 10 40) ⟨xM O,xM O,xM O,aU<|zI i O,aU<|r7 O,aU<|r7 O,aU<|zL O (mG l),aU<|P8 O,aU<|zS O,xM O,aT O (dT h2)<|zV O,aT O (dT h2)<|zV O,aT O (dT h2)<|zS O,aT O (dT h2)<|zV O,aN O (dF h3)<|zV O,aN O (dF h3)<|zV O,aN O (dF h3)<|zS O,aT O (dT h2)<|zF O (dF h3),aU<|zT O (dT h2),Zt⟩ ?_;refine g7 O (λhc40=>?_) (λhc40=>?_)
     ·refine W.skip (W.seq (W.block (W.seq ?_)));by_cases h4:plc l[i]!.t.ins[k]! = p
      ·have hkn:k<GF l before input i:=by rw[BI h3];omega
       refine KF 21 [0,0,3,7,15,31,0,127,255,511,0,2047,4095,8191,8191,32767,65535,131071,262143,524287,1048575] hP dU [.y 43 _,.y 44 _,.y 45 _,.y 46 _,.y 47 _,.y 48 _,.y 49 _,.y 50 _,.y 51 _,.y 52 _,.y 53 _,.y 54 _,.y 55 _,.y 56 _,.y 57 _,.y 58 _,.y 59 _,.y 60 _,.y 61 _,.y 62 _,.y 63 _] [] [] (V7 0 1 2 7 9 10 63) ⟨xM O,xM O,aU<|zI i O,aU<|r7 O,aU<|r7 O,aU<|zL O (mG l),xM O,aU<|zI k O,aU<|r7 O,aU<|zL O (b8 (l:=l[i]!.t.ins) bU),aU (xL O),aU λ_ _ H K=>R.eqD (neg:=false) (b':=(plc l[i]!.t.ins[k]! == p)) (ZH _ _) O (eU K 52 O) (eU K 53 O) O O O O (O) H,xM O,aT O (d5.2 h4)<|zV O,aT O (d5.2 h4)<|zV O,aT O (d5.2 h4)<|zI i O,aT O (d5.2 h4)<|r7 O,aT O (d5.2 h4)<|zL O (mG l),aT O (d5.2 h4)<|zC hC (MN l[i]!.t hiw.2.1) O (F1 (.bool _)),aT O (d5.2 h4)<|BH O,aU<|zT O (d5.2 h4),Zt⟩ O (tW (V7 0 1 2 7 9 10 63) (B2 7) 64 O ?_);refine W.cond O (λhc63=>?_) (λhc63=>?_)
       ·refine u4 1 (y1 8) (V1 8) ⟨i6 O,Zt⟩ ?_;exact W.ret (En O (by rw[z20 h1 bO hkn h4 hc63]))
       ·refine W.skip ?_;refine n4 3 (y3 41 42 10) (V6 0 1 2 7 9 10) ⟨zV O,P1 1 O,zA O,Zt⟩ ?_;exact⟨⟨by omega,λq hq=>(u7.1 hq).elim (hnk q) (λe=>e▸(by first|exact k40 h4|exact AS (by simpa using hc63)))⟩,rfl⟩
      ·have hkn:k<GF l before input i:=by rw[BI h3];omega
       refine KF 21 [0,0,3,7,15,31,0,127,255,511,0,2047,4095,8191,8191,32767,65535,131071,262143,524287,1048575] hP dU [.y 43 _,.y 44 _,.y 45 _,.y 46 _,.y 47 _,.y 48 _,.y 49 _,.y 50 _,.y 51 _,.y 52 _,.y 53 _,.y 54 _,.y 55 _,.x 56,.x 57,.x 58,.x 59,.x 60,.x 61,.x 62,.y 63 _] [] [] (V7 0 1 2 7 9 10 63) ⟨xM O,xM O,aU<|zI i O,aU<|r7 O,aU<|r7 O,aU<|zL O (mG l),xM O,aU<|zI k O,aU<|r7 O,aU<|zL O (b8 (l:=l[i]!.t.ins) bU),aU (xL O),aU λ_ _ H K=>R.eqD (neg:=false) (b':=(plc l[i]!.t.ins[k]! == p)) (ZH _ _) O (eU K 52 O) (eU K 53 O) O O O O (O) H,xM O,O5 O (v9.2 h4),O5 O (v9.2 h4),O5 O (v9.2 h4),O5 O (v9.2 h4),O5 O (v9.2 h4),O5 O (v9.2 h4),O5 O (v9.2 h4),aU<|FQ O (v9.2 h4) (kB false O),Zt⟩ O (tW (V7 0 1 2 7 9 10 63) (B2 7) 64 O ?_);refine Y7 O (O) ?_;refine W.skip ?_;refine n4 3 (y3 41 42 10) (V6 0 1 2 7 9 10) ⟨zV O,P1 1 O,zA O,Zt⟩ ?_;exact⟨⟨by omega,λq hq=>(u7.1 hq).elim (hnk q) (λe=>e▸(by first|exact k40 h4|exact AS (by simpa using hc63)))⟩,rfl⟩
     ·refine W.exit ?_;refine n4 3 (y3 20 21 9) (V5 0 1 2 7 9) ⟨zV O,P1 1 O,zA O,Zt⟩ ?_;exact⟨⟨(i+1),⟨by omega,λq hq=>(u7.1 hq).elim (hno q) (λe=>e▸w79 (λq hq=>hnk q (by first|(rw[YT h3] at hq;omega)|(rw[BI h3] at hq;omega)|(by_cases h3:i<before;(rw[YT h3] at hq;omega);(rw[BI h3] at hq;omega)))))⟩⟩,rfl,(by show l.length-(i+1)<l.length-i;omega)⟩
   ·refine N0 19 [.y 22 _,.y 23 _,.y 24 _,.y 25 _,.y 26 _,.y 27 _,.y 28 _,.y 29 _,.y 30 _,.y 31 _,.x 32,.x 33,.x 34,.x 35,.x 36,.x 37,.x 38,.x 39,.y 40 _] (V7 0 1 2 7 9 10 40) ⟨xM O,xM O,xM O,aU<|zI i O,aU<|r7 O,aU<|r7 O,aU<|zL O (mG l),aU<|P8 O,aU<|zS O,xM O,O5 O (dF h2),O5 O (dF h2),O5 O (dF h2),O5 O (dF h2),⟨O,⟨_,35,O,O,.inr ⟨O,O⟩⟩,λh=>absurd h dU⟩,⟨O,⟨_,35,O,O,.inr ⟨O,O⟩⟩,λh=>absurd h dU⟩,⟨O,⟨_,35,O,O,.inr ⟨O,O⟩⟩,λh=>absurd h dU⟩,O5 O (dF h2),aU<|FQ O (dF h2) (kB false O),Zt⟩ ?_;refine Y7 O (O) ?_;refine W.exit ?_;refine n4 3 (y3 20 21 9) (V5 0 1 2 7 9) ⟨zV O,P1 1 O,zA O,Zt⟩ ?_;exact⟨⟨(i+1),⟨by omega,λq hq=>(u7.1 hq).elim (hno q) (λe=>e▸w79 (λq hq=>hnk q (by first|(rw[YT h3] at hq;omega)|(rw[BI h3] at hq;omega)|(by_cases h3:i<before;(rw[YT h3] at hq;omega);(rw[BI h3] at hq;omega)))))⟩⟩,rfl,(by show l.length-(i+1)<l.length-i;omega)⟩
  ·refine W.exit (u4 1 (y1 8) (V1 8) ⟨i6 O,Zt⟩ ?_);exact W.ret (En O (by rw[TP (λq hq=>hno q bO)]))
 ·refine N0 9 [.y 11 _,.y 12 _,.y 13 _,.y 14 _,.x 15,.x 16,.x 17,.x 18,.y 19 _] (V6 0 1 2 7 9 19) ⟨xM O,xM O,aU λ_ _ H K=>RZ (i) (before) (eU K 11 O) (eU K 12 O) H,xM O,O5 O (dF h1),O5 O (dF h1),O5 O (dF h1),O5 O (dF h1),aU<|FQ O (dF h1) (kB false O),Zt⟩ ?_;refine Y7 O (O) ?_;refine W.exit (u4 1 (y1 8) (V1 8) ⟨i6 O,Zt⟩ ?_);exact W.ret (En O (by rw[TP (λq hq=>hno q bO)]))
end
section
open Go.Proofs
theorem IL(k:UInt8):Fn Tryz.prog gl 64 [.u8 k] (.sl (some 5) 1 ((BN k).map D.u8)):=by
 refine Fn.of (n:=10) Tryz.func64 rfl rfl rfl (c8 rfl) λC hC hD=>?_;have hsl:=DO [115,k,0,0,0];refine W.seq ?_;refine OP (n:=1) (by decide) (its:=[⟨2,_,true⟩]) (ks:=[]) (kk:=[]) (live:=[0]) (env':=[(0,_)])
  (⟨c8 rfl,rfl,
   ⟨⟨rfl,rfl,λ_ τ hb ht hτ=>J9 (show ev _ _ (.const (.slice none 0 0))=some (.nils) from rfl) rfl ht⟩,
   trivial⟩,rfl,rfl,rfl⟩)
  rfl (bx':=[]) rfl (n':=10) rfl (⟨[0],[(0,_)],[],10,rfl,rfl,rfl, ?_⟩)
 refine W.seq ?_;refine OP (n:=5) (by decide) (its:=[⟨4,_,true⟩,⟨5,_,true⟩,⟨6,_,true⟩]) (ks:=[]) (kk:=[]) (live:=[6]) (env':=[(6,_)])
  (⟨c8 rfl,rfl,
   ⟨⟨rfl,rfl,λ_ τ hb ht hτ=>R.mov (evt (hτ 0 _ rfl)) rfl ht⟩,
   ⟨⟨rfl,rfl,λ_ τ hb ht hτ=>J3 (z:=1) (.cons (show ev _ _ (.const (.int .u8 115))=some (.u8 115) from rfl) (.cons (evt (hτ 4 _ rfl)) (.cons (show ev _ _ (.const (.int .u8 0))=some (.u8 0) from rfl) (.cons (show ev _ _ (.const (.int .u8 0))=some (.u8 0) from rfl) (.cons (show ev _ _ (.const (.int .u8 0))=some (.u8 0) from rfl) .nil))))) ⟨⟨rfl,rfl,rfl⟩,⟨⟨rfl,rfl,rfl⟩,⟨⟨rfl,rfl,rfl⟩,⟨⟨rfl,rfl,rfl⟩,⟨⟨rfl,rfl,rfl⟩,trivial⟩⟩⟩⟩⟩ rfl ht (by decide)⟩,
   ⟨⟨rfl,rfl,λ_ τ hb ht hτ=>Z7 hC (PP [115,k,0,0,0] (by simp)) (Bors.cons (Bor.sc (SC.sl (hτ 5 _ rfl)) rfl) Bors.nil) (FrsR.one (X6 _)) ht⟩,
   trivial⟩⟩⟩,rfl,rfl,rfl⟩)
  rfl (bx':=[]) rfl (n':=10) rfl (⟨rfl,_,R.alloc rfl (c8 rfl),⟨rfl,_,ZV (show Sg.get _ 3=some _ from rfl) (show Sg.box _ 3=some _ from rfl) rfl (evt (show Sg.get _ 6=some _ from rfl)) (by rfl) (by rfl) (by rfl) (by rfl) rfl,⟨[3],[(3,_)],[(3,.var _)],10,rfl,rfl,rfl, ?_⟩⟩⟩)
 refine W.seq ?_;refine OP (n:=4) (by decide) (its:=[⟨7,_,true⟩,⟨8,_,true⟩,⟨9,_,true⟩,⟨2,_,true⟩]) (ks:=[(2,7),(3,9)]) (kk:=[(2,7),(3,9)]) (live:=[2]) (env':=[(2,_)])
  (⟨c8 rfl,rfl,
   ⟨⟨rfl,rfl,λ_ τ hb ht hτ=>J3 (z:=1) (.cons (show ev _ _ (.const (.int .u8 0))=some (.u8 0) from rfl) (.cons (show ev _ _ (.const (.int .u8 20))=some (.u8 20) from rfl) .nil)) ⟨⟨rfl,rfl,rfl⟩,⟨⟨rfl,rfl,rfl⟩,trivial⟩⟩ rfl ht (by decide)⟩,
   ⟨⟨rfl,rfl,λ_ τ hb ht hτ=>QO (0) (20) (20) (hτ 3 _ rfl) (hb 3 _ rfl) rfl rfl (C4 (show ev _ _ (.const (.int .i64 20))=some (.int ((20:Nat):Int)) from rfl)) rfl rfl (by first|omega|(simp only[z6,q9,j2,j3,v8,c5,p7];omega)|(simp;omega)) (by first|omega|(simp only[z6,q9,j2,j3,v8,c5,p7];omega)|(simp;omega)) rfl ht⟩,
   ⟨⟨rfl,rfl,λ_ τ hb ht hτ=>R0 (Or.inl rfl) (hτ 7 _ rfl) (SrcO.sc (SC.va (hτ 8 _ rfl) (hb 3 _ rfl) rfl (by first|omega|(simp only[z6,q9,j2,j3,v8,c5,p7];omega)|(simp;omega))) (QT (λ_=>rfl))) (show _=((BN k).map D.u8) from(by rw[BN,d8,U6];rfl)) (by first|omega|(simp only[z6,q9,j2,j3,v8,c5,p7];omega)|(simp;omega)) ht (by decide) (by decide)⟩,
   ⟨⟨rfl,rfl,λ_ τ hb ht hτ=>R.asgO (hτ 9 _ rfl) rfl ht (by decide)⟩,
   trivial⟩⟩⟩⟩,rfl,rfl,rfl⟩)
  rfl (bx':=[(3,.var _)]) rfl (n':=10) rfl (⟨[2],[(2,_)],[(3,.var _)],10,rfl,rfl,rfl, ?_⟩)
 refine W.ret ?_;exact Ends.one' (.inr rfl) rfl (rfl) rfl rfl trivial
end
section
open Go.Proofs
theorem j95(l:List BlkS)(hl:allBl l):Fn Tryz.prog gl 72 [.sl none 69 (l.map J7)] (.tup [.sl (some 109) 33 ((YE l).map PF),.sl (some 60) 1 ((YE l).map NX)]):=by
 refine Fo 62 Tryz.func72 O λC hC hD=>?_;have hsa:=JJ hl;have hal:=hsa.1;refine u4 2 (y2 2 3) (V1 0) ⟨i6 O,i6 O,Zt⟩ ?_;refine P4 3 (y3 10 11 4) [(2,11)] [(2,11)] (V1 4) ⟨xM O,aU λ_ _ H K=>l7 hC (CD l hl) (EvP.cons (eU K 10 O) O O EvP.nil) H,aU<|zO O,Zt⟩ O (tU O ?_);refine W.seq ?_;refine CB (s:=4) (d':=.sl none 38 ((K6 l).map ZY)) O O (MA _ _ _) ?_;refine n4 1 (y1 5) (V2 4 5) ⟨i6 O,Zt⟩ ?_;refine u4 1 (y1 6) (V3 4 5 6) ⟨i6 O,Zt⟩ ?_;refine W.seq (u4 1 (y1 7) (V4 4 5 6 7) ⟨O3 0 O,Zt⟩ ?_);refine W.block ?_;refine O6 (s:=5) 109 33 O ?_;refine O6 (s:=6) 60 1 O ?_;refine P2 ((K6 l).length) (λi=>⟨62,[(4,.sl none 38 ((K6 l).map ZY)),(5,.sl (some 109) 33 ((PJ (K6 l) i).map PF)),(6,.sl (some 60) 1 ((PJ (K6 l) i).map NX)),(7,.int ((i:Nat):Int))],[]⟩) O λi hi=>?_;have htl:=q55 hsa i hi;have hsm:i<(K6 l).length->(K6 l)[i]!.t.outs.length<=1000:=λh=>(hsa.get h).2.2.2;refine W.seq (u4 4 (y4 12 13 14 15) (V5 4 5 6 7 15) ⟨zV O,zV O,P8 O,zS O,Zt⟩ ?_);refine g7 O (λhc15=>?_) (λhc15=>?_)
 ·refine W.skip (W.seq (W.block (u4 1 (y1 8) (V5 4 5 6 7 8) ⟨O3 0 O,Zt⟩ ?_)));refine W.block ?_;refine P2 ((K6 l)[i]!.t.outs.length) (λk=>⟨62,[(4,.sl none 38 ((K6 l).map ZY)),(5,.sl (some 109) 33 ((PJ (K6 l) i++XU (K6 l) i k).map PF)),(6,.sl (some 60) 1 ((PJ (K6 l) i++XU (K6 l) i k).map NX)),(7,.int ((i:Nat):Int)),(8,.int ((k:Nat):Int))],[]⟩) (by rw[y07,m4]) λk hk=>?_;have hkl:=q54 (K6 l) i k;refine W.seq (u4 9 (y9 18 19 20 21 22 23 24 25 26) (V6 4 5 6 7 8 26) ⟨zV O,zV O,zV O,zI i O,r7 O,r7 O,zL O (mG (K6 l)),P8 O,zS O,Zt⟩ ?_);refine g7 O (λhc26=>?_) (λhc26=>?_)
  ·refine W.skip (W.seq (W.block (n5 10 (y8 29 30 31 32 33 34 35 36) (V6 4 5 6 7 8 36) ⟨zV O,zV O,zI i O,r7 O,zL O (mG (K6 l)),zV O,λ_ _ H K=>W5 (d:=.u32 (UInt32.ofInt ((k:Nat):Int))) (eU K 34 O) O (O) H,λ_ _ H K=>P5 (l:=[.arr 32 1 ((List.replicate 32 0).map D.u8),.u32 0]) (l':=[_,_]) (.cons (eU K 33 O) (.cons (eU K 35 O) (.nil O))) ⟨⟨_,(eU K 33 O),O,O,y22 O⟩,⟨⟨_,(eU K 35 O),O,O,O⟩,Zt⟩⟩ H,Zt⟩ O (I9 O (M9 O (tW (V6 4 5 6 7 8 9) (B2 9) 62 O ?_))))));refine u4 6 (y6 37 38 39 40 41 42) (V7 4 5 6 7 8 9 42) ⟨zV O,zV O,P8 O,xL O,λ_ _ H K=>Z7 hC (LG (K6 l) hsa (K6 l).length 0 ((K6 l)[i]!.id,UInt32.ofInt ((k:Nat):Int)) bO dU) (Bc (Bp (eU K 37 O) O O) (Bc (Bp (eU K 39 O) O O) (Bc (Bp (kI 0 O) O O) (Bc (Bp (eU K 40 O) O O) Bn)))) (F1 (.bool _)) H,BH O,Zt⟩ ?_;refine W.cond O (λhc42=>?_) (λhc42=>?_)
   ·refine P4 5 (y5 43 44 45 46 5) [(3,5),(4,46),(4,43)] [(3,5),(4,46)] (V5 4 5 6 7 8) ⟨aU<|zM O,aU (xL O),aU λ_ _ H K=>J3 (z:=33) (.cons (eU K 44 O) .nil) ⟨⟨O,O,O⟩,Zt⟩ O H dU,aU<|YC O (G5 O) (show _=((PJ (K6 l) i++XU (K6 l) i (k+1)).map PF) from(g30 (by simpa using hc42))) (by simp only[z6,q9,j2,j3];omega),aU<|zO O,Zt⟩ O (tU O ?_);refine H6 [] (bx':=[]) O O O (o8 hD O) ?_;refine UZ 14 (z53 47 48 49 50 51 52 53 54 55 56 57 58 59 6) [(12,6),(13,59),(13,47)] [(12,6),(13,59)] (V5 4 5 6 7 8) ⟨aU<|zM O,xM O,xM O,aU<|zI i O,aU<|r7 O,aU<|r7 O,aU<|zL O (mG (K6 l)),xM O,aU<|zI k O,aU<|r7 O,aU<|zL O (b8 (l:=((K6 l))[i]!.t.outs) bU),aU λ_ _ H K=>J3 (z:=1) (.cons (eU K 57 O) .nil) ⟨⟨O,O,O⟩,Zt⟩ O H dU,aU<|YC O (G5 O) (show _=((PJ (K6 l) i++XU (K6 l) i (k+1)).map NX) from(g29 (by simpa using hc42))) (by simp only[z6,q9,j2,j3];omega),aU<|zO O,Zt⟩ O (tU O ?_);refine n4 3 (y3 27 28 8) (V5 4 5 6 7 8) ⟨zV O,P1 1 O,zA O,Zt⟩ ?_;exact⟨bU,(by first|rfl|(rw[j93 (by simpa using hc42)]<;>rfl))⟩
   ·refine W.skip ?_;refine E9 (V5 4 5 6 7 8) (B2 9) 62 O ?_;refine H6 [] (bx':=[]) O O O (o8 hD O) ?_;refine n4 3 (y3 27 28 8) (V5 4 5 6 7 8) ⟨zV O,P1 1 O,zA O,Zt⟩ ?_;exact⟨bU,(by first|rfl|(rw[j93 (by simpa using hc42)]<;>rfl))⟩
  ·obtain rfl:k=(K6 l)[i]!.t.outs.length:=by omega
   refine W.exit ?_;refine n4 3 (y3 16 17 7) (V4 4 5 6 7) ⟨zV O,P1 1 O,zA O,Zt⟩ ?_;exact⟨bU,(by rw[j02]<;>rfl)⟩
 ·obtain rfl:i=(K6 l).length:=by omega
  refine W.exit (P4 4 (y4 60 61 2 3) [(0,5),(1,6),(2,60),(3,61)] [(0,5),(1,6),(2,60),(3,61)] (V2 2 3) ⟨aU λ_ _ H K=>ZX (K 5 _ O) O H dU,aU λ_ _ H K=>ZX (K 6 _ O) O H dU,aU<|zO O,aU<|zO O,Zt⟩ O (tU O ?_));exact W.ret (Ends.many (.inr O) (.cons O O O Zt (.cons O O O Zt .nil)) (by rw[YE]) (show[(2,true),(3,true)].Nodup by decide))
end
theorem II(k:UInt8):(BN k).length=22:=by
 unfold BN;rw[q9,v8,DO];rfl
structure TxS.sm(t:TxS):Prop where
 ins:t.ins.length<=8
 outs:t.outs.length<=8
 hash:∀ x∈t.ins,x.tx.length=32
 scr:∀ x∈t.ins,x.script.length<=100
 oscr:∀ x∈t.outs,x.script.length<=100
 wit:∀ x∈t.ins,x.wit.length<=8
 witi:∀ x∈t.ins,∀ b∈x.wit,b.length<=100
theorem v13{l:List InS}(h1:∀ x∈l,x.tx.length=32)(h2:∀ x∈l,x.script.length<=100)(i:Nat)(hi:i<=l.length):(KG l i).length<=200*i:=by
 induction i with
 | zero=>exact z5 _
 | succ i ih=>
  have:=ih (by omega);have h3:=h1 _ (X0 (show i<l.length by omega));have h4:=h2 _ (X0 (show i<l.length by omega));have h5:=QP l[i]!.script;simp only[KG,inS,q9,K0];omega
theorem x71{l:List OutS}(h2:∀ x∈l,x.script.length<=100)(i:Nat)(hi:i<=l.length):(ZC l i).length<=200*i:=by
 induction i with
 | zero=>exact z5 _
 | succ i ih=>
  have:=ih (by omega);have h4:=h2 _ (X0 (show i<l.length by omega));have h5:=QP l[i]!.script;simp only[ZC,FW,q9,K0];omega
theorem k18{l:List (List UInt8)}(h2:∀ x∈l,x.length<=100)(i:Nat)(hi:i<=l.length):(UP l i).length<=200*i:=by
 induction i with
 | zero=>exact z5 _
 | succ i ih=>
  have:=ih (by omega);have h4:=h2 _ (X0 (show i<l.length by omega));have h5:=QP l[i]!;simp only[UP,q9];omega
theorem j84{l:List InS}(h1:∀ x∈l,x.wit.length<=8)(h2:∀ x∈l,∀ b∈x.wit,b.length<=100)(i:Nat)(hi:i<=l.length):(ZO l i).length<=2000*i:=by
 induction i with
 | zero=>exact z5 _
 | succ i ih=>
  have:=ih (by omega);have hm:=X0 (show i<l.length by omega);have h3:=h1 _ hm;have h4:=k18 (h2 _ hm) _ (z5 _);have h5:=I7 l[i]!.wit.length;simp only[ZO,q9];omega
theorem TxS.sm.wf{t:TxS}(h:t.sm):t.wf where
 ins:=v5 h.ins (by decide)
 outs:=v5 h.outs (by decide)
 hash:=h.hash
 scr:=λx hx=>v5 (h.scr x hx) (by decide)
 oscr:=λx hx=>v5 (h.oscr x hx) (by decide)
 insb:=λi hi=>by
  have:=v13 h.hash h.scr i hi;have:=h.ins;omega
 outsb:=λi hi=>by
  have:=x71 h.oscr i hi;have:=h.outs;omega
 witsb:=λi hi=>by
  have:=j84 h.wit h.witi i hi;have:=h.ins;omega
 witl:=λx hx=>⟨v5 (h.wit x hx) (by decide),λi hi=>by
  have:=k18 (h.witi x hx) i hi;have:=h.wit x hx
  omega⟩
 witi:=λx hx b hb=>v5 (h.witi x hx b hb) (by decide)
theorem TxS.sm.le{t:TxS}(h:t.sm):t.ins.length<=1000/\t.outs.length<=1000:=⟨v5 h.ins (by decide),v5 h.outs (by decide)⟩
theorem GW:zero32.length=32:=rfl
theorem x97(n:Nat)(x:PlS)(mark:UInt32):(k48 n x mark).sm where
 ins:=(by decide:1<=8)
 outs:=(by decide:1<=8)
 hash:=λy hy=>by rw[g8.1 hy];exact GW
 scr:=λy hy=>by rw[g8.1 hy];exact(by decide:3<=100)
 oscr:=λy hy=>by
  rw[g8.1 hy];show(BN _).length<=100;rw[II];decide
 wit:=λy hy=>by rw[g8.1 hy];exact(by decide:0<=8)
 witi:=λy hy b hb=>by rw[g8.1 hy] at hb;cases hb
theorem y06{l:List StS}{i:Nat}(hi:l[i]!.id.length=32)(k:Nat):∀ x∈XU l i k,x.1.1.length=32:=by
 induction k with
 | zero=>intro x hx;cases hx
 | succ k ih=>
  intro x hx;rw[XU] at hx;split at hx
  ·exact ih x hx
  ·rcases p9.1 hx with h|h
   ·exact ih x h
   ·rw[g8.1 h];exact hi
theorem y08{l:List StS}(hl:allSt l)(i:Nat)(hi:i<=l.length):∀ x∈PJ l i,x.1.1.length=32:=by
 induction i with
 | zero=>intro x hx;cases hx
 | succ i ih=>
  intro x hx
  rcases p9.1 hx with h|h
  ·exact ih (by omega) x h
  ·exact y06 (hl.get (by omega)).1 _ x h
theorem y05{l:List BlkS}(hl:allBl l):∀ x∈YE l,x.1.1.length=32:=y08 (JJ hl) _ (z5 _)
theorem j92{l:List BlkS}(hl:allBl l):(YE l).length<=100000000:=by
 have h1:=q55 (JJ hl) _ (z5 _);have h2:=(JJ hl).1;unfold YE;omega
theorem j03(s:SpS)(av:List (Plc×UInt64)):(YP s av).length<=2:=by
 unfold YP;dsimp only;split
 ·exact(by decide:2<=2)
 ·exact(by decide:1<=2)
theorem y24{s:SpS}{av:List (Plc×UInt64)}{mark:UInt32}(h0:¬ av.length=0)(hav:∀ x∈av,x.1.1.length=32):(g33 s av mark).sm:=by
 have hk:s.from_.toNat%av.length<av.length:=G8 _ (by omega)
 have key:∀ x∈YP s av,x.tx.length=32/\x.script.length<=100/\x.wit.length<=8/\∀ b∈x.wit,b.length<=100:=by
  intro x hx;unfold YP at hx;dsimp only at hx;split at hx
  ·rename_i h2
   rcases w8.1 hx with rfl|hx
   ·exact⟨hav _ (X0 hk),v6 _,v6 _,λb hb=>by cases hb⟩
   ·rw[g8.1 hx];refine⟨hav _ (X0 h2.2),(by decide:1<=100),(by decide:2<=8),λb hb=>?_⟩
    rcases w8.1 hb with rfl|hb
    ·exact(by decide:1<=100)
    ·rw[g8.1 hb];exact v6 _
  ·rw[g8.1 hx];exact⟨hav _ (X0 hk),v6 _,v6 _,λb hb=>by cases hb⟩
 refine { ins:=v5 (j03 s av) (by decide),outs:=?_,hash:=λx hx=>(key x hx).1,scr:=λx hx=>(key x hx).2.1,oscr:=λx hx=>?_,wit:=λx hx=>(key x hx).2.2.1,witi:=λx hx=>(key x hx).2.2.2 }
 ·show(KI s (YB s av) (min s.to.length 4)).length<=8;unfold KI;rw[z6,Y3];omega
 ·obtain⟨j,_,rfl⟩:=Q5.1 hx;show(BN _).length<=100;rw[II];decide
theorem y26{s:SpS}{av:List (Plc×UInt64)}{mark:UInt32}(hav:∀ x∈av,x.1.1.length=32)(h:(RD s av mark).2=true):(RD s av mark).1.sm:=by
 unfold RD at h ⊢
 cases hn:VS s av with
 | true=>rw[hn] at h;cases h
 | false=>
  refine y24 (λh0=>?_) hav;unfold VS at hn;rw[D3 h0] at hn;cases hn
theorem z38{txs:List TxS}{h:HdS}(hh:h.wf)(ht:∀ t∈txs,t.sm)(hl:txs.length<=1000):BlkS.wf ⟨h,txs⟩ where
 hd:=hh
 txs:=λt h=>(ht t h).wf
 sm:=λt h=>(ht t h).le
 len:=hl
theorem q48:zeroH.wf:=⟨GW,GW⟩
theorem OC{l:List BlkS}{b:BlkS}(h:allBl l)(hl:l.length<=99)(hb:b.wf):allBl (l++[b]):=
 ⟨by rw[q9,n7];omega,λx hx=>by
  rcases p9.1 hx with h1|h1
  ·exact h.2 x h1
  ·rw[g8.1 h1];exact hb⟩
theorem w40{l:List BlkS}(hl:allBl l)(h99:l.length<=99)(x:PlS)(mark:UInt32)(i:Nat)(hi:i<=6):(∀ t∈GE l x mark i,t.sm)/\1<=(GE l x mark i).length/\(GE l x mark i).length<=i+1:=by
 induction i with
 | zero=>exact⟨λt ht=>by rw[GE,g8] at ht;rw[ht];exact x97 _ _ _,z5 _,z5 _⟩
 | succ i ih=>
  obtain⟨h1,h2,h3⟩:=ih (by omega);have hb:=OC hl h99 (z38 q48 h1 (by omega));rw[GE];split
  ·rename_i h4;refine⟨λt ht=>?_,by rw[q9];omega,by rw[q9,n7];omega⟩
   rcases p9.1 ht with h5|h5
   ·exact h1 t h5
   ·rw[g8.1 h5];exact y26 (y05 hb) h4
  ·exact⟨h1,h2,by omega⟩
theorem EH{l:List BlkS}(hl:allBl l)(h99:l.length<=99)(x:PlS)(mark:UInt32):(∀ t∈YH l x mark,t.sm)/\1<=(YH l x mark).length/\(YH l x mark).length<=7:=by
 obtain⟨h1,h2,h3⟩:=w40 hl h99 x mark (min x.spends.length 6) (l3 _ _);exact⟨h1,h2,by show(GE l x mark _).length<=7;omega⟩
theorem ND{J:Hs->Hs->Hs}(hJ:∀ a b,(J a b).length=32){l:List Hs}(hl:allH l):(KS J l).length=32:=by
 unfold KS
 cases hk:W2 l.length with
 | zero=>exact GW
 | succ k=>exact(PO hJ hl k).get (q71 J l k (by omega))
theorem HC(l:List TxS):allH (l.map ZM):=λh hh=>by
 obtain⟨t,_,rfl⟩:=Q5.1 hh;exact q73 t
theorem w41(l:List BlkS)(x:PlS)(mark:UInt32):(h04 l x mark).1.wf:=x98 _ _ _ (ND CS (HC _))
theorem w39{l:List BlkS}(hl:allBl l)(h99:l.length<=99)(x:PlS)(mark:UInt32):(ZL l x mark).1.wf:=by
 obtain⟨h1,h2,h3⟩:=EH hl h99 x mark;exact z38 (w41 l x mark) h1 (by omega)
theorem ML(ps:List PlS)(i:Nat)(hi:i<=14):allBl (f9 ps i)/\1<=(f9 ps i).length/\(f9 ps i).length<=i+1:=by
 induction i with
 | zero=>
  refine⟨⟨(by decide:1<=100),λb hb=>?_⟩,z5 _,z5 _⟩;rw[f9,g8] at hb;rw[hb];exact z38 ⟨rfl,rfl⟩ (λt h=>by cases h) (v6 _)
 | succ i ih=>
  obtain⟨h1,h2,h3⟩:=ih (by omega);rw[f9];split
  ·refine⟨OC h1 (by omega) (w39 h1 (by omega) _ _),by rw[q9];omega,by rw[q9,n7];omega⟩
  ·exact⟨h1,h2,by omega⟩
theorem MF(ps:List PlS):allBl (BJ ps)/\1<=(BJ ps).length/\(BJ ps).length<=15:=by
 obtain⟨h1,h2,h3⟩:=ML ps (min ps.length 14) (l3 _ _);exact⟨h1,h2,by show(f9 ps _).length<=15;omega⟩
section
variable{P:Program}{C:Ctx}{σ σ' σ1:Sg}{a:Act}{w w':World}{ρ:Nat->Nat}{Fe Fe' Fb:Nat->List Nat}
theorem u26{G L:Nat->Prop}{n:UInt64}{v:Value}{F:List Nat}(h:VR w ρ G L (.u64 n) v F):v=.int .u64 n.toNat:=by
 simp only[VR,D.isAgg,q7,q8] at h;cases h;rfl
theorem R.minU{x y:Operand}{t:Nat}{m n:UInt64}{ta tb rt:TypeId}{pos:String}{aft:Array Edge}{g:Option (Nat×Bool)}(hx:ev C.gl σ x=some (.u64 m))(hy:ev C.gl σ y=some (.u64 n))(ht:t<σ.n) :
 OpS P C ⟨some t,.call { callee:=.builtin .min,args:=#[x,y],argTypes:=#[ta,tb] },rt,pos,aft,g⟩ σ (σ.set t (.u64 (if n<m then n else m))):=by
 refine OpS.value λa w ⟨ρ,Fe,Fb,st⟩=>?_;obtain⟨_,hvx,_⟩:=B9 st hx rfl;obtain⟨_,hvy,_⟩:=B9 st hy rfl;have hvx:=u26 hvx;have hvy:=u26 hvy;refine⟨.int .u64 (if n<m then n else m).toNat,w, ?_,st.put ht rfl (by simp only[VR,D.isAgg,q7,q8];exact .u64 _)⟩;unfold execOp;simp[hvx,hvy,resolve,invoke,builtin,Builtin.min_,Builtin.min2];by_cases h:n<m
 ·rw[j7 h,j7 (X5.1 h)]
 ·rw[z8 h,z8 (λh3=>h (X5.2 h3))]
theorem StW.takeX{S:List Nat}{t:Nat}{d:D}{v:Value}{F:List Nat}(h:StW C σ a w ρ Fe Fb)(ht:t<σ.n)(hst:t∉S)(hS:∀ s∈S,∃ d0,σ.get s=some d0)
 (hw:Ext w w') (hF:F.Nodup) (hFs:∀ b∈F,(∃ s∈S,b∈Fe s)∨w.heap.size<=b)
 (hv:SR w' ρ (gd C (upd (λu=>if u∈S then[] else Fe u) t F) Fb) (λid=>(σ.box id).isSome) (a.put (some t) v) t d F) :
 StW C ((l6 σ S).set t d) (a.put (some t) v) w' ρ (upd (λu=>if u∈S then[] else Fe u) t F) Fb:=by
 have hsz:t<a.tmps.size:=by rw[h.size];exact ht
 let Fx:Nat->List Nat:=upd (λu=>if u∈S then[] else Fe u) t F
 have hFx:∀ u,u≠t->∀ b∈Fx u,b∈Fe u/\u∉S:=λu hut b hb=>by
  simp only[Fx,j6 hut] at hb;by_cases hus:u∈S
  ·simp[hus] at hb
  ·simp only[hus,q8] at hb;exact⟨hb,hus⟩
 have hFt:Fx t=F:=by simp[Fx]
 have hlt:=h.lt;have hh:∀ b,b<w.heap.size->w'.heap[b]? = w.heap[b]?:=hw.block
 have ho:∀ b,own Fx Fb b->own Fe Fb b∨w.heap.size<=b:=by
  rintro b (⟨u,hu⟩|hid)
  ·by_cases hut:u=t
   ·subst hut;rw[hFt] at hu
    rcases hFs b hu with ⟨s,_,hs⟩|hn
    ·exact .inl (.inl ⟨s,hs⟩)
    ·exact .inr hn
   ·exact .inl (.inl ⟨u,(hFx u hut b hu).1⟩)
  ·exact .inl (.inr hid)
 have hg:∀ b,gd C Fe Fb b->b<w.heap.size->gd C Fx Fb b:=λb hb hbl=>⟨hb.1,λhc=>(ho b hc).elim hb.2 (λh2=>by omega)⟩
 obtain⟨hn,hbx⟩:=EU S σ
 have hbox:∀ id,((l6 σ S).set t d).box id=σ.box id:=λid=>by
  show lk (l6 σ S).bx id=_;rw[hbx];rfl
 have hLf:(λid=>(((l6 σ S).set t d).box id).isSome=true)=λid=>(σ.box id).isSome=true:=by funext id;rw[hbox]
 have hnotF:∀ u,u≠t->∀ b∈Fx u,b∉F:=λu hut b hb hbF=>by
  obtain⟨h1,h2⟩:=hFx u hut b hb
  rcases hFs b hbF with ⟨s,hs,h3⟩|hn
  ·exact h.dEE u s (λe=>h2 (e▸hs)) b h1 h3
  ·have:=hlt b (.inl ⟨u,h1⟩);omega
 refine {
  size:=?_
  defs:=h.defs
  pin:=λid b hp=>by rw[hbox];exact h.pin id b hp
  env:=λu x hx=>?_
  envN:=λu hu=>?_
  bx:=λid x hx=>by rw[hLf];exact(h.bx id x (by rw[<- hbox];exact hx)).mono (λb _ hb=>hh b hb) hg (λi hi=>⟨hi,rfl⟩)
  bxN:=λid hx=>h.bxN id (by rw[<- hbox];exact hx)
  nodE:=λu=>?_
  nodB:=h.nodB
  dEE:=λu u' huu b hb hb'=>?_
  dEB:=λu id b hb hb'=>?_
  dBB:=h.dBB
  new:=λb hb=>?_
  kept:=λb hb=>?_
  os:=hw.os.trans h.os
  tape:=hw.tape.trans h.tape
  output:=hw.output.trans h.output
  grown:=v5 h.grown hw.size
  gl:=h.gl
  okN:=λb hb=>h.okN b (v5 hw.size hb)
  okO:=λb hb=>(ho b hb).elim (h.okO b) (h.okN b) }
 ·simp[Act.put,h.size,hn]
 ·rw[hLf];rw[E2] at hx;by_cases hut:u=t
  ·subst hut;simp at hx;subst hx;simp only[m7];exact hv
  ·simp only[hut,q8] at hx;obtain⟨d1,hd1,rfl⟩:=Q3.1 hx;rw[JN] at hd1;by_cases hus:u∈S
   ·simp only[hus,w5,z9] at hd1;subst hd1;obtain⟨d0,hd0⟩:=hS u hus;obtain⟨v0,hv0⟩:=(h.env u d0 hd0).there;refine⟨by simp[j6 hut,hus],v0,by rw[U7 a t v u hsz];simp[hut,hv0]⟩
   ·simp only[hus,q8] at hd1
    have hFu:upd (λu=>if u∈S then[] else Fe u) t F u=Fe u:=by simp[j6 hut,hus]
    rw[hFu];exact YJ hut hsz (h.env u d1 hd1) (λb _ hb=>hh b hb) hg (λid hid=>⟨hid,rfl⟩) (λid off v _ hc=>hw.cell hc)
 ·rw[E2] at hu;by_cases hut:u=t
  ·simp[hut] at hu
  ·simp only[hut,q8,Z0] at hu;rw[JN] at hu;by_cases hus:u∈S
   ·simp[hus] at hu
   ·simp only[hus,q8] at hu;simp[j6 hut,hus,h.envN u hu]
 ·by_cases hut:u=t
  ·subst hut;simpa using hF
  ·simp only[j6 hut];split
   ·exact u5
   ·exact h.nodE u
 ·by_cases hut:u=t
  ·subst hut
   have hb1:b∈F:=by rw[<- hFt];exact hb
   exact hnotF u' (λe=>huu e.symm) b hb' hb1
  ·by_cases hut':u'=t
   ·subst hut'
    have hb1:b∈F:=by rw[<- hFt];exact hb'
    exact hnotF u hut b hb hb1
   ·exact h.dEE u u' huu b (hFx u hut b hb).1 (hFx u' hut' b hb').1
 ·by_cases hut:u=t
  ·subst hut
   have hb1:b∈F:=by rw[<- hFt];exact hb
   rcases hFs b hb1 with ⟨s,_,hs⟩|hn
   ·exact h.dEB s id b hs hb'
   ·have:=hlt b (.inr ⟨id,hb'⟩);omega
  ·exact h.dEB u id b (hFx u hut b hb).1 hb'
 ·rcases ho b hb with h1|h1
  ·exact h.new b h1
  ·intro hk;have h2:=(h.kept b hk).2;have h3:=h.grown;omega
 ·obtain⟨h1,h2⟩:=h.kept b hb;exact⟨(hh b (u9 h2 h.grown)).trans h1,h2⟩
theorem j54{z i0:Nat}{cs:Array Value}{v:Value}{xc:List Value}(hxc:v.cells.toList=xc)(hl:xc.length=z)(hk:i0*z+z<=cs.size) :
 ∃ cs2:Array Value,(∀ rest,Instr.fill (λi=>some (i*z,z)) cs ((i0,v)::rest)=Instr.fill (λi=>some (i*z,z)) cs2 rest)/\cs2.size=cs.size/\(cs2.toList.drop (i0*z)).take z=xc/\cs2.toList.take (i0*z)=cs.toList.take (i0*z):=by
 have hsz:v.cells.size=z:=by rw[<- n8,hxc,hl]
 have hfold:=UY cs xc (i0*z) 0 (by omega);simp only[X7] at hfold
 have hcs2:(v.cells.zipIdx.foldl (λ(c:Array Value) (p:Value×Nat)=>c.setIfInBounds (i0*z+p.2) p.1) cs).toList=cs.toList.take (i0*z)++xc++cs.toList.drop (i0*z+xc.length):=by
  rw[<- hfold,<- hxc,<- N2];simp
 generalize hc2:(v.cells.zipIdx.foldl (λ(c:Array Value) (p:Value×Nat)=>c.setIfInBounds (i0*z+p.2) p.1) cs)=cs2 at hcs2;refine⟨cs2,λrest=>?_, ?_, ?_, ?_⟩
 ·simp only[Instr.fill]
  have hcond:¬ (v.cells.size≠z∨i0*z+v.cells.size>cs.size):=by rw[hsz];simp;omega
  simp only[ne_eq,K5,K2];rw[z8 (by simpa using hcond)];rw[hc2]
 ·have:=g6 List.length hcs2;rw[f5 _ _ _ (by simp;omega)] at this;simpa using this
 ·rw[hcs2,w3,O2 (by simp;omega),U2 (by omega),Q0 (by omega)]
 ·rw[hcs2,w3,List.take_left' (by simp;omega)]
inductive EvL(gl:List (Nat×D))(σ:Sg)(z:Nat):Nat->List (Nat×Operand)->List D->List Nat->Prop
 | nil {k:Nat}:EvL gl σ z k [] [] []
 | pur {k:Nat} {x:Operand} {d:D} {ps:List (Nat×Operand)} {ds:List D} {S:List Nat} (h:ev gl σ x=some d) (hp:d.pur=true) (hn:d.np=true) (hz:d.sz=z) (t:EvL gl σ z (k+1) ps ds S):EvL gl σ z k ((k,x)::ps) (d::ds) S
 | own {k s:Nat} {d:D} {ps:List (Nat×Operand)} {ds:List D} {S:List Nat} (h:σ.get s=some d) (hr:d.isRef=false) (hn:d.np=true) (hz:d.sz=z) (hs:S.contains s=false) (t:EvL gl σ z (k+1) ps ds S):EvL gl σ z k ((k,.tmp s)::ps) (d::ds) (s::S)
theorem EvL.there{gl:List (Nat×D)}{z k:Nat}{ps:List (Nat×Operand)}{ds:List D}{S:List Nat}(h:EvL gl σ z k ps ds S):∀ s∈S,∃ d0,σ.get s=some d0:=by
 induction h with
 | nil=>intro s hs;cases hs
 | pur _ _ _ _ _ ih=>exact ih
 | own h _ _ _ _ _ ih=>
  intro s hs
  rcases w8.1 hs with rfl|hs
  ·exact⟨_,h⟩
  ·exact ih s hs
theorem EvL.fill(st:StW C σ a w ρ Fe Fb){z k:Nat}{ps:List (Nat×Operand)}{ds:List D}{S:List Nat}(h:EvL C.gl σ z k ps ds S) :
 ∀ cs:Array Value,(k+ds.length)*z<=cs.size ->
  ∃ (out:Array Value) (Fs:Nat->List Nat),Instr.fill (λi=>some (i*z,z)) cs (ps.map (λp=>(p.1,a.eval p.2)))=some out/\out.size=cs.size/\out.toList.take (k*z)=cs.toList.take (k*z) /\
   (∀ i (h:i<ds.length),Rc w ρ (gd C Fe Fb) (λid=>(σ.box id).isSome=true) false ds[i] ((out.toList.drop ((k+i)*z)).take z) (Fs i)) /\
   (∀ i,i<ds.length->(Fs i).Nodup/\∀ b∈Fs i,∃ s∈S,b∈Fe s)/\(∀ i j,i<ds.length->j<ds.length->i≠j->∀ b,b∈Fs i->b∉Fs j):=by
 have step:∀ {k:Nat} {x:Operand} {d:D} {ps:List (Nat×Operand)} {ds:List D} {S:List Nat} {xc:List Value} {Fx:List Nat},(a.eval x).cells.toList=xc->Rc w ρ (gd C Fe Fb) (λid=>(σ.box id).isSome=true) false d xc Fx->d.sz=z->Fx.Nodup->∀ (T:List Nat),(∀ b∈Fx,∃ s∈T,b∈Fe s)->(∀ s∈S,s∈T)->(∀ b∈Fx,∀ s∈S,b∉Fe s) ->
  (∀ cs:Array Value,(k+1+ds.length)*z<=cs.size->∃ (out:Array Value) (Fs:Nat->List Nat),Instr.fill (λi=>some (i*z,z)) cs (ps.map (λp=>(p.1,a.eval p.2)))=some out/\out.size=cs.size/\out.toList.take ((k+1)*z)=cs.toList.take ((k+1)*z) /\
   (∀ i (h:i<ds.length),Rc w ρ (gd C Fe Fb) (λid=>(σ.box id).isSome=true) false ds[i] ((out.toList.drop ((k+1+i)*z)).take z) (Fs i)) /\
   (∀ i,i<ds.length->(Fs i).Nodup/\∀ b∈Fs i,∃ s∈S,b∈Fe s)/\(∀ i j,i<ds.length->j<ds.length->i≠j->∀ b,b∈Fs i->b∉Fs j)) ->
  ∀ cs:Array Value,(k+(d::ds).length)*z<=cs.size->∃ (out:Array Value) (Fs:Nat->List Nat),Instr.fill (λi=>some (i*z,z)) cs (((k,x)::ps).map (λp=>(p.1,a.eval p.2)))=some out/\out.size=cs.size/\out.toList.take (k*z)=cs.toList.take (k*z) /\
   (∀ i (h:i<(d::ds).length),Rc w ρ (gd C Fe Fb) (λid=>(σ.box id).isSome=true) false (d::ds)[i] ((out.toList.drop ((k+i)*z)).take z) (Fs i)) /\
   (∀ i,i<(d::ds).length->(Fs i).Nodup/\∀ b∈Fs i,∃ s∈T,b∈Fe s)/\(∀ i j,i<(d::ds).length->j<(d::ds).length->i≠j->∀ b,b∈Fs i->b∉Fs j):=by
  intro k x d ps ds S xc Fx hxc hrc hz hnd T hFx hST hdis ih cs hs
  have hs1:(k+1+ds.length)*z<=cs.size:=by
   rw[j2] at hs;rw[show k+1+ds.length=k+(ds.length+1) by omega];exact hs
  have hkz:k*z+z<=cs.size:=by
   have:=v5 (u0 z (show k+1<=k+1+ds.length by omega)) hs1;rw[c7,ZU] at this;exact this
  obtain⟨cs2,e1,e2,e3,e4⟩:=j54 (i0:=k) hxc (hrc.len.trans hz) hkz;obtain⟨out,Fs,q1,q2,q3,q4,q5,q6⟩:=ih cs2 (by rw[e2];exact hs1)
  have hz1:(k+1)*z=k*z+z:=by rw[c7,ZU]
  have hmid:(out.toList.drop (k*z)).take z=xc:=by
   have:=g6 (List.drop (k*z)) q3;rw[hz1,W9,W9,Nat.add_sub_cancel_left] at this;rw[this];exact e3
  have hpre:out.toList.take (k*z)=cs.toList.take (k*z):=by
   have:=g6 (List.take (k*z)) q3;rw[hz1,Y8,Y8,Z4 (by omega)] at this;rw[this];exact e4
  refine⟨out,λi=>match i with|0=>Fx|i+1=>Fs i, ?_,q2.trans e2,hpre, ?_, ?_, ?_⟩
  ·rw[d9,e1];exact q1
  ·intro i hi
   cases i with
   | zero=>simp only[X7,Z1,hmid];exact hrc
   | succ i=>
    simp only[J4];have:=q4 i (by simpa using hi);rw[show k+1+i=k+(i+1) by omega] at this;exact this
  ·intro i hi
   cases i with
   | zero=>exact⟨hnd,hFx⟩
   | succ i=>
    obtain⟨h1,h2⟩:=q5 i (by simpa using hi);exact⟨h1,λb hb=>by obtain⟨s,hs,hb'⟩:=h2 b hb;exact⟨s,hST s hs,hb'⟩⟩
  ·intro i j hi hj hij b hb
   cases i with
   | zero=>cases j with
    | zero=>exact absurd rfl hij
    | succ j=>
     intro hb';obtain⟨s,hs,h3⟩:=(q5 j (by simpa using hj)).2 b hb';exact hdis b hb s hs h3
   | succ i=>cases j with
    | zero=>
     intro hb';obtain⟨s,hs,h3⟩:=(q5 i (by simpa using hi)).2 b hb;exact hdis b hb' s hs h3
    | succ j=>exact q6 i j (by simpa using hi) (by simpa using hj) (by omega) b hb
 induction h with
 | nil=>intro cs _;exact⟨cs,λ_=>[],rfl,rfl,rfl,λi hi=>by simp at hi,λi hi=>by simp at hi,λi j hi=>by simp at hi⟩
 | @pur k x d ps ds S h hp hn hz t ih=>
  obtain⟨xc,hxc,hrc⟩:=XB st h hp;exact step hxc (hrc.unflag hn) hz u5 S (by simp) (λs hs=>hs) (by simp) ih
 | @own k s d ps ds S h hr hn hz hs t ih=>
  obtain⟨v,hv,hvr⟩:=(m9 hr).1 (st.env _ _ h)
  have hdead:d≠.dead:=by rintro rfl;simp[D.isRef] at hr
  have hrc:=(hvr.cells hdead).unflag hn
  have hs':s∉S:=by intro hm;rw[H0.2 hm] at hs;cases hs
  exact step (x:=.tmp s) (by rw[K1 hv]) hrc hz (st.nodE s) (s::S) (λb hb=>⟨s,by simp,hb⟩) (λs' h'=>j5 _ h') (λb hb s' h'=>st.dEE s s' (λe=>hs' (e▸h')) b hb) ih
theorem R.bslO{t e z bytes k:Nat}{ps:List (Nat×Operand)}{ds:List D}{S:List Nat}{ty rt:TypeId}{pos:String}{aft:Array Edge}{g:Option (Nat×Bool)}[hT:SlT P ty e][hE:ElT P e z bytes]
 (hps:EvL C.gl σ z 0 ps ds S) (hk:ds.length=k) (hS:S.contains t=false) (ht:t<σ.n) (hsm:k*z<=16777216) :
 OpS P C ⟨some t,.buildSlice ty k ps.toArray,rt,pos,aft,g⟩ σ ((l6 σ S).set t (.sl (some e) z ds)):=by
 refine OpS.value λa w ⟨ρ,Fe,Fb,st⟩=>?_;obtain⟨i,zv,hi,hsz,hby,hz,hzs,hpos,hone⟩:=hE.i;subst hk
 have htS:t∉S:=by intro hm;rw[H0.2 hm] at hS;cases hS
 obtain⟨out,Fs,q1,q2,_,q4,q5,q6⟩:=hps.fill st ((Array.range (ds.length*z)).map (zv.cells[·%zv.cells.size]!)) (by simp);simp only[m5] at q4
 have hml:ds.length<=maxLen:=by
  have:ds.length*1<=ds.length*z:=Nat.mul_le_mul_left _ hpos;simp only[maxLen];omega
 have hos:out.size=ds.length*z:=by rw[q2];simp
 let F:List Nat:=w.heap.size::(List.range ds.length).flatMap Fs
 have hin:∀ b∈(List.range ds.length).flatMap Fs,∃ s∈S,b∈Fe s:=λb hb=>by
  obtain⟨j,hj,hx⟩:=w6.1 hb;exact(q5 j (z7.1 hj)).2 b hx
 have hlt:=st.lt
 have hF:F.Nodup:=by
  refine g0.2 ⟨λhm=>?_,A8 (λj hj=>(q5 j hj).1) (λi j hi hj hij=>q6 i j hi hj hij)⟩;obtain⟨s,_,h2⟩:=hin _ hm;have:=hlt _ (.inl ⟨s,h2⟩);omega
 have hFs:∀ b∈F,(∃ s∈S,b∈Fe s)∨w.heap.size<=b:=λb hb=>by
  rcases w8.1 hb with rfl|hb
  ·exact .inr (z5 _)
  ·exact .inl (hin b hb)
 have hgd:∀ b,gd C Fe Fb b->b<w.heap.size->gd C (upd (λu=>if u∈S then[] else Fe u) t F) Fb b:=λb hb hbl=>⟨hb.1,λhc=>hb.2 (by
  rcases hc with ⟨u,hu⟩|hid
  ·by_cases hut:u=t
   ·subst hut;rw[m7] at hu
    rcases hFs b hu with ⟨s,_,hs⟩|hn
    ·exact .inl ⟨s,hs⟩
    ·omega
   ·rw[j6 hut] at hu;by_cases hus:u∈S
    ·simp[hus] at hu
    ·simp only[hus,q8] at hu;exact .inl ⟨u,hu⟩
  ·exact .inr hid)⟩
 refine⟨.slice (some ⟨w.heap.size,0,none⟩) ds.length ds.length,w.alloc (.cells out e), ?_,ρ,_,Fb,st.takeX ht htS hps.there (Ext.alloc w _) hF hFs ((m9 rfl).2 ⟨.slice (some ⟨w.heap.size,0,none⟩) ds.length ds.length,by rw[U7 a t _ t (by rw[st.size];exact ht)];simp, ?_⟩)⟩
 ·unfold execOp
  have hps2:(ps.toArray.map λx=>(x.1,a.eval x.2)).toList=ps.map (λp=>(p.1,a.eval p.2)):=by simp
  by_cases h0:ds.length*z=0
  ·have q1':=q1;simp only[h0] at q1'
   have e0:(Array.range 0).map (λx=>zv.cells[x%zv.cells.size]!)=(#[]:Array Value):=by simp[Array.range_zero']
   rw[e0] at q1';have e1:Array.range 0=#[]:=rfl;simp[Instr.buildSlice,run_underlying hT.u,ElT.size (P:=P) (e:=e),h0,hps2,e1,q1',newRow,newObj,Sem.run]
  ·simp[Instr.buildSlice,run_underlying hT.u,ElT.size (P:=P) (e:=e),h0,hps2,q1,newRow,newObj,Sem.run,zeroValue,typeInfo,hi,hz,show ¬ (16777216<ds.length*z) by omega]
 ·simp only[VR,D.isAgg,q7,q8]
  have hcell:∀ u∈out.toList,u.oneCell'=true:=by
   intro u hu;obtain⟨j,hj,rfl⟩:=c9.1 hu
   have hj1:j<ds.length*z:=by simpa [hos] using hj
   have hjz:j/z<ds.length:=l8 (by rw[W1];exact hj1);have hdm:=Nat.div_add_mod j z;have hmod:=G8 j hpos;rw[W1] at hdm;refine(q4 (j/z) hjz).one _ (List.mem_iff_getElem?.2 ⟨j%z, ?_⟩);rw[p8,j7 hmod,Z2,hdm,j9 hj]
  exact .slO w.heap.size out e ds.length z ds Fs (heap_alloc_new w _) (z5 _) hml hos hcell (λi hi=>(q4 i hi).mono (λb hb hbl=>heap_alloc_old w _ hbl) hgd (λid hid=>⟨hid,rfl⟩))
end
section
variable{pos:String}{aft:Array Edge}{g:Option (Nat×Bool)}
variable{P:Program}{C:Ctx}{σ σ' σ1:Sg}{a:Act}{w w':World}{ρ:Nat->Nat}{Fe Fe' Fb:Nat->List Nat}
theorem StW.takeY{S:List Nat}{t:Nat}{d:D}{v:Value}{F:List Nat}(h:StW C σ a w ρ Fe Fb)(ht:t<σ.n)(hst:t∉S)(hS:∀ s∈S,∃ d0,σ.get s=some d0)
 (hos:w'.os=w.os) (htape:TpR w' w) (hout:w'.output=w.output) (hsize:w.heap.size<=w'.heap.size)
 (hblk:∀ b,b<w.heap.size->(∀ s∈S,b∉Fe s)->w'.heap[b]? = w.heap[b]?) (hF:F.Nodup) (hFs:∀ b∈F,(∃ s∈S,b∈Fe s)∨w.heap.size<=b)
 (hv:SR w' ρ (gd C (upd (λu=>if u∈S then[] else Fe u) t F) Fb) (λid=>(σ.box id).isSome) (a.put (some t) v) t d F) :
 StW C ((l6 σ S).set t d) (a.put (some t) v) w' ρ (upd (λu=>if u∈S then[] else Fe u) t F) Fb:=by
 have hsz:t<a.tmps.size:=by rw[h.size];exact ht
 let Fx:Nat->List Nat:=upd (λu=>if u∈S then[] else Fe u) t F
 have hFx:∀ u,u≠t->∀ b∈Fx u,b∈Fe u/\u∉S:=λu hut b hb=>by
  simp only[Fx,j6 hut] at hb;by_cases hus:u∈S
  ·simp[hus] at hb
  ·simp only[hus,q8] at hb;exact⟨hb,hus⟩
 have hFt:Fx t=F:=by simp[Fx]
 have hlt:=h.lt;have hh:∀ b,gd C Fe Fb b->b<w.heap.size->w'.heap[b]? = w.heap[b]?:=λb hb hl=>hblk b hl (λs _ hm=>hb.2 (.inl ⟨s,hm⟩))
 have hcc:∀ id off v,(σ.box id).isSome=true->w.cell? ⟨ρ id,off,none⟩=some v->w'.cell? ⟨ρ id,off,none⟩=some v:=by
  intro id off v hid hc;have hl:=block_lt_of_cell hc;rw[<- hc];refine World.cell?_of_block (hblk _ hl ?_);intro s _ hm
  cases hb:σ.box id with
  | none=>simp[hb] at hid
  | some x=>exact h.dEB s id _ hm (h.bx id x hb).mem
 have ho:∀ b,own Fx Fb b->own Fe Fb b∨w.heap.size<=b:=by
  rintro b (⟨u,hu⟩|hid)
  ·by_cases hut:u=t
   ·subst hut;rw[hFt] at hu
    rcases hFs b hu with ⟨s,_,hs⟩|hn
    ·exact .inl (.inl ⟨s,hs⟩)
    ·exact .inr hn
   ·exact .inl (.inl ⟨u,(hFx u hut b hu).1⟩)
  ·exact .inl (.inr hid)
 have hg:∀ b,gd C Fe Fb b->b<w.heap.size->gd C Fx Fb b:=λb hb hbl=>⟨hb.1,λhc=>(ho b hc).elim hb.2 (λh2=>by omega)⟩
 obtain⟨hn,hbx⟩:=EU S σ
 have hbox:∀ id,((l6 σ S).set t d).box id=σ.box id:=λid=>by
  show lk (l6 σ S).bx id=_;rw[hbx];rfl
 have hLf:(λid=>(((l6 σ S).set t d).box id).isSome=true)=λid=>(σ.box id).isSome=true:=by funext id;rw[hbox]
 have hnotF:∀ u,u≠t->∀ b∈Fx u,b∉F:=λu hut b hb hbF=>by
  obtain⟨h1,h2⟩:=hFx u hut b hb
  rcases hFs b hbF with ⟨s,hs,h3⟩|hn
  ·exact h.dEE u s (λe=>h2 (e▸hs)) b h1 h3
  ·have:=hlt b (.inl ⟨u,h1⟩);omega
 refine {
  size:=?_
  defs:=h.defs
  pin:=λid b hp=>by rw[hbox];exact h.pin id b hp
  env:=λu x hx=>?_
  envN:=λu hu=>?_
  bx:=λid x hx=>by rw[hLf];exact(h.bx id x (by rw[<- hbox];exact hx)).mono (λb hb hl=>hb.elim (λhb=>hh b hb hl) (λhb=>hblk b hl (λs _ hm=>h.dEB s id b hm hb))) hg (λi hi=>⟨hi,rfl⟩)
  bxN:=λid hx=>h.bxN id (by rw[<- hbox];exact hx)
  nodE:=λu=>?_
  nodB:=h.nodB
  dEE:=λu u' huu b hb hb'=>?_
  dEB:=λu id b hb hb'=>?_
  dBB:=h.dBB
  new:=λb hb=>?_
  kept:=λb hb=>?_
  os:=hos.trans h.os
  tape:=htape.trans h.tape
  output:=hout.trans h.output
  grown:=v5 h.grown hsize
  gl:=h.gl
  okN:=λb hb=>h.okN b (v5 hsize hb)
  okO:=λb hb=>(ho b hb).elim (h.okO b) (h.okN b) }
 ·simp[Act.put,h.size,hn]
 ·rw[hLf];rw[E2] at hx;by_cases hut:u=t
  ·subst hut;simp at hx;subst hx;simp only[m7];exact hv
  ·simp only[hut,q8] at hx;obtain⟨d1,hd1,rfl⟩:=Q3.1 hx;rw[JN] at hd1;by_cases hus:u∈S
   ·simp only[hus,w5,z9] at hd1;subst hd1;obtain⟨d0,hd0⟩:=hS u hus;obtain⟨v0,hv0⟩:=(h.env u d0 hd0).there;refine⟨by simp[j6 hut,hus],v0,by rw[U7 a t v u hsz];simp[hut,hv0]⟩
   ·simp only[hus,q8] at hd1
    have hFu:upd (λu=>if u∈S then[] else Fe u) t F u=Fe u:=by simp[j6 hut,hus]
    rw[hFu];exact YJ hut hsz (h.env u d1 hd1) (λb hb hl=>hb.elim (λhb=>hh b hb hl) (λhb=>hblk b hl (λs hs hm=>h.dEE u s (λe=>hus (e▸hs)) b hb hm))) hg (λid hid=>⟨hid,rfl⟩) hcc
 ·rw[E2] at hu;by_cases hut:u=t
  ·simp[hut] at hu
  ·simp only[hut,q8,Z0] at hu;rw[JN] at hu;by_cases hus:u∈S
   ·simp[hus] at hu
   ·simp only[hus,q8] at hu;simp[j6 hut,hus,h.envN u hu]
 ·by_cases hut:u=t
  ·subst hut;simpa using hF
  ·simp only[j6 hut];split
   ·exact u5
   ·exact h.nodE u
 ·by_cases hut:u=t
  ·subst hut
   have hb1:b∈F:=by rw[<- hFt];exact hb
   exact hnotF u' (λe=>huu e.symm) b hb' hb1
  ·by_cases hut':u'=t
   ·subst hut'
    have hb1:b∈F:=by rw[<- hFt];exact hb'
    exact hnotF u hut b hb hb1
   ·exact h.dEE u u' huu b (hFx u hut b hb).1 (hFx u' hut' b hb').1
 ·by_cases hut:u=t
  ·subst hut
   have hb1:b∈F:=by rw[<- hFt];exact hb
   rcases hFs b hb1 with ⟨s,_,hs⟩|hn
   ·exact h.dEB s id b hs hb'
   ·have:=hlt b (.inr ⟨id,hb'⟩);omega
  ·exact h.dEB u id b (hFx u hut b hb).1 hb'
 ·rcases ho b hb with h1|h1
  ·exact h.new b h1
  ·intro hk;have h2:=(h.kept b hk).2;have h3:=h.grown;omega
 ·obtain⟨h1,h2⟩:=h.kept b hb;exact⟨(hblk b (u9 h2 h.grown) (λs _ hm=>h.new b (.inl ⟨s,hm⟩) hb)).trans h1,h2⟩
theorem u74{G L:Nat->Prop}{e z:Nat}{l:List D}{v:Value}{F:List Nat}(h:Rc w ρ G L true (.sl (some e) z l) [v] F)(hF:F.Nodup) :
 ∃ (base:Option Addr) (cap:Nat) (news:List Value) (Fs2:Nat->List Nat),v=.slice base l.length cap/\((base=none/\l=[]/\cap=0)∨∃ a,base=some a/\∀ j u,news[j]? = some u->w.cell? (a.add j)=some u)/\news.length=l.length*z/\(∀ u∈news,u.oneCell'=true) /\
  (∀ j (h:j<l.length),Rc w ρ G L false l[j] ((news.drop (j*z)).take z) (Fs2 j))/\((List.range l.length).flatMap Fs2).Nodup/\∀ b∈(List.range l.length).flatMap Fs2,b∈F:=by
 generalize hv:[v]=cv at h
 cases h with
 | slN=>cases hv;exact⟨none,0,[],λ_=>[],rfl,.inl ⟨rfl,rfl,rfl⟩,by simp,by simp,λj hj=>by simp at hj,by simp,by simp⟩
 | slE _ _ a=>cases hv;exact⟨some a,0,[],λ_=>[],rfl,.inr ⟨a,rfl,by simp⟩,by simp,by simp,λj hj=>by simp at hj,by simp,by simp⟩
 | slO b cs e cap z l Fs hb hc hm hs ho hr=>
  cases hv
  have hsz:l.length*z<=cs.size:=by rw[hs];exact u0 z hc
  have hl:(cs.toList.take (l.length*z)).length=l.length*z:=by simp;omega
  refine⟨some ⟨b,0,none⟩,cap,cs.toList.take (l.length*z),Fs,rfl,.inr ⟨_,rfl,λj u hu=>?_⟩,hl,λu hu=>ho u (Q8 hu),λj hj=>?_,(g0.1 hF).2,λb' hb'=>j5 _ hb'⟩
  ·rw[s6,cell_of_row w b _ cs e _ hb];rw[p8] at hu;split at hu
   ·simpa using hu
   ·cases hu
  ·have h1:j*z+z<=l.length*z:=by
    have:=u0 z (show j+1<=l.length by omega);rw[c7] at this;omega
   have h2:((cs.toList.take (l.length*z)).drop (j*z)).take z=(cs.toList.drop (j*z)).take z:=by
    rw[W9,Y8,Z4 (by omega)]
   rw[h2];exact hr j hj
theorem R.appO2{s s0 s1 t e e1 z bytes:Nat}{l l' l2:List D}{ty rt:TypeId}[hT:SlT P ty e][hE:ElT P e z bytes]
 (ho:ownr σ s s0) (hs:σ.get s0=some (.sl (some e) z l)) (hs1:σ.get s1=some (.sl (some e1) z l')) (hne:Nat.beq s0 s1=false) (he:l++l'=l2) (hn:l.length+l'.length<=1073741824) (ht:t<σ.n) (hst:[s0,s1].contains t=false) (hby:bytes<=131072) :
 OpS P C ⟨some t,.call { callee:=.builtin .append,args:=#[.tmp s,.tmp s1],argTypes:=#[ty,ty] },rt,pos,aft,g⟩ σ ((l6 σ [s0,s1]).set t (.sl (some e) z l2)):=by
 subst he
 have hne':s0≠s1:=λe=>by rw[e] at hne;simp at hne
 have htS:t∉[s0,s1]:=by intro hm;rw[H0.2 hm] at hst;cases hst
 refine OpS.value λa w ⟨ρ,Fe,Fb,st⟩=>?_;obtain⟨v,hv,hv0,hr⟩:=DL st ho hs;obtain⟨v1,hv1,_,hr1⟩:=DL st (.inl rfl) hs1;obtain⟨base,cap,news,Fs2,rfl,q1,q2,q3,q4,q5,q6⟩:=u74 hr1 (st.nodE s1);obtain⟨f1,f2⟩:=fits hby hn;obtain⟨v',w',F',hrun,ht',hnd,hsub,hres⟩:=k87 (P:=P) (t:=ty) (e:=e) (bytes:=bytes) (ty:=rt) (Fs2:=Fs2) hr (.inr rfl) (st.nodE s0) q1 q2 q3 q4 q5 (λb hb hb'=>st.dEE s1 s0 (λe=>hne' e.symm) b (q6 b hb) hb') (λb hb hm=>hb.2 (.inl ⟨s0,hm⟩)) f1 f2
 have hFs:∀ b∈F',(∃ s∈[s0,s1],b∈Fe s)∨w.heap.size<=b:=λb hb=>by
  rcases hsub b hb with h|h|h
  ·exact .inl ⟨s0,by simp,h⟩
  ·exact .inl ⟨s1,by simp,q6 b h⟩
  ·exact .inr h
 have hthere:∀ u∈[s0,s1],∃ d0,σ.get u=some d0:=λu hu=>by
  rcases w8.1 hu with rfl|hu
  ·exact⟨_,hs⟩
  ·rw[g8.1 hu];exact⟨_,hs1⟩
 refine⟨v',w', ?_,ρ,_,Fb,st.takeY ht htS hthere ht'.os ht'.tape ht'.output ht'.size (λb hb hnb=>ht'.blk b hb (hnb s0 (by simp))) hnd hFs ((m9 rfl).2 ⟨v',by rw[U7 a t _ t (by rw[st.size];exact ht)];simp, ?_⟩)⟩
 ·unfold execOp;simp[resolve,invoke,builtin,K1 hv,K1 hv1,hrun]
 ·simp only[VR,D.isAgg,q7,q8];refine hres _ (λb hb hl=>⟨hb.1,λhc=>?_⟩)
  rcases hc with ⟨u,hu⟩|hid
  ·by_cases hut:u=t
   ·subst hut;rw[m7] at hu
    rcases hFs b hu with ⟨s',_,h⟩|h
    ·exact hb.2 (.inl ⟨s',h⟩)
    ·omega
   ·rw[j6 hut] at hu;by_cases hus:u∈[s0,s1]
    ·simp only[hus,w5] at hu;cases hu
    ·simp only[hus,q8] at hu;exact hb.2 (.inl ⟨u,hu⟩)
  ·exact hb.2 (.inr hid)
theorem NQ{s s1 id off t e e1 z bytes:Nat}{path:List Nat}{d0 d0':D}{l l' l2:List D}{ty rt:TypeId}[hT:SlT P ty e][hE:ElT P e z bytes]
 (h:σ.get s=some (.alb id off path)) (hb:σ.box id=some (.var d0)) (hl:d0.loc path=some (off,.sl (some e) z l)) (hna:d0.noArr path=true) (hu:d0.upd path .dead=some d0')
 {τ:Sg} (hτ:(σ.putB id (.var d0')).upd s (.sl (some e) z l)=τ) (hs:τ.get s=some (.sl (some e) z l)) (hs1:τ.get s1=some (.sl (some e1) z l')) (hne:Nat.beq s s1=false)
 (he:l++l'=l2) (hn:l.length+l'.length<=1073741824) (ht:t<σ.n) (hst:[s,s1].contains t=false) (hby:bytes<=131072) :
 OpS P C ⟨some t,.call { callee:=.builtin .append,args:=#[.tmp s,.tmp s1],argTypes:=#[ty,ty] },rt,pos,aft,g⟩ σ ((l6 τ [s,s1]).set t (.sl (some e) z l2)):=by
 subst hτ;exact EV (λa w hs=>LW h hb hl hna hu hs) (R.appO2 (.inl rfl) hs hs1 hne he hn ht hst hby)
end
section
variable{pos:String}{aft:Array Edge}{g:Option (Nat×Bool)}
variable{P:Program}{C:Ctx}{Q:Exit->Sg->Prop}{σ σ' σ1:Sg}{a:Act}{w w':World}{ρ:Nat->Nat}{Fe Fe' Fb:Nat->List Nat}{ops:Array Oper}
def dsts:List Oper->List Nat
 | []=>[]
 | o::r=>match o.dst with
  | some t=>t::dsts r
  | none=>dsts r
theorem SF{a:Act}{d:Option Nat}{v:Value}{t:Nat}(h:d≠some t):(a.put d v).tmps[t]? = a.tmps[t]?:=by
 cases d with
 | none=>rfl
 | some u=>
  have hne:u≠t:=λe=>h (e▸rfl);simp[Act.put,F8,hne]
theorem PW{Q Q':Exit->Act->World->Prop}(h:LetsOut Q)(hq:∀ e a w,e≠.normal->Q e a w->Q' e a w):LetsOut Q':=by
 obtain⟨a,w,h⟩:=h;exact⟨a,w,hq _ _ _ (by simp) h⟩
theorem DD{F:Fence}{n:Nat}{o:Oper}{a:Act}{K K':Act->World->Prop}{Q Q':Exit->Act->World->Prop}{r:Result Next}
 (hk:∀ (b:Act) (w:World) (v:Value),b.tmps=a.tmps->K (b.put o.dst v) w->K' (b.put o.dst v) w) (hq:∀ e a w,e≠.normal->Q e a w->Q' e a w)
 (h:o.uponIn F n P a K Q r):o.uponIn F n P a K' Q' r:=by
 cases r with
 | ok nx w'=>
  cases nx with
  | value v=>exact hk _ _ _ rfl h
  | skip=>exact hk _ _ _ rfl h
  | «defer» d=>exact hk { a with defers:=d::a.defers } _ _ rfl h
  | enter f args=>
   refine⟨h.1,h.2.mono λe w'' hx=>?_⟩
   cases e with
   | returned v=>exact hk _ _ _ rfl hx
   | panicked ch=>exact hq _ _ _ (by simp) hx
   | outgrown=>exact PW hx hq
  | row r args=>exact⟨h.1,h.2.mono λv w'' hx=>hk _ _ _ rfl hx⟩
  | round l f tmps assign body=>
   refine⟨h.1,h.2.mono λe w'' hx=>?_⟩
   cases e with
   | returned v=>exact hk _ _ _ rfl hx
   | panicked ch=>exact hq _ _ _ (by simp) hx
   | outgrown=>exact PW hx hq
  | _=>exact h
 | halt x w'=>
  cases x with
  | panic v=>exact hq _ _ _ (by simp) h
  | _=>exact h
theorem DH{F:Fence}{n:Nat}{Q Q1:Exit->Act->World->Prop}{l2:List Oper}:∀ (l1:List Oper) (a:Act) (w:World),wpListIn F n P ops Q1 l1 a w ->
 (∀ e a w,e≠.normal->Q1 e a w->Q e a w)->(∀ a' w',Q1 .normal a' w'->(∀ t,t∉dsts l1->a'.tmps[t]? = a.tmps[t]?)->wpListIn F n P ops Q l2 a' w')->wpListIn F n P ops Q (l1++l2) a w:=by
 intro l1
 induction l1 with
 | nil=>intro a w h _ k;exact k a w h (λ_ _=>rfl)
 | cons o l ih=>
  intro a w h hq k
  have hstep:∀ (b:Act) (w1:World) (v:Value),b.tmps=a.tmps->wpListIn F n P ops Q1 l (b.put o.dst v) w1->wpListIn F n P ops Q (l++l2) (b.put o.dst v) w1:=by
   intro b w1 v hb hx;refine ih _ _ hx hq (λa' w' h1 h2=>k a' w' h1 λt ht=>?_)
   have hne:o.dst≠some t:=by
    intro e;apply ht;simp[dsts,e]
   have hnl:t∉dsts l:=by
    intro hm;apply ht;unfold dsts;split
    ·exact j5 _ hm
    ·exact hm
   rw[h2 t hnl,SF hne,hb]
  simp only[E8,wpListIn] at h ⊢;split
  ·rename_i hw;simp only[hw,w5] at h;exact⟨h.1,DD hstep hq h.2⟩
  ·rename_i hw;simp only[hw,q8,q7] at h;exact⟨h.1,hstep a w undef rfl h.2⟩
inductive BorE(gl:List (Nat×D))(σ:Sg):List (Nat×D)->Prop
 | nil:BorE gl σ []
 | cons {t:Nat} {d:D} {r:List (Nat×D)} (h:Bor gl σ (.tmp t) d) (hr:d.isRef=false) (k:BorE gl σ r):BorE gl σ ((t,d)::r)
theorem BorE.get{gl:List (Nat×D)}{l:List (Nat×D)}(h:BorE gl σ l){t:Nat}{d:D}(ht:lk l t=some d):Bor gl σ (.tmp t) d/\d.isRef=false:=by
 induction h with
 | nil=>cases ht
 | @cons t' d' r h hr k ih=>
  rw[G4] at ht;by_cases e:t'=t
  ·subst e;simp only[w5,z9] at ht;subst ht;exact⟨h,hr⟩
  ·simp only[e,q8] at ht;exact ih ht
theorem Bor.there(st:StW C σ a w ρ Fe Fb){t:Nat}{d:D}(h:Bor C.gl σ (.tmp t) d):∃ v,a.tmps[t]? = some v:=by
 have key:∀ d0,σ.get t=some d0->∃ v,a.tmps[t]? = some v:=λd0 h0=>(st.env t d0 h0).there
 cases h with
 | pur h _ _=>exact key _ h
 | nils h=>exact key _ h
 | own h _ _ _=>exact key _ h
 | al h _ _ _ _=>exact key _ h
 | sc h _=>
  obtain⟨base,len,cap,hv,_⟩:=AJ st h;exact⟨_,hv⟩
 | ptr h _ _ _ _=>exact key _ h
def stays(W:List Nat)(d:D):Bool:=
 match d with
 | .al s=>!(W.contains s)
 | d=>!d.isRef
theorem q58{W:List Nat}{d:D}(h:stays W d=true):d.isRef=false∨∃ s,d=.al s/\W.contains s=false:=by
 cases d with
 | al s=>exact .inr ⟨s,rfl,by simpa [stays] using h⟩
 | _=>left;simpa [stays] using h
def Back(σ σ1:Sg)(W:List Nat):List (Nat×D)->Prop
 | []=>True
 | (t,d)::r=>(bif W.contains t then σ1.get t=some d/\d.isRef=false/\d.np=true/\Frs d else σ.get t=some d/\stays W d=true)/\Back σ σ1 W r
theorem Back.get{σ σ1:Sg}{W:List Nat}:∀ {l:List (Nat×D)},Back σ σ1 W l->∀ {t:Nat} {d:D},lk l t=some d->(W.contains t=true/\σ1.get t=some d/\d.isRef=false/\d.np=true/\Frs d)∨(W.contains t=false/\σ.get t=some d/\stays W d=true):=by
 intro l
 induction l with
 | nil=>intro _ t d h;cases h
 | cons x r ih=>
  obtain⟨t',d'⟩:=x;intro h t d ht;rw[G4] at ht;by_cases e:t'=t
  ·subst e;simp only[w5,z9] at ht;subst ht;have h1:=h.1
   cases hW:W.contains t' with
   | true=>rw[hW] at h1;exact .inl ⟨rfl,h1⟩
   | false=>rw[hW] at h1;exact .inr ⟨rfl,h1⟩
  ·simp only[e,q8] at ht;exact ih h.2 ht
def Ctx.inl(C:Ctx)(w:World):Ctx:={ w0:=w,keep:=λb=>b<w.heap.size,ok:=λ_=>True,gl:=C.gl,rd:=C.rd,pin:=λ_=>none,df:=C.df }
theorem StW.inl(st:StW C σ a w ρ Fe Fb){env1:List (Nat×D)}(h:BorE C.gl σ env1):StW (C.inl w) ⟨σ.n,env1,[]⟩ a w (λx=>x) (λ_=>[]) (λ_=>[]):=by
 have hno:∀ b,¬ own (λ_=>[]) (λ_=>[]) b:=by
  rintro b (⟨t,ht⟩|⟨id,hid⟩)
  ·cases ht
  ·cases hid
 refine⟨st.size,st.defs,λid b hp=>(by cases hp),λt d hd=>?_,λt _=>rfl,λid d hd=>(by cases hd),λid _=>rfl,λ_=>u5,λ_=>u5,λ_ _ _ b hb=>(by cases hb),λ_ _ b hb=>(by cases hb),λ_ _ _ b hb=>(by cases hb),λb hb=>absurd hb (hno b),λb hb=>⟨rfl,hb⟩,rfl,⟨rfl,z5 _⟩,rfl,z5 _,λg d hg=>?_,λ_ _=>trivial,λ_ _=>trivial⟩
 ·obtain⟨hb,hr⟩:=h.get hd;obtain⟨v,hv⟩:=hb.there st;have:=hb.ok st;rw[K1 hv] at this;exact(m9 hr).2 ⟨v,hv,this.mono (λ_ _ _=>rfl) (λb _ _=>⟨trivial,hno b⟩) (λid hid=>hid.elim)⟩
 ·obtain⟨_,cs,e,fz,h1,h2⟩:=LK st g d hg;exact⟨(j8.1 h1).1,trivial,cs,e,fz,h1,h2⟩
theorem StW.back{W:List Nat}{env2:List (Nat×D)}{a':Act}{ρ1:Nat->Nat}{Fe1 Fb1:Nat->List Nat}(st:StW C σ a w ρ Fe Fb)(st1:StW (C.inl w) σ1 a' w' ρ1 Fe1 Fb1)(hn:σ1.n=σ.n)
 (hfr:∀ t,W.contains t=false->a'.tmps[t]? = a.tmps[t]?) (h:Back σ σ1 W env2) :
 StW C ⟨σ.n,env2,σ.bx⟩ a' w' ρ (λt=>match lk env2 t with|none=>[]|some _=>bif W.contains t then Fe1 t else Fe t) Fb:=by
 let F2:Nat->List Nat:=λt=>match lk env2 t with|none=>[]|some _=>bif W.contains t then Fe1 t else Fe t
 have hlt:=st.lt;have hblk:∀ b,b<w.heap.size->w'.heap[b]? = w.heap[b]?:=λb hb=>(st1.kept b hb).1;have hnew1:∀ b,own Fe1 Fb1 b->w.heap.size<=b:=λb hb=>C6 (st1.new b hb)
 have hF2:∀ t b,b∈F2 t->(W.contains t=true/\b∈Fe1 t/\w.heap.size<=b)∨(W.contains t=false/\b∈Fe t/\b<w.heap.size):=by
  intro t b hb;simp only[F2] at hb;split at hb
  ·cases hb
  ·cases hW:W.contains t with
   | true=>rw[hW] at hb;exact .inl ⟨rfl,hb,hnew1 b (.inl ⟨t,hb⟩)⟩
   | false=>rw[hW] at hb;exact .inr ⟨rfl,hb,hlt b (.inl ⟨t,hb⟩)⟩
 have hown:∀ b,own F2 Fb b->own Fe Fb b∨w.heap.size<=b:=by
  rintro b (⟨t,ht⟩|hid)
  ·rcases hF2 t b ht with ⟨_,_,h3⟩|⟨_,h2,_⟩
   ·exact .inr h3
   ·exact .inl (.inl ⟨t,h2⟩)
  ·exact .inl (.inr hid)
 have hgd:∀ b,gd C Fe Fb b->b<w.heap.size->gd C F2 Fb b:=λb hb hl=>⟨hb.1,λho=>by
  rcases hown b ho with h1|h1
  ·exact hb.2 h1
  ·omega⟩
 have hsz:w.heap.size<=w'.heap.size:=st1.grown;refine { size:=st1.size.trans hn,defs:=st1.defs,pin:=st.pin,env:=λt d hd=>?_,envN:=λt ht=>?_,bx:=λid d hd=>?_,bxN:=st.bxN,nodE:=λt=>?_,nodB:=st.nodB,dEE:=λt t' htt b hb hb'=>?_,dEB:=λt id b hb hb'=>?_,dBB:=st.dBB,new:=λb hb hk=>?_,kept:=λb hk=>?_,os:=st1.os.trans st.os,tape:=st1.tape.trans st.tape,output:=st1.output.trans st.output,grown:=v5 st.grown hsz,gl:=st.gl,okN:=λb hb=>st.okN b (v5 hsz hb),okO:=λb hb=>?_ }
 ·have hd':lk env2 t=some d:=hd;show SR w' ρ (gd C F2 Fb) _ a' t d (F2 t)
  rcases h.get hd' with ⟨hW,h1,h2,h3,h4⟩|⟨hW,h1,h2⟩
  ·have e2:F2 t=Fe1 t:=by simp only[F2,hd',hW,Q6]
   rw[e2];obtain⟨v,hv,hr⟩:=(m9 h2).1 (st1.env t d h1);exact(m9 h2).2 ⟨v,hv,(hr.frs h4).noL h3⟩
  ·have e2:F2 t=Fe t:=by simp only[F2,hd',hW,p6]
   rw[e2]
   rcases q58 h2 with h9|⟨s,rfl,h9⟩
   ·obtain⟨v,hv,hr⟩:=(m9 h9).1 (st.env t d h1);exact(m9 h9).2 ⟨v,by rw[hfr t hW];exact hv,hr.mono (λb _ hb=>hblk b hb) hgd (λid hid=>⟨hid,rfl⟩)⟩
   ·obtain⟨h3,v,h4,h5⟩:=st.env t _ h1;exact⟨h3,v,by rw[hfr t hW];exact h4,by rw[hfr s h9];exact h5⟩
 ·have ht':lk env2 t=none:=ht;show F2 t=[];simp only[F2,ht']
 ·exact(st.bx id d hd).mono (λb _ hb=>hblk b hb) hgd (λid hid=>⟨hid,rfl⟩)
 ·show(F2 t).Nodup;simp only[F2];split
  ·exact u5
  ·cases W.contains t with
   | true=>exact st1.nodE t
   | false=>exact st.nodE t
 ·rcases hF2 t b hb with ⟨_,h2,h3⟩|⟨_,h2,h3⟩<;>rcases hF2 t' b hb' with ⟨_,h5,h6⟩|⟨_,h5,h6⟩
  ·exact st1.dEE t t' htt b h2 h5
  ·omega
  ·omega
  ·exact st.dEE t t' htt b h2 h5
 ·rcases hF2 t b hb with ⟨_,h2,h3⟩|⟨_,h2,h3⟩
  ·have:=hlt b (.inr ⟨id,hb'⟩);omega
  ·exact st.dEB t id b h2 hb'
 ·rcases hown b hb with h1|h1
  ·exact st.new b h1 hk
  ·have:=(st.kept b hk).2;have:=st.grown;omega
 ·have h1:=st.kept b hk;exact⟨(hblk b (u9 h1.2 st.grown)).trans h1.1,h1.2⟩
 ·rcases hown b hb with h1|h1
  ·exact st.okO b h1
  ·exact st.okN b h1
theorem R.extO{s t k:Nat}{ds ds':List D}{d:D}{rt:TypeId}
 (h:σ.get s=some (.tup ds)) (hk:ds[k]? = some d) (hr:d.isRef=false) (hds:ds.set k .dead=ds') (hp:ds'.all (λx=>x.pur||x.isRef)=true) (hst:Nat.beq t s=false) (ht:t<σ.n) :
 OpS P C ⟨some t,.extract (.tmp s) k,rt,pos,aft,g⟩ σ (((l6 σ [s]).set t d).upd s (.tup ds')):=by
 subst hds
 have hne:t≠s:=λe=>by rw[e] at hst;simp at hst
 refine OpS.value λa w ⟨ρ,Fe,Fb,st⟩=>?_;obtain⟨vs,Fs,h1,h2,h3,h4⟩:=st.env s _ h;obtain⟨hkl,hkd⟩:=j4.1 hk
 have hv:vs[k]? = some (vs.getD k undef):=by
  have:k<vs.length:=by omega
  rw[D0,j9 this];rfl
 rcases h4 k hkl with ⟨h5,_⟩|⟨h5,h6⟩
 ·rw[hkd] at h5;rw[h5] at hr;cases hr
 ·rw[hkd] at h6
  have hsub:∀ b∈Fs k,b∈Fe s:=λb hb=>by rw[h3];exact w6.2 ⟨k,z7.2 hkl,hb⟩
  have hnd:(Fs k).Nodup:=by
   have:=st.nodE s;rw[h3] at this;exact(S4 this).1 k hkl
  have hgd:∀ b,gd C Fe Fb b->gd C (upd (λu=>if u∈[s] then[] else Fe u) t (Fs k)) Fb b:=λb hb=>⟨hb.1,λhc=>hb.2 (by
   rcases hc with ⟨u,hu⟩|hid
   ·by_cases hut:u=t
    ·subst hut;rw[m7] at hu;exact .inl ⟨s,hsub b hu⟩
    ·rw[j6 hut] at hu;by_cases hus:u∈[s]
     ·simp only[hus,w5] at hu;cases hu
     ·simp only[hus,q8] at hu;exact .inl ⟨u,hu⟩
   ·exact .inr hid)⟩
  have hput:(a.put (some t) (vs.getD k undef)).tmps[t]? = some (vs.getD k undef):=by rw[U7 a t _ t (by rw[st.size];exact ht)];simp
  have st2:=st.takeL (S:=[s]) (t:=t) (d:=d) (v:=vs.getD k undef) (F:=Fs k) ht (by simpa using hne) (λu hu=>by rw[g8.1 hu];exact⟨_,h⟩) hnd (λb hb=>⟨s,by simp,hsub b hb⟩)
   ((m9 hr).2 ⟨_,hput,h6.mono (λ_ _ _=>rfl) (λb hb _=>hgd b hb) (λid hid=>⟨hid,rfl⟩)⟩)
  have hgs:((l6 σ [s]).set t d).get s=some .dead:=by
   rw[E2,z8 (λe=>hne e.symm),JN];simp[scrub]
  have hFs0:upd (λu=>if u∈[s] then[] else Fe u) t (Fs k) s=[]:=by rw[j6 (λe=>hne e.symm)];simp
  have st3:=st2.turn (s:=s) (d':=.tup (ds.set k .dead)) (F:=[]) hgs rfl ⟨rfl,z5 _⟩ rfl (z5 _) (λ_ _ _=>rfl) u5 (by simp) (by
   refine⟨vs,λ_=>[],by rw[U7 a t _ s (by rw[st.size];exact ht)];simp[show ¬ s=t from λe=>hne e.symm,h1],by rw[h2];simp,(LB _).symm,λj hj=>?_⟩
   have hj0:j<ds.length:=by simpa using hj
   by_cases hjk:k=j
   ·subst hjk;left;exact⟨by simp,rfl⟩
   ·have e1:(ds.set k .dead)[j]=ds[j]:=by rw[List.getElem_set];simp[hjk]
    have e2:=Z3.1 hp _ (d7 hj);rw[e1] at e2 ⊢
    rcases h4 j hj0 with h7|⟨h7,h8⟩
    ·exact .inl ⟨h7.1,rfl⟩
    ·right
     have hpj:ds[j].pur=true:=by simpa [h7] using e2
     have hF:=h8.pur hpj;rw[hF] at h8;refine⟨h7,h8.mono (λ_ _ _=>rfl) (λb hb _=>⟨hb.1,λhc=>(hgd b hb).2 ?_⟩) (λid hid=>⟨?_,rfl⟩)⟩
     ·rcases hc with ⟨u,hu⟩|hid
      ·by_cases hus:u=s
       ·subst hus;rw[m7] at hu;cases hu
       ·rw[j6 hus] at hu;exact .inl ⟨u,hu⟩
      ·exact .inr hid
     ·have:((l6 σ [s]).set t d).box id=σ.box id:=by
       show lk (l6 σ [s]).bx id=_;rw[(EU [s] σ).2];rfl
      rw[this];exact hid)
  refine⟨vs.getD k undef,w, ?_,ρ,_,Fb,st3⟩;clear st3 st2 hput h6;generalize vs.getD k undef=x at hv
  have hx:vs.toArray[k]? = some x:=by rw[C0];exact hv
  unfold execOp;simp only[Instr.extract,K1 h1,hx,Sem.run_bind,Sem.run_pure,Result.andThen_ok]
theorem R.movTO{s t:Nat}{ds:List D}{rt:TypeId}(h:σ.get s=some (.tup ds))(hst:Nat.beq t s=false)(ht:t<σ.n) :
 OpS P C ⟨some t,.move (.tmp s),rt,pos,aft,g⟩ σ ((l6 σ [s]).set t (.tup ds)):=by
 have hne:t≠s:=λe=>by rw[e] at hst;simp at hst
 refine OpS.value λa w ⟨ρ,Fe,Fb,st⟩=>?_;obtain⟨vs,Fs,h1,h2,h3,h4⟩:=st.env s _ h
 have hgd:∀ b,gd C Fe Fb b->gd C (upd (λu=>if u∈[s] then[] else Fe u) t (Fe s)) Fb b:=λb hb=>⟨hb.1,λhc=>hb.2 (by
  rcases hc with ⟨u,hu⟩|hid
  ·by_cases hut:u=t
   ·subst hut;rw[m7] at hu;exact .inl ⟨s,hu⟩
   ·rw[j6 hut] at hu;by_cases hus:u∈[s]
    ·simp only[hus,w5] at hu;cases hu
    ·simp only[hus,q8] at hu;exact .inl ⟨u,hu⟩
  ·exact .inr hid)⟩
 have hput:(a.put (some t) (.tuple vs.toArray)).tmps[t]? = some (.tuple vs.toArray):=by rw[U7 a t _ t (by rw[st.size];exact ht)];simp
 refine⟨.tuple vs.toArray,w, ?_,ρ,_,Fb,st.takeL (S:=[s]) (t:=t) (F:=Fe s) ht (by simpa using hne) (λu hu=>by rw[g8.1 hu];exact⟨_,h⟩) (st.nodE s) (λb hb=>⟨s,by simp,hb⟩)
  ⟨vs,Fs,hput,h2,h3,λk hk=>(h4 k hk).imp id λhx=>⟨hx.1,hx.2.mono (λ_ _ _=>rfl) (λb hb _=>hgd b hb) (λid hid=>⟨hid,rfl⟩)⟩⟩⟩
 unfold execOp;simp[K1 h1]
theorem TL.wpListO{l:List Oper}(h:TL P C Q l σ)(ops:Array Oper):WL P C ops l Q σ:=by
 induction l generalizing σ with
 | nil=>
  obtain⟨live,env',bx',n',p1,p2,p4,p3⟩:=h
  exact λa w hs=>⟨_,hs.picks p1 p2 p4,p3⟩
 | cons o l ih=>
  obtain⟨h1,σ',h2,h3⟩:=h;exact WL.cons h1 h2 (ih h3)
def WIn(P:Program)(C:Ctx)(c:Code)(Q:Exit->Sg->Prop)(σ σ1:Sg)(W0:List Nat):Prop:=
 ∀ (a0:Act) (w0:World) (ρ:Nat->Nat) (Fe Fb:Nat->List Nat),StW C σ a0 w0 ρ Fe Fb->∀ (a:Act) (w:World),St (C.inl w0) σ1 a w->(∀ t,W0.contains t=false->a.tmps[t]? = a0.tmps[t]?) ->
  c.wpIn (Fx C) 3 P (λe a' w'=>∃ σ',St C σ' a' w'/\Q e σ') a w
theorem W.inl{c:Code}(env1:List (Nat×D))(hb:BorE C.gl σ env1)(h:WIn P C c Q σ ⟨σ.n,env1,[]⟩ []):W P C c Q σ:=by
 intro a w ⟨ρ,Fe,Fb,st⟩;exact h a w ρ Fe Fb st a w ⟨_,_,_,st.inl hb⟩ (λ_ _=>rfl)
theorem WIn.seq{x y:Code}{W0:List Nat}(h:WIn P C x (λe s=>match e with | .normal=>W P C y Q s|e=>Q e s) σ σ1 W0):WIn P C (.seq x y) Q σ σ1 W0:=by
 intro a0 w0 ρ Fe Fb st a w hs hf;refine wpIn_seq ?_;refine Y4 ?_ (h a0 w0 ρ Fe Fb st a w hs hf);intro e a' w' ⟨s,hs',hq⟩
 cases e<;>first|exact hq a' w' hs'|exact⟨s,hs',hq⟩
theorem WIn.region{id:Nat}{W0:List Nat}(k:Nat)(env2:List (Nat×D)){l:List Oper}
 (h1:∀ C':Ctx,C'.gl=C.gl->C'.rd=C.rd->C'.df=C.df->(∀ id b,C'.pin id=some b->L6 [] id=true)->TL P C' (λe s=>e=.normal/\s.n=σ.n/\Back σ s (W0++dsts (l.take k)) env2) (l.take k) σ1)
 (h2:TL P C Q (l.drop k) ⟨σ.n,env2,σ.bx⟩):WIn P C (.region id l.toArray false) Q σ σ1 W0:=by
 intro a0 w0 ρ Fe Fb st a w hs hf;refine wpIn_region_lit ?_;generalize hl1:l.take k=l1 at h1;generalize hl2:l.drop k=l2 at h2
 have hl:l=l1++l2:=by rw[<- hl1,<- hl2,K8]
 clear hl1 hl2;subst hl;have hw1:=(h1 (C.inl w0) rfl rfl rfl (λid b hp=>by cases hp)).wpList (ops:=l1++l2) a w hs;refine DH l1 a w (F:=Fx C) hw1 ?_ ?_
 ·rintro e a' w' he ⟨s,_,rfl,_⟩;exact absurd rfl he
 ·rintro a' w' ⟨s,⟨ρ1,Fe1,Fb1,st1⟩,_,hn,hB⟩ hfr;refine(h2.wpList (ops:=l1++l2)) a' w' ⟨ρ,_,Fb,st.back st1 hn (λt ht=>?_) hB⟩
  have h3:W0.contains t=false/\(dsts l1).contains t=false:=by simpa [List.contains_append] using ht
  rw[hfr t (λhm=>by rw[H0.2 hm] at h3;cases h3.2),hf t h3.1]
theorem v55{l:List Oper}(k:Nat)(env1 env2:List (Nat×D))(hb:BorE C.gl σ env1)
 (h1:∀ C':Ctx,C'.gl=C.gl->C'.rd=C.rd->C'.df=C.df->(∀ id b,C'.pin id=some b->L6 [] id=true)->TL P C' (λe s=>e=.normal/\s.n=σ.n/\Back σ s (dsts (l.take k)) env2) (l.take k) ⟨σ.n,env1,[]⟩)
 (h2:TL P C Q (l.drop k) ⟨σ.n,env2,σ.bx⟩):WL P C ops l Q σ:=by
 generalize hl1:l.take k=l1 at h1;generalize hl2:l.drop k=l2 at h2
 have hl:l=l1++l2:=by rw[<- hl1,<- hl2,K8]
 clear hl1 hl2;subst hl;intro a w ⟨ρ,Fe,Fb,st⟩;have hw1:=(h1 (C.inl w) rfl rfl rfl (λid b hp=>by cases hp)).wpListO ops a w ⟨_,_,_,st.inl hb⟩;refine DH l1 a w (F:=Fx C) hw1 ?_ ?_
 ·rintro e a' w' he ⟨s,_,rfl,_⟩;exact absurd rfl he
 ·rintro a' w' ⟨s,⟨ρ1,Fe1,Fb1,st1⟩,_,hn,hB⟩ hfr;exact(h2.wpListO ops) a' w' ⟨ρ,_,Fb,st.back st1 hn (λt ht=>hfr t (by intro hm;rw[H0.2 hm] at ht;cases ht)) hB⟩
theorem RY{F:Fence}{n:Nat}{md:Region.Mode}{os:List Oper}{Q:Exit->Act->World->Prop}(a0:Act)(hd:∀ o∈os,∀ t,o.dst=some t->t∈dsts os):∀ (fuel:Nat) (listed:Array Bool) (a:Act) (w:World),
 (∀ t,(dsts os).contains t=false->a.tmps[t]? = a0.tmps[t]?)->wpAnyIn F n P md os.toArray Q fuel listed a w ->
 wpAnyIn F n P md os.toArray (λe a' w'=>Q e a' w'/\(e=.normal->∀ t,(dsts os).contains t=false->a'.tmps[t]? = a0.tmps[t]?)) fuel listed a w:=by
 intro fuel
 induction fuel with
 | zero=>intro listed a w hf h;exact⟨h.1,h.2,λ_=>hf⟩
 | succ fuel ih=>
  intro listed a w hf h;refine⟨λhr=>⟨h.1 hr,λ_=>hf⟩,λi hi=>?_⟩;have h1:=h.2 i hi;unfold wpOpIn at h1 ⊢
  cases ho:os.toArray[i]? with
  | none=>rw[ho] at h1;exact ih _ _ _ hf h1
  | some o=>
   rw[ho] at h1;simp only at h1 ⊢;have hmem:o∈os:=H9 (by simpa using ho)
   have hput:∀ (b:Act) (v:Value),b.tmps=a.tmps->∀ t,(dsts os).contains t=false->(b.put o.dst v).tmps[t]? = a0.tmps[t]?:=λb v hb t ht=>by
    rw[SF (λe=>by rw[H0.2 (hd o hmem t e)] at ht;cases ht),hb];exact hf t ht
   have hstep:∀ (b:Act) (w1:World) (v:Value),b.tmps=a.tmps->wpAnyIn F n P md os.toArray Q fuel (listed.setIfInBounds i true) (b.put o.dst v) w1 ->
    wpAnyIn F n P md os.toArray (λe a' w'=>Q e a' w'/\(e=.normal->∀ t,(dsts os).contains t=false->a'.tmps[t]? = a0.tmps[t]?)) fuel (listed.setIfInBounds i true) (b.put o.dst v) w1:=λb w1 v hb hx=>ih _ _ _ (hput b v hb) hx
   split
   ·rename_i hw;simp only[hw,w5] at h1;exact⟨h1.1,DD hstep (λe a w he hq=>⟨hq,λhn=>absurd hn he⟩) h1.2⟩
   ·rename_i hw;simp only[hw,q8,q7] at h1;exact⟨h1.1,hstep a w undef rfl h1.2⟩
theorem w92{os:List Oper}:∀ o∈os,∀ t,o.dst=some t->t∈dsts os:=by
 induction os with
 | nil=>intro o h;cases h
 | cons x r ih=>
  intro o h t ht
  rcases w8.1 h with rfl|h
  ·simp[dsts,ht]
  ·have:=ih o h t ht;unfold dsts;split
   ·exact j5 _ this
   ·exact this
def WA(P:Program)(C:Ctx)(ops:List Oper)(Q:Exit->Sg->Prop)(σ:Sg):Prop:=
 ∀ a w,St C σ a w->wpAnyIn (Fx C) 3 P .any ops.toArray (λe a' w'=>∃ σ',St C σ' a' w'/\Q e σ') ops.toArray.size (Array.replicate ops.toArray.size false) a { w with drawn:=w.drawn+1 }
theorem v56{ops:List Oper}{an:List Nat}{ks kk:List (Nat×Nat)}{its:List It}{m n':Nat}{bx':List (Nat×Bx)}(hA0:DJ ops an m=true)(hlen:its.length=m)(H:ItOk P C σ ops an ks kk its){live:List Nat}{env':List (Nat×D)}(hE:picks (afts an (λ_=>true) ks σ.env its) live=env')
 (hb:σ.bx=bx') (hn:σ.n=n') (hT:TL P C Q (ops.drop its.length) ⟨n',env',bx'⟩):WA P C ops Q σ:=by
 intro a w hs
 have hc:Cl ops (Array.replicate ops.toArray.size false):=⟨by simp,λi o _ hd=>by
  have:=I6 hd;simp at this
  simp[this] at hd⟩
 have hA:DJ ops an its.length=true:=by rw[hlen];exact hA0
 subst hb;subst hn;refine TA hA H hE hT _ _ a _ σ hc ?_ ?_ (hs.ext (Ext.drew w)) ⟨rfl,rfl,λu x hx=>?_⟩
 ·simp
 ·intro j _ hj;simp[hj]
 ·unfold afts at hx;generalize hb:bads _ ks u=bb at hx
  cases bb with
  | true=>cases hx
  | false=>
   simp only[p6] at hx
   rcases N9 its u with hu|⟨k,dk,wk,hk⟩
   ·rw[O0 hu] at hx;exact hx
   ·rw[L7 (f6 H.ts).1 hk] at hx
    have e:(Array.replicate ops.toArray.size false).getD (0+k) false=false:=by
     simp only[n3,P7]
     split<;>rfl
    rw[e] at hx;exact hx
theorem VY{F:Fence}{n:Nat}{md:Region.Mode}{ops:Array Oper}{Q Q':Exit->Act->World->Prop}(hq:∀ e a w,Q e a w->Q' e a w):∀ (fuel:Nat) (listed:Array Bool) (a:Act) (w:World),wpAnyIn F n P md ops Q fuel listed a w->wpAnyIn F n P md ops Q' fuel listed a w:=by
 intro fuel
 induction fuel with
 | zero=>intro listed a w h;exact⟨h.1,hq _ _ _ h.2⟩
 | succ fuel ih=>
  intro listed a w h;refine⟨λhr=>hq _ _ _ (h.1 hr),λi hi=>?_⟩;have h1:=h.2 i hi;unfold wpOpIn at h1 ⊢
  cases ho:ops[i]? with
  | none=>rw[ho] at h1;exact ih _ _ _ h1
  | some o=>
   rw[ho] at h1;simp only at h1 ⊢;split
   ·rename_i hw;simp only[hw,w5] at h1;exact⟨h1.1,DD (λb w v _ hx=>ih _ _ _ hx) (λe a w _ hx=>hq e a w hx) h1.2⟩
   ·rename_i hw;simp only[hw,q8,q7] at h1;exact⟨h1.1,ih _ _ _ h1.2⟩
theorem u24{id:Nat}{ops:List Oper}{y:Code}{W0:List Nat}{σ2:Sg}(hm:P.follows .mixedOrders=true)
 (h1:∀ C':Ctx,C'.gl=C.gl->C'.rd=C.rd->C'.df=C.df->(∀ id b,C'.pin id=some b->L6 [] id=true)->WA P C' ops (λe s=>e=.normal/\s=σ2) σ1)
 (h2:WIn P C y Q σ σ2 (W0++dsts ops)):WIn P C (.seq (.region id ops.toArray true) y) Q σ σ1 W0:=by
 intro a0 w0 ρ Fe Fb st a w hs hf;refine wpIn_seq ?_;refine wpIn_region_any hm ?_;have h3:=RY (os:=ops) a w92 _ _ a _ (λ_ _=>rfl) (h1 (C.inl w0) rfl rfl rfl (λid b hp=>by cases hp) a w hs);refine VY ?_ _ _ _ _ h3;rintro e a' w' ⟨⟨s,hs',rfl,rfl⟩,hfr⟩;refine h2 a0 w0 ρ Fe Fb st a' w' hs' (λt ht=>?_)
 have h4:W0.contains t=false/\(dsts ops).contains t=false:=by simpa [List.contains_append] using ht
 rw[hfr rfl t h4.2,hf t h4.1]
theorem v93{c:Code}{s:Nat}{d d':D}(h:σ.get s=some d)(hr:d.isRef=false)(hr':d'.isRef=false)(hw:Wk d d')(k:W P C c Q (σ.upd s d')):W P C c Q σ:=by
 intro a w ⟨ρ,Fe,Fb,st⟩;obtain⟨v,hv,hvr⟩:=(m9 hr).1 (st.env _ _ h)
 have hgd:∀ b,gd C Fe Fb b->gd C (Go.Sx.upd Fe s (Fe s)) Fb b:=λb hb=>⟨hb.1,λhc=>hb.2 (hc.imp (λ⟨u,hu⟩=>⟨u,by
  by_cases hus:u=s
  ·subst hus;rwa [m7] at hu
  ·rwa [j6 hus] at hu⟩) id)⟩
 refine k a w ⟨ρ,_,Fb,st.turn (F:=Fe s) h rfl ⟨rfl,z5 _⟩ rfl (z5 _) (λ_ _ _=>rfl) (st.nodE s) (λb hb=>.inl hb) ((m9 hr').2 ⟨v,hv, ?_⟩)⟩;have h2:=hvr.mono (w':=w) (ρ':=ρ) (G':=gd C (Go.Sx.upd Fe s (Fe s)) Fb) (L':=λid=>(σ.box id).isSome) (λ_ _ _=>rfl) (λb hb _=>hgd b hb) (λid hid=>⟨hid,rfl⟩);unfold VR at h2 ⊢;rw[hw.isAgg]
 cases hd:d.isAgg<;>simp only[hd,w5,q8,q7] at h2 ⊢
 ·exact h2.wk hw
 ·obtain⟨cs,rfl,h2⟩:=h2;exact⟨cs,rfl,h2.wk hw⟩
theorem R.wkT{o:Oper}{τ:Sg}{t:Nat}{r r':D}(h:OpS P C o σ (τ.set t r))(hr:r.isRef=false)(hr':r'.isRef=false)(he:Wk r r'):OpS P C o σ (τ.set t r'):=by
 intro a w hs K Q hK;refine h a w hs K Q λa' w' hs'=>hK a' w' ?_
 have h1:(τ.set t r).get t=some r:=by rw[E2];simp
 obtain⟨ρ,Fe,Fb,st⟩:=hs';obtain⟨v,hv,hvr⟩:=(m9 hr).1 (st.env _ _ h1)
 have hgd:∀ b,gd C Fe Fb b->gd C (Go.Sx.upd Fe t (Fe t)) Fb b:=λb hb=>⟨hb.1,λhc=>hb.2 (hc.imp (λ⟨u,hu⟩=>⟨u,by
  by_cases hus:u=t
  ·subst hus;rwa [m7] at hu
  ·rwa [j6 hus] at hu⟩) id)⟩
 have st2:St C ((τ.set t r).upd t r') a' w':=by
  refine⟨ρ,_,Fb,st.turn (F:=Fe t) h1 rfl ⟨rfl,z5 _⟩ rfl (z5 _) (λ_ _ _=>rfl) (st.nodE t) (λb hb=>.inl hb) ((m9 hr').2 ⟨v,hv, ?_⟩)⟩;have h2:=hvr.mono (w':=w') (ρ':=ρ) (G':=gd C (Go.Sx.upd Fe t (Fe t)) Fb) (L':=λid=>((τ.set t r).box id).isSome) (λ_ _ _=>rfl) (λb hb _=>hgd b hb) (λid hid=>⟨hid,rfl⟩);unfold VR at h2 ⊢;rw[he.isAgg]
  cases hd:r.isAgg<;>simp only[hd,w5,q8,q7] at h2 ⊢
  ·exact h2.wk he
  ·obtain⟨cs,rfl,h2⟩:=h2;exact⟨cs,rfl,h2.wk he⟩
 refine st2.weaken rfl rfl λu d hd=>?_;rw[ZW,E2];rw[E2] at hd;by_cases hu:u=t
 ·subst hu;simpa using hd
 ·simpa [hu] using hd
end
section
variable{P:Program}{C:Ctx}{σ σ' σ1:Sg}{a:Act}{w w':World}{ρ:Nat->Nat}{Fe Fe' Fb:Nat->List Nat}
variable{ops:List Oper}{an:List Nat}{ks kk:List (Nat×Nat)}{its:List It}
end
def OD(b:List UInt8):D:=.sl (some 5) 1 (b.map D.u8)
def CQ(x:InS):D:=.agg [.agg [w7 x.tx,.u32 x.n],OD x.script,.u32 x.seq,.sl (some 24) 1 (x.wit.map OD)]
def XE(o:OutS):D:=.agg [.u64 o.value,OD o.script]
def KB(t:TxS):D:=.agg [.u32 t.ver,.sl (some 112) 36 (t.ins.map CQ),.sl (some 115) 2 (t.outs.map XE),.u32 t.lock]
def BT(b:BlkS):D:=.agg [M5 b.hd,.sl (some 31) 4 (b.txs.map KB)]
theorem XP{α:Type}{f g:α->D}(h:∀ x,(f x).brw=g x)(l:List α):(l.map f).map D.brw=l.map g:=by
 rw[N7];exact QK λx _=>h x
theorem BL(b:List UInt8):(OD b).brw=YW b:=by
 simp only[OD,YW,D.brw,D1];rw[XP (g:=D.u8) (λ_=>rfl)]
theorem j61(x:InS):(CQ x).brw=YL x:=by
 simp only[CQ,YL,D.brw,D1,d9,Z8,W3,BL];rw[XP BL]
theorem k03(x:OutS):(XE x).brw=r9 x:=by
 simp only[XE,r9,D.brw,D1,d9,Z8,BL]
theorem j57(t:TxS):(KB t).brw=r8 t:=by
 simp only[KB,r8,D.brw,D1,d9,Z8];rw[XP j61,XP k03]
theorem BS(b:BlkS):(BT b).brw=J7 b:=by
 simp only[BT,J7,D.brw,D1,d9,Z8,CW];rw[XP j57]
theorem z18{a b c d:D}(h1:Frs a)(h2:Frs b)(h3:Frs c)(h4:Frs d):∀ x∈[a,b,c,d],Frs x:=λx hx=>by
 simp only[w8,E7,or_false] at hx
 rcases hx with rfl|rfl|rfl|rfl<;>assumption
theorem ZK{a b:D}(h1:Frs a)(h2:Frs b):∀ x∈[a,b],Frs x:=λx hx=>by
 simp only[w8,E7,or_false] at hx
 rcases hx with rfl|rfl<;>assumption
theorem JL(b:List UInt8):Frs (OD b):=.sl _ _ _ (J5 (λx=>.u8 x))
theorem j49(x:InS):Frs (CQ x):=.agg _ (z18 (.agg _ (ZK (B4 _) (.u32 _))) (JL _) (.u32 _) (.sl _ _ _ (J5 JL)))
theorem z90(x:OutS):Frs (XE x):=.agg _ (ZK (.u64 _) (JL _))
theorem OX(t:TxS):Frs (KB t):=.agg _ (z18 (.u32 _) (.sl _ _ _ (J5 j49)) (.sl _ _ _ (J5 z90)) (.u32 _))
theorem z92(b:BlkS):Frs (BT b):=.agg _ (ZK (k63 _) (.sl _ _ _ (J5 OX)))
theorem j48(t:TxS)(b:Bool):FrsR (.tup [KB t,.bool b]):=.inl ⟨_,rfl,ZK (OX t) (.bool b)⟩
theorem z19(x:BlkS)(b:Bool):FrsR (.tup [BT x,.bool b]):=.inl ⟨_,rfl,ZK (z92 x) (.bool b)⟩
theorem g11(h:Hs)(n q:UInt32):Wk (.agg [.agg [w7 h,.u32 n],.nils,.u32 q,.nils]) (CQ ⟨h,n,[],q,[]⟩):=
 .aggL (.cons (.refl _) (.cons (.nils _ _) (.cons (.refl _) (.cons (.nils _ _) .nil))))
theorem q50:Wk (.agg [.u32 0,.nils,.nils,.u32 0]) (KB SU):=
 .aggL (.cons (.refl _) (.cons (.nils _ _) (.cons (.nils _ _) (.cons (.refl _) .nil))))
theorem v98(v k:UInt32)(h:Hs)(n q:UInt32):Wk (.agg [.u32 v,.sl (some 112) 36 [.agg [.agg [w7 h,.u32 n],.nils,.u32 q,.nils]],.nils,.u32 k]) (.agg [.u32 v,.sl (some 112) 36 ([(⟨h,n,[],q,[]⟩:InS)].map CQ),.sl (some 115) 2 (([]:List OutS).map XE),.u32 k]):=
 .aggL (.cons (.refl _) (.cons (.slL (.cons (g11 h n q) .nil)) (.cons (.nils _ _) (.cons (.refl _) .nil))))
def y23(s:SpS)(sum:UInt64)(i:Nat):UInt64:=
 let v:=sum/UInt64.ofInt ((s.to.length:Nat):Int)
 if i=0 then v-min v s.part.toUInt64 else v
theorem g32{s:SpS}{sum:UInt64}{i:Nat}(h:i=0):y23 s sum i=sum/UInt64.ofInt ((s.to.length:Nat):Int)-(if s.part.toUInt64<sum/UInt64.ofInt ((s.to.length:Nat):Int) then s.part.toUInt64 else sum/UInt64.ofInt ((s.to.length:Nat):Int)):=by
 unfold y23;rw[j7 h]
 congr 1
 show(if _<=_ then _ else _)=_;by_cases hc:s.part.toUInt64<sum/UInt64.ofInt ((s.to.length:Nat):Int)
 ·rw[j7 hc,z8 (λh=>by rw[D2] at h;rw[X5] at hc;omega)]
 ·rw[z8 hc,j7 (by rw[D2];rw[X5] at hc;omega)]
theorem g31{s:SpS}{sum:UInt64}{i:Nat}(h:¬ i=0):y23 s sum i=sum/UInt64.ofInt ((s.to.length:Nat):Int):=by
 unfold y23;rw[z8 h]
theorem q60(s:SpS)(sum:UInt64)(i:Nat):KI s sum (i+1)=KI s sum i++[⟨y23 s sum i,BN (s.to[i]!%12)⟩]:=by
 unfold KI;rw[M3,d8];rfl
theorem z63(s:SpS)(sum:UInt64)(i:Nat):(KI s sum i).map XE++[.agg [.u64 (y23 s sum i),.sl (some 5) 1 ((BN (s.to[i]!%12)).map D.u8)]]=(KI s sum (i+1)).map XE:=by
 rw[q60,d8];rfl
theorem y00{n:Nat}(h0:¬ n=0)(h:n<=140737488355328):UInt64.ofInt ((n:Nat):Int)≠0:=by
 intro e;have:=g6 UInt64.toNat e
 have h2:(UInt64.ofInt ((n:Nat):Int)).toNat=n%2^64:=by
  unfold UInt64.ofInt;rw[U9];omega
 rw[h2] at this;have h3:(0:UInt64).toNat=0:=rfl;omega
section
variable{s:SpS}{av:List (Plc×UInt64)}{mark:UInt32}
theorem u76(h:s.two=true)(h2:s.from_.toNat%av.length+1<av.length):YP s av=[⟨av[s.from_.toNat%av.length]!.1.1,av[s.from_.toNat%av.length]!.1.2,[],s.extra.toUInt32,[]⟩,⟨av[s.from_.toNat%av.length+1]!.1.1,av[s.from_.toNat%av.length+1]!.1.2,[s.extra],0,[[s.part],[]]⟩]:=by
 unfold YP;exact j7 ⟨h,h2⟩
theorem k27(h:¬ (s.two=true/\s.from_.toNat%av.length+1<av.length)):YP s av=[⟨av[s.from_.toNat%av.length]!.1.1,av[s.from_.toNat%av.length]!.1.2,[],s.extra.toUInt32,[]⟩]:=by
 unfold YP;exact z8 h
theorem u75(h:s.two=true)(h2:s.from_.toNat%av.length+1<av.length):YB s av=av[s.from_.toNat%av.length]!.2+av[s.from_.toNat%av.length+1]!.2:=by
 unfold YB;exact j7 ⟨h,h2⟩
theorem k26(h:¬ (s.two=true/\s.from_.toNat%av.length+1<av.length)):YB s av=av[s.from_.toNat%av.length]!.2:=by
 unfold YB;exact z8 h
theorem g35(h:av.length=0):RD s av mark=(SU,false):=by
 unfold RD VS;rw[D3 h];rfl
theorem g34(h:s.to.length=0):RD s av mark=(SU,false):=by
 unfold RD VS;rw[D3 h,Bool.or_true];rfl
theorem v73(h:¬ av.length=0)(h2:¬ s.to.length=0):RD s av mark=(g33 s av mark,true):=by
 unfold RD VS;rw[K7 h,K7 h2];rfl
end
section
open Go.Proofs
theorem z62(s:SpS)(av:List (Plc×UInt64))(mark:UInt32)(ha:av.length<=1000000000)(ht0:s.to.length<=140737488355328):Fn Tryz.prog gl 73 [x05 s,.sl none 33 (av.map PF),.sl none 1 (av.map NX),.u32 mark] (.tup [KB (RD s av mark).1,.bool (RD s av mark).2]):=by
 refine Fo 122 Tryz.func73 O λC hC hD=>?_;refine n5 3 [] (V4 0 1 2 3) Zt O (⟨O,_,R.box (gV 0 O) O O nU,(I9 O ⟨O,_,J9 (kB false O) O nU,tW (V5 1 2 3 4 8) (B7 8 4) 122 O ?_⟩)⟩);refine W.seq (W.seq ?_);by_cases h1:av.length=0
 ·refine N0 9 [.y 15 _,.y 16 _,.y 17 _,.y 18 _,.x 19,.x 20,.x 21,.x 22,.y 23 _] (V6 1 2 3 4 8 23) ⟨xM O,aU<|P8 O,aU<|GZ 0 O,xM O,R3 O (dT h1),R3 O (dT h1),R3 O (dT h1),R3 O (dT h1),aU<|EW O (dT h1) (kB true O),Zt⟩ ?_;refine G6 O (O) ?_;refine n5 3 (y1 24) (V2 8 24) ⟨λ_ _ H _=>P5 (l:=[.u32 0,.nils,.nils,.u32 0]) (l':=[_,_,_,_]) (.nil O) Zt H,Zt⟩ O (M9 O ⟨O,_,J9 (kB false O) O nU,tW (V2 8 9) (B7 8 4) 122 O ?_⟩);refine z47 8 (d':=KB SU) (bx':=(B7 8 4)) O q50 O ?_;exact W.ret (Ends.many (.inr O) (.cons O O O (iL 31 4) (.cons O O O Zt .nil)) (by rw[g35 h1]) (show[(8,false),(9,true)].Nodup by decide))
 ·refine N0 9 (y9 15 16 17 18 19 20 21 22 23) (V6 1 2 3 4 8 23) ⟨xM O,aU<|P8 O,aU<|GZ 0 O,xM O,aN O (dF h1) (xF O),aN O (dF h1) (xL O),aN O (dF h1)<|P8 O,aN O (dF h1)<|GZ 0 O,aU<|zF O (dF h1),Zt⟩ ?_;refine g7 O (λhc23=>?_) (λhc23=>?_)
  ·refine n5 3 (y1 24) (V2 8 24) ⟨λ_ _ H _=>P5 (l:=[.u32 0,.nils,.nils,.u32 0]) (l':=[_,_,_,_]) (.nil O) Zt H,Zt⟩ O (M9 O ⟨O,_,J9 (kB false O) O nU,tW (V2 8 9) (B7 8 4) 122 O ?_⟩);refine z47 8 (d':=KB SU) (bx':=(B7 8 4)) O q50 O ?_;exact W.ret (Ends.many (.inr O) (.cons O O O (iL 31 4) (.cons O O O Zt .nil)) (by rw[g34 hc23]) (show[(8,false),(9,true)].Nodup by decide))
  ·refine W.skip (u4 7 (y7 25 26 27 28 29 30 10) (V6 1 2 3 4 8 10) ⟨xF O,xL O,zW O,zV O,P8 O,λ_ _ H K=>KH (s.from_.toNat) (av.length) (eU K 27 O) (eU K 29 O) bU H,zA O,Zt⟩ ?_);refine W.seq ?_;have hkl:=G8 s.from_.toNat (show 0<av.length by omega);refine QE (m:=12) (an:=[0,0,0,6,14,0,32,96,254,510,1023,0,4095]) (its:=(u51 31 32 33 34 35 36 37 38 39 40 41 11)) (ks:=[(10,40)]) (kk:=[(10,40)]) (efs:=[(11,(B2 11))]) (live:=[1,2,4,8,10,11,41]) (env':=(V7 1 2 4 8 10 11 41)) (nd:=40) (bx1:=(i5 11 8 4)) hP dU O ⟨⟨140,O⟩,nU O,O,O,O,O⟩ (          ⟨⟨O,nU O,O,λ_ τ hb ht hτ=>R.mov (evt (hτ 3 _ O)) O ht⟩,⟨⟨O,nU O,O,λ_ τ hb ht hτ=>R.mov (evt (hτ 1 _ O)) O ht⟩,⟨⟨O,nU O,O,λ_ τ hb ht hτ=>R.mov (evt (hτ 10 _ O)) O ht⟩,⟨⟨O,nU O,O,λ_ τ hb ht hτ=>R.idxN ((s.from_.toNat%av.length)) (SC.sl (hτ 32 _ O)) (C4 (evt (hτ 33 _ O))) O bU ht dU⟩,⟨⟨O,nU O,O,λ_ τ hb ht hτ=>R.ldE (hτ 34 _ O) (SC.sl (hτ 32 _ O)) (mG av) O O O O ht⟩,⟨⟨O,nU O,O,λ_ τ hb ht hτ=>R.fdP (hτ 4 _ O) ht⟩,⟨⟨O,nU O,O,λ_ τ hb ht hτ=>R.ldP (hτ 36 _ O) (hb 4 _ O) O O O O ht⟩,⟨⟨O,nU O,O,λ_ τ hb ht hτ=>W5 (d:=.u32 s.extra.toUInt32) (evt (hτ 37 _ O)) O (O) ht⟩,⟨⟨O,nU O,O,λ_ τ hb ht hτ=>P5 (l:=[.agg [.arr 32 1 ((List.replicate 32 0).map D.u8),.u32 0],.nils,.u32 0,.nils]) (l':=[_,_,_,_]) (.cons (evt (hτ 35 _ O)) (.cons (evt (hτ 38 _ O)) (.nil O))) ⟨⟨_,(evt (hτ 35 _ O)),O,O,O⟩,⟨⟨_,(evt (hτ 38 _ O)),O,O,O⟩,Zt⟩⟩ ht⟩,⟨⟨O,nU O,O,λ_ τ hb ht hτ=>J3 (z:=36) (.cons (evt (hτ 39 _ O)) .nil) ⟨⟨O,O,O⟩,Zt⟩ O ht dU⟩,⟨⟨O,nU O,O,λ_ τ hb ht hτ=>R.bldO (l:=[.u32 0,.nils,.nils,.u32 0]) (l':=[_,_,_,_]) (.pur (kW (.int .u32 2) (.u32 2) O) O O O (.pur (evt (hτ 31 _ O)) O O O (.own (hτ 40 _ O) O O O O (.nil O)))) O ht⟩,⟨⟨O,O,⟨O,nU O⟩,(SpE.alloc O nU)⟩,Zt⟩⟩⟩⟩⟩⟩⟩⟩⟩⟩⟩⟩) O O O (n':=122) O (⟨O,_,e9 (gU 11 O) (xU 11 O) O (gU 41 O) O O (by rfl) (by rfl) O O,⟨[1,2,4,8,10,11],(V6 1 2 4 8 10 11),(i5 11 8 4),122,O,O,O, ?_⟩⟩);refine W.seq ?_;refine z47 11 (d':=.agg [.u32 2,.sl (some 112) 36 ([(⟨av[(s.from_.toNat%av.length)]!.1.1,av[(s.from_.toNat%av.length)]!.1.2,[],s.extra.toUInt32,[]⟩:InS)].map CQ),.sl (some 115) 2 (([]:List OutS).map XE),.u32 mark]) (bx':=(i5 11 8 4)) O (v98 _ _ _ _ _) O ?_;refine n4 5 (y5 42 43 44 45 12) (V7 1 2 4 8 10 11 12) ⟨zV O,zV O,zI ((s.from_.toNat%av.length)) O,zL O (mG av),zA O,Zt⟩ ?_;refine q34 (λs__=>∃ q__:{q__:Unit//True},s__=⟨122,[(4,.ptr 4 0 []),(8,.ptr 8 0 []),(11,.ptr 11 0 []),(12,.u64 (YB s av))],[(11,.var (.agg [.u32 2,.sl (some 112) 36 ((YP s av).map CQ),.sl (some 115) 2 (([]:List OutS).map XE),.u32 mark])),(8,.var (.agg [.u32 0,.nils,.nils,.u32 0])),(4,.var (x05 s))]⟩) ?_ ?_
   ·refine W.seq ?_;by_cases h2:s.two=true
    ·refine N0 9 (y9 46 47 48 49 50 51 52 53 54) (V8 1 2 4 8 10 11 12 54) ⟨aU (xF O),aU (xL O),xM O,aT O (h2)<|zV O,aT O (h2)<|P1 1 O,aT O (h2)<|zV O,aT O (h2)<|P8 O,aT O (h2)<|zS O,aU<|zT O (h2),Zt⟩ ?_;refine g7 O (λhc54=>?_) (λhc54=>?_)
     ·refine W.seq ?_;refine KF 17 [0,1,0,0,8,28,60,0,128,384,0,1024,3072,0,15360,32764,65532,131071,262143,524287] hP dU (h21 55 56 57 58 59 60 61 62 63 64 65 66 67 68 69 70 71) [(14,67),(14,68),(15,64),(15,69),(16,70)] [(14,67),(14,68),(15,64),(15,69),(16,70)] (V8 2 4 8 10 11 12 56 71) ⟨aU (xF O),aU λ_ B H K=>R.ldO (K 55 _ O) (B 11 _ O) O H,xM O,xM O,aU<|P1 1 O,aU<|zI (((s.from_.toNat%av.length)+1)) O,aU<|zL O (mG av),aU (xF O),aU (xL O),aU λ_ _ H K=>J3 (z:=1) (.cons (eU K 63 O) .nil) ⟨⟨O,O,O⟩,Zt⟩ O H dU,aU (xF O),aU (xL O),aU λ_ _ H K=>J3 (z:=1) (.cons (eU K 66 O) .nil) ⟨⟨O,O,O⟩,Zt⟩ O H dU,aU λ_ _ H _=>J3 .nil Zt O H dU,aU λ_ _ H K=>R.bslO (z:=1) (.own (K 67 _ O) O O O O (.own (K 68 _ O) O O O O .nil)) O O H dU,aU λ_ _ H K=>R.bldO (l:=[.agg [.arr 32 1 ((List.replicate 32 0).map D.u8),.u32 0],.nils,.u32 0,.nils]) (l':=[_,_,_,_]) (.pur (eU K 61 O) O O O (.own (K 64 _ O) O O O O (.own (K 69 _ O) O O O O (.nil O)))) O H,aU λ_ _ H K=>R.bslO (z:=36) (.own (K 70 _ O) O O O O .nil) O O H dU,Zt⟩ O (⟨O,_,NQ (gU 56 O) (xU 11 O) O O O O (gU 56 O) (gU 71 O) O (show _=([(⟨av[(s.from_.toNat%av.length)]!.1.1,av[(s.from_.toNat%av.length)]!.1.2,[],s.extra.toUInt32,[]⟩:InS),(⟨av[(s.from_.toNat%av.length)+1]!.1.1,av[(s.from_.toNat%av.length)+1]!.1.2,[s.extra],0,[[s.part],[]]⟩:InS)].map CQ) from(O)) (by simp) nU dU dU,⟨O,_,R.fdP (gU 11 O) nU,⟨O,_,e9 (gU 73 O) (xU 11 O) O (gU 72 O) O O (by rfl) (by rfl) O O,tW (V6 2 4 8 10 11 12) (i5 11 8 4) 122 O ?_⟩⟩⟩);refine n4 8 (y8 74 75 76 77 78 79 80 12) (V4 4 8 11 12) ⟨zV O,zV O,zV O,P1 1 O,zI (((s.from_.toNat%av.length)+1)) O,zL O (mG av),zB O,zA O,Zt⟩ ?_;exact⟨⟨(()),Zt⟩,(by rw[u76 h2 hc54,u75 h2 hc54]<;>rfl)⟩
     ·refine E9 (V4 4 8 11 12) (i5 11 8 4) 122 O ?_;refine W.skip ?_;exact⟨⟨(()),Zt⟩,(by rw[k27 (λh=>hc54 h.2),k26 (λh=>hc54 h.2)]<;>rfl)⟩
    ·refine N0 9 [.y 46 _,.y 47 _,.y 48 _,.x 49,.x 50,.x 51,.x 52,.x 53,.y 54 _] (V8 1 2 4 8 10 11 12 54) ⟨aU (xF O),aU (xL O),xM O,O5 O (bfalse h2),O5 O (bfalse h2),O5 O (bfalse h2),O5 O (bfalse h2),O5 O (bfalse h2),aU<|FQ O (bfalse h2) (kB false O),Zt⟩ ?_;refine Y7 O (O) ?_;refine E9 (V4 4 8 11 12) (i5 11 8 4) 122 O ?_;refine W.skip ?_;exact⟨⟨(()),Zt⟩,(by rw[k27 (λh=>h2 h.1),k26 (λh=>h2 h.1)]<;>rfl)⟩
   ·rintro s__ ⟨⟨_,_⟩,rfl⟩;refine W.seq (u4 1 (y1 13) (V5 4 8 11 12 13) ⟨O3 0 O,Zt⟩ ?_);refine W.block ?_;refine P2 (min s.to.length 4) (λi=>⟨122,[(4,.ptr 4 0 []),(8,.ptr 8 0 []),(11,.ptr 11 0 []),(12,.u64 (YB s av)),(13,.int ((i:Nat):Int))],[(11,.var (.agg [.u32 2,.sl (some 112) 36 ((YP s av).map CQ),.sl (some 115) 2 ((KI s (YB s av) i).map XE),.u32 mark])),(8,.var (.agg [.u32 0,.nils,.nils,.u32 0])),(4,.var (x05 s))]⟩) O λi hi=>?_;refine W.seq (W.seq ?_);by_cases h4:i<s.to.length
    ·refine N0 9 (y9 81 82 83 84 85 86 87 88 89) (V6 4 8 11 12 13 89) ⟨xM O,aU (xF O),aU (xL O),aU<|P8 O,aU<|zS O,xM O,aT O (dT h4)<|zV O,aT O (dT h4)<|GV 4 O,aU<|zT O (dT h4),Zt⟩ ?_;refine g7 O (λhc89=>?_) (λhc89=>?_)
     ·refine W.skip (W.seq (W.block (u4 7 (y7 92 93 94 95 96 97 14) (V6 4 8 11 12 13 14) ⟨zV O,xF O,xL O,P8 O,zW O,λ_ _ H K=>R.bin (eU K 92 O) (eU K 96 O) O (y00 hc23 ht0) H,zA O,Zt⟩ ?_)));refine q34 (λs__=>∃ q__:{q__:Unit//True},s__=⟨122,[(4,.ptr 4 0 []),(8,.ptr 8 0 []),(11,.ptr 11 0 []),(12,.u64 (YB s av)),(13,.int ((i:Nat):Int)),(14,.u64 (y23 s (YB s av) i))],[(11,.var (.agg [.u32 2,.sl (some 112) 36 ((YP s av).map CQ),.sl (some 115) 2 ((KI s (YB s av) i).map XE),.u32 mark])),(8,.var (.agg [.u32 0,.nils,.nils,.u32 0])),(4,.var (x05 s))]⟩) ?_ ?_
      ·refine u4 2 (y2 98 99) (V7 4 8 11 12 13 14 99) ⟨zV O,GZ 0 O,Zt⟩ ?_;refine g7 O (λhc99=>?_) (λhc99=>?_)
       ·refine n4 8 (y8 100 101 102 103 104 105 106 14) (V6 4 8 11 12 13 14) ⟨zV O,zV O,xF O,xL O,λ_ _ H K=>W5 (d:=.u64 s.part.toUInt64) (eU K 103 O) O (O) H,λ_ _ H K=>R.minU (eU K 101 O) (eU K 104 O) H,zB O,zA O,Zt⟩ ?_;exact⟨⟨(()),Zt⟩,(by rw[g32 hc99]<;>rfl)⟩
       ·refine E9 (V6 4 8 11 12 13 14) (i5 11 8 4) 122 O ?_;refine W.skip ?_;exact⟨⟨(()),Zt⟩,(by rw[g31 hc99]<;>rfl)⟩
      ·rintro s__ ⟨⟨_,_⟩,rfl⟩;refine KF 12 [0,1,0,0,8,0,56,120,248,504,1020,2044,4095,8191,16383] hP dU (u51 107 108 109 110 111 112 113 114 115 116 117 118) [(10,116),(11,117)] [(10,116),(11,117)] (V7 4 8 11 12 13 108 118) ⟨aU (xF O),aU λ_ B H K=>R.ldO (K 107 _ O) (B 11 _ O) O H,xM O,aU (xF O),aU (xL O),xM O,aU<|zI i O,aU<|zL O (mG s.to),aU λ_ _ H K=>R.bin (eU K 114 O) (kW (.int .u8 12) (.u8 12) O) O dU H,aU<|zC hC (IL (s.to[i]!%12)) O (F1 (JL _)),aU λ_ _ H K=>R.bldO (l:=[.u64 0,.nils]) (l':=[_,_]) (.pur (eU K 109 O) O O O (.own (K 116 _ O) O O O O (.nil O))) O H,aU λ_ _ H K=>R.bslO (z:=2) (.own (K 117 _ O) O O O O .nil) O O H dU,Zt⟩ O (⟨O,_,NQ (gU 108 O) (xU 11 O) O O O O (gU 108 O) (gU 118 O) O (show _=((KI s (YB s av) (i+1)).map XE) from(z63 _ _ _)) (by simp only[z6,KI,Y3,j2,j3];omega) nU dU dU,⟨O,_,R.fdP (gU 11 O) nU,⟨O,_,e9 (gU 120 O) (xU 11 O) O (gU 119 O) O O (by rfl) (by rfl) O O,tW (V5 4 8 11 12 13) (i5 11 8 4) 122 O ?_⟩⟩⟩);refine n4 3 (y3 90 91 13) (V5 4 8 11 12 13) ⟨zV O,P1 1 O,zA O,Zt⟩ ?_;exact⟨bU,rfl⟩
     ·obtain rfl:i=min s.to.length 4:=by omega
      refine W.exit (n5 3 [] (V2 8 11) Zt O (⟨O,_,R.ldTake (gU 11 O) (xU 11 O) O O O nU,⟨O,_,e9 (gU 8 O) (xU 8 O) O (gU 121 O) O O (by rfl) (by rfl) O O,⟨O,_,J9 (kB true O) O nU,tW (V2 8 9) (i5 11 8 4) 122 O ?_⟩⟩⟩));exact W.ret (Ends.many (.inr O) (.cons O O O (iL 31 4) (.cons O O O Zt .nil)) (by rw[v73 h1 hc23]<;>rfl) (show[(8,false),(9,true)].Nodup by decide))
    ·refine N0 9 [.y 81 _,.y 82 _,.y 83 _,.y 84 _,.y 85 _,.y 86 _,.x 87,.x 88,.y 89 _] (V6 4 8 11 12 13 89) ⟨xM O,aU (xF O),aU (xL O),aU<|P8 O,aU<|zS O,xM O,O5 O (dF h4),O5 O (dF h4),aU<|FQ O (dF h4) (kB false O),Zt⟩ ?_;refine Y7 O (O) ?_
     obtain rfl:i=min s.to.length 4:=by omega
     refine W.exit (n5 3 [] (V2 8 11) Zt O (⟨O,_,R.ldTake (gU 11 O) (xU 11 O) O O O nU,⟨O,_,e9 (gU 8 O) (xU 8 O) O (gU 121 O) O O (by rfl) (by rfl) O O,⟨O,_,J9 (kB true O) O nU,tW (V2 8 9) (i5 11 8 4) 122 O ?_⟩⟩⟩));exact W.ret (Ends.many (.inr O) (.cons O O O (iL 31 4) (.cons O O O Zt .nil)) (by rw[v73 h1 hc23]<;>rfl) (show[(8,false),(9,true)].Nodup by decide))
end
theorem j87(n:Nat):D.u8 (UInt8.ofInt ((n:Nat):Int))=.u8 (UInt8.ofNat n):=by
 congr 1
 unfold UInt8.ofInt;apply UInt8.toNat_inj.1;rw[N1,N1];omega
theorem y27(n:Nat):D.int (((n:Nat):Int).fdiv (2^min (8:Int).toNat 64))=.int ((n/256:Nat):Int):=by
 have:=w87 ((n:Nat):Int) 8 (H7 _) (by decide);rw[Int.toNat_natCast] at this;exact g6 D.int this
theorem y92(s:SpS):(x05 s).brw=x05 s:=by
 simp only[x05,D.brw,D1,d9,Z8];rw[J6 (λ_=>rfl)]
theorem y93(x:PlS):(SS x).brw=SS x:=by
 simp only[SS,D.brw,D1,d9,Z8];rw[J6 y92]
theorem ZS(b:BlkS):(J7 b).brw=J7 b:=by
 simp only[J7,D.brw,D1,d9,Z8,CW];rw[J6 EN]
theorem v38(a e:Nat)(l:List (Plc×UInt64)):D.brwR (.tup [.sl (some a) 33 (l.map PF),.sl (some e) 1 (l.map NX)])=.tup [.sl none 33 (l.map PF),.sl none 1 (l.map NX)]:=by
 show D.tup [D.sl none 33 (KC (l.map PF)),D.sl none 1 (KC (l.map NX))]=_;rw[D1,D1,J6 (λx=>by simp only[PF,j1,D.brw,D1,d9,Z8,W3]),J6 (λ_=>rfl)]
theorem v24(a e:Nat)(l:List (Plc×UInt64)):FrsR (.tup [.sl (some a) 33 (l.map PF),.sl (some e) 1 (l.map NX)]):=
 .inl ⟨_,rfl,ZK (.sl _ _ _ (J5 λx=>.agg _ (ZK (B4 _) (.u32 _)))) (.sl _ _ _ (J5 λ_=>.u64 _))⟩
theorem w74(h:HdS)(b:Bool):FrsR (.tup [M5 h,.bool b]):=.inl ⟨_,rfl,ZK (k63 h) (.bool b)⟩
theorem u55(n:Nat)(x:PlS)(mark:UInt32):Wk (.agg [.u32 1,.sl (some 112) 36 [.agg [.agg [w7 zero32,.u32 4294967295],.sl (some 5) 1 [.u8 (UInt8.ofNat n),.u8 (UInt8.ofNat (n/256)),.u8 mark.toUInt8],.u32 0,.nils]],.sl (some 115) 2 [.agg [.u64 5000,.sl (some 5) 1 ((BN (x.pays%12)).map D.u8)]],.u32 mark]) (KB (k48 n x mark)):=
 .aggL (.cons (.refl _) (.cons (.slL (.cons (.aggL (.cons (.refl _) (.cons (.refl _) (.cons (.refl _) (.cons (.nils _ _) .nil))))) .nil)) (.cons (.refl _) (.cons (.refl _) .nil))))
section
variable{l:List BlkS}{x:PlS}{mark:UInt32}{i:Nat}
theorem g59(h:(RD x.spends[i]! (YE (l++[⟨zeroH,GE l x mark i⟩])) mark).2=true):GE l x mark (i+1)=GE l x mark i++[(RD x.spends[i]! (YE (l++[⟨zeroH,GE l x mark i⟩])) mark).1]:=by rw[GE,j7 h]
theorem v88(h:¬ (RD x.spends[i]! (YE (l++[⟨zeroH,GE l x mark i⟩])) mark).2=true):GE l x mark (i+1)=GE l x mark i:=by rw[GE,z8 h]
theorem v19(h:(RD x.spends[i]! (YE (l++[⟨zeroH,GE l x mark i⟩])) mark).2=true):(GE l x mark i).map KB++[KB (RD x.spends[i]! (YE (l++[⟨zeroH,GE l x mark i⟩])) mark).1]=(GE l x mark (i+1)).map KB:=by
 rw[g59 h,d8];rfl
end
theorem PU{α:Type}[Inhabited α]{l:List α}{f:α->D}{j:Nat}(h:j<l.length):(l.take j).map f++[f l[j]!]=(l.take (j+1)).map f:=by
 rw[b9 l j h,<- List.take_append_getElem h,d8];rfl
theorem JE(l:List BlkS):(heads l).length=l.length:=z6 _
theorem w33{l:List BlkS}{j:Nat}(h:j<l.length):(heads l)[j]! = l[j]!.hd:=by
 rw[b9 (heads l) j (by rw[JE];exact h),b9 l j h];exact n9 _
theorem j39{l:List BlkS}{j:Nat}(h:j<l.length):((heads l).take j).map M5++[M5 l[j]!.hd]=((heads l).take (j+1)).map M5:=by
 rw[<- PU (by rw[JE];exact h),w33 h]
theorem j40(l:List BlkS):(heads l).take l.length=heads l:=by rw[<- JE l,X4]
theorem w32{l:List BlkS}(h:allBl l):allW (heads l):=λx hx=>by
 obtain⟨b,hb,rfl⟩:=Q5.1 hx;exact(h.2 b hb).hd
def BK(l:List TxS)(k:Nat):List Hs:=(l.take k).map ZM
theorem MK{l:List TxS}{k:Nat}(h:k<l.length):(BK l k).map w7++[w7 (ZM l[k]!)]=(BK l (k+1)).map w7:=by
 unfold BK;rw[N7,N7,<- PU h];rfl
theorem MZ{l:List TxS}{k:Nat}(h:k<=l.length):(BK l k).length=k:=by
 unfold BK;rw[z6,v8,Z4 h]
theorem MJ(l:List TxS):BK l l.length=l.map ZM:=by
 unfold BK;rw[X4]
section
open Go.Proofs
set_option maxHeartbeats 1000000 in
theorem TC(l:List BlkS)(x:PlS)(mark:UInt32)(hl:allBl l)(h1:1<=l.length)(h99:l.length<=99)(hto:∀ s∈x.spends,s.to.length<=140737488355328):Fn Tryz.prog gl 32 [.agg [.u32 545259519,.int 10,.u32 10,.nils,M5 JZ],.sl none 69 (l.map J7),SS x,.u32 mark] (.tup [BT (ZL l x mark).1,.bool (ZL l x mark).2]):=by
 refine Fo 136 Tryz.func32 O λC hC hD=>?_;refine n5 4 [] (V4 0 1 2 3) Zt O (⟨O,_,R.box (gV 0 O) O O nU,⟨O,_,R.box (gV 2 O) O O nU,(I9 O ⟨O,_,J9 (kB false O) O nU,tW (V5 1 3 4 6 8) (i5 8 6 4) 136 O ?_⟩)⟩⟩);refine P4 23 [.y 23 _,.y 24 _,.y 25 _,.y 26 _,.y 27 _,.y 28 _,.y 29 _,.y 30 _,.y 31 _,.y 32 _,.y 33 _,.y 34 _,.y 35 _,.y 36 _,.y 37 _,.y 38 _,.y 39 _,.y 40 _,.y 41 _,.y 42 _,.y 43 _] [(12,34),(13,35),(18,40),(19,41),(20,36),(20,42)] [(12,34),(13,35),(18,40),(19,41),(20,36),(20,42)] (V6 1 3 4 6 8 43) ⟨xM O,aU λ_ _ H _=>P5 (l:=[.arr 32 1 ((List.replicate 32 0).map D.u8),.u32 0]) (l':=[_,_]) (.cons (kW (.int .u32 4294967295) (.u32 4294967295) O) (.nil O)) ⟨⟨_,(kW (.int .u32 4294967295) (.u32 4294967295) O),O,O,O⟩,Zt⟩ H,xM O,aU<|P8 O,aU λ_ _ H K=>W5 (d:=.u8 (UInt8.ofNat l.length)) (eU K 26 O) O (j87 _) H,xM O,aU<|P8 O,aU λ_ _ H K=>O1 (d:=.int (((l.length/256):Nat):Int)) (eU K 29 O) (kW (.int .u64 8) (.u64 8) O) O bV (y27 _) H,aU λ_ _ H K=>W5 (d:=.u8 (UInt8.ofNat (l.length/256))) (eU K 30 O) O (j87 _) H,xM O,aU λ_ _ H K=>W5 (d:=.u8 mark.toUInt8) (eU K 32 O) O (O) H,aU λ_ _ H K=>J3 (z:=1) (.cons (eU K 27 O) (.cons (eU K 31 O) (.cons (eU K 33 O) .nil))) ⟨⟨O,O,O⟩,⟨O,O,O⟩,⟨O,O,O⟩,Zt⟩ O H dU,aU λ_ _ H K=>R.bldO (l:=[.agg [.arr 32 1 ((List.replicate 32 0).map D.u8),.u32 0],.nils,.u32 0,.nils]) (l':=[_,_,_,_]) (.pur (eU K 24 O) O O O (.own (K 34 _ O) O O O O (.nil O))) O H,aU λ_ _ H K=>R.bslO (z:=36) (.own (K 35 _ O) O O O O .nil) O O H dU,aU (xF O),aU (xL O),aU λ_ _ H K=>R.bin (eU K 38 O) (kW (.int .u8 12) (.u8 12) O) O dU H,aU<|zC hC (IL (x.pays%12)) O (F1 (JL _)),aU λ_ _ H K=>R.bldO (l:=[.u64 0,.nils]) (l':=[_,_]) (.pur (kW (.int .u64 5000) (.u64 5000) O) O O O (.own (K 40 _ O) O O O O (.nil O))) O H,aU λ_ _ H K=>R.bslO (z:=2) (.own (K 41 _ O) O O O O .nil) O O H dU,aU λ_ _ H K=>R.bldO (l:=[.u32 0,.nils,.nils,.u32 0]) (l':=[_,_,_,_]) (.pur (kW (.int .u32 1) (.u32 1) O) O O O (.pur (eU K 23 O) O O O (.own (K 36 _ O) O O O O (.own (K 42 _ O) O O O O (.nil O))))) O H,Zt⟩ O (I9 O ⟨O,_,e9 (gU 10 O) (xU 10 O) O (gU 43 O) O O (by rfl) (by rfl) O O,tW (V6 1 3 4 6 8 10) (OA 10 8 6 4) 136 O ?_⟩);refine W.seq ?_;refine z47 10 (d':=KB (k48 l.length x mark)) (bx':=(OA 10 8 6 4)) O (u55 _ _ _) O ?_;refine L8 5 [] (V6 1 3 4 6 8 10) Zt O (⟨O,_,R.ldTake (gU 10 O) (xU 10 O) O O O nU,⟨O,_,R.bslO (z:=4) (.own (gU 44 O) O O O O .nil) O O nU dU,⟨O,_,R.bldO (l:=[.agg [.u32 0,.arr 32 1 ((List.replicate 32 0).map D.u8),.arr 32 1 ((List.replicate 32 0).map D.u8),.u32 0,.u32 0,.u32 0],.nils]) (l':=[_,_]) (.own (gU 45 O) O O O O (.nil O)) O nU,(I9 O ⟨O,_,e9 (gU 11 O) (xU 11 O) O (gU 46 O) O O (by rfl) (by rfl) O O,tW (V6 1 3 4 6 8 11) (q47 11 10 8 6 4) 136 O ?_⟩)⟩⟩⟩);refine k91 1 (λs__=>∃ q__:{q__:Unit//True},s__=⟨136,[(1,.sl none 69 (l.map J7)),(4,.ptr 4 0 []),(6,.ptr 6 0 []),(8,.ptr 8 0 []),(11,.ptr 11 0 [])],[(11,.var (.agg [M5 zeroH,.sl (some 31) 4 ((YH l x mark).map KB)])),(8,.var (.agg [M5 zeroH,.nils])),(6,.var (SS x)),(4,.var (.agg [.u32 545259519,.int 10,.u32 10,.nils,M5 JZ]))]⟩) ?_ ?_
 ·rintro s__ ⟨⟨_,_⟩,rfl⟩;have hsm:=EH hl h99 x mark;refine u4 1 (y1 17) (V6 1 4 6 8 11 17) ⟨i6 O,Zt⟩ ?_;refine W.seq (u4 1 (y1 18) (V7 1 4 6 8 11 17 18) ⟨O3 0 O,Zt⟩ ?_);refine W.block ?_;refine O6 (s:=17) 44 68 O ?_;refine P2 l.length (λj=>⟨136,[(1,.sl none 69 (l.map J7)),(4,.ptr 4 0 []),(6,.ptr 6 0 []),(8,.ptr 8 0 []),(11,.ptr 11 0 []),(17,.sl (some 44) 68 (((heads l).take j).map M5)),(18,.int ((j:Nat):Int))],[(11,.var (.agg [M5 zeroH,.sl (some 31) 4 ((YH l x mark).map KB)])),(8,.var (.agg [M5 zeroH,.nils])),(6,.var (SS x)),(4,.var (.agg [.u32 545259519,.int 10,.u32 10,.nils,M5 JZ]))]⟩) O λj hj=>?_;have hsm:=EH hl h99 x mark;refine W.seq (u4 4 (y4 87 88 89 90) (V8 1 4 6 8 11 17 18 90) ⟨zV O,zV O,P8 O,zS O,Zt⟩ ?_);refine g7 O (λhc90=>?_) (λhc90=>?_)
  ·refine W.skip (W.seq (W.block ?_));refine UZ 9 (y9 93 94 95 96 97 98 99 100 17) [(7,17),(8,100),(8,93)] [(7,17),(8,100)] (V7 1 4 6 8 11 17 18) ⟨aU<|zM O,xM O,xM O,aU<|zI j O,aU<|r7 O,aU<|zL O (mG l),aU λ_ _ H K=>J3 (z:=68) (.cons (eU K 98 O) .nil) ⟨⟨O,O,O⟩,Zt⟩ O H dU,aU<|YC O (G5 O) (show _=(((heads l).take (j+1)).map M5) from(j39 bO)) (by simp only[z6,v8,JE,j2,j3];omega),aU<|zO O,Zt⟩ O (tU O ?_);refine n4 3 (y3 91 92 18) (V7 1 4 6 8 11 17 18) ⟨zV O,P1 1 O,zA O,Zt⟩ ?_;exact⟨bU,rfl⟩
  ·obtain rfl:j=l.length:=by omega
   rw[j40];refine W.exit (u4 1 (y1 19) (V6 4 6 8 11 17 19) ⟨i6 O,Zt⟩ ?_);refine W.seq (u4 1 (y1 20) (V7 4 6 8 11 17 19 20) ⟨O3 0 O,Zt⟩ ?_);refine W.block ?_;refine O6 (s:=19) 23 32 O ?_;refine P2 ((YH l x mark).length) (λk=>⟨136,[(4,.ptr 4 0 []),(6,.ptr 6 0 []),(8,.ptr 8 0 []),(11,.ptr 11 0 []),(17,.sl (some 44) 68 ((heads l).map M5)),(19,.sl (some 23) 32 ((BK (YH l x mark) k).map w7)),(20,.int ((k:Nat):Int))],[(11,.var (.agg [M5 zeroH,.sl (some 31) 4 ((YH l x mark).map KB)])),(8,.var (.agg [M5 zeroH,.nils])),(6,.var (SS x)),(4,.var (.agg [.u32 545259519,.int 10,.u32 10,.nils,M5 JZ]))]⟩) O λk hk=>?_;refine W.seq (u4 5 (y5 101 102 103 104 105) (V8 4 6 8 11 17 19 20 105) ⟨zV O,xF O,λ_ B H K=>R.ldO (K 102 _ O) (B 11 _ O) O H,λ_ B H K=>QA (SC.alb (K 103 _ O) (B 11 _ O) O) (lN _) H,zS O,Zt⟩ ?_);refine g7 O (λhc105=>?_) (λhc105=>?_)
   ·refine W.skip (W.seq (W.block ?_));refine W.region (WL.cons O (R.al (gU 19 O) nU dU) (v55 6 [(11,.rp (.agg [M5 zeroH,.sl none 4 ((YH l x mark).map r8)])),(20,.int ((k:Nat):Int))] [(4,.ptr 4 0 []),(6,.ptr 6 0 []),(8,.ptr 8 0 []),(11,.ptr 11 0 []),(17,.sl (some 44) 68 ((heads l).map M5)),(19,.sl (some 23) 32 ((BK (YH l x mark) k).map w7)),(20,.int ((k:Nat):Int)),(108,.al 19),(114,w7 (ZM (YH l x mark)[k]!))] (.cons (Bor.ptr (gU 11 O) (xU 11 O) O (BS (⟨zeroH,YH l x mark⟩:BlkS)) O) O (.cons (Bp (gV 20 O) O O) O .nil)) (λC hC0 _ _ hD=>?_) ?_))
    ·have hC:=hC0.trans hC;exact⟨rfl,_,R.fdR (gV 11 rfl) rfl rfl (nU rfl),⟨rfl,_,R.ldR (gV 109 rfl) rfl rfl rfl (nU rfl),⟨rfl,_,R.mov (gV 20 rfl) rfl (nU rfl),⟨rfl,_,R.idxN (k) (SC.sl (gU 110 rfl)) (C4 (gV 111 rfl)) rfl bU (nU rfl) dU,⟨rfl,_,R.ldE (gU 112 rfl) (SC.sl (gU 110 rfl)) (b8 (l:=(YH l x mark)) bU) rfl rfl rfl rfl (nU rfl),⟨rfl,_,Z7 hC (FA (YH l x mark)[k]! (hsm.1 _ (X0 (by omega))).wf) (Bc (Bp (gV 113 rfl) rfl rfl) Bn) (FrsR.one (X6 _)) (nU rfl),⟨[114],[(114,_)],[],136,rfl,rfl,rfl,rfl,rfl,⟨⟨rfl,rfl⟩,⟨rfl,rfl⟩,⟨rfl,rfl⟩,⟨rfl,rfl⟩,⟨rfl,rfl⟩,⟨rfl,rfl⟩,⟨rfl,rfl⟩,⟨rfl,rfl⟩,⟨rfl,rfl,rfl,B4 _⟩,Zt⟩⟩⟩⟩⟩⟩⟩⟩
    ·refine⟨rfl,_,J3 (z:=32) (.cons (gV 114 rfl) .nil) ⟨⟨rfl,rfl,rfl⟩,Zt⟩ rfl (nU rfl) dU,⟨rfl,_,R0 (Or.inr (gU 108 rfl)) (gU 19 rfl) (SrcO.sc (SC.sl (gU 115 rfl)) (G5 rfl)) (show _=((BK (YH l x mark) (k+1)).map w7) from(MK (by omega))) (by simp only[z6,MZ hk,j2,j3];omega) (nU rfl) dU dU,⟨rfl,_,R.asgO (gU 116 rfl) rfl (nU rfl) dU,⟨[4,6,8,11,17,19,20],[(4,_),(6,_),(8,_),(11,_),(17,_),(19,_),(20,_)],[(11,.var _),(8,.var _),(6,.var _),(4,.var _)],136,rfl,rfl,rfl, ?_⟩⟩⟩⟩;refine n4 3 (y3 106 107 20) (V7 4 6 8 11 17 19 20) ⟨zV O,P1 1 O,zA O,Zt⟩ ?_;exact⟨bU,rfl⟩
   ·obtain rfl:k=(YH l x mark).length:=by omega
    rw[MJ];refine W.exit (W.seq ?_);refine QE (m:=17) (an:=[0,0,0,4,12,0,32,96,252,0,524,2047,4095,8191,8191,0,49151,131071]) (its:=[.y 118 _,.y 119 _,.y 120 _,.y 121 _,.y 122 _,.y 123 _,.y 124 _,.y 125 _,.y 126 _,.y 127 _,.y 128 _,.y 129 _,.y 117 _,.y 130 _,.y 131 _,.y 21 _,⟨152,.dead,true⟩]) (ks:=[(16,152)]) (kk:=[]) (efs:=[(15,(B2 21)),(16,(B2 21))]) (live:=[8,11,21,131]) (env':=(V4 8 11 21 131)) (nd:=40) (bx1:=(q47 21 11 8 6 4)) hP dU O ⟨⟨159,O⟩,nU O,O,O,O,O⟩ (            ⟨⟨O,nU O,O,λ_ τ hb ht hτ=>R.ldP (hτ 4 _ O) (hb 4 _ O) O O O O ht⟩,⟨⟨O,nU O,O,λ_ τ hb ht hτ=>R.al (hτ 17 _ O) ht dU⟩,⟨⟨O,nU O,O,λ_ τ hb ht hτ=>R.al (hτ 17 _ O) ht dU⟩,⟨⟨O,nU O,O,λ_ τ hb ht hτ=>Z7 hC (w02 (heads l) (by rw[JE];omega)) (Bc (Bor.sc (SC.al (hτ 120 _ O) (hτ 17 _ O)) (J6 CW)) Bn) (F1 (.u32 _)) ht⟩,⟨⟨O,nU O,O,λ_ τ hb ht hτ=>R.bin (evt (hτ 121 _ O)) (kW (.int .u32 1) (.u32 1) O) O Zt ht⟩,⟨⟨O,nU O,O,λ_ τ hb ht hτ=>R.fdP (hτ 6 _ O) ht⟩,⟨⟨O,nU O,O,λ_ τ hb ht hτ=>R.ldP (hτ 123 _ O) (hb 6 _ O) O O O O ht⟩,⟨⟨O,nU O,O,λ_ τ hb ht hτ=>W5 (d:=.u32 x.step.toUInt32) (evt (hτ 124 _ O)) O (O) ht⟩,⟨⟨O,nU O,O,λ_ τ hb ht hτ=>R.bin (evt (hτ 122 _ O)) (evt (hτ 125 _ O)) O Zt ht⟩,⟨⟨O,nU O,O,λ_ τ hb ht hτ=>R.al (hτ 19 _ O) ht dU⟩,⟨⟨O,nU O,O,λ_ τ hb ht hτ=>Z7 hC (PM ((YH l x mark).map ZM) (HC _) (by rw[z6];omega)) (Bc (Bor.sc (SC.al (hτ 127 _ O) (hτ 19 _ O)) (J6 W3)) Bn) (F1 (X6 _)) ht⟩,⟨⟨O,nU O,O,λ_ τ hb ht hτ=>Z7 hC (v00 (heads l) (z76 (heads l)+1+x.step.toUInt32) (KS F7 ((YH l x mark).map ZM)) (w32 hl) (by rw[JE];omega) (by rw[JE];omega) (ND CS (HC _))) (Bc (Bp (evt (hτ 118 _ O)) O O) (Bc (Bor.sc (SC.al (hτ 119 _ O) (hτ 17 _ O)) (J6 CW)) (Bc (Bp (evt (hτ 126 _ O)) O O) (Bc (Bp (evt (hτ 128 _ O)) O O) (Bc (Bp (kW (.int .u32 200) (.u32 200) O) O O) Bn))))) (w74 _ _) ht⟩,⟨⟨O,nU O,O,λ_ τ hb ht hτ=>R.movT (hτ 129 _ O) O ht⟩,⟨⟨O,nU O,O,λ_ τ hb ht hτ=>R.ext (hτ 117 _ O) O O ht⟩,⟨⟨O,nU O,O,λ_ τ hb ht hτ=>R.ext (hτ 117 _ O) O O ht⟩,⟨⟨O,O,⟨O,nU O⟩,(SpE.alloc O nU)⟩,⟨⟨O,O,O,(YK (p:=21) (id:=21) O O O (λτ hτ=>(evt (hτ 130 _ O))) (by rfl) (by rfl) (by rfl) (by rfl) O)⟩,Zt⟩⟩⟩⟩⟩⟩⟩⟩⟩⟩⟩⟩⟩⟩⟩⟩⟩) O O O (n':=136) O (GK O ⟨[8,11,21,22],(V4 8 11 21 22),(q47 21 11 8 6 4),136,O,O,O, ?_⟩);refine n5 3 (y2 132 133) (V5 8 11 22 132 133) ⟨xL O,xF O,Zt⟩ O (M9 O (tW (V3 8 11 22) (q47 21 11 8 6 4) 136 O ?_));refine n5 4 [] (V3 8 11 22) Zt O (⟨O,_,R.ldTake (gU 11 O) (xU 11 O) O O O nU,⟨O,_,R.mov (gV 22 O) O nU,⟨O,_,e9 (gU 8 O) (xU 8 O) O (gU 134 O) O O (by rfl) (by rfl) O O,(GK O (tW (V2 8 9) (q47 21 11 8 6 4) 136 O ?_))⟩⟩⟩);exact W.ret (Ends.many (.inr O) (.cons O O O (iL 78 69) (.cons O O O Zt .nil)) (O) (show[(8,false),(9,true)].Nodup by decide))
 ·intro htail;refine W.seq (W.seq ?_);refine E9 (V6 1 3 4 6 8 11) (q47 11 10 8 6 4) 136 O ?_;refine H6 [4,6,8,11] (bx':=(OA 11 8 6 4)) O O O (o8 hD O) ?_;refine n4 1 (y1 12) (V7 1 3 4 6 8 11 12) ⟨O3 0 O,Zt⟩ ?_;refine W.block ?_;refine P2 (min x.spends.length 6) (λi=>⟨136,[(1,.sl none 69 (l.map J7)),(3,.u32 mark),(4,.ptr 4 0 []),(6,.ptr 6 0 []),(8,.ptr 8 0 []),(11,.ptr 11 0 []),(12,.int ((i:Nat):Int))],[(11,.var (.agg [M5 zeroH,.sl (some 31) 4 ((GE l x mark i).map KB)])),(8,.var (.agg [M5 zeroH,.nils])),(6,.var (SS x)),(4,.var (.agg [.u32 545259519,.int 10,.u32 10,.nils,M5 JZ]))]⟩) O λi hi=>?_;have hsm:=w40 hl h99 x mark i (by omega);have hlb:=OC hl h99 (z38 q48 hsm.1 (by omega));have hthl:=v5 (j92 hlb) (show 100000000<=1000000000 by decide);refine W.seq (W.seq ?_);by_cases h4:i<x.spends.length
  ·refine N0 9 (y9 47 48 49 50 51 52 53 54 55) (V8 1 3 4 6 8 11 12 55) ⟨xM O,aU (xF O),aU (xL O),aU<|P8 O,aU<|zS O,xM O,aT O (dT h4)<|zV O,aT O (dT h4)<|GV 6 O,aU<|zT O (dT h4),Zt⟩ ?_;refine g7 O (λhc55=>?_) (λhc55=>?_)
   ·refine W.skip (W.seq (W.block ?_));refine W.inl [(1,.sl none 69 (l.map J7)),(3,.u32 mark),(6,.rp (SS x)),(11,.rp (.agg [M5 zeroH,.sl none 4 ((GE l x mark i).map r8)])),(12,.int ((i:Nat):Int))] (.cons (Bp (gV 1 O) O O) O (.cons (Bp (gV 3 O) O O) O (.cons (Bor.ptr (gU 6 O) (xU 6 O) O (y93 x) O) O (.cons (Bor.ptr (gU 11 O) (xU 11 O) O (BS (⟨zeroH,GE l x mark i⟩:BlkS)) O) O (.cons (Bp (gV 12 O) O O) O .nil))))) ?_;refine u24 (σ2:=⟨136,[(3,.u32 mark),(6,.rp (SS x)),(12,.int ((i:Nat):Int)),(13,.sl none 33 ((YE (l++[(⟨zeroH,GE l x mark i⟩:BlkS)])).map PF)),(14,.sl none 1 ((YE (l++[(⟨zeroH,GE l x mark i⟩:BlkS)])).map NX))],[]⟩) hP (λC hC0 _ _ hD=>?_) ?_
    ·have hC:=hC0.trans hC;refine v56 (m:=12) (an:=[0,0,3,0,8,31,63,127,255,255,511,2047]) dU rfl (its:=[.y 59 _,.y 60 _,.y 61 _,.y 62 _,.y 63 _,.y 64 _,.y 65 _,.y 58 _,.y 66 _,.y 67 _,.y 13 _,.y 14 _]) (ks:=[(2,59),(5,61)]) (kk:=[(2,59),(5,61)]) (live:=[3,6,12,13,14]) (env':=[(3,_),(6,_),(12,_),(13,_),(14,_)]) (⟨nU rfl,rfl,⟨aU λ_ _ H _=>J3 .nil Zt rfl H dU,mU 1 rfl rfl,aU λ_ _ H K=>R0 (Or.inl rfl) (K 59 _ rfl) (SrcO.sc (SC.sl (K 60 _ rfl)) (P3 (λ_=>rfl))) (D9 _) bU H dU dU,aU λ_ _ H K=>R.ldR (eU K 11 rfl) rfl rfl rfl H,aU λ_ _ H K=>J3 (z:=69) (.cons (eU K 62 rfl) .nil) ⟨⟨rfl,rfl,rfl⟩,Zt⟩ rfl H dU,aU λ_ _ H K=>R0 (Or.inl rfl) (K 61 _ rfl) (SrcO.sc (SC.sl (K 63 _ rfl)) (G5 rfl)) (show _=((l++[(⟨zeroH,GE l x mark i⟩:BlkS)]).map J7) from(by rw[d8];rfl)) (by simp only[z6,j2,j3];omega) H dU dU,aU λ_ _ H K=>R.callZ (r':=.tup [.sl none 33 ((YE (l++[(⟨zeroH,GE l x mark i⟩:BlkS)])).map PF),.sl none 1 ((YE (l++[(⟨zeroH,GE l x mark i⟩:BlkS)])).map NX)]) (j95 (l++[(⟨zeroH,GE l x mark i⟩:BlkS)]) hlb) hC (Bc (Bor.sc (SC.sl (K 64 _ rfl)) (J6 ZS)) Bn) (v24 _ _ _) (v38 _ _ _) H,aU λ_ _ H K=>R.movT (K 65 _ rfl) rfl H,aU λ_ _ H K=>R.ext (K 58 _ rfl) rfl rfl H,aU λ_ _ H K=>R.ext (K 58 _ rfl) rfl rfl H,aU λ_ _ H K=>J9 (eU K 66 rfl) rfl H,aU λ_ _ H K=>J9 (eU K 67 rfl) rfl H,Zt⟩,rfl,rfl,rfl⟩) rfl (bx':=[]) rfl (n':=136) rfl (tV [(3,_),(6,_),(12,_),(13,_),(14,_)] [] 136 rfl rfl rfl ?_);exact⟨rfl,rfl⟩
    ·refine WIn.seq ?_;refine WIn.region 12 [(1,.sl none 69 (l.map J7)),(3,.u32 mark),(4,.ptr 4 0 []),(6,.ptr 6 0 []),(8,.ptr 8 0 []),(11,.ptr 11 0 []),(12,.int ((i:Nat):Int)),(78,KB (RD x.spends[i]! (YE (l++[(⟨zeroH,GE l x mark i⟩:BlkS)])) mark).1),(79,.bool (RD x.spends[i]! (YE (l++[(⟨zeroH,GE l x mark i⟩:BlkS)])) mark).2)] (λC hC0 _ _ hD=>?_) ?_
     ·have hC:=hC0.trans hC;exact⟨rfl,_,R.fdR (gV 6 rfl) rfl rfl (nU rfl),⟨rfl,_,R.ldR (gV 69 rfl) rfl rfl rfl (nU rfl),⟨rfl,_,R.mov (gV 12 rfl) rfl (nU rfl),⟨rfl,_,R.idxN (i) (SC.sl (gU 70 rfl)) (C4 (gV 71 rfl)) rfl bU (nU rfl) dU,⟨rfl,_,R.ldE (gU 72 rfl) (SC.sl (gU 70 rfl)) (b8 (l:=x.spends) bU) rfl rfl rfl rfl (nU rfl),⟨rfl,_,R.mov (gV 13 rfl) rfl (nU rfl),⟨rfl,_,R.mov (gV 14 rfl) rfl (nU rfl),⟨rfl,_,R.mov (gV 3 rfl) rfl (nU rfl),⟨rfl,_,Z7 hC (z62 x.spends[i]! (YE (l++[(⟨zeroH,GE l x mark i⟩:BlkS)])) mark hthl (hto _ (X0 h4))) (Bc (Bp (gV 73 rfl) rfl rfl) (Bc (Bp (gV 74 rfl) rfl rfl) (Bc (Bp (gV 75 rfl) rfl rfl) (Bc (Bp (gV 76 rfl) rfl rfl) Bn)))) (j48 _ _) (nU rfl),⟨rfl,_,R.movTO (gU 77 rfl) rfl (nU rfl),⟨rfl,_,R.extO (gU 68 rfl) rfl rfl rfl rfl rfl (nU rfl),⟨rfl,_,R.ext (gU 68 rfl) rfl rfl (nU rfl),⟨[78,79],[(78,_),(79,_)],[],136,rfl,rfl,rfl,rfl,rfl,⟨⟨rfl,rfl⟩,⟨rfl,rfl⟩,⟨rfl,rfl⟩,⟨rfl,rfl⟩,⟨rfl,rfl⟩,⟨rfl,rfl⟩,⟨rfl,rfl⟩,⟨rfl,rfl,rfl,OX _⟩,⟨rfl,rfl,rfl,.bool _⟩,Zt⟩⟩⟩⟩⟩⟩⟩⟩⟩⟩⟩⟩⟩⟩
     ·refine⟨rfl,_,R.alloc rfl (nU rfl),⟨rfl,_,e9 (gU 15 rfl) (xU 15 rfl) rfl (gU 78 rfl) rfl rfl (by rfl) (by rfl) rfl rfl,⟨rfl,_,J9 (gV 79 rfl) rfl (nU rfl),⟨[1,3,4,6,8,11,12,15,16],[(1,_),(3,_),(4,_),(6,_),(8,_),(11,_),(12,_),(15,_),(16,_)],[(15,.var _),(11,.var _),(8,.var _),(6,.var _),(4,.var _)],136,rfl,rfl,rfl, ?_⟩⟩⟩⟩;refine u4 1 (y1 80) (V9 1 3 4 6 8 11 12 15 80) ⟨zV O,Zt⟩ ?_;refine W.cond O (λhc80=>?_) (λhc80=>?_)
      ·refine L8 7 (y2 81 82) (V9 1 3 4 6 8 11 12 15 82) ⟨xF O,λ_ B H K=>R.ldO (K 81 _ O) (B 11 _ O) O H,Zt⟩ O (⟨O,_,R.ldTake (gU 15 O) (xU 15 O) O O O nU,⟨O,_,R.bslO (z:=4) (.own (gU 83 O) O O O O .nil) O O nU dU,⟨O,_,NQ (gU 82 O) (xU 11 O) O O O O (gU 82 O) (gU 84 O) O (show _=((GE l x mark (i+1)).map KB) from(v19 hc80)) (by simp only[z6,j2,j3];omega) nU dU dU,⟨O,_,R.fdP (gU 11 O) nU,⟨O,_,e9 (gU 86 O) (xU 11 O) O (gU 85 O) O O (by rfl) (by rfl) O O,tW (V7 1 3 4 6 8 11 12) (q47 15 11 8 6 4) 136 O ?_⟩⟩⟩⟩⟩);refine H6 [4,6,8,11] (bx':=(OA 11 8 6 4)) O O O (o8 hD O) ?_;refine n4 3 (y3 56 57 12) (V7 1 3 4 6 8 11 12) ⟨zV O,P1 1 O,zA O,Zt⟩ ?_;exact⟨bU,(by first|(rw[v88 (by rw[hc80];exact m8)]<;>rfl)|rfl)⟩
      ·refine W.skip ?_;refine E9 (V7 1 3 4 6 8 11 12) (q47 15 11 8 6 4) 136 O ?_;refine H6 [4,6,8,11] (bx':=(OA 11 8 6 4)) O O O (o8 hD O) ?_;refine n4 3 (y3 56 57 12) (V7 1 3 4 6 8 11 12) ⟨zV O,P1 1 O,zA O,Zt⟩ ?_;exact⟨bU,(by first|(rw[v88 (by rw[hc80];exact m8)]<;>rfl)|rfl)⟩
   ·obtain rfl:i=min x.spends.length 6:=by omega
    refine W.exit ?_;refine E9 (V5 1 4 6 8 11) (OA 11 8 6 4) 136 O ?_;exact htail _ ⟨⟨(()),Zt⟩,rfl⟩
  ·refine N0 9 [.y 47 _,.y 48 _,.y 49 _,.y 50 _,.y 51 _,.y 52 _,.x 53,.x 54,.y 55 _] (V8 1 3 4 6 8 11 12 55) ⟨xM O,aU (xF O),aU (xL O),aU<|P8 O,aU<|zS O,xM O,O5 O (dF h4),O5 O (dF h4),aU<|FQ O (dF h4) (kB false O),Zt⟩ ?_;refine Y7 O (O) ?_
   obtain rfl:i=min x.spends.length 6:=by omega
   refine W.exit ?_;refine E9 (V5 1 4 6 8 11) (OA 11 8 6 4) 136 O ?_;exact htail _ ⟨⟨(()),Zt⟩,rfl⟩
end
theorem k21(n:Nat):D.u32 (UInt32.ofInt ((n:Nat):Int))=.u32 (UInt32.ofNat n):=by
 congr 1
 unfold UInt32.ofInt;apply E4.1;rw[Y0,Y0];omega
theorem k16(h:HdS):Wk (.sl (some 78) 69 [.agg [M5 h,.nils]]) (.sl (some 78) 69 ([(⟨h,[]⟩:BlkS)].map J7)):=
 .slL (.cons (.aggL (.cons (.refl _) (.cons (.nils _ _) .nil))) .nil)
theorem z33(b:BlkS)(c:Bool):D.brwR (.tup [BT b,.bool c])=.tup [J7 b,.bool c]:=by
 show D.tup [(BT b).brw,.bool c]=_;rw[BS]
def k89(ps:List PlS):Prop:=∀ x∈ps,∀ s∈x.spends,s.to.length<=140737488355328
section
variable{ps:List PlS}{i:Nat}
theorem q29(h:(ZL (f9 ps i) ps[i]! (UInt32.ofNat i)).2=false):f9 ps (i+1)=f9 ps i:=by rw[f9,z8 (by rw[h];exact m8)]
theorem z37(h:(ZL (f9 ps i) ps[i]! (UInt32.ofNat i)).2=true):(f9 ps i).map J7++[J7 (ZL (f9 ps i) ps[i]! (UInt32.ofNat i)).1]=(f9 ps (i+1)).map J7:=by
 rw[f9,j7 h,d8];rfl
end
theorem z34(o:Option Nat)(z:Nat)(l:List BlkS):(D.sl o z (l.map J7)).brw=.sl none z (l.map J7):=by
 simp only[D.brw,D1];rw[J6 ZS]
section
variable{P:Program}{C:Ctx}{σ σ' σ1:Sg}{a:Act}{w w':World}{ρ:Nat->Nat}{Fe Fe' Fb:Nat->List Nat}
variable{κ α:Type}[DecidableEq κ]
structure KeyD(P:Program)(kd:κ->D):Prop where
 same:∀ (w:World) (ρ:Nat->Nat) (G L:Nat->Prop) (k:κ) (v v':Value) (F F':List Nat),VR w ρ G L (kd k) v F->VR w ρ G L (kd k) v' F'->Instr.sameBits 10000 v v'=true
section
variable{ops:List Oper}{an:List Nat}{ks kk:List (Nat×Nat)}{its:List It}
end
omit [DecidableEq κ] in
theorem x44{m:Nat->Nat}{kd:κ->D}{f:α->D}(h1:∀ a,(kd a).ren m=kd a)(h2:∀ u,(f u).ren m=f u)(M:List (κ×α))(i:Nat)(r:List (Nat×Bx)):X9 m ((i,m6 kd f M)::r)=(m i,m6 kd f M)::X9 m r:=by
 have e:(M.map λe=>(kd e.1,f e.2)).map (λkv=>(kv.1.ren m,kv.2.ren m))=M.map λe=>(kd e.1,f e.2):=by
  rw[N7]
  exact QK λe _=>by simp[h1,h2]
 simp only[X9,m6,Bx.ren,e]
end
section
open Go.Proofs
theorem KM:KeyC Tryz.prog 109 j1 3 where
 s:=⟨_,Tryz.underlying109,trivial⟩
 eq:=λa b=>by
  have h:=ZH a b
  have e:(@BEq.beq Plc instBEqProd a b)=(@BEq.beq Plc instBEqOfDecidableEq a b):=by
   rw[Q4,@beq_iff_eq Plc instBEqProd _ a b,@beq_iff_eq Plc instBEqOfDecidableEq _ a b]
  rw[<- e];exact h
 ck:=λa=>CkV.struct (k:=2) Tryz.underlying109 (.cons rfl rfl inferInstance rfl rfl (CkV.arr a.1) (.cons rfl rfl inferInstance rfl rfl (u46 (CkV.u32 Tryz.underlying27 a.2)) .nil))
 n:=rfl
 p:=λ_=>rfl
theorem NM{w:World}{ρ:Nat->Nat}{G L:Nat->Prop}{p:Bool}{n:Nat}{h:List UInt8}{cs:List Value}{F:List Nat}(hr:Rc w ρ G L p (.arr n 1 (h.map D.u8)) cs F):cs=h.map λb=>Value.int .u8 b.toNat:=by
 cases hr with
 | arr _ _ _ _ hl hs hr=>
  rw[z6] at hl;refine List.ext_getElem (by rw[hs,z6];omega) λi h1 h2=>?_
  have hi:i<h.length:=by simpa using h2
  have:=hr i (by simpa using hi);rw[n9] at this
  have e:(cs.drop (i*1)).take 1=[cs[i]]:=by
   rw[Nat.mul_one,o9 h1];rfl
  rw[e] at this;rw[n9];generalize cs[i]=v at this;cases this;rfl
theorem SL{w:World}{ρ:Nat->Nat}{G L:Nat->Prop}{p:Bool}{k:Plc}{cs:List Value}{F:List Nat}(hr:Rc w ρ G L p (j1 k) cs F):cs=(k.1.map λb=>Value.int .u8 b.toNat)++[.int .u32 k.2.toNat]:=by
 cases hr with
 | agg _ _ Fs hs hr=>
  have h0:=hr 0 (by simp);have h1:=hr 1 (by simp);have e0:offk [w7 k.1,D.u32 k.2] 0=0:=rfl;have e1:offk [w7 k.1,D.u32 k.2] 1=32:=rfl;simp only[Z1,J4,e0,e1,J0] at h0 h1;have hs':cs.length=33:=hs;have q0:=NM h0
  have q1:(cs.drop 32).take 1=[.int .u32 k.2.toNat]:=by
   have e2:(D.u32 k.2).sz=1:=rfl;rw[e2] at h1;generalize (cs.drop 32).take 1=c at h1;generalize Fs 1=F1 at h1;cases h1;rfl
  have e3:(w7 k.1).sz=32:=rfl;rw[e3] at q0;have e4:(cs.drop 32).take 1=cs.drop 32:=Q0 (by rw[c5];omega);rw[e4] at q1;rw[<- q0,<- q1,K8]
theorem SO:∀ (l:List Value),(∀ v∈l,∃ k n,v=.int k n)->((l.zip l).all λ(x,y)=>Instr.sameBits 9999 x y)=true:=by
 intro l
 induction l with
 | nil=>intro _;rfl
 | cons v l ih=>
  intro h;obtain⟨k,n,rfl⟩:=h v (by simp);have hl:=ih λv hv=>h v (by simp[hv]);simp only[List.zip_cons_cons,I8,hl,S2];simp[Instr.sameBits]
theorem FS:KeyD Tryz.prog j1 where
 same:=λw ρ G L k v v' F F' h h'=>by
  have a1:(j1 k).isAgg=true:=rfl;simp only[VR,a1,w5] at h h';obtain⟨cs,rfl,h⟩:=h;obtain⟨cs',rfl,h'⟩:=h';have q:=SL h;have q':=SL h';have e:cs=cs':=Array.toList_inj.1 (q.trans q'.symm);subst e;show Instr.sameBits (9999+1) _ _=true;simp only[Instr.sameBits,E3,H4];refine SO _ λv hv=>?_;rw[q] at hv
  rcases p9.1 hv with hv|hv
  ·obtain⟨b,_,rfl⟩:=Q5.1 hv;exact⟨_,_,rfl⟩
  ·rw[g8.1 hv];exact⟨_,_,rfl⟩
theorem FE(m:Nat->Nat)(h:Hs):(w7 h).ren m=w7 h:=by
 simp only[w7,D.ren,XZ,N7,Function.comp_def]
theorem k36(m:Nat->Nat)(k:Plc):(j1 k).ren m=j1 k:=by
 simp only[j1,D.ren,KD,FE]
structure PvS where
 h:Int
 head:Hs
 at_:Int
 id:Hs
 raw:List UInt8
 br:List Hs
 t:TxS
 deriving Inhabited
abbrev k14:=Int×Hs
def NK(e:k14):D:=.agg [.int e.1,w7 e.2]
abbrev LV:=Plc×UInt64×Int
def KK(u:LV):D:=.agg [j1 u.1,.u64 u.2.1,.int u.2.2]
def GU(k:UInt8):Hs:=NG (BN k)
def UF(o:OutS)(sc:Hs):Bool:=NG o.script==sc
def j76(t:TxS)(sc:Hs)(k:Nat):Bool:=(List.range k).any λj=>UF t.outs[j]! sc
def v15(all:List StS)(i:Nat)(x:InS)(sc:Hs):Bool:=match I1 all i (plc x) with
 | some o=>UF o sc
 | none=>false
def j22(all:List StS)(i:Nat)(sc:Hs)(k:Nat):Bool:=(List.range k).any λj=>v15 all i all[i]!.t.ins[j]! sc
def y72(all:List StS)(i:Nat)(sc:Hs):Bool:=j76 all[i]!.t sc all[i]!.t.outs.length||j22 all i sc all[i]!.t.ins.length
def GO(all:List StS)(sc:Hs):Nat->List k14
 | 0=>[]
 | i+1=>if y72 all i sc=true then GO all sc i++[(((all[i]!.h:Nat):Int),all[i]!.id)] else GO all sc i
def IW(l:List BlkS)(sc:Hs):List k14:=GO (K6 l) sc (K6 l).length
end
section
def h03(es:List k14)(id:Hs)(j:Nat):Bool:=(List.range j).any λq=>es[q]!.2==id
def h39(l:List BlkS)(ks:List UInt8)(id:Hs)(k:Nat):Bool:=(List.range k).any λq=>h03 (IW l (GU (ks[q]!%12))) id (IW l (GU (ks[q]!%12))).length
def g28(l:List BlkS)(ks:List UInt8):Nat->List StS
 | 0=>[]
 | i+1=>if h39 l ks (K6 l)[i]!.id ks.length=true then g28 l ks i++[(K6 l)[i]!] else g28 l ks i
theorem q95{b:Bool}(h:(!b)=false):b=true:=by cases b;cases h;rfl
theorem k45{b:Bool}(h:(!b)=true):b=false:=by cases b;rfl;cases h
section
variable{l:List BlkS}{ks:List UInt8}{i:Nat}
end
theorem q14(e z:Nat)(l:List k14):FrsR (.sl (some e) z (l.map NK)):=.inr ⟨λds e=>(by cases e),.sl _ _ _ (J5 λx=>.agg _ (ZK (.int _) (B4 _)))⟩
theorem MH(e z:Nat)(l:List LV):FrsR (.sl (some e) z (l.map KK)):=.inr ⟨λds e=>(by cases e),.sl _ _ _ (J5 λx=>.agg _ (λy hy=>by
 simp only[w8,E7,or_false] at hy
 rcases hy with rfl|rfl|rfl
 ·exact .agg _ (ZK (B4 _) (.u32 _))
 ·exact .u64 _
 ·exact .int _))⟩
theorem k77(e:k14):(NK e).brw=NK e:=by simp only[NK,D.brw,D1,d9,Z8,W3]
theorem k76(e:LV):(KK e).brw=KK e:=by simp only[KK,j1,D.brw,D1,d9,Z8,W3]
def nK(n:Nat):UInt32:=UInt32.ofInt ((n:Nat):Int)
def g06(u:List LV):Nat->UInt64
 | 0=>0
 | i+1=>g06 u i+u[i]!.2.1
def g05(u:List LV):UInt64:=g06 u u.length
section
variable{l:List PvS}{p:PvS}{sc:Hs}{n i k:Nat}{t:TxS}{ks:List Plc}
end
theorem GP{k:Nat}(h:k<=1000):(nK k).toNat=k:=by
 unfold nK UInt32.ofInt;rw[Y0];omega
open Go.Proofs
theorem v31(a b:k14):EqV Tryz.prog 3 119 (NK a) (NK b) (a==b):=by
 have h1:∀ x y:Int,EqV Tryz.prog 2 3 (.int x) (.int y) (x==y):=λx y=>(EqV.int Tryz.underlying3 x y).up 1;have hh:∀ x y:Hs,EqV Tryz.prog 2 23 (w7 x) (w7 y) (x==y):=λx y=>EqV.arr x y;have:=EqV.struct (k:=2) Tryz.underlying119 (by kernel_rfl) (.cons rfl rfl inferInstance rfl rfl rfl rfl (h1 a.1 b.1) (.cons rfl rfl inferInstance rfl rfl rfl rfl (hh a.2 b.2) .nil));rw[S2] at this;exact this
theorem v30(a b:LV):EqV Tryz.prog 4 121 (KK a) (KK b) (a==b):=by
 have h1:∀ x y:Int,EqV Tryz.prog 3 3 (.int x) (.int y) (x==y):=λx y=>(EqV.int Tryz.underlying3 x y).up 2;have h2:∀ x y:UInt64,EqV Tryz.prog 3 60 (.u64 x) (.u64 y) (x==y):=λx y=>(EqV.u64 Tryz.underlying60 x y).up 2;have:=EqV.struct (k:=3) Tryz.underlying121 (by kernel_rfl) (.cons rfl rfl inferInstance rfl rfl rfl rfl (ZH a.1 b.1) (.cons rfl rfl inferInstance rfl rfl rfl rfl (h2 a.2.1 b.2.1) (.cons rfl rfl inferInstance rfl rfl rfl rfl (h1 a.2.2 b.2.2) .nil)));rw[S2] at this;exact this
end
section
open Go.Proofs
def ZA(l:List InS):Nat->List (Plc×Int)
 | 0=>[]
 | i+1=>ZA l i++[(plc l[i]!,((i:Nat):Int))]
def HJ(l:List OutS):Nat->UInt64
 | 0=>0
 | i+1=>HJ l i+l[i]!.value
def v01(t:TxS):Prop:=
 t.ins.length≠0/\t.outs.length≠0/\(∀ i<t.ins.length,H3 (ZA t.ins i) (plc t.ins[i]!)=false)/\(∀ i<t.outs.length,¬ 2100000000000000<t.outs[i]!.value/\¬ 2100000000000000<HJ t.outs (i+1))/\(NB t).length<=16384
instance(t:TxS):Decidable (v01 t):=by unfold v01;infer_instance
def JU(t:TxS):Bool:=decide (v01 t)
theorem w08{t:TxS}(h:t.ins.length=0):JU t=false:=K7 λhm=>hm.1 h
theorem w07{t:TxS}(h:t.outs.length=0):JU t=false:=K7 λhm=>hm.2.1 h
theorem w06{t:TxS}{i:Nat}(hi:i<t.ins.length)(h:H3 (ZA t.ins i) (plc t.ins[i]!)=true):JU t=false:=K7 λhm=>by have:=hm.2.2.1 i hi;rw[h] at this;cases this
theorem w05{t:TxS}{i:Nat}(hi:i<t.outs.length)(h:2100000000000000<t.outs[i]!.value):JU t=false:=K7 λhm=>(hm.2.2.2.1 i hi).1 h
theorem w04{t:TxS}{i:Nat}(hi:i<t.outs.length)(h:2100000000000000<HJ t.outs (i+1)):JU t=false:=K7 λhm=>(hm.2.2.2.1 i hi).2 h
theorem k49{t:TxS}(h1:¬ t.ins.length=0)(h2:¬ t.outs.length=0)(h3:∀ i<t.ins.length,H3 (ZA t.ins i) (plc t.ins[i]!)=false)
 (h4:∀ i<t.outs.length,¬ 2100000000000000<t.outs[i]!.value/\¬ 2100000000000000<HJ t.outs (i+1)):JU t=decide ((NB t).length<=16384):=by
 unfold JU v01;simp only[ne_eq,h1,h2,not_false_eq_true,true_and,C5];exact⟨λh=>h.2.2,λh=>⟨h3,h4,h⟩⟩
end
section
open Go.Proofs
theorem PH(k:UInt8):Fn Tryz.prog gl 18 [.u8 k] (w7 (GU k)):=by
 refine Fn.of (n:=6) Tryz.func18 rfl rfl rfl (c8 rfl) λC hC hD=>?_;refine W.seq ?_;refine OP (n:=1) (by decide) (its:=[]) (ks:=[]) (kk:=[]) (live:=[0]) (env':=[(0,_)])
  (⟨c8 rfl,rfl,
   trivial,rfl,rfl,rfl⟩)
  rfl (bx':=[]) rfl (n':=6) rfl (⟨rfl,_,R.alloc rfl (c8 rfl),⟨[0,2],[(0,_),(2,_)],[(2,.var _)],6,rfl,rfl,rfl, ?_⟩⟩)
 refine W.seq ?_;refine OP (n:=4) (by decide) (its:=[⟨3,_,true⟩,⟨4,_,true⟩,⟨5,_,true⟩]) (ks:=[]) (kk:=[]) (live:=[2,5]) (env':=[(2,_),(5,_)])
  (⟨c8 rfl,rfl,
   ⟨⟨rfl,rfl,λ_ τ hb ht hτ=>R.mov (evt (hτ 0 _ rfl)) rfl ht⟩,
   ⟨⟨rfl,rfl,λ_ τ hb ht hτ=>Z7 hC (IL k) (Bors.cons (Bor.pur (evt (hτ 3 _ rfl)) rfl rfl) Bors.nil) (FrsR.one (JL _)) ht⟩,
   ⟨⟨rfl,rfl,λ_ τ hb ht hτ=>Z7 hC (PP (BN k) (by rw[II];decide)) (Bors.cons (Bor.sc (SC.sl (hτ 4 _ rfl)) (J6 (λ_=>rfl))) Bors.nil) (FrsR.one (X6 _)) ht⟩,
   trivial⟩⟩⟩,rfl,rfl,rfl⟩)
  rfl (bx':=[(2,.var _)]) rfl (n':=6) rfl (⟨rfl,_,ZV (show Sg.get _ 2=some _ from rfl) (show Sg.box _ 2=some _ from rfl) rfl (evt (show Sg.get _ 5=some _ from rfl)) (by rfl) (by rfl) (by rfl) (by rfl) rfl,⟨[2],[(2,_)],[(2,.var _)],6,rfl,rfl,rfl, ?_⟩⟩)
 refine W.ret ?_;exact Ends.one' (.inr rfl) rfl (rfl) rfl rfl (show LdT _ 23 32 true from inferInstance)
end
section
open Go.Proofs
end
section
open Go.Proofs
end
section
variable{α:Type}[Inhabited α][BEq α][LawfulBEq α]{a b:List α}
omit [Inhabited α] in
theorem TU(h:a.length≠b.length):(a==b)=false:=by
 rw[v9];intro e;exact h (by rw[e])
theorem q98{i:Nat}(hi:i<a.length)(hl:a.length=b.length)(h:(a[i]! == b[i]!)=false):(a==b)=false:=by
 rw[v9];intro e;rw[v9] at h;exact h (by rw[e])
theorem q99(hl:a.length=b.length)(h:∀ q<a.length,a[q]! = b[q]!):(a==b)=true:=by
 rw[d5];refine List.ext_getElem hl λi h1 h2=>?_;have:=h i h1
 rwa [b9 a i h1,b9 b i h2] at this
end
section
variable{P:Program}{C:Ctx}{σ σ' σ1:Sg}{a:Act}{w w':World}{ρ:Nat->Nat}{Fe Fe' Fb:Nat->List Nat}
variable{κ α:Type}[DecidableEq κ]
def IR(m:List (κ×α))(k:κ)(u:α):List (κ×α):=if T6 m k<m.length then m.set (T6 m k) (k,u) else m++[(k,u)]
theorem MQ{m:List (κ×α)}{k:κ}(h:T6 m k<m.length):m[T6 m k].1=k:=by
 have h1:(λe:κ×α=>e.1==k) m[m.findIdx (λe:κ×α=>e.1==k)]=true:=List.findIdx_getElem (w:=h);exact d5.1 h1
theorem GN{m:List (κ×α)}{k:κ}:H3 m k=true↔∃ e∈m,e.1=k:=by
 unfold H3;rw[c6];constructor
 ·rintro ⟨e,he,h⟩;exact⟨e,he,by simpa using h⟩
 ·rintro ⟨e,he,h⟩;exact⟨e,he,by simpa using h⟩
theorem IS(m:List (κ×α))(k:κ)(u:α)(k':κ):H3 (IR m k u) k'=(k==k'||H3 m k'):=by
 rw[Q4,K5,GN,GN,d5];unfold IR;split
 ·rename_i hi;constructor
  ·rintro ⟨e,he,h⟩
   rcases N6 he with h1|h1
   ·exact .inr ⟨e,h1,h⟩
   ·rw[h1] at h;exact .inl h
  ·rintro (rfl|⟨e,he,rfl⟩)
   ·exact⟨(k,u),List.mem_set hi _,rfl⟩
   ·by_cases hk:e.1=k
    ·exact⟨(k,u),List.mem_set hi _,hk.symm⟩
    ·obtain⟨j,hj,rfl⟩:=c9.1 he;refine⟨m[j], ?_,rfl⟩;have hne:T6 m k≠j:=λe=>hk (by subst e;exact MQ hi);refine c9.2 ⟨j,by simpa using hj, ?_⟩;rw[B3 hne]
 ·constructor
  ·rintro ⟨e,he,h⟩
   rcases p9.1 he with h1|h1
   ·exact .inr ⟨e,h1,h⟩
   ·rw[g8.1 h1] at h;exact .inl h
  ·rintro (rfl|⟨e,he,h⟩)
   ·exact⟨(k,u),by simp,rfl⟩
   ·exact⟨e,List.mem_append_left _ he,h⟩
theorem q00{z:α}{m:List (κ×α)}{k:κ}(j:Nat)(hj:j<m.length)(h1:m[j].1=k)(h2:∀ i (hi:i<m.length),i<j->m[i].1≠k):KW z m k=m[j].2:=by
 have hi:T6 m k=j:=by
  unfold T6;rw[List.findIdx_eq hj];exact⟨by simpa using h1,λi hi=>by simpa using h2 i (by omega) hi⟩
 unfold KW;rw[hi,j9 hj];rfl
theorem WW{z:α}{m:List (κ×α)}{k:κ}(h:H3 m k=false):KW z m k=z:=by
 have hi:¬ T6 m k<m.length:=λhc=>by rw[HD,h] at hc;cases hc
 unfold KW;rw[U1 (by omega)];rfl
theorem WV(z:α){m:List (κ×α)}{k:κ}(u:α)(hno:H3 m k=false)(k':κ):KW z (m++[(k,u)]) k'=if k=k' then u else KW z m k':=by
 by_cases hh:H3 m k'=true
 ·have hi:T6 m k'<m.length:=(HD _ _).2 hh
  have hne:k≠k':=λe=>by rw[e,hh] at hno;cases hno
  rw[z8 hne]
  have h2:∀ i (hi:i<m.length),i<T6 m k'->m[i].1≠k':=λi hi hlt=>by
   have:=List.not_of_lt_findIdx (p:=λe:κ×α=>e.1==k') hlt;simpa using this
  rw[q00 (T6 m k') hi (MQ hi) h2,q00 (T6 m k') (by simp;omega) (by rw[o0 hi];exact MQ hi) (λi hi' hlt=>by rw[o0 (by omega)];exact h2 i (by omega) hlt),o0 hi]
 ·have hh':H3 m k'=false:=by cases h:H3 m k' with|true=>exact absurd h hh|false=>rfl
  have hall:∀ i (hi:i<m.length),m[i].1≠k':=λi hi e=>hh (GN.2 ⟨_,d7 hi,e⟩);by_cases hk:k=k'
  ·rw[j7 hk,q00 m.length (by simp) (by simpa using hk) (λi hi hlt=>by rw[o0 hlt];exact hall i hlt)];simp
  ·rw[z8 hk,WW hh',WW]
   cases h:H3 (m++[(k,u)]) k' with
   | false=>rfl
   | true=>
    obtain⟨e,he,h1⟩:=GN.1 h
    rcases p9.1 he with h2|h2
    ·exact absurd (GN.2 ⟨e,h2,h1⟩) hh
    ·rw[g8.1 h2] at h1;exact absurd h1 hk
theorem R.mupdU{kd:κ->D}{f:α->D}{m:List (κ×α)}{n:Nat}{p id:Nat}{x y:Operand}{k:κ}{u:α}{dk dv:D}{ty kt et rt:TypeId}{pos:String}{aft:Array Edge}{g:Option (Nat×Bool)}[hT:MkT P ty kt et]
 (H:KeyC P kt kd n) (H2:KeyD P kd) (h:σ.get p=some (.map id)) (hb:σ.box id=some (m6 kd f m)) (hx:ev C.gl σ x=some dk) (hdk:dk=kd k) (hy:ev C.gl σ y=some dv) (hd:dv=f u) (hp:dv.pur=true) :
 OpS P C ⟨none,.mapUpdate ty (.tmp p) x y,rt,pos,aft,g⟩ σ (σ.putB id (m6 kd f (IR m k u))):=by
 by_cases hin:T6 m k<m.length
 ·have he:IR m k u=m.set (T6 m k) (k,u):=j7 hin;rw[he];subst hdk;subst hd;refine OpS.skip rfl λa w ⟨ρ,Fe,Fb,st⟩=>?_;have hpm:=IP st h;obtain⟨Fx,hvx,_⟩:=B9 st hx (M1 (H.p k));have hF0:=hvx.pur (H.p k);rw[hF0] at hvx;obtain⟨Fy,hvy,_⟩:=B9 st hy (M1 hp);have hFy:=hvy.pur hp;rw[hFy] at hvy;obtain⟨hF,es,h2,h3,h4⟩:=WN (st.bx _ _ hb);have hfk:=H.findKey hvx es.toList m (by simpa using h3) (λj hj=>by have:=(h4 j hj).1;simpa [n3] using this);obtain⟨q1,q2,q3⟩:=h4 _ hin
  have hsz:T6 m k<es.size:=by omega
  have hgd:es.getD (T6 m k) default=es[T6 m k]:=by simp[n3,hsz]
  rw[hgd,MQ hin] at q1;have hsame:=H2.same w ρ _ _ k _ _ _ _ q1 hvx
  have st2:=st.putMk (es:=es.modify (T6 m k) λe=>{ e with key:=a.eval x,val:=a.eval y }) (m':=m.set (T6 m k) (k,u)) hb (by simpa using h3) (λj hj=>by
   have hj':j<m.length:=by simpa using hj
   obtain⟨r1,r2,r3⟩:=h4 j hj'
   have hjs:j<es.size:=by omega
   have hgj:es.getD j default=es[j]:=by simp[n3,hjs]
   rw[hgj] at r1 r2 r3;rw[n3,R2 (by simpa using hjs),Option.getD_some,Array.getElem_modify,List.getElem_set];by_cases hij:T6 m k=j
   ·subst hij;simp only[w5];exact⟨hvx,hvy,r3⟩
   ·simp only[hij,q8]
    exact⟨r1,r2,r3⟩)
  refine⟨_, ?_,ρ,Fe,_,st2⟩;unfold execOp;simp[Instr.mapUpdate,run_underlying hT.u,K1 hpm,MapKept.run_getObj_map h2,H.check hvx,hfk,hin,Instr.keyThatStays,hsame,hsz,MapKept.run_setObj_map _ h2]
 ·have he:IR m k u=m++[(k,u)]:=z8 hin;rw[he];refine R.mupdN H h hb hx hdk hy hd hp ?_
  cases hh:H3 m k with
  | false=>rfl
  | true=>exact absurd ((HD m k).2 hh) hin
theorem u37{id:Nat}{d d':D}{ids:List Nat}{bx':List (Nat×Bx)}{env':List (Nat×D)}(hb0:σ.box id=some (.var d))(he:d.brw=d')(hnp:d'.np=true)(hid:J2 ids id=false)(hb:E1 ids σ.bx=bx')
 (hE:z89 id d' σ.env=env') (hoE:QW ids env'=true) (hoB:YM ids bx') (hpn:∀ id b,C.pin id=some b->J2 ids id=true) (hs:St C σ a w):St C ⟨σ.n,env',bx'⟩ a w:=by
 obtain⟨ρ,Fe,Fb,st⟩:=hs
 have hl:∀ u,lk bx' u=if J2 ids u then σ.box u else none:=λu=>by rw[<- hb];exact QH ids σ.bx u
 have hsub:∀ id,∀ b∈(if J2 ids id then Fb id else[]),b∈Fb id:=λid b hm=>by split at hm;exact hm;cases hm
 have hown:∀ b,own Fe (λid=>if J2 ids id then Fb id else[]) b->own Fe Fb b:=λb hb=>hb.imp (λh=>h) λ⟨i,hi⟩=>⟨i,hsub i b hi⟩
 have hgd:∀ b,gd C Fe Fb b->gd C Fe (λid=>if J2 ids id then Fb id else[]) b:=λb hb=>⟨hb.1,λhc=>hb.2 (hown b hc)⟩
 have hgd2:∀ b∈Fb id,gd C Fe (λid=>if J2 ids id then Fb id else[]) b:=λb hb=>⟨st.okO b (.inr ⟨id,hb⟩),by
  rintro (⟨u,hu⟩|⟨i,hi⟩)
  ·exact st.dEB u id b hu hb
  ·by_cases hii:i=id
   ·subst hii;simp[hid] at hi
   ·exact st.dBB i id hii b (hsub i b hi) hb⟩
 have hL:∀ i,(J2 ids i=true/\(σ.box i).isSome)->(lk bx' i).isSome:=λi ⟨h1,h2⟩=>by rw[hl,j7 h1];exact h2
 refine⟨ρ,Fe,(λid=>if J2 ids id then Fb id else[]),{
  size:=st.size
  defs:=st.defs
  pin:=λid b hp=>⟨(st.pin id b hp).1,hL id ⟨hpn id b hp,(st.pin id b hp).2⟩⟩
  env:=λt x hx=>?_
  envN:=λt ht=>?_
  bx:=λi b hd=>?_
  bxN:=λi hn=>?_
  nodE:=st.nodE
  nodB:=λid=>by show(if J2 ids id then Fb id else[]).Nodup;split;exact st.nodB id;exact u5
  dEE:=st.dEE
  dEB:=λt i b hb hm=>st.dEB t i b hb (hsub i b hm)
  dBB:=λi i' hne b hb hm=>st.dBB i i' hne b (hsub i b hb) (hsub i' b hm)
  new:=λb hb=>st.new b (hown b hb)
  kept:=st.kept
  os:=st.os
  tape:=⟨st.tape.tp,st.tape.dr⟩
  output:=st.output
  grown:=st.grown
  gl:=st.gl
  okN:=st.okN
  okO:=λb hb=>st.okO b (hown b hb) }⟩
 ·have hx0:lk env' t=some x:=hx;have hok:=QV hoE hx0;rw[<- hE,EX,Q3] at hx0;obtain⟨x0,hx1,hx2⟩:=hx0
  rcases LU id d' x0 with ⟨rfl,hf⟩|hf
  ·rw[hf] at hx2;subst hx2;obtain⟨v,hv,hr⟩:=(m9 rfl).1 (st.env t _ hx1);refine(m9 rfl).2 ⟨v,hv, ?_⟩;simp only[VR,D.isAgg,q7,q8] at hr ⊢;generalize Fe t=F at hr ⊢;cases hr;obtain⟨cs,e,F',q1,q2,q3⟩:=st.bx id _ hb0;have h4:=q2.brw (G':=gd C Fe (λid=>if J2 ids id then Fb id else[])) (λb hb=>hgd2 b (by rw[q3];exact j5 _ hb)) (λb hb _=>hgd b hb);have hlen:=q2.len;rw[he] at h4
   have hsz:d'.sz=d.sz:=by rw[<- he,BC]
   refine .rp d' (ρ id) 0 cs e (0,0) q1 (hgd2 _ (by rw[q3];simp)) (by rw[hsz];simp at hlen;omega) ?_
   have hcs:(cs.toList.drop 0).take d'.sz=cs.toList:=by rw[hsz,<- hlen,J0];exact X4
   rw[hcs];exact(h4.unflag hnp).noL
  ·rw[hf] at hx2;subst hx2;exact(st.env t _ hx1).okB hok (λb hb _=>hgd b hb) hL
 ·have ht':lk env' t=none:=ht;rw[<- hE,EX,Z0] at ht';exact st.envN t ht'
 ·have hok:=UX hoB hd;have h1:=hl i;by_cases hm:J2 ids i=true
  ·rw[j7 hm] at h1
   have h2:σ.box i=some b:=by rw[<- h1];exact hd
   have hF':(if J2 ids i then Fb i else[])=Fb i:=j7 hm;show BR w ρ _ _ (ρ i) b (if J2 ids i then Fb i else[]);rw[hF'];exact((st.bx i b h2).okB hok).mono (λ_ _ _=>rfl) (λb hb _=>hgd b hb) (λi hi=>⟨hL i hi,rfl⟩)
  ·rw[z8 hm] at h1;rw[show lk bx' i=some b from hd] at h1;cases h1
 ·have h1:=hl i;by_cases hm:J2 ids i=true
  ·rw[j7 hm] at h1;simp only[hm,w5];exact st.bxN i (by rw[<- h1];exact hn)
  ·simp[hm]
theorem k93{c:Code}{Q:Exit->Sg->Prop}(id:Nat){d d':D}(ids:List Nat){bx':List (Nat×Bx)}{env':List (Nat×D)}(hb0:σ.box id=some (.var d))(he:d.brw=d')(hnp:d'.np=true)(hid:J2 ids id=false)(hb:E1 ids σ.bx=bx')
 (hE:z89 id d' σ.env=env') (hoE:QW ids env'=true) (hoB:YM ids bx') (hpn:∀ id b,C.pin id=some b->J2 ids id=true) (h:W P C c Q ⟨σ.n,env',bx'⟩):W P C c Q σ:=
 λa w hs=>h a w (u37 hb0 he hnp hid hb hE hoE hoB hpn hs)
end
end Go.Sx
namespace Go.Sx
abbrev AH:=UInt64×Hs
def C7(o:AH):D:=.agg [.u64 o.1,w7 o.2]
def w9(_:Unit):D:=.agg []
def q49:AH:=(0,zero32)
structure BkS where
 outs:List (Plc×AH)
 spent:List (Plc×Unit)
 ids:List (Hs×Unit)
def bk0:BkS:=⟨[],[],[]⟩
def g04(m:List (Plc×Unit))(l:List InS):Nat->List (Plc×Unit)
 | 0=>m
 | i+1=>IR (g04 m l i) (plc l[i]!) ()
def BF(m:List (Plc×AH))(id:Hs)(l:List OutS):Nat->List (Plc×AH)
 | 0=>m
 | k+1=>IR (BF m id l k) (id,nK k) (l[k]!.value,GX l[k]!.script)
def q05(b:BkS)(t:TxS):List (Plc×Unit):=if N8 t=true then b.spent else g04 b.spent t.ins t.ins.length
def MY(b:BkS)(id:Hs)(t:TxS):BkS:=if H3 b.ids id=true then⟨b.outs,q05 b t,b.ids⟩ else⟨BF b.outs id t.outs t.outs.length,q05 b t,IR b.ids id ()⟩
theorem w63{b:BkS}{id:Hs}{t:TxS}(h:H3 b.ids id=true):MY b id t=⟨b.outs,q05 b t,b.ids⟩:=j7 h
theorem q06{b:BkS}{id:Hs}{t:TxS}(h:H3 b.ids id=false):MY b id t=⟨BF b.outs id t.outs t.outs.length,q05 b t,IR b.ids id ()⟩:=z8 (by rw[h];exact m8)
theorem w61{b:BkS}{t:TxS}(h:N8 t=true):q05 b t=b.spent:=j7 h
theorem w62{b:BkS}{t:TxS}(h:N8 t=false):q05 b t=g04 b.spent t.ins t.ins.length:=z8 (by rw[h];exact m8)
def JI(b:BkS)(l:List InS):Nat->List Hs
 | 0=>[]
 | i+1=>if H3 b.outs (plc l[i]!)=true then JI b l i++[(KW q49 b.outs (plc l[i]!)).2] else JI b l i
def OK(l:List OutS):Nat->List Hs
 | 0=>[]
 | k+1=>OK l k++[GX l[k]!.script]
def JF(b:BkS)(t:TxS):List Hs:=JI b t.ins t.ins.length++OK t.outs t.outs.length
theorem z13(l:List OutS)(k:Nat):(OK l k).length=k:=by
 induction k with
 | zero=>rfl
 | succ k ih=>simp[OK,ih]
theorem z84{b:BkS}{l:List InS}{i:Nat}(h:H3 b.outs (plc l[i]!)=true):JI b l (i+1)=JI b l i++[(KW q49 b.outs (plc l[i]!)).2]:=by rw[JI,j7 h]
theorem w57{b:BkS}{l:List InS}{i:Nat}(h:H3 b.outs (plc l[i]!)=false):JI b l (i+1)=JI b l i:=by rw[JI,z8 (by rw[h];exact m8)]
theorem w56(b:BkS)(l:List InS){i n:Nat}(h:i<=n):∃ r,JI b l n=JI b l i++r:=by
 induction n with
 | zero=>rw[show i=0 by omega];exact⟨[],by simp⟩
 | succ n ih=>
  by_cases he:i=n+1
  ·rw[he];exact⟨[],by simp⟩
  ·obtain⟨r,hr⟩:=ih (by omega);rw[JI];split
   ·exact⟨r++[(KW q49 b.outs (plc l[n]!)).2],by rw[hr,w3]⟩
   ·exact⟨r,hr⟩
theorem w54(l:List OutS){i n:Nat}(h:i<=n):∃ r,OK l n=OK l i++r:=by
 induction n with
 | zero=>rw[show i=0 by omega];exact⟨[],by simp⟩
 | succ n ih=>
  by_cases he:i=n+1
  ·rw[he];exact⟨[],by simp⟩
  ·obtain⟨r,hr⟩:=ih (by omega);exact⟨r++[GX l[n]!.script],by rw[OK,hr,w3]⟩
theorem u11{p r:List Hs}{x:Hs}:(p++[x]++r)[p.length]! = x:=by
 rw[w3,b9 _ _ (by simp)];simp
theorem k58{b:BkS}{t:TxS}{i:Nat}(hi:i<t.ins.length)(h:H3 b.outs (plc t.ins[i]!)=true):(JI b t.ins i).length<(JF b t).length/\(JF b t)[(JI b t.ins i).length]! = (KW q49 b.outs (plc t.ins[i]!)).2:=by
 obtain⟨r,hr⟩:=w56 b t.ins (show i+1<=t.ins.length by omega);rw[z84 h] at hr
 have e:JF b t=JI b t.ins i++[(KW q49 b.outs (plc t.ins[i]!)).2]++(r++OK t.outs t.outs.length):=by rw[JF,hr,w3 (_++_)]
 rw[e];exact⟨by simp,u11⟩
theorem z12{b:BkS}{t:TxS}{k:Nat}(hk:k<t.outs.length):(JI b t.ins t.ins.length).length+k<(JF b t).length/\(JF b t)[(JI b t.ins t.ins.length).length+k]! = GX t.outs[k]!.script:=by
 obtain⟨r,hr⟩:=w54 t.outs (show k+1<=t.outs.length by omega);rw[OK] at hr
 have e:JF b t=(JI b t.ins t.ins.length++OK t.outs k)++[GX t.outs[k]!.script]++r:=by rw[JF,hr];simp only[w3]
 have hl:(JI b t.ins t.ins.length).length+k=(JI b t.ins t.ins.length++OK t.outs k).length:=by rw[q9,z13]
 rw[e,hl];exact⟨by simp,u11⟩
theorem w53(b:BkS)(t:TxS):(JF b t).length=(JI b t.ins t.ins.length).length+t.outs.length:=by rw[JF,q9,z13]
def v89(b:BkS)(l:List InS):Nat->UInt64
 | 0=>0
 | i+1=>v89 b l i+(KW q49 b.outs (plc l[i]!)).1
def z50(b:BkS)(p:Plc):Bool:=H3 b.outs p&&!H3 b.spent p
def XC(b:BkS)(id:Hs)(t:TxS):Bool:=
 !H3 b.ids id&&(N8 t||((List.range t.ins.length).all (λi=>z50 b (plc t.ins[i]!))&&decide (HJ t.outs t.outs.length<=v89 b t.ins t.ins.length)))
theorem k61{b:BkS}{id:Hs}{t:TxS}(h:H3 b.ids id=true):XC b id t=false:=by unfold XC;rw[h];rfl
theorem k60{b:BkS}{id:Hs}{t:TxS}(h:H3 b.ids id=false)(h2:N8 t=true):XC b id t=true:=by unfold XC;rw[h,h2];rfl
theorem q04{b:BkS}{id:Hs}{t:TxS}(h:H3 b.ids id=false)(h2:N8 t=false){i:Nat}(hi:i<t.ins.length)(h3:z50 b (plc t.ins[i]!)=false):XC b id t=false:=by
 have:(List.range t.ins.length).all (λi=>z50 b (plc t.ins[i]!))=false:=by
  rw[List.all_eq_false];exact⟨i,z7.2 hi,by rw[h3];exact m8⟩
 unfold XC;rw[h,h2,this];rfl
theorem k59{b:BkS}{id:Hs}{t:TxS}(h:H3 b.ids id=false)(h2:N8 t=false)(h3:∀ i<t.ins.length,z50 b (plc t.ins[i]!)=true):XC b id t=decide (HJ t.outs t.outs.length<=v89 b t.ins t.ins.length):=by
 have:(List.range t.ins.length).all (λi=>z50 b (plc t.ins[i]!))=true:=by
  rw[Z3];exact λi hi=>h3 i (z7.1 hi)
 unfold XC;rw[h,h2,this];simp
theorem g62{b:BkS}{p:Plc}(h:H3 b.outs p=true)(h2:H3 b.spent p=false):z50 b p=true:=by unfold z50;rw[h,h2];rfl
theorem g63{b:BkS}{p:Plc}(h:H3 b.outs p=true)(h2:H3 b.spent p=true):z50 b p=false:=by unfold z50;rw[h,h2];rfl
theorem g64{b:BkS}{p:Plc}(h:H3 b.outs p=false):z50 b p=false:=by unfold z50;rw[h];rfl
def LX(l:List TxS):Nat->List Hs
 | 0=>[]
 | i+1=>LX l i++[XR l[i]!]
theorem w66{l:List TxS}{i:Nat}:(LX l i).map w7++[w7 (XR l[i]!)]=(LX l (i+1)).map w7:=by
 rw[LX,d8];rfl
theorem w65(l:List TxS)(i:Nat):(LX l i).length=i:=by
 induction i with
 | zero=>rfl
 | succ i ih=>simp[LX,ih]
theorem j46(l:List TxS)(i:Nat)(hi:i<=l.length):LX l i=(l.take i).map XR:=by
 induction i with
 | zero=>rfl
 | succ i ih=>rw[LX,ih (by omega),N3 (by omega),d8,b9 l i (by omega)];rfl
theorem w67(l:List TxS):LX l l.length=l.map XR:=by rw[j46 l _ (z5 _),X4]
def gB(b:BkS)(txs:List TxS):Nat->BkS
 | 0=>b
 | i+1=>MY (gB b txs i) (XR txs[i]!) txs[i]!
theorem g66(b:BkS)(txs:List TxS)(i:Nat):gB b txs (i+1)=MY (gB b txs i) (XR txs[i]!) txs[i]!:=by rw[gB]
def ZZ(b:BkS)(txs:List TxS)(i:Nat):Int:=
 if JU txs[i]! = false∨N8 txs[i]!≠decide (i=0) then 1 else if XC (gB b txs i) (XR txs[i]!) txs[i]! = false then 14 else 0
def q09(b:BkS)(txs:List TxS):Nat:=((List.range txs.length).find? (λq=>decide (ZZ b txs q≠0))).getD txs.length
def LJ(b:BkS)(txs:List TxS):Int×BkS:=(if q09 b txs<txs.length then ZZ b txs (q09 b txs) else 0,gB b txs (q09 b txs))
theorem q16{n i:Nat}{f:Nat->Bool}(hi:i<n)(h:∀ j,j<i->f j=false)(ho:f i=true):(List.range n).find? f=some i:=by
 rw[List.find?_range_eq_some];exact⟨ho,z7.2 hi,λj hj=>by rw[h j hj];rfl⟩
theorem q15{n:Nat}{f:Nat->Bool}(h:∀ j,j<n->f j=false):(List.range n).find? f=none:=by
 rw[List.find?_eq_none]
 exact λj hj=>by rw[h j (z7.1 hj)];exact m8
theorem k57{b:BkS}{txs:List TxS}{i:Nat}(hi:i<txs.length)(h:∀ q<i,ZZ b txs q=0)(ho:ZZ b txs i≠0):LJ b txs=(ZZ b txs i,gB b txs i):=by
 have e:q09 b txs=i:=by unfold q09;rw[q16 (f:=λq=>decide (ZZ b txs q≠0)) hi (λj hj=>K7 (λhn=>hn (h j hj))) (D3 ho)];rfl
 unfold LJ;rw[e,j7 hi]
theorem q03{b:BkS}{txs:List TxS}(h:∀ q<txs.length,ZZ b txs q=0):LJ b txs=(0,gB b txs txs.length):=by
 have e:q09 b txs=txs.length:=by unfold q09;rw[q15 (f:=λq=>decide (ZZ b txs q≠0)) (λj hj=>K7 (λhn=>hn (h j hj)))];rfl
 unfold LJ;rw[e,z8 (Nat.lt_irrefl _)]
def ED(l:List BlkS)(h:Nat):Int:=
 if 0<h/\l[h]!.hd.prev≠RW l[h-1]!.hd then 9 else if l[h]!.txs.length=0 then(if h=0 then 0 else 6) else if 256<l[h]!.txs.length then 6 else if l[h]!.hd.root≠KS F6 (l[h]!.txs.map XR) then 15 else 0
def DX(b:BkS)(l:List BlkS)(h:Nat):Int×BkS:=if ED l h≠0 then(ED l h,b) else LJ b l[h]!.txs
def gH(l:List BlkS):Nat->BkS
 | 0=>bk0
 | h+1=>(DX (gH l h) l h).2
def gE(l:List BlkS)(h:Nat):Int:=(DX (gH l h) l h).1
def s3(l:List BlkS):Int×Int:=match (List.range l.length).find? (λh=>decide (gE l h≠0)) with
 | some h=>(((h:Nat):Int),gE l h)
 | none=>(0,0)
theorem j45{l:List BlkS}{h:Nat}(hh:h<l.length)(h0:∀ q<h,gE l q=0)(ho:gE l h≠0):s3 l=(((h:Nat):Int),gE l h):=by
 unfold s3;rw[q16 (f:=λh=>decide (gE l h≠0)) hh (λj hj=>K7 (λhn=>hn (h0 j hj))) (D3 ho)]
theorem h06{l:List BlkS}{h:Nat}(hc:((DX (gH l h) l h).1 != 0)=false):gE l h=0:=by simpa [gE] using hc
theorem h05{l:List BlkS}{h:Nat}(hc:((DX (gH l h) l h).1 != 0)=true):gE l h≠0:=by simpa [gE] using hc
theorem j44{l:List BlkS}(h0:∀ q<l.length,gE l q=0):s3 l=(0,0):=by
 unfold s3;rw[q15 (f:=λh=>decide (gE l h≠0)) (λj hj=>K7 (λhn=>hn (h0 j hj)))]
section
variable{l:List BlkS}{h:Nat}{b:BkS}{i:Nat}
theorem v90(h1:0<h)(h2:(l[h]!.hd.prev != RW l[h-1]!.hd)=true):ED l h=9:=by unfold ED;rw[j7 ⟨h1,U8.1 h2⟩]
theorem z17(hp:¬ 0<h∨(l[h]!.hd.prev != RW l[h-1]!.hd)=false):¬ (0<h/\l[h]!.hd.prev≠RW l[h-1]!.hd):=λ⟨h1,h2⟩=>hp.elim (λh=>h h1) (λh=>h2 (X1.1 h))
theorem g65(h1:¬ 0<h)(hz:l[h]!.txs.length=0):ED l h=0:=by unfold ED;rw[z8 (z17 (.inl h1)),j7 hz,j7 (by omega)]
theorem w69(h1:0<h)(hp:¬ 0<h∨(l[h]!.hd.prev != RW l[h-1]!.hd)=false)(hz:l[h]!.txs.length=0):ED l h=6:=by unfold ED;rw[z8 (z17 hp),j7 hz,z8 (by omega)]
theorem q07(hp:¬ 0<h∨(l[h]!.hd.prev != RW l[h-1]!.hd)=false)(hz:¬ l[h]!.txs.length=0)(h2:256<l[h]!.txs.length):ED l h=6:=by unfold ED;rw[z8 (z17 hp),z8 hz,j7 h2]
theorem q08(hp:¬ 0<h∨(l[h]!.hd.prev != RW l[h-1]!.hd)=false)(hz:¬ l[h]!.txs.length=0)(h2:¬ 256<l[h]!.txs.length)(hr:(l[h]!.hd.root != KS F6 (l[h]!.txs.map XR))=true):ED l h=15:=by
 unfold ED;rw[z8 (z17 hp),z8 hz,z8 h2,j7 (U8.1 hr)]
theorem ZN(hp:¬ 0<h∨(l[h]!.hd.prev != RW l[h-1]!.hd)=false)(hz:¬ l[h]!.txs.length=0)(h2:¬ 256<l[h]!.txs.length)(hr:(l[h]!.hd.root != KS F6 (l[h]!.txs.map XR))=false):ED l h=0:=by
 unfold ED;rw[z8 (z17 hp),z8 hz,z8 h2,z8 (λhn=>hn (X1.1 hr))]
theorem KQ{e:Int}(he:ED l h=e)(h0:e≠0):DX b l h=(e,b):=by unfold DX;rw[he,j7 h0]
theorem EC(h0:ED l h=0):DX b l h=LJ b l[h]!.txs:=by unfold DX;rw[h0];exact z8 (by simp)
theorem KZ{e:Int}(h0:ED l h=0)(hi:i<l[h]!.txs.length)(hn:∀ q<i,ZZ b l[h]!.txs q=0)(he:ZZ b l[h]!.txs i=e)(h1:e≠0):DX b l h=(e,gB b l[h]!.txs i):=by
 rw[EC h0,k57 hi hn (by rw[he];exact h1),he]
theorem MG(h0:ED l h=0)(hn:∀ q<l[h]!.txs.length,ZZ b l[h]!.txs q=0):DX b l h=(0,gB b l[h]!.txs l[h]!.txs.length):=by rw[EC h0,q03 hn]
theorem k62(h1:¬ 0<h)(hz:l[h]!.txs.length=0):DX b l h=(0,b):=by
 rw[MG (g65 h1 hz) (λq hq=>by omega),hz];rfl
variable{txs:List TxS}
theorem q11(hm:¬ JU txs[i]! = true):ZZ b txs i=1:=by unfold ZZ;rw[j7 (.inl (by simpa using hm))]
theorem q12(h:(N8 txs[i]! != decide (i=0))=true):ZZ b txs i=1:=by unfold ZZ;rw[j7 (.inr (U8.1 h))]
theorem q10(hm:JU txs[i]! = true)(h:(N8 txs[i]! != decide (i=0))=false)(h2:(!XC (gB b txs i) (XR txs[i]!) txs[i]!)=true):ZZ b txs i=14:=by
 unfold ZZ;rw[z8 (by rintro (h1|h1);rw[hm] at h1;cases h1;exact h1 (X1.1 h)),j7 (by simpa using h2)]
theorem w71(hm:JU txs[i]! = true)(h:(N8 txs[i]! != decide (i=0))=false)(h2:(!XC (gB b txs i) (XR txs[i]!) txs[i]!)=false):ZZ b txs i=0:=by
 unfold ZZ;rw[z8 (by rintro (h1|h1);rw[hm] at h1;cases h1;exact h1 (X1.1 h)),z8 (by simpa using h2)]
theorem x83(l:List TxS):allH (l.map XR):=λx hx=>by
 obtain⟨t,_,rfl⟩:=Q5.1 hx;exact FX _
theorem WM(hi:i<txs.length):((txs.map XR).map w7)[i]? = some (w7 (XR txs[i]!)):=by
 rw[G9,G9,j9 hi,b9 txs i hi];rfl
end
def gAll(l:List BlkS):Nat->BkS
 | 0=>bk0
 | h+1=>gB (gAll l h) l[h]!.txs l[h]!.txs.length
def HB(b:BkS)(h:Nat)(txs:List TxS)(sc:Hs):Nat->List k14
 | 0=>[]
 | i+1=>if sc∈JF (gB b txs i) txs[i]! then HB b h txs sc i++[(((h:Nat):Int),XR txs[i]!)] else HB b h txs sc i
def OJ(l:List BlkS)(sc:Hs):Nat->List k14
 | 0=>[]
 | h+1=>OJ l sc h++HB (gAll l h) h l[h]!.txs sc l[h]!.txs.length
def BY(l:List BlkS)(sc:Hs):List k14:=OJ l sc l.length
def CK(h:Nat)(id:Hs)(l:List OutS)(sc:Hs):Nat->List LV
 | 0=>[]
 | k+1=>if(GX l[k]!.script==sc)=true then CK h id l sc k++[((id,nK k),l[k]!.value,((h:Nat):Int))] else CK h id l sc k
def OZ(h:Nat)(txs:List TxS)(sc:Hs):Nat->List LV
 | 0=>[]
 | i+1=>OZ h txs sc i++CK h (XR txs[i]!) txs[i]!.outs sc txs[i]!.outs.length
def US(l:List BlkS)(sc:Hs):Nat->List LV
 | 0=>[]
 | h+1=>US l sc h++OZ h l[h]!.txs sc l[h]!.txs.length
def BE(m:List (Plc×Unit))(u:List LV):Nat->List LV
 | 0=>[]
 | i+1=>if H3 m u[i]!.1=true then BE m u i else BE m u i++[u[i]!]
def YR(l:List BlkS)(sc:Hs):List LV:=BE (gAll l l.length).spent (US l sc l.length) (US l sc l.length).length
end Go.Sx
namespace Go.Sx
section
variable{l:List BlkS}{h i k j:Nat}{b:BlkS}{sc id:Hs}{o:List OutS}{m:List (Plc×Unit)}{u:List LV}
theorem w49(p:List LV)(hc:(GX o[k]!.script==sc)=true):(p++CK h id o sc k).map KK++[.agg [.agg [w7 id,.u32 (nK k)],.u64 o[k]!.value,.int ((h:Nat):Int)]]=(p++CK h id o sc (k+1)).map KK:=by
 rw[CK,j7 hc,<- w3,d8 (l₁:=p++CK h id o sc k)];rfl
theorem w48(hc:(GX o[k]!.script==sc)=false):CK h id o sc (k+1)=CK h id o sc k:=by rw[CK,z8 (by rw[hc];exact m8)]
theorem z07(h:Nat)(id:Hs)(o:List OutS)(sc:Hs)(k:Nat):(CK h id o sc k).length<=k:=by
 induction k with
 | zero=>exact z5 _
 | succ k ih=>
  rw[CK];split
  ·rw[q9,n7];omega
  ·omega
theorem z08(hb:b.wf)(h:Nat)(sc:Hs)(i:Nat)(hi:i<=b.txs.length):(OZ h b.txs sc i).length<=1000*i:=by
 induction i with
 | zero=>exact z5 _
 | succ i ih=>
  have h1:=ih (by omega);have h2:=z07 h (XR b.txs[i]!) b.txs[i]!.outs sc b.txs[i]!.outs.length;have h3:=(hb.small (show i<b.txs.length by omega)).2;rw[OZ,q9];omega
theorem z09(hl:allBl l)(sc:Hs)(h:Nat)(hh:h<=l.length):(US l sc h).length<=1000000*h:=by
 induction h with
 | zero=>exact z5 _
 | succ h ih=>
  have h1:=ih (by omega);have hb:=hl.get (show h<l.length by omega);have h2:=z08 hb h sc l[h]!.txs.length (z5 _);have h3:=hb.len;rw[US,q9];omega
theorem w50(hc:H3 m u[j]!.1=true):BE m u (j+1)=BE m u j:=by rw[BE,j7 hc]
theorem w51(hc:H3 m u[j]!.1=false):(BE m u j).map KK++[KK u[j]!]=(BE m u (j+1)).map KK:=by
 rw[BE,z8 (by rw[hc];exact m8),d8];rfl
theorem z10(m:List (Plc×Unit))(u:List LV)(j:Nat):(BE m u j).length<=j:=by
 induction j with
 | zero=>exact z5 _
 | succ j ih=>
  rw[BE];split
  ·omega
  ·rw[q9,n7];omega
theorem z06(hl:allBl l)(sc:Hs):(YR l sc).length<=100000000:=by
 have h1:=z10 (gAll l l.length).spent (US l sc l.length) (US l sc l.length).length;have h2:=z09 hl sc l.length (z5 _);have h3:=hl.1;unfold YR;omega
end
end Go.Sx
namespace Go.Sx
section
variable{l:List BlkS}{h i k j:Nat}{b:BkS}{sc:Hs}{t:TxS}{txs:List TxS}
theorem u68(hk:k<(JF b t).length)(h:((JF b t)[k]! == sc)=true):sc∈JF b t:=by
 rw[<- d5.1 h];exact X0 hk
theorem y21(h:∀ j,j<(JF b t).length->(JF b t)[j]!≠sc):sc∉JF b t:=λhc=>by
 obtain⟨j,hj,e⟩:=c9.1 hc;exact h j hj (by rw[b9 _ j hj];exact e)
theorem z88(hn:sc∉JF (gB b txs i) txs[i]!):HB b h txs sc (i+1)=HB b h txs sc i:=by rw[HB,z8 hn]
theorem z87(hy:sc∈JF (gB b txs i) txs[i]!):HB b h txs sc (i+1)=HB b h txs sc i++[(((h:Nat):Int),XR txs[i]!)]:=by rw[HB,j7 hy]
theorem z15(b:BkS)(h:Nat)(txs:List TxS)(sc:Hs)(i:Nat):(HB b h txs sc i).length<=i:=by
 induction i with
 | zero=>exact z5 _
 | succ i ih=>
  rw[HB];split
  ·rw[q9,n7];omega
  ·omega
theorem z16(l:List BlkS)(hl:allBl l)(sc:Hs)(h:Nat)(hh:h<=l.length):(OJ l sc h).length<=1000*h:=by
 induction h with
 | zero=>exact z5 _
 | succ h ih=>
  have h1:=ih (by omega);have h2:=z15 (gAll l h) h l[h]!.txs sc l[h]!.txs.length;have h3:=(hl.get (show h<l.length by omega)).len;rw[OJ,q9];omega
theorem v32{es:List k14}{n:Int}{id:Hs}:es.map NK++[.agg [.int n,w7 id]]=(es++[(n,id)]).map NK:=by
 rw[d8];rfl
theorem z91(e z:Nat)(l:List k14):Frs (.sl (some e) z (l.map NK)):=.sl _ _ _ (J5 λx=>.agg _ (ZK (.int _) (B4 _)))
end
end Go.Sx
namespace Go.Sx
section
open Go.Proofs
set_option maxRecDepth 100000
instance:LdT Tryz.prog 125 1 false:=⟨_,_,rfl,rfl,rfl,rfl⟩
instance:LdT Tryz.prog 141 0 true:=⟨_,_,rfl,rfl,rfl,rfl⟩
instance:ZrT Tryz.prog 141 (.agg []):=⟨_,_,rfl,rfl,by decide,rfl⟩
instance:BsT Tryz.prog 141 ([]):=⟨_,_,_,rfl,rfl,rfl,rfl,by decide⟩
instance:LdT Tryz.prog 143 1 false:=⟨_,_,rfl,rfl,rfl,rfl⟩
instance:LdT Tryz.prog 144 1 false:=⟨_,_,rfl,rfl,rfl,rfl⟩
instance:LdT Tryz.prog 145 1 false:=⟨_,_,rfl,rfl,rfl,rfl⟩
instance:FdT Tryz.prog 147 0 0:=⟨_,_,_,rfl,rfl,rfl,rfl,by decide⟩
instance:FdT Tryz.prog 147 1 1:=⟨_,_,_,rfl,rfl,rfl,rfl,by decide⟩
instance:FdT Tryz.prog 147 2 2:=⟨_,_,_,rfl,rfl,rfl,rfl,by decide⟩
instance:BsT Tryz.prog 147 ([.nilmap,.nilmap,.nilmap]):=⟨_,_,_,rfl,rfl,rfl,rfl,by decide⟩
instance:MkT Tryz.prog 143 109 205:=⟨Tryz.underlying143⟩
instance:MkT Tryz.prog 144 109 141:=⟨Tryz.underlying144⟩
instance:MkT Tryz.prog 145 23 141:=⟨Tryz.underlying145⟩
instance:MkT Tryz.prog 233 109 3:=⟨Tryz.underlying233⟩
end
section
variable{P:Program}{C:Ctx}{σ σ' σ1:Sg}{a:Act}{w w':World}{ρ:Nat->Nat}{Fe Fe' Fb:Nat->List Nat}
variable{gl:List (Nat×D)}{W0:World}{G:Nat->Prop}
def ItrK(P:Program)(gl:List (Nat×D))(f:FuncId)(caps:List D)(bx0:List (Nat×Bx))(xs:List D):Prop:=
 ∀ (w:World) (G:Nat->Prop) (ρ:Nat->Nat) (Fb:Nat->List Nat) (vs:List Value) (l:Nat) (Y:Yt),
  (∀ b,G b->b<w.heap.size) ->
  (∀ g d,(g,d)∈gl->G g/\∃ cs e fz,w.heap[g]? = some (.cells cs e fz)/\Rc w (λx=>x) (λ_=>False) (λ_=>False) false d cs.toList []) ->
  vs.length=caps.length->(∀ k (h:k<caps.length),VR w ρ G (λi=>(lk bx0 i).isSome=true) caps[k] (vs.getD k undef) [])->Hand bx0 w ρ G Fb ->
  Stable Y ->
  (∀ k O w v,(h:k<xs.length)->Y k false O w->(∀ b,O b->b<w.heap.size)->VR w (λx=>x) (λb=>G b∨O b) (λ_=>False) xs[k] v []->HA P l v w (Rnd Y G O k w)) ->
  Y 0 false (λb=>∃ id,b∈Fb id) w ->
  Calls P f (#[.func (.yield l) #[] #[]]++vs.toArray) w (λe w'=>(∃ v,e=.returned v)/\∃ k s O Fb',Y k s O w'/\(s=true∨k=xs.length)/\(∀ id b,b∈Fb' id->O b)/\Hand bx0 w' ρ (λb=>(G b∨O b)/\¬ ∃ id,b∈Fb' id) Fb')
theorem ItrK.of{gl:List (Nat×D)}{f:FuncId}{fn:Func}{c:Code}{caps xs:List D}{bx0:List (Nat×Bx)}{n:Nat}(hf:P.funcs[f]? = some fn)(hb:fn.body=some c)(hnn:fn.ntmps=n)(hres:fn.results=#[])
 (hd:caps.all (λd=>!d.isRef)=true) (hn:caps.length+1<=n)
 (hob:YM (bx0.map Prod.fst) bx0)
 (h:∀ (G:Nat->Prop) (Y:Yt) (l:Nat) (pn:Nat->Option Nat),Stable Y->(∀ k O w v,(h:k<xs.length)->Y k false O w->(∀ b,O b->b<w.heap.size)->VR w (λx=>x) (λb=>G b∨O b) (λ_=>False) xs[k] v []->HA P l v w (Rnd Y G O k w)) ->
  V P none (AM (FF gl G Y (bx0.map Prod.fst) pn)) c (λe i=>(e=.normal∨e=.ret)/\(i.1.2=true∨i.1.1=xs.length)/\E1 (bx0.map Prod.fst) i.2.bx=bx0) ((0,false),⟨n,ini 0 (.yld l::caps),bx0⟩)):ItrK P gl f caps bx0 xs:=by
 subst hnn;intro w G ρ0 Fb0 vs l Y hG hgl hl hv hand hY hyl h0;refine calls_of_wp hf hb ?_
 let C:Ctx:=⟨w,λb=>b<w.heap.size/\¬ ∃ id,b∈Fb0 id,λb=>G b∨(∃ id,b∈Fb0 id)∨w.heap.size<=b,gl,none,λid=>if(lk bx0 id).isSome then some (ρ0 id) else none,[]⟩
 let ds:List D:=.yld l::caps
 have hget:∀ t d,(⟨fn.ntmps,ini 0 ds,bx0⟩:Sg).get t=some d->∃ h:t<ds.length,ds[t]=d:=by
  intro t d hd;simp only[Sg.get,IF,v6,w5,R1] at hd;obtain⟨h,e⟩:=j4.1 hd;exact⟨h,e⟩
 have hown:∀ b,own (λ_=>[]) Fb0 b->∃ id,b∈Fb0 id:=by
  rintro b (⟨_,h⟩|h)
  ·cases h
  ·exact h
 have hFlt:∀ id b,b∈Fb0 id->b<w.heap.size:=λid b hb=>by
  cases hx:lk bx0 id with
  | none=>rw[hand.boxN id hx] at hb;cases hb
  | some x=>exact(hand.box id x hx).lt b hb
 have hG2:∀ b,G b->gd C (λ_=>[]) Fb0 b:=λb hb=>⟨.inl hb,λho=>by obtain⟨id,hid⟩:=hown b ho;exact hand.out id b hid hb⟩
 have st:StW C ⟨fn.ntmps,ini 0 ds,bx0⟩ { tmps:=(#[Value.func (.yield l) #[] #[]]++vs.toArray)++Array.replicate (fn.ntmps-(#[Value.func (.yield l) #[] #[]]++vs.toArray).size) undef,defers:=[] } w ρ0 (λ_=>[]) Fb0:=by
  refine⟨?_,rfl,(λid b hp=>by
   by_cases hs:(lk bx0 id).isSome=true
   ·simp only[C,hs,w5,z9] at hp;exact⟨hp,hs⟩
   ·simp[C,hs] at hp), ?_,λ_ _=>rfl, ?_,hand.boxN,λ_=>u5,hand.nodB,(λ_ _ _ _ h=>by cases h),(λ_ _ _ h=>by cases h),hand.dBB,λb hb hc=>hc.2 (hown b hb), ?_,rfl,⟨rfl,z5 _⟩,rfl,z5 _, ?_,λb hb=>.inr (.inr hb),λb hb=>.inr (.inl (hown b hb))⟩
  ·simp[hl];omega
  ·intro t d hd';obtain⟨ht,rfl⟩:=hget t d hd'
   cases t with
   | zero=>
    refine(m9 rfl).2 ⟨.func (.yield l) #[] #[], ?_, ?_⟩
    ·rw[Y5 (by simp)];simp
    ·show VR w _ _ _ (D.yld l) _ _;simp only[VR,D.isAgg,q7,q8];exact .yld l
   | succ t=>
    have ht':t<caps.length:=by simpa [ds] using ht
    have hr:caps[t].isRef=false:=by
     have:=Z3.1 hd caps[t] (d7 ht');simpa using this
    refine(m9 hr).2 ⟨vs.getD t undef, ?_,(hv t ht').mono (λ_ _ _=>rfl) (λb hb _=>hG2 b hb) (λid hid=>⟨hid,rfl⟩)⟩
    have htv:t<vs.length:=by omega
    rw[Y5 (by simp;omega)];simp[htv,Array.getElem?_append]
  ·intro id x hx;exact(hand.box id x hx).mono (λ_ _ _=>rfl) (λb hb _=>hG2 b hb) (λid hid=>⟨hid,rfl⟩)
  ·intro b hb;exact⟨rfl,hb.1⟩
  ·intro g d hg;obtain⟨h1,cs,e,fz,h2,h3⟩:=hgl g d hg;exact⟨⟨(j8.1 h2).1,λ⟨id,hid⟩=>hand.out id g hid h1⟩,.inl h1,cs,e,fz,h2,h3⟩
 have hAI:AM (FF gl G Y (bx0.map Prod.fst) C.pin) ((0,false),⟨fn.ntmps,ini 0 ds,bx0⟩) { tmps:=(#[Value.func (.yield l) #[] #[]]++vs.toArray)++Array.replicate (fn.ntmps-(#[Value.func (.yield l) #[] #[]]++vs.toArray).size) undef,defers:=[] } w:=
  ⟨C,⟨rfl,rfl,rfl,⟨rfl,λid b hp=>by
   by_cases hs:(lk bx0 id).isSome=true
   ·simp only[L6,c6];exact⟨id,R8.1 hs,by simp⟩
   ·simp[C,hs] at hp⟩,λb=>∃ id,b∈Fb0 id,λ_=>Iff.rfl,λ_=>Iff.rfl,λb hb=>⟨hG b hb,λ⟨id,hid⟩=>hand.out id b hid hb⟩,λb ⟨id,hid⟩=>hFlt id b hid,h0⟩,_,_,_,st⟩
 refine QY ?_ (wpIn_wide.1 (h G Y l C.pin hY hyl _ w hAI));rintro e a' w' ⟨⟨⟨k,s⟩,σ'⟩,⟨C',⟨h1,h2,h3,⟨h4,_⟩,O,hkeep,hok,hG',hO,hYk⟩,ρ,Fe,Fb,st'⟩,he,hend,hkb⟩;have hrun:=KP (P:=P) (tmps:=a'.tmps) (rs:=[]) (fn:=fn) (by rw[hres]) (λ_=>undef) w' (λk hk=>absurd hk (g9 _))
 let O':Nat->Prop:=λb=>(O b∨C'.w0.heap.size<=b)/\b<w'.heap.size
 have hY1:Y k s O' w':=hY _ _ _ _ _ _ hYk {
  same:=λb hb hn=>(st'.kept b ((hkeep b).2 ⟨hb,hn⟩)).1
  size:=st'.grown
  sub:=λb hb=>hb.1
  lt:=λb hb=>hb.2
  os:=st'.os
  tape:=⟨st'.tape.tp,st'.tape.dr⟩
  output:=st'.output }
 have hdf:a'.defers=[]:=by rw[st'.defs,h3]
 have hlt':=st'.lt
 have hownO:∀ b,own Fe Fb b->O' b:=λb hb=>by
  refine⟨?_,hlt' b hb⟩;by_cases h0:C'.w0.heap.size<=b
  ·exact .inr h0
  ·left;by_cases hOb:O b
   ·exact hOb
   ·exact absurd ((hkeep b).2 ⟨by omega,hOb⟩) (st'.new b hb)
 let Fb':Nat->List Nat:=λid=>if(lk bx0 id).isSome then Fb id else[]
 have hFs:∀ id b,b∈Fb' id->(lk bx0 id).isSome=true/\b∈Fb id:=λid b hb=>by
  by_cases hs:(lk bx0 id).isSome=true
  ·exact⟨hs,by simpa [Fb',hs] using hb⟩
  ·simp[Fb',hs] at hb
 have hbx:∀ id x,lk bx0 id=some x->σ'.box id=some x:=λid x hx=>by
  have e:=QH (bx0.map Prod.fst) σ'.bx id;rw[hkb,hx] at e;split at e
  ·exact e.symm
  ·cases e
 have hρ:∀ id,(lk bx0 id).isSome=true->ρ id=ρ0 id:=λid hs=>(st'.pin id (ρ0 id) (by rw[h4];simp[C,hs])).1
 have hmem:∀ i,J2 (bx0.map Prod.fst) i=true->(lk bx0 i).isSome=true:=λi hi=>by
  rw[R8];simp only[J2,c6] at hi;obtain⟨j,hj,he⟩:=hi;rw[Z5 he];exact hj
 have hhand:Hand bx0 w' ρ0 (λb=>(G b∨O' b)/\¬ ∃ id,b∈Fb' id) Fb':=by
  refine⟨λid x hx=>?_,λid hx=>by simp[Fb',hx],λid=>?_,λid id' hne b hb hb'=>st'.dBB id id' hne b (hFs id b hb).2 (hFs id' b hb').2,λid b hb hc=>hc.2 ⟨id,hb⟩⟩
  ·have h1:=(st'.bx id x (hbx id x hx)).okB (UX hob hx)
   have hs:(lk bx0 id).isSome=true:=by rw[hx];rfl
   have h2:=h1.mono (w':=w') (G':=λb=>(G b∨O' b)/\¬ ∃ id,b∈Fb' id) (L':=λi=>(lk bx0 i).isSome=true) (ρ':=ρ0) (λ_ _ _=>rfl) (λb hb hl=>⟨?_,λ⟨i,hi⟩=>hb.2 (.inr ⟨i,(hFs i b hi).2⟩)⟩) (λi hi=>⟨hmem i hi.1,(hρ i (hmem i hi.1)).symm⟩)
   ·rw[hρ id hs] at h2;show BR w' ρ0 _ _ (ρ0 id) x (if(lk bx0 id).isSome then Fb id else[]);rw[j7 hs];exact h2
   ·rcases(hok b).1 hb.1 with h|h|h
    ·exact .inl h
    ·exact .inr ⟨.inl h,hl⟩
    ·exact .inr ⟨.inr h,hl⟩
  ·show(if(lk bx0 id).isSome then Fb id else[]).Nodup;split
   ·exact st'.nodB id
   ·exact u5
 have hfin:∃ k s O Fb',Y k s O w'/\(s=true∨k=xs.length)/\(∀ id b,b∈Fb' id->O b)/\Hand bx0 w' ρ0 (λb=>(G b∨O b)/\¬ ∃ id,b∈Fb' id) Fb':=
  ⟨k,s,O',Fb',hY1,hend,λid b hb=>hownO b (.inr ⟨id,(hFs id b hb).2⟩),hhand⟩
 rcases he with rfl|rfl
 ·exact⟨hdf,_,hrun,⟨_,rfl⟩,hfin⟩
 ·exact⟨hdf,_,hrun,⟨_,rfl⟩,hfin⟩
theorem RS{m:Nat->Nat}{l:List (Nat×Bx)}(hinj:∀ i∈l.map Prod.fst,∀ j∈l.map Prod.fst,m i=m j->i=j){k:Nat}{x:Bx}(h:lk (X9 m l) k=some x):∃ i y,lk l i=some y/\m i=k/\x=y.ren m:=by
 have hk:k∈(X9 m l).map Prod.fst:=R8.1 (by rw[h];rfl);rw[JO,Q5] at hk;obtain⟨i,hi,rfl⟩:=hk;rw[IE (λj hj he=>hinj j hj i hi he)] at h
 cases hy:lk l i with
 | none=>rw[hy] at h;cases h
 | some y=>rw[hy] at h;cases h;exact⟨i,y,hy,rfl,rfl⟩
theorem XL{m:Nat->Nat}{l:List (Nat×Bx)}{i:Nat}(h:(lk l i).isSome=true):(lk (X9 m l) (m i)).isSome=true:=by
 rw[R8,JO,Q5];exact⟨i,R8.1 h,rfl⟩
theorem Last.finishK{n:Nat}{env0 envZ:List (Nat×D)}{ids:List Nat}{G1:Nat->Prop}{sz l dd:Nat}{bx bx0:List (Nat×Bx)}{O:Nat->Prop}{m:Nat->Nat}{Fbk:Nat->List Nat}(h:Last C n a env0 ids ρ G1 sz l dd bx Fb O w)(hsz:a.tmps.size=n)(hpe:JM envZ=true)
 (hk:∀ b,b<W0.heap.size->C.keep b) (hG1:∀ b,G1 b->G b∨W0.heap.size<=b) (hx:Ext W0 C.w0) (hdd:W0.heap.size<=dd)
 (hgl:Glw gl W0 G) (o:Obj) {dds:List Nat} (hnd:dds.Nodup) (hdds:∀ d∈dds,W0.heap.size<=d/\C.keep d/\C.w0.heap[d]? = some (.deferred (some []))) (hGd:∀ b,G1 b->b∉dds)
 (hFO:∀ id b,b∈Fbk id->O b) (hOl:∀ b,O b->b<w.heap.size) (hH:Hand bx0 w (λi=>ρ (m i)) (λb=>(G1 b∨O b)/\¬ ∃ id,b∈Fbk id) Fbk) (hij:∀ i∈bx0.map Prod.fst,∀ j∈bx0.map Prod.fst,m i=m j->i=j) (hout:∀ i∈bx0.map Prod.fst,J2 ids (m i)=false)
 (hZ:∀ t d,lk envZ t=some d->∃ v,a.tmps[t]? = some v/\VR w ρ G1 (λid=>(lk (X9 m bx0++bx) id).isSome=true) d v []) :
 AM (AY gl W0 G) (true,⟨n,envZ,X9 m bx0++bx⟩) { a with defers:=(dd::dds).map KT } (w.putObj l o):=by
 have h4o:∀ b,b≠l->(w.putObj l o).heap[b]? = w.heap[b]?:=λb hb=>World.putObj_heap_other hb
 have hW0:∀ b,b<W0.heap.size->(w.putObj l o).heap[b]? = W0.heap[b]?:=λb hb=>by
  obtain⟨q1,q2,q3,q4⟩:=h.keep b (hk b hb);rw[h4o b q3,q1,hx.block b hb]
 have hd4:(w.putObj l o).heap[dd]? = some (.deferred (some [])):=by rw[h4o dd (λhc=>h.ld hc.symm)];exact h.def_
 have hddw:dd<(w.putObj l o).heap.size:=by rw[World.putObj_size];exact h.d_lt
 have hWs:W0.heap.size<=(w.putObj l o).heap.size:=v5 hdd (Nat.le_of_lt hddw)
 have hall:∀ d∈dd::dds,W0.heap.size<=d/\d<(w.putObj l o).heap.size/\(w.putObj l o).heap[d]? = some (.deferred (some [])):=λd hd=>by
  rcases w8.1 hd with rfl|hd
  ·exact⟨hdd,hddw,hd4⟩
  ·obtain⟨q1,q2,q3⟩:=hdds d hd;obtain⟨k1,k2,k3,k4⟩:=h.keep d q2;have:=h.size;exact⟨q1,by rw[World.putObj_size];omega,by rw[h4o d k3,k1,q3]⟩
 have hndd:(dd::dds).Nodup:=g0.2 ⟨λhc=>(h.keep dd (hdds dd hc).2.1).2.2.2 rfl,hnd⟩
 have hod:∀ b,¬ C.keep b->b≠dd->b∉dd::dds:=λb hb hn hc=>by
  rcases w8.1 hc with rfl|hc
  ·exact hn rfl
  ·exact hb (hdds b hc).2.1
 let C':Ctx:=⟨w.putObj l o,λb=>b<W0.heap.size∨b∈dd::dds,λb=>(G b∨W0.heap.size<=b)/\b∉dd::dds,gl,none,λ_=>none,(dd::dds).map KT⟩
 let inv:Nat->Option Nat:=λk=>if h:∃ i,i∈bx0.map Prod.fst/\m i=k then some (Classical.choose h) else none
 have hinv:∀ i,i∈bx0.map Prod.fst->inv (m i)=some i:=λi hi=>by
  have h:∃ j,j∈bx0.map Prod.fst/\m j=m i:=⟨i,hi,rfl⟩
  simp only[inv,dif_pos h];obtain⟨q1,q2⟩:=L4 h;rw[hij _ q1 i hi q2]
 have hinvS:∀ k i,inv k=some i->i∈bx0.map Prod.fst/\m i=k:=λk i hi=>by
  by_cases h:∃ j,j∈bx0.map Prod.fst/\m j=k
  ·simp only[inv,dif_pos h,z9] at hi;rw[<- hi];exact L4 h
  ·simp only[inv,dif_neg h] at hi;cases hi
 let Fb2:Nat->List Nat:=λk=>match inv k with|some i=>Fbk i|none=>Fb k
 have hF2:∀ k b,b∈Fb2 k->(∃ i,inv k=some i/\b∈Fbk i)∨(inv k=none/\b∈Fb k):=λk b hb=>by
  cases hi:inv k with
  | some i=>exact .inl ⟨i,rfl,by simpa [Fb2,hi] using hb⟩
  | none=>exact .inr ⟨rfl,by simpa [Fb2,hi] using hb⟩
 have hbk:∀ id b,b∈Fb id->inv id=none:=λid b hb=>by
  cases hi:inv id with
  | none=>rfl
  | some i=>
   obtain⟨q1,q2⟩:=hinvS id i hi;have h1:=hout i q1;rw[q2] at h1;have h2:=h.keys id;have h3:L6 ids id=false:=h1;rw[h3,Option.isSome_eq_false_iff,B5] at h2;rw[h.boxN id h2] at hb;cases hb
 have hown:∀ b,Go.Sx.own (λ_=>[]) Fb2 b->(¬ C.keep b/\¬ G1 b/\b≠l/\b≠dd/\b<w.heap.size):=by
  rintro b (⟨_,h⟩|⟨k,hb⟩)
  ·cases h
  ·rcases hF2 k b hb with ⟨i,_,hi⟩|⟨_,hi⟩
   ·have hO:=hFO i b hi;obtain⟨⟨q1,q2⟩,q3,q4⟩:=h.O_ge b hO;exact⟨q1,q2,q3,q4,hOl b hO⟩
   ·obtain⟨q1,_,q3,q4,q5,q6⟩:=h.own k b hi;exact⟨q1,q3,q4,q5,q6⟩
 have hgdG:∀ b,G1 b->gd C' (λ_=>[]) Fb2 b:=λb hb=>⟨⟨hG1 b hb,λhc=>(w8.1 hc).elim (h.G1_lt b hb).2.2 (hGd b hb)⟩,λhc=>(hown b hc).2.1 hb⟩
 have hgdO:∀ b,O b->(¬ ∃ id,b∈Fbk id)->gd C' (λ_=>[]) Fb2 b:=λb hb hn=>by
  obtain⟨⟨q1,q2⟩,q3,q4⟩:=h.O_ge b hb;refine⟨⟨.inr (C6 (λhc=>q1 (hk b hc))),hod b q1 q4⟩, ?_⟩;rintro (⟨_,hc⟩|⟨k,hc⟩)
  ·cases hc
  ·rcases hF2 k b hc with ⟨i,_,hi⟩|⟨_,hi⟩
   ·exact hn ⟨i,hi⟩
   ·exact(h.own k b hi).2.1 hb
 refine⟨C',⟨rfl,rfl,λ_=>rfl,λb hb=>.inl hb,⟨h.os.trans hx.os,⟨h.tape.tp.trans hx.tape.tp,v5 hx.tape.dr h.tape.dr⟩,h.output.trans hx.output,hWs,hW0⟩,λb hb=>hb.1,⟨dd::dds,rfl,hndd,λd hd=>⟨(hall d hd).1,.inr hd,(hall d hd).2.2,λhc=>hc.2 hd⟩⟩⟩,ρ,λ_=>[],Fb2, ?_⟩;refine StW.mk (by simpa using hsz) rfl (λ_ _ hp=>by cases hp) (λt x hx'=>?_) (λ_ _=>rfl) (λid x hx'=>?_) (λid hid=>?_) (λ_=>u5) (λid=>?_) (λ_ _ _ _ h=>by cases h) (λ_ _ _ h=>by cases h) (λid id' hne b hb hb'=>?_)
  (λb hb hc=>?_) (λb hb=>⟨rfl, ?_⟩) rfl ⟨rfl,z5 _⟩ rfl (z5 _) (λg d hg=>?_) (λb hb=>⟨.inr (v5 hWs hb),λhc=>by have:=(hall b hc).2.1;omega⟩) (λb hb=>?_)
 ·obtain⟨hp1,hp2⟩:=JP hpe (show lk envZ t=some x from hx');obtain⟨v0,k1,k2⟩:=hZ t x hx';exact(m9 hp2).2 ⟨v0,k1,k2.mono (λb hb hl=>h4o b (h.G1_lt b (hb.resolve_right (by simp))).2.1) (λb hb hl=>hgdG b hb) (λid hid=>⟨hid,rfl⟩)⟩
 ·have hx2:lk (X9 m bx0++bx) id=some x:=hx';rw[KN] at hx2
  cases hr:lk (X9 m bx0) id with
  | some y=>
   rw[hr] at hx2;cases hx2;obtain⟨i,y0,hy0,rfl,rfl⟩:=RS hij hr;have h1:=hH.box i y0 hy0
   have hs:(lk bx0 i).isSome=true:=by rw[hy0];rfl
   have h2:=h1.mono (w':=w.putObj l o) (G':=gd C' (λ_=>[]) Fb2) (L':=λi=>(lk bx0 i).isSome=true) (ρ':=λi=>ρ (m i)) (λb hb hl=>h4o b (hb.elim (λhg=>hg.1.elim (λhg=>(h.G1_lt b hg).2.1) (λho=>(h.O_ge b ho).2.1)) (λhf=>(h.O_ge b (hFO i b hf)).2.1)))
    (λb hb hl=>hb.1.elim (λhg=>hgdG b hg) (λho=>hgdO b ho hb.2)) (λi hi=>⟨hi,rfl⟩)
   have h3:=h2.ren (ρ2:=ρ) (L':=λid=>((⟨n,envZ,X9 m bx0++bx⟩:Sg).box id).isSome=true) (m:=m) (λi hi=>⟨by
    show(lk (X9 m bx0++bx) (m i)).isSome=true;rw[KN];have h7:=XL (m:=m) hi
    cases hq:lk (X9 m bx0) (m i) with
    | some q=>rfl
    | none=>exact absurd h7 (by rw[hq];simp),rfl⟩)
   have e:Fb2 (m i)=Fbk i:=by simp only[Fb2,hinv i (R8.1 hs)]
   rw[e];exact h3
  | none=>
   rw[hr] at hx2;obtain⟨d0,rfl,hf,hn0⟩:=UU h.frs (show lk bx id=some x from hx2);obtain⟨cs,e,F',k1,k2,k3⟩:=h.box id d0 hx2;have hnl:∀ b∈Fb id,b≠l:=λb hb=>(h.own id b hb).2.2.2.1
   have e2:Fb2 id=Fb id:=by
    have:=hbk id (ρ id) (by rw[k3];simp);simp only[Fb2,this]
   rw[e2];refine⟨cs,e,F', ?_,k2.frsAll hf hn0 (λb hb _=>h4o b (hnl b (by rw[k3];exact j5 _ hb))),k3⟩;rw[h4o _ (hnl _ (by rw[k3];simp))];exact k1
 ·have hid2:lk (X9 m bx0++bx) id=none:=hid;rw[KN] at hid2
  cases hi:inv id with
  | some i=>
   obtain⟨q1,q2⟩:=hinvS id i hi;have:=XL (m:=m) (R8.2 q1);rw[q2] at this
   cases hq:lk (X9 m bx0) id with
   | some q=>rw[hq] at hid2;cases hid2
   | none=>rw[hq] at this;cases this
  | none=>
   cases hq:lk (X9 m bx0) id with
   | some q=>rw[hq] at hid2;cases hid2
   | none=>
    rw[hq] at hid2;show Fb2 id=[];simp only[Fb2,hi];exact h.boxN id hid2
 ·cases hi:inv id with
  | some i=>simp only[Fb2,hi];exact hH.nodB i
  | none=>simp only[Fb2,hi];exact h.nodB id
 ·rcases hF2 id b hb with ⟨i,hi,hbi⟩|⟨hi,hbi⟩<;>rcases hF2 id' b hb' with ⟨j,hj,hbj⟩|⟨hj,hbj⟩
  ·refine hH.dBB i j (λe=>hne ?_) b hbi hbj;rw[<- (hinvS id i hi).2,<- (hinvS id' j hj).2,e]
  ·exact(h.own id' b hbj).2.1 (hFO i b hbi)
  ·exact(h.own id b hbi).2.1 (hFO j b hbj)
  ·exact h.dBB id id' hne b hbi hbj
 ·obtain⟨q1,_,_,q5,_⟩:=hown b hb
  rcases hc with hc|hc
  ·exact q1 (hk b hc)
  ·exact hod b q1 q5 hc
 ·rcases hb with hb|hb
  ·show b<(w.putObj l o).heap.size;omega
  ·exact(hall b hb).2.1
 ·obtain⟨q1,q2,cs,e,fz,q3,q4⟩:=hgl g d hg;refine⟨.inl q1,⟨.inl q2,λhc=>by have:=(hall g hc).1;omega⟩,cs,e,fz,(hW0 g q1).trans q3,q4.mono (λb hb _=>?_) (λ_ h=>h.elim) (λ_ h=>h.elim)⟩
  rcases hb with hb|hb
  ·exact hb.elim
  ·cases hb
 ·obtain⟨q1,_,_,q5,_⟩:=hown b hb;exact⟨.inr (C6 (λhc=>q1 (hk b hc))),hod b q1 q5⟩
theorem u28{g p n:Nat}{asg body:Code}{envA env0:List (Nat×D)}{ids:List Nat}{f:FuncId}[hf:CaT P f]{capsA caps xs:List D}{q46 bx0:List (Nat×Bx)}{m:Nat->Nat}{bxs:Nat->List (Nat×Bx)}{Stop:Exit->List (Nat×Bx)->Prop}(J:Nat->Prop)
 {Q:Exit->Bool×Sg->Prop} {m0:Bool} (hgl:Glw gl W0 G) (hI:ItrK P gl f caps bx0 xs) (hg:lk envA g=some (.fn f capsA)) (hca:KD m caps=capsA) (hcp:YY (bx0.map Prod.fst) caps=true) (hhas:MU q46 (X9 m bx0)) (hob:YM (bx0.map Prod.fst) bx0) (hinj:w25 m (bx0.map Prod.fst)=true)
 (hout:∀ i∈bx0.map Prod.fst,J2 ids (m i)=false) (hsub:∀ t d,lk env0 t=some d->lk envA t=some d) (hoe:QW ids env0=true) {envZ:List (Nat×D)} (hsubZ:∀ t d,lk envZ t=some d->lk envA t=some d) (hoZ:QW (ids++(bx0.map Prod.fst).map m) envZ=true) (hpZ:JM envZ=true) (hkp:E1 ids q46=bxs 0) (hp:p<n) (hpe:JM env0=true)
 (hkeys:∀ id,(lk (bxs 0) id).isSome=L6 ids id) (hf0:HT (bxs 0)) (hxs:∀ k (h:k<xs.length),xs[k].pur=true/\xs[k].np=true)
 (hJ:J 0)
 (hround:∀ k (h:k<xs.length),J k->∀ C':Ctx,C'.gl=gl->(∀ id b,C'.pin id=some b->L6 ids id=true)->W P C' asg (λe σ'=>e=.normal/\∀ C':Ctx,C'.gl=gl->(∀ id b,C'.pin id=some b->L6 ids id=true) ->
  W P C' body (λe σ'=>(e=.normal/\(E1 ids σ'.bx=bxs (k+1)/\J (k+1))∨(e=.ret∨∃ id,e=.exit id)/\Stop e (E1 ids σ'.bx))/\HT (E1 ids σ'.bx)) σ') ((⟨n,env0,bxs k⟩:Sg).set p xs[k]))
 (hN:J xs.length->Q .normal (true,⟨n,envZ,X9 m bx0++bxs xs.length⟩)) (hS:∀ e bx,(e=.ret∨∃ id,e=.exit id)->Stop e bx->Q e (true,⟨n,envZ,X9 m bx0++bx⟩)) :
 V P none (AM (AY gl W0 G)) (.rangeFunc (.tmp g) #[p] asg body) Q (m0,⟨n,envA,q46⟩):=by
 intro a w ⟨C,⟨h1,h2,h3,h4,h5,h6,h7⟩,ρ,Fe,Fb,st⟩;have hlt:=st.lt
 have hpure:∀ t d,lk env0 t=some d->∃ v,a.tmps[t]? = some v/\VR w ρ (gd C Fe Fb) (λid=>L6 ids id=true) d v []:=by
  intro t d hd;obtain⟨hp1,hp2⟩:=JP hpe hd;obtain⟨v,hv,hr⟩:=(m9 hp2).1 (st.env t d (hsub t d hd));have:=hr.pur hp1;rw[this] at hr;exact⟨v,hv,(hr.okB (QV hoe hd)).mono (λ_ _ _=>rfl) (λ_ h _=>h) (λid hid=>⟨hid.1,rfl⟩)⟩
 have hpureZ:∀ t d,lk envZ t=some d->∃ v,a.tmps[t]? = some v/\VR w ρ (gd C Fe Fb) (λid=>J2 (ids++(bx0.map Prod.fst).map m) id=true) d v []:=by
  intro t d hd;obtain⟨hp1,hp2⟩:=JP hpZ hd;obtain⟨v,hv,hr⟩:=(m9 hp2).1 (st.env t d (hsubZ t d hd));have:=hr.pur hp1;rw[this] at hr;exact⟨v,hv,(hr.okB (QV hoZ hd)).mono (λ_ _ _=>rfl) (λ_ h _=>h) (λid hid=>⟨hid.1,rfl⟩)⟩
 obtain⟨vg,hvg,hrg⟩:=(m9 rfl).1 (st.env g _ hg);simp only[VR,D.isAgg,q7,q8] at hrg
 have hbL:∀ u,lk (bxs 0) u=if J2 ids u then lk q46 u else none:=λu=>by rw[<- hkp];exact QH ids q46 u
 let FbK:Nat->List Nat:=λid=>if J2 ids id then Fb id else[]
 let Fbc:Nat->List Nat:=λi=>if(lk bx0 i).isSome then Fb (m i) else[]
 have hKsub:∀ id b,b∈FbK id->J2 ids id=true/\b∈Fb id:=λid b hb=>by
  by_cases hi:J2 ids id=true
  ·exact⟨hi,by simpa [FbK,hi] using hb⟩
  ·simp[FbK,hi] at hb
 have hFc:∀ i b,b∈Fbc i->i∈bx0.map Prod.fst/\b∈Fb (m i):=λi b hb=>by
  by_cases h:(lk bx0 i).isSome=true
  ·exact⟨R8.1 h,by simpa [Fbc,h] using hb⟩
  ·simp[Fbc,h] at hb
 have hij:=z01 hinj
 have hmem:∀ i,J2 (bx0.map Prod.fst) i=true->(lk bx0 i).isSome=true:=λi hi=>by
  rw[R8];simp only[J2,c6] at hi;obtain⟨j,hj,he⟩:=hi;rw[Z5 he];exact hj
 have hb1:∀ i x,lk bx0 i=some x->(⟨n,envA,q46⟩:Sg).box (m i)=some (x.ren m):=λi x hx=>GA hhas _ _ (SE (NR hx))
 obtain⟨vs,rfl,hvl,hva,hvr⟩:∃ vs:List Value,vg=.func (.func f) #[] vs.toArray/\vs.length=caps.length/\(∀ k (h:k<caps.length),caps[k].isAgg=false)/\∀ k (h:k<caps.length),Rc w (λi=>ρ (m i)) (gd C Fe Fb) (λi=>(lk bx0 i).isSome=true) true caps[k] [vs.getD k undef] []:=by
  rw[XZ] at hca;subst hca;generalize Fe g=Fg at hrg
  cases hrg with
  | fn _ _ vs hl ha hr=>
   refine⟨vs,rfl,by simpa using hl,λk hk=>?_,λk hk=>?_⟩
   ·have:=ha k (by simpa using hk);rw[n9,JA] at this;exact this
   ·have h1:=hr k (by simpa using hk);rw[n9] at h1;have h2:Rc w (λi=>ρ (m i)) (gd C Fe Fb) (λi=>((⟨n,envA,q46⟩:Sg).box (m i)).isSome=true) true caps[k] [vs.getD k undef] []:=h1.unren rfl (λi hi=>⟨hi,rfl⟩);exact(h2.okB (DS caps hcp k hk)).mono (λ_ _ _=>rfl) (λ_ h _=>h) (λi hi=>⟨hmem i hi.1,rfl⟩)
 refine wpIn_rangeFunc λfn _=>?_
 let r0:=u87 fn a.tmps p asg body w.heap.size
 let w2:World:=(w.alloc (.deferred (some []))).alloc (.loop r0)
 have hw2:∀ b,b<w.heap.size->w2.heap[b]? = w.heap[b]?:=λb hb=>by
  show((w.heap.push _).push _)[b]? = _;rw[I0 (by simp;omega),Array.getElem_push_lt hb,R2 hb]
 have hw2d:w2.heap[w.heap.size]? = some (.deferred (some [])):=by
  show((w.heap.push _).push _)[w.heap.size]? = _;rw[I0 (by simp)];simp
 have hw2l:w2.heap[w.heap.size+1]? = some (.loop r0):=by
  show((w.heap.push (.deferred (some []))).push _)[w.heap.size+1]? = _
  have e:w.heap.size+1=(w.heap.push (Obj.deferred (some []))).size:=by simp
  rw[e,Array.getElem?_push_size]
 have hw2s:w2.heap.size=w.heap.size+2:=by
  show((w.heap.push _).push _).size=_;simp
 have hevg:a.eval (.tmp g)=.func (.func f) #[] vs.toArray:=K1 hvg;obtain⟨ff,hff1,hff2,hff3⟩:=hf.i;refine⟨w.heap.size+1,[KT w.heap.size],w2,{ target:=.fn (.func f) vs.toArray,args:=#[.func (.yield (w.heap.size+1)) #[] #[]] },w2,f,#[.func (.yield (w.heap.size+1)) #[] #[]]++vs.toArray,w2, ?_, ?_,(λ_ _=>trivial), ?_,(λh=>by cases h), ?_⟩
 ·exact run_enterLoop_outer fn a.tmps #[p] asg body
 ·simp[resolve,rangeCall,hvg,Deferred.ofValue,Act.eval]
 ·simp[invoke,HU hff1 hff2 hff3]
 let sz:=w.heap.size
 let l:=w.heap.size+1
 let dd:=w.heap.size
 let G1:Nat->Prop:=λb=>gd C Fe Fb b/\b<w.heap.size
 let Y:Yt:=λk s O w'=>((∀ b,G1 b->w'.heap[b]? = w.heap[b]?)/\∀ b,O b->b<w'.heap.size)/\(s=false->(k<=xs.length/\J k)/\w'.heap[l]? = some (.loop r0)/\∃ Fb',Last C n a env0 ids ρ G1 sz l dd (bxs k) Fb' O w') /\
  (s=true->∃ e c bx Fb',(e=.ret∨∃ id,e=.exit id)/\Stop e bx/\jmp e=some c/\w'.heap[l]? = some (.loop { r0 with state:=.done,pending:=some c })/\Last C n a env0 ids ρ G1 sz l dd bx Fb' O w')
 have hkl:∀ b,C.keep b->b<w.heap.size:=λb hb=>u9 (st.kept b hb).2 st.grown
 have hz:∀ b,sz<=b->¬ C.keep b:=λb hb hc=>by have:=hkl b hc;have:sz=w.heap.size:=rfl;omega
 have hY:Stable Y:=by
  intro k s O O' w₁ w₂ ⟨⟨y0,_⟩,y1,y2⟩ ha
  have hrec:∀ bx Fb' o,Last C n a env0 ids ρ G1 sz l dd bx Fb' O w₁->w₁.heap[l]? = some o->w₂.heap[l]? = some o:=λbx Fb' o hL ho=>by
   rw[ha.same l (j8.1 ho).1 (λhc=>(hL.O_ge l hc).2.1 rfl)];exact ho
  refine⟨⟨λb hb=>?_,ha.lt⟩,λhs=>?_,λhs=>?_⟩
  ·obtain⟨bx,Fb',hL⟩:∃ bx Fb',Last C n a env0 ids ρ G1 sz l dd bx Fb' O w₁:=by
    cases s with
    | false=>obtain⟨_,_,Fb',q3⟩:=y1 rfl;exact⟨_,Fb',q3⟩
    | true=>obtain⟨_,_,bx,Fb',_,_,_,_,q5⟩:=y2 rfl;exact⟨bx,Fb',q5⟩
   have h1:=(hL.G1_lt b hb).1;have h2:=hL.size;rw[ha.same b (by omega) (λhc=>(hL.O_ge b hc).1.2 hb)];exact y0 b hb
  ·obtain⟨q1,q2,Fb',q3⟩:=y1 hs;exact⟨q1,hrec _ _ _ q3 q2,Fb',q3.apart hz ha⟩
  ·obtain⟨e,c,bx,Fb',q1,q2,q3,q4,q5⟩:=y2 hs;exact⟨e,c,bx,Fb',q1,q2,q3,hrec _ _ _ q5 q4,q5.apart hz ha⟩
 have hgC:∀ g' d,(g',d)∈C.gl->C.keep g'/\G1 g'/\∃ cs e fz,C.w0.heap[g']? = some (.cells cs e fz)/\Rc C.w0 (λx=>x) (λ_=>False) (λ_=>False) false d cs.toList []:=λg' d hgd=>by
  obtain⟨q1,q2,q3⟩:=st.gl g' d hgd;exact⟨q1,⟨⟨q2,λho=>st.new g' ho q1⟩,hkl g' q1⟩,q3⟩
 have hO0:∀ b,(∃ i,b∈Fbc i)->own Fe Fb b:=λb ⟨i,hi⟩=>.inr ⟨m i,(hFc i b hi).2⟩
 have hL0:Last C n a env0 ids ρ G1 sz l dd (bxs 0) FbK (λb=>∃ i,b∈Fbc i) w2:=by
  refine Last.mk hkeys hf0 (λt d hd=>?_) (λid d hd=>?_) (λid hid=>?_) (λid=>?_) (λid id' hne b hb hb'=>st.dBB id id' hne b (hKsub id b hb).2 (hKsub id' b hb').2) (λid b hb=>?_) (λb hb=>⟨⟨st.new b (hO0 b hb),λhc=>hc.1.2 (hO0 b hb)⟩,by have:=hlt b (hO0 b hb);show b≠w.heap.size+1;omega,by have:=hlt b (hO0 b hb);show b≠w.heap.size;omega⟩) (λb hb=>?_) (λb hb=>?_) st.os ⟨st.tape.tp,st.tape.dr⟩ st.output (by rw[hw2s];show w.heap.size<=_;omega) (by rw[hw2s];show w.heap.size+1<_;omega) (by rw[hw2s];show w.heap.size<_;omega) (by show w.heap.size+1≠w.heap.size;omega) hw2d
  ·obtain⟨v,q1,q2⟩:=hpure t d hd;exact⟨v,q1,q2.mono (λb hb hl=>hw2 b hl) (λb hb hl=>⟨hb,hl⟩) (λ_ h=>⟨h,rfl⟩)⟩
  ·obtain⟨d0,hd0,hfr,hn0⟩:=UU hf0 hd;cases hd0;have hx:=hbL id;rw[hd] at hx
   have hm:J2 ids id=true:=by
    by_cases hm:J2 ids id=true
    ·exact hm
    ·rw[z8 hm] at hx;cases hx
   rw[j7 hm] at hx;obtain⟨cs,e,F',q1,q2,q3⟩:=st.bx id _ hx.symm;have hbl:ρ id<w.heap.size:=(j8.1 q1).1;exact⟨cs,e,F',(hw2 _ hbl).trans q1,q2.frsAll hfr hn0 (λb hb hl=>hw2 b hl),by simp only[FbK,hm,w5];exact q3⟩
  ·have hx:=hbL id;rw[hid] at hx;by_cases hm:J2 ids id=true
   ·rw[j7 hm] at hx;simp only[FbK,hm,w5];exact st.bxN id hx.symm
   ·simp[FbK,hm]
  ·show(if J2 ids id then Fb id else[]).Nodup;split
   ·exact st.nodB id
   ·exact u5
  ·obtain⟨hm,hb⟩:=hKsub id b hb;have hbl:b<w.heap.size:=hlt b (.inr ⟨id,hb⟩)
   exact⟨st.new b (.inr ⟨id,hb⟩),(λ⟨i,hi⟩=>by
    obtain⟨h1,h2⟩:=hFc i b hi;refine st.dBB id (m i) (λe=>?_) b hb h2;have:=hout i h1;rw[<- e,hm] at this
    cases this),(λhc=>hc.1.2 (.inr ⟨id,hb⟩)),by show b≠w.heap.size+1;omega,by show b≠w.heap.size;omega,by rw[hw2s];omega⟩
  ·have hbl:b<w.heap.size:=hb.2;exact⟨hb.2,by show b≠w.heap.size+1;omega,by show b≠w.heap.size;omega⟩
  ·have hbl:=hkl b hb;exact⟨(hw2 b hbl).trans (st.kept b hb).1,hbl,by show b≠w.heap.size+1;omega,by show b≠w.heap.size;omega⟩
 have hcalls:=hI w2 G1 (λi=>ρ (m i)) Fbc vs l Y (λb hb=>by rw[hw2s];have:b<w.heap.size:=hb.2;omega) (λg' d hgd=>by
  obtain⟨q1,cs,e,fz,q2,q3⟩:=LK st g' d (by rw[h1];exact hgd);have hbl:=(j8.1 q2).1
  exact⟨⟨q1,hbl⟩,cs,e,fz,(hw2 g' hbl).trans q2,q3.mono (λb hb _=>by rcases hb with hb|hb;exact hb.elim;cases hb) (λ_ h=>h.elim) (λ_ h=>h.elim)⟩) hvl (λk hk=>by
  have hv:VR w (λi=>ρ (m i)) (gd C Fe Fb) (λi=>(lk bx0 i).isSome=true) caps[k] (vs.getD k undef) []:=by
   simp only[VR,hva k hk,q7,q8];exact hvr k hk
  exact hv.mono (λb hb hl=>hw2 b hl) (λb hb hl=>⟨hb,hl⟩) (λ_ h=>⟨h,rfl⟩))
  ⟨λid x hx=>by
   have h1:=st.bx _ _ (hb1 id x hx);have h2:BR w (λi=>ρ (m i)) (gd C Fe Fb) (λi=>((⟨n,envA,q46⟩:Sg).box (m i)).isSome=true) (ρ (m id)) x (Fb (m id)):=h1.unren (λi hi=>⟨hi,rfl⟩);have h3:=(h2.okB (UX hob hx)).mono (w':=w2) (G':=G1) (L':=λi=>(lk bx0 i).isSome=true) (ρ':=λi=>ρ (m i)) (λb hb hl=>hw2 b hl) (λb hb hl=>⟨hb,hl⟩) (λi hi=>⟨hmem i hi.1,rfl⟩);show BR w2 _ _ _ _ _ (if(lk bx0 id).isSome then Fb (m id) else[]);rw[j7 (by rw[hx];rfl)]
   exact h3,λid hx=>by simp[Fbc,hx],λid=>by
   show(if(lk bx0 id).isSome then Fb (m id) else[]).Nodup;split
   ·exact st.nodB _
   ·exact u5,λid id' hne b hb hb'=>by
   obtain⟨h1,h2⟩:=hFc id b hb;obtain⟨h3,h4⟩:=hFc id' b hb'
   exact st.dBB (m id) (m id') (λe=>hne (hij id h1 id' h3 e)) b h2 h4,λid b hb hc=>hc.1.2 (.inr ⟨m id,(hFc id b hb).2⟩)⟩ hY
  (λk O w₁ v hk hYk hO hv=>by
   obtain⟨⟨_,hJk⟩,hrec,Fb',hL⟩:=hYk.2.1 rfl;have ha:=hround k hk hJk;have hround':=hL.round (r:=r0) hrec rfl rfl rfl rfl rfl st.size hO hp hv (hxs k hk).1 (hxs k hk).2 hpe hgC (E:=λe bx'=>e=.normal/\(bx'=bxs (k+1)/\J (k+1))∨(e=.ret∨∃ id,e=.exit id)/\Stop e bx')
    (λC' hC' hD'=>(ha C' (hC'.trans h1) hD').mono (λe s h=>⟨h.1,λC'' hC'' hD''=>h.2 C'' (hC''.trans h1) hD''⟩)) (λe bx' he=>he.elim (λh=>.inl h.1) (λh=>.inr h.1))
   obtain⟨f',tm,as',bd,hrun,hR⟩:=hround';refine⟨f',tm,as',bd,hrun,hR.mono ?_⟩;rintro e' w₂ ⟨s,he',e,bx',Fb'',hE,hs,hrec',hL',hsame,hsz⟩
   have hG:∀ b,G1 b->w₂.heap[b]? = w.heap[b]?:=λb hb=>by
    have h1:=(hL.G1_lt b hb).1;have h2:=hL.size;rw[hsame b (by omega) (λ⟨id,hid⟩=>(hL.own id b hid).2.2.1 hb) (hL.G1_lt b hb).2.1];exact hYk.1.1 b hb
   have hOz:∀ b,O b->b<w₂.heap.size:=λb hb=>u9 (hO b hb) hsz;refine⟨s,he',⟨⟨hG,hOz⟩, ?_⟩,λb hb hl=>?_,hsz⟩
   ·rcases hE with ⟨rfl,rfl,hJ1⟩|⟨hee,hst⟩
    ·have:s=false:=hs;subst this;exact⟨λ_=>⟨⟨hk,hJ1⟩,hrec',Fb'',hL'⟩,λh=>by cases h⟩
    ·obtain⟨c,hc⟩:∃ c,jmp e=some c:=by rcases hee with rfl|⟨id,rfl⟩<;>exact⟨_,rfl⟩
     rw[hc] at hs hrec';have:s=true:=hs;subst this;exact⟨λh=>(by cases h),λ_=>⟨e,c,bx',Fb'',hee,hst,hc,hrec',hL'⟩⟩
   ·refine hsame b hl (λ⟨id,hid⟩=>?_) (λhbl=>?_)
    ·obtain⟨q1,q2,q3,q4,q5,q6⟩:=hL.own id b hid;exact hb.elim q3 q2
    ·rcases hb with hb|hb
     ·exact(hL.G1_lt b hb).2.1 hbl
     ·exact(hL.O_ge b hb).2.1 hbl)
  ⟨⟨λb hb=>hw2 b hb.2,λb hb=>by have:=hlt b (hO0 b hb);rw[hw2s];omega⟩,λ_=>⟨⟨v6 _,hJ⟩,hw2l,FbK,hL0⟩,λh=>by cases h⟩
 refine callsIn_wide.2 (Calls.mono hcalls ?_);rintro e w₃ ⟨⟨v,rfl⟩,k,s,O,Fbk,hYk,hend,hFO,hHand⟩;obtain⟨dds,hd1,hd2,hd3⟩:=h7.l
 have hdfs:a.defers=dds.map KT:=by rw[st.defs,hd1]
 have hfin:∀ bx Fb' (o:Obj),Last C n a env0 ids ρ G1 sz l dd bx Fb' O w₃->AM (AY gl W0 G) (true,⟨n,envZ,X9 m bx0++bx⟩) { a with defers:=[KT w.heap.size]++a.defers } (w₃.putObj l o):=λbx Fb' o hL=>by
  rw[hdfs];refine hL.finishK st.size hpZ h4 (λb hb=>h6 b hb.1.1) h5 (v5 h5.size st.grown) hgl o hd2 (λd hd=>⟨(hd3 d hd).1,(hd3 d hd).2.1,(hd3 d hd).2.2.1⟩) (λb hb hc=>(hd3 b hc).2.2.2 hb.1.1) hFO hYk.1.2 hHand hij hout (λt d hd=>?_);obtain⟨v0,k1,k2⟩:=hpureZ t d hd;refine⟨v0,k1,k2.mono (λb hb hl=>hYk.1.1 b ⟨hb.resolve_right (by simp),hl⟩) (λb hb hl=>⟨hb,hl⟩) (λid hid=>⟨?_,rfl⟩)⟩;simp only[J2,T0,K5] at hid;rw[KN]
  cases hq:lk (X9 m bx0) id with
  | some q=>rfl
  | none=>
   rcases hid with hid|hid
   ·show(lk bx id).isSome=true;rw[hL.keys];exact hid
   ·simp only[c6] at hid;obtain⟨j,hj,he⟩:=hid;rw[Z5 he] at hq;obtain⟨i,hi,rfl⟩:=Q5.1 hj;have:=XL (m:=m) (R8.2 hi);rw[hq] at this;cases this
 cases s with
 | false=>
  have hke:k=xs.length:=hend.resolve_left (by simp);subst hke;obtain⟨⟨_,hJk⟩,hrec,Fb',hL⟩:=hYk.2.1 rfl;refine⟨_,_,run_endLoop hrec (by simp[r0,u87]), ?_⟩;exact⟨_,hfin _ Fb' _ hL,hN hJk⟩
 | true=>
  obtain⟨e,c,bx,Fb',hee,hst,hc,hrec,hL⟩:=hYk.2.2 rfl;refine⟨_,_,run_endLoop hrec (by simp), ?_⟩
  rcases hee with rfl|⟨id,rfl⟩
  ·cases hc;exact wpIn_ret ⟨_,hfin _ Fb' _ hL,hS _ _ (.inl rfl) hst⟩
  ·cases hc;exact wpIn_exit ⟨_,hfin _ Fb' _ hL,hS _ _ (.inr ⟨_,rfl⟩) hst⟩
theorem j73{gl:List (Nat×D)}{W0:World}{G:Nat->Prop}{g p n:Nat}{asg body:Code}{envA env0:List (Nat×D)}{q46 bx0:List (Nat×Bx)}{f:FuncId}[hf:CaT P f]{capsA caps:List D}(ml:List (Nat×Nat))(live liveZ:List Nat){envZ:List (Nat×D)}
 (ids:List Nat) (N:Nat) (xd:Nat->D) (bxs:Nat->List (Nat×Bx)) (Stop:Exit->List (Nat×Bx)->Prop) (J:Nat->Prop)
 {Q:Exit->Bool×Sg->Prop} {m0:Bool} (hgl:Glw gl W0 G) (hI:ItrK P gl f caps bx0 ((List.range N).map xd)) (hg:lk envA g=some (.fn f capsA)) (hca:KD (mlk ml) caps=capsA) (hcp:YY (bx0.map Prod.fst) caps=true) (hhas:MU q46 (X9 (mlk ml) bx0)) (hob:YM (bx0.map Prod.fst) bx0) (hinj:w25 (mlk ml) (bx0.map Prod.fst)=true)
 (hout:(bx0.map Prod.fst).all (λi=>!J2 ids (mlk ml i))=true) (hsub:picks (lk envA) live=env0) (hoe:QW ids env0=true) (hsubZ:picks (lk envA) liveZ=envZ) (hoZ:QW (ids++(bx0.map Prod.fst).map (mlk ml)) envZ=true) (hpZ:JM envZ=true) (hkp:E1 ids q46=bxs 0) (hp:Nat.blt p n=true) (hpe:JM env0=true)
 (hkeys:(bxs 0).map Prod.fst=ids) (hf0:HT (bxs 0)) (hxs:∀ k,(xd k).pur=true/\(xd k).np=true) (hJ:J 0)
 (hround:∀ k,k<N->J k->∀ C':Ctx,C'.gl=gl->(∀ id b,C'.pin id=some b->L6 ids id=true)->W P C' asg (λe σ'=>e=.normal/\∀ C':Ctx,C'.gl=gl->(∀ id b,C'.pin id=some b->L6 ids id=true) ->
  W P C' body (λe σ'=>(e=.normal/\(E1 ids σ'.bx=bxs (k+1)/\J (k+1))∨(e=.ret∨∃ id,e=.exit id)/\Stop e (E1 ids σ'.bx))/\HT (E1 ids σ'.bx)) σ') ((⟨n,env0,bxs k⟩:Sg).set p (xd k)))
 (hN:J N->Q .normal (true,⟨n,envZ,X9 (mlk ml) bx0++bxs N⟩)) (hS:∀ e bx,(e=.ret∨∃ id,e=.exit id)->Stop e bx->Q e (true,⟨n,envZ,X9 (mlk ml) bx0++bx⟩)) :
 V P none (AM (AY gl W0 G)) (.rangeFunc (.tmp g) #[p] asg body) Q (m0,⟨n,envA,q46⟩):=by
 have hlen:((List.range N).map xd).length=N:=by simp
 have hkeys':∀ id,(lk (bxs 0) id).isSome=L6 ids id:=by
  intro id;rw[<- hkeys];generalize bxs 0=l
  induction l with
  | nil=>rfl
  | cons x r ih=>
   obtain⟨k,b⟩:=x;rw[G4];simp only[L6,d9,ZD] at ih ⊢;by_cases hk:k=id
   ·subst hk;simp
   ·simp only[hk,q8,ih];rw[nbeq (λh=>hk h.symm)];simp
 have e:∀ k (h:k<((List.range N).map xd).length),((List.range N).map xd)[k]=xd k:=λk h=>by simp
 refine u28 (ids:=ids) (bxs:=bxs) (Stop:=Stop) J hgl hI hg hca hcp hhas hob hinj (λi hi=>by have:=Z3.1 hout i hi;simpa using this) (λt d hd=>ZI (f:=lk envA) (l:=live) (by rw[hsub];exact hd)) hoe (λt d hd=>ZI (f:=lk envA) (l:=liveZ) (by rw[hsubZ];exact hd)) hoZ hpZ hkp (c8 hp) hpe hkeys' hf0 (λk hk=>by rw[e];exact hxs k) hJ (λk hk hJk=>?_) (by rw[hlen];exact hN) hS;rw[e];exact hround k (by simpa using hk) hJk
theorem q35{c:Code}{Q:Exit->Sg->Prop}{bx':List (Nat×Bx)}(h1:MU σ.bx bx')(h2:(σ.bx.map Prod.fst).all (J2 (bx'.map Prod.fst))=true)(h:W P C c Q ⟨σ.n,σ.env,bx'⟩):W P C c Q σ:=by
 have e:∀ id,lk bx' id=lk σ.bx id:=λid=>by
  cases hx:lk bx' id with
  | some x=>exact(GA h1 _ _ (NR hx)).symm
  | none=>
   cases hy:lk σ.bx id with
   | none=>rfl
   | some y=>
    have h3:=Z3.1 h2 id (R8.1 (by rw[hy];rfl));simp only[J2,c6] at h3;obtain⟨j,hj,he⟩:=h3;have:=R8.2 hj;rw[<- Z5 he,hx] at this;cases this
 have e2:(⟨σ.n,σ.env,bx'⟩:Sg).box=σ.box:=funext e;rintro a w ⟨ρ,Fe,Fb,st⟩;refine h a w ⟨ρ,Fe,Fb, ?_⟩;exact⟨st.size,st.defs,by rw[e2];exact st.pin,by rw[e2];exact st.env,st.envN,by rw[e2];exact st.bx,by rw[e2];exact st.bxN,st.nodE,st.nodB,st.dEE,st.dEB,st.dBB,st.new,st.kept,st.os,st.tape,st.output,st.grown,st.gl,st.okN,st.okO⟩
end
section
open Go.Proofs
theorem w88(a b:Hs):EqV Tryz.prog 2 23 (w7 a) (w7 b) (a==b):=EqV.arr a b
theorem LZ:KeyC Tryz.prog 23 w7 2 where
 s:=⟨_,Tryz.underlying23,trivial⟩
 eq:=λa b=>by
  have h:=w88 a b
  have e:(@BEq.beq Hs List.instBEq a b)=(@BEq.beq Hs instBEqOfDecidableEq a b):=by
   rw[Q4,@beq_iff_eq Hs List.instBEq _ a b,@beq_iff_eq Hs instBEqOfDecidableEq _ a b]
  rw[<- e];exact h
 ck:=λa=>CkV.arr a
 n:=rfl
 p:=λ_=>rfl
theorem j41:KeyD Tryz.prog w7 where
 same:=λw ρ G L k v v' F F' h h'=>by
  have a1:(w7 k).isAgg=true:=rfl;simp only[VR,a1,w5] at h h';obtain⟨cs,rfl,h⟩:=h;obtain⟨cs',rfl,h'⟩:=h';have q:=NM h;have q':=NM h';have e:cs=cs':=Array.toList_inj.1 (q.trans q'.symm);subst e;show Instr.sameBits (9999+1) _ _=true;simp only[Instr.sameBits,E3,H4];refine SO _ λv hv=>?_;rw[q] at hv;obtain⟨b,_,rfl⟩:=Q5.1 hv;exact⟨_,_,rfl⟩
theorem h24{o:Option Nat}{h:Hs}{n:UInt32}(e:o=some 33):o=some (D.agg [w7 h,.u32 n]).sz:=e.trans (g6 some (show 33=(D.agg [w7 h,.u32 n]).sz from rfl))
theorem y47(v:UInt64)(h:Hs):D.agg [.u64 v,w7 h]=C7 (v,h):=rfl
theorem y45(h:Hs)(n:UInt32):D.agg [w7 h,.u32 n]=j1 (h,n):=rfl
theorem QR(ids:List Nat)(m:List (Plc×AH)):∀ kv∈m.map (λe=>(j1 e.1,C7 e.2)),kv.1.okB ids=true/\kv.2.okB ids=true:=Z6 (λ_=>rfl) (λ_=>rfl)
theorem QL(ids:List Nat)(m:List (Plc×Unit)):∀ kv∈m.map (λe=>(j1 e.1,w9 e.2)),kv.1.okB ids=true/\kv.2.okB ids=true:=Z6 (λ_=>rfl) (λ_=>rfl)
theorem QI(ids:List Nat)(m:List (Hs×Unit)):∀ kv∈m.map (λe=>(w7 e.1,w9 e.2)),kv.1.okB ids=true/\kv.2.okB ids=true:=Z6 (λ_=>rfl) (λ_=>rfl)
theorem x48(m:Nat->Nat)(M:List (Plc×AH))(i:Nat)(r:List (Nat×Bx)):X9 m ((i,m6 j1 C7 M)::r)=(m i,m6 j1 C7 M)::X9 m r:=x44 (λ_=>k36 _ _) (λ_=>rfl) M i r
theorem x47(m:Nat->Nat)(M:List (Plc×Unit))(i:Nat)(r:List (Nat×Bx)):X9 m ((i,m6 j1 w9 M)::r)=(m i,m6 j1 w9 M)::X9 m r:=x44 (λ_=>k36 _ _) (λ_=>rfl) M i r
theorem x46(m:Nat->Nat)(M:List (Hs×Unit))(i:Nat)(r:List (Nat×Bx)):X9 m ((i,m6 w7 w9 M)::r)=(m i,m6 w7 w9 M)::X9 m r:=x44 (λ_=>FE _ _) (λ_=>rfl) M i r
theorem JY(m:Nat->Nat)(o:List (Plc×AH))(s:List (Plc×Unit))(d:List (Hs×Unit))(i0 i1 i2 i3:Nat) :
 X9 m [(i0,.var (.agg [.map i1,.map i2,.map i3])),(i1,m6 j1 C7 o),(i2,m6 j1 w9 s),(i3,m6 w7 w9 d)]=[(m i0,.var (.agg [.map (m i1),.map (m i2),.map (m i3)])),(m i1,m6 j1 C7 o),(m i2,m6 j1 w9 s),(m i3,m6 w7 w9 d)]:=by
 show(m i0,Bx.var (.agg [.map (m i1),.map (m i2),.map (m i3)]))::X9 m _=_;rw[x48,x47,x46];rfl
theorem x45(m:Nat->Nat)(o:List (Plc×AH))(s:List (Plc×Unit))(d:List (Hs×Unit))(i0 i1 i2 i3:Nat) :
 X9 m [(i0,.var (.agg [.map i1,.map i2,.map i3])),(i3,m6 w7 w9 d),(i2,m6 j1 w9 s),(i1,m6 j1 C7 o)]=[(m i0,.var (.agg [.map (m i1),.map (m i2),.map (m i3)])),(m i3,m6 w7 w9 d),(m i2,m6 j1 w9 s),(m i1,m6 j1 C7 o)]:=by
 show(m i0,Bx.var (.agg [.map (m i1),.map (m i2),.map (m i3)]))::X9 m _=_;rw[x46,x47,x48];rfl
theorem x43(m:Nat->Nat)(t:TxS)(o:List (Plc×AH))(s:List (Plc×Unit))(d:List (Hs×Unit))(a b i0 i1 i2 i3:Nat) :
 X9 m [(a,.var (r8 t)),(b,.var (.ptr i0 0 [])),(i0,.var (.agg [.map i1,.map i2,.map i3])),(i1,m6 j1 C7 o),(i2,m6 j1 w9 s),(i3,m6 w7 w9 d)] =
  [(m a,.var (r8 t)),(m b,.var (.ptr (m i0) 0 [])),(m i0,.var (.agg [.map (m i1),.map (m i2),.map (m i3)])),(m i1,m6 j1 C7 o),(m i2,m6 j1 w9 s),(m i3,m6 w7 w9 d)]:=by
 show(m a,Bx.var (r8 t))::(m b,Bx.var (.ptr (m i0) 0 []))::(m i0,Bx.var (.agg [.map (m i1),.map (m i2),.map (m i3)]))::X9 m _=_;rw[x48,x47,x46];rfl
end
def q45(x:InS):Nat->Nat
 | 0=>0
 | w+1=>q45 x w+x.wit[w]!.length
def w82(t:TxS):Nat->Nat
 | 0=>0
 | i+1=>w82 t i+t.ins[i]!.script.length+t.ins[i]!.wit.length+q45 t.ins[i]! t.ins[i]!.wit.length
def u50(t:TxS):Nat->Nat
 | 0=>w82 t t.ins.length
 | k+1=>u50 t k+t.outs[k]!.script.length
def fewT(t:TxS):Prop:=t.ins.length<=8/\t.outs.length<=8/\u50 t t.outs.length<=1000
instance(t:TxS):Decidable (fewT t):=by unfold fewT;infer_instance
def w86(b:BlkS):Prop:=b.txs.length<=12/\∀ k<b.txs.length,fewT b.txs[k]!
instance(b:BlkS):Decidable (w86 b):=by unfold w86;infer_instance
def w85(l:List BlkS):Prop:=l.length<=20/\∀ i<l.length,w86 l[i]!
instance(l:List BlkS):Decidable (w85 l):=by unfold w85;infer_instance
structure TxH(t:TxS):Prop where
 ins:t.ins.length<=140737488355328
 outs:t.outs.length<=140737488355328
 inw:∀ x∈t.ins,x.script.length<=140737488355328/\x.wit.length<=140737488355328/\q45 x x.wit.length<=36028797018963968
 outw:∀ o∈t.outs,o.script.length<=140737488355328
def h08(b:BlkS):Prop:=b.txs.length<=140737488355328/\∀ t∈b.txs,TxH t
def u07(l:List BlkS):Prop:=l.length<=140737488355328/\∀ b∈l,h08 b
theorem z94(x:InS){w n:Nat}(h:w<=n):q45 x w<=q45 x n:=by
 induction n with
 | zero=>rw[show w=0 by omega];exact z5 _
 | succ n ih=>
  by_cases he:w=n+1
  ·rw[he];exact z5 _
  ·have:=ih (by omega);rw[q45];omega
theorem w81{t:TxS}(h:TxH t)(i:Nat)(hi:i<=t.ins.length):w82 t i<=i*36310272000000000:=by
 induction i with
 | zero=>exact v6 _
 | succ i ih=>
  have h1:=ih (by omega);obtain⟨h2,h3,h4⟩:=h.inw _ (X0 (show i<t.ins.length by omega));rw[w82];omega
theorem y81{t:TxS}(h:TxH t)(k:Nat)(hk:k<=t.outs.length):u50 t k<=t.ins.length*36310272000000000+k*140737488355328:=by
 induction k with
 | zero=>exact v5 (w81 h t.ins.length (z5 _)) (Nat.le_add_right _ _)
 | succ k ih=>
  have h1:=ih (by omega);have h2:=h.outw _ (X0 (show k<t.outs.length by omega));rw[u50];omega
theorem v91{p:Nat->Prop}{i:Nat}(h:∀ q<i,p q)(hi:p i):∀ q<i+1,p q:=λq hq=>(u7.1 hq).elim (h q) (λe=>e▸hi)
section
variable{α:Type}(f:α->Nat)(p:α->Bool)
end
def j51(A:List StS)(p:Plc):Bool:=A.any λs=>HP s.t p s.t.ins.length
theorem w78(A:List StS)(p:Plc):UT A A.length 0 p=j51 A p:=by
 rw[Q4];unfold UT j51;rw[c6,c6];constructor
 ·rintro ⟨i,hi,h⟩
  have hi':i<A.length:=by have:=z7.1 hi;omega
  rw[YT hi'] at h;exact⟨_,X0 hi',h⟩
 ·rintro ⟨s,hs,h⟩;obtain⟨i,hi,rfl⟩:=c9.1 hs;refine⟨i,z7.2 (by omega), ?_⟩;rw[YT hi,b9 A i hi];exact h
theorem v27(A:List StS)(s:StS)(p:Plc):j51 (A++[s]) p=(j51 A p||HP s.t p s.t.ins.length):=by
 unfold j51;rw[T0];simp
theorem JQ{α:Type}[Inhabited α]{A r:List α}{i:Nat}(hi:i<A.length):(A++r)[i]! = A[i]!:=by
 rw[b9 (A++r) i (by rw[q9];omega),b9 A i hi,o0 hi]
theorem XH{α:Type}[Inhabited α]{A:List α}{s:α}:(A++[s])[A.length]! = s:=by
 rw[b9 (A++[s]) A.length (by simp)];simp
theorem y51{a b:Nat}(ha:a<=1000)(hb:b<=1000)(h:nK a=nK b):a=b:=by rw[<- GP ha,<- GP hb,h]

theorem z04(b:BkS)(id:Hs)(t:TxS)(x:Hs):H3 (MY b id t).ids x=true↔id=x∨H3 b.ids x=true:=by
 cases h:H3 b.ids id with
 | true=>
  rw[w63 h];constructor
  ·exact .inr
  ·rintro (rfl|h1)
   ·exact h
   ·exact h1
 | false=>
  rw[q06 h,IS,K5,@beq_iff_eq Hs instBEqOfDecidableEq _ id x]
theorem h01(b:BkS)(txs:List TxS)(i:Nat)(x:Hs):H3 (gB b txs i).ids x=true↔H3 b.ids x=true∨∃ q<i,XR txs[q]! = x:=by
 induction i with
 | zero=>exact⟨.inl,λh=>h.elim id (λ⟨q,hq,_⟩=>absurd hq (g9 _))⟩
 | succ i ih=>
  rw[g66,z04,ih];constructor
  ·rintro (h|h|⟨q,hq,h⟩)
   ·exact .inr ⟨i,by omega,h⟩
   ·exact .inl h
   ·exact .inr ⟨q,by omega,h⟩
  ·rintro (h|⟨q,hq,h⟩)
   ·exact .inr (.inl h)
   ·rcases u7.1 hq with h1|rfl
    ·exact .inr (.inr ⟨q,h1,h⟩)
    ·exact .inl h
theorem j43{b:BkS}{txs:List TxS}(h:(LJ b txs).1=0):∀ q<txs.length,ZZ b txs q=0:=by
 intro q hq
 cases hf:(List.range txs.length).find? (λq=>decide (ZZ b txs q≠0)) with
 | none=>
  have:=List.find?_eq_none.1 hf q (z7.2 hq);simpa using this
 | some k=>
  have h1:=List.find?_some hf;have h2:=z7.1 (List.mem_of_find?_eq_some hf)
  have h3:q09 b txs=k:=by unfold q09;rw[hf];rfl
  unfold LJ at h;rw[h3] at h;dsimp only at h;rw[j7 h2] at h;exact absurd h (v7 h1)
theorem q13{l:List BlkS}{h:Nat}(hz:gE l h=0):ED l h=0/\(∀ q<l[h]!.txs.length,ZZ (gH l h) l[h]!.txs q=0)/\gH l (h+1)=gB (gH l h) l[h]!.txs l[h]!.txs.length:=by
 have h1:ED l h=0:=by
  refine Decidable.byContradiction λhc=>?_
  have:gE l h=ED l h:=by unfold gE DX;rw[j7 hc]
  exact hc (by rw[<- this];exact hz)
 have h2:(LJ (gH l h) l[h]!.txs).1=0:=by
  have:gE l h=(LJ (gH l h) l[h]!.txs).1:=by unfold gE;rw[EC h1]
  rw[<- this];exact hz
 have h3:=j43 h2;exact⟨h1,h3,by rw[gH,EC h1,q03 h3]⟩
theorem w70{l:List BlkS}(h:Nat)(hz:∀ q<h,gE l q=0):gH l h=gAll l h:=by
 induction h with
 | zero=>rfl
 | succ h ih=>rw[(q13 (hz h (by omega))).2.2,ih (λq hq=>hz q (by omega)),gAll]
theorem k35{l:List BlkS}(h:(s3 l).2=0):∀ q<l.length,gE l q=0:=by
 intro q hq
 cases hf:(List.range l.length).find? (λh=>decide (gE l h≠0)) with
 | none=>have:=List.find?_eq_none.1 hf q (z7.2 hq);simpa using this
 | some k=>
  have h1:=List.find?_some hf;unfold s3 at h;rw[hf] at h;exact absurd h (v7 h1)
theorem DM{α:Type}[Inhabited α]{l:List α}{q i:Nat}(hq:q<i)(hi:i<=l.length):(l.take i)[q]! = l[q]!:=by
 rw[b9 (l.take i) q (by rw[v8];omega),b9 l q (by omega),K4]
section
variable{l:List BlkS}{x:PlS}{mark:UInt32}
end
theorem z14(m:List (Plc×AH))(id:Hs)(os:List OutS)(k:Nat)(p:Plc):H3 (BF m id os k) p=true↔H3 m p=true∨∃ j<k,p=(id,nK j):=by
 induction k with
 | zero=>exact⟨.inl,λh=>h.elim (λh=>h) (λ⟨j,hj,_⟩=>absurd hj (g9 _))⟩
 | succ k ih=>
  rw[BF,IS,K5,@beq_iff_eq Plc instBEqOfDecidableEq _ (id,nK k) p,ih];constructor
  ·rintro (h|h|⟨j,hj,h⟩)
   ·exact .inr ⟨k,by omega,h.symm⟩
   ·exact .inl h
   ·exact .inr ⟨j,by omega,h⟩
  ·rintro (h|⟨j,hj,h⟩)
   ·exact .inr (.inl h)
   ·rcases u7.1 hj with h1|rfl
    ·exact .inr (.inr ⟨j,h1,h⟩)
    ·exact .inl h.symm
theorem v22(m:List (Plc×Unit))(l:List InS)(i:Nat)(p:Plc):H3 (g04 m l i) p=true↔H3 m p=true∨∃ j<i,p=plc l[j]!:=by
 induction i with
 | zero=>exact⟨.inl,λh=>h.elim (λh=>h) (λ⟨j,hj,_⟩=>absurd hj (g9 _))⟩
 | succ i ih=>
  rw[g04,IS,K5,@beq_iff_eq Plc instBEqOfDecidableEq _ (plc l[i]!) p,ih];constructor
  ·rintro (h|h|⟨j,hj,h⟩)
   ·exact .inr ⟨i,by omega,h.symm⟩
   ·exact .inl h
   ·exact .inr ⟨j,by omega,h⟩
  ·rintro (h|⟨j,hj,h⟩)
   ·exact .inr (.inl h)
   ·rcases u7.1 hj with h1|rfl
    ·exact .inr (.inr ⟨j,h1,h⟩)
    ·exact .inl h.symm
theorem z86(b:BkS)(id:Hs)(t:TxS):(MY b id t).spent=q05 b t:=by
 unfold MY
 split<;>rfl
theorem j97{b:BkS}{id:Hs}{t:TxS}(h:XC b id t=true):H3 b.ids id=false/\(N8 t=false->∀ q<t.ins.length,z50 b (plc t.ins[q]!)=true):=by
 unfold XC at h;rw[u6] at h;obtain⟨h1,h2⟩:=h;refine⟨by simpa using h1,λhm q hq=>?_⟩;rw[hm,Bool.false_or,u6,Z3] at h2;exact h2.1 q (z7.2 hq)
theorem j47{b:BkS}{txs:List TxS}{i:Nat}(h:ZZ b txs i=0):XC (gB b txs i) (XR txs[i]!) txs[i]! = true:=by
 unfold ZZ at h;split at h
 ·cases h
 ·split at h
  ·cases h
  ·rename_i h2;simpa using h2
section
variable{l:List BlkS}{y:UInt8}{mark:UInt32}{sc:Hs}
end
theorem LI(f:Nat->Bool)(k:Nat):((List.range (k+1)).any f)=((List.range k).any f||f k):=by
 rw[M3,T0];simp
theorem v77{t:TxS}{sc:Hs}{k:Nat}(h:j76 t sc k=true):j76 t sc (k+1)=true:=by unfold j76 at *;rw[LI,h];rfl
theorem v78{t:TxS}{sc:Hs}{k:Nat}(h:j76 t sc k=false):j76 t sc (k+1)=UF t.outs[k]! sc:=by unfold j76 at *;rw[LI,h,Bool.false_or]
theorem g45(all:List StS)(i:Nat)(sc:Hs):j22 all i sc 0=false:=rfl
theorem x72(all:List StS)(i:Nat)(sc:Hs)(k:Nat):j22 all i sc (k+1)=(j22 all i sc k||v15 all i all[i]!.t.ins[k]! sc):=LI _ _
theorem z02{all:List StS}{i:Nat}{x:InS}{sc:Hs}(h:(I1 all i (plc x)).isSome=true):v15 all i x sc=UF ((I1 all i (plc x)).getD ⟨0,[]⟩) sc:=by
 unfold v15
 cases hp:I1 all i (plc x) with
 | none=>rw[hp] at h;cases h
 | some o=>rfl
theorem z03{all:List StS}{i:Nat}{x:InS}{sc:Hs}(h:(I1 all i (plc x)).isSome=false):v15 all i x sc=false:=by
 unfold v15
 cases hp:I1 all i (plc x) with
 | none=>rfl
 | some o=>rw[hp] at h;cases h
theorem w28{all:List StS}{sc:Hs}{i:Nat}(h:y72 all i sc=true):GO all sc (i+1)=GO all sc i++[(((all[i]!.h:Nat):Int),all[i]!.id)]:=by rw[GO,j7 h]
theorem z82{all:List StS}{sc:Hs}{i:Nat}(h:y72 all i sc=false):GO all sc (i+1)=GO all sc i:=by rw[GO,z8 (by rw[h];exact m8)]
theorem w29{all:List StS}{sc:Hs}{i:Nat}(h:y72 all i sc=true):(GO all sc i).map NK++[.agg [f8 all[i]!.h,w7 all[i]!.id]]=(GO all sc (i+1)).map NK:=by
 rw[w28 h,d8];rfl
theorem z05(all:List StS)(sc:Hs)(i:Nat):(GO all sc i).length<=i:=by
 induction i with
 | zero=>exact z5 _
 | succ i ih=>
  rw[GO];split
  ·rw[q9,n7];omega
  ·omega
theorem j15{l:List StS}{p:Plc}{o:OutS}{i n:Nat}(h:I1 l i p=some o)(hn:i<=n):I1 l n p=some o:=by
 induction n with
 | zero=>rw[show i=0 by omega] at h;exact h
 | succ n ih=>
  by_cases he:i=n+1
  ·rw[<- he];exact h
  ·rw[I1,ih (by omega)]
theorem u94{l:List StS}{p:Plc}{i n:Nat}(h0:I1 l i p=none)(h:CZ l[i]! p=true)(hn:i<n):I1 l n p=some l[i]!.t.outs[p.2.toNat]!:=by
 refine j15 (i:=i+1) ?_ (by omega);rw[I1,h0];exact j7 h
theorem AR{l:List StS}{p:Plc}{i:Nat}(h0:I1 l i p=none)(h:CZ l[i]! p=false):I1 l (i+1) p=none:=by
 rw[I1,h0];exact z8 (by rw[h];exact m8)
theorem w37{s:StS}{p:Plc}(h:(s.id==p.1)=false):CZ s p=false:=by unfold CZ;rw[h];rfl
theorem SG{a:UInt32}{n:Nat}(hn:n<=1000000000):(a.toUInt64<UInt64.ofInt ((n:Nat):Int))↔a.toNat<n:=by
 rw[X5,UInt32.toNat_toUInt64]
 have h2:(UInt64.ofInt ((n:Nat):Int)).toNat=n:=by
  unfold UInt64.ofInt;rw[U9];omega
 rw[h2]
theorem w36{s:StS}{p:Plc}(h:(s.id==p.1)=true):CZ s p=decide (p.2.toNat<s.t.outs.length):=by unfold CZ;rw[h];rfl
theorem w34{s:StS}{p:Plc}(h:(s.id==p.1)=true)(hn:s.t.outs.length<=1000)(h2:decide (p.2.toUInt64<UInt64.ofInt ((s.t.outs.length:Nat):Int))=true):CZ s p=true/\p.2.toNat<s.t.outs.length:=by
 have h3:=(SG (by omega)).1 (v7 h2);exact⟨by rw[w36 h];exact D3 h3,h3⟩
theorem w35{s:StS}{p:Plc}(h:(s.id==p.1)=true)(hn:s.t.outs.length<=1000)(h2:decide (p.2.toUInt64<UInt64.ofInt ((s.t.outs.length:Nat):Int))=false):CZ s p=false:=by
 rw[w36 h];exact K7 λh3=>d6 h2 ((SG (by omega)).2 h3)
theorem u54:Wk (.agg [.u64 0,.nils]) (r9 ⟨0,[]⟩):=.aggL (.cons (.refl _) (.cons (.nils _ _) .nil))
theorem x74{a:Bool}{all:List StS}{i:Nat}{sc:Hs}{k:Nat}(h:(a||j22 all i sc k)=true):(a||j22 all i sc (k+1))=true:=by
 rw[x72,<- Bool.or_assoc,h];rfl
theorem x73{a:Bool}{all:List StS}{i:Nat}{sc:Hs}{k:Nat}(h:(a||j22 all i sc k)=false)(h2:(I1 all i (plc all[i]!.t.ins[k]!)).isSome=true):(a||j22 all i sc (k+1))=UF ((I1 all i (plc all[i]!.t.ins[k]!)).getD ⟨0,[]⟩) sc:=by
 rw[x72,<- Bool.or_assoc,h,z02 h2];rfl
theorem x75{a:Bool}{all:List StS}{i:Nat}{sc:Hs}{k:Nat}(h:(a||j22 all i sc k)=false)(h2:(I1 all i (plc all[i]!.t.ins[k]!)).isSome=false):(a||j22 all i sc (k+1))=false:=by
 rw[x72,<- Bool.or_assoc,h,z03 h2];rfl
theorem x63{l:List StS}(hl:allSt l){p:Plc}{i:Nat}{o:OutS}(hi:i<=l.length)(h:I1 l i p=some o):o.script.length<=1000000:=by
 induction i with
 | zero=>cases h
 | succ i ih=>
  rw[I1] at h
  cases hp:I1 l i p with
  | some o'=>rw[hp] at h;cases h;exact ih (by omega) hp
  | none=>
   rw[hp] at h;simp only at h;split at h
   ·rename_i hh;cases h
    have hlt:p.2.toNat<l[i]!.t.outs.length:=by
     unfold CZ at hh;rw[u6] at hh;exact v7 hh.2
    exact(hl.get (by omega)).2.1.outScript hlt
   ·cases h
theorem j14{l:List StS}(hl:allSt l){p:Plc}{i:Nat}(hi:i<=l.length):((I1 l i p).getD ⟨0,[]⟩).script.length<=1000000:=by
 cases h:I1 l i p with
 | none=>exact v6 _
 | some o=>exact x63 hl hi h
def q20(l:List StS)(i:Nat):Bool:=(List.range i).any λk=>l[k]!.id==l[i]!.id
def DU(l:List StS)(i k:Nat):Bool:=(I1 l i (plc l[i]!.t.ins[k]!)).isNone||UT l i k (plc l[i]!.t.ins[k]!)
def j36(l:List StS)(i:Nat):Nat->UInt64
 | 0=>0
 | k+1=>j36 l i k+((I1 l i (plc l[i]!.t.ins[k]!)).getD ⟨0,[]⟩).value
def SJ(l:List StS)(i:Nat)(n:Nat):Bool:=(List.range n).any (DU l i)
def DK(l:List StS)(i:Nat):Int:=
 if q20 l i=true then 14 else if N8 l[i]!.t=true then 0 else if SJ l i l[i]!.t.ins.length=true then 14 else
 if j36 l i l[i]!.t.ins.length<HJ l[i]!.t.outs l[i]!.t.outs.length then 14 else 0
def WZ(l:List BlkS):Int:=
 if 0<l.length-1/\l[l.length-1]!.hd.prev≠ZB l[l.length-1-1]!.hd then 9
 else if l[l.length-1]!.txs.length=0 then(if l.length-1=0 then 0 else 6)
 else if 256<l[l.length-1]!.txs.length then 6
 else if l[l.length-1]!.hd.root≠KS F7 (l[l.length-1]!.txs.map ZM) then 15 else 0
def q44(l:List BlkS)(i:Nat):Int:=
 if JU l[l.length-1]!.txs[i]! = false∨N8 l[l.length-1]!.txs[i]!≠decide (i=0) then 1 else DK (K6 l) ((K6 l).length-l[l.length-1]!.txs.length+i)
def fnz(n:Nat)(f:Nat->Int):Option Nat:=(List.range n).find? λq=>decide (f q≠0)
def YF(l:List BlkS):Int:=if WZ l≠0 then WZ l else match fnz l[l.length-1]!.txs.length (q44 l) with
 | some q=>q44 l q
 | none=>0
def UE(l:List BlkS):Int×Int:=match fnz l.length (λh=>YF (l.take (h+1))) with
 | some h=>(((h:Nat):Int),YF (l.take (h+1)))
 | none=>(0,0)
def GG(all:List StS)(i:Nat)(sc:Hs):Nat->List LV
 | 0=>[]
 | k+1=>if(UF all[i]!.t.outs[k]! sc&&!UT all all.length 0 (all[i]!.id,nK k))=true then GG all i sc k++[((all[i]!.id,nK k),all[i]!.t.outs[k]!.value,((all[i]!.h:Nat):Int))] else GG all i sc k
def NC(all:List StS)(sc:Hs):Nat->List LV
 | 0=>[]
 | i+1=>NC all sc i++GG all i sc all[i]!.t.outs.length
def PE(l:List BlkS)(sc:Hs):List LV:=NC (K6 l) sc (K6 l).length
theorem LC{n i:Nat}{f:Nat->Int}(hi:i<n)(h:∀ q<i,f q=0)(ho:f i≠0):fnz n f=some i:=
 q16 (f:=λq=>decide (f q≠0)) hi (λj hj=>K7 (λhn=>hn (h j hj))) (D3 ho)
theorem LD{n:Nat}{f:Nat->Int}(h:∀ q<n,f q=0):fnz n f=none:=
 q15 (f:=λq=>decide (f q≠0)) (λj hj=>K7 (λhn=>hn (h j hj)))
theorem TN(n:Nat)(f:Nat->Int):(∀ q<n,f q=0)∨∃ i<n,(∀ q<i,f q=0)/\f i≠0:=by
 induction n with
 | zero=>exact .inl λq hq=>absurd hq (g9 _)
 | succ n ih=>
  rcases ih with h|⟨i,hi,h1,h2⟩
  ·by_cases hn:f n=0
   ·exact .inl λq hq=>(u7.1 hq).elim (h q) (λe=>e▸hn)
   ·exact .inr ⟨n,by omega,h,hn⟩
  ·exact .inr ⟨i,by omega,h1,h2⟩
theorem TM{n:Nat}{f g:Nat->Int}(h:∀ i<n,(∀ q<i,f q=0)->f i=g i):(fnz n f=none/\fnz n g=none/\∀ q<n,f q=0)∨∃ i<n,fnz n f=some i/\fnz n g=some i/\f i=g i/\f i≠0/\∀ q<i,f q=0:=by
 have key:∀ i ≤ n,(∀ q<i,f q=0)->∀ q<i,g q=0:=λi hi h0 q hq=>by rw[<- h q (by omega) (λk hk=>h0 k (by omega))];exact h0 q hq
 rcases TN n f with h0|⟨i,hi,h1,h2⟩
 ·exact .inl ⟨LD h0,LD (key n (z5 _) h0),h0⟩
 ·exact .inr ⟨i,hi,LC hi h1 h2,LC hi (key i (by omega) h1) (by rw[<- h i hi h1];exact h2),h i hi h1,h2,h1⟩
theorem XG{l l':List StS}(p:Plc)(i:Nat)(h:∀ j<i,l[j]! = l'[j]!):I1 l i p=I1 l' i p:=by
 induction i with
 | zero=>rfl
 | succ i ih=>rw[I1,I1,ih (λj hj=>h j (by omega)),h i (by omega)]
theorem w77{l l':List StS}(p:Plc){i:Nat}(k:Nat)(hi:i<l.length)(hi':i<l'.length)(h:∀ j ≤ i,l[j]! = l'[j]!):UT l i k p=UT l' i k p:=by
 unfold UT;rw[show min (i+1) l.length=i+1 by omega,show min (i+1) l'.length=i+1 by omega];rw[Q4,c6,c6]
 have e:∀ j ≤ i,HP l[j]!.t p (GF l i k j)=HP l'[j]!.t p (GF l' i k j):=λj hj=>by
  unfold GF;rw[h j hj]
 exact⟨λ⟨j,hj,hx⟩=>⟨j,hj,by rw[<- e j (by have:=z7.1 hj;omega)];exact hx⟩,λ⟨j,hj,hx⟩=>⟨j,hj,by rw[e j (by have:=z7.1 hj;omega)];exact hx⟩⟩
theorem v16{l l':List StS}{i:Nat}(h:∀ j ≤ i,l[j]! = l'[j]!)(n:Nat):j36 l i n=j36 l' i n:=by
 induction n with
 | zero=>rfl
 | succ n ih=>rw[j36,j36,ih,h i (z5 _),XG _ i (λj hj=>h j (by omega))]
theorem u13{l l':List StS}{i:Nat}(hi:i<l.length)(hi':i<l'.length)(h:∀ j ≤ i,l[j]! = l'[j]!)(n:Nat):SJ l i n=SJ l' i n:=by
 unfold SJ
 have e:DU l i=DU l' i:=by
  funext k
  unfold DU;rw[h i (z5 _),XG _ i (λj hj=>h j (by omega)),w77 _ k hi hi' h]
 rw[e]
theorem w91{l l':List StS}{i:Nat}(h:∀ j ≤ i,l[j]! = l'[j]!):q20 l i=q20 l' i:=by
 unfold q20;rw[Q4,c6,c6];exact⟨λ⟨j,hj,hx⟩=>⟨j,hj,by rw[<- h j (by have:=z7.1 hj;omega),<- h i (z5 _)];exact hx⟩,λ⟨j,hj,hx⟩=>⟨j,hj,by rw[h j (by have:=z7.1 hj;omega),h i (z5 _)];exact hx⟩⟩
theorem x53{l l':List StS}{i:Nat}(hi:i<l.length)(hi':i<l'.length)(h:∀ j ≤ i,l[j]! = l'[j]!):DK l i=DK l' i:=by
 unfold DK;rw[w91 h,h i (z5 _),u13 hi hi' h,v16 h]
structure Bk(b:BkS)(A:List StS):Prop where
 ids:∀ x,H3 b.ids x=true↔∃ s∈A,s.id=x
 has:∀ p,H3 b.outs p=(I1 A A.length p).isSome
 get:∀ p o,I1 A A.length p=some o->KW q49 b.outs p=(o.value,GX o.script)
 spent:∀ p,H3 b.spent p=j51 A p
theorem Bk.nil:Bk bk0 []:=⟨λ_=>⟨λh=>(by cases h),λ⟨_,h,_⟩=>(by cases h)⟩,λ_=>rfl,λ_ _ h=>(by cases h),λ_=>rfl⟩
theorem v50(f:Nat->Bool)(k:Nat):((List.range (k+1)).any f)=((List.range k).any f||f k):=by
 rw[M3,T0];simp
theorem u93{l:List StS}{p:Plc}{i:Nat}{o:OutS}(h:I1 l i p=some o):∃ j<i,l[j]!.id=p.1:=by
 induction i with
 | zero=>cases h
 | succ i ih=>
  rw[I1] at h
  cases hp:I1 l i p with
  | some o'=>
   rw[hp] at h;cases h;obtain⟨j,hj,e⟩:=ih hp;exact⟨j,by omega,e⟩
  | none=>
   rw[hp] at h;simp only at h;split at h
   ·rename_i hh;unfold CZ at hh;rw[u6] at hh;exact⟨i,by omega,d5.1 hh.1⟩
   ·cases h
theorem w64(m:List (Plc×AH))(id:Hs)(os:List OutS)(hm:∀ n,H3 m (id,n)=false)(k:Nat)(hk:k<=1000)(p:Plc) :
 KW q49 (BF m id os k) p=if p.1=id/\p.2.toNat<k then(os[p.2.toNat]!.value,GX os[p.2.toNat]!.script) else KW q49 m p:=by
 induction k with
 | zero=>rw[z8 (λh=>absurd h.2 (g9 _))];rfl
 | succ k ih=>
  have hno:H3 (BF m id os k) (id,nK k)=false:=by
   cases hh:H3 (BF m id os k) (id,nK k) with
   | false=>rfl
   | true=>
    rcases(z14 m id os k (id,nK k)).1 hh with h1|⟨j,hj,h1⟩
    ·rw[hm] at h1;cases h1
    ·have:=y51 (a:=k) (b:=j) (by omega) (by omega) (g6 Prod.snd h1);omega
  have hnl:¬ T6 (BF m id os k) (id,nK k)<(BF m id os k).length:=λhl=>by rw[HD,hno] at hl;cases hl
  rw[BF];unfold IR;rw[z8 hnl,WV _ _ hno,ih (by omega)];by_cases he:(id,nK k)=p
  ·rw[j7 he,<- he];dsimp only;rw[GP (by omega),j7 ⟨rfl,E5 _⟩]
  ·rw[z8 he];by_cases h2:p.1=id/\p.2.toNat<k
   ·rw[j7 h2,j7 ⟨h2.1,by omega⟩]
   ·rw[z8 h2,z8 (λh3=>?_)];by_cases h4:p.2.toNat=k
    ·apply he;refine Prod.ext h3.1.symm ?_;show nK k=p.2;apply E4.1;rw[GP (by omega),h4]
    ·exact h2 ⟨h3.1,by omega⟩
theorem q82(A:List StS)(s:StS)(p:Plc):I1 (A++[s]) (A++[s]).length p=match I1 A A.length p with
 | some o=>some o
 | none=>if CZ s p=true then some s.t.outs[p.2.toNat]! else none:=by
 rw[q9,n7,I1,XG (l:=A++[s]) (l':=A) p A.length (λj hj=>JQ hj),XH]<;>rfl
theorem LY{t:TxS}{p:Plc}{k:Nat}:HP t p k=true↔N8 t=false/\∃ j<k,p=plc t.ins[j]!:=by
 unfold HP;rw[c6];constructor
 ·rintro ⟨j,hj,h⟩;rw[u6] at h;exact⟨by simpa using h.2,j,z7.1 hj,(d5.1 h.1).symm⟩
 ·rintro ⟨hm,j,hj,h⟩;exact⟨j,z7.2 hj,by rw[hm,h,E3];rfl⟩
theorem Bk.put{b:BkS}{A:List StS}(g:Bk b A){s:StS}(hid:∀ a∈A,a.id≠s.id)(ho:s.t.outs.length<=1000):Bk (MY b s.id s.t) (A++[s]):=by
 have hno:H3 b.ids s.id=false:=by
  cases hh:H3 b.ids s.id with
  | false=>rfl
  | true=>obtain⟨a,ha,e⟩:=(g.ids _).1 hh;exact absurd e (hid a ha)
 have hp0:∀ p:Plc,p.1=s.id->I1 A A.length p=none:=λp hp=>by
  cases h:I1 A A.length p with
  | none=>rfl
  | some o=>
   obtain⟨j,hj,e⟩:=u93 h;exact absurd (e.trans hp) (hid _ (X0 hj))
 have hm0:∀ n,H3 b.outs (s.id,n)=false:=λn=>by rw[g.has,hp0 _ rfl];rfl
 refine⟨λx=>?_,λp=>?_,λp o h=>?_,λp=>?_⟩
 ·rw[z04,g.ids];constructor
  ·rintro (h|⟨a,ha,e⟩)
   ·exact⟨s,by simp,h⟩
   ·exact⟨a,by simp[ha],e⟩
  ·rintro ⟨a,ha,e⟩
   rcases p9.1 ha with h|h
   ·exact .inr ⟨a,h,e⟩
   ·rw[g8.1 h] at e;exact .inl e
 ·rw[q82,q06 hno];have e1:=z14 b.outs s.id s.t.outs s.t.outs.length p;rw[g.has] at e1
  cases h:I1 A A.length p with
  | some o=>rw[h] at e1;exact e1.2 (.inl rfl)
  | none=>
   rw[h] at e1;dsimp only
   cases hh:CZ s p with
   | true=>
    rw[j7 rfl];unfold CZ at hh;rw[u6] at hh;have h2:=v7 hh.2;refine e1.2 (.inr ⟨p.2.toNat,h2,Prod.ext (d5.1 hh.1).symm ?_⟩);show p.2=nK _;apply E4.1;rw[GP (by omega)]
   | false=>
    rw[z8 m8];show H3 (BF b.outs s.id s.t.outs s.t.outs.length) p=false
    cases hk:H3 (BF b.outs s.id s.t.outs s.t.outs.length) p with
    | false=>rfl
    | true=>
     rcases e1.1 hk with h1|⟨j,hj,rfl⟩
     ·cases h1
     ·have:CZ s (s.id,nK j)=true:=by
       unfold CZ;rw[u6];exact⟨E3 _,D3 (by show(nK j).toNat<_;rw[GP (by omega)];exact hj)⟩
      rw[this] at hh;cases hh
 ·rw[q82] at h;rw[q06 hno];show KW q49 (BF b.outs s.id s.t.outs s.t.outs.length) p=_;rw[w64 _ _ _ hm0 _ ho]
  cases h2:I1 A A.length p with
  | some o'=>
   rw[h2] at h;cases h;rw[z8 (λh3=>by rw[hp0 _ h3.1] at h2;cases h2)];exact g.get _ _ h2
  | none=>
   rw[h2] at h;dsimp only at h;split at h
   ·rename_i hh;cases h;unfold CZ at hh;rw[u6] at hh;rw[j7 ⟨(d5.1 hh.1).symm,v7 hh.2⟩]
   ·cases h
 ·rw[z86,v27]
  cases hm:N8 s.t with
  | true=>
   rw[w61 hm,g.spent]
   have:HP s.t p s.t.ins.length=false:=by
    cases hf:HP s.t p s.t.ins.length with
    | false=>rfl
    | true=>have:=(LY.1 hf).1;rw[hm] at this;cases this
   rw[this,O4]
  | false=>
   rw[w62 hm,Q4,v22,K5,g.spent,LY];exact⟨λh=>h.imp id λh=>⟨hm,h⟩,λh=>h.imp id λh=>h.2⟩
theorem w76(A:List StS)(s:StS)(k:Nat)(p:Plc):UT (A++[s]) A.length k p=(j51 A p||HP s.t p (min s.t.ins.length k)):=by
 unfold UT;rw[show min (A.length+1) (A++[s]).length=A.length+1 by rw[q9,n7];omega,v50,XH,BI (Nat.lt_irrefl _),XH]
 congr 1
 rw[Q4,c6];unfold j51;rw[c6];constructor
 ·rintro ⟨j,hj,h⟩;have hj:=z7.1 hj;rw[YT hj,JQ hj] at h;exact⟨A[j]!,X0 hj,h⟩
 ·rintro ⟨a,ha,h⟩;obtain⟨j,hj,rfl⟩:=c9.1 ha;refine⟨j,z7.2 hj, ?_⟩;rw[YT hj,JQ hj,b9 A j hj];exact h
theorem y60{t:TxS}(h:JU t=true){i j:Nat}(hi:i<t.ins.length)(hj:j<i):plc t.ins[j]!≠plc t.ins[i]!:=λe=>by
 have h2:=(v7 h).2.2.1 i hi
 have h3:∀ n,j<n->H3 (ZA t.ins n) (plc t.ins[j]!)=true:=λn hn=>by
  rw[GN]
  induction n with
  | zero=>exact absurd hn (g9 _)
  | succ n ih=>
   rw[ZA]
   rcases u7.1 hn with h|rfl
   ·obtain⟨e,he,h⟩:=ih h;exact⟨e,List.mem_append_left _ he,h⟩
   ·exact⟨_,List.mem_append_right _ (g8.2 rfl),rfl⟩
 rw[<- e,h3 i hj] at h2;cases h2
section
variable{b:BkS}{A:List StS}{s:StS}
theorem Bk.ok(g:Bk b A)(hm:N8 s.t=false)(hy:JU s.t=true){k:Nat}(hk:k<s.t.ins.length):z50 b (plc s.t.ins[k]!)=!DU (A++[s]) A.length k:=by
 unfold z50 DU;rw[XH,g.has,g.spent,w76,XG (l:=A++[s]) (l':=A) _ A.length (λj hj=>JQ hj)]
 have:HP s.t (plc s.t.ins[k]!) (min s.t.ins.length k)=false:=by
  cases hf:HP s.t (plc s.t.ins[k]!) (min s.t.ins.length k) with
  | false=>rfl
  | true=>
   obtain⟨_,j,hj,e⟩:=LY.1 hf;exact absurd e.symm (y60 hy hk (by omega))
 rw[this,O4,Bool.not_or]
 congr 1
 cases I1 A A.length (plc s.t.ins[k]!)<;>rfl
theorem Bk.inS(g:Bk b A)(n:Nat):v89 b s.t.ins n=j36 (A++[s]) A.length n:=by
 induction n with
 | zero=>rfl
 | succ n ih=>
  rw[v89,j36,ih,XH,XG (l:=A++[s]) (l':=A) _ A.length (λj hj=>JQ hj)]
  congr 1
  cases h:I1 A A.length (plc s.t.ins[n]!) with
  | some o=>rw[g.get _ _ h];rfl
  | none=>rw[WW (by rw[g.has,h];rfl)];rfl
theorem Bk.dup(g:Bk b A):H3 b.ids s.id=q20 (A++[s]) A.length:=by
 rw[Q4,g.ids];unfold q20;rw[c6,XH];constructor
 ·rintro ⟨a,ha,e⟩;obtain⟨j,hj,rfl⟩:=c9.1 ha;exact⟨j,z7.2 hj,by rw[JQ hj,b9 A j hj];exact d5.2 e⟩
 ·rintro ⟨j,hj,h⟩;have hj:=z7.1 hj;rw[JQ hj] at h;exact⟨_,X0 hj,d5.1 h⟩
theorem Bk.sums(g:Bk b A)(hy:JU s.t=true):DK (A++[s]) A.length=if XC b s.id s.t=false then 14 else 0:=by
 unfold DK;rw[<- g.dup,XH]
 cases hd:H3 b.ids s.id with
 | true=>rw[j7 rfl,k61 hd,j7 rfl]
 | false=>
  rw[z8 m8]
  cases hm:N8 s.t with
  | true=>rw[j7 rfl,k60 hd hm,z8 (by decide)]
  | false=>
   rw[z8 m8]
   cases hb:SJ (A++[s]) A.length s.t.ins.length with
   | true=>
    unfold SJ at hb;rw[c6] at hb;obtain⟨k,hk,hb⟩:=hb;have hk:=z7.1 hk;rw[j7 rfl,q04 hd hm hk (by rw[g.ok hm hy hk,hb];rfl),j7 rfl]
   | false=>
    unfold SJ at hb;rw[r6] at hb;rw[z8 m8,k59 hd hm (λk hk=>by rw[g.ok hm hy hk];simpa using hb k (z7.2 hk)),<- g.inS];by_cases hl:v89 b s.t.ins s.t.ins.length<HJ s.t.outs s.t.outs.length
    ·rw[j7 hl,j7 (K7 (UInt64.not_le.2 hl))]
    ·rw[z8 hl,z8 (by rw[D3 (UInt64.not_lt.1 hl)];decide)]
theorem w60(h:XC b s.id s.t=true)(g:Bk b A):∀ a∈A,a.id≠s.id:=λa ha e=>by
 have:=(j97 h).1;rw[(g.ids _).2 ⟨a,ha,e⟩] at this;cases this
end
end Go.Sx
