/- Own texts. -/
import Derived.Test.YtgilikgghknbhaaGreatDoorMSxBldO
import Derived.Test.YtgilikgghknbhaaGreatDoorMSxVal2
set_option linter.unusedVariables false
set_option linter.unusedSimpArgs false
set_option linter.unnecessarySimpa false

namespace Go.Sx
structure InS where
 tx:Hs
 n:UInt32
 script:List UInt8
 seq:UInt32
 wit:List (List UInt8)
 deriving Inhabited
structure OutS where
 value:UInt64
 script:List UInt8
 deriving Inhabited
structure TxS where
 ver:UInt32
 ins:List InS
 outs:List OutS
 lock:UInt32
 deriving Inhabited
def K4(x:InS):D:=.agg [.agg [z7 x.tx,.u32 x.n],b5 x.script,.u32 x.seq,.sl none 1 (x.wit.map b5)]
def G6(x:InS):D:=.agg [.agg [z7 x.tx,.u32 x.n],b5 x.script,.u32 x.seq,.nils]
def j9(o:OutS):D:=.agg [.u64 o.value,b5 o.script]
def D1(t:TxS):D:=.agg [.u32 t.ver,.sl none 36 (t.ins.map K4),.sl none 2 (t.outs.map j9),.u32 t.lock]
def q44(x:UInt64):Nat->UInt64
 | 0=>x
 | i+1=>Z6 (q44 x i) 8
def p8(x:UInt64):Nat->List UInt8
 | 0=>[]
 | i+1=>p8 x i++[(q44 x i).toUInt8]
theorem j3(x:UInt64)(i:Nat):(p8 x i).length=i:=by induction i with
 | zero=>rfl
 | succ i ih=>simp[p8,ih]
def cU(n:Nat):UInt64:=UInt64.ofInt ((n:Nat):Int)
def u9(n:Nat):List UInt8:=
 if cU n<253 then p8 (cU n) 1 else if cU n<=65535 then p8 253 1++p8 (cU n) 2 else if cU n<=4294967295 then p8 254 1++p8 (cU n) 4 else p8 255 1++p8 (cU n) 8
theorem Q0(n:Nat):(u9 n).length<=9:=by
 unfold u9;split
 ·simp[j3]
 ·split
  ·simp[j3]
  ·split<;>simp[j3]
def L5(b:List UInt8):List UInt8:=u9 b.length++b
theorem Y7(b:List UInt8):(L5 b).length<=9+b.length:=by
 have:=Q0 b.length;simp[L5];omega
def x49(x:InS):List UInt8:=x.tx++p8 x.n.toUInt64 4++L5 x.script++p8 x.seq.toUInt64 4
def HI(o:OutS):List UInt8:=p8 o.value 8++L5 o.script
def G7(l:List InS):Nat->List UInt8
 | 0=>[]
 | i+1=>G7 l i++x49 l[i]!
def Y0(l:List OutS):Nat->List UInt8
 | 0=>[]
 | i+1=>Y0 l i++HI l[i]!
def Y4(t:TxS):List UInt8:=u9 t.ins.length++G7 t.ins t.ins.length++u9 t.outs.length++Y0 t.outs t.outs.length
def Z1(t:TxS):List UInt8:=p8 t.ver.toUInt64 4++Y4 t++p8 t.lock.toUInt64 4
def E6(l:List (List UInt8)):Nat->List UInt8
 | 0=>[]
 | i+1=>E6 l i++L5 l[i]!
def U1(l:List InS):Nat->List UInt8
 | 0=>[]
 | i+1=>U1 l i++u9 l[i]!.wit.length++E6 l[i]!.wit l[i]!.wit.length
def HH(t:TxS):Bool:=t.ins.any fun x=>decide (0<x.wit.length)
def H8(t:TxS):List UInt8:=if HH t then p8 t.ver.toUInt64 4++[0,1]++Y4 t++U1 t.ins t.ins.length++p8 t.lock.toUInt64 4 else Z1 t
structure TxS.wf(t:TxS):Prop where
 ins:t.ins.length<=1000000
 outs:t.outs.length<=1000000
 hash:∀ x∈t.ins,x.tx.length=32
 scr:∀ x∈t.ins,x.script.length<=1000000
 oscr:∀ x∈t.outs,x.script.length<=1000000
 insb:∀ i ≤ t.ins.length,(G7 t.ins i).length<=1500000
 outsb:∀ i ≤ t.outs.length,(Y0 t.outs i).length<=1500000
 witsb:∀ i ≤ t.ins.length,(U1 t.ins i).length<=1500000
 witl:∀ x∈t.ins,x.wit.length<=1000000/\∀ i ≤ x.wit.length,(E6 x.wit i).length<=1500000
 witi:∀ x∈t.ins,∀ b∈x.wit,b.length<=1000000
theorem m1{α:Type}[Inhabited α]{l:List α}{i:Nat}(h:i<l.length):l[i]!∈l:=by
 rw[getElem!_pos l i h];exact List.getElem_mem h
theorem TxS.wf.insScript{t:TxS}(h:t.wf){i:Nat}(hi:i<t.ins.length):t.ins[i]!.script.length<=1000000:=h.scr _ (m1 hi)
theorem TxS.wf.outScript{t:TxS}(h:t.wf){i:Nat}(hi:i<t.outs.length):t.outs[i]!.script.length<=1000000:=h.oscr _ (m1 hi)
theorem TxS.wf.body{t:TxS}(h:t.wf):(Y4 t).length<=3000018:=by
 have h1:=Q0 t.ins.length;have h2:=Q0 t.outs.length;have h3:=h.insb _ (Nat.le_refl _);have h4:=h.outsb _ (Nat.le_refl _);simp only[Y4,List.length_append];omega
theorem TxS.wf.bareL{t:TxS}(h:t.wf):(Z1 t).length<=4000000:=by
 have h1:=h.body;simp only[Z1,List.length_append,j3];omega
theorem BH{t:TxS}{i:Nat}(hi:i<t.ins.length)(h:0<t.ins[i]!.wit.length):HH t=true:=by
 unfold HH;rw[List.any_eq_true];exact⟨_,m1 hi,by simpa using h⟩
theorem HY{t:TxS}(h:∀ k<t.ins.length,¬ 0<t.ins[k]!.wit.length):HH t=false:=by
 unfold HH;rw[List.any_eq_false];intro x hx;obtain⟨k,hk,rfl⟩:=List.mem_iff_getElem.1 hx;have:=h k hk;rw[getElem!_pos t.ins k hk] at this;simpa using this
def LH(t:TxS):Hs:=Y8 (Z1 t)
def K0(b:List UInt8)(n:Nat):Option (List UInt8×List UInt8):=if n<=b.length then some (b.take n,b.drop n) else none
def CV(l:List UInt8):Nat->UInt64
 | 0=>0
 | i+1=>CV l i|||U6 (l[i]!).toUInt64 (8*i)
def m0(b:List UInt8)(n:Nat):Option (UInt64×List UInt8):=(K0 b n).map fun q=>(CV q.1 q.1.length,q.2)
def n2(x:UInt64):Nat:=if x=253 then 2 else if x=254 then 4 else 8
def U7(b:List UInt8):Option (Nat×List UInt8):=
 (m0 b 1).bind fun q=>(if 253<=q.1 then m0 q.2 (n2 q.1) else some q).bind fun p=>if UInt64.ofInt ((p.2.length:Nat):Int)<p.1 then none else some (p.1.toNat,p.2)
def J6(b:List UInt8):Option (List UInt8×List UInt8):=(U7 b).bind fun q=>K0 q.2 q.1
theorem Q8{b x r:List UInt8}{n:Nat}(h:K0 b n=some (x,r)):x.length=n/\r.length+n=b.length/\x=b.take n/\r=b.drop n:=by
 unfold K0 at h;split at h
 ·cases h;simp;omega
 ·cases h
theorem K3{b r:List UInt8}{x:UInt64}{n:Nat}(h:m0 b n=some (x,r)):r.length+n=b.length:=by
 unfold m0 at h
 cases ht:K0 b n with
 | none=>rw[ht] at h;cases h
 | some q=>
  obtain⟨y,r'⟩:=q;rw[ht] at h;cases h;exact(Q8 ht).2.1
theorem AV{b r:List UInt8}{x:UInt64}(h:m0 b 1=some (x,r)):x.toNat<=255:=by
 unfold m0 at h
 cases ht:K0 b 1 with
 | none=>rw[ht] at h;cases h
 | some q=>
  obtain⟨y,r'⟩:=q;rw[ht] at h;cases h;have hl:=(Q8 ht).1
  match y,hl with
  | [a],_=>
   have:CV [a] [a].length=a.toUInt64:=by
    show(0:UInt64)|||U6 a.toUInt64 0=_
    unfold U6;simp
   rw[this];simp only[UInt8.toNat_toUInt64];have:=a.toNat_lt;omega
theorem j71(x:UInt64):n2 x<=1000000:=by unfold n2;split;decide;split<;>decide
theorem j72{x:UInt64}(h1:253<=x)(h2:x.toNat<=255):D.int (wr (((2:Nat):Int)*2^min (((x-253).toNat:Nat):Int).toNat 64))=D.int ((n2 x:Nat):Int):=by
 have h3:x.toNat=253∨x.toNat=254∨x.toNat=255:=by
  have:(253:UInt64).toNat<=x.toNat:=UInt64.le_iff_toNat_le.1 h1;have e:(253:UInt64).toNat=253:=rfl;omega
 rcases h3 with h|h|h
 ·have:x=253:=UInt64.toNat_inj.1 h;subst this;rfl
 ·have:x=254:=UInt64.toNat_inj.1 h;subst this;rfl
 ·have:x=255:=UInt64.toNat_inj.1 h;subst this;rfl
theorem f8{b:List UInt8}(h:m0 b 1=none):U7 b=none:=by unfold U7;rw[h];rfl
theorem JX{b r:List UInt8}{x:UInt64}(h:m0 b 1=some (x,r))(h7:253<=x)(h2:m0 r (n2 x)=none):U7 b=none:=by
 unfold U7;rw[h,Option.bind_some,if_pos h7,h2];rfl
theorem s4{b r r2:List UInt8}{x y:UInt64}(h:m0 b 1=some (x,r))(h7:253<=x)(h2:m0 r (n2 x)=some (y,r2)):U7 b=if UInt64.ofInt ((r2.length:Nat):Int)<y then none else some (y.toNat,r2):=by
 unfold U7;rw[h,Option.bind_some,if_pos h7,h2,Option.bind_some]
theorem O2{b r:List UInt8}{x:UInt64}(h:m0 b 1=some (x,r))(h7:¬ 253<=x):U7 b=if UInt64.ofInt ((r.length:Nat):Int)<x then none else some (x.toNat,r):=by
 unfold U7;rw[h,Option.bind_some,if_neg h7,Option.bind_some]
theorem UU{n:Nat}(hn:n<18446744073709551616):(UInt64.ofInt ((n:Nat):Int)).toNat=n:=by
 have:UInt64.ofInt ((n:Nat):Int)=UInt64.ofNat n:=by
  unfold UInt64.ofInt
  congr 1
  omega
 rw[this];simp[UInt64.toNat_ofNat];omega
theorem S2{y:UInt64}{n:Nat}(h:¬ UInt64.ofInt ((n:Nat):Int)<y)(hn:n<18446744073709551616):y.toNat<=n:=by
 have:=UU hn;rw[UInt64.lt_iff_toNat_lt,this] at h;omega
theorem PP{y:UInt64}{n:Nat}(h:¬ UInt64.ofInt ((n:Nat):Int)<y)(hn:n<=100000):D.int (wr y.toNat)=D.int ((y.toNat:Nat):Int):=by
 have:=S2 h (by omega);exact C9 rfl (by omega) (by omega)
theorem S7{b r:List UInt8}{n:Nat}(h:U7 b=some (n,r))(hb:b.length<=100000):n<=r.length/\r.length+1<=b.length:=by
 cases h1:m0 b 1 with
 | none=>rw[f8 h1] at h;cases h
 | some q=>
  obtain⟨x,r1⟩:=q;have hl:=K3 h1;by_cases h7:253<=x
  ·cases h2:m0 r1 (n2 x) with
   | none=>rw[JX h1 h7 h2] at h;cases h
   | some q=>
    obtain⟨y,r2⟩:=q;rw[s4 h1 h7 h2] at h;split at h
    ·cases h
    ·rename_i hn;cases h;have:=K3 h2;have:=S2 hn (by omega);omega
  ·rw[O2 h1 h7] at h;split at h
   ·cases h
   ·rename_i hn;cases h;have:=S2 hn (by omega);omega
theorem B3{b x r:List UInt8}(h:J6 b=some (x,r))(hb:b.length<=100000):x.length+r.length+1<=b.length:=by
 unfold J6 at h
 cases h1:U7 b with
 | none=>rw[h1] at h;cases h
 | some q=>
  obtain⟨n,r1⟩:=q;rw[h1] at h;have:=S7 h1 hb;have:=Q8 (show K0 r1 n=some (x,r) from h);omega
def YI(b:List UInt8):Option (InS×List UInt8):=
 (K0 b 32).bind fun q=>(m0 q.2 4).bind fun p=>(J6 p.2).bind fun s=>(m0 s.2 4).bind fun r=>some (⟨q.1,p.1.toUInt32,s.1,r.1.toUInt32,[]⟩,r.2)
def T1(b:List UInt8):Option (OutS×List UInt8):=(m0 b 8).bind fun p=>(J6 p.2).bind fun s=>some (⟨p.1,s.1⟩,s.2)
def C4(b:List UInt8):Nat->Option (List InS×List UInt8)
 | 0=>some ([],b)
 | i+1=>(C4 b i).bind fun q=>(YI q.2).bind fun p=>some (q.1++[p.1],p.2)
def J3(b:List UInt8):Nat->Option (List OutS×List UInt8)
 | 0=>some ([],b)
 | i+1=>(J3 b i).bind fun q=>(T1 q.2).bind fun p=>some (q.1++[p.1],p.2)
def U2(b:List UInt8):Option ((List InS×List OutS)×List UInt8):=
 (U7 b).bind fun c=>(C4 c.2 c.1).bind fun p=>(U7 p.2).bind fun d=>(J3 d.2 d.1).bind fun q=>some ((p.1,q.1),q.2)
section
variable{b r r0 r1 r2 r3 r4 r5 x s u:List UInt8}{p q:UInt64}{i j n m:Nat}{l:List InS}{o:List OutS}
theorem z77(h:K0 b 32=none):YI b=none:=by unfold YI;rw[h];rfl
theorem z76(h:K0 b 32=some (x,r1))(h2:m0 r1 4=none):YI b=none:=by unfold YI;rw[h,Option.bind_some,h2];rfl
theorem z75(h:K0 b 32=some (x,r1))(h2:m0 r1 4=some (p,r2))(h3:J6 r2=none):YI b=none:=by unfold YI;rw[h,Option.bind_some,h2,Option.bind_some,h3];rfl
theorem z74(h:K0 b 32=some (x,r1))(h2:m0 r1 4=some (p,r2))(h3:J6 r2=some (s,r3))(h4:m0 r3 4=none):YI b=none:=by unfold YI;rw[h,Option.bind_some,h2,Option.bind_some,h3,Option.bind_some,h4];rfl
theorem z73(h:K0 b 32=some (x,r1))(h2:m0 r1 4=some (p,r2))(h3:J6 r2=some (s,r3))(h4:m0 r3 4=some (q,r4)):YI b=some (⟨x,p.toUInt32,s,q.toUInt32,[]⟩,r4):=by
 unfold YI;rw[h,Option.bind_some,h2,Option.bind_some,h3,Option.bind_some,h4];rfl
theorem SA(h:m0 b 8=none):T1 b=none:=by unfold T1;rw[h];rfl
theorem SO(h:m0 b 8=some (p,r1))(h2:J6 r1=none):T1 b=none:=by unfold T1;rw[h,Option.bind_some,h2];rfl
theorem IN(h:m0 b 8=some (p,r1))(h2:J6 r1=some (s,r2)):T1 b=some (⟨p,s⟩,r2):=by unfold T1;rw[h,Option.bind_some,h2];rfl
theorem x48{a:InS}(h:C4 b i=some (l,r))(h2:YI r=some (a,r1)):C4 b (i+1)=some (l++[a],r1):=by simp only[C4];rw[h,Option.bind_some,h2];rfl
theorem k88{a:OutS}(h:J3 b i=some (o,r))(h2:T1 r=some (a,r1)):J3 b (i+1)=some (o++[a],r1):=by simp only[J3];rw[h,Option.bind_some,h2];rfl
theorem ZV(h:C4 b i=some (l,r))(hi:i<n)(h2:YI r=none):C4 b n=none:=by
 induction n with
 | zero=>omega
 | succ n ih=>
  simp only[C4];by_cases hn:i=n
  ·subst hn;rw[h,Option.bind_some,h2];rfl
  ·rw[ih (by omega)];rfl
theorem HF(h:J3 b i=some (o,r))(hi:i<n)(h2:T1 r=none):J3 b n=none:=by
 induction n with
 | zero=>omega
 | succ n ih=>
  simp only[J3];by_cases hn:i=n
  ·subst hn;rw[h,Option.bind_some,h2];rfl
  ·rw[ih (by omega)];rfl
theorem j13{a:InS}(h:YI b=some (a,r))(hb:b.length<=100000):a.tx.length=32/\a.wit=[]/\32+a.script.length+r.length<b.length:=by
 unfold YI at h
 cases h1:K0 b 32 with
 | none=>rw[h1] at h;cases h
 | some y=>
  obtain⟨x,r1⟩:=y;rw[h1,Option.bind_some] at h
  cases h2:m0 r1 4 with
  | none=>rw[h2] at h;cases h
  | some y=>
   obtain⟨p,r2⟩:=y;rw[h2,Option.bind_some] at h
   cases h3:J6 r2 with
   | none=>rw[h3] at h;cases h
   | some y=>
    obtain⟨s,r3⟩:=y;rw[h3,Option.bind_some] at h
    cases h4:m0 r3 4 with
    | none=>rw[h4] at h;cases h
    | some y=>
     obtain⟨q,r4⟩:=y;rw[h4,Option.bind_some] at h;cases h;have e1:=Q8 h1;have e2:=K3 h2;have e3:=B3 h3 (by omega);have e4:=K3 h4;exact⟨e1.1,rfl,by show 32+s.length+r4.length<b.length;omega⟩
theorem z19{a:OutS}(h:T1 b=some (a,r))(hb:b.length<=100000):8+a.script.length+r.length<b.length:=by
 unfold T1 at h
 cases h1:m0 b 8 with
 | none=>rw[h1] at h;cases h
 | some y=>
  obtain⟨p,r1⟩:=y;rw[h1,Option.bind_some] at h
  cases h2:J6 r1 with
  | none=>rw[h2] at h;cases h
  | some y=>
   obtain⟨s,r2⟩:=y;rw[h2,Option.bind_some] at h;cases h;have e1:=K3 h1;have e2:=B3 h2 (by omega);show 8+s.length+r2.length<b.length;omega
theorem z71(h:C4 b i=some (l,r))(hb:b.length<=100000):l.length=i/\r.length+32*i<=b.length:=by
 induction i generalizing l r with
 | zero=>cases h;simp
 | succ i ih=>
  simp only[C4] at h
  cases h1:C4 b i with
  | none=>rw[h1] at h;cases h
  | some y=>
   obtain⟨l1,r1⟩:=y;rw[h1,Option.bind_some] at h
   cases h2:YI r1 with
   | none=>rw[h2] at h;cases h
   | some y=>
    obtain⟨a,r2⟩:=y;rw[h2,Option.bind_some] at h;cases h;have e1:=ih h1;have e2:=j13 h2 (by omega);simp;omega
theorem WF(h:J3 b i=some (o,r))(hb:b.length<=100000):o.length=i/\r.length+8*i<=b.length:=by
 induction i generalizing o r with
 | zero=>cases h;simp
 | succ i ih=>
  simp only[J3] at h
  cases h1:J3 b i with
  | none=>rw[h1] at h;cases h
  | some y=>
   obtain⟨l1,r1⟩:=y;rw[h1,Option.bind_some] at h
   cases h2:T1 r1 with
   | none=>rw[h2] at h;cases h
   | some y=>
    obtain⟨a,r2⟩:=y;rw[h2,Option.bind_some] at h;cases h;have e1:=ih h1;have e2:=z19 h2 (by omega);simp;omega
theorem FX(h:U7 b=none):U2 b=none:=by unfold U2;rw[h];rfl
theorem ZY(h:U7 b=some (n,r0))(h2:C4 r0 n=none):U2 b=none:=by unfold U2;rw[h,Option.bind_some,h2];rfl
theorem FJ(h:U7 b=some (n,r0))(h2:C4 r0 n=some (l,r))(h3:U7 r=none):U2 b=none:=by unfold U2;rw[h,Option.bind_some,h2,Option.bind_some,h3];rfl
theorem DA(h:U7 b=some (n,r0))(h2:C4 r0 n=some (l,r))(h3:U7 r=some (m,r5))(h4:J3 r5 m=none):U2 b=none:=by unfold U2;rw[h,Option.bind_some,h2,Option.bind_some,h3,Option.bind_some,h4];rfl
theorem NF(h:U7 b=some (n,r0))(h2:C4 r0 n=some (l,r))(h3:U7 r=some (m,r5))(h4:J3 r5 m=some (o,u)):U2 b=some ((l,o),u):=by
 unfold U2;rw[h,Option.bind_some,h2,Option.bind_some,h3,Option.bind_some,h4];rfl
end
theorem x64{x:List UInt8}{l:List D}(hx:x.length=32)(hl:l.length=32:=by rfl):l.take 0++(x.map D.u8).take 32++l.drop (0+32)=x.map D.u8:=by
 have h1:l.drop (0+32)=[]:=List.drop_eq_nil_of_le (by omega);have h2:(x.map D.u8).take 32=x.map D.u8:=List.take_of_length_le (by simp[hx]);rw[h1,h2];simp
end Go.Sx

namespace Go.Sx
theorem x00(x:UInt64)(i:Nat)(hi:i<8):Z6 x ((((cU (8*i)).toNat:Nat):Int)).toNat=q44 x i:=by
 have h1:(cU (8*i)).toNat=8*i:=UU (by omega);rw[h1];show Z6 x (8*i)=q44 x i
 induction i with
 | zero=>simp[q44,Z6]
 | succ i ih=>
  rw[q44,<- ih (by omega) (UU (by omega))];apply UInt64.toNat_inj.1;rw[O4,O4,O4,Nat.div_div_eq_div_mul,<- Nat.pow_add]
  congr 2
  omega
theorem LJ{x:UInt64}(h:x<65536):x<=65535:=by
 rw[UInt64.lt_iff_toNat_lt] at h;rw[UInt64.le_iff_toNat_le];have e1:(65536:UInt64).toNat=65536:=rfl;have e2:(65535:UInt64).toNat=65535:=rfl;omega
theorem DU{x:UInt64}(h:x<=65535):x<65536:=by
 rw[UInt64.le_iff_toNat_le] at h;rw[UInt64.lt_iff_toNat_lt];have e1:(65536:UInt64).toNat=65536:=rfl;have e2:(65535:UInt64).toNat=65535:=rfl;omega
theorem LK{x:UInt64}(h:x<4294967296):x<=4294967295:=by
 rw[UInt64.lt_iff_toNat_lt] at h;rw[UInt64.le_iff_toNat_le];have e1:(4294967296:UInt64).toNat=4294967296:=rfl;have e2:(4294967295:UInt64).toNat=4294967295:=rfl;omega
theorem IV{x:UInt64}(h:x<=4294967295):x<4294967296:=by
 rw[UInt64.le_iff_toNat_le] at h;rw[UInt64.lt_iff_toNat_lt];have e1:(4294967296:UInt64).toNat=4294967296:=rfl;have e2:(4294967295:UInt64).toNat=4294967295:=rfl;omega
end Go.Sx

namespace Go.Sx
open Go.Proofs
theorem O5(x:UInt64)(n:Nat)(hn:n<=8):Fn Tryz.prog gl 88 [.u64 x,.int ((n:Nat):Int)] (.sl (some 5) 1 ((p8 x n).map D.u8)):=by
 refine Fn.of (n:=22) Tryz.func88 rfl rfl rfl (nU rfl) fun C hC hD=>?_;refine q9 1 (y1 4) (V2 0 1) ⟨aU<|zK (kN O) O O,Zt⟩ ?_;refine q9 1 (y1 5) (V3 0 1 5) ⟨aU<|zK (kN O) O O,Zt⟩ ?_;refine W.seq (q9 1 (y1 6) (V4 0 1 5 6) ⟨aU<|zK (kI 0 O) O O,Zt⟩ ?_);refine W.block ?_;refine X5 (s:=5) 5 1 O ?_;refine W.loop (α:={q__:Nat//q__<=n}) (fun q__=>⟨22,[(0,.u64 x),(1,.int ((n:Nat):Int)),(5,.sl (some 5) 1 ((p8 x q__.1).map D.u8)),(6,.int ((q__.1:Nat):Int))],[]⟩) (fun q__=>n-q__.1) ⟨(0),bU⟩ O ?_;rintro ⟨i,hi⟩;show W _ _ _ _ ⟨22,[(0,.u64 x),(1,.int ((n:Nat):Int)),(5,.sl (some 5) 1 ((p8 x i).map D.u8)),(6,.int ((i:Nat):Int))],[]⟩;have hi:i<=n:=hi;have hll:=j3 x i;refine W.seq (q9 3 (y3 7 8 9) (V5 0 1 5 6 9) ⟨mU 6 O O,mU 1 O O,aU<|zS O O O,Zt⟩ ?_);refine z6 O (fun hc9=>?_) (fun hc9=>?_)
 ·refine W.skip (W.seq (W.block ?_));refine u4 10 (VS 12 13 14 15 16 17 18 19 20 5) [(8,5),(9,20),(9,12)] [(8,5),(9,20)] (V4 0 1 5 6) ⟨aU<|zM O O,mU 0 O O,mU 6 O O,aU<|QP 8 O O bU O,aU fun _ _ H K=>Q5 (d:=.u64 (cU (8*i))) (eU K 15 O) O (O) H,aU fun _ _ H K=>c8 (d:=.u64 (q44 x i)) (eU K 13 O) (eU K 16 O) O bV (congrArg D.u64 (x00 x i bO)) H,aU<|zW O O O,aU fun _ _ H K=>w8 (z:=1) (.cons (eU K 18 O) .nil) ⟨⟨O,O,O⟩,Zt⟩ O H dU,aU<|QH O O O (g6 O) (show _=((p8 x (i+1)).map D.u8) from(by simp[p8])) bU O,aU<|zO O O O,Zt⟩ O O (tU O ?_);refine z8 3 (y3 10 11 6) (V4 0 1 5 6) ⟨mU 6 O O,aU<|Q6 1 O O bU O,aU<|zA O O O,Zt⟩ ?_;exact⟨⟨(i+1),bU⟩,rfl,(by simp only[];omega)⟩
 ·obtain rfl:i=n:=by omega
  refine W.exit (z5 2 (y2 21 4) [(0,5),(1,21)] [(0,5),(1,21)] (V1 4) ⟨aU fun _ _ H K=>T5 (K 5 _ O) O H dU,aU<|zO O O O,Zt⟩ O O (tU O ?_));refine W.ret ?_;exact q8 (.inr O) O (O) O O Zt
theorem GG(n:Nat):Fn Tryz.prog gl 90 [.int ((n:Nat):Int)] (.sl (some 5) 1 ((u9 n).map D.u8)):=by
 refine Fn.of (n:=27) Tryz.func90 rfl rfl rfl (nU rfl) fun C hC hD=>?_;refine q9 1 (y1 2) (V1 0) ⟨aU<|zK (kN O) O O,Zt⟩ ?_;refine q9 3 (y3 4 5 3) (V1 3) ⟨mU 0 O O,aU fun _ _ H K=>Q5 (d:=.u64 (cU n)) (eU K 4 O) O (O) H,aU<|zA O O O,Zt⟩ ?_;refine W.seq (q9 2 (y2 6 7) (V2 3 7) ⟨mU 3 O O,aU<|B6 O (kW (.int .u64 253) (.u64 253) O) O O,Zt⟩ ?_);refine W.cond O (fun hc7=>?_) (fun hc7=>?_)
 ·refine z5 4 (y4 8 9 10 2) [(3,10)] [(3,10)] (V1 2) ⟨mU 3 O O,aU<|zW O O O,aU fun _ _ H K=>w8 (z:=1) (.cons (eU K 9 O) .nil) ⟨⟨O,O,O⟩,Zt⟩ O H dU,aU<|zO O O O,Zt⟩ O O (tU O ?_);refine W.ret ?_;exact q8 (.inr O) O (by rw[u9,if_pos (of_decide_eq_true hc7)];rfl) O O Zt
 ·refine W.skip (W.seq (q9 2 (y2 11 12) (V2 3 12) ⟨mU 3 O O,aU<|B6 O (kW (.int .u64 65536) (.u64 65536) O) O O,Zt⟩ ?_));refine W.cond O (fun hc12=>?_) (fun hc12=>?_)
  ·refine z5 5 (y5 13 14 15 16 2) [(3,13),(4,16)] [(3,13),(4,16)] (V1 2) ⟨aU fun _ _ H _=>w8 (z:=1) (.cons (kW (.int .u8 253) (.u8 253) O) .nil) ⟨⟨O,O,O⟩,Zt⟩ O H dU,mU 3 O O,aU<|ZB hC (O5 (cU n) 2 dU) O O O (kI 2 O) O O (F1 (.sl _ _ _ (j6 fun _=>.u8 _))) O,aU fun _ _ H K=>J8 (Or.inl O) (K 13 _ O) (SrcO.sc (SC.sl (K 15 _ O)) (c6 (fun _=>rfl))) (show _=((p8 253 1++p8 (cU n) 2).map D.u8) from(by simp[p8,q44])) (by simp[j3]) H dU dU,aU<|zO O O O,Zt⟩ O O (tU O ?_);refine W.ret ?_;exact q8 (.inr O) O (by rw[u9,if_neg (of_decide_eq_false hc7),if_pos (LJ (of_decide_eq_true hc12))]) O O Zt
  ·refine W.skip (W.seq (q9 2 (y2 17 18) (V2 3 18) ⟨mU 3 O O,aU<|B6 O (kW (.int .u64 4294967296) (.u64 4294967296) O) O O,Zt⟩ ?_));refine W.cond O (fun hc18=>?_) (fun hc18=>?_)
   ·refine z5 5 (y5 19 20 21 22 2) [(3,19),(4,22)] [(3,19),(4,22)] (V1 2) ⟨aU fun _ _ H _=>w8 (z:=1) (.cons (kW (.int .u8 254) (.u8 254) O) .nil) ⟨⟨O,O,O⟩,Zt⟩ O H dU,mU 3 O O,aU<|ZB hC (O5 (cU n) 4 dU) O O O (kI 4 O) O O (F1 (.sl _ _ _ (j6 fun _=>.u8 _))) O,aU fun _ _ H K=>J8 (Or.inl O) (K 19 _ O) (SrcO.sc (SC.sl (K 21 _ O)) (c6 (fun _=>rfl))) (show _=((p8 254 1++p8 (cU n) 4).map D.u8) from(by simp[p8,q44])) (by simp[j3]) H dU dU,aU<|zO O O O,Zt⟩ O O (tU O ?_);refine W.ret ?_;exact q8 (.inr O) O (by rw[u9,if_neg (of_decide_eq_false hc7),if_neg (fun h=>of_decide_eq_false hc12 (DU h)),if_pos (LK (of_decide_eq_true hc18))]) O O Zt
   ·refine W.skip (z5 5 (y5 23 24 25 26 2) [(3,23),(4,26)] [(3,23),(4,26)] (V1 2) ⟨aU fun _ _ H _=>w8 (z:=1) (.cons (kW (.int .u8 255) (.u8 255) O) .nil) ⟨⟨O,O,O⟩,Zt⟩ O H dU,mU 3 O O,aU<|ZB hC (O5 (cU n) 8 dU) O O O (kI 8 O) O O (F1 (.sl _ _ _ (j6 fun _=>.u8 _))) O,aU fun _ _ H K=>J8 (Or.inl O) (K 23 _ O) (SrcO.sc (SC.sl (K 25 _ O)) (c6 (fun _=>rfl))) (show _=((p8 255 1++p8 (cU n) 8).map D.u8) from(by simp[p8,q44])) (by simp[j3]) H dU dU,aU<|zO O O O,Zt⟩ O O (tU O ?_));refine W.ret ?_;exact q8 (.inr O) O (by rw[u9,if_neg (of_decide_eq_false hc7),if_neg (fun h=>of_decide_eq_false hc12 (DU h)),if_neg (fun h=>of_decide_eq_false hc18 (IV h))]) O O Zt
theorem MA(x:List UInt8)(hx:x.length<=1000000):Fn Tryz.prog gl 91 [.sl none 1 (x.map D.u8)] (.sl (some 5) 1 ((L5 x).map D.u8)):=by
 refine Fn.of (n:=8) Tryz.func91 rfl rfl rfl (nU rfl) fun C hC hD=>?_;have hcl:=Q0 x.length;refine q9 1 (y1 2) (V1 0) ⟨aU<|zK (kN O) O O,Zt⟩ ?_;refine z5 6 (y6 3 4 5 6 7 2) [(4,5),(5,7)] [(4,5),(5,7)] (V1 2) ⟨mU 0 O O,aU<|zN O (lN _) O,aU<|zC hC (GG x.length) O O O (F1 (.sl _ _ _ (j6 fun _=>.u8 _))) O,mU 0 O O,aU fun _ _ H K=>J8 (Or.inl O) (K 5 _ O) (SrcO.sc (SC.sl (K 6 _ O)) (c6 (fun _=>rfl))) (show _=((L5 x).map D.u8) from(by simp[L5])) bU H dU dU,aU<|zO O O O,Zt⟩ O O (tU O ?_);refine W.ret ?_;exact q8 (.inr O) O (O) O O Zt
theorem WH(x:InS)(hh:x.tx.length=32)(hx:x.script.length<=1000000):Fn Tryz.prog gl 138 [K4 x] (.sl (some 5) 1 ((x49 x).map D.u8)):=by
 refine Fn.of (n:=27) Tryz.func138 rfl rfl rfl (nU rfl) fun C hC hD=>?_;have hil:=Y7 x.script;refine z5 2 [] [] [] (V1 0) Zt O O (⟨O,_,R.box (gV 0 O) O O (nU O),⟨O,_,j4 (kN O) O (nU O),tV (V1 1) (p6 1) 27 O O O ?_⟩⟩);refine z5 6 (y6 4 5 6 7 8 3) [(4,4),(5,8)] [(4,4),(5,8)] (V2 1 3) ⟨aU fun _ _ H _=>w8 .nil Zt O H dU,aU (fU 1 O O),aU (fU 5 O O),aU fun _ B H K=>G5 (0) (32) (32) (K 6 _ O) (B 1 _ O) O O O O O bU bU O H,aU fun _ B H K=>J8 (Or.inl O) (K 4 _ O) (SrcO.sc (SC.va (K 7 _ O) (B 1 _ O) O bU) (P0 (fun _=>rfl))) (show _=(x.tx.map D.u8) from(by rw[List.drop_zero,List.take_of_length_le (by rw[List.length_map,hh];exact Nat.le_refl _)];simp)) bU H dU dU,aU<|zO O O O,Zt⟩ O O (tU O ?_);refine z5 8 (y8 9 10 11 12 13 14 15 3) [(6,3),(7,15),(7,9)] [(6,3),(7,15)] (V2 1 3) ⟨aU<|zM O O,aU (fU 1 O O),aU (fU 10 O O),aU (lU 11 O O O O O O O),aU<|zW O O O,aU<|ZB hC (O5 x.n.toUInt64 4 dU) O O O (kI 4 O) O O (F1 (.sl _ _ _ (j6 fun _=>.u8 _))) O,aU<|QH O O O (c6 (fun _=>rfl)) (show _=(((x.tx++p8 x.n.toUInt64 4)).map D.u8) from(by simp)) (by simp only[List.length_map,List.length_append,j3,List.length_cons,List.length_nil];omega) O,aU<|zO O O O,Zt⟩ O O (tU O ?_);refine z5 6 (y6 16 17 18 19 20 3) [(4,3),(5,20),(5,16)] [(4,3),(5,20)] (V2 1 3) ⟨aU<|zM O O,aU (fU 1 O O),aU (lU 17 O O O O O O O),aU<|zC hC (MA x.script (hx)) O O O (F1 (.sl _ _ _ (j6 fun _=>.u8 _))) O,aU<|QH O O O (c6 (fun _=>rfl)) (show _=((((x.tx++p8 x.n.toUInt64 4)++L5 x.script)).map D.u8) from(by simp)) (by simp only[List.length_map,List.length_append,j3,List.length_cons,List.length_nil];omega) O,aU<|zO O O O,Zt⟩ O O (tU O ?_);refine z5 7 (y7 21 22 23 24 25 26 2) [(5,3),(6,26)] [(5,3),(6,26)] (V1 2) ⟨aU<|zM O O,aU (fU 1 O O),aU (lU 22 O O O O O O O),aU<|zW O O O,aU<|ZB hC (O5 x.seq.toUInt64 4 dU) O O O (kI 4 O) O O (F1 (.sl _ _ _ (j6 fun _=>.u8 _))) O,aU<|QH O O O (c6 (fun _=>rfl)) (show _=((((x.tx++p8 x.n.toUInt64 4)++L5 x.script)++p8 x.seq.toUInt64 4).map D.u8) from(by simp)) (by simp only[List.length_map,List.length_append,j3,List.length_cons,List.length_nil];omega) O,aU<|zO O O O,Zt⟩ O O (tU O ?_);refine W.ret ?_;exact q8 (.inr O) O (by simp only[x49]) O O Zt
theorem SP(t:TxS)(hwf:t.wf):Fn Tryz.prog gl 89 [D1 t] (.sl (some 5) 1 ((Y4 t).map D.u8)):=by
 refine Fn.of (n:=57) Tryz.func89 rfl rfl rfl (nU rfl) fun C hC hD=>?_;have hc1:=Q0 t.ins.length;have hc2:=Q0 t.outs.length;have h1:=hwf.ins;have h2:=hwf.outs;have h3:=hwf.insb _ (Nat.le_refl _);have h4:=hwf.outsb _ (Nat.le_refl _);refine z5 2 [] [] [] (V1 0) Zt O O (⟨O,_,R.box (gV 0 O) O O (nU O),⟨O,_,j4 (kN O) O (nU O),tV (V1 1) (p6 1) 57 O O O ?_⟩⟩);refine z5 5 (y5 6 7 8 9 3) [(4,9)] [(4,9)] (V2 1 3) ⟨aU (fU 1 O O),aU (lU 6 O O O O O O O),aU<|zN O (lN _) O,aU<|zC hC (GG t.ins.length) O O O (F1 (.sl _ _ _ (j6 fun _=>.u8 _))) O,aU<|zO O O O,Zt⟩ O O (tU O ?_);refine W.seq (q9 1 (y1 4) (V3 1 3 4) ⟨aU<|zK (kI 0 O) O O,Zt⟩ ?_);refine W.block ?_;refine W.loop (α:={q__:Nat//q__<=t.ins.length}) (fun q__=>⟨57,[(1,.ptr 1 0 []),(3,.sl (some 5) 1 ((u9 t.ins.length++G7 t.ins q__.1).map D.u8)),(4,.int ((q__.1:Nat):Int))],[(1,.var (.agg [.u32 t.ver,.sl none 36 (t.ins.map K4),.sl none 2 (t.outs.map j9),.u32 t.lock]))]⟩) (fun q__=>t.ins.length-q__.1) ⟨(0),bU⟩ (by simp only[G7,List.append_nil];rfl) ?_;rintro ⟨i,hi⟩;show W _ _ _ _ ⟨57,[(1,.ptr 1 0 []),(3,.sl (some 5) 1 ((u9 t.ins.length++G7 t.ins i).map D.u8)),(4,.int ((i:Nat):Int))],[(1,.var (.agg [.u32 t.ver,.sl none 36 (t.ins.map K4),.sl none 2 (t.outs.map j9),.u32 t.lock]))]⟩;have hi:i<=t.ins.length:=hi;have hib:=hwf.insb i hi;have hib1:i<t.ins.length->(G7 t.ins (i+1)).length<=1500000:=fun h=>hwf.insb (i+1) h
 have hx:i<t.ins.length->t.ins[i]!.tx.length=32/\t.ins[i]!.script.length<=1000000:=fun h=>⟨hwf.hash _ (m1 h),hwf.insScript h⟩
 have hiS:(G7 t.ins (i+1)).length=(G7 t.ins i).length+(x49 t.ins[i]!).length:=by simp[G7]
 refine W.seq (q9 5 (y5 10 11 12 13 14) (V4 1 3 4 14) ⟨mU 4 O O,aU (fU 1 O O),aU (lU 11 O O O O O O O),aU<|zN O (lN _) O,aU<|zS O O O,Zt⟩ ?_);refine z6 O (fun hc14=>?_) (fun hc14=>?_)
 ·refine W.skip (W.seq (W.block ?_));refine u4 9 (y9 17 18 19 20 21 22 23 24 3) [(7,3),(8,24),(8,17)] [(7,3),(8,24)] (V3 1 3 4) ⟨aU<|zM O O,aU (fU 1 O O),aU (lU 18 O O O O O O O),mU 4 O O,aU<|zI i O O O bU O,aU<|zL O O (mG t.ins) O O O O O,aU<|zC hC (WH t.ins[i]! ((hx bO).1) ((hx bO).2)) O O O (F1 (.sl _ _ _ (j6 fun _=>.u8 _))) O,aU<|QH O O O (c6 (fun _=>rfl)) (show _=((u9 t.ins.length++G7 t.ins (i+1)).map D.u8) from(by simp[G7,Y0,HI,List.append_assoc])) (by simp only[List.length_map,List.length_append,j3,List.length_cons,List.length_nil];omega) O,aU<|zO O O O,Zt⟩ O O (tU O ?_);refine z8 3 (y3 15 16 4) (V3 1 3 4) ⟨mU 4 O O,aU<|Q6 1 O O bU O,aU<|zA O O O,Zt⟩ ?_;exact⟨⟨(i+1),bU⟩,rfl,(by simp only[];omega)⟩
 ·obtain rfl:i=t.ins.length:=by omega
  refine W.exit (z5 7 (y7 25 26 27 28 29 30 3) [(5,3),(6,30),(6,25)] [(5,3),(6,30)] (V2 1 3) ⟨aU<|zM O O,aU (fU 1 O O),aU (lU 26 O O O O O O O),aU<|zN O (lN _) O,aU<|zC hC (GG t.outs.length) O O O (F1 (.sl _ _ _ (j6 fun _=>.u8 _))) O,aU<|QH O O O (c6 (fun _=>rfl)) (show _=(((u9 t.ins.length++G7 t.ins t.ins.length)++u9 t.outs.length).map D.u8) from(by simp)) (by simp only[List.length_map,List.length_append,j3,List.length_cons,List.length_nil];omega) O,aU<|zO O O O,Zt⟩ O O (tU O ?_));refine W.seq (q9 1 (y1 5) (V3 1 3 5) ⟨aU<|zK (kI 0 O) O O,Zt⟩ ?_);refine W.block ?_;refine W.loop (α:={q__:Nat//q__<=t.outs.length}) (fun q__=>⟨57,[(1,.ptr 1 0 []),(3,.sl (some 5) 1 (((u9 t.ins.length++G7 t.ins t.ins.length)++u9 t.outs.length++Y0 t.outs q__.1).map D.u8)),(5,.int ((q__.1:Nat):Int))],[(1,.var (.agg [.u32 t.ver,.sl none 36 (t.ins.map K4),.sl none 2 (t.outs.map j9),.u32 t.lock]))]⟩) (fun q__=>t.outs.length-q__.1) ⟨(0),bU⟩ (by simp only[Y0,List.append_nil]) ?_;rintro ⟨i,hi⟩;show W _ _ _ _ ⟨57,[(1,.ptr 1 0 []),(3,.sl (some 5) 1 (((u9 t.ins.length++G7 t.ins t.ins.length)++u9 t.outs.length++Y0 t.outs i).map D.u8)),(5,.int ((i:Nat):Int))],[(1,.var (.agg [.u32 t.ver,.sl none 36 (t.ins.map K4),.sl none 2 (t.outs.map j9),.u32 t.lock]))]⟩;have hi:i<=t.outs.length:=hi;have hib:=hwf.outsb i hi;have hib1:i<t.outs.length->(Y0 t.outs (i+1)).length<=1500000:=fun h=>hwf.outsb (i+1) h;have hx:i<t.outs.length->t.outs[i]!.script.length<=1000000:=fun h=>hwf.outScript h
  have hiS:(Y0 t.outs (i+1)).length=(Y0 t.outs i).length+(8+(L5 t.outs[i]!.script).length):=by simp[Y0,HI,j3]
  refine W.seq (q9 5 (y5 31 32 33 34 35) (V4 1 3 5 35) ⟨mU 5 O O,aU (fU 1 O O),aU (lU 32 O O O O O O O),aU<|zN O (lN _) O,aU<|zS O O O,Zt⟩ ?_);refine z6 O (fun hc35=>?_) (fun hc35=>?_)
  ·refine W.skip (W.seq (W.block (z5 10 (VS 38 39 40 41 42 43 44 45 46 3) [(8,3),(9,46),(9,38)] [(8,3),(9,46)] (V3 1 3 5) ⟨aU<|zM O O,aU (fU 1 O O),aU (lU 39 O O O O O O O),mU 5 O O,aU<|zI i O O O bU O,aU<|P9 O O,aU<|zL O O (mG t.outs) O O O O O,aU<|ZB hC (O5 t.outs[i]!.value 8 dU) O O O (kI 8 O) O O (F1 (.sl _ _ _ (j6 fun _=>.u8 _))) O,aU<|QH O O O (c6 (fun _=>rfl)) (show _=((((u9 t.ins.length++G7 t.ins t.ins.length)++u9 t.outs.length++Y0 t.outs i)++p8 t.outs[i]!.value 8).map D.u8) from(by simp)) (by simp only[List.length_map,List.length_append,j3,List.length_cons,List.length_nil];omega) O,aU<|zO O O O,Zt⟩ O O (tU O ?_))));refine u4 10 (VS 47 48 49 50 51 52 53 54 55 3) [(8,3),(9,55),(9,47)] [(8,3),(9,55)] (V3 1 3 5) ⟨aU<|zM O O,aU (fU 1 O O),aU (lU 48 O O O O O O O),mU 5 O O,aU<|zI i O O O bU O,aU<|P9 O O,aU<|zL O O (mG t.outs) O O O O O,aU<|zC hC (MA t.outs[i]!.script (hx bO)) O O O (F1 (.sl _ _ _ (j6 fun _=>.u8 _))) O,aU<|QH O O O (c6 (fun _=>rfl)) (show _=(((u9 t.ins.length++G7 t.ins t.ins.length)++u9 t.outs.length++Y0 t.outs (i+1)).map D.u8) from(by simp[G7,Y0,HI,List.append_assoc])) (by simp only[List.length_map,List.length_append,j3,List.length_cons,List.length_nil];omega) O,aU<|zO O O O,Zt⟩ O O (tU O ?_);refine z8 3 (y3 36 37 5) (V3 1 3 5) ⟨mU 5 O O,aU<|Q6 1 O O bU O,aU<|zA O O O,Zt⟩ ?_;exact⟨⟨(i+1),bU⟩,rfl,(by simp only[];omega)⟩
  ·obtain rfl:i=t.outs.length:=by omega
   refine W.exit (z5 2 (y2 56 2) [(0,3),(1,56)] [(0,3),(1,56)] (V1 2) ⟨aU fun _ _ H K=>T5 (K 3 _ O) O H dU,aU<|zO O O O,Zt⟩ O O (tU O ?_));refine W.ret ?_;exact q8 (.inr O) O (by simp only[Y4]) O O Zt
theorem HB(t:TxS)(hwf:t.wf):Fn Tryz.prog gl 55 [D1 t] (.sl (some 5) 1 ((Z1 t).map D.u8)):=by
 refine Fn.of (n:=17) Tryz.func55 rfl rfl rfl (nU rfl) fun C hC hD=>?_;have hbl:=hwf.body;refine z5 2 [] [] [] (V1 0) Zt O O (⟨O,_,R.box (gV 0 O) O O (nU O),⟨O,_,j4 (kN O) O (nU O),tV (V1 1) (p6 1) 17 O O O ?_⟩⟩);refine W.seq ?_;refine W.dr (m:=8) (an:=[0,1,3,7,0,31,63,127]) hP dU O (its:=[.y 4 _,.y 5 _,.y 6 _,.y 7 _,.y 8 _,.y 9 _,.y 10 _,.y 3 _]) (ks:=[(6,7),(7,10)]) (kk:=[(6,7),(7,10)]) (env':=(V2 1 3)) (⟨nU O,O,⟨aU (fU 1 O O),aU (lU 4 O O O O O O O),aU<|zW O O O,aU<|ZB hC (O5 t.ver.toUInt64 4 dU) O O O (kI 4 O) O O (F1 (.sl _ _ _ (j6 fun _=>.u8 _))) O,aU (lU 1 O O O O O O O),aU<|zC hC (SP t hwf) O O O (F1 (.sl _ _ _ (j6 fun _=>.u8 _))) O,aU fun _ _ H K=>J8 (Or.inl O) (K 7 _ O) (SrcO.sc (SC.sl (K 9 _ O)) (c6 (fun _=>rfl))) (show _=((p8 t.ver.toUInt64 4++Y4 t).map D.u8) from(by simp)) (by simp only[List.length_map,List.length_append,j3,List.length_cons,List.length_nil];omega) H dU dU,aU<|zO O O O,Zt⟩,O,O,O⟩) O (bx':=(p6 1)) O (n':=17) O (tV (V2 1 3) (p6 1) 17 O O O ?_);refine z5 7 (y7 11 12 13 14 15 16 2) [(5,3),(6,16)] [(5,3),(6,16)] (V1 2) ⟨aU<|zM O O,aU (fU 1 O O),aU (lU 12 O O O O O O O),aU<|zW O O O,aU<|ZB hC (O5 t.lock.toUInt64 4 dU) O O O (kI 4 O) O O (F1 (.sl _ _ _ (j6 fun _=>.u8 _))) O,aU<|QH O O O (c6 (fun _=>rfl)) (show _=((Z1 t).map D.u8) from(by simp[Z1])) (by simp only[List.length_map,List.length_append,j3,List.length_cons,List.length_nil];omega) O,aU<|zO O O O,Zt⟩ O O (tU O ?_);refine W.ret ?_;exact q8 (.inr O) O (O) O O Zt
end Go.Sx

namespace Go.Sx
def B4:HdS:=⟨1,zero32,zero32,1000,545259519,0⟩
def lim:UInt32:=545259519
def CL(x:Bg)(n m:UInt64)(most:Bg):Bg:=
 if PL (G4 x [m,0,0,0]) n≠0 then most
 else if q38 (B5 (G4 x [m,0,0,0]) n) (G4 (B5 (F6 x [m,0,0,0]) n) [m,0,0,0])=true∨QW most (BJ (B5 (G4 x [m,0,0,0]) n) (G4 (B5 (F6 x [m,0,0,0]) n) [m,0,0,0]))=true then most
 else BJ (B5 (G4 x [m,0,0,0]) n) (G4 (B5 (F6 x [m,0,0,0]) n) [m,0,0,0])
def q76(l:List HdS):Int:=min (max (((l[l.length-1]!.time.toNat:Nat):Int)-((l[l.length-10]!.time.toNat:Nat):Int)) 25) 400
def HV(l:List HdS):Bg:=CL (CT l[l.length-1]!.bits) (UInt64.ofInt (q76 l)) 100 (CT lim)
def K5(l:List HdS):UInt32:=
 if l.length=0 then 0 else if l.length%10≠0 then l[l.length-1]!.bits else ZZ (if HV l=w9 then[1,0,0,0] else HV l)
theorem j40{l:List HdS}(h:l.length=0):K5 l=0:=by unfold K5;exact if_pos h
theorem j39{l:List HdS}(h:¬ l.length=0)(h1:l.length%10≠0):K5 l=l[l.length-1]!.bits:=by
 unfold K5;rw[if_neg h,if_pos h1]
theorem j38{l:List HdS}(h:¬ l.length=0)(h1:¬ l.length%10≠0)(hz:HV l=w9):K5 l=ZZ [1,0,0,0]:=by
 unfold K5;rw[if_neg h,if_neg h1,if_pos hz]
theorem j37{l:List HdS}(h:¬ l.length=0)(h1:¬ l.length%10≠0)(hz:¬ HV l=w9):K5 l=ZZ (HV l):=by
 unfold K5;rw[if_neg h,if_neg h1,if_neg hz]
theorem z09{x most:Bg}{n m:UInt64}(h:most.length=4):(CL x n m most).length=4:=by
 unfold CL;split
 ·exact h
 ·split
  ·exact h
  ·exact FD _ _
theorem z31(l:List HdS):(HV l).length=4:=by unfold HV;exact z09 (XJ _)
def shf(x:UInt32):List UInt32->Nat->List UInt32
 | ts,0=>ts.set 0 x
 | ts,k+1=>if x<ts[k]! then shf x (ts.set (k+1) ts[k]!) k else ts.set (k+1) x
def q09(ts:List UInt32)(x:UInt32):List UInt32:=shf x (ts++[x]) ts.length
def YE(l:List HdS):Nat->List UInt32
 | 0=>[]
 | j+1=>q09 (YE l j) l[l.length-11+j]!.time
def IT(l:List HdS):UInt32:=if l.length=0 then 0 else(YE l (min l.length 11))[min l.length 11/2]!
theorem k73(x:UInt32)(k:Nat):∀ ts:List UInt32,(shf x ts k).length=ts.length:=by
 induction k with
 | zero=>intro ts;simp[shf]
 | succ k ih=>intro ts;simp only[shf];split<;>simp[ih]
theorem z68(ts:List UInt32)(x:UInt32):(q09 ts x).length=ts.length+1:=by simp[q09,k73]
theorem z44(l:List HdS)(j:Nat):(YE l j).length=j:=by
 induction j with
 | zero=>rfl
 | succ j ih=>simp only[YE,z68,ih]
theorem w09{x:UInt32}{ts:List UInt32}{k:Nat}(h0:0<k)(h:x<ts[k-1]!):shf x ts k=shf x (ts.set k ts[k-1]!) (k-1):=by
 obtain⟨j,rfl⟩:∃ j,k=j+1:=⟨k-1,by omega⟩
 rw[shf];exact if_pos h
theorem SX{x:UInt32}{ts:List UInt32}{k:Nat}(h:0<k->¬ x<ts[k-1]!):shf x ts k=ts.set k x:=by
 cases k with
 | zero=>rw[shf]
 | succ j=>
  rw[shf];exact if_neg (h (by omega))
def KC(h:HdS)(t:Bg):Nat->HdS×Bool
 | 0=>(h,false)
 | k+1=>if XX (XG { h with nonce:=UInt32.ofNat (199-k) }) t=true then({ h with nonce:=UInt32.ofNat (199-k) },true) else KC { h with nonce:=UInt32.ofNat (199-k) } t k
def XH(l:List HdS)(time:UInt32)(root:Hs):HdS:=⟨1,XG l[l.length-1]!,root,time,K5 l,0⟩
def QX(l:List HdS)(time:UInt32)(root:Hs):HdS×Bool:=
 match JO (K5 l) with
 | none=>(XH l time root,false)
 | some t=>KC (XH l time root) t 200
theorem PX(h:HdS):(XG h).length=32:=by unfold XG;exact KL _
theorem x92{v t b n:UInt32}{p r:Hs}(hp:p.length=32)(hr:r.length=32):HdS.wf ⟨v,p,r,t,b,n⟩:=⟨hp,hr⟩
theorem z43(t:Bg)(k:Nat):∀ h:HdS,h.wf->(KC h t k).1.wf:=by
 induction k with
 | zero=>intro h hw;exact hw
 | succ k ih=>
  intro h hw;rw[KC];split
  ·exact x92 hw.1 hw.2
  ·exact ih _ (x92 hw.1 hw.2)
theorem DC(l:List HdS)(time:UInt32)(root:Hs)(hr:root.length=32):(XH l time root).wf:=by
 unfold XH;exact x92 (PX _) hr
theorem DK{l:List HdS}{time:UInt32}{root:Hs}(h:JO (K5 l)=none):QX l time root=(XH l time root,false):=by
 unfold QX;rw[h]
theorem DZ{l:List HdS}{time:UInt32}{root:Hs}{t:Bg}(h:JO (K5 l)=some t):QX l time root=KC (XH l time root) t 200:=by
 unfold QX;rw[h]
theorem z42(l:List HdS)(time:UInt32)(root:Hs)(hr:root.length=32):(QX l time root).1.wf:=by
 cases h:JO (K5 l) with
 | none=>rw[DK h];exact DC l time root hr
 | some t=>rw[DZ h];exact z43 t _ _ (DC l time root hr)
end Go.Sx

namespace Go.Sx
abbrev Plc:=Hs×UInt32
def Z2(p:Plc):D:=.agg [z7 p.1,.u32 p.2]
def plc(x:InS):Plc:=(x.tx,x.n)
def S1(t:TxS):Bool:=decide (t.ins.length=1)&&(plc t.ins[0]! == (List.replicate 32 0,4294967295))
@[irreducible] def E9 (t:TxS):Hs:=D2 (Z1 t)
theorem SD(t:TxS):E9 t=LH t:=by unfold E9 LH;exact(MY _).symm
theorem HC(t:TxS):(E9 t).length=32:=by unfold E9;exact KL _
structure BlkS where
 hd:HdS
 txs:List TxS
 deriving Inhabited
def D3(b:BlkS):D:=.agg [m7 b.hd,.sl none 4 (b.txs.map D1)]
structure StS where
 h:Nat
 at_:Nat
 id:Hs
 t:TxS
 deriving Inhabited
def I8(s:StS):D:=.agg [K6 s.h,K6 s.at_,z7 s.id,D1 s.t]
structure BlkS.wf(b:BlkS):Prop where
 hd:b.hd.wf
 txs:∀ t∈b.txs,t.wf
 sm:∀ t∈b.txs,t.ins.length<=1000/\t.outs.length<=1000
 len:b.txs.length<=1000
def allBl(l:List BlkS):Prop:=l.length<=100/\∀ b∈l,b.wf
theorem allBl.get{l:List BlkS}(h:allBl l){i:Nat}(hi:i<l.length):l[i]!.wf:=by rw[getElem!_pos l i hi];exact h.2 _ (List.getElem_mem hi)
theorem BlkS.wf.small{b:BlkS}(h:b.wf){i:Nat}(hi:i<b.txs.length):b.txs[i]!.ins.length<=1000/\b.txs[i]!.outs.length<=1000:=by rw[getElem!_pos b.txs i hi];exact h.sm _ (List.getElem_mem hi)
theorem BlkS.wf.get{b:BlkS}(h:b.wf){i:Nat}(hi:i<b.txs.length):b.txs[i]!.wf:=by rw[getElem!_pos b.txs i hi];exact h.txs _ (List.getElem_mem hi)
def XL(b:BlkS)(h:Nat):Nat->List StS
 | 0=>[]
 | i+1=>XL b h i++[⟨h,i,E9 b.txs[i]!,b.txs[i]!⟩]
def YK(l:List BlkS):Nat->List StS
 | 0=>[]
 | h+1=>YK l h++XL l[h]! h l[h]!.txs.length
def K7(l:List BlkS):List StS:=YK l l.length
theorem q40(l:List BlkS)(h:Nat):YK l (h+1)=YK l h++XL l[h]! h l[h]!.txs.length:=by rw[YK]
theorem j43(p:List StS)(b:BlkS)(h i:Nat):(p++XL b h i).map I8++[.agg [K6 h,K6 i,z7 (E9 b.txs[i]!),D1 b.txs[i]!]]=(p++XL b h (i+1)).map I8:=by
 rw[XL,<- List.append_assoc,List.map_append (l₁:=p++XL b h i)];rfl
theorem FP(b:BlkS)(h i:Nat):(XL b h i).length=i:=by
 induction i with
 | zero=>rfl
 | succ i ih=>simp[XL,ih]
theorem FM{l:List BlkS}(hl:allBl l)(h:Nat)(hh:h<=l.length):(YK l h).length<=1000*h:=by
 induction h with
 | zero=>exact Nat.le_refl _
 | succ h ih=>
  have:=(hl.get (show h<l.length by omega)).len;have:=ih (by omega);simp only[YK,List.length_append,FP];omega
theorem k30{l:List BlkS}(hl:allBl l):(K7 l).length<=100000:=by
 have:=FM hl l.length (Nat.le_refl _);have:=hl.1;unfold K7;omega
def StS.wf(s:StS):Prop:=s.id.length=32/\s.t.wf/\s.t.ins.length<=1000/\s.t.outs.length<=1000
theorem u05{h a:Nat}{id:Hs}{t:TxS}(hi:id.length=32)(ht:t.wf)(hs:t.ins.length<=1000/\t.outs.length<=1000):StS.wf ⟨h,a,id,t⟩:=⟨hi,ht,hs⟩
def allSt(l:List StS):Prop:=l.length<=100000/\∀ s∈l,s.wf
theorem allSt.get{l:List StS}(h:allSt l){i:Nat}(hi:i<l.length):l[i]!.wf:=by rw[getElem!_pos l i hi];exact h.2 _ (List.getElem_mem hi)
theorem j44{b:BlkS}(hb:b.wf)(h:Nat){i:Nat}(hi:i<=b.txs.length):∀ s∈XL b h i,s.wf:=by
 induction i with
 | zero=>intro s hs;cases hs
 | succ i ih=>
  intro s hs
  rcases List.mem_append.1 hs with h1|h1
  ·exact ih (by omega) s h1
  ·rw[List.mem_singleton.1 h1];exact u05 (HC _) (hb.get (by omega)) (hb.small (by omega))
theorem j45{l:List BlkS}(hl:allBl l)(h:Nat)(hh:h<=l.length):∀ s∈YK l h,s.wf:=by
 induction h with
 | zero=>intro s hs;cases hs
 | succ h ih=>
  intro s hs
  rcases List.mem_append.1 hs with h1|h1
  ·exact ih (by omega) s h1
  ·exact j44 (hl.get (by omega)) h (Nat.le_refl _) s h1
theorem GS{l:List BlkS}(hl:allBl l):allSt (K7 l):=⟨k30 hl,j45 hl _ (Nat.le_refl _)⟩
def EM(t:TxS)(p:Plc)(k:Nat):Bool:=(List.range k).any fun j=>plc t.ins[j]! == p&&!S1 t
def A4(l:List StS)(before input:Nat)(i:Nat):Nat:=if i<before then l[i]!.t.ins.length else min l[i]!.t.ins.length input
def BQ(l:List StS)(before input:Nat)(p:Plc):Bool:=(List.range (min (before+1) l.length)).any fun i=>EM l[i]!.t p (A4 l before input i)
theorem x57{t:TxS}{p:Plc}{k n:Nat}(hk:k<n)(h4:plc t.ins[k]! = p)(hm:(!S1 t)=true):EM t p n=true:=by
 unfold EM;rw[List.any_eq_true];exact⟨k,List.mem_range.2 hk,by rw[Bool.and_eq_true];exact⟨beq_iff_eq.2 h4,hm⟩⟩
theorem z99{t:TxS}{p:Plc}{n:Nat}(h:∀ q<n,(plc t.ins[q]! == p&&!S1 t)=false):EM t p n=false:=by
 unfold EM;rw[List.any_eq_false];intro q hq;rw[h q (List.mem_range.1 hq)];simp
theorem EP{l:List StS}{before input i k:Nat}{p:Plc}(hi:i<=before)(hi2:i<l.length)(hk:k<A4 l before input i)(h4:plc l[i]!.t.ins[k]! = p)(hm:(!S1 l[i]!.t)=true):BQ l before input p=true:=by
 unfold BQ;rw[List.any_eq_true];exact⟨i,List.mem_range.2 (by omega),x57 hk h4 hm⟩
theorem PG{l:List StS}{before input:Nat}{p:Plc}(h:∀ q<min (before+1) l.length,EM l[q]!.t p (A4 l before input q)=false):BQ l before input p=false:=by
 unfold BQ;rw[List.any_eq_false];intro q hq;rw[h q (List.mem_range.1 hq)];simp
theorem UF{l:List StS}{before input i:Nat}(h:i<before):A4 l before input i=l[i]!.t.ins.length:=by unfold A4;exact if_pos h
theorem UE{l:List StS}{before input i:Nat}(h:¬ i<before):A4 l before input i=min l[i]!.t.ins.length input:=by unfold A4;exact if_neg h
theorem SM{t:TxS}{p:Plc}{k:Nat}(h:¬ plc t.ins[k]! = p):(plc t.ins[k]! == p&&!S1 t)=false:=by rw[beq_eq_false_iff_ne.2 h];rfl
theorem GH{t:TxS}{p:Plc}{k:Nat}(h:¬ (!S1 t)=true):(plc t.ins[k]! == p&&!S1 t)=false:=by
 cases hm:S1 t with
 | true=>simp
 | false=>rw[hm] at h;exact absurd rfl h
def KX(x:Plc×UInt64):D:=Z2 x.1
def KF(x:Plc×UInt64):D:=.u64 x.2
def M0(l:List StS)(i:Nat):Nat->List (Plc×UInt64)
 | 0=>[]
 | k+1=>if BQ l l.length 0 (l[i]!.id,UInt32.ofInt ((k:Nat):Int))=true then M0 l i k else M0 l i k++[((l[i]!.id,UInt32.ofInt ((k:Nat):Int)),l[i]!.t.outs[k]!.value)]
def QC(l:List StS):Nat->List (Plc×UInt64)
 | 0=>[]
 | i+1=>QC l i++M0 l i l[i]!.t.outs.length
theorem VW(l:List StS)(i:Nat):QC l (i+1)=QC l i++M0 l i l[i]!.t.outs.length:=by rw[QC]
theorem j91(l:List StS)(i:Nat):M0 l i 0=[]:=by rw[M0]
theorem OE(l:List StS)(i k:Nat):(M0 l i k).length<=k:=by
 induction k with
 | zero=>exact Nat.le_refl _
 | succ k ih=>
  simp only[M0];split
  ·omega
  ·rw[List.length_append,List.length_singleton];omega
theorem OF{l:List StS}(hl:allSt l)(i:Nat)(hi:i<=l.length):(QC l i).length<=1000*i:=by
 induction i with
 | zero=>exact Nat.le_refl _
 | succ i ih=>
  have h1:=ih (by omega);have h2:=(hl.get (show i<l.length by omega)).2.2.2;have h3:=OE l i l[i]!.t.outs.length;simp only[QC,List.length_append];omega
theorem q65{l:List StS}{i k:Nat}(h:BQ l l.length 0 (l[i]!.id,UInt32.ofInt ((k:Nat):Int))=true):M0 l i (k+1)=M0 l i k:=by rw[M0,if_pos h]
theorem q66{l:List StS}{i k:Nat}(h:¬ BQ l l.length 0 (l[i]!.id,UInt32.ofInt ((k:Nat):Int))=true):M0 l i (k+1)=M0 l i k++[((l[i]!.id,UInt32.ofInt ((k:Nat):Int)),l[i]!.t.outs[k]!.value)]:=by rw[M0,if_neg h]
theorem x98{l:List StS}{i k:Nat}{p:List (Plc×UInt64)}(h:¬ BQ l l.length 0 (l[i]!.id,UInt32.ofInt ((k:Nat):Int))=true):(p++M0 l i k).map KX++[.agg [z7 l[i]!.id,.u32 (UInt32.ofInt ((k:Nat):Int))]]=(p++M0 l i (k+1)).map KX:=by
 rw[q66 h,<- List.append_assoc,List.map_append (l₁:=p++M0 l i k)];rfl
theorem x97{l:List StS}{i k:Nat}{p:List (Plc×UInt64)}(h:¬ BQ l l.length 0 (l[i]!.id,UInt32.ofInt ((k:Nat):Int))=true):(p++M0 l i k).map KF++[.u64 l[i]!.t.outs[k]!.value]=(p++M0 l i (k+1)).map KF:=by
 rw[q66 h,<- List.append_assoc,List.map_append (l₁:=p++M0 l i k)];rfl
theorem NE(b:List UInt8):(b5 b).brw=b5 b:=by
 simp only[b5,D.brw,j7];rw[j2 (fun _=>rfl)]
theorem j33(x:InS):(K4 x).brw=K4 x:=by
 simp only[K4,D.brw,j7,List.map_cons,List.map_nil,D8,NE];rw[j2 NE]
theorem k19(x:OutS):(j9 x).brw=j9 x:=by
 simp only[j9,D.brw,j7,List.map_cons,List.map_nil,NE]
theorem TS(t:TxS):(D1 t).brw=D1 t:=by
 simp only[D1,D.brw,j7,List.map_cons,List.map_nil];rw[j2 j33,j2 k19]
theorem k18(x:StS):(I8 x).brw=I8 x:=by
 simp only[I8,K6,D.brw,j7,List.map_cons,List.map_nil,D8,TS]
theorem j32(o:Option Nat)(z:Nat)(l:List StS):(D.sl o z (l.map I8)).brw=.sl none z (l.map I8):=by
 simp only[D.brw,j7];rw[j2 k18]
def T7(l:List BlkS):List (Plc×UInt64):=QC (K7 l) (K7 l).length
structure SpS where
 from_:UInt8
 two:Bool
 to:List UInt8
 part:UInt8
 extra:UInt8
 deriving Inhabited
def q78(s:SpS):D:=.agg [.u8 s.from_,.bool s.two,.sl none 1 (s.to.map .u8),.u8 s.part,.u8 s.extra]
structure PlS where
 pays:UInt8
 spends:List SpS
 step:UInt8
 deriving Inhabited
def BO(x:PlS):D:=.agg [.u8 x.pays,.sl none 5 (x.spends.map q78),.u8 x.step]
def YF(k:UInt8):List UInt8:=[0,20]++(MD [115,k,0,0,0]).take 20
def T9(s:SpS)(av:List (Plc×UInt64)):List InS:=
 let k:=s.from_.toNat%av.length
 if s.two=true/\k+1<av.length then[⟨av[k]!.1.1,av[k]!.1.2,[],s.extra.toUInt32,[]⟩,⟨av[k+1]!.1.1,av[k+1]!.1.2,[s.extra],0,[[s.part],[]]⟩]
 else[⟨av[k]!.1.1,av[k]!.1.2,[],s.extra.toUInt32,[]⟩]
def L0(s:SpS)(av:List (Plc×UInt64)):UInt64:=
 let k:=s.from_.toNat%av.length
 if s.two=true/\k+1<av.length then av[k]!.2+av[k+1]!.2 else av[k]!.2
def w03(s:SpS)(sum:UInt64)(i:Nat):OutS:=
 let v:=sum/UInt64.ofInt ((s.to.length:Nat):Int)
 ⟨if i=0 then v-min v s.part.toUInt64 else v,YF (s.to[i]!%12)⟩
def M8(s:SpS)(sum:UInt64)(i:Nat):List OutS:=(List.range i).map (w03 s sum)
def w61(s:SpS)(av:List (Plc×UInt64))(mark:UInt32):TxS:=⟨2,T9 s av,M8 s (L0 s av) (min s.to.length 4),mark⟩
def WZ(s:SpS)(av:List (Plc×UInt64)):Bool:=decide (av.length=0)||decide (s.to.length=0)
def zeroT:TxS:=⟨0,[],[],0⟩
def BG(s:SpS)(av:List (Plc×UInt64))(mark:UInt32):TxS×Bool:=if WZ s av then(zeroT,false) else(w61 s av mark,true)
def ST(n:Nat)(x:PlS)(mark:UInt32):TxS:=
 ⟨1,[⟨zero32,4294967295,[UInt8.ofNat n,UInt8.ofNat (n/256),mark.toUInt8],0,[]⟩],[⟨5000,YF (x.pays%12)⟩],mark⟩
def QG(l:List BlkS)(x:PlS)(mark:UInt32):Nat->List TxS
 | 0=>[ST l.length x mark]
 | i+1=>if(BG x.spends[i]! (T7 (l++[⟨zeroH,QG l x mark i⟩])) mark).2 then QG l x mark i++[(BG x.spends[i]! (T7 (l++[⟨zeroH,QG l x mark i⟩])) mark).1] else QG l x mark i
def E2(l:List BlkS)(x:PlS)(mark:UInt32):List TxS:=QG l x mark (min x.spends.length 6)
def heads(l:List BlkS):List HdS:=l.map BlkS.hd
def w83(l:List BlkS)(x:PlS)(mark:UInt32):HdS×Bool:=
 QX (heads l) (IT (heads l)+1+x.step.toUInt32) (JR d9 ((E2 l x mark).map E9))
def r8(l:List BlkS)(x:PlS)(mark:UInt32):BlkS×Bool:=(⟨(w83 l x mark).1,E2 l x mark⟩,(w83 l x mark).2)
def A8(ps:List PlS):Nat->List BlkS
 | 0=>[⟨B4,[]⟩]
 | i+1=>if(r8 (A8 ps i) ps[i]! (UInt32.ofNat i)).2 then A8 ps i++[(r8 (A8 ps i) ps[i]! (UInt32.ofNat i)).1] else A8 ps i
def q35(ps:List PlS):List BlkS:=A8 ps (min ps.length 14)
end Go.Sx

namespace Go.Sx
open Go.Proofs
theorem k62(h:Hs):(z7 h).sz=32:=rfl
theorem w94{o:Option Nat}{h:Hs}(e:o=some 32):o=some (z7 h).sz:=e.trans (congrArg some (k62 h).symm)
theorem EqV.up{P:Program}{k:Nat}{t:TypeId}{d1 d2:D}{b:Bool}(h:EqV P k t d1 d2 b)(j:Nat):EqV P (k+j) t d1 d2 b:=by
 intro n w ρ1 ρ2 G1 G2 L1 L2 v1 v2 F1 F2 h1 h2;have:=h (n+j) w ρ1 ρ2 G1 G2 L1 L2 v1 v2 F1 F2 h1 h2
 rwa [show n+(k+j)=n+j+k by omega]
theorem X9(a b:Plc):EqV Tryz.prog 3 109 (Z2 a) (Z2 b) (a==b):=by
 have h32:∀ x y:UInt32,EqV Tryz.prog 2 27 (.u32 x) (.u32 y) (x==y):=fun x y=>(EqV.u32 Tryz.underlying27 x y).up 1;have hh:∀ x y:Hs,EqV Tryz.prog 2 23 (z7 x) (z7 y) (x==y):=fun x y=>EqV.arr x y;have:=EqV.struct (k:=2) Tryz.underlying109 (by kernel_rfl) (.cons rfl rfl inferInstance rfl rfl rfl rfl (hh a.1 b.1) (.cons rfl rfl inferInstance rfl rfl rfl rfl (h32 a.2 b.2) .nil));rw[Bool.and_true] at this;exact this
end Go.Sx

namespace Go.Sx
theorem bfalse{b:Bool}(h:¬ b=true):b=false:=by cases b;rfl;exact absurd rfl h
theorem CX{x y z:D}(h1:Frs x)(h2:Frs y)(h3:Frs z):FrsR (.tup [x,y,z]):=.inl ⟨_,rfl,fun d hd=>by
 rcases List.mem_cons.1 hd with rfl|hd
 ·exact h1
 ·rcases List.mem_cons.1 hd with rfl|hd
  ·exact h2
  ·rw[List.mem_singleton.1 hd];exact h3⟩
theorem q93{l:List Hs}(h:l.length=0):JR d9 l=zero32:=by
 obtain rfl:=List.length_eq_zero_iff.1 h;unfold JR;rw[List.length_nil,NZ,q95]
theorem q94{l:List Hs}{k:Nat}(hk:k+D0 (E0 d9 l k).length=D0 l.length)(h:(E0 d9 l k).length=1):JR d9 l=(E0 d9 l k)[0]!:=by
 rw[h,NQ] at hk;unfold JR;rw[<- hk,q95]
theorem w19{x most:Bg}{n m:UInt64}(h:PL (G4 x [m,0,0,0]) n≠0):CL x n m most=most:=by unfold CL;exact if_pos h
theorem j65{x most:Bg}{n m:UInt64}(h:PL (G4 x [m,0,0,0]) n=0)(h2:q38 (B5 (G4 x [m,0,0,0]) n) (G4 (B5 (F6 x [m,0,0,0]) n) [m,0,0,0])=true∨QW most (BJ (B5 (G4 x [m,0,0,0]) n) (G4 (B5 (F6 x [m,0,0,0]) n) [m,0,0,0]))=true):CL x n m most=most:=by
 unfold CL;rw[if_neg (fun h1=>h1 h),if_pos h2]
theorem w18{x most:Bg}{n m:UInt64}(h:PL (G4 x [m,0,0,0]) n=0)(h2:¬ q38 (B5 (G4 x [m,0,0,0]) n) (G4 (B5 (F6 x [m,0,0,0]) n) [m,0,0,0])=true)(h3:¬ QW most (BJ (B5 (G4 x [m,0,0,0]) n) (G4 (B5 (F6 x [m,0,0,0]) n) [m,0,0,0]))=true):CL x n m most=BJ (B5 (G4 x [m,0,0,0]) n) (G4 (B5 (F6 x [m,0,0,0]) n) [m,0,0,0]):=by
 unfold CL;rw[if_neg (fun h1=>h1 h),if_neg (fun hc=>hc.elim h2 h3)]
end Go.Sx

namespace Go.Sx
open Go.Proofs
theorem q96(t:TxS)(hwf:t.wf):Fn Tryz.prog gl 146 [D1 t] (.bool (S1 t)):=by
 refine Fn.of (n:=16) Tryz.func146 rfl rfl rfl (nU rfl) fun C hC hD=>?_;have h1:=hwf.ins;refine z5 2 [] [] [] (V1 0) Zt O O (⟨O,_,R.box (gV 0 O) O O (nU O),⟨O,_,j4 (kB false O) O (nU O),tV (V1 1) (p6 1) 16 O O O ?_⟩⟩);refine W.seq ?_;by_cases hz:t.ins.length=1
 ·refine z8 14 (w51 3 4 5 6 7 8 9 10 11 12 13 14 15 2) (V1 2) ⟨aU (fU 1 O O),aU (lU 3 O O O O O O O),aU<|zN O (lN _) O,aU<|KD 1 O O O,mU 6 O O,aW O O (gT (dT hz) O) (fU 1 O O),aW O O (gT (dT hz) O) (lU 8 O O O O O O O),aW O O (gT (dT hz) O) fun _ _ H K=>R.idxN (0) (SC.sl (K 9 _ O)) (b4 (kI 0 O)) O bU H dU,aW O O (gT (dT hz) O)<|P9 O O,aW O O (gT (dT hz) O)<|zL O O (mG t.ins) O O O O O,aW O O (gT (dT hz) O) fun _ _ H _=>c9 (l:=[.arr 32 1 ((List.replicate 32 0).map D.u8),.u32 0]) (l':=[_,_]) (.cons (kW (.int .u32 4294967295) (.u32 4294967295) O) (.nil O)) ⟨⟨_,(kW (.int .u32 4294967295) (.u32 4294967295) O),O,O,O⟩,Zt⟩ H,aW O O (gT (dT hz) O) fun _ _ H K=>R.eqD (neg:=false) (b':=(plc t.ins[0]! == (List.replicate 32 0,4294967295))) (X9 (plc t.ins[0]!) (List.replicate 32 0,4294967295)) O (eU K 12 O) (eU K 13 O) O O O O (O) H,aU<|zT O (dT hz) O O O,aU<|zA O O O,Zt⟩ ?_;refine W.ret ?_;exact q8 (.inr O) O (by rw[S1,dT hz];rfl) O O Zt
 ·refine z8 14 [.y 3 _,.y 4 _,.y 5 _,.y 6 _,.y 7 _,.x 8,.x 9,.x 10,.x 11,.x 12,.x 13,.x 14,.y 15 _,.y 2 _] (V1 2) ⟨aU (fU 1 O O),aU (lU 3 O O O O O O O),aU<|zN O (lN _) O,aU<|KD 1 O O O,mU 6 O O,aF O O (gF (dF hz) O),aF O O (gF (dF hz) O),aF O O (gF (dF hz) O),aF O O (gF (dF hz) O),aF O O (gF (dF hz) O),aF O O (gF (dF hz) O),aF O O (gF (dF hz) O),aU<|YL O (dF hz) (kB false O) O O,aU<|zA O O O,Zt⟩ ?_;refine W.ret ?_;exact q8 (.inr O) O (by rw[S1,dF hz];rfl) O O Zt
theorem IH(t:TxS)(hwf:t.wf):Fn Tryz.prog gl 56 [D1 t] (z7 (E9 t)):=by
 refine Fn.of (n:=6) Tryz.func56 rfl rfl rfl (nU rfl) fun C hC hD=>?_;refine z5 2 [] [] [] (V1 0) Zt O O (⟨O,_,R.box (gV 0 O) O O (nU O),(Q7 O O (tV (V2 1 2) (p7 2 1) 6 O O O ?_))⟩);refine z5 4 (y3 3 4 5) [] [] (V2 2 5) ⟨aU (lU 1 O O O O O O O),aU<|zC hC (HB t hwf) O O O (F1 (.sl _ _ _ (j6 fun _=>.u8 _))) O,aU fun _ _ H K=>w6 hC (ZO (Z1 t) (Nat.le_trans hwf.bareL dU)) (Bc (Bor.sc (SC.sl (K 4 _ O)) (j2 (fun _=>rfl))) Bn) (F1 (J0 _)) H,Zt⟩ O O (d5 O O O O O (tV (V1 2) (p7 2 1) 6 O O O ?_));refine W.ret ?_;exact q8 (.inr O) O (by unfold E9;rfl) O O (iL 23 32)
theorem q91(l:List Hs)(hl:allH l)(hl0:l.length<=1000):Fn Tryz.prog gl 76 [.sl none 32 (l.map z7)] (z7 (JR d9 l)):=by
 refine Fn.of (n:=17) Tryz.func76 rfl rfl rfl (nU rfl) fun C hC hD=>?_;refine z5 1 [] [] [] (V1 0) Zt O O (Q7 O O (tV (V2 0 2) (p6 2) 17 O O O ?_));refine q9 2 (y2 4 3) (V2 2 3) ⟨mU 0 O O,aU<|zA O O O,Zt⟩ ?_;refine W.seq (q9 3 (y3 5 6 7) (V3 2 3 7) ⟨mU 3 O O,aU<|zN O (lN _) O,aU<|KD 0 O O O,Zt⟩ ?_);refine z6 O (fun hc7=>?_) (fun hc7=>?_)
 ·refine z5 2 (y1 8) [] [] (V2 2 8) ⟨aU fun _ _ H _=>R.bldAZ O H,Zt⟩ O O (d5 O O O O O (tV (V1 2) (p6 2) 17 O O O ?_));refine W.ret ?_;exact q8 (.inr O) O (by rw[q93 hc7]<;>rfl) O O (iL 23 32)
 ·refine W.skip (W.seq (W.block ?_));refine C6 (V2 2 3) (p6 2) 17 O O O ?_;refine W.loop (α:={q__:Nat//q__+D0 (E0 d9 l q__).length=D0 l.length/\0<(E0 d9 l q__).length}) (fun q__=>⟨17,[(2,.ptr 2 0 []),(3,.sl none 32 ((E0 d9 l q__.1).map z7))],[(2,.var (z7 zero32))]⟩) (fun q__=>D0 l.length-q__.1) ⟨(0),⟨(by show 0+_=_;rw[Nat.zero_add];rfl),(by show 0<l.length;omega)⟩⟩ O ?_;rintro ⟨k,⟨hk,hpos⟩⟩;show W _ _ _ _ ⟨17,[(2,.ptr 2 0 []),(3,.sl none 32 ((E0 d9 l k).map z7))],[(2,.var (z7 zero32))]⟩;have hrl:=AH d9 l k;have hle:=j03 l.length k;have hra:=AD W9 hl k;have hk:k+D0 (E0 d9 l k).length=D0 l.length:=hk;have hpos:0<(E0 d9 l k).length:=hpos;refine W.seq (q9 3 (y3 9 10 11) (V3 2 3 11) ⟨mU 3 O O,aU<|zN O (lN _) O,aU<|l5 1 O O O,Zt⟩ ?_);refine z6 O (fun hc11=>?_) (fun hc11=>?_)
  ·refine W.skip (W.block ?_);refine z8 3 (y3 12 13 3) (V2 2 3) ⟨mU 3 O O,aU fun _ _ H K=>e9 (r':=.sl none 32 ((w53 d9 (E0 d9 l k)).map z7)) (w6 hC (WM (E0 d9 l k) hra bO) (Bc (Bp (eU K 12 O) O O) Bn) (F1 (x56 _ _ _)) H) O (k21 _ _ _),aU<|zA O O O,Zt⟩ ?_;exact⟨⟨(k+1),⟨(by have h2:=MW (n:=(E0 d9 l k).length) (by omega);have h3:(E0 d9 l (k+1)).length=((E0 d9 l k).length+1)/2:=MX _ _;rw[h2,<- h3] at hk;show k+1+_=_;omega),(by have h3:(E0 d9 l (k+1)).length=((E0 d9 l k).length+1)/2:=MX _ _;show 0<(E0 d9 l (k+1)).length;omega)⟩⟩,rfl,(by have:=q03 (n:=(E0 d9 l k).length) (by omega);simp only[];omega)⟩
  ·refine W.exit (z5 4 (y3 14 15 16) [] [] (V2 2 16) ⟨mU 3 O O,aU fun _ _ H K=>R.idxN (0) (SC.sl (K 14 _ O)) (b4 (kI 0 O)) O bU H dU,aU<|zL O O (mG (E0 d9 l k)) O O O O O,Zt⟩ O O (d5 O O O O O (tV (V1 2) (p6 2) 17 O O O ?_)));refine W.ret ?_;exact q8 (.inr O) O (by rw[q94 hk bO]) O O (iL 23 32)
end Go.Sx

namespace Go.Sx
variable{P:Program}{C:Ctx}{σ σ' σ1:Sg}{a:Act}{w w':World}{ρ:Nat->Nat}{Fe Fe' Fb:Nat->List Nat}
variable{gl:List (Nat×D)}{W0:World}{G:Nat->Prop}
def ItrK(P:Program)(gl:List (Nat×D))(f:FuncId)(caps:List D)(bx0:List (Nat×Bx))(xs:List D):Prop:=
 ∀ (w:World) (G:Nat->Prop) (ρ:Nat->Nat) (Fb:Nat->List Nat) (vs:List Value) (l:Nat) (Y:Yt),
  (∀ b,G b->b<w.heap.size) ->
  (∀ g d,(g,d)∈gl->G g/\∃ cs e fz,w.heap[g]? = some (.cells cs e fz)/\Rc w (fun x=>x) (fun _=>False) (fun _=>False) false d cs.toList []) ->
  vs.length=caps.length->(∀ k (h:k<caps.length),VR w ρ G (fun i=>(lk bx0 i).isSome=true) caps[k] (vs.getD k undef) [])->Hand bx0 w ρ G Fb ->
  Stable Y ->
  (∀ k O w v,(h:k<xs.length)->Y k false O w->(∀ b,O b->b<w.heap.size)->VR w (fun x=>x) (fun b=>G b∨O b) (fun _=>False) xs[k] v []->VX P l v w (Rnd Y G O k w)) ->
  Y 0 false (fun b=>∃ id,b∈Fb id) w ->
  Calls P f (#[.func (.yield l) #[] #[]]++vs.toArray) w (fun e w'=>(∃ v,e=.returned v)/\∃ k s O Fb',Y k s O w'/\(s=true∨k=xs.length)/\(∀ id b,b∈Fb' id->O b)/\Hand bx0 w' ρ (fun b=>(G b∨O b)/\¬ ∃ id,b∈Fb' id) Fb')
theorem ItrK.of{gl:List (Nat×D)}{f:FuncId}{fn:Func}{c:Code}{caps xs:List D}{bx0:List (Nat×Bx)}{n:Nat}(hf:P.funcs[f]? = some fn)(hb:fn.body=some c)(hnn:fn.ntmps=n)(hres:fn.results=#[])
 (hd:caps.all (fun d=>!d.isRef)=true) (hn:caps.length+1<=n)
 (hob:L3 (bx0.map Prod.fst) bx0)
 (h:∀ (G:Nat->Prop) (Y:Yt) (l:Nat) (pn:Nat->Option Nat),Stable Y->(∀ k O w v,(h:k<xs.length)->Y k false O w->(∀ b,O b->b<w.heap.size)->VR w (fun x=>x) (fun b=>G b∨O b) (fun _=>False) xs[k] v []->VX P l v w (Rnd Y G O k w)) ->
  V P none (AM (w13 gl G Y (bx0.map Prod.fst) pn)) c (fun e i=>(e=.normal∨e=.ret)/\(i.1.2=true∨i.1.1=xs.length)/\W7 (bx0.map Prod.fst) i.2.bx=bx0) ((0,false),⟨n,ini 0 (.yld l::caps),bx0⟩)):ItrK P gl f caps bx0 xs:=by
 subst hnn;intro w G ρ0 Fb0 vs l Y hG hgl hl hv hand hY hyl h0;refine calls_of_wp hf hb ?_
 let C:Ctx:=⟨w,fun b=>b<w.heap.size/\¬ ∃ id,b∈Fb0 id,fun b=>G b∨(∃ id,b∈Fb0 id)∨w.heap.size<=b,gl,none,fun id=>if(lk bx0 id).isSome then some (ρ0 id) else none,[]⟩
 let ds:List D:=.yld l::caps
 have hget:∀ t d,(⟨fn.ntmps,ini 0 ds,bx0⟩:Sg).get t=some d->∃ h:t<ds.length,ds[t]=d:=by
  intro t d hd;simp only[Sg.get,DG,Nat.zero_le,if_true,Nat.sub_zero] at hd;obtain⟨h,e⟩:=List.getElem?_eq_some_iff.1 hd;exact⟨h,e⟩
 have hown:∀ b,own (fun _=>[]) Fb0 b->∃ id,b∈Fb0 id:=by
  rintro b (⟨_,h⟩|h)
  ·cases h
  ·exact h
 have hFlt:∀ id b,b∈Fb0 id->b<w.heap.size:=fun id b hb=>by
  cases hx:lk bx0 id with
  | none=>rw[hand.boxN id hx] at hb;cases hb
  | some x=>exact(hand.box id x hx).lt b hb
 have hG2:∀ b,G b->gd C (fun _=>[]) Fb0 b:=fun b hb=>⟨.inl hb,fun ho=>by obtain⟨id,hid⟩:=hown b ho;exact hand.out id b hid hb⟩
 have st:StW C ⟨fn.ntmps,ini 0 ds,bx0⟩ { tmps:=(#[Value.func (.yield l) #[] #[]]++vs.toArray)++Array.replicate (fn.ntmps-(#[Value.func (.yield l) #[] #[]]++vs.toArray).size) undef,defers:=[] } w ρ0 (fun _=>[]) Fb0:=by
  refine⟨?_,rfl,(fun id b hp=>by
   by_cases hs:(lk bx0 id).isSome=true
   ·simp only[C,hs,if_true,Option.some.injEq] at hp;exact⟨hp,hs⟩
   ·simp[C,hs] at hp), ?_,fun _ _=>rfl, ?_,hand.boxN,fun _=>List.nodup_nil,hand.nodB,(fun _ _ _ _ h=>by cases h),(fun _ _ _ h=>by cases h),hand.dBB,fun b hb hc=>hc.2 (hown b hb), ?_,rfl,⟨rfl,Nat.le_refl _⟩,rfl,Nat.le_refl _, ?_,fun b hb=>.inr (.inr hb),fun b hb=>.inr (.inl (hown b hb))⟩
  ·simp[hl];omega
  ·intro t d hd';obtain⟨ht,rfl⟩:=hget t d hd'
   cases t with
   | zero=>
    refine(z9 rfl).2 ⟨.func (.yield l) #[] #[], ?_, ?_⟩
    ·rw[Array.getElem?_append_left (by simp)];simp
    ·show VR w _ _ _ (D.yld l) _ _;simp only[VR,D.isAgg,Bool.false_eq_true,if_false];exact .yld l
   | succ t=>
    have ht':t<caps.length:=by simpa [ds] using ht
    have hr:caps[t].isRef=false:=by
     have:=List.all_eq_true.1 hd caps[t] (List.getElem_mem ht');simpa using this
    refine(z9 hr).2 ⟨vs.getD t undef, ?_,(hv t ht').mono (fun _ _ _=>rfl) (fun b hb _=>hG2 b hb) (fun id hid=>⟨hid,rfl⟩)⟩
    have htv:t<vs.length:=by omega
    rw[Array.getElem?_append_left (by simp;omega)];simp[htv,Array.getElem?_append]
  ·intro id x hx;exact(hand.box id x hx).mono (fun _ _ _=>rfl) (fun b hb _=>hG2 b hb) (fun id hid=>⟨hid,rfl⟩)
  ·intro b hb;exact⟨rfl,hb.1⟩
  ·intro g d hg;obtain⟨h1,cs,e,fz,h2,h3⟩:=hgl g d hg;exact⟨⟨(Array.getElem?_eq_some_iff.1 h2).1,fun⟨id,hid⟩=>hand.out id g hid h1⟩,.inl h1,cs,e,fz,h2,h3⟩
 have hAI:AM (w13 gl G Y (bx0.map Prod.fst) C.pin) ((0,false),⟨fn.ntmps,ini 0 ds,bx0⟩) { tmps:=(#[Value.func (.yield l) #[] #[]]++vs.toArray)++Array.replicate (fn.ntmps-(#[Value.func (.yield l) #[] #[]]++vs.toArray).size) undef,defers:=[] } w:=
  ⟨C,⟨rfl,rfl,rfl,⟨rfl,fun id b hp=>by
   by_cases hs:(lk bx0 id).isSome=true
   ·simp only[T2,List.any_eq_true];exact⟨id,X7.1 hs,by simp⟩
   ·simp[C,hs] at hp⟩,fun b=>∃ id,b∈Fb0 id,fun _=>Iff.rfl,fun _=>Iff.rfl,fun b hb=>⟨hG b hb,fun⟨id,hid⟩=>hand.out id b hid hb⟩,fun b ⟨id,hid⟩=>hFlt id b hid,h0⟩,_,_,_,st⟩
 refine Go.Code.wp_mono ?_ (wpIn_wide.1 (h G Y l C.pin hY hyl _ w hAI));rintro e a' w' ⟨⟨⟨k,s⟩,σ'⟩,⟨C',⟨h1,h2,h3,⟨h4,_⟩,O,hkeep,hok,hG',hO,hYk⟩,ρ,Fe,Fb,st'⟩,he,hend,hkb⟩;have hrun:=B1 (P:=P) (tmps:=a'.tmps) (rs:=[]) (fn:=fn) (by rw[hres]) (fun _=>undef) w' (fun k hk=>absurd hk (Nat.not_lt_zero _))
 let O':Nat->Prop:=fun b=>(O b∨C'.w0.heap.size<=b)/\b<w'.heap.size
 have hY1:Y k s O' w':=hY _ _ _ _ _ _ hYk {
  same:=fun b hb hn=>(st'.kept b ((hkeep b).2 ⟨hb,hn⟩)).1
  size:=st'.grown
  sub:=fun b hb=>hb.1
  lt:=fun b hb=>hb.2
  os:=st'.os
  tape:=⟨st'.tape.tp,st'.tape.dr⟩
  output:=st'.output }
 have hdf:a'.defers=[]:=by rw[st'.defs,h3]
 have hlt':=st'.lt
 have hownO:∀ b,own Fe Fb b->O' b:=fun b hb=>by
  refine⟨?_,hlt' b hb⟩;by_cases h0:C'.w0.heap.size<=b
  ·exact .inr h0
  ·left;by_cases hOb:O b
   ·exact hOb
   ·exact absurd ((hkeep b).2 ⟨by omega,hOb⟩) (st'.new b hb)
 let Fb':Nat->List Nat:=fun id=>if(lk bx0 id).isSome then Fb id else[]
 have hFs:∀ id b,b∈Fb' id->(lk bx0 id).isSome=true/\b∈Fb id:=fun id b hb=>by
  by_cases hs:(lk bx0 id).isSome=true
  ·exact⟨hs,by simpa [Fb',hs] using hb⟩
  ·simp[Fb',hs] at hb
 have hbx:∀ id x,lk bx0 id=some x->σ'.box id=some x:=fun id x hx=>by
  have e:=QV (bx0.map Prod.fst) σ'.bx id;rw[hkb,hx] at e;split at e
  ·exact e.symm
  ·cases e
 have hρ:∀ id,(lk bx0 id).isSome=true->ρ id=ρ0 id:=fun id hs=>(st'.pin id (ρ0 id) (by rw[h4];simp[C,hs])).1
 have hmem:∀ i,d8 (bx0.map Prod.fst) i=true->(lk bx0 i).isSome=true:=fun i hi=>by
  rw[X7];simp only[d8,List.any_eq_true] at hi;obtain⟨j,hj,he⟩:=hi;rw[Nat.eq_of_beq_eq_true he];exact hj
 have hhand:Hand bx0 w' ρ0 (fun b=>(G b∨O' b)/\¬ ∃ id,b∈Fb' id) Fb':=by
  refine⟨fun id x hx=>?_,fun id hx=>by simp[Fb',hx],fun id=>?_,fun id id' hne b hb hb'=>st'.dBB id id' hne b (hFs id b hb).2 (hFs id' b hb').2,fun id b hb hc=>hc.2 ⟨id,hb⟩⟩
  ·have h1:=(st'.bx id x (hbx id x hx)).okB (ZI hob hx)
   have hs:(lk bx0 id).isSome=true:=by rw[hx];rfl
   have h2:=h1.mono (w':=w') (G':=fun b=>(G b∨O' b)/\¬ ∃ id,b∈Fb' id) (L':=fun i=>(lk bx0 i).isSome=true) (ρ':=ρ0) (fun _ _ _=>rfl) (fun b hb hl=>⟨?_,fun⟨i,hi⟩=>hb.2 (.inr ⟨i,(hFs i b hi).2⟩)⟩) (fun i hi=>⟨hmem i hi.1,(hρ i (hmem i hi.1)).symm⟩)
   ·rw[hρ id hs] at h2;show BR w' ρ0 _ _ (ρ0 id) x (if(lk bx0 id).isSome then Fb id else[]);rw[if_pos hs];exact h2
   ·rcases(hok b).1 hb.1 with h|h|h
    ·exact .inl h
    ·exact .inr ⟨.inl h,hl⟩
    ·exact .inr ⟨.inr h,hl⟩
  ·show(if(lk bx0 id).isSome then Fb id else[]).Nodup;split
   ·exact st'.nodB id
   ·exact List.nodup_nil
 have hfin:∃ k s O Fb',Y k s O w'/\(s=true∨k=xs.length)/\(∀ id b,b∈Fb' id->O b)/\Hand bx0 w' ρ0 (fun b=>(G b∨O b)/\¬ ∃ id,b∈Fb' id) Fb':=
  ⟨k,s,O',Fb',hY1,hend,fun id b hb=>hownO b (.inr ⟨id,(hFs id b hb).2⟩),hhand⟩
 rcases he with rfl|rfl
 ·exact⟨hdf,_,hrun,⟨_,rfl⟩,hfin⟩
 ·exact⟨hdf,_,hrun,⟨_,rfl⟩,hfin⟩
theorem OQ{c:Code}{Q:Exit->Sg->Prop}{bx':List (Nat×Bx)}(h1:KB σ.bx bx')(h2:(σ.bx.map Prod.fst).all (d8 (bx'.map Prod.fst))=true)(h:W P C c Q ⟨σ.n,σ.env,bx'⟩):W P C c Q σ:=by
 have e:∀ id,lk bx' id=lk σ.bx id:=fun id=>by
  cases hx:lk bx' id with
  | some x=>exact(UN h1 _ _ (LQ hx)).symm
  | none=>
   cases hy:lk σ.bx id with
   | none=>rfl
   | some y=>
    have h3:=List.all_eq_true.1 h2 id (X7.1 (by rw[hy];rfl));simp only[d8,List.any_eq_true] at h3;obtain⟨j,hj,he⟩:=h3;have:=X7.2 hj;rw[<- Nat.eq_of_beq_eq_true he,hx] at this;cases this
 have e2:(⟨σ.n,σ.env,bx'⟩:Sg).box=σ.box:=funext e;rintro a w ⟨ρ,Fe,Fb,st⟩;refine h a w ⟨ρ,Fe,Fb, ?_⟩;exact⟨st.size,st.defs,by rw[e2];exact st.pin,by rw[e2];exact st.env,st.envN,by rw[e2];exact st.bx,by rw[e2];exact st.bxN,st.nodE,st.nodB,st.dEE,st.dEB,st.dBB,st.new,st.kept,st.os,st.tape,st.output,st.grown,st.gl,st.okN,st.okO⟩
end Go.Sx

namespace Go.Sx
open Go.Proofs
theorem k85(x:Bg)(n m:UInt64)(most:Bg)(hx:x.length=4)(hm:most.length=4):Fn Tryz.prog gl 150 [Z9 x,.u64 n,.u64 m,Z9 most] (Z9 (CL x n m most)):=by
 refine Fn.of (n:=67) Tryz.func150 rfl rfl rfl (nU rfl) fun C hC hD=>?_;have hq4:(G4 x [m,0,0,0]).length=4:=ET _ _;have hr4:(F6 x [m,0,0,0]).length=4:=j26 _ _;have hA:(B5 (G4 x [m,0,0,0]) n).length=4:=FH _ _;have hB:(B5 (F6 x [m,0,0,0]) n).length=4:=FH _ _;have hC4:(G4 (B5 (F6 x [m,0,0,0]) n) [m,0,0,0]).length=4:=ET _ _;refine z5 3 [] [] [] (V4 0 1 2 3) Zt O O (⟨O,_,R.box (gV 0 O) O O (nU O),⟨O,_,R.box (gV 3 O) O O (nU O),(Q7 O O (tV (V5 1 2 4 7 8) (d7 8 7 4) 67 O O O ?_))⟩⟩);refine z5 4 (y2 22 23) [] [] (V5 1 4 7 8 23) ⟨mU 2 O O,aU fun _ _ H K=>R.bldAP (z:=1) (l2:=([m,0,0,0].map D.u64)) (.cons (eU K 22 O) (.nil O)) ⟨⟨_,(eU K 22 O),O,O,O,O⟩,Zt⟩ (O) H,Zt⟩ O O (Q7 O O (d5 O O O O O (tV (V5 1 4 7 8 9) (T6 9 8 7 4) 67 O O O ?_)));refine z5 12 (y7 25 26 27 24 28 29 30) [] [] (V7 1 7 8 9 28 29 30) ⟨aU (lU 4 O O O O O O O),aU (lU 9 O O O O O O O),aU<|zD hC (VQ x [m,0,0,0] hx O) O O O O O O (CX (n1 _) (n1 _) (.int _)) O,aU<|zY O O O,aU<|zX O O O O,aU<|zX O O O O,aU<|zX O O O O,Zt⟩ O O (Q7 O O (Q7 O O (d5 O O O O O (d5 O O O O O (P8 O O O (tV (V6 1 7 8 9 10 11) (OH 11 10 9 8 7 4) 67 O O O ?_))))));refine z5 9 (y6 32 33 34 31 35 36) [] [] (V7 1 7 8 9 11 35 36) ⟨aU (lU 10 O O O O O O O),mU 1 O O,aU<|zD hC (TT (G4 x [m,0,0,0]) n hq4) O O O O O O (FrsR.two (n1 _) (.u64 _)) O,aU<|zY O O O,aU<|zX O O O O,aU<|zX O O O O,Zt⟩ O O (Q7 O O (d5 O O O O O (P8 O O O (tV (V7 1 7 8 9 11 13 14) (j82 13 11 10 9 8 7 4) 67 O O O ?_))));refine W.seq (q9 2 (y2 37 38) (V7 1 7 8 9 11 13 38) ⟨mU 14 O O,aU<|B6 O (kW (.int .u64 0) (.u64 0) O) O O,Zt⟩ ?_);refine W.cond O (fun hc38=>?_) (fun hc38=>?_)
 ·refine z5 2 (y1 39) [] [] (V2 8 39) ⟨aU (lU 7 O O O O O O O),Zt⟩ O O (d5 O O O O O (tV (V1 8) (j82 13 11 10 9 8 7 4) 67 O O O ?_));refine W.ret ?_;exact q8 (.inr O) O (by rw[w19 (bne_iff_ne.1 hc38)]) O O (iL 217 4)
 ·refine W.skip (z5 9 (y6 41 42 43 40 44 45) [] [] (V6 7 8 9 13 44 45) ⟨aU (lU 11 O O O O O O O),mU 1 O O,aU<|zD hC (TT (F6 x [m,0,0,0]) n hr4) O O O O O O (FrsR.two (n1 _) (.u64 _)) O,aU<|zY O O O,aU<|zX O O O O,aU<|zX O O O O,Zt⟩ O O (Q7 O O (d5 O O O O O (P8 O O O (tV (V5 7 8 9 13 15) (FA 15 13 11 10 9 8 7 4) 67 O O O ?_)))));refine z5 12 (y7 47 48 49 46 50 51 52) [] [] (V6 7 8 13 50 51 52) ⟨aU (lU 15 O O O O O O O),aU (lU 9 O O O O O O O),aU<|zD hC (VQ (B5 (F6 x [m,0,0,0]) n) [m,0,0,0] hB O) O O O O O O (CX (n1 _) (n1 _) (.int _)) O,aU<|zY O O O,aU<|zX O O O O,aU<|zX O O O O,aU<|zX O O O O,Zt⟩ O O (Q7 O O (Q7 O O (d5 O O O O O (d5 O O O O O (P8 O O O (tV (V4 7 8 13 17) [(18,.var _),(17,.var _),(15,.var _),(13,.var _),(11,.var _),(10,.var _),(9,.var _),(8,.var _),(7,.var _),(4,.var _)] 67 O O O ?_))))));refine z5 9 (y6 54 55 56 53 57 58) [] [] (V4 7 8 57 58) ⟨aU (lU 13 O O O O O O O),aU (lU 17 O O O O O O O),aU<|zD hC (j42 (B5 (G4 x [m,0,0,0]) n) (G4 (B5 (F6 x [m,0,0,0]) n) [m,0,0,0]) hA hC4) O O O O O O (FrsR.two (n1 _) (.bool _)) O,aU<|zY O O O,aU<|zX O O O O,aU<|zX O O O O,Zt⟩ O O (Q7 O O (d5 O O O O O (P8 O O O (tV (V4 7 8 20 21) [(20,.var _),(18,.var _),(17,.var _),(15,.var _),(13,.var _),(11,.var _),(10,.var _),(9,.var _),(8,.var _),(7,.var _),(4,.var _)] 67 O O O ?_))));refine W.seq (W.seq ?_);by_cases hov:q38 (B5 (G4 x [m,0,0,0]) n) (G4 (B5 (F6 x [m,0,0,0]) n) [m,0,0,0])=true
  ·refine z8 6 [.y 59 _,.y 60 _,.x 61,.x 62,.x 63,.y 64 _] (V4 7 8 20 64) ⟨mU 21 O O,mU 59 O O,aF O O (gT (hov) O),aF O O (gT (hov) O),aF O O (gT (hov) O),aU<|I4 O (hov) (kB true O) O O,Zt⟩ ?_;refine u7 O (O) ?_;refine z5 2 (y1 65) [] [] (V2 8 65) ⟨aU (lU 7 O O O O O O O),Zt⟩ O O (d5 O O O O O (tV (V1 8) [(20,.var _),(18,.var _),(17,.var _),(15,.var _),(13,.var _),(11,.var _),(10,.var _),(9,.var _),(8,.var _),(7,.var _),(4,.var _)] 67 O O O ?_));refine W.ret ?_;exact q8 (.inr O) O (by rw[j65 (bne_eq_false_iff_eq.1 hc38) (.inl hov)]) O O (iL 217 4)
  ·refine z8 6 (y6 59 60 61 62 63 64) (V4 7 8 20 64) ⟨mU 21 O O,mU 59 O O,aW O O (gF (bfalse hov) O) (lU 7 O O O O O O O),aW O O (gF (bfalse hov) O) (lU 20 O O O O O O O),aW O O (gF (bfalse hov) O)<|zD hC (DE most (BJ (B5 (G4 x [m,0,0,0]) n) (G4 (B5 (F6 x [m,0,0,0]) n) [m,0,0,0])) hm (FD _ _)) O O O O O O (F1 (.bool _)) O,aU<|zF O (bfalse hov) O O O,Zt⟩ ?_;refine W.cond O (fun hc64=>?_) (fun hc64=>?_)
   ·refine z5 2 (y1 65) [] [] (V2 8 65) ⟨aU (lU 7 O O O O O O O),Zt⟩ O O (d5 O O O O O (tV (V1 8) [(20,.var _),(18,.var _),(17,.var _),(15,.var _),(13,.var _),(11,.var _),(10,.var _),(9,.var _),(8,.var _),(7,.var _),(4,.var _)] 67 O O O ?_));refine W.ret ?_;exact q8 (.inr O) O (by rw[j65 (bne_eq_false_iff_eq.1 hc38) (.inr hc64)]) O O (iL 217 4)
   ·refine W.skip (z5 2 (y1 66) [] [] (V2 8 66) ⟨aU (lU 20 O O O O O O O),Zt⟩ O O (d5 O O O O O (tV (V1 8) [(20,.var _),(18,.var _),(17,.var _),(15,.var _),(13,.var _),(11,.var _),(10,.var _),(9,.var _),(8,.var _),(7,.var _),(4,.var _)] 67 O O O ?_)));refine W.ret ?_;exact q8 (.inr O) O (by rw[w18 (bne_eq_false_iff_eq.1 hc38) hov (by simpa using hc64)]) O O (iL 217 4)
end Go.Sx

namespace Go.Sx
open Go.Proofs
theorem k93:(JO lim).isSome=true:=by decide +kernel
theorem k12:ZZ (CT lim)=lim:=by decide +kernel
theorem z22:Fn Tryz.prog gl 128 [.u32 545259519] (.tup [Z9 (CT lim),.bool true]):=by
 have h:=FT lim;rw[k93] at h;exact h
theorem q26:Fn Tryz.prog gl 151 [Z9 (CT lim)] (.u32 545259519):=by
 have h:=HK (CT lim) (XJ _);rw[k12] at h;exact h
end Go.Sx

namespace Go.Sx
open Go.Proofs
theorem z52:Fn Tryz.prog gl 149 [.agg [.u32 545259519,.int 10,.u32 10,.nils,m7 B4]] (.bool true):=by
 refine Fn.of (n:=94) Tryz.func149 rfl rfl rfl (nU rfl) fun C hC hD=>?_;refine z5 2 [] [] [] (V1 0) Zt O O (⟨O,_,R.box (gV 0 O) O O (nU O),⟨O,_,j4 (kB false O) O (nU O),tV (V1 1) (p6 1) 94 O O O ?_⟩⟩);refine z5 9 (y6 8 9 10 7 11 12) [] [] (V3 1 11 12) ⟨aU (fU 1 O O),aU (lU 8 O O O O O O O),aU<|zC hC (z22) O O O (FrsR.two (n1 _) (.bool _)) O,aU<|zY O O O,aU<|zX O O O O,aU<|zX O O O O,Zt⟩ O O (Q7 O O (d5 O O O O O (P8 O O O (tV (V3 1 3 4) (p7 3 1) 94 O O O ?_))));refine W.seq (W.seq ?_);refine W.dr (m:=37) (an:=(0::1::3::7::15::7::39::127::255::511::1023::2047::4095::8191::16383::32767::65535::131071::262143::524287::1048575::2097151::4194303::8388607::16777215::33554431::67108863::134217727::268435455::536870911::1073741823::2147483647::4294967295::1073741823::9663676415::34359738367::68719476735::[])) hP dU O (its:=(.y 13 _::.y 14 _::.y 15 _::.y 16 _::.y 17 _::.y 18 _::.y 19 _::.y 20 _::.y 21 _::.y 22 _::.y 23 _::.y 24 _::.y 25 _::.y 26 _::.y 27 _::.y 28 _::.y 29 _::.y 30 _::.y 31 _::.y 32 _::.y 33 _::.y 34 _::.y 35 _::.y 36 _::.y 37 _::.y 38 _::.y 39 _::.y 40 _::.y 41 _::.y 42 _::.y 43 _::.y 44 _::.y 45 _::.y 46 _::.y 47 _::.y 48 _::.y 49 _::[])) (ks:=[]) (kk:=[]) (env':=(V2 1 49)) (⟨nU O,O,⟨mU 4 O O,aU<|UQ O O O,mU 14 O O,aW O O (gF (O) O) (lU 3 O O O O O O O),aW O O (gF (O) O)<|zC hC (q26) O O O (F1 (.u32 _)) O,aW O O (gF (O) O) (fU 1 O O),aW O O (gF (O) O) (lU 18 O O O O O O O),aW O O (gF (O) O)<|zB O O O O,aU<|zF O (O) O O O,mU 21 O O,aW O O (gF dU O) (fU 1 O O),aW O O (gF dU O) (lU 23 O O O O O O O),aW O O (gF dU O)<|KO 2 O O O,aU<|zF O dU O O O,mU 26 O O,aW O O (gF dU O) (fU 1 O O),aW O O (gF dU O) (lU 28 O O O O O O O),aW O O (gF dU O)<|l5 2016 O O O,aU<|zF O dU O O O,mU 31 O O,aW O O (gF dU O) (fU 1 O O),aW O O (gF dU O) (lU 33 O O O O O O O),aW O O (gF dU O)<|B6 O (kW (.int .u32 1) (.u32 1) O) O O,aU<|zF O dU O O O,mU 36 O O,aW O O (gF dU O) (fU 1 O O),aW O O (gF dU O) (lU 38 O O O O O O O),aW O O (gF dU O)<|B6 O (kW (.int .u32 3600) (.u32 3600) O) O O,aU<|zF O dU O O O,mU 41 O O,aW O O (gF dU O) (fU 1 O O),aW O O (gF dU O) (fU 43 O O),aW O O (gF dU O) (lU 44 O O O O O O O),aW O O (gF dU O) (fU 1 O O),aW O O (gF dU O) (lU 46 O O O O O O O),aW O O (gF dU O)<|zB O O O O,aU<|zF O dU O O O,Zt⟩,O,O,O⟩) O (bx':=(p7 3 1)) O (n':=94) O (tV (V2 1 49) (p7 3 1) 94 O O O ?_);refine v4 O dU ?_;refine W.skip (W.seq (q9 1 (y1 5) (V2 1 5) ⟨aU<|zK (kI 0 O) O O,Zt⟩ ?_));refine W.block ?_;refine VH ?_;refine WU.step ?_;show W _ _ _ _ _;refine C6 (V2 1 5) (p7 3 1) 94 O O O ?_;refine b7 [1] (bx':=(p6 1)) O O O (g7 hD O) ?_;refine W.seq (q9 5 (y5 50 51 52 53 54) (V3 1 5 54) ⟨mU 5 O O,aU (fU 1 O O),aU (lU 51 O O O O O O O),aU fun _ _ H K=>R6 (n:=0) (SC.nil (z:=1) (K 52 _ O)) (O) H,aU<|zS O O O,Zt⟩ ?_);refine v4 O dU ?_;refine W.exit (q9 1 (y1 2) (V1 2) ⟨aU<|zK (kB true O) O O,Zt⟩ ?_);refine W.ret ?_;exact q8 (.inr O) O (O) O O Zt
theorem q36(l:List HdS)(hl0:l.length<=1000):Fn Tryz.prog gl 127 [.agg [.u32 545259519,.int 10,.u32 10,.nils,m7 B4],.sl none 68 (l.map m7)] (.u32 (K5 l)):=by
 refine Fn.of (n:=86) Tryz.func127 rfl rfl rfl (nU rfl) fun C hC hD=>?_;refine z5 2 [] [] [] (V2 0 1) Zt O O (⟨O,_,R.box (gV 0 O) O O (nU O),⟨O,_,j4 (kW (.int .u32 0) (.u32 0) O) O (nU O),tV (V2 1 2) (p6 2) 86 O O O ?_⟩⟩);refine q9 3 (y3 14 15 5) (V3 1 2 5) ⟨mU 1 O O,aU<|zN O (lN _) O,aU<|zA O O O,Zt⟩ ?_;refine W.seq (W.seq ?_);by_cases hn:l.length=0
 ·refine z8 7 [.y 16 _,.y 17 _,.y 18 _,.x 19,.x 20,.x 21,.y 22 _] (V4 1 2 5 22) ⟨mU 5 O O,aU<|KD 0 O O O,mU 17 O O,aF O O (gT (dT hn) O),aF O O (gT (dT hn) O),aF O O (gT (dT hn) O),aU<|I4 O (dT hn) (kB true O) O O,Zt⟩ ?_;refine u7 O (O) ?_;refine q9 1 (y1 4) (V1 4) ⟨aU<|zK (kW (.int .u32 0) (.u32 0) O) O O,Zt⟩ ?_;refine W.ret ?_;exact q8 (.inr O) O (by rw[j40 hn]) O O Zt
 ·refine z8 7 (y7 16 17 18 19 20 21 22) (V4 1 2 5 22) ⟨mU 5 O O,aU<|KD 0 O O O,mU 17 O O,aW O O (gF (dF hn) O) (lU 2 O O O O O O O),aW O O (gF (dF hn) O)<|zC hC (z52) O O O (F1 (.bool _)) O,aW O O (gF (dF hn) O)<|UQ O O O,aU<|zF O (dF hn) O O O,Zt⟩ ?_;refine v4 O (O) ?_;refine W.skip (z5 7 (y5 23 24 25 26 27) [] [] (V4 1 2 5 27) ⟨mU 1 O O,mU 5 O O,aU<|OD 1 O O bU bU O,aU<|zI ((l.length-1)) O O O bU O,aU<|zL O O (mG l) O O O O O,Zt⟩ O O (Q7 O O (d5 O O O O O (tV (V4 1 2 5 6) (p7 6 2) 86 O O O ?_))));refine W.seq (q9 5 (y5 28 29 30 31 32) (V5 1 2 5 6 32) ⟨mU 5 O O,aU (fU 2 O O),aU (lU 29 O O O O O O O),aU fun _ _ H K=>E3 (l.length) (10) (eU K 28 O) (eU K 30 O) bU H,aU<|q47 0 O O O,Zt⟩ ?_);refine z6 O (fun hc32=>?_) (fun hc32=>?_)
  ·refine q9 3 (y3 33 34 4) (V1 4) ⟨aU (fU 6 O O),aU (lU 33 O O O O O O O),aU<|zA O O O,Zt⟩ ?_;refine W.ret ?_;exact q8 (.inr O) O (by rw[j39 hn hc32]) O O Zt
  ·refine W.skip (W.seq ?_);refine KG 7 [.y 35 _,.y 36 _,.y 37 _,.y 38 _,.y 39 _,.y 40 _,.y 7 _] [] [] [(1,_),(2,_),(5,_),(6,_),(7,_)] [(6,.var _),(2,.var _)] 86 ⟨aU (fU 2 O O),aU (lU 35 O O O O O O O),aU (fU 2 O O),aU (lU 37 O O O O O O O),aU fun _ _ H K=>R.conv (eU K 38 O) O H,aU fun _ _ H K=>RH (10) (10) (eU K 36 O) (eU K 39 O) bU H,aU fun _ _ H K=>j4 (eU K 40 O) O H,Zt⟩ O O O O (tU O ?_);refine W.seq ?_;have ht1:=l[l.length-1]!.time.toNat_lt;have ht2:=l[l.length-10]!.time.toNat_lt;refine W.dr (m:=14) (an:=[0,1,3,0,0,0,32,112,248,504,1016,2040,4095,8191]) hP dU O (its:=[.y 41 _,.y 42 _,.y 43 _,.y 44 _,.y 45 _,.y 46 _,.y 47 _,.y 48 _,.y 49 _,.y 50 _,.y 51 _,.y 52 _,.y 53 _,.y 8 _]) (ks:=[]) (kk:=[]) (env':=(V4 2 6 7 8)) (⟨nU O,O,⟨aU (fU 6 O O),aU (lU 41 O O O O O O O),aU<|zW O O O,mU 1 O O,mU 5 O O,aU (fU 2 O O),aU (lU 46 O O O O O O O),aU<|zQ O O bU bU O,aU<|zI ((l.length-10)) O O O bU O,aU<|P9 O O,aU<|zL O O (mG l) O O O O O,aU<|zW O O O,aU fun _ _ H K=>c8 (d:=.int (((l[l.length-1]!.time.toNat:Nat):Int)-((l[l.length-10]!.time.toNat:Nat):Int))) (eU K 43 O) (eU K 52 O) O Zt (C9 bO bO bO) H,aU<|zA O O O,Zt⟩,O,O,O⟩) O (bx':=(p7 6 2)) O (n':=86) O (tV (V4 2 6 7 8) (p7 6 2) 86 O O O ?_);refine W.seq ?_;refine KG 8 [.y 54 _,.y 55 _,.y 56 _,.y 57 _,.y 58 _,.y 59 _,.y 60 _,.y 8 _] [] [] [(2,_),(6,_),(7,_),(8,_)] [(6,.var _),(2,.var _)] 86 ⟨mU 8 O O,mU 7 O O,aU fun _ _ H K=>C7 (100) (4) (eU K 55 O) (kI 4 O) bU bU H,aU fun _ _ H K=>R.maxI (r:=(max (((l[l.length-1]!.time.toNat:Nat):Int)-((l[l.length-10]!.time.toNat:Nat):Int)) 25)) (eU K 54 O) (eU K 56 O) (O) H,mU 7 O O,aU fun _ _ H K=>RH (4) (100) (kI 4 O) (eU K 58 O) bU H,aU fun _ _ H K=>R.minI (r:=(q76 l)) (eU K 57 O) (eU K 59 O) (O) H,aU fun _ _ H K=>j4 (eU K 60 O) O H,Zt⟩ O O O O (tU O ?_);refine z5 9 (y6 62 63 64 61 65 66) [] [] (V5 6 7 8 65 66) ⟨aU (fU 2 O O),aU (lU 62 O O O O O O O),aU<|zC hC (z22) O O O (FrsR.two (n1 _) (.bool _)) O,aU<|zY O O O,aU<|zX O O O O,aU<|zX O O O O,Zt⟩ O O (Q7 O O (d5 O O O O O (P8 O O O (tV (V4 6 7 8 9) (d7 9 6 2) 86 O O O ?_))));refine z5 9 (y6 68 69 70 67 71 72) [] [] (V5 7 8 9 71 72) ⟨aU (fU 6 O O),aU (lU 68 O O O O O O O),aU<|zC hC (FT l[l.length-1]!.bits) O O O (FrsR.two (n1 _) (.bool _)) O,aU<|zY O O O,aU<|zX O O O O,aU<|zX O O O O,Zt⟩ O O (Q7 O O (d5 O O O O O (P8 O O O (tV (V4 7 8 9 11) (T6 11 9 6 2) 86 O O O ?_))));refine z5 9 (y7 73 74 75 76 77 78 79) [] [] (V1 79) ⟨aU (lU 11 O O O O O O O),mU 8 O O,aU<|zW O O O,mU 7 O O,aU fun _ _ H K=>Q5 (d:=.u64 100) (eU K 76 O) O (O) H,aU (lU 9 O O O O O O O),aU fun _ _ H K=>w6 hC (k85 (CT l[l.length-1]!.bits) (UInt64.ofInt (q76 l)) 100 (CT lim) (XJ _) (XJ _)) (Bc (Bp (eU K 73 O) O O) (Bc (Bp (eU K 75 O) O O) (Bc (Bp (eU K 77 O) O O) (Bc (Bp (eU K 78 O) O O) Bn)))) (F1 (n1 _)) H,Zt⟩ O O (Q7 O O (d5 O O O O O (tV (V1 13) (CU 13 11 9 6 2) 86 O O O ?_)));refine W.seq (W.seq ?_);by_cases hz:HV l=w9
   ·refine z8 3 (y3 80 81 82) (V2 13 82) ⟨aU (lU 13 O O O O O O O),aU fun _ _ H _=>R.bldAZ O H,aU fun _ _ H K=>R.eqD (neg:=false) (b':=((HV l)==w9)) (O0 _ _) O (eU K 80 O) (eU K 81 O) O O O O (O) H,Zt⟩ ?_;refine u7 O (beq_iff_eq.2 hz) ?_;refine u4 2 (y1 83) [] [] (V2 13 83) ⟨aU fun _ _ H _=>R.bldAP (z:=1) (l2:=([1,0,0,0].map D.u64)) (.cons (kW (.int .u64 1) (.u64 1) O) (.nil O)) ⟨⟨_,(kW (.int .u64 1) (.u64 1) O),O,O,O,O⟩,Zt⟩ (O) H,Zt⟩ O O (d5 O O O O O (tV (V1 13) (CU 13 11 9 6 2) 86 O O O ?_));refine q9 3 (y3 84 85 4) (V1 4) ⟨aU (lU 13 O O O O O O O),aU<|zC hC (HK [1,0,0,0] O) O O O (F1 (.u32 _)) O,aU<|zA O O O,Zt⟩ ?_;refine W.ret ?_;exact q8 (.inr O) O (by rw[j38 hn hc32 hz]) O O Zt
   ·refine z8 3 (y3 80 81 82) (V2 13 82) ⟨aU (lU 13 O O O O O O O),aU fun _ _ H _=>R.bldAZ O H,aU fun _ _ H K=>R.eqD (neg:=false) (b':=((HV l)==w9)) (O0 _ _) O (eU K 80 O) (eU K 81 O) O O O O (O) H,Zt⟩ ?_;refine v4 O (beq_eq_false_iff_ne.2 hz) ?_;refine W.skip (q9 3 (y3 84 85 4) (V1 4) ⟨aU (lU 13 O O O O O O O),aU<|zC hC (HK (HV l) (z31 l)) O O O (F1 (.u32 _)) O,aU<|zA O O O,Zt⟩ ?_);refine W.ret ?_;exact q8 (.inr O) O (by rw[j37 hn hc32 hz]) O O Zt
theorem j23:Fn Tryz.prog gl 13 [.int ((10:Nat):Int),.u32 10] (.agg [.u32 545259519,.int 10,.u32 10,.nils,m7 B4]):=by
 refine Fn.of (n:=9) Tryz.func13 rfl rfl rfl (nU rfl) fun C hC hD=>?_;refine z5 1 [] [] [] (V2 0 1) Zt O O (Q7 O O (tV (V3 0 1 4) (p6 4) 9 O O O ?_));refine z5 5 (y4 5 6 7 8) [] [] (V2 4 8) ⟨mU 0 O O,mU 1 O O,aU fun _ _ H _=>c9 (l:=[.u32 0,.arr 32 1 ((List.replicate 32 0).map D.u8),.arr 32 1 ((List.replicate 32 0).map D.u8),.u32 0,.u32 0,.u32 0]) (l':=[_,_,_,_,_,_]) (.cons (kW (.int .u32 1) (.u32 1) O) (.cons (kW (.int .u32 1000) (.u32 1000) O) (.cons (kW (.int .u32 545259519) (.u32 545259519) O) (.nil O)))) ⟨⟨_,(kW (.int .u32 1) (.u32 1) O),O,O,O⟩,⟨⟨_,(kW (.int .u32 1000) (.u32 1000) O),O,O,O⟩,⟨⟨_,(kW (.int .u32 545259519) (.u32 545259519) O),O,O,O⟩,Zt⟩⟩⟩ H,aU fun _ _ H K=>c9 (l:=[.u32 0,.int 0,.u32 0,.nils,.agg [.u32 0,.arr 32 1 ((List.replicate 32 0).map D.u8),.arr 32 1 ((List.replicate 32 0).map D.u8),.u32 0,.u32 0,.u32 0]]) (l':=[_,_,_,_,_]) (.cons (kW (.int .u32 545259519) (.u32 545259519) O) (.cons (eU K 5 O) (.cons (eU K 6 O) (.cons (eU K 7 O) (.nil O))))) ⟨⟨_,(kW (.int .u32 545259519) (.u32 545259519) O),O,O,O⟩,⟨⟨_,(eU K 5 O),O,O,O⟩,⟨⟨_,(eU K 6 O),O,O,O⟩,⟨⟨_,(eU K 7 O),O,O,O⟩,Zt⟩⟩⟩⟩ H,Zt⟩ O O (d5 O O O O O (tV (V1 4) (p6 4) 9 O O O ?_));refine W.ret ?_;exact q8 (.inr O) O (O) O O (iL 46 72)
end Go.Sx

namespace Go.Sx
theorem w24{l:List HdS}(h:l.length=0):IT l=0:=by unfold IT;exact if_pos h
theorem w23{l:List HdS}(h:¬ l.length=0):IT l=(YE l (min l.length 11))[min l.length 11/2]!:=by unfold IT;exact if_neg h
theorem q61(n:Nat):UInt32.ofNat n+1=UInt32.ofNat (n+1):=by
 apply UInt32.toNat_inj.1;rw[UInt32.toNat_add,UInt32.toNat_ofNat',UInt32.toNat_ofNat'];show(n%4294967296+1)%4294967296=_;omega
theorem MU{n:Nat}(h:n<=200):(UInt32.ofNat n<200)↔n<200:=by
 rw[UInt32.lt_iff_toNat_lt,UInt32.toNat_ofNat'];have e:(200:UInt32).toNat=200:=rfl;rw[e];omega
structure MI(l:List HdS)(time:UInt32)(root:Hs)(h:HdS)(n:Nat):Prop where
 wf:h.wf
 le:n<=200
 is:(JO (K5 l)).isSome=true->KC h (CT (K5 l)) (200-n)=QX l time root
 no:(JO (K5 l)).isSome=false->QX l time root=(h,false)
theorem j56{l:List HdS}{time:UInt32}{root:Hs}(hr:root.length=32):MI l time root (XH l time root) 0 where
 wf:=DC l time root hr
 le:=Nat.zero_le _
 is:=fun h=>by
  cases hs:JO (K5 l) with
  | none=>rw[hs] at h;cases h
  | some t=>rw[DZ hs,MS hs]
 no:=fun h=>by
  cases hs:JO (K5 l) with
  | none=>exact DK hs
  | some t=>rw[hs] at h;cases h
theorem DJ{h:HdS}{t:Bg}{n:Nat}(hn:n<200):KC h t (200-n)=if XX (XG { h with nonce:=UInt32.ofNat n }) t=true then({ h with nonce:=UInt32.ofNat n },true) else KC { h with nonce:=UInt32.ofNat n } t (200-(n+1)):=by
 obtain⟨k,hk⟩:∃ k,200-n=k+1:=⟨199-n,by omega⟩
 rw[hk,KC,show 199-k=n by omega,show 200-(n+1)=k by omega]
theorem MI.found{l:List HdS}{time:UInt32}{root:Hs}{h:HdS}{n:Nat}(hi:MI l time root h n)(hs:(JO (K5 l)).isSome=true)(hn:n<200)(hm:XX (XG { h with nonce:=UInt32.ofNat n }) (CT (K5 l))=true) :
 QX l time root=({ h with nonce:=UInt32.ofNat n },true):=by rw[<- hi.is hs,DJ hn,if_pos hm]
theorem MI.next{l:List HdS}{time:UInt32}{root:Hs}{h:HdS}{n:Nat}(hi:MI l time root h n)(hs:(JO (K5 l)).isSome=true)(hn:n<200)(hm:¬ XX (XG { h with nonce:=UInt32.ofNat n }) (CT (K5 l))=true) :
 MI l time root { h with nonce:=UInt32.ofNat n } (n+1) where
 wf:=x92 hi.wf.1 hi.wf.2
 le:=by omega
 is:=fun _=>by rw[<- hi.is hs,DJ hn,if_neg hm]
 no:=fun h=>by rw[h] at hs;cases hs
theorem MI.last{l:List HdS}{time:UInt32}{root:Hs}{h:HdS}{n:Nat}(hi:MI l time root h n)(hs:(JO (K5 l)).isSome=true)(hn:¬ n<200):QX l time root=(h,false):=by
 rw[<- hi.is hs,show 200-n=0 by omega,KC]
end Go.Sx

namespace Go.Sx
open Go.Proofs
theorem z45(l:List HdS)(hl0:l.length<=1000):Fn Tryz.prog gl 75 [.sl none 68 (l.map m7)] (.u32 (IT l)):=by
 refine Fn.of (n:=68) Tryz.func75 rfl rfl rfl (nU rfl) fun C hC hD=>?_;refine q9 1 (y1 2) (V1 0) ⟨aU<|zK (kW (.int .u32 0) (.u32 0) O) O O,Zt⟩ ?_;refine q9 1 (y1 3) (V2 0 3) ⟨aU<|zK (kN O) O O,Zt⟩ ?_;refine W.seq (q9 5 (y5 6 7 8 9 4) (V3 0 3 4) ⟨mU 0 O O,aU<|zN O (lN _) O,aU fun _ _ H K=>c8 (d:=.int (((l.length:Nat):Int)-11)) (eU K 7 O) (kI 11 O) O Zt (C9 bO bO bO) H,aU fun _ _ H K=>R.maxI (r:=(((l.length-11):Nat):Int)) (eU K 8 O) (kI 0 O) bO H,aU<|zA O O O,Zt⟩ ?_);refine W.block ?_;refine X5 (s:=3) 27 1 O ?_;refine W.loop (α:={q__:Nat//q__<=min l.length 11}) (fun q__=>⟨68,[(0,.sl none 68 (l.map m7)),(3,.sl (some 27) 1 ((YE l q__.1).map D.u32)),(4,.int (((l.length-11+q__.1):Nat):Int))],[]⟩) (fun q__=>min l.length 11-q__.1) ⟨(0),bU⟩ O ?_;rintro ⟨j,hj⟩;show W _ _ _ _ ⟨68,[(0,.sl none 68 (l.map m7)),(3,.sl (some 27) 1 ((YE l j).map D.u32)),(4,.int (((l.length-11+j):Nat):Int))],[]⟩;have hj:j<=min l.length 11:=hj;have hml:=z44 l j;refine W.seq (q9 4 (y4 10 11 12 13) (V4 0 3 4 13) ⟨mU 4 O O,mU 0 O O,aU<|zN O (lN _) O,aU<|zS O O O,Zt⟩ ?_);refine z6 O (fun hc13=>?_) (fun hc13=>?_)
 ·refine W.skip (W.seq (W.block (q9 3 (y3 16 17 5) (V4 0 3 4 5) ⟨aU<|zM O O,aU<|x83 (n:=j) O O ((lN _).trans hml) O,aU<|zA O O O,Zt⟩ ?_)));refine z5 9 (y9 18 19 20 21 22 23 24 25 3) [(7,3),(8,25),(8,18)] [(7,3),(8,25)] (V4 0 3 4 5) ⟨aU<|zM O O,mU 0 O O,mU 4 O O,aU<|zI ((l.length-11+j)) O O O bU O,aU<|P9 O O,aU<|zL O O (mG l) O O O O O,aU fun _ _ H K=>w8 (z:=1) (.cons (eU K 23 O) .nil) ⟨⟨O,O,O⟩,Zt⟩ O H dU,aU<|QH O O O (g6 O) (show _=((YE l j++[l[l.length-11+j]!.time]).map D.u32) from(by rw[List.map_append];rfl)) bU O,aU<|zO O O O,Zt⟩ O O (tU O ?_);refine W.seq (W.block ?_);refine W.loop (α:={q__:List UInt32×Nat//(q__.2<=j/\q__.1.length=j+1)/\shf l[l.length-11+j]!.time q__.1 q__.2=q09 (YE l j) l[l.length-11+j]!.time}) (fun q__=>⟨68,[(0,.sl none 68 (l.map m7)),(3,.sl (some 27) 1 (q__.1.1.map D.u32)),(4,.int (((l.length-11+j):Nat):Int)),(5,.int ((q__.1.2:Nat):Int))],[]⟩) (fun q__=>q__.1.2) ⟨(YE l j++[l[l.length-11+j]!.time],j),⟨⟨Nat.le_refl _,by rw[List.length_append,hml];rfl⟩,by rw[q09,hml]⟩⟩ O ?_;rintro ⟨⟨ts,k⟩,⟨⟨hk,htl⟩,hsh⟩⟩;show W _ _ _ _ ⟨68,[(0,.sl none 68 (l.map m7)),(3,.sl (some 27) 1 (ts.map D.u32)),(4,.int (((l.length-11+j):Nat):Int)),(5,.int ((k:Nat):Int))],[]⟩;have hk:k<=j:=hk;have htl:ts.length=j+1:=htl;have hsh:shf l[l.length-11+j]!.time ts k=q09 (YE l j) l[l.length-11+j]!.time:=hsh;refine W.seq (W.seq ?_);by_cases hk0:0<k
  ·refine W.dr (m:=15) (an:=[0,1,3,7,7,23,63,127,7,7,775,1799,3847,8191,16383]) hP dU O (its:=[.y 26 _,.y 27 _,.y 28 _,.y 29 _,.y 30 _,.y 31 _,.y 32 _,.y 33 _,.y 34 _,.y 35 _,.y 36 _,.y 37 _,.y 38 _,.y 39 _,.y 40 _]) (ks:=[]) (kk:=[]) (env':=(V5 0 3 4 5 40)) (⟨nU O,O,⟨mU 5 O O,aU<|l5 0 O O O,mU 27 O O,aW O O (gT (dT hk0) O)<|zM O O,aW O O (gT (dT hk0) O)<|zV O O O,aW O O (gT (dT hk0) O)<|OD 1 O O bU bU O,aW O O (gT (dT hk0) O)<|CD ((k-1)) O O O O bU O,aW O O (gT (dT hk0) O)<|KH O O O (mG ts) O O O O O,aW O O (gT (dT hk0) O)<|zV O O O,aW O O (gT (dT hk0) O)<|zV O O O,aW O O (gT (dT hk0) O)<|zI ((l.length-11+j)) O O O bU O,aW O O (gT (dT hk0) O)<|P9 O O,aW O O (gT (dT hk0) O)<|zL O O (mG l) O O O O O,aW O O (gT (dT hk0) O)<|zB O O O O,aU<|zT O (dT hk0) O O O,Zt⟩,O,O,O⟩) O (bx':=[]) O (n':=68) O (tV (V5 0 3 4 5 40) [] 68 O O O ?_);refine W.cond O (fun hc40=>?_) (fun hc40=>?_)
   ·refine W.skip (W.block (z5 9 (y8 41 42 43 44 45 46 47 48) [] [] (V7 0 3 4 5 41 47 48) ⟨aU<|zM O O,mU 5 O O,aU<|zM O O,mU 5 O O,aU<|OD 1 O O bU bU O,aU<|CD ((k-1)) O O O O bU O,aU<|KH O O O (mG ts) O O O O O,aU<|CD k O O O O bU O,Zt⟩ O O (⟨O,_,JB (gU 48 O) (Or.inr (gU 41 O)) (gU 3 O) (mG ts) O (gV 47 O) (by rfl) (by rfl) (by rfl) (by rfl) X2 X3,tV (V4 0 3 4 5) [] 68 O O O ?_⟩)));refine z8 3 (y3 49 50 5) (V4 0 3 4 5) ⟨mU 5 O O,aU<|OD 1 O O bU bU O,aU<|zA O O O,Zt⟩ ?_;exact⟨⟨(ts.set k ts[k-1]!,k-1),⟨⟨by show k-1<=j;omega,List.length_set.trans htl⟩,(w09 hk0 (of_decide_eq_true hc40)).symm.trans hsh⟩⟩,rfl,(by show k-1<k;omega)⟩
   ·refine W.exit ?_;refine u4 9 (y8 51 52 53 54 55 56 57 58) [] [] (V6 0 3 4 51 57 58) ⟨aU<|zM O O,mU 5 O O,mU 0 O O,mU 4 O O,aU<|zI ((l.length-11+j)) O O O bU O,aU<|P9 O O,aU<|zL O O (mG l) O O O O O,aU<|CD k O O O O bU O,Zt⟩ O O (⟨O,_,JB (gU 58 O) (Or.inr (gU 51 O)) (gU 3 O) (mG ts) O (gV 57 O) (by rfl) (by rfl) (by rfl) (by rfl) X2 X3,tV (V3 0 3 4) [] 68 O O O ?_⟩);refine z8 3 (y3 14 15 4) (V3 0 3 4) ⟨mU 4 O O,aU<|Q6 1 O O bU O,aU<|zA O O O,Zt⟩ ?_;exact⟨⟨(j+1),bU⟩,(by first|(rw[<- SX (x:=l[l.length-11+j]!.time) (ts:=ts) (k:=k) (fun _=>of_decide_eq_false hc40),hsh]<;>rfl)|(rw[<- SX (x:=l[l.length-11+j]!.time) (ts:=ts) (k:=k) (fun h=>absurd h hk0),hsh]<;>rfl)),(by simp only[];omega)⟩
  ·refine W.dr (m:=15) (an:=[0,1,3,7,7,23,63,127,7,7,775,1799,3847,8191,16383]) hP dU O (its:=[.y 26 _,.y 27 _,.y 28 _,.x 29,.x 30,.x 31,.x 32,.x 33,.x 34,.x 35,.x 36,.x 37,.x 38,.x 39,.y 40 _]) (ks:=[]) (kk:=[]) (env':=(V5 0 3 4 5 40)) (⟨nU O,O,⟨mU 5 O O,aU<|l5 0 O O O,mU 27 O O,aF O O (gF (dF hk0) O),aF O O (gF (dF hk0) O),aF O O (gF (dF hk0) O),aF O O (gF (dF hk0) O),aF O O (gF (dF hk0) O),aF O O (gF (dF hk0) O),aF O O (gF (dF hk0) O),aF O O (gF (dF hk0) O),aF O O (gF (dF hk0) O),aF O O (gF (dF hk0) O),aF O O (gF (dF hk0) O),aU<|YL O (dF hk0) (kB false O) O O,Zt⟩,O,O,O⟩) O (bx':=[]) O (n':=68) O (tV (V5 0 3 4 5 40) [] 68 O O O ?_);refine v4 O (O) ?_;refine W.exit ?_;refine u4 9 (y8 51 52 53 54 55 56 57 58) [] [] (V6 0 3 4 51 57 58) ⟨aU<|zM O O,mU 5 O O,mU 0 O O,mU 4 O O,aU<|zI ((l.length-11+j)) O O O bU O,aU<|P9 O O,aU<|zL O O (mG l) O O O O O,aU<|CD k O O O O bU O,Zt⟩ O O (⟨O,_,JB (gU 58 O) (Or.inr (gU 51 O)) (gU 3 O) (mG ts) O (gV 57 O) (by rfl) (by rfl) (by rfl) (by rfl) X2 X3,tV (V3 0 3 4) [] 68 O O O ?_⟩);refine z8 3 (y3 14 15 4) (V3 0 3 4) ⟨mU 4 O O,aU<|Q6 1 O O bU O,aU<|zA O O O,Zt⟩ ?_;exact⟨⟨(j+1),bU⟩,(by first|(rw[<- SX (x:=l[l.length-11+j]!.time) (ts:=ts) (k:=k) (fun _=>of_decide_eq_false hc40),hsh]<;>rfl)|(rw[<- SX (x:=l[l.length-11+j]!.time) (ts:=ts) (k:=k) (fun h=>absurd h hk0),hsh]<;>rfl)),(by simp only[];omega)⟩
 ·obtain rfl:j=min l.length 11:=by omega
  refine W.exit (W.seq (q9 3 (y3 59 60 61) (V2 3 61) ⟨aU<|zM O O,aU<|x83 (n:=(min l.length 11)) O O ((lN _).trans hml) O,aU<|KD 0 O O O,Zt⟩ ?_));refine z6 O (fun hc61=>?_) (fun hc61=>?_)
  ·refine q9 1 (y1 2) (V1 2) ⟨aU<|zK (kW (.int .u32 0) (.u32 0) O) O O,Zt⟩ ?_;refine W.ret ?_;exact q8 (.inr O) O (by rw[w24 bO]) O O Zt
  ·refine W.skip (q9 7 (y7 62 63 64 65 66 67 2) (V1 2) ⟨aU<|zM O O,aU<|zM O O,aU<|x83 (n:=(min l.length 11)) O O ((lN _).trans hml) O,aU fun _ _ H K=>C7 ((min l.length 11)) (2) (eU K 64 O) (kI 2 O) bU bU H,aU<|CD (((min l.length 11)/2)) O O O O bU O,aU<|KH O O O (mG (YE l (min l.length 11))) O O O O O,aU<|zA O O O,Zt⟩ ?_);refine W.ret ?_;exact q8 (.inr O) O (by rw[w23 bO]) O O Zt
end Go.Sx

namespace Go.Sx
open Go.Proofs
theorem k96(l:List HdS)(time:UInt32)(root:Hs)(hw:allW l)(hl1:1<=l.length)(hl0:l.length<=1000)(hr:root.length=32):Fn Tryz.prog gl 74 [.agg [.u32 545259519,.int 10,.u32 10,.nils,m7 B4],.sl none 68 (l.map m7),.u32 time,z7 root,.u32 200] (.tup [m7 (QX l time root).1,.bool (QX l time root).2]):=by
 refine Fn.of (n:=56) Tryz.func74 rfl rfl rfl (nU rfl) fun C hC hD=>?_;refine z5 4 [] [] [] (V5 0 1 2 3 4) Zt O O (⟨O,_,R.box (gV 0 O) O O (nU O),⟨O,_,R.box (gV 3 O) O O (nU O),(Q7 O O ⟨O,_,j4 (kB false O) O (nU O),tV (V6 1 2 4 5 8 10) (d7 10 8 5) 56 O O O ?_⟩)⟩⟩);refine W.seq ?_;refine U9 (m:=7) (an:=[0,0,0,0,12,31,0,127]) (its:=[.y 16 _,.y 17 _,.y 18 _,.y 19 _,.y 20 _,.y 21 _,.y 12 _]) (ks:=[]) (kk:=[]) (efs:=[(6,(p6 12))]) (live:=[1,4,10,12,21]) (env':=(V5 1 4 10 12 21)) (nd:=40) (bx1:=(T6 12 10 8 5)) hP dU O ⟨⟨69,O⟩,nU O,O,O,O,O⟩ (      ⟨⟨O,nU O,O,fun _ τ hb ht hτ=>R.ldP (hτ 8 _ O) (hb 8 _ O) O O O O ht⟩,⟨⟨O,nU O,O,fun _ τ hb ht hτ=>R.mov (evt (hτ 2 _ O)) O ht⟩,⟨⟨O,nU O,O,fun _ τ hb ht hτ=>R.ldP (hτ 5 _ O) (hb 5 _ O) O O O O ht⟩,⟨⟨O,nU O,O,fun _ τ hb ht hτ=>R.mov (evt (hτ 1 _ O)) O ht⟩,⟨⟨O,nU O,O,fun _ τ hb ht hτ=>w6 hC (q36 l hl0) (Bc (Bp (evt (hτ 18 _ O)) O O) (Bc (Bp (evt (hτ 19 _ O)) O O) Bn)) (F1 (.u32 _)) ht⟩,⟨⟨O,nU O,O,fun _ τ hb ht hτ=>c9 (l:=[.u32 0,.arr 32 1 ((List.replicate 32 0).map D.u8),.arr 32 1 ((List.replicate 32 0).map D.u8),.u32 0,.u32 0,.u32 0]) (l':=[_,_,_,_,_,_]) (.cons (kW (.int .u32 1) (.u32 1) O) (.cons (evt (hτ 16 _ O)) (.cons (evt (hτ 17 _ O)) (.cons (evt (hτ 20 _ O)) (.nil O))))) ⟨⟨_,(kW (.int .u32 1) (.u32 1) O),O,O,O⟩,⟨⟨_,(evt (hτ 16 _ O)),O,O,O⟩,⟨⟨_,(evt (hτ 17 _ O)),O,O,O⟩,⟨⟨_,(evt (hτ 20 _ O)),O,O,O⟩,Zt⟩⟩⟩⟩ ht⟩,⟨⟨O,O,⟨O,nU O⟩,(SpE.alloc O (nU O))⟩,Zt⟩⟩⟩⟩⟩⟩⟩) O O O (n':=56) O (d5 O O O O O ⟨[1,4,10,12],(V4 1 4 10 12),(T6 12 10 8 5),56,O,O,O, ?_⟩);refine W.seq (q9 3 (y3 22 23 24) (V5 1 4 10 12 24) ⟨mU 1 O O,aU<|zN O (lN _) O,aU<|KD 0 O O O,Zt⟩ ?_);refine v4 O (dF bO) ?_;refine W.skip (z5 9 (y8 26 27 28 29 30 31 32 33) [] [] (V5 4 10 12 32 33) ⟨mU 1 O O,mU 1 O O,aU<|zN O (lN _) O,aU<|OD 1 O O bU bU O,aU<|zI ((l.length-1)) O O O bU O,aU<|zL O O (mG l) O O O O O,aU<|zC hC (TY l[l.length-1]! (hw.get bO)) O O O (F1 (J0 _)) O,aU (fU 12 O O),Zt⟩ O O (d5 O O O O O (tV (V3 4 10 12) (T6 12 10 8 5) 56 O O O ?_)));refine z5 9 (y6 35 36 37 34 38 39) [] [] (V5 4 10 12 38 39) ⟨aU (fU 12 O O),aU (lU 35 O O O O O O O),aU<|zC hC (FT (K5 l)) O O O (FrsR.two (n1 _) (.bool _)) O,aU<|zY O O O,aU<|zX O O O O,aU<|zX O O O O,Zt⟩ O O (Q7 O O (d5 O O O O O (P8 O O O (tV (V5 4 10 12 13 14) (CU 13 12 10 8 5) 56 O O O ?_))));refine W.seq (q9 1 (y1 15) (V6 4 10 12 13 14 15) ⟨aU<|zK (kW (.int .u32 0) (.u32 0) O) O O,Zt⟩ ?_);refine W.block ?_;refine W.loop (α:={q__:HdS×Nat//MI l time root q__.1 q__.2}) (fun q__=>⟨56,[(4,.u32 200),(10,.ptr 10 0 []),(12,.ptr 12 0 []),(13,.ptr 13 0 []),(14,.bool (JO (K5 l)).isSome),(15,.u32 (UInt32.ofNat q__.1.2))],[(13,.var (Z9 (CT (K5 l)))),(12,.var (m7 q__.1.1)),(10,.var (m7 zeroH)),(8,.var (z7 root)),(5,.var (.agg [.u32 545259519,.int 10,.u32 10,.nils,m7 B4]))]⟩) (fun q__=>200-q__.1.2) ⟨(XH l time root,0),j56 hr⟩ (by dsimp only[XH,m7]<;>rfl) ?_;rintro ⟨⟨h,n⟩,hi⟩;show W _ _ _ _ ⟨56,[(4,.u32 200),(10,.ptr 10 0 []),(12,.ptr 12 0 []),(13,.ptr 13 0 []),(14,.bool (JO (K5 l)).isSome),(15,.u32 (UInt32.ofNat n))],[(13,.var (Z9 (CT (K5 l)))),(12,.var (m7 h)),(10,.var (m7 zeroH)),(8,.var (z7 root)),(5,.var (.agg [.u32 545259519,.int 10,.u32 10,.nils,m7 B4]))]⟩;have hi:MI l time root h n:=hi;have hle:=hi.le;refine W.seq (W.seq ?_);by_cases hs:(JO (K5 l)).isSome=true
 ·refine z8 6 (y6 40 41 42 43 44 45) (V7 4 10 12 13 14 15 45) ⟨mU 14 O O,mU 40 O O,aW O O (gT (hs) O)<|zV O O O,aW O O (gT (hs) O)<|zV O O O,aW O O (gT (hs) O)<|zB O O O O,aU<|zT O (hs) O O O,Zt⟩ ?_;refine W.cond O (fun hc45=>?_) (fun hc45=>?_)
  ·refine W.skip (W.seq (W.block (z5 3 (y2 48 49) [] [] (V8 4 10 12 13 14 15 48 49) ⟨mU 15 O O,aU (fU 12 O O),Zt⟩ O O (d5 O O O O O (tV (V6 4 10 12 13 14 15) (CU 13 12 10 8 5) 56 O O O ?_)))));refine W.seq ?_;refine W.dr (m:=4) (an:=[0,1,0,7]) hP dU rfl (its:=[.y 50 _,.y 51 _,.y 52 _,.y 53 _]) (ks:=[]) (kk:=[]) (env':=(V7 4 10 12 13 14 15 53)) (⟨nU rfl,rfl,⟨aU (lU 12 rfl rfl rfl rfl rfl rfl rfl),aU fun _ _ H K=>w6 hC (TY { h with nonce:=UInt32.ofNat n } (x92 hi.wf.1 hi.wf.2)) (Bc (Bp (eU K 50 rfl) rfl rfl) Bn) (F1 (J0 _)) H,aU (lU 13 rfl rfl rfl rfl rfl rfl rfl),aU fun _ _ H K=>w6 hC (q63 (XG { h with nonce:=UInt32.ofNat n }) (CT (K5 l)) (PX _) (XJ _)) (Bc (Bp (eU K 51 rfl) rfl rfl) (Bc (Bp (eU K 52 rfl) rfl rfl) Bn)) (F1 (.bool _)) H,Zt⟩,rfl,rfl,rfl⟩) rfl (bx':=(CU 13 12 10 8 5)) rfl (n':=56) rfl (tV (V7 4 10 12 13 14 15 53) (CU 13 12 10 8 5) 56 rfl rfl rfl ?_);refine W.cond O (fun hc53=>?_) (fun hc53=>?_)
   ·refine z5 3 (y1 54) [] [] (V2 10 54) ⟨aU (lU 12 O O O O O O O),Zt⟩ O O (d5 O O O O O ⟨O,_,j4 (kB true O) O (nU O),tV (V2 10 11) (CU 13 12 10 8 5) 56 O O O ?_⟩);refine W.ret ?_;exact Ends.many (.inr O) (.cons O O O (iL 44 68) (.cons O O O Zt .nil)) (by rw[hi.found hs ((MU hi.le).1 (of_decide_eq_true hc45)) hc53]<;>rfl) (show[(10,false),(11,true)].Nodup by decide)
   ·refine W.skip ?_;refine z8 3 (y3 46 47 15) (V6 4 10 12 13 14 15) ⟨mU 15 O O,aU<|B6 O (kW (.int .u32 1) (.u32 1) O) O O,aU<|zA O O O,Zt⟩ ?_;exact⟨⟨({ h with nonce:=UInt32.ofNat n },n+1),hi.next hs ((MU hi.le).1 (of_decide_eq_true hc45)) (by simpa using hc53)⟩,(by rw[q61]<;>rfl),(by have:=(MU hi.le).1 (of_decide_eq_true hc45);show 200-(n+1)<200-n;omega)⟩
  ·refine W.exit (z5 3 (y1 55) [] [] (V2 10 55) ⟨aU (lU 12 O O O O O O O),Zt⟩ O O (d5 O O O O O ⟨O,_,j4 (kB false O) O (nU O),tV (V2 10 11) (CU 13 12 10 8 5) 56 O O O ?_⟩));refine W.ret ?_;exact Ends.many (.inr O) (.cons O O O (iL 44 68) (.cons O O O Zt .nil)) (by rw[hi.last hs (fun h=>of_decide_eq_false hc45 ((MU hi.le).2 h))]<;>rfl) (show[(10,false),(11,true)].Nodup by decide)
 ·refine z8 6 [.y 40 _,.y 41 _,.x 42,.x 43,.x 44,.y 45 _] (V7 4 10 12 13 14 15 45) ⟨mU 14 O O,mU 40 O O,aF O O (gF (bfalse hs) O),aF O O (gF (bfalse hs) O),aF O O (gF (bfalse hs) O),aU<|YL O (bfalse hs) (kB false O) O O,Zt⟩ ?_;refine v4 O (O) ?_;refine W.exit (z5 3 (y1 55) [] [] (V2 10 55) ⟨aU (lU 12 O O O O O O O),Zt⟩ O O (d5 O O O O O ⟨O,_,j4 (kB false O) O (nU O),tV (V2 10 11) (CU 13 12 10 8 5) 56 O O O ?_⟩));refine W.ret ?_;exact Ends.many (.inr O) (.cons O O O (iL 44 68) (.cons O O O Zt .nil)) (by rw[hi.no (bfalse hs)]<;>rfl) (show[(10,false),(11,true)].Nodup by decide)
end Go.Sx

namespace Go.Sx
open Go.Proofs
theorem TA(t:TxS)(hwf:t.wf):Fn Tryz.prog gl 117 [D1 t] (.bool (S1 t)):=by
 refine Fn.of (n:=5) Tryz.func117 rfl rfl rfl (nU rfl) fun C hC hD=>?_;refine z5 2 [] [] [] (V1 0) Zt O O (⟨O,_,R.box (gV 0 O) O O (nU O),⟨O,_,j4 (kB false O) O (nU O),tV (V1 1) (p6 1) 5 O O O ?_⟩⟩);refine q9 3 (y3 3 4 2) (V1 2) ⟨aU (lU 1 O O O O O O O),aU<|zC hC (q96 t hwf) O O O (F1 (.bool _)) O,aU<|zA O O O,Zt⟩ ?_;refine W.ret ?_;exact q8 (.inr O) O (O) O O Zt
theorem k31(l:List BlkS)(hl:allBl l):Fn Tryz.prog gl 67 [.sl none 69 (l.map D3)] (.sl (some 137) 38 ((K7 l).map I8)):=by
 refine Fn.of (n:=46) Tryz.func67 rfl rfl rfl (nU rfl) fun C hC hD=>?_;have hl1:=hl.1;refine q9 1 (y1 2) (V1 0) ⟨aU<|zK (kN O) O O,Zt⟩ ?_;refine q9 1 (y1 3) (V2 0 3) ⟨aU<|zK (kN O) O O,Zt⟩ ?_;refine W.seq (q9 1 (y1 4) (V3 0 3 4) ⟨aU<|zK (kI 0 O) O O,Zt⟩ ?_);refine W.block ?_;refine X5 (s:=3) 137 38 O ?_;refine W.loop (α:={q__:Nat//q__<=l.length}) (fun q__=>⟨46,[(0,.sl none 69 (l.map D3)),(3,.sl (some 137) 38 ((YK l q__.1).map I8)),(4,.int ((q__.1:Nat):Int))],[]⟩) (fun q__=>l.length-q__.1) ⟨(0),bU⟩ O ?_;rintro ⟨h,hh⟩;show W _ _ _ _ ⟨46,[(0,.sl none 69 (l.map D3)),(3,.sl (some 137) 38 ((YK l h).map I8)),(4,.int ((h:Nat):Int))],[]⟩;have hh:h<=l.length:=hh;have hal:=FM hl h hh;have hbl:h<l.length->l[h]!.txs.length<=1000:=fun h=>(hl.get h).len;refine W.seq (q9 4 (y4 6 7 8 9) (V4 0 3 4 9) ⟨mU 4 O O,mU 0 O O,aU<|zN O (lN _) O,aU<|zS O O O,Zt⟩ ?_);refine z6 O (fun hc9=>?_) (fun hc9=>?_)
 ·refine W.skip (W.seq (W.block (q9 1 (y1 5) (V4 0 3 4 5) ⟨aU<|zK (kI 0 O) O O,Zt⟩ ?_)));refine W.block ?_;refine W.loop (α:={q__:Nat//q__<=l[h]!.txs.length}) (fun q__=>⟨46,[(0,.sl none 69 (l.map D3)),(3,.sl (some 137) 38 ((YK l h++XL l[h]! h q__.1).map I8)),(4,.int ((h:Nat):Int)),(5,.int ((q__.1:Nat):Int))],[]⟩) (fun q__=>l[h]!.txs.length-q__.1) ⟨(0),bU⟩ (by rw[XL,List.append_nil]) ?_;rintro ⟨i,hi⟩;show W _ _ _ _ ⟨46,[(0,.sl none 69 (l.map D3)),(3,.sl (some 137) 38 ((YK l h++XL l[h]! h i).map I8)),(4,.int ((h:Nat):Int)),(5,.int ((i:Nat):Int))],[]⟩;have hi:i<=l[h]!.txs.length:=hi;have hbw:=hl.get (show h<l.length by omega);have hbl2:=hbw.len;refine W.seq (q9 8 (y8 12 13 14 15 16 17 18 19) (V5 0 3 4 5 19) ⟨mU 5 O O,mU 0 O O,mU 4 O O,aU<|zI h O O O bU O,aU<|P9 O O,aU<|zL O O (mG l) O O O O O,aU<|zN O (lN _) O,aU<|zS O O O,Zt⟩ ?_);refine z6 O (fun hc19=>?_) (fun hc19=>?_)
  ·refine W.skip (W.seq (W.block ?_));refine W.dr (m:=24) (an:=[0,0,0,0,0,24,56,120,0,504,1016,2040,0,0,12288,28672,61440,0,258048,520192,1048574,2097150,4194303,8388607]) hP dU O (its:=[.y 22 _,.y 23 _,.y 24 _,.y 25 _,.y 26 _,.y 27 _,.y 28 _,.y 29 _,.y 30 _,.y 31 _,.y 32 _,.y 33 _,.y 34 _,.y 35 _,.y 36 _,.y 37 _,.y 38 _,.y 39 _,.y 40 _,.y 41 _,.y 42 _,.y 43 _,.y 44 _,.y 3 _]) (ks:=[(22,3),(23,44),(23,22)]) (kk:=[(22,3),(23,44)]) (env':=(V4 0 3 4 5)) (⟨nU O,O,⟨aU<|zM O O,mU 4 O O,mU 5 O O,mU 0 O O,mU 4 O O,aU<|zI h O O O bU O,aU<|P9 O O,aU<|zL O O (mG l) O O O O O,mU 5 O O,aU<|zI i O O O bU O,aU<|zL O O (j5 (l:=l[h]!.txs) bU) O O O O O,aU<|zC hC (IH l[h]!.txs[i]! (hbw.get bO)) O O O (F1 (J0 _)) O,mU 0 O O,mU 4 O O,aU<|zI h O O O bU O,aU<|P9 O O,aU<|zL O O (mG l) O O O O O,mU 5 O O,aU<|zI i O O O bU O,aU<|zL O O (j5 (l:=l[h]!.txs) bU) O O O O O,aU fun _ _ H K=>c9 (l:=[.int 0,.int 0,.arr 32 1 ((List.replicate 32 0).map D.u8),.agg [.u32 0,.nils,.nils,.u32 0]]) (l':=[_,_,_,_]) (.cons (eU K 23 O) (.cons (eU K 24 O) (.cons (eU K 33 O) (.cons (eU K 41 O) (.nil O))))) ⟨⟨_,(eU K 23 O),O,O,O⟩,⟨⟨_,(eU K 24 O),O,O,O⟩,⟨⟨_,(eU K 33 O),O,O,w94 O⟩,⟨⟨_,(eU K 41 O),O,O,O⟩,Zt⟩⟩⟩⟩ H,aU fun _ _ H K=>w8 (z:=38) (.cons (eU K 42 O) .nil) ⟨⟨O,O,O⟩,Zt⟩ O H dU,aU<|QH O O O (g6 O) (show _=((YK l h++XL l[h]! h (i+1)).map I8) from(j43 _ _ _ _)) (by simp only[List.length_map,List.length_append,FP,List.length_cons,List.length_nil];omega) O,aU<|zO O O O,Zt⟩,O,O,O⟩) O (bx':=[]) O (n':=46) O (tV (V4 0 3 4 5) [] 46 O O O ?_);refine z8 3 (y3 20 21 5) (V4 0 3 4 5) ⟨mU 5 O O,aU<|Q6 1 O O bU O,aU<|zA O O O,Zt⟩ ?_;exact⟨⟨(i+1),bU⟩,rfl,(by simp only[];omega)⟩
  ·obtain rfl:i=l[h]!.txs.length:=by omega
   refine W.exit ?_;refine z8 3 (y3 10 11 4) (V3 0 3 4) ⟨mU 4 O O,aU<|Q6 1 O O bU O,aU<|zA O O O,Zt⟩ ?_;exact⟨⟨(h+1),bU⟩,(by rw[q40]<;>rfl),(by simp only[];omega)⟩
 ·obtain rfl:h=l.length:=by omega
  refine W.exit (z5 2 (y2 45 2) [(0,3),(1,45)] [(0,3),(1,45)] (V1 2) ⟨aU fun _ _ H K=>T5 (K 3 _ O) O H dU,aU<|zO O O O,Zt⟩ O O (tU O ?_));refine W.ret ?_;exact q8 (.inr O) O (by rw[K7]) O O Zt
end Go.Sx

namespace Go.Sx
open Go.Proofs
theorem k00(l:List StS)(hl:allSt l)(before input:Nat)(p:Plc)(hb0:before<=1000000)(hn0:input<=1000000):Fn Tryz.prog gl 71 [.sl none 38 (l.map I8),.int ((before:Nat):Int),.int ((input:Nat):Int),Z2 p] (.bool (BQ l before input p)):=by
 refine Fn.of (n:=64) Tryz.func71 rfl rfl rfl (nU rfl) fun C hC hD=>?_;have hl1:=hl.1;refine z5 2 [] [] [] (V4 0 1 2 3) Zt O O (⟨O,_,R.box (gV 3 O) O O (nU O),⟨O,_,j4 (kB false O) O (nU O),tV (V4 0 1 2 7) (p6 7) 64 O O O ?_⟩⟩);refine W.seq (q9 1 (y1 9) (V5 0 1 2 7 9) ⟨aU<|zK (kI 0 O) O O,Zt⟩ ?_);refine W.block ?_;refine W.loop (α:={q__:Nat//q__<=min (before+1) l.length/\∀ q<q__,EM l[q]!.t p (A4 l before input q)=false}) (fun q__=>⟨64,[(0,.sl none 38 (l.map I8)),(1,.int ((before:Nat):Int)),(2,.int ((input:Nat):Int)),(7,.ptr 7 0 []),(9,.int ((q__.1:Nat):Int))],[(7,.var (Z2 p))]⟩) (fun q__=>l.length-q__.1) ⟨(0),⟨Nat.zero_le _,fun q hq=>absurd hq (Nat.not_lt_zero _)⟩⟩ O ?_;rintro ⟨i,⟨hi,hno⟩⟩;show W _ _ _ _ ⟨64,[(0,.sl none 38 (l.map I8)),(1,.int ((before:Nat):Int)),(2,.int ((input:Nat):Int)),(7,.ptr 7 0 []),(9,.int ((i:Nat):Int))],[(7,.var (Z2 p))]⟩;have hi:i<=min (before+1) l.length:=hi;have hno:∀ q<i,EM l[q]!.t p (A4 l before input q)=false:=hno;refine W.seq (W.seq ?_);by_cases h1:i<=before
 ·refine z8 9 (y9 11 12 13 14 15 16 17 18 19) (V6 0 1 2 7 9 19) ⟨mU 9 O O,mU 1 O O,aU fun _ _ H K=>DW (i) (before) (eU K 11 O) (eU K 12 O) H,mU 13 O O,aW O O (gT (dT h1) O)<|zV O O O,aW O O (gT (dT h1) O)<|zV O O O,aW O O (gT (dT h1) O)<|zN O (lN _) O,aW O O (gT (dT h1) O)<|zS O O O,aU<|zT O (dT h1) O O O,Zt⟩ ?_;refine z6 O (fun hc19=>?_) (fun hc19=>?_)
  ·refine W.skip (W.seq (W.block (q9 1 (y1 10) (V6 0 1 2 7 9 10) ⟨aU<|zK (kI 0 O) O O,Zt⟩ ?_)));refine W.block ?_;refine W.loop (α:={q__:Nat//q__<=A4 l before input i/\∀ q<q__,(plc l[i]!.t.ins[q]! == p&&!S1 l[i]!.t)=false}) (fun q__=>⟨64,[(0,.sl none 38 (l.map I8)),(1,.int ((before:Nat):Int)),(2,.int ((input:Nat):Int)),(7,.ptr 7 0 []),(9,.int ((i:Nat):Int)),(10,.int ((q__.1:Nat):Int))],[(7,.var (Z2 p))]⟩) (fun q__=>A4 l before input i-q__.1) ⟨(0),⟨Nat.zero_le _,fun q hq=>absurd hq (Nat.not_lt_zero _)⟩⟩ O ?_;rintro ⟨k,⟨hk,hnk⟩⟩;show W _ _ _ _ ⟨64,[(0,.sl none 38 (l.map I8)),(1,.int ((before:Nat):Int)),(2,.int ((input:Nat):Int)),(7,.ptr 7 0 []),(9,.int ((i:Nat):Int)),(10,.int ((k:Nat):Int))],[(7,.var (Z2 p))]⟩;have hk:k<=A4 l before input i:=hk;have hnk:∀ q<k,(plc l[i]!.t.ins[q]! == p&&!S1 l[i]!.t)=false:=hnk;have hiw:=hl.get (show i<l.length by omega);have hi1:=hiw.2.2.1
   have hfk:A4 l before input i<=l[i]!.t.ins.length:=by unfold A4;split<;>omega
   refine W.seq (W.seq ?_);by_cases h2:k<l[i]!.t.ins.length
   ·by_cases h3:i<before
    ·refine z8 19 [.y 22 _,.y 23 _,.y 24 _,.y 25 _,.y 26 _,.y 27 _,.y 28 _,.y 29 _,.y 30 _,.y 31 _,.y 32 _,.y 33 _,.y 34 _,.y 35 _,.x 36,.x 37,.x 38,.y 39 _,.y 40 _] (V7 0 1 2 7 9 10 40) ⟨mU 10 O O,mU 0 O O,mU 9 O O,aU<|zI i O O O bU O,aU<|P9 O O,aU<|P9 O O,aU<|zL O O (mG l) O O O O O,aU<|zN O (lN _) O,aU<|zS O O O,mU 30 O O,aW O O (gT (dT h2) O)<|zV O O O,aW O O (gT (dT h2) O)<|zV O O O,aW O O (gT (dT h2) O)<|zS O O O,aW O O (gT (dT h2) O)<|zV O O O,aF O O (gT (dT h3) O),aF O O (gT (dT h3) O),aF O O (gT (dT h3) O),aW O O (gT (dT h2) O)<|I4 O (dT h3) (kB true O) O O,aU<|zT O (dT h2) O O O,Zt⟩ ?_;refine u7 O (O) ?_;refine W.skip (W.seq (W.block (W.seq ?_)));by_cases h4:plc l[i]!.t.ins[k]! = p
     ·have hkn:k<A4 l before input i:=by rw[UF h3];exact h2
      refine W.dr (m:=21) (an:=[0,0,3,7,15,31,0,127,255,511,0,2047,4095,8191,8191,32767,65535,131071,262143,524287,1048575]) hP dU O (its:=[.y 43 _,.y 44 _,.y 45 _,.y 46 _,.y 47 _,.y 48 _,.y 49 _,.y 50 _,.y 51 _,.y 52 _,.y 53 _,.y 54 _,.y 55 _,.y 56 _,.y 57 _,.y 58 _,.y 59 _,.y 60 _,.y 61 _,.y 62 _,.y 63 _]) (ks:=[]) (kk:=[]) (env':=(V7 0 1 2 7 9 10 63)) (⟨nU O,O,⟨mU 0 O O,mU 9 O O,aU<|zI i O O O bU O,aU<|P9 O O,aU<|P9 O O,aU<|zL O O (mG l) O O O O O,mU 10 O O,aU<|zI k O O O bU O,aU<|P9 O O,aU<|zL O O (j5 (l:=l[i]!.t.ins) bU) O O O O O,aU (lU 7 O O O O O O O),aU fun _ _ H K=>R.eqD (neg:=false) (b':=(plc l[i]!.t.ins[k]! == p)) (X9 _ _) O (eU K 52 O) (eU K 53 O) O O O O (O) H,mU 54 O O,aW O O (gT (beq_iff_eq.2 h4) O)<|zV O O O,aW O O (gT (beq_iff_eq.2 h4) O)<|zV O O O,aW O O (gT (beq_iff_eq.2 h4) O)<|zI i O O O bU O,aW O O (gT (beq_iff_eq.2 h4) O)<|P9 O O,aW O O (gT (beq_iff_eq.2 h4) O)<|zL O O (mG l) O O O O O,aW O O (gT (beq_iff_eq.2 h4) O)<|zC hC (TA l[i]!.t hiw.2.1) O O O (F1 (.bool _)) O,aW O O (gT (beq_iff_eq.2 h4) O)<|UQ O O O,aU<|zT O (beq_iff_eq.2 h4) O O O,Zt⟩,O,O,O⟩) O (bx':=(p6 7)) O (n':=64) O (tV (V7 0 1 2 7 9 10 63) (p6 7) 64 O O O ?_);refine W.cond O (fun hc63=>?_) (fun hc63=>?_)
      ·refine q9 1 (y1 8) (V1 8) ⟨aU<|zK (kB true O) O O,Zt⟩ ?_;refine W.ret ?_;exact q8 (.inr O) O (by rw[EP h1 bO hkn h4 hc63]) O O Zt
      ·refine W.skip ?_;refine z8 3 (y3 41 42 10) (V6 0 1 2 7 9 10) ⟨mU 10 O O,aU<|Q6 1 O O bU O,aU<|zA O O O,Zt⟩ ?_;exact⟨⟨(k+1),⟨by omega,fun q hq=>(Nat.lt_succ_iff_lt_or_eq.1 hq).elim (hnk q) (fun e=>e▸(by first|exact SM h4|exact GH (by simpa using hc63)))⟩⟩,rfl,(by show A4 l before input i-(k+1)<A4 l before input i-k;omega)⟩
     ·have hkn:k<A4 l before input i:=by rw[UF h3];exact h2
      refine W.dr (m:=21) (an:=[0,0,3,7,15,31,0,127,255,511,0,2047,4095,8191,8191,32767,65535,131071,262143,524287,1048575]) hP dU O (its:=[.y 43 _,.y 44 _,.y 45 _,.y 46 _,.y 47 _,.y 48 _,.y 49 _,.y 50 _,.y 51 _,.y 52 _,.y 53 _,.y 54 _,.y 55 _,.x 56,.x 57,.x 58,.x 59,.x 60,.x 61,.x 62,.y 63 _]) (ks:=[]) (kk:=[]) (env':=(V7 0 1 2 7 9 10 63)) (⟨nU O,O,⟨mU 0 O O,mU 9 O O,aU<|zI i O O O bU O,aU<|P9 O O,aU<|P9 O O,aU<|zL O O (mG l) O O O O O,mU 10 O O,aU<|zI k O O O bU O,aU<|P9 O O,aU<|zL O O (j5 (l:=l[i]!.t.ins) bU) O O O O O,aU (lU 7 O O O O O O O),aU fun _ _ H K=>R.eqD (neg:=false) (b':=(plc l[i]!.t.ins[k]! == p)) (X9 _ _) O (eU K 52 O) (eU K 53 O) O O O O (O) H,mU 54 O O,aF O O (gF (beq_eq_false_iff_ne.2 h4) O),aF O O (gF (beq_eq_false_iff_ne.2 h4) O),aF O O (gF (beq_eq_false_iff_ne.2 h4) O),aF O O (gF (beq_eq_false_iff_ne.2 h4) O),aF O O (gF (beq_eq_false_iff_ne.2 h4) O),aF O O (gF (beq_eq_false_iff_ne.2 h4) O),aF O O (gF (beq_eq_false_iff_ne.2 h4) O),aU<|YL O (beq_eq_false_iff_ne.2 h4) (kB false O) O O,Zt⟩,O,O,O⟩) O (bx':=(p6 7)) O (n':=64) O (tV (V7 0 1 2 7 9 10 63) (p6 7) 64 O O O ?_);refine v4 O (O) ?_;refine W.skip ?_;refine z8 3 (y3 41 42 10) (V6 0 1 2 7 9 10) ⟨mU 10 O O,aU<|Q6 1 O O bU O,aU<|zA O O O,Zt⟩ ?_;exact⟨⟨(k+1),⟨by omega,fun q hq=>(Nat.lt_succ_iff_lt_or_eq.1 hq).elim (hnk q) (fun e=>e▸(by first|exact SM h4|exact GH (by simpa using hc63)))⟩⟩,rfl,(by show A4 l before input i-(k+1)<A4 l before input i-k;omega)⟩
    ·refine z8 19 (w91 22 23 24 25 26 27 28 29 30 31 32 33 34 35 36 37 38 39 40) (V7 0 1 2 7 9 10 40) ⟨mU 10 O O,mU 0 O O,mU 9 O O,aU<|zI i O O O bU O,aU<|P9 O O,aU<|P9 O O,aU<|zL O O (mG l) O O O O O,aU<|zN O (lN _) O,aU<|zS O O O,mU 30 O O,aW O O (gT (dT h2) O)<|zV O O O,aW O O (gT (dT h2) O)<|zV O O O,aW O O (gT (dT h2) O)<|zS O O O,aW O O (gT (dT h2) O)<|zV O O O,aW O O (gF (dF h3) O)<|zV O O O,aW O O (gF (dF h3) O)<|zV O O O,aW O O (gF (dF h3) O)<|zS O O O,aW O O (gT (dT h2) O)<|zF O (dF h3) O O O,aU<|zT O (dT h2) O O O,Zt⟩ ?_;refine z6 O (fun hc40=>?_) (fun hc40=>?_)
     ·refine W.skip (W.seq (W.block (W.seq ?_)));by_cases h4:plc l[i]!.t.ins[k]! = p
      ·have hkn:k<A4 l before input i:=by rw[UE h3];omega
       refine W.dr (m:=21) (an:=[0,0,3,7,15,31,0,127,255,511,0,2047,4095,8191,8191,32767,65535,131071,262143,524287,1048575]) hP dU O (its:=[.y 43 _,.y 44 _,.y 45 _,.y 46 _,.y 47 _,.y 48 _,.y 49 _,.y 50 _,.y 51 _,.y 52 _,.y 53 _,.y 54 _,.y 55 _,.y 56 _,.y 57 _,.y 58 _,.y 59 _,.y 60 _,.y 61 _,.y 62 _,.y 63 _]) (ks:=[]) (kk:=[]) (env':=(V7 0 1 2 7 9 10 63)) (⟨nU O,O,⟨mU 0 O O,mU 9 O O,aU<|zI i O O O bU O,aU<|P9 O O,aU<|P9 O O,aU<|zL O O (mG l) O O O O O,mU 10 O O,aU<|zI k O O O bU O,aU<|P9 O O,aU<|zL O O (j5 (l:=l[i]!.t.ins) bU) O O O O O,aU (lU 7 O O O O O O O),aU fun _ _ H K=>R.eqD (neg:=false) (b':=(plc l[i]!.t.ins[k]! == p)) (X9 _ _) O (eU K 52 O) (eU K 53 O) O O O O (O) H,mU 54 O O,aW O O (gT (beq_iff_eq.2 h4) O)<|zV O O O,aW O O (gT (beq_iff_eq.2 h4) O)<|zV O O O,aW O O (gT (beq_iff_eq.2 h4) O)<|zI i O O O bU O,aW O O (gT (beq_iff_eq.2 h4) O)<|P9 O O,aW O O (gT (beq_iff_eq.2 h4) O)<|zL O O (mG l) O O O O O,aW O O (gT (beq_iff_eq.2 h4) O)<|zC hC (TA l[i]!.t hiw.2.1) O O O (F1 (.bool _)) O,aW O O (gT (beq_iff_eq.2 h4) O)<|UQ O O O,aU<|zT O (beq_iff_eq.2 h4) O O O,Zt⟩,O,O,O⟩) O (bx':=(p6 7)) O (n':=64) O (tV (V7 0 1 2 7 9 10 63) (p6 7) 64 O O O ?_);refine W.cond O (fun hc63=>?_) (fun hc63=>?_)
       ·refine q9 1 (y1 8) (V1 8) ⟨aU<|zK (kB true O) O O,Zt⟩ ?_;refine W.ret ?_;exact q8 (.inr O) O (by rw[EP h1 bO hkn h4 hc63]) O O Zt
       ·refine W.skip ?_;refine z8 3 (y3 41 42 10) (V6 0 1 2 7 9 10) ⟨mU 10 O O,aU<|Q6 1 O O bU O,aU<|zA O O O,Zt⟩ ?_;exact⟨⟨(k+1),⟨by omega,fun q hq=>(Nat.lt_succ_iff_lt_or_eq.1 hq).elim (hnk q) (fun e=>e▸(by first|exact SM h4|exact GH (by simpa using hc63)))⟩⟩,rfl,(by show A4 l before input i-(k+1)<A4 l before input i-k;omega)⟩
      ·have hkn:k<A4 l before input i:=by rw[UE h3];omega
       refine W.dr (m:=21) (an:=[0,0,3,7,15,31,0,127,255,511,0,2047,4095,8191,8191,32767,65535,131071,262143,524287,1048575]) hP dU O (its:=[.y 43 _,.y 44 _,.y 45 _,.y 46 _,.y 47 _,.y 48 _,.y 49 _,.y 50 _,.y 51 _,.y 52 _,.y 53 _,.y 54 _,.y 55 _,.x 56,.x 57,.x 58,.x 59,.x 60,.x 61,.x 62,.y 63 _]) (ks:=[]) (kk:=[]) (env':=(V7 0 1 2 7 9 10 63)) (⟨nU O,O,⟨mU 0 O O,mU 9 O O,aU<|zI i O O O bU O,aU<|P9 O O,aU<|P9 O O,aU<|zL O O (mG l) O O O O O,mU 10 O O,aU<|zI k O O O bU O,aU<|P9 O O,aU<|zL O O (j5 (l:=l[i]!.t.ins) bU) O O O O O,aU (lU 7 O O O O O O O),aU fun _ _ H K=>R.eqD (neg:=false) (b':=(plc l[i]!.t.ins[k]! == p)) (X9 _ _) O (eU K 52 O) (eU K 53 O) O O O O (O) H,mU 54 O O,aF O O (gF (beq_eq_false_iff_ne.2 h4) O),aF O O (gF (beq_eq_false_iff_ne.2 h4) O),aF O O (gF (beq_eq_false_iff_ne.2 h4) O),aF O O (gF (beq_eq_false_iff_ne.2 h4) O),aF O O (gF (beq_eq_false_iff_ne.2 h4) O),aF O O (gF (beq_eq_false_iff_ne.2 h4) O),aF O O (gF (beq_eq_false_iff_ne.2 h4) O),aU<|YL O (beq_eq_false_iff_ne.2 h4) (kB false O) O O,Zt⟩,O,O,O⟩) O (bx':=(p6 7)) O (n':=64) O (tV (V7 0 1 2 7 9 10 63) (p6 7) 64 O O O ?_);refine v4 O (O) ?_;refine W.skip ?_;refine z8 3 (y3 41 42 10) (V6 0 1 2 7 9 10) ⟨mU 10 O O,aU<|Q6 1 O O bU O,aU<|zA O O O,Zt⟩ ?_;exact⟨⟨(k+1),⟨by omega,fun q hq=>(Nat.lt_succ_iff_lt_or_eq.1 hq).elim (hnk q) (fun e=>e▸(by first|exact SM h4|exact GH (by simpa using hc63)))⟩⟩,rfl,(by show A4 l before input i-(k+1)<A4 l before input i-k;omega)⟩
     ·refine W.exit ?_;refine z8 3 (y3 20 21 9) (V5 0 1 2 7 9) ⟨mU 9 O O,aU<|Q6 1 O O bU O,aU<|zA O O O,Zt⟩ ?_;exact⟨⟨(i+1),⟨by omega,fun q hq=>(Nat.lt_succ_iff_lt_or_eq.1 hq).elim (hno q) (fun e=>e▸z99 (fun q hq=>hnk q (by first|(rw[UF h3] at hq;omega)|(rw[UE h3] at hq;omega)|(by_cases h3:i<before;(rw[UF h3] at hq;omega);(rw[UE h3] at hq;omega)))))⟩⟩,rfl,(by show l.length-(i+1)<l.length-i;omega)⟩
   ·refine z8 19 [.y 22 _,.y 23 _,.y 24 _,.y 25 _,.y 26 _,.y 27 _,.y 28 _,.y 29 _,.y 30 _,.y 31 _,.x 32,.x 33,.x 34,.x 35,.x 36,.x 37,.x 38,.x 39,.y 40 _] (V7 0 1 2 7 9 10 40) ⟨mU 10 O O,mU 0 O O,mU 9 O O,aU<|zI i O O O bU O,aU<|P9 O O,aU<|P9 O O,aU<|zL O O (mG l) O O O O O,aU<|zN O (lN _) O,aU<|zS O O O,mU 30 O O,aF O O (gF (dF h2) O),aF O O (gF (dF h2) O),aF O O (gF (dF h2) O),aF O O (gF (dF h2) O),⟨O,⟨_,35,O,O,.inr ⟨O,O⟩⟩,fun h=>absurd h dU⟩,⟨O,⟨_,35,O,O,.inr ⟨O,O⟩⟩,fun h=>absurd h dU⟩,⟨O,⟨_,35,O,O,.inr ⟨O,O⟩⟩,fun h=>absurd h dU⟩,aF O O (gF (dF h2) O),aU<|YL O (dF h2) (kB false O) O O,Zt⟩ ?_;refine v4 O (O) ?_;refine W.exit ?_;refine z8 3 (y3 20 21 9) (V5 0 1 2 7 9) ⟨mU 9 O O,aU<|Q6 1 O O bU O,aU<|zA O O O,Zt⟩ ?_;exact⟨⟨(i+1),⟨by omega,fun q hq=>(Nat.lt_succ_iff_lt_or_eq.1 hq).elim (hno q) (fun e=>e▸z99 (fun q hq=>hnk q (by first|(rw[UF h3] at hq;omega)|(rw[UE h3] at hq;omega)|(by_cases h3:i<before;(rw[UF h3] at hq;omega);(rw[UE h3] at hq;omega)))))⟩⟩,rfl,(by show l.length-(i+1)<l.length-i;omega)⟩
  ·refine W.exit (q9 1 (y1 8) (V1 8) ⟨aU<|zK (kB false O) O O,Zt⟩ ?_);refine W.ret ?_;exact q8 (.inr O) O (by rw[PG (fun q hq=>hno q bO)]) O O Zt
 ·refine z8 9 [.y 11 _,.y 12 _,.y 13 _,.y 14 _,.x 15,.x 16,.x 17,.x 18,.y 19 _] (V6 0 1 2 7 9 19) ⟨mU 9 O O,mU 1 O O,aU fun _ _ H K=>DW (i) (before) (eU K 11 O) (eU K 12 O) H,mU 13 O O,aF O O (gF (dF h1) O),aF O O (gF (dF h1) O),aF O O (gF (dF h1) O),aF O O (gF (dF h1) O),aU<|YL O (dF h1) (kB false O) O O,Zt⟩ ?_;refine v4 O (O) ?_;refine W.exit (q9 1 (y1 8) (V1 8) ⟨aU<|zK (kB false O) O O,Zt⟩ ?_);refine W.ret ?_;exact q8 (.inr O) O (by rw[PG (fun q hq=>hno q bO)]) O O Zt
end Go.Sx

namespace Go.Sx
open Go.Proofs
theorem EX(k:UInt8):Fn Tryz.prog gl 64 [.u8 k] (.sl (some 5) 1 ((YF k).map D.u8)):=by
 refine Fn.of (n:=10) Tryz.func64 rfl rfl rfl (Nat.le_of_ble_eq_true rfl) fun C hC hD=>?_;have hsl:=QE [115,k,0,0,0];refine W.seq ?_;refine D4 (n:=1) (by decide) (its:=[⟨2,_,true⟩]) (ks:=[]) (kk:=[]) (live:=[0]) (env':=[(0,_)])
  (⟨Nat.le_of_ble_eq_true rfl,rfl,
   ⟨⟨rfl,rfl,fun _ τ hb ht hτ=>j4 (show ev _ _ (.const (.slice none 0 0))=some (.nils) from rfl) rfl ht⟩,
   trivial⟩,rfl,rfl,rfl⟩)
  rfl (bx':=[]) rfl (n':=10) rfl (⟨[0],[(0,_)],[],10,rfl,rfl,rfl, ?_⟩)
 refine W.seq ?_;refine D4 (n:=5) (by decide) (its:=[⟨4,_,true⟩,⟨5,_,true⟩,⟨6,_,true⟩]) (ks:=[]) (kk:=[]) (live:=[6]) (env':=[(6,_)])
  (⟨Nat.le_of_ble_eq_true rfl,rfl,
   ⟨⟨rfl,rfl,fun _ τ hb ht hτ=>R.mov (evt (hτ 0 _ rfl)) rfl ht⟩,
   ⟨⟨rfl,rfl,fun _ τ hb ht hτ=>w8 (z:=1) (.cons (show ev _ _ (.const (.int .u8 115))=some (.u8 115) from rfl) (.cons (evt (hτ 4 _ rfl)) (.cons (show ev _ _ (.const (.int .u8 0))=some (.u8 0) from rfl) (.cons (show ev _ _ (.const (.int .u8 0))=some (.u8 0) from rfl) (.cons (show ev _ _ (.const (.int .u8 0))=some (.u8 0) from rfl) .nil))))) ⟨⟨rfl,rfl,rfl⟩,⟨⟨rfl,rfl,rfl⟩,⟨⟨rfl,rfl,rfl⟩,⟨⟨rfl,rfl,rfl⟩,⟨⟨rfl,rfl,rfl⟩,trivial⟩⟩⟩⟩⟩ rfl ht (by decide)⟩,
   ⟨⟨rfl,rfl,fun _ τ hb ht hτ=>w6 hC (MN [115,k,0,0,0] (by simp)) (Bors.cons (Bor.sc (SC.sl (hτ 5 _ rfl)) rfl) Bors.nil) (FrsR.one (J0 _)) ht⟩,
   trivial⟩⟩⟩,rfl,rfl,rfl⟩)
  rfl (bx':=[]) rfl (n':=10) rfl (⟨rfl,_,R.alloc rfl (Nat.le_of_ble_eq_true rfl),⟨rfl,_,Z7 (show Sg.get _ 3=some _ from rfl) (show Sg.box _ 3=some _ from rfl) rfl (evt (show Sg.get _ 6=some _ from rfl)) (by rfl) (by rfl) (by rfl) (by rfl) rfl,⟨[3],[(3,_)],[(3,.var _)],10,rfl,rfl,rfl, ?_⟩⟩⟩)
 refine W.seq ?_;refine D4 (n:=4) (by decide) (its:=[⟨7,_,true⟩,⟨8,_,true⟩,⟨9,_,true⟩,⟨2,_,true⟩]) (ks:=[(2,7),(3,9)]) (kk:=[(2,7),(3,9)]) (live:=[2]) (env':=[(2,_)])
  (⟨Nat.le_of_ble_eq_true rfl,rfl,
   ⟨⟨rfl,rfl,fun _ τ hb ht hτ=>w8 (z:=1) (.cons (show ev _ _ (.const (.int .u8 0))=some (.u8 0) from rfl) (.cons (show ev _ _ (.const (.int .u8 20))=some (.u8 20) from rfl) .nil)) ⟨⟨rfl,rfl,rfl⟩,⟨⟨rfl,rfl,rfl⟩,trivial⟩⟩ rfl ht (by decide)⟩,
   ⟨⟨rfl,rfl,fun _ τ hb ht hτ=>G5 (0) (20) (20) (hτ 3 _ rfl) (hb 3 _ rfl) rfl rfl (b4 (show ev _ _ (.const (.int .i64 20))=some (.int ((20:Nat):Int)) from rfl)) rfl rfl (by first|omega|(simp only[List.length_map,List.length_append,List.length_cons,List.length_nil,List.length_take,List.length_drop,List.length_replicate];omega)|(simp;omega)) (by first|omega|(simp only[List.length_map,List.length_append,List.length_cons,List.length_nil,List.length_take,List.length_drop,List.length_replicate];omega)|(simp;omega)) rfl ht⟩,
   ⟨⟨rfl,rfl,fun _ τ hb ht hτ=>J8 (Or.inl rfl) (hτ 7 _ rfl) (SrcO.sc (SC.va (hτ 8 _ rfl) (hb 3 _ rfl) rfl (by first|omega|(simp only[List.length_map,List.length_append,List.length_cons,List.length_nil,List.length_take,List.length_drop,List.length_replicate];omega)|(simp;omega))) (P0 (fun _=>rfl))) (show _=((YF k).map D.u8) from(by rw[YF,List.map_append,List.map_take];rfl)) (by first|omega|(simp only[List.length_map,List.length_append,List.length_cons,List.length_nil,List.length_take,List.length_drop,List.length_replicate];omega)|(simp;omega)) ht (by decide) (by decide)⟩,
   ⟨⟨rfl,rfl,fun _ τ hb ht hτ=>R.asgO (hτ 9 _ rfl) rfl ht (by decide)⟩,
   trivial⟩⟩⟩⟩,rfl,rfl,rfl⟩)
  rfl (bx':=[(3,.var _)]) rfl (n':=10) rfl (⟨[2],[(2,_)],[(3,.var _)],10,rfl,rfl,rfl, ?_⟩)
 refine W.ret ?_;exact q8 (.inr rfl) rfl (rfl) rfl rfl trivial
end Go.Sx

namespace Go.Sx
open Go.Proofs
theorem q67(l:List BlkS)(hl:allBl l):Fn Tryz.prog gl 72 [.sl none 69 (l.map D3)] (.tup [.sl (some 109) 33 ((T7 l).map KX),.sl (some 60) 1 ((T7 l).map KF)]):=by
 refine Fn.of (n:=62) Tryz.func72 rfl rfl rfl (nU rfl) fun C hC hD=>?_;have hsa:=GS hl;have hal:=hsa.1;refine q9 2 (y2 2 3) (V1 0) ⟨aU<|zK (kN O) O O,aU<|zK (kN O) O O,Zt⟩ ?_;refine z5 3 (y3 10 11 4) [(2,11)] [(2,11)] (V1 4) ⟨mU 0 O O,aU fun _ _ H K=>Y5 hC (k31 l hl) (EvP.cons (eU K 10 O) O O EvP.nil) H,aU<|zO O O O,Zt⟩ O O (tU O ?_);refine W.seq ?_;refine YX (s:=4) (d':=.sl none 38 ((K7 l).map I8)) O O (j32 _ _ _) ?_;refine z8 1 (y1 5) (V2 4 5) ⟨aU<|zK (kN O) O O,Zt⟩ ?_;refine q9 1 (y1 6) (V3 4 5 6) ⟨aU<|zK (kN O) O O,Zt⟩ ?_;refine W.seq (q9 1 (y1 7) (V4 4 5 6 7) ⟨aU<|zK (kI 0 O) O O,Zt⟩ ?_);refine W.block ?_;refine X5 (s:=5) 109 33 O ?_;refine X5 (s:=6) 60 1 O ?_;refine W.loop (α:={q__:Nat//q__<=(K7 l).length}) (fun q__=>⟨62,[(4,.sl none 38 ((K7 l).map I8)),(5,.sl (some 109) 33 ((QC (K7 l) q__.1).map KX)),(6,.sl (some 60) 1 ((QC (K7 l) q__.1).map KF)),(7,.int ((q__.1:Nat):Int))],[]⟩) (fun q__=>(K7 l).length-q__.1) ⟨(0),bU⟩ O ?_;rintro ⟨i,hi⟩;show W _ _ _ _ ⟨62,[(4,.sl none 38 ((K7 l).map I8)),(5,.sl (some 109) 33 ((QC (K7 l) i).map KX)),(6,.sl (some 60) 1 ((QC (K7 l) i).map KF)),(7,.int ((i:Nat):Int))],[]⟩;have hi:i<=(K7 l).length:=hi;have htl:=OF hsa i hi;have hsm:i<(K7 l).length->(K7 l)[i]!.t.outs.length<=1000:=fun h=>(hsa.get h).2.2.2;refine W.seq (q9 4 (y4 12 13 14 15) (V5 4 5 6 7 15) ⟨mU 7 O O,mU 4 O O,aU<|zN O (lN _) O,aU<|zS O O O,Zt⟩ ?_);refine z6 O (fun hc15=>?_) (fun hc15=>?_)
 ·refine W.skip (W.seq (W.block (q9 1 (y1 8) (V5 4 5 6 7 8) ⟨aU<|zK (kI 0 O) O O,Zt⟩ ?_)));refine W.block ?_;refine W.loop (α:={q__:Nat//q__<=(K7 l)[i]!.t.outs.length}) (fun q__=>⟨62,[(4,.sl none 38 ((K7 l).map I8)),(5,.sl (some 109) 33 ((QC (K7 l) i++M0 (K7 l) i q__.1).map KX)),(6,.sl (some 60) 1 ((QC (K7 l) i++M0 (K7 l) i q__.1).map KF)),(7,.int ((i:Nat):Int)),(8,.int ((q__.1:Nat):Int))],[]⟩) (fun q__=>(K7 l)[i]!.t.outs.length-q__.1) ⟨(0),bU⟩ (by rw[j91,List.append_nil]) ?_;rintro ⟨k,hk⟩;show W _ _ _ _ ⟨62,[(4,.sl none 38 ((K7 l).map I8)),(5,.sl (some 109) 33 ((QC (K7 l) i++M0 (K7 l) i k).map KX)),(6,.sl (some 60) 1 ((QC (K7 l) i++M0 (K7 l) i k).map KF)),(7,.int ((i:Nat):Int)),(8,.int ((k:Nat):Int))],[]⟩;have hk:k<=(K7 l)[i]!.t.outs.length:=hk;have hkl:=OE (K7 l) i k;refine W.seq (q9 9 (y9 18 19 20 21 22 23 24 25 26) (V6 4 5 6 7 8 26) ⟨mU 8 O O,mU 4 O O,mU 7 O O,aU<|zI i O O O bU O,aU<|P9 O O,aU<|P9 O O,aU<|zL O O (mG (K7 l)) O O O O O,aU<|zN O (lN _) O,aU<|zS O O O,Zt⟩ ?_);refine z6 O (fun hc26=>?_) (fun hc26=>?_)
  ·refine W.skip (W.seq (W.block (z5 10 (y8 29 30 31 32 33 34 35 36) [] [] (V6 4 5 6 7 8 36) ⟨mU 4 O O,mU 7 O O,aU<|zI i O O O bU O,aU<|P9 O O,aU<|zL O O (mG (K7 l)) O O O O O,mU 8 O O,aU fun _ _ H K=>Q5 (d:=.u32 (UInt32.ofInt ((k:Nat):Int))) (eU K 34 O) O (O) H,aU fun _ _ H K=>c9 (l:=[.arr 32 1 ((List.replicate 32 0).map D.u8),.u32 0]) (l':=[_,_]) (.cons (eU K 33 O) (.cons (eU K 35 O) (.nil O))) ⟨⟨_,(eU K 33 O),O,O,w94 O⟩,⟨⟨_,(eU K 35 O),O,O,O⟩,Zt⟩⟩ H,Zt⟩ O O (Q7 O O (d5 O O O O O (tV (V6 4 5 6 7 8 9) (p6 9) 62 O O O ?_))))));refine q9 6 (y6 37 38 39 40 41 42) (V7 4 5 6 7 8 9 42) ⟨mU 4 O O,mU 4 O O,aU<|zN O (lN _) O,aU (lU 9 O O O O O O O),aU fun _ _ H K=>w6 hC (k00 (K7 l) hsa (K7 l).length 0 ((K7 l)[i]!.id,UInt32.ofInt ((k:Nat):Int)) bO dU) (Bc (Bp (eU K 37 O) O O) (Bc (Bp (eU K 39 O) O O) (Bc (Bp (kI 0 O) O O) (Bc (Bp (eU K 40 O) O O) Bn)))) (F1 (.bool _)) H,aU<|UQ O O O,Zt⟩ ?_;refine W.cond O (fun hc42=>?_) (fun hc42=>?_)
   ·refine z5 5 (y5 43 44 45 46 5) [(3,5),(4,46),(4,43)] [(3,5),(4,46)] (V5 4 5 6 7 8) ⟨aU<|zM O O,aU (lU 9 O O O O O O O),aU fun _ _ H K=>w8 (z:=33) (.cons (eU K 44 O) .nil) ⟨⟨O,O,O⟩,Zt⟩ O H dU,aU<|QH O O O (g6 O) (show _=((QC (K7 l) i++M0 (K7 l) i (k+1)).map KX) from(x98 (by simpa using hc42))) (by simp only[List.length_map,List.length_append,List.length_cons,List.length_nil];omega) O,aU<|zO O O O,Zt⟩ O O (tU O ?_);refine b7 [] (bx':=[]) O O O (g7 hD O) ?_;refine u4 14 (w51 47 48 49 50 51 52 53 54 55 56 57 58 59 6) [(12,6),(13,59),(13,47)] [(12,6),(13,59)] (V5 4 5 6 7 8) ⟨aU<|zM O O,mU 4 O O,mU 7 O O,aU<|zI i O O O bU O,aU<|P9 O O,aU<|P9 O O,aU<|zL O O (mG (K7 l)) O O O O O,mU 8 O O,aU<|zI k O O O bU O,aU<|P9 O O,aU<|zL O O (j5 (l:=((K7 l))[i]!.t.outs) bU) O O O O O,aU fun _ _ H K=>w8 (z:=1) (.cons (eU K 57 O) .nil) ⟨⟨O,O,O⟩,Zt⟩ O H dU,aU<|QH O O O (g6 O) (show _=((QC (K7 l) i++M0 (K7 l) i (k+1)).map KF) from(x97 (by simpa using hc42))) (by simp only[List.length_map,List.length_append,List.length_cons,List.length_nil];omega) O,aU<|zO O O O,Zt⟩ O O (tU O ?_);refine z8 3 (y3 27 28 8) (V5 4 5 6 7 8) ⟨mU 8 O O,aU<|Q6 1 O O bU O,aU<|zA O O O,Zt⟩ ?_;exact⟨⟨(k+1),bU⟩,(by first|rfl|(rw[q65 (by simpa using hc42)]<;>rfl)),(by simp only[];omega)⟩
   ·refine W.skip ?_;refine C6 (V5 4 5 6 7 8) (p6 9) 62 O O O ?_;refine b7 [] (bx':=[]) O O O (g7 hD O) ?_;refine z8 3 (y3 27 28 8) (V5 4 5 6 7 8) ⟨mU 8 O O,aU<|Q6 1 O O bU O,aU<|zA O O O,Zt⟩ ?_;exact⟨⟨(k+1),bU⟩,(by first|rfl|(rw[q65 (by simpa using hc42)]<;>rfl)),(by simp only[];omega)⟩
  ·obtain rfl:k=(K7 l)[i]!.t.outs.length:=by omega
   refine W.exit ?_;refine z8 3 (y3 16 17 7) (V4 4 5 6 7) ⟨mU 7 O O,aU<|Q6 1 O O bU O,aU<|zA O O O,Zt⟩ ?_;exact⟨⟨(i+1),bU⟩,(by rw[VW]<;>rfl),(by simp only[];omega)⟩
 ·obtain rfl:i=(K7 l).length:=by omega
  refine W.exit (z5 4 (y4 60 61 2 3) [(0,5),(1,6),(2,60),(3,61)] [(0,5),(1,6),(2,60),(3,61)] (V2 2 3) ⟨aU fun _ _ H K=>T5 (K 5 _ O) O H dU,aU fun _ _ H K=>T5 (K 6 _ O) O H dU,aU<|zO O O O,aU<|zO O O O,Zt⟩ O O (tU O ?_));refine W.ret ?_;exact Ends.many (.inr O) (.cons O O O Zt (.cons O O O Zt .nil)) (by rw[T7]) (show[(2,true),(3,true)].Nodup by decide)
end Go.Sx

namespace Go.Sx
theorem EJ(k:UInt8):(YF k).length=22:=by
 unfold YF;rw[List.length_append,List.length_take,QE];rfl
structure TxS.sm(t:TxS):Prop where
 ins:t.ins.length<=8
 outs:t.outs.length<=8
 hash:∀ x∈t.ins,x.tx.length=32
 scr:∀ x∈t.ins,x.script.length<=100
 oscr:∀ x∈t.outs,x.script.length<=100
 wit:∀ x∈t.ins,x.wit.length<=8
 witi:∀ x∈t.ins,∀ b∈x.wit,b.length<=100
theorem j09{l:List InS}(h1:∀ x∈l,x.tx.length=32)(h2:∀ x∈l,x.script.length<=100)(i:Nat)(hi:i<=l.length):(G7 l i).length<=200*i:=by
 induction i with
 | zero=>exact Nat.le_refl _
 | succ i ih=>
  have:=ih (by omega);have h3:=h1 _ (m1 (show i<l.length by omega));have h4:=h2 _ (m1 (show i<l.length by omega));have h5:=Y7 l[i]!.script;simp only[G7,x49,List.length_append,j3];omega
theorem z15{l:List OutS}(h2:∀ x∈l,x.script.length<=100)(i:Nat)(hi:i<=l.length):(Y0 l i).length<=200*i:=by
 induction i with
 | zero=>exact Nat.le_refl _
 | succ i ih=>
  have:=ih (by omega);have h4:=h2 _ (m1 (show i<l.length by omega));have h5:=Y7 l[i]!.script;simp only[Y0,HI,List.length_append,j3];omega
theorem RE{l:List (List UInt8)}(h2:∀ x∈l,x.length<=100)(i:Nat)(hi:i<=l.length):(E6 l i).length<=200*i:=by
 induction i with
 | zero=>exact Nat.le_refl _
 | succ i ih=>
  have:=ih (by omega);have h4:=h2 _ (m1 (show i<l.length by omega));have h5:=Y7 l[i]!;simp only[E6,List.length_append];omega
theorem q55{l:List InS}(h1:∀ x∈l,x.wit.length<=8)(h2:∀ x∈l,∀ b∈x.wit,b.length<=100)(i:Nat)(hi:i<=l.length):(U1 l i).length<=2000*i:=by
 induction i with
 | zero=>exact Nat.le_refl _
 | succ i ih=>
  have:=ih (by omega);have hm:=m1 (show i<l.length by omega);have h3:=h1 _ hm;have h4:=RE (h2 _ hm) _ (Nat.le_refl _);have h5:=Q0 l[i]!.wit.length;simp only[U1,List.length_append];omega
theorem TxS.sm.wf{t:TxS}(h:t.sm):t.wf where
 ins:=Nat.le_trans h.ins (by decide)
 outs:=Nat.le_trans h.outs (by decide)
 hash:=h.hash
 scr:=fun x hx=>Nat.le_trans (h.scr x hx) (by decide)
 oscr:=fun x hx=>Nat.le_trans (h.oscr x hx) (by decide)
 insb:=fun i hi=>by
  have:=j09 h.hash h.scr i hi;have:=h.ins;omega
 outsb:=fun i hi=>by
  have:=z15 h.oscr i hi;have:=h.outs;omega
 witsb:=fun i hi=>by
  have:=q55 h.wit h.witi i hi;have:=h.ins;omega
 witl:=fun x hx=>⟨Nat.le_trans (h.wit x hx) (by decide),fun i hi=>by
  have:=RE (h.witi x hx) i hi;have:=h.wit x hx
  omega⟩
 witi:=fun x hx b hb=>Nat.le_trans (h.witi x hx b hb) (by decide)
theorem TxS.sm.le{t:TxS}(h:t.sm):t.ins.length<=1000/\t.outs.length<=1000:=⟨Nat.le_trans h.ins (by decide),Nat.le_trans h.outs (by decide)⟩
theorem l4:zero32.length=32:=rfl
theorem z41(n:Nat)(x:PlS)(mark:UInt32):(ST n x mark).sm where
 ins:=(by decide:1<=8)
 outs:=(by decide:1<=8)
 hash:=fun y hy=>by rw[List.mem_singleton.1 hy];exact l4
 scr:=fun y hy=>by rw[List.mem_singleton.1 hy];exact(by decide:3<=100)
 oscr:=fun y hy=>by
  rw[List.mem_singleton.1 hy];show(YF _).length<=100;rw[EJ];decide
 wit:=fun y hy=>by rw[List.mem_singleton.1 hy];exact(by decide:0<=8)
 witi:=fun y hy b hb=>by rw[List.mem_singleton.1 hy] at hb;cases hb
theorem j90{l:List StS}{i:Nat}(hi:l[i]!.id.length=32)(k:Nat):∀ x∈M0 l i k,x.1.1.length=32:=by
 induction k with
 | zero=>intro x hx;cases hx
 | succ k ih=>
  intro x hx;rw[M0] at hx;split at hx
  ·exact ih x hx
  ·rcases List.mem_append.1 hx with h|h
   ·exact ih x h
   ·rw[List.mem_singleton.1 h];exact hi
theorem j92{l:List StS}(hl:allSt l)(i:Nat)(hi:i<=l.length):∀ x∈QC l i,x.1.1.length=32:=by
 induction i with
 | zero=>intro x hx;cases hx
 | succ i ih=>
  intro x hx
  rcases List.mem_append.1 hx with h|h
  ·exact ih (by omega) x h
  ·exact j90 (hl.get (by omega)).1 _ x h
theorem j89{l:List BlkS}(hl:allBl l):∀ x∈T7 l,x.1.1.length=32:=j92 (GS hl) _ (Nat.le_refl _)
theorem q64{l:List BlkS}(hl:allBl l):(T7 l).length<=100000000:=by
 have h1:=OF (GS hl) _ (Nat.le_refl _);have h2:=(GS hl).1;unfold T7;omega
theorem WK(s:SpS)(av:List (Plc×UInt64)):(T9 s av).length<=2:=by
 unfold T9;dsimp only;split
 ·exact(by decide:2<=2)
 ·exact(by decide:1<=2)
theorem j96{s:SpS}{av:List (Plc×UInt64)}{mark:UInt32}(h0:¬ av.length=0)(hav:∀ x∈av,x.1.1.length=32):(w61 s av mark).sm:=by
 have hk:s.from_.toNat%av.length<av.length:=Nat.mod_lt _ (by omega)
 have key:∀ x∈T9 s av,x.tx.length=32/\x.script.length<=100/\x.wit.length<=8/\∀ b∈x.wit,b.length<=100:=by
  intro x hx;unfold T9 at hx;dsimp only at hx;split at hx
  ·rename_i h2
   rcases List.mem_cons.1 hx with rfl|hx
   ·exact⟨hav _ (m1 hk),Nat.zero_le _,Nat.zero_le _,fun b hb=>by cases hb⟩
   ·rw[List.mem_singleton.1 hx];refine⟨hav _ (m1 h2.2),(by decide:1<=100),(by decide:2<=8),fun b hb=>?_⟩
    rcases List.mem_cons.1 hb with rfl|hb
    ·exact(by decide:1<=100)
    ·rw[List.mem_singleton.1 hb];exact Nat.zero_le _
  ·rw[List.mem_singleton.1 hx];exact⟨hav _ (m1 hk),Nat.zero_le _,Nat.zero_le _,fun b hb=>by cases hb⟩
 refine { ins:=Nat.le_trans (WK s av) (by decide),outs:=?_,hash:=fun x hx=>(key x hx).1,scr:=fun x hx=>(key x hx).2.1,oscr:=fun x hx=>?_,wit:=fun x hx=>(key x hx).2.2.1,witi:=fun x hx=>(key x hx).2.2.2 }
 ·show(M8 s (L0 s av) (min s.to.length 4)).length<=8;unfold M8;rw[List.length_map,List.length_range];omega
 ·obtain⟨j,_,rfl⟩:=List.mem_map.1 hx;show(YF _).length<=100;rw[EJ];decide
theorem j97{s:SpS}{av:List (Plc×UInt64)}{mark:UInt32}(hav:∀ x∈av,x.1.1.length=32)(h:(BG s av mark).2=true):(BG s av mark).1.sm:=by
 unfold BG at h ⊢
 cases hn:WZ s av with
 | true=>rw[hn] at h;cases h
 | false=>
  refine j96 (fun h0=>?_) hav;unfold WZ at hn;rw[decide_eq_true h0] at hn;cases hn
theorem TV{txs:List TxS}{h:HdS}(hh:h.wf)(ht:∀ t∈txs,t.sm)(hl:txs.length<=1000):BlkS.wf ⟨h,txs⟩ where
 hd:=hh
 txs:=fun t h=>(ht t h).wf
 sm:=fun t h=>(ht t h).le
 len:=hl
theorem OB:zeroH.wf:=⟨l4,l4⟩
theorem YJ{l:List BlkS}{b:BlkS}(h:allBl l)(hl:l.length<=99)(hb:b.wf):allBl (l++[b]):=
 ⟨by rw[List.length_append,List.length_singleton];omega,fun x hx=>by
  rcases List.mem_append.1 hx with h1|h1
  ·exact h.2 x h1
  ·rw[List.mem_singleton.1 h1];exact hb⟩
theorem z86{l:List BlkS}(hl:allBl l)(h99:l.length<=99)(x:PlS)(mark:UInt32)(i:Nat)(hi:i<=6):(∀ t∈QG l x mark i,t.sm)/\1<=(QG l x mark i).length/\(QG l x mark i).length<=i+1:=by
 induction i with
 | zero=>exact⟨fun t ht=>by rw[QG,List.mem_singleton] at ht;rw[ht];exact z41 _ _ _,Nat.le_refl _,Nat.le_refl _⟩
 | succ i ih=>
  obtain⟨h1,h2,h3⟩:=ih (by omega);have hb:=YJ hl h99 (TV OB h1 (by omega));rw[QG];split
  ·rename_i h4;refine⟨fun t ht=>?_,by rw[List.length_append];omega,by rw[List.length_append,List.length_singleton];omega⟩
   rcases List.mem_append.1 ht with h5|h5
   ·exact h1 t h5
   ·rw[List.mem_singleton.1 h5];exact j97 (j89 hb) h4
  ·exact⟨h1,h2,by omega⟩
theorem ND{l:List BlkS}(hl:allBl l)(h99:l.length<=99)(x:PlS)(mark:UInt32):(∀ t∈E2 l x mark,t.sm)/\1<=(E2 l x mark).length/\(E2 l x mark).length<=7:=by
 obtain⟨h1,h2,h3⟩:=z86 hl h99 x mark (min x.spends.length 6) (Nat.min_le_right _ _);exact⟨h1,h2,by show(QG l x mark _).length<=7;omega⟩
theorem BB{J:Hs->Hs->Hs}(hJ:∀ a b,(J a b).length=32){l:List Hs}(hl:allH l):(JR J l).length=32:=by
 unfold JR
 cases hk:D0 l.length with
 | zero=>exact l4
 | succ k=>exact(AD hJ hl k).get (q92 J l k (by omega))
theorem NH(l:List TxS):allH (l.map E9):=fun h hh=>by
 obtain⟨t,_,rfl⟩:=List.mem_map.1 hh;exact HC t
theorem x51(l:List BlkS)(x:PlS)(mark:UInt32):(w83 l x mark).1.wf:=z42 _ _ _ (BB W9 (NH _))
theorem z85{l:List BlkS}(hl:allBl l)(h99:l.length<=99)(x:PlS)(mark:UInt32):(r8 l x mark).1.wf:=by
 obtain⟨h1,h2,h3⟩:=ND hl h99 x mark;exact TV (x51 l x mark) h1 (by omega)
theorem FU(ps:List PlS)(i:Nat)(hi:i<=14):allBl (A8 ps i)/\1<=(A8 ps i).length/\(A8 ps i).length<=i+1:=by
 induction i with
 | zero=>
  refine⟨⟨(by decide:1<=100),fun b hb=>?_⟩,Nat.le_refl _,Nat.le_refl _⟩;rw[A8,List.mem_singleton] at hb;rw[hb];exact TV ⟨rfl,rfl⟩ (fun t h=>by cases h) (Nat.zero_le _)
 | succ i ih=>
  obtain⟨h1,h2,h3⟩:=ih (by omega);rw[A8];split
  ·refine⟨YJ h1 (by omega) (z85 h1 (by omega) _ _),by rw[List.length_append];omega,by rw[List.length_append,List.length_singleton];omega⟩
  ·exact⟨h1,h2,by omega⟩
theorem k23(ps:List PlS):allBl (q35 ps)/\1<=(q35 ps).length/\(q35 ps).length<=15:=by
 obtain⟨h1,h2,h3⟩:=FU ps (min ps.length 14) (Nat.min_le_right _ _);exact⟨h1,h2,by show(A8 ps _).length<=15;omega⟩
end Go.Sx

namespace Go.Sx
variable{P:Program}{C:Ctx}{σ σ' σ1:Sg}{a:Act}{w w':World}{ρ:Nat->Nat}{Fe Fe' Fb:Nat->List Nat}
theorem k35{G L:Nat->Prop}{n:UInt64}{v:Value}{F:List Nat}(h:VR w ρ G L (.u64 n) v F):v=.int .u64 n.toNat:=by
 simp only[VR,D.isAgg,Bool.false_eq_true,if_false] at h;cases h;rfl
theorem R.minU{x y:Operand}{t:Nat}{m n:UInt64}{ta tb rt:TypeId}{pos:String}{aft:Array Edge}{g:Option (Nat×Bool)}(hx:ev C.gl σ x=some (.u64 m))(hy:ev C.gl σ y=some (.u64 n))(ht:t<σ.n) :
 OpS P C ⟨some t,.call { callee:=.builtin .min,args:=#[x,y],argTypes:=#[ta,tb] },rt,pos,aft,g⟩ σ (σ.set t (.u64 (if n<m then n else m))):=by
 refine OpS.value fun a w ⟨ρ,Fe,Fb,st⟩=>?_;obtain⟨_,hvx,_⟩:=m5 st hx rfl;obtain⟨_,hvy,_⟩:=m5 st hy rfl;have hvx:=k35 hvx;have hvy:=k35 hvy;refine⟨.int .u64 (if n<m then n else m).toNat,w, ?_,st.put ht rfl (by simp only[VR,D.isAgg,Bool.false_eq_true,if_false];exact .u64 _)⟩;unfold execOp;simp[hvx,hvy,resolve,invoke,builtin,Builtin.min_,Builtin.min2];by_cases h:n<m
 ·rw[if_pos h,if_pos (UInt64.lt_iff_toNat_lt.1 h)]
 ·rw[if_neg h,if_neg (fun h3=>h (UInt64.lt_iff_toNat_lt.2 h3))]
end Go.Sx

namespace Go.Sx
variable{P:Program}{C:Ctx}{σ σ' σ1:Sg}{a:Act}{w w':World}{ρ:Nat->Nat}{Fe Fe' Fb:Nat->List Nat}
theorem StW.takeX{S:List Nat}{t:Nat}{d:D}{v:Value}{F:List Nat}(h:StW C σ a w ρ Fe Fb)(ht:t<σ.n)(hst:t∉S)(hS:∀ s∈S,∃ d0,σ.get s=some d0)
 (hw:Ext w w') (hF:F.Nodup) (hFs:∀ b∈F,(∃ s∈S,b∈Fe s)∨w.heap.size<=b)
 (hv:SR w' ρ (gd C (upd (fun u=>if u∈S then[] else Fe u) t F) Fb) (fun id=>(σ.box id).isSome) (a.put (some t) v) t d F) :
 StW C ((X8 σ S).set t d) (a.put (some t) v) w' ρ (upd (fun u=>if u∈S then[] else Fe u) t F) Fb:=by
 have hsz:t<a.tmps.size:=by rw[h.size];exact ht
 let Fx:Nat->List Nat:=upd (fun u=>if u∈S then[] else Fe u) t F
 have hFx:∀ u,u≠t->∀ b∈Fx u,b∈Fe u/\u∉S:=fun u hut b hb=>by
  simp only[Fx,q7 hut] at hb;by_cases hus:u∈S
  ·simp[hus] at hb
  ·simp only[hus,if_false] at hb;exact⟨hb,hus⟩
 have hFt:Fx t=F:=by simp[Fx]
 have hlt:=h.lt;have hh:∀ b,b<w.heap.size->w'.heap[b]? = w.heap[b]?:=hw.block
 have ho:∀ b,own Fx Fb b->own Fe Fb b∨w.heap.size<=b:=by
  rintro b (⟨u,hu⟩|hid)
  ·by_cases hut:u=t
   ·subst hut;rw[hFt] at hu
    rcases hFs b hu with ⟨s,_,hs⟩|hn
    ·exact .inl (.inl ⟨s,hs⟩)
    ·exact .inr hn
   ·exact .inl (.inl ⟨u,(hFx u hut b hu).1⟩)
  ·exact .inl (.inr hid)
 have hg:∀ b,gd C Fe Fb b->b<w.heap.size->gd C Fx Fb b:=fun b hb hbl=>⟨hb.1,fun hc=>(ho b hc).elim hb.2 (fun h2=>by omega)⟩
 obtain⟨hn,hbx⟩:=GM S σ
 have hbox:∀ id,((X8 σ S).set t d).box id=σ.box id:=fun id=>by
  show lk (X8 σ S).bx id=_;rw[hbx];rfl
 have hLf:(fun id=>(((X8 σ S).set t d).box id).isSome=true)=fun id=>(σ.box id).isSome=true:=by funext id;rw[hbox]
 have hnotF:∀ u,u≠t->∀ b∈Fx u,b∉F:=fun u hut b hb hbF=>by
  obtain⟨h1,h2⟩:=hFx u hut b hb
  rcases hFs b hbF with ⟨s,hs,h3⟩|hn
  ·exact h.dEE u s (fun e=>h2 (e▸hs)) b h1 h3
  ·have:=hlt b (.inl ⟨u,h1⟩);omega
 refine {
  size:=?_
  defs:=h.defs
  pin:=fun id b hp=>by rw[hbox];exact h.pin id b hp
  env:=fun u x hx=>?_
  envN:=fun u hu=>?_
  bx:=fun id x hx=>by rw[hLf];exact(h.bx id x (by rw[<- hbox];exact hx)).mono (fun b _ hb=>hh b hb) hg (fun i hi=>⟨hi,rfl⟩)
  bxN:=fun id hx=>h.bxN id (by rw[<- hbox];exact hx)
  nodE:=fun u=>?_
  nodB:=h.nodB
  dEE:=fun u u' huu b hb hb'=>?_
  dEB:=fun u id b hb hb'=>?_
  dBB:=h.dBB
  new:=fun b hb=>?_
  kept:=fun b hb=>?_
  os:=hw.os.trans h.os
  tape:=hw.tape.trans h.tape
  output:=hw.output.trans h.output
  grown:=Nat.le_trans h.grown hw.size
  gl:=h.gl
  okN:=fun b hb=>h.okN b (Nat.le_trans hw.size hb)
  okO:=fun b hb=>(ho b hb).elim (h.okO b) (h.okN b) }
 ·simp[Act.put,h.size,hn]
 ·rw[hLf];rw[m9] at hx;by_cases hut:u=t
  ·subst hut;simp at hx;subst hx;simp only[j1];exact hv
  ·simp only[hut,if_false] at hx;obtain⟨d1,hd1,rfl⟩:=Option.map_eq_some_iff.1 hx;rw[N2] at hd1;by_cases hus:u∈S
   ·simp only[hus,if_true,Option.some.injEq] at hd1;subst hd1;obtain⟨d0,hd0⟩:=hS u hus;obtain⟨v0,hv0⟩:=(h.env u d0 hd0).there;refine⟨by simp[q7 hut,hus],v0,by rw[v5 a t v u hsz];simp[hut,hv0]⟩
   ·simp only[hus,if_false] at hd1
    have hFu:upd (fun u=>if u∈S then[] else Fe u) t F u=Fe u:=by simp[q7 hut,hus]
    rw[hFu];exact R4 hut hsz (h.env u d1 hd1) (fun b _ hb=>hh b hb) hg (fun id hid=>⟨hid,rfl⟩) (fun id off v _ hc=>hw.cell hc)
 ·rw[m9] at hu;by_cases hut:u=t
  ·simp[hut] at hu
  ·simp only[hut,if_false,Option.map_eq_none_iff] at hu;rw[N2] at hu;by_cases hus:u∈S
   ·simp[hus] at hu
   ·simp only[hus,if_false] at hu;simp[q7 hut,hus,h.envN u hu]
 ·by_cases hut:u=t
  ·subst hut;simpa using hF
  ·simp only[q7 hut];split
   ·exact List.nodup_nil
   ·exact h.nodE u
 ·by_cases hut:u=t
  ·subst hut
   have hb1:b∈F:=by rw[<- hFt];exact hb
   exact hnotF u' (fun e=>huu e.symm) b hb' hb1
  ·by_cases hut':u'=t
   ·subst hut'
    have hb1:b∈F:=by rw[<- hFt];exact hb'
    exact hnotF u hut b hb hb1
   ·exact h.dEE u u' huu b (hFx u hut b hb).1 (hFx u' hut' b hb').1
 ·by_cases hut:u=t
  ·subst hut
   have hb1:b∈F:=by rw[<- hFt];exact hb
   rcases hFs b hb1 with ⟨s,_,hs⟩|hn
   ·exact h.dEB s id b hs hb'
   ·have:=hlt b (.inr ⟨id,hb'⟩);omega
  ·exact h.dEB u id b (hFx u hut b hb).1 hb'
 ·rcases ho b hb with h1|h1
  ·exact h.new b h1
  ·intro hk;have h2:=(h.kept b hk).2;have h3:=h.grown;omega
 ·obtain⟨h1,h2⟩:=h.kept b hb;exact⟨(hh b (Nat.lt_of_lt_of_le h2 h.grown)).trans h1,h2⟩
theorem q21{z i0:Nat}{cs:Array Value}{v:Value}{xc:List Value}(hxc:v.cells.toList=xc)(hl:xc.length=z)(hk:i0*z+z<=cs.size) :
 ∃ cs2:Array Value,(∀ rest,Instr.fill (fun i=>some (i*z,z)) cs ((i0,v)::rest)=Instr.fill (fun i=>some (i*z,z)) cs2 rest)/\cs2.size=cs.size/\(cs2.toList.drop (i0*z)).take z=xc/\cs2.toList.take (i0*z)=cs.toList.take (i0*z):=by
 have hsz:v.cells.size=z:=by rw[<- Array.length_toList,hxc,hl]
 have hfold:=F9 cs xc (i0*z) 0 (by omega);simp only[Nat.add_zero] at hfold
 have hcs2:(v.cells.zipIdx.foldl (fun(c:Array Value) (p:Value×Nat)=>c.setIfInBounds (i0*z+p.2) p.1) cs).toList=cs.toList.take (i0*z)++xc++cs.toList.drop (i0*z+xc.length):=by
  rw[<- hfold,<- hxc,<- Array.foldl_toList];simp
 generalize hc2:(v.cells.zipIdx.foldl (fun(c:Array Value) (p:Value×Nat)=>c.setIfInBounds (i0*z+p.2) p.1) cs)=cs2 at hcs2;refine⟨cs2,fun rest=>?_, ?_, ?_, ?_⟩
 ·simp only[Instr.fill]
  have hcond:¬ (v.cells.size≠z∨i0*z+v.cells.size>cs.size):=by rw[hsz];simp;omega
  simp only[ne_eq,Bool.or_eq_true,decide_eq_true_eq];rw[if_neg (by simpa using hcond)];rw[hc2]
 ·have:=congrArg List.length hcs2;rw[U5 _ _ _ (by simp;omega)] at this;simpa using this
 ·rw[hcs2,List.append_assoc,List.drop_left' (by simp;omega),List.take_append_of_le_length (by omega),List.take_of_length_le (by omega)]
 ·rw[hcs2,List.append_assoc,List.take_left' (by simp;omega)]
inductive EvL(gl:List (Nat×D))(σ:Sg)(z:Nat):Nat->List (Nat×Operand)->List D->List Nat->Prop
 | nil {k:Nat}:EvL gl σ z k [] [] []
 | pur {k:Nat} {x:Operand} {d:D} {ps:List (Nat×Operand)} {ds:List D} {S:List Nat} (h:ev gl σ x=some d) (hp:d.pur=true) (hn:d.np=true) (hz:d.sz=z) (t:EvL gl σ z (k+1) ps ds S):EvL gl σ z k ((k,x)::ps) (d::ds) S
 | own {k s:Nat} {d:D} {ps:List (Nat×Operand)} {ds:List D} {S:List Nat} (h:σ.get s=some d) (hr:d.isRef=false) (hn:d.np=true) (hz:d.sz=z) (hs:S.contains s=false) (t:EvL gl σ z (k+1) ps ds S):EvL gl σ z k ((k,.tmp s)::ps) (d::ds) (s::S)
theorem EvL.there{gl:List (Nat×D)}{z k:Nat}{ps:List (Nat×Operand)}{ds:List D}{S:List Nat}(h:EvL gl σ z k ps ds S):∀ s∈S,∃ d0,σ.get s=some d0:=by
 induction h with
 | nil=>intro s hs;cases hs
 | pur _ _ _ _ _ ih=>exact ih
 | own h _ _ _ _ _ ih=>
  intro s hs
  rcases List.mem_cons.1 hs with rfl|hs
  ·exact⟨_,h⟩
  ·exact ih s hs
theorem EvL.fill(st:StW C σ a w ρ Fe Fb){z k:Nat}{ps:List (Nat×Operand)}{ds:List D}{S:List Nat}(h:EvL C.gl σ z k ps ds S) :
 ∀ cs:Array Value,(k+ds.length)*z<=cs.size ->
  ∃ (out:Array Value) (Fs:Nat->List Nat),Instr.fill (fun i=>some (i*z,z)) cs (ps.map (fun p=>(p.1,a.eval p.2)))=some out/\out.size=cs.size/\out.toList.take (k*z)=cs.toList.take (k*z) /\
   (∀ i (h:i<ds.length),Rc w ρ (gd C Fe Fb) (fun id=>(σ.box id).isSome=true) false ds[i] ((out.toList.drop ((k+i)*z)).take z) (Fs i)) /\
   (∀ i,i<ds.length->(Fs i).Nodup/\∀ b∈Fs i,∃ s∈S,b∈Fe s)/\(∀ i j,i<ds.length->j<ds.length->i≠j->∀ b,b∈Fs i->b∉Fs j):=by
 have step:∀ {k:Nat} {x:Operand} {d:D} {ps:List (Nat×Operand)} {ds:List D} {S:List Nat} {xc:List Value} {Fx:List Nat},(a.eval x).cells.toList=xc->Rc w ρ (gd C Fe Fb) (fun id=>(σ.box id).isSome=true) false d xc Fx->d.sz=z->Fx.Nodup->∀ (T:List Nat),(∀ b∈Fx,∃ s∈T,b∈Fe s)->(∀ s∈S,s∈T)->(∀ b∈Fx,∀ s∈S,b∉Fe s) ->
  (∀ cs:Array Value,(k+1+ds.length)*z<=cs.size->∃ (out:Array Value) (Fs:Nat->List Nat),Instr.fill (fun i=>some (i*z,z)) cs (ps.map (fun p=>(p.1,a.eval p.2)))=some out/\out.size=cs.size/\out.toList.take ((k+1)*z)=cs.toList.take ((k+1)*z) /\
   (∀ i (h:i<ds.length),Rc w ρ (gd C Fe Fb) (fun id=>(σ.box id).isSome=true) false ds[i] ((out.toList.drop ((k+1+i)*z)).take z) (Fs i)) /\
   (∀ i,i<ds.length->(Fs i).Nodup/\∀ b∈Fs i,∃ s∈S,b∈Fe s)/\(∀ i j,i<ds.length->j<ds.length->i≠j->∀ b,b∈Fs i->b∉Fs j)) ->
  ∀ cs:Array Value,(k+(d::ds).length)*z<=cs.size->∃ (out:Array Value) (Fs:Nat->List Nat),Instr.fill (fun i=>some (i*z,z)) cs (((k,x)::ps).map (fun p=>(p.1,a.eval p.2)))=some out/\out.size=cs.size/\out.toList.take (k*z)=cs.toList.take (k*z) /\
   (∀ i (h:i<(d::ds).length),Rc w ρ (gd C Fe Fb) (fun id=>(σ.box id).isSome=true) false (d::ds)[i] ((out.toList.drop ((k+i)*z)).take z) (Fs i)) /\
   (∀ i,i<(d::ds).length->(Fs i).Nodup/\∀ b∈Fs i,∃ s∈T,b∈Fe s)/\(∀ i j,i<(d::ds).length->j<(d::ds).length->i≠j->∀ b,b∈Fs i->b∉Fs j):=by
  intro k x d ps ds S xc Fx hxc hrc hz hnd T hFx hST hdis ih cs hs
  have hs1:(k+1+ds.length)*z<=cs.size:=by
   rw[List.length_cons] at hs;rw[show k+1+ds.length=k+(ds.length+1) by omega];exact hs
  have hkz:k*z+z<=cs.size:=by
   have:=Nat.le_trans (Nat.mul_le_mul_right z (show k+1<=k+1+ds.length by omega)) hs1;rw[Nat.add_mul,Nat.one_mul] at this;exact this
  obtain⟨cs2,e1,e2,e3,e4⟩:=q21 (i0:=k) hxc (hrc.len.trans hz) hkz;obtain⟨out,Fs,q1,q2,q3,q4,q5,q6⟩:=ih cs2 (by rw[e2];exact hs1)
  have hz1:(k+1)*z=k*z+z:=by rw[Nat.add_mul,Nat.one_mul]
  have hmid:(out.toList.drop (k*z)).take z=xc:=by
   have:=congrArg (List.drop (k*z)) q3;rw[hz1,List.drop_take,List.drop_take,Nat.add_sub_cancel_left] at this;rw[this];exact e3
  have hpre:out.toList.take (k*z)=cs.toList.take (k*z):=by
   have:=congrArg (List.take (k*z)) q3;rw[hz1,List.take_take,List.take_take,Nat.min_eq_left (by omega)] at this;rw[this];exact e4
  refine⟨out,fun i=>match i with|0=>Fx|i+1=>Fs i, ?_,q2.trans e2,hpre, ?_, ?_, ?_⟩
  ·rw[List.map_cons,e1];exact q1
  ·intro i hi
   cases i with
   | zero=>simp only[Nat.add_zero,List.getElem_cons_zero,hmid];exact hrc
   | succ i=>
    simp only[List.getElem_cons_succ];have:=q4 i (by simpa using hi);rw[show k+1+i=k+(i+1) by omega] at this;exact this
  ·intro i hi
   cases i with
   | zero=>exact⟨hnd,hFx⟩
   | succ i=>
    obtain⟨h1,h2⟩:=q5 i (by simpa using hi);exact⟨h1,fun b hb=>by obtain⟨s,hs,hb'⟩:=h2 b hb;exact⟨s,hST s hs,hb'⟩⟩
  ·intro i j hi hj hij b hb
   cases i with
   | zero=>cases j with
    | zero=>exact absurd rfl hij
    | succ j=>
     intro hb';obtain⟨s,hs,h3⟩:=(q5 j (by simpa using hj)).2 b hb';exact hdis b hb s hs h3
   | succ i=>cases j with
    | zero=>
     intro hb';obtain⟨s,hs,h3⟩:=(q5 i (by simpa using hi)).2 b hb;exact hdis b hb' s hs h3
    | succ j=>exact q6 i j (by simpa using hi) (by simpa using hj) (by omega) b hb
 induction h with
 | nil=>intro cs _;exact⟨cs,fun _=>[],rfl,rfl,rfl,fun i hi=>by simp at hi,fun i hi=>by simp at hi,fun i j hi=>by simp at hi⟩
 | @pur k x d ps ds S h hp hn hz t ih=>
  obtain⟨xc,hxc,hrc⟩:=L9 st h hp;exact step hxc (hrc.unflag hn) hz List.nodup_nil S (by simp) (fun s hs=>hs) (by simp) ih
 | @own k s d ps ds S h hr hn hz hs t ih=>
  obtain⟨v,hv,hvr⟩:=(z9 hr).1 (st.env _ _ h)
  have hdead:d≠.dead:=by rintro rfl;simp[D.isRef] at hr
  have hrc:=(hvr.cells hdead).unflag hn
  have hs':s∉S:=by intro hm;rw[List.contains_iff_mem.2 hm] at hs;cases hs
  exact step (x:=.tmp s) (by rw[j8 hv]) hrc hz (st.nodE s) (s::S) (fun b hb=>⟨s,by simp,hb⟩) (fun s' h'=>List.mem_cons_of_mem _ h') (fun b hb s' h'=>st.dEE s s' (fun e=>hs' (e▸h')) b hb) ih
theorem R.bslO{t e z bytes k:Nat}{ps:List (Nat×Operand)}{ds:List D}{S:List Nat}{ty rt:TypeId}{pos:String}{aft:Array Edge}{g:Option (Nat×Bool)}[hT:SlT P ty e][hE:ElT P e z bytes]
 (hps:EvL C.gl σ z 0 ps ds S) (hk:ds.length=k) (hS:S.contains t=false) (ht:t<σ.n) (hsm:k*z<=16777216) :
 OpS P C ⟨some t,.buildSlice ty k ps.toArray,rt,pos,aft,g⟩ σ ((X8 σ S).set t (.sl (some e) z ds)):=by
 refine OpS.value fun a w ⟨ρ,Fe,Fb,st⟩=>?_;obtain⟨i,zv,hi,hsz,hby,hz,hzs,hpos,hone⟩:=hE.i;subst hk
 have htS:t∉S:=by intro hm;rw[List.contains_iff_mem.2 hm] at hS;cases hS
 obtain⟨out,Fs,q1,q2,_,q4,q5,q6⟩:=hps.fill st ((Array.range (ds.length*z)).map (zv.cells[·%zv.cells.size]!)) (by simp);simp only[Nat.zero_add] at q4
 have hml:ds.length<=maxLen:=by
  have:ds.length*1<=ds.length*z:=Nat.mul_le_mul_left _ hpos;simp only[maxLen];omega
 have hos:out.size=ds.length*z:=by rw[q2];simp
 let F:List Nat:=w.heap.size::(List.range ds.length).flatMap Fs
 have hin:∀ b∈(List.range ds.length).flatMap Fs,∃ s∈S,b∈Fe s:=fun b hb=>by
  obtain⟨j,hj,hx⟩:=List.mem_flatMap.1 hb;exact(q5 j (List.mem_range.1 hj)).2 b hx
 have hlt:=st.lt
 have hF:F.Nodup:=by
  refine List.nodup_cons.2 ⟨fun hm=>?_,Q4 (fun j hj=>(q5 j hj).1) (fun i j hi hj hij=>q6 i j hi hj hij)⟩;obtain⟨s,_,h2⟩:=hin _ hm;have:=hlt _ (.inl ⟨s,h2⟩);omega
 have hFs:∀ b∈F,(∃ s∈S,b∈Fe s)∨w.heap.size<=b:=fun b hb=>by
  rcases List.mem_cons.1 hb with rfl|hb
  ·exact .inr (Nat.le_refl _)
  ·exact .inl (hin b hb)
 have hgd:∀ b,gd C Fe Fb b->b<w.heap.size->gd C (upd (fun u=>if u∈S then[] else Fe u) t F) Fb b:=fun b hb hbl=>⟨hb.1,fun hc=>hb.2 (by
  rcases hc with ⟨u,hu⟩|hid
  ·by_cases hut:u=t
   ·subst hut;rw[j1] at hu
    rcases hFs b hu with ⟨s,_,hs⟩|hn
    ·exact .inl ⟨s,hs⟩
    ·omega
   ·rw[q7 hut] at hu;by_cases hus:u∈S
    ·simp[hus] at hu
    ·simp only[hus,if_false] at hu;exact .inl ⟨u,hu⟩
  ·exact .inr hid)⟩
 refine⟨.slice (some ⟨w.heap.size,0,none⟩) ds.length ds.length,w.alloc (.cells out e), ?_,ρ,_,Fb,st.takeX ht htS hps.there (Ext.alloc w _) hF hFs ((z9 rfl).2 ⟨.slice (some ⟨w.heap.size,0,none⟩) ds.length ds.length,by rw[v5 a t _ t (by rw[st.size];exact ht)];simp, ?_⟩)⟩
 ·unfold execOp
  have hps2:(ps.toArray.map fun x=>(x.1,a.eval x.2)).toList=ps.map (fun p=>(p.1,a.eval p.2)):=by simp
  by_cases h0:ds.length*z=0
  ·have q1':=q1;simp only[h0] at q1'
   have e0:(Array.range 0).map (fun x=>zv.cells[x%zv.cells.size]!)=(#[]:Array Value):=by simp[Array.range_zero']
   rw[e0] at q1';have e1:Array.range 0=#[]:=rfl;simp[Instr.buildSlice,run_underlying hT.u,ElT.size (P:=P) (e:=e),h0,hps2,e1,q1',newRow,newObj,Sem.run]
  ·simp[Instr.buildSlice,run_underlying hT.u,ElT.size (P:=P) (e:=e),h0,hps2,q1,newRow,newObj,Sem.run,zeroValue,typeInfo,hi,hz,show ¬ (16777216<ds.length*z) by omega]
 ·simp only[VR,D.isAgg,Bool.false_eq_true,if_false]
  have hcell:∀ u∈out.toList,u.oneCell'=true:=by
   intro u hu;obtain⟨j,hj,rfl⟩:=List.mem_iff_getElem.1 hu
   have hj1:j<ds.length*z:=by simpa [hos] using hj
   have hjz:j/z<ds.length:=Nat.div_lt_of_lt_mul (by rw[Nat.mul_comm];exact hj1);have hdm:=Nat.div_add_mod j z;have hmod:=Nat.mod_lt j hpos;rw[Nat.mul_comm] at hdm;refine(q4 (j/z) hjz).one _ (List.mem_iff_getElem?.2 ⟨j%z, ?_⟩);rw[List.getElem?_take,if_pos hmod,List.getElem?_drop,hdm,List.getElem?_eq_getElem hj]
  exact .slO w.heap.size out e ds.length z ds Fs (heap_alloc_new w _) (Nat.le_refl _) hml hos hcell (fun i hi=>(q4 i hi).mono (fun b hb hbl=>heap_alloc_old w _ hbl) hgd (fun id hid=>⟨hid,rfl⟩))
end Go.Sx

namespace Go.Sx
variable{pos:String}{aft:Array Edge}{g:Option (Nat×Bool)}
variable{P:Program}{C:Ctx}{σ σ' σ1:Sg}{a:Act}{w w':World}{ρ:Nat->Nat}{Fe Fe' Fb:Nat->List Nat}
theorem StW.takeY{S:List Nat}{t:Nat}{d:D}{v:Value}{F:List Nat}(h:StW C σ a w ρ Fe Fb)(ht:t<σ.n)(hst:t∉S)(hS:∀ s∈S,∃ d0,σ.get s=some d0)
 (hos:w'.os=w.os) (htape:TpR w' w) (hout:w'.output=w.output) (hsize:w.heap.size<=w'.heap.size)
 (hblk:∀ b,b<w.heap.size->(∀ s∈S,b∉Fe s)->w'.heap[b]? = w.heap[b]?) (hF:F.Nodup) (hFs:∀ b∈F,(∃ s∈S,b∈Fe s)∨w.heap.size<=b)
 (hv:SR w' ρ (gd C (upd (fun u=>if u∈S then[] else Fe u) t F) Fb) (fun id=>(σ.box id).isSome) (a.put (some t) v) t d F) :
 StW C ((X8 σ S).set t d) (a.put (some t) v) w' ρ (upd (fun u=>if u∈S then[] else Fe u) t F) Fb:=by
 have hsz:t<a.tmps.size:=by rw[h.size];exact ht
 let Fx:Nat->List Nat:=upd (fun u=>if u∈S then[] else Fe u) t F
 have hFx:∀ u,u≠t->∀ b∈Fx u,b∈Fe u/\u∉S:=fun u hut b hb=>by
  simp only[Fx,q7 hut] at hb;by_cases hus:u∈S
  ·simp[hus] at hb
  ·simp only[hus,if_false] at hb;exact⟨hb,hus⟩
 have hFt:Fx t=F:=by simp[Fx]
 have hlt:=h.lt;have hh:∀ b,gd C Fe Fb b->b<w.heap.size->w'.heap[b]? = w.heap[b]?:=fun b hb hl=>hblk b hl (fun s _ hm=>hb.2 (.inl ⟨s,hm⟩))
 have hcc:∀ id off v,(σ.box id).isSome=true->w.cell? ⟨ρ id,off,none⟩=some v->w'.cell? ⟨ρ id,off,none⟩=some v:=by
  intro id off v hid hc;have hl:=block_lt_of_cell hc;rw[<- hc];refine World.cell?_of_block (hblk _ hl ?_);intro s _ hm
  cases hb:σ.box id with
  | none=>simp[hb] at hid
  | some x=>exact h.dEB s id _ hm (h.bx id x hb).mem
 have ho:∀ b,own Fx Fb b->own Fe Fb b∨w.heap.size<=b:=by
  rintro b (⟨u,hu⟩|hid)
  ·by_cases hut:u=t
   ·subst hut;rw[hFt] at hu
    rcases hFs b hu with ⟨s,_,hs⟩|hn
    ·exact .inl (.inl ⟨s,hs⟩)
    ·exact .inr hn
   ·exact .inl (.inl ⟨u,(hFx u hut b hu).1⟩)
  ·exact .inl (.inr hid)
 have hg:∀ b,gd C Fe Fb b->b<w.heap.size->gd C Fx Fb b:=fun b hb hbl=>⟨hb.1,fun hc=>(ho b hc).elim hb.2 (fun h2=>by omega)⟩
 obtain⟨hn,hbx⟩:=GM S σ
 have hbox:∀ id,((X8 σ S).set t d).box id=σ.box id:=fun id=>by
  show lk (X8 σ S).bx id=_;rw[hbx];rfl
 have hLf:(fun id=>(((X8 σ S).set t d).box id).isSome=true)=fun id=>(σ.box id).isSome=true:=by funext id;rw[hbox]
 have hnotF:∀ u,u≠t->∀ b∈Fx u,b∉F:=fun u hut b hb hbF=>by
  obtain⟨h1,h2⟩:=hFx u hut b hb
  rcases hFs b hbF with ⟨s,hs,h3⟩|hn
  ·exact h.dEE u s (fun e=>h2 (e▸hs)) b h1 h3
  ·have:=hlt b (.inl ⟨u,h1⟩);omega
 refine {
  size:=?_
  defs:=h.defs
  pin:=fun id b hp=>by rw[hbox];exact h.pin id b hp
  env:=fun u x hx=>?_
  envN:=fun u hu=>?_
  bx:=fun id x hx=>by rw[hLf];exact(h.bx id x (by rw[<- hbox];exact hx)).mono (fun b hb hl=>hb.elim (fun hb=>hh b hb hl) (fun hb=>hblk b hl (fun s _ hm=>h.dEB s id b hm hb))) hg (fun i hi=>⟨hi,rfl⟩)
  bxN:=fun id hx=>h.bxN id (by rw[<- hbox];exact hx)
  nodE:=fun u=>?_
  nodB:=h.nodB
  dEE:=fun u u' huu b hb hb'=>?_
  dEB:=fun u id b hb hb'=>?_
  dBB:=h.dBB
  new:=fun b hb=>?_
  kept:=fun b hb=>?_
  os:=hos.trans h.os
  tape:=htape.trans h.tape
  output:=hout.trans h.output
  grown:=Nat.le_trans h.grown hsize
  gl:=h.gl
  okN:=fun b hb=>h.okN b (Nat.le_trans hsize hb)
  okO:=fun b hb=>(ho b hb).elim (h.okO b) (h.okN b) }
 ·simp[Act.put,h.size,hn]
 ·rw[hLf];rw[m9] at hx;by_cases hut:u=t
  ·subst hut;simp at hx;subst hx;simp only[j1];exact hv
  ·simp only[hut,if_false] at hx;obtain⟨d1,hd1,rfl⟩:=Option.map_eq_some_iff.1 hx;rw[N2] at hd1;by_cases hus:u∈S
   ·simp only[hus,if_true,Option.some.injEq] at hd1;subst hd1;obtain⟨d0,hd0⟩:=hS u hus;obtain⟨v0,hv0⟩:=(h.env u d0 hd0).there;refine⟨by simp[q7 hut,hus],v0,by rw[v5 a t v u hsz];simp[hut,hv0]⟩
   ·simp only[hus,if_false] at hd1
    have hFu:upd (fun u=>if u∈S then[] else Fe u) t F u=Fe u:=by simp[q7 hut,hus]
    rw[hFu];exact R4 hut hsz (h.env u d1 hd1) (fun b hb hl=>hb.elim (fun hb=>hh b hb hl) (fun hb=>hblk b hl (fun s hs hm=>h.dEE u s (fun e=>hus (e▸hs)) b hb hm))) hg (fun id hid=>⟨hid,rfl⟩) hcc
 ·rw[m9] at hu;by_cases hut:u=t
  ·simp[hut] at hu
  ·simp only[hut,if_false,Option.map_eq_none_iff] at hu;rw[N2] at hu;by_cases hus:u∈S
   ·simp[hus] at hu
   ·simp only[hus,if_false] at hu;simp[q7 hut,hus,h.envN u hu]
 ·by_cases hut:u=t
  ·subst hut;simpa using hF
  ·simp only[q7 hut];split
   ·exact List.nodup_nil
   ·exact h.nodE u
 ·by_cases hut:u=t
  ·subst hut
   have hb1:b∈F:=by rw[<- hFt];exact hb
   exact hnotF u' (fun e=>huu e.symm) b hb' hb1
  ·by_cases hut':u'=t
   ·subst hut'
    have hb1:b∈F:=by rw[<- hFt];exact hb'
    exact hnotF u hut b hb hb1
   ·exact h.dEE u u' huu b (hFx u hut b hb).1 (hFx u' hut' b hb').1
 ·by_cases hut:u=t
  ·subst hut
   have hb1:b∈F:=by rw[<- hFt];exact hb
   rcases hFs b hb1 with ⟨s,_,hs⟩|hn
   ·exact h.dEB s id b hs hb'
   ·have:=hlt b (.inr ⟨id,hb'⟩);omega
  ·exact h.dEB u id b (hFx u hut b hb).1 hb'
 ·rcases ho b hb with h1|h1
  ·exact h.new b h1
  ·intro hk;have h2:=(h.kept b hk).2;have h3:=h.grown;omega
 ·obtain⟨h1,h2⟩:=h.kept b hb;exact⟨(hblk b (Nat.lt_of_lt_of_le h2 h.grown) (fun s _ hm=>h.new b (.inl ⟨s,hm⟩) hb)).trans h1,h2⟩
theorem k68{G L:Nat->Prop}{e z:Nat}{l:List D}{v:Value}{F:List Nat}(h:Rc w ρ G L true (.sl (some e) z l) [v] F)(hF:F.Nodup) :
 ∃ (base:Option Addr) (cap:Nat) (news:List Value) (Fs2:Nat->List Nat),v=.slice base l.length cap/\((base=none/\l=[]/\cap=0)∨∃ a,base=some a/\∀ j u,news[j]? = some u->w.cell? (a.add j)=some u)/\news.length=l.length*z/\(∀ u∈news,u.oneCell'=true) /\
  (∀ j (h:j<l.length),Rc w ρ G L false l[j] ((news.drop (j*z)).take z) (Fs2 j))/\((List.range l.length).flatMap Fs2).Nodup/\∀ b∈(List.range l.length).flatMap Fs2,b∈F:=by
 generalize hv:[v]=cv at h
 cases h with
 | slN=>cases hv;exact⟨none,0,[],fun _=>[],rfl,.inl ⟨rfl,rfl,rfl⟩,by simp,by simp,fun j hj=>by simp at hj,by simp,by simp⟩
 | slE _ _ a=>cases hv;exact⟨some a,0,[],fun _=>[],rfl,.inr ⟨a,rfl,by simp⟩,by simp,by simp,fun j hj=>by simp at hj,by simp,by simp⟩
 | slO b cs e cap z l Fs hb hc hm hs ho hr=>
  cases hv
  have hsz:l.length*z<=cs.size:=by rw[hs];exact Nat.mul_le_mul_right z hc
  have hl:(cs.toList.take (l.length*z)).length=l.length*z:=by simp;omega
  refine⟨some ⟨b,0,none⟩,cap,cs.toList.take (l.length*z),Fs,rfl,.inr ⟨_,rfl,fun j u hu=>?_⟩,hl,fun u hu=>ho u (List.mem_of_mem_take hu),fun j hj=>?_,(List.nodup_cons.1 hF).2,fun b' hb'=>List.mem_cons_of_mem _ hb'⟩
  ·rw[X4,cell_of_row w b _ cs e _ hb];rw[List.getElem?_take] at hu;split at hu
   ·simpa using hu
   ·cases hu
  ·have h1:j*z+z<=l.length*z:=by
    have:=Nat.mul_le_mul_right z (show j+1<=l.length by omega);rw[Nat.add_mul] at this;omega
   have h2:((cs.toList.take (l.length*z)).drop (j*z)).take z=(cs.toList.drop (j*z)).take z:=by
    rw[List.drop_take,List.take_take,Nat.min_eq_left (by omega)]
   rw[h2];exact hr j hj
theorem R.appO2{s s0 s1 t e e1 z bytes:Nat}{l l' l2:List D}{ty rt:TypeId}[hT:SlT P ty e][hE:ElT P e z bytes]
 (ho:ownr σ s s0) (hs:σ.get s0=some (.sl (some e) z l)) (hs1:σ.get s1=some (.sl (some e1) z l')) (hne:Nat.beq s0 s1=false) (he:l++l'=l2) (hn:l.length+l'.length<=1073741824) (ht:t<σ.n) (hst:[s0,s1].contains t=false) (hby:bytes<=131072) :
 OpS P C ⟨some t,.call { callee:=.builtin .append,args:=#[.tmp s,.tmp s1],argTypes:=#[ty,ty] },rt,pos,aft,g⟩ σ ((X8 σ [s0,s1]).set t (.sl (some e) z l2)):=by
 subst he
 have hne':s0≠s1:=fun e=>by rw[e] at hne;simp at hne
 have htS:t∉[s0,s1]:=by intro hm;rw[List.contains_iff_mem.2 hm] at hst;cases hst
 refine OpS.value fun a w ⟨ρ,Fe,Fb,st⟩=>?_;obtain⟨v,hv,hv0,hr⟩:=XQ st ho hs;obtain⟨v1,hv1,_,hr1⟩:=XQ st (.inl rfl) hs1;obtain⟨base,cap,news,Fs2,rfl,q1,q2,q3,q4,q5,q6⟩:=k68 hr1 (st.nodE s1);obtain⟨f1,f2⟩:=fits hby hn;obtain⟨v',w',F',hrun,ht',hnd,hsub,hres⟩:=NV (P:=P) (t:=ty) (e:=e) (bytes:=bytes) (ty:=rt) (Fs2:=Fs2) hr (.inr rfl) (st.nodE s0) q1 q2 q3 q4 q5 (fun b hb hb'=>st.dEE s1 s0 (fun e=>hne' e.symm) b (q6 b hb) hb') (fun b hb hm=>hb.2 (.inl ⟨s0,hm⟩)) f1 f2
 have hFs:∀ b∈F',(∃ s∈[s0,s1],b∈Fe s)∨w.heap.size<=b:=fun b hb=>by
  rcases hsub b hb with h|h|h
  ·exact .inl ⟨s0,by simp,h⟩
  ·exact .inl ⟨s1,by simp,q6 b h⟩
  ·exact .inr h
 have hthere:∀ u∈[s0,s1],∃ d0,σ.get u=some d0:=fun u hu=>by
  rcases List.mem_cons.1 hu with rfl|hu
  ·exact⟨_,hs⟩
  ·rw[List.mem_singleton.1 hu];exact⟨_,hs1⟩
 refine⟨v',w', ?_,ρ,_,Fb,st.takeY ht htS hthere ht'.os ht'.tape ht'.output ht'.size (fun b hb hnb=>ht'.blk b hb (hnb s0 (by simp))) hnd hFs ((z9 rfl).2 ⟨v',by rw[v5 a t _ t (by rw[st.size];exact ht)];simp, ?_⟩)⟩
 ·unfold execOp;simp[resolve,invoke,builtin,j8 hv,j8 hv1,hrun]
 ·simp only[VR,D.isAgg,Bool.false_eq_true,if_false];refine hres _ (fun b hb hl=>⟨hb.1,fun hc=>?_⟩)
  rcases hc with ⟨u,hu⟩|hid
  ·by_cases hut:u=t
   ·subst hut;rw[j1] at hu
    rcases hFs b hu with ⟨s',_,h⟩|h
    ·exact hb.2 (.inl ⟨s',h⟩)
    ·omega
   ·rw[q7 hut] at hu;by_cases hus:u∈[s0,s1]
    ·simp only[hus,if_true] at hu;cases hu
    ·simp only[hus,if_false] at hu;exact hb.2 (.inl ⟨u,hu⟩)
  ·exact hb.2 (.inr hid)
theorem CQ{s s1 id off t e e1 z bytes:Nat}{path:List Nat}{d0 d0':D}{l l' l2:List D}{ty rt:TypeId}[hT:SlT P ty e][hE:ElT P e z bytes]
 (h:σ.get s=some (.alb id off path)) (hb:σ.box id=some (.var d0)) (hl:d0.loc path=some (off,.sl (some e) z l)) (hna:d0.noArr path=true) (hu:d0.upd path .dead=some d0')
 {τ:Sg} (hτ:(σ.putB id (.var d0')).upd s (.sl (some e) z l)=τ) (hs:τ.get s=some (.sl (some e) z l)) (hs1:τ.get s1=some (.sl (some e1) z l')) (hne:Nat.beq s s1=false)
 (he:l++l'=l2) (hn:l.length+l'.length<=1073741824) (ht:t<σ.n) (hst:[s,s1].contains t=false) (hby:bytes<=131072) :
 OpS P C ⟨some t,.call { callee:=.builtin .append,args:=#[.tmp s,.tmp s1],argTypes:=#[ty,ty] },rt,pos,aft,g⟩ σ ((X8 τ [s,s1]).set t (.sl (some e) z l2)):=by
 subst hτ;exact OG (fun a w hs=>DT h hb hl hna hu hs) (R.appO2 (.inl rfl) hs hs1 hne he hn ht hst hby)
end Go.Sx

namespace Go.Sx
variable{pos:String}{aft:Array Edge}{g:Option (Nat×Bool)}
variable{P:Program}{C:Ctx}{Q:Exit->Sg->Prop}{σ σ' σ1:Sg}{a:Act}{w w':World}{ρ:Nat->Nat}{Fe Fe' Fb:Nat->List Nat}{ops:Array Oper}
def dsts:List Oper->List Nat
 | []=>[]
 | o::r=>match o.dst with
  | some t=>t::dsts r
  | none=>dsts r
theorem BM{a:Act}{d:Option Nat}{v:Value}{t:Nat}(h:d≠some t):(a.put d v).tmps[t]? = a.tmps[t]?:=by
 cases d with
 | none=>rfl
 | some u=>
  have hne:u≠t:=fun e=>h (e▸rfl);simp[Act.put,Array.getElem?_setIfInBounds,hne]
theorem XY{Q Q':Exit->Act->World->Prop}(h:LetsOut Q)(hq:∀ e a w,e≠.normal->Q e a w->Q' e a w):LetsOut Q':=by
 obtain⟨a,w,h⟩:=h;exact⟨a,w,hq _ _ _ (by simp) h⟩
theorem QA{F:Fence}{n:Nat}{o:Oper}{a:Act}{K K':Act->World->Prop}{Q Q':Exit->Act->World->Prop}{r:Result Next}
 (hk:∀ (b:Act) (w:World) (v:Value),b.tmps=a.tmps->K (b.put o.dst v) w->K' (b.put o.dst v) w) (hq:∀ e a w,e≠.normal->Q e a w->Q' e a w)
 (h:o.uponIn F n P a K Q r):o.uponIn F n P a K' Q' r:=by
 cases r with
 | ok nx w'=>
  cases nx with
  | value v=>exact hk _ _ _ rfl h
  | skip=>exact hk _ _ _ rfl h
  | «defer» d=>exact hk { a with defers:=d::a.defers } _ _ rfl h
  | enter f args=>
   refine⟨h.1,h.2.mono fun e w'' hx=>?_⟩
   cases e with
   | returned v=>exact hk _ _ _ rfl hx
   | panicked ch=>exact hq _ _ _ (by simp) hx
   | outgrown=>exact XY hx hq
  | row r args=>exact⟨h.1,h.2.mono fun v w'' hx=>hk _ _ _ rfl hx⟩
  | round l f tmps assign body=>
   refine⟨h.1,h.2.mono fun e w'' hx=>?_⟩
   cases e with
   | returned v=>exact hk _ _ _ rfl hx
   | panicked ch=>exact hq _ _ _ (by simp) hx
   | outgrown=>exact XY hx hq
  | _=>exact h
 | halt x w'=>
  cases x with
  | panic v=>exact hq _ _ _ (by simp) h
  | _=>exact h
theorem QN{F:Fence}{n:Nat}{Q Q1:Exit->Act->World->Prop}{l2:List Oper}:∀ (l1:List Oper) (a:Act) (w:World),wpListIn F n P ops Q1 l1 a w ->
 (∀ e a w,e≠.normal->Q1 e a w->Q e a w)->(∀ a' w',Q1 .normal a' w'->(∀ t,t∉dsts l1->a'.tmps[t]? = a.tmps[t]?)->wpListIn F n P ops Q l2 a' w')->wpListIn F n P ops Q (l1++l2) a w:=by
 intro l1
 induction l1 with
 | nil=>intro a w h _ k;exact k a w h (fun _ _=>rfl)
 | cons o l ih=>
  intro a w h hq k
  have hstep:∀ (b:Act) (w1:World) (v:Value),b.tmps=a.tmps->wpListIn F n P ops Q1 l (b.put o.dst v) w1->wpListIn F n P ops Q (l++l2) (b.put o.dst v) w1:=by
   intro b w1 v hb hx;refine ih _ _ hx hq (fun a' w' h1 h2=>k a' w' h1 fun t ht=>?_)
   have hne:o.dst≠some t:=by
    intro e;apply ht;simp[dsts,e]
   have hnl:t∉dsts l:=by
    intro hm;apply ht;unfold dsts;split
    ·exact List.mem_cons_of_mem _ hm
    ·exact hm
   rw[h2 t hnl,BM hne,hb]
  simp only[List.cons_append,wpListIn] at h ⊢;split
  ·rename_i hw;simp only[hw,if_true] at h;exact⟨h.1,QA hstep hq h.2⟩
  ·rename_i hw;simp only[hw,if_false,Bool.false_eq_true] at h;exact⟨h.1,hstep a w undef rfl h.2⟩
inductive BorE(gl:List (Nat×D))(σ:Sg):List (Nat×D)->Prop
 | nil:BorE gl σ []
 | cons {t:Nat} {d:D} {r:List (Nat×D)} (h:Bor gl σ (.tmp t) d) (hr:d.isRef=false) (k:BorE gl σ r):BorE gl σ ((t,d)::r)
theorem BorE.get{gl:List (Nat×D)}{l:List (Nat×D)}(h:BorE gl σ l){t:Nat}{d:D}(ht:lk l t=some d):Bor gl σ (.tmp t) d/\d.isRef=false:=by
 induction h with
 | nil=>cases ht
 | @cons t' d' r h hr k ih=>
  rw[y0] at ht;by_cases e:t'=t
  ·subst e;simp only[if_true,Option.some.injEq] at ht;subst ht;exact⟨h,hr⟩
  ·simp only[e,if_false] at ht;exact ih ht
theorem Bor.there(st:StW C σ a w ρ Fe Fb){t:Nat}{d:D}(h:Bor C.gl σ (.tmp t) d):∃ v,a.tmps[t]? = some v:=by
 have key:∀ d0,σ.get t=some d0->∃ v,a.tmps[t]? = some v:=fun d0 h0=>(st.env t d0 h0).there
 cases h with
 | pur h _ _=>exact key _ h
 | nils h=>exact key _ h
 | own h _ _ _=>exact key _ h
 | al h _ _ _ _=>exact key _ h
 | sc h _=>
  obtain⟨base,len,cap,hv,_⟩:=XT st h;exact⟨_,hv⟩
 | ptr h _ _ _ _=>exact key _ h
def stays(W:List Nat)(d:D):Bool:=
 match d with
 | .al s=>!(W.contains s)
 | d=>!d.isRef
theorem OS{W:List Nat}{d:D}(h:stays W d=true):d.isRef=false∨∃ s,d=.al s/\W.contains s=false:=by
 cases d with
 | al s=>exact .inr ⟨s,rfl,by simpa [stays] using h⟩
 | _=>left;simpa [stays] using h
def Back(σ σ1:Sg)(W:List Nat):List (Nat×D)->Prop
 | []=>True
 | (t,d)::r=>(bif W.contains t then σ1.get t=some d/\d.isRef=false/\d.np=true/\Frs d else σ.get t=some d/\stays W d=true)/\Back σ σ1 W r
theorem Back.get{σ σ1:Sg}{W:List Nat}:∀ {l:List (Nat×D)},Back σ σ1 W l->∀ {t:Nat} {d:D},lk l t=some d->(W.contains t=true/\σ1.get t=some d/\d.isRef=false/\d.np=true/\Frs d)∨(W.contains t=false/\σ.get t=some d/\stays W d=true):=by
 intro l
 induction l with
 | nil=>intro _ t d h;cases h
 | cons x r ih=>
  obtain⟨t',d'⟩:=x;intro h t d ht;rw[y0] at ht;by_cases e:t'=t
  ·subst e;simp only[if_true,Option.some.injEq] at ht;subst ht;have h1:=h.1
   cases hW:W.contains t' with
   | true=>rw[hW] at h1;exact .inl ⟨rfl,h1⟩
   | false=>rw[hW] at h1;exact .inr ⟨rfl,h1⟩
  ·simp only[e,if_false] at ht;exact ih h.2 ht
def Ctx.inl(C:Ctx)(w:World):Ctx:={ w0:=w,keep:=fun b=>b<w.heap.size,ok:=fun _=>True,gl:=C.gl,rd:=C.rd,pin:=fun _=>none,df:=C.df }
theorem StW.inl(st:StW C σ a w ρ Fe Fb){env1:List (Nat×D)}(h:BorE C.gl σ env1):StW (C.inl w) ⟨σ.n,env1,[]⟩ a w (fun x=>x) (fun _=>[]) (fun _=>[]):=by
 have hno:∀ b,¬ own (fun _=>[]) (fun _=>[]) b:=by
  rintro b (⟨t,ht⟩|⟨id,hid⟩)
  ·cases ht
  ·cases hid
 refine⟨st.size,st.defs,fun id b hp=>(by cases hp),fun t d hd=>?_,fun t _=>rfl,fun id d hd=>(by cases hd),fun id _=>rfl,fun _=>List.nodup_nil,fun _=>List.nodup_nil,fun _ _ _ b hb=>(by cases hb),fun _ _ b hb=>(by cases hb),fun _ _ _ b hb=>(by cases hb),fun b hb=>absurd hb (hno b),fun b hb=>⟨rfl,hb⟩,rfl,⟨rfl,Nat.le_refl _⟩,rfl,Nat.le_refl _,fun g d hg=>?_,fun _ _=>trivial,fun _ _=>trivial⟩
 ·obtain⟨hb,hr⟩:=h.get hd;obtain⟨v,hv⟩:=hb.there st;have:=hb.ok st;rw[j8 hv] at this;exact(z9 hr).2 ⟨v,hv,this.mono (fun _ _ _=>rfl) (fun b _ _=>⟨trivial,hno b⟩) (fun id hid=>hid.elim)⟩
 ·obtain⟨_,cs,e,fz,h1,h2⟩:=YD st g d hg;exact⟨(Array.getElem?_eq_some_iff.1 h1).1,trivial,cs,e,fz,h1,h2⟩
theorem StW.back{W:List Nat}{env2:List (Nat×D)}{a':Act}{ρ1:Nat->Nat}{Fe1 Fb1:Nat->List Nat}(st:StW C σ a w ρ Fe Fb)(st1:StW (C.inl w) σ1 a' w' ρ1 Fe1 Fb1)(hn:σ1.n=σ.n)
 (hfr:∀ t,W.contains t=false->a'.tmps[t]? = a.tmps[t]?) (h:Back σ σ1 W env2) :
 StW C ⟨σ.n,env2,σ.bx⟩ a' w' ρ (fun t=>match lk env2 t with|none=>[]|some _=>bif W.contains t then Fe1 t else Fe t) Fb:=by
 let F2:Nat->List Nat:=fun t=>match lk env2 t with|none=>[]|some _=>bif W.contains t then Fe1 t else Fe t
 have hlt:=st.lt;have hblk:∀ b,b<w.heap.size->w'.heap[b]? = w.heap[b]?:=fun b hb=>(st1.kept b hb).1;have hnew1:∀ b,own Fe1 Fb1 b->w.heap.size<=b:=fun b hb=>Nat.le_of_not_lt (st1.new b hb)
 have hF2:∀ t b,b∈F2 t->(W.contains t=true/\b∈Fe1 t/\w.heap.size<=b)∨(W.contains t=false/\b∈Fe t/\b<w.heap.size):=by
  intro t b hb;simp only[F2] at hb;split at hb
  ·cases hb
  ·cases hW:W.contains t with
   | true=>rw[hW] at hb;exact .inl ⟨rfl,hb,hnew1 b (.inl ⟨t,hb⟩)⟩
   | false=>rw[hW] at hb;exact .inr ⟨rfl,hb,hlt b (.inl ⟨t,hb⟩)⟩
 have hown:∀ b,own F2 Fb b->own Fe Fb b∨w.heap.size<=b:=by
  rintro b (⟨t,ht⟩|hid)
  ·rcases hF2 t b ht with ⟨_,_,h3⟩|⟨_,h2,_⟩
   ·exact .inr h3
   ·exact .inl (.inl ⟨t,h2⟩)
  ·exact .inl (.inr hid)
 have hgd:∀ b,gd C Fe Fb b->b<w.heap.size->gd C F2 Fb b:=fun b hb hl=>⟨hb.1,fun ho=>by
  rcases hown b ho with h1|h1
  ·exact hb.2 h1
  ·omega⟩
 have hsz:w.heap.size<=w'.heap.size:=st1.grown;refine { size:=st1.size.trans hn,defs:=st1.defs,pin:=st.pin,env:=fun t d hd=>?_,envN:=fun t ht=>?_,bx:=fun id d hd=>?_,bxN:=st.bxN,nodE:=fun t=>?_,nodB:=st.nodB,dEE:=fun t t' htt b hb hb'=>?_,dEB:=fun t id b hb hb'=>?_,dBB:=st.dBB,new:=fun b hb hk=>?_,kept:=fun b hk=>?_,os:=st1.os.trans st.os,tape:=st1.tape.trans st.tape,output:=st1.output.trans st.output,grown:=Nat.le_trans st.grown hsz,gl:=st.gl,okN:=fun b hb=>st.okN b (Nat.le_trans hsz hb),okO:=fun b hb=>?_ }
 ·have hd':lk env2 t=some d:=hd;show SR w' ρ (gd C F2 Fb) _ a' t d (F2 t)
  rcases h.get hd' with ⟨hW,h1,h2,h3,h4⟩|⟨hW,h1,h2⟩
  ·have e2:F2 t=Fe1 t:=by simp only[F2,hd',hW,cond_true]
   rw[e2];obtain⟨v,hv,hr⟩:=(z9 h2).1 (st1.env t d h1);exact(z9 h2).2 ⟨v,hv,(hr.frs h4).noL h3⟩
  ·have e2:F2 t=Fe t:=by simp only[F2,hd',hW,cond_false]
   rw[e2]
   rcases OS h2 with h9|⟨s,rfl,h9⟩
   ·obtain⟨v,hv,hr⟩:=(z9 h9).1 (st.env t d h1);exact(z9 h9).2 ⟨v,by rw[hfr t hW];exact hv,hr.mono (fun b _ hb=>hblk b hb) hgd (fun id hid=>⟨hid,rfl⟩)⟩
   ·obtain⟨h3,v,h4,h5⟩:=st.env t _ h1;exact⟨h3,v,by rw[hfr t hW];exact h4,by rw[hfr s h9];exact h5⟩
 ·have ht':lk env2 t=none:=ht;show F2 t=[];simp only[F2,ht']
 ·exact(st.bx id d hd).mono (fun b _ hb=>hblk b hb) hgd (fun id hid=>⟨hid,rfl⟩)
 ·show(F2 t).Nodup;simp only[F2];split
  ·exact List.nodup_nil
  ·cases W.contains t with
   | true=>exact st1.nodE t
   | false=>exact st.nodE t
 ·rcases hF2 t b hb with ⟨_,h2,h3⟩|⟨_,h2,h3⟩<;>rcases hF2 t' b hb' with ⟨_,h5,h6⟩|⟨_,h5,h6⟩
  ·exact st1.dEE t t' htt b h2 h5
  ·omega
  ·omega
  ·exact st.dEE t t' htt b h2 h5
 ·rcases hF2 t b hb with ⟨_,h2,h3⟩|⟨_,h2,h3⟩
  ·have:=hlt b (.inr ⟨id,hb'⟩);omega
  ·exact st.dEB t id b h2 hb'
 ·rcases hown b hb with h1|h1
  ·exact st.new b h1 hk
  ·have:=(st.kept b hk).2;have:=st.grown;omega
 ·have h1:=st.kept b hk;exact⟨(hblk b (Nat.lt_of_lt_of_le h1.2 st.grown)).trans h1.1,h1.2⟩
 ·rcases hown b hb with h1|h1
  ·exact st.okO b h1
  ·exact st.okN b h1
theorem R.extO{s t k:Nat}{ds ds':List D}{d:D}{rt:TypeId}
 (h:σ.get s=some (.tup ds)) (hk:ds[k]? = some d) (hr:d.isRef=false) (hds:ds.set k .dead=ds') (hp:ds'.all (fun x=>x.pur||x.isRef)=true) (hst:Nat.beq t s=false) (ht:t<σ.n) :
 OpS P C ⟨some t,.extract (.tmp s) k,rt,pos,aft,g⟩ σ (((X8 σ [s]).set t d).upd s (.tup ds')):=by
 subst hds
 have hne:t≠s:=fun e=>by rw[e] at hst;simp at hst
 refine OpS.value fun a w ⟨ρ,Fe,Fb,st⟩=>?_;obtain⟨vs,Fs,h1,h2,h3,h4⟩:=st.env s _ h;obtain⟨hkl,hkd⟩:=List.getElem?_eq_some_iff.1 hk
 have hv:vs[k]? = some (vs.getD k undef):=by
  have:k<vs.length:=by omega
  rw[List.getD_eq_getElem?_getD,List.getElem?_eq_getElem this];rfl
 rcases h4 k hkl with ⟨h5,_⟩|⟨h5,h6⟩
 ·rw[hkd] at h5;rw[h5] at hr;cases hr
 ·rw[hkd] at h6
  have hsub:∀ b∈Fs k,b∈Fe s:=fun b hb=>by rw[h3];exact List.mem_flatMap.2 ⟨k,List.mem_range.2 hkl,hb⟩
  have hnd:(Fs k).Nodup:=by
   have:=st.nodE s;rw[h3] at this;exact(H2 this).1 k hkl
  have hgd:∀ b,gd C Fe Fb b->gd C (upd (fun u=>if u∈[s] then[] else Fe u) t (Fs k)) Fb b:=fun b hb=>⟨hb.1,fun hc=>hb.2 (by
   rcases hc with ⟨u,hu⟩|hid
   ·by_cases hut:u=t
    ·subst hut;rw[j1] at hu;exact .inl ⟨s,hsub b hu⟩
    ·rw[q7 hut] at hu;by_cases hus:u∈[s]
     ·simp only[hus,if_true] at hu;cases hu
     ·simp only[hus,if_false] at hu;exact .inl ⟨u,hu⟩
   ·exact .inr hid)⟩
  have hput:(a.put (some t) (vs.getD k undef)).tmps[t]? = some (vs.getD k undef):=by rw[v5 a t _ t (by rw[st.size];exact ht)];simp
  have st2:=st.takeL (S:=[s]) (t:=t) (d:=d) (v:=vs.getD k undef) (F:=Fs k) ht (by simpa using hne) (fun u hu=>by rw[List.mem_singleton.1 hu];exact⟨_,h⟩) hnd (fun b hb=>⟨s,by simp,hsub b hb⟩)
   ((z9 hr).2 ⟨_,hput,h6.mono (fun _ _ _=>rfl) (fun b hb _=>hgd b hb) (fun id hid=>⟨hid,rfl⟩)⟩)
  have hgs:((X8 σ [s]).set t d).get s=some .dead:=by
   rw[m9,if_neg (fun e=>hne e.symm),N2];simp[scrub]
  have hFs0:upd (fun u=>if u∈[s] then[] else Fe u) t (Fs k) s=[]:=by rw[q7 (fun e=>hne e.symm)];simp
  have st3:=st2.turn (s:=s) (d':=.tup (ds.set k .dead)) (F:=[]) hgs rfl ⟨rfl,Nat.le_refl _⟩ rfl (Nat.le_refl _) (fun _ _ _=>rfl) List.nodup_nil (by simp) (by
   refine⟨vs,fun _=>[],by rw[v5 a t _ s (by rw[st.size];exact ht)];simp[show ¬ s=t from fun e=>hne e.symm,h1],by rw[h2];simp,(EA _).symm,fun j hj=>?_⟩
   have hj0:j<ds.length:=by simpa using hj
   by_cases hjk:k=j
   ·subst hjk;left;exact⟨by simp,rfl⟩
   ·have e1:(ds.set k .dead)[j]=ds[j]:=by rw[List.getElem_set];simp[hjk]
    have e2:=List.all_eq_true.1 hp _ (List.getElem_mem hj);rw[e1] at e2 ⊢
    rcases h4 j hj0 with h7|⟨h7,h8⟩
    ·exact .inl ⟨h7.1,rfl⟩
    ·right
     have hpj:ds[j].pur=true:=by simpa [h7] using e2
     have hF:=h8.pur hpj;rw[hF] at h8;refine⟨h7,h8.mono (fun _ _ _=>rfl) (fun b hb _=>⟨hb.1,fun hc=>(hgd b hb).2 ?_⟩) (fun id hid=>⟨?_,rfl⟩)⟩
     ·rcases hc with ⟨u,hu⟩|hid
      ·by_cases hus:u=s
       ·subst hus;rw[j1] at hu;cases hu
       ·rw[q7 hus] at hu;exact .inl ⟨u,hu⟩
      ·exact .inr hid
     ·have:((X8 σ [s]).set t d).box id=σ.box id:=by
       show lk (X8 σ [s]).bx id=_;rw[(GM [s] σ).2];rfl
      rw[this];exact hid)
  refine⟨vs.getD k undef,w, ?_,ρ,_,Fb,st3⟩;clear st3 st2 hput h6;generalize vs.getD k undef=x at hv
  have hx:vs.toArray[k]? = some x:=by rw[List.getElem?_toArray];exact hv
  unfold execOp;simp only[Instr.extract,j8 h1,hx,Sem.run_bind,Sem.run_pure,Result.andThen_ok]
theorem R.movTO{s t:Nat}{ds:List D}{rt:TypeId}(h:σ.get s=some (.tup ds))(hst:Nat.beq t s=false)(ht:t<σ.n) :
 OpS P C ⟨some t,.move (.tmp s),rt,pos,aft,g⟩ σ ((X8 σ [s]).set t (.tup ds)):=by
 have hne:t≠s:=fun e=>by rw[e] at hst;simp at hst
 refine OpS.value fun a w ⟨ρ,Fe,Fb,st⟩=>?_;obtain⟨vs,Fs,h1,h2,h3,h4⟩:=st.env s _ h
 have hgd:∀ b,gd C Fe Fb b->gd C (upd (fun u=>if u∈[s] then[] else Fe u) t (Fe s)) Fb b:=fun b hb=>⟨hb.1,fun hc=>hb.2 (by
  rcases hc with ⟨u,hu⟩|hid
  ·by_cases hut:u=t
   ·subst hut;rw[j1] at hu;exact .inl ⟨s,hu⟩
   ·rw[q7 hut] at hu;by_cases hus:u∈[s]
    ·simp only[hus,if_true] at hu;cases hu
    ·simp only[hus,if_false] at hu;exact .inl ⟨u,hu⟩
  ·exact .inr hid)⟩
 have hput:(a.put (some t) (.tuple vs.toArray)).tmps[t]? = some (.tuple vs.toArray):=by rw[v5 a t _ t (by rw[st.size];exact ht)];simp
 refine⟨.tuple vs.toArray,w, ?_,ρ,_,Fb,st.takeL (S:=[s]) (t:=t) (F:=Fe s) ht (by simpa using hne) (fun u hu=>by rw[List.mem_singleton.1 hu];exact⟨_,h⟩) (st.nodE s) (fun b hb=>⟨s,by simp,hb⟩)
  ⟨vs,Fs,hput,h2,h3,fun k hk=>(h4 k hk).imp id fun hx=>⟨hx.1,hx.2.mono (fun _ _ _=>rfl) (fun b hb _=>hgd b hb) (fun id hid=>⟨hid,rfl⟩)⟩⟩⟩
 unfold execOp;simp[j8 h1]
theorem TL.wpListO{l:List Oper}(h:TL P C Q l σ)(ops:Array Oper):WL P C ops l Q σ:=by
 induction l generalizing σ with
 | nil=>
  obtain⟨live,env',bx',n',p1,p2,p4,p3⟩:=h
  exact fun a w hs=>⟨_,hs.picks p1 p2 p4,p3⟩
 | cons o l ih=>
  obtain⟨h1,σ',h2,h3⟩:=h;exact WL.cons h1 h2 (ih h3)
def WIn(P:Program)(C:Ctx)(c:Code)(Q:Exit->Sg->Prop)(σ σ1:Sg)(W0:List Nat):Prop:=
 ∀ (a0:Act) (w0:World) (ρ:Nat->Nat) (Fe Fb:Nat->List Nat),StW C σ a0 w0 ρ Fe Fb->∀ (a:Act) (w:World),St (C.inl w0) σ1 a w->(∀ t,W0.contains t=false->a.tmps[t]? = a0.tmps[t]?) ->
  c.wpIn (Fx C) 3 P (fun e a' w'=>∃ σ',St C σ' a' w'/\Q e σ') a w
theorem W.inl{c:Code}(env1:List (Nat×D))(hb:BorE C.gl σ env1)(h:WIn P C c Q σ ⟨σ.n,env1,[]⟩ []):W P C c Q σ:=by
 intro a w ⟨ρ,Fe,Fb,st⟩;exact h a w ρ Fe Fb st a w ⟨_,_,_,st.inl hb⟩ (fun _ _=>rfl)
theorem WIn.seq{x y:Code}{W0:List Nat}(h:WIn P C x (fun e s=>match e with | .normal=>W P C y Q s|e=>Q e s) σ σ1 W0):WIn P C (.seq x y) Q σ σ1 W0:=by
 intro a0 w0 ρ Fe Fb st a w hs hf;refine wpIn_seq ?_;refine Go.Code.wpIn_mono ?_ (h a0 w0 ρ Fe Fb st a w hs hf);intro e a' w' ⟨s,hs',hq⟩
 cases e<;>first|exact hq a' w' hs'|exact⟨s,hs',hq⟩
theorem WIn.region{id:Nat}{W0:List Nat}(k:Nat)(env2:List (Nat×D)){l:List Oper}
 (h1:∀ C':Ctx,C'.gl=C.gl->C'.rd=C.rd->C'.df=C.df->(∀ id b,C'.pin id=some b->T2 [] id=true)->TL P C' (fun e s=>e=.normal/\s.n=σ.n/\Back σ s (W0++dsts (l.take k)) env2) (l.take k) σ1)
 (h2:TL P C Q (l.drop k) ⟨σ.n,env2,σ.bx⟩):WIn P C (.region id l.toArray false) Q σ σ1 W0:=by
 intro a0 w0 ρ Fe Fb st a w hs hf;refine wpIn_region_lit ?_;generalize hl1:l.take k=l1 at h1;generalize hl2:l.drop k=l2 at h2
 have hl:l=l1++l2:=by rw[<- hl1,<- hl2,List.take_append_drop]
 clear hl1 hl2;subst hl;have hw1:=(h1 (C.inl w0) rfl rfl rfl (fun id b hp=>by cases hp)).wpList (ops:=l1++l2) a w hs;refine QN l1 a w (F:=Fx C) hw1 ?_ ?_
 ·rintro e a' w' he ⟨s,_,rfl,_⟩;exact absurd rfl he
 ·rintro a' w' ⟨s,⟨ρ1,Fe1,Fb1,st1⟩,_,hn,hB⟩ hfr;refine(h2.wpList (ops:=l1++l2)) a' w' ⟨ρ,_,Fb,st.back st1 hn (fun t ht=>?_) hB⟩
  have h3:W0.contains t=false/\(dsts l1).contains t=false:=by simpa [List.contains_append] using ht
  rw[hfr t (fun hm=>by rw[List.contains_iff_mem.2 hm] at h3;cases h3.2),hf t h3.1]
theorem j46{l:List Oper}(k:Nat)(env1 env2:List (Nat×D))(hb:BorE C.gl σ env1)
 (h1:∀ C':Ctx,C'.gl=C.gl->C'.rd=C.rd->C'.df=C.df->(∀ id b,C'.pin id=some b->T2 [] id=true)->TL P C' (fun e s=>e=.normal/\s.n=σ.n/\Back σ s (dsts (l.take k)) env2) (l.take k) ⟨σ.n,env1,[]⟩)
 (h2:TL P C Q (l.drop k) ⟨σ.n,env2,σ.bx⟩):WL P C ops l Q σ:=by
 generalize hl1:l.take k=l1 at h1;generalize hl2:l.drop k=l2 at h2
 have hl:l=l1++l2:=by rw[<- hl1,<- hl2,List.take_append_drop]
 clear hl1 hl2;subst hl;intro a w ⟨ρ,Fe,Fb,st⟩;have hw1:=(h1 (C.inl w) rfl rfl rfl (fun id b hp=>by cases hp)).wpListO ops a w ⟨_,_,_,st.inl hb⟩;refine QN l1 a w (F:=Fx C) hw1 ?_ ?_
 ·rintro e a' w' he ⟨s,_,rfl,_⟩;exact absurd rfl he
 ·rintro a' w' ⟨s,⟨ρ1,Fe1,Fb1,st1⟩,_,hn,hB⟩ hfr;exact(h2.wpListO ops) a' w' ⟨ρ,_,Fb,st.back st1 hn (fun t ht=>hfr t (by intro hm;rw[List.contains_iff_mem.2 hm] at ht;cases ht)) hB⟩
theorem CC{F:Fence}{n:Nat}{md:Region.Mode}{os:List Oper}{Q:Exit->Act->World->Prop}(a0:Act)(hd:∀ o∈os,∀ t,o.dst=some t->t∈dsts os):∀ (fuel:Nat) (listed:Array Bool) (a:Act) (w:World),
 (∀ t,(dsts os).contains t=false->a.tmps[t]? = a0.tmps[t]?)->wpAnyIn F n P md os.toArray Q fuel listed a w ->
 wpAnyIn F n P md os.toArray (fun e a' w'=>Q e a' w'/\(e=.normal->∀ t,(dsts os).contains t=false->a'.tmps[t]? = a0.tmps[t]?)) fuel listed a w:=by
 intro fuel
 induction fuel with
 | zero=>intro listed a w hf h;exact⟨h.1,h.2,fun _=>hf⟩
 | succ fuel ih=>
  intro listed a w hf h;refine⟨fun hr=>⟨h.1 hr,fun _=>hf⟩,fun i hi=>?_⟩;have h1:=h.2 i hi;unfold wpOpIn at h1 ⊢
  cases ho:os.toArray[i]? with
  | none=>rw[ho] at h1;exact ih _ _ _ hf h1
  | some o=>
   rw[ho] at h1;simp only at h1 ⊢;have hmem:o∈os:=List.mem_of_getElem? (by simpa using ho)
   have hput:∀ (b:Act) (v:Value),b.tmps=a.tmps->∀ t,(dsts os).contains t=false->(b.put o.dst v).tmps[t]? = a0.tmps[t]?:=fun b v hb t ht=>by
    rw[BM (fun e=>by rw[List.contains_iff_mem.2 (hd o hmem t e)] at ht;cases ht),hb];exact hf t ht
   have hstep:∀ (b:Act) (w1:World) (v:Value),b.tmps=a.tmps->wpAnyIn F n P md os.toArray Q fuel (listed.setIfInBounds i true) (b.put o.dst v) w1 ->
    wpAnyIn F n P md os.toArray (fun e a' w'=>Q e a' w'/\(e=.normal->∀ t,(dsts os).contains t=false->a'.tmps[t]? = a0.tmps[t]?)) fuel (listed.setIfInBounds i true) (b.put o.dst v) w1:=fun b w1 v hb hx=>ih _ _ _ (hput b v hb) hx
   split
   ·rename_i hw;simp only[hw,if_true] at h1;exact⟨h1.1,QA hstep (fun e a w he hq=>⟨hq,fun hn=>absurd hn he⟩) h1.2⟩
   ·rename_i hw;simp only[hw,if_false,Bool.false_eq_true] at h1;exact⟨h1.1,hstep a w undef rfl h1.2⟩
theorem k05{os:List Oper}:∀ o∈os,∀ t,o.dst=some t->t∈dsts os:=by
 induction os with
 | nil=>intro o h;cases h
 | cons x r ih=>
  intro o h t ht
  rcases List.mem_cons.1 h with rfl|h
  ·simp[dsts,ht]
  ·have:=ih o h t ht;unfold dsts;split
   ·exact List.mem_cons_of_mem _ this
   ·exact this
def WA(P:Program)(C:Ctx)(ops:List Oper)(Q:Exit->Sg->Prop)(σ:Sg):Prop:=
 ∀ a w,St C σ a w->wpAnyIn (Fx C) 3 P .any ops.toArray (fun e a' w'=>∃ σ',St C σ' a' w'/\Q e σ') ops.toArray.size (Array.replicate ops.toArray.size false) a { w with drawn:=w.drawn+1 }
theorem j47{ops:List Oper}{an:List Nat}{ks kk:List (Nat×Nat)}{its:List It}{m n':Nat}{bx':List (Nat×Bx)}(hA0:KY ops an m=true)(hlen:its.length=m)(H:ItOk P C σ ops an ks kk its){live:List Nat}{env':List (Nat×D)}(hE:picks (afts an (fun _=>true) ks σ.env its) live=env')
 (hb:σ.bx=bx') (hn:σ.n=n') (hT:TL P C Q (ops.drop its.length) ⟨n',env',bx'⟩):WA P C ops Q σ:=by
 intro a w hs
 have hc:Cl ops (Array.replicate ops.toArray.size false):=⟨by simp,fun i o _ hd=>by
  have:=o9 hd;simp at this
  simp[this] at hd⟩
 have hA:KY ops an its.length=true:=by rw[hlen];exact hA0
 subst hb;subst hn;refine PC hA H hE hT _ _ a _ σ hc ?_ ?_ (hs.ext (Ext.drew w)) ⟨rfl,rfl,fun u x hx=>?_⟩
 ·simp
 ·intro j _ hj;simp[hj]
 ·unfold afts at hx;generalize hb:bads _ ks u=bb at hx
  cases bb with
  | true=>cases hx
  | false=>
   simp only[cond_false] at hx
   rcases b8 its u with hu|⟨k,dk,wk,hk⟩
   ·rw[b9 hu] at hx;exact hx
   ·rw[n6 (J4 H.ts).1 hk] at hx
    have e:(Array.replicate ops.toArray.size false).getD (0+k) false=false:=by
     simp only[Array.getD_eq_getD_getElem?,Array.getElem?_replicate]
     split<;>rfl
    rw[e] at hx;exact hx
theorem PV{F:Fence}{n:Nat}{md:Region.Mode}{ops:Array Oper}{Q Q':Exit->Act->World->Prop}(hq:∀ e a w,Q e a w->Q' e a w):∀ (fuel:Nat) (listed:Array Bool) (a:Act) (w:World),wpAnyIn F n P md ops Q fuel listed a w->wpAnyIn F n P md ops Q' fuel listed a w:=by
 intro fuel
 induction fuel with
 | zero=>intro listed a w h;exact⟨h.1,hq _ _ _ h.2⟩
 | succ fuel ih=>
  intro listed a w h;refine⟨fun hr=>hq _ _ _ (h.1 hr),fun i hi=>?_⟩;have h1:=h.2 i hi;unfold wpOpIn at h1 ⊢
  cases ho:ops[i]? with
  | none=>rw[ho] at h1;exact ih _ _ _ h1
  | some o=>
   rw[ho] at h1;simp only at h1 ⊢;split
   ·rename_i hw;simp only[hw,if_true] at h1;exact⟨h1.1,QA (fun b w v _ hx=>ih _ _ _ hx) (fun e a w _ hx=>hq e a w hx) h1.2⟩
   ·rename_i hw;simp only[hw,if_false,Bool.false_eq_true] at h1;exact⟨h1.1,ih _ _ _ h1.2⟩
theorem k34{id:Nat}{ops:List Oper}{y:Code}{W0:List Nat}{σ2:Sg}(hm:P.follows .mixedOrders=true)
 (h1:∀ C':Ctx,C'.gl=C.gl->C'.rd=C.rd->C'.df=C.df->(∀ id b,C'.pin id=some b->T2 [] id=true)->WA P C' ops (fun e s=>e=.normal/\s=σ2) σ1)
 (h2:WIn P C y Q σ σ2 (W0++dsts ops)):WIn P C (.seq (.region id ops.toArray true) y) Q σ σ1 W0:=by
 intro a0 w0 ρ Fe Fb st a w hs hf;refine wpIn_seq ?_;refine wpIn_region_any hm ?_;have h3:=CC (os:=ops) a k05 _ _ a _ (fun _ _=>rfl) (h1 (C.inl w0) rfl rfl rfl (fun id b hp=>by cases hp) a w hs);refine PV ?_ _ _ _ _ h3;rintro e a' w' ⟨⟨s,hs',rfl,rfl⟩,hfr⟩;refine h2 a0 w0 ρ Fe Fb st a' w' hs' (fun t ht=>?_)
 have h4:W0.contains t=false/\(dsts ops).contains t=false:=by simpa [List.contains_append] using ht
 rw[hfr rfl t h4.2,hf t h4.1]
theorem w49{c:Code}{s:Nat}{d d':D}(h:σ.get s=some d)(hr:d.isRef=false)(hr':d'.isRef=false)(hw:Wk d d')(k:W P C c Q (σ.upd s d')):W P C c Q σ:=by
 intro a w ⟨ρ,Fe,Fb,st⟩;obtain⟨v,hv,hvr⟩:=(z9 hr).1 (st.env _ _ h)
 have hgd:∀ b,gd C Fe Fb b->gd C (Go.Sx.upd Fe s (Fe s)) Fb b:=fun b hb=>⟨hb.1,fun hc=>hb.2 (hc.imp (fun⟨u,hu⟩=>⟨u,by
  by_cases hus:u=s
  ·subst hus;rwa [j1] at hu
  ·rwa [q7 hus] at hu⟩) id)⟩
 refine k a w ⟨ρ,_,Fb,st.turn (F:=Fe s) h rfl ⟨rfl,Nat.le_refl _⟩ rfl (Nat.le_refl _) (fun _ _ _=>rfl) (st.nodE s) (fun b hb=>.inl hb) ((z9 hr').2 ⟨v,hv, ?_⟩)⟩;have h2:=hvr.mono (w':=w) (ρ':=ρ) (G':=gd C (Go.Sx.upd Fe s (Fe s)) Fb) (L':=fun id=>(σ.box id).isSome) (fun _ _ _=>rfl) (fun b hb _=>hgd b hb) (fun id hid=>⟨hid,rfl⟩);unfold VR at h2 ⊢;rw[hw.isAgg]
 cases hd:d.isAgg<;>simp only[hd,if_true,if_false,Bool.false_eq_true] at h2 ⊢
 ·exact h2.wk hw
 ·obtain⟨cs,rfl,h2⟩:=h2;exact⟨cs,rfl,h2.wk hw⟩
theorem R.wkT{o:Oper}{τ:Sg}{t:Nat}{r r':D}(h:OpS P C o σ (τ.set t r))(hr:r.isRef=false)(hr':r'.isRef=false)(he:Wk r r'):OpS P C o σ (τ.set t r'):=by
 intro a w hs K Q hK;refine h a w hs K Q fun a' w' hs'=>hK a' w' ?_
 have h1:(τ.set t r).get t=some r:=by rw[m9];simp
 obtain⟨ρ,Fe,Fb,st⟩:=hs';obtain⟨v,hv,hvr⟩:=(z9 hr).1 (st.env _ _ h1)
 have hgd:∀ b,gd C Fe Fb b->gd C (Go.Sx.upd Fe t (Fe t)) Fb b:=fun b hb=>⟨hb.1,fun hc=>hb.2 (hc.imp (fun⟨u,hu⟩=>⟨u,by
  by_cases hus:u=t
  ·subst hus;rwa [j1] at hu
  ·rwa [q7 hus] at hu⟩) id)⟩
 have st2:St C ((τ.set t r).upd t r') a' w':=by
  refine⟨ρ,_,Fb,st.turn (F:=Fe t) h1 rfl ⟨rfl,Nat.le_refl _⟩ rfl (Nat.le_refl _) (fun _ _ _=>rfl) (st.nodE t) (fun b hb=>.inl hb) ((z9 hr').2 ⟨v,hv, ?_⟩)⟩;have h2:=hvr.mono (w':=w') (ρ':=ρ) (G':=gd C (Go.Sx.upd Fe t (Fe t)) Fb) (L':=fun id=>((τ.set t r).box id).isSome) (fun _ _ _=>rfl) (fun b hb _=>hgd b hb) (fun id hid=>⟨hid,rfl⟩);unfold VR at h2 ⊢;rw[he.isAgg]
  cases hd:r.isAgg<;>simp only[hd,if_true,if_false,Bool.false_eq_true] at h2 ⊢
  ·exact h2.wk he
  ·obtain⟨cs,rfl,h2⟩:=h2;exact⟨cs,rfl,h2.wk he⟩
 refine st2.weaken rfl rfl fun u d hd=>?_;rw[i9,m9];rw[m9] at hd;by_cases hu:u=t
 ·subst hu;simpa using hd
 ·simpa [hu] using hd
end Go.Sx

namespace Go.Sx
variable{P:Program}{C:Ctx}{σ σ' σ1:Sg}{a:Act}{w w':World}{ρ:Nat->Nat}{Fe Fe' Fb:Nat->List Nat}
variable{ops:List Oper}{an:List Nat}{ks kk:List (Nat×Nat)}{its:List It}
end Go.Sx

namespace Go.Sx
def YQ(b:List UInt8):D:=.sl (some 5) 1 (b.map D.u8)
def QY(x:InS):D:=.agg [.agg [z7 x.tx,.u32 x.n],YQ x.script,.u32 x.seq,.sl (some 24) 1 (x.wit.map YQ)]
def N1(o:OutS):D:=.agg [.u64 o.value,YQ o.script]
def G9(t:TxS):D:=.agg [.u32 t.ver,.sl (some 112) 36 (t.ins.map QY),.sl (some 115) 2 (t.outs.map N1),.u32 t.lock]
def JG(b:BlkS):D:=.agg [m7 b.hd,.sl (some 31) 4 (b.txs.map G9)]
theorem R1{α:Type}{f g:α->D}(h:∀ x,(f x).brw=g x)(l:List α):(l.map f).map D.brw=l.map g:=by
 rw[List.map_map];exact List.map_congr_left fun x _=>h x
theorem JU(b:List UInt8):(YQ b).brw=b5 b:=by
 simp only[YQ,b5,D.brw,j7];rw[R1 (g:=D.u8) (fun _=>rfl)]
theorem q34(x:InS):(QY x).brw=K4 x:=by
 simp only[QY,K4,D.brw,j7,List.map_cons,List.map_nil,D8,JU];rw[R1 JU]
theorem RQ(x:OutS):(N1 x).brw=j9 x:=by
 simp only[N1,j9,D.brw,j7,List.map_cons,List.map_nil,JU]
theorem q30(t:TxS):(G9 t).brw=D1 t:=by
 simp only[G9,D1,D.brw,j7,List.map_cons,List.map_nil];rw[R1 q34,R1 RQ]
theorem JY(b:BlkS):(JG b).brw=D3 b:=by
 simp only[JG,D3,D.brw,j7,List.map_cons,List.map_nil,GI];rw[R1 q30]
theorem EB{a b c d:D}(h1:Frs a)(h2:Frs b)(h3:Frs c)(h4:Frs d):∀ x∈[a,b,c,d],Frs x:=fun x hx=>by
 simp only[List.mem_cons,List.not_mem_nil,or_false] at hx
 rcases hx with rfl|rfl|rfl|rfl<;>assumption
theorem A3{a b:D}(h1:Frs a)(h2:Frs b):∀ x∈[a,b],Frs x:=fun x hx=>by
 simp only[List.mem_cons,List.not_mem_nil,or_false] at hx
 rcases hx with rfl|rfl<;>assumption
theorem L8(b:List UInt8):Frs (YQ b):=.sl _ _ _ (j6 (fun x=>.u8 x))
theorem q18(x:InS):Frs (QY x):=.agg _ (EB (.agg _ (A3 (m4 _) (.u32 _))) (L8 _) (.u32 _) (.sl _ _ _ (j6 L8)))
theorem LP(x:OutS):Frs (N1 x):=.agg _ (A3 (.u64 _) (L8 _))
theorem UO(t:TxS):Frs (G9 t):=.agg _ (EB (.u32 _) (.sl _ _ _ (j6 q18)) (.sl _ _ _ (j6 LP)) (.u32 _))
theorem LM(b:BlkS):Frs (JG b):=.agg _ (A3 (TG _) (.sl _ _ _ (j6 UO)))
theorem q17(t:TxS)(b:Bool):FrsR (.tup [G9 t,.bool b]):=.inl ⟨_,rfl,A3 (UO t) (.bool b)⟩
theorem z98(x:BlkS)(b:Bool):FrsR (.tup [JG x,.bool b]):=.inl ⟨_,rfl,A3 (LM x) (.bool b)⟩
end Go.Sx

namespace Go.Sx
theorem x90(h:Hs)(n q:UInt32):Wk (.agg [.agg [z7 h,.u32 n],.nils,.u32 q,.nils]) (QY ⟨h,n,[],q,[]⟩):=
 .aggL (.cons (.refl _) (.cons (.nils _ _) (.cons (.refl _) (.cons (.nils _ _) .nil))))
theorem OM:Wk (.agg [.u32 0,.nils,.nils,.u32 0]) (G9 zeroT):=
 .aggL (.cons (.refl _) (.cons (.nils _ _) (.cons (.nils _ _) (.cons (.refl _) .nil))))
theorem j85(v k:UInt32)(h:Hs)(n q:UInt32):Wk (.agg [.u32 v,.sl (some 112) 36 [.agg [.agg [z7 h,.u32 n],.nils,.u32 q,.nils]],.nils,.u32 k]) (.agg [.u32 v,.sl (some 112) 36 ([(⟨h,n,[],q,[]⟩:InS)].map QY),.sl (some 115) 2 (([]:List OutS).map N1),.u32 k]):=
 .aggL (.cons (.refl _) (.cons (.slL (.cons (x90 h n q) .nil)) (.cons (.nils _ _) (.cons (.refl _) .nil))))
def j95(s:SpS)(sum:UInt64)(i:Nat):UInt64:=
 let v:=sum/UInt64.ofInt ((s.to.length:Nat):Int)
 if i=0 then v-min v s.part.toUInt64 else v
theorem w00{s:SpS}{sum:UInt64}{i:Nat}(h:i=0):j95 s sum i=sum/UInt64.ofInt ((s.to.length:Nat):Int)-(if s.part.toUInt64<sum/UInt64.ofInt ((s.to.length:Nat):Int) then s.part.toUInt64 else sum/UInt64.ofInt ((s.to.length:Nat):Int)):=by
 unfold j95;rw[if_pos h]
 congr 1
 show(if _<=_ then _ else _)=_;by_cases hc:s.part.toUInt64<sum/UInt64.ofInt ((s.to.length:Nat):Int)
 ·rw[if_pos hc,if_neg (fun h=>by rw[UInt64.le_iff_toNat_le] at h;rw[UInt64.lt_iff_toNat_lt] at hc;omega)]
 ·rw[if_neg hc,if_pos (by rw[UInt64.le_iff_toNat_le];rw[UInt64.lt_iff_toNat_lt] at hc;omega)]
theorem x99{s:SpS}{sum:UInt64}{i:Nat}(h:¬ i=0):j95 s sum i=sum/UInt64.ofInt ((s.to.length:Nat):Int):=by
 unfold j95;rw[if_neg h]
theorem OV(s:SpS)(sum:UInt64)(i:Nat):M8 s sum (i+1)=M8 s sum i++[⟨j95 s sum i,YF (s.to[i]!%12)⟩]:=by
 unfold M8;rw[List.range_succ,List.map_append];rfl
theorem IZ(s:SpS)(sum:UInt64)(i:Nat):(M8 s sum i).map N1++[.agg [.u64 (j95 s sum i),.sl (some 5) 1 ((YF (s.to[i]!%12)).map D.u8)]]=(M8 s sum (i+1)).map N1:=by
 rw[OV,List.map_append];rfl
theorem j88{n:Nat}(h0:¬ n=0)(h:n<=140737488355328):UInt64.ofInt ((n:Nat):Int)≠0:=by
 intro e;have:=congrArg UInt64.toNat e
 have h2:(UInt64.ofInt ((n:Nat):Int)).toNat=n%2^64:=by
  unfold UInt64.ofInt;rw[UInt64.toNat_ofNat'];omega
 rw[h2] at this;have h3:(0:UInt64).toNat=0:=rfl;omega
section
variable{s:SpS}{av:List (Plc×UInt64)}{mark:UInt32}
theorem k70(h:s.two=true)(h2:s.from_.toNat%av.length+1<av.length):T9 s av=[⟨av[s.from_.toNat%av.length]!.1.1,av[s.from_.toNat%av.length]!.1.2,[],s.extra.toUInt32,[]⟩,⟨av[s.from_.toNat%av.length+1]!.1.1,av[s.from_.toNat%av.length+1]!.1.2,[s.extra],0,[[s.part],[]]⟩]:=by
 unfold T9;exact if_pos ⟨h,h2⟩
theorem SZ(h:¬ (s.two=true/\s.from_.toNat%av.length+1<av.length)):T9 s av=[⟨av[s.from_.toNat%av.length]!.1.1,av[s.from_.toNat%av.length]!.1.2,[],s.extra.toUInt32,[]⟩]:=by
 unfold T9;exact if_neg h
theorem k69(h:s.two=true)(h2:s.from_.toNat%av.length+1<av.length):L0 s av=av[s.from_.toNat%av.length]!.2+av[s.from_.toNat%av.length+1]!.2:=by
 unfold L0;exact if_pos ⟨h,h2⟩
theorem SQ(h:¬ (s.two=true/\s.from_.toNat%av.length+1<av.length)):L0 s av=av[s.from_.toNat%av.length]!.2:=by
 unfold L0;exact if_neg h
theorem w02(h:av.length=0):BG s av mark=(zeroT,false):=by
 unfold BG WZ;rw[decide_eq_true h];rfl
theorem w01(h:s.to.length=0):BG s av mark=(zeroT,false):=by
 unfold BG WZ;rw[decide_eq_true h,Bool.or_true];rfl
theorem j61(h:¬ av.length=0)(h2:¬ s.to.length=0):BG s av mark=(w61 s av mark,true):=by
 unfold BG WZ;rw[decide_eq_false h,decide_eq_false h2];rfl
end
end Go.Sx

namespace Go.Sx
open Go.Proofs
theorem IQ(s:SpS)(av:List (Plc×UInt64))(mark:UInt32)(ha:av.length<=1000000000)(ht0:s.to.length<=140737488355328):Fn Tryz.prog gl 73 [q78 s,.sl none 33 (av.map KX),.sl none 1 (av.map KF),.u32 mark] (.tup [G9 (BG s av mark).1,.bool (BG s av mark).2]):=by
 refine Fn.of (n:=122) Tryz.func73 rfl rfl rfl (nU rfl) fun C hC hD=>?_;refine z5 3 [] [] [] (V4 0 1 2 3) Zt O O (⟨O,_,R.box (gV 0 O) O O (nU O),(Q7 O O ⟨O,_,j4 (kB false O) O (nU O),tV (V5 1 2 3 4 8) (p7 8 4) 122 O O O ?_⟩)⟩);refine W.seq (W.seq ?_);by_cases h1:av.length=0
 ·refine z8 9 [.y 15 _,.y 16 _,.y 17 _,.y 18 _,.x 19,.x 20,.x 21,.x 22,.y 23 _] (V6 1 2 3 4 8 23) ⟨mU 1 O O,aU<|zN O (lN _) O,aU<|KD 0 O O O,mU 17 O O,aF O O (gT (dT h1) O),aF O O (gT (dT h1) O),aF O O (gT (dT h1) O),aF O O (gT (dT h1) O),aU<|I4 O (dT h1) (kB true O) O O,Zt⟩ ?_;refine u7 O (O) ?_;refine z5 3 (y1 24) [] [] (V2 8 24) ⟨aU fun _ _ H _=>c9 (l:=[.u32 0,.nils,.nils,.u32 0]) (l':=[_,_,_,_]) (.nil O) Zt H,Zt⟩ O O (d5 O O O O O ⟨O,_,j4 (kB false O) O (nU O),tV (V2 8 9) (p7 8 4) 122 O O O ?_⟩);refine U3 8 (d':=G9 zeroT) (bx':=(p7 8 4)) O OM O ?_;refine W.ret ?_;exact Ends.many (.inr O) (.cons O O O (iL 31 4) (.cons O O O Zt .nil)) (by rw[w02 h1]) (show[(8,false),(9,true)].Nodup by decide)
 ·refine z8 9 (y9 15 16 17 18 19 20 21 22 23) (V6 1 2 3 4 8 23) ⟨mU 1 O O,aU<|zN O (lN _) O,aU<|KD 0 O O O,mU 17 O O,aW O O (gF (dF h1) O) (fU 4 O O),aW O O (gF (dF h1) O) (lU 19 O O O O O O O),aW O O (gF (dF h1) O)<|zN O (lN _) O,aW O O (gF (dF h1) O)<|KD 0 O O O,aU<|zF O (dF h1) O O O,Zt⟩ ?_;refine z6 O (fun hc23=>?_) (fun hc23=>?_)
  ·refine z5 3 (y1 24) [] [] (V2 8 24) ⟨aU fun _ _ H _=>c9 (l:=[.u32 0,.nils,.nils,.u32 0]) (l':=[_,_,_,_]) (.nil O) Zt H,Zt⟩ O O (d5 O O O O O ⟨O,_,j4 (kB false O) O (nU O),tV (V2 8 9) (p7 8 4) 122 O O O ?_⟩);refine U3 8 (d':=G9 zeroT) (bx':=(p7 8 4)) O OM O ?_;refine W.ret ?_;exact Ends.many (.inr O) (.cons O O O (iL 31 4) (.cons O O O Zt .nil)) (by rw[w01 hc23]) (show[(8,false),(9,true)].Nodup by decide)
  ·refine W.skip (q9 7 (y7 25 26 27 28 29 30 10) (V6 1 2 3 4 8 10) ⟨aU (fU 4 O O),aU (lU 25 O O O O O O O),aU<|zW O O O,mU 1 O O,aU<|zN O (lN _) O,aU fun _ _ H K=>E3 (s.from_.toNat) (av.length) (eU K 27 O) (eU K 29 O) bU H,aU<|zA O O O,Zt⟩ ?_);refine W.seq ?_;have hkl:=Nat.mod_lt s.from_.toNat (show 0<av.length by omega);refine U9 (m:=12) (an:=[0,0,0,6,14,0,32,96,254,510,1023,0,4095]) (its:=[.y 31 _,.y 32 _,.y 33 _,.y 34 _,.y 35 _,.y 36 _,.y 37 _,.y 38 _,.y 39 _,.y 40 _,.y 41 _,.y 11 _]) (ks:=[(10,40)]) (kk:=[(10,40)]) (efs:=[(11,(p6 11))]) (live:=[1,2,4,8,10,11,41]) (env':=(V7 1 2 4 8 10 11 41)) (nd:=40) (bx1:=(d7 11 8 4)) hP dU O ⟨⟨140,O⟩,nU O,O,O,O,O⟩ (          ⟨⟨O,nU O,O,fun _ τ hb ht hτ=>R.mov (evt (hτ 3 _ O)) O ht⟩,⟨⟨O,nU O,O,fun _ τ hb ht hτ=>R.mov (evt (hτ 1 _ O)) O ht⟩,⟨⟨O,nU O,O,fun _ τ hb ht hτ=>R.mov (evt (hτ 10 _ O)) O ht⟩,⟨⟨O,nU O,O,fun _ τ hb ht hτ=>R.idxN ((s.from_.toNat%av.length)) (SC.sl (hτ 32 _ O)) (b4 (evt (hτ 33 _ O))) O bU ht dU⟩,⟨⟨O,nU O,O,fun _ τ hb ht hτ=>R.ldE (hτ 34 _ O) (SC.sl (hτ 32 _ O)) (mG av) O O O O ht⟩,⟨⟨O,nU O,O,fun _ τ hb ht hτ=>R.fdP (hτ 4 _ O) ht⟩,⟨⟨O,nU O,O,fun _ τ hb ht hτ=>R.ldP (hτ 36 _ O) (hb 4 _ O) O O O O ht⟩,⟨⟨O,nU O,O,fun _ τ hb ht hτ=>Q5 (d:=.u32 s.extra.toUInt32) (evt (hτ 37 _ O)) O (O) ht⟩,⟨⟨O,nU O,O,fun _ τ hb ht hτ=>c9 (l:=[.agg [.arr 32 1 ((List.replicate 32 0).map D.u8),.u32 0],.nils,.u32 0,.nils]) (l':=[_,_,_,_]) (.cons (evt (hτ 35 _ O)) (.cons (evt (hτ 38 _ O)) (.nil O))) ⟨⟨_,(evt (hτ 35 _ O)),O,O,O⟩,⟨⟨_,(evt (hτ 38 _ O)),O,O,O⟩,Zt⟩⟩ ht⟩,⟨⟨O,nU O,O,fun _ τ hb ht hτ=>w8 (z:=36) (.cons (evt (hτ 39 _ O)) .nil) ⟨⟨O,O,O⟩,Zt⟩ O ht dU⟩,⟨⟨O,nU O,O,fun _ τ hb ht hτ=>R.bldO (l:=[.u32 0,.nils,.nils,.u32 0]) (l':=[_,_,_,_]) (.pur (kW (.int .u32 2) (.u32 2) O) O O O (.pur (evt (hτ 31 _ O)) O O O (.own (hτ 40 _ O) O O O O (.nil O)))) O ht⟩,⟨⟨O,O,⟨O,nU O⟩,(SpE.alloc O (nU O))⟩,Zt⟩⟩⟩⟩⟩⟩⟩⟩⟩⟩⟩⟩) O O O (n':=122) O (⟨O,_,o8 (gU 11 O) (xU 11 O) O (gU 41 O) O O (by rfl) (by rfl) O O,⟨[1,2,4,8,10,11],(V6 1 2 4 8 10 11),(d7 11 8 4),122,O,O,O, ?_⟩⟩);refine W.seq ?_;refine U3 11 (d':=.agg [.u32 2,.sl (some 112) 36 ([(⟨av[(s.from_.toNat%av.length)]!.1.1,av[(s.from_.toNat%av.length)]!.1.2,[],s.extra.toUInt32,[]⟩:InS)].map QY),.sl (some 115) 2 (([]:List OutS).map N1),.u32 mark]) (bx':=(d7 11 8 4)) O (j85 _ _ _ _ _) O ?_;refine z8 5 (y5 42 43 44 45 12) (V7 1 2 4 8 10 11 12) ⟨mU 2 O O,mU 10 O O,aU<|zI ((s.from_.toNat%av.length)) O O O bU O,aU<|zL O O (mG av) O O O O O,aU<|zA O O O,Zt⟩ ?_;refine RY (fun s__=>∃ q__:{q__:Unit//True},s__=⟨122,[(4,.ptr 4 0 []),(8,.ptr 8 0 []),(11,.ptr 11 0 []),(12,.u64 (L0 s av))],[(11,.var (.agg [.u32 2,.sl (some 112) 36 ((T9 s av).map QY),.sl (some 115) 2 (([]:List OutS).map N1),.u32 mark])),(8,.var (.agg [.u32 0,.nils,.nils,.u32 0])),(4,.var (q78 s))]⟩) ?_ ?_
   ·refine W.seq ?_;by_cases h2:s.two=true
    ·refine z8 9 (y9 46 47 48 49 50 51 52 53 54) (V8 1 2 4 8 10 11 12 54) ⟨aU (fU 4 O O),aU (lU 46 O O O O O O O),mU 47 O O,aW O O (gT (h2) O)<|zV O O O,aW O O (gT (h2) O)<|Q6 1 O O bU O,aW O O (gT (h2) O)<|zV O O O,aW O O (gT (h2) O)<|zN O (lN _) O,aW O O (gT (h2) O)<|zS O O O,aU<|zT O (h2) O O O,Zt⟩ ?_;refine z6 O (fun hc54=>?_) (fun hc54=>?_)
     ·refine W.seq ?_;refine W.dr (m:=17) (an:=[0,1,0,0,8,28,60,0,128,384,0,1024,3072,0,15360,32764,65532,131071,262143,524287]) hP dU O (its:=[.y 55 _,.y 56 _,.y 57 _,.y 58 _,.y 59 _,.y 60 _,.y 61 _,.y 62 _,.y 63 _,.y 64 _,.y 65 _,.y 66 _,.y 67 _,.y 68 _,.y 69 _,.y 70 _,.y 71 _]) (ks:=[(14,67),(14,68),(15,64),(15,69),(16,70)]) (kk:=[(14,67),(14,68),(15,64),(15,69),(16,70)]) (env':=(V8 2 4 8 10 11 12 56 71)) (⟨nU O,O,⟨aU (fU 11 O O),aU fun _ B H K=>R.ldO (K 55 _ O) (B 11 _ O) O H,mU 1 O O,mU 10 O O,aU<|Q6 1 O O bU O,aU<|zI (((s.from_.toNat%av.length)+1)) O O O bU O,aU<|zL O O (mG av) O O O O O,aU (fU 4 O O),aU (lU 62 O O O O O O O),aU fun _ _ H K=>w8 (z:=1) (.cons (eU K 63 O) .nil) ⟨⟨O,O,O⟩,Zt⟩ O H dU,aU (fU 4 O O),aU (lU 65 O O O O O O O),aU fun _ _ H K=>w8 (z:=1) (.cons (eU K 66 O) .nil) ⟨⟨O,O,O⟩,Zt⟩ O H dU,aU fun _ _ H _=>w8 .nil Zt O H dU,aU fun _ _ H K=>R.bslO (z:=1) (.own (K 67 _ O) O O O O (.own (K 68 _ O) O O O O .nil)) O O H dU,aU fun _ _ H K=>R.bldO (l:=[.agg [.arr 32 1 ((List.replicate 32 0).map D.u8),.u32 0],.nils,.u32 0,.nils]) (l':=[_,_,_,_]) (.pur (eU K 61 O) O O O (.own (K 64 _ O) O O O O (.own (K 69 _ O) O O O O (.nil O)))) O H,aU fun _ _ H K=>R.bslO (z:=36) (.own (K 70 _ O) O O O O .nil) O O H dU,Zt⟩,O,O,O⟩) O (bx':=(d7 11 8 4)) O (n':=122) O (⟨O,_,CQ (gU 56 O) (xU 11 O) O O O O (gU 56 O) (gU 71 O) O (show _=([(⟨av[(s.from_.toNat%av.length)]!.1.1,av[(s.from_.toNat%av.length)]!.1.2,[],s.extra.toUInt32,[]⟩:InS),(⟨av[(s.from_.toNat%av.length)+1]!.1.1,av[(s.from_.toNat%av.length)+1]!.1.2,[s.extra],0,[[s.part],[]]⟩:InS)].map QY) from(O)) (by simp) (nU O) dU dU,⟨O,_,R.fdP (gU 11 O) (nU O),⟨O,_,o8 (gU 73 O) (xU 11 O) O (gU 72 O) O O (by rfl) (by rfl) O O,tV (V6 2 4 8 10 11 12) (d7 11 8 4) 122 O O O ?_⟩⟩⟩);refine z8 8 (y8 74 75 76 77 78 79 80 12) (V4 4 8 11 12) ⟨mU 12 O O,mU 2 O O,mU 10 O O,aU<|Q6 1 O O bU O,aU<|zI (((s.from_.toNat%av.length)+1)) O O O bU O,aU<|zL O O (mG av) O O O O O,aU<|zB O O O O,aU<|zA O O O,Zt⟩ ?_;exact⟨⟨(()),Zt⟩,(by rw[k70 h2 hc54,k69 h2 hc54]<;>rfl)⟩
     ·refine C6 (V4 4 8 11 12) (d7 11 8 4) 122 O O O ?_;refine W.skip ?_;exact⟨⟨(()),Zt⟩,(by rw[SZ (fun h=>hc54 h.2),SQ (fun h=>hc54 h.2)]<;>rfl)⟩
    ·refine z8 9 [.y 46 _,.y 47 _,.y 48 _,.x 49,.x 50,.x 51,.x 52,.x 53,.y 54 _] (V8 1 2 4 8 10 11 12 54) ⟨aU (fU 4 O O),aU (lU 46 O O O O O O O),mU 47 O O,aF O O (gF (bfalse h2) O),aF O O (gF (bfalse h2) O),aF O O (gF (bfalse h2) O),aF O O (gF (bfalse h2) O),aF O O (gF (bfalse h2) O),aU<|YL O (bfalse h2) (kB false O) O O,Zt⟩ ?_;refine v4 O (O) ?_;refine C6 (V4 4 8 11 12) (d7 11 8 4) 122 O O O ?_;refine W.skip ?_;exact⟨⟨(()),Zt⟩,(by rw[SZ (fun h=>h2 h.1),SQ (fun h=>h2 h.1)]<;>rfl)⟩
   ·rintro s__ ⟨⟨_,_⟩,rfl⟩;refine W.seq (q9 1 (y1 13) (V5 4 8 11 12 13) ⟨aU<|zK (kI 0 O) O O,Zt⟩ ?_);refine W.block ?_;refine W.loop (α:={q__:Nat//q__<=min s.to.length 4}) (fun q__=>⟨122,[(4,.ptr 4 0 []),(8,.ptr 8 0 []),(11,.ptr 11 0 []),(12,.u64 (L0 s av)),(13,.int ((q__.1:Nat):Int))],[(11,.var (.agg [.u32 2,.sl (some 112) 36 ((T9 s av).map QY),.sl (some 115) 2 ((M8 s (L0 s av) q__.1).map N1),.u32 mark])),(8,.var (.agg [.u32 0,.nils,.nils,.u32 0])),(4,.var (q78 s))]⟩) (fun q__=>min s.to.length 4-q__.1) ⟨(0),bU⟩ O ?_;rintro ⟨i,hi⟩;show W _ _ _ _ ⟨122,[(4,.ptr 4 0 []),(8,.ptr 8 0 []),(11,.ptr 11 0 []),(12,.u64 (L0 s av)),(13,.int ((i:Nat):Int))],[(11,.var (.agg [.u32 2,.sl (some 112) 36 ((T9 s av).map QY),.sl (some 115) 2 ((M8 s (L0 s av) i).map N1),.u32 mark])),(8,.var (.agg [.u32 0,.nils,.nils,.u32 0])),(4,.var (q78 s))]⟩;have hi:i<=min s.to.length 4:=hi;refine W.seq (W.seq ?_);by_cases h4:i<s.to.length
    ·refine z8 9 (y9 81 82 83 84 85 86 87 88 89) (V6 4 8 11 12 13 89) ⟨mU 13 O O,aU (fU 4 O O),aU (lU 82 O O O O O O O),aU<|zN O (lN _) O,aU<|zS O O O,mU 85 O O,aW O O (gT (dT h4) O)<|zV O O O,aW O O (gT (dT h4) O)<|KO 4 O O O,aU<|zT O (dT h4) O O O,Zt⟩ ?_;refine z6 O (fun hc89=>?_) (fun hc89=>?_)
     ·refine W.skip (W.seq (W.block (q9 7 (y7 92 93 94 95 96 97 14) (V6 4 8 11 12 13 14) ⟨mU 12 O O,aU (fU 4 O O),aU (lU 93 O O O O O O O),aU<|zN O (lN _) O,aU<|zW O O O,aU fun _ _ H K=>R.bin (eU K 92 O) (eU K 96 O) O (j88 hc23 ht0) H,aU<|zA O O O,Zt⟩ ?_)));refine RY (fun s__=>∃ q__:{q__:Unit//True},s__=⟨122,[(4,.ptr 4 0 []),(8,.ptr 8 0 []),(11,.ptr 11 0 []),(12,.u64 (L0 s av)),(13,.int ((i:Nat):Int)),(14,.u64 (j95 s (L0 s av) i))],[(11,.var (.agg [.u32 2,.sl (some 112) 36 ((T9 s av).map QY),.sl (some 115) 2 ((M8 s (L0 s av) i).map N1),.u32 mark])),(8,.var (.agg [.u32 0,.nils,.nils,.u32 0])),(4,.var (q78 s))]⟩) ?_ ?_
      ·refine q9 2 (y2 98 99) (V7 4 8 11 12 13 14 99) ⟨mU 13 O O,aU<|KD 0 O O O,Zt⟩ ?_;refine z6 O (fun hc99=>?_) (fun hc99=>?_)
       ·refine z8 8 (y8 100 101 102 103 104 105 106 14) (V6 4 8 11 12 13 14) ⟨mU 14 O O,mU 14 O O,aU (fU 4 O O),aU (lU 102 O O O O O O O),aU fun _ _ H K=>Q5 (d:=.u64 s.part.toUInt64) (eU K 103 O) O (O) H,aU fun _ _ H K=>R.minU (eU K 101 O) (eU K 104 O) H,aU<|zB O O O O,aU<|zA O O O,Zt⟩ ?_;exact⟨⟨(()),Zt⟩,(by rw[w00 hc99]<;>rfl)⟩
       ·refine C6 (V6 4 8 11 12 13 14) (d7 11 8 4) 122 O O O ?_;refine W.skip ?_;exact⟨⟨(()),Zt⟩,(by rw[x99 hc99]<;>rfl)⟩
      ·rintro s__ ⟨⟨_,_⟩,rfl⟩;refine W.dr (m:=12) (an:=[0,1,0,0,8,0,56,120,248,504,1020,2044,4095,8191,16383]) hP dU O (its:=[.y 107 _,.y 108 _,.y 109 _,.y 110 _,.y 111 _,.y 112 _,.y 113 _,.y 114 _,.y 115 _,.y 116 _,.y 117 _,.y 118 _]) (ks:=[(10,116),(11,117)]) (kk:=[(10,116),(11,117)]) (env':=(V7 4 8 11 12 13 108 118)) (⟨nU O,O,⟨aU (fU 11 O O),aU fun _ B H K=>R.ldO (K 107 _ O) (B 11 _ O) O H,mU 14 O O,aU (fU 4 O O),aU (lU 110 O O O O O O O),mU 13 O O,aU<|zI i O O O bU O,aU<|zL O O (mG s.to) O O O O O,aU fun _ _ H K=>R.bin (eU K 114 O) (kW (.int .u8 12) (.u8 12) O) O dU H,aU<|zC hC (EX (s.to[i]!%12)) O O O (F1 (L8 _)) O,aU fun _ _ H K=>R.bldO (l:=[.u64 0,.nils]) (l':=[_,_]) (.pur (eU K 109 O) O O O (.own (K 116 _ O) O O O O (.nil O))) O H,aU fun _ _ H K=>R.bslO (z:=2) (.own (K 117 _ O) O O O O .nil) O O H dU,Zt⟩,O,O,O⟩) O (bx':=(d7 11 8 4)) O (n':=122) O (⟨O,_,CQ (gU 108 O) (xU 11 O) O O O O (gU 108 O) (gU 118 O) O (show _=((M8 s (L0 s av) (i+1)).map N1) from(IZ _ _ _)) (by simp only[List.length_map,M8,List.length_range,List.length_cons,List.length_nil];omega) (nU O) dU dU,⟨O,_,R.fdP (gU 11 O) (nU O),⟨O,_,o8 (gU 120 O) (xU 11 O) O (gU 119 O) O O (by rfl) (by rfl) O O,tV (V5 4 8 11 12 13) (d7 11 8 4) 122 O O O ?_⟩⟩⟩);refine z8 3 (y3 90 91 13) (V5 4 8 11 12 13) ⟨mU 13 O O,aU<|Q6 1 O O bU O,aU<|zA O O O,Zt⟩ ?_;exact⟨⟨(i+1),bU⟩,rfl,(by show min s.to.length 4-(i+1)<min s.to.length 4-i;omega)⟩
     ·obtain rfl:i=min s.to.length 4:=by omega
      refine W.exit (z5 3 [] [] [] (V2 8 11) Zt O O (⟨O,_,R.ldTake (gU 11 O) (xU 11 O) O O O (nU O),⟨O,_,o8 (gU 8 O) (xU 8 O) O (gU 121 O) O O (by rfl) (by rfl) O O,⟨O,_,j4 (kB true O) O (nU O),tV (V2 8 9) (d7 11 8 4) 122 O O O ?_⟩⟩⟩));refine W.ret ?_;exact Ends.many (.inr O) (.cons O O O (iL 31 4) (.cons O O O Zt .nil)) (by rw[j61 h1 hc23]<;>rfl) (show[(8,false),(9,true)].Nodup by decide)
    ·refine z8 9 [.y 81 _,.y 82 _,.y 83 _,.y 84 _,.y 85 _,.y 86 _,.x 87,.x 88,.y 89 _] (V6 4 8 11 12 13 89) ⟨mU 13 O O,aU (fU 4 O O),aU (lU 82 O O O O O O O),aU<|zN O (lN _) O,aU<|zS O O O,mU 85 O O,aF O O (gF (dF h4) O),aF O O (gF (dF h4) O),aU<|YL O (dF h4) (kB false O) O O,Zt⟩ ?_;refine v4 O (O) ?_
     obtain rfl:i=min s.to.length 4:=by omega
     refine W.exit (z5 3 [] [] [] (V2 8 11) Zt O O (⟨O,_,R.ldTake (gU 11 O) (xU 11 O) O O O (nU O),⟨O,_,o8 (gU 8 O) (xU 8 O) O (gU 121 O) O O (by rfl) (by rfl) O O,⟨O,_,j4 (kB true O) O (nU O),tV (V2 8 9) (d7 11 8 4) 122 O O O ?_⟩⟩⟩));refine W.ret ?_;exact Ends.many (.inr O) (.cons O O O (iL 31 4) (.cons O O O Zt .nil)) (by rw[j61 h1 hc23]<;>rfl) (show[(8,false),(9,true)].Nodup by decide)
end Go.Sx

namespace Go.Sx
theorem q60(n:Nat):D.u8 (UInt8.ofInt ((n:Nat):Int))=.u8 (UInt8.ofNat n):=by
 congr 1
 unfold UInt8.ofInt;apply UInt8.toNat_inj.1;rw[UInt8.toNat_ofNat',UInt8.toNat_ofNat'];omega
theorem j98(n:Nat):D.int (((n:Nat):Int).fdiv (2^min (8:Int).toNat 64))=.int ((n/256:Nat):Int):=by
 have:=DB ((n:Nat):Int) 8 (Int.natCast_nonneg _) (by decide);rw[Int.toNat_natCast] at this;exact congrArg D.int this
theorem x72(s:SpS):(q78 s).brw=q78 s:=by
 simp only[q78,D.brw,j7,List.map_cons,List.map_nil];rw[j2 (fun _=>rfl)]
theorem x73(x:PlS):(BO x).brw=BO x:=by
 simp only[BO,D.brw,j7,List.map_cons,List.map_nil];rw[j2 x72]
theorem FZ(b:BlkS):(D3 b).brw=D3 b:=by
 simp only[D3,D.brw,j7,List.map_cons,List.map_nil,GI];rw[j2 TS]
theorem j31(a e:Nat)(l:List (Plc×UInt64)):D.brwR (.tup [.sl (some a) 33 (l.map KX),.sl (some e) 1 (l.map KF)])=.tup [.sl none 33 (l.map KX),.sl none 1 (l.map KF)]:=by
 show D.tup [D.sl none 33 (C8 (l.map KX)),D.sl none 1 (C8 (l.map KF))]=_;rw[j7,j7,j2 (fun x=>by simp only[KX,Z2,D.brw,j7,List.map_cons,List.map_nil,D8]),j2 (fun _=>rfl)]
theorem j19(a e:Nat)(l:List (Plc×UInt64)):FrsR (.tup [.sl (some a) 33 (l.map KX),.sl (some e) 1 (l.map KF)]):=
 .inl ⟨_,rfl,A3 (.sl _ _ _ (j6 fun x=>.agg _ (A3 (m4 _) (.u32 _)))) (.sl _ _ _ (j6 fun _=>.u64 _))⟩
theorem z97(h:HdS)(b:Bool):FrsR (.tup [m7 h,.bool b]):=.inl ⟨_,rfl,A3 (TG h) (.bool b)⟩
theorem k49(n:Nat)(x:PlS)(mark:UInt32):Wk (.agg [.u32 1,.sl (some 112) 36 [.agg [.agg [z7 zero32,.u32 4294967295],.sl (some 5) 1 [.u8 (UInt8.ofNat n),.u8 (UInt8.ofNat (n/256)),.u8 mark.toUInt8],.u32 0,.nils]],.sl (some 115) 2 [.agg [.u64 5000,.sl (some 5) 1 ((YF (x.pays%12)).map D.u8)]],.u32 mark]) (G9 (ST n x mark)):=
 .aggL (.cons (.refl _) (.cons (.slL (.cons (.aggL (.cons (.refl _) (.cons (.refl _) (.cons (.refl _) (.cons (.nils _ _) .nil))))) .nil)) (.cons (.refl _) (.cons (.refl _) .nil))))
section
variable{l:List BlkS}{x:PlS}{mark:UInt32}{i:Nat}
theorem w29(h:(BG x.spends[i]! (T7 (l++[⟨zeroH,QG l x mark i⟩])) mark).2=true):QG l x mark (i+1)=QG l x mark i++[(BG x.spends[i]! (T7 (l++[⟨zeroH,QG l x mark i⟩])) mark).1]:=by rw[QG,if_pos h]
theorem j77(h:¬ (BG x.spends[i]! (T7 (l++[⟨zeroH,QG l x mark i⟩])) mark).2=true):QG l x mark (i+1)=QG l x mark i:=by rw[QG,if_neg h]
theorem j14(h:(BG x.spends[i]! (T7 (l++[⟨zeroH,QG l x mark i⟩])) mark).2=true):(QG l x mark i).map G9++[G9 (BG x.spends[i]! (T7 (l++[⟨zeroH,QG l x mark i⟩])) mark).1]=(QG l x mark (i+1)).map G9:=by
 rw[w29 h,List.map_append];rfl
end
theorem OI{α:Type}[Inhabited α]{l:List α}{f:α->D}{j:Nat}(h:j<l.length):(l.take j).map f++[f l[j]!]=(l.take (j+1)).map f:=by
 rw[getElem!_pos l j h,<- List.take_append_getElem h,List.map_append];rfl
theorem N7(l:List BlkS):(heads l).length=l.length:=List.length_map _
theorem z83{l:List BlkS}{j:Nat}(h:j<l.length):(heads l)[j]! = l[j]!.hd:=by
 rw[getElem!_pos (heads l) j (by rw[N7];exact h),getElem!_pos l j h];exact List.getElem_map _
theorem q14{l:List BlkS}{j:Nat}(h:j<l.length):((heads l).take j).map m7++[m7 l[j]!.hd]=((heads l).take (j+1)).map m7:=by
 rw[<- OI (by rw[N7];exact h),z83 h]
theorem q15(l:List BlkS):(heads l).take l.length=heads l:=by rw[<- N7 l,List.take_length]
theorem z82{l:List BlkS}(h:allBl l):allW (heads l):=fun x hx=>by
 obtain⟨b,hb,rfl⟩:=List.mem_map.1 hx;exact(h.2 b hb).hd
def DD(l:List TxS)(k:Nat):List Hs:=(l.take k).map E9
theorem z79{l:List TxS}{k:Nat}(h:k<l.length):(DD l k).map z7++[z7 (E9 l[k]!)]=(DD l (k+1)).map z7:=by
 unfold DD;rw[List.map_map,List.map_map,<- OI h];rfl
theorem z78{l:List TxS}{k:Nat}(h:k<=l.length):(DD l k).length=k:=by
 unfold DD;rw[List.length_map,List.length_take,Nat.min_eq_left h]
theorem z80(l:List TxS):DD l l.length=l.map E9:=by
 unfold DD;rw[List.take_length]
end Go.Sx

namespace Go.Sx
open Go.Proofs
set_option maxHeartbeats 1000000 in
theorem q16(l:List BlkS)(x:PlS)(mark:UInt32)(hl:allBl l)(h1:1<=l.length)(h99:l.length<=99)(hto:∀ s∈x.spends,s.to.length<=140737488355328):Fn Tryz.prog gl 32 [.agg [.u32 545259519,.int 10,.u32 10,.nils,m7 B4],.sl none 69 (l.map D3),BO x,.u32 mark] (.tup [JG (r8 l x mark).1,.bool (r8 l x mark).2]):=by
 refine Fn.of (n:=136) Tryz.func32 rfl rfl rfl (nU rfl) fun C hC hD=>?_;refine z5 4 [] [] [] (V4 0 1 2 3) Zt O O (⟨O,_,R.box (gV 0 O) O O (nU O),⟨O,_,R.box (gV 2 O) O O (nU O),(Q7 O O ⟨O,_,j4 (kB false O) O (nU O),tV (V5 1 3 4 6 8) (d7 8 6 4) 136 O O O ?_⟩)⟩⟩);refine z5 23 [.y 23 _,.y 24 _,.y 25 _,.y 26 _,.y 27 _,.y 28 _,.y 29 _,.y 30 _,.y 31 _,.y 32 _,.y 33 _,.y 34 _,.y 35 _,.y 36 _,.y 37 _,.y 38 _,.y 39 _,.y 40 _,.y 41 _,.y 42 _,.y 43 _] [(12,34),(13,35),(18,40),(19,41),(20,36),(20,42)] [(12,34),(13,35),(18,40),(19,41),(20,36),(20,42)] (V6 1 3 4 6 8 43) ⟨mU 3 O O,aU fun _ _ H _=>c9 (l:=[.arr 32 1 ((List.replicate 32 0).map D.u8),.u32 0]) (l':=[_,_]) (.cons (kW (.int .u32 4294967295) (.u32 4294967295) O) (.nil O)) ⟨⟨_,(kW (.int .u32 4294967295) (.u32 4294967295) O),O,O,O⟩,Zt⟩ H,mU 1 O O,aU<|zN O (lN _) O,aU fun _ _ H K=>Q5 (d:=.u8 (UInt8.ofNat l.length)) (eU K 26 O) O (q60 _) H,mU 1 O O,aU<|zN O (lN _) O,aU fun _ _ H K=>c8 (d:=.int (((l.length/256):Nat):Int)) (eU K 29 O) (kW (.int .u64 8) (.u64 8) O) O bV (j98 _) H,aU fun _ _ H K=>Q5 (d:=.u8 (UInt8.ofNat (l.length/256))) (eU K 30 O) O (q60 _) H,mU 3 O O,aU fun _ _ H K=>Q5 (d:=.u8 mark.toUInt8) (eU K 32 O) O (O) H,aU fun _ _ H K=>w8 (z:=1) (.cons (eU K 27 O) (.cons (eU K 31 O) (.cons (eU K 33 O) .nil))) ⟨⟨O,O,O⟩,⟨O,O,O⟩,⟨O,O,O⟩,Zt⟩ O H dU,aU fun _ _ H K=>R.bldO (l:=[.agg [.arr 32 1 ((List.replicate 32 0).map D.u8),.u32 0],.nils,.u32 0,.nils]) (l':=[_,_,_,_]) (.pur (eU K 24 O) O O O (.own (K 34 _ O) O O O O (.nil O))) O H,aU fun _ _ H K=>R.bslO (z:=36) (.own (K 35 _ O) O O O O .nil) O O H dU,aU (fU 6 O O),aU (lU 37 O O O O O O O),aU fun _ _ H K=>R.bin (eU K 38 O) (kW (.int .u8 12) (.u8 12) O) O dU H,aU<|zC hC (EX (x.pays%12)) O O O (F1 (L8 _)) O,aU fun _ _ H K=>R.bldO (l:=[.u64 0,.nils]) (l':=[_,_]) (.pur (kW (.int .u64 5000) (.u64 5000) O) O O O (.own (K 40 _ O) O O O O (.nil O))) O H,aU fun _ _ H K=>R.bslO (z:=2) (.own (K 41 _ O) O O O O .nil) O O H dU,aU fun _ _ H K=>R.bldO (l:=[.u32 0,.nils,.nils,.u32 0]) (l':=[_,_,_,_]) (.pur (kW (.int .u32 1) (.u32 1) O) O O O (.pur (eU K 23 O) O O O (.own (K 36 _ O) O O O O (.own (K 42 _ O) O O O O (.nil O))))) O H,Zt⟩ O O (Q7 O O ⟨O,_,o8 (gU 10 O) (xU 10 O) O (gU 43 O) O O (by rfl) (by rfl) O O,tV (V6 1 3 4 6 8 10) (T6 10 8 6 4) 136 O O O ?_⟩);refine W.seq ?_;refine U3 10 (d':=G9 (ST l.length x mark)) (bx':=(T6 10 8 6 4)) O (k49 _ _ _) O ?_;refine u4 5 [] [] [] (V6 1 3 4 6 8 10) Zt O O (⟨O,_,R.ldTake (gU 10 O) (xU 10 O) O O O (nU O),⟨O,_,R.bslO (z:=4) (.own (gU 44 O) O O O O .nil) O O (nU O) dU,⟨O,_,R.bldO (l:=[.agg [.u32 0,.arr 32 1 ((List.replicate 32 0).map D.u8),.arr 32 1 ((List.replicate 32 0).map D.u8),.u32 0,.u32 0,.u32 0],.nils]) (l':=[_,_]) (.own (gU 45 O) O O O O (.nil O)) O (nU O),(Q7 O O ⟨O,_,o8 (gU 11 O) (xU 11 O) O (gU 46 O) O O (by rfl) (by rfl) O O,tV (V6 1 3 4 6 8 11) (CU 11 10 8 6 4) 136 O O O ?_⟩)⟩⟩⟩);refine VU 1 (fun s__=>∃ q__:{q__:Unit//True},s__=⟨136,[(1,.sl none 69 (l.map D3)),(4,.ptr 4 0 []),(6,.ptr 6 0 []),(8,.ptr 8 0 []),(11,.ptr 11 0 [])],[(11,.var (.agg [m7 zeroH,.sl (some 31) 4 ((E2 l x mark).map G9)])),(8,.var (.agg [m7 zeroH,.nils])),(6,.var (BO x)),(4,.var (.agg [.u32 545259519,.int 10,.u32 10,.nils,m7 B4]))]⟩) ?_ ?_
 ·rintro s__ ⟨⟨_,_⟩,rfl⟩;have hsm:=ND hl h99 x mark;refine q9 1 (y1 17) (V6 1 4 6 8 11 17) ⟨aU<|zK (kN O) O O,Zt⟩ ?_;refine W.seq (q9 1 (y1 18) (V7 1 4 6 8 11 17 18) ⟨aU<|zK (kI 0 O) O O,Zt⟩ ?_);refine W.block ?_;refine X5 (s:=17) 44 68 O ?_;refine W.loop (α:={q__:Nat//q__<=l.length}) (fun q__=>⟨136,[(1,.sl none 69 (l.map D3)),(4,.ptr 4 0 []),(6,.ptr 6 0 []),(8,.ptr 8 0 []),(11,.ptr 11 0 []),(17,.sl (some 44) 68 (((heads l).take q__.1).map m7)),(18,.int ((q__.1:Nat):Int))],[(11,.var (.agg [m7 zeroH,.sl (some 31) 4 ((E2 l x mark).map G9)])),(8,.var (.agg [m7 zeroH,.nils])),(6,.var (BO x)),(4,.var (.agg [.u32 545259519,.int 10,.u32 10,.nils,m7 B4]))]⟩) (fun q__=>l.length-q__.1) ⟨(0),bU⟩ O ?_;rintro ⟨j,hj⟩;show W _ _ _ _ ⟨136,[(1,.sl none 69 (l.map D3)),(4,.ptr 4 0 []),(6,.ptr 6 0 []),(8,.ptr 8 0 []),(11,.ptr 11 0 []),(17,.sl (some 44) 68 (((heads l).take j).map m7)),(18,.int ((j:Nat):Int))],[(11,.var (.agg [m7 zeroH,.sl (some 31) 4 ((E2 l x mark).map G9)])),(8,.var (.agg [m7 zeroH,.nils])),(6,.var (BO x)),(4,.var (.agg [.u32 545259519,.int 10,.u32 10,.nils,m7 B4]))]⟩;have hj:j<=l.length:=hj;have hsm:=ND hl h99 x mark;refine W.seq (q9 4 (y4 87 88 89 90) (V8 1 4 6 8 11 17 18 90) ⟨mU 18 O O,mU 1 O O,aU<|zN O (lN _) O,aU<|zS O O O,Zt⟩ ?_);refine z6 O (fun hc90=>?_) (fun hc90=>?_)
  ·refine W.skip (W.seq (W.block ?_));refine u4 9 (y9 93 94 95 96 97 98 99 100 17) [(7,17),(8,100),(8,93)] [(7,17),(8,100)] (V7 1 4 6 8 11 17 18) ⟨aU<|zM O O,mU 1 O O,mU 18 O O,aU<|zI j O O O bU O,aU<|P9 O O,aU<|zL O O (mG l) O O O O O,aU fun _ _ H K=>w8 (z:=68) (.cons (eU K 98 O) .nil) ⟨⟨O,O,O⟩,Zt⟩ O H dU,aU<|QH O O O (g6 O) (show _=(((heads l).take (j+1)).map m7) from(q14 bO)) (by simp only[List.length_map,List.length_take,N7,List.length_cons,List.length_nil];omega) O,aU<|zO O O O,Zt⟩ O O (tU O ?_);refine z8 3 (y3 91 92 18) (V7 1 4 6 8 11 17 18) ⟨mU 18 O O,aU<|Q6 1 O O bU O,aU<|zA O O O,Zt⟩ ?_;exact⟨⟨(j+1),bU⟩,rfl,(by simp only[];omega)⟩
  ·obtain rfl:j=l.length:=by omega
   rw[q15];refine W.exit (q9 1 (y1 19) (V6 4 6 8 11 17 19) ⟨aU<|zK (kN O) O O,Zt⟩ ?_);refine W.seq (q9 1 (y1 20) (V7 4 6 8 11 17 19 20) ⟨aU<|zK (kI 0 O) O O,Zt⟩ ?_);refine W.block ?_;refine X5 (s:=19) 23 32 O ?_;refine W.loop (α:={q__:Nat//q__<=(E2 l x mark).length}) (fun q__=>⟨136,[(4,.ptr 4 0 []),(6,.ptr 6 0 []),(8,.ptr 8 0 []),(11,.ptr 11 0 []),(17,.sl (some 44) 68 ((heads l).map m7)),(19,.sl (some 23) 32 ((DD (E2 l x mark) q__.1).map z7)),(20,.int ((q__.1:Nat):Int))],[(11,.var (.agg [m7 zeroH,.sl (some 31) 4 ((E2 l x mark).map G9)])),(8,.var (.agg [m7 zeroH,.nils])),(6,.var (BO x)),(4,.var (.agg [.u32 545259519,.int 10,.u32 10,.nils,m7 B4]))]⟩) (fun q__=>(E2 l x mark).length-q__.1) ⟨(0),bU⟩ O ?_;rintro ⟨k,hk⟩;show W _ _ _ _ ⟨136,[(4,.ptr 4 0 []),(6,.ptr 6 0 []),(8,.ptr 8 0 []),(11,.ptr 11 0 []),(17,.sl (some 44) 68 ((heads l).map m7)),(19,.sl (some 23) 32 ((DD (E2 l x mark) k).map z7)),(20,.int ((k:Nat):Int))],[(11,.var (.agg [m7 zeroH,.sl (some 31) 4 ((E2 l x mark).map G9)])),(8,.var (.agg [m7 zeroH,.nils])),(6,.var (BO x)),(4,.var (.agg [.u32 545259519,.int 10,.u32 10,.nils,m7 B4]))]⟩;have hk:k<=(E2 l x mark).length:=hk;refine W.seq (q9 5 (y5 101 102 103 104 105) (V8 4 6 8 11 17 19 20 105) ⟨mU 20 O O,aU (fU 11 O O),aU fun _ B H K=>R.ldO (K 102 _ O) (B 11 _ O) O H,aU fun _ B H K=>R6 (SC.alb (K 103 _ O) (B 11 _ O) O) (lN _) H,aU<|zS O O O,Zt⟩ ?_);refine z6 O (fun hc105=>?_) (fun hc105=>?_)
   ·refine W.skip (W.seq (W.block ?_));refine W.region (WL.cons O (R.al (gU 19 O) (nU O) dU) (j46 6 [(11,.rp (.agg [m7 zeroH,.sl none 4 ((E2 l x mark).map D1)])),(20,.int ((k:Nat):Int))] [(4,.ptr 4 0 []),(6,.ptr 6 0 []),(8,.ptr 8 0 []),(11,.ptr 11 0 []),(17,.sl (some 44) 68 ((heads l).map m7)),(19,.sl (some 23) 32 ((DD (E2 l x mark) k).map z7)),(20,.int ((k:Nat):Int)),(108,.al 19),(114,z7 (E9 (E2 l x mark)[k]!))] (.cons (Bor.ptr (gU 11 O) (xU 11 O) O (JY (⟨zeroH,E2 l x mark⟩:BlkS)) O) O (.cons (Bp (gV 20 O) O O) O .nil)) (fun C hC0 _ _ hD=>?_) ?_))
    ·have hC:=hC0.trans hC;exact⟨rfl,_,R.fdR (gV 11 rfl) rfl rfl (nU rfl),⟨rfl,_,R.ldR (gV 109 rfl) rfl rfl rfl (nU rfl),⟨rfl,_,R.mov (gV 20 rfl) rfl (nU rfl),⟨rfl,_,R.idxN (k) (SC.sl (gU 110 rfl)) (b4 (gV 111 rfl)) rfl bU (nU rfl) dU,⟨rfl,_,R.ldE (gU 112 rfl) (SC.sl (gU 110 rfl)) (j5 (l:=(E2 l x mark)) bU) rfl rfl rfl rfl (nU rfl),⟨rfl,_,w6 hC (IH (E2 l x mark)[k]! (hsm.1 _ (m1 (by omega))).wf) (Bc (Bp (gV 113 rfl) rfl rfl) Bn) (FrsR.one (J0 _)) (nU rfl),⟨[114],[(114,_)],[],136,rfl,rfl,rfl,rfl,rfl,⟨⟨rfl,rfl⟩,⟨rfl,rfl⟩,⟨rfl,rfl⟩,⟨rfl,rfl⟩,⟨rfl,rfl⟩,⟨rfl,rfl⟩,⟨rfl,rfl⟩,⟨rfl,rfl⟩,⟨rfl,rfl,rfl,m4 _⟩,Zt⟩⟩⟩⟩⟩⟩⟩⟩
    ·refine⟨rfl,_,w8 (z:=32) (.cons (gV 114 rfl) .nil) ⟨⟨rfl,rfl,rfl⟩,Zt⟩ rfl (nU rfl) dU,⟨rfl,_,J8 (Or.inr (gU 108 rfl)) (gU 19 rfl) (SrcO.sc (SC.sl (gU 115 rfl)) (g6 rfl)) (show _=((DD (E2 l x mark) (k+1)).map z7) from(z79 (by omega))) (by simp only[List.length_map,z78 hk,List.length_cons,List.length_nil];omega) (nU rfl) dU dU,⟨rfl,_,R.asgO (gU 116 rfl) rfl (nU rfl) dU,⟨[4,6,8,11,17,19,20],[(4,_),(6,_),(8,_),(11,_),(17,_),(19,_),(20,_)],[(11,.var _),(8,.var _),(6,.var _),(4,.var _)],136,rfl,rfl,rfl, ?_⟩⟩⟩⟩;refine z8 3 (y3 106 107 20) (V7 4 6 8 11 17 19 20) ⟨mU 20 O O,aU<|Q6 1 O O bU O,aU<|zA O O O,Zt⟩ ?_;exact⟨⟨(k+1),bU⟩,rfl,(by simp only[];omega)⟩
   ·obtain rfl:k=(E2 l x mark).length:=by omega
    rw[z80];refine W.exit (W.seq ?_);refine U9 (m:=17) (an:=[0,0,0,4,12,0,32,96,252,0,524,2047,4095,8191,8191,0,49151,131071]) (its:=[.y 118 _,.y 119 _,.y 120 _,.y 121 _,.y 122 _,.y 123 _,.y 124 _,.y 125 _,.y 126 _,.y 127 _,.y 128 _,.y 129 _,.y 117 _,.y 130 _,.y 131 _,.y 21 _,⟨152,.dead,true⟩]) (ks:=[(16,152)]) (kk:=[]) (efs:=[(15,(p6 21)),(16,(p6 21))]) (live:=[8,11,21,131]) (env':=(V4 8 11 21 131)) (nd:=40) (bx1:=(CU 21 11 8 6 4)) hP dU O ⟨⟨159,O⟩,nU O,O,O,O,O⟩ (            ⟨⟨O,nU O,O,fun _ τ hb ht hτ=>R.ldP (hτ 4 _ O) (hb 4 _ O) O O O O ht⟩,⟨⟨O,nU O,O,fun _ τ hb ht hτ=>R.al (hτ 17 _ O) ht dU⟩,⟨⟨O,nU O,O,fun _ τ hb ht hτ=>R.al (hτ 17 _ O) ht dU⟩,⟨⟨O,nU O,O,fun _ τ hb ht hτ=>w6 hC (z45 (heads l) (by rw[N7];omega)) (Bc (Bor.sc (SC.al (hτ 120 _ O) (hτ 17 _ O)) (j2 GI)) Bn) (F1 (.u32 _)) ht⟩,⟨⟨O,nU O,O,fun _ τ hb ht hτ=>R.bin (evt (hτ 121 _ O)) (kW (.int .u32 1) (.u32 1) O) O Zt ht⟩,⟨⟨O,nU O,O,fun _ τ hb ht hτ=>R.fdP (hτ 6 _ O) ht⟩,⟨⟨O,nU O,O,fun _ τ hb ht hτ=>R.ldP (hτ 123 _ O) (hb 6 _ O) O O O O ht⟩,⟨⟨O,nU O,O,fun _ τ hb ht hτ=>Q5 (d:=.u32 x.step.toUInt32) (evt (hτ 124 _ O)) O (O) ht⟩,⟨⟨O,nU O,O,fun _ τ hb ht hτ=>R.bin (evt (hτ 122 _ O)) (evt (hτ 125 _ O)) O Zt ht⟩,⟨⟨O,nU O,O,fun _ τ hb ht hτ=>R.al (hτ 19 _ O) ht dU⟩,⟨⟨O,nU O,O,fun _ τ hb ht hτ=>w6 hC (q91 ((E2 l x mark).map E9) (NH _) (by rw[List.length_map];omega)) (Bc (Bor.sc (SC.al (hτ 127 _ O) (hτ 19 _ O)) (j2 D8)) Bn) (F1 (J0 _)) ht⟩,⟨⟨O,nU O,O,fun _ τ hb ht hτ=>w6 hC (k96 (heads l) (IT (heads l)+1+x.step.toUInt32) (JR d9 ((E2 l x mark).map E9)) (z82 hl) (by rw[N7];omega) (by rw[N7];omega) (BB W9 (NH _))) (Bc (Bp (evt (hτ 118 _ O)) O O) (Bc (Bor.sc (SC.al (hτ 119 _ O) (hτ 17 _ O)) (j2 GI)) (Bc (Bp (evt (hτ 126 _ O)) O O) (Bc (Bp (evt (hτ 128 _ O)) O O) (Bc (Bp (kW (.int .u32 200) (.u32 200) O) O O) Bn))))) (z97 _ _) ht⟩,⟨⟨O,nU O,O,fun _ τ hb ht hτ=>R.movT (hτ 129 _ O) O ht⟩,⟨⟨O,nU O,O,fun _ τ hb ht hτ=>R.ext (hτ 117 _ O) O O ht⟩,⟨⟨O,nU O,O,fun _ τ hb ht hτ=>R.ext (hτ 117 _ O) O O ht⟩,⟨⟨O,O,⟨O,nU O⟩,(SpE.alloc O (nU O))⟩,⟨⟨O,O,O,(JD (p:=21) (id:=21) O O O (fun τ hτ=>(evt (hτ 130 _ O))) (by rfl) (by rfl) (by rfl) (by rfl) O)⟩,Zt⟩⟩⟩⟩⟩⟩⟩⟩⟩⟩⟩⟩⟩⟩⟩⟩⟩) O O O (n':=136) O (P8 O O O ⟨[8,11,21,22],(V4 8 11 21 22),(CU 21 11 8 6 4),136,O,O,O, ?_⟩);refine z5 3 (y2 132 133) [] [] (V5 8 11 22 132 133) ⟨aU (lU 21 O O O O O O O),aU (fU 11 O O),Zt⟩ O O (d5 O O O O O (tV (V3 8 11 22) (CU 21 11 8 6 4) 136 O O O ?_));refine z5 4 [] [] [] (V3 8 11 22) Zt O O (⟨O,_,R.ldTake (gU 11 O) (xU 11 O) O O O (nU O),⟨O,_,R.mov (gV 22 O) O (nU O),⟨O,_,o8 (gU 8 O) (xU 8 O) O (gU 134 O) O O (by rfl) (by rfl) O O,(P8 O O O (tV (V2 8 9) (CU 21 11 8 6 4) 136 O O O ?_))⟩⟩⟩);refine W.ret ?_;exact Ends.many (.inr O) (.cons O O O (iL 78 69) (.cons O O O Zt .nil)) (O) (show[(8,false),(9,true)].Nodup by decide)
 ·intro htail;refine W.seq (W.seq ?_);refine C6 (V6 1 3 4 6 8 11) (CU 11 10 8 6 4) 136 O O O ?_;refine b7 [4,6,8,11] (bx':=(T6 11 8 6 4)) O O O (g7 hD O) ?_;refine z8 1 (y1 12) (V7 1 3 4 6 8 11 12) ⟨aU<|zK (kI 0 O) O O,Zt⟩ ?_;refine W.block ?_;refine W.loop (α:={q__:Nat//q__<=min x.spends.length 6}) (fun q__=>⟨136,[(1,.sl none 69 (l.map D3)),(3,.u32 mark),(4,.ptr 4 0 []),(6,.ptr 6 0 []),(8,.ptr 8 0 []),(11,.ptr 11 0 []),(12,.int ((q__.1:Nat):Int))],[(11,.var (.agg [m7 zeroH,.sl (some 31) 4 ((QG l x mark q__.1).map G9)])),(8,.var (.agg [m7 zeroH,.nils])),(6,.var (BO x)),(4,.var (.agg [.u32 545259519,.int 10,.u32 10,.nils,m7 B4]))]⟩) (fun q__=>min x.spends.length 6-q__.1) ⟨(0),bU⟩ O ?_;rintro ⟨i,hi⟩;show W _ _ _ _ ⟨136,[(1,.sl none 69 (l.map D3)),(3,.u32 mark),(4,.ptr 4 0 []),(6,.ptr 6 0 []),(8,.ptr 8 0 []),(11,.ptr 11 0 []),(12,.int ((i:Nat):Int))],[(11,.var (.agg [m7 zeroH,.sl (some 31) 4 ((QG l x mark i).map G9)])),(8,.var (.agg [m7 zeroH,.nils])),(6,.var (BO x)),(4,.var (.agg [.u32 545259519,.int 10,.u32 10,.nils,m7 B4]))]⟩;have hi:i<=min x.spends.length 6:=hi;have hsm:=z86 hl h99 x mark i (by omega);have hlb:=YJ hl h99 (TV OB hsm.1 (by omega));have hthl:=Nat.le_trans (q64 hlb) (show 100000000<=1000000000 by decide);refine W.seq (W.seq ?_);by_cases h4:i<x.spends.length
  ·refine z8 9 (y9 47 48 49 50 51 52 53 54 55) (V8 1 3 4 6 8 11 12 55) ⟨mU 12 O O,aU (fU 6 O O),aU (lU 48 O O O O O O O),aU<|zN O (lN _) O,aU<|zS O O O,mU 51 O O,aW O O (gT (dT h4) O)<|zV O O O,aW O O (gT (dT h4) O)<|KO 6 O O O,aU<|zT O (dT h4) O O O,Zt⟩ ?_;refine z6 O (fun hc55=>?_) (fun hc55=>?_)
   ·refine W.skip (W.seq (W.block ?_));refine W.inl [(1,.sl none 69 (l.map D3)),(3,.u32 mark),(6,.rp (BO x)),(11,.rp (.agg [m7 zeroH,.sl none 4 ((QG l x mark i).map D1)])),(12,.int ((i:Nat):Int))] (.cons (Bp (gV 1 O) O O) O (.cons (Bp (gV 3 O) O O) O (.cons (Bor.ptr (gU 6 O) (xU 6 O) O (x73 x) O) O (.cons (Bor.ptr (gU 11 O) (xU 11 O) O (JY (⟨zeroH,QG l x mark i⟩:BlkS)) O) O (.cons (Bp (gV 12 O) O O) O .nil))))) ?_;refine k34 (σ2:=⟨136,[(3,.u32 mark),(6,.rp (BO x)),(12,.int ((i:Nat):Int)),(13,.sl none 33 ((T7 (l++[(⟨zeroH,QG l x mark i⟩:BlkS)])).map KX)),(14,.sl none 1 ((T7 (l++[(⟨zeroH,QG l x mark i⟩:BlkS)])).map KF))],[]⟩) hP (fun C hC0 _ _ hD=>?_) ?_
    ·have hC:=hC0.trans hC;refine j47 (m:=12) (an:=[0,0,3,0,8,31,63,127,255,255,511,2047]) dU rfl (its:=[.y 59 _,.y 60 _,.y 61 _,.y 62 _,.y 63 _,.y 64 _,.y 65 _,.y 58 _,.y 66 _,.y 67 _,.y 13 _,.y 14 _]) (ks:=[(2,59),(5,61)]) (kk:=[(2,59),(5,61)]) (live:=[3,6,12,13,14]) (env':=[(3,_),(6,_),(12,_),(13,_),(14,_)]) (⟨nU rfl,rfl,⟨aU fun _ _ H _=>w8 .nil Zt rfl H dU,mU 1 rfl rfl,aU fun _ _ H K=>J8 (Or.inl rfl) (K 59 _ rfl) (SrcO.sc (SC.sl (K 60 _ rfl)) (c6 (fun _=>rfl))) (List.nil_append _) bU H dU dU,aU fun _ _ H K=>R.ldR (eU K 11 rfl) rfl rfl rfl H,aU fun _ _ H K=>w8 (z:=69) (.cons (eU K 62 rfl) .nil) ⟨⟨rfl,rfl,rfl⟩,Zt⟩ rfl H dU,aU fun _ _ H K=>J8 (Or.inl rfl) (K 61 _ rfl) (SrcO.sc (SC.sl (K 63 _ rfl)) (g6 rfl)) (show _=((l++[(⟨zeroH,QG l x mark i⟩:BlkS)]).map D3) from(by rw[List.map_append];rfl)) (by simp only[List.length_map,List.length_cons,List.length_nil];omega) H dU dU,aU fun _ _ H K=>R.callZ (r':=.tup [.sl none 33 ((T7 (l++[(⟨zeroH,QG l x mark i⟩:BlkS)])).map KX),.sl none 1 ((T7 (l++[(⟨zeroH,QG l x mark i⟩:BlkS)])).map KF)]) (q67 (l++[(⟨zeroH,QG l x mark i⟩:BlkS)]) hlb) hC (Bc (Bor.sc (SC.sl (K 64 _ rfl)) (j2 FZ)) Bn) (j19 _ _ _) (j31 _ _ _) H,aU fun _ _ H K=>R.movT (K 65 _ rfl) rfl H,aU fun _ _ H K=>R.ext (K 58 _ rfl) rfl rfl H,aU fun _ _ H K=>R.ext (K 58 _ rfl) rfl rfl H,aU fun _ _ H K=>j4 (eU K 66 rfl) rfl H,aU fun _ _ H K=>j4 (eU K 67 rfl) rfl H,Zt⟩,rfl,rfl,rfl⟩) rfl (bx':=[]) rfl (n':=136) rfl (tV [(3,_),(6,_),(12,_),(13,_),(14,_)] [] 136 rfl rfl rfl ?_);exact⟨rfl,rfl⟩
    ·refine WIn.seq ?_;refine WIn.region 12 [(1,.sl none 69 (l.map D3)),(3,.u32 mark),(4,.ptr 4 0 []),(6,.ptr 6 0 []),(8,.ptr 8 0 []),(11,.ptr 11 0 []),(12,.int ((i:Nat):Int)),(78,G9 (BG x.spends[i]! (T7 (l++[(⟨zeroH,QG l x mark i⟩:BlkS)])) mark).1),(79,.bool (BG x.spends[i]! (T7 (l++[(⟨zeroH,QG l x mark i⟩:BlkS)])) mark).2)] (fun C hC0 _ _ hD=>?_) ?_
     ·have hC:=hC0.trans hC;exact⟨rfl,_,R.fdR (gV 6 rfl) rfl rfl (nU rfl),⟨rfl,_,R.ldR (gV 69 rfl) rfl rfl rfl (nU rfl),⟨rfl,_,R.mov (gV 12 rfl) rfl (nU rfl),⟨rfl,_,R.idxN (i) (SC.sl (gU 70 rfl)) (b4 (gV 71 rfl)) rfl bU (nU rfl) dU,⟨rfl,_,R.ldE (gU 72 rfl) (SC.sl (gU 70 rfl)) (j5 (l:=x.spends) bU) rfl rfl rfl rfl (nU rfl),⟨rfl,_,R.mov (gV 13 rfl) rfl (nU rfl),⟨rfl,_,R.mov (gV 14 rfl) rfl (nU rfl),⟨rfl,_,R.mov (gV 3 rfl) rfl (nU rfl),⟨rfl,_,w6 hC (IQ x.spends[i]! (T7 (l++[(⟨zeroH,QG l x mark i⟩:BlkS)])) mark hthl (hto _ (m1 h4))) (Bc (Bp (gV 73 rfl) rfl rfl) (Bc (Bp (gV 74 rfl) rfl rfl) (Bc (Bp (gV 75 rfl) rfl rfl) (Bc (Bp (gV 76 rfl) rfl rfl) Bn)))) (q17 _ _) (nU rfl),⟨rfl,_,R.movTO (gU 77 rfl) rfl (nU rfl),⟨rfl,_,R.extO (gU 68 rfl) rfl rfl rfl rfl rfl (nU rfl),⟨rfl,_,R.ext (gU 68 rfl) rfl rfl (nU rfl),⟨[78,79],[(78,_),(79,_)],[],136,rfl,rfl,rfl,rfl,rfl,⟨⟨rfl,rfl⟩,⟨rfl,rfl⟩,⟨rfl,rfl⟩,⟨rfl,rfl⟩,⟨rfl,rfl⟩,⟨rfl,rfl⟩,⟨rfl,rfl⟩,⟨rfl,rfl,rfl,UO _⟩,⟨rfl,rfl,rfl,.bool _⟩,Zt⟩⟩⟩⟩⟩⟩⟩⟩⟩⟩⟩⟩⟩⟩
     ·refine⟨rfl,_,R.alloc rfl (nU rfl),⟨rfl,_,o8 (gU 15 rfl) (xU 15 rfl) rfl (gU 78 rfl) rfl rfl (by rfl) (by rfl) rfl rfl,⟨rfl,_,j4 (gV 79 rfl) rfl (nU rfl),⟨[1,3,4,6,8,11,12,15,16],[(1,_),(3,_),(4,_),(6,_),(8,_),(11,_),(12,_),(15,_),(16,_)],[(15,.var _),(11,.var _),(8,.var _),(6,.var _),(4,.var _)],136,rfl,rfl,rfl, ?_⟩⟩⟩⟩;refine q9 1 (y1 80) (V9 1 3 4 6 8 11 12 15 80) ⟨mU 16 O O,Zt⟩ ?_;refine W.cond O (fun hc80=>?_) (fun hc80=>?_)
      ·refine u4 7 (y2 81 82) [] [] (V9 1 3 4 6 8 11 12 15 82) ⟨aU (fU 11 O O),aU fun _ B H K=>R.ldO (K 81 _ O) (B 11 _ O) O H,Zt⟩ O O (⟨O,_,R.ldTake (gU 15 O) (xU 15 O) O O O (nU O),⟨O,_,R.bslO (z:=4) (.own (gU 83 O) O O O O .nil) O O (nU O) dU,⟨O,_,CQ (gU 82 O) (xU 11 O) O O O O (gU 82 O) (gU 84 O) O (show _=((QG l x mark (i+1)).map G9) from(j14 hc80)) (by simp only[List.length_map,List.length_cons,List.length_nil];omega) (nU O) dU dU,⟨O,_,R.fdP (gU 11 O) (nU O),⟨O,_,o8 (gU 86 O) (xU 11 O) O (gU 85 O) O O (by rfl) (by rfl) O O,tV (V7 1 3 4 6 8 11 12) (CU 15 11 8 6 4) 136 O O O ?_⟩⟩⟩⟩⟩);refine b7 [4,6,8,11] (bx':=(T6 11 8 6 4)) O O O (g7 hD O) ?_;refine z8 3 (y3 56 57 12) (V7 1 3 4 6 8 11 12) ⟨mU 12 O O,aU<|Q6 1 O O bU O,aU<|zA O O O,Zt⟩ ?_;exact⟨⟨(i+1),bU⟩,(by first|(dsimp only;rw[j77 (by rw[hc80];exact Bool.false_ne_true)])|rfl),(by show min x.spends.length 6-(i+1)<min x.spends.length 6-i;omega)⟩
      ·refine W.skip ?_;refine C6 (V7 1 3 4 6 8 11 12) (CU 15 11 8 6 4) 136 O O O ?_;refine b7 [4,6,8,11] (bx':=(T6 11 8 6 4)) O O O (g7 hD O) ?_;refine z8 3 (y3 56 57 12) (V7 1 3 4 6 8 11 12) ⟨mU 12 O O,aU<|Q6 1 O O bU O,aU<|zA O O O,Zt⟩ ?_;exact⟨⟨(i+1),bU⟩,(by first|(dsimp only;rw[j77 (by rw[hc80];exact Bool.false_ne_true)])|rfl),(by show min x.spends.length 6-(i+1)<min x.spends.length 6-i;omega)⟩
   ·obtain rfl:i=min x.spends.length 6:=by omega
    refine W.exit ?_;refine C6 (V5 1 4 6 8 11) (T6 11 8 6 4) 136 O O O ?_;exact htail _ ⟨⟨(()),Zt⟩,rfl⟩
  ·refine z8 9 [.y 47 _,.y 48 _,.y 49 _,.y 50 _,.y 51 _,.y 52 _,.x 53,.x 54,.y 55 _] (V8 1 3 4 6 8 11 12 55) ⟨mU 12 O O,aU (fU 6 O O),aU (lU 48 O O O O O O O),aU<|zN O (lN _) O,aU<|zS O O O,mU 51 O O,aF O O (gF (dF h4) O),aF O O (gF (dF h4) O),aU<|YL O (dF h4) (kB false O) O O,Zt⟩ ?_;refine v4 O (O) ?_
   obtain rfl:i=min x.spends.length 6:=by omega
   refine W.exit ?_;refine C6 (V5 1 4 6 8 11) (T6 11 8 6 4) 136 O O O ?_;exact htail _ ⟨⟨(()),Zt⟩,rfl⟩
end Go.Sx

namespace Go.Sx
theorem k59(n:Nat):D.u32 (UInt32.ofInt ((n:Nat):Int))=.u32 (UInt32.ofNat n):=by
 congr 1
 unfold UInt32.ofInt;apply UInt32.toNat_inj.1;rw[UInt32.toNat_ofNat',UInt32.toNat_ofNat'];omega
theorem k50(h:HdS):Wk (.sl (some 78) 69 [.agg [m7 h,.nils]]) (.sl (some 78) 69 ([(⟨h,[]⟩:BlkS)].map D3)):=
 .slL (.cons (.aggL (.cons (.refl _) (.cons (.nils _ _) .nil))) .nil)
theorem k22(b:BlkS)(c:Bool):D.brwR (.tup [JG b,.bool c])=.tup [D3 b,.bool c]:=by
 show D.tup [(JG b).brw,.bool c]=_;rw[JY]
def j79(ps:List PlS):Prop:=∀ x∈ps,∀ s∈x.spends,s.to.length<=140737488355328
section
variable{ps:List PlS}{i:Nat}
theorem k24(h:(r8 (A8 ps i) ps[i]! (UInt32.ofNat i)).2=false):A8 ps (i+1)=A8 ps i:=by rw[A8,if_neg (by rw[h];exact Bool.false_ne_true)]
theorem k25(h:(r8 (A8 ps i) ps[i]! (UInt32.ofNat i)).2=true):(A8 ps i).map D3++[D3 (r8 (A8 ps i) ps[i]! (UInt32.ofNat i)).1]=(A8 ps (i+1)).map D3:=by
 rw[A8,if_pos h,List.map_append];rfl
end
end Go.Sx

namespace Go.Sx
variable{P:Program}{C:Ctx}{σ σ' σ1:Sg}{a:Act}{w w':World}{ρ:Nat->Nat}{Fe Fe' Fb:Nat->List Nat}
variable{κ α:Type}[DecidableEq κ]
section
variable{ops:List Oper}{an:List Nat}{ks kk:List (Nat×Nat)}{its:List It}
end
end Go.Sx

namespace Go.Sx
open Go.Proofs
theorem BN:KeyC Tryz.prog 109 Z2 3 where
 s:=⟨_,Tryz.underlying109,trivial⟩
 eq:=fun a b=>by
  have h:=X9 a b
  have e:(@BEq.beq Plc instBEqProd a b)=(@BEq.beq Plc instBEqOfDecidableEq a b):=by
   rw[Bool.eq_iff_iff,@beq_iff_eq Plc instBEqProd _ a b,@beq_iff_eq Plc instBEqOfDecidableEq _ a b]
  rw[<- e];exact h
 ck:=fun a=>CkV.struct (k:=2) Tryz.underlying109 (.cons rfl rfl inferInstance rfl rfl (CkV.arr a.1) (.cons rfl rfl inferInstance rfl rfl (k44 (CkV.u32 Tryz.underlying27 a.2)) .nil))
 n:=rfl
 p:=fun _=>rfl
structure PvS where
 h:Int
 head:Hs
 at_:Int
 id:Hs
 raw:List UInt8
 br:List Hs
 t:TxS
 deriving Inhabited
abbrev u08:=Plc×UInt64×Int
end Go.Sx

namespace Go.Sx
section
variable{l:List BlkS}{ks:List UInt8}{i:Nat}
end
section
variable{l:List PvS}{p:PvS}{sc:Hs}{n i k:Nat}{t:TxS}{ks:List Plc}
end
open Go.Proofs
end Go.Sx

namespace Go.Sx
open Go.Proofs
def D5(l:List InS):Nat->List (Plc×Int)
 | 0=>[]
 | i+1=>D5 l i++[(plc l[i]!,((i:Nat):Int))]
def UX(l:List OutS):Nat->UInt64
 | 0=>0
 | i+1=>UX l i+l[i]!.value
def k97(t:TxS):Prop:=
 t.ins.length≠0/\t.outs.length≠0/\(∀ i<t.ins.length,N4 (D5 t.ins i) (plc t.ins[i]!)=false)/\(∀ i<t.outs.length,¬ 2100000000000000<t.outs[i]!.value/\¬ 2100000000000000<UX t.outs (i+1))/\(H8 t).length<=16384
instance(t:TxS):Decidable (k97 t):=by unfold k97;infer_instance
def i7(t:TxS):Bool:=decide (k97 t)
theorem z51{t:TxS}(h:t.ins.length=0):i7 t=false:=decide_eq_false fun hm=>hm.1 h
theorem z50{t:TxS}(h:t.outs.length=0):i7 t=false:=decide_eq_false fun hm=>hm.2.1 h
theorem z49{t:TxS}{i:Nat}(hi:i<t.ins.length)(h:N4 (D5 t.ins i) (plc t.ins[i]!)=true):i7 t=false:=decide_eq_false fun hm=>by have:=hm.2.2.1 i hi;rw[h] at this;cases this
theorem z48{t:TxS}{i:Nat}(hi:i<t.outs.length)(h:2100000000000000<t.outs[i]!.value):i7 t=false:=decide_eq_false fun hm=>(hm.2.2.2.1 i hi).1 h
theorem z47{t:TxS}{i:Nat}(hi:i<t.outs.length)(h:2100000000000000<UX t.outs (i+1)):i7 t=false:=decide_eq_false fun hm=>(hm.2.2.2.1 i hi).2 h
theorem SV{t:TxS}(h1:¬ t.ins.length=0)(h2:¬ t.outs.length=0)(h3:∀ i<t.ins.length,N4 (D5 t.ins i) (plc t.ins[i]!)=false)
 (h4:∀ i<t.outs.length,¬ 2100000000000000<t.outs[i]!.value/\¬ 2100000000000000<UX t.outs (i+1)):i7 t=decide ((H8 t).length<=16384):=by
 unfold i7 k97;simp only[ne_eq,h1,h2,not_false_eq_true,true_and,decide_eq_decide];exact⟨fun h=>h.2.2,fun h=>⟨h3,h4,h⟩⟩
end Go.Sx

namespace Go.Sx
open Go.Proofs
end Go.Sx

namespace Go.Sx
open Go.Proofs
end Go.Sx

namespace Go.Sx
open Go.Proofs
end Go.Sx

namespace Go.Sx
section
variable{α:Type}[Inhabited α][BEq α][LawfulBEq α]{a b:List α}
end
end Go.Sx

namespace Go.Sx
variable{P:Program}{C:Ctx}{σ σ' σ1:Sg}{a:Act}{w w':World}{ρ:Nat->Nat}{Fe Fe' Fb:Nat->List Nat}
variable{κ α:Type}[DecidableEq κ]
end Go.Sx

namespace Go.Sx
abbrev w90:=UInt64×Hs
structure BkS where
 outs:List (Plc×w90)
 spent:List (Plc×Unit)
 ids:List (Hs×Unit)
section
variable{l:List BlkS}{h:Nat}{b:BkS}{i:Nat}
variable{txs:List TxS}
end
end Go.Sx
namespace Go.Sx
section
variable{l:List BlkS}{h i k j:Nat}{b:BlkS}{sc id:Hs}{o:List OutS}{m:List (Plc×Unit)}{u:List u08}
end
end Go.Sx
namespace Go.Sx
section
variable{l:List BlkS}{h i k j:Nat}{b:BkS}{sc:Hs}{t:TxS}{txs:List TxS}
end
end Go.Sx

namespace Go.Sx
open Go.Proofs
theorem n4(b:List UInt8)(x:UInt64)(n:Nat)(hn:n<=8)(hb:b.length<=10000000):FnB Tryz.prog gl 101 [.ptr 0 0 [],.u64 x,.int ((n:Nat):Int)] [(0,.var (.agg [.sl (some 5) 1 (b.map D.u8)]))] (.tup []) [(0,.var (.agg [.sl (some 5) 1 ((b++p8 x n).map D.u8)]))] []:=by
 refine FnB.of (n:=23) (ids:=[0]) Tryz.func101 rfl rfl rfl (nU rfl) fun C hC hD=>?_;refine q9 2 (y2 6 7) (V4 0 1 6 7) ⟨mU 2 O O,aU<|OP (kI 0 O) O O,Zt⟩ ?_;refine W.block ?_;refine W.loop (α:={q__:Nat//q__<=n}) (fun q__=>⟨23,[(0,.ptr 0 0 []),(1,.u64 (q44 x q__.1)),(6,.int ((n:Nat):Int)),(7,.int ((q__.1:Nat):Int))],[(0,.var (.agg [.sl (some 5) 1 ((b++p8 x q__.1).map D.u8)]))]⟩) (fun q__=>n-q__.1) ⟨(0),bU⟩ (by simp only[p8,List.append_nil];rfl) ?_;rintro ⟨i,hi⟩;show W _ _ _ _ ⟨23,[(0,.ptr 0 0 []),(1,.u64 (q44 x i)),(6,.int ((n:Nat):Int)),(7,.int ((i:Nat):Int))],[(0,.var (.agg [.sl (some 5) 1 ((b++p8 x i).map D.u8)]))]⟩;have hi:i<=n:=hi;have hll:=j3 x i;refine q9 1 (y1 8) (V5 0 1 6 7 8) ⟨aU<|zS O O O,Zt⟩ ?_;refine W.seq ?_;refine z6 O (fun hc8=>?_) (fun hc8=>?_)
 ·refine W.skip (W.seq (W.block (z5 12 (y8 9 10 11 12 13 14 15 16) [] [] (V7 0 1 6 7 9 13 16) ⟨mU 0 O O,mU 0 O O,aU<|P7 O O,aU (fU 11 O O),aU fun _ B H K=>R.ldO (K 12 _ O) (B 0 _ O) O H,mU 1 O O,aU<|zW O O O,aU fun _ _ H K=>w8 (z:=1) (.cons (eU K 15 O) .nil) ⟨⟨O,O,O⟩,Zt⟩ O H dU,Zt⟩ O O (⟨O,_,QQ (gU 13 O) (xU 0 O) O O O O (gU 13 O) (SrcO.sc (SC.sl (gU 16 O)) (g6 O)) (show _=((b++p8 x (i+1)).map D.u8) from(by simp[p8])) bU (nU O) dU dU,⟨O,_,R.nilcP (gU 9 O) (nU O),⟨O,_,R.fdP (gU 18 O) (nU O),⟨O,_,o8 (gU 19 O) (xU 0 O) O (gU 17 O) O O (by rfl) (by rfl) O O,tV (V4 0 1 6 7) (p6 0) 23 O O O ?_⟩⟩⟩⟩))));refine z8 3 (y3 20 21 1) (V4 0 1 6 7) ⟨mU 1 O O,aU fun _ _ H K=>R.bin (eU K 20 O) (kW (.int .u64 8) (.u64 8) O) O bV H,aU<|zA O O O,Zt⟩ ?_;refine z8 2 (y2 22 7) (V4 0 1 6 7) ⟨aU<|Q6 1 O O bU O,mU 22 O O,Zt⟩ ?_;exact⟨⟨(i+1),bU⟩,rfl,(by simp only[];omega)⟩
 ·obtain rfl:i=n:=by omega
  refine W.exit ?_;exact Z8 (r:=.dead) (.inl O) O (O) ⟨O,Zt⟩
theorem ZP(b:List UInt8)(n:Nat)(hb:b.length<=9000000):FnB Tryz.prog gl 142 [.ptr 0 0 [],.int ((n:Nat):Int)] [(0,.var (.agg [.sl (some 5) 1 (b.map D.u8)]))] (.tup []) [(0,.var (.agg [.sl (some 5) 1 ((b++u9 n).map D.u8)]))] []:=by
 refine FnB.of (n:=34) (ids:=[0]) Tryz.func142 rfl rfl rfl (nU rfl) fun C hC hD=>?_;refine q9 3 (y3 5 6 4) (V2 0 4) ⟨mU 1 O O,aU fun _ _ H K=>Q5 (d:=.u64 (cU n)) (eU K 5 O) O (O) H,aU<|zA O O O,Zt⟩ ?_;refine W.block (q9 3 (y3 13 14 12) (V3 0 4 12) ⟨mU 4 O O,aU<|B6 O (kW (.int .u64 253) (.u64 253) O) O O,aU<|zA O O O,Zt⟩ ?_);refine W.cond O (fun hc12=>?_) (fun hc12=>?_)
 ·refine u4 3 (y2 15 16) [] [] (V2 15 16) ⟨mU 0 O O,mU 4 O O,Zt⟩ O O (⟨O,_,R.callB [(0,0)] hC (n4 b (cU n) 1 dU (by first|omega|(simp only[List.length_append,j3,List.length_cons,List.length_nil];omega)|simp)) (EvB.cons (gV 15 O) O O O (EvB.cons (gV 16 O) O O O (EvB.cons (kI 1 O) O O O EvB.nil))) O ⟨O,Zt⟩ ⟨O,Zt⟩ O O O O O O (nU O),tV [] (p6 0) 34 O O O ?_⟩);exact Z8 (r:=.dead) (.inl O) O (by simp only[u9,if_pos (of_decide_eq_true hc12)];rfl) ⟨O,Zt⟩
 ·refine q9 3 (y3 19 20 18) (V3 0 4 18) ⟨mU 4 O O,aU<|B6 O (kW (.int .u64 65535) (.u64 65535) O) O O,aU<|zA O O O,Zt⟩ ?_;refine W.cond O (fun hc18=>?_) (fun hc18=>?_)
  ·refine z5 2 (y1 21) [] [] (V3 0 4 21) ⟨mU 0 O O,Zt⟩ O O (⟨O,_,R.callB [(0,0)] hC (n4 b 253 1 dU (by first|omega|(simp only[List.length_append,j3,List.length_cons,List.length_nil];omega)|simp)) (EvB.cons (gV 21 O) O O O (EvB.cons (kW (.int .u64 253) (.u64 253) O) O O O (EvB.cons (kI 1 O) O O O EvB.nil))) O ⟨O,Zt⟩ ⟨O,Zt⟩ O O O O O O (nU O),tV (V2 0 4) (p6 0) 34 O O O ?_⟩);refine u4 3 (y2 23 24) [] [] (V2 23 24) ⟨mU 0 O O,mU 4 O O,Zt⟩ O O (⟨O,_,R.callB [(0,0)] hC (n4 (b++p8 253 1) (cU n) 2 dU (by first|omega|(simp only[List.length_append,j3,List.length_cons,List.length_nil];omega)|simp)) (EvB.cons (gV 23 O) O O O (EvB.cons (gV 24 O) O O O (EvB.cons (kI 2 O) O O O EvB.nil))) O ⟨O,Zt⟩ ⟨O,Zt⟩ O O O O O O (nU O),tV [] (p6 0) 34 O O O ?_⟩);exact Z8 (r:=.dead) (.inl O) O (by simp only[u9,if_neg (of_decide_eq_false hc12),if_pos (of_decide_eq_true hc18),List.append_assoc];rfl) ⟨O,Zt⟩
  ·refine q9 3 (y3 27 28 26) (V3 0 4 26) ⟨mU 4 O O,aU<|B6 O (kW (.int .u64 4294967295) (.u64 4294967295) O) O O,aU<|zA O O O,Zt⟩ ?_;refine W.cond O (fun hc26=>?_) (fun hc26=>?_)
   ·refine z5 2 (y1 29) [] [] (V3 0 4 29) ⟨mU 0 O O,Zt⟩ O O (⟨O,_,R.callB [(0,0)] hC (n4 b 254 1 dU (by first|omega|(simp only[List.length_append,j3,List.length_cons,List.length_nil];omega)|simp)) (EvB.cons (gV 29 O) O O O (EvB.cons (kW (.int .u64 254) (.u64 254) O) O O O (EvB.cons (kI 1 O) O O O EvB.nil))) O ⟨O,Zt⟩ ⟨O,Zt⟩ O O O O O O (nU O),tV (V2 0 4) (p6 0) 34 O O O ?_⟩);refine u4 3 (y2 31 32) [] [] (V2 31 32) ⟨mU 0 O O,mU 4 O O,Zt⟩ O O (⟨O,_,R.callB [(0,0)] hC (n4 (b++p8 254 1) (cU n) 4 dU (by first|omega|(simp only[List.length_append,j3,List.length_cons,List.length_nil];omega)|simp)) (EvB.cons (gV 31 O) O O O (EvB.cons (gV 32 O) O O O (EvB.cons (kI 4 O) O O O EvB.nil))) O ⟨O,Zt⟩ ⟨O,Zt⟩ O O O O O O (nU O),tV [] (p6 0) 34 O O O ?_⟩);exact Z8 (r:=.dead) (.inl O) O (by simp only[u9,if_neg (of_decide_eq_false hc12),if_neg (of_decide_eq_false hc18),if_pos (of_decide_eq_true hc26),List.append_assoc];rfl) ⟨O,Zt⟩
   ·refine z5 2 (y1 7) [] [] (V3 0 4 7) ⟨mU 0 O O,Zt⟩ O O (⟨O,_,R.callB [(0,0)] hC (n4 b 255 1 dU (by first|omega|(simp only[List.length_append,j3,List.length_cons,List.length_nil];omega)|simp)) (EvB.cons (gV 7 O) O O O (EvB.cons (kW (.int .u64 255) (.u64 255) O) O O O (EvB.cons (kI 1 O) O O O EvB.nil))) O ⟨O,Zt⟩ ⟨O,Zt⟩ O O O O O O (nU O),tV (V2 0 4) (p6 0) 34 O O O ?_⟩);refine u4 3 (y2 9 10) [] [] (V2 9 10) ⟨mU 0 O O,mU 4 O O,Zt⟩ O O (⟨O,_,R.callB [(0,0)] hC (n4 (b++p8 255 1) (cU n) 8 dU (by first|omega|(simp only[List.length_append,j3,List.length_cons,List.length_nil];omega)|simp)) (EvB.cons (gV 9 O) O O O (EvB.cons (gV 10 O) O O O (EvB.cons (kI 8 O) O O O EvB.nil))) O ⟨O,Zt⟩ ⟨O,Zt⟩ O O O O O O (nU O),tV [] (p6 0) 34 O O O ?_⟩);exact Z8 (r:=.dead) (.inl O) O (by simp only[u9,if_neg (of_decide_eq_false hc12),if_neg (of_decide_eq_false hc18),if_neg (of_decide_eq_false hc26),List.append_assoc];rfl) ⟨O,Zt⟩
theorem GW(b x:List UInt8)(hb:b.length<=8000000)(hx:x.length<=1000000):FnB Tryz.prog gl 143 [.ptr 0 0 [],.sl none 1 (x.map D.u8)] [(0,.var (.agg [.sl (some 5) 1 (b.map D.u8)]))] (.tup []) [(0,.var (.agg [.sl (some 5) 1 ((b++L5 x).map D.u8)]))] []:=by
 refine FnB.of (n:=17) (ids:=[0]) Tryz.func143 rfl rfl rfl (nU rfl) fun C hC hD=>?_;refine z5 4 (y3 4 5 6) [] [] (V4 0 1 4 6) ⟨mU 0 O O,mU 1 O O,aU<|zN O (lN _) O,Zt⟩ O O (⟨O,_,R.callB [(0,0)] hC (ZP b x.length bO) (EvB.cons (gV 4 O) O O O (EvB.cons (gV 6 O) O O O EvB.nil)) O ⟨O,Zt⟩ ⟨O,Zt⟩ O O O O O O (nU O),tV (V2 0 1) (p6 0) 17 O O O ?_⟩);have hcl:=Q0 x.length;refine u4 10 (y6 8 9 10 11 12 13) [] [] (V3 8 12 13) ⟨mU 0 O O,mU 0 O O,aU<|P7 O O,aU (fU 10 O O),aU fun _ B H K=>R.ldO (K 11 _ O) (B 0 _ O) O H,mU 1 O O,Zt⟩ O O (⟨O,_,QQ (gU 12 O) (xU 0 O) O O O O (gU 12 O) (SrcO.sc (SC.sl (gU 13 O)) (c6 (fun _=>rfl))) (GR) bU (nU O) dU dU,⟨O,_,R.nilcP (gU 8 O) (nU O),⟨O,_,R.fdP (gU 15 O) (nU O),⟨O,_,o8 (gU 16 O) (xU 0 O) O (gU 14 O) O O (by rfl) (by rfl) O O,tV [] (p6 0) 17 O O O ?_⟩⟩⟩⟩);exact Z8 (r:=.dead) (.inl O) O (by simp only[L5,List.append_assoc];rfl) ⟨O,Zt⟩
theorem OA(b:List UInt8)(t:TxS)(hwf:t.wf)(hb:b.length<=100):FnB Tryz.prog gl 102 [.ptr 0 0 [],D1 t] [(0,.var (.agg [.sl (some 5) 1 (b.map D.u8)]))] (.tup []) [(0,.var (.agg [.sl (some 5) 1 ((b++Y4 t).map D.u8)]))] []:=by
 refine FnB.of (n:=68) (ids:=[0]) Tryz.func102 rfl rfl rfl (nU rfl) fun C hC hD=>?_;have hc1:=Q0 t.ins.length;have hc2:=Q0 t.outs.length;have h1:=hwf.ins;have h2:=hwf.outs;have h3:=hwf.insb _ (Nat.le_refl _);have h4:=hwf.outsb _ (Nat.le_refl _);refine z5 1 [] [] [] (V2 0 1) Zt O O (⟨O,_,R.box (gV 1 O) O O (nU O),tV (V2 0 3) (p7 3 0) 68 O O O ?_⟩);refine z5 5 (y4 8 9 10 11) [] [] (V4 0 3 8 11) ⟨mU 0 O O,aU (fU 3 O O),aU (lU 9 O O O O O O O),aU<|zN O (lN _) O,Zt⟩ O O (⟨O,_,R.callB [(0,0)] hC (ZP b t.ins.length bO) (EvB.cons (gV 8 O) O O O (EvB.cons (gV 11 O) O O O EvB.nil)) O ⟨O,Zt⟩ ⟨O,Zt⟩ O O O O O O (nU O),tV (V2 0 3) (p7 3 0) 68 O O O ?_⟩);refine W.seq (q9 4 (y4 13 14 15 16) (V5 0 3 14 15 16) ⟨aU (fU 3 O O),aU (lU 13 O O O O O O O),aU<|zN O (lN _) O,aU<|OP (kI 0 O) O O,Zt⟩ ?_);refine W.block ?_;refine W.loop (α:={q__:Nat//q__<=t.ins.length}) (fun q__=>⟨68,[(0,.ptr 0 0 []),(3,.ptr 3 0 []),(14,.sl none 36 (t.ins.map K4)),(15,.int ((t.ins.length:Nat):Int)),(16,.int ((q__.1:Nat):Int))],[(3,.var (.agg [.u32 t.ver,.sl none 36 (t.ins.map K4),.sl none 2 (t.outs.map j9),.u32 t.lock])),(0,.var (.agg [.sl (some 5) 1 ((b++u9 t.ins.length++G7 t.ins q__.1).map D.u8)]))]⟩) (fun q__=>t.ins.length-q__.1) ⟨(0),bU⟩ (by simp only[G7,List.append_nil];rfl) ?_;rintro ⟨i,hi⟩;show W _ _ _ _ ⟨68,[(0,.ptr 0 0 []),(3,.ptr 3 0 []),(14,.sl none 36 (t.ins.map K4)),(15,.int ((t.ins.length:Nat):Int)),(16,.int ((i:Nat):Int))],[(3,.var (.agg [.u32 t.ver,.sl none 36 (t.ins.map K4),.sl none 2 (t.outs.map j9),.u32 t.lock])),(0,.var (.agg [.sl (some 5) 1 ((b++u9 t.ins.length++G7 t.ins i).map D.u8)]))]⟩;have hi:i<=t.ins.length:=hi;have hib:=hwf.insb i hi
 have hx:i<t.ins.length->t.ins[i]!.tx.length=32/\t.ins[i]!.script.length<=1000000:=fun h=>⟨hwf.hash _ (m1 h),hwf.insScript h⟩
 have hil:=Y7 t.ins[i]!.script;refine q9 1 (y1 17) (V6 0 3 14 15 16 17) ⟨aU<|zS O O O,Zt⟩ ?_;refine W.seq ?_;refine z6 O (fun hc17=>?_) (fun hc17=>?_)
 ·refine W.skip (W.seq (W.block (z5 4 (y2 18 19) [] [] (V6 0 3 14 15 16 19) ⟨aU<|zI i O O O bU O,aU<|zL O O (mG t.ins) O O O O O,Zt⟩ O O (Q7 O O (d5 O O O O O (tV (V6 0 3 5 14 15 16) (d7 5 3 0) 68 O O O ?_))))));refine W.seq ?_;refine U9 (m:=9) (an:=[0,0,2,6,14,0,32,96,254,511,1023,2047]) (its:=[.y 20 _,.y 21 _,.y 22 _,.y 23 _,.y 24 _,.y 25 _,.y 26 _,.y 27 _,.y 28 _]) (ks:=[(8,24)]) (kk:=[]) (efs:=[(8,(p6 0))]) (live:=[0,3,5,14,15,16,20,28]) (env':=(V8 0 3 5 14 15 16 20 28)) (nd:=40) (bx1:=(d7 0 5 3)) hP dU O ⟨⟨85,O⟩,nU O,O,O,O,O⟩ (        ⟨⟨O,nU O,O,fun _ τ hb ht hτ=>R.mov (evt (hτ 0 _ O)) O ht⟩,⟨⟨O,nU O,O,fun _ τ hb ht hτ=>R.mov (evt (hτ 0 _ O)) O ht⟩,⟨⟨O,nU O,O,fun _ τ hb ht hτ=>R.nilcP (hτ 21 _ O) ht⟩,⟨⟨O,nU O,O,fun _ τ hb ht hτ=>R.fdP (hτ 22 _ O) ht⟩,⟨⟨O,nU O,O,fun _ τ hb ht hτ=>R.ldO (hτ 23 _ O) (hb 0 _ O) O ht⟩,⟨⟨O,nU O,O,fun _ τ hb ht hτ=>R.fdP (hτ 5 _ O) ht⟩,⟨⟨O,nU O,O,fun _ τ hb ht hτ=>R.fdP (hτ 25 _ O) ht⟩,⟨⟨O,nU O,O,fun _ τ hb ht hτ=>G5 (0) (32) (32) (hτ 26 _ O) (hb 5 _ O) O O O O O bU bU O ht⟩,⟨⟨O,O,⟨O,nU O⟩,(ZD (s:=24) (id:=0) O O O O O (fun τ hb hτ=>(SrcO.sc (SC.va (hτ 27 _ O O O) (hb 5 _ dU O) O bU) (P0 (fun _=>rfl)))) (show _=((((b++u9 t.ins.length++G7 t.ins i)++t.ins[i]!.tx)).map D.u8) from(by rw[List.drop_zero,List.take_of_length_le (by rw[List.length_map,(hx hc17).1];exact Nat.le_refl _)];simp)) bU dU dU O (nU O))⟩,Zt⟩⟩⟩⟩⟩⟩⟩⟩⟩) O O O (n':=68) O (⟨O,_,R.nilcP (gU 20 O) (nU O),⟨O,_,R.fdP (gU 29 O) (nU O),⟨O,_,o8 (gU 30 O) (xU 0 O) O (gU 28 O) O O (by rfl) (by rfl) O O,⟨[0,3,5,14,15,16],(V6 0 3 5 14 15 16),(d7 0 5 3),68,O,O,O, ?_⟩⟩⟩⟩);refine z5 6 (y5 31 32 33 34 35) [] [] (V8 0 3 5 14 15 16 31 35) ⟨mU 0 O O,aU (fU 5 O O),aU (fU 32 O O),aU (lU 33 O O O O O O O),aU<|zW O O O,Zt⟩ O O (⟨O,_,R.callB [(0,0)] hC (n4 ((b++u9 t.ins.length++G7 t.ins i)++t.ins[i]!.tx) t.ins[i]!.n.toUInt64 4 dU (by first|omega|(simp only[List.length_append,j3,List.length_cons,List.length_nil];omega)|simp)) (EvB.cons (gV 31 O) O O O (EvB.cons (gV 35 O) O O O (EvB.cons (kI 4 O) O O O EvB.nil))) O ⟨O,Zt⟩ ⟨O,Zt⟩ O O O O O O (nU O),tV (V6 0 3 5 14 15 16) (d7 0 5 3) 68 O O O ?_⟩);refine z5 4 (y3 37 38 39) [] [] (V8 0 3 5 14 15 16 37 39) ⟨mU 0 O O,aU (fU 5 O O),aU (lU 38 O O O O O O O),Zt⟩ O O (⟨O,_,R.callB [(0,0)] hC (GW (((b++u9 t.ins.length++G7 t.ins i)++t.ins[i]!.tx)++p8 t.ins[i]!.n.toUInt64 4) t.ins[i]!.script (by first|omega|(simp only[List.length_append,j3,List.length_cons,List.length_nil];omega)|simp) bO) (EvB.cons (gV 37 O) O O O (EvB.cons (gV 39 O) O O O EvB.nil)) O ⟨O,Zt⟩ ⟨O,Zt⟩ O O O O O O (nU O),tV (V6 0 3 5 14 15 16) (d7 0 5 3) 68 O O O ?_⟩);refine u4 5 (y4 41 42 43 44) [] [] (V7 0 3 14 15 16 41 44) ⟨mU 0 O O,aU (fU 5 O O),aU (lU 42 O O O O O O O),aU<|zW O O O,Zt⟩ O O (⟨O,_,R.callB [(0,0)] hC (n4 ((((b++u9 t.ins.length++G7 t.ins i)++t.ins[i]!.tx)++p8 t.ins[i]!.n.toUInt64 4)++L5 t.ins[i]!.script) t.ins[i]!.seq.toUInt64 4 dU (by first|omega|(simp only[List.length_append,j3,List.length_cons,List.length_nil];omega)|simp)) (EvB.cons (gV 41 O) O O O (EvB.cons (gV 44 O) O O O (EvB.cons (kI 4 O) O O O EvB.nil))) O ⟨O,Zt⟩ ⟨O,Zt⟩ O O O O O O (nU O),tV (V5 0 3 14 15 16) (d7 0 5 3) 68 O O O ?_⟩);refine b7 [0,3] (bx':=(p7 0 3)) O O O (g7 hD O) ?_;refine OQ (bx':=(p7 3 0)) ⟨O,O,Zt⟩ O ?_;refine z8 2 (y2 46 16) (V5 0 3 14 15 16) ⟨aU<|Q6 1 O O bU O,mU 46 O O,Zt⟩ ?_;exact⟨⟨(i+1),bU⟩,(by simp only[G7,x49,List.append_assoc];rfl),(by simp only[];omega)⟩
 ·obtain rfl:i=t.ins.length:=by omega
  refine W.exit (z5 5 (y4 47 48 49 50) [] [] (V4 0 3 47 50) ⟨mU 0 O O,aU (fU 3 O O),aU (lU 48 O O O O O O O),aU<|zN O (lN _) O,Zt⟩ O O (⟨O,_,R.callB [(0,0)] hC (ZP (b++u9 t.ins.length++G7 t.ins t.ins.length) t.outs.length (by simp only[List.length_append];omega)) (EvB.cons (gV 47 O) O O O (EvB.cons (gV 50 O) O O O EvB.nil)) O ⟨O,Zt⟩ ⟨O,Zt⟩ O O O O O O (nU O),tV (V2 0 3) (p7 3 0) 68 O O O ?_⟩));refine q9 4 (y4 52 53 54 55) (V4 0 53 54 55) ⟨aU (fU 3 O O),aU (lU 52 O O O O O O O),aU<|zN O (lN _) O,aU<|OP (kI 0 O) O O,Zt⟩ ?_;refine W.block ?_;refine W.loop (α:={q__:Nat//q__<=t.outs.length}) (fun q__=>⟨68,[(0,.ptr 0 0 []),(53,.sl none 2 (t.outs.map j9)),(54,.int ((t.outs.length:Nat):Int)),(55,.int ((q__.1:Nat):Int))],[(3,.var (.agg [.u32 t.ver,.sl none 36 (t.ins.map K4),.sl none 2 (t.outs.map j9),.u32 t.lock])),(0,.var (.agg [.sl (some 5) 1 (((b++u9 t.ins.length++G7 t.ins t.ins.length)++u9 t.outs.length++Y0 t.outs q__.1).map D.u8)]))]⟩) (fun q__=>t.outs.length-q__.1) ⟨(0),bU⟩ (by simp only[Y0,List.append_nil];rfl) ?_;rintro ⟨i,hi⟩;show W _ _ _ _ ⟨68,[(0,.ptr 0 0 []),(53,.sl none 2 (t.outs.map j9)),(54,.int ((t.outs.length:Nat):Int)),(55,.int ((i:Nat):Int))],[(3,.var (.agg [.u32 t.ver,.sl none 36 (t.ins.map K4),.sl none 2 (t.outs.map j9),.u32 t.lock])),(0,.var (.agg [.sl (some 5) 1 (((b++u9 t.ins.length++G7 t.ins t.ins.length)++u9 t.outs.length++Y0 t.outs i).map D.u8)]))]⟩;have hi:i<=t.outs.length:=hi;have hib:=hwf.outsb i hi;have hx:i<t.outs.length->t.outs[i]!.script.length<=1000000:=fun h=>hwf.outScript h;have hil:=Y7 t.outs[i]!.script;refine q9 1 (y1 56) (V5 0 53 54 55 56) ⟨aU<|zS O O O,Zt⟩ ?_;refine W.seq ?_;refine z6 O (fun hc56=>?_) (fun hc56=>?_)
  ·refine W.skip (W.seq (W.block (z5 4 (y2 57 58) [] [] (V5 0 53 54 55 58) ⟨aU<|zI i O O O bU O,aU<|zL O O (mG t.outs) O O O O O,Zt⟩ O O (Q7 O O (d5 O O O O O (tV (V5 0 7 53 54 55) (d7 7 3 0) 68 O O O ?_))))));refine z5 4 (y3 59 60 61) [] [] (V7 0 7 53 54 55 59 61) ⟨mU 0 O O,aU (fU 7 O O),aU (lU 60 O O O O O O O),Zt⟩ O O (⟨O,_,R.callB [(0,0)] hC (n4 ((b++u9 t.ins.length++G7 t.ins t.ins.length)++u9 t.outs.length++Y0 t.outs i) t.outs[i]!.value 8 dU (by first|omega|(simp only[List.length_append,j3,List.length_cons,List.length_nil];omega)|simp)) (EvB.cons (gV 59 O) O O O (EvB.cons (gV 61 O) O O O (EvB.cons (kI 8 O) O O O EvB.nil))) O ⟨O,Zt⟩ ⟨O,Zt⟩ O O O O O O (nU O),tV (V5 0 7 53 54 55) (d7 7 3 0) 68 O O O ?_⟩);refine u4 4 (y3 63 64 65) [] [] (V6 0 53 54 55 63 65) ⟨mU 0 O O,aU (fU 7 O O),aU (lU 64 O O O O O O O),Zt⟩ O O (⟨O,_,R.callB [(0,0)] hC (GW (((b++u9 t.ins.length++G7 t.ins t.ins.length)++u9 t.outs.length++Y0 t.outs i)++p8 t.outs[i]!.value 8) t.outs[i]!.script (by first|omega|(simp only[List.length_append,j3,List.length_cons,List.length_nil];omega)|simp) bO) (EvB.cons (gV 63 O) O O O (EvB.cons (gV 65 O) O O O EvB.nil)) O ⟨O,Zt⟩ ⟨O,Zt⟩ O O O O O O (nU O),tV (V4 0 53 54 55) (d7 7 3 0) 68 O O O ?_⟩);refine b7 [0,3] (bx':=(p7 3 0)) O O O (g7 hD O) ?_;refine z8 2 (y2 67 55) (V4 0 53 54 55) ⟨aU<|Q6 1 O O bU O,mU 67 O O,Zt⟩ ?_;exact⟨⟨(i+1),bU⟩,(by simp only[Y0,HI,List.append_assoc];rfl),(by simp only[];omega)⟩
  ·obtain rfl:i=t.outs.length:=by omega
   refine W.exit ?_;exact Z8 (r:=.dead) (.inl O) O (by simp only[Y4,List.append_assoc];rfl) ⟨O,Zt⟩
end Go.Sx

namespace Go.Sx
open Go.Proofs
theorem NS(t:TxS)(hwf:t.wf):Fn Tryz.prog gl 48 [D1 t] (.sl (some 5) 1 ((Z1 t).map D.u8)):=by
 refine Fn.of (n:=23) Tryz.func48 rfl rfl rfl (nU rfl) fun C hC hD=>?_;refine z5 2 [] [] [] (V1 0) Zt O O (⟨O,_,R.box (gV 0 O) O O (nU O),⟨O,_,j4 (kN O) O (nU O),tV (V1 1) (p6 1) 23 O O O ?_⟩⟩);refine z5 3 (y1 4) [] [] (V2 1 4) ⟨aU fun _ _ H _=>c9 (l:=[.nils]) (l':=[_]) (.nil O) Zt H,Zt⟩ O O (⟨O,_,R.box (gV 4 O) O O (nU O),(P8 O O O (tV (V2 1 3) (p7 5 1) 23 O O O ?_))⟩);refine W.seq ?_;refine n9 5 [0] 5 1 (bx':=(p7 5 1)) O O O O O ?_;have hbl:=hwf.body;refine u4 5 (y4 6 7 8 9) [] [] (V4 1 3 6 9) ⟨mU 3 O O,aU (fU 1 O O),aU (lU 7 O O O O O O O),aU<|zW O O O,Zt⟩ O O (⟨O,_,R.callB [(0,5)] hC (n4 [] t.ver.toUInt64 4 dU (by first|omega|(simp only[List.length_append,j3,List.length_cons,List.length_nil];omega)|simp)) (EvB.cons (gV 6 O) O O O (EvB.cons (gV 9 O) O O O (EvB.cons (kI 4 O) O O O EvB.nil))) O ⟨O,Zt⟩ ⟨O,Zt⟩ O O O O O O (nU O),tV (V2 1 3) (p7 5 1) 23 O O O ?_⟩);refine z5 3 (y2 11 12) [] [] (V4 1 3 11 12) ⟨mU 3 O O,aU (lU 1 O O O O O O O),Zt⟩ O O (⟨O,_,R.callB [(0,5)] hC (OA ([]++p8 t.ver.toUInt64 4) t hwf (by first|omega|(simp only[List.length_append,j3,List.length_cons,List.length_nil];omega)|simp)) (EvB.cons (gV 11 O) O O O (EvB.cons (gV 12 O) O O O EvB.nil)) O ⟨O,Zt⟩ ⟨O,Zt⟩ O O O O O O (nU O),tV (V2 1 3) (p7 5 1) 23 O O O ?_⟩);refine z5 5 (y4 14 15 16 17) [] [] (V3 3 14 17) ⟨mU 3 O O,aU (fU 1 O O),aU (lU 15 O O O O O O O),aU<|zW O O O,Zt⟩ O O (⟨O,_,R.callB [(0,5)] hC (n4 (([]++p8 t.ver.toUInt64 4)++Y4 t) t.lock.toUInt64 4 dU (by first|omega|(simp only[List.length_append,j3,List.length_cons,List.length_nil];omega)|simp)) (EvB.cons (gV 14 O) O O O (EvB.cons (gV 17 O) O O O (EvB.cons (kI 4 O) O O O EvB.nil))) O ⟨O,Zt⟩ ⟨O,Zt⟩ O O O O O O (nU O),tV (V1 3) (p7 5 1) 23 O O O ?_⟩);refine z5 5 (y4 19 20 21 22) [] [] (V1 22) ⟨mU 3 O O,aU<|P7 O O,aU (fU 20 O O),aU fun _ B H K=>R.ldO (K 21 _ O) (B 5 _ O) O H,Zt⟩ O O (⟨O,_,VI (gU 22 O) (xU 5 O) O O O O (gU 22 O) (nU O) dU,tV (V1 2) (p7 5 1) 23 O O O ?_⟩);refine W.ret ?_;exact q8 (.inr O) O (by simp only[Z1,List.nil_append]) O O Zt
theorem PW(t:TxS)(hwf:t.wf):Fn Tryz.prog gl 141 [D1 t] (.bool (HH t)):=by
 refine Fn.of (n:=17) Tryz.func141 rfl rfl rfl (nU rfl) fun C hC hD=>?_;have h1:=hwf.ins;refine z5 2 [] [] [] (V1 0) Zt O O (⟨O,_,R.box (gV 0 O) O O (nU O),⟨O,_,j4 (kB false O) O (nU O),tV (V1 1) (p6 1) 17 O O O ?_⟩⟩);refine W.seq (q9 4 (y4 5 6 7 8) (V3 6 7 8) ⟨aU (fU 1 O O),aU (lU 5 O O O O O O O),aU<|zN O (lN _) O,aU<|OP (kI 0 O) O O,Zt⟩ ?_);refine W.block ?_;refine W.loop (α:={q__:Nat//q__<=t.ins.length/\∀ k<q__,¬ 0<t.ins[k]!.wit.length}) (fun q__=>⟨17,[(6,.sl none 36 (t.ins.map K4)),(7,.int ((t.ins.length:Nat):Int)),(8,.int ((q__.1:Nat):Int))],[(1,.var (.agg [.u32 t.ver,.sl none 36 (t.ins.map K4),.sl none 2 (t.outs.map j9),.u32 t.lock]))]⟩) (fun q__=>t.ins.length-q__.1) ⟨(0),⟨Nat.zero_le _,fun k h=>absurd h (Nat.not_lt_zero _)⟩⟩ O ?_;rintro ⟨i,⟨hi,hno⟩⟩;show W _ _ _ _ ⟨17,[(6,.sl none 36 (t.ins.map K4)),(7,.int ((t.ins.length:Nat):Int)),(8,.int ((i:Nat):Int))],[(1,.var (.agg [.u32 t.ver,.sl none 36 (t.ins.map K4),.sl none 2 (t.outs.map j9),.u32 t.lock]))]⟩;have hi:i<=t.ins.length:=hi;have hno:∀ k<i,¬ 0<t.ins[k]!.wit.length:=hno;have hwl:i<t.ins.length->t.ins[i]!.wit.length<=1000000:=fun h=>(hwf.witl _ (m1 h)).1;refine q9 1 (y1 9) (V4 6 7 8 9) ⟨aU<|zS O O O,Zt⟩ ?_;refine W.seq ?_;refine z6 O (fun hc9=>?_) (fun hc9=>?_)
 ·refine W.skip (W.seq (W.block (z5 4 (y2 10 11) [] [] (V4 6 7 8 11) ⟨aU<|zI i O O O bU O,aU<|zL O O (mG t.ins) O O O O O,Zt⟩ O O (Q7 O O (d5 O O O O O (tV (V4 4 6 7 8) (p7 4 1) 17 O O O ?_))))));refine q9 4 (y4 12 13 14 15) (V4 6 7 8 15) ⟨aU (fU 4 O O),aU (lU 12 O O O O O O O),aU<|zN O (lN _) O,aU<|l5 0 O O O,Zt⟩ ?_;refine z6 O (fun hc15=>?_) (fun hc15=>?_)
  ·refine W.seq ?_;refine b7 [1] (bx':=(p6 1)) O O O (g7 hD O) ?_;refine z8 1 (y1 2) (V1 2) ⟨aU<|zK (kB true O) O O,Zt⟩ ?_;refine W.ret ?_;exact q8 (.inr O) O ((congrArg D.bool (BH hc9 hc15)).symm) O O Zt
  ·refine W.skip ?_;refine b7 [1] (bx':=(p6 1)) O O O (g7 hD O) ?_;refine z8 2 (y2 16 8) (V3 6 7 8) ⟨aU<|Q6 1 O O bU O,mU 16 O O,Zt⟩ ?_;exact⟨⟨(i+1),⟨by omega,fun k hk=>(Nat.lt_succ_iff_lt_or_eq.1 hk).elim (hno k) (fun e=>e▸hc15)⟩⟩,rfl,(by simp only[];omega)⟩
 ·obtain rfl:i=t.ins.length:=by omega
  refine W.exit (q9 1 (y1 2) (V1 2) ⟨aU<|zK (kB false O) O O,Zt⟩ ?_);refine W.ret ?_;exact q8 (.inr O) O ((congrArg D.bool (HY hno)).symm) O O Zt
theorem MF(t:TxS)(hwf:t.wf):Fn Tryz.prog gl 99 [D1 t] (.sl (some 5) 1 ((H8 t).map D.u8)):=by
 refine Fn.of (n:=65) Tryz.func99 rfl rfl rfl (nU rfl) fun C hC hD=>?_;have h1:=hwf.ins;have hbl:=hwf.body;have hw0:=hwf.witsb _ (Nat.le_refl _);refine z5 2 [] [] [] (V1 0) Zt O O (⟨O,_,R.box (gV 0 O) O O (nU O),⟨O,_,j4 (kN O) O (nU O),tV (V1 1) (p6 1) 65 O O O ?_⟩⟩);refine W.seq (q9 3 (y3 8 9 10) (V2 1 10) ⟨aU (lU 1 O O O O O O O),aU<|zC hC (PW t hwf) O O O (F1 (.bool _)) O,aU<|UQ O O O,Zt⟩ ?_);refine W.cond O (fun hc10=>?_) (fun hc10=>?_)
 ·refine z5 3 (y3 11 12 2) [(2,12)] [(2,12)] (V1 2) ⟨aU (lU 1 O O O O O O O),aU<|zC hC (NS t hwf) O O O (F1 (.sl _ _ _ (j6 fun _=>.u8 _))) O,aU<|zO O O O,Zt⟩ O O (tU O ?_);refine W.ret ?_;exact q8 (.inr O) O (by rw[H8,if_neg (by simpa using hc10)]) O O Zt
 ·refine W.skip (z5 3 (y1 13) [] [] (V2 1 13) ⟨aU fun _ _ H _=>c9 (l:=[.nils]) (l':=[_]) (.nil O) Zt H,Zt⟩ O O (⟨O,_,R.box (gV 13 O) O O (nU O),(P8 O O O (tV (V2 1 3) (p7 14 1) 65 O O O ?_))⟩));refine W.seq ?_;refine n9 14 [0] 5 1 (bx':=(p7 14 1)) O O O O O ?_;refine u4 5 (y4 15 16 17 18) [] [] (V4 1 3 15 18) ⟨mU 3 O O,aU (fU 1 O O),aU (lU 16 O O O O O O O),aU<|zW O O O,Zt⟩ O O (⟨O,_,R.callB [(0,14)] hC (n4 [] t.ver.toUInt64 4 dU (by first|omega|(simp only[List.length_append,j3,List.length_cons,List.length_nil];omega)|simp)) (EvB.cons (gV 15 O) O O O (EvB.cons (gV 18 O) O O O (EvB.cons (kI 4 O) O O O EvB.nil))) O ⟨O,Zt⟩ ⟨O,Zt⟩ O O O O O O (nU O),tV (V2 1 3) (p7 14 1) 65 O O O ?_⟩);refine z5 10 (y6 20 21 22 23 24 25) [] [] (V5 1 3 20 24 25) ⟨mU 3 O O,mU 3 O O,aU<|P7 O O,aU (fU 22 O O),aU fun _ B H K=>R.ldO (K 23 _ O) (B 14 _ O) O H,aU fun _ _ H _=>w8 (z:=1) (.cons (kW (.int .u8 0) (.u8 0) O) (.cons (kW (.int .u8 1) (.u8 1) O) .nil)) ⟨⟨O,O,O⟩,⟨O,O,O⟩,Zt⟩ O H dU,Zt⟩ O O (⟨O,_,QQ (gU 24 O) (xU 14 O) O O O O (gU 24 O) (SrcO.sc (SC.sl (gU 25 O)) (g6 O)) (show _=(((([]++p8 t.ver.toUInt64 4)++[0,1])).map D.u8) from(by simp)) (by simp[j3]) (nU O) dU dU,⟨O,_,R.nilcP (gU 20 O) (nU O),⟨O,_,R.fdP (gU 27 O) (nU O),⟨O,_,o8 (gU 28 O) (xU 14 O) O (gU 26 O) O O (by rfl) (by rfl) O O,tV (V2 1 3) (p7 14 1) 65 O O O ?_⟩⟩⟩⟩);refine z5 3 (y2 29 30) [] [] (V4 1 3 29 30) ⟨mU 3 O O,aU (lU 1 O O O O O O O),Zt⟩ O O (⟨O,_,R.callB [(0,14)] hC (OA (([]++p8 t.ver.toUInt64 4)++[0,1]) t hwf (by first|omega|(simp only[List.length_append,j3,List.length_cons,List.length_nil];omega)|simp)) (EvB.cons (gV 29 O) O O O (EvB.cons (gV 30 O) O O O EvB.nil)) O ⟨O,Zt⟩ ⟨O,Zt⟩ O O O O O O (nU O),tV (V2 1 3) (p7 14 1) 65 O O O ?_⟩);refine W.seq (q9 4 (y4 32 33 34 35) (V5 1 3 33 34 35) ⟨aU (fU 1 O O),aU (lU 32 O O O O O O O),aU<|zN O (lN _) O,aU<|OP (kI 0 O) O O,Zt⟩ ?_);refine W.block ?_;refine W.loop (α:={q__:Nat//q__<=t.ins.length}) (fun q__=>⟨65,[(1,.ptr 1 0 []),(3,.ptr 14 0 []),(33,.sl none 36 (t.ins.map K4)),(34,.int ((t.ins.length:Nat):Int)),(35,.int ((q__.1:Nat):Int))],[(14,.var (.agg [.sl (some 5) 1 ((((([]++p8 t.ver.toUInt64 4)++[0,1])++Y4 t)++U1 t.ins q__.1).map D.u8)])),(1,.var (.agg [.u32 t.ver,.sl none 36 (t.ins.map K4),.sl none 2 (t.outs.map j9),.u32 t.lock]))]⟩) (fun q__=>t.ins.length-q__.1) ⟨(0),bU⟩ (by simp only[U1,List.append_nil];rfl) ?_;rintro ⟨i,hi⟩;show W _ _ _ _ ⟨65,[(1,.ptr 1 0 []),(3,.ptr 14 0 []),(33,.sl none 36 (t.ins.map K4)),(34,.int ((t.ins.length:Nat):Int)),(35,.int ((i:Nat):Int))],[(14,.var (.agg [.sl (some 5) 1 ((((([]++p8 t.ver.toUInt64 4)++[0,1])++Y4 t)++U1 t.ins i).map D.u8)])),(1,.var (.agg [.u32 t.ver,.sl none 36 (t.ins.map K4),.sl none 2 (t.outs.map j9),.u32 t.lock]))]⟩;have hi:i<=t.ins.length:=hi;have hib:=hwf.witsb i hi;have hx:i<t.ins.length->t.ins[i]!.wit.length<=1000000/\∀ j ≤ t.ins[i]!.wit.length,(E6 t.ins[i]!.wit j).length<=1500000:=fun h=>hwf.witl _ (m1 h);have hcl:=Q0 t.ins[i]!.wit.length;refine q9 1 (y1 36) (V6 1 3 33 34 35 36) ⟨aU<|zS O O O,Zt⟩ ?_;refine W.seq ?_;refine z6 O (fun hc36=>?_) (fun hc36=>?_)
  ·refine W.skip (W.seq (W.block (z5 4 (y2 37 38) [] [] (V6 1 3 33 34 35 38) ⟨aU<|zI i O O O bU O,aU<|zL O O (mG t.ins) O O O O O,Zt⟩ O O (Q7 O O (d5 O O O O O (tV (V6 1 3 5 33 34 35) (d7 5 14 1) 65 O O O ?_))))));refine z5 5 (y4 39 40 41 42) [] [] (V8 1 3 5 33 34 35 39 42) ⟨mU 3 O O,aU (fU 5 O O),aU (lU 40 O O O O O O O),aU<|zN O (lN _) O,Zt⟩ O O (⟨O,_,R.callB [(0,14)] hC (ZP (((([]++p8 t.ver.toUInt64 4)++[0,1])++Y4 t)++U1 t.ins i) t.ins[i]!.wit.length (by first|omega|(simp only[List.length_append,j3,List.length_cons,List.length_nil];omega)|simp)) (EvB.cons (gV 39 O) O O O (EvB.cons (gV 42 O) O O O EvB.nil)) O ⟨O,Zt⟩ ⟨O,Zt⟩ O O O O O O (nU O),tV (V6 1 3 5 33 34 35) (d7 5 14 1) 65 O O O ?_⟩);refine q9 4 (y4 44 45 46 47) (V8 1 3 33 34 35 45 46 47) ⟨aU (fU 5 O O),aU (lU 44 O O O O O O O),aU<|zN O (lN _) O,aU<|OP (kI 0 O) O O,Zt⟩ ?_;refine W.block ?_;refine W.loop (α:={q__:Nat//q__<=t.ins[i]!.wit.length}) (fun q__=>⟨65,[(1,.ptr 1 0 []),(3,.ptr 14 0 []),(33,.sl none 36 (t.ins.map K4)),(34,.int ((t.ins.length:Nat):Int)),(35,.int ((i:Nat):Int)),(45,.sl none 1 (t.ins[i]!.wit.map b5)),(46,.int ((t.ins[i]!.wit.length:Nat):Int)),(47,.int ((q__.1:Nat):Int))],[(5,.var (K4 t.ins[i]!)),(14,.var (.agg [.sl (some 5) 1 ((((((([]++p8 t.ver.toUInt64 4)++[0,1])++Y4 t)++U1 t.ins i)++u9 t.ins[i]!.wit.length)++E6 t.ins[i]!.wit q__.1).map D.u8)])),(1,.var (.agg [.u32 t.ver,.sl none 36 (t.ins.map K4),.sl none 2 (t.outs.map j9),.u32 t.lock]))]⟩) (fun q__=>t.ins[i]!.wit.length-q__.1) ⟨(0),bU⟩ (by simp only[E6,List.append_nil];rfl) ?_;rintro ⟨j,hj⟩;show W _ _ _ _ ⟨65,[(1,.ptr 1 0 []),(3,.ptr 14 0 []),(33,.sl none 36 (t.ins.map K4)),(34,.int ((t.ins.length:Nat):Int)),(35,.int ((i:Nat):Int)),(45,.sl none 1 (t.ins[i]!.wit.map b5)),(46,.int ((t.ins[i]!.wit.length:Nat):Int)),(47,.int ((j:Nat):Int))],[(5,.var (K4 t.ins[i]!)),(14,.var (.agg [.sl (some 5) 1 ((((((([]++p8 t.ver.toUInt64 4)++[0,1])++Y4 t)++U1 t.ins i)++u9 t.ins[i]!.wit.length)++E6 t.ins[i]!.wit j).map D.u8)])),(1,.var (.agg [.u32 t.ver,.sl none 36 (t.ins.map K4),.sl none 2 (t.outs.map j9),.u32 t.lock]))]⟩;have hj:j<=t.ins[i]!.wit.length:=hj;have hjb:=(hx (by omega)).2 j hj;have hil:=Y7 t.ins[i]!.wit[j]!;have hwi:j<t.ins[i]!.wit.length->t.ins[i]!.wit[j]!.length<=1000000:=fun h=>hwf.witi _ (m1 (show i<t.ins.length by omega)) _ (m1 h);refine q9 1 (y1 48) (V9 1 3 33 34 35 45 46 47 48) ⟨aU<|zS O O O,Zt⟩ ?_;refine W.seq ?_;refine z6 O (fun hc48=>?_) (fun hc48=>?_)
   ·refine W.skip (W.seq (W.block (q9 3 (y3 49 50 7) (V9 1 3 7 33 34 35 45 46 47) ⟨aU<|zI j O O O bU O,aU<|zL O O (j5 (l:=t.ins[i]!.wit) bU) O O O O O,aU<|zA O O O,Zt⟩ ?_)));refine u4 3 (y2 51 52) [] [] (j81 1 3 33 34 35 45 46 47 51 52) ⟨mU 3 O O,mU 7 O O,Zt⟩ O O (⟨O,_,R.callB [(0,14)] hC (GW (((((([]++p8 t.ver.toUInt64 4)++[0,1])++Y4 t)++U1 t.ins i)++u9 t.ins[i]!.wit.length)++E6 t.ins[i]!.wit j) t.ins[i]!.wit[j]! (by first|omega|(simp only[List.length_append,j3,List.length_cons,List.length_nil];omega)|simp) bO) (EvB.cons (gV 51 O) O O O (EvB.cons (gV 52 O) O O O EvB.nil)) O ⟨O,Zt⟩ ⟨O,Zt⟩ O O O O O O (nU O),tV (V8 1 3 33 34 35 45 46 47) (d7 5 14 1) 65 O O O ?_⟩);refine z8 2 (y2 54 47) (V8 1 3 33 34 35 45 46 47) ⟨aU<|Q6 1 O O bU O,mU 54 O O,Zt⟩ ?_;exact⟨⟨(j+1),bU⟩,(by simp only[E6,List.append_assoc];rfl),(by simp only[];omega)⟩
   ·obtain rfl:j=t.ins[i]!.wit.length:=by omega
    refine W.exit ?_;refine b7 [1,14] (bx':=(p7 14 1)) O O O (g7 hD O) ?_;refine z8 2 (y2 55 35) (V5 1 3 33 34 35) ⟨aU<|Q6 1 O O bU O,mU 55 O O,Zt⟩ ?_;exact⟨⟨(i+1),bU⟩,(by simp only[U1,List.append_assoc]),(by simp only[];omega)⟩
  ·obtain rfl:i=t.ins.length:=by omega
   refine W.exit (z5 5 (y4 56 57 58 59) [] [] (V3 3 56 59) ⟨mU 3 O O,aU (fU 1 O O),aU (lU 57 O O O O O O O),aU<|zW O O O,Zt⟩ O O (⟨O,_,R.callB [(0,14)] hC (n4 (((([]++p8 t.ver.toUInt64 4)++[0,1])++Y4 t)++U1 t.ins t.ins.length) t.lock.toUInt64 4 dU (by first|omega|(simp only[List.length_append,j3,List.length_cons,List.length_nil];omega)|simp)) (EvB.cons (gV 56 O) O O O (EvB.cons (gV 59 O) O O O (EvB.cons (kI 4 O) O O O EvB.nil))) O ⟨O,Zt⟩ ⟨O,Zt⟩ O O O O O O (nU O),tV (V1 3) (p7 14 1) 65 O O O ?_⟩));refine z5 5 (y4 61 62 63 64) [] [] (V1 64) ⟨mU 3 O O,aU<|P7 O O,aU (fU 62 O O),aU fun _ B H K=>R.ldO (K 63 _ O) (B 14 _ O) O H,Zt⟩ O O (⟨O,_,VI (gU 64 O) (xU 14 O) O O O O (gU 64 O) (nU O) dU,tV (V1 2) (p7 14 1) 65 O O O ?_⟩);refine W.ret ?_;exact q8 (.inr O) O (by rw[H8,if_pos (by simpa using hc10)];rfl) O O Zt
theorem w28(t:TxS)(hwf:t.wf):Fn Tryz.prog gl 50 [D1 t] (z7 (LH t)):=by
 refine Fn.of (n:=6) Tryz.func50 rfl rfl rfl (nU rfl) fun C hC hD=>?_;refine z5 2 [] [] [] (V1 0) Zt O O (⟨O,_,R.box (gV 0 O) O O (nU O),(Q7 O O (tV (V2 1 2) (p7 2 1) 6 O O O ?_))⟩);refine z5 4 (y3 3 4 5) [] [] (V2 2 5) ⟨aU (lU 1 O O O O O O O),aU<|zC hC (NS t hwf) O O O (F1 (.sl _ _ _ (j6 fun _=>.u8 _))) O,aU fun _ _ H K=>w6 hC (HQ (Z1 t) (Nat.le_trans hwf.bareL dU)) (Bc (Bor.sc (SC.sl (K 4 _ O)) (j2 (fun _=>rfl))) Bn) (F1 (m4 _)) H,Zt⟩ O O (d5 O O O O O (tV (V1 2) (p7 2 1) 6 O O O ?_));refine W.ret ?_;exact q8 (.inr O) O (O) O O (iL 23 32)
end Go.Sx

namespace Go.Sx
open Go.Proofs
set_option maxRecDepth 100000
instance:MiT Tryz.prog 32 (.int .i64):=⟨Tryz.underlying32,rfl⟩
end Go.Sx

namespace Go.Sx
open Go.Proofs
theorem O9(b:List UInt8)(hb0:b.length<=100000)(n:Nat)(hn:n<=1000000):FnO Tryz.prog gl 94 [.ptr 0 0 [],.int ((n:Nat):Int)] [(0,.var (.agg [.sl none 1 (b.map D.u8)]))] ((K0 b n).map fun q=>(b5 q.1,[(0,.var (.agg [b5 q.2]))],[])):=by
 refine FnO.of (n:=30) (ids:=[0]) Tryz.func94 rfl rfl rfl (nU rfl) fun C hC hD=>?_;refine q9 1 (y1 4) (V2 0 1) ⟨aU<|zK (kN O) O O,Zt⟩ ?_;refine W.seq (q9 7 (y7 6 7 8 9 10 11 12) (V3 0 1 12) ⟨mU 1 O O,mU 0 O O,aU<|P7 O O,aU (fU 8 O O),aU (lU 9 O O O O O O O),aU<|zN O (lN _) O,aU<|zG O O O,Zt⟩ ?_);refine z6 O (fun hc12=>?_) (fun hc12=>?_)
 ·refine g8 (n:=2) dU (its:=[.y 13 _]) (ks:=[]) (kk:=[]) (live:=[0,1,13]) (env':=(V3 0 1 13)) (⟨nU O,O,⟨aU fun _ _ H _=>R.mkifc (kI 5 O) O O H,Zt⟩,O,O,O⟩) O (bx':=(p6 0)) O (n':=30) O (⟨O,.inr (R.panic (gU 13 O) (fun e he=>?_))⟩);obtain⟨ch,rfl,hch⟩:=he;exact d6 (by rw[K0,if_neg bO];rfl) ⟨⟨ch,O,hch⟩,⟨⟨_,O,by first|rfl|simp[o0,m6,D.sz]⟩,Zt⟩⟩
 ·refine W.skip (q9 7 (y7 14 15 16 17 18 19 5) (V3 0 1 5) ⟨mU 0 O O,aU<|P7 O O,aU (fU 15 O O),aU (lU 16 O O O O O O O),mU 1 O O,aU fun _ _ H K=>DV (0) (n) (n) (eU K 17 O) O (b4 (eU K 18 O)) O O bU bU O (show _=(b.take n).map D.u8 from by simp) H,aU<|zA O O O,Zt⟩ ?_);refine z5 10 (y9 20 21 22 23 24 25 26 27 28) [] [] (V3 5 26 28) ⟨mU 0 O O,mU 0 O O,aU<|P7 O O,aU (fU 22 O O),aU (lU 23 O O O O O O O),mU 1 O O,aU fun _ _ H K=>DV (n) (b.length) ((b.length-n)) (eU K 24 O) (b4 (eU K 25 O)) O O (by simp) bU bU O (show _=(b.drop n).map D.u8 from by rw[List.take_of_length_le (by simp)];simp) H,aU<|P7 O O,aU (fU 27 O O),Zt⟩ O O (d5 O O O O O (tV (V1 5) (p6 0) 30 O O O ?_));refine q9 2 (y2 29 4) (V1 4) ⟨mU 5 O O,aU<|zA O O O,Zt⟩ ?_;refine W.ret ?_;exact U4 (r:=.sl none 1 ((b.take n).map D.u8)) (bx':=[(0,.var (.agg [.sl none 1 ((b.drop n).map D.u8)]))]) (nw:=[]) (by rw[K0,if_pos bO];rfl) (u0 (.inr O) O (O) O Zt O O (O) ⟨O,Zt⟩ O)
theorem c7(b:List UInt8)(hb0:b.length<=100000)(n:Nat)(hn:n<=1000000):FnO Tryz.prog gl 93 [.ptr 0 0 [],.int ((n:Nat):Int)] [(0,.var (.agg [.sl none 1 (b.map D.u8)]))] ((m0 b n).map fun q=>(.u64 q.1,[(0,.var (.agg [b5 q.2]))],[])):=by
 refine FnO.of (n:=25) (ids:=[0]) Tryz.func93 rfl rfl rfl (nU rfl) fun C hC hD=>?_;refine q9 1 (y1 4) (V3 0 1 4) ⟨aU<|zK (kW (.int .u64 0) (.u64 0) O) O O,Zt⟩ ?_;refine W.seq (W.seq ?_)
 rcases hE:K0 b n with _|⟨x,r⟩
 ·refine g8 (n:=5) dU (its:=[.y 7 _,.y 8 _]) (ks:=[]) (kk:=[]) (live:=[4,7,8]) (env':=(V3 4 7 8)) (⟨nU O,O,⟨mU 0 O O,mU 1 O O,Zt⟩,O,O,O⟩) O (bx':=(p6 0)) O (n':=25) O (⟨O,.inr (R.callX [(0,0)] hC (g9 (O9 b bO n bO) (by rw[hE];rfl)) (EvB.cons (gV 7 O) O O O (EvB.cons (gV 8 O) O O O EvB.nil)) O ⟨O,Zt⟩ ⟨O,Zt⟩ O (fun e he=>?_))⟩);obtain⟨ch,rfl,hch⟩:=he;exact d6 (by simp only[m0,hE];rfl) ⟨⟨ch,O,hch⟩,⟨⟨_,O,by first|rfl|simp[o0,m6,D.sz]⟩,Zt⟩⟩
 have hx:=Q8 hE;refine u4 5 (y2 7 8) [] [] (V3 4 7 8) ⟨mU 0 O O,mU 1 O O,Zt⟩ O O (⟨O,_,R.callB [(0,0)] hC (v7 (r:=.sl none 1 (x.map D.u8)) (bx':=[(0,.var (.agg [.sl none 1 (r.map D.u8)]))]) (nw:=[]) (O9 b bO n bO) (by rw[hE];rfl)) (EvB.cons (gV 7 O) O O O (EvB.cons (gV 8 O) O O O EvB.nil)) O ⟨O,Zt⟩ ⟨O,Zt⟩ O O O O O O (nU O),⟨O,_,R6 (SC.sl (gU 9 O)) (lN _) (nU O),⟨O,_,R.mov (kI 0 O) O (nU O),tV (V4 4 9 10 11) (p6 0) 25 O O O ?_⟩⟩⟩);refine W.block ?_;refine W.loop (α:={q__:Nat//q__<=x.length}) (fun q__=>⟨25,[(4,.u64 (CV x q__.1)),(9,.sl none 1 (x.map D.u8)),(10,.int ((x.length:Nat):Int)),(11,.int ((q__.1:Nat):Int))],[(0,.var (.agg [.sl none 1 (r.map D.u8)]))]⟩) (fun q__=>x.length-q__.1) ⟨(0),bU⟩ O ?_;rintro ⟨i,hi⟩;show W _ _ _ _ ⟨25,[(4,.u64 (CV x i)),(9,.sl none 1 (x.map D.u8)),(10,.int ((x.length:Nat):Int)),(11,.int ((i:Nat):Int))],[(0,.var (.agg [.sl none 1 (r.map D.u8)]))]⟩;have hi:i<=x.length:=hi;refine q9 1 (y1 12) (V5 4 9 10 11 12) ⟨aU<|zS O O O,Zt⟩ ?_;refine W.seq ?_;refine z6 O (fun hc12=>?_) (fun hc12=>?_)
 ·refine W.skip (W.seq (W.block (q9 5 (y5 13 14 15 5 6) (V6 4 5 6 9 10 11) ⟨mU 11 O O,aU<|zI i O O O bU O,aU<|zL O O (mG x) O O O O O,aU<|zA O O O,aU<|zA O O O,Zt⟩ ?_)));refine z8 8 (y8 16 17 18 19 20 21 22 4) (V4 4 9 10 11) ⟨mU 4 O O,mU 6 O O,aU<|zW O O O,mU 5 O O,aU<|QP 8 O O bU O,aU fun _ _ H K=>R.bin (eU K 18 O) (eU K 20 O) O bV H,aU<|zB O O O O,aU<|zA O O O,Zt⟩ ?_;refine z8 2 (y2 23 11) (V4 4 9 10 11) ⟨aU<|Q6 1 O O bU O,mU 23 O O,Zt⟩ ?_;exact⟨⟨(i+1),bU⟩,rfl,(by simp only[];omega)⟩
 ·obtain rfl:i=x.length:=by omega
  refine W.exit (q9 2 (y2 24 4) (V1 4) ⟨mU 4 O O,aU<|zA O O O,Zt⟩ ?_);refine W.ret ?_;exact U4 (r:=.u64 (CV x x.length)) (bx':=[(0,.var (.agg [.sl none 1 (r.map D.u8)]))]) (nw:=[]) (by simp only[m0,hE];rfl) (u0 (.inr O) O (O) O Zt O O (O) ⟨O,Zt⟩ O)
theorem H7(b:List UInt8)(hb0:b.length<=100000):FnO Tryz.prog gl 139 [.ptr 0 0 []] [(0,.var (.agg [.sl none 1 (b.map D.u8)]))] ((U7 b).map fun q=>(.int ((q.1:Nat):Int),[(0,.var (.agg [b5 q.2]))],[])):=by
 refine FnO.of (n:=24) (ids:=[0]) Tryz.func139 rfl rfl rfl (nU rfl) fun C hC hD=>?_;refine q9 1 (y1 2) (V1 0) ⟨aU<|zK (kI 0 O) O O,Zt⟩ ?_;refine W.seq ?_
 rcases hE:m0 b 1 with _|⟨x,r⟩
 ·refine g8 (n:=3) dU (its:=[.y 4 _]) (ks:=[]) (kk:=[]) (live:=[0,4]) (env':=(V2 0 4)) (⟨nU O,O,⟨mU 0 O O,Zt⟩,O,O,O⟩) O (bx':=(p6 0)) O (n':=24) O (⟨O,.inr (R.callX [(0,0)] hC (g9 (c7 b bO 1 dU) (by rw[hE];rfl)) (EvB.cons (gV 4 O) O O O (EvB.cons (kI 1 O) O O O EvB.nil)) O ⟨O,Zt⟩ ⟨O,Zt⟩ O (fun e he=>?_))⟩);obtain⟨ch,rfl,hch⟩:=he;exact d6 (by rw[f8 hE];rfl) ⟨⟨ch,O,hch⟩,⟨⟨_,O,by first|rfl|simp[o0,m6,D.sz]⟩,Zt⟩⟩
 have hr:=K3 hE;have hx:=AV hE;refine u4 3 (y1 4) [] [] (V2 0 4) ⟨mU 0 O O,Zt⟩ O O (⟨O,_,R.callB [(0,0)] hC (v7 (r:=.u64 x) (bx':=[(0,.var (.agg [.sl none 1 (r.map D.u8)]))]) (nw:=[]) (c7 b bO 1 dU) (by rw[hE];rfl)) (EvB.cons (gV 4 O) O O O (EvB.cons (kI 1 O) O O O EvB.nil)) O ⟨O,Zt⟩ ⟨O,Zt⟩ O O O O O O (nU O),(P8 O O O (tV (V2 0 3) (p6 0) 24 O O O ?_))⟩);refine W.seq (q9 2 (y2 6 7) (V3 0 3 7) ⟨mU 3 O O,aU<|B6 O (kW (.int .u64 253) (.u64 253) O) O O,Zt⟩ ?_);refine W.cond O (fun hc7=>?_) (fun hc7=>?_)
 ·rcases hE2:m0 r (n2 x) with _|⟨y,r2⟩
  ·refine g8 (n:=6) dU (its:=[.y 8 _,.y 9 _,.y 10 _,.y 11 _]) (ks:=[]) (kk:=[]) (live:=[0,3,8,11]) (env':=(V4 0 3 8 11)) (⟨nU O,O,⟨mU 0 O O,mU 3 O O,aU<|B6 O (kW (.int .u64 253) (.u64 253) O) O O,aU fun _ _ H K=>c8 (d:=.int (((n2 x):Nat):Int)) (kI 2 O) (eU K 10 O) O bV (j72 (of_decide_eq_true hc7) hx) H,Zt⟩,O,O,O⟩) O (bx':=(p6 0)) O (n':=24) O (⟨O,.inr (R.callX [(0,0)] hC (g9 (c7 r bO (n2 x) (j71 x)) (by rw[hE2];rfl)) (EvB.cons (gV 8 O) O O O (EvB.cons (gV 11 O) O O O EvB.nil)) O ⟨O,Zt⟩ ⟨O,Zt⟩ O (fun e he=>?_))⟩);obtain⟨ch,rfl,hch⟩:=he;exact d6 (by rw[JX hE (of_decide_eq_true hc7) hE2];rfl) ⟨⟨ch,O,hch⟩,⟨⟨_,O,by first|rfl|simp[o0,m6,D.sz]⟩,Zt⟩⟩
  have hr2:=K3 hE2;refine u4 6 (y4 8 9 10 11) [] [] (V4 0 3 8 11) ⟨mU 0 O O,mU 3 O O,aU<|B6 O (kW (.int .u64 253) (.u64 253) O) O O,aU fun _ _ H K=>c8 (d:=.int (((n2 x):Nat):Int)) (kI 2 O) (eU K 10 O) O bV (j72 (of_decide_eq_true hc7) hx) H,Zt⟩ O O (⟨O,_,R.callB [(0,0)] hC (v7 (r:=.u64 y) (bx':=[(0,.var (.agg [.sl none 1 (r2.map D.u8)]))]) (nw:=[]) (c7 r bO (n2 x) (j71 x)) (by rw[hE2];rfl)) (EvB.cons (gV 8 O) O O O (EvB.cons (gV 11 O) O O O EvB.nil)) O ⟨O,Zt⟩ ⟨O,Zt⟩ O O O O O O (nU O),(P8 O O O (tV (V2 0 3) (p6 0) 24 O O O ?_))⟩);refine W.seq (q9 8 (y8 13 14 15 16 17 18 19 20) (V2 3 20) ⟨mU 3 O O,mU 0 O O,aU<|P7 O O,aU (fU 15 O O),aU (lU 16 O O O O O O O),aU<|zN O (lN _) O,aU<|zW O O O,aU<|zB O O O O,Zt⟩ ?_);refine W.cond O (fun hc20=>?_) (fun hc20=>?_)
  ·refine g8 (n:=2) dU (its:=[.y 21 _]) (ks:=[]) (kk:=[]) (live:=[3,21]) (env':=(V2 3 21)) (⟨nU O,O,⟨aU fun _ _ H _=>R.mkifc (kI 5 O) O O H,Zt⟩,O,O,O⟩) O (bx':=(p6 0)) O (n':=24) O (⟨O,.inr (R.panic (gU 21 O) (fun e he=>?_))⟩);obtain⟨ch,rfl,hch⟩:=he;exact d6 (by first|(rw[s4 hE (of_decide_eq_true hc7) hE2,if_pos (of_decide_eq_true hc20)];rfl)|(rw[O2 hE (of_decide_eq_false hc7),if_pos (of_decide_eq_true hc20)];rfl)) ⟨⟨ch,O,hch⟩,⟨⟨_,O,by first|rfl|simp[o0,m6,D.sz]⟩,Zt⟩⟩
  ·refine W.skip (q9 3 (y3 22 23 2) (V1 2) ⟨mU 3 O O,aU fun _ _ H K=>Q5 (d:=.int ((_:Nat):Int)) (eU K 22 O) O (PP (of_decide_eq_false hc20) bO) H,aU<|zA O O O,Zt⟩ ?_);refine W.ret ?_;exact U4 (r:=.int ((y.toNat:Nat):Int)) (bx':=[(0,.var (.agg [.sl none 1 (r2.map D.u8)]))]) (nw:=[]) (by rw[s4 hE (of_decide_eq_true hc7) hE2,if_neg (of_decide_eq_false hc20)];rfl) (u0 (.inr O) O (O) O Zt O O (O) ⟨O,Zt⟩ O)
 ·refine W.skip (W.seq (q9 8 (y8 13 14 15 16 17 18 19 20) (V2 3 20) ⟨mU 3 O O,mU 0 O O,aU<|P7 O O,aU (fU 15 O O),aU (lU 16 O O O O O O O),aU<|zN O (lN _) O,aU<|zW O O O,aU<|zB O O O O,Zt⟩ ?_));refine W.cond O (fun hc20=>?_) (fun hc20=>?_)
  ·refine g8 (n:=2) dU (its:=[.y 21 _]) (ks:=[]) (kk:=[]) (live:=[3,21]) (env':=(V2 3 21)) (⟨nU O,O,⟨aU fun _ _ H _=>R.mkifc (kI 5 O) O O H,Zt⟩,O,O,O⟩) O (bx':=(p6 0)) O (n':=24) O (⟨O,.inr (R.panic (gU 21 O) (fun e he=>?_))⟩);obtain⟨ch,rfl,hch⟩:=he;exact d6 (by first|(rw[s4 hE (of_decide_eq_true hc7) hE2,if_pos (of_decide_eq_true hc20)];rfl)|(rw[O2 hE (of_decide_eq_false hc7),if_pos (of_decide_eq_true hc20)];rfl)) ⟨⟨ch,O,hch⟩,⟨⟨_,O,by first|rfl|simp[o0,m6,D.sz]⟩,Zt⟩⟩
  ·refine W.skip (q9 3 (y3 22 23 2) (V1 2) ⟨mU 3 O O,aU fun _ _ H K=>Q5 (d:=.int ((_:Nat):Int)) (eU K 22 O) O (PP (of_decide_eq_false hc20) bO) H,aU<|zA O O O,Zt⟩ ?_);refine W.ret ?_;exact U4 (r:=.int ((x.toNat:Nat):Int)) (bx':=[(0,.var (.agg [.sl none 1 (r.map D.u8)]))]) (nw:=[]) (by rw[O2 hE (of_decide_eq_false hc7),if_neg (of_decide_eq_false hc20)];rfl) (u0 (.inr O) O (O) O Zt O O (O) ⟨O,Zt⟩ O)
theorem W1(b:List UInt8)(hb0:b.length<=100000):FnO Tryz.prog gl 140 [.ptr 0 0 []] [(0,.var (.agg [.sl none 1 (b.map D.u8)]))] ((J6 b).map fun q=>(.sl (some 5) 1 (q.1.map D.u8),[(0,.var (.agg [b5 q.2]))],[])):=by
 refine FnO.of (n:=8) (ids:=[0]) Tryz.func140 rfl rfl rfl (nU rfl) fun C hC hD=>?_;refine q9 1 (y1 2) (V1 0) ⟨aU<|zK (kN O) O O,Zt⟩ ?_;refine W.seq ?_
 rcases hE:U7 b with _|⟨n,r⟩
 ·refine g8 (n:=6) dU (its:=[.y 3 _,.y 4 _]) (ks:=[]) (kk:=[]) (live:=[4]) (env':=(V1 4)) (⟨nU O,O,⟨mU 0 O O,mU 0 O O,Zt⟩,O,O,O⟩) O (bx':=(p6 0)) O (n':=8) O (⟨O,.inr (R.callX [(0,0)] hC (g9 (H7 b bO) (by rw[hE];rfl)) (EvB.cons (gV 4 O) O O O EvB.nil) O ⟨O,Zt⟩ ⟨O,Zt⟩ O (fun e he=>?_))⟩);obtain⟨ch,rfl,hch⟩:=he;exact d6 (by simp only[J6,hE];rfl) ⟨⟨ch,O,hch⟩,⟨⟨_,O,by first|rfl|simp[o0,m6,D.sz]⟩,Zt⟩⟩
 have hr:=S7 hE hb0
 rcases hE2:K0 r n with _|⟨x,r2⟩
 ·refine g8 (n:=6) dU (its:=[.y 3 _,.y 4 _]) (ks:=[]) (kk:=[]) (live:=[3,4]) (env':=(V2 3 4)) (⟨nU O,O,⟨mU 0 O O,mU 0 O O,Zt⟩,O,O,O⟩) O (bx':=(p6 0)) O (n':=8) O (⟨O,.inl ⟨_,R.callB [(0,0)] hC (v7 (r:=.int ((n:Nat):Int)) (bx':=[(0,.var (.agg [.sl none 1 (r.map D.u8)]))]) (nw:=[]) (H7 b bO) (by rw[hE];rfl)) (EvB.cons (gV 4 O) O O O EvB.nil) O ⟨O,Zt⟩ ⟨O,Zt⟩ O O O O O O (nU O),⟨O,.inr (R.callX [(0,0)] hC (g9 (O9 r bO n bO) (by rw[hE2];rfl)) (EvB.cons (gV 3 O) O O O (EvB.cons (gV 5 O) O O O EvB.nil)) O ⟨O,Zt⟩ ⟨O,Zt⟩ O (fun e he=>?_))⟩⟩⟩);obtain⟨ch,rfl,hch⟩:=he;exact d6 (by simp only[J6,hE,Option.bind_some,hE2];rfl) ⟨⟨ch,O,hch⟩,⟨⟨_,O,by first|rfl|simp[o0,m6,D.sz]⟩,Zt⟩⟩
 have hx:=Q8 hE2;refine u4 6 (y2 3 4) [] [] (V2 3 4) ⟨mU 0 O O,mU 0 O O,Zt⟩ O O (⟨O,_,R.callB [(0,0)] hC (v7 (r:=.int ((n:Nat):Int)) (bx':=[(0,.var (.agg [.sl none 1 (r.map D.u8)]))]) (nw:=[]) (H7 b bO) (by rw[hE];rfl)) (EvB.cons (gV 4 O) O O O EvB.nil) O ⟨O,Zt⟩ ⟨O,Zt⟩ O O O O O O (nU O),⟨O,_,R.callB [(0,0)] hC (v7 (r:=.sl none 1 (x.map D.u8)) (bx':=[(0,.var (.agg [.sl none 1 (r2.map D.u8)]))]) (nw:=[]) (O9 r bO n bO) (by rw[hE2];rfl)) (EvB.cons (gV 3 O) O O O (EvB.cons (gV 5 O) O O O EvB.nil)) O ⟨O,Zt⟩ ⟨O,Zt⟩ O O O O O O (nU O),⟨O,_,R.appN (kN O) (SrcO.sc (SC.sl (gU 6 O)) (c6 (fun _=>rfl))) bU (nU O) dU,⟨O,_,R.asgO (gU 7 O) O (nU O) dU,tV (V1 2) (p6 0) 8 O O O ?_⟩⟩⟩⟩);refine W.ret ?_;exact U4 (r:=.sl (some 5) 1 (x.map D.u8)) (bx':=[(0,.var (.agg [.sl none 1 (r2.map D.u8)]))]) (nw:=[]) (by simp only[J6,hE,Option.bind_some,hE2];rfl) (u0 (.inr O) O (O) O Zt O O (O) ⟨O,Zt⟩ O)
end Go.Sx
